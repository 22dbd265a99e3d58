/- Contracts of the reference's Atom, Nums and Text. Conditions: the numbers read in memory. -/
import Derived.Test.YtollglblkbjgjaaHc
import Derived.Deep.RegionLaw
namespace Go.Proofs.Ytollglblkbjgjaa
open Go.RowKit

/-- an array without boxes: its shape, its cells -/
structure ArrD where
 shape : List Int
 cells : List (Int × Int)
def litText (xs : List Int) : ArrD := if xs.length = 1 then ⟨[], xs.map fun x => (1, x)⟩ else ⟨[(xs.length : Int)], xs.map fun x => (1, x)⟩
/-- cells without boxes, as they lie -/
def cel (c : Int × Int) : List Value := [.int .i64 c.1, .int .i64 c.2, .slice none 0 0]
def cels (cs : List (Int × Int)) : List Value := cs.flatMap cel
theorem cels_snoc (cs : List (Int × Int)) (c : Int × Int) : cels (cs ++ [c]) = cels cs ++ cel c := by simp [cels]
theorem cels_length (cs : List (Int × Int)) : (cels cs).length = cs.length * 3 := by
 induction cs with
 | nil => rfl
 | cons x r ih => simp only [cels, List.flatMap_cons, List.length_append, List.length_cons] at *; rw [ih]; simp [cel]; omega

/-- an array that reads in memory -/
def LitAt (S : Nat → Prop) (w : World) (v : Value) (t : ArrD) : Prop :=
 ∃ A n c B m d, v = .agg #[.slice A n c, .slice B m d] ∧ n = t.shape.length ∧ m = t.cells.length ∧ n ≤ 1000000 ∧ m ≤ 1000000 ∧ RowIn S w A (nums .i64 t.shape) ∧ RowIn S w B (cels t.cells)

theorem LitAt.mono {S T : Nat → Prop} {w w' : World} {v : Value} {t : ArrD} (h : LitAt S w v t) (hs : w.heap.size ≤ w'.heap.size) (hST : ∀ b, S b → b < w.heap.size → T b ∧ w'.heap[b]? = w.heap[b]?) : LitAt T w' v t := by
 obtain ⟨A, n, c, B, m, d, h1, h2, h3, h4, h5, h6, h7⟩ := h
 exact ⟨A, n, c, B, m, d, h1, h2, h3, h4, h5, h6.mono hs hST, h7.mono hs hST⟩
theorem LitAt.below {S : Nat → Prop} {w w' : World} {v : Value} {t : ArrD} (h : LitAt S w v t) (hb : Below w.heap.size w w') : LitAt S w' v t :=
 h.mono hb.size (fun b hS hlt => ⟨hS, hb.block b hlt⟩)
def LitTo (t : ArrD) (w : World) (e : Ending) (w' : World) : Prop := ∃ v, e = .returned v ∧ LitAt (w.heap.size ≤ ·) w' v t ∧ Below w.heap.size w w'

theorem atom_any (x : Int) (w : World) : Calls Try.prog 67 #[.int .i64 x] w (LitTo ⟨[], [(0, x)]⟩ w) := by
 go_enter Try.func67, Try.ntmps67
 go_wp2
 refine bodyPost_ret (v := .agg #[.slice none 0 0, .slice (some ⟨w.heap.size + 1, 0, none⟩) 1 1]) (by simp [results, Try.results67, go_sem]) rfl ?_
 refine ⟨_, rfl, ⟨_, _, _, _, _, _, rfl, rfl, rfl, by omega, by omega, fun h => absurd h (Nat.lt_irrefl 0), ?_⟩, ?_⟩
 ·have := rowIn_new (w.heap.size ≤ ·) (w.alloc (Obj.cells #[Value.slice none 0 0, Value.slice (some { block := w.heap.size + 1, off := 0 }) 1 1] 36)) (cel (0, x)) 74 (by simp)
  simpa [cels, cel] using this
 ·exact ((Below.refl _ _).alloc (Nat.le_refl _) _).alloc (by simp) _

theorem info74 : (Try.prog.info? 74).map (fun i => (i.zero, i.size, i.bytes)) = some (some (.agg #[.int .i64 0, .int .i64 0, .slice none 0 0]), 3, 40) := by kernel_rfl
theorem cel_one (c : Int × Int) : ∀ u ∈ cel c, u.oneCell' = true := by intro u hu; simp [cel] at hu; rcases hu with rfl | rfl | rfl <;> rfl

/-- the array that is being made: its result's block, its own, its shape's value, its cells so far -/
def Out (w : World) (B2 : Nat) (sh : Value) (cs : List (Int × Int)) (v : Value) (wr : World) : Prop :=
 Below w.heap.size w wr ∧ w.heap.size < B2 ∧ B2 < wr.heap.size ∧ wr.heap[B2]? = some (.cells #[sh, v] 36 (0, 0)) ∧ (∃ o : Value × Value, wr.heap[w.heap.size]? = some (.cells #[o.1, o.2] 36 (0, 0))) ∧ wr.ownsRow (B2 + 1) 74 3 v cs.length (cels cs)

theorem out_push {w wr W1 w1 : World} {B2 : Nat} {sh v : Value} {cs : List (Int × Int)} {c : Int × Int} {gg cap : Nat} (h : Out w B2 sh cs v wr) (hal : Below wr.heap.size wr W1) (hgrow : W1.grownBy w1 v.ownBlock)
  (hown : w1.ownsRow (B2 + 1) 74 3 (.slice (some ⟨gg, 0, none⟩) (cs.length + 1) cap) (cs.length + 1) (cels cs ++ cel c)) :
  Out w B2 sh (cs ++ [c]) (.slice (some ⟨gg, 0, none⟩) (cs.length + 1) cap) (w1.setCell ⟨B2, 1, none⟩ (.slice (some ⟨gg, 0, none⟩) (cs.length + 1) cap)) := by
 obtain ⟨hb, hRB, hlt, hout, ⟨o, hres⟩, ho⟩ := h
 have a1 : v.ownBlock ≠ some B2 := own_ne ho (by omega)
 have a2 : v.ownBlock ≠ some w.heap.size := own_ne ho (by omega)
 have b1 := blk_grown (blk_below hout hal hlt) hgrow a1
 have b2 := blk_grown (blk_below hres hal (by omega)) hgrow a2
 have hs := Nat.le_trans hal.size hgrow.size
 have hBl : Below w.heap.size w W1 := below_then hb hb.size hal
 refine ⟨(hBl.grown hgrow hBl.size (fun g hg => by have := (ho.lt g hg).1; omega)).setCell (p := ⟨B2, 1, none⟩) (by simp; omega) _, hRB, by simp [World.setCell]; omega, ?_, ⟨o, blk_far b2 (by simp; omega) _⟩, own_far (p := ⟨B2, 1, none⟩) ?_ (by simp) _⟩
 ·simpa using blk_set b1 1 (.slice (some ⟨gg, 0, none⟩) (cs.length + 1) cap)
 ·rw [List.length_append, cels_snoc]; exact hown

theorem out_lit {w wr : World} {B1 B2 : Nat} {cs : List (Int × Int)} {v : Value} {A : Option Addr} {n c : Nat} {sh : List Int} (h : Out w B2 (.slice A n c) cs v wr) (hn : n = sh.length) (hn6 : n ≤ 1000000) (hc6 : cs.length ≤ 1000000)
  (hsh : 0 < n → A = some ⟨B1, 0, none⟩ ∧ w.heap.size < B1 ∧ wr.heap[B1]? = some (.cells (nums .i64 sh).toArray 3 (0, 0))) :
  LitAt (w.heap.size ≤ ·) ((wr.setCell ⟨w.heap.size, 0, none⟩ (.slice A n c)).setCell ⟨w.heap.size, 1, none⟩ v) (.agg #[.slice A n c, v]) ⟨sh, cs⟩ ∧ Below w.heap.size w ((wr.setCell ⟨w.heap.size, 0, none⟩ (.slice A n c)).setCell ⟨w.heap.size, 1, none⟩ v) := by
 obtain ⟨hb, hRB, hlt, hout, ⟨o, hres⟩, ho⟩ := h
 refine ⟨?_, (hb.setCell (p := ⟨w.heap.size, 0, none⟩) (by simp) _).setCell (p := ⟨w.heap.size, 1, none⟩) (by simp) _⟩
 obtain ⟨vA, vc, rfl, hvc⟩ := own_slice ho
 have ho2 := own_far (p := ⟨w.heap.size, 1, none⟩) (own_far (p := ⟨w.heap.size, 0, none⟩) ho (by simp; omega) (.slice A n c)) (by simp; omega) (.slice vA cs.length vc)
 refine ⟨A, n, c, vA, _, vc, rfl, hn, rfl, hn6, hc6, ?_, (rowIn_own ho2).mono (Nat.le_refl _) (fun b (hS : B2 + 1 ≤ b) hb => ⟨Nat.le_trans (by omega) hS, rfl⟩)⟩
 intro hp
 rw [nums_length] at hp
 have hp' : 0 < sh.length := hp
 obtain ⟨rfl, h1, h2⟩ := hsh (by omega)
 have h3 := blk_far (p := ⟨w.heap.size, 1, none⟩) (blk_far (p := ⟨w.heap.size, 0, none⟩) h2 (by simp; omega) (.slice (some ⟨B1, 0, none⟩) n c)) (by simp; omega) (.slice vA cs.length vc)
 refine ⟨B1, rfl, by omega, blk_lt h3, fun i u hu => ?_⟩
 rw [blk_cell h3]
 simpa using hu


set_option maxRecDepth 100000 in
set_option maxHeartbeats 2000000 in
theorem rnums_any (A : Option Addr) (n c : Nat) (xs : List Int) (w : World) (hr : RowAt .i64 w A xs) (hl : xs.length = n) (hn : n ≤ 1000000) :
  Calls Try.prog 66 #[.slice A n c] w (LitTo ⟨[(n : Int)], xs.map fun x => (0, x)⟩ w) := by
 obtain ⟨i0, hi0, hz0, hz1, hz2⟩ := info_parts info74
 have HR := Lib.hid hr
 have HL := Lib.hid hl
 clear hr hl
 go_enter Try.func66, Try.ntmps66
 go_wp2
 have hO : Out w (w.heap.size + 1 + 1) (.slice (some ⟨w.heap.size + 1, 0, none⟩) 1 1) ((xs.take 0).map fun x => (0, x)) (.slice none 0 0) (((w.alloc (Obj.cells #[Value.slice none 0 0, Value.slice none 0 0] 36)).alloc (Obj.cells #[Value.int IntKind.i64 ↑n] 3)).alloc (Obj.cells #[Value.slice (some { block := w.heap.size + 1, off := 0 }) 1 1, Value.slice none 0 0] 36)) := by
  refine ⟨(((Below.refl _ _).alloc (Nat.le_refl _) _).alloc (by simp) _).alloc (by simp; omega) _, by omega, by simp, ?_, ⟨(.slice none 0 0, .slice none 0 0), blk_alloc (blk_alloc (blk_new w _) _) _⟩, ?_⟩
  ·simpa using blk_new ((w.alloc (Obj.cells #[Value.slice none 0 0, Value.slice none 0 0] 36)).alloc (Obj.cells #[Value.int IntKind.i64 ↑n] 3)) (Obj.cells #[Value.slice (some { block := w.heap.size + 1, off := 0 }) 1 1, Value.slice none 0 0] 36)
  ·simpa [cels] using World.ownsRow_nil _ _ _ _
 have hS : (((w.alloc (Obj.cells #[Value.slice none 0 0, Value.slice none 0 0] 36)).alloc (Obj.cells #[Value.int IntKind.i64 ↑n] 3)).alloc (Obj.cells #[Value.slice (some { block := w.heap.size + 1, off := 0 }) 1 1, Value.slice none 0 0] 36)).heap[w.heap.size + 1]? = some (.cells (nums .i64 [(n : Int)]).toArray 3 (0, 0)) := by
  have := blk_alloc (blk_new (w.alloc (Obj.cells #[Value.slice none 0 0, Value.slice none 0 0] 36)) (Obj.cells #[Value.int IntKind.i64 ↑n] 3)) (Obj.cells #[Value.slice (some { block := w.heap.size + 1, off := 0 }) 1 1, Value.slice none 0 0] 36)
  simpa [nums] using this
 generalize hB2 : w.heap.size + 1 + 1 = B2 at *
 generalize hB1 : w.heap.size + 1 = B1 at *
 have hle1 : w.heap.size < B1 := by omega
 have hle2 : B1 < B2 := by omega
 clear hB1 hB2
 have HO := Lib.hid hO
 have HS := Lib.hid hS
 clear hO hS
 go_loopw [4] (fun i wr => ∃ k : Nat, k ≤ n ∧ i = .int .i64 k ∧ wr.heap[B1]? = some (.cells (nums .i64 [(n : Int)]).toArray 3 (0, 0)) ∧ ∃ v, Out w B2 (.slice (some ⟨B1, 0, none⟩) 1 1) ((xs.take k).map fun x => (0, x)) v wr)
  (fun i _ => n - (intOf i).toNat)
 case atStart => exact ⟨0, Nat.zero_le _, rfl, HS.out, _, HO.out⟩
 case round =>
  obtain ⟨k, hk, rfl, hsh, v, hO⟩ := hrel
  have c0 := blk_cell hO.2.2.2.1 0
  have c1 := blk_cell hO.2.2.2.1 1
  have f1 := blk_frozen hO.2.2.2.1 1
  have HO := Lib.hid hO
  have HSH := Lib.hid hsh
  have hlen : ((xs.take k).map fun x => ((0 : Int), x)).length = k := by rw [List.length_map, List.length_take, HL.out]; omega
  have HLEN := Lib.hid hlen
  by_cases hlt : k < n
  ·obtain ⟨b, off, rfl, hcell⟩ := HR.out.2 (by rw [HL.out]; omega)
   obtain ⟨x, hx⟩ : ∃ x, xs.getD k 0 = x := ⟨_, rfl⟩
   have cz : wr.cell? ⟨b, off + k, none⟩ = some (.int .i64 x) := by rw [← hx]; exact cell_below hO.1 (hcell k (by rw [HL.out]; exact hlt))
   have htk := Lib.hid (show (xs.take (k + 1)).map (fun x => ((0 : Int), x)) = (xs.take k).map (fun x => ((0 : Int), x)) ++ [(0, x)] by
    rw [List.take_succ_eq_append_getElem (by rw [HL.out]; exact hlt), List.map_append]
    congr
    rw [← hx, List.getD_eq_getElem?_getD, List.getElem?_eq_getElem (by rw [HL.out]; exact hlt)]
    rfl)
   generalize hcs : (xs.take k).map (fun x => ((0 : Int), x)) = cs at *
   have HCS := Lib.hid hcs
   clear hcell hx hO hsh hlen hcs
   have hsz := HO.out.2.2.1
   have ag : v.ownBlock ≠ some B2 := own_ne HO.out.2.2.2.2.2 (by omega)
   have aw : v.ownBlock ≠ some B1 := own_ne HO.out.2.2.2.2.2 (by omega)
   have hown : wr.ownsRow (B2 + 1) 74 3 v k (cels cs) := by have := HO.out.2.2.2.2.2; rw [HLEN.out] at this; exact this
   have HOWN := Lib.hid hown
   clear hown
   go_wp2
   go_region_law
    ((refine step_append_lies _ (by rfl) _ _ _ (by rfl) (B2 + 1) 74 i0 _ 3 40 Try.underlying34 hi0 hz0 hz1 hz2 rfl (by omega) v k (cels cs) (by rfl) ((HOWN.out.alloc _).drew)
        ⟨wr.heap.size, 0, none⟩ 1 1 (cel (0, x)) (by rfl) (by rfl) (World.news_of_block (cs := (cel (0, x)).toArray) (t := 74) (fr := (0, 0)) (heap_alloc_new wr _)) (cel_one _)
        (by omega) (by unfold maxLen; omega) (by omega) (by simp; omega) (wr.heap.size + 1) (by simp) ?_; intro gg cap w1 hown1 hgrow hat hlt1; have hb1 := blk_grown (blk_drew (blk_alloc HO.out.2.2.2.1 (Obj.cells (cel (0, x)).toArray 74))) hgrow ag; have d1 := blk_cell hb1 1; have d2 := blk_frozen hb1 1; have hsh1 := blk_grown (blk_drew (blk_alloc HSH.out (Obj.cells (cel (0, x)).toArray 74))) hgrow aw; have HSH1 := Lib.hid hsh1; clear hb1 hsh1))
   all_goals
    have hp := out_push (c := (0, x)) HO.out ((Below.refl _ wr).alloc (Nat.le_refl _) (Obj.cells (cel (0, x)).toArray 74)).drew hgrow (by rw [HLEN.out]; exact hown1)
    rw [HLEN.out] at hp
    have HPP := Lib.hid hp
    clear hp hown1 hgrow hat hlt1
    go_wp2
    go_roundw
    case rel => exact ⟨k + 1, by omega, by go_num, blk_far HSH1.out (by simp; omega) _, _, by rw [htk.out]; exact HPP.out⟩
    case measure => simp [intOf]; omega
  ·obtain rfl : k = n := by omega
   have htk : xs.take k = xs := List.take_of_length_le (by rw [HL.out]; exact Nat.le_refl _)
   rw [htk] at hO hlen
   obtain ⟨vA, vc, rfl, hvc⟩ := own_slice hO.2.2.2.2.2
   rw [hlen] at hO c1 HO
   obtain ⟨⟨o0, o1⟩, hres⟩ := hO.2.2.2.2.1
   have r0 := blk_cell hres 0
   have r1 := blk_cell hres 1
   have rf := blk_frozen hres 0
   have rf1 := blk_frozen hres 1
   have HRES := Lib.hid hres
   have hlit := out_lit (B1 := B1) (sh := [(k : Int)]) hO rfl (by omega) (by rw [hlen]; exact hn) (fun _ => ⟨rfl, hle1, hsh⟩)
   have HLIT := Lib.hid hlit
   clear hO hres hlit hsh HO hlen htk
   go_wp2
   refine bodyPost_ret (v := .agg #[.slice (some ⟨B1, 0, none⟩) 1 1, .slice vA k vc]) ?_ rfl ?_
   ·have hr := blk_set (blk_set HRES.out 0 (.slice (some ⟨B1, 0, none⟩) 1 1)) 1 (.slice vA k vc)
    have q0 := blk_cell hr 0
    have q1 := blk_cell hr 1
    simp [results, Try.results66, go_sem, q0, q1]
   ·exact ⟨_, rfl, HLIT.out.1, HLIT.out.2⟩

theorem out_shape {w wr : World} {B2 : Nat} {sh v : Value} {cs : List (Int × Int)} (h : Out w B2 sh cs v wr) (o : Obj) (sh' : Value) : Out w B2 sh' cs v ((wr.setCell ⟨B2, 0, none⟩ sh').alloc o) := by
 obtain ⟨hb, hRB, hlt, hout, ⟨p, hres⟩, ho⟩ := h
 exact ⟨(hb.setCell (p := ⟨B2, 0, none⟩) (by simp; omega) _).alloc (by have := hb.size; simpa [World.setCell] using this) _, hRB, by simp [World.setCell]; omega, by simpa using blk_alloc (blk_set hout 0 sh') o, ⟨p, blk_alloc (blk_far hres (by simp; omega) _) _⟩, (own_far (p := ⟨B2, 0, none⟩) ho (by simp) _).alloc o⟩

set_option maxRecDepth 100000 in
set_option maxHeartbeats 4000000 in
theorem rtext_any (A : Option Addr) (n c : Nat) (xs : List Int) (w : World) (hr : RowAt .i64 w A xs) (hl : xs.length = n) (hn : n ≤ 1000000) :
  Calls Try.prog 68 #[.slice A n c] w (LitTo (litText xs) w) := by
 obtain ⟨i0, hi0, hz0, hz1, hz2⟩ := info_parts info74
 have HR := Lib.hid hr
 have HL := Lib.hid hl
 clear hr hl
 go_enter Try.func68, Try.ntmps68
 go_wp2
 have hO : Out w (w.heap.size + 1) (.slice none 0 0) ((xs.take 0).map fun x => (1, x)) (.slice none 0 0) ((w.alloc (Obj.cells #[Value.slice none 0 0, Value.slice none 0 0] 36)).alloc (Obj.cells #[Value.slice none 0 0, Value.slice none 0 0] 36)) := by
  refine ⟨((Below.refl _ _).alloc (Nat.le_refl _) _).alloc (by simp) _, by omega, by simp, ?_, ⟨(.slice none 0 0, .slice none 0 0), blk_alloc (blk_new w _) _⟩, ?_⟩
  ·simpa using blk_new (w.alloc (Obj.cells #[Value.slice none 0 0, Value.slice none 0 0] 36)) (Obj.cells #[Value.slice none 0 0, Value.slice none 0 0] 36)
  ·simpa [cels] using World.ownsRow_nil _ _ _ _
 generalize hB2 : w.heap.size + 1 = B2 at *
 have hle2 : w.heap.size < B2 := by omega
 clear hB2
 have HO := Lib.hid hO
 clear hO
 go_loopw [4] (fun i wr => ∃ k : Nat, k ≤ n ∧ i = .int .i64 k ∧ ∃ v, Out w B2 (.slice none 0 0) ((xs.take k).map fun x => (1, x)) v wr)
  (fun i _ => n - (intOf i).toNat)
 case atStart => exact ⟨0, Nat.zero_le _, rfl, _, HO.out⟩
 case round =>
  obtain ⟨k, hk, rfl, v, hO⟩ := hrel
  have c0 := blk_cell hO.2.2.2.1 0
  have c1 := blk_cell hO.2.2.2.1 1
  have f1 := blk_frozen hO.2.2.2.1 1
  have f0 := blk_frozen hO.2.2.2.1 0
  have HO := Lib.hid hO
  have hlen : ((xs.take k).map fun x => ((1 : Int), x)).length = k := by rw [List.length_map, List.length_take, HL.out]; omega
  have HLEN := Lib.hid hlen
  by_cases hlt : k < n
  ·obtain ⟨b, off, rfl, hcell⟩ := HR.out.2 (by rw [HL.out]; omega)
   obtain ⟨x, hx⟩ : ∃ x, xs.getD k 0 = x := ⟨_, rfl⟩
   have cz : wr.cell? ⟨b, off + k, none⟩ = some (.int .i64 x) := by rw [← hx]; exact cell_below hO.1 (hcell k (by rw [HL.out]; exact hlt))
   have htk := Lib.hid (show (xs.take (k + 1)).map (fun x => ((1 : Int), x)) = (xs.take k).map (fun x => ((1 : Int), x)) ++ [(1, x)] by
    rw [List.take_succ_eq_append_getElem (by rw [HL.out]; exact hlt), List.map_append]
    congr
    rw [← hx, List.getD_eq_getElem?_getD, List.getElem?_eq_getElem (by rw [HL.out]; exact hlt)]
    rfl)
   generalize hcs : (xs.take k).map (fun x => ((1 : Int), x)) = cs at *
   have HCS := Lib.hid hcs
   clear hcell hx hO hlen hcs
   have hsz := HO.out.2.2.1
   have ag : v.ownBlock ≠ some B2 := own_ne HO.out.2.2.2.2.2 (by omega)
   have hown : wr.ownsRow (B2 + 1) 74 3 v k (cels cs) := by have := HO.out.2.2.2.2.2; rw [HLEN.out] at this; exact this
   have HOWN := Lib.hid hown
   clear hown
   go_wp2
   go_region_law
    ((refine step_append_lies _ (by rfl) _ _ _ (by rfl) (B2 + 1) 74 i0 _ 3 40 Try.underlying34 hi0 hz0 hz1 hz2 rfl (by omega) v k (cels cs) (by rfl) ((HOWN.out.alloc _).drew)
        ⟨wr.heap.size, 0, none⟩ 1 1 (cel (1, x)) (by rfl) (by rfl) (World.news_of_block (cs := (cel (1, x)).toArray) (t := 74) (fr := (0, 0)) (heap_alloc_new wr _)) (cel_one _)
        (by omega) (by unfold maxLen; omega) (by omega) (by simp; omega) (wr.heap.size + 1) (by simp) ?_; intro gg cap w1 hown1 hgrow hat hlt1; have hb1 := blk_grown (blk_drew (blk_alloc HO.out.2.2.2.1 (Obj.cells (cel (1, x)).toArray 74))) hgrow ag; have d1 := blk_cell hb1 1; have d2 := blk_frozen hb1 1; clear hb1))
   all_goals
    have hp := out_push (c := (1, x)) HO.out ((Below.refl _ wr).alloc (Nat.le_refl _) (Obj.cells (cel (1, x)).toArray 74)).drew hgrow (by rw [HLEN.out]; exact hown1)
    rw [HLEN.out] at hp
    have HPP := Lib.hid hp
    clear hp hown1 hgrow hat hlt1
    go_wp2
    go_roundw
    case rel => exact ⟨k + 1, by omega, by go_num, _, by rw [htk.out]; exact HPP.out⟩
    case measure => simp [intOf]; omega
  ·obtain rfl : k = n := by omega
   have htk : xs.take k = xs := List.take_of_length_le (by rw [HL.out]; exact Nat.le_refl _)
   rw [htk] at hO hlen
   obtain ⟨vA, vc, rfl, hvc⟩ := own_slice hO.2.2.2.2.2
   rw [hlen] at hO c1 HO
   by_cases h1 : k = 1
   ·have hb1 : ((k : Int) == 1) = true := beq_iff_eq.2 (by omega)
    have hlt1 : litText xs = ⟨[], xs.map fun x => (1, x)⟩ := by unfold litText; rw [if_pos (HL.out.trans h1)]
    obtain ⟨⟨o0, o1⟩, hres⟩ := hO.2.2.2.2.1
    have r0 := blk_cell hres 0
    have r1 := blk_cell hres 1
    have rf := blk_frozen hres 0
    have rf1 := blk_frozen hres 1
    have HRES := Lib.hid hres
    have hlit := out_lit (B1 := 0) (sh := []) hO rfl (by omega) (by rw [hlen]; exact hn) (fun h => absurd h (Nat.lt_irrefl 0))
    rw [← hlt1] at hlit
    have HLIT := Lib.hid hlit
    clear hO hres hlit HO hlen htk h1 hlt1
    go_wp2
    refine bodyPost_ret (v := .agg #[.slice none 0 0, .slice vA k vc]) ?_ rfl ?_
    ·have hr := blk_set (blk_set HRES.out 0 (.slice none 0 0)) 1 (.slice vA k vc)
     have q0 := blk_cell hr 0
     have q1 := blk_cell hr 1
     simp [results, Try.results68, go_sem, q0, q1]
    ·exact ⟨_, rfl, HLIT.out.1, HLIT.out.2⟩
   ·have hb1 : ((k : Int) == 1) = false := beq_eq_false_iff_ne.2 (by omega)
    have hlt1 : litText xs = ⟨[(k : Int)], xs.map fun x => (1, x)⟩ := by unfold litText; rw [if_neg (by rw [HL.out]; exact h1), HL.out]
    have hO2 := out_shape hO (Obj.cells #[Value.int .i64 (k : Int)] 3) (.slice (some ⟨wr.heap.size, 0, none⟩) 1 1)
    obtain ⟨⟨o0, o1⟩, hres⟩ := hO2.2.2.2.2.1
    have z0 := blk_cell hO2.2.2.2.1 0
    have z1 := blk_cell hO2.2.2.2.1 1
    have r0 := blk_cell hres 0
    have r1 := blk_cell hres 1
    have rf := blk_frozen hres 0
    have rf1 := blk_frozen hres 1
    have HRES := Lib.hid hres
    have hB1 := hO.2.2.1
    have hnew : ((wr.setCell ⟨B2, 0, none⟩ (.slice (some ⟨wr.heap.size, 0, none⟩) 1 1)).alloc (Obj.cells #[Value.int .i64 (k : Int)] 3)).heap[wr.heap.size]? = some (.cells (nums .i64 [(k : Int)]).toArray 3 (0, 0)) := by
     have := blk_new (wr.setCell ⟨B2, 0, none⟩ (.slice (some ⟨wr.heap.size, 0, none⟩) 1 1)) (Obj.cells #[Value.int .i64 (k : Int)] 3)
     rw [show (wr.setCell ⟨B2, 0, none⟩ (.slice (some ⟨wr.heap.size, 0, none⟩) 1 1)).heap.size = wr.heap.size by simp [World.setCell]] at this
     simpa [nums] using this
    have hlit := out_lit (B1 := wr.heap.size) (sh := [(k : Int)]) hO2 rfl (by omega) (by rw [hlen]; exact hn) (fun _ => ⟨rfl, by omega, hnew⟩)
    rw [← hlt1] at hlit
    have HLIT := Lib.hid hlit
    clear hO hres hlit HO hlen htk h1 hlt1 hO2 hnew
    go_wp2
    refine bodyPost_ret (v := .agg #[.slice (some ⟨wr.heap.size, 0, none⟩) 1 1, .slice vA k vc]) ?_ rfl ?_
    ·have hr := blk_set (blk_set HRES.out 0 (.slice (some ⟨wr.heap.size, 0, none⟩) 1 1)) 1 (.slice vA k vc)
     have q0 := blk_cell hr 0
     have q1 := blk_cell hr 1
     simp [results, Try.results68, go_sem, q0, q1]
    ·exact ⟨_, rfl, HLIT.out.1, HLIT.out.2⟩
end Go.Proofs.Ytollglblkbjgjaa
