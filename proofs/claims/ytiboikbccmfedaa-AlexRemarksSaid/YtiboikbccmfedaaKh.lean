/- Arrays of numbers or of signs as they lie in memory; contracts of Atom, Nums and Text. Conditions: the numbers read in memory. -/
import Derived.Test.YtiboikbccmfedaaAd
namespace Go.Proofs.Ytiboikbccmfedaa
open Go.RowKit

/-- cells without boxes, as they lie -/
def cel (c : Int × Int) : List Value := [.int .i64 c.1, .int .i64 c.2, .slice none 0 0]
def cels (cs : List (Int × Int)) : List Value := cs.flatMap cel
theorem cels_snoc (cs : List (Int × Int)) (c : Int × Int) : cels (cs ++ [c]) = cels cs ++ cel c := by simp [cels]
theorem cels_length (cs : List (Int × Int)) : (cels cs).length = cs.length * 3 := by
  induction cs with
  | nil => rfl
  | cons x r ih => simp only [cels, List.flatMap_cons, List.length_append, List.length_cons] at *; rw [ih]; simp [cel]; omega

/-- a row that reads in memory, in a block of a kind -/
def RowIn (S : Nat → Prop) (w : World) (A : Option Addr) (vs : List Value) : Prop :=
  0 < vs.length → ∃ b, A = some ⟨b, 0, none⟩ ∧ S b ∧ b < w.heap.size ∧ ∀ i u, vs[i]? = some u → w.cell? ⟨b, i, none⟩ = some u
/-- an array that reads in memory -/
def LitAt (S : Nat → Prop) (w : World) (v : Value) (t : Kx.Lit) : Prop :=
  ∃ A n c B m d, v = .agg #[.slice A n c, .slice B m d] ∧ n = t.shape.length ∧ m = t.cells.length ∧ n ≤ 1000000 ∧ m ≤ 1000000 ∧ RowIn S w A (nums .i64 t.shape) ∧ RowIn S w B (cels t.cells)

theorem cell_of_heap {w w' : World} {b : Nat} (h : w'.heap[b]? = w.heap[b]?) (i : Nat) : w'.cell? ⟨b, i, none⟩ = w.cell? ⟨b, i, none⟩ := by simp [World.cell?, h]
theorem RowIn.mono {S T : Nat → Prop} {w w' : World} {A : Option Addr} {vs : List Value} (h : RowIn S w A vs) (hs : w.heap.size ≤ w'.heap.size) (hST : ∀ b, S b → b < w.heap.size → T b ∧ w'.heap[b]? = w.heap[b]?) : RowIn T w' A vs := by
  intro hp
  obtain ⟨b, e, hS, hb, hc⟩ := h hp
  obtain ⟨hT, hh⟩ := hST b hS hb
  exact ⟨b, e, hT, by omega, fun i u hu => (cell_of_heap hh i).trans (hc i u hu)⟩
theorem LitAt.mono {S T : Nat → Prop} {w w' : World} {v : Value} {t : Kx.Lit} (h : LitAt S w v t) (hs : w.heap.size ≤ w'.heap.size) (hST : ∀ b, S b → b < w.heap.size → T b ∧ w'.heap[b]? = w.heap[b]?) : LitAt T w' v t := by
  obtain ⟨A, n, c, B, m, d, h1, h2, h3, h4, h5, h6, h7⟩ := h
  exact ⟨A, n, c, B, m, d, h1, h2, h3, h4, h5, h6.mono hs hST, h7.mono hs hST⟩
theorem LitAt.below {S : Nat → Prop} {w w' : World} {v : Value} {t : Kx.Lit} (h : LitAt S w v t) (hb : Below w.heap.size w w') : LitAt S w' v t :=
  h.mono hb.size (fun b hS hlt => ⟨hS, hb.block b hlt⟩)
theorem rowIn_own {w : World} {base n size : Nat} {e : TypeId} {A : Option Addr} {c : Nat} {vs : List Value} (h : w.ownsRow base e size (.slice A n c) n vs) : RowIn (base ≤ ·) w A vs := by
  intro hp
  have hn : 0 < n := by
    rcases Nat.eq_zero_or_pos n with h0 | h0
    · have := h.1; rw [h0, Nat.zero_mul] at this; omega
    · exact h0
  obtain ⟨g, cap, hv, hb, hlt⟩ := h.form hn
  cases hv
  refine ⟨g, rfl, hb, hlt, fun i u hu => ?_⟩
  have hi := (List.getElem?_eq_some_iff.1 hu).1
  rw [h.cellAt i (by rw [← h.1]; exact hi)]
  exact hu
theorem rowIn_new (S : Nat → Prop) (w : World) (vs : List Value) (t : TypeId) (hS : S w.heap.size) : RowIn S (w.alloc (.cells vs.toArray t)) (some ⟨w.heap.size, 0, none⟩) vs := by
  intro _
  refine ⟨w.heap.size, rfl, hS, by simp, fun i u hu => ?_⟩
  rw [blk_cell (blk_new w _)]
  simpa using hu

def LitTo (t : Kx.Lit) (w : World) (e : Ending) (w' : World) : Prop := ∃ v, e = .returned v ∧ LitAt (w.heap.size ≤ ·) w' v t ∧ Below w.heap.size w w'

theorem atom_any (x : Int) (w : World) : Calls Try.prog 37 #[.int .i64 x] w (LitTo ⟨[], [(0, x)]⟩ w) := by
  go_enter Try.func37, Try.ntmps37
  go_wp2
  refine bodyPost_ret (v := .agg #[.slice none 0 0, .slice (some ⟨w.heap.size + 1, 0, none⟩) 1 1]) (by simp [results, Try.results37, go_sem]) rfl ?_
  refine ⟨_, rfl, ⟨_, _, _, _, _, _, rfl, rfl, rfl, by omega, by omega, fun h => absurd h (Nat.lt_irrefl 0), ?_⟩, ?_⟩
  · have := rowIn_new (w.heap.size ≤ ·) (w.alloc (Obj.cells #[Value.slice none 0 0, Value.slice (some { block := w.heap.size + 1, off := 0 }) 1 1] 32)) (cel (0, x)) 53 (by simp)
    simpa [cels, cel] using this
  · exact ((Below.refl _ _).alloc (Nat.le_refl _) _).alloc (by simp) _

theorem info42 : (Try.prog.info? 53).map (fun i => (i.zero, i.size, i.bytes)) = some (some (.agg #[.int .i64 0, .int .i64 0, .slice none 0 0]), 3, 40) := by kernel_rfl
theorem cel_one (c : Int × Int) : ∀ u ∈ cel c, u.oneCell' = true := by intro u hu; simp [cel] at hu; rcases hu with rfl | rfl | rfl <;> rfl

/-- the array that is being made: its result's block, its own, its shape's value, its cells so far -/
def Out (w : World) (B2 : Nat) (sh : Value) (cs : List (Int × Int)) (v : Value) (wr : World) : Prop :=
  Below w.heap.size w wr ∧ w.heap.size < B2 ∧ B2 < wr.heap.size ∧ wr.heap[B2]? = some (.cells #[sh, v] 32 (0, 0)) ∧ (∃ o : Value × Value, wr.heap[w.heap.size]? = some (.cells #[o.1, o.2] 32 (0, 0))) ∧ wr.ownsRow (B2 + 1) 53 3 v cs.length (cels cs)

theorem out_push {w wr W1 w1 : World} {B2 : Nat} {sh v : Value} {cs : List (Int × Int)} {c : Int × Int} {gg cap : Nat} (h : Out w B2 sh cs v wr) (hal : Below wr.heap.size wr W1) (hgrow : W1.grownBy w1 v.ownBlock)
    (hown : w1.ownsRow (B2 + 1) 53 3 (.slice (some ⟨gg, 0, none⟩) (cs.length + 1) cap) (cs.length + 1) (cels cs ++ cel c)) :
    Out w B2 sh (cs ++ [c]) (.slice (some ⟨gg, 0, none⟩) (cs.length + 1) cap) (w1.setCell ⟨B2, 1, none⟩ (.slice (some ⟨gg, 0, none⟩) (cs.length + 1) cap)) := by
  obtain ⟨hb, hRB, hlt, hout, ⟨o, hres⟩, ho⟩ := h
  have a1 : v.ownBlock ≠ some B2 := own_ne ho (by omega)
  have a2 : v.ownBlock ≠ some w.heap.size := own_ne ho (by omega)
  have b1 := blk_grown (blk_below hout hal hlt) hgrow a1
  have b2 := blk_grown (blk_below hres hal (by omega)) hgrow a2
  have hs := Nat.le_trans hal.size hgrow.size
  have hBl : Below w.heap.size w W1 := below_then hb hb.size hal
  refine ⟨(hBl.grown hgrow hBl.size (fun g hg => by have := (ho.lt g hg).1; omega)).setCell (p := ⟨B2, 1, none⟩) (by simp; omega) _, hRB, by simp [World.setCell]; omega, ?_, ⟨o, blk_far b2 (by simp; omega) _⟩, own_far (p := ⟨B2, 1, none⟩) ?_ (by simp) _⟩
  · simpa using blk_set b1 1 (.slice (some ⟨gg, 0, none⟩) (cs.length + 1) cap)
  · rw [List.length_append, cels_snoc]; exact hown

theorem out_lit {w wr : World} {B1 B2 : Nat} {cs : List (Int × Int)} {v : Value} {A : Option Addr} {n c : Nat} {sh : List Int} (h : Out w B2 (.slice A n c) cs v wr) (hn : n = sh.length) (hn6 : n ≤ 1000000) (hc6 : cs.length ≤ 1000000)
    (hsh : 0 < n → A = some ⟨B1, 0, none⟩ ∧ w.heap.size < B1 ∧ wr.heap[B1]? = some (.cells (nums .i64 sh).toArray 3 (0, 0))) :
    LitAt (w.heap.size ≤ ·) ((wr.setCell ⟨w.heap.size, 0, none⟩ (.slice A n c)).setCell ⟨w.heap.size, 1, none⟩ v) (.agg #[.slice A n c, v]) ⟨sh, cs⟩ ∧ Below w.heap.size w ((wr.setCell ⟨w.heap.size, 0, none⟩ (.slice A n c)).setCell ⟨w.heap.size, 1, none⟩ v) := by
  obtain ⟨hb, hRB, hlt, hout, ⟨o, hres⟩, ho⟩ := h
  refine ⟨?_, (hb.setCell (p := ⟨w.heap.size, 0, none⟩) (by simp) _).setCell (p := ⟨w.heap.size, 1, none⟩) (by simp) _⟩
  obtain ⟨vA, vc, rfl, hvc⟩ := own_slice ho
  have ho2 := own_far (p := ⟨w.heap.size, 1, none⟩) (own_far (p := ⟨w.heap.size, 0, none⟩) ho (by simp; omega) (.slice A n c)) (by simp; omega) (.slice vA cs.length vc)
  refine ⟨A, n, c, vA, _, vc, rfl, hn, rfl, hn6, hc6, ?_, (rowIn_own ho2).mono (Nat.le_refl _) (fun b (hS : B2 + 1 ≤ b) hb => ⟨Nat.le_trans (by omega) hS, rfl⟩)⟩
  intro hp
  rw [nums_length] at hp
  have hp' : 0 < sh.length := hp
  obtain ⟨rfl, h1, h2⟩ := hsh (by omega)
  have h3 := blk_far (p := ⟨w.heap.size, 1, none⟩) (blk_far (p := ⟨w.heap.size, 0, none⟩) h2 (by simp; omega) (.slice (some ⟨B1, 0, none⟩) n c)) (by simp; omega) (.slice vA cs.length vc)
  refine ⟨B1, rfl, by omega, blk_lt h3, fun i u hu => ?_⟩
  rw [blk_cell h3]
  simpa using hu

set_option maxRecDepth 100000 in
set_option maxHeartbeats 2000000 in
theorem nums_any (A : Option Addr) (n c : Nat) (xs : List Int) (w : World) (hr : RowAt .i64 w A xs) (hl : xs.length = n) (hn : n ≤ 1000000) :
    Calls Try.prog 36 #[.slice A n c] w (LitTo ⟨[(n : Int)], xs.map fun x => (0, x)⟩ w) := by
  obtain ⟨i0, hi0, hz0, hz1, hz2⟩ := info_parts info42
  have HR := Lib.hid hr
  have HL := Lib.hid hl
  clear hr hl
  go_enter Try.func36, Try.ntmps36
  go_wp2
  have hO : Out w (w.heap.size + 1 + 1) (.slice (some ⟨w.heap.size + 1, 0, none⟩) 1 1) ((xs.take 0).map fun x => (0, x)) (.slice none 0 0) (((w.alloc (Obj.cells #[Value.slice none 0 0, Value.slice none 0 0] 32)).alloc (Obj.cells #[Value.int IntKind.i64 ↑n] 3)).alloc (Obj.cells #[Value.slice (some { block := w.heap.size + 1, off := 0 }) 1 1, Value.slice none 0 0] 32)) := by
    refine ⟨(((Below.refl _ _).alloc (Nat.le_refl _) _).alloc (by simp) _).alloc (by simp; omega) _, by omega, by simp, ?_, ⟨(.slice none 0 0, .slice none 0 0), blk_alloc (blk_alloc (blk_new w _) _) _⟩, ?_⟩
    · simpa using blk_new ((w.alloc (Obj.cells #[Value.slice none 0 0, Value.slice none 0 0] 32)).alloc (Obj.cells #[Value.int IntKind.i64 ↑n] 3)) (Obj.cells #[Value.slice (some { block := w.heap.size + 1, off := 0 }) 1 1, Value.slice none 0 0] 32)
    · simpa [cels] using World.ownsRow_nil _ _ _ _
  have hS : (((w.alloc (Obj.cells #[Value.slice none 0 0, Value.slice none 0 0] 32)).alloc (Obj.cells #[Value.int IntKind.i64 ↑n] 3)).alloc (Obj.cells #[Value.slice (some { block := w.heap.size + 1, off := 0 }) 1 1, Value.slice none 0 0] 32)).heap[w.heap.size + 1]? = some (.cells (nums .i64 [(n : Int)]).toArray 3 (0, 0)) := by
    have := blk_alloc (blk_new (w.alloc (Obj.cells #[Value.slice none 0 0, Value.slice none 0 0] 32)) (Obj.cells #[Value.int IntKind.i64 ↑n] 3)) (Obj.cells #[Value.slice (some { block := w.heap.size + 1, off := 0 }) 1 1, Value.slice none 0 0] 32)
    simpa [nums] using this
  generalize hB2 : w.heap.size + 1 + 1 = B2 at *
  generalize hB1 : w.heap.size + 1 = B1 at *
  have hle1 : w.heap.size < B1 := by omega
  have hle2 : B1 < B2 := by omega
  clear hB1 hB2
  have HO := Lib.hid hO
  have HS := Lib.hid hS
  clear hO hS
  go_loopw [12] (fun i wr => ∃ k : Nat, k ≤ n ∧ i = .int .i64 k ∧ wr.heap[B1]? = some (.cells (nums .i64 [(n : Int)]).toArray 3 (0, 0)) ∧ ∃ v, Out w B2 (.slice (some ⟨B1, 0, none⟩) 1 1) ((xs.take k).map fun x => (0, x)) v wr)
    (fun i _ => n - (intOf i).toNat)
  case atStart => exact ⟨0, Nat.zero_le _, rfl, HS.out, _, HO.out⟩
  case round =>
    obtain ⟨k, hk, rfl, hsh, v, hO⟩ := hrel
    have c0 := blk_cell hO.2.2.2.1 0
    have c1 := blk_cell hO.2.2.2.1 1
    have f1 := blk_frozen hO.2.2.2.1 1
    have HO := Lib.hid hO
    have HSH := Lib.hid hsh
    have hlen : ((xs.take k).map fun x => ((0 : Int), x)).length = k := by rw [List.length_map, List.length_take, HL.out]; omega
    have HLEN := Lib.hid hlen
    by_cases hlt : k < n
    · obtain ⟨b, off, rfl, hcell⟩ := HR.out.2 (by rw [HL.out]; omega)
      obtain ⟨x, hx⟩ : ∃ x, xs.getD k 0 = x := ⟨_, rfl⟩
      have cz : wr.cell? ⟨b, off + k, none⟩ = some (.int .i64 x) := by rw [← hx]; exact cell_below hO.1 (hcell k (by rw [HL.out]; exact hlt))
      have htk := Lib.hid (show (xs.take (k + 1)).map (fun x => ((0 : Int), x)) = (xs.take k).map (fun x => ((0 : Int), x)) ++ [(0, x)] by
        rw [List.take_succ_eq_append_getElem (by rw [HL.out]; exact hlt), List.map_append]
        congr
        rw [← hx, List.getD_eq_getElem?_getD, List.getElem?_eq_getElem (by rw [HL.out]; exact hlt)]
        rfl)
      generalize hcs : (xs.take k).map (fun x => ((0 : Int), x)) = cs at *
      have HCS := Lib.hid hcs
      clear hcell hx hO hsh hlen hcs
      have hsz := HO.out.2.2.1
      go_wp2_with
        (at_builtin; refine wpList_append_lies _ rfl (.tmp 17) (.tmp 20) 30 rfl (B2 + 1) 53 i0 _ 3 40 Try.underlying30 hi0 hz0 hz1 hz2 rfl (by omega) v k (cels cs) rfl (by have := HO.out.2.2.2.2.2; rw [HLEN.out] at this; exact this.alloc _)
            ⟨wr.heap.size, 0, none⟩ 1 1 (cel (0, x)) rfl rfl (World.news_of_block (cs := (cel (0, x)).toArray) (t := 53) (fr := (0, 0)) (heap_alloc_new wr _)) (cel_one _) (by omega) (by unfold maxLen; omega) (by omega) (by simp; omega) (wr.heap.size + 1) (by simp) ?_; intro gg cap w1 hown1 hgrow hat hlt1; have hb1 := blk_grown (blk_alloc HO.out.2.2.2.1 (Obj.cells (cel (0, x)).toArray 53)) hgrow (own_ne HO.out.2.2.2.2.2 (by omega)); have d1 := blk_cell hb1 1; have d2 := blk_frozen hb1 1; have hsh1 := blk_grown (blk_alloc HSH.out (Obj.cells (cel (0, x)).toArray 53)) hgrow (own_ne HO.out.2.2.2.2.2 (by omega)); have HSH1 := Lib.hid hsh1; clear hb1 hsh1)
      have hp := out_push (c := (0, x)) HO.out ((Below.refl _ wr).alloc (Nat.le_refl _) (Obj.cells (cel (0, x)).toArray 53)) hgrow (by rw [HLEN.out]; exact hown1)
      rw [HLEN.out] at hp
      have HPP := Lib.hid hp
      clear hp hown1 hgrow hat hlt1
      go_wp2
      go_roundw
      case rel => exact ⟨k + 1, by omega, by go_num, blk_far HSH1.out (by simp; omega) _, _, by rw [htk.out]; exact HPP.out⟩
      case measure => simp [intOf]; omega
    · obtain rfl : k = n := by omega
      have htk : xs.take k = xs := List.take_of_length_le (by rw [HL.out]; exact Nat.le_refl _)
      rw [htk] at hO hlen
      obtain ⟨vA, vc, rfl, hvc⟩ := own_slice hO.2.2.2.2.2
      rw [hlen] at hO c1 HO
      obtain ⟨⟨o0, o1⟩, hres⟩ := hO.2.2.2.2.1
      have r0 := blk_cell hres 0
      have r1 := blk_cell hres 1
      have rf := blk_frozen hres 0
      have rf1 := blk_frozen hres 1
      have HRES := Lib.hid hres
      have hlit := out_lit (B1 := B1) (sh := [(k : Int)]) hO rfl (by omega) (by rw [hlen]; exact hn) (fun _ => ⟨rfl, hle1, hsh⟩)
      have HLIT := Lib.hid hlit
      clear hO hres hlit hsh HO hlen htk
      go_wp2
      refine bodyPost_ret (v := .agg #[.slice (some ⟨B1, 0, none⟩) 1 1, .slice vA k vc]) ?_ rfl ?_
      · have hr := blk_set (blk_set HRES.out 0 (.slice (some ⟨B1, 0, none⟩) 1 1)) 1 (.slice vA k vc)
        have q0 := blk_cell hr 0
        have q1 := blk_cell hr 1
        simp [results, Try.results36, go_sem, q0, q1]
      · exact ⟨_, rfl, HLIT.out.1, HLIT.out.2⟩
end Go.Proofs.Ytiboikbccmfedaa
