/- Contract of the reference's Text: an array of the given signs. Conditions: the numbers read in memory. -/
import Derived.Test.YtiboikbccmfedaaKo
namespace Go.Proofs.Ytiboikbccmfedaa
open Go.RowKit

theorem out_shape {w wr : World} {B2 : Nat} {sh v : Value} {cs : List (Int × Int)} (h : Out w B2 sh cs v wr) (o : Obj) (sh' : Value) : Out w B2 sh' cs v ((wr.setCell ⟨B2, 0, none⟩ sh').alloc o) := by
  obtain ⟨hb, hRB, hlt, hout, ⟨p, hres⟩, ho⟩ := h
  exact ⟨(hb.setCell (p := ⟨B2, 0, none⟩) (by simp; omega) _).alloc (by have := hb.size; simpa [World.setCell] using this) _, hRB, by simp [World.setCell]; omega, by simpa using blk_alloc (blk_set hout 0 sh') o, ⟨p, blk_alloc (blk_far hres (by simp; omega) _) _⟩, (own_far (p := ⟨B2, 0, none⟩) ho (by simp) _).alloc o⟩

set_option maxRecDepth 100000 in
set_option maxHeartbeats 4000000 in
theorem rtext_any (A : Option Addr) (n c : Nat) (xs : List Int) (w : World) (hr : RowAt .i64 w A xs) (hl : xs.length = n) (hn : n ≤ 1000000) :
    Calls Try.prog 12 #[.slice A n c] w (LitTo (Kx.litText xs) w) := by
  obtain ⟨i0, hi0, hz0, hz1, hz2⟩ := info_parts info42
  have HR := Lib.hid hr
  have HL := Lib.hid hl
  clear hr hl
  go_enter Try.func12, Try.ntmps12
  go_wp2
  have hO : Out w (w.heap.size + 1) (.slice none 0 0) ((xs.take 0).map fun x => (1, x)) (.slice none 0 0) ((w.alloc (Obj.cells #[Value.slice none 0 0, Value.slice none 0 0] 32)).alloc (Obj.cells #[Value.slice none 0 0, Value.slice none 0 0] 32)) := by
    refine ⟨((Below.refl _ _).alloc (Nat.le_refl _) _).alloc (by simp) _, by omega, by simp, ?_, ⟨(.slice none 0 0, .slice none 0 0), blk_alloc (blk_new w _) _⟩, ?_⟩
    · simpa using blk_new (w.alloc (Obj.cells #[Value.slice none 0 0, Value.slice none 0 0] 32)) (Obj.cells #[Value.slice none 0 0, Value.slice none 0 0] 32)
    · simpa [cels] using World.ownsRow_nil _ _ _ _
  generalize hB2 : w.heap.size + 1 = B2 at *
  have hle2 : w.heap.size < B2 := by omega
  clear hB2
  have HO := Lib.hid hO
  clear hO
  go_loopw [4] (fun i wr => ∃ k : Nat, k ≤ n ∧ i = .int .i64 k ∧ ∃ v, Out w B2 (.slice none 0 0) ((xs.take k).map fun x => (1, x)) v wr)
    (fun i _ => n - (intOf i).toNat)
  case atStart => exact ⟨0, Nat.zero_le _, rfl, _, HO.out⟩
  case round =>
    obtain ⟨k, hk, rfl, v, hO⟩ := hrel
    have c0 := blk_cell hO.2.2.2.1 0
    have c1 := blk_cell hO.2.2.2.1 1
    have f1 := blk_frozen hO.2.2.2.1 1
    have f0 := blk_frozen hO.2.2.2.1 0
    have HO := Lib.hid hO
    have hlen : ((xs.take k).map fun x => ((1 : Int), x)).length = k := by rw [List.length_map, List.length_take, HL.out]; omega
    have HLEN := Lib.hid hlen
    by_cases hlt : k < n
    · obtain ⟨b, off, rfl, hcell⟩ := HR.out.2 (by rw [HL.out]; omega)
      obtain ⟨x, hx⟩ : ∃ x, xs.getD k 0 = x := ⟨_, rfl⟩
      have cz : wr.cell? ⟨b, off + k, none⟩ = some (.int .i64 x) := by rw [← hx]; exact cell_below hO.1 (hcell k (by rw [HL.out]; exact hlt))
      have htk := Lib.hid (show (xs.take (k + 1)).map (fun x => ((1 : Int), x)) = (xs.take k).map (fun x => ((1 : Int), x)) ++ [(1, x)] by
        rw [List.take_succ_eq_append_getElem (by rw [HL.out]; exact hlt), List.map_append]
        congr
        rw [← hx, List.getD_eq_getElem?_getD, List.getElem?_eq_getElem (by rw [HL.out]; exact hlt)]
        rfl)
      generalize hcs : (xs.take k).map (fun x => ((1 : Int), x)) = cs at *
      have HCS := Lib.hid hcs
      clear hcell hx hO hlen hcs
      have hsz := HO.out.2.2.1
      have ag : v.ownBlock ≠ some B2 := own_ne HO.out.2.2.2.2.2 (by omega)
      have hown : wr.ownsRow (B2 + 1) 53 3 v k (cels cs) := by have := HO.out.2.2.2.2.2; rw [HLEN.out] at this; exact this
      have HOWN := Lib.hid hown
      clear hown
      go_wp2
      go_region_law
        ((refine step_append_lies _ (by rfl) _ _ _ (by rfl) (B2 + 1) 53 i0 _ 3 40 Try.underlying30 hi0 hz0 hz1 hz2 rfl (by omega) v k (cels cs) (by rfl) ((HOWN.out.alloc _).drew)
            ⟨wr.heap.size, 0, none⟩ 1 1 (cel (1, x)) (by rfl) (by rfl) (World.news_of_block (cs := (cel (1, x)).toArray) (t := 53) (fr := (0, 0)) (heap_alloc_new wr _)) (cel_one _)
            (by omega) (by unfold maxLen; omega) (by omega) (by simp; omega) (wr.heap.size + 1) (by simp) ?_; intro gg cap w1 hown1 hgrow hat hlt1; have hb1 := blk_grown (blk_drew (blk_alloc HO.out.2.2.2.1 (Obj.cells (cel (1, x)).toArray 53))) hgrow ag; have d1 := blk_cell hb1 1; have d2 := blk_frozen hb1 1; clear hb1))
      all_goals
        have hp := out_push (c := (1, x)) HO.out ((Below.refl _ wr).alloc (Nat.le_refl _) (Obj.cells (cel (1, x)).toArray 53)).drew hgrow (by rw [HLEN.out]; exact hown1)
        rw [HLEN.out] at hp
        have HPP := Lib.hid hp
        clear hp hown1 hgrow hat hlt1
        go_wp2
        go_roundw
        case rel => exact ⟨k + 1, by omega, by go_num, _, by rw [htk.out]; exact HPP.out⟩
        case measure => simp [intOf]; omega
    · obtain rfl : k = n := by omega
      have htk : xs.take k = xs := List.take_of_length_le (by rw [HL.out]; exact Nat.le_refl _)
      rw [htk] at hO hlen
      obtain ⟨vA, vc, rfl, hvc⟩ := own_slice hO.2.2.2.2.2
      rw [hlen] at hO c1 HO
      by_cases h1 : k = 1
      · have hb1 : ((k : Int) == 1) = true := beq_iff_eq.2 (by omega)
        have hlt1 : Kx.litText xs = ⟨[], xs.map fun x => (1, x)⟩ := by unfold Kx.litText; rw [if_pos (HL.out.trans h1)]
        obtain ⟨⟨o0, o1⟩, hres⟩ := hO.2.2.2.2.1
        have r0 := blk_cell hres 0
        have r1 := blk_cell hres 1
        have rf := blk_frozen hres 0
        have rf1 := blk_frozen hres 1
        have HRES := Lib.hid hres
        have hlit := out_lit (B1 := 0) (sh := []) hO rfl (by omega) (by rw [hlen]; exact hn) (fun h => absurd h (Nat.lt_irrefl 0))
        rw [← hlt1] at hlit
        have HLIT := Lib.hid hlit
        clear hO hres hlit HO hlen htk h1 hlt1
        go_wp2
        refine bodyPost_ret (v := .agg #[.slice none 0 0, .slice vA k vc]) ?_ rfl ?_
        · have hr := blk_set (blk_set HRES.out 0 (.slice none 0 0)) 1 (.slice vA k vc)
          have q0 := blk_cell hr 0
          have q1 := blk_cell hr 1
          simp [results, Try.results12, go_sem, q0, q1]
        · exact ⟨_, rfl, HLIT.out.1, HLIT.out.2⟩
      · have hb1 : ((k : Int) == 1) = false := beq_eq_false_iff_ne.2 (by omega)
        have hlt1 : Kx.litText xs = ⟨[(k : Int)], xs.map fun x => (1, x)⟩ := by unfold Kx.litText; rw [if_neg (by rw [HL.out]; exact h1), HL.out]
        have hO2 := out_shape hO (Obj.cells #[Value.int .i64 (k : Int)] 3) (.slice (some ⟨wr.heap.size, 0, none⟩) 1 1)
        obtain ⟨⟨o0, o1⟩, hres⟩ := hO2.2.2.2.2.1
        have z0 := blk_cell hO2.2.2.2.1 0
        have z1 := blk_cell hO2.2.2.2.1 1
        have r0 := blk_cell hres 0
        have r1 := blk_cell hres 1
        have rf := blk_frozen hres 0
        have rf1 := blk_frozen hres 1
        have HRES := Lib.hid hres
        have hB1 := hO.2.2.1
        have hnew : ((wr.setCell ⟨B2, 0, none⟩ (.slice (some ⟨wr.heap.size, 0, none⟩) 1 1)).alloc (Obj.cells #[Value.int .i64 (k : Int)] 3)).heap[wr.heap.size]? = some (.cells (nums .i64 [(k : Int)]).toArray 3 (0, 0)) := by
          have := blk_new (wr.setCell ⟨B2, 0, none⟩ (.slice (some ⟨wr.heap.size, 0, none⟩) 1 1)) (Obj.cells #[Value.int .i64 (k : Int)] 3)
          rw [show (wr.setCell ⟨B2, 0, none⟩ (.slice (some ⟨wr.heap.size, 0, none⟩) 1 1)).heap.size = wr.heap.size by simp [World.setCell]] at this
          simpa [nums] using this
        have hlit := out_lit (B1 := wr.heap.size) (sh := [(k : Int)]) hO2 rfl (by omega) (by rw [hlen]; exact hn) (fun _ => ⟨rfl, by omega, hnew⟩)
        rw [← hlt1] at hlit
        have HLIT := Lib.hid hlit
        clear hO hres hlit HO hlen htk h1 hlt1 hO2 hnew
        go_wp2
        refine bodyPost_ret (v := .agg #[.slice (some ⟨wr.heap.size, 0, none⟩) 1 1, .slice vA k vc]) ?_ rfl ?_
        · have hr := blk_set (blk_set HRES.out 0 (.slice (some ⟨wr.heap.size, 0, none⟩) 1 1)) 1 (.slice vA k vc)
          have q0 := blk_cell hr 0
          have q1 := blk_cell hr 1
          simp [results, Try.results12, go_sem, q0, q1]
        · exact ⟨_, rfl, HLIT.out.1, HLIT.out.2⟩
end Go.Proofs.Ytiboikbccmfedaa
