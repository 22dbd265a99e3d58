/- Contracts of the reference's Nums and Text: an array of the given numbers or signs. Conditions: the numbers read in memory. -/
import Derived.Test.YtiboikbccmfedaaKn
import Derived.Deep.RegionLaw
namespace Go.Proofs.Ytiboikbccmfedaa
open Go.RowKit

set_option maxRecDepth 100000 in
set_option maxHeartbeats 2000000 in
theorem rnums_any (A : Option Addr) (n c : Nat) (xs : List Int) (w : World) (hr : RowAt .i64 w A xs) (hl : xs.length = n) (hn : n ≤ 1000000) :
    Calls Try.prog 15 #[.slice A n c] w (LitTo ⟨[(n : Int)], xs.map fun x => (0, x)⟩ w) := by
  obtain ⟨i0, hi0, hz0, hz1, hz2⟩ := info_parts info42
  have HR := Lib.hid hr
  have HL := Lib.hid hl
  clear hr hl
  go_enter Try.func15, Try.ntmps15
  go_wp2
  have hO : Out w (w.heap.size + 1 + 1) (.slice (some ⟨w.heap.size + 1, 0, none⟩) 1 1) ((xs.take 0).map fun x => (0, x)) (.slice none 0 0) (((w.alloc (Obj.cells #[Value.slice none 0 0, Value.slice none 0 0] 32)).alloc (Obj.cells #[Value.int IntKind.i64 ↑n] 3)).alloc (Obj.cells #[Value.slice (some { block := w.heap.size + 1, off := 0 }) 1 1, Value.slice none 0 0] 32)) := by
    refine ⟨(((Below.refl _ _).alloc (Nat.le_refl _) _).alloc (by simp) _).alloc (by simp; omega) _, by omega, by simp, ?_, ⟨(.slice none 0 0, .slice none 0 0), blk_alloc (blk_alloc (blk_new w _) _) _⟩, ?_⟩
    · simpa using blk_new ((w.alloc (Obj.cells #[Value.slice none 0 0, Value.slice none 0 0] 32)).alloc (Obj.cells #[Value.int IntKind.i64 ↑n] 3)) (Obj.cells #[Value.slice (some { block := w.heap.size + 1, off := 0 }) 1 1, Value.slice none 0 0] 32)
    · simpa [cels] using World.ownsRow_nil _ _ _ _
  have hS : (((w.alloc (Obj.cells #[Value.slice none 0 0, Value.slice none 0 0] 32)).alloc (Obj.cells #[Value.int IntKind.i64 ↑n] 3)).alloc (Obj.cells #[Value.slice (some { block := w.heap.size + 1, off := 0 }) 1 1, Value.slice none 0 0] 32)).heap[w.heap.size + 1]? = some (.cells (nums .i64 [(n : Int)]).toArray 3 (0, 0)) := by
    have := blk_alloc (blk_new (w.alloc (Obj.cells #[Value.slice none 0 0, Value.slice none 0 0] 32)) (Obj.cells #[Value.int IntKind.i64 ↑n] 3)) (Obj.cells #[Value.slice (some { block := w.heap.size + 1, off := 0 }) 1 1, Value.slice none 0 0] 32)
    simpa [nums] using this
  generalize hB2 : w.heap.size + 1 + 1 = B2 at *
  generalize hB1 : w.heap.size + 1 = B1 at *
  have hle1 : w.heap.size < B1 := by omega
  have hle2 : B1 < B2 := by omega
  clear hB1 hB2
  have HO := Lib.hid hO
  have HS := Lib.hid hS
  clear hO hS
  go_loopw [4] (fun i wr => ∃ k : Nat, k ≤ n ∧ i = .int .i64 k ∧ wr.heap[B1]? = some (.cells (nums .i64 [(n : Int)]).toArray 3 (0, 0)) ∧ ∃ v, Out w B2 (.slice (some ⟨B1, 0, none⟩) 1 1) ((xs.take k).map fun x => (0, x)) v wr)
    (fun i _ => n - (intOf i).toNat)
  case atStart => exact ⟨0, Nat.zero_le _, rfl, HS.out, _, HO.out⟩
  case round =>
    obtain ⟨k, hk, rfl, hsh, v, hO⟩ := hrel
    have c0 := blk_cell hO.2.2.2.1 0
    have c1 := blk_cell hO.2.2.2.1 1
    have f1 := blk_frozen hO.2.2.2.1 1
    have HO := Lib.hid hO
    have HSH := Lib.hid hsh
    have hlen : ((xs.take k).map fun x => ((0 : Int), x)).length = k := by rw [List.length_map, List.length_take, HL.out]; omega
    have HLEN := Lib.hid hlen
    by_cases hlt : k < n
    · obtain ⟨b, off, rfl, hcell⟩ := HR.out.2 (by rw [HL.out]; omega)
      obtain ⟨x, hx⟩ : ∃ x, xs.getD k 0 = x := ⟨_, rfl⟩
      have cz : wr.cell? ⟨b, off + k, none⟩ = some (.int .i64 x) := by rw [← hx]; exact cell_below hO.1 (hcell k (by rw [HL.out]; exact hlt))
      have htk := Lib.hid (show (xs.take (k + 1)).map (fun x => ((0 : Int), x)) = (xs.take k).map (fun x => ((0 : Int), x)) ++ [(0, x)] by
        rw [List.take_succ_eq_append_getElem (by rw [HL.out]; exact hlt), List.map_append]
        congr
        rw [← hx, List.getD_eq_getElem?_getD, List.getElem?_eq_getElem (by rw [HL.out]; exact hlt)]
        rfl)
      generalize hcs : (xs.take k).map (fun x => ((0 : Int), x)) = cs at *
      have HCS := Lib.hid hcs
      clear hcell hx hO hsh hlen hcs
      have hsz := HO.out.2.2.1
      have ag : v.ownBlock ≠ some B2 := own_ne HO.out.2.2.2.2.2 (by omega)
      have aw : v.ownBlock ≠ some B1 := own_ne HO.out.2.2.2.2.2 (by omega)
      have hown : wr.ownsRow (B2 + 1) 53 3 v k (cels cs) := by have := HO.out.2.2.2.2.2; rw [HLEN.out] at this; exact this
      have HOWN := Lib.hid hown
      clear hown
      go_wp2
      go_region_law
        ((refine step_append_lies _ (by rfl) _ _ _ (by rfl) (B2 + 1) 53 i0 _ 3 40 Try.underlying30 hi0 hz0 hz1 hz2 rfl (by omega) v k (cels cs) (by rfl) ((HOWN.out.alloc _).drew)
            ⟨wr.heap.size, 0, none⟩ 1 1 (cel (0, x)) (by rfl) (by rfl) (World.news_of_block (cs := (cel (0, x)).toArray) (t := 53) (fr := (0, 0)) (heap_alloc_new wr _)) (cel_one _)
            (by omega) (by unfold maxLen; omega) (by omega) (by simp; omega) (wr.heap.size + 1) (by simp) ?_; intro gg cap w1 hown1 hgrow hat hlt1; have hb1 := blk_grown (blk_drew (blk_alloc HO.out.2.2.2.1 (Obj.cells (cel (0, x)).toArray 53))) hgrow ag; have d1 := blk_cell hb1 1; have d2 := blk_frozen hb1 1; have hsh1 := blk_grown (blk_drew (blk_alloc HSH.out (Obj.cells (cel (0, x)).toArray 53))) hgrow aw; have HSH1 := Lib.hid hsh1; clear hb1 hsh1))
      all_goals
        have hp := out_push (c := (0, x)) HO.out ((Below.refl _ wr).alloc (Nat.le_refl _) (Obj.cells (cel (0, x)).toArray 53)).drew hgrow (by rw [HLEN.out]; exact hown1)
        rw [HLEN.out] at hp
        have HPP := Lib.hid hp
        clear hp hown1 hgrow hat hlt1
        go_wp2
        go_roundw
        case rel => exact ⟨k + 1, by omega, by go_num, blk_far HSH1.out (by simp; omega) _, _, by rw [htk.out]; exact HPP.out⟩
        case measure => simp [intOf]; omega
    · obtain rfl : k = n := by omega
      have htk : xs.take k = xs := List.take_of_length_le (by rw [HL.out]; exact Nat.le_refl _)
      rw [htk] at hO hlen
      obtain ⟨vA, vc, rfl, hvc⟩ := own_slice hO.2.2.2.2.2
      rw [hlen] at hO c1 HO
      obtain ⟨⟨o0, o1⟩, hres⟩ := hO.2.2.2.2.1
      have r0 := blk_cell hres 0
      have r1 := blk_cell hres 1
      have rf := blk_frozen hres 0
      have rf1 := blk_frozen hres 1
      have HRES := Lib.hid hres
      have hlit := out_lit (B1 := B1) (sh := [(k : Int)]) hO rfl (by omega) (by rw [hlen]; exact hn) (fun _ => ⟨rfl, hle1, hsh⟩)
      have HLIT := Lib.hid hlit
      clear hO hres hlit hsh HO hlen htk
      go_wp2
      refine bodyPost_ret (v := .agg #[.slice (some ⟨B1, 0, none⟩) 1 1, .slice vA k vc]) ?_ rfl ?_
      · have hr := blk_set (blk_set HRES.out 0 (.slice (some ⟨B1, 0, none⟩) 1 1)) 1 (.slice vA k vc)
        have q0 := blk_cell hr 0
        have q1 := blk_cell hr 1
        simp [results, Try.results15, go_sem, q0, q1]
      · exact ⟨_, rfl, HLIT.out.1, HLIT.out.2⟩
end Go.Proofs.Ytiboikbccmfedaa
