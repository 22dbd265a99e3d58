/- Contract of the reference's Nums: it returns an array of one axis with the given numbers as cells. Conditions: the slice's cells hold these numbers. -/
import Derived.Test.YtmalhpadnnlfjaaMa
import Derived.Test.YtmalhpadnnlfjaaXLib
import Derived.Deep.LoopGhost
import Derived.Deep.RegionHeld3
import Derived.Deep.AppendLies
import Derived.Deep.RegionLaw
import Derived.Deep.RegionLaw
import Derived.WalkSpells
import Derived.KernelRfl
namespace Go.Proofs.Ytmalhpadnnlfjaa
open Go.RowKit

theorem info56 : (Try.prog.info? 56).map (fun i => (i.zero, i.size, i.bytes)) = some (some (.agg #[.int .i64 0, .int .i64 0, .slice none 0 0]), 3, 40) := by kernel_rfl

/-- a cell without a box, as it lies -/
def ncell (x : Int) : List Value := [.int .i64 0, .int .i64 x, .slice none 0 0]
def ncells (xs : List Int) : List Value := xs.flatMap ncell

theorem ncells_snoc (xs : List Int) (x : Int) : ncells (xs ++ [x]) = ncells xs ++ ncell x := by simp [ncells]
theorem ncells_length (xs : List Int) : (ncells xs).length = xs.length * 3 := by
  induction xs with
  | nil => rfl
  | cons x r ih => simp only [ncells, List.flatMap_cons, List.length_append, List.length_cons] at *; rw [ih]; simp [ncell]; omega

set_option maxHeartbeats 1000000 in
theorem nums_any (zb zo n c : Nat) (zs : List Int) (w : World) (hz : zs.length = n) (hn : n ≤ 1000000000) (hc : ∀ i, i < n → w.cell? ⟨zb, zo + i, none⟩ = some (.int .i64 (zs.getD i 0))) :
    Calls Try.prog 15 #[.slice (some ⟨zb, zo, none⟩) n c] w fun e w' => ∃ v, e = .returned (.agg #[.slice (some ⟨w.heap.size + 1, 0, none⟩) 1 1, v]) ∧ w'.ownsRow (w.heap.size + 3) 56 3 v n (ncells zs) ∧ Below w.heap.size w w' := by
  obtain ⟨i0, hi0, hz0, hz1, hz2⟩ := info_parts info56
  go_enter Try.func15, Try.ntmps15
  go_wp2
  generalize hB2 : w.heap.size + 1 + 1 = B2
  generalize hB1 : w.heap.size + 1 = B1
  have HB1 := Lib.hid hB1
  have HB2 := Lib.hid hB2
  have hle1 : w.heap.size < B1 := by omega
  have hle2 : B1 < B2 := by omega
  clear hB1 hB2
  go_loopw [4] (fun i wr => ∃ k : Nat, k ≤ n ∧ i = .int .i64 k ∧ Below w.heap.size w wr ∧ B2 < wr.heap.size ∧ ∃ v, wr.heap[B2]? = some (.cells #[.slice (some ⟨B1, 0, none⟩) 1 1, v] 38 (0, 0)) ∧ (∃ o : Value × Value, wr.heap[w.heap.size]? = some (.cells #[o.1, o.2] 38 (0, 0))) ∧ wr.ownsRow (B2 + 1) 56 3 v k (ncells (zs.take k)))
    (fun i _ => n - (intOf i).toNat)
  case atStart =>
    refine ⟨0, Nat.zero_le _, rfl, ?_, ?_, .slice none 0 0, ?_, ⟨(.slice none 0 0, .slice none 0 0), ?_⟩, ?_⟩
    · exact (((Below.refl _ _).alloc (Nat.le_refl _) _).alloc (by simp) _).alloc (by simp; omega) _
    · have := HB2.out; simp; omega
    · have := blk_new ((w.alloc (Obj.cells #[Value.slice none 0 0, Value.slice none 0 0] 38)).alloc (Obj.cells #[Value.int IntKind.i64 ↑n] 3)) (Obj.cells #[Value.slice (some { block := B1, off := 0 }) 1 1, Value.slice none 0 0] 38)
      rw [← HB2.out]
      simpa using this
    · exact blk_alloc (blk_alloc (blk_new w _) _) _
    · simpa [ncells] using World.ownsRow_nil _ _ _ _
  case round =>
    obtain ⟨k, hk, rfl, hbel, hsz, v, hout, ⟨⟨o0, o1⟩, hres⟩, hown⟩ := hrel
    have c0 := blk_cell hout 0
    have c1 := blk_cell hout 1
    have f1 := blk_frozen hout 1
    have ag : v.ownBlock ≠ some B2 := own_ne hown (by omega)
    have aw : v.ownBlock ≠ some w.heap.size := own_ne hown (by omega)
    by_cases hlt : k < n
    · have lzo : zb < w.heap.size := World.block_lt_of_cell? w _ (hc k hlt)
      have cz : wr.cell? ⟨zb, zo + k, none⟩ = some (.int .i64 (zs.getD k 0)) := (hbel.cell (p := ⟨zb, zo + k, none⟩) lzo).trans (hc k hlt)
      obtain ⟨x, hx⟩ : ∃ x, zs.getD k 0 = x := ⟨_, rfl⟩
      rw [hx] at cz
      have hk0 : (0 : Int) ≤ (k : Int) := Int.natCast_nonneg _
      have hk1 : (k : Int) < (n : Int) := by omega
      have hbase : B2 + 1 ≤ wr.heap.size := by omega
      have Hout := Lib.hid hout
      have Hres := Lib.hid hres
      have Hbel := Lib.hid hbel
      have HX := Lib.hid hx
      clear hc hout hres hbel hx
      go_wp2
      go_region_law
        ((refine step_append_lies _ (by rfl) _ _ _ (by rfl) (B2 + 1) 56 i0 _ 3 40 Try.underlying36 hi0 hz0 hz1 hz2 rfl (by omega) v k (ncells (zs.take k)) (by rfl) ((hown.alloc _).drew)
            ⟨wr.heap.size, 0, none⟩ 1 1 (ncell x) (by rfl) (by rfl) (World.news_of_block (cs := (ncell x).toArray) (t := 56) (fr := (0, 0)) (heap_alloc_new wr _)) (by simp [ncell, Value.oneCell'])
            (by omega) (by unfold maxLen; omega) (by omega) (by simp; omega) (wr.heap.size + 1) (by simp) ?_; intro gg cap w1 hown1 hgrow hat hlt1; have hb1 := blk_grown (blk_drew (blk_alloc Hout.out _)) hgrow ag; have d1 := blk_cell hb1 1; have d2 := blk_frozen hb1 1; have Hb1 := Lib.hid hb1; clear hb1))
      all_goals
        go_wp2
        go_roundw
        case rel =>
          have hb1 := Hb1.out
          have hout := Hout.out
          have hres := blk_grown (blk_drew (blk_alloc Hres.out (Obj.cells #[Value.int IntKind.i64 0, Value.int IntKind.i64 x, Value.slice none 0 0] 56))) hgrow aw
          have hbel := ((((Hbel.out).alloc (by omega) (Obj.cells #[Value.int IntKind.i64 0, Value.int IntKind.i64 x, Value.slice none 0 0] 56)).drew).grown hgrow (by simp; omega) (fun g hg => by have := (hown.lt g hg).1; omega)).setCell (p := ⟨B2, 1, none⟩) (by simp; omega) (Value.slice (some { block := gg, off := 0 }) (k + 1) cap)
          have hlt2 := blk_lt hb1
          refine ⟨k + 1, by omega, by go_num, hbel, by simpa [World.setCell] using hlt2, .slice (some ⟨gg, 0, none⟩) (k + 1) cap, ?_, ⟨(o0, o1), blk_far hres (by simp; omega) _⟩, own_far (p := ⟨B2, 1, none⟩) ?_ (by simp) _⟩
          · simpa using blk_set hb1 1 (Value.slice (some { block := gg, off := 0 }) (k + 1) cap)
          · have e : zs.take (k + 1) = zs.take k ++ [x] := by
              rw [List.take_succ_eq_append_getElem (by omega)]
              congr
              rw [← HX.out]
              simp [hlt, hz]
            rw [e, ncells_snoc]
            exact hown1
        case measure => simp [intOf]; omega
    · obtain rfl : k = n := by omega
      obtain ⟨vA, vc, rfl, hvc⟩ := own_slice hown
      have r0 := blk_cell hres 0
      have r1 := blk_cell hres 1
      have rf := blk_frozen hres 0
      have rf1 := blk_frozen hres 1
      have Hout := Lib.hid hout
      have Hres := Lib.hid hres
      have Hbel := Lib.hid hbel
      clear hc hout hres hbel
      go_wp2
      refine bodyPost_ret (v := .agg #[.slice (some ⟨B1, 0, none⟩) 1 1, .slice vA k vc]) ?_ rfl ?_
      · have hr := blk_set (blk_set Hres.out 0 (.slice (some ⟨B1, 0, none⟩) 1 1)) 1 (.slice vA k vc)
        have q0 := blk_cell hr 0
        have q1 := blk_cell hr 1
        simp [results, Try.results15, go_sem, q0, q1]
      · refine ⟨.slice vA k vc, ?_, ?_, ?_⟩
        · rw [HB1.out]
        · have e : w.heap.size + 3 = B2 + 1 := by have := HB2.out; omega
          rw [e]
          have := own_far (p := ⟨w.heap.size, 1, none⟩) (own_far (p := ⟨w.heap.size, 0, none⟩) hown (by simp; omega) (.slice (some ⟨B1, 0, none⟩) 1 1)) (by simp; omega) (.slice vA k vc)
          rw [List.take_of_length_le (by omega)] at this
          exact this
        · exact (Hbel.out.setCell (p := ⟨w.heap.size, 0, none⟩) (by simp) _).setCell (p := ⟨w.heap.size, 1, none⟩) (by simp) _
end Go.Proofs.Ytmalhpadnnlfjaa
