/- Contracts of the reference's Weight and of the law's light: they return, whatever the array. Conditions: the array reads in memory. -/
import Derived.Test.YtmalhpadnnlfjaaMe
namespace Go.Proofs.Ytmalhpadnnlfjaa
open Go.RowKit

def SomeInt (w : World) (e : Ending) (w' : World) : Prop := ∃ r : Int, e = .returned (.int .i64 r) ∧ Below w.heap.size w w'

set_option maxRecDepth 100000 in
set_option maxHeartbeats 4000000 in
theorem weight_any (d : Nat) : ∀ (v : Value) (N : Int) (most deep : Int) (w : World), ArrN w d v N → Calls Try.prog 19 #[v, .int .i64 most, .int .i64 deep] w (SomeInt w) := by
  induction d with
  | zero => intro _ _ _ _ _ h; exact h.elim
  | succ d ih0 =>
    intro v N most deep w h
    obtain ⟨sA, sn, sc, A, n, c, kd, nm, bA, bn, bc, eA, fA, en, ec, fn, fc, f, h1, h2, h3, h4, h5⟩ := h
    have ih := Lib.hid ih0
    clear ih0
    subst h1
    have HN := Lib.hid h4
    have H5 := Lib.hid h5
    clear h4 h5
    go_enter Try.func19, Try.ntmps19
    go_wp2
    have q0 := Lib.hid (blk_new w (Obj.cells #[Value.slice sA sn sc, Value.slice A n c] 38))
    have hb0 := Lib.hid ((Below.refl w.heap.size w).alloc (Nat.le_refl _) (Obj.cells #[Value.slice sA sn sc, Value.slice A n c] 38))
    generalize w.alloc (Obj.cells #[Value.slice sA sn sc, Value.slice A n c] 38) = w1 at q0 hb0 ⊢
    go_loopw [7, 8] (fun acc i wr => ∃ k : Nat, k ≤ n ∧ i = .int .i64 k ∧ (∃ a : Int, acc = .int .i64 a) ∧ wr.heap[w.heap.size]? = some (.cells #[Value.slice sA sn sc, Value.slice A n c] 38 (0, 0)) ∧ Below w.heap.size w wr) (fun _ i _ => n - (intOf i).toNat)
    case atStart => exact ⟨0, Nat.zero_le _, rfl, ⟨_, rfl⟩, q0.out, hb0.out⟩
    case round =>
      obtain ⟨k, hk, rfl, ⟨a, rfl⟩, hq, hb⟩ := hrel
      have r0 := blk_cell hq 0
      have r1 := blk_cell hq 1
      have HQ := Lib.hid hq
      have HB := Lib.hid hb
      clear hq hb q0 hb0
      by_cases hlt : k < n
      · by_cases ham : a ≤ most
        · go_wp2_with fail
          obtain ⟨b, off, rfl, h⟩ := H5.out (by omega)
          obtain ⟨_, _, g3, g4, g5⟩ := h k hlt
          have G3 := Lib.hid g3
          have G5 := Lib.hid g5
          have HH := Lib.hid h
          clear g3 g5 h
          have hba := World.block_lt_of_cell? w _ G3.out
          go_loopw [7, 9] (fun acc j wr => ∃ q : Nat, q ≤ bn k ∧ j = .int .i64 q ∧ (∃ a : Int, acc = .int .i64 a) ∧ wr.heap[w.heap.size]? = some (.cells #[Value.slice sA sn sc, Value.slice (some ⟨b, off, none⟩) n c] 38 (0, 0)) ∧ Below w.heap.size w wr) (fun _ j _ => bn k - (intOf j).toNat)
          case atStart => exact ⟨0, Nat.zero_le _, rfl, ⟨_, rfl⟩, HQ.out, HB.out⟩
          case round =>
            clear HQ HB r0 r1 ham
            obtain ⟨q, hq, rfl, ⟨a2, rfl⟩, hqq, hb⟩ := hrel
            have r0 := blk_cell hqq 0
            have r1 := blk_cell hqq 1
            have r2 := (hb.cell (p := ⟨b, off + k * 3 + 2, none⟩) hba).trans G3.out
            have HQ := Lib.hid hqq
            have HB := Lib.hid hb
            clear hqq hb
            by_cases hlt2 : q < bn k
            · by_cases ham2 : a2 ≤ most
              · by_cases hd0 : deep = 0
                · subst hd0
                  go_wp2
                  go_ret
                  exact ⟨_, rfl, HB.out⟩
                · obtain ⟨b', off', hA, h'⟩ := G5.out (by omega)
                  obtain ⟨m1, m2, m3⟩ := h' q hlt2
                  rw [hA] at r2
                  have d1 := ((HB.out).cell (p := ⟨b', off' + q * 2, none⟩) (World.block_lt_of_cell? w _ m1)).trans m1
                  have d2 := ((HB.out).cell (p := ⟨b', off' + q * 2 + 1, none⟩) (World.block_lt_of_cell? w _ m2)).trans m2
                  have M3 := Lib.hid (m3.below HB.out)
                  clear h' m1 m2 m3
                  go_wp2_with fail
                  refine (ih.out _ _ _ _ _ M3.out).mono ?_
                  rintro e w2 ⟨r, rfl, hb2⟩
                  have HB2 := Lib.hid (below_then HB.out HB.out.size hb2)
                  have HQ2 := Lib.hid (blk_below HQ.out hb2 (blk_lt HQ.out))
                  clear hb2 d1 d2 r0 r1 r2
                  go_wp2
                  go_roundw
                  case rel => exact ⟨q + 1, by omega, by go_num, ⟨_, rfl⟩, HQ2.out, HB2.out⟩
                  case measure => simp [intOf]; omega
              · go_wp2
                go_roundw
                case rel => exact ⟨k + 1, by omega, by go_num, ⟨_, rfl⟩, HQ.out, HB.out⟩
                case measure => simp [intOf]; omega
            · obtain rfl : q = bn k := by omega
              go_wp2
              go_roundw
              case rel => exact ⟨k + 1, by omega, by go_num, ⟨_, rfl⟩, HQ.out, HB.out⟩
              case measure => simp [intOf]; omega
        · go_wp2
          go_ret
          exact ⟨_, rfl, HB.out⟩
      · obtain rfl : k = n := by omega
        go_wp2
        go_ret
        exact ⟨_, rfl, HB.out⟩

theorem ArrN.form {w : World} {d : Nat} {v : Value} {N : Int} (h : ArrN w d v N) : ∃ sA sn sc A n c, v = .agg #[.slice sA sn sc, .slice A n c] := by
  cases d with
  | zero => exact h.elim
  | succ d => obtain ⟨sA, sn, sc, A, n, cc, _, _, _, _, _, _, _, _, _, _, _, _, h1, _⟩ := h; exact ⟨_, _, _, _, _, _, h1⟩

theorem weight0_any (d : Nat) (v : Value) (N : Int) (most : Int) (w : World) (h : ArrN w d v N) : Calls Try.prog 18 #[v, .int .i64 most] w (SomeInt w) := by
  obtain ⟨sA, sn, sc, A, n, c, rfl⟩ := h.form
  have hb := Lib.hid ((Below.refl w.heap.size w).alloc (Nat.le_refl _) (Obj.cells #[Value.slice sA sn sc, Value.slice A n c] 38))
  have H := Lib.hid (h.below hb.out)
  clear h
  go_enter Try.func18, Try.ntmps18
  go_wp2_with fail
  refine (weight_any _ _ _ _ _ _ H.out).mono ?_
  rintro e w2 ⟨r, rfl, hb2⟩
  have HB2 := Lib.hid (below_then hb.out hb.out.size hb2)
  clear hb2
  go_wp2
  go_ret
  exact ⟨_, rfl, HB2.out⟩

def SomeBool (w : World) (e : Ending) (w' : World) : Prop := ∃ r : Bool, e = .returned (.bool r) ∧ Below w.heap.size w w'

theorem light_any (d : Nat) (v : Value) (N : Int) (w : World) (h : ArrN w d v N) : Calls Try.prog 12 #[v] w (SomeBool w) := by
  obtain ⟨sA, sn, sc, A, n, c, rfl⟩ := h.form
  have hb := Lib.hid ((Below.refl w.heap.size w).alloc (Nat.le_refl _) (Obj.cells #[Value.slice sA sn sc, Value.slice A n c] 38))
  have H := Lib.hid (h.below hb.out)
  clear h
  go_enter Try.func12, Try.ntmps12
  go_wp2_with fail
  refine (weight0_any _ _ _ _ _ H.out).mono ?_
  rintro e w2 ⟨r, rfl, hb2⟩
  have HB2 := Lib.hid (below_then hb.out hb.out.size hb2)
  clear hb2
  go_wp2
  go_ret
  exact ⟨_, rfl, HB2.out⟩

/-- what is known of the memory while two meters are asked: both meters' blocks, the array, its box -/
structure MW (w0 : World) (g1 g2 : Nat) (l1 u1 c1 l2 u2 c2 : Int) (d : Nat) (x y : Value) (N : Int) (w : World) : Prop where
  m1 : w.heap[g1]? = some (mcell l1 u1 c1)
  m2 : w.heap[g2]? = some (mcell l2 u2 c2)
  box : w.heap[w0.heap.size]? = some (.cells #[x, y] 38 (0, 0))
  arr : ArrN w d (.agg #[x, y]) N
  bel : Below w0.heap.size w0 w

theorem MW.below {w0 : World} {g1 g2 : Nat} {l1 u1 c1 l2 u2 c2 : Int} {d : Nat} {x y : Value} {N : Int} {w w' : World} (h : MW w0 g1 g2 l1 u1 c1 l2 u2 c2 d x y N w) (hb : Below w.heap.size w w') : MW w0 g1 g2 l1 u1 c1 l2 u2 c2 d x y N w' :=
  ⟨blk_below h.m1 hb (blk_lt h.m1), blk_below h.m2 hb (blk_lt h.m2), blk_below h.box hb (blk_lt h.box), h.arr.below hb, below_then h.bel h.bel.size hb⟩

theorem mw_hold1 {w0 : World} {g1 g2 : Nat} {l1 u1 c1 l2 u2 c2 : Int} {d : Nat} {x y : Value} {N : Int} (w : World) (h : MW w0 g1 g2 l1 u1 c1 l2 u2 c2 d x y N w) :
    Calls Try.prog 13 #[.pointer (some ⟨g1, 0, none⟩), .agg #[x, y]] w fun e w' => e = .returned (.int .i64 (if N > c1 then 12 else 0)) ∧ Hid (MW w0 g1 g2 l1 u1 c1 l2 u2 c2 d x y N w') :=
  (hold_any g1 l1 u1 c1 d _ N w h.m1 h.arr).mono fun _ _ ⟨he, hb⟩ => ⟨he, h.below hb⟩
theorem mw_hold2 {w0 : World} {g1 g2 : Nat} {l1 u1 c1 l2 u2 c2 : Int} {d : Nat} {x y : Value} {N : Int} (w : World) (h : MW w0 g1 g2 l1 u1 c1 l2 u2 c2 d x y N w) :
    Calls Try.prog 13 #[.pointer (some ⟨g2, 0, none⟩), .agg #[x, y]] w fun e w' => e = .returned (.int .i64 (if N > c2 then 12 else 0)) ∧ Hid (MW w0 g1 g2 l1 u1 c1 l2 u2 c2 d x y N w') :=
  (hold_any g2 l2 u2 c2 d _ N w h.m2 h.arr).mono fun _ _ ⟨he, hb⟩ => ⟨he, h.below hb⟩

/-- the law from the two new meters on -/
structure Two (w0 : World) (g1 g2 : Nat) (F C F2 C2 : Int) (d : Nat) (x y : Value) (N : Int) (k : Nat) (w : World) : Prop where
  mw : MW w0 g1 g2 (F - min (k : Int) F) (min (k : Int) F) C (F2 - min (k : Int) F2) (min (k : Int) F2) C2 d x y N w

theorem two_step {w0 : World} {g1 g2 : Nat} {l1 u1 c1 l2 u2 c2 l1' u1' : Int} {d : Nat} {x y : Value} {N : Int} {w w' : World} (h : MW w0 g1 g2 l1 u1 c1 l2 u2 c2 d x y N w) (hg : g1 ≠ g2) (hw : w0.heap.size < g1) (hv : ArrN w0 d (.agg #[x, y]) N)
    (h1 : w'.heap[g1]? = some (mcell l1' u1' c1)) (ho : Only g1 w w') : MW w0 g1 g2 l1' u1' c1 l2 u2 c2 d x y N w' := by
  have hb := only_below h.bel (Nat.le_of_lt hw) ho
  exact ⟨h1, blk_grown h.m2 ho.grown (by simp; omega), blk_grown h.box ho.grown (by simp; omega), hv.below hb, hb⟩
theorem two_step2 {w0 : World} {g1 g2 : Nat} {l1 u1 c1 l2 u2 c2 l2' u2' : Int} {d : Nat} {x y : Value} {N : Int} {w w' : World} (h : MW w0 g1 g2 l1 u1 c1 l2 u2 c2 d x y N w) (hg : g1 ≠ g2) (hw : w0.heap.size < g2) (hv : ArrN w0 d (.agg #[x, y]) N)
    (h2 : w'.heap[g2]? = some (mcell l2' u2' c2)) (ho : Only g2 w w') : MW w0 g1 g2 l1 u1 c1 l2' u2' c2 d x y N w' := by
  have hb := only_below h.bel (Nat.le_of_lt hw) ho
  exact ⟨blk_grown h.m1 ho.grown (by simp; omega), h2, blk_grown h.box ho.grown (by simp; omega), hv.below hb, hb⟩
end Go.Proofs.Ytmalhpadnnlfjaa
