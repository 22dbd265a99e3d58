/- Contract of the reference's Weight: it returns, whatever the array; what the row's form reads as an array reads so. Conditions: the array reads in memory. -/
import Derived.Test.YtollglblkbjgjaaGs
import Derived.Deep.Slices
import Derived.Deep.Strs
import Derived.Lib.SmallJoins
namespace Go.Proofs.Ytollglblkbjgjaa
open Go.RowKit

/-- how a sum over a row of boxes goes on -/
def accJ (f : Nat → Int) (a : Int) : Nat → Int
 | 0 => a
 | j + 1 => wrap64 (accJ f a j + f j)
def accI (bn : Nat → Nat) (f : Nat → Nat → Int) (a : Int) : Nat → Int
 | 0 => a
 | i + 1 => accJ (f i) (accI bn f a i) (bn i)

/-- 'v' reads in 'w' as an array, so deep at most, of N cells in all. -/
def ArrN (w : World) : Nat → Value → Int → Prop
 | 0, _, _ => False
 | d + 1, v, N => ∃ (sA : Option Addr) (sn sc : Nat) (A : Option Addr) (n c : Nat) (kd nm : Nat → Int) (bA : Nat → Option Addr) (bn bc : Nat → Nat) (eA fA : Nat → Nat → Option Addr) (en ec fn fc : Nat → Nat → Nat) (f : Nat → Nat → Int),
   v = .agg #[.slice sA sn sc, .slice A n c] ∧ sn ≤ 9223372036854775807 ∧ n ≤ 9223372036854775807 ∧ N = accI bn f n n ∧
   (0 < n → ∃ b off, A = some ⟨b, off, none⟩ ∧ ∀ i, i < n → w.cell? ⟨b, off + i * 3, none⟩ = some (.int .i64 (kd i)) ∧ w.cell? ⟨b, off + i * 3 + 1, none⟩ = some (.int .i64 (nm i)) ∧ w.cell? ⟨b, off + i * 3 + 2, none⟩ = some (.slice (bA i) (bn i) (bc i)) ∧ bn i ≤ 9223372036854775807 ∧
      (0 < bn i → ∃ b' off', bA i = some ⟨b', off', none⟩ ∧ ∀ j, j < bn i → w.cell? ⟨b', off' + j * 2, none⟩ = some (.slice (eA i j) (en i j) (ec i j)) ∧ w.cell? ⟨b', off' + j * 2 + 1, none⟩ = some (.slice (fA i j) (fn i j) (fc i j)) ∧
         ArrN w d (.agg #[.slice (eA i j) (en i j) (ec i j), .slice (fA i j) (fn i j) (fc i j)]) (f i j)))

theorem ArrN.below {w w' : World} (hb : Below w.heap.size w w') : ∀ {d : Nat} {v : Value} {N : Int}, ArrN w d v N → ArrN w' d v N
 | 0, _, _, h => h.elim
 | d + 1, v, N, ⟨sA, sn, sc, A, n, c, kd, nm, bA, bn, bc, eA, fA, en, ec, fn, fc, f, h1, h2, h3, h4, h5⟩ => by
  refine ⟨sA, sn, sc, A, n, c, kd, nm, bA, bn, bc, eA, fA, en, ec, fn, fc, f, h1, h2, h3, h4, fun hn => ?_⟩
  obtain ⟨b, off, e, h⟩ := h5 hn
  refine ⟨b, off, e, fun i hi => ?_⟩
  obtain ⟨g1, g2, g3, g4, g5⟩ := h i hi
  refine ⟨cell_below hb g1, cell_below hb g2, cell_below hb g3, g4, fun hm => ?_⟩
  obtain ⟨b', off', e', k⟩ := g5 hm
  exact ⟨b', off', e', fun j hj => ⟨cell_below hb (k j hj).1, cell_below hb (k j hj).2.1, ArrN.below hb (k j hj).2.2⟩⟩

def SomeInt (w : World) (e : Ending) (w' : World) : Prop := ∃ r : Int, e = .returned (.int .i64 r) ∧ Below w.heap.size w w'

set_option maxRecDepth 100000 in
set_option maxHeartbeats 4000000 in
theorem weight_any (d : Nat) : ∀ (v : Value) (N : Int) (most deep : Int) (w : World), ArrN w d v N → Calls Try.prog 28 #[v, .int .i64 most, .int .i64 deep] w (SomeInt w) := by
 induction d with
 | zero => intro _ _ _ _ _ h; exact h.elim
 | succ d ih0 =>
  intro v N most deep w h
  obtain ⟨sA, sn, sc, A, n, c, kd, nm, bA, bn, bc, eA, fA, en, ec, fn, fc, f, h1, h2, h3, h4, h5⟩ := h
  have ih := Lib.hid ih0
  clear ih0
  subst h1
  have HN := Lib.hid h4
  have H5 := Lib.hid h5
  clear h4 h5
  go_enter Try.func28, Try.ntmps28
  go_wp2
  have q0 := Lib.hid (blk_new w (Obj.cells #[Value.slice sA sn sc, Value.slice A n c] 36))
  have hb0 := Lib.hid ((Below.refl w.heap.size w).alloc (Nat.le_refl _) (Obj.cells #[Value.slice sA sn sc, Value.slice A n c] 36))
  generalize w.alloc (Obj.cells #[Value.slice sA sn sc, Value.slice A n c] 36) = w1 at q0 hb0 ⊢
  go_loopw [7, 8] (fun acc i wr => ∃ k : Nat, k ≤ n ∧ i = .int .i64 k ∧ (∃ a : Int, acc = .int .i64 a) ∧ wr.heap[w.heap.size]? = some (.cells #[Value.slice sA sn sc, Value.slice A n c] 36 (0, 0)) ∧ Below w.heap.size w wr) (fun _ i _ => n - (intOf i).toNat)
  case atStart => exact ⟨0, Nat.zero_le _, rfl, ⟨_, rfl⟩, q0.out, hb0.out⟩
  case round =>
   obtain ⟨k, hk, rfl, ⟨a, rfl⟩, hq, hb⟩ := hrel
   have r0 := blk_cell hq 0
   have r1 := blk_cell hq 1
   have HQ := Lib.hid hq
   have HB := Lib.hid hb
   clear hq hb q0 hb0
   by_cases hlt : k < n
   ·by_cases ham : a ≤ most
    ·go_wp2_with fail
     obtain ⟨b, off, rfl, h⟩ := H5.out (by omega)
     obtain ⟨_, _, g3, g4, g5⟩ := h k hlt
     have G3 := Lib.hid g3
     have G5 := Lib.hid g5
     have HH := Lib.hid h
     clear g3 g5 h
     have hba := World.block_lt_of_cell? w _ G3.out
     go_loopw [7, 9] (fun acc j wr => ∃ q : Nat, q ≤ bn k ∧ j = .int .i64 q ∧ (∃ a : Int, acc = .int .i64 a) ∧ wr.heap[w.heap.size]? = some (.cells #[Value.slice sA sn sc, Value.slice (some ⟨b, off, none⟩) n c] 36 (0, 0)) ∧ Below w.heap.size w wr) (fun _ j _ => bn k - (intOf j).toNat)
     case atStart => exact ⟨0, Nat.zero_le _, rfl, ⟨_, rfl⟩, HQ.out, HB.out⟩
     case round =>
      clear HQ HB r0 r1 ham
      obtain ⟨q, hq, rfl, ⟨a2, rfl⟩, hqq, hb⟩ := hrel
      have r0 := blk_cell hqq 0
      have r1 := blk_cell hqq 1
      have r2 := (hb.cell (p := ⟨b, off + k * 3 + 2, none⟩) hba).trans G3.out
      have HQ := Lib.hid hqq
      have HB := Lib.hid hb
      clear hqq hb
      by_cases hlt2 : q < bn k
      ·by_cases ham2 : a2 ≤ most
       ·by_cases hd0 : deep = 0
        ·subst hd0
         go_wp2
         go_ret
         exact ⟨_, rfl, HB.out⟩
        ·obtain ⟨b', off', hA, h'⟩ := G5.out (by omega)
         obtain ⟨m1, m2, m3⟩ := h' q hlt2
         rw [hA] at r2
         have d1 := ((HB.out).cell (p := ⟨b', off' + q * 2, none⟩) (World.block_lt_of_cell? w _ m1)).trans m1
         have d2 := ((HB.out).cell (p := ⟨b', off' + q * 2 + 1, none⟩) (World.block_lt_of_cell? w _ m2)).trans m2
         have M3 := Lib.hid (m3.below HB.out)
         clear h' m1 m2 m3
         go_wp2_with fail
         refine (ih.out _ _ _ _ _ M3.out).mono ?_
         rintro e w2 ⟨r, rfl, hb2⟩
         have HB2 := Lib.hid (below_then HB.out HB.out.size hb2)
         have HQ2 := Lib.hid (blk_below HQ.out hb2 (blk_lt HQ.out))
         clear hb2 d1 d2 r0 r1 r2
         go_wp2
         go_roundw
         case rel => exact ⟨q + 1, by omega, by go_num, ⟨_, rfl⟩, HQ2.out, HB2.out⟩
         case measure => simp [intOf]; omega
       ·go_wp2
        go_roundw
        case rel => exact ⟨k + 1, by omega, by go_num, ⟨_, rfl⟩, HQ.out, HB.out⟩
        case measure => simp [intOf]; omega
      ·obtain rfl : q = bn k := by omega
       go_wp2
       go_roundw
       case rel => exact ⟨k + 1, by omega, by go_num, ⟨_, rfl⟩, HQ.out, HB.out⟩
       case measure => simp [intOf]; omega
    ·go_wp2
     go_ret
     exact ⟨_, rfl, HB.out⟩
   ·obtain rfl : k = n := by omega
    go_wp2
    go_ret
    exact ⟨_, rfl, HB.out⟩

theorem ArrN.form {w : World} {d : Nat} {v : Value} {N : Int} (h : ArrN w d v N) : ∃ sA sn sc A n c, v = .agg #[.slice sA sn sc, .slice A n c] := by
 cases d with
 | zero => exact h.elim
 | succ d => obtain ⟨sA, sn, sc, A, n, cc, _, _, _, _, _, _, _, _, _, _, _, _, h1, _⟩ := h; exact ⟨_, _, _, _, _, _, h1⟩

theorem weight0_any (d : Nat) (v : Value) (N : Int) (most : Int) (w : World) (h : ArrN w d v N) : Calls Try.prog 18 #[v, .int .i64 most] w (SomeInt w) := by
 obtain ⟨sA, sn, sc, A, n, c, rfl⟩ := h.form
 have hb := Lib.hid ((Below.refl w.heap.size w).alloc (Nat.le_refl _) (Obj.cells #[Value.slice sA sn sc, Value.slice A n c] 36))
 have H := Lib.hid (h.below hb.out)
 clear h
 go_enter Try.func18, Try.ntmps18
 go_wp2_with fail
 refine (weight_any _ _ _ _ _ _ H.out).mono ?_
 rintro e w2 ⟨r, rfl, hb2⟩
 have HB2 := Lib.hid (below_then hb.out hb.out.size hb2)
 clear hb2
 go_wp2
 go_ret
 exact ⟨_, rfl, HB2.out⟩

section
open Go.ChangeShapes Go.WideShapes Go.Deep
theorem ArrN.succ {w : World} : ∀ {d : Nat} {v : Value} {N : Int}, ArrN w d v N → ArrN w (d + 1) v N
 | 0, _, _, h => h.elim
 | d + 1, v, N, ⟨sA, sn, sc, A, n, c, kd, nm, bA, bn, bc, eA, fA, en, ec, fn, fc, f, h1, h2, h3, h4, h5⟩ => by
  refine ⟨sA, sn, sc, A, n, c, kd, nm, bA, bn, bc, eA, fA, en, ec, fn, fc, f, h1, h2, h3, h4, fun hn => ?_⟩
  obtain ⟨b, off, e, h⟩ := h5 hn
  refine ⟨b, off, e, fun i hi => ?_⟩
  obtain ⟨g1, g2, g3, g4, g5⟩ := h i hi
  refine ⟨g1, g2, g3, g4, fun hm => ?_⟩
  obtain ⟨b', off', e', k⟩ := g5 hm
  exact ⟨b', off', e', fun j hj => ⟨(k j hj).1, (k j hj).2.1, ArrN.succ (k j hj).2.2⟩⟩

theorem ArrN.le {w : World} {d d' : Nat} {v : Value} {N : Int} (h : ArrN w d v N) (hd : d ≤ d') : ArrN w d' v N := by
 obtain ⟨k, rfl⟩ := Nat.exists_eq_add_of_le hd
 induction k with
 | zero => exact h
 | succ k ih => exact (ih (Nat.le_add_right _ _)).succ

section
variable {H : Type} {enc : TypeId × Value → H} {w : World} {base : Nat} {spare : Nat → Bool} {held : Bool}

/-- a slice that is read: its value, and each element's cells and reading, at less fuel -/
theorem slice_read {t e : TypeId} {k : Nat} (hk : Try.prog.cellsOf e = k) (hk0 : 0 < k) {fuel : Nat} {cs : List Value} {x : DataW H × List MemPlace} (ht : Try.prog.underlying t = some (.slice e)) (h : DataW.trod enc Try.prog w base spare held fuel t cs = some x) :
  ∃ A n c m, cs = [.slice A n c] ∧ n ≤ 9223372036854775807 ∧ m < fuel ∧ (0 < n → ∃ b off, A = some ⟨b, off, none⟩ ∧ ∀ i, i < n → ∃ cs' y, cs'.length = k ∧ (∀ j, j < k → w.cell? ⟨b, off + i * k + j, none⟩ = cs'[j]?) ∧ DataW.trod enc Try.prog w base spare held m e cs' = some y) := by
 rcases DataW.trod_slice ht h with ⟨rfl, _⟩ | ⟨a, len, cap, elems, rest, n, hf, rfl, _, hb, hl, hm, hlen, hel, _⟩
 ·have hf0 : 0 < fuel := by
   cases fuel with
   | zero => simp [DataW.trod] at h
   | succ n => omega
  exact ⟨none, 0, 0, 0, rfl, by omega, hf0, fun h0 => absurd h0 (Nat.lt_irrefl 0)⟩
 ·refine ⟨some a, len, cap, n, rfl, by unfold maxLen at hm; omega, by omega, fun h0 => ?_⟩
  have each : ∀ i, i < len → ∃ cs' y, cs'.length = k ∧ (∀ j, j < k → w.cell? ((a.add (i * k)).add j) = cs'[j]?) ∧ DataW.trod enc Try.prog w base spare held n e cs' = some y := by
   intro i hi
   have hx := hel i hi
   rw [List.getElem?_eq_getElem (by omega), hk] at hx
   obtain ⟨cs', h1, h2⟩ := Option.bind_eq_some_iff.1 hx
   obtain ⟨_, h4, h5⟩ := World.cells?_some h1
   exact ⟨cs', _, h4, h5, h2⟩
  obtain ⟨cs0, y0, h1, h2, _⟩ := each 0 h0
  have hsp : a.spot = none := by
   have h3 := h2 0 hk0
   rw [List.getElem?_eq_getElem (by omega)] at h3
   simpa [Addr.add] using World.cell?_spot h3
  obtain ⟨b, off, spot⟩ := a
  simp only at hsp
  subst hsp
  refine ⟨b, off, rfl, fun i hi => ?_⟩
  obtain ⟨cs', y, h4, h5, h6⟩ := each i hi
  refine ⟨cs', y, h4, fun j hj => ?_, h6⟩
  rw [← h5 j hj, Deep.add_add, add_plain, Nat.add_assoc]

set_option maxRecDepth 100000 in
theorem arrN_of_trod (fuel : Nat) : ∀ (cs : List Value) (x : DataW H × List MemPlace), DataW.trod enc Try.prog w base spare held fuel 36 cs = some x → ∃ c0 c1 N, cs = [c0, c1] ∧ ArrN w fuel (.agg #[c0, c1]) N := by
 induction fuel using Nat.strongRecOn with
 | _ fuel ih =>
  intro cs x h
  obtain ⟨xs, n, hfu, rfl, hl, hlen, hf⟩ := DataW.trod_struct Try.underlying36 h
  have hl2 : cs.length = 2 := hl.trans (by kernel_rfl)
  obtain ⟨c0, c1, rfl⟩ : ∃ c0 c1, cs = [c0, c1] := by
   match cs, hl2 with
   | [c0, c1], _ => exact ⟨c0, c1, rfl⟩
  have k33x : Try.prog.cellsOf 33 = 1 := by kernel_rfl
  have k34x : Try.prog.cellsOf 34 = 1 := by kernel_rfl
  have k3 : Try.prog.cellsOf 3 = 1 := by kernel_rfl
  have k2 : Try.prog.cellsOf 2 = 1 := by kernel_rfl
  have k72x : Try.prog.cellsOf 72 = 1 := by kernel_rfl
  have k74x : Try.prog.cellsOf 74 = 3 := by kernel_rfl
  have k36x : Try.prog.cellsOf 36 = 2 := by kernel_rfl
  have f0 : DataW.trod enc Try.prog w base spare held n 33 (([c0, c1].drop 0).take (Try.prog.cellsOf 33)) = xs[0]? := hf 0 _ rfl
  have f1 : DataW.trod enc Try.prog w base spare held n 34 (([c0, c1].drop 1).take (Try.prog.cellsOf 34)) = xs[1]? := hf 1 _ rfl
  rw [List.getElem?_eq_getElem (by rw [hlen]; decide)] at f0 f1
  simp only [k33x, k34x, List.drop_zero, List.take_succ_cons, List.take_zero, List.drop_succ_cons] at f0 f1
  obtain ⟨sA, sn, sc, _, e0, hs, _⟩ := slice_read k3 (by omega) Try.underlying33 f0
  obtain ⟨A, m, c, q, e1, hm, hq, hel⟩ := slice_read k74x (by omega) Try.underlying34 f1
  simp only [List.cons.injEq, and_true] at e0 e1
  subst e0 e1
  -- each cell
  have each : ∀ i, i < m → ∃ r : (Int × Int) × (Option Addr × Nat × Nat), ∃ g : Nat → (Option Addr × Nat × Nat) × (Option Addr × Nat × Nat) × Int, ∃ b off, A = some ⟨b, off, none⟩ ∧
    w.cell? ⟨b, off + i * 3, none⟩ = some (.int .i64 r.1.1) ∧ w.cell? ⟨b, off + i * 3 + 1, none⟩ = some (.int .i64 r.1.2) ∧ w.cell? ⟨b, off + i * 3 + 2, none⟩ = some (.slice r.2.1 r.2.2.1 r.2.2.2) ∧ r.2.2.1 ≤ 9223372036854775807 ∧
    (0 < r.2.2.1 → ∃ b' off', r.2.1 = some ⟨b', off', none⟩ ∧ ∀ j, j < r.2.2.1 → w.cell? ⟨b', off' + j * 2, none⟩ = some (.slice (g j).1.1 (g j).1.2.1 (g j).1.2.2) ∧ w.cell? ⟨b', off' + j * 2 + 1, none⟩ = some (.slice (g j).2.1.1 (g j).2.1.2.1 (g j).2.1.2.2) ∧
       ArrN w n (.agg #[.slice (g j).1.1 (g j).1.2.1 (g j).1.2.2, .slice (g j).2.1.1 (g j).2.1.2.1 (g j).2.1.2.2]) (g j).2.2) := by
   intro i hi
   obtain ⟨b, off, rfl, hc⟩ := hel (by omega)
   obtain ⟨cs', y, hl', hcell, hr⟩ := hc i hi
   obtain ⟨ys, n', hfu', rfl, _, hlen', hf'⟩ := DataW.trod_struct Try.underlying74 hr
   obtain ⟨z0, z1, z2, rfl⟩ : ∃ z0 z1 z2, cs' = [z0, z1, z2] := by
    match cs', hl' with
    | [z0, z1, z2], _ => exact ⟨z0, z1, z2, rfl⟩
   have p0 : DataW.trod enc Try.prog w base spare held n' 3 (([z0, z1, z2].drop 0).take (Try.prog.cellsOf 3)) = ys[0]? := hf' 0 _ rfl
   have p1 : DataW.trod enc Try.prog w base spare held n' 2 (([z0, z1, z2].drop 1).take (Try.prog.cellsOf 2)) = ys[1]? := hf' 1 _ rfl
   have p2 : DataW.trod enc Try.prog w base spare held n' 72 (([z0, z1, z2].drop 2).take (Try.prog.cellsOf 72)) = ys[2]? := hf' 2 _ rfl
   rw [List.getElem?_eq_getElem (by rw [hlen']; decide)] at p0 p1 p2
   simp only [k3, k2, k72x, List.drop_zero, List.take_succ_cons, List.take_zero, List.drop_succ_cons] at p0 p1 p2
   obtain ⟨v0, e0, _, _⟩ := DataW.trod_int Try.underlying3 p0
   obtain ⟨v1, e1, _, _⟩ := DataW.trod_int Try.underlying2 p1
   obtain ⟨bA, bn, bc, q', e2, hbn, hq', hel'⟩ := slice_read k36x (by omega) Try.underlying72 p2
   simp only [List.cons.injEq, and_true] at e0 e1 e2
   subst e0 e1 e2
   have sub : ∀ j, j < bn → ∃ g : (Option Addr × Nat × Nat) × (Option Addr × Nat × Nat) × Int, ∃ b' off', bA = some ⟨b', off', none⟩ ∧ w.cell? ⟨b', off' + j * 2, none⟩ = some (.slice g.1.1 g.1.2.1 g.1.2.2) ∧ w.cell? ⟨b', off' + j * 2 + 1, none⟩ = some (.slice g.2.1.1 g.2.1.2.1 g.2.1.2.2) ∧
     ArrN w n (.agg #[.slice g.1.1 g.1.2.1 g.1.2.2, .slice g.2.1.1 g.2.1.2.1 g.2.1.2.2]) g.2.2 := by
    intro j hj
    obtain ⟨b', off', rfl, hc'⟩ := hel' (by omega)
    obtain ⟨cs2, y2, hl2', hcell2, hr2⟩ := hc' j hj
    obtain ⟨d0, d1, N, rfl, hA⟩ := ih q' (by omega) cs2 y2 hr2
    obtain ⟨sA', sn', sc', A', n'', c', hfm⟩ : ∃ sA sn sc A n c, Value.agg #[d0, d1] = .agg #[.slice sA sn sc, .slice A n c] := by
     cases q' with
     | zero => exact hA.elim
     | succ d => obtain ⟨sA, sn, sc, A, n, cc, _, _, _, _, _, _, _, _, _, _, _, _, h1, _⟩ := hA; exact ⟨_, _, _, _, _, _, h1⟩
    simp only [Value.agg.injEq, Array.mk.injEq, List.cons.injEq, and_true] at hfm
    obtain ⟨rfl, rfl⟩ := hfm
    exact ⟨((sA', sn', sc'), (A', n'', c'), N), b', off', rfl, by simpa using hcell2 0 (by omega), by simpa using hcell2 1 (by omega), hA.le (by omega)⟩
   obtain ⟨g, hg⟩ := choose_lt sub
   refine ⟨((v0, v1), (bA, bn, bc)), g, b, off, rfl, by simpa using hcell 0 (by omega), by simpa using hcell 1 (by omega), by simpa using hcell 2 (by omega), hbn, fun h0 => ?_⟩
   obtain ⟨b', off', hA, _⟩ := hel' h0
   refine ⟨b', off', hA, fun j hj => ?_⟩
   obtain ⟨b2, off2, hA2, r⟩ := hg j hj
   rw [hA] at hA2
   simp only [Option.some.injEq, Addr.mk.injEq, and_true] at hA2
   obtain ⟨rfl, rfl⟩ := hA2
   exact r
  obtain ⟨r, hr⟩ := choose_lt (α := ((Int × Int) × (Option Addr × Nat × Nat)) × (Nat → (Option Addr × Nat × Nat) × (Option Addr × Nat × Nat) × Int)) (p := fun i z => ∃ b off, A = some ⟨b, off, none⟩ ∧
    w.cell? ⟨b, off + i * 3, none⟩ = some (.int .i64 z.1.1.1) ∧ w.cell? ⟨b, off + i * 3 + 1, none⟩ = some (.int .i64 z.1.1.2) ∧ w.cell? ⟨b, off + i * 3 + 2, none⟩ = some (.slice z.1.2.1 z.1.2.2.1 z.1.2.2.2) ∧ z.1.2.2.1 ≤ 9223372036854775807 ∧
    (0 < z.1.2.2.1 → ∃ b' off', z.1.2.1 = some ⟨b', off', none⟩ ∧ ∀ j, j < z.1.2.2.1 → w.cell? ⟨b', off' + j * 2, none⟩ = some (.slice (z.2 j).1.1 (z.2 j).1.2.1 (z.2 j).1.2.2) ∧ w.cell? ⟨b', off' + j * 2 + 1, none⟩ = some (.slice (z.2 j).2.1.1 (z.2 j).2.1.2.1 (z.2 j).2.1.2.2) ∧
       ArrN w n (.agg #[.slice (z.2 j).1.1 (z.2 j).1.2.1 (z.2 j).1.2.2, .slice (z.2 j).2.1.1 (z.2 j).2.1.2.1 (z.2 j).2.1.2.2]) (z.2 j).2.2)) (fun i hi => by
    obtain ⟨r, g, h⟩ := each i hi
    exact ⟨(r, g), h⟩)
  refine ⟨_, _, accI (fun i => (r i).1.2.2.1) (fun i j => ((r i).2 j).2.2) m m, rfl, ?_⟩
  subst hfu
  refine ⟨sA, sn, sc, A, m, c, fun i => (r i).1.1.1, fun i => (r i).1.1.2, fun i => (r i).1.2.1, fun i => (r i).1.2.2.1, fun i => (r i).1.2.2.2, fun i j => ((r i).2 j).1.1, fun i j => ((r i).2 j).2.1.1, fun i j => ((r i).2 j).1.2.1, fun i j => ((r i).2 j).1.2.2, fun i j => ((r i).2 j).2.1.2.1, fun i j => ((r i).2 j).2.1.2.2, fun i j => ((r i).2 j).2.2, rfl, hs, hm, rfl, fun h0 => ?_⟩
  obtain ⟨b, off, hA, _⟩ := hr 0 h0
  refine ⟨b, off, hA, fun i hi => ?_⟩
  obtain ⟨b2, off2, hA2, q⟩ := hr i hi
  rw [hA] at hA2
  simp only [Option.some.injEq, Addr.mk.injEq, and_true] at hA2
  obtain ⟨rfl, rfl⟩ := hA2
  exact q
end
end
end Go.Proofs.Ytollglblkbjgjaa
