/- An array that the row's form reads as data reads in memory as the contracts ask it. Conditions: none. -/
import Derived.Test.YtmalhpadnnlfjaaMd
import Derived.Deep.Slices
import Derived.Deep.Strs
import Derived.Lib.SmallJoins
namespace Go.Proofs.Ytmalhpadnnlfjaa
open Go.RowKit Go.ChangeShapes Go.WideShapes Go.Deep

theorem ArrN.succ {w : World} : ∀ {d : Nat} {v : Value} {N : Int}, ArrN w d v N → ArrN w (d + 1) v N
  | 0, _, _, h => h.elim
  | d + 1, v, N, ⟨sA, sn, sc, A, n, c, kd, nm, bA, bn, bc, eA, fA, en, ec, fn, fc, f, h1, h2, h3, h4, h5⟩ => by
    refine ⟨sA, sn, sc, A, n, c, kd, nm, bA, bn, bc, eA, fA, en, ec, fn, fc, f, h1, h2, h3, h4, fun hn => ?_⟩
    obtain ⟨b, off, e, h⟩ := h5 hn
    refine ⟨b, off, e, fun i hi => ?_⟩
    obtain ⟨g1, g2, g3, g4, g5⟩ := h i hi
    refine ⟨g1, g2, g3, g4, fun hm => ?_⟩
    obtain ⟨b', off', e', k⟩ := g5 hm
    exact ⟨b', off', e', fun j hj => ⟨(k j hj).1, (k j hj).2.1, ArrN.succ (k j hj).2.2⟩⟩

theorem ArrN.le {w : World} {d d' : Nat} {v : Value} {N : Int} (h : ArrN w d v N) (hd : d ≤ d') : ArrN w d' v N := by
  obtain ⟨k, rfl⟩ := Nat.exists_eq_add_of_le hd
  induction k with
  | zero => exact h
  | succ k ih => exact (ih (Nat.le_add_right _ _)).succ

section
variable {H : Type} {enc : TypeId × Value → H} {w : World} {base : Nat} {spare : Nat → Bool} {held : Bool}

/-- a slice that is read: its value, and each element's cells and reading, at less fuel -/
theorem slice_read {t e : TypeId} {k : Nat} (hk : Try.prog.cellsOf e = k) (hk0 : 0 < k) {fuel : Nat} {cs : List Value} {x : DataW H × List MemPlace} (ht : Try.prog.underlying t = some (.slice e)) (h : DataW.trod enc Try.prog w base spare held fuel t cs = some x) :
    ∃ A n c m, cs = [.slice A n c] ∧ n ≤ 9223372036854775807 ∧ m < fuel ∧ (0 < n → ∃ b off, A = some ⟨b, off, none⟩ ∧ ∀ i, i < n → ∃ cs' y, cs'.length = k ∧ (∀ j, j < k → w.cell? ⟨b, off + i * k + j, none⟩ = cs'[j]?) ∧ DataW.trod enc Try.prog w base spare held m e cs' = some y) := by
  rcases DataW.trod_slice ht h with ⟨rfl, _⟩ | ⟨a, len, cap, elems, rest, n, hf, rfl, _, hb, hl, hm, hlen, hel, _⟩
  · have hf0 : 0 < fuel := by
      cases fuel with
      | zero => simp [DataW.trod] at h
      | succ n => omega
    exact ⟨none, 0, 0, 0, rfl, by omega, hf0, fun h0 => absurd h0 (Nat.lt_irrefl 0)⟩
  · refine ⟨some a, len, cap, n, rfl, by unfold maxLen at hm; omega, by omega, fun h0 => ?_⟩
    have each : ∀ i, i < len → ∃ cs' y, cs'.length = k ∧ (∀ j, j < k → w.cell? ((a.add (i * k)).add j) = cs'[j]?) ∧ DataW.trod enc Try.prog w base spare held n e cs' = some y := by
      intro i hi
      have hx := hel i hi
      rw [List.getElem?_eq_getElem (by omega), hk] at hx
      obtain ⟨cs', h1, h2⟩ := Option.bind_eq_some_iff.1 hx
      obtain ⟨_, h4, h5⟩ := World.cells?_some h1
      exact ⟨cs', _, h4, h5, h2⟩
    obtain ⟨cs0, y0, h1, h2, _⟩ := each 0 h0
    have hsp : a.spot = none := by
      have h3 := h2 0 hk0
      rw [List.getElem?_eq_getElem (by omega)] at h3
      simpa [Addr.add] using World.cell?_spot h3
    obtain ⟨b, off, spot⟩ := a
    simp only at hsp
    subst hsp
    refine ⟨b, off, rfl, fun i hi => ?_⟩
    obtain ⟨cs', y, h4, h5, h6⟩ := each i hi
    refine ⟨cs', y, h4, fun j hj => ?_, h6⟩
    rw [← h5 j hj, Deep.add_add, add_plain, Nat.add_assoc]

theorem arrN_of_trod (fuel : Nat) : ∀ (cs : List Value) (x : DataW H × List MemPlace), DataW.trod enc Try.prog w base spare held fuel 38 cs = some x → ∃ c0 c1 N, cs = [c0, c1] ∧ ArrN w fuel (.agg #[c0, c1]) N := by
  induction fuel using Nat.strongRecOn with
  | _ fuel ih =>
    intro cs x h
    obtain ⟨xs, n, hfu, rfl, hl, hlen, hf⟩ := DataW.trod_struct Try.underlying38 h
    have hl2 : cs.length = 2 := hl.trans (by kernel_rfl)
    obtain ⟨c0, c1, rfl⟩ : ∃ c0 c1, cs = [c0, c1] := by
      match cs, hl2 with
      | [c0, c1], _ => exact ⟨c0, c1, rfl⟩
    have k35 : Try.prog.cellsOf 35 = 1 := by kernel_rfl
    have k36 : Try.prog.cellsOf 36 = 1 := by kernel_rfl
    have k3 : Try.prog.cellsOf 3 = 1 := by kernel_rfl
    have k2 : Try.prog.cellsOf 2 = 1 := by kernel_rfl
    have k54 : Try.prog.cellsOf 54 = 1 := by kernel_rfl
    have k56 : Try.prog.cellsOf 56 = 3 := by kernel_rfl
    have k38 : Try.prog.cellsOf 38 = 2 := by kernel_rfl
    have f0 : DataW.trod enc Try.prog w base spare held n 35 (([c0, c1].drop 0).take (Try.prog.cellsOf 35)) = xs[0]? := hf 0 _ rfl
    have f1 : DataW.trod enc Try.prog w base spare held n 36 (([c0, c1].drop 1).take (Try.prog.cellsOf 36)) = xs[1]? := hf 1 _ rfl
    rw [List.getElem?_eq_getElem (by rw [hlen]; decide)] at f0 f1
    simp only [k35, k36, List.drop_zero, List.take_succ_cons, List.take_zero, List.drop_succ_cons] at f0 f1
    obtain ⟨sA, sn, sc, _, e0, hs, _⟩ := slice_read k3 (by omega) Try.underlying35 f0
    obtain ⟨A, m, c, q, e1, hm, hq, hel⟩ := slice_read k56 (by omega) Try.underlying36 f1
    simp only [List.cons.injEq, and_true] at e0 e1
    subst e0 e1
    -- each cell
    have each : ∀ i, i < m → ∃ r : (Int × Int) × (Option Addr × Nat × Nat), ∃ g : Nat → (Option Addr × Nat × Nat) × (Option Addr × Nat × Nat) × Int, ∃ b off, A = some ⟨b, off, none⟩ ∧
        w.cell? ⟨b, off + i * 3, none⟩ = some (.int .i64 r.1.1) ∧ w.cell? ⟨b, off + i * 3 + 1, none⟩ = some (.int .i64 r.1.2) ∧ w.cell? ⟨b, off + i * 3 + 2, none⟩ = some (.slice r.2.1 r.2.2.1 r.2.2.2) ∧ r.2.2.1 ≤ 9223372036854775807 ∧
        (0 < r.2.2.1 → ∃ b' off', r.2.1 = some ⟨b', off', none⟩ ∧ ∀ j, j < r.2.2.1 → w.cell? ⟨b', off' + j * 2, none⟩ = some (.slice (g j).1.1 (g j).1.2.1 (g j).1.2.2) ∧ w.cell? ⟨b', off' + j * 2 + 1, none⟩ = some (.slice (g j).2.1.1 (g j).2.1.2.1 (g j).2.1.2.2) ∧
          ArrN w n (.agg #[.slice (g j).1.1 (g j).1.2.1 (g j).1.2.2, .slice (g j).2.1.1 (g j).2.1.2.1 (g j).2.1.2.2]) (g j).2.2) := by
      intro i hi
      obtain ⟨b, off, rfl, hc⟩ := hel (by omega)
      obtain ⟨cs', y, hl', hcell, hr⟩ := hc i hi
      obtain ⟨ys, n', hfu', rfl, _, hlen', hf'⟩ := DataW.trod_struct Try.underlying56 hr
      obtain ⟨z0, z1, z2, rfl⟩ : ∃ z0 z1 z2, cs' = [z0, z1, z2] := by
        match cs', hl' with
        | [z0, z1, z2], _ => exact ⟨z0, z1, z2, rfl⟩
      have p0 : DataW.trod enc Try.prog w base spare held n' 3 (([z0, z1, z2].drop 0).take (Try.prog.cellsOf 3)) = ys[0]? := hf' 0 _ rfl
      have p1 : DataW.trod enc Try.prog w base spare held n' 2 (([z0, z1, z2].drop 1).take (Try.prog.cellsOf 2)) = ys[1]? := hf' 1 _ rfl
      have p2 : DataW.trod enc Try.prog w base spare held n' 54 (([z0, z1, z2].drop 2).take (Try.prog.cellsOf 54)) = ys[2]? := hf' 2 _ rfl
      rw [List.getElem?_eq_getElem (by rw [hlen']; decide)] at p0 p1 p2
      simp only [k3, k2, k54, List.drop_zero, List.take_succ_cons, List.take_zero, List.drop_succ_cons] at p0 p1 p2
      obtain ⟨v0, e0, _, _⟩ := DataW.trod_int Try.underlying3 p0
      obtain ⟨v1, e1, _, _⟩ := DataW.trod_int Try.underlying2 p1
      obtain ⟨bA, bn, bc, q', e2, hbn, hq', hel'⟩ := slice_read k38 (by omega) Try.underlying54 p2
      simp only [List.cons.injEq, and_true] at e0 e1 e2
      subst e0 e1 e2
      have sub : ∀ j, j < bn → ∃ g : (Option Addr × Nat × Nat) × (Option Addr × Nat × Nat) × Int, ∃ b' off', bA = some ⟨b', off', none⟩ ∧ w.cell? ⟨b', off' + j * 2, none⟩ = some (.slice g.1.1 g.1.2.1 g.1.2.2) ∧ w.cell? ⟨b', off' + j * 2 + 1, none⟩ = some (.slice g.2.1.1 g.2.1.2.1 g.2.1.2.2) ∧
          ArrN w n (.agg #[.slice g.1.1 g.1.2.1 g.1.2.2, .slice g.2.1.1 g.2.1.2.1 g.2.1.2.2]) g.2.2 := by
        intro j hj
        obtain ⟨b', off', rfl, hc'⟩ := hel' (by omega)
        obtain ⟨cs2, y2, hl2', hcell2, hr2⟩ := hc' j hj
        obtain ⟨d0, d1, N, rfl, hA⟩ := ih q' (by omega) cs2 y2 hr2
        obtain ⟨sA', sn', sc', A', n'', c', hfm⟩ : ∃ sA sn sc A n c, Value.agg #[d0, d1] = .agg #[.slice sA sn sc, .slice A n c] := by
          cases q' with
          | zero => exact hA.elim
          | succ d => obtain ⟨sA, sn, sc, A, n, cc, _, _, _, _, _, _, _, _, _, _, _, _, h1, _⟩ := hA; exact ⟨_, _, _, _, _, _, h1⟩
        simp only [Value.agg.injEq, Array.mk.injEq, List.cons.injEq, and_true] at hfm
        obtain ⟨rfl, rfl⟩ := hfm
        exact ⟨((sA', sn', sc'), (A', n'', c'), N), b', off', rfl, by simpa using hcell2 0 (by omega), by simpa using hcell2 1 (by omega), hA.le (by omega)⟩
      obtain ⟨g, hg⟩ := choose_lt sub
      refine ⟨((v0, v1), (bA, bn, bc)), g, b, off, rfl, by simpa using hcell 0 (by omega), by simpa using hcell 1 (by omega), by simpa using hcell 2 (by omega), hbn, fun h0 => ?_⟩
      obtain ⟨b', off', hA, _⟩ := hel' h0
      refine ⟨b', off', hA, fun j hj => ?_⟩
      obtain ⟨b2, off2, hA2, r⟩ := hg j hj
      rw [hA] at hA2
      simp only [Option.some.injEq, Addr.mk.injEq, and_true] at hA2
      obtain ⟨rfl, rfl⟩ := hA2
      exact r
    obtain ⟨r, hr⟩ := choose_lt (α := ((Int × Int) × (Option Addr × Nat × Nat)) × (Nat → (Option Addr × Nat × Nat) × (Option Addr × Nat × Nat) × Int)) (p := fun i z => ∃ b off, A = some ⟨b, off, none⟩ ∧
        w.cell? ⟨b, off + i * 3, none⟩ = some (.int .i64 z.1.1.1) ∧ w.cell? ⟨b, off + i * 3 + 1, none⟩ = some (.int .i64 z.1.1.2) ∧ w.cell? ⟨b, off + i * 3 + 2, none⟩ = some (.slice z.1.2.1 z.1.2.2.1 z.1.2.2.2) ∧ z.1.2.2.1 ≤ 9223372036854775807 ∧
        (0 < z.1.2.2.1 → ∃ b' off', z.1.2.1 = some ⟨b', off', none⟩ ∧ ∀ j, j < z.1.2.2.1 → w.cell? ⟨b', off' + j * 2, none⟩ = some (.slice (z.2 j).1.1 (z.2 j).1.2.1 (z.2 j).1.2.2) ∧ w.cell? ⟨b', off' + j * 2 + 1, none⟩ = some (.slice (z.2 j).2.1.1 (z.2 j).2.1.2.1 (z.2 j).2.1.2.2) ∧
          ArrN w n (.agg #[.slice (z.2 j).1.1 (z.2 j).1.2.1 (z.2 j).1.2.2, .slice (z.2 j).2.1.1 (z.2 j).2.1.2.1 (z.2 j).2.1.2.2]) (z.2 j).2.2)) (fun i hi => by
        obtain ⟨r, g, h⟩ := each i hi
        exact ⟨(r, g), h⟩)
    refine ⟨_, _, accI (fun i => (r i).1.2.2.1) (fun i j => ((r i).2 j).2.2) m m, rfl, ?_⟩
    subst hfu
    refine ⟨sA, sn, sc, A, m, c, fun i => (r i).1.1.1, fun i => (r i).1.1.2, fun i => (r i).1.2.1, fun i => (r i).1.2.2.1, fun i => (r i).1.2.2.2, fun i j => ((r i).2 j).1.1, fun i j => ((r i).2 j).2.1.1, fun i j => ((r i).2 j).1.2.1, fun i j => ((r i).2 j).1.2.2, fun i j => ((r i).2 j).2.1.2.1, fun i j => ((r i).2 j).2.1.2.2, fun i j => ((r i).2 j).2.2, rfl, hs, hm, rfl, fun h0 => ?_⟩
    obtain ⟨b, off, hA, _⟩ := hr 0 h0
    refine ⟨b, off, hA, fun i hi => ?_⟩
    obtain ⟨b2, off2, hA2, q⟩ := hr i hi
    rw [hA] at hA2
    simp only [Option.some.injEq, Addr.mk.injEq, and_true] at hA2
    obtain ⟨rfl, rfl⟩ := hA2
    exact q
end
end Go.Proofs.Ytmalhpadnnlfjaa
