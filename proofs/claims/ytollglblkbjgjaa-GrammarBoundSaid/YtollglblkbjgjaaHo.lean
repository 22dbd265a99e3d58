/- Grammar and words that the row's form reads as data read in memory as the contracts ask it. Conditions: none. -/
import Derived.Test.YtollglblkbjgjaaGx
import Derived.Deep.Slices
import Derived.Deep.Strs
import Derived.Lib.SmallJoins
import Derived.SizedLaws
namespace Go.Proofs.Ytollglblkbjgjaa
open Go.RowKit

section
variable {H : Type} {enc : TypeId × Value → H} {w : World} {base : Nat} {spare : Nat → Bool} {held : Bool}
theorem weightsAll_mem {P : Program} {e : TypeId} : ∀ {l : List (DataW H)} {d : DataW H}, d ∈ l → ∀ z ∈ d.weights P e, z ∈ DataW.weightsAll P e l
  | d0 :: l, d, hd, z, hz => by
    simp only [DataW.weightsAll, List.mem_append]
    rcases List.mem_cons.1 hd with rfl | h
    · exact .inl hz
    · exact .inr (weightsAll_mem h z hz)
theorem slice_readW {t e : TypeId} {k : Nat} (hk : Try.prog.cellsOf e = k) (hk0 : 0 < k) {fuel : Nat} {cs : List Value} {x : DataW H × List MemPlace} (ht : Try.prog.underlying t = some (.slice e)) (h : DataW.trod enc Try.prog w base spare held fuel t cs = some x) :
    ∃ A n c m, cs = [.slice A n c] ∧ n ≤ 9223372036854775807 ∧ (0 < n → ∃ b off, A = some ⟨b, off, none⟩ ∧ ∀ i, i < n → ∃ cs' y, cs'.length = k ∧ (∀ j, j < k → w.cell? ⟨b, off + i * k + j, none⟩ = cs'[j]?) ∧ DataW.trod enc Try.prog w base spare held m e cs' = some y ∧ ∀ z ∈ y.1.weights Try.prog e, z ∈ x.1.weights Try.prog t) := by
  rcases DataW.trod_slice ht h with ⟨rfl, _⟩ | ⟨a, len, cap, elems, rest, n, hf, rfl, hx, hb, hl, hm, hlen, hel, _⟩
  · exact ⟨none, 0, 0, 0, rfl, by omega, fun h0 => absurd h0 (Nat.lt_irrefl 0)⟩
  · refine ⟨some a, len, cap, n, rfl, by unfold maxLen at hm; omega, fun h0 => ?_⟩
    have each : ∀ i, i < len → ∃ cs' y, cs'.length = k ∧ (∀ j, j < k → w.cell? ((a.add (i * k)).add j) = cs'[j]?) ∧ DataW.trod enc Try.prog w base spare held n e cs' = some y ∧ ∀ z ∈ y.1.weights Try.prog e, z ∈ x.1.weights Try.prog t := by
      intro i hi
      have hx2 := hel i hi
      rw [List.getElem?_eq_getElem (by omega), hk] at hx2
      obtain ⟨cs', h1, h2⟩ := Option.bind_eq_some_iff.1 hx2
      obtain ⟨_, h4, h5⟩ := World.cells?_some h1
      refine ⟨cs', _, h4, h5, h2, fun z hz => ?_⟩
      rw [hx]
      simp only [DataW.weights, ht, List.mem_cons, List.mem_append]
      exact .inr (.inl (weightsAll_mem (List.mem_map.2 ⟨elems[i]'(by omega), List.getElem_mem _, rfl⟩) z hz))
    obtain ⟨cs0, y0, h1, h2, _⟩ := each 0 h0
    have hsp : a.spot = none := by
      have h3 := h2 0 hk0
      rw [List.getElem?_eq_getElem (by omega)] at h3
      simpa [Addr.add] using World.cell?_spot h3
    obtain ⟨b, off, spot⟩ := a
    simp only at hsp
    subst hsp
    refine ⟨b, off, rfl, fun i hi => ?_⟩
    obtain ⟨cs', y, h4, h5, h6, h7⟩ := each i hi
    refine ⟨cs', y, h4, fun j hj => ?_, h6, h7⟩
    rw [← h5 j hj, Deep.add_add, Go.WideShapes.add_plain, Nat.add_assoc]
theorem range_get {α : Type} (f : Nat → α) (n j : Nat) (x : α) (h : ((List.range n).map f)[j]? = some x) : j < n ∧ x = f j := by
  rw [List.getElem?_map] at h
  by_cases hj : j < n
  · rw [List.getElem?_range hj] at h
    simp at h
    exact ⟨hj, h.symm⟩
  · rw [List.getElem?_eq_none (by simp; omega)] at h
    cases h
theorem k9 : Try.prog.cellsOf 9 = 1 := by kernel_rfl
theorem k3 : Try.prog.cellsOf 3 = 1 := by kernel_rfl
theorem k4 : Try.prog.cellsOf 4 = 1 := by kernel_rfl
theorem k22 : Try.prog.cellsOf 22 = 1 := by kernel_rfl
theorem k36 : Try.prog.cellsOf 36 = 2 := by kernel_rfl
theorem k43 : Try.prog.cellsOf 43 = 5 := by kernel_rfl
theorem k24 : Try.prog.cellsOf 24 = 14 := by kernel_rfl
theorem strs_of_trod {fuel : Nat} {cs : List Value} {x : DataW H × List MemPlace} (h : DataW.trod enc Try.prog w base spare held fuel 22 cs = some x) : ∃ (A : Option Addr) (c : Nat) (l : List ByteArray), cs = [.slice A l.length c] ∧ StrsAt w A l := by
  obtain ⟨A, n, c, m, rfl, hn, hm, hel⟩ := slice_read k9 (by omega) Try.underlying22 h
  obtain ⟨f, hf⟩ := Deep.choose_lt (α := ByteArray) (n := n) (p := fun i s => ∃ b off, A = some ⟨b, off, none⟩ ∧ w.cell? ⟨b, off + i, none⟩ = some (.string s)) (fun i hi => by
    obtain ⟨b, off, hA, he⟩ := hel (by omega)
    obtain ⟨cs', y, hl, hc, hy⟩ := he i hi
    obtain ⟨s, rfl, _, _⟩ := DataW.trod_string Try.underlying9 hy
    exact ⟨s, b, off, hA, by simpa using hc 0 (by omega)⟩)
  refine ⟨A, c, (List.range n).map f, by simp, fun h0 => ?_⟩
  simp at h0
  obtain ⟨b, off, hA, _⟩ := hf 0 h0
  refine ⟨b, off, hA, fun j x hx => ?_⟩
  obtain ⟨hj, rfl⟩ := range_get f n j x hx
  obtain ⟨b', off', hA', hc⟩ := hf j hj
  rw [hA] at hA'
  simp only [Option.some.injEq, Addr.mk.injEq, and_true] at hA'
  obtain ⟨rfl, rfl⟩ := hA'
  exact hc
instance : Inhabited Tok := ⟨⟨0, ⟨#[]⟩, Lt.zero, 0⟩⟩
theorem lit_of_arr {d : Nat} {c0 c1 : Value} {N : Int} (h : ArrN w d (.agg #[c0, c1]) N) : ∃ l : Lt, c0 = .slice l.sA l.sn l.sc ∧ c1 = .slice l.cA l.cn l.cc ∧ LitRead w l l.c0 l.n0 := by
  cases d with
  | zero => exact h.elim
  | succ d =>
    obtain ⟨sA, sn, sc, A, n, c, kd, nm, bA, bn, bc, eA, fA, en, ec, fn, fc, f, h1, h2, h3, h4, h5⟩ := h
    simp only [Value.agg.injEq, Array.mk.injEq, List.cons.injEq, and_true] at h1
    obtain ⟨rfl, rfl⟩ := h1
    refine ⟨⟨sA, sn, sc, A, n, c, kd 0, nm 0⟩, rfl, rfl, fun h0 => ?_⟩
    obtain ⟨b, off, hA, he⟩ := h5 h0
    obtain ⟨g1, g2, _⟩ := he 0 h0
    exact ⟨b, off, hA, by simpa using g1, by simpa using g2⟩
theorem cells5 {cs : List Value} (h : cs.length = 5) : ∃ c0 c1 c2 c3 c4, cs = [c0, c1, c2, c3, c4] := by
  match cs, h with
  | [c0, c1, c2, c3, c4], _ => exact ⟨c0, c1, c2, c3, c4, rfl⟩
set_option maxRecDepth 100000 in
theorem tok_of_trod {fuel : Nat} {cs : List Value} {y : DataW H × List MemPlace} (h : DataW.trod enc Try.prog w base spare held fuel 43 cs = some y) : ∃ t : Tok, cs = [.int .i64 t.kind, .string t.text, .slice t.lit.sA t.lit.sn t.lit.sc, .slice t.lit.cA t.lit.cn t.lit.cc, .int .i64 t.at_] ∧ (∃ (d : Nat) (N : Int), ArrN w d (.agg #[.slice t.lit.sA t.lit.sn t.lit.sc, .slice t.lit.cA t.lit.cn t.lit.cc]) N) ∧ LitRead w t.lit t.lit.c0 t.lit.n0 ∧ ∀ R, (∀ z ∈ y.1.weights Try.prog 43, z ≤ R) → t.text.size ≤ R := by
  obtain ⟨xs, n, hfu, rfl, hl, hlen, hf⟩ := DataW.trod_struct Try.underlying43 h
  have hl5 : cs.length = 5 := hl.trans k43
  obtain ⟨c0, c1, c2, c3, c4, rfl⟩ := cells5 hl5
  have f0 : DataW.trod enc Try.prog w base spare held n 3 (([c0, c1, c2, c3, c4].drop 0).take (Try.prog.cellsOf 3)) = xs[0]? := hf 0 _ rfl
  have f1 : DataW.trod enc Try.prog w base spare held n 9 (([c0, c1, c2, c3, c4].drop 1).take (Try.prog.cellsOf 9)) = xs[1]? := hf 1 _ rfl
  have f2 : DataW.trod enc Try.prog w base spare held n 36 (([c0, c1, c2, c3, c4].drop 2).take (Try.prog.cellsOf 36)) = xs[2]? := hf 2 _ rfl
  have f3 : DataW.trod enc Try.prog w base spare held n 3 (([c0, c1, c2, c3, c4].drop 4).take (Try.prog.cellsOf 3)) = xs[3]? := hf 3 _ rfl
  have hx4 : xs.length = 4 := hlen
  rw [List.getElem?_eq_getElem (by rw [hlen]; decide)] at f0 f1 f2 f3
  simp only [k3, k9, k36, List.drop_zero, List.take_succ_cons, List.take_zero, List.drop_succ_cons] at f0 f1 f2 f3
  obtain ⟨a0, e0, _, _⟩ := DataW.trod_int Try.underlying3 f0
  obtain ⟨s, e1, hx1, _⟩ := DataW.trod_string Try.underlying9 f1
  obtain ⟨d0, d1, N, e2, hA⟩ := arrN_of_trod n _ _ f2
  obtain ⟨a3, e3, _, _⟩ := DataW.trod_int Try.underlying3 f3
  simp only [List.cons.injEq, and_true] at e0 e1 e2 e3
  obtain ⟨rfl, rfl⟩ := e2
  obtain ⟨l, rfl, rfl, hlr⟩ := lit_of_arr hA
  subst e0 e1 e3
  refine ⟨⟨a0, s, l, a3⟩, rfl, ⟨n, N, hA⟩, hlr, fun R hR => ?_⟩
  refine hR _ ?_
  simp only [DataW.weights, Try.underlying43]
  refine DataW.weights_mem_each (j := 1) (t := 9) (d := xs[1].1) rfl (by rw [List.getElem?_map, List.getElem?_eq_getElem (by omega)]; rfl) _ ?_
  rw [hx1]
  simp [DataW.weights]
theorem toks_of_trod {fuel : Nat} {cs : List Value} {x : DataW H × List MemPlace} (h : DataW.trod enc Try.prog w base spare held fuel 25 cs = some x) (R : Nat) (hR : ∀ z ∈ x.1.weights Try.prog 25, z ≤ R) : ∃ (A : Option Addr) (c : Nat) (L : List Tok), cs = [.slice A L.length c] ∧ ToksRead w A L ∧ ∀ (i : Nat) (t : Tok), L[i]? = some t → (∃ (d : Nat) (N : Int), ArrN w d (.agg #[.slice t.lit.sA t.lit.sn t.lit.sc, .slice t.lit.cA t.lit.cn t.lit.cc]) N) ∧ t.text.size ≤ R := by
  obtain ⟨A, n, c, m, rfl, hn, hel⟩ := slice_readW k43 (by omega) Try.underlying25 h
  obtain ⟨f, hf⟩ := Deep.choose_lt (α := Tok) (n := n) (p := fun i t => ∃ b off, A = some ⟨b, off, none⟩ ∧ TokAt w b (off + i * 5) t ∧ (∃ (d : Nat) (N : Int), ArrN w d (.agg #[.slice t.lit.sA t.lit.sn t.lit.sc, .slice t.lit.cA t.lit.cn t.lit.cc]) N) ∧ t.text.size ≤ R) (fun i hi => by
    obtain ⟨b, off, hA, he⟩ := hel (by omega)
    obtain ⟨cs', y, hl, hc, hy, hz⟩ := he i hi
    obtain ⟨t, rfl, h1, h2, h3⟩ := tok_of_trod hy
    exact ⟨t, b, off, hA, ⟨hc 0 (by omega), hc 1 (by omega), hc 2 (by omega), hc 3 (by omega), hc 4 (by omega), h2⟩, h1, h3 R fun z hz' => hR z (hz z hz')⟩)
  refine ⟨A, c, (List.range n).map f, by simp, fun h0 => ?_, fun i t ht => ?_⟩
  · simp at h0
    obtain ⟨b, off, hA, _⟩ := hf 0 h0
    refine ⟨b, off, hA, fun j x hx => ?_⟩
    obtain ⟨hj, rfl⟩ := range_get f n j x hx
    obtain ⟨b', off', hA', hc, _⟩ := hf j hj
    rw [hA] at hA'
    simp only [Option.some.injEq, Addr.mk.injEq, and_true] at hA'
    obtain ⟨rfl, rfl⟩ := hA'
    exact hc
  · obtain ⟨hj, rfl⟩ := range_get f n i t ht
    obtain ⟨_, _, _, _, h1, h2⟩ := hf i hj
    exact ⟨h1, h2⟩
theorem cells14 {cs : Array Value} (h : cs.size = 14) : ∃ c0 c1 c2 c3 c4 c5 c6 c7 c8 c9 c10 c11 c12 c13, cs = #[c0, c1, c2, c3, c4, c5, c6, c7, c8, c9, c10, c11, c12, c13] := by
  obtain ⟨l⟩ := cs
  match l, h with
  | [c0, c1, c2, c3, c4, c5, c6, c7, c8, c9, c10, c11, c12, c13], _ => exact ⟨c0, c1, c2, c3, c4, c5, c6, c7, c8, c9, c10, c11, c12, c13, rfl⟩
set_option maxRecDepth 100000 in
theorem gram_of_trod {r : Reach} {b0 : Nat} {v : Value} {d : DataW H} {p : List MemPlace} (hv : Value.okWide Try.prog w r b0 24 v) (h : DataW.Trod enc Try.prog w base spare held 24 v d p) : ∃ E : Env, (∀ lA lc L en, v = { E with lA := lA, lc := lc, L := L, en := en }.gramV) ∧ StrsAt w E.vA E.vs ∧ StrsAt w E.aA E.as_ ∧ StrsAt w E.bA E.bs := by
  obtain ⟨cs, rfl, hsz⟩ := Go.WideShapes.okWide_struct Try.underlying24 hv
  obtain ⟨c0, c1, c2, c3, c4, c5, c6, c7, c8, c9, c10, c11, c12, c13, rfl⟩ := cells14 (hsz.trans k24)
  obtain ⟨fuel, hf0⟩ := h
  obtain ⟨xs, n, hfu, hx, hl, hlen, hf⟩ := DataW.trod_struct Try.underlying24 hf0
  have hx14 : xs.length = 14 := hlen
  have f0 : DataW.trod enc Try.prog w base spare held n 22 (([c0, c1, c2, c3, c4, c5, c6, c7, c8, c9, c10, c11, c12, c13].drop 0).take (Try.prog.cellsOf 22)) = xs[0]? := hf 0 _ rfl
  have f1 : DataW.trod enc Try.prog w base spare held n 22 (([c0, c1, c2, c3, c4, c5, c6, c7, c8, c9, c10, c11, c12, c13].drop 1).take (Try.prog.cellsOf 22)) = xs[1]? := hf 1 _ rfl
  have f2 : DataW.trod enc Try.prog w base spare held n 22 (([c0, c1, c2, c3, c4, c5, c6, c7, c8, c9, c10, c11, c12, c13].drop 2).take (Try.prog.cellsOf 22)) = xs[2]? := hf 2 _ rfl
  have f3 : DataW.trod enc Try.prog w base spare held n 9 (([c0, c1, c2, c3, c4, c5, c6, c7, c8, c9, c10, c11, c12, c13].drop 3).take (Try.prog.cellsOf 9)) = xs[3]? := hf 3 _ rfl
  have f4 : DataW.trod enc Try.prog w base spare held n 9 (([c0, c1, c2, c3, c4, c5, c6, c7, c8, c9, c10, c11, c12, c13].drop 4).take (Try.prog.cellsOf 9)) = xs[4]? := hf 4 _ rfl
  have f5 : DataW.trod enc Try.prog w base spare held n 9 (([c0, c1, c2, c3, c4, c5, c6, c7, c8, c9, c10, c11, c12, c13].drop 5).take (Try.prog.cellsOf 9)) = xs[5]? := hf 5 _ rfl
  have f6 : DataW.trod enc Try.prog w base spare held n 9 (([c0, c1, c2, c3, c4, c5, c6, c7, c8, c9, c10, c11, c12, c13].drop 6).take (Try.prog.cellsOf 9)) = xs[6]? := hf 6 _ rfl
  have f7 : DataW.trod enc Try.prog w base spare held n 9 (([c0, c1, c2, c3, c4, c5, c6, c7, c8, c9, c10, c11, c12, c13].drop 7).take (Try.prog.cellsOf 9)) = xs[7]? := hf 7 _ rfl
  have f8 : DataW.trod enc Try.prog w base spare held n 9 (([c0, c1, c2, c3, c4, c5, c6, c7, c8, c9, c10, c11, c12, c13].drop 8).take (Try.prog.cellsOf 9)) = xs[8]? := hf 8 _ rfl
  have f9 : DataW.trod enc Try.prog w base spare held n 9 (([c0, c1, c2, c3, c4, c5, c6, c7, c8, c9, c10, c11, c12, c13].drop 9).take (Try.prog.cellsOf 9)) = xs[9]? := hf 9 _ rfl
  have f10 : DataW.trod enc Try.prog w base spare held n 9 (([c0, c1, c2, c3, c4, c5, c6, c7, c8, c9, c10, c11, c12, c13].drop 10).take (Try.prog.cellsOf 9)) = xs[10]? := hf 10 _ rfl
  have f11 : DataW.trod enc Try.prog w base spare held n 4 (([c0, c1, c2, c3, c4, c5, c6, c7, c8, c9, c10, c11, c12, c13].drop 11).take (Try.prog.cellsOf 4)) = xs[11]? := hf 11 _ rfl
  have f12 : DataW.trod enc Try.prog w base spare held n 4 (([c0, c1, c2, c3, c4, c5, c6, c7, c8, c9, c10, c11, c12, c13].drop 12).take (Try.prog.cellsOf 4)) = xs[12]? := hf 12 _ rfl
  have f13 : DataW.trod enc Try.prog w base spare held n 4 (([c0, c1, c2, c3, c4, c5, c6, c7, c8, c9, c10, c11, c12, c13].drop 13).take (Try.prog.cellsOf 4)) = xs[13]? := hf 13 _ rfl
  rw [List.getElem?_eq_getElem (by rw [hlen]; decide)] at f0 f1 f2 f3 f4 f5 f6 f7 f8 f9 f10 f11 f12 f13
  simp only [k4, k9, k22, List.drop_zero, List.take_succ_cons, List.take_zero, List.drop_succ_cons] at f0 f1 f2 f3 f4 f5 f6 f7 f8 f9 f10 f11 f12 f13
  obtain ⟨A0, n0, l0, e0, h0⟩ := strs_of_trod f0
  obtain ⟨A1, n1, l1, e1, h1⟩ := strs_of_trod f1
  obtain ⟨A2, n2, l2, e2, h2⟩ := strs_of_trod f2
  obtain ⟨s3, e3, _, _⟩ := DataW.trod_string Try.underlying9 f3
  obtain ⟨s4, e4, _, _⟩ := DataW.trod_string Try.underlying9 f4
  obtain ⟨s5, e5, _, _⟩ := DataW.trod_string Try.underlying9 f5
  obtain ⟨s6, e6, _, _⟩ := DataW.trod_string Try.underlying9 f6
  obtain ⟨s7, e7, _, _⟩ := DataW.trod_string Try.underlying9 f7
  obtain ⟨s8, e8, _, _⟩ := DataW.trod_string Try.underlying9 f8
  obtain ⟨s9, e9, _, _⟩ := DataW.trod_string Try.underlying9 f9
  obtain ⟨s10, e10, _, _⟩ := DataW.trod_string Try.underlying9 f10
  obtain ⟨b11, e11, _⟩ := DataW.trod_bool Try.underlying4 f11
  obtain ⟨b12, e12, _⟩ := DataW.trod_bool Try.underlying4 f12
  obtain ⟨b13, e13, _⟩ := DataW.trod_bool Try.underlying4 f13
  simp only [List.cons.injEq, and_true] at e0 e1 e2 e3 e4 e5 e6 e7 e8 e9 e10 e11 e12 e13
  subst e0 e1 e2 e3 e4 e5 e6 e7 e8 e9 e10 e11 e12 e13
  exact ⟨⟨A0, n0, l0, A1, n1, l1, A2, n2, l2, s3, s4, s5, s6, s7, s8, s9, s10, b11, b12, b13, none, 0, [], 0⟩, fun _ _ _ _ => rfl, h0, h1, h2⟩
end
end Go.Proofs.Ytollglblkbjgjaa
