/- Rows of whole numbers in memory, read or owned; cuts of them. -/
import Derived.Test.YtollglblkbjgjaaXLib
import Derived.Laws.Slices
import Derived.ChangeSlices
import Derived.WalkKit
namespace Go.Proofs.Ytollglblkbjgjaa
open Go.RowKit

def nums (k : IntKind) (xs : List Int) : List Value := xs.map fun x => .int k x
theorem nums_length (k : IntKind) (xs : List Int) : (nums k xs).length = xs.length := by simp [nums]
theorem nums_append (k : IntKind) (xs ys : List Int) : nums k (xs ++ ys) = nums k xs ++ nums k ys := by simp [nums]
theorem nums_get (k : IntKind) (xs : List Int) (i : Nat) (h : i < xs.length) : (nums k xs)[i]? = some (.int k (xs.getD i 0)) := by simp [nums, List.getElem?_eq_getElem h, List.getD_eq_getElem?_getD]
theorem nums_one {k : IntKind} {xs : List Int} : ∀ u ∈ nums k xs, u.oneCell' = true := by
 intro u hu
 obtain ⟨x, _, rfl⟩ := List.mem_map.1 hu
 rfl

/-- a row of whole numbers that can be read at an address -/
def RowAt (k : IntKind) (w : World) (A : Option Addr) (l : List Int) : Prop :=
 l.length ≤ 9223372036854775807 ∧ (0 < l.length → ∃ b off, A = some ⟨b, off, none⟩ ∧ ∀ i, i < l.length → w.cell? ⟨b, off + i, none⟩ = some (.int k (l.getD i 0)))

theorem RowAt.nil (k : IntKind) (w : World) (A : Option Addr) : RowAt k w A [] := ⟨by simp, fun h => by simp at h⟩
theorem RowAt.below {k : IntKind} {w w' : World} {A : Option Addr} {l : List Int} (h : RowAt k w A l) (hb : Below w.heap.size w w') : RowAt k w' A l := by
 refine ⟨h.1, fun hp => ?_⟩
 obtain ⟨b, off, e, hc⟩ := h.2 hp
 exact ⟨b, off, e, fun i hi => cell_below hb (hc i hi)⟩
theorem RowAt.take {k : IntKind} {w : World} {A : Option Addr} {l : List Int} (h : RowAt k w A l) (i : Nat) : RowAt k w A (l.take i) := by
 refine ⟨by have := h.1; rw [List.length_take]; omega, fun hp => ?_⟩
 rw [List.length_take] at hp
 obtain ⟨b, off, e, hc⟩ := h.2 (by omega)
 refine ⟨b, off, e, fun j hj => ?_⟩
 rw [List.length_take] at hj
 rw [hc j (by omega)]
 simp [List.getD_eq_getElem?_getD, show j < i by omega]
theorem RowAt.drop {k : IntKind} {w : World} {A : Option Addr} {l : List Int} (h : RowAt k w A l) (i : Nat) {c : Nat} (hc : l.length ≤ c) : RowAt k w (if c = i then A else A.map (·.add i)) (l.drop i) := by
 refine ⟨by have := h.1; rw [List.length_drop]; omega, fun hp => ?_⟩
 rw [List.length_drop] at hp
 obtain ⟨b, off, rfl, hcell⟩ := h.2 (by omega)
 rw [if_neg (by omega)]
 refine ⟨b, off + i, by simp [Addr.add], fun j hj => ?_⟩
 rw [List.length_drop] at hj
 rw [Nat.add_assoc, hcell (i + j) (by omega)]
 simp [List.getD_eq_getElem?_getD, List.getElem?_drop]
theorem own_row {k : IntKind} {w : World} {base n : Nat} {e : TypeId} {v : Value} {xs : List Int} (h : w.ownsRow base e 1 v n (nums k xs)) : ∃ A c, v = .slice A n c ∧ n ≤ c ∧ c ≤ 9223372036854775807 ∧ xs.length = n ∧ (A = none → n = 0 ∧ c = 0) ∧ RowAt k w A xs := by
 have hl : xs.length = n := by have := h.1; rw [nums_length] at this; omega
 rcases h.2 with ⟨rfl, rfl⟩ | ⟨g, cap, cur, rfl, hb, hg, hc, hm, hs, ht⟩
 ·obtain rfl : xs = [] := List.length_eq_zero_iff.1 hl
  exact ⟨none, 0, rfl, Nat.le_refl _, by omega, hl, fun _ => ⟨rfl, rfl⟩, RowAt.nil _ _ _⟩
 ·unfold maxLen at hm
  refine ⟨_, _, rfl, hc, hm, hl, fun h => by simp at h, by omega, fun hp => ⟨g, 0, rfl, fun i hi => ?_⟩⟩
  rw [Nat.zero_add, h.cellAt i (by omega), nums_get _ _ _ hi]
theorem RowAt.cells {k : IntKind} {w : World} {A : Option Addr} {l : List Int} (h : RowAt k w A l) (b : Addr) (hb : A = some b) (j : Nat) (u : Value) (hu : (nums k l)[j]? = some u) : w.cell? (b.add j) = some u := by
 have hj : j < l.length := by
  rcases Nat.lt_or_ge j l.length with h1 | h1
  ·exact h1
  ·rw [List.getElem?_eq_none (by rw [nums_length]; exact h1)] at hu; cases hu
 obtain ⟨b', off, e, hc⟩ := h.2 (by omega)
 rw [hb] at e
 cases e
 rw [WideShapes.add_plain, hc j hj, ← nums_get _ _ _ hj, hu]

/-- 'xs[m:]' without a case on the capacity: the new address is a letter. -/
theorem cut_from {P : Program} (t e : TypeId) {i : TypeInfo} (ht : P.underlying t = some (.slice e)) (hi : P.info? e = some i) (hsz : i.size = 1) (A : Option Addr) (n c m : Nat) (hm : m ≤ n) (hc : n ≤ c) :
  ∃ A' : Option Addr, (∀ W : World, (Instr.slice t (.slice A n c) (some (.int .i64 (m : Int))) none none).run P W = .ok (.slice A' (n - m) (c - m)) W) ∧
   ∀ (w : World) (k : IntKind) (xs : List Int), xs.length = n → RowAt k w A xs → RowAt k w A' (xs.drop m) := by
 refine ⟨if c = m then A else A.map (·.add m), fun W => ?_, fun w k xs hl h => h.drop m (by omega)⟩
 have hel : P.elem t = e := by simp [Program.elem, ht]
 have hu : P.underlying t = some (.slice (P.elem t)) := by rw [hel]; exact ht
 rw [run_slice_l W t A n c hu .i64 (m : Int) (Int.natCast_nonneg _) (by omega), hel]
 simp [sizeOf, typeInfo, hi, hsz, sliced, Result.andThen]
/-- 'xs[m:h]' -/
theorem cut_mid {P : Program} (t e : TypeId) {i : TypeInfo} (ht : P.underlying t = some (.slice e)) (hi : P.info? e = some i) (hsz : i.size = 1) (A : Option Addr) (n c m h : Nat) (hm : m ≤ h) (hh : h ≤ n) (hc : n ≤ c) :
  ∃ A' : Option Addr, (∀ W : World, (Instr.slice t (.slice A n c) (some (.int .i64 (m : Int))) (some (.int .i64 (h : Int))) none).run P W = .ok (.slice A' (h - m) (c - m)) W) ∧
   ∀ (w : World) (k : IntKind) (xs : List Int), xs.length = n → RowAt k w A xs → RowAt k w A' ((xs.take h).drop m) := by
 refine ⟨if c = m then A else A.map (·.add m), fun W => ?_, fun w k xs hl hr => (hr.take h).drop m (by rw [List.length_take]; omega)⟩
 have hel : P.elem t = e := by simp [Program.elem, ht]
 have hu : P.underlying t = some (.slice (P.elem t)) := by rw [hel]; exact ht
 rw [run_slice_lh W t A n c hu .i64 .i64 (m : Int) (h : Int) (Int.natCast_nonneg _) (by omega) (by omega), hel]
 simp [sizeOf, typeInfo, hi, hsz, sliced, Result.andThen]

/-- a slice argument of whole numbers, as the row opens it -/
def IsRow (k : IntKind) (w : World) (a : Option Addr) (len cap : Nat) (zs : List Int) : Prop :=
 (a = none ∧ len = 0 ∧ cap = 0 ∧ zs = []) ∨
 ∃ x, a = some x ∧ len ≤ cap ∧ cap ≤ maxLen ∧ zs.length = cap ∧ (∀ i, i < zs.length → w.cell? (x.add i) = some (.int k (zs.getD i 0))) ∧ ∀ n ∈ zs, (Lit.int k n).wf = true

theorem IsRow.row {k : IntKind} {w : World} {A : Option Addr} {n c : Nat} {zs : List Int} (h : IsRow k w A n c zs) : RowAt k w A (zs.take n) ∧ (zs.take n).length = n ∧ n ≤ c ∧ (A = none → n = 0 ∧ c = 0) ∧ ∀ x ∈ zs.take n, (Lit.int k x).wf = true := by
 rcases h with ⟨rfl, rfl, rfl, rfl⟩ | ⟨x, rfl, hn, hc, hz, hcell, hwf⟩
 ·exact ⟨RowAt.nil _ _ _, rfl, Nat.le_refl _, fun _ => ⟨rfl, rfl⟩, fun x hx => by simp at hx⟩
 ·have hl : (zs.take n).length = n := by rw [List.length_take]; omega
  refine ⟨⟨by unfold maxLen at hc; omega, fun hp => ?_⟩, hl, hn, fun h => by simp at h, fun y hy => hwf y (List.mem_of_mem_take hy)⟩
  have h0 := hcell 0 (by omega)
  have hs : x.spot = none := by simpa [Addr.add] using World.cell?_spot h0
  obtain ⟨b, off, spot⟩ := x
  simp only at hs
  subst hs
  refine ⟨b, off, rfl, fun i hi => ?_⟩
  rw [← WideShapes.add_plain, hcell i (by omega)]
  simp [List.getD_eq_getElem?_getD, show i < n by omega]
end Go.Proofs.Ytollglblkbjgjaa
