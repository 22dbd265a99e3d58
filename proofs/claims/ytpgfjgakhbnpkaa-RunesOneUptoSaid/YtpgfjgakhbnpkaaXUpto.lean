/- What the bound of an 'upto' statement gives of a slice or a string argument. -/
import Derived.Test.YtpgfjgakhbnpkaaRows
import Derived.ChangeSlices
namespace Go.Proofs.Ytpgfjgakhbnpkaa
open Go.ChangeShapes Go.WideShapes

theorem bulk_one {H : Type} (d : DataW H) : 1 ≤ Rows.uptoBulk d := by
  cases d with
  | lit l => cases l <;> simp [Rows.uptoBulk]
  | _ => simp [Rows.uptoBulk]
theorem bulk_len {H : Type} (l : List (DataW H)) : l.length ≤ Rows.uptoBulkAll l := by
  induction l with
  | nil => simp [Rows.uptoBulkAll]
  | cons x r ih => have := bulk_one x; simp only [Rows.uptoBulkAll, List.length_cons]; omega
theorem bulk_at {H : Type} {ds : List (DataW H)} {j : Nat} {d : DataW H} (h : Rows.uptoSmall H ds = true) (hj : ds[j]? = some d) : Rows.uptoBulk d ≤ 1048576 := by
  have hk : Rows.uptoBulkAll ds ≤ 1048576 := of_decide_eq_true h
  have : ∀ (l : List (DataW H)) (j : Nat), l[j]? = some d → Rows.uptoBulk d ≤ Rows.uptoBulkAll l := by
    intro l
    induction l with
    | nil => intro j h; simp at h
    | cons x r ih =>
      intro j h
      cases j with
      | zero => simp at h; subst h; simp only [Rows.uptoBulkAll]; omega
      | succ j => have := ih j (by simpa using h); simp only [Rows.uptoBulkAll]; omega
  exact Nat.le_trans (this ds j hj) hk
theorem small_ints {H : Type} {enc : TypeId × Value → H} {P : Program} {W : World} {base : Nat} {spare : Nat → Bool} {held : Bool} {t e : TypeId} {k : IntKind} {a : Option Addr} {n c : Nat} {d : DataW H} {ps : List MemPlace} {ds : List (DataW H)} {j : Nat}
    (hall : Rows.uptoSmall H ds = true) (h2 : ds[j]? = some d) (hu : P.underlying t = some (.slice e)) (he : P.underlying e = some (.int k)) (hc : P.cellsOf e = 1)
    (h : DataW.Trod enc P W base spare held t (.slice a n c) d ps) : n ≤ 1048576 := by
  have hb := bulk_at hall h2
  obtain ⟨f, hf⟩ := h
  rcases open_ints hu he hc hf with ⟨hcs, _⟩ | ⟨x, l, cc, zs, hcs, _, hl, _, hz, hx, _, _⟩ <;> simp [Value.cells] at hcs
  · omega
  · obtain ⟨_, rfl, rfl⟩ := hcs
    obtain rfl := (Prod.mk.inj hx).1
    have h1 := bulk_len (lits (H := H) k (zs.take n))
    simp only [Rows.uptoBulk] at hb
    have hn : n ≤ zs.length := by rw [hz]; split <;> omega
    have h3 : (lits (H := H) k (zs.take n)).length = n := by simp [lits]; omega
    omega
theorem small_string {H : Type} {ds : List (DataW H)} {j : Nat} {s : ByteArray} (hall : Rows.uptoSmall H ds = true) (h2 : ds[j]? = some (.lit (.string s.data.toList))) : s.size ≤ 1048576 := by
  have hb := bulk_at hall h2
  simp only [Rows.uptoBulk] at hb
  have e : s.data.toList.length = s.size := by rw [Array.length_toList]; rfl
  omega
end Go.Proofs.Ytpgfjgakhbnpkaa
