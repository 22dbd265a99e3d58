/- What the law of the sign of less needs ahead of its walk: digits, one by one; twelve texts' words. Conditions: none beyond each theorem's own. -/
import Derived.Test.YtkghglncmekdgaaKs
import Derived.Test.YtkghglncmekdgaaModel8
import Derived.Laws.Concat
namespace Go.Proofs.Ytkghglncmekdgaa
open Go.RowKit

/-- digits so far, and what is left -/
def DigInv (n k : Nat) (ds : List Int) : Prop := (n : Int) = (k : Int) * 10 ^ ds.length + Kx.val ds ∧ (∀ d ∈ ds, Kx.dig d = true) ∧ ds.length ≤ 10
theorem val_from (ds : List Int) : ∀ n : Int, ds.foldl (fun n d => n * 10 + (d - 48)) n = n * 10 ^ ds.length + Kx.val ds := by
  induction ds with
  | nil => intro n; simp [Kx.val]
  | cons d t ih =>
    intro n
    rw [List.foldl_cons, ih, show Kx.val (d :: t) = t.foldl (fun n d => n * 10 + (d - 48)) (0 * 10 + (d - 48)) from rfl, ih, List.length_cons, Int.pow_succ]
    simp only [Int.add_mul, Int.zero_mul, Int.zero_add]
    rw [Int.mul_assoc, Int.mul_comm (10 ^ t.length) 10, Int.add_assoc]
theorem val_cons (d : Int) (ds : List Int) : Kx.val (d :: ds) = (d - 48) * 10 ^ ds.length + Kx.val ds := by
  rw [show Kx.val (d :: ds) = ds.foldl (fun n d => n * 10 + (d - 48)) (0 * 10 + (d - 48)) from rfl, val_from]
  simp
theorem dig_next {n k : Nat} {ds : List Int} (hn : n < 4294967296) (h : DigInv n k ds) (hk : ds = [] ∨ 0 < k) : DigInv n (k / 10) ((48 + ((k % 10 : Nat) : Int)) :: ds) := by
  obtain ⟨h1, h2, h3⟩ := h
  have hv := Kx.val_nonneg ds (fun d hd => (Kx.dig_range (h2 d hd)).1)
  have hr : k % 10 < 10 := Nat.mod_lt _ (by omega)
  refine ⟨?_, ?_, ?_⟩
  · rw [val_cons, List.length_cons, h1, Int.pow_succ, show (48 + ((k % 10 : Nat) : Int)) - 48 = ((k % 10 : Nat) : Int) by omega, ← Int.add_assoc, Int.mul_comm (10 ^ ds.length) 10, ← Int.mul_assoc, ← Int.add_mul]
    congr 2
    omega
  · intro d hd
    rcases List.mem_cons.1 hd with rfl | hd
    · exact (Kx.dig_iff _).2 (by omega)
    · exact h2 d hd
  · rw [List.length_cons]
    rcases hk with rfl | hk
    · simp
    · rcases Nat.lt_or_ge ds.length 10 with h4 | h4
      · omega
      · have h5 : ds.length = 10 := by omega
        rw [h5] at h1
        have h6 : (1 : Int) * 10 ^ 10 ≤ (k : Int) * 10 ^ 10 := Int.mul_le_mul_of_nonneg_right (by omega) (by decide)
        have h7 : (1 : Int) * 10 ^ 10 = 10000000000 := by decide
        omega
theorem chr_aux (r : Nat) (h : r < 10) : Utf8.encode (48 + (r : Int)) = strOfNums [48 + (r : Int)] := by
  rcases (by omega : r = 0 ∨ r = 1 ∨ r = 2 ∨ r = 3 ∨ r = 4 ∨ r = 5 ∨ r = 6 ∨ r = 7 ∨ r = 8 ∨ r = 9) with rfl | rfl | rfl | rfl | rfl | rfl | rfl | rfl | rfl | rfl <;> rfl
theorem chr_str (k : Nat) : Utf8.encode (48 + (k : Int) % 10) = strOfNums [48 + (k : Int) % 10] := by
  have := chr_aux (k % 10) (Nat.mod_lt _ (by omega))
  rw [Int.natCast_emod] at this
  exact this


/-- a text's words: the sign of less as a function behind as many words as the text ahead has -/
def FunX (X : ByteArray) (ds : List Int) (n q : Nat) : Prop := ∃ pre pre' p, Kx.lex (nb (X ++ ⟨#[45]⟩ ++ strOfNums ds)) = .good (pre ++ [⟨4, [45], ⟨[], []⟩, p⟩, ⟨1, [], ⟨[], [(0, (n : Int))]⟩, p + 1⟩]) ∧ Kx.lex (nb X) = .good pre' ∧ pre'.length = q ∧ pre.length = q ∧ X.size ≤ 4
def OwnX (X : ByteArray) (ds : List Int) (n q : Nat) : Prop := ∃ pre pre' p, Kx.lex (nb (X ++ ⟨#[45]⟩ ++ strOfNums ds)) = .good (pre ++ [⟨1, [], ⟨[], [(0, -(n : Int))]⟩, p⟩]) ∧ Kx.lex (nb X) = .good pre' ∧ pre'.length = q ∧ pre.length = q ∧ X.size ≤ 4
theorem nb_x {X : ByteArray} {ah ds : List Int} (hX : X = strOfNums ah) (hb : Spec.Bytes ah) (hd : Kx.Digits ds) : nb (X ++ ⟨#[45]⟩ ++ strOfNums ds) = ah ++ 45 :: ds ∧ nb X = ah := by
  subst hX
  rw [nb_append, nb_append, nb_str _ hb, nb_str _ (Kx.digits_bytes hd), List.append_assoc]
  exact ⟨rfl, rfl⟩
theorem funX_of {X : ByteArray} {ah ds : List Int} {n q : Nat} (h : Kx.FunAfter ah ds q) (hX : X = strOfNums ah) (hb : Spec.Bytes ah) (hd : Kx.Digits ds) (hv : Kx.val ds = (n : Int)) (hl : ah.length ≤ 4) : FunX X ds n q := by
  obtain ⟨pre, pre', p, h1, h2, h3, h4⟩ := h
  obtain ⟨e1, e2⟩ := nb_x hX hb hd
  rw [hv] at h1
  exact ⟨pre, pre', p, by rw [e1]; exact h1, by rw [e2]; exact h2, h3, h4, by rw [hX, strOfNums_size]; exact hl⟩
theorem ownX_of {X : ByteArray} {ah ds : List Int} {n q : Nat} (h : Kx.OwnAfter ah ds q) (hX : X = strOfNums ah) (hb : Spec.Bytes ah) (hd : Kx.Digits ds) (hv : Kx.val ds = (n : Int)) (hl : ah.length ≤ 4) : OwnX X ds n q := by
  obtain ⟨pre, pre', p, h1, h2, h3, h4⟩ := h
  obtain ⟨e1, e2⟩ := nb_x hX hb hd
  rw [hv] at h1
  exact ⟨pre, pre', p, by rw [e1]; exact h1, by rw [e2]; exact h2, h3, h4, by rw [hX, strOfNums_size]; exact hl⟩
/-- what a word of one number has in memory -/
theorem lit_cell {S : Nat → Prop} {w : World} {p q : Option Addr} {n c m d : Nat} {sh : List Int} {cs : List (Int × Int)} (h : LitAt S w (.agg #[.slice p n c, .slice q m d]) ⟨sh, cs⟩) {i : Nat} {x : Int × Int} (hi : cs[i]? = some x) : ∃ b, q = some ⟨b, 0, none⟩ ∧ b < w.heap.size ∧ m = cs.length ∧ w.cell? ⟨b, i * 3 + 1, none⟩ = some (.int .i64 x.2) := by
  obtain ⟨A, n', c', B, m', d', hv, hn, hm, _, _, _, hB⟩ := h
  cases hv
  have hlt := (List.getElem?_eq_some_iff.1 hi).1
  obtain ⟨b, e, _, hb, hc⟩ := hB (by rw [cels_length]; show 0 < cs.length * 3; omega)
  have h2 := (cels_at cs i hlt).2.1
  rw [List.getD_eq_getElem?_getD, hi] at h2
  exact ⟨b, e, hb, hm, hc _ _ h2⟩

end Go.Proofs.Ytkghglncmekdgaa
