/- Appending a row that reads in memory to a row that the call owns; what RunesJoins says of bytes. Conditions: the rows are not too long for a slice. -/
import Derived.Test.YtpgfjgakhbnpkaaRl
import Derived.Maps.AppendAt
namespace Go.Proofs.Ytpgfjgakhbnpkaa
open Go.RowKit

/-- appending a row that reads in memory, wherever it lies -/
theorem run_append_read {P : Program} (W : World) (base : Nat) (t ty e : TypeId) (k : IntKind) (i : TypeInfo) (bytes : Nat)
    (ht : P.underlying t = some (.slice e)) (hi : P.info? e = some i) (hz : i.zero = some (.int k 0)) (hs : i.size = 1) (hb : i.bytes = bytes)
    (v : Value) (n : Nat) (xs ys : List Int) (A : Option Addr) (m c : Nat) (ho : W.ownsRow base e 1 v n (nums k xs)) (hr : RowAt k W A ys) (hm : ys.length = m)
    (h63 : n + m ≤ 1000000) (hb8 : bytes ≤ 8) (hbase : base ≤ W.heap.size) :
    ∃ v1 w1, (Builtin.append_ #[t, t] ty #[v, .slice A m c]).run P W = .ok v1 w1 ∧ w1.ownsRow base e 1 v1 (n + m) (nums k (xs ++ ys)) ∧ W.grownBy w1 v.ownBlock := by
  have hbb : (n + m) * bytes ≤ 140737488355328 := Nat.le_trans (Nat.mul_le_mul h63 hb8) (by decide)
  cases A with
  | none =>
    obtain rfl : m = 0 := by
      rcases Nat.eq_zero_or_pos m with h | h
      · exact h
      · obtain ⟨b, off, h1, _⟩ := hr.2 (by omega)
        cases h1
    obtain rfl : ys = [] := List.length_eq_zero_iff.1 hm
    refine ⟨v, W, ?_, by simpa using ho, World.grownBy.refl W _⟩
    rcases ho.2 with ⟨rfl, hn⟩ | ⟨g, cap, cur, rfl, _, _, hnc, _⟩
    · simp [Builtin.append_, run_underlying ht, sizeOf, typeInfo, hi, Builtin.lenOf, Builtin.firstCells]
    · simp [Builtin.append_, run_underlying ht, sizeOf, typeInfo, hi, Builtin.lenOf, Builtin.firstCells, hnc, storeCells]
  | some a =>
    obtain ⟨v1, w1, h1, h2, h3, _⟩ := run_append_own_at (P := P) W base t ty e i (.int k 0) 1 bytes ht hi hz hs hb rfl (by omega) v n (nums k xs) ho a m c (nums k ys) (by rw [nums_length, hm, Nat.mul_one]) (fun j u hu => hr.cells a rfl j u hu) nums_one (by unfold maxLen; omega) hbb hbase
    exact ⟨v1, w1, h1, by rw [nums_append]; exact h2, h3⟩

section
variable {P : Program} {ops : Array Oper} {Q : Exit → Act → World → Prop} {a : Act} {rest : List Oper} {o : Oper}
/-- the same at the operation: the row that is appended was there before the call's own ones -/
theorem wp_append_read {W w0 : World} (s x : Operand) (t e : TypeId) (ho : o.op = .call { callee := .builtin .append, args := #[s, x], argTypes := #[t, t] })
    (hw : Region.wanted o (yielded ops a.tmps) = true) (k : IntKind) (i : TypeInfo) (bytes : Nat)
    (ht : P.underlying t = some (.slice e)) (hi : P.info? e = some i) (hz : i.zero = some (.int k 0)) (hs : i.size = 1) (hb : i.bytes = bytes)
    (v : Value) (n : Nat) (xs ys : List Int) (A : Option Addr) (m c : Nat) (hv : a.eval s = v) (hx : a.eval x = .slice A m c) (hB : Below w0.heap.size w0 W) (hO : W.ownsRow w0.heap.size e 1 v n (nums k xs)) (hr : RowAt k w0 A ys) (hm : ys.length = m)
    (h63 : n + m ≤ 1000000) (hb8 : bytes ≤ 8)
    (h : ∀ v1 w1, w1.ownsRow w0.heap.size e 1 v1 (n + m) (nums k (xs ++ ys)) → Below w0.heap.size w0 w1 → wpList P ops Q rest (a.put o.dst v1) w1) : wpList P ops Q (o :: rest) a W := by
  refine wpList_step fun K hK => ?_
  rw [if_pos hw]
  obtain ⟨v1, w1, hr1, h2, h3⟩ := run_append_read (P := P) W w0.heap.size t o.type e k i bytes ht hi hz hs hb v n xs ys A m c hO (hr.below hB) hm h63 hb8 hB.size
  unfold Oper.wp execOp
  simp only [ho, resolve, invoke, builtin, Sem.run_bind, Sem.run_pure, Result.andThen_ok, List.map_toArray, List.map_cons, List.map_nil, hv, hx, hr1]
  exact hK _ _ (h v1 w1 h2 (hB.grown h3 hB.size (fun r hr => (hO.lt r hr).1)))
end

/-- an empty row that was just laid -/
theorem own_empty (k : IntKind) (w : World) (e : TypeId) : (w.alloc (.cells #[] e)).ownsRow w.heap.size e 1 (.slice (some ⟨w.heap.size, 0, none⟩) 0 0) 0 (nums k []) := by
  refine ⟨rfl, .inr ⟨w.heap.size, 0, #[], rfl, Nat.le_refl _, ?_, Nat.le_refl _, by unfold maxLen; omega, rfl, rfl⟩⟩
  exact heap_alloc_new w _

/-- two texts of signs: what the whole reads as, and what stands where the first one is none -/
theorem joins_good {la lb xs ys : List Int} {f p : Int} {all : List Int} (ha : la = Spec.encs xs) (hx : AllGood xs) (hy : AllGood ys) (hb : lb = Spec.encs ys) (h : ReadIs (la ++ lb) all p f) : f = 0 ∧ all = xs ++ ys := by
  have : ReadIs (la ++ lb) (xs ++ ys) 0 0 := by
    refine .inl ⟨rfl, rfl, ?_, ?_⟩
    · intro z hz; rcases List.mem_append.1 hz with h1 | h1
      · exact hx z h1
      · exact hy z h1
    · rw [ha, hb]; simp [Spec.encs]
  obtain ⟨h1, _, h3⟩ := readIs_unique h this
  exact ⟨h3, h1⟩

theorem joins_second {la lb xs : List Int} {f p : Int} {all ys : List Int} {q : Nat} (ha : la = Spec.encs xs) (hx : AllGood xs) (hy : AllGood ys) (hq : q < lb.length) (ht : lb.take q = Spec.encs ys) (hn : Spec.NoOne (lb.drop q)) (h : ReadIs (la ++ lb) all p f) : f = 3 := by
  have : ReadIs (la ++ lb) [] ((la.length + q : Nat) : Int) 3 := by
    refine .inr ⟨rfl, rfl, xs ++ ys, la.length + q, rfl, by rw [List.length_append]; omega, ?_, ?_, ?_⟩
    · intro z hz; rcases List.mem_append.1 hz with h1 | h1
      · exact hx z h1
      · exact hy z h1
    · rw [List.take_append, List.take_of_length_le (by omega), Nat.add_sub_cancel_left, ht, ha]; simp [Spec.encs]
    · rw [List.drop_append, List.drop_eq_nil_of_le (by omega), Nat.add_sub_cancel_left, List.nil_append]; exact hn
  exact (readIs_unique h this).2.2

theorem joins_first {la lb ys : List Int} {f p : Int} {all : List Int} {q : Nat} (hy : AllGood ys) (hq : q < la.length) (ht : la.take q = Spec.encs ys) (hn : Spec.NoOne (la.drop q ++ lb)) (h : ReadIs (la ++ lb) all p f) : f = 3 ∧ p = (q : Int) := by
  have : ReadIs (la ++ lb) [] (q : Int) 3 := by
    refine .inr ⟨rfl, rfl, ys, q, rfl, by rw [List.length_append]; omega, hy, ?_, ?_⟩
    · rw [List.take_append_of_le_length (by omega)]; exact ht
    · rw [List.drop_append_of_le_length (by omega)]; exact hn
  obtain ⟨_, h2, h3⟩ := readIs_unique h this
  exact ⟨h3, h2⟩

theorem joins_sign {l lb : List Int} (hb : Spec.Bytes (l ++ lb)) (hn : Spec.NoOne l) (h0 : l ≠ []) (h : 0 < (Spec.one (l ++ lb)).2) : 128 ≤ (Spec.one (l ++ lb)).1 := by
  rcases Spec.one_spec _ hb with ⟨h1, _, r, h3⟩ | ⟨h1, _⟩
  · generalize (Spec.one (l ++ lb)).1 = z at h1 h3 ⊢
    rcases Int.lt_or_le z 128 with hz | hz
    · exfalso
      have he : Spec.enc z = [z] := by unfold Spec.enc; rw [if_pos hz]
      rw [he] at h3
      cases l with
      | nil => exact h0 rfl
      | cons c t =>
        simp only [List.cons_append, List.cons.injEq, List.nil_append] at h3
        exact hn z h1 ⟨t, by rw [he, h3.1]; rfl⟩
    · exact hz
  · rw [h1] at h; exact absurd h (by decide)
theorem joins_none {l : List Int} (hb : Spec.Bytes l) (h : ¬ 0 < (Spec.one l).2) : Spec.NoOne l := by
  rcases Spec.one_spec _ hb with ⟨_, h2, _⟩ | ⟨_, h2⟩
  · have := (enc_len (Spec.one l).1).1; omega
  · exact h2
end Go.Proofs.Ytpgfjgakhbnpkaa
