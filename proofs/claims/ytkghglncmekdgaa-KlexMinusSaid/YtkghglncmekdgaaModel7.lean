/- The words of K in plain mathematics, seventh part: the sign of less ahead of digits, behind twelve texts. Conditions: the digits' number fits and they are not too many. -/
import Derived.Test.YtkghglncmekdgaaModel6
namespace Go.Proofs.Ytkghglncmekdgaa.Kx

def Digits (ds : List Int) : Prop := ds ≠ [] ∧ ∀ d ∈ ds, dig d = true
theorem dig_range {d : Int} (h : dig d = true) : 48 ≤ d ∧ d ≤ 57 := (dig_iff d).1 h
theorem digits_bytes {ds : List Int} (h : Digits ds) : Spec.Bytes ds := fun x hx => by have := dig_range (h.2 x hx); omega
theorem span_digits : ∀ {ds : List Int}, (∀ d ∈ ds, dig d = true) → span dig ds = ds.length
  | [], _ => rfl
  | d :: ds, h => by
    show (if dig d then span dig ds + 1 else 0) = _
    rw [if_pos (h d List.mem_cons_self), span_digits fun x hx => h x (List.mem_cons_of_mem _ hx)]
    rfl
theorem gt_of_drop {l r : List Int} {i : Nat} {c : Int} (h : l.drop i = c :: r) : gt l i = c := by
  have := gt_drop l i 0
  rw [h] at this
  exact this
theorem drop_next {l r : List Int} {i : Nat} {c : Int} (h : l.drop i = c :: r) : l.drop (i + 1) = r := by
  rw [← List.drop_drop, h]
  rfl
theorem drop_len {l r : List Int} {i : Nat} (h : l.drop i = r) (hi : i ≤ l.length) : i + r.length = l.length := by
  rw [← h, List.length_drop]
  omega
theorem num_pos {l ds : List Int} {i : Nat} (h : l.drop i = ds) (hd : Digits ds) (hv : val ds < 9223372036854775808) (hi : i ≤ l.length) : numAt l i = (val ds, l.length, true) := by
  obtain ⟨d, r, rfl⟩ : ∃ d r, ds = d :: r := by
    cases ds with
    | nil => exact absurd rfl hd.1
    | cons d r => exact ⟨d, r, rfl⟩
  have hg := gt_of_drop h
  have hr := dig_range (hd.2 d List.mem_cons_self)
  have hlen := drop_len h hi
  unfold numAt
  rw [hg, if_neg (by omega), if_neg (by omega), h, span_digits hd.2, List.take_length, hlen, decide_eq_true hv]
theorem num_neg {l ds : List Int} {i : Nat} (h : l.drop i = 45 :: ds) (hd : Digits ds) (hv : val ds < 9223372036854775808) (hi : i ≤ l.length) : numAt l i = (-(val ds), l.length, true) := by
  have hg := gt_of_drop h
  have hlen := drop_len h hi
  unfold numAt
  rw [hg, if_pos rfl, if_pos rfl, drop_next h, span_digits hd.2, List.take_length, decide_eq_true (by omega), show i + 1 + ds.length = l.length by rw [List.length_cons] at hlen; omega]
theorem nums_last {l : List Int} {i f : Nat} {v : Int} {acc : List Int} (h : numAt l i = (v, l.length, true)) : numsAt (f + 1) l i acc = .good (acc ++ [v]) l.length := by
  simp only [numsAt, h, if_true]
  rw [List.drop_length, if_pos (.inl rfl)]
theorem one_at {l r : List Int} {i : Nat} {c : Int} (h : l.drop i = c :: r) (hc : 0 ≤ c ∧ c < 128) (hr : Spec.Bytes r) : ¬ (Spec.one (l.drop i)).2 = 0 := by
  rw [h, one_low hc hr]
  show ¬ ((1 : Int) = 0)
  omega
theorem word_num {l : List Int} {i : Nat} {v : Int} (h1 : ¬ (Spec.one (l.drop i)).2 = 0) (hb : begins l i = true) (h : numAt l i = (v, l.length, true)) : wordAt l i = .good ⟨1, [], litNums [v], i⟩ l.length := by
  unfold wordAt
  rw [if_neg h1, if_pos hb, nums_last h]
  rfl
theorem word_sign {l r : List Int} {i : Nat} {c s : Int} (h : l.drop i = c :: r) (hc : 0 ≤ c ∧ c < 128) (hr : Spec.Bytes r) (hb : begins l i = false) (h34 : c ≠ 34) (hl : low c = false) (hs : sign c = s) (hs0 : s ≠ 0) : wordAt l i = .good ⟨s, [c], ⟨[], []⟩, i⟩ (i + 1) := by
  have hg := gt_of_drop h
  unfold wordAt
  rw [if_neg (one_at h hc hr), hb, hg, if_neg (by simp), if_neg h34, hl, if_neg (by simp), hs, if_neg hs0]
theorem word_name {l r : List Int} {i : Nat} {c : Int} (h : l.drop i = c :: r) (hc : 0 ≤ c ∧ c < 128) (hr : Spec.Bytes r) (hb : begins l i = false) (h34 : c ≠ 34) (hl : low c = true) (hn : nameOk [c] = true) (hs : span alnum r = 0) : wordAt l i = .good ⟨3, [c], ⟨[], []⟩, i⟩ (i + 1) := by
  have hg := gt_of_drop h
  have hsp : span alnum (c :: r) = 1 := by
    show (if alnum c then span alnum r + 1 else 0) = 1
    rw [if_pos (by unfold alnum; rw [hl]; rfl), hs]
  unfold wordAt
  rw [if_neg (one_at h hc hr), hb, hg, if_neg (by simp), if_neg h34, hl, if_pos rfl, h, hsp]
  rw [show List.take 1 (c :: r) = [c] from rfl, if_pos hn]
theorem begins_no {l r : List Int} {i : Nat} {c : Int} (h : l.drop i = c :: r) (h1 : dig c = false) (h2 : c ≠ 45) : begins l i = false := by
  have hg := gt_of_drop h
  unfold begins
  rw [hg, h1, beq_eq_false_iff_ne.2 h2]
  rfl
theorem step {l : List Int} {i b j f : Nat} {t : Tok} {acc : List Tok} (hb : span blank (l.drop i) = b) (hlt : i + b < l.length) (h47 : gt l (i + b) ≠ 47) (ha : acc.length ≠ 2048) (hw : wordAt l (i + b) = .good t j) : lexAt (f + 1) l i acc = lexAt f l j (acc ++ [t]) := by
  rw [lexAt, hb, if_neg (by intro h; rcases h with h | h; exact absurd h (by omega); exact h47 h.1), if_neg ha, hw]
theorem stop {l : List Int} {i f : Nat} {acc : List Tok} (h : l.length ≤ i) : lexAt (f + 1) l i acc = .good acc := by
  rw [lexAt, if_pos (.inl (by omega))]
theorem lt_drop {l r : List Int} {i : Nat} {c : Int} (h : l.drop i = c :: r) : i < l.length := lt_of_drop h

section
variable {l ds : List Int} (hd : Digits ds) (hv : val ds < 9223372036854775808)
include hd hv
/-- the number alone -/
theorem end_num {i f : Nat} {acc : List Tok} (h : l.drop i = ds) (hi : i ≤ l.length) (ha : acc.length ≠ 2048) : lexAt (f + 2) l i acc = .good (acc ++ [⟨1, [], litNums [val ds], i⟩]) := by
  obtain ⟨d, r, hdr⟩ : ∃ d r, ds = d :: r := by
    cases ds with
    | nil => exact absurd rfl hd.1
    | cons d r => exact ⟨d, r, rfl⟩
  have hrd := dig_range (hd.2 d (by rw [hdr]; exact List.mem_cons_self))
  have h' : l.drop i = d :: r := h.trans hdr
  have hg := gt_of_drop h'
  have hrb : Spec.Bytes r := fun x hx => digits_bytes hd x (by rw [hdr]; exact List.mem_cons_of_mem _ hx)
  have hsp : span blank (l.drop i) = 0 := by
    rw [h']
    show (if blank d then span blank r + 1 else 0) = 0
    rw [if_neg (by unfold blank; simp; omega)]
  have hbg : begins l i = true := by
    unfold begins
    rw [hg, hd.2 d (by rw [hdr]; exact List.mem_cons_self)]
    rfl
  rw [step (f := f + 1) hsp (by have := lt_drop h'; omega) (by rw [Nat.add_zero, hg]; omega) ha (word_num (one_at h' (by omega) hrb) hbg (num_pos h hd hv hi)), stop (Nat.le_refl _), Nat.add_zero]
/-- the sign as a function, and the number -/
theorem end_fun {i f : Nat} {acc : List Tok} (h : l.drop i = 45 :: ds) (hp : behind (prev l i) = true) (ha : acc.length < 2000) : lexAt (f + 3) l i acc = .good (acc ++ [⟨4, [45], ⟨[], []⟩, i⟩, ⟨1, [], litNums [val ds], i + 1⟩]) := by
  have hg := gt_of_drop h
  have hlt := lt_drop h
  have hbg : begins l i = false := by
    unfold begins
    rw [hg, hp]
    simp [dig]
  have hsp : span blank (l.drop i) = 0 := by rw [h]; rfl
  rw [step (f := f + 2) hsp (by omega) (by rw [Nat.add_zero, hg]; omega) (by omega) (word_sign (s := 4) h (by omega) (digits_bytes hd) hbg (by omega) rfl rfl (by omega)), end_num hd hv (drop_next h) (by omega) (by rw [List.length_append, List.length_singleton]; omega), Nat.add_zero, List.append_assoc]
  rfl
/-- the sign as the number's own -/
theorem end_own {i b f : Nat} {acc : List Tok} (hb : span blank (l.drop i) = b) (h : l.drop (i + b) = 45 :: ds) (hp : behind (prev l (i + b)) = false) (ha : acc.length < 2000) : lexAt (f + 2) l i acc = .good (acc ++ [⟨1, [], litNums [-(val ds)], i + b⟩]) := by
  obtain ⟨d, r, hdr⟩ : ∃ d r, ds = d :: r := by
    cases ds with
    | nil => exact absurd rfl hd.1
    | cons d r => exact ⟨d, r, rfl⟩
  have hg := gt_of_drop h
  have hlt := lt_drop h
  have hg1 : gt l (i + b + 1) = d := gt_of_drop ((drop_next h).trans hdr)
  have hbg : begins l (i + b) = true := by
    unfold begins
    rw [hg, hp, hg1, hd.2 d (by rw [hdr]; exact List.mem_cons_self)]
    rfl
  rw [step (f := f + 1) hb (by omega) (by rw [hg]; omega) (by omega) (word_num (one_at h (by omega) (digits_bytes hd)) hbg (num_neg h hd hv (by omega))), stop (Nat.le_refl _)]
end

/-- a text's words: the sign of less as a function behind as many words as the text ahead has -/
def FunAfter (ah ds : List Int) (q : Nat) : Prop := ∃ pre pre' p, lex (ah ++ 45 :: ds) = .good (pre ++ [⟨4, [45], ⟨[], []⟩, p⟩, ⟨1, [], litNums [val ds], p + 1⟩]) ∧ lex ah = .good pre' ∧ pre'.length = q ∧ pre.length = q
def OwnAfter (ah ds : List Int) (q : Nat) : Prop := ∃ pre pre' p, lex (ah ++ 45 :: ds) = .good (pre ++ [⟨1, [], litNums [-(val ds)], p⟩]) ∧ lex ah = .good pre' ∧ pre'.length = q ∧ pre.length = q

theorem ds_bytes {ds : List Int} (hd : Digits ds) (a : List Int) (ha : ∀ x ∈ a, 0 ≤ x ∧ x ≤ 255) : Spec.Bytes (a ++ 45 :: ds) := bytes_append ha (bytes_append (a := [45]) (bytes_one (by omega)) (digits_bytes hd))
section
variable {ds : List Int} (hd : Digits ds) (hv : val ds < 9223372036854775808) (hn : ds.length ≤ 8000)
include hd hv hn
theorem fun_a : FunAfter [97] ds 1 := by
  have hb := ds_bytes hd
  have hpos : 1 ≤ ds.length := by have := hd.1; cases ds with | nil => exact absurd rfl this | cons _ _ => simp
  refine ⟨[⟨3, [97], ⟨[], []⟩, 0⟩], _, 1, ?_, show lex [97] = .good [⟨3, [97], ⟨[], []⟩, 0⟩] by decide +kernel, rfl, rfl⟩
  obtain ⟨l, hl⟩ : ∃ l, [97] ++ 45 :: ds = l := ⟨_, rfl⟩
  rw [hl]
  have hlen : l.length = ds.length + 2 := by rw [← hl]; simp
  unfold lex
  rw [if_neg (by omega), show l.length + 1 = (ds.length - 1) + 3 + 1 by omega]
  have h0 : l.drop 0 = 97 :: (45 :: ds) := by rw [← hl]; rfl
  rw [step (b := 0) (by rw [h0]; rfl) (by omega) (by rw [gt_of_drop h0]; decide) (by decide) (word_name h0 (by omega) (by simpa using hb [] (by simp)) (begins_no h0 rfl (by omega)) (by omega) rfl rfl rfl)]
  rw [end_fun hd hv (drop_next h0) (by rw [show prev l (0 + 1) = gt l 0 from rfl, gt_of_drop h0]; rfl) (by decide)]
  rfl
end
end Go.Proofs.Ytkghglncmekdgaa.Kx
