/- The words of K in plain mathematics, eighth part: twelve texts ahead of the sign of less and digits. Conditions: the digits' number fits and they are not too many. -/
import Derived.Test.YtkghglncmekdgaaModel7
namespace Go.Proofs.Ytkghglncmekdgaa.Kx

theorem num_seven {l r : List Int} {i : Nat} {c : Int} (h : l.drop i = 55 :: c :: r) (hc : dig c = false) : numAt l i = (7, i + 1, true) := by
  have hg := gt_of_drop h
  have hs : span dig (55 :: c :: r) = 1 := by
    show (if dig 55 then (if dig c then span dig r + 1 else 0) + 1 else 0) = 1
    rw [hc]
    rfl
  unfold numAt
  rw [hg, if_neg (by omega), if_neg (by omega), h, hs]
  rfl
theorem begins_seven {l r : List Int} {i : Nat} (h : l.drop i = 55 :: r) : begins l i = true := by
  have hg := gt_of_drop h
  unfold begins
  rw [hg]
  rfl
theorem word_seven {l r : List Int} {i : Nat} (h : l.drop i = 55 :: 45 :: r) (hr : Spec.Bytes (45 :: r)) : wordAt l i = .good ⟨1, [], litNums [7], i⟩ (i + 1) := by
  unfold wordAt
  rw [if_neg (one_at h (by omega) hr), if_pos (begins_seven h)]
  have hn := num_seven h rfl
  have hs : numsAt (l.length + 1) l i [] = .good [7] (i + 1) := by
    simp only [numsAt, hn, if_true]
    rw [drop_next h, if_pos (.inl rfl)]
    rfl
  rw [hs]
theorem word_c {l r : List Int} (h : l.drop 0 = 34 :: 99 :: 34 :: r) (hr : Spec.Bytes r) : wordAt l 0 = .good ⟨2, [], litText [99], 0⟩ 3 := by
  have h1 := drop_next h
  have h2 := drop_next h1
  have b34 : Spec.Bytes (34 :: r) := bytes_append (a := [34]) (bytes_one (by omega)) hr
  have b99 : Spec.Bytes (99 :: 34 :: r) := bytes_append (a := [99]) (bytes_one (by omega)) b34
  have o1 := one_low (c := 99) (by omega) b34
  have o2 := one_low (c := 34) (by omega) hr
  have hl : 3 ≤ l.length := by have := lt_of_drop h2; omega
  unfold wordAt
  rw [if_neg (one_at h (by omega) b99), begins_no h rfl (by omega), gt_of_drop h, if_neg (by simp), if_pos rfl]
  obtain ⟨f, hf⟩ : ∃ f, l.length + 1 = f + 1 + 1 := ⟨l.length - 1, by omega⟩
  have ht : textAt (l.length + 1) l 0 (0 + 1) [] = .good [99] 3 := by
    rw [hf]
    have e2 : textAt (f + 1) l 0 (0 + 1 + 1) [99] = .good [99] 3 := by
      rw [textAt, if_pos (by omega), h2, o2, if_neg (by decide), if_pos rfl]
    rw [textAt, if_pos (by omega), h1, o1, if_neg (by decide), if_neg (by decide), if_neg (fun h => absurd h.1 (by decide)), if_neg (by decide)]
    exact e2
  rw [ht]

section
variable {ds : List Int} (hd : Digits ds) (hv : val ds < 9223372036854775808) (hn : ds.length ≤ 8000)
include hd hv hn
theorem own_none : OwnAfter [] ds 0 := by
  have hpos : 1 ≤ ds.length := by have := hd.1; cases ds with | nil => exact absurd rfl this | cons _ _ => simp
  refine ⟨[], _, 0, ?_, show lex [] = .good [] by decide +kernel, rfl, rfl⟩
  obtain ⟨l, hl⟩ : ∃ l, ([] : List Int) ++ 45 :: ds = l := ⟨_, rfl⟩
  rw [hl]
  have hlen : l.length = ds.length + 1 := by rw [← hl]; simp
  unfold lex
  rw [if_neg (by omega), show l.length + 1 = (ds.length + 2 - 2) + 2 by omega]
  have h0 : l.drop 0 = 45 :: ds := by rw [← hl]; rfl
  rw [end_own (b := 0) hd hv (by rw [h0]; rfl) h0 rfl (by decide)]
theorem fun_group : FunAfter [40, 97, 41] ds 3 := by
  have hb := ds_bytes hd
  have hpos : 1 ≤ ds.length := by have := hd.1; cases ds with | nil => exact absurd rfl this | cons _ _ => simp
  refine ⟨[⟨5, [40], ⟨[], []⟩, 0⟩, ⟨3, [97], ⟨[], []⟩, 1⟩, ⟨6, [41], ⟨[], []⟩, 2⟩], _, 3, ?_, show lex [40, 97, 41] = .good [⟨5, [40], ⟨[], []⟩, 0⟩, ⟨3, [97], ⟨[], []⟩, 1⟩, ⟨6, [41], ⟨[], []⟩, 2⟩] by decide +kernel, rfl, rfl⟩
  obtain ⟨l, hl⟩ : ∃ l, ([40, 97, 41] : List Int) ++ 45 :: ds = l := ⟨_, rfl⟩
  rw [hl]
  have hlen : l.length = ds.length + 4 := by rw [← hl]; simp
  unfold lex
  rw [if_neg (by omega), show l.length + 1 = (ds.length + 5 - 6) + 3 + 1 + 1 + 1 by omega]
  have h0 : l.drop 0 = 40 :: 97 :: 41 :: 45 :: ds := by rw [← hl]; rfl
  rw [step (b := 0) (by rw [h0]; rfl) (by omega) (by rw [Nat.add_zero, gt_of_drop h0]; decide) (by decide) (word_sign (s := 5) h0 (by omega) (by simpa using hb [97, 41] (by simp)) (begins_no h0 rfl (by omega)) (by omega) rfl rfl (by omega))]
  have h1 := drop_next h0
  rw [step (b := 0) (by rw [h1]; rfl) (by omega) (by rw [Nat.add_zero, gt_of_drop h1]; decide) (by decide) (word_name h1 (by omega) (by simpa using hb [41] (by simp)) (begins_no h1 rfl (by omega)) (by omega) rfl rfl rfl)]
  have h2 := drop_next h1
  rw [step (b := 0) (by rw [h2]; rfl) (by omega) (by rw [Nat.add_zero, gt_of_drop h2]; decide) (by decide) (word_sign (s := 6) h2 (by omega) (by simpa using hb [] (by simp)) (begins_no h2 rfl (by omega)) (by omega) rfl rfl (by omega))]
  have h3 := drop_next h2
  rw [end_fun hd hv h3 (by rw [show prev l (0 + 1 + 1 + 1) = gt l (0 + 1 + 1) from rfl, gt_of_drop h2]; rfl) (by decide)]
  rfl
theorem fun_index : FunAfter [97, 91, 98, 93] ds 4 := by
  have hb := ds_bytes hd
  have hpos : 1 ≤ ds.length := by have := hd.1; cases ds with | nil => exact absurd rfl this | cons _ _ => simp
  refine ⟨[⟨3, [97], ⟨[], []⟩, 0⟩, ⟨5, [91], ⟨[], []⟩, 1⟩, ⟨3, [98], ⟨[], []⟩, 2⟩, ⟨6, [93], ⟨[], []⟩, 3⟩], _, 4, ?_, show lex [97, 91, 98, 93] = .good [⟨3, [97], ⟨[], []⟩, 0⟩, ⟨5, [91], ⟨[], []⟩, 1⟩, ⟨3, [98], ⟨[], []⟩, 2⟩, ⟨6, [93], ⟨[], []⟩, 3⟩] by decide +kernel, rfl, rfl⟩
  obtain ⟨l, hl⟩ : ∃ l, ([97, 91, 98, 93] : List Int) ++ 45 :: ds = l := ⟨_, rfl⟩
  rw [hl]
  have hlen : l.length = ds.length + 5 := by rw [← hl]; simp
  unfold lex
  rw [if_neg (by omega), show l.length + 1 = (ds.length + 6 - 7) + 3 + 1 + 1 + 1 + 1 by omega]
  have h0 : l.drop 0 = 97 :: 91 :: 98 :: 93 :: 45 :: ds := by rw [← hl]; rfl
  rw [step (b := 0) (by rw [h0]; rfl) (by omega) (by rw [Nat.add_zero, gt_of_drop h0]; decide) (by decide) (word_name h0 (by omega) (by simpa using hb [91, 98, 93] (by simp)) (begins_no h0 rfl (by omega)) (by omega) rfl rfl rfl)]
  have h1 := drop_next h0
  rw [step (b := 0) (by rw [h1]; rfl) (by omega) (by rw [Nat.add_zero, gt_of_drop h1]; decide) (by decide) (word_sign (s := 5) h1 (by omega) (by simpa using hb [98, 93] (by simp)) (begins_no h1 rfl (by omega)) (by omega) rfl rfl (by omega))]
  have h2 := drop_next h1
  rw [step (b := 0) (by rw [h2]; rfl) (by omega) (by rw [Nat.add_zero, gt_of_drop h2]; decide) (by decide) (word_name h2 (by omega) (by simpa using hb [93] (by simp)) (begins_no h2 rfl (by omega)) (by omega) rfl rfl rfl)]
  have h3 := drop_next h2
  rw [step (b := 0) (by rw [h3]; rfl) (by omega) (by rw [Nat.add_zero, gt_of_drop h3]; decide) (by decide) (word_sign (s := 6) h3 (by omega) (by simpa using hb [] (by simp)) (begins_no h3 rfl (by omega)) (by omega) rfl rfl (by omega))]
  have h4 := drop_next h3
  rw [end_fun hd hv h4 (by rw [show prev l (0 + 1 + 1 + 1 + 1) = gt l (0 + 1 + 1 + 1) from rfl, gt_of_drop h3]; rfl) (by decide)]
  rfl
theorem fun_body : FunAfter [123, 120, 125] ds 3 := by
  have hb := ds_bytes hd
  have hpos : 1 ≤ ds.length := by have := hd.1; cases ds with | nil => exact absurd rfl this | cons _ _ => simp
  refine ⟨[⟨5, [123], ⟨[], []⟩, 0⟩, ⟨3, [120], ⟨[], []⟩, 1⟩, ⟨6, [125], ⟨[], []⟩, 2⟩], _, 3, ?_, show lex [123, 120, 125] = .good [⟨5, [123], ⟨[], []⟩, 0⟩, ⟨3, [120], ⟨[], []⟩, 1⟩, ⟨6, [125], ⟨[], []⟩, 2⟩] by decide +kernel, rfl, rfl⟩
  obtain ⟨l, hl⟩ : ∃ l, ([123, 120, 125] : List Int) ++ 45 :: ds = l := ⟨_, rfl⟩
  rw [hl]
  have hlen : l.length = ds.length + 4 := by rw [← hl]; simp
  unfold lex
  rw [if_neg (by omega), show l.length + 1 = (ds.length + 5 - 6) + 3 + 1 + 1 + 1 by omega]
  have h0 : l.drop 0 = 123 :: 120 :: 125 :: 45 :: ds := by rw [← hl]; rfl
  rw [step (b := 0) (by rw [h0]; rfl) (by omega) (by rw [Nat.add_zero, gt_of_drop h0]; decide) (by decide) (word_sign (s := 5) h0 (by omega) (by simpa using hb [120, 125] (by simp)) (begins_no h0 rfl (by omega)) (by omega) rfl rfl (by omega))]
  have h1 := drop_next h0
  rw [step (b := 0) (by rw [h1]; rfl) (by omega) (by rw [Nat.add_zero, gt_of_drop h1]; decide) (by decide) (word_name h1 (by omega) (by simpa using hb [125] (by simp)) (begins_no h1 rfl (by omega)) (by omega) rfl rfl rfl)]
  have h2 := drop_next h1
  rw [step (b := 0) (by rw [h2]; rfl) (by omega) (by rw [Nat.add_zero, gt_of_drop h2]; decide) (by decide) (word_sign (s := 6) h2 (by omega) (by simpa using hb [] (by simp)) (begins_no h2 rfl (by omega)) (by omega) rfl rfl (by omega))]
  have h3 := drop_next h2
  rw [end_fun hd hv h3 (by rw [show prev l (0 + 1 + 1 + 1) = gt l (0 + 1 + 1) from rfl, gt_of_drop h2]; rfl) (by decide)]
  rfl
theorem fun_text : FunAfter [34, 99, 34] ds 1 := by
  have hb := ds_bytes hd
  have hpos : 1 ≤ ds.length := by have := hd.1; cases ds with | nil => exact absurd rfl this | cons _ _ => simp
  refine ⟨[⟨2, [], litText [99], 0⟩], _, 3, ?_, show lex [34, 99, 34] = .good [⟨2, [], litText [99], 0⟩] by decide +kernel, rfl, rfl⟩
  obtain ⟨l, hl⟩ : ∃ l, ([34, 99, 34] : List Int) ++ 45 :: ds = l := ⟨_, rfl⟩
  rw [hl]
  have hlen : l.length = ds.length + 4 := by rw [← hl]; simp
  unfold lex
  rw [if_neg (by omega), show l.length + 1 = (ds.length + 5 - 4) + 3 + 1 by omega]
  have h0 : l.drop 0 = 34 :: 99 :: 34 :: 45 :: ds := by rw [← hl]; rfl
  rw [step (b := 0) (by rw [h0]; rfl) (by omega) (by rw [gt_of_drop h0]; decide) (by decide) (word_c h0 (by simpa using hb [] (by simp)))]
  have h1 := drop_next h0
  have h2 := drop_next h1
  have h3 := drop_next h2
  rw [end_fun hd hv h3 (by rw [show prev l (0 + 1 + 1 + 1) = gt l (0 + 1 + 1) from rfl, gt_of_drop h2]; rfl) (by decide)]
  rfl
theorem fun_seven : FunAfter [55] ds 1 := by
  have hb := ds_bytes hd
  have hpos : 1 ≤ ds.length := by have := hd.1; cases ds with | nil => exact absurd rfl this | cons _ _ => simp
  refine ⟨[⟨1, [], litNums [7], 0⟩], _, 1, ?_, show lex [55] = .good [⟨1, [], litNums [7], 0⟩] by decide +kernel, rfl, rfl⟩
  obtain ⟨l, hl⟩ : ∃ l, ([55] : List Int) ++ 45 :: ds = l := ⟨_, rfl⟩
  rw [hl]
  have hlen : l.length = ds.length + 2 := by rw [← hl]; simp
  unfold lex
  rw [if_neg (by omega), show l.length + 1 = (ds.length + 3 - 4) + 3 + 1 by omega]
  have h0 : l.drop 0 = 55 :: 45 :: ds := by rw [← hl]; rfl
  rw [step (b := 0) (by rw [h0]; rfl) (by omega) (by rw [gt_of_drop h0]; decide) (by decide) (word_seven h0 (by simpa using hb [] (by simp)))]
  have h1 := drop_next h0
  rw [end_fun hd hv h1 (by rw [show prev l (0 + 1) = gt l (0) from rfl, gt_of_drop h0]; rfl) (by decide)]
  rfl
theorem own_plus : OwnAfter [43] ds 1 := by
  have hb := ds_bytes hd
  have hpos : 1 ≤ ds.length := by have := hd.1; cases ds with | nil => exact absurd rfl this | cons _ _ => simp
  refine ⟨[⟨4, [43], ⟨[], []⟩, 0⟩], _, 1, ?_, show lex [43] = .good [⟨4, [43], ⟨[], []⟩, 0⟩] by decide +kernel, rfl, rfl⟩
  obtain ⟨l, hl⟩ : ∃ l, ([43] : List Int) ++ 45 :: ds = l := ⟨_, rfl⟩
  rw [hl]
  have hlen : l.length = ds.length + 2 := by rw [← hl]; simp
  unfold lex
  rw [if_neg (by omega), show l.length + 1 = (ds.length + 3 - 3) + 2 + 1 by omega]
  have h0 : l.drop 0 = 43 :: 45 :: ds := by rw [← hl]; rfl
  rw [step (b := 0) (by rw [h0]; rfl) (by omega) (by rw [Nat.add_zero, gt_of_drop h0]; decide) (by decide) (word_sign (s := 4) h0 (by omega) (by simpa using hb [] (by simp)) (begins_no h0 rfl (by omega)) (by omega) rfl rfl (by omega))]
  have h1 := drop_next h0
  rw [end_own (b := 0) hd hv (by rw [h1]; rfl) h1 (by rw [show prev l (0 + 1 + 0) = gt l 0 from rfl, gt_of_drop h0]; rfl) (by decide)]
  rfl
theorem own_open : OwnAfter [40] ds 1 := by
  have hb := ds_bytes hd
  have hpos : 1 ≤ ds.length := by have := hd.1; cases ds with | nil => exact absurd rfl this | cons _ _ => simp
  refine ⟨[⟨5, [40], ⟨[], []⟩, 0⟩], _, 1, ?_, show lex [40] = .good [⟨5, [40], ⟨[], []⟩, 0⟩] by decide +kernel, rfl, rfl⟩
  obtain ⟨l, hl⟩ : ∃ l, ([40] : List Int) ++ 45 :: ds = l := ⟨_, rfl⟩
  rw [hl]
  have hlen : l.length = ds.length + 2 := by rw [← hl]; simp
  unfold lex
  rw [if_neg (by omega), show l.length + 1 = (ds.length + 3 - 3) + 2 + 1 by omega]
  have h0 : l.drop 0 = 40 :: 45 :: ds := by rw [← hl]; rfl
  rw [step (b := 0) (by rw [h0]; rfl) (by omega) (by rw [Nat.add_zero, gt_of_drop h0]; decide) (by decide) (word_sign (s := 5) h0 (by omega) (by simpa using hb [] (by simp)) (begins_no h0 rfl (by omega)) (by omega) rfl rfl (by omega))]
  have h1 := drop_next h0
  rw [end_own (b := 0) hd hv (by rw [h1]; rfl) h1 (by rw [show prev l (0 + 1 + 0) = gt l 0 from rfl, gt_of_drop h0]; rfl) (by decide)]
  rfl
theorem own_blank : OwnAfter [32] ds 0 := by
  have hb := ds_bytes hd
  have hpos : 1 ≤ ds.length := by have := hd.1; cases ds with | nil => exact absurd rfl this | cons _ _ => simp
  refine ⟨[], _, 1, ?_, show lex [32] = .good [] by decide +kernel, rfl, rfl⟩
  obtain ⟨l, hl⟩ : ∃ l, ([32] : List Int) ++ 45 :: ds = l := ⟨_, rfl⟩
  rw [hl]
  have hlen : l.length = ds.length + 2 := by rw [← hl]; simp
  unfold lex
  rw [if_neg (by omega), show l.length + 1 = (ds.length + 3 - 2) + 2 by omega]
  have h0 : l.drop 0 = 32 :: 45 :: ds := by rw [← hl]; rfl
  rw [end_own (b := 1) hd hv (by rw [h0]; rfl) (drop_next h0) (by rw [show prev l (0 + 1) = gt l (0) from rfl, gt_of_drop h0]; rfl) (by decide)]
theorem own_a : OwnAfter [97, 32] ds 1 := by
  have hb := ds_bytes hd
  have hpos : 1 ≤ ds.length := by have := hd.1; cases ds with | nil => exact absurd rfl this | cons _ _ => simp
  refine ⟨[⟨3, [97], ⟨[], []⟩, 0⟩], _, 2, ?_, show lex [97, 32] = .good [⟨3, [97], ⟨[], []⟩, 0⟩] by decide +kernel, rfl, rfl⟩
  obtain ⟨l, hl⟩ : ∃ l, ([97, 32] : List Int) ++ 45 :: ds = l := ⟨_, rfl⟩
  rw [hl]
  have hlen : l.length = ds.length + 3 := by rw [← hl]; simp
  unfold lex
  rw [if_neg (by omega), show l.length + 1 = (ds.length + 4 - 3) + 2 + 1 by omega]
  have h0 : l.drop 0 = 97 :: 32 :: 45 :: ds := by rw [← hl]; rfl
  rw [step (b := 0) (by rw [h0]; rfl) (by omega) (by rw [Nat.add_zero, gt_of_drop h0]; decide) (by decide) (word_name h0 (by omega) (by simpa using hb [32] (by simp)) (begins_no h0 rfl (by omega)) (by omega) rfl rfl rfl)]
  have h1 := drop_next h0
  rw [end_own (b := 1) hd hv (by rw [h1]; rfl) (drop_next h1) (by rw [show prev l (0 + 1 + 1) = gt l (0 + 1) from rfl, gt_of_drop h1]; rfl) (by decide)]
  rfl
theorem strand_seven : lex ([55, 32] ++ 45 :: ds) = .good [⟨1, [], litNums [7, -(val ds)], 0⟩] := by
  have hb := ds_bytes hd
  obtain ⟨l, hl⟩ : ∃ l, ([55, 32] : List Int) ++ 45 :: ds = l := ⟨_, rfl⟩
  rw [hl]
  have hlen : l.length = ds.length + 3 := by rw [← hl]; simp
  have h0 : l.drop 0 = 55 :: 32 :: 45 :: ds := by rw [← hl]; rfl
  have h1 := drop_next h0
  have h2 := drop_next h1
  have hn0 := num_seven h0 rfl
  obtain ⟨d, r, hdr⟩ : ∃ d r, ds = d :: r := by
    cases ds with
    | nil => exact absurd rfl hd.1
    | cons d r => exact ⟨d, r, rfl⟩
  have hbg : begins l 2 = true := by
    unfold begins
    rw [gt_of_drop h2, show prev l 2 = gt l 1 from rfl, gt_of_drop h1, gt_of_drop ((drop_next h2).trans hdr), hd.2 d (by rw [hdr]; exact List.mem_cons_self)]
    rfl
  have hs1 : span blank (32 :: 45 :: ds) = 1 := rfl
  have hns : numsAt (l.length + 1) l 0 [] = .good [7, -(val ds)] l.length := by
    obtain ⟨f, hf⟩ : ∃ f, l.length + 1 = f + 1 + 1 := ⟨l.length - 1, by omega⟩
    rw [hf]
    rw [numsAt, hn0]
    simp only [if_true]
    rw [h1, hs1, show 0 + 1 + 1 = 2 from rfl, hbg, if_neg (by simp)]
    exact nums_last (num_neg h2 hd hv (by omega))
  have hw : wordAt l 0 = .good ⟨1, [], litNums [7, -(val ds)], 0⟩ l.length := by
    unfold wordAt
    rw [if_neg (one_at h0 (by omega) (by simpa using hb [32] (by simp))), if_pos (begins_seven h0), hns]
  unfold lex
  rw [if_neg (by omega), show l.length + 1 = (ds.length + 2) + 1 + 1 by omega, step (b := 0) (by rw [h0]; rfl) (by omega) (by rw [gt_of_drop h0]; decide) (by decide) hw, stop (Nat.le_refl _)]
  rfl
end
end Go.Proofs.Ytkghglncmekdgaa.Kx
