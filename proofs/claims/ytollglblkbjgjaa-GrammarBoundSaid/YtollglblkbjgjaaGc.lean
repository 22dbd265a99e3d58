/- Contracts of what looks words up: how often a word says, where a bracket closes. Conditions: the grammar and the words read in memory; the parser's block. -/
import Derived.Test.YtollglblkbjgjaaGb
namespace Go.Proofs.Ytollglblkbjgjaa
open Go.RowKit

theorem wraps_i64 (x : Int) (h1 : -9223372036854775808 ≤ x) (h2 : x ≤ 9223372036854775807) : IntKind.i64.wrap x = x := by
  rw [IntKind.wrap_i64]
  omega
/-- how often a word says, and that is told behind it -/
def Env.pow (E : Env) (i : Nat) : Option Int :=
  if E.is i 4 E.power then match E.L[i + 1]? with
    | none => none
    | some t => if t.kind = 1 then timesOf t.lit t.lit.c0 t.lit.n0 else none
  else none
theorem Env.is_lt {E : Env} {i : Nat} {k : Int} {x : ByteArray} (h : E.is i k x = true) : i < E.L.length := by
  rcases Nat.lt_or_ge i E.L.length with h1 | h1
  · exact h1
  · rw [Env.is_none h1] at h; cases h
theorem Env.sign_lt {E : Env} {i : Nat} {l : List ByteArray} (h : E.sign i l = true) : i < E.L.length := by
  rcases Nat.lt_or_ge i E.L.length with h1 | h1
  · exact h1
  · rw [Env.sign_none h1] at h; cases h
theorem Env.pow_lt {E : Env} {i : Nat} {n : Int} (h : E.pow i = some n) : i + 1 < E.L.length := by
  unfold Env.pow at h
  split at h
  · split at h
    · cases h
    · rename_i hq
      exact (List.getElem?_eq_some_iff.1 hq).1
  · cases h
set_option maxRecDepth 100000 in
set_option maxHeartbeats 2000000 in
theorem power_any (E : Env) (bp : Nat) (p : Nat) (d n : Int) (i : Nat) (w : World) (hE : EnvAt w E) (hp : w.heap[bp]? = some (pcell E p d n)) (hi : i ≤ 1000000) :
    Calls Try.prog 58 #[.pointer (some ⟨bp, 0, none⟩), .int .i64 (i : Int)] w (Adds (optVal (E.pow i)) w) := by
  have c14 := blk_cell hp 14
  have c4 := blk_cell hp 4
  have hln := hE.ln
  have hw1 : IntKind.i64.wrap ((i : Int) + 1) = (i : Int) + 1 := wraps_i64 _ (by omega) (by omega)
  have HI := Lib.hid (is_any E bp p d n i 4 E.power w hE hp)
  have hpow : E.pow i = (if E.is i 4 E.power then match E.L[i + 1]? with
    | none => none
    | some t => if t.kind = 1 then timesOf t.lit t.lit.c0 t.lit.n0 else none
  else none) := rfl
  obtain ⟨R, hR⟩ : ∃ R, E.pow i = R := ⟨_, rfl⟩
  rw [hR] at hpow ⊢
  clear hR
  cases b1 : E.is i 4 E.power
  · rw [b1] at hpow HI
    subst hpow
    clear hE hp b1
    go_enter Try.func58, Try.ntmps58
    go_wp2_with fail
    refine HI.out.mono ?_
    rintro e w' ⟨rfl, rfl⟩
    go_wp2_with fail
    refine bodyPost_ret (v := .tuple #[.int .i64 0, .bool false]) (by simp [results, Try.results58, go_sem]) rfl ?_
    exact ⟨rfl, Below.refl _ _⟩
  · rw [b1] at hpow HI
    rw [if_pos rfl] at hpow
    rcases Nat.lt_or_ge (i + 1) E.L.length with hlt | hge
    · obtain ⟨t, b, off, ht, hA, hk⟩ := hE.tok hlt
      rw [ht] at hpow
      dsimp only at hpow
      have k0 := hk.k0
      have k2 := hk.k2
      have k3 := hk.k3
      have HL := Lib.hid hk.lit
      rw [hA] at c14
      have hi0 : (0 : Int) ≤ (i : Int) + 1 := by omega
      have hi1 : (i : Int) + 1 < (E.L.length : Int) := by omega
      have hi2 : ((i : Int) + 1).toNat = i + 1 := by omega
      have d2 : decide ((E.L.length : Int) ≤ (i : Int) + 1) = false := decide_eq_false (by omega)
      clear hp hE hk ht hA b1
      by_cases hk1 : t.kind = 1
      · rw [if_pos hk1] at hpow
        subst hpow
        rw [hk1] at k0
        go_enter Try.func58, Try.ntmps58
        go_wp2_with fail
        refine HI.out.mono ?_
        rintro e w' ⟨rfl, rfl⟩
        go_wp2_with fail
        refine (times_any t.lit t.lit.c0 t.lit.n0 w' HL.out).mono ?_
        rintro e w2 ⟨rfl, hb⟩
        cases hq : timesOf t.lit t.lit.c0 t.lit.n0 with
        | none =>
          dsimp only [optVal]
          go_wp2
          refine bodyPost_ret (v := .tuple #[.int .i64 0, .bool false]) (by simp [results, Try.results58, go_sem]) rfl ?_
          exact ⟨by rw [hq]; rfl, hb⟩
        | some m =>
          dsimp only [optVal]
          go_wp2
          refine bodyPost_ret (v := .tuple #[.int .i64 m, .bool true]) (by simp [results, Try.results58, go_sem]) rfl ?_
          exact ⟨by rw [hq]; rfl, hb⟩
      · rw [if_neg hk1] at hpow
        subst hpow
        have hkb : (t.kind == 1) = false := beq_eq_false_iff_ne.2 hk1
        go_enter Try.func58, Try.ntmps58
        go_wp2_with fail
        refine HI.out.mono ?_
        rintro e w' ⟨rfl, rfl⟩
        go_wp2_with fail
        refine bodyPost_ret (v := .tuple #[.int .i64 0, .bool false]) (by simp [results, Try.results58, go_sem]) rfl ?_
        exact ⟨rfl, Below.refl _ _⟩
    · rw [List.getElem?_eq_none hge] at hpow
      dsimp only at hpow
      subst hpow
      have d2 : decide ((E.L.length : Int) ≤ (i : Int) + 1) = true := decide_eq_true (by omega)
      clear hp hE b1
      go_enter Try.func58, Try.ntmps58
      go_wp2_with fail
      refine HI.out.mono ?_
      rintro e w' ⟨rfl, rfl⟩
      go_wp2_with fail
      refine bodyPost_ret (v := .tuple #[.int .i64 0, .bool false]) (by simp [results, Try.results58, go_sem]) rfl ?_
      exact ⟨rfl, Below.refl _ _⟩

/-- where the bracket closes that is open n deep, in words from here -/
def shutL : List Tok → Int → Option Nat
  | [], _ => none
  | t :: l, n => if t.kind = 5 then (shutL l (n + 1)).map (· + 1) else if t.kind = 6 then (if n - 1 = 0 then some 0 else (shutL l (n - 1)).map (· + 1)) else (shutL l n).map (· + 1)
def Env.shut (E : Env) (i : Nat) : Option Nat := (shutL (E.L.drop i) 0).map (· + i)
def placeVal : Option Nat → Value
  | none => .int .i64 (-1)
  | some k => .int .i64 (k : Int)
theorem shut_map (o : Option Nat) (k : Nat) : (o.map (· + 1)).map (· + k) = o.map (· + (k + 1)) := by
  cases o with
  | none => rfl
  | some x => simp only [Option.map_some, Option.some.injEq]; omega
set_option maxRecDepth 100000 in
set_option maxHeartbeats 2000000 in
theorem shut_any (E : Env) (bp : Nat) (p : Nat) (d n : Int) (i : Nat) (w : World) (hE : EnvAt w E) (hp : w.heap[bp]? = some (pcell E p d n)) (hi : i ≤ E.L.length) :
    Calls Try.prog 56 #[.pointer (some ⟨bp, 0, none⟩), .int .i64 (i : Int)] w (Says (placeVal (E.shut i)) w) := by
  have c14 := blk_cell hp 14
  have hln := hE.ln
  have HE := Lib.hid hE
  obtain ⟨R, hR⟩ : ∃ R, E.shut i = R := ⟨_, rfl⟩
  rw [hR]
  have HR := Lib.hid hR
  clear hE hp hR
  go_enter Try.func56, Try.ntmps56
  go_wp2
  go_loop [5, 6] (fun m q => ∃ (k : Nat) (x : Int), i ≤ k ∧ k ≤ E.L.length ∧ q = .int .i64 k ∧ m = .int .i64 x ∧ -(k : Int) ≤ x ∧ x ≤ (k : Int) ∧ (shutL (E.L.drop k) x).map (· + k) = R) (fun _ q => E.L.length - (intOf q).toNat)
  case atStart => exact ⟨i, 0, Nat.le_refl _, hi, rfl, rfl, by omega, by omega, HR.out⟩
  case round =>
    obtain ⟨k, x, hik, hk, rfl, rfl, hx1, hx2, hM⟩ := hrel
    by_cases hlt : k < E.L.length
    · obtain ⟨t, b, off, ht, hA, htk⟩ := HE.out.tok hlt
      have k0 := htk.k0
      rw [List.drop_eq_getElem_cons hlt, show E.L[k] = t from (List.getElem?_eq_some_iff.1 ht).2] at hM
      simp only [shutL] at hM
      rw [hA] at c14
      have hi0 : (0 : Int) ≤ (k : Int) := by omega
      have hi1 : (k : Int) < (E.L.length : Int) := by omega
      have d1 : decide (k < E.L.length) = true := decide_eq_true hlt
      clear ht hA htk
      generalize t.kind = tk at *
      by_cases h5 : tk = 5
      · rw [if_pos h5, shut_map] at hM
        subst h5
        have HM := Lib.hid hM
        clear hM
        have hw : IntKind.i64.wrap (x + 1) = x + 1 := wraps_i64 _ (by omega) (by omega)
        go_wp2
        go_round
        case rel => exact ⟨k + 1, x + 1, by omega, by omega, by go_num, rfl, by omega, by omega, HM.out⟩
        case measure => simp [intOf]; omega
      · rw [if_neg h5] at hM
        have b5 : (tk == 5) = false := beq_eq_false_iff_ne.2 h5
        by_cases h6 : tk = 6
        · rw [if_pos h6] at hM
          subst h6
          have hw : IntKind.i64.wrap (x - 1) = x - 1 := wraps_i64 _ (by omega) (by omega)
          by_cases hz : x - 1 = 0
          · rw [if_pos hz] at hM
            obtain rfl : x = 1 := by omega
            subst hM
            clear h5
            go_wp2
            refine bodyPost_ret (v := .int .i64 (k : Int)) (by simp [results, Try.results56, go_sem]) rfl ?_
            exact ⟨by simp [placeVal], rfl⟩
          · rw [if_neg hz, shut_map] at hM
            have HM := Lib.hid hM
            have bz : (x - 1 == 0) = false := beq_eq_false_iff_ne.2 hz
            clear hM hz h5
            go_wp2
            go_round
            case rel => exact ⟨k + 1, x - 1, by omega, by omega, by go_num, rfl, by omega, by omega, HM.out⟩
            case measure => simp [intOf]; omega
        · rw [if_neg h6, shut_map] at hM
          have b6 : (tk == 6) = false := beq_eq_false_iff_ne.2 h6
          have HM := Lib.hid hM
          clear hM h5 h6
          go_wp2
          go_round
          case rel => exact ⟨k + 1, x, by omega, by omega, by go_num, rfl, by omega, by omega, HM.out⟩
          case measure => simp [intOf]; omega
    · obtain rfl : k = E.L.length := by omega
      rw [List.drop_length] at hM
      have hRn : R = none := hM.symm
      subst hRn
      clear hM
      go_wp2
      refine bodyPost_ret (v := .int .i64 (-1)) (by simp [results, Try.results56, go_sem]) rfl ?_
      exact ⟨rfl, rfl⟩
end Go.Proofs.Ytollglblkbjgjaa
