/- Contracts of skip and group: where a function ends. Conditions: the grammar and the words read in memory; the parser's block. -/
import Derived.Test.YtollglblkbjgjaaGc
namespace Go.Proofs.Ytollglblkbjgjaa
open Go.RowKit

/-- behind signs that stand behind a function -/
def Env.tail (E : Env) : Nat → Nat → Nat
  | 0, i => i
  | f + 1, i => if E.sign i E.as_ then E.tail f (i + 1) else match E.pow i with
    | some _ => E.tail f (i + 2)
    | none => i
def Env.grpG (E : Env) (sk : Nat → Bool → Option Nat) : Nat → Nat → Bool → Nat → Option Nat
  | 0, _, _, _ => none
  | g + 1, i, b, n => if E.is i 6 ⟨#[41]⟩ then (if n = 1 ∨ E.trains = true ∧ (n = 2 ∨ n = 3) then some (i + 1) else none) else match sk i b with
    | none => none
    | some j => E.grpG sk g j b (n + 1)
def Env.headG (E : Env) (grp : Nat → Bool → Option Nat) (i : Nat) (b : Bool) : Option Nat :=
  if (E.sign i E.vs || (b && E.sign i E.bs)) = true then some (i + 1)
  else if E.is i 5 E.open_ = true then (E.shut i).map (· + 1)
  else if E.is i 5 ⟨#[40]⟩ = true then grp i b else none
/-- where the function ends that begins at a word -/
def Env.skipF (E : Env) : Nat → Nat → Bool → Option Nat
  | 0, _, _ => none
  | f + 1, i, b => (E.headG (fun i b => E.grpG (E.skipF f) (E.L.length + 1) (i + 1) b 0) (if E.is i 4 E.outer then i + 1 else i) (b && !E.is i 4 E.outer)).map (E.tail (E.L.length + 1))

theorem Env.tail_ge (E : Env) : ∀ (f i : Nat), i ≤ E.L.length → i ≤ E.tail f i ∧ E.tail f i ≤ E.L.length
  | 0, i, h => ⟨Nat.le_refl _, h⟩
  | f + 1, i, h => by
    simp only [Env.tail]
    split
    · rename_i hs
      have := Env.sign_lt hs
      have := E.tail_ge f (i + 1) (by omega)
      omega
    · split
      · rename_i hp
        have := Env.pow_lt hp
        have := E.tail_ge f (i + 2) (by omega)
        omega
      · omega
theorem Env.shutL_lt : ∀ (l : List Tok) (n : Int) (k : Nat), shutL l n = some k → k < l.length
  | [], _, _, h => by cases h
  | t :: l, n, k, h => by
    simp only [shutL] at h
    split at h
    · obtain ⟨j, hj, rfl⟩ := Option.map_eq_some_iff.1 h
      have := shutL_lt l _ j hj
      simp; omega
    · split at h
      · split at h
        · cases h; simp
        · obtain ⟨j, hj, rfl⟩ := Option.map_eq_some_iff.1 h
          have := shutL_lt l _ j hj
          simp; omega
      · obtain ⟨j, hj, rfl⟩ := Option.map_eq_some_iff.1 h
        have := shutL_lt l _ j hj
        simp; omega
theorem Env.shut_lt {E : Env} {i k : Nat} (h : E.shut i = some k) : i ≤ k ∧ k < E.L.length := by
  obtain ⟨j, hj, rfl⟩ := Option.map_eq_some_iff.1 h
  have := shutL_lt _ _ _ hj
  rw [List.length_drop] at this
  omega
theorem Env.grp_lt {E : Env} {sk : Nat → Bool → Option Nat} (hsk : ∀ i b j, sk i b = some j → i < j ∧ j ≤ E.L.length) : ∀ (g i : Nat) (b : Bool) (n j : Nat), E.grpG sk g i b n = some j → i < j ∧ j ≤ E.L.length
  | 0, _, _, _, _, h => by cases h
  | g + 1, i, b, n, j, h => by
    simp only [Env.grpG] at h
    split at h
    · rename_i hc
      have := Env.is_lt hc
      split at h
      · cases h; omega
      · cases h
    · split at h
      · cases h
      · rename_i k hk
        have h1 := hsk _ _ _ hk
        have h2 := grp_lt hsk g k b (n + 1) j h
        omega
theorem Env.head_lt {E : Env} {grp : Nat → Bool → Option Nat} (hg : ∀ i b j, grp i b = some j → i < j ∧ j ≤ E.L.length) {i : Nat} {b : Bool} {j : Nat} (h : E.headG grp i b = some j) : i < j ∧ j ≤ E.L.length := by
  unfold Env.headG at h
  split at h
  · rename_i hc
    cases h
    have : i < E.L.length := by
      rcases Bool.or_eq_true _ _ ▸ hc with h1 | h1
      · exact Env.sign_lt h1
      · exact Env.sign_lt (Bool.and_eq_true _ _ ▸ h1).2
    omega
  · split at h
    · obtain ⟨k, hk, rfl⟩ := Option.map_eq_some_iff.1 h
      have := Env.shut_lt hk
      omega
    · split at h
      · exact hg _ _ _ h
      · cases h
theorem Env.skip_lt (E : Env) : ∀ (f i : Nat) (b : Bool) (j : Nat), E.skipF f i b = some j → i < j ∧ j ≤ E.L.length
  | 0, _, _, _, h => by cases h
  | f + 1, i, b, j, h => by
    simp only [Env.skipF] at h
    obtain ⟨k, hk, rfl⟩ := Option.map_eq_some_iff.1 h
    have h1 := Env.head_lt (fun i b j hj => by
      have := Env.grp_lt (E.skip_lt f) _ _ _ _ _ hj
      exact ⟨by omega, this.2⟩) hk
    have h2 := E.tail_ge (E.L.length + 1) k h1.2
    split at h1 <;> omega


set_option maxRecDepth 100000 in
set_option maxHeartbeats 4000000 in
theorem group_any (E : Env) (bp : Nat) (p : Nat) (d n : Int) (b : Bool) (sk : Nat → Bool → Option Nat) (i : Nat) (hi : i < E.L.length)
    (hsk : ∀ (k : Nat) (w : World), i + 1 ≤ k → k ≤ E.L.length → EnvAt w E → w.heap[bp]? = some (pcell E p d n) → Calls Try.prog 32 #[.pointer (some ⟨bp, 0, none⟩), .int .i64 (k : Int), .bool b] w (Adds (placeVal (sk k b)) w))
    (hlt : ∀ i b j, sk i b = some j → i < j ∧ j ≤ E.L.length) (w : World) (hE : EnvAt w E) (hp : w.heap[bp]? = some (pcell E p d n)) :
    Calls Try.prog 57 #[.pointer (some ⟨bp, 0, none⟩), .int .i64 (i : Int), .bool b] w (Adds (placeVal (E.grpG sk (E.L.length + 1) (i + 1) b 0)) w) := by
  have hln := hE.ln
  obtain ⟨R, hR⟩ : ∃ R, E.grpG sk (E.L.length + 1) (i + 1) b 0 = R := ⟨_, rfl⟩
  rw [hR]
  have HR := Lib.hid hR
  have HE := Lib.hid hE
  have HP := Lib.hid hp
  have HSK := Lib.hid hsk
  have HLT := Lib.hid hlt
  have hw1 : IntKind.i64.wrap ((i : Int) + 1) = (i : Int) + 1 := wraps_i64 _ (by omega) (by omega)
  clear hE hp hR hsk hlt
  go_enter Try.func57, Try.ntmps57
  go_wp2
  go_loopg [1, 7] (E.L.length + 1) (fun f ti tn wr => ∃ k m : Nat, ti = .int .i64 k ∧ tn = .int .i64 m ∧ i + 1 ≤ k ∧ k ≤ E.L.length ∧ m ≤ k ∧ E.L.length + 1 ≤ k + f ∧ Below w.heap.size w wr ∧ E.grpG sk f k b m = R)
  case atStart => exact ⟨i + 1, 0, by go_num, rfl, Nat.le_refl _, by omega, by omega, by omega, Below.refl _ _, HR.out⟩
  case round =>
    obtain ⟨k, m, rfl, rfl, hik, hk, hmk, hf, hb, hM⟩ := hrel
    obtain ⟨f, rfl⟩ : ∃ f, gk = f + 1 := ⟨gk - 1, by omega⟩
    have HB := Lib.hid hb
    have HE1 := Lib.hid (HE.out.below hb)
    have hp1 := blk_below HP.out hb (blk_lt HP.out)
    have HP1 := Lib.hid hp1
    have c11 := blk_cell hp1 11
    simp only [Env.grpG] at hM
    have HI := Lib.hid (is_any E bp p d n k 6 ⟨#[41]⟩ wr HE1.out hp1)
    clear hb hp1
    cases bi : E.is k 6 ⟨#[41]⟩
    · rw [bi, if_neg Bool.false_ne_true] at hM
      rw [bi] at HI
      have HS := Lib.hid (HSK.out k wr hik hk HE1.out HP1.out)
      clear bi
      cases hs : sk k b with
      | none =>
        rw [hs] at hM HS
        dsimp only [placeVal] at hM HS
        subst hM
        go_wp2_with fail
        refine HI.out.mono ?_
        rintro e w2 ⟨rfl, rfl⟩
        go_wp2_with fail
        refine HS.out.mono ?_
        rintro e w3 ⟨rfl, hb3⟩
        go_wp2
        refine bodyPost_ret (v := .int .i64 (-1)) (by simp [results, Try.results57, go_sem]) rfl ?_
        exact ⟨rfl, below_then HB.out HB.out.size hb3⟩
      | some j =>
        rw [hs] at hM HS
        dsimp only [placeVal] at hM HS
        have hj := HLT.out k b j hs
        have HM := Lib.hid hM
        have hw2 : IntKind.i64.wrap ((m : Int) + 1) = (m : Int) + 1 := wraps_i64 _ (by omega) (by omega)
        have dj : decide ((j : Int) < 0) = false := decide_eq_false (by omega)
        clear hM hs
        go_wp2_with fail
        refine HI.out.mono ?_
        rintro e w2 ⟨rfl, rfl⟩
        go_wp2_with fail
        refine HS.out.mono ?_
        rintro e w3 ⟨rfl, hb3⟩
        go_wp2
        go_roundg f
        case rel => exact ⟨j, m + 1, rfl, by go_num, by omega, hj.2, by omega, by omega, below_then HB.out HB.out.size hb3, HM.out⟩
        case measure => exact Nat.lt_succ_self f
    · rw [bi, if_pos rfl] at hM
      rw [bi] at HI
      have hkl := Env.is_lt bi
      have hw2 : IntKind.i64.wrap ((k : Int) + 1) = (k : Int) + 1 := wraps_i64 _ (by omega) (by omega)
      clear bi
      by_cases hm1 : m = 1
      · rw [if_pos (.inl hm1)] at hM
        subst hM
        subst hm1
        go_wp2_with fail
        refine HI.out.mono ?_
        rintro e w2 ⟨rfl, rfl⟩
        go_wp2
        refine bodyPost_ret (v := .int .i64 ((k : Int) + 1)) (by simp [results, Try.results57, go_sem]) rfl ?_
        exact ⟨by simp [placeVal], HB.out⟩
      · have b1 : ((m : Int) == 1) = false := beq_eq_false_iff_ne.2 (by omega)
        cases ht : E.trains
        · rw [if_neg (by rw [ht]; intro h; rcases h with h | h; exact hm1 h; cases h.1)] at hM
          subst hM
          rw [ht] at c11
          go_wp2_with fail
          refine HI.out.mono ?_
          rintro e w2 ⟨rfl, rfl⟩
          go_wp2
          refine bodyPost_ret (v := .int .i64 (-1)) (by simp [results, Try.results57, go_sem]) rfl ?_
          exact ⟨rfl, HB.out⟩
        · rw [ht] at c11 hM
          by_cases hm2 : m = 2
          · rw [if_pos (.inr ⟨rfl, .inl hm2⟩)] at hM
            subst hM
            subst hm2
            go_wp2_with fail
            refine HI.out.mono ?_
            rintro e w2 ⟨rfl, rfl⟩
            go_wp2
            refine bodyPost_ret (v := .int .i64 ((k : Int) + 1)) (by simp [results, Try.results57, go_sem]) rfl ?_
            exact ⟨by simp [placeVal], HB.out⟩
          · have b2 : ((m : Int) == 2) = false := beq_eq_false_iff_ne.2 (by omega)
            by_cases hm3 : m = 3
            · rw [if_pos (.inr ⟨rfl, .inr hm3⟩)] at hM
              subst hM
              subst hm3
              go_wp2_with fail
              refine HI.out.mono ?_
              rintro e w2 ⟨rfl, rfl⟩
              go_wp2
              refine bodyPost_ret (v := .int .i64 ((k : Int) + 1)) (by simp [results, Try.results57, go_sem]) rfl ?_
              exact ⟨by simp [placeVal], HB.out⟩
            · have b3 : ((m : Int) == 3) = false := beq_eq_false_iff_ne.2 (by omega)
              rw [if_neg (by intro h; rcases h with h | h; exact hm1 h; rcases h.2 with h | h; exact hm2 h; exact hm3 h)] at hM
              subst hM
              go_wp2_with fail
              refine HI.out.mono ?_
              rintro e w2 ⟨rfl, rfl⟩
              go_wp2
              refine bodyPost_ret (v := .int .i64 (-1)) (by simp [results, Try.results57, go_sem]) rfl ?_
              exact ⟨rfl, HB.out⟩
end Go.Proofs.Ytollglblkbjgjaa
