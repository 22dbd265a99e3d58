/- The law of the sign of less, walked for some of the texts ahead: it returns true. Conditions: the numbers' ranges; which text stands ahead. -/
import Derived.Test.YtkghglncmekdgaaKw
namespace Go.Proofs.Ytkghglncmekdgaa
open Go.RowKit

set_option maxRecDepth 100000 in
set_option maxHeartbeats 4000000 in
theorem minus_8 (a0 a1 : Int) (hk : a1 % 12 = 8) (w0 : (Lit.int .u32 a0).wf = true) (w1 : (Lit.int .u8 a1).wf = true) (w : World) : Calls Try.prog 5 #[.int .u32 a0, .int .u8 a1] w (fun e w' => e = .returned (.bool true) ∧ Below w.heap.size w w') := by
  have hr0 := bounds_u32 w0
  have hr1 := bounds_u8 w1
  obtain ⟨n, rfl⟩ : ∃ n : Nat, a0 = (n : Int) := ⟨a0.toNat, by omega⟩
  obtain ⟨m, rfl⟩ : ∃ m : Nat, a1 = (m : Int) := ⟨a1.toNat, by omega⟩
  have hn : n < 4294967296 := by omega
  have hm : m ≤ 255 := by omega
  have hmk : m % 12 = 8 := by omega
  clear w0 w1 hr0 hr1
  go_enter Try.func5, Try.ntmps5
  go_wp2
  go_loopg [5, 6] (n + 1) (fun gk v5 v6 wr => ∃ (k : Nat) (ds : List Int), v5 = .string (strOfNums ds) ∧ v6 = .int .u32 k ∧ k + (if ds = [] then 1 else 0) ≤ gk ∧ k ≤ n ∧ DigInv n k ds ∧ wr = w)
  case atStart => exact ⟨n, [], rfl, rfl, by simp, Nat.le_refl _, ⟨by simp [Kx.val], fun d hd => (by cases hd), by simp⟩, rfl⟩
  case round =>
    obtain ⟨k, ds, rfl, rfl, hf, hkn, hinv, rfl⟩ := hrel
    have HINV := Lib.hid hinv
    have hlen := hinv.2.2
    have hsz := strOfNums_size ds
    have hemp : (strOfNums ds).toList.isEmpty = decide (ds = []) := by
      cases ds with
      | nil =>
        rw [decide_eq_true rfl, Lib.toList_data, strOfNums_data]
        rfl
      | cons d t =>
        rw [decide_eq_false (by simp), Lib.toList_data, strOfNums_data]
        rfl
    by_cases hgo : ds = [] ∨ 0 < k
    · have hnx := dig_next hn hinv hgo
      rw [Int.natCast_emod, show ((10 : Nat) : Int) = 10 from rfl] at hnx
      have hgk : 1 ≤ gk ∧ k / 10 ≤ gk - 1 := by
        rcases hgo with h | h
        · rw [if_pos h] at hf; omega
        · have h9 : k ≤ gk := Nat.le_trans (Nat.le_add_right _ _) hf
          omega
      obtain ⟨f, rfl⟩ : ∃ f, gk = f + 1 := ⟨gk - 1, by omega⟩
      have hf2 : k / 10 ≤ f := by omega
      have hcs := chr_str k
      have hq : ∀ W, (Op.stringOp .add (strOfNums [48 + (k : Int) % 10]) (strOfNums ds)).run Try.prog W = .ok (.string (strOfNums ((48 + (k : Int) % 10) :: ds))) W := fun W => by
        rw [run_string_add_sum W _ _ (by rw [hsz, strOfNums_size, List.length_singleton]; omega), strOfNums_append]
        rfl
      have HNX := Lib.hid hnx
      clear hinv hnx hf hsz
      rcases Nat.eq_zero_or_pos k with hk0 | hk0
      · have hds : ds = [] := hgo.resolve_right (by omega)
        subst hk0 hds
        have hq0 : ∀ W, (Op.stringOp .add (strOfNums [48]) (strOfNums [])).run Try.prog W = .ok (.string (strOfNums [48])) W := hq
        have hcs0 : Utf8.encode 48 = strOfNums [48] := hcs
        have hem0 : (strOfNums []).toList.isEmpty = true := hemp
        clear hq hcs hemp hgo
        go_wp2
        go_roundg f
        case rel => exact ⟨0, [48], rfl, rfl, by rw [if_neg (List.cons_ne_nil _ _)]; omega, by omega, HNX.out, rfl⟩
        case measure => exact Nat.lt_succ_self f
      · have hkd : decide (0 < k) = true := decide_eq_true hk0
        clear hgo
        go_wp2
        go_roundg f
        case rel => exact ⟨k / 10, _, rfl, by go_num, by rw [if_neg (List.cons_ne_nil _ _)]; exact hf2, by omega, HNX.out, rfl⟩
        case measure => exact Nat.lt_succ_self f
    · have hk0 : k = 0 := (Nat.eq_zero_or_pos k).resolve_right fun h => hgo (.inr h)
      have hne : ds ≠ [] := fun h => hgo (.inl h)
      subst hk0
      have hd : Kx.Digits ds := ⟨hne, hinv.2.1⟩
      have hval : Kx.val ds = (n : Int) := by have := hinv.1; simp at this; omega
      have hdec : decide (ds = []) = false := decide_eq_false hne
      have F := ownX_of (X := ⟨#[40]⟩) (Kx.own_open hd (by rw [hval]; omega) (by omega)) rfl (by intro x hx; simp at hx; omega) hd hval (by decide)
      obtain ⟨pre, pre', p, hL, hL', hpl', hpl, hXs⟩ := F
      have hq1 : ∀ W, (Op.stringOp .add ⟨#[40]⟩ ⟨#[45]⟩).run Try.prog W = .ok (.string (⟨#[40]⟩ ++ ⟨#[45]⟩)) W := fun W => run_string_add_sum W _ _ (by rw [show (⟨#[45]⟩ : ByteArray).size = 1 from rfl]; omega)
      have hq2 : ∀ W, (Op.stringOp .add (⟨#[40]⟩ ++ ⟨#[45]⟩) (strOfNums ds)).run Try.prog W = .ok (.string (⟨#[40]⟩ ++ ⟨#[45]⟩ ++ strOfNums ds)) W := fun W => run_string_add_sum W _ _ (by rw [ByteArray.size_append, show (⟨#[45]⟩ : ByteArray).size = 1 from rfl, hsz]; omega)
      have hlen : (pre ++ [⟨1, [], ⟨[], [(0, -(n : Int))]⟩, p⟩] : List Kx.Tok).length = 2 := by rw [List.length_append, hpl]; rfl
      have hlast : (pre ++ [⟨1, [], ⟨[], [(0, -(n : Int))]⟩, p⟩] : List Kx.Tok)[1]? = some ⟨1, [], ⟨[], [(0, -(n : Int))]⟩, p⟩ := by rw [List.getElem?_append_right (by omega), hpl]; rfl
      generalize (pre ++ [⟨1, [], ⟨[], [(0, -(n : Int))]⟩, p⟩] : List Kx.Tok) = ts at *
      have HL := Lib.hid hL
      have HL' := Lib.hid hL'
      clear hL hL' hinv HINV hf hne hd hval hgo
      go_wp2_with fail
      refine (lex_good HL.out _).mono ?_
      rintro e w2 ⟨A2, c2, rfl, ht2, _, hc2, hb2⟩
      rw [hlen] at hc2
      simp only [hlen]
      have HB2 := Lib.hid (below_then ((Below.refl _ wr).alloc (Nat.le_refl _) _) (by simp) hb2)
      have T2 := Lib.hid ht2
      clear ht2 hb2
      go_wp2_with fail
      refine (lex_good HL'.out _).mono ?_
      rintro e w3 ⟨A3, c3, rfl, _, _, hc3, hb3⟩
      rw [hpl'] at hc3
      simp only [hpl']
      generalize hF1 : (Obj.cells #[Value.int IntKind.i64 0, Value.int IntKind.i64 0, Value.int IntKind.i64 0] 26) = F0 at *
      have z1 : Below w2.heap.size w2 (w2.alloc F0) := (Below.refl _ _).alloc (Nat.le_refl _) _
      have z2 := below_then z1 z1.size hb3
      have f0 := blk_below (blk_new w2 F0) hb3 (by simp)
      have T3 := Lib.hid (T2.out.below z2)
      have HB3 := Lib.hid (below_then HB2.out HB2.out.size z2)
      have hg2 := blk_lt f0
      generalize w2.heap.size = g2 at *
      clear T2 HB2 z1 z2 hb3
      have z3 : Below w3.heap.size w3 (w3.alloc F0) := (Below.refl _ _).alloc (Nat.le_refl _) _
      have f1 := blk_cell (hF1 ▸ blk_below f0 z3 hg2) 0
      have HBW := Lib.hid (below_then HB3.out HB3.out.size z3)
      have TW := T3.out.below z3
      clear f0 T3 HB3 z3
      subst hF1
      obtain ⟨bk, sp, sn, sc, sq, sm, sd, rfl, hlt2, hlit, c0, c1, c2', c3', c4⟩ := TW.at hlast
      obtain ⟨cb, rfl, hcb, hsm, cN⟩ := lit_cell hlit (i := 0) rfl
      have hcb' : cb < w3.heap.size + 1 := by simpa using hcb
      have hbk' : bk < w3.heap.size + 1 := by simpa using hlt2
      have hsm' : sm = 1 := hsm
      subst hsm'
      simp only [Nat.reduceMul, Nat.reduceAdd] at c0 c1 c2' c3' c4 cN
      clear hlit TW hsm hlen hlast
      go_wp2_with fail
      refine (works_any _).mono ?_
      rintro e w4 ⟨rfl, hb4⟩
      have HB4 := Lib.hid (below_then (HBW.out.alloc HBW.out.size (Obj.cells #[Value.int IntKind.i64 1, Value.string (strOfNums []), Value.slice sp sn sc, Value.slice (some { block := cb, off := 0 }) 1 sd, Value.int IntKind.i64 (p : Int)] 35)) (by have := HBW.out.size; simp only [World.alloc, Array.size_push] at this ⊢; omega) hb4)
      clear hb4
      go_wp2
      refine bodyPost_ret (v := .bool true) (by simp [results, Try.results5, go_sem]) rfl ?_
      exact ⟨rfl, HB4.out⟩
set_option maxRecDepth 100000 in
set_option maxHeartbeats 4000000 in
theorem minus_9 (a0 a1 : Int) (hk : a1 % 12 = 9) (w0 : (Lit.int .u32 a0).wf = true) (w1 : (Lit.int .u8 a1).wf = true) (w : World) : Calls Try.prog 5 #[.int .u32 a0, .int .u8 a1] w (fun e w' => e = .returned (.bool true) ∧ Below w.heap.size w w') := by
  have hr0 := bounds_u32 w0
  have hr1 := bounds_u8 w1
  obtain ⟨n, rfl⟩ : ∃ n : Nat, a0 = (n : Int) := ⟨a0.toNat, by omega⟩
  obtain ⟨m, rfl⟩ : ∃ m : Nat, a1 = (m : Int) := ⟨a1.toNat, by omega⟩
  have hn : n < 4294967296 := by omega
  have hm : m ≤ 255 := by omega
  have hmk : m % 12 = 9 := by omega
  clear w0 w1 hr0 hr1
  go_enter Try.func5, Try.ntmps5
  go_wp2
  go_loopg [5, 6] (n + 1) (fun gk v5 v6 wr => ∃ (k : Nat) (ds : List Int), v5 = .string (strOfNums ds) ∧ v6 = .int .u32 k ∧ k + (if ds = [] then 1 else 0) ≤ gk ∧ k ≤ n ∧ DigInv n k ds ∧ wr = w)
  case atStart => exact ⟨n, [], rfl, rfl, by simp, Nat.le_refl _, ⟨by simp [Kx.val], fun d hd => (by cases hd), by simp⟩, rfl⟩
  case round =>
    obtain ⟨k, ds, rfl, rfl, hf, hkn, hinv, rfl⟩ := hrel
    have HINV := Lib.hid hinv
    have hlen := hinv.2.2
    have hsz := strOfNums_size ds
    have hemp : (strOfNums ds).toList.isEmpty = decide (ds = []) := by
      cases ds with
      | nil =>
        rw [decide_eq_true rfl, Lib.toList_data, strOfNums_data]
        rfl
      | cons d t =>
        rw [decide_eq_false (by simp), Lib.toList_data, strOfNums_data]
        rfl
    by_cases hgo : ds = [] ∨ 0 < k
    · have hnx := dig_next hn hinv hgo
      rw [Int.natCast_emod, show ((10 : Nat) : Int) = 10 from rfl] at hnx
      have hgk : 1 ≤ gk ∧ k / 10 ≤ gk - 1 := by
        rcases hgo with h | h
        · rw [if_pos h] at hf; omega
        · have h9 : k ≤ gk := Nat.le_trans (Nat.le_add_right _ _) hf
          omega
      obtain ⟨f, rfl⟩ : ∃ f, gk = f + 1 := ⟨gk - 1, by omega⟩
      have hf2 : k / 10 ≤ f := by omega
      have hcs := chr_str k
      have hq : ∀ W, (Op.stringOp .add (strOfNums [48 + (k : Int) % 10]) (strOfNums ds)).run Try.prog W = .ok (.string (strOfNums ((48 + (k : Int) % 10) :: ds))) W := fun W => by
        rw [run_string_add_sum W _ _ (by rw [hsz, strOfNums_size, List.length_singleton]; omega), strOfNums_append]
        rfl
      have HNX := Lib.hid hnx
      clear hinv hnx hf hsz
      rcases Nat.eq_zero_or_pos k with hk0 | hk0
      · have hds : ds = [] := hgo.resolve_right (by omega)
        subst hk0 hds
        have hq0 : ∀ W, (Op.stringOp .add (strOfNums [48]) (strOfNums [])).run Try.prog W = .ok (.string (strOfNums [48])) W := hq
        have hcs0 : Utf8.encode 48 = strOfNums [48] := hcs
        have hem0 : (strOfNums []).toList.isEmpty = true := hemp
        clear hq hcs hemp hgo
        go_wp2
        go_roundg f
        case rel => exact ⟨0, [48], rfl, rfl, by rw [if_neg (List.cons_ne_nil _ _)]; omega, by omega, HNX.out, rfl⟩
        case measure => exact Nat.lt_succ_self f
      · have hkd : decide (0 < k) = true := decide_eq_true hk0
        clear hgo
        go_wp2
        go_roundg f
        case rel => exact ⟨k / 10, _, rfl, by go_num, by rw [if_neg (List.cons_ne_nil _ _)]; exact hf2, by omega, HNX.out, rfl⟩
        case measure => exact Nat.lt_succ_self f
    · have hk0 : k = 0 := (Nat.eq_zero_or_pos k).resolve_right fun h => hgo (.inr h)
      have hne : ds ≠ [] := fun h => hgo (.inl h)
      subst hk0
      have hd : Kx.Digits ds := ⟨hne, hinv.2.1⟩
      have hval : Kx.val ds = (n : Int) := by have := hinv.1; simp at this; omega
      have hdec : decide (ds = []) = false := decide_eq_false hne
      have F := ownX_of (X := ⟨#[32]⟩) (Kx.own_blank hd (by rw [hval]; omega) (by omega)) rfl (by intro x hx; simp at hx; omega) hd hval (by decide)
      obtain ⟨pre, pre', p, hL, hL', hpl', hpl, hXs⟩ := F
      have hq1 : ∀ W, (Op.stringOp .add ⟨#[32]⟩ ⟨#[45]⟩).run Try.prog W = .ok (.string (⟨#[32]⟩ ++ ⟨#[45]⟩)) W := fun W => run_string_add_sum W _ _ (by rw [show (⟨#[45]⟩ : ByteArray).size = 1 from rfl]; omega)
      have hq2 : ∀ W, (Op.stringOp .add (⟨#[32]⟩ ++ ⟨#[45]⟩) (strOfNums ds)).run Try.prog W = .ok (.string (⟨#[32]⟩ ++ ⟨#[45]⟩ ++ strOfNums ds)) W := fun W => run_string_add_sum W _ _ (by rw [ByteArray.size_append, show (⟨#[45]⟩ : ByteArray).size = 1 from rfl, hsz]; omega)
      have hlen : (pre ++ [⟨1, [], ⟨[], [(0, -(n : Int))]⟩, p⟩] : List Kx.Tok).length = 1 := by rw [List.length_append, hpl]; rfl
      have hlast : (pre ++ [⟨1, [], ⟨[], [(0, -(n : Int))]⟩, p⟩] : List Kx.Tok)[0]? = some ⟨1, [], ⟨[], [(0, -(n : Int))]⟩, p⟩ := by rw [List.getElem?_append_right (by omega), hpl]; rfl
      generalize (pre ++ [⟨1, [], ⟨[], [(0, -(n : Int))]⟩, p⟩] : List Kx.Tok) = ts at *
      have HL := Lib.hid hL
      have HL' := Lib.hid hL'
      clear hL hL' hinv HINV hf hne hd hval hgo
      go_wp2_with fail
      refine (lex_good HL.out _).mono ?_
      rintro e w2 ⟨A2, c2, rfl, ht2, _, hc2, hb2⟩
      rw [hlen] at hc2
      simp only [hlen]
      have HB2 := Lib.hid (below_then ((Below.refl _ wr).alloc (Nat.le_refl _) _) (by simp) hb2)
      have T2 := Lib.hid ht2
      clear ht2 hb2
      go_wp2_with fail
      refine (lex_good HL'.out _).mono ?_
      rintro e w3 ⟨A3, c3, rfl, _, _, hc3, hb3⟩
      rw [hpl'] at hc3
      simp only [hpl']
      generalize hF1 : (Obj.cells #[Value.int IntKind.i64 0, Value.int IntKind.i64 0, Value.int IntKind.i64 0] 26) = F0 at *
      have z1 : Below w2.heap.size w2 (w2.alloc F0) := (Below.refl _ _).alloc (Nat.le_refl _) _
      have z2 := below_then z1 z1.size hb3
      have f0 := blk_below (blk_new w2 F0) hb3 (by simp)
      have T3 := Lib.hid (T2.out.below z2)
      have HB3 := Lib.hid (below_then HB2.out HB2.out.size z2)
      have hg2 := blk_lt f0
      generalize w2.heap.size = g2 at *
      clear T2 HB2 z1 z2 hb3
      have z3 : Below w3.heap.size w3 (w3.alloc F0) := (Below.refl _ _).alloc (Nat.le_refl _) _
      have f1 := blk_cell (hF1 ▸ blk_below f0 z3 hg2) 0
      have HBW := Lib.hid (below_then HB3.out HB3.out.size z3)
      have TW := T3.out.below z3
      clear f0 T3 HB3 z3
      subst hF1
      obtain ⟨bk, sp, sn, sc, sq, sm, sd, rfl, hlt2, hlit, c0, c1, c2', c3', c4⟩ := TW.at hlast
      obtain ⟨cb, rfl, hcb, hsm, cN⟩ := lit_cell hlit (i := 0) rfl
      have hcb' : cb < w3.heap.size + 1 := by simpa using hcb
      have hbk' : bk < w3.heap.size + 1 := by simpa using hlt2
      have hsm' : sm = 1 := hsm
      subst hsm'
      simp only [Nat.reduceMul, Nat.reduceAdd] at c0 c1 c2' c3' c4 cN
      clear hlit TW hsm hlen hlast
      go_wp2_with fail
      refine (works_any _).mono ?_
      rintro e w4 ⟨rfl, hb4⟩
      have HB4 := Lib.hid (below_then (HBW.out.alloc HBW.out.size (Obj.cells #[Value.int IntKind.i64 1, Value.string (strOfNums []), Value.slice sp sn sc, Value.slice (some { block := cb, off := 0 }) 1 sd, Value.int IntKind.i64 (p : Int)] 35)) (by have := HBW.out.size; simp only [World.alloc, Array.size_push] at this ⊢; omega) hb4)
      clear hb4
      go_wp2
      refine bodyPost_ret (v := .bool true) (by simp [results, Try.results5, go_sem]) rfl ?_
      exact ⟨rfl, HB4.out⟩
set_option maxRecDepth 100000 in
set_option maxHeartbeats 4000000 in
theorem minus_10 (a0 a1 : Int) (hk : a1 % 12 = 10) (w0 : (Lit.int .u32 a0).wf = true) (w1 : (Lit.int .u8 a1).wf = true) (w : World) : Calls Try.prog 5 #[.int .u32 a0, .int .u8 a1] w (fun e w' => e = .returned (.bool true) ∧ Below w.heap.size w w') := by
  have hr0 := bounds_u32 w0
  have hr1 := bounds_u8 w1
  obtain ⟨n, rfl⟩ : ∃ n : Nat, a0 = (n : Int) := ⟨a0.toNat, by omega⟩
  obtain ⟨m, rfl⟩ : ∃ m : Nat, a1 = (m : Int) := ⟨a1.toNat, by omega⟩
  have hn : n < 4294967296 := by omega
  have hm : m ≤ 255 := by omega
  have hmk : m % 12 = 10 := by omega
  clear w0 w1 hr0 hr1
  go_enter Try.func5, Try.ntmps5
  go_wp2
  go_loopg [5, 6] (n + 1) (fun gk v5 v6 wr => ∃ (k : Nat) (ds : List Int), v5 = .string (strOfNums ds) ∧ v6 = .int .u32 k ∧ k + (if ds = [] then 1 else 0) ≤ gk ∧ k ≤ n ∧ DigInv n k ds ∧ wr = w)
  case atStart => exact ⟨n, [], rfl, rfl, by simp, Nat.le_refl _, ⟨by simp [Kx.val], fun d hd => (by cases hd), by simp⟩, rfl⟩
  case round =>
    obtain ⟨k, ds, rfl, rfl, hf, hkn, hinv, rfl⟩ := hrel
    have HINV := Lib.hid hinv
    have hlen := hinv.2.2
    have hsz := strOfNums_size ds
    have hemp : (strOfNums ds).toList.isEmpty = decide (ds = []) := by
      cases ds with
      | nil =>
        rw [decide_eq_true rfl, Lib.toList_data, strOfNums_data]
        rfl
      | cons d t =>
        rw [decide_eq_false (by simp), Lib.toList_data, strOfNums_data]
        rfl
    by_cases hgo : ds = [] ∨ 0 < k
    · have hnx := dig_next hn hinv hgo
      rw [Int.natCast_emod, show ((10 : Nat) : Int) = 10 from rfl] at hnx
      have hgk : 1 ≤ gk ∧ k / 10 ≤ gk - 1 := by
        rcases hgo with h | h
        · rw [if_pos h] at hf; omega
        · have h9 : k ≤ gk := Nat.le_trans (Nat.le_add_right _ _) hf
          omega
      obtain ⟨f, rfl⟩ : ∃ f, gk = f + 1 := ⟨gk - 1, by omega⟩
      have hf2 : k / 10 ≤ f := by omega
      have hcs := chr_str k
      have hq : ∀ W, (Op.stringOp .add (strOfNums [48 + (k : Int) % 10]) (strOfNums ds)).run Try.prog W = .ok (.string (strOfNums ((48 + (k : Int) % 10) :: ds))) W := fun W => by
        rw [run_string_add_sum W _ _ (by rw [hsz, strOfNums_size, List.length_singleton]; omega), strOfNums_append]
        rfl
      have HNX := Lib.hid hnx
      clear hinv hnx hf hsz
      rcases Nat.eq_zero_or_pos k with hk0 | hk0
      · have hds : ds = [] := hgo.resolve_right (by omega)
        subst hk0 hds
        have hq0 : ∀ W, (Op.stringOp .add (strOfNums [48]) (strOfNums [])).run Try.prog W = .ok (.string (strOfNums [48])) W := hq
        have hcs0 : Utf8.encode 48 = strOfNums [48] := hcs
        have hem0 : (strOfNums []).toList.isEmpty = true := hemp
        clear hq hcs hemp hgo
        go_wp2
        go_roundg f
        case rel => exact ⟨0, [48], rfl, rfl, by rw [if_neg (List.cons_ne_nil _ _)]; omega, by omega, HNX.out, rfl⟩
        case measure => exact Nat.lt_succ_self f
      · have hkd : decide (0 < k) = true := decide_eq_true hk0
        clear hgo
        go_wp2
        go_roundg f
        case rel => exact ⟨k / 10, _, rfl, by go_num, by rw [if_neg (List.cons_ne_nil _ _)]; exact hf2, by omega, HNX.out, rfl⟩
        case measure => exact Nat.lt_succ_self f
    · have hk0 : k = 0 := (Nat.eq_zero_or_pos k).resolve_right fun h => hgo (.inr h)
      have hne : ds ≠ [] := fun h => hgo (.inl h)
      subst hk0
      have hd : Kx.Digits ds := ⟨hne, hinv.2.1⟩
      have hval : Kx.val ds = (n : Int) := by have := hinv.1; simp at this; omega
      have hdec : decide (ds = []) = false := decide_eq_false hne
      have F := ownX_of (X := ⟨#[97, 32]⟩) (Kx.own_a hd (by rw [hval]; omega) (by omega)) rfl (by intro x hx; simp at hx; omega) hd hval (by decide)
      obtain ⟨pre, pre', p, hL, hL', hpl', hpl, hXs⟩ := F
      have hq1 : ∀ W, (Op.stringOp .add ⟨#[97, 32]⟩ ⟨#[45]⟩).run Try.prog W = .ok (.string (⟨#[97, 32]⟩ ++ ⟨#[45]⟩)) W := fun W => run_string_add_sum W _ _ (by rw [show (⟨#[45]⟩ : ByteArray).size = 1 from rfl]; omega)
      have hq2 : ∀ W, (Op.stringOp .add (⟨#[97, 32]⟩ ++ ⟨#[45]⟩) (strOfNums ds)).run Try.prog W = .ok (.string (⟨#[97, 32]⟩ ++ ⟨#[45]⟩ ++ strOfNums ds)) W := fun W => run_string_add_sum W _ _ (by rw [ByteArray.size_append, show (⟨#[45]⟩ : ByteArray).size = 1 from rfl, hsz]; omega)
      have hlen : (pre ++ [⟨1, [], ⟨[], [(0, -(n : Int))]⟩, p⟩] : List Kx.Tok).length = 2 := by rw [List.length_append, hpl]; rfl
      have hlast : (pre ++ [⟨1, [], ⟨[], [(0, -(n : Int))]⟩, p⟩] : List Kx.Tok)[1]? = some ⟨1, [], ⟨[], [(0, -(n : Int))]⟩, p⟩ := by rw [List.getElem?_append_right (by omega), hpl]; rfl
      generalize (pre ++ [⟨1, [], ⟨[], [(0, -(n : Int))]⟩, p⟩] : List Kx.Tok) = ts at *
      have HL := Lib.hid hL
      have HL' := Lib.hid hL'
      clear hL hL' hinv HINV hf hne hd hval hgo
      go_wp2_with fail
      refine (lex_good HL.out _).mono ?_
      rintro e w2 ⟨A2, c2, rfl, ht2, _, hc2, hb2⟩
      rw [hlen] at hc2
      simp only [hlen]
      have HB2 := Lib.hid (below_then ((Below.refl _ wr).alloc (Nat.le_refl _) _) (by simp) hb2)
      have T2 := Lib.hid ht2
      clear ht2 hb2
      go_wp2_with fail
      refine (lex_good HL'.out _).mono ?_
      rintro e w3 ⟨A3, c3, rfl, _, _, hc3, hb3⟩
      rw [hpl'] at hc3
      simp only [hpl']
      generalize hF1 : (Obj.cells #[Value.int IntKind.i64 0, Value.int IntKind.i64 0, Value.int IntKind.i64 0] 26) = F0 at *
      have z1 : Below w2.heap.size w2 (w2.alloc F0) := (Below.refl _ _).alloc (Nat.le_refl _) _
      have z2 := below_then z1 z1.size hb3
      have f0 := blk_below (blk_new w2 F0) hb3 (by simp)
      have T3 := Lib.hid (T2.out.below z2)
      have HB3 := Lib.hid (below_then HB2.out HB2.out.size z2)
      have hg2 := blk_lt f0
      generalize w2.heap.size = g2 at *
      clear T2 HB2 z1 z2 hb3
      have z3 : Below w3.heap.size w3 (w3.alloc F0) := (Below.refl _ _).alloc (Nat.le_refl _) _
      have f1 := blk_cell (hF1 ▸ blk_below f0 z3 hg2) 0
      have HBW := Lib.hid (below_then HB3.out HB3.out.size z3)
      have TW := T3.out.below z3
      clear f0 T3 HB3 z3
      subst hF1
      obtain ⟨bk, sp, sn, sc, sq, sm, sd, rfl, hlt2, hlit, c0, c1, c2', c3', c4⟩ := TW.at hlast
      obtain ⟨cb, rfl, hcb, hsm, cN⟩ := lit_cell hlit (i := 0) rfl
      have hcb' : cb < w3.heap.size + 1 := by simpa using hcb
      have hbk' : bk < w3.heap.size + 1 := by simpa using hlt2
      have hsm' : sm = 1 := hsm
      subst hsm'
      simp only [Nat.reduceMul, Nat.reduceAdd] at c0 c1 c2' c3' c4 cN
      clear hlit TW hsm hlen hlast
      go_wp2_with fail
      refine (works_any _).mono ?_
      rintro e w4 ⟨rfl, hb4⟩
      have HB4 := Lib.hid (below_then (HBW.out.alloc HBW.out.size (Obj.cells #[Value.int IntKind.i64 1, Value.string (strOfNums []), Value.slice sp sn sc, Value.slice (some { block := cb, off := 0 }) 1 sd, Value.int IntKind.i64 (p : Int)] 35)) (by have := HBW.out.size; simp only [World.alloc, Array.size_push] at this ⊢; omega) hb4)
      clear hb4
      go_wp2
      refine bodyPost_ret (v := .bool true) (by simp [results, Try.results5, go_sem]) rfl ?_
      exact ⟨rfl, HB4.out⟩
set_option maxRecDepth 100000 in
set_option maxHeartbeats 4000000 in
theorem minus_11 (a0 a1 : Int) (hk : a1 % 12 = 11) (w0 : (Lit.int .u32 a0).wf = true) (w1 : (Lit.int .u8 a1).wf = true) (w : World) : Calls Try.prog 5 #[.int .u32 a0, .int .u8 a1] w (fun e w' => e = .returned (.bool true) ∧ Below w.heap.size w w') := by
  have hr0 := bounds_u32 w0
  have hr1 := bounds_u8 w1
  obtain ⟨n, rfl⟩ : ∃ n : Nat, a0 = (n : Int) := ⟨a0.toNat, by omega⟩
  obtain ⟨m, rfl⟩ : ∃ m : Nat, a1 = (m : Int) := ⟨a1.toNat, by omega⟩
  have hn : n < 4294967296 := by omega
  have hm : m ≤ 255 := by omega
  have hmk : m % 12 = 11 := by omega
  clear w0 w1 hr0 hr1
  go_enter Try.func5, Try.ntmps5
  go_wp2
  go_loopg [5, 6] (n + 1) (fun gk v5 v6 wr => ∃ (k : Nat) (ds : List Int), v5 = .string (strOfNums ds) ∧ v6 = .int .u32 k ∧ k + (if ds = [] then 1 else 0) ≤ gk ∧ k ≤ n ∧ DigInv n k ds ∧ wr = w)
  case atStart => exact ⟨n, [], rfl, rfl, by simp, Nat.le_refl _, ⟨by simp [Kx.val], fun d hd => (by cases hd), by simp⟩, rfl⟩
  case round =>
    obtain ⟨k, ds, rfl, rfl, hf, hkn, hinv, rfl⟩ := hrel
    have HINV := Lib.hid hinv
    have hlen := hinv.2.2
    have hsz := strOfNums_size ds
    have hemp : (strOfNums ds).toList.isEmpty = decide (ds = []) := by
      cases ds with
      | nil =>
        rw [decide_eq_true rfl, Lib.toList_data, strOfNums_data]
        rfl
      | cons d t =>
        rw [decide_eq_false (by simp), Lib.toList_data, strOfNums_data]
        rfl
    by_cases hgo : ds = [] ∨ 0 < k
    · have hnx := dig_next hn hinv hgo
      rw [Int.natCast_emod, show ((10 : Nat) : Int) = 10 from rfl] at hnx
      have hgk : 1 ≤ gk ∧ k / 10 ≤ gk - 1 := by
        rcases hgo with h | h
        · rw [if_pos h] at hf; omega
        · have h9 : k ≤ gk := Nat.le_trans (Nat.le_add_right _ _) hf
          omega
      obtain ⟨f, rfl⟩ : ∃ f, gk = f + 1 := ⟨gk - 1, by omega⟩
      have hf2 : k / 10 ≤ f := by omega
      have hcs := chr_str k
      have hq : ∀ W, (Op.stringOp .add (strOfNums [48 + (k : Int) % 10]) (strOfNums ds)).run Try.prog W = .ok (.string (strOfNums ((48 + (k : Int) % 10) :: ds))) W := fun W => by
        rw [run_string_add_sum W _ _ (by rw [hsz, strOfNums_size, List.length_singleton]; omega), strOfNums_append]
        rfl
      have HNX := Lib.hid hnx
      clear hinv hnx hf hsz
      rcases Nat.eq_zero_or_pos k with hk0 | hk0
      · have hds : ds = [] := hgo.resolve_right (by omega)
        subst hk0 hds
        have hq0 : ∀ W, (Op.stringOp .add (strOfNums [48]) (strOfNums [])).run Try.prog W = .ok (.string (strOfNums [48])) W := hq
        have hcs0 : Utf8.encode 48 = strOfNums [48] := hcs
        have hem0 : (strOfNums []).toList.isEmpty = true := hemp
        clear hq hcs hemp hgo
        go_wp2
        go_roundg f
        case rel => exact ⟨0, [48], rfl, rfl, by rw [if_neg (List.cons_ne_nil _ _)]; omega, by omega, HNX.out, rfl⟩
        case measure => exact Nat.lt_succ_self f
      · have hkd : decide (0 < k) = true := decide_eq_true hk0
        clear hgo
        go_wp2
        go_roundg f
        case rel => exact ⟨k / 10, _, rfl, by go_num, by rw [if_neg (List.cons_ne_nil _ _)]; exact hf2, by omega, HNX.out, rfl⟩
        case measure => exact Nat.lt_succ_self f
    · have hk0 : k = 0 := (Nat.eq_zero_or_pos k).resolve_right fun h => hgo (.inr h)
      have hne : ds ≠ [] := fun h => hgo (.inl h)
      subst hk0
      have hd : Kx.Digits ds := ⟨hne, hinv.2.1⟩
      have hval : Kx.val ds = (n : Int) := by have := hinv.1; simp at this; omega
      have hdec : decide (ds = []) = false := decide_eq_false hne
      have e12 := nb_x (X := ⟨#[55, 32]⟩) (ah := [55, 32]) rfl (by intro x hx; simp at hx; omega) hd
      have hL := Kx.strand_seven hd (by rw [hval]; omega) (by omega)
      rw [← e12.1, hval] at hL
      replace hL : Kx.lex (nb ((⟨#[55, 32]⟩ : ByteArray) ++ ⟨#[45]⟩ ++ strOfNums ds)) = .good [⟨1, [], ⟨[2], [(0, 7), (0, -(n : Int))]⟩, 0⟩] := hL
      have hL' : Kx.lex (nb ⟨#[55, 32]⟩) = .good [⟨1, [], ⟨[], [(0, 7)]⟩, 0⟩] := by rw [e12.2]; decide +kernel
      have hXs : (⟨#[55, 32]⟩ : ByteArray).size ≤ 4 := by decide
      have hq1 : ∀ W, (Op.stringOp .add ⟨#[55, 32]⟩ ⟨#[45]⟩).run Try.prog W = .ok (.string (⟨#[55, 32]⟩ ++ ⟨#[45]⟩)) W := fun W => run_string_add_sum W _ _ (by rw [show (⟨#[45]⟩ : ByteArray).size = 1 from rfl]; omega)
      have hq2 : ∀ W, (Op.stringOp .add (⟨#[55, 32]⟩ ++ ⟨#[45]⟩) (strOfNums ds)).run Try.prog W = .ok (.string (⟨#[55, 32]⟩ ++ ⟨#[45]⟩ ++ strOfNums ds)) W := fun W => run_string_add_sum W _ _ (by rw [ByteArray.size_append, show (⟨#[45]⟩ : ByteArray).size = 1 from rfl, hsz]; omega)
      have hlen : ([⟨1, [], ⟨[2], [(0, 7), (0, -(n : Int))]⟩, 0⟩] : List Kx.Tok).length = 1 := rfl
      have hlast : ([⟨1, [], ⟨[2], [(0, 7), (0, -(n : Int))]⟩, 0⟩] : List Kx.Tok)[0]? = some ⟨1, [], ⟨[2], [(0, 7), (0, -(n : Int))]⟩, 0⟩ := rfl
      have hpl' : ([⟨1, [], ⟨[], [(0, 7)]⟩, 0⟩] : List Kx.Tok).length = 1 := rfl
      generalize ([⟨1, [], ⟨[2], [(0, 7), (0, -(n : Int))]⟩, 0⟩] : List Kx.Tok) = ts at *
      generalize ([⟨1, [], ⟨[], [(0, 7)]⟩, 0⟩] : List Kx.Tok) = pre' at *
      have HL := Lib.hid hL
      have HL' := Lib.hid hL'
      clear hL hL' hinv HINV hf hne hd hval hgo e12
      go_wp2_with fail
      refine (lex_good HL.out _).mono ?_
      rintro e w2 ⟨A2, c2, rfl, ht2, _, hc2, hb2⟩
      rw [hlen] at hc2
      simp only [hlen]
      have HB2 := Lib.hid (below_then ((Below.refl _ wr).alloc (Nat.le_refl _) _) (by simp) hb2)
      have T2 := Lib.hid ht2
      clear ht2 hb2
      go_wp2_with fail
      refine (lex_good HL'.out _).mono ?_
      rintro e w3 ⟨A3, c3, rfl, _, _, hc3, hb3⟩
      rw [hpl'] at hc3
      simp only [hpl']
      generalize hF1 : (Obj.cells #[Value.int IntKind.i64 0, Value.int IntKind.i64 0, Value.int IntKind.i64 0] 26) = F0 at *
      have z1 : Below w2.heap.size w2 (w2.alloc F0) := (Below.refl _ _).alloc (Nat.le_refl _) _
      have z2 := below_then z1 z1.size hb3
      have f0 := blk_below (blk_new w2 F0) hb3 (by simp)
      have T3 := Lib.hid (T2.out.below z2)
      have HB3 := Lib.hid (below_then HB2.out HB2.out.size z2)
      have hg2 := blk_lt f0
      generalize w2.heap.size = g2 at *
      clear T2 HB2 z1 z2 hb3
      have z3 : Below w3.heap.size w3 (w3.alloc F0) := (Below.refl _ _).alloc (Nat.le_refl _) _
      have f1 := blk_cell (hF1 ▸ blk_below f0 z3 hg2) 0
      have HBW := Lib.hid (below_then HB3.out HB3.out.size z3)
      have TW := T3.out.below z3
      clear f0 T3 HB3 z3
      subst hF1
      obtain ⟨bk, sp, sn, sc, sq, sm, sd, rfl, hlt2, hlit, c0, c1, c2', c3', c4⟩ := TW.at hlast
      obtain ⟨cb, rfl, hcb, hsm, cN⟩ := lit_cell hlit (i := 1) rfl
      have hcb' : cb < w3.heap.size + 1 := by simpa using hcb
      have hbk' : bk < w3.heap.size + 1 := by simpa using hlt2
      have hsm' : sm = 2 := hsm
      subst hsm'
      simp only [Nat.reduceMul, Nat.reduceAdd] at c0 c1 c2' c3' c4 cN
      clear hlit TW hsm hlen hlast
      go_wp2_with fail
      refine (works_any _).mono ?_
      rintro e w4 ⟨rfl, hb4⟩
      have HB4 := Lib.hid (below_then (HBW.out.alloc HBW.out.size (Obj.cells #[Value.int IntKind.i64 1, Value.string (strOfNums []), Value.slice sp sn sc, Value.slice (some { block := cb, off := 0 }) 2 sd, Value.int IntKind.i64 0] 35)) (by have := HBW.out.size; simp only [World.alloc, Array.size_push] at this ⊢; omega) hb4)
      clear hb4
      go_wp2
      refine bodyPost_ret (v := .bool true) (by simp [results, Try.results5, go_sem]) rfl ?_
      exact ⟨rfl, HB4.out⟩
end Go.Proofs.Ytkghglncmekdgaa
