/- Contracts of what looks words up: signs, how often, where a bracket closes. Conditions: the grammar and the words read in memory; the parser's block. -/
import Derived.Test.YtollglblkbjgjaaGa
namespace Go.Proofs.Ytollglblkbjgjaa
open Go.RowKit

theorem hasStr_take (l : List ByteArray) (x : ByteArray) (k : Nat) (y : ByteArray) (hk : l[k]? = some y) (h : hasStr (l.take k) x = false) : hasStr (l.take (k + 1)) x = (x.toList == y.toList) := by
  obtain ⟨hlt, rfl⟩ := List.getElem?_eq_some_iff.1 hk
  rw [List.take_succ_eq_append_getElem hlt]
  unfold hasStr at h ⊢
  rw [List.any_append, h]
  simp
theorem hasStr_mono (l : List ByteArray) (x : ByteArray) (k : Nat) (h : hasStr (l.take k) x = true) : hasStr l x = true := by
  unfold hasStr at h ⊢
  rw [List.any_eq_true] at h ⊢
  obtain ⟨y, hy, hz⟩ := h
  exact ⟨y, List.mem_of_mem_take hy, hz⟩
def IndexTo (b : Bool) (w : World) (e : Ending) (w' : World) : Prop := ∃ r : Int, e = .returned (.int .i64 r) ∧ decide (0 ≤ r) = b ∧ w' = w
set_option maxRecDepth 100000 in
set_option maxHeartbeats 2000000 in
theorem index_any (A : Option Addr) (c : Nat) (l : List ByteArray) (x : ByteArray) (w : World) (hs : StrsAt w A l) (hn : l.length ≤ 1000000) :
    Calls Try.prog 77 #[.slice A l.length c, .string x] w (IndexTo (hasStr l x) w) := by
  obtain ⟨R, hR⟩ : ∃ R, hasStr l x = R := ⟨_, rfl⟩
  rw [hR]
  have HR := Lib.hid hR
  have HS := Lib.hid hs
  clear hR hs
  go_enter Try.func77, Try.ntmps77
  go_wp2
  go_loop [8] (fun q => ∃ k : Nat, k ≤ l.length ∧ q = .int .i64 k ∧ hasStr (l.take k) x = false) (fun q => l.length - (intOf q).toNat)
  case atStart => exact ⟨0, Nat.zero_le _, rfl, rfl⟩
  case round =>
    obtain ⟨k, hk, rfl, hno⟩ := hrel
    by_cases hlt : k < l.length
    · obtain ⟨b, off, rfl, hall⟩ := HS.out (by omega)
      obtain ⟨y, hy⟩ : ∃ y, l[k]? = some y := ⟨_, List.getElem?_eq_getElem hlt⟩
      have ck := hall k y hy
      have hst := Lib.hid (hasStr_take l x k y hy hno)
      have hk0 : (0 : Int) ≤ (k : Int) := by omega
      have hk1 : (k : Int) < (l.length : Int) := by omega
      clear hall hy hno
      cases bq : (x.toList == y.toList)
      · have HB := Lib.hid bq
        go_wp2
        go_round
        case rel => exact ⟨k + 1, by omega, by go_num, hst.out.trans HB.out⟩
        case measure => simp [intOf]; omega
      · have hRt : R = true := by rw [← HR.out]; exact hasStr_mono l x (k + 1) (hst.out.trans bq)
        subst hRt
        go_wp2
        refine bodyPost_ret (v := .int .i64 (k : Int)) (by simp [results, Try.results77, go_sem]) rfl ?_
        exact ⟨_, rfl, decide_eq_true (by omega), rfl⟩
    · obtain rfl : k = l.length := by omega
      rw [List.take_length] at hno
      have hRt : R = false := by rw [← HR.out]; exact hno
      subst hRt
      go_wp2
      refine bodyPost_ret (v := .int .i64 (-1)) (by simp [results, Try.results77, go_sem]) rfl ?_
      exact ⟨_, rfl, rfl, rfl⟩
theorem contains_any (A : Option Addr) (c : Nat) (l : List ByteArray) (x : ByteArray) (w : World) (hs : StrsAt w A l) (hn : l.length ≤ 1000000) :
    Calls Try.prog 71 #[.slice A l.length c, .string x] w (Says (.bool (hasStr l x)) w) := by
  have HI := Lib.hid (index_any A c l x w hs hn)
  clear hs
  go_enter Try.func71, Try.ntmps71
  go_wp2_with fail
  refine HI.out.mono ?_
  rintro e w' ⟨r, rfl, hr, rfl⟩
  go_wp2
  refine bodyPost_ret (v := .bool (hasStr l x)) (by simp [results, Try.results71, go_sem, ← hr]) rfl ?_
  exact ⟨rfl, rfl⟩
set_option maxRecDepth 100000 in
set_option maxHeartbeats 2000000 in
theorem sign_any (E : Env) (bp : Nat) (p : Nat) (d n : Int) (i : Nat) (A : Option Addr) (c : Nat) (l : List ByteArray) (w : World) (hE : EnvAt w E) (hp : w.heap[bp]? = some (pcell E p d n)) (hs : StrsAt w A l) (hn : l.length ≤ 1000000) :
    Calls Try.prog 55 #[.pointer (some ⟨bp, 0, none⟩), .int .i64 (i : Int), .slice A l.length c] w (Says (.bool (E.sign i l)) w) := by
  have c14 := blk_cell hp 14
  have hln := hE.ln
  rcases Nat.lt_or_ge i E.L.length with hlt | hge
  · obtain ⟨t, b, off, ht, hA, hk⟩ := hE.tok hlt
    have k0 := hk.k0
    have k1 := hk.k1
    rw [Env.sign_some ht]
    rw [hA] at c14
    have hi0 : (0 : Int) ≤ (i : Int) := by omega
    have hi1 : (i : Int) < (E.L.length : Int) := by omega
    have d1 : decide (i < E.L.length) = true := decide_eq_true hlt
    have HC := Lib.hid (contains_any A c l t.text w hs hn)
    clear hp hE hk ht hA hs
    generalize t.text = x at *
    generalize t.kind = tk at *
    cases b1 : (tk == 4)
    · go_enter Try.func55, Try.ntmps55
      go_wp2_with fail
      refine bodyPost_ret (v := .bool false) (by simp [results, Try.results55, go_sem]) rfl ?_
      exact ⟨rfl, rfl⟩
    · go_enter Try.func55, Try.ntmps55
      go_wp2_with fail
      refine HC.out.mono ?_
      rintro e w' ⟨rfl, rfl⟩
      go_wp2
      refine bodyPost_ret (v := .bool (hasStr l x)) (by simp [results, Try.results55, go_sem]) rfl ?_
      exact ⟨rfl, rfl⟩
  · rw [Env.sign_none hge]
    have d1 : decide (i < E.L.length) = false := decide_eq_false (by omega)
    have d2 : decide ((i : Int) < (E.L.length : Int)) = false := decide_eq_false (by omega)
    clear hp hE hs
    go_enter Try.func55, Try.ntmps55
    go_wp2_with fail
    refine bodyPost_ret (v := .bool false) (by simp [results, Try.results55, go_sem]) rfl ?_
    exact ⟨rfl, rfl⟩

/-- how often a number says -/
def timesOf (t : Lt) (c n : Int) : Option Int := if t.sn = 0 ∧ t.cn = 1 ∧ c = 0 ∧ 0 ≤ n ∧ n ≤ 4096 then some n else none
def optVal : Option Int → Value
  | none => .tuple #[.int .i64 0, .bool false]
  | some n => .tuple #[.int .i64 n, .bool true]
def Adds (v : Value) (w : World) (e : Ending) (w' : World) : Prop := e = .returned v ∧ Below w.heap.size w w'
set_option maxRecDepth 100000 in
set_option maxHeartbeats 2000000 in
theorem times_any (t : Lt) (c n : Int) (w : World) (h : LitRead w t c n) : Calls Try.prog 35 #[.agg #[.slice t.sA t.sn t.sc, .slice t.cA t.cn t.cc]] w (Adds (optVal (timesOf t c n)) w) := by
  obtain ⟨sA, sn, sc, cA, cn, cc, zc, zn⟩ := t
  dsimp only at h ⊢
  obtain ⟨R, hR⟩ : ∃ R, timesOf ⟨sA, sn, sc, cA, cn, cc, zc, zn⟩ c n = R := ⟨_, rfl⟩
  rw [hR]
  have HR := Lib.hid hR
  clear hR
  have fin : ∀ w' : World, w' = w.alloc (.cells #[.slice sA sn sc, .slice cA cn cc] 36) → Below w.heap.size w w' := by
    rintro w' rfl
    exact (Below.refl _ _).alloc (Nat.le_refl _) _
  by_cases h1 : sn = 0
  · by_cases h2 : cn = 1
    · subst h1 h2
      obtain ⟨b, off, rfl, k0, k1⟩ := h Nat.one_pos
      have hbl : b < w.heap.size := World.block_lt_of_cell? w _ k0
      by_cases h3 : c = 0
      · by_cases h4 : 0 ≤ n
        · by_cases h5 : n ≤ 4096
          · have hRs : R = some n := by rw [← HR.out]; exact if_pos ⟨rfl, rfl, h3, h4, h5⟩
            subst hRs
            subst h3
            have e4 : decide (n < 0) = false := decide_eq_false (by omega)
            have e5 : decide (4096 < n) = false := decide_eq_false (by omega)
            go_enter Try.func35, Try.ntmps35
            go_wp2
            refine bodyPost_ret (v := .tuple #[.int .i64 n, .bool true]) (by simp [results, Try.results35, go_sem]) rfl ?_
            exact ⟨rfl, fin _ rfl⟩
          · have hRs : R = none := by rw [← HR.out]; exact if_neg (fun q => h5 q.2.2.2.2)
            subst hRs
            subst h3
            have e4 : decide (n < 0) = false := decide_eq_false (by omega)
            have e5 : decide (4096 < n) = true := decide_eq_true (by omega)
            go_enter Try.func35, Try.ntmps35
            go_wp2
            refine bodyPost_ret (v := .tuple #[.int .i64 0, .bool false]) (by simp [results, Try.results35, go_sem]) rfl ?_
            exact ⟨rfl, fin _ rfl⟩
        · have hRs : R = none := by rw [← HR.out]; exact if_neg (fun q => h4 q.2.2.2.1)
          subst hRs
          subst h3
          have e4 : decide (n < 0) = true := decide_eq_true (by omega)
          go_enter Try.func35, Try.ntmps35
          go_wp2
          refine bodyPost_ret (v := .tuple #[.int .i64 0, .bool false]) (by simp [results, Try.results35, go_sem]) rfl ?_
          exact ⟨rfl, fin _ rfl⟩
      · have hRs : R = none := by rw [← HR.out]; exact if_neg (fun q => h3 q.2.2.1)
        subst hRs
        have e3 : (c == 0) = false := beq_eq_false_iff_ne.2 h3
        go_enter Try.func35, Try.ntmps35
        go_wp2
        refine bodyPost_ret (v := .tuple #[.int .i64 0, .bool false]) (by simp [results, Try.results35, go_sem]) rfl ?_
        exact ⟨rfl, fin _ rfl⟩
    · have hRs : R = none := by rw [← HR.out]; exact if_neg (fun q => h2 q.2.1)
      subst hRs
      subst h1
      have e2 : (cn == 1) = false := beq_eq_false_iff_ne.2 h2
      have e2' : ((cn : Int) == 1) = false := beq_eq_false_iff_ne.2 (by omega)
      go_enter Try.func35, Try.ntmps35
      go_wp2
      refine bodyPost_ret (v := .tuple #[.int .i64 0, .bool false]) (by simp [results, Try.results35, go_sem]) rfl ?_
      exact ⟨rfl, fin _ rfl⟩
  · have hRs : R = none := by rw [← HR.out]; exact if_neg (fun q => h1 q.1)
    subst hRs
    have e1 : decide (0 < sn) = true := decide_eq_true (by omega)
    have e1' : decide ((0 : Int) < (sn : Int)) = true := decide_eq_true (by omega)
    go_enter Try.func35, Try.ntmps35
    go_wp2
    refine bodyPost_ret (v := .tuple #[.int .i64 0, .bool false]) (by simp [results, Try.results35, go_sem]) rfl ?_
    exact ⟨rfl, fin _ rfl⟩
end Go.Proofs.Ytollglblkbjgjaa
