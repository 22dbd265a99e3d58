/- Contracts of the reference's Read and Same. Conditions: the rows read in memory; the signs are not too many for a slice. -/
import Derived.Test.YtpgfjgakhbnpkaaRg
namespace Go.Proofs.Ytpgfjgakhbnpkaa
open Go.RowKit

set_option maxRecDepth 100000 in
set_option maxHeartbeats 2000000 in
theorem rread_any (A : Option Addr) (n c : Nat) (l : List Int) (w : World) (M : Nat) (hr : RowAt .u8 w A l) (hl : l.length = n) (hn : n ≤ c) (hb : Spec.Bytes l) (hM : Few l M) (hM2 : M * 8 ≤ 140737488355328) :
    Calls Try.prog 14 #[.slice A n c] w (ReadTo l w) := by
  obtain ⟨i0, hi0, hz0, hz1, hz2⟩ := info_parts info_i64
  obtain ⟨i5, hi5, hz5, hs5, _⟩ := info_parts info_u8
  have hn63 : n ≤ 9223372036854775807 := by rw [← hl]; exact hr.1
  have HR := Lib.hid hr
  have HL := Lib.hid hl
  have HBy := Lib.hid hb
  have HM := Lib.hid hM
  have HM2 := Lib.hid hM2
  have CUT := Lib.hid (fun p (hp : p ≤ n) => cut_from (P := Try.prog) 23 5 Try.underlying23 hi5 hs5 A n c p hp hn)
  clear hr hl hb hM hM2
  go_enter Try.func14, Try.ntmps14
  go_wp2
  go_loopw [5, 6] (fun v i wr => ∃ (p : Nat) (ys : List Int), p ≤ n ∧ i = .int .i64 p ∧ AllGood ys ∧ l.take p = Spec.encs ys ∧ wr.ownsRow w.heap.size 2 1 v ys.length (nums .i64 ys) ∧ Below w.heap.size w wr) (fun _ i _ => n - (intOf i).toNat)
  case atStart => exact ⟨0, [], Nat.zero_le _, rfl, fun x hx => by simp at hx, by simp [Spec.encs], World.ownsRow_nil _ _ _ _, Below.refl _ _⟩
  case round =>
    obtain ⟨p, ys, hp, rfl, hg, ht, hown, hbel⟩ := hrel
    obtain ⟨vA, vc, rfl, hvc⟩ := own_slice hown
    have HG := Lib.hid hg
    have HT := Lib.hid ht
    have HO := Lib.hid hown
    have HB := Lib.hid hbel
    clear hg ht hown hbel
    by_cases hlt : p < n
    · obtain ⟨A', hcut, hrow⟩ := CUT.out p hp
      have hr' := Lib.hid ((hrow w .u8 l HL.out HR.out).below HB.out)
      have hlen' := Lib.hid (show (l.drop p).length = n - p by rw [List.length_drop, HL.out])
      have hbd := Lib.hid (show Spec.Bytes (l.drop p) from fun x hx => HBy.out x (List.mem_of_mem_drop hx))
      clear hrow
      go_wp2_with fail
      refine (rone_any _ _ _ _ _ hr'.out hlen'.out (by omega) hbd.out).mono ?_
      rintro e w1 ⟨rfl, hb1⟩
      have HO1 := Lib.hid (own_below HO.out hb1)
      have HB1 := Lib.hid (below_then HB.out HB.out.size hb1)
      clear hb1 HO HB hr' hlen' hbd hcut
      rcases read_step HT.out (by rw [HL.out]; exact hlt) HBy.out with ⟨hno, h1⟩ | ⟨x, k, h1, hk1, hk4, hpk, hgx, htk⟩
      · rw [h1]
        clear h1
        have HN := Lib.hid hno
        clear hno
        go_wp2
        go_ret3
        exact ⟨.slice none 0 0, [], p, 3, rfl, .inr ⟨rfl, rfl, ys, p, rfl, by rw [HL.out]; exact hlt, HG.out, HT.out, HN.out⟩, World.ownsRow_nil _ _ _ _, HB1.out⟩
      · rw [h1]
        rw [HL.out] at hpk
        have hy := HM.out (ys ++ [(x : Int)]) (l.drop (p + k)) (fun z hz => by rcases List.mem_append.1 hz with h | h; exact HG.out z h; rw [List.mem_singleton] at h; rw [h]; exact hgx) (by rw [← htk, List.take_append_drop])
        rw [List.length_append, List.length_singleton] at hy
        have hy8 : (ys.length + 1) * 8 ≤ 140737488355328 := by have := HM2.out; omega
        have HY := Lib.hid hy8
        have HX := Lib.hid hgx
        have HTK := Lib.hid htk
        clear h1 hgx htk hy hy8
        have hbase : w.heap.size ≤ w1.heap.size := HB1.out.size
        have hkz : ((k : Int) == 0) = false := by simp; omega
        dsimp only
        go_wp2_with
          (at_builtin; refine wpList_append_lies _ rfl (.tmp 23) (.tmp 25) 22 rfl w.heap.size 2 i0 _ 1 8 Try.underlying22 hi0 hz0 hz1 hz2 rfl (by omega) (.slice vA ys.length vc) ys.length (nums .i64 ys) rfl (HO1.out.alloc _) ⟨w1.heap.size, 0, none⟩ 1 1 (nums .i64 [(x : Int)]) rfl rfl ?c2 nums_one (by omega) (by have := HY.out; unfold maxLen; omega) HY.out ?c3 _ rfl ?_; (case c2 => (simpa [nums] using World.news_of_block (t := 2) (fr := (0, 0)) (heap_alloc_new w1 (.cells (nums .i64 [(x : Int)]).toArray 2)))); (case c3 => (simp; omega)); intro gg cap w2 hown2 hgrow hat hlt2)
        have hown3 : w2.ownsRow w.heap.size 2 1 (.slice (some ⟨gg, 0, none⟩) (ys.length + 1) cap) (ys ++ [(x : Int)]).length (nums .i64 (ys ++ [(x : Int)])) := by
          rw [nums_append, List.length_append]; exact hown2
        have hb3 : Below w.heap.size w w2 := (HB1.out.alloc hbase _).grown hgrow (by simp; omega) (fun g hg => (HO1.out.lt g hg).1)
        have HO3 := Lib.hid hown3
        have HB3 := Lib.hid hb3
        clear hown2 hown3 hb3 hgrow hat
        go_wp2
        go_roundw
        case rel => exact ⟨p + k, ys ++ [(x : Int)], hpk, by go_num, fun z hz => by rcases List.mem_append.1 hz with h | h; exact HG.out z h; rw [List.mem_singleton] at h; rw [h]; exact HX.out, HTK.out, HO3.out, HB3.out⟩
        case measure => simp [intOf]; omega
    · obtain rfl : p = n := by omega
      go_wp2
      go_ret3
      refine ⟨_, ys, 0, 0, rfl, .inl ⟨rfl, rfl, HG.out, ?_⟩, HO.out, HB.out⟩
      rw [← HT.out, List.take_of_length_le (by rw [HL.out]; exact Nat.le_refl _)]

def SameTo (a b : List Int) (w : World) (e : Ending) (w' : World) : Prop := e = .returned (.bool (decide (a = b))) ∧ Below w.heap.size w w'

set_option maxRecDepth 100000 in
set_option maxHeartbeats 2000000 in
theorem same_any (A B : Option Addr) (n m c d : Nat) (a b : List Int) (w : World) (ha : RowAt .i64 w A a) (hb : RowAt .i64 w B b) (hn : a.length = n) (hm : b.length = m) :
    Calls Try.prog 17 #[.slice A n c, .slice B m d] w (SameTo a b w) := by
  have hn63 : n ≤ 9223372036854775807 := by rw [← hn]; exact ha.1
  have HA := Lib.hid ha
  have HB := Lib.hid hb
  have HN := Lib.hid hn
  have HM := Lib.hid hm
  clear ha hb hn hm
  by_cases hl : n = m
  · subst hl
    go_enter Try.func17, Try.ntmps17
    go_wp2
    go_loopw [5] (fun i wr => ∃ k : Nat, k ≤ n ∧ i = .int .i64 k ∧ a.take k = b.take k ∧ Below w.heap.size w wr) (fun i _ => n - (intOf i).toNat)
    case atStart => exact ⟨0, Nat.zero_le _, rfl, rfl, Below.refl _ _⟩
    case round =>
      obtain ⟨k, hk, rfl, ht, hbel⟩ := hrel
      have HT := Lib.hid ht
      have HBe := Lib.hid hbel
      clear ht hbel
      by_cases hlt : k < n
      · obtain ⟨b1, o1, rfl, hc1⟩ := HA.out.2 (by rw [HN.out]; omega)
        obtain ⟨b2, o2, rfl, hc2⟩ := HB.out.2 (by rw [HM.out]; omega)
        obtain ⟨x, hx⟩ : ∃ x, a.getD k 0 = x := ⟨_, rfl⟩
        obtain ⟨y, hy⟩ : ∃ y, b.getD k 0 = y := ⟨_, rfl⟩
        have c1 : wr.cell? ⟨b1, o1 + k, none⟩ = some (.int .i64 x) := by rw [← hx]; exact cell_below_at HBe.out (hc1 k (by rw [HN.out]; exact hlt))
        have c2 : wr.cell? ⟨b2, o2 + k, none⟩ = some (.int .i64 y) := by rw [← hy]; exact cell_below_at HBe.out (hc2 k (by rw [HM.out]; exact hlt))
        have hk0 : (0 : Int) ≤ (k : Int) := Int.natCast_nonneg _
        have hk1 : (k : Int) < (n : Int) := by omega
        have HX := Lib.hid hx
        have HY := Lib.hid hy
        clear hc1 hc2 hx hy
        by_cases hxy : x = y
        · have hb1 : (x != y) = false := by simpa using hxy
          have HXY := Lib.hid hxy
          clear hxy
          go_wp2
          go_quiet (fail)
          go_wp2
          go_roundw
          case rel =>
            refine ⟨k + 1, by omega, by go_num, ?_, below_drewN HBe.out _⟩
            rw [take_snoc_getD a k (by rw [HN.out]; exact hlt), take_snoc_getD b k (by rw [HM.out]; exact hlt), HT.out, HX.out, HY.out, HXY.out]
          case measure => simp [intOf]; omega
        · have hb1 : (x != y) = true := by simpa using hxy
          have hne : a ≠ b := fun h => hxy (by rw [← HX.out, ← HY.out, h])
          have HNE := Lib.hid hne
          clear hxy hne
          go_wp2
          go_quiet (fail)
          go_wp2
          go_ret
          exact ⟨by rw [decide_eq_false HNE.out]; rfl, below_drewN HBe.out _⟩
      · obtain rfl : k = n := by omega
        have heq : a = b := by
          have h := HT.out
          rw [List.take_of_length_le (by rw [HN.out]; exact Nat.le_refl _), List.take_of_length_le (by rw [HM.out]; exact Nat.le_refl _)] at h
          exact h
        have HE := Lib.hid heq
        clear heq
        go_wp2
        go_ret
        exact ⟨by rw [decide_eq_true HE.out]; rfl, HBe.out⟩
  · have hne : a ≠ b := fun h => hl (by rw [← HN.out, ← HM.out, h])
    have HNE := Lib.hid hne
    have hb1 : ((n : Int) != m) = true := by simp; omega
    clear hne
    go_enter Try.func17, Try.ntmps17
    go_wp2
    go_ret
    exact ⟨by rw [decide_eq_false HNE.out]; rfl, Below.refl _ _⟩
end Go.Proofs.Ytpgfjgakhbnpkaa
