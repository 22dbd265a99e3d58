/- Contract of the program's runes.Read: the signs that any bytes are, or the place where they are none. Conditions: the bytes read in memory; the signs that stand at their head are not too many for a slice. -/
import Derived.Test.YtpgfjgakhbnpkaaRb
import Derived.OwnWalk
namespace Go.Proofs.Ytpgfjgakhbnpkaa
open Go.RowKit

def AllGood (l : List Int) : Prop := ∀ x ∈ l, Spec.good x = true
/-- what reading comes to -/
def ReadIs (l xs : List Int) (at_ err : Int) : Prop :=
  (err = 0 ∧ at_ = 0 ∧ AllGood xs ∧ l = Spec.encs xs) ∨ (err = 3 ∧ xs = [] ∧ ∃ ys p, at_ = ((p : Nat) : Int) ∧ p < l.length ∧ AllGood ys ∧ l.take p = Spec.encs ys ∧ Spec.NoOne (l.drop p))
def ReadTo (l : List Int) (w : World) (e : Ending) (w' : World) : Prop :=
  ∃ v xs at_ err, e = .returned (.tuple #[v, .int .i64 at_, .int .i64 err]) ∧ ReadIs l xs at_ err ∧ w'.ownsRow w.heap.size 2 1 v xs.length (nums .i64 xs) ∧ Below w.heap.size w w'
/-- not more than so many signs stand at the head -/
def Few (l : List Int) (M : Nat) : Prop := ∀ ys r, AllGood ys → l = Spec.encs ys ++ r → ys.length ≤ M

theorem encs_snoc (xs : List Int) (x : Int) : Spec.encs (xs ++ [x]) = Spec.encs xs ++ Spec.enc x := by simp [Spec.encs]
theorem enc_len (x : Int) : 1 ≤ (Spec.enc x).length ∧ (Spec.enc x).length ≤ 4 := by unfold Spec.enc; split <;> (try split) <;> (try split) <;> simp

/-- one step of the reading -/
theorem read_step {l ys : List Int} {p : Nat} (ht : l.take p = Spec.encs ys) (hp : p < l.length) (hb : Spec.Bytes l) :
    (Spec.NoOne (l.drop p) ∧ Spec.one (l.drop p) = (0, 0)) ∨ (∃ x k : Nat, Spec.one (l.drop p) = ((x : Int), (k : Int)) ∧ 1 ≤ k ∧ k ≤ 4 ∧ p + k ≤ l.length ∧ Spec.good x = true ∧ l.take (p + k) = Spec.encs (ys ++ [(x : Int)])) := by
  have hbd : Spec.Bytes (l.drop p) := fun x hx => hb x (List.mem_of_mem_drop hx)
  have hsp := Spec.one_spec _ hbd
  generalize hq : Spec.one (l.drop p) = q at hsp ⊢
  clear hq
  rcases hsp with ⟨h1, h2, r, h3⟩ | ⟨h1, h2⟩
  · right
    have hl := enc_len q.1
    have hx : 0 ≤ q.1 := by have := Spec.good_iff.1 h1; omega
    have hlen : l.length - p = (Spec.enc q.1).length + r.length := by rw [← List.length_drop, h3, List.length_append]
    refine ⟨q.1.toNat, (Spec.enc q.1).length, ?_, hl.1, hl.2, by omega, ?_, ?_⟩
    · rw [Int.toNat_of_nonneg hx, ← h2]
    · rw [Int.toNat_of_nonneg hx]; exact h1
    · rw [Int.toNat_of_nonneg hx, encs_snoc, ← ht, List.take_add, h3, List.take_left]
  · exact .inl ⟨h2, h1⟩

set_option maxRecDepth 100000 in
set_option maxHeartbeats 2000000 in
theorem read_any (A : Option Addr) (n c : Nat) (l : List Int) (w : World) (M : Nat) (hr : RowAt .u8 w A l) (hl : l.length = n) (hn : n ≤ c) (hb : Spec.Bytes l) (hM : Few l M) (hM2 : M * 8 ≤ 140737488355328) :
    Calls Try.prog 13 #[.slice A n c] w (ReadTo l w) := by
  obtain ⟨i0, hi0, hz0, hz1, hz2⟩ := info_parts info_i64
  obtain ⟨i5, hi5, hz5, hs5, _⟩ := info_parts info_u8
  have hn63 : n ≤ 9223372036854775807 := by rw [← hl]; exact hr.1
  have HR := Lib.hid hr
  have HL := Lib.hid hl
  have HBy := Lib.hid hb
  have HM := Lib.hid hM
  have HM2 := Lib.hid hM2
  have CUT := Lib.hid (fun p (hp : p ≤ n) => cut_from (P := Try.prog) 23 5 Try.underlying23 hi5 hs5 A n c p hp hn)
  clear hr hl hb hM hM2
  go_enter Try.func13, Try.ntmps13
  go_wp2
  go_loopw [5, 6] (fun v i wr => ∃ (p : Nat) (ys : List Int), p ≤ n ∧ i = .int .i64 p ∧ AllGood ys ∧ l.take p = Spec.encs ys ∧ wr.ownsRow w.heap.size 2 1 v ys.length (nums .i64 ys) ∧ Below w.heap.size w wr) (fun _ i _ => n - (intOf i).toNat)
  case atStart => exact ⟨0, [], Nat.zero_le _, rfl, fun x hx => by simp at hx, by simp [Spec.encs], World.ownsRow_nil _ _ _ _, Below.refl _ _⟩
  case round =>
    obtain ⟨p, ys, hp, rfl, hg, ht, hown, hbel⟩ := hrel
    obtain ⟨vA, vc, rfl, hvc⟩ := own_slice hown
    have HG := Lib.hid hg
    have HT := Lib.hid ht
    have HO := Lib.hid hown
    have HB := Lib.hid hbel
    clear hg ht hown hbel
    by_cases hlt : p < n
    · obtain ⟨A', hcut, hrow⟩ := CUT.out p hp
      have hr' := Lib.hid ((hrow w .u8 l HL.out HR.out).below HB.out)
      have hlen' := Lib.hid (show (l.drop p).length = n - p by rw [List.length_drop, HL.out])
      have hbd := Lib.hid (show Spec.Bytes (l.drop p) from fun x hx => HBy.out x (List.mem_of_mem_drop hx))
      clear hrow
      go_wp2_with fail
      refine (one_any _ _ _ _ _ hr'.out hlen'.out (by omega) hbd.out).mono ?_
      rintro e w1 ⟨rfl, hb1⟩
      have HO1 := Lib.hid (own_below HO.out hb1)
      have HB1 := Lib.hid (below_then HB.out HB.out.size hb1)
      clear hb1 HO HB hr' hlen' hbd hcut
      rcases read_step HT.out (by rw [HL.out]; exact hlt) HBy.out with ⟨hno, h1⟩ | ⟨x, k, h1, hk1, hk4, hpk, hgx, htk⟩
      · rw [h1]
        clear h1
        have HN := Lib.hid hno
        clear hno
        go_wp2
        go_ret3
        exact ⟨.slice none 0 0, [], p, 3, rfl, .inr ⟨rfl, rfl, ys, p, rfl, by rw [HL.out]; exact hlt, HG.out, HT.out, HN.out⟩, World.ownsRow_nil _ _ _ _, HB1.out⟩
      · rw [h1]
        rw [HL.out] at hpk
        have hy := HM.out (ys ++ [(x : Int)]) (l.drop (p + k)) (fun z hz => by rcases List.mem_append.1 hz with h | h; exact HG.out z h; rw [List.mem_singleton] at h; rw [h]; exact hgx) (by rw [← htk, List.take_append_drop])
        rw [List.length_append, List.length_singleton] at hy
        have hy8 : (ys.length + 1) * 8 ≤ 140737488355328 := by have := HM2.out; omega
        have HY := Lib.hid hy8
        have HX := Lib.hid hgx
        have HTK := Lib.hid htk
        clear h1 hgx htk hy hy8
        have hbase : w.heap.size ≤ w1.heap.size := HB1.out.size
        have hkz : ((k : Int) == 0) = false := by simp; omega
        dsimp only
        go_wp2_with
          (at_builtin; refine wpList_append_lies _ rfl (.tmp 23) (.tmp 25) 22 rfl w.heap.size 2 i0 _ 1 8 Try.underlying22 hi0 hz0 hz1 hz2 rfl (by omega) (.slice vA ys.length vc) ys.length (nums .i64 ys) rfl (HO1.out.alloc _) ⟨w1.heap.size, 0, none⟩ 1 1 (nums .i64 [(x : Int)]) rfl rfl ?c2 nums_one (by omega) (by have := HY.out; unfold maxLen; omega) HY.out ?c3 _ rfl ?_; (case c2 => (simpa [nums] using World.news_of_block (t := 2) (fr := (0, 0)) (heap_alloc_new w1 (.cells (nums .i64 [(x : Int)]).toArray 2)))); (case c3 => (simp; omega)); intro gg cap w2 hown2 hgrow hat hlt2)
        have hown3 : w2.ownsRow w.heap.size 2 1 (.slice (some ⟨gg, 0, none⟩) (ys.length + 1) cap) (ys ++ [(x : Int)]).length (nums .i64 (ys ++ [(x : Int)])) := by
          rw [nums_append, List.length_append]; exact hown2
        have hb3 : Below w.heap.size w w2 := (HB1.out.alloc hbase _).grown hgrow (by simp; omega) (fun g hg => (HO1.out.lt g hg).1)
        have HO3 := Lib.hid hown3
        have HB3 := Lib.hid hb3
        clear hown2 hown3 hb3 hgrow hat
        go_wp2
        go_roundw
        case rel => exact ⟨p + k, ys ++ [(x : Int)], hpk, by go_num, fun z hz => by rcases List.mem_append.1 hz with h | h; exact HG.out z h; rw [List.mem_singleton] at h; rw [h]; exact HX.out, HTK.out, HO3.out, HB3.out⟩
        case measure => simp [intOf]; omega
    · obtain rfl : p = n := by omega
      go_wp2
      go_ret3
      refine ⟨_, ys, 0, 0, rfl, .inl ⟨rfl, rfl, HG.out, ?_⟩, HO.out, HB.out⟩
      rw [← HT.out, List.take_of_length_le (by rw [HL.out]; exact Nat.le_refl _)]
end Go.Proofs.Ytpgfjgakhbnpkaa
