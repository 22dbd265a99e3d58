/- Contract of uses: does an expression name an argument of the function that it is the text of. Conditions: the part reads in memory. -/
import Derived.Test.YtollglblkbjgjaaGg
namespace Go.Proofs.Ytollglblkbjgjaa
open Go.RowKit

mutual
def Nd.uses (q : Int) : Nd → Bool
 | .mk k _ _ _ ks _ => if k = 22 ∨ k = 23 then false else (k == q || anyUses q ks)
def anyUses (q : Int) : List Nd → Bool
 | [] => false
 | k :: ks => k.uses q || anyUses q ks
end
theorem Nd.uses_eq (q : Int) (k : Nd) : k.uses q = if k.kind = 22 ∨ k.kind = 23 then false else (k.kind == q || anyUses q k.kids) := by
 obtain ⟨kk, o, nm, l, ks, a⟩ := k
 rw [Nd.uses]
 rfl
theorem any_append (q : Int) : ∀ (a b : List Nd), anyUses q (a ++ b) = (anyUses q a || anyUses q b)
 | [], b => by simp [anyUses]
 | k :: a, b => by simp only [List.cons_append, anyUses, any_append q a b, Bool.or_assoc]
theorem any_take (q : Int) (ks : List Nd) (i : Nat) (k : Nd) (h : ks[i]? = some k) : anyUses q (ks.take (i + 1)) = (anyUses q (ks.take i) || k.uses q) := by
 obtain ⟨hlt, rfl⟩ := List.getElem?_eq_some_iff.1 h
 rw [List.take_succ_eq_append_getElem hlt, any_append]
 simp [anyUses]
theorem any_of_take (q : Int) (ks : List Nd) (i : Nat) (h : anyUses q (ks.take i) = true) : anyUses q ks = true := by
 have := any_append q (ks.take i) (ks.drop i)
 rw [List.take_append_drop, h, Bool.true_or] at this
 exact this

def UsesOK (q : Int) (m : Nat) : Prop := ∀ (S : Nat → Prop) (k : Nd) (v : Value) (w : World), k.size ≤ m → NdAt S w v k → Calls Try.prog 78 #[v, .int .i64 q] w (Adds (.bool (k.uses q)) w)
set_option maxRecDepth 100000 in
set_option maxHeartbeats 2000000 in
theorem uses1_any (q : Int) (m : Nat) (ih : UsesOK q m) (S : Nat → Prop) (k : Nd) (v : Value) (w : World) (bc : Nat) (hk : k.size ≤ m) (hv : NdAt S w v k) (hc : w.heap[bc]? = some (.cells #[.int .i64 q] 3 (0, 0))) :
  Calls Try.prog 81 #[v, .pointer (some ⟨bc, 0, none⟩)] w (Adds (.bool (k.uses q)) w) := by
 obtain ⟨o, l, A, c, a, vs, rfl, hl, hcc, hrow, hkids⟩ := hv.form
 have HV := Lib.hid hv
 have c0 := blk_cell hc 0
 have hbc := blk_lt hc
 have IH := Lib.hid ih
 clear hv hl hrow hkids ih hc
 generalize hkk : k.kids = ks at *
 generalize hk1 : k.kind = kk at *
 generalize hk2 : k.name = kn at *
 have HKS := Lib.hid hkk
 clear hkk hk1 hk2
 go_enter Try.func81, Try.ntmps81
 go_wp2_with fail
 refine (IH.out S k _ (w.alloc _) hk (HV.out.below ((Below.refl _ _).alloc (Nat.le_refl _) _))).mono ?_
 rintro e w2 ⟨rfl, hb2⟩
 have hb := below_then ((Below.refl _ w).alloc (Nat.le_refl _) _) (by simp) hb2
 go_wp2
 refine bodyPost_ret (v := .bool (k.uses q)) (by simp [results, Try.results81, go_sem]) rfl ?_
 exact ⟨rfl, hb⟩
def IndexB (b : Bool) (w : World) (e : Ending) (w' : World) : Prop := ∃ r : Int, e = .returned (.int .i64 r) ∧ decide (0 ≤ r) = b ∧ Below w.heap.size w w'
set_option maxRecDepth 100000 in
set_option maxHeartbeats 4000000 in
theorem indexF_any (q : Int) (m : Nat) (ih : UsesOK q m) (S : Nat → Prop) (A : Option Addr) (c : Nat) (vs : List Value) (ks : List Nd) (w : World) (bc : Nat) (hk : sizes ks ≤ m) (hm : m ≤ 1000000) (hrow : RowIn S w A vs) (hkids : NdsAt S w vs ks) (hc : w.heap[bc]? = some (.cells #[.int .i64 q] 3 (0, 0))) :
  Calls Try.prog 82 #[.slice A ks.length c, .func (.func 81) #[] #[.pointer (some ⟨bc, 0, none⟩)]] w (IndexB (anyUses q ks) w) := by
 obtain ⟨R, hR⟩ : ∃ R, anyUses q ks = R := ⟨_, rfl⟩
 rw [hR]
 have HR := Lib.hid hR
 have HROW := Lib.hid hrow
 have HK := Lib.hid hkids
 have HC := Lib.hid hc
 have IH := Lib.hid ih
 have hlen := len_sizes ks
 have hen := enters_of Try.func81 (by kernel_rfl) rfl
 clear hR hrow hkids hc ih
 go_enter Try.func82, Try.ntmps82
 go_wp2
 go_loopw [8] (fun x wr => ∃ i : Nat, i ≤ ks.length ∧ x = .int .i64 i ∧ anyUses q (ks.take i) = false ∧ Below w.heap.size w wr) (fun x _ => ks.length - (intOf x).toNat)
 case atStart => exact ⟨0, Nat.zero_le _, rfl, rfl, Below.refl _ _⟩
 case round =>
  obtain ⟨i, hi, rfl, hno, hb⟩ := hrel
  have HB := Lib.hid hb
  by_cases hlt : i < ks.length
  ·obtain ⟨kd, hkd⟩ : ∃ kd, ks[i]? = some kd := ⟨_, List.getElem?_eq_getElem hlt⟩
   obtain ⟨b, o', l', B, c', a', rfl, hbl, hna, e0, e1, e2, e3, e4, e5, e6⟩ := kid_cells HROW.out HK.out hb hkd
   have hks := size_kid hkd
   have hts := Lib.hid (any_take q ks i kd hkd)
   have hi0 : (0 : Int) ≤ (i : Int) := by omega
   have hi1 : (i : Int) < (ks.length : Int) := by omega
   have HNA := Lib.hid hna
   have HNO := Lib.hid hno
   have U1 := Lib.hid (uses1_any q m IH.out S kd _ wr bc (by omega) HNA.out (blk_below HC.out hb (blk_lt HC.out)))
   clear hb hna hkd hno
   cases hu : kd.uses q
   ·have hn := hts.out
    rw [HNO.out, hu] at hn
    have HN := Lib.hid hn
    rw [hu] at U1
    clear hn hu
    go_wp2_with fail
    refine U1.out.mono ?_
    rintro e w2 ⟨rfl, hb2⟩
    go_wp2
    go_roundw
    case rel => exact ⟨i + 1, by omega, by go_num, HN.out, below_then HB.out HB.out.size hb2⟩
    case measure => simp [intOf]; omega
   ·have hn := hts.out
    rw [HNO.out, hu] at hn
    have hRt : R = true := by rw [← HR.out]; exact any_of_take q ks (i + 1) hn
    subst hRt
    rw [hu] at U1
    clear hn hu
    go_wp2_with fail
    refine U1.out.mono ?_
    rintro e w2 ⟨rfl, hb2⟩
    go_wp2
    refine bodyPost_ret (v := .int .i64 (i : Int)) (by simp [results, Try.results82, go_sem]) rfl ?_
    exact ⟨_, rfl, decide_eq_true (by omega), below_then HB.out HB.out.size hb2⟩
  ·obtain rfl : i = ks.length := by omega
   rw [List.take_length] at hno
   have hRt : R = false := by rw [← HR.out]; exact hno
   subst hRt
   go_wp2
   refine bodyPost_ret (v := .int .i64 (-1)) (by simp [results, Try.results82, go_sem]) rfl ?_
   exact ⟨_, rfl, rfl, HB.out⟩
set_option maxRecDepth 100000 in
set_option maxHeartbeats 4000000 in
theorem containsF_any (q : Int) (m : Nat) (ih : UsesOK q m) (S : Nat → Prop) (A : Option Addr) (c : Nat) (vs : List Value) (ks : List Nd) (w : World) (bc : Nat) (hk : sizes ks ≤ m) (hm : m ≤ 1000000) (hrow : RowIn S w A vs) (hkids : NdsAt S w vs ks) (hc : w.heap[bc]? = some (.cells #[.int .i64 q] 3 (0, 0))) :
  Calls Try.prog 80 #[.slice A ks.length c, .func (.func 81) #[] #[.pointer (some ⟨bc, 0, none⟩)]] w (Adds (.bool (anyUses q ks)) w) := by
 have HI := Lib.hid (indexF_any q m ih S A c vs ks w bc hk hm hrow hkids hc)
 clear hrow hkids hc ih
 go_enter Try.func80, Try.ntmps80
 go_wp2_with fail
 refine HI.out.mono ?_
 rintro e w' ⟨r, rfl, hr, hb⟩
 go_wp2
 refine bodyPost_ret (v := .bool (anyUses q ks)) (by simp [results, Try.results80, go_sem, ← hr]) rfl ?_
 exact ⟨rfl, hb⟩
set_option maxRecDepth 100000 in
set_option maxHeartbeats 4000000 in
theorem uses_any (q : Int) : ∀ (m : Nat), m ≤ 1000000 → UsesOK q m := by
 intro m
 induction m with
 | zero => intro _ S k v w hk; have := k.size_pos; omega
 | succ m ih0 =>
  intro hm S k v w hk hv
  have ih := ih0 (by omega)
  clear ih0
  obtain ⟨o, l, A, c, a, vs, rfl, hl, hcc, hrow, hkids⟩ := hv.form
  have hsz := k.size_kids
  have HROW := Lib.hid hrow
  have HK := Lib.hid hkids
  have IH := Lib.hid ih
  have hue := k.uses_eq q
  obtain ⟨R, hR⟩ : ∃ R, k.uses q = R := ⟨_, rfl⟩
  rw [hR] at hue ⊢
  have hsk : sizes k.kids ≤ m := by omega
  clear hl hrow hkids ih hv hR hsz
  generalize k.kids = ks at *
  generalize k.kind = kk at *
  generalize k.name = kn at *
  have hmf : ∀ (fn : Fn) (first cap : Array Value) (w : World), (Instr.makeFunc fn first cap).run Try.prog w = .ok (.func fn first cap) w := fun _ _ _ _ => rfl
  obtain ⟨F, hF⟩ : ∃ F : Obj, Obj.cells #[.int .i64 kk, .int .i64 o, .string kn, .slice l.sA l.sn l.sc, .slice l.cA l.cn l.cc, .slice A ks.length c, .int .i64 a] 39 (0, 0) = F := ⟨_, rfl⟩
  have hb2 : Below w.heap.size w ((w.alloc F).alloc (.cells #[.int .i64 q] 3)) := ((Below.refl _ w).alloc (Nat.le_refl _) F).alloc (by simp) _
  have HC := Lib.hid (show ((w.alloc F).alloc (.cells #[.int .i64 q] 3)).heap[w.heap.size + 1]? = some (.cells #[.int .i64 q] 3 (0, 0)) from by
   have := blk_new (w.alloc F) (.cells #[.int .i64 q] 3)
   rw [show (w.alloc F).heap.size = w.heap.size + 1 by simp] at this
   exact this)
  have HB2 := Lib.hid hb2
  clear hb2
  subst hF
  by_cases h22 : kk = 22
  ·rw [if_pos (.inl h22)] at hue
   subst hue
   subst h22
   go_enter Try.func78, Try.ntmps78
   go_wp2_with fail
   refine bodyPost_ret (v := .bool false) (by simp [results, Try.results78, go_sem]) rfl ?_
   exact ⟨rfl, HB2.out⟩
  ·have b22 : (kk == 22) = false := beq_eq_false_iff_ne.2 h22
   by_cases h23 : kk = 23
   ·rw [if_pos (.inr h23)] at hue
    subst hue
    subst h23
    go_enter Try.func78, Try.ntmps78
    go_wp2_with fail
    refine bodyPost_ret (v := .bool false) (by simp [results, Try.results78, go_sem]) rfl ?_
    exact ⟨rfl, HB2.out⟩
   ·have b23 : (kk == 23) = false := beq_eq_false_iff_ne.2 h23
    rw [if_neg (by rintro (h | h); exact h22 h; exact h23 h)] at hue
    cases bq : (kk == q)
    ·rw [bq, Bool.false_or] at hue
     subst hue
     have CF := Lib.hid (containsF_any q m IH.out S A c vs ks _ (w.heap.size + 1) hsk (by omega) (HROW.out.mono HB2.out.size (fun b hS hlt => ⟨hS, HB2.out.block b hlt⟩)) (HK.out.below HB2.out) HC.out)
     clear h22 h23
     go_enter Try.func78, Try.ntmps78
     go_wp2_with fail
     refine CF.out.mono ?_
     rintro e w3 ⟨rfl, hb3⟩
     have hb4 := below_then HB2.out HB2.out.size hb3
     go_wp2
     refine bodyPost_ret (v := .bool (anyUses q ks)) (by simp [results, Try.results78, go_sem]) rfl ?_
     exact ⟨rfl, hb4⟩
    ·rw [bq, Bool.true_or] at hue
     subst hue
     clear h22 h23
     go_enter Try.func78, Try.ntmps78
     go_wp2_with fail
     refine bodyPost_ret (v := .bool true) (by simp [results, Try.results78, go_sem]) rfl ?_
     exact ⟨rfl, HB2.out⟩
end Go.Proofs.Ytollglblkbjgjaa
