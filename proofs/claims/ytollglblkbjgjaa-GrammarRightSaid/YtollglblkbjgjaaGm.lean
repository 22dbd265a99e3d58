/- Contract of base: it reads a function without what stands behind it. Conditions: the parser's block; what it calls keeps its word one bracket deeper. -/
import Derived.Test.YtollglblkbjgjaaGl
namespace Go.Proofs.Ytollglblkbjgjaa
open Go.RowKit

theorem nd_leaf (S : Nat → Prop) (w : World) (K o : Int) (nm : ByteArray) (l : Lt) (a : Int) : NdAt S w (.agg #[.int .i64 K, .int .i64 o, .string nm, .slice l.sA l.sn l.sc, .slice l.cA l.cn l.cc, .slice none 0 0, .int .i64 a]) (.mk K o nm l [] a) := by
 simp only [NdAt, NdsAt]
 exact ⟨none, 0, [], rfl, Nat.le_refl _, fun h => absurd h (Nat.lt_irrefl 0), rfl⟩
theorem nd_set {S : Nat → Prop} {w : World} {B0 : Nat} {v : Value} {k : Nd} (h : NdAt S w v k) (hB : ∀ b, S b → b ≠ B0) (x0 x1 x2 x3 x4 x5 x6 : Value) : NdAt S (sevenSet w B0 x0 x1 x2 x3 x4 x5 x6) v k :=
 h.mono (Nat.le_of_eq (seven_size ..).symm) (fun b hS _ => ⟨hS, seven_heap _ _ _ (hB b hS) _ _ _ _ _ _ _⟩)
theorem own_grown {w w1 : World} {base n : Nat} {e : TypeId} {size : Nat} {v : Value} {xs : List Value} {g : Nat} (h : w.ownsRow base e size v n xs) (hb : w.grownBy w1 (some g)) (hg : g < base) : w1.ownsRow base e size v n xs := by
 obtain ⟨h1, h2⟩ := h
 refine ⟨h1, ?_⟩
 rcases h2 with h2 | ⟨k, cap, cur, rfl, hbg, hk, r⟩
 ·exact .inl h2
 ·exact .inr ⟨k, cap, cur, rfl, hbg, blk_grown hk hb (by intro e; cases e; omega), r⟩
/-- the loop over functions in a bracket, as it stands -/
def BLoop (E : Env) (bp : Nat) (D n : Int) (R : Res Nd) (at_ : Int) (sk : Nat → Bool → Option Nat) (b : Bool) (i q : Nat) (w : World) (g : Nat) (lv : Value) (wr : World) : Prop :=
 ∃ (k m : Nat) (vA : Option Addr) (vc : Nat) (vs : List Value) (ks : List Nd), lv = .slice vA m vc ∧ i + 1 ≤ k ∧ k ≤ E.L.length ∧ E.grpG sk g k b m = some q ∧ PM E bp k D n w wr ∧ wr.heap[w.heap.size]? = some (.cells #[.int .i64 0, .int .i64 0, .string ⟨#[]⟩, .slice none 0 0, .slice none 0 0, .slice none 0 0, .int .i64 0] 39 (0, 0)) ∧
  wr.ownsRow (w.heap.size + 1) 39 7 (.slice vA m vc) m vs ∧ NdsAt (fun b => w.heap.size < b ∧ Value.ownBlock (.slice vA m vc) ≠ some b) wr vs ks ∧ ks.length = m ∧ m ≤ k ∧ sizes ks + m ≤ 2 * (k - (i + 1)) ∧ Bal E.L (i + 1) k ∧ (∀ x ∈ ks, FnOK x) ∧ (E.grpM (fun k => E.F D k b (decide (0 < n))) g k ks).bind (fun ks k => .ok (grpNd at_ ks) k) = R
theorem baseM_sign {E : Env} {X : Nat → Bool → Res Nd} {F : Nat → Bool → Res Nd} {i : Nat} {b : Bool} {tx : ByteArray} {a : Int} (h1 : E.is i 5 E.open_ = false) (h2 : E.is i 5 ⟨#[40]⟩ = false) (h3 : E.text i = tx) (h4 : E.here i = a) : E.baseM X F i b = .ok (.mk 21 0 tx Lt.zero [] a) (i + 1) := by
 rw [Env.baseM, if_neg (by rw [h1]; decide), if_neg (by rw [h2]; decide), h3, h4]
theorem baseM_grp {E : Env} {X : Nat → Bool → Res Nd} {F : Nat → Bool → Res Nd} {i : Nat} {b : Bool} {a : Int} (h1 : E.is i 5 E.open_ = false) (h2 : E.is i 5 ⟨#[40]⟩ = true) (h4 : E.here i = a) : E.baseM X F i b = (E.grpM (fun k => F k b) (E.L.length + 1) (i + 1) []).bind fun ks k => .ok (grpNd a ks) k := by
 rw [Env.baseM, if_neg (by rw [h1]; decide), if_pos h2, h4]
theorem baseM_lam {E : Env} {X : Nat → Bool → Res Nd} {F : Nat → Bool → Res Nd} {i : Nat} {b : Bool} (h1 : E.is i 5 E.open_ = true) : E.baseM X F i b = E.lamM X i := by
 rw [Env.baseM, if_pos h1]
theorem grpNd_one (a : Int) (ks : List Nd) (x : Nd) (h : ks.length = 1) (hx : ks[0]? = some x) : grpNd a ks = x := by
 match ks, h with
 | [y], _ => simpa [grpNd] using hx
theorem grpNd_two (a : Int) (ks : List Nd) (h : ks.length = 2) : grpNd a ks = .mk 28 0 ⟨#[]⟩ Lt.zero ks a := by
 match ks, h with
 | [y, z], _ => rfl
theorem grpNd_three (a : Int) (ks : List Nd) (h : ks.length = 3) : grpNd a ks = .mk 27 0 ⟨#[]⟩ Lt.zero ks a := by
 match ks, h with
 | [y, z, u], _ => rfl
set_option maxRecDepth 100000 in
set_option maxHeartbeats 16000000 in
theorem base_any (E : Env) (bp : Nat) (D : Int) (hX : ExprAt E bp D) (hF : FunAt E bp D) (hD0 : 0 ≤ D) (hD : D ≤ 24) (f i : Nat) (b : Bool) (q : Nat) (n : Int) (w : World) (hh : E.headG (fun i b => E.grpG (E.skipF f) (E.L.length + 1) (i + 1) b 0) i b = some q) (hS : Sits E bp w) (hn0 : 0 ≤ n) (hn : n ≤ 75 + D) (hp : w.heap[bp]? = some (pcell E i D n)) :
  Calls Try.prog 60 #[.pointer (some ⟨bp, 0, none⟩), .bool b] w (FunPost E bp (E.baseM (E.X D) (fun k c => E.F D k c (decide (0 < n))) i b) i q D n w) := by
 obtain ⟨R, hRM⟩ : ∃ R, E.baseM (E.X D) (fun k c => E.F D k c (decide (0 < n))) i b = R := ⟨_, rfl⟩
 rw [hRM]
 have HRM := Lib.hid hRM
 clear hRM
 obtain ⟨i0, hi0, hz0, hz1, hz2⟩ := info_parts info39
 have hln := hS.env.ln
 have hbp := blk_lt hp
 have hil : i < E.L.length := by
  have := Env.head_lt (fun i b j hj => by
   have := Env.grp_lt (E.skip_lt f) _ _ _ _ _ hj
   exact ⟨by omega, this.2⟩) hh
  omega
 have HX := Lib.hid hX
 have HF := Lib.hid hF
 have HH := Lib.hid hh
 have HM1 := Lib.hid (pm_alloc (pm_refl hp) (.cells #[.int .i64 0, .int .i64 0, .string ⟨#[]⟩, .slice none 0 0, .slice none 0 0, .slice none 0 0, .int .i64 0] 39))
 have HR1 := Lib.hid (blk_new w (.cells #[.int .i64 0, .int .i64 0, .string ⟨#[]⟩, .slice none 0 0, .slice none 0 0, .slice none 0 0, .int .i64 0] 39))
 have HS := Lib.hid hS
 obtain ⟨i1, hi1⟩ : ∃ i1, i + 1 = i1 := ⟨_, rfl⟩
 have hw1 : IntKind.i64.wrap ((i : Int) + 1) = (i1 : Int) := (wraps_i64 _ (by omega) (by omega)).trans (by omega)
 have hil1 : i1 ≤ E.L.length := by omega
 have HI1 := Lib.hid hi1
 clear hX hF hh hS hp hi1
 go_enter Try.func60, Try.ntmps60
 go_wp2_with fail
 refine (here_any E bp i D n _ (HS.out.pm HM1.out).env HM1.out.2).mono ?_
 rintro e w2 ⟨at_, dq, rfl, rfl, hat⟩
 have HAT := Lib.hid hat
 clear hat
 have HM2 := Lib.hid (pm_drewN HM1.out dq)
 have HR2 := Lib.hid (show ((w.alloc (.cells #[.int .i64 0, .int .i64 0, .string ⟨#[]⟩, .slice none 0 0, .slice none 0 0, .slice none 0 0, .int .i64 0] 39)).drewN dq).heap[w.heap.size]? = _ from HR1.out)
 obtain ⟨W2, hW2⟩ : ∃ W2, (w.alloc (.cells #[.int .i64 0, .int .i64 0, .string ⟨#[]⟩, .slice none 0 0, .slice none 0 0, .slice none 0 0, .int .i64 0] 39)).drewN dq = W2 := ⟨_, rfl⟩
 rw [hW2] at HM2 HR2 ⊢
 clear hW2 HM1 HR1
 have c15 := blk_cell HM2.out.2 15
 have c5 := blk_cell HM2.out.2 5
 have hs2 : w.heap.size < W2.heap.size := blk_lt HR2.out
 have HIO := Lib.hid (fun k => is_any E bp i D n i 5 E.open_ (W2.drewN k) ((HS.out.pm HM2.out).env.below (below_drewN (Below.refl _ _) k)) HM2.out.2)
 have HIP := Lib.hid (fun k => is_any E bp i D n i 5 ⟨#[40]⟩ (W2.drewN k) ((HS.out.pm HM2.out).env.below (below_drewN (Below.refl _ _) k)) HM2.out.2)
 cases io : E.is i 5 E.open_
 ·rw [io] at HIO
  cases ip : E.is i 5 ⟨#[40]⟩
  ·-- a sign
   have hsg : q = i + 1 := by
    have h := HH.out
    unfold Env.headG at h
    split at h
    ·cases h; rfl
    ·rw [if_neg (by rw [io]; decide), if_neg (by rw [ip]; decide)] at h
     cases h
   have hkd : ∃ t, E.L[i]? = some t ∧ t.kind = 4 := by
    have h := HH.out
    unfold Env.headG at h
    split at h
    ·rename_i hs
     rcases Bool.or_eq_true _ _ ▸ hs with h1 | h1
     ·exact Env.sign_kind h1
     ·exact Env.sign_kind (Bool.and_eq_true _ _ ▸ h1).2
    ·rw [if_neg (by rw [io]; decide), if_neg (by rw [ip]; decide)] at h
     cases h
   subst hsg
   have HKD := Lib.hid hkd
   have HIOF := Lib.hid io
   have HIPF := Lib.hid ip
   rw [ip] at HIP
   clear io ip hkd
   go_wp2
   go_quiet ((go_at_call 54; exact Calls.quiet_of_same (HIO.out _)))
   go_wp2_with fail
   refine (HIP.out _).mono ?_
   rintro e w3 ⟨rfl, rfl⟩
   have HM3 := Lib.hid (pm_drewN HM2.out nq)
   have HR3 := Lib.hid (show (W2.drewN nq).heap[w.heap.size]? = _ from HR2.out)
   obtain ⟨W3, hW3⟩ : ∃ W3, W2.drewN nq = W3 := ⟨_, rfl⟩
   rw [hW3] at HM3 HR3 ⊢
   clear hW3 c15 c5
   obtain ⟨t, tb, toff, ht, hA, htk⟩ := (HS.out.pm HM3.out).env.tok hil
   have k1 := htk.k1
   have htb := World.block_lt_of_cell? _ _ k1
   have c14 := blk_cell HM3.out.2 14
   have c15 := blk_cell HM3.out.2 15
   have f15 := blk_frozen HM3.out.2 15
   rw [hA] at c14
   have hbp3 := blk_lt HM3.out.2
   have hj0 : (0 : Int) ≤ (i : Int) := by omega
   have hj1 : (i : Int) < (E.L.length : Int) := by omega
   have HTXT := Lib.hid (show E.text i = t.text by rw [Env.text, ht])
   clear ht hA htk
   generalize t.text = tx at *
   go_wp2_with fail
   go_region
   all_goals
    have HM4 := Lib.hid (pm_drew (pm_alloc HM3.out (.cells #[.int .i64 21, .int .i64 0, .string tx, .slice none 0 0, .slice none 0 0, .slice none 0 0, .int .i64 at_] 39)))
    have HR4 := Lib.hid (blk_drew (blk_alloc HR3.out (.cells #[.int .i64 21, .int .i64 0, .string tx, .slice none 0 0, .slice none 0 0, .slice none 0 0, .int .i64 at_] 39)))
    have HP4 := Lib.hid (blk_drew (blk_new W3 (.cells #[.int .i64 21, .int .i64 0, .string tx, .slice none 0 0, .slice none 0 0, .slice none 0 0, .int .i64 at_] 39)))
    have hB3 : w.heap.size < W3.heap.size := blk_lt HR3.out
    obtain ⟨W4, hW4⟩ : ∃ W4, (W3.alloc (.cells #[.int .i64 21, .int .i64 0, .string tx, .slice none 0 0, .slice none 0 0, .slice none 0 0, .int .i64 at_] 39)).drew = W4 := ⟨_, rfl⟩
    rw [hW4] at HM4 HR4 HP4 ⊢
    clear hW4 c14 c15 f15 k1 htb HIO HIP
    generalize W3.heap.size = B3 at *
    have HM5 := Lib.hid (pm_place HM4.out i1)
    have HR5 := Lib.hid (blk_far (p := ⟨bp, 15, none⟩) HR4.out (by simp; omega) (.int .i64 (i1 : Int)))
    have hp5 := blk_far (p := ⟨bp, 15, none⟩) HP4.out (by simp; omega) (.int .i64 (i1 : Int))
    have c15 := blk_cell HM4.out.2 15
    have f15 := blk_frozen HM4.out.2 15
    obtain ⟨W5, hW5⟩ : ∃ W5, W4.setCell ⟨bp, 15, none⟩ (.int .i64 (i1 : Int)) = W5 := ⟨_, rfl⟩
    rw [hW5] at HM5 HR5 hp5
    have y0 := blk_cell hp5 0
    have y1 := blk_cell hp5 1
    have y2 := blk_cell hp5 2
    have y3 := blk_cell hp5 3
    have y4 := blk_cell hp5 4
    have y5 := blk_cell hp5 5
    have y6 := blk_cell hp5 6
    clear hp5
    have hxr := blk_lt HR5.out
    have x0 := blk_cell HR5.out 0
    have xf0 := blk_frozen HR5.out 0
    have x1 := blk_cell HR5.out 1
    have xf1 := blk_frozen HR5.out 1
    have x2 := blk_cell HR5.out 2
    have xf2 := blk_frozen HR5.out 2
    have x3 := blk_cell HR5.out 3
    have xf3 := blk_frozen HR5.out 3
    have x4 := blk_cell HR5.out 4
    have xf4 := blk_frozen HR5.out 4
    have x5 := blk_cell HR5.out 5
    have xf5 := blk_frozen HR5.out 5
    have x6 := blk_cell HR5.out 6
    have xf6 := blk_frozen HR5.out 6
    go_wp2_with fail
    obtain ⟨q0, q1, q2, q3, q4, q5, q6⟩ := seven_cells HR5.out (.int .i64 21) (.int .i64 0) (.string tx) (.slice none 0 0) (.slice none 0 0) (.slice none 0 0) (.int .i64 at_)
    unfold sevenSet at q0 q1 q2 q3 q4 q5 q6
    refine bodyPost_ret (v := .agg #[.int .i64 21, .int .i64 0, .string tx, .slice none 0 0, .slice none 0 0, .slice none 0 0, .int .i64 at_]) (by simp [results, Try.results60, go_sem, q0, q1, q2, q3, q4, q5, q6]) rfl ?_
    refine .inr ⟨_, .mk 21 0 tx Lt.zero [] at_, rfl, pm_seven (by rw [HI1.out]; exact HM5.out) (Nat.le_refl _) hbp _ _ _ _ _ _ _, nd_leaf _ _ 21 0 tx Lt.zero at_, ?_, ?_, (fun h => by cases h), HRM.out.symm.trans (baseM_sign HIOF.out HIPF.out HTXT.out HAT.out)⟩
    ·obtain ⟨t, ht1, ht2⟩ := HKD.out
     exact Bal.one ht1 (by rw [ht2]; decide) (by rw [ht2]; decide)
    ·simp only [Nd.size, sizes]
     omega
  ·
   have hgr : E.grpG (E.skipF f) (E.L.length + 1) (i + 1) b 0 = some q := by
    obtain ⟨t, ht1, ht2⟩ := Env.is_kind ip
    have h := HH.out
    unfold Env.headG at h
    split at h
    ·rename_i hs
     have : ∃ t, E.L[i]? = some t ∧ t.kind = 4 := by
      rcases Bool.or_eq_true _ _ ▸ hs with h1 | h1
      ·exact Env.sign_kind h1
      ·exact Env.sign_kind (Bool.and_eq_true _ _ ▸ h1).2
     obtain ⟨u, hu1, hu2⟩ := this
     rw [ht1] at hu1
     cases hu1
     omega
    ·try rw [if_neg (by rw [io]; decide)] at h
     try rw [if_pos ip] at h
     exact h
   have HGR := Lib.hid hgr
   have HIPT := Lib.hid ip
   have HRB := Lib.hid ((baseM_grp io ip HAT.out).symm.trans HRM.out)
   rw [ip] at HIP
   clear io ip hgr
   go_wp2
   go_quiet ((go_at_call 54; exact Calls.quiet_of_same (HIO.out _)))
   go_wp2_with fail
   refine (HIP.out _).mono ?_
   rintro e w3 ⟨rfl, rfl⟩
   have HM3 := Lib.hid (pm_drewN HM2.out nq)
   have HR3 := Lib.hid (show (W2.drewN nq).heap[w.heap.size]? = _ from HR2.out)
   obtain ⟨W3, hW3⟩ : ∃ W3, W2.drewN nq = W3 := ⟨_, rfl⟩
   rw [hW3] at HM3 HR3 ⊢
   clear hW3 c15 c5 HIO HIP
   have c15 := blk_cell HM3.out.2 15
   have f15 := blk_frozen HM3.out.2 15
   have HM4 := Lib.hid (pm_place HM3.out i1)
   have HR4 := Lib.hid (blk_far (p := ⟨bp, 15, none⟩) HR3.out (by simp; omega) (.int .i64 (i1 : Int)))
   go_wp2_with fail
   go_loopg [6] (E.L.length + 1) (fun g lv wr => BLoop E bp D n R at_ (E.skipF f) b i q w g lv wr)
   case atStart =>
    refine ⟨i1, 0, none, 0, [], [], rfl, by have := HI1.out; omega, hil1, ?_, HM4.out, HR4.out, World.ownsRow_nil _ _ _ _, by simp [NdsAt], rfl, Nat.zero_le _, by simp [sizes], ?_, (fun x hx => by cases hx), by rw [← HI1.out]; exact HRB.out⟩
    ·rw [← HI1.out]; exact HGR.out
    ·rw [HI1.out]; exact .nil _
   case round =>
    obtain ⟨k, m, vA, vc, vs, ks, rfl, hik, hk, hgr, hm, hres, hown, hnds, hlen, hmk, hsz, hbal, hfn, hrm⟩ := hrel
    obtain ⟨g, rfl⟩ : ∃ g, gk = g + 1 := by
     cases gk with
     | zero => simp [Env.grpG] at hgr
     | succ g => exact ⟨g, rfl⟩
    have HM := Lib.hid hm
    have HRS := Lib.hid hres
    have HOWN := Lib.hid hown
    have HNS := Lib.hid hnds
    have HLEN := Lib.hid hlen
    have HSZ := Lib.hid hsz
    have HBAL := Lib.hid hbal
    have HFN := Lib.hid hfn
    have HRG := Lib.hid hrm
    clear hrm
    have c15 := blk_cell hm.2 15
    have f15 := blk_frozen hm.2 15
    have hbw := blk_lt hm.2
    have hws : w.heap.size < wr.heap.size := blk_lt hres
    simp only [Env.grpG] at hgr
    have HI := Lib.hid (is_any E bp k D n k 6 ⟨#[41]⟩ wr (HS.out.pm hm).env hm.2)
    clear hm hres hown hnds hlen hsz hbal hfn
    cases bi : E.is k 6 ⟨#[41]⟩
    ·rw [bi, if_neg Bool.false_ne_true] at hgr
     rw [bi] at HI
     cases hsk : E.skipF f k b with
     | none => rw [hsk] at hgr; cases hgr
     | some j =>
      rw [hsk] at hgr
      dsimp only at hgr
      have hjl := E.skip_lt f k b j hsk
      have HGN := Lib.hid hgr
      have HSK := Lib.hid hsk
      have HRG2 := Lib.hid (show ((E.F D k b (decide (0 < n))).bind fun x j => E.grpM (fun k => E.F D k b (decide (0 < n))) g j (ks ++ [x])).bind (fun ks k => .ok (grpNd at_ ks) k) = R by have h := HRG.out; rw [Env.grpM, if_neg (by rw [bi]; decide)] at h; exact h)
      clear hgr hsk bi
      go_wp2_with fail
      refine HI.out.mono ?_
      rintro e w1 ⟨rfl, hww⟩
      obtain rfl : wr = w1 := hww.symm
      go_wp2_with fail
      refine (HF.out f k b j n wr HSK.out (HS.out.pm HM.out) hk hn0 hn HM.out.2).mono ?_
      rintro e w2 (ht | ⟨v, kd, rfl, hm2, hna, hbal2, hsz2, hfn2, hres2⟩)
      ·obtain ⟨er, ix, p', d', n', hrb, rfl, hpm⟩ := ht
       go_wp2
       exact ⟨rfl, .inl ⟨er, ix, p', d', n', by rw [← HRG2.out, hrb]; rfl, rfl, pm_step HM.out hpm⟩⟩
      ·obtain ⟨o, l, A, c, a, vs2, rfl, -, -, -, -⟩ := hna.form
       have HM2' := Lib.hid hm2
       have HNA := Lib.hid hna
       have HB2 := Lib.hid hbal2
       have HSZ2 := Lib.hid hsz2
       have HFN2 := Lib.hid hfn2
       have HRG3 := Lib.hid (show (E.grpM (fun k => E.F D k b (decide (0 < n))) g j (ks ++ [kd])).bind (fun ks k => .ok (grpNd at_ ks) k) = R by rw [← HRG2.out, hres2]; rfl)
       clear hres2
       have HOW2 := Lib.hid (own_grown HOWN.out hm2.1 (by omega))
       have HOL := Lib.hid HOWN.out.lt
       have HR5 := Lib.hid (blk_pm HRS.out hm2 (by omega))
       have htok := Lib.hid (seven_one kd.kind o kd.name l.sA l.sn l.sc l.cA l.cn l.cc A kd.kids.length c a)
       have hs2 : wr.heap.size ≤ w2.heap.size := hm2.1.size
       clear hm2 hna hbal2 hsz2 hfn2
       go_wp2_with
        (at_builtin; refine wpList_append_lies _ rfl (.tmp 45) (.tmp 49) 37 rfl (w.heap.size + 1) 39 i0 _ 7 112 Try.underlying37 hi0 hz0 hz1 hz2 rfl (by omega) (.slice vA m vc) m vs rfl (HOW2.out.alloc _)
           ⟨w2.heap.size, 0, none⟩ 1 1 [.int .i64 kd.kind, .int .i64 o, .string kd.name, .slice l.sA l.sn l.sc, .slice l.cA l.cn l.cc, .slice A kd.kids.length c, .int .i64 a] rfl rfl (World.news_of_block (cs := #[.int .i64 kd.kind, .int .i64 o, .string kd.name, .slice l.sA l.sn l.sc, .slice l.cA l.cn l.cc, .slice A kd.kids.length c, .int .i64 a]) (t := 39) (fr := (0, 0)) (heap_alloc_new w2 _)) htok.out (by omega) (by unfold maxLen; omega) (by omega) (by simp; omega) (w2.heap.size + 1) (by simp) ?_; intro gg cap w5 hown5 hgrow hat5 hlt5; have HP5 := Lib.hid (nd_push (cap := cap) (P := fun b => w.heap.size < b) (Q := fun b => wr.heap.size ≤ b) HNS.out (fun b (hQ : wr.heap.size ≤ b) _ => ⟨by omega, fun e => by have := HOL.out b e; omega⟩) HNA.out rfl HM2'.out.1.size (fun b hb (hP : w.heap.size < b) => HM2'.out.1.block b hb (by intro e; cases e; omega)) ((Below.refl _ w2).alloc (Nat.le_refl _) (.cells #[.int .i64 kd.kind, .int .i64 o, .string kd.name, .slice l.sA l.sn l.sc, .slice l.cA l.cn l.cc, .slice A kd.kids.length c, .int .i64 a] 39)) hgrow (by simp) hat5); have HM5 := Lib.hid (pm_own (pm_alloc (pm_step HM.out HM2'.out) (.cells #[.int .i64 kd.kind, .int .i64 o, .string kd.name, .slice l.sA l.sn l.sc, .slice l.cA l.cn l.cc, .slice A kd.kids.length c, .int .i64 a] 39)) hgrow hbp (fun b hb => by have := HOL.out b hb; omega)); have HR6 := Lib.hid (blk_grown (blk_alloc HR5.out (.cells #[.int .i64 kd.kind, .int .i64 o, .string kd.name, .slice l.sA l.sn l.sc, .slice l.cA l.cn l.cc, .slice A kd.kids.length c, .int .i64 a] 39)) hgrow (fun e => by have := HOL.out _ e; omega)); have HOW5 := Lib.hid hown5; clear hown5 hgrow hat5)
       go_roundg g
       case rel =>
        refine ⟨j, m + 1, some ⟨gg, 0, none⟩, cap, vs ++ [.int .i64 kd.kind, .int .i64 o, .string kd.name, .slice l.sA l.sn l.sc, .slice l.cA l.cn l.cc, .slice A kd.kids.length c, .int .i64 a], ks ++ [kd], rfl, by omega, hjl.2, HGN.out, HM5.out, HR6.out, by simpa using HOW5.out, HP5.out, by rw [List.length_append, HLEN.out]; rfl, by omega, ?_, HBAL.out.trans HB2.out, ?_, HRG3.out⟩
        ·have := HSZ.out
         have := HSZ2.out
         rw [sizes_append]
         simp only [sizes]
         omega
        ·intro x hx
         rcases List.mem_append.1 hx with h | h
         ·exact HFN.out x h
         ·rw [List.mem_singleton] at h; rw [h]; exact HFN2.out
       case measure => exact Nat.lt_succ_self g
    ·rw [bi, if_pos rfl] at hgr
     rw [bi] at HI
     have hkl := Env.is_lt bi
     have HBL := Lib.hid (show Bal E.L i (k + 1) by
      obtain ⟨t, ht1, ht2⟩ := Env.is_kind HIPT.out
      obtain ⟨u, hu1, hu2⟩ := Env.is_kind bi
      exact .brack t u ht1 ht2 HBAL.out hu1 hu2 (.nil _))
     have HRG2 := Lib.hid (show R = .ok (grpNd at_ ks) (k + 1) by have h := HRG.out; rw [Env.grpM, if_pos bi] at h; exact h.symm)
     obtain ⟨k1, hk1⟩ : ∃ k1, k + 1 = k1 := ⟨_, rfl⟩
     have hwk : IntKind.i64.wrap ((k : Int) + 1) = (k1 : Int) := (wraps_i64 _ (by omega) (by omega)).trans (by omega)
     have hcond : (m = 1 ∨ E.trains = true ∧ (m = 2 ∨ m = 3)) ∧ k + 1 = q := by
      split at hgr
      ·rename_i hc
       cases hgr
       exact ⟨hc, rfl⟩
      ·cases hgr
     obtain ⟨hcm, rfl⟩ := hcond
     obtain ⟨_, _, hv0, hvc⟩ := own_slice HOWN.out
     cases hv0
     have HM6 := Lib.hid (pm_place HM.out (k + 1))
     rw [hk1] at HM6
     have HR6 := Lib.hid (blk_far (p := ⟨bp, 15, none⟩) HRS.out (by simp; omega) (.int .i64 (k1 : Int)))
     have HRI6 := Lib.hid ((rowIn_own HOWN.out).mono (T := fun b => w.heap.size < b) (w' := wr.setCell ⟨bp, 15, none⟩ (.int .i64 (k1 : Int))) (by simp [World.setCell]) (fun b (hS : w.heap.size + 1 ≤ b) _ => ⟨by omega, Below.heap_setCell wr _ _ b (by simp; omega)⟩))
     have HNS6 := Lib.hid (HNS.out.mono (T := fun b => w.heap.size < b) (w' := wr.setCell ⟨bp, 15, none⟩ (.int .i64 (k1 : Int))) (by simp [World.setCell]) (fun b hS _ => ⟨hS.1, Below.heap_setCell wr _ _ b (by have := hS.1; simp; omega)⟩))
     have HK1 := Lib.hid hk1
     clear bi hgr hk1
     obtain ⟨W6, hW6⟩ : ∃ W6, wr.setCell ⟨bp, 15, none⟩ (.int .i64 (k1 : Int)) = W6 := ⟨_, rfl⟩
     rw [hW6] at HM6 HR6 HRI6 HNS6
     have hlk := HLEN.out
     obtain rfl : m = ks.length := hlk.symm
     rcases (by rcases hcm with h | h; exact .inl h; exact .inr h.2 : ks.length = 1 ∨ ks.length = 2 ∨ ks.length = 3) with hm1 | hm2 | hm3
     ·obtain ⟨x, hx⟩ : ∃ x, ks[0]? = some x := ⟨_, List.getElem?_eq_getElem (by omega)⟩
      obtain ⟨b0, o, l, A, c, a, rfl, hb0, hna, y0, y1, y2, y3, y4, y5, y6⟩ := kid_cells HRI6.out HNS6.out (Below.refl _ _) hx
      have hxs := size_kid hx
      have HNA := Lib.hid hna
      have HFX := Lib.hid (HFN.out x (List.mem_of_getElem? hx))
      simp only [Nat.zero_mul, Nat.zero_add] at y0 y1 y2 y3 y4 y5 y6
      have b1 : ((ks.length : Int) == 1) = true := beq_iff_eq.2 (by omega)
      have d1 : (0 : Int) < (ks.length : Int) := by omega
      have hx1 : x.size + 1 ≤ 2 * (k + 1 - i) := by have := HSZ.out; omega
      have HX1 := Lib.hid hx1
      have HGX := Lib.hid (HRG2.out.trans (by rw [grpNd_one at_ ks x hm1 hx]))
      clear hna hx hm1 hcm hlk hx1
      go_wp2_with fail
      refine HI.out.mono ?_
      rintro e w1 ⟨rfl, hww⟩
      obtain rfl : wr = w1 := hww.symm
      have hxr := blk_lt HR6.out
      have x0 := blk_cell HR6.out 0
      have xf0 := blk_frozen HR6.out 0
      have x1 := blk_cell HR6.out 1
      have xf1 := blk_frozen HR6.out 1
      have x2 := blk_cell HR6.out 2
      have xf2 := blk_frozen HR6.out 2
      have x3 := blk_cell HR6.out 3
      have xf3 := blk_frozen HR6.out 3
      have x4 := blk_cell HR6.out 4
      have xf4 := blk_frozen HR6.out 4
      have x5 := blk_cell HR6.out 5
      have xf5 := blk_frozen HR6.out 5
      have x6 := blk_cell HR6.out 6
      have xf6 := blk_frozen HR6.out 6
      go_wp2_with fail
      obtain ⟨q0, q1, q2, q3, q4, q5, q6⟩ := seven_cells HR6.out (.int .i64 x.kind) (.int .i64 o) (.string x.name) (.slice l.sA l.sn l.sc) (.slice l.cA l.cn l.cc) (.slice A x.kids.length c) (.int .i64 a)
      unfold sevenSet at q0 q1 q2 q3 q4 q5 q6
      refine bodyPost_ret (v := .agg #[.int .i64 x.kind, .int .i64 o, .string x.name, .slice l.sA l.sn l.sc, .slice l.cA l.cn l.cc, .slice A x.kids.length c, .int .i64 a]) (by simp [results, Try.results60, go_sem, q0, q1, q2, q3, q4, q5, q6]) rfl ?_
      refine .inr ⟨_, x, rfl, pm_seven (by rw [HK1.out]; exact HM6.out) (Nat.le_refl _) hbp _ _ _ _ _ _ _, (nd_set HNA.out (fun b (hb : w.heap.size < b) => by omega) _ _ _ _ _ _ _).mono (Nat.le_refl _) (fun b (hb : w.heap.size < b) _ => ⟨Nat.le_of_lt hb, rfl⟩), HBL.out, HX1.out, HFX.out, HGX.out⟩
     ·have b1 : ((ks.length : Int) == 1) = false := beq_eq_false_iff_ne.2 (by omega)
      have b2 : ((ks.length : Int) == 2) = true := beq_iff_eq.2 (by omega)
      have HX1 := Lib.hid (show sizes ks + 1 + 1 ≤ 2 * (k + 1 - i) by have := HSZ.out; omega)
      have HGX := Lib.hid (HRG2.out.trans (by rw [grpNd_two at_ ks hm2]))
      clear hm2 hcm hlk
      go_wp2_with fail
      refine HI.out.mono ?_
      rintro e w1 ⟨rfl, hww⟩
      obtain rfl : wr = w1 := hww.symm
      have hxr := blk_lt HR6.out
      have x0 := blk_cell HR6.out 0
      have xf0 := blk_frozen HR6.out 0
      have x1 := blk_cell HR6.out 1
      have xf1 := blk_frozen HR6.out 1
      have x2 := blk_cell HR6.out 2
      have xf2 := blk_frozen HR6.out 2
      have x3 := blk_cell HR6.out 3
      have xf3 := blk_frozen HR6.out 3
      have x4 := blk_cell HR6.out 4
      have xf4 := blk_frozen HR6.out 4
      have x5 := blk_cell HR6.out 5
      have xf5 := blk_frozen HR6.out 5
      have x6 := blk_cell HR6.out 6
      have xf6 := blk_frozen HR6.out 6
      go_wp2_with fail
      obtain ⟨q0, q1, q2, q3, q4, q5, q6⟩ := seven_cells HR6.out (.int .i64 28) (.int .i64 0) (.string ⟨#[]⟩) (.slice none 0 0) (.slice none 0 0) (.slice vA ks.length vc) (.int .i64 at_)
      unfold sevenSet at q0 q1 q2 q3 q4 q5 q6
      refine bodyPost_ret (v := .agg #[.int .i64 28, .int .i64 0, .string ⟨#[]⟩, .slice none 0 0, .slice none 0 0, .slice vA ks.length vc, .int .i64 at_]) (by simp [results, Try.results60, go_sem, q0, q1, q2, q3, q4, q5, q6]) rfl ?_
      refine .inr ⟨_, .mk 28 0 ⟨#[]⟩ Lt.zero ks at_, rfl, pm_seven (by rw [HK1.out]; exact HM6.out) (Nat.le_refl _) hbp _ _ _ _ _ _ _, ?_, HBL.out, ?_, (fun h => by cases h), HGX.out⟩
      ·have : NdAt (fun b => w.heap.size < b) W6 (.agg #[.int .i64 28, .int .i64 0, .string ⟨#[]⟩, .slice none 0 0, .slice none 0 0, .slice vA ks.length vc, .int .i64 at_]) (.mk 28 0 ⟨#[]⟩ Lt.zero ks at_) := by
        simp only [NdAt]
        exact ⟨vA, vc, vs, rfl, hvc, HRI6.out, HNS6.out⟩
       exact (nd_set this (fun b (hb : w.heap.size < b) => by omega) _ _ _ _ _ _ _).mono (Nat.le_refl _) (fun b (hb : w.heap.size < b) _ => ⟨Nat.le_of_lt hb, rfl⟩)
      ·simp only [Nd.size]
       exact HX1.out
     ·have b1 : ((ks.length : Int) == 1) = false := beq_eq_false_iff_ne.2 (by omega)
      have b2 : ((ks.length : Int) == 2) = false := beq_eq_false_iff_ne.2 (by omega)
      have HX1 := Lib.hid (show sizes ks + 1 + 1 ≤ 2 * (k + 1 - i) by have := HSZ.out; omega)
      have HGX := Lib.hid (HRG2.out.trans (by rw [grpNd_three at_ ks hm3]))
      clear hm3 hcm hlk
      go_wp2_with fail
      refine HI.out.mono ?_
      rintro e w1 ⟨rfl, hww⟩
      obtain rfl : wr = w1 := hww.symm
      have hxr := blk_lt HR6.out
      have x0 := blk_cell HR6.out 0
      have xf0 := blk_frozen HR6.out 0
      have x1 := blk_cell HR6.out 1
      have xf1 := blk_frozen HR6.out 1
      have x2 := blk_cell HR6.out 2
      have xf2 := blk_frozen HR6.out 2
      have x3 := blk_cell HR6.out 3
      have xf3 := blk_frozen HR6.out 3
      have x4 := blk_cell HR6.out 4
      have xf4 := blk_frozen HR6.out 4
      have x5 := blk_cell HR6.out 5
      have xf5 := blk_frozen HR6.out 5
      have x6 := blk_cell HR6.out 6
      have xf6 := blk_frozen HR6.out 6
      go_wp2_with fail
      obtain ⟨q0, q1, q2, q3, q4, q5, q6⟩ := seven_cells HR6.out (.int .i64 27) (.int .i64 0) (.string ⟨#[]⟩) (.slice none 0 0) (.slice none 0 0) (.slice vA ks.length vc) (.int .i64 at_)
      unfold sevenSet at q0 q1 q2 q3 q4 q5 q6
      refine bodyPost_ret (v := .agg #[.int .i64 27, .int .i64 0, .string ⟨#[]⟩, .slice none 0 0, .slice none 0 0, .slice vA ks.length vc, .int .i64 at_]) (by simp [results, Try.results60, go_sem, q0, q1, q2, q3, q4, q5, q6]) rfl ?_
      refine .inr ⟨_, .mk 27 0 ⟨#[]⟩ Lt.zero ks at_, rfl, pm_seven (by rw [HK1.out]; exact HM6.out) (Nat.le_refl _) hbp _ _ _ _ _ _ _, ?_, HBL.out, ?_, (fun h => by cases h), HGX.out⟩
      ·have : NdAt (fun b => w.heap.size < b) W6 (.agg #[.int .i64 27, .int .i64 0, .string ⟨#[]⟩, .slice none 0 0, .slice none 0 0, .slice vA ks.length vc, .int .i64 at_]) (.mk 27 0 ⟨#[]⟩ Lt.zero ks at_) := by
        simp only [NdAt]
        exact ⟨vA, vc, vs, rfl, hvc, HRI6.out, HNS6.out⟩
       exact (nd_set this (fun b (hb : w.heap.size < b) => by omega) _ _ _ _ _ _ _).mono (Nat.le_refl _) (fun b (hb : w.heap.size < b) _ => ⟨Nat.le_of_lt hb, rfl⟩)
      ·simp only [Nd.size]
       exact HX1.out
 ·rw [io] at HIO
  have hq : ∃ k, E.shut i = some k ∧ q = k + 1 := by
   obtain ⟨t, ht1, ht2⟩ := Env.is_kind io
   have h := HH.out
   unfold Env.headG at h
   split at h
   ·rename_i hs
    have : ∃ t, E.L[i]? = some t ∧ t.kind = 4 := by
     rcases Bool.or_eq_true _ _ ▸ hs with h1 | h1
     ·exact Env.sign_kind h1
     ·exact Env.sign_kind (Bool.and_eq_true _ _ ▸ h1).2
    obtain ⟨u, hu1, hu2⟩ := this
    rw [ht1] at hu1
    cases hu1
    omega
   ·try rw [if_pos io] at h
    obtain ⟨k, hk, rfl⟩ := Option.map_eq_some_iff.1 h
    exact ⟨k, hk, rfl⟩
  obtain ⟨k, hsh, rfl⟩ := hq
  have HIOP := Lib.hid io
  have HRL := Lib.hid ((baseM_lam io).symm.trans HRM.out)
  have HSH := Lib.hid hsh
  clear io hsh
  go_wp2
  go_quiet ((go_at_call 54; exact Calls.quiet_of_same (HIO.out _)))
  go_wp2_with fail
  have HM3 := Lib.hid (pm_drewN HM2.out nq)
  have HR3 := Lib.hid (show (W2.drewN nq).heap[w.heap.size]? = _ from HR2.out)
  obtain ⟨W3, hW3⟩ : ∃ W3, W2.drewN nq = W3 := ⟨_, rfl⟩
  rw [hW3] at HM3 HR3 ⊢
  clear hW3 c15 c5 HIO HIP
  refine (lambda_any E bp D HX.out hD0 hD i k n W3 (HS.out.pm HM3.out) HIOP.out HSH.out hn0 hn HM3.out.2).mono ?_
  rintro e w4 (ht | ⟨v, kd, rfl, hm4, hna, hbal, hsz, hfn, hres4⟩)
  ·obtain ⟨er, ix, p', d', n', hrb, rfl, hpm⟩ := ht
   go_wp2
   exact ⟨rfl, .inl ⟨er, ix, p', d', n', HRL.out.symm.trans hrb, rfl, pm_step HM3.out hpm⟩⟩
  ·obtain ⟨o, l, A, c, a, vs, rfl, -, -, -, -⟩ := hna.form
   have HM4 := Lib.hid (pm_step HM3.out hm4)
   have HR4 := Lib.hid (blk_pm HR3.out hm4 (by omega))
   have hB3 : w.heap.size < W3.heap.size := blk_lt HR3.out
   have HNA := Lib.hid (hna.mono (T := fun b => w.heap.size < b) (Nat.le_refl _) (fun b (hS : W3.heap.size ≤ b) _ => ⟨by omega, rfl⟩))
   have HBAL := Lib.hid hbal
   have HSZ := Lib.hid hsz
   have HFN := Lib.hid hfn
   have HRES4 := Lib.hid (HRL.out.symm.trans hres4)
   clear hm4 hna hbal hsz hfn hres4
   have hxr := blk_lt HR4.out
   have x0 := blk_cell HR4.out 0
   have xf0 := blk_frozen HR4.out 0
   have x1 := blk_cell HR4.out 1
   have xf1 := blk_frozen HR4.out 1
   have x2 := blk_cell HR4.out 2
   have xf2 := blk_frozen HR4.out 2
   have x3 := blk_cell HR4.out 3
   have xf3 := blk_frozen HR4.out 3
   have x4 := blk_cell HR4.out 4
   have xf4 := blk_frozen HR4.out 4
   have x5 := blk_cell HR4.out 5
   have xf5 := blk_frozen HR4.out 5
   have x6 := blk_cell HR4.out 6
   have xf6 := blk_frozen HR4.out 6
   go_wp2_with fail
   obtain ⟨q0, q1, q2, q3, q4, q5, q6⟩ := seven_cells HR4.out (.int .i64 kd.kind) (.int .i64 o) (.string kd.name) (.slice l.sA l.sn l.sc) (.slice l.cA l.cn l.cc) (.slice A kd.kids.length c) (.int .i64 a)
   unfold sevenSet at q0 q1 q2 q3 q4 q5 q6
   refine bodyPost_ret (v := .agg #[.int .i64 kd.kind, .int .i64 o, .string kd.name, .slice l.sA l.sn l.sc, .slice l.cA l.cn l.cc, .slice A kd.kids.length c, .int .i64 a]) (by simp [results, Try.results60, go_sem, q0, q1, q2, q3, q4, q5, q6]) rfl ?_
   exact .inr ⟨_, kd, rfl, pm_seven HM4.out (Nat.le_refl _) hbp _ _ _ _ _ _ _, (nd_set HNA.out (fun b (hb : w.heap.size < b) => by omega) _ _ _ _ _ _ _).mono (Nat.le_refl _) (fun b (hb : w.heap.size < b) _ => ⟨Nat.le_of_lt hb, rfl⟩), HBAL.out, HSZ.out, HFN.out, HRES4.out⟩
end Go.Proofs.Ytollglblkbjgjaa
