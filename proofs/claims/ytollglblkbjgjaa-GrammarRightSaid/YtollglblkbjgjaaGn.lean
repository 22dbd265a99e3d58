/- Contract of function: it reads one. Conditions: the parser's block; what it calls keeps its word one bracket deeper. -/
import Derived.Test.YtollglblkbjgjaaGm
namespace Go.Proofs.Ytollglblkbjgjaa
open Go.RowKit

/-- as nd_row, the world between told by its blocks -/
theorem nd_row2 {S : Nat → Prop} {w9 W' : World} (hz : W'.heap.size = w9.heap.size) (hh : ∀ b, S b → b < w9.heap.size → W'.heap[b]? = w9.heap[b]?) {vs : List Value} {ks : List Nd} (hk : NdsAt S w9 vs ks) (hS : S w9.heap.size) (K o : Int) (nm : ByteArray) (l : Lt) (a : Int) :
  NdAt S (W'.alloc (.cells vs.toArray 39)) (.agg #[.int .i64 K, .int .i64 o, .string nm, .slice l.sA l.sn l.sc, .slice l.cA l.cn l.cc, .slice (some ⟨w9.heap.size, 0, none⟩) ks.length ks.length, .int .i64 a]) (.mk K o nm l ks a) := by
 simp only [NdAt]
 refine ⟨some ⟨w9.heap.size, 0, none⟩, ks.length, vs, rfl, Nat.le_refl _, ?_, ?_⟩
 ·have := rowIn_new S W' vs 39 (by rw [hz]; exact hS)
  rw [hz] at this
  exact this
 ·refine hk.mono (by simp [hz]) (fun b hSb hlt => ⟨hSb, ?_⟩)
  rw [Below.heap_alloc _ _ b (by rw [hz]; exact hlt)]
  exact hh b hSb hlt
theorem wrap64_back (d : Int) (h0 : -1000000 ≤ d) (h1 : d ≤ 1000000) : wrap64 (d + 1 - 1) = d := by
 unfold wrap64
 omega
/-- the loop over what stands behind a function, as it stands -/
def FLoop (E : Env) (bp : Nat) (R : Res Nd) (at_ : Int) (D n : Int) (i j : Nat) (w : World) (bF : Nat) (g : Nat) (wr : World) : Prop :=
 ∃ (k : Nat) (kd : Nd) (o : Int) (l : Lt) (A : Option Addr) (c : Nat) (a : Int), i < k ∧ k ≤ E.L.length ∧ E.L.length + 1 ≤ k + g ∧ E.tail g k = j ∧ PM E bp k D n w wr ∧ wr.heap[w.heap.size]? = some (.cells #[.pointer (some ⟨bp, 0, none⟩)] 54 (0, 0)) ∧ wr.heap[w.heap.size + 1]? = some (.cells #[.int .i64 0, .int .i64 0, .string ⟨#[]⟩, .slice none 0 0, .slice none 0 0, .slice none 0 0, .int .i64 0] 39 (0, 0)) ∧
  wr.heap[bF]? = some (.cells #[.int .i64 kd.kind, .int .i64 o, .string kd.name, .slice l.sA l.sn l.sc, .slice l.cA l.cn l.cc, .slice A kd.kids.length c, .int .i64 a] 39 (0, 0)) ∧ NdAt (fun b => w.heap.size + 1 < b ∧ b ≠ bF) wr (.agg #[.int .i64 kd.kind, .int .i64 o, .string kd.name, .slice l.sA l.sn l.sc, .slice l.cA l.cn l.cc, .slice A kd.kids.length c, .int .i64 a]) kd ∧ Bal E.L i k ∧ kd.size + 1 ≤ 2 * (k - i) ∧ FnOK kd ∧ E.tailM at_ g k kd = R
theorem funM_plain {E : Env} {X : Nat → Bool → Res Nd} {F : Nat → Bool → Res Nd} {i : Nat} {b : Bool} {a : Int} (h1 : E.is i 4 E.outer = false) (h4 : E.here i = a) : E.funM X F i b = (E.baseM X F i b).bind fun kd k => E.tailM a (E.L.length + 1) k kd := by
 rw [Env.funM, h1, h4]
 simp
theorem funM_outer {E : Env} {X : Nat → Bool → Res Nd} {F : Nat → Bool → Res Nd} {i : Nat} {b : Bool} {a : Int} (h1 : E.is i 4 E.outer = true) (h4 : E.here i = a) : E.funM X F i b = (E.baseM X F (i + 1) false).bind fun kd k => E.tailM a (E.L.length + 1) k (.mk 25 0 ⟨#[]⟩ Lt.zero [kd] a) := by
 rw [Env.funM, h1, h4]
 simp
set_option maxRecDepth 100000 in
set_option maxHeartbeats 16000000 in
theorem function_any (E : Env) (bp : Nat) (d : Int) (hX : ExprAt E bp (d + 1)) (hF : FunAt E bp (d + 1)) (hd0 : 0 ≤ d) (hd : d ≤ 24) : FunAt E bp d := by
 obtain ⟨i0, hi0, hz0, hz1, hz2⟩ := info_parts info39
 intro f i b j n w hsk hS hi hn0 hn hp
 obtain ⟨R, hRM⟩ : ∃ R, E.F d i b (decide (0 < n)) = R := ⟨_, rfl⟩
 rw [hRM]
 have HRM := Lib.hid hRM
 clear hRM
 obtain ⟨f, rfl⟩ : ∃ g, f = g + 1 := by
  cases f with
  | zero => simp [Env.skipF] at hsk
  | succ g => exact ⟨g, rfl⟩
 have hln := hS.env.ln
 have hbp := blk_lt hp
 have hij := E.skip_lt _ _ _ _ hsk
 simp only [Env.skipF] at hsk
 obtain ⟨q, hhead, htail⟩ := Option.map_eq_some_iff.1 hsk
 clear hsk
 have HX := Lib.hid hX
 have HF := Lib.hid hF
 have HH := Lib.hid hhead
 have HT := Lib.hid htail
 have HS := Lib.hid hS
 have hm0 := pm_alloc (pm_alloc (pm_refl hp) (.cells #[.pointer (some ⟨bp, 0, none⟩)] 54)) (.cells #[.int .i64 0, .int .i64 0, .string ⟨#[]⟩, .slice none 0 0, .slice none 0 0, .slice none 0 0, .int .i64 0] 39)
 have hc0 := blk_alloc (blk_new w (.cells #[.pointer (some ⟨bp, 0, none⟩)] 54)) (.cells #[.int .i64 0, .int .i64 0, .string ⟨#[]⟩, .slice none 0 0, .slice none 0 0, .slice none 0 0, .int .i64 0] 39)
 have hr0 := blk_new (w.alloc (.cells #[.pointer (some ⟨bp, 0, none⟩)] 54)) (.cells #[.int .i64 0, .int .i64 0, .string ⟨#[]⟩, .slice none 0 0, .slice none 0 0, .slice none 0 0, .int .i64 0] 39)
 rw [show (w.alloc (.cells #[.pointer (some ⟨bp, 0, none⟩)] 54)).heap.size = w.heap.size + 1 by simp] at hr0
 have HM0 := Lib.hid hm0
 have HC0 := Lib.hid hc0
 have HR0 := Lib.hid hr0
 have hmf : ∀ (fn : Fn) (first cap : Array Value) (w : World), (Instr.makeFunc fn first cap).run Try.prog w = .ok (.func fn first cap) w := fun _ _ _ _ => rfl
 clear hX hF hhead htail hS hp hm0 hc0 hr0
 go_enter_defers Try.func33, Try.ntmps33
 go_wp2_with fail
 refine (down_any E bp i d n _ (HS.out.pm HM0.out) hd0 (by omega) HM0.out.2).mono ?_
 rintro e w1 (⟨hd24, rfl, hm1⟩ | ht)
 ·have HM1 := Lib.hid (pm_step HM0.out hm1)
  have HC1 := Lib.hid (blk_pm HC0.out hm1 (by omega))
  have HR1 := Lib.hid (blk_pm HR0.out hm1 (by omega))
  have c0 := blk_cell HC1.out 0
  clear hm1 HM0 HC0 HR0
  go_wp2_with fail
  refine (here_any E bp i (d + 1) n w1 (HS.out.pm HM1.out).env HM1.out.2).mono ?_
  rintro e w2 ⟨at_, dq, rfl, rfl, hat⟩
  have HAT := Lib.hid hat
  have HRF := Lib.hid ((Env.F_step hd24 i b (decide (0 < n))).symm.trans HRM.out)
  clear hat
  have HM2 := Lib.hid (pm_drewN HM1.out dq)
  have HC2 := Lib.hid (show (w1.drewN dq).heap[w.heap.size]? = _ from HC1.out)
  have HR2 := Lib.hid (show (w1.drewN dq).heap[w.heap.size + 1]? = _ from HR1.out)
  obtain ⟨W2, hW2⟩ : ∃ W2, w1.drewN dq = W2 := ⟨_, rfl⟩
  rw [hW2] at HM2 HC2 HR2 ⊢
  clear hW2 HM1 HC1 HR1 c0
  have c0 := blk_cell HC2.out 0
  have c15 := blk_cell HM2.out.2 15
  have c3 := blk_cell HM2.out.2 3
  have HIO := Lib.hid (fun k => is_any E bp i (d + 1) n i 4 E.outer (W2.drewN k) ((HS.out.pm HM2.out).env.below (below_drewN (Below.refl _ _) k)) HM2.out.2)
  cases io : E.is i 4 E.outer
  ·have HRP := Lib.hid ((funM_plain io HAT.out).symm.trans HRF.out)
   rw [io] at HIO
   have HHD := Lib.hid (show E.headG (fun i b => E.grpG (E.skipF f) (E.L.length + 1) (i + 1) b 0) i b = some q by
    have h := HH.out
    rw [io, if_neg Bool.false_ne_true, show (b && !false) = b by simp] at h
    exact h)
   have HQ := Lib.hid (Env.head_lt (fun i b j hj => by
    have := Env.grp_lt (E.skip_lt f) _ _ _ _ _ hj
    exact ⟨by omega, this.2⟩) HHD.out)
   clear io
   go_wp2_with fail
   go_quiet ((go_at_call 54; exact Calls.quiet_of_same (HIO.out _)))
   have HM4 := Lib.hid (pm_drewN HM2.out nq)
   have HC4 := Lib.hid (show (W2.drewN nq).heap[w.heap.size]? = _ from HC2.out)
   have HR4 := Lib.hid (show (W2.drewN nq).heap[w.heap.size + 1]? = _ from HR2.out)
   obtain ⟨W4, hW4⟩ : ∃ W4, W2.drewN nq = W4 := ⟨_, rfl⟩
   rw [hW4] at HM4 HC4 HR4 ⊢
   clear hW4 HIO HM2 HC2 HR2 c0 c15 c3
   have c0 := blk_cell HC4.out 0
   go_wp2_with fail
   refine (base_any E bp (d + 1) HX.out HF.out (by omega) (by omega) f i b q n W4 HHD.out (HS.out.pm HM4.out) hn0 (by omega) HM4.out.2).mono ?_
   rintro e w5 (ht | ⟨v, kd, rfl, hm5, hna, hbal, hsz, hfn, hres5⟩)
   ·obtain ⟨er, ix, p', d', n', hrb, rfl, hpm⟩ := ht
    have HRB := Lib.hid (show R = .bad er ix by rw [← HRP.out, hrb]; rfl)
    clear hrb
    go_wp2
    have hcend := blk_pm HC4.out hpm (by omega)
    refine leaves_cons (f := 59) (args := #[.pointer (some ⟨w.heap.size, 0, none⟩)]) (by simp) (by simp [go_sem]) ?_
    refine (up59 E bp p' d' n' w.heap.size _ w5 (blk_cell (hcend) 0) hpm.2).mono ?_
    rintro e u' w'' ⟨rfl, rfl, hpm2⟩
    show FunPost E bp R i j d n w (.panicked (faultChain er (E.here ix))) w''
    exact .inl ⟨er, ix, p', wrap64 (d' - 1), n', HRB.out, rfl, pm_step HM4.out (pm_step hpm hpm2)⟩
   ·obtain ⟨o, l, A, c, a, vs, rfl, -, -, -, -⟩ := hna.form
    have HM5 := Lib.hid (pm_step HM4.out hm5)
    have HC5 := Lib.hid (blk_pm HC4.out hm5 (by omega))
    have HR5 := Lib.hid (blk_pm HR4.out hm5 (by omega))
    have hs4 : w.heap.size + 1 < W4.heap.size := blk_lt HR4.out
    have hs5 : W4.heap.size ≤ w5.heap.size := hm5.1.size
    have HNA := Lib.hid hna
    have HBAL := Lib.hid hbal
    have HSZ := Lib.hid hsz
    have HFN := Lib.hid hfn
    have HRT := Lib.hid (by have h := HRP.out; rw [hres5] at h; exact h : E.tailM at_ (E.L.length + 1) q kd = R)
    clear hm5 hna hbal hsz hfn hres5

    go_wp2_with fail
    go_loopg [] (E.L.length + 1) (fun g wr => FLoop E bp R at_ (d + 1) n i j w w5.heap.size g wr)
    case atStart =>
     have hT : NdAt (fun b => w.heap.size + 1 < b ∧ b ≠ w5.heap.size) w5 (.agg #[.int .i64 kd.kind, .int .i64 o, .string kd.name, .slice l.sA l.sn l.sc, .slice l.cA l.cn l.cc, .slice A kd.kids.length c, .int .i64 a]) kd := HNA.out.mono (Nat.le_refl _) (fun b (hb : W4.heap.size ≤ b) hlt => ⟨⟨by omega, by omega⟩, rfl⟩)
     exact ⟨q, kd, o, l, A, c, a, HQ.out.1, HQ.out.2, by omega, HT.out, pm_alloc HM5.out _, blk_alloc HC5.out _, blk_alloc HR5.out _, blk_new w5 _, hT.below ((Below.refl _ _).alloc (Nat.le_refl _) _), HBAL.out, HSZ.out, HFN.out, HRT.out⟩
    case round =>
     obtain ⟨k, kd, o, l, A, c, a, hik, hk, hkg, htl, hm, hcb, hrb, hfb, hna, hbal, hsz, hfn, hrt⟩ := hrel
     obtain ⟨g, rfl⟩ : ∃ g, gk = g + 1 := ⟨gk - 1, by omega⟩
     have HM := Lib.hid hm
     have HC := Lib.hid hcb
     have HR := Lib.hid hrb
     have HFB := Lib.hid hfb
     have HN := Lib.hid hna
     have HBAL := Lib.hid hbal
     have HSZ := Lib.hid hsz
     have HFN := Lib.hid hfn
     have HRG := Lib.hid hrt
     clear hrt
     have c0 := blk_cell hcb 0
     have c15 := blk_cell hm.2 15
     have c1 := blk_cell hm.2 1
     have c14 := blk_cell hm.2 14
     have hbl := blk_lt hfb
     have hwl := blk_lt hrb
     have hb0 := blk_lt hcb
     have hbpl := blk_lt hm.2
     have y0 := blk_cell HFB.out 0
     have yf0 := blk_frozen HFB.out 0
     have y1 := blk_cell HFB.out 1
     have yf1 := blk_frozen HFB.out 1
     have y2 := blk_cell HFB.out 2
     have yf2 := blk_frozen HFB.out 2
     have y3 := blk_cell HFB.out 3
     have yf3 := blk_frozen HFB.out 3
     have y4 := blk_cell HFB.out 4
     have yf4 := blk_frozen HFB.out 4
     have y5 := blk_cell HFB.out 5
     have yf5 := blk_frozen HFB.out 5
     have y6 := blk_cell HFB.out 6
     have yf6 := blk_frozen HFB.out 6
     simp only [Env.tail] at htl
     have hE := (HS.out.pm hm).env
     have HSG := Lib.hid (fun m => sign_any E bp k (d + 1) n k E.aA E.ac E.as_ (wr.drewN m) (hE.below (below_drewN (Below.refl _ _) m)) hm.2 (hE.below (below_drewN (Below.refl _ _) m)).a hE.an)
     have HPW := Lib.hid (fun m => power_any E bp k (d + 1) n k (wr.drewN m) (hE.below (below_drewN (Below.refl _ _) m)) hm.2 (by omega))
     have HEN := Lib.hid hE
     clear hm hcb hrb hfb hna hbal hsz hfn hE
     cases bs : E.sign k E.as_
     ·rw [bs] at htl HSG
      rw [if_neg Bool.false_ne_true] at htl
      go_wp2_with fail
      go_quiet ((go_at_call 55; exact Calls.quiet_of_same (HSG.out _)))
      go_wp2_with fail
      have E0 := Lib.hid (show ∀ w', Below wr.heap.size wr w' → w'.cell? ⟨w.heap.size, 0, none⟩ = some (.pointer (some ⟨bp, 0, none⟩)) ∧ w'.cell? ⟨bp, 15, none⟩ = some (.int .i64 (k : Int)) from fun w' h => ⟨cell_below h c0, cell_below h c15⟩)
      cases hpw : E.pow k with
      | none =>
       rw [hpw] at htl HPW
       dsimp only [optVal] at htl HPW
       subst htl
       have HRQ := Lib.hid (show R = .ok kd k by have h := HRG.out; rw [Env.tailM, if_neg (by rw [bs]; decide), hpw] at h; exact h.symm)
       clear hpw bs
       go_region_held3 (fun w' => w'.cell? ⟨w.heap.size, 0, none⟩ = some (.pointer (some ⟨bp, 0, none⟩)) ∧ w'.cell? ⟨bp, 15, none⟩ = some (.int .i64 (k : Int)))
        (first | go_keep | exact E0.out _ H8.out | exact E0.out _ (below_drewN (Below.refl _ _) _) | exact E0.out _ (Below.refl _ _).drew)
        (first | (go_at_call 58; (with_reducible refine (HPW.out _).mono ?_); rintro e w2 ⟨rfl, hb2⟩; have H8 := Lib.hid (show Below wr.heap.size wr w2 from ⟨hb2.os, hb2.tape, hb2.output, hb2.size, hb2.block⟩)) | fail)
       all_goals
        have hbb := H8.out
        have HM6 := Lib.hid (pm_below HM.out hbb)
        have HC6 := Lib.hid (blk_below HC.out hbb (blk_lt HC.out))
        have HR6 := Lib.hid (blk_below HR.out hbb (blk_lt HR.out))
        have HF6 := Lib.hid (blk_below HFB.out hbb (blk_lt HFB.out))
        have HN6 := Lib.hid (HN.out.below hbb)
        clear hb2 hbb y0 yf0 y1 yf1 y2 yf2 y3 yf3 y4 yf4 y5 yf5 y6 yf6 c0 c15 c1 c14
        have y0 := blk_cell HF6.out 0
        have yf0 := blk_frozen HF6.out 0
        have y1 := blk_cell HF6.out 1
        have yf1 := blk_frozen HF6.out 1
        have y2 := blk_cell HF6.out 2
        have yf2 := blk_frozen HF6.out 2
        have y3 := blk_cell HF6.out 3
        have yf3 := blk_frozen HF6.out 3
        have y4 := blk_cell HF6.out 4
        have yf4 := blk_frozen HF6.out 4
        have y5 := blk_cell HF6.out 5
        have yf5 := blk_frozen HF6.out 5
        have y6 := blk_cell HF6.out 6
        have yf6 := blk_frozen HF6.out 6
        have x0 := blk_cell HR6.out 0
        have xf0 := blk_frozen HR6.out 0
        have x1 := blk_cell HR6.out 1
        have xf1 := blk_frozen HR6.out 1
        have x2 := blk_cell HR6.out 2
        have xf2 := blk_frozen HR6.out 2
        have x3 := blk_cell HR6.out 3
        have xf3 := blk_frozen HR6.out 3
        have x4 := blk_cell HR6.out 4
        have xf4 := blk_frozen HR6.out 4
        have x5 := blk_cell HR6.out 5
        have xf5 := blk_frozen HR6.out 5
        have x6 := blk_cell HR6.out 6
        have xf6 := blk_frozen HR6.out 6
        go_wp2_with fail
        have HME := Lib.hid (pm_seven HM6.out (Nat.le_succ _) hbp (.int .i64 kd.kind) (.int .i64 o) (.string kd.name) (.slice l.sA l.sn l.sc) (.slice l.cA l.cn l.cc) (.slice A kd.kids.length c) (.int .i64 a))
        have HCE := Lib.hid ((seven_heap w2 (w.heap.size + 1) w.heap.size (by omega) (.int .i64 kd.kind) (.int .i64 o) (.string kd.name) (.slice l.sA l.sn l.sc) (.slice l.cA l.cn l.cc) (.slice A kd.kids.length c) (.int .i64 a)).trans HC6.out)
        have HRE := Lib.hid (seven_blk HR6.out (.int .i64 kd.kind) (.int .i64 o) (.string kd.name) (.slice l.sA l.sn l.sc) (.slice l.cA l.cn l.cc) (.slice A kd.kids.length c) (.int .i64 a))
        have HNE := Lib.hid (nd_set (B0 := w.heap.size + 1) HN6.out (fun b (hb : w.heap.size + 1 < b ∧ b ≠ w5.heap.size) => by omega) (.int .i64 kd.kind) (.int .i64 o) (.string kd.name) (.slice l.sA l.sn l.sc) (.slice l.cA l.cn l.cc) (.slice A kd.kids.length c) (.int .i64 a))
        unfold sevenSet at HME HCE HRE HNE
        obtain ⟨W7, hW7⟩ : ∃ W7, sevenSet w2 (w.heap.size + 1) (.int .i64 kd.kind) (.int .i64 o) (.string kd.name) (.slice l.sA l.sn l.sc) (.slice l.cA l.cn l.cc) (.slice A kd.kids.length c) (.int .i64 a) = W7 := ⟨_, rfl⟩
        unfold sevenSet at hW7
        rw [hW7] at HME HCE HRE HNE ⊢
        clear hW7
        refine leaves_cons (f := 59) (args := #[.pointer (some ⟨w.heap.size, 0, none⟩)]) (by simp) (by simp [go_sem]) ?_
        refine (up59 E bp k (d + 1) n w.heap.size _ W7 (blk_cell HCE.out 0) HME.out.2).mono ?_
        rintro e u' w9 ⟨rfl, rfl, hpm2⟩
        have hre := blk_pm HRE.out hpm2 (by omega)
        have q0 := blk_cell hre 0
        have q1 := blk_cell hre 1
        have q2 := blk_cell hre 2
        have q3 := blk_cell hre 3
        have q4 := blk_cell hre 4
        have q5 := blk_cell hre 5
        have q6 := blk_cell hre 6
        have hpm3 := pm_step HME.out hpm2
        rw [wrap64_back d (by omega) (by omega)] at hpm3
        refine ⟨.agg #[.int .i64 kd.kind, .int .i64 o, .string kd.name, .slice l.sA l.sn l.sc, .slice l.cA l.cn l.cc, .slice A kd.kids.length c, .int .i64 a], by simp [results, Try.results33, go_sem, q0, q1, q2, q3, q4, q5, q6], ?_⟩
        exact .inr ⟨_, kd, rfl, hpm3, (HNE.out.pmS hpm2 (fun b hb => by have := hb.1; omega)).mono (Nat.le_refl _) (fun b hb _ => ⟨by have := hb.1; omega, rfl⟩), HBAL.out, HSZ.out, HFN.out, HRQ.out⟩
      | some mm =>
       rw [hpw] at htl HPW
       dsimp only [optVal] at htl HPW
       have hpl := Env.pow_lt hpw
       have HKD := Lib.hid (Env.pow_kind hpw)
       have HTL := Lib.hid htl
       have HRQ := Lib.hid (show E.tailM at_ g (k + 2) (.mk 26 mm ⟨#[]⟩ Lt.zero [kd] at_) = R by have h := HRG.out; rw [Env.tailM, if_neg (by rw [bs]; decide), hpw] at h; exact h)
       clear hpw htl bs
       go_region_held3 (fun w' => w'.cell? ⟨w.heap.size, 0, none⟩ = some (.pointer (some ⟨bp, 0, none⟩)) ∧ w'.cell? ⟨bp, 15, none⟩ = some (.int .i64 (k : Int)))
        (first | go_keep | exact E0.out _ H8.out | exact E0.out _ (below_drewN (Below.refl _ _) _) | exact E0.out _ (Below.refl _ _).drew)
        (first | (go_at_call 58; (with_reducible refine (HPW.out _).mono ?_); rintro e w2 ⟨rfl, hb2⟩; have H8 := Lib.hid (show Below wr.heap.size wr w2 from ⟨hb2.os, hb2.tape, hb2.output, hb2.size, hb2.block⟩)) | fail)
       all_goals
        have hbb := H8.out
        have HM6 := Lib.hid (pm_below HM.out hbb)
        have HC6 := Lib.hid (blk_below HC.out hbb (blk_lt HC.out))
        have HR6 := Lib.hid (blk_below HR.out hbb (blk_lt HR.out))
        have HF6 := Lib.hid (blk_below HFB.out hbb (blk_lt HFB.out))
        have HN6 := Lib.hid (HN.out.below hbb)
        have hs6 : wr.heap.size ≤ w2.heap.size := hbb.size
        clear hb2 hbb y0 yf0 y1 yf1 y2 yf2 y3 yf3 y4 yf4 y5 yf5 y6 yf6 c0 c15 c1 c14
        have y0 := blk_cell HF6.out 0
        have yf0 := blk_frozen HF6.out 0
        have y1 := blk_cell HF6.out 1
        have yf1 := blk_frozen HF6.out 1
        have y2 := blk_cell HF6.out 2
        have yf2 := blk_frozen HF6.out 2
        have y3 := blk_cell HF6.out 3
        have yf3 := blk_frozen HF6.out 3
        have y4 := blk_cell HF6.out 4
        have yf4 := blk_frozen HF6.out 4
        have y5 := blk_cell HF6.out 5
        have yf5 := blk_frozen HF6.out 5
        have y6 := blk_cell HF6.out 6
        have yf6 := blk_frozen HF6.out 6
        have c0 := blk_cell HC6.out 0
        have c15 := blk_cell HM6.out.2 15
        have f15 := blk_frozen HM6.out.2 15
        have hb6 := blk_lt HM6.out.2
        have hc6 := blk_lt HC6.out
        have hbl6 := blk_lt HF6.out
        obtain ⟨k2, hk2⟩ : ∃ k2, k + 2 = k2 := ⟨_, rfl⟩
        have hwk : IntKind.i64.wrap ((k : Int) + 2) = (k2 : Int) := (wraps_i64 _ (by omega) (by omega)).trans (by omega)
        have HK2 := Lib.hid hk2
        clear hk2
        go_wp2_with fail
        have hz7 : ((sevenSet w2 w5.heap.size (.int .i64 26) (.int .i64 mm) (.string ⟨#[]⟩) (.slice none 0 0) (.slice none 0 0) (.slice (some ⟨w2.heap.size, 0, none⟩) 1 1) (.int .i64 at_)).setCell ⟨bp, 15, none⟩ (.int .i64 (k2 : Int))).heap.size = w2.heap.size := by simp [sevenSet, World.setCell]
        have HM7 := Lib.hid (pm_alloc (pm_place (pm_seven (B := w5.heap.size) HM6.out (by omega) hbp (.int .i64 26) (.int .i64 mm) (.string ⟨#[]⟩) (.slice none 0 0) (.slice none 0 0) (.slice (some ⟨w2.heap.size, 0, none⟩) 1 1) (.int .i64 at_)) k2) (.cells #[.int .i64 kd.kind, .int .i64 o, .string kd.name, .slice l.sA l.sn l.sc, .slice l.cA l.cn l.cc, .slice A kd.kids.length c, .int .i64 a] 39))
        have HC7 := Lib.hid (blk_alloc (blk_far (p := ⟨bp, 15, none⟩) ((seven_heap w2 w5.heap.size w.heap.size (by omega) (.int .i64 26) (.int .i64 mm) (.string ⟨#[]⟩) (.slice none 0 0) (.slice none 0 0) (.slice (some ⟨w2.heap.size, 0, none⟩) 1 1) (.int .i64 at_)).trans HC6.out) (by simp; omega) (.int .i64 (k2 : Int))) (.cells #[.int .i64 kd.kind, .int .i64 o, .string kd.name, .slice l.sA l.sn l.sc, .slice l.cA l.cn l.cc, .slice A kd.kids.length c, .int .i64 a] 39))
        have HR7 := Lib.hid (blk_alloc (blk_far (p := ⟨bp, 15, none⟩) ((seven_heap w2 w5.heap.size (w.heap.size + 1) (by omega) (.int .i64 26) (.int .i64 mm) (.string ⟨#[]⟩) (.slice none 0 0) (.slice none 0 0) (.slice (some ⟨w2.heap.size, 0, none⟩) 1 1) (.int .i64 at_)).trans HR6.out) (by simp; omega) (.int .i64 (k2 : Int))) (.cells #[.int .i64 kd.kind, .int .i64 o, .string kd.name, .slice l.sA l.sn l.sc, .slice l.cA l.cn l.cc, .slice A kd.kids.length c, .int .i64 a] 39))
        have HF7 := Lib.hid (blk_alloc (blk_far (p := ⟨bp, 15, none⟩) (seven_blk HF6.out (.int .i64 26) (.int .i64 mm) (.string ⟨#[]⟩) (.slice none 0 0) (.slice none 0 0) (.slice (some ⟨w2.heap.size, 0, none⟩) 1 1) (.int .i64 at_)) (by simp; omega) (.int .i64 (k2 : Int))) (.cells #[.int .i64 kd.kind, .int .i64 o, .string kd.name, .slice l.sA l.sn l.sc, .slice l.cA l.cn l.cc, .slice A kd.kids.length c, .int .i64 a] 39))
        have HN7 := Lib.hid (nd_row2 (S := fun b => w.heap.size + 1 < b ∧ b ≠ w5.heap.size) hz7 (fun b hb _ => (Below.heap_setCell _ _ _ b (by have := hb.1; simp; omega)).trans (seven_heap w2 w5.heap.size b hb.2 (.int .i64 26) (.int .i64 mm) (.string ⟨#[]⟩) (.slice none 0 0) (.slice none 0 0) (.slice (some ⟨w2.heap.size, 0, none⟩) 1 1) (.int .i64 at_))) (nds_one HN6.out rfl) ⟨by omega, by omega⟩ 26 mm ⟨#[]⟩ Lt.zero at_)
        unfold sevenSet at HM7 HC7 HR7 HF7 HN7
        obtain ⟨W7, hW7⟩ : ∃ W7, ((sevenSet w2 w5.heap.size (.int .i64 26) (.int .i64 mm) (.string ⟨#[]⟩) (.slice none 0 0) (.slice none 0 0) (.slice (some ⟨w2.heap.size, 0, none⟩) 1 1) (.int .i64 at_)).setCell ⟨bp, 15, none⟩ (.int .i64 (k2 : Int))).alloc (.cells #[.int .i64 kd.kind, .int .i64 o, .string kd.name, .slice l.sA l.sn l.sc, .slice l.cA l.cn l.cc, .slice A kd.kids.length c, .int .i64 a] 39) = W7 := ⟨_, rfl⟩
        unfold sevenSet at hW7
        rw [hW7] at HM7 HC7 HR7 HF7 HN7 ⊢
        clear hW7 hz7
        generalize w2.heap.size = B2 at *
        go_roundg g
        case rel =>
         have hk2 := HK2.out
         obtain ⟨t, u, ht1, ht2, hu1, hu2⟩ := HKD.out
         refine ⟨k2, .mk 26 mm ⟨#[]⟩ Lt.zero [kd] at_, mm, Lt.zero, some ⟨B2, 0, none⟩, 1, at_, by omega, by omega, by omega, by rw [← hk2]; exact HTL.out, HM7.out, HC7.out, HR7.out, HF7.out, HN7.out, ?_, ?_, (fun h => by cases h), by rw [← hk2]; exact HRQ.out⟩
         ·rw [← hk2]
          exact HBAL.out.trans (.word t ht1 (by rw [ht2]; decide) (by rw [ht2]; decide) (Bal.one hu1 (by rw [hu2]; decide) (by rw [hu2]; decide)))
         ·have := HSZ.out
          simp only [Nd.size, sizes]
          omega
        case measure => exact Nat.lt_succ_self g
     ·rw [bs] at htl HSG
      rw [if_pos rfl] at htl
      have hkl := Env.sign_lt bs
      obtain ⟨t, tb, toff, ht, hA, htk⟩ := HEN.out.tok hkl
      have k1 := htk.k1
      have htb := World.block_lt_of_cell? _ _ k1
      rw [hA] at c14
      have hj0 : (0 : Int) ≤ (k : Int) := by omega
      have hj1 : (k : Int) < (E.L.length : Int) := by omega
      have HKD := Lib.hid (Env.sign_kind bs)
      have HTL := Lib.hid htl
      have HRQ := Lib.hid (show E.tailM at_ g (k + 1) (.mk 24 0 t.text Lt.zero [kd] at_) = R by have h := HRG.out; rw [Env.tailM, if_pos bs, show E.text k = t.text by rw [Env.text, ht]] at h; exact h)
      clear ht hA htk bs htl
      generalize t.text = tx at *
      go_wp2_with fail
      go_quiet ((go_at_call 55; exact Calls.quiet_of_same (HSG.out _)))
      have HM3 := Lib.hid (pm_drewN HM.out nq)
      have HC3 := Lib.hid (show (wr.drewN nq).heap[w.heap.size]? = _ from HC.out)
      have HR3 := Lib.hid (show (wr.drewN nq).heap[w.heap.size + 1]? = _ from HR.out)
      have HFB3 := Lib.hid (show (wr.drewN nq).heap[w5.heap.size]? = _ from HFB.out)
      have HN3 := Lib.hid (HN.out.below (below_drewN (Below.refl _ _) nq))
      have hk1w : (wr.drewN nq).cell? ⟨tb, toff + k * 5 + 1, none⟩ = some (.string tx) := k1
      have hc14w : (wr.drewN nq).cell? ⟨bp, 14, none⟩ = some (.slice (some ⟨tb, toff, none⟩) E.L.length E.lc) := c14
      have htb3 : tb < (wr.drewN nq).heap.size := htb
      obtain ⟨W3, hW3⟩ : ∃ W3, wr.drewN nq = W3 := ⟨_, rfl⟩
      rw [hW3] at HM3 HC3 HR3 HFB3 HN3 hk1w hc14w htb3 ⊢
      clear hW3 HM HC HR HFB HN c0 c15 c1 c14 hbl hwl hb0 hbpl HSG HPW HEN y0 yf0 y1 yf1 y2 yf2 y3 yf3 y4 yf4 y5 yf5 y6 yf6 k1 htb
      have c0 := blk_cell HC3.out 0
      have c15 := blk_cell HM3.out.2 15
      have hbl := blk_lt HFB3.out
      have hwl := blk_lt HR3.out
      have hb0 := blk_lt HC3.out
      have hbpl := blk_lt HM3.out.2
      have y0 := blk_cell HFB3.out 0
      have yf0 := blk_frozen HFB3.out 0
      have y1 := blk_cell HFB3.out 1
      have yf1 := blk_frozen HFB3.out 1
      have y2 := blk_cell HFB3.out 2
      have yf2 := blk_frozen HFB3.out 2
      have y3 := blk_cell HFB3.out 3
      have yf3 := blk_frozen HFB3.out 3
      have y4 := blk_cell HFB3.out 4
      have yf4 := blk_frozen HFB3.out 4
      have y5 := blk_cell HFB3.out 5
      have yf5 := blk_frozen HFB3.out 5
      have y6 := blk_cell HFB3.out 6
      have yf6 := blk_frozen HFB3.out 6
      go_wp2_with fail
      refine wp_region_noPanic ?_
      go_region
      all_goals
       refine NoPanic.normal ?_
       have HM5 := Lib.hid (pm_drew (pm_alloc (pm_seven (B := w5.heap.size) HM3.out (by omega) hbp (.int .i64 24) (.int .i64 0) (.string tx) (.slice none 0 0) (.slice none 0 0) (.slice (some ⟨W3.heap.size, 0, none⟩) 1 1) (.int .i64 at_)) (.cells #[.int .i64 kd.kind, .int .i64 o, .string kd.name, .slice l.sA l.sn l.sc, .slice l.cA l.cn l.cc, .slice A kd.kids.length c, .int .i64 a] 39)))
       have HC5' := Lib.hid (blk_drew (blk_alloc ((seven_heap W3 w5.heap.size w.heap.size (by omega) (.int .i64 24) (.int .i64 0) (.string tx) (.slice none 0 0) (.slice none 0 0) (.slice (some ⟨W3.heap.size, 0, none⟩) 1 1) (.int .i64 at_)).trans HC3.out) (.cells #[.int .i64 kd.kind, .int .i64 o, .string kd.name, .slice l.sA l.sn l.sc, .slice l.cA l.cn l.cc, .slice A kd.kids.length c, .int .i64 a] 39)))
       have HR5' := Lib.hid (blk_drew (blk_alloc ((seven_heap W3 w5.heap.size (w.heap.size + 1) (by omega) (.int .i64 24) (.int .i64 0) (.string tx) (.slice none 0 0) (.slice none 0 0) (.slice (some ⟨W3.heap.size, 0, none⟩) 1 1) (.int .i64 at_)).trans HR3.out) (.cells #[.int .i64 kd.kind, .int .i64 o, .string kd.name, .slice l.sA l.sn l.sc, .slice l.cA l.cn l.cc, .slice A kd.kids.length c, .int .i64 a] 39)))
       have HF5' := Lib.hid (blk_drew (blk_alloc (seven_blk HFB3.out (.int .i64 24) (.int .i64 0) (.string tx) (.slice none 0 0) (.slice none 0 0) (.slice (some ⟨W3.heap.size, 0, none⟩) 1 1) (.int .i64 at_)) (.cells #[.int .i64 kd.kind, .int .i64 o, .string kd.name, .slice l.sA l.sn l.sc, .slice l.cA l.cn l.cc, .slice A kd.kids.length c, .int .i64 a] 39)))
       have HN5' := Lib.hid ((nd_row (S := fun b => w.heap.size + 1 < b ∧ b ≠ w5.heap.size) (B0 := w5.heap.size) (fun b hb => hb.2) (nds_one HN3.out rfl) ⟨by omega, by omega⟩ (.int .i64 24) (.int .i64 0) (.string tx) (.slice none 0 0) (.slice none 0 0) (.slice (some ⟨W3.heap.size, 0, none⟩) 1 1) (.int .i64 at_) 24 0 tx Lt.zero at_).below (Below.refl _ _).drew)
       unfold sevenSet at HM5 HC5' HR5' HF5' HN5'
       obtain ⟨W5, hW5⟩ : ∃ W5, ((sevenSet W3 w5.heap.size (.int .i64 24) (.int .i64 0) (.string tx) (.slice none 0 0) (.slice none 0 0) (.slice (some ⟨W3.heap.size, 0, none⟩) 1 1) (.int .i64 at_)).alloc (.cells #[.int .i64 kd.kind, .int .i64 o, .string kd.name, .slice l.sA l.sn l.sc, .slice l.cA l.cn l.cc, .slice A kd.kids.length c, .int .i64 a] 39)).drew = W5 := ⟨_, rfl⟩
       unfold sevenSet at hW5
       rw [hW5] at HM5 HC5' HR5' HF5' HN5' ⊢
       clear hW5 y0 yf0 y1 yf1 y2 yf2 y3 yf3 y4 yf4 y5 yf5 y6 yf6 c0 c15 hbl hwl hb0 hbpl hk1w hc14w htb3 HM3 HC3 HR3 HFB3 HN3
       generalize W3.heap.size = B3 at *
       have c0 := blk_cell HC5'.out 0
       have c15 := blk_cell HM5.out.2 15
       have f15 := blk_frozen HM5.out.2 15
       obtain ⟨k1, hk1⟩ : ∃ k1, k + 1 = k1 := ⟨_, rfl⟩
       have hwk : IntKind.i64.wrap ((k : Int) + 1) = (k1 : Int) := (wraps_i64 _ (by omega) (by omega)).trans (by omega)
       have HK1 := Lib.hid hk1
       clear hk1
       go_wp2_with fail
       go_roundg g
       case rel =>
        have hk1 := HK1.out
        obtain ⟨t, ht1, ht2⟩ := HKD.out
        refine ⟨k1, .mk 24 0 tx Lt.zero [kd] at_, 0, Lt.zero, some ⟨B3, 0, none⟩, 1, at_, by omega, by omega, by omega, by rw [← hk1]; exact HTL.out, pm_place HM5.out k1, blk_far HC5'.out (by simp; omega) _, blk_far HR5'.out (by simp; omega) _, blk_far HF5'.out (by simp; omega) _, HN5'.out.pmS (pm_place (pm_refl HM5.out.2) k1) (fun b hb => by have := hb.1; omega), ?_, ?_, (fun _ => Nat.one_pos), by rw [← hk1]; exact HRQ.out⟩
        ·rw [← hk1]; exact HBAL.out.trans (Bal.one ht1 (by rw [ht2]; decide) (by rw [ht2]; decide))
        ·have := HSZ.out
         simp only [Nd.size, sizes]
         omega
       case measure => exact Nat.lt_succ_self g
  ·have HRP := Lib.hid ((funM_outer io HAT.out).symm.trans HRF.out)
   rw [io] at HIO
   have HKO := Lib.hid (Env.is_kind io)
   have hil := Env.is_lt io
   have HHD := Lib.hid (show E.headG (fun i b => E.grpG (E.skipF f) (E.L.length + 1) (i + 1) b 0) (i + 1) false = some q by
    have h := HH.out
    rw [io, if_pos rfl, show (b && !true) = false by simp] at h
    exact h)
   obtain ⟨i1, hi1⟩ : ∃ i1, i + 1 = i1 := ⟨_, rfl⟩
   rw [hi1] at HHD HRP
   have hw1 : IntKind.i64.wrap ((i : Int) + 1) = (i1 : Int) := (wraps_i64 _ (by omega) (by omega)).trans (by omega)
   have HI1 := Lib.hid hi1
   have HQ := Lib.hid (Env.head_lt (fun i b j hj => by
    have := Env.grp_lt (E.skip_lt f) _ _ _ _ _ hj
    exact ⟨by omega, this.2⟩) HHD.out)
   clear io hi1
   go_wp2_with fail
   go_quiet ((go_at_call 54; exact Calls.quiet_of_same (HIO.out _)))
   have HM3 := Lib.hid (pm_drewN HM2.out nq)
   have HC3 := Lib.hid (show (W2.drewN nq).heap[w.heap.size]? = _ from HC2.out)
   have HR3 := Lib.hid (show (W2.drewN nq).heap[w.heap.size + 1]? = _ from HR2.out)
   obtain ⟨W3, hW3⟩ : ∃ W3, W2.drewN nq = W3 := ⟨_, rfl⟩
   rw [hW3] at HM3 HC3 HR3 ⊢
   clear hW3 HIO HM2 HC2 HR2 c0 c15 c3
   have c0 := blk_cell HC3.out 0
   have c15 := blk_cell HM3.out.2 15
   have f15 := blk_frozen HM3.out.2 15
   have HM4 := Lib.hid (pm_place HM3.out i1)
   have HC4 := Lib.hid (blk_far (p := ⟨bp, 15, none⟩) HC3.out (by simp; omega) (.int .i64 (i1 : Int)))
   have HR4 := Lib.hid (blk_far (p := ⟨bp, 15, none⟩) HR3.out (by simp; omega) (.int .i64 (i1 : Int)))
   go_wp2_with fail
   obtain ⟨W4, hW4⟩ : ∃ W4, W3.setCell ⟨bp, 15, none⟩ (.int .i64 (i1 : Int)) = W4 := ⟨_, rfl⟩
   rw [hW4] at HM4 HC4 HR4 ⊢
   clear hW4 HM3 HC3 HR3 c0 c15 f15
   have c0 := blk_cell HC4.out 0
   refine (base_any E bp (d + 1) HX.out HF.out (by omega) (by omega) f i1 false q n W4 HHD.out (HS.out.pm HM4.out) hn0 (by omega) HM4.out.2).mono ?_
   rintro e w5 (ht | ⟨v, kd, rfl, hm5, hna, hbal, hsz, hfn, hres5⟩)
   ·obtain ⟨er, ix, p', d', n', hrb, rfl, hpm⟩ := ht
    have HRB := Lib.hid (show R = .bad er ix by rw [← HRP.out, hrb]; rfl)
    clear hrb
    go_wp2
    have hcend := blk_pm HC4.out hpm (by omega)
    refine leaves_cons (f := 59) (args := #[.pointer (some ⟨w.heap.size, 0, none⟩)]) (by simp) (by simp [go_sem]) ?_
    refine (up59 E bp p' d' n' w.heap.size _ w5 (blk_cell (hcend) 0) hpm.2).mono ?_
    rintro e u' w'' ⟨rfl, rfl, hpm2⟩
    show FunPost E bp R i j d n w (.panicked (faultChain er (E.here ix))) w''
    exact .inl ⟨er, ix, p', wrap64 (d' - 1), n', HRB.out, rfl, pm_step HM4.out (pm_step hpm hpm2)⟩
   ·obtain ⟨o, l, A, c, a, vs, rfl, -, -, -, -⟩ := hna.form
    have HM5 := Lib.hid (pm_step HM4.out hm5)
    have HC5 := Lib.hid (blk_pm HC4.out hm5 (by omega))
    have HR5 := Lib.hid (blk_pm HR4.out hm5 (by omega))
    have hs4 : w.heap.size + 1 < W4.heap.size := blk_lt HR4.out
    have hs5 : W4.heap.size ≤ w5.heap.size := hm5.1.size
    have HNA := Lib.hid hna
    have HBAL := Lib.hid hbal
    have HSZ := Lib.hid hsz
    have HFN := Lib.hid hfn
    have HRT := Lib.hid (by have h := HRP.out; rw [hres5] at h; exact h : E.tailM at_ (E.L.length + 1) q (.mk 25 0 ⟨#[]⟩ Lt.zero [kd] at_) = R)
    clear hm5 hna hbal hsz hfn hres5

    go_wp2_with fail
    go_loopg [] (E.L.length + 1) (fun g wr => FLoop E bp R at_ (d + 1) n i j w w5.heap.size g wr)
    case atStart =>
     have hT : NdAt (fun b => w.heap.size + 1 < b ∧ b ≠ w5.heap.size) w5 (.agg #[.int .i64 kd.kind, .int .i64 o, .string kd.name, .slice l.sA l.sn l.sc, .slice l.cA l.cn l.cc, .slice A kd.kids.length c, .int .i64 a]) kd := HNA.out.mono (Nat.le_refl _) (fun b (hb : W4.heap.size ≤ b) hlt => ⟨⟨by omega, by omega⟩, rfl⟩)
     have hN := nd_row2 (S := fun b => w.heap.size + 1 < b ∧ b ≠ w5.heap.size) (w9 := w5.alloc (.cells #[.int .i64 25, .int .i64 0, .string ⟨#[]⟩, .slice none 0 0, .slice none 0 0, .slice (some ⟨w5.heap.size + 1, 0, none⟩) 1 1, .int .i64 at_] 39)) rfl (fun _ _ _ => rfl) (nds_one (hT.below ((Below.refl _ _).alloc (Nat.le_refl _) (.cells #[.int .i64 25, .int .i64 0, .string ⟨#[]⟩, .slice none 0 0, .slice none 0 0, .slice (some ⟨w5.heap.size + 1, 0, none⟩) 1 1, .int .i64 at_] 39))) rfl) ⟨by simp; omega, by simp⟩ 25 0 ⟨#[]⟩ Lt.zero at_
     rw [show (w5.alloc (.cells #[.int .i64 25, .int .i64 0, .string ⟨#[]⟩, .slice none 0 0, .slice none 0 0, .slice (some ⟨w5.heap.size + 1, 0, none⟩) 1 1, .int .i64 at_] 39)).heap.size = w5.heap.size + 1 by simp] at hN
     obtain ⟨t, ht1, ht2⟩ := HKO.out
     have hi1 := HI1.out
     have hq := HQ.out
     refine ⟨q, .mk 25 0 ⟨#[]⟩ Lt.zero [kd] at_, 0, Lt.zero, some ⟨w5.heap.size + 1, 0, none⟩, 1, at_, by omega, hq.2, by omega, HT.out, pm_alloc (pm_alloc HM5.out _) _, blk_alloc (blk_alloc HC5.out _) _, blk_alloc (blk_alloc HR5.out _) _, blk_alloc (blk_new w5 _) _, hN, ?_, ?_, (fun h => by cases h), HRT.out⟩
     ·exact .word t ht1 (by rw [ht2]; decide) (by rw [ht2]; decide) (by rw [hi1]; exact HBAL.out)
     ·have := HSZ.out
      simp only [Nd.size, sizes]
      omega
    case round =>
     obtain ⟨k, kd, o, l, A, c, a, hik, hk, hkg, htl, hm, hcb, hrb, hfb, hna, hbal, hsz, hfn, hrt⟩ := hrel
     obtain ⟨g, rfl⟩ : ∃ g, gk = g + 1 := ⟨gk - 1, by omega⟩
     have HM := Lib.hid hm
     have HC := Lib.hid hcb
     have HR := Lib.hid hrb
     have HFB := Lib.hid hfb
     have HN := Lib.hid hna
     have HBAL := Lib.hid hbal
     have HSZ := Lib.hid hsz
     have HFN := Lib.hid hfn
     have HRG := Lib.hid hrt
     clear hrt
     have c0 := blk_cell hcb 0
     have c15 := blk_cell hm.2 15
     have c1 := blk_cell hm.2 1
     have c14 := blk_cell hm.2 14
     have hbl := blk_lt hfb
     have hwl := blk_lt hrb
     have hb0 := blk_lt hcb
     have hbpl := blk_lt hm.2
     have y0 := blk_cell HFB.out 0
     have yf0 := blk_frozen HFB.out 0
     have y1 := blk_cell HFB.out 1
     have yf1 := blk_frozen HFB.out 1
     have y2 := blk_cell HFB.out 2
     have yf2 := blk_frozen HFB.out 2
     have y3 := blk_cell HFB.out 3
     have yf3 := blk_frozen HFB.out 3
     have y4 := blk_cell HFB.out 4
     have yf4 := blk_frozen HFB.out 4
     have y5 := blk_cell HFB.out 5
     have yf5 := blk_frozen HFB.out 5
     have y6 := blk_cell HFB.out 6
     have yf6 := blk_frozen HFB.out 6
     simp only [Env.tail] at htl
     have hE := (HS.out.pm hm).env
     have HSG := Lib.hid (fun m => sign_any E bp k (d + 1) n k E.aA E.ac E.as_ (wr.drewN m) (hE.below (below_drewN (Below.refl _ _) m)) hm.2 (hE.below (below_drewN (Below.refl _ _) m)).a hE.an)
     have HPW := Lib.hid (fun m => power_any E bp k (d + 1) n k (wr.drewN m) (hE.below (below_drewN (Below.refl _ _) m)) hm.2 (by omega))
     have HEN := Lib.hid hE
     clear hm hcb hrb hfb hna hbal hsz hfn hE
     cases bs : E.sign k E.as_
     ·rw [bs] at htl HSG
      rw [if_neg Bool.false_ne_true] at htl
      go_wp2_with fail
      go_quiet ((go_at_call 55; exact Calls.quiet_of_same (HSG.out _)))
      go_wp2_with fail
      have E0 := Lib.hid (show ∀ w', Below wr.heap.size wr w' → w'.cell? ⟨w.heap.size, 0, none⟩ = some (.pointer (some ⟨bp, 0, none⟩)) ∧ w'.cell? ⟨bp, 15, none⟩ = some (.int .i64 (k : Int)) from fun w' h => ⟨cell_below h c0, cell_below h c15⟩)
      cases hpw : E.pow k with
      | none =>
       rw [hpw] at htl HPW
       dsimp only [optVal] at htl HPW
       subst htl
       have HRQ := Lib.hid (show R = .ok kd k by have h := HRG.out; rw [Env.tailM, if_neg (by rw [bs]; decide), hpw] at h; exact h.symm)
       clear hpw bs
       go_region_held3 (fun w' => w'.cell? ⟨w.heap.size, 0, none⟩ = some (.pointer (some ⟨bp, 0, none⟩)) ∧ w'.cell? ⟨bp, 15, none⟩ = some (.int .i64 (k : Int)))
        (first | go_keep | exact E0.out _ H8.out | exact E0.out _ (below_drewN (Below.refl _ _) _) | exact E0.out _ (Below.refl _ _).drew)
        (first | (go_at_call 58; (with_reducible refine (HPW.out _).mono ?_); rintro e w2 ⟨rfl, hb2⟩; have H8 := Lib.hid (show Below wr.heap.size wr w2 from ⟨hb2.os, hb2.tape, hb2.output, hb2.size, hb2.block⟩)) | fail)
       all_goals
        have hbb := H8.out
        have HM6 := Lib.hid (pm_below HM.out hbb)
        have HC6 := Lib.hid (blk_below HC.out hbb (blk_lt HC.out))
        have HR6 := Lib.hid (blk_below HR.out hbb (blk_lt HR.out))
        have HF6 := Lib.hid (blk_below HFB.out hbb (blk_lt HFB.out))
        have HN6 := Lib.hid (HN.out.below hbb)
        clear hb2 hbb y0 yf0 y1 yf1 y2 yf2 y3 yf3 y4 yf4 y5 yf5 y6 yf6 c0 c15 c1 c14
        have y0 := blk_cell HF6.out 0
        have yf0 := blk_frozen HF6.out 0
        have y1 := blk_cell HF6.out 1
        have yf1 := blk_frozen HF6.out 1
        have y2 := blk_cell HF6.out 2
        have yf2 := blk_frozen HF6.out 2
        have y3 := blk_cell HF6.out 3
        have yf3 := blk_frozen HF6.out 3
        have y4 := blk_cell HF6.out 4
        have yf4 := blk_frozen HF6.out 4
        have y5 := blk_cell HF6.out 5
        have yf5 := blk_frozen HF6.out 5
        have y6 := blk_cell HF6.out 6
        have yf6 := blk_frozen HF6.out 6
        have x0 := blk_cell HR6.out 0
        have xf0 := blk_frozen HR6.out 0
        have x1 := blk_cell HR6.out 1
        have xf1 := blk_frozen HR6.out 1
        have x2 := blk_cell HR6.out 2
        have xf2 := blk_frozen HR6.out 2
        have x3 := blk_cell HR6.out 3
        have xf3 := blk_frozen HR6.out 3
        have x4 := blk_cell HR6.out 4
        have xf4 := blk_frozen HR6.out 4
        have x5 := blk_cell HR6.out 5
        have xf5 := blk_frozen HR6.out 5
        have x6 := blk_cell HR6.out 6
        have xf6 := blk_frozen HR6.out 6
        go_wp2_with fail
        have HME := Lib.hid (pm_seven HM6.out (Nat.le_succ _) hbp (.int .i64 kd.kind) (.int .i64 o) (.string kd.name) (.slice l.sA l.sn l.sc) (.slice l.cA l.cn l.cc) (.slice A kd.kids.length c) (.int .i64 a))
        have HCE := Lib.hid ((seven_heap w2 (w.heap.size + 1) w.heap.size (by omega) (.int .i64 kd.kind) (.int .i64 o) (.string kd.name) (.slice l.sA l.sn l.sc) (.slice l.cA l.cn l.cc) (.slice A kd.kids.length c) (.int .i64 a)).trans HC6.out)
        have HRE := Lib.hid (seven_blk HR6.out (.int .i64 kd.kind) (.int .i64 o) (.string kd.name) (.slice l.sA l.sn l.sc) (.slice l.cA l.cn l.cc) (.slice A kd.kids.length c) (.int .i64 a))
        have HNE := Lib.hid (nd_set (B0 := w.heap.size + 1) HN6.out (fun b (hb : w.heap.size + 1 < b ∧ b ≠ w5.heap.size) => by omega) (.int .i64 kd.kind) (.int .i64 o) (.string kd.name) (.slice l.sA l.sn l.sc) (.slice l.cA l.cn l.cc) (.slice A kd.kids.length c) (.int .i64 a))
        unfold sevenSet at HME HCE HRE HNE
        obtain ⟨W7, hW7⟩ : ∃ W7, sevenSet w2 (w.heap.size + 1) (.int .i64 kd.kind) (.int .i64 o) (.string kd.name) (.slice l.sA l.sn l.sc) (.slice l.cA l.cn l.cc) (.slice A kd.kids.length c) (.int .i64 a) = W7 := ⟨_, rfl⟩
        unfold sevenSet at hW7
        rw [hW7] at HME HCE HRE HNE ⊢
        clear hW7
        refine leaves_cons (f := 59) (args := #[.pointer (some ⟨w.heap.size, 0, none⟩)]) (by simp) (by simp [go_sem]) ?_
        refine (up59 E bp k (d + 1) n w.heap.size _ W7 (blk_cell HCE.out 0) HME.out.2).mono ?_
        rintro e u' w9 ⟨rfl, rfl, hpm2⟩
        have hre := blk_pm HRE.out hpm2 (by omega)
        have q0 := blk_cell hre 0
        have q1 := blk_cell hre 1
        have q2 := blk_cell hre 2
        have q3 := blk_cell hre 3
        have q4 := blk_cell hre 4
        have q5 := blk_cell hre 5
        have q6 := blk_cell hre 6
        have hpm3 := pm_step HME.out hpm2
        rw [wrap64_back d (by omega) (by omega)] at hpm3
        refine ⟨.agg #[.int .i64 kd.kind, .int .i64 o, .string kd.name, .slice l.sA l.sn l.sc, .slice l.cA l.cn l.cc, .slice A kd.kids.length c, .int .i64 a], by simp [results, Try.results33, go_sem, q0, q1, q2, q3, q4, q5, q6], ?_⟩
        exact .inr ⟨_, kd, rfl, hpm3, (HNE.out.pmS hpm2 (fun b hb => by have := hb.1; omega)).mono (Nat.le_refl _) (fun b hb _ => ⟨by have := hb.1; omega, rfl⟩), HBAL.out, HSZ.out, HFN.out, HRQ.out⟩
      | some mm =>
       rw [hpw] at htl HPW
       dsimp only [optVal] at htl HPW
       have hpl := Env.pow_lt hpw
       have HKD := Lib.hid (Env.pow_kind hpw)
       have HTL := Lib.hid htl
       have HRQ := Lib.hid (show E.tailM at_ g (k + 2) (.mk 26 mm ⟨#[]⟩ Lt.zero [kd] at_) = R by have h := HRG.out; rw [Env.tailM, if_neg (by rw [bs]; decide), hpw] at h; exact h)
       clear hpw htl bs
       go_region_held3 (fun w' => w'.cell? ⟨w.heap.size, 0, none⟩ = some (.pointer (some ⟨bp, 0, none⟩)) ∧ w'.cell? ⟨bp, 15, none⟩ = some (.int .i64 (k : Int)))
        (first | go_keep | exact E0.out _ H8.out | exact E0.out _ (below_drewN (Below.refl _ _) _) | exact E0.out _ (Below.refl _ _).drew)
        (first | (go_at_call 58; (with_reducible refine (HPW.out _).mono ?_); rintro e w2 ⟨rfl, hb2⟩; have H8 := Lib.hid (show Below wr.heap.size wr w2 from ⟨hb2.os, hb2.tape, hb2.output, hb2.size, hb2.block⟩)) | fail)
       all_goals
        have hbb := H8.out
        have HM6 := Lib.hid (pm_below HM.out hbb)
        have HC6 := Lib.hid (blk_below HC.out hbb (blk_lt HC.out))
        have HR6 := Lib.hid (blk_below HR.out hbb (blk_lt HR.out))
        have HF6 := Lib.hid (blk_below HFB.out hbb (blk_lt HFB.out))
        have HN6 := Lib.hid (HN.out.below hbb)
        have hs6 : wr.heap.size ≤ w2.heap.size := hbb.size
        clear hb2 hbb y0 yf0 y1 yf1 y2 yf2 y3 yf3 y4 yf4 y5 yf5 y6 yf6 c0 c15 c1 c14
        have y0 := blk_cell HF6.out 0
        have yf0 := blk_frozen HF6.out 0
        have y1 := blk_cell HF6.out 1
        have yf1 := blk_frozen HF6.out 1
        have y2 := blk_cell HF6.out 2
        have yf2 := blk_frozen HF6.out 2
        have y3 := blk_cell HF6.out 3
        have yf3 := blk_frozen HF6.out 3
        have y4 := blk_cell HF6.out 4
        have yf4 := blk_frozen HF6.out 4
        have y5 := blk_cell HF6.out 5
        have yf5 := blk_frozen HF6.out 5
        have y6 := blk_cell HF6.out 6
        have yf6 := blk_frozen HF6.out 6
        have c0 := blk_cell HC6.out 0
        have c15 := blk_cell HM6.out.2 15
        have f15 := blk_frozen HM6.out.2 15
        have hb6 := blk_lt HM6.out.2
        have hc6 := blk_lt HC6.out
        have hbl6 := blk_lt HF6.out
        obtain ⟨k2, hk2⟩ : ∃ k2, k + 2 = k2 := ⟨_, rfl⟩
        have hwk : IntKind.i64.wrap ((k : Int) + 2) = (k2 : Int) := (wraps_i64 _ (by omega) (by omega)).trans (by omega)
        have HK2 := Lib.hid hk2
        clear hk2
        go_wp2_with fail
        have hz7 : ((sevenSet w2 w5.heap.size (.int .i64 26) (.int .i64 mm) (.string ⟨#[]⟩) (.slice none 0 0) (.slice none 0 0) (.slice (some ⟨w2.heap.size, 0, none⟩) 1 1) (.int .i64 at_)).setCell ⟨bp, 15, none⟩ (.int .i64 (k2 : Int))).heap.size = w2.heap.size := by simp [sevenSet, World.setCell]
        have HM7 := Lib.hid (pm_alloc (pm_place (pm_seven (B := w5.heap.size) HM6.out (by omega) hbp (.int .i64 26) (.int .i64 mm) (.string ⟨#[]⟩) (.slice none 0 0) (.slice none 0 0) (.slice (some ⟨w2.heap.size, 0, none⟩) 1 1) (.int .i64 at_)) k2) (.cells #[.int .i64 kd.kind, .int .i64 o, .string kd.name, .slice l.sA l.sn l.sc, .slice l.cA l.cn l.cc, .slice A kd.kids.length c, .int .i64 a] 39))
        have HC7 := Lib.hid (blk_alloc (blk_far (p := ⟨bp, 15, none⟩) ((seven_heap w2 w5.heap.size w.heap.size (by omega) (.int .i64 26) (.int .i64 mm) (.string ⟨#[]⟩) (.slice none 0 0) (.slice none 0 0) (.slice (some ⟨w2.heap.size, 0, none⟩) 1 1) (.int .i64 at_)).trans HC6.out) (by simp; omega) (.int .i64 (k2 : Int))) (.cells #[.int .i64 kd.kind, .int .i64 o, .string kd.name, .slice l.sA l.sn l.sc, .slice l.cA l.cn l.cc, .slice A kd.kids.length c, .int .i64 a] 39))
        have HR7 := Lib.hid (blk_alloc (blk_far (p := ⟨bp, 15, none⟩) ((seven_heap w2 w5.heap.size (w.heap.size + 1) (by omega) (.int .i64 26) (.int .i64 mm) (.string ⟨#[]⟩) (.slice none 0 0) (.slice none 0 0) (.slice (some ⟨w2.heap.size, 0, none⟩) 1 1) (.int .i64 at_)).trans HR6.out) (by simp; omega) (.int .i64 (k2 : Int))) (.cells #[.int .i64 kd.kind, .int .i64 o, .string kd.name, .slice l.sA l.sn l.sc, .slice l.cA l.cn l.cc, .slice A kd.kids.length c, .int .i64 a] 39))
        have HF7 := Lib.hid (blk_alloc (blk_far (p := ⟨bp, 15, none⟩) (seven_blk HF6.out (.int .i64 26) (.int .i64 mm) (.string ⟨#[]⟩) (.slice none 0 0) (.slice none 0 0) (.slice (some ⟨w2.heap.size, 0, none⟩) 1 1) (.int .i64 at_)) (by simp; omega) (.int .i64 (k2 : Int))) (.cells #[.int .i64 kd.kind, .int .i64 o, .string kd.name, .slice l.sA l.sn l.sc, .slice l.cA l.cn l.cc, .slice A kd.kids.length c, .int .i64 a] 39))
        have HN7 := Lib.hid (nd_row2 (S := fun b => w.heap.size + 1 < b ∧ b ≠ w5.heap.size) hz7 (fun b hb _ => (Below.heap_setCell _ _ _ b (by have := hb.1; simp; omega)).trans (seven_heap w2 w5.heap.size b hb.2 (.int .i64 26) (.int .i64 mm) (.string ⟨#[]⟩) (.slice none 0 0) (.slice none 0 0) (.slice (some ⟨w2.heap.size, 0, none⟩) 1 1) (.int .i64 at_))) (nds_one HN6.out rfl) ⟨by omega, by omega⟩ 26 mm ⟨#[]⟩ Lt.zero at_)
        unfold sevenSet at HM7 HC7 HR7 HF7 HN7
        obtain ⟨W7, hW7⟩ : ∃ W7, ((sevenSet w2 w5.heap.size (.int .i64 26) (.int .i64 mm) (.string ⟨#[]⟩) (.slice none 0 0) (.slice none 0 0) (.slice (some ⟨w2.heap.size, 0, none⟩) 1 1) (.int .i64 at_)).setCell ⟨bp, 15, none⟩ (.int .i64 (k2 : Int))).alloc (.cells #[.int .i64 kd.kind, .int .i64 o, .string kd.name, .slice l.sA l.sn l.sc, .slice l.cA l.cn l.cc, .slice A kd.kids.length c, .int .i64 a] 39) = W7 := ⟨_, rfl⟩
        unfold sevenSet at hW7
        rw [hW7] at HM7 HC7 HR7 HF7 HN7 ⊢
        clear hW7 hz7
        generalize w2.heap.size = B2 at *
        go_roundg g
        case rel =>
         have hk2 := HK2.out
         obtain ⟨t, u, ht1, ht2, hu1, hu2⟩ := HKD.out
         refine ⟨k2, .mk 26 mm ⟨#[]⟩ Lt.zero [kd] at_, mm, Lt.zero, some ⟨B2, 0, none⟩, 1, at_, by omega, by omega, by omega, by rw [← hk2]; exact HTL.out, HM7.out, HC7.out, HR7.out, HF7.out, HN7.out, ?_, ?_, (fun h => by cases h), by rw [← hk2]; exact HRQ.out⟩
         ·rw [← hk2]
          exact HBAL.out.trans (.word t ht1 (by rw [ht2]; decide) (by rw [ht2]; decide) (Bal.one hu1 (by rw [hu2]; decide) (by rw [hu2]; decide)))
         ·have := HSZ.out
          simp only [Nd.size, sizes]
          omega
        case measure => exact Nat.lt_succ_self g
     ·rw [bs] at htl HSG
      rw [if_pos rfl] at htl
      have hkl := Env.sign_lt bs
      obtain ⟨t, tb, toff, ht, hA, htk⟩ := HEN.out.tok hkl
      have k1 := htk.k1
      have htb := World.block_lt_of_cell? _ _ k1
      rw [hA] at c14
      have hj0 : (0 : Int) ≤ (k : Int) := by omega
      have hj1 : (k : Int) < (E.L.length : Int) := by omega
      have HKD := Lib.hid (Env.sign_kind bs)
      have HTL := Lib.hid htl
      have HRQ := Lib.hid (show E.tailM at_ g (k + 1) (.mk 24 0 t.text Lt.zero [kd] at_) = R by have h := HRG.out; rw [Env.tailM, if_pos bs, show E.text k = t.text by rw [Env.text, ht]] at h; exact h)
      clear ht hA htk bs htl
      generalize t.text = tx at *
      go_wp2_with fail
      go_quiet ((go_at_call 55; exact Calls.quiet_of_same (HSG.out _)))
      have HM3 := Lib.hid (pm_drewN HM.out nq)
      have HC3 := Lib.hid (show (wr.drewN nq).heap[w.heap.size]? = _ from HC.out)
      have HR3 := Lib.hid (show (wr.drewN nq).heap[w.heap.size + 1]? = _ from HR.out)
      have HFB3 := Lib.hid (show (wr.drewN nq).heap[w5.heap.size]? = _ from HFB.out)
      have HN3 := Lib.hid (HN.out.below (below_drewN (Below.refl _ _) nq))
      have hk1w : (wr.drewN nq).cell? ⟨tb, toff + k * 5 + 1, none⟩ = some (.string tx) := k1
      have hc14w : (wr.drewN nq).cell? ⟨bp, 14, none⟩ = some (.slice (some ⟨tb, toff, none⟩) E.L.length E.lc) := c14
      have htb3 : tb < (wr.drewN nq).heap.size := htb
      obtain ⟨W3, hW3⟩ : ∃ W3, wr.drewN nq = W3 := ⟨_, rfl⟩
      rw [hW3] at HM3 HC3 HR3 HFB3 HN3 hk1w hc14w htb3 ⊢
      clear hW3 HM HC HR HFB HN c0 c15 c1 c14 hbl hwl hb0 hbpl HSG HPW HEN y0 yf0 y1 yf1 y2 yf2 y3 yf3 y4 yf4 y5 yf5 y6 yf6 k1 htb
      have c0 := blk_cell HC3.out 0
      have c15 := blk_cell HM3.out.2 15
      have hbl := blk_lt HFB3.out
      have hwl := blk_lt HR3.out
      have hb0 := blk_lt HC3.out
      have hbpl := blk_lt HM3.out.2
      have y0 := blk_cell HFB3.out 0
      have yf0 := blk_frozen HFB3.out 0
      have y1 := blk_cell HFB3.out 1
      have yf1 := blk_frozen HFB3.out 1
      have y2 := blk_cell HFB3.out 2
      have yf2 := blk_frozen HFB3.out 2
      have y3 := blk_cell HFB3.out 3
      have yf3 := blk_frozen HFB3.out 3
      have y4 := blk_cell HFB3.out 4
      have yf4 := blk_frozen HFB3.out 4
      have y5 := blk_cell HFB3.out 5
      have yf5 := blk_frozen HFB3.out 5
      have y6 := blk_cell HFB3.out 6
      have yf6 := blk_frozen HFB3.out 6
      go_wp2_with fail
      refine wp_region_noPanic ?_
      go_region
      all_goals
       refine NoPanic.normal ?_
       have HM5 := Lib.hid (pm_drew (pm_alloc (pm_seven (B := w5.heap.size) HM3.out (by omega) hbp (.int .i64 24) (.int .i64 0) (.string tx) (.slice none 0 0) (.slice none 0 0) (.slice (some ⟨W3.heap.size, 0, none⟩) 1 1) (.int .i64 at_)) (.cells #[.int .i64 kd.kind, .int .i64 o, .string kd.name, .slice l.sA l.sn l.sc, .slice l.cA l.cn l.cc, .slice A kd.kids.length c, .int .i64 a] 39)))
       have HC5' := Lib.hid (blk_drew (blk_alloc ((seven_heap W3 w5.heap.size w.heap.size (by omega) (.int .i64 24) (.int .i64 0) (.string tx) (.slice none 0 0) (.slice none 0 0) (.slice (some ⟨W3.heap.size, 0, none⟩) 1 1) (.int .i64 at_)).trans HC3.out) (.cells #[.int .i64 kd.kind, .int .i64 o, .string kd.name, .slice l.sA l.sn l.sc, .slice l.cA l.cn l.cc, .slice A kd.kids.length c, .int .i64 a] 39)))
       have HR5' := Lib.hid (blk_drew (blk_alloc ((seven_heap W3 w5.heap.size (w.heap.size + 1) (by omega) (.int .i64 24) (.int .i64 0) (.string tx) (.slice none 0 0) (.slice none 0 0) (.slice (some ⟨W3.heap.size, 0, none⟩) 1 1) (.int .i64 at_)).trans HR3.out) (.cells #[.int .i64 kd.kind, .int .i64 o, .string kd.name, .slice l.sA l.sn l.sc, .slice l.cA l.cn l.cc, .slice A kd.kids.length c, .int .i64 a] 39)))
       have HF5' := Lib.hid (blk_drew (blk_alloc (seven_blk HFB3.out (.int .i64 24) (.int .i64 0) (.string tx) (.slice none 0 0) (.slice none 0 0) (.slice (some ⟨W3.heap.size, 0, none⟩) 1 1) (.int .i64 at_)) (.cells #[.int .i64 kd.kind, .int .i64 o, .string kd.name, .slice l.sA l.sn l.sc, .slice l.cA l.cn l.cc, .slice A kd.kids.length c, .int .i64 a] 39)))
       have HN5' := Lib.hid ((nd_row (S := fun b => w.heap.size + 1 < b ∧ b ≠ w5.heap.size) (B0 := w5.heap.size) (fun b hb => hb.2) (nds_one HN3.out rfl) ⟨by omega, by omega⟩ (.int .i64 24) (.int .i64 0) (.string tx) (.slice none 0 0) (.slice none 0 0) (.slice (some ⟨W3.heap.size, 0, none⟩) 1 1) (.int .i64 at_) 24 0 tx Lt.zero at_).below (Below.refl _ _).drew)
       unfold sevenSet at HM5 HC5' HR5' HF5' HN5'
       obtain ⟨W5, hW5⟩ : ∃ W5, ((sevenSet W3 w5.heap.size (.int .i64 24) (.int .i64 0) (.string tx) (.slice none 0 0) (.slice none 0 0) (.slice (some ⟨W3.heap.size, 0, none⟩) 1 1) (.int .i64 at_)).alloc (.cells #[.int .i64 kd.kind, .int .i64 o, .string kd.name, .slice l.sA l.sn l.sc, .slice l.cA l.cn l.cc, .slice A kd.kids.length c, .int .i64 a] 39)).drew = W5 := ⟨_, rfl⟩
       unfold sevenSet at hW5
       rw [hW5] at HM5 HC5' HR5' HF5' HN5' ⊢
       clear hW5 y0 yf0 y1 yf1 y2 yf2 y3 yf3 y4 yf4 y5 yf5 y6 yf6 c0 c15 hbl hwl hb0 hbpl hk1w hc14w htb3 HM3 HC3 HR3 HFB3 HN3
       generalize W3.heap.size = B3 at *
       have c0 := blk_cell HC5'.out 0
       have c15 := blk_cell HM5.out.2 15
       have f15 := blk_frozen HM5.out.2 15
       obtain ⟨k1, hk1⟩ : ∃ k1, k + 1 = k1 := ⟨_, rfl⟩
       have hwk : IntKind.i64.wrap ((k : Int) + 1) = (k1 : Int) := (wraps_i64 _ (by omega) (by omega)).trans (by omega)
       have HK1 := Lib.hid hk1
       clear hk1
       go_wp2_with fail
       go_roundg g
       case rel =>
        have hk1 := HK1.out
        obtain ⟨t, ht1, ht2⟩ := HKD.out
        refine ⟨k1, .mk 24 0 tx Lt.zero [kd] at_, 0, Lt.zero, some ⟨B3, 0, none⟩, 1, at_, by omega, by omega, by omega, by rw [← hk1]; exact HTL.out, pm_place HM5.out k1, blk_far HC5'.out (by simp; omega) _, blk_far HR5'.out (by simp; omega) _, blk_far HF5'.out (by simp; omega) _, HN5'.out.pmS (pm_place (pm_refl HM5.out.2) k1) (fun b hb => by have := hb.1; omega), ?_, ?_, (fun _ => Nat.one_pos), by rw [← hk1]; exact HRQ.out⟩
        ·rw [← hk1]; exact HBAL.out.trans (Bal.one ht1 (by rw [ht2]; decide) (by rw [ht2]; decide))
        ·have := HSZ.out
         simp only [Nd.size, sizes]
         omega
       case measure => exact Nat.lt_succ_self g
 ·obtain ⟨hdeep, rfl, hpm⟩ := ht
  go_wp2
  show FunPost E bp R i j d n w (.panicked (faultChain 15 (E.here i))) w1
  exact .inl ⟨15, i, i, d + 1, n, HRM.out.symm.trans (Env.F_deep hdeep i b _), rfl, pm_step HM0.out hpm⟩
end Go.Proofs.Ytollglblkbjgjaa
