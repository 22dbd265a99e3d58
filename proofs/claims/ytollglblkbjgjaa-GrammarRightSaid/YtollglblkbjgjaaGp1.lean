/- Contract of operand where it begins at a number or a text. Conditions: the parser's block; what it calls keeps its word. -/
import Derived.Test.YtollglblkbjgjaaGp0
namespace Go.Proofs.Ytollglblkbjgjaa
open Go.RowKit

set_option maxRecDepth 100000 in
set_option maxHeartbeats 16000000 in
theorem operand_lit (E : Env) (bp : Nat) (D : Int) (hX : ExprAt E bp D) (i : Nat) (n : Int) (w : World) (hS : Sits E bp w) (hn0 : 0 ≤ n) (hn : n ≤ 76 + D) (hp : w.heap[bp]? = some (pcell E i D n)) (t0 : Tok) (ht0 : E.L[i]? = some t0) (hk : t0.kind = 1 ∨ t0.kind = 2) (R : Res Nd) (hRM : E.idxM (fun k => E.X D k (decide (0 < n))) t0.at_ (E.L.length + 1) (i + 1) (.mk 1 0 ⟨#[]⟩ t0.lit [] t0.at_) = R) :
  Calls Try.prog 34 #[.pointer (some ⟨bp, 0, none⟩)] w (OpPost E bp R i D n w) := by
 have HRM := Lib.hid hRM
 clear hRM
 have hln := hS.env.ln
 have hbp := blk_lt hp
 have HX := Lib.hid hX
 have HM1 := Lib.hid (pm_alloc (pm_refl hp) (.cells #[.int .i64 0, .int .i64 0, .string ⟨#[]⟩, .slice none 0 0, .slice none 0 0, .slice none 0 0, .int .i64 0] 39))
 have HR1 := Lib.hid (blk_new w (.cells #[.int .i64 0, .int .i64 0, .string ⟨#[]⟩, .slice none 0 0, .slice none 0 0, .slice none 0 0, .int .i64 0] 39))
 have HS := Lib.hid hS
 clear hX hS hp
 obtain ⟨W1, hW1⟩ : ∃ W1, w.alloc (.cells #[.int .i64 0, .int .i64 0, .string ⟨#[]⟩, .slice none 0 0, .slice none 0 0, .slice none 0 0, .int .i64 0] 39) = W1 := ⟨_, rfl⟩
 rw [hW1] at HM1 HR1
 have c14 := blk_cell HM1.out.2 14
 have c15 := blk_cell HM1.out.2 15
 have hs1 : w.heap.size < W1.heap.size := blk_lt HR1.out
 have hlt : i < E.L.length := (List.getElem?_eq_some_iff.1 ht0).1
 obtain ⟨t, tb, toff, ht, hA, htk⟩ := (HS.out.pm HM1.out).env.tok hlt
 obtain rfl : t0 = t := by rw [ht] at ht0; exact (Option.some.inj ht0).symm
 have k0 := htk.k0
 have k1 := htk.k1
 have k2 := htk.k2
 have k3 := htk.k3
 have k4 := htk.k4
 have htb := World.block_lt_of_cell? _ _ k0
 rw [hA] at c14
 have hj0 : (0 : Int) ≤ (i : Int) := by omega
 have hj1 : (i : Int) < (E.L.length : Int) := by omega
 have d1 : decide ((E.L.length : Int) ≤ (i : Int)) = false := decide_eq_false (by omega)
 have d1' : decide (E.L.length ≤ i) = false := decide_eq_false (by omega)
 have HT := Lib.hid ht
 have hbp1 := blk_lt HM1.out.2
 clear hA htk ht ht0
 obtain ⟨tk, htk⟩ : ∃ x, t0.kind = x := ⟨_, rfl⟩
 obtain ⟨tx, htx⟩ : ∃ x, t0.text = x := ⟨_, rfl⟩
 obtain ⟨tl, htl⟩ : ∃ x, t0.lit = x := ⟨_, rfl⟩
 obtain ⟨ta, hta⟩ : ∃ x, t0.at_ = x := ⟨_, rfl⟩
 rw [htk] at k0 hk
 have HK0 := Lib.hid hk
 clear hk
 rw [htx] at k1
 rw [htl] at k2 k3
 rw [hta] at k4
 have HTx := Lib.hid htk
 have HTX := Lib.hid htx
 have HTL := Lib.hid htl
 have HTA := Lib.hid hta
 clear htk htx htl hta
 go_enter Try.func34, Try.ntmps34
 go_wp2_with fail
 clear hW1
 go_quiet (fail)
 go_wp2_with fail
 have HM2 := Lib.hid (pm_drewN HM1.out nq)
 have HR2 := Lib.hid (show (W1.drewN nq).heap[w.heap.size]? = _ from HR1.out)
 replace c14 : (W1.drewN nq).cell? ⟨bp, 14, none⟩ = _ := c14
 replace c15 : (W1.drewN nq).cell? ⟨bp, 15, none⟩ = _ := c15
 replace k0 : (W1.drewN nq).cell? _ = _ := k0
 replace k1 : (W1.drewN nq).cell? _ = _ := k1
 replace k2 : (W1.drewN nq).cell? _ = _ := k2
 replace k3 : (W1.drewN nq).cell? _ = _ := k3
 replace k4 : (W1.drewN nq).cell? _ = _ := k4
 replace htb : _ < (W1.drewN nq).heap.size := htb
 replace hs1 : w.heap.size < (W1.drewN nq).heap.size := hs1
 replace hbp1 : bp < (W1.drewN nq).heap.size := hbp1
 obtain ⟨W2, hW2⟩ : ∃ W2, W1.drewN nq = W2 := ⟨_, rfl⟩
 rw [hW2] at HM2 HR2 c14 c15 k0 k1 k2 k3 k4 htb hs1 hbp1 ⊢
 clear hW2
 have xf0 := blk_frozen HR2.out 0
 have xf1 := blk_frozen HR2.out 1
 have xf2 := blk_frozen HR2.out 2
 have xf3 := blk_frozen HR2.out 3
 have xf4 := blk_frozen HR2.out 4
 have xf5 := blk_frozen HR2.out 5
 have xf6 := blk_frozen HR2.out 6
 have x0 := blk_cell HR2.out 0
 have x1 := blk_cell HR2.out 1
 have x2 := blk_cell HR2.out 2
 have x3 := blk_cell HR2.out 3
 have x4 := blk_cell HR2.out 4
 have x5 := blk_cell HR2.out 5
 have x6 := blk_cell HR2.out 6
 go_wp2_with fail
 go_region
 all_goals
  have HM3 := Lib.hid (pm_drew (pm_alloc HM2.out (.cells #[.int .i64 tk, .string tx, .slice tl.sA tl.sn tl.sc, .slice tl.cA tl.cn tl.cc, .int .i64 ta] 43)))
  have HR3 := Lib.hid (blk_drew (blk_alloc HR2.out (.cells #[.int .i64 tk, .string tx, .slice tl.sA tl.sn tl.sc, .slice tl.cA tl.cn tl.cc, .int .i64 ta] 43)))
  have HT3 := Lib.hid (blk_drew (blk_new W2 (.cells #[.int .i64 tk, .string tx, .slice tl.sA tl.sn tl.sc, .slice tl.cA tl.cn tl.cc, .int .i64 ta] 43)))
  obtain ⟨W3, hW3⟩ : ∃ W3, (W2.alloc (.cells #[.int .i64 tk, .string tx, .slice tl.sA tl.sn tl.sc, .slice tl.cA tl.cn tl.cc, .int .i64 ta] 43)).drew = W3 := ⟨_, rfl⟩
  rw [hW3] at HM3 HR3 HT3 ⊢
  clear hW3 c14 c15 k0 k1 k2 k3 k4 xf0 xf1 xf2 xf3 xf4 xf5 xf6 x0 x1 x2 x3 x4 x5 x6 htb hbp1
  generalize W2.heap.size = bT at *
  have hbT := blk_lt HT3.out
  have h0 := blk_cell HT3.out 0
  have h1 := blk_cell HT3.out 1
  have h2 := blk_cell HT3.out 2
  have h3 := blk_cell HT3.out 3
  have h4 := blk_cell HT3.out 4
  have hws3 : w.heap.size < W3.heap.size := blk_lt HR3.out
  have hbp3 := blk_lt HM3.out.2
  have c15 := blk_cell HM3.out.2 15
  have c18 := blk_cell HM3.out.2 18
  have hk := HK0.out
  rcases hk with hk | hk
  ·obtain rfl := hk
   go_wp2_with fail
   go_region
   all_goals
    have HM4 := Lib.hid (pm_drew (pm_alloc HM3.out (.cells #[.int .i64 1, .int .i64 0, .string ⟨#[]⟩, .slice tl.sA tl.sn tl.sc, .slice tl.cA tl.cn tl.cc, .slice none 0 0, .int .i64 ta] 39)))
    have HR4 := Lib.hid (blk_drew (blk_alloc HR3.out (.cells #[.int .i64 1, .int .i64 0, .string ⟨#[]⟩, .slice tl.sA tl.sn tl.sc, .slice tl.cA tl.cn tl.cc, .slice none 0 0, .int .i64 ta] 39)))
    have HT4 := Lib.hid (blk_drew (blk_alloc HT3.out (.cells #[.int .i64 1, .int .i64 0, .string ⟨#[]⟩, .slice tl.sA tl.sn tl.sc, .slice tl.cA tl.cn tl.cc, .slice none 0 0, .int .i64 ta] 39)))
    have HN4 := Lib.hid (blk_drew (blk_new W3 (.cells #[.int .i64 1, .int .i64 0, .string ⟨#[]⟩, .slice tl.sA tl.sn tl.sc, .slice tl.cA tl.cn tl.cc, .slice none 0 0, .int .i64 ta] 39)))
    obtain ⟨W4, hW4⟩ : ∃ W4, (W3.alloc (.cells #[.int .i64 1, .int .i64 0, .string ⟨#[]⟩, .slice tl.sA tl.sn tl.sc, .slice tl.cA tl.cn tl.cc, .slice none 0 0, .int .i64 ta] 39)).drew = W4 := ⟨_, rfl⟩
    rw [hW4] at HM4 HR4 HT4 HN4 ⊢
    clear hW4 c15 c18 h0 h1 h2 h3 h4 hbp3
    generalize W3.heap.size = bN at *
    have c15 := blk_cell HM4.out.2 15
    have f15 := blk_frozen HM4.out.2 15
    obtain ⟨i1, hi1⟩ : ∃ i1, i + 1 = i1 := ⟨_, rfl⟩
    have hwi : IntKind.i64.wrap ((i : Int) + 1) = (i1 : Int) := (wraps_i64 _ (by omega) (by omega)).trans (by omega)
    have HM5 := Lib.hid (pm_place HM4.out i1)
    have HR5 := Lib.hid (blk_far (p := ⟨bp, 15, none⟩) HR4.out (by simp; omega) (.int .i64 (i1 : Int)))
    have HT5 := Lib.hid (blk_far (p := ⟨bp, 15, none⟩) HT4.out (by simp; omega) (.int .i64 (i1 : Int)))
    have HN5 := Lib.hid (blk_far (p := ⟨bp, 15, none⟩) HN4.out (by simp; omega) (.int .i64 (i1 : Int)))
    obtain ⟨W5, hW5⟩ : ∃ W5, W4.setCell ⟨bp, 15, none⟩ (.int .i64 (i1 : Int)) = W5 := ⟨_, rfl⟩
    rw [hW5] at HM5 HR5 HT5 HN5
    have HRI := Lib.hid (show E.idxM (fun k => E.X D k (decide (0 < n))) ta (E.L.length + 1) i1 (.mk 1 0 ⟨#[]⟩ tl [] ta) = R by rw [← hi1, ← HTL.out, ← HTA.out]; exact HRM.out)
    have HK := Lib.hid (⟨.mk 1 0 ⟨#[]⟩ tl [] ta, 0, tl, none, 0, ta, rfl, nd_leaf _ _ _ _ _ _ _, (by simp only [Nd.size, sizes]; omega), .inr ⟨i, t0, HT.out, HTL.out.symm⟩, HRI.out⟩ : ∃ (kd : Nd) (o : Int) (l : Lt) (A : Option Addr) (c : Nat) (a : Int), (#[.int .i64 1, .int .i64 0, .string ⟨#[]⟩, .slice tl.sA tl.sn tl.sc, .slice tl.cA tl.cn tl.cc, .slice none 0 0, .int .i64 ta] : Array Value) = #[.int .i64 kd.kind, .int .i64 o, .string kd.name, .slice l.sA l.sn l.sc, .slice l.cA l.cn l.cc, .slice A kd.kids.length c, .int .i64 a] ∧ NdAt (fun b => w.heap.size < b ∧ b ≠ bN) W5 (.agg #[.int .i64 kd.kind, .int .i64 o, .string kd.name, .slice l.sA l.sn l.sc, .slice l.cA l.cn l.cc, .slice A kd.kids.length c, .int .i64 a]) kd ∧ kd.size + 1 ≤ 2 * (i1 - i) ∧ LitOK E kd ∧ E.idxM (fun k => E.X D k (decide (0 < n))) ta (E.L.length + 1) i1 kd = R)
    have HB := Lib.hid (show Bal E.L i i1 from by rw [← hi1]; exact Bal.one HT.out (by rw [HTx.out]; omega) (by rw [HTx.out]; omega))
    have hi1l : i1 ≤ E.L.length := by omega
    have hii : i < i1 := by omega
    go_wp2_with fail
    go_loopg [5] (E.L.length + 1) (fun g lv wr => OLoop E bp R D n i w bT bN ta g wr)
    case atStart =>
     obtain ⟨kd, o, l, A, c, a, hagg, hna, hsz, hlit, hri⟩ := HK.out
     exact ⟨i1, kd, o, l, A, c, a, _, _, _, _, hii, hi1l, by omega, HM5.out, HR5.out, HT5.out, hagg ▸ HN5.out, hna, HB.out, hsz, hlit, hri⟩
    case round =>
     obtain ⟨k, kd, o, l, A, c, a, z0, z1, z2, z3, hik, hk, hg, hm, hres, htk, hnd, hna, hbal, hsz, hlit, hrt⟩ := hrel
     have HM := Lib.hid hm
     have HRR := Lib.hid hres
     have HTR := Lib.hid htk
     have HRN := Lib.hid hnd
     have HNA := Lib.hid hna
     have HBAL := Lib.hid hbal
     have HSZ := Lib.hid hsz
     have HLIT := Lib.hid hlit
     have HRG := Lib.hid hrt
     clear hrt
     have HI := Lib.hid (is_any E bp k D n k 5 ⟨#[91]⟩ wr (HS.out.pm hm).env hm.2)
     have c13 := blk_cell hm.2 13
     have c15 := blk_cell hm.2 15
     have f15 := blk_frozen hm.2 15
     have hbw := blk_lt hm.2
     have hwsr : w.heap.size < wr.heap.size := blk_lt hres
     have hbTr : bT < wr.heap.size := blk_lt htk
     have hbNr : bN < wr.heap.size := blk_lt hnd
     clear hm hres htk hnd hna hbal hsz hlit HM5 HR5 HT5 HN5 HM4 HR4 HT4 HN4 HK HB
     cases hsq : E.square
     ·rw [hsq] at c13
      have hxr := blk_lt HRR.out
      have x0 := blk_cell HRR.out 0
      have xf0 := blk_frozen HRR.out 0
      have x1 := blk_cell HRR.out 1
      have xf1 := blk_frozen HRR.out 1
      have x2 := blk_cell HRR.out 2
      have xf2 := blk_frozen HRR.out 2
      have x3 := blk_cell HRR.out 3
      have xf3 := blk_frozen HRR.out 3
      have x4 := blk_cell HRR.out 4
      have xf4 := blk_frozen HRR.out 4
      have x5 := blk_cell HRR.out 5
      have xf5 := blk_frozen HRR.out 5
      have x6 := blk_cell HRR.out 6
      have xf6 := blk_frozen HRR.out 6
      have n0 := blk_cell HRN.out 0
      have n1 := blk_cell HRN.out 1
      have n2 := blk_cell HRN.out 2
      have n3 := blk_cell HRN.out 3
      have n4 := blk_cell HRN.out 4
      have n5 := blk_cell HRN.out 5
      have n6 := blk_cell HRN.out 6
      go_wp2_with fail
      obtain ⟨q0, q1, q2, q3, q4, q5, q6⟩ := seven_cells HRR.out (.int .i64 kd.kind) (.int .i64 o) (.string kd.name) (.slice l.sA l.sn l.sc) (.slice l.cA l.cn l.cc) (.slice A kd.kids.length c) (.int .i64 a)
      unfold sevenSet at q0 q1 q2 q3 q4 q5 q6
      refine bodyPost_ret (v := .agg #[.int .i64 kd.kind, .int .i64 o, .string kd.name, .slice l.sA l.sn l.sc, .slice l.cA l.cn l.cc, .slice A kd.kids.length c, .int .i64 a]) (by simp [results, Try.results34, go_sem, q0, q1, q2, q3, q4, q5, q6]) rfl ?_
      exact .inr ⟨k, _, kd, rfl, pm_seven HM.out (Nat.le_refl _) hbp _ _ _ _ _ _ _, (nd_set HNA.out (fun b hS => by have := hS.1; omega) _ _ _ _ _ _ _).mono (Nat.le_refl _) (fun b hS _ => ⟨Nat.le_of_lt hS.1, rfl⟩), hik, hk, HBAL.out, HSZ.out, HLIT.out, HRG.out.symm.trans (idxM_stop (by omega) (by rw [hsq]; rfl))⟩
     ·rw [hsq] at c13
      cases bi : E.is k 5 ⟨#[91]⟩
      ·rw [bi] at HI
       go_wp2_with fail
       refine HI.out.mono ?_
       rintro e w1 ⟨rfl, hww⟩
       obtain rfl : wr = w1 := hww.symm
       have hxr := blk_lt HRR.out
       have x0 := blk_cell HRR.out 0
       have xf0 := blk_frozen HRR.out 0
       have x1 := blk_cell HRR.out 1
       have xf1 := blk_frozen HRR.out 1
       have x2 := blk_cell HRR.out 2
       have xf2 := blk_frozen HRR.out 2
       have x3 := blk_cell HRR.out 3
       have xf3 := blk_frozen HRR.out 3
       have x4 := blk_cell HRR.out 4
       have xf4 := blk_frozen HRR.out 4
       have x5 := blk_cell HRR.out 5
       have xf5 := blk_frozen HRR.out 5
       have x6 := blk_cell HRR.out 6
       have xf6 := blk_frozen HRR.out 6
       have n0 := blk_cell HRN.out 0
       have n1 := blk_cell HRN.out 1
       have n2 := blk_cell HRN.out 2
       have n3 := blk_cell HRN.out 3
       have n4 := blk_cell HRN.out 4
       have n5 := blk_cell HRN.out 5
       have n6 := blk_cell HRN.out 6
       go_wp2_with fail
       obtain ⟨q0, q1, q2, q3, q4, q5, q6⟩ := seven_cells HRR.out (.int .i64 kd.kind) (.int .i64 o) (.string kd.name) (.slice l.sA l.sn l.sc) (.slice l.cA l.cn l.cc) (.slice A kd.kids.length c) (.int .i64 a)
       unfold sevenSet at q0 q1 q2 q3 q4 q5 q6
       refine bodyPost_ret (v := .agg #[.int .i64 kd.kind, .int .i64 o, .string kd.name, .slice l.sA l.sn l.sc, .slice l.cA l.cn l.cc, .slice A kd.kids.length c, .int .i64 a]) (by simp [results, Try.results34, go_sem, q0, q1, q2, q3, q4, q5, q6]) rfl ?_
       exact .inr ⟨k, _, kd, rfl, pm_seven HM.out (Nat.le_refl _) hbp _ _ _ _ _ _ _, (nd_set HNA.out (fun b hS => by have := hS.1; omega) _ _ _ _ _ _ _).mono (Nat.le_refl _) (fun b hS _ => ⟨Nat.le_of_lt hS.1, rfl⟩), hik, hk, HBAL.out, HSZ.out, HLIT.out, HRG.out.symm.trans (idxM_stop (by omega) (by rw [hsq, bi]; rfl))⟩
      ·rw [bi] at HI
       have hkl := Env.is_lt bi
       obtain ⟨g, rfl⟩ : ∃ g, gk = g + 1 := ⟨gk - 1, by omega⟩
       have HKT := Lib.hid (Env.is_kind bi)
       obtain ⟨k1, hk1⟩ : ∃ k1, k + 1 = k1 := ⟨_, rfl⟩
       have hwk : IntKind.i64.wrap ((k : Int) + 1) = (k1 : Int) := (wraps_i64 _ (by omega) (by omega)).trans (by omega)
       have HM6 := Lib.hid (pm_place HM.out k1)
       have HR6 := Lib.hid (blk_far (p := ⟨bp, 15, none⟩) HRR.out (by simp; omega) (.int .i64 (k1 : Int)))
       have HT6 := Lib.hid (blk_far (p := ⟨bp, 15, none⟩) HTR.out (by simp; omega) (.int .i64 (k1 : Int)))
       have HN6 := Lib.hid (blk_far (p := ⟨bp, 15, none⟩) HRN.out (by simp; omega) (.int .i64 (k1 : Int)))
       have HNA6 := Lib.hid (HNA.out.mono (T := fun b => w.heap.size < b ∧ b ≠ bN) (w' := wr.setCell ⟨bp, 15, none⟩ (.int .i64 (k1 : Int))) (by simp [World.setCell]) (fun b hS _ => ⟨hS, Below.heap_setCell wr _ _ b (by have := hS.1; simp; omega)⟩))
       obtain ⟨W6, hW6⟩ : ∃ W6, wr.setCell ⟨bp, 15, none⟩ (.int .i64 (k1 : Int)) = W6 := ⟨_, rfl⟩
       rw [hW6] at HM6 HR6 HT6 HN6 HNA6
       have HRQ := Lib.hid (show (E.X D k1 (decide (0 < n))).bind (fun x j => (if E.is j 6 ⟨#[93]⟩ = true then E.idxM (fun k => E.X D k (decide (0 < n))) ta g (j + 1) (.mk 8 0 ⟨#[]⟩ Lt.zero [kd, x] ta) else .bad 2 j)) = R by have h := HRG.out; rw [Env.idxM, if_pos (by rw [hsq, bi]; rfl), hk1] at h; exact h)
       clear bi
       have hk1l : k1 ≤ E.L.length := by omega
       go_wp2_with fail
       refine HI.out.mono ?_
       rintro e w1 ⟨rfl, hww⟩
       obtain rfl : wr = w1 := hww.symm
       go_wp2_with fail
       refine (HX.out k1 n W6 (HS.out.pm HM6.out) hk1l hn0 hn HM6.out.2).mono ?_
       rintro e w2 (ht | ⟨j, v, ke, rfl, hm2, hna2, hj0, hj1, hbal2, hsz2, hlit2, hres2⟩)
       ·obtain ⟨er, ix, p', d', n', hrb, rfl, hpm⟩ := ht
        go_wp2
        exact ⟨rfl, .inl ⟨er, ix, p', d', n', by rw [← HRQ.out, hrb]; rfl, rfl, pm_step HM6.out hpm⟩⟩
       ·obtain ⟨o2, l2, A2, c2, a2, vs2, rfl, -, -, -, -⟩ := hna2.form
        have hb6 : w.heap.size < W6.heap.size := blk_lt HR6.out
        have hbT6 : bT < W6.heap.size := blk_lt HT6.out
        have hbN6 : bN < W6.heap.size := blk_lt HN6.out
        have HM7 := Lib.hid (pm_alloc (pm_step HM6.out hm2) (.cells #[.int .i64 ke.kind, .int .i64 o2, .string ke.name, .slice l2.sA l2.sn l2.sc, .slice l2.cA l2.cn l2.cc, .slice A2 ke.kids.length c2, .int .i64 a2] 39))
        have HR7 := Lib.hid (blk_alloc (blk_pm HR6.out hm2 (by omega)) (.cells #[.int .i64 ke.kind, .int .i64 o2, .string ke.name, .slice l2.sA l2.sn l2.sc, .slice l2.cA l2.cn l2.cc, .slice A2 ke.kids.length c2, .int .i64 a2] 39))
        have HT7 := Lib.hid (blk_alloc (blk_pm HT6.out hm2 (by omega)) (.cells #[.int .i64 ke.kind, .int .i64 o2, .string ke.name, .slice l2.sA l2.sn l2.sc, .slice l2.cA l2.cn l2.cc, .slice A2 ke.kids.length c2, .int .i64 a2] 39))
        have HN7 := Lib.hid (blk_alloc (blk_pm HN6.out hm2 (by omega)) (.cells #[.int .i64 ke.kind, .int .i64 o2, .string ke.name, .slice l2.sA l2.sn l2.sc, .slice l2.cA l2.cn l2.cc, .slice A2 ke.kids.length c2, .int .i64 a2] 39))
        have HE7 := Lib.hid (blk_new w2 (.cells #[.int .i64 ke.kind, .int .i64 o2, .string ke.name, .slice l2.sA l2.sn l2.sc, .slice l2.cA l2.cn l2.cc, .slice A2 ke.kids.length c2, .int .i64 a2] 39))
        have HNA7 := Lib.hid ((HNA6.out.pmS hm2 (by intro b hb; have := hb.1; omega)).below ((Below.refl _ w2).alloc (Nat.le_refl _) (.cells #[.int .i64 ke.kind, .int .i64 o2, .string ke.name, .slice l2.sA l2.sn l2.sc, .slice l2.cA l2.cn l2.cc, .slice A2 ke.kids.length c2, .int .i64 a2] 39)))
        have HNE7 := Lib.hid (hna2.below ((Below.refl _ w2).alloc (Nat.le_refl _) (.cells #[.int .i64 ke.kind, .int .i64 o2, .string ke.name, .slice l2.sA l2.sn l2.sc, .slice l2.cA l2.cn l2.cc, .slice A2 ke.kids.length c2, .int .i64 a2] 39)))
        have hs2 : W6.heap.size ≤ w2.heap.size := hm2.1.size
        obtain ⟨W7, hW7⟩ : ∃ W7, w2.alloc (.cells #[.int .i64 ke.kind, .int .i64 o2, .string ke.name, .slice l2.sA l2.sn l2.sc, .slice l2.cA l2.cn l2.cc, .slice A2 ke.kids.length c2, .int .i64 a2] 39) = W7 := ⟨_, rfl⟩
        have hb7 : w2.heap.size < W7.heap.size := by rw [← hW7]; exact Nat.lt_of_lt_of_eq (Nat.lt_succ_self _) (Array.size_push _).symm
        rw [hW7] at HM7 HR7 HT7 HN7 HE7 HNA7 HNE7
        have HB2 := Lib.hid hbal2
        have HSZ2 := Lib.hid hsz2
        have HJ0 := Lib.hid hj0
        have HRQ2 := Lib.hid (show (if E.is j 6 ⟨#[93]⟩ = true then E.idxM (fun k => E.X D k (decide (0 < n))) ta g (j + 1) (.mk 8 0 ⟨#[]⟩ Lt.zero [kd, ke] ta) else .bad 2 j) = R by have h := HRQ.out; rw [hres2] at h; exact h)
        clear hm2 hna2 hbal2 hsz2 hlit2 hres2 c13 c15 f15
        go_wp2_with fail
        generalize w2.heap.size = bK at *
        refine (take_any E bp j D n 6 ⟨#[93]⟩ W7 (HS.out.pm HM7.out) hj1 HM7.out.2).mono ?_
        rintro e w3 (⟨hie, rfl, hm3⟩ | ht)
        ·have HJE := Lib.hid (Env.is_kind hie)
         have HRQ3 := Lib.hid (show E.idxM (fun k => E.X D k (decide (0 < n))) ta g (j + 1) (.mk 8 0 ⟨#[]⟩ Lt.zero [kd, ke] ta) = R by have h := HRQ2.out; rw [if_pos hie] at h; exact h)
         have hjl := Env.is_lt hie
         have HM8 := Lib.hid (pm_step HM7.out hm3)
         have HR8 := Lib.hid (blk_pm HR7.out hm3 (by omega))
         have HT8 := Lib.hid (blk_pm HT7.out hm3 (by omega))
         have HN8 := Lib.hid (blk_pm HN7.out hm3 (by omega))
         have HE8 := Lib.hid (blk_pm HE7.out hm3 (by omega))
         have HNA8 := Lib.hid (HNA7.out.pmS hm3 (by intro b hb; have := hb.1; omega))
         have HNE8 := Lib.hid (HNE7.out.pmS hm3 (by intro b hb; omega))
         have hs3 : W7.heap.size ≤ w3.heap.size := hm3.1.size
         have hbT8 := blk_lt HT8.out
         have hbN8 := blk_lt HN8.out
         have hbE8 := blk_lt HE8.out
         have hb8 : w.heap.size < w3.heap.size := blk_lt HR8.out
         clear hm3 hie
         have t4 := blk_cell HT8.out 4
         have n0 := blk_cell HN8.out 0
         have n1 := blk_cell HN8.out 1
         have n2 := blk_cell HN8.out 2
         have n3 := blk_cell HN8.out 3
         have n4 := blk_cell HN8.out 4
         have n5 := blk_cell HN8.out 5
         have n6 := blk_cell HN8.out 6
         have nf0 := blk_frozen HN8.out 0
         have nf1 := blk_frozen HN8.out 1
         have nf2 := blk_frozen HN8.out 2
         have nf3 := blk_frozen HN8.out 3
         have nf4 := blk_frozen HN8.out 4
         have nf5 := blk_frozen HN8.out 5
         have nf6 := blk_frozen HN8.out 6
         have e0 := blk_cell HE8.out 0
         have e1 := blk_cell HE8.out 1
         have e2 := blk_cell HE8.out 2
         have e3 := blk_cell HE8.out 3
         have e4 := blk_cell HE8.out 4
         have e5 := blk_cell HE8.out 5
         have e6 := blk_cell HE8.out 6
         go_wp2_with fail
         have HNS := Lib.hid (show NdsAt (fun b => w.heap.size < b ∧ b ≠ bN) w3 [.int .i64 kd.kind, .int .i64 o, .string kd.name, .slice l.sA l.sn l.sc, .slice l.cA l.cn l.cc, .slice A kd.kids.length c, .int .i64 a, .int .i64 ke.kind, .int .i64 o2, .string ke.name, .slice l2.sA l2.sn l2.sc, .slice l2.cA l2.cn l2.cc, .slice A2 ke.kids.length c2, .int .i64 a2] [kd, ke] by
          simp only [NdsAt]
          exact ⟨[.int .i64 kd.kind, .int .i64 o, .string kd.name, .slice l.sA l.sn l.sc, .slice l.cA l.cn l.cc, .slice A kd.kids.length c, .int .i64 a], [.int .i64 ke.kind, .int .i64 o2, .string ke.name, .slice l2.sA l2.sn l2.sc, .slice l2.cA l2.cn l2.cc, .slice A2 ke.kids.length c2, .int .i64 a2], rfl, rfl, HNA8.out, [.int .i64 ke.kind, .int .i64 o2, .string ke.name, .slice l2.sA l2.sn l2.sc, .slice l2.cA l2.cn l2.cc, .slice A2 ke.kids.length c2, .int .i64 a2], [], rfl, rfl, HNE8.out.mono (Nat.le_refl _) (fun b hS _ => ⟨⟨by omega, by omega⟩, rfl⟩), rfl⟩)
         go_roundg g
         case rel =>
          refine ⟨j + 1, .mk 8 0 ⟨#[]⟩ Lt.zero [kd, ke] ta, 0, Lt.zero, some ⟨w3.heap.size, 0, none⟩, 2, ta, z0, z1, z2, z3, by omega, by omega, by omega, pm_alloc (pm_seven HM8.out (by omega) hbp _ _ _ _ _ _ _) _, blk_alloc ((seven_heap w3 bN w.heap.size (by omega) _ _ _ _ _ _ _).trans HR8.out) _, blk_alloc ((seven_heap w3 bN bT (by omega) _ _ _ _ _ _ _).trans HT8.out) _, blk_alloc (seven_blk HN8.out _ _ _ _ _ _ _) _, nd_row (S := fun b => w.heap.size < b ∧ b ≠ bN) (fun b hb => hb.2) HNS.out ⟨by omega, by omega⟩ _ _ _ _ _ _ _ 8 0 ⟨#[]⟩ Lt.zero ta, ?_, ?_, .inl rfl, HRQ3.out⟩
          ·obtain ⟨t1, ht1, ht2⟩ := HKT.out
           obtain ⟨u1, hu1, hu2⟩ := HJE.out
           have hb2 := HB2.out
           rw [← hk1] at hb2
           exact HBAL.out.trans (.brack t1 u1 ht1 ht2 hb2 hu1 hu2 (.nil _))
          ·have := HSZ.out
           have := HSZ2.out
           simp only [Nd.size, sizes]
           omega
         case measure => exact Nat.lt_succ_self g
        ·obtain ⟨hnt, rfl, hpm⟩ := ht
         go_wp2
         exact ⟨rfl, .inl ⟨2, j, j, D, n, by rw [← HRQ2.out, if_neg (by rw [hnt]; decide)], rfl, pm_step HM7.out hpm⟩⟩
  ·obtain rfl := hk
   go_wp2_with fail
   go_region
   all_goals
    have HM4 := Lib.hid (pm_drew (pm_alloc HM3.out (.cells #[.int .i64 1, .int .i64 0, .string ⟨#[]⟩, .slice tl.sA tl.sn tl.sc, .slice tl.cA tl.cn tl.cc, .slice none 0 0, .int .i64 ta] 39)))
    have HR4 := Lib.hid (blk_drew (blk_alloc HR3.out (.cells #[.int .i64 1, .int .i64 0, .string ⟨#[]⟩, .slice tl.sA tl.sn tl.sc, .slice tl.cA tl.cn tl.cc, .slice none 0 0, .int .i64 ta] 39)))
    have HT4 := Lib.hid (blk_drew (blk_alloc HT3.out (.cells #[.int .i64 1, .int .i64 0, .string ⟨#[]⟩, .slice tl.sA tl.sn tl.sc, .slice tl.cA tl.cn tl.cc, .slice none 0 0, .int .i64 ta] 39)))
    have HN4 := Lib.hid (blk_drew (blk_new W3 (.cells #[.int .i64 1, .int .i64 0, .string ⟨#[]⟩, .slice tl.sA tl.sn tl.sc, .slice tl.cA tl.cn tl.cc, .slice none 0 0, .int .i64 ta] 39)))
    obtain ⟨W4, hW4⟩ : ∃ W4, (W3.alloc (.cells #[.int .i64 1, .int .i64 0, .string ⟨#[]⟩, .slice tl.sA tl.sn tl.sc, .slice tl.cA tl.cn tl.cc, .slice none 0 0, .int .i64 ta] 39)).drew = W4 := ⟨_, rfl⟩
    rw [hW4] at HM4 HR4 HT4 HN4 ⊢
    clear hW4 c15 c18 h0 h1 h2 h3 h4 hbp3
    generalize W3.heap.size = bN at *
    have c15 := blk_cell HM4.out.2 15
    have f15 := blk_frozen HM4.out.2 15
    obtain ⟨i1, hi1⟩ : ∃ i1, i + 1 = i1 := ⟨_, rfl⟩
    have hwi : IntKind.i64.wrap ((i : Int) + 1) = (i1 : Int) := (wraps_i64 _ (by omega) (by omega)).trans (by omega)
    have HM5 := Lib.hid (pm_place HM4.out i1)
    have HR5 := Lib.hid (blk_far (p := ⟨bp, 15, none⟩) HR4.out (by simp; omega) (.int .i64 (i1 : Int)))
    have HT5 := Lib.hid (blk_far (p := ⟨bp, 15, none⟩) HT4.out (by simp; omega) (.int .i64 (i1 : Int)))
    have HN5 := Lib.hid (blk_far (p := ⟨bp, 15, none⟩) HN4.out (by simp; omega) (.int .i64 (i1 : Int)))
    obtain ⟨W5, hW5⟩ : ∃ W5, W4.setCell ⟨bp, 15, none⟩ (.int .i64 (i1 : Int)) = W5 := ⟨_, rfl⟩
    rw [hW5] at HM5 HR5 HT5 HN5
    have HRI := Lib.hid (show E.idxM (fun k => E.X D k (decide (0 < n))) ta (E.L.length + 1) i1 (.mk 1 0 ⟨#[]⟩ tl [] ta) = R by rw [← hi1, ← HTL.out, ← HTA.out]; exact HRM.out)
    have HK := Lib.hid (⟨.mk 1 0 ⟨#[]⟩ tl [] ta, 0, tl, none, 0, ta, rfl, nd_leaf _ _ _ _ _ _ _, (by simp only [Nd.size, sizes]; omega), .inr ⟨i, t0, HT.out, HTL.out.symm⟩, HRI.out⟩ : ∃ (kd : Nd) (o : Int) (l : Lt) (A : Option Addr) (c : Nat) (a : Int), (#[.int .i64 1, .int .i64 0, .string ⟨#[]⟩, .slice tl.sA tl.sn tl.sc, .slice tl.cA tl.cn tl.cc, .slice none 0 0, .int .i64 ta] : Array Value) = #[.int .i64 kd.kind, .int .i64 o, .string kd.name, .slice l.sA l.sn l.sc, .slice l.cA l.cn l.cc, .slice A kd.kids.length c, .int .i64 a] ∧ NdAt (fun b => w.heap.size < b ∧ b ≠ bN) W5 (.agg #[.int .i64 kd.kind, .int .i64 o, .string kd.name, .slice l.sA l.sn l.sc, .slice l.cA l.cn l.cc, .slice A kd.kids.length c, .int .i64 a]) kd ∧ kd.size + 1 ≤ 2 * (i1 - i) ∧ LitOK E kd ∧ E.idxM (fun k => E.X D k (decide (0 < n))) ta (E.L.length + 1) i1 kd = R)
    have HB := Lib.hid (show Bal E.L i i1 from by rw [← hi1]; exact Bal.one HT.out (by rw [HTx.out]; omega) (by rw [HTx.out]; omega))
    have hi1l : i1 ≤ E.L.length := by omega
    have hii : i < i1 := by omega
    go_wp2_with fail
    go_loopg [5] (E.L.length + 1) (fun g lv wr => OLoop E bp R D n i w bT bN ta g wr)
    case atStart =>
     obtain ⟨kd, o, l, A, c, a, hagg, hna, hsz, hlit, hri⟩ := HK.out
     exact ⟨i1, kd, o, l, A, c, a, _, _, _, _, hii, hi1l, by omega, HM5.out, HR5.out, HT5.out, hagg ▸ HN5.out, hna, HB.out, hsz, hlit, hri⟩
    case round =>
     obtain ⟨k, kd, o, l, A, c, a, z0, z1, z2, z3, hik, hk, hg, hm, hres, htk, hnd, hna, hbal, hsz, hlit, hrt⟩ := hrel
     have HM := Lib.hid hm
     have HRR := Lib.hid hres
     have HTR := Lib.hid htk
     have HRN := Lib.hid hnd
     have HNA := Lib.hid hna
     have HBAL := Lib.hid hbal
     have HSZ := Lib.hid hsz
     have HLIT := Lib.hid hlit
     have HRG := Lib.hid hrt
     clear hrt
     have HI := Lib.hid (is_any E bp k D n k 5 ⟨#[91]⟩ wr (HS.out.pm hm).env hm.2)
     have c13 := blk_cell hm.2 13
     have c15 := blk_cell hm.2 15
     have f15 := blk_frozen hm.2 15
     have hbw := blk_lt hm.2
     have hwsr : w.heap.size < wr.heap.size := blk_lt hres
     have hbTr : bT < wr.heap.size := blk_lt htk
     have hbNr : bN < wr.heap.size := blk_lt hnd
     clear hm hres htk hnd hna hbal hsz hlit HM5 HR5 HT5 HN5 HM4 HR4 HT4 HN4 HK HB
     cases hsq : E.square
     ·rw [hsq] at c13
      have hxr := blk_lt HRR.out
      have x0 := blk_cell HRR.out 0
      have xf0 := blk_frozen HRR.out 0
      have x1 := blk_cell HRR.out 1
      have xf1 := blk_frozen HRR.out 1
      have x2 := blk_cell HRR.out 2
      have xf2 := blk_frozen HRR.out 2
      have x3 := blk_cell HRR.out 3
      have xf3 := blk_frozen HRR.out 3
      have x4 := blk_cell HRR.out 4
      have xf4 := blk_frozen HRR.out 4
      have x5 := blk_cell HRR.out 5
      have xf5 := blk_frozen HRR.out 5
      have x6 := blk_cell HRR.out 6
      have xf6 := blk_frozen HRR.out 6
      have n0 := blk_cell HRN.out 0
      have n1 := blk_cell HRN.out 1
      have n2 := blk_cell HRN.out 2
      have n3 := blk_cell HRN.out 3
      have n4 := blk_cell HRN.out 4
      have n5 := blk_cell HRN.out 5
      have n6 := blk_cell HRN.out 6
      go_wp2_with fail
      obtain ⟨q0, q1, q2, q3, q4, q5, q6⟩ := seven_cells HRR.out (.int .i64 kd.kind) (.int .i64 o) (.string kd.name) (.slice l.sA l.sn l.sc) (.slice l.cA l.cn l.cc) (.slice A kd.kids.length c) (.int .i64 a)
      unfold sevenSet at q0 q1 q2 q3 q4 q5 q6
      refine bodyPost_ret (v := .agg #[.int .i64 kd.kind, .int .i64 o, .string kd.name, .slice l.sA l.sn l.sc, .slice l.cA l.cn l.cc, .slice A kd.kids.length c, .int .i64 a]) (by simp [results, Try.results34, go_sem, q0, q1, q2, q3, q4, q5, q6]) rfl ?_
      exact .inr ⟨k, _, kd, rfl, pm_seven HM.out (Nat.le_refl _) hbp _ _ _ _ _ _ _, (nd_set HNA.out (fun b hS => by have := hS.1; omega) _ _ _ _ _ _ _).mono (Nat.le_refl _) (fun b hS _ => ⟨Nat.le_of_lt hS.1, rfl⟩), hik, hk, HBAL.out, HSZ.out, HLIT.out, HRG.out.symm.trans (idxM_stop (by omega) (by rw [hsq]; rfl))⟩
     ·rw [hsq] at c13
      cases bi : E.is k 5 ⟨#[91]⟩
      ·rw [bi] at HI
       go_wp2_with fail
       refine HI.out.mono ?_
       rintro e w1 ⟨rfl, hww⟩
       obtain rfl : wr = w1 := hww.symm
       have hxr := blk_lt HRR.out
       have x0 := blk_cell HRR.out 0
       have xf0 := blk_frozen HRR.out 0
       have x1 := blk_cell HRR.out 1
       have xf1 := blk_frozen HRR.out 1
       have x2 := blk_cell HRR.out 2
       have xf2 := blk_frozen HRR.out 2
       have x3 := blk_cell HRR.out 3
       have xf3 := blk_frozen HRR.out 3
       have x4 := blk_cell HRR.out 4
       have xf4 := blk_frozen HRR.out 4
       have x5 := blk_cell HRR.out 5
       have xf5 := blk_frozen HRR.out 5
       have x6 := blk_cell HRR.out 6
       have xf6 := blk_frozen HRR.out 6
       have n0 := blk_cell HRN.out 0
       have n1 := blk_cell HRN.out 1
       have n2 := blk_cell HRN.out 2
       have n3 := blk_cell HRN.out 3
       have n4 := blk_cell HRN.out 4
       have n5 := blk_cell HRN.out 5
       have n6 := blk_cell HRN.out 6
       go_wp2_with fail
       obtain ⟨q0, q1, q2, q3, q4, q5, q6⟩ := seven_cells HRR.out (.int .i64 kd.kind) (.int .i64 o) (.string kd.name) (.slice l.sA l.sn l.sc) (.slice l.cA l.cn l.cc) (.slice A kd.kids.length c) (.int .i64 a)
       unfold sevenSet at q0 q1 q2 q3 q4 q5 q6
       refine bodyPost_ret (v := .agg #[.int .i64 kd.kind, .int .i64 o, .string kd.name, .slice l.sA l.sn l.sc, .slice l.cA l.cn l.cc, .slice A kd.kids.length c, .int .i64 a]) (by simp [results, Try.results34, go_sem, q0, q1, q2, q3, q4, q5, q6]) rfl ?_
       exact .inr ⟨k, _, kd, rfl, pm_seven HM.out (Nat.le_refl _) hbp _ _ _ _ _ _ _, (nd_set HNA.out (fun b hS => by have := hS.1; omega) _ _ _ _ _ _ _).mono (Nat.le_refl _) (fun b hS _ => ⟨Nat.le_of_lt hS.1, rfl⟩), hik, hk, HBAL.out, HSZ.out, HLIT.out, HRG.out.symm.trans (idxM_stop (by omega) (by rw [hsq, bi]; rfl))⟩
      ·rw [bi] at HI
       have hkl := Env.is_lt bi
       obtain ⟨g, rfl⟩ : ∃ g, gk = g + 1 := ⟨gk - 1, by omega⟩
       have HKT := Lib.hid (Env.is_kind bi)
       obtain ⟨k1, hk1⟩ : ∃ k1, k + 1 = k1 := ⟨_, rfl⟩
       have hwk : IntKind.i64.wrap ((k : Int) + 1) = (k1 : Int) := (wraps_i64 _ (by omega) (by omega)).trans (by omega)
       have HM6 := Lib.hid (pm_place HM.out k1)
       have HR6 := Lib.hid (blk_far (p := ⟨bp, 15, none⟩) HRR.out (by simp; omega) (.int .i64 (k1 : Int)))
       have HT6 := Lib.hid (blk_far (p := ⟨bp, 15, none⟩) HTR.out (by simp; omega) (.int .i64 (k1 : Int)))
       have HN6 := Lib.hid (blk_far (p := ⟨bp, 15, none⟩) HRN.out (by simp; omega) (.int .i64 (k1 : Int)))
       have HNA6 := Lib.hid (HNA.out.mono (T := fun b => w.heap.size < b ∧ b ≠ bN) (w' := wr.setCell ⟨bp, 15, none⟩ (.int .i64 (k1 : Int))) (by simp [World.setCell]) (fun b hS _ => ⟨hS, Below.heap_setCell wr _ _ b (by have := hS.1; simp; omega)⟩))
       obtain ⟨W6, hW6⟩ : ∃ W6, wr.setCell ⟨bp, 15, none⟩ (.int .i64 (k1 : Int)) = W6 := ⟨_, rfl⟩
       rw [hW6] at HM6 HR6 HT6 HN6 HNA6
       have HRQ := Lib.hid (show (E.X D k1 (decide (0 < n))).bind (fun x j => (if E.is j 6 ⟨#[93]⟩ = true then E.idxM (fun k => E.X D k (decide (0 < n))) ta g (j + 1) (.mk 8 0 ⟨#[]⟩ Lt.zero [kd, x] ta) else .bad 2 j)) = R by have h := HRG.out; rw [Env.idxM, if_pos (by rw [hsq, bi]; rfl), hk1] at h; exact h)
       clear bi
       have hk1l : k1 ≤ E.L.length := by omega
       go_wp2_with fail
       refine HI.out.mono ?_
       rintro e w1 ⟨rfl, hww⟩
       obtain rfl : wr = w1 := hww.symm
       go_wp2_with fail
       refine (HX.out k1 n W6 (HS.out.pm HM6.out) hk1l hn0 hn HM6.out.2).mono ?_
       rintro e w2 (ht | ⟨j, v, ke, rfl, hm2, hna2, hj0, hj1, hbal2, hsz2, hlit2, hres2⟩)
       ·obtain ⟨er, ix, p', d', n', hrb, rfl, hpm⟩ := ht
        go_wp2
        exact ⟨rfl, .inl ⟨er, ix, p', d', n', by rw [← HRQ.out, hrb]; rfl, rfl, pm_step HM6.out hpm⟩⟩
       ·obtain ⟨o2, l2, A2, c2, a2, vs2, rfl, -, -, -, -⟩ := hna2.form
        have hb6 : w.heap.size < W6.heap.size := blk_lt HR6.out
        have hbT6 : bT < W6.heap.size := blk_lt HT6.out
        have hbN6 : bN < W6.heap.size := blk_lt HN6.out
        have HM7 := Lib.hid (pm_alloc (pm_step HM6.out hm2) (.cells #[.int .i64 ke.kind, .int .i64 o2, .string ke.name, .slice l2.sA l2.sn l2.sc, .slice l2.cA l2.cn l2.cc, .slice A2 ke.kids.length c2, .int .i64 a2] 39))
        have HR7 := Lib.hid (blk_alloc (blk_pm HR6.out hm2 (by omega)) (.cells #[.int .i64 ke.kind, .int .i64 o2, .string ke.name, .slice l2.sA l2.sn l2.sc, .slice l2.cA l2.cn l2.cc, .slice A2 ke.kids.length c2, .int .i64 a2] 39))
        have HT7 := Lib.hid (blk_alloc (blk_pm HT6.out hm2 (by omega)) (.cells #[.int .i64 ke.kind, .int .i64 o2, .string ke.name, .slice l2.sA l2.sn l2.sc, .slice l2.cA l2.cn l2.cc, .slice A2 ke.kids.length c2, .int .i64 a2] 39))
        have HN7 := Lib.hid (blk_alloc (blk_pm HN6.out hm2 (by omega)) (.cells #[.int .i64 ke.kind, .int .i64 o2, .string ke.name, .slice l2.sA l2.sn l2.sc, .slice l2.cA l2.cn l2.cc, .slice A2 ke.kids.length c2, .int .i64 a2] 39))
        have HE7 := Lib.hid (blk_new w2 (.cells #[.int .i64 ke.kind, .int .i64 o2, .string ke.name, .slice l2.sA l2.sn l2.sc, .slice l2.cA l2.cn l2.cc, .slice A2 ke.kids.length c2, .int .i64 a2] 39))
        have HNA7 := Lib.hid ((HNA6.out.pmS hm2 (by intro b hb; have := hb.1; omega)).below ((Below.refl _ w2).alloc (Nat.le_refl _) (.cells #[.int .i64 ke.kind, .int .i64 o2, .string ke.name, .slice l2.sA l2.sn l2.sc, .slice l2.cA l2.cn l2.cc, .slice A2 ke.kids.length c2, .int .i64 a2] 39)))
        have HNE7 := Lib.hid (hna2.below ((Below.refl _ w2).alloc (Nat.le_refl _) (.cells #[.int .i64 ke.kind, .int .i64 o2, .string ke.name, .slice l2.sA l2.sn l2.sc, .slice l2.cA l2.cn l2.cc, .slice A2 ke.kids.length c2, .int .i64 a2] 39)))
        have hs2 : W6.heap.size ≤ w2.heap.size := hm2.1.size
        obtain ⟨W7, hW7⟩ : ∃ W7, w2.alloc (.cells #[.int .i64 ke.kind, .int .i64 o2, .string ke.name, .slice l2.sA l2.sn l2.sc, .slice l2.cA l2.cn l2.cc, .slice A2 ke.kids.length c2, .int .i64 a2] 39) = W7 := ⟨_, rfl⟩
        have hb7 : w2.heap.size < W7.heap.size := by rw [← hW7]; exact Nat.lt_of_lt_of_eq (Nat.lt_succ_self _) (Array.size_push _).symm
        rw [hW7] at HM7 HR7 HT7 HN7 HE7 HNA7 HNE7
        have HB2 := Lib.hid hbal2
        have HSZ2 := Lib.hid hsz2
        have HJ0 := Lib.hid hj0
        have HRQ2 := Lib.hid (show (if E.is j 6 ⟨#[93]⟩ = true then E.idxM (fun k => E.X D k (decide (0 < n))) ta g (j + 1) (.mk 8 0 ⟨#[]⟩ Lt.zero [kd, ke] ta) else .bad 2 j) = R by have h := HRQ.out; rw [hres2] at h; exact h)
        clear hm2 hna2 hbal2 hsz2 hlit2 hres2 c13 c15 f15
        go_wp2_with fail
        generalize w2.heap.size = bK at *
        refine (take_any E bp j D n 6 ⟨#[93]⟩ W7 (HS.out.pm HM7.out) hj1 HM7.out.2).mono ?_
        rintro e w3 (⟨hie, rfl, hm3⟩ | ht)
        ·have HJE := Lib.hid (Env.is_kind hie)
         have HRQ3 := Lib.hid (show E.idxM (fun k => E.X D k (decide (0 < n))) ta g (j + 1) (.mk 8 0 ⟨#[]⟩ Lt.zero [kd, ke] ta) = R by have h := HRQ2.out; rw [if_pos hie] at h; exact h)
         have hjl := Env.is_lt hie
         have HM8 := Lib.hid (pm_step HM7.out hm3)
         have HR8 := Lib.hid (blk_pm HR7.out hm3 (by omega))
         have HT8 := Lib.hid (blk_pm HT7.out hm3 (by omega))
         have HN8 := Lib.hid (blk_pm HN7.out hm3 (by omega))
         have HE8 := Lib.hid (blk_pm HE7.out hm3 (by omega))
         have HNA8 := Lib.hid (HNA7.out.pmS hm3 (by intro b hb; have := hb.1; omega))
         have HNE8 := Lib.hid (HNE7.out.pmS hm3 (by intro b hb; omega))
         have hs3 : W7.heap.size ≤ w3.heap.size := hm3.1.size
         have hbT8 := blk_lt HT8.out
         have hbN8 := blk_lt HN8.out
         have hbE8 := blk_lt HE8.out
         have hb8 : w.heap.size < w3.heap.size := blk_lt HR8.out
         clear hm3 hie
         have t4 := blk_cell HT8.out 4
         have n0 := blk_cell HN8.out 0
         have n1 := blk_cell HN8.out 1
         have n2 := blk_cell HN8.out 2
         have n3 := blk_cell HN8.out 3
         have n4 := blk_cell HN8.out 4
         have n5 := blk_cell HN8.out 5
         have n6 := blk_cell HN8.out 6
         have nf0 := blk_frozen HN8.out 0
         have nf1 := blk_frozen HN8.out 1
         have nf2 := blk_frozen HN8.out 2
         have nf3 := blk_frozen HN8.out 3
         have nf4 := blk_frozen HN8.out 4
         have nf5 := blk_frozen HN8.out 5
         have nf6 := blk_frozen HN8.out 6
         have e0 := blk_cell HE8.out 0
         have e1 := blk_cell HE8.out 1
         have e2 := blk_cell HE8.out 2
         have e3 := blk_cell HE8.out 3
         have e4 := blk_cell HE8.out 4
         have e5 := blk_cell HE8.out 5
         have e6 := blk_cell HE8.out 6
         go_wp2_with fail
         have HNS := Lib.hid (show NdsAt (fun b => w.heap.size < b ∧ b ≠ bN) w3 [.int .i64 kd.kind, .int .i64 o, .string kd.name, .slice l.sA l.sn l.sc, .slice l.cA l.cn l.cc, .slice A kd.kids.length c, .int .i64 a, .int .i64 ke.kind, .int .i64 o2, .string ke.name, .slice l2.sA l2.sn l2.sc, .slice l2.cA l2.cn l2.cc, .slice A2 ke.kids.length c2, .int .i64 a2] [kd, ke] by
          simp only [NdsAt]
          exact ⟨[.int .i64 kd.kind, .int .i64 o, .string kd.name, .slice l.sA l.sn l.sc, .slice l.cA l.cn l.cc, .slice A kd.kids.length c, .int .i64 a], [.int .i64 ke.kind, .int .i64 o2, .string ke.name, .slice l2.sA l2.sn l2.sc, .slice l2.cA l2.cn l2.cc, .slice A2 ke.kids.length c2, .int .i64 a2], rfl, rfl, HNA8.out, [.int .i64 ke.kind, .int .i64 o2, .string ke.name, .slice l2.sA l2.sn l2.sc, .slice l2.cA l2.cn l2.cc, .slice A2 ke.kids.length c2, .int .i64 a2], [], rfl, rfl, HNE8.out.mono (Nat.le_refl _) (fun b hS _ => ⟨⟨by omega, by omega⟩, rfl⟩), rfl⟩)
         go_roundg g
         case rel =>
          refine ⟨j + 1, .mk 8 0 ⟨#[]⟩ Lt.zero [kd, ke] ta, 0, Lt.zero, some ⟨w3.heap.size, 0, none⟩, 2, ta, z0, z1, z2, z3, by omega, by omega, by omega, pm_alloc (pm_seven HM8.out (by omega) hbp _ _ _ _ _ _ _) _, blk_alloc ((seven_heap w3 bN w.heap.size (by omega) _ _ _ _ _ _ _).trans HR8.out) _, blk_alloc ((seven_heap w3 bN bT (by omega) _ _ _ _ _ _ _).trans HT8.out) _, blk_alloc (seven_blk HN8.out _ _ _ _ _ _ _) _, nd_row (S := fun b => w.heap.size < b ∧ b ≠ bN) (fun b hb => hb.2) HNS.out ⟨by omega, by omega⟩ _ _ _ _ _ _ _ 8 0 ⟨#[]⟩ Lt.zero ta, ?_, ?_, .inl rfl, HRQ3.out⟩
          ·obtain ⟨t1, ht1, ht2⟩ := HKT.out
           obtain ⟨u1, hu1, hu2⟩ := HJE.out
           have hb2 := HB2.out
           rw [← hk1] at hb2
           exact HBAL.out.trans (.brack t1 u1 ht1 ht2 hb2 hu1 hu2 (.nil _))
          ·have := HSZ.out
           have := HSZ2.out
           simp only [Nd.size, sizes]
           omega
         case measure => exact Nat.lt_succ_self g
        ·obtain ⟨hnt, rfl, hpm⟩ := ht
         go_wp2
         exact ⟨rfl, .inl ⟨2, j, j, D, n, by rw [← HRQ2.out, if_neg (by rw [hnt]; decide)], rfl, pm_step HM7.out hpm⟩⟩
end Go.Proofs.Ytollglblkbjgjaa
