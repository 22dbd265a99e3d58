/- Contract of operand: it reads one. Conditions: the parser's block; what it calls keeps its word one bracket deeper; a word's text is no longer than memory. -/
import Derived.Test.YtollglblkbjgjaaGp0
import Derived.Test.YtollglblkbjgjaaGp1
import Derived.Test.YtollglblkbjgjaaGp2
import Derived.Test.YtollglblkbjgjaaGp3
import Derived.Test.YtollglblkbjgjaaGp4
namespace Go.Proofs.Ytollglblkbjgjaa
open Go.RowKit

set_option maxRecDepth 100000 in
set_option maxHeartbeats 16000000 in
theorem operand_bad (E : Env) (bp : Nat) (D : Int) (hX : ExprAt E bp D) (i : Nat) (n : Int) (w : World) (hS : Sits E bp w) (hn0 : 0 ≤ n) (hp : w.heap[bp]? = some (pcell E i D n)) (t0 : Tok) (ht0 : E.L[i]? = some t0) (hk : t0.kind = 3 ∧ (0 < n → (t0.text.toList == E.left.toList) = false ∧ (t0.text.toList == E.right.toList) = false) ∧ nameOK t0.text = false ∧ t0.text.size ≤ 9223372036854775000) (R : Res Nd) (hRM : R = .bad 2 i) :
  Calls Try.prog 34 #[.pointer (some ⟨bp, 0, none⟩)] w (OpPost E bp R i D n w) := by
 have HRM := Lib.hid hRM
 clear hRM
 have hln := hS.env.ln
 have hbp := blk_lt hp
 have HX := Lib.hid hX
 have HM1 := Lib.hid (pm_alloc (pm_refl hp) (.cells #[.int .i64 0, .int .i64 0, .string ⟨#[]⟩, .slice none 0 0, .slice none 0 0, .slice none 0 0, .int .i64 0] 39))
 have HR1 := Lib.hid (blk_new w (.cells #[.int .i64 0, .int .i64 0, .string ⟨#[]⟩, .slice none 0 0, .slice none 0 0, .slice none 0 0, .int .i64 0] 39))
 have HS := Lib.hid hS
 clear hX hS hp
 obtain ⟨W1, hW1⟩ : ∃ W1, w.alloc (.cells #[.int .i64 0, .int .i64 0, .string ⟨#[]⟩, .slice none 0 0, .slice none 0 0, .slice none 0 0, .int .i64 0] 39) = W1 := ⟨_, rfl⟩
 rw [hW1] at HM1 HR1
 have c14 := blk_cell HM1.out.2 14
 have c15 := blk_cell HM1.out.2 15
 have hs1 : w.heap.size < W1.heap.size := blk_lt HR1.out
 have hlt : i < E.L.length := (List.getElem?_eq_some_iff.1 ht0).1
 obtain ⟨t, tb, toff, ht, hA, htk⟩ := (HS.out.pm HM1.out).env.tok hlt
 obtain rfl : t0 = t := by rw [ht] at ht0; exact (Option.some.inj ht0).symm
 have k0 := htk.k0
 have k1 := htk.k1
 have k2 := htk.k2
 have k3 := htk.k3
 have k4 := htk.k4
 have htb := World.block_lt_of_cell? _ _ k0
 rw [hA] at c14
 have hj0 : (0 : Int) ≤ (i : Int) := by omega
 have hj1 : (i : Int) < (E.L.length : Int) := by omega
 have d1 : decide ((E.L.length : Int) ≤ (i : Int)) = false := decide_eq_false (by omega)
 have d1' : decide (E.L.length ≤ i) = false := decide_eq_false (by omega)
 have HT := Lib.hid ht
 have hbp1 := blk_lt HM1.out.2
 clear hA htk ht ht0
 obtain ⟨tk, htk⟩ : ∃ x, t0.kind = x := ⟨_, rfl⟩
 obtain ⟨tx, htx⟩ : ∃ x, t0.text = x := ⟨_, rfl⟩
 obtain ⟨tl, htl⟩ : ∃ x, t0.lit = x := ⟨_, rfl⟩
 obtain ⟨ta, hta⟩ : ∃ x, t0.at_ = x := ⟨_, rfl⟩
 rw [htk] at k0 hk
 have HK0 := Lib.hid hk
 clear hk
 rw [htx] at k1
 rw [htl] at k2 k3
 rw [hta] at k4
 have HTx := Lib.hid htk
 have HTX := Lib.hid htx
 have HTL := Lib.hid htl
 have HTA := Lib.hid hta
 clear htk htx htl hta
 go_enter Try.func34, Try.ntmps34
 go_wp2_with fail
 clear hW1
 go_quiet (fail)
 go_wp2_with fail
 have HM2 := Lib.hid (pm_drewN HM1.out nq)
 have HR2 := Lib.hid (show (W1.drewN nq).heap[w.heap.size]? = _ from HR1.out)
 replace c14 : (W1.drewN nq).cell? ⟨bp, 14, none⟩ = _ := c14
 replace c15 : (W1.drewN nq).cell? ⟨bp, 15, none⟩ = _ := c15
 replace k0 : (W1.drewN nq).cell? _ = _ := k0
 replace k1 : (W1.drewN nq).cell? _ = _ := k1
 replace k2 : (W1.drewN nq).cell? _ = _ := k2
 replace k3 : (W1.drewN nq).cell? _ = _ := k3
 replace k4 : (W1.drewN nq).cell? _ = _ := k4
 replace htb : _ < (W1.drewN nq).heap.size := htb
 replace hs1 : w.heap.size < (W1.drewN nq).heap.size := hs1
 replace hbp1 : bp < (W1.drewN nq).heap.size := hbp1
 obtain ⟨W2, hW2⟩ : ∃ W2, W1.drewN nq = W2 := ⟨_, rfl⟩
 rw [hW2] at HM2 HR2 c14 c15 k0 k1 k2 k3 k4 htb hs1 hbp1 ⊢
 clear hW2
 have xf0 := blk_frozen HR2.out 0
 have xf1 := blk_frozen HR2.out 1
 have xf2 := blk_frozen HR2.out 2
 have xf3 := blk_frozen HR2.out 3
 have xf4 := blk_frozen HR2.out 4
 have xf5 := blk_frozen HR2.out 5
 have xf6 := blk_frozen HR2.out 6
 have x0 := blk_cell HR2.out 0
 have x1 := blk_cell HR2.out 1
 have x2 := blk_cell HR2.out 2
 have x3 := blk_cell HR2.out 3
 have x4 := blk_cell HR2.out 4
 have x5 := blk_cell HR2.out 5
 have x6 := blk_cell HR2.out 6
 go_wp2_with fail
 go_region
 all_goals
  have HM3 := Lib.hid (pm_drew (pm_alloc HM2.out (.cells #[.int .i64 tk, .string tx, .slice tl.sA tl.sn tl.sc, .slice tl.cA tl.cn tl.cc, .int .i64 ta] 43)))
  have HR3 := Lib.hid (blk_drew (blk_alloc HR2.out (.cells #[.int .i64 tk, .string tx, .slice tl.sA tl.sn tl.sc, .slice tl.cA tl.cn tl.cc, .int .i64 ta] 43)))
  have HT3 := Lib.hid (blk_drew (blk_new W2 (.cells #[.int .i64 tk, .string tx, .slice tl.sA tl.sn tl.sc, .slice tl.cA tl.cn tl.cc, .int .i64 ta] 43)))
  obtain ⟨W3, hW3⟩ : ∃ W3, (W2.alloc (.cells #[.int .i64 tk, .string tx, .slice tl.sA tl.sn tl.sc, .slice tl.cA tl.cn tl.cc, .int .i64 ta] 43)).drew = W3 := ⟨_, rfl⟩
  rw [hW3] at HM3 HR3 HT3 ⊢
  clear hW3 c14 c15 k0 k1 k2 k3 k4 xf0 xf1 xf2 xf3 xf4 xf5 xf6 x0 x1 x2 x3 x4 x5 x6 htb hbp1
  generalize W2.heap.size = bT at *
  have hbT := blk_lt HT3.out
  have h0 := blk_cell HT3.out 0
  have h1 := blk_cell HT3.out 1
  have h2 := blk_cell HT3.out 2
  have h3 := blk_cell HT3.out 3
  have h4 := blk_cell HT3.out 4
  have hws3 : w.heap.size < W3.heap.size := blk_lt HR3.out
  have hbp3 := blk_lt HM3.out.2
  have c15 := blk_cell HM3.out.2 15
  have c18 := blk_cell HM3.out.2 18
  obtain ⟨hk, hc, hnm, hts⟩ := HK0.out
  obtain rfl := hk
  rw [HTX.out] at hc hnm hts
  have HTXS := Lib.hid hts
  have HNM := Lib.hid hnm
  clear hts hnm
  have HTE := Lib.hid hc
  clear hc
  rcases Int.lt_or_le 0 n with hn1 | hn1
  ·have d0 : decide (0 < n) = true := decide_eq_true hn1
   have bl := (HTE.out hn1).1
   have br := (HTE.out hn1).2
   go_wp2_with fail
   have HM4 := Lib.hid (pm_alloc HM3.out (.cells #[.int .i64 0, .int .i64 0, .string ⟨#[]⟩, .slice none 0 0, .slice none 0 0, .slice none 0 0, .int .i64 ta] 39))
   have HR4 := Lib.hid (blk_alloc HR3.out (.cells #[.int .i64 0, .int .i64 0, .string ⟨#[]⟩, .slice none 0 0, .slice none 0 0, .slice none 0 0, .int .i64 ta] 39))
   have HT4 := Lib.hid (blk_alloc HT3.out (.cells #[.int .i64 0, .int .i64 0, .string ⟨#[]⟩, .slice none 0 0, .slice none 0 0, .slice none 0 0, .int .i64 ta] 39))
   have HN4 := Lib.hid (blk_new W3 (.cells #[.int .i64 0, .int .i64 0, .string ⟨#[]⟩, .slice none 0 0, .slice none 0 0, .slice none 0 0, .int .i64 ta] 39))
   obtain ⟨W4, hW4⟩ : ∃ W4, W3.alloc (.cells #[.int .i64 0, .int .i64 0, .string ⟨#[]⟩, .slice none 0 0, .slice none 0 0, .slice none 0 0, .int .i64 ta] 39) = W4 := ⟨_, rfl⟩
   rw [hW4] at HM4 HR4 HT4 HN4 ⊢
   clear hW4 c15 c18 h0 h1 h2 h3 h4 hbp3
   generalize W3.heap.size = bN at *
   have h0 := blk_cell HT4.out 0
   have h1 := blk_cell HT4.out 1
   have c7 := blk_cell HM4.out.2 7
   have c8 := blk_cell HM4.out.2 8
   have c18 := blk_cell HM4.out.2 18
   go_wp2_with fail
   go_quiet (fail)
   replace HM4 := Lib.hid (pm_drewN HM4.out nq)
   replace HR4 := Lib.hid (blk_drewN HR4.out nq)
   replace HT4 := Lib.hid (blk_drewN HT4.out nq)
   replace HN4 := Lib.hid (blk_drewN HN4.out nq)
   clear h0 h1 c7 c8 c18
   obtain ⟨V4, hV4⟩ : ∃ V4, W4.drewN nq = V4 := ⟨_, rfl⟩
   rw [hV4] at HM4 HR4 HT4 HN4 ⊢
   clear hV4
   clear nq
   generalize V4 = W4 at *
   have h0 := blk_cell HT4.out 0
   have h1 := blk_cell HT4.out 1
   have c7 := blk_cell HM4.out.2 7
   have c8 := blk_cell HM4.out.2 8
   have c18 := blk_cell HM4.out.2 18
   go_wp2_with fail
   go_quiet (fail)
   replace HM4 := Lib.hid (pm_drewN HM4.out nq)
   replace HR4 := Lib.hid (blk_drewN HR4.out nq)
   replace HT4 := Lib.hid (blk_drewN HT4.out nq)
   replace HN4 := Lib.hid (blk_drewN HN4.out nq)
   clear h0 h1 c7 c8 c18
   obtain ⟨V4, hV4⟩ : ∃ V4, W4.drewN nq = V4 := ⟨_, rfl⟩
   rw [hV4] at HM4 HR4 HT4 HN4 ⊢
   clear hV4
   clear nq
   generalize V4 = W4 at *
   have h0 := blk_cell HT4.out 0
   have h1 := blk_cell HT4.out 1
   go_wp2_with fail
   refine (name_any tx W4 HTXS.out).mono ?_
   rintro e w1 ⟨rfl, hww⟩
   obtain rfl : W4 = w1 := hww.symm
   rw [HNM.out]
   have c15 := blk_cell HM4.out.2 15
   have HI := Lib.hid (is_any E bp i D n i 5 ⟨#[40]⟩ W4 (HS.out.pm HM4.out).env HM4.out.2)
   have bi : E.is i 5 ⟨#[40]⟩ = false := by
    have h1 := HT.out
    have h2 := HTx.out
    simp [Env.is, h1, h2]
   rw [bi] at HI
   clear bi
   go_wp2_with fail
   refine HI.out.mono ?_
   rintro e w1 ⟨rfl, hww⟩
   obtain rfl : W4 = w1 := hww.symm
   go_wp2_with fail
   refine (fail_any E bp i D n i 2 _ (HS.out.pm HM4.out).env HM4.out.2).mono ?_
   rintro e w1 ⟨rfl, hww⟩
   obtain rfl : W4 = w1 := hww.symm
   go_wp2
   exact ⟨rfl, .inl ⟨2, i, i, D, n, HRM.out, rfl, HM4.out⟩⟩
  ·have d0 : decide (0 < n) = false := decide_eq_false (by omega)
   go_wp2_with fail
   have HM4 := Lib.hid (pm_alloc HM3.out (.cells #[.int .i64 0, .int .i64 0, .string ⟨#[]⟩, .slice none 0 0, .slice none 0 0, .slice none 0 0, .int .i64 ta] 39))
   have HR4 := Lib.hid (blk_alloc HR3.out (.cells #[.int .i64 0, .int .i64 0, .string ⟨#[]⟩, .slice none 0 0, .slice none 0 0, .slice none 0 0, .int .i64 ta] 39))
   have HT4 := Lib.hid (blk_alloc HT3.out (.cells #[.int .i64 0, .int .i64 0, .string ⟨#[]⟩, .slice none 0 0, .slice none 0 0, .slice none 0 0, .int .i64 ta] 39))
   have HN4 := Lib.hid (blk_new W3 (.cells #[.int .i64 0, .int .i64 0, .string ⟨#[]⟩, .slice none 0 0, .slice none 0 0, .slice none 0 0, .int .i64 ta] 39))
   obtain ⟨W4, hW4⟩ : ∃ W4, W3.alloc (.cells #[.int .i64 0, .int .i64 0, .string ⟨#[]⟩, .slice none 0 0, .slice none 0 0, .slice none 0 0, .int .i64 ta] 39) = W4 := ⟨_, rfl⟩
   rw [hW4] at HM4 HR4 HT4 HN4 ⊢
   clear hW4 c15 c18 h0 h1 h2 h3 h4 hbp3
   generalize W3.heap.size = bN at *
   have h0 := blk_cell HT4.out 0
   have h1 := blk_cell HT4.out 1
   have c7 := blk_cell HM4.out.2 7
   have c8 := blk_cell HM4.out.2 8
   have c18 := blk_cell HM4.out.2 18
   go_wp2_with fail
   go_quiet (fail)
   replace HM4 := Lib.hid (pm_drewN HM4.out nq)
   replace HR4 := Lib.hid (blk_drewN HR4.out nq)
   replace HT4 := Lib.hid (blk_drewN HT4.out nq)
   replace HN4 := Lib.hid (blk_drewN HN4.out nq)
   clear h0 h1 c7 c8 c18
   obtain ⟨V4, hV4⟩ : ∃ V4, W4.drewN nq = V4 := ⟨_, rfl⟩
   rw [hV4] at HM4 HR4 HT4 HN4 ⊢
   clear hV4
   clear nq
   generalize V4 = W4 at *
   have h0 := blk_cell HT4.out 0
   have h1 := blk_cell HT4.out 1
   have c7 := blk_cell HM4.out.2 7
   have c8 := blk_cell HM4.out.2 8
   have c18 := blk_cell HM4.out.2 18
   go_wp2_with fail
   go_quiet (fail)
   replace HM4 := Lib.hid (pm_drewN HM4.out nq)
   replace HR4 := Lib.hid (blk_drewN HR4.out nq)
   replace HT4 := Lib.hid (blk_drewN HT4.out nq)
   replace HN4 := Lib.hid (blk_drewN HN4.out nq)
   clear h0 h1 c7 c8 c18
   obtain ⟨V4, hV4⟩ : ∃ V4, W4.drewN nq = V4 := ⟨_, rfl⟩
   rw [hV4] at HM4 HR4 HT4 HN4 ⊢
   clear hV4
   clear nq
   generalize V4 = W4 at *
   have h0 := blk_cell HT4.out 0
   have h1 := blk_cell HT4.out 1
   go_wp2_with fail
   refine (name_any tx W4 HTXS.out).mono ?_
   rintro e w1 ⟨rfl, hww⟩
   obtain rfl : W4 = w1 := hww.symm
   rw [HNM.out]
   have c15 := blk_cell HM4.out.2 15
   have HI := Lib.hid (is_any E bp i D n i 5 ⟨#[40]⟩ W4 (HS.out.pm HM4.out).env HM4.out.2)
   have bi : E.is i 5 ⟨#[40]⟩ = false := by
    have h1 := HT.out
    have h2 := HTx.out
    simp [Env.is, h1, h2]
   rw [bi] at HI
   clear bi
   go_wp2_with fail
   refine HI.out.mono ?_
   rintro e w1 ⟨rfl, hww⟩
   obtain rfl : W4 = w1 := hww.symm
   go_wp2_with fail
   refine (fail_any E bp i D n i 2 _ (HS.out.pm HM4.out).env HM4.out.2).mono ?_
   rintro e w1 ⟨rfl, hww⟩
   obtain rfl : W4 = w1 := hww.symm
   go_wp2
   exact ⟨rfl, .inl ⟨2, i, i, D, n, HRM.out, rfl, HM4.out⟩⟩
end Go.Proofs.Ytollglblkbjgjaa
namespace Go.Proofs.Ytollglblkbjgjaa
open Go.RowKit

set_option maxRecDepth 100000 in
set_option maxHeartbeats 16000000 in
theorem operand_none (E : Env) (bp : Nat) (D : Int) (i : Nat) (n : Int) (w : World) (hS : Sits E bp w) (hge : E.L.length ≤ i) (hp : w.heap[bp]? = some (pcell E i D n)) (R : Res Nd) (hRM : R = .bad 2 i) :
  Calls Try.prog 34 #[.pointer (some ⟨bp, 0, none⟩)] w (OpPost E bp R i D n w) := by
 have HRM := Lib.hid hRM
 clear hRM
 have hln := hS.env.ln
 have hbp := blk_lt hp
 have HM1 := Lib.hid (pm_alloc (pm_refl hp) (.cells #[.int .i64 0, .int .i64 0, .string ⟨#[]⟩, .slice none 0 0, .slice none 0 0, .slice none 0 0, .int .i64 0] 39))
 have HR1 := Lib.hid (blk_new w (.cells #[.int .i64 0, .int .i64 0, .string ⟨#[]⟩, .slice none 0 0, .slice none 0 0, .slice none 0 0, .int .i64 0] 39))
 have HS := Lib.hid hS
 clear hS hp
 obtain ⟨W1, hW1⟩ : ∃ W1, w.alloc (.cells #[.int .i64 0, .int .i64 0, .string ⟨#[]⟩, .slice none 0 0, .slice none 0 0, .slice none 0 0, .int .i64 0] 39) = W1 := ⟨_, rfl⟩
 rw [hW1] at HM1 HR1
 have c14 := blk_cell HM1.out.2 14
 have c15 := blk_cell HM1.out.2 15
 have hs1 : w.heap.size < W1.heap.size := blk_lt HR1.out
 have d1 : decide ((E.L.length : Int) ≤ (i : Int)) = true := decide_eq_true (by omega)
 have d1' : decide (E.L.length ≤ i) = true := decide_eq_true hge
 go_enter Try.func34, Try.ntmps34
 go_wp2_with fail
 clear hW1
 go_quiet (fail)
 have HM2 := Lib.hid (pm_drewN HM1.out nq)
 obtain ⟨W2, hW2⟩ : ∃ W2, W1.drewN nq = W2 := ⟨_, rfl⟩
 rw [hW2] at HM2 ⊢
 clear hW2 c14 c15
 have c15 := blk_cell HM2.out.2 15
 go_wp2_with fail
 refine (fail_any E bp i D n i 2 _ (HS.out.pm HM2.out).env HM2.out.2).mono ?_
 rintro e w1 ⟨rfl, hww⟩
 obtain rfl : W2 = w1 := hww.symm
 go_wp2
 exact ⟨rfl, .inl ⟨2, i, i, D, n, HRM.out, rfl, HM2.out⟩⟩
end Go.Proofs.Ytollglblkbjgjaa
namespace Go.Proofs.Ytollglblkbjgjaa
open Go.RowKit

theorem operand_any (E : Env) (bp : Nat) (D : Int) (hX : ExprAt E bp D) (hts : ∀ (i : Nat) (t : Tok), E.L[i]? = some t → t.text.size ≤ 9223372036854775000) (i : Nat) (n : Int) (w : World) (hS : Sits E bp w) (hn0 : 0 ≤ n) (hn : n ≤ 76 + D) (hp : w.heap[bp]? = some (pcell E i D n)) :
  Calls Try.prog 34 #[.pointer (some ⟨bp, 0, none⟩)] w (OpPost E bp (E.opM (fun k => E.X D k (decide (0 < n))) i (decide (0 < n))) i D n w) := by
 rcases Nat.lt_or_ge i E.L.length with hlt | hge
 ·obtain ⟨t, ht⟩ : ∃ t, E.L[i]? = some t := ⟨_, List.getElem?_eq_getElem hlt⟩
  by_cases h12 : t.kind = 1 ∨ t.kind = 2
  ·exact operand_lit E bp D hX i n w hS hn0 hn hp t ht h12 _ (by rw [Env.opM, ht]; dsimp only; rw [Env.op1M, if_pos h12]; rfl)
  ·by_cases h3 : t.kind = 3
   ·by_cases ha : 0 < n ∧ ((t.text.toList == E.left.toList) = true ∨ (t.text.toList == E.right.toList) = true)
    ·exact operand_arg E bp D hX i n w hS hn0 hn hp t ht ⟨h3, ha.1, ha.2⟩ _ (by rw [Env.opM, ht]; dsimp only; rw [Env.op1M, if_neg h12, if_pos h3, decide_eq_true ha.1]; simp only [Bool.true_and]; rcases Bool.eq_false_or_eq_true (t.text.toList == E.left.toList) with h | h; (rw [if_pos h, if_pos h]; rfl); (rw [if_neg (by rw [h]; decide), if_neg (by rw [h]; decide), if_pos (by rcases ha.2 with e | e; (rw [h] at e; cases e); exact e)]; rfl))
    ·have hn' : 0 < n → (t.text.toList == E.left.toList) = false ∧ (t.text.toList == E.right.toList) = false := fun h => ⟨Bool.eq_false_iff.2 fun e => ha ⟨h, .inl e⟩, Bool.eq_false_iff.2 fun e => ha ⟨h, .inr e⟩⟩
     have hno : ∀ x : ByteArray, (0 < n → (t.text.toList == x.toList) = false) → ¬ (decide (0 < n) && t.text.toList == x.toList) = true := fun x hx h => by
      rw [Bool.and_eq_true] at h
      have := hx (of_decide_eq_true h.1)
      rw [this] at h
      exact absurd h.2 (by decide)
     cases hb : nameOK t.text
     ·exact operand_bad E bp D hX i n w hS hn0 hp t ht ⟨h3, hn', hb, hts i t ht⟩ _ (by rw [Env.opM, ht]; dsimp only; rw [Env.op1M, if_neg h12, if_pos h3, if_neg (hno E.left fun h => (hn' h).1), if_neg (hno E.right fun h => (hn' h).2), if_neg (by rw [hb]; decide)]; rfl)
     ·exact operand_name E bp D hX i n w hS hn0 hn hp t ht ⟨h3, hn', hb, hts i t ht⟩ _ (by rw [Env.opM, ht]; dsimp only; rw [Env.op1M, if_neg h12, if_pos h3, if_neg (hno E.left fun h => (hn' h).1), if_neg (hno E.right fun h => (hn' h).2), if_pos hb]; rfl)
   ·exact operand_sign E bp D hX i n w hS hn0 hn hp t ht ⟨fun h => h12 (.inl h), fun h => h12 (.inr h), h3⟩ _ (by rw [Env.opM, ht]; dsimp only; rw [Env.op1M, if_neg h12, if_neg h3])
 ·exact operand_none E bp D i n w hS hge hp _ (by rw [Env.opM, List.getElem?_eq_none hge])
end Go.Proofs.Ytollglblkbjgjaa
