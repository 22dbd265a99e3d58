/- Contract of lambda: it reads a function's text. Conditions: the parser's block; what it calls keeps its word one bracket deeper. -/
import Derived.Test.YtollglblkbjgjaaGk
import Derived.Deep.RegionHeld3
namespace Go.Proofs.Ytollglblkbjgjaa
open Go.RowKit

theorem lamM_both {E : Env} {X : Nat → Bool → Res Nd} {i k : Nat} {kd : Nd} (h : X (i + 1) true = .ok kd k) (hc : E.is k 6 E.close = true) (h3 : kd.uses 3 = true) (h4 : kd.uses 4 = true) : E.lamM X i = .ok (.mk 23 0 ⟨#[]⟩ Lt.zero [kd] (E.here i)) (k + 1) := by
 rw [Env.lamM, h, Res.bind_ok, if_pos hc, h3, h4]
 rfl
theorem lamM_one {E : Env} {X : Nat → Bool → Res Nd} {i k : Nat} {kd : Nd} {u3 u4 : Bool} (h : X (i + 1) true = .ok kd k) (hc : E.is k 6 E.close = true) (h3 : kd.uses 3 = u3) (h4 : kd.uses 4 = u4) (h5 : (u3 && u4) = false) (h6 : ((E.lone && u4) || (!E.lone && u3)) = false) : E.lamM X i = .ok (.mk 22 0 ⟨#[]⟩ Lt.zero [kd.righted] (E.here i)) (k + 1) := by
 rw [Env.lamM, h, Res.bind_ok, if_pos hc, h3, h4, if_neg (by rw [h5]; decide), if_neg (by rw [h6]; decide)]
theorem lamM_bad {E : Env} {X : Nat → Bool → Res Nd} {i k : Nat} {kd : Nd} {u3 u4 : Bool} (h : X (i + 1) true = .ok kd k) (hc : E.is k 6 E.close = true) (h3 : kd.uses 3 = u3) (h4 : kd.uses 4 = u4) (h5 : (u3 && u4) = false) (h6 : ((E.lone && u4) || (!E.lone && u3)) = true) : E.lamM X i = .bad 2 i := by
 rw [Env.lamM, h, Res.bind_ok, if_pos hc, h3, h4, if_neg (by rw [h5]; decide), if_pos h6]
set_option maxRecDepth 100000 in
set_option maxHeartbeats 16000000 in
theorem lambda_any (E : Env) (bp : Nat) (D : Int) (hX : ExprAt E bp D) (hD0 : 0 ≤ D) (hD : D ≤ 24) (i k : Nat) (n : Int) (w : World) (hS : Sits E bp w) (hop : E.is i 5 E.open_ = true) (hsh : E.shut i = some k) (hn0 : 0 ≤ n) (hn : n ≤ 75 + D) (hp : w.heap[bp]? = some (pcell E i D n)) :
  Calls Try.prog 72 #[.pointer (some ⟨bp, 0, none⟩)] w (FunPost E bp (E.lamM (E.X D) i) i (k + 1) D n w) := by
 have hil := Env.is_lt hop
 have hln := hS.env.ln
 have hbp := blk_lt hp
 have HX := Lib.hid hX
 have HSH := Lib.hid hsh
 have HOP := Lib.hid hop
 have HM1 := Lib.hid (pm_alloc (pm_refl hp) (.cells #[.int .i64 0, .int .i64 0, .string ⟨#[]⟩, .slice none 0 0, .slice none 0 0, .slice none 0 0, .int .i64 0] 39))
 have HR1 := Lib.hid (blk_new w (.cells #[.int .i64 0, .int .i64 0, .string ⟨#[]⟩, .slice none 0 0, .slice none 0 0, .slice none 0 0, .int .i64 0] 39))
 have HS := Lib.hid hS
 have c15 := blk_cell hp 15
 obtain ⟨i1, hi1⟩ : ∃ i1, i + 1 = i1 := ⟨_, rfl⟩
 have hw1 : IntKind.i64.wrap ((i : Int) + 1) = (i1 : Int) := (wraps_i64 _ (by omega) (by omega)).trans (by omega)
 have hw2 : IntKind.i64.wrap (n + 1) = n + 1 := wraps_i64 _ (by omega) (by omega)
 have hw3 : IntKind.i64.wrap n = n := wraps_i64 _ (by omega) (by omega)
 have hil1 : i1 ≤ E.L.length := by omega
 have HI1 := Lib.hid hi1
 clear hX hsh hop hS hp hi1
 go_enter Try.func72, Try.ntmps72
 go_wp2_with fail
 refine (here_any E bp i D n _ (HS.out.pm HM1.out).env HM1.out.2).mono ?_
 rintro e w2 ⟨at_, q, rfl, rfl, hat⟩
 have HAT := Lib.hid hat
 clear hat
 have HM2 := Lib.hid (pm_drewN HM1.out q)
 have HR2 := Lib.hid (show ((w.alloc (.cells #[.int .i64 0, .int .i64 0, .string ⟨#[]⟩, .slice none 0 0, .slice none 0 0, .slice none 0 0, .int .i64 0] 39)).drewN q).heap[w.heap.size]? = _ from HR1.out)
 obtain ⟨W2, hW2⟩ : ∃ W2, (w.alloc (.cells #[.int .i64 0, .int .i64 0, .string ⟨#[]⟩, .slice none 0 0, .slice none 0 0, .slice none 0 0, .int .i64 0] 39)).drewN q = W2 := ⟨_, rfl⟩
 rw [hW2] at HM2 HR2 ⊢
 clear hW2 HM1 HR1 c15
 have c15 := blk_cell HM2.out.2 15
 have c18 := blk_cell HM2.out.2 18
 have f15 := blk_frozen HM2.out.2 15
 have f18 := blk_frozen HM2.out.2 18
 have HM3 := Lib.hid (pm_in (pm_place HM2.out i1) (n + 1))
 have HR3 := Lib.hid (blk_far (p := ⟨bp, 18, none⟩) (blk_far (p := ⟨bp, 15, none⟩) HR2.out (by simp; omega) (.int .i64 (i1 : Int))) (by simp; omega) (.int .i64 (n + 1)))
 go_wp2_with fail
 refine (HX.out i1 (n + 1) _ (HS.out.pm HM3.out) hil1 (by omega) (by omega) HM3.out.2).mono ?_
 rintro e w3 (ht | ⟨j, v, kd, rfl, hm3, hna, hij, hjl, hbal, hsz, hlit, hres⟩)
 ·obtain ⟨er, ix, p', d', n', hrb, rfl, hpm⟩ := ht
  go_wp2
  exact ⟨rfl, .inl ⟨er, ix, p', d', n', by rw [Env.lamM, HI1.out, ← decide_eq_true (show 0 < n + 1 by omega), hrb]; rfl, rfl, pm_step HM3.out hpm⟩⟩
 ·obtain ⟨o, l, A, c, a, vs, rfl, -, -, -, -⟩ := hna.form
  have HRES := Lib.hid (show E.X D (i + 1) true = .ok kd j by rw [HI1.out, ← decide_eq_true (show 0 < n + 1 by omega)]; exact hres)
  clear hres
  have hwx : w.heap.size < ((W2.setCell ⟨bp, 15, none⟩ (.int .i64 (i1 : Int))).setCell ⟨bp, 18, none⟩ (.int .i64 (n + 1))).heap.size := by have := blk_lt HR2.out; simpa [World.setCell] using this
  have HM4 := Lib.hid (pm_step HM3.out hm3)
  have HR4 := Lib.hid (blk_pm HR3.out hm3 (by omega))
  have HNA := Lib.hid (hna.mono (T := fun b => w.heap.size < b) (Nat.le_refl _) (fun b hS _ => ⟨Nat.lt_of_lt_of_le hwx hS, rfl⟩))
  have HBAL := Lib.hid hbal
  have HSZ := Lib.hid hsz
  clear hm3 hna hbal hsz hlit c15 c18 f15 f18 HM2 HR2 HM3 HR3
  have c18 := blk_cell HM4.out.2 18
  have f18 := blk_frozen HM4.out.2 18
  have hb4 := blk_lt HM4.out.2
  have hwb : w.heap.size ≤ w3.heap.size := HM4.out.1.size
  obtain ⟨F, hF⟩ : ∃ F : Obj, Obj.cells #[.int .i64 kd.kind, .int .i64 o, .string kd.name, .slice l.sA l.sn l.sc, .slice l.cA l.cn l.cc, .slice A kd.kids.length c, .int .i64 a] 39 (0, 0) = F := ⟨_, rfl⟩
  have HM5 := Lib.hid (pm_alloc (pm_in HM4.out n) F)
  have HR5 := Lib.hid (blk_alloc (blk_far (p := ⟨bp, 18, none⟩) HR4.out (by simp; omega) (.int .i64 n)) F)
  have hf5 := blk_new (w3.setCell ⟨bp, 18, none⟩ (.int .i64 n)) F
  rw [show (w3.setCell ⟨bp, 18, none⟩ (.int .i64 n)).heap.size = w3.heap.size by simp [World.setCell]] at hf5
  have HF5 := Lib.hid hf5
  have HN5 := Lib.hid (HNA.out.pmS (pm_alloc (pm_in (pm_refl HM4.out.2) n) F) (fun b hb => by omega))
  have c6 := blk_cell HM4.out.2 6
  clear hf5
  subst hF
  go_wp2_with fail
  refine (take_any E bp j D n 6 E.close _ (HS.out.pm HM5.out) hjl HM5.out.2).mono ?_
  rintro e w6 (⟨hcl, rfl, hm6⟩ | ht)
  ·have HMW := Lib.hid (pm_step HM5.out hm6)
   have HRW := Lib.hid (blk_pm HR5.out hm6 (by omega))
   have hfw := blk_pm HF5.out hm6 (by omega)
   have HNW := Lib.hid (HN5.out.pmS hm6 (fun b hb => by omega))
   have HBALL := Lib.hid (show k = j ∧ Bal E.L i (j + 1) by
    obtain ⟨t, ht1, ht2⟩ := Env.is_kind HOP.out
    obtain ⟨u, hu1, hu2⟩ := Env.is_kind hcl
    have hb := HBAL.out
    rw [← HI1.out] at hb
    exact ⟨Option.some.inj (HSH.out.symm.trans (shut_bal ht1 ht2 hb hu1 hu2)), .brack t u ht1 ht2 hb hu1 hu2 (.nil _)⟩)
   obtain rfl := HBALL.out.1
   have hsk : kd.size ≤ 1000000 := by have := HSZ.out; omega
   have HCL := Lib.hid hcl
   have HSK := Lib.hid (show kd.size + 2 ≤ 2 * (k + 1 - i) by have := HSZ.out; have := HI1.out; omega)
   obtain ⟨u3, hu3⟩ : ∃ u, kd.uses 3 = u := ⟨_, rfl⟩
   obtain ⟨u4, hu4⟩ : ∃ u, kd.uses 4 = u := ⟨_, rfl⟩
   have U3 := Lib.hid (show ∀ w', NdAt (fun b => w.heap.size < b) w' (.agg #[.int .i64 kd.kind, .int .i64 o, .string kd.name, .slice l.sA l.sn l.sc, .slice l.cA l.cn l.cc, .slice A kd.kids.length c, .int .i64 a]) kd → Calls Try.prog 78 #[.agg #[.int .i64 kd.kind, .int .i64 o, .string kd.name, .slice l.sA l.sn l.sc, .slice l.cA l.cn l.cc, .slice A kd.kids.length c, .int .i64 a], .int .i64 3] w' (Adds (.bool u3) w') from fun w' h => by rw [← hu3]; exact uses_any 3 kd.size hsk _ kd _ w' (Nat.le_refl _) h)
   have U4 := Lib.hid (show ∀ w', NdAt (fun b => w.heap.size < b) w' (.agg #[.int .i64 kd.kind, .int .i64 o, .string kd.name, .slice l.sA l.sn l.sc, .slice l.cA l.cn l.cc, .slice A kd.kids.length c, .int .i64 a]) kd → Calls Try.prog 78 #[.agg #[.int .i64 kd.kind, .int .i64 o, .string kd.name, .slice l.sA l.sn l.sc, .slice l.cA l.cn l.cc, .slice A kd.kids.length c, .int .i64 a], .int .i64 4] w' (Adds (.bool u4) w') from fun w' h => by rw [← hu4]; exact uses_any 4 kd.size hsk _ kd _ w' (Nat.le_refl _) h)
   generalize hB3 : w3.heap.size = B3 at *
   have y0 := blk_cell hfw 0
   have y1 := blk_cell hfw 1
   have y2 := blk_cell hfw 2
   have y3 := blk_cell hfw 3
   have y4 := blk_cell hfw 4
   have y5 := blk_cell hfw 5
   have y6 := blk_cell hfw 6
   have hB3l := blk_lt hfw
   have hwl : w.heap.size ≤ w6.heap.size := HMW.out.1.size
   have E0 := Lib.hid (show ∀ w', Below w6.heap.size w6 w' → w'.cell? ⟨B3, 0, none⟩ = some (.int .i64 kd.kind) ∧ w'.cell? ⟨B3, 1, none⟩ = some (.int .i64 o) ∧ w'.cell? ⟨B3, 2, none⟩ = some (.string kd.name) ∧ w'.cell? ⟨B3, 3, none⟩ = some (.slice l.sA l.sn l.sc) ∧ w'.cell? ⟨B3, 4, none⟩ = some (.slice l.cA l.cn l.cc) ∧ w'.cell? ⟨B3, 5, none⟩ = some (.slice A kd.kids.length c) ∧ w'.cell? ⟨B3, 6, none⟩ = some (.int .i64 a) from fun w' h => ⟨cell_below h y0, cell_below h y1, cell_below h y2, cell_below h y3, cell_below h y4, cell_below h y5, cell_below h y6⟩)
   have HU3 := Lib.hid hu3
   have HU4 := Lib.hid hu4
   clear hu3 hu4 hfw hB3 HM4 HR4 HNA HBAL HSZ HM5 HR5 HF5 HN5 HSH HOP hm6 hcl c18 f18 c6
   cases u3 <;> cases u4
   ·obtain ⟨lo, hlo⟩ : ∃ b, E.lone = b := ⟨_, rfl⟩
    have HLO := Lib.hid hlo
    cases lo
    ·
     go_wp2_with fail
     go_region_held3 (fun w' => w'.cell? ⟨B3, 0, none⟩ = some (.int .i64 kd.kind) ∧ w'.cell? ⟨B3, 1, none⟩ = some (.int .i64 o) ∧ w'.cell? ⟨B3, 2, none⟩ = some (.string kd.name) ∧ w'.cell? ⟨B3, 3, none⟩ = some (.slice l.sA l.sn l.sc) ∧ w'.cell? ⟨B3, 4, none⟩ = some (.slice l.cA l.cn l.cc) ∧ w'.cell? ⟨B3, 5, none⟩ = some (.slice A kd.kids.length c) ∧ w'.cell? ⟨B3, 6, none⟩ = some (.int .i64 a))
      (first | go_keep | exact E0.out _ H9.out | exact E0.out _ H8.out | exact E0.out _ (Below.refl _ _).drew)
      (first
         | (go_at_call 78; (with_reducible refine (U3.out _ (HNW.out.below H8.out)).mono ?_); rintro e w9 ⟨rfl, hb9⟩; have H9 := Lib.hid (below_then H8.out H8.out.size hb9); clear hb9)
         | (go_at_call 78; (with_reducible refine (U4.out _ (HNW.out.below H8.out)).mono ?_); rintro e w9 ⟨rfl, hb9⟩; have H9 := Lib.hid (below_then H8.out H8.out.size hb9); clear hb9)
         | (go_at_call 78; (with_reducible refine (U3.out _ (HNW.out.below (Below.refl _ _).drew)).mono ?_); rintro e w8 ⟨rfl, hb8⟩; have H8 := Lib.hid (show Below w6.heap.size w6 w8 from ⟨hb8.os, hb8.tape, hb8.output, hb8.size, hb8.block⟩); clear hb8)
         | (go_at_call 78; (with_reducible refine (U4.out _ (HNW.out.below (Below.refl _ _).drew)).mono ?_); rintro e w8 ⟨rfl, hb8⟩; have H8 := Lib.hid (show Below w6.heap.size w6 w8 from ⟨hb8.os, hb8.tape, hb8.output, hb8.size, hb8.block⟩); clear hb8)
         | fail)
     all_goals
      have HM9 := Lib.hid (pm_below HMW.out H9.out)
      have HR9 := Lib.hid (blk_below HRW.out H9.out (blk_lt HRW.out))
      have HN9 := Lib.hid (HNW.out.below H9.out)
      obtain ⟨y0, y1, y2, y3, y4, y5, y6⟩ := E0.out _ H9.out
      have c12 := blk_cell HM9.out.2 12
      have hx9 := blk_lt HR9.out
      have x0 := blk_cell HR9.out 0
      have xf0 := blk_frozen HR9.out 0
      have x1 := blk_cell HR9.out 1
      have xf1 := blk_frozen HR9.out 1
      have x2 := blk_cell HR9.out 2
      have xf2 := blk_frozen HR9.out 2
      have x3 := blk_cell HR9.out 3
      have xf3 := blk_frozen HR9.out 3
      have x4 := blk_cell HR9.out 4
      have xf4 := blk_frozen HR9.out 4
      have x5 := blk_cell HR9.out 5
      have xf5 := blk_frozen HR9.out 5
      have x6 := blk_cell HR9.out 6
      have xf6 := blk_frozen HR9.out 6
      rw [HLO.out] at c12
      go_wp2_with fail
      refine (righted_any kd.size hsk _ kd _ w9 (Nat.le_refl _) HN9.out).mono ?_
      intro e w10 hpost
      obtain ⟨v', he', hna2, hb2⟩ := hpost
      obtain ⟨o2, l2, A2, c2, a2, vs2, hv2, -, -, -, -⟩ := hna2.form
      subst he' hv2
      have HN10 := Lib.hid (hna2.mono (T := fun b => w.heap.size < b) (Nat.le_refl _) (fun b hS _ => ⟨by rcases hS with h | h; exact h; omega, rfl⟩))
      have HM10 := Lib.hid (pm_below HM9.out hb2)
      have HR10 := Lib.hid (blk_below HR9.out hb2 (blk_lt HR9.out))
      have hrs := kd.righted_size
      clear hna2 hb2 x0 x1 x2 x3 x4 x5 x6 xf0 xf1 xf2 xf3 xf4 xf5 xf6
      have hx10 := blk_lt HR10.out
      have x0 := blk_cell HR10.out 0
      have xf0 := blk_frozen HR10.out 0
      have x1 := blk_cell HR10.out 1
      have xf1 := blk_frozen HR10.out 1
      have x2 := blk_cell HR10.out 2
      have xf2 := blk_frozen HR10.out 2
      have x3 := blk_cell HR10.out 3
      have xf3 := blk_frozen HR10.out 3
      have x4 := blk_cell HR10.out 4
      have xf4 := blk_frozen HR10.out 4
      have x5 := blk_cell HR10.out 5
      have xf5 := blk_frozen HR10.out 5
      have x6 := blk_cell HR10.out 6
      have xf6 := blk_frozen HR10.out 6
      go_wp2_with fail
      have hs10 : w.heap.size < w10.heap.size := hx10
      have hq := blk_alloc (seven_blk HR10.out (.int .i64 22) (.int .i64 0) (.string ⟨#[]⟩) (.slice none 0 0) (.slice none 0 0) (.slice (some ⟨w10.heap.size, 0, none⟩) 1 1) (.int .i64 at_)) (.cells #[.int .i64 kd.righted.kind, .int .i64 o2, .string kd.righted.name, .slice l2.sA l2.sn l2.sc, .slice l2.cA l2.cn l2.cc, .slice A2 kd.righted.kids.length c2, .int .i64 a2] 39)
      unfold sevenSet at hq
      have q0 := blk_cell hq 0
      have q1 := blk_cell hq 1
      have q2 := blk_cell hq 2
      have q3 := blk_cell hq 3
      have q4 := blk_cell hq 4
      have q5 := blk_cell hq 5
      have q6 := blk_cell hq 6
      refine bodyPost_ret (v := .agg #[.int .i64 22, .int .i64 0, .string ⟨#[]⟩, .slice none 0 0, .slice none 0 0, .slice (some ⟨w10.heap.size, 0, none⟩) 1 1, .int .i64 at_]) (by simp [results, Try.results72, go_sem, q0, q1, q2, q3, q4, q5, q6]) rfl ?_
      refine .inr ⟨_, .mk 22 0 ⟨#[]⟩ Lt.zero [kd.righted] at_, rfl, pm_alloc (pm_seven HM10.out (Nat.le_refl _) hbp _ _ _ _ _ _ _) _, (nd_row (fun b (hb : w.heap.size < b) => by omega) (nds_one HN10.out rfl) hs10 _ _ _ _ _ _ _ 22 0 ⟨#[]⟩ Lt.zero at_).mono (Nat.le_refl _) (fun b (hb : w.heap.size < b) _ => ⟨Nat.le_of_lt hb, rfl⟩), HBALL.out.2, ?_, (fun h => by cases h), by rw [← HAT.out]; exact lamM_one HRES.out HCL.out HU3.out HU4.out rfl (by rw [HLO.out]; rfl)⟩
      have := HSK.out
      simp only [Nd.size, sizes]
      omega
    ·
     go_wp2_with fail
     go_region_held3 (fun w' => w'.cell? ⟨B3, 0, none⟩ = some (.int .i64 kd.kind) ∧ w'.cell? ⟨B3, 1, none⟩ = some (.int .i64 o) ∧ w'.cell? ⟨B3, 2, none⟩ = some (.string kd.name) ∧ w'.cell? ⟨B3, 3, none⟩ = some (.slice l.sA l.sn l.sc) ∧ w'.cell? ⟨B3, 4, none⟩ = some (.slice l.cA l.cn l.cc) ∧ w'.cell? ⟨B3, 5, none⟩ = some (.slice A kd.kids.length c) ∧ w'.cell? ⟨B3, 6, none⟩ = some (.int .i64 a))
      (first | go_keep | exact E0.out _ H9.out | exact E0.out _ H8.out | exact E0.out _ (Below.refl _ _).drew)
      (first
         | (go_at_call 78; (with_reducible refine (U3.out _ (HNW.out.below H8.out)).mono ?_); rintro e w9 ⟨rfl, hb9⟩; have H9 := Lib.hid (below_then H8.out H8.out.size hb9); clear hb9)
         | (go_at_call 78; (with_reducible refine (U4.out _ (HNW.out.below H8.out)).mono ?_); rintro e w9 ⟨rfl, hb9⟩; have H9 := Lib.hid (below_then H8.out H8.out.size hb9); clear hb9)
         | (go_at_call 78; (with_reducible refine (U3.out _ (HNW.out.below (Below.refl _ _).drew)).mono ?_); rintro e w8 ⟨rfl, hb8⟩; have H8 := Lib.hid (show Below w6.heap.size w6 w8 from ⟨hb8.os, hb8.tape, hb8.output, hb8.size, hb8.block⟩); clear hb8)
         | (go_at_call 78; (with_reducible refine (U4.out _ (HNW.out.below (Below.refl _ _).drew)).mono ?_); rintro e w8 ⟨rfl, hb8⟩; have H8 := Lib.hid (show Below w6.heap.size w6 w8 from ⟨hb8.os, hb8.tape, hb8.output, hb8.size, hb8.block⟩); clear hb8)
         | fail)
     all_goals
      have HM9 := Lib.hid (pm_below HMW.out H9.out)
      have HR9 := Lib.hid (blk_below HRW.out H9.out (blk_lt HRW.out))
      have HN9 := Lib.hid (HNW.out.below H9.out)
      obtain ⟨y0, y1, y2, y3, y4, y5, y6⟩ := E0.out _ H9.out
      have c12 := blk_cell HM9.out.2 12
      have hx9 := blk_lt HR9.out
      have x0 := blk_cell HR9.out 0
      have xf0 := blk_frozen HR9.out 0
      have x1 := blk_cell HR9.out 1
      have xf1 := blk_frozen HR9.out 1
      have x2 := blk_cell HR9.out 2
      have xf2 := blk_frozen HR9.out 2
      have x3 := blk_cell HR9.out 3
      have xf3 := blk_frozen HR9.out 3
      have x4 := blk_cell HR9.out 4
      have xf4 := blk_frozen HR9.out 4
      have x5 := blk_cell HR9.out 5
      have xf5 := blk_frozen HR9.out 5
      have x6 := blk_cell HR9.out 6
      have xf6 := blk_frozen HR9.out 6
      rw [HLO.out] at c12
      go_wp2_with fail
      refine (righted_any kd.size hsk _ kd _ w9 (Nat.le_refl _) HN9.out).mono ?_
      intro e w10 hpost
      obtain ⟨v', he', hna2, hb2⟩ := hpost
      obtain ⟨o2, l2, A2, c2, a2, vs2, hv2, -, -, -, -⟩ := hna2.form
      subst he' hv2
      have HN10 := Lib.hid (hna2.mono (T := fun b => w.heap.size < b) (Nat.le_refl _) (fun b hS _ => ⟨by rcases hS with h | h; exact h; omega, rfl⟩))
      have HM10 := Lib.hid (pm_below HM9.out hb2)
      have HR10 := Lib.hid (blk_below HR9.out hb2 (blk_lt HR9.out))
      have hrs := kd.righted_size
      clear hna2 hb2 x0 x1 x2 x3 x4 x5 x6 xf0 xf1 xf2 xf3 xf4 xf5 xf6
      have hx10 := blk_lt HR10.out
      have x0 := blk_cell HR10.out 0
      have xf0 := blk_frozen HR10.out 0
      have x1 := blk_cell HR10.out 1
      have xf1 := blk_frozen HR10.out 1
      have x2 := blk_cell HR10.out 2
      have xf2 := blk_frozen HR10.out 2
      have x3 := blk_cell HR10.out 3
      have xf3 := blk_frozen HR10.out 3
      have x4 := blk_cell HR10.out 4
      have xf4 := blk_frozen HR10.out 4
      have x5 := blk_cell HR10.out 5
      have xf5 := blk_frozen HR10.out 5
      have x6 := blk_cell HR10.out 6
      have xf6 := blk_frozen HR10.out 6
      go_wp2_with fail
      have hs10 : w.heap.size < w10.heap.size := hx10
      have hq := blk_alloc (seven_blk HR10.out (.int .i64 22) (.int .i64 0) (.string ⟨#[]⟩) (.slice none 0 0) (.slice none 0 0) (.slice (some ⟨w10.heap.size, 0, none⟩) 1 1) (.int .i64 at_)) (.cells #[.int .i64 kd.righted.kind, .int .i64 o2, .string kd.righted.name, .slice l2.sA l2.sn l2.sc, .slice l2.cA l2.cn l2.cc, .slice A2 kd.righted.kids.length c2, .int .i64 a2] 39)
      unfold sevenSet at hq
      have q0 := blk_cell hq 0
      have q1 := blk_cell hq 1
      have q2 := blk_cell hq 2
      have q3 := blk_cell hq 3
      have q4 := blk_cell hq 4
      have q5 := blk_cell hq 5
      have q6 := blk_cell hq 6
      refine bodyPost_ret (v := .agg #[.int .i64 22, .int .i64 0, .string ⟨#[]⟩, .slice none 0 0, .slice none 0 0, .slice (some ⟨w10.heap.size, 0, none⟩) 1 1, .int .i64 at_]) (by simp [results, Try.results72, go_sem, q0, q1, q2, q3, q4, q5, q6]) rfl ?_
      refine .inr ⟨_, .mk 22 0 ⟨#[]⟩ Lt.zero [kd.righted] at_, rfl, pm_alloc (pm_seven HM10.out (Nat.le_refl _) hbp _ _ _ _ _ _ _) _, (nd_row (fun b (hb : w.heap.size < b) => by omega) (nds_one HN10.out rfl) hs10 _ _ _ _ _ _ _ 22 0 ⟨#[]⟩ Lt.zero at_).mono (Nat.le_refl _) (fun b (hb : w.heap.size < b) _ => ⟨Nat.le_of_lt hb, rfl⟩), HBALL.out.2, ?_, (fun h => by cases h), by rw [← HAT.out]; exact lamM_one HRES.out HCL.out HU3.out HU4.out rfl (by rw [HLO.out]; rfl)⟩
      have := HSK.out
      simp only [Nd.size, sizes]
      omega
   ·obtain ⟨lo, hlo⟩ : ∃ b, E.lone = b := ⟨_, rfl⟩
    have HLO := Lib.hid hlo
    cases lo
    ·
     go_wp2_with fail
     go_region_held3 (fun w' => w'.cell? ⟨B3, 0, none⟩ = some (.int .i64 kd.kind) ∧ w'.cell? ⟨B3, 1, none⟩ = some (.int .i64 o) ∧ w'.cell? ⟨B3, 2, none⟩ = some (.string kd.name) ∧ w'.cell? ⟨B3, 3, none⟩ = some (.slice l.sA l.sn l.sc) ∧ w'.cell? ⟨B3, 4, none⟩ = some (.slice l.cA l.cn l.cc) ∧ w'.cell? ⟨B3, 5, none⟩ = some (.slice A kd.kids.length c) ∧ w'.cell? ⟨B3, 6, none⟩ = some (.int .i64 a))
      (first | go_keep | exact E0.out _ H9.out | exact E0.out _ H8.out | exact E0.out _ (Below.refl _ _).drew)
      (first
         | (go_at_call 78; (with_reducible refine (U3.out _ (HNW.out.below H8.out)).mono ?_); rintro e w9 ⟨rfl, hb9⟩; have H9 := Lib.hid (below_then H8.out H8.out.size hb9); clear hb9)
         | (go_at_call 78; (with_reducible refine (U4.out _ (HNW.out.below H8.out)).mono ?_); rintro e w9 ⟨rfl, hb9⟩; have H9 := Lib.hid (below_then H8.out H8.out.size hb9); clear hb9)
         | (go_at_call 78; (with_reducible refine (U3.out _ (HNW.out.below (Below.refl _ _).drew)).mono ?_); rintro e w8 ⟨rfl, hb8⟩; have H8 := Lib.hid (show Below w6.heap.size w6 w8 from ⟨hb8.os, hb8.tape, hb8.output, hb8.size, hb8.block⟩); clear hb8)
         | (go_at_call 78; (with_reducible refine (U4.out _ (HNW.out.below (Below.refl _ _).drew)).mono ?_); rintro e w8 ⟨rfl, hb8⟩; have H8 := Lib.hid (show Below w6.heap.size w6 w8 from ⟨hb8.os, hb8.tape, hb8.output, hb8.size, hb8.block⟩); clear hb8)
         | fail)
     all_goals
      have HM9 := Lib.hid (pm_below HMW.out H9.out)
      have HR9 := Lib.hid (blk_below HRW.out H9.out (blk_lt HRW.out))
      have HN9 := Lib.hid (HNW.out.below H9.out)
      obtain ⟨y0, y1, y2, y3, y4, y5, y6⟩ := E0.out _ H9.out
      have c12 := blk_cell HM9.out.2 12
      have hx9 := blk_lt HR9.out
      have x0 := blk_cell HR9.out 0
      have xf0 := blk_frozen HR9.out 0
      have x1 := blk_cell HR9.out 1
      have xf1 := blk_frozen HR9.out 1
      have x2 := blk_cell HR9.out 2
      have xf2 := blk_frozen HR9.out 2
      have x3 := blk_cell HR9.out 3
      have xf3 := blk_frozen HR9.out 3
      have x4 := blk_cell HR9.out 4
      have xf4 := blk_frozen HR9.out 4
      have x5 := blk_cell HR9.out 5
      have xf5 := blk_frozen HR9.out 5
      have x6 := blk_cell HR9.out 6
      have xf6 := blk_frozen HR9.out 6
      rw [HLO.out] at c12
      go_wp2_with fail
      refine (righted_any kd.size hsk _ kd _ w9 (Nat.le_refl _) HN9.out).mono ?_
      intro e w10 hpost
      obtain ⟨v', he', hna2, hb2⟩ := hpost
      obtain ⟨o2, l2, A2, c2, a2, vs2, hv2, -, -, -, -⟩ := hna2.form
      subst he' hv2
      have HN10 := Lib.hid (hna2.mono (T := fun b => w.heap.size < b) (Nat.le_refl _) (fun b hS _ => ⟨by rcases hS with h | h; exact h; omega, rfl⟩))
      have HM10 := Lib.hid (pm_below HM9.out hb2)
      have HR10 := Lib.hid (blk_below HR9.out hb2 (blk_lt HR9.out))
      have hrs := kd.righted_size
      clear hna2 hb2 x0 x1 x2 x3 x4 x5 x6 xf0 xf1 xf2 xf3 xf4 xf5 xf6
      have hx10 := blk_lt HR10.out
      have x0 := blk_cell HR10.out 0
      have xf0 := blk_frozen HR10.out 0
      have x1 := blk_cell HR10.out 1
      have xf1 := blk_frozen HR10.out 1
      have x2 := blk_cell HR10.out 2
      have xf2 := blk_frozen HR10.out 2
      have x3 := blk_cell HR10.out 3
      have xf3 := blk_frozen HR10.out 3
      have x4 := blk_cell HR10.out 4
      have xf4 := blk_frozen HR10.out 4
      have x5 := blk_cell HR10.out 5
      have xf5 := blk_frozen HR10.out 5
      have x6 := blk_cell HR10.out 6
      have xf6 := blk_frozen HR10.out 6
      go_wp2_with fail
      have hs10 : w.heap.size < w10.heap.size := hx10
      have hq := blk_alloc (seven_blk HR10.out (.int .i64 22) (.int .i64 0) (.string ⟨#[]⟩) (.slice none 0 0) (.slice none 0 0) (.slice (some ⟨w10.heap.size, 0, none⟩) 1 1) (.int .i64 at_)) (.cells #[.int .i64 kd.righted.kind, .int .i64 o2, .string kd.righted.name, .slice l2.sA l2.sn l2.sc, .slice l2.cA l2.cn l2.cc, .slice A2 kd.righted.kids.length c2, .int .i64 a2] 39)
      unfold sevenSet at hq
      have q0 := blk_cell hq 0
      have q1 := blk_cell hq 1
      have q2 := blk_cell hq 2
      have q3 := blk_cell hq 3
      have q4 := blk_cell hq 4
      have q5 := blk_cell hq 5
      have q6 := blk_cell hq 6
      refine bodyPost_ret (v := .agg #[.int .i64 22, .int .i64 0, .string ⟨#[]⟩, .slice none 0 0, .slice none 0 0, .slice (some ⟨w10.heap.size, 0, none⟩) 1 1, .int .i64 at_]) (by simp [results, Try.results72, go_sem, q0, q1, q2, q3, q4, q5, q6]) rfl ?_
      refine .inr ⟨_, .mk 22 0 ⟨#[]⟩ Lt.zero [kd.righted] at_, rfl, pm_alloc (pm_seven HM10.out (Nat.le_refl _) hbp _ _ _ _ _ _ _) _, (nd_row (fun b (hb : w.heap.size < b) => by omega) (nds_one HN10.out rfl) hs10 _ _ _ _ _ _ _ 22 0 ⟨#[]⟩ Lt.zero at_).mono (Nat.le_refl _) (fun b (hb : w.heap.size < b) _ => ⟨Nat.le_of_lt hb, rfl⟩), HBALL.out.2, ?_, (fun h => by cases h), by rw [← HAT.out]; exact lamM_one HRES.out HCL.out HU3.out HU4.out rfl (by rw [HLO.out]; rfl)⟩
      have := HSK.out
      simp only [Nd.size, sizes]
      omega
    ·
     go_wp2_with fail
     go_region_held3 (fun w' => w'.cell? ⟨B3, 0, none⟩ = some (.int .i64 kd.kind) ∧ w'.cell? ⟨B3, 1, none⟩ = some (.int .i64 o) ∧ w'.cell? ⟨B3, 2, none⟩ = some (.string kd.name) ∧ w'.cell? ⟨B3, 3, none⟩ = some (.slice l.sA l.sn l.sc) ∧ w'.cell? ⟨B3, 4, none⟩ = some (.slice l.cA l.cn l.cc) ∧ w'.cell? ⟨B3, 5, none⟩ = some (.slice A kd.kids.length c) ∧ w'.cell? ⟨B3, 6, none⟩ = some (.int .i64 a))
      (first | go_keep | exact E0.out _ H9.out | exact E0.out _ H8.out | exact E0.out _ (Below.refl _ _).drew)
      (first
         | (go_at_call 78; (with_reducible refine (U3.out _ (HNW.out.below H8.out)).mono ?_); rintro e w9 ⟨rfl, hb9⟩; have H9 := Lib.hid (below_then H8.out H8.out.size hb9); clear hb9)
         | (go_at_call 78; (with_reducible refine (U4.out _ (HNW.out.below H8.out)).mono ?_); rintro e w9 ⟨rfl, hb9⟩; have H9 := Lib.hid (below_then H8.out H8.out.size hb9); clear hb9)
         | (go_at_call 78; (with_reducible refine (U3.out _ (HNW.out.below (Below.refl _ _).drew)).mono ?_); rintro e w8 ⟨rfl, hb8⟩; have H8 := Lib.hid (show Below w6.heap.size w6 w8 from ⟨hb8.os, hb8.tape, hb8.output, hb8.size, hb8.block⟩); clear hb8)
         | (go_at_call 78; (with_reducible refine (U4.out _ (HNW.out.below (Below.refl _ _).drew)).mono ?_); rintro e w8 ⟨rfl, hb8⟩; have H8 := Lib.hid (show Below w6.heap.size w6 w8 from ⟨hb8.os, hb8.tape, hb8.output, hb8.size, hb8.block⟩); clear hb8)
         | fail)
     all_goals
      have HM9 := Lib.hid (pm_below HMW.out H9.out)
      have HR9 := Lib.hid (blk_below HRW.out H9.out (blk_lt HRW.out))
      have HN9 := Lib.hid (HNW.out.below H9.out)
      obtain ⟨y0, y1, y2, y3, y4, y5, y6⟩ := E0.out _ H9.out
      have c12 := blk_cell HM9.out.2 12
      have hx9 := blk_lt HR9.out
      have x0 := blk_cell HR9.out 0
      have xf0 := blk_frozen HR9.out 0
      have x1 := blk_cell HR9.out 1
      have xf1 := blk_frozen HR9.out 1
      have x2 := blk_cell HR9.out 2
      have xf2 := blk_frozen HR9.out 2
      have x3 := blk_cell HR9.out 3
      have xf3 := blk_frozen HR9.out 3
      have x4 := blk_cell HR9.out 4
      have xf4 := blk_frozen HR9.out 4
      have x5 := blk_cell HR9.out 5
      have xf5 := blk_frozen HR9.out 5
      have x6 := blk_cell HR9.out 6
      have xf6 := blk_frozen HR9.out 6
      rw [HLO.out] at c12
      go_wp2_with fail
      refine (fail_any E bp (k + 1) D n i 2 _ (HS.out.pm HM9.out).env HM9.out.2).mono ?_
      rintro e w10 ⟨rfl, rfl⟩
      go_wp2
      exact ⟨rfl, .inl ⟨2, i, k + 1, D, n, lamM_bad HRES.out HCL.out HU3.out HU4.out rfl (by rw [HLO.out]; rfl), rfl, HM9.out⟩⟩
   ·obtain ⟨lo, hlo⟩ : ∃ b, E.lone = b := ⟨_, rfl⟩
    have HLO := Lib.hid hlo
    cases lo
    ·
     go_wp2_with fail
     go_region_held3 (fun w' => w'.cell? ⟨B3, 0, none⟩ = some (.int .i64 kd.kind) ∧ w'.cell? ⟨B3, 1, none⟩ = some (.int .i64 o) ∧ w'.cell? ⟨B3, 2, none⟩ = some (.string kd.name) ∧ w'.cell? ⟨B3, 3, none⟩ = some (.slice l.sA l.sn l.sc) ∧ w'.cell? ⟨B3, 4, none⟩ = some (.slice l.cA l.cn l.cc) ∧ w'.cell? ⟨B3, 5, none⟩ = some (.slice A kd.kids.length c) ∧ w'.cell? ⟨B3, 6, none⟩ = some (.int .i64 a))
      (first | go_keep | exact E0.out _ H9.out | exact E0.out _ H8.out | exact E0.out _ (Below.refl _ _).drew)
      (first
         | (go_at_call 78; (with_reducible refine (U3.out _ (HNW.out.below H8.out)).mono ?_); rintro e w9 ⟨rfl, hb9⟩; have H9 := Lib.hid (below_then H8.out H8.out.size hb9); clear hb9)
         | (go_at_call 78; (with_reducible refine (U4.out _ (HNW.out.below H8.out)).mono ?_); rintro e w9 ⟨rfl, hb9⟩; have H9 := Lib.hid (below_then H8.out H8.out.size hb9); clear hb9)
         | (go_at_call 78; (with_reducible refine (U3.out _ (HNW.out.below (Below.refl _ _).drew)).mono ?_); rintro e w8 ⟨rfl, hb8⟩; have H8 := Lib.hid (show Below w6.heap.size w6 w8 from ⟨hb8.os, hb8.tape, hb8.output, hb8.size, hb8.block⟩); clear hb8)
         | (go_at_call 78; (with_reducible refine (U4.out _ (HNW.out.below (Below.refl _ _).drew)).mono ?_); rintro e w8 ⟨rfl, hb8⟩; have H8 := Lib.hid (show Below w6.heap.size w6 w8 from ⟨hb8.os, hb8.tape, hb8.output, hb8.size, hb8.block⟩); clear hb8)
         | fail)
     all_goals
      have HM9 := Lib.hid (pm_below HMW.out H9.out)
      have HR9 := Lib.hid (blk_below HRW.out H9.out (blk_lt HRW.out))
      have HN9 := Lib.hid (HNW.out.below H9.out)
      obtain ⟨y0, y1, y2, y3, y4, y5, y6⟩ := E0.out _ H9.out
      have c12 := blk_cell HM9.out.2 12
      have hx9 := blk_lt HR9.out
      have x0 := blk_cell HR9.out 0
      have xf0 := blk_frozen HR9.out 0
      have x1 := blk_cell HR9.out 1
      have xf1 := blk_frozen HR9.out 1
      have x2 := blk_cell HR9.out 2
      have xf2 := blk_frozen HR9.out 2
      have x3 := blk_cell HR9.out 3
      have xf3 := blk_frozen HR9.out 3
      have x4 := blk_cell HR9.out 4
      have xf4 := blk_frozen HR9.out 4
      have x5 := blk_cell HR9.out 5
      have xf5 := blk_frozen HR9.out 5
      have x6 := blk_cell HR9.out 6
      have xf6 := blk_frozen HR9.out 6
      rw [HLO.out] at c12
      go_wp2_with fail
      refine (fail_any E bp (k + 1) D n i 2 _ (HS.out.pm HM9.out).env HM9.out.2).mono ?_
      rintro e w10 ⟨rfl, rfl⟩
      go_wp2
      exact ⟨rfl, .inl ⟨2, i, k + 1, D, n, lamM_bad HRES.out HCL.out HU3.out HU4.out rfl (by rw [HLO.out]; rfl), rfl, HM9.out⟩⟩
    ·
     go_wp2_with fail
     go_region_held3 (fun w' => w'.cell? ⟨B3, 0, none⟩ = some (.int .i64 kd.kind) ∧ w'.cell? ⟨B3, 1, none⟩ = some (.int .i64 o) ∧ w'.cell? ⟨B3, 2, none⟩ = some (.string kd.name) ∧ w'.cell? ⟨B3, 3, none⟩ = some (.slice l.sA l.sn l.sc) ∧ w'.cell? ⟨B3, 4, none⟩ = some (.slice l.cA l.cn l.cc) ∧ w'.cell? ⟨B3, 5, none⟩ = some (.slice A kd.kids.length c) ∧ w'.cell? ⟨B3, 6, none⟩ = some (.int .i64 a))
      (first | go_keep | exact E0.out _ H9.out | exact E0.out _ H8.out | exact E0.out _ (Below.refl _ _).drew)
      (first
         | (go_at_call 78; (with_reducible refine (U3.out _ (HNW.out.below H8.out)).mono ?_); rintro e w9 ⟨rfl, hb9⟩; have H9 := Lib.hid (below_then H8.out H8.out.size hb9); clear hb9)
         | (go_at_call 78; (with_reducible refine (U4.out _ (HNW.out.below H8.out)).mono ?_); rintro e w9 ⟨rfl, hb9⟩; have H9 := Lib.hid (below_then H8.out H8.out.size hb9); clear hb9)
         | (go_at_call 78; (with_reducible refine (U3.out _ (HNW.out.below (Below.refl _ _).drew)).mono ?_); rintro e w8 ⟨rfl, hb8⟩; have H8 := Lib.hid (show Below w6.heap.size w6 w8 from ⟨hb8.os, hb8.tape, hb8.output, hb8.size, hb8.block⟩); clear hb8)
         | (go_at_call 78; (with_reducible refine (U4.out _ (HNW.out.below (Below.refl _ _).drew)).mono ?_); rintro e w8 ⟨rfl, hb8⟩; have H8 := Lib.hid (show Below w6.heap.size w6 w8 from ⟨hb8.os, hb8.tape, hb8.output, hb8.size, hb8.block⟩); clear hb8)
         | fail)
     all_goals
      have HM9 := Lib.hid (pm_below HMW.out H9.out)
      have HR9 := Lib.hid (blk_below HRW.out H9.out (blk_lt HRW.out))
      have HN9 := Lib.hid (HNW.out.below H9.out)
      obtain ⟨y0, y1, y2, y3, y4, y5, y6⟩ := E0.out _ H9.out
      have c12 := blk_cell HM9.out.2 12
      have hx9 := blk_lt HR9.out
      have x0 := blk_cell HR9.out 0
      have xf0 := blk_frozen HR9.out 0
      have x1 := blk_cell HR9.out 1
      have xf1 := blk_frozen HR9.out 1
      have x2 := blk_cell HR9.out 2
      have xf2 := blk_frozen HR9.out 2
      have x3 := blk_cell HR9.out 3
      have xf3 := blk_frozen HR9.out 3
      have x4 := blk_cell HR9.out 4
      have xf4 := blk_frozen HR9.out 4
      have x5 := blk_cell HR9.out 5
      have xf5 := blk_frozen HR9.out 5
      have x6 := blk_cell HR9.out 6
      have xf6 := blk_frozen HR9.out 6
      rw [HLO.out] at c12
      go_wp2_with fail
      refine (righted_any kd.size hsk _ kd _ w9 (Nat.le_refl _) HN9.out).mono ?_
      intro e w10 hpost
      obtain ⟨v', he', hna2, hb2⟩ := hpost
      obtain ⟨o2, l2, A2, c2, a2, vs2, hv2, -, -, -, -⟩ := hna2.form
      subst he' hv2
      have HN10 := Lib.hid (hna2.mono (T := fun b => w.heap.size < b) (Nat.le_refl _) (fun b hS _ => ⟨by rcases hS with h | h; exact h; omega, rfl⟩))
      have HM10 := Lib.hid (pm_below HM9.out hb2)
      have HR10 := Lib.hid (blk_below HR9.out hb2 (blk_lt HR9.out))
      have hrs := kd.righted_size
      clear hna2 hb2 x0 x1 x2 x3 x4 x5 x6 xf0 xf1 xf2 xf3 xf4 xf5 xf6
      have hx10 := blk_lt HR10.out
      have x0 := blk_cell HR10.out 0
      have xf0 := blk_frozen HR10.out 0
      have x1 := blk_cell HR10.out 1
      have xf1 := blk_frozen HR10.out 1
      have x2 := blk_cell HR10.out 2
      have xf2 := blk_frozen HR10.out 2
      have x3 := blk_cell HR10.out 3
      have xf3 := blk_frozen HR10.out 3
      have x4 := blk_cell HR10.out 4
      have xf4 := blk_frozen HR10.out 4
      have x5 := blk_cell HR10.out 5
      have xf5 := blk_frozen HR10.out 5
      have x6 := blk_cell HR10.out 6
      have xf6 := blk_frozen HR10.out 6
      go_wp2_with fail
      have hs10 : w.heap.size < w10.heap.size := hx10
      have hq := blk_alloc (seven_blk HR10.out (.int .i64 22) (.int .i64 0) (.string ⟨#[]⟩) (.slice none 0 0) (.slice none 0 0) (.slice (some ⟨w10.heap.size, 0, none⟩) 1 1) (.int .i64 at_)) (.cells #[.int .i64 kd.righted.kind, .int .i64 o2, .string kd.righted.name, .slice l2.sA l2.sn l2.sc, .slice l2.cA l2.cn l2.cc, .slice A2 kd.righted.kids.length c2, .int .i64 a2] 39)
      unfold sevenSet at hq
      have q0 := blk_cell hq 0
      have q1 := blk_cell hq 1
      have q2 := blk_cell hq 2
      have q3 := blk_cell hq 3
      have q4 := blk_cell hq 4
      have q5 := blk_cell hq 5
      have q6 := blk_cell hq 6
      refine bodyPost_ret (v := .agg #[.int .i64 22, .int .i64 0, .string ⟨#[]⟩, .slice none 0 0, .slice none 0 0, .slice (some ⟨w10.heap.size, 0, none⟩) 1 1, .int .i64 at_]) (by simp [results, Try.results72, go_sem, q0, q1, q2, q3, q4, q5, q6]) rfl ?_
      refine .inr ⟨_, .mk 22 0 ⟨#[]⟩ Lt.zero [kd.righted] at_, rfl, pm_alloc (pm_seven HM10.out (Nat.le_refl _) hbp _ _ _ _ _ _ _) _, (nd_row (fun b (hb : w.heap.size < b) => by omega) (nds_one HN10.out rfl) hs10 _ _ _ _ _ _ _ 22 0 ⟨#[]⟩ Lt.zero at_).mono (Nat.le_refl _) (fun b (hb : w.heap.size < b) _ => ⟨Nat.le_of_lt hb, rfl⟩), HBALL.out.2, ?_, (fun h => by cases h), by rw [← HAT.out]; exact lamM_one HRES.out HCL.out HU3.out HU4.out rfl (by rw [HLO.out]; rfl)⟩
      have := HSK.out
      simp only [Nd.size, sizes]
      omega

   ·
    go_wp2_with fail
    go_region_held3 (fun w' => w'.cell? ⟨B3, 0, none⟩ = some (.int .i64 kd.kind) ∧ w'.cell? ⟨B3, 1, none⟩ = some (.int .i64 o) ∧ w'.cell? ⟨B3, 2, none⟩ = some (.string kd.name) ∧ w'.cell? ⟨B3, 3, none⟩ = some (.slice l.sA l.sn l.sc) ∧ w'.cell? ⟨B3, 4, none⟩ = some (.slice l.cA l.cn l.cc) ∧ w'.cell? ⟨B3, 5, none⟩ = some (.slice A kd.kids.length c) ∧ w'.cell? ⟨B3, 6, none⟩ = some (.int .i64 a))
     (first | go_keep | exact E0.out _ H9.out | exact E0.out _ H8.out | exact E0.out _ (Below.refl _ _).drew)
     (first
        | (go_at_call 78; (with_reducible refine (U3.out _ (HNW.out.below H8.out)).mono ?_); rintro e w9 ⟨rfl, hb9⟩; have H9 := Lib.hid (below_then H8.out H8.out.size hb9); clear hb9)
        | (go_at_call 78; (with_reducible refine (U4.out _ (HNW.out.below H8.out)).mono ?_); rintro e w9 ⟨rfl, hb9⟩; have H9 := Lib.hid (below_then H8.out H8.out.size hb9); clear hb9)
        | (go_at_call 78; (with_reducible refine (U3.out _ (HNW.out.below (Below.refl _ _).drew)).mono ?_); rintro e w8 ⟨rfl, hb8⟩; have H8 := Lib.hid (show Below w6.heap.size w6 w8 from ⟨hb8.os, hb8.tape, hb8.output, hb8.size, hb8.block⟩); clear hb8)
        | (go_at_call 78; (with_reducible refine (U4.out _ (HNW.out.below (Below.refl _ _).drew)).mono ?_); rintro e w8 ⟨rfl, hb8⟩; have H8 := Lib.hid (show Below w6.heap.size w6 w8 from ⟨hb8.os, hb8.tape, hb8.output, hb8.size, hb8.block⟩); clear hb8)
        | fail)
    all_goals
     have HM9 := Lib.hid (pm_below HMW.out H9.out)
     have HR9 := Lib.hid (blk_below HRW.out H9.out (blk_lt HRW.out))
     have HN9 := Lib.hid (HNW.out.below H9.out)
     obtain ⟨y0, y1, y2, y3, y4, y5, y6⟩ := E0.out _ H9.out
     have c12 := blk_cell HM9.out.2 12
     have hx9 := blk_lt HR9.out
     have x0 := blk_cell HR9.out 0
     have xf0 := blk_frozen HR9.out 0
     have x1 := blk_cell HR9.out 1
     have xf1 := blk_frozen HR9.out 1
     have x2 := blk_cell HR9.out 2
     have xf2 := blk_frozen HR9.out 2
     have x3 := blk_cell HR9.out 3
     have xf3 := blk_frozen HR9.out 3
     have x4 := blk_cell HR9.out 4
     have xf4 := blk_frozen HR9.out 4
     have x5 := blk_cell HR9.out 5
     have xf5 := blk_frozen HR9.out 5
     have x6 := blk_cell HR9.out 6
     have xf6 := blk_frozen HR9.out 6
     go_wp2_with fail
     have hs9 : w.heap.size < w9.heap.size := hx9
     have hq := blk_alloc (seven_blk HR9.out (.int .i64 23) (.int .i64 0) (.string ⟨#[]⟩) (.slice none 0 0) (.slice none 0 0) (.slice (some ⟨w9.heap.size, 0, none⟩) 1 1) (.int .i64 at_)) (.cells #[.int .i64 kd.kind, .int .i64 o, .string kd.name, .slice l.sA l.sn l.sc, .slice l.cA l.cn l.cc, .slice A kd.kids.length c, .int .i64 a] 39)
     unfold sevenSet at hq
     have q0 := blk_cell hq 0
     have q1 := blk_cell hq 1
     have q2 := blk_cell hq 2
     have q3 := blk_cell hq 3
     have q4 := blk_cell hq 4
     have q5 := blk_cell hq 5
     have q6 := blk_cell hq 6
     refine bodyPost_ret (v := .agg #[.int .i64 23, .int .i64 0, .string ⟨#[]⟩, .slice none 0 0, .slice none 0 0, .slice (some ⟨w9.heap.size, 0, none⟩) 1 1, .int .i64 at_]) (by simp [results, Try.results72, go_sem, q0, q1, q2, q3, q4, q5, q6]) rfl ?_
     refine .inr ⟨_, .mk 23 0 ⟨#[]⟩ Lt.zero [kd] at_, rfl, pm_alloc (pm_seven HM9.out (Nat.le_refl _) hbp _ _ _ _ _ _ _) _, (nd_row (fun b (hb : w.heap.size < b) => by omega) (nds_one HN9.out rfl) hs9 _ _ _ _ _ _ _ 23 0 ⟨#[]⟩ Lt.zero at_).mono (Nat.le_refl _) (fun b (hb : w.heap.size < b) _ => ⟨Nat.le_of_lt hb, rfl⟩), HBALL.out.2, ?_, (fun h => by cases h), by rw [← HAT.out]; exact lamM_both HRES.out HCL.out HU3.out HU4.out⟩
     have := HSK.out
     simp only [Nd.size, sizes]
     omega

  ·obtain ⟨hnt, rfl, hpm⟩ := ht
   go_wp2
   exact ⟨rfl, .inl ⟨2, j, j, D, n, by rw [Env.lamM, HRES.out, Res.bind_ok, if_neg (by rw [hnt]; decide)], rfl, pm_step HM5.out hpm⟩⟩
end Go.Proofs.Ytollglblkbjgjaa
