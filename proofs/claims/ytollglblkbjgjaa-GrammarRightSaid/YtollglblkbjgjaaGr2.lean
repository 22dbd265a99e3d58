/- Contract of expr where no operand can be read. Conditions: the parser's block; what it calls keeps its word one bracket deeper. -/
import Derived.Test.YtollglblkbjgjaaGn
import Derived.Test.YtollglblkbjgjaaGp
import Derived.Test.YtollglblkbjgjaaGr0
namespace Go.Proofs.Ytollglblkbjgjaa
open Go.RowKit

set_option maxRecDepth 100000 in
set_option maxHeartbeats 16000000 in
theorem expr_noop (E : Env) (bp : Nat) (d : Int) (hX : ExprAt E bp (d + 1)) (hF : FunAt E bp (d + 1)) (hts : ∀ (i : Nat) (t : Tok), E.L[i]? = some t → t.text.size ≤ 9223372036854775000) (hd0 : 0 ≤ d) (hd : d < 24) (i : Nat) (n : Int) (w : World) (hS : Sits E bp w) (hi : i ≤ E.L.length) (hn0 : 0 ≤ n) (hn : n ≤ 76 + d) (hp : w.heap[bp]? = some (pcell E i d n)) (R : Res Nd) (hsk : E.skipF (E.L.length + 1) i false = none) (er0 : Int) (ix0 : Nat) (hop : E.opM (fun k => E.X (d + 1) k (decide (0 < n))) i (decide (0 < n)) = .bad er0 ix0) (hRM : R = .bad er0 ix0) :
  Calls Try.prog 20 #[.pointer (some ⟨bp, 0, none⟩)] w (ExprPost E bp R i d n w) := by
 have hln := hS.env.ln
 have hbp := blk_lt hp
 have HX := Lib.hid hX
 have HF := Lib.hid hF
 have HTS := Lib.hid hts
 have HS := Lib.hid hS
 have HRM := Lib.hid hRM
 have hm0 := pm_alloc (pm_alloc (pm_refl hp) (.cells #[.pointer (some ⟨bp, 0, none⟩)] 54)) (.cells #[.int .i64 0, .int .i64 0, .string ⟨#[]⟩, .slice none 0 0, .slice none 0 0, .slice none 0 0, .int .i64 0] 39)
 have hc0 := blk_alloc (blk_new w (.cells #[.pointer (some ⟨bp, 0, none⟩)] 54)) (.cells #[.int .i64 0, .int .i64 0, .string ⟨#[]⟩, .slice none 0 0, .slice none 0 0, .slice none 0 0, .int .i64 0] 39)
 have hr0 := blk_new (w.alloc (.cells #[.pointer (some ⟨bp, 0, none⟩)] 54)) (.cells #[.int .i64 0, .int .i64 0, .string ⟨#[]⟩, .slice none 0 0, .slice none 0 0, .slice none 0 0, .int .i64 0] 39)
 rw [show (w.alloc (.cells #[.pointer (some ⟨bp, 0, none⟩)] 54)).heap.size = w.heap.size + 1 by simp] at hr0
 have HM0 := Lib.hid hm0
 have HC0 := Lib.hid hc0
 have HR0 := Lib.hid hr0
 have hmf : ∀ (fn : Fn) (first cap : Array Value) (w : World), (Instr.makeFunc fn first cap).run Try.prog w = .ok (.func fn first cap) w := fun _ _ _ _ => rfl
 clear hX hF hS hp hm0 hc0 hr0 hts hRM
 go_enter_defers Try.func20, Try.ntmps20
 go_wp2_with fail
 refine (down_any E bp i d n _ (HS.out.pm HM0.out) hd0 (by omega) HM0.out.2).mono ?_
 rintro e w1 (⟨hd24, rfl, hm1⟩ | ⟨hdeep, -, -⟩)
 rotate_left
 ·omega
 have HM1 := Lib.hid (pm_step HM0.out hm1)
 have HC1 := Lib.hid (blk_pm HC0.out hm1 (by omega))
 have HR1 := Lib.hid (blk_pm HR0.out hm1 (by omega))
 have c0 := blk_cell HC1.out 0
 clear hm1 HM0 HC0 HR0
 go_wp2_with fail
 refine (here_any E bp i (d + 1) n w1 (HS.out.pm HM1.out).env HM1.out.2).mono ?_
 rintro e w2 ⟨at_, dq, rfl, rfl, hat⟩
 have HAT := Lib.hid hat
 clear hat
 have HM2 := Lib.hid (pm_drewN HM1.out dq)
 have HC2 := Lib.hid (show (w1.drewN dq).heap[w.heap.size]? = _ from HC1.out)
 have HR2 := Lib.hid (show (w1.drewN dq).heap[w.heap.size + 1]? = _ from HR1.out)
 obtain ⟨W2, hW2⟩ : ∃ W2, w1.drewN dq = W2 := ⟨_, rfl⟩
 rw [hW2] at HM2 HC2 HR2 ⊢
 clear hW2 HM1 HC1 HR1 c0
 have c0 := blk_cell HC2.out 0
 have c15 := blk_cell HM2.out.2 15
 have hb2 := blk_lt HC2.out
 have E0 := Lib.hid (show ∀ w', Below W2.heap.size W2 w' → w'.cell? ⟨w.heap.size, 0, none⟩ = some (.pointer (some ⟨bp, 0, none⟩)) ∧ w'.cell? ⟨bp, 15, none⟩ = some (.int .i64 (i : Int)) from fun w' h => ⟨cell_below h c0, cell_below h c15⟩)
 have HSK := Lib.hid (fun w' (h : Below W2.heap.size W2 w') => skip_any E bp i (d + 1) n (E.L.length + 1) i false w' (by omega) hi ((HS.out.pm HM2.out).env.below h) (blk_below HM2.out.2 h (blk_lt HM2.out.2)))
 rw [hsk] at HSK
 clear hsk
 dsimp only [placeVal] at HSK
 go_wp2_with fail
 go_region_held3 (fun w' => w'.cell? ⟨w.heap.size, 0, none⟩ = some (.pointer (some ⟨bp, 0, none⟩)) ∧ w'.cell? ⟨bp, 15, none⟩ = some (.int .i64 (i : Int)))
  (first | go_keep | exact E0.out _ H8.out | exact E0.out _ (Below.refl _ _).drew)
  (first
     | (go_at_call 32; (with_reducible refine (HSK.out _ (Below.refl _ _).drew).mono ?_); rintro e w8 ⟨rfl, hb8⟩; have H8 := Lib.hid (show Below W2.heap.size W2 w8 from ⟨hb8.os, hb8.tape, hb8.output, hb8.size, hb8.block⟩); clear hb8)
     | fail)
 all_goals
  have HM8 := Lib.hid (pm_below HM2.out H8.out)
  have HC8 := Lib.hid (blk_below HC2.out H8.out (blk_lt HC2.out))
  have HR8 := Lib.hid (blk_below HR2.out H8.out (blk_lt HR2.out))
  clear HM2 HC2 HR2 H8 c0 c15 E0 HSK
  have c0 := blk_cell HC8.out 0
  go_wp2_with fail
  refine (operand_any E bp (d + 1) HX.out HTS.out i n w8 (HS.out.pm HM8.out) hn0 (by omega) HM8.out.2).mono ?_
  rintro e w5 (ht | ⟨j', v, ka, rfl, hm5, hna, hij, hjl, hbal, hsz, hlit, hres⟩)
  ·obtain ⟨er, ix, p', d', n', hrb, rfl, hpm⟩ := ht
   have HRB := Lib.hid (show R = .bad er ix by rw [HRM.out, ← hop]; exact hrb)
   clear hrb
   go_wp2
   have hcend := blk_pm HC8.out hpm (by omega)
   refine leaves_cons (f := 30) (args := #[.pointer (some ⟨w.heap.size, 0, none⟩)]) (by simp) (by simp [go_sem]) ?_
   refine (up30 E bp p' d' n' w.heap.size _ w5 (blk_cell (hcend) 0) hpm.2).mono ?_
   rintro e u' w'' ⟨rfl, rfl, hpm2⟩
   show ExprPost E bp R i d n w (.panicked (faultChain er (E.here ix))) w''
   exact .inl ⟨er, ix, p', wrap64 (d' - 1), n', HRB.out, rfl, pm_step HM8.out (pm_step hpm hpm2)⟩
  ·rw [hres] at hop
   cases hop
end Go.Proofs.Ytollglblkbjgjaa
namespace Go.Proofs.Ytollglblkbjgjaa
open Go.RowKit

set_option maxRecDepth 100000 in
set_option maxHeartbeats 16000000 in
theorem expr_op (E : Env) (bp : Nat) (d : Int) (hX : ExprAt E bp (d + 1)) (hF : FunAt E bp (d + 1)) (hts : ∀ (i : Nat) (t : Tok), E.L[i]? = some t → t.text.size ≤ 9223372036854775000) (hd0 : 0 ≤ d) (hd : d < 24) (i : Nat) (n : Int) (w : World) (hS : Sits E bp w) (hi : i ≤ E.L.length) (hn0 : 0 ≤ n) (hn : n ≤ 76 + d) (hp : w.heap[bp]? = some (pcell E i d n)) (R : Res Nd) (hsk : E.skipF (E.L.length + 1) i false = none) (ka : Nd) (j : Nat) (hop : E.opM (fun k => E.X (d + 1) k (decide (0 < n))) i (decide (0 < n)) = .ok ka j) (he : E.ends j = true) (hRM : R = .ok ka j) :
  Calls Try.prog 20 #[.pointer (some ⟨bp, 0, none⟩)] w (ExprPost E bp R i d n w) := by
 have hln := hS.env.ln
 have hbp := blk_lt hp
 have HX := Lib.hid hX
 have HF := Lib.hid hF
 have HTS := Lib.hid hts
 have HS := Lib.hid hS
 have HRM := Lib.hid hRM
 have hm0 := pm_alloc (pm_alloc (pm_refl hp) (.cells #[.pointer (some ⟨bp, 0, none⟩)] 54)) (.cells #[.int .i64 0, .int .i64 0, .string ⟨#[]⟩, .slice none 0 0, .slice none 0 0, .slice none 0 0, .int .i64 0] 39)
 have hc0 := blk_alloc (blk_new w (.cells #[.pointer (some ⟨bp, 0, none⟩)] 54)) (.cells #[.int .i64 0, .int .i64 0, .string ⟨#[]⟩, .slice none 0 0, .slice none 0 0, .slice none 0 0, .int .i64 0] 39)
 have hr0 := blk_new (w.alloc (.cells #[.pointer (some ⟨bp, 0, none⟩)] 54)) (.cells #[.int .i64 0, .int .i64 0, .string ⟨#[]⟩, .slice none 0 0, .slice none 0 0, .slice none 0 0, .int .i64 0] 39)
 rw [show (w.alloc (.cells #[.pointer (some ⟨bp, 0, none⟩)] 54)).heap.size = w.heap.size + 1 by simp] at hr0
 have HM0 := Lib.hid hm0
 have HC0 := Lib.hid hc0
 have HR0 := Lib.hid hr0
 have hmf : ∀ (fn : Fn) (first cap : Array Value) (w : World), (Instr.makeFunc fn first cap).run Try.prog w = .ok (.func fn first cap) w := fun _ _ _ _ => rfl
 clear hX hF hS hp hm0 hc0 hr0 hts hRM
 go_enter_defers Try.func20, Try.ntmps20
 go_wp2_with fail
 refine (down_any E bp i d n _ (HS.out.pm HM0.out) hd0 (by omega) HM0.out.2).mono ?_
 rintro e w1 (⟨hd24, rfl, hm1⟩ | ⟨hdeep, -, -⟩)
 rotate_left
 ·omega
 have HM1 := Lib.hid (pm_step HM0.out hm1)
 have HC1 := Lib.hid (blk_pm HC0.out hm1 (by omega))
 have HR1 := Lib.hid (blk_pm HR0.out hm1 (by omega))
 have c0 := blk_cell HC1.out 0
 clear hm1 HM0 HC0 HR0
 go_wp2_with fail
 refine (here_any E bp i (d + 1) n w1 (HS.out.pm HM1.out).env HM1.out.2).mono ?_
 rintro e w2 ⟨at_, dq, rfl, rfl, hat⟩
 have HAT := Lib.hid hat
 clear hat
 have HM2 := Lib.hid (pm_drewN HM1.out dq)
 have HC2 := Lib.hid (show (w1.drewN dq).heap[w.heap.size]? = _ from HC1.out)
 have HR2 := Lib.hid (show (w1.drewN dq).heap[w.heap.size + 1]? = _ from HR1.out)
 obtain ⟨W2, hW2⟩ : ∃ W2, w1.drewN dq = W2 := ⟨_, rfl⟩
 rw [hW2] at HM2 HC2 HR2 ⊢
 clear hW2 HM1 HC1 HR1 c0
 have c0 := blk_cell HC2.out 0
 have c15 := blk_cell HM2.out.2 15
 have hb2 := blk_lt HC2.out
 have E0 := Lib.hid (show ∀ w', Below W2.heap.size W2 w' → w'.cell? ⟨w.heap.size, 0, none⟩ = some (.pointer (some ⟨bp, 0, none⟩)) ∧ w'.cell? ⟨bp, 15, none⟩ = some (.int .i64 (i : Int)) from fun w' h => ⟨cell_below h c0, cell_below h c15⟩)
 have HSK := Lib.hid (fun w' (h : Below W2.heap.size W2 w') => skip_any E bp i (d + 1) n (E.L.length + 1) i false w' (by omega) hi ((HS.out.pm HM2.out).env.below h) (blk_below HM2.out.2 h (blk_lt HM2.out.2)))
 rw [hsk] at HSK
 clear hsk
 dsimp only [placeVal] at HSK
 go_wp2_with fail
 go_region_held3 (fun w' => w'.cell? ⟨w.heap.size, 0, none⟩ = some (.pointer (some ⟨bp, 0, none⟩)) ∧ w'.cell? ⟨bp, 15, none⟩ = some (.int .i64 (i : Int)))
  (first | go_keep | exact E0.out _ H8.out | exact E0.out _ (Below.refl _ _).drew)
  (first
     | (go_at_call 32; (with_reducible refine (HSK.out _ (Below.refl _ _).drew).mono ?_); rintro e w8 ⟨rfl, hb8⟩; have H8 := Lib.hid (show Below W2.heap.size W2 w8 from ⟨hb8.os, hb8.tape, hb8.output, hb8.size, hb8.block⟩); clear hb8)
     | fail)
 all_goals
  have HM8 := Lib.hid (pm_below HM2.out H8.out)
  have HC8 := Lib.hid (blk_below HC2.out H8.out (blk_lt HC2.out))
  have HR8 := Lib.hid (blk_below HR2.out H8.out (blk_lt HR2.out))
  clear HM2 HC2 HR2 H8 c0 c15 E0 HSK
  have c0 := blk_cell HC8.out 0
  go_wp2_with fail
  refine (operand_any E bp (d + 1) HX.out HTS.out i n w8 (HS.out.pm HM8.out) hn0 (by omega) HM8.out.2).mono ?_
  rintro e w5 (ht | ⟨j', v, ka', rfl, hm5, hna, hij, hjl, hbal, hsz, hlit, hres⟩)
  ·obtain ⟨er, ix, p', d', n', hrb, rfl, hpm⟩ := ht
   rw [hrb] at hop
   cases hop
  ·obtain ⟨rfl, rfl⟩ : ka = ka' ∧ j = j' := by rw [hop] at hres; cases hres; exact ⟨rfl, rfl⟩
   obtain ⟨o1, l1, A1, c1, a1, vs, rfl, hl, -, -, -⟩ := hna.form
   have HM6 := Lib.hid (pm_alloc (pm_step HM8.out hm5) (.cells #[.int .i64 ka.kind, .int .i64 o1, .string ka.name, .slice l1.sA l1.sn l1.sc, .slice l1.cA l1.cn l1.cc, .slice A1 ka.kids.length c1, .int .i64 a1] 39))
   have HC6 := Lib.hid (blk_alloc (blk_pm HC8.out hm5 (by omega)) (.cells #[.int .i64 ka.kind, .int .i64 o1, .string ka.name, .slice l1.sA l1.sn l1.sc, .slice l1.cA l1.cn l1.cc, .slice A1 ka.kids.length c1, .int .i64 a1] 39))
   have HR6 := Lib.hid (blk_alloc (blk_pm HR8.out hm5 (by omega)) (.cells #[.int .i64 ka.kind, .int .i64 o1, .string ka.name, .slice l1.sA l1.sn l1.sc, .slice l1.cA l1.cn l1.cc, .slice A1 ka.kids.length c1, .int .i64 a1] 39))
   have HA6 := Lib.hid (blk_new w5 (.cells #[.int .i64 ka.kind, .int .i64 o1, .string ka.name, .slice l1.sA l1.sn l1.sc, .slice l1.cA l1.cn l1.cc, .slice A1 ka.kids.length c1, .int .i64 a1] 39))
   have hs8 : w.heap.size + 1 < w8.heap.size := blk_lt HR8.out
   have hs5 : w8.heap.size ≤ w5.heap.size := hm5.1.size
   have HNA6 := Lib.hid ((hna.mono (T := fun b => w.heap.size + 1 < b ∧ b ≠ w5.heap.size) (Nat.le_refl _) (fun b (hb : w8.heap.size ≤ b) hlt => ⟨⟨by omega, by omega⟩, rfl⟩)).below ((Below.refl _ w5).alloc (Nat.le_refl _) (.cells #[.int .i64 ka.kind, .int .i64 o1, .string ka.name, .slice l1.sA l1.sn l1.sc, .slice l1.cA l1.cn l1.cc, .slice A1 ka.kids.length c1, .int .i64 a1] 39)))
   obtain ⟨W6, hW6⟩ : ∃ W6, w5.alloc (.cells #[.int .i64 ka.kind, .int .i64 o1, .string ka.name, .slice l1.sA l1.sn l1.sc, .slice l1.cA l1.cn l1.cc, .slice A1 ka.kids.length c1, .int .i64 a1] 39) = W6 := ⟨_, rfl⟩
   rw [hW6] at HM6 HC6 HR6 HA6 HNA6
   have HLL := Lib.hid hl
   have HBAL := Lib.hid hbal
   have HSZ := Lib.hid hsz
   have HLIT := Lib.hid hlit
   have HIJ := Lib.hid hij
   clear hl hm5 hna hbal hsz hlit hij hres hop HM8 HC8 HR8
   have c0' := blk_cell HC6.out 0
   have c14' := blk_cell HM6.out.2 14
   have c15' := blk_cell HM6.out.2 15
   go_wp2_with fail
   generalize w5.heap.size = bA at *
   have hbA6 := blk_lt HA6.out
   rcases Nat.lt_or_ge j E.L.length with hlt | hge
   ·obtain ⟨t, tb, toff, ht, hA, htk⟩ := (HS.out.pm HM6.out).env.tok hlt
    have k0 := htk.k0
    have htb := World.block_lt_of_cell? _ _ k0
    rw [hA] at c14'
    have hj0 : (0 : Int) ≤ (j : Int) := by omega
    have hj1 : (j : Int) < (E.L.length : Int) := by omega
    have d1 : decide ((E.L.length : Int) ≤ (j : Int)) = false := decide_eq_false (by omega)
    have HTK := Lib.hid ht
    clear hA htk
    have h6 : t.kind = 6 := by rw [Env.ends, ht] at he; exact beq_iff_eq.1 he
    clear ht he
    rw [h6] at k0
    clear h6
    go_wp2_with fail
    go_quiet (fail)
    have HM7 := Lib.hid (pm_drewN HM6.out nq)
    have HC7 := Lib.hid (blk_drewN HC6.out nq)
    have HR7 := Lib.hid (blk_drewN HR6.out nq)
    have HA7 := Lib.hid (blk_drewN HA6.out nq)
    have HNA7 := Lib.hid (HNA6.out.below (below_drewN (Below.refl _ W6) nq))
    obtain ⟨W7, hW7⟩ : ∃ W7, W6.drewN nq = W7 := ⟨_, rfl⟩
    rw [hW7] at HM7 HC7 HR7 HA7 HNA7 ⊢
    clear hW7 c0' c14' c15'
    have y0 := blk_cell HA7.out 0
    have y1 := blk_cell HA7.out 1
    have y2 := blk_cell HA7.out 2
    have y3 := blk_cell HA7.out 3
    have y4 := blk_cell HA7.out 4
    have y5 := blk_cell HA7.out 5
    have y6 := blk_cell HA7.out 6
    have hxr := blk_lt HR7.out
    have x0 := blk_cell HR7.out 0
    have xf0 := blk_frozen HR7.out 0
    have x1 := blk_cell HR7.out 1
    have xf1 := blk_frozen HR7.out 1
    have x2 := blk_cell HR7.out 2
    have xf2 := blk_frozen HR7.out 2
    have x3 := blk_cell HR7.out 3
    have xf3 := blk_frozen HR7.out 3
    have x4 := blk_cell HR7.out 4
    have xf4 := blk_frozen HR7.out 4
    have x5 := blk_cell HR7.out 5
    have xf5 := blk_frozen HR7.out 5
    have x6 := blk_cell HR7.out 6
    have xf6 := blk_frozen HR7.out 6
    go_wp2_with fail
    have HME := Lib.hid (pm_seven HM7.out (Nat.le_succ _) hbp (.int .i64 ka.kind) (.int .i64 o1) (.string ka.name) (.slice l1.sA l1.sn l1.sc) (.slice l1.cA l1.cn l1.cc) (.slice A1 ka.kids.length c1) (.int .i64 a1))
    have HCE := Lib.hid ((seven_heap W7 (w.heap.size + 1) w.heap.size (by omega) (.int .i64 ka.kind) (.int .i64 o1) (.string ka.name) (.slice l1.sA l1.sn l1.sc) (.slice l1.cA l1.cn l1.cc) (.slice A1 ka.kids.length c1) (.int .i64 a1)).trans HC7.out)
    have HRE := Lib.hid (seven_blk HR7.out (.int .i64 ka.kind) (.int .i64 o1) (.string ka.name) (.slice l1.sA l1.sn l1.sc) (.slice l1.cA l1.cn l1.cc) (.slice A1 ka.kids.length c1) (.int .i64 a1))
    have HNE := Lib.hid (nd_set (B0 := w.heap.size + 1) HNA7.out (fun b hb => by have := hb.1; omega) (.int .i64 ka.kind) (.int .i64 o1) (.string ka.name) (.slice l1.sA l1.sn l1.sc) (.slice l1.cA l1.cn l1.cc) (.slice A1 ka.kids.length c1) (.int .i64 a1))
    obtain ⟨W9, hW9⟩ : ∃ W9, sevenSet W7 (w.heap.size + 1) (.int .i64 ka.kind) (.int .i64 o1) (.string ka.name) (.slice l1.sA l1.sn l1.sc) (.slice l1.cA l1.cn l1.cc) (.slice A1 ka.kids.length c1) (.int .i64 a1) = W9 := ⟨_, rfl⟩
    rw [hW9] at HME HCE HRE HNE
    unfold sevenSet at hW9
    rw [hW9]
    clear hW9
    refine leaves_cons (f := 30) (args := #[.pointer (some ⟨w.heap.size, 0, none⟩)]) (by simp) (by simp [go_sem]) ?_
    refine (up30 E bp j (d + 1) n w.heap.size _ W9 (blk_cell HCE.out 0) HME.out.2).mono ?_
    rintro e u' w10 ⟨rfl, rfl, hpm2⟩
    have hre := blk_pm HRE.out hpm2 (by omega)
    have q0 := blk_cell hre 0
    have q1 := blk_cell hre 1
    have q2 := blk_cell hre 2
    have q3 := blk_cell hre 3
    have q4 := blk_cell hre 4
    have q5 := blk_cell hre 5
    have q6 := blk_cell hre 6
    have hpm3 := pm_step HME.out hpm2
    rw [wrap64_back d (by omega) (by omega)] at hpm3
    refine ⟨.agg #[.int .i64 ka.kind, .int .i64 o1, .string ka.name, .slice l1.sA l1.sn l1.sc, .slice l1.cA l1.cn l1.cc, .slice A1 ka.kids.length c1, .int .i64 a1], by simp [results, Try.results20, go_sem, q0, q1, q2, q3, q4, q5, q6], ?_⟩
    exact .inr ⟨j, _, ka, rfl, hpm3, (HNE.out.pmS hpm2 (fun b hb => by have := hb.1; omega)).mono (Nat.le_refl _) (fun b hb _ => ⟨by have := hb.1; omega, rfl⟩), HIJ.out, hjl, HBAL.out, by have := HSZ.out; omega, HLIT.out, HRM.out⟩
   ·have d1 : decide ((E.L.length : Int) ≤ (j : Int)) = true := decide_eq_true (by omega)
    clear he
    go_wp2_with fail
    go_quiet (fail)
    have HM7 := Lib.hid (pm_drewN HM6.out nq)
    have HC7 := Lib.hid (blk_drewN HC6.out nq)
    have HR7 := Lib.hid (blk_drewN HR6.out nq)
    have HA7 := Lib.hid (blk_drewN HA6.out nq)
    have HNA7 := Lib.hid (HNA6.out.below (below_drewN (Below.refl _ W6) nq))
    obtain ⟨W7, hW7⟩ : ∃ W7, W6.drewN nq = W7 := ⟨_, rfl⟩
    rw [hW7] at HM7 HC7 HR7 HA7 HNA7 ⊢
    clear hW7 c0' c14' c15'
    have y0 := blk_cell HA7.out 0
    have y1 := blk_cell HA7.out 1
    have y2 := blk_cell HA7.out 2
    have y3 := blk_cell HA7.out 3
    have y4 := blk_cell HA7.out 4
    have y5 := blk_cell HA7.out 5
    have y6 := blk_cell HA7.out 6
    have hxr := blk_lt HR7.out
    have x0 := blk_cell HR7.out 0
    have xf0 := blk_frozen HR7.out 0
    have x1 := blk_cell HR7.out 1
    have xf1 := blk_frozen HR7.out 1
    have x2 := blk_cell HR7.out 2
    have xf2 := blk_frozen HR7.out 2
    have x3 := blk_cell HR7.out 3
    have xf3 := blk_frozen HR7.out 3
    have x4 := blk_cell HR7.out 4
    have xf4 := blk_frozen HR7.out 4
    have x5 := blk_cell HR7.out 5
    have xf5 := blk_frozen HR7.out 5
    have x6 := blk_cell HR7.out 6
    have xf6 := blk_frozen HR7.out 6
    go_wp2_with fail
    have HME := Lib.hid (pm_seven HM7.out (Nat.le_succ _) hbp (.int .i64 ka.kind) (.int .i64 o1) (.string ka.name) (.slice l1.sA l1.sn l1.sc) (.slice l1.cA l1.cn l1.cc) (.slice A1 ka.kids.length c1) (.int .i64 a1))
    have HCE := Lib.hid ((seven_heap W7 (w.heap.size + 1) w.heap.size (by omega) (.int .i64 ka.kind) (.int .i64 o1) (.string ka.name) (.slice l1.sA l1.sn l1.sc) (.slice l1.cA l1.cn l1.cc) (.slice A1 ka.kids.length c1) (.int .i64 a1)).trans HC7.out)
    have HRE := Lib.hid (seven_blk HR7.out (.int .i64 ka.kind) (.int .i64 o1) (.string ka.name) (.slice l1.sA l1.sn l1.sc) (.slice l1.cA l1.cn l1.cc) (.slice A1 ka.kids.length c1) (.int .i64 a1))
    have HNE := Lib.hid (nd_set (B0 := w.heap.size + 1) HNA7.out (fun b hb => by have := hb.1; omega) (.int .i64 ka.kind) (.int .i64 o1) (.string ka.name) (.slice l1.sA l1.sn l1.sc) (.slice l1.cA l1.cn l1.cc) (.slice A1 ka.kids.length c1) (.int .i64 a1))
    obtain ⟨W9, hW9⟩ : ∃ W9, sevenSet W7 (w.heap.size + 1) (.int .i64 ka.kind) (.int .i64 o1) (.string ka.name) (.slice l1.sA l1.sn l1.sc) (.slice l1.cA l1.cn l1.cc) (.slice A1 ka.kids.length c1) (.int .i64 a1) = W9 := ⟨_, rfl⟩
    rw [hW9] at HME HCE HRE HNE
    unfold sevenSet at hW9
    rw [hW9]
    clear hW9
    refine leaves_cons (f := 30) (args := #[.pointer (some ⟨w.heap.size, 0, none⟩)]) (by simp) (by simp [go_sem]) ?_
    refine (up30 E bp j (d + 1) n w.heap.size _ W9 (blk_cell HCE.out 0) HME.out.2).mono ?_
    rintro e u' w10 ⟨rfl, rfl, hpm2⟩
    have hre := blk_pm HRE.out hpm2 (by omega)
    have q0 := blk_cell hre 0
    have q1 := blk_cell hre 1
    have q2 := blk_cell hre 2
    have q3 := blk_cell hre 3
    have q4 := blk_cell hre 4
    have q5 := blk_cell hre 5
    have q6 := blk_cell hre 6
    have hpm3 := pm_step HME.out hpm2
    rw [wrap64_back d (by omega) (by omega)] at hpm3
    refine ⟨.agg #[.int .i64 ka.kind, .int .i64 o1, .string ka.name, .slice l1.sA l1.sn l1.sc, .slice l1.cA l1.cn l1.cc, .slice A1 ka.kids.length c1, .int .i64 a1], by simp [results, Try.results20, go_sem, q0, q1, q2, q3, q4, q5, q6], ?_⟩
    exact .inr ⟨j, _, ka, rfl, hpm3, (HNE.out.pmS hpm2 (fun b hb => by have := hb.1; omega)).mono (Nat.le_refl _) (fun b hb _ => ⟨by have := hb.1; omega, rfl⟩), HIJ.out, hjl, HBAL.out, by have := HSZ.out; omega, HLIT.out, HRM.out⟩
end Go.Proofs.Ytollglblkbjgjaa
namespace Go.Proofs.Ytollglblkbjgjaa
open Go.RowKit

set_option maxRecDepth 100000 in
set_option maxHeartbeats 16000000 in
theorem expr_nofn (E : Env) (bp : Nat) (d : Int) (hX : ExprAt E bp (d + 1)) (hF : FunAt E bp (d + 1)) (hts : ∀ (i : Nat) (t : Tok), E.L[i]? = some t → t.text.size ≤ 9223372036854775000) (hd0 : 0 ≤ d) (hd : d < 24) (i : Nat) (n : Int) (w : World) (hS : Sits E bp w) (hi : i ≤ E.L.length) (hn0 : 0 ≤ n) (hn : n ≤ 76 + d) (hp : w.heap[bp]? = some (pcell E i d n)) (R : Res Nd) (hsk : E.skipF (E.L.length + 1) i false = none) (ka : Nd) (j : Nat) (hop : E.opM (fun k => E.X (d + 1) k (decide (0 < n))) i (decide (0 < n)) = .ok ka j) (he : E.ends j = false) (hsk2 : E.skipF (E.L.length + 1) j true = none) (hRM : R = .bad 2 j) :
  Calls Try.prog 20 #[.pointer (some ⟨bp, 0, none⟩)] w (ExprPost E bp R i d n w) := by
 have hln := hS.env.ln
 have hbp := blk_lt hp
 have HX := Lib.hid hX
 have HF := Lib.hid hF
 have HTS := Lib.hid hts
 have HS := Lib.hid hS
 have HRM := Lib.hid hRM
 have hm0 := pm_alloc (pm_alloc (pm_refl hp) (.cells #[.pointer (some ⟨bp, 0, none⟩)] 54)) (.cells #[.int .i64 0, .int .i64 0, .string ⟨#[]⟩, .slice none 0 0, .slice none 0 0, .slice none 0 0, .int .i64 0] 39)
 have hc0 := blk_alloc (blk_new w (.cells #[.pointer (some ⟨bp, 0, none⟩)] 54)) (.cells #[.int .i64 0, .int .i64 0, .string ⟨#[]⟩, .slice none 0 0, .slice none 0 0, .slice none 0 0, .int .i64 0] 39)
 have hr0 := blk_new (w.alloc (.cells #[.pointer (some ⟨bp, 0, none⟩)] 54)) (.cells #[.int .i64 0, .int .i64 0, .string ⟨#[]⟩, .slice none 0 0, .slice none 0 0, .slice none 0 0, .int .i64 0] 39)
 rw [show (w.alloc (.cells #[.pointer (some ⟨bp, 0, none⟩)] 54)).heap.size = w.heap.size + 1 by simp] at hr0
 have HM0 := Lib.hid hm0
 have HC0 := Lib.hid hc0
 have HR0 := Lib.hid hr0
 have hmf : ∀ (fn : Fn) (first cap : Array Value) (w : World), (Instr.makeFunc fn first cap).run Try.prog w = .ok (.func fn first cap) w := fun _ _ _ _ => rfl
 clear hX hF hS hp hm0 hc0 hr0 hts hRM
 go_enter_defers Try.func20, Try.ntmps20
 go_wp2_with fail
 refine (down_any E bp i d n _ (HS.out.pm HM0.out) hd0 (by omega) HM0.out.2).mono ?_
 rintro e w1 (⟨hd24, rfl, hm1⟩ | ⟨hdeep, -, -⟩)
 rotate_left
 ·omega
 have HM1 := Lib.hid (pm_step HM0.out hm1)
 have HC1 := Lib.hid (blk_pm HC0.out hm1 (by omega))
 have HR1 := Lib.hid (blk_pm HR0.out hm1 (by omega))
 have c0 := blk_cell HC1.out 0
 clear hm1 HM0 HC0 HR0
 go_wp2_with fail
 refine (here_any E bp i (d + 1) n w1 (HS.out.pm HM1.out).env HM1.out.2).mono ?_
 rintro e w2 ⟨at_, dq, rfl, rfl, hat⟩
 have HAT := Lib.hid hat
 clear hat
 have HM2 := Lib.hid (pm_drewN HM1.out dq)
 have HC2 := Lib.hid (show (w1.drewN dq).heap[w.heap.size]? = _ from HC1.out)
 have HR2 := Lib.hid (show (w1.drewN dq).heap[w.heap.size + 1]? = _ from HR1.out)
 obtain ⟨W2, hW2⟩ : ∃ W2, w1.drewN dq = W2 := ⟨_, rfl⟩
 rw [hW2] at HM2 HC2 HR2 ⊢
 clear hW2 HM1 HC1 HR1 c0
 have c0 := blk_cell HC2.out 0
 have c15 := blk_cell HM2.out.2 15
 have hb2 := blk_lt HC2.out
 have E0 := Lib.hid (show ∀ w', Below W2.heap.size W2 w' → w'.cell? ⟨w.heap.size, 0, none⟩ = some (.pointer (some ⟨bp, 0, none⟩)) ∧ w'.cell? ⟨bp, 15, none⟩ = some (.int .i64 (i : Int)) from fun w' h => ⟨cell_below h c0, cell_below h c15⟩)
 have HSK := Lib.hid (fun w' (h : Below W2.heap.size W2 w') => skip_any E bp i (d + 1) n (E.L.length + 1) i false w' (by omega) hi ((HS.out.pm HM2.out).env.below h) (blk_below HM2.out.2 h (blk_lt HM2.out.2)))
 rw [hsk] at HSK
 clear hsk
 dsimp only [placeVal] at HSK
 go_wp2_with fail
 go_region_held3 (fun w' => w'.cell? ⟨w.heap.size, 0, none⟩ = some (.pointer (some ⟨bp, 0, none⟩)) ∧ w'.cell? ⟨bp, 15, none⟩ = some (.int .i64 (i : Int)))
  (first | go_keep | exact E0.out _ H8.out | exact E0.out _ (Below.refl _ _).drew)
  (first
     | (go_at_call 32; (with_reducible refine (HSK.out _ (Below.refl _ _).drew).mono ?_); rintro e w8 ⟨rfl, hb8⟩; have H8 := Lib.hid (show Below W2.heap.size W2 w8 from ⟨hb8.os, hb8.tape, hb8.output, hb8.size, hb8.block⟩); clear hb8)
     | fail)
 all_goals
  have HM8 := Lib.hid (pm_below HM2.out H8.out)
  have HC8 := Lib.hid (blk_below HC2.out H8.out (blk_lt HC2.out))
  have HR8 := Lib.hid (blk_below HR2.out H8.out (blk_lt HR2.out))
  clear HM2 HC2 HR2 H8 c0 c15 E0 HSK
  have c0 := blk_cell HC8.out 0
  go_wp2_with fail
  refine (operand_any E bp (d + 1) HX.out HTS.out i n w8 (HS.out.pm HM8.out) hn0 (by omega) HM8.out.2).mono ?_
  rintro e w5 (ht | ⟨j', v, ka', rfl, hm5, hna, hij, hjl, hbal, hsz, hlit, hres⟩)
  ·obtain ⟨er, ix, p', d', n', hrb, rfl, hpm⟩ := ht
   rw [hrb] at hop
   cases hop
  ·obtain ⟨rfl, rfl⟩ : ka = ka' ∧ j = j' := by rw [hop] at hres; cases hres; exact ⟨rfl, rfl⟩
   obtain ⟨o1, l1, A1, c1, a1, vs, rfl, hl, -, -, -⟩ := hna.form
   have HM6 := Lib.hid (pm_alloc (pm_step HM8.out hm5) (.cells #[.int .i64 ka.kind, .int .i64 o1, .string ka.name, .slice l1.sA l1.sn l1.sc, .slice l1.cA l1.cn l1.cc, .slice A1 ka.kids.length c1, .int .i64 a1] 39))
   have HC6 := Lib.hid (blk_alloc (blk_pm HC8.out hm5 (by omega)) (.cells #[.int .i64 ka.kind, .int .i64 o1, .string ka.name, .slice l1.sA l1.sn l1.sc, .slice l1.cA l1.cn l1.cc, .slice A1 ka.kids.length c1, .int .i64 a1] 39))
   have HR6 := Lib.hid (blk_alloc (blk_pm HR8.out hm5 (by omega)) (.cells #[.int .i64 ka.kind, .int .i64 o1, .string ka.name, .slice l1.sA l1.sn l1.sc, .slice l1.cA l1.cn l1.cc, .slice A1 ka.kids.length c1, .int .i64 a1] 39))
   have HA6 := Lib.hid (blk_new w5 (.cells #[.int .i64 ka.kind, .int .i64 o1, .string ka.name, .slice l1.sA l1.sn l1.sc, .slice l1.cA l1.cn l1.cc, .slice A1 ka.kids.length c1, .int .i64 a1] 39))
   have hs8 : w.heap.size + 1 < w8.heap.size := blk_lt HR8.out
   have hs5 : w8.heap.size ≤ w5.heap.size := hm5.1.size
   have HNA6 := Lib.hid ((hna.mono (T := fun b => w.heap.size + 1 < b ∧ b ≠ w5.heap.size) (Nat.le_refl _) (fun b (hb : w8.heap.size ≤ b) hlt => ⟨⟨by omega, by omega⟩, rfl⟩)).below ((Below.refl _ w5).alloc (Nat.le_refl _) (.cells #[.int .i64 ka.kind, .int .i64 o1, .string ka.name, .slice l1.sA l1.sn l1.sc, .slice l1.cA l1.cn l1.cc, .slice A1 ka.kids.length c1, .int .i64 a1] 39)))
   obtain ⟨W6, hW6⟩ : ∃ W6, w5.alloc (.cells #[.int .i64 ka.kind, .int .i64 o1, .string ka.name, .slice l1.sA l1.sn l1.sc, .slice l1.cA l1.cn l1.cc, .slice A1 ka.kids.length c1, .int .i64 a1] 39) = W6 := ⟨_, rfl⟩
   rw [hW6] at HM6 HC6 HR6 HA6 HNA6
   have HLL := Lib.hid hl
   have HBAL := Lib.hid hbal
   have HSZ := Lib.hid hsz
   have HLIT := Lib.hid hlit
   have HIJ := Lib.hid hij
   clear hl hm5 hna hbal hsz hlit hij hres hop HM8 HC8 HR8
   have c0' := blk_cell HC6.out 0
   have c14' := blk_cell HM6.out.2 14
   have c15' := blk_cell HM6.out.2 15
   go_wp2_with fail
   generalize w5.heap.size = bA at *
   have hbA6 := blk_lt HA6.out
   have hlt : j < E.L.length := by
    rcases Nat.lt_or_ge j E.L.length with h | h
    ·exact h
    ·rw [Env.ends, List.getElem?_eq_none h] at he; cases he
   obtain ⟨t, tb, toff, ht, hA, htk⟩ := (HS.out.pm HM6.out).env.tok hlt
   have k0 := htk.k0
   have htb := World.block_lt_of_cell? _ _ k0
   rw [hA] at c14'
   have hj0 : (0 : Int) ≤ (j : Int) := by omega
   have hj1 : (j : Int) < (E.L.length : Int) := by omega
   have d1 : decide ((E.L.length : Int) ≤ (j : Int)) = false := decide_eq_false (by omega)
   have HTK := Lib.hid ht
   clear hA htk
   have b6 : (t.kind == 6) = false := by rw [Env.ends, ht] at he; exact he
   clear ht he
   go_wp2_with fail
   go_quiet (fail)
   have HM7 := Lib.hid (pm_drewN HM6.out nq)
   have HC7 := Lib.hid (blk_drewN HC6.out nq)
   have HR7 := Lib.hid (blk_drewN HR6.out nq)
   have HA7 := Lib.hid (blk_drewN HA6.out nq)
   have HNA7 := Lib.hid (HNA6.out.below (below_drewN (Below.refl _ W6) nq))
   obtain ⟨W7, hW7⟩ : ∃ W7, W6.drewN nq = W7 := ⟨_, rfl⟩
   rw [hW7] at HM7 HC7 HR7 HA7 HNA7 ⊢
   clear hW7 c0' c14' c15'
   have hb7 := blk_lt HC7.out
   have c0 := blk_cell HC7.out 0
   have c15 := blk_cell HM7.out.2 15
   have E7 := Lib.hid (show ∀ w', Below W7.heap.size W7 w' → w'.cell? ⟨w.heap.size, 0, none⟩ = some (.pointer (some ⟨bp, 0, none⟩)) ∧ w'.cell? ⟨bp, 15, none⟩ = some (.int .i64 (j : Int)) from fun w' h => ⟨cell_below h c0, cell_below h c15⟩)
   have HS7 := Lib.hid (fun w' (h : Below W7.heap.size W7 w') => skip_any E bp j (d + 1) n (E.L.length + 1) j true w' (by omega) hjl ((HS.out.pm HM7.out).env.below h) (blk_below HM7.out.2 h (blk_lt HM7.out.2)))
   clear HM6 HC6 HR6 HA6 HNA6 k0 htb
   rw [hsk2] at HS7
   clear hsk2
   dsimp only [placeVal] at HS7
   go_wp2_with fail
   go_region_held3 (fun w' => w'.cell? ⟨w.heap.size, 0, none⟩ = some (.pointer (some ⟨bp, 0, none⟩)) ∧ w'.cell? ⟨bp, 15, none⟩ = some (.int .i64 (j : Int)))
    (first | go_keep | exact E7.out _ H9.out | exact E7.out _ (Below.refl _ _).drew)
    (first
       | (go_at_call 32; (with_reducible refine (HS7.out _ (Below.refl _ _).drew).mono ?_); rintro e w9 ⟨rfl, hb8⟩; have H9 := Lib.hid (show Below W7.heap.size W7 w9 from ⟨hb8.os, hb8.tape, hb8.output, hb8.size, hb8.block⟩); clear hb8)
       | fail)
   all_goals
    have HM9 := Lib.hid (pm_below HM7.out H9.out)
    have HC9 := Lib.hid (blk_below HC7.out H9.out (blk_lt HC7.out))
    clear HM7 HC7 HR7 HA7 HNA7 c0 c15
    have c0 := blk_cell HC9.out 0
    have c15 := blk_cell HM9.out.2 15
    go_wp2_with fail
    refine wp_region_panicThen [{ target := .fn (.func 30) #[.pointer (some ⟨w.heap.size, 0, none⟩)], args := #[] }] (ThrewC E bp R w9) ?_ ?_
    ·rintro c a w10 hdef ⟨er, ix, p', d', n', hrb, rfl, hpm⟩
     obtain ⟨tm, df⟩ := a
     dsimp only at hdef
     subst hdef
     have HRB := Lib.hid hrb
     clear hrb
     go_wp2
     have hcend := blk_pm HC9.out hpm (by omega)
     refine leaves_cons (f := 30) (args := #[.pointer (some ⟨w.heap.size, 0, none⟩)]) (by simp) (by simp [go_sem]) ?_
     refine (up30 E bp p' d' n' w.heap.size _ w10 (blk_cell (hcend) 0) hpm.2).mono ?_
     rintro e u' w'' ⟨rfl, rfl, hpm2⟩
     show ExprPost E bp R i d n w (.panicked (faultChain er (E.here ix))) w''
     exact .inl ⟨er, ix, p', wrap64 (d' - 1), n', HRB.out, rfl, pm_step HM9.out (pm_step hpm hpm2)⟩
    ·have HFC := Lib.hid ((fail_any E bp j (d + 1) n j 2 w9.drew (HS.out.pm (pm_drew HM9.out)).env HM9.out.2).mono (fun e w' h => (.inl h : Fails 2 (E.here j) w9.drew e w' ∨ ∃ v, e = .returned v ∧ False)))
     go_region_law
      (first
         | (go_simp; go_at_call 21; (with_reducible refine HFC.out.mono ?_); rintro e w10 (⟨rfl, hww⟩ | ⟨v, rfl, hno⟩); exact PanicThen.panic rfl ⟨2, j, j, d + 1, n, HRM.out, rfl, by rw [hww]; exact pm_drew (pm_refl HM9.out.2)⟩; go_simp)
         | fail)
     all_goals exact hno.elim
end Go.Proofs.Ytollglblkbjgjaa
namespace Go.Proofs.Ytollglblkbjgjaa
open Go.RowKit

set_option maxRecDepth 100000 in
set_option maxHeartbeats 16000000 in
theorem expr_badfn (E : Env) (bp : Nat) (d : Int) (hX : ExprAt E bp (d + 1)) (hF : FunAt E bp (d + 1)) (hts : ∀ (i : Nat) (t : Tok), E.L[i]? = some t → t.text.size ≤ 9223372036854775000) (hd0 : 0 ≤ d) (hd : d < 24) (i : Nat) (n : Int) (w : World) (hS : Sits E bp w) (hi : i ≤ E.L.length) (hn0 : 0 ≤ n) (hn : n ≤ 76 + d) (hp : w.heap[bp]? = some (pcell E i d n)) (R : Res Nd) (hsk : E.skipF (E.L.length + 1) i false = none) (ka : Nd) (j : Nat) (hop : E.opM (fun k => E.X (d + 1) k (decide (0 < n))) i (decide (0 < n)) = .ok ka j) (he : E.ends j = false) (q : Nat) (hsk2 : E.skipF (E.L.length + 1) j true = some q) (er0 : Int) (ix0 : Nat) (hfn : E.F (d + 1) j true (decide (0 < n)) = .bad er0 ix0) (hRM : R = .bad er0 ix0) :
  Calls Try.prog 20 #[.pointer (some ⟨bp, 0, none⟩)] w (ExprPost E bp R i d n w) := by
 have hln := hS.env.ln
 have hbp := blk_lt hp
 have HX := Lib.hid hX
 have HF := Lib.hid hF
 have HTS := Lib.hid hts
 have HS := Lib.hid hS
 have HRM := Lib.hid hRM
 have hm0 := pm_alloc (pm_alloc (pm_refl hp) (.cells #[.pointer (some ⟨bp, 0, none⟩)] 54)) (.cells #[.int .i64 0, .int .i64 0, .string ⟨#[]⟩, .slice none 0 0, .slice none 0 0, .slice none 0 0, .int .i64 0] 39)
 have hc0 := blk_alloc (blk_new w (.cells #[.pointer (some ⟨bp, 0, none⟩)] 54)) (.cells #[.int .i64 0, .int .i64 0, .string ⟨#[]⟩, .slice none 0 0, .slice none 0 0, .slice none 0 0, .int .i64 0] 39)
 have hr0 := blk_new (w.alloc (.cells #[.pointer (some ⟨bp, 0, none⟩)] 54)) (.cells #[.int .i64 0, .int .i64 0, .string ⟨#[]⟩, .slice none 0 0, .slice none 0 0, .slice none 0 0, .int .i64 0] 39)
 rw [show (w.alloc (.cells #[.pointer (some ⟨bp, 0, none⟩)] 54)).heap.size = w.heap.size + 1 by simp] at hr0
 have HM0 := Lib.hid hm0
 have HC0 := Lib.hid hc0
 have HR0 := Lib.hid hr0
 have hmf : ∀ (fn : Fn) (first cap : Array Value) (w : World), (Instr.makeFunc fn first cap).run Try.prog w = .ok (.func fn first cap) w := fun _ _ _ _ => rfl
 clear hX hF hS hp hm0 hc0 hr0 hts hRM
 go_enter_defers Try.func20, Try.ntmps20
 go_wp2_with fail
 refine (down_any E bp i d n _ (HS.out.pm HM0.out) hd0 (by omega) HM0.out.2).mono ?_
 rintro e w1 (⟨hd24, rfl, hm1⟩ | ⟨hdeep, -, -⟩)
 rotate_left
 ·omega
 have HM1 := Lib.hid (pm_step HM0.out hm1)
 have HC1 := Lib.hid (blk_pm HC0.out hm1 (by omega))
 have HR1 := Lib.hid (blk_pm HR0.out hm1 (by omega))
 have c0 := blk_cell HC1.out 0
 clear hm1 HM0 HC0 HR0
 go_wp2_with fail
 refine (here_any E bp i (d + 1) n w1 (HS.out.pm HM1.out).env HM1.out.2).mono ?_
 rintro e w2 ⟨at_, dq, rfl, rfl, hat⟩
 have HAT := Lib.hid hat
 clear hat
 have HM2 := Lib.hid (pm_drewN HM1.out dq)
 have HC2 := Lib.hid (show (w1.drewN dq).heap[w.heap.size]? = _ from HC1.out)
 have HR2 := Lib.hid (show (w1.drewN dq).heap[w.heap.size + 1]? = _ from HR1.out)
 obtain ⟨W2, hW2⟩ : ∃ W2, w1.drewN dq = W2 := ⟨_, rfl⟩
 rw [hW2] at HM2 HC2 HR2 ⊢
 clear hW2 HM1 HC1 HR1 c0
 have c0 := blk_cell HC2.out 0
 have c15 := blk_cell HM2.out.2 15
 have hb2 := blk_lt HC2.out
 have E0 := Lib.hid (show ∀ w', Below W2.heap.size W2 w' → w'.cell? ⟨w.heap.size, 0, none⟩ = some (.pointer (some ⟨bp, 0, none⟩)) ∧ w'.cell? ⟨bp, 15, none⟩ = some (.int .i64 (i : Int)) from fun w' h => ⟨cell_below h c0, cell_below h c15⟩)
 have HSK := Lib.hid (fun w' (h : Below W2.heap.size W2 w') => skip_any E bp i (d + 1) n (E.L.length + 1) i false w' (by omega) hi ((HS.out.pm HM2.out).env.below h) (blk_below HM2.out.2 h (blk_lt HM2.out.2)))
 rw [hsk] at HSK
 clear hsk
 dsimp only [placeVal] at HSK
 go_wp2_with fail
 go_region_held3 (fun w' => w'.cell? ⟨w.heap.size, 0, none⟩ = some (.pointer (some ⟨bp, 0, none⟩)) ∧ w'.cell? ⟨bp, 15, none⟩ = some (.int .i64 (i : Int)))
  (first | go_keep | exact E0.out _ H8.out | exact E0.out _ (Below.refl _ _).drew)
  (first
     | (go_at_call 32; (with_reducible refine (HSK.out _ (Below.refl _ _).drew).mono ?_); rintro e w8 ⟨rfl, hb8⟩; have H8 := Lib.hid (show Below W2.heap.size W2 w8 from ⟨hb8.os, hb8.tape, hb8.output, hb8.size, hb8.block⟩); clear hb8)
     | fail)
 all_goals
  have HM8 := Lib.hid (pm_below HM2.out H8.out)
  have HC8 := Lib.hid (blk_below HC2.out H8.out (blk_lt HC2.out))
  have HR8 := Lib.hid (blk_below HR2.out H8.out (blk_lt HR2.out))
  clear HM2 HC2 HR2 H8 c0 c15 E0 HSK
  have c0 := blk_cell HC8.out 0
  go_wp2_with fail
  refine (operand_any E bp (d + 1) HX.out HTS.out i n w8 (HS.out.pm HM8.out) hn0 (by omega) HM8.out.2).mono ?_
  rintro e w5 (ht | ⟨j', v, ka', rfl, hm5, hna, hij, hjl, hbal, hsz, hlit, hres⟩)
  ·obtain ⟨er, ix, p', d', n', hrb, rfl, hpm⟩ := ht
   rw [hrb] at hop
   cases hop
  ·obtain ⟨rfl, rfl⟩ : ka = ka' ∧ j = j' := by rw [hop] at hres; cases hres; exact ⟨rfl, rfl⟩
   obtain ⟨o1, l1, A1, c1, a1, vs, rfl, hl, -, -, -⟩ := hna.form
   have HM6 := Lib.hid (pm_alloc (pm_step HM8.out hm5) (.cells #[.int .i64 ka.kind, .int .i64 o1, .string ka.name, .slice l1.sA l1.sn l1.sc, .slice l1.cA l1.cn l1.cc, .slice A1 ka.kids.length c1, .int .i64 a1] 39))
   have HC6 := Lib.hid (blk_alloc (blk_pm HC8.out hm5 (by omega)) (.cells #[.int .i64 ka.kind, .int .i64 o1, .string ka.name, .slice l1.sA l1.sn l1.sc, .slice l1.cA l1.cn l1.cc, .slice A1 ka.kids.length c1, .int .i64 a1] 39))
   have HR6 := Lib.hid (blk_alloc (blk_pm HR8.out hm5 (by omega)) (.cells #[.int .i64 ka.kind, .int .i64 o1, .string ka.name, .slice l1.sA l1.sn l1.sc, .slice l1.cA l1.cn l1.cc, .slice A1 ka.kids.length c1, .int .i64 a1] 39))
   have HA6 := Lib.hid (blk_new w5 (.cells #[.int .i64 ka.kind, .int .i64 o1, .string ka.name, .slice l1.sA l1.sn l1.sc, .slice l1.cA l1.cn l1.cc, .slice A1 ka.kids.length c1, .int .i64 a1] 39))
   have hs8 : w.heap.size + 1 < w8.heap.size := blk_lt HR8.out
   have hs5 : w8.heap.size ≤ w5.heap.size := hm5.1.size
   have HNA6 := Lib.hid ((hna.mono (T := fun b => w.heap.size + 1 < b ∧ b ≠ w5.heap.size) (Nat.le_refl _) (fun b (hb : w8.heap.size ≤ b) hlt => ⟨⟨by omega, by omega⟩, rfl⟩)).below ((Below.refl _ w5).alloc (Nat.le_refl _) (.cells #[.int .i64 ka.kind, .int .i64 o1, .string ka.name, .slice l1.sA l1.sn l1.sc, .slice l1.cA l1.cn l1.cc, .slice A1 ka.kids.length c1, .int .i64 a1] 39)))
   obtain ⟨W6, hW6⟩ : ∃ W6, w5.alloc (.cells #[.int .i64 ka.kind, .int .i64 o1, .string ka.name, .slice l1.sA l1.sn l1.sc, .slice l1.cA l1.cn l1.cc, .slice A1 ka.kids.length c1, .int .i64 a1] 39) = W6 := ⟨_, rfl⟩
   rw [hW6] at HM6 HC6 HR6 HA6 HNA6
   have HLL := Lib.hid hl
   have HBAL := Lib.hid hbal
   have HSZ := Lib.hid hsz
   have HLIT := Lib.hid hlit
   have HIJ := Lib.hid hij
   clear hl hm5 hna hbal hsz hlit hij hres hop HM8 HC8 HR8
   have c0' := blk_cell HC6.out 0
   have c14' := blk_cell HM6.out.2 14
   have c15' := blk_cell HM6.out.2 15
   go_wp2_with fail
   generalize w5.heap.size = bA at *
   have hbA6 := blk_lt HA6.out
   have hlt : j < E.L.length := by
    rcases Nat.lt_or_ge j E.L.length with h | h
    ·exact h
    ·rw [Env.ends, List.getElem?_eq_none h] at he; cases he
   obtain ⟨t, tb, toff, ht, hA, htk⟩ := (HS.out.pm HM6.out).env.tok hlt
   have k0 := htk.k0
   have htb := World.block_lt_of_cell? _ _ k0
   rw [hA] at c14'
   have hj0 : (0 : Int) ≤ (j : Int) := by omega
   have hj1 : (j : Int) < (E.L.length : Int) := by omega
   have d1 : decide ((E.L.length : Int) ≤ (j : Int)) = false := decide_eq_false (by omega)
   have HTK := Lib.hid ht
   clear hA htk
   have b6 : (t.kind == 6) = false := by rw [Env.ends, ht] at he; exact he
   clear ht he
   go_wp2_with fail
   go_quiet (fail)
   have HM7 := Lib.hid (pm_drewN HM6.out nq)
   have HC7 := Lib.hid (blk_drewN HC6.out nq)
   have HR7 := Lib.hid (blk_drewN HR6.out nq)
   have HA7 := Lib.hid (blk_drewN HA6.out nq)
   have HNA7 := Lib.hid (HNA6.out.below (below_drewN (Below.refl _ W6) nq))
   obtain ⟨W7, hW7⟩ : ∃ W7, W6.drewN nq = W7 := ⟨_, rfl⟩
   rw [hW7] at HM7 HC7 HR7 HA7 HNA7 ⊢
   clear hW7 c0' c14' c15'
   have hb7 := blk_lt HC7.out
   have c0 := blk_cell HC7.out 0
   have c15 := blk_cell HM7.out.2 15
   have E7 := Lib.hid (show ∀ w', Below W7.heap.size W7 w' → w'.cell? ⟨w.heap.size, 0, none⟩ = some (.pointer (some ⟨bp, 0, none⟩)) ∧ w'.cell? ⟨bp, 15, none⟩ = some (.int .i64 (j : Int)) from fun w' h => ⟨cell_below h c0, cell_below h c15⟩)
   have HS7 := Lib.hid (fun w' (h : Below W7.heap.size W7 w') => skip_any E bp j (d + 1) n (E.L.length + 1) j true w' (by omega) hjl ((HS.out.pm HM7.out).env.below h) (blk_below HM7.out.2 h (blk_lt HM7.out.2)))
   clear HM6 HC6 HR6 HA6 HNA6 k0 htb
   rw [hsk2] at HS7
   have HSF := Lib.hid hsk2
   have hqj := E.skip_lt _ _ _ _ hsk2
   clear hsk2
   dsimp only [placeVal] at HS7
   have dq : decide ((q : Int) < 0) = false := decide_eq_false (by omega)
   go_wp2_with fail
   go_region_held3 (fun w' => w'.cell? ⟨w.heap.size, 0, none⟩ = some (.pointer (some ⟨bp, 0, none⟩)) ∧ w'.cell? ⟨bp, 15, none⟩ = some (.int .i64 (j : Int)))
    (first | go_keep | exact E7.out _ H9.out | exact E7.out _ (Below.refl _ _).drew)
    (first
       | (go_at_call 32; (with_reducible refine (HS7.out _ (Below.refl _ _).drew).mono ?_); rintro e w9 ⟨rfl, hb8⟩; have H9 := Lib.hid (show Below W7.heap.size W7 w9 from ⟨hb8.os, hb8.tape, hb8.output, hb8.size, hb8.block⟩); clear hb8)
       | fail)
   all_goals
    have HM9 := Lib.hid (pm_below HM7.out H9.out)
    have HC9 := Lib.hid (blk_below HC7.out H9.out (blk_lt HC7.out))
    have HR9 := Lib.hid (blk_below HR7.out H9.out (blk_lt HR7.out))
    have HA9 := Lib.hid (blk_below HA7.out H9.out (blk_lt HA7.out))
    have HNA9 := Lib.hid (HNA7.out.below H9.out)
    have hs79 : W7.heap.size ≤ w9.heap.size := H9.out.size
    clear HM7 HC7 HR7 HA7 HNA7 c0 c15 E7 HS7 H9
    have c0 := blk_cell HC9.out 0
    have c15 := blk_cell HM9.out.2 15
    go_wp2_with fail
    refine (HF.out _ j true q n w9 HSF.out (HS.out.pm HM9.out) hjl hn0 (by omega) HM9.out.2).mono ?_
    rintro e w5 (ht | ⟨v, kd, rfl, hm5, hna, hbal, hsz, -, hres⟩)
    ·obtain ⟨er, ix, p', d', n', hrb, rfl, hpm⟩ := ht
     have HRB := Lib.hid (show R = .bad er ix by rw [HRM.out, ← hfn]; exact hrb)
     clear hrb
     go_wp2
     have hcend := blk_pm HC9.out hpm (by omega)
     refine leaves_cons (f := 30) (args := #[.pointer (some ⟨w.heap.size, 0, none⟩)]) (by simp) (by simp [go_sem]) ?_
     refine (up30 E bp p' d' n' w.heap.size _ w5 (blk_cell (hcend) 0) hpm.2).mono ?_
     rintro e u' w'' ⟨rfl, rfl, hpm2⟩
     show ExprPost E bp R i d n w (.panicked (faultChain er (E.here ix))) w''
     exact .inl ⟨er, ix, p', wrap64 (d' - 1), n', HRB.out, rfl, pm_step HM9.out (pm_step hpm hpm2)⟩
    ·rw [hres] at hfn
     cases hfn
end Go.Proofs.Ytollglblkbjgjaa
