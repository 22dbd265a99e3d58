/- Contract of expr where a function with another sign behind it stands between an operand and an expression. Conditions: the parser's block; what it calls keeps its word one bracket deeper. -/
import Derived.Test.YtollglblkbjgjaaGn
import Derived.Test.YtollglblkbjgjaaGp
import Derived.Test.YtollglblkbjgjaaGr0
namespace Go.Proofs.Ytollglblkbjgjaa
open Go.RowKit

set_option maxRecDepth 100000 in
set_option maxHeartbeats 16000000 in
theorem expr_dy2 (E : Env) (bp : Nat) (d : Int) (hX : ExprAt E bp (d + 1)) (hF : FunAt E bp (d + 1)) (hts : ∀ (i : Nat) (t : Tok), E.L[i]? = some t → t.text.size ≤ 9223372036854775000) (hd0 : 0 ≤ d) (hd : d < 24) (i : Nat) (n : Int) (w : World) (hS : Sits E bp w) (hi : i ≤ E.L.length) (hn0 : 0 ≤ n) (hn : n ≤ 76 + d) (hp : w.heap[bp]? = some (pcell E i d n)) (R : Res Nd) (hsk : E.skipF (E.L.length + 1) i false = none) (ka : Nd) (j : Nat) (hop : E.opM (fun k => E.X (d + 1) k (decide (0 < n))) i (decide (0 < n)) = .ok ka j) (he : E.ends j = false) (q : Nat) (hsk2 : E.skipF (E.L.length + 1) j true = some q) (kd : Nd) (q' : Nat) (hfn : E.F (d + 1) j true (decide (0 < n)) = .ok kd q') (hlone : E.lone = true) (h24 : (kd.kind == 24) = true) (hname : (kd.name.toList == [47]) = false) (hRM : ((E.X (d + 1) q' (decide (0 < n))).bind fun x q => .ok (.mk 6 0 ⟨#[]⟩ Lt.zero [kd, ka, x] (E.here i)) q) = R) :
  Calls Try.prog 20 #[.pointer (some ⟨bp, 0, none⟩)] w (ExprPost E bp R i d n w) := by
 have hln := hS.env.ln
 have hbp := blk_lt hp
 have HX := Lib.hid hX
 have HF := Lib.hid hF
 have HTS := Lib.hid hts
 have HS := Lib.hid hS
 have HRM := Lib.hid hRM
 have hm0 := pm_alloc (pm_alloc (pm_refl hp) (.cells #[.pointer (some ⟨bp, 0, none⟩)] 54)) (.cells #[.int .i64 0, .int .i64 0, .string ⟨#[]⟩, .slice none 0 0, .slice none 0 0, .slice none 0 0, .int .i64 0] 39)
 have hc0 := blk_alloc (blk_new w (.cells #[.pointer (some ⟨bp, 0, none⟩)] 54)) (.cells #[.int .i64 0, .int .i64 0, .string ⟨#[]⟩, .slice none 0 0, .slice none 0 0, .slice none 0 0, .int .i64 0] 39)
 have hr0 := blk_new (w.alloc (.cells #[.pointer (some ⟨bp, 0, none⟩)] 54)) (.cells #[.int .i64 0, .int .i64 0, .string ⟨#[]⟩, .slice none 0 0, .slice none 0 0, .slice none 0 0, .int .i64 0] 39)
 rw [show (w.alloc (.cells #[.pointer (some ⟨bp, 0, none⟩)] 54)).heap.size = w.heap.size + 1 by simp] at hr0
 have HM0 := Lib.hid hm0
 have HC0 := Lib.hid hc0
 have HR0 := Lib.hid hr0
 have hmf : ∀ (fn : Fn) (first cap : Array Value) (w : World), (Instr.makeFunc fn first cap).run Try.prog w = .ok (.func fn first cap) w := fun _ _ _ _ => rfl
 clear hX hF hS hp hm0 hc0 hr0 hts hRM
 go_enter_defers Try.func20, Try.ntmps20
 go_wp2_with fail
 refine (down_any E bp i d n _ (HS.out.pm HM0.out) hd0 (by omega) HM0.out.2).mono ?_
 rintro e w1 (⟨hd24, rfl, hm1⟩ | ⟨hdeep, -, -⟩)
 rotate_left
 ·omega
 have HM1 := Lib.hid (pm_step HM0.out hm1)
 have HC1 := Lib.hid (blk_pm HC0.out hm1 (by omega))
 have HR1 := Lib.hid (blk_pm HR0.out hm1 (by omega))
 have c0 := blk_cell HC1.out 0
 clear hm1 HM0 HC0 HR0
 go_wp2_with fail
 refine (here_any E bp i (d + 1) n w1 (HS.out.pm HM1.out).env HM1.out.2).mono ?_
 rintro e w2 ⟨at_, dq, rfl, rfl, hat⟩
 have HAT := Lib.hid hat
 clear hat
 have HM2 := Lib.hid (pm_drewN HM1.out dq)
 have HC2 := Lib.hid (show (w1.drewN dq).heap[w.heap.size]? = _ from HC1.out)
 have HR2 := Lib.hid (show (w1.drewN dq).heap[w.heap.size + 1]? = _ from HR1.out)
 obtain ⟨W2, hW2⟩ : ∃ W2, w1.drewN dq = W2 := ⟨_, rfl⟩
 rw [hW2] at HM2 HC2 HR2 ⊢
 clear hW2 HM1 HC1 HR1 c0
 have c0 := blk_cell HC2.out 0
 have c15 := blk_cell HM2.out.2 15
 have hb2 := blk_lt HC2.out
 have E0 := Lib.hid (show ∀ w', Below W2.heap.size W2 w' → w'.cell? ⟨w.heap.size, 0, none⟩ = some (.pointer (some ⟨bp, 0, none⟩)) ∧ w'.cell? ⟨bp, 15, none⟩ = some (.int .i64 (i : Int)) from fun w' h => ⟨cell_below h c0, cell_below h c15⟩)
 have HSK := Lib.hid (fun w' (h : Below W2.heap.size W2 w') => skip_any E bp i (d + 1) n (E.L.length + 1) i false w' (by omega) hi ((HS.out.pm HM2.out).env.below h) (blk_below HM2.out.2 h (blk_lt HM2.out.2)))
 rw [hsk] at HSK
 clear hsk
 dsimp only [placeVal] at HSK
 go_wp2_with fail
 go_region_held3 (fun w' => w'.cell? ⟨w.heap.size, 0, none⟩ = some (.pointer (some ⟨bp, 0, none⟩)) ∧ w'.cell? ⟨bp, 15, none⟩ = some (.int .i64 (i : Int)))
  (first | go_keep | exact E0.out _ H8.out | exact E0.out _ (Below.refl _ _).drew)
  (first
     | (go_at_call 32; (with_reducible refine (HSK.out _ (Below.refl _ _).drew).mono ?_); rintro e w8 ⟨rfl, hb8⟩; have H8 := Lib.hid (show Below W2.heap.size W2 w8 from ⟨hb8.os, hb8.tape, hb8.output, hb8.size, hb8.block⟩); clear hb8)
     | fail)
 all_goals
  have HM8 := Lib.hid (pm_below HM2.out H8.out)
  have HC8 := Lib.hid (blk_below HC2.out H8.out (blk_lt HC2.out))
  have HR8 := Lib.hid (blk_below HR2.out H8.out (blk_lt HR2.out))
  clear HM2 HC2 HR2 H8 c0 c15 E0 HSK
  have c0 := blk_cell HC8.out 0
  go_wp2_with fail
  refine (operand_any E bp (d + 1) HX.out HTS.out i n w8 (HS.out.pm HM8.out) hn0 (by omega) HM8.out.2).mono ?_
  rintro e w5 (ht | ⟨j', v, ka', rfl, hm5, hna, hij, hjl, hbal, hsz, hlit, hres⟩)
  ·obtain ⟨er, ix, p', d', n', hrb, rfl, hpm⟩ := ht
   rw [hrb] at hop
   cases hop
  ·obtain ⟨rfl, rfl⟩ : ka = ka' ∧ j = j' := by rw [hop] at hres; cases hres; exact ⟨rfl, rfl⟩
   obtain ⟨o1, l1, A1, c1, a1, vs, rfl, hl, -, -, -⟩ := hna.form
   have HM6 := Lib.hid (pm_alloc (pm_step HM8.out hm5) (.cells #[.int .i64 ka.kind, .int .i64 o1, .string ka.name, .slice l1.sA l1.sn l1.sc, .slice l1.cA l1.cn l1.cc, .slice A1 ka.kids.length c1, .int .i64 a1] 39))
   have HC6 := Lib.hid (blk_alloc (blk_pm HC8.out hm5 (by omega)) (.cells #[.int .i64 ka.kind, .int .i64 o1, .string ka.name, .slice l1.sA l1.sn l1.sc, .slice l1.cA l1.cn l1.cc, .slice A1 ka.kids.length c1, .int .i64 a1] 39))
   have HR6 := Lib.hid (blk_alloc (blk_pm HR8.out hm5 (by omega)) (.cells #[.int .i64 ka.kind, .int .i64 o1, .string ka.name, .slice l1.sA l1.sn l1.sc, .slice l1.cA l1.cn l1.cc, .slice A1 ka.kids.length c1, .int .i64 a1] 39))
   have HA6 := Lib.hid (blk_new w5 (.cells #[.int .i64 ka.kind, .int .i64 o1, .string ka.name, .slice l1.sA l1.sn l1.sc, .slice l1.cA l1.cn l1.cc, .slice A1 ka.kids.length c1, .int .i64 a1] 39))
   have hs8 : w.heap.size + 1 < w8.heap.size := blk_lt HR8.out
   have hs5 : w8.heap.size ≤ w5.heap.size := hm5.1.size
   have HNA6 := Lib.hid ((hna.mono (T := fun b => w.heap.size + 1 < b ∧ b ≠ w5.heap.size) (Nat.le_refl _) (fun b (hb : w8.heap.size ≤ b) hlt => ⟨⟨by omega, by omega⟩, rfl⟩)).below ((Below.refl _ w5).alloc (Nat.le_refl _) (.cells #[.int .i64 ka.kind, .int .i64 o1, .string ka.name, .slice l1.sA l1.sn l1.sc, .slice l1.cA l1.cn l1.cc, .slice A1 ka.kids.length c1, .int .i64 a1] 39)))
   obtain ⟨W6, hW6⟩ : ∃ W6, w5.alloc (.cells #[.int .i64 ka.kind, .int .i64 o1, .string ka.name, .slice l1.sA l1.sn l1.sc, .slice l1.cA l1.cn l1.cc, .slice A1 ka.kids.length c1, .int .i64 a1] 39) = W6 := ⟨_, rfl⟩
   rw [hW6] at HM6 HC6 HR6 HA6 HNA6
   have HLL := Lib.hid hl
   have HBAL := Lib.hid hbal
   have HSZ := Lib.hid hsz
   have HLIT := Lib.hid hlit
   have HIJ := Lib.hid hij
   clear hl hm5 hna hbal hsz hlit hij hres hop HM8 HC8 HR8
   have c0' := blk_cell HC6.out 0
   have c14' := blk_cell HM6.out.2 14
   have c15' := blk_cell HM6.out.2 15
   go_wp2_with fail
   generalize w5.heap.size = bA at *
   have hbA6 := blk_lt HA6.out
   have hlt : j < E.L.length := by
    rcases Nat.lt_or_ge j E.L.length with h | h
    ·exact h
    ·rw [Env.ends, List.getElem?_eq_none h] at he; cases he
   obtain ⟨t, tb, toff, ht, hA, htk⟩ := (HS.out.pm HM6.out).env.tok hlt
   have k0 := htk.k0
   have htb := World.block_lt_of_cell? _ _ k0
   rw [hA] at c14'
   have hj0 : (0 : Int) ≤ (j : Int) := by omega
   have hj1 : (j : Int) < (E.L.length : Int) := by omega
   have d1 : decide ((E.L.length : Int) ≤ (j : Int)) = false := decide_eq_false (by omega)
   have HTK := Lib.hid ht
   clear hA htk
   have b6 : (t.kind == 6) = false := by rw [Env.ends, ht] at he; exact he
   clear ht he
   go_wp2_with fail
   go_quiet (fail)
   have HM7 := Lib.hid (pm_drewN HM6.out nq)
   have HC7 := Lib.hid (blk_drewN HC6.out nq)
   have HR7 := Lib.hid (blk_drewN HR6.out nq)
   have HA7 := Lib.hid (blk_drewN HA6.out nq)
   have HNA7 := Lib.hid (HNA6.out.below (below_drewN (Below.refl _ W6) nq))
   have HBA := Lib.hid (show bp < bA by omega)
   obtain ⟨W7, hW7⟩ : ∃ W7, W6.drewN nq = W7 := ⟨_, rfl⟩
   rw [hW7] at HM7 HC7 HR7 HA7 HNA7 ⊢
   clear hW7 c0' c14' c15'
   have hb7 := blk_lt HC7.out
   have c0 := blk_cell HC7.out 0
   have c15 := blk_cell HM7.out.2 15
   have E7 := Lib.hid (show ∀ w', Below W7.heap.size W7 w' → w'.cell? ⟨w.heap.size, 0, none⟩ = some (.pointer (some ⟨bp, 0, none⟩)) ∧ w'.cell? ⟨bp, 15, none⟩ = some (.int .i64 (j : Int)) from fun w' h => ⟨cell_below h c0, cell_below h c15⟩)
   have HS7 := Lib.hid (fun w' (h : Below W7.heap.size W7 w') => skip_any E bp j (d + 1) n (E.L.length + 1) j true w' (by omega) hjl ((HS.out.pm HM7.out).env.below h) (blk_below HM7.out.2 h (blk_lt HM7.out.2)))
   clear HM6 HC6 HR6 HA6 HNA6 k0 htb
   rw [hsk2] at HS7
   have HSF := Lib.hid hsk2
   have hqj := E.skip_lt _ _ _ _ hsk2
   clear hsk2
   dsimp only [placeVal] at HS7
   have dq : decide ((q : Int) < 0) = false := decide_eq_false (by omega)
   go_wp2_with fail
   go_region_held3 (fun w' => w'.cell? ⟨w.heap.size, 0, none⟩ = some (.pointer (some ⟨bp, 0, none⟩)) ∧ w'.cell? ⟨bp, 15, none⟩ = some (.int .i64 (j : Int)))
    (first | go_keep | exact E7.out _ H9.out | exact E7.out _ (Below.refl _ _).drew)
    (first
       | (go_at_call 32; (with_reducible refine (HS7.out _ (Below.refl _ _).drew).mono ?_); rintro e w9 ⟨rfl, hb8⟩; have H9 := Lib.hid (show Below W7.heap.size W7 w9 from ⟨hb8.os, hb8.tape, hb8.output, hb8.size, hb8.block⟩); clear hb8)
       | fail)
   all_goals
    have HM9 := Lib.hid (pm_below HM7.out H9.out)
    have HC9 := Lib.hid (blk_below HC7.out H9.out (blk_lt HC7.out))
    have HR9 := Lib.hid (blk_below HR7.out H9.out (blk_lt HR7.out))
    have HA9 := Lib.hid (blk_below HA7.out H9.out (blk_lt HA7.out))
    have HNA9 := Lib.hid (HNA7.out.below H9.out)
    have hs79 : W7.heap.size ≤ w9.heap.size := H9.out.size
    clear HM7 HC7 HR7 HA7 HNA7 c0 c15 E7 HS7 H9
    have c0 := blk_cell HC9.out 0
    have c15 := blk_cell HM9.out.2 15
    go_wp2_with fail
    refine (HF.out _ j true q n w9 HSF.out (HS.out.pm HM9.out) hjl hn0 (by omega) HM9.out.2).mono ?_
    rintro e w5 (ht | ⟨v, kd', rfl, hm5, hna, hbal, hsz, hfk, hres⟩)
    ·obtain ⟨er, ix, p', d', n', hrb, rfl, hpm⟩ := ht
     rw [hrb] at hfn
     cases hfn
    ·obtain ⟨rfl, rfl⟩ : kd = kd' ∧ q = q' := by rw [hfn] at hres; cases hres; exact ⟨rfl, rfl⟩
     obtain ⟨o, l, A, c, a, vs2, rfl, hlf, hcap, hrow, hkids⟩ := hna.form
     have hs59 : w9.heap.size ≤ w5.heap.size := hm5.1.size
     have hbA9 := blk_lt HA9.out
     have hw9 := blk_lt HR9.out
     have HM5 := Lib.hid (pm_step HM9.out hm5)
     have HC5 := Lib.hid (blk_pm HC9.out hm5 (by omega))
     have HR5 := Lib.hid (blk_pm HR9.out hm5 (by omega))
     have HA5 := Lib.hid (blk_pm HA9.out hm5 (by have := HBA.out; omega))
     have HNA5 := Lib.hid (HNA9.out.pmS hm5 (fun b hb => by have := hb.1; omega))
     have HNF5 := Lib.hid (hna.mono (T := fun b => w.heap.size + 1 < b) (Nat.le_refl _) (fun b (hb : w9.heap.size ≤ b) _ => ⟨by omega, rfl⟩))
     have HRW5 := Lib.hid (hrow.mono (T := fun b => w.heap.size + 1 < b) (Nat.le_refl _) (fun b (hb : w9.heap.size ≤ b) _ => ⟨by omega, rfl⟩))
     have HKD5 := Lib.hid (hkids.mono (T := fun b => w.heap.size + 1 < b) (Nat.le_refl _) (fun b (hb : w9.heap.size ≤ b) _ => ⟨by omega, rfl⟩))
     have HBF := Lib.hid hbal
     have HSF2 := Lib.hid hsz
     have HFK := Lib.hid hfk
     have HCAP := Lib.hid hcap
     clear hm5 hna hbal hsz hres hfn hlf hrow hkids hfk hcap HM9 HC9 HR9 HA9 HNA9 c0 c15
     have c0 := blk_cell HC5.out 0
     have c15 := blk_cell HM5.out.2 15
     have hb5 := blk_lt HC5.out
     have hbp5 := blk_lt HM5.out.2
     have hbA5 := blk_lt HA5.out
     have c12 := blk_cell HM5.out.2 12
     rw [hlone] at c12
     go_wp2_with fail
     have HM6 := Lib.hid (pm_alloc HM5.out (.cells #[.int .i64 kd.kind, .int .i64 o, .string kd.name, .slice l.sA l.sn l.sc, .slice l.cA l.cn l.cc, .slice A kd.kids.length c, .int .i64 a] 39))
     have HC6 := Lib.hid (blk_alloc HC5.out (.cells #[.int .i64 kd.kind, .int .i64 o, .string kd.name, .slice l.sA l.sn l.sc, .slice l.cA l.cn l.cc, .slice A kd.kids.length c, .int .i64 a] 39))
     have HR6 := Lib.hid (blk_alloc HR5.out (.cells #[.int .i64 kd.kind, .int .i64 o, .string kd.name, .slice l.sA l.sn l.sc, .slice l.cA l.cn l.cc, .slice A kd.kids.length c, .int .i64 a] 39))
     have HA6 := Lib.hid (blk_alloc HA5.out (.cells #[.int .i64 kd.kind, .int .i64 o, .string kd.name, .slice l.sA l.sn l.sc, .slice l.cA l.cn l.cc, .slice A kd.kids.length c, .int .i64 a] 39))
     have HF6 := Lib.hid (blk_new w5 (.cells #[.int .i64 kd.kind, .int .i64 o, .string kd.name, .slice l.sA l.sn l.sc, .slice l.cA l.cn l.cc, .slice A kd.kids.length c, .int .i64 a] 39))
     have HNA6 := Lib.hid (HNA5.out.below ((Below.refl _ w5).alloc (Nat.le_refl _) (.cells #[.int .i64 kd.kind, .int .i64 o, .string kd.name, .slice l.sA l.sn l.sc, .slice l.cA l.cn l.cc, .slice A kd.kids.length c, .int .i64 a] 39)))
     have HNF6 := Lib.hid (HNF5.out.below ((Below.refl _ w5).alloc (Nat.le_refl _) (.cells #[.int .i64 kd.kind, .int .i64 o, .string kd.name, .slice l.sA l.sn l.sc, .slice l.cA l.cn l.cc, .slice A kd.kids.length c, .int .i64 a] 39)))
     have HRW6 := Lib.hid (HRW5.out.mono (T := fun b => w.heap.size + 1 < b) (w' := w5.alloc (.cells #[.int .i64 kd.kind, .int .i64 o, .string kd.name, .slice l.sA l.sn l.sc, .slice l.cA l.cn l.cc, .slice A kd.kids.length c, .int .i64 a] 39)) (by simp) (fun b hb hlt => ⟨hb, Below.heap_alloc w5 _ b hlt⟩))
     have HKD6 := Lib.hid (HKD5.out.below ((Below.refl _ w5).alloc (Nat.le_refl _) (.cells #[.int .i64 kd.kind, .int .i64 o, .string kd.name, .slice l.sA l.sn l.sc, .slice l.cA l.cn l.cc, .slice A kd.kids.length c, .int .i64 a] 39)))
     obtain ⟨W6, hW6⟩ : ∃ W6, w5.alloc (.cells #[.int .i64 kd.kind, .int .i64 o, .string kd.name, .slice l.sA l.sn l.sc, .slice l.cA l.cn l.cc, .slice A kd.kids.length c, .int .i64 a] 39) = W6 := ⟨_, rfl⟩
     rw [hW6] at HM6 HC6 HR6 HA6 HF6 HNA6 HNF6 HRW6 HKD6 ⊢
     clear hW6 HM5 HC5 HR5 HA5 HNA5 HNF5 HRW5 HKD5 c0 c15 c12
     have hbF5 : w9.heap.size ≤ w5.heap.size := hs59
     have HBF5 := Lib.hid hbF5
     generalize w5.heap.size = bF at *
     have HRQ := Lib.hid (show ((E.X (d + 1) q (decide (0 < n))).bind fun x q => .ok (.mk 6 0 ⟨#[]⟩ Lt.zero [kd, ka, x] at_) q) = R by have h := HRM.out; rw [HAT.out] at h; exact h)
     have c0 := blk_cell HC6.out 0
     have y0_0 := blk_cell HF6.out 0
     have y0_1 := blk_cell HF6.out 1
     have y0_2 := blk_cell HF6.out 2
     have y0_3 := blk_cell HF6.out 3
     have y0_4 := blk_cell HF6.out 4
     have y0_5 := blk_cell HF6.out 5
     have y0_6 := blk_cell HF6.out 6
     have y1_0 := blk_cell HA6.out 0
     have y1_1 := blk_cell HA6.out 1
     have y1_2 := blk_cell HA6.out 2
     have y1_3 := blk_cell HA6.out 3
     have y1_4 := blk_cell HA6.out 4
     have y1_5 := blk_cell HA6.out 5
     have y1_6 := blk_cell HA6.out 6
     have hb6 := blk_lt HC6.out
     have hbk0 := blk_lt HF6.out
     have hbk1 := blk_lt HA6.out
     have E6 := Lib.hid (show ∀ (q' : Nat) (w' : World), PM E bp q' (d + 1) n W6 w' → w'.cell? ⟨w.heap.size, 0, none⟩ = some (.pointer (some ⟨bp, 0, none⟩)) ∧ w'.cell? ⟨bF, 0, none⟩ = some (.int .i64 kd.kind) ∧ w'.cell? ⟨bF, 1, none⟩ = some (.int .i64 o) ∧ w'.cell? ⟨bF, 2, none⟩ = some (.string kd.name) ∧ w'.cell? ⟨bF, 3, none⟩ = some (.slice l.sA l.sn l.sc) ∧ w'.cell? ⟨bF, 4, none⟩ = some (.slice l.cA l.cn l.cc) ∧ w'.cell? ⟨bF, 5, none⟩ = some (.slice A kd.kids.length c) ∧ w'.cell? ⟨bF, 6, none⟩ = some (.int .i64 a) ∧ w'.cell? ⟨bA, 0, none⟩ = some (.int .i64 ka.kind) ∧ w'.cell? ⟨bA, 1, none⟩ = some (.int .i64 o1) ∧ w'.cell? ⟨bA, 2, none⟩ = some (.string ka.name) ∧ w'.cell? ⟨bA, 3, none⟩ = some (.slice l1.sA l1.sn l1.sc) ∧ w'.cell? ⟨bA, 4, none⟩ = some (.slice l1.cA l1.cn l1.cc) ∧ w'.cell? ⟨bA, 5, none⟩ = some (.slice A1 ka.kids.length c1) ∧ w'.cell? ⟨bA, 6, none⟩ = some (.int .i64 a1) from fun q' w' h => ⟨blk_cell (blk_pm HC6.out h (by omega)) 0, blk_cell (blk_pm HF6.out h (by omega)) 0, blk_cell (blk_pm HF6.out h (by omega)) 1, blk_cell (blk_pm HF6.out h (by omega)) 2, blk_cell (blk_pm HF6.out h (by omega)) 3, blk_cell (blk_pm HF6.out h (by omega)) 4, blk_cell (blk_pm HF6.out h (by omega)) 5, blk_cell (blk_pm HF6.out h (by omega)) 6, blk_cell (blk_pm HA6.out h (by omega)) 0, blk_cell (blk_pm HA6.out h (by omega)) 1, blk_cell (blk_pm HA6.out h (by omega)) 2, blk_cell (blk_pm HA6.out h (by omega)) 3, blk_cell (blk_pm HA6.out h (by omega)) 4, blk_cell (blk_pm HA6.out h (by omega)) 5, blk_cell (blk_pm HA6.out h (by omega)) 6⟩)
     obtain ⟨RX, hRX⟩ : ∃ RX, E.X (d + 1) q (decide (0 < n)) = RX := ⟨_, rfl⟩
     have hxc := HX.out q n W6.drew (HS.out.pm (pm_drew HM6.out)) (by omega) hn0 (by omega) HM6.out.2
     rw [hRX] at hxc HRQ
     have HXC := Lib.hid hxc
     clear hxc hRX
     refine wp_region_panicThen [{ target := .fn (.func 30) #[.pointer (some ⟨w.heap.size, 0, none⟩)], args := #[] }] (ThrewC E bp RX W6) ?_ ?_
     ·rintro c a w7 hdef ⟨er, ix, p', d', n', hrb, rfl, hpm⟩
      obtain ⟨tm, df⟩ := a
      dsimp only at hdef
      subst hdef
      have HRB := Lib.hid (show R = .bad er ix by rw [← HRQ.out, hrb]; rfl)
      clear hrb
      go_wp2
      have hcend := blk_pm HC6.out hpm (by omega)
      refine leaves_cons (f := 30) (args := #[.pointer (some ⟨w.heap.size, 0, none⟩)]) (by simp) (by simp [go_sem]) ?_
      refine (up30 E bp p' d' n' w.heap.size _ w7 (blk_cell (hcend) 0) hpm.2).mono ?_
      rintro e u' w'' ⟨rfl, rfl, hpm2⟩
      show ExprPost E bp R i d n w (.panicked (faultChain er (E.here ix))) w''
      exact .inl ⟨er, ix, p', wrap64 (d' - 1), n', HRB.out, rfl, pm_step HM6.out (pm_step hpm hpm2)⟩
     ·go_region_law
       (first
          | (go_simp; go_at_call 20; (with_reducible refine HXC.out.mono ?_); rintro e w9 (ht | hg); (obtain ⟨er, ix, p', d', n', hrb, rfl, hpm⟩ := ht; exact PanicThen.panic rfl ⟨er, ix, p', d', n', hrb, rfl, pm_undrew hpm⟩); obtain ⟨r, v9, ke, rfl, hm9, hna9, hq0, hq1, hbal9, hsz9, hlit9, hres9⟩ := hg; obtain ⟨o2, l2, A2, c2, a2, vs2, rfl, -, -, -, -⟩ := hna9.form; have HM9 := Lib.hid (pm_undrew hm9); have HNE9 := Lib.hid hna9; have HB9 := Lib.hid hbal9; have HSZ9 := Lib.hid hsz9; have HQ0 := Lib.hid hq0; have HQ1 := Lib.hid hq1; have HRES9 := Lib.hid hres9; have HR9 := Lib.hid (blk_pm HR6.out HM9.out (by omega)); have x0 := blk_cell HR9.out 0; have xf0 := blk_frozen HR9.out 0; have x1 := blk_cell HR9.out 1; have xf1 := blk_frozen HR9.out 1; have x2 := blk_cell HR9.out 2; have xf2 := blk_frozen HR9.out 2; have x3 := blk_cell HR9.out 3; have xf3 := blk_frozen HR9.out 3; have x4 := blk_cell HR9.out 4; have xf4 := blk_frozen HR9.out 4; have x5 := blk_cell HR9.out 5; have xf5 := blk_frozen HR9.out 5; have x6 := blk_cell HR9.out 6; have xf6 := blk_frozen HR9.out 6; have hxr := blk_lt HR9.out; (obtain ⟨cc0, z0_0, z0_1, z0_2, z0_3, z0_4, z0_5, z0_6, z1_0, z1_1, z1_2, z1_3, z1_4, z1_5, z1_6⟩ := E6.out _ _ HM9.out); clear hm9 hna9 hbal9 hsz9 hlit9 hq0 hq1 hres9; go_wp2_with fail)
          | fail)
      all_goals
       refine PanicThen.normal ?_
       have HC9 := Lib.hid (blk_pm HC6.out HM9.out (by omega))
       have hz9 : W6.heap.size ≤ w9.heap.size := HM9.out.1.size
       have HNS := Lib.hid (show NdsAt (fun b => w.heap.size + 1 < b) w9 [.int .i64 kd.kind, .int .i64 o, .string kd.name, .slice l.sA l.sn l.sc, .slice l.cA l.cn l.cc, .slice A kd.kids.length c, .int .i64 a, .int .i64 ka.kind, .int .i64 o1, .string ka.name, .slice l1.sA l1.sn l1.sc, .slice l1.cA l1.cn l1.cc, .slice A1 ka.kids.length c1, .int .i64 a1, .int .i64 ke.kind, .int .i64 o2, .string ke.name, .slice l2.sA l2.sn l2.sc, .slice l2.cA l2.cn l2.cc, .slice A2 ke.kids.length c2, .int .i64 a2] [kd, ka, ke] by
        simp only [NdsAt]
        exact ⟨[.int .i64 kd.kind, .int .i64 o, .string kd.name, .slice l.sA l.sn l.sc, .slice l.cA l.cn l.cc, .slice A kd.kids.length c, .int .i64 a], [.int .i64 ka.kind, .int .i64 o1, .string ka.name, .slice l1.sA l1.sn l1.sc, .slice l1.cA l1.cn l1.cc, .slice A1 ka.kids.length c1, .int .i64 a1, .int .i64 ke.kind, .int .i64 o2, .string ke.name, .slice l2.sA l2.sn l2.sc, .slice l2.cA l2.cn l2.cc, .slice A2 ke.kids.length c2, .int .i64 a2], rfl, rfl, (HNF6.out.pmS HM9.out (fun b hb => by omega)).mono (Nat.le_refl _) (fun b hb _ => ⟨by omega, rfl⟩), ⟨[.int .i64 ka.kind, .int .i64 o1, .string ka.name, .slice l1.sA l1.sn l1.sc, .slice l1.cA l1.cn l1.cc, .slice A1 ka.kids.length c1, .int .i64 a1], [.int .i64 ke.kind, .int .i64 o2, .string ke.name, .slice l2.sA l2.sn l2.sc, .slice l2.cA l2.cn l2.cc, .slice A2 ke.kids.length c2, .int .i64 a2], rfl, rfl, (HNA6.out.pmS HM9.out (fun b hb => by have := hb.1; omega)).mono (Nat.le_refl _) (fun b hb _ => ⟨by have := hb.1; omega, rfl⟩), ⟨[.int .i64 ke.kind, .int .i64 o2, .string ke.name, .slice l2.sA l2.sn l2.sc, .slice l2.cA l2.cn l2.cc, .slice A2 ke.kids.length c2, .int .i64 a2], [], rfl, rfl, HNE9.out.mono (Nat.le_refl _) (fun b (hb : W6.heap.size ≤ b) _ => ⟨by omega, rfl⟩), rfl⟩⟩⟩)
       have HME := Lib.hid (pm_alloc (pm_seven (pm_step HM6.out HM9.out) (Nat.le_succ _) hbp (.int .i64 6) (.int .i64 0) (.string ⟨#[]⟩) (.slice none 0 0) (.slice none 0 0) (.slice (some ⟨w9.heap.size, 0, none⟩) 3 3) (.int .i64 at_)) (.cells #[.int .i64 kd.kind, .int .i64 o, .string kd.name, .slice l.sA l.sn l.sc, .slice l.cA l.cn l.cc, .slice A kd.kids.length c, .int .i64 a, .int .i64 ka.kind, .int .i64 o1, .string ka.name, .slice l1.sA l1.sn l1.sc, .slice l1.cA l1.cn l1.cc, .slice A1 ka.kids.length c1, .int .i64 a1, .int .i64 ke.kind, .int .i64 o2, .string ke.name, .slice l2.sA l2.sn l2.sc, .slice l2.cA l2.cn l2.cc, .slice A2 ke.kids.length c2, .int .i64 a2] 39))
       have HCE := Lib.hid (blk_alloc ((seven_heap w9 (w.heap.size + 1) w.heap.size (by omega) (.int .i64 6) (.int .i64 0) (.string ⟨#[]⟩) (.slice none 0 0) (.slice none 0 0) (.slice (some ⟨w9.heap.size, 0, none⟩) 3 3) (.int .i64 at_)).trans HC9.out) (.cells #[.int .i64 kd.kind, .int .i64 o, .string kd.name, .slice l.sA l.sn l.sc, .slice l.cA l.cn l.cc, .slice A kd.kids.length c, .int .i64 a, .int .i64 ka.kind, .int .i64 o1, .string ka.name, .slice l1.sA l1.sn l1.sc, .slice l1.cA l1.cn l1.cc, .slice A1 ka.kids.length c1, .int .i64 a1, .int .i64 ke.kind, .int .i64 o2, .string ke.name, .slice l2.sA l2.sn l2.sc, .slice l2.cA l2.cn l2.cc, .slice A2 ke.kids.length c2, .int .i64 a2] 39))
       have HRE := Lib.hid (blk_alloc (seven_blk HR9.out (.int .i64 6) (.int .i64 0) (.string ⟨#[]⟩) (.slice none 0 0) (.slice none 0 0) (.slice (some ⟨w9.heap.size, 0, none⟩) 3 3) (.int .i64 at_)) (.cells #[.int .i64 kd.kind, .int .i64 o, .string kd.name, .slice l.sA l.sn l.sc, .slice l.cA l.cn l.cc, .slice A kd.kids.length c, .int .i64 a, .int .i64 ka.kind, .int .i64 o1, .string ka.name, .slice l1.sA l1.sn l1.sc, .slice l1.cA l1.cn l1.cc, .slice A1 ka.kids.length c1, .int .i64 a1, .int .i64 ke.kind, .int .i64 o2, .string ke.name, .slice l2.sA l2.sn l2.sc, .slice l2.cA l2.cn l2.cc, .slice A2 ke.kids.length c2, .int .i64 a2] 39))
       have HNE := Lib.hid (nd_row (S := fun b => w.heap.size + 1 < b) (B0 := w.heap.size + 1) (fun b hb => by omega) HNS.out (by omega) (.int .i64 6) (.int .i64 0) (.string ⟨#[]⟩) (.slice none 0 0) (.slice none 0 0) (.slice (some ⟨w9.heap.size, 0, none⟩) 3 3) (.int .i64 at_) 6 0 ⟨#[]⟩ Lt.zero at_)
       obtain ⟨W7, hW7⟩ : ∃ W7, (sevenSet w9 (w.heap.size + 1) (.int .i64 6) (.int .i64 0) (.string ⟨#[]⟩) (.slice none 0 0) (.slice none 0 0) (.slice (some ⟨w9.heap.size, 0, none⟩) 3 3) (.int .i64 at_)).alloc (.cells #[.int .i64 kd.kind, .int .i64 o, .string kd.name, .slice l.sA l.sn l.sc, .slice l.cA l.cn l.cc, .slice A kd.kids.length c, .int .i64 a, .int .i64 ka.kind, .int .i64 o1, .string ka.name, .slice l1.sA l1.sn l1.sc, .slice l1.cA l1.cn l1.cc, .slice A1 ka.kids.length c1, .int .i64 a1, .int .i64 ke.kind, .int .i64 o2, .string ke.name, .slice l2.sA l2.sn l2.sc, .slice l2.cA l2.cn l2.cc, .slice A2 ke.kids.length c2, .int .i64 a2] 39) = W7 := ⟨_, rfl⟩
       have HNE7 := Lib.hid (hW7 ▸ HNE.out)
       rw [hW7] at HME HCE HRE
       unfold sevenSet at hW7
       rw [hW7]
       clear hW7 HNE
       go_wp2
       refine leaves_cons (f := 30) (args := #[.pointer (some ⟨w.heap.size, 0, none⟩)]) (by simp) (by simp [go_sem]) ?_
       refine (up30 E bp r (d + 1) n w.heap.size _ W7 (blk_cell HCE.out 0) HME.out.2).mono ?_
       rintro e u' w10 ⟨rfl, rfl, hpm2⟩
       have hre := blk_pm HRE.out hpm2 (by omega)
       have q0 := blk_cell hre 0
       have q1 := blk_cell hre 1
       have q2 := blk_cell hre 2
       have q3 := blk_cell hre 3
       have q4 := blk_cell hre 4
       have q5 := blk_cell hre 5
       have q6 := blk_cell hre 6
       have hpm3 := pm_step HME.out hpm2
       rw [wrap64_back d (by omega) (by omega)] at hpm3
       refine ⟨.agg #[.int .i64 6, .int .i64 0, .string ⟨#[]⟩, .slice none 0 0, .slice none 0 0, .slice (some ⟨w9.heap.size, 0, none⟩) 3 3, .int .i64 at_], by simp [results, Try.results20, go_sem, q0, q1, q2, q3, q4, q5, q6], ?_⟩
       refine .inr ⟨r, _, .mk 6 0 ⟨#[]⟩ Lt.zero [kd, ka, ke] at_, rfl, hpm3, (HNE7.out.pmS hpm2 (fun b hb => by omega)).mono (Nat.le_refl _) (fun b hb _ => ⟨by omega, rfl⟩), by have := HQ0.out; have := HIJ.out; omega, HQ1.out, (HBAL.out.trans HBF.out).trans HB9.out, ?_, .inl rfl, by rw [← HRQ.out, HRES9.out]; rfl⟩
       have := HSZ.out
       have := HSF2.out
       have := HSZ9.out
       have := HIJ.out
       have := HQ0.out
       simp only [Nd.size, sizes]
       omega
end Go.Proofs.Ytollglblkbjgjaa
