/- The walk of GrammarBrackets. Conditions: the text is no longer than what is handed over can be. -/
import Derived.Test.YtollglblkbjgjaaJn
import Derived.Test.YtollglblkbjgjaaPe
import Derived.Deep.DeepCutAuto
namespace Go.Proofs.Ytollglblkbjgjaa
open Go.RowKit

set_option maxRecDepth 100000 in
set_option maxHeartbeats 16000000 in
theorem brackets_any (d : Int) (s : ByteArray) (hs : s.size ≤ 140737488351232) (w : World) : Calls Try.prog 3 #[.int .i64 d, .string s] w (WorksTo w) := by
 obtain ⟨i0, hi0, hz0, hz1, hz2⟩ := info_parts info43
 go_enter Try.func3, Try.ntmps3
 go_wp2_with fail
 refine (law6_any d s w).mono ?_
 rintro e w1 ⟨hb1, T, vA, vc, aA, ac, bA, bc, lA, lc, L, er, at_, hT, rfl, hv, ha, hbb, hg, hc1, hc2⟩
 have HT := Lib.hid hT
 have HB1 := Lib.hid hb1
 have HEV := Lib.hid (show EnvRd w1 (tabE T vA vc aA ac bA bc lA lc L (s.size : Int)) from ⟨hv, ha, hbb, hg.read⟩)
 have HG := Lib.hid hg
 have hll := hg.len
 clear hT hb1 hv ha hbb hg
 simp only [Env.gramV, tabE, faultV]
 go_upto_region 2 with fail
 obtain ⟨W1, hW1⟩ : ∃ W, (w1.alloc (.cells #[.slice vA T.V.length vc, .slice aA T.A.length ac, .slice bA T.B.length bc, .string T.s1, .string T.s2, .string T.s3, .string T.s4, .string T.s5, .string T.s6, .string T.s7, .string T.s8, .bool T.b1, .bool T.b2, .bool T.b3] 24)).alloc (.cells #[.int .i64 er, .int .i64 at_, .int .i64 0] 28) = W := ⟨_, rfl⟩
 have hbW1 : Below w1.heap.size w1 W1 := by rw [← hW1]; exact ((Below.refl _ w1).alloc (Nat.le_refl _) _).alloc (by simp) _
 have N0W1 := Lib.hid (show W1.heap[w1.heap.size]? = some (.cells #[.slice vA T.V.length vc, .slice aA T.A.length ac, .slice bA T.B.length bc, .string T.s1, .string T.s2, .string T.s3, .string T.s4, .string T.s5, .string T.s6, .string T.s7, .string T.s8, .bool T.b1, .bool T.b2, .bool T.b3] 24 (0, 0)) by rw [← hW1]; exact blk_alloc (blk_new w1 _) _)
 have N1W1 := Lib.hid (show W1.heap[w1.heap.size + 1]? = some (.cells #[.int .i64 er, .int .i64 at_, .int .i64 0] 28 (0, 0)) by
  rw [← hW1]
  have := blk_new (w1.alloc (.cells #[.slice vA T.V.length vc, .slice aA T.A.length ac, .slice bA T.B.length bc, .string T.s1, .string T.s2, .string T.s3, .string T.s4, .string T.s5, .string T.s6, .string T.s7, .string T.s8, .bool T.b1, .bool T.b2, .bool T.b3] 24)) (.cells #[.int .i64 er, .int .i64 at_, .int .i64 0] 28)
  rwa [show (w1.alloc (.cells #[.slice vA T.V.length vc, .slice aA T.A.length ac, .slice bA T.B.length bc, .string T.s1, .string T.s2, .string T.s3, .string T.s4, .string T.s5, .string T.s6, .string T.s7, .string T.s8, .bool T.b1, .bool T.b2, .bool T.b3] 24)).heap.size = w1.heap.size + 1 by simp] at this)
 have HBW1 := Lib.hid hbW1
 rw [hW1]
 clear hW1 hbW1
 have HB := Lib.hid (below_then HB1.out HB1.out.size HBW1.out)
 have f0 := blk_cell N1W1.out 0
 have ff0 := blk_frozen N1W1.out 0
 have f1 := blk_cell N1W1.out 1
 have ff1 := blk_frozen N1W1.out 1
 have f2 := blk_cell N1W1.out 2
 have ff2 := blk_frozen N1W1.out 2
 by_cases her : er = 0
 ·subst her
  have g0 := blk_cell N0W1.out 0
  have gf0 := blk_frozen N0W1.out 0
  have g1 := blk_cell N0W1.out 1
  have gf1 := blk_frozen N0W1.out 1
  have g2 := blk_cell N0W1.out 2
  have gf2 := blk_frozen N0W1.out 2
  have g3 := blk_cell N0W1.out 3
  have gf3 := blk_frozen N0W1.out 3
  have g4 := blk_cell N0W1.out 4
  have gf4 := blk_frozen N0W1.out 4
  have g5 := blk_cell N0W1.out 5
  have gf5 := blk_frozen N0W1.out 5
  have g6 := blk_cell N0W1.out 6
  have gf6 := blk_frozen N0W1.out 6
  have g7 := blk_cell N0W1.out 7
  have gf7 := blk_frozen N0W1.out 7
  have g8 := blk_cell N0W1.out 8
  have gf8 := blk_frozen N0W1.out 8
  have g9 := blk_cell N0W1.out 9
  have gf9 := blk_frozen N0W1.out 9
  have g10 := blk_cell N0W1.out 10
  have gf10 := blk_frozen N0W1.out 10
  have g11 := blk_cell N0W1.out 11
  have gf11 := blk_frozen N0W1.out 11
  have g12 := blk_cell N0W1.out 12
  have gf12 := blk_frozen N0W1.out 12
  have g13 := blk_cell N0W1.out 13
  have gf13 := blk_frozen N0W1.out 13
  have HLC := Lib.hid (show Calls Try.prog 7 #[.agg #[.slice vA T.V.length vc, .slice aA T.A.length ac, .slice bA T.B.length bc, .string T.s1, .string T.s2, .string T.s3, .string T.s4, .string T.s5, .string T.s6, .string T.s7, .string T.s8, .bool T.b1, .bool T.b2, .bool T.b3], .slice lA L.length lc] W1 (LightTo (tabE T vA vc aA ac bA bc lA lc L (s.size : Int)) W1) from light_any (tabE T vA vc aA ac bA bc lA lc L (s.size : Int)) W1 (HEV.out.below HBW1.out) (good_arrs (s := s) (HG.out.below HBW1.out)))
  go_wp2_with fail
  refine HLC.out.mono ?_
  rintro e w2 ⟨b, rfl, hb2, -⟩
  have HB2 := Lib.hid hb2
  have HBB := Lib.hid (below_then HB.out HB.out.size hb2)
  have HB12 := Lib.hid (below_then HBW1.out HBW1.out.size hb2)
  have HG2 := Lib.hid (blk_below N0W1.out hb2 (blk_lt N0W1.out))
  clear hb2 HLC g0 gf0 g1 gf1 g2 gf2 g3 gf3 g4 gf4 g5 gf5 g6 gf6 g7 gf7 g8 gf8 g9 gf9 g10 gf10 g11 gf11 g12 gf12 g13 gf13 f0 ff0 f1 ff1 f2 ff2
  cases b with
  | false =>
   go_wp2_with fail
   refine (works_any _).mono ?_
   rintro e wr ⟨rfl, hbr⟩
   have HBR := Lib.hid (below_then HBB.out (HBB.out).size hbr)
   clear hbr
   go_wp2
   refine bodyPost_ret (v := .bool true) (by simp [results, Try.results3, go_sem]) rfl ?_
   exact ⟨rfl, HBR.out⟩
  | true =>
   have HPC := Lib.hid (show Calls Try.prog 9 #[.agg #[.slice vA T.V.length vc, .slice aA T.A.length ac, .slice bA T.B.length bc, .string T.s1, .string T.s2, .string T.s3, .string T.s4, .string T.s5, .string T.s6, .string T.s7, .string T.s8, .bool T.b1, .bool T.b2, .bool T.b3], .slice lA L.length lc, .int .i64 (s.size : Int)] w2 (ParseU (tabE T vA vc aA ac bA bc lA lc L (s.size : Int)) w2) from parse_u (tabE T vA vc aA ac bA bc lA lc L (s.size : Int)) w2 ⟨HEV.out.v.below HB12.out, HEV.out.a.below HB12.out, HEV.out.b.below HB12.out, HEV.out.l.below HB12.out, Nat.le_trans HT.out.vn.2 (by decide), Nat.le_trans HT.out.an (by decide), Nat.le_trans HT.out.bn (by decide), Nat.le_trans hll (by decide)⟩ (fun i t ht => by have := HG.out.text i t ht; omega))
   have g0 := blk_cell HG2.out 0
   have gf0 := blk_frozen HG2.out 0
   have g1 := blk_cell HG2.out 1
   have gf1 := blk_frozen HG2.out 1
   have g2 := blk_cell HG2.out 2
   have gf2 := blk_frozen HG2.out 2
   have g3 := blk_cell HG2.out 3
   have gf3 := blk_frozen HG2.out 3
   have g4 := blk_cell HG2.out 4
   have gf4 := blk_frozen HG2.out 4
   have g5 := blk_cell HG2.out 5
   have gf5 := blk_frozen HG2.out 5
   have g6 := blk_cell HG2.out 6
   have gf6 := blk_frozen HG2.out 6
   have g7 := blk_cell HG2.out 7
   have gf7 := blk_frozen HG2.out 7
   have g8 := blk_cell HG2.out 8
   have gf8 := blk_frozen HG2.out 8
   have g9 := blk_cell HG2.out 9
   have gf9 := blk_frozen HG2.out 9
   have g10 := blk_cell HG2.out 10
   have gf10 := blk_frozen HG2.out 10
   have g11 := blk_cell HG2.out 11
   have gf11 := blk_frozen HG2.out 11
   have g12 := blk_cell HG2.out 12
   have gf12 := blk_frozen HG2.out 12
   have g13 := blk_cell HG2.out 13
   have gf13 := blk_frozen HG2.out 13
   go_wp2_with fail
   refine HPC.out.mono ?_
   rintro e w3 ⟨hb3, kd1, o1, nm1, sA1, sn1, sc1, cA1, cn1, cc1, kA1, kn1, kc1, a1, eh1, ah1, rfl, hcase⟩
   have HC1 := Lib.hid hcase
   have HB3 := Lib.hid hb3
   have hn3 := blk_below HG2.out hb3 (blk_lt HG2.out)
   have HG3 := Lib.hid hn3
   clear hcase hb3 hn3 HPC g0 gf0 g1 gf1 g2 gf2 g3 gf3 g4 gf4 g5 gf5 g6 gf6 g7 gf7 g8 gf8 g9 gf9 g10 gf10 g11 gf11 g12 gf12 g13 gf13
   go_upto_region 5 with fail
   obtain ⟨W4, hW4⟩ : ∃ W, (w3.alloc (.cells #[.int .i64 kd1, .int .i64 o1, .string nm1, .slice sA1 sn1 sc1, .slice cA1 cn1 cc1, .slice kA1 kn1 kc1, .int .i64 a1] 39)).alloc (.cells #[.int .i64 eh1, .int .i64 ah1, .int .i64 0] 28) = W := ⟨_, rfl⟩
   have hbW4 : Below w3.heap.size w3 W4 := by rw [← hW4]; exact ((Below.refl _ w3).alloc (Nat.le_refl _) _).alloc (by simp) _
   have N0W4 := Lib.hid (show W4.heap[w3.heap.size]? = some (.cells #[.int .i64 kd1, .int .i64 o1, .string nm1, .slice sA1 sn1 sc1, .slice cA1 cn1 cc1, .slice kA1 kn1 kc1, .int .i64 a1] 39 (0, 0)) by rw [← hW4]; exact blk_alloc (blk_new w3 _) _)
   have N1W4 := Lib.hid (show W4.heap[w3.heap.size + 1]? = some (.cells #[.int .i64 eh1, .int .i64 ah1, .int .i64 0] 28 (0, 0)) by
    rw [← hW4]
    have := blk_new (w3.alloc (.cells #[.int .i64 kd1, .int .i64 o1, .string nm1, .slice sA1 sn1 sc1, .slice cA1 cn1 cc1, .slice kA1 kn1 kc1, .int .i64 a1] 39)) (.cells #[.int .i64 eh1, .int .i64 ah1, .int .i64 0] 28)
    rwa [show (w3.alloc (.cells #[.int .i64 kd1, .int .i64 o1, .string nm1, .slice sA1 sn1 sc1, .slice cA1 cn1 cc1, .slice kA1 kn1 kc1, .int .i64 a1] 39)).heap.size = w3.heap.size + 1 by simp] at this)
   have HBW4 := Lib.hid hbW4
   rw [hW4]
   clear hW4 hbW4
   have HG4 := Lib.hid (blk_below HG3.out HBW4.out (blk_lt HG3.out))
   have HB14 := Lib.hid (below_then (below_then HB12.out HB12.out.size HB3.out) (Nat.le_trans HB12.out.size HB3.out.size) HBW4.out)
   have HB4 := Lib.hid (below_then HB1.out HB1.out.size HB14.out)
   have HEV4 := Lib.hid (HEV.out.below HB14.out)
   have HTG4 := Lib.hid (HG.out.below HB14.out)
   have hg4 := blk_lt HG4.out
   have hn4 := blk_lt N0W4.out
   have hf4 := blk_lt N1W4.out
   clear HG2 HG3 HB2 HBB HB HBW1 N0W1 N1W1
   go_upto_region 7 with (at_builtin; refine wpList_append_lies _ rfl (.tmp 38) (.tmp 40) 25 rfl W4.heap.size 43 i0 _ 5 80 Try.underlying25 hi0 hz0 hz1 hz2 rfl (by omega) ((.slice none 0 0)) 0 ([]) rfl (World.ownsRow_nil _ _ _ _) ⟨W4.heap.size, 0, none⟩ 1 1 (tokVals (ownTok 5 ⟨#[40]⟩ 0)) rfl (rfl) (World.news_of_block (cs := (tokVals (ownTok 5 ⟨#[40]⟩ 0)).toArray) (t := 43) (fr := (0, 0)) (by have := heap_alloc_new W4 (.cells (tokVals (ownTok 5 ⟨#[40]⟩ 0)).toArray 43); simpa [tokVals, ownTok, Lt.zero] using this)) (tokVals_one _) (by omega) (by unfold maxLen; omega) (by omega) (by simp) (W4.heap.size + 1) (by simp) ?_; intro gg1 c1 w5 hown5 hgrow5 hat5 hlt5)
   have HOWN5 := Lib.hid (show w5.ownsRow W4.heap.size 43 5 (.slice (some ⟨gg1, 0, none⟩) 1 c1) 1 (toksVals [(ownTok 5 ⟨#[40]⟩ 0)]) from hown5)
   have HB5 := Lib.hid (show Below W4.heap.size W4 w5 from ((Below.refl _ W4).alloc (Nat.le_refl _) _).grown hgrow5 (by simp) (fun k hk => by simp [Value.ownBlock] at hk))
   clear hown5 hgrow5 hat5 hlt5
   rcases Nat.eq_zero_or_pos L.length with hzero | hpos
   ·have hnil : L = [] := List.length_eq_zero_iff.1 hzero
    have hl0 : (.slice lA L.length lc : Value) = .slice lA 0 lc := by rw [hzero]
    have hc15 : 1 ≤ c1 := by
     obtain ⟨A', c', h1, h2, _⟩ := own_slice2 HOWN5.out
     cases h1
     exact h2
    go_upto_region 8 with (at_builtin; refine wpList_append_none _ rfl (.tmp 42) (.tmp 43) 25 rfl 43 i0 Try.underlying25 hi0 (some ⟨gg1, 0, none⟩) 1 c1 hc15 rfl lA lc hl0 ?_)
    have HB6 := HB5
    subst hnil
    have HOWN6 := Lib.hid (show w5.ownsRow W4.heap.size 43 5 (.slice (some ⟨gg1, 0, none⟩) (1 + ([] : List Tok).length) c1) (1 + ([] : List Tok).length) (toksVals [(ownTok 5 ⟨#[40]⟩ 0)]) from HOWN5.out)
    go_upto_region 9 with (at_builtin; refine wpList_append_lies _ rfl (.tmp 45) (.tmp 49) 25 rfl W4.heap.size 43 i0 _ 5 80 Try.underlying25 hi0 hz0 hz1 hz2 rfl (by omega) (.slice (some ⟨gg1, 0, none⟩) (1 + ([] : List Tok).length) c1) (1 + ([] : List Tok).length) (toksVals ((ownTok 5 ⟨#[40]⟩ 0) :: ([] : List Tok))) rfl (HOWN6.out.alloc _) ⟨w5.heap.size, 0, none⟩ 1 1 (tokVals (ownTok 6 ⟨#[41]⟩ (s.size : Int))) rfl (rfl) (World.news_of_block (cs := (tokVals (ownTok 6 ⟨#[41]⟩ (s.size : Int))).toArray) (t := 43) (fr := (0, 0)) (by have := heap_alloc_new w5 (.cells (tokVals (ownTok 6 ⟨#[41]⟩ (s.size : Int))).toArray 43); simpa [tokVals, ownTok, Lt.zero] using this)) (tokVals_one _) (by omega) (by unfold maxLen; omega) (by omega) (by have := HB6.out.size; simp <;> omega) (w5.heap.size + 1) (by simp) ?_; intro gg3 c3 w7 hown7 hgrow7 hat7 hlt7)
    have HOWN7 := Lib.hid (show w7.ownsRow W4.heap.size 43 5 (.slice (some ⟨gg3, 0, none⟩) ((ownTok 5 ⟨#[40]⟩ 0) :: (([] : List Tok) ++ [(ownTok 6 ⟨#[41]⟩ (s.size : Int))])).length c3) ((ownTok 5 ⟨#[40]⟩ 0) :: (([] : List Tok) ++ [(ownTok 6 ⟨#[41]⟩ (s.size : Int))])).length (toksVals ((ownTok 5 ⟨#[40]⟩ 0) :: (([] : List Tok) ++ [(ownTok 6 ⟨#[41]⟩ (s.size : Int))]))) from by
     have h := hown7
     rw [show toksVals ((ownTok 5 ⟨#[40]⟩ 0) :: ([] : List Tok)) ++ tokVals (ownTok 6 ⟨#[41]⟩ (s.size : Int)) = toksVals ((ownTok 5 ⟨#[40]⟩ 0) :: (([] : List Tok) ++ [(ownTok 6 ⟨#[41]⟩ (s.size : Int))])) by simp [toksVals]] at h
     rw [show ((ownTok 5 ⟨#[40]⟩ 0) :: (([] : List Tok) ++ [(ownTok 6 ⟨#[41]⟩ (s.size : Int))])).length = 1 + ([] : List Tok).length + 1 by simp <;> omega]
     exact h)
    have HB7 := Lib.hid (show Below W4.heap.size W4 w7 from (HB6.out.alloc HB6.out.size _).grown hgrow7 (by have := HB6.out.size; simp <;> omega) (fun k hk => (HOWN6.out.lt k hk).1))
    clear hown7 hgrow7 hat7 hlt7 HOWN6 HB6
    have HEN7 := Lib.hid (show EnvAt w7 (tabE T vA vc aA ac bA bc (some ⟨gg3, 0, none⟩) c3 ((ownTok 5 ⟨#[40]⟩ 0) :: (([] : List Tok) ++ [(ownTok 6 ⟨#[41]⟩ (s.size : Int))])) ((s.size : Int) + 1)) from ⟨HEV4.out.v.below HB7.out, HEV4.out.a.below HB7.out, HEV4.out.b.below HB7.out, toks_own HOWN7.out (fun i t ht => by
     rcases List.mem_cons.1 (List.mem_of_getElem? ht) with h | h
     ·rw [h]; exact litzero_read _
     ·rcases List.mem_append.1 h with h | h
      ·obtain ⟨q, hq, rfl⟩ := List.getElem_of_mem h
       obtain ⟨rb, ro, _, hall⟩ := HTG4.out.read (by omega)
       exact (hall q _ (List.getElem?_eq_getElem hq)).lit.below HB7.out
      ·rw [List.mem_singleton.1 h]; exact litzero_read _), Nat.le_trans HT.out.vn.2 (by decide), Nat.le_trans HT.out.an (by decide), Nat.le_trans HT.out.bn (by decide), (by show ((ownTok 5 ⟨#[40]⟩ 0) :: (([] : List Tok) ++ [(ownTok 6 ⟨#[41]⟩ (s.size : Int))])).length ≤ 100000; simp <;> omega)⟩)
    have hpc2 := parse_u (tabE T vA vc aA ac bA bc (some ⟨gg3, 0, none⟩) c3 ((ownTok 5 ⟨#[40]⟩ 0) :: (([] : List Tok) ++ [(ownTok 6 ⟨#[41]⟩ (s.size : Int))])) ((s.size : Int) + 1)) w7 HEN7.out (fun i t ht => by
     rcases List.mem_cons.1 (List.mem_of_getElem? ht) with h | h
     ·rw [h]; show (⟨#[40]⟩ : ByteArray).size ≤ _; decide
     ·rcases List.mem_append.1 h with h | h
      ·obtain ⟨q, hq, rfl⟩ := List.getElem_of_mem h
       have := HTG4.out.text q _ (List.getElem?_eq_getElem hq)
       omega
      ·rw [List.mem_singleton.1 h]; show (⟨#[41]⟩ : ByteArray).size ≤ _; decide)
    rw [show (tabE T vA vc aA ac bA bc (some ⟨gg3, 0, none⟩) c3 ((ownTok 5 ⟨#[40]⟩ 0) :: (([] : List Tok) ++ [(ownTok 6 ⟨#[41]⟩ (s.size : Int))])) ((s.size : Int) + 1)).L.length = 1 + ([] : List Tok).length + 1 by show ((ownTok 5 ⟨#[40]⟩ 0) :: (([] : List Tok) ++ [(ownTok 6 ⟨#[41]⟩ (s.size : Int))])).length = _; simp <;> omega] at hpc2
    have HPC2 := Lib.hid (show Calls Try.prog 9 #[.agg #[.slice vA T.V.length vc, .slice aA T.A.length ac, .slice bA T.B.length bc, .string T.s1, .string T.s2, .string T.s3, .string T.s4, .string T.s5, .string T.s6, .string T.s7, .string T.s8, .bool T.b1, .bool T.b2, .bool T.b3], .slice (some ⟨gg3, 0, none⟩) (1 + ([] : List Tok).length + 1) c3, .int .i64 ((s.size : Int) + 1)] w7 (ParseU (tabE T vA vc aA ac bA bc (some ⟨gg3, 0, none⟩) c3 ((ownTok 5 ⟨#[40]⟩ 0) :: (([] : List Tok) ++ [(ownTok 6 ⟨#[41]⟩ (s.size : Int))])) ((s.size : Int) + 1)) w7) from hpc2)
    have HG7 := Lib.hid (blk_below HG4.out HB7.out hg4)
    have hw : IntKind.i64.wrap ((s.size : Int) + 1) = (s.size : Int) + 1 := wraps_i64 _ (by omega) (by omega)
    clear hpc2
    have g0 := blk_cell HG7.out 0
    have gf0 := blk_frozen HG7.out 0
    have g1 := blk_cell HG7.out 1
    have gf1 := blk_frozen HG7.out 1
    have g2 := blk_cell HG7.out 2
    have gf2 := blk_frozen HG7.out 2
    have g3 := blk_cell HG7.out 3
    have gf3 := blk_frozen HG7.out 3
    have g4 := blk_cell HG7.out 4
    have gf4 := blk_frozen HG7.out 4
    have g5 := blk_cell HG7.out 5
    have gf5 := blk_frozen HG7.out 5
    have g6 := blk_cell HG7.out 6
    have gf6 := blk_frozen HG7.out 6
    have g7 := blk_cell HG7.out 7
    have gf7 := blk_frozen HG7.out 7
    have g8 := blk_cell HG7.out 8
    have gf8 := blk_frozen HG7.out 8
    have g9 := blk_cell HG7.out 9
    have gf9 := blk_frozen HG7.out 9
    have g10 := blk_cell HG7.out 10
    have gf10 := blk_frozen HG7.out 10
    have g11 := blk_cell HG7.out 11
    have gf11 := blk_frozen HG7.out 11
    have g12 := blk_cell HG7.out 12
    have gf12 := blk_frozen HG7.out 12
    have g13 := blk_cell HG7.out 13
    have gf13 := blk_frozen HG7.out 13
    go_wp2_with fail
    refine HPC2.out.mono ?_
    rintro e w8 ⟨hb8, kd2, o2, nm2, sA2, sn2, sc2, cA2, cn2, cc2, kA2, kn2, kc2, a2, eh2, ah2, rfl, hcase2⟩
    have HC2 := Lib.hid hcase2
    have HB8 := Lib.hid (below_then HB7.out HB7.out.size hb8)
    clear hcase2 hb8 HPC2 hw g0 gf0 g1 gf1 g2 gf2 g3 gf3 g4 gf4 g5 gf5 g6 gf6 g7 gf7 g8 gf8 g9 gf9 g10 gf10 g11 gf11 g12 gf12 g13 gf13
    go_upto_region 10 with fail
    obtain ⟨W9, hW9⟩ : ∃ W, (w8.alloc (.cells #[.int .i64 kd2, .int .i64 o2, .string nm2, .slice sA2 sn2 sc2, .slice cA2 cn2 cc2, .slice kA2 kn2 kc2, .int .i64 a2] 39)).alloc (.cells #[.int .i64 eh2, .int .i64 ah2, .int .i64 0] 28) = W := ⟨_, rfl⟩
    have hbW9 : Below w8.heap.size w8 W9 := by rw [← hW9]; exact ((Below.refl _ w8).alloc (Nat.le_refl _) _).alloc (by simp) _
    have N0W9 := Lib.hid (show W9.heap[w8.heap.size]? = some (.cells #[.int .i64 kd2, .int .i64 o2, .string nm2, .slice sA2 sn2 sc2, .slice cA2 cn2 cc2, .slice kA2 kn2 kc2, .int .i64 a2] 39 (0, 0)) by rw [← hW9]; exact blk_alloc (blk_new w8 _) _)
    have N1W9 := Lib.hid (show W9.heap[w8.heap.size + 1]? = some (.cells #[.int .i64 eh2, .int .i64 ah2, .int .i64 0] 28 (0, 0)) by
     rw [← hW9]
     have := blk_new (w8.alloc (.cells #[.int .i64 kd2, .int .i64 o2, .string nm2, .slice sA2 sn2 sc2, .slice cA2 cn2 cc2, .slice kA2 kn2 kc2, .int .i64 a2] 39)) (.cells #[.int .i64 eh2, .int .i64 ah2, .int .i64 0] 28)
     rwa [show (w8.alloc (.cells #[.int .i64 kd2, .int .i64 o2, .string nm2, .slice sA2 sn2 sc2, .slice cA2 cn2 cc2, .slice kA2 kn2 kc2, .int .i64 a2] 39)).heap.size = w8.heap.size + 1 by simp] at this)
    have HBW9 := Lib.hid hbW9
    rw [hW9]
    clear hW9 hbW9
    have HB9 := Lib.hid (below_then HB8.out HB8.out.size HBW9.out)
    have HBF := Lib.hid (below_then HB4.out HB4.out.size HB9.out)
    have HNA := Lib.hid (blk_below N0W4.out HB9.out hn4)
    have HFA := Lib.hid (blk_below N1W4.out HB9.out hf4)
    have f0 := blk_cell HFA.out 0
    have ff0 := blk_frozen HFA.out 0
    have f1 := blk_cell HFA.out 1
    have ff1 := blk_frozen HFA.out 1
    have f2 := blk_cell HFA.out 2
    have ff2 := blk_frozen HFA.out 2
    rcases HC1.out with ⟨hne, -⟩ | ⟨h0, k, j, hpm, hnd, hsz, hj, hbal⟩
    ·have b1 : (eh1 != 0) = true := bne_iff_ne.2 hne
     go_wp2_with fail
     refine (works_any _).mono ?_
     rintro e wr ⟨rfl, hbr⟩
     have HBR := Lib.hid (below_then HBF.out (HBF.out).size hbr)
     clear hbr
     go_wp2
     refine bodyPost_ret (v := .bool true) (by simp [results, Try.results3, go_sem]) rfl ?_
     exact ⟨rfl, HBR.out⟩
    ·subst h0
     have y0 := blk_cell N1W9.out 0
     have yf0 := blk_frozen N1W9.out 0
     have y1 := blk_cell N1W9.out 1
     have yf1 := blk_frozen N1W9.out 1
     have y2 := blk_cell N1W9.out 2
     have yf2 := blk_frozen N1W9.out 2
     have hjl : j = ([] : List Tok).length := by
      obtain ⟨_, h⟩ := parse_ok hpm
      have : (tabE T vA vc aA ac bA bc lA lc ([] : List Tok) (s.size : Int)).L.length = ([] : List Tok).length := rfl
      omega
     subst hjl
     have hbr := brack_parse (E := (tabE T vA vc aA ac bA bc lA lc ([] : List Tok) (s.size : Int))) (E' := (tabE T vA vc aA ac bA bc (some ⟨gg3, 0, none⟩) c3 ((ownTok 5 ⟨#[40]⟩ 0) :: (([] : List Tok) ++ [(ownTok 6 ⟨#[41]⟩ (s.size : Int))])) ((s.size : Int) + 1))) ⟨rfl, rfl, rfl, rfl, rfl, rfl, rfl, rfl, rfl, rfl, rfl, rfl⟩ (o := (ownTok 5 ⟨#[40]⟩ 0)) (c := (ownTok 6 ⟨#[41]⟩ (s.size : Int))) rfl rfl rfl rfl rfl HT.out.op hbal hpm
     rcases HC2.out with ⟨hne2, ix, hbad⟩ | ⟨h02, k2, j2, hpm2, hnd2, -, -, -⟩
     ·have h15 : eh2 = 15 := by
       rcases hbr with ⟨i, h⟩ | ⟨k', j', h, -⟩
       ·rw [hbad] at h
        simp only [Res.bad.injEq] at h
        exact h.1
       ·rw [hbad] at h
        cases h
      subst h15
      clear hne2 hbad hbr hbal hpm hnd
      go_wp2_with fail
      refine (works_any _).mono ?_
      rintro e wr ⟨rfl, hbr⟩
      have HBR := Lib.hid (below_then HBF.out (HBF.out).size hbr)
      clear hbr
      go_wp2
      refine bodyPost_ret (v := .bool true) (by simp [results, Try.results3, go_sem]) rfl ?_
      exact ⟨rfl, HBR.out⟩
     ·subst h02
      have hbare : k2.bare = k.bare := by
       rcases hbr with ⟨i, h⟩ | ⟨k', j', h, hb⟩
       ·rw [hpm2] at h
        cases h
       ·rw [hpm2] at h
        simp only [Res.ok.injEq] at h
        rw [h.1]
        exact hb
      have hflat : ∀ l ∈ k.lits, FlatL W9 l := lq_parse (Q := fun l => FlatL W9 l) (flat_zero W9) (tabE T vA vc aA ac bA bc lA lc ([] : List Tok) (s.size : Int)) (fun i t ht => ((HTG4.out.flat i t ht).below HB9.out)) hpm
      have HSA := Lib.hid (same_any 5000 k k2 _ _ W9 (by omega) (by decide) hbare.symm ((hnd.below HBW4.out).below HB9.out) (hnd2.below HBW9.out) hflat)
      clear hflat hbare hnd hnd2 hpm hpm2 hbr hbal
      have m0 := blk_cell HNA.out 0
      have mf0 := blk_frozen HNA.out 0
      have m1 := blk_cell HNA.out 1
      have mf1 := blk_frozen HNA.out 1
      have m2 := blk_cell HNA.out 2
      have mf2 := blk_frozen HNA.out 2
      have m3 := blk_cell HNA.out 3
      have mf3 := blk_frozen HNA.out 3
      have m4 := blk_cell HNA.out 4
      have mf4 := blk_frozen HNA.out 4
      have m5 := blk_cell HNA.out 5
      have mf5 := blk_frozen HNA.out 5
      have m6 := blk_cell HNA.out 6
      have mf6 := blk_frozen HNA.out 6
      have n0 := blk_cell N0W9.out 0
      have nf0 := blk_frozen N0W9.out 0
      have n1 := blk_cell N0W9.out 1
      have nf1 := blk_frozen N0W9.out 1
      have n2 := blk_cell N0W9.out 2
      have nf2 := blk_frozen N0W9.out 2
      have n3 := blk_cell N0W9.out 3
      have nf3 := blk_frozen N0W9.out 3
      have n4 := blk_cell N0W9.out 4
      have nf4 := blk_frozen N0W9.out 4
      have n5 := blk_cell N0W9.out 5
      have nf5 := blk_frozen N0W9.out 5
      have n6 := blk_cell N0W9.out 6
      have nf6 := blk_frozen N0W9.out 6
      go_wp2_with fail
      refine HSA.out.mono ?_
      rintro e wS ⟨rfl, hbS⟩
      have HBS := Lib.hid (below_then HBF.out HBF.out.size hbS)
      clear hbS
      go_wp2_with fail
      refine (works_any _).mono ?_
      rintro e wr ⟨rfl, hbr⟩
      have HBR := Lib.hid (below_then HBS.out (HBS.out).size hbr)
      clear hbr
      go_wp2
      refine bodyPost_ret (v := .bool true) (by simp [results, Try.results3, go_sem]) rfl ?_
      exact ⟨rfl, HBR.out⟩
   ·obtain ⟨lb, loff, rfl, hall⟩ := (HEV4.out.l.below HB5.out) hpos
    have HCELL := Lib.hid (toks_cells hall)
    clear hall
    go_upto_region 8 with (at_builtin; refine wpList_append_lies _ rfl (.tmp 42) (.tmp 43) 25 rfl W4.heap.size 43 i0 _ 5 80 Try.underlying25 hi0 hz0 hz1 hz2 rfl (by omega) (.slice (some ⟨gg1, 0, none⟩) 1 c1) 1 (toksVals [(ownTok 5 ⟨#[40]⟩ 0)]) rfl (HOWN5.out) ⟨lb, loff, none⟩ L.length lc (toksVals L) rfl (toksVals_length L) (HCELL.out) (toksVals_one L) (hpos) (by unfold maxLen; omega) (by omega) (HB5.out.size) (w5.heap.size) (rfl) ?_; intro gg2 c2 w6 hown6 hgrow6 hat6 hlt6)
    have HOWN6 := Lib.hid (show w6.ownsRow W4.heap.size 43 5 (.slice (some ⟨gg2, 0, none⟩) (1 + L.length) c2) (1 + L.length) (toksVals ((ownTok 5 ⟨#[40]⟩ 0) :: L)) from by rw [show (ownTok 5 ⟨#[40]⟩ 0) :: L = [(ownTok 5 ⟨#[40]⟩ 0)] ++ L from rfl, toksVals_append]; exact hown6)
    have HB6 := Lib.hid (show Below W4.heap.size W4 w6 from HB5.out.grown hgrow6 HB5.out.size (fun k hk => (HOWN5.out.lt k hk).1))
    clear hown6 hgrow6 hat6 hlt6 HOWN5 HB5 HCELL
    go_upto_region 9 with (at_builtin; refine wpList_append_lies _ rfl (.tmp 45) (.tmp 49) 25 rfl W4.heap.size 43 i0 _ 5 80 Try.underlying25 hi0 hz0 hz1 hz2 rfl (by omega) (.slice (some ⟨gg2, 0, none⟩) (1 + L.length) c2) (1 + L.length) (toksVals ((ownTok 5 ⟨#[40]⟩ 0) :: L)) rfl (HOWN6.out.alloc _) ⟨w6.heap.size, 0, none⟩ 1 1 (tokVals (ownTok 6 ⟨#[41]⟩ (s.size : Int))) rfl (rfl) (World.news_of_block (cs := (tokVals (ownTok 6 ⟨#[41]⟩ (s.size : Int))).toArray) (t := 43) (fr := (0, 0)) (by have := heap_alloc_new w6 (.cells (tokVals (ownTok 6 ⟨#[41]⟩ (s.size : Int))).toArray 43); simpa [tokVals, ownTok, Lt.zero] using this)) (tokVals_one _) (by omega) (by unfold maxLen; omega) (by omega) (by have := HB6.out.size; simp <;> omega) (w6.heap.size + 1) (by simp) ?_; intro gg3 c3 w7 hown7 hgrow7 hat7 hlt7)
    have HOWN7 := Lib.hid (show w7.ownsRow W4.heap.size 43 5 (.slice (some ⟨gg3, 0, none⟩) ((ownTok 5 ⟨#[40]⟩ 0) :: (L ++ [(ownTok 6 ⟨#[41]⟩ (s.size : Int))])).length c3) ((ownTok 5 ⟨#[40]⟩ 0) :: (L ++ [(ownTok 6 ⟨#[41]⟩ (s.size : Int))])).length (toksVals ((ownTok 5 ⟨#[40]⟩ 0) :: (L ++ [(ownTok 6 ⟨#[41]⟩ (s.size : Int))]))) from by
     have h := hown7
     rw [show toksVals ((ownTok 5 ⟨#[40]⟩ 0) :: L) ++ tokVals (ownTok 6 ⟨#[41]⟩ (s.size : Int)) = toksVals ((ownTok 5 ⟨#[40]⟩ 0) :: (L ++ [(ownTok 6 ⟨#[41]⟩ (s.size : Int))])) by simp [toksVals]] at h
     rw [show ((ownTok 5 ⟨#[40]⟩ 0) :: (L ++ [(ownTok 6 ⟨#[41]⟩ (s.size : Int))])).length = 1 + L.length + 1 by simp <;> omega]
     exact h)
    have HB7 := Lib.hid (show Below W4.heap.size W4 w7 from (HB6.out.alloc HB6.out.size _).grown hgrow7 (by have := HB6.out.size; simp <;> omega) (fun k hk => (HOWN6.out.lt k hk).1))
    clear hown7 hgrow7 hat7 hlt7 HOWN6 HB6
    have HEN7 := Lib.hid (show EnvAt w7 (tabE T vA vc aA ac bA bc (some ⟨gg3, 0, none⟩) c3 ((ownTok 5 ⟨#[40]⟩ 0) :: (L ++ [(ownTok 6 ⟨#[41]⟩ (s.size : Int))])) ((s.size : Int) + 1)) from ⟨HEV4.out.v.below HB7.out, HEV4.out.a.below HB7.out, HEV4.out.b.below HB7.out, toks_own HOWN7.out (fun i t ht => by
     rcases List.mem_cons.1 (List.mem_of_getElem? ht) with h | h
     ·rw [h]; exact litzero_read _
     ·rcases List.mem_append.1 h with h | h
      ·obtain ⟨q, hq, rfl⟩ := List.getElem_of_mem h
       obtain ⟨rb, ro, _, hall⟩ := HTG4.out.read (by omega)
       exact (hall q _ (List.getElem?_eq_getElem hq)).lit.below HB7.out
      ·rw [List.mem_singleton.1 h]; exact litzero_read _), Nat.le_trans HT.out.vn.2 (by decide), Nat.le_trans HT.out.an (by decide), Nat.le_trans HT.out.bn (by decide), (by show ((ownTok 5 ⟨#[40]⟩ 0) :: (L ++ [(ownTok 6 ⟨#[41]⟩ (s.size : Int))])).length ≤ 100000; simp <;> omega)⟩)
    have hpc2 := parse_u (tabE T vA vc aA ac bA bc (some ⟨gg3, 0, none⟩) c3 ((ownTok 5 ⟨#[40]⟩ 0) :: (L ++ [(ownTok 6 ⟨#[41]⟩ (s.size : Int))])) ((s.size : Int) + 1)) w7 HEN7.out (fun i t ht => by
     rcases List.mem_cons.1 (List.mem_of_getElem? ht) with h | h
     ·rw [h]; show (⟨#[40]⟩ : ByteArray).size ≤ _; decide
     ·rcases List.mem_append.1 h with h | h
      ·obtain ⟨q, hq, rfl⟩ := List.getElem_of_mem h
       have := HTG4.out.text q _ (List.getElem?_eq_getElem hq)
       omega
      ·rw [List.mem_singleton.1 h]; show (⟨#[41]⟩ : ByteArray).size ≤ _; decide)
    rw [show (tabE T vA vc aA ac bA bc (some ⟨gg3, 0, none⟩) c3 ((ownTok 5 ⟨#[40]⟩ 0) :: (L ++ [(ownTok 6 ⟨#[41]⟩ (s.size : Int))])) ((s.size : Int) + 1)).L.length = 1 + L.length + 1 by show ((ownTok 5 ⟨#[40]⟩ 0) :: (L ++ [(ownTok 6 ⟨#[41]⟩ (s.size : Int))])).length = _; simp <;> omega] at hpc2
    have HPC2 := Lib.hid (show Calls Try.prog 9 #[.agg #[.slice vA T.V.length vc, .slice aA T.A.length ac, .slice bA T.B.length bc, .string T.s1, .string T.s2, .string T.s3, .string T.s4, .string T.s5, .string T.s6, .string T.s7, .string T.s8, .bool T.b1, .bool T.b2, .bool T.b3], .slice (some ⟨gg3, 0, none⟩) (1 + L.length + 1) c3, .int .i64 ((s.size : Int) + 1)] w7 (ParseU (tabE T vA vc aA ac bA bc (some ⟨gg3, 0, none⟩) c3 ((ownTok 5 ⟨#[40]⟩ 0) :: (L ++ [(ownTok 6 ⟨#[41]⟩ (s.size : Int))])) ((s.size : Int) + 1)) w7) from hpc2)
    have HG7 := Lib.hid (blk_below HG4.out HB7.out hg4)
    have hw : IntKind.i64.wrap ((s.size : Int) + 1) = (s.size : Int) + 1 := wraps_i64 _ (by omega) (by omega)
    clear hpc2
    have g0 := blk_cell HG7.out 0
    have gf0 := blk_frozen HG7.out 0
    have g1 := blk_cell HG7.out 1
    have gf1 := blk_frozen HG7.out 1
    have g2 := blk_cell HG7.out 2
    have gf2 := blk_frozen HG7.out 2
    have g3 := blk_cell HG7.out 3
    have gf3 := blk_frozen HG7.out 3
    have g4 := blk_cell HG7.out 4
    have gf4 := blk_frozen HG7.out 4
    have g5 := blk_cell HG7.out 5
    have gf5 := blk_frozen HG7.out 5
    have g6 := blk_cell HG7.out 6
    have gf6 := blk_frozen HG7.out 6
    have g7 := blk_cell HG7.out 7
    have gf7 := blk_frozen HG7.out 7
    have g8 := blk_cell HG7.out 8
    have gf8 := blk_frozen HG7.out 8
    have g9 := blk_cell HG7.out 9
    have gf9 := blk_frozen HG7.out 9
    have g10 := blk_cell HG7.out 10
    have gf10 := blk_frozen HG7.out 10
    have g11 := blk_cell HG7.out 11
    have gf11 := blk_frozen HG7.out 11
    have g12 := blk_cell HG7.out 12
    have gf12 := blk_frozen HG7.out 12
    have g13 := blk_cell HG7.out 13
    have gf13 := blk_frozen HG7.out 13
    go_wp2_with fail
    refine HPC2.out.mono ?_
    rintro e w8 ⟨hb8, kd2, o2, nm2, sA2, sn2, sc2, cA2, cn2, cc2, kA2, kn2, kc2, a2, eh2, ah2, rfl, hcase2⟩
    have HC2 := Lib.hid hcase2
    have HB8 := Lib.hid (below_then HB7.out HB7.out.size hb8)
    clear hcase2 hb8 HPC2 hw g0 gf0 g1 gf1 g2 gf2 g3 gf3 g4 gf4 g5 gf5 g6 gf6 g7 gf7 g8 gf8 g9 gf9 g10 gf10 g11 gf11 g12 gf12 g13 gf13
    go_upto_region 10 with fail
    obtain ⟨W9, hW9⟩ : ∃ W, (w8.alloc (.cells #[.int .i64 kd2, .int .i64 o2, .string nm2, .slice sA2 sn2 sc2, .slice cA2 cn2 cc2, .slice kA2 kn2 kc2, .int .i64 a2] 39)).alloc (.cells #[.int .i64 eh2, .int .i64 ah2, .int .i64 0] 28) = W := ⟨_, rfl⟩
    have hbW9 : Below w8.heap.size w8 W9 := by rw [← hW9]; exact ((Below.refl _ w8).alloc (Nat.le_refl _) _).alloc (by simp) _
    have N0W9 := Lib.hid (show W9.heap[w8.heap.size]? = some (.cells #[.int .i64 kd2, .int .i64 o2, .string nm2, .slice sA2 sn2 sc2, .slice cA2 cn2 cc2, .slice kA2 kn2 kc2, .int .i64 a2] 39 (0, 0)) by rw [← hW9]; exact blk_alloc (blk_new w8 _) _)
    have N1W9 := Lib.hid (show W9.heap[w8.heap.size + 1]? = some (.cells #[.int .i64 eh2, .int .i64 ah2, .int .i64 0] 28 (0, 0)) by
     rw [← hW9]
     have := blk_new (w8.alloc (.cells #[.int .i64 kd2, .int .i64 o2, .string nm2, .slice sA2 sn2 sc2, .slice cA2 cn2 cc2, .slice kA2 kn2 kc2, .int .i64 a2] 39)) (.cells #[.int .i64 eh2, .int .i64 ah2, .int .i64 0] 28)
     rwa [show (w8.alloc (.cells #[.int .i64 kd2, .int .i64 o2, .string nm2, .slice sA2 sn2 sc2, .slice cA2 cn2 cc2, .slice kA2 kn2 kc2, .int .i64 a2] 39)).heap.size = w8.heap.size + 1 by simp] at this)
    have HBW9 := Lib.hid hbW9
    rw [hW9]
    clear hW9 hbW9
    have HB9 := Lib.hid (below_then HB8.out HB8.out.size HBW9.out)
    have HBF := Lib.hid (below_then HB4.out HB4.out.size HB9.out)
    have HNA := Lib.hid (blk_below N0W4.out HB9.out hn4)
    have HFA := Lib.hid (blk_below N1W4.out HB9.out hf4)
    have f0 := blk_cell HFA.out 0
    have ff0 := blk_frozen HFA.out 0
    have f1 := blk_cell HFA.out 1
    have ff1 := blk_frozen HFA.out 1
    have f2 := blk_cell HFA.out 2
    have ff2 := blk_frozen HFA.out 2
    rcases HC1.out with ⟨hne, -⟩ | ⟨h0, k, j, hpm, hnd, hsz, hj, hbal⟩
    ·have b1 : (eh1 != 0) = true := bne_iff_ne.2 hne
     go_wp2_with fail
     refine (works_any _).mono ?_
     rintro e wr ⟨rfl, hbr⟩
     have HBR := Lib.hid (below_then HBF.out (HBF.out).size hbr)
     clear hbr
     go_wp2
     refine bodyPost_ret (v := .bool true) (by simp [results, Try.results3, go_sem]) rfl ?_
     exact ⟨rfl, HBR.out⟩
    ·subst h0
     have y0 := blk_cell N1W9.out 0
     have yf0 := blk_frozen N1W9.out 0
     have y1 := blk_cell N1W9.out 1
     have yf1 := blk_frozen N1W9.out 1
     have y2 := blk_cell N1W9.out 2
     have yf2 := blk_frozen N1W9.out 2
     have hjl : j = L.length := by
      obtain ⟨_, h⟩ := parse_ok hpm
      have : (tabE T vA vc aA ac bA bc (some ⟨lb, loff, none⟩) lc L (s.size : Int)).L.length = L.length := rfl
      omega
     subst hjl
     have hbr := brack_parse (E := (tabE T vA vc aA ac bA bc (some ⟨lb, loff, none⟩) lc L (s.size : Int))) (E' := (tabE T vA vc aA ac bA bc (some ⟨gg3, 0, none⟩) c3 ((ownTok 5 ⟨#[40]⟩ 0) :: (L ++ [(ownTok 6 ⟨#[41]⟩ (s.size : Int))])) ((s.size : Int) + 1))) ⟨rfl, rfl, rfl, rfl, rfl, rfl, rfl, rfl, rfl, rfl, rfl, rfl⟩ (o := (ownTok 5 ⟨#[40]⟩ 0)) (c := (ownTok 6 ⟨#[41]⟩ (s.size : Int))) rfl rfl rfl rfl rfl HT.out.op hbal hpm
     rcases HC2.out with ⟨hne2, ix, hbad⟩ | ⟨h02, k2, j2, hpm2, hnd2, -, -, -⟩
     ·have h15 : eh2 = 15 := by
       rcases hbr with ⟨i, h⟩ | ⟨k', j', h, -⟩
       ·rw [hbad] at h
        simp only [Res.bad.injEq] at h
        exact h.1
       ·rw [hbad] at h
        cases h
      subst h15
      clear hne2 hbad hbr hbal hpm hnd
      go_wp2_with fail
      refine (works_any _).mono ?_
      rintro e wr ⟨rfl, hbr⟩
      have HBR := Lib.hid (below_then HBF.out (HBF.out).size hbr)
      clear hbr
      go_wp2
      refine bodyPost_ret (v := .bool true) (by simp [results, Try.results3, go_sem]) rfl ?_
      exact ⟨rfl, HBR.out⟩
     ·subst h02
      have hbare : k2.bare = k.bare := by
       rcases hbr with ⟨i, h⟩ | ⟨k', j', h, hb⟩
       ·rw [hpm2] at h
        cases h
       ·rw [hpm2] at h
        simp only [Res.ok.injEq] at h
        rw [h.1]
        exact hb
      have hflat : ∀ l ∈ k.lits, FlatL W9 l := lq_parse (Q := fun l => FlatL W9 l) (flat_zero W9) (tabE T vA vc aA ac bA bc (some ⟨lb, loff, none⟩) lc L (s.size : Int)) (fun i t ht => ((HTG4.out.flat i t ht).below HB9.out)) hpm
      have HSA := Lib.hid (same_any 5000 k k2 _ _ W9 (by omega) (by decide) hbare.symm ((hnd.below HBW4.out).below HB9.out) (hnd2.below HBW9.out) hflat)
      clear hflat hbare hnd hnd2 hpm hpm2 hbr hbal
      have m0 := blk_cell HNA.out 0
      have mf0 := blk_frozen HNA.out 0
      have m1 := blk_cell HNA.out 1
      have mf1 := blk_frozen HNA.out 1
      have m2 := blk_cell HNA.out 2
      have mf2 := blk_frozen HNA.out 2
      have m3 := blk_cell HNA.out 3
      have mf3 := blk_frozen HNA.out 3
      have m4 := blk_cell HNA.out 4
      have mf4 := blk_frozen HNA.out 4
      have m5 := blk_cell HNA.out 5
      have mf5 := blk_frozen HNA.out 5
      have m6 := blk_cell HNA.out 6
      have mf6 := blk_frozen HNA.out 6
      have n0 := blk_cell N0W9.out 0
      have nf0 := blk_frozen N0W9.out 0
      have n1 := blk_cell N0W9.out 1
      have nf1 := blk_frozen N0W9.out 1
      have n2 := blk_cell N0W9.out 2
      have nf2 := blk_frozen N0W9.out 2
      have n3 := blk_cell N0W9.out 3
      have nf3 := blk_frozen N0W9.out 3
      have n4 := blk_cell N0W9.out 4
      have nf4 := blk_frozen N0W9.out 4
      have n5 := blk_cell N0W9.out 5
      have nf5 := blk_frozen N0W9.out 5
      have n6 := blk_cell N0W9.out 6
      have nf6 := blk_frozen N0W9.out 6
      go_wp2_with fail
      refine HSA.out.mono ?_
      rintro e wS ⟨rfl, hbS⟩
      have HBS := Lib.hid (below_then HBF.out HBF.out.size hbS)
      clear hbS
      go_wp2_with fail
      refine (works_any _).mono ?_
      rintro e wr ⟨rfl, hbr⟩
      have HBR := Lib.hid (below_then HBS.out (HBS.out).size hbr)
      clear hbr
      go_wp2
      refine bodyPost_ret (v := .bool true) (by simp [results, Try.results3, go_sem]) rfl ?_
      exact ⟨rfl, HBR.out⟩
 ·have b1 : (er != 0) = true := bne_iff_ne.2 her
  go_wp2_with fail
  refine (works_any _).mono ?_
  rintro e wr ⟨rfl, hbr⟩
  have HBR := Lib.hid (below_then HB.out (HB.out).size hbr)
  clear hbr
  go_wp2
  refine bodyPost_ret (v := .bool true) (by simp [results, Try.results3, go_sem]) rfl ?_
  exact ⟨rfl, HBR.out⟩
end Go.Proofs.Ytollglblkbjgjaa
