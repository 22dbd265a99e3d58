/- The walk of GrammarRight. Conditions: the text is no longer than what is handed over can be; the number is one of a byte. -/
import Derived.Test.YtollglblkbjgjaaJn
import Derived.Test.YtollglblkbjgjaaPe
import Derived.Deep.DeepCutAuto
namespace Go.Proofs.Ytollglblkbjgjaa
open Go.RowKit

set_option maxRecDepth 100000 in
set_option maxHeartbeats 16000000 in
theorem right_any (d : Int) (s : ByteArray) (q : Nat) (hs : s.size ≤ 140737488351232) (hq : q ≤ 255) (w : World) : Calls Try.prog 4 #[.int .i64 d, .string s, .int .u8 (q : Int)] w (WorksTo w) := by
 obtain ⟨i0, hi0, hz0, hz1, hz2⟩ := info_parts info43
 go_enter Try.func4, Try.ntmps4
 go_wp2_with fail
 refine (law6_any d s w).mono ?_
 rintro e w1 ⟨hb1, T, vA, vc, aA, ac, bA, bc, lA, lc, L, er, at_, hT, rfl, hv, ha, hbb, hg, hc1, hc2⟩
 have HT := Lib.hid hT
 have HB1 := Lib.hid hb1
 have HEV := Lib.hid (show EnvRd w1 (tabE T vA vc aA ac bA bc lA lc L (s.size : Int)) from ⟨hv, ha, hbb, hg.read⟩)
 have HG := Lib.hid hg
 have hll := hg.len
 clear hT hb1 hv ha hbb hg
 simp only [Env.gramV, tabE, faultV]
 go_upto_region 2 with fail
 obtain ⟨W1, hW1⟩ : ∃ W, (w1.alloc (.cells #[.slice vA T.V.length vc, .slice aA T.A.length ac, .slice bA T.B.length bc, .string T.s1, .string T.s2, .string T.s3, .string T.s4, .string T.s5, .string T.s6, .string T.s7, .string T.s8, .bool T.b1, .bool T.b2, .bool T.b3] 24)).alloc (.cells #[.int .i64 er, .int .i64 at_, .int .i64 0] 28) = W := ⟨_, rfl⟩
 have hbW1 : Below w1.heap.size w1 W1 := by rw [← hW1]; exact ((Below.refl _ w1).alloc (Nat.le_refl _) _).alloc (by simp) _
 have N0W1 := Lib.hid (show W1.heap[w1.heap.size]? = some (.cells #[.slice vA T.V.length vc, .slice aA T.A.length ac, .slice bA T.B.length bc, .string T.s1, .string T.s2, .string T.s3, .string T.s4, .string T.s5, .string T.s6, .string T.s7, .string T.s8, .bool T.b1, .bool T.b2, .bool T.b3] 24 (0, 0)) by rw [← hW1]; exact blk_alloc (blk_new w1 _) _)
 have N1W1 := Lib.hid (show W1.heap[w1.heap.size + 1]? = some (.cells #[.int .i64 er, .int .i64 at_, .int .i64 0] 28 (0, 0)) by
  rw [← hW1]
  have := blk_new (w1.alloc (.cells #[.slice vA T.V.length vc, .slice aA T.A.length ac, .slice bA T.B.length bc, .string T.s1, .string T.s2, .string T.s3, .string T.s4, .string T.s5, .string T.s6, .string T.s7, .string T.s8, .bool T.b1, .bool T.b2, .bool T.b3] 24)) (.cells #[.int .i64 er, .int .i64 at_, .int .i64 0] 28)
  rwa [show (w1.alloc (.cells #[.slice vA T.V.length vc, .slice aA T.A.length ac, .slice bA T.B.length bc, .string T.s1, .string T.s2, .string T.s3, .string T.s4, .string T.s5, .string T.s6, .string T.s7, .string T.s8, .bool T.b1, .bool T.b2, .bool T.b3] 24)).heap.size = w1.heap.size + 1 by simp] at this)
 have HBW1 := Lib.hid hbW1
 rw [hW1]
 clear hW1 hbW1
 have HB := Lib.hid (below_then HB1.out HB1.out.size HBW1.out)
 have f0 := blk_cell N1W1.out 0
 have ff0 := blk_frozen N1W1.out 0
 have f1 := blk_cell N1W1.out 1
 have ff1 := blk_frozen N1W1.out 1
 have f2 := blk_cell N1W1.out 2
 have ff2 := blk_frozen N1W1.out 2
 by_cases her : er = 0
 ·subst her
  have g0 := blk_cell N0W1.out 0
  have gf0 := blk_frozen N0W1.out 0
  have g1 := blk_cell N0W1.out 1
  have gf1 := blk_frozen N0W1.out 1
  have g2 := blk_cell N0W1.out 2
  have gf2 := blk_frozen N0W1.out 2
  have g3 := blk_cell N0W1.out 3
  have gf3 := blk_frozen N0W1.out 3
  have g4 := blk_cell N0W1.out 4
  have gf4 := blk_frozen N0W1.out 4
  have g5 := blk_cell N0W1.out 5
  have gf5 := blk_frozen N0W1.out 5
  have g6 := blk_cell N0W1.out 6
  have gf6 := blk_frozen N0W1.out 6
  have g7 := blk_cell N0W1.out 7
  have gf7 := blk_frozen N0W1.out 7
  have g8 := blk_cell N0W1.out 8
  have gf8 := blk_frozen N0W1.out 8
  have g9 := blk_cell N0W1.out 9
  have gf9 := blk_frozen N0W1.out 9
  have g10 := blk_cell N0W1.out 10
  have gf10 := blk_frozen N0W1.out 10
  have g11 := blk_cell N0W1.out 11
  have gf11 := blk_frozen N0W1.out 11
  have g12 := blk_cell N0W1.out 12
  have gf12 := blk_frozen N0W1.out 12
  have g13 := blk_cell N0W1.out 13
  have gf13 := blk_frozen N0W1.out 13
  have HLC := Lib.hid (show Calls Try.prog 7 #[.agg #[.slice vA T.V.length vc, .slice aA T.A.length ac, .slice bA T.B.length bc, .string T.s1, .string T.s2, .string T.s3, .string T.s4, .string T.s5, .string T.s6, .string T.s7, .string T.s8, .bool T.b1, .bool T.b2, .bool T.b3], .slice lA L.length lc] W1 (LightTo (tabE T vA vc aA ac bA bc lA lc L (s.size : Int)) W1) from light_any (tabE T vA vc aA ac bA bc lA lc L (s.size : Int)) W1 (HEV.out.below HBW1.out) (good_arrs (s := s) (HG.out.below HBW1.out)))
  go_wp2_with fail
  refine HLC.out.mono ?_
  rintro e w2 ⟨b, rfl, hb2, -⟩
  have HB2 := Lib.hid hb2
  have HBB := Lib.hid (below_then HB.out HB.out.size hb2)
  have HB12 := Lib.hid (below_then HBW1.out HBW1.out.size hb2)
  have HG2 := Lib.hid (blk_below N0W1.out hb2 (blk_lt N0W1.out))
  clear hb2 HLC g0 gf0 g1 gf1 g2 gf2 g3 gf3 g4 gf4 g5 gf5 g6 gf6 g7 gf7 g8 gf8 g9 gf9 g10 gf10 g11 gf11 g12 gf12 g13 gf13 f0 ff0 f1 ff1 f2 ff2
  cases b with
  | false =>
   go_wp2_with fail
   refine (works_any _).mono ?_
   rintro e wr ⟨rfl, hbr⟩
   have HBR := Lib.hid (below_then HBB.out (HBB.out).size hbr)
   clear hbr
   go_wp2
   refine bodyPost_ret (v := .bool true) (by simp [results, Try.results4, go_sem]) rfl ?_
   exact ⟨rfl, HBR.out⟩
  | true =>
   have HPC := Lib.hid (show Calls Try.prog 9 #[.agg #[.slice vA T.V.length vc, .slice aA T.A.length ac, .slice bA T.B.length bc, .string T.s1, .string T.s2, .string T.s3, .string T.s4, .string T.s5, .string T.s6, .string T.s7, .string T.s8, .bool T.b1, .bool T.b2, .bool T.b3], .slice lA L.length lc, .int .i64 (s.size : Int)] w2 (ParseU (tabE T vA vc aA ac bA bc lA lc L (s.size : Int)) w2) from parse_u (tabE T vA vc aA ac bA bc lA lc L (s.size : Int)) w2 ⟨HEV.out.v.below HB12.out, HEV.out.a.below HB12.out, HEV.out.b.below HB12.out, HEV.out.l.below HB12.out, Nat.le_trans HT.out.vn.2 (by decide), Nat.le_trans HT.out.an (by decide), Nat.le_trans HT.out.bn (by decide), Nat.le_trans hll (by decide)⟩ (fun i t ht => by have := HG.out.text i t ht; omega))
   have g0 := blk_cell HG2.out 0
   have gf0 := blk_frozen HG2.out 0
   have g1 := blk_cell HG2.out 1
   have gf1 := blk_frozen HG2.out 1
   have g2 := blk_cell HG2.out 2
   have gf2 := blk_frozen HG2.out 2
   have g3 := blk_cell HG2.out 3
   have gf3 := blk_frozen HG2.out 3
   have g4 := blk_cell HG2.out 4
   have gf4 := blk_frozen HG2.out 4
   have g5 := blk_cell HG2.out 5
   have gf5 := blk_frozen HG2.out 5
   have g6 := blk_cell HG2.out 6
   have gf6 := blk_frozen HG2.out 6
   have g7 := blk_cell HG2.out 7
   have gf7 := blk_frozen HG2.out 7
   have g8 := blk_cell HG2.out 8
   have gf8 := blk_frozen HG2.out 8
   have g9 := blk_cell HG2.out 9
   have gf9 := blk_frozen HG2.out 9
   have g10 := blk_cell HG2.out 10
   have gf10 := blk_frozen HG2.out 10
   have g11 := blk_cell HG2.out 11
   have gf11 := blk_frozen HG2.out 11
   have g12 := blk_cell HG2.out 12
   have gf12 := blk_frozen HG2.out 12
   have g13 := blk_cell HG2.out 13
   have gf13 := blk_frozen HG2.out 13
   go_wp2_with fail
   refine HPC.out.mono ?_
   rintro e w3 ⟨hb3, kd1, o1, nm1, sA1, sn1, sc1, cA1, cn1, cc1, kA1, kn1, kc1, a1, eh1, ah1, rfl, hcase⟩
   have HC1 := Lib.hid hcase
   have HB3 := Lib.hid hb3
   have hn3 := blk_below HG2.out hb3 (blk_lt HG2.out)
   have HG3 := Lib.hid hn3
   clear hcase hb3 hn3 HPC g0 gf0 g1 gf1 g2 gf2 g3 gf3 g4 gf4 g5 gf5 g6 gf6 g7 gf7 g8 gf8 g9 gf9 g10 gf10 g11 gf11 g12 gf12 g13 gf13
   go_upto_region 5 with fail
   obtain ⟨W4, hW4⟩ : ∃ W, (w3.alloc (.cells #[.int .i64 kd1, .int .i64 o1, .string nm1, .slice sA1 sn1 sc1, .slice cA1 cn1 cc1, .slice kA1 kn1 kc1, .int .i64 a1] 39)).alloc (.cells #[.int .i64 eh1, .int .i64 ah1, .int .i64 0] 28) = W := ⟨_, rfl⟩
   have hbW4 : Below w3.heap.size w3 W4 := by rw [← hW4]; exact ((Below.refl _ w3).alloc (Nat.le_refl _) _).alloc (by simp) _
   have N0W4 := Lib.hid (show W4.heap[w3.heap.size]? = some (.cells #[.int .i64 kd1, .int .i64 o1, .string nm1, .slice sA1 sn1 sc1, .slice cA1 cn1 cc1, .slice kA1 kn1 kc1, .int .i64 a1] 39 (0, 0)) by rw [← hW4]; exact blk_alloc (blk_new w3 _) _)
   have N1W4 := Lib.hid (show W4.heap[w3.heap.size + 1]? = some (.cells #[.int .i64 eh1, .int .i64 ah1, .int .i64 0] 28 (0, 0)) by
    rw [← hW4]
    have := blk_new (w3.alloc (.cells #[.int .i64 kd1, .int .i64 o1, .string nm1, .slice sA1 sn1 sc1, .slice cA1 cn1 cc1, .slice kA1 kn1 kc1, .int .i64 a1] 39)) (.cells #[.int .i64 eh1, .int .i64 ah1, .int .i64 0] 28)
    rwa [show (w3.alloc (.cells #[.int .i64 kd1, .int .i64 o1, .string nm1, .slice sA1 sn1 sc1, .slice cA1 cn1 cc1, .slice kA1 kn1 kc1, .int .i64 a1] 39)).heap.size = w3.heap.size + 1 by simp] at this)
   have HBW4 := Lib.hid hbW4
   rw [hW4]
   clear hW4 hbW4
   have HG4 := Lib.hid (blk_below HG3.out HBW4.out (blk_lt HG3.out))
   have HB14 := Lib.hid (below_then (below_then HB12.out HB12.out.size HB3.out) (Nat.le_trans HB12.out.size HB3.out.size) HBW4.out)
   have HB4 := Lib.hid (below_then HB1.out HB1.out.size HB14.out)
   have HEV4 := Lib.hid (HEV.out.below HB14.out)
   have HTG4 := Lib.hid (HG.out.below HB14.out)
   have hg4 := blk_lt HG4.out
   have hn4 := blk_lt N0W4.out
   have hf4 := blk_lt N1W4.out
   clear HG2 HG3 HB2 HBB HB HBW1 N0W1 N1W1
   have f0 := blk_cell N1W4.out 0
   have ff0 := blk_frozen N1W4.out 0
   have f1 := blk_cell N1W4.out 1
   have ff1 := blk_frozen N1W4.out 1
   have f2 := blk_cell N1W4.out 2
   have ff2 := blk_frozen N1W4.out 2
   rcases HC1.out with ⟨hne, -⟩ | ⟨h0, k, j, hpm, hnd, hsz, hj, hbal⟩
   ·have b1 : (eh1 != 0) = true := bne_iff_ne.2 hne
    go_wp2_with fail
    refine (works_any _).mono ?_
    rintro e wr ⟨rfl, hbr⟩
    have HBR := Lib.hid (below_then HB4.out (HB4.out).size hbr)
    clear hbr
    go_wp2
    refine bodyPost_ret (v := .bool true) (by simp [results, Try.results4, go_sem]) rfl ?_
    exact ⟨rfl, HBR.out⟩
   ·subst h0
    have hjl : j = L.length := by
     obtain ⟨_, h⟩ := parse_ok hpm
     have : (tabE T vA vc aA ac bA bc lA lc L (s.size : Int)).L.length = L.length := rfl
     omega
    subst hjl
    have hpos : 0 < L.length := by have := k.size_pos; omega
    have HPM := Lib.hid hpm
    have HND := Lib.hid (hnd.below HBW4.out)
    have HBAL := Lib.hid hbal
    have HSZ := Lib.hid hsz
    clear HC1 hpm hnd hbal hsz hj
    have hvn := HT.out.vn
    obtain ⟨i, hi⟩ : ∃ i, q % T.V.length = i := ⟨_, rfl⟩
    have hil : i < T.V.length := by rw [← hi]; exact Nat.mod_lt _ hvn.1
    obtain ⟨x, hx⟩ : ∃ x, T.V[i]? = some x := ⟨_, List.getElem?_eq_getElem hil⟩
    have HXV := Lib.hid (HT.out.vs x (List.mem_of_getElem? hx))
    obtain ⟨vb, voff, rfl, hvc⟩ := HEV4.out.v hvn.1
    have cx := hvc i x hx
    clear hvc
    have hwq : IntKind.i64.wrap (q : Int) = (q : Int) := wraps_i64 _ (by omega) (by omega)
    have htm : (q : Int).tmod (T.V.length : Int) = (i : Int) := by
     rw [← hi, Int.tmod_eq_emod_of_nonneg (by omega)]
     rfl
    have hj0 : (0 : Int) ≤ (i : Int) := by omega
    have hj1 : (i : Int) < (T.V.length : Int) := by omega
    have hn0 : ¬ (T.V.length : Int) = 0 := by omega
    have g0 := blk_cell HG4.out 0
    have gf0 := blk_frozen HG4.out 0
    have g1 := blk_cell HG4.out 1
    have gf1 := blk_frozen HG4.out 1
    have g2 := blk_cell HG4.out 2
    have gf2 := blk_frozen HG4.out 2
    have g3 := blk_cell HG4.out 3
    have gf3 := blk_frozen HG4.out 3
    have g4 := blk_cell HG4.out 4
    have gf4 := blk_frozen HG4.out 4
    have g5 := blk_cell HG4.out 5
    have gf5 := blk_frozen HG4.out 5
    have g6 := blk_cell HG4.out 6
    have gf6 := blk_frozen HG4.out 6
    have g7 := blk_cell HG4.out 7
    have gf7 := blk_frozen HG4.out 7
    have g8 := blk_cell HG4.out 8
    have gf8 := blk_frozen HG4.out 8
    have g9 := blk_cell HG4.out 9
    have gf9 := blk_frozen HG4.out 9
    have g10 := blk_cell HG4.out 10
    have gf10 := blk_frozen HG4.out 10
    have g11 := blk_cell HG4.out 11
    have gf11 := blk_frozen HG4.out 11
    have g12 := blk_cell HG4.out 12
    have gf12 := blk_frozen HG4.out 12
    have g13 := blk_cell HG4.out 13
    have gf13 := blk_frozen HG4.out 13
    go_upto_region 7 with fail
    go_cut [12] (fun s12 wx => s12 = .string x ∧ Below W4.heap.size W4 wx)
    case first =>
     go_region
     all_goals
      go_wp2_with fail
      go_meet
      exact ⟨rfl, by first | exact below_dr (Below.refl _ _) | exact Below.refl _ _⟩
    case rest =>
     obtain ⟨rfl, hbc⟩ := hcut
     have HBc := Lib.hid (below_then HB4.out HB4.out.size hbc)
     have HGc := Lib.hid (blk_below HG4.out hbc hg4)
     have HNc := Lib.hid (blk_below N0W4.out hbc hn4)
     have HEVc := Lib.hid (HEV4.out.below hbc)
     have HTGc := Lib.hid (HTG4.out.below hbc)
     have HNDc := Lib.hid (HND.out.below hbc)
     have hgc := blk_lt HGc.out
     have hnc := blk_lt HNc.out
     clear hbc HB4 HG4 N0W4 N1W4 HEV4 HTG4 HND g0 gf0 g1 gf1 g2 gf2 g3 gf3 g4 gf4 g5 gf5 g6 gf6 g7 gf7 g8 gf8 g9 gf9 g10 gf10 g11 gf11 g12 gf12 g13 gf13 f0 ff0 f1 ff1 f2 ff2 hwq htm hj0 hj1 hn0 cx hg4 hn4 hf4
     go_upto_region 10 with (at_builtin; refine wpList_append_lies _ rfl (.tmp 55) (.tmp 58) 25 rfl wc.heap.size 43 i0 _ 5 80 Try.underlying25 hi0 hz0 hz1 hz2 rfl (by omega) ((.slice none 0 0)) 0 ([]) rfl (World.ownsRow_nil _ _ _ _) ⟨wc.heap.size, 0, none⟩ 1 1 (tokVals (ownTok 4 x 0)) rfl (rfl) (World.news_of_block (cs := (tokVals (ownTok 4 x 0)).toArray) (t := 43) (fr := (0, 0)) (by have := heap_alloc_new wc (.cells (tokVals (ownTok 4 x 0)).toArray 43); simpa [tokVals, ownTok, Lt.zero] using this)) (tokVals_one _) (by omega) (by unfold maxLen; omega) (by omega) (by simp) (wc.heap.size + 1) (by simp) ?_; intro gg1 c1 w5 hown5 hgrow5 hat5 hlt5)
     have HOWN5 := Lib.hid (show w5.ownsRow wc.heap.size 43 5 (.slice (some ⟨gg1, 0, none⟩) 1 c1) 1 (toksVals [(ownTok 4 x 0)]) from hown5)
     have HB5 := Lib.hid (show Below wc.heap.size wc w5 from ((Below.refl _ wc).alloc (Nat.le_refl _) _).grown hgrow5 (by simp) (fun k hk => by simp [Value.ownBlock] at hk))
     clear hown5 hgrow5 hat5 hlt5
     obtain ⟨lb, loff, rfl, hall⟩ := (HEVc.out.l.below HB5.out) hpos
     have HCELL := Lib.hid (toks_cells hall)
     clear hall
     go_upto_region 11 with (at_builtin; refine wpList_append_lies _ rfl (.tmp 60) (.tmp 61) 25 rfl wc.heap.size 43 i0 _ 5 80 Try.underlying25 hi0 hz0 hz1 hz2 rfl (by omega) (.slice (some ⟨gg1, 0, none⟩) 1 c1) 1 (toksVals [(ownTok 4 x 0)]) rfl (HOWN5.out) ⟨lb, loff, none⟩ L.length lc (toksVals L) rfl (toksVals_length L) (HCELL.out) (toksVals_one L) (hpos) (by unfold maxLen; omega) (by omega) (HB5.out.size) (w5.heap.size) (rfl) ?_; intro gg2 c2 w6 hown6 hgrow6 hat6 hlt6)
     have HOWN6 := Lib.hid (show w6.ownsRow wc.heap.size 43 5 (.slice (some ⟨gg2, 0, none⟩) ((ownTok 4 x 0) :: L).length c2) ((ownTok 4 x 0) :: L).length (toksVals ((ownTok 4 x 0) :: L)) from by
      rw [show ((ownTok 4 x 0) :: L).length = 1 + L.length by simp <;> omega, show ((ownTok 4 x 0) :: L) = [(ownTok 4 x 0)] ++ L from rfl, toksVals_append]
      exact hown6)
     have HB6 := Lib.hid (show Below wc.heap.size wc w6 from HB5.out.grown hgrow6 HB5.out.size (fun k hk => (HOWN5.out.lt k hk).1))
     clear hown6 hgrow6 hat6 hlt6 HOWN5 HB5 HCELL
     have HEN6 := Lib.hid (show EnvAt w6 (tabE T (some ⟨vb, voff, none⟩) vc aA ac bA bc (some ⟨gg2, 0, none⟩) c2 ((ownTok 4 x 0) :: L) ((s.size : Int) + 1)) from ⟨HEVc.out.v.below HB6.out, HEVc.out.a.below HB6.out, HEVc.out.b.below HB6.out, toks_own HOWN6.out (fun i t ht => by
      rcases List.mem_cons.1 (List.mem_of_getElem? ht) with h | h
      ·rw [h]; exact litzero_read _
      ·obtain ⟨q, hq, rfl⟩ := List.getElem_of_mem h
       obtain ⟨rb, ro, _, hall⟩ := HTGc.out.read (by omega)
       exact (hall q _ (List.getElem?_eq_getElem hq)).lit.below HB6.out), Nat.le_trans HT.out.vn.2 (by decide), Nat.le_trans HT.out.an (by decide), Nat.le_trans HT.out.bn (by decide), (by show ((ownTok 4 x 0) :: L).length ≤ 100000; simp <;> omega)⟩)
     have hpc2 := parse_u (tabE T (some ⟨vb, voff, none⟩) vc aA ac bA bc (some ⟨gg2, 0, none⟩) c2 ((ownTok 4 x 0) :: L) ((s.size : Int) + 1)) w6 HEN6.out (fun i t ht => by
      rcases List.mem_cons.1 (List.mem_of_getElem? ht) with h | h
      ·rw [h]; have := HXV.out.2.2; show x.size ≤ _; omega
      ·obtain ⟨q, hq, rfl⟩ := List.getElem_of_mem h
       have := HTGc.out.text q _ (List.getElem?_eq_getElem hq)
       omega)
     rw [show (tabE T (some ⟨vb, voff, none⟩) vc aA ac bA bc (some ⟨gg2, 0, none⟩) c2 ((ownTok 4 x 0) :: L) ((s.size : Int) + 1)).L.length = 1 + L.length by show ((ownTok 4 x 0) :: L).length = _; simp <;> omega] at hpc2
     have HPC2 := Lib.hid (show Calls Try.prog 9 #[.agg #[.slice (some ⟨vb, voff, none⟩) T.V.length vc, .slice aA T.A.length ac, .slice bA T.B.length bc, .string T.s1, .string T.s2, .string T.s3, .string T.s4, .string T.s5, .string T.s6, .string T.s7, .string T.s8, .bool T.b1, .bool T.b2, .bool T.b3], .slice (some ⟨gg2, 0, none⟩) (1 + L.length) c2, .int .i64 ((s.size : Int) + 1)] w6 (ParseU (tabE T (some ⟨vb, voff, none⟩) vc aA ac bA bc (some ⟨gg2, 0, none⟩) c2 ((ownTok 4 x 0) :: L) ((s.size : Int) + 1)) w6) from hpc2)
     have HG6 := Lib.hid (blk_below HGc.out HB6.out hgc)
     have hw : IntKind.i64.wrap ((s.size : Int) + 1) = (s.size : Int) + 1 := wraps_i64 _ (by omega) (by omega)
     clear hpc2
     have g0 := blk_cell HG6.out 0
     have gf0 := blk_frozen HG6.out 0
     have g1 := blk_cell HG6.out 1
     have gf1 := blk_frozen HG6.out 1
     have g2 := blk_cell HG6.out 2
     have gf2 := blk_frozen HG6.out 2
     have g3 := blk_cell HG6.out 3
     have gf3 := blk_frozen HG6.out 3
     have g4 := blk_cell HG6.out 4
     have gf4 := blk_frozen HG6.out 4
     have g5 := blk_cell HG6.out 5
     have gf5 := blk_frozen HG6.out 5
     have g6 := blk_cell HG6.out 6
     have gf6 := blk_frozen HG6.out 6
     have g7 := blk_cell HG6.out 7
     have gf7 := blk_frozen HG6.out 7
     have g8 := blk_cell HG6.out 8
     have gf8 := blk_frozen HG6.out 8
     have g9 := blk_cell HG6.out 9
     have gf9 := blk_frozen HG6.out 9
     have g10 := blk_cell HG6.out 10
     have gf10 := blk_frozen HG6.out 10
     have g11 := blk_cell HG6.out 11
     have gf11 := blk_frozen HG6.out 11
     have g12 := blk_cell HG6.out 12
     have gf12 := blk_frozen HG6.out 12
     have g13 := blk_cell HG6.out 13
     have gf13 := blk_frozen HG6.out 13
     go_wp2_with fail
     refine HPC2.out.mono ?_
     rintro e w8 ⟨hb8, kd2, o2, nm2, sA2, sn2, sc2, cA2, cn2, cc2, kA2, kn2, kc2, a2, eh2, ah2, rfl, hcase2⟩
     have HC2 := Lib.hid hcase2
     have HB8 := Lib.hid (below_then HB6.out HB6.out.size hb8)
     clear hcase2 hb8 HPC2 hw g0 gf0 g1 gf1 g2 gf2 g3 gf3 g4 gf4 g5 gf5 g6 gf6 g7 gf7 g8 gf8 g9 gf9 g10 gf10 g11 gf11 g12 gf12 g13 gf13
     go_upto_region 12 with fail
     obtain ⟨W9, hW9⟩ : ∃ W, (w8.alloc (.cells #[.int .i64 kd2, .int .i64 o2, .string nm2, .slice sA2 sn2 sc2, .slice cA2 cn2 cc2, .slice kA2 kn2 kc2, .int .i64 a2] 39)).alloc (.cells #[.int .i64 eh2, .int .i64 ah2, .int .i64 0] 28) = W := ⟨_, rfl⟩
     have hbW9 : Below w8.heap.size w8 W9 := by rw [← hW9]; exact ((Below.refl _ w8).alloc (Nat.le_refl _) _).alloc (by simp) _
     have N0W9 := Lib.hid (show W9.heap[w8.heap.size]? = some (.cells #[.int .i64 kd2, .int .i64 o2, .string nm2, .slice sA2 sn2 sc2, .slice cA2 cn2 cc2, .slice kA2 kn2 kc2, .int .i64 a2] 39 (0, 0)) by rw [← hW9]; exact blk_alloc (blk_new w8 _) _)
     have N1W9 := Lib.hid (show W9.heap[w8.heap.size + 1]? = some (.cells #[.int .i64 eh2, .int .i64 ah2, .int .i64 0] 28 (0, 0)) by
      rw [← hW9]
      have := blk_new (w8.alloc (.cells #[.int .i64 kd2, .int .i64 o2, .string nm2, .slice sA2 sn2 sc2, .slice cA2 cn2 cc2, .slice kA2 kn2 kc2, .int .i64 a2] 39)) (.cells #[.int .i64 eh2, .int .i64 ah2, .int .i64 0] 28)
      rwa [show (w8.alloc (.cells #[.int .i64 kd2, .int .i64 o2, .string nm2, .slice sA2 sn2 sc2, .slice cA2 cn2 cc2, .slice kA2 kn2 kc2, .int .i64 a2] 39)).heap.size = w8.heap.size + 1 by simp] at this)
     have HBW9 := Lib.hid hbW9
     rw [hW9]
     clear hW9 hbW9
     have HB9 := Lib.hid (below_then HB8.out HB8.out.size HBW9.out)
     have HBF := Lib.hid (below_then HBc.out HBc.out.size HB9.out)
     have HNA := Lib.hid (blk_below HNc.out HB9.out hnc)
     have hbr := right_parse (E := (tabE T (some ⟨vb, voff, none⟩) vc aA ac bA bc (some ⟨lb, loff, none⟩) lc L (s.size : Int))) (E' := (tabE T (some ⟨vb, voff, none⟩) vc aA ac bA bc (some ⟨gg2, 0, none⟩) c2 ((ownTok 4 x 0) :: L) ((s.size : Int) + 1))) ⟨rfl, rfl, rfl, rfl, rfl, rfl, rfl, rfl, rfl, rfl, rfl, rfl⟩ (o := (ownTok 4 x 0)) rfl rfl HXV.out.1 HXV.out.2.1 HT.out.hav HT.out.hpv HBAL.out HPM.out
     rcases HC2.out with ⟨hne2, ix, hbad⟩ | ⟨h02, k2, j2, hpm2, hnd2, hsz2, hj2, -⟩
     ·have h15 : eh2 = 15 := by
       rcases hbr with ⟨i, h⟩ | ⟨k', j', b, b', h, -⟩
       ·rw [hbad] at h
        simp only [Res.bad.injEq] at h
        exact h.1
       ·rw [hbad] at h
        cases h
      subst h15
      clear hne2 hbad hbr
      have y0 := blk_cell N1W9.out 0
      have yf0 := blk_frozen N1W9.out 0
      have y1 := blk_cell N1W9.out 1
      have yf1 := blk_frozen N1W9.out 1
      have y2 := blk_cell N1W9.out 2
      have yf2 := blk_frozen N1W9.out 2
      go_wp2_with fail
      refine (works_any _).mono ?_
      rintro e wr ⟨rfl, hbr⟩
      have HBR := Lib.hid (below_then HBF.out (HBF.out).size hbr)
      clear hbr
      go_wp2
      refine bodyPost_ret (v := .bool true) (by simp [results, Try.results4, go_sem]) rfl ?_
      exact ⟨rfl, HBR.out⟩
     ·subst h02
      obtain ⟨k', j', p, p', hok, hbare⟩ : ∃ k' j' a a', (tabE T (some ⟨vb, voff, none⟩) vc aA ac bA bc (some ⟨gg2, 0, none⟩) c2 ((ownTok 4 x 0) :: L) ((s.size : Int) + 1)).parseM = .ok (.mk 5 0 ⟨#[]⟩ Lt.zero [.mk 21 0 x Lt.zero [] a, k'] a') j' ∧ k'.bare = k.bare := by
       rcases hbr with ⟨i, h⟩ | h
       ·rw [hpm2] at h
        cases h
       ·exact h
      rw [hpm2] at hok
      simp only [Res.ok.injEq] at hok
      obtain ⟨rfl, rfl⟩ := hok
      have hflat : ∀ l ∈ k'.lits, FlatL W9 l := fun l hl => lq_parse (Q := fun l => FlatL W9 l) (flat_zero W9) (tabE T (some ⟨vb, voff, none⟩) vc aA ac bA bc (some ⟨gg2, 0, none⟩) c2 ((ownTok 4 x 0) :: L) ((s.size : Int) + 1)) (fun i t ht => by
       rcases List.mem_cons.1 (List.mem_of_getElem? ht) with h | h
       ·rw [h]; exact flat_zero W9
       ·obtain ⟨q, hq, rfl⟩ := List.getElem_of_mem h
        exact (HTGc.out.flat q _ (List.getElem?_eq_getElem hq)).below HB9.out) hpm2 l (by
         rw [Nd.lits_eq]
         exact List.mem_cons_of_mem _ (litss_mem (ks := [.mk 21 0 x Lt.zero [] p, k']) (i := 1) rfl hl))
      have hj3 : j2 ≤ L.length + 1 := hj2
      have hks : k'.size ≤ 5000 := by
       simp only [Nd.size, sizes] at hsz2
       omega
      have hnd9 := hnd2.below HBW9.out
      obtain ⟨o9, l9, A9, c9, a9, vs9, hv9, hl9, hkc9, hrow9, hkids9⟩ := hnd9.form
      simp only [Value.agg.injEq, Array.mk.injEq, List.cons.injEq, Value.int.injEq, Value.string.injEq, Value.slice.injEq, and_true, true_and, Nd.kind, Nd.name, Nd.kids, List.length_cons, List.length_nil] at hv9
      obtain ⟨rfl, rfl, rfl, ⟨rfl, rfl, rfl⟩, ⟨rfl, rfl, rfl⟩, ⟨rfl, rfl, rfl⟩, rfl⟩ := hv9
      obtain ⟨kb, ok0, lk0, Bk0, ck0, ak0, hkA, hkb, hnk0, z0, z1, z2, z3, z4, z5, z6⟩ := kid_cells hrow9 hkids9 (Below.refl _ W9) (i := 0) (k := .mk 21 0 x Lt.zero [] p) rfl
      subst hkA
      obtain ⟨kb2, ok1, lk1, Bk1, ck1, ak1, hkA2, hkb2, hnk1, z7, z8, z9, z10, z11, z12, z13⟩ := kid_cells hrow9 hkids9 (Below.refl _ W9) (i := 1) (k := k') rfl
      cases hkA2
      have HSA := Lib.hid (fun (W : World) (hW : Below W9.heap.size W9 W) => same_any 5000 k' k _ _ W hks (by decide) hbare (hnk1.below hW) ((HNDc.out.below HB9.out).below hW) (fun l hl => (hflat l hl).below hW))
      simp only [Nd.kind, Nd.name, Nat.zero_mul, Nat.zero_add, Nat.one_mul] at z0 z1 z2 z3 z4 z5 z6 z7 z8 z9 z10 z11 z12 z13
      clear hnk0 hnk1 hrow9 hkids9 hnd9 hnd2 hflat hbare hbr hpm2 HC2 hl9 hkc9 hsz2 HNDc HPM HBAL
      have y0 := blk_cell N1W9.out 0
      have yf0 := blk_frozen N1W9.out 0
      have y1 := blk_cell N1W9.out 1
      have yf1 := blk_frozen N1W9.out 1
      have y2 := blk_cell N1W9.out 2
      have yf2 := blk_frozen N1W9.out 2
      go_upto_region 14 with fail
      have n0 := blk_cell N0W9.out 0
      have nf0 := blk_frozen N0W9.out 0
      have n1 := blk_cell N0W9.out 1
      have nf1 := blk_frozen N0W9.out 1
      have n2 := blk_cell N0W9.out 2
      have nf2 := blk_frozen N0W9.out 2
      have n3 := blk_cell N0W9.out 3
      have nf3 := blk_frozen N0W9.out 3
      have n4 := blk_cell N0W9.out 4
      have nf4 := blk_frozen N0W9.out 4
      have n5 := blk_cell N0W9.out 5
      have nf5 := blk_frozen N0W9.out 5
      have n6 := blk_cell N0W9.out 6
      have nf6 := blk_frozen N0W9.out 6
      have m0 := blk_cell HNA.out 0
      have mf0 := blk_frozen HNA.out 0
      have m1 := blk_cell HNA.out 1
      have mf1 := blk_frozen HNA.out 1
      have m2 := blk_cell HNA.out 2
      have mf2 := blk_frozen HNA.out 2
      have m3 := blk_cell HNA.out 3
      have mf3 := blk_frozen HNA.out 3
      have m4 := blk_cell HNA.out 4
      have mf4 := blk_frozen HNA.out 4
      have m5 := blk_cell HNA.out 5
      have mf5 := blk_frozen HNA.out 5
      have m6 := blk_cell HNA.out 6
      have mf6 := blk_frozen HNA.out 6
      go_region_with (first | (go_at_call 10; refine (HSA.out _ ?_).mono ?_; (first | (exact Below.refl _ _) | (exact below_dr (Below.refl _ _)) | (exact below_dr (below_dr (Below.refl _ _)))); rintro e wS ⟨rfl, hbS⟩; have HBS := Lib.hid (show Below W9.heap.size W9 wS by first | exact hbS | exact below_then (below_dr (Below.refl _ _)) (Nat.le_refl _) hbS); clear hbS) | (go_at_call 8; refine (works_any _).mono ?_; rintro e wr ⟨rfl, hbr⟩; have HBR := Lib.hid (show Below wS.heap.size wS wr from hbr); clear hbr))
      all_goals
       go_wp2
       refine bodyPost_ret (v := .bool true) (by simp [results, Try.results4, go_sem]) rfl ?_
       exact ⟨rfl, below_then (below_then HBF.out HBF.out.size HBS.out) (Nat.le_trans HBF.out.size HBS.out.size) HBR.out⟩
 ·have b1 : (er != 0) = true := bne_iff_ne.2 her
  go_wp2_with fail
  refine (works_any _).mono ?_
  rintro e wr ⟨rfl, hbr⟩
  have HBR := Lib.hid (below_then HB.out (HB.out).size hbr)
  clear hbr
  go_wp2
  refine bodyPost_ret (v := .bool true) (by simp [results, Try.results4, go_sem]) rfl ?_
  exact ⟨rfl, HBR.out⟩
theorem right_row (d : Int) (s : ByteArray) (k : Int) (hs : s.size ≤ 140737488351232) (hk : (Lit.int .u8 k).wf = true) (w : World) : Calls Try.prog 4 #[.int .i64 d, .string s, .int .u8 k] w (WorksTo w) := by
 simp only [Lit.wf, Bool.and_eq_true, decide_eq_true_eq] at hk
 have h1 : 0 ≤ k := hk.1
 have h2 : k ≤ 255 := hk.2
 obtain ⟨q, rfl⟩ := Int.eq_ofNat_of_zero_le h1
 exact right_any d s q hs (by omega) w
end Go.Proofs.Ytollglblkbjgjaa
