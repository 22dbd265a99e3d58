/- The law of texts, walked: for every list of numbers it returns true. Conditions: the list reads in memory; the library's variable holds an int. -/
import Derived.Test.YtiboikbccmfedaaAt
import Derived.Test.YtiboikbccmfedaaKt
import Derived.Test.YtiboikbccmfedaaKu
import Derived.Test.YtiboikbccmfedaaModel5
import Derived.Laws.BytesArg
import Derived.Laws.Concat
import Derived.Deep.RegionHeld3
namespace Go.Proofs.Ytiboikbccmfedaa
open Go.RowKit

theorem own_form_pos {w : World} {base n : Nat} {e : TypeId} {v : Value} {xs : List Value} (h : w.ownsRow base e 1 v n xs) (hn : 0 < n) : ∃ g cap, v = .slice (some ⟨g, 0, none⟩) n cap ∧ g < w.heap.size ∧ ∀ j u, xs[j]? = some u → w.cell? ((⟨g, 0, none⟩ : Addr).add j) = some u := by
  obtain ⟨g, cap, rfl, _, hlt⟩ := h.form hn
  exact ⟨g, cap, rfl, hlt, fun j u hu => h.cells rfl j u hu⟩
theorem take_snoc_getD (l : List Int) (k : Nat) (h : k < l.length) : l.take (k + 1) = l.take k ++ [l.getD k 0] := by
  rw [List.take_succ_eq_append_getElem h]
  congr
  rw [List.getD_eq_getElem?_getD, List.getElem?_eq_getElem h]
  rfl
theorem esc1_len (x : Int) : 1 ≤ (Kx.esc1 x).length ∧ (Kx.esc1 x).length ≤ 5 := by
  have := enc_len x
  unfold Kx.esc1
  split
  · rw [List.length_cons]; omega
  · omega
theorem esc_len : ∀ l : List Int, l.length ≤ (Kx.esc l).length ∧ (Kx.esc l).length ≤ 5 * l.length
  | [] => ⟨Nat.le_refl _, Nat.zero_le _⟩
  | x :: l => by
    have h1 := esc1_len x
    have h2 := esc_len l
    rw [Kx.esc_cons, List.length_append, List.length_cons]
    omega
theorem strOfNums_append (a b : List Int) : strOfNums a ++ strOfNums b = strOfNums (a ++ b) := by
  apply ByteArray.ext
  apply Array.toList_inj.1
  rw [ByteArray.data_append, Array.toList_append, strOfNums_data, strOfNums_data, strOfNums_data, List.map_append]
theorem esc_string (ys : List Int) (h : Spec.Bytes ys) : nb ((⟨#[39]⟩ : ByteArray) ++ strOfNums ys ++ ⟨#[39]⟩) = 39 :: (ys ++ [39]) := by
  rw [show (⟨#[39]⟩ : ByteArray) = strOfNums [39] from rfl, strOfNums_append, strOfNums_append, nb_str _ (Kx.bytes_append (Kx.bytes_append (Kx.bytes_one (by omega)) h) (Kx.bytes_one (by omega)))]
  rfl
theorem conv_nil (W : World) : (convert 39 9 (.slice none 0 0)).run Try.prog W = .ok (.string (strOfNums [])) W := by kernel_rfl
theorem conv_own {w : World} {base n : Nat} {g c : Nat} {xs : List Int} (h : w.ownsRow base 5 1 (.slice (some ⟨g, 0, none⟩) n c) n (nums .u8 xs)) (hp : 0 < n) : (convert 39 9 (.slice (some ⟨g, 0, none⟩) n c)).run Try.prog w = .ok (.string (strOfNums xs)) w := by
  obtain ⟨A, c', e1, _, _, hl, _, hr⟩ := own_row h
  cases e1
  obtain ⟨b, off, e2, hc⟩ := hr.2 (by omega)
  cases e2
  exact run_convert_bytes_arg w 39 5 Try.underlying39 Try.underlying5 g 0 n c xs hl (fun i hi => hc i (by omega)) 9 Try.underlying9

set_option maxRecDepth 100000 in
set_option maxHeartbeats 4000000 in
theorem texts_any (A : Option Addr) (n c : Nat) (zs : List Int) (w : World) (hrow : IsRow .i64 w A n c zs) (_hy : n * 8 ≤ 140737488351232) (hgb : Glob w) : Calls Try.prog 5 #[.slice A n c] w (fun e w' => e = .returned (.bool true) ∧ Below w.heap.size w w') := by
  obtain ⟨i5, hi5, hz5, hs5, hb5⟩ := info_parts info_u8
  have HGB := Lib.hid hgb
  clear hgb
  obtain ⟨hr, hl, hnc, hnil⟩ := hrow.row
  generalize zs.take n = l at hr hl
  have HR := Lib.hid hr
  have HL := Lib.hid hl
  clear hr hl hrow hnil
  by_cases hbig : 500 < n
  · have hd : decide (500 < n) = true := decide_eq_true hbig
    have HB := Lib.hid (Below.refl w.heap.size w)
    go_enter Try.func5, Try.ntmps5
    go_wp2_with fail
    refine (works_any _ (HGB.out.below HB.out)).mono ?_
    rintro e w4 ⟨rfl, hb4⟩
    have HB4 := Lib.hid (below_then HB.out HB.out.size hb4)
    clear hb4
    go_wp2
    refine bodyPost_ret (v := .bool true) (by simp [results, Try.results5, go_sem]) rfl ?_
    exact ⟨rfl, HB4.out⟩
  · have hd : decide (500 < n) = false := decide_eq_false hbig
    go_enter Try.func5, Try.ntmps5
    go_wp2
    go_loopw [3, 4] (fun v i wr => ∃ k : Nat, k ≤ n ∧ i = .int .i64 k ∧ (k = 0 → v = .slice none 0 0) ∧ (∀ x ∈ l.take k, Kx.Fine x) ∧ wr.ownsRow w.heap.size 5 1 v (Kx.esc (l.take k)).length (nums .u8 (Kx.esc (l.take k))) ∧ Below w.heap.size w wr) (fun _ i _ => n - (intOf i).toNat)
    case atStart => exact ⟨0, Nat.zero_le _, rfl, fun _ => rfl, fun x hx => by simp at hx, World.ownsRow_nil _ _ _ _, Below.refl _ _⟩
    case round =>
      obtain ⟨k, hk, rfl, hv0, hg, hown, hbel⟩ := hrel
      obtain ⟨vA, vc, rfl, hvc, _, _, hvA, hrow⟩ := own_row hown
      have HG := Lib.hid hg
      have HO := Lib.hid hown
      have HB := Lib.hid hbel
      have HV0 := Lib.hid hv0
      have hel5 := (esc_len (l.take k)).2
      rw [List.length_take, HL.out] at hel5
      clear hg hown hbel hrow hvA hv0
      by_cases hlt : k < n
      · obtain ⟨b, off, rfl, hcell⟩ := HR.out.2 (by rw [HL.out]; omega)
        obtain ⟨x, hx⟩ : ∃ x, l.getD k 0 = x := ⟨_, rfl⟩
        have ck : wr.cell? ⟨b, off + k, none⟩ = some (.int .i64 x) := by rw [← hx]; exact cell_below HB.out (hcell k (by rw [HL.out]; exact hlt))
        have CK0 := Lib.hid (show w.cell? ⟨b, off + k, none⟩ = some (.int .i64 x) by rw [← hx]; exact hcell k (by rw [HL.out]; exact hlt))
        have htk := Lib.hid (show l.take (k + 1) = l.take k ++ [x] by rw [← hx]; exact take_snoc_getD l k (by rw [HL.out]; exact hlt))
        have hmm : (Kx.esc (l.take k)).length ≤ 2500 := by omega
        clear hcell hx hel5
        go_wp2_with fail
        refine (rgood_any x _).mono ?_
        rintro e w1 ⟨rfl, rfl⟩
        by_cases hgx : Spec.good x = true
        · rw [hgx]
          by_cases h32 : x < 32
          · have d32 : decide (x < 32) = true := decide_eq_true h32
            go_wp2_with fail
            refine (works_any _ (HGB.out.below HB.out)).mono ?_
            rintro e w4 ⟨rfl, hb4⟩
            have HB4 := Lib.hid (below_then HB.out HB.out.size hb4)
            clear hb4
            go_wp2
            refine bodyPost_ret (v := .bool true) (by simp [results, Try.results5, go_sem]) rfl ?_
            exact ⟨rfl, HB4.out⟩
          · have d32 : decide (x < 32) = false := decide_eq_false h32
            by_cases h127 : x = 127
            · subst h127
              go_wp2_with fail
              refine (works_any _ (HGB.out.below HB.out)).mono ?_
              rintro e w4 ⟨rfl, hb4⟩
              have HB4 := Lib.hid (below_then HB.out HB.out.size hb4)
              clear hb4
              go_wp2
              refine bodyPost_ret (v := .bool true) (by simp [results, Try.results5, go_sem]) rfl ?_
              exact ⟨rfl, HB4.out⟩
            · have d127 : (x == 127) = false := beq_eq_false_iff_ne.2 h127
              have HF := Lib.hid (show Kx.Fine x from ⟨hgx, by omega, h127⟩)
              generalize hM : (Kx.esc (l.take k)).length = m0 at *
              have HM0 := Lib.hid hM
              clear hM
              by_cases he : x = 39
              · have HYS := Lib.hid (show Kx.esc (l.take (k + 1)) = (Kx.esc (l.take k) ++ [39]) ++ Spec.enc x by rw [htk.out, Kx.esc_snoc]; unfold Kx.esc1; rw [if_pos he, List.append_assoc]; rfl)
                have hsz0 : w.heap.size ≤ wr.heap.size := HB.out.size
                have d34 : (x == 39) = true := beq_iff_eq.2 he
                clear he h127 h32
                all_goals
                  go_wp2_with
                    (at_builtin; refine wpList_append_lies _ rfl (.tmp 43) (.tmp 44) 39 rfl w.heap.size 5 i5 _ 1 1 Try.underlying39 hi5 hz5 hs5 hb5 rfl (by omega) (.slice vA m0 vc) m0 (nums .u8 (Kx.esc (l.take k))) rfl (HO.out.alloc _) ⟨wr.heap.size, 0, none⟩ 1 1 (nums .u8 [39]) rfl rfl (World.news_of_block (cs := (nums .u8 [39]).toArray) (t := 5) (fr := (0, 0)) (heap_alloc_new wr _)) nums_one (by omega) (by unfold maxLen; omega) (by omega) (by simp; omega) (wr.heap.size + 1) (by simp) ?_; intro g1 cap1 w1 hown1 hgrow1 hat1 hlt1; have HO1 := Lib.hid (show w1.ownsRow w.heap.size 5 1 (.slice (some ⟨g1, 0, none⟩) (m0 + 1) cap1) (m0 + 1) (nums .u8 (Kx.esc (l.take k) ++ [39])) by (rw [nums_append]; exact hown1)); have HB1 := Lib.hid ((HB.out.alloc HB.out.size (Obj.cells (nums .u8 [39]).toArray 5)).grown hgrow1 (by simp; omega) (fun r hr => (HO.out.lt r hr).1)); have ck1 := cell_below HB1.out (show w.cell? ⟨b, off + k, none⟩ = some (.int .i64 x) from CK0.out); clear hown1 hgrow1 hat1 hlt1)
                  have HMm := Lib.hid (show m0 + 1 + 4 ≤ 140737488355328 by omega)
                  have HMl := Lib.hid (show (Kx.esc (l.take k) ++ [39]).length = m0 + 1 by rw [List.length_append, HM0.out]; rfl)
                  generalize hys : Kx.esc (l.take k) ++ [39] = ys at *
                  generalize hm1 : m0 + 1 = m at *
                  have Hmm := HMm
                  have HM := HMl
                  clear hys hm1 ck
                  generalize huA : (some (⟨g1, 0, none⟩ : Addr)) = uA at *
                  generalize cap1 = uc at *
                  go_wp2_with fail
                  refine (rput_any x _ hgx).mono ?_
                  rintro e w2 ⟨pv, rfl, hown2, hb2⟩
                  have hel := enc_len x
                  obtain ⟨g, cap, rfl, hgl, hcs⟩ := own_form_pos hown2 (by omega)
                  have HO2 := Lib.hid (own_below HO1.out hb2)
                  have HB2 := Lib.hid (below_then HB1.out HB1.out.size hb2)
                  have HC := Lib.hid hcs
                  have hsz2 : w.heap.size ≤ w2.heap.size := HB2.out.size
                  generalize hq : (Spec.enc x).length = q at *
                  have HQ := Lib.hid hq
                  clear hown2 hb2 hcs hq
                  go_wp2_with
                    (at_builtin; refine wpList_append_lies _ rfl (.tmp 46) (.tmp 51) 39 rfl w.heap.size 5 i5 _ 1 1 Try.underlying39 hi5 hz5 hs5 hb5 rfl (by omega) (.slice uA m uc) m (nums .u8 ys) rfl HO2.out ⟨g, 0, none⟩ q cap (nums .u8 (Spec.enc x)) rfl (by rw [nums_length, HQ.out]; omega) HC.out nums_one (by omega) (by have := Hmm.out; unfold maxLen; omega) (by have := Hmm.out; omega) hsz2 _ rfl ?_; intro gg cap2 w3 hown3 hgrow hat hlt3)
                  have hown4 : w3.ownsRow w.heap.size 5 1 (.slice (some ⟨gg, 0, none⟩) (m + q) cap2) (Kx.esc (l.take (k + 1))).length (nums .u8 (Kx.esc (l.take (k + 1)))) := by
                    rw [HYS.out, nums_append, List.length_append, HM.out, HQ.out]; exact hown3
                  have hb4 : Below w.heap.size w w3 := HB2.out.grown hgrow hsz2 (fun r hr => (HO2.out.lt r hr).1)
                  have HO4 := Lib.hid hown4
                  have HB4 := Lib.hid hb4
                  clear hown3 hown4 hb4 hgrow hat
                  go_wp2
                  go_roundw
                  case rel =>
                    refine ⟨k + 1, by omega, by go_num, fun h => absurd h (Nat.succ_ne_zero k), ?_, HO4.out, HB4.out⟩
                    rw [htk.out]; intro z hz; rcases List.mem_append.1 hz with h | h
                    · exact HG.out z h
                    · rw [List.mem_singleton] at h; rw [h]; exact HF.out
                  case measure => simp [intOf]; omega
              · have HYS := Lib.hid (show Kx.esc (l.take (k + 1)) = Kx.esc (l.take k) ++ Spec.enc x by rw [htk.out, Kx.esc_snoc]; unfold Kx.esc1; rw [if_neg he])
                have d34 : (x == 39) = false := beq_eq_false_iff_ne.2 he
                clear he h127 h32
                have Hmm := Lib.hid (show m0 + 4 ≤ 140737488355328 by omega)
                have HM := HM0
                have HO1 := HO
                have HB1 := HB
                clear HB HO
                generalize hys : Kx.esc (l.take k) = ys at *
                clear hys
                generalize m0 = m at *
                generalize vA = uA at *
                generalize vc = uc at *
                go_wp2_with fail
                refine (rput_any x _ hgx).mono ?_
                rintro e w2 ⟨pv, rfl, hown2, hb2⟩
                have hel := enc_len x
                obtain ⟨g, cap, rfl, hgl, hcs⟩ := own_form_pos hown2 (by omega)
                have HO2 := Lib.hid (own_below HO1.out hb2)
                have HB2 := Lib.hid (below_then HB1.out HB1.out.size hb2)
                have HC := Lib.hid hcs
                have hsz2 : w.heap.size ≤ w2.heap.size := HB2.out.size
                generalize hq : (Spec.enc x).length = q at *
                have HQ := Lib.hid hq
                clear hown2 hb2 hcs hq
                go_wp2_with
                  (at_builtin; refine wpList_append_lies _ rfl (.tmp 46) (.tmp 51) 39 rfl w.heap.size 5 i5 _ 1 1 Try.underlying39 hi5 hz5 hs5 hb5 rfl (by omega) (.slice uA m uc) m (nums .u8 ys) rfl HO2.out ⟨g, 0, none⟩ q cap (nums .u8 (Spec.enc x)) rfl (by rw [nums_length, HQ.out]; omega) HC.out nums_one (by omega) (by have := Hmm.out; unfold maxLen; omega) (by have := Hmm.out; omega) hsz2 _ rfl ?_; intro gg cap2 w3 hown3 hgrow hat hlt3)
                have hown4 : w3.ownsRow w.heap.size 5 1 (.slice (some ⟨gg, 0, none⟩) (m + q) cap2) (Kx.esc (l.take (k + 1))).length (nums .u8 (Kx.esc (l.take (k + 1)))) := by
                  rw [HYS.out, nums_append, List.length_append, HM.out, HQ.out]; exact hown3
                have hb4 : Below w.heap.size w w3 := HB2.out.grown hgrow hsz2 (fun r hr => (HO2.out.lt r hr).1)
                have HO4 := Lib.hid hown4
                have HB4 := Lib.hid hb4
                clear hown3 hown4 hb4 hgrow hat
                go_wp2
                go_roundw
                case rel =>
                  refine ⟨k + 1, by omega, by go_num, fun h => absurd h (Nat.succ_ne_zero k), ?_, HO4.out, HB4.out⟩
                  rw [htk.out]; intro z hz; rcases List.mem_append.1 hz with h | h
                  · exact HG.out z h
                  · rw [List.mem_singleton] at h; rw [h]; exact HF.out
                case measure => simp [intOf]; omega
        · have hgx' : Spec.good x = false := by simpa using hgx
          rw [hgx']
          go_wp2_with fail
          refine (works_any _ (HGB.out.below HB.out)).mono ?_
          rintro e w4 ⟨rfl, hb4⟩
          have HB4 := Lib.hid (below_then HB.out HB.out.size hb4)
          clear hb4
          go_wp2
          refine bodyPost_ret (v := .bool true) (by simp [results, Try.results5, go_sem]) rfl ?_
          exact ⟨rfl, HB4.out⟩
      · obtain rfl : n = k := by omega
        have hall : l.take n = l := List.take_of_length_le (by rw [HL.out]; exact Nat.le_refl _)
        have hfine := HG.out
        have hown := HO.out
        have hvn := HV0.out
        rw [hall] at hfine hown hvn hel5 ⊢
        rw [hall] at hvc
        have hel1 := (esc_len l).1
        rw [HL.out] at hel1
        have hcv : (convert 39 9 (.slice vA (Kx.esc l).length vc)).run Try.prog wr = .ok (.string (strOfNums (Kx.esc l))) wr := by
          rcases Nat.eq_zero_or_pos n with h0 | h0
          · have hl0 : l = [] := List.length_eq_zero_iff.1 (by rw [HL.out]; exact h0)
            rw [hvn h0, hl0]
            exact conv_nil wr
          · obtain ⟨g, cap, hvg, _, _⟩ := own_form_pos hown (by omega)
            cases hvg
            exact conv_own hown (by omega)
        have hes := esc_string (Kx.esc l) (Kx.esc_bytes hfine)
        have hlx := Kx.lex_text hfine (by rw [List.length_cons, List.length_append, List.length_singleton]; omega) (by rw [HL.out]; exact hel1)
        rw [← hes] at hlx
        have HLX := Lib.hid hlx
        have hssz := strOfNums_size (Kx.esc l)
        have hq1 : ∀ W, (Op.stringOp .add ⟨#[39]⟩ (strOfNums (Kx.esc l))).run Try.prog W = .ok (.string ((⟨#[39]⟩ : ByteArray) ++ strOfNums (Kx.esc l))) W := fun W => run_string_add_sum W _ _ (by rw [hssz, show (⟨#[39]⟩ : ByteArray).size = 1 from rfl]; omega)
        have hq2 : ∀ W, (Op.stringOp .add ((⟨#[39]⟩ : ByteArray) ++ strOfNums (Kx.esc l)) ⟨#[39]⟩).run Try.prog W = .ok (.string ((⟨#[39]⟩ : ByteArray) ++ strOfNums (Kx.esc l) ++ ⟨#[39]⟩)) W := fun W => run_string_add_sum W _ _ (by rw [ByteArray.size_append, hssz, show (⟨#[39]⟩ : ByteArray).size = 1 from rfl]; omega)
        clear hall hfine hown hvn hel1 hel5 hes hlx hssz HV0 HG HO
        go_wp2_with fail
        refine (lex_good HLX.out _ (HGB.out.below HB.out)).mono ?_
        rintro e w2 ⟨A2, c2, rfl, ht2, hn2, hc2, hb2⟩
        have hb2w := below_then HB.out HB.out.size hb2
        have T2 := Lib.hid ht2
        have HB2 := Lib.hid hb2w
        have hc2' : 1 ≤ c2 := hc2
        simp only [List.length_cons, List.length_nil, Nat.zero_add]
        clear ht2 hb2 hn2 hc2 hb2w hcv hq1 hq2 HLX
        go_wp2
        generalize hF1 : (Obj.cells #[Value.int IntKind.i64 0, Value.int IntKind.i64 0, Value.int IntKind.i64 0] 25) = F0 at *
        obtain ⟨W, hW⟩ : ∃ W, w2.alloc F0 = W := ⟨_, rfl⟩
        have hb : Below w2.heap.size w2 W := by rw [← hW]; exact (Below.refl _ _).alloc (Nat.le_refl _) _
        have a1 : W.heap[w2.heap.size]? = some F0 := by rw [← hW]; exact blk_new w2 F0
        subst hF1
        have e10 := blk_cell a1 0
        have hg2 := blk_lt a1
        obtain ⟨bk, sp, sn, sc, sq, sm, sd, rfl, hlt2, hlit, ck, _, c2', c3', _⟩ := (T2.out.below hb).at (i := 0) rfl
        simp only [Nat.zero_mul, Nat.zero_add] at ck c2' c3'
        have hlit' : LitAt (fun _ => True) W (.agg #[.slice sp sn sc, .slice sq sm sd]) (Kx.litText l) := hlit
        have L := Lib.hid hlit'
        clear hlit'
        have HBW := Lib.hid (below_then HB2.out HB2.out.size hb)
        have RW := Lib.hid (HR.out.below HBW.out)
        rw [hW]
        generalize w2.heap.size = g2 at *
        clear hW hb a1 hlit T2 HB2 HB
        have E0 := Lib.hid (show ∀ w', Below W.heap.size W w' → w'.cell? ⟨g2, 0, none⟩ = some (.int .i64 0) ∧ w'.cell? ⟨bk, 0, none⟩ = some (.int .i64 2) ∧ w'.cell? ⟨bk, 2, none⟩ = some (.slice sp sn sc) ∧ w'.cell? ⟨bk, 3, none⟩ = some (.slice sq sm sd) from
          fun w' h => ⟨cell_below h e10, cell_below h ck, cell_below h c2', cell_below h c3'⟩)
        go_region_held3 (fun w' => w'.cell? ⟨g2, 0, none⟩ = some (.int .i64 0) ∧ w'.cell? ⟨bk, 0, none⟩ = some (.int .i64 2) ∧ w'.cell? ⟨bk, 2, none⟩ = some (.slice sp sn sc) ∧ w'.cell? ⟨bk, 3, none⟩ = some (.slice sq sm sd))
          (first | go_keep | exact E0.out _ H7.out | exact E0.out _ H6.out | exact E0.out _ H5.out | exact E0.out _ (Below.refl _ _).drew)
          (first
            | (go_at_call 12; (with_reducible refine (rtext_any _ n c l _ (RW.out.below (Below.refl _ _).drew) HL.out (by omega)).mono ?_); rintro e w5 ⟨v5, rfl, hl5, hb5⟩; obtain ⟨yA, yn, yc, yB, ym, yd, hv5⟩ := lit_form hl5; cases hv5; have HL5 := Lib.hid hl5; have H5 := Lib.hid (below_then (Below.refl _ W).drew (Nat.le_refl _) hb5); clear hl5 hb5)
            | (go_at_call 11; have hA := L.out.below H5.out; have hB := HL5.out; have hC := same_same (t := Kx.litText l) w5 hA hB; (with_reducible refine hC.mono ?_); rintro e w6 ⟨rfl, hb6⟩; have H6 := Lib.hid (below_then H5.out H5.out.size hb6); clear hb6)
            | (go_at_call 7; have GW := HGB.out.below (below_then HBW.out HBW.out.size H6.out); (with_reducible refine (works_any _ GW).mono ?_); rintro e w7 ⟨rfl, hb7⟩; have H7 := Lib.hid (below_then H6.out H6.out.size hb7); clear hb7))
        all_goals
          go_wp2
          refine bodyPost_ret (v := .bool true) (by simp [results, Try.results5, go_sem]) rfl ?_
          exact ⟨rfl, below_then HBW.out HBW.out.size H7.out⟩
end Go.Proofs.Ytiboikbccmfedaa
