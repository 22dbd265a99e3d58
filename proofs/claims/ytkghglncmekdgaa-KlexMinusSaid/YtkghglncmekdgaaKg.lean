/- Contract of the lexer's number. Conditions: the lexer's block reads in memory; its place lies within the text. -/
import Derived.Test.YtkghglncmekdgaaKf
import Derived.Lib.ConvBytes
namespace Go.Proofs.Ytkghglncmekdgaa
open Go.RowKit

theorem conv_text (s : ByteArray) (W : World) (hs : s.size ≤ 1000000) : ∃ cap W', (convert 9 45 (.string s)).run Try.prog W = .ok (.slice (some ⟨W.heap.size, 0, none⟩) s.size cap) W' ∧ s.size ≤ cap ∧ RowAt .u8 W' (some ⟨W.heap.size, 0, none⟩) (nb s) ∧ Below W.heap.size W W' := by
  refine ⟨_, _, Lib.run_convert_string_bytes W 9 45 5 s Try.underlying9 Try.underlying45 Try.underlying5, grownCap_ge _ _ _ _, ⟨by rw [nb_length]; omega, fun _ => ⟨_, _, rfl, fun j hj => ?_⟩⟩, ?_⟩
  · rw [nb_length] at hj
    rw [Nat.zero_add, Lib.bytesWorld_cell W 5 s j hj, nb_getD s j hj]
    have h2 : j < s.data.toList.length := by rw [Array.length_toList]; exact hj
    rw [List.getD_eq_getElem?_getD, List.getElem?_eq_getElem h2]
    rfl
  · refine ⟨rfl, rfl, rfl, ?_, fun k hk => Lib.bytesWorld_at_old W 5 s k hk⟩
    rw [Lib.bytesWorld_size]; omega

theorem moves_step {g : Nat} {s : ByteArray} {i j : Nat} {w w' w'' : World} (h : Moves g s i w w') (k : Moves g s j w' w'') : Moves g s j w w'' := ⟨h.1.trans k.1, k.2⟩
theorem moves_below {g : Nat} {s : ByteArray} {i : Nat} {w w' w'' : World} (h : Moves g s i w w') (k : Below w'.heap.size w' w'') : Moves g s i w w'' := by
  have hb := blk_lt h.2
  refine ⟨⟨k.os.trans h.1.os, k.tape.trans h.1.tape, k.output.trans h.1.output, Nat.le_trans h.1.size k.size, fun j hj hne => (k.block j (Nat.lt_of_lt_of_le hj h.1.size)).trans (h.1.block j hj hne)⟩, blk_below h.2 k hb⟩
theorem moves_refl {g : Nat} {s : ByteArray} {i : Nat} {w : World} (hg : w.heap[g]? = some (lcell s i)) : Moves g s i w w := ⟨⟨rfl, rfl, rfl, Nat.le_refl _, fun _ _ _ => rfl⟩, hg⟩
theorem moves_set {g : Nat} {s : ByteArray} {i : Nat} {w w' : World} (h : Moves g s i w w') (j : Nat) : Moves g s j w (w'.setCell ⟨g, 1, none⟩ (.int .i64 (j : Int))) := ⟨grown_set h.1 _, lcell_set h.2 j⟩

/-- what the digits come to -/
def DigTo (ds : List Int) (n ok : Value) : Prop := ok = .bool (decide (Kx.val ds ≤ 9223372036854775808)) ∧ ∃ v : Int, n = .int .u64 v ∧ 0 ≤ v ∧ v < 18446744073709551616 ∧ (Kx.val ds ≤ 9223372036854775808 → v = Kx.val ds)

theorem nb_str (l : List Int) (h : Spec.Bytes l) : nb (strOfNums l) = l := by
  unfold nb
  rw [strOfNums_data, List.map_map]
  conv => rhs; rw [← List.map_id l]
  apply List.map_congr_left
  intro x hx
  have := h x hx
  simp only [Function.comp_apply, UInt8.toNat_ofNat', id_eq]
  omega
theorem ret_num {v v' : Int} {b b' : Bool} (h : v = v') (h' : b = b') : Ending.returned (.tuple #[.int .i64 v, .bool b]) = .returned (.tuple #[.int .i64 v', .bool b']) := by rw [h, h']

def NumberTo (g : Nat) (s : ByteArray) (i : Nat) (w : World) (e : Ending) (w' : World) : Prop :=
  ∃ v, e = .returned (.tuple #[.int .i64 v, .bool (Kx.numAt (nb s) i).2.2]) ∧ ((Kx.numAt (nb s) i).2.2 = true → v = (Kx.numAt (nb s) i).1) ∧ Moves g s (Kx.numAt (nb s) i).2.1 w w'

theorem while_dig (g : Nat) (s : ByteArray) (i : Nat) (w : World) (hg : w.heap[g]? = some (lcell s i)) (hi : i ≤ s.size) (hs : s.size ≤ 100000) :
    Calls Try.prog 15 #[.pointer (some ⟨g, 0, none⟩), .func (.func 27) #[] #[]] w (WhileTo g s i Kx.dig w) :=
  while_any 27 Kx.dig (enters_of Try.func27 (by kernel_rfl) rfl) dig_any g s i w hg hi hs

set_option maxRecDepth 100000 in
set_option maxHeartbeats 2000000 in
theorem number_any (g : Nat) (s : ByteArray) (i : Nat) (w : World) (hg : w.heap[g]? = some (lcell s i)) (hi : i < s.size) (hs : s.size ≤ 100000) :
    Calls Try.prog 36 #[.pointer (some ⟨g, 0, none⟩)] w (NumberTo g s i w) := by
  have H := Lib.hid hg
  have d0 := blk_cell hg 0
  have d1 := blk_cell hg 1
  have df := blk_frozen hg 1
  clear hg
  have HP := Lib.hid (fun (w : World) hg => peek_here g s i w hg (by omega))
  obtain ⟨r, hr⟩ : ∃ r, Kx.numAt (nb s) i = r := ⟨_, rfl⟩
  unfold NumberTo
  rw [hr]
  unfold Kx.numAt at hr
  generalize Kx.gt (nb s) i = c at hr HP
  by_cases hc : c = 45
  · subst hc
    rw [if_pos rfl, if_pos rfl] at hr
    have HRR := Lib.hid hr
    clear hr
    go_enter Try.func36, Try.ntmps36
    go_wp2_with fail
    refine (HP.out _ H.out).mono ?_
    rintro e w1 ⟨rfl, rfl⟩
    go_wp2_with fail
    have hm := moves_set (moves_refl H.out) (i + 1)
    rw [show ((i : Int) + 1) = ((i + 1 : Nat) : Int) from by omega]
    generalize w.setCell ⟨g, 1, none⟩ (.int .i64 ((i + 1 : Nat) : Int)) = w1 at hm ⊢
    refine (while_dig g s (i + 1) w1 hm.2 (by omega) hs).mono ?_
    rintro e w2 ⟨rfl, hmv⟩
    have hm2 := moves_step hm hmv
    have hall := Kx.span_all Kx.dig ((nb s).drop (i + 1))
    have hspl := Kx.span_le Kx.dig ((nb s).drop (i + 1))
    rw [List.length_drop, nb_length] at hspl
    generalize hk : Kx.span Kx.dig ((nb s).drop (i + 1)) = k at *
    have hlen : (((nb s).drop (i + 1)).take k).length = k := by rw [List.length_take, List.length_drop, nb_length]; omega
    generalize hds : ((nb s).drop (i + 1)).take k = ds at *
    have hdig : ∀ x ∈ ds, 48 ≤ x ∧ x ≤ 57 := fun x hx => (Kx.dig_iff x).1 (hall x hx)
    have hby : Spec.Bytes ds := fun x hx => by have := hdig x hx; omega
    obtain ⟨cap, w3, hconv, hcap, hrow, hbel⟩ := conv_text (strOfNums ds) w2 (by rw [strOfNums_size, hlen]; omega)
    rw [strOfNums_size, hlen] at hconv
    rw [nb_str ds hby] at hrow
    have hm3 := moves_below hm2 hbel
    have HM := Lib.hid hm3
    have HROW := Lib.hid hrow
    have HLEN := Lib.hid hlen
    have HDIG := Lib.hid hdig
    have hk1 : k ≤ 100000 := by omega
    clear hm hmv hm2 hbel hm3 hrow hlen hdig hby hall hds hk hcap H d0 d1 df hspl HP
    go_wp2
    go_loop [5, 6, 25] (fun n ok i => ∃ q : Nat, q ≤ k ∧ i = .int .i64 q ∧ DigTo (ds.take q) n ok) (fun _ _ i => k - (intOf i).toNat)
    case atStart => exact ⟨0, Nat.zero_le _, rfl, rfl, 0, rfl, by omega, by omega, fun _ => rfl⟩
    case round =>
      obtain ⟨q, hq, rfl, rfl, v, rfl, hv0, hv1, hv2⟩ := hrel
      have hvn : 0 ≤ Kx.val (ds.take q) := Kx.val_nonneg _ (fun x hx => (HDIG.out x (List.mem_of_mem_take hx)).1)
      by_cases hlt : q < k
      · obtain ⟨b, off, hA, hcell⟩ := HROW.out.2 (by rw [HLEN.out]; omega)
        cases hA
        obtain ⟨x, hx⟩ : ∃ x, ds.getD q 0 = x := ⟨_, rfl⟩
        have cx : w3.cell? ⟨w2.heap.size, q, none⟩ = some (.int .u8 x) := by have := hcell q (by rw [HLEN.out]; exact hlt); rw [Nat.zero_add, hx] at this; exact this
        have hmem : x ∈ ds := by rw [← hx, List.getD_eq_getElem?_getD, List.getElem?_eq_getElem (by rw [HLEN.out]; exact hlt)]; exact List.getElem_mem _
        obtain ⟨hx0, hx1⟩ := HDIG.out x hmem
        have htk : ds.take (q + 1) = ds.take q ++ [x] := by
          rw [List.take_succ_eq_append_getElem (by rw [HLEN.out]; exact hlt)]
          congr
          rw [← hx, List.getD_eq_getElem?_getD, List.getElem?_eq_getElem (by rw [HLEN.out]; exact hlt)]
          rfl
        have hval : Kx.val (ds.take (q + 1)) = Kx.val (ds.take q) * 10 + (x - 48) := by rw [htk, Kx.val_snoc]
        have HVAL := Lib.hid hval
        clear hcell hx hmem htk hval
        generalize hV : Kx.val (ds.take q) = V at hv2 hvn HVAL ⊢
        clear hV
        by_cases hok : V ≤ 9223372036854775808
        · obtain rfl : v = V := hv2 hok
          clear hv2
          by_cases hfit : v ≤ (9223372036854775808 - (x - 48)) / 10
          · go_wp2
            go_round
            case rel =>
              refine ⟨q + 1, by omega, by go_num, ?_, _, rfl, by omega, by omega, fun _ => ?_⟩
              · rw [HVAL.out, decide_eq_true (by omega)]
              · rw [HVAL.out]
            case measure => simp [intOf]; omega
          · go_wp2
            go_round
            case rel =>
              refine ⟨q + 1, by omega, by go_num, ?_, _, rfl, ?_, ?_, fun h => ?_⟩
              · rw [HVAL.out, decide_eq_false (by omega)]
              · rw [IntKind.wrap_u64]; omega
              · rw [IntKind.wrap_u64]; omega
              · rw [HVAL.out] at h; omega
            case measure => simp [intOf]; omega
        · clear hv2
          go_wp2
          go_round
          case rel =>
            refine ⟨q + 1, by omega, by go_num, ?_, _, rfl, ?_, ?_, fun h => ?_⟩
            · rw [HVAL.out, decide_eq_false (by omega)]
            · rw [IntKind.wrap_u64]; omega
            · rw [IntKind.wrap_u64]; omega
            · rw [HVAL.out] at h; omega
          case measure => simp [intOf]; omega
      · obtain rfl : q = k := by omega
        have htq : ds.take q = ds := List.take_of_length_le (by rw [HLEN.out]; exact Nat.le_refl _)
        rw [htq] at hv2 hvn ⊢
        clear htq
        generalize Kx.val ds = V at *
        have hR := HRR.out
        go_wp2
        subst hR
        refine bodyPost_ret (v := .tuple #[.int .i64 (wrap64 (IntKind.u64.wrap (-v))), .bool (decide (V ≤ 9223372036854775808))]) (by simp [results, Try.results36, go_sem]) rfl ?_
        refine ⟨_, rfl, fun h => ?_, HM.out⟩
        have hV : V ≤ 9223372036854775808 := of_decide_eq_true h
        rw [hv2 hV, IntKind.wrap_u64]
        unfold wrap64
        show _ = -V
        omega
  · rw [if_neg hc, if_neg hc] at hr
    have hcb : (c == 45) = false := by simpa using hc
    have HRR := Lib.hid hr
    clear hr
    go_enter Try.func36, Try.ntmps36
    go_wp2_with fail
    refine (HP.out _ H.out).mono ?_
    rintro e w1 ⟨rfl, rfl⟩
    go_wp2_with fail
    have hm := moves_refl H.out
    refine (while_dig g s i w hm.2 (by omega) hs).mono ?_
    rintro e w2 ⟨rfl, hmv⟩
    have hm2 := moves_step hm hmv
    have hall := Kx.span_all Kx.dig ((nb s).drop i)
    have hspl := Kx.span_le Kx.dig ((nb s).drop i)
    rw [List.length_drop, nb_length] at hspl
    generalize hk : Kx.span Kx.dig ((nb s).drop i) = k at *
    have hlen : (((nb s).drop i).take k).length = k := by rw [List.length_take, List.length_drop, nb_length]; omega
    generalize hds : ((nb s).drop i).take k = ds at *
    have hdig : ∀ x ∈ ds, 48 ≤ x ∧ x ≤ 57 := fun x hx => (Kx.dig_iff x).1 (hall x hx)
    have hby : Spec.Bytes ds := fun x hx => by have := hdig x hx; omega
    obtain ⟨cap, w3, hconv, hcap, hrow, hbel⟩ := conv_text (strOfNums ds) w2 (by rw [strOfNums_size, hlen]; omega)
    rw [strOfNums_size, hlen] at hconv
    rw [nb_str ds hby] at hrow
    have hm3 := moves_below hm2 hbel
    have HM := Lib.hid hm3
    have HROW := Lib.hid hrow
    have HLEN := Lib.hid hlen
    have HDIG := Lib.hid hdig
    have hk1 : k ≤ 100000 := by omega
    clear hm hmv hm2 hbel hm3 hrow hlen hdig hby hall hds hk hcap H d0 d1 df hspl HP
    go_wp2
    go_loop [5, 6, 25] (fun n ok i => ∃ q : Nat, q ≤ k ∧ i = .int .i64 q ∧ DigTo (ds.take q) n ok) (fun _ _ i => k - (intOf i).toNat)
    case atStart => exact ⟨0, Nat.zero_le _, rfl, rfl, 0, rfl, by omega, by omega, fun _ => rfl⟩
    case round =>
      obtain ⟨q, hq, rfl, rfl, v, rfl, hv0, hv1, hv2⟩ := hrel
      have hvn : 0 ≤ Kx.val (ds.take q) := Kx.val_nonneg _ (fun x hx => (HDIG.out x (List.mem_of_mem_take hx)).1)
      by_cases hlt : q < k
      · obtain ⟨b, off, hA, hcell⟩ := HROW.out.2 (by rw [HLEN.out]; omega)
        cases hA
        obtain ⟨x, hx⟩ : ∃ x, ds.getD q 0 = x := ⟨_, rfl⟩
        have cx : w3.cell? ⟨w2.heap.size, q, none⟩ = some (.int .u8 x) := by have := hcell q (by rw [HLEN.out]; exact hlt); rw [Nat.zero_add, hx] at this; exact this
        have hmem : x ∈ ds := by rw [← hx, List.getD_eq_getElem?_getD, List.getElem?_eq_getElem (by rw [HLEN.out]; exact hlt)]; exact List.getElem_mem _
        obtain ⟨hx0, hx1⟩ := HDIG.out x hmem
        have htk : ds.take (q + 1) = ds.take q ++ [x] := by
          rw [List.take_succ_eq_append_getElem (by rw [HLEN.out]; exact hlt)]
          congr
          rw [← hx, List.getD_eq_getElem?_getD, List.getElem?_eq_getElem (by rw [HLEN.out]; exact hlt)]
          rfl
        have hval : Kx.val (ds.take (q + 1)) = Kx.val (ds.take q) * 10 + (x - 48) := by rw [htk, Kx.val_snoc]
        have HVAL := Lib.hid hval
        clear hcell hx hmem htk hval
        generalize hV : Kx.val (ds.take q) = V at hv2 hvn HVAL ⊢
        clear hV
        by_cases hok : V ≤ 9223372036854775808
        · obtain rfl : v = V := hv2 hok
          clear hv2
          by_cases hfit : v ≤ (9223372036854775808 - (x - 48)) / 10
          · go_wp2
            go_round
            case rel =>
              refine ⟨q + 1, by omega, by go_num, ?_, _, rfl, by omega, by omega, fun _ => ?_⟩
              · rw [HVAL.out, decide_eq_true (by omega)]
              · rw [HVAL.out]
            case measure => simp [intOf]; omega
          · go_wp2
            go_round
            case rel =>
              refine ⟨q + 1, by omega, by go_num, ?_, _, rfl, ?_, ?_, fun h => ?_⟩
              · rw [HVAL.out, decide_eq_false (by omega)]
              · rw [IntKind.wrap_u64]; omega
              · rw [IntKind.wrap_u64]; omega
              · rw [HVAL.out] at h; omega
            case measure => simp [intOf]; omega
        · clear hv2
          go_wp2
          go_round
          case rel =>
            refine ⟨q + 1, by omega, by go_num, ?_, _, rfl, ?_, ?_, fun h => ?_⟩
            · rw [HVAL.out, decide_eq_false (by omega)]
            · rw [IntKind.wrap_u64]; omega
            · rw [IntKind.wrap_u64]; omega
            · rw [HVAL.out] at h; omega
          case measure => simp [intOf]; omega
      · obtain rfl : q = k := by omega
        have htq : ds.take q = ds := List.take_of_length_le (by rw [HLEN.out]; exact Nat.le_refl _)
        rw [htq] at hv2 hvn ⊢
        clear htq
        generalize Kx.val ds = V at *
        have hR := HRR.out
        by_cases hok : V ≤ 9223372036854775808
        · obtain rfl : v = V := hv2 hok
          clear hv2
          by_cases hlt2 : v < 9223372036854775808
          · go_wp2
            subst hR
            refine bodyPost_ret (v := .tuple #[.int .i64 v, .bool (decide (v < 9223372036854775808))]) (by simp [results, Try.results36, go_sem, hlt2]) rfl ?_
            exact ⟨_, rfl, fun _ => rfl, HM.out⟩
          · go_wp2
            subst hR
            refine bodyPost_ret (v := .tuple #[.int .i64 (wrap64 v), .bool (decide (v < 9223372036854775808))]) (by simp [results, Try.results36, go_sem, hlt2]) rfl ?_
            exact ⟨_, rfl, fun h => absurd (of_decide_eq_true h) (by omega), HM.out⟩
        · have hlt2 : ¬ V < 9223372036854775808 := by omega
          have hf : decide (V < 9223372036854775808) = false := decide_eq_false hlt2
          go_wp2
          subst hR
          refine bodyPost_ret (v := .tuple #[.int .i64 (wrap64 v), .bool (decide (V < 9223372036854775808))]) (by simp [results, Try.results36, go_sem, hf]) rfl ?_
          exact ⟨_, rfl, fun h => absurd (of_decide_eq_true h) (by omega), HM.out⟩
end Go.Proofs.Ytkghglncmekdgaa
