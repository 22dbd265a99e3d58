/- The law of places, walked: for every text it returns true. Conditions: the text's length; the library's variable holds an int. -/
import Derived.Test.YtiboikbccmfedaaAq
import Derived.Test.YtiboikbccmfedaaModel3
namespace Go.Proofs.Ytiboikbccmfedaa
open Go.RowKit

set_option maxRecDepth 100000 in
set_option maxHeartbeats 4000000 in
theorem places_any (s : ByteArray) (hs : s.size ≤ 140737488351232) (w : World) (hgb : Glob w) : Calls Try.prog 3 #[.string s] w (fun e w' => e = .returned (.bool true) ∧ Below w.heap.size w w') := by
  obtain ⟨R, hR⟩ : ∃ R, Kx.lex (nb s) = R := ⟨_, rfl⟩
  have HGB := Lib.hid hgb
  clear hgb
  have hby := nb_bytes s
  cases R with
  | bad er j =>
    have hbd := Kx.lex_bad_le hby hR
    rw [nb_length] at hbd
    have be : (er == 0) = false := beq_eq_false_iff_ne.2 hbd.2
    have bj : decide (j ≤ s.size) = true := decide_eq_true hbd.1
    go_enter Try.func3, Try.ntmps3
    go_wp2_with fail
    refine (lex_bad hR _ HGB.out).mono ?_
    rintro e w1 ⟨rfl, hb1⟩
    have HB1 := Lib.hid hb1
    clear hb1 hby hR
    go_wp2_with fail
    refine (works_any _ (HGB.out.below (HB1.out.alloc HB1.out.size (Obj.cells #[Value.int IntKind.i64 er, Value.int IntKind.i64 (j : Int), Value.int IntKind.i64 0] 25)))).mono ?_
    rintro e w2 ⟨rfl, hb2⟩
    have hb3 := (HB1.out.alloc HB1.out.size (Obj.cells #[Value.int IntKind.i64 er, Value.int IntKind.i64 (j : Int), Value.int IntKind.i64 0] 25))
    have hb4 := below_then hb3 hb3.size hb2
    have HB4 := Lib.hid hb4
    clear hb2 hb3 hb4
    go_wp2
    refine bodyPost_ret (v := .bool true) (by simp [results, Try.results3, go_sem]) rfl ?_
    exact ⟨rfl, HB4.out⟩
  | good ts =>
    have HO := Lib.hid (Kx.lex_order hby hR)
    go_enter Try.func3, Try.ntmps3
    go_wp2_with fail
    refine (lex_good hR _ HGB.out).mono ?_
    rintro e w1 ⟨A, c, rfl, ht, hn, hc, hb1⟩
    have HB1 := Lib.hid hb1
    have HT := Lib.hid ht
    clear hb1 ht hby hR
    go_wp2
    obtain ⟨W, hW⟩ : ∃ W, w1.alloc (Obj.cells #[Value.int IntKind.i64 0, Value.int IntKind.i64 0, Value.int IntKind.i64 0] 25) = W := ⟨_, rfl⟩
    have hbw : Below w1.heap.size w1 W := by rw [← hW]; exact (Below.refl _ _).alloc (Nat.le_refl _) _
    have HBW := Lib.hid (below_then HB1.out HB1.out.size hbw)
    have HTW := Lib.hid (HT.out.below hbw)
    rw [hW]
    clear hW hbw HT HB1
    go_loopw [5, 6] (fun a i wr => ∃ (k m : Nat), k ≤ ts.length ∧ i = .int .i64 k ∧ a = .int .i64 m ∧ (∀ t, ts[k]? = some t → m ≤ t.at_) ∧ Below W.heap.size W wr) (fun _ i _ => ts.length - (intOf i).toNat)
    case atStart => exact ⟨0, 0, Nat.zero_le _, rfl, rfl, fun _ _ => Nat.zero_le _, Below.refl _ _⟩
    case round =>
      obtain ⟨k, m, hk, rfl, rfl, hm, hbel⟩ := hrel
      by_cases hlt : k < ts.length
      · obtain ⟨t, hti⟩ : ∃ t, ts[k]? = some t := ⟨ts[k], List.getElem?_eq_getElem hlt⟩
        obtain ⟨bk, sp, sn, sc, sq, sm, sd, rfl, hlt2, _, c0, c1, c2, c3, c4⟩ := (HTW.out.below hbel).at hti
        have ho := HO.out.at k hti
        obtain ⟨⟨o1, o2, o3⟩, o4⟩ := ho
        have hmt := hm t hti
        rw [nb_length] at o1 o2
        have hex := extract_nb s t.at_ t.text.length
        rw [o3] at hex
        have hsz := strOfNums_size t.text
        generalize hx : strOfNums t.text = x at *
        generalize ht : t.at_ = p at *
        generalize hu : t.text.length = u at *
        have d1 : decide (p < m) = false := decide_eq_false (by omega)
        have d2 : decide (s.size ≤ p) = false := decide_eq_false (by omega)
        have d3 : decide (s.size < p + u) = false := decide_eq_false (by omega)
        have hwr : IntKind.i64.wrap ((p : Int) + (u : Int)) = (p : Int) + (u : Int) := wraps_i64 _ (by omega) (by omega)
        have d4 : decide ((s.size : Int) < (p : Int) + (u : Int)) = false := decide_eq_false (by omega)
        have HBEL := Lib.hid hbel
        have HO4 := Lib.hid o4
        clear hbel o4 hm o3 hti ht hu hx
        go_wp2
        go_quiet (fail)
        go_wp2
        go_roundw
        case rel => exact ⟨k + 1, p + 1, by omega, by go_num, by go_num, HO4.out, below_drewN (HBEL.out.alloc HBEL.out.size _) _⟩
        case measure => simp [intOf]; omega
      · obtain rfl : ts.length = k := by omega
        go_wp2_with fail
        refine (works_any _ (HGB.out.below (below_then HBW.out HBW.out.size hbel))).mono ?_
        rintro e w2 ⟨rfl, hb2⟩
        have hb3 := below_then HBW.out HBW.out.size hbel
        have hb4 := below_then hb3 hb3.size hb2
        have HB4 := Lib.hid hb4
        clear hb2 hb3 hb4
        go_wp2
        refine bodyPost_ret (v := .bool true) (by simp [results, Try.results3, go_sem]) rfl ?_
        exact ⟨rfl, HB4.out⟩
end Go.Proofs.Ytiboikbccmfedaa
