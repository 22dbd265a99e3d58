/- Contract of light: it returns, and where it says true grammar and words are few. Conditions: grammar, words and their numbers read in memory. -/
import Derived.Test.YtollglblkbjgjaaGw
namespace Go.Proofs.Ytollglblkbjgjaa
open Go.RowKit

/-- grammar and words read in memory -/
structure EnvRd (w : World) (E : Env) : Prop where
 v : StrsAt w E.vA E.vs
 a : StrsAt w E.aA E.as_
 b : StrsAt w E.bA E.bs
 l : ToksRead w E.lA E.L
theorem EnvRd.below {w w' : World} {E : Env} (h : EnvRd w E) (hb : Below w.heap.size w w') : EnvRd w' E :=
 ⟨h.v.below hb, h.a.below hb, h.b.below hb, h.l.below hb⟩
/-- each word's number reads in memory -/
def ArrsAt (w : World) (E : Env) : Prop := ∀ (j : Nat) (t : Tok), E.L[j]? = some t → ∃ (d : Nat) (N : Int), ArrN w d (.agg #[.slice t.lit.sA t.lit.sn t.lit.sc, .slice t.lit.cA t.lit.cn t.lit.cc]) N
theorem ArrsAt.below {w w' : World} {E : Env} (h : ArrsAt w E) (hb : Below w.heap.size w w') : ArrsAt w' E := fun j t ht => by
 obtain ⟨d, N, k⟩ := h j t ht
 exact ⟨d, N, k.below hb⟩
def LightTo (E : Env) (w : World) (e : Ending) (w' : World) : Prop := ∃ b : Bool, e = .returned (.bool b) ∧ Below w.heap.size w w' ∧ (b = true → E.L.length ≤ 300 ∧ E.vs.length ≤ 100 ∧ E.as_.length ≤ 100 ∧ E.bs.length ≤ 100)
def GB (E : Env) : Obj := .cells #[.slice E.vA E.vs.length E.vc, .slice E.aA E.as_.length E.ac, .slice E.bA E.bs.length E.bc, .string E.outer, .string E.power, .string E.open_, .string E.close, .string E.left, .string E.right, .string E.minus, .string E.quote, .bool E.trains, .bool E.lone, .bool E.square] 24
set_option maxRecDepth 100000 in
set_option maxHeartbeats 8000000 in
theorem light_any (E : Env) (w : World) (hE : EnvRd w E) (hA : ArrsAt w E) : Calls Try.prog 7 #[E.gramV, .slice E.lA E.L.length E.lc] w (LightTo E w) := by
 unfold Env.gramV
 have HE := Lib.hid hE
 have HA := Lib.hid hA
 have HB := Lib.hid ((Below.refl _ w).alloc (Nat.le_refl _) (GB E))
 unfold GB at HB
 clear hE hA
 by_cases h1 : E.L.length ≤ 300
 ·have d1 : decide (300 < E.L.length) = false := decide_eq_false (by omega)
  have e1 : decide ((300 : Int) < (E.L.length : Int)) = false := decide_eq_false (by omega)
  by_cases h2 : E.vs.length ≤ 100
  ·have d2 : decide (100 < E.vs.length) = false := decide_eq_false (by omega)
   have e2 : decide ((100 : Int) < (E.vs.length : Int)) = false := decide_eq_false (by omega)
   by_cases h3 : E.as_.length ≤ 100
   ·have d3 : decide (100 < E.as_.length) = false := decide_eq_false (by omega)
    have e3 : decide ((100 : Int) < (E.as_.length : Int)) = false := decide_eq_false (by omega)
    by_cases h4 : E.bs.length ≤ 100
    ·have d4 : decide (100 < E.bs.length) = false := decide_eq_false (by omega)
     have e4 : decide ((100 : Int) < (E.bs.length : Int)) = false := decide_eq_false (by omega)
     go_enter Try.func7, Try.ntmps7
     go_wp2
     go_loopw [5, 6] (fun n q wr => ∃ (k : Nat) (x : Int), k ≤ E.L.length ∧ q = .int .i64 k ∧ n = .int .i64 x ∧ Below w.heap.size w wr) (fun _ q _ => E.L.length - (intOf q).toNat)
     case atStart => exact ⟨0, 0, Nat.zero_le _, rfl, rfl, HB.out⟩
     case round =>
      obtain ⟨k, x, hk, rfl, rfl, hb⟩ := hrel
      have HBR := Lib.hid hb
      clear hb
      by_cases hlt : k < E.L.length
      ·have f1 : decide ((k : Int) < (E.L.length : Int)) = true := decide_eq_true (by omega)
       have f1' : decide (k < E.L.length) = true := decide_eq_true hlt
       by_cases hx : x ≤ 5000
       ·have f2 : decide (x ≤ 5000) = true := decide_eq_true hx
        obtain ⟨b, off, hA, hall⟩ := (HE.out.below HBR.out).l (by omega)
        obtain ⟨t, ht⟩ : ∃ t, E.L[k]? = some t := ⟨_, List.getElem?_eq_getElem hlt⟩
        have htk := hall k t ht
        obtain ⟨dd, NN, harr⟩ := (HA.out.below HBR.out) k t ht
        have k1 := htk.k1
        have k2 := htk.k2
        have k3 := htk.k3
        have HAR := Lib.hid harr
        have hbl := World.block_lt_of_cell? _ _ k1
        have hj0 : (0 : Int) ≤ (k : Int) := by omega
        have hj1 : (k : Int) < (E.L.length : Int) := by omega
        rw [hA]
        have E0 := Lib.hid (show ∀ w', Below wr.heap.size wr w' → w'.cell? ⟨b, off + k * 5 + 1, none⟩ = some (.string t.text) ∧ w'.cell? ⟨b, off + k * 5 + 2, none⟩ = some (.slice t.lit.sA t.lit.sn t.lit.sc) ∧ w'.cell? ⟨b, off + k * 5 + 3, none⟩ = some (.slice t.lit.cA t.lit.cn t.lit.cc) from fun w' h => ⟨cell_below h k1, cell_below h k2, cell_below h k3⟩)
        clear hall htk harr ht hA
        generalize t.text = tx at *
        generalize t.lit.sA = l1 at *
        generalize t.lit.sn = l2 at *
        generalize t.lit.sc = l3 at *
        generalize t.lit.cA = l4 at *
        generalize t.lit.cn = l5 at *
        generalize t.lit.cc = l6 at *
        go_wp2_with fail
        go_region_held3 (fun w' => w'.cell? ⟨b, off + k * 5 + 1, none⟩ = some (.string tx) ∧ w'.cell? ⟨b, off + k * 5 + 2, none⟩ = some (.slice l1 l2 l3) ∧ w'.cell? ⟨b, off + k * 5 + 3, none⟩ = some (.slice l4 l5 l6))
         (first | go_keep | exact E0.out _ H8.out | exact E0.out _ (Below.refl _ _).drew)
         (first
            | (go_at_call 18; (with_reducible refine (weight0_any _ _ _ _ _ (HAR.out.below (Below.refl _ _).drew)).mono ?_); rintro e w8 ⟨r, rfl, hb8⟩; have H8 := Lib.hid (show Below wr.heap.size wr w8 from ⟨hb8.os, hb8.tape, hb8.output, hb8.size, hb8.block⟩); clear hb8)
            | fail)
        all_goals
         have HB9 := Lib.hid (below_then HBR.out HBR.out.size H8.out)
         clear HBR H8 k1 k2 k3 E0
         go_wp2
         go_roundw
         case rel => exact ⟨k + 1, _, by omega, by go_num, rfl, HB9.out⟩
         case measure => simp [intOf]; omega
       ·have f2 : decide (x ≤ 5000) = false := decide_eq_false hx
        go_wp2
        go_ret
        exact ⟨_, rfl, HBR.out, fun _ => ⟨h1, h2, h3, h4⟩⟩
      ·have f1 : decide ((k : Int) < (E.L.length : Int)) = false := decide_eq_false (by omega)
       have f1' : decide (k < E.L.length) = false := decide_eq_false hlt
       go_wp2
       go_ret
       exact ⟨_, rfl, HBR.out, fun _ => ⟨h1, h2, h3, h4⟩⟩
    ·have d4 : decide (100 < E.bs.length) = true := decide_eq_true (by omega)
     have e4 : decide ((100 : Int) < (E.bs.length : Int)) = true := decide_eq_true (by omega)
     go_enter Try.func7, Try.ntmps7
     go_wp2
     go_ret
     exact ⟨_, rfl, HB.out, fun h => by cases h⟩
   ·have d3 : decide (100 < E.as_.length) = true := decide_eq_true (by omega)
    have e3 : decide ((100 : Int) < (E.as_.length : Int)) = true := decide_eq_true (by omega)
    go_enter Try.func7, Try.ntmps7
    go_wp2
    go_ret
    exact ⟨_, rfl, HB.out, fun h => by cases h⟩
  ·have d2 : decide (100 < E.vs.length) = true := decide_eq_true (by omega)
   have e2 : decide ((100 : Int) < (E.vs.length : Int)) = true := decide_eq_true (by omega)
   go_enter Try.func7, Try.ntmps7
   go_wp2
   go_ret
   exact ⟨_, rfl, HB.out, fun h => by cases h⟩
 ·have d1 : decide (300 < E.L.length) = true := decide_eq_true (by omega)
  have e1 : decide ((300 : Int) < (E.L.length : Int)) = true := decide_eq_true (by omega)
  go_enter Try.func7, Try.ntmps7
  go_wp2
  go_ret
  exact ⟨_, rfl, HB.out, fun h => by cases h⟩
end Go.Proofs.Ytollglblkbjgjaa
