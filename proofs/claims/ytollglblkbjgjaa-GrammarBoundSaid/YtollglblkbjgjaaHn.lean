/- The walk of GrammarBound. Conditions: grammar and words read in memory. -/
import Derived.Test.YtollglblkbjgjaaGs
import Derived.Test.YtollglblkbjgjaaGx
import Derived.Test.YtollglblkbjgjaaGz
namespace Go.Proofs.Ytollglblkbjgjaa
open Go.RowKit

/-- where a result is none, it is a fault -/
def Fair {α : Type} (r : Res α) : Prop := ∀ er i, r = .bad er i → er ≠ 0
theorem fair_ok {α : Type} (k : α) (j : Nat) : Fair (.ok k j : Res α) := fun _ _ h => by cases h
theorem fair_bad {α : Type} {er : Int} (h : er ≠ 0) (j : Nat) : Fair (.bad er j : Res α) := fun _ _ e => by cases e; exact h
theorem fair_bind {α β : Type} {r : Res α} {f : α → Nat → Res β} (h : Fair r) (hf : ∀ k j, Fair (f k j)) : Fair (r.bind f) := by
  cases r with
  | ok k j => exact hf k j
  | bad er i => exact fair_bad (h er i rfl) i
theorem fair_ite {α : Type} {c : Prop} [Decidable c] {a b : Res α} (ha : Fair a) (hb : Fair b) : Fair (if c then a else b) := by
  by_cases h : c
  · rw [if_pos h]; exact ha
  · rw [if_neg h]; exact hb
theorem fair_grp (E : Env) {F : Nat → Res Nd} (hF : ∀ k, Fair (F k)) : ∀ g k acc, Fair (E.grpM F g k acc)
  | 0, k, _ => fair_bad (by decide) k
  | g + 1, k, acc => fair_ite (fair_ok _ _) (fair_bind (hF k) fun x j => fair_grp E hF g j _)
theorem fair_tail (E : Env) (a : Int) : ∀ g k kd, Fair (E.tailM a g k kd)
  | 0, _, _ => fair_ok _ _
  | g + 1, k, kd => by
    unfold Env.tailM
    refine fair_ite (fair_tail E a g _ _) ?_
    cases E.pow k with
    | none => exact fair_ok _ _
    | some n => exact fair_tail E a g _ _
theorem fair_idx (E : Env) {X : Nat → Res Nd} (hX : ∀ k, Fair (X k)) (a : Int) : ∀ g k kd, Fair (E.idxM X a g k kd)
  | 0, k, _ => fair_bad (by decide) k
  | g + 1, k, kd => fair_ite (fair_bind (hX _) fun x j => fair_ite (fair_idx E hX a g _ _) (fair_bad (by decide) _)) (fair_ok _ _)
theorem fair_lam (E : Env) {X : Nat → Bool → Res Nd} (hX : ∀ k b, Fair (X k b)) (i : Nat) : Fair (E.lamM X i) :=
  fair_bind (hX _ _) fun body j => fair_ite (fair_ite (fair_ok _ _) (fair_ite (fair_bad (by decide) _) (fair_ok _ _))) (fair_bad (by decide) _)
theorem fair_base (E : Env) {X F : Nat → Bool → Res Nd} (hX : ∀ k b, Fair (X k b)) (hF : ∀ k b, Fair (F k b)) (i : Nat) (b : Bool) : Fair (E.baseM X F i b) :=
  fair_ite (fair_lam E hX i) (fair_ite (fair_bind (fair_grp E (fun k => hF k b) _ _ _) fun _ _ => fair_ok _ _) (fair_ok _ _))
theorem fair_fun (E : Env) {X F : Nat → Bool → Res Nd} (hX : ∀ k b, Fair (X k b)) (hF : ∀ k b, Fair (F k b)) (i : Nat) (b : Bool) : Fair (E.funM X F i b) :=
  fair_bind (fair_base E hX hF _ _) fun _ _ => fair_tail E _ _ _ _
theorem fair_op (E : Env) {X : Nat → Res Nd} (hX : ∀ k, Fair (X k)) (i : Nat) (inn : Bool) : Fair (E.opM X i inn) := by
  unfold Env.opM
  cases E.L[i]? with
  | none => exact fair_bad (by decide) _
  | some t =>
    refine fair_bind ?_ fun _ _ => fair_idx E hX _ _ _ _
    exact fair_ite (fair_ok _ _) (fair_ite (fair_ite (fair_ok _ _) (fair_ite (fair_ok _ _) (fair_ite (fair_ok _ _) (fair_bad (by decide) _)))) (fair_ite (fair_bind (hX _) fun x j => fair_ite (fair_ok _ _) (fair_bad (by decide) _)) (fair_bad (by decide) _)))
theorem fair_ex (E : Env) {X : Nat → Bool → Res Nd} {F : Nat → Bool → Bool → Res Nd} (hX : ∀ k b, Fair (X k b)) (hF : ∀ k b c, Fair (F k b c)) (i : Nat) (inn : Bool) : Fair (E.exM X F i inn) := by
  unfold Env.exM
  cases E.skipF (E.L.length + 1) i false with
  | some _ => exact fair_bind (hF _ _ _) fun f j => fair_bind (hX _ _) fun x q => fair_ok _ _
  | none =>
    refine fair_bind (fair_op E (fun k => hX k inn) i inn) fun a j => fair_ite (fair_ok _ _) ?_
    cases E.skipF (E.L.length + 1) j true with
    | none => exact fair_bad (by decide) _
    | some _ =>
      refine fair_bind (hF _ _ _) fun f q => fair_ite ?_ (fair_bind (hX _ _) fun x r => fair_ok _ _)
      cases timesOf a.lit a.lit.c0 a.lit.n0 with
      | none => exact fair_bad (by decide) _
      | some m => exact fair_bind (hX _ _) fun x r => fair_ok _ _
theorem fair_go (E : Env) : ∀ f, (∀ k b, Fair ((E.go f).1 k b)) ∧ ∀ k b c, Fair ((E.go f).2 k b c)
  | 0 => ⟨fun k _ => fair_bad (by decide) k, fun k _ _ => fair_bad (by decide) k⟩
  | f + 1 => ⟨fun k b => fair_ex E (fair_go E f).1 (fair_go E f).2 k b, fun k b c => fair_fun E (fair_go E f).1 (fun k' c' => (fair_go E f).2 k' c' c) k b⟩
theorem parse_fair (E : Env) : Fair E.parseM := fair_bind ((fair_go E _).1 _ _) fun k j => fair_ite (fair_bad (by decide) _) (fair_ok _ _)
end Go.Proofs.Ytollglblkbjgjaa
namespace Go.Proofs.Ytollglblkbjgjaa
open Go.RowKit

def TrueTo (w : World) (e : Ending) (w' : World) : Prop := e = .returned (.bool true) ∧ Below w.heap.size w w'
def zeroNd : Nd := .mk 0 0 ⟨#[]⟩ Lt.zero [] 0
theorem zero_at (S : Nat → Prop) (w : World) : NdAt S w (.agg #[.int .i64 0, .int .i64 0, .string ⟨#[]⟩, .slice none 0 0, .slice none 0 0, .slice none 0 0, .int .i64 0]) zeroNd := by
  unfold zeroNd
  simp only [NdAt]
  exact ⟨none, 0, [], rfl, Nat.le_refl _, fun h => absurd h (by simp), by simp only [NdsAt]⟩
theorem zero_same (w : World) : Calls Try.prog 10 #[.agg #[.int .i64 0, .int .i64 0, .string ⟨#[]⟩, .slice none 0 0, .slice none 0 0, .slice none 0 0, .int .i64 0], .agg #[.int .i64 0, .int .i64 0, .string ⟨#[]⟩, .slice none 0 0, .slice none 0 0, .slice none 0 0, .int .i64 0]] w (TrueTo w) :=
  (same_any (S := fun _ => True) (T := fun _ => True) 1 zeroNd zeroNd _ _ w (by decide) (by decide) rfl (zero_at _ w) (zero_at _ w) (fun l hl => by
    simp only [zeroNd, Nd.lits, litss, List.mem_cons, List.not_mem_nil, or_false] at hl
    subst hl
    exact flat_zero w)).mono fun _ _ h => h
set_option maxRecDepth 100000 in
set_option maxHeartbeats 8000000 in
theorem bound_any (hw : ∀ W, Calls Try.prog 8 #[] W (TrueTo W)) (E : Env) (w : World) (hE : EnvRd w E) (hA : ArrsAt w E) (hts : ∀ (i : Nat) (t : Tok), E.L[i]? = some t → t.text.size ≤ 9223372036854775000) :
    Calls Try.prog 5 #[E.gramV, .slice E.lA E.L.length E.lc, .int .i64 E.en] w (TrueTo w) := by
  have HB0 := Lib.hid ((Below.refl _ w).alloc (Nat.le_refl _) (GB E))
  have HG := Lib.hid (blk_new w (GB E))
  have HLC := Lib.hid (light_any E (w.alloc (GB E)) (hE.below HB0.out) (hA.below HB0.out))
  have HE := Lib.hid hE
  have HTS := Lib.hid hts
  have HW := Lib.hid hw
  clear hE hA hts hw
  unfold Env.gramV GB at *
  go_enter Try.func5, Try.ntmps5
  go_wp2_with fail
  refine HLC.out.mono ?_
  rintro e w1 ⟨b, rfl, hb1, hbd⟩
  have HB1 := Lib.hid (below_then HB0.out HB0.out.size hb1)
  have HG1 := Lib.hid (blk_below HG.out hb1 (blk_lt HG.out))
  have HBD := Lib.hid hbd
  clear hb1 hbd HB0 HG HLC
  cases b with
  | false =>
    go_wp2_with fail
    refine (HW.out _).mono ?_
    rintro e w2 ⟨rfl, hb2⟩
    go_wp2
    refine bodyPost_ret (v := .bool true) (by simp [results, Try.results5, go_sem]) rfl ?_
    exact ⟨rfl, below_then HB1.out HB1.out.size hb2⟩
  | true =>
    obtain ⟨n1, n2, n3, n4⟩ := HBD.out rfl
    have HEN := Lib.hid (⟨HE.out.v.below HB1.out, HE.out.a.below HB1.out, HE.out.b.below HB1.out, HE.out.l.below HB1.out, by omega, by omega, by omega, by omega⟩ : EnvAt w1 E)
    have HPC := Lib.hid (parse_any E w1 HEN.out HTS.out)
    unfold Env.gramV at HPC
    clear HBD
    have g0 := blk_cell HG1.out 0
    have g1 := blk_cell HG1.out 1
    have g2 := blk_cell HG1.out 2
    have g3 := blk_cell HG1.out 3
    have g4 := blk_cell HG1.out 4
    have g5 := blk_cell HG1.out 5
    have g6 := blk_cell HG1.out 6
    have g7 := blk_cell HG1.out 7
    have g8 := blk_cell HG1.out 8
    have g9 := blk_cell HG1.out 9
    have g10 := blk_cell HG1.out 10
    have g11 := blk_cell HG1.out 11
    have g12 := blk_cell HG1.out 12
    have g13 := blk_cell HG1.out 13
    go_wp2_with fail
    refine HPC.out.mono ?_
    rintro e w2 ⟨hb2, hcase⟩
    have HB2 := Lib.hid (below_then HB1.out HB1.out.size hb2)
    clear hb2
    rcases hcase with ⟨er, ix, hbad, rfl⟩ | ⟨v, k, j, hgood, rfl, hnd, hsz, hj, -⟩
    · have her := parse_fair E er ix hbad
      have b1 : (er != 0) = true := bne_iff_ne.2 her
      unfold faultV
      clear her hbad
      go_wp2_with fail
      have hal := (HB2.out.alloc HB2.out.size (.cells #[.int .i64 0, .int .i64 0, .string ⟨#[]⟩, .slice none 0 0, .slice none 0 0, .slice none 0 0, .int .i64 0] 39)).alloc (by have := HB2.out.size; simp; omega) (.cells #[.int .i64 er, .int .i64 (E.here ix), .int .i64 0] 28)
      have HAL := Lib.hid hal
      clear hal
      refine (zero_same _).mono ?_
      rintro e w3 ⟨rfl, hb3⟩
      have HB3 := Lib.hid (below_then HAL.out HAL.out.size hb3)
      clear hb3
      go_wp2_with fail
      refine (HW.out _).mono ?_
      rintro e w4 ⟨rfl, hb4⟩
      go_wp2
      refine bodyPost_ret (v := .bool true) (by simp [results, Try.results5, go_sem]) rfl ?_
      exact ⟨rfl, below_then HB3.out HB3.out.size hb4⟩
    · unfold faultV
      obtain ⟨o, l, A, c, a, vs, rfl, hl, hc, hrow, hkids⟩ := hnd.form
      have HND := Lib.hid hnd
      clear hnd hrow hkids hgood hl
      have hal := (Below.refl _ w2).alloc (Nat.le_refl _) (.cells #[.int .i64 k.kind, .int .i64 o, .string k.name, .slice l.sA l.sn l.sc, .slice l.cA l.cn l.cc, .slice A k.kids.length c, .int .i64 a] 39)
      have hal := hal.alloc (by simp) (.cells #[.int .i64 0, .int .i64 0, .int .i64 0] 28)
      have HAL := Lib.hid hal
      have hk0 : (0 : Int) ≤ (k.size : Int) := by omega
      have hk1 : (k.size : Int) ≤ 600 := by omega
      have d1 : decide ((k.size : Int) ≤ 3 * (E.L.length : Int)) = true := decide_eq_true (by omega)
      have HK := Lib.hid (show k.size ≤ 600 by omega)
      clear hal hsz hj
      go_wp2_with fail
      refine (size_any 600 k _ _ HK.out (by decide) (HND.out.below HAL.out)).mono ?_
      rintro e w3 ⟨rfl, hb3⟩
      have HB3 := Lib.hid (below_then (below_then HB2.out HB2.out.size HAL.out) (Nat.le_trans HB2.out.size HAL.out.size) hb3)
      clear hb3
      go_wp2_with fail
      refine (HW.out _).mono ?_
      rintro e w4 ⟨rfl, hb4⟩
      go_wp2
      refine bodyPost_ret (v := .bool true) (by simp [results, Try.results5, go_sem]) rfl ?_
      exact ⟨rfl, below_then HB3.out HB3.out.size hb4⟩
end Go.Proofs.Ytollglblkbjgjaa
