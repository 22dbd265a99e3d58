/- Contracts of fail, down, here, take and of the closures that go up again. Conditions: the grammar and the words read in memory; the parser's block. -/
import Derived.Test.YtollglblkbjgjaaGe
import Derived.WalkLawsBesides
import Derived.Defers
namespace Go.Proofs.Ytollglblkbjgjaa
open Go.RowKit

theorem grown_set {w w' : World} {g i : Nat} {u : Value} (h : w.grownBy w' (some g)) : w.grownBy (w'.setCell ⟨g, i, none⟩ u) (some g) :=
 ⟨h.os, h.tape, h.output, by simpa [World.setCell] using h.size, fun j hj hne => (Below.heap_setCell w' _ u j (by intro e; exact hne (by rw [e]))).trans (h.block j hj hne)⟩
/-- what a step of the parser turns: its own block -/
def PM (E : Env) (bp p : Nat) (d n : Int) (w w' : World) : Prop := w.grownBy w' (some bp) ∧ w'.heap[bp]? = some (pcell E p d n)
theorem pm_refl {E : Env} {bp p : Nat} {d n : Int} {w : World} (h : w.heap[bp]? = some (pcell E p d n)) : PM E bp p d n w w := ⟨⟨rfl, rfl, rfl, Nat.le_refl _, fun _ _ _ => rfl⟩, h⟩
theorem pm_step {E : Env} {bp p q : Nat} {d n d' n' : Int} {w w' w'' : World} (h : PM E bp p d n w w') (k : PM E bp q d' n' w' w'') : PM E bp q d' n' w w'' := ⟨h.1.trans k.1, k.2⟩
theorem pm_below {E : Env} {bp p : Nat} {d n : Int} {w w' w'' : World} (h : PM E bp p d n w w') (k : Below w'.heap.size w' w'') : PM E bp p d n w w'' := by
 have hb := blk_lt h.2
 refine ⟨⟨k.os.trans h.1.os, k.tape.trans h.1.tape, k.output.trans h.1.output, Nat.le_trans h.1.size k.size, fun j hj hne => (k.block j (Nat.lt_of_lt_of_le hj h.1.size)).trans (h.1.block j hj hne)⟩, blk_below h.2 k hb⟩
theorem pm_alloc {E : Env} {bp p : Nat} {d n : Int} {w w' : World} (h : PM E bp p d n w w') (o : Obj) : PM E bp p d n w (w'.alloc o) := pm_below h ((Below.refl _ _).alloc (Nat.le_refl _) o)
theorem pm_drewN {E : Env} {bp p : Nat} {d n : Int} {w w' : World} (h : PM E bp p d n w w') (k : Nat) : PM E bp p d n w (w'.drewN k) := ⟨⟨h.1.os, h.1.tape, h.1.output, h.1.size, h.1.block⟩, h.2⟩
theorem pm_drew {E : Env} {bp p : Nat} {d n : Int} {w w' : World} (h : PM E bp p d n w w') : PM E bp p d n w w'.drew := ⟨⟨h.1.os, h.1.tape, h.1.output, h.1.size, h.1.block⟩, h.2⟩
theorem pm_undrew {E : Env} {bp p : Nat} {d n : Int} {w w' : World} (h : PM E bp p d n w.drew w') : PM E bp p d n w w' := ⟨⟨h.1.os, h.1.tape, h.1.output, h.1.size, h.1.block⟩, h.2⟩
theorem pm_place {E : Env} {bp p : Nat} {d n : Int} {w w' : World} (h : PM E bp p d n w w') (q : Nat) : PM E bp q d n w (w'.setCell ⟨bp, 15, none⟩ (.int .i64 (q : Int))) := by
 refine ⟨grown_set h.1, ?_⟩
 have := blk_set h.2 15 (.int .i64 (q : Int))
 simpa [pcell] using this
theorem pm_deep {E : Env} {bp p : Nat} {d n : Int} {w w' : World} (h : PM E bp p d n w w') (x : Int) : PM E bp p x n w (w'.setCell ⟨bp, 17, none⟩ (.int .i64 x)) := by
 refine ⟨grown_set h.1, ?_⟩
 have := blk_set h.2 17 (.int .i64 x)
 simpa [pcell] using this
theorem pm_in {E : Env} {bp p : Nat} {d n : Int} {w w' : World} (h : PM E bp p d n w w') (x : Int) : PM E bp p d x w (w'.setCell ⟨bp, 18, none⟩ (.int .i64 x)) := by
 refine ⟨grown_set h.1, ?_⟩
 have := blk_set h.2 18 (.int .i64 x)
 simpa [pcell] using this
/-- a store into a block that is newer than all that was there -/
theorem pm_new {E : Env} {bp p : Nat} {d n : Int} {w w' : World} {B : Nat} (h : PM E bp p d n w w') (hB : w.heap.size ≤ B) (hg : bp < w.heap.size) (i : Nat) (u : Value) : PM E bp p d n w (w'.setCell ⟨B, i, none⟩ u) :=
 ⟨⟨h.1.os, h.1.tape, h.1.output, by simpa [World.setCell] using h.1.size, fun j hj hne => (Below.heap_setCell w' _ u j (by simp; omega)).trans (h.1.block j hj hne)⟩, blk_far h.2 (by simp; omega) u⟩
theorem pm_own {E : Env} {bp p : Nat} {d n : Int} {w w' w'' : World} {r : Option Nat} (h : PM E bp p d n w w') (hw : w'.grownBy w'' r) (hg : bp < w.heap.size) (hr : ∀ b, r = some b → w.heap.size ≤ b) : PM E bp p d n w w'' := by
 have hne : ∀ b, b < w.heap.size → r ≠ some b := fun b hb e => by have := hr b e; omega
 exact ⟨⟨hw.os.trans h.1.os, hw.tape.trans h.1.tape, hw.output.trans h.1.output, Nat.le_trans h.1.size hw.size, fun j hj hn => (hw.block j (Nat.lt_of_lt_of_le hj h.1.size) (fun e => hne j hj e.symm)).trans (h.1.block j hj hn)⟩, blk_grown h.2 hw (hne bp hg)⟩

/-- grammar and words lie below the parser's block -/
def Sits (E : Env) (bp : Nat) (w : World) : Prop := ∃ w0, EnvAt w0 E ∧ w0.heap.size ≤ bp ∧ Below w0.heap.size w0 w
theorem Sits.env {E : Env} {bp : Nat} {w : World} (h : Sits E bp w) : EnvAt w E := by
 obtain ⟨w0, h1, _, h3⟩ := h
 exact h1.below h3
theorem Sits.below {E : Env} {bp : Nat} {w w' : World} (h : Sits E bp w) (hb : Below w.heap.size w w') : Sits E bp w' := by
 obtain ⟨w0, h1, h2, h3⟩ := h
 exact ⟨w0, h1, h2, below_then h3 h3.size hb⟩
theorem Sits.pm {E : Env} {bp p : Nat} {d n : Int} {w w' : World} (h : Sits E bp w) (hm : PM E bp p d n w w') : Sits E bp w' := by
 obtain ⟨w0, h1, h2, h3⟩ := h
 exact ⟨w0, h1, h2, h3.grown hm.1 h3.size (fun r hr => by cases hr; exact h2)⟩
/-- a fault as it is thrown -/
def faultChain (er at_ : Int) : List PanicEntry := [{ v := .iface 28 (.agg #[.int .i64 er, .int .i64 at_, .int .i64 0]), recovered := false }]
def Fails (er at_ : Int) (w : World) (e : Ending) (w' : World) : Prop := e = .panicked (faultChain er at_) ∧ w' = w
/-- where a word begins -/
def Env.here (E : Env) (i : Nat) : Int := match E.L[i]? with
 | some t => t.at_
 | none => E.en
/-- what reading gives: a part and the word behind it, or a fault at a word -/
inductive Res (α : Type) where
 | ok (k : α) (j : Nat)
 | bad (er : Int) (i : Nat)
/-- a fault was thrown: the parser's block is still one -/
def Threw {α : Type} (E : Env) (bp : Nat) (R : Res α) (w : World) (e : Ending) (w' : World) : Prop := ∃ (er : Int) (ix p : Nat) (d n : Int), R = .bad er ix ∧ e = .panicked (faultChain er (E.here ix)) ∧ PM E bp p d n w w'
set_option maxRecDepth 100000 in
set_option maxHeartbeats 2000000 in
theorem fail_any (E : Env) (bp : Nat) (p : Nat) (d n : Int) (i : Nat) (er : Int) (w : World) (hE : EnvAt w E) (hp : w.heap[bp]? = some (pcell E p d n)) :
  Calls Try.prog 21 #[.pointer (some ⟨bp, 0, none⟩), .int .i64 er, .int .i64 (i : Int)] w (Fails er (E.here i) w) := by
 have c14 := blk_cell hp 14
 have c16 := blk_cell hp 16
 have hln := hE.ln
 rcases Nat.lt_or_ge i E.L.length with hlt | hge
 ·obtain ⟨t, b, off, ht, hA, hk⟩ := hE.tok hlt
  have k4 := hk.k4
  rw [hA] at c14
  have hi0 : (0 : Int) ≤ (i : Int) := by omega
  have hi1 : (i : Int) < (E.L.length : Int) := by omega
  have d1 : decide (i < E.L.length) = true := decide_eq_true hlt
  have HE := Lib.hid (show E.here i = t.at_ by rw [Env.here, ht])
  clear hp hE hk ht hA
  go_enter Try.func21, Try.ntmps21
  go_wp2
  exact ⟨rfl, by rw [← HE.out]; rfl, rfl⟩
 ·have d1 : decide (i < E.L.length) = false := decide_eq_false (by omega)
  have d2 : decide ((i : Int) < (E.L.length : Int)) = false := decide_eq_false (by omega)
  have HE := Lib.hid (show E.here i = E.en by rw [Env.here, List.getElem?_eq_none hge])
  clear hp hE
  go_enter Try.func21, Try.ntmps21
  go_wp2
  exact ⟨rfl, by rw [← HE.out]; rfl, rfl⟩
def DownTo (E : Env) (bp p : Nat) (d n : Int) (w : World) (e : Ending) (w' : World) : Prop := (d < 24 ∧ e = .returned (.tuple #[]) ∧ PM E bp p (d + 1) n w w') ∨ (24 ≤ d ∧ e = .panicked (faultChain 15 (E.here p)) ∧ PM E bp p (d + 1) n w w')
set_option maxRecDepth 100000 in
set_option maxHeartbeats 2000000 in
theorem down_any (E : Env) (bp : Nat) (p : Nat) (d n : Int) (w : World) (hE : Sits E bp w) (hd0 : 0 ≤ d) (hd1 : d ≤ 1000) (hp : w.heap[bp]? = some (pcell E p d n)) :
  Calls Try.prog 29 #[.pointer (some ⟨bp, 0, none⟩)] w (DownTo E bp p d n w) := by
 have c15 := blk_cell hp 15
 have c17 := blk_cell hp 17
 have f17 := blk_frozen hp 17
 have hw : IntKind.i64.wrap (d + 1) = d + 1 := wraps_i64 _ (by omega) (by omega)
 have hm := pm_deep (pm_refl hp) (d + 1)
 have HM := Lib.hid hm
 have HE := Lib.hid hE
 have hbp := blk_lt hp
 clear hp hE hm
 by_cases h24 : d < 24
 ·have d1 : decide (24 < d + 1) = false := decide_eq_false (by omega)
  have d2 : decide ((24 : Int) < d + 1) = false := decide_eq_false (by omega)
  go_enter Try.func29, Try.ntmps29
  go_wp2_with fail
  refine bodyPost_ret (v := .tuple #[]) (by simp [results, Try.results29, go_sem]) rfl ?_
  exact .inl ⟨h24, rfl, HM.out⟩
 ·have d1 : decide (24 < d + 1) = true := decide_eq_true (by omega)
  have d2 : decide ((24 : Int) < d + 1) = true := decide_eq_true (by omega)
  go_enter Try.func29, Try.ntmps29
  go_wp2_with fail
  refine (fail_any E bp p (d + 1) n p 15 _ (HE.out.pm HM.out).env HM.out.2).mono ?_
  rintro e w2 ⟨rfl, rfl⟩
  go_wp2
  exact ⟨rfl, .inr ⟨by omega, rfl, HM.out⟩⟩
def SomeNum (x : Int) (w : World) (e : Ending) (w' : World) : Prop := ∃ (a : Int) (k : Nat), e = .returned (.int .i64 a) ∧ w' = w.drewN k ∧ x = a
set_option maxRecDepth 100000 in
set_option maxHeartbeats 2000000 in
theorem here_any (E : Env) (bp : Nat) (p : Nat) (d n : Int) (w : World) (hE : EnvAt w E) (hp : w.heap[bp]? = some (pcell E p d n)) :
  Calls Try.prog 31 #[.pointer (some ⟨bp, 0, none⟩)] w (SomeNum (E.here p) w) := by
 have c14 := blk_cell hp 14
 have c15 := blk_cell hp 15
 have c16 := blk_cell hp 16
 have hln := hE.ln
 rcases Nat.lt_or_ge p E.L.length with hlt | hge
 ·obtain ⟨t, b, off, ht, hA, hk⟩ := hE.tok hlt
  have k4 := hk.k4
  rw [hA] at c14
  have hi0 : (0 : Int) ≤ (p : Int) := by omega
  have hi1 : (p : Int) < (E.L.length : Int) := by omega
  have d1 : decide (p < E.L.length) = true := decide_eq_true hlt
  have HE := Lib.hid (show E.here p = t.at_ by rw [Env.here, ht])
  clear hp hE hk ht hA
  go_enter Try.func31, Try.ntmps31
  go_wp2
  go_quiet (fail)
  go_wp2
  go_quiet (fail)
  go_wp2
  refine bodyPost_ret (v := .int .i64 t.at_) (by simp [results, Try.results31, go_sem]) rfl ?_
  exact ⟨_, _, rfl, World.drewN_drewN _ _ _, HE.out⟩
 ·have d1 : decide (p < E.L.length) = false := decide_eq_false (by omega)
  have d2 : decide ((p : Int) < (E.L.length : Int)) = false := decide_eq_false (by omega)
  have HE := Lib.hid (show E.here p = E.en by rw [Env.here, List.getElem?_eq_none hge])
  clear hp hE
  go_enter Try.func31, Try.ntmps31
  go_wp2
  go_quiet (fail)
  go_wp2
  refine bodyPost_ret (v := .int .i64 E.en) (by simp [results, Try.results31, go_sem]) rfl ?_
  exact ⟨_, _, rfl, rfl, HE.out⟩
def TakeTo (E : Env) (bp p : Nat) (d n : Int) (kind : Int) (text : ByteArray) (w : World) (e : Ending) (w' : World) : Prop := (E.is p kind text = true ∧ e = .returned (.tuple #[]) ∧ PM E bp (p + 1) d n w w') ∨ (E.is p kind text = false ∧ e = .panicked (faultChain 2 (E.here p)) ∧ PM E bp p d n w w')
set_option maxRecDepth 100000 in
set_option maxHeartbeats 2000000 in
theorem take_any (E : Env) (bp : Nat) (p : Nat) (d n : Int) (kind : Int) (text : ByteArray) (w : World) (hE : Sits E bp w) (hpl : p ≤ E.L.length) (hp : w.heap[bp]? = some (pcell E p d n)) :
  Calls Try.prog 62 #[.pointer (some ⟨bp, 0, none⟩), .int .i64 kind, .string text] w (TakeTo E bp p d n kind text w) := by
 have c15 := blk_cell hp 15
 have f15 := blk_frozen hp 15
 have hln := hE.env.ln
 have hm := pm_place (pm_refl hp) (p + 1)
 obtain ⟨q, hq⟩ : ∃ q, p + 1 = q := ⟨_, rfl⟩
 rw [hq] at hm
 have hw : IntKind.i64.wrap ((p : Int) + 1) = (q : Int) := (wraps_i64 _ (by omega) (by omega)).trans (by omega)
 have HM := Lib.hid hm
 have HE := Lib.hid hE
 have HI := Lib.hid (is_any E bp p d n p kind text w hE.env hp)
 have HP := Lib.hid hp
 have hbp := blk_lt hp
 have HQ := Lib.hid hq
 clear hp hE hm hq
 cases bi : E.is p kind text
 ·rw [bi] at HI
  have BI := Lib.hid bi
  clear bi
  go_enter Try.func62, Try.ntmps62
  go_wp2_with fail
  refine HI.out.mono ?_
  rintro e w2 ⟨rfl, rfl⟩
  go_wp2_with fail
  refine (fail_any E bp p d n p 2 _ HE.out.env HP.out).mono ?_
  rintro e w3 ⟨rfl, rfl⟩
  go_wp2
  exact ⟨rfl, .inr ⟨BI.out, rfl, pm_refl HP.out⟩⟩
 ·rw [bi] at HI
  have BI := Lib.hid bi
  clear bi
  go_enter Try.func62, Try.ntmps62
  go_wp2_with fail
  refine HI.out.mono ?_
  rintro e w2 ⟨rfl, rfl⟩
  go_wp2
  refine bodyPost_ret (v := .tuple #[]) (by simp [results, Try.results62, go_sem]) rfl ?_
  exact .inl ⟨BI.out, rfl, by rw [HQ.out]; exact HM.out⟩

/-- what the closures do that go up again: the cell that holds the parser lies newer than its block -/
def UpTo (E : Env) (bp p : Nat) (d n : Int) (w : World) (e : Ending) (w' : World) : Prop := e = .returned (.tuple #[]) ∧ PM E bp p (wrap64 (d - 1)) n w w'
theorem up30 (E : Env) (bp p : Nat) (d n : Int) (bc : Nat) (u : FrameMode) (w : World) (hc : w.cell? ⟨bc, 0, none⟩ = some (.pointer (some ⟨bp, 0, none⟩))) (hp : w.heap[bp]? = some (pcell E p d n)) :
  CallsD Try.prog 30 #[.pointer (some ⟨bc, 0, none⟩)] u w (fun e u' w' => u' = u ∧ UpTo E bp p d n w e w') := by
 have c17 := blk_cell hp 17
 have f17 := blk_frozen hp 17
 have HM := Lib.hid (pm_deep (pm_refl hp) (wrap64 (d - 1)))
 clear hp
 go_enter_d Try.func30, Try.ntmps30
 go_wp2
 refine bodyPost_ret (v := .tuple #[]) (by simp [results, Try.results30, go_sem]) rfl ?_
 exact ⟨rfl, HM.out⟩
theorem up59 (E : Env) (bp p : Nat) (d n : Int) (bc : Nat) (u : FrameMode) (w : World) (hc : w.cell? ⟨bc, 0, none⟩ = some (.pointer (some ⟨bp, 0, none⟩))) (hp : w.heap[bp]? = some (pcell E p d n)) :
  CallsD Try.prog 59 #[.pointer (some ⟨bc, 0, none⟩)] u w (fun e u' w' => u' = u ∧ UpTo E bp p d n w e w') := by
 have c17 := blk_cell hp 17
 have f17 := blk_frozen hp 17
 have HM := Lib.hid (pm_deep (pm_refl hp) (wrap64 (d - 1)))
 clear hp
 go_enter_d Try.func59, Try.ntmps59
 go_wp2
 refine bodyPost_ret (v := .tuple #[]) (by simp [results, Try.results59, go_sem]) rfl ?_
 exact ⟨rfl, HM.out⟩
end Go.Proofs.Ytollglblkbjgjaa
