/- Contract of Parse: it gives the program that words are, or the fault. Conditions: grammar and words read in memory; a word's text is no longer than memory. -/
import Derived.Test.YtollglblkbjgjaaGr
import Derived.Recover
namespace Go.Proofs.Ytollglblkbjgjaa
open Go.RowKit

def faultV (er at_ : Int) : Value := .agg #[.int .i64 er, .int .i64 at_, .int .i64 0]
theorem below_set {B g : Nat} {w w' : World} (h : Below B w w') (hg : B ≤ g) (i : Nat) (u : Value) : Below B w (w'.setCell ⟨g, i, none⟩ u) :=
 ⟨h.os, h.tape, h.output, by simpa [World.setCell] using h.size, fun k hk => (Below.heap_setCell w' _ u k (by simp; omega)).trans (h.block k hk)⟩
theorem below_seven {B g : Nat} {w w' : World} (h : Below B w w') (hg : B ≤ g) (a0 a1 a2 a3 a4 a5 a6 : Value) : Below B w (sevenSet w' g a0 a1 a2 a3 a4 a5 a6) :=
 below_set (below_set (below_set (below_set (below_set (below_set (below_set h hg 0 a0) hg 1 a1) hg 2 a2) hg 3 a3) hg 4 a4) hg 5 a5) hg 6 a6
theorem three_blk {w : World} {B : Nat} {o0 o1 o2 : Value} (h0 : w.heap[B]? = some (.cells #[o0, o1, o2] 28 (0, 0))) (a0 a1 a2 : Value) : (((w.setCell ⟨B, 0, none⟩ a0).setCell ⟨B, 1, none⟩ a1).setCell ⟨B, 2, none⟩ a2).heap[B]? = some (.cells #[a0, a1, a2] 28 (0, 0)) := by
 have := blk_set (blk_set (blk_set h0 0 a0) 1 a1) 2 a2
 simpa using this
theorem assert28 (v : Value) (w : World) : (Instr.typeAssert (.iface 28 v) 20 28 true).run Try.prog w = .ok (.tuple #[v, .bool true]) w := by
 simp [Instr.typeAssert, run_underlying Try.underlying28, go_sem, Result.andThen]
set_option maxRecDepth 100000 in
set_option maxHeartbeats 4000000 in
theorem catch_fault (bn bf B : Nat) (er at_ : Int) (n0 n1 n2 n3 n4 n5 n6 f0 f1 f2 : Value) (older : List PanicEntry) (w : World) (hn : w.heap[bn]? = some (.cells #[n0, n1, n2, n3, n4, n5, n6] 39 (0, 0))) (hf : w.heap[bf]? = some (.cells #[f0, f1, f2] 28 (0, 0))) (hne : bn ≠ bf) (hB1 : B ≤ bn) (hB2 : B ≤ bf) :
  CallsD Try.prog 19 #[.pointer (some ⟨bn, 0, none⟩), .pointer (some ⟨bf, 0, none⟩)] (.panicking ({ v := .iface 28 (faultV er at_), recovered := false } :: older)) w fun e u' w' =>
   e = .returned (.tuple #[]) ∧ u' = .panicking ({ v := .iface 28 (faultV er at_), recovered := true } :: older) ∧ Below B w w' ∧ w'.heap[bn]? = some (.cells #[.int .i64 0, .int .i64 0, .string ⟨#[]⟩, .slice none 0 0, .slice none 0 0, .slice none 0 0, .int .i64 0] 39 (0, 0)) ∧ w'.heap[bf]? = some (.cells #[.int .i64 er, .int .i64 at_, .int .i64 0] 28 (0, 0)) := by
 unfold faultV
 have hbn := blk_lt hn
 have hbf := blk_lt hf
 refine callsD_of_wpS Try.func19 rfl fun c₀ cs hu => ?_
 apply wpS_seq
 apply wpS_region
 simp [wpOpsS, go_sem, recoverD, hu, Try.ntmps19, Exit.thenS]
 refine wpS_of_wp ?_
 rw [show ((#[.pointer (some ⟨bn, 0, none⟩), .pointer (some ⟨bf, 0, none⟩)] : Array Value) ++ ((Array.replicate 16 undef).setIfInBounds 3 (.iface 28 (.agg #[.int .i64 er, .int .i64 at_, .int .i64 0]))).setIfInBounds 0 (.iface 28 (.agg #[.int .i64 er, .int .i64 at_, .int .i64 0]))) = #[(.pointer (some ⟨bn, 0, none⟩)), (.pointer (some ⟨bf, 0, none⟩)), (.iface 28 (.agg #[.int .i64 er, .int .i64 at_, .int .i64 0])), undef, undef, (.iface 28 (.agg #[.int .i64 er, .int .i64 at_, .int .i64 0])), undef, undef, undef, undef, undef, undef, undef, undef, undef, undef, undef, undef] from rfl]
 refine Code.wp_mono (Q := fun e a w' => e = .normal ∧ a.defers = [] ∧ Below B w w' ∧ w'.heap[bn]? = some (.cells #[.int .i64 0, .int .i64 0, .string ⟨#[]⟩, .slice none 0 0, .slice none 0 0, .slice none 0 0, .int .i64 0] 39 (0, 0)) ∧ w'.heap[bf]? = some (.cells #[.int .i64 er, .int .i64 at_, .int .i64 0] 28 (0, 0))) ?_ ?_
 ·rintro e a w' ⟨rfl, h0, h1, h2, h3⟩
  simp [bodyPostS, results, Try.results19, h0, h1, h2, h3]
 ·have HN := Lib.hid hn
  have HF := Lib.hid hf
  have c0 := blk_cell hf 0
  have c1 := blk_cell hf 1
  have c2 := blk_cell hf 2
  have d0 := blk_cell hn 0
  have d1 := blk_cell hn 1
  have d2 := blk_cell hn 2
  have d3 := blk_cell hn 3
  have d4 := blk_cell hn 4
  have d5 := blk_cell hn 5
  have d6 := blk_cell hn 6
  have e0 := blk_frozen hf 0
  have e1 := blk_frozen hf 1
  have e2 := blk_frozen hf 2
  have g0 := blk_frozen hn 0
  have g1 := blk_frozen hn 1
  have g2 := blk_frozen hn 2
  have g3 := blk_frozen hn 3
  have g4 := blk_frozen hn 4
  have g5 := blk_frozen hn 5
  have g6 := blk_frozen hn 6
  have hta := assert28
  clear hn hf hu
  go_wp2
  go_region
  all_goals
   have hb := blk_drew (blk_alloc (blk_far (p := ⟨bf, 2, none⟩) (blk_far (p := ⟨bf, 1, none⟩) (blk_far (p := ⟨bf, 0, none⟩) (seven_blk HN.out (.int .i64 0) (.int .i64 0) (.string ⟨#[]⟩) (.slice none 0 0) (.slice none 0 0) (.slice none 0 0) (.int .i64 0)) (by simpa using hne) (.int .i64 er)) (by simpa using hne) (.int .i64 at_)) (by simpa using hne) (.int .i64 0)) (.cells #[.int .i64 er, .int .i64 at_, .int .i64 0] 28))
   have hc := blk_drew (blk_alloc (three_blk ((seven_heap w bn bf (Ne.symm hne) (.int .i64 0) (.int .i64 0) (.string ⟨#[]⟩) (.slice none 0 0) (.slice none 0 0) (.slice none 0 0) (.int .i64 0)).trans HF.out) (.int .i64 er) (.int .i64 at_) (.int .i64 0)) (.cells #[.int .i64 er, .int .i64 at_, .int .i64 0] 28))
   refine ⟨rfl, rfl, ?_, hb, hc⟩
   exact ((below_set (below_set (below_set (below_set (below_set (below_set (below_set (below_set (below_set (below_set (Below.refl B w) hB1 _ _) hB1 _ _) hB1 _ _) hB1 _ _) hB1 _ _) hB1 _ _) hB1 _ _) hB2 _ _) hB2 _ _) hB2 _ _).alloc (by simp [World.setCell]; omega) _).drew
set_option maxRecDepth 100000 in
set_option maxHeartbeats 4000000 in
theorem catch_idle (bn bf : Nat) (w : World) :
  CallsD Try.prog 19 #[.pointer (some ⟨bn, 0, none⟩), .pointer (some ⟨bf, 0, none⟩)] .returning w fun e u' w' => e = .returned (.tuple #[]) ∧ u' = .returning ∧ w' = w := by
 refine callsD_of_wpS Try.func19 rfl fun c₀ cs hu => ?_
 apply wpS_seq
 apply wpS_region
 simp [wpOpsS, go_sem, recoverD, hu, Try.ntmps19, Exit.thenS]
 refine wpS_of_wp ?_
 rw [show ((#[.pointer (some ⟨bn, 0, none⟩), .pointer (some ⟨bf, 0, none⟩)] : Array Value) ++ ((Array.replicate 16 undef).setIfInBounds 3 .nilIface).setIfInBounds 0 .nilIface) = #[(.pointer (some ⟨bn, 0, none⟩)), (.pointer (some ⟨bf, 0, none⟩)), .nilIface, undef, undef, .nilIface, undef, undef, undef, undef, undef, undef, undef, undef, undef, undef, undef, undef] from rfl]
 refine Code.wp_mono (Q := fun e a w' => e = .normal ∧ a.defers = [] ∧ w' = w) ?_ ?_
 ·rintro e a w' ⟨rfl, h0, rfl⟩
  cases c₀
  simp_all [bodyPostS, results, Try.results19]
 ·clear hu
  go_wp2

/-- a grammar as it is handed over -/
def Env.gramV (E : Env) : Value := .agg #[.slice E.vA E.vs.length E.vc, .slice E.aA E.as_.length E.ac, .slice E.bA E.bs.length E.bc, .string E.outer, .string E.power, .string E.open_, .string E.close, .string E.left, .string E.right, .string E.minus, .string E.quote, .bool E.trains, .bool E.lone, .bool E.square]
/-- the program that words are, or the fault and the word -/
def Env.parseM (E : Env) : Res Nd := (E.X 0 0 false).bind fun k j => if j < E.L.length then .bad 2 j else .ok k j
def ParseTo (E : Env) (w : World) (e : Ending) (w' : World) : Prop := Below w.heap.size w w' ∧
 ((∃ (er : Int) (ix : Nat), E.parseM = .bad er ix ∧ e = .returned (.tuple #[.agg #[.int .i64 0, .int .i64 0, .string ⟨#[]⟩, .slice none 0 0, .slice none 0 0, .slice none 0 0, .int .i64 0], faultV er (E.here ix)])) ∨
    ∃ (v : Value) (k : Nd) (j : Nat), E.parseM = .ok k j ∧ e = .returned (.tuple #[v, faultV 0 0]) ∧ NdAt (w.heap.size ≤ ·) w' v k ∧ k.size ≤ 2 * j ∧ j ≤ E.L.length ∧ Bal E.L 0 j)
theorem below_pm {E : Env} {bp p B : Nat} {d n : Int} {w w' : World} (h : PM E bp p d n w w') (hB : B ≤ bp) (hw : B ≤ w.heap.size) : Below B w w' :=
 ⟨h.1.os, h.1.tape, h.1.output, h.1.size, fun k hk => h.1.block k (by omega) (by intro e; cases e; omega)⟩
set_option maxRecDepth 100000 in
set_option maxHeartbeats 8000000 in
theorem parse_any (E : Env) (w : World) (hE : EnvAt w E) (hts : ∀ (i : Nat) (t : Tok), E.L[i]? = some t → t.text.size ≤ 9223372036854775000) :
  Calls Try.prog 9 #[E.gramV, .slice E.lA E.L.length E.lc, .int .i64 E.en] w (ParseTo E w) := by
 unfold Env.gramV
 have hln := hE.ln
 have hmf : ∀ (fn : Fn) (first cap : Array Value) (w : World), (Instr.makeFunc fn first cap).run Try.prog w = .ok (.func fn first cap) w := fun _ _ _ _ => rfl
 obtain ⟨W0, hW0⟩ : ∃ W0, (((w.alloc (.cells #[.slice E.vA E.vs.length E.vc, .slice E.aA E.as_.length E.ac, .slice E.bA E.bs.length E.bc, .string E.outer, .string E.power, .string E.open_, .string E.close, .string E.left, .string E.right, .string E.minus, .string E.quote, .bool E.trains, .bool E.lone, .bool E.square] 24)).alloc (.cells #[.int .i64 0, .int .i64 0, .string ⟨#[]⟩, .slice none 0 0, .slice none 0 0, .slice none 0 0, .int .i64 0] 39)).alloc (.cells #[.int .i64 0, .int .i64 0, .int .i64 0] 28)).alloc (pcell E 0 0 0) = W0 := ⟨_, rfl⟩
 have hb0 : Below w.heap.size w W0 := by rw [← hW0]; exact ((((Below.refl _ w).alloc (Nat.le_refl _) _).alloc (by simp) _).alloc (by simp; omega) _).alloc (by simp; omega) _
 have hp0 : W0.heap[w.heap.size + 1 + 1 + 1]? = some (pcell E 0 0 0) := by
  have := blk_new (((w.alloc (.cells #[.slice E.vA E.vs.length E.vc, .slice E.aA E.as_.length E.ac, .slice E.bA E.bs.length E.bc, .string E.outer, .string E.power, .string E.open_, .string E.close, .string E.left, .string E.right, .string E.minus, .string E.quote, .bool E.trains, .bool E.lone, .bool E.square] 24)).alloc (.cells #[.int .i64 0, .int .i64 0, .string ⟨#[]⟩, .slice none 0 0, .slice none 0 0, .slice none 0 0, .int .i64 0] 39)).alloc (.cells #[.int .i64 0, .int .i64 0, .int .i64 0] 28)) (pcell E 0 0 0)
  rw [hW0] at this
  simpa using this
 have hf0 : W0.heap[w.heap.size + 1 + 1]? = some (.cells #[.int .i64 0, .int .i64 0, .int .i64 0] 28 (0, 0)) := by
  have := blk_alloc (blk_new ((w.alloc (.cells #[.slice E.vA E.vs.length E.vc, .slice E.aA E.as_.length E.ac, .slice E.bA E.bs.length E.bc, .string E.outer, .string E.power, .string E.open_, .string E.close, .string E.left, .string E.right, .string E.minus, .string E.quote, .bool E.trains, .bool E.lone, .bool E.square] 24)).alloc (.cells #[.int .i64 0, .int .i64 0, .string ⟨#[]⟩, .slice none 0 0, .slice none 0 0, .slice none 0 0, .int .i64 0] 39)) (.cells #[.int .i64 0, .int .i64 0, .int .i64 0] 28)) (pcell E 0 0 0)
  rw [hW0] at this
  simpa using this
 have hn0 : W0.heap[w.heap.size + 1]? = some (.cells #[.int .i64 0, .int .i64 0, .string ⟨#[]⟩, .slice none 0 0, .slice none 0 0, .slice none 0 0, .int .i64 0] 39 (0, 0)) := by
  have := blk_alloc (blk_alloc (blk_new (w.alloc (.cells #[.slice E.vA E.vs.length E.vc, .slice E.aA E.as_.length E.ac, .slice E.bA E.bs.length E.bc, .string E.outer, .string E.power, .string E.open_, .string E.close, .string E.left, .string E.right, .string E.minus, .string E.quote, .bool E.trains, .bool E.lone, .bool E.square] 24)) (.cells #[.int .i64 0, .int .i64 0, .string ⟨#[]⟩, .slice none 0 0, .slice none 0 0, .slice none 0 0, .int .i64 0] 39)) (.cells #[.int .i64 0, .int .i64 0, .int .i64 0] 28)) (pcell E 0 0 0)
  rw [hW0] at this
  simpa using this
 have HS := Lib.hid (show Sits E (w.heap.size + 1 + 1 + 1) W0 from ⟨w, hE, by omega, hb0⟩)
 have HB := Lib.hid hb0
 have HP := Lib.hid (pm_refl hp0)
 have HN := Lib.hid hn0
 have HF := Lib.hid hf0
 have HTS := Lib.hid hts
 have HE := Lib.hid hE
 unfold pcell at hW0
 rw [show ((0 : Nat) : Int) = 0 from rfl] at hW0
 clear hE hts hb0 hp0 hf0 hn0
 go_enter_defers Try.func9, Try.ntmps9
 go_wp2_with fail
 clear hW0
 refine (expr_any E (w.heap.size + 1 + 1 + 1) HTS.out 0 0 W0 HS.out (Nat.zero_le _) (by omega) (by omega) HP.out.2).mono ?_
 rw [decide_eq_false (show ¬ (0 : Int) < 0 by omega)]
 rintro e w5 (ht | ⟨j, v, kd, rfl, hm5, hna, hij, hjl, hbal, hsz, hlit, hres⟩)
 ·obtain ⟨er, ix, p', d', n', hrb, rfl, hpm⟩ := ht
  have HRB := Lib.hid (show E.parseM = .bad er ix by rw [Env.parseM, hrb]; rfl)
  clear hrb
  go_wp2
  refine leaves_cons (f := 19) (args := #[.pointer (some ⟨w.heap.size + 1, 0, none⟩), .pointer (some ⟨w.heap.size + 1 + 1, 0, none⟩)]) (by simp) (by simp [go_sem]) ?_
  refine (catch_fault (w.heap.size + 1) (w.heap.size + 1 + 1) w.heap.size er (E.here ix) _ _ _ _ _ _ _ _ _ _ [] w5 (blk_pm HN.out hpm (by omega)) (blk_pm HF.out hpm (by omega)) (by omega) (by omega) (by omega)).mono ?_
  rintro e u' w'' ⟨rfl, rfl, hb2, hn2, hf2⟩
  have q0 := blk_cell hn2 0
  have q1 := blk_cell hn2 1
  have q2 := blk_cell hn2 2
  have q3 := blk_cell hn2 3
  have q4 := blk_cell hn2 4
  have q5 := blk_cell hn2 5
  have q6 := blk_cell hn2 6
  have r0 := blk_cell hf2 0
  have r1 := blk_cell hf2 1
  have r2 := blk_cell hf2 2
  have hbw := HB.out.trans ((below_pm hpm (B := w.heap.size) (by omega) HB.out.size).trans hb2)
  simp [Leaves, settle, results, Try.results9, go_sem, q0, q1, q2, q3, q4, q5, q6, r0, r1, r2]
  exact ⟨hbw, .inl ⟨er, ix, HRB.out, rfl⟩⟩
 ·obtain ⟨o, l, A, c, a, vs, rfl, -, -, -, -⟩ := hna.form
  have HM5 := Lib.hid hm5
  have HN5 := Lib.hid (blk_pm HN.out hm5 (by omega))
  have HF5 := Lib.hid (blk_pm HF.out hm5 (by omega))
  have HNA := Lib.hid hna
  have HBAL := Lib.hid hbal
  have HSZ := Lib.hid hsz
  have HRES := Lib.hid hres
  have hs0 := blk_lt HN.out
  have hs0f := blk_lt HF.out
  have hs5 : W0.heap.size ≤ w5.heap.size := hm5.1.size
  have hB := HB.out.size
  have c15 := blk_cell hm5.2 15
  have hbp5 := blk_lt hm5.2
  have hxr := blk_lt HN5.out
  have hfr := blk_lt HF5.out
  have x0 := blk_cell HN5.out 0
  have xf0 := blk_frozen HN5.out 0
  have x1 := blk_cell HN5.out 1
  have xf1 := blk_frozen HN5.out 1
  have x2 := blk_cell HN5.out 2
  have xf2 := blk_frozen HN5.out 2
  have x3 := blk_cell HN5.out 3
  have xf3 := blk_frozen HN5.out 3
  have x4 := blk_cell HN5.out 4
  have xf4 := blk_frozen HN5.out 4
  have x5 := blk_cell HN5.out 5
  have xf5 := blk_frozen HN5.out 5
  have x6 := blk_cell HN5.out 6
  have xf6 := blk_frozen HN5.out 6
  have y0 := blk_cell HF5.out 0
  have yf0 := blk_frozen HF5.out 0
  have y1 := blk_cell HF5.out 1
  have yf1 := blk_frozen HF5.out 1
  have y2 := blk_cell HF5.out 2
  have yf2 := blk_frozen HF5.out 2
  clear hm5 hna hbal hsz hlit hres
  have HW := Lib.hid (HB.out.trans (below_pm HM5.out (B := w.heap.size) (by omega) hB))
  rcases Nat.lt_or_ge j E.L.length with hlt | hge
  ·have d1 : decide ((j : Int) < (E.L.length : Int)) = true := decide_eq_true (by omega)
   have d2 : decide (j < E.L.length) = true := decide_eq_true hlt
   have HRB := Lib.hid (show E.parseM = .bad 2 j by rw [Env.parseM, HRES.out, Res.bind_ok, if_pos hlt])
   go_wp2_with fail
   have HW6 := Lib.hid (below_seven HW.out (g := w.heap.size + 1) (by omega) (.int .i64 kd.kind) (.int .i64 o) (.string kd.name) (.slice l.sA l.sn l.sc) (.slice l.cA l.cn l.cc) (.slice A kd.kids.length c) (.int .i64 a))
   have HP6 := Lib.hid ((seven_heap w5 (w.heap.size + 1) (w.heap.size + 1 + 1 + 1) (by omega) (.int .i64 kd.kind) (.int .i64 o) (.string kd.name) (.slice l.sA l.sn l.sc) (.slice l.cA l.cn l.cc) (.slice A kd.kids.length c) (.int .i64 a)).trans HM5.out.2)
   have HN6 := Lib.hid (seven_blk HN5.out (.int .i64 kd.kind) (.int .i64 o) (.string kd.name) (.slice l.sA l.sn l.sc) (.slice l.cA l.cn l.cc) (.slice A kd.kids.length c) (.int .i64 a))
   have HF6 := Lib.hid ((seven_heap w5 (w.heap.size + 1) (w.heap.size + 1 + 1) (by omega) (.int .i64 kd.kind) (.int .i64 o) (.string kd.name) (.slice l.sA l.sn l.sc) (.slice l.cA l.cn l.cc) (.slice A kd.kids.length c) (.int .i64 a)).trans HF5.out)
   obtain ⟨W6, hW6⟩ : ∃ W6, sevenSet w5 (w.heap.size + 1) (.int .i64 kd.kind) (.int .i64 o) (.string kd.name) (.slice l.sA l.sn l.sc) (.slice l.cA l.cn l.cc) (.slice A kd.kids.length c) (.int .i64 a) = W6 := ⟨_, rfl⟩
   rw [hW6] at HW6 HP6 HN6 HF6
   unfold sevenSet at hW6
   rw [hW6]
   clear hW6
   refine (fail_any E (w.heap.size + 1 + 1 + 1) j 0 0 j 2 W6 (HE.out.below HW6.out) HP6.out).mono ?_
   rintro e w7 ⟨rfl, hww⟩
   obtain rfl : W6 = w7 := hww.symm
   go_wp2
   refine leaves_cons (f := 19) (args := #[.pointer (some ⟨w.heap.size + 1, 0, none⟩), .pointer (some ⟨w.heap.size + 1 + 1, 0, none⟩)]) (by simp) (by simp [go_sem]) ?_
   refine (catch_fault (w.heap.size + 1) (w.heap.size + 1 + 1) w.heap.size 2 (E.here j) _ _ _ _ _ _ _ _ _ _ [] W6 HN6.out HF6.out (by omega) (by omega) (by omega)).mono ?_
   rintro e u' w'' ⟨rfl, rfl, hb2, hn2, hf2⟩
   have q0 := blk_cell hn2 0
   have q1 := blk_cell hn2 1
   have q2 := blk_cell hn2 2
   have q3 := blk_cell hn2 3
   have q4 := blk_cell hn2 4
   have q5 := blk_cell hn2 5
   have q6 := blk_cell hn2 6
   have r0 := blk_cell hf2 0
   have r1 := blk_cell hf2 1
   have r2 := blk_cell hf2 2
   have hbw := HW6.out.trans hb2
   simp [Leaves, settle, results, Try.results9, go_sem, q0, q1, q2, q3, q4, q5, q6, r0, r1, r2]
   exact ⟨hbw, .inl ⟨2, j, HRB.out, rfl⟩⟩
  ·have d1 : decide ((j : Int) < (E.L.length : Int)) = false := decide_eq_false (by omega)
   have d2 : decide (j < E.L.length) = false := decide_eq_false (by omega)
   have HRB := Lib.hid (show E.parseM = .ok kd j by rw [Env.parseM, HRES.out, Res.bind_ok, if_neg (by omega)])
   go_wp2_with fail
   have HW6 := Lib.hid (below_set (below_set (below_set (below_seven (below_seven HW.out (g := w.heap.size + 1) (by omega) (.int .i64 kd.kind) (.int .i64 o) (.string kd.name) (.slice l.sA l.sn l.sc) (.slice l.cA l.cn l.cc) (.slice A kd.kids.length c) (.int .i64 a)) (g := w.heap.size + 1) (by omega) (.int .i64 kd.kind) (.int .i64 o) (.string kd.name) (.slice l.sA l.sn l.sc) (.slice l.cA l.cn l.cc) (.slice A kd.kids.length c) (.int .i64 a)) (g := w.heap.size + 1 + 1) (by omega) 0 (.int .i64 0)) (g := w.heap.size + 1 + 1) (by omega) 1 (.int .i64 0)) (g := w.heap.size + 1 + 1) (by omega) 2 (.int .i64 0))
   have HN6 := Lib.hid (blk_far (p := ⟨w.heap.size + 1 + 1, 2, none⟩) (blk_far (p := ⟨w.heap.size + 1 + 1, 1, none⟩) (blk_far (p := ⟨w.heap.size + 1 + 1, 0, none⟩) (seven_blk (seven_blk HN5.out (.int .i64 kd.kind) (.int .i64 o) (.string kd.name) (.slice l.sA l.sn l.sc) (.slice l.cA l.cn l.cc) (.slice A kd.kids.length c) (.int .i64 a)) (.int .i64 kd.kind) (.int .i64 o) (.string kd.name) (.slice l.sA l.sn l.sc) (.slice l.cA l.cn l.cc) (.slice A kd.kids.length c) (.int .i64 a)) (by simp) (.int .i64 0)) (by simp) (.int .i64 0)) (by simp) (.int .i64 0))
   have HF6 := Lib.hid (three_blk (((seven_heap (sevenSet w5 (w.heap.size + 1) (.int .i64 kd.kind) (.int .i64 o) (.string kd.name) (.slice l.sA l.sn l.sc) (.slice l.cA l.cn l.cc) (.slice A kd.kids.length c) (.int .i64 a)) (w.heap.size + 1) (w.heap.size + 1 + 1) (by omega) (.int .i64 kd.kind) (.int .i64 o) (.string kd.name) (.slice l.sA l.sn l.sc) (.slice l.cA l.cn l.cc) (.slice A kd.kids.length c) (.int .i64 a))).trans ((seven_heap w5 (w.heap.size + 1) (w.heap.size + 1 + 1) (by omega) (.int .i64 kd.kind) (.int .i64 o) (.string kd.name) (.slice l.sA l.sn l.sc) (.slice l.cA l.cn l.cc) (.slice A kd.kids.length c) (.int .i64 a)).trans HF5.out)) (.int .i64 0) (.int .i64 0) (.int .i64 0))
   obtain ⟨W6, hW6⟩ : ∃ W6, (((sevenSet (sevenSet w5 (w.heap.size + 1) (.int .i64 kd.kind) (.int .i64 o) (.string kd.name) (.slice l.sA l.sn l.sc) (.slice l.cA l.cn l.cc) (.slice A kd.kids.length c) (.int .i64 a)) (w.heap.size + 1) (.int .i64 kd.kind) (.int .i64 o) (.string kd.name) (.slice l.sA l.sn l.sc) (.slice l.cA l.cn l.cc) (.slice A kd.kids.length c) (.int .i64 a)).setCell ⟨w.heap.size + 1 + 1, 0, none⟩ (.int .i64 0)).setCell ⟨w.heap.size + 1 + 1, 1, none⟩ (.int .i64 0)).setCell ⟨w.heap.size + 1 + 1, 2, none⟩ (.int .i64 0) = W6 := ⟨_, rfl⟩
   have HNA6 := Lib.hid (show NdAt (w.heap.size ≤ ·) W6 (.agg #[.int .i64 kd.kind, .int .i64 o, .string kd.name, .slice l.sA l.sn l.sc, .slice l.cA l.cn l.cc, .slice A kd.kids.length c, .int .i64 a]) kd by
    refine HNA.out.mono (by rw [← hW6]; simp [sevenSet, World.setCell]) (fun b (hb : W0.heap.size ≤ b) _ => ⟨by omega, ?_⟩)
    rw [← hW6, Below.heap_setCell _ _ _ b (by simp; omega), Below.heap_setCell _ _ _ b (by simp; omega), Below.heap_setCell _ _ _ b (by simp; omega), seven_heap _ _ _ (by omega), seven_heap _ _ _ (by omega)])
   rw [hW6] at HW6 HN6 HF6
   unfold sevenSet at hW6
   rw [hW6]
   clear hW6
   refine leaves_cons (f := 19) (args := #[.pointer (some ⟨w.heap.size + 1, 0, none⟩), .pointer (some ⟨w.heap.size + 1 + 1, 0, none⟩)]) (by simp) (by simp [go_sem]) ?_
   refine (catch_idle (w.heap.size + 1) (w.heap.size + 1 + 1) W6).mono ?_
   rintro e u' w'' ⟨rfl, rfl, hww⟩
   obtain rfl : W6 = w'' := hww.symm
   have q0 := blk_cell HN6.out 0
   have q1 := blk_cell HN6.out 1
   have q2 := blk_cell HN6.out 2
   have q3 := blk_cell HN6.out 3
   have q4 := blk_cell HN6.out 4
   have q5 := blk_cell HN6.out 5
   have q6 := blk_cell HN6.out 6
   have r0 := blk_cell HF6.out 0
   have r1 := blk_cell HF6.out 1
   have r2 := blk_cell HF6.out 2
   simp [Leaves, settle, results, Try.results9, go_sem, q0, q1, q2, q3, q4, q5, q6, r0, r1, r2]
   exact ⟨HW6.out, .inr ⟨_, kd, j, HRB.out, rfl, HNA6.out, by have := HSZ.out; omega, hjl, HBAL.out⟩⟩
end Go.Proofs.Ytollglblkbjgjaa
