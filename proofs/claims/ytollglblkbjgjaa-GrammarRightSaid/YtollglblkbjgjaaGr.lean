/- Contract of expr and of function, at every depth. Conditions: the parser's block; a word's text is no longer than memory. -/
import Derived.Test.YtollglblkbjgjaaGr1
import Derived.Test.YtollglblkbjgjaaGr2
import Derived.Test.YtollglblkbjgjaaGr6
import Derived.Test.YtollglblkbjgjaaGr7
import Derived.Test.YtollglblkbjgjaaGr8
import Derived.Test.YtollglblkbjgjaaGr9
import Derived.Test.YtollglblkbjgjaaGr10
import Derived.Test.YtollglblkbjgjaaGr11
import Derived.Test.YtollglblkbjgjaaGr12
import Derived.Test.YtollglblkbjgjaaGr13
namespace Go.Proofs.Ytollglblkbjgjaa
open Go.RowKit

set_option maxRecDepth 100000 in
set_option maxHeartbeats 4000000 in
theorem expr_deep (E : Env) (bp : Nat) (d : Int) (hd : 24 ≤ d) (hd2 : d ≤ 100) : ExprAt E bp d := by
 intro i n w hS hi hn0 hn hp
 have hbp := blk_lt hp
 have hmf : ∀ (fn : Fn) (first cap : Array Value) (w : World), (Instr.makeFunc fn first cap).run Try.prog w = .ok (.func fn first cap) w := fun _ _ _ _ => rfl
 have HS := Lib.hid hS
 have HM0 := Lib.hid (pm_alloc (pm_alloc (pm_refl hp) (.cells #[.pointer (some ⟨bp, 0, none⟩)] 54)) (.cells #[.int .i64 0, .int .i64 0, .string ⟨#[]⟩, .slice none 0 0, .slice none 0 0, .slice none 0 0, .int .i64 0] 39))
 obtain ⟨R, hRM⟩ : ∃ R, E.X d i (decide (0 < n)) = R := ⟨_, rfl⟩
 rw [hRM]
 have HRM := Lib.hid hRM
 clear hS hp hRM
 go_enter_defers Try.func20, Try.ntmps20
 go_wp2_with fail
 refine (down_any E bp i d n _ (HS.out.pm HM0.out) (by omega) (by omega) HM0.out.2).mono ?_
 rintro e w1 (⟨hd24, -, -⟩ | ⟨hdeep, rfl, hpm⟩)
 ·omega
 ·go_wp2
  show ExprPost E bp R i d n w (.panicked (faultChain 15 (E.here i))) w1
  exact .inl ⟨15, i, i, d + 1, n, HRM.out.symm.trans (Env.X_deep hdeep i _), rfl, pm_step HM0.out hpm⟩
set_option maxRecDepth 100000 in
set_option maxHeartbeats 4000000 in
theorem fun_deep (E : Env) (bp : Nat) (d : Int) (hd : 24 ≤ d) (hd2 : d ≤ 100) : FunAt E bp d := by
 intro f i b j n w hsk hS hi hn0 hn hp
 have hbp := blk_lt hp
 have hmf : ∀ (fn : Fn) (first cap : Array Value) (w : World), (Instr.makeFunc fn first cap).run Try.prog w = .ok (.func fn first cap) w := fun _ _ _ _ => rfl
 have HS := Lib.hid hS
 have HM0 := Lib.hid (pm_alloc (pm_alloc (pm_refl hp) (.cells #[.pointer (some ⟨bp, 0, none⟩)] 54)) (.cells #[.int .i64 0, .int .i64 0, .string ⟨#[]⟩, .slice none 0 0, .slice none 0 0, .slice none 0 0, .int .i64 0] 39))
 obtain ⟨R, hRM⟩ : ∃ R, E.F d i b (decide (0 < n)) = R := ⟨_, rfl⟩
 rw [hRM]
 have HRM := Lib.hid hRM
 clear hS hp hRM
 go_enter_defers Try.func33, Try.ntmps33
 go_wp2_with fail
 refine (down_any E bp i d n _ (HS.out.pm HM0.out) (by omega) (by omega) HM0.out.2).mono ?_
 rintro e w1 (⟨hd24, -, -⟩ | ⟨hdeep, rfl, hpm⟩)
 ·omega
 ·go_wp2
  show FunPost E bp R i j d n w (.panicked (faultChain 15 (E.here i))) w1
  exact .inl ⟨15, i, i, d + 1, n, HRM.out.symm.trans (Env.F_deep hdeep i b _), rfl, pm_step HM0.out hpm⟩

theorem expr_step (E : Env) (bp : Nat) (d : Int) (hX : ExprAt E bp (d + 1)) (hF : FunAt E bp (d + 1)) (hts : ∀ (i : Nat) (t : Tok), E.L[i]? = some t → t.text.size ≤ 9223372036854775000) (hd0 : 0 ≤ d) (hd : d < 24) : ExprAt E bp d := by
 intro i n w hS hi hn0 hn hp
 have hstep := Env.X_step hd i (decide (0 < n)) (E := E)
 rw [Env.exM] at hstep
 cases hsk : E.skipF (E.L.length + 1) i false with
 | some j =>
  rw [hsk] at hstep
  exact expr_mo E bp d hX hF hts hd0 hd i n w hS hi hn0 hn hp _ j hsk hstep.symm
 | none =>
  rw [hsk] at hstep
  dsimp only at hstep
  cases hop : E.opM (fun k => E.X (d + 1) k (decide (0 < n))) i (decide (0 < n)) with
  | bad er ix =>
   rw [hop, Res.bind_bad] at hstep
   exact expr_noop E bp d hX hF hts hd0 hd i n w hS hi hn0 hn hp _ hsk er ix hop hstep
  | ok ka j =>
   rw [hop, Res.bind_ok] at hstep
   cases he : E.ends j with
   | true =>
    rw [if_pos he] at hstep
    exact expr_op E bp d hX hF hts hd0 hd i n w hS hi hn0 hn hp _ hsk ka j hop he hstep
   | false =>
    rw [if_neg (by rw [he]; decide)] at hstep
    cases hsk2 : E.skipF (E.L.length + 1) j true with
    | none =>
     rw [hsk2] at hstep
     exact expr_nofn E bp d hX hF hts hd0 hd i n w hS hi hn0 hn hp _ hsk ka j hop he hsk2 hstep
    | some q0 =>
     rw [hsk2] at hstep
     dsimp only at hstep
     cases hfn : E.F (d + 1) j true (decide (0 < n)) with
     | bad er ix =>
      rw [hfn, Res.bind_bad] at hstep
      exact expr_badfn E bp d hX hF hts hd0 hd i n w hS hi hn0 hn hp _ hsk ka j hop he q0 hsk2 er ix hfn hstep
     | ok kd q =>
      rw [hfn, Res.bind_ok] at hstep
      cases hlone : E.lone with
      | false =>
       rw [if_neg (by rw [Env.lone1, hlone]; simp)] at hstep
       exact expr_dy0 E bp d hX hF hts hd0 hd i n w hS hi hn0 hn hp _ hsk ka j hop he q0 hsk2 kd q hfn hlone hstep.symm
      | true =>
       cases h24 : (kd.kind == 24) with
       | false =>
        rw [if_neg (by rw [Env.lone1, h24]; simp)] at hstep
        exact expr_dy1 E bp d hX hF hts hd0 hd i n w hS hi hn0 hn hp _ hsk ka j hop he q0 hsk2 kd q hfn hlone h24 hstep.symm
       | true =>
        cases hname : (kd.name.toList == [47]) with
        | false =>
         rw [if_neg (by rw [Env.lone1, hname]; simp)] at hstep
         exact expr_dy2 E bp d hX hF hts hd0 hd i n w hS hi hn0 hn hp _ hsk ka j hop he q0 hsk2 kd q hfn hlone h24 hname hstep.symm
        | true =>
         cases hk0 : kd.kids[0]? with
         | none =>
          have hb : E.lone1 kd ka = false := by
           rw [Env.lone1, List.head?_eq_getElem?, hk0]
           simp
          rw [if_neg (by rw [hb]; decide)] at hstep
          exact expr_dy5 E bp d hX hF hts hd0 hd i n w hS hi hn0 hn hp _ hsk ka j hop he q0 hsk2 kd q hfn h24 hk0 rfl
         | some k0 =>
          cases h22 : (k0.kind == 22) with
          | false =>
           rw [if_neg (by rw [Env.lone1, List.head?_eq_getElem?, hk0, Option.map_some, Option.some_beq_some, h22]; simp)] at hstep
           exact expr_dy3 E bp d hX hF hts hd0 hd i n w hS hi hn0 hn hp _ hsk ka j hop he q0 hsk2 kd q hfn hlone h24 hname k0 hk0 h22 hstep.symm
          | true =>
           cases h1 : (ka.kind == 1) with
           | false =>
            rw [if_neg (by rw [Env.lone1, h1]; simp)] at hstep
            exact expr_dy4 E bp d hX hF hts hd0 hd i n w hS hi hn0 hn hp _ hsk ka j hop he q0 hsk2 kd q hfn hlone h24 hname k0 hk0 h22 h1 hstep.symm
           | true =>
            rw [if_pos (by rw [Env.lone1, List.head?_eq_getElem?, hk0, Option.map_some, Option.some_beq_some, h22, h1, hlone, h24, hname]; rfl)] at hstep
            cases htm : timesOf ka.lit ka.lit.c0 ka.lit.n0 with
            | none =>
             rw [htm] at hstep
             exact expr_lone0 E bp d hX hF hts hd0 hd i n w hS hi hn0 hn hp _ hsk ka j hop he q0 hsk2 kd q hfn hlone h24 hname k0 hk0 h22 h1 htm hstep
            | some m =>
             rw [htm] at hstep
             exact expr_lone1 E bp d hX hF hts hd0 hd i n w hS hi hn0 hn hp _ hsk ka j hop he q0 hsk2 kd q hfn hlone h24 hname k0 hk0 h22 h1 m htm hstep.symm
/-- expressions and functions, at every depth -/
theorem both_any (E : Env) (bp : Nat) (hts : ∀ (i : Nat) (t : Tok), E.L[i]? = some t → t.text.size ≤ 9223372036854775000) : ∀ k : Nat, k ≤ 24 → ExprAt E bp (24 - (k : Int)) ∧ FunAt E bp (24 - (k : Int))
 | 0, _ => ⟨expr_deep E bp _ (by omega) (by omega), fun_deep E bp _ (by omega) (by omega)⟩
 | k + 1, h => by
  obtain ⟨h1, h2⟩ := both_any E bp hts k (by omega)
  rw [show (24 : Int) - (k : Int) = 24 - ((k + 1 : Nat) : Int) + 1 by omega] at h1 h2
  exact ⟨expr_step E bp _ h1 h2 hts (by omega) (by omega), function_any E bp _ h1 h2 (by omega) (by omega)⟩
theorem expr_any (E : Env) (bp : Nat) (hts : ∀ (i : Nat) (t : Tok), E.L[i]? = some t → t.text.size ≤ 9223372036854775000) : ExprAt E bp 0 := by
 have := (both_any E bp hts 24 (Nat.le_refl _)).1
 simpa using this
end Go.Proofs.Ytollglblkbjgjaa
