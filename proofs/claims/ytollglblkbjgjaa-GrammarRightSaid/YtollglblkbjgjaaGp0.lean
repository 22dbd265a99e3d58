/- The loop over indexes behind an operand. -/
import Derived.Test.YtollglblkbjgjaaGo1
namespace Go.Proofs.Ytollglblkbjgjaa
open Go.RowKit

/-- the loop over indexes behind an operand, as it stands -/
def OLoop (E : Env) (bp : Nat) (R : Res Nd) (D n : Int) (i : Nat) (w : World) (bT bN : Nat) (at_ : Int) (g : Nat) (wr : World) : Prop :=
 ∃ (k : Nat) (kd : Nd) (o : Int) (l : Lt) (A : Option Addr) (c : Nat) (a : Int) (x0 x1 x2 x3 : Value), i < k ∧ k ≤ E.L.length ∧ E.L.length + 1 ≤ k + g ∧ PM E bp k D n w wr ∧ wr.heap[w.heap.size]? = some (.cells #[.int .i64 0, .int .i64 0, .string ⟨#[]⟩, .slice none 0 0, .slice none 0 0, .slice none 0 0, .int .i64 0] 39 (0, 0)) ∧
  wr.heap[bT]? = some (.cells #[x0, x1, x2, x3, .int .i64 at_] 43 (0, 0)) ∧ wr.heap[bN]? = some (.cells #[.int .i64 kd.kind, .int .i64 o, .string kd.name, .slice l.sA l.sn l.sc, .slice l.cA l.cn l.cc, .slice A kd.kids.length c, .int .i64 a] 39 (0, 0)) ∧ NdAt (fun b => w.heap.size < b ∧ b ≠ bN) wr (.agg #[.int .i64 kd.kind, .int .i64 o, .string kd.name, .slice l.sA l.sn l.sc, .slice l.cA l.cn l.cc, .slice A kd.kids.length c, .int .i64 a]) kd ∧ Bal E.L i k ∧ kd.size + 1 ≤ 2 * (k - i) ∧ LitOK E kd ∧ E.idxM (fun k => E.X D k (decide (0 < n))) at_ g k kd = R
theorem idxM_stop {E : Env} {X : Nat → Res Nd} {a : Int} {g k : Nat} {kd : Nd} (hg : 0 < g) (h : (E.square && E.is k 5 ⟨#[91]⟩) = false) : E.idxM X a g k kd = .ok kd k := by
 obtain ⟨g, rfl⟩ : ∃ x, g = x + 1 := ⟨g - 1, by omega⟩
 rw [Env.idxM, if_neg (by rw [h]; decide)]
end Go.Proofs.Ytollglblkbjgjaa
