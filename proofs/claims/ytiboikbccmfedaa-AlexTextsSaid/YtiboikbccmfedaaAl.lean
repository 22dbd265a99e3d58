/- A map literal's making, step by step. Conditions: none beyond each theorem's own. -/
import Derived.Test.YtiboikbccmfedaaAj
import Derived.Carry
import Derived.WideMake
import Derived.Laws.IdiomRangeMap
namespace Go.Proofs.Ytiboikbccmfedaa
open Go.RowKit

theorem put_next (W : World) (es : Array MapEntry) (n : Nat) (k : Int) (x : ByteArray) (hf : Instr.findNow (.int .i64) (.int .i64 k) es.toList 0 = some none) :
    (Instr.mapUpdate 73 (.map (some W.heap.size)) (.int .i64 k) (.string x)).run Try.prog (W.alloc (.map es n)) = .ok () (W.alloc (.map (es.push { key := .int .i64 k, val := .string x, born := n }) (n + 1))) := by
  have hb := heap_alloc_new W (.map es n)
  have hc : (Instr.checkKey false 10000 3 (.int .i64 k)).run Try.prog (W.alloc (.map es n)) = .ok () (W.alloc (.map es n)) := MapKept.run_checkKey (k := .int .i64 k) Try.underlying3 (by simp [MapKept.IsKey]) false 9999
  simp [Instr.mapUpdate, run_underlying Try.underlying73, MapKept.run_getObj_map hb, hc, MapKept.run_findKey Try.underlying3 hf, MapKept.run_setObj_map _ hb, Result.andThen]
  unfold World.alloc
  congr 1
  apply Array.toList_inj.1
  simp
end Go.Proofs.Ytiboikbccmfedaa
