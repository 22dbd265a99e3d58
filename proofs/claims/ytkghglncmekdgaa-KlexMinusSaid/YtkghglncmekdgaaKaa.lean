/- The law of the sign of less, walked: for every number and every text ahead it returns true. Conditions: the numbers' ranges. -/
import Derived.Test.YtkghglncmekdgaaKx
import Derived.Test.YtkghglncmekdgaaKy
import Derived.Test.YtkghglncmekdgaaKz
namespace Go.Proofs.Ytkghglncmekdgaa
open Go.RowKit

theorem minus_any (a0 a1 : Int) (w0 : (Lit.int .u32 a0).wf = true) (w1 : (Lit.int .u8 a1).wf = true) (w : World) : Calls Try.prog 5 #[.int .u32 a0, .int .u8 a1] w (fun e w' => e = .returned (.bool true) ∧ Below w.heap.size w w') := by
  have hr1 := bounds_u8 w1
  rcases (by omega : a1 % 12 = 0 ∨ a1 % 12 = 1 ∨ a1 % 12 = 2 ∨ a1 % 12 = 3 ∨ a1 % 12 = 4 ∨ a1 % 12 = 5 ∨ a1 % 12 = 6 ∨ a1 % 12 = 7 ∨ a1 % 12 = 8 ∨ a1 % 12 = 9 ∨ a1 % 12 = 10 ∨ a1 % 12 = 11) with h | h | h | h | h | h | h | h | h | h | h | h
  · exact minus_0 a0 a1 h w0 w1 w
  · exact minus_1 a0 a1 h w0 w1 w
  · exact minus_2 a0 a1 h w0 w1 w
  · exact minus_3 a0 a1 h w0 w1 w
  · exact minus_4 a0 a1 h w0 w1 w
  · exact minus_5 a0 a1 h w0 w1 w
  · exact minus_6 a0 a1 h w0 w1 w
  · exact minus_7 a0 a1 h w0 w1 w
  · exact minus_8 a0 a1 h w0 w1 w
  · exact minus_9 a0 a1 h w0 w1 w
  · exact minus_10 a0 a1 h w0 w1 w
  · exact minus_11 a0 a1 h w0 w1 w
end Go.Proofs.Ytkghglncmekdgaa
