/-
  The law FnExactTextOf: TextOf of the program returns what TextOf of the reference returns, for every int. No condition.
-/
import Derived.Test.YtgiihlbljopjkaaText
namespace Go.Proofs.Ytgiihlbljopjkaa.fnExactTextOf
open Go.ChangeShapes Go.WideShapes Go.ChangeAt Go.RowKit

theorem walk (a0 : Int) (w0 : (Lit.int .i64 a0).wf = true) (w : World) :
    Calls Try.prog 3 #[.int .i64 a0] w fun e w' => e = .returned (.bool true) ∧ Below w.heap.size w w' := by
  have hx : -9223372036854775808 ≤ a0 ∧ a0 ≤ 9223372036854775807 := by simpa [Lit.wf, IntKind.min, IntKind.max, IntKind.signed, IntKind.bits] using w0
  obtain ⟨h, h'⟩ := hx
  go_enter Try.func3, Try.ntmps3
  go_wp2_with fail
  refine (stext a0 w h h').mono ?_
  rintro e w1 ⟨rfl, hb⟩
  go_wp2_with fail
  refine (itext a0 _ h h').mono ?_
  rintro e w' ⟨rfl, rfl⟩
  go_wp2_with fail
  go_ret
  exact ⟨rfl, hb⟩
end Go.Proofs.Ytgiihlbljopjkaa.fnExactTextOf
