/-
  DeedOk of the program and of the reference.
-/
import Derived.Test.YtdejncnjaebjfaaDoorDeedS1
import Derived.Test.YtdejncnjaebjfaaDoorDeedS2
import Derived.Test.YtdejncnjaebjfaaDoorDeedI1
import Derived.Test.YtdejncnjaebjfaaDoorDeedI2
namespace Go.Proofs.YtdejncnjaebjfaaDoor
set_option linter.unusedVariables false
set_option linter.unusedSimpArgs false
open Go.ChangeShapes Go.WideShapes Go.ChangeAt Go.RowKit
theorem sdeedok (x : MDeed) (w : World) :
    Calls Tryd.prog 22 #[.agg #[.int .i64 x.kind, .int .i64 x.at_, .int .i64 x.to, .int .i64 x.lo, .int .i64 x.hi, .int .i64 x.key, .int .i64 x.value]] w fun e w' => e = .returned (.bool (deedOk x)) ∧ Below w.heap.size w w' := by
  obtain ⟨k, a, t, l, h, y, v⟩ := x
  by_cases hk : k < 1 ∨ 15 < k
  · exact sdeed_o k a t l h y v w hk
  · have : k = 1 ∨ k = 2 ∨ k = 3 ∨ k = 4 ∨ k = 5 ∨ k = 6 ∨ k = 7 ∨ k = 8 ∨ k = 9 ∨ k = 10 ∨ k = 11 ∨ k = 12 ∨ k = 13 ∨ k = 14 ∨ k = 15 := by omega
    clear hk
    rcases this with rfl | rfl | rfl | rfl | rfl | rfl | rfl | rfl | rfl | rfl | rfl | rfl | rfl | rfl | rfl
    · exact sdeed_1 a t l h y v w
    · exact sdeed_2 a t l h y v w
    · exact sdeed_3 a t l h y v w
    · exact sdeed_4 a t l h y v w
    · exact sdeed_5 a t l h y v w
    · exact sdeed_6 a t l h y v w
    · exact sdeed_7 a t l h y v w
    · exact sdeed_8 a t l h y v w
    · exact sdeed_9 a t l h y v w
    · exact sdeed_10 a t l h y v w
    · exact sdeed_11 a t l h y v w
    · exact sdeed_12 a t l h y v w
    · exact sdeed_13 a t l h y v w
    · exact sdeed_14 a t l h y v w
    · exact sdeed_15 a t l h y v w
theorem ideedok (x : MDeed) (w : World) :
    Calls Tryd.prog 24 #[.agg #[.int .i64 x.kind, .int .i64 x.at_, .int .i64 x.to, .int .i64 x.lo, .int .i64 x.hi, .int .i64 x.key, .int .i64 x.value]] w fun e w' => e = .returned (.bool (deedOk x)) ∧ Below w.heap.size w w' := by
  obtain ⟨k, a, t, l, h, y, v⟩ := x
  by_cases hk : k < 1 ∨ 15 < k
  · exact ideed_o k a t l h y v w hk
  · have : k = 1 ∨ k = 2 ∨ k = 3 ∨ k = 4 ∨ k = 5 ∨ k = 6 ∨ k = 7 ∨ k = 8 ∨ k = 9 ∨ k = 10 ∨ k = 11 ∨ k = 12 ∨ k = 13 ∨ k = 14 ∨ k = 15 := by omega
    clear hk
    rcases this with rfl | rfl | rfl | rfl | rfl | rfl | rfl | rfl | rfl | rfl | rfl | rfl | rfl | rfl | rfl
    · exact ideed_1 a t l h y v w
    · exact ideed_2 a t l h y v w
    · exact ideed_3 a t l h y v w
    · exact ideed_4 a t l h y v w
    · exact ideed_5 a t l h y v w
    · exact ideed_6 a t l h y v w
    · exact ideed_7 a t l h y v w
    · exact ideed_8 a t l h y v w
    · exact ideed_9 a t l h y v w
    · exact ideed_10 a t l h y v w
    · exact ideed_11 a t l h y v w
    · exact ideed_12 a t l h y v w
    · exact ideed_13 a t l h y v w
    · exact ideed_14 a t l h y v w
    · exact ideed_15 a t l h y v w
end Go.Proofs.YtdejncnjaebjfaaDoor
