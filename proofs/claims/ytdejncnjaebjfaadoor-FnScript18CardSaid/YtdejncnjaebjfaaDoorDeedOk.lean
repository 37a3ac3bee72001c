/-
  When a deed is right: DeedOk of the program and of the reference.
-/
import Derived.Test.YtdejncnjaebjfaaDoorTyDeed
import Derived.Laws.StructEq
namespace Go.Proofs.YtdejncnjaebjfaaDoor
set_option linter.unusedVariables false
set_option linter.unusedSimpArgs false
open Go.ChangeShapes Go.WideShapes Go.ChangeAt Go.RowKit

def eq7 (a b : List Int) : Bool := decide (a = b)

theorem eq7_run (a0 a1 a2 a3 a4 a5 a6 b0 b1 b2 b3 b4 b5 b6 : Int) (W : World) :
    (binOp .eql 23 (.agg #[.int .i64 a0, .int .i64 a1, .int .i64 a2, .int .i64 a3, .int .i64 a4, .int .i64 a5, .int .i64 a6]) (.agg #[.int .i64 b0, .int .i64 b1, .int .i64 b2, .int .i64 b3, .int .i64 b4, .int .i64 b5, .int .i64 b6])).run Tryd.prog W =
      .ok (.bool (eq7 [a0, a1, a2, a3, a4, a5, a6] [b0, b1, b2, b3, b4, b5, b6])) W := by
  have e : eq7 [a0, a1, a2, a3, a4, a5, a6] [b0, b1, b2, b3, b4, b5, b6] = (a0 == b0 && (a1 == b1 && (a2 == b2 && (a3 == b3 && (a4 == b4 && (a5 == b5 && a6 == b6)))))) := by
    unfold eq7
    rw [Bool.eq_iff_iff]
    simp
  rw [e]
  go_simp
  repeat' split
  all_goals simp_all
attribute [go_sem high] eq7_run

/-- a deed is right: its own numbers are in their ranges, all others zero -/
def DeedOk (x : MDeed) : Prop :=
  ((x.kind = 1 ∨ x.kind = 4 ∨ x.kind = 5 ∨ x.kind = 6) ∧ 0 ≤ x.at_ ∧ x.at_ ≤ 5 ∧ x.to = 0 ∧ x.lo = 0 ∧ x.hi = 0 ∧ x.key = 0 ∧ x.value = 0) ∨
  (x.kind = 2 ∧ 0 ≤ x.at_ ∧ x.at_ ≤ 5 ∧ 0 ≤ x.lo ∧ x.lo < x.hi ∧ x.hi ≤ 1000 ∧ x.to = 0 ∧ x.key = 0 ∧ x.value = 0) ∨
  (x.kind = 3 ∧ 0 ≤ x.at_ ∧ x.at_ ≤ 5 ∧ 0 ≤ x.key ∧ x.key ≤ 999 ∧ -1 ≤ x.value ∧ x.value ≤ 1000000000 ∧ x.to = 0 ∧ x.lo = 0 ∧ x.hi = 0) ∨
  ((x.kind = 7 ∨ x.kind = 8 ∨ x.kind = 9) ∧ 0 ≤ x.at_ ∧ x.at_ ≤ 59 ∧ x.to = 0 ∧ x.lo = 0 ∧ x.hi = 0 ∧ x.key = 0 ∧ x.value = 0) ∨
  (x.kind = 10 ∧ 0 ≤ x.at_ ∧ x.at_ ≤ 59 ∧ 0 ≤ x.to ∧ x.to ≤ 59 ∧ x.lo = 0 ∧ x.hi = 0 ∧ x.key = 0 ∧ x.value = 0) ∨
  ((x.kind = 11 ∨ x.kind = 12) ∧ 1 ≤ x.at_ ∧ x.at_ ≤ 60 ∧ x.to = 0 ∧ x.lo = 0 ∧ x.hi = 0 ∧ x.key = 0 ∧ x.value = 0) ∨
  (x.kind = 13 ∧ 0 ≤ x.key ∧ x.key ≤ 999 ∧ x.at_ = 0 ∧ x.to = 0 ∧ x.lo = 0 ∧ x.hi = 0 ∧ x.value = 0) ∨
  (x.kind = 14 ∧ 0 ≤ x.key ∧ x.key ≤ 999 ∧ 0 ≤ x.to ∧ x.to ≤ 3 ∧ x.at_ = 0 ∧ x.lo = 0 ∧ x.hi = 0 ∧ x.value = 0) ∨
  (x.kind = 15 ∧ x.at_ = 0 ∧ x.to = 0 ∧ x.lo = 0 ∧ x.hi = 0 ∧ x.key = 0 ∧ x.value = 0)
def deedOk (x : MDeed) : Bool :=
  decide ((x.kind = 1 ∨ x.kind = 4 ∨ x.kind = 5 ∨ x.kind = 6) ∧ 0 ≤ x.at_ ∧ x.at_ ≤ 5 ∧ x.to = 0 ∧ x.lo = 0 ∧ x.hi = 0 ∧ x.key = 0 ∧ x.value = 0) ||
  decide (x.kind = 2 ∧ 0 ≤ x.at_ ∧ x.at_ ≤ 5 ∧ 0 ≤ x.lo ∧ x.lo < x.hi ∧ x.hi ≤ 1000 ∧ x.to = 0 ∧ x.key = 0 ∧ x.value = 0) ||
  decide (x.kind = 3 ∧ 0 ≤ x.at_ ∧ x.at_ ≤ 5 ∧ 0 ≤ x.key ∧ x.key ≤ 999 ∧ -1 ≤ x.value ∧ x.value ≤ 1000000000 ∧ x.to = 0 ∧ x.lo = 0 ∧ x.hi = 0) ||
  decide ((x.kind = 7 ∨ x.kind = 8 ∨ x.kind = 9) ∧ 0 ≤ x.at_ ∧ x.at_ ≤ 59 ∧ x.to = 0 ∧ x.lo = 0 ∧ x.hi = 0 ∧ x.key = 0 ∧ x.value = 0) ||
  decide (x.kind = 10 ∧ 0 ≤ x.at_ ∧ x.at_ ≤ 59 ∧ 0 ≤ x.to ∧ x.to ≤ 59 ∧ x.lo = 0 ∧ x.hi = 0 ∧ x.key = 0 ∧ x.value = 0) ||
  decide ((x.kind = 11 ∨ x.kind = 12) ∧ 1 ≤ x.at_ ∧ x.at_ ≤ 60 ∧ x.to = 0 ∧ x.lo = 0 ∧ x.hi = 0 ∧ x.key = 0 ∧ x.value = 0) ||
  decide (x.kind = 13 ∧ 0 ≤ x.key ∧ x.key ≤ 999 ∧ x.at_ = 0 ∧ x.to = 0 ∧ x.lo = 0 ∧ x.hi = 0 ∧ x.value = 0) ||
  decide (x.kind = 14 ∧ 0 ≤ x.key ∧ x.key ≤ 999 ∧ 0 ≤ x.to ∧ x.to ≤ 3 ∧ x.at_ = 0 ∧ x.lo = 0 ∧ x.hi = 0 ∧ x.value = 0) ||
  decide (x.kind = 15 ∧ x.at_ = 0 ∧ x.to = 0 ∧ x.lo = 0 ∧ x.hi = 0 ∧ x.key = 0 ∧ x.value = 0)
theorem deedOk_iff (x : MDeed) : deedOk x = true ↔ DeedOk x := by
  unfold deedOk DeedOk
  simp only [Bool.or_eq_true, decide_eq_true_eq, or_assoc]
theorem deedOk_of {x : MDeed} {b : Bool} (h : b = true ↔ DeedOk x) : Ending.returned (.bool b) = .returned (.bool (deedOk x)) := by
  have : b = deedOk x := by rw [Bool.eq_iff_iff, h, deedOk_iff]
  rw [this]
end Go.Proofs.YtdejncnjaebjfaaDoor
