/-
  DeedOk of the reference, kind by kind.
-/
import Derived.Test.YtdejncnjaebjfaaDoorDeedOk
namespace Go.Proofs.YtdejncnjaebjfaaDoor
set_option linter.unusedVariables false
set_option linter.unusedSimpArgs false
open Go.ChangeShapes Go.WideShapes Go.ChangeAt Go.RowKit

set_option maxRecDepth 100000 in
set_option maxHeartbeats 1000000 in
theorem sdeed_1 (at_ to lo hi key value : Int) (w : World) :
    Calls Tryd.prog 22 #[.agg #[.int .i64 1, .int .i64 at_, .int .i64 to, .int .i64 lo, .int .i64 hi, .int .i64 key, .int .i64 value]] w fun e w' => e = .returned (.bool (deedOk ⟨1, at_, to, lo, hi, key, value⟩)) ∧ Below w.heap.size w w' := by
  go_enter Tryd.func22, Tryd.ntmps22
  go_wp2
  all_goals
    go_ret
    exact ⟨deedOk_of (by simp [DeedOk, eq7]; try omega), (by repeat (first | exact Below.refl _ _ | refine Below.alloc ?_ (by first | omega | (simp; done) | (simp; omega)) _ | refine Below.setCell ?_ (by first | omega | (simp; done) | (simp; omega)) _))⟩

set_option maxRecDepth 100000 in
set_option maxHeartbeats 1000000 in
theorem sdeed_2 (at_ to lo hi key value : Int) (w : World) :
    Calls Tryd.prog 22 #[.agg #[.int .i64 2, .int .i64 at_, .int .i64 to, .int .i64 lo, .int .i64 hi, .int .i64 key, .int .i64 value]] w fun e w' => e = .returned (.bool (deedOk ⟨2, at_, to, lo, hi, key, value⟩)) ∧ Below w.heap.size w w' := by
  go_enter Tryd.func22, Tryd.ntmps22
  go_wp2
  all_goals
    go_ret
    exact ⟨deedOk_of (by simp [DeedOk, eq7]; try omega), (by repeat (first | exact Below.refl _ _ | refine Below.alloc ?_ (by first | omega | (simp; done) | (simp; omega)) _ | refine Below.setCell ?_ (by first | omega | (simp; done) | (simp; omega)) _))⟩

set_option maxRecDepth 100000 in
set_option maxHeartbeats 1000000 in
theorem sdeed_3 (at_ to lo hi key value : Int) (w : World) :
    Calls Tryd.prog 22 #[.agg #[.int .i64 3, .int .i64 at_, .int .i64 to, .int .i64 lo, .int .i64 hi, .int .i64 key, .int .i64 value]] w fun e w' => e = .returned (.bool (deedOk ⟨3, at_, to, lo, hi, key, value⟩)) ∧ Below w.heap.size w w' := by
  go_enter Tryd.func22, Tryd.ntmps22
  go_wp2
  all_goals
    go_ret
    exact ⟨deedOk_of (by simp [DeedOk, eq7]; try omega), (by repeat (first | exact Below.refl _ _ | refine Below.alloc ?_ (by first | omega | (simp; done) | (simp; omega)) _ | refine Below.setCell ?_ (by first | omega | (simp; done) | (simp; omega)) _))⟩

set_option maxRecDepth 100000 in
set_option maxHeartbeats 1000000 in
theorem sdeed_4 (at_ to lo hi key value : Int) (w : World) :
    Calls Tryd.prog 22 #[.agg #[.int .i64 4, .int .i64 at_, .int .i64 to, .int .i64 lo, .int .i64 hi, .int .i64 key, .int .i64 value]] w fun e w' => e = .returned (.bool (deedOk ⟨4, at_, to, lo, hi, key, value⟩)) ∧ Below w.heap.size w w' := by
  go_enter Tryd.func22, Tryd.ntmps22
  go_wp2
  all_goals
    go_ret
    exact ⟨deedOk_of (by simp [DeedOk, eq7]; try omega), (by repeat (first | exact Below.refl _ _ | refine Below.alloc ?_ (by first | omega | (simp; done) | (simp; omega)) _ | refine Below.setCell ?_ (by first | omega | (simp; done) | (simp; omega)) _))⟩

set_option maxRecDepth 100000 in
set_option maxHeartbeats 1000000 in
theorem sdeed_5 (at_ to lo hi key value : Int) (w : World) :
    Calls Tryd.prog 22 #[.agg #[.int .i64 5, .int .i64 at_, .int .i64 to, .int .i64 lo, .int .i64 hi, .int .i64 key, .int .i64 value]] w fun e w' => e = .returned (.bool (deedOk ⟨5, at_, to, lo, hi, key, value⟩)) ∧ Below w.heap.size w w' := by
  go_enter Tryd.func22, Tryd.ntmps22
  go_wp2
  all_goals
    go_ret
    exact ⟨deedOk_of (by simp [DeedOk, eq7]; try omega), (by repeat (first | exact Below.refl _ _ | refine Below.alloc ?_ (by first | omega | (simp; done) | (simp; omega)) _ | refine Below.setCell ?_ (by first | omega | (simp; done) | (simp; omega)) _))⟩

set_option maxRecDepth 100000 in
set_option maxHeartbeats 1000000 in
theorem sdeed_6 (at_ to lo hi key value : Int) (w : World) :
    Calls Tryd.prog 22 #[.agg #[.int .i64 6, .int .i64 at_, .int .i64 to, .int .i64 lo, .int .i64 hi, .int .i64 key, .int .i64 value]] w fun e w' => e = .returned (.bool (deedOk ⟨6, at_, to, lo, hi, key, value⟩)) ∧ Below w.heap.size w w' := by
  go_enter Tryd.func22, Tryd.ntmps22
  go_wp2
  all_goals
    go_ret
    exact ⟨deedOk_of (by simp [DeedOk, eq7]; try omega), (by repeat (first | exact Below.refl _ _ | refine Below.alloc ?_ (by first | omega | (simp; done) | (simp; omega)) _ | refine Below.setCell ?_ (by first | omega | (simp; done) | (simp; omega)) _))⟩

set_option maxRecDepth 100000 in
set_option maxHeartbeats 1000000 in
theorem sdeed_7 (at_ to lo hi key value : Int) (w : World) :
    Calls Tryd.prog 22 #[.agg #[.int .i64 7, .int .i64 at_, .int .i64 to, .int .i64 lo, .int .i64 hi, .int .i64 key, .int .i64 value]] w fun e w' => e = .returned (.bool (deedOk ⟨7, at_, to, lo, hi, key, value⟩)) ∧ Below w.heap.size w w' := by
  go_enter Tryd.func22, Tryd.ntmps22
  go_wp2
  all_goals
    go_ret
    exact ⟨deedOk_of (by simp [DeedOk, eq7]; try omega), (by repeat (first | exact Below.refl _ _ | refine Below.alloc ?_ (by first | omega | (simp; done) | (simp; omega)) _ | refine Below.setCell ?_ (by first | omega | (simp; done) | (simp; omega)) _))⟩

set_option maxRecDepth 100000 in
set_option maxHeartbeats 1000000 in
theorem sdeed_8 (at_ to lo hi key value : Int) (w : World) :
    Calls Tryd.prog 22 #[.agg #[.int .i64 8, .int .i64 at_, .int .i64 to, .int .i64 lo, .int .i64 hi, .int .i64 key, .int .i64 value]] w fun e w' => e = .returned (.bool (deedOk ⟨8, at_, to, lo, hi, key, value⟩)) ∧ Below w.heap.size w w' := by
  go_enter Tryd.func22, Tryd.ntmps22
  go_wp2
  all_goals
    go_ret
    exact ⟨deedOk_of (by simp [DeedOk, eq7]; try omega), (by repeat (first | exact Below.refl _ _ | refine Below.alloc ?_ (by first | omega | (simp; done) | (simp; omega)) _ | refine Below.setCell ?_ (by first | omega | (simp; done) | (simp; omega)) _))⟩

end Go.Proofs.YtdejncnjaebjfaaDoor