/-
  DeedOk of the program, kind by kind.
-/
import Derived.Test.YtdejncnjaebjfaaDoorDeedOk
namespace Go.Proofs.YtdejncnjaebjfaaDoor
set_option linter.unusedVariables false
set_option linter.unusedSimpArgs false
open Go.ChangeShapes Go.WideShapes Go.ChangeAt Go.RowKit

set_option maxRecDepth 100000 in
set_option maxHeartbeats 1000000 in
theorem ideed_9 (at_ to lo hi key value : Int) (w : World) :
    Calls Tryd.prog 24 #[.agg #[.int .i64 9, .int .i64 at_, .int .i64 to, .int .i64 lo, .int .i64 hi, .int .i64 key, .int .i64 value]] w fun e w' => e = .returned (.bool (deedOk ⟨9, at_, to, lo, hi, key, value⟩)) ∧ Below w.heap.size w w' := by
  go_enter Tryd.func24, Tryd.ntmps24
  go_wp2
  all_goals
    go_ret
    exact ⟨deedOk_of (by simp [DeedOk, eq7]; try omega), (by repeat (first | exact Below.refl _ _ | refine Below.alloc ?_ (by first | omega | (simp; done) | (simp; omega)) _ | refine Below.setCell ?_ (by first | omega | (simp; done) | (simp; omega)) _))⟩

set_option maxRecDepth 100000 in
set_option maxHeartbeats 1000000 in
theorem ideed_10 (at_ to lo hi key value : Int) (w : World) :
    Calls Tryd.prog 24 #[.agg #[.int .i64 10, .int .i64 at_, .int .i64 to, .int .i64 lo, .int .i64 hi, .int .i64 key, .int .i64 value]] w fun e w' => e = .returned (.bool (deedOk ⟨10, at_, to, lo, hi, key, value⟩)) ∧ Below w.heap.size w w' := by
  go_enter Tryd.func24, Tryd.ntmps24
  go_wp2
  all_goals
    go_ret
    exact ⟨deedOk_of (by simp [DeedOk, eq7]; try omega), (by repeat (first | exact Below.refl _ _ | refine Below.alloc ?_ (by first | omega | (simp; done) | (simp; omega)) _ | refine Below.setCell ?_ (by first | omega | (simp; done) | (simp; omega)) _))⟩

set_option maxRecDepth 100000 in
set_option maxHeartbeats 1000000 in
theorem ideed_11 (at_ to lo hi key value : Int) (w : World) :
    Calls Tryd.prog 24 #[.agg #[.int .i64 11, .int .i64 at_, .int .i64 to, .int .i64 lo, .int .i64 hi, .int .i64 key, .int .i64 value]] w fun e w' => e = .returned (.bool (deedOk ⟨11, at_, to, lo, hi, key, value⟩)) ∧ Below w.heap.size w w' := by
  go_enter Tryd.func24, Tryd.ntmps24
  go_wp2
  all_goals
    go_ret
    exact ⟨deedOk_of (by simp [DeedOk, eq7]; try omega), (by repeat (first | exact Below.refl _ _ | refine Below.alloc ?_ (by first | omega | (simp; done) | (simp; omega)) _ | refine Below.setCell ?_ (by first | omega | (simp; done) | (simp; omega)) _))⟩

set_option maxRecDepth 100000 in
set_option maxHeartbeats 1000000 in
theorem ideed_12 (at_ to lo hi key value : Int) (w : World) :
    Calls Tryd.prog 24 #[.agg #[.int .i64 12, .int .i64 at_, .int .i64 to, .int .i64 lo, .int .i64 hi, .int .i64 key, .int .i64 value]] w fun e w' => e = .returned (.bool (deedOk ⟨12, at_, to, lo, hi, key, value⟩)) ∧ Below w.heap.size w w' := by
  go_enter Tryd.func24, Tryd.ntmps24
  go_wp2
  all_goals
    go_ret
    exact ⟨deedOk_of (by simp [DeedOk, eq7]; try omega), (by repeat (first | exact Below.refl _ _ | refine Below.alloc ?_ (by first | omega | (simp; done) | (simp; omega)) _ | refine Below.setCell ?_ (by first | omega | (simp; done) | (simp; omega)) _))⟩

set_option maxRecDepth 100000 in
set_option maxHeartbeats 1000000 in
theorem ideed_13 (at_ to lo hi key value : Int) (w : World) :
    Calls Tryd.prog 24 #[.agg #[.int .i64 13, .int .i64 at_, .int .i64 to, .int .i64 lo, .int .i64 hi, .int .i64 key, .int .i64 value]] w fun e w' => e = .returned (.bool (deedOk ⟨13, at_, to, lo, hi, key, value⟩)) ∧ Below w.heap.size w w' := by
  go_enter Tryd.func24, Tryd.ntmps24
  go_wp2
  all_goals
    go_ret
    exact ⟨deedOk_of (by simp [DeedOk, eq7]; try omega), (by repeat (first | exact Below.refl _ _ | refine Below.alloc ?_ (by first | omega | (simp; done) | (simp; omega)) _ | refine Below.setCell ?_ (by first | omega | (simp; done) | (simp; omega)) _))⟩

set_option maxRecDepth 100000 in
set_option maxHeartbeats 1000000 in
theorem ideed_14 (at_ to lo hi key value : Int) (w : World) :
    Calls Tryd.prog 24 #[.agg #[.int .i64 14, .int .i64 at_, .int .i64 to, .int .i64 lo, .int .i64 hi, .int .i64 key, .int .i64 value]] w fun e w' => e = .returned (.bool (deedOk ⟨14, at_, to, lo, hi, key, value⟩)) ∧ Below w.heap.size w w' := by
  go_enter Tryd.func24, Tryd.ntmps24
  go_wp2
  all_goals
    go_ret
    exact ⟨deedOk_of (by simp [DeedOk, eq7]; try omega), (by repeat (first | exact Below.refl _ _ | refine Below.alloc ?_ (by first | omega | (simp; done) | (simp; omega)) _ | refine Below.setCell ?_ (by first | omega | (simp; done) | (simp; omega)) _))⟩

set_option maxRecDepth 100000 in
set_option maxHeartbeats 1000000 in
theorem ideed_15 (at_ to lo hi key value : Int) (w : World) :
    Calls Tryd.prog 24 #[.agg #[.int .i64 15, .int .i64 at_, .int .i64 to, .int .i64 lo, .int .i64 hi, .int .i64 key, .int .i64 value]] w fun e w' => e = .returned (.bool (deedOk ⟨15, at_, to, lo, hi, key, value⟩)) ∧ Below w.heap.size w w' := by
  go_enter Tryd.func24, Tryd.ntmps24
  go_wp2
  all_goals
    go_ret
    exact ⟨deedOk_of (by simp [DeedOk, eq7]; try omega), (by repeat (first | exact Below.refl _ _ | refine Below.alloc ?_ (by first | omega | (simp; done) | (simp; omega)) _ | refine Below.setCell ?_ (by first | omega | (simp; done) | (simp; omega)) _))⟩

set_option maxRecDepth 100000 in
set_option maxHeartbeats 1000000 in
theorem ideed_o (k at_ to lo hi key value : Int) (w : World) (hk : k < 1 ∨ 15 < k) :
    Calls Tryd.prog 24 #[.agg #[.int .i64 k, .int .i64 at_, .int .i64 to, .int .i64 lo, .int .i64 hi, .int .i64 key, .int .i64 value]] w fun e w' => e = .returned (.bool (deedOk ⟨k, at_, to, lo, hi, key, value⟩)) ∧ Below w.heap.size w w' := by
  have h1 : (k == 1) = false := by rw [beq_eq_false_iff_ne]; omega
  have h2 : (k == 2) = false := by rw [beq_eq_false_iff_ne]; omega
  have h3 : (k == 3) = false := by rw [beq_eq_false_iff_ne]; omega
  have h4 : (k == 4) = false := by rw [beq_eq_false_iff_ne]; omega
  have h5 : (k == 5) = false := by rw [beq_eq_false_iff_ne]; omega
  have h6 : (k == 6) = false := by rw [beq_eq_false_iff_ne]; omega
  have h7 : (k == 7) = false := by rw [beq_eq_false_iff_ne]; omega
  have h8 : (k == 8) = false := by rw [beq_eq_false_iff_ne]; omega
  have h9 : (k == 9) = false := by rw [beq_eq_false_iff_ne]; omega
  have h10 : (k == 10) = false := by rw [beq_eq_false_iff_ne]; omega
  have h11 : (k == 11) = false := by rw [beq_eq_false_iff_ne]; omega
  have h12 : (k == 12) = false := by rw [beq_eq_false_iff_ne]; omega
  have h13 : (k == 13) = false := by rw [beq_eq_false_iff_ne]; omega
  have h14 : (k == 14) = false := by rw [beq_eq_false_iff_ne]; omega
  have h15 : (k == 15) = false := by rw [beq_eq_false_iff_ne]; omega
  go_enter Tryd.func24, Tryd.ntmps24
  go_wp2
  all_goals
    go_ret
    exact ⟨deedOk_of (by simp [DeedOk, eq7]; try omega), (by repeat (first | exact Below.refl _ _ | refine Below.alloc ?_ (by first | omega | (simp; done) | (simp; omega)) _ | refine Below.setCell ?_ (by first | omega | (simp; done) | (simp; omega)) _))⟩

end Go.Proofs.YtdejncnjaebjfaaDoor