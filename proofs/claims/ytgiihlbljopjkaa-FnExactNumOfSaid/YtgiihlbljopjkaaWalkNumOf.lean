/-
  The law FnExactNumOf: NumOf of the program returns what NumOf of the reference returns, for every string. No condition.
-/
import Derived.Test.YtgiihlbljopjkaaNumI
namespace Go.Proofs.Ytgiihlbljopjkaa.fnExactNumOf
open Go.ChangeShapes Go.WideShapes Go.ChangeAt Go.RowKit

theorem walk (a0 : ByteArray) (w0 : a0.size ≤ maxLen) (w : World) :
    Calls Try.prog 4 #[.string a0] w fun e w' => e = .returned (.bool true) ∧ Below w.heap.size w w' := by
  obtain ⟨l, rfl⟩ : ∃ l, a0 = bs l := ⟨_, bs_of a0⟩
  rw [bs_size] at w0
  unfold maxLen at w0
  by_cases hbig : (l.length : Int) > 1048576
  · go_enter Try.func4, Try.ntmps4
    go_wp2_with fail
    go_ret
    exact ⟨rfl, Below.refl _ _⟩
  · have hw : ∀ w, Calls Try.prog 10 #[.string (bs l)] w fun e w' => e = .returned (.tuple #[.int .i64 (numOf l).1, .bool (numOf l).2]) ∧ Below w.heap.size w w' := fun w => snum l w (by omega)
    have hi : ∀ w, Calls Try.prog 11 #[.string (bs l)] w fun e w' => e = .returned (.tuple #[.int .i64 (numOf l).1, .bool (numOf l).2]) ∧ w = w' := fun w => inum l w (by omega)
    generalize (numOf l).1 = x at hw hi
    generalize (numOf l).2 = b at hw hi
    have HW := Lib.hid hw; have HI := Lib.hid hi
    clear hw hi
    go_enter Try.func4, Try.ntmps4
    go_wp2_with fail
    refine (HW.out w).mono ?_
    rintro e w1 ⟨rfl, hb⟩
    go_wp2_with fail
    refine (HI.out _).mono ?_
    rintro e w' ⟨rfl, rfl⟩
    go_wp2_with fail
    go_ret
    exact ⟨rfl, hb⟩
end Go.Proofs.Ytgiihlbljopjkaa.fnExactNumOf
