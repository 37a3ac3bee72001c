/-
  The law FnNum18: a number of at most ten digits is read from its own text, and no other one, for every drawn number and text. No condition.
-/
import Derived.Test.YtgiihlbljopjkaaDraw18
import Derived.Test.YtgiihlbljopjkaaNumI
import Derived.Test.YtgiihlbljopjkaaNumPlain
namespace Go.Proofs.Ytgiihlbljopjkaa.fnNum18
open Go.ChangeShapes Go.WideShapes Go.ChangeAt Go.RowKit

theorem big_any (A : Option Addr) (n c : Nat) (w : World) :
    Calls Try.prog 12 #[.slice A n c] w fun e w' => e = .returned (.bool (decide ((n : Int) > 1048576))) ∧ w = w' := by
  go_enter Try.func12, Try.ntmps12
  go_wp2_with fail
  go_ret
  exact ⟨rfl, rfl⟩

/-- the second half of the law, from DrawNumOf on -/
theorem walk (A : Option Addr) (n c : Nat) (hm : (n : Int) ≤ 9223372036854775807) (w : World) (hy : BytesAt w.heap.size w A n) :
    Calls Try.prog 5 #[.slice A n c] w fun e w' => e = .returned (.bool true) ∧ Below w.heap.size w w' := by
  have HY := Lib.hid hy; clear hy
  by_cases hbig : (n : Int) > 1048576
  · have hb' : decide ((n : Int) > 1048576) = true := by simpa using hbig
    go_enter Try.func5, Try.ntmps5
    go_wp2_with fail
    refine (big_any A n c w).mono ?_
    rintro e w' ⟨rfl, rfl⟩
    go_wp2_with fail
    go_ret
    exact ⟨rfl, Below.refl _ _⟩
  · have hb' : decide ((n : Int) > 1048576) = false := by simpa using hbig
    go_enter Try.func5, Try.ntmps5
    go_wp2_with fail
    refine (big_any A n c w).mono ?_
    rintro e w' ⟨rfl, rfl⟩
    go_wp2_with fail
    refine (drawtext w A n c (by omega) HY.out).mono ?_
    rintro e w1 ⟨x, rfl, ⟨x0, x1⟩, hb1⟩
    have HB1 := Lib.hid hb1; clear hb1
    go_wp2_with fail
    refine (itext x w1 x0 x1).mono ?_
    rintro e w' ⟨rfl, rfl⟩
    have l1 : (txt x).length ≤ 9223372036854775807 := by have := txt_len x0 x1; omega
    go_wp2_with fail
    have k2 := HY.out.keep HB1.out
    have K2 := Lib.hid k2; clear k2
    have hsize := HB1.out.size
    have hi : ∃ (v : Int) (b : Bool), (∀ w, Calls Try.prog 11 #[.string (bs (txt x))] w fun e w' => e = .returned (.tuple #[.int .i64 v, .bool b]) ∧ w = w') ∧ ((b = true ∧ v = x ∧ -10000000000 < x ∧ x < 10000000000) ∨ (b = false ∧ v = 0 ∧ (x ≤ -10000000000 ∨ 10000000000 ≤ x))) := by
      by_cases hr : -10000000000 < x ∧ x < 10000000000
      · refine ⟨x, true, fun w => (inum (txt x) w l1).mono ?_, .inl ⟨rfl, rfl, hr⟩⟩
        rintro e w' ⟨rfl, rfl⟩
        rw [numOf_txt_in hr.1 hr.2]; exact ⟨rfl, rfl⟩
      · refine ⟨0, false, fun w => (inum (txt x) w l1).mono ?_, .inr ⟨rfl, rfl, by omega⟩⟩
        rintro e w' ⟨rfl, rfl⟩
        rw [numOf_txt_out (by omega)]; exact ⟨rfl, rfl⟩
    obtain ⟨v, b, hi, hcase⟩ := hi
    have HI := Lib.hid hi; clear hi
    rcases hcase with ⟨rfl, rfl, r1, r2⟩ | ⟨rfl, rfl, r1 | r1⟩
    all_goals
      refine (HI.out w1).mono ?_
      rintro e w' ⟨rfl, rfl⟩
      go_wp2_with fail
      refine (drawnum w1 A n c (by omega) ?_).mono ?_
      · intro k hk
        obtain ⟨ad, b, e, h1, h2, h3⟩ := K2.out k hk
        exact ⟨ad, b, e, by omega, h2, h3⟩
      rintro e w2 ⟨l, rfl, hl, hb2⟩
      have b2 := HB1.out.trans (hb2.mono hsize)
      have HB2 := Lib.hid b2; clear hb2 b2
      have hj : (∃ v : Int, (∀ w, Calls Try.prog 11 #[.string (bs l)] w fun e w' => e = .returned (.tuple #[.int .i64 v, .bool true]) ∧ w = w') ∧ (∀ w, Calls Try.prog 10 #[.string (bs l)] w fun e w' => e = .returned (.tuple #[.int .i64 v, .bool true]) ∧ Below w.heap.size w w') ∧ txt v = l ∧ -9999999999 ≤ v ∧ v ≤ 9999999999) ∨
          ((∀ w, Calls Try.prog 11 #[.string (bs l)] w fun e w' => e = .returned (.tuple #[.int .i64 0, .bool false]) ∧ w = w') ∧ (∀ w, Calls Try.prog 10 #[.string (bs l)] w fun e w' => e = .returned (.tuple #[.int .i64 0, .bool false]) ∧ Below w.heap.size w w')) := by
        rcases numOf_cases l with ⟨v, h, h1, h2, h3⟩ | h
        · refine .inl ⟨v, fun w => (inum l w (by omega)).mono ?_, fun w => (snum l w (by omega)).mono ?_, h1, h2, h3⟩
          all_goals rw [h]; exact fun _ _ h => h
        · refine .inr ⟨fun w => (inum l w (by omega)).mono ?_, fun w => (snum l w (by omega)).mono ?_⟩
          all_goals rw [h]; exact fun _ _ h => h
      rcases hj with ⟨v, hj1, hj2, hv, v1, v2⟩ | ⟨hj1, hj2⟩
      · have HJ1 := Lib.hid hj1; have HJ2 := Lib.hid hj2
        have hv' : (txt v == l) = true := by simpa using hv
        clear hj1 hj2 hv
        go_wp2_with fail
        refine (HJ1.out w2).mono ?_
        rintro e w' ⟨rfl, rfl⟩
        go_wp2_with fail
        refine (HJ2.out w2).mono ?_
        rintro e w3 ⟨rfl, hb3⟩
        go_wp2_with fail
        refine (itext v w3 (by omega) (by omega)).mono ?_
        rintro e w' ⟨rfl, rfl⟩
        go_wp2_with fail
        go_ret
        exact ⟨rfl, HB2.out.trans (hb3.mono HB2.out.size)⟩
      · have HJ1 := Lib.hid hj1; have HJ2 := Lib.hid hj2
        clear hj1 hj2
        go_wp2_with fail
        refine (HJ1.out w2).mono ?_
        rintro e w' ⟨rfl, rfl⟩
        go_wp2_with fail
        refine (HJ2.out w2).mono ?_
        rintro e w3 ⟨rfl, hb3⟩
        go_wp2_with fail
        go_ret
        exact ⟨rfl, HB2.out.trans (hb3.mono HB2.out.size)⟩
end Go.Proofs.Ytgiihlbljopjkaa.fnNum18
