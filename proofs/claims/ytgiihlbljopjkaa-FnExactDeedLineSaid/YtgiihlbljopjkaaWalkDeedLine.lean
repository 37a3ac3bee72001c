/-
  The law FnExactDeedLine: DeedLine of the program returns what the reference's returns, for every deed. No condition.
-/
import Derived.Test.YtgiihlbljopjkaaLine
namespace Go.Proofs.Ytgiihlbljopjkaa.fnExactDeedLine
open Go.ChangeShapes Go.WideShapes Go.ChangeAt Go.RowKit

set_option maxHeartbeats 1000000 in
theorem walk (x : MDeed) (hx : x.wf) (w : World) :
    Calls Try.prog 7 #[.agg #[.int .i64 x.kind, .int .i64 x.at_, .int .i64 x.to, .int .i64 x.lo, .int .i64 x.hi, .int .i64 x.key, .int .i64 x.value]] w fun e w' => e = .returned (.bool true) ∧ Below w.heap.size w w' := by
  have HX := Lib.hid hx; clear hx
  have hs := fun w => sline x w HX.out
  have hi := fun w => iline x w HX.out
  unfold ret_line at hs hi
  generalize (lineRes x).1 = l at hs hi
  generalize (lineRes x).2 = b at hs hi
  have HS := Lib.hid hs; have HI := Lib.hid hi
  clear hs hi
  go_enter Try.func7, Try.ntmps7
  go_wp2_with fail
  refine (toDeed_any x _).mono ?_
  rintro e w1 ⟨rfl, hb1⟩
  obtain ⟨hc1, hf1⟩ := bcell hb1
  have hz1 := hb1.size
  simp at hz1
  have B1 := Lib.hid (((Below.refl w.heap.size w).alloc (Nat.le_refl _) _).trans (hb1.mono (by simp))); clear hb1
  go_wp2_with fail
  refine (HS.out _).mono ?_
  rintro e w2 ⟨rfl, hb2⟩
  have hz2 := hb2.size
  obtain ⟨hc2, hf2⟩ := bcell hb2
  have B2 := Lib.hid (B1.out.trans (hb2.mono B1.out.size)); clear hb2
  have q1 : w.heap.size < w1.heap.size := by omega
  go_wp2_with fail
  refine (toDeed_any x _).mono ?_
  rintro e w3 ⟨rfl, hb3⟩
  have B3 := Lib.hid (B2.out.trans (hb3.mono B2.out.size)); clear hb3
  go_wp2_with fail
  refine (HI.out _).mono ?_
  rintro e w4 ⟨rfl, hb4⟩
  have B4 := Lib.hid (B3.out.trans (hb4.mono B3.out.size)); clear hb4
  go_wp2_with fail
  go_ret
  exact ⟨rfl, B4.out⟩
end Go.Proofs.Ytgiihlbljopjkaa.fnExactDeedLine
