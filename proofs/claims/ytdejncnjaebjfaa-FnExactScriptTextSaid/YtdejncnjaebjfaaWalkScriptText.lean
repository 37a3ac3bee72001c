/-
  The law FnExactScriptText: ScriptText of the program returns what the reference's returns, for every list of deeds, and leaves the list as it was. No condition.
-/
import Derived.Test.YtdejncnjaebjfaaScript
namespace Go.Proofs.Ytdejncnjaebjfaa.fnExactScriptText
open Go.ChangeShapes Go.WideShapes Go.ChangeAt Go.RowKit

set_option maxHeartbeats 1000000 in
theorem walk (A : Option Addr) (c : Nat) (xs : List MDeed) (w : World) (h : SlR 7 RDeed 0 w (.slice A xs.length c) xs) :
    Calls Try.prog 4 #[.slice A xs.length c] w fun e w' => e = .returned (.bool true) ∧ Below w.heap.size w w' := by
  obtain ⟨_, _, _, hm⟩ := h.form
  have H := Lib.hid h; clear h
  go_enter Try.func4, Try.ntmps4
  go_wp2_with fail
  refine (szDeedS_any A c xs.length 1048576 w (by omega) (by omega) hm).mono ?_
  rintro e w' ⟨r, rfl, r0, r1, r2, rfl⟩
  by_cases hr : r < 0
  · go_wp2_with fail
    go_ret
    exact ⟨rfl, Below.refl _ _⟩
  · have hn := r2 (by omega)
    clear r2
    have hs : ∀ A c w lo, SlR 7 RDeed lo w (.slice A xs.length c) xs → Calls Try.prog 13 #[.slice A xs.length c] w fun e w' => e = .returned (.tuple #[.string (bs (scriptRes xs).1), .bool (scriptRes xs).2]) ∧ Below w.heap.size w w' := fun A c w lo h => sscript A c xs w lo h hn
    have hi : ∀ A c w lo, SlR 7 RDeed lo w (.slice A xs.length c) xs → Calls Try.prog 15 #[.slice A xs.length c] w fun e w' => e = .returned (.tuple #[.string (bs (scriptRes xs).1), .bool (scriptRes xs).2]) ∧ Below w.heap.size w w' := fun A c w lo h => iscript A c xs w lo h hn
    generalize (scriptRes xs).1 = l at hs hi
    generalize (scriptRes xs).2 = b at hs hi
    have HS := Lib.hid hs; have HI := Lib.hid hi
    clear hs hi
    go_wp2_with fail
    refine (toDeedS_any A c xs w 0 H.out hn).mono ?_
    rintro e w1 ⟨v1, rfl, s1, b1⟩
    obtain ⟨A1, c1, rfl, _⟩ := s1.form
    have S1 := Lib.hid s1; have B1 := Lib.hid b1; clear s1 b1
    go_wp2_with fail
    refine (HS.out A1 c1 w1 _ S1.out).mono ?_
    rintro e w2 ⟨rfl, b2⟩
    have B2 := Lib.hid (B1.out.trans (b2.mono B1.out.size)); clear b2
    go_wp2_with fail
    refine (toDeedS_any A c xs w2 0 (H.out.keep RDeed.ok (Agree.of_below B2.out 0)) hn).mono ?_
    rintro e w3 ⟨v3, rfl, s3, b3⟩
    obtain ⟨A3, c3, rfl, _⟩ := s3.form
    have S3 := Lib.hid s3; have B3 := Lib.hid (B2.out.trans (b3.mono B2.out.size)); clear s3 b3
    go_wp2_with fail
    refine (HI.out A3 c3 w3 _ S3.out).mono ?_
    rintro e w4 ⟨rfl, b4⟩
    have S4 := Lib.hid (S3.out.keep RDeed.ok (Agree.of_below b4 _)); have B4 := Lib.hid (B3.out.trans (b4.mono B3.out.size)); clear b4
    go_wp2_with fail
    refine (toDeedS_any A c xs w4 0 (H.out.keep RDeed.ok (Agree.of_below B4.out 0)) hn).mono ?_
    rintro e w5 ⟨v5, rfl, s5, b5⟩
    obtain ⟨A5, c5, rfl, _⟩ := s5.form
    have S5 := Lib.hid s5; have S6 := Lib.hid (S4.out.keep RDeed.ok (Agree.of_below b5 _)); have B5 := Lib.hid (B4.out.trans (b5.mono B4.out.size)); clear s5 b5
    go_wp2_with fail
    refine (eqDeedS_same A3 A5 c3 c5 xs w5 _ _ S6.out S5.out hn).mono ?_
    rintro e w6 ⟨rfl, b6⟩
    go_wp2_with fail
    go_ret
    exact ⟨rfl, B5.out.trans (b6.mono B5.out.size)⟩
end Go.Proofs.Ytdejncnjaebjfaa.fnExactScriptText
