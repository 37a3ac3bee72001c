/-
  The law FnExactParseScript: ParseScript of the program returns what the reference's returns, for every text; its rows are its own.
-/
import Derived.Test.YtdejncnjaebjfaaDoorScI
import Derived.Test.YtdejncnjaebjfaaDoorScM
namespace Go.Proofs.YtdejncnjaebjfaaDoor.fnExactParseScript
set_option linter.unusedVariables false
set_option linter.unusedSimpArgs false
open Go.ChangeShapes Go.WideShapes Go.ChangeAt Go.RowKit

set_option maxRecDepth 100000 in
set_option maxHeartbeats 1000000 in
theorem walk0 (l : List UInt8) (hl : l.length ≤ 9223372036854775807) (m : Int) (w : World) (hm : w.cell? ⟨0, 0, none⟩ = some (.int .i64 m)) :
    Calls Tryd.prog 4 #[.string (bs l)] w fun e w' => e = .returned (.bool true) ∧ Below w.heap.size w w' := by
  by_cases hbig : (1048576 : Int) < (l.length : Int)
  · go_enter Tryd.func4, Tryd.ntmps4
    go_wp2_with fail
    go_ret
    exact ⟨rfl, Below.refl _ _⟩
  · have hs := fun w => sscr l w hl
    have hi := fun w m hm => iscr l w m hm hl
    obtain ⟨hD, hW, hn0, hn1⟩ := script_sound l
    unfold RetScr at hs hi
    generalize parseScript l = p at hs hi hD hW hn0 hn1
    obtain ⟨D, n⟩ := p
    simp only at hs hi hD hW hn0 hn1
    have HS := Lib.hid hs; have HI := Lib.hid hi; have HW := Lib.hid hW
    clear hs hi hW
    have hD2 : D.length ≤ 1048576 := by omega
    go_enter Tryd.func4, Tryd.ntmps4
    go_wp2_with fail
    refine (HS.out w).mono ?_
    rintro e w1 ⟨v1, rfl, ho1, hb1⟩
    obtain ⟨A1, c1, rfl⟩ := own_form ho1 hD2
    have hm1 := (hb1.cell (p := ⟨0, 0, none⟩) (cell_lt hm)).trans hm
    have HM1 := Lib.hid hm1; have B1 := Lib.hid hb1; have O1 := Lib.hid ho1
    clear hm1 hb1 ho1
    go_wp2_with fail
    refine (HI.out w1 m HM1.out).mono ?_
    rintro e w2 ⟨v2, rfl, ho2, hb2⟩
    obtain ⟨A2, c2, rfl⟩ := own_form ho2 hD2
    have O2 := Lib.hid ho2; have B2 := Lib.hid hb2
    clear ho2 hb2
    go_wp2_with fail
    refine (eqDeedS_same A2 A1 c2 c1 D w2 _ _ (own_deeds O2.out HW.out hD2) (own_deeds (own_call O1.out B2.out) HW.out hD2) hD2).mono ?_
    rintro e w3 ⟨rfl, hb3⟩
    have O3 := Lib.hid (own_call O2.out hb3)
    have B3 := Lib.hid (B2.out.trans (hb3.mono B2.out.size))
    clear hb3
    go_wp2_with fail
    refine (mark_own O3.out hD2 B3.out.size).mono ?_
    rintro e w4 ⟨rfl, hk4, hb4⟩
    have K4 := Lib.hid hk4
    have B4 := Lib.hid (B3.out.trans hb4)
    clear hk4 hb4
    go_wp2_with fail
    refine (held_own K4.out hD2).mono ?_
    rintro e w5 ⟨rfl, rfl⟩
    go_wp2_with fail
    have HM5 := Lib.hid ((B4.out.cell (p := ⟨0, 0, none⟩) (cell_lt HM1.out)).trans HM1.out)
    refine (HI.out w5 m HM5.out).mono ?_
    rintro e w6 ⟨v6, rfl, ho6, hb6⟩
    obtain ⟨A6, c6, rfl⟩ := own_form ho6 hD2
    have O6 := Lib.hid ho6
    have B6 := Lib.hid (B4.out.trans (hb6.mono B4.out.size))
    have K6 := Lib.hid (K4.out.keep hb6)
    clear ho6 hb6
    go_wp2_with fail
    refine (eqDeedS_same A6 A1 c6 c1 D w6 _ _ (own_deeds O6.out HW.out hD2) (own_deeds (own_call O1.out B6.out) HW.out hD2) hD2).mono ?_
    rintro e w7 ⟨rfl, hb7⟩
    have K7 := Lib.hid (K6.out.keep hb7)
    have B7 := Lib.hid (B6.out.trans (hb7.mono B6.out.size))
    clear hb7
    go_wp2_with fail
    refine (held_own K7.out hD2).mono ?_
    rintro e w8 ⟨rfl, rfl⟩
    go_wp2_with fail
    go_ret
    exact ⟨rfl, B1.out.trans (B7.out.mono B1.out.size)⟩
theorem walk (a0 : ByteArray) (w0 : a0.size ≤ maxLen) (m : Int) (w : World) (hm : w.cell? ⟨0, 0, none⟩ = some (.int .i64 m)) :
    Calls Tryd.prog 4 #[.string a0] w fun e w' => e = .returned (.bool true) ∧ Below w.heap.size w w' := by
  obtain ⟨l, rfl⟩ : ∃ l, a0 = bs l := ⟨_, bs_of a0⟩
  rw [bs_size] at w0
  unfold maxLen at w0
  exact walk0 l (by omega) m w hm
end Go.Proofs.YtdejncnjaebjfaaDoor.fnExactParseScript
