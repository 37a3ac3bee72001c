/-
  The law FnExactParseDeed: ParseDeed of the program returns what the reference's returns, for every line.
-/
import Derived.Test.YtdejncnjaebjfaaDoorParseI
import Derived.Test.YtdejncnjaebjfaaDoorTyDeedEq
namespace Go.Proofs.YtdejncnjaebjfaaDoor.fnExactParseDeed
open Go.ChangeShapes Go.WideShapes Go.ChangeAt Go.RowKit

set_option maxRecDepth 100000 in
set_option maxHeartbeats 1000000 in
theorem walk0 (l : List UInt8) (hl : l.length ≤ 9223372036854775807) (m : Int) (w : World) (hm : w.cell? ⟨0, 0, none⟩ = some (.int .i64 m)) :
    Calls Tryd.prog 3 #[.string (bs l)] w fun e w' => e = .returned (.bool true) ∧ Below w.heap.size w w' := by
  by_cases hbig : (1048576 : Int) < (l.length : Int)
  · go_enter Tryd.func3, Tryd.ntmps3
    go_wp2_with fail
    go_ret
    exact ⟨rfl, Below.refl _ _⟩
  · have hs := fun w => sparse l w hl
    have hi := fun w m hm => iparse l w m hm hl
    unfold ret_parse at hs hi
    generalize parseDeed l = p at hs hi
    obtain ⟨x, n⟩ := p
    simp only [deedV] at hs hi
    have HS := Lib.hid hs; have HI := Lib.hid hi
    clear hs hi
    go_enter Tryd.func3, Tryd.ntmps3
    go_wp2_with fail
    refine (HS.out _).mono ?_
    rintro e w1 ⟨rfl, hb1⟩
    have B1 := Lib.hid hb1
    have hm1 := (hb1.cell (p := ⟨0, 0, none⟩) (cell_lt hm)).trans hm
    clear hb1
    go_wp2_with fail
    refine (HI.out _ m ((((Below.refl w1.heap.size w1).alloc (Nat.le_refl _) _).cell (p := ⟨0, 0, none⟩) (cell_lt hm1)).trans hm1)).mono ?_
    rintro e w2 ⟨rfl, hb2⟩
    obtain ⟨hc2, hf2⟩ := bcell hb2
    have hz2 := hb2.size
    simp at hz2
    have q1 : w1.heap.size < w2.heap.size := by omega
    have B2 := Lib.hid (B1.out.trans ((((Below.refl _ _).alloc (Nat.le_refl _) _).trans (hb2.mono (by simp))).mono B1.out.size)); clear hb2
    go_wp2_with fail
    refine (eqDeed_same x _).mono ?_
    rintro e w3 ⟨rfl, hb3⟩
    have B3 := Lib.hid (B2.out.trans ((((Below.refl _ _).alloc (Nat.le_refl _) _).trans (hb3.mono (by simp))).mono B2.out.size)); clear hb3
    go_wp2_with fail
    go_ret
    exact ⟨rfl, B3.out⟩
theorem walk (a0 : ByteArray) (w0 : a0.size ≤ maxLen) (m : Int) (w : World) (hm : w.cell? ⟨0, 0, none⟩ = some (.int .i64 m)) :
    Calls Tryd.prog 3 #[.string a0] w fun e w' => e = .returned (.bool true) ∧ Below w.heap.size w w' := by
  obtain ⟨l, rfl⟩ : ∃ l, a0 = bs l := ⟨_, bs_of a0⟩
  rw [bs_size] at w0
  unfold maxLen at w0
  exact walk0 l (by omega) m w hm
end Go.Proofs.YtdejncnjaebjfaaDoor.fnExactParseDeed
