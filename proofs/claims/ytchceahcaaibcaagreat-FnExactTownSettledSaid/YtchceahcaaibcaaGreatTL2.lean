/-
  The law FnExactTownSettled, what it comes to. Printed by sym.py.
-/
import Derived.Test.YtchceahcaaibcaaGreatT20
import Derived.Test.YtchceahcaaibcaaGreatOpenEv
namespace Go.Proofs.YtchceahcaaibcaaGreat
set_option maxRecDepth 4096
set_option maxHeartbeats 1000000
set_option linter.unusedSimpArgs false
set_option linter.unusedVariables false
/-! loop.example/g00097/laws.FnExactTownSettled -/
abbrev l_TownSettledT : FuncId → List T → Option (T × Bool) := find [szTownE, toTownE, s_TownSettledE, i_TownSettledE, eqTownE]
theorem l_TownSettledT_ok : CallOk Tryz.prog l_TownSettledT := find_ok (List.forall_mem_cons.2 ⟨szTown_ok, List.forall_mem_cons.2 ⟨toTown_ok, List.forall_mem_cons.2 ⟨s_TownSettled_ok, List.forall_mem_cons.2 ⟨i_TownSettled_ok, List.forall_mem_cons.2 ⟨eqTown_ok, List.forall_mem_nil _⟩⟩⟩⟩⟩)
abbrev l_TownSettledK : List Nat := [0, 1, 2, 3, 4, 5, 6, 11, 21, 26]
theorem l_TownSettled_ev (N : Nat) (p : List D) : evFn Tryz.prog l_TownSettledT N l_TownSettledK Tryz.f4 rb [⟨ag rLTown, p⟩] = some (bo,
  nd (fair 1048576) (bif ltI (left (sizeTown (sub p 0 15)) 1048576) 0 then ob true
  else nd (okTown (sub p 0 15)) (nd (okTown (sub p 0 15)) (nd (townSmall (sub (cpTown (sub p 0 15)) 0 15)) (bif !((townSettled (sub (cpTown (sub p 0 15)) 0 15)) == (townSettled (sub (cpTown (sub p 0 15)) 0 15))) then ob false
  else nd (okTown (sub p 0 15)) (bif !(eqTown (sub (cpTown (sub p 0 15)) 0 15) (sub (cpTown (sub p 0 15)) 0 15)) then ob false
  else ob true)))))) := by kernel_rfl
def l_TownSettledE : Ent := (4, e1 (ag rLTown) fun p => (⟨rb, [.b true]⟩, true))
theorem l_TownSettled_ok : EntOk Tryz.prog l_TownSettledE := e1_ok fun p h => evFn_sound (N := 0) (ks := l_TownSettledK) (key := bo) l_TownSettledT_ok (enters Tryz.func4 (by kernel_rfl) (by kernel_rfl)) Tryz.func4 fun hw => by
  rw [l_TownSettled_ev]
  simp only [show okTown (sub p 0 15) = okTown p from rfl, show sizeTown (sub p 0 15) = sizeTown p from rfl, show townSmall (sub (cpTown (sub p 0 15)) 0 15) = townSmall (cpTown p) from rfl, show eqTown (sub (cpTown (sub p 0 15)) 0 15) (sub (cpTown (sub p 0 15)) 0 15) = true from eqTown_refl _]
  rw [show fair 1048576 = true from rfl]
  cases h0 : ltI (left (sizeTown p) 1048576) 0
  · obtain ⟨e0, l0⟩ := left_ge h0 (by omega)
    rw [okTown_of (m := 1048576) (by omega) (show sizeTown p ≤ 1048576 from by omega), town_small (show sizeTown p ≤ 1048576 from by omega)]
    simp only [nd, cond_true, cond_false, beq_self_eq_true, bne_self_eq_false, Bool.not_true]
  · rfl

end Go.Proofs.YtchceahcaaibcaaGreat
