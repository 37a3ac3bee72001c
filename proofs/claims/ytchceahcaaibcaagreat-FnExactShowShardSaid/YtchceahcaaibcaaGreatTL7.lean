/-
  The law FnExactShowShard, what it comes to. Printed by sym.py.
-/
import Derived.Test.YtchceahcaaibcaaGreatT24
import Derived.Test.YtchceahcaaibcaaGreatOpenEv
namespace Go.Proofs.YtchceahcaaibcaaGreat
set_option maxRecDepth 4096
set_option maxHeartbeats 1000000
set_option linter.unusedSimpArgs false
set_option linter.unusedVariables false
/-! loop.example/g00097/laws.FnExactShowShard -/
abbrev l_ShowShardT : FuncId → List T → Option (T × Bool) := find [szTownE, toTownE, s_ShowShardE, i_ShowShardE, eqTownE]
theorem l_ShowShardT_ok : CallOk Tryz.prog l_ShowShardT := find_ok (List.forall_mem_cons.2 ⟨szTown_ok, List.forall_mem_cons.2 ⟨toTown_ok, List.forall_mem_cons.2 ⟨s_ShowShard_ok, List.forall_mem_cons.2 ⟨i_ShowShard_ok, List.forall_mem_cons.2 ⟨eqTown_ok, List.forall_mem_nil _⟩⟩⟩⟩⟩)
abbrev l_ShowShardK : List Nat := [0, 1, 2, 4, 5, 6, 7, 8, 13, 25, 30]
theorem l_ShowShard_ev (N : Nat) (p q : List D) : evFn Tryz.prog l_ShowShardT N l_ShowShardK Tryz.f9 rb [⟨ag rLTown, p⟩, ⟨ri, q⟩] = some (bo,
  nd (fair 1048576) (bif ltI (left (sizeTown (sub p 0 15)) 1048576) 0 then ob true
  else nd (okTown (sub p 0 15)) (nd (okTown (sub p 0 15)) (nd (townSmall (sub (cpTown (sub p 0 15)) 0 15)) (bif !((showShard (sub (cpTown (sub p 0 15)) 0 15) (gd q 0).int) == (showShard (sub (cpTown (sub p 0 15)) 0 15) (gd q 0).int)) then ob false
  else nd (okTown (sub p 0 15)) (bif !(eqTown (sub (cpTown (sub p 0 15)) 0 15) (sub (cpTown (sub p 0 15)) 0 15)) then ob false
  else ob true)))))) := by kernel_rfl
def l_ShowShardE : Ent := (9, e2 (ag rLTown) ri fun p q => (⟨rb, [.b true]⟩, true))
theorem l_ShowShard_ok : EntOk Tryz.prog l_ShowShardE := e2_ok fun p q h => evFn_sound (N := 0) (ks := l_ShowShardK) (key := bo) l_ShowShardT_ok (enters Tryz.func9 (by kernel_rfl) (by kernel_rfl)) Tryz.func9 fun hw => by
  rw [l_ShowShard_ev]
  simp only [show okTown (sub p 0 15) = okTown p from rfl, show sizeTown (sub p 0 15) = sizeTown p from rfl, show townSmall (sub (cpTown (sub p 0 15)) 0 15) = townSmall (cpTown p) from rfl, show eqTown (sub (cpTown (sub p 0 15)) 0 15) (sub (cpTown (sub p 0 15)) 0 15) = true from eqTown_refl _]
  rw [show fair 1048576 = true from rfl]
  cases h0 : ltI (left (sizeTown p) 1048576) 0
  · obtain ⟨e0, l0⟩ := left_ge h0 (by omega)
    rw [okTown_of (m := 1048576) (by omega) (show sizeTown p ≤ 1048576 from by omega), town_small (show sizeTown p ≤ 1048576 from by omega)]
    simp only [nd, cond_true, cond_false, beq_self_eq_true, bne_self_eq_false, Bool.not_true]
  · rfl

end Go.Proofs.YtchceahcaaibcaaGreat
