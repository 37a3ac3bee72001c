/-
  The law FnExactShowAtlas, what it comes to. Printed by sym.py.
-/
import Derived.Test.YtchceahcaaibcaaGreatT22
import Derived.Test.YtchceahcaaibcaaGreatOpenEv
namespace Go.Proofs.YtchceahcaaibcaaGreat
set_option maxRecDepth 4096
set_option maxHeartbeats 1000000
set_option linter.unusedSimpArgs false
set_option linter.unusedVariables false
/-! loop.example/g00097/laws.FnExactShowAtlas -/
abbrev l_ShowAtlasT : FuncId → List T → Option (T × Bool) := find [szTownE, toTownE, s_ShowAtlasE, i_ShowAtlasE, eqTownE]
theorem l_ShowAtlasT_ok : CallOk Tryz.prog l_ShowAtlasT := find_ok (List.forall_mem_cons.2 ⟨szTown_ok, List.forall_mem_cons.2 ⟨toTown_ok, List.forall_mem_cons.2 ⟨s_ShowAtlas_ok, List.forall_mem_cons.2 ⟨i_ShowAtlas_ok, List.forall_mem_cons.2 ⟨eqTown_ok, List.forall_mem_nil _⟩⟩⟩⟩⟩)
abbrev l_ShowAtlasK : List Nat := [0, 1, 2, 3, 4, 5, 6, 11, 21, 26]
theorem l_ShowAtlas_ev (N : Nat) (p : List D) : evFn Tryz.prog l_ShowAtlasT N l_ShowAtlasK Tryz.f6 rb [⟨ag rLTown, p⟩] = some (bo,
  nd (fair 1048576) (bif ltI (left (sizeTown (sub p 0 15)) 1048576) 0 then ob true
  else nd (okTown (sub p 0 15)) (nd (okTown (sub p 0 15)) (nd (townSmall (sub (cpTown (sub p 0 15)) 0 15)) (bif !((showAtlas (sub (cpTown (sub p 0 15)) 0 15)) == (showAtlas (sub (cpTown (sub p 0 15)) 0 15))) then ob false
  else nd (okTown (sub p 0 15)) (bif !(eqTown (sub (cpTown (sub p 0 15)) 0 15) (sub (cpTown (sub p 0 15)) 0 15)) then ob false
  else ob true)))))) := by kernel_rfl
def l_ShowAtlasE : Ent := (6, e1 (ag rLTown) fun p => (⟨rb, [.b true]⟩, true))
theorem l_ShowAtlas_ok : EntOk Tryz.prog l_ShowAtlasE := e1_ok fun p h => evFn_sound (N := 0) (ks := l_ShowAtlasK) (key := bo) l_ShowAtlasT_ok (enters Tryz.func6 (by kernel_rfl) (by kernel_rfl)) Tryz.func6 fun hw => by
  rw [l_ShowAtlas_ev]
  simp only [show okTown (sub p 0 15) = okTown p from rfl, show sizeTown (sub p 0 15) = sizeTown p from rfl, show townSmall (sub (cpTown (sub p 0 15)) 0 15) = townSmall (cpTown p) from rfl, show eqTown (sub (cpTown (sub p 0 15)) 0 15) (sub (cpTown (sub p 0 15)) 0 15) = true from eqTown_refl _]
  rw [show fair 1048576 = true from rfl]
  cases h0 : ltI (left (sizeTown p) 1048576) 0
  · obtain ⟨e0, l0⟩ := left_ge h0 (by omega)
    rw [okTown_of (m := 1048576) (by omega) (show sizeTown p ≤ 1048576 from by omega), town_small (show sizeTown p ≤ 1048576 from by omega)]
    simp only [nd, cond_true, cond_false, beq_self_eq_true, bne_self_eq_false, Bool.not_true]
  · rfl

end Go.Proofs.YtchceahcaaibcaaGreat
