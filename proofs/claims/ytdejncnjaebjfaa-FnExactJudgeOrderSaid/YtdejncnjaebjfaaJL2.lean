/-
  The law FnExactJudgeOrder, what it comes to. Printed by sym.py.
-/
import Derived.Test.YtdejncnjaebjfaaJ11
import Derived.Test.YtdejncnjaebjfaaOpenEv
namespace Go.Proofs.Ytdejncnjaebjfaa
set_option maxRecDepth 4096
/-! loop.example/g00097/laws.FnExactJudgeOrder -/
abbrev l_JudgeOrderT : FuncId → List T → Option (T × Bool) := find [szCoordE, szEventSE, toCoordE, toEventSE, s_JudgeOrderE, i_JudgeOrderE, eqCoordE, eqEventSE]
theorem l_JudgeOrderT_ok : CallOk Try.prog l_JudgeOrderT := find_ok (List.forall_mem_cons.2 ⟨szCoord_ok, List.forall_mem_cons.2 ⟨szEventS_ok, List.forall_mem_cons.2 ⟨toCoord_ok, List.forall_mem_cons.2 ⟨toEventS_ok, List.forall_mem_cons.2 ⟨s_JudgeOrder_ok, List.forall_mem_cons.2 ⟨i_JudgeOrder_ok, List.forall_mem_cons.2 ⟨eqCoord_ok, List.forall_mem_cons.2 ⟨eqEventS_ok, List.forall_mem_nil _⟩⟩⟩⟩⟩⟩⟩⟩)
abbrev l_JudgeOrderK : List Nat := [0, 1, 2, 4, 5, 6, 7, 8, 9, 14, 19, 34, 39, 44]
theorem l_JudgeOrder_ev (N : Nat) (p q : List D) : evFn Try.prog l_JudgeOrderT N l_JudgeOrderK Try.f5 rb [⟨ag rLCoord, p⟩, ⟨sd (.sl 72), q⟩] = some (bo,
  nd (fair 1048576) (bif ltI (left (sizeCoord (sub p 0 2)) 1048576) 0 then ob true
  else nd (fair (left (sizeCoord (sub p 0 2)) 1048576)) (bif ltI (left (sizeEventS (gd q 0)) (left (sizeCoord (sub p 0 2)) 1048576)) 0 then ob true
  else nd (okCoord (sub p 0 2)) (nd (okEventS (gd q 0)) (nd (okCoord (sub p 0 2)) (nd (okEventS (gd q 0)) (bif !((judgeOrder (sub (cpCoord (sub p 0 2)) 0 2) (cpEventS (gd q 0))) == (judgeOrder (sub (cpCoord (sub p 0 2)) 0 2) (cpEventS (gd q 0)))) then ob false
  else nd (okCoord (sub p 0 2)) (bif !(eqCoord (sub (cpCoord (sub p 0 2)) 0 2) (sub (cpCoord (sub p 0 2)) 0 2)) then ob false
  else nd (okEventS (gd q 0)) (bif !(eqEventS (cpEventS (gd q 0)) (cpEventS (gd q 0))) then ob false
  else ob true))))))))) := by kernel_rfl
def l_JudgeOrderE : Ent := (5, e2 (ag rLCoord) (sd (.sl 72)) fun p q => (⟨rb, [.b true]⟩, true))
theorem l_JudgeOrder_ok : EntOk Try.prog l_JudgeOrderE := e2_ok fun p q h => evFn_sound (N := 0) (ks := l_JudgeOrderK) (key := bo) l_JudgeOrderT_ok (enters Try.func5 (by kernel_rfl) (by kernel_rfl)) Try.func5 fun hw => by
  rw [l_JudgeOrder_ev]
  simp only [show okCoord (sub p 0 2) = okCoord p from rfl, show sizeCoord (sub p 0 2) = sizeCoord p from rfl, show eqCoord (sub (cpCoord (sub p 0 2)) 0 2) (sub (cpCoord (sub p 0 2)) 0 2) = true from eqCoord_refl _, eqEventS_refl]
  rw [show fair 1048576 = true from rfl]
  cases h0 : ltI (left (sizeCoord p) 1048576) 0
  · obtain ⟨e0, l0⟩ := left_ge h0 (by omega)
    rw [e0]
    rw [show fair (1048576 - (sizeCoord p : Int)) = true from by simp only [fair, Bool.and_eq_true, decide_eq_true_eq]; omega]
    cases h1 : ltI (left (sizeEventS (gd q 0)) (1048576 - (sizeCoord p : Int))) 0
    · obtain ⟨e1, l1⟩ := left_ge h1 (by omega)
      rw [okCoord_of (m := 1048576) (by omega) (show sizeCoord p ≤ 1048576 from by omega), okEventS_of (m := 1048576) (by omega) (show sizeEventS (gd q 0) ≤ 1048576 from by omega)]
      simp only [nd, cond_true, cond_false, beq_self_eq_true, Bool.not_true]
    · rfl
  · rfl

end Go.Proofs.Ytdejncnjaebjfaa
