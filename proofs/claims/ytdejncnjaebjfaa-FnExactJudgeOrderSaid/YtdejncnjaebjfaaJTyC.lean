import Derived.Test.YtdejncnjaebjfaaJTyB
namespace Go.Proofs.Ytdejncnjaebjfaa
set_option maxRecDepth 4096
def rLCoord : List S := [.sl 110, .sl 3]
def rICoord : List S := [.sl 84, .sl 3]
def cpCoord (p : List D) : List D := [cpRecS (gd p 0), cpIntS (gd p 1)]
def okCoord (p : List D) : Bool := okRecS (gd p 0) && okIntS (gd p 1)
theorem toCoord_ev (p : List D) (N : Nat) : evFn Try.prog (find [toRecSE, toIntSE]) N [0, 1, 2, 3] Try.f20 (ag rICoord) [⟨ag rLCoord, p⟩] = some (bo, nd (okRecS (gd p 0)) (nd (okIntS (gd p 1)) (some (1, cpCoord p)))) := by kernel_rfl
def toCoordE : Ent := (20, e1 (ag rLCoord) fun p => (⟨ag rICoord, cpCoord p⟩, okCoord p))
theorem toCoord_ok : EntOk Try.prog toCoordE := e1_ok fun p h => evFn_sound (N := 0) (ks := [0, 1, 2, 3]) (key := bo) (find_ok (List.forall_mem_cons.2 ⟨toRecS_ok, List.forall_mem_cons.2 ⟨toIntS_ok, List.forall_mem_nil _⟩⟩)) (enters Try.func20 (by kernel_rfl) (by kernel_rfl)) Try.func20 fun _ => by
  have h : okCoord p = true := h
  simp only [okCoord, Bool.and_eq_true] at h
  rw [toCoord_ev]
  simp only [nd, h.1, h.2, cond_true]

def eqCoord (p q : List D) : Bool := (eqRecS (gd p 0) (gd q 0)) && ((eqIntS (gd p 1) (gd q 1)) && (true))
theorem eqCoord_ev (p q : List D) (N : Nat) : evFn Try.prog (find [eqRecSE, eqIntSE]) N [0, 1, 2, 3, 4, 10, 16] Try.f23 rb [⟨ag rICoord, p⟩, ⟨ag rICoord, q⟩] = some (bo, bif !(eqRecS (gd p 0) (gd q 0)) then ob false else bif !(eqIntS (gd p 1) (gd q 1)) then ob false else ob true) := by kernel_rfl
def eqCoordE : Ent := (23, e2 (ag rICoord) (ag rICoord) fun p q => (⟨rb, [.b (eqCoord p q)]⟩, true))
theorem eqCoord_ok : EntOk Try.prog eqCoordE := e2_ok fun p q _ => evFn_sound (N := 0) (ks := [0, 1, 2, 3, 4, 10, 16]) (key := bo) (find_ok (List.forall_mem_cons.2 ⟨eqRecS_ok, List.forall_mem_cons.2 ⟨eqIntS_ok, List.forall_mem_nil _⟩⟩)) (enters Try.func23 (by kernel_rfl) (by kernel_rfl)) Try.func23 fun _ => by
  rw [eqCoord_ev]
  simp only [ne_step]
  rfl
theorem eqCoord_refl (p : List D) : eqCoord p p = true := by
  simp [eqCoord, eqRecS_refl, eqIntS_refl]

def sizeCoord (p : List D) : Nat := sizeRecS (gd p 0) + sizeIntS (gd p 1)
theorem szCoord_ev (p q : List D) (N : Nat) : evFn Try.prog (find [szRecSE, szIntSE]) N [0, 1, 2, 4, 10, 16] Try.f17 ri [⟨ag rLCoord, p⟩, ⟨ri, q⟩] = some (bo, nd (fair (gd q 0).int) (bif decide (left (sizeRecS (gd p 0)) (gd q 0).int < 0) then oi (-1) else nd (fair (left (sizeRecS (gd p 0)) (gd q 0).int)) (bif decide (left (sizeIntS (gd p 1)) (left (sizeRecS (gd p 0)) (gd q 0).int) < 0) then oi (-1) else oi (left (sizeIntS (gd p 1)) (left (sizeRecS (gd p 0)) (gd q 0).int))))) := by kernel_rfl
def szCoordE : Ent := (17, e2 (ag rLCoord) ri fun p q => (⟨ri, [.i (left (sizeCoord p) (gd q 0).int)]⟩, fair (gd q 0).int))
theorem szCoord_ok : EntOk Try.prog szCoordE := e2_ok fun p q h => evFn_sound (N := 0) (ks := [0, 1, 2, 4, 10, 16]) (key := bo) (find_ok (List.forall_mem_cons.2 ⟨szRecS_ok, List.forall_mem_cons.2 ⟨szIntS_ok, List.forall_mem_nil _⟩⟩)) (enters Try.func17 (by kernel_rfl) (by kernel_rfl)) Try.func17 fun _ => by
  have h : fair (gd q 0).int = true := h
  rw [szCoord_ev]
  by_cases h2 : left (sizeRecS (gd p 0)) (gd q 0).int < 0
  · have e := left_left (sizeRecS (gd p 0)) (sizeIntS (gd p 1)) (gd q 0).int
    rw [if_pos h2] at e
    simp only [nd, h, cond_true, h2, decide_true, sizeCoord, ← e]
  · have e := left_left (sizeRecS (gd p 0)) (sizeIntS (gd p 1)) (gd q 0).int
    rw [if_neg h2] at e
    simp only [nd, h, cond_true, cond_false, h2, decide_false, fair_left h h2, oi_if, left_neg, sizeCoord, ← e]

end Go.Proofs.Ytdejncnjaebjfaa
