/-
  The judge: small functions. Printed by genj.py.
-/
import Derived.Test.YtdejncnjaebjfaaJTyD
namespace Go.Proofs.Ytdejncnjaebjfaa
set_option maxRecDepth 4096
theorem and_ob (c x : Bool) : (bif c then ob x else ob false) = ob (c && x) := by cases c <;> rfl
theorem or_ob (c x : Bool) : (bif c then ob true else ob x) = ob (c || x) := by cases c <;> rfl
def inB (n a b : Int) : Bool := decide (n ≥ a) && decide (n ≤ b)

theorem i_from_ev (p q r : List D) (N : Nat) : evFn Try.prog (find []) N [0, 1, 2, 6] Try.f78 (rb) [⟨ri, p⟩, ⟨ri, q⟩, ⟨ri, r⟩] = some (bo, bif decide ((gd p 0).int ≥ (gd q 0).int) then ob (decide ((gd p 0).int ≤ (gd r 0).int)) else ob false) := by kernel_rfl
def i_fromE : Ent := (78, e3 (ri) (ri) (ri) fun p q r => (⟨rb, [.b (inB (gd p 0).int (gd q 0).int (gd r 0).int)]⟩, true))
theorem i_from_ok : EntOk Try.prog i_fromE := e3_ok fun p q r h => evFn_sound (N := 0) (ks := [0, 1, 2, 6]) (key := bo) (find_ok (List.forall_mem_nil _)) (enters Try.func78 (by kernel_rfl) (by kernel_rfl)) Try.func78 fun _ => by
  rw [i_from_ev]
  rw [and_ob]; rfl

theorem s_l1In_ev (p q r : List D) (N : Nat) : evFn Try.prog (find []) N [0, 1, 2, 6] Try.f73 (rb) [⟨ri, p⟩, ⟨ri, q⟩, ⟨ri, r⟩] = some (bo, bif decide ((gd p 0).int ≥ (gd q 0).int) then ob (decide ((gd p 0).int ≤ (gd r 0).int)) else ob false) := by kernel_rfl
def s_l1InE : Ent := (73, e3 (ri) (ri) (ri) fun p q r => (⟨rb, [.b (inB (gd p 0).int (gd q 0).int (gd r 0).int)]⟩, true))
theorem s_l1In_ok : EntOk Try.prog s_l1InE := e3_ok fun p q r h => evFn_sound (N := 0) (ks := [0, 1, 2, 6]) (key := bo) (find_ok (List.forall_mem_nil _)) (enters Try.func73 (by kernel_rfl) (by kernel_rfl)) Try.func73 fun _ => by
  rw [s_l1In_ev]
  rw [and_ob]; rfl

theorem i_isWhole_ev (p : List D) (N : Nat) : evFn Try.prog (find [i_fromE]) N [0, 2] Try.f107 (rb) [⟨ri, p⟩] = some (bo, ob (inB (gd p 0).int (0) (1000000000))) := by kernel_rfl
def i_isWholeE : Ent := (107, e1 (ri) fun p => (⟨rb, [.b (inB (gd p 0).int (0) (1000000000))]⟩, true))
theorem i_isWhole_ok : EntOk Try.prog i_isWholeE := e1_ok fun p h => evFn_sound (N := 0) (ks := [0, 2]) (key := bo) (find_ok (List.forall_mem_cons.2 ⟨i_from_ok, List.forall_mem_nil _⟩)) (enters Try.func107 (by kernel_rfl) (by kernel_rfl)) Try.func107 fun _ => by
  rw [i_isWhole_ev]
  skip

theorem i_isReq_ev (p : List D) (N : Nat) : evFn Try.prog (find [i_fromE]) N [0, 2] Try.f108 (rb) [⟨ri, p⟩] = some (bo, ob (inB (gd p 0).int (1) (1000000000))) := by kernel_rfl
def i_isReqE : Ent := (108, e1 (ri) fun p => (⟨rb, [.b (inB (gd p 0).int (1) (1000000000))]⟩, true))
theorem i_isReq_ok : EntOk Try.prog i_isReqE := e1_ok fun p h => evFn_sound (N := 0) (ks := [0, 2]) (key := bo) (find_ok (List.forall_mem_cons.2 ⟨i_from_ok, List.forall_mem_nil _⟩)) (enters Try.func108 (by kernel_rfl) (by kernel_rfl)) Try.func108 fun _ => by
  rw [i_isReq_ev]
  skip

theorem i_isAnswer_ev (p : List D) (N : Nat) : evFn Try.prog (find [i_fromE]) N [0, 2] Try.f81 (rb) [⟨ri, p⟩] = some (bo, ob (inB (gd p 0).int (-1) (1000000000))) := by kernel_rfl
def i_isAnswerE : Ent := (81, e1 (ri) fun p => (⟨rb, [.b (inB (gd p 0).int (-1) (1000000000))]⟩, true))
theorem i_isAnswer_ok : EntOk Try.prog i_isAnswerE := e1_ok fun p h => evFn_sound (N := 0) (ks := [0, 2]) (key := bo) (find_ok (List.forall_mem_cons.2 ⟨i_from_ok, List.forall_mem_nil _⟩)) (enters Try.func81 (by kernel_rfl) (by kernel_rfl)) Try.func81 fun _ => by
  rw [i_isAnswer_ev]
  skip

theorem i_isKey_ev (p : List D) (N : Nat) : evFn Try.prog (find [i_fromE]) N [0, 2] Try.f80 (rb) [⟨ri, p⟩] = some (bo, ob (inB (gd p 0).int (0) (999))) := by kernel_rfl
def i_isKeyE : Ent := (80, e1 (ri) fun p => (⟨rb, [.b (inB (gd p 0).int (0) (999))]⟩, true))
theorem i_isKey_ok : EntOk Try.prog i_isKeyE := e1_ok fun p h => evFn_sound (N := 0) (ks := [0, 2]) (key := bo) (find_ok (List.forall_mem_cons.2 ⟨i_from_ok, List.forall_mem_nil _⟩)) (enters Try.func80 (by kernel_rfl) (by kernel_rfl)) Try.func80 fun _ => by
  rw [i_isKey_ev]
  skip

theorem i_isGroup_ev (p : List D) (N : Nat) : evFn Try.prog (find [i_fromE]) N [0, 2] Try.f83 (rb) [⟨ri, p⟩] = some (bo, ob (inB (gd p 0).int (0) (3))) := by kernel_rfl
def i_isGroupE : Ent := (83, e1 (ri) fun p => (⟨rb, [.b (inB (gd p 0).int (0) (3))]⟩, true))
theorem i_isGroup_ok : EntOk Try.prog i_isGroupE := e1_ok fun p h => evFn_sound (N := 0) (ks := [0, 2]) (key := bo) (find_ok (List.forall_mem_cons.2 ⟨i_from_ok, List.forall_mem_nil _⟩)) (enters Try.func83 (by kernel_rfl) (by kernel_rfl)) Try.func83 fun _ => by
  rw [i_isGroup_ev]
  skip

theorem s_l1Whole_ev (p : List D) (N : Nat) : evFn Try.prog (find [s_l1InE]) N [0, 2] Try.f104 (rb) [⟨ri, p⟩] = some (bo, ob (inB (gd p 0).int (0) (1000000000))) := by kernel_rfl
def s_l1WholeE : Ent := (104, e1 (ri) fun p => (⟨rb, [.b (inB (gd p 0).int (0) (1000000000))]⟩, true))
theorem s_l1Whole_ok : EntOk Try.prog s_l1WholeE := e1_ok fun p h => evFn_sound (N := 0) (ks := [0, 2]) (key := bo) (find_ok (List.forall_mem_cons.2 ⟨s_l1In_ok, List.forall_mem_nil _⟩)) (enters Try.func104 (by kernel_rfl) (by kernel_rfl)) Try.func104 fun _ => by
  rw [s_l1Whole_ev]
  skip

theorem s_l10Key_ev (p : List D) (N : Nat) : evFn Try.prog (find [s_l1InE]) N [0, 2] Try.f75 (rb) [⟨ri, p⟩] = some (bo, ob (inB (gd p 0).int (0) (999))) := by kernel_rfl
def s_l10KeyE : Ent := (75, e1 (ri) fun p => (⟨rb, [.b (inB (gd p 0).int (0) (999))]⟩, true))
theorem s_l10Key_ok : EntOk Try.prog s_l10KeyE := e1_ok fun p h => evFn_sound (N := 0) (ks := [0, 2]) (key := bo) (find_ok (List.forall_mem_cons.2 ⟨s_l1In_ok, List.forall_mem_nil _⟩)) (enters Try.func75 (by kernel_rfl) (by kernel_rfl)) Try.func75 fun _ => by
  rw [s_l10Key_ev]
  skip

def rangeOk (p : List D) : Bool := decide ((gd p 0).int ≥ 0) && (decide ((gd p 0).int < (gd p 1).int) && decide ((gd p 1).int ≤ 1000))
theorem i_RangeOk_ev (p : List D) (N : Nat) : evFn Try.prog (find []) N [0, 1, 2] Try.f79 (rb) [⟨ag rIRange, p⟩] = some (bo, bif decide ((gd p 0).int ≥ 0) then bif decide ((gd p 0).int < (gd p 1).int) then ob (decide ((gd p 1).int ≤ 1000)) else ob false else ob false) := by kernel_rfl
def i_RangeOkE : Ent := (79, e1 (ag rIRange) fun p => (⟨rb, [.b (rangeOk p)]⟩, true))
theorem i_RangeOk_ok : EntOk Try.prog i_RangeOkE := e1_ok fun p h => evFn_sound (N := 0) (ks := [0, 1, 2]) (key := bo) (find_ok (List.forall_mem_nil _)) (enters Try.func79 (by kernel_rfl) (by kernel_rfl)) Try.func79 fun _ => by
  rw [i_RangeOk_ev]
  simp only [and_ob]; rfl

theorem s_RangeOk_ev (p : List D) (N : Nat) : evFn Try.prog (find []) N [0, 1, 2] Try.f99 (rb) [⟨ag rIRange, p⟩] = some (bo, bif decide ((gd p 0).int ≥ 0) then bif decide ((gd p 0).int < (gd p 1).int) then ob (decide ((gd p 1).int ≤ 1000)) else ob false else ob false) := by kernel_rfl
def s_RangeOkE : Ent := (99, e1 (ag rIRange) fun p => (⟨rb, [.b (rangeOk p)]⟩, true))
theorem s_RangeOk_ok : EntOk Try.prog s_RangeOkE := e1_ok fun p h => evFn_sound (N := 0) (ks := [0, 1, 2]) (key := bo) (find_ok (List.forall_mem_nil _)) (enters Try.func99 (by kernel_rfl) (by kernel_rfl)) Try.func99 fun _ => by
  rw [s_RangeOk_ev]
  simp only [and_ob]; rfl

end Go.Proofs.Ytdejncnjaebjfaa
