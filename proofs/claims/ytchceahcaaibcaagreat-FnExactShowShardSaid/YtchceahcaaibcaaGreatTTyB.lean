import Derived.Test.YtchceahcaaibcaaGreatTTyA
namespace Go.Proofs.YtchceahcaaibcaaGreat
set_option linter.unusedSimpArgs false
set_option linter.unusedVariables false
set_option maxRecDepth 4096
def rLLock : List S := [si, si, si, si]
def rILock : List S := [si, si, si, si]
def cpLock (p : List D) : List D := [gd p 0, gd p 1, gd p 2, gd p 3]
def okLock (p : List D) : Bool := true
theorem toLock_ev (p : List D) (N : Nat) : evFn Tryz.prog (find []) N [0, 1, 2, 3] Tryz.f302 (ag rILock) [⟨ag rLLock, p⟩] = some (bo, some (1, cpLock p)) := by kernel_rfl
def toLockE : Ent := (302, e1 (ag rLLock) fun p => (⟨ag rILock, cpLock p⟩, okLock p))
theorem toLock_ok : EntOk Tryz.prog toLockE := e1_ok fun p h => evFn_sound (N := 0) (ks := [0, 1, 2, 3]) (key := bo) (find_ok (List.forall_mem_nil _)) (enters Tryz.func302 (by kernel_rfl) (by kernel_rfl)) Tryz.func302 fun _ => by
  have h : okLock p = true := h
  simp only [okLock, Bool.and_eq_true] at h
  rw [toLock_ev]

def eqLock (p q : List D) : Bool := ((gd p 0).int == (gd q 0).int) && (((gd p 1).int == (gd q 1).int) && (((gd p 2).int == (gd q 2).int) && (((gd p 3).int == (gd q 3).int) && (true))))
theorem eqLock_ev (p q : List D) (N : Nat) : evFn Tryz.prog (find []) N [0, 1, 2, 3, 4, 9, 14, 19, 24] Tryz.f324 rb [⟨ag rILock, p⟩, ⟨ag rILock, q⟩] = some (bo, bif !((gd p 0).int == (gd q 0).int) then ob false else bif !((gd p 1).int == (gd q 1).int) then ob false else bif !((gd p 2).int == (gd q 2).int) then ob false else bif !((gd p 3).int == (gd q 3).int) then ob false else ob true) := by kernel_rfl
def eqLockE : Ent := (324, e2 (ag rILock) (ag rILock) fun p q => (⟨rb, [.b (eqLock p q)]⟩, true))
theorem eqLock_ok : EntOk Tryz.prog eqLockE := e2_ok fun p q _ => evFn_sound (N := 0) (ks := [0, 1, 2, 3, 4, 9, 14, 19, 24]) (key := bo) (find_ok (List.forall_mem_nil _)) (enters Tryz.func324 (by kernel_rfl) (by kernel_rfl)) Tryz.func324 fun _ => by
  rw [eqLock_ev]
  simp only [ne_step]
  rfl
theorem eqLock_refl (p : List D) : eqLock p p = true := by
  simp [eqLock]

def sizeLock (p : List D) : Nat := 0
theorem okLock_of {p : List D} {m : Nat} (hm : m ≤ 4294967296) (h : sizeLock p ≤ m) : okLock p = true := rfl
def cpLockS (z : D) : D := .l (z.rows.map fun r => cpLock (sub r 0 4))
def okLockS (z : D) : Bool := decide (z.rows.length ≤ 4294967296) && z.rows.all fun r => okLock (sub r 0 4)
noncomputable def toLockSL (N : Nat) (p : List D) : List D → Out := loopOf Tryz.prog (find [toLockE]) N [0, 2, 3, 4, 11] Tryz.f247 (sd (.sl 138)) [⟨sd (.sl 312), p⟩] 0
theorem toLockS_rd (p : List D) (N : Nat) (z x2 : D) (rows : List (List D)) (k : Int) : toLockSL N p [z, x2, .l rows, .i k] = bif decide (k < z.rows.length) then nd (inRange k z.rows.length) (nd (okLock (sub (z.rows.getD k.toNat []) 0 4)) (nd (inRange k rows.length) (nx [z, x2, .l (rows.set k.toNat (cpLock (sub (z.rows.getD k.toNat []) 0 4))), .i (w64 (k + 1))]))) else ex 0 [z, x2, .l rows, .i k] := by kernel_rfl
theorem toLockS_ev (p : List D) (N : Nat) : evFn Tryz.prog (find [toLockE]) N [0, 2, 3, 4, 11] Tryz.f247 (sd (.sl 138)) [⟨sd (.sl 312), p⟩] = some (bo, nd (decide (0 ≤ ((gd p 0).rows.length : Int)) && decide (((gd p 0).rows.length : Int) = ((gd p 0).rows.length : Int)) && decide (((gd p 0).rows.length : Int) ≤ 4294967296) && true && true)
    (let o := iter (toLockSL N p) N [gd p 0, .l [], .l (List.replicate (gd p 0).rows.length [.i 0, .i 0, .i 0, .i 0]), .i 0]
     nd o.isSome (nd (o.code == 2) (some (1, [gd o.pay 2]))))) := by kernel_rfl
def toLockSE : Ent := (247, e1 (sd (.sl 312)) fun p => (⟨sd (.sl 138), [cpLockS (gd p 0)]⟩, okLockS (gd p 0)))
theorem toLockS_ok : EntOk Tryz.prog toLockSE := e1_ok fun p h => evFn_sound (N := (gd p 0).rows.length + 1) (ks := [0, 2, 3, 4, 11]) (key := bo) (find_ok (List.forall_mem_cons.2 ⟨toLock_ok, List.forall_mem_nil _⟩)) (enters Tryz.func247 (by kernel_rfl) (by kernel_rfl)) Tryz.func247 fun hw => by
  have h : okLockS (gd p 0) = true := h
  simp only [okLockS, Bool.and_eq_true, decide_eq_true_eq, List.all_eq_true] at h
  rw [toLockS_ev, fill_loop (ok := fun r => okLock (sub r 0 4)) (f := fun r => cpLock (sub r 0 4)) [.i 0, .i 0, .i 0, .i 0] (wt_sl (hw ⟨sd (.sl 312), p⟩ (by simp))) h.2 (toLockS_rd p _ _ _) (by omega)]
  rw [show decide (((gd p 0).rows.length : Int) ≤ 4294967296) = true from decide_eq_true (by omega), show decide (0 ≤ ((gd p 0).rows.length : Int)) = true from decide_eq_true (by omega), decide_eq_true (rfl : ((gd p 0).rows.length : Int) = _)]
  rfl

def eqLockS : D → D → Bool := alikeS (fun r s => eqLock (sub r 0 4) (sub s 0 4))
noncomputable def eqLockSL (N : Nat) (p q : List D) : List D → Out := loopOf Tryz.prog (find [eqLockE]) N [0, 1, 4, 5, 10, 14, 26] Tryz.f280 rb [⟨sd (.sl 138), p⟩, ⟨sd (.sl 138), q⟩] 0
theorem eqLockS_rd (p q : List D) (N : Nat) (z u x y : D) (k : Int) : eqLockSL N p q [z, u, x, y, .i k] = bif decide (k < z.rows.length) then nd (inRange k z.rows.length) (nd (inRange k u.rows.length) (bif !(eqLock (sub (z.rows.getD k.toNat []) 0 4) (sub (u.rows.getD k.toNat []) 0 4)) then ob false else nx [z, u, x, y, .i (w64 (k + 1))])) else ex 0 [z, u, x, y, .i k] := by kernel_rfl
theorem eqLockS_ev (p q : List D) (N : Nat) : evFn Tryz.prog (find [eqLockE]) N [0, 1, 4, 5, 10, 14, 26] Tryz.f280 rb [⟨sd (.sl 138), p⟩, ⟨sd (.sl 138), q⟩] = some (bo, bif !(((gd p 0).rows.length : Int) == (gd q 0).rows.length) then ob false else
    (let o := iter (eqLockSL N p q) N [gd p 0, gd q 0, D0, .b (!(((gd p 0).rows.length : Int) == (gd q 0).rows.length)), .i 0]
     nd o.isSome (bif o.code == 1 then some (1, o.pay) else nd (o.code == 2) (ob true)))) := by kernel_rfl
def eqLockSE : Ent := (280, e2 (sd (.sl 138)) (sd (.sl 138)) fun p q => (⟨rb, [.b (eqLockS (gd p 0) (gd q 0))]⟩, true))
theorem eqLockS_ok : EntOk Tryz.prog eqLockSE := e2_ok fun p q _ => evFn_sound (N := (gd p 0).rows.length + 1) (ks := [0, 1, 4, 5, 10, 14, 26]) (key := bo) (find_ok (List.forall_mem_cons.2 ⟨eqLock_ok, List.forall_mem_nil _⟩)) (enters Tryz.func280 (by kernel_rfl) (by kernel_rfl)) Tryz.func280 fun hw => by
  rw [eqLockS_ev]
  by_cases hl : (gd p 0).rows.length = (gd q 0).rows.length
  · rw [like_loop (E := (fun r s => eqLock (sub r 0 4) (sub s 0 4))) (wt_sl (hw ⟨sd (.sl 138), p⟩ (by simp))) hl (eqLockS_rd p q _ _ _ _ _) (by omega)]
    rw [show ((((gd p 0).rows.length : Int)) == (gd q 0).rows.length) = true from beq_iff_eq.2 (by omega)]
    show some (bo, _) = some (bo, some (1, [D.b (alikeS (fun r s => eqLock (sub r 0 4) (sub s 0 4)) (gd p 0) (gd q 0))]))
    cases alikeS (fun r s => eqLock (sub r 0 4) (sub s 0 4)) (gd p 0) (gd q 0) <;> rfl
  · rw [show ((((gd p 0).rows.length : Int)) == (gd q 0).rows.length) = false from beq_eq_false_iff_ne.2 (by omega)]
    show some (bo, _) = some (bo, some (1, [D.b (alikeS (fun r s => eqLock (sub r 0 4) (sub s 0 4)) (gd p 0) (gd q 0))]))
    rw [show alikeS (fun r s => eqLock (sub r 0 4) (sub s 0 4)) (gd p 0) (gd q 0) = false from by simp [alikeS, hl]]
    rfl
theorem eqLockS_refl (z : D) : eqLockS z z = true := alikeS_refl (fun r => by exact eqLock_refl _) z

def sizeLockS (z : D) : Nat := z.rows.length
theorem szLockS_ev (p q : List D) (N : Nat) : evFn Tryz.prog (find []) N [0, 1, 4, 10] Tryz.f232 ri [⟨sd (.sl 312), p⟩, ⟨ri, q⟩] = some (bo, bif decide (w64 ((gd q 0).int - (gd p 0).rows.length) < 0) then oi (-1) else oi (w64 ((gd q 0).int - (gd p 0).rows.length))) := by kernel_rfl
def szLockSE : Ent := (232, e2 (sd (.sl 312)) ri fun p q => (⟨ri, [.i (left (sizeLockS (gd p 0)) (gd q 0).int)]⟩, fair (gd q 0).int))
theorem szLockS_ok : EntOk Tryz.prog szLockSE := e2_ok fun p q h => evFn_sound (N := (gd p 0).rows.length + 1) (ks := [0, 1, 4, 10]) (key := bo) (find_ok (List.forall_mem_nil _)) (enters Tryz.func232 (by kernel_rfl) (by kernel_rfl)) Tryz.func232 fun hw => by
  have h : fair (gd q 0).int = true := h
  have hl := wt_sl (hw ⟨sd (.sl 312), p⟩ (by simp))
  have h2 : 0 ≤ (gd q 0).int ∧ (gd q 0).int ≤ 1048576 := by simpa [fair] using h
  rw [szLockS_ev, w64_id (by omega) (by omega)]
  rw [oi_if, left_sub]
  rfl

theorem okLockS_of {z : D} {m : Nat} (hm : m ≤ 4294967296) (h : sizeLockS z ≤ m) : okLockS z = true := okF (ok := fun r => okLock (sub r 0 4)) hm h fun _ => rfl

def rLHeld : List S := [si, .sl 315]
def rIHeld : List S := [si, .sl 132]
def cpHeld (p : List D) : List D := [gd p 0, cpWriteS (gd p 1)]
def okHeld (p : List D) : Bool := okWriteS (gd p 1)
theorem toHeld_ev (p : List D) (N : Nat) : evFn Tryz.prog (find [toWriteSE]) N [0, 1, 2, 3] Tryz.f303 (ag rIHeld) [⟨ag rLHeld, p⟩] = some (bo, nd (okWriteS (gd p 1)) (some (1, cpHeld p))) := by kernel_rfl
def toHeldE : Ent := (303, e1 (ag rLHeld) fun p => (⟨ag rIHeld, cpHeld p⟩, okHeld p))
theorem toHeld_ok : EntOk Tryz.prog toHeldE := e1_ok fun p h => evFn_sound (N := 0) (ks := [0, 1, 2, 3]) (key := bo) (find_ok (List.forall_mem_cons.2 ⟨toWriteS_ok, List.forall_mem_nil _⟩)) (enters Tryz.func303 (by kernel_rfl) (by kernel_rfl)) Tryz.func303 fun _ => by
  have h : okHeld p = true := h
  simp only [okHeld, Bool.and_eq_true] at h
  rw [toHeld_ev]
  simp only [nd, h, cond_true]

def eqHeld (p q : List D) : Bool := ((gd p 0).int == (gd q 0).int) && ((eqWriteS (gd p 1) (gd q 1)) && (true))
theorem eqHeld_ev (p q : List D) (N : Nat) : evFn Tryz.prog (find [eqWriteSE]) N [0, 1, 2, 3, 4, 9, 15] Tryz.f325 rb [⟨ag rIHeld, p⟩, ⟨ag rIHeld, q⟩] = some (bo, bif !((gd p 0).int == (gd q 0).int) then ob false else bif !(eqWriteS (gd p 1) (gd q 1)) then ob false else ob true) := by kernel_rfl
def eqHeldE : Ent := (325, e2 (ag rIHeld) (ag rIHeld) fun p q => (⟨rb, [.b (eqHeld p q)]⟩, true))
theorem eqHeld_ok : EntOk Tryz.prog eqHeldE := e2_ok fun p q _ => evFn_sound (N := 0) (ks := [0, 1, 2, 3, 4, 9, 15]) (key := bo) (find_ok (List.forall_mem_cons.2 ⟨eqWriteS_ok, List.forall_mem_nil _⟩)) (enters Tryz.func325 (by kernel_rfl) (by kernel_rfl)) Tryz.func325 fun _ => by
  rw [eqHeld_ev]
  simp only [ne_step]
  rfl
theorem eqHeld_refl (p : List D) : eqHeld p p = true := by
  simp [eqHeld, eqWriteS_refl]

def sizeHeld (p : List D) : Nat := sizeWriteS (gd p 1)
theorem szHeld_ev (p q : List D) (N : Nat) : evFn Tryz.prog (find [szWriteSE]) N [0, 1, 2, 4, 10] Tryz.f297 ri [⟨ag rLHeld, p⟩, ⟨ri, q⟩] = some (bo, nd (fair (gd q 0).int) (bif ltI (left (sizeWriteS (gd p 1)) (gd q 0).int) 0 then oi (-1) else oi (left (sizeWriteS (gd p 1)) (gd q 0).int))) := by kernel_rfl
def szHeldE : Ent := (297, e2 (ag rLHeld) ri fun p q => (⟨ri, [.i (left (sizeHeld p) (gd q 0).int)]⟩, fair (gd q 0).int))
theorem szHeld_ok : EntOk Tryz.prog szHeldE := e2_ok fun p q h => evFn_sound (N := 0) (ks := [0, 1, 2, 4, 10]) (key := bo) (find_ok (List.forall_mem_cons.2 ⟨szWriteS_ok, List.forall_mem_nil _⟩)) (enters Tryz.func297 (by kernel_rfl) (by kernel_rfl)) Tryz.func297 fun _ => by
  have h : fair (gd q 0).int = true := h
  rw [szHeld_ev]
  simp only [sz1, szN]
  simp only [h, nd, cond_true]
  rfl

theorem okHeld_of {p : List D} {m : Nat} (hm : m ≤ 4294967296) (h : sizeHeld p ≤ m) : okHeld p = true := by
  unfold sizeHeld at h
  simp only [okHeld, Bool.and_eq_true]
  exact okWriteS_of hm (show sizeWriteS (gd p 1) ≤ m from by omega)
def cpHeldS (z : D) : D := .l (z.rows.map fun r => cpHeld (sub r 0 2))
def okHeldS (z : D) : Bool := decide (z.rows.length ≤ 4294967296) && z.rows.all fun r => okHeld (sub r 0 2)
noncomputable def toHeldSL (N : Nat) (p : List D) : List D → Out := loopOf Tryz.prog (find [toHeldE]) N [0, 2, 3, 4, 11] Tryz.f248 (sd (.sl 248)) [⟨sd (.sl 303), p⟩] 0
theorem toHeldS_rd (p : List D) (N : Nat) (z x2 : D) (rows : List (List D)) (k : Int) : toHeldSL N p [z, x2, .l rows, .i k] = bif decide (k < z.rows.length) then nd (inRange k z.rows.length) (nd (okHeld (sub (z.rows.getD k.toNat []) 0 2)) (nd (inRange k rows.length) (nx [z, x2, .l (rows.set k.toNat (cpHeld (sub (z.rows.getD k.toNat []) 0 2))), .i (w64 (k + 1))]))) else ex 0 [z, x2, .l rows, .i k] := by kernel_rfl
theorem toHeldS_ev (p : List D) (N : Nat) : evFn Tryz.prog (find [toHeldE]) N [0, 2, 3, 4, 11] Tryz.f248 (sd (.sl 248)) [⟨sd (.sl 303), p⟩] = some (bo, nd (decide (0 ≤ ((gd p 0).rows.length : Int)) && decide (((gd p 0).rows.length : Int) = ((gd p 0).rows.length : Int)) && decide (((gd p 0).rows.length : Int) ≤ 4294967296) && true && true)
    (let o := iter (toHeldSL N p) N [gd p 0, .l [], .l (List.replicate (gd p 0).rows.length [.i 0, .l []]), .i 0]
     nd o.isSome (nd (o.code == 2) (some (1, [gd o.pay 2]))))) := by kernel_rfl
def toHeldSE : Ent := (248, e1 (sd (.sl 303)) fun p => (⟨sd (.sl 248), [cpHeldS (gd p 0)]⟩, okHeldS (gd p 0)))
theorem toHeldS_ok : EntOk Tryz.prog toHeldSE := e1_ok fun p h => evFn_sound (N := (gd p 0).rows.length + 1) (ks := [0, 2, 3, 4, 11]) (key := bo) (find_ok (List.forall_mem_cons.2 ⟨toHeld_ok, List.forall_mem_nil _⟩)) (enters Tryz.func248 (by kernel_rfl) (by kernel_rfl)) Tryz.func248 fun hw => by
  have h : okHeldS (gd p 0) = true := h
  simp only [okHeldS, Bool.and_eq_true, decide_eq_true_eq, List.all_eq_true] at h
  rw [toHeldS_ev, fill_loop (ok := fun r => okHeld (sub r 0 2)) (f := fun r => cpHeld (sub r 0 2)) [.i 0, .l []] (wt_sl (hw ⟨sd (.sl 303), p⟩ (by simp))) h.2 (toHeldS_rd p _ _ _) (by omega)]
  rw [show decide (((gd p 0).rows.length : Int) ≤ 4294967296) = true from decide_eq_true (by omega), show decide (0 ≤ ((gd p 0).rows.length : Int)) = true from decide_eq_true (by omega), decide_eq_true (rfl : ((gd p 0).rows.length : Int) = _)]
  rfl

def eqHeldS : D → D → Bool := alikeS (fun r s => eqHeld (sub r 0 2) (sub s 0 2))
noncomputable def eqHeldSL (N : Nat) (p q : List D) : List D → Out := loopOf Tryz.prog (find [eqHeldE]) N [0, 1, 4, 5, 10, 14, 26] Tryz.f281 rb [⟨sd (.sl 248), p⟩, ⟨sd (.sl 248), q⟩] 0
theorem eqHeldS_rd (p q : List D) (N : Nat) (z u x y : D) (k : Int) : eqHeldSL N p q [z, u, x, y, .i k] = bif decide (k < z.rows.length) then nd (inRange k z.rows.length) (nd (inRange k u.rows.length) (bif !(eqHeld (sub (z.rows.getD k.toNat []) 0 2) (sub (u.rows.getD k.toNat []) 0 2)) then ob false else nx [z, u, x, y, .i (w64 (k + 1))])) else ex 0 [z, u, x, y, .i k] := by kernel_rfl
theorem eqHeldS_ev (p q : List D) (N : Nat) : evFn Tryz.prog (find [eqHeldE]) N [0, 1, 4, 5, 10, 14, 26] Tryz.f281 rb [⟨sd (.sl 248), p⟩, ⟨sd (.sl 248), q⟩] = some (bo, bif !(((gd p 0).rows.length : Int) == (gd q 0).rows.length) then ob false else
    (let o := iter (eqHeldSL N p q) N [gd p 0, gd q 0, D0, .b (!(((gd p 0).rows.length : Int) == (gd q 0).rows.length)), .i 0]
     nd o.isSome (bif o.code == 1 then some (1, o.pay) else nd (o.code == 2) (ob true)))) := by kernel_rfl
def eqHeldSE : Ent := (281, e2 (sd (.sl 248)) (sd (.sl 248)) fun p q => (⟨rb, [.b (eqHeldS (gd p 0) (gd q 0))]⟩, true))
theorem eqHeldS_ok : EntOk Tryz.prog eqHeldSE := e2_ok fun p q _ => evFn_sound (N := (gd p 0).rows.length + 1) (ks := [0, 1, 4, 5, 10, 14, 26]) (key := bo) (find_ok (List.forall_mem_cons.2 ⟨eqHeld_ok, List.forall_mem_nil _⟩)) (enters Tryz.func281 (by kernel_rfl) (by kernel_rfl)) Tryz.func281 fun hw => by
  rw [eqHeldS_ev]
  by_cases hl : (gd p 0).rows.length = (gd q 0).rows.length
  · rw [like_loop (E := (fun r s => eqHeld (sub r 0 2) (sub s 0 2))) (wt_sl (hw ⟨sd (.sl 248), p⟩ (by simp))) hl (eqHeldS_rd p q _ _ _ _ _) (by omega)]
    rw [show ((((gd p 0).rows.length : Int)) == (gd q 0).rows.length) = true from beq_iff_eq.2 (by omega)]
    show some (bo, _) = some (bo, some (1, [D.b (alikeS (fun r s => eqHeld (sub r 0 2) (sub s 0 2)) (gd p 0) (gd q 0))]))
    cases alikeS (fun r s => eqHeld (sub r 0 2) (sub s 0 2)) (gd p 0) (gd q 0) <;> rfl
  · rw [show ((((gd p 0).rows.length : Int)) == (gd q 0).rows.length) = false from beq_eq_false_iff_ne.2 (by omega)]
    show some (bo, _) = some (bo, some (1, [D.b (alikeS (fun r s => eqHeld (sub r 0 2) (sub s 0 2)) (gd p 0) (gd q 0))]))
    rw [show alikeS (fun r s => eqHeld (sub r 0 2) (sub s 0 2)) (gd p 0) (gd q 0) = false from by simp [alikeS, hl]]
    rfl
theorem eqHeldS_refl (z : D) : eqHeldS z z = true := alikeS_refl (fun r => by exact eqHeld_refl _) z

def sizeHeldS (z : D) : Nat := z.rows.length + total (fun r => sizeHeld (sub r 0 2)) z.rows
noncomputable def szHeldSL (N : Nat) (p q : List D) : List D → Out := loopOf Tryz.prog (find [szHeldE]) N [0, 1, 4, 5, 11, 15, 25] Tryz.f233 ri [⟨sd (.sl 303), p⟩, ⟨ri, q⟩] 0
theorem szHeldS_rd (p q : List D) (N : Nat) (z x y : D) (n k : Int) : szHeldSL N p q [z, .i n, x, y, .i k] = bif decide (k < z.rows.length) then nd (inRange k z.rows.length) (nd (fair n) (bif decide (left (sizeHeld (sub (z.rows.getD k.toNat []) 0 2)) n < 0) then oi (-1) else nx [z, .i (left (sizeHeld (sub (z.rows.getD k.toNat []) 0 2)) n), x, y, .i (w64 (k + 1))])) else ex 0 [z, .i n, x, y, .i k] := by kernel_rfl
theorem szHeldS_ev (p q : List D) (N : Nat) : evFn Tryz.prog (find [szHeldE]) N [0, 1, 4, 5, 11, 15, 25] Tryz.f233 ri [⟨sd (.sl 303), p⟩, ⟨ri, q⟩] = some (bo, bif decide (w64 ((gd q 0).int - (gd p 0).rows.length) < 0) then oi (-1) else
    (let o := iter (szHeldSL N p q) N [gd p 0, .i (w64 ((gd q 0).int - (gd p 0).rows.length)), .i 0, .b (decide (w64 ((gd q 0).int - (gd p 0).rows.length) < 0)), .i 0]
     nd o.isSome (bif o.code == 1 then some (1, o.pay) else nd (o.code == 2) (some (1, [gd o.pay 1]))))) := by kernel_rfl
def szHeldSE : Ent := (233, e2 (sd (.sl 303)) ri fun p q => (⟨ri, [.i (left (sizeHeldS (gd p 0)) (gd q 0).int)]⟩, fair (gd q 0).int))
theorem szHeldS_ok : EntOk Tryz.prog szHeldSE := e2_ok fun p q h => evFn_sound (N := (gd p 0).rows.length + 1) (ks := [0, 1, 4, 5, 11, 15, 25]) (key := bo) (find_ok (List.forall_mem_cons.2 ⟨szHeld_ok, List.forall_mem_nil _⟩)) (enters Tryz.func233 (by kernel_rfl) (by kernel_rfl)) Tryz.func233 fun hw => by
  have h : fair (gd q 0).int = true := h
  have hl := wt_sl (hw ⟨sd (.sl 303), p⟩ (by simp))
  have h2 : 0 ≤ (gd q 0).int ∧ (gd q 0).int ≤ 1048576 := by simpa [fair] using h
  rw [szHeldS_ev, w64_id (by omega) (by omega)]
  by_cases hn : (gd q 0).int - ((gd p 0).rows.length : Int) < 0
  · rw [decide_eq_true hn, cond_true]
    have e : left (sizeHeldS (gd p 0)) (gd q 0).int = -1 := if_neg (by simp only [sizeHeldS]; push_cast; omega)
    rw [e]
  · rw [decide_eq_false hn, cond_false]
    have := size_loop (size := fun r => sizeHeld (sub r 0 2)) hl (szHeldS_rd p q ((gd p 0).rows.length + 1) (gd p 0) (.i 0) (.b false)) (gd p 0).rows.length 0 ((gd p 0).rows.length + 1) ((gd q 0).int - ((gd p 0).rows.length : Int)) (by omega) (by omega) (by omega) (by omega)
    simp only [Int.natCast_zero, List.drop_zero] at this
    rw [this]
    by_cases hq : (total (fun r => sizeHeld (sub r 0 2)) (gd p 0).rows : Int) ≤ (gd q 0).int - ((gd p 0).rows.length : Int)
    · have e : left (sizeHeldS (gd p 0)) (gd q 0).int = (gd q 0).int - ((gd p 0).rows.length : Int) - (total (fun r => sizeHeld (sub r 0 2)) (gd p 0).rows : Int) := by
        rw [left, if_pos (by simp only [sizeHeldS]; push_cast; omega)]
        simp only [sizeHeldS]; push_cast; omega
      rw [if_pos hq, e]
      rfl
    · have e : left (sizeHeldS (gd p 0)) (gd q 0).int = -1 := if_neg (by simp only [sizeHeldS]; push_cast; omega)
      rw [if_neg hq, e]
      rfl

theorem okHeldS_of {z : D} {m : Nat} (hm : m ≤ 4294967296) (h : sizeHeldS z ≤ m) : okHeldS z = true := okS (ok := fun r => okHeld (sub r 0 2)) (size := fun r => sizeHeld (sub r 0 2)) hm h fun _ h => okHeld_of hm h

end Go.Proofs.YtchceahcaaibcaaGreat
