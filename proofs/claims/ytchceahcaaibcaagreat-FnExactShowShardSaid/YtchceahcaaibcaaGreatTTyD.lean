import Derived.Test.YtchceahcaaibcaaGreatTTyC
namespace Go.Proofs.YtchceahcaaibcaaGreat
set_option linter.unusedSimpArgs false
set_option linter.unusedVariables false
set_option maxRecDepth 4096
def rLSeen : List S := [si, si, si]
def rISeen : List S := [si, si, si]
def cpSeen (p : List D) : List D := [gd p 0, gd p 1, gd p 2]
def okSeen (p : List D) : Bool := true
theorem toSeen_ev (p : List D) (N : Nat) : evFn Tryz.prog (find []) N [0, 1, 2, 3] Tryz.f305 (ag rISeen) [⟨ag rLSeen, p⟩] = some (bo, some (1, cpSeen p)) := by kernel_rfl
def toSeenE : Ent := (305, e1 (ag rLSeen) fun p => (⟨ag rISeen, cpSeen p⟩, okSeen p))
theorem toSeen_ok : EntOk Tryz.prog toSeenE := e1_ok fun p h => evFn_sound (N := 0) (ks := [0, 1, 2, 3]) (key := bo) (find_ok (List.forall_mem_nil _)) (enters Tryz.func305 (by kernel_rfl) (by kernel_rfl)) Tryz.func305 fun _ => by
  have h : okSeen p = true := h
  simp only [okSeen, Bool.and_eq_true] at h
  rw [toSeen_ev]

def eqSeen (p q : List D) : Bool := ((gd p 0).int == (gd q 0).int) && (((gd p 1).int == (gd q 1).int) && (((gd p 2).int == (gd q 2).int) && (true)))
theorem eqSeen_ev (p q : List D) (N : Nat) : evFn Tryz.prog (find []) N [0, 1, 2, 3, 4, 9, 14, 19] Tryz.f327 rb [⟨ag rISeen, p⟩, ⟨ag rISeen, q⟩] = some (bo, bif !((gd p 0).int == (gd q 0).int) then ob false else bif !((gd p 1).int == (gd q 1).int) then ob false else bif !((gd p 2).int == (gd q 2).int) then ob false else ob true) := by kernel_rfl
def eqSeenE : Ent := (327, e2 (ag rISeen) (ag rISeen) fun p q => (⟨rb, [.b (eqSeen p q)]⟩, true))
theorem eqSeen_ok : EntOk Tryz.prog eqSeenE := e2_ok fun p q _ => evFn_sound (N := 0) (ks := [0, 1, 2, 3, 4, 9, 14, 19]) (key := bo) (find_ok (List.forall_mem_nil _)) (enters Tryz.func327 (by kernel_rfl) (by kernel_rfl)) Tryz.func327 fun _ => by
  rw [eqSeen_ev]
  simp only [ne_step]
  rfl
theorem eqSeen_refl (p : List D) : eqSeen p p = true := by
  simp [eqSeen]

def sizeSeen (p : List D) : Nat := 0
theorem okSeen_of {p : List D} {m : Nat} (hm : m ≤ 4294967296) (h : sizeSeen p ≤ m) : okSeen p = true := rfl
def cpSeenS (z : D) : D := .l (z.rows.map fun r => cpSeen (sub r 0 3))
def okSeenS (z : D) : Bool := decide (z.rows.length ≤ 4294967296) && z.rows.all fun r => okSeen (sub r 0 3)
noncomputable def toSeenSL (N : Nat) (p : List D) : List D → Out := loopOf Tryz.prog (find [toSeenE]) N [0, 2, 3, 4, 11] Tryz.f251 (sd (.sl 130)) [⟨sd (.sl 317), p⟩] 0
theorem toSeenS_rd (p : List D) (N : Nat) (z x2 : D) (rows : List (List D)) (k : Int) : toSeenSL N p [z, x2, .l rows, .i k] = bif decide (k < z.rows.length) then nd (inRange k z.rows.length) (nd (okSeen (sub (z.rows.getD k.toNat []) 0 3)) (nd (inRange k rows.length) (nx [z, x2, .l (rows.set k.toNat (cpSeen (sub (z.rows.getD k.toNat []) 0 3))), .i (w64 (k + 1))]))) else ex 0 [z, x2, .l rows, .i k] := by kernel_rfl
theorem toSeenS_ev (p : List D) (N : Nat) : evFn Tryz.prog (find [toSeenE]) N [0, 2, 3, 4, 11] Tryz.f251 (sd (.sl 130)) [⟨sd (.sl 317), p⟩] = some (bo, nd (decide (0 ≤ ((gd p 0).rows.length : Int)) && decide (((gd p 0).rows.length : Int) = ((gd p 0).rows.length : Int)) && decide (((gd p 0).rows.length : Int) ≤ 4294967296) && true && true)
    (let o := iter (toSeenSL N p) N [gd p 0, .l [], .l (List.replicate (gd p 0).rows.length [.i 0, .i 0, .i 0]), .i 0]
     nd o.isSome (nd (o.code == 2) (some (1, [gd o.pay 2]))))) := by kernel_rfl
def toSeenSE : Ent := (251, e1 (sd (.sl 317)) fun p => (⟨sd (.sl 130), [cpSeenS (gd p 0)]⟩, okSeenS (gd p 0)))
theorem toSeenS_ok : EntOk Tryz.prog toSeenSE := e1_ok fun p h => evFn_sound (N := (gd p 0).rows.length + 1) (ks := [0, 2, 3, 4, 11]) (key := bo) (find_ok (List.forall_mem_cons.2 ⟨toSeen_ok, List.forall_mem_nil _⟩)) (enters Tryz.func251 (by kernel_rfl) (by kernel_rfl)) Tryz.func251 fun hw => by
  have h : okSeenS (gd p 0) = true := h
  simp only [okSeenS, Bool.and_eq_true, decide_eq_true_eq, List.all_eq_true] at h
  rw [toSeenS_ev, fill_loop (ok := fun r => okSeen (sub r 0 3)) (f := fun r => cpSeen (sub r 0 3)) [.i 0, .i 0, .i 0] (wt_sl (hw ⟨sd (.sl 317), p⟩ (by simp))) h.2 (toSeenS_rd p _ _ _) (by omega)]
  rw [show decide (((gd p 0).rows.length : Int) ≤ 4294967296) = true from decide_eq_true (by omega), show decide (0 ≤ ((gd p 0).rows.length : Int)) = true from decide_eq_true (by omega), decide_eq_true (rfl : ((gd p 0).rows.length : Int) = _)]
  rfl

def eqSeenS : D → D → Bool := alikeS (fun r s => eqSeen (sub r 0 3) (sub s 0 3))
noncomputable def eqSeenSL (N : Nat) (p q : List D) : List D → Out := loopOf Tryz.prog (find [eqSeenE]) N [0, 1, 4, 5, 10, 14, 26] Tryz.f284 rb [⟨sd (.sl 130), p⟩, ⟨sd (.sl 130), q⟩] 0
theorem eqSeenS_rd (p q : List D) (N : Nat) (z u x y : D) (k : Int) : eqSeenSL N p q [z, u, x, y, .i k] = bif decide (k < z.rows.length) then nd (inRange k z.rows.length) (nd (inRange k u.rows.length) (bif !(eqSeen (sub (z.rows.getD k.toNat []) 0 3) (sub (u.rows.getD k.toNat []) 0 3)) then ob false else nx [z, u, x, y, .i (w64 (k + 1))])) else ex 0 [z, u, x, y, .i k] := by kernel_rfl
theorem eqSeenS_ev (p q : List D) (N : Nat) : evFn Tryz.prog (find [eqSeenE]) N [0, 1, 4, 5, 10, 14, 26] Tryz.f284 rb [⟨sd (.sl 130), p⟩, ⟨sd (.sl 130), q⟩] = some (bo, bif !(((gd p 0).rows.length : Int) == (gd q 0).rows.length) then ob false else
    (let o := iter (eqSeenSL N p q) N [gd p 0, gd q 0, D0, .b (!(((gd p 0).rows.length : Int) == (gd q 0).rows.length)), .i 0]
     nd o.isSome (bif o.code == 1 then some (1, o.pay) else nd (o.code == 2) (ob true)))) := by kernel_rfl
def eqSeenSE : Ent := (284, e2 (sd (.sl 130)) (sd (.sl 130)) fun p q => (⟨rb, [.b (eqSeenS (gd p 0) (gd q 0))]⟩, true))
theorem eqSeenS_ok : EntOk Tryz.prog eqSeenSE := e2_ok fun p q _ => evFn_sound (N := (gd p 0).rows.length + 1) (ks := [0, 1, 4, 5, 10, 14, 26]) (key := bo) (find_ok (List.forall_mem_cons.2 ⟨eqSeen_ok, List.forall_mem_nil _⟩)) (enters Tryz.func284 (by kernel_rfl) (by kernel_rfl)) Tryz.func284 fun hw => by
  rw [eqSeenS_ev]
  by_cases hl : (gd p 0).rows.length = (gd q 0).rows.length
  · rw [like_loop (E := (fun r s => eqSeen (sub r 0 3) (sub s 0 3))) (wt_sl (hw ⟨sd (.sl 130), p⟩ (by simp))) hl (eqSeenS_rd p q _ _ _ _ _) (by omega)]
    rw [show ((((gd p 0).rows.length : Int)) == (gd q 0).rows.length) = true from beq_iff_eq.2 (by omega)]
    show some (bo, _) = some (bo, some (1, [D.b (alikeS (fun r s => eqSeen (sub r 0 3) (sub s 0 3)) (gd p 0) (gd q 0))]))
    cases alikeS (fun r s => eqSeen (sub r 0 3) (sub s 0 3)) (gd p 0) (gd q 0) <;> rfl
  · rw [show ((((gd p 0).rows.length : Int)) == (gd q 0).rows.length) = false from beq_eq_false_iff_ne.2 (by omega)]
    show some (bo, _) = some (bo, some (1, [D.b (alikeS (fun r s => eqSeen (sub r 0 3) (sub s 0 3)) (gd p 0) (gd q 0))]))
    rw [show alikeS (fun r s => eqSeen (sub r 0 3) (sub s 0 3)) (gd p 0) (gd q 0) = false from by simp [alikeS, hl]]
    rfl
theorem eqSeenS_refl (z : D) : eqSeenS z z = true := alikeS_refl (fun r => by exact eqSeen_refl _) z

def sizeSeenS (z : D) : Nat := z.rows.length
theorem szSeenS_ev (p q : List D) (N : Nat) : evFn Tryz.prog (find []) N [0, 1, 4, 10] Tryz.f236 ri [⟨sd (.sl 317), p⟩, ⟨ri, q⟩] = some (bo, bif decide (w64 ((gd q 0).int - (gd p 0).rows.length) < 0) then oi (-1) else oi (w64 ((gd q 0).int - (gd p 0).rows.length))) := by kernel_rfl
def szSeenSE : Ent := (236, e2 (sd (.sl 317)) ri fun p q => (⟨ri, [.i (left (sizeSeenS (gd p 0)) (gd q 0).int)]⟩, fair (gd q 0).int))
theorem szSeenS_ok : EntOk Tryz.prog szSeenSE := e2_ok fun p q h => evFn_sound (N := (gd p 0).rows.length + 1) (ks := [0, 1, 4, 10]) (key := bo) (find_ok (List.forall_mem_nil _)) (enters Tryz.func236 (by kernel_rfl) (by kernel_rfl)) Tryz.func236 fun hw => by
  have h : fair (gd q 0).int = true := h
  have hl := wt_sl (hw ⟨sd (.sl 317), p⟩ (by simp))
  have h2 : 0 ≤ (gd q 0).int ∧ (gd q 0).int ≤ 1048576 := by simpa [fair] using h
  rw [szSeenS_ev, w64_id (by omega) (by omega)]
  rw [oi_if, left_sub]
  rfl

theorem okSeenS_of {z : D} {m : Nat} (hm : m ≤ 4294967296) (h : sizeSeenS z ≤ m) : okSeenS z = true := okF (ok := fun r => okSeen (sub r 0 3)) hm h fun _ => rfl

def rLClient : List S := [si, si, si, .sl 315, .sl 317, si, si, si, .sl 252]
def rIClient : List S := [si, si, si, .sl 132, .sl 130, si, si, si, .sl 97]
def cpClient (p : List D) : List D := [gd p 0, gd p 1, gd p 2, cpWriteS (gd p 3), cpSeenS (gd p 4), gd p 5, gd p 6, gd p 7, cpPartS (gd p 8)]
def okClient (p : List D) : Bool := okWriteS (gd p 3) && (okSeenS (gd p 4) && (okPartS (gd p 8)))
theorem toClient_ev (p : List D) (N : Nat) : evFn Tryz.prog (find [toWriteSE, toSeenSE, toPartSE]) N [0, 1, 2, 3] Tryz.f152 (ag rIClient) [⟨ag rLClient, p⟩] = some (bo, nd (okWriteS (gd p 3)) (nd (okSeenS (gd p 4)) (nd (okPartS (gd p 8)) (some (1, cpClient p))))) := by kernel_rfl
def toClientE : Ent := (152, e1 (ag rLClient) fun p => (⟨ag rIClient, cpClient p⟩, okClient p))
theorem toClient_ok : EntOk Tryz.prog toClientE := e1_ok fun p h => evFn_sound (N := 0) (ks := [0, 1, 2, 3]) (key := bo) (find_ok (List.forall_mem_cons.2 ⟨toWriteS_ok, List.forall_mem_cons.2 ⟨toSeenS_ok, List.forall_mem_cons.2 ⟨toPartS_ok, List.forall_mem_nil _⟩⟩⟩)) (enters Tryz.func152 (by kernel_rfl) (by kernel_rfl)) Tryz.func152 fun _ => by
  have h : okClient p = true := h
  simp only [okClient, Bool.and_eq_true] at h
  rw [toClient_ev]
  simp only [nd, h, cond_true]

def eqClient (p q : List D) : Bool := ((gd p 0).int == (gd q 0).int) && (((gd p 1).int == (gd q 1).int) && (((gd p 2).int == (gd q 2).int) && ((eqWriteS (gd p 3) (gd q 3)) && ((eqSeenS (gd p 4) (gd q 4)) && (((gd p 5).int == (gd q 5).int) && (((gd p 6).int == (gd q 6).int) && (((gd p 7).int == (gd q 7).int) && ((eqPartS (gd p 8) (gd q 8)) && (true)))))))))
theorem eqClient_ev (p q : List D) (N : Nat) : evFn Tryz.prog (find [eqWriteSE, eqSeenSE, eqPartSE]) N [0, 1, 2, 3, 4, 9, 14, 19, 25, 31, 36, 41, 46, 52] Tryz.f199 rb [⟨ag rIClient, p⟩, ⟨ag rIClient, q⟩] = some (bo, bif !((gd p 0).int == (gd q 0).int) then ob false else bif !((gd p 1).int == (gd q 1).int) then ob false else bif !((gd p 2).int == (gd q 2).int) then ob false else bif !(eqWriteS (gd p 3) (gd q 3)) then ob false else bif !(eqSeenS (gd p 4) (gd q 4)) then ob false else bif !((gd p 5).int == (gd q 5).int) then ob false else bif !((gd p 6).int == (gd q 6).int) then ob false else bif !((gd p 7).int == (gd q 7).int) then ob false else bif !(eqPartS (gd p 8) (gd q 8)) then ob false else ob true) := by kernel_rfl
def eqClientE : Ent := (199, e2 (ag rIClient) (ag rIClient) fun p q => (⟨rb, [.b (eqClient p q)]⟩, true))
theorem eqClient_ok : EntOk Tryz.prog eqClientE := e2_ok fun p q _ => evFn_sound (N := 0) (ks := [0, 1, 2, 3, 4, 9, 14, 19, 25, 31, 36, 41, 46, 52]) (key := bo) (find_ok (List.forall_mem_cons.2 ⟨eqWriteS_ok, List.forall_mem_cons.2 ⟨eqSeenS_ok, List.forall_mem_cons.2 ⟨eqPartS_ok, List.forall_mem_nil _⟩⟩⟩)) (enters Tryz.func199 (by kernel_rfl) (by kernel_rfl)) Tryz.func199 fun _ => by
  rw [eqClient_ev]
  simp only [ne_step]
  rfl
theorem eqClient_refl (p : List D) : eqClient p p = true := by
  simp [eqClient, eqWriteS_refl, eqSeenS_refl, eqPartS_refl]

def sizeClient (p : List D) : Nat := sizeWriteS (gd p 3) + (sizeSeenS (gd p 4) + (sizePartS (gd p 8)))
theorem szClient_ev (p q : List D) (N : Nat) : evFn Tryz.prog (find [szWriteSE, szSeenSE, szPartSE]) N [0, 1, 2, 4, 10, 16, 22] Tryz.f123 ri [⟨ag rLClient, p⟩, ⟨ri, q⟩] = some (bo, nd (fair (gd q 0).int) (bif ltI (left (sizeWriteS (gd p 3)) (gd q 0).int) 0 then oi (-1) else nd (fair (left (sizeWriteS (gd p 3)) (gd q 0).int)) (bif ltI (left (sizeSeenS (gd p 4)) (left (sizeWriteS (gd p 3)) (gd q 0).int)) 0 then oi (-1) else nd (fair (left (sizeSeenS (gd p 4)) (left (sizeWriteS (gd p 3)) (gd q 0).int))) (bif ltI (left (sizePartS (gd p 8)) (left (sizeSeenS (gd p 4)) (left (sizeWriteS (gd p 3)) (gd q 0).int))) 0 then oi (-1) else oi (left (sizePartS (gd p 8)) (left (sizeSeenS (gd p 4)) (left (sizeWriteS (gd p 3)) (gd q 0).int))))))) := by kernel_rfl
def szClientE : Ent := (123, e2 (ag rLClient) ri fun p q => (⟨ri, [.i (left (sizeClient p) (gd q 0).int)]⟩, fair (gd q 0).int))
theorem szClient_ok : EntOk Tryz.prog szClientE := e2_ok fun p q h => evFn_sound (N := 0) (ks := [0, 1, 2, 4, 10, 16, 22]) (key := bo) (find_ok (List.forall_mem_cons.2 ⟨szWriteS_ok, List.forall_mem_cons.2 ⟨szSeenS_ok, List.forall_mem_cons.2 ⟨szPartS_ok, List.forall_mem_nil _⟩⟩⟩)) (enters Tryz.func123 (by kernel_rfl) (by kernel_rfl)) Tryz.func123 fun _ => by
  have h : fair (gd q 0).int = true := h
  rw [szClient_ev]
  simp only [sz1, szN]
  simp only [h, nd, cond_true]
  rfl

theorem okClient_of {p : List D} {m : Nat} (hm : m ≤ 4294967296) (h : sizeClient p ≤ m) : okClient p = true := by
  unfold sizeClient at h
  simp only [okClient, Bool.and_eq_true]
  exact ⟨okWriteS_of hm (show sizeWriteS (gd p 3) ≤ m from by omega), okSeenS_of hm (show sizeSeenS (gd p 4) ≤ m from by omega), okPartS_of hm (show sizePartS (gd p 8) ≤ m from by omega)⟩
def cpClientS (z : D) : D := .l (z.rows.map fun r => cpClient (sub r 0 9))
def okClientS (z : D) : Bool := decide (z.rows.length ≤ 4294967296) && z.rows.all fun r => okClient (sub r 0 9)
noncomputable def toClientSL (N : Nat) (p : List D) : List D → Out := loopOf Tryz.prog (find [toClientE]) N [0, 2, 3, 4, 11] Tryz.f57 (sd (.sl 102)) [⟨sd (.sl 160), p⟩] 0
theorem toClientS_rd (p : List D) (N : Nat) (z x2 : D) (rows : List (List D)) (k : Int) : toClientSL N p [z, x2, .l rows, .i k] = bif decide (k < z.rows.length) then nd (inRange k z.rows.length) (nd (okClient (sub (z.rows.getD k.toNat []) 0 9)) (nd (inRange k rows.length) (nx [z, x2, .l (rows.set k.toNat (cpClient (sub (z.rows.getD k.toNat []) 0 9))), .i (w64 (k + 1))]))) else ex 0 [z, x2, .l rows, .i k] := by kernel_rfl
theorem toClientS_ev (p : List D) (N : Nat) : evFn Tryz.prog (find [toClientE]) N [0, 2, 3, 4, 11] Tryz.f57 (sd (.sl 102)) [⟨sd (.sl 160), p⟩] = some (bo, nd (decide (0 ≤ ((gd p 0).rows.length : Int)) && decide (((gd p 0).rows.length : Int) = ((gd p 0).rows.length : Int)) && decide (((gd p 0).rows.length : Int) ≤ 4294967296) && true && true)
    (let o := iter (toClientSL N p) N [gd p 0, .l [], .l (List.replicate (gd p 0).rows.length [.i 0, .i 0, .i 0, .l [], .l [], .i 0, .i 0, .i 0, .l []]), .i 0]
     nd o.isSome (nd (o.code == 2) (some (1, [gd o.pay 2]))))) := by kernel_rfl
def toClientSE : Ent := (57, e1 (sd (.sl 160)) fun p => (⟨sd (.sl 102), [cpClientS (gd p 0)]⟩, okClientS (gd p 0)))
theorem toClientS_ok : EntOk Tryz.prog toClientSE := e1_ok fun p h => evFn_sound (N := (gd p 0).rows.length + 1) (ks := [0, 2, 3, 4, 11]) (key := bo) (find_ok (List.forall_mem_cons.2 ⟨toClient_ok, List.forall_mem_nil _⟩)) (enters Tryz.func57 (by kernel_rfl) (by kernel_rfl)) Tryz.func57 fun hw => by
  have h : okClientS (gd p 0) = true := h
  simp only [okClientS, Bool.and_eq_true, decide_eq_true_eq, List.all_eq_true] at h
  rw [toClientS_ev, fill_loop (ok := fun r => okClient (sub r 0 9)) (f := fun r => cpClient (sub r 0 9)) [.i 0, .i 0, .i 0, .l [], .l [], .i 0, .i 0, .i 0, .l []] (wt_sl (hw ⟨sd (.sl 160), p⟩ (by simp))) h.2 (toClientS_rd p _ _ _) (by omega)]
  rw [show decide (((gd p 0).rows.length : Int) ≤ 4294967296) = true from decide_eq_true (by omega), show decide (0 ≤ ((gd p 0).rows.length : Int)) = true from decide_eq_true (by omega), decide_eq_true (rfl : ((gd p 0).rows.length : Int) = _)]
  rfl

def eqClientS : D → D → Bool := alikeS (fun r s => eqClient (sub r 0 9) (sub s 0 9))
noncomputable def eqClientSL (N : Nat) (p q : List D) : List D → Out := loopOf Tryz.prog (find [eqClientE]) N [0, 1, 4, 5, 10, 14, 26] Tryz.f78 rb [⟨sd (.sl 102), p⟩, ⟨sd (.sl 102), q⟩] 0
theorem eqClientS_rd (p q : List D) (N : Nat) (z u x y : D) (k : Int) : eqClientSL N p q [z, u, x, y, .i k] = bif decide (k < z.rows.length) then nd (inRange k z.rows.length) (nd (inRange k u.rows.length) (bif !(eqClient (sub (z.rows.getD k.toNat []) 0 9) (sub (u.rows.getD k.toNat []) 0 9)) then ob false else nx [z, u, x, y, .i (w64 (k + 1))])) else ex 0 [z, u, x, y, .i k] := by kernel_rfl
theorem eqClientS_ev (p q : List D) (N : Nat) : evFn Tryz.prog (find [eqClientE]) N [0, 1, 4, 5, 10, 14, 26] Tryz.f78 rb [⟨sd (.sl 102), p⟩, ⟨sd (.sl 102), q⟩] = some (bo, bif !(((gd p 0).rows.length : Int) == (gd q 0).rows.length) then ob false else
    (let o := iter (eqClientSL N p q) N [gd p 0, gd q 0, D0, .b (!(((gd p 0).rows.length : Int) == (gd q 0).rows.length)), .i 0]
     nd o.isSome (bif o.code == 1 then some (1, o.pay) else nd (o.code == 2) (ob true)))) := by kernel_rfl
def eqClientSE : Ent := (78, e2 (sd (.sl 102)) (sd (.sl 102)) fun p q => (⟨rb, [.b (eqClientS (gd p 0) (gd q 0))]⟩, true))
theorem eqClientS_ok : EntOk Tryz.prog eqClientSE := e2_ok fun p q _ => evFn_sound (N := (gd p 0).rows.length + 1) (ks := [0, 1, 4, 5, 10, 14, 26]) (key := bo) (find_ok (List.forall_mem_cons.2 ⟨eqClient_ok, List.forall_mem_nil _⟩)) (enters Tryz.func78 (by kernel_rfl) (by kernel_rfl)) Tryz.func78 fun hw => by
  rw [eqClientS_ev]
  by_cases hl : (gd p 0).rows.length = (gd q 0).rows.length
  · rw [like_loop (E := (fun r s => eqClient (sub r 0 9) (sub s 0 9))) (wt_sl (hw ⟨sd (.sl 102), p⟩ (by simp))) hl (eqClientS_rd p q _ _ _ _ _) (by omega)]
    rw [show ((((gd p 0).rows.length : Int)) == (gd q 0).rows.length) = true from beq_iff_eq.2 (by omega)]
    show some (bo, _) = some (bo, some (1, [D.b (alikeS (fun r s => eqClient (sub r 0 9) (sub s 0 9)) (gd p 0) (gd q 0))]))
    cases alikeS (fun r s => eqClient (sub r 0 9) (sub s 0 9)) (gd p 0) (gd q 0) <;> rfl
  · rw [show ((((gd p 0).rows.length : Int)) == (gd q 0).rows.length) = false from beq_eq_false_iff_ne.2 (by omega)]
    show some (bo, _) = some (bo, some (1, [D.b (alikeS (fun r s => eqClient (sub r 0 9) (sub s 0 9)) (gd p 0) (gd q 0))]))
    rw [show alikeS (fun r s => eqClient (sub r 0 9) (sub s 0 9)) (gd p 0) (gd q 0) = false from by simp [alikeS, hl]]
    rfl
theorem eqClientS_refl (z : D) : eqClientS z z = true := alikeS_refl (fun r => by exact eqClient_refl _) z

def sizeClientS (z : D) : Nat := z.rows.length + total (fun r => sizeClient (sub r 0 9)) z.rows
noncomputable def szClientSL (N : Nat) (p q : List D) : List D → Out := loopOf Tryz.prog (find [szClientE]) N [0, 1, 4, 5, 11, 15, 25] Tryz.f43 ri [⟨sd (.sl 160), p⟩, ⟨ri, q⟩] 0
theorem szClientS_rd (p q : List D) (N : Nat) (z x y : D) (n k : Int) : szClientSL N p q [z, .i n, x, y, .i k] = bif decide (k < z.rows.length) then nd (inRange k z.rows.length) (nd (fair n) (bif decide (left (sizeClient (sub (z.rows.getD k.toNat []) 0 9)) n < 0) then oi (-1) else nx [z, .i (left (sizeClient (sub (z.rows.getD k.toNat []) 0 9)) n), x, y, .i (w64 (k + 1))])) else ex 0 [z, .i n, x, y, .i k] := by kernel_rfl
theorem szClientS_ev (p q : List D) (N : Nat) : evFn Tryz.prog (find [szClientE]) N [0, 1, 4, 5, 11, 15, 25] Tryz.f43 ri [⟨sd (.sl 160), p⟩, ⟨ri, q⟩] = some (bo, bif decide (w64 ((gd q 0).int - (gd p 0).rows.length) < 0) then oi (-1) else
    (let o := iter (szClientSL N p q) N [gd p 0, .i (w64 ((gd q 0).int - (gd p 0).rows.length)), .i 0, .b (decide (w64 ((gd q 0).int - (gd p 0).rows.length) < 0)), .i 0]
     nd o.isSome (bif o.code == 1 then some (1, o.pay) else nd (o.code == 2) (some (1, [gd o.pay 1]))))) := by kernel_rfl
def szClientSE : Ent := (43, e2 (sd (.sl 160)) ri fun p q => (⟨ri, [.i (left (sizeClientS (gd p 0)) (gd q 0).int)]⟩, fair (gd q 0).int))
theorem szClientS_ok : EntOk Tryz.prog szClientSE := e2_ok fun p q h => evFn_sound (N := (gd p 0).rows.length + 1) (ks := [0, 1, 4, 5, 11, 15, 25]) (key := bo) (find_ok (List.forall_mem_cons.2 ⟨szClient_ok, List.forall_mem_nil _⟩)) (enters Tryz.func43 (by kernel_rfl) (by kernel_rfl)) Tryz.func43 fun hw => by
  have h : fair (gd q 0).int = true := h
  have hl := wt_sl (hw ⟨sd (.sl 160), p⟩ (by simp))
  have h2 : 0 ≤ (gd q 0).int ∧ (gd q 0).int ≤ 1048576 := by simpa [fair] using h
  rw [szClientS_ev, w64_id (by omega) (by omega)]
  by_cases hn : (gd q 0).int - ((gd p 0).rows.length : Int) < 0
  · rw [decide_eq_true hn, cond_true]
    have e : left (sizeClientS (gd p 0)) (gd q 0).int = -1 := if_neg (by simp only [sizeClientS]; push_cast; omega)
    rw [e]
  · rw [decide_eq_false hn, cond_false]
    have := size_loop (size := fun r => sizeClient (sub r 0 9)) hl (szClientS_rd p q ((gd p 0).rows.length + 1) (gd p 0) (.i 0) (.b false)) (gd p 0).rows.length 0 ((gd p 0).rows.length + 1) ((gd q 0).int - ((gd p 0).rows.length : Int)) (by omega) (by omega) (by omega) (by omega)
    simp only [Int.natCast_zero, List.drop_zero] at this
    rw [this]
    by_cases hq : (total (fun r => sizeClient (sub r 0 9)) (gd p 0).rows : Int) ≤ (gd q 0).int - ((gd p 0).rows.length : Int)
    · have e : left (sizeClientS (gd p 0)) (gd q 0).int = (gd q 0).int - ((gd p 0).rows.length : Int) - (total (fun r => sizeClient (sub r 0 9)) (gd p 0).rows : Int) := by
        rw [left, if_pos (by simp only [sizeClientS]; push_cast; omega)]
        simp only [sizeClientS]; push_cast; omega
      rw [if_pos hq, e]
      rfl
    · have e : left (sizeClientS (gd p 0)) (gd q 0).int = -1 := if_neg (by simp only [sizeClientS]; push_cast; omega)
      rw [if_neg hq, e]
      rfl

theorem okClientS_of {z : D} {m : Nat} (hm : m ≤ 4294967296) (h : sizeClientS z ≤ m) : okClientS z = true := okS (ok := fun r => okClient (sub r 0 9)) (size := fun r => sizeClient (sub r 0 9)) hm h fun _ h => okClient_of hm h

end Go.Proofs.YtchceahcaaibcaaGreat
