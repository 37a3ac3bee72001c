import Derived.Test.YtdejncnjaebjfaaJTyC
namespace Go.Proofs.Ytdejncnjaebjfaa
set_option maxRecDepth 4096
def rLEvent : List S := [si, si, si, si, si, .sl 126, .bool]
def rIEvent : List S := [si, si, si, si, si, .sl 92, .bool]
def cpEvent (p : List D) : List D := [gd p 0, gd p 1, gd p 2, gd p 3, gd p 4, cpCellS (gd p 5), gd p 6]
def okEvent (p : List D) : Bool := okCellS (gd p 5)
theorem toEvent_ev (p : List D) (N : Nat) : evFn Try.prog (find [toCellSE]) N [0, 1, 2, 3] Try.f51 (ag rIEvent) [⟨ag rLEvent, p⟩] = some (bo, nd (okCellS (gd p 5)) (some (1, cpEvent p))) := by kernel_rfl
def toEventE : Ent := (51, e1 (ag rLEvent) fun p => (⟨ag rIEvent, cpEvent p⟩, okEvent p))
theorem toEvent_ok : EntOk Try.prog toEventE := e1_ok fun p h => evFn_sound (N := 0) (ks := [0, 1, 2, 3]) (key := bo) (find_ok (List.forall_mem_cons.2 ⟨toCellS_ok, List.forall_mem_nil _⟩)) (enters Try.func51 (by kernel_rfl) (by kernel_rfl)) Try.func51 fun _ => by
  have h : okEvent p = true := h
  simp only [okEvent, Bool.and_eq_true] at h
  rw [toEvent_ev]
  simp only [nd, h, cond_true]

def eqEvent (p q : List D) : Bool := ((gd p 0).int == (gd q 0).int) && (((gd p 1).int == (gd q 1).int) && (((gd p 2).int == (gd q 2).int) && (((gd p 3).int == (gd q 3).int) && (((gd p 4).int == (gd q 4).int) && ((eqCellS (gd p 5) (gd q 5)) && (((gd p 6).bool == (gd q 6).bool) && (true)))))))
theorem eqEvent_ev (p q : List D) (N : Nat) : evFn Try.prog (find [eqCellSE]) N [0, 1, 2, 3, 4, 9, 14, 19, 24, 29, 35, 40] Try.f56 rb [⟨ag rIEvent, p⟩, ⟨ag rIEvent, q⟩] = some (bo, bif !((gd p 0).int == (gd q 0).int) then ob false else bif !((gd p 1).int == (gd q 1).int) then ob false else bif !((gd p 2).int == (gd q 2).int) then ob false else bif !((gd p 3).int == (gd q 3).int) then ob false else bif !((gd p 4).int == (gd q 4).int) then ob false else bif !(eqCellS (gd p 5) (gd q 5)) then ob false else bif !((gd p 6).bool == (gd q 6).bool) then ob false else ob true) := by kernel_rfl
def eqEventE : Ent := (56, e2 (ag rIEvent) (ag rIEvent) fun p q => (⟨rb, [.b (eqEvent p q)]⟩, true))
theorem eqEvent_ok : EntOk Try.prog eqEventE := e2_ok fun p q _ => evFn_sound (N := 0) (ks := [0, 1, 2, 3, 4, 9, 14, 19, 24, 29, 35, 40]) (key := bo) (find_ok (List.forall_mem_cons.2 ⟨eqCellS_ok, List.forall_mem_nil _⟩)) (enters Try.func56 (by kernel_rfl) (by kernel_rfl)) Try.func56 fun _ => by
  rw [eqEvent_ev]
  simp only [ne_step]
  rfl
theorem eqEvent_refl (p : List D) : eqEvent p p = true := by
  simp [eqEvent, eqCellS_refl]

def sizeEvent (p : List D) : Nat := sizeCellS (gd p 5)
theorem szEvent_ev (p q : List D) (N : Nat) : evFn Try.prog (find [szCellSE]) N [0, 1, 2, 4, 10] Try.f46 ri [⟨ag rLEvent, p⟩, ⟨ri, q⟩] = some (bo, nd (fair (gd q 0).int) (bif decide (left (sizeCellS (gd p 5)) (gd q 0).int < 0) then oi (-1) else oi (left (sizeCellS (gd p 5)) (gd q 0).int))) := by kernel_rfl
def szEventE : Ent := (46, e2 (ag rLEvent) ri fun p q => (⟨ri, [.i (left (sizeEvent p) (gd q 0).int)]⟩, fair (gd q 0).int))
theorem szEvent_ok : EntOk Try.prog szEventE := e2_ok fun p q h => evFn_sound (N := 0) (ks := [0, 1, 2, 4, 10]) (key := bo) (find_ok (List.forall_mem_cons.2 ⟨szCellS_ok, List.forall_mem_nil _⟩)) (enters Try.func46 (by kernel_rfl) (by kernel_rfl)) Try.func46 fun _ => by
  have h : fair (gd q 0).int = true := h
  rw [szEvent_ev]
  simp only [nd, h, cond_true, oi_if, left_neg]
  rfl

def cpEventS (z : D) : D := .l (z.rows.map fun r => cpEvent (sub r 0 7))
def okEventS (z : D) : Bool := decide (z.rows.length ≤ 4294967296) && z.rows.all fun r => okEvent (sub r 0 7)
noncomputable def toEventSL (N : Nat) (p : List D) : List D → Out := loopOf Try.prog (find [toEventE]) N [0, 2, 3, 4, 11] Try.f21 (sd (.sl 74)) [⟨sd (.sl 72), p⟩] 0
theorem toEventS_rd (p : List D) (N : Nat) (z x2 : D) (rows : List (List D)) (k : Int) : toEventSL N p [z, x2, .l rows, .i k] = bif decide (k < z.rows.length) then nd (inRange k z.rows.length) (nd (okEvent (sub (z.rows.getD k.toNat []) 0 7)) (nd (inRange k rows.length) (nx [z, x2, .l (rows.set k.toNat (cpEvent (sub (z.rows.getD k.toNat []) 0 7))), .i (w64 (k + 1))]))) else ex 0 [z, x2, .l rows, .i k] := by kernel_rfl
theorem toEventS_ev (p : List D) (N : Nat) : evFn Try.prog (find [toEventE]) N [0, 2, 3, 4, 11] Try.f21 (sd (.sl 74)) [⟨sd (.sl 72), p⟩] = some (bo, nd (decide (0 ≤ ((gd p 0).rows.length : Int)) && decide (((gd p 0).rows.length : Int) = ((gd p 0).rows.length : Int)) && decide (((gd p 0).rows.length : Int) ≤ 4294967296) && true && true)
    (let o := iter (toEventSL N p) N [gd p 0, .l [], .l (List.replicate (gd p 0).rows.length [.i 0, .i 0, .i 0, .i 0, .i 0, .l [], .b false]), .i 0]
     nd o.isSome (nd (o.code == 2) (some (1, [gd o.pay 2]))))) := by kernel_rfl
def toEventSE : Ent := (21, e1 (sd (.sl 72)) fun p => (⟨sd (.sl 74), [cpEventS (gd p 0)]⟩, okEventS (gd p 0)))
theorem toEventS_ok : EntOk Try.prog toEventSE := e1_ok fun p h => evFn_sound (N := (gd p 0).rows.length + 1) (ks := [0, 2, 3, 4, 11]) (key := bo) (find_ok (List.forall_mem_cons.2 ⟨toEvent_ok, List.forall_mem_nil _⟩)) (enters Try.func21 (by kernel_rfl) (by kernel_rfl)) Try.func21 fun hw => by
  have h : okEventS (gd p 0) = true := h
  simp only [okEventS, Bool.and_eq_true, decide_eq_true_eq, List.all_eq_true] at h
  rw [toEventS_ev, fill_loop (ok := fun r => okEvent (sub r 0 7)) (f := fun r => cpEvent (sub r 0 7)) [.i 0, .i 0, .i 0, .i 0, .i 0, .l [], .b false] (wt_sl (hw ⟨sd (.sl 72), p⟩ (by simp))) h.2 (toEventS_rd p _ _ _) (by omega)]
  rw [show decide (((gd p 0).rows.length : Int) ≤ 4294967296) = true from decide_eq_true (by omega), show decide (0 ≤ ((gd p 0).rows.length : Int)) = true from decide_eq_true (by omega), decide_eq_true (rfl : ((gd p 0).rows.length : Int) = _)]
  rfl

def eqEventS : D → D → Bool := alikeS (fun r s => eqEvent (sub r 0 7) (sub s 0 7))
noncomputable def eqEventSL (N : Nat) (p q : List D) : List D → Out := loopOf Try.prog (find [eqEventE]) N [0, 1, 4, 5, 10, 14, 26] Try.f24 rb [⟨sd (.sl 74), p⟩, ⟨sd (.sl 74), q⟩] 0
theorem eqEventS_rd (p q : List D) (N : Nat) (z u x y : D) (k : Int) : eqEventSL N p q [z, u, x, y, .i k] = bif decide (k < z.rows.length) then nd (inRange k z.rows.length) (nd (inRange k u.rows.length) (bif !(eqEvent (sub (z.rows.getD k.toNat []) 0 7) (sub (u.rows.getD k.toNat []) 0 7)) then ob false else nx [z, u, x, y, .i (w64 (k + 1))])) else ex 0 [z, u, x, y, .i k] := by kernel_rfl
theorem eqEventS_ev (p q : List D) (N : Nat) : evFn Try.prog (find [eqEventE]) N [0, 1, 4, 5, 10, 14, 26] Try.f24 rb [⟨sd (.sl 74), p⟩, ⟨sd (.sl 74), q⟩] = some (bo, bif !(((gd p 0).rows.length : Int) == (gd q 0).rows.length) then ob false else
    (let o := iter (eqEventSL N p q) N [gd p 0, gd q 0, D0, .b (!(((gd p 0).rows.length : Int) == (gd q 0).rows.length)), .i 0]
     nd o.isSome (bif o.code == 1 then some (1, o.pay) else nd (o.code == 2) (ob true)))) := by kernel_rfl
def eqEventSE : Ent := (24, e2 (sd (.sl 74)) (sd (.sl 74)) fun p q => (⟨rb, [.b (eqEventS (gd p 0) (gd q 0))]⟩, true))
theorem eqEventS_ok : EntOk Try.prog eqEventSE := e2_ok fun p q _ => evFn_sound (N := (gd p 0).rows.length + 1) (ks := [0, 1, 4, 5, 10, 14, 26]) (key := bo) (find_ok (List.forall_mem_cons.2 ⟨eqEvent_ok, List.forall_mem_nil _⟩)) (enters Try.func24 (by kernel_rfl) (by kernel_rfl)) Try.func24 fun hw => by
  rw [eqEventS_ev]
  by_cases hl : (gd p 0).rows.length = (gd q 0).rows.length
  · rw [like_loop (E := (fun r s => eqEvent (sub r 0 7) (sub s 0 7))) (wt_sl (hw ⟨sd (.sl 74), p⟩ (by simp))) hl (eqEventS_rd p q _ _ _ _ _) (by omega)]
    rw [show ((((gd p 0).rows.length : Int)) == (gd q 0).rows.length) = true from beq_iff_eq.2 (by omega)]
    show some (bo, _) = some (bo, some (1, [D.b (alikeS (fun r s => eqEvent (sub r 0 7) (sub s 0 7)) (gd p 0) (gd q 0))]))
    cases alikeS (fun r s => eqEvent (sub r 0 7) (sub s 0 7)) (gd p 0) (gd q 0) <;> rfl
  · rw [show ((((gd p 0).rows.length : Int)) == (gd q 0).rows.length) = false from beq_eq_false_iff_ne.2 (by omega)]
    show some (bo, _) = some (bo, some (1, [D.b (alikeS (fun r s => eqEvent (sub r 0 7) (sub s 0 7)) (gd p 0) (gd q 0))]))
    rw [show alikeS (fun r s => eqEvent (sub r 0 7) (sub s 0 7)) (gd p 0) (gd q 0) = false from by simp [alikeS, hl]]
    rfl
theorem eqEventS_refl (z : D) : eqEventS z z = true := alikeS_refl (fun r => by exact eqEvent_refl _) z

def sizeEventS (z : D) : Nat := z.rows.length + total (fun r => sizeEvent (sub r 0 7)) z.rows
noncomputable def szEventSL (N : Nat) (p q : List D) : List D → Out := loopOf Try.prog (find [szEventE]) N [0, 1, 4, 5, 11, 15, 25] Try.f18 ri [⟨sd (.sl 72), p⟩, ⟨ri, q⟩] 0
theorem szEventS_rd (p q : List D) (N : Nat) (z x y : D) (n k : Int) : szEventSL N p q [z, .i n, x, y, .i k] = bif decide (k < z.rows.length) then nd (inRange k z.rows.length) (nd (fair n) (bif decide (left (sizeEvent (sub (z.rows.getD k.toNat []) 0 7)) n < 0) then oi (-1) else nx [z, .i (left (sizeEvent (sub (z.rows.getD k.toNat []) 0 7)) n), x, y, .i (w64 (k + 1))])) else ex 0 [z, .i n, x, y, .i k] := by kernel_rfl
theorem szEventS_ev (p q : List D) (N : Nat) : evFn Try.prog (find [szEventE]) N [0, 1, 4, 5, 11, 15, 25] Try.f18 ri [⟨sd (.sl 72), p⟩, ⟨ri, q⟩] = some (bo, bif decide (w64 ((gd q 0).int - (gd p 0).rows.length) < 0) then oi (-1) else
    (let o := iter (szEventSL N p q) N [gd p 0, .i (w64 ((gd q 0).int - (gd p 0).rows.length)), .i 0, .b (decide (w64 ((gd q 0).int - (gd p 0).rows.length) < 0)), .i 0]
     nd o.isSome (bif o.code == 1 then some (1, o.pay) else nd (o.code == 2) (some (1, [gd o.pay 1]))))) := by kernel_rfl
def szEventSE : Ent := (18, e2 (sd (.sl 72)) ri fun p q => (⟨ri, [.i (left (sizeEventS (gd p 0)) (gd q 0).int)]⟩, fair (gd q 0).int))
theorem szEventS_ok : EntOk Try.prog szEventSE := e2_ok fun p q h => evFn_sound (N := (gd p 0).rows.length + 1) (ks := [0, 1, 4, 5, 11, 15, 25]) (key := bo) (find_ok (List.forall_mem_cons.2 ⟨szEvent_ok, List.forall_mem_nil _⟩)) (enters Try.func18 (by kernel_rfl) (by kernel_rfl)) Try.func18 fun hw => by
  have h : fair (gd q 0).int = true := h
  have hl := wt_sl (hw ⟨sd (.sl 72), p⟩ (by simp))
  have h2 : 0 ≤ (gd q 0).int ∧ (gd q 0).int ≤ 1048576 := by simpa [fair] using h
  rw [szEventS_ev, w64_id (by omega) (by omega)]
  by_cases hn : (gd q 0).int - ((gd p 0).rows.length : Int) < 0
  · rw [decide_eq_true hn, cond_true]
    have e : left (sizeEventS (gd p 0)) (gd q 0).int = -1 := if_neg (by simp only [sizeEventS]; push_cast; omega)
    rw [e]
  · rw [decide_eq_false hn, cond_false]
    have := size_loop (size := fun r => sizeEvent (sub r 0 7)) hl (szEventS_rd p q ((gd p 0).rows.length + 1) (gd p 0) (.i 0) (.b false)) (gd p 0).rows.length 0 ((gd p 0).rows.length + 1) ((gd q 0).int - ((gd p 0).rows.length : Int)) (by omega) (by omega) (by omega) (by omega)
    simp only [Int.natCast_zero, List.drop_zero] at this
    rw [this]
    by_cases hq : (total (fun r => sizeEvent (sub r 0 7)) (gd p 0).rows : Int) ≤ (gd q 0).int - ((gd p 0).rows.length : Int)
    · have e : left (sizeEventS (gd p 0)) (gd q 0).int = (gd q 0).int - ((gd p 0).rows.length : Int) - (total (fun r => sizeEvent (sub r 0 7)) (gd p 0).rows : Int) := by
        rw [left, if_pos (by simp only [sizeEventS]; push_cast; omega)]
        simp only [sizeEventS]; push_cast; omega
      rw [if_pos hq, e]
      rfl
    · have e : left (sizeEventS (gd p 0)) (gd q 0).int = -1 := if_neg (by simp only [sizeEventS]; push_cast; omega)
      rw [if_neg hq, e]
      rfl

end Go.Proofs.Ytdejncnjaebjfaa