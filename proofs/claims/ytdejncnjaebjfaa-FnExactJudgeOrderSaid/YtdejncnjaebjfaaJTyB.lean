import Derived.Test.YtdejncnjaebjfaaJTyA
namespace Go.Proofs.Ytdejncnjaebjfaa
set_option maxRecDepth 4096
def rLShare : List S := [si, .sl 162, .sl 164, si]
def rIShare : List S := [si, .sl 97, .sl 118, si]
def cpShare (p : List D) : List D := [gd p 0, cpRangeS (gd p 1), cpWriteS (gd p 2), gd p 3]
def okShare (p : List D) : Bool := okRangeS (gd p 1) && okWriteS (gd p 2)
theorem toShare_ev (p : List D) (N : Nat) : evFn Try.prog (find [toRangeSE, toWriteSE]) N [0, 1, 2, 3] Try.f120 (ag rIShare) [⟨ag rLShare, p⟩] = some (bo, nd (okRangeS (gd p 1)) (nd (okWriteS (gd p 2)) (some (1, cpShare p)))) := by kernel_rfl
def toShareE : Ent := (120, e1 (ag rLShare) fun p => (⟨ag rIShare, cpShare p⟩, okShare p))
theorem toShare_ok : EntOk Try.prog toShareE := e1_ok fun p h => evFn_sound (N := 0) (ks := [0, 1, 2, 3]) (key := bo) (find_ok (List.forall_mem_cons.2 ⟨toRangeS_ok, List.forall_mem_cons.2 ⟨toWriteS_ok, List.forall_mem_nil _⟩⟩)) (enters Try.func120 (by kernel_rfl) (by kernel_rfl)) Try.func120 fun _ => by
  have h : okShare p = true := h
  simp only [okShare, Bool.and_eq_true] at h
  rw [toShare_ev]
  simp only [nd, h.1, h.2, cond_true]

def eqShare (p q : List D) : Bool := ((gd p 0).int == (gd q 0).int) && ((eqRangeS (gd p 1) (gd q 1)) && ((eqWriteS (gd p 2) (gd q 2)) && (((gd p 3).int == (gd q 3).int) && (true))))
theorem eqShare_ev (p q : List D) (N : Nat) : evFn Try.prog (find [eqRangeSE, eqWriteSE]) N [0, 1, 2, 3, 4, 9, 15, 21, 26] Try.f121 rb [⟨ag rIShare, p⟩, ⟨ag rIShare, q⟩] = some (bo, bif !((gd p 0).int == (gd q 0).int) then ob false else bif !(eqRangeS (gd p 1) (gd q 1)) then ob false else bif !(eqWriteS (gd p 2) (gd q 2)) then ob false else bif !((gd p 3).int == (gd q 3).int) then ob false else ob true) := by kernel_rfl
def eqShareE : Ent := (121, e2 (ag rIShare) (ag rIShare) fun p q => (⟨rb, [.b (eqShare p q)]⟩, true))
theorem eqShare_ok : EntOk Try.prog eqShareE := e2_ok fun p q _ => evFn_sound (N := 0) (ks := [0, 1, 2, 3, 4, 9, 15, 21, 26]) (key := bo) (find_ok (List.forall_mem_cons.2 ⟨eqRangeS_ok, List.forall_mem_cons.2 ⟨eqWriteS_ok, List.forall_mem_nil _⟩⟩)) (enters Try.func121 (by kernel_rfl) (by kernel_rfl)) Try.func121 fun _ => by
  rw [eqShare_ev]
  simp only [ne_step]
  rfl
theorem eqShare_refl (p : List D) : eqShare p p = true := by
  simp [eqShare, eqRangeS_refl, eqWriteS_refl]

def sizeShare (p : List D) : Nat := sizeRangeS (gd p 1) + sizeWriteS (gd p 2)
theorem szShare_ev (p q : List D) (N : Nat) : evFn Try.prog (find [szRangeSE, szWriteSE]) N [0, 1, 2, 4, 10, 16] Try.f119 ri [⟨ag rLShare, p⟩, ⟨ri, q⟩] = some (bo, nd (fair (gd q 0).int) (bif decide (left (sizeRangeS (gd p 1)) (gd q 0).int < 0) then oi (-1) else nd (fair (left (sizeRangeS (gd p 1)) (gd q 0).int)) (bif decide (left (sizeWriteS (gd p 2)) (left (sizeRangeS (gd p 1)) (gd q 0).int) < 0) then oi (-1) else oi (left (sizeWriteS (gd p 2)) (left (sizeRangeS (gd p 1)) (gd q 0).int))))) := by kernel_rfl
def szShareE : Ent := (119, e2 (ag rLShare) ri fun p q => (⟨ri, [.i (left (sizeShare p) (gd q 0).int)]⟩, fair (gd q 0).int))
theorem szShare_ok : EntOk Try.prog szShareE := e2_ok fun p q h => evFn_sound (N := 0) (ks := [0, 1, 2, 4, 10, 16]) (key := bo) (find_ok (List.forall_mem_cons.2 ⟨szRangeS_ok, List.forall_mem_cons.2 ⟨szWriteS_ok, List.forall_mem_nil _⟩⟩)) (enters Try.func119 (by kernel_rfl) (by kernel_rfl)) Try.func119 fun _ => by
  have h : fair (gd q 0).int = true := h
  rw [szShare_ev]
  by_cases h2 : left (sizeRangeS (gd p 1)) (gd q 0).int < 0
  · have e := left_left (sizeRangeS (gd p 1)) (sizeWriteS (gd p 2)) (gd q 0).int
    rw [if_pos h2] at e
    simp only [nd, h, cond_true, h2, decide_true, sizeShare, ← e]
  · have e := left_left (sizeRangeS (gd p 1)) (sizeWriteS (gd p 2)) (gd q 0).int
    rw [if_neg h2] at e
    simp only [nd, h, cond_true, cond_false, h2, decide_false, fair_left h h2, oi_if, left_neg, sizeShare, ← e]

def cpShareS (z : D) : D := .l (z.rows.map fun r => cpShare (sub r 0 4))
def okShareS (z : D) : Bool := decide (z.rows.length ≤ 4294967296) && z.rows.all fun r => okShare (sub r 0 4)
noncomputable def toShareSL (N : Nat) (p : List D) : List D → Out := loopOf Try.prog (find [toShareE]) N [0, 2, 3, 4, 11] Try.f101 (sd (.sl 88)) [⟨sd (.sl 142), p⟩] 0
theorem toShareS_rd (p : List D) (N : Nat) (z x2 : D) (rows : List (List D)) (k : Int) : toShareSL N p [z, x2, .l rows, .i k] = bif decide (k < z.rows.length) then nd (inRange k z.rows.length) (nd (okShare (sub (z.rows.getD k.toNat []) 0 4)) (nd (inRange k rows.length) (nx [z, x2, .l (rows.set k.toNat (cpShare (sub (z.rows.getD k.toNat []) 0 4))), .i (w64 (k + 1))]))) else ex 0 [z, x2, .l rows, .i k] := by kernel_rfl
theorem toShareS_ev (p : List D) (N : Nat) : evFn Try.prog (find [toShareE]) N [0, 2, 3, 4, 11] Try.f101 (sd (.sl 88)) [⟨sd (.sl 142), p⟩] = some (bo, nd (decide (0 ≤ ((gd p 0).rows.length : Int)) && decide (((gd p 0).rows.length : Int) = ((gd p 0).rows.length : Int)) && decide (((gd p 0).rows.length : Int) ≤ 4294967296) && true && true)
    (let o := iter (toShareSL N p) N [gd p 0, .l [], .l (List.replicate (gd p 0).rows.length [.i 0, .l [], .l [], .i 0]), .i 0]
     nd o.isSome (nd (o.code == 2) (some (1, [gd o.pay 2]))))) := by kernel_rfl
def toShareSE : Ent := (101, e1 (sd (.sl 142)) fun p => (⟨sd (.sl 88), [cpShareS (gd p 0)]⟩, okShareS (gd p 0)))
theorem toShareS_ok : EntOk Try.prog toShareSE := e1_ok fun p h => evFn_sound (N := (gd p 0).rows.length + 1) (ks := [0, 2, 3, 4, 11]) (key := bo) (find_ok (List.forall_mem_cons.2 ⟨toShare_ok, List.forall_mem_nil _⟩)) (enters Try.func101 (by kernel_rfl) (by kernel_rfl)) Try.func101 fun hw => by
  have h : okShareS (gd p 0) = true := h
  simp only [okShareS, Bool.and_eq_true, decide_eq_true_eq, List.all_eq_true] at h
  rw [toShareS_ev, fill_loop (ok := fun r => okShare (sub r 0 4)) (f := fun r => cpShare (sub r 0 4)) [.i 0, .l [], .l [], .i 0] (wt_sl (hw ⟨sd (.sl 142), p⟩ (by simp))) h.2 (toShareS_rd p _ _ _) (by omega)]
  rw [show decide (((gd p 0).rows.length : Int) ≤ 4294967296) = true from decide_eq_true (by omega), show decide (0 ≤ ((gd p 0).rows.length : Int)) = true from decide_eq_true (by omega), decide_eq_true (rfl : ((gd p 0).rows.length : Int) = _)]
  rfl

def eqShareS : D → D → Bool := alikeS (fun r s => eqShare (sub r 0 4) (sub s 0 4))
noncomputable def eqShareSL (N : Nat) (p q : List D) : List D → Out := loopOf Try.prog (find [eqShareE]) N [0, 1, 4, 5, 10, 14, 26] Try.f103 rb [⟨sd (.sl 88), p⟩, ⟨sd (.sl 88), q⟩] 0
theorem eqShareS_rd (p q : List D) (N : Nat) (z u x y : D) (k : Int) : eqShareSL N p q [z, u, x, y, .i k] = bif decide (k < z.rows.length) then nd (inRange k z.rows.length) (nd (inRange k u.rows.length) (bif !(eqShare (sub (z.rows.getD k.toNat []) 0 4) (sub (u.rows.getD k.toNat []) 0 4)) then ob false else nx [z, u, x, y, .i (w64 (k + 1))])) else ex 0 [z, u, x, y, .i k] := by kernel_rfl
theorem eqShareS_ev (p q : List D) (N : Nat) : evFn Try.prog (find [eqShareE]) N [0, 1, 4, 5, 10, 14, 26] Try.f103 rb [⟨sd (.sl 88), p⟩, ⟨sd (.sl 88), q⟩] = some (bo, bif !(((gd p 0).rows.length : Int) == (gd q 0).rows.length) then ob false else
    (let o := iter (eqShareSL N p q) N [gd p 0, gd q 0, D0, .b (!(((gd p 0).rows.length : Int) == (gd q 0).rows.length)), .i 0]
     nd o.isSome (bif o.code == 1 then some (1, o.pay) else nd (o.code == 2) (ob true)))) := by kernel_rfl
def eqShareSE : Ent := (103, e2 (sd (.sl 88)) (sd (.sl 88)) fun p q => (⟨rb, [.b (eqShareS (gd p 0) (gd q 0))]⟩, true))
theorem eqShareS_ok : EntOk Try.prog eqShareSE := e2_ok fun p q _ => evFn_sound (N := (gd p 0).rows.length + 1) (ks := [0, 1, 4, 5, 10, 14, 26]) (key := bo) (find_ok (List.forall_mem_cons.2 ⟨eqShare_ok, List.forall_mem_nil _⟩)) (enters Try.func103 (by kernel_rfl) (by kernel_rfl)) Try.func103 fun hw => by
  rw [eqShareS_ev]
  by_cases hl : (gd p 0).rows.length = (gd q 0).rows.length
  · rw [like_loop (E := (fun r s => eqShare (sub r 0 4) (sub s 0 4))) (wt_sl (hw ⟨sd (.sl 88), p⟩ (by simp))) hl (eqShareS_rd p q _ _ _ _ _) (by omega)]
    rw [show ((((gd p 0).rows.length : Int)) == (gd q 0).rows.length) = true from beq_iff_eq.2 (by omega)]
    show some (bo, _) = some (bo, some (1, [D.b (alikeS (fun r s => eqShare (sub r 0 4) (sub s 0 4)) (gd p 0) (gd q 0))]))
    cases alikeS (fun r s => eqShare (sub r 0 4) (sub s 0 4)) (gd p 0) (gd q 0) <;> rfl
  · rw [show ((((gd p 0).rows.length : Int)) == (gd q 0).rows.length) = false from beq_eq_false_iff_ne.2 (by omega)]
    show some (bo, _) = some (bo, some (1, [D.b (alikeS (fun r s => eqShare (sub r 0 4) (sub s 0 4)) (gd p 0) (gd q 0))]))
    rw [show alikeS (fun r s => eqShare (sub r 0 4) (sub s 0 4)) (gd p 0) (gd q 0) = false from by simp [alikeS, hl]]
    rfl
theorem eqShareS_refl (z : D) : eqShareS z z = true := alikeS_refl (fun r => by exact eqShare_refl _) z

def sizeShareS (z : D) : Nat := z.rows.length + total (fun r => sizeShare (sub r 0 4)) z.rows
noncomputable def szShareSL (N : Nat) (p q : List D) : List D → Out := loopOf Try.prog (find [szShareE]) N [0, 1, 4, 5, 11, 15, 25] Try.f100 ri [⟨sd (.sl 142), p⟩, ⟨ri, q⟩] 0
theorem szShareS_rd (p q : List D) (N : Nat) (z x y : D) (n k : Int) : szShareSL N p q [z, .i n, x, y, .i k] = bif decide (k < z.rows.length) then nd (inRange k z.rows.length) (nd (fair n) (bif decide (left (sizeShare (sub (z.rows.getD k.toNat []) 0 4)) n < 0) then oi (-1) else nx [z, .i (left (sizeShare (sub (z.rows.getD k.toNat []) 0 4)) n), x, y, .i (w64 (k + 1))])) else ex 0 [z, .i n, x, y, .i k] := by kernel_rfl
theorem szShareS_ev (p q : List D) (N : Nat) : evFn Try.prog (find [szShareE]) N [0, 1, 4, 5, 11, 15, 25] Try.f100 ri [⟨sd (.sl 142), p⟩, ⟨ri, q⟩] = some (bo, bif decide (w64 ((gd q 0).int - (gd p 0).rows.length) < 0) then oi (-1) else
    (let o := iter (szShareSL N p q) N [gd p 0, .i (w64 ((gd q 0).int - (gd p 0).rows.length)), .i 0, .b (decide (w64 ((gd q 0).int - (gd p 0).rows.length) < 0)), .i 0]
     nd o.isSome (bif o.code == 1 then some (1, o.pay) else nd (o.code == 2) (some (1, [gd o.pay 1]))))) := by kernel_rfl
def szShareSE : Ent := (100, e2 (sd (.sl 142)) ri fun p q => (⟨ri, [.i (left (sizeShareS (gd p 0)) (gd q 0).int)]⟩, fair (gd q 0).int))
theorem szShareS_ok : EntOk Try.prog szShareSE := e2_ok fun p q h => evFn_sound (N := (gd p 0).rows.length + 1) (ks := [0, 1, 4, 5, 11, 15, 25]) (key := bo) (find_ok (List.forall_mem_cons.2 ⟨szShare_ok, List.forall_mem_nil _⟩)) (enters Try.func100 (by kernel_rfl) (by kernel_rfl)) Try.func100 fun hw => by
  have h : fair (gd q 0).int = true := h
  have hl := wt_sl (hw ⟨sd (.sl 142), p⟩ (by simp))
  have h2 : 0 ≤ (gd q 0).int ∧ (gd q 0).int ≤ 1048576 := by simpa [fair] using h
  rw [szShareS_ev, w64_id (by omega) (by omega)]
  by_cases hn : (gd q 0).int - ((gd p 0).rows.length : Int) < 0
  · rw [decide_eq_true hn, cond_true]
    have e : left (sizeShareS (gd p 0)) (gd q 0).int = -1 := if_neg (by simp only [sizeShareS]; push_cast; omega)
    rw [e]
  · rw [decide_eq_false hn, cond_false]
    have := size_loop (size := fun r => sizeShare (sub r 0 4)) hl (szShareS_rd p q ((gd p 0).rows.length + 1) (gd p 0) (.i 0) (.b false)) (gd p 0).rows.length 0 ((gd p 0).rows.length + 1) ((gd q 0).int - ((gd p 0).rows.length : Int)) (by omega) (by omega) (by omega) (by omega)
    simp only [Int.natCast_zero, List.drop_zero] at this
    rw [this]
    by_cases hq : (total (fun r => sizeShare (sub r 0 4)) (gd p 0).rows : Int) ≤ (gd q 0).int - ((gd p 0).rows.length : Int)
    · have e : left (sizeShareS (gd p 0)) (gd q 0).int = (gd q 0).int - ((gd p 0).rows.length : Int) - (total (fun r => sizeShare (sub r 0 4)) (gd p 0).rows : Int) := by
        rw [left, if_pos (by simp only [sizeShareS]; push_cast; omega)]
        simp only [sizeShareS]; push_cast; omega
      rw [if_pos hq, e]
      rfl
    · have e : left (sizeShareS (gd p 0)) (gd q 0).int = -1 := if_neg (by simp only [sizeShareS]; push_cast; omega)
      rw [if_neg hq, e]
      rfl

def rLRec : List S := [si, si, si, si, .sl 142]
def rIRec : List S := [si, si, si, si, .sl 88]
def cpRec (p : List D) : List D := [gd p 0, gd p 1, gd p 2, gd p 3, cpShareS (gd p 4)]
def okRec (p : List D) : Bool := okShareS (gd p 4)
theorem toRec_ev (p : List D) (N : Nat) : evFn Try.prog (find [toShareSE]) N [0, 1, 2, 3] Try.f86 (ag rIRec) [⟨ag rLRec, p⟩] = some (bo, nd (okShareS (gd p 4)) (some (1, cpRec p))) := by kernel_rfl
def toRecE : Ent := (86, e1 (ag rLRec) fun p => (⟨ag rIRec, cpRec p⟩, okRec p))
theorem toRec_ok : EntOk Try.prog toRecE := e1_ok fun p h => evFn_sound (N := 0) (ks := [0, 1, 2, 3]) (key := bo) (find_ok (List.forall_mem_cons.2 ⟨toShareS_ok, List.forall_mem_nil _⟩)) (enters Try.func86 (by kernel_rfl) (by kernel_rfl)) Try.func86 fun _ => by
  have h : okRec p = true := h
  simp only [okRec, Bool.and_eq_true] at h
  rw [toRec_ev]
  simp only [nd, h, cond_true]

def eqRec (p q : List D) : Bool := ((gd p 0).int == (gd q 0).int) && (((gd p 1).int == (gd q 1).int) && (((gd p 2).int == (gd q 2).int) && (((gd p 3).int == (gd q 3).int) && ((eqShareS (gd p 4) (gd q 4)) && (true)))))
theorem eqRec_ev (p q : List D) (N : Nat) : evFn Try.prog (find [eqShareSE]) N [0, 1, 2, 3, 4, 9, 14, 19, 24, 30] Try.f88 rb [⟨ag rIRec, p⟩, ⟨ag rIRec, q⟩] = some (bo, bif !((gd p 0).int == (gd q 0).int) then ob false else bif !((gd p 1).int == (gd q 1).int) then ob false else bif !((gd p 2).int == (gd q 2).int) then ob false else bif !((gd p 3).int == (gd q 3).int) then ob false else bif !(eqShareS (gd p 4) (gd q 4)) then ob false else ob true) := by kernel_rfl
def eqRecE : Ent := (88, e2 (ag rIRec) (ag rIRec) fun p q => (⟨rb, [.b (eqRec p q)]⟩, true))
theorem eqRec_ok : EntOk Try.prog eqRecE := e2_ok fun p q _ => evFn_sound (N := 0) (ks := [0, 1, 2, 3, 4, 9, 14, 19, 24, 30]) (key := bo) (find_ok (List.forall_mem_cons.2 ⟨eqShareS_ok, List.forall_mem_nil _⟩)) (enters Try.func88 (by kernel_rfl) (by kernel_rfl)) Try.func88 fun _ => by
  rw [eqRec_ev]
  simp only [ne_step]
  rfl
theorem eqRec_refl (p : List D) : eqRec p p = true := by
  simp [eqRec, eqShareS_refl]

def sizeRec (p : List D) : Nat := sizeShareS (gd p 4)
theorem szRec_ev (p q : List D) (N : Nat) : evFn Try.prog (find [szShareSE]) N [0, 1, 2, 4, 10] Try.f84 ri [⟨ag rLRec, p⟩, ⟨ri, q⟩] = some (bo, nd (fair (gd q 0).int) (bif decide (left (sizeShareS (gd p 4)) (gd q 0).int < 0) then oi (-1) else oi (left (sizeShareS (gd p 4)) (gd q 0).int))) := by kernel_rfl
def szRecE : Ent := (84, e2 (ag rLRec) ri fun p q => (⟨ri, [.i (left (sizeRec p) (gd q 0).int)]⟩, fair (gd q 0).int))
theorem szRec_ok : EntOk Try.prog szRecE := e2_ok fun p q h => evFn_sound (N := 0) (ks := [0, 1, 2, 4, 10]) (key := bo) (find_ok (List.forall_mem_cons.2 ⟨szShareS_ok, List.forall_mem_nil _⟩)) (enters Try.func84 (by kernel_rfl) (by kernel_rfl)) Try.func84 fun _ => by
  have h : fair (gd q 0).int = true := h
  rw [szRec_ev]
  simp only [nd, h, cond_true, oi_if, left_neg]
  rfl

def cpRecS (z : D) : D := .l (z.rows.map fun r => cpRec (sub r 0 5))
def okRecS (z : D) : Bool := decide (z.rows.length ≤ 4294967296) && z.rows.all fun r => okRec (sub r 0 5)
noncomputable def toRecSL (N : Nat) (p : List D) : List D → Out := loopOf Try.prog (find [toRecE]) N [0, 2, 3, 4, 11] Try.f49 (sd (.sl 84)) [⟨sd (.sl 110), p⟩] 0
theorem toRecS_rd (p : List D) (N : Nat) (z x2 : D) (rows : List (List D)) (k : Int) : toRecSL N p [z, x2, .l rows, .i k] = bif decide (k < z.rows.length) then nd (inRange k z.rows.length) (nd (okRec (sub (z.rows.getD k.toNat []) 0 5)) (nd (inRange k rows.length) (nx [z, x2, .l (rows.set k.toNat (cpRec (sub (z.rows.getD k.toNat []) 0 5))), .i (w64 (k + 1))]))) else ex 0 [z, x2, .l rows, .i k] := by kernel_rfl
theorem toRecS_ev (p : List D) (N : Nat) : evFn Try.prog (find [toRecE]) N [0, 2, 3, 4, 11] Try.f49 (sd (.sl 84)) [⟨sd (.sl 110), p⟩] = some (bo, nd (decide (0 ≤ ((gd p 0).rows.length : Int)) && decide (((gd p 0).rows.length : Int) = ((gd p 0).rows.length : Int)) && decide (((gd p 0).rows.length : Int) ≤ 4294967296) && true && true)
    (let o := iter (toRecSL N p) N [gd p 0, .l [], .l (List.replicate (gd p 0).rows.length [.i 0, .i 0, .i 0, .i 0, .l []]), .i 0]
     nd o.isSome (nd (o.code == 2) (some (1, [gd o.pay 2]))))) := by kernel_rfl
def toRecSE : Ent := (49, e1 (sd (.sl 110)) fun p => (⟨sd (.sl 84), [cpRecS (gd p 0)]⟩, okRecS (gd p 0)))
theorem toRecS_ok : EntOk Try.prog toRecSE := e1_ok fun p h => evFn_sound (N := (gd p 0).rows.length + 1) (ks := [0, 2, 3, 4, 11]) (key := bo) (find_ok (List.forall_mem_cons.2 ⟨toRec_ok, List.forall_mem_nil _⟩)) (enters Try.func49 (by kernel_rfl) (by kernel_rfl)) Try.func49 fun hw => by
  have h : okRecS (gd p 0) = true := h
  simp only [okRecS, Bool.and_eq_true, decide_eq_true_eq, List.all_eq_true] at h
  rw [toRecS_ev, fill_loop (ok := fun r => okRec (sub r 0 5)) (f := fun r => cpRec (sub r 0 5)) [.i 0, .i 0, .i 0, .i 0, .l []] (wt_sl (hw ⟨sd (.sl 110), p⟩ (by simp))) h.2 (toRecS_rd p _ _ _) (by omega)]
  rw [show decide (((gd p 0).rows.length : Int) ≤ 4294967296) = true from decide_eq_true (by omega), show decide (0 ≤ ((gd p 0).rows.length : Int)) = true from decide_eq_true (by omega), decide_eq_true (rfl : ((gd p 0).rows.length : Int) = _)]
  rfl

def eqRecS : D → D → Bool := alikeS (fun r s => eqRec (sub r 0 5) (sub s 0 5))
noncomputable def eqRecSL (N : Nat) (p q : List D) : List D → Out := loopOf Try.prog (find [eqRecE]) N [0, 1, 4, 5, 10, 14, 26] Try.f54 rb [⟨sd (.sl 84), p⟩, ⟨sd (.sl 84), q⟩] 0
theorem eqRecS_rd (p q : List D) (N : Nat) (z u x y : D) (k : Int) : eqRecSL N p q [z, u, x, y, .i k] = bif decide (k < z.rows.length) then nd (inRange k z.rows.length) (nd (inRange k u.rows.length) (bif !(eqRec (sub (z.rows.getD k.toNat []) 0 5) (sub (u.rows.getD k.toNat []) 0 5)) then ob false else nx [z, u, x, y, .i (w64 (k + 1))])) else ex 0 [z, u, x, y, .i k] := by kernel_rfl
theorem eqRecS_ev (p q : List D) (N : Nat) : evFn Try.prog (find [eqRecE]) N [0, 1, 4, 5, 10, 14, 26] Try.f54 rb [⟨sd (.sl 84), p⟩, ⟨sd (.sl 84), q⟩] = some (bo, bif !(((gd p 0).rows.length : Int) == (gd q 0).rows.length) then ob false else
    (let o := iter (eqRecSL N p q) N [gd p 0, gd q 0, D0, .b (!(((gd p 0).rows.length : Int) == (gd q 0).rows.length)), .i 0]
     nd o.isSome (bif o.code == 1 then some (1, o.pay) else nd (o.code == 2) (ob true)))) := by kernel_rfl
def eqRecSE : Ent := (54, e2 (sd (.sl 84)) (sd (.sl 84)) fun p q => (⟨rb, [.b (eqRecS (gd p 0) (gd q 0))]⟩, true))
theorem eqRecS_ok : EntOk Try.prog eqRecSE := e2_ok fun p q _ => evFn_sound (N := (gd p 0).rows.length + 1) (ks := [0, 1, 4, 5, 10, 14, 26]) (key := bo) (find_ok (List.forall_mem_cons.2 ⟨eqRec_ok, List.forall_mem_nil _⟩)) (enters Try.func54 (by kernel_rfl) (by kernel_rfl)) Try.func54 fun hw => by
  rw [eqRecS_ev]
  by_cases hl : (gd p 0).rows.length = (gd q 0).rows.length
  · rw [like_loop (E := (fun r s => eqRec (sub r 0 5) (sub s 0 5))) (wt_sl (hw ⟨sd (.sl 84), p⟩ (by simp))) hl (eqRecS_rd p q _ _ _ _ _) (by omega)]
    rw [show ((((gd p 0).rows.length : Int)) == (gd q 0).rows.length) = true from beq_iff_eq.2 (by omega)]
    show some (bo, _) = some (bo, some (1, [D.b (alikeS (fun r s => eqRec (sub r 0 5) (sub s 0 5)) (gd p 0) (gd q 0))]))
    cases alikeS (fun r s => eqRec (sub r 0 5) (sub s 0 5)) (gd p 0) (gd q 0) <;> rfl
  · rw [show ((((gd p 0).rows.length : Int)) == (gd q 0).rows.length) = false from beq_eq_false_iff_ne.2 (by omega)]
    show some (bo, _) = some (bo, some (1, [D.b (alikeS (fun r s => eqRec (sub r 0 5) (sub s 0 5)) (gd p 0) (gd q 0))]))
    rw [show alikeS (fun r s => eqRec (sub r 0 5) (sub s 0 5)) (gd p 0) (gd q 0) = false from by simp [alikeS, hl]]
    rfl
theorem eqRecS_refl (z : D) : eqRecS z z = true := alikeS_refl (fun r => by exact eqRec_refl _) z

def sizeRecS (z : D) : Nat := z.rows.length + total (fun r => sizeRec (sub r 0 5)) z.rows
noncomputable def szRecSL (N : Nat) (p q : List D) : List D → Out := loopOf Try.prog (find [szRecE]) N [0, 1, 4, 5, 11, 15, 25] Try.f44 ri [⟨sd (.sl 110), p⟩, ⟨ri, q⟩] 0
theorem szRecS_rd (p q : List D) (N : Nat) (z x y : D) (n k : Int) : szRecSL N p q [z, .i n, x, y, .i k] = bif decide (k < z.rows.length) then nd (inRange k z.rows.length) (nd (fair n) (bif decide (left (sizeRec (sub (z.rows.getD k.toNat []) 0 5)) n < 0) then oi (-1) else nx [z, .i (left (sizeRec (sub (z.rows.getD k.toNat []) 0 5)) n), x, y, .i (w64 (k + 1))])) else ex 0 [z, .i n, x, y, .i k] := by kernel_rfl
theorem szRecS_ev (p q : List D) (N : Nat) : evFn Try.prog (find [szRecE]) N [0, 1, 4, 5, 11, 15, 25] Try.f44 ri [⟨sd (.sl 110), p⟩, ⟨ri, q⟩] = some (bo, bif decide (w64 ((gd q 0).int - (gd p 0).rows.length) < 0) then oi (-1) else
    (let o := iter (szRecSL N p q) N [gd p 0, .i (w64 ((gd q 0).int - (gd p 0).rows.length)), .i 0, .b (decide (w64 ((gd q 0).int - (gd p 0).rows.length) < 0)), .i 0]
     nd o.isSome (bif o.code == 1 then some (1, o.pay) else nd (o.code == 2) (some (1, [gd o.pay 1]))))) := by kernel_rfl
def szRecSE : Ent := (44, e2 (sd (.sl 110)) ri fun p q => (⟨ri, [.i (left (sizeRecS (gd p 0)) (gd q 0).int)]⟩, fair (gd q 0).int))
theorem szRecS_ok : EntOk Try.prog szRecSE := e2_ok fun p q h => evFn_sound (N := (gd p 0).rows.length + 1) (ks := [0, 1, 4, 5, 11, 15, 25]) (key := bo) (find_ok (List.forall_mem_cons.2 ⟨szRec_ok, List.forall_mem_nil _⟩)) (enters Try.func44 (by kernel_rfl) (by kernel_rfl)) Try.func44 fun hw => by
  have h : fair (gd q 0).int = true := h
  have hl := wt_sl (hw ⟨sd (.sl 110), p⟩ (by simp))
  have h2 : 0 ≤ (gd q 0).int ∧ (gd q 0).int ≤ 1048576 := by simpa [fair] using h
  rw [szRecS_ev, w64_id (by omega) (by omega)]
  by_cases hn : (gd q 0).int - ((gd p 0).rows.length : Int) < 0
  · rw [decide_eq_true hn, cond_true]
    have e : left (sizeRecS (gd p 0)) (gd q 0).int = -1 := if_neg (by simp only [sizeRecS]; push_cast; omega)
    rw [e]
  · rw [decide_eq_false hn, cond_false]
    have := size_loop (size := fun r => sizeRec (sub r 0 5)) hl (szRecS_rd p q ((gd p 0).rows.length + 1) (gd p 0) (.i 0) (.b false)) (gd p 0).rows.length 0 ((gd p 0).rows.length + 1) ((gd q 0).int - ((gd p 0).rows.length : Int)) (by omega) (by omega) (by omega) (by omega)
    simp only [Int.natCast_zero, List.drop_zero] at this
    rw [this]
    by_cases hq : (total (fun r => sizeRec (sub r 0 5)) (gd p 0).rows : Int) ≤ (gd q 0).int - ((gd p 0).rows.length : Int)
    · have e : left (sizeRecS (gd p 0)) (gd q 0).int = (gd q 0).int - ((gd p 0).rows.length : Int) - (total (fun r => sizeRec (sub r 0 5)) (gd p 0).rows : Int) := by
        rw [left, if_pos (by simp only [sizeRecS]; push_cast; omega)]
        simp only [sizeRecS]; push_cast; omega
      rw [if_pos hq, e]
      rfl
    · have e : left (sizeRecS (gd p 0)) (gd q 0).int = -1 := if_neg (by simp only [sizeRecS]; push_cast; omega)
      rw [if_neg hq, e]
      rfl

end Go.Proofs.Ytdejncnjaebjfaa
