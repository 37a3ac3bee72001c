/-
  The judge's types: what is copied, compared and measured. Printed by genev.py.
-/
import Derived.Test.YtdejncnjaebjfaaRounds
namespace Go.Proofs.Ytdejncnjaebjfaa
set_option maxRecDepth 4096
theorem ne_step (c x : Bool) : (bif !c then ob false else ob x) = ob (c && x) := by cases c <;> rfl
theorem wt_sl {P : Program} {e : TypeId} {p : List D} (h : WT P ⟨sd (.sl e), p⟩) : (gd p 0).rows.length ≤ 9223372036854775807 := by
  have h : WD P (.sl e) (gd p 0) := h
  cases h with
  | sl _ _ row _ h _ => exact h
theorem left_left (a b : Nat) (n : Int) : (if left a n < 0 then -1 else left b (left a n)) = left (a + b) n := by
  unfold left
  repeat' split
  all_goals first | rfl | omega | (push_cast at *; omega)
theorem left_neg (a : Nat) (n : Int) : (if left a n < 0 then -1 else left a n) = left a n := by
  unfold left
  repeat' split
  all_goals first | omega | rfl
theorem left_sub (a : Nat) (n : Int) : (if n - (a : Int) < 0 then -1 else n - (a : Int)) = left a n := by
  unfold left
  repeat' split
  all_goals first | rfl | omega
theorem fair_left {a : Nat} {n : Int} (h : fair n = true) (h' : ¬ left a n < 0) : fair (left a n) = true := by
  simp only [fair, Bool.and_eq_true, decide_eq_true_eq, left] at *
  split at h' <;> simp_all <;> omega
theorem oi_if (c : Prop) [Decidable c] (x y : Int) : (bif decide c then oi x else oi y) = oi (if c then x else y) := by
  by_cases h : c <;> simp [h]

def cpInt (r : List D) : List D := [gd r 0]
def okInt (_ : List D) : Bool := true
def eqInt (p q : List D) : Bool := (gd p 0).int == (gd q 0).int

def cpIntS (z : D) : D := .l (z.rows.map fun r => cpInt r)
def okIntS (z : D) : Bool := decide (z.rows.length ≤ 4294967296) && z.rows.all fun r => okInt r
noncomputable def toIntSL (N : Nat) (p : List D) : List D → Out := loopOf Try.prog (find []) N [0, 2, 3, 4, 11] Try.f50 (sd (.sl 3)) [⟨sd (.sl 3), p⟩] 0
theorem toIntS_rd (p : List D) (N : Nat) (z x2 : D) (rows : List (List D)) (k : Int) : toIntSL N p [z, x2, .l rows, .i k] = bif decide (k < z.rows.length) then nd (inRange k z.rows.length) (nd (okInt (z.rows.getD k.toNat [])) (nd (inRange k rows.length) (nx [z, x2, .l (rows.set k.toNat (cpInt (z.rows.getD k.toNat []))), .i (w64 (k + 1))]))) else ex 0 [z, x2, .l rows, .i k] := by kernel_rfl
theorem toIntS_ev (p : List D) (N : Nat) : evFn Try.prog (find []) N [0, 2, 3, 4, 11] Try.f50 (sd (.sl 3)) [⟨sd (.sl 3), p⟩] = some (bo, nd (decide (0 ≤ ((gd p 0).rows.length : Int)) && decide (((gd p 0).rows.length : Int) = ((gd p 0).rows.length : Int)) && decide (((gd p 0).rows.length : Int) ≤ 4294967296) && true && true)
    (let o := iter (toIntSL N p) N [gd p 0, .l [], .l (List.replicate (gd p 0).rows.length [.i 0]), .i 0]
     nd o.isSome (nd (o.code == 2) (some (1, [gd o.pay 2]))))) := by kernel_rfl
def toIntSE : Ent := (50, e1 (sd (.sl 3)) fun p => (⟨sd (.sl 3), [cpIntS (gd p 0)]⟩, okIntS (gd p 0)))
theorem toIntS_ok : EntOk Try.prog toIntSE := e1_ok fun p h => evFn_sound (N := (gd p 0).rows.length + 1) (ks := [0, 2, 3, 4, 11]) (key := bo) (find_ok (List.forall_mem_nil _)) (enters Try.func50 (by kernel_rfl) (by kernel_rfl)) Try.func50 fun hw => by
  have h : okIntS (gd p 0) = true := h
  simp only [okIntS, Bool.and_eq_true, decide_eq_true_eq, List.all_eq_true] at h
  rw [toIntS_ev, fill_loop (ok := fun r => okInt r) (f := fun r => cpInt r) [.i 0] (wt_sl (hw ⟨sd (.sl 3), p⟩ (by simp))) h.2 (toIntS_rd p _ _ _) (by omega)]
  rw [show decide (((gd p 0).rows.length : Int) ≤ 4294967296) = true from decide_eq_true (by omega), show decide (0 ≤ ((gd p 0).rows.length : Int)) = true from decide_eq_true (by omega), decide_eq_true (rfl : ((gd p 0).rows.length : Int) = _)]
  rfl

def eqIntS : D → D → Bool := alikeS (fun r s => eqInt r s)
noncomputable def eqIntSL (N : Nat) (p q : List D) : List D → Out := loopOf Try.prog (find []) N [0, 1, 4, 5, 10, 14, 25] Try.f55 rb [⟨sd (.sl 3), p⟩, ⟨sd (.sl 3), q⟩] 0
theorem eqIntS_rd (p q : List D) (N : Nat) (z u x y : D) (k : Int) : eqIntSL N p q [z, u, x, y, .i k] = bif decide (k < z.rows.length) then nd (inRange k z.rows.length) (nd (inRange k u.rows.length) (bif !(eqInt (z.rows.getD k.toNat []) (u.rows.getD k.toNat [])) then ob false else nx [z, u, x, y, .i (w64 (k + 1))])) else ex 0 [z, u, x, y, .i k] := by kernel_rfl
theorem eqIntS_ev (p q : List D) (N : Nat) : evFn Try.prog (find []) N [0, 1, 4, 5, 10, 14, 25] Try.f55 rb [⟨sd (.sl 3), p⟩, ⟨sd (.sl 3), q⟩] = some (bo, bif !(((gd p 0).rows.length : Int) == (gd q 0).rows.length) then ob false else
    (let o := iter (eqIntSL N p q) N [gd p 0, gd q 0, D0, .b (!(((gd p 0).rows.length : Int) == (gd q 0).rows.length)), .i 0]
     nd o.isSome (bif o.code == 1 then some (1, o.pay) else nd (o.code == 2) (ob true)))) := by kernel_rfl
def eqIntSE : Ent := (55, e2 (sd (.sl 3)) (sd (.sl 3)) fun p q => (⟨rb, [.b (eqIntS (gd p 0) (gd q 0))]⟩, true))
theorem eqIntS_ok : EntOk Try.prog eqIntSE := e2_ok fun p q _ => evFn_sound (N := (gd p 0).rows.length + 1) (ks := [0, 1, 4, 5, 10, 14, 25]) (key := bo) (find_ok (List.forall_mem_nil _)) (enters Try.func55 (by kernel_rfl) (by kernel_rfl)) Try.func55 fun hw => by
  rw [eqIntS_ev]
  by_cases hl : (gd p 0).rows.length = (gd q 0).rows.length
  · rw [like_loop (E := (fun r s => eqInt r s)) (wt_sl (hw ⟨sd (.sl 3), p⟩ (by simp))) hl (eqIntS_rd p q _ _ _ _ _) (by omega)]
    rw [show ((((gd p 0).rows.length : Int)) == (gd q 0).rows.length) = true from beq_iff_eq.2 (by omega)]
    show some (bo, _) = some (bo, some (1, [D.b (alikeS (fun r s => eqInt r s) (gd p 0) (gd q 0))]))
    cases alikeS (fun r s => eqInt r s) (gd p 0) (gd q 0) <;> rfl
  · rw [show ((((gd p 0).rows.length : Int)) == (gd q 0).rows.length) = false from beq_eq_false_iff_ne.2 (by omega)]
    show some (bo, _) = some (bo, some (1, [D.b (alikeS (fun r s => eqInt r s) (gd p 0) (gd q 0))]))
    rw [show alikeS (fun r s => eqInt r s) (gd p 0) (gd q 0) = false from by simp [alikeS, hl]]
    rfl
theorem eqIntS_refl (z : D) : eqIntS z z = true := alikeS_refl (fun r => by simp [eqInt]) z

def sizeIntS (z : D) : Nat := z.rows.length
theorem szIntS_ev (p q : List D) (N : Nat) : evFn Try.prog (find []) N [0, 1, 4, 10] Try.f45 ri [⟨sd (.sl 3), p⟩, ⟨ri, q⟩] = some (bo, bif decide (w64 ((gd q 0).int - (gd p 0).rows.length) < 0) then oi (-1) else oi (w64 ((gd q 0).int - (gd p 0).rows.length))) := by kernel_rfl
def szIntSE : Ent := (45, e2 (sd (.sl 3)) ri fun p q => (⟨ri, [.i (left (sizeIntS (gd p 0)) (gd q 0).int)]⟩, fair (gd q 0).int))
theorem szIntS_ok : EntOk Try.prog szIntSE := e2_ok fun p q h => evFn_sound (N := (gd p 0).rows.length + 1) (ks := [0, 1, 4, 10]) (key := bo) (find_ok (List.forall_mem_nil _)) (enters Try.func45 (by kernel_rfl) (by kernel_rfl)) Try.func45 fun hw => by
  have h : fair (gd q 0).int = true := h
  have hl := wt_sl (hw ⟨sd (.sl 3), p⟩ (by simp))
  have h2 : 0 ≤ (gd q 0).int ∧ (gd q 0).int ≤ 1048576 := by simpa [fair] using h
  rw [szIntS_ev, w64_id (by omega) (by omega)]
  rw [oi_if, left_sub]
  rfl

def rLCell : List S := [si, si]
def rICell : List S := [si, si]
def cpCell (p : List D) : List D := [gd p 0, gd p 1]
def okCell (p : List D) : Bool := true
theorem toCell_ev (p : List D) (N : Nat) : evFn Try.prog (find []) N [0, 1, 2, 3] Try.f102 (ag rICell) [⟨ag rLCell, p⟩] = some (bo, some (1, cpCell p)) := by kernel_rfl
def toCellE : Ent := (102, e1 (ag rLCell) fun p => (⟨ag rICell, cpCell p⟩, okCell p))
theorem toCell_ok : EntOk Try.prog toCellE := e1_ok fun p h => evFn_sound (N := 0) (ks := [0, 1, 2, 3]) (key := bo) (find_ok (List.forall_mem_nil _)) (enters Try.func102 (by kernel_rfl) (by kernel_rfl)) Try.func102 fun _ => by
  have h : okCell p = true := h
  simp only [okCell, Bool.and_eq_true] at h
  rw [toCell_ev]

def eqCell (p q : List D) : Bool := ((gd p 0).int == (gd q 0).int) && (((gd p 1).int == (gd q 1).int) && (true))
theorem eqCell_ev (p q : List D) (N : Nat) : evFn Try.prog (find []) N [0, 1, 2, 3, 4, 9, 14] Try.f63 rb [⟨ag rICell, p⟩, ⟨ag rICell, q⟩] = some (bo, bif !((gd p 0).int == (gd q 0).int) then ob false else bif !((gd p 1).int == (gd q 1).int) then ob false else ob true) := by kernel_rfl
def eqCellE : Ent := (63, e2 (ag rICell) (ag rICell) fun p q => (⟨rb, [.b (eqCell p q)]⟩, true))
theorem eqCell_ok : EntOk Try.prog eqCellE := e2_ok fun p q _ => evFn_sound (N := 0) (ks := [0, 1, 2, 3, 4, 9, 14]) (key := bo) (find_ok (List.forall_mem_nil _)) (enters Try.func63 (by kernel_rfl) (by kernel_rfl)) Try.func63 fun _ => by
  rw [eqCell_ev]
  simp only [ne_step]
  rfl
theorem eqCell_refl (p : List D) : eqCell p p = true := by
  simp [eqCell]

def sizeCell (p : List D) : Nat := 0
def cpCellS (z : D) : D := .l (z.rows.map fun r => cpCell (sub r 0 2))
def okCellS (z : D) : Bool := decide (z.rows.length ≤ 4294967296) && z.rows.all fun r => okCell (sub r 0 2)
noncomputable def toCellSL (N : Nat) (p : List D) : List D → Out := loopOf Try.prog (find [toCellE]) N [0, 2, 3, 4, 11] Try.f87 (sd (.sl 92)) [⟨sd (.sl 126), p⟩] 0
theorem toCellS_rd (p : List D) (N : Nat) (z x2 : D) (rows : List (List D)) (k : Int) : toCellSL N p [z, x2, .l rows, .i k] = bif decide (k < z.rows.length) then nd (inRange k z.rows.length) (nd (okCell (sub (z.rows.getD k.toNat []) 0 2)) (nd (inRange k rows.length) (nx [z, x2, .l (rows.set k.toNat (cpCell (sub (z.rows.getD k.toNat []) 0 2))), .i (w64 (k + 1))]))) else ex 0 [z, x2, .l rows, .i k] := by kernel_rfl
theorem toCellS_ev (p : List D) (N : Nat) : evFn Try.prog (find [toCellE]) N [0, 2, 3, 4, 11] Try.f87 (sd (.sl 92)) [⟨sd (.sl 126), p⟩] = some (bo, nd (decide (0 ≤ ((gd p 0).rows.length : Int)) && decide (((gd p 0).rows.length : Int) = ((gd p 0).rows.length : Int)) && decide (((gd p 0).rows.length : Int) ≤ 4294967296) && true && true)
    (let o := iter (toCellSL N p) N [gd p 0, .l [], .l (List.replicate (gd p 0).rows.length [.i 0, .i 0]), .i 0]
     nd o.isSome (nd (o.code == 2) (some (1, [gd o.pay 2]))))) := by kernel_rfl
def toCellSE : Ent := (87, e1 (sd (.sl 126)) fun p => (⟨sd (.sl 92), [cpCellS (gd p 0)]⟩, okCellS (gd p 0)))
theorem toCellS_ok : EntOk Try.prog toCellSE := e1_ok fun p h => evFn_sound (N := (gd p 0).rows.length + 1) (ks := [0, 2, 3, 4, 11]) (key := bo) (find_ok (List.forall_mem_cons.2 ⟨toCell_ok, List.forall_mem_nil _⟩)) (enters Try.func87 (by kernel_rfl) (by kernel_rfl)) Try.func87 fun hw => by
  have h : okCellS (gd p 0) = true := h
  simp only [okCellS, Bool.and_eq_true, decide_eq_true_eq, List.all_eq_true] at h
  rw [toCellS_ev, fill_loop (ok := fun r => okCell (sub r 0 2)) (f := fun r => cpCell (sub r 0 2)) [.i 0, .i 0] (wt_sl (hw ⟨sd (.sl 126), p⟩ (by simp))) h.2 (toCellS_rd p _ _ _) (by omega)]
  rw [show decide (((gd p 0).rows.length : Int) ≤ 4294967296) = true from decide_eq_true (by omega), show decide (0 ≤ ((gd p 0).rows.length : Int)) = true from decide_eq_true (by omega), decide_eq_true (rfl : ((gd p 0).rows.length : Int) = _)]
  rfl

def eqCellS : D → D → Bool := alikeS (fun r s => eqCell (sub r 0 2) (sub s 0 2))
noncomputable def eqCellSL (N : Nat) (p q : List D) : List D → Out := loopOf Try.prog (find [eqCellE]) N [0, 1, 4, 5, 10, 14, 26] Try.f29 rb [⟨sd (.sl 92), p⟩, ⟨sd (.sl 92), q⟩] 0
theorem eqCellS_rd (p q : List D) (N : Nat) (z u x y : D) (k : Int) : eqCellSL N p q [z, u, x, y, .i k] = bif decide (k < z.rows.length) then nd (inRange k z.rows.length) (nd (inRange k u.rows.length) (bif !(eqCell (sub (z.rows.getD k.toNat []) 0 2) (sub (u.rows.getD k.toNat []) 0 2)) then ob false else nx [z, u, x, y, .i (w64 (k + 1))])) else ex 0 [z, u, x, y, .i k] := by kernel_rfl
theorem eqCellS_ev (p q : List D) (N : Nat) : evFn Try.prog (find [eqCellE]) N [0, 1, 4, 5, 10, 14, 26] Try.f29 rb [⟨sd (.sl 92), p⟩, ⟨sd (.sl 92), q⟩] = some (bo, bif !(((gd p 0).rows.length : Int) == (gd q 0).rows.length) then ob false else
    (let o := iter (eqCellSL N p q) N [gd p 0, gd q 0, D0, .b (!(((gd p 0).rows.length : Int) == (gd q 0).rows.length)), .i 0]
     nd o.isSome (bif o.code == 1 then some (1, o.pay) else nd (o.code == 2) (ob true)))) := by kernel_rfl
def eqCellSE : Ent := (29, e2 (sd (.sl 92)) (sd (.sl 92)) fun p q => (⟨rb, [.b (eqCellS (gd p 0) (gd q 0))]⟩, true))
theorem eqCellS_ok : EntOk Try.prog eqCellSE := e2_ok fun p q _ => evFn_sound (N := (gd p 0).rows.length + 1) (ks := [0, 1, 4, 5, 10, 14, 26]) (key := bo) (find_ok (List.forall_mem_cons.2 ⟨eqCell_ok, List.forall_mem_nil _⟩)) (enters Try.func29 (by kernel_rfl) (by kernel_rfl)) Try.func29 fun hw => by
  rw [eqCellS_ev]
  by_cases hl : (gd p 0).rows.length = (gd q 0).rows.length
  · rw [like_loop (E := (fun r s => eqCell (sub r 0 2) (sub s 0 2))) (wt_sl (hw ⟨sd (.sl 92), p⟩ (by simp))) hl (eqCellS_rd p q _ _ _ _ _) (by omega)]
    rw [show ((((gd p 0).rows.length : Int)) == (gd q 0).rows.length) = true from beq_iff_eq.2 (by omega)]
    show some (bo, _) = some (bo, some (1, [D.b (alikeS (fun r s => eqCell (sub r 0 2) (sub s 0 2)) (gd p 0) (gd q 0))]))
    cases alikeS (fun r s => eqCell (sub r 0 2) (sub s 0 2)) (gd p 0) (gd q 0) <;> rfl
  · rw [show ((((gd p 0).rows.length : Int)) == (gd q 0).rows.length) = false from beq_eq_false_iff_ne.2 (by omega)]
    show some (bo, _) = some (bo, some (1, [D.b (alikeS (fun r s => eqCell (sub r 0 2) (sub s 0 2)) (gd p 0) (gd q 0))]))
    rw [show alikeS (fun r s => eqCell (sub r 0 2) (sub s 0 2)) (gd p 0) (gd q 0) = false from by simp [alikeS, hl]]
    rfl
theorem eqCellS_refl (z : D) : eqCellS z z = true := alikeS_refl (fun r => by exact eqCell_refl _) z

def sizeCellS (z : D) : Nat := z.rows.length
theorem szCellS_ev (p q : List D) (N : Nat) : evFn Try.prog (find []) N [0, 1, 4, 10] Try.f85 ri [⟨sd (.sl 126), p⟩, ⟨ri, q⟩] = some (bo, bif decide (w64 ((gd q 0).int - (gd p 0).rows.length) < 0) then oi (-1) else oi (w64 ((gd q 0).int - (gd p 0).rows.length))) := by kernel_rfl
def szCellSE : Ent := (85, e2 (sd (.sl 126)) ri fun p q => (⟨ri, [.i (left (sizeCellS (gd p 0)) (gd q 0).int)]⟩, fair (gd q 0).int))
theorem szCellS_ok : EntOk Try.prog szCellSE := e2_ok fun p q h => evFn_sound (N := (gd p 0).rows.length + 1) (ks := [0, 1, 4, 10]) (key := bo) (find_ok (List.forall_mem_nil _)) (enters Try.func85 (by kernel_rfl) (by kernel_rfl)) Try.func85 fun hw => by
  have h : fair (gd q 0).int = true := h
  have hl := wt_sl (hw ⟨sd (.sl 126), p⟩ (by simp))
  have h2 : 0 ≤ (gd q 0).int ∧ (gd q 0).int ≤ 1048576 := by simpa [fair] using h
  rw [szCellS_ev, w64_id (by omega) (by omega)]
  rw [oi_if, left_sub]
  rfl

def rLRange : List S := [si, si]
def rIRange : List S := [si, si]
def cpRange (p : List D) : List D := [gd p 0, gd p 1]
def okRange (p : List D) : Bool := true
theorem toRange_ev (p : List D) (N : Nat) : evFn Try.prog (find []) N [0, 1, 2, 3] Try.f141 (ag rIRange) [⟨ag rLRange, p⟩] = some (bo, some (1, cpRange p)) := by kernel_rfl
def toRangeE : Ent := (141, e1 (ag rLRange) fun p => (⟨ag rIRange, cpRange p⟩, okRange p))
theorem toRange_ok : EntOk Try.prog toRangeE := e1_ok fun p h => evFn_sound (N := 0) (ks := [0, 1, 2, 3]) (key := bo) (find_ok (List.forall_mem_nil _)) (enters Try.func141 (by kernel_rfl) (by kernel_rfl)) Try.func141 fun _ => by
  have h : okRange p = true := h
  simp only [okRange, Bool.and_eq_true] at h
  rw [toRange_ev]

def eqRange (p q : List D) : Bool := ((gd p 0).int == (gd q 0).int) && (((gd p 1).int == (gd q 1).int) && (true))
theorem eqRange_ev (p q : List D) (N : Nat) : evFn Try.prog (find []) N [0, 1, 2, 3, 4, 9, 14] Try.f143 rb [⟨ag rIRange, p⟩, ⟨ag rIRange, q⟩] = some (bo, bif !((gd p 0).int == (gd q 0).int) then ob false else bif !((gd p 1).int == (gd q 1).int) then ob false else ob true) := by kernel_rfl
def eqRangeE : Ent := (143, e2 (ag rIRange) (ag rIRange) fun p q => (⟨rb, [.b (eqRange p q)]⟩, true))
theorem eqRange_ok : EntOk Try.prog eqRangeE := e2_ok fun p q _ => evFn_sound (N := 0) (ks := [0, 1, 2, 3, 4, 9, 14]) (key := bo) (find_ok (List.forall_mem_nil _)) (enters Try.func143 (by kernel_rfl) (by kernel_rfl)) Try.func143 fun _ => by
  rw [eqRange_ev]
  simp only [ne_step]
  rfl
theorem eqRange_refl (p : List D) : eqRange p p = true := by
  simp [eqRange]

def sizeRange (p : List D) : Nat := 0
def cpRangeS (z : D) : D := .l (z.rows.map fun r => cpRange (sub r 0 2))
def okRangeS (z : D) : Bool := decide (z.rows.length ≤ 4294967296) && z.rows.all fun r => okRange (sub r 0 2)
noncomputable def toRangeSL (N : Nat) (p : List D) : List D → Out := loopOf Try.prog (find [toRangeE]) N [0, 2, 3, 4, 11] Try.f133 (sd (.sl 97)) [⟨sd (.sl 162), p⟩] 0
theorem toRangeS_rd (p : List D) (N : Nat) (z x2 : D) (rows : List (List D)) (k : Int) : toRangeSL N p [z, x2, .l rows, .i k] = bif decide (k < z.rows.length) then nd (inRange k z.rows.length) (nd (okRange (sub (z.rows.getD k.toNat []) 0 2)) (nd (inRange k rows.length) (nx [z, x2, .l (rows.set k.toNat (cpRange (sub (z.rows.getD k.toNat []) 0 2))), .i (w64 (k + 1))]))) else ex 0 [z, x2, .l rows, .i k] := by kernel_rfl
theorem toRangeS_ev (p : List D) (N : Nat) : evFn Try.prog (find [toRangeE]) N [0, 2, 3, 4, 11] Try.f133 (sd (.sl 97)) [⟨sd (.sl 162), p⟩] = some (bo, nd (decide (0 ≤ ((gd p 0).rows.length : Int)) && decide (((gd p 0).rows.length : Int) = ((gd p 0).rows.length : Int)) && decide (((gd p 0).rows.length : Int) ≤ 4294967296) && true && true)
    (let o := iter (toRangeSL N p) N [gd p 0, .l [], .l (List.replicate (gd p 0).rows.length [.i 0, .i 0]), .i 0]
     nd o.isSome (nd (o.code == 2) (some (1, [gd o.pay 2]))))) := by kernel_rfl
def toRangeSE : Ent := (133, e1 (sd (.sl 162)) fun p => (⟨sd (.sl 97), [cpRangeS (gd p 0)]⟩, okRangeS (gd p 0)))
theorem toRangeS_ok : EntOk Try.prog toRangeSE := e1_ok fun p h => evFn_sound (N := (gd p 0).rows.length + 1) (ks := [0, 2, 3, 4, 11]) (key := bo) (find_ok (List.forall_mem_cons.2 ⟨toRange_ok, List.forall_mem_nil _⟩)) (enters Try.func133 (by kernel_rfl) (by kernel_rfl)) Try.func133 fun hw => by
  have h : okRangeS (gd p 0) = true := h
  simp only [okRangeS, Bool.and_eq_true, decide_eq_true_eq, List.all_eq_true] at h
  rw [toRangeS_ev, fill_loop (ok := fun r => okRange (sub r 0 2)) (f := fun r => cpRange (sub r 0 2)) [.i 0, .i 0] (wt_sl (hw ⟨sd (.sl 162), p⟩ (by simp))) h.2 (toRangeS_rd p _ _ _) (by omega)]
  rw [show decide (((gd p 0).rows.length : Int) ≤ 4294967296) = true from decide_eq_true (by omega), show decide (0 ≤ ((gd p 0).rows.length : Int)) = true from decide_eq_true (by omega), decide_eq_true (rfl : ((gd p 0).rows.length : Int) = _)]
  rfl

def eqRangeS : D → D → Bool := alikeS (fun r s => eqRange (sub r 0 2) (sub s 0 2))
noncomputable def eqRangeSL (N : Nat) (p q : List D) : List D → Out := loopOf Try.prog (find [eqRangeE]) N [0, 1, 4, 5, 10, 14, 26] Try.f135 rb [⟨sd (.sl 97), p⟩, ⟨sd (.sl 97), q⟩] 0
theorem eqRangeS_rd (p q : List D) (N : Nat) (z u x y : D) (k : Int) : eqRangeSL N p q [z, u, x, y, .i k] = bif decide (k < z.rows.length) then nd (inRange k z.rows.length) (nd (inRange k u.rows.length) (bif !(eqRange (sub (z.rows.getD k.toNat []) 0 2) (sub (u.rows.getD k.toNat []) 0 2)) then ob false else nx [z, u, x, y, .i (w64 (k + 1))])) else ex 0 [z, u, x, y, .i k] := by kernel_rfl
theorem eqRangeS_ev (p q : List D) (N : Nat) : evFn Try.prog (find [eqRangeE]) N [0, 1, 4, 5, 10, 14, 26] Try.f135 rb [⟨sd (.sl 97), p⟩, ⟨sd (.sl 97), q⟩] = some (bo, bif !(((gd p 0).rows.length : Int) == (gd q 0).rows.length) then ob false else
    (let o := iter (eqRangeSL N p q) N [gd p 0, gd q 0, D0, .b (!(((gd p 0).rows.length : Int) == (gd q 0).rows.length)), .i 0]
     nd o.isSome (bif o.code == 1 then some (1, o.pay) else nd (o.code == 2) (ob true)))) := by kernel_rfl
def eqRangeSE : Ent := (135, e2 (sd (.sl 97)) (sd (.sl 97)) fun p q => (⟨rb, [.b (eqRangeS (gd p 0) (gd q 0))]⟩, true))
theorem eqRangeS_ok : EntOk Try.prog eqRangeSE := e2_ok fun p q _ => evFn_sound (N := (gd p 0).rows.length + 1) (ks := [0, 1, 4, 5, 10, 14, 26]) (key := bo) (find_ok (List.forall_mem_cons.2 ⟨eqRange_ok, List.forall_mem_nil _⟩)) (enters Try.func135 (by kernel_rfl) (by kernel_rfl)) Try.func135 fun hw => by
  rw [eqRangeS_ev]
  by_cases hl : (gd p 0).rows.length = (gd q 0).rows.length
  · rw [like_loop (E := (fun r s => eqRange (sub r 0 2) (sub s 0 2))) (wt_sl (hw ⟨sd (.sl 97), p⟩ (by simp))) hl (eqRangeS_rd p q _ _ _ _ _) (by omega)]
    rw [show ((((gd p 0).rows.length : Int)) == (gd q 0).rows.length) = true from beq_iff_eq.2 (by omega)]
    show some (bo, _) = some (bo, some (1, [D.b (alikeS (fun r s => eqRange (sub r 0 2) (sub s 0 2)) (gd p 0) (gd q 0))]))
    cases alikeS (fun r s => eqRange (sub r 0 2) (sub s 0 2)) (gd p 0) (gd q 0) <;> rfl
  · rw [show ((((gd p 0).rows.length : Int)) == (gd q 0).rows.length) = false from beq_eq_false_iff_ne.2 (by omega)]
    show some (bo, _) = some (bo, some (1, [D.b (alikeS (fun r s => eqRange (sub r 0 2) (sub s 0 2)) (gd p 0) (gd q 0))]))
    rw [show alikeS (fun r s => eqRange (sub r 0 2) (sub s 0 2)) (gd p 0) (gd q 0) = false from by simp [alikeS, hl]]
    rfl
theorem eqRangeS_refl (z : D) : eqRangeS z z = true := alikeS_refl (fun r => by exact eqRange_refl _) z

def sizeRangeS (z : D) : Nat := z.rows.length
theorem szRangeS_ev (p q : List D) (N : Nat) : evFn Try.prog (find []) N [0, 1, 4, 10] Try.f131 ri [⟨sd (.sl 162), p⟩, ⟨ri, q⟩] = some (bo, bif decide (w64 ((gd q 0).int - (gd p 0).rows.length) < 0) then oi (-1) else oi (w64 ((gd q 0).int - (gd p 0).rows.length))) := by kernel_rfl
def szRangeSE : Ent := (131, e2 (sd (.sl 162)) ri fun p q => (⟨ri, [.i (left (sizeRangeS (gd p 0)) (gd q 0).int)]⟩, fair (gd q 0).int))
theorem szRangeS_ok : EntOk Try.prog szRangeSE := e2_ok fun p q h => evFn_sound (N := (gd p 0).rows.length + 1) (ks := [0, 1, 4, 10]) (key := bo) (find_ok (List.forall_mem_nil _)) (enters Try.func131 (by kernel_rfl) (by kernel_rfl)) Try.func131 fun hw => by
  have h : fair (gd q 0).int = true := h
  have hl := wt_sl (hw ⟨sd (.sl 162), p⟩ (by simp))
  have h2 : 0 ≤ (gd q 0).int ∧ (gd q 0).int ≤ 1048576 := by simpa [fair] using h
  rw [szRangeS_ev, w64_id (by omega) (by omega)]
  rw [oi_if, left_sub]
  rfl

def rLWrite : List S := [si, si]
def rIWrite : List S := [si, si]
def cpWrite (p : List D) : List D := [gd p 0, gd p 1]
def okWrite (p : List D) : Bool := true
theorem toWrite_ev (p : List D) (N : Nat) : evFn Try.prog (find []) N [0, 1, 2, 3] Try.f142 (ag rIWrite) [⟨ag rLWrite, p⟩] = some (bo, some (1, cpWrite p)) := by kernel_rfl
def toWriteE : Ent := (142, e1 (ag rLWrite) fun p => (⟨ag rIWrite, cpWrite p⟩, okWrite p))
theorem toWrite_ok : EntOk Try.prog toWriteE := e1_ok fun p h => evFn_sound (N := 0) (ks := [0, 1, 2, 3]) (key := bo) (find_ok (List.forall_mem_nil _)) (enters Try.func142 (by kernel_rfl) (by kernel_rfl)) Try.func142 fun _ => by
  have h : okWrite p = true := h
  simp only [okWrite, Bool.and_eq_true] at h
  rw [toWrite_ev]

def eqWrite (p q : List D) : Bool := ((gd p 0).int == (gd q 0).int) && (((gd p 1).int == (gd q 1).int) && (true))
theorem eqWrite_ev (p q : List D) (N : Nat) : evFn Try.prog (find []) N [0, 1, 2, 3, 4, 9, 14] Try.f144 rb [⟨ag rIWrite, p⟩, ⟨ag rIWrite, q⟩] = some (bo, bif !((gd p 0).int == (gd q 0).int) then ob false else bif !((gd p 1).int == (gd q 1).int) then ob false else ob true) := by kernel_rfl
def eqWriteE : Ent := (144, e2 (ag rIWrite) (ag rIWrite) fun p q => (⟨rb, [.b (eqWrite p q)]⟩, true))
theorem eqWrite_ok : EntOk Try.prog eqWriteE := e2_ok fun p q _ => evFn_sound (N := 0) (ks := [0, 1, 2, 3, 4, 9, 14]) (key := bo) (find_ok (List.forall_mem_nil _)) (enters Try.func144 (by kernel_rfl) (by kernel_rfl)) Try.func144 fun _ => by
  rw [eqWrite_ev]
  simp only [ne_step]
  rfl
theorem eqWrite_refl (p : List D) : eqWrite p p = true := by
  simp [eqWrite]

def sizeWrite (p : List D) : Nat := 0
def cpWriteS (z : D) : D := .l (z.rows.map fun r => cpWrite (sub r 0 2))
def okWriteS (z : D) : Bool := decide (z.rows.length ≤ 4294967296) && z.rows.all fun r => okWrite (sub r 0 2)
noncomputable def toWriteSL (N : Nat) (p : List D) : List D → Out := loopOf Try.prog (find [toWriteE]) N [0, 2, 3, 4, 11] Try.f134 (sd (.sl 118)) [⟨sd (.sl 164), p⟩] 0
theorem toWriteS_rd (p : List D) (N : Nat) (z x2 : D) (rows : List (List D)) (k : Int) : toWriteSL N p [z, x2, .l rows, .i k] = bif decide (k < z.rows.length) then nd (inRange k z.rows.length) (nd (okWrite (sub (z.rows.getD k.toNat []) 0 2)) (nd (inRange k rows.length) (nx [z, x2, .l (rows.set k.toNat (cpWrite (sub (z.rows.getD k.toNat []) 0 2))), .i (w64 (k + 1))]))) else ex 0 [z, x2, .l rows, .i k] := by kernel_rfl
theorem toWriteS_ev (p : List D) (N : Nat) : evFn Try.prog (find [toWriteE]) N [0, 2, 3, 4, 11] Try.f134 (sd (.sl 118)) [⟨sd (.sl 164), p⟩] = some (bo, nd (decide (0 ≤ ((gd p 0).rows.length : Int)) && decide (((gd p 0).rows.length : Int) = ((gd p 0).rows.length : Int)) && decide (((gd p 0).rows.length : Int) ≤ 4294967296) && true && true)
    (let o := iter (toWriteSL N p) N [gd p 0, .l [], .l (List.replicate (gd p 0).rows.length [.i 0, .i 0]), .i 0]
     nd o.isSome (nd (o.code == 2) (some (1, [gd o.pay 2]))))) := by kernel_rfl
def toWriteSE : Ent := (134, e1 (sd (.sl 164)) fun p => (⟨sd (.sl 118), [cpWriteS (gd p 0)]⟩, okWriteS (gd p 0)))
theorem toWriteS_ok : EntOk Try.prog toWriteSE := e1_ok fun p h => evFn_sound (N := (gd p 0).rows.length + 1) (ks := [0, 2, 3, 4, 11]) (key := bo) (find_ok (List.forall_mem_cons.2 ⟨toWrite_ok, List.forall_mem_nil _⟩)) (enters Try.func134 (by kernel_rfl) (by kernel_rfl)) Try.func134 fun hw => by
  have h : okWriteS (gd p 0) = true := h
  simp only [okWriteS, Bool.and_eq_true, decide_eq_true_eq, List.all_eq_true] at h
  rw [toWriteS_ev, fill_loop (ok := fun r => okWrite (sub r 0 2)) (f := fun r => cpWrite (sub r 0 2)) [.i 0, .i 0] (wt_sl (hw ⟨sd (.sl 164), p⟩ (by simp))) h.2 (toWriteS_rd p _ _ _) (by omega)]
  rw [show decide (((gd p 0).rows.length : Int) ≤ 4294967296) = true from decide_eq_true (by omega), show decide (0 ≤ ((gd p 0).rows.length : Int)) = true from decide_eq_true (by omega), decide_eq_true (rfl : ((gd p 0).rows.length : Int) = _)]
  rfl

def eqWriteS : D → D → Bool := alikeS (fun r s => eqWrite (sub r 0 2) (sub s 0 2))
noncomputable def eqWriteSL (N : Nat) (p q : List D) : List D → Out := loopOf Try.prog (find [eqWriteE]) N [0, 1, 4, 5, 10, 14, 26] Try.f136 rb [⟨sd (.sl 118), p⟩, ⟨sd (.sl 118), q⟩] 0
theorem eqWriteS_rd (p q : List D) (N : Nat) (z u x y : D) (k : Int) : eqWriteSL N p q [z, u, x, y, .i k] = bif decide (k < z.rows.length) then nd (inRange k z.rows.length) (nd (inRange k u.rows.length) (bif !(eqWrite (sub (z.rows.getD k.toNat []) 0 2) (sub (u.rows.getD k.toNat []) 0 2)) then ob false else nx [z, u, x, y, .i (w64 (k + 1))])) else ex 0 [z, u, x, y, .i k] := by kernel_rfl
theorem eqWriteS_ev (p q : List D) (N : Nat) : evFn Try.prog (find [eqWriteE]) N [0, 1, 4, 5, 10, 14, 26] Try.f136 rb [⟨sd (.sl 118), p⟩, ⟨sd (.sl 118), q⟩] = some (bo, bif !(((gd p 0).rows.length : Int) == (gd q 0).rows.length) then ob false else
    (let o := iter (eqWriteSL N p q) N [gd p 0, gd q 0, D0, .b (!(((gd p 0).rows.length : Int) == (gd q 0).rows.length)), .i 0]
     nd o.isSome (bif o.code == 1 then some (1, o.pay) else nd (o.code == 2) (ob true)))) := by kernel_rfl
def eqWriteSE : Ent := (136, e2 (sd (.sl 118)) (sd (.sl 118)) fun p q => (⟨rb, [.b (eqWriteS (gd p 0) (gd q 0))]⟩, true))
theorem eqWriteS_ok : EntOk Try.prog eqWriteSE := e2_ok fun p q _ => evFn_sound (N := (gd p 0).rows.length + 1) (ks := [0, 1, 4, 5, 10, 14, 26]) (key := bo) (find_ok (List.forall_mem_cons.2 ⟨eqWrite_ok, List.forall_mem_nil _⟩)) (enters Try.func136 (by kernel_rfl) (by kernel_rfl)) Try.func136 fun hw => by
  rw [eqWriteS_ev]
  by_cases hl : (gd p 0).rows.length = (gd q 0).rows.length
  · rw [like_loop (E := (fun r s => eqWrite (sub r 0 2) (sub s 0 2))) (wt_sl (hw ⟨sd (.sl 118), p⟩ (by simp))) hl (eqWriteS_rd p q _ _ _ _ _) (by omega)]
    rw [show ((((gd p 0).rows.length : Int)) == (gd q 0).rows.length) = true from beq_iff_eq.2 (by omega)]
    show some (bo, _) = some (bo, some (1, [D.b (alikeS (fun r s => eqWrite (sub r 0 2) (sub s 0 2)) (gd p 0) (gd q 0))]))
    cases alikeS (fun r s => eqWrite (sub r 0 2) (sub s 0 2)) (gd p 0) (gd q 0) <;> rfl
  · rw [show ((((gd p 0).rows.length : Int)) == (gd q 0).rows.length) = false from beq_eq_false_iff_ne.2 (by omega)]
    show some (bo, _) = some (bo, some (1, [D.b (alikeS (fun r s => eqWrite (sub r 0 2) (sub s 0 2)) (gd p 0) (gd q 0))]))
    rw [show alikeS (fun r s => eqWrite (sub r 0 2) (sub s 0 2)) (gd p 0) (gd q 0) = false from by simp [alikeS, hl]]
    rfl
theorem eqWriteS_refl (z : D) : eqWriteS z z = true := alikeS_refl (fun r => by exact eqWrite_refl _) z

def sizeWriteS (z : D) : Nat := z.rows.length
theorem szWriteS_ev (p q : List D) (N : Nat) : evFn Try.prog (find []) N [0, 1, 4, 10] Try.f132 ri [⟨sd (.sl 164), p⟩, ⟨ri, q⟩] = some (bo, bif decide (w64 ((gd q 0).int - (gd p 0).rows.length) < 0) then oi (-1) else oi (w64 ((gd q 0).int - (gd p 0).rows.length))) := by kernel_rfl
def szWriteSE : Ent := (132, e2 (sd (.sl 164)) ri fun p q => (⟨ri, [.i (left (sizeWriteS (gd p 0)) (gd q 0).int)]⟩, fair (gd q 0).int))
theorem szWriteS_ok : EntOk Try.prog szWriteSE := e2_ok fun p q h => evFn_sound (N := (gd p 0).rows.length + 1) (ks := [0, 1, 4, 10]) (key := bo) (find_ok (List.forall_mem_nil _)) (enters Try.func132 (by kernel_rfl) (by kernel_rfl)) Try.func132 fun hw => by
  have h : fair (gd q 0).int = true := h
  have hl := wt_sl (hw ⟨sd (.sl 164), p⟩ (by simp))
  have h2 : 0 ≤ (gd q 0).int ∧ (gd q 0).int ≤ 1048576 := by simpa [fair] using h
  rw [szWriteS_ev, w64_id (by omega) (by omega)]
  rw [oi_if, left_sub]
  rfl

end Go.Proofs.Ytdejncnjaebjfaa
