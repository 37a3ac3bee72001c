/-
  The judge's types: what is copied, compared and measured. Printed by genev.py.
-/
import Derived.Test.YtchceahcaaibcaaGreatRounds
namespace Go.Proofs.YtchceahcaaibcaaGreat
set_option linter.unusedSimpArgs false
set_option linter.unusedVariables false
set_option maxRecDepth 4096
theorem ne_step (c x : Bool) : (bif !c then ob false else ob x) = ob (c && x) := by cases c <;> rfl
theorem wt_sl {P : Program} {e : TypeId} {p : List D} (h : WT P ⟨sd (.sl e), p⟩) : (gd p 0).rows.length ≤ 9223372036854775807 := by
  have h : WD P (.sl e) (gd p 0) := h
  cases h with
  | sl _ _ row _ h _ => exact h
theorem left_left (a b : Nat) (n : Int) : (if left a n < 0 then -1 else left b (left a n)) = left (a + b) n := by
  unfold left
  repeat' split
  all_goals first | rfl | omega | (push_cast at *; omega)
theorem left_neg (a : Nat) (n : Int) : (if left a n < 0 then -1 else left a n) = left a n := by
  unfold left
  repeat' split
  all_goals first | omega | rfl
theorem left_sub (a : Nat) (n : Int) : (if n - (a : Int) < 0 then -1 else n - (a : Int)) = left a n := by
  unfold left
  repeat' split
  all_goals first | rfl | omega
theorem fair_left {a : Nat} {n : Int} (h : fair n = true) (h' : ¬ left a n < 0) : fair (left a n) = true := by
  simp only [fair, Bool.and_eq_true, decide_eq_true_eq, left] at *
  split at h' <;> simp_all <;> omega
theorem oi_if (c : Prop) [Decidable c] (x y : Int) : (bif decide c then oi x else oi y) = oi (if c then x else y) := by
  by_cases h : c <;> simp [h]

def cpInt (r : List D) : List D := [gd r 0]
def okInt (_ : List D) : Bool := true
def eqInt (p q : List D) : Bool := (gd p 0).int == (gd q 0).int

def cpIntS (z : D) : D := .l (z.rows.map fun r => cpInt r)
def okIntS (z : D) : Bool := decide (z.rows.length ≤ 4294967296) && z.rows.all fun r => okInt r
noncomputable def toIntSL (N : Nat) (p : List D) : List D → Out := loopOf Tryz.prog (find []) N [0, 2, 3, 4, 11] Tryz.f151 (sd (.sl 3)) [⟨sd (.sl 3), p⟩] 0
theorem toIntS_rd (p : List D) (N : Nat) (z x2 : D) (rows : List (List D)) (k : Int) : toIntSL N p [z, x2, .l rows, .i k] = bif decide (k < z.rows.length) then nd (inRange k z.rows.length) (nd (okInt (z.rows.getD k.toNat [])) (nd (inRange k rows.length) (nx [z, x2, .l (rows.set k.toNat (cpInt (z.rows.getD k.toNat []))), .i (w64 (k + 1))]))) else ex 0 [z, x2, .l rows, .i k] := by kernel_rfl
theorem toIntS_ev (p : List D) (N : Nat) : evFn Tryz.prog (find []) N [0, 2, 3, 4, 11] Tryz.f151 (sd (.sl 3)) [⟨sd (.sl 3), p⟩] = some (bo, nd (decide (0 ≤ ((gd p 0).rows.length : Int)) && decide (((gd p 0).rows.length : Int) = ((gd p 0).rows.length : Int)) && decide (((gd p 0).rows.length : Int) ≤ 4294967296) && true && true)
    (let o := iter (toIntSL N p) N [gd p 0, .l [], .l (List.replicate (gd p 0).rows.length [.i 0]), .i 0]
     nd o.isSome (nd (o.code == 2) (some (1, [gd o.pay 2]))))) := by kernel_rfl
def toIntSE : Ent := (151, e1 (sd (.sl 3)) fun p => (⟨sd (.sl 3), [cpIntS (gd p 0)]⟩, okIntS (gd p 0)))
theorem toIntS_ok : EntOk Tryz.prog toIntSE := e1_ok fun p h => evFn_sound (N := (gd p 0).rows.length + 1) (ks := [0, 2, 3, 4, 11]) (key := bo) (find_ok (List.forall_mem_nil _)) (enters Tryz.func151 (by kernel_rfl) (by kernel_rfl)) Tryz.func151 fun hw => by
  have h : okIntS (gd p 0) = true := h
  simp only [okIntS, Bool.and_eq_true, decide_eq_true_eq, List.all_eq_true] at h
  rw [toIntS_ev, fill_loop (ok := fun r => okInt r) (f := fun r => cpInt r) [.i 0] (wt_sl (hw ⟨sd (.sl 3), p⟩ (by simp))) h.2 (toIntS_rd p _ _ _) (by omega)]
  rw [show decide (((gd p 0).rows.length : Int) ≤ 4294967296) = true from decide_eq_true (by omega), show decide (0 ≤ ((gd p 0).rows.length : Int)) = true from decide_eq_true (by omega), decide_eq_true (rfl : ((gd p 0).rows.length : Int) = _)]
  rfl

def eqIntS : D → D → Bool := alikeS (fun r s => eqInt r s)
noncomputable def eqIntSL (N : Nat) (p q : List D) : List D → Out := loopOf Tryz.prog (find []) N [0, 1, 4, 5, 10, 14, 25] Tryz.f32 rb [⟨sd (.sl 3), p⟩, ⟨sd (.sl 3), q⟩] 0
theorem eqIntS_rd (p q : List D) (N : Nat) (z u x y : D) (k : Int) : eqIntSL N p q [z, u, x, y, .i k] = bif decide (k < z.rows.length) then nd (inRange k z.rows.length) (nd (inRange k u.rows.length) (bif !(eqInt (z.rows.getD k.toNat []) (u.rows.getD k.toNat [])) then ob false else nx [z, u, x, y, .i (w64 (k + 1))])) else ex 0 [z, u, x, y, .i k] := by kernel_rfl
theorem eqIntS_ev (p q : List D) (N : Nat) : evFn Tryz.prog (find []) N [0, 1, 4, 5, 10, 14, 25] Tryz.f32 rb [⟨sd (.sl 3), p⟩, ⟨sd (.sl 3), q⟩] = some (bo, bif !(((gd p 0).rows.length : Int) == (gd q 0).rows.length) then ob false else
    (let o := iter (eqIntSL N p q) N [gd p 0, gd q 0, D0, .b (!(((gd p 0).rows.length : Int) == (gd q 0).rows.length)), .i 0]
     nd o.isSome (bif o.code == 1 then some (1, o.pay) else nd (o.code == 2) (ob true)))) := by kernel_rfl
def eqIntSE : Ent := (32, e2 (sd (.sl 3)) (sd (.sl 3)) fun p q => (⟨rb, [.b (eqIntS (gd p 0) (gd q 0))]⟩, true))
theorem eqIntS_ok : EntOk Tryz.prog eqIntSE := e2_ok fun p q _ => evFn_sound (N := (gd p 0).rows.length + 1) (ks := [0, 1, 4, 5, 10, 14, 25]) (key := bo) (find_ok (List.forall_mem_nil _)) (enters Tryz.func32 (by kernel_rfl) (by kernel_rfl)) Tryz.func32 fun hw => by
  rw [eqIntS_ev]
  by_cases hl : (gd p 0).rows.length = (gd q 0).rows.length
  · rw [like_loop (E := (fun r s => eqInt r s)) (wt_sl (hw ⟨sd (.sl 3), p⟩ (by simp))) hl (eqIntS_rd p q _ _ _ _ _) (by omega)]
    rw [show ((((gd p 0).rows.length : Int)) == (gd q 0).rows.length) = true from beq_iff_eq.2 (by omega)]
    show some (bo, _) = some (bo, some (1, [D.b (alikeS (fun r s => eqInt r s) (gd p 0) (gd q 0))]))
    cases alikeS (fun r s => eqInt r s) (gd p 0) (gd q 0) <;> rfl
  · rw [show ((((gd p 0).rows.length : Int)) == (gd q 0).rows.length) = false from beq_eq_false_iff_ne.2 (by omega)]
    show some (bo, _) = some (bo, some (1, [D.b (alikeS (fun r s => eqInt r s) (gd p 0) (gd q 0))]))
    rw [show alikeS (fun r s => eqInt r s) (gd p 0) (gd q 0) = false from by simp [alikeS, hl]]
    rfl
theorem eqIntS_refl (z : D) : eqIntS z z = true := alikeS_refl (fun r => by simp [eqInt]) z

def sizeIntS (z : D) : Nat := z.rows.length
theorem szIntS_ev (p q : List D) (N : Nat) : evFn Tryz.prog (find []) N [0, 1, 4, 10] Tryz.f122 ri [⟨sd (.sl 3), p⟩, ⟨ri, q⟩] = some (bo, bif decide (w64 ((gd q 0).int - (gd p 0).rows.length) < 0) then oi (-1) else oi (w64 ((gd q 0).int - (gd p 0).rows.length))) := by kernel_rfl
def szIntSE : Ent := (122, e2 (sd (.sl 3)) ri fun p q => (⟨ri, [.i (left (sizeIntS (gd p 0)) (gd q 0).int)]⟩, fair (gd q 0).int))
theorem szIntS_ok : EntOk Tryz.prog szIntSE := e2_ok fun p q h => evFn_sound (N := (gd p 0).rows.length + 1) (ks := [0, 1, 4, 10]) (key := bo) (find_ok (List.forall_mem_nil _)) (enters Tryz.func122 (by kernel_rfl) (by kernel_rfl)) Tryz.func122 fun hw => by
  have h : fair (gd q 0).int = true := h
  have hl := wt_sl (hw ⟨sd (.sl 3), p⟩ (by simp))
  have h2 : 0 ≤ (gd q 0).int ∧ (gd q 0).int ≤ 1048576 := by simpa [fair] using h
  rw [szIntS_ev, w64_id (by omega) (by omega)]
  rw [oi_if, left_sub]
  rfl

def rLCell : List S := [si, si]
def rICell : List S := [si, si]
def cpCell (p : List D) : List D := [gd p 0, gd p 1]
def okCell (p : List D) : Bool := true
theorem toCell_ev (p : List D) (N : Nat) : evFn Tryz.prog (find []) N [0, 1, 2, 3] Tryz.f300 (ag rICell) [⟨ag rLCell, p⟩] = some (bo, some (1, cpCell p)) := by kernel_rfl
def toCellE : Ent := (300, e1 (ag rLCell) fun p => (⟨ag rICell, cpCell p⟩, okCell p))
theorem toCell_ok : EntOk Tryz.prog toCellE := e1_ok fun p h => evFn_sound (N := 0) (ks := [0, 1, 2, 3]) (key := bo) (find_ok (List.forall_mem_nil _)) (enters Tryz.func300 (by kernel_rfl) (by kernel_rfl)) Tryz.func300 fun _ => by
  have h : okCell p = true := h
  simp only [okCell, Bool.and_eq_true] at h
  rw [toCell_ev]

def eqCell (p q : List D) : Bool := ((gd p 0).int == (gd q 0).int) && (((gd p 1).int == (gd q 1).int) && (true))
theorem eqCell_ev (p q : List D) (N : Nat) : evFn Tryz.prog (find []) N [0, 1, 2, 3, 4, 9, 14] Tryz.f322 rb [⟨ag rICell, p⟩, ⟨ag rICell, q⟩] = some (bo, bif !((gd p 0).int == (gd q 0).int) then ob false else bif !((gd p 1).int == (gd q 1).int) then ob false else ob true) := by kernel_rfl
def eqCellE : Ent := (322, e2 (ag rICell) (ag rICell) fun p q => (⟨rb, [.b (eqCell p q)]⟩, true))
theorem eqCell_ok : EntOk Tryz.prog eqCellE := e2_ok fun p q _ => evFn_sound (N := 0) (ks := [0, 1, 2, 3, 4, 9, 14]) (key := bo) (find_ok (List.forall_mem_nil _)) (enters Tryz.func322 (by kernel_rfl) (by kernel_rfl)) Tryz.func322 fun _ => by
  rw [eqCell_ev]
  simp only [ne_step]
  rfl
theorem eqCell_refl (p : List D) : eqCell p p = true := by
  simp [eqCell]

def sizeCell (p : List D) : Nat := 0
def cpCellS (z : D) : D := .l (z.rows.map fun r => cpCell (sub r 0 2))
def okCellS (z : D) : Bool := decide (z.rows.length ≤ 4294967296) && z.rows.all fun r => okCell (sub r 0 2)
noncomputable def toCellSL (N : Nat) (p : List D) : List D → Out := loopOf Tryz.prog (find [toCellE]) N [0, 2, 3, 4, 11] Tryz.f245 (sd (.sl 176)) [⟨sd (.sl 308), p⟩] 0
theorem toCellS_rd (p : List D) (N : Nat) (z x2 : D) (rows : List (List D)) (k : Int) : toCellSL N p [z, x2, .l rows, .i k] = bif decide (k < z.rows.length) then nd (inRange k z.rows.length) (nd (okCell (sub (z.rows.getD k.toNat []) 0 2)) (nd (inRange k rows.length) (nx [z, x2, .l (rows.set k.toNat (cpCell (sub (z.rows.getD k.toNat []) 0 2))), .i (w64 (k + 1))]))) else ex 0 [z, x2, .l rows, .i k] := by kernel_rfl
theorem toCellS_ev (p : List D) (N : Nat) : evFn Tryz.prog (find [toCellE]) N [0, 2, 3, 4, 11] Tryz.f245 (sd (.sl 176)) [⟨sd (.sl 308), p⟩] = some (bo, nd (decide (0 ≤ ((gd p 0).rows.length : Int)) && decide (((gd p 0).rows.length : Int) = ((gd p 0).rows.length : Int)) && decide (((gd p 0).rows.length : Int) ≤ 4294967296) && true && true)
    (let o := iter (toCellSL N p) N [gd p 0, .l [], .l (List.replicate (gd p 0).rows.length [.i 0, .i 0]), .i 0]
     nd o.isSome (nd (o.code == 2) (some (1, [gd o.pay 2]))))) := by kernel_rfl
def toCellSE : Ent := (245, e1 (sd (.sl 308)) fun p => (⟨sd (.sl 176), [cpCellS (gd p 0)]⟩, okCellS (gd p 0)))
theorem toCellS_ok : EntOk Tryz.prog toCellSE := e1_ok fun p h => evFn_sound (N := (gd p 0).rows.length + 1) (ks := [0, 2, 3, 4, 11]) (key := bo) (find_ok (List.forall_mem_cons.2 ⟨toCell_ok, List.forall_mem_nil _⟩)) (enters Tryz.func245 (by kernel_rfl) (by kernel_rfl)) Tryz.func245 fun hw => by
  have h : okCellS (gd p 0) = true := h
  simp only [okCellS, Bool.and_eq_true, decide_eq_true_eq, List.all_eq_true] at h
  rw [toCellS_ev, fill_loop (ok := fun r => okCell (sub r 0 2)) (f := fun r => cpCell (sub r 0 2)) [.i 0, .i 0] (wt_sl (hw ⟨sd (.sl 308), p⟩ (by simp))) h.2 (toCellS_rd p _ _ _) (by omega)]
  rw [show decide (((gd p 0).rows.length : Int) ≤ 4294967296) = true from decide_eq_true (by omega), show decide (0 ≤ ((gd p 0).rows.length : Int)) = true from decide_eq_true (by omega), decide_eq_true (rfl : ((gd p 0).rows.length : Int) = _)]
  rfl

def eqCellS : D → D → Bool := alikeS (fun r s => eqCell (sub r 0 2) (sub s 0 2))
noncomputable def eqCellSL (N : Nat) (p q : List D) : List D → Out := loopOf Tryz.prog (find [eqCellE]) N [0, 1, 4, 5, 10, 14, 26] Tryz.f278 rb [⟨sd (.sl 176), p⟩, ⟨sd (.sl 176), q⟩] 0
theorem eqCellS_rd (p q : List D) (N : Nat) (z u x y : D) (k : Int) : eqCellSL N p q [z, u, x, y, .i k] = bif decide (k < z.rows.length) then nd (inRange k z.rows.length) (nd (inRange k u.rows.length) (bif !(eqCell (sub (z.rows.getD k.toNat []) 0 2) (sub (u.rows.getD k.toNat []) 0 2)) then ob false else nx [z, u, x, y, .i (w64 (k + 1))])) else ex 0 [z, u, x, y, .i k] := by kernel_rfl
theorem eqCellS_ev (p q : List D) (N : Nat) : evFn Tryz.prog (find [eqCellE]) N [0, 1, 4, 5, 10, 14, 26] Tryz.f278 rb [⟨sd (.sl 176), p⟩, ⟨sd (.sl 176), q⟩] = some (bo, bif !(((gd p 0).rows.length : Int) == (gd q 0).rows.length) then ob false else
    (let o := iter (eqCellSL N p q) N [gd p 0, gd q 0, D0, .b (!(((gd p 0).rows.length : Int) == (gd q 0).rows.length)), .i 0]
     nd o.isSome (bif o.code == 1 then some (1, o.pay) else nd (o.code == 2) (ob true)))) := by kernel_rfl
def eqCellSE : Ent := (278, e2 (sd (.sl 176)) (sd (.sl 176)) fun p q => (⟨rb, [.b (eqCellS (gd p 0) (gd q 0))]⟩, true))
theorem eqCellS_ok : EntOk Tryz.prog eqCellSE := e2_ok fun p q _ => evFn_sound (N := (gd p 0).rows.length + 1) (ks := [0, 1, 4, 5, 10, 14, 26]) (key := bo) (find_ok (List.forall_mem_cons.2 ⟨eqCell_ok, List.forall_mem_nil _⟩)) (enters Tryz.func278 (by kernel_rfl) (by kernel_rfl)) Tryz.func278 fun hw => by
  rw [eqCellS_ev]
  by_cases hl : (gd p 0).rows.length = (gd q 0).rows.length
  · rw [like_loop (E := (fun r s => eqCell (sub r 0 2) (sub s 0 2))) (wt_sl (hw ⟨sd (.sl 176), p⟩ (by simp))) hl (eqCellS_rd p q _ _ _ _ _) (by omega)]
    rw [show ((((gd p 0).rows.length : Int)) == (gd q 0).rows.length) = true from beq_iff_eq.2 (by omega)]
    show some (bo, _) = some (bo, some (1, [D.b (alikeS (fun r s => eqCell (sub r 0 2) (sub s 0 2)) (gd p 0) (gd q 0))]))
    cases alikeS (fun r s => eqCell (sub r 0 2) (sub s 0 2)) (gd p 0) (gd q 0) <;> rfl
  · rw [show ((((gd p 0).rows.length : Int)) == (gd q 0).rows.length) = false from beq_eq_false_iff_ne.2 (by omega)]
    show some (bo, _) = some (bo, some (1, [D.b (alikeS (fun r s => eqCell (sub r 0 2) (sub s 0 2)) (gd p 0) (gd q 0))]))
    rw [show alikeS (fun r s => eqCell (sub r 0 2) (sub s 0 2)) (gd p 0) (gd q 0) = false from by simp [alikeS, hl]]
    rfl
theorem eqCellS_refl (z : D) : eqCellS z z = true := alikeS_refl (fun r => by exact eqCell_refl _) z

def sizeCellS (z : D) : Nat := z.rows.length
theorem szCellS_ev (p q : List D) (N : Nat) : evFn Tryz.prog (find []) N [0, 1, 4, 10] Tryz.f230 ri [⟨sd (.sl 308), p⟩, ⟨ri, q⟩] = some (bo, bif decide (w64 ((gd q 0).int - (gd p 0).rows.length) < 0) then oi (-1) else oi (w64 ((gd q 0).int - (gd p 0).rows.length))) := by kernel_rfl
def szCellSE : Ent := (230, e2 (sd (.sl 308)) ri fun p q => (⟨ri, [.i (left (sizeCellS (gd p 0)) (gd q 0).int)]⟩, fair (gd q 0).int))
theorem szCellS_ok : EntOk Tryz.prog szCellSE := e2_ok fun p q h => evFn_sound (N := (gd p 0).rows.length + 1) (ks := [0, 1, 4, 10]) (key := bo) (find_ok (List.forall_mem_nil _)) (enters Tryz.func230 (by kernel_rfl) (by kernel_rfl)) Tryz.func230 fun hw => by
  have h : fair (gd q 0).int = true := h
  have hl := wt_sl (hw ⟨sd (.sl 308), p⟩ (by simp))
  have h2 : 0 ≤ (gd q 0).int ∧ (gd q 0).int ≤ 1048576 := by simpa [fair] using h
  rw [szCellS_ev, w64_id (by omega) (by omega)]
  rw [oi_if, left_sub]
  rfl

def rLRange : List S := [si, si]
def rIRange : List S := [si, si]
def cpRange (p : List D) : List D := [gd p 0, gd p 1]
def okRange (p : List D) : Bool := true
theorem toRange_ev (p : List D) (N : Nat) : evFn Tryz.prog (find []) N [0, 1, 2, 3] Tryz.f301 (ag rIRange) [⟨ag rLRange, p⟩] = some (bo, some (1, cpRange p)) := by kernel_rfl
def toRangeE : Ent := (301, e1 (ag rLRange) fun p => (⟨ag rIRange, cpRange p⟩, okRange p))
theorem toRange_ok : EntOk Tryz.prog toRangeE := e1_ok fun p h => evFn_sound (N := 0) (ks := [0, 1, 2, 3]) (key := bo) (find_ok (List.forall_mem_nil _)) (enters Tryz.func301 (by kernel_rfl) (by kernel_rfl)) Tryz.func301 fun _ => by
  have h : okRange p = true := h
  simp only [okRange, Bool.and_eq_true] at h
  rw [toRange_ev]

def eqRange (p q : List D) : Bool := ((gd p 0).int == (gd q 0).int) && (((gd p 1).int == (gd q 1).int) && (true))
theorem eqRange_ev (p q : List D) (N : Nat) : evFn Tryz.prog (find []) N [0, 1, 2, 3, 4, 9, 14] Tryz.f323 rb [⟨ag rIRange, p⟩, ⟨ag rIRange, q⟩] = some (bo, bif !((gd p 0).int == (gd q 0).int) then ob false else bif !((gd p 1).int == (gd q 1).int) then ob false else ob true) := by kernel_rfl
def eqRangeE : Ent := (323, e2 (ag rIRange) (ag rIRange) fun p q => (⟨rb, [.b (eqRange p q)]⟩, true))
theorem eqRange_ok : EntOk Tryz.prog eqRangeE := e2_ok fun p q _ => evFn_sound (N := 0) (ks := [0, 1, 2, 3, 4, 9, 14]) (key := bo) (find_ok (List.forall_mem_nil _)) (enters Tryz.func323 (by kernel_rfl) (by kernel_rfl)) Tryz.func323 fun _ => by
  rw [eqRange_ev]
  simp only [ne_step]
  rfl
theorem eqRange_refl (p : List D) : eqRange p p = true := by
  simp [eqRange]

def sizeRange (p : List D) : Nat := 0
def cpRangeS (z : D) : D := .l (z.rows.map fun r => cpRange (sub r 0 2))
def okRangeS (z : D) : Bool := decide (z.rows.length ≤ 4294967296) && z.rows.all fun r => okRange (sub r 0 2)
noncomputable def toRangeSL (N : Nat) (p : List D) : List D → Out := loopOf Tryz.prog (find [toRangeE]) N [0, 2, 3, 4, 11] Tryz.f246 (sd (.sl 122)) [⟨sd (.sl 310), p⟩] 0
theorem toRangeS_rd (p : List D) (N : Nat) (z x2 : D) (rows : List (List D)) (k : Int) : toRangeSL N p [z, x2, .l rows, .i k] = bif decide (k < z.rows.length) then nd (inRange k z.rows.length) (nd (okRange (sub (z.rows.getD k.toNat []) 0 2)) (nd (inRange k rows.length) (nx [z, x2, .l (rows.set k.toNat (cpRange (sub (z.rows.getD k.toNat []) 0 2))), .i (w64 (k + 1))]))) else ex 0 [z, x2, .l rows, .i k] := by kernel_rfl
theorem toRangeS_ev (p : List D) (N : Nat) : evFn Tryz.prog (find [toRangeE]) N [0, 2, 3, 4, 11] Tryz.f246 (sd (.sl 122)) [⟨sd (.sl 310), p⟩] = some (bo, nd (decide (0 ≤ ((gd p 0).rows.length : Int)) && decide (((gd p 0).rows.length : Int) = ((gd p 0).rows.length : Int)) && decide (((gd p 0).rows.length : Int) ≤ 4294967296) && true && true)
    (let o := iter (toRangeSL N p) N [gd p 0, .l [], .l (List.replicate (gd p 0).rows.length [.i 0, .i 0]), .i 0]
     nd o.isSome (nd (o.code == 2) (some (1, [gd o.pay 2]))))) := by kernel_rfl
def toRangeSE : Ent := (246, e1 (sd (.sl 310)) fun p => (⟨sd (.sl 122), [cpRangeS (gd p 0)]⟩, okRangeS (gd p 0)))
theorem toRangeS_ok : EntOk Tryz.prog toRangeSE := e1_ok fun p h => evFn_sound (N := (gd p 0).rows.length + 1) (ks := [0, 2, 3, 4, 11]) (key := bo) (find_ok (List.forall_mem_cons.2 ⟨toRange_ok, List.forall_mem_nil _⟩)) (enters Tryz.func246 (by kernel_rfl) (by kernel_rfl)) Tryz.func246 fun hw => by
  have h : okRangeS (gd p 0) = true := h
  simp only [okRangeS, Bool.and_eq_true, decide_eq_true_eq, List.all_eq_true] at h
  rw [toRangeS_ev, fill_loop (ok := fun r => okRange (sub r 0 2)) (f := fun r => cpRange (sub r 0 2)) [.i 0, .i 0] (wt_sl (hw ⟨sd (.sl 310), p⟩ (by simp))) h.2 (toRangeS_rd p _ _ _) (by omega)]
  rw [show decide (((gd p 0).rows.length : Int) ≤ 4294967296) = true from decide_eq_true (by omega), show decide (0 ≤ ((gd p 0).rows.length : Int)) = true from decide_eq_true (by omega), decide_eq_true (rfl : ((gd p 0).rows.length : Int) = _)]
  rfl

def eqRangeS : D → D → Bool := alikeS (fun r s => eqRange (sub r 0 2) (sub s 0 2))
noncomputable def eqRangeSL (N : Nat) (p q : List D) : List D → Out := loopOf Tryz.prog (find [eqRangeE]) N [0, 1, 4, 5, 10, 14, 26] Tryz.f279 rb [⟨sd (.sl 122), p⟩, ⟨sd (.sl 122), q⟩] 0
theorem eqRangeS_rd (p q : List D) (N : Nat) (z u x y : D) (k : Int) : eqRangeSL N p q [z, u, x, y, .i k] = bif decide (k < z.rows.length) then nd (inRange k z.rows.length) (nd (inRange k u.rows.length) (bif !(eqRange (sub (z.rows.getD k.toNat []) 0 2) (sub (u.rows.getD k.toNat []) 0 2)) then ob false else nx [z, u, x, y, .i (w64 (k + 1))])) else ex 0 [z, u, x, y, .i k] := by kernel_rfl
theorem eqRangeS_ev (p q : List D) (N : Nat) : evFn Tryz.prog (find [eqRangeE]) N [0, 1, 4, 5, 10, 14, 26] Tryz.f279 rb [⟨sd (.sl 122), p⟩, ⟨sd (.sl 122), q⟩] = some (bo, bif !(((gd p 0).rows.length : Int) == (gd q 0).rows.length) then ob false else
    (let o := iter (eqRangeSL N p q) N [gd p 0, gd q 0, D0, .b (!(((gd p 0).rows.length : Int) == (gd q 0).rows.length)), .i 0]
     nd o.isSome (bif o.code == 1 then some (1, o.pay) else nd (o.code == 2) (ob true)))) := by kernel_rfl
def eqRangeSE : Ent := (279, e2 (sd (.sl 122)) (sd (.sl 122)) fun p q => (⟨rb, [.b (eqRangeS (gd p 0) (gd q 0))]⟩, true))
theorem eqRangeS_ok : EntOk Tryz.prog eqRangeSE := e2_ok fun p q _ => evFn_sound (N := (gd p 0).rows.length + 1) (ks := [0, 1, 4, 5, 10, 14, 26]) (key := bo) (find_ok (List.forall_mem_cons.2 ⟨eqRange_ok, List.forall_mem_nil _⟩)) (enters Tryz.func279 (by kernel_rfl) (by kernel_rfl)) Tryz.func279 fun hw => by
  rw [eqRangeS_ev]
  by_cases hl : (gd p 0).rows.length = (gd q 0).rows.length
  · rw [like_loop (E := (fun r s => eqRange (sub r 0 2) (sub s 0 2))) (wt_sl (hw ⟨sd (.sl 122), p⟩ (by simp))) hl (eqRangeS_rd p q _ _ _ _ _) (by omega)]
    rw [show ((((gd p 0).rows.length : Int)) == (gd q 0).rows.length) = true from beq_iff_eq.2 (by omega)]
    show some (bo, _) = some (bo, some (1, [D.b (alikeS (fun r s => eqRange (sub r 0 2) (sub s 0 2)) (gd p 0) (gd q 0))]))
    cases alikeS (fun r s => eqRange (sub r 0 2) (sub s 0 2)) (gd p 0) (gd q 0) <;> rfl
  · rw [show ((((gd p 0).rows.length : Int)) == (gd q 0).rows.length) = false from beq_eq_false_iff_ne.2 (by omega)]
    show some (bo, _) = some (bo, some (1, [D.b (alikeS (fun r s => eqRange (sub r 0 2) (sub s 0 2)) (gd p 0) (gd q 0))]))
    rw [show alikeS (fun r s => eqRange (sub r 0 2) (sub s 0 2)) (gd p 0) (gd q 0) = false from by simp [alikeS, hl]]
    rfl
theorem eqRangeS_refl (z : D) : eqRangeS z z = true := alikeS_refl (fun r => by exact eqRange_refl _) z

def sizeRangeS (z : D) : Nat := z.rows.length
theorem szRangeS_ev (p q : List D) (N : Nat) : evFn Tryz.prog (find []) N [0, 1, 4, 10] Tryz.f231 ri [⟨sd (.sl 310), p⟩, ⟨ri, q⟩] = some (bo, bif decide (w64 ((gd q 0).int - (gd p 0).rows.length) < 0) then oi (-1) else oi (w64 ((gd q 0).int - (gd p 0).rows.length))) := by kernel_rfl
def szRangeSE : Ent := (231, e2 (sd (.sl 310)) ri fun p q => (⟨ri, [.i (left (sizeRangeS (gd p 0)) (gd q 0).int)]⟩, fair (gd q 0).int))
theorem szRangeS_ok : EntOk Tryz.prog szRangeSE := e2_ok fun p q h => evFn_sound (N := (gd p 0).rows.length + 1) (ks := [0, 1, 4, 10]) (key := bo) (find_ok (List.forall_mem_nil _)) (enters Tryz.func231 (by kernel_rfl) (by kernel_rfl)) Tryz.func231 fun hw => by
  have h : fair (gd q 0).int = true := h
  have hl := wt_sl (hw ⟨sd (.sl 310), p⟩ (by simp))
  have h2 : 0 ≤ (gd q 0).int ∧ (gd q 0).int ≤ 1048576 := by simpa [fair] using h
  rw [szRangeS_ev, w64_id (by omega) (by omega)]
  rw [oi_if, left_sub]
  rfl

def rLWrite : List S := [si, si]
def rIWrite : List S := [si, si]
def cpWrite (p : List D) : List D := [gd p 0, gd p 1]
def okWrite (p : List D) : Bool := true
theorem toWrite_ev (p : List D) (N : Nat) : evFn Tryz.prog (find []) N [0, 1, 2, 3] Tryz.f304 (ag rIWrite) [⟨ag rLWrite, p⟩] = some (bo, some (1, cpWrite p)) := by kernel_rfl
def toWriteE : Ent := (304, e1 (ag rLWrite) fun p => (⟨ag rIWrite, cpWrite p⟩, okWrite p))
theorem toWrite_ok : EntOk Tryz.prog toWriteE := e1_ok fun p h => evFn_sound (N := 0) (ks := [0, 1, 2, 3]) (key := bo) (find_ok (List.forall_mem_nil _)) (enters Tryz.func304 (by kernel_rfl) (by kernel_rfl)) Tryz.func304 fun _ => by
  have h : okWrite p = true := h
  simp only [okWrite, Bool.and_eq_true] at h
  rw [toWrite_ev]

def eqWrite (p q : List D) : Bool := ((gd p 0).int == (gd q 0).int) && (((gd p 1).int == (gd q 1).int) && (true))
theorem eqWrite_ev (p q : List D) (N : Nat) : evFn Tryz.prog (find []) N [0, 1, 2, 3, 4, 9, 14] Tryz.f326 rb [⟨ag rIWrite, p⟩, ⟨ag rIWrite, q⟩] = some (bo, bif !((gd p 0).int == (gd q 0).int) then ob false else bif !((gd p 1).int == (gd q 1).int) then ob false else ob true) := by kernel_rfl
def eqWriteE : Ent := (326, e2 (ag rIWrite) (ag rIWrite) fun p q => (⟨rb, [.b (eqWrite p q)]⟩, true))
theorem eqWrite_ok : EntOk Tryz.prog eqWriteE := e2_ok fun p q _ => evFn_sound (N := 0) (ks := [0, 1, 2, 3, 4, 9, 14]) (key := bo) (find_ok (List.forall_mem_nil _)) (enters Tryz.func326 (by kernel_rfl) (by kernel_rfl)) Tryz.func326 fun _ => by
  rw [eqWrite_ev]
  simp only [ne_step]
  rfl
theorem eqWrite_refl (p : List D) : eqWrite p p = true := by
  simp [eqWrite]

def sizeWrite (p : List D) : Nat := 0
def cpWriteS (z : D) : D := .l (z.rows.map fun r => cpWrite (sub r 0 2))
def okWriteS (z : D) : Bool := decide (z.rows.length ≤ 4294967296) && z.rows.all fun r => okWrite (sub r 0 2)
noncomputable def toWriteSL (N : Nat) (p : List D) : List D → Out := loopOf Tryz.prog (find [toWriteE]) N [0, 2, 3, 4, 11] Tryz.f250 (sd (.sl 132)) [⟨sd (.sl 315), p⟩] 0
theorem toWriteS_rd (p : List D) (N : Nat) (z x2 : D) (rows : List (List D)) (k : Int) : toWriteSL N p [z, x2, .l rows, .i k] = bif decide (k < z.rows.length) then nd (inRange k z.rows.length) (nd (okWrite (sub (z.rows.getD k.toNat []) 0 2)) (nd (inRange k rows.length) (nx [z, x2, .l (rows.set k.toNat (cpWrite (sub (z.rows.getD k.toNat []) 0 2))), .i (w64 (k + 1))]))) else ex 0 [z, x2, .l rows, .i k] := by kernel_rfl
theorem toWriteS_ev (p : List D) (N : Nat) : evFn Tryz.prog (find [toWriteE]) N [0, 2, 3, 4, 11] Tryz.f250 (sd (.sl 132)) [⟨sd (.sl 315), p⟩] = some (bo, nd (decide (0 ≤ ((gd p 0).rows.length : Int)) && decide (((gd p 0).rows.length : Int) = ((gd p 0).rows.length : Int)) && decide (((gd p 0).rows.length : Int) ≤ 4294967296) && true && true)
    (let o := iter (toWriteSL N p) N [gd p 0, .l [], .l (List.replicate (gd p 0).rows.length [.i 0, .i 0]), .i 0]
     nd o.isSome (nd (o.code == 2) (some (1, [gd o.pay 2]))))) := by kernel_rfl
def toWriteSE : Ent := (250, e1 (sd (.sl 315)) fun p => (⟨sd (.sl 132), [cpWriteS (gd p 0)]⟩, okWriteS (gd p 0)))
theorem toWriteS_ok : EntOk Tryz.prog toWriteSE := e1_ok fun p h => evFn_sound (N := (gd p 0).rows.length + 1) (ks := [0, 2, 3, 4, 11]) (key := bo) (find_ok (List.forall_mem_cons.2 ⟨toWrite_ok, List.forall_mem_nil _⟩)) (enters Tryz.func250 (by kernel_rfl) (by kernel_rfl)) Tryz.func250 fun hw => by
  have h : okWriteS (gd p 0) = true := h
  simp only [okWriteS, Bool.and_eq_true, decide_eq_true_eq, List.all_eq_true] at h
  rw [toWriteS_ev, fill_loop (ok := fun r => okWrite (sub r 0 2)) (f := fun r => cpWrite (sub r 0 2)) [.i 0, .i 0] (wt_sl (hw ⟨sd (.sl 315), p⟩ (by simp))) h.2 (toWriteS_rd p _ _ _) (by omega)]
  rw [show decide (((gd p 0).rows.length : Int) ≤ 4294967296) = true from decide_eq_true (by omega), show decide (0 ≤ ((gd p 0).rows.length : Int)) = true from decide_eq_true (by omega), decide_eq_true (rfl : ((gd p 0).rows.length : Int) = _)]
  rfl

def eqWriteS : D → D → Bool := alikeS (fun r s => eqWrite (sub r 0 2) (sub s 0 2))
noncomputable def eqWriteSL (N : Nat) (p q : List D) : List D → Out := loopOf Tryz.prog (find [eqWriteE]) N [0, 1, 4, 5, 10, 14, 26] Tryz.f283 rb [⟨sd (.sl 132), p⟩, ⟨sd (.sl 132), q⟩] 0
theorem eqWriteS_rd (p q : List D) (N : Nat) (z u x y : D) (k : Int) : eqWriteSL N p q [z, u, x, y, .i k] = bif decide (k < z.rows.length) then nd (inRange k z.rows.length) (nd (inRange k u.rows.length) (bif !(eqWrite (sub (z.rows.getD k.toNat []) 0 2) (sub (u.rows.getD k.toNat []) 0 2)) then ob false else nx [z, u, x, y, .i (w64 (k + 1))])) else ex 0 [z, u, x, y, .i k] := by kernel_rfl
theorem eqWriteS_ev (p q : List D) (N : Nat) : evFn Tryz.prog (find [eqWriteE]) N [0, 1, 4, 5, 10, 14, 26] Tryz.f283 rb [⟨sd (.sl 132), p⟩, ⟨sd (.sl 132), q⟩] = some (bo, bif !(((gd p 0).rows.length : Int) == (gd q 0).rows.length) then ob false else
    (let o := iter (eqWriteSL N p q) N [gd p 0, gd q 0, D0, .b (!(((gd p 0).rows.length : Int) == (gd q 0).rows.length)), .i 0]
     nd o.isSome (bif o.code == 1 then some (1, o.pay) else nd (o.code == 2) (ob true)))) := by kernel_rfl
def eqWriteSE : Ent := (283, e2 (sd (.sl 132)) (sd (.sl 132)) fun p q => (⟨rb, [.b (eqWriteS (gd p 0) (gd q 0))]⟩, true))
theorem eqWriteS_ok : EntOk Tryz.prog eqWriteSE := e2_ok fun p q _ => evFn_sound (N := (gd p 0).rows.length + 1) (ks := [0, 1, 4, 5, 10, 14, 26]) (key := bo) (find_ok (List.forall_mem_cons.2 ⟨eqWrite_ok, List.forall_mem_nil _⟩)) (enters Tryz.func283 (by kernel_rfl) (by kernel_rfl)) Tryz.func283 fun hw => by
  rw [eqWriteS_ev]
  by_cases hl : (gd p 0).rows.length = (gd q 0).rows.length
  · rw [like_loop (E := (fun r s => eqWrite (sub r 0 2) (sub s 0 2))) (wt_sl (hw ⟨sd (.sl 132), p⟩ (by simp))) hl (eqWriteS_rd p q _ _ _ _ _) (by omega)]
    rw [show ((((gd p 0).rows.length : Int)) == (gd q 0).rows.length) = true from beq_iff_eq.2 (by omega)]
    show some (bo, _) = some (bo, some (1, [D.b (alikeS (fun r s => eqWrite (sub r 0 2) (sub s 0 2)) (gd p 0) (gd q 0))]))
    cases alikeS (fun r s => eqWrite (sub r 0 2) (sub s 0 2)) (gd p 0) (gd q 0) <;> rfl
  · rw [show ((((gd p 0).rows.length : Int)) == (gd q 0).rows.length) = false from beq_eq_false_iff_ne.2 (by omega)]
    show some (bo, _) = some (bo, some (1, [D.b (alikeS (fun r s => eqWrite (sub r 0 2) (sub s 0 2)) (gd p 0) (gd q 0))]))
    rw [show alikeS (fun r s => eqWrite (sub r 0 2) (sub s 0 2)) (gd p 0) (gd q 0) = false from by simp [alikeS, hl]]
    rfl
theorem eqWriteS_refl (z : D) : eqWriteS z z = true := alikeS_refl (fun r => by exact eqWrite_refl _) z

def sizeWriteS (z : D) : Nat := z.rows.length
theorem szWriteS_ev (p q : List D) (N : Nat) : evFn Tryz.prog (find []) N [0, 1, 4, 10] Tryz.f235 ri [⟨sd (.sl 315), p⟩, ⟨ri, q⟩] = some (bo, bif decide (w64 ((gd q 0).int - (gd p 0).rows.length) < 0) then oi (-1) else oi (w64 ((gd q 0).int - (gd p 0).rows.length))) := by kernel_rfl
def szWriteSE : Ent := (235, e2 (sd (.sl 315)) ri fun p q => (⟨ri, [.i (left (sizeWriteS (gd p 0)) (gd q 0).int)]⟩, fair (gd q 0).int))
theorem szWriteS_ok : EntOk Tryz.prog szWriteSE := e2_ok fun p q h => evFn_sound (N := (gd p 0).rows.length + 1) (ks := [0, 1, 4, 10]) (key := bo) (find_ok (List.forall_mem_nil _)) (enters Tryz.func235 (by kernel_rfl) (by kernel_rfl)) Tryz.func235 fun hw => by
  have h : fair (gd q 0).int = true := h
  have hl := wt_sl (hw ⟨sd (.sl 315), p⟩ (by simp))
  have h2 : 0 ≤ (gd q 0).int ∧ (gd q 0).int ≤ 1048576 := by simpa [fair] using h
  rw [szWriteS_ev, w64_id (by omega) (by omega)]
  rw [oi_if, left_sub]
  rfl

end Go.Proofs.YtchceahcaaibcaaGreat
namespace Go.Proofs.YtchceahcaaibcaaGreat
set_option linter.unusedSimpArgs false
set_option linter.unusedVariables false
set_option maxRecDepth 4096
def rLShare : List S := [si, .sl 310, .sl 315, si]
def rIShare : List S := [si, .sl 122, .sl 132, si]
def cpShare (p : List D) : List D := [gd p 0, cpRangeS (gd p 1), cpWriteS (gd p 2), gd p 3]
def okShare (p : List D) : Bool := okRangeS (gd p 1) && okWriteS (gd p 2)
theorem toShare_ev (p : List D) (N : Nat) : evFn Tryz.prog (find [toRangeSE, toWriteSE]) N [0, 1, 2, 3] Tryz.f306 (ag rIShare) [⟨ag rLShare, p⟩] = some (bo, nd (okRangeS (gd p 1)) (nd (okWriteS (gd p 2)) (some (1, cpShare p)))) := by kernel_rfl
def toShareE : Ent := (306, e1 (ag rLShare) fun p => (⟨ag rIShare, cpShare p⟩, okShare p))
theorem toShare_ok : EntOk Tryz.prog toShareE := e1_ok fun p h => evFn_sound (N := 0) (ks := [0, 1, 2, 3]) (key := bo) (find_ok (List.forall_mem_cons.2 ⟨toRangeS_ok, List.forall_mem_cons.2 ⟨toWriteS_ok, List.forall_mem_nil _⟩⟩)) (enters Tryz.func306 (by kernel_rfl) (by kernel_rfl)) Tryz.func306 fun _ => by
  have h : okShare p = true := h
  simp only [okShare, Bool.and_eq_true] at h
  rw [toShare_ev]
  simp only [nd, h.1, h.2, cond_true]

def eqShare (p q : List D) : Bool := ((gd p 0).int == (gd q 0).int) && ((eqRangeS (gd p 1) (gd q 1)) && ((eqWriteS (gd p 2) (gd q 2)) && (((gd p 3).int == (gd q 3).int) && (true))))
theorem eqShare_ev (p q : List D) (N : Nat) : evFn Tryz.prog (find [eqRangeSE, eqWriteSE]) N [0, 1, 2, 3, 4, 9, 15, 21, 26] Tryz.f328 rb [⟨ag rIShare, p⟩, ⟨ag rIShare, q⟩] = some (bo, bif !((gd p 0).int == (gd q 0).int) then ob false else bif !(eqRangeS (gd p 1) (gd q 1)) then ob false else bif !(eqWriteS (gd p 2) (gd q 2)) then ob false else bif !((gd p 3).int == (gd q 3).int) then ob false else ob true) := by kernel_rfl
def eqShareE : Ent := (328, e2 (ag rIShare) (ag rIShare) fun p q => (⟨rb, [.b (eqShare p q)]⟩, true))
theorem eqShare_ok : EntOk Tryz.prog eqShareE := e2_ok fun p q _ => evFn_sound (N := 0) (ks := [0, 1, 2, 3, 4, 9, 15, 21, 26]) (key := bo) (find_ok (List.forall_mem_cons.2 ⟨eqRangeS_ok, List.forall_mem_cons.2 ⟨eqWriteS_ok, List.forall_mem_nil _⟩⟩)) (enters Tryz.func328 (by kernel_rfl) (by kernel_rfl)) Tryz.func328 fun _ => by
  rw [eqShare_ev]
  simp only [ne_step]
  rfl
theorem eqShare_refl (p : List D) : eqShare p p = true := by
  simp [eqShare, eqRangeS_refl, eqWriteS_refl]

def sizeShare (p : List D) : Nat := sizeRangeS (gd p 1) + sizeWriteS (gd p 2)
theorem szShare_ev (p q : List D) (N : Nat) : evFn Tryz.prog (find [szRangeSE, szWriteSE]) N [0, 1, 2, 4, 10, 16] Tryz.f298 ri [⟨ag rLShare, p⟩, ⟨ri, q⟩] = some (bo, nd (fair (gd q 0).int) (bif decide (left (sizeRangeS (gd p 1)) (gd q 0).int < 0) then oi (-1) else nd (fair (left (sizeRangeS (gd p 1)) (gd q 0).int)) (bif decide (left (sizeWriteS (gd p 2)) (left (sizeRangeS (gd p 1)) (gd q 0).int) < 0) then oi (-1) else oi (left (sizeWriteS (gd p 2)) (left (sizeRangeS (gd p 1)) (gd q 0).int))))) := by kernel_rfl
def szShareE : Ent := (298, e2 (ag rLShare) ri fun p q => (⟨ri, [.i (left (sizeShare p) (gd q 0).int)]⟩, fair (gd q 0).int))
theorem szShare_ok : EntOk Tryz.prog szShareE := e2_ok fun p q h => evFn_sound (N := 0) (ks := [0, 1, 2, 4, 10, 16]) (key := bo) (find_ok (List.forall_mem_cons.2 ⟨szRangeS_ok, List.forall_mem_cons.2 ⟨szWriteS_ok, List.forall_mem_nil _⟩⟩)) (enters Tryz.func298 (by kernel_rfl) (by kernel_rfl)) Tryz.func298 fun _ => by
  have h : fair (gd q 0).int = true := h
  rw [szShare_ev]
  by_cases h2 : left (sizeRangeS (gd p 1)) (gd q 0).int < 0
  · have e := left_left (sizeRangeS (gd p 1)) (sizeWriteS (gd p 2)) (gd q 0).int
    rw [if_pos h2] at e
    simp only [nd, h, cond_true, h2, decide_true, sizeShare, ← e]
  · have e := left_left (sizeRangeS (gd p 1)) (sizeWriteS (gd p 2)) (gd q 0).int
    rw [if_neg h2] at e
    simp only [nd, h, cond_true, cond_false, h2, decide_false, fair_left h h2, oi_if, left_neg, sizeShare, ← e]

def cpShareS (z : D) : D := .l (z.rows.map fun r => cpShare (sub r 0 4))
def okShareS (z : D) : Bool := decide (z.rows.length ≤ 4294967296) && z.rows.all fun r => okShare (sub r 0 4)
noncomputable def toShareSL (N : Nat) (p : List D) : List D → Out := loopOf Tryz.prog (find [toShareE]) N [0, 2, 3, 4, 11] Tryz.f252 (sd (.sl 118)) [⟨sd (.sl 306), p⟩] 0
theorem toShareS_rd (p : List D) (N : Nat) (z x2 : D) (rows : List (List D)) (k : Int) : toShareSL N p [z, x2, .l rows, .i k] = bif decide (k < z.rows.length) then nd (inRange k z.rows.length) (nd (okShare (sub (z.rows.getD k.toNat []) 0 4)) (nd (inRange k rows.length) (nx [z, x2, .l (rows.set k.toNat (cpShare (sub (z.rows.getD k.toNat []) 0 4))), .i (w64 (k + 1))]))) else ex 0 [z, x2, .l rows, .i k] := by kernel_rfl
theorem toShareS_ev (p : List D) (N : Nat) : evFn Tryz.prog (find [toShareE]) N [0, 2, 3, 4, 11] Tryz.f252 (sd (.sl 118)) [⟨sd (.sl 306), p⟩] = some (bo, nd (decide (0 ≤ ((gd p 0).rows.length : Int)) && decide (((gd p 0).rows.length : Int) = ((gd p 0).rows.length : Int)) && decide (((gd p 0).rows.length : Int) ≤ 4294967296) && true && true)
    (let o := iter (toShareSL N p) N [gd p 0, .l [], .l (List.replicate (gd p 0).rows.length [.i 0, .l [], .l [], .i 0]), .i 0]
     nd o.isSome (nd (o.code == 2) (some (1, [gd o.pay 2]))))) := by kernel_rfl
def toShareSE : Ent := (252, e1 (sd (.sl 306)) fun p => (⟨sd (.sl 118), [cpShareS (gd p 0)]⟩, okShareS (gd p 0)))
theorem toShareS_ok : EntOk Tryz.prog toShareSE := e1_ok fun p h => evFn_sound (N := (gd p 0).rows.length + 1) (ks := [0, 2, 3, 4, 11]) (key := bo) (find_ok (List.forall_mem_cons.2 ⟨toShare_ok, List.forall_mem_nil _⟩)) (enters Tryz.func252 (by kernel_rfl) (by kernel_rfl)) Tryz.func252 fun hw => by
  have h : okShareS (gd p 0) = true := h
  simp only [okShareS, Bool.and_eq_true, decide_eq_true_eq, List.all_eq_true] at h
  rw [toShareS_ev, fill_loop (ok := fun r => okShare (sub r 0 4)) (f := fun r => cpShare (sub r 0 4)) [.i 0, .l [], .l [], .i 0] (wt_sl (hw ⟨sd (.sl 306), p⟩ (by simp))) h.2 (toShareS_rd p _ _ _) (by omega)]
  rw [show decide (((gd p 0).rows.length : Int) ≤ 4294967296) = true from decide_eq_true (by omega), show decide (0 ≤ ((gd p 0).rows.length : Int)) = true from decide_eq_true (by omega), decide_eq_true (rfl : ((gd p 0).rows.length : Int) = _)]
  rfl

def eqShareS : D → D → Bool := alikeS (fun r s => eqShare (sub r 0 4) (sub s 0 4))
noncomputable def eqShareSL (N : Nat) (p q : List D) : List D → Out := loopOf Tryz.prog (find [eqShareE]) N [0, 1, 4, 5, 10, 14, 26] Tryz.f285 rb [⟨sd (.sl 118), p⟩, ⟨sd (.sl 118), q⟩] 0
theorem eqShareS_rd (p q : List D) (N : Nat) (z u x y : D) (k : Int) : eqShareSL N p q [z, u, x, y, .i k] = bif decide (k < z.rows.length) then nd (inRange k z.rows.length) (nd (inRange k u.rows.length) (bif !(eqShare (sub (z.rows.getD k.toNat []) 0 4) (sub (u.rows.getD k.toNat []) 0 4)) then ob false else nx [z, u, x, y, .i (w64 (k + 1))])) else ex 0 [z, u, x, y, .i k] := by kernel_rfl
theorem eqShareS_ev (p q : List D) (N : Nat) : evFn Tryz.prog (find [eqShareE]) N [0, 1, 4, 5, 10, 14, 26] Tryz.f285 rb [⟨sd (.sl 118), p⟩, ⟨sd (.sl 118), q⟩] = some (bo, bif !(((gd p 0).rows.length : Int) == (gd q 0).rows.length) then ob false else
    (let o := iter (eqShareSL N p q) N [gd p 0, gd q 0, D0, .b (!(((gd p 0).rows.length : Int) == (gd q 0).rows.length)), .i 0]
     nd o.isSome (bif o.code == 1 then some (1, o.pay) else nd (o.code == 2) (ob true)))) := by kernel_rfl
def eqShareSE : Ent := (285, e2 (sd (.sl 118)) (sd (.sl 118)) fun p q => (⟨rb, [.b (eqShareS (gd p 0) (gd q 0))]⟩, true))
theorem eqShareS_ok : EntOk Tryz.prog eqShareSE := e2_ok fun p q _ => evFn_sound (N := (gd p 0).rows.length + 1) (ks := [0, 1, 4, 5, 10, 14, 26]) (key := bo) (find_ok (List.forall_mem_cons.2 ⟨eqShare_ok, List.forall_mem_nil _⟩)) (enters Tryz.func285 (by kernel_rfl) (by kernel_rfl)) Tryz.func285 fun hw => by
  rw [eqShareS_ev]
  by_cases hl : (gd p 0).rows.length = (gd q 0).rows.length
  · rw [like_loop (E := (fun r s => eqShare (sub r 0 4) (sub s 0 4))) (wt_sl (hw ⟨sd (.sl 118), p⟩ (by simp))) hl (eqShareS_rd p q _ _ _ _ _) (by omega)]
    rw [show ((((gd p 0).rows.length : Int)) == (gd q 0).rows.length) = true from beq_iff_eq.2 (by omega)]
    show some (bo, _) = some (bo, some (1, [D.b (alikeS (fun r s => eqShare (sub r 0 4) (sub s 0 4)) (gd p 0) (gd q 0))]))
    cases alikeS (fun r s => eqShare (sub r 0 4) (sub s 0 4)) (gd p 0) (gd q 0) <;> rfl
  · rw [show ((((gd p 0).rows.length : Int)) == (gd q 0).rows.length) = false from beq_eq_false_iff_ne.2 (by omega)]
    show some (bo, _) = some (bo, some (1, [D.b (alikeS (fun r s => eqShare (sub r 0 4) (sub s 0 4)) (gd p 0) (gd q 0))]))
    rw [show alikeS (fun r s => eqShare (sub r 0 4) (sub s 0 4)) (gd p 0) (gd q 0) = false from by simp [alikeS, hl]]
    rfl
theorem eqShareS_refl (z : D) : eqShareS z z = true := alikeS_refl (fun r => by exact eqShare_refl _) z

def sizeShareS (z : D) : Nat := z.rows.length + total (fun r => sizeShare (sub r 0 4)) z.rows
noncomputable def szShareSL (N : Nat) (p q : List D) : List D → Out := loopOf Tryz.prog (find [szShareE]) N [0, 1, 4, 5, 11, 15, 25] Tryz.f237 ri [⟨sd (.sl 306), p⟩, ⟨ri, q⟩] 0
theorem szShareS_rd (p q : List D) (N : Nat) (z x y : D) (n k : Int) : szShareSL N p q [z, .i n, x, y, .i k] = bif decide (k < z.rows.length) then nd (inRange k z.rows.length) (nd (fair n) (bif decide (left (sizeShare (sub (z.rows.getD k.toNat []) 0 4)) n < 0) then oi (-1) else nx [z, .i (left (sizeShare (sub (z.rows.getD k.toNat []) 0 4)) n), x, y, .i (w64 (k + 1))])) else ex 0 [z, .i n, x, y, .i k] := by kernel_rfl
theorem szShareS_ev (p q : List D) (N : Nat) : evFn Tryz.prog (find [szShareE]) N [0, 1, 4, 5, 11, 15, 25] Tryz.f237 ri [⟨sd (.sl 306), p⟩, ⟨ri, q⟩] = some (bo, bif decide (w64 ((gd q 0).int - (gd p 0).rows.length) < 0) then oi (-1) else
    (let o := iter (szShareSL N p q) N [gd p 0, .i (w64 ((gd q 0).int - (gd p 0).rows.length)), .i 0, .b (decide (w64 ((gd q 0).int - (gd p 0).rows.length) < 0)), .i 0]
     nd o.isSome (bif o.code == 1 then some (1, o.pay) else nd (o.code == 2) (some (1, [gd o.pay 1]))))) := by kernel_rfl
def szShareSE : Ent := (237, e2 (sd (.sl 306)) ri fun p q => (⟨ri, [.i (left (sizeShareS (gd p 0)) (gd q 0).int)]⟩, fair (gd q 0).int))
theorem szShareS_ok : EntOk Tryz.prog szShareSE := e2_ok fun p q h => evFn_sound (N := (gd p 0).rows.length + 1) (ks := [0, 1, 4, 5, 11, 15, 25]) (key := bo) (find_ok (List.forall_mem_cons.2 ⟨szShare_ok, List.forall_mem_nil _⟩)) (enters Tryz.func237 (by kernel_rfl) (by kernel_rfl)) Tryz.func237 fun hw => by
  have h : fair (gd q 0).int = true := h
  have hl := wt_sl (hw ⟨sd (.sl 306), p⟩ (by simp))
  have h2 : 0 ≤ (gd q 0).int ∧ (gd q 0).int ≤ 1048576 := by simpa [fair] using h
  rw [szShareS_ev, w64_id (by omega) (by omega)]
  by_cases hn : (gd q 0).int - ((gd p 0).rows.length : Int) < 0
  · rw [decide_eq_true hn, cond_true]
    have e : left (sizeShareS (gd p 0)) (gd q 0).int = -1 := if_neg (by simp only [sizeShareS]; push_cast; omega)
    rw [e]
  · rw [decide_eq_false hn, cond_false]
    have := size_loop (size := fun r => sizeShare (sub r 0 4)) hl (szShareS_rd p q ((gd p 0).rows.length + 1) (gd p 0) (.i 0) (.b false)) (gd p 0).rows.length 0 ((gd p 0).rows.length + 1) ((gd q 0).int - ((gd p 0).rows.length : Int)) (by omega) (by omega) (by omega) (by omega)
    simp only [Int.natCast_zero, List.drop_zero] at this
    rw [this]
    by_cases hq : (total (fun r => sizeShare (sub r 0 4)) (gd p 0).rows : Int) ≤ (gd q 0).int - ((gd p 0).rows.length : Int)
    · have e : left (sizeShareS (gd p 0)) (gd q 0).int = (gd q 0).int - ((gd p 0).rows.length : Int) - (total (fun r => sizeShare (sub r 0 4)) (gd p 0).rows : Int) := by
        rw [left, if_pos (by simp only [sizeShareS]; push_cast; omega)]
        simp only [sizeShareS]; push_cast; omega
      rw [if_pos hq, e]
      rfl
    · have e : left (sizeShareS (gd p 0)) (gd q 0).int = -1 := if_neg (by simp only [sizeShareS]; push_cast; omega)
      rw [if_neg hq, e]
      rfl

def rLRec : List S := [si, si, si, si, .sl 306]
def rIRec : List S := [si, si, si, si, .sl 118]
def cpRec (p : List D) : List D := [gd p 0, gd p 1, gd p 2, gd p 3, cpShareS (gd p 4)]
def okRec (p : List D) : Bool := okShareS (gd p 4)
theorem toRec_ev (p : List D) (N : Nat) : evFn Tryz.prog (find [toShareSE]) N [0, 1, 2, 3] Tryz.f249 (ag rIRec) [⟨ag rLRec, p⟩] = some (bo, nd (okShareS (gd p 4)) (some (1, cpRec p))) := by kernel_rfl
def toRecE : Ent := (249, e1 (ag rLRec) fun p => (⟨ag rIRec, cpRec p⟩, okRec p))
theorem toRec_ok : EntOk Tryz.prog toRecE := e1_ok fun p h => evFn_sound (N := 0) (ks := [0, 1, 2, 3]) (key := bo) (find_ok (List.forall_mem_cons.2 ⟨toShareS_ok, List.forall_mem_nil _⟩)) (enters Tryz.func249 (by kernel_rfl) (by kernel_rfl)) Tryz.func249 fun _ => by
  have h : okRec p = true := h
  simp only [okRec, Bool.and_eq_true] at h
  rw [toRec_ev]
  simp only [nd, h, cond_true]

def eqRec (p q : List D) : Bool := ((gd p 0).int == (gd q 0).int) && (((gd p 1).int == (gd q 1).int) && (((gd p 2).int == (gd q 2).int) && (((gd p 3).int == (gd q 3).int) && ((eqShareS (gd p 4) (gd q 4)) && (true)))))
theorem eqRec_ev (p q : List D) (N : Nat) : evFn Tryz.prog (find [eqShareSE]) N [0, 1, 2, 3, 4, 9, 14, 19, 24, 30] Tryz.f282 rb [⟨ag rIRec, p⟩, ⟨ag rIRec, q⟩] = some (bo, bif !((gd p 0).int == (gd q 0).int) then ob false else bif !((gd p 1).int == (gd q 1).int) then ob false else bif !((gd p 2).int == (gd q 2).int) then ob false else bif !((gd p 3).int == (gd q 3).int) then ob false else bif !(eqShareS (gd p 4) (gd q 4)) then ob false else ob true) := by kernel_rfl
def eqRecE : Ent := (282, e2 (ag rIRec) (ag rIRec) fun p q => (⟨rb, [.b (eqRec p q)]⟩, true))
theorem eqRec_ok : EntOk Tryz.prog eqRecE := e2_ok fun p q _ => evFn_sound (N := 0) (ks := [0, 1, 2, 3, 4, 9, 14, 19, 24, 30]) (key := bo) (find_ok (List.forall_mem_cons.2 ⟨eqShareS_ok, List.forall_mem_nil _⟩)) (enters Tryz.func282 (by kernel_rfl) (by kernel_rfl)) Tryz.func282 fun _ => by
  rw [eqRec_ev]
  simp only [ne_step]
  rfl
theorem eqRec_refl (p : List D) : eqRec p p = true := by
  simp [eqRec, eqShareS_refl]

def sizeRec (p : List D) : Nat := sizeShareS (gd p 4)
theorem szRec_ev (p q : List D) (N : Nat) : evFn Tryz.prog (find [szShareSE]) N [0, 1, 2, 4, 10] Tryz.f234 ri [⟨ag rLRec, p⟩, ⟨ri, q⟩] = some (bo, nd (fair (gd q 0).int) (bif decide (left (sizeShareS (gd p 4)) (gd q 0).int < 0) then oi (-1) else oi (left (sizeShareS (gd p 4)) (gd q 0).int))) := by kernel_rfl
def szRecE : Ent := (234, e2 (ag rLRec) ri fun p q => (⟨ri, [.i (left (sizeRec p) (gd q 0).int)]⟩, fair (gd q 0).int))
theorem szRec_ok : EntOk Tryz.prog szRecE := e2_ok fun p q h => evFn_sound (N := 0) (ks := [0, 1, 2, 4, 10]) (key := bo) (find_ok (List.forall_mem_cons.2 ⟨szShareS_ok, List.forall_mem_nil _⟩)) (enters Tryz.func234 (by kernel_rfl) (by kernel_rfl)) Tryz.func234 fun _ => by
  have h : fair (gd q 0).int = true := h
  rw [szRec_ev]
  simp only [nd, h, cond_true, oi_if, left_neg]
  rfl

def cpRecS (z : D) : D := .l (z.rows.map fun r => cpRec (sub r 0 5))
def okRecS (z : D) : Bool := decide (z.rows.length ≤ 4294967296) && z.rows.all fun r => okRec (sub r 0 5)
noncomputable def toRecSL (N : Nat) (p : List D) : List D → Out := loopOf Tryz.prog (find [toRecE]) N [0, 2, 3, 4, 11] Tryz.f150 (sd (.sl 116)) [⟨sd (.sl 241), p⟩] 0
theorem toRecS_rd (p : List D) (N : Nat) (z x2 : D) (rows : List (List D)) (k : Int) : toRecSL N p [z, x2, .l rows, .i k] = bif decide (k < z.rows.length) then nd (inRange k z.rows.length) (nd (okRec (sub (z.rows.getD k.toNat []) 0 5)) (nd (inRange k rows.length) (nx [z, x2, .l (rows.set k.toNat (cpRec (sub (z.rows.getD k.toNat []) 0 5))), .i (w64 (k + 1))]))) else ex 0 [z, x2, .l rows, .i k] := by kernel_rfl
theorem toRecS_ev (p : List D) (N : Nat) : evFn Tryz.prog (find [toRecE]) N [0, 2, 3, 4, 11] Tryz.f150 (sd (.sl 116)) [⟨sd (.sl 241), p⟩] = some (bo, nd (decide (0 ≤ ((gd p 0).rows.length : Int)) && decide (((gd p 0).rows.length : Int) = ((gd p 0).rows.length : Int)) && decide (((gd p 0).rows.length : Int) ≤ 4294967296) && true && true)
    (let o := iter (toRecSL N p) N [gd p 0, .l [], .l (List.replicate (gd p 0).rows.length [.i 0, .i 0, .i 0, .i 0, .l []]), .i 0]
     nd o.isSome (nd (o.code == 2) (some (1, [gd o.pay 2]))))) := by kernel_rfl
def toRecSE : Ent := (150, e1 (sd (.sl 241)) fun p => (⟨sd (.sl 116), [cpRecS (gd p 0)]⟩, okRecS (gd p 0)))
theorem toRecS_ok : EntOk Tryz.prog toRecSE := e1_ok fun p h => evFn_sound (N := (gd p 0).rows.length + 1) (ks := [0, 2, 3, 4, 11]) (key := bo) (find_ok (List.forall_mem_cons.2 ⟨toRec_ok, List.forall_mem_nil _⟩)) (enters Tryz.func150 (by kernel_rfl) (by kernel_rfl)) Tryz.func150 fun hw => by
  have h : okRecS (gd p 0) = true := h
  simp only [okRecS, Bool.and_eq_true, decide_eq_true_eq, List.all_eq_true] at h
  rw [toRecS_ev, fill_loop (ok := fun r => okRec (sub r 0 5)) (f := fun r => cpRec (sub r 0 5)) [.i 0, .i 0, .i 0, .i 0, .l []] (wt_sl (hw ⟨sd (.sl 241), p⟩ (by simp))) h.2 (toRecS_rd p _ _ _) (by omega)]
  rw [show decide (((gd p 0).rows.length : Int) ≤ 4294967296) = true from decide_eq_true (by omega), show decide (0 ≤ ((gd p 0).rows.length : Int)) = true from decide_eq_true (by omega), decide_eq_true (rfl : ((gd p 0).rows.length : Int) = _)]
  rfl

def eqRecS : D → D → Bool := alikeS (fun r s => eqRec (sub r 0 5) (sub s 0 5))
noncomputable def eqRecSL (N : Nat) (p q : List D) : List D → Out := loopOf Tryz.prog (find [eqRecE]) N [0, 1, 4, 5, 10, 14, 26] Tryz.f198 rb [⟨sd (.sl 116), p⟩, ⟨sd (.sl 116), q⟩] 0
theorem eqRecS_rd (p q : List D) (N : Nat) (z u x y : D) (k : Int) : eqRecSL N p q [z, u, x, y, .i k] = bif decide (k < z.rows.length) then nd (inRange k z.rows.length) (nd (inRange k u.rows.length) (bif !(eqRec (sub (z.rows.getD k.toNat []) 0 5) (sub (u.rows.getD k.toNat []) 0 5)) then ob false else nx [z, u, x, y, .i (w64 (k + 1))])) else ex 0 [z, u, x, y, .i k] := by kernel_rfl
theorem eqRecS_ev (p q : List D) (N : Nat) : evFn Tryz.prog (find [eqRecE]) N [0, 1, 4, 5, 10, 14, 26] Tryz.f198 rb [⟨sd (.sl 116), p⟩, ⟨sd (.sl 116), q⟩] = some (bo, bif !(((gd p 0).rows.length : Int) == (gd q 0).rows.length) then ob false else
    (let o := iter (eqRecSL N p q) N [gd p 0, gd q 0, D0, .b (!(((gd p 0).rows.length : Int) == (gd q 0).rows.length)), .i 0]
     nd o.isSome (bif o.code == 1 then some (1, o.pay) else nd (o.code == 2) (ob true)))) := by kernel_rfl
def eqRecSE : Ent := (198, e2 (sd (.sl 116)) (sd (.sl 116)) fun p q => (⟨rb, [.b (eqRecS (gd p 0) (gd q 0))]⟩, true))
theorem eqRecS_ok : EntOk Tryz.prog eqRecSE := e2_ok fun p q _ => evFn_sound (N := (gd p 0).rows.length + 1) (ks := [0, 1, 4, 5, 10, 14, 26]) (key := bo) (find_ok (List.forall_mem_cons.2 ⟨eqRec_ok, List.forall_mem_nil _⟩)) (enters Tryz.func198 (by kernel_rfl) (by kernel_rfl)) Tryz.func198 fun hw => by
  rw [eqRecS_ev]
  by_cases hl : (gd p 0).rows.length = (gd q 0).rows.length
  · rw [like_loop (E := (fun r s => eqRec (sub r 0 5) (sub s 0 5))) (wt_sl (hw ⟨sd (.sl 116), p⟩ (by simp))) hl (eqRecS_rd p q _ _ _ _ _) (by omega)]
    rw [show ((((gd p 0).rows.length : Int)) == (gd q 0).rows.length) = true from beq_iff_eq.2 (by omega)]
    show some (bo, _) = some (bo, some (1, [D.b (alikeS (fun r s => eqRec (sub r 0 5) (sub s 0 5)) (gd p 0) (gd q 0))]))
    cases alikeS (fun r s => eqRec (sub r 0 5) (sub s 0 5)) (gd p 0) (gd q 0) <;> rfl
  · rw [show ((((gd p 0).rows.length : Int)) == (gd q 0).rows.length) = false from beq_eq_false_iff_ne.2 (by omega)]
    show some (bo, _) = some (bo, some (1, [D.b (alikeS (fun r s => eqRec (sub r 0 5) (sub s 0 5)) (gd p 0) (gd q 0))]))
    rw [show alikeS (fun r s => eqRec (sub r 0 5) (sub s 0 5)) (gd p 0) (gd q 0) = false from by simp [alikeS, hl]]
    rfl
theorem eqRecS_refl (z : D) : eqRecS z z = true := alikeS_refl (fun r => by exact eqRec_refl _) z

def sizeRecS (z : D) : Nat := z.rows.length + total (fun r => sizeRec (sub r 0 5)) z.rows
noncomputable def szRecSL (N : Nat) (p q : List D) : List D → Out := loopOf Tryz.prog (find [szRecE]) N [0, 1, 4, 5, 11, 15, 25] Tryz.f121 ri [⟨sd (.sl 241), p⟩, ⟨ri, q⟩] 0
theorem szRecS_rd (p q : List D) (N : Nat) (z x y : D) (n k : Int) : szRecSL N p q [z, .i n, x, y, .i k] = bif decide (k < z.rows.length) then nd (inRange k z.rows.length) (nd (fair n) (bif decide (left (sizeRec (sub (z.rows.getD k.toNat []) 0 5)) n < 0) then oi (-1) else nx [z, .i (left (sizeRec (sub (z.rows.getD k.toNat []) 0 5)) n), x, y, .i (w64 (k + 1))])) else ex 0 [z, .i n, x, y, .i k] := by kernel_rfl
theorem szRecS_ev (p q : List D) (N : Nat) : evFn Tryz.prog (find [szRecE]) N [0, 1, 4, 5, 11, 15, 25] Tryz.f121 ri [⟨sd (.sl 241), p⟩, ⟨ri, q⟩] = some (bo, bif decide (w64 ((gd q 0).int - (gd p 0).rows.length) < 0) then oi (-1) else
    (let o := iter (szRecSL N p q) N [gd p 0, .i (w64 ((gd q 0).int - (gd p 0).rows.length)), .i 0, .b (decide (w64 ((gd q 0).int - (gd p 0).rows.length) < 0)), .i 0]
     nd o.isSome (bif o.code == 1 then some (1, o.pay) else nd (o.code == 2) (some (1, [gd o.pay 1]))))) := by kernel_rfl
def szRecSE : Ent := (121, e2 (sd (.sl 241)) ri fun p q => (⟨ri, [.i (left (sizeRecS (gd p 0)) (gd q 0).int)]⟩, fair (gd q 0).int))
theorem szRecS_ok : EntOk Tryz.prog szRecSE := e2_ok fun p q h => evFn_sound (N := (gd p 0).rows.length + 1) (ks := [0, 1, 4, 5, 11, 15, 25]) (key := bo) (find_ok (List.forall_mem_cons.2 ⟨szRec_ok, List.forall_mem_nil _⟩)) (enters Tryz.func121 (by kernel_rfl) (by kernel_rfl)) Tryz.func121 fun hw => by
  have h : fair (gd q 0).int = true := h
  have hl := wt_sl (hw ⟨sd (.sl 241), p⟩ (by simp))
  have h2 : 0 ≤ (gd q 0).int ∧ (gd q 0).int ≤ 1048576 := by simpa [fair] using h
  rw [szRecS_ev, w64_id (by omega) (by omega)]
  by_cases hn : (gd q 0).int - ((gd p 0).rows.length : Int) < 0
  · rw [decide_eq_true hn, cond_true]
    have e : left (sizeRecS (gd p 0)) (gd q 0).int = -1 := if_neg (by simp only [sizeRecS]; push_cast; omega)
    rw [e]
  · rw [decide_eq_false hn, cond_false]
    have := size_loop (size := fun r => sizeRec (sub r 0 5)) hl (szRecS_rd p q ((gd p 0).rows.length + 1) (gd p 0) (.i 0) (.b false)) (gd p 0).rows.length 0 ((gd p 0).rows.length + 1) ((gd q 0).int - ((gd p 0).rows.length : Int)) (by omega) (by omega) (by omega) (by omega)
    simp only [Int.natCast_zero, List.drop_zero] at this
    rw [this]
    by_cases hq : (total (fun r => sizeRec (sub r 0 5)) (gd p 0).rows : Int) ≤ (gd q 0).int - ((gd p 0).rows.length : Int)
    · have e : left (sizeRecS (gd p 0)) (gd q 0).int = (gd q 0).int - ((gd p 0).rows.length : Int) - (total (fun r => sizeRec (sub r 0 5)) (gd p 0).rows : Int) := by
        rw [left, if_pos (by simp only [sizeRecS]; push_cast; omega)]
        simp only [sizeRecS]; push_cast; omega
      rw [if_pos hq, e]
      rfl
    · have e : left (sizeRecS (gd p 0)) (gd q 0).int = -1 := if_neg (by simp only [sizeRecS]; push_cast; omega)
      rw [if_neg hq, e]
      rfl

end Go.Proofs.YtchceahcaaibcaaGreat
namespace Go.Proofs.YtchceahcaaibcaaGreat
set_option linter.unusedSimpArgs false
set_option linter.unusedVariables false
set_option maxRecDepth 4096
def rLCoord : List S := [.sl 241, .sl 3]
def rICoord : List S := [.sl 116, .sl 3]
def cpCoord (p : List D) : List D := [cpRecS (gd p 0), cpIntS (gd p 1)]
def okCoord (p : List D) : Bool := okRecS (gd p 0) && okIntS (gd p 1)
theorem toCoord_ev (p : List D) (N : Nat) : evFn Tryz.prog (find [toRecSE, toIntSE]) N [0, 1, 2, 3] Tryz.f56 (ag rICoord) [⟨ag rLCoord, p⟩] = some (bo, nd (okRecS (gd p 0)) (nd (okIntS (gd p 1)) (some (1, cpCoord p)))) := by kernel_rfl
def toCoordE : Ent := (56, e1 (ag rLCoord) fun p => (⟨ag rICoord, cpCoord p⟩, okCoord p))
theorem toCoord_ok : EntOk Tryz.prog toCoordE := e1_ok fun p h => evFn_sound (N := 0) (ks := [0, 1, 2, 3]) (key := bo) (find_ok (List.forall_mem_cons.2 ⟨toRecS_ok, List.forall_mem_cons.2 ⟨toIntS_ok, List.forall_mem_nil _⟩⟩)) (enters Tryz.func56 (by kernel_rfl) (by kernel_rfl)) Tryz.func56 fun _ => by
  have h : okCoord p = true := h
  simp only [okCoord, Bool.and_eq_true] at h
  rw [toCoord_ev]
  simp only [nd, h.1, h.2, cond_true]

def eqCoord (p q : List D) : Bool := (eqRecS (gd p 0) (gd q 0)) && ((eqIntS (gd p 1) (gd q 1)) && (true))
theorem eqCoord_ev (p q : List D) (N : Nat) : evFn Tryz.prog (find [eqRecSE, eqIntSE]) N [0, 1, 2, 3, 4, 10, 16] Tryz.f77 rb [⟨ag rICoord, p⟩, ⟨ag rICoord, q⟩] = some (bo, bif !(eqRecS (gd p 0) (gd q 0)) then ob false else bif !(eqIntS (gd p 1) (gd q 1)) then ob false else ob true) := by kernel_rfl
def eqCoordE : Ent := (77, e2 (ag rICoord) (ag rICoord) fun p q => (⟨rb, [.b (eqCoord p q)]⟩, true))
theorem eqCoord_ok : EntOk Tryz.prog eqCoordE := e2_ok fun p q _ => evFn_sound (N := 0) (ks := [0, 1, 2, 3, 4, 10, 16]) (key := bo) (find_ok (List.forall_mem_cons.2 ⟨eqRecS_ok, List.forall_mem_cons.2 ⟨eqIntS_ok, List.forall_mem_nil _⟩⟩)) (enters Tryz.func77 (by kernel_rfl) (by kernel_rfl)) Tryz.func77 fun _ => by
  rw [eqCoord_ev]
  simp only [ne_step]
  rfl
theorem eqCoord_refl (p : List D) : eqCoord p p = true := by
  simp [eqCoord, eqRecS_refl, eqIntS_refl]

def sizeCoord (p : List D) : Nat := sizeRecS (gd p 0) + sizeIntS (gd p 1)
theorem szCoord_ev (p q : List D) (N : Nat) : evFn Tryz.prog (find [szRecSE, szIntSE]) N [0, 1, 2, 4, 10, 16] Tryz.f42 ri [⟨ag rLCoord, p⟩, ⟨ri, q⟩] = some (bo, nd (fair (gd q 0).int) (bif decide (left (sizeRecS (gd p 0)) (gd q 0).int < 0) then oi (-1) else nd (fair (left (sizeRecS (gd p 0)) (gd q 0).int)) (bif decide (left (sizeIntS (gd p 1)) (left (sizeRecS (gd p 0)) (gd q 0).int) < 0) then oi (-1) else oi (left (sizeIntS (gd p 1)) (left (sizeRecS (gd p 0)) (gd q 0).int))))) := by kernel_rfl
def szCoordE : Ent := (42, e2 (ag rLCoord) ri fun p q => (⟨ri, [.i (left (sizeCoord p) (gd q 0).int)]⟩, fair (gd q 0).int))
theorem szCoord_ok : EntOk Tryz.prog szCoordE := e2_ok fun p q h => evFn_sound (N := 0) (ks := [0, 1, 2, 4, 10, 16]) (key := bo) (find_ok (List.forall_mem_cons.2 ⟨szRecS_ok, List.forall_mem_cons.2 ⟨szIntS_ok, List.forall_mem_nil _⟩⟩)) (enters Tryz.func42 (by kernel_rfl) (by kernel_rfl)) Tryz.func42 fun _ => by
  have h : fair (gd q 0).int = true := h
  rw [szCoord_ev]
  by_cases h2 : left (sizeRecS (gd p 0)) (gd q 0).int < 0
  · have e := left_left (sizeRecS (gd p 0)) (sizeIntS (gd p 1)) (gd q 0).int
    rw [if_pos h2] at e
    simp only [nd, h, cond_true, h2, decide_true, sizeCoord, ← e]
  · have e := left_left (sizeRecS (gd p 0)) (sizeIntS (gd p 1)) (gd q 0).int
    rw [if_neg h2] at e
    simp only [nd, h, cond_true, cond_false, h2, decide_false, fair_left h h2, oi_if, left_neg, sizeCoord, ← e]

end Go.Proofs.YtchceahcaaibcaaGreat
namespace Go.Proofs.YtchceahcaaibcaaGreat
set_option linter.unusedSimpArgs false
set_option linter.unusedVariables false
set_option maxRecDepth 4096
def rLEvent : List S := [si, si, si, si, si, .sl 308, .bool]
def rIEvent : List S := [si, si, si, si, si, .sl 176, .bool]
def cpEvent (p : List D) : List D := [gd p 0, gd p 1, gd p 2, gd p 3, gd p 4, cpCellS (gd p 5), gd p 6]
def okEvent (p : List D) : Bool := okCellS (gd p 5)
theorem toEvent_ev (p : List D) (N : Nat) : evFn Tryz.prog (find [toCellSE]) N [0, 1, 2, 3] Tryz.f154 (ag rIEvent) [⟨ag rLEvent, p⟩] = some (bo, nd (okCellS (gd p 5)) (some (1, cpEvent p))) := by kernel_rfl
def toEventE : Ent := (154, e1 (ag rLEvent) fun p => (⟨ag rIEvent, cpEvent p⟩, okEvent p))
theorem toEvent_ok : EntOk Tryz.prog toEventE := e1_ok fun p h => evFn_sound (N := 0) (ks := [0, 1, 2, 3]) (key := bo) (find_ok (List.forall_mem_cons.2 ⟨toCellS_ok, List.forall_mem_nil _⟩)) (enters Tryz.func154 (by kernel_rfl) (by kernel_rfl)) Tryz.func154 fun _ => by
  have h : okEvent p = true := h
  simp only [okEvent, Bool.and_eq_true] at h
  rw [toEvent_ev]
  simp only [nd, h, cond_true]

def eqEvent (p q : List D) : Bool := ((gd p 0).int == (gd q 0).int) && (((gd p 1).int == (gd q 1).int) && (((gd p 2).int == (gd q 2).int) && (((gd p 3).int == (gd q 3).int) && (((gd p 4).int == (gd q 4).int) && ((eqCellS (gd p 5) (gd q 5)) && (((gd p 6).bool == (gd q 6).bool) && (true)))))))
theorem eqEvent_ev (p q : List D) (N : Nat) : evFn Tryz.prog (find [eqCellSE]) N [0, 1, 2, 3, 4, 9, 14, 19, 24, 29, 35, 40] Tryz.f201 rb [⟨ag rIEvent, p⟩, ⟨ag rIEvent, q⟩] = some (bo, bif !((gd p 0).int == (gd q 0).int) then ob false else bif !((gd p 1).int == (gd q 1).int) then ob false else bif !((gd p 2).int == (gd q 2).int) then ob false else bif !((gd p 3).int == (gd q 3).int) then ob false else bif !((gd p 4).int == (gd q 4).int) then ob false else bif !(eqCellS (gd p 5) (gd q 5)) then ob false else bif !((gd p 6).bool == (gd q 6).bool) then ob false else ob true) := by kernel_rfl
def eqEventE : Ent := (201, e2 (ag rIEvent) (ag rIEvent) fun p q => (⟨rb, [.b (eqEvent p q)]⟩, true))
theorem eqEvent_ok : EntOk Tryz.prog eqEventE := e2_ok fun p q _ => evFn_sound (N := 0) (ks := [0, 1, 2, 3, 4, 9, 14, 19, 24, 29, 35, 40]) (key := bo) (find_ok (List.forall_mem_cons.2 ⟨eqCellS_ok, List.forall_mem_nil _⟩)) (enters Tryz.func201 (by kernel_rfl) (by kernel_rfl)) Tryz.func201 fun _ => by
  rw [eqEvent_ev]
  simp only [ne_step]
  rfl
theorem eqEvent_refl (p : List D) : eqEvent p p = true := by
  simp [eqEvent, eqCellS_refl]

def sizeEvent (p : List D) : Nat := sizeCellS (gd p 5)
theorem szEvent_ev (p q : List D) (N : Nat) : evFn Tryz.prog (find [szCellSE]) N [0, 1, 2, 4, 10] Tryz.f125 ri [⟨ag rLEvent, p⟩, ⟨ri, q⟩] = some (bo, nd (fair (gd q 0).int) (bif decide (left (sizeCellS (gd p 5)) (gd q 0).int < 0) then oi (-1) else oi (left (sizeCellS (gd p 5)) (gd q 0).int))) := by kernel_rfl
def szEventE : Ent := (125, e2 (ag rLEvent) ri fun p q => (⟨ri, [.i (left (sizeEvent p) (gd q 0).int)]⟩, fair (gd q 0).int))
theorem szEvent_ok : EntOk Tryz.prog szEventE := e2_ok fun p q h => evFn_sound (N := 0) (ks := [0, 1, 2, 4, 10]) (key := bo) (find_ok (List.forall_mem_cons.2 ⟨szCellS_ok, List.forall_mem_nil _⟩)) (enters Tryz.func125 (by kernel_rfl) (by kernel_rfl)) Tryz.func125 fun _ => by
  have h : fair (gd q 0).int = true := h
  rw [szEvent_ev]
  simp only [nd, h, cond_true, oi_if, left_neg]
  rfl

def cpEventS (z : D) : D := .l (z.rows.map fun r => cpEvent (sub r 0 7))
def okEventS (z : D) : Bool := decide (z.rows.length ≤ 4294967296) && z.rows.all fun r => okEvent (sub r 0 7)
noncomputable def toEventSL (N : Nat) (p : List D) : List D → Out := loopOf Tryz.prog (find [toEventE]) N [0, 2, 3, 4, 11] Tryz.f59 (sd (.sl 88)) [⟨sd (.sl 167), p⟩] 0
theorem toEventS_rd (p : List D) (N : Nat) (z x2 : D) (rows : List (List D)) (k : Int) : toEventSL N p [z, x2, .l rows, .i k] = bif decide (k < z.rows.length) then nd (inRange k z.rows.length) (nd (okEvent (sub (z.rows.getD k.toNat []) 0 7)) (nd (inRange k rows.length) (nx [z, x2, .l (rows.set k.toNat (cpEvent (sub (z.rows.getD k.toNat []) 0 7))), .i (w64 (k + 1))]))) else ex 0 [z, x2, .l rows, .i k] := by kernel_rfl
theorem toEventS_ev (p : List D) (N : Nat) : evFn Tryz.prog (find [toEventE]) N [0, 2, 3, 4, 11] Tryz.f59 (sd (.sl 88)) [⟨sd (.sl 167), p⟩] = some (bo, nd (decide (0 ≤ ((gd p 0).rows.length : Int)) && decide (((gd p 0).rows.length : Int) = ((gd p 0).rows.length : Int)) && decide (((gd p 0).rows.length : Int) ≤ 4294967296) && true && true)
    (let o := iter (toEventSL N p) N [gd p 0, .l [], .l (List.replicate (gd p 0).rows.length [.i 0, .i 0, .i 0, .i 0, .i 0, .l [], .b false]), .i 0]
     nd o.isSome (nd (o.code == 2) (some (1, [gd o.pay 2]))))) := by kernel_rfl
def toEventSE : Ent := (59, e1 (sd (.sl 167)) fun p => (⟨sd (.sl 88), [cpEventS (gd p 0)]⟩, okEventS (gd p 0)))
theorem toEventS_ok : EntOk Tryz.prog toEventSE := e1_ok fun p h => evFn_sound (N := (gd p 0).rows.length + 1) (ks := [0, 2, 3, 4, 11]) (key := bo) (find_ok (List.forall_mem_cons.2 ⟨toEvent_ok, List.forall_mem_nil _⟩)) (enters Tryz.func59 (by kernel_rfl) (by kernel_rfl)) Tryz.func59 fun hw => by
  have h : okEventS (gd p 0) = true := h
  simp only [okEventS, Bool.and_eq_true, decide_eq_true_eq, List.all_eq_true] at h
  rw [toEventS_ev, fill_loop (ok := fun r => okEvent (sub r 0 7)) (f := fun r => cpEvent (sub r 0 7)) [.i 0, .i 0, .i 0, .i 0, .i 0, .l [], .b false] (wt_sl (hw ⟨sd (.sl 167), p⟩ (by simp))) h.2 (toEventS_rd p _ _ _) (by omega)]
  rw [show decide (((gd p 0).rows.length : Int) ≤ 4294967296) = true from decide_eq_true (by omega), show decide (0 ≤ ((gd p 0).rows.length : Int)) = true from decide_eq_true (by omega), decide_eq_true (rfl : ((gd p 0).rows.length : Int) = _)]
  rfl

def eqEventS : D → D → Bool := alikeS (fun r s => eqEvent (sub r 0 7) (sub s 0 7))
noncomputable def eqEventSL (N : Nat) (p q : List D) : List D → Out := loopOf Tryz.prog (find [eqEventE]) N [0, 1, 4, 5, 10, 14, 26] Tryz.f80 rb [⟨sd (.sl 88), p⟩, ⟨sd (.sl 88), q⟩] 0
theorem eqEventS_rd (p q : List D) (N : Nat) (z u x y : D) (k : Int) : eqEventSL N p q [z, u, x, y, .i k] = bif decide (k < z.rows.length) then nd (inRange k z.rows.length) (nd (inRange k u.rows.length) (bif !(eqEvent (sub (z.rows.getD k.toNat []) 0 7) (sub (u.rows.getD k.toNat []) 0 7)) then ob false else nx [z, u, x, y, .i (w64 (k + 1))])) else ex 0 [z, u, x, y, .i k] := by kernel_rfl
theorem eqEventS_ev (p q : List D) (N : Nat) : evFn Tryz.prog (find [eqEventE]) N [0, 1, 4, 5, 10, 14, 26] Tryz.f80 rb [⟨sd (.sl 88), p⟩, ⟨sd (.sl 88), q⟩] = some (bo, bif !(((gd p 0).rows.length : Int) == (gd q 0).rows.length) then ob false else
    (let o := iter (eqEventSL N p q) N [gd p 0, gd q 0, D0, .b (!(((gd p 0).rows.length : Int) == (gd q 0).rows.length)), .i 0]
     nd o.isSome (bif o.code == 1 then some (1, o.pay) else nd (o.code == 2) (ob true)))) := by kernel_rfl
def eqEventSE : Ent := (80, e2 (sd (.sl 88)) (sd (.sl 88)) fun p q => (⟨rb, [.b (eqEventS (gd p 0) (gd q 0))]⟩, true))
theorem eqEventS_ok : EntOk Tryz.prog eqEventSE := e2_ok fun p q _ => evFn_sound (N := (gd p 0).rows.length + 1) (ks := [0, 1, 4, 5, 10, 14, 26]) (key := bo) (find_ok (List.forall_mem_cons.2 ⟨eqEvent_ok, List.forall_mem_nil _⟩)) (enters Tryz.func80 (by kernel_rfl) (by kernel_rfl)) Tryz.func80 fun hw => by
  rw [eqEventS_ev]
  by_cases hl : (gd p 0).rows.length = (gd q 0).rows.length
  · rw [like_loop (E := (fun r s => eqEvent (sub r 0 7) (sub s 0 7))) (wt_sl (hw ⟨sd (.sl 88), p⟩ (by simp))) hl (eqEventS_rd p q _ _ _ _ _) (by omega)]
    rw [show ((((gd p 0).rows.length : Int)) == (gd q 0).rows.length) = true from beq_iff_eq.2 (by omega)]
    show some (bo, _) = some (bo, some (1, [D.b (alikeS (fun r s => eqEvent (sub r 0 7) (sub s 0 7)) (gd p 0) (gd q 0))]))
    cases alikeS (fun r s => eqEvent (sub r 0 7) (sub s 0 7)) (gd p 0) (gd q 0) <;> rfl
  · rw [show ((((gd p 0).rows.length : Int)) == (gd q 0).rows.length) = false from beq_eq_false_iff_ne.2 (by omega)]
    show some (bo, _) = some (bo, some (1, [D.b (alikeS (fun r s => eqEvent (sub r 0 7) (sub s 0 7)) (gd p 0) (gd q 0))]))
    rw [show alikeS (fun r s => eqEvent (sub r 0 7) (sub s 0 7)) (gd p 0) (gd q 0) = false from by simp [alikeS, hl]]
    rfl
theorem eqEventS_refl (z : D) : eqEventS z z = true := alikeS_refl (fun r => by exact eqEvent_refl _) z

def sizeEventS (z : D) : Nat := z.rows.length + total (fun r => sizeEvent (sub r 0 7)) z.rows
noncomputable def szEventSL (N : Nat) (p q : List D) : List D → Out := loopOf Tryz.prog (find [szEventE]) N [0, 1, 4, 5, 11, 15, 25] Tryz.f45 ri [⟨sd (.sl 167), p⟩, ⟨ri, q⟩] 0
theorem szEventS_rd (p q : List D) (N : Nat) (z x y : D) (n k : Int) : szEventSL N p q [z, .i n, x, y, .i k] = bif decide (k < z.rows.length) then nd (inRange k z.rows.length) (nd (fair n) (bif decide (left (sizeEvent (sub (z.rows.getD k.toNat []) 0 7)) n < 0) then oi (-1) else nx [z, .i (left (sizeEvent (sub (z.rows.getD k.toNat []) 0 7)) n), x, y, .i (w64 (k + 1))])) else ex 0 [z, .i n, x, y, .i k] := by kernel_rfl
theorem szEventS_ev (p q : List D) (N : Nat) : evFn Tryz.prog (find [szEventE]) N [0, 1, 4, 5, 11, 15, 25] Tryz.f45 ri [⟨sd (.sl 167), p⟩, ⟨ri, q⟩] = some (bo, bif decide (w64 ((gd q 0).int - (gd p 0).rows.length) < 0) then oi (-1) else
    (let o := iter (szEventSL N p q) N [gd p 0, .i (w64 ((gd q 0).int - (gd p 0).rows.length)), .i 0, .b (decide (w64 ((gd q 0).int - (gd p 0).rows.length) < 0)), .i 0]
     nd o.isSome (bif o.code == 1 then some (1, o.pay) else nd (o.code == 2) (some (1, [gd o.pay 1]))))) := by kernel_rfl
def szEventSE : Ent := (45, e2 (sd (.sl 167)) ri fun p q => (⟨ri, [.i (left (sizeEventS (gd p 0)) (gd q 0).int)]⟩, fair (gd q 0).int))
theorem szEventS_ok : EntOk Tryz.prog szEventSE := e2_ok fun p q h => evFn_sound (N := (gd p 0).rows.length + 1) (ks := [0, 1, 4, 5, 11, 15, 25]) (key := bo) (find_ok (List.forall_mem_cons.2 ⟨szEvent_ok, List.forall_mem_nil _⟩)) (enters Tryz.func45 (by kernel_rfl) (by kernel_rfl)) Tryz.func45 fun hw => by
  have h : fair (gd q 0).int = true := h
  have hl := wt_sl (hw ⟨sd (.sl 167), p⟩ (by simp))
  have h2 : 0 ≤ (gd q 0).int ∧ (gd q 0).int ≤ 1048576 := by simpa [fair] using h
  rw [szEventS_ev, w64_id (by omega) (by omega)]
  by_cases hn : (gd q 0).int - ((gd p 0).rows.length : Int) < 0
  · rw [decide_eq_true hn, cond_true]
    have e : left (sizeEventS (gd p 0)) (gd q 0).int = -1 := if_neg (by simp only [sizeEventS]; push_cast; omega)
    rw [e]
  · rw [decide_eq_false hn, cond_false]
    have := size_loop (size := fun r => sizeEvent (sub r 0 7)) hl (szEventS_rd p q ((gd p 0).rows.length + 1) (gd p 0) (.i 0) (.b false)) (gd p 0).rows.length 0 ((gd p 0).rows.length + 1) ((gd q 0).int - ((gd p 0).rows.length : Int)) (by omega) (by omega) (by omega) (by omega)
    simp only [Int.natCast_zero, List.drop_zero] at this
    rw [this]
    by_cases hq : (total (fun r => sizeEvent (sub r 0 7)) (gd p 0).rows : Int) ≤ (gd q 0).int - ((gd p 0).rows.length : Int)
    · have e : left (sizeEventS (gd p 0)) (gd q 0).int = (gd q 0).int - ((gd p 0).rows.length : Int) - (total (fun r => sizeEvent (sub r 0 7)) (gd p 0).rows : Int) := by
        rw [left, if_pos (by simp only [sizeEventS]; push_cast; omega)]
        simp only [sizeEventS]; push_cast; omega
      rw [if_pos hq, e]
      rfl
    · have e : left (sizeEventS (gd p 0)) (gd q 0).int = -1 := if_neg (by simp only [sizeEventS]; push_cast; omega)
      rw [if_neg hq, e]
      rfl

end Go.Proofs.YtchceahcaaibcaaGreat
