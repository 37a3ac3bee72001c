/-
  The town's types: what is copied, compared and measured. Printed by genev2.py.
-/
import Derived.Test.YtchceahcaaibcaaGreatJSize
namespace Go.Proofs.YtchceahcaaibcaaGreat
set_option linter.unusedSimpArgs false
set_option linter.unusedVariables false
set_option maxRecDepth 4096
theorem sz1 {a : Nat} {n : Int} : (bif ltI (left a n) 0 then oi (-1) else oi (left a n)) = oi (left a n) := by
  unfold ltI left
  split
  · rw [decide_eq_false (by omega)]; rfl
  · rfl
theorem szN {b c : Nat} {m : Int} : nd (fair m) (bif ltI (left b m) 0 then oi (-1) else nd (fair (left b m)) (oi (left c (left b m)))) = nd (fair m) (oi (left (b + c) m)) := by
  cases hm : fair m
  · rfl
  · simp only [nd, cond_true]
    by_cases h : left b m < 0
    · rw [ltI_t h, cond_true]
      have e := left_left b c m
      rw [if_pos h] at e
      rw [← e]
    · rw [ltI_f (by omega), cond_false, fair_left hm h, cond_true]
      have e := left_left b c m
      rw [if_neg h] at e
      rw [← e]

def rLPart : List S := [si, si, si]
def rIPart : List S := [si, si, si]
def cpPart (p : List D) : List D := [gd p 0, gd p 1, gd p 2]
def okPart (p : List D) : Bool := true
theorem toPart_ev (p : List D) (N : Nat) : evFn Tryz.prog (find []) N [0, 1, 2, 3] Tryz.f244 (ag rIPart) [⟨ag rLPart, p⟩] = some (bo, some (1, cpPart p)) := by kernel_rfl
def toPartE : Ent := (244, e1 (ag rLPart) fun p => (⟨ag rIPart, cpPart p⟩, okPart p))
theorem toPart_ok : EntOk Tryz.prog toPartE := e1_ok fun p h => evFn_sound (N := 0) (ks := [0, 1, 2, 3]) (key := bo) (find_ok (List.forall_mem_nil _)) (enters Tryz.func244 (by kernel_rfl) (by kernel_rfl)) Tryz.func244 fun _ => by
  have h : okPart p = true := h
  simp only [okPart, Bool.and_eq_true] at h
  rw [toPart_ev]

def eqPart (p q : List D) : Bool := ((gd p 0).int == (gd q 0).int) && (((gd p 1).int == (gd q 1).int) && (((gd p 2).int == (gd q 2).int) && (true)))
theorem eqPart_ev (p q : List D) (N : Nat) : evFn Tryz.prog (find []) N [0, 1, 2, 3, 4, 9, 14, 19] Tryz.f277 rb [⟨ag rIPart, p⟩, ⟨ag rIPart, q⟩] = some (bo, bif !((gd p 0).int == (gd q 0).int) then ob false else bif !((gd p 1).int == (gd q 1).int) then ob false else bif !((gd p 2).int == (gd q 2).int) then ob false else ob true) := by kernel_rfl
def eqPartE : Ent := (277, e2 (ag rIPart) (ag rIPart) fun p q => (⟨rb, [.b (eqPart p q)]⟩, true))
theorem eqPart_ok : EntOk Tryz.prog eqPartE := e2_ok fun p q _ => evFn_sound (N := 0) (ks := [0, 1, 2, 3, 4, 9, 14, 19]) (key := bo) (find_ok (List.forall_mem_nil _)) (enters Tryz.func277 (by kernel_rfl) (by kernel_rfl)) Tryz.func277 fun _ => by
  rw [eqPart_ev]
  simp only [ne_step]
  rfl
theorem eqPart_refl (p : List D) : eqPart p p = true := by
  simp [eqPart]

def sizePart (p : List D) : Nat := 0
theorem okPart_of {p : List D} {m : Nat} (hm : m ≤ 4294967296) (h : sizePart p ≤ m) : okPart p = true := rfl
def cpPartS (z : D) : D := .l (z.rows.map fun r => cpPart (sub r 0 3))
def okPartS (z : D) : Bool := decide (z.rows.length ≤ 4294967296) && z.rows.all fun r => okPart (sub r 0 3)
noncomputable def toPartSL (N : Nat) (p : List D) : List D → Out := loopOf Tryz.prog (find [toPartE]) N [0, 2, 3, 4, 11] Tryz.f147 (sd (.sl 97)) [⟨sd (.sl 252), p⟩] 0
theorem toPartS_rd (p : List D) (N : Nat) (z x2 : D) (rows : List (List D)) (k : Int) : toPartSL N p [z, x2, .l rows, .i k] = bif decide (k < z.rows.length) then nd (inRange k z.rows.length) (nd (okPart (sub (z.rows.getD k.toNat []) 0 3)) (nd (inRange k rows.length) (nx [z, x2, .l (rows.set k.toNat (cpPart (sub (z.rows.getD k.toNat []) 0 3))), .i (w64 (k + 1))]))) else ex 0 [z, x2, .l rows, .i k] := by kernel_rfl
theorem toPartS_ev (p : List D) (N : Nat) : evFn Tryz.prog (find [toPartE]) N [0, 2, 3, 4, 11] Tryz.f147 (sd (.sl 97)) [⟨sd (.sl 252), p⟩] = some (bo, nd (decide (0 ≤ ((gd p 0).rows.length : Int)) && decide (((gd p 0).rows.length : Int) = ((gd p 0).rows.length : Int)) && decide (((gd p 0).rows.length : Int) ≤ 4294967296) && true && true)
    (let o := iter (toPartSL N p) N [gd p 0, .l [], .l (List.replicate (gd p 0).rows.length [.i 0, .i 0, .i 0]), .i 0]
     nd o.isSome (nd (o.code == 2) (some (1, [gd o.pay 2]))))) := by kernel_rfl
def toPartSE : Ent := (147, e1 (sd (.sl 252)) fun p => (⟨sd (.sl 97), [cpPartS (gd p 0)]⟩, okPartS (gd p 0)))
theorem toPartS_ok : EntOk Tryz.prog toPartSE := e1_ok fun p h => evFn_sound (N := (gd p 0).rows.length + 1) (ks := [0, 2, 3, 4, 11]) (key := bo) (find_ok (List.forall_mem_cons.2 ⟨toPart_ok, List.forall_mem_nil _⟩)) (enters Tryz.func147 (by kernel_rfl) (by kernel_rfl)) Tryz.func147 fun hw => by
  have h : okPartS (gd p 0) = true := h
  simp only [okPartS, Bool.and_eq_true, decide_eq_true_eq, List.all_eq_true] at h
  rw [toPartS_ev, fill_loop (ok := fun r => okPart (sub r 0 3)) (f := fun r => cpPart (sub r 0 3)) [.i 0, .i 0, .i 0] (wt_sl (hw ⟨sd (.sl 252), p⟩ (by simp))) h.2 (toPartS_rd p _ _ _) (by omega)]
  rw [show decide (((gd p 0).rows.length : Int) ≤ 4294967296) = true from decide_eq_true (by omega), show decide (0 ≤ ((gd p 0).rows.length : Int)) = true from decide_eq_true (by omega), decide_eq_true (rfl : ((gd p 0).rows.length : Int) = _)]
  rfl

def eqPartS : D → D → Bool := alikeS (fun r s => eqPart (sub r 0 3) (sub s 0 3))
noncomputable def eqPartSL (N : Nat) (p q : List D) : List D → Out := loopOf Tryz.prog (find [eqPartE]) N [0, 1, 4, 5, 10, 14, 26] Tryz.f195 rb [⟨sd (.sl 97), p⟩, ⟨sd (.sl 97), q⟩] 0
theorem eqPartS_rd (p q : List D) (N : Nat) (z u x y : D) (k : Int) : eqPartSL N p q [z, u, x, y, .i k] = bif decide (k < z.rows.length) then nd (inRange k z.rows.length) (nd (inRange k u.rows.length) (bif !(eqPart (sub (z.rows.getD k.toNat []) 0 3) (sub (u.rows.getD k.toNat []) 0 3)) then ob false else nx [z, u, x, y, .i (w64 (k + 1))])) else ex 0 [z, u, x, y, .i k] := by kernel_rfl
theorem eqPartS_ev (p q : List D) (N : Nat) : evFn Tryz.prog (find [eqPartE]) N [0, 1, 4, 5, 10, 14, 26] Tryz.f195 rb [⟨sd (.sl 97), p⟩, ⟨sd (.sl 97), q⟩] = some (bo, bif !(((gd p 0).rows.length : Int) == (gd q 0).rows.length) then ob false else
    (let o := iter (eqPartSL N p q) N [gd p 0, gd q 0, D0, .b (!(((gd p 0).rows.length : Int) == (gd q 0).rows.length)), .i 0]
     nd o.isSome (bif o.code == 1 then some (1, o.pay) else nd (o.code == 2) (ob true)))) := by kernel_rfl
def eqPartSE : Ent := (195, e2 (sd (.sl 97)) (sd (.sl 97)) fun p q => (⟨rb, [.b (eqPartS (gd p 0) (gd q 0))]⟩, true))
theorem eqPartS_ok : EntOk Tryz.prog eqPartSE := e2_ok fun p q _ => evFn_sound (N := (gd p 0).rows.length + 1) (ks := [0, 1, 4, 5, 10, 14, 26]) (key := bo) (find_ok (List.forall_mem_cons.2 ⟨eqPart_ok, List.forall_mem_nil _⟩)) (enters Tryz.func195 (by kernel_rfl) (by kernel_rfl)) Tryz.func195 fun hw => by
  rw [eqPartS_ev]
  by_cases hl : (gd p 0).rows.length = (gd q 0).rows.length
  · rw [like_loop (E := (fun r s => eqPart (sub r 0 3) (sub s 0 3))) (wt_sl (hw ⟨sd (.sl 97), p⟩ (by simp))) hl (eqPartS_rd p q _ _ _ _ _) (by omega)]
    rw [show ((((gd p 0).rows.length : Int)) == (gd q 0).rows.length) = true from beq_iff_eq.2 (by omega)]
    show some (bo, _) = some (bo, some (1, [D.b (alikeS (fun r s => eqPart (sub r 0 3) (sub s 0 3)) (gd p 0) (gd q 0))]))
    cases alikeS (fun r s => eqPart (sub r 0 3) (sub s 0 3)) (gd p 0) (gd q 0) <;> rfl
  · rw [show ((((gd p 0).rows.length : Int)) == (gd q 0).rows.length) = false from beq_eq_false_iff_ne.2 (by omega)]
    show some (bo, _) = some (bo, some (1, [D.b (alikeS (fun r s => eqPart (sub r 0 3) (sub s 0 3)) (gd p 0) (gd q 0))]))
    rw [show alikeS (fun r s => eqPart (sub r 0 3) (sub s 0 3)) (gd p 0) (gd q 0) = false from by simp [alikeS, hl]]
    rfl
theorem eqPartS_refl (z : D) : eqPartS z z = true := alikeS_refl (fun r => by exact eqPart_refl _) z

def sizePartS (z : D) : Nat := z.rows.length
theorem szPartS_ev (p q : List D) (N : Nat) : evFn Tryz.prog (find []) N [0, 1, 4, 10] Tryz.f118 ri [⟨sd (.sl 252), p⟩, ⟨ri, q⟩] = some (bo, bif decide (w64 ((gd q 0).int - (gd p 0).rows.length) < 0) then oi (-1) else oi (w64 ((gd q 0).int - (gd p 0).rows.length))) := by kernel_rfl
def szPartSE : Ent := (118, e2 (sd (.sl 252)) ri fun p q => (⟨ri, [.i (left (sizePartS (gd p 0)) (gd q 0).int)]⟩, fair (gd q 0).int))
theorem szPartS_ok : EntOk Tryz.prog szPartSE := e2_ok fun p q h => evFn_sound (N := (gd p 0).rows.length + 1) (ks := [0, 1, 4, 10]) (key := bo) (find_ok (List.forall_mem_nil _)) (enters Tryz.func118 (by kernel_rfl) (by kernel_rfl)) Tryz.func118 fun hw => by
  have h : fair (gd q 0).int = true := h
  have hl := wt_sl (hw ⟨sd (.sl 252), p⟩ (by simp))
  have h2 : 0 ≤ (gd q 0).int ∧ (gd q 0).int ≤ 1048576 := by simpa [fair] using h
  rw [szPartS_ev, w64_id (by omega) (by omega)]
  rw [oi_if, left_sub]
  rfl

theorem okPartS_of {z : D} {m : Nat} (hm : m ≤ 4294967296) (h : sizePartS z ≤ m) : okPartS z = true := okF (ok := fun r => okPart (sub r 0 3)) hm h fun _ => rfl

def rLMove : List S := [si, si, si, si, si, si, .sl 308]
def rIMove : List S := [si, si, si, si, si, si, .sl 176]
def cpMove (p : List D) : List D := [gd p 0, gd p 1, gd p 2, gd p 3, gd p 4, gd p 5, cpCellS (gd p 6)]
def okMove (p : List D) : Bool := okCellS (gd p 6)
theorem toMove_ev (p : List D) (N : Nat) : evFn Tryz.prog (find [toCellSE]) N [0, 1, 2, 3] Tryz.f148 (ag rIMove) [⟨ag rLMove, p⟩] = some (bo, nd (okCellS (gd p 6)) (some (1, cpMove p))) := by kernel_rfl
def toMoveE : Ent := (148, e1 (ag rLMove) fun p => (⟨ag rIMove, cpMove p⟩, okMove p))
theorem toMove_ok : EntOk Tryz.prog toMoveE := e1_ok fun p h => evFn_sound (N := 0) (ks := [0, 1, 2, 3]) (key := bo) (find_ok (List.forall_mem_cons.2 ⟨toCellS_ok, List.forall_mem_nil _⟩)) (enters Tryz.func148 (by kernel_rfl) (by kernel_rfl)) Tryz.func148 fun _ => by
  have h : okMove p = true := h
  simp only [okMove, Bool.and_eq_true] at h
  rw [toMove_ev]
  simp only [nd, h, cond_true]

def eqMove (p q : List D) : Bool := ((gd p 0).int == (gd q 0).int) && (((gd p 1).int == (gd q 1).int) && (((gd p 2).int == (gd q 2).int) && (((gd p 3).int == (gd q 3).int) && (((gd p 4).int == (gd q 4).int) && (((gd p 5).int == (gd q 5).int) && ((eqCellS (gd p 6) (gd q 6)) && (true)))))))
theorem eqMove_ev (p q : List D) (N : Nat) : evFn Tryz.prog (find [eqCellSE]) N [0, 1, 2, 3, 4, 9, 14, 19, 24, 29, 34, 40] Tryz.f196 rb [⟨ag rIMove, p⟩, ⟨ag rIMove, q⟩] = some (bo, bif !((gd p 0).int == (gd q 0).int) then ob false else bif !((gd p 1).int == (gd q 1).int) then ob false else bif !((gd p 2).int == (gd q 2).int) then ob false else bif !((gd p 3).int == (gd q 3).int) then ob false else bif !((gd p 4).int == (gd q 4).int) then ob false else bif !((gd p 5).int == (gd q 5).int) then ob false else bif !(eqCellS (gd p 6) (gd q 6)) then ob false else ob true) := by kernel_rfl
def eqMoveE : Ent := (196, e2 (ag rIMove) (ag rIMove) fun p q => (⟨rb, [.b (eqMove p q)]⟩, true))
theorem eqMove_ok : EntOk Tryz.prog eqMoveE := e2_ok fun p q _ => evFn_sound (N := 0) (ks := [0, 1, 2, 3, 4, 9, 14, 19, 24, 29, 34, 40]) (key := bo) (find_ok (List.forall_mem_cons.2 ⟨eqCellS_ok, List.forall_mem_nil _⟩)) (enters Tryz.func196 (by kernel_rfl) (by kernel_rfl)) Tryz.func196 fun _ => by
  rw [eqMove_ev]
  simp only [ne_step]
  rfl
theorem eqMove_refl (p : List D) : eqMove p p = true := by
  simp [eqMove, eqCellS_refl]

def sizeMove (p : List D) : Nat := sizeCellS (gd p 6)
theorem szMove_ev (p q : List D) (N : Nat) : evFn Tryz.prog (find [szCellSE]) N [0, 1, 2, 4, 10] Tryz.f119 ri [⟨ag rLMove, p⟩, ⟨ri, q⟩] = some (bo, nd (fair (gd q 0).int) (bif ltI (left (sizeCellS (gd p 6)) (gd q 0).int) 0 then oi (-1) else oi (left (sizeCellS (gd p 6)) (gd q 0).int))) := by kernel_rfl
def szMoveE : Ent := (119, e2 (ag rLMove) ri fun p q => (⟨ri, [.i (left (sizeMove p) (gd q 0).int)]⟩, fair (gd q 0).int))
theorem szMove_ok : EntOk Tryz.prog szMoveE := e2_ok fun p q h => evFn_sound (N := 0) (ks := [0, 1, 2, 4, 10]) (key := bo) (find_ok (List.forall_mem_cons.2 ⟨szCellS_ok, List.forall_mem_nil _⟩)) (enters Tryz.func119 (by kernel_rfl) (by kernel_rfl)) Tryz.func119 fun _ => by
  have h : fair (gd q 0).int = true := h
  rw [szMove_ev]
  simp only [sz1, szN]
  simp only [h, nd, cond_true]
  rfl

theorem okMove_of {p : List D} {m : Nat} (hm : m ≤ 4294967296) (h : sizeMove p ≤ m) : okMove p = true := by
  unfold sizeMove at h
  simp only [okMove, Bool.and_eq_true]
  exact okCellS_of hm (show sizeCellS (gd p 6) ≤ m from by omega)
def rLAtlas : List S := [si, .sl 252, si, si, si, si, si, si, .sl 308]
def rIAtlas : List S := [si, .sl 97, si, si, si, si, si, si, .sl 176]
def cpAtlas (p : List D) : List D := [gd p 0, cpPartS (gd p 1), gd (cpMove (sub p 2 7)) 0, gd (cpMove (sub p 2 7)) 1, gd (cpMove (sub p 2 7)) 2, gd (cpMove (sub p 2 7)) 3, gd (cpMove (sub p 2 7)) 4, gd (cpMove (sub p 2 7)) 5, gd (cpMove (sub p 2 7)) 6]
def okAtlas (p : List D) : Bool := okPartS (gd p 1) && (okMove (sub p 2 7))
theorem toAtlas_ev (p : List D) (N : Nat) : evFn Tryz.prog (find [toPartSE, toMoveE]) N [0, 1, 2, 3] Tryz.f54 (ag rIAtlas) [⟨ag rLAtlas, p⟩] = some (bo, nd (okPartS (gd p 1)) (nd (okMove (sub p 2 7)) (some (1, cpAtlas p)))) := by kernel_rfl
def toAtlasE : Ent := (54, e1 (ag rLAtlas) fun p => (⟨ag rIAtlas, cpAtlas p⟩, okAtlas p))
theorem toAtlas_ok : EntOk Tryz.prog toAtlasE := e1_ok fun p h => evFn_sound (N := 0) (ks := [0, 1, 2, 3]) (key := bo) (find_ok (List.forall_mem_cons.2 ⟨toPartS_ok, List.forall_mem_cons.2 ⟨toMove_ok, List.forall_mem_nil _⟩⟩)) (enters Tryz.func54 (by kernel_rfl) (by kernel_rfl)) Tryz.func54 fun _ => by
  have h : okAtlas p = true := h
  simp only [okAtlas, Bool.and_eq_true] at h
  rw [toAtlas_ev]
  simp only [nd, h, cond_true]

def eqAtlas (p q : List D) : Bool := ((gd p 0).int == (gd q 0).int) && ((eqPartS (gd p 1) (gd q 1)) && ((eqMove (sub p 2 7) (sub q 2 7)) && (true)))
theorem eqAtlas_ev (p q : List D) (N : Nat) : evFn Tryz.prog (find [eqPartSE, eqMoveE]) N [0, 1, 2, 3, 4, 9, 15, 21] Tryz.f75 rb [⟨ag rIAtlas, p⟩, ⟨ag rIAtlas, q⟩] = some (bo, bif !((gd p 0).int == (gd q 0).int) then ob false else bif !(eqPartS (gd p 1) (gd q 1)) then ob false else bif !(eqMove (sub p 2 7) (sub q 2 7)) then ob false else ob true) := by kernel_rfl
def eqAtlasE : Ent := (75, e2 (ag rIAtlas) (ag rIAtlas) fun p q => (⟨rb, [.b (eqAtlas p q)]⟩, true))
theorem eqAtlas_ok : EntOk Tryz.prog eqAtlasE := e2_ok fun p q _ => evFn_sound (N := 0) (ks := [0, 1, 2, 3, 4, 9, 15, 21]) (key := bo) (find_ok (List.forall_mem_cons.2 ⟨eqPartS_ok, List.forall_mem_cons.2 ⟨eqMove_ok, List.forall_mem_nil _⟩⟩)) (enters Tryz.func75 (by kernel_rfl) (by kernel_rfl)) Tryz.func75 fun _ => by
  rw [eqAtlas_ev]
  simp only [ne_step]
  rfl
theorem eqAtlas_refl (p : List D) : eqAtlas p p = true := by
  simp [eqAtlas, eqPartS_refl, eqMove_refl]

def sizeAtlas (p : List D) : Nat := sizePartS (gd p 1) + (sizeMove (sub p 2 7))
theorem szAtlas_ev (p q : List D) (N : Nat) : evFn Tryz.prog (find [szPartSE, szMoveE]) N [0, 1, 2, 4, 10, 16] Tryz.f40 ri [⟨ag rLAtlas, p⟩, ⟨ri, q⟩] = some (bo, nd (fair (gd q 0).int) (bif ltI (left (sizePartS (gd p 1)) (gd q 0).int) 0 then oi (-1) else nd (fair (left (sizePartS (gd p 1)) (gd q 0).int)) (bif ltI (left (sizeMove (sub p 2 7)) (left (sizePartS (gd p 1)) (gd q 0).int)) 0 then oi (-1) else oi (left (sizeMove (sub p 2 7)) (left (sizePartS (gd p 1)) (gd q 0).int))))) := by kernel_rfl
def szAtlasE : Ent := (40, e2 (ag rLAtlas) ri fun p q => (⟨ri, [.i (left (sizeAtlas p) (gd q 0).int)]⟩, fair (gd q 0).int))
theorem szAtlas_ok : EntOk Tryz.prog szAtlasE := e2_ok fun p q h => evFn_sound (N := 0) (ks := [0, 1, 2, 4, 10, 16]) (key := bo) (find_ok (List.forall_mem_cons.2 ⟨szPartS_ok, List.forall_mem_cons.2 ⟨szMove_ok, List.forall_mem_nil _⟩⟩)) (enters Tryz.func40 (by kernel_rfl) (by kernel_rfl)) Tryz.func40 fun _ => by
  have h : fair (gd q 0).int = true := h
  rw [szAtlas_ev]
  simp only [sz1, szN]
  simp only [h, nd, cond_true]
  rfl

theorem okAtlas_of {p : List D} {m : Nat} (hm : m ≤ 4294967296) (h : sizeAtlas p ≤ m) : okAtlas p = true := by
  unfold sizeAtlas at h
  simp only [okAtlas, Bool.and_eq_true]
  exact ⟨okPartS_of hm (show sizePartS (gd p 1) ≤ m from by omega), okMove_of hm (show sizeMove (sub p 2 7) ≤ m from by omega)⟩
end Go.Proofs.YtchceahcaaibcaaGreat
