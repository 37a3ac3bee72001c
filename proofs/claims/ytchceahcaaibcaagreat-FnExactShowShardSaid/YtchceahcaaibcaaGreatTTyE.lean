import Derived.Test.YtchceahcaaibcaaGreatTTyD
namespace Go.Proofs.YtchceahcaaibcaaGreat
set_option linter.unusedSimpArgs false
set_option linter.unusedVariables false
set_option maxRecDepth 4096
def rLLetter : List S := [si, si, si, si, si, si, si, si, si, .bool, .sl 310, .sl 315, .sl 308, .sl 306]
def rILetter : List S := [si, si, si, si, si, si, si, si, si, .bool, .sl 122, .sl 132, .sl 176, .sl 118]
def cpLetter (p : List D) : List D := [gd p 0, gd p 1, gd p 2, gd p 3, gd p 4, gd p 5, gd p 6, gd p 7, gd p 8, gd p 9, cpRangeS (gd p 10), cpWriteS (gd p 11), cpCellS (gd p 12), cpShareS (gd p 13)]
def okLetter (p : List D) : Bool := okRangeS (gd p 10) && (okWriteS (gd p 11) && (okCellS (gd p 12) && (okShareS (gd p 13))))
theorem toLetter_ev (p : List D) (N : Nat) : evFn Tryz.prog (find [toRangeSE, toWriteSE, toCellSE, toShareSE]) N [0, 1, 2, 3] Tryz.f153 (ag rILetter) [⟨ag rLLetter, p⟩] = some (bo, nd (okRangeS (gd p 10)) (nd (okWriteS (gd p 11)) (nd (okCellS (gd p 12)) (nd (okShareS (gd p 13)) (some (1, cpLetter p)))))) := by kernel_rfl
def toLetterE : Ent := (153, e1 (ag rLLetter) fun p => (⟨ag rILetter, cpLetter p⟩, okLetter p))
theorem toLetter_ok : EntOk Tryz.prog toLetterE := e1_ok fun p h => evFn_sound (N := 0) (ks := [0, 1, 2, 3]) (key := bo) (find_ok (List.forall_mem_cons.2 ⟨toRangeS_ok, List.forall_mem_cons.2 ⟨toWriteS_ok, List.forall_mem_cons.2 ⟨toCellS_ok, List.forall_mem_cons.2 ⟨toShareS_ok, List.forall_mem_nil _⟩⟩⟩⟩)) (enters Tryz.func153 (by kernel_rfl) (by kernel_rfl)) Tryz.func153 fun _ => by
  have h : okLetter p = true := h
  simp only [okLetter, Bool.and_eq_true] at h
  rw [toLetter_ev]
  simp only [nd, h, cond_true]

def eqLetter (p q : List D) : Bool := ((gd p 0).int == (gd q 0).int) && (((gd p 1).int == (gd q 1).int) && (((gd p 2).int == (gd q 2).int) && (((gd p 3).int == (gd q 3).int) && (((gd p 4).int == (gd q 4).int) && (((gd p 5).int == (gd q 5).int) && (((gd p 6).int == (gd q 6).int) && (((gd p 7).int == (gd q 7).int) && (((gd p 8).int == (gd q 8).int) && (((gd p 9).bool == (gd q 9).bool) && ((eqRangeS (gd p 10) (gd q 10)) && ((eqWriteS (gd p 11) (gd q 11)) && ((eqCellS (gd p 12) (gd q 12)) && ((eqShareS (gd p 13) (gd q 13)) && (true))))))))))))))
theorem eqLetter_ev (p q : List D) (N : Nat) : evFn Tryz.prog (find [eqRangeSE, eqWriteSE, eqCellSE, eqShareSE]) N [0, 1, 2, 3, 4, 9, 14, 19, 24, 29, 34, 39, 44, 49, 54, 60, 66, 72, 78] Tryz.f200 rb [⟨ag rILetter, p⟩, ⟨ag rILetter, q⟩] = some (bo, bif !((gd p 0).int == (gd q 0).int) then ob false else bif !((gd p 1).int == (gd q 1).int) then ob false else bif !((gd p 2).int == (gd q 2).int) then ob false else bif !((gd p 3).int == (gd q 3).int) then ob false else bif !((gd p 4).int == (gd q 4).int) then ob false else bif !((gd p 5).int == (gd q 5).int) then ob false else bif !((gd p 6).int == (gd q 6).int) then ob false else bif !((gd p 7).int == (gd q 7).int) then ob false else bif !((gd p 8).int == (gd q 8).int) then ob false else bif !((gd p 9).bool == (gd q 9).bool) then ob false else bif !(eqRangeS (gd p 10) (gd q 10)) then ob false else bif !(eqWriteS (gd p 11) (gd q 11)) then ob false else bif !(eqCellS (gd p 12) (gd q 12)) then ob false else bif !(eqShareS (gd p 13) (gd q 13)) then ob false else ob true) := by kernel_rfl
def eqLetterE : Ent := (200, e2 (ag rILetter) (ag rILetter) fun p q => (⟨rb, [.b (eqLetter p q)]⟩, true))
theorem eqLetter_ok : EntOk Tryz.prog eqLetterE := e2_ok fun p q _ => evFn_sound (N := 0) (ks := [0, 1, 2, 3, 4, 9, 14, 19, 24, 29, 34, 39, 44, 49, 54, 60, 66, 72, 78]) (key := bo) (find_ok (List.forall_mem_cons.2 ⟨eqRangeS_ok, List.forall_mem_cons.2 ⟨eqWriteS_ok, List.forall_mem_cons.2 ⟨eqCellS_ok, List.forall_mem_cons.2 ⟨eqShareS_ok, List.forall_mem_nil _⟩⟩⟩⟩)) (enters Tryz.func200 (by kernel_rfl) (by kernel_rfl)) Tryz.func200 fun _ => by
  rw [eqLetter_ev]
  simp only [ne_step]
  rfl
theorem eqLetter_refl (p : List D) : eqLetter p p = true := by
  simp [eqLetter, eqRangeS_refl, eqWriteS_refl, eqCellS_refl, eqShareS_refl]

def sizeLetter (p : List D) : Nat := sizeRangeS (gd p 10) + (sizeWriteS (gd p 11) + (sizeCellS (gd p 12) + (sizeShareS (gd p 13))))
theorem szLetter_ev (p q : List D) (N : Nat) : evFn Tryz.prog (find [szRangeSE, szWriteSE, szCellSE, szShareSE]) N [0, 1, 2, 4, 10, 16, 22, 28] Tryz.f124 ri [⟨ag rLLetter, p⟩, ⟨ri, q⟩] = some (bo, nd (fair (gd q 0).int) (bif ltI (left (sizeRangeS (gd p 10)) (gd q 0).int) 0 then oi (-1) else nd (fair (left (sizeRangeS (gd p 10)) (gd q 0).int)) (bif ltI (left (sizeWriteS (gd p 11)) (left (sizeRangeS (gd p 10)) (gd q 0).int)) 0 then oi (-1) else nd (fair (left (sizeWriteS (gd p 11)) (left (sizeRangeS (gd p 10)) (gd q 0).int))) (bif ltI (left (sizeCellS (gd p 12)) (left (sizeWriteS (gd p 11)) (left (sizeRangeS (gd p 10)) (gd q 0).int))) 0 then oi (-1) else nd (fair (left (sizeCellS (gd p 12)) (left (sizeWriteS (gd p 11)) (left (sizeRangeS (gd p 10)) (gd q 0).int)))) (bif ltI (left (sizeShareS (gd p 13)) (left (sizeCellS (gd p 12)) (left (sizeWriteS (gd p 11)) (left (sizeRangeS (gd p 10)) (gd q 0).int)))) 0 then oi (-1) else oi (left (sizeShareS (gd p 13)) (left (sizeCellS (gd p 12)) (left (sizeWriteS (gd p 11)) (left (sizeRangeS (gd p 10)) (gd q 0).int))))))))) := by kernel_rfl
def szLetterE : Ent := (124, e2 (ag rLLetter) ri fun p q => (⟨ri, [.i (left (sizeLetter p) (gd q 0).int)]⟩, fair (gd q 0).int))
theorem szLetter_ok : EntOk Tryz.prog szLetterE := e2_ok fun p q h => evFn_sound (N := 0) (ks := [0, 1, 2, 4, 10, 16, 22, 28]) (key := bo) (find_ok (List.forall_mem_cons.2 ⟨szRangeS_ok, List.forall_mem_cons.2 ⟨szWriteS_ok, List.forall_mem_cons.2 ⟨szCellS_ok, List.forall_mem_cons.2 ⟨szShareS_ok, List.forall_mem_nil _⟩⟩⟩⟩)) (enters Tryz.func124 (by kernel_rfl) (by kernel_rfl)) Tryz.func124 fun _ => by
  have h : fair (gd q 0).int = true := h
  rw [szLetter_ev]
  simp only [sz1, szN]
  simp only [h, nd, cond_true]
  rfl

theorem okLetter_of {p : List D} {m : Nat} (hm : m ≤ 4294967296) (h : sizeLetter p ≤ m) : okLetter p = true := by
  unfold sizeLetter at h
  simp only [okLetter, Bool.and_eq_true]
  exact ⟨okRangeS_of hm (show sizeRangeS (gd p 10) ≤ m from by omega), okWriteS_of hm (show sizeWriteS (gd p 11) ≤ m from by omega), okCellS_of hm (show sizeCellS (gd p 12) ≤ m from by omega), okShareS_of hm (show sizeShareS (gd p 13) ≤ m from by omega)⟩
def cpLetterS (z : D) : D := .l (z.rows.map fun r => cpLetter (sub r 0 14))
def okLetterS (z : D) : Bool := decide (z.rows.length ≤ 4294967296) && z.rows.all fun r => okLetter (sub r 0 14)
noncomputable def toLetterSL (N : Nat) (p : List D) : List D → Out := loopOf Tryz.prog (find [toLetterE]) N [0, 2, 3, 4, 11] Tryz.f58 (sd (.sl 85)) [⟨sd (.sl 164), p⟩] 0
theorem toLetterS_rd (p : List D) (N : Nat) (z x2 : D) (rows : List (List D)) (k : Int) : toLetterSL N p [z, x2, .l rows, .i k] = bif decide (k < z.rows.length) then nd (inRange k z.rows.length) (nd (okLetter (sub (z.rows.getD k.toNat []) 0 14)) (nd (inRange k rows.length) (nx [z, x2, .l (rows.set k.toNat (cpLetter (sub (z.rows.getD k.toNat []) 0 14))), .i (w64 (k + 1))]))) else ex 0 [z, x2, .l rows, .i k] := by kernel_rfl
theorem toLetterS_ev (p : List D) (N : Nat) : evFn Tryz.prog (find [toLetterE]) N [0, 2, 3, 4, 11] Tryz.f58 (sd (.sl 85)) [⟨sd (.sl 164), p⟩] = some (bo, nd (decide (0 ≤ ((gd p 0).rows.length : Int)) && decide (((gd p 0).rows.length : Int) = ((gd p 0).rows.length : Int)) && decide (((gd p 0).rows.length : Int) ≤ 4294967296) && true && true)
    (let o := iter (toLetterSL N p) N [gd p 0, .l [], .l (List.replicate (gd p 0).rows.length [.i 0, .i 0, .i 0, .i 0, .i 0, .i 0, .i 0, .i 0, .i 0, .b false, .l [], .l [], .l [], .l []]), .i 0]
     nd o.isSome (nd (o.code == 2) (some (1, [gd o.pay 2]))))) := by kernel_rfl
def toLetterSE : Ent := (58, e1 (sd (.sl 164)) fun p => (⟨sd (.sl 85), [cpLetterS (gd p 0)]⟩, okLetterS (gd p 0)))
theorem toLetterS_ok : EntOk Tryz.prog toLetterSE := e1_ok fun p h => evFn_sound (N := (gd p 0).rows.length + 1) (ks := [0, 2, 3, 4, 11]) (key := bo) (find_ok (List.forall_mem_cons.2 ⟨toLetter_ok, List.forall_mem_nil _⟩)) (enters Tryz.func58 (by kernel_rfl) (by kernel_rfl)) Tryz.func58 fun hw => by
  have h : okLetterS (gd p 0) = true := h
  simp only [okLetterS, Bool.and_eq_true, decide_eq_true_eq, List.all_eq_true] at h
  rw [toLetterS_ev, fill_loop (ok := fun r => okLetter (sub r 0 14)) (f := fun r => cpLetter (sub r 0 14)) [.i 0, .i 0, .i 0, .i 0, .i 0, .i 0, .i 0, .i 0, .i 0, .b false, .l [], .l [], .l [], .l []] (wt_sl (hw ⟨sd (.sl 164), p⟩ (by simp))) h.2 (toLetterS_rd p _ _ _) (by omega)]
  rw [show decide (((gd p 0).rows.length : Int) ≤ 4294967296) = true from decide_eq_true (by omega), show decide (0 ≤ ((gd p 0).rows.length : Int)) = true from decide_eq_true (by omega), decide_eq_true (rfl : ((gd p 0).rows.length : Int) = _)]
  rfl

def eqLetterS : D → D → Bool := alikeS (fun r s => eqLetter (sub r 0 14) (sub s 0 14))
noncomputable def eqLetterSL (N : Nat) (p q : List D) : List D → Out := loopOf Tryz.prog (find [eqLetterE]) N [0, 1, 4, 5, 10, 14, 26] Tryz.f79 rb [⟨sd (.sl 85), p⟩, ⟨sd (.sl 85), q⟩] 0
theorem eqLetterS_rd (p q : List D) (N : Nat) (z u x y : D) (k : Int) : eqLetterSL N p q [z, u, x, y, .i k] = bif decide (k < z.rows.length) then nd (inRange k z.rows.length) (nd (inRange k u.rows.length) (bif !(eqLetter (sub (z.rows.getD k.toNat []) 0 14) (sub (u.rows.getD k.toNat []) 0 14)) then ob false else nx [z, u, x, y, .i (w64 (k + 1))])) else ex 0 [z, u, x, y, .i k] := by kernel_rfl
theorem eqLetterS_ev (p q : List D) (N : Nat) : evFn Tryz.prog (find [eqLetterE]) N [0, 1, 4, 5, 10, 14, 26] Tryz.f79 rb [⟨sd (.sl 85), p⟩, ⟨sd (.sl 85), q⟩] = some (bo, bif !(((gd p 0).rows.length : Int) == (gd q 0).rows.length) then ob false else
    (let o := iter (eqLetterSL N p q) N [gd p 0, gd q 0, D0, .b (!(((gd p 0).rows.length : Int) == (gd q 0).rows.length)), .i 0]
     nd o.isSome (bif o.code == 1 then some (1, o.pay) else nd (o.code == 2) (ob true)))) := by kernel_rfl
def eqLetterSE : Ent := (79, e2 (sd (.sl 85)) (sd (.sl 85)) fun p q => (⟨rb, [.b (eqLetterS (gd p 0) (gd q 0))]⟩, true))
theorem eqLetterS_ok : EntOk Tryz.prog eqLetterSE := e2_ok fun p q _ => evFn_sound (N := (gd p 0).rows.length + 1) (ks := [0, 1, 4, 5, 10, 14, 26]) (key := bo) (find_ok (List.forall_mem_cons.2 ⟨eqLetter_ok, List.forall_mem_nil _⟩)) (enters Tryz.func79 (by kernel_rfl) (by kernel_rfl)) Tryz.func79 fun hw => by
  rw [eqLetterS_ev]
  by_cases hl : (gd p 0).rows.length = (gd q 0).rows.length
  · rw [like_loop (E := (fun r s => eqLetter (sub r 0 14) (sub s 0 14))) (wt_sl (hw ⟨sd (.sl 85), p⟩ (by simp))) hl (eqLetterS_rd p q _ _ _ _ _) (by omega)]
    rw [show ((((gd p 0).rows.length : Int)) == (gd q 0).rows.length) = true from beq_iff_eq.2 (by omega)]
    show some (bo, _) = some (bo, some (1, [D.b (alikeS (fun r s => eqLetter (sub r 0 14) (sub s 0 14)) (gd p 0) (gd q 0))]))
    cases alikeS (fun r s => eqLetter (sub r 0 14) (sub s 0 14)) (gd p 0) (gd q 0) <;> rfl
  · rw [show ((((gd p 0).rows.length : Int)) == (gd q 0).rows.length) = false from beq_eq_false_iff_ne.2 (by omega)]
    show some (bo, _) = some (bo, some (1, [D.b (alikeS (fun r s => eqLetter (sub r 0 14) (sub s 0 14)) (gd p 0) (gd q 0))]))
    rw [show alikeS (fun r s => eqLetter (sub r 0 14) (sub s 0 14)) (gd p 0) (gd q 0) = false from by simp [alikeS, hl]]
    rfl
theorem eqLetterS_refl (z : D) : eqLetterS z z = true := alikeS_refl (fun r => by exact eqLetter_refl _) z

def sizeLetterS (z : D) : Nat := z.rows.length + total (fun r => sizeLetter (sub r 0 14)) z.rows
noncomputable def szLetterSL (N : Nat) (p q : List D) : List D → Out := loopOf Tryz.prog (find [szLetterE]) N [0, 1, 4, 5, 11, 15, 25] Tryz.f44 ri [⟨sd (.sl 164), p⟩, ⟨ri, q⟩] 0
theorem szLetterS_rd (p q : List D) (N : Nat) (z x y : D) (n k : Int) : szLetterSL N p q [z, .i n, x, y, .i k] = bif decide (k < z.rows.length) then nd (inRange k z.rows.length) (nd (fair n) (bif decide (left (sizeLetter (sub (z.rows.getD k.toNat []) 0 14)) n < 0) then oi (-1) else nx [z, .i (left (sizeLetter (sub (z.rows.getD k.toNat []) 0 14)) n), x, y, .i (w64 (k + 1))])) else ex 0 [z, .i n, x, y, .i k] := by kernel_rfl
theorem szLetterS_ev (p q : List D) (N : Nat) : evFn Tryz.prog (find [szLetterE]) N [0, 1, 4, 5, 11, 15, 25] Tryz.f44 ri [⟨sd (.sl 164), p⟩, ⟨ri, q⟩] = some (bo, bif decide (w64 ((gd q 0).int - (gd p 0).rows.length) < 0) then oi (-1) else
    (let o := iter (szLetterSL N p q) N [gd p 0, .i (w64 ((gd q 0).int - (gd p 0).rows.length)), .i 0, .b (decide (w64 ((gd q 0).int - (gd p 0).rows.length) < 0)), .i 0]
     nd o.isSome (bif o.code == 1 then some (1, o.pay) else nd (o.code == 2) (some (1, [gd o.pay 1]))))) := by kernel_rfl
def szLetterSE : Ent := (44, e2 (sd (.sl 164)) ri fun p q => (⟨ri, [.i (left (sizeLetterS (gd p 0)) (gd q 0).int)]⟩, fair (gd q 0).int))
theorem szLetterS_ok : EntOk Tryz.prog szLetterSE := e2_ok fun p q h => evFn_sound (N := (gd p 0).rows.length + 1) (ks := [0, 1, 4, 5, 11, 15, 25]) (key := bo) (find_ok (List.forall_mem_cons.2 ⟨szLetter_ok, List.forall_mem_nil _⟩)) (enters Tryz.func44 (by kernel_rfl) (by kernel_rfl)) Tryz.func44 fun hw => by
  have h : fair (gd q 0).int = true := h
  have hl := wt_sl (hw ⟨sd (.sl 164), p⟩ (by simp))
  have h2 : 0 ≤ (gd q 0).int ∧ (gd q 0).int ≤ 1048576 := by simpa [fair] using h
  rw [szLetterS_ev, w64_id (by omega) (by omega)]
  by_cases hn : (gd q 0).int - ((gd p 0).rows.length : Int) < 0
  · rw [decide_eq_true hn, cond_true]
    have e : left (sizeLetterS (gd p 0)) (gd q 0).int = -1 := if_neg (by simp only [sizeLetterS]; push_cast; omega)
    rw [e]
  · rw [decide_eq_false hn, cond_false]
    have := size_loop (size := fun r => sizeLetter (sub r 0 14)) hl (szLetterS_rd p q ((gd p 0).rows.length + 1) (gd p 0) (.i 0) (.b false)) (gd p 0).rows.length 0 ((gd p 0).rows.length + 1) ((gd q 0).int - ((gd p 0).rows.length : Int)) (by omega) (by omega) (by omega) (by omega)
    simp only [Int.natCast_zero, List.drop_zero] at this
    rw [this]
    by_cases hq : (total (fun r => sizeLetter (sub r 0 14)) (gd p 0).rows : Int) ≤ (gd q 0).int - ((gd p 0).rows.length : Int)
    · have e : left (sizeLetterS (gd p 0)) (gd q 0).int = (gd q 0).int - ((gd p 0).rows.length : Int) - (total (fun r => sizeLetter (sub r 0 14)) (gd p 0).rows : Int) := by
        rw [left, if_pos (by simp only [sizeLetterS]; push_cast; omega)]
        simp only [sizeLetterS]; push_cast; omega
      rw [if_pos hq, e]
      rfl
    · have e : left (sizeLetterS (gd p 0)) (gd q 0).int = -1 := if_neg (by simp only [sizeLetterS]; push_cast; omega)
      rw [if_neg hq, e]
      rfl

theorem okLetterS_of {z : D} {m : Nat} (hm : m ≤ 4294967296) (h : sizeLetterS z ≤ m) : okLetterS z = true := okS (ok := fun r => okLetter (sub r 0 14)) (size := fun r => sizeLetter (sub r 0 14)) hm h fun _ h => okLetter_of hm h

end Go.Proofs.YtchceahcaaibcaaGreat
