import Derived.Test.YtchceahcaaibcaaGreatTTyB
namespace Go.Proofs.YtchceahcaaibcaaGreat
set_option linter.unusedSimpArgs false
set_option linter.unusedVariables false
set_option maxRecDepth 4096
def rLShard : List S := [si, .sl 310, .sl 310, .sl 308, .sl 312, .sl 303, .sl 3, .sl 3, si]
def rIShard : List S := [si, .sl 122, .sl 122, .sl 176, .sl 138, .sl 248, .sl 3, .sl 3, si]
def cpShard (p : List D) : List D := [gd p 0, cpRangeS (gd p 1), cpRangeS (gd p 2), cpCellS (gd p 3), cpLockS (gd p 4), cpHeldS (gd p 5), cpIntS (gd p 6), cpIntS (gd p 7), gd p 8]
def okShard (p : List D) : Bool := okRangeS (gd p 1) && (okRangeS (gd p 2) && (okCellS (gd p 3) && (okLockS (gd p 4) && (okHeldS (gd p 5) && (okIntS (gd p 6) && (okIntS (gd p 7)))))))
theorem toShard_ev (p : List D) (N : Nat) : evFn Tryz.prog (find [toRangeSE, toRangeSE, toCellSE, toLockSE, toHeldSE, toIntSE, toIntSE]) N [0, 1, 2, 3] Tryz.f149 (ag rIShard) [⟨ag rLShard, p⟩] = some (bo, nd (okRangeS (gd p 1)) (nd (okRangeS (gd p 2)) (nd (okCellS (gd p 3)) (nd (okLockS (gd p 4)) (nd (okHeldS (gd p 5)) (nd (okIntS (gd p 6)) (nd (okIntS (gd p 7)) (some (1, cpShard p))))))))) := by kernel_rfl
def toShardE : Ent := (149, e1 (ag rLShard) fun p => (⟨ag rIShard, cpShard p⟩, okShard p))
theorem toShard_ok : EntOk Tryz.prog toShardE := e1_ok fun p h => evFn_sound (N := 0) (ks := [0, 1, 2, 3]) (key := bo) (find_ok (List.forall_mem_cons.2 ⟨toRangeS_ok, List.forall_mem_cons.2 ⟨toRangeS_ok, List.forall_mem_cons.2 ⟨toCellS_ok, List.forall_mem_cons.2 ⟨toLockS_ok, List.forall_mem_cons.2 ⟨toHeldS_ok, List.forall_mem_cons.2 ⟨toIntS_ok, List.forall_mem_cons.2 ⟨toIntS_ok, List.forall_mem_nil _⟩⟩⟩⟩⟩⟩⟩)) (enters Tryz.func149 (by kernel_rfl) (by kernel_rfl)) Tryz.func149 fun _ => by
  have h : okShard p = true := h
  simp only [okShard, Bool.and_eq_true] at h
  rw [toShard_ev]
  simp only [nd, h, cond_true]

def eqShard (p q : List D) : Bool := ((gd p 0).int == (gd q 0).int) && ((eqRangeS (gd p 1) (gd q 1)) && ((eqRangeS (gd p 2) (gd q 2)) && ((eqCellS (gd p 3) (gd q 3)) && ((eqLockS (gd p 4) (gd q 4)) && ((eqHeldS (gd p 5) (gd q 5)) && ((eqIntS (gd p 6) (gd q 6)) && ((eqIntS (gd p 7) (gd q 7)) && (((gd p 8).int == (gd q 8).int) && (true)))))))))
theorem eqShard_ev (p q : List D) (N : Nat) : evFn Tryz.prog (find [eqRangeSE, eqRangeSE, eqCellSE, eqLockSE, eqHeldSE, eqIntSE, eqIntSE]) N [0, 1, 2, 3, 4, 9, 15, 21, 27, 33, 39, 45, 51, 56] Tryz.f197 rb [⟨ag rIShard, p⟩, ⟨ag rIShard, q⟩] = some (bo, bif !((gd p 0).int == (gd q 0).int) then ob false else bif !(eqRangeS (gd p 1) (gd q 1)) then ob false else bif !(eqRangeS (gd p 2) (gd q 2)) then ob false else bif !(eqCellS (gd p 3) (gd q 3)) then ob false else bif !(eqLockS (gd p 4) (gd q 4)) then ob false else bif !(eqHeldS (gd p 5) (gd q 5)) then ob false else bif !(eqIntS (gd p 6) (gd q 6)) then ob false else bif !(eqIntS (gd p 7) (gd q 7)) then ob false else bif !((gd p 8).int == (gd q 8).int) then ob false else ob true) := by kernel_rfl
def eqShardE : Ent := (197, e2 (ag rIShard) (ag rIShard) fun p q => (⟨rb, [.b (eqShard p q)]⟩, true))
theorem eqShard_ok : EntOk Tryz.prog eqShardE := e2_ok fun p q _ => evFn_sound (N := 0) (ks := [0, 1, 2, 3, 4, 9, 15, 21, 27, 33, 39, 45, 51, 56]) (key := bo) (find_ok (List.forall_mem_cons.2 ⟨eqRangeS_ok, List.forall_mem_cons.2 ⟨eqRangeS_ok, List.forall_mem_cons.2 ⟨eqCellS_ok, List.forall_mem_cons.2 ⟨eqLockS_ok, List.forall_mem_cons.2 ⟨eqHeldS_ok, List.forall_mem_cons.2 ⟨eqIntS_ok, List.forall_mem_cons.2 ⟨eqIntS_ok, List.forall_mem_nil _⟩⟩⟩⟩⟩⟩⟩)) (enters Tryz.func197 (by kernel_rfl) (by kernel_rfl)) Tryz.func197 fun _ => by
  rw [eqShard_ev]
  simp only [ne_step]
  rfl
theorem eqShard_refl (p : List D) : eqShard p p = true := by
  simp [eqShard, eqRangeS_refl, eqRangeS_refl, eqCellS_refl, eqLockS_refl, eqHeldS_refl, eqIntS_refl, eqIntS_refl]

def sizeShard (p : List D) : Nat := sizeRangeS (gd p 1) + (sizeRangeS (gd p 2) + (sizeCellS (gd p 3) + (sizeLockS (gd p 4) + (sizeHeldS (gd p 5) + (sizeIntS (gd p 6) + (sizeIntS (gd p 7)))))))
theorem szShard_ev (p q : List D) (N : Nat) : evFn Tryz.prog (find [szRangeSE, szRangeSE, szCellSE, szLockSE, szHeldSE, szIntSE, szIntSE]) N [0, 1, 2, 4, 10, 16, 22, 28, 34, 40, 46] Tryz.f120 ri [⟨ag rLShard, p⟩, ⟨ri, q⟩] = some (bo, nd (fair (gd q 0).int) (bif ltI (left (sizeRangeS (gd p 1)) (gd q 0).int) 0 then oi (-1) else nd (fair (left (sizeRangeS (gd p 1)) (gd q 0).int)) (bif ltI (left (sizeRangeS (gd p 2)) (left (sizeRangeS (gd p 1)) (gd q 0).int)) 0 then oi (-1) else nd (fair (left (sizeRangeS (gd p 2)) (left (sizeRangeS (gd p 1)) (gd q 0).int))) (bif ltI (left (sizeCellS (gd p 3)) (left (sizeRangeS (gd p 2)) (left (sizeRangeS (gd p 1)) (gd q 0).int))) 0 then oi (-1) else nd (fair (left (sizeCellS (gd p 3)) (left (sizeRangeS (gd p 2)) (left (sizeRangeS (gd p 1)) (gd q 0).int)))) (bif ltI (left (sizeLockS (gd p 4)) (left (sizeCellS (gd p 3)) (left (sizeRangeS (gd p 2)) (left (sizeRangeS (gd p 1)) (gd q 0).int)))) 0 then oi (-1) else nd (fair (left (sizeLockS (gd p 4)) (left (sizeCellS (gd p 3)) (left (sizeRangeS (gd p 2)) (left (sizeRangeS (gd p 1)) (gd q 0).int))))) (bif ltI (left (sizeHeldS (gd p 5)) (left (sizeLockS (gd p 4)) (left (sizeCellS (gd p 3)) (left (sizeRangeS (gd p 2)) (left (sizeRangeS (gd p 1)) (gd q 0).int))))) 0 then oi (-1) else nd (fair (left (sizeHeldS (gd p 5)) (left (sizeLockS (gd p 4)) (left (sizeCellS (gd p 3)) (left (sizeRangeS (gd p 2)) (left (sizeRangeS (gd p 1)) (gd q 0).int)))))) (bif ltI (left (sizeIntS (gd p 6)) (left (sizeHeldS (gd p 5)) (left (sizeLockS (gd p 4)) (left (sizeCellS (gd p 3)) (left (sizeRangeS (gd p 2)) (left (sizeRangeS (gd p 1)) (gd q 0).int)))))) 0 then oi (-1) else nd (fair (left (sizeIntS (gd p 6)) (left (sizeHeldS (gd p 5)) (left (sizeLockS (gd p 4)) (left (sizeCellS (gd p 3)) (left (sizeRangeS (gd p 2)) (left (sizeRangeS (gd p 1)) (gd q 0).int))))))) (bif ltI (left (sizeIntS (gd p 7)) (left (sizeIntS (gd p 6)) (left (sizeHeldS (gd p 5)) (left (sizeLockS (gd p 4)) (left (sizeCellS (gd p 3)) (left (sizeRangeS (gd p 2)) (left (sizeRangeS (gd p 1)) (gd q 0).int))))))) 0 then oi (-1) else oi (left (sizeIntS (gd p 7)) (left (sizeIntS (gd p 6)) (left (sizeHeldS (gd p 5)) (left (sizeLockS (gd p 4)) (left (sizeCellS (gd p 3)) (left (sizeRangeS (gd p 2)) (left (sizeRangeS (gd p 1)) (gd q 0).int))))))))))))))) := by kernel_rfl
def szShardE : Ent := (120, e2 (ag rLShard) ri fun p q => (⟨ri, [.i (left (sizeShard p) (gd q 0).int)]⟩, fair (gd q 0).int))
theorem szShard_ok : EntOk Tryz.prog szShardE := e2_ok fun p q h => evFn_sound (N := 0) (ks := [0, 1, 2, 4, 10, 16, 22, 28, 34, 40, 46]) (key := bo) (find_ok (List.forall_mem_cons.2 ⟨szRangeS_ok, List.forall_mem_cons.2 ⟨szRangeS_ok, List.forall_mem_cons.2 ⟨szCellS_ok, List.forall_mem_cons.2 ⟨szLockS_ok, List.forall_mem_cons.2 ⟨szHeldS_ok, List.forall_mem_cons.2 ⟨szIntS_ok, List.forall_mem_cons.2 ⟨szIntS_ok, List.forall_mem_nil _⟩⟩⟩⟩⟩⟩⟩)) (enters Tryz.func120 (by kernel_rfl) (by kernel_rfl)) Tryz.func120 fun _ => by
  have h : fair (gd q 0).int = true := h
  rw [szShard_ev]
  simp only [sz1, szN]
  simp only [h, nd, cond_true]
  rfl

theorem okShard_of {p : List D} {m : Nat} (hm : m ≤ 4294967296) (h : sizeShard p ≤ m) : okShard p = true := by
  unfold sizeShard at h
  simp only [okShard, Bool.and_eq_true]
  exact ⟨okRangeS_of hm (show sizeRangeS (gd p 1) ≤ m from by omega), okRangeS_of hm (show sizeRangeS (gd p 2) ≤ m from by omega), okCellS_of hm (show sizeCellS (gd p 3) ≤ m from by omega), okLockS_of hm (show sizeLockS (gd p 4) ≤ m from by omega), okHeldS_of hm (show sizeHeldS (gd p 5) ≤ m from by omega), okIntS_of hm (show sizeIntS (gd p 6) ≤ m from by omega), okIntS_of hm (show sizeIntS (gd p 7) ≤ m from by omega)⟩
def cpShardS (z : D) : D := .l (z.rows.map fun r => cpShard (sub r 0 9))
def okShardS (z : D) : Bool := decide (z.rows.length ≤ 4294967296) && z.rows.all fun r => okShard (sub r 0 9)
noncomputable def toShardSL (N : Nat) (p : List D) : List D → Out := loopOf Tryz.prog (find [toShardE]) N [0, 2, 3, 4, 11] Tryz.f55 (sd (.sl 80)) [⟨sd (.sl 154), p⟩] 0
theorem toShardS_rd (p : List D) (N : Nat) (z x2 : D) (rows : List (List D)) (k : Int) : toShardSL N p [z, x2, .l rows, .i k] = bif decide (k < z.rows.length) then nd (inRange k z.rows.length) (nd (okShard (sub (z.rows.getD k.toNat []) 0 9)) (nd (inRange k rows.length) (nx [z, x2, .l (rows.set k.toNat (cpShard (sub (z.rows.getD k.toNat []) 0 9))), .i (w64 (k + 1))]))) else ex 0 [z, x2, .l rows, .i k] := by kernel_rfl
theorem toShardS_ev (p : List D) (N : Nat) : evFn Tryz.prog (find [toShardE]) N [0, 2, 3, 4, 11] Tryz.f55 (sd (.sl 80)) [⟨sd (.sl 154), p⟩] = some (bo, nd (decide (0 ≤ ((gd p 0).rows.length : Int)) && decide (((gd p 0).rows.length : Int) = ((gd p 0).rows.length : Int)) && decide (((gd p 0).rows.length : Int) ≤ 4294967296) && true && true)
    (let o := iter (toShardSL N p) N [gd p 0, .l [], .l (List.replicate (gd p 0).rows.length [.i 0, .l [], .l [], .l [], .l [], .l [], .l [], .l [], .i 0]), .i 0]
     nd o.isSome (nd (o.code == 2) (some (1, [gd o.pay 2]))))) := by kernel_rfl
def toShardSE : Ent := (55, e1 (sd (.sl 154)) fun p => (⟨sd (.sl 80), [cpShardS (gd p 0)]⟩, okShardS (gd p 0)))
theorem toShardS_ok : EntOk Tryz.prog toShardSE := e1_ok fun p h => evFn_sound (N := (gd p 0).rows.length + 1) (ks := [0, 2, 3, 4, 11]) (key := bo) (find_ok (List.forall_mem_cons.2 ⟨toShard_ok, List.forall_mem_nil _⟩)) (enters Tryz.func55 (by kernel_rfl) (by kernel_rfl)) Tryz.func55 fun hw => by
  have h : okShardS (gd p 0) = true := h
  simp only [okShardS, Bool.and_eq_true, decide_eq_true_eq, List.all_eq_true] at h
  rw [toShardS_ev, fill_loop (ok := fun r => okShard (sub r 0 9)) (f := fun r => cpShard (sub r 0 9)) [.i 0, .l [], .l [], .l [], .l [], .l [], .l [], .l [], .i 0] (wt_sl (hw ⟨sd (.sl 154), p⟩ (by simp))) h.2 (toShardS_rd p _ _ _) (by omega)]
  rw [show decide (((gd p 0).rows.length : Int) ≤ 4294967296) = true from decide_eq_true (by omega), show decide (0 ≤ ((gd p 0).rows.length : Int)) = true from decide_eq_true (by omega), decide_eq_true (rfl : ((gd p 0).rows.length : Int) = _)]
  rfl

def eqShardS : D → D → Bool := alikeS (fun r s => eqShard (sub r 0 9) (sub s 0 9))
noncomputable def eqShardSL (N : Nat) (p q : List D) : List D → Out := loopOf Tryz.prog (find [eqShardE]) N [0, 1, 4, 5, 10, 14, 26] Tryz.f76 rb [⟨sd (.sl 80), p⟩, ⟨sd (.sl 80), q⟩] 0
theorem eqShardS_rd (p q : List D) (N : Nat) (z u x y : D) (k : Int) : eqShardSL N p q [z, u, x, y, .i k] = bif decide (k < z.rows.length) then nd (inRange k z.rows.length) (nd (inRange k u.rows.length) (bif !(eqShard (sub (z.rows.getD k.toNat []) 0 9) (sub (u.rows.getD k.toNat []) 0 9)) then ob false else nx [z, u, x, y, .i (w64 (k + 1))])) else ex 0 [z, u, x, y, .i k] := by kernel_rfl
theorem eqShardS_ev (p q : List D) (N : Nat) : evFn Tryz.prog (find [eqShardE]) N [0, 1, 4, 5, 10, 14, 26] Tryz.f76 rb [⟨sd (.sl 80), p⟩, ⟨sd (.sl 80), q⟩] = some (bo, bif !(((gd p 0).rows.length : Int) == (gd q 0).rows.length) then ob false else
    (let o := iter (eqShardSL N p q) N [gd p 0, gd q 0, D0, .b (!(((gd p 0).rows.length : Int) == (gd q 0).rows.length)), .i 0]
     nd o.isSome (bif o.code == 1 then some (1, o.pay) else nd (o.code == 2) (ob true)))) := by kernel_rfl
def eqShardSE : Ent := (76, e2 (sd (.sl 80)) (sd (.sl 80)) fun p q => (⟨rb, [.b (eqShardS (gd p 0) (gd q 0))]⟩, true))
theorem eqShardS_ok : EntOk Tryz.prog eqShardSE := e2_ok fun p q _ => evFn_sound (N := (gd p 0).rows.length + 1) (ks := [0, 1, 4, 5, 10, 14, 26]) (key := bo) (find_ok (List.forall_mem_cons.2 ⟨eqShard_ok, List.forall_mem_nil _⟩)) (enters Tryz.func76 (by kernel_rfl) (by kernel_rfl)) Tryz.func76 fun hw => by
  rw [eqShardS_ev]
  by_cases hl : (gd p 0).rows.length = (gd q 0).rows.length
  · rw [like_loop (E := (fun r s => eqShard (sub r 0 9) (sub s 0 9))) (wt_sl (hw ⟨sd (.sl 80), p⟩ (by simp))) hl (eqShardS_rd p q _ _ _ _ _) (by omega)]
    rw [show ((((gd p 0).rows.length : Int)) == (gd q 0).rows.length) = true from beq_iff_eq.2 (by omega)]
    show some (bo, _) = some (bo, some (1, [D.b (alikeS (fun r s => eqShard (sub r 0 9) (sub s 0 9)) (gd p 0) (gd q 0))]))
    cases alikeS (fun r s => eqShard (sub r 0 9) (sub s 0 9)) (gd p 0) (gd q 0) <;> rfl
  · rw [show ((((gd p 0).rows.length : Int)) == (gd q 0).rows.length) = false from beq_eq_false_iff_ne.2 (by omega)]
    show some (bo, _) = some (bo, some (1, [D.b (alikeS (fun r s => eqShard (sub r 0 9) (sub s 0 9)) (gd p 0) (gd q 0))]))
    rw [show alikeS (fun r s => eqShard (sub r 0 9) (sub s 0 9)) (gd p 0) (gd q 0) = false from by simp [alikeS, hl]]
    rfl
theorem eqShardS_refl (z : D) : eqShardS z z = true := alikeS_refl (fun r => by exact eqShard_refl _) z

def sizeShardS (z : D) : Nat := z.rows.length + total (fun r => sizeShard (sub r 0 9)) z.rows
noncomputable def szShardSL (N : Nat) (p q : List D) : List D → Out := loopOf Tryz.prog (find [szShardE]) N [0, 1, 4, 5, 11, 15, 25] Tryz.f41 ri [⟨sd (.sl 154), p⟩, ⟨ri, q⟩] 0
theorem szShardS_rd (p q : List D) (N : Nat) (z x y : D) (n k : Int) : szShardSL N p q [z, .i n, x, y, .i k] = bif decide (k < z.rows.length) then nd (inRange k z.rows.length) (nd (fair n) (bif decide (left (sizeShard (sub (z.rows.getD k.toNat []) 0 9)) n < 0) then oi (-1) else nx [z, .i (left (sizeShard (sub (z.rows.getD k.toNat []) 0 9)) n), x, y, .i (w64 (k + 1))])) else ex 0 [z, .i n, x, y, .i k] := by kernel_rfl
theorem szShardS_ev (p q : List D) (N : Nat) : evFn Tryz.prog (find [szShardE]) N [0, 1, 4, 5, 11, 15, 25] Tryz.f41 ri [⟨sd (.sl 154), p⟩, ⟨ri, q⟩] = some (bo, bif decide (w64 ((gd q 0).int - (gd p 0).rows.length) < 0) then oi (-1) else
    (let o := iter (szShardSL N p q) N [gd p 0, .i (w64 ((gd q 0).int - (gd p 0).rows.length)), .i 0, .b (decide (w64 ((gd q 0).int - (gd p 0).rows.length) < 0)), .i 0]
     nd o.isSome (bif o.code == 1 then some (1, o.pay) else nd (o.code == 2) (some (1, [gd o.pay 1]))))) := by kernel_rfl
def szShardSE : Ent := (41, e2 (sd (.sl 154)) ri fun p q => (⟨ri, [.i (left (sizeShardS (gd p 0)) (gd q 0).int)]⟩, fair (gd q 0).int))
theorem szShardS_ok : EntOk Tryz.prog szShardSE := e2_ok fun p q h => evFn_sound (N := (gd p 0).rows.length + 1) (ks := [0, 1, 4, 5, 11, 15, 25]) (key := bo) (find_ok (List.forall_mem_cons.2 ⟨szShard_ok, List.forall_mem_nil _⟩)) (enters Tryz.func41 (by kernel_rfl) (by kernel_rfl)) Tryz.func41 fun hw => by
  have h : fair (gd q 0).int = true := h
  have hl := wt_sl (hw ⟨sd (.sl 154), p⟩ (by simp))
  have h2 : 0 ≤ (gd q 0).int ∧ (gd q 0).int ≤ 1048576 := by simpa [fair] using h
  rw [szShardS_ev, w64_id (by omega) (by omega)]
  by_cases hn : (gd q 0).int - ((gd p 0).rows.length : Int) < 0
  · rw [decide_eq_true hn, cond_true]
    have e : left (sizeShardS (gd p 0)) (gd q 0).int = -1 := if_neg (by simp only [sizeShardS]; push_cast; omega)
    rw [e]
  · rw [decide_eq_false hn, cond_false]
    have := size_loop (size := fun r => sizeShard (sub r 0 9)) hl (szShardS_rd p q ((gd p 0).rows.length + 1) (gd p 0) (.i 0) (.b false)) (gd p 0).rows.length 0 ((gd p 0).rows.length + 1) ((gd q 0).int - ((gd p 0).rows.length : Int)) (by omega) (by omega) (by omega) (by omega)
    simp only [Int.natCast_zero, List.drop_zero] at this
    rw [this]
    by_cases hq : (total (fun r => sizeShard (sub r 0 9)) (gd p 0).rows : Int) ≤ (gd q 0).int - ((gd p 0).rows.length : Int)
    · have e : left (sizeShardS (gd p 0)) (gd q 0).int = (gd q 0).int - ((gd p 0).rows.length : Int) - (total (fun r => sizeShard (sub r 0 9)) (gd p 0).rows : Int) := by
        rw [left, if_pos (by simp only [sizeShardS]; push_cast; omega)]
        simp only [sizeShardS]; push_cast; omega
      rw [if_pos hq, e]
      rfl
    · have e : left (sizeShardS (gd p 0)) (gd q 0).int = -1 := if_neg (by simp only [sizeShardS]; push_cast; omega)
      rw [if_neg hq, e]
      rfl

theorem okShardS_of {z : D} {m : Nat} (hm : m ≤ 4294967296) (h : sizeShardS z ≤ m) : okShardS z = true := okS (ok := fun r => okShard (sub r 0 9)) (size := fun r => sizeShard (sub r 0 9)) hm h fun _ h => okShard_of hm h

end Go.Proofs.YtchceahcaaibcaaGreat
