/-
  The judge: states, ends. Printed by sym.py.
-/
import Derived.Test.YtdejncnjaebjfaaJ9
namespace Go.Proofs.Ytdejncnjaebjfaa
set_option maxRecDepth 4096
/-! loop.example/g00097/impl.CoordState -/
abbrev i_CoordStateT : FuncId → List T → Option (T × Bool) := find [i_CoordOkE, i_isRecE]
theorem i_CoordStateT_ok : CallOk Try.prog i_CoordStateT := find_ok (List.forall_mem_cons.2 ⟨i_CoordOk_ok, List.forall_mem_cons.2 ⟨i_isRec_ok, List.forall_mem_nil _⟩⟩)
abbrev i_CoordStateK : List Nat := [0, 1, 2, 4, 13]
theorem i_CoordState_ev (N : Nat) (p q : List D) : evFn Try.prog i_CoordStateT N i_CoordStateK Try.f58 ri [⟨ag rICoord, p⟩, ⟨ri, q⟩] = some (bo,
  bif !(coordOk (sub p 0 2)) then oi 0
  else bif !(inB (gd q 0).int 1 (gd p 0).rows.length) then oi 0
  else nd (inRange (w64 ((gd q 0).int - 1)) (gd p 0).rows.length) (some (1, [gd ((gd p 0).rows.getD (w64 ((gd q 0).int - 1)).toNat []) 3]))) := by kernel_rfl
def coordState (p : List D) (tx : Int) : D := bif coordOk p && inB tx 1 ((gd p 0).rows.length : Int) then gd ((gd p 0).rows.getD (tx - 1).toNat []) 3 else .i 0
theorem state_go (p : List D) (tx : Int) (hl : (gd p 0).rows.length ≤ 9223372036854775807) :
    (bif !(coordOk p) then oi 0 else bif !(inB tx 1 ((gd p 0).rows.length : Int)) then oi 0 else nd (inRange (w64 (tx - 1)) (gd p 0).rows.length) (some (1, [gd ((gd p 0).rows.getD (w64 (tx - 1)).toNat []) 3]))) = some (1, [coordState p tx]) := by
  unfold coordState
  cases coordOk p
  · rfl
  cases hb : inB tx 1 ((gd p 0).rows.length : Int)
  · rfl
  · simp only [inB, Bool.and_eq_true, decide_eq_true_eq] at hb
    obtain ⟨m, rfl⟩ : ∃ m : Nat, tx = ((m + 1 : Nat) : Int) := ⟨(tx - 1).toNat, by omega⟩
    rw [show w64 (((m + 1 : Nat) : Int) - 1) = (m : Int) from by rw [w64_id (by omega) (by omega)]; omega, show ((m + 1 : Nat) : Int) - 1 = (m : Int) from by omega, inRange_nat (show m < (gd p 0).rows.length from by omega)]
    rfl
def i_CoordStateE : Ent := (58, e2 (ag rICoord) ri fun p q => (⟨ri, [coordState p (gd q 0).int]⟩, true))
theorem i_CoordState_ok : EntOk Try.prog i_CoordStateE := e2_ok fun p q h => evFn_sound (N := 0) (ks := i_CoordStateK) (key := bo) i_CoordStateT_ok (enters Try.func58 (by kernel_rfl) (by kernel_rfl)) Try.func58 fun hw => by
  rw [i_CoordState_ev]
  exact congrArg (fun o => some (bo, o)) (state_go p (gd q 0).int (wt_at (hw ⟨ag rICoord, p⟩ (by simp)) (j := 0) rfl))

/-! loop.example/g00097/spec.CoordState -/
abbrev s_CoordStateT : FuncId → List T → Option (T × Bool) := find [s_CoordOkE, s_l1InE]
theorem s_CoordStateT_ok : CallOk Try.prog s_CoordStateT := find_ok (List.forall_mem_cons.2 ⟨s_CoordOk_ok, List.forall_mem_cons.2 ⟨s_l1In_ok, List.forall_mem_nil _⟩⟩)
abbrev s_CoordStateK : List Nat := [0, 1, 2, 4, 15]
theorem s_CoordState_ev (N : Nat) (p q : List D) : evFn Try.prog s_CoordStateT N s_CoordStateK Try.f57 ri [⟨ag rICoord, p⟩, ⟨ri, q⟩] = some (bo,
  bif !(coordOk (sub p 0 2)) then oi 0
  else bif !(inB (gd q 0).int 1 ((gd p 0).rows.length : Int)) then oi 0
  else nd (inRange (w64 ((gd q 0).int - 1)) (gd p 0).rows.length) (some (1, [gd ((gd p 0).rows.getD (w64 ((gd q 0).int - 1)).toNat []) 3]))) := by kernel_rfl
def s_CoordStateE : Ent := (57, e2 (ag rICoord) ri fun p q => (⟨ri, [coordState p (gd q 0).int]⟩, true))
theorem s_CoordState_ok : EntOk Try.prog s_CoordStateE := e2_ok fun p q h => evFn_sound (N := 0) (ks := s_CoordStateK) (key := bo) s_CoordStateT_ok (enters Try.func57 (by kernel_rfl) (by kernel_rfl)) Try.func57 fun hw => by
  rw [s_CoordState_ev]
  exact congrArg (fun o => some (bo, o)) (state_go p (gd q 0).int (wt_at (hw ⟨ag rICoord, p⟩ (by simp)) (j := 0) rfl))

/-! loop.example/g00097/impl.judged -/
abbrev i_judgedT : FuncId → List T → Option (T × Bool) := find [i_CoordOkE]
theorem i_judgedT_ok : CallOk Try.prog i_judgedT := find_ok (List.forall_mem_cons.2 ⟨i_CoordOk_ok, List.forall_mem_nil _⟩)
abbrev i_judgedK : List Nat := [0, 1, 2, 4]
theorem i_judged_ev (N : Nat) (p q : List D) : evFn Try.prog i_judgedT N i_judgedK Try.f52 rb [⟨ag rICoord, p⟩, ⟨sd (.sl 74), q⟩] = some (bo,
  bif coordOk (sub p 0 2) then ob (leI ((gd q 0).rows.length : Int) 200)
  else ob false) := by kernel_rfl
def judged (p : List D) (z : D) : Bool := coordOk p && leI (z.rows.length : Int) 200
def i_judgedE : Ent := (52, e2 (ag rICoord) (sd (.sl 74)) fun p q => (⟨rb, [.b (judged p (gd q 0))]⟩, true))
theorem i_judged_ok : EntOk Try.prog i_judgedE := e2_ok fun p q h => evFn_sound (N := 0) (ks := i_judgedK) (key := bo) i_judgedT_ok (enters Try.func52 (by kernel_rfl) (by kernel_rfl)) Try.func52 fun hw => by
  rw [i_judged_ev]
  rw [and_ob]; rfl

/-! loop.example/g00097/spec.l17Right -/
abbrev s_l17RightT : FuncId → List T → Option (T × Bool) := find [s_CoordOkE]
theorem s_l17RightT_ok : CallOk Try.prog s_l17RightT := find_ok (List.forall_mem_cons.2 ⟨s_CoordOk_ok, List.forall_mem_nil _⟩)
abbrev s_l17RightK : List Nat := [0, 1, 2, 4]
theorem s_l17Right_ev (N : Nat) (p q : List D) : evFn Try.prog s_l17RightT N s_l17RightK Try.f47 rb [⟨ag rICoord, p⟩, ⟨sd (.sl 74), q⟩] = some (bo,
  bif coordOk (sub p 0 2) then ob (leI ((gd q 0).rows.length : Int) 200)
  else ob false) := by kernel_rfl
def s_l17RightE : Ent := (47, e2 (ag rICoord) (sd (.sl 74)) fun p q => (⟨rb, [.b (judged p (gd q 0))]⟩, true))
theorem s_l17Right_ok : EntOk Try.prog s_l17RightE := e2_ok fun p q h => evFn_sound (N := 0) (ks := s_l17RightK) (key := bo) s_l17RightT_ok (enters Try.func47 (by kernel_rfl) (by kernel_rfl)) Try.func47 fun hw => by
  rw [s_l17Right_ev]
  rw [and_ob]; rfl

/-! loop.example/g00097/impl.JudgeEnds -/
abbrev i_JudgeEndsT : FuncId → List T → Option (T × Bool) := find [i_judgedE, i_CoordStateE]
theorem i_JudgeEndsT_ok : CallOk Try.prog i_JudgeEndsT := find_ok (List.forall_mem_cons.2 ⟨i_judged_ok, List.forall_mem_cons.2 ⟨i_CoordState_ok, List.forall_mem_nil _⟩⟩)
abbrev i_JudgeEndsK : List Nat := [0, 1, 2, 4, 6, 7, 11, 12, 13, 14, 15, 19, 30]
noncomputable def i_JudgeEndsL0 (N : Nat) (p q : List D) : List D → Out := loopOf Try.prog i_JudgeEndsT N i_JudgeEndsK Try.f26 rb [⟨ag rICoord, p⟩, ⟨sd (.sl 74), q⟩] 0
/- x0=t0(.one (.agg [.d (.sl 84), .d (.sl 3)])) x2=t1(sd (.sl 74)) x3=t2(.one (.c (.ptr 2 0))) x4=t4(.one (.c (.kb false))) x5=t11(rb) x6=t12(sd (.sl 74)) x7=t13(ri) x8=t14(ri) x9=box2[.d (.sl 84), .d (.sl 3)] -/
theorem i_JudgeEndsR0 (N : Nat) (p q : List D) (x0 x1 x2 x3 x4 x5 x6 x7 x8 x9 x10 : D) : (i_JudgeEndsL0 N p q) [x0, x1, x2, x3, x4, x5, x6, x7, x8, x9, x10] =
  bif ltI x8.int x7.int then nd (inRange x8.int x6.rows.length) (bif (gd (x6.rows.getD x8.int.toNat []) 6).bool then bif (gd (x6.rows.getD x8.int.toNat []) 0).int == 3 then bif (coordState [x9, x10] (gd (x6.rows.getD x8.int.toNat []) 2).int).int != 3 then ob false
  else nx [x0, x1, x2, x3, x4, x5, x6, x7, .i (w64 (x8.int + 1)), x9, x10]
  else nx [x0, x1, x2, x3, x4, x5, x6, x7, .i (w64 (x8.int + 1)), x9, x10]
  else bif (gd (x6.rows.getD x8.int.toNat []) 0).int == 3 then bif (coordState [x9, x10] (gd (x6.rows.getD x8.int.toNat []) 2).int).int != 4 then ob false
  else nx [x0, x1, x2, x3, x4, x5, x6, x7, .i (w64 (x8.int + 1)), x9, x10]
  else nx [x0, x1, x2, x3, x4, x5, x6, x7, .i (w64 (x8.int + 1)), x9, x10])
  else ex 0 [x0, x1, x2, x3, x4, x5, x6, x7, x8, x9, x10] := by kernel_rfl
theorem i_JudgeEnds_ev (N : Nat) (p q : List D) : evFn Try.prog i_JudgeEndsT N i_JudgeEndsK Try.f26 rb [⟨ag rICoord, p⟩, ⟨sd (.sl 74), q⟩] = some (bo,
  bif !(judged (sub p 0 2) (gd q 0)) then ob false
  else (let o0 := iter (i_JudgeEndsL0 N p q) N [gd p 0, gd p 1, gd q 0, .i 0, .i 0, .b (!(judged (sub p 0 2) (gd q 0))), gd q 0, .i ((gd q 0).rows.length : Int), .i 0, gd p 0, gd p 1]
   nd o0.isSome (bif o0.code == 1 then some (1, o0.pay)
   else nd (o0.code == 2) (ob true)))) := by kernel_rfl
def endAt (p : List D) (z : D) (k : Nat) : Bool := bif (gd (z.rows.getD k []) 0).int == 3 then (coordState p (gd (z.rows.getD k []) 2).int).int == (bif (gd (z.rows.getD k []) 6).bool then 3 else 4) else true
def judgeEnds (p : List D) (z : D) : Bool := judged p z && (List.range z.rows.length).all (endAt p z)
def i_JudgeEndsE : Ent := (26, e2 (ag rICoord) (sd (.sl 74)) fun p q => (⟨rb, [.b (judgeEnds p (gd q 0))]⟩, true))
theorem i_JudgeEnds_ok : EntOk Try.prog i_JudgeEndsE := e2_ok fun p q h => evFn_sound (N := 201) (ks := i_JudgeEndsK) (key := bo) i_JudgeEndsT_ok (enters Try.func26 (by kernel_rfl) (by kernel_rfl)) Try.func26 fun hw => by
  rw [i_JudgeEnds_ev]
  have hs : judged (sub p 0 2) (gd q 0) = judged p (gd q 0) := rfl
  rw [hs]
  unfold judgeEnds
  cases hj : judged p (gd q 0)
  · rfl
  · have h200 : (gd q 0).rows.length ≤ 200 := by
      simp only [judged, leI, Bool.and_eq_true, decide_eq_true_eq] at hj
      omega
    have e0 := for_loop (L := i_JudgeEndsL0 201 p q) (fun k => [gd p 0, gd p 1, gd q 0, .i 0, .i 0, .b false, gd q 0, .i ((gd q 0).rows.length : Int), .i (k : Int), gd p 0, gd p 1]) (gd q 0).rows.length (endAt p (gd q 0)) [.b false] 0 (fun k hk => ?_) ?_ (N := 201) (by omega)
    · simp only [Int.natCast_zero] at e0
      simp only [Bool.not_true, cond_false, e0, Bool.true_and]
      cases (List.range (gd q 0).rows.length).all (endAt p (gd q 0)) <;> rfl
    · show i_JudgeEndsL0 _ p q [_, _, _, _, _, _, _, _, .i (k : Int), _, _] = _
      rw [i_JudgeEndsR0]
      simp only [int_i, c_lt hk, nd_ix hk, w64_succ hk (show (gd q 0).rows.length ≤ 9223372036854775807 from by omega), Int.toNat_natCast, bne_not, endAt, show coordState [gd p 0, gd p 1] = coordState p from rfl]
      cases (gd ((gd q 0).rows.getD k []) 0).int == 3 <;> cases (gd ((gd q 0).rows.getD k []) 6).bool <;> simp only [cond_true, cond_false]
      · cases (coordState p (gd ((gd q 0).rows.getD k []) 2).int).int == 4 <;> rfl
      · cases (coordState p (gd ((gd q 0).rows.getD k []) 2).int).int == 3 <;> rfl
    · show i_JudgeEndsL0 _ p q [_, _, _, _, _, _, _, .i ((gd q 0).rows.length : Int), .i ((gd q 0).rows.length : Int), _, _] = _
      rw [i_JudgeEndsR0]
      simp only [int_i, c_nlt]

/-! loop.example/g00097/spec.JudgeEnds -/
abbrev s_JudgeEndsT : FuncId → List T → Option (T × Bool) := find [s_l17RightE, s_CoordStateE]
theorem s_JudgeEndsT_ok : CallOk Try.prog s_JudgeEndsT := find_ok (List.forall_mem_cons.2 ⟨s_l17Right_ok, List.forall_mem_cons.2 ⟨s_CoordState_ok, List.forall_mem_nil _⟩⟩)
abbrev s_JudgeEndsK : List Nat := [0, 1, 2, 4, 5, 6, 7, 11, 15, 24, 26, 32]
noncomputable def s_JudgeEndsL0 (N : Nat) (p q : List D) : List D → Out := loopOf Try.prog s_JudgeEndsT N s_JudgeEndsK Try.f25 rb [⟨ag rICoord, p⟩, ⟨sd (.sl 74), q⟩] 0
/- x0=t0(.one (.agg [.d (.sl 84), .d (.sl 3)])) x2=t1(sd (.sl 74)) x3=t2(.one (.c (.ptr 2 0))) x4=t4(.one (.c (.kb false))) x5=t11(rb) x6=t5(ri) x7=box2[.d (.sl 84), .d (.sl 3)] -/
theorem s_JudgeEndsR0 (N : Nat) (p q : List D) (x0 x1 x2 x3 x4 x5 x6 x7 x8 : D) : (s_JudgeEndsL0 N p q) [x0, x1, x2, x3, x4, x5, x6, x7, x8] =
  bif ltI x6.int (x2.rows.length : Int) then nd (inRange x6.int x2.rows.length) (bif (gd (x2.rows.getD x6.int.toNat []) 0).int != 3 then nx [x0, x1, x2, x3, x4, x5, .i (w64 (x6.int + 1)), x7, x8]
  else bif (gd (x2.rows.getD x6.int.toNat []) 6).bool then bif (coordState [x7, x8] (gd (x2.rows.getD x6.int.toNat []) 2).int).int != 3 then ob false
  else nx [x0, x1, x2, x3, x4, x5, .i (w64 (x6.int + 1)), x7, x8]
  else bif (coordState [x7, x8] (gd (x2.rows.getD x6.int.toNat []) 2).int).int != 4 then ob false
  else nx [x0, x1, x2, x3, x4, x5, .i (w64 (x6.int + 1)), x7, x8])
  else ex 0 [x0, x1, x2, x3, x4, x5, x6, x7, x8] := by kernel_rfl
theorem s_JudgeEnds_ev (N : Nat) (p q : List D) : evFn Try.prog s_JudgeEndsT N s_JudgeEndsK Try.f25 rb [⟨ag rICoord, p⟩, ⟨sd (.sl 74), q⟩] = some (bo,
  bif !(judged (sub p 0 2) (gd q 0)) then ob false
  else (let o0 := iter (s_JudgeEndsL0 N p q) N [gd p 0, gd p 1, gd q 0, .i 0, .i 0, .b (!(judged (sub p 0 2) (gd q 0))), .i 0, gd p 0, gd p 1]
   nd o0.isSome (bif o0.code == 1 then some (1, o0.pay)
   else nd (o0.code == 2) (ob true)))) := by kernel_rfl
def s_JudgeEndsE : Ent := (25, e2 (ag rICoord) (sd (.sl 74)) fun p q => (⟨rb, [.b (judgeEnds p (gd q 0))]⟩, true))
theorem s_JudgeEnds_ok : EntOk Try.prog s_JudgeEndsE := e2_ok fun p q h => evFn_sound (N := 201) (ks := s_JudgeEndsK) (key := bo) s_JudgeEndsT_ok (enters Try.func25 (by kernel_rfl) (by kernel_rfl)) Try.func25 fun hw => by
  rw [s_JudgeEnds_ev]
  have hs : judged (sub p 0 2) (gd q 0) = judged p (gd q 0) := rfl
  rw [hs]
  unfold judgeEnds
  cases hj : judged p (gd q 0)
  · rfl
  · have h200 : (gd q 0).rows.length ≤ 200 := by
      simp only [judged, leI, Bool.and_eq_true, decide_eq_true_eq] at hj
      omega
    have e0 := for_loop (L := s_JudgeEndsL0 201 p q) (fun k => [gd p 0, gd p 1, gd q 0, .i 0, .i 0, .b false, .i (k : Int), gd p 0, gd p 1]) (gd q 0).rows.length (endAt p (gd q 0)) [.b false] 0 (fun k hk => ?_) ?_ (N := 201) (by omega)
    · simp only [Int.natCast_zero] at e0
      simp only [Bool.not_true, cond_false, e0, Bool.true_and]
      cases (List.range (gd q 0).rows.length).all (endAt p (gd q 0)) <;> rfl
    · show s_JudgeEndsL0 _ p q [_, _, _, _, _, _, .i (k : Int), _, _] = _
      rw [s_JudgeEndsR0]
      simp only [int_i, c_lt hk, nd_ix hk, w64_succ hk (show (gd q 0).rows.length ≤ 9223372036854775807 from by omega), Int.toNat_natCast, bne_not, endAt, show coordState [gd p 0, gd p 1] = coordState p from rfl]
      cases (gd ((gd q 0).rows.getD k []) 0).int == 3 <;> cases (gd ((gd q 0).rows.getD k []) 6).bool <;> simp only [cond_true, cond_false, Bool.not_true, Bool.not_false]
      · cases (coordState p (gd ((gd q 0).rows.getD k []) 2).int).int == 4 <;> rfl
      · cases (coordState p (gd ((gd q 0).rows.getD k []) 2).int).int == 3 <;> rfl
    · show s_JudgeEndsL0 _ p q [_, _, _, _, _, _, .i ((gd q 0).rows.length : Int), _, _] = _
      rw [s_JudgeEndsR0]
      simp only [int_i, c_nlt]

end Go.Proofs.Ytdejncnjaebjfaa
