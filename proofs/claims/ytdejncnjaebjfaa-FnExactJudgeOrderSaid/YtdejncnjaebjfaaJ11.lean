/-
  The judge: the order. Printed by sym.py.
-/
import Derived.Test.YtdejncnjaebjfaaJSize
namespace Go.Proofs.Ytdejncnjaebjfaa
set_option maxRecDepth 4096
/-! loop.example/g00097/spec.l17Place -/
abbrev s_l17PlaceT : FuncId → List T → Option (T × Bool) := find []
theorem s_l17PlaceT_ok : CallOk Try.prog s_l17PlaceT := find_ok (List.forall_mem_nil _)
abbrev s_l17PlaceK : List Nat := [0, 1, 2, 4, 5, 10, 19]
noncomputable def s_l17PlaceL0 (N : Nat) (p q : List D) : List D → Out := loopOf Try.prog s_l17PlaceT N s_l17PlaceK Try.f48 ri [⟨ag rICoord, p⟩, ⟨ri, q⟩] 0
/- x0=t0(.one (.agg [.d (.sl 84), .d (.sl 3)])) x2=t1(ri) x3=t2(.one (.c (.ptr 2 0))) x4=t4(ri) x5=t5(ri) x6=box2[.d (.sl 84), .d (.sl 3)] -/
theorem s_l17PlaceR0 (N : Nat) (p q : List D) (x0 x1 x2 x3 x4 x5 x6 x7 : D) : (s_l17PlaceL0 N p q) [x0, x1, x2, x3, x4, x5, x6, x7] =
  bif ltI x5.int (x7.rows.length : Int) then nd (inRange x5.int x7.rows.length) (bif (gd (x7.rows.getD x5.int.toNat []) 0).int == x2.int then some (1, [x5])
  else nx [x0, x1, x2, x3, x4, .i (w64 (x5.int + 1)), x6, x7])
  else ex 0 [x0, x1, x2, x3, x4, x5, x6, x7] := by kernel_rfl
theorem s_l17Place_ev (N : Nat) (p q : List D) : evFn Try.prog s_l17PlaceT N s_l17PlaceK Try.f48 ri [⟨ag rICoord, p⟩, ⟨ri, q⟩] = some (bo,
  (let o0 := iter (s_l17PlaceL0 N p q) N [gd p 0, gd p 1, gd q 0, .i 0, .i 0, .i 0, gd p 0, gd p 1]
   nd o0.isSome (bif o0.code == 1 then some (1, o0.pay)
   else nd (o0.code == 2) (oi (-1))))) := by kernel_rfl
def placeOf (o : D) (tx : Int) : Int := ixF (fun k => tx == (gd (o.rows.getD k []) 0).int) 0 o.rows.length
theorem int_beq_comm (a b : Int) : (a == b) = (b == a) := by
  rw [Bool.eq_iff_iff]; simp only [beq_iff_eq]; exact ⟨Eq.symm, Eq.symm⟩
theorem getD_take {l : List (List D)} {k i : Nat} (h : i < k) : (l.take k).getD i [] = l.getD i [] := by
  rw [List.getD_eq_getElem?_getD, List.getElem?_take_of_lt h, ← List.getD_eq_getElem?_getD]
def s_l17PlaceE : Ent := (48, e2 (ag rICoord) ri fun p q => (⟨ri, [.i (placeOf (gd p 1) (gd q 0).int)]⟩, true))
theorem s_l17Place_ok : EntOk Try.prog s_l17PlaceE := e2_ok fun p q h => evFn_sound (N := (gd p 1).rows.length + 1) (ks := s_l17PlaceK) (key := bo) s_l17PlaceT_ok (enters Try.func48 (by kernel_rfl) (by kernel_rfl)) Try.func48 fun hw => by
  rw [s_l17Place_ev]
  have hl := wt_at (hw ⟨ag rICoord, p⟩ (by simp)) (j := 1) rfl
  have e := ix_loop (L := s_l17PlaceL0 ((gd p 1).rows.length + 1) p q) (fun k => [gd p 0, gd p 1, gd q 0, .i 0, .i 0, .i (k : Int), gd p 0, gd p 1]) (gd p 1).rows.length (fun k => (gd q 0).int == (gd ((gd p 1).rows.getD k []) 0).int) [gd p 0, gd p 1, gd q 0, .i 0, .i 0, .i ((gd p 1).rows.length : Int), gd p 0, gd p 1] (fun k hk => ?_) ?_ (gd p 1).rows.length 0 ((gd p 1).rows.length + 1) (by omega) (by omega)
  · simp only [Int.natCast_zero] at e
    rw [e]
    have hno := ixF_neg (fun k => (gd q 0).int == (gd ((gd p 1).rows.getD k []) 0).int) (gd p 1).rows.length 0
    show _ = some (bo, some (1, [D.i (ixF (fun k => (gd q 0).int == (gd ((gd p 1).rows.getD k []) 0).int) 0 (gd p 1).rows.length)]))
    cases hd : decide (ixF (fun k => (gd q 0).int == (gd ((gd p 1).rows.getD k []) 0).int) 0 (gd p 1).rows.length ≥ 0)
    · rw [hno hd]; rfl
    · rfl
  · show s_l17PlaceL0 _ p q [_, _, _, _, _, .i (k : Int), _, _] = _
    rw [s_l17PlaceR0]
    simp only [int_i, c_lt hk, nd_ix hk, w64_succ hk hl, Int.toNat_natCast, int_beq_comm _ (gd q 0).int]
    cases (gd q 0).int == (gd ((gd p 1).rows.getD k []) 0).int <;> rfl
  · show s_l17PlaceL0 _ p q [_, _, _, _, _, .i ((gd p 1).rows.length : Int), _, _] = _
    rw [s_l17PlaceR0]
    simp only [int_i, c_nlt]

/-! loop.example/g00097/impl.JudgeOrder -/
abbrev i_JudgeOrderT : FuncId → List T → Option (T × Bool) := find [i_judgedE, ixIE]
theorem i_JudgeOrderT_ok : CallOk Try.prog i_JudgeOrderT := find_ok (List.forall_mem_cons.2 ⟨i_judged_ok, List.forall_mem_cons.2 ⟨ixI_ok, List.forall_mem_nil _⟩⟩)
abbrev i_JudgeOrderK : List Nat := [0, 1, 2, 4, 5, 6, 7, 9, 13, 14, 15, 16, 17, 32, 35, 36, 37, 38, 63]
noncomputable def i_JudgeOrderL0 (N : Nat) (p q : List D) : List D → Out := loopOf Try.prog i_JudgeOrderT N i_JudgeOrderK Try.f22 rb [⟨ag rICoord, p⟩, ⟨sd (.sl 74), q⟩] 0
noncomputable def i_JudgeOrderL2 (N : Nat) (p q : List D) : List D → Out := loopOf Try.prog i_JudgeOrderT N i_JudgeOrderK Try.f22 rb [⟨ag rICoord, p⟩, ⟨sd (.sl 74), q⟩] 2
/- x0=t0(.one (.agg [.d (.sl 84), .d (.sl 3)])) x2=t1(sd (.sl 74)) x3=t2(.one (.c (.ptr 2 0))) x4=t4(.one (.c (.kb false))) x5=t13(rb) x6=t14(sd (.sl 74)) x7=t15(ri) x8=t16(ri) x9=box2[.d (.sl 84), .d (.sl 3)] -/
theorem i_JudgeOrderR0 (N : Nat) (p q : List D) (x0 x1 x2 x3 x4 x5 x6 x7 x8 x9 x10 : D) : (i_JudgeOrderL0 N p q) [x0, x1, x2, x3, x4, x5, x6, x7, x8, x9, x10] =
  bif ltI x8.int x7.int then nd (inRange x8.int x6.rows.length) (bif (gd (x6.rows.getD x8.int.toNat []) 0).int != 1 then nx [x0, x1, x2, x3, x4, x5, x6, x7, .i (w64 (x8.int + 1)), x9, x10]
  else bif ltI (ixF (fun k => (gd (x6.rows.getD x8.int.toNat []) 2).int == (gd (x10.rows.getD k []) 0).int) 0 x10.rows.length) 0 then nx [x0, x1, x2, x3, x4, x5, x6, x7, .i (w64 (x8.int + 1)), x9, x10]
  else nd (leI 0 0 && leI 0 x8.int && leI x8.int (x2.rows.length : Int)) ((let o2 := iter (i_JudgeOrderL2 N p q) N [x0, x1, x2, x3, x4, x5, x6, x7, x8, .b (ltI x8.int x7.int), .i 0, x8, .i (ixF (fun k => (gd (x6.rows.getD x8.int.toNat []) 2).int == (gd (x10.rows.getD k []) 0).int) 0 x10.rows.length), .b (ltI (ixF (fun k => (gd (x6.rows.getD x8.int.toNat []) 2).int == (gd (x10.rows.getD k []) 0).int) 0 x10.rows.length) 0), .l (x2.rows.take x8.int.toNat), .i ((x2.rows.take x8.int.toNat).length : Int), .i 0, x9, x10, gd (x6.rows.getD x8.int.toNat []) 0, gd (x6.rows.getD x8.int.toNat []) 1, gd (x6.rows.getD x8.int.toNat []) 2, gd (x6.rows.getD x8.int.toNat []) 3, gd (x6.rows.getD x8.int.toNat []) 4, gd (x6.rows.getD x8.int.toNat []) 5, gd (x6.rows.getD x8.int.toNat []) 6]
   nd o2.isSome (bif o2.code == 1 then some (1, o2.pay)
   else nd (o2.code == 4) (nx [gd o2.pay 0, gd o2.pay 1, gd o2.pay 2, gd o2.pay 3, gd o2.pay 4, gd o2.pay 5, gd o2.pay 6, gd o2.pay 7, .i (w64 ((gd o2.pay 8).int + 1)), gd o2.pay 17, gd o2.pay 18])))))
  else ex 0 [x0, x1, x2, x3, x4, x5, x6, x7, x8, x9, x10] := by kernel_rfl
/- x0=t0(.one (.agg [.d (.sl 84), .d (.sl 3)])) x2=t1(sd (.sl 74)) x3=t2(.one (.c (.ptr 2 0))) x4=t4(.one (.c (.kb false))) x5=t13(rb) x6=t14(sd (.sl 74)) x7=t15(ri) x8=t16(ri) x9=t17(rb) x10=t6(.one (.c (.ptr 6 0))) x11=t5(ri) x12=t7(ri) x13=t32(rb) x14=t35(sd (.sl 74)) x15=t36(ri) x16=t37(ri) x17=box2[.d (.sl 84), .d (.sl 3)] x19=box6[.d si, .d si, .d si, .d si, .d si, .d (.sl 92), .d (.bool)] -/
theorem i_JudgeOrderR2 (N : Nat) (p q : List D) (x0 x1 x2 x3 x4 x5 x6 x7 x8 x9 x10 x11 x12 x13 x14 x15 x16 x17 x18 x19 x20 x21 x22 x23 x24 x25 : D) : (i_JudgeOrderL2 N p q) [x0, x1, x2, x3, x4, x5, x6, x7, x8, x9, x10, x11, x12, x13, x14, x15, x16, x17, x18, x19, x20, x21, x22, x23, x24, x25] =
  bif ltI x16.int x15.int then nd (inRange x16.int x14.rows.length) (bif (gd (x14.rows.getD x16.int.toNat []) 0).int == 3 then bif (gd (x14.rows.getD x16.int.toNat []) 6).bool then bif (gd (x14.rows.getD x16.int.toNat []) 2).int != x21.int then bif ltI x12.int (ixF (fun k => (gd (x14.rows.getD x16.int.toNat []) 2).int == (gd (x18.rows.getD k []) 0).int) 0 x18.rows.length) then ob false
  else nx [x0, x1, x2, x3, x4, x5, x6, x7, x8, x9, x10, x11, x12, x13, x14, x15, .i (w64 (x16.int + 1)), x17, x18, x19, x20, x21, x22, x23, x24, x25]
  else nx [x0, x1, x2, x3, x4, x5, x6, x7, x8, x9, x10, x11, x12, x13, x14, x15, .i (w64 (x16.int + 1)), x17, x18, x19, x20, x21, x22, x23, x24, x25]
  else nx [x0, x1, x2, x3, x4, x5, x6, x7, x8, x9, x10, x11, x12, x13, x14, x15, .i (w64 (x16.int + 1)), x17, x18, x19, x20, x21, x22, x23, x24, x25]
  else nx [x0, x1, x2, x3, x4, x5, x6, x7, x8, x9, x10, x11, x12, x13, x14, x15, .i (w64 (x16.int + 1)), x17, x18, x19, x20, x21, x22, x23, x24, x25])
  else ex 2 [x0, x1, x2, x3, x4, x5, x6, x7, x8, x9, x10, x11, x12, x13, x14, x15, x16, x17, x18, x19, x20, x21, x22, x23, x24, x25] := by kernel_rfl
theorem i_JudgeOrder_ev (N : Nat) (p q : List D) : evFn Try.prog i_JudgeOrderT N i_JudgeOrderK Try.f22 rb [⟨ag rICoord, p⟩, ⟨sd (.sl 74), q⟩] = some (bo,
  bif !(judged (sub p 0 2) (gd q 0)) then ob false
  else (let o0 := iter (i_JudgeOrderL0 N p q) N [gd p 0, gd p 1, gd q 0, .i 0, .i 0, .b (!(judged (sub p 0 2) (gd q 0))), gd q 0, .i ((gd q 0).rows.length : Int), .i 0, gd p 0, gd p 1]
   nd o0.isSome (bif o0.code == 1 then some (1, o0.pay)
   else nd (o0.code == 2) (ob true)))) := by kernel_rfl
def badPair (o z : D) (i k : Nat) : Bool :=
  ((gd (z.rows.getD i []) 0).int == 3) && ((gd (z.rows.getD i []) 6).bool && (((gd (z.rows.getD k []) 0).int == 1) && (!((gd (z.rows.getD i []) 2).int == (gd (z.rows.getD k []) 2).int) &&
    (leI 0 (placeOf o (gd (z.rows.getD i []) 2).int) && (leI 0 (placeOf o (gd (z.rows.getD k []) 2).int) && ltI (placeOf o (gd (z.rows.getD k []) 2).int) (placeOf o (gd (z.rows.getD i []) 2).int))))))
def judgeOrder (p : List D) (z : D) : Bool := judged p z && (List.range z.rows.length).all fun k => (List.range k).all fun i => !badPair (gd p 1) z i k
theorem all_true {n : Nat} {C : Nat → Bool} (h : ∀ i, i < n → C i = true) : (List.range n).all C = true := by
  rw [List.all_eq_true]; exact fun i hi => h i (List.mem_range.1 hi)
def i_JudgeOrderE : Ent := (22, e2 (ag rICoord) (sd (.sl 74)) fun p q => (⟨rb, [.b (judgeOrder p (gd q 0))]⟩, true))
theorem i_JudgeOrder_ok : EntOk Try.prog i_JudgeOrderE := e2_ok fun p q h => evFn_sound (N := 201) (ks := i_JudgeOrderK) (key := bo) i_JudgeOrderT_ok (enters Try.func22 (by kernel_rfl) (by kernel_rfl)) Try.func22 fun hw => by
  rw [i_JudgeOrder_ev]
  rw [show judged (sub p 0 2) (gd q 0) = judged p (gd q 0) from rfl]
  unfold judgeOrder
  cases hj : judged p (gd q 0)
  · rfl
  · have h200 : (gd q 0).rows.length ≤ 200 := by
      simp only [judged, leI, Bool.and_eq_true, decide_eq_true_eq] at hj
      omega
    have e0 := for_loop (L := i_JudgeOrderL0 201 p q) (fun k => [gd p 0, gd p 1, gd q 0, .i 0, .i 0, .b false, gd q 0, .i ((gd q 0).rows.length : Int), .i (k : Int), gd p 0, gd p 1]) (gd q 0).rows.length (fun k => (List.range k).all fun i => !badPair (gd p 1) (gd q 0) i k) [.b false] 0 (fun k hk => ?_) ?_ (N := 201) (by omega)
    · simp only [Int.natCast_zero] at e0
      simp only [Bool.not_true, cond_false, e0, Bool.true_and]
      cases (List.range (gd q 0).rows.length).all fun k => (List.range k).all fun i => !badPair (gd p 1) (gd q 0) i k <;> rfl
    · show i_JudgeOrderL0 _ p q [_, _, _, _, _, _, _, _, .i (k : Int), _, _] = _
      rw [i_JudgeOrderR0]
      have hk' : k ≤ 9223372036854775807 := by omega
      have hlt : ((gd q 0).rows.take k).length = k := by rw [List.length_take]; omega
      simp only [int_i, c_lt hk, nd_ix hk, w64_succ hk (show (gd q 0).rows.length ≤ 9223372036854775807 from by omega), Int.toNat_natCast, bne_not, nd_take (Nat.le_of_lt hk), ltI_nat hk, hlt]
      rw [show ixF (fun k_1 => (gd ((gd q 0).rows.getD k []) 2).int == (gd ((gd p 1).rows.getD k_1 []) 0).int) 0 (gd p 1).rows.length = placeOf (gd p 1) (gd ((gd q 0).rows.getD k []) 2).int from rfl]
      cases hb : (gd ((gd q 0).rows.getD k []) 0).int == 1
      · rw [all_true (n := k) (C := fun i => !badPair (gd p 1) (gd q 0) i k) (fun i _ => by simp only [badPair, hb, Bool.false_and, Bool.and_false, Bool.not_false])]
        rfl
      cases hp : ltI (placeOf (gd p 1) (gd ((gd q 0).rows.getD k []) 2).int) 0
      · have hp0 : 0 ≤ placeOf (gd p 1) (gd ((gd q 0).rows.getD k []) 2).int := by
          simp only [ltI, decide_eq_false_iff_not] at hp; omega
        have e2 := for_loop (L := i_JudgeOrderL2 201 p q) (fun j => [gd p 0, gd p 1, gd q 0, .i 0, .i 0, .b false, gd q 0, .i ((gd q 0).rows.length : Int), .i (k : Int), .b true, .i 0, .i (k : Int), .i (placeOf (gd p 1) (gd ((gd q 0).rows.getD k []) 2).int), .b false, .l ((gd q 0).rows.take k), .i (k : Int), .i (j : Int), gd p 0, gd p 1, gd ((gd q 0).rows.getD k []) 0, gd ((gd q 0).rows.getD k []) 1, gd ((gd q 0).rows.getD k []) 2, gd ((gd q 0).rows.getD k []) 3, gd ((gd q 0).rows.getD k []) 4, gd ((gd q 0).rows.getD k []) 5, gd ((gd q 0).rows.getD k []) 6]) k (fun i => !badPair (gd p 1) (gd q 0) i k) [.b false] 2 (fun j hj => ?_) ?_ (N := 201) (by omega)
        · simp only [Int.natCast_zero] at e2
          simp only [Bool.not_true, cond_false, e2]
          cases (List.range k).all fun i => !badPair (gd p 1) (gd q 0) i k
          · rfl
          · simp only [nd, cond_true, cond_false, Option.isSome_some, Out.code, Out.pay, Option.getD_some, gd_cons_zero, gd_cons_succ, Nat.reduceBEq, Nat.reduceAdd, int_i, bool_b, str_s, rows_l, Bool.not_true, Bool.not_false, beq_self_eq_true, int_i, w64_succ hk (show (gd q 0).rows.length ≤ 9223372036854775807 from by omega)]
        · show i_JudgeOrderL2 _ p q [_, _, _, _, _, _, _, _, _, _, _, _, _, _, .l ((gd q 0).rows.take k), .i (k : Int), .i (j : Int), _, _, _, _, _, _, _, _, _] = _
          rw [i_JudgeOrderR2]
          simp only [int_i, rows_l, c_lt hj, hlt, nd_ix hj, w64_succ hj hk', Int.toNat_natCast, bne_not, getD_take hj]
          rw [show ixF (fun k_1 => (gd ((gd q 0).rows.getD j []) 2).int == (gd ((gd p 1).rows.getD k_1 []) 0).int) 0 (gd p 1).rows.length = placeOf (gd p 1) (gd ((gd q 0).rows.getD j []) 2).int from rfl]
          simp only [badPair, hb, leI_t hp0, Bool.true_and]
          have hpp : (leI 0 (placeOf (gd p 1) (gd ((gd q 0).rows.getD j []) 2).int) && ltI (placeOf (gd p 1) (gd ((gd q 0).rows.getD k []) 2).int) (placeOf (gd p 1) (gd ((gd q 0).rows.getD j []) 2).int)) = ltI (placeOf (gd p 1) (gd ((gd q 0).rows.getD k []) 2).int) (placeOf (gd p 1) (gd ((gd q 0).rows.getD j []) 2).int) := by
            rw [Bool.eq_iff_iff]
            simp only [leI, ltI, Bool.and_eq_true, decide_eq_true_eq]
            omega
          rw [hpp]
          cases (gd ((gd q 0).rows.getD j []) 0).int == 3 <;> cases (gd ((gd q 0).rows.getD j []) 6).bool <;> cases (gd ((gd q 0).rows.getD j []) 2).int == (gd ((gd q 0).rows.getD k []) 2).int <;> cases ltI (placeOf (gd p 1) (gd ((gd q 0).rows.getD k []) 2).int) (placeOf (gd p 1) (gd ((gd q 0).rows.getD j []) 2).int) <;> rfl
        · show i_JudgeOrderL2 _ p q [_, _, _, _, _, _, _, _, _, _, _, _, _, _, _, .i (k : Int), .i (k : Int), _, _, _, _, _, _, _, _, _] = _
          rw [i_JudgeOrderR2]
          simp only [int_i, c_nlt]
      · have hp0 : placeOf (gd p 1) (gd ((gd q 0).rows.getD k []) 2).int < 0 := by
          simp only [ltI, decide_eq_true_eq] at hp; omega
        rw [all_true (n := k) (C := fun i => !badPair (gd p 1) (gd q 0) i k) (fun i _ => by simp only [badPair, leI_f hp0, Bool.false_and, Bool.and_false, Bool.not_false])]
        rfl
    · show i_JudgeOrderL0 _ p q [_, _, _, _, _, _, _, .i ((gd q 0).rows.length : Int), .i ((gd q 0).rows.length : Int), _, _] = _
      rw [i_JudgeOrderR0]
      simp only [int_i, c_nlt]

/-! loop.example/g00097/spec.JudgeOrder -/
abbrev s_JudgeOrderT : FuncId → List T → Option (T × Bool) := find [s_l17RightE, s_l17PlaceE]
theorem s_JudgeOrderT_ok : CallOk Try.prog s_JudgeOrderT := find_ok (List.forall_mem_cons.2 ⟨s_l17Right_ok, List.forall_mem_cons.2 ⟨s_l17Place_ok, List.forall_mem_nil _⟩⟩)
abbrev s_JudgeOrderK : List Nat := [0, 1, 2, 4, 5, 6, 7, 8, 9, 10, 14, 18, 26, 56, 75]
noncomputable def s_JudgeOrderL0 (N : Nat) (p q : List D) : List D → Out := loopOf Try.prog s_JudgeOrderT N s_JudgeOrderK Try.f19 rb [⟨ag rICoord, p⟩, ⟨sd (.sl 74), q⟩] 0
noncomputable def s_JudgeOrderL2 (N : Nat) (p q : List D) : List D → Out := loopOf Try.prog s_JudgeOrderT N s_JudgeOrderK Try.f19 rb [⟨ag rICoord, p⟩, ⟨sd (.sl 74), q⟩] 2
/- x0=t0(.one (.agg [.d (.sl 84), .d (.sl 3)])) x2=t1(sd (.sl 74)) x3=t2(.one (.c (.ptr 2 0))) x4=t4(.one (.c (.kb false))) x5=t14(rb) x6=t5(ri) x7=box2[.d (.sl 84), .d (.sl 3)] -/
theorem s_JudgeOrderR0 (N : Nat) (p q : List D) (x0 x1 x2 x3 x4 x5 x6 x7 x8 : D) : (s_JudgeOrderL0 N p q) [x0, x1, x2, x3, x4, x5, x6, x7, x8] =
  bif ltI x6.int (x2.rows.length : Int) then (let o2 := iter (s_JudgeOrderL2 N p q) N [x0, x1, x2, x3, x4, x5, x6, .b (ltI x6.int (x2.rows.length : Int)), .i (w64 (x6.int + 1)), x7, x8]
   nd o2.isSome (bif o2.code == 1 then some (1, o2.pay)
   else nd (o2.code == 4) (nx [gd o2.pay 0, gd o2.pay 1, gd o2.pay 2, gd o2.pay 3, gd o2.pay 4, gd o2.pay 5, .i (w64 ((gd o2.pay 6).int + 1)), gd o2.pay 9, gd o2.pay 10])))
  else ex 0 [x0, x1, x2, x3, x4, x5, x6, x7, x8] := by kernel_rfl
/- x0=t0(.one (.agg [.d (.sl 84), .d (.sl 3)])) x2=t1(sd (.sl 74)) x3=t2(.one (.c (.ptr 2 0))) x4=t4(.one (.c (.kb false))) x5=t14(rb) x6=t5(ri) x7=t18(rb) x8=t6(ri) x9=box2[.d (.sl 84), .d (.sl 3)] -/
theorem s_JudgeOrderR2 (N : Nat) (p q : List D) (x0 x1 x2 x3 x4 x5 x6 x7 x8 x9 x10 : D) : (s_JudgeOrderL2 N p q) [x0, x1, x2, x3, x4, x5, x6, x7, x8, x9, x10] =
  bif ltI x8.int (x2.rows.length : Int) then nd (inRange x6.int x2.rows.length) (nd (inRange x8.int x2.rows.length) (bif (gd (x2.rows.getD x6.int.toNat []) 0).int != 3 then nx [x0, x1, x2, x3, x4, x5, x6, x7, .i (w64 (x8.int + 1)), x9, x10]
  else bif !(gd (x2.rows.getD x6.int.toNat []) 6).bool then nx [x0, x1, x2, x3, x4, x5, x6, x7, .i (w64 (x8.int + 1)), x9, x10]
  else bif (gd (x2.rows.getD x8.int.toNat []) 0).int != 1 then nx [x0, x1, x2, x3, x4, x5, x6, x7, .i (w64 (x8.int + 1)), x9, x10]
  else bif (gd (x2.rows.getD x6.int.toNat []) 2).int == (gd (x2.rows.getD x8.int.toNat []) 2).int then nx [x0, x1, x2, x3, x4, x5, x6, x7, .i (w64 (x8.int + 1)), x9, x10]
  else bif leI 0 (placeOf x10 (gd (x2.rows.getD x6.int.toNat []) 2).int) then bif leI 0 (placeOf x10 (gd (x2.rows.getD x8.int.toNat []) 2).int) then bif ltI (placeOf x10 (gd (x2.rows.getD x8.int.toNat []) 2).int) (placeOf x10 (gd (x2.rows.getD x6.int.toNat []) 2).int) then ob false
  else nx [x0, x1, x2, x3, x4, x5, x6, x7, .i (w64 (x8.int + 1)), x9, x10]
  else nx [x0, x1, x2, x3, x4, x5, x6, x7, .i (w64 (x8.int + 1)), x9, x10]
  else nx [x0, x1, x2, x3, x4, x5, x6, x7, .i (w64 (x8.int + 1)), x9, x10]))
  else ex 2 [x0, x1, x2, x3, x4, x5, x6, x7, x8, x9, x10] := by kernel_rfl
theorem s_JudgeOrder_ev (N : Nat) (p q : List D) : evFn Try.prog s_JudgeOrderT N s_JudgeOrderK Try.f19 rb [⟨ag rICoord, p⟩, ⟨sd (.sl 74), q⟩] = some (bo,
  bif !(judged (sub p 0 2) (gd q 0)) then ob false
  else (let o0 := iter (s_JudgeOrderL0 N p q) N [gd p 0, gd p 1, gd q 0, .i 0, .i 0, .b (!(judged (sub p 0 2) (gd q 0))), .i 0, gd p 0, gd p 1]
   nd o0.isSome (bif o0.code == 1 then some (1, o0.pay)
   else nd (o0.code == 2) (ob true)))) := by kernel_rfl
theorem all_pairs (n : Nat) (C : Nat → Nat → Bool) : ((List.range n).all fun k => (List.range k).all fun i => C i k) = (List.range n).all fun i => (List.range (n - (i + 1))).all fun m => C i (i + 1 + m) := by
  rw [Bool.eq_iff_iff]
  simp only [List.all_eq_true, List.mem_range]
  constructor
  · intro h i hi m hm
    exact h (i + 1 + m) (by omega) i (by omega)
  · intro h k hk i hi
    have := h i (by omega) (k - (i + 1)) (by omega)
    rwa [show i + 1 + (k - (i + 1)) = k from by omega] at this
def s_JudgeOrderE : Ent := (19, e2 (ag rICoord) (sd (.sl 74)) fun p q => (⟨rb, [.b (judgeOrder p (gd q 0))]⟩, true))
theorem s_JudgeOrder_ok : EntOk Try.prog s_JudgeOrderE := e2_ok fun p q h => evFn_sound (N := 201) (ks := s_JudgeOrderK) (key := bo) s_JudgeOrderT_ok (enters Try.func19 (by kernel_rfl) (by kernel_rfl)) Try.func19 fun hw => by
  rw [s_JudgeOrder_ev]
  rw [show judged (sub p 0 2) (gd q 0) = judged p (gd q 0) from rfl]
  unfold judgeOrder
  rw [all_pairs]
  cases hj : judged p (gd q 0)
  · rfl
  · have h200 : (gd q 0).rows.length ≤ 200 := by
      simp only [judged, leI, Bool.and_eq_true, decide_eq_true_eq] at hj
      omega
    have e0 := for_loop (L := s_JudgeOrderL0 201 p q) (fun k => [gd p 0, gd p 1, gd q 0, .i 0, .i 0, .b false, .i (k : Int), gd p 0, gd p 1]) (gd q 0).rows.length (fun i => (List.range ((gd q 0).rows.length - (i + 1))).all fun m => !badPair (gd p 1) (gd q 0) i (i + 1 + m)) [.b false] 0 (fun k hk => ?_) ?_ (N := 201) (by omega)
    · simp only [Int.natCast_zero] at e0
      simp only [Bool.not_true, cond_false, e0, Bool.true_and]
      cases (List.range (gd q 0).rows.length).all fun i => (List.range ((gd q 0).rows.length - (i + 1))).all fun m => !badPair (gd p 1) (gd q 0) i (i + 1 + m) <;> rfl
    · show s_JudgeOrderL0 _ p q [_, _, _, _, _, _, .i (k : Int), _, _] = _
      rw [s_JudgeOrderR0]
      simp only [int_i, ltI_nat hk, cond_true, w64_succ hk (show (gd q 0).rows.length ≤ 9223372036854775807 from by omega)]
      have e2 := for_loop (L := s_JudgeOrderL2 201 p q) (fun m => [gd p 0, gd p 1, gd q 0, .i 0, .i 0, .b false, .i (k : Int), .b true, .i ((k + 1 + m : Nat) : Int), gd p 0, gd p 1]) ((gd q 0).rows.length - (k + 1)) (fun m => !badPair (gd p 1) (gd q 0) k (k + 1 + m)) [.b false] 2 (fun m hm => ?_) ?_ (N := 201) (by omega)
      · simp only [Nat.add_zero] at e2
        rw [e2]
        cases (List.range ((gd q 0).rows.length - (k + 1))).all fun m => !badPair (gd p 1) (gd q 0) k (k + 1 + m)
        · rfl
        · simp only [nd, cond_true, cond_false, Option.isSome_some, Out.code, Out.pay, Option.getD_some, gd_cons_zero, gd_cons_succ, Nat.reduceBEq, Nat.reduceAdd, int_i, bool_b, str_s, rows_l, Bool.not_true, Bool.not_false, beq_self_eq_true, int_i, w64_succ hk (show (gd q 0).rows.length ≤ 9223372036854775807 from by omega)]
      · have hm' : k + 1 + m < (gd q 0).rows.length := by omega
        show s_JudgeOrderL2 _ p q [_, _, _, _, _, _, .i (k : Int), _, .i ((k + 1 + m : Nat) : Int), _, _] = _
        rw [s_JudgeOrderR2]
        simp only [int_i, c_lt hm', nd_ix hm', nd_ix hk, w64_succ hm' (show (gd q 0).rows.length ≤ 9223372036854775807 from by omega), Int.toNat_natCast, bne_not, badPair]
        generalize placeOf (gd p 1) (gd ((gd q 0).rows.getD k []) 2).int = pa
        generalize placeOf (gd p 1) (gd ((gd q 0).rows.getD (k + 1 + m) []) 2).int = pb
        cases (gd ((gd q 0).rows.getD k []) 0).int == 3 <;> try rfl
        cases (gd ((gd q 0).rows.getD k []) 6).bool <;> try rfl
        cases (gd ((gd q 0).rows.getD (k + 1 + m) []) 0).int == 1 <;> try rfl
        cases (gd ((gd q 0).rows.getD k []) 2).int == (gd ((gd q 0).rows.getD (k + 1 + m) []) 2).int <;> cases leI 0 pa <;> cases leI 0 pb <;> cases ltI pb pa <;> rfl
      · have hn : k + 1 + ((gd q 0).rows.length - (k + 1)) = (gd q 0).rows.length := by omega
        show s_JudgeOrderL2 _ p q [_, _, _, _, _, _, _, _, .i ((k + 1 + ((gd q 0).rows.length - (k + 1)) : Nat) : Int), _, _] = some (2 + 2, [_, _, _, _, _, _, _, _, .i ((k + 1 + ((gd q 0).rows.length - (k + 1)) : Nat) : Int), _, _])
        rw [hn, s_JudgeOrderR2]
        simp only [int_i, c_nlt]
    · show s_JudgeOrderL0 _ p q [_, _, _, _, _, _, .i ((gd q 0).rows.length : Int), _, _] = _
      rw [s_JudgeOrderR0]
      simp only [int_i, c_nlt]

end Go.Proofs.Ytdejncnjaebjfaa
