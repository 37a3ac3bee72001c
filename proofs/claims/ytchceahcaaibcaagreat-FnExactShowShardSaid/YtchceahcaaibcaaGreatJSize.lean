/-
  The judge: coordinators. Printed by sym.py.
-/
import Derived.Test.YtchceahcaaibcaaGreatRun
namespace Go.Proofs.YtchceahcaaibcaaGreat
set_option linter.unusedSimpArgs false
set_option linter.unusedVariables false
set_option maxRecDepth 4096
/-! loop.example/g00097/impl.CoordOk -/
abbrev i_CoordOkT : FuncId → List T → Option (T × Bool) := find [i_recOkE, cofKE, i_fromE, coIE]
theorem i_CoordOkT_ok : CallOk Tryz.prog i_CoordOkT := find_ok (List.forall_mem_cons.2 ⟨i_recOk_ok, List.forall_mem_cons.2 ⟨cofK_ok, List.forall_mem_cons.2 ⟨i_from_ok, List.forall_mem_cons.2 ⟨coI_ok, List.forall_mem_nil _⟩⟩⟩⟩)
abbrev i_CoordOkK : List Nat := [0, 1, 2, 3, 4, 5, 6, 7, 11, 13, 14, 15, 16, 37, 40, 45, 46, 47, 48, 75]
noncomputable def i_CoordOkL0 (N : Nat) (p : List D) : List D → Out := loopOf Tryz.prog i_CoordOkT N i_CoordOkK Tryz.f62 rb [⟨ag rICoord, p⟩] 0
noncomputable def i_CoordOkL2 (N : Nat) (p : List D) : List D → Out := loopOf Tryz.prog i_CoordOkT N i_CoordOkK Tryz.f62 rb [⟨ag rICoord, p⟩] 2
/- x0=t0(.one (.agg [.d (.sl 116), .d (.sl 3)])) x2=t1(.one (.c (.ptr 1 0))) x3=t2(.one (.c (.kb false))) x4=t11(rb) x5=t3(ri) x6=t13(sd (.sl 116)) x7=t14(ri) x8=t15(ri) x9=box1[.d (.sl 116), .d (.sl 3)] -/
theorem i_CoordOkR0 (N : Nat) (p : List D) (x0 x1 x2 x3 x4 x5 x6 x7 x8 x9 x10 : D) : (i_CoordOkL0 N p) [x0, x1, x2, x3, x4, x5, x6, x7, x8, x9, x10] =
  bif ltI x8.int x7.int then nd (inRange x8.int x6.rows.length) (bif (gd (x6.rows.getD x8.int.toNat []) 0).int != (w64 (x8.int + 1)) then ob false
  else bif !(recOk (sub (x6.rows.getD x8.int.toNat []) 0 5)) then ob false
  else nd (leI 0 0 && leI 0 x8.int && leI x8.int (x9.rows.length : Int)) (bif anyS (fun r => ixfKC (.l [[.l [sub (x6.rows.getD x8.int.toNat []) 0 5]]]) (sub r 0 5)) (.l (x9.rows.take x8.int.toNat)) then ob false
  else bif (gd (x6.rows.getD x8.int.toNat []) 3).int == 3 then nx [x0, x1, x2, x3, x4, .i (w64 (x5.int + 1)), x6, x7, .i (w64 (x8.int + 1)), x9, x10]
  else nx [x0, x1, x2, x3, x4, x5, x6, x7, .i (w64 (x8.int + 1)), x9, x10]))
  else ex 0 [x0, x1, x2, x3, x4, x5, x6, x7, x8, x9, x10] := by kernel_rfl
/- x0=t0(.one (.agg [.d (.sl 116), .d (.sl 3)])) x2=t1(.one (.c (.ptr 1 0))) x3=t2(.one (.c (.kb false))) x4=t11(rb) x5=t3(ri) x6=t13(sd (.sl 116)) x7=t14(ri) x8=t15(ri) x9=t45(sd (.sl 3)) x10=t46(ri) x11=t47(ri) x12=box1[.d (.sl 116), .d (.sl 3)] -/
theorem i_CoordOkR2 (N : Nat) (p : List D) (x0 x1 x2 x3 x4 x5 x6 x7 x8 x9 x10 x11 x12 x13 : D) : (i_CoordOkL2 N p) [x0, x1, x2, x3, x4, x5, x6, x7, x8, x9, x10, x11, x12, x13] =
  bif ltI x11.int x10.int then nd (inRange x11.int x9.rows.length) (bif !(inB (gd (x9.rows.getD x11.int.toNat []) 0).int 1 (x12.rows.length : Int)) then ob false
  else nd (inRange (w64 ((gd (x9.rows.getD x11.int.toNat []) 0).int - 1)) x12.rows.length) (bif (gd (x12.rows.getD (w64 ((gd (x9.rows.getD x11.int.toNat []) 0).int - 1)).toNat []) 3).int != 3 then ob false
  else nd (leI 0 0 && leI 0 x11.int && leI x11.int (x13.rows.length : Int)) (bif hasInt (.l (x13.rows.take x11.int.toNat)) (gd (x9.rows.getD x11.int.toNat []) 0).int then ob false
  else nx [x0, x1, x2, x3, x4, x5, x6, x7, x8, x9, x10, .i (w64 (x11.int + 1)), x12, x13])))
  else ex 2 [x0, x1, x2, x3, x4, x5, x6, x7, x8, x9, x10, x11, x12, x13] := by kernel_rfl
theorem i_CoordOk_ev (N : Nat) (p : List D) : evFn Tryz.prog i_CoordOkT N i_CoordOkK Tryz.f62 rb [⟨ag rICoord, p⟩] = some (bo,
  bif ltI 60 ((gd p 0).rows.length : Int) then ob false
  else (let o0 := iter (i_CoordOkL0 N p) N [gd p 0, gd p 1, .i 0, .i 0, .b (ltI 60 ((gd p 0).rows.length : Int)), .i 0, gd p 0, .i ((gd p 0).rows.length : Int), .i 0, gd p 0, gd p 1]
   nd o0.isSome (bif o0.code == 1 then some (1, o0.pay)
   else nd (o0.code == 2) ((let o2 := iter (i_CoordOkL2 N p) N [gd o0.pay 0, gd o0.pay 1, gd o0.pay 2, gd o0.pay 3, gd o0.pay 4, gd o0.pay 5, gd o0.pay 6, gd o0.pay 7, gd o0.pay 8, gd o0.pay 10, .i ((gd o0.pay 10).rows.length : Int), .i 0, gd o0.pay 9, gd o0.pay 10]
    nd o2.isSome (bif o2.code == 1 then some (1, o2.pay)
    else nd (o2.code == 4) (ob ((gd o2.pay 5).int == ((gd o2.pay 13).rows.length : Int))))))))) := by kernel_rfl
def recSame (a b : List D) : Bool := ((gd a 1).int == (gd b 1).int) && ((gd a 2).int == (gd b 2).int)
def recAt (z : D) (k : Nat) : Bool := ((gd (z.rows.getD k []) 0).int == ((k + 1 : Nat) : Int)) && (recOk (sub (z.rows.getD k []) 0 5) && !(List.range k).any fun j => recSame (z.rows.getD j []) (z.rows.getD k []))
def isYes (z : D) (k : Nat) : Bool := (gd (z.rows.getD k []) 3).int == 3
def ordAt (z o : D) (k : Nat) : Bool := inB (gd (o.rows.getD k []) 0).int 1 (z.rows.length : Int) && (((gd (z.rows.getD ((gd (o.rows.getD k []) 0).int - 1).toNat []) 3).int == 3) && !hasInt (.l (o.rows.take k)) (gd (o.rows.getD k []) 0).int)
def coordOk (p : List D) : Bool := decide ((gd p 0).rows.length ≤ 60) && ((List.range (gd p 0).rows.length).all (recAt (gd p 0)) && ((List.range (gd p 1).rows.length).all (ordAt (gd p 0) (gd p 1)) && ((cnt (isYes (gd p 0)) 0 (gd p 0).rows.length : Nat) : Int) == ((gd p 1).rows.length : Int)))
def i_CoordOkE : Ent := (62, e1 (ag rICoord) fun p => (⟨rb, [.b (coordOk p)]⟩, true))
theorem i_CoordOk_ok : EntOk Tryz.prog i_CoordOkE := e1_ok fun p h => evFn_sound (N := (gd p 0).rows.length + (gd p 1).rows.length + 1) (ks := i_CoordOkK) (key := bo) i_CoordOkT_ok (enters Tryz.func62 (by kernel_rfl) (by kernel_rfl)) Tryz.func62 fun hw => by
  rw [i_CoordOk_ev]
  have hl1 := wt_at (hw ⟨ag rICoord, p⟩ (by simp)) (j := 1) rfl
  by_cases h60 : (gd p 0).rows.length ≤ 60
  · rw [ltI_f (show ((gd p 0).rows.length : Int) ≤ 60 from by omega)]
    have e0 := for_loop (L := i_CoordOkL0 ((gd p 0).rows.length + (gd p 1).rows.length + 1) p) (fun k => [gd p 0, gd p 1, .i 0, .i 0, .b false, .i (cnt (isYes (gd p 0)) 0 k : Nat), gd p 0, .i ((gd p 0).rows.length : Int), .i (k : Int), gd p 0, gd p 1]) (gd p 0).rows.length (recAt (gd p 0)) [.b false] 0 (fun k hk => ?_) ?_ (N := (gd p 0).rows.length + (gd p 1).rows.length + 1) (by omega)
    · simp only [cnt_zero, Int.natCast_zero] at e0
      rw [cond_false, e0]
      simp only [coordOk, h60, decide_true, Bool.true_and]
      cases h1 : (List.range (gd p 0).rows.length).all (recAt (gd p 0))
      · rfl
      · have e2 := for_loop (L := i_CoordOkL2 ((gd p 0).rows.length + (gd p 1).rows.length + 1) p) (fun k => [gd p 0, gd p 1, .i 0, .i 0, .b false, .i (cnt (isYes (gd p 0)) 0 (gd p 0).rows.length : Nat), gd p 0, .i ((gd p 0).rows.length : Int), .i ((gd p 0).rows.length : Int), gd p 1, .i ((gd p 1).rows.length : Int), .i (k : Int), gd p 0, gd p 1]) (gd p 1).rows.length (ordAt (gd p 0) (gd p 1)) [.b false] 2 (fun k hk => ?_) ?_ (N := (gd p 0).rows.length + (gd p 1).rows.length + 1) (by omega)
        · simp only [Int.natCast_zero] at e2
          simp only [nd, cond_true, cond_false, Option.isSome_some, Out.code, Out.pay, Option.getD_some, gd_cons_zero, gd_cons_succ, Nat.reduceBEq, Nat.reduceAdd, int_i, bool_b, str_s, rows_l, Bool.not_true, Bool.not_false, beq_self_eq_true]
          rw [e2]
          cases h2 : (List.range (gd p 1).rows.length).all (ordAt (gd p 0) (gd p 1)) <;> rfl
        · show i_CoordOkL2 _ p [_, _, _, _, _, _, _, _, _, _, _, .i (k : Int), _, _] = _
          rw [i_CoordOkR2]
          simp only [int_i, c_lt hk, nd_ix hk, w64_succ hk hl1, Int.toNat_natCast, nd_take (Nat.le_of_lt hk), bne_not, ordAt]
          cases hb : inB (gd ((gd p 1).rows.getD k []) 0).int 1 ((gd p 0).rows.length : Int)
          · rfl
          · have hb' := hb
            simp only [inB, Bool.and_eq_true, decide_eq_true_eq] at hb'
            obtain ⟨m, hm⟩ : ∃ m : Nat, (gd ((gd p 1).rows.getD k []) 0).int = ((m + 1 : Nat) : Int) := ⟨((gd ((gd p 1).rows.getD k []) 0).int - 1).toNat, by omega⟩
            rw [hm] at hb' ⊢
            rw [show w64 (((m + 1 : Nat) : Int) - 1) = (m : Int) from by rw [w64_id (by omega) (by omega)]; omega, show ((m + 1 : Nat) : Int) - 1 = (m : Int) from by omega, nd_ix (show m < (gd p 0).rows.length from by omega), Int.toNat_natCast]
            cases (gd ((gd p 0).rows.getD m []) 3).int == 3 <;> cases hasInt (.l ((gd p 1).rows.take k)) ((m + 1 : Nat) : Int) <;> rfl
        · show i_CoordOkL2 _ p [_, _, _, _, _, _, _, _, _, _, _, .i ((gd p 1).rows.length : Int), _, _] = _
          rw [i_CoordOkR2]
          simp only [int_i, c_nlt]
    · show i_CoordOkL0 _ p [_, _, _, _, _, _, _, _, .i (k : Int), _, _] = _
      rw [i_CoordOkR0]
      simp only [int_i, c_lt hk, nd_ix hk, w64_succ hk (show (gd p 0).rows.length ≤ 9223372036854775807 from by omega), Int.toNat_natCast, nd_take (Nat.le_of_lt hk), bne_not, recAt, anyS_take (Nat.le_of_lt hk), cnt_succ, Nat.zero_add]
      have hc := cnt_le (isYes (gd p 0)) k 0
      rw [w64_id (x := (cnt (isYes (gd p 0)) 0 k : Int) + 1) (by omega) (by omega)]
      rw [show ((List.range k).any fun j => ixfKC (.l [[.l [sub ((gd p 0).rows.getD k []) 0 5]]]) (sub ((gd p 0).rows.getD j []) 0 5)) = (List.range k).any fun j => recSame ((gd p 0).rows.getD j []) ((gd p 0).rows.getD k []) from rfl]
      cases (gd ((gd p 0).rows.getD k []) 0).int == ((k + 1 : Nat) : Int)
      · rfl
      cases recOk (sub ((gd p 0).rows.getD k []) 0 5)
      · rfl
      cases (List.range k).any fun j => recSame ((gd p 0).rows.getD j []) ((gd p 0).rows.getD k [])
      · rw [show ((gd ((gd p 0).rows.getD k []) 3).int == 3) = isYes (gd p 0) k from rfl]
        cases isYes (gd p 0) k <;> rfl
      · rfl
    · show i_CoordOkL0 _ p [_, _, _, _, _, _, _, .i ((gd p 0).rows.length : Int), .i ((gd p 0).rows.length : Int), _, _] = _
      rw [i_CoordOkR0]
      simp only [int_i, c_nlt]
  · rw [ltI_t (show (60 : Int) < ((gd p 0).rows.length : Int) from by omega)]
    simp only [coordOk, h60, decide_false, Bool.false_and]
    rfl

/-! loop.example/g00097/spec.CoordOk -/
abbrev s_CoordOkT : FuncId → List T → Option (T × Bool) := find [s_l14RecOkE, s_l1InE, s_l12HasE]
theorem s_CoordOkT_ok : CallOk Tryz.prog s_CoordOkT := find_ok (List.forall_mem_cons.2 ⟨s_l14RecOk_ok, List.forall_mem_cons.2 ⟨s_l1In_ok, List.forall_mem_cons.2 ⟨s_l12Has_ok, List.forall_mem_nil _⟩⟩⟩)
abbrev s_CoordOkK : List Nat := [0, 1, 2, 3, 4, 5, 6, 7, 8, 18, 23, 40, 43, 65, 68, 75, 106]
noncomputable def s_CoordOkL0 (N : Nat) (p : List D) : List D → Out := loopOf Tryz.prog s_CoordOkT N s_CoordOkK Tryz.f48 rb [⟨ag rICoord, p⟩] 0
noncomputable def s_CoordOkL2 (N : Nat) (p : List D) : List D → Out := loopOf Tryz.prog s_CoordOkT N s_CoordOkK Tryz.f48 rb [⟨ag rICoord, p⟩] 2
noncomputable def s_CoordOkL4 (N : Nat) (p : List D) : List D → Out := loopOf Tryz.prog s_CoordOkT N s_CoordOkK Tryz.f48 rb [⟨ag rICoord, p⟩] 4
/- x0=t0(.one (.agg [.d (.sl 116), .d (.sl 3)])) x2=t1(.one (.c (.ptr 1 0))) x3=t2(.one (.c (.kb false))) x4=t18(rb) x5=t3(ri) x6=t4(ri) x7=box1[.d (.sl 116), .d (.sl 3)] -/
theorem s_CoordOkR0 (N : Nat) (p : List D) (x0 x1 x2 x3 x4 x5 x6 x7 x8 : D) : (s_CoordOkL0 N p) [x0, x1, x2, x3, x4, x5, x6, x7, x8] =
  bif ltI x6.int (x7.rows.length : Int) then nd (inRange x6.int x7.rows.length) (bif (gd (x7.rows.getD x6.int.toNat []) 0).int != (w64 (x6.int + 1)) then ob false
  else bif !(recOk (sub (x7.rows.getD x6.int.toNat []) 0 5)) then ob false
  else (let o2 := iter (s_CoordOkL2 N p) N [x0, x1, x2, x3, x4, x5, x6, .b (ltI x6.int (x7.rows.length : Int)), .i 0, .b (!(recOk (sub (x7.rows.getD x6.int.toNat []) 0 5))), .i 0, x7, x8, gd (x7.rows.getD x6.int.toNat []) 0, gd (x7.rows.getD x6.int.toNat []) 1, gd (x7.rows.getD x6.int.toNat []) 2, gd (x7.rows.getD x6.int.toNat []) 3, gd (x7.rows.getD x6.int.toNat []) 4]
   nd o2.isSome (bif o2.code == 1 then some (1, o2.pay)
   else nd (o2.code == 4) (bif (gd o2.pay 16).int == 3 then nx [gd o2.pay 0, gd o2.pay 1, gd o2.pay 2, gd o2.pay 3, gd o2.pay 4, .i (w64 ((gd o2.pay 5).int + 1)), .i (w64 ((gd o2.pay 6).int + 1)), gd o2.pay 11, gd o2.pay 12]
   else nx [gd o2.pay 0, gd o2.pay 1, gd o2.pay 2, gd o2.pay 3, gd o2.pay 4, gd o2.pay 5, .i (w64 ((gd o2.pay 6).int + 1)), gd o2.pay 11, gd o2.pay 12]))))
  else ex 0 [x0, x1, x2, x3, x4, x5, x6, x7, x8] := by kernel_rfl
/- x0=t0(.one (.agg [.d (.sl 116), .d (.sl 3)])) x2=t1(.one (.c (.ptr 1 0))) x3=t2(.one (.c (.kb false))) x4=t18(rb) x5=t3(ri) x6=t4(ri) x7=t23(rb) x8=t5(.one (.c (.ptr 5 0))) x9=t40(rb) x10=t6(ri) x11=box1[.d (.sl 116), .d (.sl 3)] x13=box5[.d si, .d si, .d si, .d si, .d (.sl 118)] -/
theorem s_CoordOkR2 (N : Nat) (p : List D) (x0 x1 x2 x3 x4 x5 x6 x7 x8 x9 x10 x11 x12 x13 x14 x15 x16 x17 : D) : (s_CoordOkL2 N p) [x0, x1, x2, x3, x4, x5, x6, x7, x8, x9, x10, x11, x12, x13, x14, x15, x16, x17] =
  bif ltI x10.int x6.int then nd (inRange x10.int x11.rows.length) (bif (gd (x11.rows.getD x10.int.toNat []) 1).int == x14.int then nd (inRange x10.int x11.rows.length) (bif (gd (x11.rows.getD x10.int.toNat []) 2).int == x15.int then ob false
  else nx [x0, x1, x2, x3, x4, x5, x6, x7, x8, x9, .i (w64 (x10.int + 1)), x11, x12, x13, x14, x15, x16, x17])
  else nx [x0, x1, x2, x3, x4, x5, x6, x7, x8, x9, .i (w64 (x10.int + 1)), x11, x12, x13, x14, x15, x16, x17])
  else ex 2 [x0, x1, x2, x3, x4, x5, x6, x7, x8, x9, x10, x11, x12, x13, x14, x15, x16, x17] := by kernel_rfl
/- x0=t0(.one (.agg [.d (.sl 116), .d (.sl 3)])) x2=t1(.one (.c (.ptr 1 0))) x3=t2(.one (.c (.kb false))) x4=t18(rb) x5=t3(ri) x6=t4(ri) x7=t7(ri) x8=box1[.d (.sl 116), .d (.sl 3)] -/
theorem s_CoordOkR4 (N : Nat) (p : List D) (x0 x1 x2 x3 x4 x5 x6 x7 x8 x9 : D) : (s_CoordOkL4 N p) [x0, x1, x2, x3, x4, x5, x6, x7, x8, x9] =
  bif ltI x7.int (x9.rows.length : Int) then nd (inRange x7.int x9.rows.length) (bif !(inB (gd (x9.rows.getD x7.int.toNat []) 0).int 1 (x8.rows.length : Int)) then ob false
  else nd (inRange (w64 ((gd (x9.rows.getD x7.int.toNat []) 0).int - 1)) x8.rows.length) (bif (gd (x8.rows.getD (w64 ((gd (x9.rows.getD x7.int.toNat []) 0).int - 1)).toNat []) 3).int != 3 then ob false
  else nd (leI 0 0 && leI 0 x7.int && leI x7.int (x9.rows.length : Int)) (bif hasInt (.l (x9.rows.take x7.int.toNat)) (gd (x9.rows.getD x7.int.toNat []) 0).int then ob false
  else nx [x0, x1, x2, x3, x4, x5, x6, .i (w64 (x7.int + 1)), x8, x9])))
  else ex 4 [x0, x1, x2, x3, x4, x5, x6, x7, x8, x9] := by kernel_rfl
theorem s_CoordOk_ev (N : Nat) (p : List D) : evFn Tryz.prog s_CoordOkT N s_CoordOkK Tryz.f48 rb [⟨ag rICoord, p⟩] = some (bo,
  bif ltI 60 ((gd p 0).rows.length : Int) then ob false
  else bif ltI 60 ((gd p 1).rows.length : Int) then ob false
  else (let o0 := iter (s_CoordOkL0 N p) N [gd p 0, gd p 1, .i 0, .i 0, .b (ltI 60 ((gd p 1).rows.length : Int)), .i 0, .i 0, gd p 0, gd p 1]
   nd o0.isSome (bif o0.code == 1 then some (1, o0.pay)
   else nd (o0.code == 2) ((let o4 := iter (s_CoordOkL4 N p) N [gd o0.pay 0, gd o0.pay 1, gd o0.pay 2, gd o0.pay 3, gd o0.pay 4, gd o0.pay 5, gd o0.pay 6, .i 0, gd o0.pay 7, gd o0.pay 8]
    nd o4.isSome (bif o4.code == 1 then some (1, o4.pay)
    else nd (o4.code == 6) (ob ((gd o4.pay 5).int == ((gd o4.pay 9).rows.length : Int))))))))) := by kernel_rfl
theorem not_any {n : Nat} {C : Nat → Bool} : ((List.range n).all fun k => !C k) = !(List.range n).any C := by simp [List.all_eq_not_any_not]
theorem s_CoordOkU (N : Nat) (p : List D) (hN : (gd p 0).rows.length < N) (hl : (gd p 0).rows.length ≤ 60) (y : D) (k : Nat) (hk : k < (gd p 0).rows.length) :
    iter (s_CoordOkL2 N p) N [gd p 0, gd p 1, .i 0, .i 0, .b false, y, .i (k : Int), .b true, .i 0, .b false, .i 0, gd p 0, gd p 1, gd ((gd p 0).rows.getD k []) 0, gd ((gd p 0).rows.getD k []) 1, gd ((gd p 0).rows.getD k []) 2, gd ((gd p 0).rows.getD k []) 3, gd ((gd p 0).rows.getD k []) 4] =
    some (bif (List.range k).any (fun j => recSame ((gd p 0).rows.getD j []) ((gd p 0).rows.getD k [])) then (1, [.b false]) else (4, [gd p 0, gd p 1, .i 0, .i 0, .b false, y, .i (k : Int), .b true, .i 0, .b false, .i (k : Int), gd p 0, gd p 1, gd ((gd p 0).rows.getD k []) 0, gd ((gd p 0).rows.getD k []) 1, gd ((gd p 0).rows.getD k []) 2, gd ((gd p 0).rows.getD k []) 3, gd ((gd p 0).rows.getD k []) 4])) := by
  have e := for_loop (L := s_CoordOkL2 N p) (fun j => [gd p 0, gd p 1, .i 0, .i 0, .b false, y, .i (k : Int), .b true, .i 0, .b false, .i (j : Int), gd p 0, gd p 1, gd ((gd p 0).rows.getD k []) 0, gd ((gd p 0).rows.getD k []) 1, gd ((gd p 0).rows.getD k []) 2, gd ((gd p 0).rows.getD k []) 3, gd ((gd p 0).rows.getD k []) 4]) k (fun j => !recSame ((gd p 0).rows.getD j []) ((gd p 0).rows.getD k [])) [.b false] 2 (fun j hj => ?_) ?_ (N := N) (by omega)
  · simp only [Int.natCast_zero, not_any] at e
    rw [e]
    cases (List.range k).any (fun j => recSame ((gd p 0).rows.getD j []) ((gd p 0).rows.getD k [])) <;> rfl
  · show s_CoordOkL2 N p [_, _, _, _, _, _, .i (k : Int), _, _, _, .i (j : Int), _, _, _, _, _, _, _] = _
    rw [s_CoordOkR2]
    simp only [int_i, c_lt hj, nd_ix (Nat.lt_trans hj hk), w64_succ hj (show k ≤ 9223372036854775807 from by omega), Int.toNat_natCast, recSame]
    cases (gd ((gd p 0).rows.getD j []) 1).int == (gd ((gd p 0).rows.getD k []) 1).int <;> cases (gd ((gd p 0).rows.getD j []) 2).int == (gd ((gd p 0).rows.getD k []) 2).int <;> rfl
  · show s_CoordOkL2 N p [_, _, _, _, _, _, .i (k : Int), _, _, _, .i (k : Int), _, _, _, _, _, _, _] = _
    rw [s_CoordOkR2]
    simp only [int_i, c_nlt]
def s_CoordOkE : Ent := (48, e1 (ag rICoord) fun p => (⟨rb, [.b (coordOk p)]⟩, true))
theorem s_CoordOk_ok : EntOk Tryz.prog s_CoordOkE := e1_ok fun p h => evFn_sound (N := (gd p 0).rows.length + (gd p 1).rows.length + 1) (ks := s_CoordOkK) (key := bo) s_CoordOkT_ok (enters Tryz.func48 (by kernel_rfl) (by kernel_rfl)) Tryz.func48 fun hw => by
  rw [s_CoordOk_ev]
  have hl1 := wt_at (hw ⟨ag rICoord, p⟩ (by simp)) (j := 1) rfl
  by_cases h60 : (gd p 0).rows.length ≤ 60
  · rw [ltI_f (show ((gd p 0).rows.length : Int) ≤ 60 from by omega), cond_false]
    by_cases h61 : (gd p 1).rows.length ≤ 60
    · rw [ltI_f (show ((gd p 1).rows.length : Int) ≤ 60 from by omega), cond_false]
      have e0 := for_loop (L := s_CoordOkL0 ((gd p 0).rows.length + (gd p 1).rows.length + 1) p) (fun k => [gd p 0, gd p 1, .i 0, .i 0, .b false, .i (cnt (isYes (gd p 0)) 0 k : Nat), .i (k : Int), gd p 0, gd p 1]) (gd p 0).rows.length (recAt (gd p 0)) [.b false] 0 (fun k hk => ?_) ?_ (N := (gd p 0).rows.length + (gd p 1).rows.length + 1) (by omega)
      · simp only [cnt_zero, Int.natCast_zero] at e0
        rw [e0]
        simp only [coordOk, h60, decide_true, Bool.true_and]
        cases h1 : (List.range (gd p 0).rows.length).all (recAt (gd p 0))
        · rfl
        · have e2 := for_loop (L := s_CoordOkL4 ((gd p 0).rows.length + (gd p 1).rows.length + 1) p) (fun k => [gd p 0, gd p 1, .i 0, .i 0, .b false, .i (cnt (isYes (gd p 0)) 0 (gd p 0).rows.length : Nat), .i ((gd p 0).rows.length : Int), .i (k : Int), gd p 0, gd p 1]) (gd p 1).rows.length (ordAt (gd p 0) (gd p 1)) [.b false] 4 (fun k hk => ?_) ?_ (N := (gd p 0).rows.length + (gd p 1).rows.length + 1) (by omega)
          · simp only [Int.natCast_zero] at e2
            simp only [nd, cond_true, cond_false, Option.isSome_some, Out.code, Out.pay, Option.getD_some, gd_cons_zero, gd_cons_succ, Nat.reduceBEq, Nat.reduceAdd, int_i, bool_b, str_s, rows_l, Bool.not_true, Bool.not_false, beq_self_eq_true]
            rw [e2]
            cases h2 : (List.range (gd p 1).rows.length).all (ordAt (gd p 0) (gd p 1)) <;> rfl
          · show s_CoordOkL4 _ p [_, _, _, _, _, _, _, .i (k : Int), _, _] = _
            rw [s_CoordOkR4]
            simp only [int_i, c_lt hk, nd_ix hk, w64_succ hk hl1, Int.toNat_natCast, nd_take (Nat.le_of_lt hk), bne_not, ordAt]
            cases hb : inB (gd ((gd p 1).rows.getD k []) 0).int 1 ((gd p 0).rows.length : Int)
            · rfl
            · have hb' := hb
              simp only [inB, Bool.and_eq_true, decide_eq_true_eq] at hb'
              obtain ⟨m, hm⟩ : ∃ m : Nat, (gd ((gd p 1).rows.getD k []) 0).int = ((m + 1 : Nat) : Int) := ⟨((gd ((gd p 1).rows.getD k []) 0).int - 1).toNat, by omega⟩
              rw [hm] at hb' ⊢
              rw [show w64 (((m + 1 : Nat) : Int) - 1) = (m : Int) from by rw [w64_id (by omega) (by omega)]; omega, show ((m + 1 : Nat) : Int) - 1 = (m : Int) from by omega, nd_ix (show m < (gd p 0).rows.length from by omega), Int.toNat_natCast]
              cases (gd ((gd p 0).rows.getD m []) 3).int == 3 <;> cases hasInt (.l ((gd p 1).rows.take k)) ((m + 1 : Nat) : Int) <;> rfl
          · show s_CoordOkL4 _ p [_, _, _, _, _, _, _, .i ((gd p 1).rows.length : Int), _, _] = _
            rw [s_CoordOkR4]
            simp only [int_i, c_nlt]
      · show s_CoordOkL0 _ p [_, _, _, _, _, _, .i (k : Int), _, _] = _
        rw [s_CoordOkR0]
        simp only [int_i, ltI_nat hk, nd_ix hk, w64_succ hk (show (gd p 0).rows.length ≤ 9223372036854775807 from by omega), Int.toNat_natCast, bne_not, recAt, cnt_succ, Nat.zero_add]
        have hc := cnt_le (isYes (gd p 0)) k 0
        cases (gd ((gd p 0).rows.getD k []) 0).int == ((k + 1 : Nat) : Int)
        · rfl
        cases recOk (sub ((gd p 0).rows.getD k []) 0 5)
        · rfl
        simp only [nd, cond_true, cond_false, Option.isSome_some, Out.code, Out.pay, Option.getD_some, gd_cons_zero, gd_cons_succ, Nat.reduceBEq, Nat.reduceAdd, int_i, bool_b, str_s, rows_l, Bool.not_true, Bool.not_false, beq_self_eq_true, Bool.true_and, s_CoordOkU ((gd p 0).rows.length + (gd p 1).rows.length + 1) p (by omega) h60 _ k hk]
        cases (List.range k).any fun j => recSame ((gd p 0).rows.getD j []) ((gd p 0).rows.getD k [])
        · simp only [nd, cond_true, cond_false, Option.isSome_some, Out.code, Out.pay, Option.getD_some, gd_cons_zero, gd_cons_succ, Nat.reduceBEq, Nat.reduceAdd, int_i, bool_b, str_s, rows_l, Bool.not_true, Bool.not_false, beq_self_eq_true, Bool.true_and, show ((gd ((gd p 0).rows.getD k []) 3).int == 3) = isYes (gd p 0) k from rfl, w64_id (x := (cnt (isYes (gd p 0)) 0 k : Int) + 1) (by omega) (by omega), w64_succ hk (show (gd p 0).rows.length ≤ 9223372036854775807 from by omega)]
          cases isYes (gd p 0) k <;> rfl
        · rfl
      · show s_CoordOkL0 _ p [_, _, _, _, _, _, .i ((gd p 0).rows.length : Int), _, _] = _
        rw [s_CoordOkR0]
        simp only [int_i, c_nlt]
    · rw [ltI_t (show (60 : Int) < ((gd p 1).rows.length : Int) from by omega)]
      have hc := cnt_le (isYes (gd p 0)) (gd p 0).rows.length 0
      simp only [coordOk, show (((cnt (isYes (gd p 0)) 0 (gd p 0).rows.length : Nat) : Int) == ((gd p 1).rows.length : Int)) = false from beq_eq_false_iff_ne.2 (by omega), Bool.and_false]
      rfl
  · rw [ltI_t (show (60 : Int) < ((gd p 0).rows.length : Int) from by omega)]
    simp only [coordOk, h60, decide_false, Bool.false_and]
    rfl

end Go.Proofs.YtchceahcaaibcaaGreat
namespace Go.Proofs.YtchceahcaaibcaaGreat
set_option linter.unusedSimpArgs false
set_option linter.unusedVariables false
set_option maxRecDepth 4096
/-! loop.example/g00097/impl.CoordState -/
abbrev i_CoordStateT : FuncId → List T → Option (T × Bool) := find [i_CoordOkE, i_isRecE]
theorem i_CoordStateT_ok : CallOk Tryz.prog i_CoordStateT := find_ok (List.forall_mem_cons.2 ⟨i_CoordOk_ok, List.forall_mem_cons.2 ⟨i_isRec_ok, List.forall_mem_nil _⟩⟩)
abbrev i_CoordStateK : List Nat := [0, 1, 2, 4, 13]
theorem i_CoordState_ev (N : Nat) (p q : List D) : evFn Tryz.prog i_CoordStateT N i_CoordStateK Tryz.f229 ri [⟨ag rICoord, p⟩, ⟨ri, q⟩] = some (bo,
  bif !(coordOk (sub p 0 2)) then oi 0
  else bif !(inB (gd q 0).int 1 (gd p 0).rows.length) then oi 0
  else nd (inRange (w64 ((gd q 0).int - 1)) (gd p 0).rows.length) (some (1, [gd ((gd p 0).rows.getD (w64 ((gd q 0).int - 1)).toNat []) 3]))) := by kernel_rfl
def coordState (p : List D) (tx : Int) : D := bif coordOk p && inB tx 1 ((gd p 0).rows.length : Int) then gd ((gd p 0).rows.getD (tx - 1).toNat []) 3 else .i 0
theorem state_go (p : List D) (tx : Int) (hl : (gd p 0).rows.length ≤ 9223372036854775807) :
    (bif !(coordOk p) then oi 0 else bif !(inB tx 1 ((gd p 0).rows.length : Int)) then oi 0 else nd (inRange (w64 (tx - 1)) (gd p 0).rows.length) (some (1, [gd ((gd p 0).rows.getD (w64 (tx - 1)).toNat []) 3]))) = some (1, [coordState p tx]) := by
  unfold coordState
  cases coordOk p
  · rfl
  cases hb : inB tx 1 ((gd p 0).rows.length : Int)
  · rfl
  · simp only [inB, Bool.and_eq_true, decide_eq_true_eq] at hb
    obtain ⟨m, rfl⟩ : ∃ m : Nat, tx = ((m + 1 : Nat) : Int) := ⟨(tx - 1).toNat, by omega⟩
    rw [show w64 (((m + 1 : Nat) : Int) - 1) = (m : Int) from by rw [w64_id (by omega) (by omega)]; omega, show ((m + 1 : Nat) : Int) - 1 = (m : Int) from by omega, inRange_nat (show m < (gd p 0).rows.length from by omega)]
    rfl
def i_CoordStateE : Ent := (229, e2 (ag rICoord) ri fun p q => (⟨ri, [coordState p (gd q 0).int]⟩, true))
theorem i_CoordState_ok : EntOk Tryz.prog i_CoordStateE := e2_ok fun p q h => evFn_sound (N := 0) (ks := i_CoordStateK) (key := bo) i_CoordStateT_ok (enters Tryz.func229 (by kernel_rfl) (by kernel_rfl)) Tryz.func229 fun hw => by
  rw [i_CoordState_ev]
  exact congrArg (fun o => some (bo, o)) (state_go p (gd q 0).int (wt_at (hw ⟨ag rICoord, p⟩ (by simp)) (j := 0) rfl))

/-! loop.example/g00097/spec.CoordState -/
abbrev s_CoordStateT : FuncId → List T → Option (T × Bool) := find [s_CoordOkE, s_l1InE]
theorem s_CoordStateT_ok : CallOk Tryz.prog s_CoordStateT := find_ok (List.forall_mem_cons.2 ⟨s_CoordOk_ok, List.forall_mem_cons.2 ⟨s_l1In_ok, List.forall_mem_nil _⟩⟩)
abbrev s_CoordStateK : List Nat := [0, 1, 2, 4, 15]
theorem s_CoordState_ev (N : Nat) (p q : List D) : evFn Tryz.prog s_CoordStateT N s_CoordStateK Tryz.f223 ri [⟨ag rICoord, p⟩, ⟨ri, q⟩] = some (bo,
  bif !(coordOk (sub p 0 2)) then oi 0
  else bif !(inB (gd q 0).int 1 ((gd p 0).rows.length : Int)) then oi 0
  else nd (inRange (w64 ((gd q 0).int - 1)) (gd p 0).rows.length) (some (1, [gd ((gd p 0).rows.getD (w64 ((gd q 0).int - 1)).toNat []) 3]))) := by kernel_rfl
def s_CoordStateE : Ent := (223, e2 (ag rICoord) ri fun p q => (⟨ri, [coordState p (gd q 0).int]⟩, true))
theorem s_CoordState_ok : EntOk Tryz.prog s_CoordStateE := e2_ok fun p q h => evFn_sound (N := 0) (ks := s_CoordStateK) (key := bo) s_CoordStateT_ok (enters Tryz.func223 (by kernel_rfl) (by kernel_rfl)) Tryz.func223 fun hw => by
  rw [s_CoordState_ev]
  exact congrArg (fun o => some (bo, o)) (state_go p (gd q 0).int (wt_at (hw ⟨ag rICoord, p⟩ (by simp)) (j := 0) rfl))

/-! loop.example/g00097/impl.judged -/
abbrev i_judgedT : FuncId → List T → Option (T × Bool) := find [i_CoordOkE]
theorem i_judgedT_ok : CallOk Tryz.prog i_judgedT := find_ok (List.forall_mem_cons.2 ⟨i_CoordOk_ok, List.forall_mem_nil _⟩)
abbrev i_judgedK : List Nat := [0, 1, 2, 4]
theorem i_judged_ev (N : Nat) (p q : List D) : evFn Tryz.prog i_judgedT N i_judgedK Tryz.f224 rb [⟨ag rICoord, p⟩, ⟨sd (.sl 88), q⟩] = some (bo,
  bif coordOk (sub p 0 2) then ob (leI ((gd q 0).rows.length : Int) 200)
  else ob false) := by kernel_rfl
def judged (p : List D) (z : D) : Bool := coordOk p && leI (z.rows.length : Int) 200
def i_judgedE : Ent := (224, e2 (ag rICoord) (sd (.sl 88)) fun p q => (⟨rb, [.b (judged p (gd q 0))]⟩, true))
theorem i_judged_ok : EntOk Tryz.prog i_judgedE := e2_ok fun p q h => evFn_sound (N := 0) (ks := i_judgedK) (key := bo) i_judgedT_ok (enters Tryz.func224 (by kernel_rfl) (by kernel_rfl)) Tryz.func224 fun hw => by
  rw [i_judged_ev]
  rw [and_ob]; rfl

/-! loop.example/g00097/spec.l17Right -/
abbrev s_l17RightT : FuncId → List T → Option (T × Bool) := find [s_CoordOkE]
theorem s_l17RightT_ok : CallOk Tryz.prog s_l17RightT := find_ok (List.forall_mem_cons.2 ⟨s_CoordOk_ok, List.forall_mem_nil _⟩)
abbrev s_l17RightK : List Nat := [0, 1, 2, 4]
theorem s_l17Right_ev (N : Nat) (p q : List D) : evFn Tryz.prog s_l17RightT N s_l17RightK Tryz.f220 rb [⟨ag rICoord, p⟩, ⟨sd (.sl 88), q⟩] = some (bo,
  bif coordOk (sub p 0 2) then ob (leI ((gd q 0).rows.length : Int) 200)
  else ob false) := by kernel_rfl
def s_l17RightE : Ent := (220, e2 (ag rICoord) (sd (.sl 88)) fun p q => (⟨rb, [.b (judged p (gd q 0))]⟩, true))
theorem s_l17Right_ok : EntOk Tryz.prog s_l17RightE := e2_ok fun p q h => evFn_sound (N := 0) (ks := s_l17RightK) (key := bo) s_l17RightT_ok (enters Tryz.func220 (by kernel_rfl) (by kernel_rfl)) Tryz.func220 fun hw => by
  rw [s_l17Right_ev]
  rw [and_ob]; rfl

/-! loop.example/g00097/impl.JudgeEnds -/
abbrev i_JudgeEndsT : FuncId → List T → Option (T × Bool) := find [i_judgedE, i_CoordStateE]
theorem i_JudgeEndsT_ok : CallOk Tryz.prog i_JudgeEndsT := find_ok (List.forall_mem_cons.2 ⟨i_judged_ok, List.forall_mem_cons.2 ⟨i_CoordState_ok, List.forall_mem_nil _⟩⟩)
abbrev i_JudgeEndsK : List Nat := [0, 1, 2, 4, 6, 7, 11, 12, 13, 14, 15, 19, 30]
noncomputable def i_JudgeEndsL0 (N : Nat) (p q : List D) : List D → Out := loopOf Tryz.prog i_JudgeEndsT N i_JudgeEndsK Tryz.f117 rb [⟨ag rICoord, p⟩, ⟨sd (.sl 88), q⟩] 0
/- x0=t0(.one (.agg [.d (.sl 116), .d (.sl 3)])) x2=t1(sd (.sl 88)) x3=t2(.one (.c (.ptr 2 0))) x4=t4(.one (.c (.kb false))) x5=t11(rb) x6=t12(sd (.sl 88)) x7=t13(ri) x8=t14(ri) x9=box2[.d (.sl 116), .d (.sl 3)] -/
theorem i_JudgeEndsR0 (N : Nat) (p q : List D) (x0 x1 x2 x3 x4 x5 x6 x7 x8 x9 x10 : D) : (i_JudgeEndsL0 N p q) [x0, x1, x2, x3, x4, x5, x6, x7, x8, x9, x10] =
  bif ltI x8.int x7.int then nd (inRange x8.int x6.rows.length) (bif (gd (x6.rows.getD x8.int.toNat []) 6).bool then bif (gd (x6.rows.getD x8.int.toNat []) 0).int == 3 then bif (coordState [x9, x10] (gd (x6.rows.getD x8.int.toNat []) 2).int).int != 3 then ob false
  else nx [x0, x1, x2, x3, x4, x5, x6, x7, .i (w64 (x8.int + 1)), x9, x10]
  else nx [x0, x1, x2, x3, x4, x5, x6, x7, .i (w64 (x8.int + 1)), x9, x10]
  else bif (gd (x6.rows.getD x8.int.toNat []) 0).int == 3 then bif (coordState [x9, x10] (gd (x6.rows.getD x8.int.toNat []) 2).int).int != 4 then ob false
  else nx [x0, x1, x2, x3, x4, x5, x6, x7, .i (w64 (x8.int + 1)), x9, x10]
  else nx [x0, x1, x2, x3, x4, x5, x6, x7, .i (w64 (x8.int + 1)), x9, x10])
  else ex 0 [x0, x1, x2, x3, x4, x5, x6, x7, x8, x9, x10] := by kernel_rfl
theorem i_JudgeEnds_ev (N : Nat) (p q : List D) : evFn Tryz.prog i_JudgeEndsT N i_JudgeEndsK Tryz.f117 rb [⟨ag rICoord, p⟩, ⟨sd (.sl 88), q⟩] = some (bo,
  bif !(judged (sub p 0 2) (gd q 0)) then ob false
  else (let o0 := iter (i_JudgeEndsL0 N p q) N [gd p 0, gd p 1, gd q 0, .i 0, .i 0, .b (!(judged (sub p 0 2) (gd q 0))), gd q 0, .i ((gd q 0).rows.length : Int), .i 0, gd p 0, gd p 1]
   nd o0.isSome (bif o0.code == 1 then some (1, o0.pay)
   else nd (o0.code == 2) (ob true)))) := by kernel_rfl
def endAt (p : List D) (z : D) (k : Nat) : Bool := bif (gd (z.rows.getD k []) 0).int == 3 then (coordState p (gd (z.rows.getD k []) 2).int).int == (bif (gd (z.rows.getD k []) 6).bool then 3 else 4) else true
def judgeEnds (p : List D) (z : D) : Bool := judged p z && (List.range z.rows.length).all (endAt p z)
def i_JudgeEndsE : Ent := (117, e2 (ag rICoord) (sd (.sl 88)) fun p q => (⟨rb, [.b (judgeEnds p (gd q 0))]⟩, true))
theorem i_JudgeEnds_ok : EntOk Tryz.prog i_JudgeEndsE := e2_ok fun p q h => evFn_sound (N := 201) (ks := i_JudgeEndsK) (key := bo) i_JudgeEndsT_ok (enters Tryz.func117 (by kernel_rfl) (by kernel_rfl)) Tryz.func117 fun hw => by
  rw [i_JudgeEnds_ev]
  have hs : judged (sub p 0 2) (gd q 0) = judged p (gd q 0) := rfl
  rw [hs]
  unfold judgeEnds
  cases hj : judged p (gd q 0)
  · rfl
  · have h200 : (gd q 0).rows.length ≤ 200 := by
      simp only [judged, leI, Bool.and_eq_true, decide_eq_true_eq] at hj
      omega
    have e0 := for_loop (L := i_JudgeEndsL0 201 p q) (fun k => [gd p 0, gd p 1, gd q 0, .i 0, .i 0, .b false, gd q 0, .i ((gd q 0).rows.length : Int), .i (k : Int), gd p 0, gd p 1]) (gd q 0).rows.length (endAt p (gd q 0)) [.b false] 0 (fun k hk => ?_) ?_ (N := 201) (by omega)
    · simp only [Int.natCast_zero] at e0
      simp only [Bool.not_true, cond_false, e0, Bool.true_and]
      cases (List.range (gd q 0).rows.length).all (endAt p (gd q 0)) <;> rfl
    · show i_JudgeEndsL0 _ p q [_, _, _, _, _, _, _, _, .i (k : Int), _, _] = _
      rw [i_JudgeEndsR0]
      simp only [int_i, c_lt hk, nd_ix hk, w64_succ hk (show (gd q 0).rows.length ≤ 9223372036854775807 from by omega), Int.toNat_natCast, bne_not, endAt, show coordState [gd p 0, gd p 1] = coordState p from rfl]
      cases (gd ((gd q 0).rows.getD k []) 0).int == 3 <;> cases (gd ((gd q 0).rows.getD k []) 6).bool <;> simp only [cond_true, cond_false]
      · cases (coordState p (gd ((gd q 0).rows.getD k []) 2).int).int == 4 <;> rfl
      · cases (coordState p (gd ((gd q 0).rows.getD k []) 2).int).int == 3 <;> rfl
    · show i_JudgeEndsL0 _ p q [_, _, _, _, _, _, _, .i ((gd q 0).rows.length : Int), .i ((gd q 0).rows.length : Int), _, _] = _
      rw [i_JudgeEndsR0]
      simp only [int_i, c_nlt]

/-! loop.example/g00097/spec.JudgeEnds -/
abbrev s_JudgeEndsT : FuncId → List T → Option (T × Bool) := find [s_l17RightE, s_CoordStateE]
theorem s_JudgeEndsT_ok : CallOk Tryz.prog s_JudgeEndsT := find_ok (List.forall_mem_cons.2 ⟨s_l17Right_ok, List.forall_mem_cons.2 ⟨s_CoordState_ok, List.forall_mem_nil _⟩⟩)
abbrev s_JudgeEndsK : List Nat := [0, 1, 2, 4, 5, 6, 7, 11, 15, 24, 26, 32]
noncomputable def s_JudgeEndsL0 (N : Nat) (p q : List D) : List D → Out := loopOf Tryz.prog s_JudgeEndsT N s_JudgeEndsK Tryz.f114 rb [⟨ag rICoord, p⟩, ⟨sd (.sl 88), q⟩] 0
/- x0=t0(.one (.agg [.d (.sl 116), .d (.sl 3)])) x2=t1(sd (.sl 88)) x3=t2(.one (.c (.ptr 2 0))) x4=t4(.one (.c (.kb false))) x5=t11(rb) x6=t5(ri) x7=box2[.d (.sl 116), .d (.sl 3)] -/
theorem s_JudgeEndsR0 (N : Nat) (p q : List D) (x0 x1 x2 x3 x4 x5 x6 x7 x8 : D) : (s_JudgeEndsL0 N p q) [x0, x1, x2, x3, x4, x5, x6, x7, x8] =
  bif ltI x6.int (x2.rows.length : Int) then nd (inRange x6.int x2.rows.length) (bif (gd (x2.rows.getD x6.int.toNat []) 0).int != 3 then nx [x0, x1, x2, x3, x4, x5, .i (w64 (x6.int + 1)), x7, x8]
  else bif (gd (x2.rows.getD x6.int.toNat []) 6).bool then bif (coordState [x7, x8] (gd (x2.rows.getD x6.int.toNat []) 2).int).int != 3 then ob false
  else nx [x0, x1, x2, x3, x4, x5, .i (w64 (x6.int + 1)), x7, x8]
  else bif (coordState [x7, x8] (gd (x2.rows.getD x6.int.toNat []) 2).int).int != 4 then ob false
  else nx [x0, x1, x2, x3, x4, x5, .i (w64 (x6.int + 1)), x7, x8])
  else ex 0 [x0, x1, x2, x3, x4, x5, x6, x7, x8] := by kernel_rfl
theorem s_JudgeEnds_ev (N : Nat) (p q : List D) : evFn Tryz.prog s_JudgeEndsT N s_JudgeEndsK Tryz.f114 rb [⟨ag rICoord, p⟩, ⟨sd (.sl 88), q⟩] = some (bo,
  bif !(judged (sub p 0 2) (gd q 0)) then ob false
  else (let o0 := iter (s_JudgeEndsL0 N p q) N [gd p 0, gd p 1, gd q 0, .i 0, .i 0, .b (!(judged (sub p 0 2) (gd q 0))), .i 0, gd p 0, gd p 1]
   nd o0.isSome (bif o0.code == 1 then some (1, o0.pay)
   else nd (o0.code == 2) (ob true)))) := by kernel_rfl
def s_JudgeEndsE : Ent := (114, e2 (ag rICoord) (sd (.sl 88)) fun p q => (⟨rb, [.b (judgeEnds p (gd q 0))]⟩, true))
theorem s_JudgeEnds_ok : EntOk Tryz.prog s_JudgeEndsE := e2_ok fun p q h => evFn_sound (N := 201) (ks := s_JudgeEndsK) (key := bo) s_JudgeEndsT_ok (enters Tryz.func114 (by kernel_rfl) (by kernel_rfl)) Tryz.func114 fun hw => by
  rw [s_JudgeEnds_ev]
  have hs : judged (sub p 0 2) (gd q 0) = judged p (gd q 0) := rfl
  rw [hs]
  unfold judgeEnds
  cases hj : judged p (gd q 0)
  · rfl
  · have h200 : (gd q 0).rows.length ≤ 200 := by
      simp only [judged, leI, Bool.and_eq_true, decide_eq_true_eq] at hj
      omega
    have e0 := for_loop (L := s_JudgeEndsL0 201 p q) (fun k => [gd p 0, gd p 1, gd q 0, .i 0, .i 0, .b false, .i (k : Int), gd p 0, gd p 1]) (gd q 0).rows.length (endAt p (gd q 0)) [.b false] 0 (fun k hk => ?_) ?_ (N := 201) (by omega)
    · simp only [Int.natCast_zero] at e0
      simp only [Bool.not_true, cond_false, e0, Bool.true_and]
      cases (List.range (gd q 0).rows.length).all (endAt p (gd q 0)) <;> rfl
    · show s_JudgeEndsL0 _ p q [_, _, _, _, _, _, .i (k : Int), _, _] = _
      rw [s_JudgeEndsR0]
      simp only [int_i, c_lt hk, nd_ix hk, w64_succ hk (show (gd q 0).rows.length ≤ 9223372036854775807 from by omega), Int.toNat_natCast, bne_not, endAt, show coordState [gd p 0, gd p 1] = coordState p from rfl]
      cases (gd ((gd q 0).rows.getD k []) 0).int == 3 <;> cases (gd ((gd q 0).rows.getD k []) 6).bool <;> simp only [cond_true, cond_false, Bool.not_true, Bool.not_false]
      · cases (coordState p (gd ((gd q 0).rows.getD k []) 2).int).int == 4 <;> rfl
      · cases (coordState p (gd ((gd q 0).rows.getD k []) 2).int).int == 3 <;> rfl
    · show s_JudgeEndsL0 _ p q [_, _, _, _, _, _, .i ((gd q 0).rows.length : Int), _, _] = _
      rw [s_JudgeEndsR0]
      simp only [int_i, c_nlt]

end Go.Proofs.YtchceahcaaibcaaGreat
namespace Go.Proofs.YtchceahcaaibcaaGreat
set_option linter.unusedSimpArgs false
set_option linter.unusedVariables false
theorem total_mem {size : List D → Nat} : ∀ {rows : List (List D)} {r : List D}, r ∈ rows → size r ≤ total size rows
  | a :: l, r, h => by
    have e : total size (a :: l) = size a + total size l := by simp [total]
    rcases List.mem_cons.1 h with rfl | h
    · omega
    · have := total_mem (size := size) h
      omega
theorem okS {ok : List D → Bool} {size : List D → Nat} {z : D} {m : Nat} (hm : m ≤ 4294967296) (h : z.rows.length + total size z.rows ≤ m) (hr : ∀ r, size r ≤ m → ok r = true) : (decide (z.rows.length ≤ 4294967296) && z.rows.all fun r => ok r) = true := by
  simp only [Bool.and_eq_true, decide_eq_true_eq, List.all_eq_true]
  exact ⟨by omega, fun r hm => hr r (Nat.le_trans (total_mem hm) (by omega))⟩
theorem okF {ok : List D → Bool} {z : D} {m : Nat} (hm : m ≤ 4294967296) (h : z.rows.length ≤ m) (hr : ∀ r, ok r = true) : (decide (z.rows.length ≤ 4294967296) && z.rows.all fun r => ok r) = true := by
  simp only [Bool.and_eq_true, decide_eq_true_eq, List.all_eq_true]
  exact ⟨by omega, fun r _ => hr r⟩
theorem okIntS_of {z : D} {m : Nat} (hm : m ≤ 4294967296) (h : sizeIntS z ≤ m) : okIntS z = true := okF hm h fun _ => rfl
theorem okCellS_of {z : D} {m : Nat} (hm : m ≤ 4294967296) (h : sizeCellS z ≤ m) : okCellS z = true := okF (ok := fun r => okCell (sub r 0 2)) hm h fun _ => rfl
theorem okRangeS_of {z : D} {m : Nat} (hm : m ≤ 4294967296) (h : sizeRangeS z ≤ m) : okRangeS z = true := okF (ok := fun r => okRange (sub r 0 2)) hm h fun _ => rfl
theorem okWriteS_of {z : D} {m : Nat} (hm : m ≤ 4294967296) (h : sizeWriteS z ≤ m) : okWriteS z = true := okF (ok := fun r => okWrite (sub r 0 2)) hm h fun _ => rfl
theorem okShare_of {p : List D} {m : Nat} (hm : m ≤ 4294967296) (h : sizeShare p ≤ m) : okShare p = true := by
  unfold sizeShare at h
  rw [okShare, okRangeS_of hm (show sizeRangeS (gd p 1) ≤ m from by omega), okWriteS_of hm (show sizeWriteS (gd p 2) ≤ m from by omega)]; rfl
theorem okShareS_of {z : D} {m : Nat} (hm : m ≤ 4294967296) (h : sizeShareS z ≤ m) : okShareS z = true := okS (ok := fun r => okShare (sub r 0 4)) (size := fun r => sizeShare (sub r 0 4)) hm h fun _ h => okShare_of hm h
theorem okRec_of {p : List D} {m : Nat} (hm : m ≤ 4294967296) (h : sizeRec p ≤ m) : okRec p = true := okShareS_of hm h
theorem okRecS_of {z : D} {m : Nat} (hm : m ≤ 4294967296) (h : sizeRecS z ≤ m) : okRecS z = true := okS (ok := fun r => okRec (sub r 0 5)) (size := fun r => sizeRec (sub r 0 5)) hm h fun _ h => okRec_of hm h
theorem okCoord_of {p : List D} {m : Nat} (hm : m ≤ 4294967296) (h : sizeCoord p ≤ m) : okCoord p = true := by
  unfold sizeCoord at h
  rw [okCoord, okRecS_of hm (show sizeRecS (gd p 0) ≤ m from by omega), okIntS_of hm (show sizeIntS (gd p 1) ≤ m from by omega)]; rfl
theorem okEvent_of {p : List D} {m : Nat} (hm : m ≤ 4294967296) (h : sizeEvent p ≤ m) : okEvent p = true := okCellS_of hm h
theorem okEventS_of {z : D} {m : Nat} (hm : m ≤ 4294967296) (h : sizeEventS z ≤ m) : okEventS z = true := okS (ok := fun r => okEvent (sub r 0 7)) (size := fun r => sizeEvent (sub r 0 7)) hm h fun _ h => okEvent_of hm h
theorem left_ge {s : Nat} {n : Int} (h : ltI (left s n) 0 = false) (h0 : 0 ≤ n) : left s n = n - s ∧ (s : Int) ≤ n := by
  unfold left at h ⊢
  split
  · exact ⟨rfl, by assumption⟩
  · rename_i hn
    rw [if_neg hn] at h
    cases h
end Go.Proofs.YtchceahcaaibcaaGreat
