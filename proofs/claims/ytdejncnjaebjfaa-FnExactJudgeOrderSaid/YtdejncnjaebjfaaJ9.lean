/-
  The judge: coordinators. Printed by sym.py.
-/
import Derived.Test.YtdejncnjaebjfaaRun
namespace Go.Proofs.Ytdejncnjaebjfaa
set_option maxRecDepth 4096
/-! loop.example/g00097/impl.CoordOk -/
abbrev i_CoordOkT : FuncId → List T → Option (T × Bool) := find [i_recOkE, cofKE, i_fromE, coIE]
theorem i_CoordOkT_ok : CallOk Try.prog i_CoordOkT := find_ok (List.forall_mem_cons.2 ⟨i_recOk_ok, List.forall_mem_cons.2 ⟨cofK_ok, List.forall_mem_cons.2 ⟨i_from_ok, List.forall_mem_cons.2 ⟨coI_ok, List.forall_mem_nil _⟩⟩⟩⟩)
abbrev i_CoordOkK : List Nat := [0, 1, 2, 3, 4, 5, 6, 7, 11, 13, 14, 15, 16, 37, 40, 45, 46, 47, 48, 75]
noncomputable def i_CoordOkL0 (N : Nat) (p : List D) : List D → Out := loopOf Try.prog i_CoordOkT N i_CoordOkK Try.f61 rb [⟨ag rICoord, p⟩] 0
noncomputable def i_CoordOkL2 (N : Nat) (p : List D) : List D → Out := loopOf Try.prog i_CoordOkT N i_CoordOkK Try.f61 rb [⟨ag rICoord, p⟩] 2
/- x0=t0(.one (.agg [.d (.sl 84), .d (.sl 3)])) x2=t1(.one (.c (.ptr 1 0))) x3=t2(.one (.c (.kb false))) x4=t11(rb) x5=t3(ri) x6=t13(sd (.sl 84)) x7=t14(ri) x8=t15(ri) x9=box1[.d (.sl 84), .d (.sl 3)] -/
theorem i_CoordOkR0 (N : Nat) (p : List D) (x0 x1 x2 x3 x4 x5 x6 x7 x8 x9 x10 : D) : (i_CoordOkL0 N p) [x0, x1, x2, x3, x4, x5, x6, x7, x8, x9, x10] =
  bif ltI x8.int x7.int then nd (inRange x8.int x6.rows.length) (bif (gd (x6.rows.getD x8.int.toNat []) 0).int != (w64 (x8.int + 1)) then ob false
  else bif !(recOk (sub (x6.rows.getD x8.int.toNat []) 0 5)) then ob false
  else nd (leI 0 0 && leI 0 x8.int && leI x8.int (x9.rows.length : Int)) (bif anyS (fun r => ixfKC (.l [[.l [sub (x6.rows.getD x8.int.toNat []) 0 5]]]) (sub r 0 5)) (.l (x9.rows.take x8.int.toNat)) then ob false
  else bif (gd (x6.rows.getD x8.int.toNat []) 3).int == 3 then nx [x0, x1, x2, x3, x4, .i (w64 (x5.int + 1)), x6, x7, .i (w64 (x8.int + 1)), x9, x10]
  else nx [x0, x1, x2, x3, x4, x5, x6, x7, .i (w64 (x8.int + 1)), x9, x10]))
  else ex 0 [x0, x1, x2, x3, x4, x5, x6, x7, x8, x9, x10] := by kernel_rfl
/- x0=t0(.one (.agg [.d (.sl 84), .d (.sl 3)])) x2=t1(.one (.c (.ptr 1 0))) x3=t2(.one (.c (.kb false))) x4=t11(rb) x5=t3(ri) x6=t13(sd (.sl 84)) x7=t14(ri) x8=t15(ri) x9=t45(sd (.sl 3)) x10=t46(ri) x11=t47(ri) x12=box1[.d (.sl 84), .d (.sl 3)] -/
theorem i_CoordOkR2 (N : Nat) (p : List D) (x0 x1 x2 x3 x4 x5 x6 x7 x8 x9 x10 x11 x12 x13 : D) : (i_CoordOkL2 N p) [x0, x1, x2, x3, x4, x5, x6, x7, x8, x9, x10, x11, x12, x13] =
  bif ltI x11.int x10.int then nd (inRange x11.int x9.rows.length) (bif !(inB (gd (x9.rows.getD x11.int.toNat []) 0).int 1 (x12.rows.length : Int)) then ob false
  else nd (inRange (w64 ((gd (x9.rows.getD x11.int.toNat []) 0).int - 1)) x12.rows.length) (bif (gd (x12.rows.getD (w64 ((gd (x9.rows.getD x11.int.toNat []) 0).int - 1)).toNat []) 3).int != 3 then ob false
  else nd (leI 0 0 && leI 0 x11.int && leI x11.int (x13.rows.length : Int)) (bif hasInt (.l (x13.rows.take x11.int.toNat)) (gd (x9.rows.getD x11.int.toNat []) 0).int then ob false
  else nx [x0, x1, x2, x3, x4, x5, x6, x7, x8, x9, x10, .i (w64 (x11.int + 1)), x12, x13])))
  else ex 2 [x0, x1, x2, x3, x4, x5, x6, x7, x8, x9, x10, x11, x12, x13] := by kernel_rfl
theorem i_CoordOk_ev (N : Nat) (p : List D) : evFn Try.prog i_CoordOkT N i_CoordOkK Try.f61 rb [⟨ag rICoord, p⟩] = some (bo,
  bif ltI 60 ((gd p 0).rows.length : Int) then ob false
  else (let o0 := iter (i_CoordOkL0 N p) N [gd p 0, gd p 1, .i 0, .i 0, .b (ltI 60 ((gd p 0).rows.length : Int)), .i 0, gd p 0, .i ((gd p 0).rows.length : Int), .i 0, gd p 0, gd p 1]
   nd o0.isSome (bif o0.code == 1 then some (1, o0.pay)
   else nd (o0.code == 2) ((let o2 := iter (i_CoordOkL2 N p) N [gd o0.pay 0, gd o0.pay 1, gd o0.pay 2, gd o0.pay 3, gd o0.pay 4, gd o0.pay 5, gd o0.pay 6, gd o0.pay 7, gd o0.pay 8, gd o0.pay 10, .i ((gd o0.pay 10).rows.length : Int), .i 0, gd o0.pay 9, gd o0.pay 10]
    nd o2.isSome (bif o2.code == 1 then some (1, o2.pay)
    else nd (o2.code == 4) (ob ((gd o2.pay 5).int == ((gd o2.pay 13).rows.length : Int))))))))) := by kernel_rfl
def recSame (a b : List D) : Bool := ((gd a 1).int == (gd b 1).int) && ((gd a 2).int == (gd b 2).int)
def recAt (z : D) (k : Nat) : Bool := ((gd (z.rows.getD k []) 0).int == ((k + 1 : Nat) : Int)) && (recOk (sub (z.rows.getD k []) 0 5) && !(List.range k).any fun j => recSame (z.rows.getD j []) (z.rows.getD k []))
def isYes (z : D) (k : Nat) : Bool := (gd (z.rows.getD k []) 3).int == 3
def ordAt (z o : D) (k : Nat) : Bool := inB (gd (o.rows.getD k []) 0).int 1 (z.rows.length : Int) && (((gd (z.rows.getD ((gd (o.rows.getD k []) 0).int - 1).toNat []) 3).int == 3) && !hasInt (.l (o.rows.take k)) (gd (o.rows.getD k []) 0).int)
def coordOk (p : List D) : Bool := decide ((gd p 0).rows.length ≤ 60) && ((List.range (gd p 0).rows.length).all (recAt (gd p 0)) && ((List.range (gd p 1).rows.length).all (ordAt (gd p 0) (gd p 1)) && ((cnt (isYes (gd p 0)) 0 (gd p 0).rows.length : Nat) : Int) == ((gd p 1).rows.length : Int)))
def i_CoordOkE : Ent := (61, e1 (ag rICoord) fun p => (⟨rb, [.b (coordOk p)]⟩, true))
theorem i_CoordOk_ok : EntOk Try.prog i_CoordOkE := e1_ok fun p h => evFn_sound (N := (gd p 0).rows.length + (gd p 1).rows.length + 1) (ks := i_CoordOkK) (key := bo) i_CoordOkT_ok (enters Try.func61 (by kernel_rfl) (by kernel_rfl)) Try.func61 fun hw => by
  rw [i_CoordOk_ev]
  have hl1 := wt_at (hw ⟨ag rICoord, p⟩ (by simp)) (j := 1) rfl
  by_cases h60 : (gd p 0).rows.length ≤ 60
  · rw [ltI_f (show ((gd p 0).rows.length : Int) ≤ 60 from by omega)]
    have e0 := for_loop (L := i_CoordOkL0 ((gd p 0).rows.length + (gd p 1).rows.length + 1) p) (fun k => [gd p 0, gd p 1, .i 0, .i 0, .b false, .i (cnt (isYes (gd p 0)) 0 k : Nat), gd p 0, .i ((gd p 0).rows.length : Int), .i (k : Int), gd p 0, gd p 1]) (gd p 0).rows.length (recAt (gd p 0)) [.b false] 0 (fun k hk => ?_) ?_ (N := (gd p 0).rows.length + (gd p 1).rows.length + 1) (by omega)
    · simp only [cnt_zero, Int.natCast_zero] at e0
      rw [cond_false, e0]
      simp only [coordOk, h60, decide_true, Bool.true_and]
      cases h1 : (List.range (gd p 0).rows.length).all (recAt (gd p 0))
      · rfl
      · have e2 := for_loop (L := i_CoordOkL2 ((gd p 0).rows.length + (gd p 1).rows.length + 1) p) (fun k => [gd p 0, gd p 1, .i 0, .i 0, .b false, .i (cnt (isYes (gd p 0)) 0 (gd p 0).rows.length : Nat), gd p 0, .i ((gd p 0).rows.length : Int), .i ((gd p 0).rows.length : Int), gd p 1, .i ((gd p 1).rows.length : Int), .i (k : Int), gd p 0, gd p 1]) (gd p 1).rows.length (ordAt (gd p 0) (gd p 1)) [.b false] 2 (fun k hk => ?_) ?_ (N := (gd p 0).rows.length + (gd p 1).rows.length + 1) (by omega)
        · simp only [Int.natCast_zero] at e2
          simp only [nd, cond_true, cond_false, Option.isSome_some, Out.code, Out.pay, Option.getD_some, gd_cons_zero, gd_cons_succ, Nat.reduceBEq, Nat.reduceAdd, int_i, bool_b, str_s, rows_l, Bool.not_true, Bool.not_false, beq_self_eq_true]
          rw [e2]
          cases h2 : (List.range (gd p 1).rows.length).all (ordAt (gd p 0) (gd p 1)) <;> rfl
        · show i_CoordOkL2 _ p [_, _, _, _, _, _, _, _, _, _, _, .i (k : Int), _, _] = _
          rw [i_CoordOkR2]
          simp only [int_i, c_lt hk, nd_ix hk, w64_succ hk hl1, Int.toNat_natCast, nd_take (Nat.le_of_lt hk), bne_not, ordAt]
          cases hb : inB (gd ((gd p 1).rows.getD k []) 0).int 1 ((gd p 0).rows.length : Int)
          · rfl
          · have hb' := hb
            simp only [inB, Bool.and_eq_true, decide_eq_true_eq] at hb'
            obtain ⟨m, hm⟩ : ∃ m : Nat, (gd ((gd p 1).rows.getD k []) 0).int = ((m + 1 : Nat) : Int) := ⟨((gd ((gd p 1).rows.getD k []) 0).int - 1).toNat, by omega⟩
            rw [hm] at hb' ⊢
            rw [show w64 (((m + 1 : Nat) : Int) - 1) = (m : Int) from by rw [w64_id (by omega) (by omega)]; omega, show ((m + 1 : Nat) : Int) - 1 = (m : Int) from by omega, nd_ix (show m < (gd p 0).rows.length from by omega), Int.toNat_natCast]
            cases (gd ((gd p 0).rows.getD m []) 3).int == 3 <;> cases hasInt (.l ((gd p 1).rows.take k)) ((m + 1 : Nat) : Int) <;> rfl
        · show i_CoordOkL2 _ p [_, _, _, _, _, _, _, _, _, _, _, .i ((gd p 1).rows.length : Int), _, _] = _
          rw [i_CoordOkR2]
          simp only [int_i, c_nlt]
    · show i_CoordOkL0 _ p [_, _, _, _, _, _, _, _, .i (k : Int), _, _] = _
      rw [i_CoordOkR0]
      simp only [int_i, c_lt hk, nd_ix hk, w64_succ hk (show (gd p 0).rows.length ≤ 9223372036854775807 from by omega), Int.toNat_natCast, nd_take (Nat.le_of_lt hk), bne_not, recAt, anyS_take (Nat.le_of_lt hk), cnt_succ, Nat.zero_add]
      have hc := cnt_le (isYes (gd p 0)) k 0
      rw [w64_id (x := (cnt (isYes (gd p 0)) 0 k : Int) + 1) (by omega) (by omega)]
      rw [show ((List.range k).any fun j => ixfKC (.l [[.l [sub ((gd p 0).rows.getD k []) 0 5]]]) (sub ((gd p 0).rows.getD j []) 0 5)) = (List.range k).any fun j => recSame ((gd p 0).rows.getD j []) ((gd p 0).rows.getD k []) from rfl]
      cases (gd ((gd p 0).rows.getD k []) 0).int == ((k + 1 : Nat) : Int)
      · rfl
      cases recOk (sub ((gd p 0).rows.getD k []) 0 5)
      · rfl
      cases (List.range k).any fun j => recSame ((gd p 0).rows.getD j []) ((gd p 0).rows.getD k [])
      · rw [show ((gd ((gd p 0).rows.getD k []) 3).int == 3) = isYes (gd p 0) k from rfl]
        cases isYes (gd p 0) k <;> rfl
      · rfl
    · show i_CoordOkL0 _ p [_, _, _, _, _, _, _, .i ((gd p 0).rows.length : Int), .i ((gd p 0).rows.length : Int), _, _] = _
      rw [i_CoordOkR0]
      simp only [int_i, c_nlt]
  · rw [ltI_t (show (60 : Int) < ((gd p 0).rows.length : Int) from by omega)]
    simp only [coordOk, h60, decide_false, Bool.false_and]
    rfl

/-! loop.example/g00097/spec.CoordOk -/
abbrev s_CoordOkT : FuncId → List T → Option (T × Bool) := find [s_l14RecOkE, s_l1InE, s_l12HasE]
theorem s_CoordOkT_ok : CallOk Try.prog s_CoordOkT := find_ok (List.forall_mem_cons.2 ⟨s_l14RecOk_ok, List.forall_mem_cons.2 ⟨s_l1In_ok, List.forall_mem_cons.2 ⟨s_l12Has_ok, List.forall_mem_nil _⟩⟩⟩)
abbrev s_CoordOkK : List Nat := [0, 1, 2, 3, 4, 5, 6, 7, 8, 18, 23, 40, 43, 65, 68, 75, 106]
noncomputable def s_CoordOkL0 (N : Nat) (p : List D) : List D → Out := loopOf Try.prog s_CoordOkT N s_CoordOkK Try.f59 rb [⟨ag rICoord, p⟩] 0
noncomputable def s_CoordOkL2 (N : Nat) (p : List D) : List D → Out := loopOf Try.prog s_CoordOkT N s_CoordOkK Try.f59 rb [⟨ag rICoord, p⟩] 2
noncomputable def s_CoordOkL4 (N : Nat) (p : List D) : List D → Out := loopOf Try.prog s_CoordOkT N s_CoordOkK Try.f59 rb [⟨ag rICoord, p⟩] 4
/- x0=t0(.one (.agg [.d (.sl 84), .d (.sl 3)])) x2=t1(.one (.c (.ptr 1 0))) x3=t2(.one (.c (.kb false))) x4=t18(rb) x5=t3(ri) x6=t4(ri) x7=box1[.d (.sl 84), .d (.sl 3)] -/
theorem s_CoordOkR0 (N : Nat) (p : List D) (x0 x1 x2 x3 x4 x5 x6 x7 x8 : D) : (s_CoordOkL0 N p) [x0, x1, x2, x3, x4, x5, x6, x7, x8] =
  bif ltI x6.int (x7.rows.length : Int) then nd (inRange x6.int x7.rows.length) (bif (gd (x7.rows.getD x6.int.toNat []) 0).int != (w64 (x6.int + 1)) then ob false
  else bif !(recOk (sub (x7.rows.getD x6.int.toNat []) 0 5)) then ob false
  else (let o2 := iter (s_CoordOkL2 N p) N [x0, x1, x2, x3, x4, x5, x6, .b (ltI x6.int (x7.rows.length : Int)), .i 0, .b (!(recOk (sub (x7.rows.getD x6.int.toNat []) 0 5))), .i 0, x7, x8, gd (x7.rows.getD x6.int.toNat []) 0, gd (x7.rows.getD x6.int.toNat []) 1, gd (x7.rows.getD x6.int.toNat []) 2, gd (x7.rows.getD x6.int.toNat []) 3, gd (x7.rows.getD x6.int.toNat []) 4]
   nd o2.isSome (bif o2.code == 1 then some (1, o2.pay)
   else nd (o2.code == 4) (bif (gd o2.pay 16).int == 3 then nx [gd o2.pay 0, gd o2.pay 1, gd o2.pay 2, gd o2.pay 3, gd o2.pay 4, .i (w64 ((gd o2.pay 5).int + 1)), .i (w64 ((gd o2.pay 6).int + 1)), gd o2.pay 11, gd o2.pay 12]
   else nx [gd o2.pay 0, gd o2.pay 1, gd o2.pay 2, gd o2.pay 3, gd o2.pay 4, gd o2.pay 5, .i (w64 ((gd o2.pay 6).int + 1)), gd o2.pay 11, gd o2.pay 12]))))
  else ex 0 [x0, x1, x2, x3, x4, x5, x6, x7, x8] := by kernel_rfl
/- x0=t0(.one (.agg [.d (.sl 84), .d (.sl 3)])) x2=t1(.one (.c (.ptr 1 0))) x3=t2(.one (.c (.kb false))) x4=t18(rb) x5=t3(ri) x6=t4(ri) x7=t23(rb) x8=t5(.one (.c (.ptr 5 0))) x9=t40(rb) x10=t6(ri) x11=box1[.d (.sl 84), .d (.sl 3)] x13=box5[.d si, .d si, .d si, .d si, .d (.sl 88)] -/
theorem s_CoordOkR2 (N : Nat) (p : List D) (x0 x1 x2 x3 x4 x5 x6 x7 x8 x9 x10 x11 x12 x13 x14 x15 x16 x17 : D) : (s_CoordOkL2 N p) [x0, x1, x2, x3, x4, x5, x6, x7, x8, x9, x10, x11, x12, x13, x14, x15, x16, x17] =
  bif ltI x10.int x6.int then nd (inRange x10.int x11.rows.length) (bif (gd (x11.rows.getD x10.int.toNat []) 1).int == x14.int then nd (inRange x10.int x11.rows.length) (bif (gd (x11.rows.getD x10.int.toNat []) 2).int == x15.int then ob false
  else nx [x0, x1, x2, x3, x4, x5, x6, x7, x8, x9, .i (w64 (x10.int + 1)), x11, x12, x13, x14, x15, x16, x17])
  else nx [x0, x1, x2, x3, x4, x5, x6, x7, x8, x9, .i (w64 (x10.int + 1)), x11, x12, x13, x14, x15, x16, x17])
  else ex 2 [x0, x1, x2, x3, x4, x5, x6, x7, x8, x9, x10, x11, x12, x13, x14, x15, x16, x17] := by kernel_rfl
/- x0=t0(.one (.agg [.d (.sl 84), .d (.sl 3)])) x2=t1(.one (.c (.ptr 1 0))) x3=t2(.one (.c (.kb false))) x4=t18(rb) x5=t3(ri) x6=t4(ri) x7=t7(ri) x8=box1[.d (.sl 84), .d (.sl 3)] -/
theorem s_CoordOkR4 (N : Nat) (p : List D) (x0 x1 x2 x3 x4 x5 x6 x7 x8 x9 : D) : (s_CoordOkL4 N p) [x0, x1, x2, x3, x4, x5, x6, x7, x8, x9] =
  bif ltI x7.int (x9.rows.length : Int) then nd (inRange x7.int x9.rows.length) (bif !(inB (gd (x9.rows.getD x7.int.toNat []) 0).int 1 (x8.rows.length : Int)) then ob false
  else nd (inRange (w64 ((gd (x9.rows.getD x7.int.toNat []) 0).int - 1)) x8.rows.length) (bif (gd (x8.rows.getD (w64 ((gd (x9.rows.getD x7.int.toNat []) 0).int - 1)).toNat []) 3).int != 3 then ob false
  else nd (leI 0 0 && leI 0 x7.int && leI x7.int (x9.rows.length : Int)) (bif hasInt (.l (x9.rows.take x7.int.toNat)) (gd (x9.rows.getD x7.int.toNat []) 0).int then ob false
  else nx [x0, x1, x2, x3, x4, x5, x6, .i (w64 (x7.int + 1)), x8, x9])))
  else ex 4 [x0, x1, x2, x3, x4, x5, x6, x7, x8, x9] := by kernel_rfl
theorem s_CoordOk_ev (N : Nat) (p : List D) : evFn Try.prog s_CoordOkT N s_CoordOkK Try.f59 rb [⟨ag rICoord, p⟩] = some (bo,
  bif ltI 60 ((gd p 0).rows.length : Int) then ob false
  else bif ltI 60 ((gd p 1).rows.length : Int) then ob false
  else (let o0 := iter (s_CoordOkL0 N p) N [gd p 0, gd p 1, .i 0, .i 0, .b (ltI 60 ((gd p 1).rows.length : Int)), .i 0, .i 0, gd p 0, gd p 1]
   nd o0.isSome (bif o0.code == 1 then some (1, o0.pay)
   else nd (o0.code == 2) ((let o4 := iter (s_CoordOkL4 N p) N [gd o0.pay 0, gd o0.pay 1, gd o0.pay 2, gd o0.pay 3, gd o0.pay 4, gd o0.pay 5, gd o0.pay 6, .i 0, gd o0.pay 7, gd o0.pay 8]
    nd o4.isSome (bif o4.code == 1 then some (1, o4.pay)
    else nd (o4.code == 6) (ob ((gd o4.pay 5).int == ((gd o4.pay 9).rows.length : Int))))))))) := by kernel_rfl
theorem not_any {n : Nat} {C : Nat → Bool} : ((List.range n).all fun k => !C k) = !(List.range n).any C := by simp [List.all_eq_not_any_not]
theorem s_CoordOkU (N : Nat) (p : List D) (hN : (gd p 0).rows.length < N) (hl : (gd p 0).rows.length ≤ 60) (y : D) (k : Nat) (hk : k < (gd p 0).rows.length) :
    iter (s_CoordOkL2 N p) N [gd p 0, gd p 1, .i 0, .i 0, .b false, y, .i (k : Int), .b true, .i 0, .b false, .i 0, gd p 0, gd p 1, gd ((gd p 0).rows.getD k []) 0, gd ((gd p 0).rows.getD k []) 1, gd ((gd p 0).rows.getD k []) 2, gd ((gd p 0).rows.getD k []) 3, gd ((gd p 0).rows.getD k []) 4] =
    some (bif (List.range k).any (fun j => recSame ((gd p 0).rows.getD j []) ((gd p 0).rows.getD k [])) then (1, [.b false]) else (4, [gd p 0, gd p 1, .i 0, .i 0, .b false, y, .i (k : Int), .b true, .i 0, .b false, .i (k : Int), gd p 0, gd p 1, gd ((gd p 0).rows.getD k []) 0, gd ((gd p 0).rows.getD k []) 1, gd ((gd p 0).rows.getD k []) 2, gd ((gd p 0).rows.getD k []) 3, gd ((gd p 0).rows.getD k []) 4])) := by
  have e := for_loop (L := s_CoordOkL2 N p) (fun j => [gd p 0, gd p 1, .i 0, .i 0, .b false, y, .i (k : Int), .b true, .i 0, .b false, .i (j : Int), gd p 0, gd p 1, gd ((gd p 0).rows.getD k []) 0, gd ((gd p 0).rows.getD k []) 1, gd ((gd p 0).rows.getD k []) 2, gd ((gd p 0).rows.getD k []) 3, gd ((gd p 0).rows.getD k []) 4]) k (fun j => !recSame ((gd p 0).rows.getD j []) ((gd p 0).rows.getD k [])) [.b false] 2 (fun j hj => ?_) ?_ (N := N) (by omega)
  · simp only [Int.natCast_zero, not_any] at e
    rw [e]
    cases (List.range k).any (fun j => recSame ((gd p 0).rows.getD j []) ((gd p 0).rows.getD k [])) <;> rfl
  · show s_CoordOkL2 N p [_, _, _, _, _, _, .i (k : Int), _, _, _, .i (j : Int), _, _, _, _, _, _, _] = _
    rw [s_CoordOkR2]
    simp only [int_i, c_lt hj, nd_ix (Nat.lt_trans hj hk), w64_succ hj (show k ≤ 9223372036854775807 from by omega), Int.toNat_natCast, recSame]
    cases (gd ((gd p 0).rows.getD j []) 1).int == (gd ((gd p 0).rows.getD k []) 1).int <;> cases (gd ((gd p 0).rows.getD j []) 2).int == (gd ((gd p 0).rows.getD k []) 2).int <;> rfl
  · show s_CoordOkL2 N p [_, _, _, _, _, _, .i (k : Int), _, _, _, .i (k : Int), _, _, _, _, _, _, _] = _
    rw [s_CoordOkR2]
    simp only [int_i, c_nlt]
def s_CoordOkE : Ent := (59, e1 (ag rICoord) fun p => (⟨rb, [.b (coordOk p)]⟩, true))
theorem s_CoordOk_ok : EntOk Try.prog s_CoordOkE := e1_ok fun p h => evFn_sound (N := (gd p 0).rows.length + (gd p 1).rows.length + 1) (ks := s_CoordOkK) (key := bo) s_CoordOkT_ok (enters Try.func59 (by kernel_rfl) (by kernel_rfl)) Try.func59 fun hw => by
  rw [s_CoordOk_ev]
  have hl1 := wt_at (hw ⟨ag rICoord, p⟩ (by simp)) (j := 1) rfl
  by_cases h60 : (gd p 0).rows.length ≤ 60
  · rw [ltI_f (show ((gd p 0).rows.length : Int) ≤ 60 from by omega), cond_false]
    by_cases h61 : (gd p 1).rows.length ≤ 60
    · rw [ltI_f (show ((gd p 1).rows.length : Int) ≤ 60 from by omega), cond_false]
      have e0 := for_loop (L := s_CoordOkL0 ((gd p 0).rows.length + (gd p 1).rows.length + 1) p) (fun k => [gd p 0, gd p 1, .i 0, .i 0, .b false, .i (cnt (isYes (gd p 0)) 0 k : Nat), .i (k : Int), gd p 0, gd p 1]) (gd p 0).rows.length (recAt (gd p 0)) [.b false] 0 (fun k hk => ?_) ?_ (N := (gd p 0).rows.length + (gd p 1).rows.length + 1) (by omega)
      · simp only [cnt_zero, Int.natCast_zero] at e0
        rw [e0]
        simp only [coordOk, h60, decide_true, Bool.true_and]
        cases h1 : (List.range (gd p 0).rows.length).all (recAt (gd p 0))
        · rfl
        · have e2 := for_loop (L := s_CoordOkL4 ((gd p 0).rows.length + (gd p 1).rows.length + 1) p) (fun k => [gd p 0, gd p 1, .i 0, .i 0, .b false, .i (cnt (isYes (gd p 0)) 0 (gd p 0).rows.length : Nat), .i ((gd p 0).rows.length : Int), .i (k : Int), gd p 0, gd p 1]) (gd p 1).rows.length (ordAt (gd p 0) (gd p 1)) [.b false] 4 (fun k hk => ?_) ?_ (N := (gd p 0).rows.length + (gd p 1).rows.length + 1) (by omega)
          · simp only [Int.natCast_zero] at e2
            simp only [nd, cond_true, cond_false, Option.isSome_some, Out.code, Out.pay, Option.getD_some, gd_cons_zero, gd_cons_succ, Nat.reduceBEq, Nat.reduceAdd, int_i, bool_b, str_s, rows_l, Bool.not_true, Bool.not_false, beq_self_eq_true]
            rw [e2]
            cases h2 : (List.range (gd p 1).rows.length).all (ordAt (gd p 0) (gd p 1)) <;> rfl
          · show s_CoordOkL4 _ p [_, _, _, _, _, _, _, .i (k : Int), _, _] = _
            rw [s_CoordOkR4]
            simp only [int_i, c_lt hk, nd_ix hk, w64_succ hk hl1, Int.toNat_natCast, nd_take (Nat.le_of_lt hk), bne_not, ordAt]
            cases hb : inB (gd ((gd p 1).rows.getD k []) 0).int 1 ((gd p 0).rows.length : Int)
            · rfl
            · have hb' := hb
              simp only [inB, Bool.and_eq_true, decide_eq_true_eq] at hb'
              obtain ⟨m, hm⟩ : ∃ m : Nat, (gd ((gd p 1).rows.getD k []) 0).int = ((m + 1 : Nat) : Int) := ⟨((gd ((gd p 1).rows.getD k []) 0).int - 1).toNat, by omega⟩
              rw [hm] at hb' ⊢
              rw [show w64 (((m + 1 : Nat) : Int) - 1) = (m : Int) from by rw [w64_id (by omega) (by omega)]; omega, show ((m + 1 : Nat) : Int) - 1 = (m : Int) from by omega, nd_ix (show m < (gd p 0).rows.length from by omega), Int.toNat_natCast]
              cases (gd ((gd p 0).rows.getD m []) 3).int == 3 <;> cases hasInt (.l ((gd p 1).rows.take k)) ((m + 1 : Nat) : Int) <;> rfl
          · show s_CoordOkL4 _ p [_, _, _, _, _, _, _, .i ((gd p 1).rows.length : Int), _, _] = _
            rw [s_CoordOkR4]
            simp only [int_i, c_nlt]
      · show s_CoordOkL0 _ p [_, _, _, _, _, _, .i (k : Int), _, _] = _
        rw [s_CoordOkR0]
        simp only [int_i, ltI_nat hk, nd_ix hk, w64_succ hk (show (gd p 0).rows.length ≤ 9223372036854775807 from by omega), Int.toNat_natCast, bne_not, recAt, cnt_succ, Nat.zero_add]
        have hc := cnt_le (isYes (gd p 0)) k 0
        cases (gd ((gd p 0).rows.getD k []) 0).int == ((k + 1 : Nat) : Int)
        · rfl
        cases recOk (sub ((gd p 0).rows.getD k []) 0 5)
        · rfl
        simp only [nd, cond_true, cond_false, Option.isSome_some, Out.code, Out.pay, Option.getD_some, gd_cons_zero, gd_cons_succ, Nat.reduceBEq, Nat.reduceAdd, int_i, bool_b, str_s, rows_l, Bool.not_true, Bool.not_false, beq_self_eq_true, Bool.true_and, s_CoordOkU ((gd p 0).rows.length + (gd p 1).rows.length + 1) p (by omega) h60 _ k hk]
        cases (List.range k).any fun j => recSame ((gd p 0).rows.getD j []) ((gd p 0).rows.getD k [])
        · simp only [nd, cond_true, cond_false, Option.isSome_some, Out.code, Out.pay, Option.getD_some, gd_cons_zero, gd_cons_succ, Nat.reduceBEq, Nat.reduceAdd, int_i, bool_b, str_s, rows_l, Bool.not_true, Bool.not_false, beq_self_eq_true, Bool.true_and, show ((gd ((gd p 0).rows.getD k []) 3).int == 3) = isYes (gd p 0) k from rfl, w64_id (x := (cnt (isYes (gd p 0)) 0 k : Int) + 1) (by omega) (by omega), w64_succ hk (show (gd p 0).rows.length ≤ 9223372036854775807 from by omega)]
          cases isYes (gd p 0) k <;> rfl
        · rfl
      · show s_CoordOkL0 _ p [_, _, _, _, _, _, .i ((gd p 0).rows.length : Int), _, _] = _
        rw [s_CoordOkR0]
        simp only [int_i, c_nlt]
    · rw [ltI_t (show (60 : Int) < ((gd p 1).rows.length : Int) from by omega)]
      have hc := cnt_le (isYes (gd p 0)) (gd p 0).rows.length 0
      simp only [coordOk, show (((cnt (isYes (gd p 0)) 0 (gd p 0).rows.length : Nat) : Int) == ((gd p 1).rows.length : Int)) = false from beq_eq_false_iff_ne.2 (by omega), Bool.and_false]
      rfl
  · rw [ltI_t (show (60 : Int) < ((gd p 0).rows.length : Int) from by omega)]
    simp only [coordOk, h60, decide_false, Bool.false_and]
    rfl

end Go.Proofs.Ytdejncnjaebjfaa
