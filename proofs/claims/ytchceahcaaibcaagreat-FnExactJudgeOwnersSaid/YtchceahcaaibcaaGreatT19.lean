/-
  The town: JudgeOwners. Printed by sym.py.
-/
import Derived.Test.YtchceahcaaibcaaGreatT18
namespace Go.Proofs.YtchceahcaaibcaaGreat
set_option maxRecDepth 4096
set_option maxHeartbeats 1000000
set_option linter.unusedSimpArgs false
set_option linter.unusedVariables false
/-! loop.example/g00097/impl.JudgeOwners -/
abbrev i_JudgeOwnersT : FuncId → List T → Option (T × Bool) := find [i_TownOkE, i_oneE, i_freeE, i_haveAllE]
theorem i_JudgeOwnersT_ok : CallOk Tryz.prog i_JudgeOwnersT := find_ok (List.forall_mem_cons.2 ⟨i_TownOk_ok, List.forall_mem_cons.2 ⟨i_one_ok, List.forall_mem_cons.2 ⟨i_free_ok, List.forall_mem_cons.2 ⟨i_haveAll_ok, List.forall_mem_nil _⟩⟩⟩⟩)
abbrev i_JudgeOwnersK : List Nat := [0, 1, 2, 3, 4, 5, 7, 10, 11, 12, 15, 16, 17, 18, 24, 31, 40, 1000010, 1000012, 1000018, 1000024, 1000031, 1000040]
noncomputable def i_JudgeOwnersL0 (N : Nat) (p : List D) : List D → Out := loopOf Tryz.prog i_JudgeOwnersT N i_JudgeOwnersK Tryz.f21 rb [⟨ag rITown, p⟩] 0
noncomputable def i_JudgeOwnersL2 (N : Nat) (p : List D) : List D → Out := loopOf Tryz.prog i_JudgeOwnersT N i_JudgeOwnersK Tryz.f21 rb [⟨ag rITown, p⟩] 2
/- x0=t0(.one (.agg [.d si, .d (.sl 97), .d si, .d si, .d si, .d si, .d si, .d si, .d (.sl 176), .d (.sl 80), .d (.sl 116), .d (.sl 3), .d (.sl 102), .d (.sl 85), .d (.sl 88)])) x15=t1(.one (.c (.ptr 1 0))) x16=t2(.one (.c (.kb false))) x17=t11(ri) x18=box1[.d si, .d (.sl 97), .d si, .d si, .d si, .d si, .d si, .d si, .d (.sl 176), .d (.sl 80), .d (.sl 116), .d (.sl 3), .d (.sl 102), .d (.sl 85), .d (.sl 88)] -/
theorem i_JudgeOwnersR0 (N : Nat) (p : List D) (x0 x1 x2 x3 x4 x5 x6 x7 x8 x9 x10 x11 x12 x13 x14 x15 x16 x17 x18 x19 x20 x21 x22 x23 x24 x25 x26 x27 x28 x29 x30 x31 x32 : D) : (i_JudgeOwnersL0 N p) [x0, x1, x2, x3, x4, x5, x6, x7, x8, x9, x10, x11, x12, x13, x14, x15, x16, x17, x18, x19, x20, x21, x22, x23, x24, x25, x26, x27, x28, x29, x30, x31, x32] =
  bif ltI x17.int 1000 then (let o2 := iter (i_JudgeOwnersL2 N p) N [x0, x1, x2, x3, x4, x5, x6, x7, x8, x9, x10, x11, x12, x13, x14, x15, x16, x17, x17, .i 0, .i 0, x27, .i (x27.rows.length : Int), .i 0, x18, x19, x20, x21, x22, x23, x24, x25, x26, x27, x28, x29, x30, x31, x32]
   nd o2.isSome (nd (o2.code == 4) (bif ltI 1 (gd o2.pay 19).int then ob false
   else bif ltI (gd o2.pay 20).int 1 then ob false
   else nx [gd o2.pay 0, gd o2.pay 1, gd o2.pay 2, gd o2.pay 3, gd o2.pay 4, gd o2.pay 5, gd o2.pay 6, gd o2.pay 7, gd o2.pay 8, gd o2.pay 9, gd o2.pay 10, gd o2.pay 11, gd o2.pay 12, gd o2.pay 13, gd o2.pay 14, gd o2.pay 15, gd o2.pay 16, .i (w64 ((gd o2.pay 17).int + 1)), gd o2.pay 24, gd o2.pay 25, gd o2.pay 26, gd o2.pay 27, gd o2.pay 28, gd o2.pay 29, gd o2.pay 30, gd o2.pay 31, gd o2.pay 32, gd o2.pay 33, gd o2.pay 34, gd o2.pay 35, gd o2.pay 36, gd o2.pay 37, gd o2.pay 38])))
  else ex 0 [x0, x1, x2, x3, x4, x5, x6, x7, x8, x9, x10, x11, x12, x13, x14, x15, x16, x17, x18, x19, x20, x21, x22, x23, x24, x25, x26, x27, x28, x29, x30, x31, x32] := by kernel_rfl
/- x0=t0(.one (.agg [.d si, .d (.sl 97), .d si, .d si, .d si, .d si, .d si, .d si, .d (.sl 176), .d (.sl 80), .d (.sl 116), .d (.sl 3), .d (.sl 102), .d (.sl 85), .d (.sl 88)])) x15=t1(.one (.c (.ptr 1 0))) x16=t2(.one (.c (.kb false))) x17=t11(ri) x18=t3(ri) x19=t4(ri) x20=t5(ri) x21=t15(sd (.sl 80)) x22=t16(ri) x23=t17(ri) x24=box1[.d si, .d (.sl 97), .d si, .d si, .d si, .d si, .d si, .d si, .d (.sl 176), .d (.sl 80), .d (.sl 116), .d (.sl 3), .d (.sl 102), .d (.sl 85), .d (.sl 88)] -/
theorem i_JudgeOwnersR2 (N : Nat) (p : List D) (x0 x1 x2 x3 x4 x5 x6 x7 x8 x9 x10 x11 x12 x13 x14 x15 x16 x17 x18 x19 x20 x21 x22 x23 x24 x25 x26 x27 x28 x29 x30 x31 x32 x33 x34 x35 x36 x37 x38 : D) : (i_JudgeOwnersL2 N p) [x0, x1, x2, x3, x4, x5, x6, x7, x8, x9, x10, x11, x12, x13, x14, x15, x16, x17, x18, x19, x20, x21, x22, x23, x24, x25, x26, x27, x28, x29, x30, x31, x32, x33, x34, x35, x36, x37, x38] =
  bif ltI x23.int x22.int then nd (inRange x23.int x21.rows.length) (bif freeF (sub (x21.rows.getD x23.int.toNat []) 0 9) [x18, .i (w64 (x18.int + 1))] then bif haveAll (gd (x21.rows.getD x23.int.toNat []) 1) [x18, .i (w64 (x18.int + 1))] then nx [x0, x1, x2, x3, x4, x5, x6, x7, x8, x9, x10, x11, x12, x13, x14, x15, x16, x17, x18, .i (w64 (x19.int + 1)), .i (w64 (x20.int + 1)), x21, x22, .i (w64 (x23.int + 1)), x24, x25, x26, x27, x28, x29, x30, x31, x32, x33, x34, x35, x36, x37, x38]
  else nx [x0, x1, x2, x3, x4, x5, x6, x7, x8, x9, x10, x11, x12, x13, x14, x15, x16, x17, x18, .i (w64 (x19.int + 1)), x20, x21, x22, .i (w64 (x23.int + 1)), x24, x25, x26, x27, x28, x29, x30, x31, x32, x33, x34, x35, x36, x37, x38]
  else bif haveAll (gd (x21.rows.getD x23.int.toNat []) 1) [x18, .i (w64 (x18.int + 1))] then nx [x0, x1, x2, x3, x4, x5, x6, x7, x8, x9, x10, x11, x12, x13, x14, x15, x16, x17, x18, x19, .i (w64 (x20.int + 1)), x21, x22, .i (w64 (x23.int + 1)), x24, x25, x26, x27, x28, x29, x30, x31, x32, x33, x34, x35, x36, x37, x38]
  else nx [x0, x1, x2, x3, x4, x5, x6, x7, x8, x9, x10, x11, x12, x13, x14, x15, x16, x17, x18, x19, x20, x21, x22, .i (w64 (x23.int + 1)), x24, x25, x26, x27, x28, x29, x30, x31, x32, x33, x34, x35, x36, x37, x38])
  else ex 2 [x0, x1, x2, x3, x4, x5, x6, x7, x8, x9, x10, x11, x12, x13, x14, x15, x16, x17, x18, x19, x20, x21, x22, x23, x24, x25, x26, x27, x28, x29, x30, x31, x32, x33, x34, x35, x36, x37, x38] := by kernel_rfl
noncomputable def i_JudgeOwnerss0 (N : Nat) (p : List D) : Out := let o0 : Out := iter (i_JudgeOwnersL0 N p) N [gd p 0, gd p 1, gd p 2, gd p 3, gd p 4, gd p 5, gd p 6, gd p 7, gd p 8, gd p 9, gd p 10, gd p 11, gd p 12, gd p 13, gd p 14, .i 0, .i 0, .i 0, gd p 0, gd p 1, gd p 2, gd p 3, gd p 4, gd p 5, gd p 6, gd p 7, gd p 8, gd p 9, gd p 10, gd p 11, gd p 12, gd p 13, gd p 14]; nd o0.isSome (bif o0.code == 1 then some (1, o0.pay) else nd (o0.code == 2) (ob true))
theorem i_JudgeOwners_ev (N : Nat) (p : List D) : evFn Tryz.prog i_JudgeOwnersT N i_JudgeOwnersK Tryz.f21 rb [⟨ag rITown, p⟩] = some (bo, nd (townSmall (sub p 0 15)) (bif !(townOk (sub p 0 15)) then ob false else (i_JudgeOwnerss0 N p))) := by kernel_rfl
def freeC (p : List D) (x k : Nat) : Bool := freeF (sub ((gd p 9).rows.getD k []) 0 9) [.i (x : Int), .i (w64 ((x : Int) + 1))]
def ownC (p : List D) (x k : Nat) : Bool := haveAll (gd ((gd p 9).rows.getD k []) 1) [.i (x : Int), .i (w64 ((x : Int) + 1))]
def ownersC (p : List D) (x : Nat) : Bool := leI (cnt (freeC p x) 0 (gd p 9).rows.length : Int) 1 && leI 1 (cnt (ownC p x) 0 (gd p 9).rows.length : Int)
def judgeOwners (p : List D) : Bool := townOk p && (List.range 1000).all (ownersC p)
theorem cnt_w (C : Nat → Bool) {k : Nat} (h : k ≤ 4) : w64 ((cnt C 0 k : Int) + 1) = ((cnt C 0 k + 1 : Nat) : Int) := by
  have := cnt_le C k 0
  rw [w64_id (by omega) (by omega)]
  omega
theorem lt1 (n : Nat) : ltI 1 (n : Int) = !leI (n : Int) 1 := by
  rw [Bool.eq_iff_iff]; simp only [ltI, leI, decide_eq_true_eq, Bool.not_eq_true', decide_eq_false_iff_not]; omega
theorem lt1' (n : Nat) : ltI (n : Int) 1 = !leI 1 (n : Int) := by
  rw [Bool.eq_iff_iff]; simp only [ltI, leI, decide_eq_true_eq, Bool.not_eq_true', decide_eq_false_iff_not]; omega
theorem eq0 (n : Nat) : ((n : Int) == 0) = !leI 1 (n : Int) := by
  rw [Bool.eq_iff_iff]; simp only [leI, beq_iff_eq, Bool.not_eq_true', decide_eq_false_iff_not]; omega
theorem key_nat {x : Nat} (hx : x < 1000) : rangeOk [.i (x : Int), .i (w64 ((x : Int) + 1))] = true := one_rangeOk (r := [.i (x : Int)]) (by show 0 ≤ (x : Int); omega) (by show (x : Int) ≤ 999; omega)
theorem i_JOx (p : List D) (ht : townOk p = true) (x : Nat) (hx : x < 1000) (N : Nat) (hN : (gd p 9).rows.length < N) : iter (i_JudgeOwnersL2 N p) N [gd p 0, gd p 1, gd p 2, gd p 3, gd p 4, gd p 5, gd p 6, gd p 7, gd p 8, gd p 9, gd p 10, gd p 11, gd p 12, gd p 13, gd p 14, .i 0, .i 0, .i (x : Int), .i (x : Int), .i 0, .i 0, gd p 9, .i ((gd p 9).rows.length : Int), .i 0, gd p 0, gd p 1, gd p 2, gd p 3, gd p 4, gd p 5, gd p 6, gd p 7, gd p 8, gd p 9, gd p 10, gd p 11, gd p 12, gd p 13, gd p 14] = some (4, [gd p 0, gd p 1, gd p 2, gd p 3, gd p 4, gd p 5, gd p 6, gd p 7, gd p 8, gd p 9, gd p 10, gd p 11, gd p 12, gd p 13, gd p 14, .i 0, .i 0, .i (x : Int), .i (x : Int), .i (cnt (freeC p x) 0 (gd p 9).rows.length : Int), .i (cnt (ownC p x) 0 (gd p 9).rows.length : Int), gd p 9, .i ((gd p 9).rows.length : Int), .i ((gd p 9).rows.length : Int), gd p 0, gd p 1, gd p 2, gd p 3, gd p 4, gd p 5, gd p 6, gd p 7, gd p 8, gd p 9, gd p 10, gd p 11, gd p 12, gd p 13, gd p 14]) := by
  have hn := town_n ht
  have e := run_loop (L := (i_JudgeOwnersL2 N p)) (fun k => [gd p 0, gd p 1, gd p 2, gd p 3, gd p 4, gd p 5, gd p 6, gd p 7, gd p 8, gd p 9, gd p 10, gd p 11, gd p 12, gd p 13, gd p 14, .i 0, .i 0, .i (x : Int), .i (x : Int), .i (cnt (freeC p x) 0 k : Int), .i (cnt (ownC p x) 0 k : Int), gd p 9, .i ((gd p 9).rows.length : Int), .i (k : Int), gd p 0, gd p 1, gd p 2, gd p 3, gd p 4, gd p 5, gd p 6, gd p 7, gd p 8, gd p 9, gd p 10, gd p 11, gd p 12, gd p 13, gd p 14]) (gd p 9).rows.length 2 (fun k hk => ?_) ?_ (N := N) hN
  · simp only [Int.natCast_zero] at e
    exact e
  · show i_JudgeOwnersL2 N p [gd p 0, gd p 1, gd p 2, gd p 3, gd p 4, gd p 5, gd p 6, gd p 7, gd p 8, gd p 9, gd p 10, gd p 11, gd p 12, gd p 13, gd p 14, .i 0, .i 0, .i (x : Int), .i (x : Int), .i (cnt (freeC p x) 0 k : Int), .i (cnt (ownC p x) 0 k : Int), gd p 9, .i ((gd p 9).rows.length : Int), .i (k : Int), gd p 0, gd p 1, gd p 2, gd p 3, gd p 4, gd p 5, gd p 6, gd p 7, gd p 8, gd p 9, gd p 10, gd p 11, gd p 12, gd p 13, gd p 14] = nx [gd p 0, gd p 1, gd p 2, gd p 3, gd p 4, gd p 5, gd p 6, gd p 7, gd p 8, gd p 9, gd p 10, gd p 11, gd p 12, gd p 13, gd p 14, .i 0, .i 0, .i (x : Int), .i (x : Int), .i (cnt (freeC p x) 0 (k + 1) : Int), .i (cnt (ownC p x) 0 (k + 1) : Int), gd p 9, .i ((gd p 9).rows.length : Int), .i ((k + 1) : Int), gd p 0, gd p 1, gd p 2, gd p 3, gd p 4, gd p 5, gd p 6, gd p 7, gd p 8, gd p 9, gd p 10, gd p 11, gd p 12, gd p 13, gd p 14]
    rw [i_JudgeOwnersR2]
    simp only [int_i, c_lt hk, nd_ix hk, w64_succ hk (show (gd p 9).rows.length ≤ 9223372036854775807 from by omega), Int.toNat_natCast, cnt_w _ (show k ≤ 4 from by omega), cnt_succ, Nat.zero_add]
    show (bif freeC p x k then (bif ownC p x k then _ else _) else (bif ownC p x k then _ else _)) = _
    cases freeC p x k <;> cases ownC p x k <;> rfl
  · show i_JudgeOwnersL2 N p [gd p 0, gd p 1, gd p 2, gd p 3, gd p 4, gd p 5, gd p 6, gd p 7, gd p 8, gd p 9, gd p 10, gd p 11, gd p 12, gd p 13, gd p 14, .i 0, .i 0, .i (x : Int), .i (x : Int), .i (cnt (freeC p x) 0 (gd p 9).rows.length : Int), .i (cnt (ownC p x) 0 (gd p 9).rows.length : Int), gd p 9, .i ((gd p 9).rows.length : Int), .i ((gd p 9).rows.length : Int), gd p 0, gd p 1, gd p 2, gd p 3, gd p 4, gd p 5, gd p 6, gd p 7, gd p 8, gd p 9, gd p 10, gd p 11, gd p 12, gd p 13, gd p 14] = _
    rw [i_JudgeOwnersR2]
    simp only [int_i, c_nlt]
theorem i_JOo (p : List D) (ht : townOk p = true) (N : Nat) (hN : (gd p 9).rows.length + 1000 < N) : iter (i_JudgeOwnersL0 N p) N [gd p 0, gd p 1, gd p 2, gd p 3, gd p 4, gd p 5, gd p 6, gd p 7, gd p 8, gd p 9, gd p 10, gd p 11, gd p 12, gd p 13, gd p 14, .i 0, .i 0, .i 0, gd p 0, gd p 1, gd p 2, gd p 3, gd p 4, gd p 5, gd p 6, gd p 7, gd p 8, gd p 9, gd p 10, gd p 11, gd p 12, gd p 13, gd p 14] = some (bif (List.range 1000).all (ownersC p) then (2, [gd p 0, gd p 1, gd p 2, gd p 3, gd p 4, gd p 5, gd p 6, gd p 7, gd p 8, gd p 9, gd p 10, gd p 11, gd p 12, gd p 13, gd p 14, .i 0, .i 0, .i ((1000 : Nat) : Int), gd p 0, gd p 1, gd p 2, gd p 3, gd p 4, gd p 5, gd p 6, gd p 7, gd p 8, gd p 9, gd p 10, gd p 11, gd p 12, gd p 13, gd p 14]) else (1, [.b false])) := by
  have e := for_loop (L := (i_JudgeOwnersL0 N p)) (fun x => [gd p 0, gd p 1, gd p 2, gd p 3, gd p 4, gd p 5, gd p 6, gd p 7, gd p 8, gd p 9, gd p 10, gd p 11, gd p 12, gd p 13, gd p 14, .i 0, .i 0, .i (x : Int), gd p 0, gd p 1, gd p 2, gd p 3, gd p 4, gd p 5, gd p 6, gd p 7, gd p 8, gd p 9, gd p 10, gd p 11, gd p 12, gd p 13, gd p 14]) 1000 (ownersC p) [.b false] 0 (fun x hx => ?_) ?_ (N := N) (by omega)
  · simp only [Int.natCast_zero] at e
    exact e
  · show i_JudgeOwnersL0 N p [gd p 0, gd p 1, gd p 2, gd p 3, gd p 4, gd p 5, gd p 6, gd p 7, gd p 8, gd p 9, gd p 10, gd p 11, gd p 12, gd p 13, gd p 14, .i 0, .i 0, .i (x : Int), gd p 0, gd p 1, gd p 2, gd p 3, gd p 4, gd p 5, gd p 6, gd p 7, gd p 8, gd p 9, gd p 10, gd p 11, gd p 12, gd p 13, gd p 14] = _
    rw [i_JudgeOwnersR0]
    simp only [int_i]
    rw [ltI_t (show (x : Int) < 1000 from by omega), cond_true, i_JOx p ht x hx N (by omega)]
    show nd true (nd true (bif ltI 1 (cnt (freeC p x) 0 (gd p 9).rows.length : Int) then ob false else bif ltI (cnt (ownC p x) 0 (gd p 9).rows.length : Int) 1 then ob false else nx [gd p 0, gd p 1, gd p 2, gd p 3, gd p 4, gd p 5, gd p 6, gd p 7, gd p 8, gd p 9, gd p 10, gd p 11, gd p 12, gd p 13, gd p 14, .i 0, .i 0, .i (w64 ((x : Int) + 1)), gd p 0, gd p 1, gd p 2, gd p 3, gd p 4, gd p 5, gd p 6, gd p 7, gd p 8, gd p 9, gd p 10, gd p 11, gd p 12, gd p 13, gd p 14])) = _
    rw [lt1, lt1', nd_true, nd_true, w64_succ hx (by omega)]
    unfold ownersC
    cases leI (cnt (freeC p x) 0 (gd p 9).rows.length : Int) 1 <;> cases leI 1 (cnt (ownC p x) 0 (gd p 9).rows.length : Int) <;> rfl
  · show i_JudgeOwnersL0 N p [gd p 0, gd p 1, gd p 2, gd p 3, gd p 4, gd p 5, gd p 6, gd p 7, gd p 8, gd p 9, gd p 10, gd p 11, gd p 12, gd p 13, gd p 14, .i 0, .i 0, .i ((1000 : Nat) : Int), gd p 0, gd p 1, gd p 2, gd p 3, gd p 4, gd p 5, gd p 6, gd p 7, gd p 8, gd p 9, gd p 10, gd p 11, gd p 12, gd p 13, gd p 14] = _
    rw [i_JudgeOwnersR0]
    simp only [int_i]
    rw [ltI_f (show (1000 : Int) ≤ ((1000 : Nat) : Int) from by omega), cond_false]
def i_JudgeOwnersE : Ent := (21, e1 (ag rITown) fun p => (⟨rb, [.b (judgeOwners p)]⟩, townSmall p))
theorem i_JudgeOwners_ok : EntOk Tryz.prog i_JudgeOwnersE := e1_ok fun p h => evFn_sound (N := (gd p 9).rows.length + 1001) (ks := i_JudgeOwnersK) (key := bo) i_JudgeOwnersT_ok (enters Tryz.func21 (by kernel_rfl) (by kernel_rfl)) Tryz.func21 fun hw => by
  rw [i_JudgeOwners_ev]
  refine congrArg (fun x => some (bo, x)) ?_
  have h : townSmall p = true := h
  show nd (townSmall p) (bif !(townOk p) then ob false else i_JudgeOwnerss0 ((gd p 9).rows.length + 1001) p) = ob (judgeOwners p)
  rw [h, nd_true]
  cases ht : townOk p with
  | false => unfold judgeOwners; rw [ht]; rfl
  | true =>
    simp only [Bool.not_true, cond_false]
    rw [show i_JudgeOwnerss0 ((gd p 9).rows.length + 1001) p = nd (iter (i_JudgeOwnersL0 ((gd p 9).rows.length + 1001) p) ((gd p 9).rows.length + 1001) [gd p 0, gd p 1, gd p 2, gd p 3, gd p 4, gd p 5, gd p 6, gd p 7, gd p 8, gd p 9, gd p 10, gd p 11, gd p 12, gd p 13, gd p 14, .i 0, .i 0, .i 0, gd p 0, gd p 1, gd p 2, gd p 3, gd p 4, gd p 5, gd p 6, gd p 7, gd p 8, gd p 9, gd p 10, gd p 11, gd p 12, gd p 13, gd p 14]).isSome (bif Out.code (iter (i_JudgeOwnersL0 ((gd p 9).rows.length + 1001) p) ((gd p 9).rows.length + 1001) [gd p 0, gd p 1, gd p 2, gd p 3, gd p 4, gd p 5, gd p 6, gd p 7, gd p 8, gd p 9, gd p 10, gd p 11, gd p 12, gd p 13, gd p 14, .i 0, .i 0, .i 0, gd p 0, gd p 1, gd p 2, gd p 3, gd p 4, gd p 5, gd p 6, gd p 7, gd p 8, gd p 9, gd p 10, gd p 11, gd p 12, gd p 13, gd p 14]) == 1 then some (1, Out.pay (iter (i_JudgeOwnersL0 ((gd p 9).rows.length + 1001) p) ((gd p 9).rows.length + 1001) [gd p 0, gd p 1, gd p 2, gd p 3, gd p 4, gd p 5, gd p 6, gd p 7, gd p 8, gd p 9, gd p 10, gd p 11, gd p 12, gd p 13, gd p 14, .i 0, .i 0, .i 0, gd p 0, gd p 1, gd p 2, gd p 3, gd p 4, gd p 5, gd p 6, gd p 7, gd p 8, gd p 9, gd p 10, gd p 11, gd p 12, gd p 13, gd p 14])) else nd (Out.code (iter (i_JudgeOwnersL0 ((gd p 9).rows.length + 1001) p) ((gd p 9).rows.length + 1001) [gd p 0, gd p 1, gd p 2, gd p 3, gd p 4, gd p 5, gd p 6, gd p 7, gd p 8, gd p 9, gd p 10, gd p 11, gd p 12, gd p 13, gd p 14, .i 0, .i 0, .i 0, gd p 0, gd p 1, gd p 2, gd p 3, gd p 4, gd p 5, gd p 6, gd p 7, gd p 8, gd p 9, gd p 10, gd p 11, gd p 12, gd p 13, gd p 14]) == 2) (ob true)) from by kernel_rfl]
    rw [i_JOo p ht _ (by omega)]
    rw [show judgeOwners p = (List.range 1000).all (ownersC p) from by unfold judgeOwners; rw [ht, Bool.true_and]]
    cases (List.range 1000).all (ownersC p) <;> rfl

/-! loop.example/g00097/spec.JudgeOwners -/
abbrev s_JudgeOwnersT : FuncId → List T → Option (T × Bool) := find [s_TownOkE, s_l10OneE, s_RangesHaveE, s_l13FreeE]
theorem s_JudgeOwnersT_ok : CallOk Tryz.prog s_JudgeOwnersT := find_ok (List.forall_mem_cons.2 ⟨s_TownOk_ok, List.forall_mem_cons.2 ⟨s_l10One_ok, List.forall_mem_cons.2 ⟨s_RangesHave_ok, List.forall_mem_cons.2 ⟨s_l13Free_ok, List.forall_mem_nil _⟩⟩⟩⟩)
abbrev s_JudgeOwnersK : List Nat := [0, 1, 2, 3, 4, 5, 6, 9, 11, 18, 29, 39, 47, 1000009, 1000011, 1000018, 1000029, 1000039, 1000047]
noncomputable def s_JudgeOwnersL0 (N : Nat) (p : List D) : List D → Out := loopOf Tryz.prog s_JudgeOwnersT N s_JudgeOwnersK Tryz.f20 rb [⟨ag rITown, p⟩] 0
noncomputable def s_JudgeOwnersL2 (N : Nat) (p : List D) : List D → Out := loopOf Tryz.prog s_JudgeOwnersT N s_JudgeOwnersK Tryz.f20 rb [⟨ag rITown, p⟩] 2
/- x0=t0(.one (.agg [.d si, .d (.sl 97), .d si, .d si, .d si, .d si, .d si, .d si, .d (.sl 176), .d (.sl 80), .d (.sl 116), .d (.sl 3), .d (.sl 102), .d (.sl 85), .d (.sl 88)])) x15=t1(.one (.c (.ptr 1 0))) x16=t2(.one (.c (.kb false))) x17=t3(ri) x18=box1[.d si, .d (.sl 97), .d si, .d si, .d si, .d si, .d si, .d si, .d (.sl 176), .d (.sl 80), .d (.sl 116), .d (.sl 3), .d (.sl 102), .d (.sl 85), .d (.sl 88)] -/
theorem s_JudgeOwnersR0 (N : Nat) (p : List D) (x0 x1 x2 x3 x4 x5 x6 x7 x8 x9 x10 x11 x12 x13 x14 x15 x16 x17 x18 x19 x20 x21 x22 x23 x24 x25 x26 x27 x28 x29 x30 x31 x32 : D) : (s_JudgeOwnersL0 N p) [x0, x1, x2, x3, x4, x5, x6, x7, x8, x9, x10, x11, x12, x13, x14, x15, x16, x17, x18, x19, x20, x21, x22, x23, x24, x25, x26, x27, x28, x29, x30, x31, x32] =
  bif ltI x17.int 1000 then (let o2 := iter (s_JudgeOwnersL2 N p) N [x0, x1, x2, x3, x4, x5, x6, x7, x8, x9, x10, x11, x12, x13, x14, x15, x16, x17, .i 0, .i 0, .i 0, x18, x19, x20, x21, x22, x23, x24, x25, x26, x27, x28, x29, x30, x31, x32]
   nd o2.isSome (nd (o2.code == 4) (bif ltI 1 (gd o2.pay 18).int then ob false
   else bif (gd o2.pay 19).int == 0 then ob false
   else nx [gd o2.pay 0, gd o2.pay 1, gd o2.pay 2, gd o2.pay 3, gd o2.pay 4, gd o2.pay 5, gd o2.pay 6, gd o2.pay 7, gd o2.pay 8, gd o2.pay 9, gd o2.pay 10, gd o2.pay 11, gd o2.pay 12, gd o2.pay 13, gd o2.pay 14, gd o2.pay 15, gd o2.pay 16, .i (w64 ((gd o2.pay 17).int + 1)), gd o2.pay 21, gd o2.pay 22, gd o2.pay 23, gd o2.pay 24, gd o2.pay 25, gd o2.pay 26, gd o2.pay 27, gd o2.pay 28, gd o2.pay 29, gd o2.pay 30, gd o2.pay 31, gd o2.pay 32, gd o2.pay 33, gd o2.pay 34, gd o2.pay 35])))
  else ex 0 [x0, x1, x2, x3, x4, x5, x6, x7, x8, x9, x10, x11, x12, x13, x14, x15, x16, x17, x18, x19, x20, x21, x22, x23, x24, x25, x26, x27, x28, x29, x30, x31, x32] := by kernel_rfl
/- x0=t0(.one (.agg [.d si, .d (.sl 97), .d si, .d si, .d si, .d si, .d si, .d si, .d (.sl 176), .d (.sl 80), .d (.sl 116), .d (.sl 3), .d (.sl 102), .d (.sl 85), .d (.sl 88)])) x15=t1(.one (.c (.ptr 1 0))) x16=t2(.one (.c (.kb false))) x17=t3(ri) x18=t4(ri) x19=t5(ri) x20=t6(ri) x21=box1[.d si, .d (.sl 97), .d si, .d si, .d si, .d si, .d si, .d si, .d (.sl 176), .d (.sl 80), .d (.sl 116), .d (.sl 3), .d (.sl 102), .d (.sl 85), .d (.sl 88)] -/
theorem s_JudgeOwnersR2 (N : Nat) (p : List D) (x0 x1 x2 x3 x4 x5 x6 x7 x8 x9 x10 x11 x12 x13 x14 x15 x16 x17 x18 x19 x20 x21 x22 x23 x24 x25 x26 x27 x28 x29 x30 x31 x32 x33 x34 x35 : D) : (s_JudgeOwnersL2 N p) [x0, x1, x2, x3, x4, x5, x6, x7, x8, x9, x10, x11, x12, x13, x14, x15, x16, x17, x18, x19, x20, x21, x22, x23, x24, x25, x26, x27, x28, x29, x30, x31, x32, x33, x34, x35] =
  bif ltI x20.int (x30.rows.length : Int) then nd (inRange x20.int x30.rows.length) (bif rangesHave (gd (x30.rows.getD x20.int.toNat []) 1) [x17, .i (w64 (x17.int + 1))] then nd (inRange x20.int x30.rows.length) (bif freeS (sub (x30.rows.getD x20.int.toNat []) 0 9) [x17, .i (w64 (x17.int + 1))] then nx [x0, x1, x2, x3, x4, x5, x6, x7, x8, x9, x10, x11, x12, x13, x14, x15, x16, x17, .i (w64 (x18.int + 1)), .i (w64 (x19.int + 1)), .i (w64 (x20.int + 1)), x21, x22, x23, x24, x25, x26, x27, x28, x29, x30, x31, x32, x33, x34, x35]
  else nx [x0, x1, x2, x3, x4, x5, x6, x7, x8, x9, x10, x11, x12, x13, x14, x15, x16, x17, x18, .i (w64 (x19.int + 1)), .i (w64 (x20.int + 1)), x21, x22, x23, x24, x25, x26, x27, x28, x29, x30, x31, x32, x33, x34, x35])
  else nd (inRange x20.int x30.rows.length) (bif freeS (sub (x30.rows.getD x20.int.toNat []) 0 9) [x17, .i (w64 (x17.int + 1))] then nx [x0, x1, x2, x3, x4, x5, x6, x7, x8, x9, x10, x11, x12, x13, x14, x15, x16, x17, .i (w64 (x18.int + 1)), x19, .i (w64 (x20.int + 1)), x21, x22, x23, x24, x25, x26, x27, x28, x29, x30, x31, x32, x33, x34, x35]
  else nx [x0, x1, x2, x3, x4, x5, x6, x7, x8, x9, x10, x11, x12, x13, x14, x15, x16, x17, x18, x19, .i (w64 (x20.int + 1)), x21, x22, x23, x24, x25, x26, x27, x28, x29, x30, x31, x32, x33, x34, x35]))
  else ex 2 [x0, x1, x2, x3, x4, x5, x6, x7, x8, x9, x10, x11, x12, x13, x14, x15, x16, x17, x18, x19, x20, x21, x22, x23, x24, x25, x26, x27, x28, x29, x30, x31, x32, x33, x34, x35] := by kernel_rfl
noncomputable def s_JudgeOwnerss0 (N : Nat) (p : List D) : Out := let o0 : Out := iter (s_JudgeOwnersL0 N p) N [gd p 0, gd p 1, gd p 2, gd p 3, gd p 4, gd p 5, gd p 6, gd p 7, gd p 8, gd p 9, gd p 10, gd p 11, gd p 12, gd p 13, gd p 14, .i 0, .i 0, .i 0, gd p 0, gd p 1, gd p 2, gd p 3, gd p 4, gd p 5, gd p 6, gd p 7, gd p 8, gd p 9, gd p 10, gd p 11, gd p 12, gd p 13, gd p 14]; nd o0.isSome (bif o0.code == 1 then some (1, o0.pay) else nd (o0.code == 2) (ob true))
theorem s_JudgeOwners_ev (N : Nat) (p : List D) : evFn Tryz.prog s_JudgeOwnersT N s_JudgeOwnersK Tryz.f20 rb [⟨ag rITown, p⟩] = some (bo, bif !(townOk (sub p 0 15)) then ob false else (s_JudgeOwnerss0 N p)) := by kernel_rfl
theorem s_JOx (p : List D) (ht : townOk p = true) (x : Nat) (hx : x < 1000) (N : Nat) (hN : (gd p 9).rows.length < N) : iter (s_JudgeOwnersL2 N p) N [gd p 0, gd p 1, gd p 2, gd p 3, gd p 4, gd p 5, gd p 6, gd p 7, gd p 8, gd p 9, gd p 10, gd p 11, gd p 12, gd p 13, gd p 14, .i 0, .i 0, .i (x : Int), .i 0, .i 0, .i 0, gd p 0, gd p 1, gd p 2, gd p 3, gd p 4, gd p 5, gd p 6, gd p 7, gd p 8, gd p 9, gd p 10, gd p 11, gd p 12, gd p 13, gd p 14] = some (4, [gd p 0, gd p 1, gd p 2, gd p 3, gd p 4, gd p 5, gd p 6, gd p 7, gd p 8, gd p 9, gd p 10, gd p 11, gd p 12, gd p 13, gd p 14, .i 0, .i 0, .i (x : Int), .i (cnt (freeC p x) 0 (gd p 9).rows.length : Int), .i (cnt (ownC p x) 0 (gd p 9).rows.length : Int), .i ((gd p 9).rows.length : Int), gd p 0, gd p 1, gd p 2, gd p 3, gd p 4, gd p 5, gd p 6, gd p 7, gd p 8, gd p 9, gd p 10, gd p 11, gd p 12, gd p 13, gd p 14]) := by
  have hn := town_n ht
  have e := run_loop (L := (s_JudgeOwnersL2 N p)) (fun k => [gd p 0, gd p 1, gd p 2, gd p 3, gd p 4, gd p 5, gd p 6, gd p 7, gd p 8, gd p 9, gd p 10, gd p 11, gd p 12, gd p 13, gd p 14, .i 0, .i 0, .i (x : Int), .i (cnt (freeC p x) 0 k : Int), .i (cnt (ownC p x) 0 k : Int), .i (k : Int), gd p 0, gd p 1, gd p 2, gd p 3, gd p 4, gd p 5, gd p 6, gd p 7, gd p 8, gd p 9, gd p 10, gd p 11, gd p 12, gd p 13, gd p 14]) (gd p 9).rows.length 2 (fun k hk => ?_) ?_ (N := N) hN
  · simp only [Int.natCast_zero] at e
    exact e
  · show s_JudgeOwnersL2 N p [gd p 0, gd p 1, gd p 2, gd p 3, gd p 4, gd p 5, gd p 6, gd p 7, gd p 8, gd p 9, gd p 10, gd p 11, gd p 12, gd p 13, gd p 14, .i 0, .i 0, .i (x : Int), .i (cnt (freeC p x) 0 k : Int), .i (cnt (ownC p x) 0 k : Int), .i (k : Int), gd p 0, gd p 1, gd p 2, gd p 3, gd p 4, gd p 5, gd p 6, gd p 7, gd p 8, gd p 9, gd p 10, gd p 11, gd p 12, gd p 13, gd p 14] = nx [gd p 0, gd p 1, gd p 2, gd p 3, gd p 4, gd p 5, gd p 6, gd p 7, gd p 8, gd p 9, gd p 10, gd p 11, gd p 12, gd p 13, gd p 14, .i 0, .i 0, .i (x : Int), .i (cnt (freeC p x) 0 (k + 1) : Int), .i (cnt (ownC p x) 0 (k + 1) : Int), .i ((k + 1) : Int), gd p 0, gd p 1, gd p 2, gd p 3, gd p 4, gd p 5, gd p 6, gd p 7, gd p 8, gd p 9, gd p 10, gd p 11, gd p 12, gd p 13, gd p 14]
    rw [s_JudgeOwnersR2]
    simp only [int_i, c_lt hk, nd_ix hk, w64_succ hk (show (gd p 9).rows.length ≤ 9223372036854775807 from by omega), Int.toNat_natCast, cnt_w _ (show k ≤ 4 from by omega), cnt_succ, Nat.zero_add]
    obtain ⟨a, b, _⟩ := shard_own (town_shard ht hk)
    have e1 : freeS (sub ((gd p 9).rows.getD k []) 0 9) [.i (x : Int), .i (w64 ((x : Int) + 1))] = freeC p x k := free_same a b (key_nat hx)
    have e2 : rangesHave (gd ((gd p 9).rows.getD k []) 1) [.i (x : Int), .i (w64 ((x : Int) + 1))] = ownC p x k := (have_same a (key_nat hx)).symm
    rw [e1, e2]
    cases freeC p x k <;> cases ownC p x k <;> rfl
  · show s_JudgeOwnersL2 N p [gd p 0, gd p 1, gd p 2, gd p 3, gd p 4, gd p 5, gd p 6, gd p 7, gd p 8, gd p 9, gd p 10, gd p 11, gd p 12, gd p 13, gd p 14, .i 0, .i 0, .i (x : Int), .i (cnt (freeC p x) 0 (gd p 9).rows.length : Int), .i (cnt (ownC p x) 0 (gd p 9).rows.length : Int), .i ((gd p 9).rows.length : Int), gd p 0, gd p 1, gd p 2, gd p 3, gd p 4, gd p 5, gd p 6, gd p 7, gd p 8, gd p 9, gd p 10, gd p 11, gd p 12, gd p 13, gd p 14] = _
    rw [s_JudgeOwnersR2]
    simp only [int_i, c_nlt]
theorem s_JOo (p : List D) (ht : townOk p = true) (N : Nat) (hN : (gd p 9).rows.length + 1000 < N) : iter (s_JudgeOwnersL0 N p) N [gd p 0, gd p 1, gd p 2, gd p 3, gd p 4, gd p 5, gd p 6, gd p 7, gd p 8, gd p 9, gd p 10, gd p 11, gd p 12, gd p 13, gd p 14, .i 0, .i 0, .i 0, gd p 0, gd p 1, gd p 2, gd p 3, gd p 4, gd p 5, gd p 6, gd p 7, gd p 8, gd p 9, gd p 10, gd p 11, gd p 12, gd p 13, gd p 14] = some (bif (List.range 1000).all (ownersC p) then (2, [gd p 0, gd p 1, gd p 2, gd p 3, gd p 4, gd p 5, gd p 6, gd p 7, gd p 8, gd p 9, gd p 10, gd p 11, gd p 12, gd p 13, gd p 14, .i 0, .i 0, .i ((1000 : Nat) : Int), gd p 0, gd p 1, gd p 2, gd p 3, gd p 4, gd p 5, gd p 6, gd p 7, gd p 8, gd p 9, gd p 10, gd p 11, gd p 12, gd p 13, gd p 14]) else (1, [.b false])) := by
  have e := for_loop (L := (s_JudgeOwnersL0 N p)) (fun x => [gd p 0, gd p 1, gd p 2, gd p 3, gd p 4, gd p 5, gd p 6, gd p 7, gd p 8, gd p 9, gd p 10, gd p 11, gd p 12, gd p 13, gd p 14, .i 0, .i 0, .i (x : Int), gd p 0, gd p 1, gd p 2, gd p 3, gd p 4, gd p 5, gd p 6, gd p 7, gd p 8, gd p 9, gd p 10, gd p 11, gd p 12, gd p 13, gd p 14]) 1000 (ownersC p) [.b false] 0 (fun x hx => ?_) ?_ (N := N) (by omega)
  · simp only [Int.natCast_zero] at e
    exact e
  · show s_JudgeOwnersL0 N p [gd p 0, gd p 1, gd p 2, gd p 3, gd p 4, gd p 5, gd p 6, gd p 7, gd p 8, gd p 9, gd p 10, gd p 11, gd p 12, gd p 13, gd p 14, .i 0, .i 0, .i (x : Int), gd p 0, gd p 1, gd p 2, gd p 3, gd p 4, gd p 5, gd p 6, gd p 7, gd p 8, gd p 9, gd p 10, gd p 11, gd p 12, gd p 13, gd p 14] = _
    rw [s_JudgeOwnersR0]
    simp only [int_i]
    rw [ltI_t (show (x : Int) < 1000 from by omega), cond_true, s_JOx p ht x hx N (by omega)]
    show nd true (nd true (bif ltI 1 (cnt (freeC p x) 0 (gd p 9).rows.length : Int) then ob false else bif (cnt (ownC p x) 0 (gd p 9).rows.length : Int) == 0 then ob false else nx [gd p 0, gd p 1, gd p 2, gd p 3, gd p 4, gd p 5, gd p 6, gd p 7, gd p 8, gd p 9, gd p 10, gd p 11, gd p 12, gd p 13, gd p 14, .i 0, .i 0, .i (w64 ((x : Int) + 1)), gd p 0, gd p 1, gd p 2, gd p 3, gd p 4, gd p 5, gd p 6, gd p 7, gd p 8, gd p 9, gd p 10, gd p 11, gd p 12, gd p 13, gd p 14])) = _
    rw [lt1, eq0, nd_true, nd_true, w64_succ hx (by omega)]
    unfold ownersC
    cases leI (cnt (freeC p x) 0 (gd p 9).rows.length : Int) 1 <;> cases leI 1 (cnt (ownC p x) 0 (gd p 9).rows.length : Int) <;> rfl
  · show s_JudgeOwnersL0 N p [gd p 0, gd p 1, gd p 2, gd p 3, gd p 4, gd p 5, gd p 6, gd p 7, gd p 8, gd p 9, gd p 10, gd p 11, gd p 12, gd p 13, gd p 14, .i 0, .i 0, .i ((1000 : Nat) : Int), gd p 0, gd p 1, gd p 2, gd p 3, gd p 4, gd p 5, gd p 6, gd p 7, gd p 8, gd p 9, gd p 10, gd p 11, gd p 12, gd p 13, gd p 14] = _
    rw [s_JudgeOwnersR0]
    simp only [int_i]
    rw [ltI_f (show (1000 : Int) ≤ ((1000 : Nat) : Int) from by omega), cond_false]
def s_JudgeOwnersE : Ent := (20, e1 (ag rITown) fun p => (⟨rb, [.b (judgeOwners p)]⟩, true))
theorem s_JudgeOwners_ok : EntOk Tryz.prog s_JudgeOwnersE := e1_ok fun p h => evFn_sound (N := (gd p 9).rows.length + 1001) (ks := s_JudgeOwnersK) (key := bo) s_JudgeOwnersT_ok (enters Tryz.func20 (by kernel_rfl) (by kernel_rfl)) Tryz.func20 fun hw => by
  rw [s_JudgeOwners_ev]
  refine congrArg (fun x => some (bo, x)) ?_
  show (bif !(townOk p) then ob false else s_JudgeOwnerss0 ((gd p 9).rows.length + 1001) p) = ob (judgeOwners p)
  cases ht : townOk p with
  | false => unfold judgeOwners; rw [ht]; rfl
  | true =>
    simp only [Bool.not_true, cond_false]
    rw [show s_JudgeOwnerss0 ((gd p 9).rows.length + 1001) p = nd (iter (s_JudgeOwnersL0 ((gd p 9).rows.length + 1001) p) ((gd p 9).rows.length + 1001) [gd p 0, gd p 1, gd p 2, gd p 3, gd p 4, gd p 5, gd p 6, gd p 7, gd p 8, gd p 9, gd p 10, gd p 11, gd p 12, gd p 13, gd p 14, .i 0, .i 0, .i 0, gd p 0, gd p 1, gd p 2, gd p 3, gd p 4, gd p 5, gd p 6, gd p 7, gd p 8, gd p 9, gd p 10, gd p 11, gd p 12, gd p 13, gd p 14]).isSome (bif Out.code (iter (s_JudgeOwnersL0 ((gd p 9).rows.length + 1001) p) ((gd p 9).rows.length + 1001) [gd p 0, gd p 1, gd p 2, gd p 3, gd p 4, gd p 5, gd p 6, gd p 7, gd p 8, gd p 9, gd p 10, gd p 11, gd p 12, gd p 13, gd p 14, .i 0, .i 0, .i 0, gd p 0, gd p 1, gd p 2, gd p 3, gd p 4, gd p 5, gd p 6, gd p 7, gd p 8, gd p 9, gd p 10, gd p 11, gd p 12, gd p 13, gd p 14]) == 1 then some (1, Out.pay (iter (s_JudgeOwnersL0 ((gd p 9).rows.length + 1001) p) ((gd p 9).rows.length + 1001) [gd p 0, gd p 1, gd p 2, gd p 3, gd p 4, gd p 5, gd p 6, gd p 7, gd p 8, gd p 9, gd p 10, gd p 11, gd p 12, gd p 13, gd p 14, .i 0, .i 0, .i 0, gd p 0, gd p 1, gd p 2, gd p 3, gd p 4, gd p 5, gd p 6, gd p 7, gd p 8, gd p 9, gd p 10, gd p 11, gd p 12, gd p 13, gd p 14])) else nd (Out.code (iter (s_JudgeOwnersL0 ((gd p 9).rows.length + 1001) p) ((gd p 9).rows.length + 1001) [gd p 0, gd p 1, gd p 2, gd p 3, gd p 4, gd p 5, gd p 6, gd p 7, gd p 8, gd p 9, gd p 10, gd p 11, gd p 12, gd p 13, gd p 14, .i 0, .i 0, .i 0, gd p 0, gd p 1, gd p 2, gd p 3, gd p 4, gd p 5, gd p 6, gd p 7, gd p 8, gd p 9, gd p 10, gd p 11, gd p 12, gd p 13, gd p 14]) == 2) (ob true)) from by kernel_rfl]
    rw [s_JOo p ht _ (by omega)]
    rw [show judgeOwners p = (List.range 1000).all (ownersC p) from by unfold judgeOwners; rw [ht, Bool.true_and]]
    cases (List.range 1000).all (ownersC p) <;> rfl

end Go.Proofs.YtchceahcaaibcaaGreat
