/-
  The town: spec.ShardOk. Printed by sym.py.
-/
import Derived.Test.YtchceahcaaibcaaGreatT12
namespace Go.Proofs.YtchceahcaaibcaaGreat
set_option linter.unusedSimpArgs false
set_option linter.unusedVariables false
set_option maxRecDepth 4096
set_option maxHeartbeats 1000000
/-! loop.example/g00097/spec.ShardOk -/
abbrev s_ShardOkT : FuncId → List T → Option (T × Bool) := find [s_l1InE, s_RangesOkE, s_StoreOkE, s_LocksOkE, s_l13TxsE, s_RangesHaveE, s_l10OneE, s_l12RangeE, s_l12HasE, s_l13HeldsOkE, s_l13NewE]
theorem s_ShardOkT_ok : CallOk Tryz.prog s_ShardOkT := find_ok (List.forall_mem_cons.2 ⟨s_l1In_ok, List.forall_mem_cons.2 ⟨s_RangesOk_ok, List.forall_mem_cons.2 ⟨s_StoreOk_ok, List.forall_mem_cons.2 ⟨s_LocksOk_ok, List.forall_mem_cons.2 ⟨s_l13Txs_ok, List.forall_mem_cons.2 ⟨s_RangesHave_ok, List.forall_mem_cons.2 ⟨s_l10One_ok, List.forall_mem_cons.2 ⟨s_l12Range_ok, List.forall_mem_cons.2 ⟨s_l12Has_ok, List.forall_mem_cons.2 ⟨s_l13HeldsOk_ok, List.forall_mem_cons.2 ⟨s_l13New_ok, List.forall_mem_nil _⟩⟩⟩⟩⟩⟩⟩⟩⟩⟩⟩)
abbrev s_ShardOkK : List Nat := [0, 1, 2, 3, 4, 5, 6, 7, 41, 69, 74, 85, 90, 103, 108, 135, 140, 150, 1000041, 1000069, 1000074, 1000085, 1000090, 1000103, 1000108, 1000135, 1000140, 1000150]
noncomputable def s_ShardOkL0 (N : Nat) (p : List D) : List D → Out := loopOf Tryz.prog s_ShardOkT N s_ShardOkK Tryz.f51 rb [⟨ag rIShard, p⟩] 0
noncomputable def s_ShardOkL2 (N : Nat) (p : List D) : List D → Out := loopOf Tryz.prog s_ShardOkT N s_ShardOkK Tryz.f51 rb [⟨ag rIShard, p⟩] 2
noncomputable def s_ShardOkL4 (N : Nat) (p : List D) : List D → Out := loopOf Tryz.prog s_ShardOkT N s_ShardOkK Tryz.f51 rb [⟨ag rIShard, p⟩] 4
noncomputable def s_ShardOkL6 (N : Nat) (p : List D) : List D → Out := loopOf Tryz.prog s_ShardOkT N s_ShardOkK Tryz.f51 rb [⟨ag rIShard, p⟩] 6
/- x0=t0(.one (.agg [.d si, .d (.sl 122), .d (.sl 122), .d (.sl 176), .d (.sl 138), .d (.sl 248), .d (.sl 3), .d (.sl 3), .d si])) x9=t1(.one (.c (.ptr 1 0))) x10=t2(.one (.c (.kb false))) x11=t3(ri) x12=box1[.d si, .d (.sl 122), .d (.sl 122), .d (.sl 176), .d (.sl 138), .d (.sl 248), .d (.sl 3), .d (.sl 3), .d si] -/
theorem s_ShardOkR0 (N : Nat) (p : List D) (x0 x1 x2 x3 x4 x5 x6 x7 x8 x9 x10 x11 x12 x13 x14 x15 x16 x17 x18 x19 x20 : D) : (s_ShardOkL0 N p) [x0, x1, x2, x3, x4, x5, x6, x7, x8, x9, x10, x11, x12, x13, x14, x15, x16, x17, x18, x19, x20] =
  bif ltI x11.int (x14.rows.length : Int) then nd (inRange x11.int x14.rows.length) (bif !(rangesHave x13 (sub (x14.rows.getD x11.int.toNat []) 0 2)) then ob false
  else nx [x0, x1, x2, x3, x4, x5, x6, x7, x8, x9, x10, .i (w64 (x11.int + 1)), x12, x13, x14, x15, x16, x17, x18, x19, x20])
  else ex 0 [x0, x1, x2, x3, x4, x5, x6, x7, x8, x9, x10, x11, x12, x13, x14, x15, x16, x17, x18, x19, x20] := by kernel_rfl
/- x0=t0(.one (.agg [.d si, .d (.sl 122), .d (.sl 122), .d (.sl 176), .d (.sl 138), .d (.sl 248), .d (.sl 3), .d (.sl 3), .d si])) x9=t1(.one (.c (.ptr 1 0))) x10=t2(.one (.c (.kb false))) x11=t3(ri) x12=t4(ri) x13=box1[.d si, .d (.sl 122), .d (.sl 122), .d (.sl 176), .d (.sl 138), .d (.sl 248), .d (.sl 3), .d (.sl 3), .d si] -/
theorem s_ShardOkR2 (N : Nat) (p : List D) (x0 x1 x2 x3 x4 x5 x6 x7 x8 x9 x10 x11 x12 x13 x14 x15 x16 x17 x18 x19 x20 x21 : D) : (s_ShardOkL2 N p) [x0, x1, x2, x3, x4, x5, x6, x7, x8, x9, x10, x11, x12, x13, x14, x15, x16, x17, x18, x19, x20, x21] =
  bif ltI x12.int (x16.rows.length : Int) then nd (inRange x12.int x16.rows.length) (bif !(rangesHave x14 [(gd (x16.rows.getD x12.int.toNat []) 0), .i (w64 ((gd (x16.rows.getD x12.int.toNat []) 0).int + 1))]) then ob false
  else nx [x0, x1, x2, x3, x4, x5, x6, x7, x8, x9, x10, x11, .i (w64 (x12.int + 1)), x13, x14, x15, x16, x17, x18, x19, x20, x21])
  else ex 2 [x0, x1, x2, x3, x4, x5, x6, x7, x8, x9, x10, x11, x12, x13, x14, x15, x16, x17, x18, x19, x20, x21] := by kernel_rfl
/- x0=t0(.one (.agg [.d si, .d (.sl 122), .d (.sl 122), .d (.sl 176), .d (.sl 138), .d (.sl 248), .d (.sl 3), .d (.sl 3), .d si])) x9=t1(.one (.c (.ptr 1 0))) x10=t2(.one (.c (.kb false))) x11=t3(ri) x12=t4(ri) x13=t5(ri) x14=box1[.d si, .d (.sl 122), .d (.sl 122), .d (.sl 176), .d (.sl 138), .d (.sl 248), .d (.sl 3), .d (.sl 3), .d si] -/
theorem s_ShardOkR4 (N : Nat) (p : List D) (x0 x1 x2 x3 x4 x5 x6 x7 x8 x9 x10 x11 x12 x13 x14 x15 x16 x17 x18 x19 x20 x21 x22 : D) : (s_ShardOkL4 N p) [x0, x1, x2, x3, x4, x5, x6, x7, x8, x9, x10, x11, x12, x13, x14, x15, x16, x17, x18, x19, x20, x21, x22] =
  bif ltI x13.int (x18.rows.length : Int) then nd (inRange x13.int x18.rows.length) (bif !(rangesHave x15 [(gd (x18.rows.getD x13.int.toNat []) 1), (gd (x18.rows.getD x13.int.toNat []) 2)]) then ob false
  else bif hasInt x20 (gd (x18.rows.getD x13.int.toNat []) 0).int then ob false
  else bif hasInt x21 (gd (x18.rows.getD x13.int.toNat []) 0).int then ob false
  else nx [x0, x1, x2, x3, x4, x5, x6, x7, x8, x9, x10, x11, x12, .i (w64 (x13.int + 1)), x14, x15, x16, x17, x18, x19, x20, x21, x22])
  else ex 4 [x0, x1, x2, x3, x4, x5, x6, x7, x8, x9, x10, x11, x12, x13, x14, x15, x16, x17, x18, x19, x20, x21, x22] := by kernel_rfl
/- x0=t0(.one (.agg [.d si, .d (.sl 122), .d (.sl 122), .d (.sl 176), .d (.sl 138), .d (.sl 248), .d (.sl 3), .d (.sl 3), .d si])) x9=t1(.one (.c (.ptr 1 0))) x10=t2(.one (.c (.kb false))) x11=t3(ri) x12=t4(ri) x13=t5(ri) x14=t7(ri) x15=box1[.d si, .d (.sl 122), .d (.sl 122), .d (.sl 176), .d (.sl 138), .d (.sl 248), .d (.sl 3), .d (.sl 3), .d si] -/
theorem s_ShardOkR6 (N : Nat) (p : List D) (x0 x1 x2 x3 x4 x5 x6 x7 x8 x9 x10 x11 x12 x13 x14 x15 x16 x17 x18 x19 x20 x21 x22 x23 : D) : (s_ShardOkL6 N p) [x0, x1, x2, x3, x4, x5, x6, x7, x8, x9, x10, x11, x12, x13, x14, x15, x16, x17, x18, x19, x20, x21, x22, x23] =
  bif ltI x14.int (x21.rows.length : Int) then nd (inRange x14.int x21.rows.length) (bif hasInt x22 (gd (x21.rows.getD x14.int.toNat []) 0).int then ob false
  else nx [x0, x1, x2, x3, x4, x5, x6, x7, x8, x9, x10, x11, x12, x13, .i (w64 (x14.int + 1)), x15, x16, x17, x18, x19, x20, x21, x22, x23])
  else ex 6 [x0, x1, x2, x3, x4, x5, x6, x7, x8, x9, x10, x11, x12, x13, x14, x15, x16, x17, x18, x19, x20, x21, x22, x23] := by kernel_rfl
noncomputable def s_ShardOks0 (N : Nat) (p : List D) (o6 : Out) : Out := nd (leI ((gd o6.pay 20).rows.length : Int) 1000000000) (ob (leI (w64 (((gd o6.pay 18).rows.length : Int) + (newSum (gd o6.pay 18) (gd o6.pay 20) (gd o6.pay 20).rows.length))) 60))
noncomputable def s_ShardOks1 (N : Nat) (p : List D) (o6 : Out) : Out := bif o6.code == 1 then some (1, o6.pay) else nd (o6.code == 8) (bif heldsOkS (sub o6.pay 15 9) then (s_ShardOks0 N p o6) else ob false)
noncomputable def s_ShardOks2 (N : Nat) (p : List D) (o4 : Out) : Out := let o6 : Out := iter (s_ShardOkL6 N p) N [gd o4.pay 0, gd o4.pay 1, gd o4.pay 2, gd o4.pay 3, gd o4.pay 4, gd o4.pay 5, gd o4.pay 6, gd o4.pay 7, gd o4.pay 8, gd o4.pay 9, gd o4.pay 10, gd o4.pay 11, gd o4.pay 12, gd o4.pay 13, .i 0, gd o4.pay 14, gd o4.pay 15, gd o4.pay 16, gd o4.pay 17, gd o4.pay 18, gd o4.pay 19, gd o4.pay 20, gd o4.pay 21, gd o4.pay 22]; nd o6.isSome (s_ShardOks1 N p o6)
noncomputable def s_ShardOks3 (N : Nat) (p : List D) (o2 : Out) : Out := let o4 : Out := iter (s_ShardOkL4 N p) N [gd o2.pay 0, gd o2.pay 1, gd o2.pay 2, gd o2.pay 3, gd o2.pay 4, gd o2.pay 5, gd o2.pay 6, gd o2.pay 7, gd o2.pay 8, gd o2.pay 9, gd o2.pay 10, gd o2.pay 11, gd o2.pay 12, .i 0, gd o2.pay 13, gd o2.pay 14, gd o2.pay 15, gd o2.pay 16, gd o2.pay 17, gd o2.pay 18, gd o2.pay 19, gd o2.pay 20, gd o2.pay 21]; nd o4.isSome (bif o4.code == 1 then some (1, o4.pay) else nd (o4.code == 6) (s_ShardOks2 N p o4))
noncomputable def s_ShardOks4 (N : Nat) (p : List D) (o0 : Out) : Out := let o2 : Out := iter (s_ShardOkL2 N p) N [gd o0.pay 0, gd o0.pay 1, gd o0.pay 2, gd o0.pay 3, gd o0.pay 4, gd o0.pay 5, gd o0.pay 6, gd o0.pay 7, gd o0.pay 8, gd o0.pay 9, gd o0.pay 10, gd o0.pay 11, .i 0, gd o0.pay 12, gd o0.pay 13, gd o0.pay 14, gd o0.pay 15, gd o0.pay 16, gd o0.pay 17, gd o0.pay 18, gd o0.pay 19, gd o0.pay 20]; nd o2.isSome (bif o2.code == 1 then some (1, o2.pay) else nd (o2.code == 4) (s_ShardOks3 N p o2))
noncomputable def s_ShardOks5 (N : Nat) (p : List D) : Out := let o0 : Out := iter (s_ShardOkL0 N p) N [gd p 0, gd p 1, gd p 2, gd p 3, gd p 4, gd p 5, gd p 6, gd p 7, gd p 8, .i 0, .i 0, .i 0, gd p 0, gd p 1, gd p 2, gd p 3, gd p 4, gd p 5, gd p 6, gd p 7, gd p 8]; nd o0.isSome (bif o0.code == 1 then some (1, o0.pay) else nd (o0.code == 2) (s_ShardOks4 N p o0))
noncomputable def s_ShardOks6 (N : Nat) (p : List D) : Out := bif ltI 60 ((gd p 7).rows.length : Int) then ob false else bif !(ascOk (gd p 6)) then ob false else bif !(ascOk (gd p 7)) then ob false else (s_ShardOks5 N p)
noncomputable def s_ShardOks7 (N : Nat) (p : List D) : Out := bif ltI 60 ((gd p 5).rows.length : Int) then ob false else bif ltI 60 ((gd p 6).rows.length : Int) then ob false else (s_ShardOks6 N p)
noncomputable def s_ShardOks8 (N : Nat) (p : List D) : Out := bif !(locksOk (gd p 4)) then ob false else bif !(inB (gd p 8).int 0 1000000) then ob false else (s_ShardOks7 N p)
noncomputable def s_ShardOks9 (N : Nat) (p : List D) : Out := bif !(rangesOk (gd p 2)) then ob false else bif !(storeOk (gd p 3)) then ob false else (s_ShardOks8 N p)
noncomputable def s_ShardOks10 (N : Nat) (p : List D) : Out := bif !(inB (gd p 0).int 0 3) then ob false else bif !(rangesOk (gd p 1)) then ob false else (s_ShardOks9 N p)
theorem s_ShardOk_ev (N : Nat) (p : List D) : evFn Tryz.prog s_ShardOkT N s_ShardOkK Tryz.f51 rb [⟨ag rIShard, p⟩] = some (bo, (s_ShardOks10 N p)) := by kernel_rfl
def shardC0 (p : List D) (k : Nat) : Bool := rangesHave (gd p 1) (sub ((gd p 2).rows.getD k []) 0 2)
def shardC2 (p : List D) (k : Nat) : Bool := rangesHave (gd p 1) [gd ((gd p 3).rows.getD k []) 0, .i (w64 ((gd ((gd p 3).rows.getD k []) 0).int + 1))]
def shardC4 (p : List D) (k : Nat) : Bool := (rangesHave (gd p 1) [gd ((gd p 4).rows.getD k []) 1, gd ((gd p 4).rows.getD k []) 2] && (!hasInt (gd p 6) (gd ((gd p 4).rows.getD k []) 0).int && !hasInt (gd p 7) (gd ((gd p 4).rows.getD k []) 0).int))
def shardC6 (p : List D) (k : Nat) : Bool := !hasInt (gd p 7) (gd ((gd p 6).rows.getD k []) 0).int
def shardA (p : List D) (f j : Nat) (C : List D → Nat → Bool) : Bool := (List.range (gd p f).rows.length).all (C p)
def shardSum (p : List D) : Bool := heldsOkS p && leI (((gd p 3).rows.length : Int) + newSum (gd p 3) (gd p 5) (gd p 5).rows.length) 60
def shardOk (p : List D) : Bool := inB (gd p 0).int 0 3 && (rangesOk (gd p 1) && (rangesOk (gd p 2) && (storeOk (gd p 3) && (locksOk (gd p 4) && (inB (gd p 8).int 0 1000000 && (leI ((gd p 5).rows.length : Int) 60 && (leI ((gd p 6).rows.length : Int) 60 && (leI ((gd p 7).rows.length : Int) 60 && (ascOk (gd p 6) && (ascOk (gd p 7) && (shardA p 2 0 shardC0 && (shardA p 3 2 shardC2 && (shardA p 4 4 shardC4 && (shardA p 6 6 shardC6 && (shardSum p)))))))))))))))
theorem s_ShardOkI0 (p : List D) (N : Nat) (hN : (gd p 2).rows.length < N) (hl : (gd p 2).rows.length ≤ 9223372036854775807) : iter (s_ShardOkL0 N p) N [gd p 0, gd p 1, gd p 2, gd p 3, gd p 4, gd p 5, gd p 6, gd p 7, gd p 8, .i 0, .i 0, .i 0, gd p 0, gd p 1, gd p 2, gd p 3, gd p 4, gd p 5, gd p 6, gd p 7, gd p 8] = some (bif shardA p 2 0 shardC0 then (2, [gd p 0, gd p 1, gd p 2, gd p 3, gd p 4, gd p 5, gd p 6, gd p 7, gd p 8, .i 0, .i 0, .i ((gd p 2).rows.length : Int), gd p 0, gd p 1, gd p 2, gd p 3, gd p 4, gd p 5, gd p 6, gd p 7, gd p 8]) else (1, [.b false])) := by
  have e := for_loop (L := s_ShardOkL0 N p) (fun k => [gd p 0, gd p 1, gd p 2, gd p 3, gd p 4, gd p 5, gd p 6, gd p 7, gd p 8, .i 0, .i 0, .i (k : Int), gd p 0, gd p 1, gd p 2, gd p 3, gd p 4, gd p 5, gd p 6, gd p 7, gd p 8]) (gd p 2).rows.length (shardC0 p) [.b false] 0 (fun k hk => ?_) ?_ (N := N) hN
  · simp only [Int.natCast_zero] at e
    exact e
  · show s_ShardOkL0 _ p [_, _, _, _, _, _, _, _, _, _, _, .i (k : Int), _, _, _, _, _, _, _, _, _] = _
    rw [s_ShardOkR0]
    simp only [int_i, c_lt hk, nd_ix hk, w64_succ hk hl, Int.toNat_natCast]
    unfold shardC0
    cases rangesHave (gd p 1) (sub ((gd p 2).rows.getD k []) 0 2) <;> rfl
  · show s_ShardOkL0 _ p [_, _, _, _, _, _, _, _, _, _, _, .i ((gd p 2).rows.length : Int), _, _, _, _, _, _, _, _, _] = _
    rw [s_ShardOkR0]
    simp only [int_i, c_nlt]
theorem s_ShardOkI2 (p : List D) (N : Nat) (hN : (gd p 3).rows.length < N) (hl : (gd p 3).rows.length ≤ 9223372036854775807) : iter (s_ShardOkL2 N p) N [gd p 0, gd p 1, gd p 2, gd p 3, gd p 4, gd p 5, gd p 6, gd p 7, gd p 8, .i 0, .i 0, .i ((gd p 2).rows.length : Int), .i 0, gd p 0, gd p 1, gd p 2, gd p 3, gd p 4, gd p 5, gd p 6, gd p 7, gd p 8] = some (bif shardA p 3 2 shardC2 then (4, [gd p 0, gd p 1, gd p 2, gd p 3, gd p 4, gd p 5, gd p 6, gd p 7, gd p 8, .i 0, .i 0, .i ((gd p 2).rows.length : Int), .i ((gd p 3).rows.length : Int), gd p 0, gd p 1, gd p 2, gd p 3, gd p 4, gd p 5, gd p 6, gd p 7, gd p 8]) else (1, [.b false])) := by
  have e := for_loop (L := s_ShardOkL2 N p) (fun k => [gd p 0, gd p 1, gd p 2, gd p 3, gd p 4, gd p 5, gd p 6, gd p 7, gd p 8, .i 0, .i 0, .i ((gd p 2).rows.length : Int), .i (k : Int), gd p 0, gd p 1, gd p 2, gd p 3, gd p 4, gd p 5, gd p 6, gd p 7, gd p 8]) (gd p 3).rows.length (shardC2 p) [.b false] 2 (fun k hk => ?_) ?_ (N := N) hN
  · simp only [Int.natCast_zero] at e
    exact e
  · show s_ShardOkL2 _ p [_, _, _, _, _, _, _, _, _, _, _, _, .i (k : Int), _, _, _, _, _, _, _, _, _] = _
    rw [s_ShardOkR2]
    simp only [int_i, c_lt hk, nd_ix hk, w64_succ hk hl, Int.toNat_natCast]
    unfold shardC2
    cases rangesHave (gd p 1) [gd ((gd p 3).rows.getD k []) 0, .i (w64 ((gd ((gd p 3).rows.getD k []) 0).int + 1))] <;> rfl
  · show s_ShardOkL2 _ p [_, _, _, _, _, _, _, _, _, _, _, _, .i ((gd p 3).rows.length : Int), _, _, _, _, _, _, _, _, _] = _
    rw [s_ShardOkR2]
    simp only [int_i, c_nlt]
theorem s_ShardOkI4 (p : List D) (N : Nat) (hN : (gd p 4).rows.length < N) (hl : (gd p 4).rows.length ≤ 9223372036854775807) : iter (s_ShardOkL4 N p) N [gd p 0, gd p 1, gd p 2, gd p 3, gd p 4, gd p 5, gd p 6, gd p 7, gd p 8, .i 0, .i 0, .i ((gd p 2).rows.length : Int), .i ((gd p 3).rows.length : Int), .i 0, gd p 0, gd p 1, gd p 2, gd p 3, gd p 4, gd p 5, gd p 6, gd p 7, gd p 8] = some (bif shardA p 4 4 shardC4 then (6, [gd p 0, gd p 1, gd p 2, gd p 3, gd p 4, gd p 5, gd p 6, gd p 7, gd p 8, .i 0, .i 0, .i ((gd p 2).rows.length : Int), .i ((gd p 3).rows.length : Int), .i ((gd p 4).rows.length : Int), gd p 0, gd p 1, gd p 2, gd p 3, gd p 4, gd p 5, gd p 6, gd p 7, gd p 8]) else (1, [.b false])) := by
  have e := for_loop (L := s_ShardOkL4 N p) (fun k => [gd p 0, gd p 1, gd p 2, gd p 3, gd p 4, gd p 5, gd p 6, gd p 7, gd p 8, .i 0, .i 0, .i ((gd p 2).rows.length : Int), .i ((gd p 3).rows.length : Int), .i (k : Int), gd p 0, gd p 1, gd p 2, gd p 3, gd p 4, gd p 5, gd p 6, gd p 7, gd p 8]) (gd p 4).rows.length (shardC4 p) [.b false] 4 (fun k hk => ?_) ?_ (N := N) hN
  · simp only [Int.natCast_zero] at e
    exact e
  · show s_ShardOkL4 _ p [_, _, _, _, _, _, _, _, _, _, _, _, _, .i (k : Int), _, _, _, _, _, _, _, _, _] = _
    rw [s_ShardOkR4]
    simp only [int_i, c_lt hk, nd_ix hk, w64_succ hk hl, Int.toNat_natCast]
    unfold shardC4
    cases rangesHave (gd p 1) [gd ((gd p 4).rows.getD k []) 1, gd ((gd p 4).rows.getD k []) 2] <;> cases hasInt (gd p 6) (gd ((gd p 4).rows.getD k []) 0).int <;> cases hasInt (gd p 7) (gd ((gd p 4).rows.getD k []) 0).int <;> rfl
  · show s_ShardOkL4 _ p [_, _, _, _, _, _, _, _, _, _, _, _, _, .i ((gd p 4).rows.length : Int), _, _, _, _, _, _, _, _, _] = _
    rw [s_ShardOkR4]
    simp only [int_i, c_nlt]
theorem s_ShardOkI6 (p : List D) (N : Nat) (hN : (gd p 6).rows.length < N) (hl : (gd p 6).rows.length ≤ 9223372036854775807) : iter (s_ShardOkL6 N p) N [gd p 0, gd p 1, gd p 2, gd p 3, gd p 4, gd p 5, gd p 6, gd p 7, gd p 8, .i 0, .i 0, .i ((gd p 2).rows.length : Int), .i ((gd p 3).rows.length : Int), .i ((gd p 4).rows.length : Int), .i 0, gd p 0, gd p 1, gd p 2, gd p 3, gd p 4, gd p 5, gd p 6, gd p 7, gd p 8] = some (bif shardA p 6 6 shardC6 then (8, [gd p 0, gd p 1, gd p 2, gd p 3, gd p 4, gd p 5, gd p 6, gd p 7, gd p 8, .i 0, .i 0, .i ((gd p 2).rows.length : Int), .i ((gd p 3).rows.length : Int), .i ((gd p 4).rows.length : Int), .i ((gd p 6).rows.length : Int), gd p 0, gd p 1, gd p 2, gd p 3, gd p 4, gd p 5, gd p 6, gd p 7, gd p 8]) else (1, [.b false])) := by
  have e := for_loop (L := s_ShardOkL6 N p) (fun k => [gd p 0, gd p 1, gd p 2, gd p 3, gd p 4, gd p 5, gd p 6, gd p 7, gd p 8, .i 0, .i 0, .i ((gd p 2).rows.length : Int), .i ((gd p 3).rows.length : Int), .i ((gd p 4).rows.length : Int), .i (k : Int), gd p 0, gd p 1, gd p 2, gd p 3, gd p 4, gd p 5, gd p 6, gd p 7, gd p 8]) (gd p 6).rows.length (shardC6 p) [.b false] 6 (fun k hk => ?_) ?_ (N := N) hN
  · simp only [Int.natCast_zero] at e
    exact e
  · show s_ShardOkL6 _ p [_, _, _, _, _, _, _, _, _, _, _, _, _, _, .i (k : Int), _, _, _, _, _, _, _, _, _] = _
    rw [s_ShardOkR6]
    simp only [int_i, c_lt hk, nd_ix hk, w64_succ hk hl, Int.toNat_natCast]
    unfold shardC6
    cases hasInt (gd p 7) (gd ((gd p 6).rows.getD k []) 0).int <;> rfl
  · show s_ShardOkL6 _ p [_, _, _, _, _, _, _, _, _, _, _, _, _, _, .i ((gd p 6).rows.length : Int), _, _, _, _, _, _, _, _, _] = _
    rw [s_ShardOkR6]
    simp only [int_i, c_nlt]
theorem lt60 (n : Nat) : ltI 60 (n : Int) = !leI (n : Int) 60 := by
  rw [Bool.eq_iff_iff]; simp only [ltI, leI, decide_eq_true_eq, Bool.not_eq_true', decide_eq_false_iff_not]; omega
theorem s_ShardOkx1 (p : List D) (N : Nat) (h5 : leI ((gd p 5).rows.length : Int) 60 = true) (h3 : storeOk (gd p 3) = true) : s_ShardOks1 N p (some (8, [gd p 0, gd p 1, gd p 2, gd p 3, gd p 4, gd p 5, gd p 6, gd p 7, gd p 8, .i 0, .i 0, .i ((gd p 2).rows.length : Int), .i ((gd p 3).rows.length : Int), .i ((gd p 4).rows.length : Int), .i ((gd p 6).rows.length : Int), gd p 0, gd p 1, gd p 2, gd p 3, gd p 4, gd p 5, gd p 6, gd p 7, gd p 8])) = ob (shardSum p) := by
  simp only [leI, decide_eq_true_eq] at h5
  have hs := (store_sorted h3).len
  have hn := newSum_in (gd p 3) (gd p 5) (gd p 5).rows.length
  rw [show s_ShardOks1 N p (some (8, [gd p 0, gd p 1, gd p 2, gd p 3, gd p 4, gd p 5, gd p 6, gd p 7, gd p 8, .i 0, .i 0, .i ((gd p 2).rows.length : Int), .i ((gd p 3).rows.length : Int), .i ((gd p 4).rows.length : Int), .i ((gd p 6).rows.length : Int), gd p 0, gd p 1, gd p 2, gd p 3, gd p 4, gd p 5, gd p 6, gd p 7, gd p 8])) = (bif heldsOkS p then nd (leI ((gd p 5).rows.length : Int) 1000000000) (ob (leI (w64 (((gd p 3).rows.length : Int) + newSum (gd p 3) (gd p 5) (gd p 5).rows.length)) 60)) else ob false) from by kernel_rfl]
  rw [leI_t (show ((gd p 5).rows.length : Int) ≤ 1000000000 from by omega), nd_true, w64_id (by omega) (by omega)]
  unfold shardSum
  cases heldsOkS p <;> rfl
theorem s_ShardOkx2 (p : List D) (N : Nat) (hN : ((gd p 2).rows.length + (gd p 3).rows.length + (gd p 4).rows.length + (gd p 6).rows.length + 1) ≤ N) (hl : ∀ j, j ∈ [2, 3, 4, 6] → (gd p j).rows.length ≤ 9223372036854775807) (h5 : leI ((gd p 5).rows.length : Int) 60 = true) (h3 : storeOk (gd p 3) = true) : s_ShardOks2 N p (some (6, [gd p 0, gd p 1, gd p 2, gd p 3, gd p 4, gd p 5, gd p 6, gd p 7, gd p 8, .i 0, .i 0, .i ((gd p 2).rows.length : Int), .i ((gd p 3).rows.length : Int), .i ((gd p 4).rows.length : Int), gd p 0, gd p 1, gd p 2, gd p 3, gd p 4, gd p 5, gd p 6, gd p 7, gd p 8])) = ob (shardA p 6 6 shardC6 && (shardSum p)) := by
  rw [show s_ShardOks2 N p (some (6, [gd p 0, gd p 1, gd p 2, gd p 3, gd p 4, gd p 5, gd p 6, gd p 7, gd p 8, .i 0, .i 0, .i ((gd p 2).rows.length : Int), .i ((gd p 3).rows.length : Int), .i ((gd p 4).rows.length : Int), gd p 0, gd p 1, gd p 2, gd p 3, gd p 4, gd p 5, gd p 6, gd p 7, gd p 8])) = nd (iter (s_ShardOkL6 N p) N [gd p 0, gd p 1, gd p 2, gd p 3, gd p 4, gd p 5, gd p 6, gd p 7, gd p 8, .i 0, .i 0, .i ((gd p 2).rows.length : Int), .i ((gd p 3).rows.length : Int), .i ((gd p 4).rows.length : Int), .i 0, gd p 0, gd p 1, gd p 2, gd p 3, gd p 4, gd p 5, gd p 6, gd p 7, gd p 8]).isSome (s_ShardOks1 N p (iter (s_ShardOkL6 N p) N [gd p 0, gd p 1, gd p 2, gd p 3, gd p 4, gd p 5, gd p 6, gd p 7, gd p 8, .i 0, .i 0, .i ((gd p 2).rows.length : Int), .i ((gd p 3).rows.length : Int), .i ((gd p 4).rows.length : Int), .i 0, gd p 0, gd p 1, gd p 2, gd p 3, gd p 4, gd p 5, gd p 6, gd p 7, gd p 8])) from by kernel_rfl]
  rw [s_ShardOkI6 p N (by omega) (hl 6 (by simp))]
  cases shardA p 6 6 shardC6
  · rfl
  · show s_ShardOks1 N p (some (8, [gd p 0, gd p 1, gd p 2, gd p 3, gd p 4, gd p 5, gd p 6, gd p 7, gd p 8, .i 0, .i 0, .i ((gd p 2).rows.length : Int), .i ((gd p 3).rows.length : Int), .i ((gd p 4).rows.length : Int), .i ((gd p 6).rows.length : Int), gd p 0, gd p 1, gd p 2, gd p 3, gd p 4, gd p 5, gd p 6, gd p 7, gd p 8])) = ob (true && (shardSum p))
    rw [Bool.true_and]
    exact s_ShardOkx1 p N h5 h3
theorem s_ShardOkx3 (p : List D) (N : Nat) (hN : ((gd p 2).rows.length + (gd p 3).rows.length + (gd p 4).rows.length + (gd p 6).rows.length + 1) ≤ N) (hl : ∀ j, j ∈ [2, 3, 4, 6] → (gd p j).rows.length ≤ 9223372036854775807) (h5 : leI ((gd p 5).rows.length : Int) 60 = true) (h3 : storeOk (gd p 3) = true) : s_ShardOks3 N p (some (4, [gd p 0, gd p 1, gd p 2, gd p 3, gd p 4, gd p 5, gd p 6, gd p 7, gd p 8, .i 0, .i 0, .i ((gd p 2).rows.length : Int), .i ((gd p 3).rows.length : Int), gd p 0, gd p 1, gd p 2, gd p 3, gd p 4, gd p 5, gd p 6, gd p 7, gd p 8])) = ob (shardA p 4 4 shardC4 && (shardA p 6 6 shardC6 && (shardSum p))) := by
  rw [show s_ShardOks3 N p (some (4, [gd p 0, gd p 1, gd p 2, gd p 3, gd p 4, gd p 5, gd p 6, gd p 7, gd p 8, .i 0, .i 0, .i ((gd p 2).rows.length : Int), .i ((gd p 3).rows.length : Int), gd p 0, gd p 1, gd p 2, gd p 3, gd p 4, gd p 5, gd p 6, gd p 7, gd p 8])) = nd (iter (s_ShardOkL4 N p) N [gd p 0, gd p 1, gd p 2, gd p 3, gd p 4, gd p 5, gd p 6, gd p 7, gd p 8, .i 0, .i 0, .i ((gd p 2).rows.length : Int), .i ((gd p 3).rows.length : Int), .i 0, gd p 0, gd p 1, gd p 2, gd p 3, gd p 4, gd p 5, gd p 6, gd p 7, gd p 8]).isSome (bif Out.code (iter (s_ShardOkL4 N p) N [gd p 0, gd p 1, gd p 2, gd p 3, gd p 4, gd p 5, gd p 6, gd p 7, gd p 8, .i 0, .i 0, .i ((gd p 2).rows.length : Int), .i ((gd p 3).rows.length : Int), .i 0, gd p 0, gd p 1, gd p 2, gd p 3, gd p 4, gd p 5, gd p 6, gd p 7, gd p 8]) == 1 then some (1, Out.pay (iter (s_ShardOkL4 N p) N [gd p 0, gd p 1, gd p 2, gd p 3, gd p 4, gd p 5, gd p 6, gd p 7, gd p 8, .i 0, .i 0, .i ((gd p 2).rows.length : Int), .i ((gd p 3).rows.length : Int), .i 0, gd p 0, gd p 1, gd p 2, gd p 3, gd p 4, gd p 5, gd p 6, gd p 7, gd p 8])) else nd (Out.code (iter (s_ShardOkL4 N p) N [gd p 0, gd p 1, gd p 2, gd p 3, gd p 4, gd p 5, gd p 6, gd p 7, gd p 8, .i 0, .i 0, .i ((gd p 2).rows.length : Int), .i ((gd p 3).rows.length : Int), .i 0, gd p 0, gd p 1, gd p 2, gd p 3, gd p 4, gd p 5, gd p 6, gd p 7, gd p 8]) == 6) (s_ShardOks2 N p (iter (s_ShardOkL4 N p) N [gd p 0, gd p 1, gd p 2, gd p 3, gd p 4, gd p 5, gd p 6, gd p 7, gd p 8, .i 0, .i 0, .i ((gd p 2).rows.length : Int), .i ((gd p 3).rows.length : Int), .i 0, gd p 0, gd p 1, gd p 2, gd p 3, gd p 4, gd p 5, gd p 6, gd p 7, gd p 8]))) from by kernel_rfl]
  rw [s_ShardOkI4 p N (by omega) (hl 4 (by simp))]
  cases shardA p 4 4 shardC4
  · rfl
  · show s_ShardOks2 N p (some (6, [gd p 0, gd p 1, gd p 2, gd p 3, gd p 4, gd p 5, gd p 6, gd p 7, gd p 8, .i 0, .i 0, .i ((gd p 2).rows.length : Int), .i ((gd p 3).rows.length : Int), .i ((gd p 4).rows.length : Int), gd p 0, gd p 1, gd p 2, gd p 3, gd p 4, gd p 5, gd p 6, gd p 7, gd p 8])) = ob (true && (shardA p 6 6 shardC6 && (shardSum p)))
    rw [Bool.true_and]
    exact s_ShardOkx2 p N hN hl h5 h3
theorem s_ShardOkx4 (p : List D) (N : Nat) (hN : ((gd p 2).rows.length + (gd p 3).rows.length + (gd p 4).rows.length + (gd p 6).rows.length + 1) ≤ N) (hl : ∀ j, j ∈ [2, 3, 4, 6] → (gd p j).rows.length ≤ 9223372036854775807) (h5 : leI ((gd p 5).rows.length : Int) 60 = true) (h3 : storeOk (gd p 3) = true) : s_ShardOks4 N p (some (2, [gd p 0, gd p 1, gd p 2, gd p 3, gd p 4, gd p 5, gd p 6, gd p 7, gd p 8, .i 0, .i 0, .i ((gd p 2).rows.length : Int), gd p 0, gd p 1, gd p 2, gd p 3, gd p 4, gd p 5, gd p 6, gd p 7, gd p 8])) = ob (shardA p 3 2 shardC2 && (shardA p 4 4 shardC4 && (shardA p 6 6 shardC6 && (shardSum p)))) := by
  rw [show s_ShardOks4 N p (some (2, [gd p 0, gd p 1, gd p 2, gd p 3, gd p 4, gd p 5, gd p 6, gd p 7, gd p 8, .i 0, .i 0, .i ((gd p 2).rows.length : Int), gd p 0, gd p 1, gd p 2, gd p 3, gd p 4, gd p 5, gd p 6, gd p 7, gd p 8])) = nd (iter (s_ShardOkL2 N p) N [gd p 0, gd p 1, gd p 2, gd p 3, gd p 4, gd p 5, gd p 6, gd p 7, gd p 8, .i 0, .i 0, .i ((gd p 2).rows.length : Int), .i 0, gd p 0, gd p 1, gd p 2, gd p 3, gd p 4, gd p 5, gd p 6, gd p 7, gd p 8]).isSome (bif Out.code (iter (s_ShardOkL2 N p) N [gd p 0, gd p 1, gd p 2, gd p 3, gd p 4, gd p 5, gd p 6, gd p 7, gd p 8, .i 0, .i 0, .i ((gd p 2).rows.length : Int), .i 0, gd p 0, gd p 1, gd p 2, gd p 3, gd p 4, gd p 5, gd p 6, gd p 7, gd p 8]) == 1 then some (1, Out.pay (iter (s_ShardOkL2 N p) N [gd p 0, gd p 1, gd p 2, gd p 3, gd p 4, gd p 5, gd p 6, gd p 7, gd p 8, .i 0, .i 0, .i ((gd p 2).rows.length : Int), .i 0, gd p 0, gd p 1, gd p 2, gd p 3, gd p 4, gd p 5, gd p 6, gd p 7, gd p 8])) else nd (Out.code (iter (s_ShardOkL2 N p) N [gd p 0, gd p 1, gd p 2, gd p 3, gd p 4, gd p 5, gd p 6, gd p 7, gd p 8, .i 0, .i 0, .i ((gd p 2).rows.length : Int), .i 0, gd p 0, gd p 1, gd p 2, gd p 3, gd p 4, gd p 5, gd p 6, gd p 7, gd p 8]) == 4) (s_ShardOks3 N p (iter (s_ShardOkL2 N p) N [gd p 0, gd p 1, gd p 2, gd p 3, gd p 4, gd p 5, gd p 6, gd p 7, gd p 8, .i 0, .i 0, .i ((gd p 2).rows.length : Int), .i 0, gd p 0, gd p 1, gd p 2, gd p 3, gd p 4, gd p 5, gd p 6, gd p 7, gd p 8]))) from by kernel_rfl]
  rw [s_ShardOkI2 p N (by omega) (hl 3 (by simp))]
  cases shardA p 3 2 shardC2
  · rfl
  · show s_ShardOks3 N p (some (4, [gd p 0, gd p 1, gd p 2, gd p 3, gd p 4, gd p 5, gd p 6, gd p 7, gd p 8, .i 0, .i 0, .i ((gd p 2).rows.length : Int), .i ((gd p 3).rows.length : Int), gd p 0, gd p 1, gd p 2, gd p 3, gd p 4, gd p 5, gd p 6, gd p 7, gd p 8])) = ob (true && (shardA p 4 4 shardC4 && (shardA p 6 6 shardC6 && (shardSum p))))
    rw [Bool.true_and]
    exact s_ShardOkx3 p N hN hl h5 h3
theorem s_ShardOkx5 (p : List D) (N : Nat) (hN : ((gd p 2).rows.length + (gd p 3).rows.length + (gd p 4).rows.length + (gd p 6).rows.length + 1) ≤ N) (hl : ∀ j, j ∈ [2, 3, 4, 6] → (gd p j).rows.length ≤ 9223372036854775807) (h5 : leI ((gd p 5).rows.length : Int) 60 = true) (h3 : storeOk (gd p 3) = true) : s_ShardOks5 N p = ob (shardA p 2 0 shardC0 && (shardA p 3 2 shardC2 && (shardA p 4 4 shardC4 && (shardA p 6 6 shardC6 && (shardSum p))))) := by
  rw [show s_ShardOks5 N p = nd (iter (s_ShardOkL0 N p) N [gd p 0, gd p 1, gd p 2, gd p 3, gd p 4, gd p 5, gd p 6, gd p 7, gd p 8, .i 0, .i 0, .i 0, gd p 0, gd p 1, gd p 2, gd p 3, gd p 4, gd p 5, gd p 6, gd p 7, gd p 8]).isSome (bif Out.code (iter (s_ShardOkL0 N p) N [gd p 0, gd p 1, gd p 2, gd p 3, gd p 4, gd p 5, gd p 6, gd p 7, gd p 8, .i 0, .i 0, .i 0, gd p 0, gd p 1, gd p 2, gd p 3, gd p 4, gd p 5, gd p 6, gd p 7, gd p 8]) == 1 then some (1, Out.pay (iter (s_ShardOkL0 N p) N [gd p 0, gd p 1, gd p 2, gd p 3, gd p 4, gd p 5, gd p 6, gd p 7, gd p 8, .i 0, .i 0, .i 0, gd p 0, gd p 1, gd p 2, gd p 3, gd p 4, gd p 5, gd p 6, gd p 7, gd p 8])) else nd (Out.code (iter (s_ShardOkL0 N p) N [gd p 0, gd p 1, gd p 2, gd p 3, gd p 4, gd p 5, gd p 6, gd p 7, gd p 8, .i 0, .i 0, .i 0, gd p 0, gd p 1, gd p 2, gd p 3, gd p 4, gd p 5, gd p 6, gd p 7, gd p 8]) == 2) (s_ShardOks4 N p (iter (s_ShardOkL0 N p) N [gd p 0, gd p 1, gd p 2, gd p 3, gd p 4, gd p 5, gd p 6, gd p 7, gd p 8, .i 0, .i 0, .i 0, gd p 0, gd p 1, gd p 2, gd p 3, gd p 4, gd p 5, gd p 6, gd p 7, gd p 8]))) from by kernel_rfl]
  rw [s_ShardOkI0 p N (by omega) (hl 2 (by simp))]
  cases shardA p 2 0 shardC0
  · rfl
  · show s_ShardOks4 N p (some (2, [gd p 0, gd p 1, gd p 2, gd p 3, gd p 4, gd p 5, gd p 6, gd p 7, gd p 8, .i 0, .i 0, .i ((gd p 2).rows.length : Int), gd p 0, gd p 1, gd p 2, gd p 3, gd p 4, gd p 5, gd p 6, gd p 7, gd p 8])) = ob (true && (shardA p 3 2 shardC2 && (shardA p 4 4 shardC4 && (shardA p 6 6 shardC6 && (shardSum p)))))
    rw [Bool.true_and]
    exact s_ShardOkx4 p N hN hl h5 h3
theorem ob_step {a g : Bool} {x : Out} (h : a = true → x = ob g) : (bif !a then ob false else x) = ob (a && g) := by
  cases a
  · rfl
  · exact h rfl
def s_ShardOkE : Ent := (51, e1 (ag rIShard) fun p => (⟨rb, [.b (shardOk p)]⟩, true))
theorem s_ShardOk_ok : EntOk Tryz.prog s_ShardOkE := e1_ok fun p h => evFn_sound (N := ((gd p 2).rows.length + (gd p 3).rows.length + (gd p 4).rows.length + (gd p 6).rows.length + 1)) (ks := s_ShardOkK) (key := bo) s_ShardOkT_ok (enters Tryz.func51 (by kernel_rfl) (by kernel_rfl)) Tryz.func51 fun hw => by
  rw [s_ShardOk_ev]
  have hl : ∀ j, j ∈ [2, 3, 4, 6] → (gd p j).rows.length ≤ 9223372036854775807 := by
    intro j hj
    simp only [List.mem_cons, List.not_mem_nil, or_false] at hj
    rcases hj with rfl | rfl | rfl | rfl <;> exact wt_at (hw ⟨ag rIShard, p⟩ (by simp)) rfl
  refine congrArg (fun x => some (bo, x)) ?_
  show s_ShardOks10 ((gd p 2).rows.length + (gd p 3).rows.length + (gd p 4).rows.length + (gd p 6).rows.length + 1) p = ob (shardOk p)
  unfold s_ShardOks10 s_ShardOks9 s_ShardOks8 s_ShardOks7 s_ShardOks6 shardOk
  simp only [lt60]
  refine ob_step fun _ => ?_
  refine ob_step fun _ => ?_
  refine ob_step fun _ => ?_
  refine ob_step fun h3 => ?_
  refine ob_step fun _ => ?_
  refine ob_step fun _ => ?_
  refine ob_step fun h5 => ?_
  refine ob_step fun _ => ?_
  refine ob_step fun _ => ?_
  refine ob_step fun _ => ?_
  refine ob_step fun _ => ?_
  exact s_ShardOkx5 p _ (Nat.le_refl _) hl h5 h3

end Go.Proofs.YtchceahcaaibcaaGreat
