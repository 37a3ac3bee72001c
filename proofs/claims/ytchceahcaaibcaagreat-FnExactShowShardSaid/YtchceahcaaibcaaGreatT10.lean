/-
  The town: room. Printed by sym.py.
-/
import Derived.Test.YtchceahcaaibcaaGreatT9
namespace Go.Proofs.YtchceahcaaibcaaGreat
set_option linter.unusedSimpArgs false
set_option linter.unusedVariables false
set_option maxRecDepth 4096
set_option maxHeartbeats 1000000
/-! loop.example/g00097/impl.room -/
abbrev i_roomT : FuncId → List T → Option (T × Bool) := find [i_StoreNewE]
theorem i_roomT_ok : CallOk Tryz.prog i_roomT := find_ok (List.forall_mem_cons.2 ⟨i_StoreNew_ok, List.forall_mem_nil _⟩)
abbrev i_roomK : List Nat := [0, 1, 2, 3, 5, 10, 11, 12, 13]
noncomputable def i_roomL0 (N : Nat) (p : List D) : List D → Out := loopOf Tryz.prog i_roomT N i_roomK Tryz.f177 ri [⟨ag rIShard, p⟩] 0
/- x0=t0(.one (.agg [.d si, .d (.sl 122), .d (.sl 122), .d (.sl 176), .d (.sl 138), .d (.sl 248), .d (.sl 3), .d (.sl 3), .d si])) x9=t1(.one (.c (.ptr 1 0))) x10=t2(ri) x11=t3(ri) x12=t10(sd (.sl 248)) x13=t11(ri) x14=t12(ri) x15=box1[.d si, .d (.sl 122), .d (.sl 122), .d (.sl 176), .d (.sl 138), .d (.sl 248), .d (.sl 3), .d (.sl 3), .d si] -/
theorem i_roomR0 (N : Nat) (p : List D) (x0 x1 x2 x3 x4 x5 x6 x7 x8 x9 x10 x11 x12 x13 x14 x15 x16 x17 x18 x19 x20 x21 x22 x23 : D) : (i_roomL0 N p) [x0, x1, x2, x3, x4, x5, x6, x7, x8, x9, x10, x11, x12, x13, x14, x15, x16, x17, x18, x19, x20, x21, x22, x23] =
  bif ltI x14.int x13.int then nd (inRange x14.int x12.rows.length) (nx [x0, x1, x2, x3, x4, x5, x6, x7, x8, x9, x10, .i (w64 (x11.int + (storeNew x18 (gd (x12.rows.getD x14.int.toNat []) 1)))), x12, x13, .i (w64 (x14.int + 1)), x15, x16, x17, x18, x19, x20, x21, x22, x23])
  else ex 0 [x0, x1, x2, x3, x4, x5, x6, x7, x8, x9, x10, x11, x12, x13, x14, x15, x16, x17, x18, x19, x20, x21, x22, x23] := by kernel_rfl
theorem i_room_ev (N : Nat) (p : List D) : evFn Tryz.prog i_roomT N i_roomK Tryz.f177 ri [⟨ag rIShard, p⟩] = some (bo,
  (let o0 := iter (i_roomL0 N p) N [gd p 0, gd p 1, gd p 2, gd p 3, gd p 4, gd p 5, gd p 6, gd p 7, gd p 8, .i 0, .i 0, .i ((gd p 3).rows.length : Int), gd p 5, .i ((gd p 5).rows.length : Int), .i 0, gd p 0, gd p 1, gd p 2, gd p 3, gd p 4, gd p 5, gd p 6, gd p 7, gd p 8]
   nd o0.isSome (nd (o0.code == 2) (some (1, [gd o0.pay 11]))))) := by kernel_rfl
def newSum (c hs : D) : Nat → Int
  | 0 => 0
  | k + 1 => newSum c hs k + storeNew c (gd (hs.rows.getD k []) 1)
def roomOf (p : List D) : Int := ((gd p 3).rows.length : Int) + newSum (gd p 3) (gd p 5) (gd p 5).rows.length
theorem storeNew_in (c w : D) : -1 ≤ storeNew c w ∧ storeNew c w ≤ 60 := by
  unfold storeNew
  cases storeOk c
  · simp only [cond_false]; omega
  cases h : writesOk w
  · simp only [cond_true, cond_false]; omega
  have h1 := writes_len60 h
  have h2 := cnt_le (newAt c w) w.rows.length 0
  simp only [cond_true]
  omega
theorem newSum_in (c hs : D) : ∀ k : Nat, -(k : Int) ≤ newSum c hs k ∧ newSum c hs k ≤ 60 * (k : Int)
  | 0 => ⟨by simp only [newSum]; omega, by simp only [newSum]; omega⟩
  | k + 1 => by
    have h1 := newSum_in c hs k
    have h2 := storeNew_in c (gd (hs.rows.getD k []) 1)
    simp only [newSum]
    omega
def i_roomE : Ent := (177, e1 (ag rIShard) fun p => (⟨ri, [.i (roomOf p)]⟩, leI ((gd p 3).rows.length : Int) 1000000000 && leI ((gd p 5).rows.length : Int) 1000000000))
theorem i_room_ok : EntOk Tryz.prog i_roomE := e1_ok fun p h => evFn_sound (N := (gd p 5).rows.length + 1) (ks := i_roomK) (key := bo) i_roomT_ok (enters Tryz.func177 (by kernel_rfl) (by kernel_rfl)) Tryz.func177 fun hw => by
  rw [i_room_ev]
  have h : (leI ((gd p 3).rows.length : Int) 1000000000 && leI ((gd p 5).rows.length : Int) 1000000000) = true := h
  simp only [Bool.and_eq_true, leI, decide_eq_true_eq] at h
  have e := run_loop (L := i_roomL0 ((gd p 5).rows.length + 1) p) (fun k => [gd p 0, gd p 1, gd p 2, gd p 3, gd p 4, gd p 5, gd p 6, gd p 7, gd p 8, .i 0, .i 0, .i (((gd p 3).rows.length : Int) + newSum (gd p 3) (gd p 5) k), gd p 5, .i ((gd p 5).rows.length : Int), .i (k : Int), gd p 0, gd p 1, gd p 2, gd p 3, gd p 4, gd p 5, gd p 6, gd p 7, gd p 8]) (gd p 5).rows.length 0 (fun k hk => ?_) ?_ (N := (gd p 5).rows.length + 1) (by omega)
  · simp only [Int.natCast_zero, newSum, Int.add_zero] at e
    rw [e]
    rfl
  · show i_roomL0 _ p [_, _, _, _, _, _, _, _, _, _, _, _, _, _, .i (k : Int), _, _, _, _, _, _, _, _, _] = _
    rw [i_roomR0]
    have h1 := newSum_in (gd p 3) (gd p 5) k
    have h2 := storeNew_in (gd p 3) (gd ((gd p 5).rows.getD k []) 1)
    simp only [int_i, c_lt hk, nd_ix hk, w64_succ hk (show (gd p 5).rows.length ≤ 9223372036854775807 from by omega), Int.toNat_natCast]
    rw [w64_id (by omega) (by omega), Int.add_assoc]
    rfl
  · show i_roomL0 _ p [_, _, _, _, _, _, _, _, _, _, _, _, _, .i ((gd p 5).rows.length : Int), .i ((gd p 5).rows.length : Int), _, _, _, _, _, _, _, _, _] = _
    rw [i_roomR0]
    simp only [int_i, c_nlt]

/-! loop.example/g00097/spec.l13New -/
abbrev s_l13NewT : FuncId → List T → Option (T × Bool) := find [s_StoreNewE]
theorem s_l13NewT_ok : CallOk Tryz.prog s_l13NewT := find_ok (List.forall_mem_cons.2 ⟨s_StoreNew_ok, List.forall_mem_nil _⟩)
abbrev s_l13NewK : List Nat := [0, 1, 2, 3, 4, 9]
noncomputable def s_l13NewL0 (N : Nat) (p : List D) : List D → Out := loopOf Tryz.prog s_l13NewT N s_l13NewK Tryz.f138 ri [⟨ag rIShard, p⟩] 0
/- x0=t0(.one (.agg [.d si, .d (.sl 122), .d (.sl 122), .d (.sl 176), .d (.sl 138), .d (.sl 248), .d (.sl 3), .d (.sl 3), .d si])) x9=t1(.one (.c (.ptr 1 0))) x10=t2(ri) x11=t3(ri) x12=t4(ri) x13=box1[.d si, .d (.sl 122), .d (.sl 122), .d (.sl 176), .d (.sl 138), .d (.sl 248), .d (.sl 3), .d (.sl 3), .d si] -/
theorem s_l13NewR0 (N : Nat) (p : List D) (x0 x1 x2 x3 x4 x5 x6 x7 x8 x9 x10 x11 x12 x13 x14 x15 x16 x17 x18 x19 x20 x21 : D) : (s_l13NewL0 N p) [x0, x1, x2, x3, x4, x5, x6, x7, x8, x9, x10, x11, x12, x13, x14, x15, x16, x17, x18, x19, x20, x21] =
  bif ltI x12.int (x18.rows.length : Int) then nd (inRange x12.int x18.rows.length) (nx [x0, x1, x2, x3, x4, x5, x6, x7, x8, x9, x10, .i (w64 (x11.int + (storeNew x16 (gd (x18.rows.getD x12.int.toNat []) 1)))), .i (w64 (x12.int + 1)), x13, x14, x15, x16, x17, x18, x19, x20, x21])
  else ex 0 [x0, x1, x2, x3, x4, x5, x6, x7, x8, x9, x10, x11, x12, x13, x14, x15, x16, x17, x18, x19, x20, x21] := by kernel_rfl
theorem s_l13New_ev (N : Nat) (p : List D) : evFn Tryz.prog s_l13NewT N s_l13NewK Tryz.f138 ri [⟨ag rIShard, p⟩] = some (bo,
  (let o0 := iter (s_l13NewL0 N p) N [gd p 0, gd p 1, gd p 2, gd p 3, gd p 4, gd p 5, gd p 6, gd p 7, gd p 8, .i 0, .i 0, .i 0, .i 0, gd p 0, gd p 1, gd p 2, gd p 3, gd p 4, gd p 5, gd p 6, gd p 7, gd p 8]
   nd o0.isSome (nd (o0.code == 2) (some (1, [gd o0.pay 11]))))) := by kernel_rfl
def s_l13NewE : Ent := (138, e1 (ag rIShard) fun p => (⟨ri, [.i (newSum (gd p 3) (gd p 5) (gd p 5).rows.length)]⟩, leI ((gd p 5).rows.length : Int) 1000000000))
theorem s_l13New_ok : EntOk Tryz.prog s_l13NewE := e1_ok fun p h => evFn_sound (N := (gd p 5).rows.length + 1) (ks := s_l13NewK) (key := bo) s_l13NewT_ok (enters Tryz.func138 (by kernel_rfl) (by kernel_rfl)) Tryz.func138 fun hw => by
  rw [s_l13New_ev]
  have h : leI ((gd p 5).rows.length : Int) 1000000000 = true := h
  simp only [leI, decide_eq_true_eq] at h
  have e := run_loop (L := s_l13NewL0 ((gd p 5).rows.length + 1) p) (fun k => [gd p 0, gd p 1, gd p 2, gd p 3, gd p 4, gd p 5, gd p 6, gd p 7, gd p 8, .i 0, .i 0, .i (newSum (gd p 3) (gd p 5) k), .i (k : Int), gd p 0, gd p 1, gd p 2, gd p 3, gd p 4, gd p 5, gd p 6, gd p 7, gd p 8]) (gd p 5).rows.length 0 (fun k hk => ?_) ?_ (N := (gd p 5).rows.length + 1) (by omega)
  · simp only [Int.natCast_zero, newSum] at e
    rw [e]
    rfl
  · show s_l13NewL0 _ p [_, _, _, _, _, _, _, _, _, _, _, _, .i (k : Int), _, _, _, _, _, _, _, _, _] = _
    rw [s_l13NewR0]
    have h1 := newSum_in (gd p 3) (gd p 5) k
    have h2 := storeNew_in (gd p 3) (gd ((gd p 5).rows.getD k []) 1)
    simp only [int_i, c_lt hk, nd_ix hk, w64_succ hk (show (gd p 5).rows.length ≤ 9223372036854775807 from by omega), Int.toNat_natCast]
    rw [w64_id (by omega) (by omega)]
    rfl
  · show s_l13NewL0 _ p [_, _, _, _, _, _, _, _, _, _, _, _, .i ((gd p 5).rows.length : Int), _, _, _, _, _, _, _, _, _] = _
    rw [s_l13NewR0]
    simp only [int_i, c_nlt]

end Go.Proofs.YtchceahcaaibcaaGreat
