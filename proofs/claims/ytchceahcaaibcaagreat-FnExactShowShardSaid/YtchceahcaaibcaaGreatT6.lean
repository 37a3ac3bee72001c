/-
  The town: what is held. Printed by sym.py.
-/
import Derived.Test.YtchceahcaaibcaaGreatT5
namespace Go.Proofs.YtchceahcaaibcaaGreat
set_option linter.unusedSimpArgs false
set_option linter.unusedVariables false
set_option maxRecDepth 4096
set_option maxHeartbeats 1000000
/-! loop.example/g00097/impl.LocksHold -/
abbrev i_LocksHoldT : FuncId → List T → Option (T × Bool) := find [i_LocksOkE, i_RangeOkE, i_isModeE, cofLHE]
theorem i_LocksHoldT_ok : CallOk Tryz.prog i_LocksHoldT := find_ok (List.forall_mem_cons.2 ⟨i_LocksOk_ok, List.forall_mem_cons.2 ⟨i_RangeOk_ok, List.forall_mem_cons.2 ⟨i_isMode_ok, List.forall_mem_cons.2 ⟨cofLH_ok, List.forall_mem_nil _⟩⟩⟩⟩)
abbrev i_LocksHoldK : List Nat := [0, 1, 2, 3, 5, 6, 7, 8]
theorem i_LocksHold_ev (N : Nat) (p q r s : List D) : evFn Tryz.prog i_LocksHoldT N i_LocksHoldK Tryz.f263 rb [⟨sd (.sl 138), p⟩, ⟨ri, q⟩, ⟨ag rIRange, r⟩, ⟨ri, s⟩] = some (bo,
  bif locksOk (gd p 0) then bif rangeOk (sub r 0 2) then bif i_isModeF [(gd s 0)] then ob (anyS (fun rr => ixfLHC (.l [[.l [[gd q 0]], .l [[gd s 0]], .l [sub r 0 2]]]) (sub rr 0 4)) (gd p 0))
  else ob false
  else ob false
  else ob false) := by kernel_rfl
def locksHold (z tx : D) (a : List D) (mode : D) : Bool := locksOk z && (rangeOk a && (i_isModeF [mode] && anyS (fun r => ixfLHC (.l [[.l [[tx]], .l [[mode]], .l [sub a 0 2]]]) (sub r 0 4)) z))
def i_LocksHoldE : Ent := (263, e4 (sd (.sl 138)) ri (ag rIRange) ri fun p q r s => (⟨rb, [.b (locksHold (gd p 0) (gd q 0) r (gd s 0))]⟩, true))
theorem i_LocksHold_ok : EntOk Tryz.prog i_LocksHoldE := e4_ok fun p q r s h => evFn_sound (N := 0) (ks := i_LocksHoldK) (key := bo) i_LocksHoldT_ok (enters Tryz.func263 (by kernel_rfl) (by kernel_rfl)) Tryz.func263 fun hw => by
  rw [i_LocksHold_ev]
  rw [show rangeOk (sub r 0 2) = rangeOk r from rfl]
  unfold locksHold
  cases locksOk (gd p 0) <;> try rfl
  cases rangeOk r <;> try rfl
  cases i_isModeF [gd s 0] <;> rfl

/-! loop.example/g00097/spec.l12Holds -/
abbrev s_l12HoldsT : FuncId → List T → Option (T × Bool) := find [s_l12RangeE, s_RangeInE]
theorem s_l12HoldsT_ok : CallOk Tryz.prog s_l12HoldsT := find_ok (List.forall_mem_cons.2 ⟨s_l12Range_ok, List.forall_mem_cons.2 ⟨s_RangeIn_ok, List.forall_mem_nil _⟩⟩)
abbrev s_l12HoldsK : List Nat := [0, 1, 2, 3, 6, 8, 9, 13, 40]
noncomputable def s_l12HoldsL0 (N : Nat) (p q r s : List D) : List D → Out := loopOf Tryz.prog s_l12HoldsT N s_l12HoldsK Tryz.f242 rb [⟨sd (.sl 138), p⟩, ⟨ri, q⟩, ⟨ag rIRange, r⟩, ⟨ri, s⟩] 0
/- x0=t0(sd (.sl 138)) x1=t1(ri) x2=t2(.one (.agg [.d si, .d si])) x4=t3(ri) x5=t6(.one (.c (.ptr 6 0))) x6=t8(.one (.c (.kb false))) x7=t9(ri) x8=box6[.d si, .d si] -/
theorem s_l12HoldsR0 (N : Nat) (p q r s : List D) (x0 x1 x2 x3 x4 x5 x6 x7 x8 x9 : D) : (s_l12HoldsL0 N p q r s) [x0, x1, x2, x3, x4, x5, x6, x7, x8, x9] =
  bif ltI x7.int (x0.rows.length : Int) then nd (inRange x7.int x0.rows.length) (bif (gd (x0.rows.getD x7.int.toNat []) 0).int == x1.int then nd (inRange x7.int x0.rows.length) (bif s_RangeInF [x8, x9] [(gd (x0.rows.getD x7.int.toNat []) 1), (gd (x0.rows.getD x7.int.toNat []) 2)] then nd (inRange x7.int x0.rows.length) (bif leI x4.int (gd (x0.rows.getD x7.int.toNat []) 3).int then ob true
  else nx [x0, x1, x2, x3, x4, x5, x6, .i (w64 (x7.int + 1)), x8, x9])
  else nx [x0, x1, x2, x3, x4, x5, x6, .i (w64 (x7.int + 1)), x8, x9])
  else nx [x0, x1, x2, x3, x4, x5, x6, .i (w64 (x7.int + 1)), x8, x9])
  else ex 0 [x0, x1, x2, x3, x4, x5, x6, x7, x8, x9] := by kernel_rfl
theorem s_l12Holds_ev (N : Nat) (p q r s : List D) : evFn Tryz.prog s_l12HoldsT N s_l12HoldsK Tryz.f242 rb [⟨sd (.sl 138), p⟩, ⟨ri, q⟩, ⟨ag rIRange, r⟩, ⟨ri, s⟩] = some (bo,
  (let o0 := iter (s_l12HoldsL0 N p q r s) N [gd p 0, gd q 0, gd r 0, gd r 1, gd s 0, .i 0, .i 0, .i 0, gd r 0, gd r 1]
   nd o0.isSome (bif o0.code == 1 then some (1, o0.pay)
   else nd (o0.code == 2) (ob false)))) := by kernel_rfl
def holdS (r : List D) (tx : D) (a : List D) (mode : D) : Bool := ((gd r 0).int == tx.int) && (s_RangeInF a [gd r 1, gd r 2] && leI mode.int (gd r 3).int)
def holds (z tx : D) (a : List D) (mode : D) : Bool := (List.range z.rows.length).any fun k => holdS (z.rows.getD k []) tx a mode
theorem lock_row {z : D} (h : locksOk z = true) {k : Nat} (hk : k < z.rows.length) : rangeOk [gd (z.rows.getD k []) 1, gd (z.rows.getD k []) 2] = true ∧ i_isModeF [gd (z.rows.getD k []) 3] = true := by
  simp only [locksOk, Bool.and_eq_true, List.all_eq_true, List.mem_range] at h
  have := h.1 k hk
  simp only [lockAt, Bool.and_eq_true] at this
  exact ⟨this.2.1, this.2.2.1⟩
theorem any_congr {n : Nat} {C C' : Nat → Bool} (h : ∀ k, k < n → C k = C' k) : (List.range n).any C = (List.range n).any C' := by
  rw [Bool.eq_iff_iff]
  simp only [List.any_eq_true, List.mem_range]
  exact ⟨fun ⟨k, hk, hc⟩ => ⟨k, hk, by rw [← h k hk]; exact hc⟩, fun ⟨k, hk, hc⟩ => ⟨k, hk, by rw [h k hk]; exact hc⟩⟩
theorem all_congr {n : Nat} {C C' : Nat → Bool} (h : ∀ k, k < n → C k = C' k) : (List.range n).all C = (List.range n).all C' := by
  rw [Bool.eq_iff_iff]
  simp only [List.all_eq_true, List.mem_range]
  exact ⟨fun hc k hk => by rw [← h k hk]; exact hc k hk, fun hc k hk => by rw [h k hk]; exact hc k hk⟩
theorem hold_same {z tx : D} {a : List D} (hz : locksOk z = true) (ha : rangeOk a = true) : holds z tx a (.i 2) = locksHold z tx a (.i 2) := by
  unfold holds locksHold
  rw [hz, ha, Bool.true_and, Bool.true_and, show i_isModeF [.i 2] = true from rfl, Bool.true_and]
  unfold anyS
  refine any_congr fun k hk => ?_
  obtain ⟨h1, h2⟩ := lock_row hz hk
  show holdS (z.rows.getD k []) tx a (.i 2) = i_LocksHold_1F (sub (z.rows.getD k []) 0 4) [.l [[tx]]] [.l [[.i 2]]] [.l [sub a 0 2]]
  have e : i_LocksHold_1F (sub (z.rows.getD k []) 0 4) [.l [[tx]]] [.l [[.i 2]]] [.l [sub a 0 2]] = (bif (gd (z.rows.getD k []) 0).int == tx.int then bif (gd (z.rows.getD k []) 3).int == 2 then bif leI (gd (z.rows.getD k []) 1).int (gd a 0).int then leI (gd a 1).int (gd (z.rows.getD k []) 2).int else false else bif (gd (z.rows.getD k []) 3).int == 2 then bif leI (gd (z.rows.getD k []) 1).int (gd a 0).int then leI (gd a 1).int (gd (z.rows.getD k []) 2).int else false else false else false) := rfl
  rw [e]
  unfold holdS s_RangeInF
  rw [show rangeOk (sub a 0 2) = rangeOk a from rfl, ha, show rangeOk (sub [gd (z.rows.getD k []) 1, gd (z.rows.getD k []) 2] 0 2) = rangeOk [gd (z.rows.getD k []) 1, gd (z.rows.getD k []) 2] from rfl, h1]
  simp only [cond_true, gd_cons_zero, gd_cons_succ, int_i]
  have hm : leI 2 (gd (z.rows.getD k []) 3).int = ((gd (z.rows.getD k []) 3).int == 2) := by
    have h2 : (bif (gd (z.rows.getD k []) 3).int == 1 then true else (gd (z.rows.getD k []) 3).int == 2) = true := h2
    cases h3 : (gd (z.rows.getD k []) 3).int == 1
    · rw [h3, cond_false] at h2
      rw [h2, eq_of_beq h2]; rfl
    · rw [eq_of_beq h3]; rfl
  rw [hm]
  cases (gd (z.rows.getD k []) 0).int == tx.int <;> cases (gd (z.rows.getD k []) 3).int == 2 <;> cases leI (gd (z.rows.getD k []) 1).int (gd a 0).int <;> cases leI (gd a 1).int (gd (z.rows.getD k []) 2).int <;> rfl
def s_l12HoldsE : Ent := (242, e4 (sd (.sl 138)) ri (ag rIRange) ri fun p q r s => (⟨rb, [.b (holds (gd p 0) (gd q 0) r (gd s 0))]⟩, true))
theorem s_l12Holds_ok : EntOk Tryz.prog s_l12HoldsE := e4_ok fun p q r s h => evFn_sound (N := (gd p 0).rows.length + 1) (ks := s_l12HoldsK) (key := bo) s_l12HoldsT_ok (enters Tryz.func242 (by kernel_rfl) (by kernel_rfl)) Tryz.func242 fun hw => by
  rw [s_l12Holds_ev]
  have hl := wt_sl (hw ⟨sd (.sl 138), p⟩ (by simp))
  have e := any_loop (L := s_l12HoldsL0 ((gd p 0).rows.length + 1) p q r s) (fun k => [gd p 0, gd q 0, gd r 0, gd r 1, gd s 0, .i 0, .i 0, .i (k : Int), gd r 0, gd r 1]) (gd p 0).rows.length (fun k => holdS ((gd p 0).rows.getD k []) (gd q 0) r (gd s 0)) [.b true] 0 (fun k hk => ?_) ?_ (N := (gd p 0).rows.length + 1) (by omega)
  · simp only [Int.natCast_zero] at e
    rw [e]
    unfold holds
    cases (List.range (gd p 0).rows.length).any (fun k => holdS ((gd p 0).rows.getD k []) (gd q 0) r (gd s 0)) <;> rfl
  · show s_l12HoldsL0 _ p q r s [_, _, _, _, _, _, _, .i (k : Int), _, _] = _
    rw [s_l12HoldsR0]
    simp only [int_i, c_lt hk, nd_ix hk, w64_succ hk hl, Int.toNat_natCast]
    rw [show s_RangeInF [gd r 0, gd r 1] [gd ((gd p 0).rows.getD k []) 1, gd ((gd p 0).rows.getD k []) 2] = s_RangeInF r [gd ((gd p 0).rows.getD k []) 1, gd ((gd p 0).rows.getD k []) 2] from rfl]
    unfold holdS
    cases (gd ((gd p 0).rows.getD k []) 0).int == (gd q 0).int <;> cases s_RangeInF r [gd ((gd p 0).rows.getD k []) 1, gd ((gd p 0).rows.getD k []) 2] <;> cases leI (gd s 0).int (gd ((gd p 0).rows.getD k []) 3).int <;> rfl
  · show s_l12HoldsL0 _ p q r s [_, _, _, _, _, _, _, .i ((gd p 0).rows.length : Int), _, _] = _
    rw [s_l12HoldsR0]
    simp only [int_i, c_nlt]

/-! loop.example/g00097/impl.txsOf -/
abbrev i_txsOfT : FuncId → List T → Option (T × Bool) := find []
theorem i_txsOfT_ok : CallOk Tryz.prog i_txsOfT := find_ok (List.forall_mem_nil _)
abbrev i_txsOfK : List Nat := [0, 2, 3, 5, 7, 8, 9, 10]
noncomputable def i_txsOfL0 (N : Nat) (p : List D) : List D → Out := loopOf Tryz.prog i_txsOfT N i_txsOfK Tryz.f173 (.one (.c (.own (0, 0) true 3))) [⟨sd (.sl 248), p⟩] 0
/- x0=t0(sd (.sl 248)) x1=t2(.one (.c (.own (2, 0) true 3))) x2=t3(.one (.c (.own (6, 0) true 3))) x3=t7(sd (.sl 248)) x4=t8(ri) x5=t9(ri) -/
theorem i_txsOfR0 (N : Nat) (p : List D) (x0 x1 x2 x3 x4 x5 : D) : (i_txsOfL0 N p) [x0, x1, x2, x3, x4, x5] =
  bif ltI x5.int x4.int then nd (inRange x5.int x3.rows.length) (nd (lenOk (x2.rows ++ [[gd (x3.rows.getD x5.int.toNat []) 0]]) && true) (nx [x0, x1, .l (x2.rows ++ [[gd (x3.rows.getD x5.int.toNat []) 0]]), x3, x4, .i (w64 (x5.int + 1))]))
  else ex 0 [x0, x1, x2, x3, x4, x5] := by kernel_rfl
theorem i_txsOf_ev (N : Nat) (p : List D) : evFn Tryz.prog i_txsOfT N i_txsOfK Tryz.f173 (.one (.c (.own (0, 0) true 3))) [⟨sd (.sl 248), p⟩] = some (bo,
  (let o0 := iter (i_txsOfL0 N p) N [gd p 0, .l [], .l [], gd p 0, .i ((gd p 0).rows.length : Int), .i 0]
   nd o0.isSome (nd (o0.code == 2) (some (1, [gd o0.pay 2]))))) := by kernel_rfl
def txsD (z : D) : D := .l (z.rows.map fun r => [gd r 0])
def i_txsOfE : Ent := (173, e1 (sd (.sl 248)) fun p => (⟨.one (.c (.own (0, 0) true 3)), [txsD (gd p 0)]⟩, leI ((gd p 0).rows.length : Int) 1000000000))
theorem i_txsOf_ok : EntOk Tryz.prog i_txsOfE := e1_ok fun p h => evFn_sound (N := (gd p 0).rows.length + 1) (ks := i_txsOfK) (key := bo) i_txsOfT_ok (enters Tryz.func173 (by kernel_rfl) (by kernel_rfl)) Tryz.func173 fun hw => by
  rw [i_txsOf_ev]
  have h : leI ((gd p 0).rows.length : Int) 1000000000 = true := h
  simp only [leI, decide_eq_true_eq] at h
  have e := run_loop (L := i_txsOfL0 ((gd p 0).rows.length + 1) p) (fun k => [gd p 0, .l [], .l (((gd p 0).rows.take k).map fun r => [gd r 0]), gd p 0, .i ((gd p 0).rows.length : Int), .i (k : Int)]) (gd p 0).rows.length 0 (fun k hk => ?_) ?_ (N := (gd p 0).rows.length + 1) (by omega)
  · simp only [Int.natCast_zero, List.take_zero, List.map_nil, List.take_length] at e
    rw [e]
    rfl
  · show i_txsOfL0 _ p [_, _, .l (((gd p 0).rows.take k).map fun r => [gd r 0]), _, _, .i (k : Int)] = _
    rw [i_txsOfR0]
    have ht : ((gd p 0).rows.take (k + 1)).map (fun r => [gd r 0]) = ((gd p 0).rows.take k).map (fun r => [gd r 0]) ++ [[gd ((gd p 0).rows.getD k []) 0]] := by
      rw [List.take_succ_eq_append_getElem hk, List.map_append, List.getD_eq_getElem?_getD, List.getElem?_eq_getElem hk]
      rfl
    have hd : lenOk (((gd p 0).rows.take k).map (fun r => [gd r 0]) ++ [[gd ((gd p 0).rows.getD k []) 0]]) = true := lenOk_t (by simp; omega)
    simp only [int_i, rows_l, c_lt hk, nd_ix hk, w64_succ hk (show (gd p 0).rows.length ≤ 9223372036854775807 from by omega), Int.toNat_natCast]
    rw [hd, ht]
    rfl
  · show i_txsOfL0 _ p [_, _, _, _, .i ((gd p 0).rows.length : Int), .i ((gd p 0).rows.length : Int)] = _
    rw [i_txsOfR0]
    simp only [int_i, c_nlt]

/-! loop.example/g00097/impl.heldsOk$1 -/
abbrev i_heldsOk_1T : FuncId → List T → Option (T × Bool) := find [i_oneE, i_LocksHoldE]
theorem i_heldsOk_1T_ok : CallOk Tryz.prog i_heldsOk_1T := find_ok (List.forall_mem_cons.2 ⟨i_one_ok, List.forall_mem_cons.2 ⟨i_LocksHold_ok, List.forall_mem_nil _⟩⟩)
abbrev i_heldsOk_1K : List Nat := [0, 1, 2, 3, 4]
theorem i_heldsOk_1_ev (N : Nat) (p q r : List D) : evFn Tryz.prog i_heldsOk_1T N i_heldsOk_1K Tryz.f262 rb [⟨ag rIWrite, p⟩, ⟨.one (.c (.cptr [si, .sl 122, .sl 122, .sl 176, .sl 138, .sl 248, .sl 3, .sl 3, si] 0)), q⟩, ⟨.one (.c (.cptr [si, .sl 132] 0)), r⟩] = some (bo,
  ob (!(locksHold (gd ((gd q 0).rows.getD 0 []) 4) (gd ((gd r 0).rows.getD 0 []) 0) [(gd p 0), .i (w64 ((gd p 0).int + 1))] (.i 2)))) := by kernel_rfl
def i_heldsOk_1F (p q r : List D) : Bool :=
  !(locksHold (gd ((gd q 0).rows.getD 0 []) 4) (gd ((gd r 0).rows.getD 0 []) 0) [(gd p 0), .i (w64 ((gd p 0).int + 1))] (.i 2))
def i_heldsOk_1E : Ent := (262, e3 (ag rIWrite) (.one (.c (.cptr [si, .sl 122, .sl 122, .sl 176, .sl 138, .sl 248, .sl 3, .sl 3, si] 0))) (.one (.c (.cptr [si, .sl 132] 0))) fun p q r => (⟨rb, [.b (i_heldsOk_1F p [gd q 0] [gd r 0])]⟩, true))
theorem i_heldsOk_1_ok : EntOk Tryz.prog i_heldsOk_1E := e3_ok fun p q r h => evFn_sound (N := 0) (ks := i_heldsOk_1K) (key := bo) i_heldsOk_1T_ok (enters Tryz.func262 (by kernel_rfl) (by kernel_rfl)) Tryz.func262 fun hw => by
  rw [i_heldsOk_1_ev]
  try simp only [cond_ob, cond_oi, cond_os]
  rfl

/-! slices.IndexFunc[[]loop.example/g00097/impl.Write,loop.example/g00097/impl.Write] -/
abbrev ixfHOT : FuncId → List T → Option (T × Bool) := find [i_heldsOk_1E]
theorem ixfHOT_ok : CallOk Tryz.prog ixfHOT := find_ok (List.forall_mem_cons.2 ⟨i_heldsOk_1_ok, List.forall_mem_nil _⟩)
abbrev ixfHOK : List Nat := [0, 1, 4, 5, 7, 8, 9, 16]
noncomputable def ixfHOL0 (N : Nat) (p q : List D) : List D → Out := loopOf Tryz.prog ixfHOT N ixfHOK Tryz.f308 ri [⟨sd (.sl 132), p⟩, ⟨.one (.c (.fn 262 [.cptr [si, .sl 122, .sl 122, .sl 176, .sl 138, .sl 248, .sl 3, .sl 3, si] 0, .cptr [si, .sl 132] 0])), q⟩] 0
/- x0=t0(sd (.sl 132)) x1=t1(.one (.c (.fn 262 [.cptr [si, .sl 122, .sl 122, .sl 176, .sl 138, .sl 248, .sl 3, .sl 3, si] 0, .cptr [si, .sl 132] 0]))) x2=t4(ri) x3=t7(ri) x4=t8(ri) -/
theorem ixfHOR0 (N : Nat) (p q : List D) (x0 x1 x2 x3 x4 : D) : (ixfHOL0 N p q) [x0, x1, x2, x3, x4] =
  bif ltI x4.int x3.int then nd (inRange x4.int x0.rows.length) (bif i_heldsOk_1F (sub (x0.rows.getD x4.int.toNat []) 0 2) [gd (x1.rows.getD 0 []) 0] [gd (x1.rows.getD 0 []).tail 0] then some (1, [x4])
  else nx [x0, x1, x2, x3, .i (w64 (x4.int + 1))])
  else ex 0 [x0, x1, x2, x3, x4] := by kernel_rfl
theorem ixfHO_ev (N : Nat) (p q : List D) : evFn Tryz.prog ixfHOT N ixfHOK Tryz.f308 ri [⟨sd (.sl 132), p⟩, ⟨.one (.c (.fn 262 [.cptr [si, .sl 122, .sl 122, .sl 176, .sl 138, .sl 248, .sl 3, .sl 3, si] 0, .cptr [si, .sl 132] 0])), q⟩] = some (bo,
  (let o0 := iter (ixfHOL0 N p q) N [gd p 0, gd q 0, .i 0, .i ((gd p 0).rows.length : Int), .i 0]
   nd o0.isSome (bif o0.code == 1 then some (1, o0.pay)
   else nd (o0.code == 2) (oi (-1))))) := by kernel_rfl
def ixfHOC (c : D) (r : List D) : Bool := i_heldsOk_1F r [gd (c.rows.getD 0 []) 0] [gd (c.rows.getD 0 []).tail 0]
def ixfHOE : Ent := (308, e2 (sd (.sl 132)) (.one (.c (.fn 262 [.cptr [si, .sl 122, .sl 122, .sl 176, .sl 138, .sl 248, .sl 3, .sl 3, si] 0, .cptr [si, .sl 132] 0]))) fun p q => (⟨ri, [.i (ixF (fun k => ixfHOC (gd q 0) (sub ((gd p 0).rows.getD k []) 0 2)) 0 (gd p 0).rows.length)]⟩, true))
theorem ixfHO_ok : EntOk Tryz.prog ixfHOE := e2_ok fun p q h => evFn_sound (N := (gd p 0).rows.length + 1) (ks := ixfHOK) (key := bo) ixfHOT_ok (enters Tryz.func308 (by kernel_rfl) (by kernel_rfl)) Tryz.func308 fun hw => by
  rw [ixfHO_ev]
  have hl := wt_sl (hw ⟨sd (.sl 132), p⟩ (by simp))
  have e := ix_loop (L := ixfHOL0 ((gd p 0).rows.length + 1) p q) (fun k => [gd p 0, gd q 0, .i 0, .i ((gd p 0).rows.length : Int), .i (k : Int)]) (gd p 0).rows.length (fun k => ixfHOC (gd q 0) (sub ((gd p 0).rows.getD k []) 0 2)) [gd p 0, gd q 0, .i 0, .i ((gd p 0).rows.length : Int), .i ((gd p 0).rows.length : Int)] (fun k hk => ?_) ?_ (gd p 0).rows.length 0 ((gd p 0).rows.length + 1) (by omega) (by omega)
  · simp only [Int.natCast_zero] at e
    rw [e]
    have hno := ixF_neg (fun k => ixfHOC (gd q 0) (sub ((gd p 0).rows.getD k []) 0 2)) (gd p 0).rows.length 0
    cases hd : decide (ixF (fun k => ixfHOC (gd q 0) (sub ((gd p 0).rows.getD k []) 0 2)) 0 (gd p 0).rows.length ≥ 0)
    · rw [hno hd]; rfl
    · rfl
  · show ixfHOL0 _ p q [_, _, _, _, .i (k : Int)] = _
    rw [ixfHOR0]
    simp only [int_i, c_lt hk, nd_ix hk, w64_succ hk hl, Int.toNat_natCast]
    unfold ixfHOC
    cases i_heldsOk_1F (sub ((gd p 0).rows.getD k []) 0 2) [gd ((gd q 0).rows.getD 0 []) 0] [gd ((gd q 0).rows.getD 0 []).tail 0] <;> rfl
  · show ixfHOL0 _ p q [_, _, _, .i ((gd p 0).rows.length : Int), .i ((gd p 0).rows.length : Int)] = _
    rw [ixfHOR0]
    simp only [int_i, c_nlt]

/-! slices.ContainsFunc[[]loop.example/g00097/impl.Write,loop.example/g00097/impl.Write] -/
abbrev cofHOT : FuncId → List T → Option (T × Bool) := find [ixfHOE, i_heldsOk_1E]
theorem cofHOT_ok : CallOk Tryz.prog cofHOT := find_ok (List.forall_mem_cons.2 ⟨ixfHO_ok, List.forall_mem_cons.2 ⟨i_heldsOk_1_ok, List.forall_mem_nil _⟩⟩)
abbrev cofHOK : List Nat := [0, 1, 4]
theorem cofHO_ev (N : Nat) (p q : List D) : evFn Tryz.prog cofHOT N cofHOK Tryz.f261 rb [⟨sd (.sl 132), p⟩, ⟨.one (.c (.fn 262 [.cptr [si, .sl 122, .sl 122, .sl 176, .sl 138, .sl 248, .sl 3, .sl 3, si] 0, .cptr [si, .sl 132] 0])), q⟩] = some (bo,
  ob (leI 0 (ixF (fun k => ixfHOC (.l [[gd ((gd q 0).rows.getD 0 []) 0, gd ((gd q 0).rows.getD 0 []).tail 0]]) (sub ((gd p 0).rows.getD k []) 0 2)) 0 (gd p 0).rows.length))) := by kernel_rfl
def cofHOE : Ent := (261, e2 (sd (.sl 132)) (.one (.c (.fn 262 [.cptr [si, .sl 122, .sl 122, .sl 176, .sl 138, .sl 248, .sl 3, .sl 3, si] 0, .cptr [si, .sl 132] 0]))) fun p q => (⟨rb, [.b (anyS (fun rr => ixfHOC (gd q 0) (sub rr 0 2)) (gd p 0))]⟩, true))
theorem cofHO_ok : EntOk Tryz.prog cofHOE := e2_ok fun p q h => evFn_sound (N := 0) (ks := cofHOK) (key := bo) cofHOT_ok (enters Tryz.func261 (by kernel_rfl) (by kernel_rfl)) Tryz.func261 fun hw => by
  rw [cofHO_ev]
  refine congrArg (fun x => some (bo, ob x)) ?_
  exact (ixF_any (fun k => ixfHOC (gd q 0) (sub ((gd p 0).rows.getD k []) 0 2)) (gd p 0).rows.length 0).trans (by simp only [Nat.zero_add]; rfl)

/-! loop.example/g00097/impl.heldsOk -/
abbrev i_heldsOkT : FuncId → List T → Option (T × Bool) := find [i_WritesOkE, cofHOE, i_txsOfE, i_ascendingE]
theorem i_heldsOkT_ok : CallOk Tryz.prog i_heldsOkT := find_ok (List.forall_mem_cons.2 ⟨i_WritesOk_ok, List.forall_mem_cons.2 ⟨cofHO_ok, List.forall_mem_cons.2 ⟨i_txsOf_ok, List.forall_mem_cons.2 ⟨i_ascending_ok, List.forall_mem_nil _⟩⟩⟩⟩)
abbrev i_heldsOkK : List Nat := [0, 1, 2, 4, 6, 7, 8, 9, 21]
noncomputable def i_heldsOkL0 (N : Nat) (p : List D) : List D → Out := loopOf Tryz.prog i_heldsOkT N i_heldsOkK Tryz.f164 rb [⟨ag rIShard, p⟩] 0
/- x0=t0(.one (.agg [.d si, .d (.sl 122), .d (.sl 122), .d (.sl 176), .d (.sl 138), .d (.sl 248), .d (.sl 3), .d (.sl 3), .d si])) x9=t1(.one (.c (.ptr 1 0))) x10=t2(.one (.c (.kb false))) x11=t6(sd (.sl 248)) x12=t7(ri) x13=t8(ri) x14=box1[.d si, .d (.sl 122), .d (.sl 122), .d (.sl 176), .d (.sl 138), .d (.sl 248), .d (.sl 3), .d (.sl 3), .d si] -/
theorem i_heldsOkR0 (N : Nat) (p : List D) (x0 x1 x2 x3 x4 x5 x6 x7 x8 x9 x10 x11 x12 x13 x14 x15 x16 x17 x18 x19 x20 x21 x22 : D) : (i_heldsOkL0 N p) [x0, x1, x2, x3, x4, x5, x6, x7, x8, x9, x10, x11, x12, x13, x14, x15, x16, x17, x18, x19, x20, x21, x22] =
  bif ltI x13.int x12.int then nd (inRange x13.int x11.rows.length) (bif !(writesOk (gd (x11.rows.getD x13.int.toNat []) 1)) then ob false
  else bif anyS (fun rr => ixfHOC (.l [[.l [[x14, x15, x16, x17, x18, x19, x20, x21, x22]], .l [sub (x11.rows.getD x13.int.toNat []) 0 2]]]) (sub rr 0 2)) (gd (x11.rows.getD x13.int.toNat []) 1) then ob false
  else nx [x0, x1, x2, x3, x4, x5, x6, x7, x8, x9, x10, x11, x12, .i (w64 (x13.int + 1)), x14, x15, x16, x17, x18, x19, x20, x21, x22])
  else ex 0 [x0, x1, x2, x3, x4, x5, x6, x7, x8, x9, x10, x11, x12, x13, x14, x15, x16, x17, x18, x19, x20, x21, x22] := by kernel_rfl
theorem i_heldsOk_ev (N : Nat) (p : List D) : evFn Tryz.prog i_heldsOkT N i_heldsOkK Tryz.f164 rb [⟨ag rIShard, p⟩] = some (bo,
  (let o0 := iter (i_heldsOkL0 N p) N [gd p 0, gd p 1, gd p 2, gd p 3, gd p 4, gd p 5, gd p 6, gd p 7, gd p 8, .i 0, .i 0, gd p 5, .i ((gd p 5).rows.length : Int), .i 0, gd p 0, gd p 1, gd p 2, gd p 3, gd p 4, gd p 5, gd p 6, gd p 7, gd p 8]
   nd o0.isSome (bif o0.code == 1 then some (1, o0.pay)
   else nd (o0.code == 2) (nd (leI ((gd o0.pay 19).rows.length : Int) 1000000000) (ob (ascOk (txsD (gd o0.pay 19)))))))) := by kernel_rfl
def oneAt (w : List D) : List D := [gd w 0, .i (w64 ((gd w 0).int + 1))]
def heldAt (p : List D) (k : Nat) : Bool := writesOk (gd ((gd p 5).rows.getD k []) 1) && (List.range (gd ((gd p 5).rows.getD k []) 1).rows.length).all fun j => locksHold (gd p 4) (gd ((gd p 5).rows.getD k []) 0) (oneAt ((gd ((gd p 5).rows.getD k []) 1).rows.getD j [])) (.i 2)
def heldsOk (p : List D) : Bool := (List.range (gd p 5).rows.length).all (heldAt p) && ascOk (txsD (gd p 5))
def i_heldsOkE : Ent := (164, e1 (ag rIShard) fun p => (⟨rb, [.b (heldsOk p)]⟩, leI ((gd p 5).rows.length : Int) 1000000000))
theorem i_heldsOk_ok : EntOk Tryz.prog i_heldsOkE := e1_ok fun p h => evFn_sound (N := (gd p 5).rows.length + 1) (ks := i_heldsOkK) (key := bo) i_heldsOkT_ok (enters Tryz.func164 (by kernel_rfl) (by kernel_rfl)) Tryz.func164 fun hw => by
  rw [i_heldsOk_ev]
  have h : leI ((gd p 5).rows.length : Int) 1000000000 = true := h
  have h' := h
  simp only [leI, decide_eq_true_eq] at h'
  have e := for_loop (L := i_heldsOkL0 ((gd p 5).rows.length + 1) p) (fun k => [gd p 0, gd p 1, gd p 2, gd p 3, gd p 4, gd p 5, gd p 6, gd p 7, gd p 8, .i 0, .i 0, gd p 5, .i ((gd p 5).rows.length : Int), .i (k : Int), gd p 0, gd p 1, gd p 2, gd p 3, gd p 4, gd p 5, gd p 6, gd p 7, gd p 8]) (gd p 5).rows.length (heldAt p) [.b false] 0 (fun k hk => ?_) ?_ (N := (gd p 5).rows.length + 1) (by omega)
  · simp only [Int.natCast_zero] at e
    rw [e]
    unfold heldsOk
    cases (List.range (gd p 5).rows.length).all (heldAt p)
    · rfl
    · simp only [nd, cond_true, cond_false, Option.isSome_some, Out.code, Out.pay, Option.getD_some, gd_cons_zero, gd_cons_succ, Nat.reduceBEq, Nat.reduceAdd, int_i, bool_b, str_s, rows_l, Bool.not_true, Bool.not_false, beq_self_eq_true, h]
      rfl
  · show i_heldsOkL0 _ p [_, _, _, _, _, _, _, _, _, _, _, _, _, .i (k : Int), _, _, _, _, _, _, _, _, _] = _
    rw [i_heldsOkR0]
    simp only [int_i, c_lt hk, nd_ix hk, w64_succ hk (show (gd p 5).rows.length ≤ 9223372036854775807 from by omega), Int.toNat_natCast]
    have ea : (!anyS (fun r => ixfHOC (.l [[.l [[gd p 0, gd p 1, gd p 2, gd p 3, gd p 4, gd p 5, gd p 6, gd p 7, gd p 8]], .l [sub ((gd p 5).rows.getD k []) 0 2]]]) (sub r 0 2)) (gd ((gd p 5).rows.getD k []) 1)) = (List.range (gd ((gd p 5).rows.getD k []) 1).rows.length).all fun j => locksHold (gd p 4) (gd ((gd p 5).rows.getD k []) 0) (oneAt ((gd ((gd p 5).rows.getD k []) 1).rows.getD j [])) (.i 2) := by
      unfold anyS
      rw [← not_any]
      refine all_congr fun j _ => ?_
      show (!(!locksHold (gd p 4) (gd ((gd p 5).rows.getD k []) 0) (oneAt ((gd ((gd p 5).rows.getD k []) 1).rows.getD j [])) (.i 2))) = _
      rw [Bool.not_not]
    unfold heldAt
    rw [← ea]
    cases writesOk (gd ((gd p 5).rows.getD k []) 1) <;> cases anyS (fun r => ixfHOC (.l [[.l [[gd p 0, gd p 1, gd p 2, gd p 3, gd p 4, gd p 5, gd p 6, gd p 7, gd p 8]], .l [sub ((gd p 5).rows.getD k []) 0 2]]]) (sub r 0 2)) (gd ((gd p 5).rows.getD k []) 1) <;> rfl
  · show i_heldsOkL0 _ p [_, _, _, _, _, _, _, _, _, _, _, _, .i ((gd p 5).rows.length : Int), .i ((gd p 5).rows.length : Int), _, _, _, _, _, _, _, _, _] = _
    rw [i_heldsOkR0]
    simp only [int_i, c_nlt]

/-! loop.example/g00097/spec.l13HeldsOk -/
abbrev s_l13HeldsOkT : FuncId → List T → Option (T × Bool) := find [s_l12TxE, s_WritesOkE, s_l10OneE, s_l12HoldsE, s_l12HasE]
theorem s_l13HeldsOkT_ok : CallOk Tryz.prog s_l13HeldsOkT := find_ok (List.forall_mem_cons.2 ⟨s_l12Tx_ok, List.forall_mem_cons.2 ⟨s_WritesOk_ok, List.forall_mem_cons.2 ⟨s_l10One_ok, List.forall_mem_cons.2 ⟨s_l12Holds_ok, List.forall_mem_cons.2 ⟨s_l12Has_ok, List.forall_mem_nil _⟩⟩⟩⟩⟩)
abbrev s_l13HeldsOkK : List Nat := [0, 1, 2, 3, 4, 5, 10, 43, 48, 63, 75]
noncomputable def s_l13HeldsOkL0 (N : Nat) (p : List D) : List D → Out := loopOf Tryz.prog s_l13HeldsOkT N s_l13HeldsOkK Tryz.f137 rb [⟨ag rIShard, p⟩] 0
noncomputable def s_l13HeldsOkL2 (N : Nat) (p : List D) : List D → Out := loopOf Tryz.prog s_l13HeldsOkT N s_l13HeldsOkK Tryz.f137 rb [⟨ag rIShard, p⟩] 2
/- x0=t0(.one (.agg [.d si, .d (.sl 122), .d (.sl 122), .d (.sl 176), .d (.sl 138), .d (.sl 248), .d (.sl 3), .d (.sl 3), .d si])) x9=t1(.one (.c (.ptr 1 0))) x10=t2(.one (.c (.kb false))) x11=t3(ri) x12=box1[.d si, .d (.sl 122), .d (.sl 122), .d (.sl 176), .d (.sl 138), .d (.sl 248), .d (.sl 3), .d (.sl 3), .d si] -/
theorem s_l13HeldsOkR0 (N : Nat) (p : List D) (x0 x1 x2 x3 x4 x5 x6 x7 x8 x9 x10 x11 x12 x13 x14 x15 x16 x17 x18 x19 x20 : D) : (s_l13HeldsOkL0 N p) [x0, x1, x2, x3, x4, x5, x6, x7, x8, x9, x10, x11, x12, x13, x14, x15, x16, x17, x18, x19, x20] =
  bif ltI x11.int (x17.rows.length : Int) then nd (inRange x11.int x17.rows.length) (bif !(inB (gd (x17.rows.getD x11.int.toNat []) 0).int 1 60) then ob false
  else bif ltI 0 x11.int then nd (inRange (w64 (x11.int - 1)) x17.rows.length) (bif leI (gd (x17.rows.getD x11.int.toNat []) 0).int (gd (x17.rows.getD (w64 (x11.int - 1)).toNat []) 0).int then ob false
  else bif !(writesOk (gd (x17.rows.getD x11.int.toNat []) 1)) then ob false
  else (let o2 := iter (s_l13HeldsOkL2 N p) N [x0, x1, x2, x3, x4, x5, x6, x7, x8, x9, x10, x11, .b (ltI x11.int (x17.rows.length : Int)), .i 0, .b (!(writesOk (gd (x17.rows.getD x11.int.toNat []) 1))), .i 0, x12, x13, x14, x15, x16, x17, x18, x19, x20, gd (x17.rows.getD x11.int.toNat []) 0, gd (x17.rows.getD x11.int.toNat []) 1]
   nd o2.isSome (bif o2.code == 1 then some (1, o2.pay)
   else nd (o2.code == 4) (bif hasInt (gd o2.pay 22) (gd o2.pay 25).int then ob false
   else bif hasInt (gd o2.pay 23) (gd o2.pay 25).int then ob false
   else nx [gd o2.pay 0, gd o2.pay 1, gd o2.pay 2, gd o2.pay 3, gd o2.pay 4, gd o2.pay 5, gd o2.pay 6, gd o2.pay 7, gd o2.pay 8, gd o2.pay 9, gd o2.pay 10, .i (w64 ((gd o2.pay 11).int + 1)), gd o2.pay 16, gd o2.pay 17, gd o2.pay 18, gd o2.pay 19, gd o2.pay 20, gd o2.pay 21, gd o2.pay 22, gd o2.pay 23, gd o2.pay 24]))))
  else bif !(writesOk (gd (x17.rows.getD x11.int.toNat []) 1)) then ob false
  else (let o2 := iter (s_l13HeldsOkL2 N p) N [x0, x1, x2, x3, x4, x5, x6, x7, x8, x9, x10, x11, .b (ltI x11.int (x17.rows.length : Int)), .i 0, .b (!(writesOk (gd (x17.rows.getD x11.int.toNat []) 1))), .i 0, x12, x13, x14, x15, x16, x17, x18, x19, x20, gd (x17.rows.getD x11.int.toNat []) 0, gd (x17.rows.getD x11.int.toNat []) 1]
   nd o2.isSome (bif o2.code == 1 then some (1, o2.pay)
   else nd (o2.code == 4) (bif hasInt (gd o2.pay 22) (gd o2.pay 25).int then ob false
   else bif hasInt (gd o2.pay 23) (gd o2.pay 25).int then ob false
   else nx [gd o2.pay 0, gd o2.pay 1, gd o2.pay 2, gd o2.pay 3, gd o2.pay 4, gd o2.pay 5, gd o2.pay 6, gd o2.pay 7, gd o2.pay 8, gd o2.pay 9, gd o2.pay 10, .i (w64 ((gd o2.pay 11).int + 1)), gd o2.pay 16, gd o2.pay 17, gd o2.pay 18, gd o2.pay 19, gd o2.pay 20, gd o2.pay 21, gd o2.pay 22, gd o2.pay 23, gd o2.pay 24]))))
  else ex 0 [x0, x1, x2, x3, x4, x5, x6, x7, x8, x9, x10, x11, x12, x13, x14, x15, x16, x17, x18, x19, x20] := by kernel_rfl
/- x0=t0(.one (.agg [.d si, .d (.sl 122), .d (.sl 122), .d (.sl 176), .d (.sl 138), .d (.sl 248), .d (.sl 3), .d (.sl 3), .d si])) x9=t1(.one (.c (.ptr 1 0))) x10=t2(.one (.c (.kb false))) x11=t3(ri) x12=t10(rb) x13=t4(.one (.c (.ptr 4 0))) x14=t43(rb) x15=t5(ri) x16=box1[.d si, .d (.sl 122), .d (.sl 122), .d (.sl 176), .d (.sl 138), .d (.sl 248), .d (.sl 3), .d (.sl 3), .d si] x25=box4[.d si, .d (.sl 132)] -/
theorem s_l13HeldsOkR2 (N : Nat) (p : List D) (x0 x1 x2 x3 x4 x5 x6 x7 x8 x9 x10 x11 x12 x13 x14 x15 x16 x17 x18 x19 x20 x21 x22 x23 x24 x25 x26 : D) : (s_l13HeldsOkL2 N p) [x0, x1, x2, x3, x4, x5, x6, x7, x8, x9, x10, x11, x12, x13, x14, x15, x16, x17, x18, x19, x20, x21, x22, x23, x24, x25, x26] =
  bif ltI x15.int (x26.rows.length : Int) then nd (inRange x15.int x26.rows.length) (bif !(holds x20 x25 [(gd (x26.rows.getD x15.int.toNat []) 0), .i (w64 ((gd (x26.rows.getD x15.int.toNat []) 0).int + 1))] (.i 2)) then ob false
  else nx [x0, x1, x2, x3, x4, x5, x6, x7, x8, x9, x10, x11, x12, x13, x14, .i (w64 (x15.int + 1)), x16, x17, x18, x19, x20, x21, x22, x23, x24, x25, x26])
  else ex 2 [x0, x1, x2, x3, x4, x5, x6, x7, x8, x9, x10, x11, x12, x13, x14, x15, x16, x17, x18, x19, x20, x21, x22, x23, x24, x25, x26] := by kernel_rfl
theorem s_l13HeldsOk_ev (N : Nat) (p : List D) : evFn Tryz.prog s_l13HeldsOkT N s_l13HeldsOkK Tryz.f137 rb [⟨ag rIShard, p⟩] = some (bo,
  (let o0 := iter (s_l13HeldsOkL0 N p) N [gd p 0, gd p 1, gd p 2, gd p 3, gd p 4, gd p 5, gd p 6, gd p 7, gd p 8, .i 0, .i 0, .i 0, gd p 0, gd p 1, gd p 2, gd p 3, gd p 4, gd p 5, gd p 6, gd p 7, gd p 8]
   nd o0.isSome (bif o0.code == 1 then some (1, o0.pay)
   else nd (o0.code == 2) (ob true)))) := by kernel_rfl
def heldRest (p : List D) (k : Nat) : Bool := writesOk (gd ((gd p 5).rows.getD k []) 1) && ((List.range (gd ((gd p 5).rows.getD k []) 1).rows.length).all (fun j => holds (gd p 4) (gd ((gd p 5).rows.getD k []) 0) (oneAt ((gd ((gd p 5).rows.getD k []) 1).rows.getD j [])) (.i 2)) && (!hasInt (gd p 6) (gd ((gd p 5).rows.getD k []) 0).int && !hasInt (gd p 7) (gd ((gd p 5).rows.getD k []) 0).int))
def heldAtS (p : List D) : Nat → Bool
  | 0 => inB (gd ((gd p 5).rows.getD 0 []) 0).int 1 60 && heldRest p 0
  | k + 1 => inB (gd ((gd p 5).rows.getD (k + 1) []) 0).int 1 60 && (!leI (gd ((gd p 5).rows.getD (k + 1) []) 0).int (gd ((gd p 5).rows.getD k []) 0).int && heldRest p (k + 1))
def heldsOkS (p : List D) : Bool := (List.range (gd p 5).rows.length).all (heldAtS p)
theorem writes_len {z : D} (h : writesOk z = true) : z.rows.length ≤ 60 := by
  simp only [writesOk, Bool.and_eq_true, decide_eq_true_eq] at h
  omega
theorem heldsU (p : List D) (N : Nat) (hN : 61 ≤ N) (x12 x14 : D) (k : Nat) (hwo : writesOk (gd ((gd p 5).rows.getD k []) 1) = true) :
    iter (s_l13HeldsOkL2 N p) N [gd p 0, gd p 1, gd p 2, gd p 3, gd p 4, gd p 5, gd p 6, gd p 7, gd p 8, .i 0, .i 0, .i (k : Int), x12, .i 0, x14, .i 0, gd p 0, gd p 1, gd p 2, gd p 3, gd p 4, gd p 5, gd p 6, gd p 7, gd p 8, gd ((gd p 5).rows.getD k []) 0, gd ((gd p 5).rows.getD k []) 1] =
    some (bif (List.range (gd ((gd p 5).rows.getD k []) 1).rows.length).all (fun j => holds (gd p 4) (gd ((gd p 5).rows.getD k []) 0) (oneAt ((gd ((gd p 5).rows.getD k []) 1).rows.getD j [])) (.i 2)) then (4, [gd p 0, gd p 1, gd p 2, gd p 3, gd p 4, gd p 5, gd p 6, gd p 7, gd p 8, .i 0, .i 0, .i (k : Int), x12, .i 0, x14, .i ((gd ((gd p 5).rows.getD k []) 1).rows.length : Int), gd p 0, gd p 1, gd p 2, gd p 3, gd p 4, gd p 5, gd p 6, gd p 7, gd p 8, gd ((gd p 5).rows.getD k []) 0, gd ((gd p 5).rows.getD k []) 1]) else (1, [.b false])) := by
  have hlw := writes_len hwo
  have e := for_loop (L := s_l13HeldsOkL2 N p) (fun j => [gd p 0, gd p 1, gd p 2, gd p 3, gd p 4, gd p 5, gd p 6, gd p 7, gd p 8, .i 0, .i 0, .i (k : Int), x12, .i 0, x14, .i (j : Int), gd p 0, gd p 1, gd p 2, gd p 3, gd p 4, gd p 5, gd p 6, gd p 7, gd p 8, gd ((gd p 5).rows.getD k []) 0, gd ((gd p 5).rows.getD k []) 1]) (gd ((gd p 5).rows.getD k []) 1).rows.length (fun j => holds (gd p 4) (gd ((gd p 5).rows.getD k []) 0) (oneAt ((gd ((gd p 5).rows.getD k []) 1).rows.getD j [])) (.i 2)) [.b false] 2 (fun j hj => ?_) ?_ (N := N) (by omega)
  · simp only [Int.natCast_zero] at e
    exact e
  · show s_l13HeldsOkL2 N p [_, _, _, _, _, _, _, _, _, _, _, _, _, _, _, .i (j : Int), _, _, _, _, _, _, _, _, _, _, _] = _
    rw [s_l13HeldsOkR2]
    simp only [int_i, c_lt hj, nd_ix hj, w64_succ hj (show (gd ((gd p 5).rows.getD k []) 1).rows.length ≤ 9223372036854775807 from by omega), Int.toNat_natCast]
    rw [show holds (gd p 4) (gd ((gd p 5).rows.getD k []) 0) [gd ((gd ((gd p 5).rows.getD k []) 1).rows.getD j []) 0, .i (w64 ((gd ((gd ((gd p 5).rows.getD k []) 1).rows.getD j []) 0).int + 1))] (.i 2) = holds (gd p 4) (gd ((gd p 5).rows.getD k []) 0) (oneAt ((gd ((gd p 5).rows.getD k []) 1).rows.getD j [])) (.i 2) from rfl]
    cases holds (gd p 4) (gd ((gd p 5).rows.getD k []) 0) (oneAt ((gd ((gd p 5).rows.getD k []) 1).rows.getD j [])) (.i 2) <;> rfl
  · show s_l13HeldsOkL2 N p [_, _, _, _, _, _, _, _, _, _, _, _, _, _, _, .i ((gd ((gd p 5).rows.getD k []) 1).rows.length : Int), _, _, _, _, _, _, _, _, _, _, _] = _
    rw [s_l13HeldsOkR2]
    simp only [int_i, c_nlt]
def s_l13HeldsOkE : Ent := (137, e1 (ag rIShard) fun p => (⟨rb, [.b (heldsOkS p)]⟩, true))
theorem s_l13HeldsOk_ok : EntOk Tryz.prog s_l13HeldsOkE := e1_ok fun p h => evFn_sound (N := (gd p 5).rows.length + 61) (ks := s_l13HeldsOkK) (key := bo) s_l13HeldsOkT_ok (enters Tryz.func137 (by kernel_rfl) (by kernel_rfl)) Tryz.func137 fun hw => by
  rw [s_l13HeldsOk_ev]
  have hl := wt_at (hw ⟨ag rIShard, p⟩ (by simp)) (j := 5) rfl
  have e := for_loop (L := s_l13HeldsOkL0 ((gd p 5).rows.length + 61) p) (fun k => [gd p 0, gd p 1, gd p 2, gd p 3, gd p 4, gd p 5, gd p 6, gd p 7, gd p 8, .i 0, .i 0, .i (k : Int), gd p 0, gd p 1, gd p 2, gd p 3, gd p 4, gd p 5, gd p 6, gd p 7, gd p 8]) (gd p 5).rows.length (heldAtS p) [.b false] 0 (fun k hk => ?_) ?_ (N := (gd p 5).rows.length + 61) (by omega)
  · simp only [Int.natCast_zero] at e
    rw [e]
    unfold heldsOkS
    cases (List.range (gd p 5).rows.length).all (heldAtS p) <;> rfl
  · cases k with
    | zero =>
      show s_l13HeldsOkL0 _ p [_, _, _, _, _, _, _, _, _, _, _, .i ((0 : Nat) : Int), _, _, _, _, _, _, _, _, _] = _
      rw [s_l13HeldsOkR0]
      simp only [int_i, ltI_nat hk, cond_true, nd_ix hk, Int.toNat_natCast, ltI_00, cond_false, heldAtS, heldRest]
      cases inB (gd ((gd p 5).rows.getD 0 []) 0).int 1 60 <;> try rfl
      cases hwo : writesOk (gd ((gd p 5).rows.getD 0 []) 1) <;> try rfl
      simp only [Bool.not_true, cond_false, heldsU p _ (show 61 ≤ (gd p 5).rows.length + 61 from by omega) _ _ 0 hwo]
      cases (List.range (gd ((gd p 5).rows.getD 0 []) 1).rows.length).all (fun j => holds (gd p 4) (gd ((gd p 5).rows.getD 0 []) 0) (oneAt ((gd ((gd p 5).rows.getD 0 []) 1).rows.getD j [])) (.i 2)) <;> try rfl
      simp only [nd, cond_true, cond_false, Option.isSome_some, Out.code, Out.pay, Option.getD_some, gd_cons_zero, gd_cons_succ, Nat.reduceBEq, Nat.reduceAdd, int_i, bool_b, str_s, rows_l, Bool.not_true, Bool.not_false, beq_self_eq_true, w64_succ hk hl]
      cases hasInt (gd p 6) (gd ((gd p 5).rows.getD 0 []) 0).int <;> cases hasInt (gd p 7) (gd ((gd p 5).rows.getD 0 []) 0).int <;> rfl
    | succ k =>
      show s_l13HeldsOkL0 _ p [_, _, _, _, _, _, _, _, _, _, _, .i ((k + 1 : Nat) : Int), _, _, _, _, _, _, _, _, _] = _
      rw [s_l13HeldsOkR0]
      simp only [int_i, ltI_nat hk, cond_true, nd_ix hk, Int.toNat_natCast, ltI_0s, w64_pred (show k + 1 ≤ 9223372036854775807 from by omega), nd_ix (Nat.lt_of_succ_lt hk), heldAtS, heldRest]
      cases inB (gd ((gd p 5).rows.getD (k + 1) []) 0).int 1 60 <;> try rfl
      cases leI (gd ((gd p 5).rows.getD (k + 1) []) 0).int (gd ((gd p 5).rows.getD k []) 0).int <;> try rfl
      cases hwo : writesOk (gd ((gd p 5).rows.getD (k + 1) []) 1) <;> try rfl
      simp only [Bool.not_true, cond_false, heldsU p _ (show 61 ≤ (gd p 5).rows.length + 61 from by omega) _ _ (k + 1) hwo]
      cases (List.range (gd ((gd p 5).rows.getD (k + 1) []) 1).rows.length).all (fun j => holds (gd p 4) (gd ((gd p 5).rows.getD (k + 1) []) 0) (oneAt ((gd ((gd p 5).rows.getD (k + 1) []) 1).rows.getD j [])) (.i 2)) <;> try rfl
      simp only [nd, cond_true, cond_false, Option.isSome_some, Out.code, Out.pay, Option.getD_some, gd_cons_zero, gd_cons_succ, Nat.reduceBEq, Nat.reduceAdd, int_i, bool_b, str_s, rows_l, Bool.not_true, Bool.not_false, beq_self_eq_true, w64_succ hk hl]
      cases hasInt (gd p 6) (gd ((gd p 5).rows.getD (k + 1) []) 0).int <;> cases hasInt (gd p 7) (gd ((gd p 5).rows.getD (k + 1) []) 0).int <;> rfl
  · show s_l13HeldsOkL0 _ p [_, _, _, _, _, _, _, _, _, _, _, .i ((gd p 5).rows.length : Int), _, _, _, _, _, _, _, _, _] = _
    rw [s_l13HeldsOkR0]
    simp only [int_i, c_nlt]

end Go.Proofs.YtchceahcaaibcaaGreat
