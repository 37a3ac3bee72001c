/-
  The town: slices.Concat of numbers. Printed by sym.py.
-/
import Derived.Test.YtchceahcaaibcaaGreatSl
namespace Go.Proofs.YtchceahcaaibcaaGreat
set_option linter.unusedSimpArgs false
set_option linter.unusedVariables false
set_option maxRecDepth 4096
set_option maxHeartbeats 1000000
/-! slices.Concat[[]int,int] -/
abbrev i_ConcatT : FuncId → List T → Option (T × Bool) := find [i_growE]
theorem i_ConcatT_ok : CallOk Tryz.prog i_ConcatT := find_ok (List.forall_mem_cons.2 ⟨i_grow_ok, List.forall_mem_nil _⟩)
abbrev i_ConcatK : List Nat := [0, 2, 3, 5, 6, 8, 9, 10, 11, 12, 20, 25, 26, 27, 28]
noncomputable def i_ConcatL0 (N : Nat) (p : List D) : List D → Out := loopOf Tryz.prog i_ConcatT N i_ConcatK Tryz.f170 (.one (.c (.own (0, 0) true 3))) [⟨sd (.sl 30), p⟩] 0
noncomputable def i_ConcatL2 (N : Nat) (p : List D) : List D → Out := loopOf Tryz.prog i_ConcatT N i_ConcatK Tryz.f170 (.one (.c (.own (0, 0) true 3))) [⟨sd (.sl 30), p⟩] 2
/- x0=t0(sd (.sl 30)) x1=t2(.one (.c (.own (2, 0) true 3))) x2=t3(ri) x3=t9(sd (.sl 30)) x4=t10(ri) x5=t11(ri) -/
theorem i_ConcatR0 (N : Nat) (p : List D) (x0 x1 x2 x3 x4 x5 : D) : (i_ConcatL0 N p) [x0, x1, x2, x3, x4, x5] =
  bif ltI x5.int x4.int then nd (inRange x5.int x3.rows.length) (bif ltI (w64 (x2.int + ((gd (x3.rows.getD x5.int.toNat []) 0).rows.length : Int))) 0 then nd false (nd false (nx [x0, x1, .i (w64 (x2.int + ((gd (x3.rows.getD x5.int.toNat []) 0).rows.length : Int))), x3, x4, .i (w64 (x5.int + 1))]))
  else nx [x0, x1, .i (w64 (x2.int + ((gd (x3.rows.getD x5.int.toNat []) 0).rows.length : Int))), x3, x4, .i (w64 (x5.int + 1))])
  else ex 0 [x0, x1, x2, x3, x4, x5] := by kernel_rfl
/- x0=t0(sd (.sl 30)) x1=t2(.one (.c (.own (2, 0) true 3))) x2=t3(ri) x3=t9(sd (.sl 30)) x4=t10(ri) x5=t11(ri) x6=t6(.one (.c (.own (24, 0) true 3))) x7=t25(sd (.sl 30)) x8=t26(ri) x9=t27(ri) -/
theorem i_ConcatR2 (N : Nat) (p : List D) (x0 x1 x2 x3 x4 x5 x6 x7 x8 x9 : D) : (i_ConcatL2 N p) [x0, x1, x2, x3, x4, x5, x6, x7, x8, x9] =
  bif ltI x9.int x8.int then nd (inRange x9.int x7.rows.length) (nd (lenOk (x6.rows ++ (gd (x7.rows.getD x9.int.toNat []) 0).rows) && true) (nx [x0, x1, x2, x3, x4, x5, .l (x6.rows ++ (gd (x7.rows.getD x9.int.toNat []) 0).rows), x7, x8, .i (w64 (x9.int + 1))]))
  else ex 2 [x0, x1, x2, x3, x4, x5, x6, x7, x8, x9] := by kernel_rfl
theorem i_Concat_ev (N : Nat) (p : List D) : evFn Tryz.prog i_ConcatT N i_ConcatK Tryz.f170 (.one (.c (.own (0, 0) true 3))) [⟨sd (.sl 30), p⟩] = some (bo,
  (let o0 := iter (i_ConcatL0 N p) N [gd p 0, .l [], .i 0, gd p 0, .i ((gd p 0).rows.length : Int), .i 0]
   nd o0.isSome (nd (o0.code == 2) (nd (leI 0 (gd o0.pay 2).int && leI (gd o0.pay 2).int 1000000000) ((let o2 := iter (i_ConcatL2 N p) N [gd o0.pay 0, gd o0.pay 1, gd o0.pay 2, gd o0.pay 3, gd o0.pay 4, gd o0.pay 5, .l [], gd o0.pay 0, .i ((gd o0.pay 0).rows.length : Int), .i 0]
    nd o2.isSome (nd (o2.code == 4) (some (1, [gd o2.pay 6]))))))))) := by kernel_rfl
def concD (x : D) : D := .l ((gd (x.rows.getD 0 []) 0).rows ++ (gd (x.rows.getD 1 []) 0).rows)
def concOk (x : D) : Bool := x.rows.length == 2 && (leI ((gd (x.rows.getD 0 []) 0).rows.length : Int) 100000000 && leI ((gd (x.rows.getD 1 []) 0).rows.length : Int) 100000000)
theorem iter_nx {L : List D → Out} {n : Nat} {p q : List D} (h : L p = nx q) : iter L (n + 1) p = iter L n q := by
  show (match L p with | some (0, p') => iter L n p' | o => o) = _
  rw [h]; rfl
theorem iter_ex {L : List D → Out} {n c : Nat} {p q : List D} (h : L p = some (c + 1, q)) : iter L (n + 1) p = some (c + 1, q) := by
  show (match L p with | some (0, p') => iter L n p' | o => o) = _
  rw [h]; rfl
def i_ConcatE : Ent := (170, e1 (sd (.sl 30)) fun p => (⟨.one (.c (.own (0, 0) true 3)), [concD (gd p 0)]⟩, concOk (gd p 0)))
theorem i_Concat_ok : EntOk Tryz.prog i_ConcatE := e1_ok fun p h => evFn_sound (N := 3) (ks := i_ConcatK) (key := bo) i_ConcatT_ok (enters Tryz.func170 (by kernel_rfl) (by kernel_rfl)) Tryz.func170 fun hw => by
  rw [i_Concat_ev]
  have h : concOk (gd p 0) = true := h
  unfold concOk at h
  simp only [Bool.and_eq_true, leI, decide_eq_true_eq, beq_iff_eq] at h
  obtain ⟨hl, h0, h1⟩ := h
  have hlen : ∀ k, k < (gd p 0).rows.length → ((gd ((gd p 0).rows.getD k []) 0).rows.length : Int) ≤ 100000000 := fun k hk => by
    have : k = 0 ∨ k = 1 := by omega
    rcases this with rfl | rfl <;> assumption
  have s0 : ∀ (k : Nat) (s : Int), k < (gd p 0).rows.length → 0 ≤ s → s ≤ 100000000 → i_ConcatL0 3 p [gd p 0, .l [], .i s, gd p 0, .i ((gd p 0).rows.length : Int), .i (k : Int)] = nx [gd p 0, .l [], .i (s + ((gd ((gd p 0).rows.getD k []) 0).rows.length : Int)), gd p 0, .i ((gd p 0).rows.length : Int), .i ((k + 1 : Nat) : Int)] := fun k s hk hs1 hs2 => by
    have := hlen k hk
    rw [i_ConcatR0]
    simp only [int_i, c_lt hk, nd_ix hk, Int.toNat_natCast]
    rw [w64_id (by omega) (by omega), ltI_f (by omega), cond_false, w64_succ hk (by omega)]
  have s2 : ∀ (k : Nat) (x2 x3 x4 x5 : D) (rs : List (List D)), k < (gd p 0).rows.length → rs.length ≤ 100000000 → i_ConcatL2 3 p [gd p 0, .l [], x2, x3, x4, x5, .l rs, gd p 0, .i ((gd p 0).rows.length : Int), .i (k : Int)] = nx [gd p 0, .l [], x2, x3, x4, x5, .l (rs ++ (gd ((gd p 0).rows.getD k []) 0).rows), gd p 0, .i ((gd p 0).rows.length : Int), .i ((k + 1 : Nat) : Int)] := fun k x2 x3 x4 x5 rs hk hrs => by
    have := hlen k hk
    rw [i_ConcatR2]
    simp only [int_i, rows_l, c_lt hk, nd_ix hk, Int.toNat_natCast]
    rw [lenOk_t (by rw [List.length_append]; omega), w64_succ hk (by omega)]
    rfl
  have e0 : iter (i_ConcatL0 3 p) 3 [gd p 0, .l [], .i 0, gd p 0, .i ((gd p 0).rows.length : Int), .i 0] = some (2, [gd p 0, .l [], .i (0 + ((gd ((gd p 0).rows.getD 0 []) 0).rows.length : Int) + ((gd ((gd p 0).rows.getD 1 []) 0).rows.length : Int)), gd p 0, .i ((gd p 0).rows.length : Int), .i ((gd p 0).rows.length : Int)]) := by
    refine Eq.trans (iter_nx (n := 2) (s0 0 0 (by omega) (by omega) (by omega))) (Eq.trans (iter_nx (n := 1) (s0 1 _ (by omega) (by omega) (by omega))) ?_)
    have e : ((1 + 1 : Nat) : Int) = ((gd p 0).rows.length : Int) := by omega
    rw [e]
    refine iter_ex (c := 1) ?_
    rw [i_ConcatR0]
    simp only [int_i, c_nlt]
  have e2 : ∀ (x2 x3 x4 x5 : D), iter (i_ConcatL2 3 p) 3 [gd p 0, .l [], x2, x3, x4, x5, .l [], gd p 0, .i ((gd p 0).rows.length : Int), .i 0] = some (4, [gd p 0, .l [], x2, x3, x4, x5, .l ([] ++ (gd ((gd p 0).rows.getD 0 []) 0).rows ++ (gd ((gd p 0).rows.getD 1 []) 0).rows), gd p 0, .i ((gd p 0).rows.length : Int), .i ((gd p 0).rows.length : Int)]) := fun x2 x3 x4 x5 => by
    refine Eq.trans (iter_nx (n := 2) (s2 0 x2 x3 x4 x5 [] (by omega) (by simp))) (Eq.trans (iter_nx (n := 1) (s2 1 x2 x3 x4 x5 _ (by omega) (by have := hlen 0 (by omega); rw [List.nil_append]; omega))) ?_)
    have e : ((1 + 1 : Nat) : Int) = ((gd p 0).rows.length : Int) := by omega
    rw [e]
    refine iter_ex (c := 3) ?_
    rw [i_ConcatR2]
    simp only [int_i, c_nlt]
  refine congrArg (fun x => some (bo, x)) ?_
  simp only [e0, nd, cond_true, cond_false, Option.isSome_some, Out.code, Out.pay, Option.getD_some, gd_cons_zero, gd_cons_succ, Nat.reduceBEq, Nat.reduceAdd, int_i, bool_b, str_s, rows_l, Bool.not_true, Bool.not_false, beq_self_eq_true]
  rw [leI_t (by omega), leI_t (by omega)]
  simp only [e2, nd, cond_true, cond_false, Option.isSome_some, Out.code, Out.pay, Option.getD_some, gd_cons_zero, gd_cons_succ, Nat.reduceBEq, Nat.reduceAdd, int_i, bool_b, str_s, rows_l, Bool.not_true, Bool.not_false, beq_self_eq_true, Bool.and_self]
  rw [List.nil_append]
  rfl

end Go.Proofs.YtchceahcaaibcaaGreat
