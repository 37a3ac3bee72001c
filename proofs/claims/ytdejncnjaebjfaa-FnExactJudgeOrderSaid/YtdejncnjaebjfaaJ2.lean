/-
  The judge: writes.
-/
import Derived.Test.YtdejncnjaebjfaaJ1
namespace Go.Proofs.Ytdejncnjaebjfaa
set_option maxRecDepth 4096
/-- write k of a list is right behind the one ahead of it -/
def writeAt (z : D) (k : Nat) : Bool := inB (gd (z.rows.getD k []) 0).int 0 999 && (inB (gd (z.rows.getD k []) 1).int (-1) 1000000000 && (k == 0 || !decide ((gd (z.rows.getD (k - 1) []) 0).int ≥ (gd (z.rows.getD k []) 0).int)))
def writesOk (z : D) : Bool := decide ((z.rows.length : Int) ≤ 60) && (List.range z.rows.length).all (writeAt z)
theorem pre_nat {k : Nat} (h : k ≠ 0) (h' : k ≤ 9223372036854775807) : w64 ((k : Int) - 1) = ((k - 1 : Nat) : Int) := by
  rw [w64_id (by omega) (by omega)]; omega
noncomputable def swL (N : Nat) (p : List D) : List D → Out := loopOf Try.prog (find [s_l1InE, s_l10KeyE]) N [0, 2, 3, 6, 10, 46] Try.f122 rb [⟨sd (.sl 118), p⟩] 0
theorem sw_rd (p : List D) (N : Nat) (z x2 y : D) (k : Int) : swL N p [z, x2, y, .i k] =
  bif decide (k < z.rows.length) then nd (inRange k z.rows.length) (bif !(inB (gd (z.rows.getD k.toNat []) 0).int 0 999) then ob false else nd (inRange k z.rows.length) (bif !(inB (gd (z.rows.getD k.toNat []) 1).int (-1) 1000000000) then ob false else
    bif decide (k > 0) then nd (inRange (w64 (k - 1)) z.rows.length) (nd (inRange k z.rows.length) (bif decide ((gd (z.rows.getD (w64 (k - 1)).toNat []) 0).int ≥ (gd (z.rows.getD k.toNat []) 0).int) then ob false else nx [z, x2, y, .i (w64 (k + 1))])) else nx [z, x2, y, .i (w64 (k + 1))])) else ex 0 [z, x2, y, .i k] := by kernel_rfl
theorem sw_ev (p : List D) (N : Nat) : evFn Try.prog (find [s_l1InE, s_l10KeyE]) N [0, 2, 3, 6, 10, 46] Try.f122 rb [⟨sd (.sl 118), p⟩] = some (bo, bif decide (((gd p 0).rows.length : Int) > 60) then ob false else
   (let o := iter (swL N p) N [gd p 0, D0, .b (decide (((gd p 0).rows.length : Int) > 60)), .i 0]
    nd o.isSome (bif o.code == 1 then some (1, o.pay) else nd (o.code == 2) (ob true)))) := by kernel_rfl
noncomputable def iwL (N : Nat) (p : List D) : List D → Out := loopOf Try.prog (find [i_isKeyE, i_isAnswerE]) N [0, 2, 3, 4, 5, 6, 7, 8, 36] Try.f124 rb [⟨sd (.sl 118), p⟩] 0
theorem iw_rd (p : List D) (N : Nat) (z x2 z5 : D) (n k : Int) : iwL N p [z, x2, z5, .i n, .i k] =
   bif decide (k < n) then nd (inRange k z5.rows.length)
     (bif !(inB (gd (z5.rows.getD k.toNat []) 0).int 0 999) then ob false else bif !(inB (gd (z5.rows.getD k.toNat []) 1).int (-1) 1000000000) then ob false else
      bif decide (k > 0) then nd (inRange (w64 (k - 1)) z.rows.length) (bif decide ((gd (z.rows.getD (w64 (k - 1)).toNat []) 0).int ≥ (gd (z5.rows.getD k.toNat []) 0).int) then ob false else nx [z, x2, z5, .i n, .i (w64 (k + 1))]) else nx [z, x2, z5, .i n, .i (w64 (k + 1))])
   else ex 0 [z, x2, z5, .i n, .i k] := by kernel_rfl
theorem iw_ev (p : List D) (N : Nat) : evFn Try.prog (find [i_isKeyE, i_isAnswerE]) N [0, 2, 3, 4, 5, 6, 7, 8, 36] Try.f124 rb [⟨sd (.sl 118), p⟩] = some (bo,
   (let o := iter (iwL N p) N [gd p 0, D0, gd p 0, .i (gd p 0).rows.length, .i 0]
    nd o.isSome (bif o.code == 1 then some (1, o.pay) else nd (o.code == 2) (ob (decide (((gd o.pay 0).rows.length : Int) ≤ 60)))))) := by kernel_rfl
def s_WritesOkE : Ent := (122, e1 (sd (.sl 118)) fun p => (⟨rb, [.b (writesOk (gd p 0))]⟩, true))
def i_WritesOkE : Ent := (124, e1 (sd (.sl 118)) fun p => (⟨rb, [.b (writesOk (gd p 0))]⟩, true))
theorem s_WritesOk_ok : EntOk Try.prog s_WritesOkE := e1_ok fun p _ => evFn_sound (N := (gd p 0).rows.length + 1) (ks := [0, 2, 3, 6, 10, 46]) (key := bo) (find_ok (List.forall_mem_cons.2 ⟨s_l1In_ok, List.forall_mem_cons.2 ⟨s_l10Key_ok, List.forall_mem_nil _⟩⟩)) (enters Try.func122 (by kernel_rfl) (by kernel_rfl)) Try.func122 fun hw => by
  have hl := wt_sl (hw ⟨sd (.sl 118), p⟩ (by simp))
  rw [sw_ev]
  by_cases h60 : ((gd p 0).rows.length : Int) ≤ 60
  · have e := all_loop (L := swL ((gd p 0).rows.length + 1) p) (fun k => [gd p 0, D0, .b (decide (((gd p 0).rows.length : Int) > 60)), .i (k : Int)]) (gd p 0).rows.length (writeAt (gd p 0)) [.b false] [gd p 0, D0, .b (decide (((gd p 0).rows.length : Int) > 60)), .i (gd p 0).rows.length] 0 (fun k hk => ?_) ?_ (Nat.lt_succ_self _)
    · simp only [Int.natCast_zero] at e
      rw [e, show decide (((gd p 0).rows.length : Int) > 60) = false from decide_eq_false (by omega)]
      simp only [writesOk, h60, decide_true, Bool.true_and]
      cases (List.range (gd p 0).rows.length).all (writeAt (gd p 0)) <;> rfl
    · show swL _ p [gd p 0, D0, _, .i (k : Int)] = _
      rw [sw_rd, decide_eq_true (show (k : Int) < (gd p 0).rows.length from by omega), inRange_nat hk]
      simp only [cond_true, nd, Int.toNat_natCast, writeAt]
      cases inB (gd ((gd p 0).rows.getD k []) 0).int 0 999 <;> simp only [Bool.not_true, Bool.not_false, cond_true, cond_false, Bool.false_and, Bool.true_and] <;> first | rfl | skip
      cases inB (gd ((gd p 0).rows.getD k []) 1).int (-1) 1000000000 <;> simp only [Bool.not_true, Bool.not_false, cond_true, cond_false, Bool.false_and, Bool.true_and] <;> first | rfl | skip
      rw [w64_id (x := (k : Int) + 1) (by omega) (by omega)]
      by_cases h0 : k = 0
      · subst h0; rfl
      · rw [decide_eq_true (show (k : Int) > 0 from by omega), pre_nat h0 (by omega), inRange_nat (show k - 1 < (gd p 0).rows.length from by omega), show (k == 0) = false from by simpa using h0]
        simp only [cond_true, Int.toNat_natCast, Bool.false_or]
        cases decide ((gd ((gd p 0).rows.getD (k - 1) []) 0).int ≥ (gd ((gd p 0).rows.getD k []) 0).int) <;> rfl
    · show swL _ p [gd p 0, D0, _, .i ((gd p 0).rows.length : Int)] = _
      rw [sw_rd, decide_eq_false (show ¬ ((gd p 0).rows.length : Int) < (gd p 0).rows.length from by omega)]
      rfl
  · rw [decide_eq_true (show ((gd p 0).rows.length : Int) > 60 from by omega)]
    simp only [writesOk, h60, decide_false, Bool.false_and]
    rfl
theorem i_WritesOk_ok : EntOk Try.prog i_WritesOkE := e1_ok fun p _ => evFn_sound (N := (gd p 0).rows.length + 1) (ks := [0, 2, 3, 4, 5, 6, 7, 8, 36]) (key := bo) (find_ok (List.forall_mem_cons.2 ⟨i_isKey_ok, List.forall_mem_cons.2 ⟨i_isAnswer_ok, List.forall_mem_nil _⟩⟩)) (enters Try.func124 (by kernel_rfl) (by kernel_rfl)) Try.func124 fun hw => by
  have hl := wt_sl (hw ⟨sd (.sl 118), p⟩ (by simp))
  have e := all_loop (L := iwL ((gd p 0).rows.length + 1) p) (fun k => [gd p 0, D0, gd p 0, .i (gd p 0).rows.length, .i (k : Int)]) (gd p 0).rows.length (writeAt (gd p 0)) [.b false] [gd p 0, D0, gd p 0, .i (gd p 0).rows.length, .i (gd p 0).rows.length] 0 (fun k hk => ?_) ?_ (Nat.lt_succ_self _)
  · simp only [Int.natCast_zero] at e
    rw [iw_ev, e]
    cases hq : (List.range (gd p 0).rows.length).all (writeAt (gd p 0))
    · simp only [writesOk, hq, Bool.and_false]; rfl
    · simp only [writesOk, hq, Bool.and_true]; rfl
  · show iwL _ p [gd p 0, D0, gd p 0, .i _, .i (k : Int)] = _
    rw [iw_rd, decide_eq_true (show (k : Int) < (gd p 0).rows.length from by omega), inRange_nat hk]
    simp only [cond_true, nd, Int.toNat_natCast, writeAt]
    cases inB (gd ((gd p 0).rows.getD k []) 0).int 0 999 <;> simp only [Bool.not_true, Bool.not_false, cond_true, cond_false, Bool.false_and, Bool.true_and] <;> first | rfl | skip
    cases inB (gd ((gd p 0).rows.getD k []) 1).int (-1) 1000000000 <;> simp only [Bool.not_true, Bool.not_false, cond_true, cond_false, Bool.false_and, Bool.true_and] <;> first | rfl | skip
    rw [w64_id (x := (k : Int) + 1) (by omega) (by omega)]
    by_cases h0 : k = 0
    · subst h0; rfl
    · rw [decide_eq_true (show (k : Int) > 0 from by omega), pre_nat h0 (by omega), inRange_nat (show k - 1 < (gd p 0).rows.length from by omega), show (k == 0) = false from by simpa using h0]
      simp only [cond_true, Int.toNat_natCast, Bool.false_or]
      cases decide ((gd ((gd p 0).rows.getD (k - 1) []) 0).int ≥ (gd ((gd p 0).rows.getD k []) 0).int) <;> rfl
  · show iwL _ p [gd p 0, D0, gd p 0, .i _, .i ((gd p 0).rows.length : Int)] = _
    rw [iw_rd, decide_eq_false (show ¬ ((gd p 0).rows.length : Int) < (gd p 0).rows.length from by omega)]
    rfl
end Go.Proofs.Ytdejncnjaebjfaa
