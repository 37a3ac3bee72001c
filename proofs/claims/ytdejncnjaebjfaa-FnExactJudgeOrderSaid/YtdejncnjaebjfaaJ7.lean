/-
  The judge: shares, the reference's: what they come to.
-/
import Derived.Test.YtdejncnjaebjfaaJ6
namespace Go.Proofs.Ytdejncnjaebjfaa
set_option maxRecDepth 4096
theorem reads_all (z : D) : (!anyS (fun r => !rangeOk (sub r 0 2)) z) = (List.range z.rows.length).all fun m => rangeOk (sub (z.rows.getD m []) 0 2) := by
  unfold anyS
  rw [List.all_eq_not_any_not]
theorem ssU_ok (p : List D) (N : Nat) (z x2 y8 : D) (k : Int) (row : List D) (hN : 17 ≤ N) : ssU z x2 y8 k row (ssM N p) N (fun q => nx [gd q 0, gd q 1, gd q 2, .i (w64 ((gd q 3).int + 1))]) =
    bif readsOk (gd row 1) && (writesOk (gd row 2) && inB (gd row 3).int 0 2) then nx [z, x2, y8, .i (w64 (k + 1))] else ob false := by
  unfold ssU readsOk
  by_cases h16 : ((gd row 1).rows.length : Int) ≤ 16
  · rw [decide_eq_false (show ¬ ((gd row 1).rows.length : Int) > 16 from by omega), decide_eq_true h16, reads_all]
    simp only [cond_false, Bool.true_and]
    cases writesOk (gd row 2)
    · simp only [Bool.not_false, cond_true, Bool.false_and, Bool.and_false, cond_false]
    · cases hv : inB (gd row 3).int 0 2
      · simp only [Bool.not_false, Bool.not_true, cond_true, cond_false, Bool.true_and, Bool.and_false]
      · have e := all_loop (L := ssM N p) (fun m => [z, x2, y8, .i k, .b (decide (k < z.rows.length)), D0, .b (!true), .i (m : Int), gd row 0, gd row 1, gd row 2, gd row 3]) (gd row 1).rows.length (fun m => rangeOk (sub ((gd row 1).rows.getD m []) 0 2)) [.b false] [z, x2, y8, .i k, .b (decide (k < z.rows.length)), D0, .b (!true), .i (gd row 1).rows.length, gd row 0, gd row 1, gd row 2, gd row 3] 2 (fun m hm => ?_) ?_ (N := N) (by omega)
        · simp only [Int.natCast_zero] at e
          simp only [Bool.not_true, cond_false, Bool.and_true, Bool.true_and] at e ⊢
          rw [e]
          cases (List.range (gd row 1).rows.length).all fun m => rangeOk (sub ((gd row 1).rows.getD m []) 0 2) <;> rfl
        · show ssM N p [z, x2, y8, .i k, _, D0, _, .i (m : Int), _, _, _, _] = _
          rw [ss_rd2, decide_eq_true (show (m : Int) < (gd row 1).rows.length from by omega), inRange_nat hm, w64_id (by omega) (by omega), Int.toNat_natCast]
          cases rangeOk (sub ((gd row 1).rows.getD m []) 0 2) <;> rfl
        · show ssM N p [z, x2, y8, .i k, _, D0, _, .i ((gd row 1).rows.length : Int), _, _, _, _] = _
          rw [ss_rd2, decide_eq_false (show ¬ ((gd row 1).rows.length : Int) < (gd row 1).rows.length from by omega)]
          rfl
  · rw [decide_eq_true (show ((gd row 1).rows.length : Int) > 16 from by omega), decide_eq_false h16]
    simp only [cond_true, Bool.false_and, cond_false]
def s_SharesOkE : Ent := (105, e1 (sd (.sl 88)) fun p => (⟨rb, [.b (sharesOk (gd p 0))]⟩, true))
theorem s_SharesOk_ok : EntOk Try.prog s_SharesOkE := e1_ok fun p _ => evFn_sound (N := (gd p 0).rows.length + 17) (ks := [0, 2, 3, 4, 5, 8, 12, 55, 60, 69]) (key := bo) tbSS_ok (enters Try.func105 (by kernel_rfl) (by kernel_rfl)) Try.func105 fun hw => by
  have hl := wt_sl (hw ⟨sd (.sl 88), p⟩ (by simp))
  rw [ss_ev]
  by_cases h4 : ((gd p 0).rows.length : Int) ≤ 4
  · have e := all_loop (L := ssL ((gd p 0).rows.length + 17) p) (fun k => [gd p 0, D0, .b (decide (((gd p 0).rows.length : Int) > 4)), .i (k : Int)]) (gd p 0).rows.length (shareAt (gd p 0)) [.b false] [gd p 0, D0, .b (decide (((gd p 0).rows.length : Int) > 4)), .i (gd p 0).rows.length] 0 (fun k hk => ?_) ?_ (N := (gd p 0).rows.length + 17) (by omega)
    · simp only [Int.natCast_zero] at e
      rw [e, show decide (((gd p 0).rows.length : Int) > 4) = false from decide_eq_false (by omega)]
      simp only [sharesOk, h4, decide_true, Bool.true_and]
      cases (List.range (gd p 0).rows.length).all (shareAt (gd p 0)) <;> rfl
    · show ssL _ p [gd p 0, D0, _, .i (k : Int)] = _
      rw [ss_rd, decide_eq_true (show (k : Int) < (gd p 0).rows.length from by omega), inRange_nat hk]
      simp only [cond_true, nd, Int.toNat_natCast, shareAt, ssU_ok p _ _ _ _ _ _ (show 17 ≤ (gd p 0).rows.length + 17 from by omega)]
      cases inB (gd ((gd p 0).rows.getD k []) 0).int 0 3 <;> simp only [Bool.not_true, Bool.not_false, cond_true, cond_false, Bool.false_and, Bool.true_and] <;> first | rfl | skip
      rw [w64_id (x := (k : Int) + 1) (by omega) (by omega)]
      by_cases h0 : k = 0
      · subst h0
        cases readsOk (gd ((gd p 0).rows.getD 0 []) 1) && (writesOk (gd ((gd p 0).rows.getD 0 []) 2) && inB (gd ((gd p 0).rows.getD 0 []) 3).int 0 2) <;> rfl
      · rw [decide_eq_true (show (k : Int) > 0 from by omega), pre_nat h0 (by omega), inRange_nat (show k - 1 < (gd p 0).rows.length from by omega), show (k == 0) = false from by simpa using h0]
        simp only [cond_true, Int.toNat_natCast, Bool.false_or]
        cases decide ((gd ((gd p 0).rows.getD (k - 1) []) 0).int ≥ (gd ((gd p 0).rows.getD k []) 0).int) <;> cases readsOk (gd ((gd p 0).rows.getD k []) 1) && (writesOk (gd ((gd p 0).rows.getD k []) 2) && inB (gd ((gd p 0).rows.getD k []) 3).int 0 2) <;> rfl
    · show ssL _ p [gd p 0, D0, _, .i ((gd p 0).rows.length : Int)] = _
      rw [ss_rd, decide_eq_false (show ¬ ((gd p 0).rows.length : Int) < (gd p 0).rows.length from by omega)]
      rfl
  · rw [decide_eq_true (show ((gd p 0).rows.length : Int) > 4 from by omega)]
    simp only [sharesOk, h4, decide_false, Bool.false_and]
    rfl
end Go.Proofs.Ytdejncnjaebjfaa
