/-
  The judge: shares.
-/
import Derived.Test.YtdejncnjaebjfaaJ4
namespace Go.Proofs.Ytdejncnjaebjfaa
set_option maxRecDepth 4096
/-- share k of a list is right behind the one ahead of it -/
def shareAt (z : D) (k : Nat) : Bool :=
  inB (gd (z.rows.getD k []) 0).int 0 3 && ((k == 0 || !decide ((gd (z.rows.getD (k - 1) []) 0).int ≥ (gd (z.rows.getD k []) 0).int)) && (readsOk (gd (z.rows.getD k []) 1) && (writesOk (gd (z.rows.getD k []) 2) && inB (gd (z.rows.getD k []) 3).int 0 2)))
def sharesOk (z : D) : Bool := decide ((z.rows.length : Int) ≤ 4) && (List.range z.rows.length).all (shareAt z)
abbrev tbIS : FuncId → List T → Option (T × Bool) := find [i_fromE, i_isGroupE, i_readsOkE, i_WritesOkE]
theorem tbIS_ok : CallOk Try.prog tbIS := find_ok (List.forall_mem_cons.2 ⟨i_from_ok, List.forall_mem_cons.2 ⟨i_isGroup_ok, List.forall_mem_cons.2 ⟨i_readsOk_ok, List.forall_mem_cons.2 ⟨i_WritesOk_ok, List.forall_mem_nil _⟩⟩⟩⟩)
abbrev aSh (p : List D) : List T := [⟨sd (.sl 88), p⟩]
noncomputable def isL (N : Nat) (p : List D) : List D → Out := loopOf Try.prog tbIS N [0, 2, 3, 4, 5, 6, 7, 8, 48] Try.f109 rb (aSh p) 0
def isT (row : List D) (nxt : Out) : Out := bif !readsOk (gd row 1) then ob false else bif !writesOk (gd row 2) then ob false else bif !inB (gd row 3).int 0 2 then ob false else nxt
theorem is_rd (p : List D) (N : Nat) (z x2 z5 : D) (n k : Int) : isL N p [z, x2, z5, .i n, .i k] =
   bif decide (k < n) then nd (inRange k z5.rows.length)
     (bif !(inB (gd (z5.rows.getD k.toNat []) 0).int 0 3) then ob false else
      bif decide (k > 0) then nd (inRange (w64 (k - 1)) z.rows.length) (bif decide ((gd (z.rows.getD (w64 (k - 1)).toNat []) 0).int ≥ (gd (z5.rows.getD k.toNat []) 0).int) then ob false else isT (z5.rows.getD k.toNat []) (nx [z, x2, z5, .i n, .i (w64 (k + 1))])) else isT (z5.rows.getD k.toNat []) (nx [z, x2, z5, .i n, .i (w64 (k + 1))]))
   else ex 0 [z, x2, z5, .i n, .i k] := by kernel_rfl
theorem is_ev (p : List D) (N : Nat) : evFn Try.prog tbIS N [0, 2, 3, 4, 5, 6, 7, 8, 48] Try.f109 rb (aSh p) = some (bo,
   (let o := iter (isL N p) N [gd p 0, D0, gd p 0, .i (gd p 0).rows.length, .i 0]
    nd o.isSome (bif o.code == 1 then some (1, o.pay) else nd (o.code == 2) (ob (decide (((gd o.pay 0).rows.length : Int) ≤ 4)))))) := by kernel_rfl
def i_SharesOkE : Ent := (109, e1 (sd (.sl 88)) fun p => (⟨rb, [.b (sharesOk (gd p 0))]⟩, true))
theorem isT_ok (row : List D) (nxt : Out) : isT row nxt = bif readsOk (gd row 1) && (writesOk (gd row 2) && inB (gd row 3).int 0 2) then nxt else ob false := by
  unfold isT
  cases readsOk (gd row 1) <;> cases writesOk (gd row 2) <;> cases inB (gd row 3).int 0 2 <;> rfl
theorem i_SharesOk_ok : EntOk Try.prog i_SharesOkE := e1_ok fun p _ => evFn_sound (N := (gd p 0).rows.length + 1) (ks := [0, 2, 3, 4, 5, 6, 7, 8, 48]) (key := bo) tbIS_ok (enters Try.func109 (by kernel_rfl) (by kernel_rfl)) Try.func109 fun hw => by
  have hl := wt_sl (hw ⟨sd (.sl 88), p⟩ (by simp))
  have e := all_loop (L := isL ((gd p 0).rows.length + 1) p) (fun k => [gd p 0, D0, gd p 0, .i (gd p 0).rows.length, .i (k : Int)]) (gd p 0).rows.length (shareAt (gd p 0)) [.b false] [gd p 0, D0, gd p 0, .i (gd p 0).rows.length, .i (gd p 0).rows.length] 0 (fun k hk => ?_) ?_ (Nat.lt_succ_self _)
  · simp only [Int.natCast_zero] at e
    rw [is_ev, e]
    cases hq : (List.range (gd p 0).rows.length).all (shareAt (gd p 0))
    · simp only [sharesOk, hq, Bool.and_false]; rfl
    · simp only [sharesOk, hq, Bool.and_true]; rfl
  · show isL _ p [gd p 0, D0, gd p 0, .i _, .i (k : Int)] = _
    rw [is_rd, decide_eq_true (show (k : Int) < (gd p 0).rows.length from by omega), inRange_nat hk]
    simp only [cond_true, nd, Int.toNat_natCast, shareAt, isT_ok]
    cases inB (gd ((gd p 0).rows.getD k []) 0).int 0 3 <;> simp only [Bool.not_true, Bool.not_false, cond_true, cond_false, Bool.false_and, Bool.true_and] <;> first | rfl | skip
    rw [w64_id (x := (k : Int) + 1) (by omega) (by omega)]
    by_cases h0 : k = 0
    · subst h0
      cases readsOk (gd ((gd p 0).rows.getD 0 []) 1) && (writesOk (gd ((gd p 0).rows.getD 0 []) 2) && inB (gd ((gd p 0).rows.getD 0 []) 3).int 0 2) <;> rfl
    · rw [decide_eq_true (show (k : Int) > 0 from by omega), pre_nat h0 (by omega), inRange_nat (show k - 1 < (gd p 0).rows.length from by omega), show (k == 0) = false from by simpa using h0]
      simp only [cond_true, Int.toNat_natCast, Bool.false_or]
      cases decide ((gd ((gd p 0).rows.getD (k - 1) []) 0).int ≥ (gd ((gd p 0).rows.getD k []) 0).int) <;> cases readsOk (gd ((gd p 0).rows.getD k []) 1) && (writesOk (gd ((gd p 0).rows.getD k []) 2) && inB (gd ((gd p 0).rows.getD k []) 3).int 0 2) <;> rfl
  · show isL _ p [gd p 0, D0, gd p 0, .i _, .i ((gd p 0).rows.length : Int)] = _
    rw [is_rd, decide_eq_false (show ¬ ((gd p 0).rows.length : Int) < (gd p 0).rows.length from by omega)]
    rfl
end Go.Proofs.Ytdejncnjaebjfaa
