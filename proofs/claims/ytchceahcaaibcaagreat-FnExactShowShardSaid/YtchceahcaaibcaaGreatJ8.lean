/-
  The judge: small functions. Printed by genj.py.
-/
import Derived.Test.YtchceahcaaibcaaGreatJTyD
namespace Go.Proofs.YtchceahcaaibcaaGreat
set_option linter.unusedSimpArgs false
set_option linter.unusedVariables false
set_option maxRecDepth 4096
theorem and_ob (c x : Bool) : (bif c then ob x else ob false) = ob (c && x) := by cases c <;> rfl
theorem or_ob (c x : Bool) : (bif c then ob true else ob x) = ob (c || x) := by cases c <;> rfl
def inB (n a b : Int) : Bool := decide (n ≥ a) && decide (n ≤ b)

theorem i_from_ev (p q r : List D) (N : Nat) : evFn Tryz.prog (find []) N [0, 1, 2, 6] Tryz.f61 (rb) [⟨ri, p⟩, ⟨ri, q⟩, ⟨ri, r⟩] = some (bo, bif decide ((gd p 0).int ≥ (gd q 0).int) then ob (decide ((gd p 0).int ≤ (gd r 0).int)) else ob false) := by kernel_rfl
def i_fromE : Ent := (61, e3 (ri) (ri) (ri) fun p q r => (⟨rb, [.b (inB (gd p 0).int (gd q 0).int (gd r 0).int)]⟩, true))
theorem i_from_ok : EntOk Tryz.prog i_fromE := e3_ok fun p q r h => evFn_sound (N := 0) (ks := [0, 1, 2, 6]) (key := bo) (find_ok (List.forall_mem_nil _)) (enters Tryz.func61 (by kernel_rfl) (by kernel_rfl)) Tryz.func61 fun _ => by
  rw [i_from_ev]
  rw [and_ob]; rfl

theorem s_l1In_ev (p q r : List D) (N : Nat) : evFn Tryz.prog (find []) N [0, 1, 2, 6] Tryz.f47 (rb) [⟨ri, p⟩, ⟨ri, q⟩, ⟨ri, r⟩] = some (bo, bif decide ((gd p 0).int ≥ (gd q 0).int) then ob (decide ((gd p 0).int ≤ (gd r 0).int)) else ob false) := by kernel_rfl
def s_l1InE : Ent := (47, e3 (ri) (ri) (ri) fun p q r => (⟨rb, [.b (inB (gd p 0).int (gd q 0).int (gd r 0).int)]⟩, true))
theorem s_l1In_ok : EntOk Tryz.prog s_l1InE := e3_ok fun p q r h => evFn_sound (N := 0) (ks := [0, 1, 2, 6]) (key := bo) (find_ok (List.forall_mem_nil _)) (enters Tryz.func47 (by kernel_rfl) (by kernel_rfl)) Tryz.func47 fun _ => by
  rw [s_l1In_ev]
  rw [and_ob]; rfl

theorem i_isWhole_ev (p : List D) (N : Nat) : evFn Tryz.prog (find [i_fromE]) N [0, 2] Tryz.f255 (rb) [⟨ri, p⟩] = some (bo, ob (inB (gd p 0).int (0) (1000000000))) := by kernel_rfl
def i_isWholeE : Ent := (255, e1 (ri) fun p => (⟨rb, [.b (inB (gd p 0).int (0) (1000000000))]⟩, true))
theorem i_isWhole_ok : EntOk Tryz.prog i_isWholeE := e1_ok fun p h => evFn_sound (N := 0) (ks := [0, 2]) (key := bo) (find_ok (List.forall_mem_cons.2 ⟨i_from_ok, List.forall_mem_nil _⟩)) (enters Tryz.func255 (by kernel_rfl) (by kernel_rfl)) Tryz.func255 fun _ => by
  rw [i_isWhole_ev]
  skip

theorem i_isReq_ev (p : List D) (N : Nat) : evFn Tryz.prog (find [i_fromE]) N [0, 2] Tryz.f256 (rb) [⟨ri, p⟩] = some (bo, ob (inB (gd p 0).int (1) (1000000000))) := by kernel_rfl
def i_isReqE : Ent := (256, e1 (ri) fun p => (⟨rb, [.b (inB (gd p 0).int (1) (1000000000))]⟩, true))
theorem i_isReq_ok : EntOk Tryz.prog i_isReqE := e1_ok fun p h => evFn_sound (N := 0) (ks := [0, 2]) (key := bo) (find_ok (List.forall_mem_cons.2 ⟨i_from_ok, List.forall_mem_nil _⟩)) (enters Tryz.func256 (by kernel_rfl) (by kernel_rfl)) Tryz.func256 fun _ => by
  rw [i_isReq_ev]
  skip

theorem i_isAnswer_ev (p : List D) (N : Nat) : evFn Tryz.prog (find [i_fromE]) N [0, 2] Tryz.f274 (rb) [⟨ri, p⟩] = some (bo, ob (inB (gd p 0).int (-1) (1000000000))) := by kernel_rfl
def i_isAnswerE : Ent := (274, e1 (ri) fun p => (⟨rb, [.b (inB (gd p 0).int (-1) (1000000000))]⟩, true))
theorem i_isAnswer_ok : EntOk Tryz.prog i_isAnswerE := e1_ok fun p h => evFn_sound (N := 0) (ks := [0, 2]) (key := bo) (find_ok (List.forall_mem_cons.2 ⟨i_from_ok, List.forall_mem_nil _⟩)) (enters Tryz.func274 (by kernel_rfl) (by kernel_rfl)) Tryz.func274 fun _ => by
  rw [i_isAnswer_ev]
  skip

theorem i_isKey_ev (p : List D) (N : Nat) : evFn Tryz.prog (find [i_fromE]) N [0, 2] Tryz.f96 (rb) [⟨ri, p⟩] = some (bo, ob (inB (gd p 0).int (0) (999))) := by kernel_rfl
def i_isKeyE : Ent := (96, e1 (ri) fun p => (⟨rb, [.b (inB (gd p 0).int (0) (999))]⟩, true))
theorem i_isKey_ok : EntOk Tryz.prog i_isKeyE := e1_ok fun p h => evFn_sound (N := 0) (ks := [0, 2]) (key := bo) (find_ok (List.forall_mem_cons.2 ⟨i_from_ok, List.forall_mem_nil _⟩)) (enters Tryz.func96 (by kernel_rfl) (by kernel_rfl)) Tryz.func96 fun _ => by
  rw [i_isKey_ev]
  skip

theorem i_isGroup_ev (p : List D) (N : Nat) : evFn Tryz.prog (find [i_fromE]) N [0, 2] Tryz.f160 (rb) [⟨ri, p⟩] = some (bo, ob (inB (gd p 0).int (0) (3))) := by kernel_rfl
def i_isGroupE : Ent := (160, e1 (ri) fun p => (⟨rb, [.b (inB (gd p 0).int (0) (3))]⟩, true))
theorem i_isGroup_ok : EntOk Tryz.prog i_isGroupE := e1_ok fun p h => evFn_sound (N := 0) (ks := [0, 2]) (key := bo) (find_ok (List.forall_mem_cons.2 ⟨i_from_ok, List.forall_mem_nil _⟩)) (enters Tryz.func160 (by kernel_rfl) (by kernel_rfl)) Tryz.func160 fun _ => by
  rw [i_isGroup_ev]
  skip

theorem s_l1Whole_ev (p : List D) (N : Nat) : evFn Tryz.prog (find [s_l1InE]) N [0, 2] Tryz.f238 (rb) [⟨ri, p⟩] = some (bo, ob (inB (gd p 0).int (0) (1000000000))) := by kernel_rfl
def s_l1WholeE : Ent := (238, e1 (ri) fun p => (⟨rb, [.b (inB (gd p 0).int (0) (1000000000))]⟩, true))
theorem s_l1Whole_ok : EntOk Tryz.prog s_l1WholeE := e1_ok fun p h => evFn_sound (N := 0) (ks := [0, 2]) (key := bo) (find_ok (List.forall_mem_cons.2 ⟨s_l1In_ok, List.forall_mem_nil _⟩)) (enters Tryz.func238 (by kernel_rfl) (by kernel_rfl)) Tryz.func238 fun _ => by
  rw [s_l1Whole_ev]
  skip

theorem s_l10Key_ev (p : List D) (N : Nat) : evFn Tryz.prog (find [s_l1InE]) N [0, 2] Tryz.f94 (rb) [⟨ri, p⟩] = some (bo, ob (inB (gd p 0).int (0) (999))) := by kernel_rfl
def s_l10KeyE : Ent := (94, e1 (ri) fun p => (⟨rb, [.b (inB (gd p 0).int (0) (999))]⟩, true))
theorem s_l10Key_ok : EntOk Tryz.prog s_l10KeyE := e1_ok fun p h => evFn_sound (N := 0) (ks := [0, 2]) (key := bo) (find_ok (List.forall_mem_cons.2 ⟨s_l1In_ok, List.forall_mem_nil _⟩)) (enters Tryz.func94 (by kernel_rfl) (by kernel_rfl)) Tryz.func94 fun _ => by
  rw [s_l10Key_ev]
  skip

def rangeOk (p : List D) : Bool := decide ((gd p 0).int ≥ 0) && (decide ((gd p 0).int < (gd p 1).int) && decide ((gd p 1).int ≤ 1000))
theorem i_RangeOk_ev (p : List D) (N : Nat) : evFn Tryz.prog (find []) N [0, 1, 2] Tryz.f188 (rb) [⟨ag rIRange, p⟩] = some (bo, bif decide ((gd p 0).int ≥ 0) then bif decide ((gd p 0).int < (gd p 1).int) then ob (decide ((gd p 1).int ≤ 1000)) else ob false else ob false) := by kernel_rfl
def i_RangeOkE : Ent := (188, e1 (ag rIRange) fun p => (⟨rb, [.b (rangeOk p)]⟩, true))
theorem i_RangeOk_ok : EntOk Tryz.prog i_RangeOkE := e1_ok fun p h => evFn_sound (N := 0) (ks := [0, 1, 2]) (key := bo) (find_ok (List.forall_mem_nil _)) (enters Tryz.func188 (by kernel_rfl) (by kernel_rfl)) Tryz.func188 fun _ => by
  rw [i_RangeOk_ev]
  simp only [and_ob]; rfl

theorem s_RangeOk_ev (p : List D) (N : Nat) : evFn Tryz.prog (find []) N [0, 1, 2] Tryz.f128 (rb) [⟨ag rIRange, p⟩] = some (bo, bif decide ((gd p 0).int ≥ 0) then bif decide ((gd p 0).int < (gd p 1).int) then ob (decide ((gd p 1).int ≤ 1000)) else ob false else ob false) := by kernel_rfl
def s_RangeOkE : Ent := (128, e1 (ag rIRange) fun p => (⟨rb, [.b (rangeOk p)]⟩, true))
theorem s_RangeOk_ok : EntOk Tryz.prog s_RangeOkE := e1_ok fun p h => evFn_sound (N := 0) (ks := [0, 1, 2]) (key := bo) (find_ok (List.forall_mem_nil _)) (enters Tryz.func128 (by kernel_rfl) (by kernel_rfl)) Tryz.func128 fun _ => by
  rw [s_RangeOk_ev]
  simp only [and_ob]; rfl

end Go.Proofs.YtchceahcaaibcaaGreat
namespace Go.Proofs.YtchceahcaaibcaaGreat
set_option linter.unusedSimpArgs false
set_option linter.unusedVariables false
set_option maxRecDepth 4096
/-- write k of a list is right behind the one ahead of it -/
def writeAt (z : D) (k : Nat) : Bool := inB (gd (z.rows.getD k []) 0).int 0 999 && (inB (gd (z.rows.getD k []) 1).int (-1) 1000000000 && (k == 0 || !decide ((gd (z.rows.getD (k - 1) []) 0).int ≥ (gd (z.rows.getD k []) 0).int)))
def writesOk (z : D) : Bool := decide ((z.rows.length : Int) ≤ 60) && (List.range z.rows.length).all (writeAt z)
theorem pre_nat {k : Nat} (h : k ≠ 0) (h' : k ≤ 9223372036854775807) : w64 ((k : Int) - 1) = ((k - 1 : Nat) : Int) := by
  rw [w64_id (by omega) (by omega)]; omega
noncomputable def swL (N : Nat) (p : List D) : List D → Out := loopOf Tryz.prog (find [s_l1InE, s_l10KeyE]) N [0, 2, 3, 6, 10, 46] Tryz.f143 rb [⟨sd (.sl 132), p⟩] 0
theorem sw_rd (p : List D) (N : Nat) (z x2 y : D) (k : Int) : swL N p [z, x2, y, .i k] =
  bif decide (k < z.rows.length) then nd (inRange k z.rows.length) (bif !(inB (gd (z.rows.getD k.toNat []) 0).int 0 999) then ob false else nd (inRange k z.rows.length) (bif !(inB (gd (z.rows.getD k.toNat []) 1).int (-1) 1000000000) then ob false else
    bif decide (k > 0) then nd (inRange (w64 (k - 1)) z.rows.length) (nd (inRange k z.rows.length) (bif decide ((gd (z.rows.getD (w64 (k - 1)).toNat []) 0).int ≥ (gd (z.rows.getD k.toNat []) 0).int) then ob false else nx [z, x2, y, .i (w64 (k + 1))])) else nx [z, x2, y, .i (w64 (k + 1))])) else ex 0 [z, x2, y, .i k] := by kernel_rfl
theorem sw_ev (p : List D) (N : Nat) : evFn Tryz.prog (find [s_l1InE, s_l10KeyE]) N [0, 2, 3, 6, 10, 46] Tryz.f143 rb [⟨sd (.sl 132), p⟩] = some (bo, bif decide (((gd p 0).rows.length : Int) > 60) then ob false else
   (let o := iter (swL N p) N [gd p 0, D0, .b (decide (((gd p 0).rows.length : Int) > 60)), .i 0]
    nd o.isSome (bif o.code == 1 then some (1, o.pay) else nd (o.code == 2) (ob true)))) := by kernel_rfl
noncomputable def iwL (N : Nat) (p : List D) : List D → Out := loopOf Tryz.prog (find [i_isKeyE, i_isAnswerE]) N [0, 2, 3, 4, 5, 6, 7, 8, 36] Tryz.f190 rb [⟨sd (.sl 132), p⟩] 0
theorem iw_rd (p : List D) (N : Nat) (z x2 z5 : D) (n k : Int) : iwL N p [z, x2, z5, .i n, .i k] =
   bif decide (k < n) then nd (inRange k z5.rows.length)
     (bif !(inB (gd (z5.rows.getD k.toNat []) 0).int 0 999) then ob false else bif !(inB (gd (z5.rows.getD k.toNat []) 1).int (-1) 1000000000) then ob false else
      bif decide (k > 0) then nd (inRange (w64 (k - 1)) z.rows.length) (bif decide ((gd (z.rows.getD (w64 (k - 1)).toNat []) 0).int ≥ (gd (z5.rows.getD k.toNat []) 0).int) then ob false else nx [z, x2, z5, .i n, .i (w64 (k + 1))]) else nx [z, x2, z5, .i n, .i (w64 (k + 1))])
   else ex 0 [z, x2, z5, .i n, .i k] := by kernel_rfl
theorem iw_ev (p : List D) (N : Nat) : evFn Tryz.prog (find [i_isKeyE, i_isAnswerE]) N [0, 2, 3, 4, 5, 6, 7, 8, 36] Tryz.f190 rb [⟨sd (.sl 132), p⟩] = some (bo,
   (let o := iter (iwL N p) N [gd p 0, D0, gd p 0, .i (gd p 0).rows.length, .i 0]
    nd o.isSome (bif o.code == 1 then some (1, o.pay) else nd (o.code == 2) (ob (decide (((gd o.pay 0).rows.length : Int) ≤ 60)))))) := by kernel_rfl
def s_WritesOkE : Ent := (143, e1 (sd (.sl 132)) fun p => (⟨rb, [.b (writesOk (gd p 0))]⟩, true))
def i_WritesOkE : Ent := (190, e1 (sd (.sl 132)) fun p => (⟨rb, [.b (writesOk (gd p 0))]⟩, true))
theorem s_WritesOk_ok : EntOk Tryz.prog s_WritesOkE := e1_ok fun p _ => evFn_sound (N := (gd p 0).rows.length + 1) (ks := [0, 2, 3, 6, 10, 46]) (key := bo) (find_ok (List.forall_mem_cons.2 ⟨s_l1In_ok, List.forall_mem_cons.2 ⟨s_l10Key_ok, List.forall_mem_nil _⟩⟩)) (enters Tryz.func143 (by kernel_rfl) (by kernel_rfl)) Tryz.func143 fun hw => by
  have hl := wt_sl (hw ⟨sd (.sl 132), p⟩ (by simp))
  rw [sw_ev]
  by_cases h60 : ((gd p 0).rows.length : Int) ≤ 60
  · have e := all_loop (L := swL ((gd p 0).rows.length + 1) p) (fun k => [gd p 0, D0, .b (decide (((gd p 0).rows.length : Int) > 60)), .i (k : Int)]) (gd p 0).rows.length (writeAt (gd p 0)) [.b false] [gd p 0, D0, .b (decide (((gd p 0).rows.length : Int) > 60)), .i (gd p 0).rows.length] 0 (fun k hk => ?_) ?_ (Nat.lt_succ_self _)
    · simp only [Int.natCast_zero] at e
      rw [e, show decide (((gd p 0).rows.length : Int) > 60) = false from decide_eq_false (by omega)]
      simp only [writesOk, h60, decide_true, Bool.true_and]
      cases (List.range (gd p 0).rows.length).all (writeAt (gd p 0)) <;> rfl
    · show swL _ p [gd p 0, D0, _, .i (k : Int)] = _
      rw [sw_rd, decide_eq_true (show (k : Int) < (gd p 0).rows.length from by omega), inRange_nat hk]
      simp only [cond_true, nd, Int.toNat_natCast, writeAt]
      cases inB (gd ((gd p 0).rows.getD k []) 0).int 0 999 <;> simp only [Bool.not_true, Bool.not_false, cond_true, cond_false, Bool.false_and, Bool.true_and] <;> first | rfl | skip
      cases inB (gd ((gd p 0).rows.getD k []) 1).int (-1) 1000000000 <;> simp only [Bool.not_true, Bool.not_false, cond_true, cond_false, Bool.false_and, Bool.true_and] <;> first | rfl | skip
      rw [w64_id (x := (k : Int) + 1) (by omega) (by omega)]
      by_cases h0 : k = 0
      · subst h0; rfl
      · rw [decide_eq_true (show (k : Int) > 0 from by omega), pre_nat h0 (by omega), inRange_nat (show k - 1 < (gd p 0).rows.length from by omega), show (k == 0) = false from by simpa using h0]
        simp only [cond_true, Int.toNat_natCast, Bool.false_or]
        cases decide ((gd ((gd p 0).rows.getD (k - 1) []) 0).int ≥ (gd ((gd p 0).rows.getD k []) 0).int) <;> rfl
    · show swL _ p [gd p 0, D0, _, .i ((gd p 0).rows.length : Int)] = _
      rw [sw_rd, decide_eq_false (show ¬ ((gd p 0).rows.length : Int) < (gd p 0).rows.length from by omega)]
      rfl
  · rw [decide_eq_true (show ((gd p 0).rows.length : Int) > 60 from by omega)]
    simp only [writesOk, h60, decide_false, Bool.false_and]
    rfl
theorem i_WritesOk_ok : EntOk Tryz.prog i_WritesOkE := e1_ok fun p _ => evFn_sound (N := (gd p 0).rows.length + 1) (ks := [0, 2, 3, 4, 5, 6, 7, 8, 36]) (key := bo) (find_ok (List.forall_mem_cons.2 ⟨i_isKey_ok, List.forall_mem_cons.2 ⟨i_isAnswer_ok, List.forall_mem_nil _⟩⟩)) (enters Tryz.func190 (by kernel_rfl) (by kernel_rfl)) Tryz.func190 fun hw => by
  have hl := wt_sl (hw ⟨sd (.sl 132), p⟩ (by simp))
  have e := all_loop (L := iwL ((gd p 0).rows.length + 1) p) (fun k => [gd p 0, D0, gd p 0, .i (gd p 0).rows.length, .i (k : Int)]) (gd p 0).rows.length (writeAt (gd p 0)) [.b false] [gd p 0, D0, gd p 0, .i (gd p 0).rows.length, .i (gd p 0).rows.length] 0 (fun k hk => ?_) ?_ (Nat.lt_succ_self _)
  · simp only [Int.natCast_zero] at e
    rw [iw_ev, e]
    cases hq : (List.range (gd p 0).rows.length).all (writeAt (gd p 0))
    · simp only [writesOk, hq, Bool.and_false]; rfl
    · simp only [writesOk, hq, Bool.and_true]; rfl
  · show iwL _ p [gd p 0, D0, gd p 0, .i _, .i (k : Int)] = _
    rw [iw_rd, decide_eq_true (show (k : Int) < (gd p 0).rows.length from by omega), inRange_nat hk]
    simp only [cond_true, nd, Int.toNat_natCast, writeAt]
    cases inB (gd ((gd p 0).rows.getD k []) 0).int 0 999 <;> simp only [Bool.not_true, Bool.not_false, cond_true, cond_false, Bool.false_and, Bool.true_and] <;> first | rfl | skip
    cases inB (gd ((gd p 0).rows.getD k []) 1).int (-1) 1000000000 <;> simp only [Bool.not_true, Bool.not_false, cond_true, cond_false, Bool.false_and, Bool.true_and] <;> first | rfl | skip
    rw [w64_id (x := (k : Int) + 1) (by omega) (by omega)]
    by_cases h0 : k = 0
    · subst h0; rfl
    · rw [decide_eq_true (show (k : Int) > 0 from by omega), pre_nat h0 (by omega), inRange_nat (show k - 1 < (gd p 0).rows.length from by omega), show (k == 0) = false from by simpa using h0]
      simp only [cond_true, Int.toNat_natCast, Bool.false_or]
      cases decide ((gd ((gd p 0).rows.getD (k - 1) []) 0).int ≥ (gd ((gd p 0).rows.getD k []) 0).int) <;> rfl
  · show iwL _ p [gd p 0, D0, gd p 0, .i _, .i ((gd p 0).rows.length : Int)] = _
    rw [iw_rd, decide_eq_false (show ¬ ((gd p 0).rows.length : Int) < (gd p 0).rows.length from by omega)]
    rfl
end Go.Proofs.YtchceahcaaibcaaGreat
namespace Go.Proofs.YtchceahcaaibcaaGreat
set_option linter.unusedSimpArgs false
set_option linter.unusedVariables false
set_option maxRecDepth 4096
def ixF (C : Nat → Bool) : Nat → Nat → Int
  | _, 0 => -1
  | k, m + 1 => bif C k then k else ixF C (k + 1) m
theorem ixF_any (C : Nat → Bool) : ∀ (m k : Nat), decide (ixF C k m ≥ 0) = (List.range m).any fun j => C (k + j)
  | 0, k => rfl
  | m + 1, k => by
    rw [ixF, List.range_succ_eq_map, List.any_cons, List.any_map]
    cases hc : C k with
    | true => simp [hc]
    | false =>
      simp only [cond_false, Nat.add_zero, hc, Bool.false_or]
      rw [ixF_any C m (k + 1)]
      congr 1
      funext j
      simp only [Function.comp]
      congr 1; omega
theorem ix_loop {L : List D → Out} (st : Nat → List D) (n : Nat) (C : Nat → Bool) (fin : List D) (h1 : ∀ k, k < n → L (st k) = some (bif C k then (1, [.i (k : Int)]) else (0, st (k + 1)))) (h2 : L (st n) = some (2, fin)) :
    ∀ (m k N : Nat), k + m = n → m < N → iter L N (st k) = some (bif decide (ixF C k m ≥ 0) then (1, [.i (ixF C k m)]) else (2, fin)) := by
  intro m
  induction m with
  | zero =>
    intro k N hk hN
    obtain ⟨N, rfl⟩ : ∃ N', N = N' + 1 := ⟨N - 1, by omega⟩
    obtain rfl : k = n := by omega
    rw [iter, h2]; rfl
  | succ m ih =>
    intro k N hk hN
    obtain ⟨N, rfl⟩ : ∃ N', N = N' + 1 := ⟨N - 1, by omega⟩
    rw [iter, h1 k (by omega), ixF]
    cases hc : C k with
    | true => simp only [cond_true]; rw [decide_eq_true (show (k : Int) ≥ 0 from by omega)]; rfl
    | false => simp only [cond_false]; exact ih (k + 1) N (by omega) (by omega)
/-- whether one of the rows is so -/
def anyS (C : List D → Bool) (z : D) : Bool := (List.range z.rows.length).any fun k => C (z.rows.getD k [])

theorem ixF_neg (C : Nat → Bool) : ∀ (m k : Nat), decide (ixF C k m ≥ 0) = false → ixF C k m = -1
  | 0, k, _ => rfl
  | m + 1, k, h => by
    rw [ixF] at h ⊢
    cases hc : C k with
    | true => rw [hc, cond_true, decide_eq_true (show (k : Int) ≥ 0 from by omega)] at h; cases h
    | false => rw [hc, cond_false] at h; rw [cond_false]; exact ixF_neg C m (k + 1) h

theorem i_readsOk_1_ev (p : List D) (N : Nat) : evFn Tryz.prog (find [i_RangeOkE]) N [0, 1, 2] Tryz.f273 (rb) [⟨ag rIRange, p⟩] = some (bo, ob (!rangeOk p)) := by kernel_rfl
def i_readsOk_1E : Ent := (273, e1 (ag rIRange) fun p => (⟨rb, [.b (!rangeOk p)]⟩, true))
theorem i_readsOk_1_ok : EntOk Tryz.prog i_readsOk_1E := e1_ok fun p h => evFn_sound (N := 0) (ks := [0, 1, 2]) (key := bo) (find_ok (List.forall_mem_cons.2 ⟨i_RangeOk_ok, List.forall_mem_nil _⟩)) (enters Tryz.func273 (by kernel_rfl) (by kernel_rfl)) Tryz.func273 fun _ => by
  rw [i_readsOk_1_ev]
  skip

theorem i_votes_1_ev (p q : List D) (N : Nat) : evFn Tryz.prog (find []) N [0, 1, 2, 3] Tryz.f276 (rb) [⟨ag rIShare, p⟩, ⟨.one (.c (.cptr [si] 0)), q⟩] = some (bo, ob ((gd p 3).int == (gd ((gd q 0).rows.getD 0 []) 0).int)) := by kernel_rfl
def i_votes_1E : Ent := (276, e2 (ag rIShare) (.one (.c (.cptr [si] 0))) fun p q => (⟨rb, [.b ((gd p 3).int == (gd ((gd q 0).rows.getD 0 []) 0).int)]⟩, true))
theorem i_votes_1_ok : EntOk Tryz.prog i_votes_1E := e2_ok fun p q h => evFn_sound (N := 0) (ks := [0, 1, 2, 3]) (key := bo) (find_ok (List.forall_mem_nil _)) (enters Tryz.func276 (by kernel_rfl) (by kernel_rfl)) Tryz.func276 fun _ => by
  rw [i_votes_1_ev]
  skip

theorem i_CoordOk_1_ev (p q : List D) (N : Nat) : evFn Tryz.prog (find []) N [0, 1, 2, 3] Tryz.f159 (rb) [⟨ag rIRec, p⟩, ⟨.one (.c (.cptr rIRec 0)), q⟩] = some (bo, bif ((gd p 1).int == (gd ((gd q 0).rows.getD 0 []) 1).int) then ob ((gd p 2).int == (gd ((gd q 0).rows.getD 0 []) 2).int) else ob false) := by kernel_rfl
def i_CoordOk_1E : Ent := (159, e2 (ag rIRec) (.one (.c (.cptr rIRec 0))) fun p q => (⟨rb, [.b (((gd p 1).int == (gd ((gd q 0).rows.getD 0 []) 1).int) && ((gd p 2).int == (gd ((gd q 0).rows.getD 0 []) 2).int))]⟩, true))
theorem i_CoordOk_1_ok : EntOk Tryz.prog i_CoordOk_1E := e2_ok fun p q h => evFn_sound (N := 0) (ks := [0, 1, 2, 3]) (key := bo) (find_ok (List.forall_mem_nil _)) (enters Tryz.func159 (by kernel_rfl) (by kernel_rfl)) Tryz.func159 fun _ => by
  rw [i_CoordOk_1_ev]
  rw [and_ob]

def ixfRC (c : D) (r : List D) : Bool := !rangeOk r
noncomputable def ixfRL (N : Nat) (p q : List D) : List D → Out := loopOf Tryz.prog (find [i_readsOk_1E]) N [0, 1, 4, 5, 7, 8, 9, 16] Tryz.f264 ri [⟨sd (.sl 122), p⟩, ⟨.one (.c (.fn 273 [])), q⟩] 0
theorem ixfR_rd (p q : List D) (N : Nat) (z c x : D) (n k : Int) : ixfRL N p q [z, c, x, .i n, .i k] = bif decide (k < n) then nd (inRange k z.rows.length) (bif ixfRC c (sub (z.rows.getD k.toNat []) 0 2) then oi k else nx [z, c, x, .i n, .i (w64 (k + 1))]) else ex 0 [z, c, x, .i n, .i k] := by kernel_rfl
theorem ixfR_ev (p q : List D) (N : Nat) : evFn Tryz.prog (find [i_readsOk_1E]) N [0, 1, 4, 5, 7, 8, 9, 16] Tryz.f264 ri [⟨sd (.sl 122), p⟩, ⟨.one (.c (.fn 273 [])), q⟩] = some (bo, (let o := iter (ixfRL N p q) N [gd p 0, gd q 0, .i 0, .i (gd p 0).rows.length, .i 0]
   nd o.isSome (bif o.code == 1 then some (1, o.pay) else nd (o.code == 2) (oi (-1))))) := by kernel_rfl
def ixfRE : Ent := (264, e2 (sd (.sl 122)) (.one (.c (.fn 273 []))) fun p q => (⟨ri, [.i (ixF (fun k => ixfRC (gd q 0) (sub ((gd p 0).rows.getD k []) 0 2)) 0 (gd p 0).rows.length)]⟩, true))
theorem ixfR_ok : EntOk Tryz.prog ixfRE := e2_ok fun p q _ => evFn_sound (N := (gd p 0).rows.length + 1) (ks := [0, 1, 4, 5, 7, 8, 9, 16]) (key := bo) (find_ok (List.forall_mem_cons.2 ⟨i_readsOk_1_ok, List.forall_mem_nil _⟩)) (enters Tryz.func264 (by kernel_rfl) (by kernel_rfl)) Tryz.func264 fun hw => by
  have hl := wt_sl (hw ⟨sd (.sl 122), p⟩ (by simp))
  have e := ix_loop (L := ixfRL ((gd p 0).rows.length + 1) p q) (fun k => [gd p 0, gd q 0, .i 0, .i (gd p 0).rows.length, .i (k : Int)]) (gd p 0).rows.length (fun k => ixfRC (gd q 0) (sub ((gd p 0).rows.getD k []) 0 2)) [gd p 0, gd q 0, .i 0, .i (gd p 0).rows.length, .i (gd p 0).rows.length] (fun k hk => ?_) ?_ (gd p 0).rows.length 0 ((gd p 0).rows.length + 1) (by omega) (by omega)
  · simp only [Int.natCast_zero] at e
    rw [ixfR_ev, e]
    have hno : ∀ m k, decide (ixF (fun k => ixfRC (gd q 0) (sub ((gd p 0).rows.getD k []) 0 2)) k m ≥ 0) = false → ixF (fun k => ixfRC (gd q 0) (sub ((gd p 0).rows.getD k []) 0 2)) k m = -1 := ixF_neg _
    cases hd : decide (ixF (fun k => ixfRC (gd q 0) (sub ((gd p 0).rows.getD k []) 0 2)) 0 (gd p 0).rows.length ≥ 0)
    · rw [hno _ _ hd]; rfl
    · rfl
  · show ixfRL _ p q [gd p 0, gd q 0, .i 0, .i _, .i (k : Int)] = _
    rw [ixfR_rd, decide_eq_true (show (k : Int) < (gd p 0).rows.length from by omega), inRange_nat hk, w64_id (by omega) (by omega), Int.toNat_natCast]
    cases hcc : ixfRC (gd q 0) (sub ((gd p 0).rows.getD k []) 0 2) <;> rfl
  · show ixfRL _ p q [gd p 0, gd q 0, .i 0, .i _, .i ((gd p 0).rows.length : Int)] = _
    rw [ixfR_rd, decide_eq_false (show ¬ ((gd p 0).rows.length : Int) < (gd p 0).rows.length from by omega)]
    rfl
theorem cofR_ev (p q : List D) (N : Nat) : evFn Tryz.prog (find [ixfRE]) N [0, 1, 4] Tryz.f166 rb [⟨sd (.sl 122), p⟩, ⟨.one (.c (.fn 273 [])), q⟩] = some (bo, ob (decide (ixF (fun k => ixfRC (gd q 0) (sub ((gd p 0).rows.getD k []) 0 2)) 0 (gd p 0).rows.length ≥ 0))) := by kernel_rfl
def cofRE : Ent := (166, e2 (sd (.sl 122)) (.one (.c (.fn 273 []))) fun p q => (⟨rb, [.b (anyS (fun r => ixfRC (gd q 0) (sub r 0 2)) (gd p 0))]⟩, true))
theorem cofR_ok : EntOk Tryz.prog cofRE := e2_ok fun p q _ => evFn_sound (N := 0) (ks := [0, 1, 4]) (key := bo) (find_ok (List.forall_mem_cons.2 ⟨ixfR_ok, List.forall_mem_nil _⟩)) (enters Tryz.func166 (by kernel_rfl) (by kernel_rfl)) Tryz.func166 fun _ => by
  rw [cofR_ev, ixF_any]
  simp only [Nat.zero_add]
  rfl

def ixfVC (c : D) (r : List D) : Bool := ((gd r 3).int == (gd ((gd (c.rows.getD 0 []) 0).rows.getD 0 []) 0).int)
noncomputable def ixfVL (N : Nat) (p q : List D) : List D → Out := loopOf Tryz.prog (find [i_votes_1E]) N [0, 1, 4, 5, 7, 8, 9, 16] Tryz.f321 ri [⟨sd (.sl 118), p⟩, ⟨.one (.c (.fn 276 [.cptr [si] 0])), q⟩] 0
theorem ixfV_rd (p q : List D) (N : Nat) (z c x : D) (n k : Int) : ixfVL N p q [z, c, x, .i n, .i k] = bif decide (k < n) then nd (inRange k z.rows.length) (bif ixfVC c (sub (z.rows.getD k.toNat []) 0 4) then oi k else nx [z, c, x, .i n, .i (w64 (k + 1))]) else ex 0 [z, c, x, .i n, .i k] := by kernel_rfl
theorem ixfV_ev (p q : List D) (N : Nat) : evFn Tryz.prog (find [i_votes_1E]) N [0, 1, 4, 5, 7, 8, 9, 16] Tryz.f321 ri [⟨sd (.sl 118), p⟩, ⟨.one (.c (.fn 276 [.cptr [si] 0])), q⟩] = some (bo, (let o := iter (ixfVL N p q) N [gd p 0, gd q 0, .i 0, .i (gd p 0).rows.length, .i 0]
   nd o.isSome (bif o.code == 1 then some (1, o.pay) else nd (o.code == 2) (oi (-1))))) := by kernel_rfl
def ixfVE : Ent := (321, e2 (sd (.sl 118)) (.one (.c (.fn 276 [.cptr [si] 0]))) fun p q => (⟨ri, [.i (ixF (fun k => ixfVC (gd q 0) (sub ((gd p 0).rows.getD k []) 0 4)) 0 (gd p 0).rows.length)]⟩, true))
theorem ixfV_ok : EntOk Tryz.prog ixfVE := e2_ok fun p q _ => evFn_sound (N := (gd p 0).rows.length + 1) (ks := [0, 1, 4, 5, 7, 8, 9, 16]) (key := bo) (find_ok (List.forall_mem_cons.2 ⟨i_votes_1_ok, List.forall_mem_nil _⟩)) (enters Tryz.func321 (by kernel_rfl) (by kernel_rfl)) Tryz.func321 fun hw => by
  have hl := wt_sl (hw ⟨sd (.sl 118), p⟩ (by simp))
  have e := ix_loop (L := ixfVL ((gd p 0).rows.length + 1) p q) (fun k => [gd p 0, gd q 0, .i 0, .i (gd p 0).rows.length, .i (k : Int)]) (gd p 0).rows.length (fun k => ixfVC (gd q 0) (sub ((gd p 0).rows.getD k []) 0 4)) [gd p 0, gd q 0, .i 0, .i (gd p 0).rows.length, .i (gd p 0).rows.length] (fun k hk => ?_) ?_ (gd p 0).rows.length 0 ((gd p 0).rows.length + 1) (by omega) (by omega)
  · simp only [Int.natCast_zero] at e
    rw [ixfV_ev, e]
    have hno : ∀ m k, decide (ixF (fun k => ixfVC (gd q 0) (sub ((gd p 0).rows.getD k []) 0 4)) k m ≥ 0) = false → ixF (fun k => ixfVC (gd q 0) (sub ((gd p 0).rows.getD k []) 0 4)) k m = -1 := ixF_neg _
    cases hd : decide (ixF (fun k => ixfVC (gd q 0) (sub ((gd p 0).rows.getD k []) 0 4)) 0 (gd p 0).rows.length ≥ 0)
    · rw [hno _ _ hd]; rfl
    · rfl
  · show ixfVL _ p q [gd p 0, gd q 0, .i 0, .i _, .i (k : Int)] = _
    rw [ixfV_rd, decide_eq_true (show (k : Int) < (gd p 0).rows.length from by omega), inRange_nat hk, w64_id (by omega) (by omega), Int.toNat_natCast]
    cases hcc : ixfVC (gd q 0) (sub ((gd p 0).rows.getD k []) 0 4) <;> rfl
  · show ixfVL _ p q [gd p 0, gd q 0, .i 0, .i _, .i ((gd p 0).rows.length : Int)] = _
    rw [ixfV_rd, decide_eq_false (show ¬ ((gd p 0).rows.length : Int) < (gd p 0).rows.length from by omega)]
    rfl
theorem cofV_ev (p q : List D) (N : Nat) : evFn Tryz.prog (find [ixfVE]) N [0, 1, 4] Tryz.f275 rb [⟨sd (.sl 118), p⟩, ⟨.one (.c (.fn 276 [.cptr [si] 0])), q⟩] = some (bo, ob (decide (ixF (fun k => ixfVC (gd q 0) (sub ((gd p 0).rows.getD k []) 0 4)) 0 (gd p 0).rows.length ≥ 0))) := by kernel_rfl
def cofVE : Ent := (275, e2 (sd (.sl 118)) (.one (.c (.fn 276 [.cptr [si] 0]))) fun p q => (⟨rb, [.b (anyS (fun r => ixfVC (gd q 0) (sub r 0 4)) (gd p 0))]⟩, true))
theorem cofV_ok : EntOk Tryz.prog cofVE := e2_ok fun p q _ => evFn_sound (N := 0) (ks := [0, 1, 4]) (key := bo) (find_ok (List.forall_mem_cons.2 ⟨ixfV_ok, List.forall_mem_nil _⟩)) (enters Tryz.func275 (by kernel_rfl) (by kernel_rfl)) Tryz.func275 fun _ => by
  rw [cofV_ev, ixF_any]
  simp only [Nat.zero_add]
  rfl

def ixfKC (c : D) (r : List D) : Bool := ((gd r 1).int == (gd ((gd (c.rows.getD 0 []) 0).rows.getD 0 []) 1).int) && ((gd r 2).int == (gd ((gd (c.rows.getD 0 []) 0).rows.getD 0 []) 2).int)
noncomputable def ixfKL (N : Nat) (p q : List D) : List D → Out := loopOf Tryz.prog (find [i_CoordOk_1E]) N [0, 1, 4, 5, 7, 8, 9, 16] Tryz.f257 ri [⟨sd (.sl 116), p⟩, ⟨.one (.c (.fn 159 [.cptr rIRec 0])), q⟩] 0
theorem ixfK_rd (p q : List D) (N : Nat) (z c x : D) (n k : Int) : ixfKL N p q [z, c, x, .i n, .i k] = bif decide (k < n) then nd (inRange k z.rows.length) (bif ixfKC c (sub (z.rows.getD k.toNat []) 0 5) then oi k else nx [z, c, x, .i n, .i (w64 (k + 1))]) else ex 0 [z, c, x, .i n, .i k] := by kernel_rfl
theorem ixfK_ev (p q : List D) (N : Nat) : evFn Tryz.prog (find [i_CoordOk_1E]) N [0, 1, 4, 5, 7, 8, 9, 16] Tryz.f257 ri [⟨sd (.sl 116), p⟩, ⟨.one (.c (.fn 159 [.cptr rIRec 0])), q⟩] = some (bo, (let o := iter (ixfKL N p q) N [gd p 0, gd q 0, .i 0, .i (gd p 0).rows.length, .i 0]
   nd o.isSome (bif o.code == 1 then some (1, o.pay) else nd (o.code == 2) (oi (-1))))) := by kernel_rfl
def ixfKE : Ent := (257, e2 (sd (.sl 116)) (.one (.c (.fn 159 [.cptr rIRec 0]))) fun p q => (⟨ri, [.i (ixF (fun k => ixfKC (gd q 0) (sub ((gd p 0).rows.getD k []) 0 5)) 0 (gd p 0).rows.length)]⟩, true))
theorem ixfK_ok : EntOk Tryz.prog ixfKE := e2_ok fun p q _ => evFn_sound (N := (gd p 0).rows.length + 1) (ks := [0, 1, 4, 5, 7, 8, 9, 16]) (key := bo) (find_ok (List.forall_mem_cons.2 ⟨i_CoordOk_1_ok, List.forall_mem_nil _⟩)) (enters Tryz.func257 (by kernel_rfl) (by kernel_rfl)) Tryz.func257 fun hw => by
  have hl := wt_sl (hw ⟨sd (.sl 116), p⟩ (by simp))
  have e := ix_loop (L := ixfKL ((gd p 0).rows.length + 1) p q) (fun k => [gd p 0, gd q 0, .i 0, .i (gd p 0).rows.length, .i (k : Int)]) (gd p 0).rows.length (fun k => ixfKC (gd q 0) (sub ((gd p 0).rows.getD k []) 0 5)) [gd p 0, gd q 0, .i 0, .i (gd p 0).rows.length, .i (gd p 0).rows.length] (fun k hk => ?_) ?_ (gd p 0).rows.length 0 ((gd p 0).rows.length + 1) (by omega) (by omega)
  · simp only [Int.natCast_zero] at e
    rw [ixfK_ev, e]
    have hno : ∀ m k, decide (ixF (fun k => ixfKC (gd q 0) (sub ((gd p 0).rows.getD k []) 0 5)) k m ≥ 0) = false → ixF (fun k => ixfKC (gd q 0) (sub ((gd p 0).rows.getD k []) 0 5)) k m = -1 := ixF_neg _
    cases hd : decide (ixF (fun k => ixfKC (gd q 0) (sub ((gd p 0).rows.getD k []) 0 5)) 0 (gd p 0).rows.length ≥ 0)
    · rw [hno _ _ hd]; rfl
    · rfl
  · show ixfKL _ p q [gd p 0, gd q 0, .i 0, .i _, .i (k : Int)] = _
    rw [ixfK_rd, decide_eq_true (show (k : Int) < (gd p 0).rows.length from by omega), inRange_nat hk, w64_id (by omega) (by omega), Int.toNat_natCast]
    cases hcc : ixfKC (gd q 0) (sub ((gd p 0).rows.getD k []) 0 5) <;> rfl
  · show ixfKL _ p q [gd p 0, gd q 0, .i 0, .i _, .i ((gd p 0).rows.length : Int)] = _
    rw [ixfK_rd, decide_eq_false (show ¬ ((gd p 0).rows.length : Int) < (gd p 0).rows.length from by omega)]
    rfl
theorem cofK_ev (p q : List D) (N : Nat) : evFn Tryz.prog (find [ixfKE]) N [0, 1, 4] Tryz.f158 rb [⟨sd (.sl 116), p⟩, ⟨.one (.c (.fn 159 [.cptr rIRec 0])), q⟩] = some (bo, ob (decide (ixF (fun k => ixfKC (gd q 0) (sub ((gd p 0).rows.getD k []) 0 5)) 0 (gd p 0).rows.length ≥ 0))) := by kernel_rfl
def cofKE : Ent := (158, e2 (sd (.sl 116)) (.one (.c (.fn 159 [.cptr rIRec 0]))) fun p q => (⟨rb, [.b (anyS (fun r => ixfKC (gd q 0) (sub r 0 5)) (gd p 0))]⟩, true))
theorem cofK_ok : EntOk Tryz.prog cofKE := e2_ok fun p q _ => evFn_sound (N := 0) (ks := [0, 1, 4]) (key := bo) (find_ok (List.forall_mem_cons.2 ⟨ixfK_ok, List.forall_mem_nil _⟩)) (enters Tryz.func158 (by kernel_rfl) (by kernel_rfl)) Tryz.func158 fun _ => by
  rw [cofK_ev, ixF_any]
  simp only [Nat.zero_add]
  rfl

end Go.Proofs.YtchceahcaaibcaaGreat
namespace Go.Proofs.YtchceahcaaibcaaGreat
set_option linter.unusedSimpArgs false
set_option linter.unusedVariables false
set_option maxRecDepth 4096
def readsOk (z : D) : Bool := decide ((z.rows.length : Int) ≤ 16) && !anyS (fun r => !rangeOk (sub r 0 2)) z
def votesAny (z : D) (v : Int) : Bool := anyS (fun r => (gd (sub r 0 4) 3).int == v) z
def hasInt (z : D) (x : Int) : Bool := anyS (fun r => x == (gd r 0).int) z
def cnt (C : Nat → Bool) : Nat → Nat → Nat
  | _, 0 => 0
  | k, m + 1 => (bif C k then 1 else 0) + cnt C (k + 1) m
theorem cnt_le (C : Nat → Bool) : ∀ m k, cnt C k m ≤ m
  | 0, k => Nat.le_refl _
  | m + 1, k => by
    have := cnt_le C m (k + 1)
    rw [cnt]
    cases C k <;> simp only [cond_true, cond_false] <;> omega
def votesN (z : D) (v : Int) : Nat := cnt (fun k => (gd (sub (z.rows.getD k []) 0 4) 3).int == v) 0 z.rows.length
theorem not_all {n : Nat} {C : Nat → Bool} : (!(List.range n).all fun k => !C k) = (List.range n).any C := by simp [List.all_eq_not_any_not]

theorem i_readsOk_ev (p : List D) (N : Nat) : evFn Tryz.prog (find [cofRE]) N [0, 2] Tryz.f189 (rb) [⟨sd (.sl 122), p⟩] = some (bo, bif decide (((gd p 0).rows.length : Int) ≤ 16) then ob (!anyS (fun r => !rangeOk (sub r 0 2)) (gd p 0)) else ob false) := by kernel_rfl
def i_readsOkE : Ent := (189, e1 (sd (.sl 122)) fun p => (⟨rb, [.b (readsOk (gd p 0))]⟩, true))
theorem i_readsOk_ok : EntOk Tryz.prog i_readsOkE := e1_ok fun p h => evFn_sound (N := 0) (ks := [0, 2]) (key := bo) (find_ok (List.forall_mem_cons.2 ⟨cofR_ok, List.forall_mem_nil _⟩)) (enters Tryz.func189 (by kernel_rfl) (by kernel_rfl)) Tryz.func189 fun _ => by
  rw [i_readsOk_ev]
  rw [and_ob]; rfl

theorem i_votes_ev (p q : List D) (N : Nat) : evFn Tryz.prog (find [cofVE]) N [0, 1, 3, 4] Tryz.f192 (rb) [⟨sd (.sl 118), p⟩, ⟨ri, q⟩] = some (bo, ob (votesAny (gd p 0) (gd q 0).int)) := by kernel_rfl
def i_votesE : Ent := (192, e2 (sd (.sl 118)) (ri) fun p q => (⟨rb, [.b (votesAny (gd p 0) (gd q 0).int)]⟩, true))
theorem i_votes_ok : EntOk Tryz.prog i_votesE := e2_ok fun p q h => evFn_sound (N := 0) (ks := [0, 1, 3, 4]) (key := bo) (find_ok (List.forall_mem_cons.2 ⟨cofV_ok, List.forall_mem_nil _⟩)) (enters Tryz.func192 (by kernel_rfl) (by kernel_rfl)) Tryz.func192 fun _ => by
  rw [i_votes_ev]
  skip

theorem i_isRec_ev (p q : List D) (N : Nat) : evFn Tryz.prog (find [i_fromE]) N [0, 1, 2, 4] Tryz.f296 (rb) [⟨ag rICoord, p⟩, ⟨ri, q⟩] = some (bo, ob (inB (gd q 0).int 1 (gd p 0).rows.length)) := by kernel_rfl
def i_isRecE : Ent := (296, e2 (ag rICoord) (ri) fun p q => (⟨rb, [.b (inB (gd q 0).int 1 (gd p 0).rows.length)]⟩, true))
theorem i_isRec_ok : EntOk Tryz.prog i_isRecE := e2_ok fun p q h => evFn_sound (N := 0) (ks := [0, 1, 2, 4]) (key := bo) (find_ok (List.forall_mem_cons.2 ⟨i_from_ok, List.forall_mem_nil _⟩)) (enters Tryz.func296 (by kernel_rfl) (by kernel_rfl)) Tryz.func296 fun _ => by
  rw [i_isRec_ev]
  skip

noncomputable def s_l12HasL (N : Nat) (p q : List D) : List D → Out := loopOf Tryz.prog (find []) N [0, 1, 4, 5, 9, 17] Tryz.f81 rb [⟨sd (.sl 3), p⟩, ⟨ri, q⟩] 0
theorem s_l12Has_rd (p q : List D) (N : Nat) (z x y : D) (k : Int) : s_l12HasL N p q [z, x, y, .i k] = bif decide (k < z.rows.length) then nd (inRange k z.rows.length) (bif ((gd (z.rows.getD k.toNat []) 0).int == x.int) then ob true else nx [z, x, y, .i (w64 (k + 1))]) else ex 0 [z, x, y, .i k] := by kernel_rfl
theorem s_l12Has_ev (p q : List D) (N : Nat) : evFn Tryz.prog (find []) N [0, 1, 4, 5, 9, 17] Tryz.f81 rb [⟨sd (.sl 3), p⟩, ⟨ri, q⟩] = some (bo, (let o := iter (s_l12HasL N p q) N [gd p 0, gd q 0, D0, .i 0]
   nd o.isSome (bif o.code == 1 then some (1, o.pay) else nd (o.code == 2) (ob false)))) := by kernel_rfl
def s_l12HasE : Ent := (81, e2 (sd (.sl 3)) ri fun p q => (⟨rb, [.b (hasInt (gd p 0) (gd q 0).int)]⟩, true))
theorem s_l12Has_ok : EntOk Tryz.prog s_l12HasE := e2_ok fun p q _ => evFn_sound (N := (gd p 0).rows.length + 1) (ks := [0, 1, 4, 5, 9, 17]) (key := bo) (find_ok (List.forall_mem_nil _)) (enters Tryz.func81 (by kernel_rfl) (by kernel_rfl)) Tryz.func81 fun hw => by
  have hl := wt_sl (hw ⟨sd (.sl 3), p⟩ (by simp))
  have e := all_loop (L := s_l12HasL ((gd p 0).rows.length + 1) p q) (fun k => [gd p 0, gd q 0, D0, .i (k : Int)]) (gd p 0).rows.length (fun k => !((gd q 0).int == (gd ((gd p 0).rows.getD k []) 0).int)) [.b true] [gd p 0, gd q 0, D0, .i (gd p 0).rows.length] 0 (fun k hk => ?_) ?_ (Nat.lt_succ_self _)
  · simp only [Int.natCast_zero] at e
    rw [s_l12Has_ev, e]
    have hn : hasInt (gd p 0) (gd q 0).int = !(List.range (gd p 0).rows.length).all fun k => !((gd q 0).int == (gd ((gd p 0).rows.getD k []) 0).int) := not_all.symm
    rw [hn]
    cases (List.range (gd p 0).rows.length).all fun k => !((gd q 0).int == (gd ((gd p 0).rows.getD k []) 0).int) <;> rfl
  · show s_l12HasL _ p q [gd p 0, gd q 0, D0, .i (k : Int)] = _
    rw [s_l12Has_rd, decide_eq_true (show (k : Int) < (gd p 0).rows.length from by omega), inRange_nat hk, w64_id (by omega) (by omega), Int.toNat_natCast, Bool.beq_comm]
    cases hcc : ((gd q 0).int == (gd ((gd p 0).rows.getD k []) 0).int) <;> rfl
  · show s_l12HasL _ p q [gd p 0, gd q 0, D0, .i ((gd p 0).rows.length : Int)] = _
    rw [s_l12Has_rd, decide_eq_false (show ¬ ((gd p 0).rows.length : Int) < (gd p 0).rows.length from by omega)]
    rfl

noncomputable def ixIL (N : Nat) (p q : List D) : List D → Out := loopOf Tryz.prog (find []) N [0, 1, 4, 5, 7, 8, 9, 16] Tryz.f202 ri [⟨sd (.sl 3), p⟩, ⟨ri, q⟩] 0
theorem ixI_rd (p q : List D) (N : Nat) (z c x : D) (n k : Int) : ixIL N p q [z, c, x, .i n, .i k] = bif decide (k < n) then nd (inRange k z.rows.length) (bif (c.int == (gd (z.rows.getD k.toNat []) 0).int) then oi k else nx [z, c, x, .i n, .i (w64 (k + 1))]) else ex 0 [z, c, x, .i n, .i k] := by kernel_rfl
theorem ixI_ev (p q : List D) (N : Nat) : evFn Tryz.prog (find []) N [0, 1, 4, 5, 7, 8, 9, 16] Tryz.f202 ri [⟨sd (.sl 3), p⟩, ⟨ri, q⟩] = some (bo, (let o := iter (ixIL N p q) N [gd p 0, gd q 0, .i 0, .i (gd p 0).rows.length, .i 0]
   nd o.isSome (bif o.code == 1 then some (1, o.pay) else nd (o.code == 2) (oi (-1))))) := by kernel_rfl
def ixIE : Ent := (202, e2 (sd (.sl 3)) ri fun p q => (⟨ri, [.i (ixF (fun k => (gd q 0).int == (gd ((gd p 0).rows.getD k []) 0).int) 0 (gd p 0).rows.length)]⟩, true))
theorem ixI_ok : EntOk Tryz.prog ixIE := e2_ok fun p q _ => evFn_sound (N := (gd p 0).rows.length + 1) (ks := [0, 1, 4, 5, 7, 8, 9, 16]) (key := bo) (find_ok (List.forall_mem_nil _)) (enters Tryz.func202 (by kernel_rfl) (by kernel_rfl)) Tryz.func202 fun hw => by
  have hl := wt_sl (hw ⟨sd (.sl 3), p⟩ (by simp))
  have e := ix_loop (L := ixIL ((gd p 0).rows.length + 1) p q) (fun k => [gd p 0, gd q 0, .i 0, .i (gd p 0).rows.length, .i (k : Int)]) (gd p 0).rows.length (fun k => (gd q 0).int == (gd ((gd p 0).rows.getD k []) 0).int) [gd p 0, gd q 0, .i 0, .i (gd p 0).rows.length, .i (gd p 0).rows.length] (fun k hk => ?_) ?_ (gd p 0).rows.length 0 ((gd p 0).rows.length + 1) (by omega) (by omega)
  · simp only [Int.natCast_zero] at e
    rw [ixI_ev, e]
    cases hd : decide (ixF (fun k => (gd q 0).int == (gd ((gd p 0).rows.getD k []) 0).int) 0 (gd p 0).rows.length ≥ 0)
    · rw [ixF_neg _ _ _ hd]; rfl
    · rfl
  · show ixIL _ p q [gd p 0, gd q 0, .i 0, .i _, .i (k : Int)] = _
    rw [ixI_rd, decide_eq_true (show (k : Int) < (gd p 0).rows.length from by omega), inRange_nat hk, w64_id (by omega) (by omega), Int.toNat_natCast]
    cases hcc : ((gd q 0).int == (gd ((gd p 0).rows.getD k []) 0).int) <;> rfl
  · show ixIL _ p q [gd p 0, gd q 0, .i 0, .i _, .i ((gd p 0).rows.length : Int)] = _
    rw [ixI_rd, decide_eq_false (show ¬ ((gd p 0).rows.length : Int) < (gd p 0).rows.length from by omega)]
    rfl

theorem coI_ev (p q : List D) (N : Nat) : evFn Tryz.prog (find [ixIE]) N [0, 1, 4] Tryz.f82 rb [⟨sd (.sl 3), p⟩, ⟨ri, q⟩] = some (bo, ob (decide (ixF (fun k => (gd q 0).int == (gd ((gd p 0).rows.getD k []) 0).int) 0 (gd p 0).rows.length ≥ 0))) := by kernel_rfl
def coIE : Ent := (82, e2 (sd (.sl 3)) ri fun p q => (⟨rb, [.b (hasInt (gd p 0) (gd q 0).int)]⟩, true))
theorem coI_ok : EntOk Tryz.prog coIE := e2_ok fun p q _ => evFn_sound (N := 0) (ks := [0, 1, 4]) (key := bo) (find_ok (List.forall_mem_cons.2 ⟨ixI_ok, List.forall_mem_nil _⟩)) (enters Tryz.func82 (by kernel_rfl) (by kernel_rfl)) Tryz.func82 fun _ => by
  rw [coI_ev, ixF_any]
  simp only [Nat.zero_add]
  rfl

noncomputable def s_l14VotesL (N : Nat) (p q : List D) : List D → Out := loopOf Tryz.prog (find []) N [0, 1, 4, 5, 6, 10, 19] Tryz.f145 ri [⟨sd (.sl 118), p⟩, ⟨ri, q⟩] 0
theorem s_l14Votes_rd (p q : List D) (N : Nat) (z x y : D) (n k : Int) : s_l14VotesL N p q [z, x, y, .i n, .i k] = bif decide (k < z.rows.length) then nd (inRange k z.rows.length) (bif ((gd (sub (z.rows.getD k.toNat []) 0 4) 3).int == x.int) then nx [z, x, y, .i (w64 (n + 1)), .i (w64 (k + 1))] else nx [z, x, y, .i n, .i (w64 (k + 1))]) else ex 0 [z, x, y, .i n, .i k] := by kernel_rfl
theorem s_l14Votes_ev (p q : List D) (N : Nat) : evFn Tryz.prog (find []) N [0, 1, 4, 5, 6, 10, 19] Tryz.f145 ri [⟨sd (.sl 118), p⟩, ⟨ri, q⟩] = some (bo, (let o := iter (s_l14VotesL N p q) N [gd p 0, gd q 0, .i 0, .i 0, .i 0]
   nd o.isSome (nd (o.code == 2) (some (1, [gd o.pay 3]))))) := by kernel_rfl
def s_l14VotesE : Ent := (145, e2 (sd (.sl 118)) ri fun p q => (⟨ri, [.i (votesN (gd p 0) (gd q 0).int)]⟩, true))
theorem s_l14Votes_ok : EntOk Tryz.prog s_l14VotesE := e2_ok fun p q _ => evFn_sound (N := (gd p 0).rows.length + 1) (ks := [0, 1, 4, 5, 6, 10, 19]) (key := bo) (find_ok (List.forall_mem_nil _)) (enters Tryz.func145 (by kernel_rfl) (by kernel_rfl)) Tryz.func145 fun hw => by
  have hl := wt_sl (hw ⟨sd (.sl 118), p⟩ (by simp))
  have H : ∀ (m k N : Nat) (n : Int), k + m = (gd p 0).rows.length → m < N → 0 ≤ n → n + m ≤ 9223372036854775807 → iter (s_l14VotesL ((gd p 0).rows.length + 1) p q) N [gd p 0, gd q 0, .i 0, .i n, .i (k : Int)] = some (2, [gd p 0, gd q 0, .i 0, .i (n + cnt (fun k => (gd (sub ((gd p 0).rows.getD k []) 0 4) 3).int == (gd q 0).int) k m), .i (gd p 0).rows.length]) := by
    intro m
    induction m with
    | zero =>
      intro k N n hk hN h0 h1
      obtain ⟨N, rfl⟩ : ∃ N', N = N' + 1 := ⟨N - 1, by omega⟩
      have hk : k = (gd p 0).rows.length := by omega
      subst hk
      rw [iter, s_l14Votes_rd, decide_eq_false (show ¬ ((gd p 0).rows.length : Int) < (gd p 0).rows.length from by omega)]
      simp [cnt]
    | succ m ih =>
      intro k N n hk hN h0 h1
      obtain ⟨N, rfl⟩ : ∃ N', N = N' + 1 := ⟨N - 1, by omega⟩
      have hlt : k < (gd p 0).rows.length := by omega
      rw [iter, s_l14Votes_rd, decide_eq_true (show (k : Int) < (gd p 0).rows.length from by omega), inRange_nat hlt, w64_id (x := (k : Int) + 1) (by omega) (by omega), w64_id (x := n + 1) (by omega) (by omega), Int.toNat_natCast, cnt]
      cases hcc : ((gd (sub ((gd p 0).rows.getD k []) 0 4) 3).int == (gd q 0).int) with
      | true =>
        simp only [cond_true, nd]
        rw [show ((k : Int) + 1) = ((k + 1 : Nat) : Int) from by simp, ih (k + 1) N (n + 1) (by omega) (by omega) (by omega) (by omega)]
        have e2 : ∀ c : Nat, n + 1 + (c : Int) = n + ((1 + c : Nat) : Int) := fun c => by omega
        rw [e2]
      | false =>
        simp only [cond_true, cond_false, nd, Nat.zero_add]
        rw [show ((k : Int) + 1) = ((k + 1 : Nat) : Int) from by simp, ih (k + 1) N n (by omega) (by omega) (by omega) (by omega)]
  have e := H (gd p 0).rows.length 0 ((gd p 0).rows.length + 1) 0 (by omega) (by omega) (by omega) (by omega)
  simp only [Int.natCast_zero, Int.zero_add] at e
  rw [s_l14Votes_ev, e]
  rfl

end Go.Proofs.YtchceahcaaibcaaGreat
namespace Go.Proofs.YtchceahcaaibcaaGreat
set_option linter.unusedSimpArgs false
set_option linter.unusedVariables false
set_option maxRecDepth 4096
/-- share k of a list is right behind the one ahead of it -/
def shareAt (z : D) (k : Nat) : Bool :=
  inB (gd (z.rows.getD k []) 0).int 0 3 && ((k == 0 || !decide ((gd (z.rows.getD (k - 1) []) 0).int ≥ (gd (z.rows.getD k []) 0).int)) && (readsOk (gd (z.rows.getD k []) 1) && (writesOk (gd (z.rows.getD k []) 2) && inB (gd (z.rows.getD k []) 3).int 0 2)))
def sharesOk (z : D) : Bool := decide ((z.rows.length : Int) ≤ 4) && (List.range z.rows.length).all (shareAt z)
abbrev tbIS : FuncId → List T → Option (T × Bool) := find [i_fromE, i_isGroupE, i_readsOkE, i_WritesOkE]
theorem tbIS_ok : CallOk Tryz.prog tbIS := find_ok (List.forall_mem_cons.2 ⟨i_from_ok, List.forall_mem_cons.2 ⟨i_isGroup_ok, List.forall_mem_cons.2 ⟨i_readsOk_ok, List.forall_mem_cons.2 ⟨i_WritesOk_ok, List.forall_mem_nil _⟩⟩⟩⟩)
abbrev aSh (p : List D) : List T := [⟨sd (.sl 118), p⟩]
noncomputable def isL (N : Nat) (p : List D) : List D → Out := loopOf Tryz.prog tbIS N [0, 2, 3, 4, 5, 6, 7, 8, 48] Tryz.f191 rb (aSh p) 0
def isT (row : List D) (nxt : Out) : Out := bif !readsOk (gd row 1) then ob false else bif !writesOk (gd row 2) then ob false else bif !inB (gd row 3).int 0 2 then ob false else nxt
theorem is_rd (p : List D) (N : Nat) (z x2 z5 : D) (n k : Int) : isL N p [z, x2, z5, .i n, .i k] =
   bif decide (k < n) then nd (inRange k z5.rows.length)
     (bif !(inB (gd (z5.rows.getD k.toNat []) 0).int 0 3) then ob false else
      bif decide (k > 0) then nd (inRange (w64 (k - 1)) z.rows.length) (bif decide ((gd (z.rows.getD (w64 (k - 1)).toNat []) 0).int ≥ (gd (z5.rows.getD k.toNat []) 0).int) then ob false else isT (z5.rows.getD k.toNat []) (nx [z, x2, z5, .i n, .i (w64 (k + 1))])) else isT (z5.rows.getD k.toNat []) (nx [z, x2, z5, .i n, .i (w64 (k + 1))]))
   else ex 0 [z, x2, z5, .i n, .i k] := by kernel_rfl
theorem is_ev (p : List D) (N : Nat) : evFn Tryz.prog tbIS N [0, 2, 3, 4, 5, 6, 7, 8, 48] Tryz.f191 rb (aSh p) = some (bo,
   (let o := iter (isL N p) N [gd p 0, D0, gd p 0, .i (gd p 0).rows.length, .i 0]
    nd o.isSome (bif o.code == 1 then some (1, o.pay) else nd (o.code == 2) (ob (decide (((gd o.pay 0).rows.length : Int) ≤ 4)))))) := by kernel_rfl
def i_SharesOkE : Ent := (191, e1 (sd (.sl 118)) fun p => (⟨rb, [.b (sharesOk (gd p 0))]⟩, true))
theorem isT_ok (row : List D) (nxt : Out) : isT row nxt = bif readsOk (gd row 1) && (writesOk (gd row 2) && inB (gd row 3).int 0 2) then nxt else ob false := by
  unfold isT
  cases readsOk (gd row 1) <;> cases writesOk (gd row 2) <;> cases inB (gd row 3).int 0 2 <;> rfl
theorem i_SharesOk_ok : EntOk Tryz.prog i_SharesOkE := e1_ok fun p _ => evFn_sound (N := (gd p 0).rows.length + 1) (ks := [0, 2, 3, 4, 5, 6, 7, 8, 48]) (key := bo) tbIS_ok (enters Tryz.func191 (by kernel_rfl) (by kernel_rfl)) Tryz.func191 fun hw => by
  have hl := wt_sl (hw ⟨sd (.sl 118), p⟩ (by simp))
  have e := all_loop (L := isL ((gd p 0).rows.length + 1) p) (fun k => [gd p 0, D0, gd p 0, .i (gd p 0).rows.length, .i (k : Int)]) (gd p 0).rows.length (shareAt (gd p 0)) [.b false] [gd p 0, D0, gd p 0, .i (gd p 0).rows.length, .i (gd p 0).rows.length] 0 (fun k hk => ?_) ?_ (Nat.lt_succ_self _)
  · simp only [Int.natCast_zero] at e
    rw [is_ev, e]
    cases hq : (List.range (gd p 0).rows.length).all (shareAt (gd p 0))
    · simp only [sharesOk, hq, Bool.and_false]; rfl
    · simp only [sharesOk, hq, Bool.and_true]; rfl
  · show isL _ p [gd p 0, D0, gd p 0, .i _, .i (k : Int)] = _
    rw [is_rd, decide_eq_true (show (k : Int) < (gd p 0).rows.length from by omega), inRange_nat hk]
    simp only [cond_true, nd, Int.toNat_natCast, shareAt, isT_ok]
    cases inB (gd ((gd p 0).rows.getD k []) 0).int 0 3 <;> simp only [Bool.not_true, Bool.not_false, cond_true, cond_false, Bool.false_and, Bool.true_and] <;> first | rfl | skip
    rw [w64_id (x := (k : Int) + 1) (by omega) (by omega)]
    by_cases h0 : k = 0
    · subst h0
      cases readsOk (gd ((gd p 0).rows.getD 0 []) 1) && (writesOk (gd ((gd p 0).rows.getD 0 []) 2) && inB (gd ((gd p 0).rows.getD 0 []) 3).int 0 2) <;> rfl
    · rw [decide_eq_true (show (k : Int) > 0 from by omega), pre_nat h0 (by omega), inRange_nat (show k - 1 < (gd p 0).rows.length from by omega), show (k == 0) = false from by simpa using h0]
      simp only [cond_true, Int.toNat_natCast, Bool.false_or]
      cases decide ((gd ((gd p 0).rows.getD (k - 1) []) 0).int ≥ (gd ((gd p 0).rows.getD k []) 0).int) <;> cases readsOk (gd ((gd p 0).rows.getD k []) 1) && (writesOk (gd ((gd p 0).rows.getD k []) 2) && inB (gd ((gd p 0).rows.getD k []) 3).int 0 2) <;> rfl
  · show isL _ p [gd p 0, D0, gd p 0, .i _, .i ((gd p 0).rows.length : Int)] = _
    rw [is_rd, decide_eq_false (show ¬ ((gd p 0).rows.length : Int) < (gd p 0).rows.length from by omega)]
    rfl
end Go.Proofs.YtchceahcaaibcaaGreat
namespace Go.Proofs.YtchceahcaaibcaaGreat
set_option linter.unusedSimpArgs false
set_option linter.unusedVariables false
set_option maxRecDepth 4096
abbrev tbSS : FuncId → List T → Option (T × Bool) := find [s_l1InE, s_RangeOkE, s_WritesOkE]
theorem tbSS_ok : CallOk Tryz.prog tbSS := find_ok (List.forall_mem_cons.2 ⟨s_l1In_ok, List.forall_mem_cons.2 ⟨s_RangeOk_ok, List.forall_mem_cons.2 ⟨s_WritesOk_ok, List.forall_mem_nil _⟩⟩⟩)
noncomputable def ssL (N : Nat) (p : List D) : List D → Out := loopOf Tryz.prog tbSS N [0, 2, 3, 4, 5, 8, 12, 55, 60, 69] Tryz.f144 rb (aSh p) 0
noncomputable def ssM (N : Nat) (p : List D) : List D → Out := loopOf Tryz.prog tbSS N [0, 2, 3, 4, 5, 8, 12, 55, 60, 69] Tryz.f144 rb (aSh p) 2
theorem ss_rd2 (p : List D) (N : Nat) (z x2 y8 i y12 y4 y55 b0 b1 b2 b3 : D) (m : Int) : ssM N p [z, x2, y8, i, y12, y4, y55, .i m, b0, b1, b2, b3] =
   bif decide (m < b1.rows.length) then nd (inRange m b1.rows.length) (bif !(rangeOk (sub (b1.rows.getD m.toNat []) 0 2)) then ob false else nx [z, x2, y8, i, y12, y4, y55, .i (w64 (m + 1)), b0, b1, b2, b3])
   else ex 2 [z, x2, y8, i, y12, y4, y55, .i m, b0, b1, b2, b3] := by kernel_rfl
def ssU (z x2 y8 : D) (k : Int) (row : List D) (M : List D → Out) (N : Nat) (nxt : List D → Out) : Out :=
  bif decide (((gd row 1).rows.length : Int) > 16) then ob false else bif !(writesOk (gd row 2)) then ob false else bif !(inB (gd row 3).int 0 2) then ob false else
    (let o := iter M N [z, x2, y8, .i k, .b (decide (k < z.rows.length)), D0, .b (!(inB (gd row 3).int 0 2)), .i 0, gd row 0, gd row 1, gd row 2, gd row 3]
     nd o.isSome (bif o.code == 1 then some (1, o.pay) else nd (o.code == 4) (nxt o.pay)))
theorem ss_rd (p : List D) (N : Nat) (z x2 y8 : D) (k : Int) : ssL N p [z, x2, y8, .i k] =
   bif decide (k < z.rows.length) then nd (inRange k z.rows.length)
     (bif !(inB (gd (z.rows.getD k.toNat []) 0).int 0 3) then ob false else
      bif decide (k > 0) then nd (inRange (w64 (k - 1)) z.rows.length) (bif decide ((gd (z.rows.getD (w64 (k - 1)).toNat []) 0).int ≥ (gd (z.rows.getD k.toNat []) 0).int) then ob false else ssU z x2 y8 k (z.rows.getD k.toNat []) (ssM N p) N (fun q => nx [gd q 0, gd q 1, gd q 2, .i (w64 ((gd q 3).int + 1))])) else ssU z x2 y8 k (z.rows.getD k.toNat []) (ssM N p) N (fun q => nx [gd q 0, gd q 1, gd q 2, .i (w64 ((gd q 3).int + 1))]))
   else ex 0 [z, x2, y8, .i k] := by kernel_rfl
theorem ss_ev (p : List D) (N : Nat) : evFn Tryz.prog tbSS N [0, 2, 3, 4, 5, 8, 12, 55, 60, 69] Tryz.f144 rb (aSh p) = some (bo, bif decide (((gd p 0).rows.length : Int) > 4) then ob false else
   (let o := iter (ssL N p) N [gd p 0, D0, .b (decide (((gd p 0).rows.length : Int) > 4)), .i 0]
    nd o.isSome (bif o.code == 1 then some (1, o.pay) else nd (o.code == 2) (ob true)))) := by kernel_rfl
end Go.Proofs.YtchceahcaaibcaaGreat
namespace Go.Proofs.YtchceahcaaibcaaGreat
set_option linter.unusedSimpArgs false
set_option linter.unusedVariables false
set_option maxRecDepth 4096
theorem reads_all (z : D) : (!anyS (fun r => !rangeOk (sub r 0 2)) z) = (List.range z.rows.length).all fun m => rangeOk (sub (z.rows.getD m []) 0 2) := by
  unfold anyS
  rw [List.all_eq_not_any_not]
theorem ssU_ok (p : List D) (N : Nat) (z x2 y8 : D) (k : Int) (row : List D) (hN : 17 ≤ N) : ssU z x2 y8 k row (ssM N p) N (fun q => nx [gd q 0, gd q 1, gd q 2, .i (w64 ((gd q 3).int + 1))]) =
    bif readsOk (gd row 1) && (writesOk (gd row 2) && inB (gd row 3).int 0 2) then nx [z, x2, y8, .i (w64 (k + 1))] else ob false := by
  unfold ssU readsOk
  by_cases h16 : ((gd row 1).rows.length : Int) ≤ 16
  · rw [decide_eq_false (show ¬ ((gd row 1).rows.length : Int) > 16 from by omega), decide_eq_true h16, reads_all]
    simp only [cond_false, Bool.true_and]
    cases writesOk (gd row 2)
    · simp only [Bool.not_false, cond_true, Bool.false_and, Bool.and_false, cond_false]
    · cases hv : inB (gd row 3).int 0 2
      · simp only [Bool.not_false, Bool.not_true, cond_true, cond_false, Bool.true_and, Bool.and_false]
      · have e := all_loop (L := ssM N p) (fun m => [z, x2, y8, .i k, .b (decide (k < z.rows.length)), D0, .b (!true), .i (m : Int), gd row 0, gd row 1, gd row 2, gd row 3]) (gd row 1).rows.length (fun m => rangeOk (sub ((gd row 1).rows.getD m []) 0 2)) [.b false] [z, x2, y8, .i k, .b (decide (k < z.rows.length)), D0, .b (!true), .i (gd row 1).rows.length, gd row 0, gd row 1, gd row 2, gd row 3] 2 (fun m hm => ?_) ?_ (N := N) (by omega)
        · simp only [Int.natCast_zero] at e
          simp only [Bool.not_true, cond_false, Bool.and_true, Bool.true_and] at e ⊢
          rw [e]
          cases (List.range (gd row 1).rows.length).all fun m => rangeOk (sub ((gd row 1).rows.getD m []) 0 2) <;> rfl
        · show ssM N p [z, x2, y8, .i k, _, D0, _, .i (m : Int), _, _, _, _] = _
          rw [ss_rd2, decide_eq_true (show (m : Int) < (gd row 1).rows.length from by omega), inRange_nat hm, w64_id (by omega) (by omega), Int.toNat_natCast]
          cases rangeOk (sub ((gd row 1).rows.getD m []) 0 2) <;> rfl
        · show ssM N p [z, x2, y8, .i k, _, D0, _, .i ((gd row 1).rows.length : Int), _, _, _, _] = _
          rw [ss_rd2, decide_eq_false (show ¬ ((gd row 1).rows.length : Int) < (gd row 1).rows.length from by omega)]
          rfl
  · rw [decide_eq_true (show ((gd row 1).rows.length : Int) > 16 from by omega), decide_eq_false h16]
    simp only [cond_true, Bool.false_and, cond_false]
def s_SharesOkE : Ent := (144, e1 (sd (.sl 118)) fun p => (⟨rb, [.b (sharesOk (gd p 0))]⟩, true))
theorem s_SharesOk_ok : EntOk Tryz.prog s_SharesOkE := e1_ok fun p _ => evFn_sound (N := (gd p 0).rows.length + 17) (ks := [0, 2, 3, 4, 5, 8, 12, 55, 60, 69]) (key := bo) tbSS_ok (enters Tryz.func144 (by kernel_rfl) (by kernel_rfl)) Tryz.func144 fun hw => by
  have hl := wt_sl (hw ⟨sd (.sl 118), p⟩ (by simp))
  rw [ss_ev]
  by_cases h4 : ((gd p 0).rows.length : Int) ≤ 4
  · have e := all_loop (L := ssL ((gd p 0).rows.length + 17) p) (fun k => [gd p 0, D0, .b (decide (((gd p 0).rows.length : Int) > 4)), .i (k : Int)]) (gd p 0).rows.length (shareAt (gd p 0)) [.b false] [gd p 0, D0, .b (decide (((gd p 0).rows.length : Int) > 4)), .i (gd p 0).rows.length] 0 (fun k hk => ?_) ?_ (N := (gd p 0).rows.length + 17) (by omega)
    · simp only [Int.natCast_zero] at e
      rw [e, show decide (((gd p 0).rows.length : Int) > 4) = false from decide_eq_false (by omega)]
      simp only [sharesOk, h4, decide_true, Bool.true_and]
      cases (List.range (gd p 0).rows.length).all (shareAt (gd p 0)) <;> rfl
    · show ssL _ p [gd p 0, D0, _, .i (k : Int)] = _
      rw [ss_rd, decide_eq_true (show (k : Int) < (gd p 0).rows.length from by omega), inRange_nat hk]
      simp only [cond_true, nd, Int.toNat_natCast, shareAt, ssU_ok p _ _ _ _ _ _ (show 17 ≤ (gd p 0).rows.length + 17 from by omega)]
      cases inB (gd ((gd p 0).rows.getD k []) 0).int 0 3 <;> simp only [Bool.not_true, Bool.not_false, cond_true, cond_false, Bool.false_and, Bool.true_and] <;> first | rfl | skip
      rw [w64_id (x := (k : Int) + 1) (by omega) (by omega)]
      by_cases h0 : k = 0
      · subst h0
        cases readsOk (gd ((gd p 0).rows.getD 0 []) 1) && (writesOk (gd ((gd p 0).rows.getD 0 []) 2) && inB (gd ((gd p 0).rows.getD 0 []) 3).int 0 2) <;> rfl
      · rw [decide_eq_true (show (k : Int) > 0 from by omega), pre_nat h0 (by omega), inRange_nat (show k - 1 < (gd p 0).rows.length from by omega), show (k == 0) = false from by simpa using h0]
        simp only [cond_true, Int.toNat_natCast, Bool.false_or]
        cases decide ((gd ((gd p 0).rows.getD (k - 1) []) 0).int ≥ (gd ((gd p 0).rows.getD k []) 0).int) <;> cases readsOk (gd ((gd p 0).rows.getD k []) 1) && (writesOk (gd ((gd p 0).rows.getD k []) 2) && inB (gd ((gd p 0).rows.getD k []) 3).int 0 2) <;> rfl
    · show ssL _ p [gd p 0, D0, _, .i ((gd p 0).rows.length : Int)] = _
      rw [ss_rd, decide_eq_false (show ¬ ((gd p 0).rows.length : Int) < (gd p 0).rows.length from by omega)]
      rfl
  · rw [decide_eq_true (show ((gd p 0).rows.length : Int) > 4 from by omega)]
    simp only [sharesOk, h4, decide_false, Bool.false_and]
    rfl
end Go.Proofs.YtchceahcaaibcaaGreat
namespace Go.Proofs.YtchceahcaaibcaaGreat
set_option linter.unusedSimpArgs false
set_option linter.unusedVariables false
set_option maxRecDepth 4096
def stateOk (p : List D) : Bool :=
  bif (gd p 3).int == 1 then ((gd p 4).rows.length : Int) == 0 else bif (gd p 3).int == 2 then votesAny (gd p 4) 0 && !votesAny (gd p 4) 2 else bif (gd p 3).int == 3 then !votesAny (gd p 4) 0 && !votesAny (gd p 4) 2 else (gd p 3).int == 4
def recOk (p : List D) : Bool := inB (gd p 1).int 0 1000000000 && (inB (gd p 2).int 1 1000000000 && (sharesOk (gd p 4) && stateOk p))
abbrev tbIR : FuncId → List T → Option (T × Bool) := find [i_isWholeE, i_isReqE, i_SharesOkE, i_votesE]
theorem tbIR_ok : CallOk Tryz.prog tbIR := find_ok (List.forall_mem_cons.2 ⟨i_isWhole_ok, List.forall_mem_cons.2 ⟨i_isReq_ok, List.forall_mem_cons.2 ⟨i_SharesOk_ok, List.forall_mem_cons.2 ⟨i_votes_ok, List.forall_mem_nil _⟩⟩⟩⟩)
theorem ir_ev (p : List D) (N : Nat) : evFn Tryz.prog tbIR N [0, 1, 2, 18, 20, 21, 27, 38] Tryz.f157 rb [⟨ag rIRec, p⟩] = some (bo,
   bif !inB (gd p 1).int 0 1000000000 then ob false else bif !inB (gd p 2).int 1 1000000000 then ob false else bif !sharesOk (gd p 4) then ob false else
   bif (gd p 3).int == 1 then ob (((gd p 4).rows.length : Int) == 0) else bif (gd p 3).int == 2 then (bif votesAny (gd p 4) 0 then ob (!votesAny (gd p 4) 2) else ob false) else
   bif (gd p 3).int == 3 then (bif !votesAny (gd p 4) 0 then ob (!votesAny (gd p 4) 2) else ob false) else ob ((gd p 3).int == 4)) := by kernel_rfl
def i_recOkE : Ent := (157, e1 (ag rIRec) fun p => (⟨rb, [.b (recOk p)]⟩, true))
theorem cond_ob (c x y : Bool) : (bif c then ob x else ob y) = ob (bif c then x else y) := by cases c <;> rfl
theorem i_recOk_ok : EntOk Tryz.prog i_recOkE := e1_ok fun p _ => evFn_sound (N := 0) (ks := [0, 1, 2, 18, 20, 21, 27, 38]) (key := bo) tbIR_ok (enters Tryz.func157 (by kernel_rfl) (by kernel_rfl)) Tryz.func157 fun _ => by
  rw [ir_ev]
  show _ = some (bo, some (1, [D.b (recOk p)]))
  unfold recOk stateOk
  cases inB (gd p 1).int 0 1000000000 <;> first | rfl | skip
  cases inB (gd p 2).int 1 1000000000 <;> first | rfl | skip
  cases sharesOk (gd p 4) <;> first | rfl | skip
  cases (gd p 3).int == 1 <;> first | rfl | skip
  cases (gd p 3).int == 2 <;> cases (gd p 3).int == 3 <;> cases votesAny (gd p 4) 0 <;> first | rfl | (cases votesAny (gd p 4) 2 <;> rfl)
abbrev tbSR : FuncId → List T → Option (T × Bool) := find [s_l1WholeE, s_l1InE, s_SharesOkE, s_l14VotesE]
theorem tbSR_ok : CallOk Tryz.prog tbSR := find_ok (List.forall_mem_cons.2 ⟨s_l1Whole_ok, List.forall_mem_cons.2 ⟨s_l1In_ok, List.forall_mem_cons.2 ⟨s_SharesOk_ok, List.forall_mem_cons.2 ⟨s_l14Votes_ok, List.forall_mem_nil _⟩⟩⟩⟩)
def stateOkS (p : List D) : Bool :=
  bif (gd p 3).int == 1 then ((gd p 4).rows.length : Int) == 0 else bif (gd p 3).int == 2 then decide ((votesN (gd p 4) 0 : Int) > 0) && (votesN (gd p 4) 2 : Int) == 0 else bif (gd p 3).int == 3 then (votesN (gd p 4) 1 : Int) == (gd p 4).rows.length else (gd p 3).int == 4
theorem sr_ev (p : List D) (N : Nat) : evFn Tryz.prog tbSR N [0, 1, 2, 18, 20, 21, 27, 39] Tryz.f131 rb [⟨ag rIRec, p⟩] = some (bo,
   bif !inB (gd p 1).int 0 1000000000 then ob false else bif !inB (gd p 2).int 1 1000000000 then ob false else bif !sharesOk (gd p 4) then ob false else
   bif (gd p 3).int == 1 then ob (((gd p 4).rows.length : Int) == 0) else bif (gd p 3).int == 2 then (bif decide ((votesN (gd p 4) 0 : Int) > 0) then ob ((votesN (gd p 4) 2 : Int) == 0) else ob false) else
   bif (gd p 3).int == 3 then ob ((votesN (gd p 4) 1 : Int) == (gd p 4).rows.length) else ob ((gd p 3).int == 4)) := by kernel_rfl
theorem cnt_any (C : Nat → Bool) : ∀ m k, decide (0 < cnt C k m) = (List.range m).any fun j => C (k + j)
  | 0, k => rfl
  | m + 1, k => by
    rw [cnt, List.range_succ_eq_map, List.any_cons, List.any_map]
    cases hc : C k with
    | true => simp [hc]; omega
    | false =>
      simp only [cond_false, Nat.add_zero, hc, Bool.false_or, Nat.zero_add]
      rw [cnt_any C m (k + 1)]
      congr 1; funext j; simp only [Function.comp]; congr 1; omega
theorem cnt_all (C : Nat → Bool) : ∀ m k, decide (cnt C k m = m) = (List.range m).all fun j => C (k + j)
  | 0, k => rfl
  | m + 1, k => by
    have hle := cnt_le C m (k + 1)
    rw [cnt, List.range_succ_eq_map, List.all_cons, List.all_map]
    cases hc : C k with
    | true =>
      simp only [cond_true, Nat.add_zero, hc, Bool.true_and]
      have := cnt_all C m (k + 1)
      have e : decide (1 + cnt C (k + 1) m = m + 1) = decide (cnt C (k + 1) m = m) := decide_eq_decide.2 (by omega)
      rw [e, this]
      congr 1; funext j; simp only [Function.comp]; congr 1; omega
    | false => simp only [cond_false, Nat.zero_add, Nat.add_zero, hc, Bool.false_and, decide_eq_false_iff_not]; omega
theorem votesN_pos (z : D) (v : Int) : decide ((votesN z v : Int) > 0) = votesAny z v := by
  have := cnt_any (fun k => (gd (sub (z.rows.getD k []) 0 4) 3).int == v) z.rows.length 0
  simp only [Nat.zero_add] at this
  rw [show decide ((votesN z v : Int) > 0) = decide (0 < votesN z v) from decide_eq_decide.2 (by omega)]
  exact this
theorem votesN_zero (z : D) (v : Int) : ((votesN z v : Int) == 0) = !votesAny z v := by
  rw [← votesN_pos]
  by_cases h : votesN z v = 0
  · simp [h]
  · rw [decide_eq_true (show (votesN z v : Int) > 0 from by omega)]
    exact beq_eq_false_iff_ne.2 (by omega)
theorem votesN_all {z : D} (h : sharesOk z = true) : ((votesN z 1 : Int) == z.rows.length) = (!votesAny z 0 && !votesAny z 2) := by
  have := cnt_all (fun k => (gd (sub (z.rows.getD k []) 0 4) 3).int == 1) z.rows.length 0
  simp only [Nat.zero_add] at this
  rw [show ((votesN z 1 : Int) == z.rows.length) = decide (votesN z 1 = z.rows.length) from by
    by_cases e : votesN z 1 = z.rows.length
    · rw [decide_eq_true e]; exact beq_iff_eq.2 (by omega)
    · rw [decide_eq_false e]; exact beq_eq_false_iff_ne.2 (by omega)]
  rw [show decide (votesN z 1 = z.rows.length) = _ from this]
  have hs : ∀ k, k < z.rows.length → inB (gd (sub (z.rows.getD k []) 0 4) 3).int 0 2 = true := fun k hk => by
    simp only [sharesOk, Bool.and_eq_true, List.all_eq_true] at h
    have := h.2 k (List.mem_range.2 hk)
    simp only [shareAt, Bool.and_eq_true] at this
    exact this.2.2.2.2
  rw [Bool.eq_iff_iff]
  simp only [votesAny, anyS, Bool.and_eq_true, Bool.not_eq_true', List.all_eq_true, List.any_eq_false, List.mem_range, beq_iff_eq]
  constructor
  · intro h1
    exact ⟨fun k hk e => absurd (e.symm.trans (h1 k hk)) (by decide), fun k hk e => absurd (e.symm.trans (h1 k hk)) (by decide)⟩
  · rintro ⟨h1, h2⟩ k hk
    have := hs k hk
    simp only [inB, Bool.and_eq_true, decide_eq_true_eq] at this
    have n0 := h1 k hk
    have n2 := h2 k hk
    omega
def s_l14RecOkE : Ent := (131, e1 (ag rIRec) fun p => (⟨rb, [.b (recOk p)]⟩, true))
theorem s_l14RecOk_ok : EntOk Tryz.prog s_l14RecOkE := e1_ok fun p _ => evFn_sound (N := 0) (ks := [0, 1, 2, 18, 20, 21, 27, 39]) (key := bo) tbSR_ok (enters Tryz.func131 (by kernel_rfl) (by kernel_rfl)) Tryz.func131 fun _ => by
  rw [sr_ev, votesN_pos, votesN_zero]
  show _ = some (bo, some (1, [D.b (recOk p)]))
  unfold recOk stateOk
  cases inB (gd p 1).int 0 1000000000 <;> first | rfl | skip
  cases inB (gd p 2).int 1 1000000000 <;> first | rfl | skip
  cases hs : sharesOk (gd p 4) <;> first | rfl | skip
  rw [votesN_all hs]
  cases (gd p 3).int == 1 <;> first | rfl | skip
  cases (gd p 3).int == 2 <;> cases (gd p 3).int == 3 <;> cases votesAny (gd p 4) 0 <;> first | rfl | (cases votesAny (gd p 4) 2 <;> rfl)
end Go.Proofs.YtchceahcaaibcaaGreat
