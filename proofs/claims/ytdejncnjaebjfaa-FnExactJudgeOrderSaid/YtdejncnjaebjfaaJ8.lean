/-
  The judge: records.
-/
import Derived.Test.YtdejncnjaebjfaaJ7
namespace Go.Proofs.Ytdejncnjaebjfaa
set_option maxRecDepth 4096
def stateOk (p : List D) : Bool :=
  bif (gd p 3).int == 1 then ((gd p 4).rows.length : Int) == 0 else bif (gd p 3).int == 2 then votesAny (gd p 4) 0 && !votesAny (gd p 4) 2 else bif (gd p 3).int == 3 then !votesAny (gd p 4) 0 && !votesAny (gd p 4) 2 else (gd p 3).int == 4
def recOk (p : List D) : Bool := inB (gd p 1).int 0 1000000000 && (inB (gd p 2).int 1 1000000000 && (sharesOk (gd p 4) && stateOk p))
abbrev tbIR : FuncId → List T → Option (T × Bool) := find [i_isWholeE, i_isReqE, i_SharesOkE, i_votesE]
theorem tbIR_ok : CallOk Try.prog tbIR := find_ok (List.forall_mem_cons.2 ⟨i_isWhole_ok, List.forall_mem_cons.2 ⟨i_isReq_ok, List.forall_mem_cons.2 ⟨i_SharesOk_ok, List.forall_mem_cons.2 ⟨i_votes_ok, List.forall_mem_nil _⟩⟩⟩⟩)
theorem ir_ev (p : List D) (N : Nat) : evFn Try.prog tbIR N [0, 1, 2, 18, 20, 21, 27, 38] Try.f92 rb [⟨ag rIRec, p⟩] = some (bo,
   bif !inB (gd p 1).int 0 1000000000 then ob false else bif !inB (gd p 2).int 1 1000000000 then ob false else bif !sharesOk (gd p 4) then ob false else
   bif (gd p 3).int == 1 then ob (((gd p 4).rows.length : Int) == 0) else bif (gd p 3).int == 2 then (bif votesAny (gd p 4) 0 then ob (!votesAny (gd p 4) 2) else ob false) else
   bif (gd p 3).int == 3 then (bif !votesAny (gd p 4) 0 then ob (!votesAny (gd p 4) 2) else ob false) else ob ((gd p 3).int == 4)) := by kernel_rfl
def i_recOkE : Ent := (92, e1 (ag rIRec) fun p => (⟨rb, [.b (recOk p)]⟩, true))
theorem cond_ob (c x y : Bool) : (bif c then ob x else ob y) = ob (bif c then x else y) := by cases c <;> rfl
theorem i_recOk_ok : EntOk Try.prog i_recOkE := e1_ok fun p _ => evFn_sound (N := 0) (ks := [0, 1, 2, 18, 20, 21, 27, 38]) (key := bo) tbIR_ok (enters Try.func92 (by kernel_rfl) (by kernel_rfl)) Try.func92 fun _ => by
  rw [ir_ev]
  show _ = some (bo, some (1, [D.b (recOk p)]))
  unfold recOk stateOk
  cases inB (gd p 1).int 0 1000000000 <;> first | rfl | skip
  cases inB (gd p 2).int 1 1000000000 <;> first | rfl | skip
  cases sharesOk (gd p 4) <;> first | rfl | skip
  cases (gd p 3).int == 1 <;> first | rfl | skip
  cases (gd p 3).int == 2 <;> cases (gd p 3).int == 3 <;> cases votesAny (gd p 4) 0 <;> first | rfl | (cases votesAny (gd p 4) 2 <;> rfl)
abbrev tbSR : FuncId → List T → Option (T × Bool) := find [s_l1WholeE, s_l1InE, s_SharesOkE, s_l14VotesE]
theorem tbSR_ok : CallOk Try.prog tbSR := find_ok (List.forall_mem_cons.2 ⟨s_l1Whole_ok, List.forall_mem_cons.2 ⟨s_l1In_ok, List.forall_mem_cons.2 ⟨s_SharesOk_ok, List.forall_mem_cons.2 ⟨s_l14Votes_ok, List.forall_mem_nil _⟩⟩⟩⟩)
def stateOkS (p : List D) : Bool :=
  bif (gd p 3).int == 1 then ((gd p 4).rows.length : Int) == 0 else bif (gd p 3).int == 2 then decide ((votesN (gd p 4) 0 : Int) > 0) && (votesN (gd p 4) 2 : Int) == 0 else bif (gd p 3).int == 3 then (votesN (gd p 4) 1 : Int) == (gd p 4).rows.length else (gd p 3).int == 4
theorem sr_ev (p : List D) (N : Nat) : evFn Try.prog tbSR N [0, 1, 2, 18, 20, 21, 27, 39] Try.f90 rb [⟨ag rIRec, p⟩] = some (bo,
   bif !inB (gd p 1).int 0 1000000000 then ob false else bif !inB (gd p 2).int 1 1000000000 then ob false else bif !sharesOk (gd p 4) then ob false else
   bif (gd p 3).int == 1 then ob (((gd p 4).rows.length : Int) == 0) else bif (gd p 3).int == 2 then (bif decide ((votesN (gd p 4) 0 : Int) > 0) then ob ((votesN (gd p 4) 2 : Int) == 0) else ob false) else
   bif (gd p 3).int == 3 then ob ((votesN (gd p 4) 1 : Int) == (gd p 4).rows.length) else ob ((gd p 3).int == 4)) := by kernel_rfl
theorem cnt_any (C : Nat → Bool) : ∀ m k, decide (0 < cnt C k m) = (List.range m).any fun j => C (k + j)
  | 0, k => rfl
  | m + 1, k => by
    rw [cnt, List.range_succ_eq_map, List.any_cons, List.any_map]
    cases hc : C k with
    | true => simp [hc]; omega
    | false =>
      simp only [cond_false, Nat.add_zero, hc, Bool.false_or, Nat.zero_add]
      rw [cnt_any C m (k + 1)]
      congr 1; funext j; simp only [Function.comp]; congr 1; omega
theorem cnt_all (C : Nat → Bool) : ∀ m k, decide (cnt C k m = m) = (List.range m).all fun j => C (k + j)
  | 0, k => rfl
  | m + 1, k => by
    have hle := cnt_le C m (k + 1)
    rw [cnt, List.range_succ_eq_map, List.all_cons, List.all_map]
    cases hc : C k with
    | true =>
      simp only [cond_true, Nat.add_zero, hc, Bool.true_and]
      have := cnt_all C m (k + 1)
      have e : decide (1 + cnt C (k + 1) m = m + 1) = decide (cnt C (k + 1) m = m) := decide_eq_decide.2 (by omega)
      rw [e, this]
      congr 1; funext j; simp only [Function.comp]; congr 1; omega
    | false => simp only [cond_false, Nat.zero_add, Nat.add_zero, hc, Bool.false_and, decide_eq_false_iff_not]; omega
theorem votesN_pos (z : D) (v : Int) : decide ((votesN z v : Int) > 0) = votesAny z v := by
  have := cnt_any (fun k => (gd (sub (z.rows.getD k []) 0 4) 3).int == v) z.rows.length 0
  simp only [Nat.zero_add] at this
  rw [show decide ((votesN z v : Int) > 0) = decide (0 < votesN z v) from decide_eq_decide.2 (by omega)]
  exact this
theorem votesN_zero (z : D) (v : Int) : ((votesN z v : Int) == 0) = !votesAny z v := by
  rw [← votesN_pos]
  by_cases h : votesN z v = 0
  · simp [h]
  · rw [decide_eq_true (show (votesN z v : Int) > 0 from by omega)]
    exact beq_eq_false_iff_ne.2 (by omega)
theorem votesN_all {z : D} (h : sharesOk z = true) : ((votesN z 1 : Int) == z.rows.length) = (!votesAny z 0 && !votesAny z 2) := by
  have := cnt_all (fun k => (gd (sub (z.rows.getD k []) 0 4) 3).int == 1) z.rows.length 0
  simp only [Nat.zero_add] at this
  rw [show ((votesN z 1 : Int) == z.rows.length) = decide (votesN z 1 = z.rows.length) from by
    by_cases e : votesN z 1 = z.rows.length
    · rw [decide_eq_true e]; exact beq_iff_eq.2 (by omega)
    · rw [decide_eq_false e]; exact beq_eq_false_iff_ne.2 (by omega)]
  rw [show decide (votesN z 1 = z.rows.length) = _ from this]
  have hs : ∀ k, k < z.rows.length → inB (gd (sub (z.rows.getD k []) 0 4) 3).int 0 2 = true := fun k hk => by
    simp only [sharesOk, Bool.and_eq_true, List.all_eq_true] at h
    have := h.2 k (List.mem_range.2 hk)
    simp only [shareAt, Bool.and_eq_true] at this
    exact this.2.2.2.2
  rw [Bool.eq_iff_iff]
  simp only [votesAny, anyS, Bool.and_eq_true, Bool.not_eq_true', List.all_eq_true, List.any_eq_false, List.mem_range, beq_iff_eq]
  constructor
  · intro h1
    exact ⟨fun k hk e => absurd (e.symm.trans (h1 k hk)) (by decide), fun k hk e => absurd (e.symm.trans (h1 k hk)) (by decide)⟩
  · rintro ⟨h1, h2⟩ k hk
    have := hs k hk
    simp only [inB, Bool.and_eq_true, decide_eq_true_eq] at this
    have n0 := h1 k hk
    have n2 := h2 k hk
    omega
def s_l14RecOkE : Ent := (90, e1 (ag rIRec) fun p => (⟨rb, [.b (recOk p)]⟩, true))
theorem s_l14RecOk_ok : EntOk Try.prog s_l14RecOkE := e1_ok fun p _ => evFn_sound (N := 0) (ks := [0, 1, 2, 18, 20, 21, 27, 39]) (key := bo) tbSR_ok (enters Try.func90 (by kernel_rfl) (by kernel_rfl)) Try.func90 fun _ => by
  rw [sr_ev, votesN_pos, votesN_zero]
  show _ = some (bo, some (1, [D.b (recOk p)]))
  unfold recOk stateOk
  cases inB (gd p 1).int 0 1000000000 <;> first | rfl | skip
  cases inB (gd p 2).int 1 1000000000 <;> first | rfl | skip
  cases hs : sharesOk (gd p 4) <;> first | rfl | skip
  rw [votesN_all hs]
  cases (gd p 3).int == 1 <;> first | rfl | skip
  cases (gd p 3).int == 2 <;> cases (gd p 3).int == 3 <;> cases votesAny (gd p 4) 0 <;> first | rfl | (cases votesAny (gd p 4) 2 <;> rfl)
end Go.Proofs.Ytdejncnjaebjfaa
