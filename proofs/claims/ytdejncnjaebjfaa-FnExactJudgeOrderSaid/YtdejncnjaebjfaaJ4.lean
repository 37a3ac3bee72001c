/-
  The judge: votes and numbers. Printed by genj4.py.
-/
import Derived.Test.YtdejncnjaebjfaaJ3
namespace Go.Proofs.Ytdejncnjaebjfaa
set_option maxRecDepth 4096
def readsOk (z : D) : Bool := decide ((z.rows.length : Int) ≤ 16) && !anyS (fun r => !rangeOk (sub r 0 2)) z
def votesAny (z : D) (v : Int) : Bool := anyS (fun r => (gd (sub r 0 4) 3).int == v) z
def hasInt (z : D) (x : Int) : Bool := anyS (fun r => x == (gd r 0).int) z
def cnt (C : Nat → Bool) : Nat → Nat → Nat
  | _, 0 => 0
  | k, m + 1 => (bif C k then 1 else 0) + cnt C (k + 1) m
theorem cnt_le (C : Nat → Bool) : ∀ m k, cnt C k m ≤ m
  | 0, k => Nat.le_refl _
  | m + 1, k => by
    have := cnt_le C m (k + 1)
    rw [cnt]
    cases C k <;> simp only [cond_true, cond_false] <;> omega
def votesN (z : D) (v : Int) : Nat := cnt (fun k => (gd (sub (z.rows.getD k []) 0 4) 3).int == v) 0 z.rows.length
theorem not_all {n : Nat} {C : Nat → Bool} : (!(List.range n).all fun k => !C k) = (List.range n).any C := by simp [List.all_eq_not_any_not]

theorem i_readsOk_ev (p : List D) (N : Nat) : evFn Try.prog (find [cofRE]) N [0, 2] Try.f123 (rb) [⟨sd (.sl 97), p⟩] = some (bo, bif decide (((gd p 0).rows.length : Int) ≤ 16) then ob (!anyS (fun r => !rangeOk (sub r 0 2)) (gd p 0)) else ob false) := by kernel_rfl
def i_readsOkE : Ent := (123, e1 (sd (.sl 97)) fun p => (⟨rb, [.b (readsOk (gd p 0))]⟩, true))
theorem i_readsOk_ok : EntOk Try.prog i_readsOkE := e1_ok fun p h => evFn_sound (N := 0) (ks := [0, 2]) (key := bo) (find_ok (List.forall_mem_cons.2 ⟨cofR_ok, List.forall_mem_nil _⟩)) (enters Try.func123 (by kernel_rfl) (by kernel_rfl)) Try.func123 fun _ => by
  rw [i_readsOk_ev]
  rw [and_ob]; rfl

theorem i_votes_ev (p q : List D) (N : Nat) : evFn Try.prog (find [cofVE]) N [0, 1, 3, 4] Try.f110 (rb) [⟨sd (.sl 88), p⟩, ⟨ri, q⟩] = some (bo, ob (votesAny (gd p 0) (gd q 0).int)) := by kernel_rfl
def i_votesE : Ent := (110, e2 (sd (.sl 88)) (ri) fun p q => (⟨rb, [.b (votesAny (gd p 0) (gd q 0).int)]⟩, true))
theorem i_votes_ok : EntOk Try.prog i_votesE := e2_ok fun p q h => evFn_sound (N := 0) (ks := [0, 1, 3, 4]) (key := bo) (find_ok (List.forall_mem_cons.2 ⟨cofV_ok, List.forall_mem_nil _⟩)) (enters Try.func110 (by kernel_rfl) (by kernel_rfl)) Try.func110 fun _ => by
  rw [i_votes_ev]
  skip

theorem i_isRec_ev (p q : List D) (N : Nat) : evFn Try.prog (find [i_fromE]) N [0, 1, 2, 4] Try.f89 (rb) [⟨ag rICoord, p⟩, ⟨ri, q⟩] = some (bo, ob (inB (gd q 0).int 1 (gd p 0).rows.length)) := by kernel_rfl
def i_isRecE : Ent := (89, e2 (ag rICoord) (ri) fun p q => (⟨rb, [.b (inB (gd q 0).int 1 (gd p 0).rows.length)]⟩, true))
theorem i_isRec_ok : EntOk Try.prog i_isRecE := e2_ok fun p q h => evFn_sound (N := 0) (ks := [0, 1, 2, 4]) (key := bo) (find_ok (List.forall_mem_cons.2 ⟨i_from_ok, List.forall_mem_nil _⟩)) (enters Try.func89 (by kernel_rfl) (by kernel_rfl)) Try.func89 fun _ => by
  rw [i_isRec_ev]
  skip

noncomputable def s_l12HasL (N : Nat) (p q : List D) : List D → Out := loopOf Try.prog (find []) N [0, 1, 4, 5, 9, 17] Try.f91 rb [⟨sd (.sl 3), p⟩, ⟨ri, q⟩] 0
theorem s_l12Has_rd (p q : List D) (N : Nat) (z x y : D) (k : Int) : s_l12HasL N p q [z, x, y, .i k] = bif decide (k < z.rows.length) then nd (inRange k z.rows.length) (bif ((gd (z.rows.getD k.toNat []) 0).int == x.int) then ob true else nx [z, x, y, .i (w64 (k + 1))]) else ex 0 [z, x, y, .i k] := by kernel_rfl
theorem s_l12Has_ev (p q : List D) (N : Nat) : evFn Try.prog (find []) N [0, 1, 4, 5, 9, 17] Try.f91 rb [⟨sd (.sl 3), p⟩, ⟨ri, q⟩] = some (bo, (let o := iter (s_l12HasL N p q) N [gd p 0, gd q 0, D0, .i 0]
   nd o.isSome (bif o.code == 1 then some (1, o.pay) else nd (o.code == 2) (ob false)))) := by kernel_rfl
def s_l12HasE : Ent := (91, e2 (sd (.sl 3)) ri fun p q => (⟨rb, [.b (hasInt (gd p 0) (gd q 0).int)]⟩, true))
theorem s_l12Has_ok : EntOk Try.prog s_l12HasE := e2_ok fun p q _ => evFn_sound (N := (gd p 0).rows.length + 1) (ks := [0, 1, 4, 5, 9, 17]) (key := bo) (find_ok (List.forall_mem_nil _)) (enters Try.func91 (by kernel_rfl) (by kernel_rfl)) Try.func91 fun hw => by
  have hl := wt_sl (hw ⟨sd (.sl 3), p⟩ (by simp))
  have e := all_loop (L := s_l12HasL ((gd p 0).rows.length + 1) p q) (fun k => [gd p 0, gd q 0, D0, .i (k : Int)]) (gd p 0).rows.length (fun k => !((gd q 0).int == (gd ((gd p 0).rows.getD k []) 0).int)) [.b true] [gd p 0, gd q 0, D0, .i (gd p 0).rows.length] 0 (fun k hk => ?_) ?_ (Nat.lt_succ_self _)
  · simp only [Int.natCast_zero] at e
    rw [s_l12Has_ev, e]
    have hn : hasInt (gd p 0) (gd q 0).int = !(List.range (gd p 0).rows.length).all fun k => !((gd q 0).int == (gd ((gd p 0).rows.getD k []) 0).int) := not_all.symm
    rw [hn]
    cases (List.range (gd p 0).rows.length).all fun k => !((gd q 0).int == (gd ((gd p 0).rows.getD k []) 0).int) <;> rfl
  · show s_l12HasL _ p q [gd p 0, gd q 0, D0, .i (k : Int)] = _
    rw [s_l12Has_rd, decide_eq_true (show (k : Int) < (gd p 0).rows.length from by omega), inRange_nat hk, w64_id (by omega) (by omega), Int.toNat_natCast, Bool.beq_comm]
    cases hcc : ((gd q 0).int == (gd ((gd p 0).rows.getD k []) 0).int) <;> rfl
  · show s_l12HasL _ p q [gd p 0, gd q 0, D0, .i ((gd p 0).rows.length : Int)] = _
    rw [s_l12Has_rd, decide_eq_false (show ¬ ((gd p 0).rows.length : Int) < (gd p 0).rows.length from by omega)]
    rfl

noncomputable def ixIL (N : Nat) (p q : List D) : List D → Out := loopOf Try.prog (find []) N [0, 1, 4, 5, 7, 8, 9, 16] Try.f53 ri [⟨sd (.sl 3), p⟩, ⟨ri, q⟩] 0
theorem ixI_rd (p q : List D) (N : Nat) (z c x : D) (n k : Int) : ixIL N p q [z, c, x, .i n, .i k] = bif decide (k < n) then nd (inRange k z.rows.length) (bif (c.int == (gd (z.rows.getD k.toNat []) 0).int) then oi k else nx [z, c, x, .i n, .i (w64 (k + 1))]) else ex 0 [z, c, x, .i n, .i k] := by kernel_rfl
theorem ixI_ev (p q : List D) (N : Nat) : evFn Try.prog (find []) N [0, 1, 4, 5, 7, 8, 9, 16] Try.f53 ri [⟨sd (.sl 3), p⟩, ⟨ri, q⟩] = some (bo, (let o := iter (ixIL N p q) N [gd p 0, gd q 0, .i 0, .i (gd p 0).rows.length, .i 0]
   nd o.isSome (bif o.code == 1 then some (1, o.pay) else nd (o.code == 2) (oi (-1))))) := by kernel_rfl
def ixIE : Ent := (53, e2 (sd (.sl 3)) ri fun p q => (⟨ri, [.i (ixF (fun k => (gd q 0).int == (gd ((gd p 0).rows.getD k []) 0).int) 0 (gd p 0).rows.length)]⟩, true))
theorem ixI_ok : EntOk Try.prog ixIE := e2_ok fun p q _ => evFn_sound (N := (gd p 0).rows.length + 1) (ks := [0, 1, 4, 5, 7, 8, 9, 16]) (key := bo) (find_ok (List.forall_mem_nil _)) (enters Try.func53 (by kernel_rfl) (by kernel_rfl)) Try.func53 fun hw => by
  have hl := wt_sl (hw ⟨sd (.sl 3), p⟩ (by simp))
  have e := ix_loop (L := ixIL ((gd p 0).rows.length + 1) p q) (fun k => [gd p 0, gd q 0, .i 0, .i (gd p 0).rows.length, .i (k : Int)]) (gd p 0).rows.length (fun k => (gd q 0).int == (gd ((gd p 0).rows.getD k []) 0).int) [gd p 0, gd q 0, .i 0, .i (gd p 0).rows.length, .i (gd p 0).rows.length] (fun k hk => ?_) ?_ (gd p 0).rows.length 0 ((gd p 0).rows.length + 1) (by omega) (by omega)
  · simp only [Int.natCast_zero] at e
    rw [ixI_ev, e]
    cases hd : decide (ixF (fun k => (gd q 0).int == (gd ((gd p 0).rows.getD k []) 0).int) 0 (gd p 0).rows.length ≥ 0)
    · rw [ixF_neg _ _ _ hd]; rfl
    · rfl
  · show ixIL _ p q [gd p 0, gd q 0, .i 0, .i _, .i (k : Int)] = _
    rw [ixI_rd, decide_eq_true (show (k : Int) < (gd p 0).rows.length from by omega), inRange_nat hk, w64_id (by omega) (by omega), Int.toNat_natCast]
    cases hcc : ((gd q 0).int == (gd ((gd p 0).rows.getD k []) 0).int) <;> rfl
  · show ixIL _ p q [gd p 0, gd q 0, .i 0, .i _, .i ((gd p 0).rows.length : Int)] = _
    rw [ixI_rd, decide_eq_false (show ¬ ((gd p 0).rows.length : Int) < (gd p 0).rows.length from by omega)]
    rfl

theorem coI_ev (p q : List D) (N : Nat) : evFn Try.prog (find [ixIE]) N [0, 1, 4] Try.f68 rb [⟨sd (.sl 3), p⟩, ⟨ri, q⟩] = some (bo, ob (decide (ixF (fun k => (gd q 0).int == (gd ((gd p 0).rows.getD k []) 0).int) 0 (gd p 0).rows.length ≥ 0))) := by kernel_rfl
def coIE : Ent := (68, e2 (sd (.sl 3)) ri fun p q => (⟨rb, [.b (hasInt (gd p 0) (gd q 0).int)]⟩, true))
theorem coI_ok : EntOk Try.prog coIE := e2_ok fun p q _ => evFn_sound (N := 0) (ks := [0, 1, 4]) (key := bo) (find_ok (List.forall_mem_cons.2 ⟨ixI_ok, List.forall_mem_nil _⟩)) (enters Try.func68 (by kernel_rfl) (by kernel_rfl)) Try.func68 fun _ => by
  rw [coI_ev, ixF_any]
  simp only [Nat.zero_add]
  rfl

noncomputable def s_l14VotesL (N : Nat) (p q : List D) : List D → Out := loopOf Try.prog (find []) N [0, 1, 4, 5, 6, 10, 19] Try.f106 ri [⟨sd (.sl 88), p⟩, ⟨ri, q⟩] 0
theorem s_l14Votes_rd (p q : List D) (N : Nat) (z x y : D) (n k : Int) : s_l14VotesL N p q [z, x, y, .i n, .i k] = bif decide (k < z.rows.length) then nd (inRange k z.rows.length) (bif ((gd (sub (z.rows.getD k.toNat []) 0 4) 3).int == x.int) then nx [z, x, y, .i (w64 (n + 1)), .i (w64 (k + 1))] else nx [z, x, y, .i n, .i (w64 (k + 1))]) else ex 0 [z, x, y, .i n, .i k] := by kernel_rfl
theorem s_l14Votes_ev (p q : List D) (N : Nat) : evFn Try.prog (find []) N [0, 1, 4, 5, 6, 10, 19] Try.f106 ri [⟨sd (.sl 88), p⟩, ⟨ri, q⟩] = some (bo, (let o := iter (s_l14VotesL N p q) N [gd p 0, gd q 0, .i 0, .i 0, .i 0]
   nd o.isSome (nd (o.code == 2) (some (1, [gd o.pay 3]))))) := by kernel_rfl
def s_l14VotesE : Ent := (106, e2 (sd (.sl 88)) ri fun p q => (⟨ri, [.i (votesN (gd p 0) (gd q 0).int)]⟩, true))
theorem s_l14Votes_ok : EntOk Try.prog s_l14VotesE := e2_ok fun p q _ => evFn_sound (N := (gd p 0).rows.length + 1) (ks := [0, 1, 4, 5, 6, 10, 19]) (key := bo) (find_ok (List.forall_mem_nil _)) (enters Try.func106 (by kernel_rfl) (by kernel_rfl)) Try.func106 fun hw => by
  have hl := wt_sl (hw ⟨sd (.sl 88), p⟩ (by simp))
  have H : ∀ (m k N : Nat) (n : Int), k + m = (gd p 0).rows.length → m < N → 0 ≤ n → n + m ≤ 9223372036854775807 → iter (s_l14VotesL ((gd p 0).rows.length + 1) p q) N [gd p 0, gd q 0, .i 0, .i n, .i (k : Int)] = some (2, [gd p 0, gd q 0, .i 0, .i (n + cnt (fun k => (gd (sub ((gd p 0).rows.getD k []) 0 4) 3).int == (gd q 0).int) k m), .i (gd p 0).rows.length]) := by
    intro m
    induction m with
    | zero =>
      intro k N n hk hN h0 h1
      obtain ⟨N, rfl⟩ : ∃ N', N = N' + 1 := ⟨N - 1, by omega⟩
      have hk : k = (gd p 0).rows.length := by omega
      subst hk
      rw [iter, s_l14Votes_rd, decide_eq_false (show ¬ ((gd p 0).rows.length : Int) < (gd p 0).rows.length from by omega)]
      simp [cnt]
    | succ m ih =>
      intro k N n hk hN h0 h1
      obtain ⟨N, rfl⟩ : ∃ N', N = N' + 1 := ⟨N - 1, by omega⟩
      have hlt : k < (gd p 0).rows.length := by omega
      rw [iter, s_l14Votes_rd, decide_eq_true (show (k : Int) < (gd p 0).rows.length from by omega), inRange_nat hlt, w64_id (x := (k : Int) + 1) (by omega) (by omega), w64_id (x := n + 1) (by omega) (by omega), Int.toNat_natCast, cnt]
      cases hcc : ((gd (sub ((gd p 0).rows.getD k []) 0 4) 3).int == (gd q 0).int) with
      | true =>
        simp only [cond_true, nd]
        rw [show ((k : Int) + 1) = ((k + 1 : Nat) : Int) from by simp, ih (k + 1) N (n + 1) (by omega) (by omega) (by omega) (by omega)]
        have e2 : ∀ c : Nat, n + 1 + (c : Int) = n + ((1 + c : Nat) : Int) := fun c => by omega
        rw [e2]
      | false =>
        simp only [cond_true, cond_false, nd, Nat.zero_add]
        rw [show ((k : Int) + 1) = ((k + 1 : Nat) : Int) from by simp, ih (k + 1) N n (by omega) (by omega) (by omega) (by omega)]
  have e := H (gd p 0).rows.length 0 ((gd p 0).rows.length + 1) 0 (by omega) (by omega) (by omega) (by omega)
  simp only [Int.natCast_zero, Int.zero_add] at e
  rw [s_l14Votes_ev, e]
  rfl

end Go.Proofs.Ytdejncnjaebjfaa
