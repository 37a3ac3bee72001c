/-
  The judge: what is looked for. Printed by genj3.py.
-/
import Derived.Test.YtdejncnjaebjfaaJ2
namespace Go.Proofs.Ytdejncnjaebjfaa
set_option maxRecDepth 4096
def ixF (C : Nat → Bool) : Nat → Nat → Int
  | _, 0 => -1
  | k, m + 1 => bif C k then k else ixF C (k + 1) m
theorem ixF_any (C : Nat → Bool) : ∀ (m k : Nat), decide (ixF C k m ≥ 0) = (List.range m).any fun j => C (k + j)
  | 0, k => rfl
  | m + 1, k => by
    rw [ixF, List.range_succ_eq_map, List.any_cons, List.any_map]
    cases hc : C k with
    | true => simp [hc]
    | false =>
      simp only [cond_false, Nat.add_zero, hc, Bool.false_or]
      rw [ixF_any C m (k + 1)]
      congr 1
      funext j
      simp only [Function.comp]
      congr 1; omega
theorem ix_loop {L : List D → Out} (st : Nat → List D) (n : Nat) (C : Nat → Bool) (fin : List D) (h1 : ∀ k, k < n → L (st k) = some (bif C k then (1, [.i (k : Int)]) else (0, st (k + 1)))) (h2 : L (st n) = some (2, fin)) :
    ∀ (m k N : Nat), k + m = n → m < N → iter L N (st k) = some (bif decide (ixF C k m ≥ 0) then (1, [.i (ixF C k m)]) else (2, fin)) := by
  intro m
  induction m with
  | zero =>
    intro k N hk hN
    obtain ⟨N, rfl⟩ : ∃ N', N = N' + 1 := ⟨N - 1, by omega⟩
    obtain rfl : k = n := by omega
    rw [iter, h2]; rfl
  | succ m ih =>
    intro k N hk hN
    obtain ⟨N, rfl⟩ : ∃ N', N = N' + 1 := ⟨N - 1, by omega⟩
    rw [iter, h1 k (by omega), ixF]
    cases hc : C k with
    | true => simp only [cond_true]; rw [decide_eq_true (show (k : Int) ≥ 0 from by omega)]; rfl
    | false => simp only [cond_false]; exact ih (k + 1) N (by omega) (by omega)
/-- whether one of the rows is so -/
def anyS (C : List D → Bool) (z : D) : Bool := (List.range z.rows.length).any fun k => C (z.rows.getD k [])

theorem ixF_neg (C : Nat → Bool) : ∀ (m k : Nat), decide (ixF C k m ≥ 0) = false → ixF C k m = -1
  | 0, k, _ => rfl
  | m + 1, k, h => by
    rw [ixF] at h ⊢
    cases hc : C k with
    | true => rw [hc, cond_true, decide_eq_true (show (k : Int) ≥ 0 from by omega)] at h; cases h
    | false => rw [hc, cond_false] at h; rw [cond_false]; exact ixF_neg C m (k + 1) h

theorem i_readsOk_1_ev (p : List D) (N : Nat) : evFn Try.prog (find [i_RangeOkE]) N [0, 1, 2] Try.f138 (rb) [⟨ag rIRange, p⟩] = some (bo, ob (!rangeOk p)) := by kernel_rfl
def i_readsOk_1E : Ent := (138, e1 (ag rIRange) fun p => (⟨rb, [.b (!rangeOk p)]⟩, true))
theorem i_readsOk_1_ok : EntOk Try.prog i_readsOk_1E := e1_ok fun p h => evFn_sound (N := 0) (ks := [0, 1, 2]) (key := bo) (find_ok (List.forall_mem_cons.2 ⟨i_RangeOk_ok, List.forall_mem_nil _⟩)) (enters Try.func138 (by kernel_rfl) (by kernel_rfl)) Try.func138 fun _ => by
  rw [i_readsOk_1_ev]
  skip

theorem i_votes_1_ev (p q : List D) (N : Nat) : evFn Try.prog (find []) N [0, 1, 2, 3] Try.f126 (rb) [⟨ag rIShare, p⟩, ⟨.one (.c (.cptr [si] 0)), q⟩] = some (bo, ob ((gd p 3).int == (gd ((gd q 0).rows.getD 0 []) 0).int)) := by kernel_rfl
def i_votes_1E : Ent := (126, e2 (ag rIShare) (.one (.c (.cptr [si] 0))) fun p q => (⟨rb, [.b ((gd p 3).int == (gd ((gd q 0).rows.getD 0 []) 0).int)]⟩, true))
theorem i_votes_1_ok : EntOk Try.prog i_votes_1E := e2_ok fun p q h => evFn_sound (N := 0) (ks := [0, 1, 2, 3]) (key := bo) (find_ok (List.forall_mem_nil _)) (enters Try.func126 (by kernel_rfl) (by kernel_rfl)) Try.func126 fun _ => by
  rw [i_votes_1_ev]
  skip

theorem i_CoordOk_1_ev (p q : List D) (N : Nat) : evFn Try.prog (find []) N [0, 1, 2, 3] Try.f94 (rb) [⟨ag rIRec, p⟩, ⟨.one (.c (.cptr rIRec 0)), q⟩] = some (bo, bif ((gd p 1).int == (gd ((gd q 0).rows.getD 0 []) 1).int) then ob ((gd p 2).int == (gd ((gd q 0).rows.getD 0 []) 2).int) else ob false) := by kernel_rfl
def i_CoordOk_1E : Ent := (94, e2 (ag rIRec) (.one (.c (.cptr rIRec 0))) fun p q => (⟨rb, [.b (((gd p 1).int == (gd ((gd q 0).rows.getD 0 []) 1).int) && ((gd p 2).int == (gd ((gd q 0).rows.getD 0 []) 2).int))]⟩, true))
theorem i_CoordOk_1_ok : EntOk Try.prog i_CoordOk_1E := e2_ok fun p q h => evFn_sound (N := 0) (ks := [0, 1, 2, 3]) (key := bo) (find_ok (List.forall_mem_nil _)) (enters Try.func94 (by kernel_rfl) (by kernel_rfl)) Try.func94 fun _ => by
  rw [i_CoordOk_1_ev]
  rw [and_ob]

def ixfRC (c : D) (r : List D) : Bool := !rangeOk r
noncomputable def ixfRL (N : Nat) (p q : List D) : List D → Out := loopOf Try.prog (find [i_readsOk_1E]) N [0, 1, 4, 5, 7, 8, 9, 16] Try.f145 ri [⟨sd (.sl 97), p⟩, ⟨.one (.c (.fn 138 [])), q⟩] 0
theorem ixfR_rd (p q : List D) (N : Nat) (z c x : D) (n k : Int) : ixfRL N p q [z, c, x, .i n, .i k] = bif decide (k < n) then nd (inRange k z.rows.length) (bif ixfRC c (sub (z.rows.getD k.toNat []) 0 2) then oi k else nx [z, c, x, .i n, .i (w64 (k + 1))]) else ex 0 [z, c, x, .i n, .i k] := by kernel_rfl
theorem ixfR_ev (p q : List D) (N : Nat) : evFn Try.prog (find [i_readsOk_1E]) N [0, 1, 4, 5, 7, 8, 9, 16] Try.f145 ri [⟨sd (.sl 97), p⟩, ⟨.one (.c (.fn 138 [])), q⟩] = some (bo, (let o := iter (ixfRL N p q) N [gd p 0, gd q 0, .i 0, .i (gd p 0).rows.length, .i 0]
   nd o.isSome (bif o.code == 1 then some (1, o.pay) else nd (o.code == 2) (oi (-1))))) := by kernel_rfl
def ixfRE : Ent := (145, e2 (sd (.sl 97)) (.one (.c (.fn 138 []))) fun p q => (⟨ri, [.i (ixF (fun k => ixfRC (gd q 0) (sub ((gd p 0).rows.getD k []) 0 2)) 0 (gd p 0).rows.length)]⟩, true))
theorem ixfR_ok : EntOk Try.prog ixfRE := e2_ok fun p q _ => evFn_sound (N := (gd p 0).rows.length + 1) (ks := [0, 1, 4, 5, 7, 8, 9, 16]) (key := bo) (find_ok (List.forall_mem_cons.2 ⟨i_readsOk_1_ok, List.forall_mem_nil _⟩)) (enters Try.func145 (by kernel_rfl) (by kernel_rfl)) Try.func145 fun hw => by
  have hl := wt_sl (hw ⟨sd (.sl 97), p⟩ (by simp))
  have e := ix_loop (L := ixfRL ((gd p 0).rows.length + 1) p q) (fun k => [gd p 0, gd q 0, .i 0, .i (gd p 0).rows.length, .i (k : Int)]) (gd p 0).rows.length (fun k => ixfRC (gd q 0) (sub ((gd p 0).rows.getD k []) 0 2)) [gd p 0, gd q 0, .i 0, .i (gd p 0).rows.length, .i (gd p 0).rows.length] (fun k hk => ?_) ?_ (gd p 0).rows.length 0 ((gd p 0).rows.length + 1) (by omega) (by omega)
  · simp only [Int.natCast_zero] at e
    rw [ixfR_ev, e]
    have hno : ∀ m k, decide (ixF (fun k => ixfRC (gd q 0) (sub ((gd p 0).rows.getD k []) 0 2)) k m ≥ 0) = false → ixF (fun k => ixfRC (gd q 0) (sub ((gd p 0).rows.getD k []) 0 2)) k m = -1 := ixF_neg _
    cases hd : decide (ixF (fun k => ixfRC (gd q 0) (sub ((gd p 0).rows.getD k []) 0 2)) 0 (gd p 0).rows.length ≥ 0)
    · rw [hno _ _ hd]; rfl
    · rfl
  · show ixfRL _ p q [gd p 0, gd q 0, .i 0, .i _, .i (k : Int)] = _
    rw [ixfR_rd, decide_eq_true (show (k : Int) < (gd p 0).rows.length from by omega), inRange_nat hk, w64_id (by omega) (by omega), Int.toNat_natCast]
    cases hcc : ixfRC (gd q 0) (sub ((gd p 0).rows.getD k []) 0 2) <;> rfl
  · show ixfRL _ p q [gd p 0, gd q 0, .i 0, .i _, .i ((gd p 0).rows.length : Int)] = _
    rw [ixfR_rd, decide_eq_false (show ¬ ((gd p 0).rows.length : Int) < (gd p 0).rows.length from by omega)]
    rfl
theorem cofR_ev (p q : List D) (N : Nat) : evFn Try.prog (find [ixfRE]) N [0, 1, 4] Try.f137 rb [⟨sd (.sl 97), p⟩, ⟨.one (.c (.fn 138 [])), q⟩] = some (bo, ob (decide (ixF (fun k => ixfRC (gd q 0) (sub ((gd p 0).rows.getD k []) 0 2)) 0 (gd p 0).rows.length ≥ 0))) := by kernel_rfl
def cofRE : Ent := (137, e2 (sd (.sl 97)) (.one (.c (.fn 138 []))) fun p q => (⟨rb, [.b (anyS (fun r => ixfRC (gd q 0) (sub r 0 2)) (gd p 0))]⟩, true))
theorem cofR_ok : EntOk Try.prog cofRE := e2_ok fun p q _ => evFn_sound (N := 0) (ks := [0, 1, 4]) (key := bo) (find_ok (List.forall_mem_cons.2 ⟨ixfR_ok, List.forall_mem_nil _⟩)) (enters Try.func137 (by kernel_rfl) (by kernel_rfl)) Try.func137 fun _ => by
  rw [cofR_ev, ixF_any]
  simp only [Nat.zero_add]
  rfl

def ixfVC (c : D) (r : List D) : Bool := ((gd r 3).int == (gd ((gd (c.rows.getD 0 []) 0).rows.getD 0 []) 0).int)
noncomputable def ixfVL (N : Nat) (p q : List D) : List D → Out := loopOf Try.prog (find [i_votes_1E]) N [0, 1, 4, 5, 7, 8, 9, 16] Try.f139 ri [⟨sd (.sl 88), p⟩, ⟨.one (.c (.fn 126 [.cptr [si] 0])), q⟩] 0
theorem ixfV_rd (p q : List D) (N : Nat) (z c x : D) (n k : Int) : ixfVL N p q [z, c, x, .i n, .i k] = bif decide (k < n) then nd (inRange k z.rows.length) (bif ixfVC c (sub (z.rows.getD k.toNat []) 0 4) then oi k else nx [z, c, x, .i n, .i (w64 (k + 1))]) else ex 0 [z, c, x, .i n, .i k] := by kernel_rfl
theorem ixfV_ev (p q : List D) (N : Nat) : evFn Try.prog (find [i_votes_1E]) N [0, 1, 4, 5, 7, 8, 9, 16] Try.f139 ri [⟨sd (.sl 88), p⟩, ⟨.one (.c (.fn 126 [.cptr [si] 0])), q⟩] = some (bo, (let o := iter (ixfVL N p q) N [gd p 0, gd q 0, .i 0, .i (gd p 0).rows.length, .i 0]
   nd o.isSome (bif o.code == 1 then some (1, o.pay) else nd (o.code == 2) (oi (-1))))) := by kernel_rfl
def ixfVE : Ent := (139, e2 (sd (.sl 88)) (.one (.c (.fn 126 [.cptr [si] 0]))) fun p q => (⟨ri, [.i (ixF (fun k => ixfVC (gd q 0) (sub ((gd p 0).rows.getD k []) 0 4)) 0 (gd p 0).rows.length)]⟩, true))
theorem ixfV_ok : EntOk Try.prog ixfVE := e2_ok fun p q _ => evFn_sound (N := (gd p 0).rows.length + 1) (ks := [0, 1, 4, 5, 7, 8, 9, 16]) (key := bo) (find_ok (List.forall_mem_cons.2 ⟨i_votes_1_ok, List.forall_mem_nil _⟩)) (enters Try.func139 (by kernel_rfl) (by kernel_rfl)) Try.func139 fun hw => by
  have hl := wt_sl (hw ⟨sd (.sl 88), p⟩ (by simp))
  have e := ix_loop (L := ixfVL ((gd p 0).rows.length + 1) p q) (fun k => [gd p 0, gd q 0, .i 0, .i (gd p 0).rows.length, .i (k : Int)]) (gd p 0).rows.length (fun k => ixfVC (gd q 0) (sub ((gd p 0).rows.getD k []) 0 4)) [gd p 0, gd q 0, .i 0, .i (gd p 0).rows.length, .i (gd p 0).rows.length] (fun k hk => ?_) ?_ (gd p 0).rows.length 0 ((gd p 0).rows.length + 1) (by omega) (by omega)
  · simp only [Int.natCast_zero] at e
    rw [ixfV_ev, e]
    have hno : ∀ m k, decide (ixF (fun k => ixfVC (gd q 0) (sub ((gd p 0).rows.getD k []) 0 4)) k m ≥ 0) = false → ixF (fun k => ixfVC (gd q 0) (sub ((gd p 0).rows.getD k []) 0 4)) k m = -1 := ixF_neg _
    cases hd : decide (ixF (fun k => ixfVC (gd q 0) (sub ((gd p 0).rows.getD k []) 0 4)) 0 (gd p 0).rows.length ≥ 0)
    · rw [hno _ _ hd]; rfl
    · rfl
  · show ixfVL _ p q [gd p 0, gd q 0, .i 0, .i _, .i (k : Int)] = _
    rw [ixfV_rd, decide_eq_true (show (k : Int) < (gd p 0).rows.length from by omega), inRange_nat hk, w64_id (by omega) (by omega), Int.toNat_natCast]
    cases hcc : ixfVC (gd q 0) (sub ((gd p 0).rows.getD k []) 0 4) <;> rfl
  · show ixfVL _ p q [gd p 0, gd q 0, .i 0, .i _, .i ((gd p 0).rows.length : Int)] = _
    rw [ixfV_rd, decide_eq_false (show ¬ ((gd p 0).rows.length : Int) < (gd p 0).rows.length from by omega)]
    rfl
theorem cofV_ev (p q : List D) (N : Nat) : evFn Try.prog (find [ixfVE]) N [0, 1, 4] Try.f125 rb [⟨sd (.sl 88), p⟩, ⟨.one (.c (.fn 126 [.cptr [si] 0])), q⟩] = some (bo, ob (decide (ixF (fun k => ixfVC (gd q 0) (sub ((gd p 0).rows.getD k []) 0 4)) 0 (gd p 0).rows.length ≥ 0))) := by kernel_rfl
def cofVE : Ent := (125, e2 (sd (.sl 88)) (.one (.c (.fn 126 [.cptr [si] 0]))) fun p q => (⟨rb, [.b (anyS (fun r => ixfVC (gd q 0) (sub r 0 4)) (gd p 0))]⟩, true))
theorem cofV_ok : EntOk Try.prog cofVE := e2_ok fun p q _ => evFn_sound (N := 0) (ks := [0, 1, 4]) (key := bo) (find_ok (List.forall_mem_cons.2 ⟨ixfV_ok, List.forall_mem_nil _⟩)) (enters Try.func125 (by kernel_rfl) (by kernel_rfl)) Try.func125 fun _ => by
  rw [cofV_ev, ixF_any]
  simp only [Nat.zero_add]
  rfl

def ixfKC (c : D) (r : List D) : Bool := ((gd r 1).int == (gd ((gd (c.rows.getD 0 []) 0).rows.getD 0 []) 1).int) && ((gd r 2).int == (gd ((gd (c.rows.getD 0 []) 0).rows.getD 0 []) 2).int)
noncomputable def ixfKL (N : Nat) (p q : List D) : List D → Out := loopOf Try.prog (find [i_CoordOk_1E]) N [0, 1, 4, 5, 7, 8, 9, 16] Try.f111 ri [⟨sd (.sl 84), p⟩, ⟨.one (.c (.fn 94 [.cptr rIRec 0])), q⟩] 0
theorem ixfK_rd (p q : List D) (N : Nat) (z c x : D) (n k : Int) : ixfKL N p q [z, c, x, .i n, .i k] = bif decide (k < n) then nd (inRange k z.rows.length) (bif ixfKC c (sub (z.rows.getD k.toNat []) 0 5) then oi k else nx [z, c, x, .i n, .i (w64 (k + 1))]) else ex 0 [z, c, x, .i n, .i k] := by kernel_rfl
theorem ixfK_ev (p q : List D) (N : Nat) : evFn Try.prog (find [i_CoordOk_1E]) N [0, 1, 4, 5, 7, 8, 9, 16] Try.f111 ri [⟨sd (.sl 84), p⟩, ⟨.one (.c (.fn 94 [.cptr rIRec 0])), q⟩] = some (bo, (let o := iter (ixfKL N p q) N [gd p 0, gd q 0, .i 0, .i (gd p 0).rows.length, .i 0]
   nd o.isSome (bif o.code == 1 then some (1, o.pay) else nd (o.code == 2) (oi (-1))))) := by kernel_rfl
def ixfKE : Ent := (111, e2 (sd (.sl 84)) (.one (.c (.fn 94 [.cptr rIRec 0]))) fun p q => (⟨ri, [.i (ixF (fun k => ixfKC (gd q 0) (sub ((gd p 0).rows.getD k []) 0 5)) 0 (gd p 0).rows.length)]⟩, true))
theorem ixfK_ok : EntOk Try.prog ixfKE := e2_ok fun p q _ => evFn_sound (N := (gd p 0).rows.length + 1) (ks := [0, 1, 4, 5, 7, 8, 9, 16]) (key := bo) (find_ok (List.forall_mem_cons.2 ⟨i_CoordOk_1_ok, List.forall_mem_nil _⟩)) (enters Try.func111 (by kernel_rfl) (by kernel_rfl)) Try.func111 fun hw => by
  have hl := wt_sl (hw ⟨sd (.sl 84), p⟩ (by simp))
  have e := ix_loop (L := ixfKL ((gd p 0).rows.length + 1) p q) (fun k => [gd p 0, gd q 0, .i 0, .i (gd p 0).rows.length, .i (k : Int)]) (gd p 0).rows.length (fun k => ixfKC (gd q 0) (sub ((gd p 0).rows.getD k []) 0 5)) [gd p 0, gd q 0, .i 0, .i (gd p 0).rows.length, .i (gd p 0).rows.length] (fun k hk => ?_) ?_ (gd p 0).rows.length 0 ((gd p 0).rows.length + 1) (by omega) (by omega)
  · simp only [Int.natCast_zero] at e
    rw [ixfK_ev, e]
    have hno : ∀ m k, decide (ixF (fun k => ixfKC (gd q 0) (sub ((gd p 0).rows.getD k []) 0 5)) k m ≥ 0) = false → ixF (fun k => ixfKC (gd q 0) (sub ((gd p 0).rows.getD k []) 0 5)) k m = -1 := ixF_neg _
    cases hd : decide (ixF (fun k => ixfKC (gd q 0) (sub ((gd p 0).rows.getD k []) 0 5)) 0 (gd p 0).rows.length ≥ 0)
    · rw [hno _ _ hd]; rfl
    · rfl
  · show ixfKL _ p q [gd p 0, gd q 0, .i 0, .i _, .i (k : Int)] = _
    rw [ixfK_rd, decide_eq_true (show (k : Int) < (gd p 0).rows.length from by omega), inRange_nat hk, w64_id (by omega) (by omega), Int.toNat_natCast]
    cases hcc : ixfKC (gd q 0) (sub ((gd p 0).rows.getD k []) 0 5) <;> rfl
  · show ixfKL _ p q [gd p 0, gd q 0, .i 0, .i _, .i ((gd p 0).rows.length : Int)] = _
    rw [ixfK_rd, decide_eq_false (show ¬ ((gd p 0).rows.length : Int) < (gd p 0).rows.length from by omega)]
    rfl
theorem cofK_ev (p q : List D) (N : Nat) : evFn Try.prog (find [ixfKE]) N [0, 1, 4] Try.f93 rb [⟨sd (.sl 84), p⟩, ⟨.one (.c (.fn 94 [.cptr rIRec 0])), q⟩] = some (bo, ob (decide (ixF (fun k => ixfKC (gd q 0) (sub ((gd p 0).rows.getD k []) 0 5)) 0 (gd p 0).rows.length ≥ 0))) := by kernel_rfl
def cofKE : Ent := (93, e2 (sd (.sl 84)) (.one (.c (.fn 94 [.cptr rIRec 0]))) fun p q => (⟨rb, [.b (anyS (fun r => ixfKC (gd q 0) (sub r 0 5)) (gd p 0))]⟩, true))
theorem cofK_ok : EntOk Try.prog cofKE := e2_ok fun p q _ => evFn_sound (N := 0) (ks := [0, 1, 4]) (key := bo) (find_ok (List.forall_mem_cons.2 ⟨ixfK_ok, List.forall_mem_nil _⟩)) (enters Try.func93 (by kernel_rfl) (by kernel_rfl)) Try.func93 fun _ => by
  rw [cofK_ev, ixF_any]
  simp only [Nat.zero_add]
  rfl

end Go.Proofs.Ytdejncnjaebjfaa
