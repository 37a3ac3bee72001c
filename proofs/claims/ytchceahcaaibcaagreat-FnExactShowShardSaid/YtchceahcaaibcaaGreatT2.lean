/-
  The town: what is looked for. Printed by sym.py.
-/
import Derived.Test.YtchceahcaaibcaaGreatT1
namespace Go.Proofs.YtchceahcaaibcaaGreat
set_option linter.unusedSimpArgs false
set_option linter.unusedVariables false
set_option maxRecDepth 4096
/-! slices.IndexFunc[[]loop.example/g00097/impl.Lock,loop.example/g00097/impl.Lock] -/
abbrev ixfLOT : FuncId → List T → Option (T × Bool) := find [i_LocksOk_1E]
theorem ixfLOT_ok : CallOk Tryz.prog ixfLOT := find_ok (List.forall_mem_cons.2 ⟨i_LocksOk_1_ok, List.forall_mem_nil _⟩)
abbrev ixfLOK : List Nat := [0, 1, 4, 5, 7, 8, 9, 16]
noncomputable def ixfLOL0 (N : Nat) (p q : List D) : List D → Out := loopOf Tryz.prog ixfLOT N ixfLOK Tryz.f267 ri [⟨sd (.sl 138), p⟩, ⟨.one (.c (.fn 259 [.cptr [si, si, si, si] 0])), q⟩] 0
/- x0=t0(sd (.sl 138)) x1=t1(.one (.c (.fn 259 [.cptr [si, si, si, si] 0]))) x2=t4(ri) x3=t7(ri) x4=t8(ri) -/
theorem ixfLOR0 (N : Nat) (p q : List D) (x0 x1 x2 x3 x4 : D) : (ixfLOL0 N p q) [x0, x1, x2, x3, x4] =
  bif ltI x4.int x3.int then nd (inRange x4.int x0.rows.length) (bif i_LocksOk_1F (sub (x0.rows.getD x4.int.toNat []) 0 4) [(gd (x1.rows.getD 0 []) 0)] then some (1, [x4])
  else nx [x0, x1, x2, x3, .i (w64 (x4.int + 1))])
  else ex 0 [x0, x1, x2, x3, x4] := by kernel_rfl
theorem ixfLO_ev (N : Nat) (p q : List D) : evFn Tryz.prog ixfLOT N ixfLOK Tryz.f267 ri [⟨sd (.sl 138), p⟩, ⟨.one (.c (.fn 259 [.cptr [si, si, si, si] 0])), q⟩] = some (bo,
  (let o0 := iter (ixfLOL0 N p q) N [gd p 0, gd q 0, .i 0, .i ((gd p 0).rows.length : Int), .i 0]
   nd o0.isSome (bif o0.code == 1 then some (1, o0.pay)
   else nd (o0.code == 2) (oi (-1))))) := by kernel_rfl
def ixfLOC (c : D) (r : List D) : Bool := i_LocksOk_1F r [gd (c.rows.getD 0 []) 0]
def ixfLOE : Ent := (267, e2 (sd (.sl 138)) (.one (.c (.fn 259 [.cptr [si, si, si, si] 0]))) fun p q => (⟨ri, [.i (ixF (fun k => ixfLOC (gd q 0) (sub ((gd p 0).rows.getD k []) 0 4)) 0 (gd p 0).rows.length)]⟩, true))
theorem ixfLO_ok : EntOk Tryz.prog ixfLOE := e2_ok fun p q h => evFn_sound (N := (gd p 0).rows.length + 1) (ks := ixfLOK) (key := bo) ixfLOT_ok (enters Tryz.func267 (by kernel_rfl) (by kernel_rfl)) Tryz.func267 fun hw => by
  rw [ixfLO_ev]
  have hl := wt_sl (hw ⟨sd (.sl 138), p⟩ (by simp))
  have e := ix_loop (L := ixfLOL0 ((gd p 0).rows.length + 1) p q) (fun k => [gd p 0, gd q 0, .i 0, .i ((gd p 0).rows.length : Int), .i (k : Int)]) (gd p 0).rows.length (fun k => ixfLOC (gd q 0) (sub ((gd p 0).rows.getD k []) 0 4)) [gd p 0, gd q 0, .i 0, .i ((gd p 0).rows.length : Int), .i ((gd p 0).rows.length : Int)] (fun k hk => ?_) ?_ (gd p 0).rows.length 0 ((gd p 0).rows.length + 1) (by omega) (by omega)
  · simp only [Int.natCast_zero] at e
    rw [e]
    have hno := ixF_neg (fun k => ixfLOC (gd q 0) (sub ((gd p 0).rows.getD k []) 0 4)) (gd p 0).rows.length 0
    cases hd : decide (ixF (fun k => ixfLOC (gd q 0) (sub ((gd p 0).rows.getD k []) 0 4)) 0 (gd p 0).rows.length ≥ 0)
    · rw [hno hd]; rfl
    · rfl
  · show ixfLOL0 _ p q [_, _, _, _, .i (k : Int)] = _
    rw [ixfLOR0]
    simp only [int_i, c_lt hk, nd_ix hk, w64_succ hk hl, Int.toNat_natCast]
    unfold ixfLOC
    cases i_LocksOk_1F (sub ((gd p 0).rows.getD k []) 0 4) [gd ((gd q 0).rows.getD 0 []) 0] <;> rfl
  · show ixfLOL0 _ p q [_, _, _, .i ((gd p 0).rows.length : Int), .i ((gd p 0).rows.length : Int)] = _
    rw [ixfLOR0]
    simp only [int_i, c_nlt]

/-! slices.ContainsFunc[[]loop.example/g00097/impl.Lock,loop.example/g00097/impl.Lock] -/
abbrev cofLOT : FuncId → List T → Option (T × Bool) := find [ixfLOE, i_LocksOk_1E]
theorem cofLOT_ok : CallOk Tryz.prog cofLOT := find_ok (List.forall_mem_cons.2 ⟨ixfLO_ok, List.forall_mem_cons.2 ⟨i_LocksOk_1_ok, List.forall_mem_nil _⟩⟩)
abbrev cofLOK : List Nat := [0, 1, 4]
theorem cofLO_ev (N : Nat) (p q : List D) : evFn Tryz.prog cofLOT N cofLOK Tryz.f171 rb [⟨sd (.sl 138), p⟩, ⟨.one (.c (.fn 259 [.cptr [si, si, si, si] 0])), q⟩] = some (bo,
  ob (leI 0 (ixF (fun k => ixfLOC (.l [[gd ((gd q 0).rows.getD 0 []) 0]]) (sub ((gd p 0).rows.getD k []) 0 4)) 0 (gd p 0).rows.length))) := by kernel_rfl
def cofLOE : Ent := (171, e2 (sd (.sl 138)) (.one (.c (.fn 259 [.cptr [si, si, si, si] 0]))) fun p q => (⟨rb, [.b (anyS (fun rr => ixfLOC (gd q 0) (sub rr 0 4)) (gd p 0))]⟩, true))
theorem cofLO_ok : EntOk Tryz.prog cofLOE := e2_ok fun p q h => evFn_sound (N := 0) (ks := cofLOK) (key := bo) cofLOT_ok (enters Tryz.func171 (by kernel_rfl) (by kernel_rfl)) Tryz.func171 fun hw => by
  rw [cofLO_ev]
  refine congrArg (fun x => some (bo, ob x)) ?_
  exact (ixF_any (fun k => ixfLOC (gd q 0) (sub ((gd p 0).rows.getD k []) 0 4)) (gd p 0).rows.length 0).trans (by simp only [Nat.zero_add]; rfl)

/-! slices.IndexFunc[[]loop.example/g00097/impl.Lock,loop.example/g00097/impl.Lock] -/
abbrev ixfLHT : FuncId → List T → Option (T × Bool) := find [i_LocksHold_1E]
theorem ixfLHT_ok : CallOk Tryz.prog ixfLHT := find_ok (List.forall_mem_cons.2 ⟨i_LocksHold_1_ok, List.forall_mem_nil _⟩)
abbrev ixfLHK : List Nat := [0, 1, 4, 5, 7, 8, 9, 16]
noncomputable def ixfLHL0 (N : Nat) (p q : List D) : List D → Out := loopOf Tryz.prog ixfLHT N ixfLHK Tryz.f267 ri [⟨sd (.sl 138), p⟩, ⟨.one (.c (.fn 309 [.cptr [si] 0, .cptr [si] 0, .cptr [si, si] 0])), q⟩] 0
/- x0=t0(sd (.sl 138)) x1=t1(.one (.c (.fn 309 [.cptr [si] 0, .cptr [si] 0, .cptr [si, si] 0]))) x2=t4(ri) x3=t7(ri) x4=t8(ri) -/
theorem ixfLHR0 (N : Nat) (p q : List D) (x0 x1 x2 x3 x4 : D) : (ixfLHL0 N p q) [x0, x1, x2, x3, x4] =
  bif ltI x4.int x3.int then nd (inRange x4.int x0.rows.length) (bif i_LocksHold_1F (sub (x0.rows.getD x4.int.toNat []) 0 4) [(gd (x1.rows.getD 0 []) 0)] [(gd (x1.rows.getD 0 []).tail 0)] [(gd (x1.rows.getD 0 []).tail.tail 0)] then some (1, [x4])
  else nx [x0, x1, x2, x3, .i (w64 (x4.int + 1))])
  else ex 0 [x0, x1, x2, x3, x4] := by kernel_rfl
theorem ixfLH_ev (N : Nat) (p q : List D) : evFn Tryz.prog ixfLHT N ixfLHK Tryz.f267 ri [⟨sd (.sl 138), p⟩, ⟨.one (.c (.fn 309 [.cptr [si] 0, .cptr [si] 0, .cptr [si, si] 0])), q⟩] = some (bo,
  (let o0 := iter (ixfLHL0 N p q) N [gd p 0, gd q 0, .i 0, .i ((gd p 0).rows.length : Int), .i 0]
   nd o0.isSome (bif o0.code == 1 then some (1, o0.pay)
   else nd (o0.code == 2) (oi (-1))))) := by kernel_rfl
def ixfLHC (c : D) (r : List D) : Bool := i_LocksHold_1F r [gd (c.rows.getD 0 []) 0] [gd (c.rows.getD 0 []).tail 0] [gd (c.rows.getD 0 []).tail.tail 0]
def ixfLHE : Ent := (267, e2 (sd (.sl 138)) (.one (.c (.fn 309 [.cptr [si] 0, .cptr [si] 0, .cptr [si, si] 0]))) fun p q => (⟨ri, [.i (ixF (fun k => ixfLHC (gd q 0) (sub ((gd p 0).rows.getD k []) 0 4)) 0 (gd p 0).rows.length)]⟩, true))
theorem ixfLH_ok : EntOk Tryz.prog ixfLHE := e2_ok fun p q h => evFn_sound (N := (gd p 0).rows.length + 1) (ks := ixfLHK) (key := bo) ixfLHT_ok (enters Tryz.func267 (by kernel_rfl) (by kernel_rfl)) Tryz.func267 fun hw => by
  rw [ixfLH_ev]
  have hl := wt_sl (hw ⟨sd (.sl 138), p⟩ (by simp))
  have e := ix_loop (L := ixfLHL0 ((gd p 0).rows.length + 1) p q) (fun k => [gd p 0, gd q 0, .i 0, .i ((gd p 0).rows.length : Int), .i (k : Int)]) (gd p 0).rows.length (fun k => ixfLHC (gd q 0) (sub ((gd p 0).rows.getD k []) 0 4)) [gd p 0, gd q 0, .i 0, .i ((gd p 0).rows.length : Int), .i ((gd p 0).rows.length : Int)] (fun k hk => ?_) ?_ (gd p 0).rows.length 0 ((gd p 0).rows.length + 1) (by omega) (by omega)
  · simp only [Int.natCast_zero] at e
    rw [e]
    have hno := ixF_neg (fun k => ixfLHC (gd q 0) (sub ((gd p 0).rows.getD k []) 0 4)) (gd p 0).rows.length 0
    cases hd : decide (ixF (fun k => ixfLHC (gd q 0) (sub ((gd p 0).rows.getD k []) 0 4)) 0 (gd p 0).rows.length ≥ 0)
    · rw [hno hd]; rfl
    · rfl
  · show ixfLHL0 _ p q [_, _, _, _, .i (k : Int)] = _
    rw [ixfLHR0]
    simp only [int_i, c_lt hk, nd_ix hk, w64_succ hk hl, Int.toNat_natCast]
    unfold ixfLHC
    cases i_LocksHold_1F (sub ((gd p 0).rows.getD k []) 0 4) [gd ((gd q 0).rows.getD 0 []) 0] [gd ((gd q 0).rows.getD 0 []).tail 0] [gd ((gd q 0).rows.getD 0 []).tail.tail 0] <;> rfl
  · show ixfLHL0 _ p q [_, _, _, .i ((gd p 0).rows.length : Int), .i ((gd p 0).rows.length : Int)] = _
    rw [ixfLHR0]
    simp only [int_i, c_nlt]

/-! slices.ContainsFunc[[]loop.example/g00097/impl.Lock,loop.example/g00097/impl.Lock] -/
abbrev cofLHT : FuncId → List T → Option (T × Bool) := find [ixfLHE, i_LocksHold_1E]
theorem cofLHT_ok : CallOk Tryz.prog cofLHT := find_ok (List.forall_mem_cons.2 ⟨ixfLH_ok, List.forall_mem_cons.2 ⟨i_LocksHold_1_ok, List.forall_mem_nil _⟩⟩)
abbrev cofLHK : List Nat := [0, 1, 4]
theorem cofLH_ev (N : Nat) (p q : List D) : evFn Tryz.prog cofLHT N cofLHK Tryz.f171 rb [⟨sd (.sl 138), p⟩, ⟨.one (.c (.fn 309 [.cptr [si] 0, .cptr [si] 0, .cptr [si, si] 0])), q⟩] = some (bo,
  ob (leI 0 (ixF (fun k => ixfLHC (.l [[gd ((gd q 0).rows.getD 0 []) 0, gd ((gd q 0).rows.getD 0 []).tail 0, gd ((gd q 0).rows.getD 0 []).tail.tail 0]]) (sub ((gd p 0).rows.getD k []) 0 4)) 0 (gd p 0).rows.length))) := by kernel_rfl
def cofLHE : Ent := (171, e2 (sd (.sl 138)) (.one (.c (.fn 309 [.cptr [si] 0, .cptr [si] 0, .cptr [si, si] 0]))) fun p q => (⟨rb, [.b (anyS (fun rr => ixfLHC (gd q 0) (sub rr 0 4)) (gd p 0))]⟩, true))
theorem cofLH_ok : EntOk Tryz.prog cofLHE := e2_ok fun p q h => evFn_sound (N := 0) (ks := cofLHK) (key := bo) cofLHT_ok (enters Tryz.func171 (by kernel_rfl) (by kernel_rfl)) Tryz.func171 fun hw => by
  rw [cofLH_ev]
  refine congrArg (fun x => some (bo, ob x)) ?_
  exact (ixF_any (fun k => ixfLHC (gd q 0) (sub ((gd p 0).rows.getD k []) 0 4)) (gd p 0).rows.length 0).trans (by simp only [Nat.zero_add]; rfl)

/-! slices.IndexFunc[[]loop.example/g00097/impl.Part,loop.example/g00097/impl.Part] -/
abbrev ixfTPT : FuncId → List T → Option (T × Bool) := find [i_TownOk_1E]
theorem ixfTPT_ok : CallOk Tryz.prog ixfTPT := find_ok (List.forall_mem_cons.2 ⟨i_TownOk_1_ok, List.forall_mem_nil _⟩)
abbrev ixfTPK : List Nat := [0, 1, 4, 5, 7, 8, 9, 16]
noncomputable def ixfTPL0 (N : Nat) (p q : List D) : List D → Out := loopOf Tryz.prog ixfTPT N ixfTPK Tryz.f178 ri [⟨sd (.sl 97), p⟩, ⟨.one (.c (.fn 65 [.cptr [si] 0])), q⟩] 0
/- x0=t0(sd (.sl 97)) x1=t1(.one (.c (.fn 65 [.cptr [si] 0]))) x2=t4(ri) x3=t7(ri) x4=t8(ri) -/
theorem ixfTPR0 (N : Nat) (p q : List D) (x0 x1 x2 x3 x4 : D) : (ixfTPL0 N p q) [x0, x1, x2, x3, x4] =
  bif ltI x4.int x3.int then nd (inRange x4.int x0.rows.length) (bif i_TownOk_1F (sub (x0.rows.getD x4.int.toNat []) 0 3) [(gd (x1.rows.getD 0 []) 0)] then some (1, [x4])
  else nx [x0, x1, x2, x3, .i (w64 (x4.int + 1))])
  else ex 0 [x0, x1, x2, x3, x4] := by kernel_rfl
theorem ixfTP_ev (N : Nat) (p q : List D) : evFn Tryz.prog ixfTPT N ixfTPK Tryz.f178 ri [⟨sd (.sl 97), p⟩, ⟨.one (.c (.fn 65 [.cptr [si] 0])), q⟩] = some (bo,
  (let o0 := iter (ixfTPL0 N p q) N [gd p 0, gd q 0, .i 0, .i ((gd p 0).rows.length : Int), .i 0]
   nd o0.isSome (bif o0.code == 1 then some (1, o0.pay)
   else nd (o0.code == 2) (oi (-1))))) := by kernel_rfl
def ixfTPC (c : D) (r : List D) : Bool := i_TownOk_1F r [gd (c.rows.getD 0 []) 0]
def ixfTPE : Ent := (178, e2 (sd (.sl 97)) (.one (.c (.fn 65 [.cptr [si] 0]))) fun p q => (⟨ri, [.i (ixF (fun k => ixfTPC (gd q 0) (sub ((gd p 0).rows.getD k []) 0 3)) 0 (gd p 0).rows.length)]⟩, true))
theorem ixfTP_ok : EntOk Tryz.prog ixfTPE := e2_ok fun p q h => evFn_sound (N := (gd p 0).rows.length + 1) (ks := ixfTPK) (key := bo) ixfTPT_ok (enters Tryz.func178 (by kernel_rfl) (by kernel_rfl)) Tryz.func178 fun hw => by
  rw [ixfTP_ev]
  have hl := wt_sl (hw ⟨sd (.sl 97), p⟩ (by simp))
  have e := ix_loop (L := ixfTPL0 ((gd p 0).rows.length + 1) p q) (fun k => [gd p 0, gd q 0, .i 0, .i ((gd p 0).rows.length : Int), .i (k : Int)]) (gd p 0).rows.length (fun k => ixfTPC (gd q 0) (sub ((gd p 0).rows.getD k []) 0 3)) [gd p 0, gd q 0, .i 0, .i ((gd p 0).rows.length : Int), .i ((gd p 0).rows.length : Int)] (fun k hk => ?_) ?_ (gd p 0).rows.length 0 ((gd p 0).rows.length + 1) (by omega) (by omega)
  · simp only [Int.natCast_zero] at e
    rw [e]
    have hno := ixF_neg (fun k => ixfTPC (gd q 0) (sub ((gd p 0).rows.getD k []) 0 3)) (gd p 0).rows.length 0
    cases hd : decide (ixF (fun k => ixfTPC (gd q 0) (sub ((gd p 0).rows.getD k []) 0 3)) 0 (gd p 0).rows.length ≥ 0)
    · rw [hno hd]; rfl
    · rfl
  · show ixfTPL0 _ p q [_, _, _, _, .i (k : Int)] = _
    rw [ixfTPR0]
    simp only [int_i, c_lt hk, nd_ix hk, w64_succ hk hl, Int.toNat_natCast]
    unfold ixfTPC
    cases i_TownOk_1F (sub ((gd p 0).rows.getD k []) 0 3) [gd ((gd q 0).rows.getD 0 []) 0] <;> rfl
  · show ixfTPL0 _ p q [_, _, _, .i ((gd p 0).rows.length : Int), .i ((gd p 0).rows.length : Int)] = _
    rw [ixfTPR0]
    simp only [int_i, c_nlt]

/-! slices.ContainsFunc[[]loop.example/g00097/impl.Part,loop.example/g00097/impl.Part] -/
abbrev cofTPT : FuncId → List T → Option (T × Bool) := find [ixfTPE, i_TownOk_1E]
theorem cofTPT_ok : CallOk Tryz.prog cofTPT := find_ok (List.forall_mem_cons.2 ⟨ixfTP_ok, List.forall_mem_cons.2 ⟨i_TownOk_1_ok, List.forall_mem_nil _⟩⟩)
abbrev cofTPK : List Nat := [0, 1, 4]
theorem cofTP_ev (N : Nat) (p q : List D) : evFn Tryz.prog cofTPT N cofTPK Tryz.f64 rb [⟨sd (.sl 97), p⟩, ⟨.one (.c (.fn 65 [.cptr [si] 0])), q⟩] = some (bo,
  ob (leI 0 (ixF (fun k => ixfTPC (.l [[gd ((gd q 0).rows.getD 0 []) 0]]) (sub ((gd p 0).rows.getD k []) 0 3)) 0 (gd p 0).rows.length))) := by kernel_rfl
def cofTPE : Ent := (64, e2 (sd (.sl 97)) (.one (.c (.fn 65 [.cptr [si] 0]))) fun p q => (⟨rb, [.b (anyS (fun rr => ixfTPC (gd q 0) (sub rr 0 3)) (gd p 0))]⟩, true))
theorem cofTP_ok : EntOk Tryz.prog cofTPE := e2_ok fun p q h => evFn_sound (N := 0) (ks := cofTPK) (key := bo) cofTPT_ok (enters Tryz.func64 (by kernel_rfl) (by kernel_rfl)) Tryz.func64 fun hw => by
  rw [cofTP_ev]
  refine congrArg (fun x => some (bo, ob x)) ?_
  exact (ixF_any (fun k => ixfTPC (gd q 0) (sub ((gd p 0).rows.getD k []) 0 3)) (gd p 0).rows.length 0).trans (by simp only [Nat.zero_add]; rfl)

/-! slices.IndexFunc[[]loop.example/g00097/impl.Part,loop.example/g00097/impl.Part] -/
abbrev ixfCPT : FuncId → List T → Option (T × Bool) := find [i_clientRight_1E]
theorem ixfCPT_ok : CallOk Tryz.prog ixfCPT := find_ok (List.forall_mem_cons.2 ⟨i_clientRight_1_ok, List.forall_mem_nil _⟩)
abbrev ixfCPK : List Nat := [0, 1, 4, 5, 7, 8, 9, 16]
noncomputable def ixfCPL0 (N : Nat) (p q : List D) : List D → Out := loopOf Tryz.prog ixfCPT N ixfCPK Tryz.f178 ri [⟨sd (.sl 97), p⟩, ⟨.one (.c (.fn 181 [.cptr [si] 0])), q⟩] 0
/- x0=t0(sd (.sl 97)) x1=t1(.one (.c (.fn 181 [.cptr [si] 0]))) x2=t4(ri) x3=t7(ri) x4=t8(ri) -/
theorem ixfCPR0 (N : Nat) (p q : List D) (x0 x1 x2 x3 x4 : D) : (ixfCPL0 N p q) [x0, x1, x2, x3, x4] =
  bif ltI x4.int x3.int then nd (inRange x4.int x0.rows.length) (bif i_clientRight_1F (sub (x0.rows.getD x4.int.toNat []) 0 3) [(gd (x1.rows.getD 0 []) 0)] then some (1, [x4])
  else nx [x0, x1, x2, x3, .i (w64 (x4.int + 1))])
  else ex 0 [x0, x1, x2, x3, x4] := by kernel_rfl
theorem ixfCP_ev (N : Nat) (p q : List D) : evFn Tryz.prog ixfCPT N ixfCPK Tryz.f178 ri [⟨sd (.sl 97), p⟩, ⟨.one (.c (.fn 181 [.cptr [si] 0])), q⟩] = some (bo,
  (let o0 := iter (ixfCPL0 N p q) N [gd p 0, gd q 0, .i 0, .i ((gd p 0).rows.length : Int), .i 0]
   nd o0.isSome (bif o0.code == 1 then some (1, o0.pay)
   else nd (o0.code == 2) (oi (-1))))) := by kernel_rfl
def ixfCPC (c : D) (r : List D) : Bool := i_clientRight_1F r [gd (c.rows.getD 0 []) 0]
def ixfCPE : Ent := (178, e2 (sd (.sl 97)) (.one (.c (.fn 181 [.cptr [si] 0]))) fun p q => (⟨ri, [.i (ixF (fun k => ixfCPC (gd q 0) (sub ((gd p 0).rows.getD k []) 0 3)) 0 (gd p 0).rows.length)]⟩, true))
theorem ixfCP_ok : EntOk Tryz.prog ixfCPE := e2_ok fun p q h => evFn_sound (N := (gd p 0).rows.length + 1) (ks := ixfCPK) (key := bo) ixfCPT_ok (enters Tryz.func178 (by kernel_rfl) (by kernel_rfl)) Tryz.func178 fun hw => by
  rw [ixfCP_ev]
  have hl := wt_sl (hw ⟨sd (.sl 97), p⟩ (by simp))
  have e := ix_loop (L := ixfCPL0 ((gd p 0).rows.length + 1) p q) (fun k => [gd p 0, gd q 0, .i 0, .i ((gd p 0).rows.length : Int), .i (k : Int)]) (gd p 0).rows.length (fun k => ixfCPC (gd q 0) (sub ((gd p 0).rows.getD k []) 0 3)) [gd p 0, gd q 0, .i 0, .i ((gd p 0).rows.length : Int), .i ((gd p 0).rows.length : Int)] (fun k hk => ?_) ?_ (gd p 0).rows.length 0 ((gd p 0).rows.length + 1) (by omega) (by omega)
  · simp only [Int.natCast_zero] at e
    rw [e]
    have hno := ixF_neg (fun k => ixfCPC (gd q 0) (sub ((gd p 0).rows.getD k []) 0 3)) (gd p 0).rows.length 0
    cases hd : decide (ixF (fun k => ixfCPC (gd q 0) (sub ((gd p 0).rows.getD k []) 0 3)) 0 (gd p 0).rows.length ≥ 0)
    · rw [hno hd]; rfl
    · rfl
  · show ixfCPL0 _ p q [_, _, _, _, .i (k : Int)] = _
    rw [ixfCPR0]
    simp only [int_i, c_lt hk, nd_ix hk, w64_succ hk hl, Int.toNat_natCast]
    unfold ixfCPC
    cases i_clientRight_1F (sub ((gd p 0).rows.getD k []) 0 3) [gd ((gd q 0).rows.getD 0 []) 0] <;> rfl
  · show ixfCPL0 _ p q [_, _, _, .i ((gd p 0).rows.length : Int), .i ((gd p 0).rows.length : Int)] = _
    rw [ixfCPR0]
    simp only [int_i, c_nlt]

/-! slices.ContainsFunc[[]loop.example/g00097/impl.Part,loop.example/g00097/impl.Part] -/
abbrev cofCPT : FuncId → List T → Option (T × Bool) := find [ixfCPE, i_clientRight_1E]
theorem cofCPT_ok : CallOk Tryz.prog cofCPT := find_ok (List.forall_mem_cons.2 ⟨ixfCP_ok, List.forall_mem_cons.2 ⟨i_clientRight_1_ok, List.forall_mem_nil _⟩⟩)
abbrev cofCPK : List Nat := [0, 1, 4]
theorem cofCP_ev (N : Nat) (p q : List D) : evFn Tryz.prog cofCPT N cofCPK Tryz.f64 rb [⟨sd (.sl 97), p⟩, ⟨.one (.c (.fn 181 [.cptr [si] 0])), q⟩] = some (bo,
  ob (leI 0 (ixF (fun k => ixfCPC (.l [[gd ((gd q 0).rows.getD 0 []) 0]]) (sub ((gd p 0).rows.getD k []) 0 3)) 0 (gd p 0).rows.length))) := by kernel_rfl
def cofCPE : Ent := (64, e2 (sd (.sl 97)) (.one (.c (.fn 181 [.cptr [si] 0]))) fun p q => (⟨rb, [.b (anyS (fun rr => ixfCPC (gd q 0) (sub rr 0 3)) (gd p 0))]⟩, true))
theorem cofCP_ok : EntOk Tryz.prog cofCPE := e2_ok fun p q h => evFn_sound (N := 0) (ks := cofCPK) (key := bo) cofCPT_ok (enters Tryz.func64 (by kernel_rfl) (by kernel_rfl)) Tryz.func64 fun hw => by
  rw [cofCP_ev]
  refine congrArg (fun x => some (bo, ob x)) ?_
  exact (ixF_any (fun k => ixfCPC (gd q 0) (sub ((gd p 0).rows.getD k []) 0 3)) (gd p 0).rows.length 0).trans (by simp only [Nat.zero_add]; rfl)

/-! slices.IndexFunc[[]loop.example/g00097/impl.Seen,loop.example/g00097/impl.Seen] -/
abbrev ixfCST : FuncId → List T → Option (T × Bool) := find [i_clientRight_2E]
theorem ixfCST_ok : CallOk Tryz.prog ixfCST := find_ok (List.forall_mem_cons.2 ⟨i_clientRight_2_ok, List.forall_mem_nil _⟩)
abbrev ixfCSK : List Nat := [0, 1, 4, 5, 7, 8, 9, 16]
noncomputable def ixfCSL0 (N : Nat) (p q : List D) : List D → Out := loopOf Tryz.prog ixfCST N ixfCSK Tryz.f272 ri [⟨sd (.sl 130), p⟩, ⟨.one (.c (.fn 183 [.cptr [si] 0])), q⟩] 0
/- x0=t0(sd (.sl 130)) x1=t1(.one (.c (.fn 183 [.cptr [si] 0]))) x2=t4(ri) x3=t7(ri) x4=t8(ri) -/
theorem ixfCSR0 (N : Nat) (p q : List D) (x0 x1 x2 x3 x4 : D) : (ixfCSL0 N p q) [x0, x1, x2, x3, x4] =
  bif ltI x4.int x3.int then nd (inRange x4.int x0.rows.length) (bif i_clientRight_2F (sub (x0.rows.getD x4.int.toNat []) 0 3) [(gd (x1.rows.getD 0 []) 0)] then some (1, [x4])
  else nx [x0, x1, x2, x3, .i (w64 (x4.int + 1))])
  else ex 0 [x0, x1, x2, x3, x4] := by kernel_rfl
theorem ixfCS_ev (N : Nat) (p q : List D) : evFn Tryz.prog ixfCST N ixfCSK Tryz.f272 ri [⟨sd (.sl 130), p⟩, ⟨.one (.c (.fn 183 [.cptr [si] 0])), q⟩] = some (bo,
  (let o0 := iter (ixfCSL0 N p q) N [gd p 0, gd q 0, .i 0, .i ((gd p 0).rows.length : Int), .i 0]
   nd o0.isSome (bif o0.code == 1 then some (1, o0.pay)
   else nd (o0.code == 2) (oi (-1))))) := by kernel_rfl
def ixfCSC (c : D) (r : List D) : Bool := i_clientRight_2F r [gd (c.rows.getD 0 []) 0]
def ixfCSE : Ent := (272, e2 (sd (.sl 130)) (.one (.c (.fn 183 [.cptr [si] 0]))) fun p q => (⟨ri, [.i (ixF (fun k => ixfCSC (gd q 0) (sub ((gd p 0).rows.getD k []) 0 3)) 0 (gd p 0).rows.length)]⟩, true))
theorem ixfCS_ok : EntOk Tryz.prog ixfCSE := e2_ok fun p q h => evFn_sound (N := (gd p 0).rows.length + 1) (ks := ixfCSK) (key := bo) ixfCST_ok (enters Tryz.func272 (by kernel_rfl) (by kernel_rfl)) Tryz.func272 fun hw => by
  rw [ixfCS_ev]
  have hl := wt_sl (hw ⟨sd (.sl 130), p⟩ (by simp))
  have e := ix_loop (L := ixfCSL0 ((gd p 0).rows.length + 1) p q) (fun k => [gd p 0, gd q 0, .i 0, .i ((gd p 0).rows.length : Int), .i (k : Int)]) (gd p 0).rows.length (fun k => ixfCSC (gd q 0) (sub ((gd p 0).rows.getD k []) 0 3)) [gd p 0, gd q 0, .i 0, .i ((gd p 0).rows.length : Int), .i ((gd p 0).rows.length : Int)] (fun k hk => ?_) ?_ (gd p 0).rows.length 0 ((gd p 0).rows.length + 1) (by omega) (by omega)
  · simp only [Int.natCast_zero] at e
    rw [e]
    have hno := ixF_neg (fun k => ixfCSC (gd q 0) (sub ((gd p 0).rows.getD k []) 0 3)) (gd p 0).rows.length 0
    cases hd : decide (ixF (fun k => ixfCSC (gd q 0) (sub ((gd p 0).rows.getD k []) 0 3)) 0 (gd p 0).rows.length ≥ 0)
    · rw [hno hd]; rfl
    · rfl
  · show ixfCSL0 _ p q [_, _, _, _, .i (k : Int)] = _
    rw [ixfCSR0]
    simp only [int_i, c_lt hk, nd_ix hk, w64_succ hk hl, Int.toNat_natCast]
    unfold ixfCSC
    cases i_clientRight_2F (sub ((gd p 0).rows.getD k []) 0 3) [gd ((gd q 0).rows.getD 0 []) 0] <;> rfl
  · show ixfCSL0 _ p q [_, _, _, .i ((gd p 0).rows.length : Int), .i ((gd p 0).rows.length : Int)] = _
    rw [ixfCSR0]
    simp only [int_i, c_nlt]

/-! slices.ContainsFunc[[]loop.example/g00097/impl.Seen,loop.example/g00097/impl.Seen] -/
abbrev cofCST : FuncId → List T → Option (T × Bool) := find [ixfCSE, i_clientRight_2E]
theorem cofCST_ok : CallOk Tryz.prog cofCST := find_ok (List.forall_mem_cons.2 ⟨ixfCS_ok, List.forall_mem_cons.2 ⟨i_clientRight_2_ok, List.forall_mem_nil _⟩⟩)
abbrev cofCSK : List Nat := [0, 1, 4]
theorem cofCS_ev (N : Nat) (p q : List D) : evFn Tryz.prog cofCST N cofCSK Tryz.f182 rb [⟨sd (.sl 130), p⟩, ⟨.one (.c (.fn 183 [.cptr [si] 0])), q⟩] = some (bo,
  ob (leI 0 (ixF (fun k => ixfCSC (.l [[gd ((gd q 0).rows.getD 0 []) 0]]) (sub ((gd p 0).rows.getD k []) 0 3)) 0 (gd p 0).rows.length))) := by kernel_rfl
def cofCSE : Ent := (182, e2 (sd (.sl 130)) (.one (.c (.fn 183 [.cptr [si] 0]))) fun p q => (⟨rb, [.b (anyS (fun rr => ixfCSC (gd q 0) (sub rr 0 3)) (gd p 0))]⟩, true))
theorem cofCS_ok : EntOk Tryz.prog cofCSE := e2_ok fun p q h => evFn_sound (N := 0) (ks := cofCSK) (key := bo) cofCST_ok (enters Tryz.func182 (by kernel_rfl) (by kernel_rfl)) Tryz.func182 fun hw => by
  rw [cofCS_ev]
  refine congrArg (fun x => some (bo, ob x)) ?_
  exact (ixF_any (fun k => ixfCSC (gd q 0) (sub ((gd p 0).rows.getD k []) 0 3)) (gd p 0).rows.length 0).trans (by simp only [Nat.zero_add]; rfl)

/-! slices.IndexFunc[[]loop.example/g00097/impl.Cell,loop.example/g00097/impl.Cell] -/
abbrev ixfCIT : FuncId → List T → Option (T × Bool) := find [i_cellsIn_1E]
theorem ixfCIT_ok : CallOk Tryz.prog ixfCIT := find_ok (List.forall_mem_cons.2 ⟨i_cellsIn_1_ok, List.forall_mem_nil _⟩)
abbrev ixfCIK : List Nat := [0, 1, 4, 5, 7, 8, 9, 16]
noncomputable def ixfCIL0 (N : Nat) (p q : List D) : List D → Out := loopOf Tryz.prog ixfCIT N ixfCIK Tryz.f265 ri [⟨sd (.sl 176), p⟩, ⟨.one (.c (.fn 307 [.cptr [si, si] 0])), q⟩] 0
/- x0=t0(sd (.sl 176)) x1=t1(.one (.c (.fn 307 [.cptr [si, si] 0]))) x2=t4(ri) x3=t7(ri) x4=t8(ri) -/
theorem ixfCIR0 (N : Nat) (p q : List D) (x0 x1 x2 x3 x4 : D) : (ixfCIL0 N p q) [x0, x1, x2, x3, x4] =
  bif ltI x4.int x3.int then nd (inRange x4.int x0.rows.length) (bif i_cellsIn_1F (sub (x0.rows.getD x4.int.toNat []) 0 2) [(gd (x1.rows.getD 0 []) 0)] then some (1, [x4])
  else nx [x0, x1, x2, x3, .i (w64 (x4.int + 1))])
  else ex 0 [x0, x1, x2, x3, x4] := by kernel_rfl
theorem ixfCI_ev (N : Nat) (p q : List D) : evFn Tryz.prog ixfCIT N ixfCIK Tryz.f265 ri [⟨sd (.sl 176), p⟩, ⟨.one (.c (.fn 307 [.cptr [si, si] 0])), q⟩] = some (bo,
  (let o0 := iter (ixfCIL0 N p q) N [gd p 0, gd q 0, .i 0, .i ((gd p 0).rows.length : Int), .i 0]
   nd o0.isSome (bif o0.code == 1 then some (1, o0.pay)
   else nd (o0.code == 2) (oi (-1))))) := by kernel_rfl
def ixfCIC (c : D) (r : List D) : Bool := i_cellsIn_1F r [gd (c.rows.getD 0 []) 0]
def ixfCIE : Ent := (265, e2 (sd (.sl 176)) (.one (.c (.fn 307 [.cptr [si, si] 0]))) fun p q => (⟨ri, [.i (ixF (fun k => ixfCIC (gd q 0) (sub ((gd p 0).rows.getD k []) 0 2)) 0 (gd p 0).rows.length)]⟩, true))
theorem ixfCI_ok : EntOk Tryz.prog ixfCIE := e2_ok fun p q h => evFn_sound (N := (gd p 0).rows.length + 1) (ks := ixfCIK) (key := bo) ixfCIT_ok (enters Tryz.func265 (by kernel_rfl) (by kernel_rfl)) Tryz.func265 fun hw => by
  rw [ixfCI_ev]
  have hl := wt_sl (hw ⟨sd (.sl 176), p⟩ (by simp))
  have e := ix_loop (L := ixfCIL0 ((gd p 0).rows.length + 1) p q) (fun k => [gd p 0, gd q 0, .i 0, .i ((gd p 0).rows.length : Int), .i (k : Int)]) (gd p 0).rows.length (fun k => ixfCIC (gd q 0) (sub ((gd p 0).rows.getD k []) 0 2)) [gd p 0, gd q 0, .i 0, .i ((gd p 0).rows.length : Int), .i ((gd p 0).rows.length : Int)] (fun k hk => ?_) ?_ (gd p 0).rows.length 0 ((gd p 0).rows.length + 1) (by omega) (by omega)
  · simp only [Int.natCast_zero] at e
    rw [e]
    have hno := ixF_neg (fun k => ixfCIC (gd q 0) (sub ((gd p 0).rows.getD k []) 0 2)) (gd p 0).rows.length 0
    cases hd : decide (ixF (fun k => ixfCIC (gd q 0) (sub ((gd p 0).rows.getD k []) 0 2)) 0 (gd p 0).rows.length ≥ 0)
    · rw [hno hd]; rfl
    · rfl
  · show ixfCIL0 _ p q [_, _, _, _, .i (k : Int)] = _
    rw [ixfCIR0]
    simp only [int_i, c_lt hk, nd_ix hk, w64_succ hk hl, Int.toNat_natCast]
    unfold ixfCIC
    cases i_cellsIn_1F (sub ((gd p 0).rows.getD k []) 0 2) [gd ((gd q 0).rows.getD 0 []) 0] <;> rfl
  · show ixfCIL0 _ p q [_, _, _, .i ((gd p 0).rows.length : Int), .i ((gd p 0).rows.length : Int)] = _
    rw [ixfCIR0]
    simp only [int_i, c_nlt]

/-! slices.ContainsFunc[[]loop.example/g00097/impl.Cell,loop.example/g00097/impl.Cell] -/
abbrev cofCIT : FuncId → List T → Option (T × Bool) := find [ixfCIE, i_cellsIn_1E]
theorem cofCIT_ok : CallOk Tryz.prog cofCIT := find_ok (List.forall_mem_cons.2 ⟨ixfCI_ok, List.forall_mem_cons.2 ⟨i_cellsIn_1_ok, List.forall_mem_nil _⟩⟩)
abbrev cofCIK : List Nat := [0, 1, 4]
theorem cofCI_ev (N : Nat) (p q : List D) : evFn Tryz.prog cofCIT N cofCIK Tryz.f168 rb [⟨sd (.sl 176), p⟩, ⟨.one (.c (.fn 307 [.cptr [si, si] 0])), q⟩] = some (bo,
  ob (leI 0 (ixF (fun k => ixfCIC (.l [[gd ((gd q 0).rows.getD 0 []) 0]]) (sub ((gd p 0).rows.getD k []) 0 2)) 0 (gd p 0).rows.length))) := by kernel_rfl
def cofCIE : Ent := (168, e2 (sd (.sl 176)) (.one (.c (.fn 307 [.cptr [si, si] 0]))) fun p q => (⟨rb, [.b (anyS (fun rr => ixfCIC (gd q 0) (sub rr 0 2)) (gd p 0))]⟩, true))
theorem cofCI_ok : EntOk Tryz.prog cofCIE := e2_ok fun p q h => evFn_sound (N := 0) (ks := cofCIK) (key := bo) cofCIT_ok (enters Tryz.func168 (by kernel_rfl) (by kernel_rfl)) Tryz.func168 fun hw => by
  rw [cofCI_ev]
  refine congrArg (fun x => some (bo, ob x)) ?_
  exact (ixF_any (fun k => ixfCIC (gd q 0) (sub ((gd p 0).rows.getD k []) 0 2)) (gd p 0).rows.length 0).trans (by simp only [Nat.zero_add]; rfl)

/-! slices.IndexFunc[[]loop.example/g00097/impl.Seen,loop.example/g00097/impl.Seen] -/
abbrev ixfCOT : FuncId → List T → Option (T × Bool) := find [i_ClientOk_1E]
theorem ixfCOT_ok : CallOk Tryz.prog ixfCOT := find_ok (List.forall_mem_cons.2 ⟨i_ClientOk_1_ok, List.forall_mem_nil _⟩)
abbrev ixfCOK : List Nat := [0, 1, 4, 5, 7, 8, 9, 16]
noncomputable def ixfCOL0 (N : Nat) (p q : List D) : List D → Out := loopOf Tryz.prog ixfCOT N ixfCOK Tryz.f272 ri [⟨sd (.sl 130), p⟩, ⟨.one (.c (.fn 271 [])), q⟩] 0
/- x0=t0(sd (.sl 130)) x1=t1(.one (.c (.fn 271 []))) x2=t4(ri) x3=t7(ri) x4=t8(ri) -/
theorem ixfCOR0 (N : Nat) (p q : List D) (x0 x1 x2 x3 x4 : D) : (ixfCOL0 N p q) [x0, x1, x2, x3, x4] =
  bif ltI x4.int x3.int then nd (inRange x4.int x0.rows.length) (bif i_ClientOk_1F (sub (x0.rows.getD x4.int.toNat []) 0 3) then some (1, [x4])
  else nx [x0, x1, x2, x3, .i (w64 (x4.int + 1))])
  else ex 0 [x0, x1, x2, x3, x4] := by kernel_rfl
theorem ixfCO_ev (N : Nat) (p q : List D) : evFn Tryz.prog ixfCOT N ixfCOK Tryz.f272 ri [⟨sd (.sl 130), p⟩, ⟨.one (.c (.fn 271 [])), q⟩] = some (bo,
  (let o0 := iter (ixfCOL0 N p q) N [gd p 0, gd q 0, .i 0, .i ((gd p 0).rows.length : Int), .i 0]
   nd o0.isSome (bif o0.code == 1 then some (1, o0.pay)
   else nd (o0.code == 2) (oi (-1))))) := by kernel_rfl
def ixfCOC (c : D) (r : List D) : Bool := i_ClientOk_1F r 
def ixfCOE : Ent := (272, e2 (sd (.sl 130)) (.one (.c (.fn 271 []))) fun p q => (⟨ri, [.i (ixF (fun k => ixfCOC (gd q 0) (sub ((gd p 0).rows.getD k []) 0 3)) 0 (gd p 0).rows.length)]⟩, true))
theorem ixfCO_ok : EntOk Tryz.prog ixfCOE := e2_ok fun p q h => evFn_sound (N := (gd p 0).rows.length + 1) (ks := ixfCOK) (key := bo) ixfCOT_ok (enters Tryz.func272 (by kernel_rfl) (by kernel_rfl)) Tryz.func272 fun hw => by
  rw [ixfCO_ev]
  have hl := wt_sl (hw ⟨sd (.sl 130), p⟩ (by simp))
  have e := ix_loop (L := ixfCOL0 ((gd p 0).rows.length + 1) p q) (fun k => [gd p 0, gd q 0, .i 0, .i ((gd p 0).rows.length : Int), .i (k : Int)]) (gd p 0).rows.length (fun k => ixfCOC (gd q 0) (sub ((gd p 0).rows.getD k []) 0 3)) [gd p 0, gd q 0, .i 0, .i ((gd p 0).rows.length : Int), .i ((gd p 0).rows.length : Int)] (fun k hk => ?_) ?_ (gd p 0).rows.length 0 ((gd p 0).rows.length + 1) (by omega) (by omega)
  · simp only [Int.natCast_zero] at e
    rw [e]
    have hno := ixF_neg (fun k => ixfCOC (gd q 0) (sub ((gd p 0).rows.getD k []) 0 3)) (gd p 0).rows.length 0
    cases hd : decide (ixF (fun k => ixfCOC (gd q 0) (sub ((gd p 0).rows.getD k []) 0 3)) 0 (gd p 0).rows.length ≥ 0)
    · rw [hno hd]; rfl
    · rfl
  · show ixfCOL0 _ p q [_, _, _, _, .i (k : Int)] = _
    rw [ixfCOR0]
    simp only [int_i, c_lt hk, nd_ix hk, w64_succ hk hl, Int.toNat_natCast]
    unfold ixfCOC
    cases i_ClientOk_1F (sub ((gd p 0).rows.getD k []) 0 3)  <;> rfl
  · show ixfCOL0 _ p q [_, _, _, .i ((gd p 0).rows.length : Int), .i ((gd p 0).rows.length : Int)] = _
    rw [ixfCOR0]
    simp only [int_i, c_nlt]

/-! slices.ContainsFunc[[]loop.example/g00097/impl.Seen,loop.example/g00097/impl.Seen] -/
abbrev cofCOT : FuncId → List T → Option (T × Bool) := find [ixfCOE, i_ClientOk_1E]
theorem cofCOT_ok : CallOk Tryz.prog cofCOT := find_ok (List.forall_mem_cons.2 ⟨ixfCO_ok, List.forall_mem_cons.2 ⟨i_ClientOk_1_ok, List.forall_mem_nil _⟩⟩)
abbrev cofCOK : List Nat := [0, 1, 4]
theorem cofCO_ev (N : Nat) (p q : List D) : evFn Tryz.prog cofCOT N cofCOK Tryz.f182 rb [⟨sd (.sl 130), p⟩, ⟨.one (.c (.fn 271 [])), q⟩] = some (bo,
  ob (leI 0 (ixF (fun k => ixfCOC (.l [[]]) (sub ((gd p 0).rows.getD k []) 0 3)) 0 (gd p 0).rows.length))) := by kernel_rfl
def cofCOE : Ent := (182, e2 (sd (.sl 130)) (.one (.c (.fn 271 []))) fun p q => (⟨rb, [.b (anyS (fun rr => ixfCOC (gd q 0) (sub rr 0 3)) (gd p 0))]⟩, true))
theorem cofCO_ok : EntOk Tryz.prog cofCOE := e2_ok fun p q h => evFn_sound (N := 0) (ks := cofCOK) (key := bo) cofCOT_ok (enters Tryz.func182 (by kernel_rfl) (by kernel_rfl)) Tryz.func182 fun hw => by
  rw [cofCO_ev]
  refine congrArg (fun x => some (bo, ob x)) ?_
  exact (ixF_any (fun k => ixfCOC (gd q 0) (sub ((gd p 0).rows.getD k []) 0 3)) (gd p 0).rows.length 0).trans (by simp only [Nat.zero_add]; rfl)

end Go.Proofs.YtchceahcaaibcaaGreat
