/-
  The town: closures of TownOk. Printed by sym.py.
-/
import Derived.Test.YtchceahcaaibcaaGreatT7
import Derived.Test.YtchceahcaaibcaaGreatT11
namespace Go.Proofs.YtchceahcaaibcaaGreat
set_option linter.unusedSimpArgs false
set_option linter.unusedVariables false
set_option maxRecDepth 4096
set_option maxHeartbeats 1000000
/-! loop.example/g00097/impl.TownOk$2 -/
abbrev i_TownOk_2T : FuncId → List T → Option (T × Bool) := find [i_clientRightE]
theorem i_TownOk_2T_ok : CallOk Tryz.prog i_TownOk_2T := find_ok (List.forall_mem_cons.2 ⟨i_clientRight_ok, List.forall_mem_nil _⟩)
abbrev i_TownOk_2K : List Nat := [0, 1, 2, 3]
theorem i_TownOk_2_ev (N : Nat) (p q : List D) : evFn Tryz.prog i_TownOk_2T N i_TownOk_2K Tryz.f67 rb [⟨ag rIClient, p⟩, ⟨.one (.c (.cptr [si] 0)), q⟩] = some (bo,
  nd (clientSmall (sub p 0 9)) (ob (!(clientRight (sub p 0 9) (gd ((gd q 0).rows.getD 0 []) 0).int)))) := by kernel_rfl
def notRight (p q : List D) : Bool := !clientRight p (gd ((gd q 0).rows.getD 0 []) 0).int
def i_TownOk_2E : Ent := (67, e2 (ag rIClient) (.one (.c (.cptr [si] 0))) fun p q => (⟨rb, [.b (notRight p [gd q 0])]⟩, clientSmall p))
theorem i_TownOk_2_ok : EntOk Tryz.prog i_TownOk_2E := e2_ok fun p q h => evFn_sound (N := 0) (ks := i_TownOk_2K) (key := bo) i_TownOk_2T_ok (enters Tryz.func67 (by kernel_rfl) (by kernel_rfl)) Tryz.func67 fun hw => by
  rw [i_TownOk_2_ev]
  have h : clientSmall p = true := h
  rw [show clientSmall (sub p 0 9) = clientSmall p from rfl, h]
  rfl

/-! loop.example/g00097/impl.TownOk$3 -/
abbrev i_TownOk_3T : FuncId → List T → Option (T × Bool) := find [i_LetterOkE]
theorem i_TownOk_3T_ok : CallOk Tryz.prog i_TownOk_3T := find_ok (List.forall_mem_cons.2 ⟨i_LetterOk_ok, List.forall_mem_nil _⟩)
abbrev i_TownOk_3K : List Nat := [0, 1, 2, 3, 4]
theorem i_TownOk_3_ev (N : Nat) (p q r : List D) : evFn Tryz.prog i_TownOk_3T N i_TownOk_3K Tryz.f70 rb [⟨ag rILetter, p⟩, ⟨.one (.c (.cptr [si] 0)), q⟩, ⟨.one (.c (.cptr [si, .sl 97, si, si, si, si, si, si, .sl 176, .sl 80, .sl 116, .sl 3, .sl 102, .sl 85, .sl 88] 0)), r⟩] = some (bo,
  bif !(letterOk (sub p 0 14)) then ob true
  else bif leI (gd ((gd q 0).rows.getD 0 []) 0).int (gd p 1).int then ob true
  else ob (leI ((gd ((gd r 0).rows.getD 0 []) 12).rows.length : Int) (gd p 2).int)) := by kernel_rfl
def i_TownOk_3F (p q r : List D) : Bool :=
  bif !(letterOk (sub p 0 14)) then true
  else bif leI (gd ((gd q 0).rows.getD 0 []) 0).int (gd p 1).int then true
  else leI ((gd ((gd r 0).rows.getD 0 []) 12).rows.length : Int) (gd p 2).int
def i_TownOk_3E : Ent := (70, e3 (ag rILetter) (.one (.c (.cptr [si] 0))) (.one (.c (.cptr [si, .sl 97, si, si, si, si, si, si, .sl 176, .sl 80, .sl 116, .sl 3, .sl 102, .sl 85, .sl 88] 0))) fun p q r => (⟨rb, [.b (i_TownOk_3F p [gd q 0] [gd r 0])]⟩, true))
theorem i_TownOk_3_ok : EntOk Tryz.prog i_TownOk_3E := e3_ok fun p q r h => evFn_sound (N := 0) (ks := i_TownOk_3K) (key := bo) i_TownOk_3T_ok (enters Tryz.func70 (by kernel_rfl) (by kernel_rfl)) Tryz.func70 fun hw => by
  rw [i_TownOk_3_ev]
  try simp only [cond_ob, cond_oi, cond_os]
  rfl

/-! loop.example/g00097/impl.TownOk$4 -/
abbrev i_TownOk_4T : FuncId → List T → Option (T × Bool) := find [i_eventRightE]
theorem i_TownOk_4T_ok : CallOk Tryz.prog i_TownOk_4T := find_ok (List.forall_mem_cons.2 ⟨i_eventRight_ok, List.forall_mem_nil _⟩)
abbrev i_TownOk_4K : List Nat := [0, 1, 2, 3]
theorem i_TownOk_4_ev (N : Nat) (p q : List D) : evFn Tryz.prog i_TownOk_4T N i_TownOk_4K Tryz.f73 rb [⟨ag rIEvent, p⟩, ⟨.one (.c (.cptr [si, .sl 97, si, si, si, si, si, si, .sl 176, .sl 80, .sl 116, .sl 3, .sl 102, .sl 85, .sl 88] 0)), q⟩] = some (bo,
  ob (!(eventOk (sub p 0 7) ((gd ((gd q 0).rows.getD 0 []) 12).rows.length : Int)))) := by kernel_rfl
def i_TownOk_4F (p q : List D) : Bool :=
  !(eventOk (sub p 0 7) ((gd ((gd q 0).rows.getD 0 []) 12).rows.length : Int))
def i_TownOk_4E : Ent := (73, e2 (ag rIEvent) (.one (.c (.cptr [si, .sl 97, si, si, si, si, si, si, .sl 176, .sl 80, .sl 116, .sl 3, .sl 102, .sl 85, .sl 88] 0))) fun p q => (⟨rb, [.b (i_TownOk_4F p [gd q 0])]⟩, true))
theorem i_TownOk_4_ok : EntOk Tryz.prog i_TownOk_4E := e2_ok fun p q h => evFn_sound (N := 0) (ks := i_TownOk_4K) (key := bo) i_TownOk_4T_ok (enters Tryz.func73 (by kernel_rfl) (by kernel_rfl)) Tryz.func73 fun hw => by
  rw [i_TownOk_4_ev]
  try simp only [cond_ob, cond_oi, cond_os]
  rfl

/-! slices.IndexFunc[[]loop.example/g00097/impl.Client,loop.example/g00097/impl.Client] -/
abbrev ixfTCT : FuncId → List T → Option (T × Bool) := find [i_TownOk_2E]
theorem ixfTCT_ok : CallOk Tryz.prog ixfTCT := find_ok (List.forall_mem_cons.2 ⟨i_TownOk_2_ok, List.forall_mem_nil _⟩)
abbrev ixfTCK : List Nat := [0, 1, 4, 5, 7, 8, 9, 16]
noncomputable def ixfTCL0 (N : Nat) (p q : List D) : List D → Out := loopOf Tryz.prog ixfTCT N ixfTCK Tryz.f179 ri [⟨sd (.sl 102), p⟩, ⟨.one (.c (.fn 67 [.cptr [si] 0])), q⟩] 0
/- x0=t0(sd (.sl 102)) x1=t1(.one (.c (.fn 67 [.cptr [si] 0]))) x2=t4(ri) x3=t7(ri) x4=t8(ri) -/
theorem ixfTCR0 (N : Nat) (p q : List D) (x0 x1 x2 x3 x4 : D) : (ixfTCL0 N p q) [x0, x1, x2, x3, x4] =
  bif ltI x4.int x3.int then nd (inRange x4.int x0.rows.length) (nd (clientSmall (sub (x0.rows.getD x4.int.toNat []) 0 9)) (bif notRight (sub (x0.rows.getD x4.int.toNat []) 0 9) [gd (x1.rows.getD 0 []) 0] then some (1, [x4])
  else nx [x0, x1, x2, x3, .i (w64 (x4.int + 1))]))
  else ex 0 [x0, x1, x2, x3, x4] := by kernel_rfl
theorem ixfTC_ev (N : Nat) (p q : List D) : evFn Tryz.prog ixfTCT N ixfTCK Tryz.f179 ri [⟨sd (.sl 102), p⟩, ⟨.one (.c (.fn 67 [.cptr [si] 0])), q⟩] = some (bo,
  (let o0 := iter (ixfTCL0 N p q) N [gd p 0, gd q 0, .i 0, .i ((gd p 0).rows.length : Int), .i 0]
   nd o0.isSome (bif o0.code == 1 then some (1, o0.pay)
   else nd (o0.code == 2) (oi (-1))))) := by kernel_rfl
def ixfTCC (c : D) (r : List D) : Bool := notRight r [gd (c.rows.getD 0 []) 0]
def ixfTCE : Ent := (179, e2 (sd (.sl 102)) (.one (.c (.fn 67 [.cptr [si] 0]))) fun p q => (⟨ri, [.i (ixF (fun k => ixfTCC (gd q 0) (sub ((gd p 0).rows.getD k []) 0 9)) 0 (gd p 0).rows.length)]⟩, (List.range (gd p 0).rows.length).all fun k => clientSmall (sub ((gd p 0).rows.getD k []) 0 9)))
theorem ixfTC_ok : EntOk Tryz.prog ixfTCE := e2_ok fun p q h => evFn_sound (N := (gd p 0).rows.length + 1) (ks := ixfTCK) (key := bo) ixfTCT_ok (enters Tryz.func179 (by kernel_rfl) (by kernel_rfl)) Tryz.func179 fun hw => by
  rw [ixfTC_ev]
  have hs : ((List.range (gd p 0).rows.length).all fun k => clientSmall (sub ((gd p 0).rows.getD k []) 0 9)) = true := h
  simp only [List.all_eq_true, List.mem_range] at hs
  have hl := wt_sl (hw ⟨sd (.sl 102), p⟩ (by simp))
  have e := ix_loop (L := ixfTCL0 ((gd p 0).rows.length + 1) p q) (fun k => [gd p 0, gd q 0, .i 0, .i ((gd p 0).rows.length : Int), .i (k : Int)]) (gd p 0).rows.length (fun k => ixfTCC (gd q 0) (sub ((gd p 0).rows.getD k []) 0 9)) [gd p 0, gd q 0, .i 0, .i ((gd p 0).rows.length : Int), .i ((gd p 0).rows.length : Int)] (fun k hk => ?_) ?_ (gd p 0).rows.length 0 ((gd p 0).rows.length + 1) (by omega) (by omega)
  · simp only [Int.natCast_zero] at e
    rw [e]
    have hno := ixF_neg (fun k => ixfTCC (gd q 0) (sub ((gd p 0).rows.getD k []) 0 9)) (gd p 0).rows.length 0
    cases hd : decide (ixF (fun k => ixfTCC (gd q 0) (sub ((gd p 0).rows.getD k []) 0 9)) 0 (gd p 0).rows.length ≥ 0)
    · rw [hno hd]; rfl
    · rfl
  · show ixfTCL0 _ p q [_, _, _, _, .i (k : Int)] = _
    rw [ixfTCR0]
    simp only [int_i, c_lt hk, nd_ix hk, w64_succ hk hl, Int.toNat_natCast, hs k hk, nd_true]
    unfold ixfTCC
    cases notRight (sub ((gd p 0).rows.getD k []) 0 9) [gd ((gd q 0).rows.getD 0 []) 0] <;> rfl
  · show ixfTCL0 _ p q [_, _, _, .i ((gd p 0).rows.length : Int), .i ((gd p 0).rows.length : Int)] = _
    rw [ixfTCR0]
    simp only [int_i, c_nlt]

/-! slices.ContainsFunc[[]loop.example/g00097/impl.Client,loop.example/g00097/impl.Client] -/
abbrev cofTCT : FuncId → List T → Option (T × Bool) := find [ixfTCE, i_TownOk_2E]
theorem cofTCT_ok : CallOk Tryz.prog cofTCT := find_ok (List.forall_mem_cons.2 ⟨ixfTC_ok, List.forall_mem_cons.2 ⟨i_TownOk_2_ok, List.forall_mem_nil _⟩⟩)
abbrev cofTCK : List Nat := [0, 1, 4]
theorem cofTC_ev (N : Nat) (p q : List D) : evFn Tryz.prog cofTCT N cofTCK Tryz.f66 rb [⟨sd (.sl 102), p⟩, ⟨.one (.c (.fn 67 [.cptr [si] 0])), q⟩] = some (bo,
  nd ((List.range (gd p 0).rows.length).all fun k => clientSmall (sub ((gd p 0).rows.getD k []) 0 9)) (ob (leI 0 (ixF (fun k => ixfTCC (.l [[gd ((gd q 0).rows.getD 0 []) 0]]) (sub ((gd p 0).rows.getD k []) 0 9)) 0 (gd p 0).rows.length)))) := by kernel_rfl
def cofTCE : Ent := (66, e2 (sd (.sl 102)) (.one (.c (.fn 67 [.cptr [si] 0]))) fun p q => (⟨rb, [.b (anyS (fun rr => ixfTCC (gd q 0) (sub rr 0 9)) (gd p 0))]⟩, (List.range (gd p 0).rows.length).all fun k => clientSmall (sub ((gd p 0).rows.getD k []) 0 9)))
theorem cofTC_ok : EntOk Tryz.prog cofTCE := e2_ok fun p q h => evFn_sound (N := 0) (ks := cofTCK) (key := bo) cofTCT_ok (enters Tryz.func66 (by kernel_rfl) (by kernel_rfl)) Tryz.func66 fun hw => by
  rw [cofTC_ev]
  have hs : ((List.range (gd p 0).rows.length).all fun k => clientSmall (sub ((gd p 0).rows.getD k []) 0 9)) = true := h
  rw [hs, nd_true]
  refine congrArg (fun x => some (bo, ob x)) ?_
  exact (ixF_any (fun k => ixfTCC (gd q 0) (sub ((gd p 0).rows.getD k []) 0 9)) (gd p 0).rows.length 0).trans (by simp only [Nat.zero_add]; rfl)

/-! slices.IndexFunc[[]loop.example/g00097/impl.Letter,loop.example/g00097/impl.Letter] -/
abbrev ixfTLT : FuncId → List T → Option (T × Bool) := find [i_TownOk_3E]
theorem ixfTLT_ok : CallOk Tryz.prog ixfTLT := find_ok (List.forall_mem_cons.2 ⟨i_TownOk_3_ok, List.forall_mem_nil _⟩)
abbrev ixfTLK : List Nat := [0, 1, 4, 5, 7, 8, 9, 16]
noncomputable def ixfTLL0 (N : Nat) (p q : List D) : List D → Out := loopOf Tryz.prog ixfTLT N ixfTLK Tryz.f184 ri [⟨sd (.sl 85), p⟩, ⟨.one (.c (.fn 70 [.cptr [si] 0, .cptr [si, .sl 97, si, si, si, si, si, si, .sl 176, .sl 80, .sl 116, .sl 3, .sl 102, .sl 85, .sl 88] 0])), q⟩] 0
/- x0=t0(sd (.sl 85)) x1=t1(.one (.c (.fn 70 [.cptr [si] 0, .cptr [si, .sl 97, si, si, si, si, si, si, .sl 176, .sl 80, .sl 116, .sl 3, .sl 102, .sl 85, .sl 88] 0]))) x2=t4(ri) x3=t7(ri) x4=t8(ri) -/
theorem ixfTLR0 (N : Nat) (p q : List D) (x0 x1 x2 x3 x4 : D) : (ixfTLL0 N p q) [x0, x1, x2, x3, x4] =
  bif ltI x4.int x3.int then nd (inRange x4.int x0.rows.length) (bif i_TownOk_3F (sub (x0.rows.getD x4.int.toNat []) 0 14) [gd (x1.rows.getD 0 []) 0] [gd (x1.rows.getD 0 []).tail 0] then some (1, [x4])
  else nx [x0, x1, x2, x3, .i (w64 (x4.int + 1))])
  else ex 0 [x0, x1, x2, x3, x4] := by kernel_rfl
theorem ixfTL_ev (N : Nat) (p q : List D) : evFn Tryz.prog ixfTLT N ixfTLK Tryz.f184 ri [⟨sd (.sl 85), p⟩, ⟨.one (.c (.fn 70 [.cptr [si] 0, .cptr [si, .sl 97, si, si, si, si, si, si, .sl 176, .sl 80, .sl 116, .sl 3, .sl 102, .sl 85, .sl 88] 0])), q⟩] = some (bo,
  (let o0 := iter (ixfTLL0 N p q) N [gd p 0, gd q 0, .i 0, .i ((gd p 0).rows.length : Int), .i 0]
   nd o0.isSome (bif o0.code == 1 then some (1, o0.pay)
   else nd (o0.code == 2) (oi (-1))))) := by kernel_rfl
def ixfTLC (c : D) (r : List D) : Bool := i_TownOk_3F r [gd (c.rows.getD 0 []) 0] [gd (c.rows.getD 0 []).tail 0]
def ixfTLE : Ent := (184, e2 (sd (.sl 85)) (.one (.c (.fn 70 [.cptr [si] 0, .cptr [si, .sl 97, si, si, si, si, si, si, .sl 176, .sl 80, .sl 116, .sl 3, .sl 102, .sl 85, .sl 88] 0]))) fun p q => (⟨ri, [.i (ixF (fun k => ixfTLC (gd q 0) (sub ((gd p 0).rows.getD k []) 0 14)) 0 (gd p 0).rows.length)]⟩, true))
theorem ixfTL_ok : EntOk Tryz.prog ixfTLE := e2_ok fun p q h => evFn_sound (N := (gd p 0).rows.length + 1) (ks := ixfTLK) (key := bo) ixfTLT_ok (enters Tryz.func184 (by kernel_rfl) (by kernel_rfl)) Tryz.func184 fun hw => by
  rw [ixfTL_ev]
  have hl := wt_sl (hw ⟨sd (.sl 85), p⟩ (by simp))
  have e := ix_loop (L := ixfTLL0 ((gd p 0).rows.length + 1) p q) (fun k => [gd p 0, gd q 0, .i 0, .i ((gd p 0).rows.length : Int), .i (k : Int)]) (gd p 0).rows.length (fun k => ixfTLC (gd q 0) (sub ((gd p 0).rows.getD k []) 0 14)) [gd p 0, gd q 0, .i 0, .i ((gd p 0).rows.length : Int), .i ((gd p 0).rows.length : Int)] (fun k hk => ?_) ?_ (gd p 0).rows.length 0 ((gd p 0).rows.length + 1) (by omega) (by omega)
  · simp only [Int.natCast_zero] at e
    rw [e]
    have hno := ixF_neg (fun k => ixfTLC (gd q 0) (sub ((gd p 0).rows.getD k []) 0 14)) (gd p 0).rows.length 0
    cases hd : decide (ixF (fun k => ixfTLC (gd q 0) (sub ((gd p 0).rows.getD k []) 0 14)) 0 (gd p 0).rows.length ≥ 0)
    · rw [hno hd]; rfl
    · rfl
  · show ixfTLL0 _ p q [_, _, _, _, .i (k : Int)] = _
    rw [ixfTLR0]
    simp only [int_i, c_lt hk, nd_ix hk, w64_succ hk hl, Int.toNat_natCast]
    unfold ixfTLC
    cases i_TownOk_3F (sub ((gd p 0).rows.getD k []) 0 14) [gd ((gd q 0).rows.getD 0 []) 0] [gd ((gd q 0).rows.getD 0 []).tail 0] <;> rfl
  · show ixfTLL0 _ p q [_, _, _, .i ((gd p 0).rows.length : Int), .i ((gd p 0).rows.length : Int)] = _
    rw [ixfTLR0]
    simp only [int_i, c_nlt]

/-! slices.ContainsFunc[[]loop.example/g00097/impl.Letter,loop.example/g00097/impl.Letter] -/
abbrev cofTLT : FuncId → List T → Option (T × Bool) := find [ixfTLE, i_TownOk_3E]
theorem cofTLT_ok : CallOk Tryz.prog cofTLT := find_ok (List.forall_mem_cons.2 ⟨ixfTL_ok, List.forall_mem_cons.2 ⟨i_TownOk_3_ok, List.forall_mem_nil _⟩⟩)
abbrev cofTLK : List Nat := [0, 1, 4]
theorem cofTL_ev (N : Nat) (p q : List D) : evFn Tryz.prog cofTLT N cofTLK Tryz.f69 rb [⟨sd (.sl 85), p⟩, ⟨.one (.c (.fn 70 [.cptr [si] 0, .cptr [si, .sl 97, si, si, si, si, si, si, .sl 176, .sl 80, .sl 116, .sl 3, .sl 102, .sl 85, .sl 88] 0])), q⟩] = some (bo,
  ob (leI 0 (ixF (fun k => ixfTLC (.l [[gd ((gd q 0).rows.getD 0 []) 0, gd ((gd q 0).rows.getD 0 []).tail 0]]) (sub ((gd p 0).rows.getD k []) 0 14)) 0 (gd p 0).rows.length))) := by kernel_rfl
def cofTLE : Ent := (69, e2 (sd (.sl 85)) (.one (.c (.fn 70 [.cptr [si] 0, .cptr [si, .sl 97, si, si, si, si, si, si, .sl 176, .sl 80, .sl 116, .sl 3, .sl 102, .sl 85, .sl 88] 0]))) fun p q => (⟨rb, [.b (anyS (fun rr => ixfTLC (gd q 0) (sub rr 0 14)) (gd p 0))]⟩, true))
theorem cofTL_ok : EntOk Tryz.prog cofTLE := e2_ok fun p q h => evFn_sound (N := 0) (ks := cofTLK) (key := bo) cofTLT_ok (enters Tryz.func69 (by kernel_rfl) (by kernel_rfl)) Tryz.func69 fun hw => by
  rw [cofTL_ev]
  refine congrArg (fun x => some (bo, ob x)) ?_
  exact (ixF_any (fun k => ixfTLC (gd q 0) (sub ((gd p 0).rows.getD k []) 0 14)) (gd p 0).rows.length 0).trans (by simp only [Nat.zero_add]; rfl)

/-! slices.IndexFunc[[]loop.example/g00097/impl.Event,loop.example/g00097/impl.Event] -/
abbrev ixfTET : FuncId → List T → Option (T × Bool) := find [i_TownOk_4E]
theorem ixfTET_ok : CallOk Tryz.prog ixfTET := find_ok (List.forall_mem_cons.2 ⟨i_TownOk_4_ok, List.forall_mem_nil _⟩)
abbrev ixfTEK : List Nat := [0, 1, 4, 5, 7, 8, 9, 16]
noncomputable def ixfTEL0 (N : Nat) (p q : List D) : List D → Out := loopOf Tryz.prog ixfTET N ixfTEK Tryz.f193 ri [⟨sd (.sl 88), p⟩, ⟨.one (.c (.fn 73 [.cptr [si, .sl 97, si, si, si, si, si, si, .sl 176, .sl 80, .sl 116, .sl 3, .sl 102, .sl 85, .sl 88] 0])), q⟩] 0
/- x0=t0(sd (.sl 88)) x1=t1(.one (.c (.fn 73 [.cptr [si, .sl 97, si, si, si, si, si, si, .sl 176, .sl 80, .sl 116, .sl 3, .sl 102, .sl 85, .sl 88] 0]))) x2=t4(ri) x3=t7(ri) x4=t8(ri) -/
theorem ixfTER0 (N : Nat) (p q : List D) (x0 x1 x2 x3 x4 : D) : (ixfTEL0 N p q) [x0, x1, x2, x3, x4] =
  bif ltI x4.int x3.int then nd (inRange x4.int x0.rows.length) (bif i_TownOk_4F (sub (x0.rows.getD x4.int.toNat []) 0 7) [gd (x1.rows.getD 0 []) 0] then some (1, [x4])
  else nx [x0, x1, x2, x3, .i (w64 (x4.int + 1))])
  else ex 0 [x0, x1, x2, x3, x4] := by kernel_rfl
theorem ixfTE_ev (N : Nat) (p q : List D) : evFn Tryz.prog ixfTET N ixfTEK Tryz.f193 ri [⟨sd (.sl 88), p⟩, ⟨.one (.c (.fn 73 [.cptr [si, .sl 97, si, si, si, si, si, si, .sl 176, .sl 80, .sl 116, .sl 3, .sl 102, .sl 85, .sl 88] 0])), q⟩] = some (bo,
  (let o0 := iter (ixfTEL0 N p q) N [gd p 0, gd q 0, .i 0, .i ((gd p 0).rows.length : Int), .i 0]
   nd o0.isSome (bif o0.code == 1 then some (1, o0.pay)
   else nd (o0.code == 2) (oi (-1))))) := by kernel_rfl
def ixfTEC (c : D) (r : List D) : Bool := i_TownOk_4F r [gd (c.rows.getD 0 []) 0]
def ixfTEE : Ent := (193, e2 (sd (.sl 88)) (.one (.c (.fn 73 [.cptr [si, .sl 97, si, si, si, si, si, si, .sl 176, .sl 80, .sl 116, .sl 3, .sl 102, .sl 85, .sl 88] 0]))) fun p q => (⟨ri, [.i (ixF (fun k => ixfTEC (gd q 0) (sub ((gd p 0).rows.getD k []) 0 7)) 0 (gd p 0).rows.length)]⟩, true))
theorem ixfTE_ok : EntOk Tryz.prog ixfTEE := e2_ok fun p q h => evFn_sound (N := (gd p 0).rows.length + 1) (ks := ixfTEK) (key := bo) ixfTET_ok (enters Tryz.func193 (by kernel_rfl) (by kernel_rfl)) Tryz.func193 fun hw => by
  rw [ixfTE_ev]
  have hl := wt_sl (hw ⟨sd (.sl 88), p⟩ (by simp))
  have e := ix_loop (L := ixfTEL0 ((gd p 0).rows.length + 1) p q) (fun k => [gd p 0, gd q 0, .i 0, .i ((gd p 0).rows.length : Int), .i (k : Int)]) (gd p 0).rows.length (fun k => ixfTEC (gd q 0) (sub ((gd p 0).rows.getD k []) 0 7)) [gd p 0, gd q 0, .i 0, .i ((gd p 0).rows.length : Int), .i ((gd p 0).rows.length : Int)] (fun k hk => ?_) ?_ (gd p 0).rows.length 0 ((gd p 0).rows.length + 1) (by omega) (by omega)
  · simp only [Int.natCast_zero] at e
    rw [e]
    have hno := ixF_neg (fun k => ixfTEC (gd q 0) (sub ((gd p 0).rows.getD k []) 0 7)) (gd p 0).rows.length 0
    cases hd : decide (ixF (fun k => ixfTEC (gd q 0) (sub ((gd p 0).rows.getD k []) 0 7)) 0 (gd p 0).rows.length ≥ 0)
    · rw [hno hd]; rfl
    · rfl
  · show ixfTEL0 _ p q [_, _, _, _, .i (k : Int)] = _
    rw [ixfTER0]
    simp only [int_i, c_lt hk, nd_ix hk, w64_succ hk hl, Int.toNat_natCast]
    unfold ixfTEC
    cases i_TownOk_4F (sub ((gd p 0).rows.getD k []) 0 7) [gd ((gd q 0).rows.getD 0 []) 0] <;> rfl
  · show ixfTEL0 _ p q [_, _, _, .i ((gd p 0).rows.length : Int), .i ((gd p 0).rows.length : Int)] = _
    rw [ixfTER0]
    simp only [int_i, c_nlt]

/-! slices.ContainsFunc[[]loop.example/g00097/impl.Event,loop.example/g00097/impl.Event] -/
abbrev cofTET : FuncId → List T → Option (T × Bool) := find [ixfTEE, i_TownOk_4E]
theorem cofTET_ok : CallOk Tryz.prog cofTET := find_ok (List.forall_mem_cons.2 ⟨ixfTE_ok, List.forall_mem_cons.2 ⟨i_TownOk_4_ok, List.forall_mem_nil _⟩⟩)
abbrev cofTEK : List Nat := [0, 1, 4]
theorem cofTE_ev (N : Nat) (p q : List D) : evFn Tryz.prog cofTET N cofTEK Tryz.f72 rb [⟨sd (.sl 88), p⟩, ⟨.one (.c (.fn 73 [.cptr [si, .sl 97, si, si, si, si, si, si, .sl 176, .sl 80, .sl 116, .sl 3, .sl 102, .sl 85, .sl 88] 0])), q⟩] = some (bo,
  ob (leI 0 (ixF (fun k => ixfTEC (.l [[gd ((gd q 0).rows.getD 0 []) 0]]) (sub ((gd p 0).rows.getD k []) 0 7)) 0 (gd p 0).rows.length))) := by kernel_rfl
def cofTEE : Ent := (72, e2 (sd (.sl 88)) (.one (.c (.fn 73 [.cptr [si, .sl 97, si, si, si, si, si, si, .sl 176, .sl 80, .sl 116, .sl 3, .sl 102, .sl 85, .sl 88] 0]))) fun p q => (⟨rb, [.b (anyS (fun rr => ixfTEC (gd q 0) (sub rr 0 7)) (gd p 0))]⟩, true))
theorem cofTE_ok : EntOk Tryz.prog cofTEE := e2_ok fun p q h => evFn_sound (N := 0) (ks := cofTEK) (key := bo) cofTET_ok (enters Tryz.func72 (by kernel_rfl) (by kernel_rfl)) Tryz.func72 fun hw => by
  rw [cofTE_ev]
  refine congrArg (fun x => some (bo, ob x)) ?_
  exact (ixF_any (fun k => ixfTEC (gd q 0) (sub ((gd p 0).rows.getD k []) 0 7)) (gd p 0).rows.length 0).trans (by simp only [Nat.zero_add]; rfl)

end Go.Proofs.YtchceahcaaibcaaGreat
