/-
  The town: closures of ShardOk and TownOk. Printed by sym.py.
-/
import Derived.Test.YtchceahcaaibcaaGreatT10
namespace Go.Proofs.YtchceahcaaibcaaGreat
set_option linter.unusedSimpArgs false
set_option linter.unusedVariables false
set_option maxRecDepth 4096
set_option maxHeartbeats 1000000
/-! loop.example/g00097/impl.ShardOk$1 -/
abbrev i_ShardOk_1T : FuncId → List T → Option (T × Bool) := find [i_haveAllE]
theorem i_ShardOk_1T_ok : CallOk Tryz.prog i_ShardOk_1T := find_ok (List.forall_mem_cons.2 ⟨i_haveAll_ok, List.forall_mem_nil _⟩)
abbrev i_ShardOk_1K : List Nat := [0, 1, 2, 3]
theorem i_ShardOk_1_ev (N : Nat) (p q : List D) : evFn Tryz.prog i_ShardOk_1T N i_ShardOk_1K Tryz.f167 rb [⟨ag rIRange, p⟩, ⟨.one (.c (.cptr [si, .sl 122, .sl 122, .sl 176, .sl 138, .sl 248, .sl 3, .sl 3, si] 0)), q⟩] = some (bo,
  ob (!(haveAll (gd ((gd q 0).rows.getD 0 []) 1) (sub p 0 2)))) := by kernel_rfl
def i_ShardOk_1F (p q : List D) : Bool :=
  !(haveAll (gd ((gd q 0).rows.getD 0 []) 1) (sub p 0 2))
def i_ShardOk_1E : Ent := (167, e2 (ag rIRange) (.one (.c (.cptr [si, .sl 122, .sl 122, .sl 176, .sl 138, .sl 248, .sl 3, .sl 3, si] 0))) fun p q => (⟨rb, [.b (i_ShardOk_1F p [gd q 0])]⟩, true))
theorem i_ShardOk_1_ok : EntOk Tryz.prog i_ShardOk_1E := e2_ok fun p q h => evFn_sound (N := 0) (ks := i_ShardOk_1K) (key := bo) i_ShardOk_1T_ok (enters Tryz.func167 (by kernel_rfl) (by kernel_rfl)) Tryz.func167 fun hw => by
  rw [i_ShardOk_1_ev]
  try simp only [cond_ob, cond_oi, cond_os]
  rfl

/-! loop.example/g00097/impl.ShardOk$2 -/
abbrev i_ShardOk_2T : FuncId → List T → Option (T × Bool) := find [i_oneE, i_haveAllE]
theorem i_ShardOk_2T_ok : CallOk Tryz.prog i_ShardOk_2T := find_ok (List.forall_mem_cons.2 ⟨i_one_ok, List.forall_mem_cons.2 ⟨i_haveAll_ok, List.forall_mem_nil _⟩⟩)
abbrev i_ShardOk_2K : List Nat := [0, 1, 2, 3]
theorem i_ShardOk_2_ev (N : Nat) (p q : List D) : evFn Tryz.prog i_ShardOk_2T N i_ShardOk_2K Tryz.f169 rb [⟨ag rICell, p⟩, ⟨.one (.c (.cptr [si, .sl 122, .sl 122, .sl 176, .sl 138, .sl 248, .sl 3, .sl 3, si] 0)), q⟩] = some (bo,
  ob (!(haveAll (gd ((gd q 0).rows.getD 0 []) 1) [(gd p 0), .i (w64 ((gd p 0).int + 1))]))) := by kernel_rfl
def i_ShardOk_2F (p q : List D) : Bool :=
  !(haveAll (gd ((gd q 0).rows.getD 0 []) 1) [(gd p 0), .i (w64 ((gd p 0).int + 1))])
def i_ShardOk_2E : Ent := (169, e2 (ag rICell) (.one (.c (.cptr [si, .sl 122, .sl 122, .sl 176, .sl 138, .sl 248, .sl 3, .sl 3, si] 0))) fun p q => (⟨rb, [.b (i_ShardOk_2F p [gd q 0])]⟩, true))
theorem i_ShardOk_2_ok : EntOk Tryz.prog i_ShardOk_2E := e2_ok fun p q h => evFn_sound (N := 0) (ks := i_ShardOk_2K) (key := bo) i_ShardOk_2T_ok (enters Tryz.func169 (by kernel_rfl) (by kernel_rfl)) Tryz.func169 fun hw => by
  rw [i_ShardOk_2_ev]
  try simp only [cond_ob, cond_oi, cond_os]
  rfl

/-! loop.example/g00097/impl.ShardOk$3 -/
abbrev i_ShardOk_3T : FuncId → List T → Option (T × Bool) := find [i_LkeysE, i_haveAllE, coIE]
theorem i_ShardOk_3T_ok : CallOk Tryz.prog i_ShardOk_3T := find_ok (List.forall_mem_cons.2 ⟨i_Lkeys_ok, List.forall_mem_cons.2 ⟨i_haveAll_ok, List.forall_mem_cons.2 ⟨coI_ok, List.forall_mem_nil _⟩⟩⟩)
abbrev i_ShardOk_3K : List Nat := [0, 1, 2, 3, 4]
theorem i_ShardOk_3_ev (N : Nat) (p q r : List D) : evFn Tryz.prog i_ShardOk_3T N i_ShardOk_3K Tryz.f172 rb [⟨ag rILock, p⟩, ⟨.one (.c (.cptr [si, .sl 122, .sl 122, .sl 176, .sl 138, .sl 248, .sl 3, .sl 3, si] 0)), q⟩, ⟨.one (.c (.cptr [.sl 3] 0)), r⟩] = some (bo,
  bif !(haveAll (gd ((gd q 0).rows.getD 0 []) 1) [(gd p 1), (gd p 2)]) then ob true
  else ob (hasInt (gd ((gd r 0).rows.getD 0 []) 0) (gd p 0).int)) := by kernel_rfl
def i_ShardOk_3F (p q r : List D) : Bool :=
  bif !(haveAll (gd ((gd q 0).rows.getD 0 []) 1) [(gd p 1), (gd p 2)]) then true
  else hasInt (gd ((gd r 0).rows.getD 0 []) 0) (gd p 0).int
def i_ShardOk_3E : Ent := (172, e3 (ag rILock) (.one (.c (.cptr [si, .sl 122, .sl 122, .sl 176, .sl 138, .sl 248, .sl 3, .sl 3, si] 0))) (.one (.c (.cptr [.sl 3] 0))) fun p q r => (⟨rb, [.b (i_ShardOk_3F p [gd q 0] [gd r 0])]⟩, true))
theorem i_ShardOk_3_ok : EntOk Tryz.prog i_ShardOk_3E := e3_ok fun p q r h => evFn_sound (N := 0) (ks := i_ShardOk_3K) (key := bo) i_ShardOk_3T_ok (enters Tryz.func172 (by kernel_rfl) (by kernel_rfl)) Tryz.func172 fun hw => by
  rw [i_ShardOk_3_ev]
  try simp only [cond_ob, cond_oi, cond_os]
  rfl

/-! slices.IndexFunc[[]loop.example/g00097/impl.Range,loop.example/g00097/impl.Range] -/
abbrev ixfSFT : FuncId → List T → Option (T × Bool) := find [i_ShardOk_1E]
theorem ixfSFT_ok : CallOk Tryz.prog ixfSFT := find_ok (List.forall_mem_cons.2 ⟨i_ShardOk_1_ok, List.forall_mem_nil _⟩)
abbrev ixfSFK : List Nat := [0, 1, 4, 5, 7, 8, 9, 16]
noncomputable def ixfSFL0 (N : Nat) (p q : List D) : List D → Out := loopOf Tryz.prog ixfSFT N ixfSFK Tryz.f264 ri [⟨sd (.sl 122), p⟩, ⟨.one (.c (.fn 167 [.cptr [si, .sl 122, .sl 122, .sl 176, .sl 138, .sl 248, .sl 3, .sl 3, si] 0])), q⟩] 0
/- x0=t0(sd (.sl 122)) x1=t1(.one (.c (.fn 167 [.cptr [si, .sl 122, .sl 122, .sl 176, .sl 138, .sl 248, .sl 3, .sl 3, si] 0]))) x2=t4(ri) x3=t7(ri) x4=t8(ri) -/
theorem ixfSFR0 (N : Nat) (p q : List D) (x0 x1 x2 x3 x4 : D) : (ixfSFL0 N p q) [x0, x1, x2, x3, x4] =
  bif ltI x4.int x3.int then nd (inRange x4.int x0.rows.length) (bif i_ShardOk_1F (sub (x0.rows.getD x4.int.toNat []) 0 2) [gd (x1.rows.getD 0 []) 0] then some (1, [x4])
  else nx [x0, x1, x2, x3, .i (w64 (x4.int + 1))])
  else ex 0 [x0, x1, x2, x3, x4] := by kernel_rfl
theorem ixfSF_ev (N : Nat) (p q : List D) : evFn Tryz.prog ixfSFT N ixfSFK Tryz.f264 ri [⟨sd (.sl 122), p⟩, ⟨.one (.c (.fn 167 [.cptr [si, .sl 122, .sl 122, .sl 176, .sl 138, .sl 248, .sl 3, .sl 3, si] 0])), q⟩] = some (bo,
  (let o0 := iter (ixfSFL0 N p q) N [gd p 0, gd q 0, .i 0, .i ((gd p 0).rows.length : Int), .i 0]
   nd o0.isSome (bif o0.code == 1 then some (1, o0.pay)
   else nd (o0.code == 2) (oi (-1))))) := by kernel_rfl
def ixfSFC (c : D) (r : List D) : Bool := i_ShardOk_1F r [gd (c.rows.getD 0 []) 0]
def ixfSFE : Ent := (264, e2 (sd (.sl 122)) (.one (.c (.fn 167 [.cptr [si, .sl 122, .sl 122, .sl 176, .sl 138, .sl 248, .sl 3, .sl 3, si] 0]))) fun p q => (⟨ri, [.i (ixF (fun k => ixfSFC (gd q 0) (sub ((gd p 0).rows.getD k []) 0 2)) 0 (gd p 0).rows.length)]⟩, true))
theorem ixfSF_ok : EntOk Tryz.prog ixfSFE := e2_ok fun p q h => evFn_sound (N := (gd p 0).rows.length + 1) (ks := ixfSFK) (key := bo) ixfSFT_ok (enters Tryz.func264 (by kernel_rfl) (by kernel_rfl)) Tryz.func264 fun hw => by
  rw [ixfSF_ev]
  have hl := wt_sl (hw ⟨sd (.sl 122), p⟩ (by simp))
  have e := ix_loop (L := ixfSFL0 ((gd p 0).rows.length + 1) p q) (fun k => [gd p 0, gd q 0, .i 0, .i ((gd p 0).rows.length : Int), .i (k : Int)]) (gd p 0).rows.length (fun k => ixfSFC (gd q 0) (sub ((gd p 0).rows.getD k []) 0 2)) [gd p 0, gd q 0, .i 0, .i ((gd p 0).rows.length : Int), .i ((gd p 0).rows.length : Int)] (fun k hk => ?_) ?_ (gd p 0).rows.length 0 ((gd p 0).rows.length + 1) (by omega) (by omega)
  · simp only [Int.natCast_zero] at e
    rw [e]
    have hno := ixF_neg (fun k => ixfSFC (gd q 0) (sub ((gd p 0).rows.getD k []) 0 2)) (gd p 0).rows.length 0
    cases hd : decide (ixF (fun k => ixfSFC (gd q 0) (sub ((gd p 0).rows.getD k []) 0 2)) 0 (gd p 0).rows.length ≥ 0)
    · rw [hno hd]; rfl
    · rfl
  · show ixfSFL0 _ p q [_, _, _, _, .i (k : Int)] = _
    rw [ixfSFR0]
    simp only [int_i, c_lt hk, nd_ix hk, w64_succ hk hl, Int.toNat_natCast]
    unfold ixfSFC
    cases i_ShardOk_1F (sub ((gd p 0).rows.getD k []) 0 2) [gd ((gd q 0).rows.getD 0 []) 0] <;> rfl
  · show ixfSFL0 _ p q [_, _, _, .i ((gd p 0).rows.length : Int), .i ((gd p 0).rows.length : Int)] = _
    rw [ixfSFR0]
    simp only [int_i, c_nlt]

/-! slices.ContainsFunc[[]loop.example/g00097/impl.Range,loop.example/g00097/impl.Range] -/
abbrev cofSFT : FuncId → List T → Option (T × Bool) := find [ixfSFE, i_ShardOk_1E]
theorem cofSFT_ok : CallOk Tryz.prog cofSFT := find_ok (List.forall_mem_cons.2 ⟨ixfSF_ok, List.forall_mem_cons.2 ⟨i_ShardOk_1_ok, List.forall_mem_nil _⟩⟩)
abbrev cofSFK : List Nat := [0, 1, 4]
theorem cofSF_ev (N : Nat) (p q : List D) : evFn Tryz.prog cofSFT N cofSFK Tryz.f166 rb [⟨sd (.sl 122), p⟩, ⟨.one (.c (.fn 167 [.cptr [si, .sl 122, .sl 122, .sl 176, .sl 138, .sl 248, .sl 3, .sl 3, si] 0])), q⟩] = some (bo,
  ob (leI 0 (ixF (fun k => ixfSFC (.l [[gd ((gd q 0).rows.getD 0 []) 0]]) (sub ((gd p 0).rows.getD k []) 0 2)) 0 (gd p 0).rows.length))) := by kernel_rfl
def cofSFE : Ent := (166, e2 (sd (.sl 122)) (.one (.c (.fn 167 [.cptr [si, .sl 122, .sl 122, .sl 176, .sl 138, .sl 248, .sl 3, .sl 3, si] 0]))) fun p q => (⟨rb, [.b (anyS (fun rr => ixfSFC (gd q 0) (sub rr 0 2)) (gd p 0))]⟩, true))
theorem cofSF_ok : EntOk Tryz.prog cofSFE := e2_ok fun p q h => evFn_sound (N := 0) (ks := cofSFK) (key := bo) cofSFT_ok (enters Tryz.func166 (by kernel_rfl) (by kernel_rfl)) Tryz.func166 fun hw => by
  rw [cofSF_ev]
  refine congrArg (fun x => some (bo, ob x)) ?_
  exact (ixF_any (fun k => ixfSFC (gd q 0) (sub ((gd p 0).rows.getD k []) 0 2)) (gd p 0).rows.length 0).trans (by simp only [Nat.zero_add]; rfl)

/-! slices.IndexFunc[[]loop.example/g00097/impl.Cell,loop.example/g00097/impl.Cell] -/
abbrev ixfSCT : FuncId → List T → Option (T × Bool) := find [i_ShardOk_2E]
theorem ixfSCT_ok : CallOk Tryz.prog ixfSCT := find_ok (List.forall_mem_cons.2 ⟨i_ShardOk_2_ok, List.forall_mem_nil _⟩)
abbrev ixfSCK : List Nat := [0, 1, 4, 5, 7, 8, 9, 16]
noncomputable def ixfSCL0 (N : Nat) (p q : List D) : List D → Out := loopOf Tryz.prog ixfSCT N ixfSCK Tryz.f265 ri [⟨sd (.sl 176), p⟩, ⟨.one (.c (.fn 169 [.cptr [si, .sl 122, .sl 122, .sl 176, .sl 138, .sl 248, .sl 3, .sl 3, si] 0])), q⟩] 0
/- x0=t0(sd (.sl 176)) x1=t1(.one (.c (.fn 169 [.cptr [si, .sl 122, .sl 122, .sl 176, .sl 138, .sl 248, .sl 3, .sl 3, si] 0]))) x2=t4(ri) x3=t7(ri) x4=t8(ri) -/
theorem ixfSCR0 (N : Nat) (p q : List D) (x0 x1 x2 x3 x4 : D) : (ixfSCL0 N p q) [x0, x1, x2, x3, x4] =
  bif ltI x4.int x3.int then nd (inRange x4.int x0.rows.length) (bif i_ShardOk_2F (sub (x0.rows.getD x4.int.toNat []) 0 2) [gd (x1.rows.getD 0 []) 0] then some (1, [x4])
  else nx [x0, x1, x2, x3, .i (w64 (x4.int + 1))])
  else ex 0 [x0, x1, x2, x3, x4] := by kernel_rfl
theorem ixfSC_ev (N : Nat) (p q : List D) : evFn Tryz.prog ixfSCT N ixfSCK Tryz.f265 ri [⟨sd (.sl 176), p⟩, ⟨.one (.c (.fn 169 [.cptr [si, .sl 122, .sl 122, .sl 176, .sl 138, .sl 248, .sl 3, .sl 3, si] 0])), q⟩] = some (bo,
  (let o0 := iter (ixfSCL0 N p q) N [gd p 0, gd q 0, .i 0, .i ((gd p 0).rows.length : Int), .i 0]
   nd o0.isSome (bif o0.code == 1 then some (1, o0.pay)
   else nd (o0.code == 2) (oi (-1))))) := by kernel_rfl
def ixfSCC (c : D) (r : List D) : Bool := i_ShardOk_2F r [gd (c.rows.getD 0 []) 0]
def ixfSCE : Ent := (265, e2 (sd (.sl 176)) (.one (.c (.fn 169 [.cptr [si, .sl 122, .sl 122, .sl 176, .sl 138, .sl 248, .sl 3, .sl 3, si] 0]))) fun p q => (⟨ri, [.i (ixF (fun k => ixfSCC (gd q 0) (sub ((gd p 0).rows.getD k []) 0 2)) 0 (gd p 0).rows.length)]⟩, true))
theorem ixfSC_ok : EntOk Tryz.prog ixfSCE := e2_ok fun p q h => evFn_sound (N := (gd p 0).rows.length + 1) (ks := ixfSCK) (key := bo) ixfSCT_ok (enters Tryz.func265 (by kernel_rfl) (by kernel_rfl)) Tryz.func265 fun hw => by
  rw [ixfSC_ev]
  have hl := wt_sl (hw ⟨sd (.sl 176), p⟩ (by simp))
  have e := ix_loop (L := ixfSCL0 ((gd p 0).rows.length + 1) p q) (fun k => [gd p 0, gd q 0, .i 0, .i ((gd p 0).rows.length : Int), .i (k : Int)]) (gd p 0).rows.length (fun k => ixfSCC (gd q 0) (sub ((gd p 0).rows.getD k []) 0 2)) [gd p 0, gd q 0, .i 0, .i ((gd p 0).rows.length : Int), .i ((gd p 0).rows.length : Int)] (fun k hk => ?_) ?_ (gd p 0).rows.length 0 ((gd p 0).rows.length + 1) (by omega) (by omega)
  · simp only [Int.natCast_zero] at e
    rw [e]
    have hno := ixF_neg (fun k => ixfSCC (gd q 0) (sub ((gd p 0).rows.getD k []) 0 2)) (gd p 0).rows.length 0
    cases hd : decide (ixF (fun k => ixfSCC (gd q 0) (sub ((gd p 0).rows.getD k []) 0 2)) 0 (gd p 0).rows.length ≥ 0)
    · rw [hno hd]; rfl
    · rfl
  · show ixfSCL0 _ p q [_, _, _, _, .i (k : Int)] = _
    rw [ixfSCR0]
    simp only [int_i, c_lt hk, nd_ix hk, w64_succ hk hl, Int.toNat_natCast]
    unfold ixfSCC
    cases i_ShardOk_2F (sub ((gd p 0).rows.getD k []) 0 2) [gd ((gd q 0).rows.getD 0 []) 0] <;> rfl
  · show ixfSCL0 _ p q [_, _, _, .i ((gd p 0).rows.length : Int), .i ((gd p 0).rows.length : Int)] = _
    rw [ixfSCR0]
    simp only [int_i, c_nlt]

/-! slices.ContainsFunc[[]loop.example/g00097/impl.Cell,loop.example/g00097/impl.Cell] -/
abbrev cofSCT : FuncId → List T → Option (T × Bool) := find [ixfSCE, i_ShardOk_2E]
theorem cofSCT_ok : CallOk Tryz.prog cofSCT := find_ok (List.forall_mem_cons.2 ⟨ixfSC_ok, List.forall_mem_cons.2 ⟨i_ShardOk_2_ok, List.forall_mem_nil _⟩⟩)
abbrev cofSCK : List Nat := [0, 1, 4]
theorem cofSC_ev (N : Nat) (p q : List D) : evFn Tryz.prog cofSCT N cofSCK Tryz.f168 rb [⟨sd (.sl 176), p⟩, ⟨.one (.c (.fn 169 [.cptr [si, .sl 122, .sl 122, .sl 176, .sl 138, .sl 248, .sl 3, .sl 3, si] 0])), q⟩] = some (bo,
  ob (leI 0 (ixF (fun k => ixfSCC (.l [[gd ((gd q 0).rows.getD 0 []) 0]]) (sub ((gd p 0).rows.getD k []) 0 2)) 0 (gd p 0).rows.length))) := by kernel_rfl
def cofSCE : Ent := (168, e2 (sd (.sl 176)) (.one (.c (.fn 169 [.cptr [si, .sl 122, .sl 122, .sl 176, .sl 138, .sl 248, .sl 3, .sl 3, si] 0]))) fun p q => (⟨rb, [.b (anyS (fun rr => ixfSCC (gd q 0) (sub rr 0 2)) (gd p 0))]⟩, true))
theorem cofSC_ok : EntOk Tryz.prog cofSCE := e2_ok fun p q h => evFn_sound (N := 0) (ks := cofSCK) (key := bo) cofSCT_ok (enters Tryz.func168 (by kernel_rfl) (by kernel_rfl)) Tryz.func168 fun hw => by
  rw [cofSC_ev]
  refine congrArg (fun x => some (bo, ob x)) ?_
  exact (ixF_any (fun k => ixfSCC (gd q 0) (sub ((gd p 0).rows.getD k []) 0 2)) (gd p 0).rows.length 0).trans (by simp only [Nat.zero_add]; rfl)

/-! slices.IndexFunc[[]loop.example/g00097/impl.Lock,loop.example/g00097/impl.Lock] -/
abbrev ixfSLT : FuncId → List T → Option (T × Bool) := find [i_ShardOk_3E]
theorem ixfSLT_ok : CallOk Tryz.prog ixfSLT := find_ok (List.forall_mem_cons.2 ⟨i_ShardOk_3_ok, List.forall_mem_nil _⟩)
abbrev ixfSLK : List Nat := [0, 1, 4, 5, 7, 8, 9, 16]
noncomputable def ixfSLL0 (N : Nat) (p q : List D) : List D → Out := loopOf Tryz.prog ixfSLT N ixfSLK Tryz.f267 ri [⟨sd (.sl 138), p⟩, ⟨.one (.c (.fn 172 [.cptr [si, .sl 122, .sl 122, .sl 176, .sl 138, .sl 248, .sl 3, .sl 3, si] 0, .cptr [.sl 3] 0])), q⟩] 0
/- x0=t0(sd (.sl 138)) x1=t1(.one (.c (.fn 172 [.cptr [si, .sl 122, .sl 122, .sl 176, .sl 138, .sl 248, .sl 3, .sl 3, si] 0, .cptr [.sl 3] 0]))) x2=t4(ri) x3=t7(ri) x4=t8(ri) -/
theorem ixfSLR0 (N : Nat) (p q : List D) (x0 x1 x2 x3 x4 : D) : (ixfSLL0 N p q) [x0, x1, x2, x3, x4] =
  bif ltI x4.int x3.int then nd (inRange x4.int x0.rows.length) (bif i_ShardOk_3F (sub (x0.rows.getD x4.int.toNat []) 0 4) [gd (x1.rows.getD 0 []) 0] [gd (x1.rows.getD 0 []).tail 0] then some (1, [x4])
  else nx [x0, x1, x2, x3, .i (w64 (x4.int + 1))])
  else ex 0 [x0, x1, x2, x3, x4] := by kernel_rfl
theorem ixfSL_ev (N : Nat) (p q : List D) : evFn Tryz.prog ixfSLT N ixfSLK Tryz.f267 ri [⟨sd (.sl 138), p⟩, ⟨.one (.c (.fn 172 [.cptr [si, .sl 122, .sl 122, .sl 176, .sl 138, .sl 248, .sl 3, .sl 3, si] 0, .cptr [.sl 3] 0])), q⟩] = some (bo,
  (let o0 := iter (ixfSLL0 N p q) N [gd p 0, gd q 0, .i 0, .i ((gd p 0).rows.length : Int), .i 0]
   nd o0.isSome (bif o0.code == 1 then some (1, o0.pay)
   else nd (o0.code == 2) (oi (-1))))) := by kernel_rfl
def ixfSLC (c : D) (r : List D) : Bool := i_ShardOk_3F r [gd (c.rows.getD 0 []) 0] [gd (c.rows.getD 0 []).tail 0]
def ixfSLE : Ent := (267, e2 (sd (.sl 138)) (.one (.c (.fn 172 [.cptr [si, .sl 122, .sl 122, .sl 176, .sl 138, .sl 248, .sl 3, .sl 3, si] 0, .cptr [.sl 3] 0]))) fun p q => (⟨ri, [.i (ixF (fun k => ixfSLC (gd q 0) (sub ((gd p 0).rows.getD k []) 0 4)) 0 (gd p 0).rows.length)]⟩, true))
theorem ixfSL_ok : EntOk Tryz.prog ixfSLE := e2_ok fun p q h => evFn_sound (N := (gd p 0).rows.length + 1) (ks := ixfSLK) (key := bo) ixfSLT_ok (enters Tryz.func267 (by kernel_rfl) (by kernel_rfl)) Tryz.func267 fun hw => by
  rw [ixfSL_ev]
  have hl := wt_sl (hw ⟨sd (.sl 138), p⟩ (by simp))
  have e := ix_loop (L := ixfSLL0 ((gd p 0).rows.length + 1) p q) (fun k => [gd p 0, gd q 0, .i 0, .i ((gd p 0).rows.length : Int), .i (k : Int)]) (gd p 0).rows.length (fun k => ixfSLC (gd q 0) (sub ((gd p 0).rows.getD k []) 0 4)) [gd p 0, gd q 0, .i 0, .i ((gd p 0).rows.length : Int), .i ((gd p 0).rows.length : Int)] (fun k hk => ?_) ?_ (gd p 0).rows.length 0 ((gd p 0).rows.length + 1) (by omega) (by omega)
  · simp only [Int.natCast_zero] at e
    rw [e]
    have hno := ixF_neg (fun k => ixfSLC (gd q 0) (sub ((gd p 0).rows.getD k []) 0 4)) (gd p 0).rows.length 0
    cases hd : decide (ixF (fun k => ixfSLC (gd q 0) (sub ((gd p 0).rows.getD k []) 0 4)) 0 (gd p 0).rows.length ≥ 0)
    · rw [hno hd]; rfl
    · rfl
  · show ixfSLL0 _ p q [_, _, _, _, .i (k : Int)] = _
    rw [ixfSLR0]
    simp only [int_i, c_lt hk, nd_ix hk, w64_succ hk hl, Int.toNat_natCast]
    unfold ixfSLC
    cases i_ShardOk_3F (sub ((gd p 0).rows.getD k []) 0 4) [gd ((gd q 0).rows.getD 0 []) 0] [gd ((gd q 0).rows.getD 0 []).tail 0] <;> rfl
  · show ixfSLL0 _ p q [_, _, _, .i ((gd p 0).rows.length : Int), .i ((gd p 0).rows.length : Int)] = _
    rw [ixfSLR0]
    simp only [int_i, c_nlt]

/-! slices.ContainsFunc[[]loop.example/g00097/impl.Lock,loop.example/g00097/impl.Lock] -/
abbrev cofSLT : FuncId → List T → Option (T × Bool) := find [ixfSLE, i_ShardOk_3E]
theorem cofSLT_ok : CallOk Tryz.prog cofSLT := find_ok (List.forall_mem_cons.2 ⟨ixfSL_ok, List.forall_mem_cons.2 ⟨i_ShardOk_3_ok, List.forall_mem_nil _⟩⟩)
abbrev cofSLK : List Nat := [0, 1, 4]
theorem cofSL_ev (N : Nat) (p q : List D) : evFn Tryz.prog cofSLT N cofSLK Tryz.f171 rb [⟨sd (.sl 138), p⟩, ⟨.one (.c (.fn 172 [.cptr [si, .sl 122, .sl 122, .sl 176, .sl 138, .sl 248, .sl 3, .sl 3, si] 0, .cptr [.sl 3] 0])), q⟩] = some (bo,
  ob (leI 0 (ixF (fun k => ixfSLC (.l [[gd ((gd q 0).rows.getD 0 []) 0, gd ((gd q 0).rows.getD 0 []).tail 0]]) (sub ((gd p 0).rows.getD k []) 0 4)) 0 (gd p 0).rows.length))) := by kernel_rfl
def cofSLE : Ent := (171, e2 (sd (.sl 138)) (.one (.c (.fn 172 [.cptr [si, .sl 122, .sl 122, .sl 176, .sl 138, .sl 248, .sl 3, .sl 3, si] 0, .cptr [.sl 3] 0]))) fun p q => (⟨rb, [.b (anyS (fun rr => ixfSLC (gd q 0) (sub rr 0 4)) (gd p 0))]⟩, true))
theorem cofSL_ok : EntOk Tryz.prog cofSLE := e2_ok fun p q h => evFn_sound (N := 0) (ks := cofSLK) (key := bo) cofSLT_ok (enters Tryz.func171 (by kernel_rfl) (by kernel_rfl)) Tryz.func171 fun hw => by
  rw [cofSL_ev]
  refine congrArg (fun x => some (bo, ob x)) ?_
  exact (ixF_any (fun k => ixfSLC (gd q 0) (sub ((gd p 0).rows.getD k []) 0 4)) (gd p 0).rows.length 0).trans (by simp only [Nat.zero_add]; rfl)

end Go.Proofs.YtchceahcaaibcaaGreat
