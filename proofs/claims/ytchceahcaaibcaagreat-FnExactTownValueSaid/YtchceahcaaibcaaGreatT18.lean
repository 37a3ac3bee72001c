/-
  The town: what is free. Printed by sym.py.
-/
import Derived.Test.YtchceahcaaibcaaGreatT17
namespace Go.Proofs.YtchceahcaaibcaaGreat
set_option maxRecDepth 4096
set_option maxHeartbeats 1000000
set_option linter.unusedSimpArgs false
set_option linter.unusedVariables false
/-! loop.example/g00097/impl.haveAny$1 -/
abbrev i_haveAny_1T : FuncId → List T → Option (T × Bool) := find [i_meetsE]
theorem i_haveAny_1T_ok : CallOk Tryz.prog i_haveAny_1T := find_ok (List.forall_mem_cons.2 ⟨i_meets_ok, List.forall_mem_nil _⟩)
abbrev i_haveAny_1K : List Nat := [0, 1, 2, 3]
theorem i_haveAny_1_ev (N : Nat) (p q : List D) : evFn Tryz.prog i_haveAny_1T N i_haveAny_1K Tryz.f287 rb [⟨ag rIRange, p⟩, ⟨.one (.c (.cptr [si, si] 0)), q⟩] = some (bo,
  ob (i_meetsF (sub ((gd q 0).rows.getD 0 []) 0 2) (sub p 0 2))) := by kernel_rfl
def i_haveAny_1F (p q : List D) : Bool :=
  i_meetsF (sub ((gd q 0).rows.getD 0 []) 0 2) (sub p 0 2)
def i_haveAny_1E : Ent := (287, e2 (ag rIRange) (.one (.c (.cptr [si, si] 0))) fun p q => (⟨rb, [.b (i_haveAny_1F p [gd q 0])]⟩, true))
theorem i_haveAny_1_ok : EntOk Tryz.prog i_haveAny_1E := e2_ok fun p q h => evFn_sound (N := 0) (ks := i_haveAny_1K) (key := bo) i_haveAny_1T_ok (enters Tryz.func287 (by kernel_rfl) (by kernel_rfl)) Tryz.func287 fun hw => by
  rw [i_haveAny_1_ev]
  try simp only [cond_ob, cond_oi, cond_os]
  rfl

/-! slices.IndexFunc[[]loop.example/g00097/impl.Range,loop.example/g00097/impl.Range] -/
abbrev ixfHAT : FuncId → List T → Option (T × Bool) := find [i_haveAny_1E]
theorem ixfHAT_ok : CallOk Tryz.prog ixfHAT := find_ok (List.forall_mem_cons.2 ⟨i_haveAny_1_ok, List.forall_mem_nil _⟩)
abbrev ixfHAK : List Nat := [0, 1, 4, 5, 7, 8, 9, 16]
noncomputable def ixfHAL0 (N : Nat) (p q : List D) : List D → Out := loopOf Tryz.prog ixfHAT N ixfHAK Tryz.f264 ri [⟨sd (.sl 122), p⟩, ⟨.one (.c (.fn 287 [.cptr [si, si] 0])), q⟩] 0
/- x0=t0(sd (.sl 122)) x1=t1(.one (.c (.fn 287 [.cptr [si, si] 0]))) x2=t4(ri) x3=t7(ri) x4=t8(ri) -/
theorem ixfHAR0 (N : Nat) (p q : List D) (x0 x1 x2 x3 x4 : D) : (ixfHAL0 N p q) [x0, x1, x2, x3, x4] =
  bif ltI x4.int x3.int then nd (inRange x4.int x0.rows.length) (bif i_haveAny_1F (sub (x0.rows.getD x4.int.toNat []) 0 2) [gd (x1.rows.getD 0 []) 0] then some (1, [x4])
  else nx [x0, x1, x2, x3, .i (w64 (x4.int + 1))])
  else ex 0 [x0, x1, x2, x3, x4] := by kernel_rfl
theorem ixfHA_ev (N : Nat) (p q : List D) : evFn Tryz.prog ixfHAT N ixfHAK Tryz.f264 ri [⟨sd (.sl 122), p⟩, ⟨.one (.c (.fn 287 [.cptr [si, si] 0])), q⟩] = some (bo,
  (let o0 := iter (ixfHAL0 N p q) N [gd p 0, gd q 0, .i 0, .i ((gd p 0).rows.length : Int), .i 0]
   nd o0.isSome (bif o0.code == 1 then some (1, o0.pay)
   else nd (o0.code == 2) (oi (-1))))) := by kernel_rfl
def ixfHAC (c : D) (r : List D) : Bool := i_haveAny_1F r [gd (c.rows.getD 0 []) 0]
def ixfHAE : Ent := (264, e2 (sd (.sl 122)) (.one (.c (.fn 287 [.cptr [si, si] 0]))) fun p q => (⟨ri, [.i (ixF (fun k => ixfHAC (gd q 0) (sub ((gd p 0).rows.getD k []) 0 2)) 0 (gd p 0).rows.length)]⟩, true))
theorem ixfHA_ok : EntOk Tryz.prog ixfHAE := e2_ok fun p q h => evFn_sound (N := (gd p 0).rows.length + 1) (ks := ixfHAK) (key := bo) ixfHAT_ok (enters Tryz.func264 (by kernel_rfl) (by kernel_rfl)) Tryz.func264 fun hw => by
  rw [ixfHA_ev]
  have hl := wt_sl (hw ⟨sd (.sl 122), p⟩ (by simp))
  have e := ix_loop (L := ixfHAL0 ((gd p 0).rows.length + 1) p q) (fun k => [gd p 0, gd q 0, .i 0, .i ((gd p 0).rows.length : Int), .i (k : Int)]) (gd p 0).rows.length (fun k => ixfHAC (gd q 0) (sub ((gd p 0).rows.getD k []) 0 2)) [gd p 0, gd q 0, .i 0, .i ((gd p 0).rows.length : Int), .i ((gd p 0).rows.length : Int)] (fun k hk => ?_) ?_ (gd p 0).rows.length 0 ((gd p 0).rows.length + 1) (by omega) (by omega)
  · simp only [Int.natCast_zero] at e
    rw [e]
    have hno := ixF_neg (fun k => ixfHAC (gd q 0) (sub ((gd p 0).rows.getD k []) 0 2)) (gd p 0).rows.length 0
    cases hd : decide (ixF (fun k => ixfHAC (gd q 0) (sub ((gd p 0).rows.getD k []) 0 2)) 0 (gd p 0).rows.length ≥ 0)
    · rw [hno hd]; rfl
    · rfl
  · show ixfHAL0 _ p q [_, _, _, _, .i (k : Int)] = _
    rw [ixfHAR0]
    simp only [int_i, c_lt hk, nd_ix hk, w64_succ hk hl, Int.toNat_natCast]
    unfold ixfHAC
    cases i_haveAny_1F (sub ((gd p 0).rows.getD k []) 0 2) [gd ((gd q 0).rows.getD 0 []) 0] <;> rfl
  · show ixfHAL0 _ p q [_, _, _, .i ((gd p 0).rows.length : Int), .i ((gd p 0).rows.length : Int)] = _
    rw [ixfHAR0]
    simp only [int_i, c_nlt]

/-! slices.ContainsFunc[[]loop.example/g00097/impl.Range,loop.example/g00097/impl.Range] -/
abbrev cofHAT : FuncId → List T → Option (T × Bool) := find [ixfHAE, i_haveAny_1E]
theorem cofHAT_ok : CallOk Tryz.prog cofHAT := find_ok (List.forall_mem_cons.2 ⟨ixfHA_ok, List.forall_mem_cons.2 ⟨i_haveAny_1_ok, List.forall_mem_nil _⟩⟩)
abbrev cofHAK : List Nat := [0, 1, 4]
theorem cofHA_ev (N : Nat) (p q : List D) : evFn Tryz.prog cofHAT N cofHAK Tryz.f166 rb [⟨sd (.sl 122), p⟩, ⟨.one (.c (.fn 287 [.cptr [si, si] 0])), q⟩] = some (bo,
  ob (leI 0 (ixF (fun k => ixfHAC (.l [[gd ((gd q 0).rows.getD 0 []) 0]]) (sub ((gd p 0).rows.getD k []) 0 2)) 0 (gd p 0).rows.length))) := by kernel_rfl
def cofHAE : Ent := (166, e2 (sd (.sl 122)) (.one (.c (.fn 287 [.cptr [si, si] 0]))) fun p q => (⟨rb, [.b (anyS (fun rr => ixfHAC (gd q 0) (sub rr 0 2)) (gd p 0))]⟩, true))
theorem cofHA_ok : EntOk Tryz.prog cofHAE := e2_ok fun p q h => evFn_sound (N := 0) (ks := cofHAK) (key := bo) cofHAT_ok (enters Tryz.func166 (by kernel_rfl) (by kernel_rfl)) Tryz.func166 fun hw => by
  rw [cofHA_ev]
  refine congrArg (fun x => some (bo, ob x)) ?_
  exact (ixF_any (fun k => ixfHAC (gd q 0) (sub ((gd p 0).rows.getD k []) 0 2)) (gd p 0).rows.length 0).trans (by simp only [Nat.zero_add]; rfl)

/-! loop.example/g00097/impl.haveAny -/
abbrev i_haveAnyT : FuncId → List T → Option (T × Bool) := find [cofHAE]
theorem i_haveAnyT_ok : CallOk Tryz.prog i_haveAnyT := find_ok (List.forall_mem_cons.2 ⟨cofHA_ok, List.forall_mem_nil _⟩)
abbrev i_haveAnyK : List Nat := [0, 1, 3, 4]
theorem i_haveAny_ev (N : Nat) (p q : List D) : evFn Tryz.prog i_haveAnyT N i_haveAnyK Tryz.f204 rb [⟨sd (.sl 122), p⟩, ⟨ag rIRange, q⟩] = some (bo,
  ob (anyS (fun rr => ixfHAC (.l [[.l [sub q 0 2]]]) (sub rr 0 2)) (gd p 0))) := by kernel_rfl
def haveAnyB (z : D) (q : List D) : Bool := (List.range z.rows.length).any fun k => i_meetsF q (sub (z.rows.getD k []) 0 2)
def i_haveAnyE : Ent := (204, e2 (sd (.sl 122)) (ag rIRange) fun p q => (⟨rb, [.b (haveAnyB (gd p 0) q)]⟩, true))
theorem i_haveAny_ok : EntOk Tryz.prog i_haveAnyE := e2_ok fun p q h => evFn_sound (N := 0) (ks := i_haveAnyK) (key := bo) i_haveAnyT_ok (enters Tryz.func204 (by kernel_rfl) (by kernel_rfl)) Tryz.func204 fun hw => by
  rw [i_haveAny_ev]
  rfl

/-! loop.example/g00097/spec.l10Touch -/
abbrev s_l10TouchT : FuncId → List T → Option (T × Bool) := find [s_RangeMeetE]
theorem s_l10TouchT_ok : CallOk Tryz.prog s_l10TouchT := find_ok (List.forall_mem_cons.2 ⟨s_RangeMeet_ok, List.forall_mem_nil _⟩)
abbrev s_l10TouchK : List Nat := [0, 1, 3, 4, 5, 7, 11, 23]
noncomputable def s_l10TouchL0 (N : Nat) (p q : List D) : List D → Out := loopOf Tryz.prog s_l10TouchT N s_l10TouchK Tryz.f203 rb [⟨sd (.sl 122), p⟩, ⟨ag rIRange, q⟩] 0
/- x0=t0(sd (.sl 122)) x1=t1(.one (.agg [.d si, .d si])) x3=t3(.one (.c (.ptr 3 0))) x4=t4(.one (.c (.kb false))) x5=t5(ri) x6=box3[.d si, .d si] -/
theorem s_l10TouchR0 (N : Nat) (p q : List D) (x0 x1 x2 x3 x4 x5 x6 x7 : D) : (s_l10TouchL0 N p q) [x0, x1, x2, x3, x4, x5, x6, x7] =
  bif ltI x5.int (x0.rows.length : Int) then nd ((inRange x5.int x0.rows.length) && true) (nd (((inRange x5.int x0.rows.length) && true) && (sameP [[gd (sub (meetR (sub (x0.rows.getD x5.int.toNat []) 0 2) [x6, x7]) 0 3) 2], [.i 0], [gd (sub (meetR (sub (x0.rows.getD x5.int.toNat []) 0 2) [x6, x7]) 0 3) 2], [gd (sub (meetR (sub (x0.rows.getD x5.int.toNat []) 0 2) [x6, x7]) 0 3) 0, gd (sub (meetR (sub (x0.rows.getD x5.int.toNat []) 0 2) [x6, x7]) 0 3) 1], [gd (sub (meetR (sub (x0.rows.getD x5.int.toNat []) 0 2) [x6, x7]) 0 3) 0, gd (sub (meetR (sub (x0.rows.getD x5.int.toNat []) 0 2) [x6, x7]) 0 3) 1, gd (sub (meetR (sub (x0.rows.getD x5.int.toNat []) 0 2) [x6, x7]) 0 3) 2], [gd (sub (meetR (sub (x0.rows.getD x5.int.toNat []) 0 2) [x6, x7]) 0 3) 0, gd (sub (meetR (sub (x0.rows.getD x5.int.toNat []) 0 2) [x6, x7]) 0 3) 1, gd (sub (meetR (sub (x0.rows.getD x5.int.toNat []) 0 2) [x6, x7]) 0 3) 2], [x6, x7], [gd (x0.rows.getD x5.int.toNat []) 0, gd (x0.rows.getD x5.int.toNat []) 1], [.l [[.l x0.rows, .i x5.int]]], [x5], [x0], [x0], [x1, x2], [x3], [x4], [x5], [.b (ltI x5.int (x0.rows.length : Int))], [x6, x7], [gd (sub (meetR (sub (x0.rows.getD x5.int.toNat []) 0 2) [x6, x7]) 0 3) 0, gd (sub (meetR (sub (x0.rows.getD x5.int.toNat []) 0 2) [x6, x7]) 0 3) 1]] [[gd (sub (meetR (sub (x0.rows.getD x5.int.toNat []) 0 2) [x6, x7]) 0 3) 2], [.i 0], [gd (sub (meetR (sub (x0.rows.getD x5.int.toNat []) 0 2) [x6, x7]) 0 3) 2], [gd (sub (meetR (sub (x0.rows.getD x5.int.toNat []) 0 2) [x6, x7]) 0 3) 0, gd (sub (meetR (sub (x0.rows.getD x5.int.toNat []) 0 2) [x6, x7]) 0 3) 1], [gd (sub (meetR (sub (x0.rows.getD x5.int.toNat []) 0 2) [x6, x7]) 0 3) 0, gd (sub (meetR (sub (x0.rows.getD x5.int.toNat []) 0 2) [x6, x7]) 0 3) 1, gd (sub (meetR (sub (x0.rows.getD x5.int.toNat []) 0 2) [x6, x7]) 0 3) 2], [gd (sub (meetR (sub (x0.rows.getD x5.int.toNat []) 0 2) [x6, x7]) 0 3) 0, gd (sub (meetR (sub (x0.rows.getD x5.int.toNat []) 0 2) [x6, x7]) 0 3) 1, gd (sub (meetR (sub (x0.rows.getD x5.int.toNat []) 0 2) [x6, x7]) 0 3) 2], [x6, x7], [gd (x0.rows.getD x5.int.toNat []) 0, gd (x0.rows.getD x5.int.toNat []) 1], [.l [[.l x0.rows, .i x5.int]]], [x5], [x0], [x0], [x1, x2], [x3], [x4], [x5], [.b (ltI x5.int (x0.rows.length : Int))], [x6, x7], [gd (sub (meetR (sub (x0.rows.getD x5.int.toNat []) 0 2) [x6, x7]) 0 3) 0, gd (sub (meetR (sub (x0.rows.getD x5.int.toNat []) 0 2) [x6, x7]) 0 3) 1]])) (nd (((inRange x5.int x0.rows.length) && true) && (sameP [[gd (sub (meetR (sub (x0.rows.getD x5.int.toNat []) 0 2) [x6, x7]) 0 3) 2], [.i 0], [gd (sub (meetR (sub (x0.rows.getD x5.int.toNat []) 0 2) [x6, x7]) 0 3) 2], [gd (sub (meetR (sub (x0.rows.getD x5.int.toNat []) 0 2) [x6, x7]) 0 3) 0, gd (sub (meetR (sub (x0.rows.getD x5.int.toNat []) 0 2) [x6, x7]) 0 3) 1], [gd (sub (meetR (sub (x0.rows.getD x5.int.toNat []) 0 2) [x6, x7]) 0 3) 0, gd (sub (meetR (sub (x0.rows.getD x5.int.toNat []) 0 2) [x6, x7]) 0 3) 1, gd (sub (meetR (sub (x0.rows.getD x5.int.toNat []) 0 2) [x6, x7]) 0 3) 2], [gd (sub (meetR (sub (x0.rows.getD x5.int.toNat []) 0 2) [x6, x7]) 0 3) 0, gd (sub (meetR (sub (x0.rows.getD x5.int.toNat []) 0 2) [x6, x7]) 0 3) 1, gd (sub (meetR (sub (x0.rows.getD x5.int.toNat []) 0 2) [x6, x7]) 0 3) 2], [x6, x7], [gd (x0.rows.getD x5.int.toNat []) 0, gd (x0.rows.getD x5.int.toNat []) 1], [.l [[.l x0.rows, .i x5.int]]], [x5], [x0], [x0], [x1, x2], [x3], [x4], [x5], [.b (ltI x5.int (x0.rows.length : Int))], [x6, x7], [gd (sub (meetR (sub (x0.rows.getD x5.int.toNat []) 0 2) [x6, x7]) 0 3) 0, gd (sub (meetR (sub (x0.rows.getD x5.int.toNat []) 0 2) [x6, x7]) 0 3) 1]] [[gd (sub (meetR (sub (x0.rows.getD x5.int.toNat []) 0 2) [x6, x7]) 0 3) 2], [.i 0], [gd (sub (meetR (sub (x0.rows.getD x5.int.toNat []) 0 2) [x6, x7]) 0 3) 2], [gd (sub (meetR (sub (x0.rows.getD x5.int.toNat []) 0 2) [x6, x7]) 0 3) 0, gd (sub (meetR (sub (x0.rows.getD x5.int.toNat []) 0 2) [x6, x7]) 0 3) 1], [gd (sub (meetR (sub (x0.rows.getD x5.int.toNat []) 0 2) [x6, x7]) 0 3) 0, gd (sub (meetR (sub (x0.rows.getD x5.int.toNat []) 0 2) [x6, x7]) 0 3) 1, gd (sub (meetR (sub (x0.rows.getD x5.int.toNat []) 0 2) [x6, x7]) 0 3) 2], [gd (sub (meetR (sub (x0.rows.getD x5.int.toNat []) 0 2) [x6, x7]) 0 3) 0, gd (sub (meetR (sub (x0.rows.getD x5.int.toNat []) 0 2) [x6, x7]) 0 3) 1, gd (sub (meetR (sub (x0.rows.getD x5.int.toNat []) 0 2) [x6, x7]) 0 3) 2], [x6, x7], [gd (x0.rows.getD x5.int.toNat []) 0, gd (x0.rows.getD x5.int.toNat []) 1], [.l [[.l x0.rows, .i x5.int]]], [x5], [x0], [x0], [x1, x2], [x3], [x4], [x5], [.b (ltI x5.int (x0.rows.length : Int))], [x6, x7], [gd (sub (meetR (sub (x0.rows.getD x5.int.toNat []) 0 2) [x6, x7]) 0 3) 0, gd (sub (meetR (sub (x0.rows.getD x5.int.toNat []) 0 2) [x6, x7]) 0 3) 1]])) (nd (((inRange x5.int x0.rows.length) && true) && (sameP [[gd (sub (meetR (sub (x0.rows.getD x5.int.toNat []) 0 2) [x6, x7]) 0 3) 2], [.i 0], [gd (sub (meetR (sub (x0.rows.getD x5.int.toNat []) 0 2) [x6, x7]) 0 3) 2], [gd (sub (meetR (sub (x0.rows.getD x5.int.toNat []) 0 2) [x6, x7]) 0 3) 0, gd (sub (meetR (sub (x0.rows.getD x5.int.toNat []) 0 2) [x6, x7]) 0 3) 1], [gd (sub (meetR (sub (x0.rows.getD x5.int.toNat []) 0 2) [x6, x7]) 0 3) 0, gd (sub (meetR (sub (x0.rows.getD x5.int.toNat []) 0 2) [x6, x7]) 0 3) 1, gd (sub (meetR (sub (x0.rows.getD x5.int.toNat []) 0 2) [x6, x7]) 0 3) 2], [gd (sub (meetR (sub (x0.rows.getD x5.int.toNat []) 0 2) [x6, x7]) 0 3) 0, gd (sub (meetR (sub (x0.rows.getD x5.int.toNat []) 0 2) [x6, x7]) 0 3) 1, gd (sub (meetR (sub (x0.rows.getD x5.int.toNat []) 0 2) [x6, x7]) 0 3) 2], [x6, x7], [gd (x0.rows.getD x5.int.toNat []) 0, gd (x0.rows.getD x5.int.toNat []) 1], [.l [[.l x0.rows, .i x5.int]]], [x5], [x0], [x0], [x1, x2], [x3], [x4], [x5], [.b (ltI x5.int (x0.rows.length : Int))], [x6, x7], [gd (sub (meetR (sub (x0.rows.getD x5.int.toNat []) 0 2) [x6, x7]) 0 3) 0, gd (sub (meetR (sub (x0.rows.getD x5.int.toNat []) 0 2) [x6, x7]) 0 3) 1]] [[gd (sub (meetR (sub (x0.rows.getD x5.int.toNat []) 0 2) [x6, x7]) 0 3) 2], [.i 0], [gd (sub (meetR (sub (x0.rows.getD x5.int.toNat []) 0 2) [x6, x7]) 0 3) 2], [gd (sub (meetR (sub (x0.rows.getD x5.int.toNat []) 0 2) [x6, x7]) 0 3) 0, gd (sub (meetR (sub (x0.rows.getD x5.int.toNat []) 0 2) [x6, x7]) 0 3) 1], [gd (sub (meetR (sub (x0.rows.getD x5.int.toNat []) 0 2) [x6, x7]) 0 3) 0, gd (sub (meetR (sub (x0.rows.getD x5.int.toNat []) 0 2) [x6, x7]) 0 3) 1, gd (sub (meetR (sub (x0.rows.getD x5.int.toNat []) 0 2) [x6, x7]) 0 3) 2], [gd (sub (meetR (sub (x0.rows.getD x5.int.toNat []) 0 2) [x6, x7]) 0 3) 0, gd (sub (meetR (sub (x0.rows.getD x5.int.toNat []) 0 2) [x6, x7]) 0 3) 1, gd (sub (meetR (sub (x0.rows.getD x5.int.toNat []) 0 2) [x6, x7]) 0 3) 2], [x6, x7], [gd (x0.rows.getD x5.int.toNat []) 0, gd (x0.rows.getD x5.int.toNat []) 1], [.l [[.l x0.rows, .i x5.int]]], [x5], [x0], [x0], [x1, x2], [x3], [x4], [x5], [.b (ltI x5.int (x0.rows.length : Int))], [x6, x7], [gd (sub (meetR (sub (x0.rows.getD x5.int.toNat []) 0 2) [x6, x7]) 0 3) 0, gd (sub (meetR (sub (x0.rows.getD x5.int.toNat []) 0 2) [x6, x7]) 0 3) 1]])) (nd (((inRange x5.int x0.rows.length) && true) && (sameP [[gd (sub (meetR (sub (x0.rows.getD x5.int.toNat []) 0 2) [x6, x7]) 0 3) 2], [.i 0], [gd (sub (meetR (sub (x0.rows.getD x5.int.toNat []) 0 2) [x6, x7]) 0 3) 2], [gd (sub (meetR (sub (x0.rows.getD x5.int.toNat []) 0 2) [x6, x7]) 0 3) 0, gd (sub (meetR (sub (x0.rows.getD x5.int.toNat []) 0 2) [x6, x7]) 0 3) 1], [gd (sub (meetR (sub (x0.rows.getD x5.int.toNat []) 0 2) [x6, x7]) 0 3) 0, gd (sub (meetR (sub (x0.rows.getD x5.int.toNat []) 0 2) [x6, x7]) 0 3) 1, gd (sub (meetR (sub (x0.rows.getD x5.int.toNat []) 0 2) [x6, x7]) 0 3) 2], [gd (sub (meetR (sub (x0.rows.getD x5.int.toNat []) 0 2) [x6, x7]) 0 3) 0, gd (sub (meetR (sub (x0.rows.getD x5.int.toNat []) 0 2) [x6, x7]) 0 3) 1, gd (sub (meetR (sub (x0.rows.getD x5.int.toNat []) 0 2) [x6, x7]) 0 3) 2], [x6, x7], [gd (x0.rows.getD x5.int.toNat []) 0, gd (x0.rows.getD x5.int.toNat []) 1], [.l [[.l x0.rows, .i x5.int]]], [x5], [x0], [x0], [x1, x2], [x3], [x4], [x5], [.b (ltI x5.int (x0.rows.length : Int))], [x6, x7], [gd (sub (meetR (sub (x0.rows.getD x5.int.toNat []) 0 2) [x6, x7]) 0 3) 0, gd (sub (meetR (sub (x0.rows.getD x5.int.toNat []) 0 2) [x6, x7]) 0 3) 1]] [[gd (sub (meetR (sub (x0.rows.getD x5.int.toNat []) 0 2) [x6, x7]) 0 3) 2], [.i 0], [gd (sub (meetR (sub (x0.rows.getD x5.int.toNat []) 0 2) [x6, x7]) 0 3) 2], [gd (sub (meetR (sub (x0.rows.getD x5.int.toNat []) 0 2) [x6, x7]) 0 3) 0, gd (sub (meetR (sub (x0.rows.getD x5.int.toNat []) 0 2) [x6, x7]) 0 3) 1], [gd (sub (meetR (sub (x0.rows.getD x5.int.toNat []) 0 2) [x6, x7]) 0 3) 0, gd (sub (meetR (sub (x0.rows.getD x5.int.toNat []) 0 2) [x6, x7]) 0 3) 1, gd (sub (meetR (sub (x0.rows.getD x5.int.toNat []) 0 2) [x6, x7]) 0 3) 2], [gd (sub (meetR (sub (x0.rows.getD x5.int.toNat []) 0 2) [x6, x7]) 0 3) 0, gd (sub (meetR (sub (x0.rows.getD x5.int.toNat []) 0 2) [x6, x7]) 0 3) 1, gd (sub (meetR (sub (x0.rows.getD x5.int.toNat []) 0 2) [x6, x7]) 0 3) 2], [x6, x7], [gd (x0.rows.getD x5.int.toNat []) 0, gd (x0.rows.getD x5.int.toNat []) 1], [.l [[.l x0.rows, .i x5.int]]], [x5], [x0], [x0], [x1, x2], [x3], [x4], [x5], [.b (ltI x5.int (x0.rows.length : Int))], [x6, x7], [gd (sub (meetR (sub (x0.rows.getD x5.int.toNat []) 0 2) [x6, x7]) 0 3) 0, gd (sub (meetR (sub (x0.rows.getD x5.int.toNat []) 0 2) [x6, x7]) 0 3) 1]])) (bif (gd (sub (meetR (sub (x0.rows.getD x5.int.toNat []) 0 2) [x6, x7]) 0 3) 2).bool then ob true
  else nx [x0, x1, x2, x3, x4, .i (w64 (x5.int + 1)), x6, x7])))))
  else ex 0 [x0, x1, x2, x3, x4, x5, x6, x7] := by kernel_rfl
theorem s_l10Touch_ev (N : Nat) (p q : List D) : evFn Tryz.prog s_l10TouchT N s_l10TouchK Tryz.f203 rb [⟨sd (.sl 122), p⟩, ⟨ag rIRange, q⟩] = some (bo,
  (let o0 := iter (s_l10TouchL0 N p q) N [gd p 0, gd q 0, gd q 1, .i 0, .i 0, .i 0, gd q 0, gd q 1]
   nd o0.isSome (bif o0.code == 1 then some (1, o0.pay)
   else nd (o0.code == 2) (ob false)))) := by kernel_rfl
def touchB (z : D) (q : List D) : Bool := !(List.range z.rows.length).all fun k => !meetB (sub (z.rows.getD k []) 0 2) q
def s_l10TouchE : Ent := (203, e2 (sd (.sl 122)) (ag rIRange) fun p q => (⟨rb, [.b (touchB (gd p 0) q)]⟩, true))
theorem s_l10Touch_ok : EntOk Tryz.prog s_l10TouchE := e2_ok fun p q h => evFn_sound (N := (gd p 0).rows.length + 1) (ks := s_l10TouchK) (key := bo) s_l10TouchT_ok (enters Tryz.func203 (by kernel_rfl) (by kernel_rfl)) Tryz.func203 fun hw => by
  rw [s_l10Touch_ev]
  have hl := wt_sl (hw ⟨sd (.sl 122), p⟩ (by simp))
  have e := for_loop (L := s_l10TouchL0 ((gd p 0).rows.length + 1) p q) (fun k => [gd p 0, gd q 0, gd q 1, .i 0, .i 0, .i (k : Int), gd q 0, gd q 1]) (gd p 0).rows.length (fun k => !meetB (sub ((gd p 0).rows.getD k []) 0 2) q) [.b true] 0 (fun k hk => ?_) ?_ (N := (gd p 0).rows.length + 1) (by omega)
  · simp only [Int.natCast_zero] at e
    rw [e]
    unfold touchB
    cases (List.range (gd p 0).rows.length).all fun k => !meetB (sub ((gd p 0).rows.getD k []) 0 2) q <;> rfl
  · show s_l10TouchL0 _ p q [_, _, _, _, _, .i (k : Int), _, _] = _
    rw [s_l10TouchR0]
    simp only [int_i, c_lt hk, Bool.and_true, nd_ix hk, sameP_self, w64_succ hk hl, Int.toNat_natCast]
    have hm : (gd (sub (meetR (sub ((gd p 0).rows.getD k []) 0 2) [gd q 0, gd q 1]) 0 3) 2).bool = meetB (sub ((gd p 0).rows.getD k []) 0 2) q := meetR_2 _ _
    rw [hm]
    cases meetB (sub ((gd p 0).rows.getD k []) 0 2) q <;> rfl
  · show s_l10TouchL0 _ p q [_, _, _, _, _, .i ((gd p 0).rows.length : Int), _, _] = _
    rw [s_l10TouchR0]
    simp only [int_i, c_nlt]

/-! loop.example/g00097/impl.free -/
abbrev i_freeT : FuncId → List T → Option (T × Bool) := find [i_haveAllE, i_haveAnyE]
theorem i_freeT_ok : CallOk Tryz.prog i_freeT := find_ok (List.forall_mem_cons.2 ⟨i_haveAll_ok, List.forall_mem_cons.2 ⟨i_haveAny_ok, List.forall_mem_nil _⟩⟩)
abbrev i_freeK : List Nat := [0, 1, 2, 3, 4]
theorem i_free_ev (N : Nat) (p q : List D) : evFn Tryz.prog i_freeT N i_freeK Tryz.f86 rb [⟨ag rIShard, p⟩, ⟨ag rIRange, q⟩] = some (bo,
  bif haveAll (gd p 1) (sub q 0 2) then ob (!(haveAnyB (gd p 2) (sub q 0 2)))
  else ob false) := by kernel_rfl
def freeF (p q : List D) : Bool := haveAll (gd p 1) q && !haveAnyB (gd p 2) q
def i_freeE : Ent := (86, e2 (ag rIShard) (ag rIRange) fun p q => (⟨rb, [.b (freeF p q)]⟩, true))
theorem i_free_ok : EntOk Tryz.prog i_freeE := e2_ok fun p q h => evFn_sound (N := 0) (ks := i_freeK) (key := bo) i_freeT_ok (enters Tryz.func86 (by kernel_rfl) (by kernel_rfl)) Tryz.func86 fun hw => by
  rw [i_free_ev]
  show some (bo, bif haveAll (gd p 1) q then ob (!haveAnyB (gd p 2) q) else ob false) = _
  unfold freeF
  cases haveAll (gd p 1) q <;> rfl

/-! loop.example/g00097/spec.l13Free -/
abbrev s_l13FreeT : FuncId → List T → Option (T × Bool) := find [s_RangesHaveE, s_l10TouchE]
theorem s_l13FreeT_ok : CallOk Tryz.prog s_l13FreeT := find_ok (List.forall_mem_cons.2 ⟨s_RangesHave_ok, List.forall_mem_cons.2 ⟨s_l10Touch_ok, List.forall_mem_nil _⟩⟩)
abbrev s_l13FreeK : List Nat := [0, 1, 2, 3, 4]
theorem s_l13Free_ev (N : Nat) (p q : List D) : evFn Tryz.prog s_l13FreeT N s_l13FreeK Tryz.f85 rb [⟨ag rIShard, p⟩, ⟨ag rIRange, q⟩] = some (bo,
  bif rangesHave (gd p 1) (sub q 0 2) then ob (!(touchB (gd p 2) (sub q 0 2)))
  else ob false) := by kernel_rfl
def freeS (p q : List D) : Bool := rangesHave (gd p 1) q && !touchB (gd p 2) q
theorem meets_comm (p q : List D) : i_meetsF p q = i_meetsF q p := by
  unfold i_meetsF
  cases ltI (gd p 0).int (gd q 1).int <;> cases ltI (gd q 0).int (gd p 1).int <;> rfl
theorem touch_same {z : D} {q : List D} (hz : rangesOk z = true) (hq : rangeOk q = true) : touchB z q = haveAnyB z q := by
  unfold touchB haveAnyB
  rw [Bool.eq_iff_iff]
  simp only [Bool.not_eq_true', ← Bool.not_eq_true, List.all_eq_true, List.any_eq_true, List.mem_range]
  have hm : ∀ k, k < z.rows.length → meetB (sub (z.rows.getD k []) 0 2) q = i_meetsF q (sub (z.rows.getD k []) 0 2) := fun k hk => by
    rw [meetB_of (ranges_at hz hk) hq, meets_comm]
  constructor
  · intro h
    refine Classical.byContradiction fun hn => h fun k hk hc => hn ⟨k, hk, ?_⟩
    rw [← hm k hk]; exact hc
  · rintro ⟨k, hk, hc⟩ h
    refine h k hk ?_
    rw [hm k hk]; exact hc
theorem free_same {p q : List D} (h1 : rangesOk (gd p 1) = true) (h2 : rangesOk (gd p 2) = true) (hq : rangeOk q = true) : freeS p q = freeF p q := by
  unfold freeS freeF
  rw [touch_same h2 hq, have_same h1 hq]
def s_l13FreeE : Ent := (85, e2 (ag rIShard) (ag rIRange) fun p q => (⟨rb, [.b (freeS p q)]⟩, true))
theorem s_l13Free_ok : EntOk Tryz.prog s_l13FreeE := e2_ok fun p q h => evFn_sound (N := 0) (ks := s_l13FreeK) (key := bo) s_l13FreeT_ok (enters Tryz.func85 (by kernel_rfl) (by kernel_rfl)) Tryz.func85 fun hw => by
  rw [s_l13Free_ev]
  show some (bo, bif rangesHave (gd p 1) q then ob (!touchB (gd p 2) q) else ob false) = _
  unfold freeS
  cases rangesHave (gd p 1) q <;> rfl

/-! loop.example/g00097/impl.TownFree -/
abbrev i_TownFreeT : FuncId → List T → Option (T × Bool) := find [i_TownOkE, i_isKeyE, i_oneE, i_freeE]
theorem i_TownFreeT_ok : CallOk Tryz.prog i_TownFreeT := find_ok (List.forall_mem_cons.2 ⟨i_TownOk_ok, List.forall_mem_cons.2 ⟨i_isKey_ok, List.forall_mem_cons.2 ⟨i_one_ok, List.forall_mem_cons.2 ⟨i_free_ok, List.forall_mem_nil _⟩⟩⟩⟩)
abbrev i_TownFreeK : List Nat := [0, 1, 2, 4, 5, 6, 7, 16, 19, 20, 21, 22, 29, 1000016, 1000022, 1000029]
noncomputable def i_TownFreeL0 (N : Nat) (p q : List D) : List D → Out := loopOf Tryz.prog i_TownFreeT N i_TownFreeK Tryz.f31 (.one (.c (.own (0, 0) true 3))) [⟨ag rITown, p⟩, ⟨ri, q⟩] 0
/- x0=t0(.one (.agg [.d si, .d (.sl 97), .d si, .d si, .d si, .d si, .d si, .d si, .d (.sl 176), .d (.sl 80), .d (.sl 116), .d (.sl 3), .d (.sl 102), .d (.sl 85), .d (.sl 88)])) x15=t1(ri) x16=t2(.one (.c (.ptr 2 0))) x17=t4(.one (.c (.own (4, 0) true 3))) x18=t5(.one (.c (.own (8, 0) true 3))) x19=t19(sd (.sl 80)) x20=t20(ri) x21=t21(ri) x22=box2[.d si, .d (.sl 97), .d si, .d si, .d si, .d si, .d si, .d si, .d (.sl 176), .d (.sl 80), .d (.sl 116), .d (.sl 3), .d (.sl 102), .d (.sl 85), .d (.sl 88)] -/
theorem i_TownFreeR0 (N : Nat) (p q : List D) (x0 x1 x2 x3 x4 x5 x6 x7 x8 x9 x10 x11 x12 x13 x14 x15 x16 x17 x18 x19 x20 x21 x22 x23 x24 x25 x26 x27 x28 x29 x30 x31 x32 x33 x34 x35 x36 : D) : (i_TownFreeL0 N p q) [x0, x1, x2, x3, x4, x5, x6, x7, x8, x9, x10, x11, x12, x13, x14, x15, x16, x17, x18, x19, x20, x21, x22, x23, x24, x25, x26, x27, x28, x29, x30, x31, x32, x33, x34, x35, x36] =
  bif ltI x21.int x20.int then nd (inRange x21.int x19.rows.length) (bif freeF (sub (x19.rows.getD x21.int.toNat []) 0 9) [x15, .i (w64 (x15.int + 1))] then nd (lenOk (x18.rows ++ [[x21]]) && true) (nx [x0, x1, x2, x3, x4, x5, x6, x7, x8, x9, x10, x11, x12, x13, x14, x15, x16, x17, .l (x18.rows ++ [[x21]]), x19, x20, .i (w64 (x21.int + 1)), x22, x23, x24, x25, x26, x27, x28, x29, x30, x31, x32, x33, x34, x35, x36])
  else nx [x0, x1, x2, x3, x4, x5, x6, x7, x8, x9, x10, x11, x12, x13, x14, x15, x16, x17, x18, x19, x20, .i (w64 (x21.int + 1)), x22, x23, x24, x25, x26, x27, x28, x29, x30, x31, x32, x33, x34, x35, x36])
  else ex 0 [x0, x1, x2, x3, x4, x5, x6, x7, x8, x9, x10, x11, x12, x13, x14, x15, x16, x17, x18, x19, x20, x21, x22, x23, x24, x25, x26, x27, x28, x29, x30, x31, x32, x33, x34, x35, x36] := by kernel_rfl
noncomputable def i_TownFrees0 (N : Nat) (p q : List D) : Out := let o0 : Out := iter (i_TownFreeL0 N p q) N [gd p 0, gd p 1, gd p 2, gd p 3, gd p 4, gd p 5, gd p 6, gd p 7, gd p 8, gd p 9, gd p 10, gd p 11, gd p 12, gd p 13, gd p 14, gd q 0, .i 0, .l [], .l [], gd p 9, .i ((gd p 9).rows.length : Int), .i 0, gd p 0, gd p 1, gd p 2, gd p 3, gd p 4, gd p 5, gd p 6, gd p 7, gd p 8, gd p 9, gd p 10, gd p 11, gd p 12, gd p 13, gd p 14]; nd o0.isSome (nd (o0.code == 2) (some (1, [gd o0.pay 18])))
noncomputable def i_TownFrees1 (N : Nat) (p q : List D) : Out := bif !(townOk (sub p 0 15)) then some (1, [.l []]) else bif !(inB (gd q 0).int (0) (999)) then some (1, [.l []]) else (i_TownFrees0 N p q)
theorem i_TownFree_ev (N : Nat) (p q : List D) : evFn Tryz.prog i_TownFreeT N i_TownFreeK Tryz.f31 (.one (.c (.own (0, 0) true 3))) [⟨ag rITown, p⟩, ⟨ri, q⟩] = some (bo, nd (townSmall (sub p 0 15)) (i_TownFrees1 N p q)) := by kernel_rfl
def freeRows (C : Nat → Bool) (n : Nat) : List (List D) := ((List.range n).filter C).map fun (k : Nat) => [D.i (k : Int)]
theorem freeRows_succ (C : Nat → Bool) (k : Nat) : freeRows C (k + 1) = bif C k then freeRows C k ++ [[.i (k : Int)]] else freeRows C k := by
  unfold freeRows
  rw [List.range_succ, List.filter_append, List.map_append]
  cases h : C k <;> simp [List.filter, h]
theorem freeRows_le (C : Nat → Bool) (k : Nat) : (freeRows C k).length ≤ k := by
  unfold freeRows
  rw [List.length_map]
  exact Nat.le_trans (List.length_filter_le _ _) (by simp)
theorem freeRows_congr {C C' : Nat → Bool} {n : Nat} (h : ∀ k, k < n → C k = C' k) : freeRows C n = freeRows C' n := by
  unfold freeRows
  rw [List.filter_congr fun k hk => h k (List.mem_range.1 hk)]
theorem town_n {p : List D} (h : townOk p = true) : (gd p 9).rows.length ≤ 4 := by
  unfold townOk at h
  simp only [Bool.and_eq_true] at h
  have := h.2.1
  simp only [inB, Bool.and_eq_true, decide_eq_true_eq] at this
  omega
theorem town_shard {p : List D} (h : townOk p = true) {k : Nat} (hk : k < (gd p 9).rows.length) : shardOk (sub ((gd p 9).rows.getD k []) 0 9) = true := by
  unfold townOk at h
  simp only [Bool.and_eq_true] at h
  obtain ⟨_, _, _, _, _, _, _, _, _, _, h, _⟩ := h
  unfold shardA at h
  have := List.all_eq_true.1 h k (List.mem_range.2 hk)
  unfold townC0 at this
  simp only [Bool.and_eq_true] at this
  exact this.1
theorem shard_own {p : List D} (h : shardOk p = true) : rangesOk (gd p 1) = true ∧ rangesOk (gd p 2) = true ∧ storeOk (gd p 3) = true := by
  unfold shardOk at h
  simp only [Bool.and_eq_true] at h
  obtain ⟨_, a, b, c, _⟩ := h
  exact ⟨a, b, c⟩
theorem key_rangeOk {q : List D} (h : inB (gd q 0).int 0 999 = true) : rangeOk [gd q 0, .i (w64 ((gd q 0).int + 1))] = true := by
  simp only [inB, Bool.and_eq_true, decide_eq_true_eq] at h
  exact one_rangeOk (r := q) (by omega) (by omega)
def townFreeCF (p q : List D) (k : Nat) : Bool := freeF (sub ((gd p 9).rows.getD k []) 0 9) [gd q 0, .i (w64 ((gd q 0).int + 1))]
def townFree (p q : List D) : D := .l (bif townOk p && inB (gd q 0).int 0 999 then freeRows (townFreeCF p q) (gd p 9).rows.length else [])
theorem i_TownFreeI0 (p q : List D) (hn : (gd p 9).rows.length ≤ 4) : iter (i_TownFreeL0 ((gd p 9).rows.length + 1) p q) ((gd p 9).rows.length + 1) [gd p 0, gd p 1, gd p 2, gd p 3, gd p 4, gd p 5, gd p 6, gd p 7, gd p 8, gd p 9, gd p 10, gd p 11, gd p 12, gd p 13, gd p 14, gd q 0, .i 0, .l [], .l [], gd p 9, .i ((gd p 9).rows.length : Int), .i 0, gd p 0, gd p 1, gd p 2, gd p 3, gd p 4, gd p 5, gd p 6, gd p 7, gd p 8, gd p 9, gd p 10, gd p 11, gd p 12, gd p 13, gd p 14] = some (2, [gd p 0, gd p 1, gd p 2, gd p 3, gd p 4, gd p 5, gd p 6, gd p 7, gd p 8, gd p 9, gd p 10, gd p 11, gd p 12, gd p 13, gd p 14, gd q 0, .i 0, .l [], .l (freeRows (townFreeCF p q) (gd p 9).rows.length), gd p 9, .i ((gd p 9).rows.length : Int), .i ((gd p 9).rows.length : Int), gd p 0, gd p 1, gd p 2, gd p 3, gd p 4, gd p 5, gd p 6, gd p 7, gd p 8, gd p 9, gd p 10, gd p 11, gd p 12, gd p 13, gd p 14]) := by
  have e := run_loop (L := (i_TownFreeL0 ((gd p 9).rows.length + 1) p q)) (fun k => [gd p 0, gd p 1, gd p 2, gd p 3, gd p 4, gd p 5, gd p 6, gd p 7, gd p 8, gd p 9, gd p 10, gd p 11, gd p 12, gd p 13, gd p 14, gd q 0, .i 0, .l [], .l (freeRows (townFreeCF p q) k), gd p 9, .i ((gd p 9).rows.length : Int), .i (k : Int), gd p 0, gd p 1, gd p 2, gd p 3, gd p 4, gd p 5, gd p 6, gd p 7, gd p 8, gd p 9, gd p 10, gd p 11, gd p 12, gd p 13, gd p 14]) (gd p 9).rows.length 0 (fun k hk => ?_) ?_ (N := ((gd p 9).rows.length + 1)) (by omega)
  · simp only [Int.natCast_zero] at e
    exact e
  · show i_TownFreeL0 _ p q [_, _, _, _, _, _, _, _, _, _, _, _, _, _, _, _, _, _, .l (freeRows (townFreeCF p q) k), _, _, .i (k : Int), _, _, _, _, _, _, _, _, _, _, _, _, _, _, _] = _
    rw [i_TownFreeR0]
    have hlen := freeRows_le (townFreeCF p q) k
    have hlo : lenOk (freeRows (townFreeCF p q) k ++ [[.i (k : Int)]]) = true := lenOk_t (by rw [List.length_append]; simp; omega)
    simp only [int_i, rows_l, c_lt hk, nd_ix hk, w64_succ hk (show (gd p 9).rows.length ≤ 9223372036854775807 from by omega), Int.toNat_natCast, hlo, Bool.and_true, nd_true]
    rw [freeRows_succ]
    show (bif (townFreeCF p q) k then _ else _) = _
    cases (townFreeCF p q) k <;> rfl
  · show i_TownFreeL0 _ p q [_, _, _, _, _, _, _, _, _, _, _, _, _, _, _, _, _, _, .l (freeRows (townFreeCF p q) (gd p 9).rows.length), _, _, .i ((gd p 9).rows.length : Int), _, _, _, _, _, _, _, _, _, _, _, _, _, _, _] = _
    rw [i_TownFreeR0]
    simp only [int_i, c_nlt]
def i_TownFreeE : Ent := (31, e2 (ag rITown) ri fun p q => (⟨.one (.c (.own (0, 0) true 3)), [townFree p [gd q 0]]⟩, townSmall p))
theorem i_TownFree_ok : EntOk Tryz.prog i_TownFreeE := e2_ok fun p q h => evFn_sound (N := (gd p 9).rows.length + 1) (ks := i_TownFreeK) (key := bo) i_TownFreeT_ok (enters Tryz.func31 (by kernel_rfl) (by kernel_rfl)) Tryz.func31 fun hw => by
  rw [i_TownFree_ev]
  refine congrArg (fun x => some (bo, x)) ?_
  have h : townSmall p = true := h
  show nd (townSmall p) (i_TownFrees1 ((gd p 9).rows.length + 1) p q) = some (1, [townFree p q])
  rw [h, nd_true]
  unfold i_TownFrees1 townFree
  rw [show townOk (sub p 0 15) = townOk p from rfl]
  cases ht : townOk p with
  | false => rfl
  | true =>
   cases hk0 : inB (gd q 0).int 0 999 with
   | false => rfl
   | true =>
    simp only [Bool.not_true, cond_false, Bool.and_self, cond_true]
    rw [show i_TownFrees0 ((gd p 9).rows.length + 1) p q = nd (iter (i_TownFreeL0 ((gd p 9).rows.length + 1) p q) ((gd p 9).rows.length + 1) [gd p 0, gd p 1, gd p 2, gd p 3, gd p 4, gd p 5, gd p 6, gd p 7, gd p 8, gd p 9, gd p 10, gd p 11, gd p 12, gd p 13, gd p 14, gd q 0, .i 0, .l [], .l [], gd p 9, .i ((gd p 9).rows.length : Int), .i 0, gd p 0, gd p 1, gd p 2, gd p 3, gd p 4, gd p 5, gd p 6, gd p 7, gd p 8, gd p 9, gd p 10, gd p 11, gd p 12, gd p 13, gd p 14]).isSome (nd (Out.code (iter (i_TownFreeL0 ((gd p 9).rows.length + 1) p q) ((gd p 9).rows.length + 1) [gd p 0, gd p 1, gd p 2, gd p 3, gd p 4, gd p 5, gd p 6, gd p 7, gd p 8, gd p 9, gd p 10, gd p 11, gd p 12, gd p 13, gd p 14, gd q 0, .i 0, .l [], .l [], gd p 9, .i ((gd p 9).rows.length : Int), .i 0, gd p 0, gd p 1, gd p 2, gd p 3, gd p 4, gd p 5, gd p 6, gd p 7, gd p 8, gd p 9, gd p 10, gd p 11, gd p 12, gd p 13, gd p 14]) == 2) (some (1, [gd (Out.pay (iter (i_TownFreeL0 ((gd p 9).rows.length + 1) p q) ((gd p 9).rows.length + 1) [gd p 0, gd p 1, gd p 2, gd p 3, gd p 4, gd p 5, gd p 6, gd p 7, gd p 8, gd p 9, gd p 10, gd p 11, gd p 12, gd p 13, gd p 14, gd q 0, .i 0, .l [], .l [], gd p 9, .i ((gd p 9).rows.length : Int), .i 0, gd p 0, gd p 1, gd p 2, gd p 3, gd p 4, gd p 5, gd p 6, gd p 7, gd p 8, gd p 9, gd p 10, gd p 11, gd p 12, gd p 13, gd p 14])) 18]))) from by kernel_rfl]
    rw [i_TownFreeI0 p q (town_n ht)]
    rfl

/-! loop.example/g00097/spec.TownFree -/
abbrev s_TownFreeT : FuncId → List T → Option (T × Bool) := find [s_TownOkE, s_l10KeyE, s_l10OneE, s_l13FreeE]
theorem s_TownFreeT_ok : CallOk Tryz.prog s_TownFreeT := find_ok (List.forall_mem_cons.2 ⟨s_TownOk_ok, List.forall_mem_cons.2 ⟨s_l10Key_ok, List.forall_mem_cons.2 ⟨s_l10One_ok, List.forall_mem_cons.2 ⟨s_l13Free_ok, List.forall_mem_nil _⟩⟩⟩⟩)
abbrev s_TownFreeK : List Nat := [0, 1, 2, 4, 5, 6, 15, 21, 31, 1000015, 1000021, 1000031]
noncomputable def s_TownFreeL0 (N : Nat) (p q : List D) : List D → Out := loopOf Tryz.prog s_TownFreeT N s_TownFreeK Tryz.f30 (.one (.c (.own (0, 0) true 3))) [⟨ag rITown, p⟩, ⟨ri, q⟩] 0
/- x0=t0(.one (.agg [.d si, .d (.sl 97), .d si, .d si, .d si, .d si, .d si, .d si, .d (.sl 176), .d (.sl 80), .d (.sl 116), .d (.sl 3), .d (.sl 102), .d (.sl 85), .d (.sl 88)])) x15=t1(ri) x16=t2(.one (.c (.ptr 2 0))) x17=t4(.one (.c (.own (4, 0) true 3))) x18=t5(.one (.c (.own (7, 0) true 3))) x19=t6(ri) x20=box2[.d si, .d (.sl 97), .d si, .d si, .d si, .d si, .d si, .d si, .d (.sl 176), .d (.sl 80), .d (.sl 116), .d (.sl 3), .d (.sl 102), .d (.sl 85), .d (.sl 88)] -/
theorem s_TownFreeR0 (N : Nat) (p q : List D) (x0 x1 x2 x3 x4 x5 x6 x7 x8 x9 x10 x11 x12 x13 x14 x15 x16 x17 x18 x19 x20 x21 x22 x23 x24 x25 x26 x27 x28 x29 x30 x31 x32 x33 x34 : D) : (s_TownFreeL0 N p q) [x0, x1, x2, x3, x4, x5, x6, x7, x8, x9, x10, x11, x12, x13, x14, x15, x16, x17, x18, x19, x20, x21, x22, x23, x24, x25, x26, x27, x28, x29, x30, x31, x32, x33, x34] =
  bif ltI x19.int (x29.rows.length : Int) then nd (inRange x19.int x29.rows.length) (bif freeS (sub (x29.rows.getD x19.int.toNat []) 0 9) [x15, .i (w64 (x15.int + 1))] then nd (lenOk (x18.rows ++ [[x19]]) && true) (nx [x0, x1, x2, x3, x4, x5, x6, x7, x8, x9, x10, x11, x12, x13, x14, x15, x16, x17, .l (x18.rows ++ [[x19]]), .i (w64 (x19.int + 1)), x20, x21, x22, x23, x24, x25, x26, x27, x28, x29, x30, x31, x32, x33, x34])
  else nx [x0, x1, x2, x3, x4, x5, x6, x7, x8, x9, x10, x11, x12, x13, x14, x15, x16, x17, x18, .i (w64 (x19.int + 1)), x20, x21, x22, x23, x24, x25, x26, x27, x28, x29, x30, x31, x32, x33, x34])
  else ex 0 [x0, x1, x2, x3, x4, x5, x6, x7, x8, x9, x10, x11, x12, x13, x14, x15, x16, x17, x18, x19, x20, x21, x22, x23, x24, x25, x26, x27, x28, x29, x30, x31, x32, x33, x34] := by kernel_rfl
noncomputable def s_TownFrees0 (N : Nat) (p q : List D) : Out := let o0 : Out := iter (s_TownFreeL0 N p q) N [gd p 0, gd p 1, gd p 2, gd p 3, gd p 4, gd p 5, gd p 6, gd p 7, gd p 8, gd p 9, gd p 10, gd p 11, gd p 12, gd p 13, gd p 14, gd q 0, .i 0, .l [], .l [], .i 0, gd p 0, gd p 1, gd p 2, gd p 3, gd p 4, gd p 5, gd p 6, gd p 7, gd p 8, gd p 9, gd p 10, gd p 11, gd p 12, gd p 13, gd p 14]; nd o0.isSome (nd (o0.code == 2) (some (1, [gd o0.pay 18])))
noncomputable def s_TownFrees1 (N : Nat) (p q : List D) : Out := bif !(townOk (sub p 0 15)) then some (1, [.l []]) else bif !(inB (gd q 0).int (0) (999)) then some (1, [.l []]) else (s_TownFrees0 N p q)
theorem s_TownFree_ev (N : Nat) (p q : List D) : evFn Tryz.prog s_TownFreeT N s_TownFreeK Tryz.f30 (.one (.c (.own (0, 0) true 3))) [⟨ag rITown, p⟩, ⟨ri, q⟩] = some (bo, (s_TownFrees1 N p q)) := by kernel_rfl
def townFreeCS (p q : List D) (k : Nat) : Bool := freeS (sub ((gd p 9).rows.getD k []) 0 9) [gd q 0, .i (w64 ((gd q 0).int + 1))]
theorem townFree_same {p q : List D} (h : townOk p = true) (hq : inB (gd q 0).int 0 999 = true) {k : Nat} (hk : k < (gd p 9).rows.length) : townFreeCS p q k = townFreeCF p q k := by
  obtain ⟨a, b, _⟩ := shard_own (town_shard h hk)
  exact free_same a b (key_rangeOk hq)
theorem s_TownFreeI0 (p q : List D) (hn : (gd p 9).rows.length ≤ 4) : iter (s_TownFreeL0 ((gd p 9).rows.length + 1) p q) ((gd p 9).rows.length + 1) [gd p 0, gd p 1, gd p 2, gd p 3, gd p 4, gd p 5, gd p 6, gd p 7, gd p 8, gd p 9, gd p 10, gd p 11, gd p 12, gd p 13, gd p 14, gd q 0, .i 0, .l [], .l [], .i 0, gd p 0, gd p 1, gd p 2, gd p 3, gd p 4, gd p 5, gd p 6, gd p 7, gd p 8, gd p 9, gd p 10, gd p 11, gd p 12, gd p 13, gd p 14] = some (2, [gd p 0, gd p 1, gd p 2, gd p 3, gd p 4, gd p 5, gd p 6, gd p 7, gd p 8, gd p 9, gd p 10, gd p 11, gd p 12, gd p 13, gd p 14, gd q 0, .i 0, .l [], .l (freeRows (townFreeCS p q) (gd p 9).rows.length), .i ((gd p 9).rows.length : Int), gd p 0, gd p 1, gd p 2, gd p 3, gd p 4, gd p 5, gd p 6, gd p 7, gd p 8, gd p 9, gd p 10, gd p 11, gd p 12, gd p 13, gd p 14]) := by
  have e := run_loop (L := (s_TownFreeL0 ((gd p 9).rows.length + 1) p q)) (fun k => [gd p 0, gd p 1, gd p 2, gd p 3, gd p 4, gd p 5, gd p 6, gd p 7, gd p 8, gd p 9, gd p 10, gd p 11, gd p 12, gd p 13, gd p 14, gd q 0, .i 0, .l [], .l (freeRows (townFreeCS p q) k), .i (k : Int), gd p 0, gd p 1, gd p 2, gd p 3, gd p 4, gd p 5, gd p 6, gd p 7, gd p 8, gd p 9, gd p 10, gd p 11, gd p 12, gd p 13, gd p 14]) (gd p 9).rows.length 0 (fun k hk => ?_) ?_ (N := ((gd p 9).rows.length + 1)) (by omega)
  · simp only [Int.natCast_zero] at e
    exact e
  · show s_TownFreeL0 _ p q [_, _, _, _, _, _, _, _, _, _, _, _, _, _, _, _, _, _, .l (freeRows (townFreeCS p q) k), .i (k : Int), _, _, _, _, _, _, _, _, _, _, _, _, _, _, _] = _
    rw [s_TownFreeR0]
    have hlen := freeRows_le (townFreeCS p q) k
    have hlo : lenOk (freeRows (townFreeCS p q) k ++ [[.i (k : Int)]]) = true := lenOk_t (by rw [List.length_append]; simp; omega)
    simp only [int_i, rows_l, c_lt hk, nd_ix hk, w64_succ hk (show (gd p 9).rows.length ≤ 9223372036854775807 from by omega), Int.toNat_natCast, hlo, Bool.and_true, nd_true]
    rw [freeRows_succ]
    show (bif (townFreeCS p q) k then _ else _) = _
    cases (townFreeCS p q) k <;> rfl
  · show s_TownFreeL0 _ p q [_, _, _, _, _, _, _, _, _, _, _, _, _, _, _, _, _, _, .l (freeRows (townFreeCS p q) (gd p 9).rows.length), .i ((gd p 9).rows.length : Int), _, _, _, _, _, _, _, _, _, _, _, _, _, _, _] = _
    rw [s_TownFreeR0]
    simp only [int_i, c_nlt]
def s_TownFreeE : Ent := (30, e2 (ag rITown) ri fun p q => (⟨.one (.c (.own (0, 0) true 3)), [townFree p [gd q 0]]⟩, true))
theorem s_TownFree_ok : EntOk Tryz.prog s_TownFreeE := e2_ok fun p q h => evFn_sound (N := (gd p 9).rows.length + 1) (ks := s_TownFreeK) (key := bo) s_TownFreeT_ok (enters Tryz.func30 (by kernel_rfl) (by kernel_rfl)) Tryz.func30 fun hw => by
  rw [s_TownFree_ev]
  refine congrArg (fun x => some (bo, x)) ?_
  show s_TownFrees1 ((gd p 9).rows.length + 1) p q = some (1, [townFree p q])
  unfold s_TownFrees1 townFree
  rw [show townOk (sub p 0 15) = townOk p from rfl]
  cases ht : townOk p with
  | false => rfl
  | true =>
   cases hk0 : inB (gd q 0).int 0 999 with
   | false => rfl
   | true =>
    simp only [Bool.not_true, cond_false, Bool.and_self, cond_true]
    rw [show s_TownFrees0 ((gd p 9).rows.length + 1) p q = nd (iter (s_TownFreeL0 ((gd p 9).rows.length + 1) p q) ((gd p 9).rows.length + 1) [gd p 0, gd p 1, gd p 2, gd p 3, gd p 4, gd p 5, gd p 6, gd p 7, gd p 8, gd p 9, gd p 10, gd p 11, gd p 12, gd p 13, gd p 14, gd q 0, .i 0, .l [], .l [], .i 0, gd p 0, gd p 1, gd p 2, gd p 3, gd p 4, gd p 5, gd p 6, gd p 7, gd p 8, gd p 9, gd p 10, gd p 11, gd p 12, gd p 13, gd p 14]).isSome (nd (Out.code (iter (s_TownFreeL0 ((gd p 9).rows.length + 1) p q) ((gd p 9).rows.length + 1) [gd p 0, gd p 1, gd p 2, gd p 3, gd p 4, gd p 5, gd p 6, gd p 7, gd p 8, gd p 9, gd p 10, gd p 11, gd p 12, gd p 13, gd p 14, gd q 0, .i 0, .l [], .l [], .i 0, gd p 0, gd p 1, gd p 2, gd p 3, gd p 4, gd p 5, gd p 6, gd p 7, gd p 8, gd p 9, gd p 10, gd p 11, gd p 12, gd p 13, gd p 14]) == 2) (some (1, [gd (Out.pay (iter (s_TownFreeL0 ((gd p 9).rows.length + 1) p q) ((gd p 9).rows.length + 1) [gd p 0, gd p 1, gd p 2, gd p 3, gd p 4, gd p 5, gd p 6, gd p 7, gd p 8, gd p 9, gd p 10, gd p 11, gd p 12, gd p 13, gd p 14, gd q 0, .i 0, .l [], .l [], .i 0, gd p 0, gd p 1, gd p 2, gd p 3, gd p 4, gd p 5, gd p 6, gd p 7, gd p 8, gd p 9, gd p 10, gd p 11, gd p 12, gd p 13, gd p 14])) 18]))) from by kernel_rfl]
    rw [s_TownFreeI0 p q (town_n ht)]
    show some (1, [D.l (freeRows (townFreeCS p q) (gd p 9).rows.length)]) = some (1, [D.l (freeRows (townFreeCF p q) (gd p 9).rows.length)])
    rw [freeRows_congr (fun k hk => townFree_same ht hk0 hk)]

end Go.Proofs.YtchceahcaaibcaaGreat
