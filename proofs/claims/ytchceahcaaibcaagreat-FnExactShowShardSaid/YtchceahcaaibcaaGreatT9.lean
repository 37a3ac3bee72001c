/-
  The town: clients, new cells. Printed by sym.py.
-/
import Derived.Test.YtchceahcaaibcaaGreatT8
namespace Go.Proofs.YtchceahcaaibcaaGreat
set_option linter.unusedSimpArgs false
set_option linter.unusedVariables false
set_option maxRecDepth 4096
set_option maxHeartbeats 1000000
/-! loop.example/g00097/impl.clientRight -/
abbrev i_clientRightT : FuncId → List T → Option (T × Bool) := find [i_ClientOkE, cofCPE, cofCSE]
theorem i_clientRightT_ok : CallOk Tryz.prog i_clientRightT := find_ok (List.forall_mem_cons.2 ⟨i_ClientOk_ok, List.forall_mem_cons.2 ⟨cofCP_ok, List.forall_mem_cons.2 ⟨cofCS_ok, List.forall_mem_nil _⟩⟩⟩)
abbrev i_clientRightK : List Nat := [0, 1, 2, 3, 4]
theorem i_clientRight_ev (N : Nat) (p q : List D) : evFn Tryz.prog i_clientRightT N i_clientRightK Tryz.f68 rb [⟨ag rIClient, p⟩, ⟨ri, q⟩] = some (bo,
  nd (clientSmall (sub p 0 9)) (bif clientOk (sub p 0 9) then bif ltI (gd p 7).int (gd q 0).int then bif !(anyS (fun rr => ixfCPC (.l [[.l [[gd q 0]]]]) (sub rr 0 3)) (gd p 8)) then ob (!(anyS (fun rr => ixfCSC (.l [[.l [[gd q 0]]]]) (sub rr 0 3)) (gd p 4)))
  else ob false
  else ob false
  else ob false)) := by kernel_rfl
def seenIn (z : D) (n : Int) : Bool := (List.range z.rows.length).all fun k => !leI n (gd (z.rows.getD k []) 0).int
def clientRight (p : List D) (n : Int) : Bool := clientOk p && (ltI (gd p 7).int n && (ownersIn (gd p 8) n && seenIn (gd p 4) n))
theorem owners_any (z q : D) : (!(anyS (fun rr => ixfCPC (.l [[.l [[q]]]]) (sub rr 0 3)) z)) = ownersIn z q.int := by
  unfold anyS ownersIn
  rw [← not_any]
  rfl
theorem seen_anyIn (z q : D) : (!(anyS (fun rr => ixfCSC (.l [[.l [[q]]]]) (sub rr 0 3)) z)) = seenIn z q.int := by
  unfold anyS seenIn
  rw [← not_any]
  rfl
def i_clientRightE : Ent := (68, e2 (ag rIClient) ri fun p q => (⟨rb, [.b (clientRight p (gd q 0).int)]⟩, clientSmall p))
theorem i_clientRight_ok : EntOk Tryz.prog i_clientRightE := e2_ok fun p q h => evFn_sound (N := 0) (ks := i_clientRightK) (key := bo) i_clientRightT_ok (enters Tryz.func68 (by kernel_rfl) (by kernel_rfl)) Tryz.func68 fun hw => by
  rw [i_clientRight_ev]
  rw [owners_any, seen_anyIn]
  have h : clientSmall p = true := h
  rw [show clientSmall (sub p 0 9) = clientSmall p from rfl, h, nd_true, show clientOk (sub p 0 9) = clientOk p from rfl]
  unfold clientRight
  cases clientOk p <;> cases ltI (gd p 7).int (gd q 0).int <;> cases ownersIn (gd p 8) (gd q 0).int <;> cases seenIn (gd p 4) (gd q 0).int <;> rfl

/-! loop.example/g00097/spec.l16ClientsOk -/
abbrev s_l16ClientsOkT : FuncId → List T → Option (T × Bool) := find [s_ClientOkE, s_l16OwnersInE]
theorem s_l16ClientsOkT_ok : CallOk Tryz.prog s_l16ClientsOkT := find_ok (List.forall_mem_cons.2 ⟨s_ClientOk_ok, List.forall_mem_cons.2 ⟨s_l16OwnersIn_ok, List.forall_mem_nil _⟩⟩)
abbrev s_l16ClientsOkK : List Nat := [0, 1, 2, 3, 4, 5, 6, 14, 37, 42, 52]
noncomputable def s_l16ClientsOkL0 (N : Nat) (p : List D) : List D → Out := loopOf Tryz.prog s_l16ClientsOkT N s_l16ClientsOkK Tryz.f50 rb [⟨ag rITown, p⟩] 0
noncomputable def s_l16ClientsOkL2 (N : Nat) (p : List D) : List D → Out := loopOf Tryz.prog s_l16ClientsOkT N s_l16ClientsOkK Tryz.f50 rb [⟨ag rITown, p⟩] 2
/- x0=t0(.one (.agg [.d si, .d (.sl 97), .d si, .d si, .d si, .d si, .d si, .d si, .d (.sl 176), .d (.sl 80), .d (.sl 116), .d (.sl 3), .d (.sl 102), .d (.sl 85), .d (.sl 88)])) x15=t1(.one (.c (.ptr 1 0))) x16=t2(.one (.c (.kb false))) x17=t3(ri) x18=t4(ri) x19=box1[.d si, .d (.sl 97), .d si, .d si, .d si, .d si, .d si, .d si, .d (.sl 176), .d (.sl 80), .d (.sl 116), .d (.sl 3), .d (.sl 102), .d (.sl 85), .d (.sl 88)] -/
theorem s_l16ClientsOkR0 (N : Nat) (p : List D) (x0 x1 x2 x3 x4 x5 x6 x7 x8 x9 x10 x11 x12 x13 x14 x15 x16 x17 x18 x19 x20 x21 x22 x23 x24 x25 x26 x27 x28 x29 x30 x31 x32 x33 : D) : (s_l16ClientsOkL0 N p) [x0, x1, x2, x3, x4, x5, x6, x7, x8, x9, x10, x11, x12, x13, x14, x15, x16, x17, x18, x19, x20, x21, x22, x23, x24, x25, x26, x27, x28, x29, x30, x31, x32, x33] =
  bif ltI x18.int (x31.rows.length : Int) then nd (inRange x18.int x31.rows.length) (bif !(clientOk (sub (x31.rows.getD x18.int.toNat []) 0 9)) then ob false
  else bif !(ownersIn (gd (x31.rows.getD x18.int.toNat []) 8) x17.int) then ob false
  else bif leI x17.int (gd (x31.rows.getD x18.int.toNat []) 7).int then ob false
  else (let o2 := iter (s_l16ClientsOkL2 N p) N [x0, x1, x2, x3, x4, x5, x6, x7, x8, x9, x10, x11, x12, x13, x14, x15, x16, x17, x18, .b (ltI x18.int (x31.rows.length : Int)), .i 0, .b (leI x17.int (gd (x31.rows.getD x18.int.toNat []) 7).int), .i 0, x19, x20, x21, x22, x23, x24, x25, x26, x27, x28, x29, x30, x31, x32, x33, gd (x31.rows.getD x18.int.toNat []) 0, gd (x31.rows.getD x18.int.toNat []) 1, gd (x31.rows.getD x18.int.toNat []) 2, gd (x31.rows.getD x18.int.toNat []) 3, gd (x31.rows.getD x18.int.toNat []) 4, gd (x31.rows.getD x18.int.toNat []) 5, gd (x31.rows.getD x18.int.toNat []) 6, gd (x31.rows.getD x18.int.toNat []) 7, gd (x31.rows.getD x18.int.toNat []) 8]
   nd o2.isSome (bif o2.code == 1 then some (1, o2.pay)
   else nd (o2.code == 4) (nx [gd o2.pay 0, gd o2.pay 1, gd o2.pay 2, gd o2.pay 3, gd o2.pay 4, gd o2.pay 5, gd o2.pay 6, gd o2.pay 7, gd o2.pay 8, gd o2.pay 9, gd o2.pay 10, gd o2.pay 11, gd o2.pay 12, gd o2.pay 13, gd o2.pay 14, gd o2.pay 15, gd o2.pay 16, gd o2.pay 17, .i (w64 ((gd o2.pay 18).int + 1)), gd o2.pay 23, gd o2.pay 24, gd o2.pay 25, gd o2.pay 26, gd o2.pay 27, gd o2.pay 28, gd o2.pay 29, gd o2.pay 30, gd o2.pay 31, gd o2.pay 32, gd o2.pay 33, gd o2.pay 34, gd o2.pay 35, gd o2.pay 36, gd o2.pay 37]))))
  else ex 0 [x0, x1, x2, x3, x4, x5, x6, x7, x8, x9, x10, x11, x12, x13, x14, x15, x16, x17, x18, x19, x20, x21, x22, x23, x24, x25, x26, x27, x28, x29, x30, x31, x32, x33] := by kernel_rfl
/- x0=t0(.one (.agg [.d si, .d (.sl 97), .d si, .d si, .d si, .d si, .d si, .d si, .d (.sl 176), .d (.sl 80), .d (.sl 116), .d (.sl 3), .d (.sl 102), .d (.sl 85), .d (.sl 88)])) x15=t1(.one (.c (.ptr 1 0))) x16=t2(.one (.c (.kb false))) x17=t3(ri) x18=t4(ri) x19=t14(rb) x20=t5(.one (.c (.ptr 5 0))) x21=t37(rb) x22=t6(ri) x23=box1[.d si, .d (.sl 97), .d si, .d si, .d si, .d si, .d si, .d si, .d (.sl 176), .d (.sl 80), .d (.sl 116), .d (.sl 3), .d (.sl 102), .d (.sl 85), .d (.sl 88)] x38=box5[.d si, .d si, .d si, .d (.sl 132), .d (.sl 130), .d si, .d si, .d si, .d (.sl 97)] -/
theorem s_l16ClientsOkR2 (N : Nat) (p : List D) (x0 x1 x2 x3 x4 x5 x6 x7 x8 x9 x10 x11 x12 x13 x14 x15 x16 x17 x18 x19 x20 x21 x22 x23 x24 x25 x26 x27 x28 x29 x30 x31 x32 x33 x34 x35 x36 x37 x38 x39 x40 x41 x42 x43 x44 x45 x46 : D) : (s_l16ClientsOkL2 N p) [x0, x1, x2, x3, x4, x5, x6, x7, x8, x9, x10, x11, x12, x13, x14, x15, x16, x17, x18, x19, x20, x21, x22, x23, x24, x25, x26, x27, x28, x29, x30, x31, x32, x33, x34, x35, x36, x37, x38, x39, x40, x41, x42, x43, x44, x45, x46] =
  bif ltI x22.int (x42.rows.length : Int) then nd (inRange x22.int x42.rows.length) (bif leI x17.int (gd (x42.rows.getD x22.int.toNat []) 0).int then ob false
  else nx [x0, x1, x2, x3, x4, x5, x6, x7, x8, x9, x10, x11, x12, x13, x14, x15, x16, x17, x18, x19, x20, x21, .i (w64 (x22.int + 1)), x23, x24, x25, x26, x27, x28, x29, x30, x31, x32, x33, x34, x35, x36, x37, x38, x39, x40, x41, x42, x43, x44, x45, x46])
  else ex 2 [x0, x1, x2, x3, x4, x5, x6, x7, x8, x9, x10, x11, x12, x13, x14, x15, x16, x17, x18, x19, x20, x21, x22, x23, x24, x25, x26, x27, x28, x29, x30, x31, x32, x33, x34, x35, x36, x37, x38, x39, x40, x41, x42, x43, x44, x45, x46] := by kernel_rfl
theorem s_l16ClientsOk_ev (N : Nat) (p : List D) : evFn Tryz.prog s_l16ClientsOkT N s_l16ClientsOkK Tryz.f50 rb [⟨ag rITown, p⟩] = some (bo,
  (let o0 := iter (s_l16ClientsOkL0 N p) N [gd p 0, gd p 1, gd p 2, gd p 3, gd p 4, gd p 5, gd p 6, gd p 7, gd p 8, gd p 9, gd p 10, gd p 11, gd p 12, gd p 13, gd p 14, .i 0, .i 0, .i ((gd p 9).rows.length : Int), .i 0, gd p 0, gd p 1, gd p 2, gd p 3, gd p 4, gd p 5, gd p 6, gd p 7, gd p 8, gd p 9, gd p 10, gd p 11, gd p 12, gd p 13, gd p 14]
   nd o0.isSome (bif o0.code == 1 then some (1, o0.pay)
   else nd (o0.code == 2) (ob true)))) := by kernel_rfl
def clientsOk (z : D) (n : Int) : Bool := (List.range z.rows.length).all fun k => clientRight (z.rows.getD k []) n
theorem leI_not (a b : Int) : leI a b = !ltI b a := by
  rw [Bool.eq_iff_iff]; simp only [leI, ltI, decide_eq_true_eq, Bool.not_eq_true', decide_eq_false_iff_not]; omega
theorem client_seen {p : List D} (h : clientOk p = true) : (gd p 4).rows.length ≤ 16 := by
  unfold clientOk at h
  simp only [Bool.and_eq_true] at h
  have h := h.2.2.2
  cases hc : ltI (gd p 0).int 2
  · rw [hc, cond_false] at h
    simp only [clientBusy, seenOk, Bool.and_eq_true, leI, decide_eq_true_eq] at h
    omega
  · rw [hc, cond_true] at h
    simp only [clientIdle, Bool.and_eq_true, beq_iff_eq] at h
    omega
theorem clients_in (p : List D) (N k : Nat) (b1 b2 : D) (hN : 17 ≤ N) (h : (gd ((gd p 12).rows.getD k []) 4).rows.length ≤ 16) : iter (s_l16ClientsOkL2 N p) N [gd p 0, gd p 1, gd p 2, gd p 3, gd p 4, gd p 5, gd p 6, gd p 7, gd p 8, gd p 9, gd p 10, gd p 11, gd p 12, gd p 13, gd p 14, .i 0, .i 0, .i ((gd p 9).rows.length : Int), .i (k : Int), b1, .i 0, b2, .i 0, gd p 0, gd p 1, gd p 2, gd p 3, gd p 4, gd p 5, gd p 6, gd p 7, gd p 8, gd p 9, gd p 10, gd p 11, gd p 12, gd p 13, gd p 14, gd ((gd p 12).rows.getD k []) 0, gd ((gd p 12).rows.getD k []) 1, gd ((gd p 12).rows.getD k []) 2, gd ((gd p 12).rows.getD k []) 3, gd ((gd p 12).rows.getD k []) 4, gd ((gd p 12).rows.getD k []) 5, gd ((gd p 12).rows.getD k []) 6, gd ((gd p 12).rows.getD k []) 7, gd ((gd p 12).rows.getD k []) 8] = some (bif seenIn (gd ((gd p 12).rows.getD k []) 4) ((gd p 9).rows.length : Int) then (4, [gd p 0, gd p 1, gd p 2, gd p 3, gd p 4, gd p 5, gd p 6, gd p 7, gd p 8, gd p 9, gd p 10, gd p 11, gd p 12, gd p 13, gd p 14, .i 0, .i 0, .i ((gd p 9).rows.length : Int), .i (k : Int), b1, .i 0, b2, .i ((gd ((gd p 12).rows.getD k []) 4).rows.length : Int), gd p 0, gd p 1, gd p 2, gd p 3, gd p 4, gd p 5, gd p 6, gd p 7, gd p 8, gd p 9, gd p 10, gd p 11, gd p 12, gd p 13, gd p 14, gd ((gd p 12).rows.getD k []) 0, gd ((gd p 12).rows.getD k []) 1, gd ((gd p 12).rows.getD k []) 2, gd ((gd p 12).rows.getD k []) 3, gd ((gd p 12).rows.getD k []) 4, gd ((gd p 12).rows.getD k []) 5, gd ((gd p 12).rows.getD k []) 6, gd ((gd p 12).rows.getD k []) 7, gd ((gd p 12).rows.getD k []) 8]) else (1, [.b false])) := by
  have e := for_loop (L := s_l16ClientsOkL2 N p) (fun j => [gd p 0, gd p 1, gd p 2, gd p 3, gd p 4, gd p 5, gd p 6, gd p 7, gd p 8, gd p 9, gd p 10, gd p 11, gd p 12, gd p 13, gd p 14, .i 0, .i 0, .i ((gd p 9).rows.length : Int), .i (k : Int), b1, .i 0, b2, .i (j : Int), gd p 0, gd p 1, gd p 2, gd p 3, gd p 4, gd p 5, gd p 6, gd p 7, gd p 8, gd p 9, gd p 10, gd p 11, gd p 12, gd p 13, gd p 14, gd ((gd p 12).rows.getD k []) 0, gd ((gd p 12).rows.getD k []) 1, gd ((gd p 12).rows.getD k []) 2, gd ((gd p 12).rows.getD k []) 3, gd ((gd p 12).rows.getD k []) 4, gd ((gd p 12).rows.getD k []) 5, gd ((gd p 12).rows.getD k []) 6, gd ((gd p 12).rows.getD k []) 7, gd ((gd p 12).rows.getD k []) 8]) (gd ((gd p 12).rows.getD k []) 4).rows.length (fun j => !leI ((gd p 9).rows.length : Int) (gd ((gd ((gd p 12).rows.getD k []) 4).rows.getD j []) 0).int) [.b false] 2 (fun j hj => ?_) ?_ (N := N) (by omega)
  · simp only [Int.natCast_zero] at e
    exact e
  · show s_l16ClientsOkL2 _ p [_, _, _, _, _, _, _, _, _, _, _, _, _, _, _, _, _, _, _, _, _, _, .i (j : Int), _, _, _, _, _, _, _, _, _, _, _, _, _, _, _, _, _, _, _, _, _, _, _, _] = _
    rw [s_l16ClientsOkR2]
    simp only [int_i, c_lt hj, nd_ix hj, w64_succ hj (show (gd ((gd p 12).rows.getD k []) 4).rows.length ≤ 9223372036854775807 from by omega), Int.toNat_natCast]
    cases leI ((gd p 9).rows.length : Int) (gd ((gd ((gd p 12).rows.getD k []) 4).rows.getD j []) 0).int <;> rfl
  · show s_l16ClientsOkL2 _ p [_, _, _, _, _, _, _, _, _, _, _, _, _, _, _, _, _, _, _, _, _, _, .i ((gd ((gd p 12).rows.getD k []) 4).rows.length : Int), _, _, _, _, _, _, _, _, _, _, _, _, _, _, _, _, _, _, _, _, _, _, _, _] = _
    rw [s_l16ClientsOkR2]
    simp only [int_i, c_nlt]
def s_l16ClientsOkE : Ent := (50, e1 (ag rITown) fun p => (⟨rb, [.b (clientsOk (gd p 12) ((gd p 9).rows.length : Int))]⟩, true))
theorem s_l16ClientsOk_ok : EntOk Tryz.prog s_l16ClientsOkE := e1_ok fun p h => evFn_sound (N := (gd p 12).rows.length + 17) (ks := s_l16ClientsOkK) (key := bo) s_l16ClientsOkT_ok (enters Tryz.func50 (by kernel_rfl) (by kernel_rfl)) Tryz.func50 fun hw => by
  rw [s_l16ClientsOk_ev]
  have hl := wt_at (hw ⟨ag rITown, p⟩ (by simp)) (j := 12) rfl
  have e := for_loop (L := s_l16ClientsOkL0 ((gd p 12).rows.length + 17) p) (fun k => [gd p 0, gd p 1, gd p 2, gd p 3, gd p 4, gd p 5, gd p 6, gd p 7, gd p 8, gd p 9, gd p 10, gd p 11, gd p 12, gd p 13, gd p 14, .i 0, .i 0, .i ((gd p 9).rows.length : Int), .i (k : Int), gd p 0, gd p 1, gd p 2, gd p 3, gd p 4, gd p 5, gd p 6, gd p 7, gd p 8, gd p 9, gd p 10, gd p 11, gd p 12, gd p 13, gd p 14]) (gd p 12).rows.length (fun k => clientRight ((gd p 12).rows.getD k []) ((gd p 9).rows.length : Int)) [.b false] 0 (fun k hk => ?_) ?_ (N := (gd p 12).rows.length + 17) (by omega)
  · simp only [Int.natCast_zero] at e
    rw [e]
    unfold clientsOk
    cases (List.range (gd p 12).rows.length).all fun k => clientRight ((gd p 12).rows.getD k []) ((gd p 9).rows.length : Int) <;> rfl
  · show s_l16ClientsOkL0 _ p [_, _, _, _, _, _, _, _, _, _, _, _, _, _, _, _, _, _, .i (k : Int), _, _, _, _, _, _, _, _, _, _, _, _, _, _, _] = _
    rw [s_l16ClientsOkR0]
    simp only [int_i, c_lt hk, nd_ix hk, Int.toNat_natCast]
    rw [show clientOk (sub ((gd p 12).rows.getD k []) 0 9) = clientOk ((gd p 12).rows.getD k []) from rfl]
    unfold clientRight
    cases hc : clientOk ((gd p 12).rows.getD k [])
    · rfl
    cases ho : ownersIn (gd ((gd p 12).rows.getD k []) 8) ((gd p 9).rows.length : Int)
    · cases ltI (gd ((gd p 12).rows.getD k []) 7).int ((gd p 9).rows.length : Int) <;> rfl
    rw [leI_not]
    cases ht : ltI (gd ((gd p 12).rows.getD k []) 7).int ((gd p 9).rows.length : Int)
    · rfl
    simp only [Bool.not_true, cond_false]
    rw [clients_in p _ k _ _ (by omega) (client_seen hc)]
    cases seenIn (gd ((gd p 12).rows.getD k []) 4) ((gd p 9).rows.length : Int)
    · rfl
    · simp only [nd, cond_true, cond_false, Option.isSome_some, Out.code, Out.pay, Option.getD_some, gd_cons_zero, gd_cons_succ, Nat.reduceBEq, Nat.reduceAdd, int_i, w64_succ hk hl]
      rfl
  · show s_l16ClientsOkL0 _ p [_, _, _, _, _, _, _, _, _, _, _, _, _, _, _, _, _, _, .i ((gd p 12).rows.length : Int), _, _, _, _, _, _, _, _, _, _, _, _, _, _, _] = _
    rw [s_l16ClientsOkR0]
    simp only [int_i, c_nlt]

/-! loop.example/g00097/impl.StoreNew -/
abbrev i_StoreNewT : FuncId → List T → Option (T × Bool) := find [i_StoreOkE, i_WritesOkE, i_valueOfE]
theorem i_StoreNewT_ok : CallOk Tryz.prog i_StoreNewT := find_ok (List.forall_mem_cons.2 ⟨i_StoreOk_ok, List.forall_mem_cons.2 ⟨i_WritesOk_ok, List.forall_mem_cons.2 ⟨i_valueOf_ok, List.forall_mem_nil _⟩⟩⟩)
abbrev i_StoreNewK : List Nat := [0, 1, 4, 5, 7, 15, 16, 17, 18, 19, 31]
noncomputable def i_StoreNewL0 (N : Nat) (p q : List D) : List D → Out := loopOf Tryz.prog i_StoreNewT N i_StoreNewK Tryz.f270 ri [⟨sd (.sl 176), p⟩, ⟨sd (.sl 132), q⟩] 0
/- x0=t0(sd (.sl 176)) x1=t1(sd (.sl 132)) x2=t4(ri) x3=t15(rb) x4=t5(ri) x5=t16(sd (.sl 132)) x6=t17(ri) x7=t18(ri) -/
theorem i_StoreNewR0 (N : Nat) (p q : List D) (x0 x1 x2 x3 x4 x5 x6 x7 : D) : (i_StoreNewL0 N p q) [x0, x1, x2, x3, x4, x5, x6, x7] =
  bif ltI x7.int x6.int then nd (inRange x7.int x5.rows.length) (bif (gd (x5.rows.getD x7.int.toNat []) 1).int != (-1) then nd (storeOk x0 && inB (gd (x5.rows.getD x7.int.toNat []) 0).int 0 999) (bif ltI (valD x0 (gd (x5.rows.getD x7.int.toNat []) 0).int).int 0 then nx [x0, x1, x2, x3, .i (w64 (x4.int + 1)), x5, x6, .i (w64 (x7.int + 1))]
  else nx [x0, x1, x2, x3, x4, x5, x6, .i (w64 (x7.int + 1))])
  else nx [x0, x1, x2, x3, x4, x5, x6, .i (w64 (x7.int + 1))])
  else ex 0 [x0, x1, x2, x3, x4, x5, x6, x7] := by kernel_rfl
theorem i_StoreNew_ev (N : Nat) (p q : List D) : evFn Tryz.prog i_StoreNewT N i_StoreNewK Tryz.f270 ri [⟨sd (.sl 176), p⟩, ⟨sd (.sl 132), q⟩] = some (bo,
  bif !(storeOk (gd p 0)) then oi (-1)
  else bif !(writesOk (gd q 0)) then oi (-1)
  else (let o0 := iter (i_StoreNewL0 N p q) N [gd p 0, gd q 0, .i 0, .b (!(writesOk (gd q 0))), .i 0, gd q 0, .i ((gd q 0).rows.length : Int), .i 0]
   nd o0.isSome (nd (o0.code == 2) (some (1, [gd o0.pay 4]))))) := by kernel_rfl
def newAt (z w : D) (k : Nat) : Bool := leI 0 (gd (w.rows.getD k []) 1).int && ltI (valD z (gd (w.rows.getD k []) 0).int).int 0
def storeNew (z w : D) : Int := bif storeOk z then bif writesOk w then (cnt (newAt z w) 0 w.rows.length : Int) else -1 else -1
theorem write_at {w : D} (h : writesOk w = true) {k : Nat} (hk : k < w.rows.length) : w.rows.length ≤ 60 ∧ inB (gd (w.rows.getD k []) 0).int 0 999 = true ∧ ((gd (w.rows.getD k []) 1).int != (-1)) = leI 0 (gd (w.rows.getD k []) 1).int := by
  simp only [writesOk, Bool.and_eq_true, List.all_eq_true, List.mem_range, decide_eq_true_eq] at h
  obtain ⟨hl, h⟩ := h
  have := h k hk
  simp only [writeAt, Bool.and_eq_true] at this
  refine ⟨by omega, this.1, ?_⟩
  have h2 := this.2.1
  simp only [inB, Bool.and_eq_true, decide_eq_true_eq] at h2
  rw [Bool.eq_iff_iff]
  simp only [bne_iff_ne, ne_eq, leI, decide_eq_true_eq]
  omega
theorem writes_len60 {w : D} (h : writesOk w = true) : w.rows.length ≤ 60 := by
  simp only [writesOk, Bool.and_eq_true, decide_eq_true_eq] at h
  omega
theorem new_step (z w : D) (k : Nat) (h : k < 1000) : (cnt (newAt z w) 0 (k + 1) : Int) = bif newAt z w k then w64 ((cnt (newAt z w) 0 k : Int) + 1) else (cnt (newAt z w) 0 k : Int) := by
  have := cnt_le (newAt z w) k 0
  rw [cnt_succ, Nat.zero_add]
  cases newAt z w k
  · rfl
  · rw [cond_true, cond_true, w64_id (by omega) (by omega)]; omega
def i_StoreNewE : Ent := (270, e2 (sd (.sl 176)) (sd (.sl 132)) fun p q => (⟨ri, [.i (storeNew (gd p 0) (gd q 0))]⟩, true))
theorem i_StoreNew_ok : EntOk Tryz.prog i_StoreNewE := e2_ok fun p q h => evFn_sound (N := 61) (ks := i_StoreNewK) (key := bo) i_StoreNewT_ok (enters Tryz.func270 (by kernel_rfl) (by kernel_rfl)) Tryz.func270 fun hw => by
  rw [i_StoreNew_ev]
  unfold storeNew
  cases hz : storeOk (gd p 0)
  · rfl
  cases hw : writesOk (gd q 0)
  · rfl
  have hlen := writes_len60 hw
  simp only [Bool.not_true, cond_false, cond_true]
  have e := run_loop (L := i_StoreNewL0 61 p q) (fun k => [gd p 0, gd q 0, .i 0, .b false, .i (cnt (newAt (gd p 0) (gd q 0)) 0 k : Int), gd q 0, .i ((gd q 0).rows.length : Int), .i (k : Int)]) (gd q 0).rows.length 0 (fun k hk => ?_) ?_ (N := 61) (by omega)
  · simp only [Int.natCast_zero, cnt_zero] at e
    rw [e]
    rfl
  · show i_StoreNewL0 _ p q [_, _, _, _, _, _, _, .i (k : Int)] = _
    rw [i_StoreNewR0]
    obtain ⟨_, hk2, hk3⟩ := write_at hw hk
    simp only [int_i, c_lt hk, nd_ix hk, w64_succ hk (show (gd q 0).rows.length ≤ 9223372036854775807 from by omega), Int.toNat_natCast]
    rw [hz, hk2, hk3, new_step _ _ _ (show k < 1000 from by omega)]
    unfold newAt
    cases leI 0 (gd ((gd q 0).rows.getD k []) 1).int <;> cases ltI (valD (gd p 0) (gd ((gd q 0).rows.getD k []) 0).int).int 0 <;> rfl
  · show i_StoreNewL0 _ p q [_, _, _, _, _, _, .i ((gd q 0).rows.length : Int), .i ((gd q 0).rows.length : Int)] = _
    rw [i_StoreNewR0]
    simp only [int_i, c_nlt]

/-! loop.example/g00097/spec.StoreNew -/
abbrev s_StoreNewT : FuncId → List T → Option (T × Bool) := find [s_StoreOkE, s_WritesOkE, s_l11GetE]
theorem s_StoreNewT_ok : CallOk Tryz.prog s_StoreNewT := find_ok (List.forall_mem_cons.2 ⟨s_StoreOk_ok, List.forall_mem_cons.2 ⟨s_WritesOk_ok, List.forall_mem_cons.2 ⟨s_l11Get_ok, List.forall_mem_nil _⟩⟩⟩)
abbrev s_StoreNewK : List Nat := [0, 1, 4, 5, 6, 14, 18, 36]
noncomputable def s_StoreNewL0 (N : Nat) (p q : List D) : List D → Out := loopOf Tryz.prog s_StoreNewT N s_StoreNewK Tryz.f243 ri [⟨sd (.sl 176), p⟩, ⟨sd (.sl 132), q⟩] 0
/- x0=t0(sd (.sl 176)) x1=t1(sd (.sl 132)) x2=t4(ri) x3=t14(rb) x4=t5(ri) x5=t6(ri) -/
theorem s_StoreNewR0 (N : Nat) (p q : List D) (x0 x1 x2 x3 x4 x5 : D) : (s_StoreNewL0 N p q) [x0, x1, x2, x3, x4, x5] =
  bif ltI x5.int (x1.rows.length : Int) then nd (inRange x5.int x1.rows.length) (bif leI 0 (gd (x1.rows.getD x5.int.toNat []) 1).int then nd (inRange x5.int x1.rows.length) (nd (storeOk x0) (bif ltI (valD x0 (gd (x1.rows.getD x5.int.toNat []) 0).int).int 0 then nx [x0, x1, x2, x3, .i (w64 (x4.int + 1)), .i (w64 (x5.int + 1))]
  else nx [x0, x1, x2, x3, x4, .i (w64 (x5.int + 1))]))
  else nx [x0, x1, x2, x3, x4, .i (w64 (x5.int + 1))])
  else ex 0 [x0, x1, x2, x3, x4, x5] := by kernel_rfl
theorem s_StoreNew_ev (N : Nat) (p q : List D) : evFn Tryz.prog s_StoreNewT N s_StoreNewK Tryz.f243 ri [⟨sd (.sl 176), p⟩, ⟨sd (.sl 132), q⟩] = some (bo,
  bif !(storeOk (gd p 0)) then oi (-1)
  else bif !(writesOk (gd q 0)) then oi (-1)
  else (let o0 := iter (s_StoreNewL0 N p q) N [gd p 0, gd q 0, .i 0, .b (!(writesOk (gd q 0))), .i 0, .i 0]
   nd o0.isSome (nd (o0.code == 2) (some (1, [gd o0.pay 4]))))) := by kernel_rfl
def s_StoreNewE : Ent := (243, e2 (sd (.sl 176)) (sd (.sl 132)) fun p q => (⟨ri, [.i (storeNew (gd p 0) (gd q 0))]⟩, true))
theorem s_StoreNew_ok : EntOk Tryz.prog s_StoreNewE := e2_ok fun p q h => evFn_sound (N := 61) (ks := s_StoreNewK) (key := bo) s_StoreNewT_ok (enters Tryz.func243 (by kernel_rfl) (by kernel_rfl)) Tryz.func243 fun hw => by
  rw [s_StoreNew_ev]
  unfold storeNew
  cases hz : storeOk (gd p 0)
  · rfl
  cases hw : writesOk (gd q 0)
  · rfl
  have hlen := writes_len60 hw
  simp only [Bool.not_true, cond_false, cond_true]
  have e := run_loop (L := s_StoreNewL0 61 p q) (fun k => [gd p 0, gd q 0, .i 0, .b false, .i (cnt (newAt (gd p 0) (gd q 0)) 0 k : Int), .i (k : Int)]) (gd q 0).rows.length 0 (fun k hk => ?_) ?_ (N := 61) (by omega)
  · simp only [Int.natCast_zero, cnt_zero] at e
    rw [e]
    rfl
  · show s_StoreNewL0 _ p q [_, _, _, _, _, .i (k : Int)] = _
    rw [s_StoreNewR0]
    simp only [int_i, c_lt hk, nd_ix hk, w64_succ hk (show (gd q 0).rows.length ≤ 9223372036854775807 from by omega), Int.toNat_natCast]
    rw [hz, nd_true, new_step _ _ _ (show k < 1000 from by omega)]
    unfold newAt
    cases leI 0 (gd ((gd q 0).rows.getD k []) 1).int <;> cases ltI (valD (gd p 0) (gd ((gd q 0).rows.getD k []) 0).int).int 0 <;> rfl
  · show s_StoreNewL0 _ p q [_, _, _, _, _, .i ((gd q 0).rows.length : Int)] = _
    rw [s_StoreNewR0]
    simp only [int_i, c_nlt]

end Go.Proofs.YtchceahcaaibcaaGreat
