/-
  The town: parts, locks, what is had. Printed by sym.py.
-/
import Derived.Test.YtchceahcaaibcaaGreatT3
namespace Go.Proofs.YtchceahcaaibcaaGreat
set_option linter.unusedSimpArgs false
set_option linter.unusedVariables false
set_option maxRecDepth 4096
/-! loop.example/g00097/impl.PartsOk -/
abbrev i_PartsOkT : FuncId → List T → Option (T × Bool) := find [i_isGroupE, i_fromE]
theorem i_PartsOkT_ok : CallOk Tryz.prog i_PartsOkT := find_ok (List.forall_mem_cons.2 ⟨i_isGroup_ok, List.forall_mem_cons.2 ⟨i_from_ok, List.forall_mem_nil _⟩⟩)
abbrev i_PartsOkK : List Nat := [0, 2, 3, 5, 6, 7, 8, 9, 28]
noncomputable def i_PartsOkL0 (N : Nat) (p : List D) : List D → Out := loopOf Tryz.prog i_PartsOkT N i_PartsOkK Tryz.f155 rb [⟨sd (.sl 97), p⟩] 0
/- x0=t0(sd (.sl 97)) x1=t2(.one (.c (.kb false))) x2=t3(ri) x3=t6(sd (.sl 97)) x4=t7(ri) x5=t8(ri) -/
theorem i_PartsOkR0 (N : Nat) (p : List D) (x0 x1 x2 x3 x4 x5 : D) : (i_PartsOkL0 N p) [x0, x1, x2, x3, x4, x5] =
  bif ltI x5.int x4.int then nd (inRange x5.int x3.rows.length) (bif (gd (x3.rows.getD x5.int.toNat []) 0).int != x2.int then ob false
  else bif leI (gd (x3.rows.getD x5.int.toNat []) 1).int (gd (x3.rows.getD x5.int.toNat []) 0).int then ob false
  else bif !(inB (gd (x3.rows.getD x5.int.toNat []) 2).int (0) (3)) then ob false
  else nx [x0, x1, gd (x3.rows.getD x5.int.toNat []) 1, x3, x4, .i (w64 (x5.int + 1))])
  else ex 0 [x0, x1, x2, x3, x4, x5] := by kernel_rfl
theorem i_PartsOk_ev (N : Nat) (p : List D) : evFn Tryz.prog i_PartsOkT N i_PartsOkK Tryz.f155 rb [⟨sd (.sl 97), p⟩] = some (bo,
  (let o0 := iter (i_PartsOkL0 N p) N [gd p 0, .i 0, .i 0, gd p 0, .i ((gd p 0).rows.length : Int), .i 0]
   nd o0.isSome (bif o0.code == 1 then some (1, o0.pay)
   else nd (o0.code == 2) (bif inB ((gd o0.pay 0).rows.length : Int) 1 16 then ob ((gd o0.pay 2).int == 1000)
   else ob false)))) := by kernel_rfl
def endD (z : D) : Nat → D
  | 0 => .i 0
  | k + 1 => gd (z.rows.getD k []) 1
def partAt (z : D) (k : Nat) : Bool := ((gd (z.rows.getD k []) 0).int == (endD z k).int) && (!leI (gd (z.rows.getD k []) 1).int (gd (z.rows.getD k []) 0).int && inB (gd (z.rows.getD k []) 2).int 0 3)
def partsOk (z : D) : Bool := (List.range z.rows.length).all (partAt z) && (inB (z.rows.length : Int) 1 16 && (endD z z.rows.length).int == 1000)
def i_PartsOkE : Ent := (155, e1 (sd (.sl 97)) fun p => (⟨rb, [.b (partsOk (gd p 0))]⟩, true))
theorem i_PartsOk_ok : EntOk Tryz.prog i_PartsOkE := e1_ok fun p h => evFn_sound (N := (gd p 0).rows.length + 1) (ks := i_PartsOkK) (key := bo) i_PartsOkT_ok (enters Tryz.func155 (by kernel_rfl) (by kernel_rfl)) Tryz.func155 fun hw => by
  rw [i_PartsOk_ev]
  have hl := wt_sl (hw ⟨sd (.sl 97), p⟩ (by simp))
  have e := for_loop (L := i_PartsOkL0 ((gd p 0).rows.length + 1) p) (fun k => [gd p 0, .i 0, endD (gd p 0) k, gd p 0, .i ((gd p 0).rows.length : Int), .i (k : Int)]) (gd p 0).rows.length (partAt (gd p 0)) [.b false] 0 (fun k hk => ?_) ?_ (N := (gd p 0).rows.length + 1) (by omega)
  · simp only [Int.natCast_zero] at e
    rw [show endD (gd p 0) 0 = .i 0 from rfl] at e
    rw [e]
    unfold partsOk
    cases (List.range (gd p 0).rows.length).all (partAt (gd p 0))
    · rfl
    · simp only [nd, cond_true, cond_false, Option.isSome_some, Out.code, Out.pay, Option.getD_some, gd_cons_zero, gd_cons_succ, Nat.reduceBEq, Nat.reduceAdd, int_i, bool_b, str_s, rows_l, Bool.not_true, Bool.not_false, beq_self_eq_true, Bool.true_and]
      cases inB ((gd p 0).rows.length : Int) 1 16 <;> rfl
  · show i_PartsOkL0 _ p [_, _, _, _, _, .i (k : Int)] = _
    rw [i_PartsOkR0]
    simp only [int_i, c_lt hk, nd_ix hk, w64_succ hk hl, Int.toNat_natCast, bne_not, partAt]
    cases (gd ((gd p 0).rows.getD k []) 0).int == (endD (gd p 0) k).int <;> cases leI (gd ((gd p 0).rows.getD k []) 1).int (gd ((gd p 0).rows.getD k []) 0).int <;> cases inB (gd ((gd p 0).rows.getD k []) 2).int 0 3 <;> rfl
  · show i_PartsOkL0 _ p [_, _, _, _, .i ((gd p 0).rows.length : Int), .i ((gd p 0).rows.length : Int)] = _
    rw [i_PartsOkR0]
    simp only [int_i, c_nlt]

/-! loop.example/g00097/spec.PartsOk -/
abbrev s_PartsOkT : FuncId → List T → Option (T × Bool) := find [s_l1InE]
theorem s_PartsOkT_ok : CallOk Tryz.prog s_PartsOkT := find_ok (List.forall_mem_cons.2 ⟨s_l1In_ok, List.forall_mem_nil _⟩)
abbrev s_PartsOkK : List Nat := [0, 2, 3, 4, 5, 26, 29, 71]
noncomputable def s_PartsOkL0 (N : Nat) (p : List D) : List D → Out := loopOf Tryz.prog s_PartsOkT N s_PartsOkK Tryz.f126 rb [⟨sd (.sl 97), p⟩] 0
/- x0=t0(sd (.sl 97)) x1=t2(.one (.c (.kb false))) x2=t3(ri) x3=t26(rb) x4=t4(ri) -/
theorem s_PartsOkR0 (N : Nat) (p : List D) (x0 x1 x2 x3 x4 : D) : (s_PartsOkL0 N p) [x0, x1, x2, x3, x4] =
  bif ltI x4.int x2.int then nd (inRange x4.int x0.rows.length) (bif leI (gd (x0.rows.getD x4.int.toNat []) 1).int (gd (x0.rows.getD x4.int.toNat []) 0).int then ob false
  else bif ltI (gd (x0.rows.getD x4.int.toNat []) 0).int 0 then ob false
  else bif ltI 1000 (gd (x0.rows.getD x4.int.toNat []) 1).int then ob false
  else bif !(inB (gd (x0.rows.getD x4.int.toNat []) 2).int 0 3) then ob false
  else bif ltI 0 x4.int then nd (inRange (w64 (x4.int - 1)) x0.rows.length) (bif (gd (x0.rows.getD (w64 (x4.int - 1)).toNat []) 1).int != (gd (x0.rows.getD x4.int.toNat []) 0).int then ob false
  else nx [x0, x1, x2, x3, .i (w64 (x4.int + 1))])
  else nx [x0, x1, x2, x3, .i (w64 (x4.int + 1))])
  else ex 0 [x0, x1, x2, x3, x4] := by kernel_rfl
theorem s_PartsOk_ev (N : Nat) (p : List D) : evFn Tryz.prog s_PartsOkT N s_PartsOkK Tryz.f126 rb [⟨sd (.sl 97), p⟩] = some (bo,
  bif !(inB ((gd p 0).rows.length : Int) 1 16) then ob false
  else nd (inRange 0 (gd p 0).rows.length) (bif (gd ((gd p 0).rows.getD 0 []) 0).int != 0 then ob false
  else nd (inRange (w64 (((gd p 0).rows.length : Int) - 1)) (gd p 0).rows.length) (bif (gd ((gd p 0).rows.getD (w64 (((gd p 0).rows.length : Int) - 1)).toNat []) 1).int != 1000 then ob false
  else (let o0 := iter (s_PartsOkL0 N p) N [gd p 0, .i 0, .i ((gd p 0).rows.length : Int), .b ((gd ((gd p 0).rows.getD (w64 (((gd p 0).rows.length : Int) - 1)).toNat []) 1).int != 1000), .i 0]
   nd o0.isSome (bif o0.code == 1 then some (1, o0.pay)
   else nd (o0.code == 2) (ob true)))))) := by kernel_rfl
def partAtS (z : D) : Nat → Bool
  | 0 => !leI (gd (z.rows.getD 0 []) 1).int (gd (z.rows.getD 0 []) 0).int && (!ltI (gd (z.rows.getD 0 []) 0).int 0 && (!ltI 1000 (gd (z.rows.getD 0 []) 1).int && inB (gd (z.rows.getD 0 []) 2).int 0 3))
  | k + 1 => !leI (gd (z.rows.getD (k + 1) []) 1).int (gd (z.rows.getD (k + 1) []) 0).int && (!ltI (gd (z.rows.getD (k + 1) []) 0).int 0 && (!ltI 1000 (gd (z.rows.getD (k + 1) []) 1).int && (inB (gd (z.rows.getD (k + 1) []) 2).int 0 3 && ((gd (z.rows.getD k []) 1).int == (gd (z.rows.getD (k + 1) []) 0).int))))
theorem parts_same (z : D) (n : Nat) (hn : z.rows.length = n + 1) : ((List.range z.rows.length).all (partAt z) && (endD z z.rows.length).int == 1000) = (((gd (z.rows.getD 0 []) 0).int == 0) && (((gd (z.rows.getD n []) 1).int == 1000) && (List.range z.rows.length).all (partAtS z))) := by
  rw [hn, Bool.eq_iff_iff]
  simp only [Bool.and_eq_true, List.all_eq_true, List.mem_range, beq_iff_eq, endD]
  constructor
  · rintro ⟨h, h1⟩
    have hp : ∀ k, k < n + 1 → (gd (z.rows.getD k []) 0).int = (endD z k).int ∧ (gd (z.rows.getD k []) 0).int < (gd (z.rows.getD k []) 1).int ∧ inB (gd (z.rows.getD k []) 2).int 0 3 = true := fun k hk => by
      have := h k hk
      simp only [partAt, leI, Bool.and_eq_true, beq_iff_eq, Bool.not_eq_true', decide_eq_false_iff_not] at this
      exact ⟨this.1, by omega, this.2.2⟩
    have hlo : ∀ k, k < n + 1 → 0 ≤ (gd (z.rows.getD k []) 0).int := by
      intro k
      induction k with
      | zero => intro hk; have h0 := (hp 0 hk).1; simp only [endD, int_i] at h0; rw [h0]; exact Int.le_refl 0
      | succ k ih =>
        intro hk
        have a := hp k (by omega); have b := hp (k + 1) hk; have c := ih (by omega)
        simp only [endD] at b
        omega
    have hhi : ∀ m k, k + m = n → (gd (z.rows.getD k []) 1).int ≤ 1000 := by
      intro m
      induction m with
      | zero =>
        intro k hk
        have hkn : k = n := by omega
        subst hkn
        omega
      | succ m ih =>
        intro k hk
        have a := ih (k + 1) (by omega)
        have b := hp (k + 1) (by omega)
        simp only [endD] at b
        omega
    refine ⟨by have h0 := (hp 0 (by omega)).1; simp only [endD, int_i] at h0; exact h0, h1, fun k hk => ?_⟩
    have a := hp k hk
    have b := hlo k hk
    have c := hhi (n - k) k (by omega)
    cases k with
    | zero =>
      simp only [partAtS, leI, ltI, Bool.and_eq_true, Bool.not_eq_true', decide_eq_false_iff_not]
      exact ⟨by omega, by omega, by omega, a.2.2⟩
    | succ k =>
      simp only [endD] at a
      simp only [partAtS, leI, ltI, Bool.and_eq_true, Bool.not_eq_true', decide_eq_false_iff_not, beq_iff_eq]
      exact ⟨by omega, by omega, by omega, a.2.2, by omega⟩
  · rintro ⟨h0, h1, h⟩
    refine ⟨fun k hk => ?_, h1⟩
    have a := h k hk
    cases k with
    | zero =>
      simp only [partAtS, leI, ltI, Bool.and_eq_true, Bool.not_eq_true', decide_eq_false_iff_not] at a
      simp only [partAt, leI, Bool.and_eq_true, beq_iff_eq, Bool.not_eq_true', decide_eq_false_iff_not, endD, int_i]
      exact ⟨h0, a.1, a.2.2.2⟩
    | succ k =>
      simp only [partAtS, leI, ltI, Bool.and_eq_true, Bool.not_eq_true', decide_eq_false_iff_not, beq_iff_eq] at a
      simp only [partAt, leI, Bool.and_eq_true, beq_iff_eq, Bool.not_eq_true', decide_eq_false_iff_not, endD]
      exact ⟨a.2.2.2.2.symm, a.1, a.2.2.2.1⟩
def s_PartsOkE : Ent := (126, e1 (sd (.sl 97)) fun p => (⟨rb, [.b (partsOk (gd p 0))]⟩, true))
theorem s_PartsOk_ok : EntOk Tryz.prog s_PartsOkE := e1_ok fun p h => evFn_sound (N := (gd p 0).rows.length + 1) (ks := s_PartsOkK) (key := bo) s_PartsOkT_ok (enters Tryz.func126 (by kernel_rfl) (by kernel_rfl)) Tryz.func126 fun hw => by
  rw [s_PartsOk_ev]
  have hl := wt_sl (hw ⟨sd (.sl 97), p⟩ (by simp))
  unfold partsOk
  cases hb : inB ((gd p 0).rows.length : Int) 1 16
  · rw [Bool.false_and, Bool.and_false]; rfl
  · have hb' := hb
    simp only [inB, Bool.and_eq_true, decide_eq_true_eq] at hb'
    obtain ⟨n, hn⟩ : ∃ n, (gd p 0).rows.length = n + 1 := ⟨(gd p 0).rows.length - 1, by omega⟩
    rw [Bool.true_and, parts_same _ n hn]
    have hw1 : w64 (((gd p 0).rows.length : Int) - 1) = (n : Int) := by rw [hn]; exact w64_pred (by omega)
    rw [hw1, nd_ix (show n < (gd p 0).rows.length from by omega), Int.toNat_natCast, show inRange 0 (gd p 0).rows.length = true from inRange_nat (k := 0) (by omega), nd_true, bne_not, bne_not]
    cases (gd ((gd p 0).rows.getD 0 []) 0).int == 0
    · rfl
    cases (gd ((gd p 0).rows.getD n []) 1).int == 1000
    · rfl
    have e := for_loop (L := s_PartsOkL0 ((gd p 0).rows.length + 1) p) (fun k => [gd p 0, .i 0, .i ((gd p 0).rows.length : Int), .b false, .i (k : Int)]) (gd p 0).rows.length (partAtS (gd p 0)) [.b false] 0 (fun k hk => ?_) ?_ (N := (gd p 0).rows.length + 1) (by omega)
    · simp only [Int.natCast_zero] at e
      simp only [Bool.not_true, Bool.not_false, cond_false, cond_true, e, Bool.true_and]
      cases (List.range (gd p 0).rows.length).all (partAtS (gd p 0)) <;> rfl
    · cases k with
      | zero =>
        show s_PartsOkL0 _ p [_, _, _, _, .i ((0 : Nat) : Int)] = _
        rw [s_PartsOkR0]
        simp only [int_i, c_lt hk, nd_ix hk, w64_succ hk hl, Int.toNat_natCast, bne_not, ltI_00, partAtS]
        cases leI (gd ((gd p 0).rows.getD 0 []) 1).int (gd ((gd p 0).rows.getD 0 []) 0).int <;> cases ltI (gd ((gd p 0).rows.getD 0 []) 0).int 0 <;> cases ltI 1000 (gd ((gd p 0).rows.getD 0 []) 1).int <;> cases inB (gd ((gd p 0).rows.getD 0 []) 2).int 0 3 <;> rfl
      | succ k =>
        show s_PartsOkL0 _ p [_, _, _, _, .i ((k + 1 : Nat) : Int)] = _
        rw [s_PartsOkR0]
        simp only [int_i, c_lt hk, nd_ix hk, w64_succ hk hl, Int.toNat_natCast, bne_not, ltI_0s, w64_pred (show k + 1 ≤ 9223372036854775807 from by omega), nd_ix (Nat.lt_of_succ_lt hk), partAtS]
        cases leI (gd ((gd p 0).rows.getD (k + 1) []) 1).int (gd ((gd p 0).rows.getD (k + 1) []) 0).int <;> cases ltI (gd ((gd p 0).rows.getD (k + 1) []) 0).int 0 <;> cases ltI 1000 (gd ((gd p 0).rows.getD (k + 1) []) 1).int <;> cases inB (gd ((gd p 0).rows.getD (k + 1) []) 2).int 0 3 <;> cases (gd ((gd p 0).rows.getD k []) 1).int == (gd ((gd p 0).rows.getD (k + 1) []) 0).int <;> rfl
    · show s_PartsOkL0 _ p [_, _, .i ((gd p 0).rows.length : Int), _, .i ((gd p 0).rows.length : Int)] = _
      rw [s_PartsOkR0]
      simp only [int_i, c_nlt]

/-! loop.example/g00097/impl.LocksOk -/
abbrev i_LocksOkT : FuncId → List T → Option (T × Bool) := find [i_isTxE, i_LkeysE, i_RangeOkE, i_isModeE, cofLOE]
theorem i_LocksOkT_ok : CallOk Tryz.prog i_LocksOkT := find_ok (List.forall_mem_cons.2 ⟨i_isTx_ok, List.forall_mem_cons.2 ⟨i_Lkeys_ok, List.forall_mem_cons.2 ⟨i_RangeOk_ok, List.forall_mem_cons.2 ⟨i_isMode_ok, List.forall_mem_cons.2 ⟨cofLO_ok, List.forall_mem_nil _⟩⟩⟩⟩⟩)
abbrev i_LocksOkK : List Nat := [0, 2, 3, 4, 5, 6, 7, 8, 34]
noncomputable def i_LocksOkL0 (N : Nat) (p : List D) : List D → Out := loopOf Tryz.prog i_LocksOkT N i_LocksOkK Tryz.f163 rb [⟨sd (.sl 138), p⟩] 0
/- x0=t0(sd (.sl 138)) x1=t2(.one (.c (.kb false))) x2=t5(sd (.sl 138)) x3=t6(ri) x4=t7(ri) -/
theorem i_LocksOkR0 (N : Nat) (p : List D) (x0 x1 x2 x3 x4 : D) : (i_LocksOkL0 N p) [x0, x1, x2, x3, x4] =
  bif ltI x4.int x3.int then nd (inRange x4.int x2.rows.length) (bif !(inB (gd (x2.rows.getD x4.int.toNat []) 0).int 1 60) then ob false
  else bif !(rangeOk [(gd (x2.rows.getD x4.int.toNat []) 1), (gd (x2.rows.getD x4.int.toNat []) 2)]) then ob false
  else bif !(i_isModeF [(gd (x2.rows.getD x4.int.toNat []) 3)]) then ob false
  else nd (leI 0 0 && leI 0 x4.int && leI x4.int (x0.rows.length : Int)) (bif anyS (fun r => ixfLOC (.l [[.l [sub (x2.rows.getD x4.int.toNat []) 0 4]]]) (sub r 0 4)) (.l (x0.rows.take x4.int.toNat)) then ob false
  else nx [x0, x1, x2, x3, .i (w64 (x4.int + 1))]))
  else ex 0 [x0, x1, x2, x3, x4] := by kernel_rfl
theorem i_LocksOk_ev (N : Nat) (p : List D) : evFn Tryz.prog i_LocksOkT N i_LocksOkK Tryz.f163 rb [⟨sd (.sl 138), p⟩] = some (bo,
  (let o0 := iter (i_LocksOkL0 N p) N [gd p 0, .i 0, gd p 0, .i ((gd p 0).rows.length : Int), .i 0]
   nd o0.isSome (bif o0.code == 1 then some (1, o0.pay)
   else nd (o0.code == 2) (ob (leI ((gd o0.pay 0).rows.length : Int) 40))))) := by kernel_rfl
def lockAt (z : D) (k : Nat) : Bool := inB (gd (z.rows.getD k []) 0).int 1 60 && (rangeOk [gd (z.rows.getD k []) 1, gd (z.rows.getD k []) 2] && (i_isModeF [gd (z.rows.getD k []) 3] && !(List.range k).any fun j => i_clashF (z.rows.getD k []) (z.rows.getD j [])))
def locksOk (z : D) : Bool := (List.range z.rows.length).all (lockAt z) && leI (z.rows.length : Int) 40
def i_LocksOkE : Ent := (163, e1 (sd (.sl 138)) fun p => (⟨rb, [.b (locksOk (gd p 0))]⟩, true))
theorem i_LocksOk_ok : EntOk Tryz.prog i_LocksOkE := e1_ok fun p h => evFn_sound (N := (gd p 0).rows.length + 1) (ks := i_LocksOkK) (key := bo) i_LocksOkT_ok (enters Tryz.func163 (by kernel_rfl) (by kernel_rfl)) Tryz.func163 fun hw => by
  rw [i_LocksOk_ev]
  have hl := wt_sl (hw ⟨sd (.sl 138), p⟩ (by simp))
  have e := for_loop (L := i_LocksOkL0 ((gd p 0).rows.length + 1) p) (fun k => [gd p 0, .i 0, gd p 0, .i ((gd p 0).rows.length : Int), .i (k : Int)]) (gd p 0).rows.length (lockAt (gd p 0)) [.b false] 0 (fun k hk => ?_) ?_ (N := (gd p 0).rows.length + 1) (by omega)
  · simp only [Int.natCast_zero] at e
    rw [e]
    unfold locksOk
    cases (List.range (gd p 0).rows.length).all (lockAt (gd p 0)) <;> rfl
  · show i_LocksOkL0 _ p [_, _, _, _, .i (k : Int)] = _
    rw [i_LocksOkR0]
    simp only [int_i, c_lt hk, nd_ix hk, w64_succ hk hl, Int.toNat_natCast, nd_take (Nat.le_of_lt hk), anyS_take (Nat.le_of_lt hk), lockAt]
    rw [show ((List.range k).any fun j => ixfLOC (.l [[.l [sub ((gd p 0).rows.getD k []) 0 4]]]) (sub ((gd p 0).rows.getD j []) 0 4)) = (List.range k).any fun j => i_clashF ((gd p 0).rows.getD k []) ((gd p 0).rows.getD j []) from rfl]
    cases inB (gd ((gd p 0).rows.getD k []) 0).int 1 60 <;> cases rangeOk [gd ((gd p 0).rows.getD k []) 1, gd ((gd p 0).rows.getD k []) 2] <;> cases i_isModeF [gd ((gd p 0).rows.getD k []) 3] <;> cases (List.range k).any fun j => i_clashF ((gd p 0).rows.getD k []) ((gd p 0).rows.getD j []) <;> rfl
  · show i_LocksOkL0 _ p [_, _, _, .i ((gd p 0).rows.length : Int), .i ((gd p 0).rows.length : Int)] = _
    rw [i_LocksOkR0]
    simp only [int_i, c_nlt]

/-! loop.example/g00097/spec.LocksOk -/
abbrev s_LocksOkT : FuncId → List T → Option (T × Bool) := find [s_l12TxE, s_l12RangeE, s_RangeOkE, s_l12ModeE, s_l12ClashE]
theorem s_LocksOkT_ok : CallOk Tryz.prog s_LocksOkT := find_ok (List.forall_mem_cons.2 ⟨s_l12Tx_ok, List.forall_mem_cons.2 ⟨s_l12Range_ok, List.forall_mem_cons.2 ⟨s_RangeOk_ok, List.forall_mem_cons.2 ⟨s_l12Mode_ok, List.forall_mem_cons.2 ⟨s_l12Clash_ok, List.forall_mem_nil _⟩⟩⟩⟩⟩)
abbrev s_LocksOkK : List Nat := [0, 2, 3, 4, 7, 11, 38, 41, 52]
noncomputable def s_LocksOkL0 (N : Nat) (p : List D) : List D → Out := loopOf Tryz.prog s_LocksOkT N s_LocksOkK Tryz.f134 rb [⟨sd (.sl 138), p⟩] 0
noncomputable def s_LocksOkL2 (N : Nat) (p : List D) : List D → Out := loopOf Tryz.prog s_LocksOkT N s_LocksOkK Tryz.f134 rb [⟨sd (.sl 138), p⟩] 2
/- x0=t0(sd (.sl 138)) x1=t2(.one (.c (.kb false))) x2=t7(rb) x3=t3(ri) -/
theorem s_LocksOkR0 (N : Nat) (p : List D) (x0 x1 x2 x3 : D) : (s_LocksOkL0 N p) [x0, x1, x2, x3] =
  bif ltI x3.int (x0.rows.length : Int) then nd (inRange x3.int x0.rows.length) (bif !(inB (gd (x0.rows.getD x3.int.toNat []) 0).int 1 60) then ob false
  else nd (inRange x3.int x0.rows.length) (bif !(rangeOk [(gd (x0.rows.getD x3.int.toNat []) 1), (gd (x0.rows.getD x3.int.toNat []) 2)]) then ob false
  else nd (inRange x3.int x0.rows.length) (bif !(s_l12ModeF [(gd (x0.rows.getD x3.int.toNat []) 3)]) then ob false
  else (let o2 := iter (s_LocksOkL2 N p) N [x0, x1, x2, x3, .b (ltI x3.int (x0.rows.length : Int)), .b (!(s_l12ModeF [(gd (x0.rows.getD x3.int.toNat []) 3)])), .i 0]
   nd o2.isSome (bif o2.code == 1 then some (1, o2.pay)
   else nd (o2.code == 4) (nx [gd o2.pay 0, gd o2.pay 1, gd o2.pay 2, .i (w64 ((gd o2.pay 3).int + 1))]))))))
  else ex 0 [x0, x1, x2, x3] := by kernel_rfl
/- x0=t0(sd (.sl 138)) x1=t2(.one (.c (.kb false))) x2=t7(rb) x3=t3(ri) x4=t11(rb) x5=t38(rb) x6=t4(ri) -/
theorem s_LocksOkR2 (N : Nat) (p : List D) (x0 x1 x2 x3 x4 x5 x6 : D) : (s_LocksOkL2 N p) [x0, x1, x2, x3, x4, x5, x6] =
  bif ltI x6.int x3.int then nd (inRange x3.int x0.rows.length) (nd (inRange x6.int x0.rows.length) (bif clashS (sub (x0.rows.getD x3.int.toNat []) 0 4) (sub (x0.rows.getD x6.int.toNat []) 0 4) then ob false
  else nx [x0, x1, x2, x3, x4, x5, .i (w64 (x6.int + 1))]))
  else ex 2 [x0, x1, x2, x3, x4, x5, x6] := by kernel_rfl
theorem s_LocksOk_ev (N : Nat) (p : List D) : evFn Tryz.prog s_LocksOkT N s_LocksOkK Tryz.f134 rb [⟨sd (.sl 138), p⟩] = some (bo,
  bif ltI 40 ((gd p 0).rows.length : Int) then ob false
  else (let o0 := iter (s_LocksOkL0 N p) N [gd p 0, .i 0, .b (ltI 40 ((gd p 0).rows.length : Int)), .i 0]
   nd o0.isSome (bif o0.code == 1 then some (1, o0.pay)
   else nd (o0.code == 2) (ob true)))) := by kernel_rfl
def lockAtS (z : D) (k : Nat) : Bool := inB (gd (z.rows.getD k []) 0).int 1 60 && (rangeOk [gd (z.rows.getD k []) 1, gd (z.rows.getD k []) 2] && (i_isModeF [gd (z.rows.getD k []) 3] && (List.range k).all fun j => !clashS (z.rows.getD k []) (z.rows.getD j [])))
theorem locks_same (z : D) (n : Nat) : (List.range n).all (lockAtS z) = (List.range n).all (lockAt z) := by
  rw [Bool.eq_iff_iff]
  simp only [List.all_eq_true, List.mem_range]
  have hr : ∀ {k}, (lockAtS z k = true ∨ lockAt z k = true) → rangeOk [gd (z.rows.getD k []) 1, gd (z.rows.getD k []) 2] = true := fun h => by
    rcases h with h | h
    · simp only [lockAtS, Bool.and_eq_true] at h; exact h.2.1
    · simp only [lockAt, Bool.and_eq_true] at h; exact h.2.1
  constructor
  · intro h k hk
    have a := h k hk
    have ra := hr (.inl a)
    simp only [lockAtS, Bool.and_eq_true, List.all_eq_true, List.mem_range, Bool.not_eq_true'] at a
    simp only [lockAt, Bool.and_eq_true, Bool.not_eq_true', List.any_eq_false, List.mem_range, Bool.not_eq_true]
    refine ⟨a.1, a.2.1, a.2.2.1, fun j hj => ?_⟩
    rw [← clashS_of ra (hr (.inl (h j (by omega))))]
    exact a.2.2.2 j hj
  · intro h k hk
    have a := h k hk
    have ra := hr (.inr a)
    simp only [lockAt, Bool.and_eq_true, Bool.not_eq_true', List.any_eq_false, List.mem_range, Bool.not_eq_true] at a
    simp only [lockAtS, Bool.and_eq_true, List.all_eq_true, List.mem_range, Bool.not_eq_true']
    refine ⟨a.1, a.2.1, a.2.2.1, fun j hj => ?_⟩
    rw [clashS_of ra (hr (.inr (h j (by omega))))]
    exact a.2.2.2 j hj
def s_LocksOkE : Ent := (134, e1 (sd (.sl 138)) fun p => (⟨rb, [.b (locksOk (gd p 0))]⟩, true))
theorem s_LocksOk_ok : EntOk Tryz.prog s_LocksOkE := e1_ok fun p h => evFn_sound (N := (gd p 0).rows.length + 1) (ks := s_LocksOkK) (key := bo) s_LocksOkT_ok (enters Tryz.func134 (by kernel_rfl) (by kernel_rfl)) Tryz.func134 fun hw => by
  rw [s_LocksOk_ev]
  have hl := wt_sl (hw ⟨sd (.sl 138), p⟩ (by simp))
  unfold locksOk
  rw [← locks_same]
  by_cases hb : (gd p 0).rows.length ≤ 40
  · rw [ltI_f (show ((gd p 0).rows.length : Int) ≤ 40 from by omega), leI_t (show ((gd p 0).rows.length : Int) ≤ 40 from by omega), cond_false]
    have e := for_loop (L := s_LocksOkL0 ((gd p 0).rows.length + 1) p) (fun k => [gd p 0, .i 0, .b false, .i (k : Int)]) (gd p 0).rows.length (lockAtS (gd p 0)) [.b false] 0 (fun k hk => ?_) ?_ (N := (gd p 0).rows.length + 1) (by omega)
    · simp only [Int.natCast_zero] at e
      rw [e]
      cases (List.range (gd p 0).rows.length).all (lockAtS (gd p 0)) <;> rfl
    · show s_LocksOkL0 _ p [_, _, _, .i (k : Int)] = _
      rw [s_LocksOkR0]
      simp only [int_i, ltI_nat hk, cond_true, nd_ix hk, Int.toNat_natCast, lockAtS, show s_l12ModeF [gd ((gd p 0).rows.getD k []) 3] = i_isModeF [gd ((gd p 0).rows.getD k []) 3] from rfl]
      cases inB (gd ((gd p 0).rows.getD k []) 0).int 1 60
      · rfl
      cases rangeOk [gd ((gd p 0).rows.getD k []) 1, gd ((gd p 0).rows.getD k []) 2]
      · rfl
      cases i_isModeF [gd ((gd p 0).rows.getD k []) 3]
      · rfl
      have e2 := for_loop (L := s_LocksOkL2 ((gd p 0).rows.length + 1) p) (fun j => [gd p 0, .i 0, .b false, .i (k : Int), .b true, .b false, .i (j : Int)]) k (fun j => !clashS ((gd p 0).rows.getD k []) ((gd p 0).rows.getD j [])) [.b false] 2 (fun j hj => ?_) ?_ (N := (gd p 0).rows.length + 1) (by omega)
      · simp only [Int.natCast_zero] at e2
        simp only [Bool.not_true, cond_false, e2, Bool.true_and]
        cases (List.range k).all fun j => !clashS ((gd p 0).rows.getD k []) ((gd p 0).rows.getD j [])
        · rfl
        · simp only [nd, cond_true, cond_false, Option.isSome_some, Out.code, Out.pay, Option.getD_some, gd_cons_zero, gd_cons_succ, Nat.reduceBEq, Nat.reduceAdd, int_i, bool_b, str_s, rows_l, Bool.not_true, Bool.not_false, beq_self_eq_true, w64_succ hk hl]
      · show s_LocksOkL2 _ p [_, _, _, .i (k : Int), _, _, .i (j : Int)] = _
        rw [s_LocksOkR2]
        simp only [int_i, c_lt hj, nd_ix hk, nd_ix (Nat.lt_trans hj hk), w64_succ hj (show k ≤ 9223372036854775807 from by omega), Int.toNat_natCast]
        rw [show clashS (sub ((gd p 0).rows.getD k []) 0 4) (sub ((gd p 0).rows.getD j []) 0 4) = clashS ((gd p 0).rows.getD k []) ((gd p 0).rows.getD j []) from rfl]
        cases clashS ((gd p 0).rows.getD k []) ((gd p 0).rows.getD j []) <;> rfl
      · show s_LocksOkL2 _ p [_, _, _, .i (k : Int), _, _, .i (k : Int)] = _
        rw [s_LocksOkR2]
        simp only [int_i, c_nlt]
    · show s_LocksOkL0 _ p [_, _, _, .i ((gd p 0).rows.length : Int)] = _
      rw [s_LocksOkR0]
      simp only [int_i, c_nlt]
  · rw [ltI_t (show (40 : Int) < ((gd p 0).rows.length : Int) from by omega), leI_f (show (40 : Int) < ((gd p 0).rows.length : Int) from by omega), Bool.and_false]
    rfl

/-! loop.example/g00097/impl.haveAll -/
abbrev i_haveAllT : FuncId → List T → Option (T × Bool) := find []
theorem i_haveAllT_ok : CallOk Tryz.prog i_haveAllT := find_ok (List.forall_mem_nil _)
abbrev i_haveAllK : List Nat := [0, 1, 3, 4, 5, 7, 10, 11, 12, 13, 25]
noncomputable def i_haveAllL0 (N : Nat) (p q : List D) : List D → Out := loopOf Tryz.prog i_haveAllT N i_haveAllK Tryz.f88 rb [⟨sd (.sl 122), p⟩, ⟨ag rIRange, q⟩] 0
/- x0=t0(sd (.sl 122)) x1=t1(.one (.agg [.d si, .d si])) x3=t3(.one (.c (.ptr 3 0))) x4=t4(.one (.c (.kb false))) x5=t5(ri) x6=t10(sd (.sl 122)) x7=t11(ri) x8=t12(ri) x9=box3[.d si, .d si] -/
theorem i_haveAllR0 (N : Nat) (p q : List D) (x0 x1 x2 x3 x4 x5 x6 x7 x8 x9 x10 : D) : (i_haveAllL0 N p q) [x0, x1, x2, x3, x4, x5, x6, x7, x8, x9, x10] =
  bif ltI x8.int x7.int then nd (inRange x8.int x6.rows.length) (bif leI (gd (x6.rows.getD x8.int.toNat []) 0).int x5.int then bif ltI x5.int (gd (x6.rows.getD x8.int.toNat []) 1).int then nx [x0, x1, x2, x3, x4, gd (x6.rows.getD x8.int.toNat []) 1, x6, x7, .i (w64 (x8.int + 1)), x9, x10]
  else nx [x0, x1, x2, x3, x4, x5, x6, x7, .i (w64 (x8.int + 1)), x9, x10]
  else nx [x0, x1, x2, x3, x4, x5, x6, x7, .i (w64 (x8.int + 1)), x9, x10])
  else ex 0 [x0, x1, x2, x3, x4, x5, x6, x7, x8, x9, x10] := by kernel_rfl
theorem i_haveAll_ev (N : Nat) (p q : List D) : evFn Tryz.prog i_haveAllT N i_haveAllK Tryz.f88 rb [⟨sd (.sl 122), p⟩, ⟨ag rIRange, q⟩] = some (bo,
  (let o0 := iter (i_haveAllL0 N p q) N [gd p 0, gd q 0, gd q 1, .i 0, .i 0, gd q 0, gd p 0, .i ((gd p 0).rows.length : Int), .i 0, gd q 0, gd q 1]
   nd o0.isSome (nd (o0.code == 2) (ob (leI (gd o0.pay 10).int (gd o0.pay 5).int))))) := by kernel_rfl
def haveD (z : D) (a : D) : Nat → D
  | 0 => a
  | k + 1 => bif leI (gd (z.rows.getD k []) 0).int (haveD z a k).int && ltI (haveD z a k).int (gd (z.rows.getD k []) 1).int then gd (z.rows.getD k []) 1 else haveD z a k
def haveAll (z : D) (q : List D) : Bool := leI (gd q 1).int (haveD z (gd q 0) z.rows.length).int
theorem run_loop {L : List D → Out} (st : Nat → List D) (n : Nat) (j : Nat) (h1 : ∀ k, k < n → L (st k) = some (0, st (k + 1))) (h2 : L (st n) = some (j + 2, st n)) {N : Nat} (hN : n < N) :
    iter L N (st 0) = some (j + 2, st n) := by
  have e := for_loop (L := L) st n (fun _ => true) [] j (fun k hk => h1 k hk) h2 hN
  rw [e, show (List.range n).all (fun _ => true) = true from by simp]; rfl
def i_haveAllE : Ent := (88, e2 (sd (.sl 122)) (ag rIRange) fun p q => (⟨rb, [.b (haveAll (gd p 0) q)]⟩, true))
theorem i_haveAll_ok : EntOk Tryz.prog i_haveAllE := e2_ok fun p q h => evFn_sound (N := (gd p 0).rows.length + 1) (ks := i_haveAllK) (key := bo) i_haveAllT_ok (enters Tryz.func88 (by kernel_rfl) (by kernel_rfl)) Tryz.func88 fun hw => by
  rw [i_haveAll_ev]
  have hl := wt_sl (hw ⟨sd (.sl 122), p⟩ (by simp))
  have e := run_loop (L := i_haveAllL0 ((gd p 0).rows.length + 1) p q) (fun k => [gd p 0, gd q 0, gd q 1, .i 0, .i 0, haveD (gd p 0) (gd q 0) k, gd p 0, .i ((gd p 0).rows.length : Int), .i (k : Int), gd q 0, gd q 1]) (gd p 0).rows.length 0 (fun k hk => ?_) ?_ (N := (gd p 0).rows.length + 1) (by omega)
  · simp only [Int.natCast_zero] at e
    rw [show haveD (gd p 0) (gd q 0) 0 = gd q 0 from rfl] at e
    rw [e]
    rfl
  · show i_haveAllL0 _ p q [_, _, _, _, _, _, _, _, .i (k : Int), _, _] = _
    rw [i_haveAllR0]
    simp only [int_i, c_lt hk, nd_ix hk, w64_succ hk hl, Int.toNat_natCast, haveD]
    cases leI (gd ((gd p 0).rows.getD k []) 0).int (haveD (gd p 0) (gd q 0) k).int <;> cases ltI (haveD (gd p 0) (gd q 0) k).int (gd ((gd p 0).rows.getD k []) 1).int <;> rfl
  · show i_haveAllL0 _ p q [_, _, _, _, _, _, _, .i ((gd p 0).rows.length : Int), .i ((gd p 0).rows.length : Int), _, _] = _
    rw [i_haveAllR0]
    simp only [int_i, c_nlt]

/-! loop.example/g00097/spec.RangesHave -/
abbrev s_RangesHaveT : FuncId → List T → Option (T × Bool) := find [s_RangesOkE, s_RangeOkE]
theorem s_RangesHaveT_ok : CallOk Tryz.prog s_RangesHaveT := find_ok (List.forall_mem_cons.2 ⟨s_RangesOk_ok, List.forall_mem_cons.2 ⟨s_RangeOk_ok, List.forall_mem_nil _⟩⟩)
abbrev s_RangesHaveK : List Nat := [0, 1, 3, 4, 5, 6, 14, 20, 38]
noncomputable def s_RangesHaveL0 (N : Nat) (p q : List D) : List D → Out := loopOf Tryz.prog s_RangesHaveT N s_RangesHaveK Tryz.f83 rb [⟨sd (.sl 122), p⟩, ⟨ag rIRange, q⟩] 0
/- x0=t0(sd (.sl 122)) x1=t1(.one (.agg [.d si, .d si])) x3=t3(.one (.c (.ptr 3 0))) x4=t4(.one (.c (.kb false))) x5=t14(rb) x6=t5(ri) x7=t6(ri) x8=box3[.d si, .d si] -/
theorem s_RangesHaveR0 (N : Nat) (p q : List D) (x0 x1 x2 x3 x4 x5 x6 x7 x8 x9 : D) : (s_RangesHaveL0 N p q) [x0, x1, x2, x3, x4, x5, x6, x7, x8, x9] =
  bif ltI x7.int (x0.rows.length : Int) then nd (inRange x7.int x0.rows.length) (bif leI (gd (x0.rows.getD x7.int.toNat []) 0).int x6.int then nd (inRange x7.int x0.rows.length) (bif ltI x6.int (gd (x0.rows.getD x7.int.toNat []) 1).int then nd (inRange x7.int x0.rows.length) (nx [x0, x1, x2, x3, x4, x5, gd (x0.rows.getD x7.int.toNat []) 1, .i (w64 (x7.int + 1)), x8, x9])
  else nx [x0, x1, x2, x3, x4, x5, x6, .i (w64 (x7.int + 1)), x8, x9])
  else nx [x0, x1, x2, x3, x4, x5, x6, .i (w64 (x7.int + 1)), x8, x9])
  else ex 0 [x0, x1, x2, x3, x4, x5, x6, x7, x8, x9] := by kernel_rfl
theorem s_RangesHave_ev (N : Nat) (p q : List D) : evFn Tryz.prog s_RangesHaveT N s_RangesHaveK Tryz.f83 rb [⟨sd (.sl 122), p⟩, ⟨ag rIRange, q⟩] = some (bo,
  bif !(rangesOk (gd p 0)) then ob false
  else bif !(rangeOk (sub q 0 2)) then ob false
  else (let o0 := iter (s_RangesHaveL0 N p q) N [gd p 0, gd q 0, gd q 1, .i 0, .i 0, .b (!(rangeOk (sub q 0 2))), gd q 0, .i 0, gd q 0, gd q 1]
   nd o0.isSome (nd (o0.code == 2) (ob (leI (gd o0.pay 9).int (gd o0.pay 6).int))))) := by kernel_rfl
def rangesHave (z : D) (q : List D) : Bool := rangesOk z && (rangeOk q && haveAll z q)
def s_RangesHaveE : Ent := (83, e2 (sd (.sl 122)) (ag rIRange) fun p q => (⟨rb, [.b (rangesHave (gd p 0) q)]⟩, true))
theorem s_RangesHave_ok : EntOk Tryz.prog s_RangesHaveE := e2_ok fun p q h => evFn_sound (N := (gd p 0).rows.length + 1) (ks := s_RangesHaveK) (key := bo) s_RangesHaveT_ok (enters Tryz.func83 (by kernel_rfl) (by kernel_rfl)) Tryz.func83 fun hw => by
  rw [s_RangesHave_ev]
  have hl := wt_sl (hw ⟨sd (.sl 122), p⟩ (by simp))
  unfold rangesHave
  rw [show rangeOk (sub q 0 2) = rangeOk q from rfl]
  cases rangesOk (gd p 0)
  · rfl
  cases rangeOk q
  · rfl
  have e := run_loop (L := s_RangesHaveL0 ((gd p 0).rows.length + 1) p q) (fun k => [gd p 0, gd q 0, gd q 1, .i 0, .i 0, .b false, haveD (gd p 0) (gd q 0) k, .i (k : Int), gd q 0, gd q 1]) (gd p 0).rows.length 0 (fun k hk => ?_) ?_ (N := (gd p 0).rows.length + 1) (by omega)
  · simp only [Int.natCast_zero] at e
    rw [show haveD (gd p 0) (gd q 0) 0 = gd q 0 from rfl] at e
    simp only [Bool.not_true, cond_false, e]
    rfl
  · show s_RangesHaveL0 _ p q [_, _, _, _, _, _, _, .i (k : Int), _, _] = _
    rw [s_RangesHaveR0]
    simp only [int_i, c_lt hk, nd_ix hk, w64_succ hk hl, Int.toNat_natCast, haveD]
    cases leI (gd ((gd p 0).rows.getD k []) 0).int (haveD (gd p 0) (gd q 0) k).int <;> cases ltI (haveD (gd p 0) (gd q 0) k).int (gd ((gd p 0).rows.getD k []) 1).int <;> rfl
  · show s_RangesHaveL0 _ p q [_, _, _, _, _, _, _, .i ((gd p 0).rows.length : Int), _, _] = _
    rw [s_RangesHaveR0]
    simp only [int_i, c_nlt]

end Go.Proofs.YtchceahcaaibcaaGreat
