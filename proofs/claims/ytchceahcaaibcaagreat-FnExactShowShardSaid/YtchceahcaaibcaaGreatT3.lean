/-
  The town: parts, ranges, cells, locks. Printed by sym.py.
-/
import Derived.Test.YtchceahcaaibcaaGreatT2
namespace Go.Proofs.YtchceahcaaibcaaGreat
set_option linter.unusedSimpArgs false
set_option linter.unusedVariables false
set_option maxRecDepth 4096
/-! loop.example/g00097/impl.RangesOk -/
abbrev i_RangesOkT : FuncId → List T → Option (T × Bool) := find [i_RangeOkE]
theorem i_RangesOkT_ok : CallOk Tryz.prog i_RangesOkT := find_ok (List.forall_mem_cons.2 ⟨i_RangeOk_ok, List.forall_mem_nil _⟩)
abbrev i_RangesOkK : List Nat := [0, 2, 3, 4, 5, 6, 7, 8, 29]
noncomputable def i_RangesOkL0 (N : Nat) (p : List D) : List D → Out := loopOf Tryz.prog i_RangesOkT N i_RangesOkK Tryz.f161 rb [⟨sd (.sl 122), p⟩] 0
/- x0=t0(sd (.sl 122)) x1=t2(.one (.c (.kb false))) x2=t5(sd (.sl 122)) x3=t6(ri) x4=t7(ri) -/
theorem i_RangesOkR0 (N : Nat) (p : List D) (x0 x1 x2 x3 x4 : D) : (i_RangesOkL0 N p) [x0, x1, x2, x3, x4] =
  bif ltI x4.int x3.int then nd (inRange x4.int x2.rows.length) (bif !(rangeOk (sub (x2.rows.getD x4.int.toNat []) 0 2)) then ob false
  else bif ltI 0 x4.int then nd (inRange (w64 (x4.int - 1)) x0.rows.length) (bif ltI (gd (x2.rows.getD x4.int.toNat []) 0).int (gd (x0.rows.getD (w64 (x4.int - 1)).toNat []) 1).int then ob false
  else nx [x0, x1, x2, x3, .i (w64 (x4.int + 1))])
  else nx [x0, x1, x2, x3, .i (w64 (x4.int + 1))])
  else ex 0 [x0, x1, x2, x3, x4] := by kernel_rfl
theorem i_RangesOk_ev (N : Nat) (p : List D) : evFn Tryz.prog i_RangesOkT N i_RangesOkK Tryz.f161 rb [⟨sd (.sl 122), p⟩] = some (bo,
  (let o0 := iter (i_RangesOkL0 N p) N [gd p 0, .i 0, gd p 0, .i ((gd p 0).rows.length : Int), .i 0]
   nd o0.isSome (bif o0.code == 1 then some (1, o0.pay)
   else nd (o0.code == 2) (ob (leI ((gd o0.pay 0).rows.length : Int) 16))))) := by kernel_rfl
def rangesAt (z : D) : Nat → Bool
  | 0 => rangeOk (sub (z.rows.getD 0 []) 0 2)
  | k + 1 => rangeOk (sub (z.rows.getD (k + 1) []) 0 2) && !ltI (gd (z.rows.getD (k + 1) []) 0).int (gd (z.rows.getD k []) 1).int
def rangesOk (z : D) : Bool := (List.range z.rows.length).all (rangesAt z) && leI (z.rows.length : Int) 16
def i_RangesOkE : Ent := (161, e1 (sd (.sl 122)) fun p => (⟨rb, [.b (rangesOk (gd p 0))]⟩, true))
theorem i_RangesOk_ok : EntOk Tryz.prog i_RangesOkE := e1_ok fun p h => evFn_sound (N := (gd p 0).rows.length + 1) (ks := i_RangesOkK) (key := bo) i_RangesOkT_ok (enters Tryz.func161 (by kernel_rfl) (by kernel_rfl)) Tryz.func161 fun hw => by
  rw [i_RangesOk_ev]
  have hl := wt_sl (hw ⟨sd (.sl 122), p⟩ (by simp))
  have e := for_loop (L := i_RangesOkL0 ((gd p 0).rows.length + 1) p) (fun k => [(gd p 0), .i 0, (gd p 0), .i ((gd p 0).rows.length : Int), .i (k : Int)]) (gd p 0).rows.length (rangesAt (gd p 0)) [.b false] 0 (fun k hk => ?_) ?_ (N := ((gd p 0).rows.length + 1)) (by omega)
  · simp only [Int.natCast_zero] at e
    rw [e]
    unfold rangesOk
    cases (List.range (gd p 0).rows.length).all (rangesAt (gd p 0)) <;> rfl
  · cases k with
    | zero =>
      show i_RangesOkL0 _ p [_, _, _, _, .i ((0 : Nat) : Int)] = _
      rw [i_RangesOkR0]
      simp only [int_i, c_lt hk, nd_ix hk, w64_succ hk hl, Int.toNat_natCast, bne_not, ltI_00, rangesAt]
      cases rangeOk (sub ((gd p 0).rows.getD 0 []) 0 2) <;> rfl
    | succ k =>
      show i_RangesOkL0 _ p [_, _, _, _, .i ((k + 1 : Nat) : Int)] = _
      rw [i_RangesOkR0]
      simp only [int_i, c_lt hk, nd_ix hk, w64_succ hk hl, Int.toNat_natCast, bne_not, ltI_0s, w64_pred (show k + 1 ≤ 9223372036854775807 from by omega), nd_ix (Nat.lt_of_succ_lt hk), rangesAt]
      cases rangeOk (sub ((gd p 0).rows.getD (k + 1) []) 0 2) <;> cases ltI (gd ((gd p 0).rows.getD (k + 1) []) 0).int (gd ((gd p 0).rows.getD k []) 1).int <;> rfl
  · show i_RangesOkL0 _ p [_, _, _, .i ((gd p 0).rows.length : Int), .i ((gd p 0).rows.length : Int)] = _
    rw [i_RangesOkR0]
    simp only [int_i, c_nlt]

/-! loop.example/g00097/spec.RangesOk -/
abbrev s_RangesOkT : FuncId → List T → Option (T × Bool) := find [s_RangeOkE]
theorem s_RangesOkT_ok : CallOk Tryz.prog s_RangesOkT := find_ok (List.forall_mem_cons.2 ⟨s_RangeOk_ok, List.forall_mem_nil _⟩)
abbrev s_RangesOkK : List Nat := [0, 2, 3, 6, 10, 36]
noncomputable def s_RangesOkL0 (N : Nat) (p : List D) : List D → Out := loopOf Tryz.prog s_RangesOkT N s_RangesOkK Tryz.f133 rb [⟨sd (.sl 122), p⟩] 0
/- x0=t0(sd (.sl 122)) x1=t2(.one (.c (.kb false))) x2=t6(rb) x3=t3(ri) -/
theorem s_RangesOkR0 (N : Nat) (p : List D) (x0 x1 x2 x3 : D) : (s_RangesOkL0 N p) [x0, x1, x2, x3] =
  bif ltI x3.int (x0.rows.length : Int) then nd (inRange x3.int x0.rows.length) (bif !(rangeOk (sub (x0.rows.getD x3.int.toNat []) 0 2)) then ob false
  else bif ltI 0 x3.int then nd (inRange x3.int x0.rows.length) (nd (inRange (w64 (x3.int - 1)) x0.rows.length) (bif ltI (gd (x0.rows.getD x3.int.toNat []) 0).int (gd (x0.rows.getD (w64 (x3.int - 1)).toNat []) 1).int then ob false
  else nx [x0, x1, x2, .i (w64 (x3.int + 1))]))
  else nx [x0, x1, x2, .i (w64 (x3.int + 1))])
  else ex 0 [x0, x1, x2, x3] := by kernel_rfl
theorem s_RangesOk_ev (N : Nat) (p : List D) : evFn Tryz.prog s_RangesOkT N s_RangesOkK Tryz.f133 rb [⟨sd (.sl 122), p⟩] = some (bo,
  bif ltI 16 ((gd p 0).rows.length : Int) then ob false
  else (let o0 := iter (s_RangesOkL0 N p) N [gd p 0, .i 0, .b (ltI 16 ((gd p 0).rows.length : Int)), .i 0]
   nd o0.isSome (bif o0.code == 1 then some (1, o0.pay)
   else nd (o0.code == 2) (ob true)))) := by kernel_rfl
def s_RangesOkE : Ent := (133, e1 (sd (.sl 122)) fun p => (⟨rb, [.b (rangesOk (gd p 0))]⟩, true))
theorem s_RangesOk_ok : EntOk Tryz.prog s_RangesOkE := e1_ok fun p h => evFn_sound (N := (gd p 0).rows.length + 1) (ks := s_RangesOkK) (key := bo) s_RangesOkT_ok (enters Tryz.func133 (by kernel_rfl) (by kernel_rfl)) Tryz.func133 fun hw => by
  rw [s_RangesOk_ev]
  have hl := wt_sl (hw ⟨sd (.sl 122), p⟩ (by simp))
  unfold rangesOk
  by_cases hb : (gd p 0).rows.length ≤ 16
  · rw [ltI_f (show ((gd p 0).rows.length : Int) ≤ 16 from by omega), leI_t (show ((gd p 0).rows.length : Int) ≤ 16 from by omega), cond_false]
    have e := for_loop (L := s_RangesOkL0 ((gd p 0).rows.length + 1) p) (fun k => [(gd p 0), .i 0, .b false, .i (k : Int)]) (gd p 0).rows.length (rangesAt (gd p 0)) [.b false] 0 (fun k hk => ?_) ?_ (N := ((gd p 0).rows.length + 1)) (by omega)
    · simp only [Int.natCast_zero] at e
      rw [e]
      cases (List.range (gd p 0).rows.length).all (rangesAt (gd p 0)) <;> rfl
    · cases k with
      | zero =>
        show s_RangesOkL0 _ p [_, _, _, .i ((0 : Nat) : Int)] = _
        rw [s_RangesOkR0]
        simp only [int_i, c_lt hk, nd_ix hk, w64_succ hk hl, Int.toNat_natCast, bne_not, ltI_00, rangesAt]
        cases rangeOk (sub ((gd p 0).rows.getD 0 []) 0 2) <;> rfl
      | succ k =>
        show s_RangesOkL0 _ p [_, _, _, .i ((k + 1 : Nat) : Int)] = _
        rw [s_RangesOkR0]
        simp only [int_i, c_lt hk, nd_ix hk, w64_succ hk hl, Int.toNat_natCast, bne_not, ltI_0s, w64_pred (show k + 1 ≤ 9223372036854775807 from by omega), nd_ix (Nat.lt_of_succ_lt hk), rangesAt]
        cases rangeOk (sub ((gd p 0).rows.getD (k + 1) []) 0 2) <;> cases ltI (gd ((gd p 0).rows.getD (k + 1) []) 0).int (gd ((gd p 0).rows.getD k []) 1).int <;> rfl
    · show s_RangesOkL0 _ p [_, _, _, .i ((gd p 0).rows.length : Int)] = _
      rw [s_RangesOkR0]
      simp only [int_i, c_nlt]
  · rw [ltI_t (show (16 : Int) < ((gd p 0).rows.length : Int) from by omega), leI_f (show (16 : Int) < ((gd p 0).rows.length : Int) from by omega), Bool.and_false]
    rfl

/-! loop.example/g00097/impl.StoreOk -/
abbrev i_StoreOkT : FuncId → List T → Option (T × Bool) := find [i_isKeyE, i_isWholeE]
theorem i_StoreOkT_ok : CallOk Tryz.prog i_StoreOkT := find_ok (List.forall_mem_cons.2 ⟨i_isKey_ok, List.forall_mem_cons.2 ⟨i_isWhole_ok, List.forall_mem_nil _⟩⟩)
abbrev i_StoreOkK : List Nat := [0, 2, 3, 4, 5, 6, 7, 8, 36]
noncomputable def i_StoreOkL0 (N : Nat) (p : List D) : List D → Out := loopOf Tryz.prog i_StoreOkT N i_StoreOkK Tryz.f162 rb [⟨sd (.sl 176), p⟩] 0
/- x0=t0(sd (.sl 176)) x1=t2(.one (.c (.kb false))) x2=t5(sd (.sl 176)) x3=t6(ri) x4=t7(ri) -/
theorem i_StoreOkR0 (N : Nat) (p : List D) (x0 x1 x2 x3 x4 : D) : (i_StoreOkL0 N p) [x0, x1, x2, x3, x4] =
  bif ltI x4.int x3.int then nd (inRange x4.int x2.rows.length) (bif !(inB (gd (x2.rows.getD x4.int.toNat []) 0).int (0) (999)) then ob false
  else bif !(inB (gd (x2.rows.getD x4.int.toNat []) 1).int (0) (1000000000)) then ob false
  else bif ltI 0 x4.int then nd (inRange (w64 (x4.int - 1)) x0.rows.length) (bif leI (gd (x2.rows.getD x4.int.toNat []) 0).int (gd (x0.rows.getD (w64 (x4.int - 1)).toNat []) 0).int then ob false
  else nx [x0, x1, x2, x3, .i (w64 (x4.int + 1))])
  else nx [x0, x1, x2, x3, .i (w64 (x4.int + 1))])
  else ex 0 [x0, x1, x2, x3, x4] := by kernel_rfl
theorem i_StoreOk_ev (N : Nat) (p : List D) : evFn Tryz.prog i_StoreOkT N i_StoreOkK Tryz.f162 rb [⟨sd (.sl 176), p⟩] = some (bo,
  (let o0 := iter (i_StoreOkL0 N p) N [gd p 0, .i 0, gd p 0, .i ((gd p 0).rows.length : Int), .i 0]
   nd o0.isSome (bif o0.code == 1 then some (1, o0.pay)
   else nd (o0.code == 2) (ob (leI ((gd o0.pay 0).rows.length : Int) 60))))) := by kernel_rfl
def storeAt (z : D) : Nat → Bool
  | 0 => inB (gd (z.rows.getD 0 []) 0).int 0 999 && inB (gd (z.rows.getD 0 []) 1).int 0 1000000000
  | k + 1 => inB (gd (z.rows.getD (k + 1) []) 0).int 0 999 && (inB (gd (z.rows.getD (k + 1) []) 1).int 0 1000000000 && !leI (gd (z.rows.getD (k + 1) []) 0).int (gd (z.rows.getD k []) 0).int)
def storeOk (z : D) : Bool := (List.range z.rows.length).all (storeAt z) && leI (z.rows.length : Int) 60
def i_StoreOkE : Ent := (162, e1 (sd (.sl 176)) fun p => (⟨rb, [.b (storeOk (gd p 0))]⟩, true))
theorem i_StoreOk_ok : EntOk Tryz.prog i_StoreOkE := e1_ok fun p h => evFn_sound (N := (gd p 0).rows.length + 1) (ks := i_StoreOkK) (key := bo) i_StoreOkT_ok (enters Tryz.func162 (by kernel_rfl) (by kernel_rfl)) Tryz.func162 fun hw => by
  rw [i_StoreOk_ev]
  have hl := wt_sl (hw ⟨sd (.sl 176), p⟩ (by simp))
  have e := for_loop (L := i_StoreOkL0 ((gd p 0).rows.length + 1) p) (fun k => [(gd p 0), .i 0, (gd p 0), .i ((gd p 0).rows.length : Int), .i (k : Int)]) (gd p 0).rows.length (storeAt (gd p 0)) [.b false] 0 (fun k hk => ?_) ?_ (N := ((gd p 0).rows.length + 1)) (by omega)
  · simp only [Int.natCast_zero] at e
    rw [e]
    unfold storeOk
    cases (List.range (gd p 0).rows.length).all (storeAt (gd p 0)) <;> rfl
  · cases k with
    | zero =>
      show i_StoreOkL0 _ p [_, _, _, _, .i ((0 : Nat) : Int)] = _
      rw [i_StoreOkR0]
      simp only [int_i, c_lt hk, nd_ix hk, w64_succ hk hl, Int.toNat_natCast, bne_not, ltI_00, storeAt]
      cases inB (gd ((gd p 0).rows.getD 0 []) 0).int 0 999 <;> cases inB (gd ((gd p 0).rows.getD 0 []) 1).int 0 1000000000 <;> rfl
    | succ k =>
      show i_StoreOkL0 _ p [_, _, _, _, .i ((k + 1 : Nat) : Int)] = _
      rw [i_StoreOkR0]
      simp only [int_i, c_lt hk, nd_ix hk, w64_succ hk hl, Int.toNat_natCast, bne_not, ltI_0s, w64_pred (show k + 1 ≤ 9223372036854775807 from by omega), nd_ix (Nat.lt_of_succ_lt hk), storeAt]
      cases inB (gd ((gd p 0).rows.getD (k + 1) []) 0).int 0 999 <;> cases inB (gd ((gd p 0).rows.getD (k + 1) []) 1).int 0 1000000000 <;> cases leI (gd ((gd p 0).rows.getD (k + 1) []) 0).int (gd ((gd p 0).rows.getD k []) 0).int <;> rfl
  · show i_StoreOkL0 _ p [_, _, _, .i ((gd p 0).rows.length : Int), .i ((gd p 0).rows.length : Int)] = _
    rw [i_StoreOkR0]
    simp only [int_i, c_nlt]

/-! loop.example/g00097/spec.StoreOk -/
abbrev s_StoreOkT : FuncId → List T → Option (T × Bool) := find [s_l10KeyE, s_l1WholeE]
theorem s_StoreOkT_ok : CallOk Tryz.prog s_StoreOkT := find_ok (List.forall_mem_cons.2 ⟨s_l10Key_ok, List.forall_mem_cons.2 ⟨s_l1Whole_ok, List.forall_mem_nil _⟩⟩)
abbrev s_StoreOkK : List Nat := [0, 2, 3, 6, 10, 46]
noncomputable def s_StoreOkL0 (N : Nat) (p : List D) : List D → Out := loopOf Tryz.prog s_StoreOkT N s_StoreOkK Tryz.f127 rb [⟨sd (.sl 176), p⟩] 0
/- x0=t0(sd (.sl 176)) x1=t2(.one (.c (.kb false))) x2=t6(rb) x3=t3(ri) -/
theorem s_StoreOkR0 (N : Nat) (p : List D) (x0 x1 x2 x3 : D) : (s_StoreOkL0 N p) [x0, x1, x2, x3] =
  bif ltI x3.int (x0.rows.length : Int) then nd (inRange x3.int x0.rows.length) (bif !(inB (gd (x0.rows.getD x3.int.toNat []) 0).int (0) (999)) then ob false
  else nd (inRange x3.int x0.rows.length) (bif !(inB (gd (x0.rows.getD x3.int.toNat []) 1).int (0) (1000000000)) then ob false
  else bif ltI 0 x3.int then nd (inRange (w64 (x3.int - 1)) x0.rows.length) (nd (inRange x3.int x0.rows.length) (bif leI (gd (x0.rows.getD x3.int.toNat []) 0).int (gd (x0.rows.getD (w64 (x3.int - 1)).toNat []) 0).int then ob false
  else nx [x0, x1, x2, .i (w64 (x3.int + 1))]))
  else nx [x0, x1, x2, .i (w64 (x3.int + 1))]))
  else ex 0 [x0, x1, x2, x3] := by kernel_rfl
theorem s_StoreOk_ev (N : Nat) (p : List D) : evFn Tryz.prog s_StoreOkT N s_StoreOkK Tryz.f127 rb [⟨sd (.sl 176), p⟩] = some (bo,
  bif ltI 60 ((gd p 0).rows.length : Int) then ob false
  else (let o0 := iter (s_StoreOkL0 N p) N [gd p 0, .i 0, .b (ltI 60 ((gd p 0).rows.length : Int)), .i 0]
   nd o0.isSome (bif o0.code == 1 then some (1, o0.pay)
   else nd (o0.code == 2) (ob true)))) := by kernel_rfl
def s_StoreOkE : Ent := (127, e1 (sd (.sl 176)) fun p => (⟨rb, [.b (storeOk (gd p 0))]⟩, true))
theorem s_StoreOk_ok : EntOk Tryz.prog s_StoreOkE := e1_ok fun p h => evFn_sound (N := (gd p 0).rows.length + 1) (ks := s_StoreOkK) (key := bo) s_StoreOkT_ok (enters Tryz.func127 (by kernel_rfl) (by kernel_rfl)) Tryz.func127 fun hw => by
  rw [s_StoreOk_ev]
  have hl := wt_sl (hw ⟨sd (.sl 176), p⟩ (by simp))
  unfold storeOk
  by_cases hb : (gd p 0).rows.length ≤ 60
  · rw [ltI_f (show ((gd p 0).rows.length : Int) ≤ 60 from by omega), leI_t (show ((gd p 0).rows.length : Int) ≤ 60 from by omega), cond_false]
    have e := for_loop (L := s_StoreOkL0 ((gd p 0).rows.length + 1) p) (fun k => [(gd p 0), .i 0, .b false, .i (k : Int)]) (gd p 0).rows.length (storeAt (gd p 0)) [.b false] 0 (fun k hk => ?_) ?_ (N := ((gd p 0).rows.length + 1)) (by omega)
    · simp only [Int.natCast_zero] at e
      rw [e]
      cases (List.range (gd p 0).rows.length).all (storeAt (gd p 0)) <;> rfl
    · cases k with
      | zero =>
        show s_StoreOkL0 _ p [_, _, _, .i ((0 : Nat) : Int)] = _
        rw [s_StoreOkR0]
        simp only [int_i, c_lt hk, nd_ix hk, w64_succ hk hl, Int.toNat_natCast, bne_not, ltI_00, storeAt]
        cases inB (gd ((gd p 0).rows.getD 0 []) 0).int 0 999 <;> cases inB (gd ((gd p 0).rows.getD 0 []) 1).int 0 1000000000 <;> rfl
      | succ k =>
        show s_StoreOkL0 _ p [_, _, _, .i ((k + 1 : Nat) : Int)] = _
        rw [s_StoreOkR0]
        simp only [int_i, c_lt hk, nd_ix hk, w64_succ hk hl, Int.toNat_natCast, bne_not, ltI_0s, w64_pred (show k + 1 ≤ 9223372036854775807 from by omega), nd_ix (Nat.lt_of_succ_lt hk), storeAt]
        cases inB (gd ((gd p 0).rows.getD (k + 1) []) 0).int 0 999 <;> cases inB (gd ((gd p 0).rows.getD (k + 1) []) 1).int 0 1000000000 <;> cases leI (gd ((gd p 0).rows.getD (k + 1) []) 0).int (gd ((gd p 0).rows.getD k []) 0).int <;> rfl
    · show s_StoreOkL0 _ p [_, _, _, .i ((gd p 0).rows.length : Int)] = _
      rw [s_StoreOkR0]
      simp only [int_i, c_nlt]
  · rw [ltI_t (show (60 : Int) < ((gd p 0).rows.length : Int) from by omega), leI_f (show (60 : Int) < ((gd p 0).rows.length : Int) from by omega), Bool.and_false]
    rfl

/-! loop.example/g00097/impl.ascending -/
abbrev i_ascendingT : FuncId → List T → Option (T × Bool) := find [i_isTxE]
theorem i_ascendingT_ok : CallOk Tryz.prog i_ascendingT := find_ok (List.forall_mem_cons.2 ⟨i_isTx_ok, List.forall_mem_nil _⟩)
abbrev i_ascendingK : List Nat := [0, 2, 3, 4, 5, 6, 7, 8, 27]
noncomputable def i_ascendingL0 (N : Nat) (p : List D) : List D → Out := loopOf Tryz.prog i_ascendingT N i_ascendingK Tryz.f165 rb [⟨sd (.sl 3), p⟩] 0
/- x0=t0(sd (.sl 3)) x1=t2(.one (.c (.kb false))) x2=t5(sd (.sl 3)) x3=t6(ri) x4=t7(ri) -/
theorem i_ascendingR0 (N : Nat) (p : List D) (x0 x1 x2 x3 x4 : D) : (i_ascendingL0 N p) [x0, x1, x2, x3, x4] =
  bif ltI x4.int x3.int then nd (inRange x4.int x2.rows.length) (bif !(inB (gd (x2.rows.getD x4.int.toNat []) 0).int 1 60) then ob false
  else bif ltI 0 x4.int then nd (inRange (w64 (x4.int - 1)) x0.rows.length) (bif leI (gd (x2.rows.getD x4.int.toNat []) 0).int (gd (x0.rows.getD (w64 (x4.int - 1)).toNat []) 0).int then ob false
  else nx [x0, x1, x2, x3, .i (w64 (x4.int + 1))])
  else nx [x0, x1, x2, x3, .i (w64 (x4.int + 1))])
  else ex 0 [x0, x1, x2, x3, x4] := by kernel_rfl
theorem i_ascending_ev (N : Nat) (p : List D) : evFn Tryz.prog i_ascendingT N i_ascendingK Tryz.f165 rb [⟨sd (.sl 3), p⟩] = some (bo,
  (let o0 := iter (i_ascendingL0 N p) N [gd p 0, .i 0, gd p 0, .i ((gd p 0).rows.length : Int), .i 0]
   nd o0.isSome (bif o0.code == 1 then some (1, o0.pay)
   else nd (o0.code == 2) (ob true)))) := by kernel_rfl
def ascAt (z : D) : Nat → Bool
  | 0 => inB (gd (z.rows.getD 0 []) 0).int 1 60
  | k + 1 => inB (gd (z.rows.getD (k + 1) []) 0).int 1 60 && !leI (gd (z.rows.getD (k + 1) []) 0).int (gd (z.rows.getD k []) 0).int
def ascOk (z : D) : Bool := (List.range z.rows.length).all (ascAt z)
def i_ascendingE : Ent := (165, e1 (sd (.sl 3)) fun p => (⟨rb, [.b (ascOk (gd p 0))]⟩, true))
theorem i_ascending_ok : EntOk Tryz.prog i_ascendingE := e1_ok fun p h => evFn_sound (N := (gd p 0).rows.length + 1) (ks := i_ascendingK) (key := bo) i_ascendingT_ok (enters Tryz.func165 (by kernel_rfl) (by kernel_rfl)) Tryz.func165 fun hw => by
  rw [i_ascending_ev]
  have hl := wt_sl (hw ⟨sd (.sl 3), p⟩ (by simp))
  have e := for_loop (L := i_ascendingL0 ((gd p 0).rows.length + 1) p) (fun k => [(gd p 0), .i 0, (gd p 0), .i ((gd p 0).rows.length : Int), .i (k : Int)]) (gd p 0).rows.length (ascAt (gd p 0)) [.b false] 0 (fun k hk => ?_) ?_ (N := ((gd p 0).rows.length + 1)) (by omega)
  · simp only [Int.natCast_zero] at e
    rw [e]
    unfold ascOk
    cases (List.range (gd p 0).rows.length).all (ascAt (gd p 0)) <;> rfl
  · cases k with
    | zero =>
      show i_ascendingL0 _ p [_, _, _, _, .i ((0 : Nat) : Int)] = _
      rw [i_ascendingR0]
      simp only [int_i, c_lt hk, nd_ix hk, w64_succ hk hl, Int.toNat_natCast, bne_not, ltI_00, ascAt]
      cases inB (gd ((gd p 0).rows.getD 0 []) 0).int 1 60 <;> rfl
    | succ k =>
      show i_ascendingL0 _ p [_, _, _, _, .i ((k + 1 : Nat) : Int)] = _
      rw [i_ascendingR0]
      simp only [int_i, c_lt hk, nd_ix hk, w64_succ hk hl, Int.toNat_natCast, bne_not, ltI_0s, w64_pred (show k + 1 ≤ 9223372036854775807 from by omega), nd_ix (Nat.lt_of_succ_lt hk), ascAt]
      cases inB (gd ((gd p 0).rows.getD (k + 1) []) 0).int 1 60 <;> cases leI (gd ((gd p 0).rows.getD (k + 1) []) 0).int (gd ((gd p 0).rows.getD k []) 0).int <;> rfl
  · show i_ascendingL0 _ p [_, _, _, .i ((gd p 0).rows.length : Int), .i ((gd p 0).rows.length : Int)] = _
    rw [i_ascendingR0]
    simp only [int_i, c_nlt]

/-! loop.example/g00097/spec.l13Txs -/
abbrev s_l13TxsT : FuncId → List T → Option (T × Bool) := find [s_l12TxE]
theorem s_l13TxsT_ok : CallOk Tryz.prog s_l13TxsT := find_ok (List.forall_mem_cons.2 ⟨s_l12Tx_ok, List.forall_mem_nil _⟩)
abbrev s_l13TxsK : List Nat := [0, 2, 3, 7, 31]
noncomputable def s_l13TxsL0 (N : Nat) (p : List D) : List D → Out := loopOf Tryz.prog s_l13TxsT N s_l13TxsK Tryz.f135 rb [⟨sd (.sl 3), p⟩] 0
/- x0=t0(sd (.sl 3)) x1=t2(.one (.c (.kb false))) x2=t3(ri) -/
theorem s_l13TxsR0 (N : Nat) (p : List D) (x0 x1 x2 : D) : (s_l13TxsL0 N p) [x0, x1, x2] =
  bif ltI x2.int (x0.rows.length : Int) then nd (inRange x2.int x0.rows.length) (bif !(inB (gd (x0.rows.getD x2.int.toNat []) 0).int 1 60) then ob false
  else bif ltI 0 x2.int then nd (inRange (w64 (x2.int - 1)) x0.rows.length) (nd (inRange x2.int x0.rows.length) (bif leI (gd (x0.rows.getD x2.int.toNat []) 0).int (gd (x0.rows.getD (w64 (x2.int - 1)).toNat []) 0).int then ob false
  else nx [x0, x1, .i (w64 (x2.int + 1))]))
  else nx [x0, x1, .i (w64 (x2.int + 1))])
  else ex 0 [x0, x1, x2] := by kernel_rfl
theorem s_l13Txs_ev (N : Nat) (p : List D) : evFn Tryz.prog s_l13TxsT N s_l13TxsK Tryz.f135 rb [⟨sd (.sl 3), p⟩] = some (bo,
  (let o0 := iter (s_l13TxsL0 N p) N [gd p 0, .i 0, .i 0]
   nd o0.isSome (bif o0.code == 1 then some (1, o0.pay)
   else nd (o0.code == 2) (ob true)))) := by kernel_rfl
def s_l13TxsE : Ent := (135, e1 (sd (.sl 3)) fun p => (⟨rb, [.b (ascOk (gd p 0))]⟩, true))
theorem s_l13Txs_ok : EntOk Tryz.prog s_l13TxsE := e1_ok fun p h => evFn_sound (N := (gd p 0).rows.length + 1) (ks := s_l13TxsK) (key := bo) s_l13TxsT_ok (enters Tryz.func135 (by kernel_rfl) (by kernel_rfl)) Tryz.func135 fun hw => by
  rw [s_l13Txs_ev]
  have hl := wt_sl (hw ⟨sd (.sl 3), p⟩ (by simp))
  have e := for_loop (L := s_l13TxsL0 ((gd p 0).rows.length + 1) p) (fun k => [(gd p 0), .i 0, .i (k : Int)]) (gd p 0).rows.length (ascAt (gd p 0)) [.b false] 0 (fun k hk => ?_) ?_ (N := ((gd p 0).rows.length + 1)) (by omega)
  · simp only [Int.natCast_zero] at e
    rw [e]
    unfold ascOk
    cases (List.range (gd p 0).rows.length).all (ascAt (gd p 0)) <;> rfl
  · cases k with
    | zero =>
      show s_l13TxsL0 _ p [_, _, .i ((0 : Nat) : Int)] = _
      rw [s_l13TxsR0]
      simp only [int_i, c_lt hk, nd_ix hk, w64_succ hk hl, Int.toNat_natCast, bne_not, ltI_00, ascAt]
      cases inB (gd ((gd p 0).rows.getD 0 []) 0).int 1 60 <;> rfl
    | succ k =>
      show s_l13TxsL0 _ p [_, _, .i ((k + 1 : Nat) : Int)] = _
      rw [s_l13TxsR0]
      simp only [int_i, c_lt hk, nd_ix hk, w64_succ hk hl, Int.toNat_natCast, bne_not, ltI_0s, w64_pred (show k + 1 ≤ 9223372036854775807 from by omega), nd_ix (Nat.lt_of_succ_lt hk), ascAt]
      cases inB (gd ((gd p 0).rows.getD (k + 1) []) 0).int 1 60 <;> cases leI (gd ((gd p 0).rows.getD (k + 1) []) 0).int (gd ((gd p 0).rows.getD k []) 0).int <;> rfl
  · show s_l13TxsL0 _ p [_, _, .i ((gd p 0).rows.length : Int)] = _
    rw [s_l13TxsR0]
    simp only [int_i, c_nlt]

/-! loop.example/g00097/spec.l16SeenOk -/
abbrev s_l16SeenOkT : FuncId → List T → Option (T × Bool) := find [s_l15GroupE, s_l16RangeOkE]
theorem s_l16SeenOkT_ok : CallOk Tryz.prog s_l16SeenOkT := find_ok (List.forall_mem_cons.2 ⟨s_l15Group_ok, List.forall_mem_cons.2 ⟨s_l16RangeOk_ok, List.forall_mem_nil _⟩⟩)
abbrev s_l16SeenOkK : List Nat := [0, 2, 3, 6, 10, 33]
noncomputable def s_l16SeenOkL0 (N : Nat) (p : List D) : List D → Out := loopOf Tryz.prog s_l16SeenOkT N s_l16SeenOkK Tryz.f239 rb [⟨sd (.sl 130), p⟩] 0
/- x0=t0(sd (.sl 130)) x1=t2(.one (.c (.kb false))) x2=t6(rb) x3=t3(ri) -/
theorem s_l16SeenOkR0 (N : Nat) (p : List D) (x0 x1 x2 x3 : D) : (s_l16SeenOkL0 N p) [x0, x1, x2, x3] =
  bif ltI x3.int (x0.rows.length : Int) then nd (inRange x3.int x0.rows.length) (bif !(inB (gd (x0.rows.getD x3.int.toNat []) 0).int 0 3) then ob false
  else nd (inRange x3.int x0.rows.length) (nd (inRange x3.int x0.rows.length) (bif !(rangeOk [(gd (x0.rows.getD x3.int.toNat []) 1), (gd (x0.rows.getD x3.int.toNat []) 2)]) then ob false
  else nx [x0, x1, x2, .i (w64 (x3.int + 1))])))
  else ex 0 [x0, x1, x2, x3] := by kernel_rfl
theorem s_l16SeenOk_ev (N : Nat) (p : List D) : evFn Tryz.prog s_l16SeenOkT N s_l16SeenOkK Tryz.f239 rb [⟨sd (.sl 130), p⟩] = some (bo,
  bif ltI 16 ((gd p 0).rows.length : Int) then ob false
  else (let o0 := iter (s_l16SeenOkL0 N p) N [gd p 0, .i 0, .b (ltI 16 ((gd p 0).rows.length : Int)), .i 0]
   nd o0.isSome (bif o0.code == 1 then some (1, o0.pay)
   else nd (o0.code == 2) (ob true)))) := by kernel_rfl
def seenAt (z : D) (k : Nat) : Bool := inB (gd (z.rows.getD k []) 0).int 0 3 && rangeOk [gd (z.rows.getD k []) 1, gd (z.rows.getD k []) 2]
def seenOk (z : D) : Bool := (List.range z.rows.length).all (seenAt z) && leI (z.rows.length : Int) 16
def s_l16SeenOkE : Ent := (239, e1 (sd (.sl 130)) fun p => (⟨rb, [.b (seenOk (gd p 0))]⟩, true))
theorem s_l16SeenOk_ok : EntOk Tryz.prog s_l16SeenOkE := e1_ok fun p h => evFn_sound (N := (gd p 0).rows.length + 1) (ks := s_l16SeenOkK) (key := bo) s_l16SeenOkT_ok (enters Tryz.func239 (by kernel_rfl) (by kernel_rfl)) Tryz.func239 fun hw => by
  rw [s_l16SeenOk_ev]
  have hl := wt_sl (hw ⟨sd (.sl 130), p⟩ (by simp))
  unfold seenOk
  by_cases hb : (gd p 0).rows.length ≤ 16
  · rw [ltI_f (show ((gd p 0).rows.length : Int) ≤ 16 from by omega), leI_t (show ((gd p 0).rows.length : Int) ≤ 16 from by omega), cond_false]
    have e := for_loop (L := s_l16SeenOkL0 ((gd p 0).rows.length + 1) p) (fun k => [(gd p 0), .i 0, .b false, .i (k : Int)]) (gd p 0).rows.length (seenAt (gd p 0)) [.b false] 0 (fun k hk => ?_) ?_ (N := ((gd p 0).rows.length + 1)) (by omega)
    · simp only [Int.natCast_zero] at e
      rw [e]
      cases (List.range (gd p 0).rows.length).all (seenAt (gd p 0)) <;> rfl
    · show s_l16SeenOkL0 _ p [_, _, _, .i (k : Int)] = _
      rw [s_l16SeenOkR0]
      simp only [int_i, c_lt hk, nd_ix hk, w64_succ hk hl, Int.toNat_natCast, bne_not, seenAt]
      cases inB (gd ((gd p 0).rows.getD k []) 0).int 0 3 <;> cases rangeOk [gd ((gd p 0).rows.getD k []) 1, gd ((gd p 0).rows.getD k []) 2] <;> rfl
    · show s_l16SeenOkL0 _ p [_, _, _, .i ((gd p 0).rows.length : Int)] = _
      rw [s_l16SeenOkR0]
      simp only [int_i, c_nlt]
  · rw [ltI_t (show (16 : Int) < ((gd p 0).rows.length : Int) from by omega), leI_f (show (16 : Int) < ((gd p 0).rows.length : Int) from by omega), Bool.and_false]
    rfl

/-! loop.example/g00097/spec.l16OwnersIn -/
abbrev s_l16OwnersInT : FuncId → List T → Option (T × Bool) := find []
theorem s_l16OwnersInT_ok : CallOk Tryz.prog s_l16OwnersInT := find_ok (List.forall_mem_nil _)
abbrev s_l16OwnersInK : List Nat := [0, 1, 4, 5, 9, 18]
noncomputable def s_l16OwnersInL0 (N : Nat) (p q : List D) : List D → Out := loopOf Tryz.prog s_l16OwnersInT N s_l16OwnersInK Tryz.f49 rb [⟨sd (.sl 97), p⟩, ⟨ri, q⟩] 0
/- x0=t0(sd (.sl 97)) x1=t1(ri) x2=t4(.one (.c (.kb false))) x3=t5(ri) -/
theorem s_l16OwnersInR0 (N : Nat) (p q : List D) (x0 x1 x2 x3 : D) : (s_l16OwnersInL0 N p q) [x0, x1, x2, x3] =
  bif ltI x3.int (x0.rows.length : Int) then nd (inRange x3.int x0.rows.length) (bif leI x1.int (gd (x0.rows.getD x3.int.toNat []) 2).int then ob false
  else nx [x0, x1, x2, .i (w64 (x3.int + 1))])
  else ex 0 [x0, x1, x2, x3] := by kernel_rfl
theorem s_l16OwnersIn_ev (N : Nat) (p q : List D) : evFn Tryz.prog s_l16OwnersInT N s_l16OwnersInK Tryz.f49 rb [⟨sd (.sl 97), p⟩, ⟨ri, q⟩] = some (bo,
  (let o0 := iter (s_l16OwnersInL0 N p q) N [gd p 0, gd q 0, .i 0, .i 0]
   nd o0.isSome (bif o0.code == 1 then some (1, o0.pay)
   else nd (o0.code == 2) (ob true)))) := by kernel_rfl
def ownersIn (z : D) (n : Int) : Bool := (List.range z.rows.length).all fun k => !leI n (gd (z.rows.getD k []) 2).int
def s_l16OwnersInE : Ent := (49, e2 (sd (.sl 97)) ri fun p q => (⟨rb, [.b (ownersIn (gd p 0) (gd q 0).int)]⟩, true))
theorem s_l16OwnersIn_ok : EntOk Tryz.prog s_l16OwnersInE := e2_ok fun p q h => evFn_sound (N := (gd p 0).rows.length + 1) (ks := s_l16OwnersInK) (key := bo) s_l16OwnersInT_ok (enters Tryz.func49 (by kernel_rfl) (by kernel_rfl)) Tryz.func49 fun hw => by
  rw [s_l16OwnersIn_ev]
  have hl := wt_sl (hw ⟨sd (.sl 97), p⟩ (by simp))
  have e := for_loop (L := s_l16OwnersInL0 ((gd p 0).rows.length + 1) p q) (fun k => [(gd p 0), (gd q 0), .i 0, .i (k : Int)]) (gd p 0).rows.length (fun k => !leI (gd q 0).int (gd ((gd p 0).rows.getD k []) 2).int) [.b false] 0 (fun k hk => ?_) ?_ (N := ((gd p 0).rows.length + 1)) (by omega)
  · simp only [Int.natCast_zero] at e
    rw [e]
    unfold ownersIn
    cases (List.range (gd p 0).rows.length).all (fun k => !leI (gd q 0).int (gd ((gd p 0).rows.getD k []) 2).int) <;> rfl
  · show s_l16OwnersInL0 _ p q [_, _, _, .i (k : Int)] = _
    rw [s_l16OwnersInR0]
    simp only [int_i, c_lt hk, nd_ix hk, w64_succ hk hl, Int.toNat_natCast, bne_not]
    cases leI (gd q 0).int (gd ((gd p 0).rows.getD k []) 2).int <;> rfl
  · show s_l16OwnersInL0 _ p q [_, _, _, .i ((gd p 0).rows.length : Int)] = _
    rw [s_l16OwnersInR0]
    simp only [int_i, c_nlt]

/-! loop.example/g00097/spec.l15In -/
abbrev s_l15InT : FuncId → List T → Option (T × Bool) := find [s_l1InE]
theorem s_l15InT_ok : CallOk Tryz.prog s_l15InT := find_ok (List.forall_mem_cons.2 ⟨s_l1In_ok, List.forall_mem_nil _⟩)
abbrev s_l15InK : List Nat := [0, 1, 3, 4, 5, 9, 23]
noncomputable def s_l15InL0 (N : Nat) (p q : List D) : List D → Out := loopOf Tryz.prog s_l15InT N s_l15InK Tryz.f130 rb [⟨sd (.sl 176), p⟩, ⟨ag rIMove, q⟩] 0
/- x0=t0(sd (.sl 176)) x1=t1(.one (.agg [.d si, .d si, .d si, .d si, .d si, .d si, .d (.sl 176)])) x8=t3(.one (.c (.ptr 3 0))) x9=t4(.one (.c (.kb false))) x10=t5(ri) x11=box3[.d si, .d si, .d si, .d si, .d si, .d si, .d (.sl 176)] -/
theorem s_l15InR0 (N : Nat) (p q : List D) (x0 x1 x2 x3 x4 x5 x6 x7 x8 x9 x10 x11 x12 x13 x14 x15 x16 x17 : D) : (s_l15InL0 N p q) [x0, x1, x2, x3, x4, x5, x6, x7, x8, x9, x10, x11, x12, x13, x14, x15, x16, x17] =
  bif ltI x10.int (x0.rows.length : Int) then nd (inRange x10.int x0.rows.length) (bif !(inB (gd (x0.rows.getD x10.int.toNat []) 0).int x13.int (w64 (x14.int - 1))) then ob false
  else nx [x0, x1, x2, x3, x4, x5, x6, x7, x8, x9, .i (w64 (x10.int + 1)), x11, x12, x13, x14, x15, x16, x17])
  else ex 0 [x0, x1, x2, x3, x4, x5, x6, x7, x8, x9, x10, x11, x12, x13, x14, x15, x16, x17] := by kernel_rfl
theorem s_l15In_ev (N : Nat) (p q : List D) : evFn Tryz.prog s_l15InT N s_l15InK Tryz.f130 rb [⟨sd (.sl 176), p⟩, ⟨ag rIMove, q⟩] = some (bo,
  (let o0 := iter (s_l15InL0 N p q) N [gd p 0, gd q 0, gd q 1, gd q 2, gd q 3, gd q 4, gd q 5, gd q 6, .i 0, .i 0, .i 0, gd q 0, gd q 1, gd q 2, gd q 3, gd q 4, gd q 5, gd q 6]
   nd o0.isSome (bif o0.code == 1 then some (1, o0.pay)
   else nd (o0.code == 2) (ob true)))) := by kernel_rfl
def cellsInS (z : D) (q : List D) : Bool := (List.range z.rows.length).all fun k => inB (gd (z.rows.getD k []) 0).int (gd q 2).int (w64 ((gd q 3).int - 1))
def s_l15InE : Ent := (130, e2 (sd (.sl 176)) (ag rIMove) fun p q => (⟨rb, [.b (cellsInS (gd p 0) q)]⟩, true))
theorem s_l15In_ok : EntOk Tryz.prog s_l15InE := e2_ok fun p q h => evFn_sound (N := (gd p 0).rows.length + 1) (ks := s_l15InK) (key := bo) s_l15InT_ok (enters Tryz.func130 (by kernel_rfl) (by kernel_rfl)) Tryz.func130 fun hw => by
  rw [s_l15In_ev]
  have hl := wt_sl (hw ⟨sd (.sl 176), p⟩ (by simp))
  have e := for_loop (L := s_l15InL0 ((gd p 0).rows.length + 1) p q) (fun k => [(gd p 0), (gd q 0), (gd q 1), (gd q 2), (gd q 3), (gd q 4), (gd q 5), (gd q 6), .i 0, .i 0, .i (k : Int), (gd q 0), (gd q 1), (gd q 2), (gd q 3), (gd q 4), (gd q 5), (gd q 6)]) (gd p 0).rows.length (fun k => inB (gd ((gd p 0).rows.getD k []) 0).int (gd q 2).int (w64 ((gd q 3).int - 1))) [.b false] 0 (fun k hk => ?_) ?_ (N := ((gd p 0).rows.length + 1)) (by omega)
  · simp only [Int.natCast_zero] at e
    rw [e]
    unfold cellsInS
    cases (List.range (gd p 0).rows.length).all (fun k => inB (gd ((gd p 0).rows.getD k []) 0).int (gd q 2).int (w64 ((gd q 3).int - 1))) <;> rfl
  · show s_l15InL0 _ p q [_, _, _, _, _, _, _, _, _, _, .i (k : Int), _, _, _, _, _, _, _] = _
    rw [s_l15InR0]
    simp only [int_i, c_lt hk, nd_ix hk, w64_succ hk hl, Int.toNat_natCast, bne_not]
    cases inB (gd ((gd p 0).rows.getD k []) 0).int (gd q 2).int (w64 ((gd q 3).int - 1)) <;> rfl
  · show s_l15InL0 _ p q [_, _, _, _, _, _, _, _, _, _, .i ((gd p 0).rows.length : Int), _, _, _, _, _, _, _] = _
    rw [s_l15InR0]
    simp only [int_i, c_nlt]

end Go.Proofs.YtchceahcaaibcaaGreat
