/-
  The town: TownValue. Printed by sym.py.
-/
import Derived.Test.YtchceahcaaibcaaGreatT18
namespace Go.Proofs.YtchceahcaaibcaaGreat
set_option maxRecDepth 4096
set_option maxHeartbeats 1000000
set_option linter.unusedSimpArgs false
set_option linter.unusedVariables false
/-! loop.example/g00097/spec.StoreGet -/
abbrev s_StoreGetT : FuncId → List T → Option (T × Bool) := find [s_StoreOkE, s_l11GetE]
theorem s_StoreGetT_ok : CallOk Tryz.prog s_StoreGetT := find_ok (List.forall_mem_cons.2 ⟨s_StoreOk_ok, List.forall_mem_cons.2 ⟨s_l11Get_ok, List.forall_mem_nil _⟩⟩)
abbrev s_StoreGetK : List Nat := [0, 1, 4, 7]
theorem s_StoreGet_ev (N : Nat) (p q : List D) : evFn Tryz.prog s_StoreGetT N s_StoreGetK Tryz.f95 ri [⟨sd (.sl 176), p⟩, ⟨ri, q⟩] = some (bo,
  bif !(storeOk (gd p 0)) then oi (-1)
  else nd (storeOk (gd p 0)) (some (1, [valD (gd p 0) (gd q 0).int]))) := by kernel_rfl
def storeGetD (z : D) (t : Int) : D := bif storeOk z then valD z t else .i (-1)
def s_StoreGetE : Ent := (95, e2 (sd (.sl 176)) ri fun p q => (⟨ri, [storeGetD (gd p 0) (gd q 0).int]⟩, true))
theorem s_StoreGet_ok : EntOk Tryz.prog s_StoreGetE := e2_ok fun p q h => evFn_sound (N := 0) (ks := s_StoreGetK) (key := bo) s_StoreGetT_ok (enters Tryz.func95 (by kernel_rfl) (by kernel_rfl)) Tryz.func95 fun hw => by
  rw [s_StoreGet_ev]
  refine congrArg (fun x => some (bo, x)) ?_
  unfold storeGetD
  cases storeOk (gd p 0) <;> rfl

/-! loop.example/g00097/impl.TownValue -/
abbrev i_TownValueT : FuncId → List T → Option (T × Bool) := find [i_TownOkE, i_isKeyE, i_TownFreeE, i_oneE, i_haveAllE, i_valueOfE]
theorem i_TownValueT_ok : CallOk Tryz.prog i_TownValueT := find_ok (List.forall_mem_cons.2 ⟨i_TownOk_ok, List.forall_mem_cons.2 ⟨i_isKey_ok, List.forall_mem_cons.2 ⟨i_TownFree_ok, List.forall_mem_cons.2 ⟨i_one_ok, List.forall_mem_cons.2 ⟨i_haveAll_ok, List.forall_mem_cons.2 ⟨i_valueOf_ok, List.forall_mem_nil _⟩⟩⟩⟩⟩⟩)
abbrev i_TownValueK : List Nat := [0, 1, 2, 4, 5, 6, 7, 15, 21, 23, 24, 25, 26, 34, 42, 1000015, 1000021, 1000026, 1000034, 1000042]
noncomputable def i_TownValueL0 (N : Nat) (p q : List D) : List D → Out := loopOf Tryz.prog i_TownValueT N i_TownValueK Tryz.f27 ri [⟨ag rITown, p⟩, ⟨ri, q⟩] 0
/- x0=t0(.one (.agg [.d si, .d (.sl 97), .d si, .d si, .d si, .d si, .d si, .d si, .d (.sl 176), .d (.sl 80), .d (.sl 116), .d (.sl 3), .d (.sl 102), .d (.sl 85), .d (.sl 88)])) x15=t1(ri) x16=t2(.one (.c (.ptr 2 0))) x17=t4(ri) x18=t5(.one (.c (.own (18, 0) true 3))) x19=t23(sd (.sl 80)) x20=t24(ri) x21=t25(ri) x22=box2[.d si, .d (.sl 97), .d si, .d si, .d si, .d si, .d si, .d si, .d (.sl 176), .d (.sl 80), .d (.sl 116), .d (.sl 3), .d (.sl 102), .d (.sl 85), .d (.sl 88)] -/
theorem i_TownValueR0 (N : Nat) (p q : List D) (x0 x1 x2 x3 x4 x5 x6 x7 x8 x9 x10 x11 x12 x13 x14 x15 x16 x17 x18 x19 x20 x21 x22 x23 x24 x25 x26 x27 x28 x29 x30 x31 x32 x33 x34 x35 x36 : D) : (i_TownValueL0 N p q) [x0, x1, x2, x3, x4, x5, x6, x7, x8, x9, x10, x11, x12, x13, x14, x15, x16, x17, x18, x19, x20, x21, x22, x23, x24, x25, x26, x27, x28, x29, x30, x31, x32, x33, x34, x35, x36] =
  bif ltI x21.int x20.int then nd (inRange x21.int x19.rows.length) (bif haveAll (gd (x19.rows.getD x21.int.toNat []) 1) [x15, .i (w64 (x15.int + 1))] then nd (lenOk (x18.rows ++ [[x21]]) && true) (nx [x0, x1, x2, x3, x4, x5, x6, x7, x8, x9, x10, x11, x12, x13, x14, x15, x16, x17, .l (x18.rows ++ [[x21]]), x19, x20, .i (w64 (x21.int + 1)), x22, x23, x24, x25, x26, x27, x28, x29, x30, x31, x32, x33, x34, x35, x36])
  else nx [x0, x1, x2, x3, x4, x5, x6, x7, x8, x9, x10, x11, x12, x13, x14, x15, x16, x17, x18, x19, x20, .i (w64 (x21.int + 1)), x22, x23, x24, x25, x26, x27, x28, x29, x30, x31, x32, x33, x34, x35, x36])
  else ex 0 [x0, x1, x2, x3, x4, x5, x6, x7, x8, x9, x10, x11, x12, x13, x14, x15, x16, x17, x18, x19, x20, x21, x22, x23, x24, x25, x26, x27, x28, x29, x30, x31, x32, x33, x34, x35, x36] := by kernel_rfl
noncomputable def i_TownValues0 (N : Nat) (p q : List D) (o0 : Out) : Out := nd (storeOk (gd ((gd o0.pay 31).rows.getD (gd ((gd o0.pay 18).rows.getD 0 []) 0).int.toNat []) 3) && inB (gd o0.pay 15).int 0 999) (some (1, [valD (gd ((gd o0.pay 31).rows.getD (gd ((gd o0.pay 18).rows.getD 0 []) 0).int.toNat []) 3) (gd o0.pay 15).int]))
noncomputable def i_TownValues1 (N : Nat) (p q : List D) (o0 : Out) : Out := nd (inRange (gd ((gd o0.pay 18).rows.getD 0 []) 0).int (gd o0.pay 31).rows.length) (i_TownValues0 N p q o0)
noncomputable def i_TownValues2 (N : Nat) (p q : List D) (o0 : Out) : Out := bif ((gd o0.pay 18).rows.length : Int) == 0 then oi (-1) else nd (inRange 0 (gd o0.pay 18).rows.length) (i_TownValues1 N p q o0)
noncomputable def i_TownValues3 (N : Nat) (p q : List D) : Out := let o0 : Out := iter (i_TownValueL0 N p q) N [gd p 0, gd p 1, gd p 2, gd p 3, gd p 4, gd p 5, gd p 6, gd p 7, gd p 8, gd p 9, gd p 10, gd p 11, gd p 12, gd p 13, gd p 14, gd q 0, .i 0, .i 0, townFree (sub p 0 15) [(gd q 0)], gd p 9, .i ((gd p 9).rows.length : Int), .i 0, gd p 0, gd p 1, gd p 2, gd p 3, gd p 4, gd p 5, gd p 6, gd p 7, gd p 8, gd p 9, gd p 10, gd p 11, gd p 12, gd p 13, gd p 14]; nd o0.isSome (nd (o0.code == 2) (i_TownValues2 N p q o0))
noncomputable def i_TownValues4 (N : Nat) (p q : List D) : Out := nd (storeOk (gd ((gd p 9).rows.getD (gd ((townFree (sub p 0 15) [(gd q 0)]).rows.getD 0 []) 0).int.toNat []) 3) && inB (gd q 0).int 0 999) (some (1, [valD (gd ((gd p 9).rows.getD (gd ((townFree (sub p 0 15) [(gd q 0)]).rows.getD 0 []) 0).int.toNat []) 3) (gd q 0).int]))
noncomputable def i_TownValues5 (N : Nat) (p q : List D) : Out := nd (inRange (gd ((townFree (sub p 0 15) [(gd q 0)]).rows.getD 0 []) 0).int (gd p 9).rows.length) (i_TownValues4 N p q)
noncomputable def i_TownValues6 (N : Nat) (p q : List D) : Out := bif ((townFree (sub p 0 15) [(gd q 0)]).rows.length : Int) == 0 then oi (-1) else nd (inRange 0 (townFree (sub p 0 15) [(gd q 0)]).rows.length) (i_TownValues5 N p q)
noncomputable def i_TownValues7 (N : Nat) (p q : List D) : Out := bif ((townFree (sub p 0 15) [(gd q 0)]).rows.length : Int) == 0 then (i_TownValues3 N p q) else (i_TownValues6 N p q)
noncomputable def i_TownValues8 (N : Nat) (p q : List D) : Out := bif !(inB (gd q 0).int (0) (999)) then oi (-1) else nd (townSmall (sub p 0 15)) (i_TownValues7 N p q)
theorem i_TownValue_ev (N : Nat) (p q : List D) : evFn Tryz.prog i_TownValueT N i_TownValueK Tryz.f27 ri [⟨ag rITown, p⟩, ⟨ri, q⟩] = some (bo, nd (townSmall (sub p 0 15)) (bif !(townOk (sub p 0 15)) then oi (-1) else (i_TownValues8 N p q))) := by kernel_rfl
def pickC (C : Nat → Bool) (n : Nat) : Option Nat := (List.range n).find? C
theorem pick_head (C : Nat → Bool) (n : Nat) : ((List.range n).filter C).head? = pickC C n := List.head?_filter
theorem freeRows_none {C : Nat → Bool} {n : Nat} (h : pickC C n = none) : freeRows C n = [] := by
  rw [← pick_head, List.head?_eq_none_iff] at h
  unfold freeRows
  rw [h]; rfl
theorem pick_lt {C : Nat → Bool} {n i : Nat} (h : pickC C n = some i) : i < n := List.mem_range.1 (List.mem_of_find?_eq_some h)
theorem freeRows_some {C : Nat → Bool} {n i : Nat} (h : pickC C n = some i) : ∃ t, freeRows C n = [.i (i : Int)] :: t := by
  rw [← pick_head] at h
  unfold freeRows
  cases hf : (List.range n).filter C with
  | nil => rw [hf] at h; cases h
  | cons a t =>
    rw [hf] at h
    injection h with h
    subst h
    exact ⟨t.map fun (k : Nat) => [D.i (k : Int)], rfl⟩
theorem find_loop {L : List D → Out} {st : Nat → List D} {n : Nat} (C : Nat → Bool) (v : Nat → List D) (j : Nat) (h1 : ∀ k, k < n → L (st k) = bif C k then some (1, v k) else nx (st (k + 1))) (h2 : L (st n) = some (j + 2, st n)) :
    ∀ (m k N : Nat), k + m = n → m < N → iter L N (st k) = match (List.range' k m).find? C with | some i => some (1, v i) | none => some (j + 2, st n) := by
  intro m
  induction m with
  | zero =>
    intro k N hk hN
    obtain ⟨N, rfl⟩ : ∃ N', N = N' + 1 := ⟨N - 1, by omega⟩
    obtain rfl : k = n := by omega
    exact iter_ex (c := j + 1) h2
  | succ m ih =>
    intro k N hk hN
    obtain ⟨N, rfl⟩ : ∃ N', N = N' + 1 := ⟨N - 1, by omega⟩
    have h := h1 k (by omega)
    rw [List.range'_succ, List.find?_cons]
    cases hC : C k with
    | true =>
      rw [hC, cond_true] at h
      exact iter_ex (c := 0) h
    | false =>
      rw [hC, cond_false] at h
      rw [iter_nx h]
      exact ih (k + 1) N (by omega) (by omega)
theorem in0 (n : Nat) : inRange 0 (n + 1) = true := by
  unfold inRange
  rw [decide_eq_true (by omega), decide_eq_true (by omega)]
  rfl
def ownQ (p q : List D) (k : Nat) : Bool := haveAll (gd ((gd p 9).rows.getD k []) 1) [gd q 0, .i (w64 ((gd q 0).int + 1))]
def cellsOf (p : List D) (k : Nat) : D := gd ((gd p 9).rows.getD k []) 3
def townPick (p q : List D) : Option Nat :=
  match pickC (townFreeCF p q) (gd p 9).rows.length with
  | some i => some i
  | none => pickC (ownQ p q) (gd p 9).rows.length
def townValue (p q : List D) : D := bif townOk p && inB (gd q 0).int 0 999 then (match townPick p q with
  | some i => valD (cellsOf p i) (gd q 0).int
  | none => .i (-1)) else .i (-1)
theorem town_cells {p : List D} (h : townOk p = true) {k : Nat} (hk : k < (gd p 9).rows.length) : storeOk (cellsOf p k) = true := (shard_own (town_shard h hk)).2.2
theorem free_t {p q : List D} (ht : townOk p = true) (hk : inB (gd q 0).int 0 999 = true) : townFree p q = .l (freeRows (townFreeCF p q) (gd p 9).rows.length) := by
  unfold townFree
  rw [ht, hk]
  rfl
theorem i_TVx (p q : List D) (hn : (gd p 9).rows.length ≤ 4) : iter (i_TownValueL0 ((gd p 9).rows.length + 1) p q) ((gd p 9).rows.length + 1) [gd p 0, gd p 1, gd p 2, gd p 3, gd p 4, gd p 5, gd p 6, gd p 7, gd p 8, gd p 9, gd p 10, gd p 11, gd p 12, gd p 13, gd p 14, gd q 0, .i 0, .i 0, .l [], gd p 9, .i ((gd p 9).rows.length : Int), .i 0, gd p 0, gd p 1, gd p 2, gd p 3, gd p 4, gd p 5, gd p 6, gd p 7, gd p 8, gd p 9, gd p 10, gd p 11, gd p 12, gd p 13, gd p 14] = some (2, [gd p 0, gd p 1, gd p 2, gd p 3, gd p 4, gd p 5, gd p 6, gd p 7, gd p 8, gd p 9, gd p 10, gd p 11, gd p 12, gd p 13, gd p 14, gd q 0, .i 0, .i 0, .l (freeRows (ownQ p q) (gd p 9).rows.length), gd p 9, .i ((gd p 9).rows.length : Int), .i ((gd p 9).rows.length : Int), gd p 0, gd p 1, gd p 2, gd p 3, gd p 4, gd p 5, gd p 6, gd p 7, gd p 8, gd p 9, gd p 10, gd p 11, gd p 12, gd p 13, gd p 14]) := by
  have e := run_loop (L := i_TownValueL0 ((gd p 9).rows.length + 1) p q) (fun k => [gd p 0, gd p 1, gd p 2, gd p 3, gd p 4, gd p 5, gd p 6, gd p 7, gd p 8, gd p 9, gd p 10, gd p 11, gd p 12, gd p 13, gd p 14, gd q 0, .i 0, .i 0, .l (freeRows (ownQ p q) k), gd p 9, .i ((gd p 9).rows.length : Int), .i (k : Int), gd p 0, gd p 1, gd p 2, gd p 3, gd p 4, gd p 5, gd p 6, gd p 7, gd p 8, gd p 9, gd p 10, gd p 11, gd p 12, gd p 13, gd p 14]) (gd p 9).rows.length 0 (fun k hk => ?_) ?_ (N := ((gd p 9).rows.length + 1)) (by omega)
  · simp only [Int.natCast_zero] at e
    exact e
  · show i_TownValueL0 _ p q [gd p 0, gd p 1, gd p 2, gd p 3, gd p 4, gd p 5, gd p 6, gd p 7, gd p 8, gd p 9, gd p 10, gd p 11, gd p 12, gd p 13, gd p 14, gd q 0, .i 0, .i 0, .l (freeRows (ownQ p q) k), gd p 9, .i ((gd p 9).rows.length : Int), .i (k : Int), gd p 0, gd p 1, gd p 2, gd p 3, gd p 4, gd p 5, gd p 6, gd p 7, gd p 8, gd p 9, gd p 10, gd p 11, gd p 12, gd p 13, gd p 14] = _
    rw [i_TownValueR0]
    have hlen := freeRows_le (ownQ p q) k
    have hlo : lenOk (freeRows (ownQ p q) k ++ [[.i (k : Int)]]) = true := lenOk_t (by rw [List.length_append]; simp; omega)
    simp only [int_i, rows_l, c_lt hk, nd_ix hk, w64_succ hk (show (gd p 9).rows.length ≤ 9223372036854775807 from by omega), Int.toNat_natCast, hlo, Bool.and_true, nd_true]
    rw [freeRows_succ]
    show (bif (ownQ p q) k then _ else _) = _
    cases (ownQ p q) k <;> rfl
  · show i_TownValueL0 _ p q [gd p 0, gd p 1, gd p 2, gd p 3, gd p 4, gd p 5, gd p 6, gd p 7, gd p 8, gd p 9, gd p 10, gd p 11, gd p 12, gd p 13, gd p 14, gd q 0, .i 0, .i 0, .l (freeRows (ownQ p q) (gd p 9).rows.length), gd p 9, .i ((gd p 9).rows.length : Int), .i ((gd p 9).rows.length : Int), gd p 0, gd p 1, gd p 2, gd p 3, gd p 4, gd p 5, gd p 6, gd p 7, gd p 8, gd p 9, gd p 10, gd p 11, gd p 12, gd p 13, gd p 14] = _
    rw [i_TownValueR0]
    simp only [int_i, c_nlt]
def i_TownValueE : Ent := (27, e2 (ag rITown) ri fun p q => (⟨ri, [townValue p [gd q 0]]⟩, townSmall p))
theorem i_TownValue_ok : EntOk Tryz.prog i_TownValueE := e2_ok fun p q h => evFn_sound (N := (gd p 9).rows.length + 1) (ks := i_TownValueK) (key := bo) i_TownValueT_ok (enters Tryz.func27 (by kernel_rfl) (by kernel_rfl)) Tryz.func27 fun hw => by
  rw [i_TownValue_ev]
  have h : townSmall p = true := h
  refine congrArg (fun x => some (bo, x)) ?_
  show nd (townSmall p) (bif !(townOk p) then oi (-1) else i_TownValues8 ((gd p 9).rows.length + 1) p q) = some (1, [townValue p q])
  rw [h, nd_true]
  unfold townValue
  cases ht : townOk p with
  | false => rfl
  | true =>
   cases hk0 : inB (gd q 0).int 0 999 with
   | false => 
     simp only [Bool.not_true, cond_false, Bool.and_false]
     unfold i_TownValues8
     rw [hk0]
     rfl
   | true =>
    simp only [Bool.not_true, cond_false, Bool.and_self, cond_true]
    have hn := town_n ht
    rw [show i_TownValues8 ((gd p 9).rows.length + 1) p q = (bif !(inB (gd q 0).int 0 999) then oi (-1) else nd (townSmall p) (bif ((townFree p q).rows.length : Int) == 0 then i_TownValues3 ((gd p 9).rows.length + 1) p q else (bif ((townFree p q).rows.length : Int) == 0 then oi (-1) else nd (inRange 0 (townFree p q).rows.length) (nd (inRange (gd ((townFree p q).rows.getD 0 []) 0).int (gd p 9).rows.length) (nd (storeOk (cellsOf p (gd ((townFree p q).rows.getD 0 []) 0).int.toNat) && inB (gd q 0).int 0 999) (some (1, [valD (cellsOf p (gd ((townFree p q).rows.getD 0 []) 0).int.toNat) (gd q 0).int]))))))) from by kernel_rfl]
    rw [hk0, h, free_t ht hk0]
    simp only [Bool.not_true, cond_false, nd_true, rows_l]
    unfold townPick
    cases hp : pickC (townFreeCF p q) (gd p 9).rows.length with
    | some i =>
      obtain ⟨t, e⟩ := freeRows_some hp
      have hi := pick_lt hp
      rw [e]
      have e0 : ((([D.i (i : Int)] :: t).length : Int) == 0) = false := by
        rw [Bool.eq_false_iff]; simp only [ne_eq, beq_iff_eq, List.length_cons]; omega
      rw [e0, cond_false, cond_false]
      show nd (inRange 0 (t.length + 1)) (nd (inRange (i : Int) (gd p 9).rows.length) (nd (storeOk (cellsOf p (i : Int).toNat) && true) (some (1, [valD (cellsOf p (i : Int).toNat) (gd q 0).int])))) = _
      rw [show inRange 0 (t.length + 1) = true from in0 _, nd_true, nd_ix hi, Int.toNat_natCast, town_cells ht hi]
      rfl
    | none =>
      rw [freeRows_none hp]
      rw [show (((([] : List (List D)).length : Nat) : Int) == 0) = true from rfl, cond_true]
      rw [show i_TownValues3 ((gd p 9).rows.length + 1) p q = nd (iter (i_TownValueL0 ((gd p 9).rows.length + 1) p q) ((gd p 9).rows.length + 1) [gd p 0, gd p 1, gd p 2, gd p 3, gd p 4, gd p 5, gd p 6, gd p 7, gd p 8, gd p 9, gd p 10, gd p 11, gd p 12, gd p 13, gd p 14, gd q 0, .i 0, .i 0, townFree p q, gd p 9, .i ((gd p 9).rows.length : Int), .i 0, gd p 0, gd p 1, gd p 2, gd p 3, gd p 4, gd p 5, gd p 6, gd p 7, gd p 8, gd p 9, gd p 10, gd p 11, gd p 12, gd p 13, gd p 14]).isSome (nd (Out.code (iter (i_TownValueL0 ((gd p 9).rows.length + 1) p q) ((gd p 9).rows.length + 1) [gd p 0, gd p 1, gd p 2, gd p 3, gd p 4, gd p 5, gd p 6, gd p 7, gd p 8, gd p 9, gd p 10, gd p 11, gd p 12, gd p 13, gd p 14, gd q 0, .i 0, .i 0, townFree p q, gd p 9, .i ((gd p 9).rows.length : Int), .i 0, gd p 0, gd p 1, gd p 2, gd p 3, gd p 4, gd p 5, gd p 6, gd p 7, gd p 8, gd p 9, gd p 10, gd p 11, gd p 12, gd p 13, gd p 14]) == 2) (i_TownValues2 ((gd p 9).rows.length + 1) p q (iter (i_TownValueL0 ((gd p 9).rows.length + 1) p q) ((gd p 9).rows.length + 1) [gd p 0, gd p 1, gd p 2, gd p 3, gd p 4, gd p 5, gd p 6, gd p 7, gd p 8, gd p 9, gd p 10, gd p 11, gd p 12, gd p 13, gd p 14, gd q 0, .i 0, .i 0, townFree p q, gd p 9, .i ((gd p 9).rows.length : Int), .i 0, gd p 0, gd p 1, gd p 2, gd p 3, gd p 4, gd p 5, gd p 6, gd p 7, gd p 8, gd p 9, gd p 10, gd p 11, gd p 12, gd p 13, gd p 14]))) from by kernel_rfl]
      rw [free_t ht hk0, freeRows_none hp, i_TVx p q hn]
      rw [show ∀ x : Out, nd (some (2, [gd p 0, gd p 1, gd p 2, gd p 3, gd p 4, gd p 5, gd p 6, gd p 7, gd p 8, gd p 9, gd p 10, gd p 11, gd p 12, gd p 13, gd p 14, gd q 0, .i 0, .i 0, .l (freeRows (ownQ p q) (gd p 9).rows.length), gd p 9, .i ((gd p 9).rows.length : Int), .i ((gd p 9).rows.length : Int), gd p 0, gd p 1, gd p 2, gd p 3, gd p 4, gd p 5, gd p 6, gd p 7, gd p 8, gd p 9, gd p 10, gd p 11, gd p 12, gd p 13, gd p 14]) : Out).isSome (nd (Out.code (some (2, [gd p 0, gd p 1, gd p 2, gd p 3, gd p 4, gd p 5, gd p 6, gd p 7, gd p 8, gd p 9, gd p 10, gd p 11, gd p 12, gd p 13, gd p 14, gd q 0, .i 0, .i 0, .l (freeRows (ownQ p q) (gd p 9).rows.length), gd p 9, .i ((gd p 9).rows.length : Int), .i ((gd p 9).rows.length : Int), gd p 0, gd p 1, gd p 2, gd p 3, gd p 4, gd p 5, gd p 6, gd p 7, gd p 8, gd p 9, gd p 10, gd p 11, gd p 12, gd p 13, gd p 14])) == 2) x) = x from fun x => rfl]
      rw [show i_TownValues2 ((gd p 9).rows.length + 1) p q (some (2, [gd p 0, gd p 1, gd p 2, gd p 3, gd p 4, gd p 5, gd p 6, gd p 7, gd p 8, gd p 9, gd p 10, gd p 11, gd p 12, gd p 13, gd p 14, gd q 0, .i 0, .i 0, .l (freeRows (ownQ p q) (gd p 9).rows.length), gd p 9, .i ((gd p 9).rows.length : Int), .i ((gd p 9).rows.length : Int), gd p 0, gd p 1, gd p 2, gd p 3, gd p 4, gd p 5, gd p 6, gd p 7, gd p 8, gd p 9, gd p 10, gd p 11, gd p 12, gd p 13, gd p 14])) = (bif ((freeRows (ownQ p q) (gd p 9).rows.length).length : Int) == 0 then oi (-1) else nd (inRange 0 (freeRows (ownQ p q) (gd p 9).rows.length).length) (nd (inRange (gd ((freeRows (ownQ p q) (gd p 9).rows.length).getD 0 []) 0).int (gd p 9).rows.length) (nd (storeOk (cellsOf p (gd ((freeRows (ownQ p q) (gd p 9).rows.length).getD 0 []) 0).int.toNat) && inB (gd q 0).int 0 999) (some (1, [valD (cellsOf p (gd ((freeRows (ownQ p q) (gd p 9).rows.length).getD 0 []) 0).int.toNat) (gd q 0).int]))))) from by kernel_rfl]
      cases hq : pickC (ownQ p q) (gd p 9).rows.length with
      | some i =>
        obtain ⟨t, e⟩ := freeRows_some hq
        have hi := pick_lt hq
        rw [e]
        have e0 : ((([D.i (i : Int)] :: t).length : Int) == 0) = false := by
          rw [Bool.eq_false_iff]; simp only [ne_eq, beq_iff_eq, List.length_cons]; omega
        rw [e0, cond_false]
        show nd (inRange 0 (t.length + 1)) (nd (inRange (i : Int) (gd p 9).rows.length) (nd (storeOk (cellsOf p (i : Int).toNat) && inB (gd q 0).int 0 999) (some (1, [valD (cellsOf p (i : Int).toNat) (gd q 0).int])))) = _
        rw [show inRange 0 (t.length + 1) = true from in0 _, nd_true, nd_ix hi, Int.toNat_natCast, town_cells ht hi, hk0]
        rfl
      | none =>
        rw [freeRows_none hq]
        rfl

/-! loop.example/g00097/spec.TownValue -/
abbrev s_TownValueT : FuncId → List T → Option (T × Bool) := find [s_TownOkE, s_l10KeyE, s_TownFreeE, s_StoreGetE, s_l10OneE, s_RangesHaveE]
theorem s_TownValueT_ok : CallOk Tryz.prog s_TownValueT := find_ok (List.forall_mem_cons.2 ⟨s_TownOk_ok, List.forall_mem_cons.2 ⟨s_l10Key_ok, List.forall_mem_cons.2 ⟨s_TownFree_ok, List.forall_mem_cons.2 ⟨s_StoreGet_ok, List.forall_mem_cons.2 ⟨s_l10One_ok, List.forall_mem_cons.2 ⟨s_RangesHave_ok, List.forall_mem_nil _⟩⟩⟩⟩⟩⟩)
abbrev s_TownValueK : List Nat := [0, 1, 2, 4, 5, 6, 14, 20, 35, 46, 1000014, 1000020, 1000035, 1000046]
noncomputable def s_TownValueL0 (N : Nat) (p q : List D) : List D → Out := loopOf Tryz.prog s_TownValueT N s_TownValueK Tryz.f26 ri [⟨ag rITown, p⟩, ⟨ri, q⟩] 0
/- x0=t0(.one (.agg [.d si, .d (.sl 97), .d si, .d si, .d si, .d si, .d si, .d si, .d (.sl 176), .d (.sl 80), .d (.sl 116), .d (.sl 3), .d (.sl 102), .d (.sl 85), .d (.sl 88)])) x15=t1(ri) x16=t2(.one (.c (.ptr 2 0))) x17=t4(ri) x18=t5(.one (.c (.own (17, 0) true 3))) x19=t6(ri) x20=box2[.d si, .d (.sl 97), .d si, .d si, .d si, .d si, .d si, .d si, .d (.sl 176), .d (.sl 80), .d (.sl 116), .d (.sl 3), .d (.sl 102), .d (.sl 85), .d (.sl 88)] -/
theorem s_TownValueR0 (N : Nat) (p q : List D) (x0 x1 x2 x3 x4 x5 x6 x7 x8 x9 x10 x11 x12 x13 x14 x15 x16 x17 x18 x19 x20 x21 x22 x23 x24 x25 x26 x27 x28 x29 x30 x31 x32 x33 x34 : D) : (s_TownValueL0 N p q) [x0, x1, x2, x3, x4, x5, x6, x7, x8, x9, x10, x11, x12, x13, x14, x15, x16, x17, x18, x19, x20, x21, x22, x23, x24, x25, x26, x27, x28, x29, x30, x31, x32, x33, x34] =
  bif ltI x19.int (x29.rows.length : Int) then nd (inRange x19.int x29.rows.length) (bif rangesHave (gd (x29.rows.getD x19.int.toNat []) 1) [x15, .i (w64 (x15.int + 1))] then nd (inRange x19.int x29.rows.length) (some (1, [storeGetD (gd (x29.rows.getD x19.int.toNat []) 3) x15.int]))
  else nx [x0, x1, x2, x3, x4, x5, x6, x7, x8, x9, x10, x11, x12, x13, x14, x15, x16, x17, x18, .i (w64 (x19.int + 1)), x20, x21, x22, x23, x24, x25, x26, x27, x28, x29, x30, x31, x32, x33, x34])
  else ex 0 [x0, x1, x2, x3, x4, x5, x6, x7, x8, x9, x10, x11, x12, x13, x14, x15, x16, x17, x18, x19, x20, x21, x22, x23, x24, x25, x26, x27, x28, x29, x30, x31, x32, x33, x34] := by kernel_rfl
noncomputable def s_TownValues0 (N : Nat) (p q : List D) : Out := nd (inRange (gd ((townFree (sub p 0 15) [(gd q 0)]).rows.getD 0 []) 0).int (gd p 9).rows.length) (some (1, [storeGetD (gd ((gd p 9).rows.getD (gd ((townFree (sub p 0 15) [(gd q 0)]).rows.getD 0 []) 0).int.toNat []) 3) (gd q 0).int]))
noncomputable def s_TownValues1 (N : Nat) (p q : List D) : Out := let o0 : Out := iter (s_TownValueL0 N p q) N [gd p 0, gd p 1, gd p 2, gd p 3, gd p 4, gd p 5, gd p 6, gd p 7, gd p 8, gd p 9, gd p 10, gd p 11, gd p 12, gd p 13, gd p 14, gd q 0, .i 0, .i 0, townFree (sub p 0 15) [(gd q 0)], .i 0, gd p 0, gd p 1, gd p 2, gd p 3, gd p 4, gd p 5, gd p 6, gd p 7, gd p 8, gd p 9, gd p 10, gd p 11, gd p 12, gd p 13, gd p 14]; nd o0.isSome (bif o0.code == 1 then some (1, o0.pay) else nd (o0.code == 2) (oi (-1)))
noncomputable def s_TownValues2 (N : Nat) (p q : List D) : Out := bif ltI 0 ((townFree (sub p 0 15) [(gd q 0)]).rows.length : Int) then nd (inRange 0 (townFree (sub p 0 15) [(gd q 0)]).rows.length) (s_TownValues0 N p q) else (s_TownValues1 N p q)
noncomputable def s_TownValues3 (N : Nat) (p q : List D) : Out := bif !(townOk (sub p 0 15)) then oi (-1) else bif !(inB (gd q 0).int (0) (999)) then oi (-1) else (s_TownValues2 N p q)
theorem s_TownValue_ev (N : Nat) (p q : List D) : evFn Tryz.prog s_TownValueT N s_TownValueK Tryz.f26 ri [⟨ag rITown, p⟩, ⟨ri, q⟩] = some (bo, (s_TownValues3 N p q)) := by kernel_rfl
theorem s_TVx (p q : List D) (f : D) (ht : townOk p = true) (hk : inB (gd q 0).int 0 999 = true) : iter (s_TownValueL0 ((gd p 9).rows.length + 1) p q) ((gd p 9).rows.length + 1) [gd p 0, gd p 1, gd p 2, gd p 3, gd p 4, gd p 5, gd p 6, gd p 7, gd p 8, gd p 9, gd p 10, gd p 11, gd p 12, gd p 13, gd p 14, gd q 0, .i 0, .i 0, f, .i 0, gd p 0, gd p 1, gd p 2, gd p 3, gd p 4, gd p 5, gd p 6, gd p 7, gd p 8, gd p 9, gd p 10, gd p 11, gd p 12, gd p 13, gd p 14] = match pickC (ownQ p q) (gd p 9).rows.length with | some i => some (1, [valD (cellsOf p i) (gd q 0).int]) | none => some (2, [gd p 0, gd p 1, gd p 2, gd p 3, gd p 4, gd p 5, gd p 6, gd p 7, gd p 8, gd p 9, gd p 10, gd p 11, gd p 12, gd p 13, gd p 14, gd q 0, .i 0, .i 0, f, .i ((gd p 9).rows.length : Int), gd p 0, gd p 1, gd p 2, gd p 3, gd p 4, gd p 5, gd p 6, gd p 7, gd p 8, gd p 9, gd p 10, gd p 11, gd p 12, gd p 13, gd p 14]) := by
  have hn := town_n ht
  have e := find_loop (L := s_TownValueL0 ((gd p 9).rows.length + 1) p q) (st := fun k => [gd p 0, gd p 1, gd p 2, gd p 3, gd p 4, gd p 5, gd p 6, gd p 7, gd p 8, gd p 9, gd p 10, gd p 11, gd p 12, gd p 13, gd p 14, gd q 0, .i 0, .i 0, f, .i (k : Int), gd p 0, gd p 1, gd p 2, gd p 3, gd p 4, gd p 5, gd p 6, gd p 7, gd p 8, gd p 9, gd p 10, gd p 11, gd p 12, gd p 13, gd p 14]) (n := (gd p 9).rows.length) (ownQ p q) (fun i => [valD (cellsOf p i) (gd q 0).int]) 0 (fun k hk' => ?_) ?_ (gd p 9).rows.length 0 ((gd p 9).rows.length + 1) (by omega) (by omega)
  · simp only [Int.natCast_zero] at e
    rw [← List.range_eq_range'] at e
    exact e
  · show s_TownValueL0 _ p q [gd p 0, gd p 1, gd p 2, gd p 3, gd p 4, gd p 5, gd p 6, gd p 7, gd p 8, gd p 9, gd p 10, gd p 11, gd p 12, gd p 13, gd p 14, gd q 0, .i 0, .i 0, f, .i (k : Int), gd p 0, gd p 1, gd p 2, gd p 3, gd p 4, gd p 5, gd p 6, gd p 7, gd p 8, gd p 9, gd p 10, gd p 11, gd p 12, gd p 13, gd p 14] = _
    rw [s_TownValueR0]
    obtain ⟨a, b, c⟩ := shard_own (town_shard ht hk')
    have e2 : rangesHave (gd ((gd p 9).rows.getD k []) 1) [gd q 0, .i (w64 ((gd q 0).int + 1))] = ownQ p q k := (have_same a (key_rangeOk hk)).symm
    have e3 : storeGetD (gd ((gd p 9).rows.getD k []) 3) (gd q 0).int = valD (cellsOf p k) (gd q 0).int := by
      unfold storeGetD
      rw [show storeOk (gd ((gd p 9).rows.getD k []) 3) = true from c]
      rfl
    simp only [int_i, c_lt hk', nd_ix hk', w64_succ hk' (show (gd p 9).rows.length ≤ 9223372036854775807 from by omega), Int.toNat_natCast, e2, e3]
  · show s_TownValueL0 _ p q [gd p 0, gd p 1, gd p 2, gd p 3, gd p 4, gd p 5, gd p 6, gd p 7, gd p 8, gd p 9, gd p 10, gd p 11, gd p 12, gd p 13, gd p 14, gd q 0, .i 0, .i 0, f, .i ((gd p 9).rows.length : Int), gd p 0, gd p 1, gd p 2, gd p 3, gd p 4, gd p 5, gd p 6, gd p 7, gd p 8, gd p 9, gd p 10, gd p 11, gd p 12, gd p 13, gd p 14] = _
    rw [s_TownValueR0]
    simp only [int_i, c_nlt]
def s_TownValueE : Ent := (26, e2 (ag rITown) ri fun p q => (⟨ri, [townValue p [gd q 0]]⟩, true))
theorem s_TownValue_ok : EntOk Tryz.prog s_TownValueE := e2_ok fun p q h => evFn_sound (N := (gd p 9).rows.length + 1) (ks := s_TownValueK) (key := bo) s_TownValueT_ok (enters Tryz.func26 (by kernel_rfl) (by kernel_rfl)) Tryz.func26 fun hw => by
  rw [s_TownValue_ev]
  refine congrArg (fun x => some (bo, x)) ?_
  show (bif !(townOk p) then oi (-1) else bif !(inB (gd q 0).int 0 999) then oi (-1) else s_TownValues2 ((gd p 9).rows.length + 1) p q) = some (1, [townValue p q])
  unfold townValue
  cases ht : townOk p with
  | false => rfl
  | true =>
   cases hk0 : inB (gd q 0).int 0 999 with
   | false => rfl
   | true =>
    simp only [Bool.not_true, cond_false, Bool.and_self, cond_true]
    rw [show s_TownValues2 ((gd p 9).rows.length + 1) p q = (bif ltI 0 ((townFree p q).rows.length : Int) then nd (inRange 0 (townFree p q).rows.length) (nd (inRange (gd ((townFree p q).rows.getD 0 []) 0).int (gd p 9).rows.length) (some (1, [storeGetD (cellsOf p (gd ((townFree p q).rows.getD 0 []) 0).int.toNat) (gd q 0).int]))) else nd (iter (s_TownValueL0 ((gd p 9).rows.length + 1) p q) ((gd p 9).rows.length + 1) [gd p 0, gd p 1, gd p 2, gd p 3, gd p 4, gd p 5, gd p 6, gd p 7, gd p 8, gd p 9, gd p 10, gd p 11, gd p 12, gd p 13, gd p 14, gd q 0, .i 0, .i 0, townFree p q, .i 0, gd p 0, gd p 1, gd p 2, gd p 3, gd p 4, gd p 5, gd p 6, gd p 7, gd p 8, gd p 9, gd p 10, gd p 11, gd p 12, gd p 13, gd p 14]).isSome (bif Out.code (iter (s_TownValueL0 ((gd p 9).rows.length + 1) p q) ((gd p 9).rows.length + 1) [gd p 0, gd p 1, gd p 2, gd p 3, gd p 4, gd p 5, gd p 6, gd p 7, gd p 8, gd p 9, gd p 10, gd p 11, gd p 12, gd p 13, gd p 14, gd q 0, .i 0, .i 0, townFree p q, .i 0, gd p 0, gd p 1, gd p 2, gd p 3, gd p 4, gd p 5, gd p 6, gd p 7, gd p 8, gd p 9, gd p 10, gd p 11, gd p 12, gd p 13, gd p 14]) == 1 then some (1, Out.pay (iter (s_TownValueL0 ((gd p 9).rows.length + 1) p q) ((gd p 9).rows.length + 1) [gd p 0, gd p 1, gd p 2, gd p 3, gd p 4, gd p 5, gd p 6, gd p 7, gd p 8, gd p 9, gd p 10, gd p 11, gd p 12, gd p 13, gd p 14, gd q 0, .i 0, .i 0, townFree p q, .i 0, gd p 0, gd p 1, gd p 2, gd p 3, gd p 4, gd p 5, gd p 6, gd p 7, gd p 8, gd p 9, gd p 10, gd p 11, gd p 12, gd p 13, gd p 14])) else nd (Out.code (iter (s_TownValueL0 ((gd p 9).rows.length + 1) p q) ((gd p 9).rows.length + 1) [gd p 0, gd p 1, gd p 2, gd p 3, gd p 4, gd p 5, gd p 6, gd p 7, gd p 8, gd p 9, gd p 10, gd p 11, gd p 12, gd p 13, gd p 14, gd q 0, .i 0, .i 0, townFree p q, .i 0, gd p 0, gd p 1, gd p 2, gd p 3, gd p 4, gd p 5, gd p 6, gd p 7, gd p 8, gd p 9, gd p 10, gd p 11, gd p 12, gd p 13, gd p 14]) == 2) (oi (-1)))) from by kernel_rfl]
    rw [s_TVx p q (townFree p q) ht hk0]
    rw [free_t ht hk0]
    simp only [rows_l]
    unfold townPick
    cases hp : pickC (townFreeCF p q) (gd p 9).rows.length with
    | some i =>
      obtain ⟨t, e⟩ := freeRows_some hp
      have hi := pick_lt hp
      rw [e]
      have e0 : ltI 0 (([D.i (i : Int)] :: t).length : Int) = true := ltI_t (by simp only [List.length_cons]; omega)
      rw [e0, cond_true]
      show nd (inRange 0 (t.length + 1)) (nd (inRange (i : Int) (gd p 9).rows.length) (some (1, [storeGetD (cellsOf p (i : Int).toNat) (gd q 0).int]))) = _
      rw [show inRange 0 (t.length + 1) = true from in0 _, nd_true, nd_ix hi, Int.toNat_natCast]
      unfold storeGetD
      rw [town_cells ht hi]
      rfl
    | none =>
      rw [freeRows_none hp]
      rw [show ltI 0 ((([] : List (List D)).length : Nat) : Int) = false from rfl, cond_false]
      cases hq : pickC (ownQ p q) (gd p 9).rows.length with
      | some i => rfl
      | none => rfl

end Go.Proofs.YtchceahcaaibcaaGreat
