/-
  The town: what is found by halving; new cells. Printed by sym.py.
-/
import Derived.Test.YtchceahcaaibcaaGreatT6
namespace Go.Proofs.YtchceahcaaibcaaGreat
set_option linter.unusedSimpArgs false
set_option linter.unusedVariables false
set_option maxRecDepth 4096
set_option maxHeartbeats 1000000
/-! loop.example/g00097/impl.cellFor$1 -/
abbrev i_cellFor_1T : FuncId → List T → Option (T × Bool) := find []
theorem i_cellFor_1T_ok : CallOk Tryz.prog i_cellFor_1T := find_ok (List.forall_mem_nil _)
abbrev i_cellFor_1K : List Nat := [0, 1, 2, 4]
theorem i_cellFor_1_ev (N : Nat) (p q : List D) : evFn Tryz.prog i_cellFor_1T N i_cellFor_1K Tryz.f290 ri [⟨ag rICell, p⟩, ⟨ri, q⟩] = some (bo,
  oi (w64 ((gd p 0).int - (gd q 0).int))) := by kernel_rfl
def i_cellFor_1E : Ent := (290, e2 (ag rICell) ri fun p q => (⟨ri, [.i (w64 ((gd p 0).int - (gd q 0).int))]⟩, true))
theorem i_cellFor_1_ok : EntOk Tryz.prog i_cellFor_1E := e2_ok fun p q h => evFn_sound (N := 0) (ks := i_cellFor_1K) (key := bo) i_cellFor_1T_ok (enters Tryz.func290 (by kernel_rfl) (by kernel_rfl)) Tryz.func290 fun hw => by
  rw [i_cellFor_1_ev]
  skip

/-! slices.BinarySearchFunc[[]loop.example/g00097/impl.Cell,loop.example/g00097/impl.Cell,int] -/
abbrev bsCT : FuncId → List T → Option (T × Bool) := find [i_cellFor_1E]
theorem bsCT_ok : CallOk Tryz.prog bsCT := find_ok (List.forall_mem_cons.2 ⟨i_cellFor_1_ok, List.forall_mem_nil _⟩)
abbrev bsCK : List Nat := [0, 1, 2, 6, 7, 8, 9, 10, 11, 17, 31]
noncomputable def bsCL0 (N : Nat) (p q r : List D) : List D → Out := loopOf Tryz.prog bsCT N bsCK Tryz.f289 (.tup [.c (.d si), .c (.d (.bool))]) [⟨sd (.sl 176), p⟩, ⟨ri, q⟩, ⟨.one (.c (.fn 290 [])), r⟩] 0
/- x0=t0(sd (.sl 176)) x1=t1(ri) x2=t2(.one (.c (.fn 290 []))) x3=t6(ri) x4=t7(.one (.c (.kb false))) x5=t8(ri) x6=t9(ri) x7=t10(ri) -/
theorem bsCR0 (N : Nat) (p q r : List D) (x0 x1 x2 x3 x4 x5 x6 x7 : D) : (bsCL0 N p q r) [x0, x1, x2, x3, x4, x5, x6, x7] =
  bif ltI x6.int x7.int then nd (leI 0 1) (nd (inRange (w64 ((IntKind.u64.wrap (w64 (x6.int + x7.int))).fdiv (2 ^ (min 1 64)))) x0.rows.length) (bif ltI (w64 ((gd (x0.rows.getD (w64 ((IntKind.u64.wrap (w64 (x6.int + x7.int))).fdiv (2 ^ (min 1 64)))).toNat []) 0).int - x1.int)) 0 then nx [x0, x1, x2, x3, x4, x5, .i (w64 ((w64 ((IntKind.u64.wrap (w64 (x6.int + x7.int))).fdiv (2 ^ (min 1 64)))) + 1)), x7]
  else nx [x0, x1, x2, x3, x4, x5, x6, .i (w64 ((IntKind.u64.wrap (w64 (x6.int + x7.int))).fdiv (2 ^ (min 1 64))))]))
  else ex 0 [x0, x1, x2, x3, x4, x5, x6, x7] := by kernel_rfl
noncomputable def bsCs0 (N : Nat) (p q r : List D) : Out := let o0 := iter (bsCL0 N p q r) N [gd p 0, gd q 0, gd r 0, .i 0, .i 0, .i ((gd p 0).rows.length : Int), .i 0, .i ((gd p 0).rows.length : Int)]; nd o0.isSome (nd (o0.code == 2) (bif ltI (gd o0.pay 6).int (gd o0.pay 5).int then nd (inRange (gd o0.pay 6).int (gd o0.pay 0).rows.length) (some (1, [gd o0.pay 6, .b ((w64 ((gd ((gd o0.pay 0).rows.getD (gd o0.pay 6).int.toNat []) 0).int - (gd o0.pay 1).int)) == 0)])) else some (1, [gd o0.pay 6, .b false])))
theorem bsC_ev (N : Nat) (p q r : List D) : evFn Tryz.prog bsCT N bsCK Tryz.f289 (.tup [.c (.d si), .c (.d (.bool))]) [⟨sd (.sl 176), p⟩, ⟨ri, q⟩, ⟨.one (.c (.fn 290 [])), r⟩] = some (bo, (bsCs0 N p q r)) := by kernel_rfl
def keyAt (z : D) (k : Nat) : Int := (gd (z.rows.getD k []) 0).int
def lowN (z : D) (t : Int) : Nat := cnt (fun k => ltI (keyAt z k) t) 0 z.rows.length
def bsB (z : D) (t : Int) : Bool := ltI (lowN z t : Int) (z.rows.length : Int) && (keyAt z (lowN z t) == t)
theorem cnt_add (C : Nat → Bool) : ∀ b k a, cnt C k (a + b) = cnt C k a + cnt C (k + a) b
  | 0, k, a => rfl
  | b + 1, k, a => by
    rw [← Nat.add_assoc, cnt_succ, cnt_succ, cnt_add C b k a, Nat.add_assoc, Nat.add_assoc]
theorem cnt_yes {C : Nat → Bool} : ∀ m k, (∀ j, j < m → C (k + j) = true) → cnt C k m = m
  | 0, _, _ => rfl
  | m + 1, k, h => by rw [cnt_succ, cnt_yes m k (fun j hj => h j (by omega)), h m (by omega)]; rfl
theorem cnt_no {C : Nat → Bool} : ∀ m k, (∀ j, j < m → C (k + j) = false) → cnt C k m = 0
  | 0, _, _ => rfl
  | m + 1, k, h => by rw [cnt_succ, cnt_no m k (fun j hj => h j (by omega)), h m (by omega)]; rfl
theorem lowN_eq {z : D} {t : Int} {i : Nat} (hi : i ≤ z.rows.length) (h1 : ∀ k, k < i → keyAt z k < t) (h2 : ∀ k, i ≤ k → k < z.rows.length → t ≤ keyAt z k) : lowN z t = i := by
  unfold lowN
  obtain ⟨m, hm⟩ : ∃ m, z.rows.length = i + m := ⟨z.rows.length - i, by omega⟩
  rw [hm, cnt_add, cnt_yes i 0 (fun j hj => by rw [Nat.zero_add]; exact ltI_t (h1 j hj)), cnt_no m (0 + i) (fun j hj => by rw [Nat.zero_add]; exact ltI_f (h2 (i + j) (by omega) (by omega)))]
  omega
structure Sorted (z : D) : Prop where
  len : z.rows.length ≤ 60
  key : ∀ k, k < z.rows.length → 0 ≤ keyAt z k ∧ keyAt z k ≤ 999
  lt : ∀ i j, i < j → j < z.rows.length → keyAt z i < keyAt z j
theorem store_sorted {z : D} (h : storeOk z = true) : Sorted z := by
  simp only [storeOk, Bool.and_eq_true, List.all_eq_true, List.mem_range, leI, decide_eq_true_eq] at h
  obtain ⟨h, hl⟩ := h
  refine ⟨by omega, fun k hk => ?_, fun i j hij hj => ?_⟩
  · have := h k hk
    cases k with
    | zero => simp only [storeAt, Bool.and_eq_true, inB, decide_eq_true_eq] at this; exact ⟨this.1.1, this.1.2⟩
    | succ k => simp only [storeAt, Bool.and_eq_true, inB, decide_eq_true_eq] at this; exact ⟨this.1.1, this.1.2⟩
  · obtain ⟨d, rfl⟩ : ∃ d, j = i + d + 1 := ⟨j - i - 1, by omega⟩
    have hs : ∀ k, k + 1 < z.rows.length → keyAt z k < keyAt z (k + 1) := fun k hk => by
      have := h (k + 1) hk
      simp only [storeAt, Bool.and_eq_true, leI, Bool.not_eq_true', decide_eq_false_iff_not] at this
      unfold keyAt
      omega
    clear hij
    induction d with
    | zero => exact hs i hj
    | succ d ih => exact Int.lt_trans (ih (by omega)) (hs (i + d + 1) hj)
theorem u64_id {x : Int} (h : 0 ≤ x) (h' : x ≤ 9223372036854775807) : IntKind.u64.wrap x = x := by
  simp only [IntKind.wrap, IntKind.signed, IntKind.bits]
  simp
  omega
theorem half {i j : Nat} (h : i + j ≤ 1000) : w64 ((IntKind.u64.wrap (w64 ((i : Int) + (j : Int)))).fdiv (2 ^ (min 1 64))) = (((i + j) / 2 : Nat) : Int) := by
  rw [w64_id (x := (i : Int) + j) (by omega) (by omega), u64_id (by omega) (by omega), show ((2 : Int) ^ (min 1 64)) = ((2 : Nat) : Int) from rfl, show ((i : Int) + (j : Int)) = ((i + j : Nat) : Int) from by omega, ← Int.ofNat_fdiv, w64_id (by omega) (by omega)]
theorem bs_loop (p q r : List D) (N : Nat) (hz : Sorted (gd p 0)) (ht : inB (gd q 0).int 0 999 = true) : ∀ (d i j M : Nat), j = i + d → j ≤ (gd p 0).rows.length → d < M → (∀ k, k < i → keyAt (gd p 0) k < (gd q 0).int) → (∀ k, j ≤ k → k < (gd p 0).rows.length → (gd q 0).int ≤ keyAt (gd p 0) k) →
    iter (bsCL0 N p q r) M [gd p 0, gd q 0, gd r 0, .i 0, .i 0, .i ((gd p 0).rows.length : Int), .i (i : Int), .i (j : Int)] = some (2, [gd p 0, gd q 0, gd r 0, .i 0, .i 0, .i ((gd p 0).rows.length : Int), .i (lowN (gd p 0) (gd q 0).int : Int), .i (lowN (gd p 0) (gd q 0).int : Int)]) := by
  intro d
  induction d using Nat.strongRecOn with
  | _ d ih =>
  intro i j M hj hn hM h1 h2
  have hlen := hz.len
  simp only [inB, Bool.and_eq_true, decide_eq_true_eq] at ht
  obtain ⟨M, rfl⟩ : ∃ M', M = M' + 1 := ⟨M - 1, by omega⟩
  rw [iter, bsCR0]
  simp only [int_i]
  by_cases hd : d = 0
  · subst hd
    obtain rfl : j = i := by omega
    rw [c_nlt, lowN_eq hn h1 h2]
    rfl
  · rw [c_lt (show i < j from by omega)]
    have hh : (i + j) / 2 < (gd p 0).rows.length := by omega
    simp only [half (show i + j ≤ 1000 from by omega), nd_ix hh, Int.toNat_natCast, show leI 0 1 = true from rfl, nd_true]
    have hk := hz.key _ hh
    rw [show (gd ((gd p 0).rows.getD ((i + j) / 2) []) 0).int = keyAt (gd p 0) ((i + j) / 2) from rfl, w64_id (x := keyAt (gd p 0) ((i + j) / 2) - (gd q 0).int) (by omega) (by omega)]
    by_cases hc : keyAt (gd p 0) ((i + j) / 2) < (gd q 0).int
    · rw [ltI_t (show keyAt (gd p 0) ((i + j) / 2) - (gd q 0).int < 0 from by omega), cond_true]
      simp only [w64_succ hh (show (gd p 0).rows.length ≤ 9223372036854775807 from by omega)]
      exact ih (j - ((i + j) / 2 + 1)) (by omega) ((i + j) / 2 + 1) j M (by omega) hn (by omega) (fun k hk' => by
        rcases Nat.lt_or_ge k ((i + j) / 2) with h | h
        · have := hz.lt k _ h hh; omega
        · obtain rfl : k = (i + j) / 2 := by omega
          exact hc) h2
    · rw [ltI_f (show 0 ≤ keyAt (gd p 0) ((i + j) / 2) - (gd q 0).int from by omega), cond_false]
      exact ih ((i + j) / 2 - i) (by omega) i ((i + j) / 2) M (by omega) (by omega) (by omega) h1 (fun k hk1 hk2 => by
        rcases Nat.lt_or_ge ((i + j) / 2) k with h | h
        · have := hz.lt _ k h hk2; omega
        · obtain rfl : k = (i + j) / 2 := by omega
          omega)
def bsCE : Ent := (289, e3 (sd (.sl 176)) ri (.one (.c (.fn 290 []))) fun p q r => (⟨.tup [.c (.d si), .c (.d (.bool))], [.i (lowN (gd p 0) (gd q 0).int : Int), .b (bsB (gd p 0) (gd q 0).int)]⟩, storeOk (gd p 0) && inB (gd q 0).int 0 999))
theorem bsC_ok : EntOk Tryz.prog bsCE := e3_ok fun p q r h => evFn_sound (N := 61) (ks := bsCK) (key := bo) bsCT_ok (enters Tryz.func289 (by kernel_rfl) (by kernel_rfl)) Tryz.func289 fun hw => by
  rw [bsC_ev]
  have h : (storeOk (gd p 0) && inB (gd q 0).int 0 999) = true := h
  simp only [Bool.and_eq_true] at h
  have hz := store_sorted h.1
  have hlen := hz.len
  have e := bs_loop p q r 61 hz h.2 (gd p 0).rows.length 0 (gd p 0).rows.length 61 (by omega) (Nat.le_refl _) (by omega) (fun k hk => absurd hk (Nat.not_lt_zero _)) (fun k h1 h2 => absurd h2 (by omega))
  simp only [Int.natCast_zero] at e
  unfold bsCs0
  rw [e]
  simp only [nd, cond_true, cond_false, Option.isSome_some, Out.code, Out.pay, Option.getD_some, gd_cons_zero, gd_cons_succ, Nat.reduceBEq, Nat.reduceAdd, int_i, bool_b, str_s, rows_l, Bool.not_true, Bool.not_false, beq_self_eq_true]
  unfold bsB
  have ht := h.2
  simp only [inB, Bool.and_eq_true, decide_eq_true_eq] at ht
  by_cases hb : lowN (gd p 0) (gd q 0).int < (gd p 0).rows.length
  · have hk := hz.key _ hb
    rw [ltI_nat hb, inRange_nat hb, Int.toNat_natCast, show (gd ((gd p 0).rows.getD (lowN (gd p 0) (gd q 0).int) []) 0).int = keyAt (gd p 0) (lowN (gd p 0) (gd q 0).int) from rfl, w64_id (x := keyAt (gd p 0) (lowN (gd p 0) (gd q 0).int) - (gd q 0).int) (by omega) (by omega)]
    rw [show (keyAt (gd p 0) (lowN (gd p 0) (gd q 0).int) - (gd q 0).int == 0) = (keyAt (gd p 0) (lowN (gd p 0) (gd q 0).int) == (gd q 0).int) from by
      rw [Bool.eq_iff_iff]; simp only [beq_iff_eq]; omega]
    rfl
  · rw [ltI_f (show ((gd p 0).rows.length : Int) ≤ (lowN (gd p 0) (gd q 0).int : Int) from by omega)]
    rfl

/-! loop.example/g00097/impl.cellFor -/
abbrev i_cellForT : FuncId → List T → Option (T × Bool) := find [bsCE]
theorem i_cellForT_ok : CallOk Tryz.prog i_cellForT := find_ok (List.forall_mem_cons.2 ⟨bsC_ok, List.forall_mem_nil _⟩)
abbrev i_cellForK : List Nat := [0, 1, 4, 5]
theorem i_cellFor_ev (N : Nat) (p q : List D) : evFn Tryz.prog i_cellForT N i_cellForK Tryz.f205 (.tup [.c (.d si), .c (.d (.bool))]) [⟨sd (.sl 176), p⟩, ⟨ri, q⟩] = some (bo,
  nd (storeOk (gd p 0) && inB (gd q 0).int 0 999) (some (1, [.i (lowN (gd p 0) (gd q 0).int : Int), .b (bsB (gd p 0) (gd q 0).int)]))) := by kernel_rfl
def i_cellForE : Ent := (205, e2 (sd (.sl 176)) ri fun p q => (⟨.tup [.c (.d si), .c (.d (.bool))], [.i (lowN (gd p 0) (gd q 0).int : Int), .b (bsB (gd p 0) (gd q 0).int)]⟩, storeOk (gd p 0) && inB (gd q 0).int 0 999))
theorem i_cellFor_ok : EntOk Tryz.prog i_cellForE := e2_ok fun p q h => evFn_sound (N := 0) (ks := i_cellForK) (key := bo) i_cellForT_ok (enters Tryz.func205 (by kernel_rfl) (by kernel_rfl)) Tryz.func205 fun hw => by
  rw [i_cellFor_ev]
  have h : (storeOk (gd p 0) && inB (gd q 0).int 0 999) = true := h
  rw [h, nd_true]

/-! loop.example/g00097/impl.valueOf -/
abbrev i_valueOfT : FuncId → List T → Option (T × Bool) := find [i_cellForE]
theorem i_valueOfT_ok : CallOk Tryz.prog i_valueOfT := find_ok (List.forall_mem_cons.2 ⟨i_cellFor_ok, List.forall_mem_nil _⟩)
abbrev i_valueOfK : List Nat := [0, 1, 4, 5, 6, 14]
theorem i_valueOf_ev (N : Nat) (p q : List D) : evFn Tryz.prog i_valueOfT N i_valueOfK Tryz.f97 ri [⟨sd (.sl 176), p⟩, ⟨ri, q⟩] = some (bo,
  nd (storeOk (gd p 0) && inB (gd q 0).int 0 999) (bif !(bsB (gd p 0) (gd q 0).int) then oi (-1)
  else nd (inRange (lowN (gd p 0) (gd q 0).int : Int) (gd p 0).rows.length) (some (1, [gd ((gd p 0).rows.getD (lowN (gd p 0) (gd q 0).int : Int).toNat []) 1])))) := by kernel_rfl
def valD (z : D) (t : Int) : D := bif bsB z t then gd (z.rows.getD (lowN z t) []) 1 else .i (-1)
def i_valueOfE : Ent := (97, e2 (sd (.sl 176)) ri fun p q => (⟨ri, [valD (gd p 0) (gd q 0).int]⟩, storeOk (gd p 0) && inB (gd q 0).int 0 999))
theorem i_valueOf_ok : EntOk Tryz.prog i_valueOfE := e2_ok fun p q h => evFn_sound (N := 0) (ks := i_valueOfK) (key := bo) i_valueOfT_ok (enters Tryz.func97 (by kernel_rfl) (by kernel_rfl)) Tryz.func97 fun hw => by
  rw [i_valueOf_ev]
  have h : (storeOk (gd p 0) && inB (gd q 0).int 0 999) = true := h
  rw [h, nd_true]
  unfold valD
  cases hb : bsB (gd p 0) (gd q 0).int
  · rfl
  · have hb' := hb
    simp only [bsB, Bool.and_eq_true, ltI, decide_eq_true_eq] at hb'
    rw [inRange_nat (show lowN (gd p 0) (gd q 0).int < (gd p 0).rows.length from by omega)]
    rfl

/-! loop.example/g00097/spec.l11Get -/
abbrev s_l11GetT : FuncId → List T → Option (T × Bool) := find []
theorem s_l11GetT_ok : CallOk Tryz.prog s_l11GetT := find_ok (List.forall_mem_nil _)
abbrev s_l11GetK : List Nat := [0, 1, 4, 5, 9, 18]
noncomputable def s_l11GetL0 (N : Nat) (p q : List D) : List D → Out := loopOf Tryz.prog s_l11GetT N s_l11GetK Tryz.f109 ri [⟨sd (.sl 176), p⟩, ⟨ri, q⟩] 0
/- x0=t0(sd (.sl 176)) x1=t1(ri) x2=t4(ri) x3=t5(ri) -/
theorem s_l11GetR0 (N : Nat) (p q : List D) (x0 x1 x2 x3 : D) : (s_l11GetL0 N p q) [x0, x1, x2, x3] =
  bif ltI x3.int (x0.rows.length : Int) then nd (inRange x3.int x0.rows.length) (bif (gd (x0.rows.getD x3.int.toNat []) 0).int == x1.int then nd (inRange x3.int x0.rows.length) (some (1, [gd (x0.rows.getD x3.int.toNat []) 1]))
  else nx [x0, x1, x2, .i (w64 (x3.int + 1))])
  else ex 0 [x0, x1, x2, x3] := by kernel_rfl
theorem s_l11Get_ev (N : Nat) (p q : List D) : evFn Tryz.prog s_l11GetT N s_l11GetK Tryz.f109 ri [⟨sd (.sl 176), p⟩, ⟨ri, q⟩] = some (bo,
  (let o0 := iter (s_l11GetL0 N p q) N [gd p 0, gd q 0, .i 0, .i 0]
   nd o0.isSome (bif o0.code == 1 then some (1, o0.pay)
   else nd (o0.code == 2) (oi (-1))))) := by kernel_rfl
theorem scan_at {ex : Nat → Option (Nat × List D)} {o : Nat × List D} : ∀ (m k i : Nat), i < m → ex (k + i) = some o → (∀ j, j < i → ex (k + j) = none) → scan ex k m = some o
  | 0, _, _, h, _, _ => absurd h (Nat.not_lt_zero _)
  | m + 1, k, 0, _, h, _ => by rw [scan, show ex k = some o from h]
  | m + 1, k, i + 1, hi, h, hn => by
    rw [scan, show ex k = none from hn 0 (by omega)]
    exact scan_at m (k + 1) i (by omega) (by rw [show k + 1 + i = k + (i + 1) from by omega]; exact h) fun j hj => by rw [show k + 1 + j = k + (j + 1) from by omega]; exact hn (j + 1) (by omega)
theorem scan_no {ex : Nat → Option (Nat × List D)} : ∀ (m k : Nat), (∀ j, j < m → ex (k + j) = none) → scan ex k m = none
  | 0, _, _ => rfl
  | m + 1, k, h => by
    rw [scan, show ex k = none from h 0 (by omega)]
    exact scan_no m (k + 1) fun j hj => by rw [show k + 1 + j = k + (j + 1) from by omega]; exact h (j + 1) (by omega)
def s_l11GetE : Ent := (109, e2 (sd (.sl 176)) ri fun p q => (⟨ri, [valD (gd p 0) (gd q 0).int]⟩, storeOk (gd p 0)))
theorem s_l11Get_ok : EntOk Tryz.prog s_l11GetE := e2_ok fun p q h => evFn_sound (N := 61) (ks := s_l11GetK) (key := bo) s_l11GetT_ok (enters Tryz.func109 (by kernel_rfl) (by kernel_rfl)) Tryz.func109 fun hw => by
  rw [s_l11Get_ev]
  have h : storeOk (gd p 0) = true := h
  have hz := store_sorted h
  have hlen := hz.len
  have e := iter_scan (step := s_l11GetL0 61 p q) (fun k => [gd p 0, gd q 0, .i 0, .i (k : Int)]) (fun k => bif keyAt (gd p 0) k == (gd q 0).int then some (1, [gd ((gd p 0).rows.getD k []) 1]) else none) (2, [gd p 0, gd q 0, .i 0, .i ((gd p 0).rows.length : Int)]) (n := (gd p 0).rows.length) (fun k hk => ?_) (fun k o h => ?_) ?_ (by simp) (gd p 0).rows.length 0 61 (by omega) (by omega)
  · simp only [Int.natCast_zero] at e
    rw [e]
    unfold valD
    cases hb : bsB (gd p 0) (gd q 0).int
    · rw [scan_no _ _ fun j hj => ?_]
      · rfl
      · rw [Nat.zero_add]
        cases hk : keyAt (gd p 0) j == (gd q 0).int
        · rfl
        · have hk := eq_of_beq hk
          have hl : lowN (gd p 0) (gd q 0).int = j := lowN_eq (by omega) (fun k hkj => by have := hz.lt k j hkj hj; omega) (fun k h1 h2 => by
            rcases Nat.lt_or_ge j k with h | h
            · have := hz.lt j k h h2; omega
            · obtain rfl : k = j := by omega
              omega)
          unfold bsB at hb
          rw [hl, ltI_nat hj, hk, beq_self_eq_true] at hb
          cases hb
    · simp only [bsB, Bool.and_eq_true, ltI, decide_eq_true_eq] at hb
      have hlt : lowN (gd p 0) (gd q 0).int < (gd p 0).rows.length := by omega
      rw [scan_at _ _ (lowN (gd p 0) (gd q 0).int) hlt (by rw [Nat.zero_add, hb.2]; rfl) fun j hj => ?_]
      · rfl
      · rw [Nat.zero_add, show (keyAt (gd p 0) j == (gd q 0).int) = false from beq_eq_false_iff_ne.2 (by
          have := hz.lt j _ hj hlt
          have := eq_of_beq hb.2
          omega)]
        rfl
  · show s_l11GetL0 _ p q [_, _, _, .i (k : Int)] = _
    rw [s_l11GetR0]
    simp only [int_i, c_lt hk, nd_ix hk, w64_succ hk (show (gd p 0).rows.length ≤ 9223372036854775807 from by omega), Int.toNat_natCast]
    rw [show (gd ((gd p 0).rows.getD k []) 0).int = keyAt (gd p 0) k from rfl]
    cases keyAt (gd p 0) k == (gd q 0).int <;> rfl
  · cases hc : keyAt (gd p 0) k == (gd q 0).int
    · rw [hc] at h; cases h
    · rw [hc, cond_true] at h
      injection h with h
      rw [← h]; simp
  · show s_l11GetL0 _ p q [_, _, _, .i ((gd p 0).rows.length : Int)] = _
    rw [s_l11GetR0]
    simp only [int_i, c_nlt]

end Go.Proofs.YtchceahcaaibcaaGreat
