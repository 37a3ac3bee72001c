/-
  The town: TownSettled. Printed by sym.py.
-/
import Derived.Test.YtchceahcaaibcaaGreatT18
namespace Go.Proofs.YtchceahcaaibcaaGreat
set_option maxRecDepth 4096
set_option maxHeartbeats 1000000
set_option linter.unusedSimpArgs false
set_option linter.unusedVariables false
/-! loop.example/g00097/impl.TownSettled -/
abbrev i_TownSettledT : FuncId → List T → Option (T × Bool) := find [i_TownOkE, coIE]
theorem i_TownSettledT_ok : CallOk Tryz.prog i_TownSettledT := find_ok (List.forall_mem_cons.2 ⟨i_TownOk_ok, List.forall_mem_cons.2 ⟨coI_ok, List.forall_mem_nil _⟩⟩)
abbrev i_TownSettledK : List Nat := [0, 1, 2, 4, 6, 9, 12, 13, 14, 15, 25, 26, 27, 28, 48, 1000009, 1000015, 1000028, 1000048]
noncomputable def i_TownSettledL0 (N : Nat) (p : List D) : List D → Out := loopOf Tryz.prog i_TownSettledT N i_TownSettledK Tryz.f19 rb [⟨ag rITown, p⟩] 0
noncomputable def i_TownSettledL2 (N : Nat) (p : List D) : List D → Out := loopOf Tryz.prog i_TownSettledT N i_TownSettledK Tryz.f19 rb [⟨ag rITown, p⟩] 2
/- x0=t0(.one (.agg [.d si, .d (.sl 97), .d si, .d si, .d si, .d si, .d si, .d si, .d (.sl 176), .d (.sl 80), .d (.sl 116), .d (.sl 3), .d (.sl 102), .d (.sl 85), .d (.sl 88)])) x15=t1(.one (.c (.ptr 1 0))) x16=t2(.one (.c (.kb false))) x17=t12(sd (.sl 3)) x18=t13(ri) x19=t14(ri) x20=box1[.d si, .d (.sl 97), .d si, .d si, .d si, .d si, .d si, .d si, .d (.sl 176), .d (.sl 80), .d (.sl 116), .d (.sl 3), .d (.sl 102), .d (.sl 85), .d (.sl 88)] -/
theorem i_TownSettledR0 (N : Nat) (p : List D) (x0 x1 x2 x3 x4 x5 x6 x7 x8 x9 x10 x11 x12 x13 x14 x15 x16 x17 x18 x19 x20 x21 x22 x23 x24 x25 x26 x27 x28 x29 x30 x31 x32 x33 x34 : D) : (i_TownSettledL0 N p) [x0, x1, x2, x3, x4, x5, x6, x7, x8, x9, x10, x11, x12, x13, x14, x15, x16, x17, x18, x19, x20, x21, x22, x23, x24, x25, x26, x27, x28, x29, x30, x31, x32, x33, x34] =
  bif ltI x19.int x18.int then nd (inRange x19.int x17.rows.length) (nd (inRange (w64 ((gd (x17.rows.getD x19.int.toNat []) 0).int - 1)) x30.rows.length) ((let o2 := iter (i_TownSettledL2 N p) N [x0, x1, x2, x3, x4, x5, x6, x7, x8, x9, x10, x11, x12, x13, x14, x15, x16, x17, x18, x19, gd (x17.rows.getD x19.int.toNat []) 0, gd (x30.rows.getD (w64 ((gd (x17.rows.getD x19.int.toNat []) 0).int - 1)).toNat []) 4, .i ((gd (x30.rows.getD (w64 ((gd (x17.rows.getD x19.int.toNat []) 0).int - 1)).toNat []) 4).rows.length : Int), .i 0, x20, x21, x22, x23, x24, x25, x26, x27, x28, x29, x30, x31, x32, x33, x34]
   nd o2.isSome (bif o2.code == 1 then some (1, o2.pay)
   else nd (o2.code == 4) (nx [gd o2.pay 0, gd o2.pay 1, gd o2.pay 2, gd o2.pay 3, gd o2.pay 4, gd o2.pay 5, gd o2.pay 6, gd o2.pay 7, gd o2.pay 8, gd o2.pay 9, gd o2.pay 10, gd o2.pay 11, gd o2.pay 12, gd o2.pay 13, gd o2.pay 14, gd o2.pay 15, gd o2.pay 16, gd o2.pay 17, gd o2.pay 18, .i (w64 ((gd o2.pay 19).int + 1)), gd o2.pay 24, gd o2.pay 25, gd o2.pay 26, gd o2.pay 27, gd o2.pay 28, gd o2.pay 29, gd o2.pay 30, gd o2.pay 31, gd o2.pay 32, gd o2.pay 33, gd o2.pay 34, gd o2.pay 35, gd o2.pay 36, gd o2.pay 37, gd o2.pay 38])))))
  else ex 0 [x0, x1, x2, x3, x4, x5, x6, x7, x8, x9, x10, x11, x12, x13, x14, x15, x16, x17, x18, x19, x20, x21, x22, x23, x24, x25, x26, x27, x28, x29, x30, x31, x32, x33, x34] := by kernel_rfl
/- x0=t0(.one (.agg [.d si, .d (.sl 97), .d si, .d si, .d si, .d si, .d si, .d si, .d (.sl 176), .d (.sl 80), .d (.sl 116), .d (.sl 3), .d (.sl 102), .d (.sl 85), .d (.sl 88)])) x15=t1(.one (.c (.ptr 1 0))) x16=t2(.one (.c (.kb false))) x17=t12(sd (.sl 3)) x18=t13(ri) x19=t14(ri) x20=t4(ri) x21=t25(sd (.sl 118)) x22=t26(ri) x23=t27(ri) x24=box1[.d si, .d (.sl 97), .d si, .d si, .d si, .d si, .d si, .d si, .d (.sl 176), .d (.sl 80), .d (.sl 116), .d (.sl 3), .d (.sl 102), .d (.sl 85), .d (.sl 88)] -/
theorem i_TownSettledR2 (N : Nat) (p : List D) (x0 x1 x2 x3 x4 x5 x6 x7 x8 x9 x10 x11 x12 x13 x14 x15 x16 x17 x18 x19 x20 x21 x22 x23 x24 x25 x26 x27 x28 x29 x30 x31 x32 x33 x34 x35 x36 x37 x38 : D) : (i_TownSettledL2 N p) [x0, x1, x2, x3, x4, x5, x6, x7, x8, x9, x10, x11, x12, x13, x14, x15, x16, x17, x18, x19, x20, x21, x22, x23, x24, x25, x26, x27, x28, x29, x30, x31, x32, x33, x34, x35, x36, x37, x38] =
  bif ltI x23.int x22.int then nd (inRange x23.int x21.rows.length) (bif ltI (gd (x21.rows.getD x23.int.toNat []) 0).int (x33.rows.length : Int) then nd (inRange (gd (x21.rows.getD x23.int.toNat []) 0).int x33.rows.length) (bif !(hasInt (gd (x33.rows.getD (gd (x21.rows.getD x23.int.toNat []) 0).int.toNat []) 7) x20.int) then ob false
  else nx [x0, x1, x2, x3, x4, x5, x6, x7, x8, x9, x10, x11, x12, x13, x14, x15, x16, x17, x18, x19, x20, x21, x22, .i (w64 (x23.int + 1)), x24, x25, x26, x27, x28, x29, x30, x31, x32, x33, x34, x35, x36, x37, x38])
  else nx [x0, x1, x2, x3, x4, x5, x6, x7, x8, x9, x10, x11, x12, x13, x14, x15, x16, x17, x18, x19, x20, x21, x22, .i (w64 (x23.int + 1)), x24, x25, x26, x27, x28, x29, x30, x31, x32, x33, x34, x35, x36, x37, x38])
  else ex 2 [x0, x1, x2, x3, x4, x5, x6, x7, x8, x9, x10, x11, x12, x13, x14, x15, x16, x17, x18, x19, x20, x21, x22, x23, x24, x25, x26, x27, x28, x29, x30, x31, x32, x33, x34, x35, x36, x37, x38] := by kernel_rfl
noncomputable def i_TownSettleds0 (N : Nat) (p : List D) : Out := let o0 : Out := iter (i_TownSettledL0 N p) N [gd p 0, gd p 1, gd p 2, gd p 3, gd p 4, gd p 5, gd p 6, gd p 7, gd p 8, gd p 9, gd p 10, gd p 11, gd p 12, gd p 13, gd p 14, .i 0, .i 0, gd p 11, .i ((gd p 11).rows.length : Int), .i 0, gd p 0, gd p 1, gd p 2, gd p 3, gd p 4, gd p 5, gd p 6, gd p 7, gd p 8, gd p 9, gd p 10, gd p 11, gd p 12, gd p 13, gd p 14]; nd o0.isSome (bif o0.code == 1 then some (1, o0.pay) else nd (o0.code == 2) (ob true))
theorem i_TownSettled_ev (N : Nat) (p : List D) : evFn Tryz.prog i_TownSettledT N i_TownSettledK Tryz.f19 rb [⟨ag rITown, p⟩] = some (bo, nd (townSmall (sub p 0 15)) (bif !(townOk (sub p 0 15)) then ob false else (i_TownSettleds0 N p))) := by kernel_rfl
def shareT (p : List D) (tx : Int) (z : D) (j : Nat) : Bool := !ltI (gd (z.rows.getD j []) 0).int ((gd p 9).rows.length : Int) || hasInt (gd ((gd p 9).rows.getD (gd (z.rows.getD j []) 0).int.toNat []) 7) tx
def recSettled (p : List D) (tx : Int) (z : D) : Bool := (List.range z.rows.length).all (shareT p tx z)
def setI (p : List D) (k : Nat) : Bool := recSettled p (vAt (gd p 11) k) (gd ((gd p 10).rows.getD (vAt (gd p 11) k - 1).toNat []) 4)
def setS (p : List D) (i : Nat) : Bool := bif (gd ((gd p 10).rows.getD i []) 3).int == 3 then recSettled p (gd ((gd p 10).rows.getD i []) 0).int (gd ((gd p 10).rows.getD i []) 4) else true
def settledI (p : List D) : Bool := (List.range (gd p 11).rows.length).all (setI p)
def settledS (p : List D) : Bool := (List.range (gd p 10).rows.length).all (setS p)
def townSettled (p : List D) : Bool := townOk p && settledI p
theorem len_sub : ∀ (l m : List Int), l.Nodup → (∀ x ∈ l, x ∈ m) → l.length ≤ m.length
  | [], m, _, _ => Nat.zero_le _
  | x :: l, m, hn, hs => by
    have hx := hs x (by simp)
    have h1 := List.length_erase_of_mem hx
    have h2 := len_sub l (m.erase x) (List.nodup_cons.1 hn).2 (fun y hy => (List.mem_erase_of_ne (fun e => (List.nodup_cons.1 hn).1 (by rw [← e]; exact hy))).2 (hs y (by simp [hy])))
    have h3 := List.length_pos_of_mem hx
    simp only [List.length_cons]
    omega
theorem cnt_filter (C : Nat → Bool) : ∀ n, cnt C 0 n = ((List.range n).filter C).length
  | 0 => rfl
  | n + 1 => by
    rw [cnt_succ, cnt_filter C n, List.range_succ, List.filter_append, List.length_append, Nat.zero_add]
    cases h : C n <;> simp [List.filter, h]
structure CoordW (R O : D) : Prop where
  len : R.rows.length ≤ 60
  tx : ∀ i, i < R.rows.length → (gd (R.rows.getD i []) 0).int = ((i + 1 : Nat) : Int)
  sh : ∀ i, i < R.rows.length → sharesOk (gd (R.rows.getD i []) 4) = true
  ord : ∀ k, k < O.rows.length → 1 ≤ vAt O k ∧ vAt O k ≤ (R.rows.length : Int) ∧ (gd (R.rows.getD (vAt O k - 1).toNat []) 3).int = 3
  nodup : (numsOf O).Nodup
  all : cnt (isYes R) 0 R.rows.length = O.rows.length
theorem coordW {p : List D} (h : coordOk p = true) : CoordW (gd p 0) (gd p 1) := by
  unfold coordOk at h
  simp only [Bool.and_eq_true, decide_eq_true_eq, List.all_eq_true, List.mem_range, beq_iff_eq] at h
  obtain ⟨h1, h2, h3, h4⟩ := h
  have hr : ∀ i, i < (gd p 0).rows.length → (gd ((gd p 0).rows.getD i []) 0).int = ((i + 1 : Nat) : Int) ∧ sharesOk (gd ((gd p 0).rows.getD i []) 4) = true := fun i hi => by
    have := h2 i hi
    unfold recAt recOk at this
    simp only [Bool.and_eq_true, beq_iff_eq] at this
    exact ⟨this.1, this.2.1.2.2.1⟩
  have ho : ∀ k, k < (gd p 1).rows.length → (1 ≤ vAt (gd p 1) k ∧ vAt (gd p 1) k ≤ ((gd p 0).rows.length : Int)) ∧ (gd ((gd p 0).rows.getD (vAt (gd p 1) k - 1).toNat []) 3).int = 3 ∧ hasInt (.l ((gd p 1).rows.take k)) (vAt (gd p 1) k) = false := fun k hk => by
    have := h3 k hk
    unfold ordAt inB at this
    simp only [Bool.and_eq_true, beq_iff_eq, decide_eq_true_eq, Bool.not_eq_true'] at this
    exact ⟨⟨this.1.1, this.1.2⟩, this.2.1, this.2.2⟩
  refine ⟨h1, fun i hi => (hr i hi).1, fun i hi => (hr i hi).2, fun k hk => ⟨(ho k hk).1.1, (ho k hk).1.2, (ho k hk).2.1⟩, ?_, by omega⟩
  refine List.pairwise_iff_getElem.2 fun i j hi hj hij e => ?_
  have hj' : j < (gd p 1).rows.length := by rwa [numsOf_len] at hj
  have hn := (ho j hj').2.2
  rw [← Bool.not_eq_true, hasInt_iff] at hn
  refine hn ?_
  rw [← numsOf_v _ j hj, ← e]
  have e2 : numsOf (.l ((gd p 1).rows.take j)) = (numsOf (gd p 1)).take j := List.map_take
  rw [e2]
  exact List.mem_iff_getElem.2 ⟨i, by rw [List.length_take]; omega, by rw [List.getElem_take]⟩
/-- each number that is decided yes stands in the order -/
theorem CoordW.onto {R O : D} (h : CoordW R O) {i : Nat} (hi : i < R.rows.length) (hy : (gd (R.rows.getD i []) 3).int = 3) : ∃ k, k < O.rows.length ∧ vAt O k = ((i + 1 : Nat) : Int) := by
  let Y : List Int := ((List.range R.rows.length).filter (isYes R)).map fun i => ((i + 1 : Nat) : Int)
  have hmem : ∀ j, j < R.rows.length → isYes R j = true → ((j + 1 : Nat) : Int) ∈ Y := fun j hj hyj => List.mem_map.2 ⟨j, List.mem_filter.2 ⟨List.mem_range.2 hj, hyj⟩, rfl⟩
  have hsub : ∀ x ∈ numsOf O, x ∈ Y := fun x hx => by
    obtain ⟨k, hk, rfl⟩ := List.getElem_of_mem hx
    rw [numsOf_v]
    obtain ⟨a, b, c⟩ := h.ord k (by rwa [numsOf_len] at hk)
    have e : vAt O k = (((vAt O k - 1).toNat + 1 : Nat) : Int) := by omega
    rw [e]
    exact hmem _ (by omega) (by unfold isYes; rw [c]; rfl)
  have hlen : Y.length = (numsOf O).length := by
    rw [numsOf_len, ← h.all, cnt_filter, List.length_map]
  refine Classical.byContradiction fun hn => ?_
  have hx : ((i + 1 : Nat) : Int) ∉ numsOf O := fun hx => by
    obtain ⟨k, hk, e⟩ := List.getElem_of_mem hx
    rw [numsOf_v] at e
    exact hn ⟨k, by rwa [numsOf_len] at hk, e⟩
  have := len_sub (((i + 1 : Nat) : Int) :: numsOf O) Y (List.nodup_cons.2 ⟨hx, h.nodup⟩) (fun x hx => by
    rcases List.mem_cons.1 hx with rfl | hx
    · exact hmem i hi (by unfold isYes; rw [hy]; rfl)
    · exact hsub x hx)
  simp only [List.length_cons] at this
  omega
theorem town_coord {p : List D} (h : townOk p = true) : CoordW (gd p 10) (gd p 11) := by
  unfold townOk at h
  simp only [Bool.and_eq_true] at h
  exact coordW (p := sub p 10 2) h.2.2.1
theorem settled_same {p : List D} (h : townOk p = true) : settledS p = settledI p := by
  have hc := town_coord h
  unfold settledS settledI
  rw [Bool.eq_iff_iff]
  simp only [List.all_eq_true, List.mem_range]
  constructor
  · intro hs k hk
    obtain ⟨a, b, c⟩ := hc.ord k hk
    have := hs (vAt (gd p 11) k - 1).toNat (by omega)
    unfold setS at this
    rw [c, hc.tx _ (by omega)] at this
    have e : (((vAt (gd p 11) k - 1).toNat + 1 : Nat) : Int) = vAt (gd p 11) k := by omega
    rw [e] at this
    exact this
  · intro hi i hlt
    unfold setS
    cases hy : (gd ((gd p 10).rows.getD i []) 3).int == 3 with
    | false => rfl
    | true =>
      rw [beq_iff_eq] at hy
      obtain ⟨k, hk, e⟩ := hc.onto hlt hy
      have := hi k hk
      unfold setI at this
      rw [e] at this
      rw [hc.tx i hlt]
      have e2 : (((i + 1 : Nat) : Int) - 1).toNat = i := by omega
      rw [e2] at this
      exact this
theorem shares_g {z : D} (h : sharesOk z = true) : z.rows.length ≤ 4 ∧ ∀ j, j < z.rows.length → 0 ≤ (gd (z.rows.getD j []) 0).int := by
  unfold sharesOk at h
  simp only [Bool.and_eq_true, decide_eq_true_eq, List.all_eq_true, List.mem_range] at h
  refine ⟨by omega, fun j hj => ?_⟩
  have := h.2 j hj
  unfold shareAt inB at this
  simp only [Bool.and_eq_true, decide_eq_true_eq] at this
  exact this.1.1
theorem ix_of {g : Int} {n : Nat} (h0 : 0 ≤ g) (h : ltI g (n : Int) = true) : inRange g n = true := by
  simp only [ltI, decide_eq_true_eq] at h
  unfold inRange
  rw [decide_eq_true h0, decide_eq_true h]
  rfl
theorem i_TSx (p : List D) (k : Nat) (z : D) (hz : sharesOk z = true) (N : Nat) (hN : 4 < N) : iter (i_TownSettledL2 N p) N [gd p 0, gd p 1, gd p 2, gd p 3, gd p 4, gd p 5, gd p 6, gd p 7, gd p 8, gd p 9, gd p 10, gd p 11, gd p 12, gd p 13, gd p 14, .i 0, .i 0, gd p 11, .i ((gd p 11).rows.length : Int), .i (k : Int), gd ((gd p 11).rows.getD k []) 0, z, .i (z.rows.length : Int), .i 0, gd p 0, gd p 1, gd p 2, gd p 3, gd p 4, gd p 5, gd p 6, gd p 7, gd p 8, gd p 9, gd p 10, gd p 11, gd p 12, gd p 13, gd p 14] = some (bif recSettled p (vAt (gd p 11) k) z then (4, [gd p 0, gd p 1, gd p 2, gd p 3, gd p 4, gd p 5, gd p 6, gd p 7, gd p 8, gd p 9, gd p 10, gd p 11, gd p 12, gd p 13, gd p 14, .i 0, .i 0, gd p 11, .i ((gd p 11).rows.length : Int), .i (k : Int), gd ((gd p 11).rows.getD k []) 0, z, .i (z.rows.length : Int), .i (z.rows.length : Int), gd p 0, gd p 1, gd p 2, gd p 3, gd p 4, gd p 5, gd p 6, gd p 7, gd p 8, gd p 9, gd p 10, gd p 11, gd p 12, gd p 13, gd p 14]) else (1, [.b false])) := by
  obtain ⟨h4, hg⟩ := shares_g hz
  have e := for_loop (L := (i_TownSettledL2 N p)) (fun j => [gd p 0, gd p 1, gd p 2, gd p 3, gd p 4, gd p 5, gd p 6, gd p 7, gd p 8, gd p 9, gd p 10, gd p 11, gd p 12, gd p 13, gd p 14, .i 0, .i 0, gd p 11, .i ((gd p 11).rows.length : Int), .i (k : Int), gd ((gd p 11).rows.getD k []) 0, z, .i (z.rows.length : Int), .i (j : Int), gd p 0, gd p 1, gd p 2, gd p 3, gd p 4, gd p 5, gd p 6, gd p 7, gd p 8, gd p 9, gd p 10, gd p 11, gd p 12, gd p 13, gd p 14]) z.rows.length (shareT p (vAt (gd p 11) k) z) [.b false] 2 (fun j hj => ?_) ?_ (N := N) (by omega)
  · simp only [Int.natCast_zero] at e
    exact e
  · show i_TownSettledL2 N p [gd p 0, gd p 1, gd p 2, gd p 3, gd p 4, gd p 5, gd p 6, gd p 7, gd p 8, gd p 9, gd p 10, gd p 11, gd p 12, gd p 13, gd p 14, .i 0, .i 0, gd p 11, .i ((gd p 11).rows.length : Int), .i (k : Int), gd ((gd p 11).rows.getD k []) 0, z, .i (z.rows.length : Int), .i (j : Int), gd p 0, gd p 1, gd p 2, gd p 3, gd p 4, gd p 5, gd p 6, gd p 7, gd p 8, gd p 9, gd p 10, gd p 11, gd p 12, gd p 13, gd p 14] = _
    rw [i_TownSettledR2]
    simp only [int_i, c_lt hj, nd_ix hj, w64_succ hj (show z.rows.length ≤ 9223372036854775807 from by omega), Int.toNat_natCast]
    unfold shareT
    cases hlt : ltI (gd (z.rows.getD j []) 0).int ((gd p 9).rows.length : Int) with
    | false => rfl
    | true =>
      rw [ix_of (hg j hj) hlt]
      show nd true (bif !(hasInt (gd ((gd p 9).rows.getD (gd (z.rows.getD j []) 0).int.toNat []) 7) (vAt (gd p 11) k)) then ob false else nx [gd p 0, gd p 1, gd p 2, gd p 3, gd p 4, gd p 5, gd p 6, gd p 7, gd p 8, gd p 9, gd p 10, gd p 11, gd p 12, gd p 13, gd p 14, .i 0, .i 0, gd p 11, .i ((gd p 11).rows.length : Int), .i (k : Int), gd ((gd p 11).rows.getD k []) 0, z, .i (z.rows.length : Int), .i ((j + 1 : Nat) : Int), gd p 0, gd p 1, gd p 2, gd p 3, gd p 4, gd p 5, gd p 6, gd p 7, gd p 8, gd p 9, gd p 10, gd p 11, gd p 12, gd p 13, gd p 14]) = _
      rw [nd_true]
      cases hasInt (gd ((gd p 9).rows.getD (gd (z.rows.getD j []) 0).int.toNat []) 7) (vAt (gd p 11) k) <;> rfl
  · show i_TownSettledL2 N p [gd p 0, gd p 1, gd p 2, gd p 3, gd p 4, gd p 5, gd p 6, gd p 7, gd p 8, gd p 9, gd p 10, gd p 11, gd p 12, gd p 13, gd p 14, .i 0, .i 0, gd p 11, .i ((gd p 11).rows.length : Int), .i (k : Int), gd ((gd p 11).rows.getD k []) 0, z, .i (z.rows.length : Int), .i (z.rows.length : Int), gd p 0, gd p 1, gd p 2, gd p 3, gd p 4, gd p 5, gd p 6, gd p 7, gd p 8, gd p 9, gd p 10, gd p 11, gd p 12, gd p 13, gd p 14] = _
    rw [i_TownSettledR2]
    simp only [int_i, c_nlt]
theorem i_TSo (p : List D) (ht : townOk p = true) (N : Nat) (hN : (gd p 11).rows.length + 4 < N) (hl : (gd p 11).rows.length ≤ 9223372036854775807) : iter (i_TownSettledL0 N p) N [gd p 0, gd p 1, gd p 2, gd p 3, gd p 4, gd p 5, gd p 6, gd p 7, gd p 8, gd p 9, gd p 10, gd p 11, gd p 12, gd p 13, gd p 14, .i 0, .i 0, gd p 11, .i ((gd p 11).rows.length : Int), .i 0, gd p 0, gd p 1, gd p 2, gd p 3, gd p 4, gd p 5, gd p 6, gd p 7, gd p 8, gd p 9, gd p 10, gd p 11, gd p 12, gd p 13, gd p 14] = some (bif settledI p then (2, [gd p 0, gd p 1, gd p 2, gd p 3, gd p 4, gd p 5, gd p 6, gd p 7, gd p 8, gd p 9, gd p 10, gd p 11, gd p 12, gd p 13, gd p 14, .i 0, .i 0, gd p 11, .i ((gd p 11).rows.length : Int), .i ((gd p 11).rows.length : Int), gd p 0, gd p 1, gd p 2, gd p 3, gd p 4, gd p 5, gd p 6, gd p 7, gd p 8, gd p 9, gd p 10, gd p 11, gd p 12, gd p 13, gd p 14]) else (1, [.b false])) := by
  have hc := town_coord ht
  have e := for_loop (L := i_TownSettledL0 N p) (fun k => [gd p 0, gd p 1, gd p 2, gd p 3, gd p 4, gd p 5, gd p 6, gd p 7, gd p 8, gd p 9, gd p 10, gd p 11, gd p 12, gd p 13, gd p 14, .i 0, .i 0, gd p 11, .i ((gd p 11).rows.length : Int), .i (k : Int), gd p 0, gd p 1, gd p 2, gd p 3, gd p 4, gd p 5, gd p 6, gd p 7, gd p 8, gd p 9, gd p 10, gd p 11, gd p 12, gd p 13, gd p 14]) (gd p 11).rows.length (setI p) [.b false] 0 (fun k hk => ?_) ?_ (N := N) (by omega)
  · simp only [Int.natCast_zero] at e
    exact e
  · show i_TownSettledL0 N p [gd p 0, gd p 1, gd p 2, gd p 3, gd p 4, gd p 5, gd p 6, gd p 7, gd p 8, gd p 9, gd p 10, gd p 11, gd p 12, gd p 13, gd p 14, .i 0, .i 0, gd p 11, .i ((gd p 11).rows.length : Int), .i (k : Int), gd p 0, gd p 1, gd p 2, gd p 3, gd p 4, gd p 5, gd p 6, gd p 7, gd p 8, gd p 9, gd p 10, gd p 11, gd p 12, gd p 13, gd p 14] = _
    rw [i_TownSettledR0]
    simp only [int_i, c_lt hk, nd_ix hk, w64_succ hk hl, Int.toNat_natCast]
    obtain ⟨a, b, c⟩ := hc.ord k hk
    have hw := hc.len
    have ew : w64 ((gd ((gd p 11).rows.getD k []) 0).int - 1) = ((vAt (gd p 11) k - 1).toNat : Int) := by
      show w64 (vAt (gd p 11) k - 1) = _
      rw [w64_id (by omega) (by omega)]
      omega
    rw [ew, Int.toNat_natCast, nd_ix (show (vAt (gd p 11) k - 1).toNat < (gd p 10).rows.length from by omega)]
    have hz := hc.sh (vAt (gd p 11) k - 1).toNat (by omega)
    unfold setI
    generalize gd ((gd p 10).rows.getD (vAt (gd p 11) k - 1).toNat []) 4 = z at *
    rw [i_TSx p k z hz N (by omega)]
    cases recSettled p (vAt (gd p 11) k) z with
    | false => rfl
    | true =>
      show some (0, [gd p 0, gd p 1, gd p 2, gd p 3, gd p 4, gd p 5, gd p 6, gd p 7, gd p 8, gd p 9, gd p 10, gd p 11, gd p 12, gd p 13, gd p 14, .i 0, .i 0, gd p 11, .i ((gd p 11).rows.length : Int), .i (w64 ((k : Int) + 1)), gd p 0, gd p 1, gd p 2, gd p 3, gd p 4, gd p 5, gd p 6, gd p 7, gd p 8, gd p 9, gd p 10, gd p 11, gd p 12, gd p 13, gd p 14]) = _
      rw [w64_succ hk hl]
      rfl
  · show i_TownSettledL0 N p [gd p 0, gd p 1, gd p 2, gd p 3, gd p 4, gd p 5, gd p 6, gd p 7, gd p 8, gd p 9, gd p 10, gd p 11, gd p 12, gd p 13, gd p 14, .i 0, .i 0, gd p 11, .i ((gd p 11).rows.length : Int), .i ((gd p 11).rows.length : Int), gd p 0, gd p 1, gd p 2, gd p 3, gd p 4, gd p 5, gd p 6, gd p 7, gd p 8, gd p 9, gd p 10, gd p 11, gd p 12, gd p 13, gd p 14] = _
    rw [i_TownSettledR0]
    simp only [int_i, c_nlt]
def i_TownSettledE : Ent := (19, e1 (ag rITown) fun p => (⟨rb, [.b (townSettled p)]⟩, townSmall p))
theorem i_TownSettled_ok : EntOk Tryz.prog i_TownSettledE := e1_ok fun p h => evFn_sound (N := (gd p 11).rows.length + 5) (ks := i_TownSettledK) (key := bo) i_TownSettledT_ok (enters Tryz.func19 (by kernel_rfl) (by kernel_rfl)) Tryz.func19 fun hw => by
  rw [i_TownSettled_ev]
  have hl11 : (gd p 11).rows.length ≤ 9223372036854775807 := wt_at (hw ⟨ag rITown, p⟩ (by simp)) rfl
  refine congrArg (fun x => some (bo, x)) ?_
  have h : townSmall p = true := h
  show nd (townSmall p) (bif !(townOk p) then ob false else i_TownSettleds0 ((gd p 11).rows.length + 5) p) = ob (townSettled p)
  rw [h, nd_true]
  unfold townSettled
  cases ht : townOk p with
  | false => rfl
  | true =>
    simp only [Bool.not_true, cond_false, Bool.true_and]
    rw [show i_TownSettleds0 ((gd p 11).rows.length + 5) p = nd (iter (i_TownSettledL0 ((gd p 11).rows.length + 5) p) ((gd p 11).rows.length + 5) [gd p 0, gd p 1, gd p 2, gd p 3, gd p 4, gd p 5, gd p 6, gd p 7, gd p 8, gd p 9, gd p 10, gd p 11, gd p 12, gd p 13, gd p 14, .i 0, .i 0, gd p 11, .i ((gd p 11).rows.length : Int), .i 0, gd p 0, gd p 1, gd p 2, gd p 3, gd p 4, gd p 5, gd p 6, gd p 7, gd p 8, gd p 9, gd p 10, gd p 11, gd p 12, gd p 13, gd p 14]).isSome (bif Out.code (iter (i_TownSettledL0 ((gd p 11).rows.length + 5) p) ((gd p 11).rows.length + 5) [gd p 0, gd p 1, gd p 2, gd p 3, gd p 4, gd p 5, gd p 6, gd p 7, gd p 8, gd p 9, gd p 10, gd p 11, gd p 12, gd p 13, gd p 14, .i 0, .i 0, gd p 11, .i ((gd p 11).rows.length : Int), .i 0, gd p 0, gd p 1, gd p 2, gd p 3, gd p 4, gd p 5, gd p 6, gd p 7, gd p 8, gd p 9, gd p 10, gd p 11, gd p 12, gd p 13, gd p 14]) == 1 then some (1, Out.pay (iter (i_TownSettledL0 ((gd p 11).rows.length + 5) p) ((gd p 11).rows.length + 5) [gd p 0, gd p 1, gd p 2, gd p 3, gd p 4, gd p 5, gd p 6, gd p 7, gd p 8, gd p 9, gd p 10, gd p 11, gd p 12, gd p 13, gd p 14, .i 0, .i 0, gd p 11, .i ((gd p 11).rows.length : Int), .i 0, gd p 0, gd p 1, gd p 2, gd p 3, gd p 4, gd p 5, gd p 6, gd p 7, gd p 8, gd p 9, gd p 10, gd p 11, gd p 12, gd p 13, gd p 14])) else nd (Out.code (iter (i_TownSettledL0 ((gd p 11).rows.length + 5) p) ((gd p 11).rows.length + 5) [gd p 0, gd p 1, gd p 2, gd p 3, gd p 4, gd p 5, gd p 6, gd p 7, gd p 8, gd p 9, gd p 10, gd p 11, gd p 12, gd p 13, gd p 14, .i 0, .i 0, gd p 11, .i ((gd p 11).rows.length : Int), .i 0, gd p 0, gd p 1, gd p 2, gd p 3, gd p 4, gd p 5, gd p 6, gd p 7, gd p 8, gd p 9, gd p 10, gd p 11, gd p 12, gd p 13, gd p 14]) == 2) (ob true)) from by kernel_rfl]
    rw [i_TSo p ht _ (by omega) hl11]
    cases settledI p <;> rfl

/-! loop.example/g00097/spec.TownSettled -/
abbrev s_TownSettledT : FuncId → List T → Option (T × Bool) := find [s_TownOkE, s_l12HasE]
theorem s_TownSettledT_ok : CallOk Tryz.prog s_TownSettledT := find_ok (List.forall_mem_cons.2 ⟨s_TownOk_ok, List.forall_mem_cons.2 ⟨s_l12Has_ok, List.forall_mem_nil _⟩⟩)
abbrev s_TownSettledK : List Nat := [0, 1, 2, 3, 4, 5, 6, 9, 15, 33, 58, 1000009, 1000015, 1000033, 1000058]
noncomputable def s_TownSettledL0 (N : Nat) (p : List D) : List D → Out := loopOf Tryz.prog s_TownSettledT N s_TownSettledK Tryz.f18 rb [⟨ag rITown, p⟩] 0
noncomputable def s_TownSettledL2 (N : Nat) (p : List D) : List D → Out := loopOf Tryz.prog s_TownSettledT N s_TownSettledK Tryz.f18 rb [⟨ag rITown, p⟩] 2
/- x0=t0(.one (.agg [.d si, .d (.sl 97), .d si, .d si, .d si, .d si, .d si, .d si, .d (.sl 176), .d (.sl 80), .d (.sl 116), .d (.sl 3), .d (.sl 102), .d (.sl 85), .d (.sl 88)])) x15=t1(.one (.c (.ptr 1 0))) x16=t2(.one (.c (.kb false))) x17=t3(ri) x18=box1[.d si, .d (.sl 97), .d si, .d si, .d si, .d si, .d si, .d si, .d (.sl 176), .d (.sl 80), .d (.sl 116), .d (.sl 3), .d (.sl 102), .d (.sl 85), .d (.sl 88)] -/
theorem s_TownSettledR0 (N : Nat) (p : List D) (x0 x1 x2 x3 x4 x5 x6 x7 x8 x9 x10 x11 x12 x13 x14 x15 x16 x17 x18 x19 x20 x21 x22 x23 x24 x25 x26 x27 x28 x29 x30 x31 x32 : D) : (s_TownSettledL0 N p) [x0, x1, x2, x3, x4, x5, x6, x7, x8, x9, x10, x11, x12, x13, x14, x15, x16, x17, x18, x19, x20, x21, x22, x23, x24, x25, x26, x27, x28, x29, x30, x31, x32] =
  bif ltI x17.int (x28.rows.length : Int) then nd (inRange x17.int x28.rows.length) ((let o2 := iter (s_TownSettledL2 N p) N [x0, x1, x2, x3, x4, x5, x6, x7, x8, x9, x10, x11, x12, x13, x14, x15, x16, x17, .i 0, .i 0, x18, x19, x20, x21, x22, x23, x24, x25, x26, x27, x28, x29, x30, x31, x32, gd (x28.rows.getD x17.int.toNat []) 0, gd (x28.rows.getD x17.int.toNat []) 1, gd (x28.rows.getD x17.int.toNat []) 2, gd (x28.rows.getD x17.int.toNat []) 3, gd (x28.rows.getD x17.int.toNat []) 4]
   nd o2.isSome (bif o2.code == 1 then some (1, o2.pay)
   else nd (o2.code == 4) (nx [gd o2.pay 0, gd o2.pay 1, gd o2.pay 2, gd o2.pay 3, gd o2.pay 4, gd o2.pay 5, gd o2.pay 6, gd o2.pay 7, gd o2.pay 8, gd o2.pay 9, gd o2.pay 10, gd o2.pay 11, gd o2.pay 12, gd o2.pay 13, gd o2.pay 14, gd o2.pay 15, gd o2.pay 16, .i (w64 ((gd o2.pay 17).int + 1)), gd o2.pay 20, gd o2.pay 21, gd o2.pay 22, gd o2.pay 23, gd o2.pay 24, gd o2.pay 25, gd o2.pay 26, gd o2.pay 27, gd o2.pay 28, gd o2.pay 29, gd o2.pay 30, gd o2.pay 31, gd o2.pay 32, gd o2.pay 33, gd o2.pay 34]))))
  else ex 0 [x0, x1, x2, x3, x4, x5, x6, x7, x8, x9, x10, x11, x12, x13, x14, x15, x16, x17, x18, x19, x20, x21, x22, x23, x24, x25, x26, x27, x28, x29, x30, x31, x32] := by kernel_rfl
/- x0=t0(.one (.agg [.d si, .d (.sl 97), .d si, .d si, .d si, .d si, .d si, .d si, .d (.sl 176), .d (.sl 80), .d (.sl 116), .d (.sl 3), .d (.sl 102), .d (.sl 85), .d (.sl 88)])) x15=t1(.one (.c (.ptr 1 0))) x16=t2(.one (.c (.kb false))) x17=t3(ri) x18=t4(.one (.c (.ptr 4 0))) x19=t5(ri) x20=box1[.d si, .d (.sl 97), .d si, .d si, .d si, .d si, .d si, .d si, .d (.sl 176), .d (.sl 80), .d (.sl 116), .d (.sl 3), .d (.sl 102), .d (.sl 85), .d (.sl 88)] x35=box4[.d si, .d si, .d si, .d si, .d (.sl 118)] -/
theorem s_TownSettledR2 (N : Nat) (p : List D) (x0 x1 x2 x3 x4 x5 x6 x7 x8 x9 x10 x11 x12 x13 x14 x15 x16 x17 x18 x19 x20 x21 x22 x23 x24 x25 x26 x27 x28 x29 x30 x31 x32 x33 x34 x35 x36 x37 x38 x39 : D) : (s_TownSettledL2 N p) [x0, x1, x2, x3, x4, x5, x6, x7, x8, x9, x10, x11, x12, x13, x14, x15, x16, x17, x18, x19, x20, x21, x22, x23, x24, x25, x26, x27, x28, x29, x30, x31, x32, x33, x34, x35, x36, x37, x38, x39] =
  bif ltI x19.int (x39.rows.length : Int) then bif x38.int == 3 then nd (inRange x19.int x39.rows.length) (bif ltI (gd (x39.rows.getD x19.int.toNat []) 0).int (x29.rows.length : Int) then nd (inRange (gd (x39.rows.getD x19.int.toNat []) 0).int x29.rows.length) (bif !(hasInt (gd (x29.rows.getD (gd (x39.rows.getD x19.int.toNat []) 0).int.toNat []) 7) x35.int) then ob false
  else nx [x0, x1, x2, x3, x4, x5, x6, x7, x8, x9, x10, x11, x12, x13, x14, x15, x16, x17, x18, .i (w64 (x19.int + 1)), x20, x21, x22, x23, x24, x25, x26, x27, x28, x29, x30, x31, x32, x33, x34, x35, x36, x37, x38, x39])
  else nx [x0, x1, x2, x3, x4, x5, x6, x7, x8, x9, x10, x11, x12, x13, x14, x15, x16, x17, x18, .i (w64 (x19.int + 1)), x20, x21, x22, x23, x24, x25, x26, x27, x28, x29, x30, x31, x32, x33, x34, x35, x36, x37, x38, x39])
  else ex 2 [x0, x1, x2, x3, x4, x5, x6, x7, x8, x9, x10, x11, x12, x13, x14, x15, x16, x17, x18, x19, x20, x21, x22, x23, x24, x25, x26, x27, x28, x29, x30, x31, x32, x33, x34, x35, x36, x37, x38, x39]
  else ex 2 [x0, x1, x2, x3, x4, x5, x6, x7, x8, x9, x10, x11, x12, x13, x14, x15, x16, x17, x18, x19, x20, x21, x22, x23, x24, x25, x26, x27, x28, x29, x30, x31, x32, x33, x34, x35, x36, x37, x38, x39] := by kernel_rfl
noncomputable def s_TownSettleds0 (N : Nat) (p : List D) : Out := let o0 : Out := iter (s_TownSettledL0 N p) N [gd p 0, gd p 1, gd p 2, gd p 3, gd p 4, gd p 5, gd p 6, gd p 7, gd p 8, gd p 9, gd p 10, gd p 11, gd p 12, gd p 13, gd p 14, .i 0, .i 0, .i 0, gd p 0, gd p 1, gd p 2, gd p 3, gd p 4, gd p 5, gd p 6, gd p 7, gd p 8, gd p 9, gd p 10, gd p 11, gd p 12, gd p 13, gd p 14]; nd o0.isSome (bif o0.code == 1 then some (1, o0.pay) else nd (o0.code == 2) (ob true))
theorem s_TownSettled_ev (N : Nat) (p : List D) : evFn Tryz.prog s_TownSettledT N s_TownSettledK Tryz.f18 rb [⟨ag rITown, p⟩] = some (bo, bif !(townOk (sub p 0 15)) then ob false else (s_TownSettleds0 N p)) := by kernel_rfl
theorem s_TSx (p : List D) (i : Nat) (y0 y1 y2 y3 z : D) (h3 : (y3.int == 3) = true) (hz : sharesOk z = true) (N : Nat) (hN : 4 < N) : iter (s_TownSettledL2 N p) N [gd p 0, gd p 1, gd p 2, gd p 3, gd p 4, gd p 5, gd p 6, gd p 7, gd p 8, gd p 9, gd p 10, gd p 11, gd p 12, gd p 13, gd p 14, .i 0, .i 0, .i (i : Int), .i 0, .i 0, gd p 0, gd p 1, gd p 2, gd p 3, gd p 4, gd p 5, gd p 6, gd p 7, gd p 8, gd p 9, gd p 10, gd p 11, gd p 12, gd p 13, gd p 14, y0, y1, y2, y3, z] = some (bif recSettled p y0.int z then (4, [gd p 0, gd p 1, gd p 2, gd p 3, gd p 4, gd p 5, gd p 6, gd p 7, gd p 8, gd p 9, gd p 10, gd p 11, gd p 12, gd p 13, gd p 14, .i 0, .i 0, .i (i : Int), .i 0, .i (z.rows.length : Int), gd p 0, gd p 1, gd p 2, gd p 3, gd p 4, gd p 5, gd p 6, gd p 7, gd p 8, gd p 9, gd p 10, gd p 11, gd p 12, gd p 13, gd p 14, y0, y1, y2, y3, z]) else (1, [.b false])) := by
  obtain ⟨h4, hg⟩ := shares_g hz
  have e := for_loop (L := (s_TownSettledL2 N p)) (fun j => [gd p 0, gd p 1, gd p 2, gd p 3, gd p 4, gd p 5, gd p 6, gd p 7, gd p 8, gd p 9, gd p 10, gd p 11, gd p 12, gd p 13, gd p 14, .i 0, .i 0, .i (i : Int), .i 0, .i (j : Int), gd p 0, gd p 1, gd p 2, gd p 3, gd p 4, gd p 5, gd p 6, gd p 7, gd p 8, gd p 9, gd p 10, gd p 11, gd p 12, gd p 13, gd p 14, y0, y1, y2, y3, z]) z.rows.length (shareT p y0.int z) [.b false] 2 (fun j hj => ?_) ?_ (N := N) (by omega)
  · simp only [Int.natCast_zero] at e
    exact e
  · show s_TownSettledL2 N p [gd p 0, gd p 1, gd p 2, gd p 3, gd p 4, gd p 5, gd p 6, gd p 7, gd p 8, gd p 9, gd p 10, gd p 11, gd p 12, gd p 13, gd p 14, .i 0, .i 0, .i (i : Int), .i 0, .i (j : Int), gd p 0, gd p 1, gd p 2, gd p 3, gd p 4, gd p 5, gd p 6, gd p 7, gd p 8, gd p 9, gd p 10, gd p 11, gd p 12, gd p 13, gd p 14, y0, y1, y2, y3, z] = _
    rw [s_TownSettledR2]
    simp only [int_i, c_lt hj, w64_succ hj (show z.rows.length ≤ 9223372036854775807 from by omega), Int.toNat_natCast]
    rw [h3, cond_true, nd_ix hj]
    unfold shareT
    cases hlt : ltI (gd (z.rows.getD j []) 0).int ((gd p 9).rows.length : Int) with
    | false => rfl
    | true =>
      rw [ix_of (hg j hj) hlt]
      show nd true (bif !(hasInt (gd ((gd p 9).rows.getD (gd (z.rows.getD j []) 0).int.toNat []) 7) y0.int) then ob false else nx [gd p 0, gd p 1, gd p 2, gd p 3, gd p 4, gd p 5, gd p 6, gd p 7, gd p 8, gd p 9, gd p 10, gd p 11, gd p 12, gd p 13, gd p 14, .i 0, .i 0, .i (i : Int), .i 0, .i ((j + 1 : Nat) : Int), gd p 0, gd p 1, gd p 2, gd p 3, gd p 4, gd p 5, gd p 6, gd p 7, gd p 8, gd p 9, gd p 10, gd p 11, gd p 12, gd p 13, gd p 14, y0, y1, y2, y3, z]) = _
      rw [nd_true]
      cases hasInt (gd ((gd p 9).rows.getD (gd (z.rows.getD j []) 0).int.toNat []) 7) y0.int <;> rfl
  · show s_TownSettledL2 N p [gd p 0, gd p 1, gd p 2, gd p 3, gd p 4, gd p 5, gd p 6, gd p 7, gd p 8, gd p 9, gd p 10, gd p 11, gd p 12, gd p 13, gd p 14, .i 0, .i 0, .i (i : Int), .i 0, .i (z.rows.length : Int), gd p 0, gd p 1, gd p 2, gd p 3, gd p 4, gd p 5, gd p 6, gd p 7, gd p 8, gd p 9, gd p 10, gd p 11, gd p 12, gd p 13, gd p 14, y0, y1, y2, y3, z] = _
    rw [s_TownSettledR2]
    simp only [int_i, c_nlt]
theorem s_TSy (p : List D) (i : Nat) (y0 y1 y2 y3 z : D) (h3 : (y3.int == 3) = false) (N : Nat) (hN : 4 < N) : iter (s_TownSettledL2 N p) N [gd p 0, gd p 1, gd p 2, gd p 3, gd p 4, gd p 5, gd p 6, gd p 7, gd p 8, gd p 9, gd p 10, gd p 11, gd p 12, gd p 13, gd p 14, .i 0, .i 0, .i (i : Int), .i 0, .i 0, gd p 0, gd p 1, gd p 2, gd p 3, gd p 4, gd p 5, gd p 6, gd p 7, gd p 8, gd p 9, gd p 10, gd p 11, gd p 12, gd p 13, gd p 14, y0, y1, y2, y3, z] = some (4, [gd p 0, gd p 1, gd p 2, gd p 3, gd p 4, gd p 5, gd p 6, gd p 7, gd p 8, gd p 9, gd p 10, gd p 11, gd p 12, gd p 13, gd p 14, .i 0, .i 0, .i (i : Int), .i 0, .i 0, gd p 0, gd p 1, gd p 2, gd p 3, gd p 4, gd p 5, gd p 6, gd p 7, gd p 8, gd p 9, gd p 10, gd p 11, gd p 12, gd p 13, gd p 14, y0, y1, y2, y3, z]) := by
  obtain ⟨N, rfl⟩ : ∃ n, N = n + 1 := ⟨N - 1, by omega⟩
  refine iter_ex (c := 3) ?_
  rw [s_TownSettledR2, h3]
  simp only [cond_false]
  cases ltI (.i 0 : D).int (z.rows.length : Int) <;> rfl
theorem s_TSo (p : List D) (ht : townOk p = true) (N : Nat) (hN : (gd p 10).rows.length + 4 < N) : iter (s_TownSettledL0 N p) N [gd p 0, gd p 1, gd p 2, gd p 3, gd p 4, gd p 5, gd p 6, gd p 7, gd p 8, gd p 9, gd p 10, gd p 11, gd p 12, gd p 13, gd p 14, .i 0, .i 0, .i 0, gd p 0, gd p 1, gd p 2, gd p 3, gd p 4, gd p 5, gd p 6, gd p 7, gd p 8, gd p 9, gd p 10, gd p 11, gd p 12, gd p 13, gd p 14] = some (bif settledS p then (2, [gd p 0, gd p 1, gd p 2, gd p 3, gd p 4, gd p 5, gd p 6, gd p 7, gd p 8, gd p 9, gd p 10, gd p 11, gd p 12, gd p 13, gd p 14, .i 0, .i 0, .i ((gd p 10).rows.length : Int), gd p 0, gd p 1, gd p 2, gd p 3, gd p 4, gd p 5, gd p 6, gd p 7, gd p 8, gd p 9, gd p 10, gd p 11, gd p 12, gd p 13, gd p 14]) else (1, [.b false])) := by
  have hc := town_coord ht
  have e := for_loop (L := s_TownSettledL0 N p) (fun i => [gd p 0, gd p 1, gd p 2, gd p 3, gd p 4, gd p 5, gd p 6, gd p 7, gd p 8, gd p 9, gd p 10, gd p 11, gd p 12, gd p 13, gd p 14, .i 0, .i 0, .i (i : Int), gd p 0, gd p 1, gd p 2, gd p 3, gd p 4, gd p 5, gd p 6, gd p 7, gd p 8, gd p 9, gd p 10, gd p 11, gd p 12, gd p 13, gd p 14]) (gd p 10).rows.length (setS p) [.b false] 0 (fun i hk => ?_) ?_ (N := N) (by omega)
  · simp only [Int.natCast_zero] at e
    exact e
  · show s_TownSettledL0 N p [gd p 0, gd p 1, gd p 2, gd p 3, gd p 4, gd p 5, gd p 6, gd p 7, gd p 8, gd p 9, gd p 10, gd p 11, gd p 12, gd p 13, gd p 14, .i 0, .i 0, .i (i : Int), gd p 0, gd p 1, gd p 2, gd p 3, gd p 4, gd p 5, gd p 6, gd p 7, gd p 8, gd p 9, gd p 10, gd p 11, gd p 12, gd p 13, gd p 14] = _
    rw [s_TownSettledR0]
    have hle := hc.len
    simp only [int_i, c_lt hk, nd_ix hk, w64_succ hk (show (gd p 10).rows.length ≤ 9223372036854775807 from by omega), Int.toNat_natCast]
    have hz := hc.sh i hk
    unfold setS
    generalize gd ((gd p 10).rows.getD i []) 4 = z at *
    cases h3 : (gd ((gd p 10).rows.getD i []) 3).int == 3 with
    | false =>
      rw [s_TSy p i _ _ _ _ z h3 N (by omega)]
      show some (0, [gd p 0, gd p 1, gd p 2, gd p 3, gd p 4, gd p 5, gd p 6, gd p 7, gd p 8, gd p 9, gd p 10, gd p 11, gd p 12, gd p 13, gd p 14, .i 0, .i 0, .i (w64 ((i : Int) + 1)), gd p 0, gd p 1, gd p 2, gd p 3, gd p 4, gd p 5, gd p 6, gd p 7, gd p 8, gd p 9, gd p 10, gd p 11, gd p 12, gd p 13, gd p 14]) = _
      rw [w64_succ hk (show (gd p 10).rows.length ≤ 9223372036854775807 from by omega)]
      rfl
    | true =>
      rw [s_TSx p i _ _ _ _ z h3 hz N (by omega)]
      show _ = some (bif recSettled p (gd ((gd p 10).rows.getD i []) 0).int z then _ else _)
      cases recSettled p (gd ((gd p 10).rows.getD i []) 0).int z with
      | false => rfl
      | true =>
        show some (0, [gd p 0, gd p 1, gd p 2, gd p 3, gd p 4, gd p 5, gd p 6, gd p 7, gd p 8, gd p 9, gd p 10, gd p 11, gd p 12, gd p 13, gd p 14, .i 0, .i 0, .i (w64 ((i : Int) + 1)), gd p 0, gd p 1, gd p 2, gd p 3, gd p 4, gd p 5, gd p 6, gd p 7, gd p 8, gd p 9, gd p 10, gd p 11, gd p 12, gd p 13, gd p 14]) = _
        rw [w64_succ hk (show (gd p 10).rows.length ≤ 9223372036854775807 from by omega)]
        rfl
  · show s_TownSettledL0 N p [gd p 0, gd p 1, gd p 2, gd p 3, gd p 4, gd p 5, gd p 6, gd p 7, gd p 8, gd p 9, gd p 10, gd p 11, gd p 12, gd p 13, gd p 14, .i 0, .i 0, .i ((gd p 10).rows.length : Int), gd p 0, gd p 1, gd p 2, gd p 3, gd p 4, gd p 5, gd p 6, gd p 7, gd p 8, gd p 9, gd p 10, gd p 11, gd p 12, gd p 13, gd p 14] = _
    rw [s_TownSettledR0]
    simp only [int_i, c_nlt]
def s_TownSettledE : Ent := (18, e1 (ag rITown) fun p => (⟨rb, [.b (townSettled p)]⟩, true))
theorem s_TownSettled_ok : EntOk Tryz.prog s_TownSettledE := e1_ok fun p h => evFn_sound (N := (gd p 10).rows.length + 5) (ks := s_TownSettledK) (key := bo) s_TownSettledT_ok (enters Tryz.func18 (by kernel_rfl) (by kernel_rfl)) Tryz.func18 fun hw => by
  rw [s_TownSettled_ev]
  have hl11 : (gd p 11).rows.length ≤ 9223372036854775807 := wt_at (hw ⟨ag rITown, p⟩ (by simp)) rfl
  refine congrArg (fun x => some (bo, x)) ?_
  show (bif !(townOk p) then ob false else s_TownSettleds0 ((gd p 10).rows.length + 5) p) = ob (townSettled p)
  unfold townSettled
  cases ht : townOk p with
  | false => rfl
  | true =>
    simp only [Bool.not_true, cond_false, Bool.true_and]
    rw [show s_TownSettleds0 ((gd p 10).rows.length + 5) p = nd (iter (s_TownSettledL0 ((gd p 10).rows.length + 5) p) ((gd p 10).rows.length + 5) [gd p 0, gd p 1, gd p 2, gd p 3, gd p 4, gd p 5, gd p 6, gd p 7, gd p 8, gd p 9, gd p 10, gd p 11, gd p 12, gd p 13, gd p 14, .i 0, .i 0, .i 0, gd p 0, gd p 1, gd p 2, gd p 3, gd p 4, gd p 5, gd p 6, gd p 7, gd p 8, gd p 9, gd p 10, gd p 11, gd p 12, gd p 13, gd p 14]).isSome (bif Out.code (iter (s_TownSettledL0 ((gd p 10).rows.length + 5) p) ((gd p 10).rows.length + 5) [gd p 0, gd p 1, gd p 2, gd p 3, gd p 4, gd p 5, gd p 6, gd p 7, gd p 8, gd p 9, gd p 10, gd p 11, gd p 12, gd p 13, gd p 14, .i 0, .i 0, .i 0, gd p 0, gd p 1, gd p 2, gd p 3, gd p 4, gd p 5, gd p 6, gd p 7, gd p 8, gd p 9, gd p 10, gd p 11, gd p 12, gd p 13, gd p 14]) == 1 then some (1, Out.pay (iter (s_TownSettledL0 ((gd p 10).rows.length + 5) p) ((gd p 10).rows.length + 5) [gd p 0, gd p 1, gd p 2, gd p 3, gd p 4, gd p 5, gd p 6, gd p 7, gd p 8, gd p 9, gd p 10, gd p 11, gd p 12, gd p 13, gd p 14, .i 0, .i 0, .i 0, gd p 0, gd p 1, gd p 2, gd p 3, gd p 4, gd p 5, gd p 6, gd p 7, gd p 8, gd p 9, gd p 10, gd p 11, gd p 12, gd p 13, gd p 14])) else nd (Out.code (iter (s_TownSettledL0 ((gd p 10).rows.length + 5) p) ((gd p 10).rows.length + 5) [gd p 0, gd p 1, gd p 2, gd p 3, gd p 4, gd p 5, gd p 6, gd p 7, gd p 8, gd p 9, gd p 10, gd p 11, gd p 12, gd p 13, gd p 14, .i 0, .i 0, .i 0, gd p 0, gd p 1, gd p 2, gd p 3, gd p 4, gd p 5, gd p 6, gd p 7, gd p 8, gd p 9, gd p 10, gd p 11, gd p 12, gd p 13, gd p 14]) == 2) (ob true)) from by kernel_rfl]
    rw [s_TSo p ht _ (by omega), settled_same ht]
    cases settledI p <;> rfl

end Go.Proofs.YtchceahcaaibcaaGreat
