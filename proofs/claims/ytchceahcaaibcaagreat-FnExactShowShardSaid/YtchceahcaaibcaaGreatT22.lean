/-
  The town: ShowAtlas. Printed by sym.py.
-/
import Derived.Test.YtchceahcaaibcaaGreatT17
import Derived.Test.YtchceahcaaibcaaGreatTx
namespace Go.Proofs.YtchceahcaaibcaaGreat
set_option maxRecDepth 4096
set_option maxHeartbeats 1000000
set_option linter.unusedSimpArgs false
set_option linter.unusedVariables false
/-! loop.example/g00097/impl.showRange -/
abbrev i_showRangeT : FuncId → List T → Option (T × Bool) := find [i_TextOfE]
theorem i_showRangeT_ok : CallOk Tryz.prog i_showRangeT := find_ok (List.forall_mem_cons.2 ⟨i_TextOf_ok, List.forall_mem_nil _⟩)
abbrev i_showRangeK : List Nat := [0, 1, 2]
theorem i_showRange_ev (N : Nat) (p : List D) : evFn Tryz.prog i_showRangeT N i_showRangeK Tryz.f92 (sd (.str)) [⟨ag rIRange, p⟩] = some (bo,
  nd (numSmall (gd p 0).int) (nd (decide ((txt (gd p 0).int).length + [45].length < 1099511627776)) (nd (numSmall (gd p 1).int) (nd (decide (((txt (gd p 0).int) ++ [45]).length + (txt (gd p 1).int).length < 1099511627776)) (some (1, [.s (((txt (gd p 0).int) ++ [45]) ++ (txt (gd p 1).int))])))))) := by kernel_rfl
theorem nd_step {c : Bool} {x y : Out} (h : c = true) (hx : x = y) : nd c x = y := by
  rw [h, hx]; rfl
theorem numS {x : Int} (h0 : -1 ≤ x) (h1 : x ≤ 1000000000) : numSmall x = true := by
  simp only [numSmall, leI, Bool.and_eq_true, decide_eq_true_eq]
  omega
theorem txt20 {x : Int} (h0 : -1 ≤ x) (h1 : x ≤ 1000000000) : (txt x).length ≤ 20 := txt_len (by omega) (by omega)
def rangeT (a b : Int) : List UInt8 := (txt a ++ [45]) ++ txt b
theorem rangeT_len {a b : Int} (h0 : -1 ≤ a) (h1 : a ≤ 1000000000) (h2 : -1 ≤ b) (h3 : b ≤ 1000000000) : (rangeT a b).length ≤ 41 := by
  have := txt20 h0 h1
  have := txt20 h2 h3
  unfold rangeT
  simp only [List.length_append, List.length_cons, List.length_nil]
  omega
theorem num_len {x : Int} (h : numSmall x = true) : (txt x).length ≤ 20 := by
  simp only [numSmall, leI, Bool.and_eq_true, decide_eq_true_eq] at h
  exact txt_len (by omega) (by omega)
/-- rows as text, one behind the other -/
def accT (T : List D → List UInt8) (z : D) (s : List UInt8) : Nat → List UInt8
  | 0 => s
  | k + 1 => accT T z s k ++ T (z.rows.getD k [])
theorem accT_len {T : List D → List UInt8} {z : D} {s : List UInt8} {m : Nat} (h : ∀ k, k < z.rows.length → (T (z.rows.getD k [])).length ≤ m) : ∀ k, k ≤ z.rows.length → (accT T z s k).length ≤ s.length + m * k
  | 0, _ => by simp [accT]
  | k + 1, hk => by
    have h1 := accT_len (s := s) h k (by omega)
    have h2 := h k (by omega)
    rw [accT, List.length_append, Nat.mul_add, Nat.mul_one]
    omega
def i_showRangeE : Ent := (92, e1 (ag rIRange) fun p => (⟨sd (.str), [.s (rangeT (gd p 0).int (gd p 1).int)]⟩, numSmall (gd p 0).int && numSmall (gd p 1).int))
theorem i_showRange_ok : EntOk Tryz.prog i_showRangeE := e1_ok fun p h => evFn_sound (N := 0) (ks := i_showRangeK) (key := bo) i_showRangeT_ok (enters Tryz.func92 (by kernel_rfl) (by kernel_rfl)) Tryz.func92 fun hw => by
  rw [i_showRange_ev]
  have h : (numSmall (gd p 0).int && numSmall (gd p 1).int) = true := h
  simp only [Bool.and_eq_true] at h
  obtain ⟨ha, hb⟩ := h
  have la := num_len ha
  have lb := num_len hb
  refine congrArg (fun x => some (bo, x)) ?_
  refine nd_step ha (nd_step (decide_eq_true ?_) (nd_step hb (nd_step (decide_eq_true ?_) rfl))) <;> (simp only [List.length_append, List.length_cons, List.length_nil]; omega)

/-! loop.example/g00097/spec.l19Range -/
abbrev s_l19RangeT : FuncId → List T → Option (T × Bool) := find [s_TextOfE]
theorem s_l19RangeT_ok : CallOk Tryz.prog s_l19RangeT := find_ok (List.forall_mem_cons.2 ⟨s_TextOf_ok, List.forall_mem_nil _⟩)
abbrev s_l19RangeK : List Nat := [0, 1, 4]
theorem s_l19Range_ev (N : Nat) (p q : List D) : evFn Tryz.prog s_l19RangeT N s_l19RangeK Tryz.f90 (sd (.str)) [⟨ri, p⟩, ⟨ri, q⟩] = some (bo,
  nd (numSmall (gd p 0).int) (nd (decide ((txt (gd p 0).int).length + [45].length < 1099511627776)) (nd (numSmall (gd q 0).int) (nd (decide (((txt (gd p 0).int) ++ [45]).length + (txt (gd q 0).int).length < 1099511627776)) (some (1, [.s (((txt (gd p 0).int) ++ [45]) ++ (txt (gd q 0).int))])))))) := by kernel_rfl
def s_l19RangeE : Ent := (90, e2 ri ri fun p q => (⟨sd (.str), [.s (rangeT (gd p 0).int (gd q 0).int)]⟩, numSmall (gd p 0).int && numSmall (gd q 0).int))
theorem s_l19Range_ok : EntOk Tryz.prog s_l19RangeE := e2_ok fun p q h => evFn_sound (N := 0) (ks := s_l19RangeK) (key := bo) s_l19RangeT_ok (enters Tryz.func90 (by kernel_rfl) (by kernel_rfl)) Tryz.func90 fun hw => by
  rw [s_l19Range_ev]
  have h : (numSmall (gd p 0).int && numSmall (gd q 0).int) = true := h
  simp only [Bool.and_eq_true] at h
  obtain ⟨ha, hb⟩ := h
  have la := num_len ha
  have lb := num_len hb
  refine congrArg (fun x => some (bo, x)) ?_
  refine nd_step ha (nd_step (decide_eq_true ?_) (nd_step hb (nd_step (decide_eq_true ?_) rfl))) <;> (simp only [List.length_append, List.length_cons, List.length_nil]; omega)

/-! loop.example/g00097/impl.ShowAtlas -/
abbrev i_ShowAtlasT : FuncId → List T → Option (T × Bool) := find [i_TownOkE, i_TextOfE, i_showRangeE]
theorem i_ShowAtlasT_ok : CallOk Tryz.prog i_ShowAtlasT := find_ok (List.forall_mem_cons.2 ⟨i_TownOk_ok, List.forall_mem_cons.2 ⟨i_TextOf_ok, List.forall_mem_cons.2 ⟨i_showRange_ok, List.forall_mem_nil _⟩⟩⟩)
abbrev i_ShowAtlasK : List Nat := [0, 1, 2, 3, 5, 8, 15, 16, 17, 18, 1000008, 1000018]
noncomputable def i_ShowAtlasL0 (N : Nat) (p : List D) : List D → Out := loopOf Tryz.prog i_ShowAtlasT N i_ShowAtlasK Tryz.f23 (sd (.str)) [⟨ag rITown, p⟩] 0
/- x0=t0(.one (.agg [.d si, .d (.sl 97), .d si, .d si, .d si, .d si, .d si, .d si, .d (.sl 176), .d (.sl 80), .d (.sl 116), .d (.sl 3), .d (.sl 102), .d (.sl 85), .d (.sl 88)])) x15=t1(.one (.c (.ptr 1 0))) x16=t2(sd (.str)) x17=t3(sd (.str)) x18=t15(sd (.sl 97)) x19=t16(ri) x20=t17(ri) x21=box1[.d si, .d (.sl 97), .d si, .d si, .d si, .d si, .d si, .d si, .d (.sl 176), .d (.sl 80), .d (.sl 116), .d (.sl 3), .d (.sl 102), .d (.sl 85), .d (.sl 88)] -/
theorem i_ShowAtlasR0 (N : Nat) (p : List D) (x0 x1 x2 x3 x4 x5 x6 x7 x8 x9 x10 x11 x12 x13 x14 x15 x16 x17 x18 x19 x20 x21 x22 x23 x24 x25 x26 x27 x28 x29 x30 x31 x32 x33 x34 x35 : D) : (i_ShowAtlasL0 N p) [x0, x1, x2, x3, x4, x5, x6, x7, x8, x9, x10, x11, x12, x13, x14, x15, x16, x17, x18, x19, x20, x21, x22, x23, x24, x25, x26, x27, x28, x29, x30, x31, x32, x33, x34, x35] =
  bif ltI x20.int x19.int then nd (inRange x20.int x18.rows.length) (nd (numSmall (gd (x18.rows.getD x20.int.toNat []) 0).int && numSmall (gd (x18.rows.getD x20.int.toNat []) 1).int) (nd (decide ([32].length + (rangeT (gd (x18.rows.getD x20.int.toNat []) 0).int (gd (x18.rows.getD x20.int.toNat []) 1).int).length < 1099511627776)) (nd (decide (([32] ++ (rangeT (gd (x18.rows.getD x20.int.toNat []) 0).int (gd (x18.rows.getD x20.int.toNat []) 1).int)).length + [64].length < 1099511627776)) (nd (numSmall (gd (x18.rows.getD x20.int.toNat []) 2).int) (nd (decide ((([32] ++ (rangeT (gd (x18.rows.getD x20.int.toNat []) 0).int (gd (x18.rows.getD x20.int.toNat []) 1).int)) ++ [64]).length + (txt (gd (x18.rows.getD x20.int.toNat []) 2).int).length < 1099511627776)) (nd (decide (x17.str.length + ((([32] ++ (rangeT (gd (x18.rows.getD x20.int.toNat []) 0).int (gd (x18.rows.getD x20.int.toNat []) 1).int)) ++ [64]) ++ (txt (gd (x18.rows.getD x20.int.toNat []) 2).int)).length < 1099511627776)) (nx [x0, x1, x2, x3, x4, x5, x6, x7, x8, x9, x10, x11, x12, x13, x14, x15, x16, .s (x17.str ++ ((([32] ++ (rangeT (gd (x18.rows.getD x20.int.toNat []) 0).int (gd (x18.rows.getD x20.int.toNat []) 1).int)) ++ [64]) ++ (txt (gd (x18.rows.getD x20.int.toNat []) 2).int))), x18, x19, .i (w64 (x20.int + 1)), x21, x22, x23, x24, x25, x26, x27, x28, x29, x30, x31, x32, x33, x34, x35])))))))
  else ex 0 [x0, x1, x2, x3, x4, x5, x6, x7, x8, x9, x10, x11, x12, x13, x14, x15, x16, x17, x18, x19, x20, x21, x22, x23, x24, x25, x26, x27, x28, x29, x30, x31, x32, x33, x34, x35] := by kernel_rfl
noncomputable def i_ShowAtlass0 (N : Nat) (p : List D) (o0 : Out) : Out := nd (decide ((gd o0.pay 17).str.length + (gd (([[.s []], [.s [32, 102, 114, 101, 101, 122, 101]], [.s [32, 105, 110, 115, 116, 97, 108, 108]], [.s [32, 100, 114, 111, 112]], [.s [32, 116, 104, 97, 119]]] : List (List D)).getD (gd o0.pay 24).int.toNat []) 0).str.length < 1099511627776)) (some (1, [.s ((gd o0.pay 17).str ++ (gd (([[.s []], [.s [32, 102, 114, 101, 101, 122, 101]], [.s [32, 105, 110, 115, 116, 97, 108, 108]], [.s [32, 100, 114, 111, 112]], [.s [32, 116, 104, 97, 119]]] : List (List D)).getD (gd o0.pay 24).int.toNat []) 0).str)]))
noncomputable def i_ShowAtlass1 (N : Nat) (p : List D) (o0 : Out) : Out := nd (inRange (gd o0.pay 24).int ([[.s []], [.s [32, 102, 114, 101, 101, 122, 101]], [.s [32, 105, 110, 115, 116, 97, 108, 108]], [.s [32, 100, 114, 111, 112]], [.s [32, 116, 104, 97, 119]]] : List (List D)).length) (i_ShowAtlass0 N p o0)
noncomputable def i_ShowAtlass2 (N : Nat) (p : List D) : Out := let o0 : Out := iter (i_ShowAtlasL0 N p) N [gd p 0, gd p 1, gd p 2, gd p 3, gd p 4, gd p 5, gd p 6, gd p 7, gd p 8, gd p 9, gd p 10, gd p 11, gd p 12, gd p 13, gd p 14, .i 0, .s [], .s (txt (gd p 0).int), gd p 1, .i ((gd p 1).rows.length : Int), .i 0, gd p 0, gd p 1, gd p 2, gd p 3, gd p 4, gd p 5, gd p 6, gd p 7, gd p 8, gd p 9, gd p 10, gd p 11, gd p 12, gd p 13, gd p 14]; nd o0.isSome (nd (o0.code == 2) (i_ShowAtlass1 N p o0))
noncomputable def i_ShowAtlass3 (N : Nat) (p : List D) : Out := bif !(townOk (sub p 0 15)) then some (1, [.s []]) else nd (numSmall (gd p 0).int) (i_ShowAtlass2 N p)
theorem i_ShowAtlas_ev (N : Nat) (p : List D) : evFn Tryz.prog i_ShowAtlasT N i_ShowAtlasK Tryz.f23 (sd (.str)) [⟨ag rITown, p⟩] = some (bo, nd (townSmall (sub p 0 15)) (i_ShowAtlass3 N p)) := by kernel_rfl
def partT (r : List D) : List UInt8 := (([32] ++ rangeT (gd r 0).int (gd r 1).int) ++ [64]) ++ txt (gd r 2).int
structure AtlasW (p : List D) : Prop where
  ep : 0 ≤ (gd p 0).int ∧ (gd p 0).int ≤ 1000000
  len : (gd p 1).rows.length ≤ 16
  part : ∀ k, k < (gd p 1).rows.length → (0 ≤ (gd ((gd p 1).rows.getD k []) 0).int ∧ (gd ((gd p 1).rows.getD k []) 0).int ≤ 1000) ∧ (0 ≤ (gd ((gd p 1).rows.getD k []) 1).int ∧ (gd ((gd p 1).rows.getD k []) 1).int ≤ 1000) ∧ (0 ≤ (gd ((gd p 1).rows.getD k []) 2).int ∧ (gd ((gd p 1).rows.getD k []) 2).int ≤ 3)
  stage : 0 ≤ (gd p 3).int ∧ (gd p 3).int ≤ 4
theorem town_atlas {p : List D} (h : townOk p = true) : AtlasW p := by
  unfold townOk at h
  simp only [Bool.and_eq_true] at h
  have h := h.1
  unfold atlasOk partsOk moveOk at h
  simp only [Bool.and_eq_true] at h
  obtain ⟨h1, ⟨h2, h3, h4⟩, h5, h6, _⟩ := h
  have h1 : inB (gd p 0).int 0 1000000 = true := h1
  have h6 : inB (gd p 3).int 0 4 = true := h6
  have h3 : inB ((gd p 1).rows.length : Int) 1 16 = true := h3
  simp only [inB, Bool.and_eq_true, decide_eq_true_eq] at h1 h3 h6
  refine ⟨⟨by omega, by omega⟩, by omega, fun k hk => ?_, ⟨by omega, by omega⟩⟩
  obtain ⟨n, hn⟩ : ∃ n, (gd p 1).rows.length = n + 1 := ⟨(gd p 1).rows.length - 1, by omega⟩
  have hs := parts_same (gd p 1) n hn
  rw [show ((List.range (gd p 1).rows.length).all (partAt (gd p 1)) && (endD (gd p 1) (gd p 1).rows.length).int == 1000) = true from by
    rw [Bool.and_eq_true]; exact ⟨h2, h4⟩] at hs
  have hs := hs.symm
  simp only [Bool.and_eq_true] at hs
  have hk' := List.all_eq_true.1 hs.2.2 k (List.mem_range.2 hk)
  cases k with
  | zero =>
    simp only [partAtS, inB, leI, ltI, Bool.and_eq_true, Bool.not_eq_true', decide_eq_true_eq, decide_eq_false_iff_not] at hk'
    omega
  | succ k =>
    simp only [partAtS, inB, leI, ltI, Bool.and_eq_true, Bool.not_eq_true', decide_eq_true_eq, decide_eq_false_iff_not] at hk'
    omega
theorem partT_len {p : List D} (h : AtlasW p) (k : Nat) (hk : k < (gd p 1).rows.length) : (partT ((gd p 1).rows.getD k [])).length ≤ 70 := by
  obtain ⟨a, b, c⟩ := h.part k hk
  have h1 := rangeT_len (a := (gd ((gd p 1).rows.getD k []) 0).int) (b := (gd ((gd p 1).rows.getD k []) 1).int) (by omega) (by omega) (by omega) (by omega)
  have h2 := txt20 (x := (gd ((gd p 1).rows.getD k []) 2).int) (by omega) (by omega)
  unfold partT
  simp only [List.length_append, List.length_cons, List.length_nil]
  omega
def stageT (n : Int) : List UInt8 := (gd (([[.s []], [.s [32, 102, 114, 101, 101, 122, 101]], [.s [32, 105, 110, 115, 116, 97, 108, 108]], [.s [32, 100, 114, 111, 112]], [.s [32, 116, 104, 97, 119]]] : List (List D)).getD n.toNat []) 0).str
def showAtlas (p : List D) : List UInt8 := bif townOk p then accT partT (gd p 1) (txt (gd p 0).int) (gd p 1).rows.length ++ stageT (gd p 3).int else []
theorem five {n : Int} (h0 : 0 ≤ n) (h1 : n ≤ 4) : n = 0 ∨ n = 1 ∨ n = 2 ∨ n = 3 ∨ n = 4 := by omega
theorem i_SAx (p : List D) (h : AtlasW p) : iter (i_ShowAtlasL0 ((gd p 1).rows.length + 1) p) ((gd p 1).rows.length + 1) [gd p 0, gd p 1, gd p 2, gd p 3, gd p 4, gd p 5, gd p 6, gd p 7, gd p 8, gd p 9, gd p 10, gd p 11, gd p 12, gd p 13, gd p 14, .i 0, .s [], .s (txt (gd p 0).int), gd p 1, .i ((gd p 1).rows.length : Int), .i 0, gd p 0, gd p 1, gd p 2, gd p 3, gd p 4, gd p 5, gd p 6, gd p 7, gd p 8, gd p 9, gd p 10, gd p 11, gd p 12, gd p 13, gd p 14] = some (2, [gd p 0, gd p 1, gd p 2, gd p 3, gd p 4, gd p 5, gd p 6, gd p 7, gd p 8, gd p 9, gd p 10, gd p 11, gd p 12, gd p 13, gd p 14, .i 0, .s [], .s (accT partT (gd p 1) (txt (gd p 0).int) (gd p 1).rows.length), gd p 1, .i ((gd p 1).rows.length : Int), .i ((gd p 1).rows.length : Int), gd p 0, gd p 1, gd p 2, gd p 3, gd p 4, gd p 5, gd p 6, gd p 7, gd p 8, gd p 9, gd p 10, gd p 11, gd p 12, gd p 13, gd p 14]) := by
  have e := run_loop (L := i_ShowAtlasL0 ((gd p 1).rows.length + 1) p) (fun k => [gd p 0, gd p 1, gd p 2, gd p 3, gd p 4, gd p 5, gd p 6, gd p 7, gd p 8, gd p 9, gd p 10, gd p 11, gd p 12, gd p 13, gd p 14, .i 0, .s [], .s (accT partT (gd p 1) (txt (gd p 0).int) k), gd p 1, .i ((gd p 1).rows.length : Int), .i (k : Int), gd p 0, gd p 1, gd p 2, gd p 3, gd p 4, gd p 5, gd p 6, gd p 7, gd p 8, gd p 9, gd p 10, gd p 11, gd p 12, gd p 13, gd p 14]) (gd p 1).rows.length 0 (fun k hk => ?_) ?_ (N := ((gd p 1).rows.length + 1)) (by omega)
  · simp only [Int.natCast_zero] at e
    exact e
  · show i_ShowAtlasL0 _ p [gd p 0, gd p 1, gd p 2, gd p 3, gd p 4, gd p 5, gd p 6, gd p 7, gd p 8, gd p 9, gd p 10, gd p 11, gd p 12, gd p 13, gd p 14, .i 0, .s [], .s (accT partT (gd p 1) (txt (gd p 0).int) k), gd p 1, .i ((gd p 1).rows.length : Int), .i (k : Int), gd p 0, gd p 1, gd p 2, gd p 3, gd p 4, gd p 5, gd p 6, gd p 7, gd p 8, gd p 9, gd p 10, gd p 11, gd p 12, gd p 13, gd p 14] = _
    rw [i_ShowAtlasR0]
    have hl := h.len
    have h0 := txt20 (x := (gd p 0).int) (by have := h.ep; omega) (by have := h.ep; omega)
    have ha := accT_len (s := txt (gd p 0).int) (partT_len h) k (by omega)
    obtain ⟨a, b, c⟩ := h.part k hk
    have h1 := rangeT_len (a := (gd ((gd p 1).rows.getD k []) 0).int) (b := (gd ((gd p 1).rows.getD k []) 1).int) (by omega) (by omega) (by omega) (by omega)
    have h2 := txt20 (x := (gd ((gd p 1).rows.getD k []) 2).int) (by omega) (by omega)
    simp only [int_i, str_s, c_lt hk, nd_ix hk, w64_succ hk (show (gd p 1).rows.length ≤ 9223372036854775807 from by omega), Int.toNat_natCast]
    have n1 : (numSmall (gd ((gd p 1).rows.getD k []) 0).int && numSmall (gd ((gd p 1).rows.getD k []) 1).int) = true := by
      rw [numS (by omega) (by omega), numS (by omega) (by omega)]; rfl
    have n2 : numSmall (gd ((gd p 1).rows.getD k []) 2).int = true := numS (by omega) (by omega)
    refine nd_step n1 (nd_step (decide_eq_true ?_) (nd_step (decide_eq_true ?_) (nd_step n2 (nd_step (decide_eq_true ?_) (nd_step (decide_eq_true ?_) ?_)))))
    all_goals first | (simp only [List.length_append, List.length_cons, List.length_nil]; omega) | skip
    rfl
  · show i_ShowAtlasL0 _ p [gd p 0, gd p 1, gd p 2, gd p 3, gd p 4, gd p 5, gd p 6, gd p 7, gd p 8, gd p 9, gd p 10, gd p 11, gd p 12, gd p 13, gd p 14, .i 0, .s [], .s (accT partT (gd p 1) (txt (gd p 0).int) (gd p 1).rows.length), gd p 1, .i ((gd p 1).rows.length : Int), .i ((gd p 1).rows.length : Int), gd p 0, gd p 1, gd p 2, gd p 3, gd p 4, gd p 5, gd p 6, gd p 7, gd p 8, gd p 9, gd p 10, gd p 11, gd p 12, gd p 13, gd p 14] = _
    rw [i_ShowAtlasR0]
    simp only [int_i, c_nlt]
def i_ShowAtlasE : Ent := (23, e1 (ag rITown) fun p => (⟨sd (.str), [.s (showAtlas p)]⟩, townSmall p))
theorem i_ShowAtlas_ok : EntOk Tryz.prog i_ShowAtlasE := e1_ok fun p h => evFn_sound (N := (gd p 1).rows.length + 1) (ks := i_ShowAtlasK) (key := bo) i_ShowAtlasT_ok (enters Tryz.func23 (by kernel_rfl) (by kernel_rfl)) Tryz.func23 fun hw => by
  rw [i_ShowAtlas_ev]
  have h : townSmall p = true := h
  refine congrArg (fun x => some (bo, x)) ?_
  show nd (townSmall p) (bif !(townOk p) then some (1, [.s []]) else nd (numSmall (gd p 0).int) (i_ShowAtlass2 ((gd p 1).rows.length + 1) p)) = some (1, [.s (showAtlas p)])
  rw [h, nd_true]
  unfold showAtlas
  cases ht : townOk p with
  | false => rfl
  | true =>
    simp only [Bool.not_true, cond_false, cond_true]
    have hw := town_atlas ht
    refine nd_step (numS (by have := hw.ep; omega) (by have := hw.ep; omega)) ?_
    rw [show i_ShowAtlass2 ((gd p 1).rows.length + 1) p = nd (iter (i_ShowAtlasL0 ((gd p 1).rows.length + 1) p) ((gd p 1).rows.length + 1) [gd p 0, gd p 1, gd p 2, gd p 3, gd p 4, gd p 5, gd p 6, gd p 7, gd p 8, gd p 9, gd p 10, gd p 11, gd p 12, gd p 13, gd p 14, .i 0, .s [], .s (txt (gd p 0).int), gd p 1, .i ((gd p 1).rows.length : Int), .i 0, gd p 0, gd p 1, gd p 2, gd p 3, gd p 4, gd p 5, gd p 6, gd p 7, gd p 8, gd p 9, gd p 10, gd p 11, gd p 12, gd p 13, gd p 14]).isSome (nd (Out.code (iter (i_ShowAtlasL0 ((gd p 1).rows.length + 1) p) ((gd p 1).rows.length + 1) [gd p 0, gd p 1, gd p 2, gd p 3, gd p 4, gd p 5, gd p 6, gd p 7, gd p 8, gd p 9, gd p 10, gd p 11, gd p 12, gd p 13, gd p 14, .i 0, .s [], .s (txt (gd p 0).int), gd p 1, .i ((gd p 1).rows.length : Int), .i 0, gd p 0, gd p 1, gd p 2, gd p 3, gd p 4, gd p 5, gd p 6, gd p 7, gd p 8, gd p 9, gd p 10, gd p 11, gd p 12, gd p 13, gd p 14]) == 2) (i_ShowAtlass1 ((gd p 1).rows.length + 1) p (iter (i_ShowAtlasL0 ((gd p 1).rows.length + 1) p) ((gd p 1).rows.length + 1) [gd p 0, gd p 1, gd p 2, gd p 3, gd p 4, gd p 5, gd p 6, gd p 7, gd p 8, gd p 9, gd p 10, gd p 11, gd p 12, gd p 13, gd p 14, .i 0, .s [], .s (txt (gd p 0).int), gd p 1, .i ((gd p 1).rows.length : Int), .i 0, gd p 0, gd p 1, gd p 2, gd p 3, gd p 4, gd p 5, gd p 6, gd p 7, gd p 8, gd p 9, gd p 10, gd p 11, gd p 12, gd p 13, gd p 14]))) from by kernel_rfl]
    rw [i_SAx p hw]
    rw [show ∀ x : Out, nd (some (2, [gd p 0, gd p 1, gd p 2, gd p 3, gd p 4, gd p 5, gd p 6, gd p 7, gd p 8, gd p 9, gd p 10, gd p 11, gd p 12, gd p 13, gd p 14, .i 0, .s [], .s (accT partT (gd p 1) (txt (gd p 0).int) (gd p 1).rows.length), gd p 1, .i ((gd p 1).rows.length : Int), .i ((gd p 1).rows.length : Int), gd p 0, gd p 1, gd p 2, gd p 3, gd p 4, gd p 5, gd p 6, gd p 7, gd p 8, gd p 9, gd p 10, gd p 11, gd p 12, gd p 13, gd p 14]) : Out).isSome (nd (Out.code (some (2, [gd p 0, gd p 1, gd p 2, gd p 3, gd p 4, gd p 5, gd p 6, gd p 7, gd p 8, gd p 9, gd p 10, gd p 11, gd p 12, gd p 13, gd p 14, .i 0, .s [], .s (accT partT (gd p 1) (txt (gd p 0).int) (gd p 1).rows.length), gd p 1, .i ((gd p 1).rows.length : Int), .i ((gd p 1).rows.length : Int), gd p 0, gd p 1, gd p 2, gd p 3, gd p 4, gd p 5, gd p 6, gd p 7, gd p 8, gd p 9, gd p 10, gd p 11, gd p 12, gd p 13, gd p 14])) == 2) x) = x from fun x => rfl]
    rw [show i_ShowAtlass1 ((gd p 1).rows.length + 1) p (some (2, [gd p 0, gd p 1, gd p 2, gd p 3, gd p 4, gd p 5, gd p 6, gd p 7, gd p 8, gd p 9, gd p 10, gd p 11, gd p 12, gd p 13, gd p 14, .i 0, .s [], .s (accT partT (gd p 1) (txt (gd p 0).int) (gd p 1).rows.length), gd p 1, .i ((gd p 1).rows.length : Int), .i ((gd p 1).rows.length : Int), gd p 0, gd p 1, gd p 2, gd p 3, gd p 4, gd p 5, gd p 6, gd p 7, gd p 8, gd p 9, gd p 10, gd p 11, gd p 12, gd p 13, gd p 14])) = nd (inRange (gd p 3).int 5) (nd (decide ((accT partT (gd p 1) (txt (gd p 0).int) (gd p 1).rows.length).length + (stageT (gd p 3).int).length < 1099511627776)) (some (1, [.s ((accT partT (gd p 1) (txt (gd p 0).int) (gd p 1).rows.length) ++ stageT (gd p 3).int)]))) from by kernel_rfl]
    have hl := hw.len
    have h0 := txt20 (x := (gd p 0).int) (by have := hw.ep; omega) (by have := hw.ep; omega)
    have ha := accT_len (s := txt (gd p 0).int) (partT_len hw) (gd p 1).rows.length (Nat.le_refl _)
    have hs : (stageT (gd p 3).int).length ≤ 8 := by
      rcases five hw.stage.1 hw.stage.2 with e | e | e | e | e <;> rw [e] <;> decide
    refine nd_step ?_ (nd_step (decide_eq_true (by omega)) rfl)
    have := hw.stage
    unfold inRange
    rw [decide_eq_true (by omega), decide_eq_true (by omega)]
    rfl

/-! loop.example/g00097/spec.ShowAtlas -/
abbrev s_ShowAtlasT : FuncId → List T → Option (T × Bool) := find [s_TownOkE, s_TextOfE, s_l19RangeE]
theorem s_ShowAtlasT_ok : CallOk Tryz.prog s_ShowAtlasT := find_ok (List.forall_mem_cons.2 ⟨s_TownOk_ok, List.forall_mem_cons.2 ⟨s_TextOf_ok, List.forall_mem_cons.2 ⟨s_l19Range_ok, List.forall_mem_nil _⟩⟩⟩)
abbrev s_ShowAtlasK : List Nat := [0, 1, 2, 3, 4, 5, 8, 18, 44, 1000008, 1000018, 1000044]
noncomputable def s_ShowAtlasL0 (N : Nat) (p : List D) : List D → Out := loopOf Tryz.prog s_ShowAtlasT N s_ShowAtlasK Tryz.f22 (sd (.str)) [⟨ag rITown, p⟩] 0
/- x0=t0(.one (.agg [.d si, .d (.sl 97), .d si, .d si, .d si, .d si, .d si, .d si, .d (.sl 176), .d (.sl 80), .d (.sl 116), .d (.sl 3), .d (.sl 102), .d (.sl 85), .d (.sl 88)])) x15=t1(.one (.c (.ptr 1 0))) x16=t2(sd (.str)) x17=t3(sd (.str)) x18=t4(ri) x19=box1[.d si, .d (.sl 97), .d si, .d si, .d si, .d si, .d si, .d si, .d (.sl 176), .d (.sl 80), .d (.sl 116), .d (.sl 3), .d (.sl 102), .d (.sl 85), .d (.sl 88)] -/
theorem s_ShowAtlasR0 (N : Nat) (p : List D) (x0 x1 x2 x3 x4 x5 x6 x7 x8 x9 x10 x11 x12 x13 x14 x15 x16 x17 x18 x19 x20 x21 x22 x23 x24 x25 x26 x27 x28 x29 x30 x31 x32 x33 : D) : (s_ShowAtlasL0 N p) [x0, x1, x2, x3, x4, x5, x6, x7, x8, x9, x10, x11, x12, x13, x14, x15, x16, x17, x18, x19, x20, x21, x22, x23, x24, x25, x26, x27, x28, x29, x30, x31, x32, x33] =
  bif ltI x18.int (x20.rows.length : Int) then nd (inRange x18.int x20.rows.length) (nd (decide (x17.str.length + [32].length < 1099511627776)) (nd (numSmall (gd (x20.rows.getD x18.int.toNat []) 0).int && numSmall (gd (x20.rows.getD x18.int.toNat []) 1).int) (nd (decide ((x17.str ++ [32]).length + (rangeT (gd (x20.rows.getD x18.int.toNat []) 0).int (gd (x20.rows.getD x18.int.toNat []) 1).int).length < 1099511627776)) (nd (decide (((x17.str ++ [32]) ++ (rangeT (gd (x20.rows.getD x18.int.toNat []) 0).int (gd (x20.rows.getD x18.int.toNat []) 1).int)).length + [64].length < 1099511627776)) (nd (numSmall (gd (x20.rows.getD x18.int.toNat []) 2).int) (nd (decide ((((x17.str ++ [32]) ++ (rangeT (gd (x20.rows.getD x18.int.toNat []) 0).int (gd (x20.rows.getD x18.int.toNat []) 1).int)) ++ [64]).length + (txt (gd (x20.rows.getD x18.int.toNat []) 2).int).length < 1099511627776)) (nx [x0, x1, x2, x3, x4, x5, x6, x7, x8, x9, x10, x11, x12, x13, x14, x15, x16, .s ((((x17.str ++ [32]) ++ (rangeT (gd (x20.rows.getD x18.int.toNat []) 0).int (gd (x20.rows.getD x18.int.toNat []) 1).int)) ++ [64]) ++ (txt (gd (x20.rows.getD x18.int.toNat []) 2).int)), .i (w64 (x18.int + 1)), x19, x20, x21, x22, x23, x24, x25, x26, x27, x28, x29, x30, x31, x32, x33])))))))
  else ex 0 [x0, x1, x2, x3, x4, x5, x6, x7, x8, x9, x10, x11, x12, x13, x14, x15, x16, x17, x18, x19, x20, x21, x22, x23, x24, x25, x26, x27, x28, x29, x30, x31, x32, x33] := by kernel_rfl
noncomputable def s_ShowAtlass0 (N : Nat) (p : List D) (o0 : Out) : Out := nd (decide (((gd o0.pay 17).str ++ [32]).length + (gd (([[.s []], [.s [102, 114, 101, 101, 122, 101]], [.s [105, 110, 115, 116, 97, 108, 108]], [.s [100, 114, 111, 112]], [.s [116, 104, 97, 119]]] : List (List D)).getD (gd o0.pay 22).int.toNat []) 0).str.length < 1099511627776)) (some (1, [.s (((gd o0.pay 17).str ++ [32]) ++ (gd (([[.s []], [.s [102, 114, 101, 101, 122, 101]], [.s [105, 110, 115, 116, 97, 108, 108]], [.s [100, 114, 111, 112]], [.s [116, 104, 97, 119]]] : List (List D)).getD (gd o0.pay 22).int.toNat []) 0).str)]))
noncomputable def s_ShowAtlass1 (N : Nat) (p : List D) (o0 : Out) : Out := nd (inRange (gd o0.pay 22).int ([[.s []], [.s [102, 114, 101, 101, 122, 101]], [.s [105, 110, 115, 116, 97, 108, 108]], [.s [100, 114, 111, 112]], [.s [116, 104, 97, 119]]] : List (List D)).length) (s_ShowAtlass0 N p o0)
noncomputable def s_ShowAtlass2 (N : Nat) (p : List D) (o0 : Out) : Out := bif (gd o0.pay 22).int == 0 then some (1, [gd o0.pay 17]) else nd (decide ((gd o0.pay 17).str.length + [32].length < 1099511627776)) (s_ShowAtlass1 N p o0)
noncomputable def s_ShowAtlass3 (N : Nat) (p : List D) : Out := let o0 : Out := iter (s_ShowAtlasL0 N p) N [gd p 0, gd p 1, gd p 2, gd p 3, gd p 4, gd p 5, gd p 6, gd p 7, gd p 8, gd p 9, gd p 10, gd p 11, gd p 12, gd p 13, gd p 14, .i 0, .s [], .s (txt (gd p 0).int), .i 0, gd p 0, gd p 1, gd p 2, gd p 3, gd p 4, gd p 5, gd p 6, gd p 7, gd p 8, gd p 9, gd p 10, gd p 11, gd p 12, gd p 13, gd p 14]; nd o0.isSome (nd (o0.code == 2) (s_ShowAtlass2 N p o0))
noncomputable def s_ShowAtlass4 (N : Nat) (p : List D) : Out := bif !(townOk (sub p 0 15)) then some (1, [.s []]) else nd (numSmall (gd p 0).int) (s_ShowAtlass3 N p)
theorem s_ShowAtlas_ev (N : Nat) (p : List D) : evFn Tryz.prog s_ShowAtlasT N s_ShowAtlasK Tryz.f22 (sd (.str)) [⟨ag rITown, p⟩] = some (bo, (s_ShowAtlass4 N p)) := by kernel_rfl
def stageS (n : Int) : List UInt8 := (gd (([[.s []], [.s [102, 114, 101, 101, 122, 101]], [.s [105, 110, 115, 116, 97, 108, 108]], [.s [100, 114, 111, 112]], [.s [116, 104, 97, 119]]] : List (List D)).getD n.toNat []) 0).str
theorem s_SAx (p : List D) (h : AtlasW p) : iter (s_ShowAtlasL0 ((gd p 1).rows.length + 1) p) ((gd p 1).rows.length + 1) [gd p 0, gd p 1, gd p 2, gd p 3, gd p 4, gd p 5, gd p 6, gd p 7, gd p 8, gd p 9, gd p 10, gd p 11, gd p 12, gd p 13, gd p 14, .i 0, .s [], .s (txt (gd p 0).int), .i 0, gd p 0, gd p 1, gd p 2, gd p 3, gd p 4, gd p 5, gd p 6, gd p 7, gd p 8, gd p 9, gd p 10, gd p 11, gd p 12, gd p 13, gd p 14] = some (2, [gd p 0, gd p 1, gd p 2, gd p 3, gd p 4, gd p 5, gd p 6, gd p 7, gd p 8, gd p 9, gd p 10, gd p 11, gd p 12, gd p 13, gd p 14, .i 0, .s [], .s (accT partT (gd p 1) (txt (gd p 0).int) (gd p 1).rows.length), .i ((gd p 1).rows.length : Int), gd p 0, gd p 1, gd p 2, gd p 3, gd p 4, gd p 5, gd p 6, gd p 7, gd p 8, gd p 9, gd p 10, gd p 11, gd p 12, gd p 13, gd p 14]) := by
  have e := run_loop (L := s_ShowAtlasL0 ((gd p 1).rows.length + 1) p) (fun k => [gd p 0, gd p 1, gd p 2, gd p 3, gd p 4, gd p 5, gd p 6, gd p 7, gd p 8, gd p 9, gd p 10, gd p 11, gd p 12, gd p 13, gd p 14, .i 0, .s [], .s (accT partT (gd p 1) (txt (gd p 0).int) k), .i (k : Int), gd p 0, gd p 1, gd p 2, gd p 3, gd p 4, gd p 5, gd p 6, gd p 7, gd p 8, gd p 9, gd p 10, gd p 11, gd p 12, gd p 13, gd p 14]) (gd p 1).rows.length 0 (fun k hk => ?_) ?_ (N := ((gd p 1).rows.length + 1)) (by omega)
  · simp only [Int.natCast_zero] at e
    exact e
  · show s_ShowAtlasL0 _ p [gd p 0, gd p 1, gd p 2, gd p 3, gd p 4, gd p 5, gd p 6, gd p 7, gd p 8, gd p 9, gd p 10, gd p 11, gd p 12, gd p 13, gd p 14, .i 0, .s [], .s (accT partT (gd p 1) (txt (gd p 0).int) k), .i (k : Int), gd p 0, gd p 1, gd p 2, gd p 3, gd p 4, gd p 5, gd p 6, gd p 7, gd p 8, gd p 9, gd p 10, gd p 11, gd p 12, gd p 13, gd p 14] = _
    rw [s_ShowAtlasR0]
    have hl := h.len
    have h0 := txt20 (x := (gd p 0).int) (by have := h.ep; omega) (by have := h.ep; omega)
    have ha := accT_len (s := txt (gd p 0).int) (partT_len h) k (by omega)
    obtain ⟨a, b, c⟩ := h.part k hk
    have h1 := rangeT_len (a := (gd ((gd p 1).rows.getD k []) 0).int) (b := (gd ((gd p 1).rows.getD k []) 1).int) (by omega) (by omega) (by omega) (by omega)
    have h2 := txt20 (x := (gd ((gd p 1).rows.getD k []) 2).int) (by omega) (by omega)
    simp only [int_i, str_s, c_lt hk, nd_ix hk, w64_succ hk (show (gd p 1).rows.length ≤ 9223372036854775807 from by omega), Int.toNat_natCast]
    have n1 : (numSmall (gd ((gd p 1).rows.getD k []) 0).int && numSmall (gd ((gd p 1).rows.getD k []) 1).int) = true := by
      rw [numS (by omega) (by omega), numS (by omega) (by omega)]; rfl
    have n2 : numSmall (gd ((gd p 1).rows.getD k []) 2).int = true := numS (by omega) (by omega)
    refine nd_step (decide_eq_true ?_) (nd_step n1 (nd_step (decide_eq_true ?_) (nd_step (decide_eq_true ?_) (nd_step n2 (nd_step (decide_eq_true ?_) ?_)))))
    all_goals first | (simp only [List.length_append, List.length_cons, List.length_nil]; omega) | skip
    rw [show (((accT partT (gd p 1) (txt (gd p 0).int) k ++ [32]) ++ rangeT (gd ((gd p 1).rows.getD k []) 0).int (gd ((gd p 1).rows.getD k []) 1).int) ++ [64]) ++ txt (gd ((gd p 1).rows.getD k []) 2).int = accT partT (gd p 1) (txt (gd p 0).int) (k + 1) from by rw [accT]; unfold partT; simp only [List.append_assoc]]
  · show s_ShowAtlasL0 _ p [gd p 0, gd p 1, gd p 2, gd p 3, gd p 4, gd p 5, gd p 6, gd p 7, gd p 8, gd p 9, gd p 10, gd p 11, gd p 12, gd p 13, gd p 14, .i 0, .s [], .s (accT partT (gd p 1) (txt (gd p 0).int) (gd p 1).rows.length), .i ((gd p 1).rows.length : Int), gd p 0, gd p 1, gd p 2, gd p 3, gd p 4, gd p 5, gd p 6, gd p 7, gd p 8, gd p 9, gd p 10, gd p 11, gd p 12, gd p 13, gd p 14] = _
    rw [s_ShowAtlasR0]
    simp only [int_i, c_nlt]
def s_ShowAtlasE : Ent := (22, e1 (ag rITown) fun p => (⟨sd (.str), [.s (showAtlas p)]⟩, true))
theorem s_ShowAtlas_ok : EntOk Tryz.prog s_ShowAtlasE := e1_ok fun p h => evFn_sound (N := (gd p 1).rows.length + 1) (ks := s_ShowAtlasK) (key := bo) s_ShowAtlasT_ok (enters Tryz.func22 (by kernel_rfl) (by kernel_rfl)) Tryz.func22 fun hw => by
  rw [s_ShowAtlas_ev]
  refine congrArg (fun x => some (bo, x)) ?_
  show (bif !(townOk p) then some (1, [.s []]) else nd (numSmall (gd p 0).int) (s_ShowAtlass3 ((gd p 1).rows.length + 1) p)) = some (1, [.s (showAtlas p)])
  unfold showAtlas
  cases ht : townOk p with
  | false => rfl
  | true =>
    simp only [Bool.not_true, cond_false, cond_true]
    have hw := town_atlas ht
    refine nd_step (numS (by have := hw.ep; omega) (by have := hw.ep; omega)) ?_
    rw [show s_ShowAtlass3 ((gd p 1).rows.length + 1) p = nd (iter (s_ShowAtlasL0 ((gd p 1).rows.length + 1) p) ((gd p 1).rows.length + 1) [gd p 0, gd p 1, gd p 2, gd p 3, gd p 4, gd p 5, gd p 6, gd p 7, gd p 8, gd p 9, gd p 10, gd p 11, gd p 12, gd p 13, gd p 14, .i 0, .s [], .s (txt (gd p 0).int), .i 0, gd p 0, gd p 1, gd p 2, gd p 3, gd p 4, gd p 5, gd p 6, gd p 7, gd p 8, gd p 9, gd p 10, gd p 11, gd p 12, gd p 13, gd p 14]).isSome (nd (Out.code (iter (s_ShowAtlasL0 ((gd p 1).rows.length + 1) p) ((gd p 1).rows.length + 1) [gd p 0, gd p 1, gd p 2, gd p 3, gd p 4, gd p 5, gd p 6, gd p 7, gd p 8, gd p 9, gd p 10, gd p 11, gd p 12, gd p 13, gd p 14, .i 0, .s [], .s (txt (gd p 0).int), .i 0, gd p 0, gd p 1, gd p 2, gd p 3, gd p 4, gd p 5, gd p 6, gd p 7, gd p 8, gd p 9, gd p 10, gd p 11, gd p 12, gd p 13, gd p 14]) == 2) (s_ShowAtlass2 ((gd p 1).rows.length + 1) p (iter (s_ShowAtlasL0 ((gd p 1).rows.length + 1) p) ((gd p 1).rows.length + 1) [gd p 0, gd p 1, gd p 2, gd p 3, gd p 4, gd p 5, gd p 6, gd p 7, gd p 8, gd p 9, gd p 10, gd p 11, gd p 12, gd p 13, gd p 14, .i 0, .s [], .s (txt (gd p 0).int), .i 0, gd p 0, gd p 1, gd p 2, gd p 3, gd p 4, gd p 5, gd p 6, gd p 7, gd p 8, gd p 9, gd p 10, gd p 11, gd p 12, gd p 13, gd p 14]))) from by kernel_rfl]
    rw [s_SAx p hw]
    rw [show ∀ x : Out, nd (some (2, [gd p 0, gd p 1, gd p 2, gd p 3, gd p 4, gd p 5, gd p 6, gd p 7, gd p 8, gd p 9, gd p 10, gd p 11, gd p 12, gd p 13, gd p 14, .i 0, .s [], .s (accT partT (gd p 1) (txt (gd p 0).int) (gd p 1).rows.length), .i ((gd p 1).rows.length : Int), gd p 0, gd p 1, gd p 2, gd p 3, gd p 4, gd p 5, gd p 6, gd p 7, gd p 8, gd p 9, gd p 10, gd p 11, gd p 12, gd p 13, gd p 14]) : Out).isSome (nd (Out.code (some (2, [gd p 0, gd p 1, gd p 2, gd p 3, gd p 4, gd p 5, gd p 6, gd p 7, gd p 8, gd p 9, gd p 10, gd p 11, gd p 12, gd p 13, gd p 14, .i 0, .s [], .s (accT partT (gd p 1) (txt (gd p 0).int) (gd p 1).rows.length), .i ((gd p 1).rows.length : Int), gd p 0, gd p 1, gd p 2, gd p 3, gd p 4, gd p 5, gd p 6, gd p 7, gd p 8, gd p 9, gd p 10, gd p 11, gd p 12, gd p 13, gd p 14])) == 2) x) = x from fun x => rfl]
    rw [show s_ShowAtlass2 ((gd p 1).rows.length + 1) p (some (2, [gd p 0, gd p 1, gd p 2, gd p 3, gd p 4, gd p 5, gd p 6, gd p 7, gd p 8, gd p 9, gd p 10, gd p 11, gd p 12, gd p 13, gd p 14, .i 0, .s [], .s (accT partT (gd p 1) (txt (gd p 0).int) (gd p 1).rows.length), .i ((gd p 1).rows.length : Int), gd p 0, gd p 1, gd p 2, gd p 3, gd p 4, gd p 5, gd p 6, gd p 7, gd p 8, gd p 9, gd p 10, gd p 11, gd p 12, gd p 13, gd p 14])) = (bif (gd p 3).int == 0 then some (1, [.s (accT partT (gd p 1) (txt (gd p 0).int) (gd p 1).rows.length)]) else nd (decide ((accT partT (gd p 1) (txt (gd p 0).int) (gd p 1).rows.length).length + [32].length < 1099511627776)) (nd (inRange (gd p 3).int 5) (nd (decide (((accT partT (gd p 1) (txt (gd p 0).int) (gd p 1).rows.length) ++ [32]).length + (stageS (gd p 3).int).length < 1099511627776)) (some (1, [.s (((accT partT (gd p 1) (txt (gd p 0).int) (gd p 1).rows.length) ++ [32]) ++ stageS (gd p 3).int)]))))) from by kernel_rfl]
    have hl := hw.len
    have h0 := txt20 (x := (gd p 0).int) (by have := hw.ep; omega) (by have := hw.ep; omega)
    have ha := accT_len (s := txt (gd p 0).int) (partT_len hw) (gd p 1).rows.length (Nat.le_refl _)
    generalize (accT partT (gd p 1) (txt (gd p 0).int) (gd p 1).rows.length) = A at *
    rcases five hw.stage.1 hw.stage.2 with e | e | e | e | e <;> rw [e]
    · show some (1, [D.s A]) = some (1, [D.s (A ++ [])])
      rw [List.append_nil]
    all_goals
      refine nd_step (decide_eq_true ?_) (nd_step rfl (nd_step (decide_eq_true ?_) ?_))
      · simp only [List.length_cons, List.length_nil]; omega
      · simp only [List.length_append, List.length_cons, List.length_nil]
        first
          | (show A.length + (0 + 1) + 6 < _; omega)
          | (show A.length + (0 + 1) + 7 < _; omega)
          | (show A.length + (0 + 1) + 4 < _; omega)
      · rw [List.append_assoc]
        rfl

end Go.Proofs.YtchceahcaaibcaaGreat
