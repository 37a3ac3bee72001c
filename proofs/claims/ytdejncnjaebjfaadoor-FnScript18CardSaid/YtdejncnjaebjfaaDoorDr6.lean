/-
  l18DrawLine of the reference: some short line, whatever is drawn.
-/
import Derived.Test.YtdejncnjaebjfaaDoorDr5
import Derived.Test.YtdejncnjaebjfaaDoorLine
namespace Go.Proofs.YtdejncnjaebjfaaDoor
set_option linter.unusedVariables false
set_option linter.unusedSimpArgs false
open Go.ChangeShapes Go.WideShapes Go.ChangeAt Go.RowKit

/-- some line was drawn -/
def DrawnL (B g : Nat) (w : World) (e : Ending) (w' : World) : Prop := ∃ l : List UInt8, e = .returned (.string (bs l)) ∧ l.length ≤ 200 ∧ CurAt B w' g ∧ Only g w w'

set_option maxRecDepth 1000000 in
set_option maxHeartbeats 10000000 in
theorem line_any (B g : Nat) (w : World) (hc : CurAt B w g) :
    Calls Tryd.prog 47 #[.pointer (some ⟨g, 0, none⟩)] w (DrawnL B g w) := by
  have HC := Lib.hid hc; clear hc
  go_enter Tryd.func47, Tryd.ntmps47
  go_wp2_with fail
  refine (dr_any B g _ HC.out).mono ?_
  rintro e w1 ⟨x, rfl, hx, hc, ho⟩
  have C1 := Lib.hid hc; have O1 := Lib.hid ho; have HX := Lib.hid hx
  clear hc ho hx
  unfold dval
  have hl := fun w => sline x w HX.out
  unfold ret_line at hl
  have hll := line_len HX.out
  obtain ⟨l, b, hlb, hl1⟩ : ∃ l b, lineRes x = (l, b) ∧ l.length ≤ 70 := by
    unfold lineRes
    split
    · exact ⟨_, _, rfl, hll⟩
    · exact ⟨_, _, rfl, by simp⟩
  rw [hlb] at hl
  simp only at hl
  have HL := Lib.hid hl; clear hl hlb hll
  go_wp2_with fail
  refine (HL.out _).mono ?_
  rintro e w2 ⟨rfl, hb⟩
  have C2 := Lib.hid (C1.out.below hb); have O2 := Lib.hid (O1.out.trans (Only.of_below hb))
  clear hb HL
  cases b with
  | true =>
    go_wp2_with fail
    refine (once_any B g 3 _ C2.out).mono ?_
    rintro e w3 ⟨b3, rfl, hc, ho⟩
    have C3 := Lib.hid hc; have O3 := Lib.hid (O2.out.trans ho)
    clear hc ho
    cases b3 with
    | false =>
      go_wp2_with fail
      go_ret
      exact ⟨l, rfl, by omega, C3.out, O3.out⟩
    | true =>
      have hs63 : (l.length : Int) + 1 ≤ 9223372036854775807 := by omega
      go_wp2_with fail
      refine (below_any B g ((l.length : Int) + 1) _ C3.out).mono ?_
      rintro e w4 ⟨a, rfl, ⟨a0, _, a1⟩, hc, ho⟩
      have a2 := a1 (by omega)
      obtain ⟨i, rfl⟩ : ∃ i : Nat, a = (i : Int) := ⟨a.toNat, by omega⟩
      have hil : i ≤ l.length := by omega
      have C4 := Lib.hid hc; have O4 := Lib.hid (O3.out.trans ho)
      clear hc ho a1 a2
      have a3 : (i : Int) ≤ (l.length : Int) := by omega
      go_wp2_with fail
      have hb5 : Below w4.heap.size w4 (w4.alloc (.cells ([.string (bs [32]), .string (bs [48]), .string (bs [45]), .string (bs [120]), .string (bs [57]), .string (bs [35]), .string (bs [32, 32]), .string (bs [114, 101, 97, 100]), .string (bs [10]), .string (bs [49, 48, 48, 48, 48, 48, 48, 48, 48, 48])] : List Value).toArray 9)) := (Below.refl _ _).alloc (Nat.le_refl _) _
      have C5 := Lib.hid (C4.out.below hb5); have O5 := Lib.hid (O4.out.trans (Only.of_below hb5))
      have hbits := new_all (w := w4) (t := 9) (l := ([.string (bs [32]), .string (bs [48]), .string (bs [45]), .string (bs [120]), .string (bs [57]), .string (bs [35]), .string (bs [32, 32]), .string (bs [114, 101, 97, 100]), .string (bs [10]), .string (bs [49, 48, 48, 48, 48, 48, 48, 48, 48, 48])] : List Value)) (Q := fun v => ∃ y : List UInt8, v = .string (bs y) ∧ y.length ≤ 10) (by intro v hv; simp at hv; rcases hv with rfl | rfl | rfl | rfl | rfl | rfl | rfl | rfl | rfl | rfl <;> exact ⟨_, rfl, by simp⟩)
      have HB := Lib.hid hbits
      have hgl := C4.out.lt
      clear hb5 hbits
      refine (below_any B g 3 _ C5.out).mono ?_
      rintro e w6 ⟨r, rfl, ⟨r0, _, r1⟩, hc, ho⟩
      have r2 := r1 (by omega)
      have C6 := Lib.hid hc; have O6 := Lib.hid (O5.out.trans ho)
      have hbits6 : ∀ k, k < 10 → ∃ y, w6.cell? ((⟨w4.heap.size, 0, none⟩ : Addr).add k) = some (.string (bs y)) ∧ y.length ≤ 10 := by
        intro k hk
        obtain ⟨v, hv, y, rfl, hy⟩ := HB.out k (by simpa using hk)
        exact ⟨y, (ho.cell (by rw [block_add]; simp) (by rw [block_add]; simp; omega)).trans hv, hy⟩
      have HB6 := Lib.hid hbits6
      clear hc ho r1 hbits6 HB
      rcases (show r = 0 ∨ r = 1 ∨ r = 2 from by omega) with rfl | rfl | rfl
      · go_wp2_with fail
        go_ret
        exact ⟨_, rfl, by simp; omega, C6.out, O6.out⟩
      · obtain ⟨m, hml, hmin, hmin'⟩ : ∃ m : Nat, m ≤ l.length ∧ (∀ w : World, Calls Tryd.prog 63 #[.int .i64 ((i : Int) + 1), .int .i64 (l.length : Int)] w fun e w' => e = .returned (.int .i64 (m : Int)) ∧ w' = w) ∧ (∀ w : World, Calls Tryd.prog 63 #[.int .i64 (IntKind.i64.wrap ((i : Int) + 1)), .int .i64 (l.length : Int)] w fun e w' => e = .returned (.int .i64 (m : Int)) ∧ w' = w) := by
          have hw : IntKind.i64.wrap ((i : Int) + 1) = (i : Int) + 1 := IntWalk.i64_in _ (by omega)
          rw [hw]
          by_cases hm : (i : Int) + 1 < (l.length : Int)
          · refine ⟨i + 1, by omega, ?_, ?_⟩ <;> (intro w; refine (min_is _ _ w).mono ?_; rintro e w' ⟨rfl, rfl⟩; rw [if_pos hm]; exact ⟨by simp, rfl⟩)
          · refine ⟨l.length, by omega, ?_, ?_⟩ <;> (intro w; refine (min_is _ _ w).mono ?_; rintro e w' ⟨rfl, rfl⟩; rw [if_neg hm]; exact ⟨rfl, rfl⟩)
        have b0 : (0 : Int) ≤ (m : Int) := by omega
        have b1 : (m : Int) ≤ (l.length : Int) := by omega
        go_wp2_with fail
        have hpick := pick_any B g w6.drew ⟨w4.heap.size, 0, none⟩ 10 10 (fun y => y.length ≤ 10) C6.out (by omega) (by omega) (by simp; omega) HB6.out
        go_region_held3 (fun w' => True)
          (first | trivial | go_keep)
          (first
            | (go_at_call 62; refine hpick.mono ?_; rintro e w7 ⟨y, rfl, hy, hc, ho⟩; have hy' : y.length ≤ 10 := hy; have L1 : ¬ 9223372036854775807 < i + y.length := (by omega); have L2 : ¬ 9223372036854775807 < i + y.length + (l.length - i) := (by omega); have L3 : ¬ 9223372036854775807 < i + y.length + (l.length - m) := (by omega); have L4 : ¬ 9223372036854775807 < i + (y.length + (l.length - i)) := (by omega); have L5 : ¬ 9223372036854775807 < i + (y.length + (l.length - m)) := (by omega); have L6 : min i l.length = i := (by omega))
            | (go_at_call 63; (first | refine (hmin _).mono ?_ | refine (hmin' _).mono ?_); rintro e w8 ⟨rfl, rfl⟩))
        go_wp2_with fail
        go_ret
        exact ⟨_, rfl, by simp; omega, hc, O6.out.drew.trans ho⟩
      · go_wp2_with fail
        have hpick := pick_any B g w6.drew ⟨w4.heap.size, 0, none⟩ 10 10 (fun y => y.length ≤ 10) C6.out (by omega) (by omega) (by simp; omega) HB6.out
        go_region_held3 (fun w' => True)
          (first | trivial | go_keep)
          (first
            | (go_at_call 62; refine hpick.mono ?_; rintro e w7 ⟨y, rfl, hy, hc, ho⟩; have hy' : y.length ≤ 10 := hy; have L1 : ¬ 9223372036854775807 < i + y.length := (by omega); have L2 : ¬ 9223372036854775807 < i + y.length + (l.length - i) := (by omega); have L3 : ¬ 9223372036854775807 < i + y.length + (l.length - (i + 1)) := (by omega); have L4 : ¬ 9223372036854775807 < i + (y.length + (l.length - i)) := (by omega); have L5 : ¬ 9223372036854775807 < i + (y.length + (l.length - (i + 1))) := (by omega); have L6 : min i l.length = i := (by omega))
            | (go_at_call 63; (first | refine (hmin _).mono ?_ | refine (hmin' _).mono ?_); rintro e w8 ⟨rfl, rfl⟩))
        go_wp2_with fail
        go_ret
        exact ⟨_, rfl, by simp; omega, hc, O6.out.drew.trans ho⟩
  | false =>
    go_wp2_with fail
    generalize hse : ([98, 101, 103, 105, 110, 32, 48] : List UInt8) = s
    have hsl : s.length ≤ 70 := by rw [← hse]; simp
    clear hse
    refine (once_any B g 3 _ C2.out).mono ?_
    rintro e w3 ⟨b3, rfl, hc, ho⟩
    have C3 := Lib.hid hc; have O3 := Lib.hid (O2.out.trans ho)
    clear hc ho
    cases b3 with
    | false =>
      go_wp2_with fail
      go_ret
      exact ⟨s, rfl, by omega, C3.out, O3.out⟩
    | true =>
      have hs63 : (s.length : Int) + 1 ≤ 9223372036854775807 := by omega
      go_wp2_with fail
      refine (below_any B g ((s.length : Int) + 1) _ C3.out).mono ?_
      rintro e w4 ⟨a, rfl, ⟨a0, _, a1⟩, hc, ho⟩
      have a2 := a1 (by omega)
      obtain ⟨i, rfl⟩ : ∃ i : Nat, a = (i : Int) := ⟨a.toNat, by omega⟩
      have hil : i ≤ s.length := by omega
      have C4 := Lib.hid hc; have O4 := Lib.hid (O3.out.trans ho)
      clear hc ho a1 a2
      have a3 : (i : Int) ≤ (s.length : Int) := by omega
      go_wp2_with fail
      have hb5 : Below w4.heap.size w4 (w4.alloc (.cells ([.string (bs [32]), .string (bs [48]), .string (bs [45]), .string (bs [120]), .string (bs [57]), .string (bs [35]), .string (bs [32, 32]), .string (bs [114, 101, 97, 100]), .string (bs [10]), .string (bs [49, 48, 48, 48, 48, 48, 48, 48, 48, 48])] : List Value).toArray 9)) := (Below.refl _ _).alloc (Nat.le_refl _) _
      have C5 := Lib.hid (C4.out.below hb5); have O5 := Lib.hid (O4.out.trans (Only.of_below hb5))
      have hbits := new_all (w := w4) (t := 9) (l := ([.string (bs [32]), .string (bs [48]), .string (bs [45]), .string (bs [120]), .string (bs [57]), .string (bs [35]), .string (bs [32, 32]), .string (bs [114, 101, 97, 100]), .string (bs [10]), .string (bs [49, 48, 48, 48, 48, 48, 48, 48, 48, 48])] : List Value)) (Q := fun v => ∃ y : List UInt8, v = .string (bs y) ∧ y.length ≤ 10) (by intro v hv; simp at hv; rcases hv with rfl | rfl | rfl | rfl | rfl | rfl | rfl | rfl | rfl | rfl <;> exact ⟨_, rfl, by simp⟩)
      have HB := Lib.hid hbits
      have hgl := C4.out.lt
      clear hb5 hbits
      refine (below_any B g 3 _ C5.out).mono ?_
      rintro e w6 ⟨r, rfl, ⟨r0, _, r1⟩, hc, ho⟩
      have r2 := r1 (by omega)
      have C6 := Lib.hid hc; have O6 := Lib.hid (O5.out.trans ho)
      have hbits6 : ∀ k, k < 10 → ∃ y, w6.cell? ((⟨w4.heap.size, 0, none⟩ : Addr).add k) = some (.string (bs y)) ∧ y.length ≤ 10 := by
        intro k hk
        obtain ⟨v, hv, y, rfl, hy⟩ := HB.out k (by simpa using hk)
        exact ⟨y, (ho.cell (by rw [block_add]; simp) (by rw [block_add]; simp; omega)).trans hv, hy⟩
      have HB6 := Lib.hid hbits6
      clear hc ho r1 hbits6 HB
      rcases (show r = 0 ∨ r = 1 ∨ r = 2 from by omega) with rfl | rfl | rfl
      · go_wp2_with fail
        go_ret
        exact ⟨_, rfl, by simp; omega, C6.out, O6.out⟩
      · obtain ⟨m, hml, hmin, hmin'⟩ : ∃ m : Nat, m ≤ s.length ∧ (∀ w : World, Calls Tryd.prog 63 #[.int .i64 ((i : Int) + 1), .int .i64 (s.length : Int)] w fun e w' => e = .returned (.int .i64 (m : Int)) ∧ w' = w) ∧ (∀ w : World, Calls Tryd.prog 63 #[.int .i64 (IntKind.i64.wrap ((i : Int) + 1)), .int .i64 (s.length : Int)] w fun e w' => e = .returned (.int .i64 (m : Int)) ∧ w' = w) := by
          have hw : IntKind.i64.wrap ((i : Int) + 1) = (i : Int) + 1 := IntWalk.i64_in _ (by omega)
          rw [hw]
          by_cases hm : (i : Int) + 1 < (s.length : Int)
          · refine ⟨i + 1, by omega, ?_, ?_⟩ <;> (intro w; refine (min_is _ _ w).mono ?_; rintro e w' ⟨rfl, rfl⟩; rw [if_pos hm]; exact ⟨by simp, rfl⟩)
          · refine ⟨s.length, by omega, ?_, ?_⟩ <;> (intro w; refine (min_is _ _ w).mono ?_; rintro e w' ⟨rfl, rfl⟩; rw [if_neg hm]; exact ⟨rfl, rfl⟩)
        have b0 : (0 : Int) ≤ (m : Int) := by omega
        have b1 : (m : Int) ≤ (s.length : Int) := by omega
        go_wp2_with fail
        have hpick := pick_any B g w6.drew ⟨w4.heap.size, 0, none⟩ 10 10 (fun y => y.length ≤ 10) C6.out (by omega) (by omega) (by simp; omega) HB6.out
        go_region_held3 (fun w' => True)
          (first | trivial | go_keep)
          (first
            | (go_at_call 62; refine hpick.mono ?_; rintro e w7 ⟨y, rfl, hy, hc, ho⟩; have hy' : y.length ≤ 10 := hy; have L1 : ¬ 9223372036854775807 < i + y.length := (by omega); have L2 : ¬ 9223372036854775807 < i + y.length + (s.length - i) := (by omega); have L3 : ¬ 9223372036854775807 < i + y.length + (s.length - m) := (by omega); have L4 : ¬ 9223372036854775807 < i + (y.length + (s.length - i)) := (by omega); have L5 : ¬ 9223372036854775807 < i + (y.length + (s.length - m)) := (by omega); have L6 : min i s.length = i := (by omega))
            | (go_at_call 63; (first | refine (hmin _).mono ?_ | refine (hmin' _).mono ?_); rintro e w8 ⟨rfl, rfl⟩))
        go_wp2_with fail
        go_ret
        exact ⟨_, rfl, by simp; omega, hc, O6.out.drew.trans ho⟩
      · go_wp2_with fail
        have hpick := pick_any B g w6.drew ⟨w4.heap.size, 0, none⟩ 10 10 (fun y => y.length ≤ 10) C6.out (by omega) (by omega) (by simp; omega) HB6.out
        go_region_held3 (fun w' => True)
          (first | trivial | go_keep)
          (first
            | (go_at_call 62; refine hpick.mono ?_; rintro e w7 ⟨y, rfl, hy, hc, ho⟩; have hy' : y.length ≤ 10 := hy; have L1 : ¬ 9223372036854775807 < i + y.length := (by omega); have L2 : ¬ 9223372036854775807 < i + y.length + (s.length - i) := (by omega); have L3 : ¬ 9223372036854775807 < i + y.length + (s.length - (i + 1)) := (by omega); have L4 : ¬ 9223372036854775807 < i + (y.length + (s.length - i)) := (by omega); have L5 : ¬ 9223372036854775807 < i + (y.length + (s.length - (i + 1))) := (by omega); have L6 : min i s.length = i := (by omega))
            | (go_at_call 63; (first | refine (hmin _).mono ?_ | refine (hmin' _).mono ?_); rintro e w8 ⟨rfl, rfl⟩))
        go_wp2_with fail
        go_ret
        exact ⟨_, rfl, by simp; omega, hc, O6.out.drew.trans ho⟩
end Go.Proofs.YtdejncnjaebjfaaDoor
