/-
  DrawDeedLine, DrawParseDeed of the reference: some deed, some line.
-/
import Derived.Test.YtdejncnjaebjfaaDoorDr6
namespace Go.Proofs.YtdejncnjaebjfaaDoor
set_option linter.unusedVariables false
set_option linter.unusedSimpArgs false
open Go.ChangeShapes Go.WideShapes Go.ChangeAt Go.RowKit

theorem big_any (A : Option Addr) (n c : Nat) (w : World) :
    Calls Tryd.prog 15 #[.slice A n c] w fun e w' => e = .returned (.bool (decide ((n : Int) > 1048576))) ∧ w = w' := by
  go_enter Tryd.func15, Tryd.ntmps15
  go_wp2_with fail
  go_ret
  exact ⟨rfl, rfl⟩

set_option maxRecDepth 100000 in
set_option maxHeartbeats 1000000 in
theorem ddl_any (w : World) (A : Option Addr) (n c : Nat) (hn : (n : Int) ≤ 9223372036854675807) (hy : BytesAt w.heap.size w A n) :
    Calls Tryd.prog 20 #[.slice A n c] w fun e w' => ∃ x : MDeed, e = .returned (dval x) ∧ x.wf ∧ Below w.heap.size w w' := by
  have hb0 : Below w.heap.size w (w.alloc (.cells #[.int .i64 0, .int .i64 0, .int .i64 0, .int .i64 0, .int .i64 0, .int .i64 0, .int .i64 0] 23)) := (Below.refl _ _).alloc (Nat.le_refl _) _
  have hy0 := hy.keep hb0
  have O0 := Lib.hid (show Own (w.alloc (.cells #[.int .i64 0, .int .i64 0, .int .i64 0, .int .i64 0, .int .i64 0, .int .i64 0, .int .i64 0] 23)) w.heap.size 23 7 from Own.new w 23 #[.int .i64 0, .int .i64 0, .int .i64 0, .int .i64 0, .int .i64 0, .int .i64 0, .int .i64 0])
  have hs0 : (w.alloc (.cells #[.int .i64 0, .int .i64 0, .int .i64 0, .int .i64 0, .int .i64 0, .int .i64 0, .int .i64 0] 23)).heap.size = w.heap.size + 1 := by simp
  have HY := Lib.hid hy0; have HB := Lib.hid hb0; have HS := Lib.hid hs0
  clear hy hy0 hb0 hs0
  go_enter Tryd.func20, Tryd.ntmps20
  go_wp2_with fail
  refine (new_any w.heap.size _ A n c (by rw [HS.out]; omega) hn HY.out).mono ?_
  rintro e w1 ⟨g, rfl, hg, hc, hb⟩
  have C1 := Lib.hid hc
  have O1 := Lib.hid (O0.out.call hb)
  have B1 := Lib.hid (HB.out.trans (hb.mono (by rw [HS.out]; omega)))
  rw [HS.out] at hg
  clear hc hb
  go_wp2_with fail
  refine (dr_any w.heap.size g _ C1.out).mono ?_
  rintro e w2 ⟨x, rfl, hx, hc, ho⟩
  have O2 := Lib.hid (O1.out.keep (ho.block w.heap.size O1.out.lt (by intro e; injection e with e; omega)))
  have B2 := Lib.hid (B1.out.trans (ho.below (by omega) B1.out.size))
  have HX := Lib.hid hx
  clear hc ho hx
  unfold dval
  obtain ⟨o0, p0⟩ := O2.out.cell (j := 0) (by omega)
  have f0 := O2.out.frozen 0
  obtain ⟨o1, p1⟩ := O2.out.cell (j := 1) (by omega)
  have f1 := O2.out.frozen 1
  obtain ⟨o2, p2⟩ := O2.out.cell (j := 2) (by omega)
  have f2 := O2.out.frozen 2
  obtain ⟨o3, p3⟩ := O2.out.cell (j := 3) (by omega)
  have f3 := O2.out.frozen 3
  obtain ⟨o4, p4⟩ := O2.out.cell (j := 4) (by omega)
  have f4 := O2.out.frozen 4
  obtain ⟨o5, p5⟩ := O2.out.cell (j := 5) (by omega)
  have f5 := O2.out.frozen 5
  obtain ⟨o6, p6⟩ := O2.out.cell (j := 6) (by omega)
  have f6 := O2.out.frozen 6
  go_wp2_with fail
  have hc := setRow_cells (drow x) w2 0 O2.out (by simp [drow])
  have hon := setRow_only w.heap.size (drow x) w2 0
  have hB := B2.out.trans (hon.below (Nat.le_refl _) B2.out.size)
  have k0 := hc 0 _ rfl
  have k1 := hc 1 _ rfl
  have k2 := hc 2 _ rfl
  have k3 := hc 3 _ rfl
  have k4 := hc 4 _ rfl
  have k5 := hc 5 _ rfl
  have k6 := hc 6 _ rfl
  simp only [Nat.zero_add] at k0 k1 k2 k3 k4 k5 k6
  show bodyPost _ _ _ Exit.ret _ (setRow w2 w.heap.size 0 (drow x))
  generalize setRow w2 w.heap.size 0 (drow x) = U at *
  refine bodyPost_ret (v := dval x) ?_ rfl ⟨x, rfl, HX.out, hB⟩
  simp [results, Tryd.results20, go_sem, dval, k0, k1, k2, k3, k4, k5, k6]
set_option maxRecDepth 100000 in
set_option maxHeartbeats 1000000 in
theorem dpd_any (w : World) (A : Option Addr) (n c : Nat) (hn : (n : Int) ≤ 9223372036854675807) (hy : BytesAt w.heap.size w A n) :
    Calls Tryd.prog 23 #[.slice A n c] w fun e w' => ∃ l : List UInt8, e = .returned (.string (bs l)) ∧ l.length ≤ 200 ∧ Below w.heap.size w w' := by
  have HY := Lib.hid hy; clear hy
  go_enter Tryd.func23, Tryd.ntmps23
  go_wp2_with fail
  refine (new_any w.heap.size w A n c (Nat.le_refl _) hn HY.out).mono ?_
  rintro e w1 ⟨g, rfl, hg, hc, hb⟩
  have C1 := Lib.hid hc; have B1 := Lib.hid hb
  clear hc hb
  go_wp2_with fail
  refine (line_any w.heap.size g _ C1.out).mono ?_
  rintro e w2 ⟨l, rfl, hl, hc, ho⟩
  have B2 := Lib.hid (B1.out.trans (ho.below hg B1.out.size))
  clear hc ho
  go_wp2_with fail
  go_ret
  exact ⟨l, rfl, hl, B2.out⟩
end Go.Proofs.YtdejncnjaebjfaaDoor
