/-
  l16DrawDeed of the reference: some deed, whatever is drawn.
-/
import Derived.Test.YtdejncnjaebjfaaDoorDr2
namespace Go.Proofs.YtdejncnjaebjfaaDoor
set_option linter.unusedVariables false
set_option linter.unusedSimpArgs false
open Go.ChangeShapes Go.WideShapes Go.ChangeAt Go.RowKit

set_option maxRecDepth 100000 in
set_option maxHeartbeats 100000000 in
theorem dd_any (B g gc : Nat) (s p : Addr) (w : World) (hc : CurAt B w g) (hgc : gc ≠ g) (hcl : ∀ i, i < 3 → ClientAt w gc (i * 9)) :
    Calls Tryd.prog 59 #[.pointer (some ⟨g, 0, none⟩), .agg (town0 s ⟨gc, 0, none⟩ p)] w (DrawnD B g w) := by
  have hst := DI.start (s := s) (c := ⟨gc, 0, none⟩) (p := p) hc rfl
  unfold town0 at hst ⊢
  generalize hW : (w.alloc _).alloc _ = W at hst
  have k12 := hst.k12
  have k13 := hst.k13
  have HST := Lib.hid hst; have HCL := Lib.hid hcl; have HW := Lib.hid hW; clear hst hcl hc
  have m1 := fun w => max_is 5 1 w
  have m2 := fun w => max_is 3 1 w
  simp only [show (1 : Int) < 5 from by omega, show (1 : Int) < 3 from by omega, if_true] at m1 m2
  go_enter Tryd.func59, Tryd.ntmps59
  go_wp2_with fail
  refine (m1 _).mono ?_
  rintro e w' ⟨rfl, rfl⟩
  go_wp2_with fail
  refine (m2 _).mono ?_
  rintro e w' ⟨rfl, rfl⟩
  go_wp2_with fail
  refine (below_any B g 3 _ HST.out.cur).mono ?_
  rintro e w1 ⟨a, rfl, ⟨a0, _, a1⟩, hc1, ho1⟩
  have a2 := a1 (by omega)
  have hst1 := HST.out.next hc1 ho1
  obtain ⟨i, rfl⟩ : ∃ i : Nat, a = (i : Int) := ⟨a.toNat, by omega⟩
  obtain ⟨t, t0, t1, hcl⟩ := HCL.out i (by omega)
  have hgl : gc < w.heap.size := cell_lt (hcl 0 _ rfl)
  have hgl1 : gc < w1.heap.size := by have := hst1.only.size; omega
  have kc : ∀ (j : Nat) (u : Value), w.cell? ⟨gc, i * 9 + j, none⟩ = some u → w1.cell? ⟨gc, i * 9 + j, none⟩ = some u := fun j u hu => (World.cell?_of_block (a := ⟨gc, i * 9 + j, none⟩) (hst1.only.block gc hgl (by intro e; injection e with e; omega))).trans hu
  have c0 := kc 0 _ (hcl 0 _ rfl)
  have c1 := kc 1 _ (hcl 1 _ rfl)
  have c2 := kc 2 _ (hcl 2 _ rfl)
  have c3 := kc 3 _ (hcl 3 _ rfl)
  have c4 := kc 4 _ (hcl 4 _ rfl)
  have c5 := kc 5 _ (hcl 5 _ rfl)
  have c6 := kc 6 _ (hcl 6 _ rfl)
  have c7 := kc 7 _ (hcl 7 _ rfl)
  have c8 := kc 8 _ (hcl 8 _ rfl)
  rw [Nat.add_zero] at c0
  have k12 := hst1.k12
  have hbl := hst1.own.lt
  have q0 : w.heap.size < w1.heap.size := by omega
  have q1 : w.heap.size ≠ w1.heap.size := by omega
  have q2 : gc ≠ w1.heap.size := by omega
  have HS1 := Lib.hid hst1
  clear hst1 ho1 hc1 hcl kc a1
  go_wp2_with fail
  have hdj := DJ.lay t HS1.out (by omega) 94
  have HDJ := Lib.hid hdj
  refine (below_any B g 40 _ hdj.cur).mono ?_
  rintro e w2 ⟨r, rfl, ⟨r0, _, r1⟩, hc2, ho2⟩
  have r2 := r1 (by omega)
  have hd2 := HDJ.out.next hc2 ho2
  have H2 := Lib.hid hd2
  generalize w1.heap.size = d at *
  clear hdj HDJ hd2 ho2 hc2 r1 c0 c1 c2 c3 c4 c5 c6 c7 c8 k12 HS1
  have hT : t = 0 ∨ t = 1 ∨ t = 2 := by omega
  rcases (show r = 0 ∨ r = 1 ∨ r = 2 ∨ r = 3 ∨ r = 4 ∨ r = 5 ∨ r = 6 ∨ r = 7 ∨ r = 8 ∨ r = 9 ∨ r = 10 ∨ r = 11 ∨ r = 12 ∨ r = 13 ∨ r = 14 ∨ r = 15 ∨ r = 16 ∨ r = 17 ∨ r = 18 ∨ r = 19 ∨ r = 20 ∨ 21 ≤ r from by omega) with rfl | rfl | rfl | rfl | rfl | rfl | rfl | rfl | rfl | rfl | rfl | rfl | rfl | rfl | rfl | rfl | rfl | rfl | rfl | rfl | rfl | hr
  · -- 0
    go_wp2_with fail
    refine (below_any B g 5 _ H2.out.cur).mono ?_
    rintro e w3 ⟨x, rfl, ⟨x0, _, x1⟩, hc, ho⟩
    have x2 := x1 (by omega)
    have H3 := Lib.hid (H2.out.next hc ho)
    clear hc ho x1
    obtain ⟨o0, p0⟩ := H3.out.own.cell (j := 0) (by omega)
    have f0 := H3.out.own.frozen 0
    obtain ⟨o1, p1⟩ := H3.out.own.cell (j := 1) (by omega)
    have f1 := H3.out.own.frozen 1
    obtain ⟨o2, p2⟩ := H3.out.own.cell (j := 2) (by omega)
    have f2 := H3.out.own.frozen 2
    obtain ⟨o3, p3⟩ := H3.out.own.cell (j := 3) (by omega)
    have f3 := H3.out.own.frozen 3
    obtain ⟨o4, p4⟩ := H3.out.own.cell (j := 4) (by omega)
    have f4 := H3.out.own.frozen 4
    obtain ⟨o5, p5⟩ := H3.out.own.cell (j := 5) (by omega)
    have f5 := H3.out.own.frozen 5
    obtain ⟨o6, p6⟩ := H3.out.own.cell (j := 6) (by omega)
    have f6 := H3.out.own.frozen 6
    go_wp2_with fail
    exact dd_done H3.out.toDI ⟨8, x, 0, 0, 0, 0, 0⟩ (by simp [MDeed.wf, I64] <;> omega) _ rfl rfl
  · -- 1
    go_wp2_with fail
    refine (below_any B g 5 _ H2.out.cur).mono ?_
    rintro e w3 ⟨x, rfl, ⟨x0, _, x1⟩, hc, ho⟩
    have x2 := x1 (by omega)
    have H3 := Lib.hid (H2.out.next hc ho)
    clear hc ho x1
    obtain ⟨o0, p0⟩ := H3.out.own.cell (j := 0) (by omega)
    have f0 := H3.out.own.frozen 0
    obtain ⟨o1, p1⟩ := H3.out.own.cell (j := 1) (by omega)
    have f1 := H3.out.own.frozen 1
    obtain ⟨o2, p2⟩ := H3.out.own.cell (j := 2) (by omega)
    have f2 := H3.out.own.frozen 2
    obtain ⟨o3, p3⟩ := H3.out.own.cell (j := 3) (by omega)
    have f3 := H3.out.own.frozen 3
    obtain ⟨o4, p4⟩ := H3.out.own.cell (j := 4) (by omega)
    have f4 := H3.out.own.frozen 4
    obtain ⟨o5, p5⟩ := H3.out.own.cell (j := 5) (by omega)
    have f5 := H3.out.own.frozen 5
    obtain ⟨o6, p6⟩ := H3.out.own.cell (j := 6) (by omega)
    have f6 := H3.out.own.frozen 6
    go_wp2_with fail
    exact dd_done H3.out.toDI ⟨9, x, 0, 0, 0, 0, 0⟩ (by simp [MDeed.wf, I64] <;> omega) _ rfl rfl
  · -- 2
    go_wp2_with fail
    refine (below_any B g 5 _ H2.out.cur).mono ?_
    rintro e w3 ⟨x, rfl, ⟨x0, _, x1⟩, hc, ho⟩
    have x2 := x1 (by omega)
    have H3 := Lib.hid (H2.out.next hc ho)
    clear hc ho x1
    go_wp2_with fail
    refine (below_any B g 5 _ H3.out.cur).mono ?_
    rintro e w4 ⟨y, rfl, ⟨y0, _, y1⟩, hc, ho⟩
    have y2 := y1 (by omega)
    have H4 := Lib.hid (H3.out.next hc ho)
    clear hc ho y1
    obtain ⟨o0, p0⟩ := H4.out.own.cell (j := 0) (by omega)
    have f0 := H4.out.own.frozen 0
    obtain ⟨o1, p1⟩ := H4.out.own.cell (j := 1) (by omega)
    have f1 := H4.out.own.frozen 1
    obtain ⟨o2, p2⟩ := H4.out.own.cell (j := 2) (by omega)
    have f2 := H4.out.own.frozen 2
    obtain ⟨o3, p3⟩ := H4.out.own.cell (j := 3) (by omega)
    have f3 := H4.out.own.frozen 3
    obtain ⟨o4, p4⟩ := H4.out.own.cell (j := 4) (by omega)
    have f4 := H4.out.own.frozen 4
    obtain ⟨o5, p5⟩ := H4.out.own.cell (j := 5) (by omega)
    have f5 := H4.out.own.frozen 5
    obtain ⟨o6, p6⟩ := H4.out.own.cell (j := 6) (by omega)
    have f6 := H4.out.own.frozen 6
    go_wp2_with fail
    exact dd_done H4.out.toDI ⟨10, x, y, 0, 0, 0, 0⟩ (by simp [MDeed.wf, I64] <;> omega) _ rfl rfl
  · -- 3
    have n10 := H2.out.k10
    go_wp2_with fail
    refine (below_any B g 1 _ H2.out.cur).mono ?_
    rintro e w3 ⟨x, rfl, ⟨x0, _, x1⟩, hc, ho⟩
    have x2 := x1 (by omega)
    have H3 := Lib.hid (H2.out.next hc ho)
    clear hc ho x1
    obtain ⟨o0, p0⟩ := H3.out.own.cell (j := 0) (by omega)
    have f0 := H3.out.own.frozen 0
    obtain ⟨o1, p1⟩ := H3.out.own.cell (j := 1) (by omega)
    have f1 := H3.out.own.frozen 1
    obtain ⟨o2, p2⟩ := H3.out.own.cell (j := 2) (by omega)
    have f2 := H3.out.own.frozen 2
    obtain ⟨o3, p3⟩ := H3.out.own.cell (j := 3) (by omega)
    have f3 := H3.out.own.frozen 3
    obtain ⟨o4, p4⟩ := H3.out.own.cell (j := 4) (by omega)
    have f4 := H3.out.own.frozen 4
    obtain ⟨o5, p5⟩ := H3.out.own.cell (j := 5) (by omega)
    have f5 := H3.out.own.frozen 5
    obtain ⟨o6, p6⟩ := H3.out.own.cell (j := 6) (by omega)
    have f6 := H3.out.own.frozen 6
    go_wp2_with fail
    exact dd_done H3.out.toDI ⟨11, (1 + x), 0, 0, 0, 0, 0⟩ (by simp [MDeed.wf, I64] <;> omega) _ rfl rfl
  · -- 4
    have n10 := H2.out.k10
    go_wp2_with fail
    refine (below_any B g 1 _ H2.out.cur).mono ?_
    rintro e w3 ⟨x, rfl, ⟨x0, _, x1⟩, hc, ho⟩
    have x2 := x1 (by omega)
    have H3 := Lib.hid (H2.out.next hc ho)
    clear hc ho x1
    obtain ⟨o0, p0⟩ := H3.out.own.cell (j := 0) (by omega)
    have f0 := H3.out.own.frozen 0
    obtain ⟨o1, p1⟩ := H3.out.own.cell (j := 1) (by omega)
    have f1 := H3.out.own.frozen 1
    obtain ⟨o2, p2⟩ := H3.out.own.cell (j := 2) (by omega)
    have f2 := H3.out.own.frozen 2
    obtain ⟨o3, p3⟩ := H3.out.own.cell (j := 3) (by omega)
    have f3 := H3.out.own.frozen 3
    obtain ⟨o4, p4⟩ := H3.out.own.cell (j := 4) (by omega)
    have f4 := H3.out.own.frozen 4
    obtain ⟨o5, p5⟩ := H3.out.own.cell (j := 5) (by omega)
    have f5 := H3.out.own.frozen 5
    obtain ⟨o6, p6⟩ := H3.out.own.cell (j := 6) (by omega)
    have f6 := H3.out.own.frozen 6
    go_wp2_with fail
    exact dd_done H3.out.toDI ⟨11, (1 + x), 0, 0, 0, 0, 0⟩ (by simp [MDeed.wf, I64] <;> omega) _ rfl rfl
  · -- 5
    go_wp2_with fail
    refine (once_any B g 3 _ H2.out.cur).mono ?_
    rintro e w3 ⟨b, rfl, hc, ho⟩
    have H3 := Lib.hid (H2.out.next hc ho)
    clear hc ho
    cases b with
    | true =>
      have n10 := H3.out.k10
      go_wp2_with fail
      refine (below_any B g 1 _ H3.out.cur).mono ?_
      rintro e w4 ⟨x, rfl, ⟨x0, _, x1⟩, hc, ho⟩
      have x2 := x1 (by omega)
      have H4 := Lib.hid (H3.out.next hc ho)
      clear hc ho x1
      obtain ⟨o0, p0⟩ := H4.out.own.cell (j := 0) (by omega)
      have f0 := H4.out.own.frozen 0
      obtain ⟨o1, p1⟩ := H4.out.own.cell (j := 1) (by omega)
      have f1 := H4.out.own.frozen 1
      obtain ⟨o2, p2⟩ := H4.out.own.cell (j := 2) (by omega)
      have f2 := H4.out.own.frozen 2
      obtain ⟨o3, p3⟩ := H4.out.own.cell (j := 3) (by omega)
      have f3 := H4.out.own.frozen 3
      obtain ⟨o4, p4⟩ := H4.out.own.cell (j := 4) (by omega)
      have f4 := H4.out.own.frozen 4
      obtain ⟨o5, p5⟩ := H4.out.own.cell (j := 5) (by omega)
      have f5 := H4.out.own.frozen 5
      obtain ⟨o6, p6⟩ := H4.out.own.cell (j := 6) (by omega)
      have f6 := H4.out.own.frozen 6
      go_wp2_with fail
      exact dd_done H4.out.toDI ⟨12, (1 + x), 0, 0, 0, 0, 0⟩ (by simp [MDeed.wf, I64] <;> omega) _ rfl rfl
    | false =>
      go_wp2_with fail
      refine (soon_any B g 5 _ H3.out.cur (by omega)).mono ?_
      rintro e w4 ⟨z, rfl, ⟨z0, z1⟩, hc, ho⟩
      have H4 := Lib.hid (H3.out.next hc ho)
      clear hc ho
      obtain ⟨o0, p0⟩ := H4.out.own.cell (j := 0) (by omega)
      have f0 := H4.out.own.frozen 0
      obtain ⟨o1, p1⟩ := H4.out.own.cell (j := 1) (by omega)
      have f1 := H4.out.own.frozen 1
      obtain ⟨o2, p2⟩ := H4.out.own.cell (j := 2) (by omega)
      have f2 := H4.out.own.frozen 2
      obtain ⟨o3, p3⟩ := H4.out.own.cell (j := 3) (by omega)
      have f3 := H4.out.own.frozen 3
      obtain ⟨o4, p4⟩ := H4.out.own.cell (j := 4) (by omega)
      have f4 := H4.out.own.frozen 4
      obtain ⟨o5, p5⟩ := H4.out.own.cell (j := 5) (by omega)
      have f5 := H4.out.own.frozen 5
      obtain ⟨o6, p6⟩ := H4.out.own.cell (j := 6) (by omega)
      have f6 := H4.out.own.frozen 6
      go_wp2_with fail
      exact dd_done H4.out.toDI ⟨7, z, 0, 0, 0, 0, 0⟩ (by simp [MDeed.wf, I64] <;> omega) _ rfl rfl
  · -- 6
    go_wp2_with fail
    refine (below_any B g 40 _ H2.out.cur).mono ?_
    rintro e w3 ⟨x, rfl, ⟨x0, _, x1⟩, hc, ho⟩
    have x2 := x1 (by omega)
    have H3 := Lib.hid (H2.out.next hc ho)
    clear hc ho x1
    obtain ⟨o0, p0⟩ := H3.out.own.cell (j := 0) (by omega)
    have f0 := H3.out.own.frozen 0
    obtain ⟨o1, p1⟩ := H3.out.own.cell (j := 1) (by omega)
    have f1 := H3.out.own.frozen 1
    obtain ⟨o2, p2⟩ := H3.out.own.cell (j := 2) (by omega)
    have f2 := H3.out.own.frozen 2
    obtain ⟨o3, p3⟩ := H3.out.own.cell (j := 3) (by omega)
    have f3 := H3.out.own.frozen 3
    obtain ⟨o4, p4⟩ := H3.out.own.cell (j := 4) (by omega)
    have f4 := H3.out.own.frozen 4
    obtain ⟨o5, p5⟩ := H3.out.own.cell (j := 5) (by omega)
    have f5 := H3.out.own.frozen 5
    obtain ⟨o6, p6⟩ := H3.out.own.cell (j := 6) (by omega)
    have f6 := H3.out.own.frozen 6
    go_wp2_with fail
    exact dd_done H3.out.toDI ⟨13, 0, 0, 0, 0, x, 0⟩ (by simp [MDeed.wf, I64] <;> omega) _ rfl rfl
  · -- 7
    have n9 := H2.out.k9
    have m2 := fun w => max_is 3 1 w
    simp only [show (1 : Int) < 3 from by omega, if_true] at m2
    go_wp2_with fail
    have HD := Lib.hid (H2.out.next (W' := w2.drew) H2.out.cur (Only.refl g w2).drew)
    have n9d := HD.out.k9
    go_region_held3 (fun w' => w'.cell? ⟨w.heap.size, 9, none⟩ = some (.slice (some s) 3 3))
      (first
        | go_keep)
      (first
        | (go_at_call_of 58 (Value.int .i64 40); refine (below_any B g 40 _ HD.out.cur).mono ?_; rintro e w3 ⟨x, rfl, ⟨x0, _, x1⟩, hc, ho⟩; have n93 := (HD.out.next hc ho).k9)
        | (go_at_call 70; refine (m2 _).mono ?_; rintro e w4 ⟨rfl, rfl⟩)
        | (go_at_call_of 58 (Value.int .i64 3); refine (below_any B g 3 _ hc).mono ?_; rintro e w5 ⟨y, rfl, ⟨y0, _, y1⟩, hc', ho'⟩; have n95 := ((HD.out.next hc ho).next hc' ho').k9; have H5 := Lib.hid ((HD.out.next hc ho).next hc' ho'); obtain ⟨o0, p0⟩ := H5.out.own.cell (j := 0) (by omega); have f0 := H5.out.own.frozen 0; obtain ⟨o1, p1⟩ := H5.out.own.cell (j := 1) (by omega); have f1 := H5.out.own.frozen 1; obtain ⟨o2, p2⟩ := H5.out.own.cell (j := 2) (by omega); have f2 := H5.out.own.frozen 2; obtain ⟨o3, p3⟩ := H5.out.own.cell (j := 3) (by omega); have f3 := H5.out.own.frozen 3; obtain ⟨o4, p4⟩ := H5.out.own.cell (j := 4) (by omega); have f4 := H5.out.own.frozen 4; obtain ⟨o5, p5⟩ := H5.out.own.cell (j := 5) (by omega); have f5 := H5.out.own.frozen 5; obtain ⟨o6, p6⟩ := H5.out.own.cell (j := 6) (by omega); have f6 := H5.out.own.frozen 6))
    have x2 := x1 (by omega)
    have y2 := y1 (by omega)
    go_wp2_with fail
    exact dd_done H5.out.toDI ⟨14, 0, y, 0, 0, x, 0⟩ (by simp [MDeed.wf, I64] <;> omega) _ rfl rfl
  · -- 8
    have n9 := H2.out.k9
    have m2 := fun w => max_is 3 1 w
    simp only [show (1 : Int) < 3 from by omega, if_true] at m2
    go_wp2_with fail
    have HD := Lib.hid (H2.out.next (W' := w2.drew) H2.out.cur (Only.refl g w2).drew)
    have n9d := HD.out.k9
    go_region_held3 (fun w' => w'.cell? ⟨w.heap.size, 9, none⟩ = some (.slice (some s) 3 3))
      (first
        | go_keep)
      (first
        | (go_at_call_of 58 (Value.int .i64 40); refine (below_any B g 40 _ HD.out.cur).mono ?_; rintro e w3 ⟨x, rfl, ⟨x0, _, x1⟩, hc, ho⟩; have n93 := (HD.out.next hc ho).k9)
        | (go_at_call 70; refine (m2 _).mono ?_; rintro e w4 ⟨rfl, rfl⟩)
        | (go_at_call_of 58 (Value.int .i64 3); refine (below_any B g 3 _ hc).mono ?_; rintro e w5 ⟨y, rfl, ⟨y0, _, y1⟩, hc', ho'⟩; have n95 := ((HD.out.next hc ho).next hc' ho').k9; have H5 := Lib.hid ((HD.out.next hc ho).next hc' ho'); obtain ⟨o0, p0⟩ := H5.out.own.cell (j := 0) (by omega); have f0 := H5.out.own.frozen 0; obtain ⟨o1, p1⟩ := H5.out.own.cell (j := 1) (by omega); have f1 := H5.out.own.frozen 1; obtain ⟨o2, p2⟩ := H5.out.own.cell (j := 2) (by omega); have f2 := H5.out.own.frozen 2; obtain ⟨o3, p3⟩ := H5.out.own.cell (j := 3) (by omega); have f3 := H5.out.own.frozen 3; obtain ⟨o4, p4⟩ := H5.out.own.cell (j := 4) (by omega); have f4 := H5.out.own.frozen 4; obtain ⟨o5, p5⟩ := H5.out.own.cell (j := 5) (by omega); have f5 := H5.out.own.frozen 5; obtain ⟨o6, p6⟩ := H5.out.own.cell (j := 6) (by omega); have f6 := H5.out.own.frozen 6))
    have x2 := x1 (by omega)
    have y2 := y1 (by omega)
    go_wp2_with fail
    exact dd_done H5.out.toDI ⟨14, 0, y, 0, 0, x, 0⟩ (by simp [MDeed.wf, I64] <;> omega) _ rfl rfl
  · -- 9
    obtain ⟨o0, p0⟩ := H2.out.own.cell (j := 0) (by omega)
    have f0 := H2.out.own.frozen 0
    obtain ⟨o1, p1⟩ := H2.out.own.cell (j := 1) (by omega)
    have f1 := H2.out.own.frozen 1
    obtain ⟨o2, p2⟩ := H2.out.own.cell (j := 2) (by omega)
    have f2 := H2.out.own.frozen 2
    obtain ⟨o3, p3⟩ := H2.out.own.cell (j := 3) (by omega)
    have f3 := H2.out.own.frozen 3
    obtain ⟨o4, p4⟩ := H2.out.own.cell (j := 4) (by omega)
    have f4 := H2.out.own.frozen 4
    obtain ⟨o5, p5⟩ := H2.out.own.cell (j := 5) (by omega)
    have f5 := H2.out.own.frozen 5
    obtain ⟨o6, p6⟩ := H2.out.own.cell (j := 6) (by omega)
    have f6 := H2.out.own.frozen 6
    go_wp2_with fail
    exact dd_done H2.out.toDI ⟨15, 0, 0, 0, 0, 0, 0⟩ (by simp [MDeed.wf, I64] <;> omega) _ rfl rfl
  · -- 10
    obtain ⟨o0, p0⟩ := H2.out.own.cell (j := 0) (by omega)
    have f0 := H2.out.own.frozen 0
    obtain ⟨o1, p1⟩ := H2.out.own.cell (j := 1) (by omega)
    have f1 := H2.out.own.frozen 1
    obtain ⟨o2, p2⟩ := H2.out.own.cell (j := 2) (by omega)
    have f2 := H2.out.own.frozen 2
    obtain ⟨o3, p3⟩ := H2.out.own.cell (j := 3) (by omega)
    have f3 := H2.out.own.frozen 3
    obtain ⟨o4, p4⟩ := H2.out.own.cell (j := 4) (by omega)
    have f4 := H2.out.own.frozen 4
    obtain ⟨o5, p5⟩ := H2.out.own.cell (j := 5) (by omega)
    have f5 := H2.out.own.frozen 5
    obtain ⟨o6, p6⟩ := H2.out.own.cell (j := 6) (by omega)
    have f6 := H2.out.own.frozen 6
    go_wp2_with fail
    exact dd_done H2.out.toDI ⟨6, (i : Int), 0, 0, 0, 0, 0⟩ (by simp [MDeed.wf, I64] <;> omega) _ rfl rfl
  · -- 11
    have n0 := H2.out.j0
    rcases hT with rfl | rfl | rfl
    · -- idle
      obtain ⟨o0, p0⟩ := H2.out.own.cell (j := 0) (by omega)
      have f0 := H2.out.own.frozen 0
      obtain ⟨o1, p1⟩ := H2.out.own.cell (j := 1) (by omega)
      have f1 := H2.out.own.frozen 1
      obtain ⟨o2, p2⟩ := H2.out.own.cell (j := 2) (by omega)
      have f2 := H2.out.own.frozen 2
      obtain ⟨o3, p3⟩ := H2.out.own.cell (j := 3) (by omega)
      have f3 := H2.out.own.frozen 3
      obtain ⟨o4, p4⟩ := H2.out.own.cell (j := 4) (by omega)
      have f4 := H2.out.own.frozen 4
      obtain ⟨o5, p5⟩ := H2.out.own.cell (j := 5) (by omega)
      have f5 := H2.out.own.frozen 5
      obtain ⟨o6, p6⟩ := H2.out.own.cell (j := 6) (by omega)
      have f6 := H2.out.own.frozen 6
      go_wp2_with fail
      exact dd_done H2.out.toDI ⟨1, (i : Int), 0, 0, 0, 0, 0⟩ (by simp [MDeed.wf, I64] <;> omega) _ rfl rfl
    · -- begin
      go_wp2_with fail
      refine (soon_any B g 5 _ H2.out.cur (by omega)).mono ?_
      rintro e w3 ⟨z, rfl, ⟨z0, z1⟩, hc, ho⟩
      have H3 := Lib.hid (H2.out.next hc ho)
      clear hc ho
      obtain ⟨o0, p0⟩ := H3.out.own.cell (j := 0) (by omega)
      have f0 := H3.out.own.frozen 0
      obtain ⟨o1, p1⟩ := H3.out.own.cell (j := 1) (by omega)
      have f1 := H3.out.own.frozen 1
      obtain ⟨o2, p2⟩ := H3.out.own.cell (j := 2) (by omega)
      have f2 := H3.out.own.frozen 2
      obtain ⟨o3, p3⟩ := H3.out.own.cell (j := 3) (by omega)
      have f3 := H3.out.own.frozen 3
      obtain ⟨o4, p4⟩ := H3.out.own.cell (j := 4) (by omega)
      have f4 := H3.out.own.frozen 4
      obtain ⟨o5, p5⟩ := H3.out.own.cell (j := 5) (by omega)
      have f5 := H3.out.own.frozen 5
      obtain ⟨o6, p6⟩ := H3.out.own.cell (j := 6) (by omega)
      have f6 := H3.out.own.frozen 6
      go_wp2_with fail
      exact dd_done H3.out.toDI ⟨7, z, 0, 0, 0, 0, 0⟩ (by simp [MDeed.wf, I64] <;> omega) _ rfl rfl
    · -- open
      go_wp2_with fail
      refine (below_any B g 7 _ H2.out.cur).mono ?_
      rintro e w3 ⟨q, rfl, ⟨q0, _, q1⟩, hc, ho⟩
      have q2 := q1 (by omega)
      have H3 := Lib.hid (H2.out.next hc ho)
      clear hc ho q1
      rcases (show q = 0 ∨ q = 1 ∨ q = 2 ∨ q = 3 ∨ 4 ≤ q from by omega) with rfl | rfl | rfl | rfl | hq
      · go_wp2_with fail
        refine (below_any B g 50 _ H3.out.cur).mono ?_
        rintro e w4 ⟨v, rfl, ⟨v0, _, v1⟩, hc, ho⟩
        have v2 := v1 (by omega)
        have H4 := Lib.hid (H3.out.next hc ho)
        clear hc ho v1
        go_wp2_with fail
        refine (once_any B g 6 _ H4.out.cur).mono ?_
        rintro e w5 ⟨b, rfl, hc, ho⟩
        have H5 := Lib.hid (H4.out.next hc ho)
        clear hc ho
        cases b with
        | true =>
          go_wp2_with fail
          refine (below_any B g 35 _ H5.out.cur).mono ?_
          rintro e w6 ⟨y, rfl, ⟨y0, _, y1⟩, hc, ho⟩
          have y2 := y1 (by omega)
          have H6 := Lib.hid (H5.out.next hc ho)
          clear hc ho y1
          obtain ⟨o0, p0⟩ := H6.out.own.cell (j := 0) (by omega)
          have f0 := H6.out.own.frozen 0
          obtain ⟨o1, p1⟩ := H6.out.own.cell (j := 1) (by omega)
          have f1 := H6.out.own.frozen 1
          obtain ⟨o2, p2⟩ := H6.out.own.cell (j := 2) (by omega)
          have f2 := H6.out.own.frozen 2
          obtain ⟨o3, p3⟩ := H6.out.own.cell (j := 3) (by omega)
          have f3 := H6.out.own.frozen 3
          obtain ⟨o4, p4⟩ := H6.out.own.cell (j := 4) (by omega)
          have f4 := H6.out.own.frozen 4
          obtain ⟨o5, p5⟩ := H6.out.own.cell (j := 5) (by omega)
          have f5 := H6.out.own.frozen 5
          obtain ⟨o6, p6⟩ := H6.out.own.cell (j := 6) (by omega)
          have f6 := H6.out.own.frozen 6
          go_wp2_with fail
          exact dd_done H6.out.toDI ⟨3, (i : Int), 0, 0, 0, y, (-1)⟩ (by simp [MDeed.wf, I64] <;> omega) _ rfl rfl
        | false =>
          go_wp2_with fail
          refine (below_any B g 35 _ H5.out.cur).mono ?_
          rintro e w6 ⟨y, rfl, ⟨y0, _, y1⟩, hc, ho⟩
          have y2 := y1 (by omega)
          have H6 := Lib.hid (H5.out.next hc ho)
          clear hc ho y1
          obtain ⟨o0, p0⟩ := H6.out.own.cell (j := 0) (by omega)
          have f0 := H6.out.own.frozen 0
          obtain ⟨o1, p1⟩ := H6.out.own.cell (j := 1) (by omega)
          have f1 := H6.out.own.frozen 1
          obtain ⟨o2, p2⟩ := H6.out.own.cell (j := 2) (by omega)
          have f2 := H6.out.own.frozen 2
          obtain ⟨o3, p3⟩ := H6.out.own.cell (j := 3) (by omega)
          have f3 := H6.out.own.frozen 3
          obtain ⟨o4, p4⟩ := H6.out.own.cell (j := 4) (by omega)
          have f4 := H6.out.own.frozen 4
          obtain ⟨o5, p5⟩ := H6.out.own.cell (j := 5) (by omega)
          have f5 := H6.out.own.frozen 5
          obtain ⟨o6, p6⟩ := H6.out.own.cell (j := 6) (by omega)
          have f6 := H6.out.own.frozen 6
          go_wp2_with fail
          exact dd_done H6.out.toDI ⟨3, (i : Int), 0, 0, 0, y, v⟩ (by simp [MDeed.wf, I64] <;> omega) _ rfl rfl
      · go_wp2_with fail
        refine (below_any B g 50 _ H3.out.cur).mono ?_
        rintro e w4 ⟨v, rfl, ⟨v0, _, v1⟩, hc, ho⟩
        have v2 := v1 (by omega)
        have H4 := Lib.hid (H3.out.next hc ho)
        clear hc ho v1
        go_wp2_with fail
        refine (once_any B g 6 _ H4.out.cur).mono ?_
        rintro e w5 ⟨b, rfl, hc, ho⟩
        have H5 := Lib.hid (H4.out.next hc ho)
        clear hc ho
        cases b with
        | true =>
          go_wp2_with fail
          refine (below_any B g 35 _ H5.out.cur).mono ?_
          rintro e w6 ⟨y, rfl, ⟨y0, _, y1⟩, hc, ho⟩
          have y2 := y1 (by omega)
          have H6 := Lib.hid (H5.out.next hc ho)
          clear hc ho y1
          obtain ⟨o0, p0⟩ := H6.out.own.cell (j := 0) (by omega)
          have f0 := H6.out.own.frozen 0
          obtain ⟨o1, p1⟩ := H6.out.own.cell (j := 1) (by omega)
          have f1 := H6.out.own.frozen 1
          obtain ⟨o2, p2⟩ := H6.out.own.cell (j := 2) (by omega)
          have f2 := H6.out.own.frozen 2
          obtain ⟨o3, p3⟩ := H6.out.own.cell (j := 3) (by omega)
          have f3 := H6.out.own.frozen 3
          obtain ⟨o4, p4⟩ := H6.out.own.cell (j := 4) (by omega)
          have f4 := H6.out.own.frozen 4
          obtain ⟨o5, p5⟩ := H6.out.own.cell (j := 5) (by omega)
          have f5 := H6.out.own.frozen 5
          obtain ⟨o6, p6⟩ := H6.out.own.cell (j := 6) (by omega)
          have f6 := H6.out.own.frozen 6
          go_wp2_with fail
          exact dd_done H6.out.toDI ⟨3, (i : Int), 0, 0, 0, y, (-1)⟩ (by simp [MDeed.wf, I64] <;> omega) _ rfl rfl
        | false =>
          go_wp2_with fail
          refine (below_any B g 35 _ H5.out.cur).mono ?_
          rintro e w6 ⟨y, rfl, ⟨y0, _, y1⟩, hc, ho⟩
          have y2 := y1 (by omega)
          have H6 := Lib.hid (H5.out.next hc ho)
          clear hc ho y1
          obtain ⟨o0, p0⟩ := H6.out.own.cell (j := 0) (by omega)
          have f0 := H6.out.own.frozen 0
          obtain ⟨o1, p1⟩ := H6.out.own.cell (j := 1) (by omega)
          have f1 := H6.out.own.frozen 1
          obtain ⟨o2, p2⟩ := H6.out.own.cell (j := 2) (by omega)
          have f2 := H6.out.own.frozen 2
          obtain ⟨o3, p3⟩ := H6.out.own.cell (j := 3) (by omega)
          have f3 := H6.out.own.frozen 3
          obtain ⟨o4, p4⟩ := H6.out.own.cell (j := 4) (by omega)
          have f4 := H6.out.own.frozen 4
          obtain ⟨o5, p5⟩ := H6.out.own.cell (j := 5) (by omega)
          have f5 := H6.out.own.frozen 5
          obtain ⟨o6, p6⟩ := H6.out.own.cell (j := 6) (by omega)
          have f6 := H6.out.own.frozen 6
          go_wp2_with fail
          exact dd_done H6.out.toDI ⟨3, (i : Int), 0, 0, 0, y, v⟩ (by simp [MDeed.wf, I64] <;> omega) _ rfl rfl
      · obtain ⟨o0, p0⟩ := H3.out.own.cell (j := 0) (by omega)
        have f0 := H3.out.own.frozen 0
        obtain ⟨o1, p1⟩ := H3.out.own.cell (j := 1) (by omega)
        have f1 := H3.out.own.frozen 1
        obtain ⟨o2, p2⟩ := H3.out.own.cell (j := 2) (by omega)
        have f2 := H3.out.own.frozen 2
        obtain ⟨o3, p3⟩ := H3.out.own.cell (j := 3) (by omega)
        have f3 := H3.out.own.frozen 3
        obtain ⟨o4, p4⟩ := H3.out.own.cell (j := 4) (by omega)
        have f4 := H3.out.own.frozen 4
        obtain ⟨o5, p5⟩ := H3.out.own.cell (j := 5) (by omega)
        have f5 := H3.out.own.frozen 5
        obtain ⟨o6, p6⟩ := H3.out.own.cell (j := 6) (by omega)
        have f6 := H3.out.own.frozen 6
        go_wp2_with fail
        exact dd_done H3.out.toDI ⟨4, (i : Int), 0, 0, 0, 0, 0⟩ (by simp [MDeed.wf, I64] <;> omega) _ rfl rfl
      · go_wp2_with fail
        refine (once_any B g 5 _ H3.out.cur).mono ?_
        rintro e w4 ⟨b, rfl, hc, ho⟩
        have H4 := Lib.hid (H3.out.next hc ho)
        clear hc ho
        cases b with
        | true =>
          obtain ⟨o0, p0⟩ := H4.out.own.cell (j := 0) (by omega)
          have f0 := H4.out.own.frozen 0
          obtain ⟨o1, p1⟩ := H4.out.own.cell (j := 1) (by omega)
          have f1 := H4.out.own.frozen 1
          obtain ⟨o2, p2⟩ := H4.out.own.cell (j := 2) (by omega)
          have f2 := H4.out.own.frozen 2
          obtain ⟨o3, p3⟩ := H4.out.own.cell (j := 3) (by omega)
          have f3 := H4.out.own.frozen 3
          obtain ⟨o4, p4⟩ := H4.out.own.cell (j := 4) (by omega)
          have f4 := H4.out.own.frozen 4
          obtain ⟨o5, p5⟩ := H4.out.own.cell (j := 5) (by omega)
          have f5 := H4.out.own.frozen 5
          obtain ⟨o6, p6⟩ := H4.out.own.cell (j := 6) (by omega)
          have f6 := H4.out.own.frozen 6
          go_wp2_with fail
          exact dd_done H4.out.toDI ⟨5, (i : Int), 0, 0, 0, 0, 0⟩ (by simp [MDeed.wf, I64] <;> omega) _ rfl rfl
        | false =>
          have n8 := H4.out.j8
          go_wp2_with fail
          refine (near_nil B g none 0 _ H4.out.cur).mono ?_
          rintro e w5 ⟨z, y, rfl, hz, hc, ho⟩
          have H5 := Lib.hid (H4.out.next hc ho)
          clear hc ho
          obtain ⟨o0, p0⟩ := H5.out.own.cell (j := 0) (by omega)
          have f0 := H5.out.own.frozen 0
          obtain ⟨o1, p1⟩ := H5.out.own.cell (j := 1) (by omega)
          have f1 := H5.out.own.frozen 1
          obtain ⟨o2, p2⟩ := H5.out.own.cell (j := 2) (by omega)
          have f2 := H5.out.own.frozen 2
          obtain ⟨o3, p3⟩ := H5.out.own.cell (j := 3) (by omega)
          have f3 := H5.out.own.frozen 3
          obtain ⟨o4, p4⟩ := H5.out.own.cell (j := 4) (by omega)
          have f4 := H5.out.own.frozen 4
          obtain ⟨o5, p5⟩ := H5.out.own.cell (j := 5) (by omega)
          have f5 := H5.out.own.frozen 5
          obtain ⟨o6, p6⟩ := H5.out.own.cell (j := 6) (by omega)
          have f6 := H5.out.own.frozen 6
          go_wp2_with fail
          exact dd_done H5.out.toDI ⟨2, (i : Int), 0, z, y, 0, 0⟩ (by simp [MDeed.wf, I64] <;> omega) _ rfl rfl
      · have e0 : (q == 0) = false := by rw [beq_eq_false_iff_ne]; omega
        have e1 : (q == 1) = false := by rw [beq_eq_false_iff_ne]; omega
        have e2 : (q == 2) = false := by rw [beq_eq_false_iff_ne]; omega
        have e3 : (q == 3) = false := by rw [beq_eq_false_iff_ne]; omega
        have n8 := H3.out.j8
        go_wp2_with fail
        refine (near_nil B g none 0 _ H3.out.cur).mono ?_
        rintro e w4 ⟨z, y, rfl, hz, hc, ho⟩
        have H4 := Lib.hid (H3.out.next hc ho)
        clear hc ho
        obtain ⟨o0, p0⟩ := H4.out.own.cell (j := 0) (by omega)
        have f0 := H4.out.own.frozen 0
        obtain ⟨o1, p1⟩ := H4.out.own.cell (j := 1) (by omega)
        have f1 := H4.out.own.frozen 1
        obtain ⟨o2, p2⟩ := H4.out.own.cell (j := 2) (by omega)
        have f2 := H4.out.own.frozen 2
        obtain ⟨o3, p3⟩ := H4.out.own.cell (j := 3) (by omega)
        have f3 := H4.out.own.frozen 3
        obtain ⟨o4, p4⟩ := H4.out.own.cell (j := 4) (by omega)
        have f4 := H4.out.own.frozen 4
        obtain ⟨o5, p5⟩ := H4.out.own.cell (j := 5) (by omega)
        have f5 := H4.out.own.frozen 5
        obtain ⟨o6, p6⟩ := H4.out.own.cell (j := 6) (by omega)
        have f6 := H4.out.own.frozen 6
        go_wp2_with fail
        exact dd_done H4.out.toDI ⟨2, (i : Int), 0, z, y, 0, 0⟩ (by simp [MDeed.wf, I64] <;> omega) _ rfl rfl
  · -- 12
    have n0 := H2.out.j0
    rcases hT with rfl | rfl | rfl
    · -- idle
      obtain ⟨o0, p0⟩ := H2.out.own.cell (j := 0) (by omega)
      have f0 := H2.out.own.frozen 0
      obtain ⟨o1, p1⟩ := H2.out.own.cell (j := 1) (by omega)
      have f1 := H2.out.own.frozen 1
      obtain ⟨o2, p2⟩ := H2.out.own.cell (j := 2) (by omega)
      have f2 := H2.out.own.frozen 2
      obtain ⟨o3, p3⟩ := H2.out.own.cell (j := 3) (by omega)
      have f3 := H2.out.own.frozen 3
      obtain ⟨o4, p4⟩ := H2.out.own.cell (j := 4) (by omega)
      have f4 := H2.out.own.frozen 4
      obtain ⟨o5, p5⟩ := H2.out.own.cell (j := 5) (by omega)
      have f5 := H2.out.own.frozen 5
      obtain ⟨o6, p6⟩ := H2.out.own.cell (j := 6) (by omega)
      have f6 := H2.out.own.frozen 6
      go_wp2_with fail
      exact dd_done H2.out.toDI ⟨1, (i : Int), 0, 0, 0, 0, 0⟩ (by simp [MDeed.wf, I64] <;> omega) _ rfl rfl
    · -- begin
      go_wp2_with fail
      refine (soon_any B g 5 _ H2.out.cur (by omega)).mono ?_
      rintro e w3 ⟨z, rfl, ⟨z0, z1⟩, hc, ho⟩
      have H3 := Lib.hid (H2.out.next hc ho)
      clear hc ho
      obtain ⟨o0, p0⟩ := H3.out.own.cell (j := 0) (by omega)
      have f0 := H3.out.own.frozen 0
      obtain ⟨o1, p1⟩ := H3.out.own.cell (j := 1) (by omega)
      have f1 := H3.out.own.frozen 1
      obtain ⟨o2, p2⟩ := H3.out.own.cell (j := 2) (by omega)
      have f2 := H3.out.own.frozen 2
      obtain ⟨o3, p3⟩ := H3.out.own.cell (j := 3) (by omega)
      have f3 := H3.out.own.frozen 3
      obtain ⟨o4, p4⟩ := H3.out.own.cell (j := 4) (by omega)
      have f4 := H3.out.own.frozen 4
      obtain ⟨o5, p5⟩ := H3.out.own.cell (j := 5) (by omega)
      have f5 := H3.out.own.frozen 5
      obtain ⟨o6, p6⟩ := H3.out.own.cell (j := 6) (by omega)
      have f6 := H3.out.own.frozen 6
      go_wp2_with fail
      exact dd_done H3.out.toDI ⟨7, z, 0, 0, 0, 0, 0⟩ (by simp [MDeed.wf, I64] <;> omega) _ rfl rfl
    · -- open
      go_wp2_with fail
      refine (below_any B g 7 _ H2.out.cur).mono ?_
      rintro e w3 ⟨q, rfl, ⟨q0, _, q1⟩, hc, ho⟩
      have q2 := q1 (by omega)
      have H3 := Lib.hid (H2.out.next hc ho)
      clear hc ho q1
      rcases (show q = 0 ∨ q = 1 ∨ q = 2 ∨ q = 3 ∨ 4 ≤ q from by omega) with rfl | rfl | rfl | rfl | hq
      · go_wp2_with fail
        refine (below_any B g 50 _ H3.out.cur).mono ?_
        rintro e w4 ⟨v, rfl, ⟨v0, _, v1⟩, hc, ho⟩
        have v2 := v1 (by omega)
        have H4 := Lib.hid (H3.out.next hc ho)
        clear hc ho v1
        go_wp2_with fail
        refine (once_any B g 6 _ H4.out.cur).mono ?_
        rintro e w5 ⟨b, rfl, hc, ho⟩
        have H5 := Lib.hid (H4.out.next hc ho)
        clear hc ho
        cases b with
        | true =>
          go_wp2_with fail
          refine (below_any B g 35 _ H5.out.cur).mono ?_
          rintro e w6 ⟨y, rfl, ⟨y0, _, y1⟩, hc, ho⟩
          have y2 := y1 (by omega)
          have H6 := Lib.hid (H5.out.next hc ho)
          clear hc ho y1
          obtain ⟨o0, p0⟩ := H6.out.own.cell (j := 0) (by omega)
          have f0 := H6.out.own.frozen 0
          obtain ⟨o1, p1⟩ := H6.out.own.cell (j := 1) (by omega)
          have f1 := H6.out.own.frozen 1
          obtain ⟨o2, p2⟩ := H6.out.own.cell (j := 2) (by omega)
          have f2 := H6.out.own.frozen 2
          obtain ⟨o3, p3⟩ := H6.out.own.cell (j := 3) (by omega)
          have f3 := H6.out.own.frozen 3
          obtain ⟨o4, p4⟩ := H6.out.own.cell (j := 4) (by omega)
          have f4 := H6.out.own.frozen 4
          obtain ⟨o5, p5⟩ := H6.out.own.cell (j := 5) (by omega)
          have f5 := H6.out.own.frozen 5
          obtain ⟨o6, p6⟩ := H6.out.own.cell (j := 6) (by omega)
          have f6 := H6.out.own.frozen 6
          go_wp2_with fail
          exact dd_done H6.out.toDI ⟨3, (i : Int), 0, 0, 0, y, (-1)⟩ (by simp [MDeed.wf, I64] <;> omega) _ rfl rfl
        | false =>
          go_wp2_with fail
          refine (below_any B g 35 _ H5.out.cur).mono ?_
          rintro e w6 ⟨y, rfl, ⟨y0, _, y1⟩, hc, ho⟩
          have y2 := y1 (by omega)
          have H6 := Lib.hid (H5.out.next hc ho)
          clear hc ho y1
          obtain ⟨o0, p0⟩ := H6.out.own.cell (j := 0) (by omega)
          have f0 := H6.out.own.frozen 0
          obtain ⟨o1, p1⟩ := H6.out.own.cell (j := 1) (by omega)
          have f1 := H6.out.own.frozen 1
          obtain ⟨o2, p2⟩ := H6.out.own.cell (j := 2) (by omega)
          have f2 := H6.out.own.frozen 2
          obtain ⟨o3, p3⟩ := H6.out.own.cell (j := 3) (by omega)
          have f3 := H6.out.own.frozen 3
          obtain ⟨o4, p4⟩ := H6.out.own.cell (j := 4) (by omega)
          have f4 := H6.out.own.frozen 4
          obtain ⟨o5, p5⟩ := H6.out.own.cell (j := 5) (by omega)
          have f5 := H6.out.own.frozen 5
          obtain ⟨o6, p6⟩ := H6.out.own.cell (j := 6) (by omega)
          have f6 := H6.out.own.frozen 6
          go_wp2_with fail
          exact dd_done H6.out.toDI ⟨3, (i : Int), 0, 0, 0, y, v⟩ (by simp [MDeed.wf, I64] <;> omega) _ rfl rfl
      · go_wp2_with fail
        refine (below_any B g 50 _ H3.out.cur).mono ?_
        rintro e w4 ⟨v, rfl, ⟨v0, _, v1⟩, hc, ho⟩
        have v2 := v1 (by omega)
        have H4 := Lib.hid (H3.out.next hc ho)
        clear hc ho v1
        go_wp2_with fail
        refine (once_any B g 6 _ H4.out.cur).mono ?_
        rintro e w5 ⟨b, rfl, hc, ho⟩
        have H5 := Lib.hid (H4.out.next hc ho)
        clear hc ho
        cases b with
        | true =>
          go_wp2_with fail
          refine (below_any B g 35 _ H5.out.cur).mono ?_
          rintro e w6 ⟨y, rfl, ⟨y0, _, y1⟩, hc, ho⟩
          have y2 := y1 (by omega)
          have H6 := Lib.hid (H5.out.next hc ho)
          clear hc ho y1
          obtain ⟨o0, p0⟩ := H6.out.own.cell (j := 0) (by omega)
          have f0 := H6.out.own.frozen 0
          obtain ⟨o1, p1⟩ := H6.out.own.cell (j := 1) (by omega)
          have f1 := H6.out.own.frozen 1
          obtain ⟨o2, p2⟩ := H6.out.own.cell (j := 2) (by omega)
          have f2 := H6.out.own.frozen 2
          obtain ⟨o3, p3⟩ := H6.out.own.cell (j := 3) (by omega)
          have f3 := H6.out.own.frozen 3
          obtain ⟨o4, p4⟩ := H6.out.own.cell (j := 4) (by omega)
          have f4 := H6.out.own.frozen 4
          obtain ⟨o5, p5⟩ := H6.out.own.cell (j := 5) (by omega)
          have f5 := H6.out.own.frozen 5
          obtain ⟨o6, p6⟩ := H6.out.own.cell (j := 6) (by omega)
          have f6 := H6.out.own.frozen 6
          go_wp2_with fail
          exact dd_done H6.out.toDI ⟨3, (i : Int), 0, 0, 0, y, (-1)⟩ (by simp [MDeed.wf, I64] <;> omega) _ rfl rfl
        | false =>
          go_wp2_with fail
          refine (below_any B g 35 _ H5.out.cur).mono ?_
          rintro e w6 ⟨y, rfl, ⟨y0, _, y1⟩, hc, ho⟩
          have y2 := y1 (by omega)
          have H6 := Lib.hid (H5.out.next hc ho)
          clear hc ho y1
          obtain ⟨o0, p0⟩ := H6.out.own.cell (j := 0) (by omega)
          have f0 := H6.out.own.frozen 0
          obtain ⟨o1, p1⟩ := H6.out.own.cell (j := 1) (by omega)
          have f1 := H6.out.own.frozen 1
          obtain ⟨o2, p2⟩ := H6.out.own.cell (j := 2) (by omega)
          have f2 := H6.out.own.frozen 2
          obtain ⟨o3, p3⟩ := H6.out.own.cell (j := 3) (by omega)
          have f3 := H6.out.own.frozen 3
          obtain ⟨o4, p4⟩ := H6.out.own.cell (j := 4) (by omega)
          have f4 := H6.out.own.frozen 4
          obtain ⟨o5, p5⟩ := H6.out.own.cell (j := 5) (by omega)
          have f5 := H6.out.own.frozen 5
          obtain ⟨o6, p6⟩ := H6.out.own.cell (j := 6) (by omega)
          have f6 := H6.out.own.frozen 6
          go_wp2_with fail
          exact dd_done H6.out.toDI ⟨3, (i : Int), 0, 0, 0, y, v⟩ (by simp [MDeed.wf, I64] <;> omega) _ rfl rfl
      · obtain ⟨o0, p0⟩ := H3.out.own.cell (j := 0) (by omega)
        have f0 := H3.out.own.frozen 0
        obtain ⟨o1, p1⟩ := H3.out.own.cell (j := 1) (by omega)
        have f1 := H3.out.own.frozen 1
        obtain ⟨o2, p2⟩ := H3.out.own.cell (j := 2) (by omega)
        have f2 := H3.out.own.frozen 2
        obtain ⟨o3, p3⟩ := H3.out.own.cell (j := 3) (by omega)
        have f3 := H3.out.own.frozen 3
        obtain ⟨o4, p4⟩ := H3.out.own.cell (j := 4) (by omega)
        have f4 := H3.out.own.frozen 4
        obtain ⟨o5, p5⟩ := H3.out.own.cell (j := 5) (by omega)
        have f5 := H3.out.own.frozen 5
        obtain ⟨o6, p6⟩ := H3.out.own.cell (j := 6) (by omega)
        have f6 := H3.out.own.frozen 6
        go_wp2_with fail
        exact dd_done H3.out.toDI ⟨4, (i : Int), 0, 0, 0, 0, 0⟩ (by simp [MDeed.wf, I64] <;> omega) _ rfl rfl
      · go_wp2_with fail
        refine (once_any B g 5 _ H3.out.cur).mono ?_
        rintro e w4 ⟨b, rfl, hc, ho⟩
        have H4 := Lib.hid (H3.out.next hc ho)
        clear hc ho
        cases b with
        | true =>
          obtain ⟨o0, p0⟩ := H4.out.own.cell (j := 0) (by omega)
          have f0 := H4.out.own.frozen 0
          obtain ⟨o1, p1⟩ := H4.out.own.cell (j := 1) (by omega)
          have f1 := H4.out.own.frozen 1
          obtain ⟨o2, p2⟩ := H4.out.own.cell (j := 2) (by omega)
          have f2 := H4.out.own.frozen 2
          obtain ⟨o3, p3⟩ := H4.out.own.cell (j := 3) (by omega)
          have f3 := H4.out.own.frozen 3
          obtain ⟨o4, p4⟩ := H4.out.own.cell (j := 4) (by omega)
          have f4 := H4.out.own.frozen 4
          obtain ⟨o5, p5⟩ := H4.out.own.cell (j := 5) (by omega)
          have f5 := H4.out.own.frozen 5
          obtain ⟨o6, p6⟩ := H4.out.own.cell (j := 6) (by omega)
          have f6 := H4.out.own.frozen 6
          go_wp2_with fail
          exact dd_done H4.out.toDI ⟨5, (i : Int), 0, 0, 0, 0, 0⟩ (by simp [MDeed.wf, I64] <;> omega) _ rfl rfl
        | false =>
          have n8 := H4.out.j8
          go_wp2_with fail
          refine (near_nil B g none 0 _ H4.out.cur).mono ?_
          rintro e w5 ⟨z, y, rfl, hz, hc, ho⟩
          have H5 := Lib.hid (H4.out.next hc ho)
          clear hc ho
          obtain ⟨o0, p0⟩ := H5.out.own.cell (j := 0) (by omega)
          have f0 := H5.out.own.frozen 0
          obtain ⟨o1, p1⟩ := H5.out.own.cell (j := 1) (by omega)
          have f1 := H5.out.own.frozen 1
          obtain ⟨o2, p2⟩ := H5.out.own.cell (j := 2) (by omega)
          have f2 := H5.out.own.frozen 2
          obtain ⟨o3, p3⟩ := H5.out.own.cell (j := 3) (by omega)
          have f3 := H5.out.own.frozen 3
          obtain ⟨o4, p4⟩ := H5.out.own.cell (j := 4) (by omega)
          have f4 := H5.out.own.frozen 4
          obtain ⟨o5, p5⟩ := H5.out.own.cell (j := 5) (by omega)
          have f5 := H5.out.own.frozen 5
          obtain ⟨o6, p6⟩ := H5.out.own.cell (j := 6) (by omega)
          have f6 := H5.out.own.frozen 6
          go_wp2_with fail
          exact dd_done H5.out.toDI ⟨2, (i : Int), 0, z, y, 0, 0⟩ (by simp [MDeed.wf, I64] <;> omega) _ rfl rfl
      · have e0 : (q == 0) = false := by rw [beq_eq_false_iff_ne]; omega
        have e1 : (q == 1) = false := by rw [beq_eq_false_iff_ne]; omega
        have e2 : (q == 2) = false := by rw [beq_eq_false_iff_ne]; omega
        have e3 : (q == 3) = false := by rw [beq_eq_false_iff_ne]; omega
        have n8 := H3.out.j8
        go_wp2_with fail
        refine (near_nil B g none 0 _ H3.out.cur).mono ?_
        rintro e w4 ⟨z, y, rfl, hz, hc, ho⟩
        have H4 := Lib.hid (H3.out.next hc ho)
        clear hc ho
        obtain ⟨o0, p0⟩ := H4.out.own.cell (j := 0) (by omega)
        have f0 := H4.out.own.frozen 0
        obtain ⟨o1, p1⟩ := H4.out.own.cell (j := 1) (by omega)
        have f1 := H4.out.own.frozen 1
        obtain ⟨o2, p2⟩ := H4.out.own.cell (j := 2) (by omega)
        have f2 := H4.out.own.frozen 2
        obtain ⟨o3, p3⟩ := H4.out.own.cell (j := 3) (by omega)
        have f3 := H4.out.own.frozen 3
        obtain ⟨o4, p4⟩ := H4.out.own.cell (j := 4) (by omega)
        have f4 := H4.out.own.frozen 4
        obtain ⟨o5, p5⟩ := H4.out.own.cell (j := 5) (by omega)
        have f5 := H4.out.own.frozen 5
        obtain ⟨o6, p6⟩ := H4.out.own.cell (j := 6) (by omega)
        have f6 := H4.out.own.frozen 6
        go_wp2_with fail
        exact dd_done H4.out.toDI ⟨2, (i : Int), 0, z, y, 0, 0⟩ (by simp [MDeed.wf, I64] <;> omega) _ rfl rfl
  · -- 13
    have n0 := H2.out.j0
    rcases hT with rfl | rfl | rfl
    · -- idle
      obtain ⟨o0, p0⟩ := H2.out.own.cell (j := 0) (by omega)
      have f0 := H2.out.own.frozen 0
      obtain ⟨o1, p1⟩ := H2.out.own.cell (j := 1) (by omega)
      have f1 := H2.out.own.frozen 1
      obtain ⟨o2, p2⟩ := H2.out.own.cell (j := 2) (by omega)
      have f2 := H2.out.own.frozen 2
      obtain ⟨o3, p3⟩ := H2.out.own.cell (j := 3) (by omega)
      have f3 := H2.out.own.frozen 3
      obtain ⟨o4, p4⟩ := H2.out.own.cell (j := 4) (by omega)
      have f4 := H2.out.own.frozen 4
      obtain ⟨o5, p5⟩ := H2.out.own.cell (j := 5) (by omega)
      have f5 := H2.out.own.frozen 5
      obtain ⟨o6, p6⟩ := H2.out.own.cell (j := 6) (by omega)
      have f6 := H2.out.own.frozen 6
      go_wp2_with fail
      exact dd_done H2.out.toDI ⟨1, (i : Int), 0, 0, 0, 0, 0⟩ (by simp [MDeed.wf, I64] <;> omega) _ rfl rfl
    · -- begin
      go_wp2_with fail
      refine (soon_any B g 5 _ H2.out.cur (by omega)).mono ?_
      rintro e w3 ⟨z, rfl, ⟨z0, z1⟩, hc, ho⟩
      have H3 := Lib.hid (H2.out.next hc ho)
      clear hc ho
      obtain ⟨o0, p0⟩ := H3.out.own.cell (j := 0) (by omega)
      have f0 := H3.out.own.frozen 0
      obtain ⟨o1, p1⟩ := H3.out.own.cell (j := 1) (by omega)
      have f1 := H3.out.own.frozen 1
      obtain ⟨o2, p2⟩ := H3.out.own.cell (j := 2) (by omega)
      have f2 := H3.out.own.frozen 2
      obtain ⟨o3, p3⟩ := H3.out.own.cell (j := 3) (by omega)
      have f3 := H3.out.own.frozen 3
      obtain ⟨o4, p4⟩ := H3.out.own.cell (j := 4) (by omega)
      have f4 := H3.out.own.frozen 4
      obtain ⟨o5, p5⟩ := H3.out.own.cell (j := 5) (by omega)
      have f5 := H3.out.own.frozen 5
      obtain ⟨o6, p6⟩ := H3.out.own.cell (j := 6) (by omega)
      have f6 := H3.out.own.frozen 6
      go_wp2_with fail
      exact dd_done H3.out.toDI ⟨7, z, 0, 0, 0, 0, 0⟩ (by simp [MDeed.wf, I64] <;> omega) _ rfl rfl
    · -- open
      go_wp2_with fail
      refine (below_any B g 7 _ H2.out.cur).mono ?_
      rintro e w3 ⟨q, rfl, ⟨q0, _, q1⟩, hc, ho⟩
      have q2 := q1 (by omega)
      have H3 := Lib.hid (H2.out.next hc ho)
      clear hc ho q1
      rcases (show q = 0 ∨ q = 1 ∨ q = 2 ∨ q = 3 ∨ 4 ≤ q from by omega) with rfl | rfl | rfl | rfl | hq
      · go_wp2_with fail
        refine (below_any B g 50 _ H3.out.cur).mono ?_
        rintro e w4 ⟨v, rfl, ⟨v0, _, v1⟩, hc, ho⟩
        have v2 := v1 (by omega)
        have H4 := Lib.hid (H3.out.next hc ho)
        clear hc ho v1
        go_wp2_with fail
        refine (once_any B g 6 _ H4.out.cur).mono ?_
        rintro e w5 ⟨b, rfl, hc, ho⟩
        have H5 := Lib.hid (H4.out.next hc ho)
        clear hc ho
        cases b with
        | true =>
          go_wp2_with fail
          refine (below_any B g 35 _ H5.out.cur).mono ?_
          rintro e w6 ⟨y, rfl, ⟨y0, _, y1⟩, hc, ho⟩
          have y2 := y1 (by omega)
          have H6 := Lib.hid (H5.out.next hc ho)
          clear hc ho y1
          obtain ⟨o0, p0⟩ := H6.out.own.cell (j := 0) (by omega)
          have f0 := H6.out.own.frozen 0
          obtain ⟨o1, p1⟩ := H6.out.own.cell (j := 1) (by omega)
          have f1 := H6.out.own.frozen 1
          obtain ⟨o2, p2⟩ := H6.out.own.cell (j := 2) (by omega)
          have f2 := H6.out.own.frozen 2
          obtain ⟨o3, p3⟩ := H6.out.own.cell (j := 3) (by omega)
          have f3 := H6.out.own.frozen 3
          obtain ⟨o4, p4⟩ := H6.out.own.cell (j := 4) (by omega)
          have f4 := H6.out.own.frozen 4
          obtain ⟨o5, p5⟩ := H6.out.own.cell (j := 5) (by omega)
          have f5 := H6.out.own.frozen 5
          obtain ⟨o6, p6⟩ := H6.out.own.cell (j := 6) (by omega)
          have f6 := H6.out.own.frozen 6
          go_wp2_with fail
          exact dd_done H6.out.toDI ⟨3, (i : Int), 0, 0, 0, y, (-1)⟩ (by simp [MDeed.wf, I64] <;> omega) _ rfl rfl
        | false =>
          go_wp2_with fail
          refine (below_any B g 35 _ H5.out.cur).mono ?_
          rintro e w6 ⟨y, rfl, ⟨y0, _, y1⟩, hc, ho⟩
          have y2 := y1 (by omega)
          have H6 := Lib.hid (H5.out.next hc ho)
          clear hc ho y1
          obtain ⟨o0, p0⟩ := H6.out.own.cell (j := 0) (by omega)
          have f0 := H6.out.own.frozen 0
          obtain ⟨o1, p1⟩ := H6.out.own.cell (j := 1) (by omega)
          have f1 := H6.out.own.frozen 1
          obtain ⟨o2, p2⟩ := H6.out.own.cell (j := 2) (by omega)
          have f2 := H6.out.own.frozen 2
          obtain ⟨o3, p3⟩ := H6.out.own.cell (j := 3) (by omega)
          have f3 := H6.out.own.frozen 3
          obtain ⟨o4, p4⟩ := H6.out.own.cell (j := 4) (by omega)
          have f4 := H6.out.own.frozen 4
          obtain ⟨o5, p5⟩ := H6.out.own.cell (j := 5) (by omega)
          have f5 := H6.out.own.frozen 5
          obtain ⟨o6, p6⟩ := H6.out.own.cell (j := 6) (by omega)
          have f6 := H6.out.own.frozen 6
          go_wp2_with fail
          exact dd_done H6.out.toDI ⟨3, (i : Int), 0, 0, 0, y, v⟩ (by simp [MDeed.wf, I64] <;> omega) _ rfl rfl
      · go_wp2_with fail
        refine (below_any B g 50 _ H3.out.cur).mono ?_
        rintro e w4 ⟨v, rfl, ⟨v0, _, v1⟩, hc, ho⟩
        have v2 := v1 (by omega)
        have H4 := Lib.hid (H3.out.next hc ho)
        clear hc ho v1
        go_wp2_with fail
        refine (once_any B g 6 _ H4.out.cur).mono ?_
        rintro e w5 ⟨b, rfl, hc, ho⟩
        have H5 := Lib.hid (H4.out.next hc ho)
        clear hc ho
        cases b with
        | true =>
          go_wp2_with fail
          refine (below_any B g 35 _ H5.out.cur).mono ?_
          rintro e w6 ⟨y, rfl, ⟨y0, _, y1⟩, hc, ho⟩
          have y2 := y1 (by omega)
          have H6 := Lib.hid (H5.out.next hc ho)
          clear hc ho y1
          obtain ⟨o0, p0⟩ := H6.out.own.cell (j := 0) (by omega)
          have f0 := H6.out.own.frozen 0
          obtain ⟨o1, p1⟩ := H6.out.own.cell (j := 1) (by omega)
          have f1 := H6.out.own.frozen 1
          obtain ⟨o2, p2⟩ := H6.out.own.cell (j := 2) (by omega)
          have f2 := H6.out.own.frozen 2
          obtain ⟨o3, p3⟩ := H6.out.own.cell (j := 3) (by omega)
          have f3 := H6.out.own.frozen 3
          obtain ⟨o4, p4⟩ := H6.out.own.cell (j := 4) (by omega)
          have f4 := H6.out.own.frozen 4
          obtain ⟨o5, p5⟩ := H6.out.own.cell (j := 5) (by omega)
          have f5 := H6.out.own.frozen 5
          obtain ⟨o6, p6⟩ := H6.out.own.cell (j := 6) (by omega)
          have f6 := H6.out.own.frozen 6
          go_wp2_with fail
          exact dd_done H6.out.toDI ⟨3, (i : Int), 0, 0, 0, y, (-1)⟩ (by simp [MDeed.wf, I64] <;> omega) _ rfl rfl
        | false =>
          go_wp2_with fail
          refine (below_any B g 35 _ H5.out.cur).mono ?_
          rintro e w6 ⟨y, rfl, ⟨y0, _, y1⟩, hc, ho⟩
          have y2 := y1 (by omega)
          have H6 := Lib.hid (H5.out.next hc ho)
          clear hc ho y1
          obtain ⟨o0, p0⟩ := H6.out.own.cell (j := 0) (by omega)
          have f0 := H6.out.own.frozen 0
          obtain ⟨o1, p1⟩ := H6.out.own.cell (j := 1) (by omega)
          have f1 := H6.out.own.frozen 1
          obtain ⟨o2, p2⟩ := H6.out.own.cell (j := 2) (by omega)
          have f2 := H6.out.own.frozen 2
          obtain ⟨o3, p3⟩ := H6.out.own.cell (j := 3) (by omega)
          have f3 := H6.out.own.frozen 3
          obtain ⟨o4, p4⟩ := H6.out.own.cell (j := 4) (by omega)
          have f4 := H6.out.own.frozen 4
          obtain ⟨o5, p5⟩ := H6.out.own.cell (j := 5) (by omega)
          have f5 := H6.out.own.frozen 5
          obtain ⟨o6, p6⟩ := H6.out.own.cell (j := 6) (by omega)
          have f6 := H6.out.own.frozen 6
          go_wp2_with fail
          exact dd_done H6.out.toDI ⟨3, (i : Int), 0, 0, 0, y, v⟩ (by simp [MDeed.wf, I64] <;> omega) _ rfl rfl
      · obtain ⟨o0, p0⟩ := H3.out.own.cell (j := 0) (by omega)
        have f0 := H3.out.own.frozen 0
        obtain ⟨o1, p1⟩ := H3.out.own.cell (j := 1) (by omega)
        have f1 := H3.out.own.frozen 1
        obtain ⟨o2, p2⟩ := H3.out.own.cell (j := 2) (by omega)
        have f2 := H3.out.own.frozen 2
        obtain ⟨o3, p3⟩ := H3.out.own.cell (j := 3) (by omega)
        have f3 := H3.out.own.frozen 3
        obtain ⟨o4, p4⟩ := H3.out.own.cell (j := 4) (by omega)
        have f4 := H3.out.own.frozen 4
        obtain ⟨o5, p5⟩ := H3.out.own.cell (j := 5) (by omega)
        have f5 := H3.out.own.frozen 5
        obtain ⟨o6, p6⟩ := H3.out.own.cell (j := 6) (by omega)
        have f6 := H3.out.own.frozen 6
        go_wp2_with fail
        exact dd_done H3.out.toDI ⟨4, (i : Int), 0, 0, 0, 0, 0⟩ (by simp [MDeed.wf, I64] <;> omega) _ rfl rfl
      · go_wp2_with fail
        refine (once_any B g 5 _ H3.out.cur).mono ?_
        rintro e w4 ⟨b, rfl, hc, ho⟩
        have H4 := Lib.hid (H3.out.next hc ho)
        clear hc ho
        cases b with
        | true =>
          obtain ⟨o0, p0⟩ := H4.out.own.cell (j := 0) (by omega)
          have f0 := H4.out.own.frozen 0
          obtain ⟨o1, p1⟩ := H4.out.own.cell (j := 1) (by omega)
          have f1 := H4.out.own.frozen 1
          obtain ⟨o2, p2⟩ := H4.out.own.cell (j := 2) (by omega)
          have f2 := H4.out.own.frozen 2
          obtain ⟨o3, p3⟩ := H4.out.own.cell (j := 3) (by omega)
          have f3 := H4.out.own.frozen 3
          obtain ⟨o4, p4⟩ := H4.out.own.cell (j := 4) (by omega)
          have f4 := H4.out.own.frozen 4
          obtain ⟨o5, p5⟩ := H4.out.own.cell (j := 5) (by omega)
          have f5 := H4.out.own.frozen 5
          obtain ⟨o6, p6⟩ := H4.out.own.cell (j := 6) (by omega)
          have f6 := H4.out.own.frozen 6
          go_wp2_with fail
          exact dd_done H4.out.toDI ⟨5, (i : Int), 0, 0, 0, 0, 0⟩ (by simp [MDeed.wf, I64] <;> omega) _ rfl rfl
        | false =>
          have n8 := H4.out.j8
          go_wp2_with fail
          refine (near_nil B g none 0 _ H4.out.cur).mono ?_
          rintro e w5 ⟨z, y, rfl, hz, hc, ho⟩
          have H5 := Lib.hid (H4.out.next hc ho)
          clear hc ho
          obtain ⟨o0, p0⟩ := H5.out.own.cell (j := 0) (by omega)
          have f0 := H5.out.own.frozen 0
          obtain ⟨o1, p1⟩ := H5.out.own.cell (j := 1) (by omega)
          have f1 := H5.out.own.frozen 1
          obtain ⟨o2, p2⟩ := H5.out.own.cell (j := 2) (by omega)
          have f2 := H5.out.own.frozen 2
          obtain ⟨o3, p3⟩ := H5.out.own.cell (j := 3) (by omega)
          have f3 := H5.out.own.frozen 3
          obtain ⟨o4, p4⟩ := H5.out.own.cell (j := 4) (by omega)
          have f4 := H5.out.own.frozen 4
          obtain ⟨o5, p5⟩ := H5.out.own.cell (j := 5) (by omega)
          have f5 := H5.out.own.frozen 5
          obtain ⟨o6, p6⟩ := H5.out.own.cell (j := 6) (by omega)
          have f6 := H5.out.own.frozen 6
          go_wp2_with fail
          exact dd_done H5.out.toDI ⟨2, (i : Int), 0, z, y, 0, 0⟩ (by simp [MDeed.wf, I64] <;> omega) _ rfl rfl
      · have e0 : (q == 0) = false := by rw [beq_eq_false_iff_ne]; omega
        have e1 : (q == 1) = false := by rw [beq_eq_false_iff_ne]; omega
        have e2 : (q == 2) = false := by rw [beq_eq_false_iff_ne]; omega
        have e3 : (q == 3) = false := by rw [beq_eq_false_iff_ne]; omega
        have n8 := H3.out.j8
        go_wp2_with fail
        refine (near_nil B g none 0 _ H3.out.cur).mono ?_
        rintro e w4 ⟨z, y, rfl, hz, hc, ho⟩
        have H4 := Lib.hid (H3.out.next hc ho)
        clear hc ho
        obtain ⟨o0, p0⟩ := H4.out.own.cell (j := 0) (by omega)
        have f0 := H4.out.own.frozen 0
        obtain ⟨o1, p1⟩ := H4.out.own.cell (j := 1) (by omega)
        have f1 := H4.out.own.frozen 1
        obtain ⟨o2, p2⟩ := H4.out.own.cell (j := 2) (by omega)
        have f2 := H4.out.own.frozen 2
        obtain ⟨o3, p3⟩ := H4.out.own.cell (j := 3) (by omega)
        have f3 := H4.out.own.frozen 3
        obtain ⟨o4, p4⟩ := H4.out.own.cell (j := 4) (by omega)
        have f4 := H4.out.own.frozen 4
        obtain ⟨o5, p5⟩ := H4.out.own.cell (j := 5) (by omega)
        have f5 := H4.out.own.frozen 5
        obtain ⟨o6, p6⟩ := H4.out.own.cell (j := 6) (by omega)
        have f6 := H4.out.own.frozen 6
        go_wp2_with fail
        exact dd_done H4.out.toDI ⟨2, (i : Int), 0, z, y, 0, 0⟩ (by simp [MDeed.wf, I64] <;> omega) _ rfl rfl
  · -- 14
    have n0 := H2.out.j0
    rcases hT with rfl | rfl | rfl
    · -- idle
      obtain ⟨o0, p0⟩ := H2.out.own.cell (j := 0) (by omega)
      have f0 := H2.out.own.frozen 0
      obtain ⟨o1, p1⟩ := H2.out.own.cell (j := 1) (by omega)
      have f1 := H2.out.own.frozen 1
      obtain ⟨o2, p2⟩ := H2.out.own.cell (j := 2) (by omega)
      have f2 := H2.out.own.frozen 2
      obtain ⟨o3, p3⟩ := H2.out.own.cell (j := 3) (by omega)
      have f3 := H2.out.own.frozen 3
      obtain ⟨o4, p4⟩ := H2.out.own.cell (j := 4) (by omega)
      have f4 := H2.out.own.frozen 4
      obtain ⟨o5, p5⟩ := H2.out.own.cell (j := 5) (by omega)
      have f5 := H2.out.own.frozen 5
      obtain ⟨o6, p6⟩ := H2.out.own.cell (j := 6) (by omega)
      have f6 := H2.out.own.frozen 6
      go_wp2_with fail
      exact dd_done H2.out.toDI ⟨1, (i : Int), 0, 0, 0, 0, 0⟩ (by simp [MDeed.wf, I64] <;> omega) _ rfl rfl
    · -- begin
      go_wp2_with fail
      refine (soon_any B g 5 _ H2.out.cur (by omega)).mono ?_
      rintro e w3 ⟨z, rfl, ⟨z0, z1⟩, hc, ho⟩
      have H3 := Lib.hid (H2.out.next hc ho)
      clear hc ho
      obtain ⟨o0, p0⟩ := H3.out.own.cell (j := 0) (by omega)
      have f0 := H3.out.own.frozen 0
      obtain ⟨o1, p1⟩ := H3.out.own.cell (j := 1) (by omega)
      have f1 := H3.out.own.frozen 1
      obtain ⟨o2, p2⟩ := H3.out.own.cell (j := 2) (by omega)
      have f2 := H3.out.own.frozen 2
      obtain ⟨o3, p3⟩ := H3.out.own.cell (j := 3) (by omega)
      have f3 := H3.out.own.frozen 3
      obtain ⟨o4, p4⟩ := H3.out.own.cell (j := 4) (by omega)
      have f4 := H3.out.own.frozen 4
      obtain ⟨o5, p5⟩ := H3.out.own.cell (j := 5) (by omega)
      have f5 := H3.out.own.frozen 5
      obtain ⟨o6, p6⟩ := H3.out.own.cell (j := 6) (by omega)
      have f6 := H3.out.own.frozen 6
      go_wp2_with fail
      exact dd_done H3.out.toDI ⟨7, z, 0, 0, 0, 0, 0⟩ (by simp [MDeed.wf, I64] <;> omega) _ rfl rfl
    · -- open
      go_wp2_with fail
      refine (below_any B g 7 _ H2.out.cur).mono ?_
      rintro e w3 ⟨q, rfl, ⟨q0, _, q1⟩, hc, ho⟩
      have q2 := q1 (by omega)
      have H3 := Lib.hid (H2.out.next hc ho)
      clear hc ho q1
      rcases (show q = 0 ∨ q = 1 ∨ q = 2 ∨ q = 3 ∨ 4 ≤ q from by omega) with rfl | rfl | rfl | rfl | hq
      · go_wp2_with fail
        refine (below_any B g 50 _ H3.out.cur).mono ?_
        rintro e w4 ⟨v, rfl, ⟨v0, _, v1⟩, hc, ho⟩
        have v2 := v1 (by omega)
        have H4 := Lib.hid (H3.out.next hc ho)
        clear hc ho v1
        go_wp2_with fail
        refine (once_any B g 6 _ H4.out.cur).mono ?_
        rintro e w5 ⟨b, rfl, hc, ho⟩
        have H5 := Lib.hid (H4.out.next hc ho)
        clear hc ho
        cases b with
        | true =>
          go_wp2_with fail
          refine (below_any B g 35 _ H5.out.cur).mono ?_
          rintro e w6 ⟨y, rfl, ⟨y0, _, y1⟩, hc, ho⟩
          have y2 := y1 (by omega)
          have H6 := Lib.hid (H5.out.next hc ho)
          clear hc ho y1
          obtain ⟨o0, p0⟩ := H6.out.own.cell (j := 0) (by omega)
          have f0 := H6.out.own.frozen 0
          obtain ⟨o1, p1⟩ := H6.out.own.cell (j := 1) (by omega)
          have f1 := H6.out.own.frozen 1
          obtain ⟨o2, p2⟩ := H6.out.own.cell (j := 2) (by omega)
          have f2 := H6.out.own.frozen 2
          obtain ⟨o3, p3⟩ := H6.out.own.cell (j := 3) (by omega)
          have f3 := H6.out.own.frozen 3
          obtain ⟨o4, p4⟩ := H6.out.own.cell (j := 4) (by omega)
          have f4 := H6.out.own.frozen 4
          obtain ⟨o5, p5⟩ := H6.out.own.cell (j := 5) (by omega)
          have f5 := H6.out.own.frozen 5
          obtain ⟨o6, p6⟩ := H6.out.own.cell (j := 6) (by omega)
          have f6 := H6.out.own.frozen 6
          go_wp2_with fail
          exact dd_done H6.out.toDI ⟨3, (i : Int), 0, 0, 0, y, (-1)⟩ (by simp [MDeed.wf, I64] <;> omega) _ rfl rfl
        | false =>
          go_wp2_with fail
          refine (below_any B g 35 _ H5.out.cur).mono ?_
          rintro e w6 ⟨y, rfl, ⟨y0, _, y1⟩, hc, ho⟩
          have y2 := y1 (by omega)
          have H6 := Lib.hid (H5.out.next hc ho)
          clear hc ho y1
          obtain ⟨o0, p0⟩ := H6.out.own.cell (j := 0) (by omega)
          have f0 := H6.out.own.frozen 0
          obtain ⟨o1, p1⟩ := H6.out.own.cell (j := 1) (by omega)
          have f1 := H6.out.own.frozen 1
          obtain ⟨o2, p2⟩ := H6.out.own.cell (j := 2) (by omega)
          have f2 := H6.out.own.frozen 2
          obtain ⟨o3, p3⟩ := H6.out.own.cell (j := 3) (by omega)
          have f3 := H6.out.own.frozen 3
          obtain ⟨o4, p4⟩ := H6.out.own.cell (j := 4) (by omega)
          have f4 := H6.out.own.frozen 4
          obtain ⟨o5, p5⟩ := H6.out.own.cell (j := 5) (by omega)
          have f5 := H6.out.own.frozen 5
          obtain ⟨o6, p6⟩ := H6.out.own.cell (j := 6) (by omega)
          have f6 := H6.out.own.frozen 6
          go_wp2_with fail
          exact dd_done H6.out.toDI ⟨3, (i : Int), 0, 0, 0, y, v⟩ (by simp [MDeed.wf, I64] <;> omega) _ rfl rfl
      · go_wp2_with fail
        refine (below_any B g 50 _ H3.out.cur).mono ?_
        rintro e w4 ⟨v, rfl, ⟨v0, _, v1⟩, hc, ho⟩
        have v2 := v1 (by omega)
        have H4 := Lib.hid (H3.out.next hc ho)
        clear hc ho v1
        go_wp2_with fail
        refine (once_any B g 6 _ H4.out.cur).mono ?_
        rintro e w5 ⟨b, rfl, hc, ho⟩
        have H5 := Lib.hid (H4.out.next hc ho)
        clear hc ho
        cases b with
        | true =>
          go_wp2_with fail
          refine (below_any B g 35 _ H5.out.cur).mono ?_
          rintro e w6 ⟨y, rfl, ⟨y0, _, y1⟩, hc, ho⟩
          have y2 := y1 (by omega)
          have H6 := Lib.hid (H5.out.next hc ho)
          clear hc ho y1
          obtain ⟨o0, p0⟩ := H6.out.own.cell (j := 0) (by omega)
          have f0 := H6.out.own.frozen 0
          obtain ⟨o1, p1⟩ := H6.out.own.cell (j := 1) (by omega)
          have f1 := H6.out.own.frozen 1
          obtain ⟨o2, p2⟩ := H6.out.own.cell (j := 2) (by omega)
          have f2 := H6.out.own.frozen 2
          obtain ⟨o3, p3⟩ := H6.out.own.cell (j := 3) (by omega)
          have f3 := H6.out.own.frozen 3
          obtain ⟨o4, p4⟩ := H6.out.own.cell (j := 4) (by omega)
          have f4 := H6.out.own.frozen 4
          obtain ⟨o5, p5⟩ := H6.out.own.cell (j := 5) (by omega)
          have f5 := H6.out.own.frozen 5
          obtain ⟨o6, p6⟩ := H6.out.own.cell (j := 6) (by omega)
          have f6 := H6.out.own.frozen 6
          go_wp2_with fail
          exact dd_done H6.out.toDI ⟨3, (i : Int), 0, 0, 0, y, (-1)⟩ (by simp [MDeed.wf, I64] <;> omega) _ rfl rfl
        | false =>
          go_wp2_with fail
          refine (below_any B g 35 _ H5.out.cur).mono ?_
          rintro e w6 ⟨y, rfl, ⟨y0, _, y1⟩, hc, ho⟩
          have y2 := y1 (by omega)
          have H6 := Lib.hid (H5.out.next hc ho)
          clear hc ho y1
          obtain ⟨o0, p0⟩ := H6.out.own.cell (j := 0) (by omega)
          have f0 := H6.out.own.frozen 0
          obtain ⟨o1, p1⟩ := H6.out.own.cell (j := 1) (by omega)
          have f1 := H6.out.own.frozen 1
          obtain ⟨o2, p2⟩ := H6.out.own.cell (j := 2) (by omega)
          have f2 := H6.out.own.frozen 2
          obtain ⟨o3, p3⟩ := H6.out.own.cell (j := 3) (by omega)
          have f3 := H6.out.own.frozen 3
          obtain ⟨o4, p4⟩ := H6.out.own.cell (j := 4) (by omega)
          have f4 := H6.out.own.frozen 4
          obtain ⟨o5, p5⟩ := H6.out.own.cell (j := 5) (by omega)
          have f5 := H6.out.own.frozen 5
          obtain ⟨o6, p6⟩ := H6.out.own.cell (j := 6) (by omega)
          have f6 := H6.out.own.frozen 6
          go_wp2_with fail
          exact dd_done H6.out.toDI ⟨3, (i : Int), 0, 0, 0, y, v⟩ (by simp [MDeed.wf, I64] <;> omega) _ rfl rfl
      · obtain ⟨o0, p0⟩ := H3.out.own.cell (j := 0) (by omega)
        have f0 := H3.out.own.frozen 0
        obtain ⟨o1, p1⟩ := H3.out.own.cell (j := 1) (by omega)
        have f1 := H3.out.own.frozen 1
        obtain ⟨o2, p2⟩ := H3.out.own.cell (j := 2) (by omega)
        have f2 := H3.out.own.frozen 2
        obtain ⟨o3, p3⟩ := H3.out.own.cell (j := 3) (by omega)
        have f3 := H3.out.own.frozen 3
        obtain ⟨o4, p4⟩ := H3.out.own.cell (j := 4) (by omega)
        have f4 := H3.out.own.frozen 4
        obtain ⟨o5, p5⟩ := H3.out.own.cell (j := 5) (by omega)
        have f5 := H3.out.own.frozen 5
        obtain ⟨o6, p6⟩ := H3.out.own.cell (j := 6) (by omega)
        have f6 := H3.out.own.frozen 6
        go_wp2_with fail
        exact dd_done H3.out.toDI ⟨4, (i : Int), 0, 0, 0, 0, 0⟩ (by simp [MDeed.wf, I64] <;> omega) _ rfl rfl
      · go_wp2_with fail
        refine (once_any B g 5 _ H3.out.cur).mono ?_
        rintro e w4 ⟨b, rfl, hc, ho⟩
        have H4 := Lib.hid (H3.out.next hc ho)
        clear hc ho
        cases b with
        | true =>
          obtain ⟨o0, p0⟩ := H4.out.own.cell (j := 0) (by omega)
          have f0 := H4.out.own.frozen 0
          obtain ⟨o1, p1⟩ := H4.out.own.cell (j := 1) (by omega)
          have f1 := H4.out.own.frozen 1
          obtain ⟨o2, p2⟩ := H4.out.own.cell (j := 2) (by omega)
          have f2 := H4.out.own.frozen 2
          obtain ⟨o3, p3⟩ := H4.out.own.cell (j := 3) (by omega)
          have f3 := H4.out.own.frozen 3
          obtain ⟨o4, p4⟩ := H4.out.own.cell (j := 4) (by omega)
          have f4 := H4.out.own.frozen 4
          obtain ⟨o5, p5⟩ := H4.out.own.cell (j := 5) (by omega)
          have f5 := H4.out.own.frozen 5
          obtain ⟨o6, p6⟩ := H4.out.own.cell (j := 6) (by omega)
          have f6 := H4.out.own.frozen 6
          go_wp2_with fail
          exact dd_done H4.out.toDI ⟨5, (i : Int), 0, 0, 0, 0, 0⟩ (by simp [MDeed.wf, I64] <;> omega) _ rfl rfl
        | false =>
          have n8 := H4.out.j8
          go_wp2_with fail
          refine (near_nil B g none 0 _ H4.out.cur).mono ?_
          rintro e w5 ⟨z, y, rfl, hz, hc, ho⟩
          have H5 := Lib.hid (H4.out.next hc ho)
          clear hc ho
          obtain ⟨o0, p0⟩ := H5.out.own.cell (j := 0) (by omega)
          have f0 := H5.out.own.frozen 0
          obtain ⟨o1, p1⟩ := H5.out.own.cell (j := 1) (by omega)
          have f1 := H5.out.own.frozen 1
          obtain ⟨o2, p2⟩ := H5.out.own.cell (j := 2) (by omega)
          have f2 := H5.out.own.frozen 2
          obtain ⟨o3, p3⟩ := H5.out.own.cell (j := 3) (by omega)
          have f3 := H5.out.own.frozen 3
          obtain ⟨o4, p4⟩ := H5.out.own.cell (j := 4) (by omega)
          have f4 := H5.out.own.frozen 4
          obtain ⟨o5, p5⟩ := H5.out.own.cell (j := 5) (by omega)
          have f5 := H5.out.own.frozen 5
          obtain ⟨o6, p6⟩ := H5.out.own.cell (j := 6) (by omega)
          have f6 := H5.out.own.frozen 6
          go_wp2_with fail
          exact dd_done H5.out.toDI ⟨2, (i : Int), 0, z, y, 0, 0⟩ (by simp [MDeed.wf, I64] <;> omega) _ rfl rfl
      · have e0 : (q == 0) = false := by rw [beq_eq_false_iff_ne]; omega
        have e1 : (q == 1) = false := by rw [beq_eq_false_iff_ne]; omega
        have e2 : (q == 2) = false := by rw [beq_eq_false_iff_ne]; omega
        have e3 : (q == 3) = false := by rw [beq_eq_false_iff_ne]; omega
        have n8 := H3.out.j8
        go_wp2_with fail
        refine (near_nil B g none 0 _ H3.out.cur).mono ?_
        rintro e w4 ⟨z, y, rfl, hz, hc, ho⟩
        have H4 := Lib.hid (H3.out.next hc ho)
        clear hc ho
        obtain ⟨o0, p0⟩ := H4.out.own.cell (j := 0) (by omega)
        have f0 := H4.out.own.frozen 0
        obtain ⟨o1, p1⟩ := H4.out.own.cell (j := 1) (by omega)
        have f1 := H4.out.own.frozen 1
        obtain ⟨o2, p2⟩ := H4.out.own.cell (j := 2) (by omega)
        have f2 := H4.out.own.frozen 2
        obtain ⟨o3, p3⟩ := H4.out.own.cell (j := 3) (by omega)
        have f3 := H4.out.own.frozen 3
        obtain ⟨o4, p4⟩ := H4.out.own.cell (j := 4) (by omega)
        have f4 := H4.out.own.frozen 4
        obtain ⟨o5, p5⟩ := H4.out.own.cell (j := 5) (by omega)
        have f5 := H4.out.own.frozen 5
        obtain ⟨o6, p6⟩ := H4.out.own.cell (j := 6) (by omega)
        have f6 := H4.out.own.frozen 6
        go_wp2_with fail
        exact dd_done H4.out.toDI ⟨2, (i : Int), 0, z, y, 0, 0⟩ (by simp [MDeed.wf, I64] <;> omega) _ rfl rfl
  · -- 15
    have n0 := H2.out.j0
    rcases hT with rfl | rfl | rfl
    · -- idle
      obtain ⟨o0, p0⟩ := H2.out.own.cell (j := 0) (by omega)
      have f0 := H2.out.own.frozen 0
      obtain ⟨o1, p1⟩ := H2.out.own.cell (j := 1) (by omega)
      have f1 := H2.out.own.frozen 1
      obtain ⟨o2, p2⟩ := H2.out.own.cell (j := 2) (by omega)
      have f2 := H2.out.own.frozen 2
      obtain ⟨o3, p3⟩ := H2.out.own.cell (j := 3) (by omega)
      have f3 := H2.out.own.frozen 3
      obtain ⟨o4, p4⟩ := H2.out.own.cell (j := 4) (by omega)
      have f4 := H2.out.own.frozen 4
      obtain ⟨o5, p5⟩ := H2.out.own.cell (j := 5) (by omega)
      have f5 := H2.out.own.frozen 5
      obtain ⟨o6, p6⟩ := H2.out.own.cell (j := 6) (by omega)
      have f6 := H2.out.own.frozen 6
      go_wp2_with fail
      exact dd_done H2.out.toDI ⟨1, (i : Int), 0, 0, 0, 0, 0⟩ (by simp [MDeed.wf, I64] <;> omega) _ rfl rfl
    · -- begin
      go_wp2_with fail
      refine (soon_any B g 5 _ H2.out.cur (by omega)).mono ?_
      rintro e w3 ⟨z, rfl, ⟨z0, z1⟩, hc, ho⟩
      have H3 := Lib.hid (H2.out.next hc ho)
      clear hc ho
      obtain ⟨o0, p0⟩ := H3.out.own.cell (j := 0) (by omega)
      have f0 := H3.out.own.frozen 0
      obtain ⟨o1, p1⟩ := H3.out.own.cell (j := 1) (by omega)
      have f1 := H3.out.own.frozen 1
      obtain ⟨o2, p2⟩ := H3.out.own.cell (j := 2) (by omega)
      have f2 := H3.out.own.frozen 2
      obtain ⟨o3, p3⟩ := H3.out.own.cell (j := 3) (by omega)
      have f3 := H3.out.own.frozen 3
      obtain ⟨o4, p4⟩ := H3.out.own.cell (j := 4) (by omega)
      have f4 := H3.out.own.frozen 4
      obtain ⟨o5, p5⟩ := H3.out.own.cell (j := 5) (by omega)
      have f5 := H3.out.own.frozen 5
      obtain ⟨o6, p6⟩ := H3.out.own.cell (j := 6) (by omega)
      have f6 := H3.out.own.frozen 6
      go_wp2_with fail
      exact dd_done H3.out.toDI ⟨7, z, 0, 0, 0, 0, 0⟩ (by simp [MDeed.wf, I64] <;> omega) _ rfl rfl
    · -- open
      go_wp2_with fail
      refine (below_any B g 7 _ H2.out.cur).mono ?_
      rintro e w3 ⟨q, rfl, ⟨q0, _, q1⟩, hc, ho⟩
      have q2 := q1 (by omega)
      have H3 := Lib.hid (H2.out.next hc ho)
      clear hc ho q1
      rcases (show q = 0 ∨ q = 1 ∨ q = 2 ∨ q = 3 ∨ 4 ≤ q from by omega) with rfl | rfl | rfl | rfl | hq
      · go_wp2_with fail
        refine (below_any B g 50 _ H3.out.cur).mono ?_
        rintro e w4 ⟨v, rfl, ⟨v0, _, v1⟩, hc, ho⟩
        have v2 := v1 (by omega)
        have H4 := Lib.hid (H3.out.next hc ho)
        clear hc ho v1
        go_wp2_with fail
        refine (once_any B g 6 _ H4.out.cur).mono ?_
        rintro e w5 ⟨b, rfl, hc, ho⟩
        have H5 := Lib.hid (H4.out.next hc ho)
        clear hc ho
        cases b with
        | true =>
          go_wp2_with fail
          refine (below_any B g 35 _ H5.out.cur).mono ?_
          rintro e w6 ⟨y, rfl, ⟨y0, _, y1⟩, hc, ho⟩
          have y2 := y1 (by omega)
          have H6 := Lib.hid (H5.out.next hc ho)
          clear hc ho y1
          obtain ⟨o0, p0⟩ := H6.out.own.cell (j := 0) (by omega)
          have f0 := H6.out.own.frozen 0
          obtain ⟨o1, p1⟩ := H6.out.own.cell (j := 1) (by omega)
          have f1 := H6.out.own.frozen 1
          obtain ⟨o2, p2⟩ := H6.out.own.cell (j := 2) (by omega)
          have f2 := H6.out.own.frozen 2
          obtain ⟨o3, p3⟩ := H6.out.own.cell (j := 3) (by omega)
          have f3 := H6.out.own.frozen 3
          obtain ⟨o4, p4⟩ := H6.out.own.cell (j := 4) (by omega)
          have f4 := H6.out.own.frozen 4
          obtain ⟨o5, p5⟩ := H6.out.own.cell (j := 5) (by omega)
          have f5 := H6.out.own.frozen 5
          obtain ⟨o6, p6⟩ := H6.out.own.cell (j := 6) (by omega)
          have f6 := H6.out.own.frozen 6
          go_wp2_with fail
          exact dd_done H6.out.toDI ⟨3, (i : Int), 0, 0, 0, y, (-1)⟩ (by simp [MDeed.wf, I64] <;> omega) _ rfl rfl
        | false =>
          go_wp2_with fail
          refine (below_any B g 35 _ H5.out.cur).mono ?_
          rintro e w6 ⟨y, rfl, ⟨y0, _, y1⟩, hc, ho⟩
          have y2 := y1 (by omega)
          have H6 := Lib.hid (H5.out.next hc ho)
          clear hc ho y1
          obtain ⟨o0, p0⟩ := H6.out.own.cell (j := 0) (by omega)
          have f0 := H6.out.own.frozen 0
          obtain ⟨o1, p1⟩ := H6.out.own.cell (j := 1) (by omega)
          have f1 := H6.out.own.frozen 1
          obtain ⟨o2, p2⟩ := H6.out.own.cell (j := 2) (by omega)
          have f2 := H6.out.own.frozen 2
          obtain ⟨o3, p3⟩ := H6.out.own.cell (j := 3) (by omega)
          have f3 := H6.out.own.frozen 3
          obtain ⟨o4, p4⟩ := H6.out.own.cell (j := 4) (by omega)
          have f4 := H6.out.own.frozen 4
          obtain ⟨o5, p5⟩ := H6.out.own.cell (j := 5) (by omega)
          have f5 := H6.out.own.frozen 5
          obtain ⟨o6, p6⟩ := H6.out.own.cell (j := 6) (by omega)
          have f6 := H6.out.own.frozen 6
          go_wp2_with fail
          exact dd_done H6.out.toDI ⟨3, (i : Int), 0, 0, 0, y, v⟩ (by simp [MDeed.wf, I64] <;> omega) _ rfl rfl
      · go_wp2_with fail
        refine (below_any B g 50 _ H3.out.cur).mono ?_
        rintro e w4 ⟨v, rfl, ⟨v0, _, v1⟩, hc, ho⟩
        have v2 := v1 (by omega)
        have H4 := Lib.hid (H3.out.next hc ho)
        clear hc ho v1
        go_wp2_with fail
        refine (once_any B g 6 _ H4.out.cur).mono ?_
        rintro e w5 ⟨b, rfl, hc, ho⟩
        have H5 := Lib.hid (H4.out.next hc ho)
        clear hc ho
        cases b with
        | true =>
          go_wp2_with fail
          refine (below_any B g 35 _ H5.out.cur).mono ?_
          rintro e w6 ⟨y, rfl, ⟨y0, _, y1⟩, hc, ho⟩
          have y2 := y1 (by omega)
          have H6 := Lib.hid (H5.out.next hc ho)
          clear hc ho y1
          obtain ⟨o0, p0⟩ := H6.out.own.cell (j := 0) (by omega)
          have f0 := H6.out.own.frozen 0
          obtain ⟨o1, p1⟩ := H6.out.own.cell (j := 1) (by omega)
          have f1 := H6.out.own.frozen 1
          obtain ⟨o2, p2⟩ := H6.out.own.cell (j := 2) (by omega)
          have f2 := H6.out.own.frozen 2
          obtain ⟨o3, p3⟩ := H6.out.own.cell (j := 3) (by omega)
          have f3 := H6.out.own.frozen 3
          obtain ⟨o4, p4⟩ := H6.out.own.cell (j := 4) (by omega)
          have f4 := H6.out.own.frozen 4
          obtain ⟨o5, p5⟩ := H6.out.own.cell (j := 5) (by omega)
          have f5 := H6.out.own.frozen 5
          obtain ⟨o6, p6⟩ := H6.out.own.cell (j := 6) (by omega)
          have f6 := H6.out.own.frozen 6
          go_wp2_with fail
          exact dd_done H6.out.toDI ⟨3, (i : Int), 0, 0, 0, y, (-1)⟩ (by simp [MDeed.wf, I64] <;> omega) _ rfl rfl
        | false =>
          go_wp2_with fail
          refine (below_any B g 35 _ H5.out.cur).mono ?_
          rintro e w6 ⟨y, rfl, ⟨y0, _, y1⟩, hc, ho⟩
          have y2 := y1 (by omega)
          have H6 := Lib.hid (H5.out.next hc ho)
          clear hc ho y1
          obtain ⟨o0, p0⟩ := H6.out.own.cell (j := 0) (by omega)
          have f0 := H6.out.own.frozen 0
          obtain ⟨o1, p1⟩ := H6.out.own.cell (j := 1) (by omega)
          have f1 := H6.out.own.frozen 1
          obtain ⟨o2, p2⟩ := H6.out.own.cell (j := 2) (by omega)
          have f2 := H6.out.own.frozen 2
          obtain ⟨o3, p3⟩ := H6.out.own.cell (j := 3) (by omega)
          have f3 := H6.out.own.frozen 3
          obtain ⟨o4, p4⟩ := H6.out.own.cell (j := 4) (by omega)
          have f4 := H6.out.own.frozen 4
          obtain ⟨o5, p5⟩ := H6.out.own.cell (j := 5) (by omega)
          have f5 := H6.out.own.frozen 5
          obtain ⟨o6, p6⟩ := H6.out.own.cell (j := 6) (by omega)
          have f6 := H6.out.own.frozen 6
          go_wp2_with fail
          exact dd_done H6.out.toDI ⟨3, (i : Int), 0, 0, 0, y, v⟩ (by simp [MDeed.wf, I64] <;> omega) _ rfl rfl
      · obtain ⟨o0, p0⟩ := H3.out.own.cell (j := 0) (by omega)
        have f0 := H3.out.own.frozen 0
        obtain ⟨o1, p1⟩ := H3.out.own.cell (j := 1) (by omega)
        have f1 := H3.out.own.frozen 1
        obtain ⟨o2, p2⟩ := H3.out.own.cell (j := 2) (by omega)
        have f2 := H3.out.own.frozen 2
        obtain ⟨o3, p3⟩ := H3.out.own.cell (j := 3) (by omega)
        have f3 := H3.out.own.frozen 3
        obtain ⟨o4, p4⟩ := H3.out.own.cell (j := 4) (by omega)
        have f4 := H3.out.own.frozen 4
        obtain ⟨o5, p5⟩ := H3.out.own.cell (j := 5) (by omega)
        have f5 := H3.out.own.frozen 5
        obtain ⟨o6, p6⟩ := H3.out.own.cell (j := 6) (by omega)
        have f6 := H3.out.own.frozen 6
        go_wp2_with fail
        exact dd_done H3.out.toDI ⟨4, (i : Int), 0, 0, 0, 0, 0⟩ (by simp [MDeed.wf, I64] <;> omega) _ rfl rfl
      · go_wp2_with fail
        refine (once_any B g 5 _ H3.out.cur).mono ?_
        rintro e w4 ⟨b, rfl, hc, ho⟩
        have H4 := Lib.hid (H3.out.next hc ho)
        clear hc ho
        cases b with
        | true =>
          obtain ⟨o0, p0⟩ := H4.out.own.cell (j := 0) (by omega)
          have f0 := H4.out.own.frozen 0
          obtain ⟨o1, p1⟩ := H4.out.own.cell (j := 1) (by omega)
          have f1 := H4.out.own.frozen 1
          obtain ⟨o2, p2⟩ := H4.out.own.cell (j := 2) (by omega)
          have f2 := H4.out.own.frozen 2
          obtain ⟨o3, p3⟩ := H4.out.own.cell (j := 3) (by omega)
          have f3 := H4.out.own.frozen 3
          obtain ⟨o4, p4⟩ := H4.out.own.cell (j := 4) (by omega)
          have f4 := H4.out.own.frozen 4
          obtain ⟨o5, p5⟩ := H4.out.own.cell (j := 5) (by omega)
          have f5 := H4.out.own.frozen 5
          obtain ⟨o6, p6⟩ := H4.out.own.cell (j := 6) (by omega)
          have f6 := H4.out.own.frozen 6
          go_wp2_with fail
          exact dd_done H4.out.toDI ⟨5, (i : Int), 0, 0, 0, 0, 0⟩ (by simp [MDeed.wf, I64] <;> omega) _ rfl rfl
        | false =>
          have n8 := H4.out.j8
          go_wp2_with fail
          refine (near_nil B g none 0 _ H4.out.cur).mono ?_
          rintro e w5 ⟨z, y, rfl, hz, hc, ho⟩
          have H5 := Lib.hid (H4.out.next hc ho)
          clear hc ho
          obtain ⟨o0, p0⟩ := H5.out.own.cell (j := 0) (by omega)
          have f0 := H5.out.own.frozen 0
          obtain ⟨o1, p1⟩ := H5.out.own.cell (j := 1) (by omega)
          have f1 := H5.out.own.frozen 1
          obtain ⟨o2, p2⟩ := H5.out.own.cell (j := 2) (by omega)
          have f2 := H5.out.own.frozen 2
          obtain ⟨o3, p3⟩ := H5.out.own.cell (j := 3) (by omega)
          have f3 := H5.out.own.frozen 3
          obtain ⟨o4, p4⟩ := H5.out.own.cell (j := 4) (by omega)
          have f4 := H5.out.own.frozen 4
          obtain ⟨o5, p5⟩ := H5.out.own.cell (j := 5) (by omega)
          have f5 := H5.out.own.frozen 5
          obtain ⟨o6, p6⟩ := H5.out.own.cell (j := 6) (by omega)
          have f6 := H5.out.own.frozen 6
          go_wp2_with fail
          exact dd_done H5.out.toDI ⟨2, (i : Int), 0, z, y, 0, 0⟩ (by simp [MDeed.wf, I64] <;> omega) _ rfl rfl
      · have e0 : (q == 0) = false := by rw [beq_eq_false_iff_ne]; omega
        have e1 : (q == 1) = false := by rw [beq_eq_false_iff_ne]; omega
        have e2 : (q == 2) = false := by rw [beq_eq_false_iff_ne]; omega
        have e3 : (q == 3) = false := by rw [beq_eq_false_iff_ne]; omega
        have n8 := H3.out.j8
        go_wp2_with fail
        refine (near_nil B g none 0 _ H3.out.cur).mono ?_
        rintro e w4 ⟨z, y, rfl, hz, hc, ho⟩
        have H4 := Lib.hid (H3.out.next hc ho)
        clear hc ho
        obtain ⟨o0, p0⟩ := H4.out.own.cell (j := 0) (by omega)
        have f0 := H4.out.own.frozen 0
        obtain ⟨o1, p1⟩ := H4.out.own.cell (j := 1) (by omega)
        have f1 := H4.out.own.frozen 1
        obtain ⟨o2, p2⟩ := H4.out.own.cell (j := 2) (by omega)
        have f2 := H4.out.own.frozen 2
        obtain ⟨o3, p3⟩ := H4.out.own.cell (j := 3) (by omega)
        have f3 := H4.out.own.frozen 3
        obtain ⟨o4, p4⟩ := H4.out.own.cell (j := 4) (by omega)
        have f4 := H4.out.own.frozen 4
        obtain ⟨o5, p5⟩ := H4.out.own.cell (j := 5) (by omega)
        have f5 := H4.out.own.frozen 5
        obtain ⟨o6, p6⟩ := H4.out.own.cell (j := 6) (by omega)
        have f6 := H4.out.own.frozen 6
        go_wp2_with fail
        exact dd_done H4.out.toDI ⟨2, (i : Int), 0, z, y, 0, 0⟩ (by simp [MDeed.wf, I64] <;> omega) _ rfl rfl
  · -- 16
    have n0 := H2.out.j0
    rcases hT with rfl | rfl | rfl
    · -- idle
      obtain ⟨o0, p0⟩ := H2.out.own.cell (j := 0) (by omega)
      have f0 := H2.out.own.frozen 0
      obtain ⟨o1, p1⟩ := H2.out.own.cell (j := 1) (by omega)
      have f1 := H2.out.own.frozen 1
      obtain ⟨o2, p2⟩ := H2.out.own.cell (j := 2) (by omega)
      have f2 := H2.out.own.frozen 2
      obtain ⟨o3, p3⟩ := H2.out.own.cell (j := 3) (by omega)
      have f3 := H2.out.own.frozen 3
      obtain ⟨o4, p4⟩ := H2.out.own.cell (j := 4) (by omega)
      have f4 := H2.out.own.frozen 4
      obtain ⟨o5, p5⟩ := H2.out.own.cell (j := 5) (by omega)
      have f5 := H2.out.own.frozen 5
      obtain ⟨o6, p6⟩ := H2.out.own.cell (j := 6) (by omega)
      have f6 := H2.out.own.frozen 6
      go_wp2_with fail
      exact dd_done H2.out.toDI ⟨1, (i : Int), 0, 0, 0, 0, 0⟩ (by simp [MDeed.wf, I64] <;> omega) _ rfl rfl
    · -- begin
      go_wp2_with fail
      refine (soon_any B g 5 _ H2.out.cur (by omega)).mono ?_
      rintro e w3 ⟨z, rfl, ⟨z0, z1⟩, hc, ho⟩
      have H3 := Lib.hid (H2.out.next hc ho)
      clear hc ho
      obtain ⟨o0, p0⟩ := H3.out.own.cell (j := 0) (by omega)
      have f0 := H3.out.own.frozen 0
      obtain ⟨o1, p1⟩ := H3.out.own.cell (j := 1) (by omega)
      have f1 := H3.out.own.frozen 1
      obtain ⟨o2, p2⟩ := H3.out.own.cell (j := 2) (by omega)
      have f2 := H3.out.own.frozen 2
      obtain ⟨o3, p3⟩ := H3.out.own.cell (j := 3) (by omega)
      have f3 := H3.out.own.frozen 3
      obtain ⟨o4, p4⟩ := H3.out.own.cell (j := 4) (by omega)
      have f4 := H3.out.own.frozen 4
      obtain ⟨o5, p5⟩ := H3.out.own.cell (j := 5) (by omega)
      have f5 := H3.out.own.frozen 5
      obtain ⟨o6, p6⟩ := H3.out.own.cell (j := 6) (by omega)
      have f6 := H3.out.own.frozen 6
      go_wp2_with fail
      exact dd_done H3.out.toDI ⟨7, z, 0, 0, 0, 0, 0⟩ (by simp [MDeed.wf, I64] <;> omega) _ rfl rfl
    · -- open
      go_wp2_with fail
      refine (below_any B g 7 _ H2.out.cur).mono ?_
      rintro e w3 ⟨q, rfl, ⟨q0, _, q1⟩, hc, ho⟩
      have q2 := q1 (by omega)
      have H3 := Lib.hid (H2.out.next hc ho)
      clear hc ho q1
      rcases (show q = 0 ∨ q = 1 ∨ q = 2 ∨ q = 3 ∨ 4 ≤ q from by omega) with rfl | rfl | rfl | rfl | hq
      · go_wp2_with fail
        refine (below_any B g 50 _ H3.out.cur).mono ?_
        rintro e w4 ⟨v, rfl, ⟨v0, _, v1⟩, hc, ho⟩
        have v2 := v1 (by omega)
        have H4 := Lib.hid (H3.out.next hc ho)
        clear hc ho v1
        go_wp2_with fail
        refine (once_any B g 6 _ H4.out.cur).mono ?_
        rintro e w5 ⟨b, rfl, hc, ho⟩
        have H5 := Lib.hid (H4.out.next hc ho)
        clear hc ho
        cases b with
        | true =>
          go_wp2_with fail
          refine (below_any B g 35 _ H5.out.cur).mono ?_
          rintro e w6 ⟨y, rfl, ⟨y0, _, y1⟩, hc, ho⟩
          have y2 := y1 (by omega)
          have H6 := Lib.hid (H5.out.next hc ho)
          clear hc ho y1
          obtain ⟨o0, p0⟩ := H6.out.own.cell (j := 0) (by omega)
          have f0 := H6.out.own.frozen 0
          obtain ⟨o1, p1⟩ := H6.out.own.cell (j := 1) (by omega)
          have f1 := H6.out.own.frozen 1
          obtain ⟨o2, p2⟩ := H6.out.own.cell (j := 2) (by omega)
          have f2 := H6.out.own.frozen 2
          obtain ⟨o3, p3⟩ := H6.out.own.cell (j := 3) (by omega)
          have f3 := H6.out.own.frozen 3
          obtain ⟨o4, p4⟩ := H6.out.own.cell (j := 4) (by omega)
          have f4 := H6.out.own.frozen 4
          obtain ⟨o5, p5⟩ := H6.out.own.cell (j := 5) (by omega)
          have f5 := H6.out.own.frozen 5
          obtain ⟨o6, p6⟩ := H6.out.own.cell (j := 6) (by omega)
          have f6 := H6.out.own.frozen 6
          go_wp2_with fail
          exact dd_done H6.out.toDI ⟨3, (i : Int), 0, 0, 0, y, (-1)⟩ (by simp [MDeed.wf, I64] <;> omega) _ rfl rfl
        | false =>
          go_wp2_with fail
          refine (below_any B g 35 _ H5.out.cur).mono ?_
          rintro e w6 ⟨y, rfl, ⟨y0, _, y1⟩, hc, ho⟩
          have y2 := y1 (by omega)
          have H6 := Lib.hid (H5.out.next hc ho)
          clear hc ho y1
          obtain ⟨o0, p0⟩ := H6.out.own.cell (j := 0) (by omega)
          have f0 := H6.out.own.frozen 0
          obtain ⟨o1, p1⟩ := H6.out.own.cell (j := 1) (by omega)
          have f1 := H6.out.own.frozen 1
          obtain ⟨o2, p2⟩ := H6.out.own.cell (j := 2) (by omega)
          have f2 := H6.out.own.frozen 2
          obtain ⟨o3, p3⟩ := H6.out.own.cell (j := 3) (by omega)
          have f3 := H6.out.own.frozen 3
          obtain ⟨o4, p4⟩ := H6.out.own.cell (j := 4) (by omega)
          have f4 := H6.out.own.frozen 4
          obtain ⟨o5, p5⟩ := H6.out.own.cell (j := 5) (by omega)
          have f5 := H6.out.own.frozen 5
          obtain ⟨o6, p6⟩ := H6.out.own.cell (j := 6) (by omega)
          have f6 := H6.out.own.frozen 6
          go_wp2_with fail
          exact dd_done H6.out.toDI ⟨3, (i : Int), 0, 0, 0, y, v⟩ (by simp [MDeed.wf, I64] <;> omega) _ rfl rfl
      · go_wp2_with fail
        refine (below_any B g 50 _ H3.out.cur).mono ?_
        rintro e w4 ⟨v, rfl, ⟨v0, _, v1⟩, hc, ho⟩
        have v2 := v1 (by omega)
        have H4 := Lib.hid (H3.out.next hc ho)
        clear hc ho v1
        go_wp2_with fail
        refine (once_any B g 6 _ H4.out.cur).mono ?_
        rintro e w5 ⟨b, rfl, hc, ho⟩
        have H5 := Lib.hid (H4.out.next hc ho)
        clear hc ho
        cases b with
        | true =>
          go_wp2_with fail
          refine (below_any B g 35 _ H5.out.cur).mono ?_
          rintro e w6 ⟨y, rfl, ⟨y0, _, y1⟩, hc, ho⟩
          have y2 := y1 (by omega)
          have H6 := Lib.hid (H5.out.next hc ho)
          clear hc ho y1
          obtain ⟨o0, p0⟩ := H6.out.own.cell (j := 0) (by omega)
          have f0 := H6.out.own.frozen 0
          obtain ⟨o1, p1⟩ := H6.out.own.cell (j := 1) (by omega)
          have f1 := H6.out.own.frozen 1
          obtain ⟨o2, p2⟩ := H6.out.own.cell (j := 2) (by omega)
          have f2 := H6.out.own.frozen 2
          obtain ⟨o3, p3⟩ := H6.out.own.cell (j := 3) (by omega)
          have f3 := H6.out.own.frozen 3
          obtain ⟨o4, p4⟩ := H6.out.own.cell (j := 4) (by omega)
          have f4 := H6.out.own.frozen 4
          obtain ⟨o5, p5⟩ := H6.out.own.cell (j := 5) (by omega)
          have f5 := H6.out.own.frozen 5
          obtain ⟨o6, p6⟩ := H6.out.own.cell (j := 6) (by omega)
          have f6 := H6.out.own.frozen 6
          go_wp2_with fail
          exact dd_done H6.out.toDI ⟨3, (i : Int), 0, 0, 0, y, (-1)⟩ (by simp [MDeed.wf, I64] <;> omega) _ rfl rfl
        | false =>
          go_wp2_with fail
          refine (below_any B g 35 _ H5.out.cur).mono ?_
          rintro e w6 ⟨y, rfl, ⟨y0, _, y1⟩, hc, ho⟩
          have y2 := y1 (by omega)
          have H6 := Lib.hid (H5.out.next hc ho)
          clear hc ho y1
          obtain ⟨o0, p0⟩ := H6.out.own.cell (j := 0) (by omega)
          have f0 := H6.out.own.frozen 0
          obtain ⟨o1, p1⟩ := H6.out.own.cell (j := 1) (by omega)
          have f1 := H6.out.own.frozen 1
          obtain ⟨o2, p2⟩ := H6.out.own.cell (j := 2) (by omega)
          have f2 := H6.out.own.frozen 2
          obtain ⟨o3, p3⟩ := H6.out.own.cell (j := 3) (by omega)
          have f3 := H6.out.own.frozen 3
          obtain ⟨o4, p4⟩ := H6.out.own.cell (j := 4) (by omega)
          have f4 := H6.out.own.frozen 4
          obtain ⟨o5, p5⟩ := H6.out.own.cell (j := 5) (by omega)
          have f5 := H6.out.own.frozen 5
          obtain ⟨o6, p6⟩ := H6.out.own.cell (j := 6) (by omega)
          have f6 := H6.out.own.frozen 6
          go_wp2_with fail
          exact dd_done H6.out.toDI ⟨3, (i : Int), 0, 0, 0, y, v⟩ (by simp [MDeed.wf, I64] <;> omega) _ rfl rfl
      · obtain ⟨o0, p0⟩ := H3.out.own.cell (j := 0) (by omega)
        have f0 := H3.out.own.frozen 0
        obtain ⟨o1, p1⟩ := H3.out.own.cell (j := 1) (by omega)
        have f1 := H3.out.own.frozen 1
        obtain ⟨o2, p2⟩ := H3.out.own.cell (j := 2) (by omega)
        have f2 := H3.out.own.frozen 2
        obtain ⟨o3, p3⟩ := H3.out.own.cell (j := 3) (by omega)
        have f3 := H3.out.own.frozen 3
        obtain ⟨o4, p4⟩ := H3.out.own.cell (j := 4) (by omega)
        have f4 := H3.out.own.frozen 4
        obtain ⟨o5, p5⟩ := H3.out.own.cell (j := 5) (by omega)
        have f5 := H3.out.own.frozen 5
        obtain ⟨o6, p6⟩ := H3.out.own.cell (j := 6) (by omega)
        have f6 := H3.out.own.frozen 6
        go_wp2_with fail
        exact dd_done H3.out.toDI ⟨4, (i : Int), 0, 0, 0, 0, 0⟩ (by simp [MDeed.wf, I64] <;> omega) _ rfl rfl
      · go_wp2_with fail
        refine (once_any B g 5 _ H3.out.cur).mono ?_
        rintro e w4 ⟨b, rfl, hc, ho⟩
        have H4 := Lib.hid (H3.out.next hc ho)
        clear hc ho
        cases b with
        | true =>
          obtain ⟨o0, p0⟩ := H4.out.own.cell (j := 0) (by omega)
          have f0 := H4.out.own.frozen 0
          obtain ⟨o1, p1⟩ := H4.out.own.cell (j := 1) (by omega)
          have f1 := H4.out.own.frozen 1
          obtain ⟨o2, p2⟩ := H4.out.own.cell (j := 2) (by omega)
          have f2 := H4.out.own.frozen 2
          obtain ⟨o3, p3⟩ := H4.out.own.cell (j := 3) (by omega)
          have f3 := H4.out.own.frozen 3
          obtain ⟨o4, p4⟩ := H4.out.own.cell (j := 4) (by omega)
          have f4 := H4.out.own.frozen 4
          obtain ⟨o5, p5⟩ := H4.out.own.cell (j := 5) (by omega)
          have f5 := H4.out.own.frozen 5
          obtain ⟨o6, p6⟩ := H4.out.own.cell (j := 6) (by omega)
          have f6 := H4.out.own.frozen 6
          go_wp2_with fail
          exact dd_done H4.out.toDI ⟨5, (i : Int), 0, 0, 0, 0, 0⟩ (by simp [MDeed.wf, I64] <;> omega) _ rfl rfl
        | false =>
          have n8 := H4.out.j8
          go_wp2_with fail
          refine (near_nil B g none 0 _ H4.out.cur).mono ?_
          rintro e w5 ⟨z, y, rfl, hz, hc, ho⟩
          have H5 := Lib.hid (H4.out.next hc ho)
          clear hc ho
          obtain ⟨o0, p0⟩ := H5.out.own.cell (j := 0) (by omega)
          have f0 := H5.out.own.frozen 0
          obtain ⟨o1, p1⟩ := H5.out.own.cell (j := 1) (by omega)
          have f1 := H5.out.own.frozen 1
          obtain ⟨o2, p2⟩ := H5.out.own.cell (j := 2) (by omega)
          have f2 := H5.out.own.frozen 2
          obtain ⟨o3, p3⟩ := H5.out.own.cell (j := 3) (by omega)
          have f3 := H5.out.own.frozen 3
          obtain ⟨o4, p4⟩ := H5.out.own.cell (j := 4) (by omega)
          have f4 := H5.out.own.frozen 4
          obtain ⟨o5, p5⟩ := H5.out.own.cell (j := 5) (by omega)
          have f5 := H5.out.own.frozen 5
          obtain ⟨o6, p6⟩ := H5.out.own.cell (j := 6) (by omega)
          have f6 := H5.out.own.frozen 6
          go_wp2_with fail
          exact dd_done H5.out.toDI ⟨2, (i : Int), 0, z, y, 0, 0⟩ (by simp [MDeed.wf, I64] <;> omega) _ rfl rfl
      · have e0 : (q == 0) = false := by rw [beq_eq_false_iff_ne]; omega
        have e1 : (q == 1) = false := by rw [beq_eq_false_iff_ne]; omega
        have e2 : (q == 2) = false := by rw [beq_eq_false_iff_ne]; omega
        have e3 : (q == 3) = false := by rw [beq_eq_false_iff_ne]; omega
        have n8 := H3.out.j8
        go_wp2_with fail
        refine (near_nil B g none 0 _ H3.out.cur).mono ?_
        rintro e w4 ⟨z, y, rfl, hz, hc, ho⟩
        have H4 := Lib.hid (H3.out.next hc ho)
        clear hc ho
        obtain ⟨o0, p0⟩ := H4.out.own.cell (j := 0) (by omega)
        have f0 := H4.out.own.frozen 0
        obtain ⟨o1, p1⟩ := H4.out.own.cell (j := 1) (by omega)
        have f1 := H4.out.own.frozen 1
        obtain ⟨o2, p2⟩ := H4.out.own.cell (j := 2) (by omega)
        have f2 := H4.out.own.frozen 2
        obtain ⟨o3, p3⟩ := H4.out.own.cell (j := 3) (by omega)
        have f3 := H4.out.own.frozen 3
        obtain ⟨o4, p4⟩ := H4.out.own.cell (j := 4) (by omega)
        have f4 := H4.out.own.frozen 4
        obtain ⟨o5, p5⟩ := H4.out.own.cell (j := 5) (by omega)
        have f5 := H4.out.own.frozen 5
        obtain ⟨o6, p6⟩ := H4.out.own.cell (j := 6) (by omega)
        have f6 := H4.out.own.frozen 6
        go_wp2_with fail
        exact dd_done H4.out.toDI ⟨2, (i : Int), 0, z, y, 0, 0⟩ (by simp [MDeed.wf, I64] <;> omega) _ rfl rfl
  · -- 17
    have n0 := H2.out.j0
    rcases hT with rfl | rfl | rfl
    · -- idle
      obtain ⟨o0, p0⟩ := H2.out.own.cell (j := 0) (by omega)
      have f0 := H2.out.own.frozen 0
      obtain ⟨o1, p1⟩ := H2.out.own.cell (j := 1) (by omega)
      have f1 := H2.out.own.frozen 1
      obtain ⟨o2, p2⟩ := H2.out.own.cell (j := 2) (by omega)
      have f2 := H2.out.own.frozen 2
      obtain ⟨o3, p3⟩ := H2.out.own.cell (j := 3) (by omega)
      have f3 := H2.out.own.frozen 3
      obtain ⟨o4, p4⟩ := H2.out.own.cell (j := 4) (by omega)
      have f4 := H2.out.own.frozen 4
      obtain ⟨o5, p5⟩ := H2.out.own.cell (j := 5) (by omega)
      have f5 := H2.out.own.frozen 5
      obtain ⟨o6, p6⟩ := H2.out.own.cell (j := 6) (by omega)
      have f6 := H2.out.own.frozen 6
      go_wp2_with fail
      exact dd_done H2.out.toDI ⟨1, (i : Int), 0, 0, 0, 0, 0⟩ (by simp [MDeed.wf, I64] <;> omega) _ rfl rfl
    · -- begin
      go_wp2_with fail
      refine (soon_any B g 5 _ H2.out.cur (by omega)).mono ?_
      rintro e w3 ⟨z, rfl, ⟨z0, z1⟩, hc, ho⟩
      have H3 := Lib.hid (H2.out.next hc ho)
      clear hc ho
      obtain ⟨o0, p0⟩ := H3.out.own.cell (j := 0) (by omega)
      have f0 := H3.out.own.frozen 0
      obtain ⟨o1, p1⟩ := H3.out.own.cell (j := 1) (by omega)
      have f1 := H3.out.own.frozen 1
      obtain ⟨o2, p2⟩ := H3.out.own.cell (j := 2) (by omega)
      have f2 := H3.out.own.frozen 2
      obtain ⟨o3, p3⟩ := H3.out.own.cell (j := 3) (by omega)
      have f3 := H3.out.own.frozen 3
      obtain ⟨o4, p4⟩ := H3.out.own.cell (j := 4) (by omega)
      have f4 := H3.out.own.frozen 4
      obtain ⟨o5, p5⟩ := H3.out.own.cell (j := 5) (by omega)
      have f5 := H3.out.own.frozen 5
      obtain ⟨o6, p6⟩ := H3.out.own.cell (j := 6) (by omega)
      have f6 := H3.out.own.frozen 6
      go_wp2_with fail
      exact dd_done H3.out.toDI ⟨7, z, 0, 0, 0, 0, 0⟩ (by simp [MDeed.wf, I64] <;> omega) _ rfl rfl
    · -- open
      go_wp2_with fail
      refine (below_any B g 7 _ H2.out.cur).mono ?_
      rintro e w3 ⟨q, rfl, ⟨q0, _, q1⟩, hc, ho⟩
      have q2 := q1 (by omega)
      have H3 := Lib.hid (H2.out.next hc ho)
      clear hc ho q1
      rcases (show q = 0 ∨ q = 1 ∨ q = 2 ∨ q = 3 ∨ 4 ≤ q from by omega) with rfl | rfl | rfl | rfl | hq
      · go_wp2_with fail
        refine (below_any B g 50 _ H3.out.cur).mono ?_
        rintro e w4 ⟨v, rfl, ⟨v0, _, v1⟩, hc, ho⟩
        have v2 := v1 (by omega)
        have H4 := Lib.hid (H3.out.next hc ho)
        clear hc ho v1
        go_wp2_with fail
        refine (once_any B g 6 _ H4.out.cur).mono ?_
        rintro e w5 ⟨b, rfl, hc, ho⟩
        have H5 := Lib.hid (H4.out.next hc ho)
        clear hc ho
        cases b with
        | true =>
          go_wp2_with fail
          refine (below_any B g 35 _ H5.out.cur).mono ?_
          rintro e w6 ⟨y, rfl, ⟨y0, _, y1⟩, hc, ho⟩
          have y2 := y1 (by omega)
          have H6 := Lib.hid (H5.out.next hc ho)
          clear hc ho y1
          obtain ⟨o0, p0⟩ := H6.out.own.cell (j := 0) (by omega)
          have f0 := H6.out.own.frozen 0
          obtain ⟨o1, p1⟩ := H6.out.own.cell (j := 1) (by omega)
          have f1 := H6.out.own.frozen 1
          obtain ⟨o2, p2⟩ := H6.out.own.cell (j := 2) (by omega)
          have f2 := H6.out.own.frozen 2
          obtain ⟨o3, p3⟩ := H6.out.own.cell (j := 3) (by omega)
          have f3 := H6.out.own.frozen 3
          obtain ⟨o4, p4⟩ := H6.out.own.cell (j := 4) (by omega)
          have f4 := H6.out.own.frozen 4
          obtain ⟨o5, p5⟩ := H6.out.own.cell (j := 5) (by omega)
          have f5 := H6.out.own.frozen 5
          obtain ⟨o6, p6⟩ := H6.out.own.cell (j := 6) (by omega)
          have f6 := H6.out.own.frozen 6
          go_wp2_with fail
          exact dd_done H6.out.toDI ⟨3, (i : Int), 0, 0, 0, y, (-1)⟩ (by simp [MDeed.wf, I64] <;> omega) _ rfl rfl
        | false =>
          go_wp2_with fail
          refine (below_any B g 35 _ H5.out.cur).mono ?_
          rintro e w6 ⟨y, rfl, ⟨y0, _, y1⟩, hc, ho⟩
          have y2 := y1 (by omega)
          have H6 := Lib.hid (H5.out.next hc ho)
          clear hc ho y1
          obtain ⟨o0, p0⟩ := H6.out.own.cell (j := 0) (by omega)
          have f0 := H6.out.own.frozen 0
          obtain ⟨o1, p1⟩ := H6.out.own.cell (j := 1) (by omega)
          have f1 := H6.out.own.frozen 1
          obtain ⟨o2, p2⟩ := H6.out.own.cell (j := 2) (by omega)
          have f2 := H6.out.own.frozen 2
          obtain ⟨o3, p3⟩ := H6.out.own.cell (j := 3) (by omega)
          have f3 := H6.out.own.frozen 3
          obtain ⟨o4, p4⟩ := H6.out.own.cell (j := 4) (by omega)
          have f4 := H6.out.own.frozen 4
          obtain ⟨o5, p5⟩ := H6.out.own.cell (j := 5) (by omega)
          have f5 := H6.out.own.frozen 5
          obtain ⟨o6, p6⟩ := H6.out.own.cell (j := 6) (by omega)
          have f6 := H6.out.own.frozen 6
          go_wp2_with fail
          exact dd_done H6.out.toDI ⟨3, (i : Int), 0, 0, 0, y, v⟩ (by simp [MDeed.wf, I64] <;> omega) _ rfl rfl
      · go_wp2_with fail
        refine (below_any B g 50 _ H3.out.cur).mono ?_
        rintro e w4 ⟨v, rfl, ⟨v0, _, v1⟩, hc, ho⟩
        have v2 := v1 (by omega)
        have H4 := Lib.hid (H3.out.next hc ho)
        clear hc ho v1
        go_wp2_with fail
        refine (once_any B g 6 _ H4.out.cur).mono ?_
        rintro e w5 ⟨b, rfl, hc, ho⟩
        have H5 := Lib.hid (H4.out.next hc ho)
        clear hc ho
        cases b with
        | true =>
          go_wp2_with fail
          refine (below_any B g 35 _ H5.out.cur).mono ?_
          rintro e w6 ⟨y, rfl, ⟨y0, _, y1⟩, hc, ho⟩
          have y2 := y1 (by omega)
          have H6 := Lib.hid (H5.out.next hc ho)
          clear hc ho y1
          obtain ⟨o0, p0⟩ := H6.out.own.cell (j := 0) (by omega)
          have f0 := H6.out.own.frozen 0
          obtain ⟨o1, p1⟩ := H6.out.own.cell (j := 1) (by omega)
          have f1 := H6.out.own.frozen 1
          obtain ⟨o2, p2⟩ := H6.out.own.cell (j := 2) (by omega)
          have f2 := H6.out.own.frozen 2
          obtain ⟨o3, p3⟩ := H6.out.own.cell (j := 3) (by omega)
          have f3 := H6.out.own.frozen 3
          obtain ⟨o4, p4⟩ := H6.out.own.cell (j := 4) (by omega)
          have f4 := H6.out.own.frozen 4
          obtain ⟨o5, p5⟩ := H6.out.own.cell (j := 5) (by omega)
          have f5 := H6.out.own.frozen 5
          obtain ⟨o6, p6⟩ := H6.out.own.cell (j := 6) (by omega)
          have f6 := H6.out.own.frozen 6
          go_wp2_with fail
          exact dd_done H6.out.toDI ⟨3, (i : Int), 0, 0, 0, y, (-1)⟩ (by simp [MDeed.wf, I64] <;> omega) _ rfl rfl
        | false =>
          go_wp2_with fail
          refine (below_any B g 35 _ H5.out.cur).mono ?_
          rintro e w6 ⟨y, rfl, ⟨y0, _, y1⟩, hc, ho⟩
          have y2 := y1 (by omega)
          have H6 := Lib.hid (H5.out.next hc ho)
          clear hc ho y1
          obtain ⟨o0, p0⟩ := H6.out.own.cell (j := 0) (by omega)
          have f0 := H6.out.own.frozen 0
          obtain ⟨o1, p1⟩ := H6.out.own.cell (j := 1) (by omega)
          have f1 := H6.out.own.frozen 1
          obtain ⟨o2, p2⟩ := H6.out.own.cell (j := 2) (by omega)
          have f2 := H6.out.own.frozen 2
          obtain ⟨o3, p3⟩ := H6.out.own.cell (j := 3) (by omega)
          have f3 := H6.out.own.frozen 3
          obtain ⟨o4, p4⟩ := H6.out.own.cell (j := 4) (by omega)
          have f4 := H6.out.own.frozen 4
          obtain ⟨o5, p5⟩ := H6.out.own.cell (j := 5) (by omega)
          have f5 := H6.out.own.frozen 5
          obtain ⟨o6, p6⟩ := H6.out.own.cell (j := 6) (by omega)
          have f6 := H6.out.own.frozen 6
          go_wp2_with fail
          exact dd_done H6.out.toDI ⟨3, (i : Int), 0, 0, 0, y, v⟩ (by simp [MDeed.wf, I64] <;> omega) _ rfl rfl
      · obtain ⟨o0, p0⟩ := H3.out.own.cell (j := 0) (by omega)
        have f0 := H3.out.own.frozen 0
        obtain ⟨o1, p1⟩ := H3.out.own.cell (j := 1) (by omega)
        have f1 := H3.out.own.frozen 1
        obtain ⟨o2, p2⟩ := H3.out.own.cell (j := 2) (by omega)
        have f2 := H3.out.own.frozen 2
        obtain ⟨o3, p3⟩ := H3.out.own.cell (j := 3) (by omega)
        have f3 := H3.out.own.frozen 3
        obtain ⟨o4, p4⟩ := H3.out.own.cell (j := 4) (by omega)
        have f4 := H3.out.own.frozen 4
        obtain ⟨o5, p5⟩ := H3.out.own.cell (j := 5) (by omega)
        have f5 := H3.out.own.frozen 5
        obtain ⟨o6, p6⟩ := H3.out.own.cell (j := 6) (by omega)
        have f6 := H3.out.own.frozen 6
        go_wp2_with fail
        exact dd_done H3.out.toDI ⟨4, (i : Int), 0, 0, 0, 0, 0⟩ (by simp [MDeed.wf, I64] <;> omega) _ rfl rfl
      · go_wp2_with fail
        refine (once_any B g 5 _ H3.out.cur).mono ?_
        rintro e w4 ⟨b, rfl, hc, ho⟩
        have H4 := Lib.hid (H3.out.next hc ho)
        clear hc ho
        cases b with
        | true =>
          obtain ⟨o0, p0⟩ := H4.out.own.cell (j := 0) (by omega)
          have f0 := H4.out.own.frozen 0
          obtain ⟨o1, p1⟩ := H4.out.own.cell (j := 1) (by omega)
          have f1 := H4.out.own.frozen 1
          obtain ⟨o2, p2⟩ := H4.out.own.cell (j := 2) (by omega)
          have f2 := H4.out.own.frozen 2
          obtain ⟨o3, p3⟩ := H4.out.own.cell (j := 3) (by omega)
          have f3 := H4.out.own.frozen 3
          obtain ⟨o4, p4⟩ := H4.out.own.cell (j := 4) (by omega)
          have f4 := H4.out.own.frozen 4
          obtain ⟨o5, p5⟩ := H4.out.own.cell (j := 5) (by omega)
          have f5 := H4.out.own.frozen 5
          obtain ⟨o6, p6⟩ := H4.out.own.cell (j := 6) (by omega)
          have f6 := H4.out.own.frozen 6
          go_wp2_with fail
          exact dd_done H4.out.toDI ⟨5, (i : Int), 0, 0, 0, 0, 0⟩ (by simp [MDeed.wf, I64] <;> omega) _ rfl rfl
        | false =>
          have n8 := H4.out.j8
          go_wp2_with fail
          refine (near_nil B g none 0 _ H4.out.cur).mono ?_
          rintro e w5 ⟨z, y, rfl, hz, hc, ho⟩
          have H5 := Lib.hid (H4.out.next hc ho)
          clear hc ho
          obtain ⟨o0, p0⟩ := H5.out.own.cell (j := 0) (by omega)
          have f0 := H5.out.own.frozen 0
          obtain ⟨o1, p1⟩ := H5.out.own.cell (j := 1) (by omega)
          have f1 := H5.out.own.frozen 1
          obtain ⟨o2, p2⟩ := H5.out.own.cell (j := 2) (by omega)
          have f2 := H5.out.own.frozen 2
          obtain ⟨o3, p3⟩ := H5.out.own.cell (j := 3) (by omega)
          have f3 := H5.out.own.frozen 3
          obtain ⟨o4, p4⟩ := H5.out.own.cell (j := 4) (by omega)
          have f4 := H5.out.own.frozen 4
          obtain ⟨o5, p5⟩ := H5.out.own.cell (j := 5) (by omega)
          have f5 := H5.out.own.frozen 5
          obtain ⟨o6, p6⟩ := H5.out.own.cell (j := 6) (by omega)
          have f6 := H5.out.own.frozen 6
          go_wp2_with fail
          exact dd_done H5.out.toDI ⟨2, (i : Int), 0, z, y, 0, 0⟩ (by simp [MDeed.wf, I64] <;> omega) _ rfl rfl
      · have e0 : (q == 0) = false := by rw [beq_eq_false_iff_ne]; omega
        have e1 : (q == 1) = false := by rw [beq_eq_false_iff_ne]; omega
        have e2 : (q == 2) = false := by rw [beq_eq_false_iff_ne]; omega
        have e3 : (q == 3) = false := by rw [beq_eq_false_iff_ne]; omega
        have n8 := H3.out.j8
        go_wp2_with fail
        refine (near_nil B g none 0 _ H3.out.cur).mono ?_
        rintro e w4 ⟨z, y, rfl, hz, hc, ho⟩
        have H4 := Lib.hid (H3.out.next hc ho)
        clear hc ho
        obtain ⟨o0, p0⟩ := H4.out.own.cell (j := 0) (by omega)
        have f0 := H4.out.own.frozen 0
        obtain ⟨o1, p1⟩ := H4.out.own.cell (j := 1) (by omega)
        have f1 := H4.out.own.frozen 1
        obtain ⟨o2, p2⟩ := H4.out.own.cell (j := 2) (by omega)
        have f2 := H4.out.own.frozen 2
        obtain ⟨o3, p3⟩ := H4.out.own.cell (j := 3) (by omega)
        have f3 := H4.out.own.frozen 3
        obtain ⟨o4, p4⟩ := H4.out.own.cell (j := 4) (by omega)
        have f4 := H4.out.own.frozen 4
        obtain ⟨o5, p5⟩ := H4.out.own.cell (j := 5) (by omega)
        have f5 := H4.out.own.frozen 5
        obtain ⟨o6, p6⟩ := H4.out.own.cell (j := 6) (by omega)
        have f6 := H4.out.own.frozen 6
        go_wp2_with fail
        exact dd_done H4.out.toDI ⟨2, (i : Int), 0, z, y, 0, 0⟩ (by simp [MDeed.wf, I64] <;> omega) _ rfl rfl
  · -- 18
    have n0 := H2.out.j0
    rcases hT with rfl | rfl | rfl
    · -- idle
      obtain ⟨o0, p0⟩ := H2.out.own.cell (j := 0) (by omega)
      have f0 := H2.out.own.frozen 0
      obtain ⟨o1, p1⟩ := H2.out.own.cell (j := 1) (by omega)
      have f1 := H2.out.own.frozen 1
      obtain ⟨o2, p2⟩ := H2.out.own.cell (j := 2) (by omega)
      have f2 := H2.out.own.frozen 2
      obtain ⟨o3, p3⟩ := H2.out.own.cell (j := 3) (by omega)
      have f3 := H2.out.own.frozen 3
      obtain ⟨o4, p4⟩ := H2.out.own.cell (j := 4) (by omega)
      have f4 := H2.out.own.frozen 4
      obtain ⟨o5, p5⟩ := H2.out.own.cell (j := 5) (by omega)
      have f5 := H2.out.own.frozen 5
      obtain ⟨o6, p6⟩ := H2.out.own.cell (j := 6) (by omega)
      have f6 := H2.out.own.frozen 6
      go_wp2_with fail
      exact dd_done H2.out.toDI ⟨1, (i : Int), 0, 0, 0, 0, 0⟩ (by simp [MDeed.wf, I64] <;> omega) _ rfl rfl
    · -- begin
      go_wp2_with fail
      refine (soon_any B g 5 _ H2.out.cur (by omega)).mono ?_
      rintro e w3 ⟨z, rfl, ⟨z0, z1⟩, hc, ho⟩
      have H3 := Lib.hid (H2.out.next hc ho)
      clear hc ho
      obtain ⟨o0, p0⟩ := H3.out.own.cell (j := 0) (by omega)
      have f0 := H3.out.own.frozen 0
      obtain ⟨o1, p1⟩ := H3.out.own.cell (j := 1) (by omega)
      have f1 := H3.out.own.frozen 1
      obtain ⟨o2, p2⟩ := H3.out.own.cell (j := 2) (by omega)
      have f2 := H3.out.own.frozen 2
      obtain ⟨o3, p3⟩ := H3.out.own.cell (j := 3) (by omega)
      have f3 := H3.out.own.frozen 3
      obtain ⟨o4, p4⟩ := H3.out.own.cell (j := 4) (by omega)
      have f4 := H3.out.own.frozen 4
      obtain ⟨o5, p5⟩ := H3.out.own.cell (j := 5) (by omega)
      have f5 := H3.out.own.frozen 5
      obtain ⟨o6, p6⟩ := H3.out.own.cell (j := 6) (by omega)
      have f6 := H3.out.own.frozen 6
      go_wp2_with fail
      exact dd_done H3.out.toDI ⟨7, z, 0, 0, 0, 0, 0⟩ (by simp [MDeed.wf, I64] <;> omega) _ rfl rfl
    · -- open
      go_wp2_with fail
      refine (below_any B g 7 _ H2.out.cur).mono ?_
      rintro e w3 ⟨q, rfl, ⟨q0, _, q1⟩, hc, ho⟩
      have q2 := q1 (by omega)
      have H3 := Lib.hid (H2.out.next hc ho)
      clear hc ho q1
      rcases (show q = 0 ∨ q = 1 ∨ q = 2 ∨ q = 3 ∨ 4 ≤ q from by omega) with rfl | rfl | rfl | rfl | hq
      · go_wp2_with fail
        refine (below_any B g 50 _ H3.out.cur).mono ?_
        rintro e w4 ⟨v, rfl, ⟨v0, _, v1⟩, hc, ho⟩
        have v2 := v1 (by omega)
        have H4 := Lib.hid (H3.out.next hc ho)
        clear hc ho v1
        go_wp2_with fail
        refine (once_any B g 6 _ H4.out.cur).mono ?_
        rintro e w5 ⟨b, rfl, hc, ho⟩
        have H5 := Lib.hid (H4.out.next hc ho)
        clear hc ho
        cases b with
        | true =>
          go_wp2_with fail
          refine (below_any B g 35 _ H5.out.cur).mono ?_
          rintro e w6 ⟨y, rfl, ⟨y0, _, y1⟩, hc, ho⟩
          have y2 := y1 (by omega)
          have H6 := Lib.hid (H5.out.next hc ho)
          clear hc ho y1
          obtain ⟨o0, p0⟩ := H6.out.own.cell (j := 0) (by omega)
          have f0 := H6.out.own.frozen 0
          obtain ⟨o1, p1⟩ := H6.out.own.cell (j := 1) (by omega)
          have f1 := H6.out.own.frozen 1
          obtain ⟨o2, p2⟩ := H6.out.own.cell (j := 2) (by omega)
          have f2 := H6.out.own.frozen 2
          obtain ⟨o3, p3⟩ := H6.out.own.cell (j := 3) (by omega)
          have f3 := H6.out.own.frozen 3
          obtain ⟨o4, p4⟩ := H6.out.own.cell (j := 4) (by omega)
          have f4 := H6.out.own.frozen 4
          obtain ⟨o5, p5⟩ := H6.out.own.cell (j := 5) (by omega)
          have f5 := H6.out.own.frozen 5
          obtain ⟨o6, p6⟩ := H6.out.own.cell (j := 6) (by omega)
          have f6 := H6.out.own.frozen 6
          go_wp2_with fail
          exact dd_done H6.out.toDI ⟨3, (i : Int), 0, 0, 0, y, (-1)⟩ (by simp [MDeed.wf, I64] <;> omega) _ rfl rfl
        | false =>
          go_wp2_with fail
          refine (below_any B g 35 _ H5.out.cur).mono ?_
          rintro e w6 ⟨y, rfl, ⟨y0, _, y1⟩, hc, ho⟩
          have y2 := y1 (by omega)
          have H6 := Lib.hid (H5.out.next hc ho)
          clear hc ho y1
          obtain ⟨o0, p0⟩ := H6.out.own.cell (j := 0) (by omega)
          have f0 := H6.out.own.frozen 0
          obtain ⟨o1, p1⟩ := H6.out.own.cell (j := 1) (by omega)
          have f1 := H6.out.own.frozen 1
          obtain ⟨o2, p2⟩ := H6.out.own.cell (j := 2) (by omega)
          have f2 := H6.out.own.frozen 2
          obtain ⟨o3, p3⟩ := H6.out.own.cell (j := 3) (by omega)
          have f3 := H6.out.own.frozen 3
          obtain ⟨o4, p4⟩ := H6.out.own.cell (j := 4) (by omega)
          have f4 := H6.out.own.frozen 4
          obtain ⟨o5, p5⟩ := H6.out.own.cell (j := 5) (by omega)
          have f5 := H6.out.own.frozen 5
          obtain ⟨o6, p6⟩ := H6.out.own.cell (j := 6) (by omega)
          have f6 := H6.out.own.frozen 6
          go_wp2_with fail
          exact dd_done H6.out.toDI ⟨3, (i : Int), 0, 0, 0, y, v⟩ (by simp [MDeed.wf, I64] <;> omega) _ rfl rfl
      · go_wp2_with fail
        refine (below_any B g 50 _ H3.out.cur).mono ?_
        rintro e w4 ⟨v, rfl, ⟨v0, _, v1⟩, hc, ho⟩
        have v2 := v1 (by omega)
        have H4 := Lib.hid (H3.out.next hc ho)
        clear hc ho v1
        go_wp2_with fail
        refine (once_any B g 6 _ H4.out.cur).mono ?_
        rintro e w5 ⟨b, rfl, hc, ho⟩
        have H5 := Lib.hid (H4.out.next hc ho)
        clear hc ho
        cases b with
        | true =>
          go_wp2_with fail
          refine (below_any B g 35 _ H5.out.cur).mono ?_
          rintro e w6 ⟨y, rfl, ⟨y0, _, y1⟩, hc, ho⟩
          have y2 := y1 (by omega)
          have H6 := Lib.hid (H5.out.next hc ho)
          clear hc ho y1
          obtain ⟨o0, p0⟩ := H6.out.own.cell (j := 0) (by omega)
          have f0 := H6.out.own.frozen 0
          obtain ⟨o1, p1⟩ := H6.out.own.cell (j := 1) (by omega)
          have f1 := H6.out.own.frozen 1
          obtain ⟨o2, p2⟩ := H6.out.own.cell (j := 2) (by omega)
          have f2 := H6.out.own.frozen 2
          obtain ⟨o3, p3⟩ := H6.out.own.cell (j := 3) (by omega)
          have f3 := H6.out.own.frozen 3
          obtain ⟨o4, p4⟩ := H6.out.own.cell (j := 4) (by omega)
          have f4 := H6.out.own.frozen 4
          obtain ⟨o5, p5⟩ := H6.out.own.cell (j := 5) (by omega)
          have f5 := H6.out.own.frozen 5
          obtain ⟨o6, p6⟩ := H6.out.own.cell (j := 6) (by omega)
          have f6 := H6.out.own.frozen 6
          go_wp2_with fail
          exact dd_done H6.out.toDI ⟨3, (i : Int), 0, 0, 0, y, (-1)⟩ (by simp [MDeed.wf, I64] <;> omega) _ rfl rfl
        | false =>
          go_wp2_with fail
          refine (below_any B g 35 _ H5.out.cur).mono ?_
          rintro e w6 ⟨y, rfl, ⟨y0, _, y1⟩, hc, ho⟩
          have y2 := y1 (by omega)
          have H6 := Lib.hid (H5.out.next hc ho)
          clear hc ho y1
          obtain ⟨o0, p0⟩ := H6.out.own.cell (j := 0) (by omega)
          have f0 := H6.out.own.frozen 0
          obtain ⟨o1, p1⟩ := H6.out.own.cell (j := 1) (by omega)
          have f1 := H6.out.own.frozen 1
          obtain ⟨o2, p2⟩ := H6.out.own.cell (j := 2) (by omega)
          have f2 := H6.out.own.frozen 2
          obtain ⟨o3, p3⟩ := H6.out.own.cell (j := 3) (by omega)
          have f3 := H6.out.own.frozen 3
          obtain ⟨o4, p4⟩ := H6.out.own.cell (j := 4) (by omega)
          have f4 := H6.out.own.frozen 4
          obtain ⟨o5, p5⟩ := H6.out.own.cell (j := 5) (by omega)
          have f5 := H6.out.own.frozen 5
          obtain ⟨o6, p6⟩ := H6.out.own.cell (j := 6) (by omega)
          have f6 := H6.out.own.frozen 6
          go_wp2_with fail
          exact dd_done H6.out.toDI ⟨3, (i : Int), 0, 0, 0, y, v⟩ (by simp [MDeed.wf, I64] <;> omega) _ rfl rfl
      · obtain ⟨o0, p0⟩ := H3.out.own.cell (j := 0) (by omega)
        have f0 := H3.out.own.frozen 0
        obtain ⟨o1, p1⟩ := H3.out.own.cell (j := 1) (by omega)
        have f1 := H3.out.own.frozen 1
        obtain ⟨o2, p2⟩ := H3.out.own.cell (j := 2) (by omega)
        have f2 := H3.out.own.frozen 2
        obtain ⟨o3, p3⟩ := H3.out.own.cell (j := 3) (by omega)
        have f3 := H3.out.own.frozen 3
        obtain ⟨o4, p4⟩ := H3.out.own.cell (j := 4) (by omega)
        have f4 := H3.out.own.frozen 4
        obtain ⟨o5, p5⟩ := H3.out.own.cell (j := 5) (by omega)
        have f5 := H3.out.own.frozen 5
        obtain ⟨o6, p6⟩ := H3.out.own.cell (j := 6) (by omega)
        have f6 := H3.out.own.frozen 6
        go_wp2_with fail
        exact dd_done H3.out.toDI ⟨4, (i : Int), 0, 0, 0, 0, 0⟩ (by simp [MDeed.wf, I64] <;> omega) _ rfl rfl
      · go_wp2_with fail
        refine (once_any B g 5 _ H3.out.cur).mono ?_
        rintro e w4 ⟨b, rfl, hc, ho⟩
        have H4 := Lib.hid (H3.out.next hc ho)
        clear hc ho
        cases b with
        | true =>
          obtain ⟨o0, p0⟩ := H4.out.own.cell (j := 0) (by omega)
          have f0 := H4.out.own.frozen 0
          obtain ⟨o1, p1⟩ := H4.out.own.cell (j := 1) (by omega)
          have f1 := H4.out.own.frozen 1
          obtain ⟨o2, p2⟩ := H4.out.own.cell (j := 2) (by omega)
          have f2 := H4.out.own.frozen 2
          obtain ⟨o3, p3⟩ := H4.out.own.cell (j := 3) (by omega)
          have f3 := H4.out.own.frozen 3
          obtain ⟨o4, p4⟩ := H4.out.own.cell (j := 4) (by omega)
          have f4 := H4.out.own.frozen 4
          obtain ⟨o5, p5⟩ := H4.out.own.cell (j := 5) (by omega)
          have f5 := H4.out.own.frozen 5
          obtain ⟨o6, p6⟩ := H4.out.own.cell (j := 6) (by omega)
          have f6 := H4.out.own.frozen 6
          go_wp2_with fail
          exact dd_done H4.out.toDI ⟨5, (i : Int), 0, 0, 0, 0, 0⟩ (by simp [MDeed.wf, I64] <;> omega) _ rfl rfl
        | false =>
          have n8 := H4.out.j8
          go_wp2_with fail
          refine (near_nil B g none 0 _ H4.out.cur).mono ?_
          rintro e w5 ⟨z, y, rfl, hz, hc, ho⟩
          have H5 := Lib.hid (H4.out.next hc ho)
          clear hc ho
          obtain ⟨o0, p0⟩ := H5.out.own.cell (j := 0) (by omega)
          have f0 := H5.out.own.frozen 0
          obtain ⟨o1, p1⟩ := H5.out.own.cell (j := 1) (by omega)
          have f1 := H5.out.own.frozen 1
          obtain ⟨o2, p2⟩ := H5.out.own.cell (j := 2) (by omega)
          have f2 := H5.out.own.frozen 2
          obtain ⟨o3, p3⟩ := H5.out.own.cell (j := 3) (by omega)
          have f3 := H5.out.own.frozen 3
          obtain ⟨o4, p4⟩ := H5.out.own.cell (j := 4) (by omega)
          have f4 := H5.out.own.frozen 4
          obtain ⟨o5, p5⟩ := H5.out.own.cell (j := 5) (by omega)
          have f5 := H5.out.own.frozen 5
          obtain ⟨o6, p6⟩ := H5.out.own.cell (j := 6) (by omega)
          have f6 := H5.out.own.frozen 6
          go_wp2_with fail
          exact dd_done H5.out.toDI ⟨2, (i : Int), 0, z, y, 0, 0⟩ (by simp [MDeed.wf, I64] <;> omega) _ rfl rfl
      · have e0 : (q == 0) = false := by rw [beq_eq_false_iff_ne]; omega
        have e1 : (q == 1) = false := by rw [beq_eq_false_iff_ne]; omega
        have e2 : (q == 2) = false := by rw [beq_eq_false_iff_ne]; omega
        have e3 : (q == 3) = false := by rw [beq_eq_false_iff_ne]; omega
        have n8 := H3.out.j8
        go_wp2_with fail
        refine (near_nil B g none 0 _ H3.out.cur).mono ?_
        rintro e w4 ⟨z, y, rfl, hz, hc, ho⟩
        have H4 := Lib.hid (H3.out.next hc ho)
        clear hc ho
        obtain ⟨o0, p0⟩ := H4.out.own.cell (j := 0) (by omega)
        have f0 := H4.out.own.frozen 0
        obtain ⟨o1, p1⟩ := H4.out.own.cell (j := 1) (by omega)
        have f1 := H4.out.own.frozen 1
        obtain ⟨o2, p2⟩ := H4.out.own.cell (j := 2) (by omega)
        have f2 := H4.out.own.frozen 2
        obtain ⟨o3, p3⟩ := H4.out.own.cell (j := 3) (by omega)
        have f3 := H4.out.own.frozen 3
        obtain ⟨o4, p4⟩ := H4.out.own.cell (j := 4) (by omega)
        have f4 := H4.out.own.frozen 4
        obtain ⟨o5, p5⟩ := H4.out.own.cell (j := 5) (by omega)
        have f5 := H4.out.own.frozen 5
        obtain ⟨o6, p6⟩ := H4.out.own.cell (j := 6) (by omega)
        have f6 := H4.out.own.frozen 6
        go_wp2_with fail
        exact dd_done H4.out.toDI ⟨2, (i : Int), 0, z, y, 0, 0⟩ (by simp [MDeed.wf, I64] <;> omega) _ rfl rfl
  · -- 19
    have n0 := H2.out.j0
    rcases hT with rfl | rfl | rfl
    · -- idle
      obtain ⟨o0, p0⟩ := H2.out.own.cell (j := 0) (by omega)
      have f0 := H2.out.own.frozen 0
      obtain ⟨o1, p1⟩ := H2.out.own.cell (j := 1) (by omega)
      have f1 := H2.out.own.frozen 1
      obtain ⟨o2, p2⟩ := H2.out.own.cell (j := 2) (by omega)
      have f2 := H2.out.own.frozen 2
      obtain ⟨o3, p3⟩ := H2.out.own.cell (j := 3) (by omega)
      have f3 := H2.out.own.frozen 3
      obtain ⟨o4, p4⟩ := H2.out.own.cell (j := 4) (by omega)
      have f4 := H2.out.own.frozen 4
      obtain ⟨o5, p5⟩ := H2.out.own.cell (j := 5) (by omega)
      have f5 := H2.out.own.frozen 5
      obtain ⟨o6, p6⟩ := H2.out.own.cell (j := 6) (by omega)
      have f6 := H2.out.own.frozen 6
      go_wp2_with fail
      exact dd_done H2.out.toDI ⟨1, (i : Int), 0, 0, 0, 0, 0⟩ (by simp [MDeed.wf, I64] <;> omega) _ rfl rfl
    · -- begin
      go_wp2_with fail
      refine (soon_any B g 5 _ H2.out.cur (by omega)).mono ?_
      rintro e w3 ⟨z, rfl, ⟨z0, z1⟩, hc, ho⟩
      have H3 := Lib.hid (H2.out.next hc ho)
      clear hc ho
      obtain ⟨o0, p0⟩ := H3.out.own.cell (j := 0) (by omega)
      have f0 := H3.out.own.frozen 0
      obtain ⟨o1, p1⟩ := H3.out.own.cell (j := 1) (by omega)
      have f1 := H3.out.own.frozen 1
      obtain ⟨o2, p2⟩ := H3.out.own.cell (j := 2) (by omega)
      have f2 := H3.out.own.frozen 2
      obtain ⟨o3, p3⟩ := H3.out.own.cell (j := 3) (by omega)
      have f3 := H3.out.own.frozen 3
      obtain ⟨o4, p4⟩ := H3.out.own.cell (j := 4) (by omega)
      have f4 := H3.out.own.frozen 4
      obtain ⟨o5, p5⟩ := H3.out.own.cell (j := 5) (by omega)
      have f5 := H3.out.own.frozen 5
      obtain ⟨o6, p6⟩ := H3.out.own.cell (j := 6) (by omega)
      have f6 := H3.out.own.frozen 6
      go_wp2_with fail
      exact dd_done H3.out.toDI ⟨7, z, 0, 0, 0, 0, 0⟩ (by simp [MDeed.wf, I64] <;> omega) _ rfl rfl
    · -- open
      go_wp2_with fail
      refine (below_any B g 7 _ H2.out.cur).mono ?_
      rintro e w3 ⟨q, rfl, ⟨q0, _, q1⟩, hc, ho⟩
      have q2 := q1 (by omega)
      have H3 := Lib.hid (H2.out.next hc ho)
      clear hc ho q1
      rcases (show q = 0 ∨ q = 1 ∨ q = 2 ∨ q = 3 ∨ 4 ≤ q from by omega) with rfl | rfl | rfl | rfl | hq
      · go_wp2_with fail
        refine (below_any B g 50 _ H3.out.cur).mono ?_
        rintro e w4 ⟨v, rfl, ⟨v0, _, v1⟩, hc, ho⟩
        have v2 := v1 (by omega)
        have H4 := Lib.hid (H3.out.next hc ho)
        clear hc ho v1
        go_wp2_with fail
        refine (once_any B g 6 _ H4.out.cur).mono ?_
        rintro e w5 ⟨b, rfl, hc, ho⟩
        have H5 := Lib.hid (H4.out.next hc ho)
        clear hc ho
        cases b with
        | true =>
          go_wp2_with fail
          refine (below_any B g 35 _ H5.out.cur).mono ?_
          rintro e w6 ⟨y, rfl, ⟨y0, _, y1⟩, hc, ho⟩
          have y2 := y1 (by omega)
          have H6 := Lib.hid (H5.out.next hc ho)
          clear hc ho y1
          obtain ⟨o0, p0⟩ := H6.out.own.cell (j := 0) (by omega)
          have f0 := H6.out.own.frozen 0
          obtain ⟨o1, p1⟩ := H6.out.own.cell (j := 1) (by omega)
          have f1 := H6.out.own.frozen 1
          obtain ⟨o2, p2⟩ := H6.out.own.cell (j := 2) (by omega)
          have f2 := H6.out.own.frozen 2
          obtain ⟨o3, p3⟩ := H6.out.own.cell (j := 3) (by omega)
          have f3 := H6.out.own.frozen 3
          obtain ⟨o4, p4⟩ := H6.out.own.cell (j := 4) (by omega)
          have f4 := H6.out.own.frozen 4
          obtain ⟨o5, p5⟩ := H6.out.own.cell (j := 5) (by omega)
          have f5 := H6.out.own.frozen 5
          obtain ⟨o6, p6⟩ := H6.out.own.cell (j := 6) (by omega)
          have f6 := H6.out.own.frozen 6
          go_wp2_with fail
          exact dd_done H6.out.toDI ⟨3, (i : Int), 0, 0, 0, y, (-1)⟩ (by simp [MDeed.wf, I64] <;> omega) _ rfl rfl
        | false =>
          go_wp2_with fail
          refine (below_any B g 35 _ H5.out.cur).mono ?_
          rintro e w6 ⟨y, rfl, ⟨y0, _, y1⟩, hc, ho⟩
          have y2 := y1 (by omega)
          have H6 := Lib.hid (H5.out.next hc ho)
          clear hc ho y1
          obtain ⟨o0, p0⟩ := H6.out.own.cell (j := 0) (by omega)
          have f0 := H6.out.own.frozen 0
          obtain ⟨o1, p1⟩ := H6.out.own.cell (j := 1) (by omega)
          have f1 := H6.out.own.frozen 1
          obtain ⟨o2, p2⟩ := H6.out.own.cell (j := 2) (by omega)
          have f2 := H6.out.own.frozen 2
          obtain ⟨o3, p3⟩ := H6.out.own.cell (j := 3) (by omega)
          have f3 := H6.out.own.frozen 3
          obtain ⟨o4, p4⟩ := H6.out.own.cell (j := 4) (by omega)
          have f4 := H6.out.own.frozen 4
          obtain ⟨o5, p5⟩ := H6.out.own.cell (j := 5) (by omega)
          have f5 := H6.out.own.frozen 5
          obtain ⟨o6, p6⟩ := H6.out.own.cell (j := 6) (by omega)
          have f6 := H6.out.own.frozen 6
          go_wp2_with fail
          exact dd_done H6.out.toDI ⟨3, (i : Int), 0, 0, 0, y, v⟩ (by simp [MDeed.wf, I64] <;> omega) _ rfl rfl
      · go_wp2_with fail
        refine (below_any B g 50 _ H3.out.cur).mono ?_
        rintro e w4 ⟨v, rfl, ⟨v0, _, v1⟩, hc, ho⟩
        have v2 := v1 (by omega)
        have H4 := Lib.hid (H3.out.next hc ho)
        clear hc ho v1
        go_wp2_with fail
        refine (once_any B g 6 _ H4.out.cur).mono ?_
        rintro e w5 ⟨b, rfl, hc, ho⟩
        have H5 := Lib.hid (H4.out.next hc ho)
        clear hc ho
        cases b with
        | true =>
          go_wp2_with fail
          refine (below_any B g 35 _ H5.out.cur).mono ?_
          rintro e w6 ⟨y, rfl, ⟨y0, _, y1⟩, hc, ho⟩
          have y2 := y1 (by omega)
          have H6 := Lib.hid (H5.out.next hc ho)
          clear hc ho y1
          obtain ⟨o0, p0⟩ := H6.out.own.cell (j := 0) (by omega)
          have f0 := H6.out.own.frozen 0
          obtain ⟨o1, p1⟩ := H6.out.own.cell (j := 1) (by omega)
          have f1 := H6.out.own.frozen 1
          obtain ⟨o2, p2⟩ := H6.out.own.cell (j := 2) (by omega)
          have f2 := H6.out.own.frozen 2
          obtain ⟨o3, p3⟩ := H6.out.own.cell (j := 3) (by omega)
          have f3 := H6.out.own.frozen 3
          obtain ⟨o4, p4⟩ := H6.out.own.cell (j := 4) (by omega)
          have f4 := H6.out.own.frozen 4
          obtain ⟨o5, p5⟩ := H6.out.own.cell (j := 5) (by omega)
          have f5 := H6.out.own.frozen 5
          obtain ⟨o6, p6⟩ := H6.out.own.cell (j := 6) (by omega)
          have f6 := H6.out.own.frozen 6
          go_wp2_with fail
          exact dd_done H6.out.toDI ⟨3, (i : Int), 0, 0, 0, y, (-1)⟩ (by simp [MDeed.wf, I64] <;> omega) _ rfl rfl
        | false =>
          go_wp2_with fail
          refine (below_any B g 35 _ H5.out.cur).mono ?_
          rintro e w6 ⟨y, rfl, ⟨y0, _, y1⟩, hc, ho⟩
          have y2 := y1 (by omega)
          have H6 := Lib.hid (H5.out.next hc ho)
          clear hc ho y1
          obtain ⟨o0, p0⟩ := H6.out.own.cell (j := 0) (by omega)
          have f0 := H6.out.own.frozen 0
          obtain ⟨o1, p1⟩ := H6.out.own.cell (j := 1) (by omega)
          have f1 := H6.out.own.frozen 1
          obtain ⟨o2, p2⟩ := H6.out.own.cell (j := 2) (by omega)
          have f2 := H6.out.own.frozen 2
          obtain ⟨o3, p3⟩ := H6.out.own.cell (j := 3) (by omega)
          have f3 := H6.out.own.frozen 3
          obtain ⟨o4, p4⟩ := H6.out.own.cell (j := 4) (by omega)
          have f4 := H6.out.own.frozen 4
          obtain ⟨o5, p5⟩ := H6.out.own.cell (j := 5) (by omega)
          have f5 := H6.out.own.frozen 5
          obtain ⟨o6, p6⟩ := H6.out.own.cell (j := 6) (by omega)
          have f6 := H6.out.own.frozen 6
          go_wp2_with fail
          exact dd_done H6.out.toDI ⟨3, (i : Int), 0, 0, 0, y, v⟩ (by simp [MDeed.wf, I64] <;> omega) _ rfl rfl
      · obtain ⟨o0, p0⟩ := H3.out.own.cell (j := 0) (by omega)
        have f0 := H3.out.own.frozen 0
        obtain ⟨o1, p1⟩ := H3.out.own.cell (j := 1) (by omega)
        have f1 := H3.out.own.frozen 1
        obtain ⟨o2, p2⟩ := H3.out.own.cell (j := 2) (by omega)
        have f2 := H3.out.own.frozen 2
        obtain ⟨o3, p3⟩ := H3.out.own.cell (j := 3) (by omega)
        have f3 := H3.out.own.frozen 3
        obtain ⟨o4, p4⟩ := H3.out.own.cell (j := 4) (by omega)
        have f4 := H3.out.own.frozen 4
        obtain ⟨o5, p5⟩ := H3.out.own.cell (j := 5) (by omega)
        have f5 := H3.out.own.frozen 5
        obtain ⟨o6, p6⟩ := H3.out.own.cell (j := 6) (by omega)
        have f6 := H3.out.own.frozen 6
        go_wp2_with fail
        exact dd_done H3.out.toDI ⟨4, (i : Int), 0, 0, 0, 0, 0⟩ (by simp [MDeed.wf, I64] <;> omega) _ rfl rfl
      · go_wp2_with fail
        refine (once_any B g 5 _ H3.out.cur).mono ?_
        rintro e w4 ⟨b, rfl, hc, ho⟩
        have H4 := Lib.hid (H3.out.next hc ho)
        clear hc ho
        cases b with
        | true =>
          obtain ⟨o0, p0⟩ := H4.out.own.cell (j := 0) (by omega)
          have f0 := H4.out.own.frozen 0
          obtain ⟨o1, p1⟩ := H4.out.own.cell (j := 1) (by omega)
          have f1 := H4.out.own.frozen 1
          obtain ⟨o2, p2⟩ := H4.out.own.cell (j := 2) (by omega)
          have f2 := H4.out.own.frozen 2
          obtain ⟨o3, p3⟩ := H4.out.own.cell (j := 3) (by omega)
          have f3 := H4.out.own.frozen 3
          obtain ⟨o4, p4⟩ := H4.out.own.cell (j := 4) (by omega)
          have f4 := H4.out.own.frozen 4
          obtain ⟨o5, p5⟩ := H4.out.own.cell (j := 5) (by omega)
          have f5 := H4.out.own.frozen 5
          obtain ⟨o6, p6⟩ := H4.out.own.cell (j := 6) (by omega)
          have f6 := H4.out.own.frozen 6
          go_wp2_with fail
          exact dd_done H4.out.toDI ⟨5, (i : Int), 0, 0, 0, 0, 0⟩ (by simp [MDeed.wf, I64] <;> omega) _ rfl rfl
        | false =>
          have n8 := H4.out.j8
          go_wp2_with fail
          refine (near_nil B g none 0 _ H4.out.cur).mono ?_
          rintro e w5 ⟨z, y, rfl, hz, hc, ho⟩
          have H5 := Lib.hid (H4.out.next hc ho)
          clear hc ho
          obtain ⟨o0, p0⟩ := H5.out.own.cell (j := 0) (by omega)
          have f0 := H5.out.own.frozen 0
          obtain ⟨o1, p1⟩ := H5.out.own.cell (j := 1) (by omega)
          have f1 := H5.out.own.frozen 1
          obtain ⟨o2, p2⟩ := H5.out.own.cell (j := 2) (by omega)
          have f2 := H5.out.own.frozen 2
          obtain ⟨o3, p3⟩ := H5.out.own.cell (j := 3) (by omega)
          have f3 := H5.out.own.frozen 3
          obtain ⟨o4, p4⟩ := H5.out.own.cell (j := 4) (by omega)
          have f4 := H5.out.own.frozen 4
          obtain ⟨o5, p5⟩ := H5.out.own.cell (j := 5) (by omega)
          have f5 := H5.out.own.frozen 5
          obtain ⟨o6, p6⟩ := H5.out.own.cell (j := 6) (by omega)
          have f6 := H5.out.own.frozen 6
          go_wp2_with fail
          exact dd_done H5.out.toDI ⟨2, (i : Int), 0, z, y, 0, 0⟩ (by simp [MDeed.wf, I64] <;> omega) _ rfl rfl
      · have e0 : (q == 0) = false := by rw [beq_eq_false_iff_ne]; omega
        have e1 : (q == 1) = false := by rw [beq_eq_false_iff_ne]; omega
        have e2 : (q == 2) = false := by rw [beq_eq_false_iff_ne]; omega
        have e3 : (q == 3) = false := by rw [beq_eq_false_iff_ne]; omega
        have n8 := H3.out.j8
        go_wp2_with fail
        refine (near_nil B g none 0 _ H3.out.cur).mono ?_
        rintro e w4 ⟨z, y, rfl, hz, hc, ho⟩
        have H4 := Lib.hid (H3.out.next hc ho)
        clear hc ho
        obtain ⟨o0, p0⟩ := H4.out.own.cell (j := 0) (by omega)
        have f0 := H4.out.own.frozen 0
        obtain ⟨o1, p1⟩ := H4.out.own.cell (j := 1) (by omega)
        have f1 := H4.out.own.frozen 1
        obtain ⟨o2, p2⟩ := H4.out.own.cell (j := 2) (by omega)
        have f2 := H4.out.own.frozen 2
        obtain ⟨o3, p3⟩ := H4.out.own.cell (j := 3) (by omega)
        have f3 := H4.out.own.frozen 3
        obtain ⟨o4, p4⟩ := H4.out.own.cell (j := 4) (by omega)
        have f4 := H4.out.own.frozen 4
        obtain ⟨o5, p5⟩ := H4.out.own.cell (j := 5) (by omega)
        have f5 := H4.out.own.frozen 5
        obtain ⟨o6, p6⟩ := H4.out.own.cell (j := 6) (by omega)
        have f6 := H4.out.own.frozen 6
        go_wp2_with fail
        exact dd_done H4.out.toDI ⟨2, (i : Int), 0, z, y, 0, 0⟩ (by simp [MDeed.wf, I64] <;> omega) _ rfl rfl
  · -- 20
    have n0 := H2.out.j0
    rcases hT with rfl | rfl | rfl
    · -- idle
      obtain ⟨o0, p0⟩ := H2.out.own.cell (j := 0) (by omega)
      have f0 := H2.out.own.frozen 0
      obtain ⟨o1, p1⟩ := H2.out.own.cell (j := 1) (by omega)
      have f1 := H2.out.own.frozen 1
      obtain ⟨o2, p2⟩ := H2.out.own.cell (j := 2) (by omega)
      have f2 := H2.out.own.frozen 2
      obtain ⟨o3, p3⟩ := H2.out.own.cell (j := 3) (by omega)
      have f3 := H2.out.own.frozen 3
      obtain ⟨o4, p4⟩ := H2.out.own.cell (j := 4) (by omega)
      have f4 := H2.out.own.frozen 4
      obtain ⟨o5, p5⟩ := H2.out.own.cell (j := 5) (by omega)
      have f5 := H2.out.own.frozen 5
      obtain ⟨o6, p6⟩ := H2.out.own.cell (j := 6) (by omega)
      have f6 := H2.out.own.frozen 6
      go_wp2_with fail
      exact dd_done H2.out.toDI ⟨1, (i : Int), 0, 0, 0, 0, 0⟩ (by simp [MDeed.wf, I64] <;> omega) _ rfl rfl
    · -- begin
      go_wp2_with fail
      refine (soon_any B g 5 _ H2.out.cur (by omega)).mono ?_
      rintro e w3 ⟨z, rfl, ⟨z0, z1⟩, hc, ho⟩
      have H3 := Lib.hid (H2.out.next hc ho)
      clear hc ho
      obtain ⟨o0, p0⟩ := H3.out.own.cell (j := 0) (by omega)
      have f0 := H3.out.own.frozen 0
      obtain ⟨o1, p1⟩ := H3.out.own.cell (j := 1) (by omega)
      have f1 := H3.out.own.frozen 1
      obtain ⟨o2, p2⟩ := H3.out.own.cell (j := 2) (by omega)
      have f2 := H3.out.own.frozen 2
      obtain ⟨o3, p3⟩ := H3.out.own.cell (j := 3) (by omega)
      have f3 := H3.out.own.frozen 3
      obtain ⟨o4, p4⟩ := H3.out.own.cell (j := 4) (by omega)
      have f4 := H3.out.own.frozen 4
      obtain ⟨o5, p5⟩ := H3.out.own.cell (j := 5) (by omega)
      have f5 := H3.out.own.frozen 5
      obtain ⟨o6, p6⟩ := H3.out.own.cell (j := 6) (by omega)
      have f6 := H3.out.own.frozen 6
      go_wp2_with fail
      exact dd_done H3.out.toDI ⟨7, z, 0, 0, 0, 0, 0⟩ (by simp [MDeed.wf, I64] <;> omega) _ rfl rfl
    · -- open
      go_wp2_with fail
      refine (below_any B g 7 _ H2.out.cur).mono ?_
      rintro e w3 ⟨q, rfl, ⟨q0, _, q1⟩, hc, ho⟩
      have q2 := q1 (by omega)
      have H3 := Lib.hid (H2.out.next hc ho)
      clear hc ho q1
      rcases (show q = 0 ∨ q = 1 ∨ q = 2 ∨ q = 3 ∨ 4 ≤ q from by omega) with rfl | rfl | rfl | rfl | hq
      · go_wp2_with fail
        refine (below_any B g 50 _ H3.out.cur).mono ?_
        rintro e w4 ⟨v, rfl, ⟨v0, _, v1⟩, hc, ho⟩
        have v2 := v1 (by omega)
        have H4 := Lib.hid (H3.out.next hc ho)
        clear hc ho v1
        go_wp2_with fail
        refine (once_any B g 6 _ H4.out.cur).mono ?_
        rintro e w5 ⟨b, rfl, hc, ho⟩
        have H5 := Lib.hid (H4.out.next hc ho)
        clear hc ho
        cases b with
        | true =>
          go_wp2_with fail
          refine (below_any B g 35 _ H5.out.cur).mono ?_
          rintro e w6 ⟨y, rfl, ⟨y0, _, y1⟩, hc, ho⟩
          have y2 := y1 (by omega)
          have H6 := Lib.hid (H5.out.next hc ho)
          clear hc ho y1
          obtain ⟨o0, p0⟩ := H6.out.own.cell (j := 0) (by omega)
          have f0 := H6.out.own.frozen 0
          obtain ⟨o1, p1⟩ := H6.out.own.cell (j := 1) (by omega)
          have f1 := H6.out.own.frozen 1
          obtain ⟨o2, p2⟩ := H6.out.own.cell (j := 2) (by omega)
          have f2 := H6.out.own.frozen 2
          obtain ⟨o3, p3⟩ := H6.out.own.cell (j := 3) (by omega)
          have f3 := H6.out.own.frozen 3
          obtain ⟨o4, p4⟩ := H6.out.own.cell (j := 4) (by omega)
          have f4 := H6.out.own.frozen 4
          obtain ⟨o5, p5⟩ := H6.out.own.cell (j := 5) (by omega)
          have f5 := H6.out.own.frozen 5
          obtain ⟨o6, p6⟩ := H6.out.own.cell (j := 6) (by omega)
          have f6 := H6.out.own.frozen 6
          go_wp2_with fail
          exact dd_done H6.out.toDI ⟨3, (i : Int), 0, 0, 0, y, (-1)⟩ (by simp [MDeed.wf, I64] <;> omega) _ rfl rfl
        | false =>
          go_wp2_with fail
          refine (below_any B g 35 _ H5.out.cur).mono ?_
          rintro e w6 ⟨y, rfl, ⟨y0, _, y1⟩, hc, ho⟩
          have y2 := y1 (by omega)
          have H6 := Lib.hid (H5.out.next hc ho)
          clear hc ho y1
          obtain ⟨o0, p0⟩ := H6.out.own.cell (j := 0) (by omega)
          have f0 := H6.out.own.frozen 0
          obtain ⟨o1, p1⟩ := H6.out.own.cell (j := 1) (by omega)
          have f1 := H6.out.own.frozen 1
          obtain ⟨o2, p2⟩ := H6.out.own.cell (j := 2) (by omega)
          have f2 := H6.out.own.frozen 2
          obtain ⟨o3, p3⟩ := H6.out.own.cell (j := 3) (by omega)
          have f3 := H6.out.own.frozen 3
          obtain ⟨o4, p4⟩ := H6.out.own.cell (j := 4) (by omega)
          have f4 := H6.out.own.frozen 4
          obtain ⟨o5, p5⟩ := H6.out.own.cell (j := 5) (by omega)
          have f5 := H6.out.own.frozen 5
          obtain ⟨o6, p6⟩ := H6.out.own.cell (j := 6) (by omega)
          have f6 := H6.out.own.frozen 6
          go_wp2_with fail
          exact dd_done H6.out.toDI ⟨3, (i : Int), 0, 0, 0, y, v⟩ (by simp [MDeed.wf, I64] <;> omega) _ rfl rfl
      · go_wp2_with fail
        refine (below_any B g 50 _ H3.out.cur).mono ?_
        rintro e w4 ⟨v, rfl, ⟨v0, _, v1⟩, hc, ho⟩
        have v2 := v1 (by omega)
        have H4 := Lib.hid (H3.out.next hc ho)
        clear hc ho v1
        go_wp2_with fail
        refine (once_any B g 6 _ H4.out.cur).mono ?_
        rintro e w5 ⟨b, rfl, hc, ho⟩
        have H5 := Lib.hid (H4.out.next hc ho)
        clear hc ho
        cases b with
        | true =>
          go_wp2_with fail
          refine (below_any B g 35 _ H5.out.cur).mono ?_
          rintro e w6 ⟨y, rfl, ⟨y0, _, y1⟩, hc, ho⟩
          have y2 := y1 (by omega)
          have H6 := Lib.hid (H5.out.next hc ho)
          clear hc ho y1
          obtain ⟨o0, p0⟩ := H6.out.own.cell (j := 0) (by omega)
          have f0 := H6.out.own.frozen 0
          obtain ⟨o1, p1⟩ := H6.out.own.cell (j := 1) (by omega)
          have f1 := H6.out.own.frozen 1
          obtain ⟨o2, p2⟩ := H6.out.own.cell (j := 2) (by omega)
          have f2 := H6.out.own.frozen 2
          obtain ⟨o3, p3⟩ := H6.out.own.cell (j := 3) (by omega)
          have f3 := H6.out.own.frozen 3
          obtain ⟨o4, p4⟩ := H6.out.own.cell (j := 4) (by omega)
          have f4 := H6.out.own.frozen 4
          obtain ⟨o5, p5⟩ := H6.out.own.cell (j := 5) (by omega)
          have f5 := H6.out.own.frozen 5
          obtain ⟨o6, p6⟩ := H6.out.own.cell (j := 6) (by omega)
          have f6 := H6.out.own.frozen 6
          go_wp2_with fail
          exact dd_done H6.out.toDI ⟨3, (i : Int), 0, 0, 0, y, (-1)⟩ (by simp [MDeed.wf, I64] <;> omega) _ rfl rfl
        | false =>
          go_wp2_with fail
          refine (below_any B g 35 _ H5.out.cur).mono ?_
          rintro e w6 ⟨y, rfl, ⟨y0, _, y1⟩, hc, ho⟩
          have y2 := y1 (by omega)
          have H6 := Lib.hid (H5.out.next hc ho)
          clear hc ho y1
          obtain ⟨o0, p0⟩ := H6.out.own.cell (j := 0) (by omega)
          have f0 := H6.out.own.frozen 0
          obtain ⟨o1, p1⟩ := H6.out.own.cell (j := 1) (by omega)
          have f1 := H6.out.own.frozen 1
          obtain ⟨o2, p2⟩ := H6.out.own.cell (j := 2) (by omega)
          have f2 := H6.out.own.frozen 2
          obtain ⟨o3, p3⟩ := H6.out.own.cell (j := 3) (by omega)
          have f3 := H6.out.own.frozen 3
          obtain ⟨o4, p4⟩ := H6.out.own.cell (j := 4) (by omega)
          have f4 := H6.out.own.frozen 4
          obtain ⟨o5, p5⟩ := H6.out.own.cell (j := 5) (by omega)
          have f5 := H6.out.own.frozen 5
          obtain ⟨o6, p6⟩ := H6.out.own.cell (j := 6) (by omega)
          have f6 := H6.out.own.frozen 6
          go_wp2_with fail
          exact dd_done H6.out.toDI ⟨3, (i : Int), 0, 0, 0, y, v⟩ (by simp [MDeed.wf, I64] <;> omega) _ rfl rfl
      · obtain ⟨o0, p0⟩ := H3.out.own.cell (j := 0) (by omega)
        have f0 := H3.out.own.frozen 0
        obtain ⟨o1, p1⟩ := H3.out.own.cell (j := 1) (by omega)
        have f1 := H3.out.own.frozen 1
        obtain ⟨o2, p2⟩ := H3.out.own.cell (j := 2) (by omega)
        have f2 := H3.out.own.frozen 2
        obtain ⟨o3, p3⟩ := H3.out.own.cell (j := 3) (by omega)
        have f3 := H3.out.own.frozen 3
        obtain ⟨o4, p4⟩ := H3.out.own.cell (j := 4) (by omega)
        have f4 := H3.out.own.frozen 4
        obtain ⟨o5, p5⟩ := H3.out.own.cell (j := 5) (by omega)
        have f5 := H3.out.own.frozen 5
        obtain ⟨o6, p6⟩ := H3.out.own.cell (j := 6) (by omega)
        have f6 := H3.out.own.frozen 6
        go_wp2_with fail
        exact dd_done H3.out.toDI ⟨4, (i : Int), 0, 0, 0, 0, 0⟩ (by simp [MDeed.wf, I64] <;> omega) _ rfl rfl
      · go_wp2_with fail
        refine (once_any B g 5 _ H3.out.cur).mono ?_
        rintro e w4 ⟨b, rfl, hc, ho⟩
        have H4 := Lib.hid (H3.out.next hc ho)
        clear hc ho
        cases b with
        | true =>
          obtain ⟨o0, p0⟩ := H4.out.own.cell (j := 0) (by omega)
          have f0 := H4.out.own.frozen 0
          obtain ⟨o1, p1⟩ := H4.out.own.cell (j := 1) (by omega)
          have f1 := H4.out.own.frozen 1
          obtain ⟨o2, p2⟩ := H4.out.own.cell (j := 2) (by omega)
          have f2 := H4.out.own.frozen 2
          obtain ⟨o3, p3⟩ := H4.out.own.cell (j := 3) (by omega)
          have f3 := H4.out.own.frozen 3
          obtain ⟨o4, p4⟩ := H4.out.own.cell (j := 4) (by omega)
          have f4 := H4.out.own.frozen 4
          obtain ⟨o5, p5⟩ := H4.out.own.cell (j := 5) (by omega)
          have f5 := H4.out.own.frozen 5
          obtain ⟨o6, p6⟩ := H4.out.own.cell (j := 6) (by omega)
          have f6 := H4.out.own.frozen 6
          go_wp2_with fail
          exact dd_done H4.out.toDI ⟨5, (i : Int), 0, 0, 0, 0, 0⟩ (by simp [MDeed.wf, I64] <;> omega) _ rfl rfl
        | false =>
          have n8 := H4.out.j8
          go_wp2_with fail
          refine (near_nil B g none 0 _ H4.out.cur).mono ?_
          rintro e w5 ⟨z, y, rfl, hz, hc, ho⟩
          have H5 := Lib.hid (H4.out.next hc ho)
          clear hc ho
          obtain ⟨o0, p0⟩ := H5.out.own.cell (j := 0) (by omega)
          have f0 := H5.out.own.frozen 0
          obtain ⟨o1, p1⟩ := H5.out.own.cell (j := 1) (by omega)
          have f1 := H5.out.own.frozen 1
          obtain ⟨o2, p2⟩ := H5.out.own.cell (j := 2) (by omega)
          have f2 := H5.out.own.frozen 2
          obtain ⟨o3, p3⟩ := H5.out.own.cell (j := 3) (by omega)
          have f3 := H5.out.own.frozen 3
          obtain ⟨o4, p4⟩ := H5.out.own.cell (j := 4) (by omega)
          have f4 := H5.out.own.frozen 4
          obtain ⟨o5, p5⟩ := H5.out.own.cell (j := 5) (by omega)
          have f5 := H5.out.own.frozen 5
          obtain ⟨o6, p6⟩ := H5.out.own.cell (j := 6) (by omega)
          have f6 := H5.out.own.frozen 6
          go_wp2_with fail
          exact dd_done H5.out.toDI ⟨2, (i : Int), 0, z, y, 0, 0⟩ (by simp [MDeed.wf, I64] <;> omega) _ rfl rfl
      · have e0 : (q == 0) = false := by rw [beq_eq_false_iff_ne]; omega
        have e1 : (q == 1) = false := by rw [beq_eq_false_iff_ne]; omega
        have e2 : (q == 2) = false := by rw [beq_eq_false_iff_ne]; omega
        have e3 : (q == 3) = false := by rw [beq_eq_false_iff_ne]; omega
        have n8 := H3.out.j8
        go_wp2_with fail
        refine (near_nil B g none 0 _ H3.out.cur).mono ?_
        rintro e w4 ⟨z, y, rfl, hz, hc, ho⟩
        have H4 := Lib.hid (H3.out.next hc ho)
        clear hc ho
        obtain ⟨o0, p0⟩ := H4.out.own.cell (j := 0) (by omega)
        have f0 := H4.out.own.frozen 0
        obtain ⟨o1, p1⟩ := H4.out.own.cell (j := 1) (by omega)
        have f1 := H4.out.own.frozen 1
        obtain ⟨o2, p2⟩ := H4.out.own.cell (j := 2) (by omega)
        have f2 := H4.out.own.frozen 2
        obtain ⟨o3, p3⟩ := H4.out.own.cell (j := 3) (by omega)
        have f3 := H4.out.own.frozen 3
        obtain ⟨o4, p4⟩ := H4.out.own.cell (j := 4) (by omega)
        have f4 := H4.out.own.frozen 4
        obtain ⟨o5, p5⟩ := H4.out.own.cell (j := 5) (by omega)
        have f5 := H4.out.own.frozen 5
        obtain ⟨o6, p6⟩ := H4.out.own.cell (j := 6) (by omega)
        have f6 := H4.out.own.frozen 6
        go_wp2_with fail
        exact dd_done H4.out.toDI ⟨2, (i : Int), 0, z, y, 0, 0⟩ (by simp [MDeed.wf, I64] <;> omega) _ rfl rfl
  · -- the rest
    have e0 : (r == 0) = false := by rw [beq_eq_false_iff_ne]; omega
    have e1 : (r == 1) = false := by rw [beq_eq_false_iff_ne]; omega
    have e2 : (r == 2) = false := by rw [beq_eq_false_iff_ne]; omega
    have e3 : (r == 3) = false := by rw [beq_eq_false_iff_ne]; omega
    have e4 : (r == 4) = false := by rw [beq_eq_false_iff_ne]; omega
    have e5 : (r == 5) = false := by rw [beq_eq_false_iff_ne]; omega
    have e6 : (r == 6) = false := by rw [beq_eq_false_iff_ne]; omega
    have e7 : (r == 7) = false := by rw [beq_eq_false_iff_ne]; omega
    have e8 : (r == 8) = false := by rw [beq_eq_false_iff_ne]; omega
    have e9 : (r == 9) = false := by rw [beq_eq_false_iff_ne]; omega
    have e10 : (r == 10) = false := by rw [beq_eq_false_iff_ne]; omega
    have e11 : (r == 11) = false := by rw [beq_eq_false_iff_ne]; omega
    have e12 : (r == 12) = false := by rw [beq_eq_false_iff_ne]; omega
    have e13 : (r == 13) = false := by rw [beq_eq_false_iff_ne]; omega
    have e14 : (r == 14) = false := by rw [beq_eq_false_iff_ne]; omega
    have e15 : (r == 15) = false := by rw [beq_eq_false_iff_ne]; omega
    have e16 : (r == 16) = false := by rw [beq_eq_false_iff_ne]; omega
    have e17 : (r == 17) = false := by rw [beq_eq_false_iff_ne]; omega
    have e18 : (r == 18) = false := by rw [beq_eq_false_iff_ne]; omega
    have e19 : (r == 19) = false := by rw [beq_eq_false_iff_ne]; omega
    have e20 : (r == 20) = false := by rw [beq_eq_false_iff_ne]; omega
    go_wp2_with fail
    refine (soon_any B g 5 _ H2.out.cur (by omega)).mono ?_
    rintro e w3 ⟨z, rfl, ⟨z0, z1⟩, hc, ho⟩
    have H3 := Lib.hid (H2.out.next hc ho)
    clear hc ho
    obtain ⟨o0, p0⟩ := H3.out.own.cell (j := 0) (by omega)
    have f0 := H3.out.own.frozen 0
    obtain ⟨o1, p1⟩ := H3.out.own.cell (j := 1) (by omega)
    have f1 := H3.out.own.frozen 1
    obtain ⟨o2, p2⟩ := H3.out.own.cell (j := 2) (by omega)
    have f2 := H3.out.own.frozen 2
    obtain ⟨o3, p3⟩ := H3.out.own.cell (j := 3) (by omega)
    have f3 := H3.out.own.frozen 3
    obtain ⟨o4, p4⟩ := H3.out.own.cell (j := 4) (by omega)
    have f4 := H3.out.own.frozen 4
    obtain ⟨o5, p5⟩ := H3.out.own.cell (j := 5) (by omega)
    have f5 := H3.out.own.frozen 5
    obtain ⟨o6, p6⟩ := H3.out.own.cell (j := 6) (by omega)
    have f6 := H3.out.own.frozen 6
    go_wp2_with fail
    exact dd_done H3.out.toDI ⟨7, z, 0, 0, 0, 0, 0⟩ (by simp [MDeed.wf, I64] <;> omega) _ rfl rfl
end Go.Proofs.YtdejncnjaebjfaaDoor
