/-
  l16SpoilDeed of the reference: some deed, whatever is drawn.
-/
import Derived.Test.YtdejncnjaebjfaaDoorDr2
namespace Go.Proofs.YtdejncnjaebjfaaDoor
set_option linter.unusedVariables false
set_option linter.unusedSimpArgs false
open Go.ChangeShapes Go.WideShapes Go.ChangeAt Go.RowKit

/-- where the function stands: b is the deed's box, b + 1 the deed that comes out -/
structure DK (B g b : Nat) (x : MDeed) (w0 W : World) : Prop where
  cur : CurAt B W g
  only : Only g w0 W
  gb : g < b
  Bb : B ≤ b
  w0b : w0.heap.size ≤ b
  own : Own W (b + 1) 23 7
  own0 : Own W b 23 7
  row : CellsAt W b 0 (drow x)
theorem DK.next {B g b : Nat} {x : MDeed} {w0 W W' : World} (h : DK B g b x w0 W) (hc : CurAt B W' g) (ho : Only g W W') : DK B g b x w0 W' := by
  have hg := h.gb
  have hl := h.own.lt
  refine ⟨hc, h.only.trans ho, hg, h.Bb, h.w0b, h.own.keep (ho.block _ hl (by intro e; injection e with e; omega)), h.own0.keep (ho.block _ (by omega) (by intro e; injection e with e; omega)), fun j u hu => ?_⟩
  exact (World.cell?_of_block (a := ⟨b, 0 + j, none⟩) (ho.block b (by omega) (by intro e; injection e with e; omega))).trans (h.row j u hu)
theorem DK.start {B g : Nat} {x : MDeed} {w0 : World} (hc : CurAt B w0 g) : DK B g w0.heap.size x w0 ((w0.alloc (.cells (drow x).toArray 23)).alloc (.cells #[.int .i64 0, .int .i64 0, .int .i64 0, .int .i64 0, .int .i64 0, .int .i64 0, .int .i64 0] 23)) := by
  have hb : Below w0.heap.size w0 ((w0.alloc (.cells (drow x).toArray 23)).alloc (.cells #[.int .i64 0, .int .i64 0, .int .i64 0, .int .i64 0, .int .i64 0, .int .i64 0, .int .i64 0] 23)) := ((Below.refl _ _).alloc (Nat.le_refl _) _).alloc (by simp) _
  have hs : (w0.alloc (.cells (drow x).toArray 23)).heap.size = w0.heap.size + 1 := by simp
  have ho := Own.new (w0.alloc (.cells (drow x).toArray 23)) 23 #[.int .i64 0, .int .i64 0, .int .i64 0, .int .i64 0, .int .i64 0, .int .i64 0, .int .i64 0]
  rw [hs] at ho
  have hb2 := (Below.refl (w0.alloc (.cells (drow x).toArray 23)).heap.size (w0.alloc (.cells (drow x).toArray 23))).alloc (Nat.le_refl _) (.cells #[.int .i64 0, .int .i64 0, .int .i64 0, .int .i64 0, .int .i64 0, .int .i64 0, .int .i64 0] 23)
  have ho1 := (Own.new w0 23 (drow x).toArray).call hb2
  refine ⟨hc.below hb, Only.of_below hb, hc.lt, by have := hc.1; have := hc.lt; omega, Nat.le_refl _, ho, ho1, fun j u hu => ?_⟩
  rw [Nat.zero_add]
  exact (hb2.cell (p := ⟨w0.heap.size, j, none⟩) (by simp)).trans (alloc_cell _ _ _ _ _ (by simpa using hu))
/-- how each way ends -/
theorem dk_done {B g b : Nat} {x0 : MDeed} {w0 W V : World} (h : DK B g b x0 w0 W) (hV : Only b W V) (x : MDeed) (hx : x.wf) (hO : Own V (b + 1) 23 7) (a : Act) (hd : a.defers = []) (ha : a.tmps[4]? = some (.pointer (some ⟨b + 1, 0, none⟩))) :
    bodyPost Tryd.prog Tryd.f60 (DrawnD B g w0) Exit.ret a (setRow V (b + 1) 0 (drow x)) := by
  have hc := setRow_cells (drow x) V 0 hO (by simp [drow])
  have hon := setRow_only (b + 1) (drow x) V 0
  have hg := h.gb
  have hB := h.Bb
  have hw := h.w0b
  have hl := h.own.lt
  have hcur := (h.cur.only hV (by omega) (by omega)).only hon (by omega) (by omega)
  have c0 := hc 0 _ rfl
  have c1 := hc 1 _ rfl
  have c2 := hc 2 _ rfl
  have c3 := hc 3 _ rfl
  have c4 := hc 4 _ rfl
  have c5 := hc 5 _ rfl
  have c6 := hc 6 _ rfl
  have hsz := hon.size
  generalize setRow V (b + 1) 0 (drow x) = U at *
  simp only [Nat.zero_add] at c0 c1 c2 c3 c4 c5 c6
  refine bodyPost_ret (v := dval x) ?_ hd ⟨x, rfl, hx, hcur, ?_⟩
  · simp [results, Tryd.results60, go_sem, dval, ha, c0, c1, c2, c3, c4, c5, c6]
  · exact ⟨hon.os.trans (hV.os.trans h.only.os), hon.tape.trans (hV.tape.trans h.only.tape), hon.output.trans (hV.output.trans h.only.output), Nat.le_trans h.only.size (Nat.le_trans hV.size hsz), fun i hi hne => (hon.block i (by have := h.only.size; have := hV.size; omega) (by intro e; injection e with e; omega)).trans ((hV.block i (by have := h.only.size; omega) (by intro e; injection e with e; omega)).trans (h.only.block i hi hne))⟩
theorem six (l : List Int) (w : World) (t : TypeId) : ∀ k, k < l.length → ∃ x, (w.alloc (.cells (l.map (Value.int .i64)).toArray t)).cell? ((⟨w.heap.size, 0, none⟩ : Addr).add k) = some (.int .i64 x) ∧ x ∈ l := by
  intro k hk
  refine ⟨l[k], ?_, List.getElem_mem hk⟩
  rw [add_zero, World.cell?_alloc_new]
  simp [hk]

set_option maxRecDepth 100000 in
set_option maxHeartbeats 10000000 in
theorem spoil_any (B g : Nat) (x : MDeed) (w : World) (hc : CurAt B w g) (hx : x.wf) :
    Calls Tryd.prog 60 #[.pointer (some ⟨g, 0, none⟩), dval x] w (DrawnD B g w) := by
  have hst := DK.start (x := x) hc
  obtain ⟨hx0, hx1, hx2, hx3, hx4, hx5, hx6⟩ := hx
  unfold dval
  unfold drow at hst
  generalize hW : (w.alloc _).alloc _ = W at hst
  have HST := Lib.hid hst; have HW := Lib.hid hW; clear hst hc
  unfold I64 at hx0 hx1 hx2 hx3 hx4 hx5 hx6
  go_enter Tryd.func60, Tryd.ntmps60
  go_wp2_with fail
  refine (below_any B g 20 _ HST.out.cur).mono ?_
  rintro e w2 ⟨r, rfl, ⟨r0, _, r1⟩, hc, ho⟩
  have r2 := r1 (by omega)
  have H2 := Lib.hid (HST.out.next hc ho)
  clear hc ho r1 hW HW
  have c0 := H2.out.row 0 _ rfl
  have c1 := H2.out.row 1 _ rfl
  have c2 := H2.out.row 2 _ rfl
  have c3 := H2.out.row 3 _ rfl
  have c4 := H2.out.row 4 _ rfl
  have c5 := H2.out.row 5 _ rfl
  have c6 := H2.out.row 6 _ rfl
  simp only [Nat.zero_add] at c0 c1 c2 c3 c4 c5 c6
  have hlt := H2.out.own.lt
  rcases (show r = 0 ∨ r = 1 ∨ r = 2 ∨ r = 3 ∨ r = 4 ∨ r = 5 ∨ 6 ≤ r from by omega) with rfl | rfl | rfl | rfl | rfl | rfl | hr
  · go_wp2_with fail
    have hb3 : Below w2.heap.size w2 (w2.alloc (.cells (([0, 16, 2, 10] : List Int).map (Value.int .i64)).toArray 3)) := (Below.refl _ _).alloc (Nat.le_refl _) _
    have HB := Lib.hid (H2.out.next (H2.out.cur.below hb3) (Only.of_below hb3))
    have hgb := H2.out.gb
    refine (pickint_any B g _ ⟨w2.heap.size, 0, none⟩ 4 4 (fun y => y ∈ ([0, 16, 2, 10] : List Int)) HB.out.cur (by omega) (by omega) (by simp; omega) (six [0, 16, 2, 10] w2 _)).mono ?_
    rintro e w4 ⟨z, rfl, hz, hc, ho⟩
    have H4 := Lib.hid (HB.out.next hc ho)
    clear hb3 hc ho c0 c1 c2 c3 c4 c5 c6
    have c0 := H4.out.row 0 _ rfl
    have f0 := H4.out.own0.frozen 0
    have c1 := H4.out.row 1 _ rfl
    have f1 := H4.out.own0.frozen 1
    have c2 := H4.out.row 2 _ rfl
    have f2 := H4.out.own0.frozen 2
    have c3 := H4.out.row 3 _ rfl
    have f3 := H4.out.own0.frozen 3
    have c4 := H4.out.row 4 _ rfl
    have f4 := H4.out.own0.frozen 4
    have c5 := H4.out.row 5 _ rfl
    have f5 := H4.out.own0.frozen 5
    have c6 := H4.out.row 6 _ rfl
    have f6 := H4.out.own0.frozen 6
    simp only [Nat.zero_add] at c0 c1 c2 c3 c4 c5 c6
    obtain ⟨oq0, pq0⟩ := H4.out.own.cell (j := 0) (by omega)
    have fq0 := H4.out.own.frozen 0
    obtain ⟨oq1, pq1⟩ := H4.out.own.cell (j := 1) (by omega)
    have fq1 := H4.out.own.frozen 1
    obtain ⟨oq2, pq2⟩ := H4.out.own.cell (j := 2) (by omega)
    have fq2 := H4.out.own.frozen 2
    obtain ⟨oq3, pq3⟩ := H4.out.own.cell (j := 3) (by omega)
    have fq3 := H4.out.own.frozen 3
    obtain ⟨oq4, pq4⟩ := H4.out.own.cell (j := 4) (by omega)
    have fq4 := H4.out.own.frozen 4
    obtain ⟨oq5, pq5⟩ := H4.out.own.cell (j := 5) (by omega)
    have fq5 := H4.out.own.frozen 5
    obtain ⟨oq6, pq6⟩ := H4.out.own.cell (j := 6) (by omega)
    have fq6 := H4.out.own.frozen 6
    go_wp2_with fail
    exact dk_done H4.out ((Only.refl _ _).setCell 0 _) ⟨z, x.at_, x.to, x.lo, x.hi, x.key, x.value⟩ (by simp at hz; simp [MDeed.wf, I64] <;> omega) (H4.out.own.keep (Below.heap_setCell _ _ _ _ (by simp))) _ rfl rfl
  · go_wp2_with fail
    have hb3 : Below w2.heap.size w2 (w2.alloc (.cells (([-1, 5, 6, 59, 60, 61] : List Int).map (Value.int .i64)).toArray 3)) := (Below.refl _ _).alloc (Nat.le_refl _) _
    have HB := Lib.hid (H2.out.next (H2.out.cur.below hb3) (Only.of_below hb3))
    have hgb := H2.out.gb
    refine (pickint_any B g _ ⟨w2.heap.size, 0, none⟩ 6 6 (fun y => y ∈ ([-1, 5, 6, 59, 60, 61] : List Int)) HB.out.cur (by omega) (by omega) (by simp; omega) (six [-1, 5, 6, 59, 60, 61] w2 _)).mono ?_
    rintro e w4 ⟨z, rfl, hz, hc, ho⟩
    have H4 := Lib.hid (HB.out.next hc ho)
    clear hb3 hc ho c0 c1 c2 c3 c4 c5 c6
    have c0 := H4.out.row 0 _ rfl
    have f0 := H4.out.own0.frozen 0
    have c1 := H4.out.row 1 _ rfl
    have f1 := H4.out.own0.frozen 1
    have c2 := H4.out.row 2 _ rfl
    have f2 := H4.out.own0.frozen 2
    have c3 := H4.out.row 3 _ rfl
    have f3 := H4.out.own0.frozen 3
    have c4 := H4.out.row 4 _ rfl
    have f4 := H4.out.own0.frozen 4
    have c5 := H4.out.row 5 _ rfl
    have f5 := H4.out.own0.frozen 5
    have c6 := H4.out.row 6 _ rfl
    have f6 := H4.out.own0.frozen 6
    simp only [Nat.zero_add] at c0 c1 c2 c3 c4 c5 c6
    obtain ⟨oq0, pq0⟩ := H4.out.own.cell (j := 0) (by omega)
    have fq0 := H4.out.own.frozen 0
    obtain ⟨oq1, pq1⟩ := H4.out.own.cell (j := 1) (by omega)
    have fq1 := H4.out.own.frozen 1
    obtain ⟨oq2, pq2⟩ := H4.out.own.cell (j := 2) (by omega)
    have fq2 := H4.out.own.frozen 2
    obtain ⟨oq3, pq3⟩ := H4.out.own.cell (j := 3) (by omega)
    have fq3 := H4.out.own.frozen 3
    obtain ⟨oq4, pq4⟩ := H4.out.own.cell (j := 4) (by omega)
    have fq4 := H4.out.own.frozen 4
    obtain ⟨oq5, pq5⟩ := H4.out.own.cell (j := 5) (by omega)
    have fq5 := H4.out.own.frozen 5
    obtain ⟨oq6, pq6⟩ := H4.out.own.cell (j := 6) (by omega)
    have fq6 := H4.out.own.frozen 6
    go_wp2_with fail
    exact dk_done H4.out ((Only.refl _ _).setCell 1 _) ⟨x.kind, z, x.to, x.lo, x.hi, x.key, x.value⟩ (by simp at hz; simp [MDeed.wf, I64] <;> omega) (H4.out.own.keep (Below.heap_setCell _ _ _ _ (by simp))) _ rfl rfl
  · go_wp2_with fail
    have hb3 : Below w2.heap.size w2 (w2.alloc (.cells (([-1, 1, 4, 60] : List Int).map (Value.int .i64)).toArray 3)) := (Below.refl _ _).alloc (Nat.le_refl _) _
    have HB := Lib.hid (H2.out.next (H2.out.cur.below hb3) (Only.of_below hb3))
    have hgb := H2.out.gb
    refine (pickint_any B g _ ⟨w2.heap.size, 0, none⟩ 4 4 (fun y => y ∈ ([-1, 1, 4, 60] : List Int)) HB.out.cur (by omega) (by omega) (by simp; omega) (six [-1, 1, 4, 60] w2 _)).mono ?_
    rintro e w4 ⟨z, rfl, hz, hc, ho⟩
    have H4 := Lib.hid (HB.out.next hc ho)
    clear hb3 hc ho c0 c1 c2 c3 c4 c5 c6
    have c0 := H4.out.row 0 _ rfl
    have f0 := H4.out.own0.frozen 0
    have c1 := H4.out.row 1 _ rfl
    have f1 := H4.out.own0.frozen 1
    have c2 := H4.out.row 2 _ rfl
    have f2 := H4.out.own0.frozen 2
    have c3 := H4.out.row 3 _ rfl
    have f3 := H4.out.own0.frozen 3
    have c4 := H4.out.row 4 _ rfl
    have f4 := H4.out.own0.frozen 4
    have c5 := H4.out.row 5 _ rfl
    have f5 := H4.out.own0.frozen 5
    have c6 := H4.out.row 6 _ rfl
    have f6 := H4.out.own0.frozen 6
    simp only [Nat.zero_add] at c0 c1 c2 c3 c4 c5 c6
    obtain ⟨oq0, pq0⟩ := H4.out.own.cell (j := 0) (by omega)
    have fq0 := H4.out.own.frozen 0
    obtain ⟨oq1, pq1⟩ := H4.out.own.cell (j := 1) (by omega)
    have fq1 := H4.out.own.frozen 1
    obtain ⟨oq2, pq2⟩ := H4.out.own.cell (j := 2) (by omega)
    have fq2 := H4.out.own.frozen 2
    obtain ⟨oq3, pq3⟩ := H4.out.own.cell (j := 3) (by omega)
    have fq3 := H4.out.own.frozen 3
    obtain ⟨oq4, pq4⟩ := H4.out.own.cell (j := 4) (by omega)
    have fq4 := H4.out.own.frozen 4
    obtain ⟨oq5, pq5⟩ := H4.out.own.cell (j := 5) (by omega)
    have fq5 := H4.out.own.frozen 5
    obtain ⟨oq6, pq6⟩ := H4.out.own.cell (j := 6) (by omega)
    have fq6 := H4.out.own.frozen 6
    go_wp2_with fail
    exact dk_done H4.out ((Only.refl _ _).setCell 2 _) ⟨x.kind, x.at_, z, x.lo, x.hi, x.key, x.value⟩ (by simp at hz; simp [MDeed.wf, I64] <;> omega) (H4.out.own.keep (Below.heap_setCell _ _ _ _ (by simp))) _ rfl rfl
  · go_wp2_with fail
    have hb3 : Below w2.heap.size w2 (w2.alloc (.cells (([-1, 1000, 1] : List Int).map (Value.int .i64)).toArray 3)) := (Below.refl _ _).alloc (Nat.le_refl _) _
    have HB := Lib.hid (H2.out.next (H2.out.cur.below hb3) (Only.of_below hb3))
    have hgb := H2.out.gb
    refine (pickint_any B g _ ⟨w2.heap.size, 0, none⟩ 3 3 (fun y => y ∈ ([-1, 1000, 1] : List Int)) HB.out.cur (by omega) (by omega) (by simp; omega) (six [-1, 1000, 1] w2 _)).mono ?_
    rintro e w4 ⟨z, rfl, hz, hc, ho⟩
    have H4 := Lib.hid (HB.out.next hc ho)
    clear hb3 hc ho c0 c1 c2 c3 c4 c5 c6
    have c0 := H4.out.row 0 _ rfl
    have f0 := H4.out.own0.frozen 0
    have c1 := H4.out.row 1 _ rfl
    have f1 := H4.out.own0.frozen 1
    have c2 := H4.out.row 2 _ rfl
    have f2 := H4.out.own0.frozen 2
    have c3 := H4.out.row 3 _ rfl
    have f3 := H4.out.own0.frozen 3
    have c4 := H4.out.row 4 _ rfl
    have f4 := H4.out.own0.frozen 4
    have c5 := H4.out.row 5 _ rfl
    have f5 := H4.out.own0.frozen 5
    have c6 := H4.out.row 6 _ rfl
    have f6 := H4.out.own0.frozen 6
    simp only [Nat.zero_add] at c0 c1 c2 c3 c4 c5 c6
    obtain ⟨oq0, pq0⟩ := H4.out.own.cell (j := 0) (by omega)
    have fq0 := H4.out.own.frozen 0
    obtain ⟨oq1, pq1⟩ := H4.out.own.cell (j := 1) (by omega)
    have fq1 := H4.out.own.frozen 1
    obtain ⟨oq2, pq2⟩ := H4.out.own.cell (j := 2) (by omega)
    have fq2 := H4.out.own.frozen 2
    obtain ⟨oq3, pq3⟩ := H4.out.own.cell (j := 3) (by omega)
    have fq3 := H4.out.own.frozen 3
    obtain ⟨oq4, pq4⟩ := H4.out.own.cell (j := 4) (by omega)
    have fq4 := H4.out.own.frozen 4
    obtain ⟨oq5, pq5⟩ := H4.out.own.cell (j := 5) (by omega)
    have fq5 := H4.out.own.frozen 5
    obtain ⟨oq6, pq6⟩ := H4.out.own.cell (j := 6) (by omega)
    have fq6 := H4.out.own.frozen 6
    go_wp2_with fail
    exact dk_done H4.out ((Only.refl _ _).setCell 5 _) ⟨x.kind, x.at_, x.to, x.lo, x.hi, z, x.value⟩ (by simp at hz; simp [MDeed.wf, I64] <;> omega) (H4.out.own.keep (Below.heap_setCell _ _ _ _ (by simp))) _ rfl rfl
  · go_wp2_with fail
    have hb3 : Below w2.heap.size w2 (w2.alloc (.cells (([-2, -1, 1000000000, 1000000001] : List Int).map (Value.int .i64)).toArray 3)) := (Below.refl _ _).alloc (Nat.le_refl _) _
    have HB := Lib.hid (H2.out.next (H2.out.cur.below hb3) (Only.of_below hb3))
    have hgb := H2.out.gb
    refine (pickint_any B g _ ⟨w2.heap.size, 0, none⟩ 4 4 (fun y => y ∈ ([-2, -1, 1000000000, 1000000001] : List Int)) HB.out.cur (by omega) (by omega) (by simp; omega) (six [-2, -1, 1000000000, 1000000001] w2 _)).mono ?_
    rintro e w4 ⟨z, rfl, hz, hc, ho⟩
    have H4 := Lib.hid (HB.out.next hc ho)
    clear hb3 hc ho c0 c1 c2 c3 c4 c5 c6
    have c0 := H4.out.row 0 _ rfl
    have f0 := H4.out.own0.frozen 0
    have c1 := H4.out.row 1 _ rfl
    have f1 := H4.out.own0.frozen 1
    have c2 := H4.out.row 2 _ rfl
    have f2 := H4.out.own0.frozen 2
    have c3 := H4.out.row 3 _ rfl
    have f3 := H4.out.own0.frozen 3
    have c4 := H4.out.row 4 _ rfl
    have f4 := H4.out.own0.frozen 4
    have c5 := H4.out.row 5 _ rfl
    have f5 := H4.out.own0.frozen 5
    have c6 := H4.out.row 6 _ rfl
    have f6 := H4.out.own0.frozen 6
    simp only [Nat.zero_add] at c0 c1 c2 c3 c4 c5 c6
    obtain ⟨oq0, pq0⟩ := H4.out.own.cell (j := 0) (by omega)
    have fq0 := H4.out.own.frozen 0
    obtain ⟨oq1, pq1⟩ := H4.out.own.cell (j := 1) (by omega)
    have fq1 := H4.out.own.frozen 1
    obtain ⟨oq2, pq2⟩ := H4.out.own.cell (j := 2) (by omega)
    have fq2 := H4.out.own.frozen 2
    obtain ⟨oq3, pq3⟩ := H4.out.own.cell (j := 3) (by omega)
    have fq3 := H4.out.own.frozen 3
    obtain ⟨oq4, pq4⟩ := H4.out.own.cell (j := 4) (by omega)
    have fq4 := H4.out.own.frozen 4
    obtain ⟨oq5, pq5⟩ := H4.out.own.cell (j := 5) (by omega)
    have fq5 := H4.out.own.frozen 5
    obtain ⟨oq6, pq6⟩ := H4.out.own.cell (j := 6) (by omega)
    have fq6 := H4.out.own.frozen 6
    go_wp2_with fail
    exact dk_done H4.out ((Only.refl _ _).setCell 6 _) ⟨x.kind, x.at_, x.to, x.lo, x.hi, x.key, z⟩ (by simp at hz; simp [MDeed.wf, I64] <;> omega) (H4.out.own.keep (Below.heap_setCell _ _ _ _ (by simp))) _ rfl rfl
  · go_wp2_with fail
    have hb3 : Below w2.heap.size w2 (w2.alloc (.cells (([0, x.lo, 1001] : List Int).map (Value.int .i64)).toArray 3)) := (Below.refl _ _).alloc (Nat.le_refl _) _
    have HB := Lib.hid (H2.out.next (H2.out.cur.below hb3) (Only.of_below hb3))
    have hgb := H2.out.gb
    refine (pickint_any B g _ ⟨w2.heap.size, 0, none⟩ 3 3 (fun y => y ∈ ([0, x.lo, 1001] : List Int)) HB.out.cur (by omega) (by omega) (by simp; omega) (six [0, x.lo, 1001] w2 _)).mono ?_
    rintro e w4 ⟨z, rfl, hz, hc, ho⟩
    have H4 := Lib.hid (HB.out.next hc ho)
    clear hb3 hc ho c0 c1 c2 c3 c4 c5 c6
    have c0 := H4.out.row 0 _ rfl
    have f0 := H4.out.own0.frozen 0
    have c1 := H4.out.row 1 _ rfl
    have f1 := H4.out.own0.frozen 1
    have c2 := H4.out.row 2 _ rfl
    have f2 := H4.out.own0.frozen 2
    have c3 := H4.out.row 3 _ rfl
    have f3 := H4.out.own0.frozen 3
    have c4 := H4.out.row 4 _ rfl
    have f4 := H4.out.own0.frozen 4
    have c5 := H4.out.row 5 _ rfl
    have f5 := H4.out.own0.frozen 5
    have c6 := H4.out.row 6 _ rfl
    have f6 := H4.out.own0.frozen 6
    simp only [Nat.zero_add] at c0 c1 c2 c3 c4 c5 c6
    obtain ⟨oq0, pq0⟩ := H4.out.own.cell (j := 0) (by omega)
    have fq0 := H4.out.own.frozen 0
    obtain ⟨oq1, pq1⟩ := H4.out.own.cell (j := 1) (by omega)
    have fq1 := H4.out.own.frozen 1
    obtain ⟨oq2, pq2⟩ := H4.out.own.cell (j := 2) (by omega)
    have fq2 := H4.out.own.frozen 2
    obtain ⟨oq3, pq3⟩ := H4.out.own.cell (j := 3) (by omega)
    have fq3 := H4.out.own.frozen 3
    obtain ⟨oq4, pq4⟩ := H4.out.own.cell (j := 4) (by omega)
    have fq4 := H4.out.own.frozen 4
    obtain ⟨oq5, pq5⟩ := H4.out.own.cell (j := 5) (by omega)
    have fq5 := H4.out.own.frozen 5
    obtain ⟨oq6, pq6⟩ := H4.out.own.cell (j := 6) (by omega)
    have fq6 := H4.out.own.frozen 6
    go_wp2_with fail
    exact dk_done H4.out ((Only.refl _ _).setCell 4 _) ⟨x.kind, x.at_, x.to, x.lo, z, x.key, x.value⟩ (by simp at hz; simp [MDeed.wf, I64] <;> omega) (H4.out.own.keep (Below.heap_setCell _ _ _ _ (by simp))) _ rfl rfl
  · have e0 : (r == 0) = false := by rw [beq_eq_false_iff_ne]; omega
    have e1 : (r == 1) = false := by rw [beq_eq_false_iff_ne]; omega
    have e2 : (r == 2) = false := by rw [beq_eq_false_iff_ne]; omega
    have e3 : (r == 3) = false := by rw [beq_eq_false_iff_ne]; omega
    have e4 : (r == 4) = false := by rw [beq_eq_false_iff_ne]; omega
    have e5 : (r == 5) = false := by rw [beq_eq_false_iff_ne]; omega
    obtain ⟨oq0, pq0⟩ := H2.out.own.cell (j := 0) (by omega)
    have fq0 := H2.out.own.frozen 0
    obtain ⟨oq1, pq1⟩ := H2.out.own.cell (j := 1) (by omega)
    have fq1 := H2.out.own.frozen 1
    obtain ⟨oq2, pq2⟩ := H2.out.own.cell (j := 2) (by omega)
    have fq2 := H2.out.own.frozen 2
    obtain ⟨oq3, pq3⟩ := H2.out.own.cell (j := 3) (by omega)
    have fq3 := H2.out.own.frozen 3
    obtain ⟨oq4, pq4⟩ := H2.out.own.cell (j := 4) (by omega)
    have fq4 := H2.out.own.frozen 4
    obtain ⟨oq5, pq5⟩ := H2.out.own.cell (j := 5) (by omega)
    have fq5 := H2.out.own.frozen 5
    obtain ⟨oq6, pq6⟩ := H2.out.own.cell (j := 6) (by omega)
    have fq6 := H2.out.own.frozen 6
    go_wp2_with fail
    exact dk_done H2.out (Only.refl _ _) x ⟨hx0, hx1, hx2, hx3, hx4, hx5, hx6⟩ H2.out.own _ rfl rfl
end Go.Proofs.YtdejncnjaebjfaaDoor
