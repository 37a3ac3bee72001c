/-
  l18DrawDeed of the reference: some deed, whatever is drawn.
-/
import Derived.Test.YtdejncnjaebjfaaDoorDr3
import Derived.Test.YtdejncnjaebjfaaDoorDr4
import Derived.Test.YtdejncnjaebjfaaDoorDr5a
namespace Go.Proofs.YtdejncnjaebjfaaDoor
set_option linter.unusedVariables false
set_option linter.unusedSimpArgs false
open Go.ChangeShapes Go.WideShapes Go.ChangeAt Go.RowKit

/-- where the function stands: n its deed's block, b the town's box, c the clients' row -/
structure DT (B g b n : Nat) (s c p : Addr) (w0 W : World) : Prop where
  cur : CurAt B W g
  only : Only g w0 W
  gn : g < n
  Bn : B ≤ n
  w0n : w0.heap.size = n
  nb : n < b
  nc : n < c.block
  bc : c.block ≠ b
  c0 : c = ⟨c.block, 0, none⟩
  own : Own W n 23 7
  ownc : Own W c.block 94 27
  row : CellsAt W b 0 (town0 s c p).toList
  cl : ∀ i, i < 3 → ClientAt W c.block (i * 9)
theorem DT.next {B g b n : Nat} {s c p : Addr} {w0 W W' : World} (h : DT B g b n s c p w0 W) (hc : CurAt B W' g) (ho : Only g W W') : DT B g b n s c p w0 W' := by
  have hg := h.gn
  have hn := h.own.lt
  have hcl := h.ownc.lt
  have hnc := h.nc
  have hnb := h.nb
  have hbl := cell_lt (h.row 0 _ rfl)
  refine ⟨hc, h.only.trans ho, hg, h.Bn, h.w0n, h.nb, h.nc, h.bc, h.c0, h.own.keep (ho.block _ hn (by intro e; injection e with e; omega)), h.ownc.keep (ho.block _ hcl (by intro e; injection e with e; omega)), fun j u hu => ?_, fun i hi => ?_⟩
  · exact (World.cell?_of_block (a := ⟨b, 0 + j, none⟩) (ho.block b hbl (by intro e; injection e with e; omega))).trans (h.row j u hu)
  · obtain ⟨t, t0, t1, ht⟩ := h.cl i hi
    exact ⟨t, t0, t1, fun j u hu => (World.cell?_of_block (a := ⟨c.block, i * 9 + j, none⟩) (ho.block c.block hcl (by intro e; injection e with e; omega))).trans (ht j u hu)⟩
theorem DT.store {B g b n : Nat} {s c p : Addr} {w0 W : World} (h : DT B g b n s c p w0 W) (k : Nat) (hk : k < 3) (t : Int) (t0 : 0 ≤ t) (t1 : t ≤ 2) : DT B g b n s c p w0 (W.setCell ⟨c.block, k * 9, none⟩ (.int .i64 t)) := by
  have hg := h.gn
  have hnc := h.nc
  have hbc := h.bc
  have hw := h.w0n
  refine ⟨h.cur.set (by simp; omega) (by have := h.Bn; simp; omega) _, ?_, hg, h.Bn, h.w0n, h.nb, h.nc, h.bc, h.c0, h.own.keep (Below.heap_setCell _ _ _ _ (by simp; omega)), h.ownc.set _ _, fun j u hu => ?_, fun i hi => ?_⟩
  · exact h.only.setNew (by simp; omega) _
  · rw [cell_set_ne (by omega)]; exact h.row j u hu
  · obtain ⟨t', t0', t1', ht⟩ := h.cl i hi
    by_cases e : i = k
    · subst e
      refine ⟨t, t0, t1, fun j u hu => ?_⟩
      cases j with
      | zero =>
        simp at hu
        subst hu
        exact cell_set_eq h.ownc (by omega) _
      | succ j =>
        rw [cell_set_ne (by omega)]
        exact ht (j + 1) u (by simpa using hu)
    · refine ⟨t', t0', t1', fun j u hu => ?_⟩
      have hj : j < 9 := (List.getElem?_eq_some_iff.1 hu).1
      rw [cell_set_ne (by omega)]
      exact ht j u hu
theorem DT.start {B g n bC bS bP bT : Nat} {w0 W : World} (hc : CurAt B w0 g) (hw : w0.heap.size = n) (hb : Below n w0 W) (hn : Blk W n 23 #[.int .i64 0, .int .i64 0, .int .i64 0, .int .i64 0, .int .i64 0, .int .i64 0, .int .i64 0]) (hC : Blk W bC 94 cls0) (hT : Blk W bT 90 (town0 ⟨bS, 0, none⟩ ⟨bC, 0, none⟩ ⟨bP, 0, none⟩)) (h1 : n < bC) (h2 : n < bT) (h3 : bC ≠ bT) :
    DT B g bT n ⟨bS, 0, none⟩ ⟨bC, 0, none⟩ ⟨bP, 0, none⟩ w0 W := by
  subst hw
  refine ⟨hc.below hb, Only.of_below hb, hc.lt, by have := hc.1; have := hc.lt; omega, rfl, h2, h1, h3, rfl, ⟨_, hn, rfl⟩, ⟨_, hC, rfl⟩, fun j u hu => ?_, fun i hi => ⟨0, by omega, by omega, fun j u hu => ?_⟩⟩
  · rw [Nat.zero_add, hT.cell]; simpa using hu
  · rw [hC.cell]
    have hj : j < 9 := (List.getElem?_eq_some_iff.1 hu).1
    rw [← hu]
    revert hj
    clear hu
    rcases (show i = 0 ∨ i = 1 ∨ i = 2 from by omega) with rfl | rfl | rfl <;> intro hj <;> rcases (show j = 0 ∨ j = 1 ∨ j = 2 ∨ j = 3 ∨ j = 4 ∨ j = 5 ∨ j = 6 ∨ j = 7 ∨ j = 8 from by omega) with rfl | rfl | rfl | rfl | rfl | rfl | rfl | rfl | rfl <;> rfl
theorem Only.rowNew {g d : Nat} {a W : World} (h : Only g a W) (hd : a.heap.size ≤ d) (cs : List Value) (o : Nat) : Only g a (setRow W d o cs) := by
  have hon := setRow_only d cs W o
  exact ⟨hon.os.trans h.os, hon.tape.trans h.tape, hon.output.trans h.output, Nat.le_trans h.size hon.size, fun i hi hne => (hon.block i (by have := h.size; omega) (by intro e; injection e with e; omega)).trans (h.block i hi hne)⟩
/-- how the function ends -/
theorem dr_done {B g n : Nat} {w0 W : World} (hc : CurAt B W g) (ho : Only g w0 W) (hw : w0.heap.size = n) (hg : g < n) (hB : B ≤ n) (hO : Own W n 23 7) (x : MDeed) (hx : x.wf) (a : Act) (hd : a.defers = []) (ha : a.tmps[2]? = some (.pointer (some ⟨n, 0, none⟩))) :
    bodyPost Tryd.prog Tryd.f39 (DrawnD B g w0) Exit.ret a (setRow W n 0 (drow x)) := by
  have hcs := setRow_cells (drow x) W 0 hO (by simp [drow])
  have hon := setRow_only n (drow x) W 0
  have hcur := hc.only hon (by omega) (by omega)
  have c0 := hcs 0 _ rfl
  have c1 := hcs 1 _ rfl
  have c2 := hcs 2 _ rfl
  have c3 := hcs 3 _ rfl
  have c4 := hcs 4 _ rfl
  have c5 := hcs 5 _ rfl
  have c6 := hcs 6 _ rfl
  have hsz := hon.size
  generalize setRow W n 0 (drow x) = U at *
  simp only [Nat.zero_add] at c0 c1 c2 c3 c4 c5 c6
  refine bodyPost_ret (v := dval x) ?_ hd ⟨x, rfl, hx, hcur, ?_⟩
  · simp [results, Tryd.results39, go_sem, dval, ha, c0, c1, c2, c3, c4, c5, c6]
  · exact ⟨hon.os.trans ho.os, hon.tape.trans ho.tape, hon.output.trans ho.output, Nat.le_trans ho.size hsz, fun i hi hne => (hon.block i (by have := ho.size; omega) (by intro e; injection e with e; omega)).trans (ho.block i hi hne)⟩

set_option maxRecDepth 100000 in
set_option maxHeartbeats 10000000 in
theorem dr_any (B g : Nat) (w : World) (hc : CurAt B w g) :
    Calls Tryd.prog 39 #[.pointer (some ⟨g, 0, none⟩)] w (DrawnD B g w) := by
  have HC := Lib.hid hc; clear hc
  have h1 := mk_c
  obtain ⟨cs2, h2⟩ := mk_s
  obtain ⟨cs3, h3⟩ := mk_p
  go_enter Tryd.func39, Tryd.ntmps39
  go_wp2_with fail
  rename_i K hK
  have key : ∀ (bC bS bP bT : Nat) (W : World), DT B g bT w.heap.size ⟨bS, 0, none⟩ ⟨bC, 0, none⟩ ⟨bP, 0, none⟩ w W → K { tmps := #[.pointer (some ⟨g, 0, none⟩), undef, .pointer (some ⟨w.heap.size, 0, none⟩), .pointer (some ⟨bT, 0, none⟩), undef, undef, .slice (some ⟨bC, 0, none⟩) 3 3, .slice (some ⟨bS, 0, none⟩) 3 3, .slice (some ⟨bP, 0, none⟩) 5 5, .agg (town0 ⟨bS, 0, none⟩ ⟨bC, 0, none⟩ ⟨bP, 0, none⟩), undef, undef, undef, undef, undef, undef, undef, undef, undef, undef, undef, undef, undef, undef, undef, undef, undef, undef, undef, undef], defers := [] } W := by
    intro bC bS bP bT W hst
    have HST := Lib.hid hst; clear hst
    refine hK _ _ ?_
    unfold town0
    go_wp2_with fail
    go_loopw [4] (fun i wr => ∃ k : Nat, k ≤ 3 ∧ i = .int .i64 (k : Int) ∧ RowKit.Hid (DT B g bT w.heap.size ⟨bS, 0, none⟩ ⟨bC, 0, none⟩ ⟨bP, 0, none⟩ w wr)) (fun i _ => 3 - (intOf i).toNat)
    case atStart => exact ⟨0, by omega, rfl, HST.out⟩
    case round =>
      obtain ⟨k, hk, rfl, hdt⟩ := hrel
      have H1 := Lib.hid hdt.out; clear hdt
      have nb := H1.out.nb
      have nc := H1.out.nc
      have bc := H1.out.bc
      simp only at nc bc
      have c12 := H1.out.row 12 _ rfl
      rw [Nat.zero_add] at c12
      by_cases hlt : k < 3
      · go_wp2_with fail
        have HD := Lib.hid (H1.out.next (W' := wr.drew) H1.out.cur (Only.refl g wr).drew)
        have d12 := HD.out.row 12 _ rfl
        rw [Nat.zero_add] at d12
        go_region_held3 (fun w' => w'.cell? ⟨bT, 12, none⟩ = some (.slice (some ⟨bC, 0, none⟩) 3 3))
          (first
            | go_keep)
          (first
            | (go_at_call 58; refine (below_any B g 3 _ HD.out.cur).mono ?_; rintro e w3 ⟨x, rfl, ⟨x0, _, x1⟩, hc, ho⟩; have H3 := Lib.hid (HD.out.next hc ho); have e12 := H3.out.row 12 _ rfl; rw [Nat.zero_add] at e12; have f0 := H3.out.ownc.frozen (k * 9); obtain ⟨v0, p0⟩ := H3.out.ownc.cell (j := k * 9) (by omega)))
        have x2 := x1 (by omega)
        go_wp2_with fail
        go_roundw
        case rel => exact ⟨k + 1, by omega, by go_num, H3.out.store k hlt x x0 (by omega)⟩
        case measure => simp [intOf] <;> omega
      · obtain rfl : k = 3 := by omega
        have t0 := H1.out.row 0 _ rfl
        have t1 := H1.out.row 1 _ rfl
        have t2 := H1.out.row 2 _ rfl
        have t3 := H1.out.row 3 _ rfl
        have t4 := H1.out.row 4 _ rfl
        have t5 := H1.out.row 5 _ rfl
        have t6 := H1.out.row 6 _ rfl
        have t7 := H1.out.row 7 _ rfl
        have t8 := H1.out.row 8 _ rfl
        have t9 := H1.out.row 9 _ rfl
        have t10 := H1.out.row 10 _ rfl
        have t11 := H1.out.row 11 _ rfl
        have t12 := H1.out.row 12 _ rfl
        have t13 := H1.out.row 13 _ rfl
        have t14 := H1.out.row 14 _ rfl
        simp only [Nat.zero_add] at t0 t1 t2 t3 t4 t5 t6 t7 t8 t9 t10 t11 t12 t13 t14
        go_wp2_with fail
        refine (dd_any B g bC ⟨bS, 0, none⟩ ⟨bP, 0, none⟩ _ H1.out.cur (by have := H1.out.gn; omega) H1.out.cl).mono ?_
        rintro e w3 ⟨x, rfl, hx, hc, ho⟩
        have H3 := Lib.hid (H1.out.next hc ho)
        have HX := Lib.hid hx
        clear t0 t1 t2 t3 t4 t5 t6 t7 t8 t9 t10 t11 t12 t13 t14 c12
        clear hc ho hx
        unfold dval
        have hnl := H3.out.own.lt
        go_wp2_with fail
        have hb4 : Below w3.heap.size w3 (w3.alloc (.cells (drow x).toArray 23)) := (Below.refl _ _).alloc (Nat.le_refl _) _
        have H4 := Lib.hid (H3.out.next (H3.out.cur.below hb4) (Only.of_below hb4))
        have R4 := Lib.hid (fun (j : Nat) (u : Value) (hu : (drow x)[j]? = some u) => alloc_cell w3 (drow x).toArray 23 j u (by simpa using hu))
        have O4 := Lib.hid (show Own (w3.alloc (.cells (drow x).toArray 23)) w3.heap.size 23 7 from Own.new w3 23 (drow x).toArray)
        clear hb4
        refine (once_any B g 8 _ H4.out.cur).mono ?_
        rintro e w5 ⟨b, rfl, hc, ho⟩
        have H5 := Lib.hid (H4.out.next hc ho)
        have hgn := H5.out.gn
        have O5 := Lib.hid (O4.out.keep (ho.block _ (by simp) (by intro e; injection e with e; omega)))
        have R5 := Lib.hid (fun (j : Nat) (u : Value) (hu : (drow x)[j]? = some u) => (World.cell?_of_block (a := ⟨w3.heap.size, j, none⟩) (ho.block w3.heap.size (by simp) (by intro e; injection e with e; omega))).trans (R4.out j u hu))
        clear hc ho
        have s0 := R5.out 0 _ rfl
        have s1 := R5.out 1 _ rfl
        have s2 := R5.out 2 _ rfl
        have s3 := R5.out 3 _ rfl
        have s4 := R5.out 4 _ rfl
        have s5 := R5.out 5 _ rfl
        have s6 := R5.out 6 _ rfl
        have q1 := O5.out.lt
        cases b with
        | true =>
          go_wp2_with fail
          refine (spoil_any B g x _ H5.out.cur HX.out).mono ?_
          rintro e w6 ⟨y, rfl, hy, hc, ho⟩
          have H6 := Lib.hid (H5.out.next hc ho)
          have O6 := Lib.hid (O5.out.keep (ho.block _ q1 (by intro e; injection e with e; omega)))
          have HY := Lib.hid hy
          clear hc ho hy
          unfold dval
          clear s0 s1 s2 s3 s4 s5 s6
          obtain ⟨oy0, py0⟩ := O6.out.cell (j := 0) (by omega)
          have fy0 := O6.out.frozen 0
          obtain ⟨oy1, py1⟩ := O6.out.cell (j := 1) (by omega)
          have fy1 := O6.out.frozen 1
          obtain ⟨oy2, py2⟩ := O6.out.cell (j := 2) (by omega)
          have fy2 := O6.out.frozen 2
          obtain ⟨oy3, py3⟩ := O6.out.cell (j := 3) (by omega)
          have fy3 := O6.out.frozen 3
          obtain ⟨oy4, py4⟩ := O6.out.cell (j := 4) (by omega)
          have fy4 := O6.out.frozen 4
          obtain ⟨oy5, py5⟩ := O6.out.cell (j := 5) (by omega)
          have fy5 := O6.out.frozen 5
          obtain ⟨oy6, py6⟩ := O6.out.cell (j := 6) (by omega)
          have fy6 := O6.out.frozen 6
          obtain ⟨on0, pn0⟩ := H6.out.own.cell (j := 0) (by omega)
          have fn0 := H6.out.own.frozen 0
          obtain ⟨on1, pn1⟩ := H6.out.own.cell (j := 1) (by omega)
          have fn1 := H6.out.own.frozen 1
          obtain ⟨on2, pn2⟩ := H6.out.own.cell (j := 2) (by omega)
          have fn2 := H6.out.own.frozen 2
          obtain ⟨on3, pn3⟩ := H6.out.own.cell (j := 3) (by omega)
          have fn3 := H6.out.own.frozen 3
          obtain ⟨on4, pn4⟩ := H6.out.own.cell (j := 4) (by omega)
          have fn4 := H6.out.own.frozen 4
          obtain ⟨on5, pn5⟩ := H6.out.own.cell (j := 5) (by omega)
          have fn5 := H6.out.own.frozen 5
          obtain ⟨on6, pn6⟩ := H6.out.own.cell (j := 6) (by omega)
          have fn6 := H6.out.own.frozen 6
          go_wp2_with fail
          have g6 := H6.out.gn
          have b6 := H6.out.Bn
          have l6 := H6.out.own.lt
          exact dr_done (H6.out.cur.only (setRow_only w3.heap.size (drow y) w6 0) (by omega) (by omega)) (H6.out.only.rowNew (by omega) (drow y) 0) rfl g6 b6 (H6.out.own.keep ((setRow_only w3.heap.size (drow y) w6 0).block _ l6 (by intro e; injection e with e; omega))) y HY.out _ rfl rfl
        | false =>
          obtain ⟨on0, pn0⟩ := H5.out.own.cell (j := 0) (by omega)
          have fn0 := H5.out.own.frozen 0
          obtain ⟨on1, pn1⟩ := H5.out.own.cell (j := 1) (by omega)
          have fn1 := H5.out.own.frozen 1
          obtain ⟨on2, pn2⟩ := H5.out.own.cell (j := 2) (by omega)
          have fn2 := H5.out.own.frozen 2
          obtain ⟨on3, pn3⟩ := H5.out.own.cell (j := 3) (by omega)
          have fn3 := H5.out.own.frozen 3
          obtain ⟨on4, pn4⟩ := H5.out.own.cell (j := 4) (by omega)
          have fn4 := H5.out.own.frozen 4
          obtain ⟨on5, pn5⟩ := H5.out.own.cell (j := 5) (by omega)
          have fn5 := H5.out.own.frozen 5
          obtain ⟨on6, pn6⟩ := H5.out.own.cell (j := 6) (by omega)
          have fn6 := H5.out.own.frozen 6
          go_wp2_with fail
          exact dr_done H5.out.cur H5.out.only rfl H5.out.gn H5.out.Bn H5.out.own x HX.out _ rfl rfl
  have hb0 : Below w.heap.size w (w.alloc (.cells #[.int .i64 0, .int .i64 0, .int .i64 0, .int .i64 0, .int .i64 0, .int .i64 0, .int .i64 0] 23)) := (Below.refl _ _).alloc (Nat.le_refl _) _
  have hn0 : Blk (w.alloc (.cells #[.int .i64 0, .int .i64 0, .int .i64 0, .int .i64 0, .int .i64 0, .int .i64 0, .int .i64 0] 23)) w.heap.size 23 #[.int .i64 0, .int .i64 0, .int .i64 0, .int .i64 0, .int .i64 0, .int .i64 0, .int .i64 0] := heap_alloc_new w _
  refine wp_region_any (by kernel_rfl) ?_
  exact region1 g w.heap.size w _ rfl _ cs2 cs3 h2 h3 hb0.drew hn0 fun bC bS bP bT W q1 q2 q3 q4 q5 q6 q7 => key bC bS bP bT W (DT.start HC.out rfl q1 q2 q3 q4 q5 q6 q7)
end Go.Proofs.YtdejncnjaebjfaaDoor
