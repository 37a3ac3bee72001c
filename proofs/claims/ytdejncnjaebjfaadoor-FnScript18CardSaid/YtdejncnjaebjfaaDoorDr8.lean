/-
  l18DrawDeeds, DrawScriptText of the reference: some deeds, in a row of one's own.
-/
import Derived.Test.YtdejncnjaebjfaaDoorDr7
import Derived.Test.YtdejncnjaebjfaaDoorScS
namespace Go.Proofs.YtdejncnjaebjfaaDoor
set_option linter.unusedVariables false
set_option linter.unusedSimpArgs false
open Go.ChangeShapes Go.WideShapes Go.ChangeAt Go.RowKit

theorem own_lt {w : World} {base : Nat} {e : TypeId} {size : Nat} {v : Value} {n : Nat} {xs : List Value} (h : w.ownsRow base e size v n xs) : ∀ g, v.ownBlock = some g → g < w.heap.size := by
  intro g hg
  rcases h.2 with ⟨rfl, _⟩ | ⟨g', cap, cur, rfl, hb, hh, _⟩
  · simp [Value.ownBlock] at hg
  · have : g' = g := by simpa [Value.ownBlock] using hg
    subst this
    exact (Array.getElem?_eq_some_iff.1 hh).1
theorem own_only {w w' : World} {b base : Nat} {e : TypeId} {size : Nat} {v : Value} {n : Nat} {xs : List Value} (h : w.ownsRow base e size v n xs) (ho : Only b w w') (hb : v.ownBlock ≠ some b) : w'.ownsRow base e size v n xs := by
  have hlt := own_lt h
  obtain ⟨h1, h2⟩ := h
  refine ⟨h1, ?_⟩
  rcases h2 with h2 | ⟨g', cap, cur, rfl, hb', hh, h3⟩
  · exact .inl h2
  · refine .inr ⟨g', cap, cur, rfl, hb', ?_, h3⟩
    rw [ho.block g' (hlt g' (by simp [Value.ownBlock])) (by intro e; injection e with e; subst e; exact hb (by simp [Value.ownBlock]))]
    exact hh
theorem Only.own {g : Nat} {a W W' : World} {v : Value} (h : Only g a W) (hr : W.grownBy W' v.ownBlock) (hge : ∀ b, v.ownBlock = some b → a.heap.size ≤ b) : Only g a W' :=
  ⟨hr.os.trans h.os, hr.tape.trans h.tape, hr.output.trans h.output, Nat.le_trans h.size hr.size, fun i hi hne => (hr.block i (Nat.lt_of_lt_of_le hi h.size) (fun e => by have := hge i e.symm; omega)).trans (h.block i hi hne)⟩
theorem CurAt.own {B g : Nat} {W W' : World} {v : Value} (h : CurAt B W g) (hr : W.grownBy W' v.ownBlock) (hge : ∀ b, v.ownBlock = some b → g < b) : CurAt B W' g := by
  cases hv : v.ownBlock with
  | none =>
    rw [hv] at hr
    exact h.below ⟨hr.os, hr.tape, hr.output, hr.size, fun i hi => hr.block i hi (by simp)⟩
  | some b =>
    have hb := hge b hv
    rw [hv] at hr
    exact h.only (g' := b) hr (by omega) (by have := h.1; omega)
/-- some deeds were drawn, into a row of their own -/
def DrawnR (B g : Nat) (w : World) (e : Ending) (w' : World) : Prop := ∃ (v : Value) (D : List MDeed), e = .returned v ∧ w'.ownsRow w.heap.size 23 7 v D.length (rows7 D) ∧ (∀ x ∈ D, x.wf) ∧ D.length ≤ 1000 ∧ CurAt B w' g ∧ Only g w w'

set_option maxRecDepth 100000 in
set_option maxHeartbeats 4000000 in
theorem deeds_any (B g : Nat) (n : Int) (w : World) (hc : CurAt B w g) (hn : 0 ≤ n ∧ n ≤ 500) :
    Calls Tryd.prog 36 #[.pointer (some ⟨g, 0, none⟩), .int .i64 n] w (DrawnR B g w) := by
  have HC := Lib.hid hc
  have hgl := hc.lt
  clear hc
  obtain ⟨i0, hi, hz0, hz1, hz2⟩ := info_parts info_deed
  go_enter Tryd.func36, Tryd.ntmps36
  go_wp2_with fail
  refine (below_any B g (n + 1) _ HC.out).mono ?_
  rintro e w1 ⟨k, rfl, ⟨k0, _, k1⟩, hc, ho⟩
  have k2 := k1 (by omega)
  have C1 := Lib.hid hc; have P1 := Lib.hid ho
  clear hc ho k1
  go_wp2_with fail
  refine (once_any B g 30 _ C1.out).mono ?_
  rintro e w2 ⟨b, rfl, hc, ho⟩
  have C2 := Lib.hid hc; have P2 := Lib.hid (P1.out.trans ho)
  clear hc ho
  cases b with
  | true =>
    go_wp2_with fail
    refine (below_any B g 2 _ C2.out).mono ?_
    rintro e w3 ⟨r, rfl, ⟨r0, _, r1⟩, hc, ho⟩
    have r2 := r1 (by omega)
    have C3 := Lib.hid hc; have P3 := Lib.hid (P2.out.trans ho)
    clear hc ho r1
    obtain ⟨N, hN, hN2⟩ : ∃ N : Nat, 300 + r = (N : Int) ∧ N ≤ 600 := ⟨(300 + r).toNat, by omega, by omega⟩
    go_wp2_with fail
    clear hN r0 r2
    go_loopw [6, 7] (fun v i wr => ∃ (D : List MDeed) (q : Nat), q ≤ N ∧ i = .int .i64 (q : Int) ∧ D.length ≤ q ∧ RowKit.Hid (∀ x ∈ D, x.wf) ∧ RowKit.Hid (CurAt B wr g) ∧ RowKit.Hid (Only g w wr) ∧ wr.ownsRow w.heap.size 23 7 v D.length (rows7 D)) (fun _ i _ => N - (intOf i).toNat)
    case atStart => exact ⟨[], 0, by omega, rfl, by simp, (fun x hx => absurd hx (by simp)), C3.out.below ((Below.refl _ _).alloc (Nat.le_refl _) _), P3.out.alloc _, World.ownsRow_lit w3 #[] 0 P3.out.size (by unfold maxLen; omega) rfl⟩
    case round =>
      obtain ⟨D, q, hq, rfl, hD, hwf, hcur, honly, hown⟩ := hrel
      have HWF := Lib.hid hwf.out; have C4 := Lib.hid hcur.out; have O4 := Lib.hid honly.out
      have hge := own_ge hown
      have hol := own_lt hown
      have hsz4 := honly.out.size
      have HOWN := Lib.hid hown
      clear hwf hcur honly hown
      by_cases hlt : q < N
      · go_wp2_with fail
        refine (dr_any B g _ C4.out).mono ?_
        rintro e w5 ⟨x, rfl, hx, hc, ho⟩
        have HX := Lib.hid hx; have C5 := Lib.hid hc; have O5 := Lib.hid (O4.out.trans ho)
        have N5 := Lib.hid (own_only HOWN.out ho (fun e => by have := hge g e; omega))
        have hs5 := ho.size
        clear hx hc ho
        unfold dval
        go_wp2_with fail
        refine (sdeedok x _).mono ?_
        rintro e w6 ⟨rfl, hb6⟩
        have hb65 : Below w5.heap.size w5 w6 := ((Below.refl _ _).alloc (Nat.le_refl _) _).trans (hb6.mono (by simp))
        obtain ⟨hc6, hf6⟩ := bcell hb6
        have hz6 := hb6.size
        simp at hz6
        have q6 : w5.heap.size < w6.heap.size := by omega
        have C6 := Lib.hid (C5.out.below hb65); have O2 := Lib.hid (O5.out.trans (Only.of_below hb65)); have N6 := Lib.hid (own_call N5.out hb65)
        have X6 := Lib.hid ((show Own (w5.alloc (.cells (drow x).toArray 23)) w5.heap.size 23 7 from Own.new w5 _ _).call hb6)
        clear hb6 hb65
        by_cases hkeep : deedOk x = true ∧ N < 300
        · obtain ⟨hok, hn3⟩ := hkeep
          rw [hok]
          have hn4 : ¬ (300 : Int) ≤ (N : Int) := by omega
          go_wp2_with (at_builtin; refine wpList_append_own _ rfl (.tmp 36) (.tmp 38) 28 rfl w.heap.size 23 i0 _ 7 56 Tryd.underlying28 hi hz0 hz1 hz2 rfl (by omega) _ D.length _ rfl (own_call N6.out (by repeat (first | exact Below.refl _ _ | refine Below.alloc ?_ (by first | omega | (simp; done) | (simp; omega)) _ | refine Below.setCell ?_ (by first | omega | (simp; done) | (simp; omega)) _))) ⟨w6.heap.size, 0, none⟩ 1 1 (row7 x) rfl rfl (news7 x (by simp)) (by intro u hu; simp [row7] at hu; rcases hu with rfl | rfl | rfl | rfl | rfl | rfl | rfl <;> rfl) (by unfold maxLen; omega) (by omega) (by have := O2.out.size; simp; omega) ?_)
          rintro v' w' h1 h2 h3
          have HO7 : w'.ownsRow w.heap.size 23 7 v' (D ++ [x]).length (rows7 (D ++ [x])) := by
            rw [rows7_add, List.length_append]
            exact h1
          have C7 := Lib.hid (CurAt.own (CurAt.below C6.out (by repeat (first | exact Below.refl _ _ | refine Below.alloc ?_ (by first | omega | (simp; done) | (simp; omega)) _ | refine Below.setCell ?_ (by first | omega | (simp; done) | (simp; omega)) _))) h2 (fun b e => by have := hge b e; omega))
          have O7 := Lib.hid (Only.own (Only.trans O2.out (Only.of_below (by repeat (first | exact Below.refl _ _ | refine Below.alloc ?_ (by first | omega | (simp; done) | (simp; omega)) _ | refine Below.setCell ?_ (by first | omega | (simp; done) | (simp; omega)) _)))) h2 (fun b e => hge b e))
          clear h1 h2 h3
          go_wp2_with fail
          go_roundw
          case rel => exact ⟨D ++ [x], q + 1, by omega, by go_num, by simp; omega, (fun y hy => by rcases List.mem_append.1 hy with hy | hy <;> first | exact HWF.out y hy | (obtain rfl := List.mem_singleton.1 hy; exact HX.out)), C7.out, O7.out, HO7⟩
          case measure => simp [intOf] <;> omega
        · have hkk := hkeep
          obtain ⟨o0, p0⟩ := X6.out.cell (j := 0) (by omega)
          have f0 := X6.out.frozen 0
          obtain ⟨o1, p1⟩ := X6.out.cell (j := 1) (by omega)
          have f1 := X6.out.frozen 1
          obtain ⟨o2, p2⟩ := X6.out.cell (j := 2) (by omega)
          have f2 := X6.out.frozen 2
          obtain ⟨o3, p3⟩ := X6.out.cell (j := 3) (by omega)
          have f3 := X6.out.frozen 3
          obtain ⟨o4, p4⟩ := X6.out.cell (j := 4) (by omega)
          have f4 := X6.out.frozen 4
          obtain ⟨o5, p5⟩ := X6.out.cell (j := 5) (by omega)
          have f5 := X6.out.frozen 5
          obtain ⟨o6, p6⟩ := X6.out.cell (j := 6) (by omega)
          have f6 := X6.out.frozen 6
          by_cases hok : deedOk x = true
          · have hn4 : (300 : Int) ≤ (N : Int) := by
              have : ¬ N < 300 := fun h => hkeep ⟨hok, h⟩
              omega
            clear hkeep
            rw [hok]
            go_wp2_with (at_builtin; refine wpList_append_own _ rfl (.tmp 36) (.tmp 38) 28 rfl w.heap.size 23 i0 _ 7 56 Tryd.underlying28 hi hz0 hz1 hz2 rfl (by omega) _ D.length _ rfl (by show World.ownsRow (World.alloc (setRow w6 w5.heap.size 0 (drow (⟨6, ((q : Int) % 4), 0, 0, 0, 0, 0⟩ : MDeed))) _) _ _ _ _ _ _; exact own_call (own_only N6.out (setRow_only w5.heap.size (drow (⟨6, ((q : Int) % 4), 0, 0, 0, 0, 0⟩ : MDeed)) w6 0) (fun e => by have := hol _ e; omega)) ((Below.refl _ _).alloc (Nat.le_refl _) _)) ⟨w6.heap.size, 0, none⟩ 1 1 (row7 (⟨6, ((q : Int) % 4), 0, 0, 0, 0, 0⟩ : MDeed)) rfl rfl (news7 (⟨6, ((q : Int) % 4), 0, 0, 0, 0, 0⟩ : MDeed) (by simp)) (by intro u hu; simp [row7] at hu; rcases hu with rfl | rfl | rfl | rfl | rfl | rfl | rfl <;> rfl) (by unfold maxLen; omega) (by omega) (by have := O2.out.size; simp; omega) ?_)
            rintro v' w' h1 h2 h3
            have HO7 : w'.ownsRow w.heap.size 23 7 v' (D ++ [(⟨6, ((q : Int) % 4), 0, 0, 0, 0, 0⟩ : MDeed)]).length (rows7 (D ++ [(⟨6, ((q : Int) % 4), 0, 0, 0, 0, 0⟩ : MDeed)])) := by
              rw [rows7_add, List.length_append]
              exact h1
            have hw5 := O5.out.size
            have hBg := C6.out.1
            have C7 := Lib.hid (CurAt.own (W := World.alloc (setRow w6 w5.heap.size 0 (drow (⟨6, ((q : Int) % 4), 0, 0, 0, 0, 0⟩ : MDeed))) _) (CurAt.below (C6.out.only (setRow_only w5.heap.size (drow (⟨6, ((q : Int) % 4), 0, 0, 0, 0, 0⟩ : MDeed)) w6 0) (by omega) (by omega)) ((Below.refl _ _).alloc (Nat.le_refl _) _)) h2 (fun b e => by have := hge b e; omega))
            have O7 := Lib.hid (Only.own (W := World.alloc (setRow w6 w5.heap.size 0 (drow (⟨6, ((q : Int) % 4), 0, 0, 0, 0, 0⟩ : MDeed))) _) ((O2.out.rowNew hw5 (drow (⟨6, ((q : Int) % 4), 0, 0, 0, 0, 0⟩ : MDeed)) 0).alloc _) h2 (fun b e => hge b e))
            clear h1 h2 h3
            have HYW : ((⟨6, ((q : Int) % 4), 0, 0, 0, 0, 0⟩ : MDeed)).wf := by simp [MDeed.wf, I64]; omega
            go_wp2_with fail
            go_roundw
            case rel => exact ⟨D ++ [(⟨6, ((q : Int) % 4), 0, 0, 0, 0, 0⟩ : MDeed)], q + 1, by omega, by go_num, by simp; omega, (fun y hy => by rcases List.mem_append.1 hy with hy | hy <;> first | exact HWF.out y hy | (obtain rfl := List.mem_singleton.1 hy; exact HYW)), C7.out, O7.out, HO7⟩
            case measure => simp [intOf] <;> omega
          · have hok2 : deedOk x = false := by simpa using hok
            clear hkeep hok
            rw [hok2]
            go_wp2_with (at_builtin; refine wpList_append_own _ rfl (.tmp 36) (.tmp 38) 28 rfl w.heap.size 23 i0 _ 7 56 Tryd.underlying28 hi hz0 hz1 hz2 rfl (by omega) _ D.length _ rfl (by show World.ownsRow (World.alloc (setRow w6 w5.heap.size 0 (drow (⟨6, ((q : Int) % 4), 0, 0, 0, 0, 0⟩ : MDeed))) _) _ _ _ _ _ _; exact own_call (own_only N6.out (setRow_only w5.heap.size (drow (⟨6, ((q : Int) % 4), 0, 0, 0, 0, 0⟩ : MDeed)) w6 0) (fun e => by have := hol _ e; omega)) ((Below.refl _ _).alloc (Nat.le_refl _) _)) ⟨w6.heap.size, 0, none⟩ 1 1 (row7 (⟨6, ((q : Int) % 4), 0, 0, 0, 0, 0⟩ : MDeed)) rfl rfl (news7 (⟨6, ((q : Int) % 4), 0, 0, 0, 0, 0⟩ : MDeed) (by simp)) (by intro u hu; simp [row7] at hu; rcases hu with rfl | rfl | rfl | rfl | rfl | rfl | rfl <;> rfl) (by unfold maxLen; omega) (by omega) (by have := O2.out.size; simp; omega) ?_)
            rintro v' w' h1 h2 h3
            have HO7 : w'.ownsRow w.heap.size 23 7 v' (D ++ [(⟨6, ((q : Int) % 4), 0, 0, 0, 0, 0⟩ : MDeed)]).length (rows7 (D ++ [(⟨6, ((q : Int) % 4), 0, 0, 0, 0, 0⟩ : MDeed)])) := by
              rw [rows7_add, List.length_append]
              exact h1
            have hw5 := O5.out.size
            have hBg := C6.out.1
            have C7 := Lib.hid (CurAt.own (W := World.alloc (setRow w6 w5.heap.size 0 (drow (⟨6, ((q : Int) % 4), 0, 0, 0, 0, 0⟩ : MDeed))) _) (CurAt.below (C6.out.only (setRow_only w5.heap.size (drow (⟨6, ((q : Int) % 4), 0, 0, 0, 0, 0⟩ : MDeed)) w6 0) (by omega) (by omega)) ((Below.refl _ _).alloc (Nat.le_refl _) _)) h2 (fun b e => by have := hge b e; omega))
            have O7 := Lib.hid (Only.own (W := World.alloc (setRow w6 w5.heap.size 0 (drow (⟨6, ((q : Int) % 4), 0, 0, 0, 0, 0⟩ : MDeed))) _) ((O2.out.rowNew hw5 (drow (⟨6, ((q : Int) % 4), 0, 0, 0, 0, 0⟩ : MDeed)) 0).alloc _) h2 (fun b e => hge b e))
            clear h1 h2 h3
            have HYW : ((⟨6, ((q : Int) % 4), 0, 0, 0, 0, 0⟩ : MDeed)).wf := by simp [MDeed.wf, I64]; omega
            go_wp2_with fail
            go_roundw
            case rel => exact ⟨D ++ [(⟨6, ((q : Int) % 4), 0, 0, 0, 0, 0⟩ : MDeed)], q + 1, by omega, by go_num, by simp; omega, (fun y hy => by rcases List.mem_append.1 hy with hy | hy <;> first | exact HWF.out y hy | (obtain rfl := List.mem_singleton.1 hy; exact HYW)), C7.out, O7.out, HO7⟩
            case measure => simp [intOf] <;> omega
      · obtain rfl : q = N := by omega
        obtain ⟨A, c, rfl⟩ := own_form HOWN.out (by omega)
        go_wp2_with fail
        first
          | exact bodyPost_ret (v := .slice A D.length c) (by simp [results, Tryd.results36, go_sem]) rfl ⟨_, D, rfl, HOWN.out, HWF.out, by omega, C4.out, O4.out⟩
  | false =>
    have C3 := C2; have P3 := P2
    obtain ⟨N, rfl, hN2⟩ : ∃ N : Nat, k = (N : Int) ∧ N ≤ 600 := ⟨k.toNat, by omega, by omega⟩
    go_wp2_with fail
    go_loopw [6, 7] (fun v i wr => ∃ (D : List MDeed) (q : Nat), q ≤ N ∧ i = .int .i64 (q : Int) ∧ D.length ≤ q ∧ RowKit.Hid (∀ x ∈ D, x.wf) ∧ RowKit.Hid (CurAt B wr g) ∧ RowKit.Hid (Only g w wr) ∧ wr.ownsRow w.heap.size 23 7 v D.length (rows7 D)) (fun _ i _ => N - (intOf i).toNat)
    case atStart => exact ⟨[], 0, by omega, rfl, by simp, (fun x hx => absurd hx (by simp)), C3.out.below ((Below.refl _ _).alloc (Nat.le_refl _) _), P3.out.alloc _, World.ownsRow_lit w2 #[] 0 P3.out.size (by unfold maxLen; omega) rfl⟩
    case round =>
      obtain ⟨D, q, hq, rfl, hD, hwf, hcur, honly, hown⟩ := hrel
      have HWF := Lib.hid hwf.out; have C4 := Lib.hid hcur.out; have O4 := Lib.hid honly.out
      have hge := own_ge hown
      have hol := own_lt hown
      have hsz4 := honly.out.size
      have HOWN := Lib.hid hown
      clear hwf hcur honly hown
      by_cases hlt : q < N
      · go_wp2_with fail
        refine (dr_any B g _ C4.out).mono ?_
        rintro e w5 ⟨x, rfl, hx, hc, ho⟩
        have HX := Lib.hid hx; have C5 := Lib.hid hc; have O5 := Lib.hid (O4.out.trans ho)
        have N5 := Lib.hid (own_only HOWN.out ho (fun e => by have := hge g e; omega))
        have hs5 := ho.size
        clear hx hc ho
        unfold dval
        go_wp2_with fail
        refine (sdeedok x _).mono ?_
        rintro e w6 ⟨rfl, hb6⟩
        have hb65 : Below w5.heap.size w5 w6 := ((Below.refl _ _).alloc (Nat.le_refl _) _).trans (hb6.mono (by simp))
        obtain ⟨hc6, hf6⟩ := bcell hb6
        have hz6 := hb6.size
        simp at hz6
        have q6 : w5.heap.size < w6.heap.size := by omega
        have C6 := Lib.hid (C5.out.below hb65); have O2 := Lib.hid (O5.out.trans (Only.of_below hb65)); have N6 := Lib.hid (own_call N5.out hb65)
        have X6 := Lib.hid ((show Own (w5.alloc (.cells (drow x).toArray 23)) w5.heap.size 23 7 from Own.new w5 _ _).call hb6)
        clear hb6 hb65
        by_cases hkeep : deedOk x = true ∧ N < 300
        · obtain ⟨hok, hn3⟩ := hkeep
          rw [hok]
          have hn4 : ¬ (300 : Int) ≤ (N : Int) := by omega
          go_wp2_with (at_builtin; refine wpList_append_own _ rfl (.tmp 36) (.tmp 38) 28 rfl w.heap.size 23 i0 _ 7 56 Tryd.underlying28 hi hz0 hz1 hz2 rfl (by omega) _ D.length _ rfl (own_call N6.out (by repeat (first | exact Below.refl _ _ | refine Below.alloc ?_ (by first | omega | (simp; done) | (simp; omega)) _ | refine Below.setCell ?_ (by first | omega | (simp; done) | (simp; omega)) _))) ⟨w6.heap.size, 0, none⟩ 1 1 (row7 x) rfl rfl (news7 x (by simp)) (by intro u hu; simp [row7] at hu; rcases hu with rfl | rfl | rfl | rfl | rfl | rfl | rfl <;> rfl) (by unfold maxLen; omega) (by omega) (by have := O2.out.size; simp; omega) ?_)
          rintro v' w' h1 h2 h3
          have HO7 : w'.ownsRow w.heap.size 23 7 v' (D ++ [x]).length (rows7 (D ++ [x])) := by
            rw [rows7_add, List.length_append]
            exact h1
          have C7 := Lib.hid (CurAt.own (CurAt.below C6.out (by repeat (first | exact Below.refl _ _ | refine Below.alloc ?_ (by first | omega | (simp; done) | (simp; omega)) _ | refine Below.setCell ?_ (by first | omega | (simp; done) | (simp; omega)) _))) h2 (fun b e => by have := hge b e; omega))
          have O7 := Lib.hid (Only.own (Only.trans O2.out (Only.of_below (by repeat (first | exact Below.refl _ _ | refine Below.alloc ?_ (by first | omega | (simp; done) | (simp; omega)) _ | refine Below.setCell ?_ (by first | omega | (simp; done) | (simp; omega)) _)))) h2 (fun b e => hge b e))
          clear h1 h2 h3
          go_wp2_with fail
          go_roundw
          case rel => exact ⟨D ++ [x], q + 1, by omega, by go_num, by simp; omega, (fun y hy => by rcases List.mem_append.1 hy with hy | hy <;> first | exact HWF.out y hy | (obtain rfl := List.mem_singleton.1 hy; exact HX.out)), C7.out, O7.out, HO7⟩
          case measure => simp [intOf] <;> omega
        · have hkk := hkeep
          obtain ⟨o0, p0⟩ := X6.out.cell (j := 0) (by omega)
          have f0 := X6.out.frozen 0
          obtain ⟨o1, p1⟩ := X6.out.cell (j := 1) (by omega)
          have f1 := X6.out.frozen 1
          obtain ⟨o2, p2⟩ := X6.out.cell (j := 2) (by omega)
          have f2 := X6.out.frozen 2
          obtain ⟨o3, p3⟩ := X6.out.cell (j := 3) (by omega)
          have f3 := X6.out.frozen 3
          obtain ⟨o4, p4⟩ := X6.out.cell (j := 4) (by omega)
          have f4 := X6.out.frozen 4
          obtain ⟨o5, p5⟩ := X6.out.cell (j := 5) (by omega)
          have f5 := X6.out.frozen 5
          obtain ⟨o6, p6⟩ := X6.out.cell (j := 6) (by omega)
          have f6 := X6.out.frozen 6
          by_cases hok : deedOk x = true
          · have hn4 : (300 : Int) ≤ (N : Int) := by
              have : ¬ N < 300 := fun h => hkeep ⟨hok, h⟩
              omega
            clear hkeep
            rw [hok]
            go_wp2_with (at_builtin; refine wpList_append_own _ rfl (.tmp 36) (.tmp 38) 28 rfl w.heap.size 23 i0 _ 7 56 Tryd.underlying28 hi hz0 hz1 hz2 rfl (by omega) _ D.length _ rfl (by show World.ownsRow (World.alloc (setRow w6 w5.heap.size 0 (drow (⟨6, ((q : Int) % 4), 0, 0, 0, 0, 0⟩ : MDeed))) _) _ _ _ _ _ _; exact own_call (own_only N6.out (setRow_only w5.heap.size (drow (⟨6, ((q : Int) % 4), 0, 0, 0, 0, 0⟩ : MDeed)) w6 0) (fun e => by have := hol _ e; omega)) ((Below.refl _ _).alloc (Nat.le_refl _) _)) ⟨w6.heap.size, 0, none⟩ 1 1 (row7 (⟨6, ((q : Int) % 4), 0, 0, 0, 0, 0⟩ : MDeed)) rfl rfl (news7 (⟨6, ((q : Int) % 4), 0, 0, 0, 0, 0⟩ : MDeed) (by simp)) (by intro u hu; simp [row7] at hu; rcases hu with rfl | rfl | rfl | rfl | rfl | rfl | rfl <;> rfl) (by unfold maxLen; omega) (by omega) (by have := O2.out.size; simp; omega) ?_)
            rintro v' w' h1 h2 h3
            have HO7 : w'.ownsRow w.heap.size 23 7 v' (D ++ [(⟨6, ((q : Int) % 4), 0, 0, 0, 0, 0⟩ : MDeed)]).length (rows7 (D ++ [(⟨6, ((q : Int) % 4), 0, 0, 0, 0, 0⟩ : MDeed)])) := by
              rw [rows7_add, List.length_append]
              exact h1
            have hw5 := O5.out.size
            have hBg := C6.out.1
            have C7 := Lib.hid (CurAt.own (W := World.alloc (setRow w6 w5.heap.size 0 (drow (⟨6, ((q : Int) % 4), 0, 0, 0, 0, 0⟩ : MDeed))) _) (CurAt.below (C6.out.only (setRow_only w5.heap.size (drow (⟨6, ((q : Int) % 4), 0, 0, 0, 0, 0⟩ : MDeed)) w6 0) (by omega) (by omega)) ((Below.refl _ _).alloc (Nat.le_refl _) _)) h2 (fun b e => by have := hge b e; omega))
            have O7 := Lib.hid (Only.own (W := World.alloc (setRow w6 w5.heap.size 0 (drow (⟨6, ((q : Int) % 4), 0, 0, 0, 0, 0⟩ : MDeed))) _) ((O2.out.rowNew hw5 (drow (⟨6, ((q : Int) % 4), 0, 0, 0, 0, 0⟩ : MDeed)) 0).alloc _) h2 (fun b e => hge b e))
            clear h1 h2 h3
            have HYW : ((⟨6, ((q : Int) % 4), 0, 0, 0, 0, 0⟩ : MDeed)).wf := by simp [MDeed.wf, I64]; omega
            go_wp2_with fail
            go_roundw
            case rel => exact ⟨D ++ [(⟨6, ((q : Int) % 4), 0, 0, 0, 0, 0⟩ : MDeed)], q + 1, by omega, by go_num, by simp; omega, (fun y hy => by rcases List.mem_append.1 hy with hy | hy <;> first | exact HWF.out y hy | (obtain rfl := List.mem_singleton.1 hy; exact HYW)), C7.out, O7.out, HO7⟩
            case measure => simp [intOf] <;> omega
          · have hok2 : deedOk x = false := by simpa using hok
            clear hkeep hok
            rw [hok2]
            go_wp2_with (at_builtin; refine wpList_append_own _ rfl (.tmp 36) (.tmp 38) 28 rfl w.heap.size 23 i0 _ 7 56 Tryd.underlying28 hi hz0 hz1 hz2 rfl (by omega) _ D.length _ rfl (by show World.ownsRow (World.alloc (setRow w6 w5.heap.size 0 (drow (⟨6, ((q : Int) % 4), 0, 0, 0, 0, 0⟩ : MDeed))) _) _ _ _ _ _ _; exact own_call (own_only N6.out (setRow_only w5.heap.size (drow (⟨6, ((q : Int) % 4), 0, 0, 0, 0, 0⟩ : MDeed)) w6 0) (fun e => by have := hol _ e; omega)) ((Below.refl _ _).alloc (Nat.le_refl _) _)) ⟨w6.heap.size, 0, none⟩ 1 1 (row7 (⟨6, ((q : Int) % 4), 0, 0, 0, 0, 0⟩ : MDeed)) rfl rfl (news7 (⟨6, ((q : Int) % 4), 0, 0, 0, 0, 0⟩ : MDeed) (by simp)) (by intro u hu; simp [row7] at hu; rcases hu with rfl | rfl | rfl | rfl | rfl | rfl | rfl <;> rfl) (by unfold maxLen; omega) (by omega) (by have := O2.out.size; simp; omega) ?_)
            rintro v' w' h1 h2 h3
            have HO7 : w'.ownsRow w.heap.size 23 7 v' (D ++ [(⟨6, ((q : Int) % 4), 0, 0, 0, 0, 0⟩ : MDeed)]).length (rows7 (D ++ [(⟨6, ((q : Int) % 4), 0, 0, 0, 0, 0⟩ : MDeed)])) := by
              rw [rows7_add, List.length_append]
              exact h1
            have hw5 := O5.out.size
            have hBg := C6.out.1
            have C7 := Lib.hid (CurAt.own (W := World.alloc (setRow w6 w5.heap.size 0 (drow (⟨6, ((q : Int) % 4), 0, 0, 0, 0, 0⟩ : MDeed))) _) (CurAt.below (C6.out.only (setRow_only w5.heap.size (drow (⟨6, ((q : Int) % 4), 0, 0, 0, 0, 0⟩ : MDeed)) w6 0) (by omega) (by omega)) ((Below.refl _ _).alloc (Nat.le_refl _) _)) h2 (fun b e => by have := hge b e; omega))
            have O7 := Lib.hid (Only.own (W := World.alloc (setRow w6 w5.heap.size 0 (drow (⟨6, ((q : Int) % 4), 0, 0, 0, 0, 0⟩ : MDeed))) _) ((O2.out.rowNew hw5 (drow (⟨6, ((q : Int) % 4), 0, 0, 0, 0, 0⟩ : MDeed)) 0).alloc _) h2 (fun b e => hge b e))
            clear h1 h2 h3
            have HYW : ((⟨6, ((q : Int) % 4), 0, 0, 0, 0, 0⟩ : MDeed)).wf := by simp [MDeed.wf, I64]; omega
            go_wp2_with fail
            go_roundw
            case rel => exact ⟨D ++ [(⟨6, ((q : Int) % 4), 0, 0, 0, 0, 0⟩ : MDeed)], q + 1, by omega, by go_num, by simp; omega, (fun y hy => by rcases List.mem_append.1 hy with hy | hy <;> first | exact HWF.out y hy | (obtain rfl := List.mem_singleton.1 hy; exact HYW)), C7.out, O7.out, HO7⟩
            case measure => simp [intOf] <;> omega
      · obtain rfl : q = N := by omega
        obtain ⟨A, c, rfl⟩ := own_form HOWN.out (by omega)
        go_wp2_with fail
        first
          | exact bodyPost_ret (v := .slice A D.length c) (by simp [results, Tryd.results36, go_sem]) rfl ⟨_, D, rfl, HOWN.out, HWF.out, by omega, C4.out, O4.out⟩
end Go.Proofs.YtdejncnjaebjfaaDoor
