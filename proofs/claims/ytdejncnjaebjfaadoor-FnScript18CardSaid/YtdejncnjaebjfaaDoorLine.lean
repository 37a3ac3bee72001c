/-
  DeedLine of the program and of the reference.
-/
import Derived.Test.YtdejncnjaebjfaaDoorLineW
namespace Go.Proofs.YtdejncnjaebjfaaDoor
set_option linter.unusedVariables false
set_option linter.unusedSimpArgs false
open Go.ChangeShapes Go.WideShapes Go.ChangeAt Go.RowKit

/-- what DeedLine returns -/
def lineRes (x : MDeed) : List UInt8 × Bool := if deedOk x then (lineOf x, true) else ([], false)
def ret_line (x : MDeed) : Ending := .returned (.tuple #[.string (bs (lineRes x).1), .bool (lineRes x).2])

theorem SlR.int {lo : Nat} {w w' : World} {A : Option Addr} {n c : Nat} {xs : List Int} (h : SlR 1 RInt lo w (.slice A n c) xs) (ha : Agree lo w w') {i : Nat} (hi : i < xs.length) :
    ∃ (x : Int) (b o : Nat), xs[i]? = some x ∧ A = some ⟨b, o, none⟩ ∧ lo ≤ b ∧ b < w.heap.size ∧ b < w'.heap.size ∧ w'.cell? ⟨b, o + i, none⟩ = some (.int .i64 x) ∧ I64 x := by
  obtain ⟨x, b, o, cs, hx, e, hlo, _, hc, hr, hw⟩ := h.get RInt.ok ha hi
  subst hr
  have h0 := hc 0 _ rfl
  rw [Nat.mul_one, Nat.add_zero] at h0
  exact ⟨x, b, o, hx, e, hlo, h.blt e hi (by omega), cell_lt h0, h0, hw⟩

set_option maxHeartbeats 1000000 in
theorem sline (x : MDeed) (w : World) (hx : x.wf) :
    Calls Tryd.prog 40 #[.agg #[.int .i64 x.kind, .int .i64 x.at_, .int .i64 x.to, .int .i64 x.lo, .int .i64 x.hi, .int .i64 x.key, .int .i64 x.value]] w fun e w' => e = ret_line x ∧ Below w.heap.size w w' := by
  have HX := Lib.hid hx; clear hx
  by_cases hok : deedOk x = true
  · have hk := ((deedOk_iff x).1 hok).kind
    have e : lineRes x = (lineOf x, true) := by unfold lineRes; rw [if_pos hok]
    have E := Lib.hid e; clear e
    have hd := fun w => sdeedok x w
    rw [hok] at hd
    have HD := Lib.hid hd; clear hd hok
    go_enter Tryd.func40, Tryd.ntmps40
    go_wp2_with fail
    refine (HD.out _).mono ?_
    rintro e w1 ⟨rfl, hb1⟩
    obtain ⟨hc1, hf1⟩ := bcell hb1
    have hz0 := hb1.size
    simp at hz0
    have hz : w.heap.size < w1.heap.size := by omega
    clear hz0
    have hb1' : Below w.heap.size w w1 := ((Below.refl _ _).alloc (Nat.le_refl _) _).trans (hb1.mono (by simp))
    have HB1 := Lib.hid hb1'; clear hb1 hb1'
    go_wp2_with fail
    refine (sname x.kind _ hk).mono ?_
    rintro e w2 ⟨rfl, hb2⟩
    obtain ⟨hc2, hf2⟩ := bcell hb2
    have HB2 := Lib.hid (HB1.out.trans (hb2.mono HB1.out.size)); clear hb2
    go_wp2_with fail
    refine (snums x _ HX.out hk).mono ?_
    rintro e w3 ⟨v, rfl, hs3, hb3⟩
    obtain ⟨A, c, rfl, _⟩ := hs3.form
    have HS3 := Lib.hid hs3; clear hs3
    have HB3 := Lib.hid (HB2.out.trans (hb3.mono HB2.out.size)); clear hb3 hc1 hf1 hc2 hf2
    have hl := nums_len x
    have hwf := nums_wf HX.out
    have HWF := Lib.hid hwf; clear hwf
    have hnl := kname_len x.kind
    go_wp2_with fail
    go_loopw [4, 6] (fun o i wr => ∃ k : Nat, k ≤ (nums x).length ∧ i = .int .i64 (k : Int) ∧ o = .string (bs (kname x.kind ++ ((nums x).take k).flatMap numTxt)) ∧ Below w3.heap.size w3 wr) (fun _ i _ => (nums x).length - (intOf i).toNat)
    case atStart => exact ⟨0, by omega, rfl, by simp, Below.refl _ _⟩
    case round =>
      obtain ⟨k, hkl, rfl, rfl, hb⟩ := hrel
      by_cases hlt : k < (nums x).length
      · obtain ⟨n, b, o, hx, rfl, _, _, hb1, g0, hw⟩ := HS3.out.int (Agree.of_below hb _) hlt
        have HT := Lib.hid (flat_take hx); clear hx
        have l1 := txt_len hw.1 hw.2
        have l2 : (((nums x).take k).flatMap numTxt).length ≤ 63 := by
          have := flat_len ((nums x).take k) (fun n hn => HWF.out n (List.mem_of_mem_take hn))
          rw [List.length_take] at this
          omega
        generalize hy : (List.take k (nums x)).flatMap numTxt = y at *
        have L1 : ¬ 9223372036854775807 < (kname x.kind).length + y.length + 1 := by omega
        have L2 : ¬ 9223372036854775807 < (kname x.kind).length + y.length + 1 + (txt n).length := by omega
        have L3 : ¬ 9223372036854775807 < (kname x.kind).length + (y.length + 1) := by omega
        have L4 : ¬ 9223372036854775807 < (kname x.kind).length + (y.length + 1) + (txt n).length := by omega
        have HY := Lib.hid hy; clear hy
        go_wp2_with fail
        refine (stext n wr hw.1 hw.2).mono ?_
        rintro e w4 ⟨rfl, hb4⟩
        go_wp2_with fail
        go_roundw
        case rel => exact ⟨k + 1, by omega, by go_num, by rw [HT.out], hb.trans (hb4.mono hb.size)⟩
        case measure => simp [intOf]; omega
      · obtain rfl : k = (nums x).length := by omega
        go_wp2_with fail
        go_ret2
        exact ⟨by unfold ret_line; rw [E.out]; unfold lineOf; rw [List.take_of_length_le (Nat.le_refl _)]; rfl, HB3.out.trans (hb.mono HB3.out.size)⟩
  · have e : lineRes x = ([], false) := by unfold lineRes; rw [if_neg hok]
    have E := Lib.hid e; clear e
    have hd := fun w => sdeedok x w
    rw [show deedOk x = false from by simpa using hok] at hd
    have HD := Lib.hid hd; clear hd hok
    go_enter Tryd.func40, Tryd.ntmps40
    go_wp2_with fail
    refine (HD.out _).mono ?_
    rintro e w1 ⟨rfl, hb1⟩
    have hb1' : Below w.heap.size w w1 := ((Below.refl _ _).alloc (Nat.le_refl _) _).trans (hb1.mono (by simp))
    go_wp2_with fail
    go_ret2
    exact ⟨by unfold ret_line; rw [E.out]; rfl, hb1'⟩

set_option maxHeartbeats 1000000 in
theorem iline (x : MDeed) (w : World) (hx : x.wf) :
    Calls Tryd.prog 21 #[.agg #[.int .i64 x.kind, .int .i64 x.at_, .int .i64 x.to, .int .i64 x.lo, .int .i64 x.hi, .int .i64 x.key, .int .i64 x.value]] w fun e w' => e = ret_line x ∧ Below w.heap.size w w' := by
  have HX := Lib.hid hx; clear hx
  by_cases hok : deedOk x = true
  · have hk := ((deedOk_iff x).1 hok).kind
    have e : lineRes x = (lineOf x, true) := by unfold lineRes; rw [if_pos hok]
    have E := Lib.hid e; clear e
    have hd := fun w => ideedok x w
    rw [hok] at hd
    have HD := Lib.hid hd; clear hd hok
    have hfl : (nums x).length = (kform x.kind).length := by unfold nums; rw [List.length_map]
    have HFL := Lib.hid hfl
    have hl := nums_len x
    have hwf := nums_wf HX.out
    have HWF := Lib.hid hwf; clear hwf
    have hnl := kname_len x.kind
    have hf3 := kform_len x.kind
    clear hfl
    go_enter Tryd.func21, Tryd.ntmps21
    go_wp2_with fail
    refine (HD.out _).mono ?_
    rintro e w1 ⟨rfl, hb1⟩
    obtain ⟨hc1, hf1⟩ := bcell hb1
    have hb1' : Below w.heap.size w w1 := ((Below.refl _ _).alloc (Nat.le_refl _) _).trans (hb1.mono (by simp))
    have HB1 := Lib.hid hb1'; clear hb1 hb1'
    go_wp2_with fail
    refine (iword x.kind _ hk).mono ?_
    rintro e w' ⟨rfl, rfl⟩
    have cells : ∀ c : Int, (c = 65 ∨ c = 84 ∨ c = 76 ∨ c = 72 ∨ c = 75 ∨ c = 86) → w1.cell? ⟨w.heap.size, koff c, none⟩ = some (.int .i64 (knum x c)) := by
      intro c hc
      rw [hc1 _ _ (by simp), World.cell?_alloc_new]
      rcases hc with rfl | rfl | rfl | rfl | rfl | rfl <;> rfl
    have HC := Lib.hid cells; clear cells hc1 hf1
    go_wp2_with fail
    go_loop [4, 18] (fun o i => ∃ k : Nat, k ≤ (kform x.kind).length ∧ i = .int .i64 (k : Int) ∧ o = .string (bs (kname x.kind ++ ((nums x).take k).flatMap numTxt))) (fun _ i => (kform x.kind).length - (intOf i).toNat)
    case atStart => exact ⟨0, by omega, rfl, by simp⟩
    case round =>
      obtain ⟨k, hkl, rfl, rfl⟩ := hrel
      by_cases hlt : k < (kform x.kind).length
      · have hc : (bAt (kform x.kind) k = 65 ∨ bAt (kform x.kind) k = 84 ∨ bAt (kform x.kind) k = 76 ∨ bAt (kform x.kind) k = 72 ∨ bAt (kform x.kind) k = 75 ∨ bAt (kform x.kind) k = 86) ∧ (nums x)[k]? = some (knum x (bAt (kform x.kind) k)) := by
          have h1 : (kform x.kind)[k]? = some ((kform x.kind)[k]'hlt) := List.getElem?_eq_getElem hlt
          have h2 : bAt (kform x.kind) k = (((kform x.kind)[k]'hlt).toNat : Int) := by
            unfold bAt; rw [List.getD_eq_getElem?_getD, h1]; rfl
          rw [h2]
          refine ⟨kform_mem (List.getElem_mem hlt), ?_⟩
          unfold nums
          rw [List.getElem?_map, h1]
          rfl
        obtain ⟨hc, hn⟩ := hc
        have HN := Lib.hid (flat_take hn); clear hn
        have hw := knum_wf HX.out (bAt (kform x.kind) k)
        have hcell := HC.out _ hc
        generalize hb : bAt (kform x.kind) k = c at hc hw hcell HN
        have HBB := Lib.hid hb
        have l1 := txt_len hw.1 hw.2
        have l2 : (((nums x).take k).flatMap numTxt).length ≤ 63 := by
          have := flat_len ((nums x).take k) (fun n hn => HWF.out n (List.mem_of_mem_take hn))
          rw [List.length_take] at this
          omega
        generalize hy : (List.take k (nums x)).flatMap numTxt = y at *
        generalize hnn : knum x c = n at *
        have L1 : ¬ 9223372036854775807 < 1 + (txt n).length := by omega
        have L2 : ¬ 9223372036854775807 < (kname x.kind).length + y.length + (1 + (txt n).length) := by omega
        have L3 : ¬ 9223372036854775807 < (kname x.kind).length + (y.length) + ((txt n).length + 1) := by omega
        have L4 : ¬ 9223372036854775807 < (txt n).length + 1 := by omega
        have HY := Lib.hid hy; have HNN := Lib.hid hnn; clear hy hnn
        go_wp2_with fail
        refine (iplace w.heap.size c w1 hc).mono ?_
        rintro e w' ⟨rfl, rfl⟩
        go_wp2_with fail
        refine (itext n w1 hw.1 hw.2).mono ?_
        rintro e w' ⟨rfl, rfl⟩
        go_wp2_with fail
        go_round
        case rel => exact ⟨k + 1, by omega, by go_num, by rw [HN.out]⟩
        case measure => simp [intOf]; omega
      · obtain rfl : k = (kform x.kind).length := by omega
        go_wp2_with fail
        go_ret2
        exact ⟨by unfold ret_line; rw [E.out]; unfold lineOf; rw [← HFL.out, List.take_of_length_le (Nat.le_refl _)]; rfl, HB1.out⟩
  · have e : lineRes x = ([], false) := by unfold lineRes; rw [if_neg hok]
    have E := Lib.hid e; clear e
    have hd := fun w => ideedok x w
    rw [show deedOk x = false from by simpa using hok] at hd
    have HD := Lib.hid hd; clear hd hok
    go_enter Tryd.func21, Tryd.ntmps21
    go_wp2_with fail
    refine (HD.out _).mono ?_
    rintro e w1 ⟨rfl, hb1⟩
    have hb1' : Below w.heap.size w w1 := ((Below.refl _ _).alloc (Nat.le_refl _) _).trans (hb1.mono (by simp))
    go_wp2_with fail
    go_ret2
    exact ⟨by unfold ret_line; rw [E.out]; rfl, hb1'⟩
end Go.Proofs.YtdejncnjaebjfaaDoor
