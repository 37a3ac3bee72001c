/-
  The law FnScript18: a drawn script is read as its deeds; cut behind one of its lines it is the script of the deeds ahead, cut within one that line is told.
-/
import Derived.Test.YtdejncnjaebjfaaDoorDr9
import Derived.Test.YtdejncnjaebjfaaDoorRs
import Derived.Test.YtdejncnjaebjfaaDoorScI
namespace Go.Proofs.YtdejncnjaebjfaaDoor.fnScript18
set_option linter.unusedVariables false
set_option linter.unusedSimpArgs false
open Go.ChangeShapes Go.WideShapes Go.ChangeAt Go.RowKit

set_option maxRecDepth 100000 in
set_option maxHeartbeats 8000000 in
theorem walk (A : Option Addr) (n c : Nat) (hm : (n : Int) ≤ 9223372036854775807) (m : Int) (w : World) (hy : BytesAt w.heap.size w A n) (h0 : w.cell? ⟨0, 0, none⟩ = some (.int .i64 m)) :
    Calls Tryd.prog 5 #[.slice A n c] w fun e w' => e = .returned (.bool true) ∧ Below w.heap.size w w' := by
  have HY := Lib.hid hy; have H0 := Lib.hid h0; clear hy h0
  by_cases hbig : (n : Int) > 1048576
  · have hb' : decide ((n : Int) > 1048576) = true := by simpa using hbig
    go_enter Tryd.func5, Tryd.ntmps5
    go_wp2_with fail
    refine (big_any A n c w).mono ?_
    rintro e w' ⟨rfl, rfl⟩
    go_wp2_with fail
    go_ret
    exact ⟨rfl, Below.refl _ _⟩
  · have hb' : decide ((n : Int) > 1048576) = false := by simpa using hbig
    go_enter Tryd.func5, Tryd.ntmps5
    go_wp2_with fail
    refine (big_any A n c w).mono ?_
    rintro e w' ⟨rfl, rfl⟩
    go_wp2_with fail
    refine (dst_any w A n c (by omega) HY.out).mono ?_
    rintro e w1 ⟨v, xs, rfl, hown, hwf, hxl, hb1⟩
    obtain ⟨A1, c1, rfl⟩ := own_form hown (by omega)
    have HWF := Lib.hid hwf; have B1 := Lib.hid hb1; have O1 := Lib.hid hown
    clear hwf hb1 hown
    have hx2 : xs.length ≤ 1048576 := by omega
    have hsi := fun (w' : World) (hb : Below w1.heap.size w1 w') => iscript A1 c1 xs w' _ (own_deeds (own_call O1.out hb) HWF.out hx2) hx2
    have hss := fun (w' : World) (hb : Below w1.heap.size w1 w') => sscript A1 c1 xs w' _ (own_deeds (own_call O1.out hb) HWF.out hx2) hx2
    unfold ret_script at hsi hss
    rcases script_cases xs with hno | ⟨hyes, hfl, hx3, hps, hcut⟩
    · rw [hno] at hsi hss
      simp only at hsi hss
      have HSI := Lib.hid hsi; have HSS := Lib.hid hss
      clear hsi hss hno
      go_wp2_with fail
      refine (HSI.out w1 (Below.refl _ _)).mono ?_
      rintro e w2 ⟨rfl, hb2⟩
      have B2 := Lib.hid hb2; clear hb2
      go_wp2_with fail
      refine (HSS.out w2 B2.out).mono ?_
      rintro e w3 ⟨rfl, hb3⟩
      have B3 := Lib.hid (B2.out.trans (hb3.mono B2.out.size)); clear hb3
      go_wp2_with fail
      go_ret
      exact ⟨by simp, B1.out.trans (B3.out.mono B1.out.size)⟩
    · rw [hyes] at hsi hss
      simp only at hsi hss
      have hi := fun w m hm => iscr (xs.flatMap lineNl) w m hm (by omega)
      rw [hps] at hi
      have hi2 := fun (cut : Nat) w m hm => iscr ((xs.flatMap lineNl).take cut) w m hm (by rw [List.length_take]; omega)
      unfold RetScr at hi hi2
      simp only at hi
      generalize xs.flatMap lineNl = s at *
      have HSI := Lib.hid hsi; have HSS := Lib.hid hss; have HI := Lib.hid hi; have HI2 := Lib.hid hi2; have HCUT := Lib.hid hcut
      clear hsi hss hi hi2 hcut hyes hps
      go_wp2_with fail
      refine (HSI.out w1 (Below.refl _ _)).mono ?_
      rintro e w2 ⟨rfl, hb2⟩
      have B2 := Lib.hid hb2; clear hb2
      go_wp2_with fail
      refine (HSS.out w2 B2.out).mono ?_
      rintro e w3 ⟨rfl, hb3⟩
      have B3 := Lib.hid (B2.out.trans (hb3.mono B2.out.size)); clear hb3
      have hm3 := ((B1.out.trans (B3.out.mono B1.out.size)).cell (p := ⟨0, 0, none⟩) (cell_lt H0.out)).trans H0.out
      have HM3 := Lib.hid hm3; clear hm3
      go_wp2_with fail
      refine (HI.out w3 m HM3.out).mono ?_
      rintro e w4 ⟨v4, rfl, ho4, hb4⟩
      obtain ⟨A4, c4, rfl⟩ := own_form ho4 hx2
      have O4 := Lib.hid ho4
      have B4 := Lib.hid (B3.out.trans (hb4.mono B3.out.size)); clear hb4 ho4
      have hls : s.length ≤ 20000 := hfl
      go_wp2_with fail
      refine (at_any A n c _ (by omega) (HY.out.keep (B1.out.trans (B4.out.mono B1.out.size)))).mono ?_
      rintro e w' ⟨a, rfl, a0, a1, rfl⟩
      obtain ⟨cut, hcut, hcl⟩ : ∃ cut : Nat, (a * 13).tmod ((s.length : Int) + 1) = (cut : Int) ∧ cut ≤ s.length := by
        have h1 := Int.tmod_nonneg ((s.length : Int) + 1) (show 0 ≤ a * 13 by omega)
        have h2 := Int.tmod_lt_of_pos (a * 13) (show 0 < (s.length : Int) + 1 by omega)
        exact ⟨((a * 13).tmod ((s.length : Int) + 1)).toNat, by omega, by omega⟩
      have hmod : (a * 13) % ((s.length : Int) + 1) = (cut : Int) := by rw [← hcut, Int.tmod_eq_emod_of_nonneg (by omega)]
      obtain ⟨e5, hp5, hn5, he5⟩ := HCUT.out cut hcl
      have hi5 := HI2.out cut
      rw [hp5] at hi5
      simp only at hi5
      obtain ⟨ys, hys, hyl, hyg, hyw⟩ : ∃ ys : List MDeed, xs.take (nlTo s cut) = ys ∧ ys.length = nlTo s cut ∧ (∀ i, i < nlTo s cut → ys[i]? = xs[i]?) ∧ ∀ x ∈ ys, x.wf :=
        ⟨_, rfl, by rw [List.length_take]; omega, fun i hi => by rw [List.getElem?_take, if_pos hi], fun x hx => HWF.out x (List.mem_of_mem_take hx)⟩
      rw [hys] at hi5
      have HYG := Lib.hid hyg; have HYW := Lib.hid hyw; have HYL := Lib.hid hyl
      clear hyg hyw hys hyl
      have HI5 := Lib.hid hi5; have HE5 := Lib.hid he5; have HMOD := Lib.hid hmod
      have hb13 : a * 13 ≤ 9223372036854775807 := by omega
      clear hi5 he5 hp5 HI2 HCUT HI HSI HSS hcut
      go_wp2_with fail
      go_loopw [12, 13] (fun ln i wr => ∃ q : Nat, q ≤ cut ∧ i = .int .i64 (q : Int) ∧ ln = .int .i64 (nlTo s q : Int) ∧ wr = w4) (fun _ i _ => cut - (intOf i).toNat)
      case atStart => exact ⟨0, by omega, rfl, rfl, rfl⟩
      case round =>
        obtain ⟨q, hq, rfl, rfl, rfl⟩ := hrel
        have hnl := nlTo_le s q
        by_cases hlt : q < cut
        · have hqs : q < s.length := by omega
          by_cases hs : bAt s q = 10
          · have hs' : (bAt s q == 10) = true := by simpa using hs
            have hnx : (nlTo s (q + 1) : Int) = (nlTo s q : Int) + 1 := by
              rw [show nlTo s (q + 1) = nlTo s q + (if bAt s q = 10 then 1 else 0) from rfl, if_pos hs]; omega
            have HNX := Lib.hid hnx; clear hnx
            go_wp2_with fail
            go_roundw
            case rel => exact ⟨q + 1, by omega, by go_num, by rw [HNX.out], trivial⟩
            case measure => simp [intOf] <;> omega
          · have hs' : (bAt s q == 10) = false := by simpa using hs
            have hnx : (nlTo s (q + 1) : Int) = (nlTo s q : Int) := by
              rw [show nlTo s (q + 1) = nlTo s q + (if bAt s q = 10 then 1 else 0) from rfl, if_neg hs]; omega
            have HNX := Lib.hid hnx; clear hnx
            go_wp2_with fail
            go_roundw
            case rel => exact ⟨q + 1, by omega, by go_num, by rw [HNX.out], trivial⟩
            case measure => simp [intOf] <;> omega
        · obtain rfl : q = cut := by omega
          have HM4 := Lib.hid ((B1.out.trans (B4.out.mono B1.out.size)).cell (p := ⟨0, 0, none⟩) (cell_lt H0.out) |>.trans H0.out)
          by_cases he0 : e5 = 0
          · subst he0
            have hor := HE5.out.1 rfl
            by_cases hc0 : q = 0
            · subst hc0
              go_wp2_with fail
              refine (HI5.out wr m HM4.out).mono ?_
              rintro e w6 ⟨v6, rfl, ho6, hb6⟩
              obtain ⟨A6, c6, rfl⟩ := own_form ho6 (by rw [HYL.out]; omega)
              have O6 := Lib.hid ho6; have B6 := Lib.hid hb6
              have hyl := HYL.out
              clear ho6 hb6
              go_wp2_with fail
              have SL4 := Lib.hid (own_deeds (own_call O4.out B6.out) HWF.out hx2)
              have SL1 := Lib.hid (own_deeds (own_call O1.out (B4.out.trans (B6.out.mono B4.out.size))) HWF.out hx2)
              have SL6 := Lib.hid (own_deeds O6.out HYW.out (by rw [HYL.out]; omega))
              have hnb := nlTo_le s 0
              generalize nlTo s 0 = L at *
              go_loopw [17] (fun i wr' => ∃ q : Nat, q ≤ xs.length ∧ i = .int .i64 (q : Int) ∧ Below w6.heap.size w6 wr') (fun i _ => xs.length - (intOf i).toNat)
              case atStart => exact ⟨0, by omega, rfl, Below.refl _ _⟩
              case round =>
                obtain ⟨q2, hq2, rfl, hb7⟩ := hrel
                by_cases hlt2 : q2 < xs.length
                · obtain ⟨x, b, o, hx, rfl, _, _, hbb, g0, g1, g2, g3, g4, g5, g6, _⟩ := SL4.out.getDeed (Agree.of_below hb7 _) hlt2
                  obtain ⟨x', b', o', hx', rfl, _, _, hbb', g0', g1', g2', g3', g4', g5', g6', _⟩ := SL1.out.getDeed (Agree.of_below hb7 _) hlt2
                  obtain rfl : x = x' := by rw [hx] at hx'; injection hx'
                  clear hx'
                  by_cases hn2 : q2 < L
                  · obtain ⟨y, b2, o2, hy2, rfl, _, _, hbb2, k0, k1, k2, k3, k4, k5, k6, _⟩ := SL6.out.getDeed (Agree.of_below hb7 _) (i := q2) (by rw [HYL.out]; exact hn2)
                    obtain rfl : x = y := by rw [HYG.out q2 hn2, hx] at hy2; injection hy2
                    clear hx hy2
                    have hn3 : (q2 : Int) < (L : Int) := by omega
                    have hn4 : q2 < ys.length := by rw [HYL.out]; exact hn2
                    go_wp2_with fail
                    go_quiet (fail)
                    go_wp2_with fail
                    go_roundw
                    case rel => exact ⟨q2 + 1, by omega, by go_num, below_drewN hb7 _⟩
                    case measure => simp [intOf] <;> omega
                  · clear hx
                    have hn3 : ¬ (q2 : Int) < (L : Int) := by omega
                    go_wp2_with fail
                    go_quiet (fail)
                    go_wp2_with fail
                    go_roundw
                    case rel => exact ⟨q2 + 1, by omega, by go_num, below_drewN hb7 _⟩
                    case measure => simp [intOf] <;> omega
                · obtain rfl : q2 = xs.length := by omega
                  go_wp2_with fail
                  go_ret
                  exact ⟨rfl, B1.out.trans ((B4.out.trans ((B6.out.mono B4.out.size).trans (hb7.mono (Nat.le_trans B4.out.size B6.out.size)))).mono B1.out.size)⟩
            · obtain ⟨k, rfl⟩ : ∃ k, q = k + 1 := ⟨q - 1, by omega⟩
              have hlast : bAt s k = 10 := by
                rcases hor with h | h
                · omega
                · simpa using h
              have hlast' : (bAt s k == 10) = true := by simpa using hlast
              clear hor hlast hc0
              have hks : k < s.length := by omega
              go_wp2_with fail
              refine (HI5.out wr m HM4.out).mono ?_
              rintro e w6 ⟨v6, rfl, ho6, hb6⟩
              obtain ⟨A6, c6, rfl⟩ := own_form ho6 (by rw [HYL.out]; omega)
              have O6 := Lib.hid ho6; have B6 := Lib.hid hb6
              have hyl := HYL.out
              clear ho6 hb6
              go_wp2_with fail
              have SL4 := Lib.hid (own_deeds (own_call O4.out B6.out) HWF.out hx2)
              have SL1 := Lib.hid (own_deeds (own_call O1.out (B4.out.trans (B6.out.mono B4.out.size))) HWF.out hx2)
              have SL6 := Lib.hid (own_deeds O6.out HYW.out (by rw [HYL.out]; omega))
              have hnb := nlTo_le s (k + 1)
              generalize nlTo s (k + 1) = L at *
              go_loopw [17] (fun i wr' => ∃ q : Nat, q ≤ xs.length ∧ i = .int .i64 (q : Int) ∧ Below w6.heap.size w6 wr') (fun i _ => xs.length - (intOf i).toNat)
              case atStart => exact ⟨0, by omega, rfl, Below.refl _ _⟩
              case round =>
                obtain ⟨q2, hq2, rfl, hb7⟩ := hrel
                by_cases hlt2 : q2 < xs.length
                · obtain ⟨x, b, o, hx, rfl, _, _, hbb, g0, g1, g2, g3, g4, g5, g6, _⟩ := SL4.out.getDeed (Agree.of_below hb7 _) hlt2
                  obtain ⟨x', b', o', hx', rfl, _, _, hbb', g0', g1', g2', g3', g4', g5', g6', _⟩ := SL1.out.getDeed (Agree.of_below hb7 _) hlt2
                  obtain rfl : x = x' := by rw [hx] at hx'; injection hx'
                  clear hx'
                  by_cases hn2 : q2 < L
                  · obtain ⟨y, b2, o2, hy2, rfl, _, _, hbb2, k0, k1, k2, k3, k4, k5, k6, _⟩ := SL6.out.getDeed (Agree.of_below hb7 _) (i := q2) (by rw [HYL.out]; exact hn2)
                    obtain rfl : x = y := by rw [HYG.out q2 hn2, hx] at hy2; injection hy2
                    clear hx hy2
                    have hn3 : (q2 : Int) < (L : Int) := by omega
                    have hn4 : q2 < ys.length := by rw [HYL.out]; exact hn2
                    go_wp2_with fail
                    go_quiet (fail)
                    go_wp2_with fail
                    go_roundw
                    case rel => exact ⟨q2 + 1, by omega, by go_num, below_drewN hb7 _⟩
                    case measure => simp [intOf] <;> omega
                  · clear hx
                    have hn3 : ¬ (q2 : Int) < (L : Int) := by omega
                    go_wp2_with fail
                    go_quiet (fail)
                    go_wp2_with fail
                    go_roundw
                    case rel => exact ⟨q2 + 1, by omega, by go_num, below_drewN hb7 _⟩
                    case measure => simp [intOf] <;> omega
                · obtain rfl : q2 = xs.length := by omega
                  go_wp2_with fail
                  go_ret
                  exact ⟨rfl, B1.out.trans ((B4.out.trans ((B6.out.mono B4.out.size).trans (hb7.mono (Nat.le_trans B4.out.size B6.out.size)))).mono B1.out.size)⟩
          · have hne : ¬ (q = 0 ∨ bAt s (q - 1) = 10) := fun h => he0 (HE5.out.2 h)
            have he1 : (e5 == 0) = false := by rw [beq_eq_false_iff_ne]; exact he0
            obtain ⟨k, rfl⟩ : ∃ k, q = k + 1 := ⟨q - 1, by omega⟩
            have hlast' : (bAt s k == 10) = false := by
              rw [beq_eq_false_iff_ne]
              intro h
              exact hne (.inr (by simpa using h))
            clear hne he0
            have hks : k < s.length := by omega
            go_wp2_with fail
            refine (HI5.out wr m HM4.out).mono ?_
            rintro e w6 ⟨v6, rfl, ho6, hb6⟩
            obtain ⟨A6, c6, rfl⟩ := own_form ho6 (by rw [HYL.out]; omega)
            have O6 := Lib.hid ho6; have B6 := Lib.hid hb6
            have hyl := HYL.out
            clear ho6 hb6
            go_wp2_with fail
            have SL4 := Lib.hid (own_deeds (own_call O4.out B6.out) HWF.out hx2)
            have SL1 := Lib.hid (own_deeds (own_call O1.out (B4.out.trans (B6.out.mono B4.out.size))) HWF.out hx2)
            have SL6 := Lib.hid (own_deeds O6.out HYW.out (by rw [HYL.out]; omega))
            have hnb := nlTo_le s (k + 1)
            generalize nlTo s (k + 1) = L at *
            go_loopw [17] (fun i wr' => ∃ q : Nat, q ≤ xs.length ∧ i = .int .i64 (q : Int) ∧ Below w6.heap.size w6 wr') (fun i _ => xs.length - (intOf i).toNat)
            case atStart => exact ⟨0, by omega, rfl, Below.refl _ _⟩
            case round =>
              obtain ⟨q2, hq2, rfl, hb7⟩ := hrel
              by_cases hlt2 : q2 < xs.length
              · obtain ⟨x, b, o, hx, rfl, _, _, hbb, g0, g1, g2, g3, g4, g5, g6, _⟩ := SL4.out.getDeed (Agree.of_below hb7 _) hlt2
                obtain ⟨x', b', o', hx', rfl, _, _, hbb', g0', g1', g2', g3', g4', g5', g6', _⟩ := SL1.out.getDeed (Agree.of_below hb7 _) hlt2
                obtain rfl : x = x' := by rw [hx] at hx'; injection hx'
                clear hx'
                by_cases hn2 : q2 < L
                · obtain ⟨y, b2, o2, hy2, rfl, _, _, hbb2, k0, k1, k2, k3, k4, k5, k6, _⟩ := SL6.out.getDeed (Agree.of_below hb7 _) (i := q2) (by rw [HYL.out]; exact hn2)
                  obtain rfl : x = y := by rw [HYG.out q2 hn2, hx] at hy2; injection hy2
                  clear hx hy2
                  have hn3 : (q2 : Int) < (L : Int) := by omega
                  have hn4 : q2 < ys.length := by rw [HYL.out]; exact hn2
                  go_wp2_with fail
                  go_quiet (fail)
                  go_wp2_with fail
                  go_roundw
                  case rel => exact ⟨q2 + 1, by omega, by go_num, below_drewN hb7 _⟩
                  case measure => simp [intOf] <;> omega
                · clear hx
                  have hn3 : ¬ (q2 : Int) < (L : Int) := by omega
                  go_wp2_with fail
                  go_quiet (fail)
                  go_wp2_with fail
                  (first | refine ⟨⟨_, _, _, _, _, _, _, _, _, _, _, _, _, _, _, _, _, _, _, _, _, _, _, _, _, _, _, _, ?_, rfl⟩, ?_⟩ | refine ⟨⟨_, _, _, _, _, _, _, _, _, _, _, _, _, _, _, _, _, _, _, _, _, _, _, _, _, _, _, _, _, ?_, rfl⟩, ?_⟩ | refine ⟨⟨_, _, _, _, _, _, _, _, _, _, _, _, _, _, _, _, _, _, _, _, _, _, _, _, _, _, _, _, _, _, ?_, rfl⟩, ?_⟩ | refine ⟨⟨_, _, _, _, _, _, _, _, _, _, _, _, _, _, _, _, _, _, _, _, _, _, _, _, _, _, _, _, _, _, _, ?_, rfl⟩, ?_⟩ | refine ⟨⟨_, _, _, _, _, _, _, _, _, _, _, _, _, _, _, _, _, _, _, _, _, _, _, _, _, _, _, _, _, _, _, _, ?_, rfl⟩, ?_⟩ | refine ⟨⟨_, _, _, _, _, _, _, _, _, _, _, _, _, _, _, _, _, _, _, _, _, _, _, _, _, _, _, _, _, _, _, _, _, ?_, rfl⟩, ?_⟩ | refine ⟨⟨_, _, _, _, _, _, _, _, _, _, _, _, _, _, _, _, _, _, _, _, _, _, _, _, _, _, _, _, _, _, _, _, _, _, ?_, rfl⟩, ?_⟩ | refine ⟨⟨_, _, _, _, _, _, _, _, _, _, _, _, _, _, _, _, _, _, _, _, _, _, _, _, _, _, _, _, _, _, _, _, _, _, _, ?_, rfl⟩, ?_⟩ | refine ⟨⟨_, _, _, _, _, _, _, _, _, _, _, _, _, _, _, _, _, _, _, _, _, _, _, _, _, _, _, _, _, _, _, _, _, _, _, _, ?_, rfl⟩, ?_⟩ | refine ⟨⟨_, _, _, _, _, _, _, _, _, _, _, _, _, _, _, _, _, _, _, _, _, _, _, _, _, _, _, _, _, _, _, _, _, _, _, _, _, ?_, rfl⟩, ?_⟩)
                  · exact ⟨q2 + 1, by omega, by go_num, below_drewN hb7 _⟩
                  · simp [intOf] <;> omega
              · obtain rfl : q2 = xs.length := by omega
                go_wp2_with fail
                go_ret
                exact ⟨rfl, B1.out.trans ((B4.out.trans ((B6.out.mono B4.out.size).trans (hb7.mono (Nat.le_trans B4.out.size B6.out.size)))).mono B1.out.size)⟩
end Go.Proofs.YtdejncnjaebjfaaDoor.fnScript18
