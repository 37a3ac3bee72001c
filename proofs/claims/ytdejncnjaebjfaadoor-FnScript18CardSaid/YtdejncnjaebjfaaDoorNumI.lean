/-
  The contract of NumOf of the program: it reads the number of a text, as 'numOf' says.
-/
import Derived.Test.YtdejncnjaebjfaaDoorNum
namespace Go.Proofs.YtdejncnjaebjfaaDoor
set_option linter.unusedVariables false
set_option linter.unusedSimpArgs false
open Go.ChangeShapes Go.WideShapes Go.ChangeAt Go.RowKit

theorem inum_1 (l : List UInt8) (w : World) (hl : l.length ≤ 9223372036854775807) (h45 : bAt l 0 = 45) :
    Calls Tryd.prog 32 #[.string (bs l)] w fun e w' => e = ret_num (numOf l) ∧ w = w' := by
  obtain ⟨t, hte⟩ : ∃ t, t = (l.drop 1) := ⟨_, rfl⟩
  have ht : Calls Tryd.prog 56 #[.string (bs l), .string (bs [45])] w fun e w' => e = .returned (.string (bs t)) ∧ w = w' := by rw [hte]; exact trim_yes l w h45
  have HT := Lib.hid ht; clear ht
  have hf : 1 = if bAt l 0 = 45 then 1 else 0 := by rw [if_pos h45]
  have HF := Lib.hid hf; clear hf
  have hpos := bAt_len h45
  clear h45
  have htl : t.length = l.length - 1 := by rw [hte]; simp
  have ht : (l.drop 1) = t := hte.symm
  clear hte
  have HTL := Lib.hid ht; clear ht
  have hbt : ∀ i, bAt t i = bAt l (1 + i) := by intro i; rw [← HTL.out]; exact bAt_drop l 1 i
  have HBT := Lib.hid hbt; clear hbt
  have hvt : ∀ k, valTo t 0 k = valTo l 1 k := by intro k; rw [← HTL.out]; exact valTo_drop l 1 k
  have HVT := Lib.hid hvt; clear hvt
  have hm : t.length ≤ 9223372036854775807 := by omega
  have HL := Lib.hid htl
  by_cases hlong : l.length - 1 = 0 ∨ 10 < l.length - 1
  · have e := numOf_long (l := l) 1 HF.out hlong
    have E := Lib.hid e; clear e
    rcases hlong with h0 | h10
    · have h0' : (t == []) = true := by rw [beq_iff_eq]; exact List.eq_nil_of_length_eq_zero (by omega)
      clear htl
      go_enter Tryd.func32, Tryd.ntmps32
      go_wp2_with fail
      refine HT.out.mono ?_
      rintro e w' ⟨rfl, rfl⟩
      go_wp2_with fail
      go_ret2
      exact ⟨by rw [E.out]; rfl, rfl⟩
    · have h0' : (t == []) = false := by rw [beq_eq_false_iff_ne]; rintro rfl; simp at htl; omega
      have h10' : 10 < (t.length : Int) := by omega
      clear htl
      go_enter Tryd.func32, Tryd.ntmps32
      go_wp2_with fail
      refine HT.out.mono ?_
      rintro e w' ⟨rfl, rfl⟩
      go_wp2_with fail
      go_ret2
      exact ⟨by rw [E.out]; rfl, rfl⟩
  · have h0' : (t == []) = false := by rw [beq_eq_false_iff_ne]; rintro rfl; simp at htl; omega
    have h10' : ¬ 10 < (t.length : Int) := by omega
    have hlong' : l.length - 1 ≠ 0 ∧ l.length - 1 ≤ 10 := by omega
    have hlen : (t.length : Int) < l.length := by omega
    have hlt : t.length ≤ 10 := by omega
    clear htl
    go_enter Tryd.func32, Tryd.ntmps32
    go_wp2_with fail
    refine HT.out.mono ?_
    rintro e w' ⟨rfl, rfl⟩
    go_wp2_with fail
    go_loop [5, 18] (fun x i => ∃ (k : Nat) (y : Int), k ≤ t.length ∧ i = .int .i64 (k : Int) ∧ x = .int .i64 y ∧ RowKit.Hid (valTo t 0 k = some y)) (fun _ i => t.length - (intOf i).toNat)
    case atStart => exact ⟨0, 0, by omega, rfl, rfl, rfl⟩
    case round =>
      obtain ⟨k, y, hk, rfl, rfl, hv⟩ := hrel
      obtain ⟨y0, y1, y2⟩ := valTo_bd t 0 k y (by omega) hv.out
      have hby := bAt_lt t k
      by_cases hlt2 : k < t.length
      · by_cases hd : bAt t k < 48 ∨ 57 < bAt t k
        · have e : numOf l = (0, false) := numOf_none 1 HF.out (by rw [← HVT.out, ← HL.out]; exact valTo_none t 0 (k + 1) (by unfold valTo; rw [hv.out]; simp only []; rw [if_pos (by simpa using hd)]) _ (by omega))
          have E := Lib.hid e; clear e
          rcases hd with hd | hd
          all_goals
            go_wp2_with fail
            go_ret2
            exact ⟨by rw [E.out]; rfl, rfl⟩
        · have hd1 : ¬ bAt t k < 48 := by omega
          have hd2 : ¬ 57 < bAt t k := by omega
          have hv' : RowKit.Hid (valTo t 0 (k + 1) = some (10 * y + (bAt t k - 48))) := by
            show _ = _
            unfold valTo; rw [hv.out]; simp only []; rw [if_neg (by simpa using hd), Nat.zero_add]
          clear hd
          go_wp2_with fail
          go_round
          case rel => exact ⟨k + 1, _, by omega, by go_num, rfl, hv'⟩
          case measure => simp [intOf]; omega
      · obtain rfl : k = t.length := by omega
        have hv1 : valTo l 1 (l.length - 1) = some y := by rw [← HVT.out, ← HL.out]; exact hv.out
        have HV1 := Lib.hid hv1; clear hv1
        go_wp2_with fail
        refine (itext (-y) w (by omega) (by omega)).mono ?_
        rintro e w1 ⟨rfl, rfl⟩
        by_cases hx : txt (-y) = l
        · have hx' : (txt (-y) == l) = true := by simpa using hx
          have e := numOf_some 1 y HF.out (by omega) HV1.out (by simpa using hx)
          have E := Lib.hid e
          clear e hx
          go_wp2_with fail
          go_ret2
          exact ⟨by rw [E.out]; rfl, rfl⟩
        · have hx' : (txt (-y) == l) = false := by simpa using hx
          have e := numOf_other 1 y HF.out HV1.out (by simpa using hx)
          have E := Lib.hid e
          clear e hx
          go_wp2_with fail
          go_ret2
          exact ⟨by rw [E.out]; rfl, rfl⟩

theorem inum_0 (l : List UInt8) (w : World) (hl : l.length ≤ 9223372036854775807) (h45 : bAt l 0 ≠ 45) :
    Calls Tryd.prog 32 #[.string (bs l)] w fun e w' => e = ret_num (numOf l) ∧ w = w' := by
  obtain ⟨t, hte⟩ : ∃ t, t = l := ⟨_, rfl⟩
  have ht : Calls Tryd.prog 56 #[.string (bs l), .string (bs [45])] w fun e w' => e = .returned (.string (bs t)) ∧ w = w' := by rw [hte]; exact trim_no l w h45
  have HT := Lib.hid ht; clear ht
  have hf : 0 = if bAt l 0 = 45 then 1 else 0 := by rw [if_neg h45]
  have HF := Lib.hid hf; clear hf
  have hpos : True := trivial
  clear h45
  have htl : t.length = l.length - 0 := by rw [hte]; simp
  have ht : l = t := hte.symm
  clear hte
  have HTL := Lib.hid ht; clear ht
  have hbt : ∀ i, bAt t i = bAt l (0 + i) := by intro i; rw [← HTL.out]; rw [Nat.zero_add]
  have HBT := Lib.hid hbt; clear hbt
  have hvt : ∀ k, valTo t 0 k = valTo l 0 k := by intro k; rw [← HTL.out]
  have HVT := Lib.hid hvt; clear hvt
  have hm : t.length ≤ 9223372036854775807 := by omega
  have HL := Lib.hid htl
  by_cases hlong : l.length - 0 = 0 ∨ 10 < l.length - 0
  · have e := numOf_long (l := l) 0 HF.out hlong
    have E := Lib.hid e; clear e
    rcases hlong with h0 | h10
    · have h0' : (t == []) = true := by rw [beq_iff_eq]; exact List.eq_nil_of_length_eq_zero (by omega)
      clear htl
      go_enter Tryd.func32, Tryd.ntmps32
      go_wp2_with fail
      refine HT.out.mono ?_
      rintro e w' ⟨rfl, rfl⟩
      go_wp2_with fail
      go_ret2
      exact ⟨by rw [E.out]; rfl, rfl⟩
    · have h0' : (t == []) = false := by rw [beq_eq_false_iff_ne]; rintro rfl; simp at htl; omega
      have h10' : 10 < (t.length : Int) := by omega
      clear htl
      go_enter Tryd.func32, Tryd.ntmps32
      go_wp2_with fail
      refine HT.out.mono ?_
      rintro e w' ⟨rfl, rfl⟩
      go_wp2_with fail
      go_ret2
      exact ⟨by rw [E.out]; rfl, rfl⟩
  · have h0' : (t == []) = false := by rw [beq_eq_false_iff_ne]; rintro rfl; simp at htl; omega
    have h10' : ¬ 10 < (t.length : Int) := by omega
    have hlong' : l.length - 0 ≠ 0 ∧ l.length - 0 ≤ 10 := by omega
    have hlen : ¬ (t.length : Int) < l.length := by omega
    have hlt : t.length ≤ 10 := by omega
    clear htl
    go_enter Tryd.func32, Tryd.ntmps32
    go_wp2_with fail
    refine HT.out.mono ?_
    rintro e w' ⟨rfl, rfl⟩
    go_wp2_with fail
    go_loop [5, 18] (fun x i => ∃ (k : Nat) (y : Int), k ≤ t.length ∧ i = .int .i64 (k : Int) ∧ x = .int .i64 y ∧ RowKit.Hid (valTo t 0 k = some y)) (fun _ i => t.length - (intOf i).toNat)
    case atStart => exact ⟨0, 0, by omega, rfl, rfl, rfl⟩
    case round =>
      obtain ⟨k, y, hk, rfl, rfl, hv⟩ := hrel
      obtain ⟨y0, y1, y2⟩ := valTo_bd t 0 k y (by omega) hv.out
      have hby := bAt_lt t k
      by_cases hlt2 : k < t.length
      · by_cases hd : bAt t k < 48 ∨ 57 < bAt t k
        · have e : numOf l = (0, false) := numOf_none 0 HF.out (by rw [← HVT.out, ← HL.out]; exact valTo_none t 0 (k + 1) (by unfold valTo; rw [hv.out]; simp only []; rw [if_pos (by simpa using hd)]) _ (by omega))
          have E := Lib.hid e; clear e
          rcases hd with hd | hd
          all_goals
            go_wp2_with fail
            go_ret2
            exact ⟨by rw [E.out]; rfl, rfl⟩
        · have hd1 : ¬ bAt t k < 48 := by omega
          have hd2 : ¬ 57 < bAt t k := by omega
          have hv' : RowKit.Hid (valTo t 0 (k + 1) = some (10 * y + (bAt t k - 48))) := by
            show _ = _
            unfold valTo; rw [hv.out]; simp only []; rw [if_neg (by simpa using hd), Nat.zero_add]
          clear hd
          go_wp2_with fail
          go_round
          case rel => exact ⟨k + 1, _, by omega, by go_num, rfl, hv'⟩
          case measure => simp [intOf]; omega
      · obtain rfl : k = t.length := by omega
        have hv1 : valTo l 0 (l.length - 0) = some y := by rw [← HVT.out, ← HL.out]; exact hv.out
        have HV1 := Lib.hid hv1; clear hv1
        go_wp2_with fail
        refine (itext (y) w (by omega) (by omega)).mono ?_
        rintro e w1 ⟨rfl, rfl⟩
        by_cases hx : txt (y) = l
        · have hx' : (txt (y) == l) = true := by simpa using hx
          have e := numOf_some 0 y HF.out (by omega) HV1.out (by simpa using hx)
          have E := Lib.hid e
          clear e hx
          go_wp2_with fail
          go_ret2
          exact ⟨by rw [E.out]; rfl, rfl⟩
        · have hx' : (txt (y) == l) = false := by simpa using hx
          have e := numOf_other 0 y HF.out HV1.out (by simpa using hx)
          have E := Lib.hid e
          clear e hx
          go_wp2_with fail
          go_ret2
          exact ⟨by rw [E.out]; rfl, rfl⟩

/-- NumOf of the program -/
theorem inum (l : List UInt8) (w : World) (hl : l.length ≤ 9223372036854775807) :
    Calls Tryd.prog 32 #[.string (bs l)] w fun e w' => e = ret_num (numOf l) ∧ w = w' := by
  by_cases h45 : bAt l 0 = 45
  · exact inum_1 l w hl h45
  · exact inum_0 l w hl h45
end Go.Proofs.YtdejncnjaebjfaaDoor
