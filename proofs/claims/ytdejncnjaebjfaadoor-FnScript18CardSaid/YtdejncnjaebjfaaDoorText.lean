/-
  The contracts of TextOf (program and reference): each returns the decimal text of its argument.
-/
import Derived.Test.YtdejncnjaebjfaaDoorBase
namespace Go.Proofs.YtdejncnjaebjfaaDoor
set_option linter.unusedVariables false
set_option linter.unusedSimpArgs false
open Go.ChangeShapes Go.WideShapes Go.ChangeAt Go.RowKit

theorem enc1 {n : Int} (h0 : 0 ≤ n) (h1 : n < 10) : Utf8.encode (48 + n) = bs (digs n.natAbs) := by
  have hv : Utf8.valid (48 + n) = true := by
    unfold Utf8.valid
    have h1 : decide (0 ≤ 48 + n) = true := by simp; omega
    have h2 : decide (48 + n < 0xD800) = true := by simp; omega
    rw [h1, h2]; rfl
  unfold Utf8.encode
  rw [hv]
  simp only [if_true]
  rw [if_pos (by omega), digs_lt (by omega)]
  unfold bs
  rw [show (48 + n).toNat = 48 + n.natAbs from by omega]

/-- TextOf of the program, of a number that is not negative -/
theorem itext_nn (k : Nat) : ∀ (n : Int) (w : World), 0 ≤ n → n < k → n ≤ 9223372036854775807 →
    Calls Tryd.prog 41 #[.int .i64 n] w fun e w' => e = .returned (.string (bs (txt n))) ∧ w = w' := by
  induction k with
  | zero => intro n w h1 h2; omega
  | succ k ih =>
    intro n w h0 hk hm
    by_cases h1 : n < 10
    · have e1 := Lib.hid (enc1 h0 h1)
      go_enter Tryd.func41, Tryd.ntmps41
      go_wp2_with fail
      go_ret
      exact ⟨ret_str (by rw [txt_nn h0]; exact e1.out), rfl⟩
    · have IH := Lib.hid (ih (n / 10)); clear ih
      have hn : ¬ n < 0 := by omega
      have e1 := enc1 (n := n % 10) (by omega) (by omega)
      have hs1 : (txt (n / 10)).length ≤ 20 := txt_len (by omega) (by omega)
      have hs2 : (digs (n % 10).natAbs).length ≤ 20 := by have := digs_len 0 (n % 10).natAbs (by omega); omega
      have hs : ¬ 9223372036854775807 < (txt (n / 10)).length + (digs (n % 10).natAbs).length := by omega
      go_enter Tryd.func41, Tryd.ntmps41
      go_wp2_with fail
      refine (IH.out _ (by omega) (by omega) (by omega)).mono ?_
      rintro e w' ⟨rfl, rfl⟩
      go_wp2_with fail
      go_ret
      refine ⟨ret_bs ?_, rfl⟩
      rw [txt_nn (by omega), txt_nn h0, digs_ge (n := n.natAbs) (by omega), digs_lt (n := (n % 10).natAbs) (by omega)]
      rw [show (n / 10).natAbs = n.natAbs / 10 from by omega, show (n % 10).natAbs = n.natAbs % 10 from by omega]

theorem itext_neg (k : Nat) : ∀ (n : Int) (w : World), n < 0 → n.natAbs < k → -9223372036854775808 ≤ n →
    Calls Tryd.prog 41 #[.int .i64 n] w fun e w' => e = .returned (.string (bs (txt n))) ∧ w = w' := by
  induction k with
  | zero => intro n w h1 h2; omega
  | succ k ih =>
    intro n w h0 hk hm
    by_cases h1 : n > -10
    · have hs : ¬ 9223372036854775807 < 1 + (txt (-n)).length := by
        have := txt_len (n := -n) (by omega) (by omega)
        omega
      clear ih
      go_enter Tryd.func41, Tryd.ntmps41
      go_wp2_with fail
      refine (itext_nn 10 (-n) w (by omega) (by omega) (by omega)).mono ?_
      rintro e w' ⟨rfl, rfl⟩
      go_wp2_with fail
      go_ret
      refine ⟨ret_bs ?_, rfl⟩
      rw [txt_nn (by omega), txt_neg h0, show (-n).natAbs = n.natAbs from by omega]; try rfl
    · have IH := Lib.hid (ih (n.tdiv 10)); clear ih
      have e1 : n.tdiv 10 < 0 ∧ (n.tdiv 10).natAbs = n.natAbs / 10 ∧ (-(n.tmod 10)).natAbs = n.natAbs % 10 ∧ 0 ≤ -(n.tmod 10) := by
        have h2 : n = -(n.natAbs : Int) := by omega
        have h3 : n.tdiv 10 = -((n.natAbs / 10 : Nat) : Int) := by
          conv => lhs; rw [h2]
          rw [Int.neg_tdiv]; congr 1
        have h4 : n.tmod 10 = -((n.natAbs % 10 : Nat) : Int) := by
          conv => lhs; rw [h2]
          rw [Int.neg_tmod]; congr 1
        rw [h3, h4]
        omega
      obtain ⟨e1, e2, e3, e4⟩ := e1
      have hd1 : -9223372036854775808 ≤ n.tdiv 10 := by omega
      have hd2 : (n.tdiv 10).natAbs < k := by omega
      have hd3 : -(n.tmod 10) < 10 := by omega
      have hs1 : (txt (n.tdiv 10)).length ≤ 20 := txt_len (by omega) (by omega)
      have hs2 : (txt (-(n.tmod 10))).length ≤ 20 := txt_len (by omega) (by omega)
      have hs : ¬ 9223372036854775807 < (txt (n.tdiv 10)).length + (txt (-(n.tmod 10))).length := by omega
      clear hs1 hs2
      have E2 := Lib.hid e2; have E3 := Lib.hid e3
      clear e2 e3
      go_enter Tryd.func41, Tryd.ntmps41
      go_wp2_with fail
      refine (IH.out _ (by omega) (by omega) (by omega)).mono ?_
      rintro e w' ⟨rfl, rfl⟩
      go_wp2_with fail
      refine (itext_nn 10 (-(n.tmod 10)) w (by omega) (by omega) (by omega)).mono ?_
      rintro e w' ⟨rfl, rfl⟩
      go_wp2_with fail
      go_ret
      refine ⟨ret_bs ?_, rfl⟩
      rw [txt_neg e1, txt_neg h0, txt_nn e4, E2.out, E3.out, digs_ge (n := n.natAbs) (by omega), digs_lt (n := n.natAbs % 10) (by omega)]
      rfl

/-- TextOf of the program -/
theorem itext (n : Int) (w : World) (h : -9223372036854775808 ≤ n) (h' : n ≤ 9223372036854775807) :
    Calls Tryd.prog 41 #[.int .i64 n] w fun e w' => e = .returned (.string (bs (txt n))) ∧ w = w' := by
  by_cases h0 : n < 0
  · exact itext_neg (n.natAbs + 1) n w h0 (by omega) h
  · exact itext_nn (n.natAbs + 1) n w (by omega) (by omega) h'

def dg0 (m : Nat) : List UInt8 := if m = 0 then [] else digs m
theorem dg0_step {m : Nat} (h : m ≠ 0) : dg0 m = dg0 (m / 10) ++ [UInt8.ofNat (48 + m % 10)] := by
  unfold dg0
  rw [if_neg h]
  by_cases h1 : m < 10
  · rw [if_pos (by omega), digs_lt h1, show m % 10 = m from by omega]; rfl
  · rw [if_neg (by omega), digs_ge h1]

theorem dg0_len {m : Nat} (h : m ≤ 9223372036854775808) : (dg0 m).length ≤ 19 := by
  unfold dg0
  split
  · simp
  · exact digs_len 18 m (by omega)

theorem conv_one (W : World) (x : Int) (h0 : 0 ≤ x) (h1 : x < 256) :
    (convert 33 9 (.slice (some ⟨W.heap.size, 0, none⟩) 1 1)).run Tryd.prog (W.alloc (.cells #[.int .u8 x] 5)) = .ok (.string (bs [UInt8.ofNat x.toNat])) (W.alloc (.cells #[.int .u8 x] 5)) := by
  refine run_convert_bytes_back (P := Tryd.prog) (W.alloc (.cells #[.int .u8 x] 5)) 33 9 5 ⟨W.heap.size, 0, none⟩ 1 [UInt8.ofNat x.toNat] Tryd.underlying33 Tryd.underlying5 Tryd.underlying9 ?_
  intro j hj
  obtain rfl : j = 0 := by simpa using hj
  have hx : ((UInt8.ofNat x.toNat).toNat : Int) = x := by simp; omega
  simp only [List.getElem_cons_zero, hx]
  simp [Addr.add]

/-- TextOf of the reference -/
theorem stext (n : Int) (w : World) (h : -9223372036854775808 ≤ n) (h' : n ≤ 9223372036854775807) :
    Calls Tryd.prog 54 #[.int .i64 n] w fun e w' => e = .returned (.string (bs (txt n))) ∧ Below w.heap.size w w' := by
  by_cases hz : n = 0
  · subst hz
    go_enter Tryd.func54, Tryd.ntmps54
    go_wp2_with fail
    go_ret
    exact ⟨ret_str rfl, Below.refl _ _⟩
  · have hz' : (n == 0) = false := by simpa using hz
    go_enter Tryd.func54, Tryd.ntmps54
    go_wp2_with fail
    go_loopw [3, 4, 5] (fun o x _ wr => ∃ (l : List UInt8) (y : Int), o = .string (bs l) ∧ x = .int .i64 y ∧ -9223372036854775808 ≤ y ∧ y ≤ 9223372036854775807 ∧ RowKit.Hid (dg0 y.natAbs ++ l = dg0 n.natAbs ∧ (0 ≤ n → 0 ≤ y) ∧ (n < 0 → y ≤ 0)) ∧ Below w.heap.size w wr) (fun _ x _ _ => (intOf x).natAbs)
    case atStart => exact ⟨[], n, rfl, rfl, h, h', by simp [RowKit.Hid]; omega, Below.refl _ _⟩
    case round =>
      obtain ⟨l, y, rfl, rfl, hy1, hy2, hd, hb⟩ := hrel
      have hl : l.length ≤ 19 := by
        have h1 := congrArg List.length hd.1
        have h2 := dg0_len (m := n.natAbs) (by omega)
        rw [List.length_append] at h1
        omega
      by_cases hy : y = 0
      · subst hy
        have hd' : RowKit.Hid (l = dg0 n.natAbs) := hd.1
        clear hd
        by_cases hn : n < 0
        · have hs : ¬ 9223372036854775807 < 1 + l.length := by omega
          go_wp2_with fail
          go_ret
          refine ⟨ret_bs ?_, hb⟩
          rw [hd'.out, txt_neg hn]
          unfold dg0
          rw [if_neg (by omega)]; try rfl
        · go_wp2_with fail
          go_ret
          refine ⟨ret_bs ?_, hb⟩
          rw [hd'.out, txt_nn (by omega)]
          unfold dg0
          rw [if_neg (by omega)]
      · have hs : ¬ 9223372036854775807 < 1 + l.length := by omega
        have hyb : (y != 0) = true := by simpa using hy
        have D := dg0_step (m := y.natAbs) (by omega)
        by_cases hp : 0 < y
        · have D' : RowKit.Hid (dg0 (y / 10).natAbs ++ (UInt8.ofNat (48 + y % 10).toNat :: l) = dg0 n.natAbs) := by
            rw [← hd.1, D, show (y / 10).natAbs = y.natAbs / 10 from by omega, show (48 + y % 10).toNat = 48 + y.natAbs % 10 from by omega]
            simp [RowKit.Hid]
          clear D
          have kc := fun W => conv_one W (48 + y % 10) (by omega) (by omega)
          go_wp2_with fail
          go_roundw
          case rel =>
            refine ⟨_, _, rfl, rfl, by omega, by omega, ⟨by simpa using D'.out, fun _ => by omega, fun h => by have := hd.2.2 h; omega⟩, hb.alloc hb.size _⟩
          case measure => simp [intOf]; try omega
        · have hp' : y < 0 := by omega
          have e1 : y.tdiv 10 ≤ 0 ∧ (y.tdiv 10).natAbs = y.natAbs / 10 ∧ -(y.tmod 10) = (y.natAbs % 10 : Nat) := by
            have h2 : y = -(y.natAbs : Int) := by omega
            have h3 : y.tdiv 10 = -((y.natAbs / 10 : Nat) : Int) := by
              conv => lhs; rw [h2]
              rw [Int.neg_tdiv]; congr 1
            have h4 : y.tmod 10 = -((y.natAbs % 10 : Nat) : Int) := by
              conv => lhs; rw [h2]
              rw [Int.neg_tmod]; congr 1
            rw [h3, h4]
            omega
          obtain ⟨e1, e2, e3⟩ := e1
          have D' : RowKit.Hid (dg0 (y.tdiv 10).natAbs ++ (UInt8.ofNat (48 + -(y.tmod 10)).toNat :: l) = dg0 n.natAbs) := by
            rw [← hd.1, D, e2, e3, show (48 + ((y.natAbs % 10 : Nat) : Int)).toNat = 48 + y.natAbs % 10 from by omega]
            simp [RowKit.Hid]
          have b1 : -9 ≤ y.tmod 10 := by omega
          have b2 : y.tmod 10 ≤ 0 := by omega
          have b3 : (y.tdiv 10).natAbs < y.natAbs := by omega
          clear D e2 e3
          by_cases hr : y.tmod 10 < 0
          · have kc := fun W => conv_one W (48 + -(y.tmod 10)) (by omega) (by omega)
            go_wp2_with fail
            go_roundw
            case rel =>
              refine ⟨_, _, rfl, rfl, by omega, by omega, ⟨by simpa using D'.out, fun h => by have := hd.2.1 h; omega, fun h => by omega⟩, hb.alloc hb.size _⟩
            case measure => exact b3
          · have hr' : y.tmod 10 = 0 := by omega
            rw [hr'] at D'
            have hr2 : 0 ≤ y.tmod 10 := by omega
            have hr3 : RowKit.Hid (y.tmod 10 = 0) := hr'
            clear hr' hr
            have kc := fun W => conv_one W (48 + y.tmod 10) (by omega) (by omega)
            go_wp2_with fail
            go_roundw
            case rel =>
              refine ⟨_, _, rfl, rfl, by omega, by omega, ⟨by rw [hr3.out]; simpa using D'.out, fun h => by have := hd.2.1 h; omega, fun h => by omega⟩, hb.alloc hb.size _⟩
            case measure => exact b3

end Go.Proofs.YtdejncnjaebjfaaDoor
