/-
  The law FnLine18: a drawn deed is read from its line as it was; a line that is read is written as it was.
-/
import Derived.Test.YtdejncnjaebjfaaDoorDr7
import Derived.Test.YtdejncnjaebjfaaDoorRt
import Derived.Test.YtdejncnjaebjfaaDoorParseI
namespace Go.Proofs.YtdejncnjaebjfaaDoor.fnLine18
set_option linter.unusedVariables false
set_option linter.unusedSimpArgs false
open Go.ChangeShapes Go.WideShapes Go.ChangeAt Go.RowKit

theorem bytes_mono {B B' : Nat} {w : World} {A : Option Addr} {n : Nat} (h : BytesAt B w A n) (hB : B ≤ B') : BytesAt B' w A n := by
  intro k hk
  obtain ⟨ad, b, e, h1, h2⟩ := h k hk
  exact ⟨ad, b, e, by omega, h2⟩
/-- what both ParseDeeds return for a line, and what is written of it -/
theorem both (l : List UInt8) (hl : l.length ≤ 200) : ∃ (y : MDeed) (k : Int), y.wf ∧ (∀ (w : World) (m : Int), w.cell? ⟨0, 0, none⟩ = some (.int .i64 m) → Calls Tryd.prog 8 #[.string (bs l)] w fun e w' => e = .returned (.tuple #[dval y, .int .i64 k]) ∧ Below w.heap.size w w') ∧ (∀ w : World, Calls Tryd.prog 7 #[.string (bs l)] w fun e w' => e = .returned (.tuple #[dval y, .int .i64 k]) ∧ Below w.heap.size w w') ∧
    ((k ≠ 0 ∧ y = zeroDeed) ∨ (k = 0 ∧ deedOk y = true ∧ ∀ w : World, Calls Tryd.prog 21 #[dval y] w fun e w' => e = .returned (.tuple #[.string (bs l), .bool true]) ∧ Below w.heap.size w w')) := by
  obtain ⟨y, k, hp⟩ : ∃ y k, parseDeed l = (y, k) := ⟨_, _, rfl⟩
  have hw := parse_wf l
  rw [hp] at hw
  refine ⟨y, k, hw, fun w m hm => ?_, fun w => ?_, ?_⟩
  · have := iparse l w m hm (by omega)
    rw [hp] at this
    exact this
  · have := sparse l w (by omega)
    rw [hp] at this
    exact this
  · rcases parse_cases l with ⟨j, h, h1, h2⟩ | ⟨z, h, hz⟩
    · rw [hp] at h
      injection h with e1 e2
      exact .inl ⟨by omega, e1⟩
    · rw [hp] at h
      injection h with e1 e2
      subst e1 e2
      obtain ⟨q1, q2⟩ := line_parse hp
      refine .inr ⟨rfl, q1, fun w => ?_⟩
      have := iline y w hw
      unfold ret_line lineRes at this
      rw [if_pos q1, q2] at this
      exact this

set_option maxRecDepth 100000 in
set_option maxHeartbeats 4000000 in
theorem walk (A : Option Addr) (n c : Nat) (hm : (n : Int) ≤ 9223372036854775807) (m : Int) (w : World) (hy : BytesAt w.heap.size w A n) (h0 : w.cell? ⟨0, 0, none⟩ = some (.int .i64 m)) :
    Calls Tryd.prog 6 #[.slice A n c] w fun e w' => e = .returned (.bool true) ∧ Below w.heap.size w w' := by
  have HY := Lib.hid hy; have H0 := Lib.hid h0; clear hy h0
  by_cases hbig : (n : Int) > 1048576
  · have hb' : decide ((n : Int) > 1048576) = true := by simpa using hbig
    go_enter Tryd.func6, Tryd.ntmps6
    go_wp2_with fail
    refine (big_any A n c w).mono ?_
    rintro e w' ⟨rfl, rfl⟩
    go_wp2_with fail
    go_ret
    exact ⟨rfl, Below.refl _ _⟩
  · have hb' : decide ((n : Int) > 1048576) = false := by simpa using hbig
    go_enter Tryd.func6, Tryd.ntmps6
    go_wp2_with fail
    refine (big_any A n c w).mono ?_
    rintro e w' ⟨rfl, rfl⟩
    go_wp2_with fail
    refine (ddl_any w A n c (by omega) HY.out).mono ?_
    rintro e w1 ⟨x, rfl, hx, hb1⟩
    have HX := Lib.hid hx; have B1 := Lib.hid hb1
    clear hx hb1
    unfold dval
    have hil := fun w => iline x w HX.out
    have hso := fun w => sdeedok x w
    have hls := line_len HX.out
    unfold ret_line lineRes at hil
    have hpl : deedOk x = true → ∀ (w : World) (m : Int), w.cell? ⟨0, 0, none⟩ = some (.int .i64 m) → Calls Tryd.prog 8 #[.string (bs (lineOf x))] w fun e w' => e = .returned (.tuple #[.agg #[.int .i64 x.kind, .int .i64 x.at_, .int .i64 x.to, .int .i64 x.lo, .int .i64 x.hi, .int .i64 x.key, .int .i64 x.value], .int .i64 0]) ∧ Below w.heap.size w w' := by
      intro hok w m hm
      have := iparse (lineOf x) w m hm (by omega)
      rw [parse_line hok] at this
      exact this
    generalize lineOf x = l1 at hil hls hpl
    have H1 := Lib.hid (B1.out.cell (p := ⟨0, 0, none⟩) (cell_lt H0.out) |>.trans H0.out)
    cases hok : deedOk x with
    | true =>
      simp only [hok, if_true] at hil hso
      have HIL := Lib.hid hil; have HSO := Lib.hid hso; have HPL := Lib.hid (hpl hok); clear hil hso hpl
      go_wp2_with fail
      refine (HIL.out _).mono ?_
      rintro e w2 ⟨rfl, hb2⟩
      obtain ⟨hc2, hf2⟩ := bcell hb2
      have hz2 := hb2.size
      try simp at hz2
      have q2_0 : w1.heap.size < w2.heap.size := by omega
      have B2 := Lib.hid (B1.out.trans ((((Below.refl _ _).alloc (Nat.le_refl _) _).trans (hb2.mono (by simp))).mono B1.out.size)); clear hb2
      go_wp2_with fail
      refine (HSO.out _).mono ?_
      rintro e w3 ⟨rfl, hb3⟩
      obtain ⟨hc3, hf3⟩ := bcell hb3
      have hz3 := hb3.size
      try simp at hz3
      have q3_0 : w1.heap.size < w3.heap.size := by omega
      have B3 := Lib.hid (B2.out.trans (hb3.mono B2.out.size)); clear hb3
      have hm3 := (B3.out.cell (p := ⟨0, 0, none⟩) (cell_lt H0.out)).trans H0.out
      have HM3 := Lib.hid hm3; clear hm3
      go_wp2_with fail
      refine (HPL.out w3 m HM3.out).mono ?_
      rintro e w4 ⟨rfl, hb4⟩
      obtain ⟨hc4, hf4⟩ := bcell hb4
      have hz4 := hb4.size
      try simp at hz4
      have q4_0 : w1.heap.size < w4.heap.size := by omega
      have B4 := Lib.hid (B3.out.trans (hb4.mono B3.out.size)); clear hb4
      go_wp2_with fail
      have hyy := bytes_mono (HY.out.keep B4.out) B4.out.size
      have hyz := bytes_mono (hyy.keep ((Below.refl w4.heap.size w4).alloc (Nat.le_refl _) (.cells (drow x).toArray 23))) (show w4.heap.size ≤ (w4.alloc (.cells (drow x).toArray 23)).heap.size by simp)
      refine (dpd_any _ A n c (by omega) hyz).mono ?_
      rintro e w5 ⟨l, rfl, hl, hb5⟩
      have B5 := Lib.hid (B4.out.trans ((((Below.refl _ _).alloc (Nat.le_refl _) _).trans (hb5.mono (by simp))).mono B4.out.size)); clear hb5
      obtain ⟨y, k, hyw, hpi, hps, hcase⟩ := both l hl
      unfold dval at hpi hps hcase
      have HPI := Lib.hid hpi; have HPS := Lib.hid hps; have HC := Lib.hid hcase; clear hpi hps hcase hyy
      have hm5 := (B5.out.cell (p := ⟨0, 0, none⟩) (cell_lt H0.out)).trans H0.out
      have HM5 := Lib.hid hm5; clear hm5
      go_wp2_with fail
      refine (HPI.out w5 m HM5.out).mono ?_
      rintro e w6 ⟨rfl, hb6⟩
      obtain ⟨hc6, hf6⟩ := bcell hb6
      have hz6 := hb6.size
      try simp at hz6
      have B6 := Lib.hid (B5.out.trans (hb6.mono B5.out.size)); clear hb6
      go_wp2_with fail
      refine (HPS.out _).mono ?_
      rintro e w7 ⟨rfl, hb7⟩
      obtain ⟨hc7, hf7⟩ := bcell hb7
      have hz7 := hb7.size
      try simp at hz7
      have q7_0 : w6.heap.size < w7.heap.size := by omega
      have B7 := Lib.hid (B6.out.trans ((((Below.refl _ _).alloc (Nat.le_refl _) _).trans (hb7.mono (by simp))).mono B6.out.size)); clear hb7
      rcases HC.out with ⟨hk, rfl⟩ | ⟨rfl, hok2, hil2⟩
      · have hk1 : (k == 0) = false := by rw [beq_eq_false_iff_ne]; exact hk
        unfold zeroDeed at *
        simp only at *
        go_wp2_with fail
        go_ret
        exact ⟨by simp; first | rfl | decide | simp [eq7], B7.out.alloc B7.out.size _⟩
      · have HIL2 := Lib.hid hil2; have hio := fun w => ideedok y w
        rw [hok2] at hio
        have HIO := Lib.hid hio; clear hil2 hio hok2
        go_wp2_with fail
        refine (HIL2.out _).mono ?_
        rintro e w8 ⟨rfl, hb8⟩
        obtain ⟨hc8, hf8⟩ := bcell hb8
        have hz8 := hb8.size
        try simp at hz8
        have q8_0 : w6.heap.size < w8.heap.size := by omega
        have q8_1 : w7.heap.size < w8.heap.size := by omega
        have B8 := Lib.hid (B7.out.trans ((((Below.refl _ _).alloc (Nat.le_refl _) _).trans (hb8.mono (by simp))).mono B7.out.size)); clear hb8
        go_wp2_with fail
        refine (HIO.out _).mono ?_
        rintro e w9 ⟨rfl, hb9⟩
        obtain ⟨hc9, hf9⟩ := bcell hb9
        have hz9 := hb9.size
        try simp at hz9
        have B9 := Lib.hid (B8.out.trans (hb9.mono B8.out.size)); clear hb9
        go_wp2_with fail
        go_ret
        exact ⟨by simp, B9.out⟩
    | false =>
      simp only [hok, Bool.false_eq_true, if_false] at hil hso
      have HIL := Lib.hid hil; have HSO := Lib.hid hso; clear hil hso hpl
      go_wp2_with fail
      refine (HIL.out _).mono ?_
      rintro e w2 ⟨rfl, hb2⟩
      obtain ⟨hc2, hf2⟩ := bcell hb2
      have hz2 := hb2.size
      try simp at hz2
      have q2_0 : w1.heap.size < w2.heap.size := by omega
      have B2 := Lib.hid (B1.out.trans ((((Below.refl _ _).alloc (Nat.le_refl _) _).trans (hb2.mono (by simp))).mono B1.out.size)); clear hb2
      go_wp2_with fail
      refine (HSO.out _).mono ?_
      rintro e w3 ⟨rfl, hb3⟩
      obtain ⟨hc3, hf3⟩ := bcell hb3
      have hz3 := hb3.size
      try simp at hz3
      have q3_0 : w1.heap.size < w3.heap.size := by omega
      have B3 := Lib.hid (B2.out.trans (hb3.mono B2.out.size)); clear hb3
      go_wp2_with fail
      have hyy := bytes_mono (HY.out.keep B3.out) B3.out.size
      refine (dpd_any _ A n c (by omega) hyy).mono ?_
      rintro e w5 ⟨l, rfl, hl, hb5⟩
      have B5 := Lib.hid (B3.out.trans (hb5.mono B3.out.size)); clear hb5
      obtain ⟨y, k, hyw, hpi, hps, hcase⟩ := both l hl
      unfold dval at hpi hps hcase
      have HPI := Lib.hid hpi; have HPS := Lib.hid hps; have HC := Lib.hid hcase; clear hpi hps hcase hyy
      have hm5 := (B5.out.cell (p := ⟨0, 0, none⟩) (cell_lt H0.out)).trans H0.out
      have HM5 := Lib.hid hm5; clear hm5
      go_wp2_with fail
      refine (HPI.out w5 m HM5.out).mono ?_
      rintro e w6 ⟨rfl, hb6⟩
      obtain ⟨hc6, hf6⟩ := bcell hb6
      have hz6 := hb6.size
      try simp at hz6
      have B6 := Lib.hid (B5.out.trans (hb6.mono B5.out.size)); clear hb6
      go_wp2_with fail
      refine (HPS.out _).mono ?_
      rintro e w7 ⟨rfl, hb7⟩
      obtain ⟨hc7, hf7⟩ := bcell hb7
      have hz7 := hb7.size
      try simp at hz7
      have q7_0 : w6.heap.size < w7.heap.size := by omega
      have B7 := Lib.hid (B6.out.trans ((((Below.refl _ _).alloc (Nat.le_refl _) _).trans (hb7.mono (by simp))).mono B6.out.size)); clear hb7
      rcases HC.out with ⟨hk, rfl⟩ | ⟨rfl, hok2, hil2⟩
      · have hk1 : (k == 0) = false := by rw [beq_eq_false_iff_ne]; exact hk
        unfold zeroDeed at *
        simp only at *
        go_wp2_with fail
        go_ret
        exact ⟨by simp; first | rfl | decide | simp [eq7], B7.out.alloc B7.out.size _⟩
      · have HIL2 := Lib.hid hil2; have hio := fun w => ideedok y w
        rw [hok2] at hio
        have HIO := Lib.hid hio; clear hil2 hio hok2
        go_wp2_with fail
        refine (HIL2.out _).mono ?_
        rintro e w8 ⟨rfl, hb8⟩
        obtain ⟨hc8, hf8⟩ := bcell hb8
        have hz8 := hb8.size
        try simp at hz8
        have q8_0 : w6.heap.size < w8.heap.size := by omega
        have q8_1 : w7.heap.size < w8.heap.size := by omega
        have B8 := Lib.hid (B7.out.trans ((((Below.refl _ _).alloc (Nat.le_refl _) _).trans (hb8.mono (by simp))).mono B7.out.size)); clear hb8
        go_wp2_with fail
        refine (HIO.out _).mono ?_
        rintro e w9 ⟨rfl, hb9⟩
        obtain ⟨hc9, hf9⟩ := bcell hb9
        have hz9 := hb9.size
        try simp at hz9
        have B9 := Lib.hid (B8.out.trans (hb9.mono B8.out.size)); clear hb9
        go_wp2_with fail
        go_ret
        exact ⟨by simp, B9.out⟩
end Go.Proofs.YtdejncnjaebjfaaDoor.fnLine18
