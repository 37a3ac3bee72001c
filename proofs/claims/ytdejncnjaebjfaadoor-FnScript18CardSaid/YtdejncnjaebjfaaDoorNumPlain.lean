/-
  Plain laws of numOf and txt: a number of at most ten digits is read from its own text.
-/
import Derived.Test.YtdejncnjaebjfaaDoorNum
namespace Go.Proofs.YtdejncnjaebjfaaDoor
set_option linter.unusedVariables false
set_option linter.unusedSimpArgs false

theorem bAt_app (a b : List UInt8) (i : Nat) (h : i < a.length) : bAt (a ++ b) i = bAt a i := by
  unfold bAt
  rw [List.getD_eq_getElem?_getD, List.getD_eq_getElem?_getD, List.getElem?_append_left h]

theorem valTo_app (a b : List UInt8) (f : Nat) : ∀ k, f + k ≤ a.length → valTo (a ++ b) f k = valTo a f k := by
  intro k
  induction k with
  | zero => intro _; rfl
  | succ k ih => intro h; unfold valTo; rw [ih (by omega), bAt_app _ _ _ (by omega)]

theorem bAt_last (a : List UInt8) (c : UInt8) : bAt (a ++ [c]) a.length = c.toNat := by
  unfold bAt
  rw [List.getD_eq_getElem?_getD, List.getElem?_append_right (Nat.le_refl _)]
  simp

theorem digit_nat {d : Nat} (h : d < 10) : (UInt8.ofNat (48 + d)).toNat = 48 + d := by
  simp; omega

theorem valTo_digs (k : Nat) : ∀ n : Nat, n < k → valTo (digs n) 0 (digs n).length = some (n : Int) := by
  induction k with
  | zero => intro n h; omega
  | succ k ih =>
    intro n h
    by_cases h1 : n < 10
    · rw [digs_lt h1]
      show valTo [UInt8.ofNat (48 + n)] 0 1 = _
      have hb : bAt [UInt8.ofNat (48 + n)] 0 = 48 + n := by
        have := digit_nat h1
        unfold bAt; simp only [List.getD_cons_zero, this]; omega
      unfold valTo
      show (if bAt [UInt8.ofNat (48 + n)] (0 + 0) < 48 ∨ 57 < bAt [UInt8.ofNat (48 + n)] (0 + 0) then none else some (10 * 0 + (bAt [UInt8.ofNat (48 + n)] (0 + 0) - 48))) = _
      rw [Nat.zero_add, hb, if_neg (by omega)]
      congr 1; omega
    · have h2 := ih (n / 10) (by omega)
      rw [digs_ge h1]
      rw [show (digs (n / 10) ++ [UInt8.ofNat (48 + n % 10)]).length = (digs (n / 10)).length + 1 from by simp]
      unfold valTo
      rw [valTo_app _ _ _ _ (by omega), h2]
      simp only []
      rw [Nat.zero_add, bAt_last, digit_nat (by omega), if_neg (by omega)]
      congr 1; omega

theorem digs_long (k : Nat) : ∀ n : Nat, 10 ^ k ≤ n → k < (digs n).length := by
  induction k with
  | zero => intro n h; have := digs_ne n; cases hd : digs n <;> simp_all
  | succ k ih =>
    intro n h
    rw [Nat.pow_succ] at h
    have hp : 0 < 10 ^ k := Nat.pow_pos (by omega)
    rw [digs_ge (by omega)]
    have := ih (n / 10) (by omega)
    simp; omega

theorem bAt_digs (n : Nat) : bAt (digs n) 0 ≠ 45 := by
  intro h
  have h1 := valTo_digs (n + 1) n (by omega)
  have h2 : valTo (digs n) 0 1 = none := by
    unfold valTo
    show (if bAt (digs n) (0 + 0) < 48 ∨ 57 < bAt (digs n) (0 + 0) then none else some (10 * 0 + (bAt (digs n) (0 + 0) - 48))) = none
    rw [Nat.zero_add, h, if_pos (by omega)]
  have h3 := valTo_none _ _ _ h2 (digs n).length (by have := digs_ne n; cases hd : digs n <;> simp_all)
  rw [h1] at h3; simp at h3

theorem numOf_txt_in {x : Int} (h1 : -10000000000 < x) (h2 : x < 10000000000) : numOf (txt x) = (x, true) := by
  have hl : (digs x.natAbs).length ≤ 10 := digs_len 9 x.natAbs (by omega)
  have hne : 0 < (digs x.natAbs).length := by have := digs_ne x.natAbs; cases hd : digs x.natAbs <;> simp_all
  have hv := valTo_digs (x.natAbs + 1) x.natAbs (by omega)
  by_cases hx : x < 0
  · have e : txt x = 45 :: digs x.natAbs := txt_neg hx
    have hb : bAt (txt x) 0 = 45 := by rw [e]; rfl
    have hln : (txt x).length - 1 = (digs x.natAbs).length := by rw [e]; simp
    have hv' : valTo (txt x) 1 ((txt x).length - 1) = some (x.natAbs : Int) := by
      rw [hln, ← valTo_drop, e]; exact hv
    have := numOf_some (l := txt x) 1 x.natAbs (by rw [if_pos hb]) (by omega) hv' (by rw [if_pos rfl]; congr 1; omega)
    rw [this, if_pos rfl]
    congr 1; omega
  · have e : txt x = digs x.natAbs := txt_nn (by omega)
    have hb : bAt (txt x) 0 ≠ 45 := by rw [e]; exact bAt_digs _
    have hv' : valTo (txt x) 0 ((txt x).length - 0) = some (x.natAbs : Int) := by
      rw [Nat.sub_zero, e]; exact hv
    have := numOf_some (l := txt x) 0 x.natAbs (by rw [if_neg hb]) (by rw [e]; omega) hv' (by rw [if_neg (by omega)]; congr 1; omega)
    rw [this, if_neg (by omega)]
    congr 1; omega

theorem numOf_txt_out {x : Int} (h : x ≤ -10000000000 ∨ 10000000000 ≤ x) : numOf (txt x) = (0, false) := by
  have hl : 10 < (digs x.natAbs).length := digs_long 10 x.natAbs (by omega)
  by_cases hx : x < 0
  · have e : txt x = 45 :: digs x.natAbs := txt_neg hx
    have hb : bAt (txt x) 0 = 45 := by rw [e]; rfl
    exact numOf_long 1 (by rw [if_pos hb]) (by rw [e]; simp; omega)
  · have e : txt x = digs x.natAbs := txt_nn (by omega)
    have hb : bAt (txt x) 0 ≠ 45 := by rw [e]; exact bAt_digs _
    exact numOf_long 0 (by rw [if_neg hb]) (by rw [e]; omega)

/-- what is read is in range, and its text is what was read -/
theorem numOf_cases (l : List UInt8) : (∃ v, numOf l = (v, true) ∧ txt v = l ∧ -9999999999 ≤ v ∧ v ≤ 9999999999) ∨ numOf l = (0, false) := by
  obtain ⟨f, hf⟩ : ∃ f, f = if bAt l 0 = 45 then 1 else 0 := ⟨_, rfl⟩
  by_cases hlen : l.length - f = 0 ∨ 10 < l.length - f
  · exact .inr (numOf_long f hf hlen)
  · cases hx : valTo l f (l.length - f) with
    | none => exact .inr (numOf_none f hf hx)
    | some x =>
      by_cases ht : txt (if f = 1 then -x else x) = l
      · refine .inl ⟨_, numOf_some f x hf hlen hx ht, ht, ?_⟩
        obtain ⟨a, b, c⟩ := valTo_bd l f (l.length - f) x (by omega) hx
        have c' := c (by omega)
        split <;> omega
      · exact .inr (numOf_other f x hf hx ht)
end Go.Proofs.YtdejncnjaebjfaaDoor
