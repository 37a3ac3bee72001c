/-
  The contracts of NumOf (program and reference): each reads the number of a text, as 'numOf' says.
-/
import Derived.Test.YtdejncnjaebjfaaDoorText
namespace Go.Proofs.YtdejncnjaebjfaaDoor
set_option linter.unusedVariables false
set_option linter.unusedSimpArgs false
open Go.ChangeShapes Go.WideShapes Go.ChangeAt Go.RowKit

/-- the number that k digits from place f on are; none where one is no digit -/
def valTo (l : List UInt8) (f : Nat) : Nat → Option Int
  | 0 => some 0
  | k + 1 => match valTo l f k with
    | none => none
    | some x => if bAt l (f + k) < 48 ∨ 57 < bAt l (f + k) then none else some (10 * x + (bAt l (f + k) - 48))

theorem valTo_bd (l : List UInt8) (f : Nat) : ∀ (k : Nat) (x : Int), k ≤ 11 → valTo l f k = some x → 0 ≤ x ∧ x ≤ 99999999999 ∧ (k ≤ 10 → x ≤ 9999999999) := by
  have h : ∀ (k : Nat) (x : Int), valTo l f k = some x → 0 ≤ x ∧ x < (10 : Int) ^ k := by
    intro k
    induction k with
    | zero => intro x h; simp [valTo] at h; subst h; simp
    | succ k ih =>
      intro x h
      unfold valTo at h
      split at h
      · simp at h
      · rename_i y hy
        split at h
        · simp at h
        · simp at h
          have := ih y hy
          rw [Int.pow_succ]
          omega
  intro k x hk hx
  obtain ⟨h0, h1⟩ := h k x hx
  have e : ∀ m : Nat, m ≤ 11 → (10 : Int) ^ m ≤ 100000000000 := by
    intro m hm
    have : m = 0 ∨ m = 1 ∨ m = 2 ∨ m = 3 ∨ m = 4 ∨ m = 5 ∨ m = 6 ∨ m = 7 ∨ m = 8 ∨ m = 9 ∨ m = 10 ∨ m = 11 := by omega
    rcases this with rfl | rfl | rfl | rfl | rfl | rfl | rfl | rfl | rfl | rfl | rfl | rfl <;> decide
  have e' : ∀ m : Nat, m ≤ 10 → (10 : Int) ^ m ≤ 10000000000 := by
    intro m hm
    have : m = 0 ∨ m = 1 ∨ m = 2 ∨ m = 3 ∨ m = 4 ∨ m = 5 ∨ m = 6 ∨ m = 7 ∨ m = 8 ∨ m = 9 ∨ m = 10 := by omega
    rcases this with rfl | rfl | rfl | rfl | rfl | rfl | rfl | rfl | rfl | rfl | rfl <;> decide
  exact ⟨h0, by have := e k hk; omega, fun h => by have := e' k h; omega⟩

theorem valTo_none (l : List UInt8) (f : Nat) (k : Nat) (h : valTo l f k = none) : ∀ m, k ≤ m → valTo l f m = none := by
  intro m
  induction m with
  | zero => intro hm; obtain rfl : k = 0 := by omega
            exact h
  | succ m ih =>
    intro hm
    by_cases e : k = m + 1
    · subst e; exact h
    · unfold valTo
      rw [ih (by omega)]

theorem valTo_drop (l : List UInt8) (f : Nat) : ∀ k, valTo (l.drop f) 0 k = valTo l f k := by
  intro k
  induction k with
  | zero => rfl
  | succ k ih => unfold valTo; rw [ih, Nat.zero_add, bAt_drop]

/-- the number of a text -/
def numOf (l : List UInt8) : Int × Bool :=
  let f := if bAt l 0 = 45 then 1 else 0
  if l.length - f = 0 ∨ 10 < l.length - f then (0, false) else
  match valTo l f (l.length - f) with
  | none => (0, false)
  | some x => if txt (if f = 1 then -x else x) = l then (if f = 1 then -x else x, true) else (0, false)

def ret_num (p : Int × Bool) : Ending := .returned (.tuple #[.int .i64 p.1, .bool p.2])

theorem bAt_len {l : List UInt8} (h : bAt l 0 = 45) : 0 < l.length := by
  cases l with
  | nil => simp [bAt] at h
  | cons c t => simp

theorem numOf_long {l : List UInt8} (f : Nat) (hf : f = if bAt l 0 = 45 then 1 else 0) (h : l.length - f = 0 ∨ 10 < l.length - f) : numOf l = (0, false) := by
  unfold numOf; simp only [← hf]; rw [if_pos h]
theorem numOf_none {l : List UInt8} (f : Nat) (hf : f = if bAt l 0 = 45 then 1 else 0) (h : valTo l f (l.length - f) = none) : numOf l = (0, false) := by
  unfold numOf; simp only [← hf]; rw [h]; simp
theorem numOf_other {l : List UInt8} (f : Nat) (x : Int) (hf : f = if bAt l 0 = 45 then 1 else 0) (h : valTo l f (l.length - f) = some x) (h' : txt (if f = 1 then -x else x) ≠ l) : numOf l = (0, false) := by
  unfold numOf; simp only [← hf]; rw [h]; simp [h']
theorem numOf_some {l : List UInt8} (f : Nat) (x : Int) (hf : f = if bAt l 0 = 45 then 1 else 0) (hl : ¬ (l.length - f = 0 ∨ 10 < l.length - f)) (h : valTo l f (l.length - f) = some x) (h' : txt (if f = 1 then -x else x) = l) :
    numOf l = (if f = 1 then -x else x, true) := by
  unfold numOf; simp only [← hf]; rw [if_neg hl, h]; simp [h']

theorem txt_dash (n : Int) : txt n ≠ [45] := by
  unfold txt
  split
  · have := digs_ne n.natAbs
    simp [this]
  · intro h
    have h1 := digs_ge (n := n.natAbs)
    by_cases hn : n.natAbs < 10
    · rw [digs_lt hn] at h
      have h2 : n.natAbs = 0 ∨ n.natAbs = 1 ∨ n.natAbs = 2 ∨ n.natAbs = 3 ∨ n.natAbs = 4 ∨ n.natAbs = 5 ∨ n.natAbs = 6 ∨ n.natAbs = 7 ∨ n.natAbs = 8 ∨ n.natAbs = 9 := by omega
      rcases h2 with h2 | h2 | h2 | h2 | h2 | h2 | h2 | h2 | h2 | h2 <;> rw [h2] at h <;> revert h <;> decide
    · rw [h1 hn] at h
      have := digs_ne (n.natAbs / 10)
      have := congrArg List.length h
      have h3 : (digs (n.natAbs / 10)).length ≠ 0 := by simpa using ‹digs (n.natAbs / 10) ≠ []›
      rw [List.length_append] at this; simp only [List.length_cons, List.length_nil] at this; omega

/-- NumOf of the reference -/
theorem snum (l : List UInt8) (w : World) (hl : l.length ≤ 9223372036854775807) :
    Calls Tryd.prog 28 #[.string (bs l)] w fun e w' => e = ret_num (numOf l) ∧ Below w.heap.size w w' := by
  by_cases h0 : l.length = 0
  · obtain rfl : l = [] := List.eq_nil_of_length_eq_zero h0
    go_enter Tryd.func28, Tryd.ntmps28
    go_wp2_with fail
    go_ret2
    exact ⟨rfl, Below.refl _ _⟩
  · have hz : ((l.length : Int) == 0) = false := by rw [beq_eq_false_iff_ne]; omega
    by_cases h11 : 11 < l.length
    · have e := numOf_long (l := l) _ rfl (by split <;> omega)
      have E := Lib.hid e; clear e
      go_enter Tryd.func28, Tryd.ntmps28
      go_wp2_with fail
      go_ret2
      exact ⟨by rw [E.out]; rfl, Below.refl _ _⟩
    · by_cases h45 : bAt l 0 = 45
      · have hb45 : (bAt l 0 == 45) = true := by simpa using h45
        have hf : 1 = if bAt l 0 = 45 then 1 else 0 := by rw [if_pos h45]
        have HF := Lib.hid hf; clear hf h45
        by_cases hlong : 10 < l.length - 1
        · have e := numOf_long (l := l) 1 HF.out (by omega)
          have E := Lib.hid e; clear e
          have hlong' : 10 < (l.length : Int) - 1 := by omega
          go_enter Tryd.func28, Tryd.ntmps28
          go_wp2_with fail
          all_goals
            go_ret2
            exact ⟨by rw [E.out]; rfl, Below.refl _ _⟩
        · have hlong' : ¬ 10 < (l.length : Int) - 1 := by omega
          go_enter Tryd.func28, Tryd.ntmps28
          go_wp2_with fail
          go_loop [5, 6] (fun x i => ∃ (k : Nat) (y : Int), 1 + k ≤ l.length ∧ i = .int .i64 (1 + (k : Int)) ∧ x = .int .i64 y ∧ RowKit.Hid (valTo l 1 k = some y)) (fun _ i => l.length - (intOf i).toNat)
          case atStart => exact ⟨0, 0, by omega, rfl, rfl, rfl⟩
          case round =>
            obtain ⟨k, y, hk, rfl, rfl, hv⟩ := hrel
            obtain ⟨y0, y1, y2⟩ := valTo_bd l 1 k y (by omega) hv.out
            by_cases hlt : 1 + k < l.length
            · by_cases hd : bAt l (1 + k) < 48 ∨ 57 < bAt l (1 + k)
              · have e : numOf l = (0, false) := numOf_none 1 HF.out (valTo_none l 1 (k + 1) (by unfold valTo; rw [hv.out]; simp only []; rw [if_pos (by simpa using hd)]) _ (by omega))
                have E := Lib.hid e; clear e
                rcases hd with hd | hd
                all_goals
                  go_wp2_with fail
                  go_ret2
                  exact ⟨by rw [E.out]; rfl, Below.refl _ _⟩
              · have hd1 : ¬ bAt l (1 + k) < 48 := by omega
                have hd2 : ¬ 57 < bAt l (1 + k) := by omega
                have hv' : RowKit.Hid (valTo l 1 (k + 1) = some (10 * y + bAt l (1 + k) - 48)) := by
                  show _ = _
                  unfold valTo; rw [hv.out]; simp only []; rw [if_neg (by simpa using hd)]; congr 1; omega
                clear hd
                go_wp2_with fail
                go_round
                case rel => exact ⟨k + 1, _, by omega, by go_num, rfl, hv'⟩
                case measure => simp [intOf]; omega
            · obtain rfl : k = l.length - 1 := by omega
              go_wp2_with fail
              refine (stext (-y) w (by omega) (by omega)).mono ?_
              rintro e w1 ⟨rfl, hb⟩
              by_cases hx : txt (-y) = l
              · have hx' : (txt (-y) == l) = true := by simpa using hx
                have hne : ¬ (l.length - 1 = 0 ∨ 10 < l.length - 1) := by
                  rintro (h1 | h1)
                  · have h2 := HF.out
                    cases l with
                    | nil => simp at h0
                    | cons c t =>
                      have ht : t = [] := by simpa using h1
                      subst ht
                      split at h2
                      · rename_i h3
                        have h4 : c = 45 := by
                          apply UInt8.toNat_inj.1
                          simp [bAt] at h3
                          have : (c.toNat : Int) = 45 := h3
                          have h5 : (45 : UInt8).toNat = 45 := rfl
                          omega
                        subst h4
                        exact txt_dash _ hx
                      · omega
                  · omega
                have e := numOf_some 1 y HF.out hne hv.out (by simpa using hx)
                have E := Lib.hid e
                clear e hx
                go_wp2_with fail
                go_ret2
                exact ⟨by rw [E.out]; rfl, hb⟩
              · have hx' : (txt (-y) == l) = false := by simpa using hx
                have e := numOf_other 1 y HF.out hv.out (by simpa using hx)
                have E := Lib.hid e
                clear e hx
                go_wp2_with fail
                go_ret2
                exact ⟨by rw [E.out]; rfl, hb⟩
      · have hb45 : (bAt l 0 == 45) = false := by rw [beq_eq_false_iff_ne]; exact h45
        have hf : 0 = if bAt l 0 = 45 then 1 else 0 := by rw [if_neg h45]
        have HF := Lib.hid hf; clear hf h45
        by_cases hlong : 10 < l.length - 0
        · have e := numOf_long (l := l) 0 HF.out (by omega)
          have E := Lib.hid e; clear e
          have hlong' : 10 < (l.length : Int) := by omega
          go_enter Tryd.func28, Tryd.ntmps28
          go_wp2_with fail
          all_goals
            go_ret2
            exact ⟨by rw [E.out]; rfl, Below.refl _ _⟩
        · have hlong' : ¬ 10 < (l.length : Int) := by omega
          go_enter Tryd.func28, Tryd.ntmps28
          go_wp2_with fail
          go_loop [5, 6] (fun x i => ∃ (k : Nat) (y : Int), 0 + k ≤ l.length ∧ i = .int .i64 ((k : Int)) ∧ x = .int .i64 y ∧ RowKit.Hid (valTo l 0 k = some y)) (fun _ i => l.length - (intOf i).toNat)
          case atStart => exact ⟨0, 0, by omega, rfl, rfl, rfl⟩
          case round =>
            obtain ⟨k, y, hk, rfl, rfl, hv⟩ := hrel
            obtain ⟨y0, y1, y2⟩ := valTo_bd l 0 k y (by omega) hv.out
            by_cases hlt : k < l.length
            · by_cases hd : bAt l (k) < 48 ∨ 57 < bAt l (k)
              · have e : numOf l = (0, false) := numOf_none 0 HF.out (valTo_none l 0 (k + 1) (by unfold valTo; rw [hv.out]; simp only []; rw [if_pos (by simpa using hd)]) _ (by omega))
                have E := Lib.hid e; clear e
                rcases hd with hd | hd
                all_goals
                  go_wp2_with fail
                  go_ret2
                  exact ⟨by rw [E.out]; rfl, Below.refl _ _⟩
              · have hd1 : ¬ bAt l (k) < 48 := by omega
                have hd2 : ¬ 57 < bAt l (k) := by omega
                have hv' : RowKit.Hid (valTo l 0 (k + 1) = some (10 * y + bAt l (k) - 48)) := by
                  show _ = _
                  unfold valTo; rw [hv.out]; simp only []; rw [if_neg (by simpa using hd)]; congr 1; rw [Nat.zero_add]; omega
                clear hd
                go_wp2_with fail
                go_round
                case rel => exact ⟨k + 1, _, by omega, by go_num, rfl, hv'⟩
                case measure => simp [intOf]; omega
            · obtain rfl : k = l.length - 0 := by omega
              go_wp2_with fail
              refine (stext (y) w (by omega) (by omega)).mono ?_
              rintro e w1 ⟨rfl, hb⟩
              by_cases hx : txt (y) = l
              · have hx' : (txt (y) == l) = true := by simpa using hx
                have hne : ¬ (l.length - 0 = 0 ∨ 10 < l.length - 0) := by omega
                have e := numOf_some 0 y HF.out hne hv.out (by simpa using hx)
                have E := Lib.hid e
                clear e hx
                go_wp2_with fail
                go_ret2
                exact ⟨by rw [E.out]; rfl, hb⟩
              · have hx' : (txt (y) == l) = false := by simpa using hx
                have e := numOf_other 0 y HF.out hv.out (by simpa using hx)
                have E := Lib.hid e
                clear e hx
                go_wp2_with fail
                go_ret2
                exact ⟨by rw [E.out]; rfl, hb⟩
theorem trim_yes (l : List UInt8) (w : World) (hm : bAt l 0 = 45) :
    Calls Tryd.prog 56 #[.string (bs l), .string (bs [45])] w fun e w' => e = .returned (.string (bs (l.drop 1))) ∧ w = w' := by
  have h := bAt_len hm
  have ht : (List.take 1 l == [45]) = true := by
    cases l with
    | nil => simp at h
    | cons c t =>
      have h4 : c = 45 := by
        apply UInt8.toNat_inj.1
        have h3 : (c.toNat : Int) = 45 := by simpa [bAt] using hm
        have h5 : (45 : UInt8).toNat = 45 := rfl
        omega
      subst h4; simp
  clear hm
  have hl : 1 ≤ (l.length : Int) := by omega
  go_enter Tryd.func56, Tryd.ntmps56
  go_wp2
  go_ret
  refine ⟨ret_bs ?_, rfl⟩
  simp
theorem trim_no (l : List UInt8) (w : World) (hm : bAt l 0 ≠ 45) :
    Calls Tryd.prog 56 #[.string (bs l), .string (bs [45])] w fun e w' => e = .returned (.string (bs l)) ∧ w = w' := by
  by_cases h : 0 < l.length
  · have ht : (List.take 1 l == [45]) = false := by
      cases l with
      | nil => simp at h
      | cons c t =>
        have h4 : c ≠ 45 := by
          rintro rfl
          exact hm rfl
        simpa using h4
    clear hm
    have hl : 1 ≤ (l.length : Int) := by omega
    go_enter Tryd.func56, Tryd.ntmps56
    go_wp2
    go_ret
    exact ⟨rfl, rfl⟩
  · have hl : ¬ 1 ≤ (l.length : Int) := by omega
    clear hm
    go_enter Tryd.func56, Tryd.ntmps56
    go_wp2
    go_ret
    exact ⟨rfl, rfl⟩

end Go.Proofs.YtdejncnjaebjfaaDoor
