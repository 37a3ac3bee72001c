/-
  A script is read as its deeds; cut anywhere, as the deeds of the lines ahead of the cut. No program in sight.
-/
import Derived.Test.YtdejncnjaebjfaaDoorRt
import Derived.Test.YtdejncnjaebjfaaDoorScriptD
namespace Go.Proofs.YtdejncnjaebjfaaDoor
set_option linter.unusedVariables false
set_option linter.unusedSimpArgs false
open Go.ChangeShapes Go.WideShapes Go.ChangeAt Go.RowKit

/-- how many of the first k bytes are line ends -/
def nlTo (l : List UInt8) : Nat → Nat
  | 0 => 0
  | k + 1 => nlTo l k + if bAt l k = 10 then 1 else 0
theorem nlTo_left (a b : List UInt8) : ∀ k, k ≤ a.length → nlTo (a ++ b) k = nlTo a k
  | 0, _ => rfl
  | k + 1, h => by unfold nlTo; rw [nlTo_left a b k (by omega), bAt_app a b k (by omega)]
theorem bAt_right (a b : List UInt8) (k : Nat) : bAt (a ++ b) (a.length + k) = bAt b k := by
  unfold bAt
  simp [List.getD_eq_getElem?_getD, List.getElem?_append_right]
theorem nlTo_right (a b : List UInt8) : ∀ k, nlTo (a ++ b) (a.length + k) = nlTo a a.length + nlTo b k
  | 0 => by rw [Nat.add_zero, nlTo_left a b _ (Nat.le_refl _)]; rfl
  | k + 1 => by
    rw [← Nat.add_assoc]
    rw [show nlTo (a ++ b) (a.length + k + 1) = nlTo (a ++ b) (a.length + k) + (if bAt (a ++ b) (a.length + k) = 10 then 1 else 0) from rfl, show nlTo b (k + 1) = nlTo b k + (if bAt b k = 10 then 1 else 0) from rfl, nlTo_right a b k, bAt_right]
    omega
theorem nlTo_no {l : List UInt8} (h : ∀ c ∈ l, c ≠ 10) : ∀ k, k ≤ l.length → nlTo l k = 0
  | 0, _ => rfl
  | k + 1, hk => by
    unfold nlTo
    rw [nlTo_no h k (by omega), if_neg]
    unfold bAt
    rw [List.getD_eq_getElem?_getD, List.getElem?_eq_getElem (by omega)]
    intro e
    apply h l[k] (List.getElem_mem _)
    apply UInt8.toNat_inj.1
    have : (10 : UInt8).toNat = 10 := rfl
    simp at e
    omega
theorem bAt_no {l : List UInt8} (h : ∀ c ∈ l, c ≠ 10) {k : Nat} (hk : k < l.length) : bAt l k ≠ 10 := by
  unfold bAt
  rw [List.getD_eq_getElem?_getD, List.getElem?_eq_getElem hk]
  intro e
  apply h l[k] (List.getElem_mem _)
  apply UInt8.toNat_inj.1
  have : (10 : UInt8).toNat = 10 := rfl
  simp at e
  omega
theorem line_ch (x : MDeed) : ∀ c ∈ lineOf x, c ≠ 10 := by
  intro c hc
  unfold lineOf at hc
  rcases List.mem_append.1 hc with hc | hc
  · exact (kname_ch c hc).2
  · obtain ⟨n, _, hn⟩ := List.mem_flatMap.1 hc
    unfold numTxt at hn
    rcases List.mem_cons.1 hn with rfl | hn
    · decide
    · exact (txt_ch c hn).2
theorem nlTo_line (x : MDeed) : nlTo (lineNl x) (lineNl x).length = 1 := by
  unfold lineNl
  rw [List.length_append, nlTo_right, nlTo_no (line_ch x) _ (Nat.le_refl _)]
  rfl
theorem lineNl_last (x : MDeed) : bAt (lineNl x) ((lineNl x).length - 1) = 10 := by
  unfold lineNl
  rw [List.length_append]
  show bAt _ ((lineOf x).length + 1 - 1) = 10
  rw [Nat.add_sub_cancel]
  have := bAt_right (lineOf x) [10] 0
  rw [Nat.add_zero] at this
  rw [this]
  rfl
/-- a script that is cut -/
theorem cut_script : ∀ (xs D : List MDeed) (cut : Nat), (∀ x ∈ xs, deedOk x = true) → D.length + xs.length ≤ 300 → cut ≤ (xs.flatMap lineNl).length →
    ∃ e : Int, pS ((xs.flatMap lineNl).take cut) D = (D ++ xs.take (nlTo (xs.flatMap lineNl) cut), e) ∧ nlTo (xs.flatMap lineNl) cut ≤ xs.length ∧ (e = 0 ↔ cut = 0 ∨ bAt (xs.flatMap lineNl) (cut - 1) = 10)
  | [], D, cut, _, _, hc => by
    simp at hc
    subst hc
    exact ⟨0, by simp [pS_nil, nlTo], by simp [nlTo], by simp⟩
  | x :: t, D, cut, hok, hD, hc => by
    have hx := hok x (by simp)
    have hf : (x :: t).flatMap lineNl = lineNl x ++ t.flatMap lineNl := by simp
    have hll : (lineNl x).length = (lineOf x).length + 1 := by simp [lineNl]
    rw [hf]
    by_cases h : (lineNl x).length ≤ cut
    · obtain ⟨k, rfl⟩ : ∃ k, cut = (lineNl x).length + k := ⟨cut - (lineNl x).length, by omega⟩
      rw [hf, List.length_append] at hc
      obtain ⟨e, h1, h2, h3⟩ := cut_script t (D ++ [x]) k (fun y hy => hok y (by simp [hy])) (by simp at hD ⊢; omega) (by omega)
      have ht : (lineNl x ++ t.flatMap lineNl).take ((lineNl x).length + k) = lineOf x ++ 10 :: (t.flatMap lineNl).take k := by
        rw [List.take_append, List.take_of_length_le (by omega), show (lineNl x).length + k - (lineNl x).length = k from by omega]
        simp [lineNl]
      refine ⟨e, ?_, ?_, ?_⟩
      · rw [ht, pS_next (by simp at hD; omega) (cutNl_app (line_ch x)) (by rw [parse_line hx]), parse_line hx]
        simp only
        rw [h1, nlTo_right, nlTo_line, Nat.add_comm 1, List.take_succ_cons, List.append_assoc]
        rfl
      · rw [nlTo_right, nlTo_line]; simp; omega
      · rw [h3]
        cases k with
        | zero =>
          rw [Nat.add_zero]
          have := lineNl_last x
          rw [← bAt_app _ (t.flatMap lineNl) _ (by omega)] at this
          simp [this]
        | succ k =>
          rw [show (lineNl x).length + (k + 1) - 1 = (lineNl x).length + k from by omega, bAt_right]
          simp
    · have ht : (lineNl x ++ t.flatMap lineNl).take cut = (lineOf x).take cut := by
        rw [List.take_append_of_le_length (by omega)]
        unfold lineNl
        rw [List.take_append_of_le_length (by omega)]
      have hn : nlTo (lineNl x ++ t.flatMap lineNl) cut = 0 := by
        rw [nlTo_left _ _ _ (by omega)]
        unfold lineNl
        rw [nlTo_left _ _ _ (by omega)]
        exact nlTo_no (line_ch x) _ (by omega)
      rw [hn, ht]
      by_cases h0 : cut = 0
      · subst h0
        exact ⟨0, by simp [pS_nil], by omega, by simp⟩
      · refine ⟨6, ?_, by omega, ?_⟩
        · rw [pS_end (by intro e; have := congrArg List.length e; rw [List.length_take] at this; simp only [List.length_nil] at this; omega) (by simp at hD; omega) (cutNl_none fun c hc => line_ch x c (List.mem_of_mem_take hc))]
          simp
        · have hb : bAt (lineNl x ++ t.flatMap lineNl) (cut - 1) ≠ 10 := by
            rw [bAt_app _ _ _ (by omega)]
            unfold lineNl
            rw [bAt_app _ _ _ (by omega)]
            exact bAt_no (line_ch x) (by omega)
          simp [h0, hb]
theorem full_script : ∀ (xs D : List MDeed), (∀ x ∈ xs, deedOk x = true) → D.length + xs.length ≤ 300 → pS (xs.flatMap lineNl) D = (D ++ xs, 0)
  | [], D, _, _ => by simp [pS_nil]
  | x :: t, D, hok, hD => by
    have hx := hok x (by simp)
    have hf : (x :: t).flatMap lineNl = lineOf x ++ 10 :: t.flatMap lineNl := by simp [lineNl]
    rw [hf, pS_next (by simp at hD; omega) (cutNl_app (line_ch x)) (by rw [parse_line hx]), parse_line hx]
    simp only
    rw [full_script t (D ++ [x]) (fun y hy => hok y (by simp [hy])) (by simp at hD ⊢; omega), List.append_assoc]
    rfl
/-- what ScriptText returns, and how that is read -/
theorem script_cases (xs : List MDeed) : scriptRes xs = ([], false) ∨ (scriptRes xs = (xs.flatMap lineNl, true) ∧ (xs.flatMap lineNl).length ≤ 20000 ∧ xs.length ≤ 300 ∧ parseScript (xs.flatMap lineNl) = (xs, 0) ∧ ∀ cut, cut ≤ (xs.flatMap lineNl).length →
    ∃ e : Int, parseScript ((xs.flatMap lineNl).take cut) = (xs.take (nlTo (xs.flatMap lineNl) cut), e) ∧ nlTo (xs.flatMap lineNl) cut ≤ xs.length ∧ (e = 0 ↔ cut = 0 ∨ bAt (xs.flatMap lineNl) (cut - 1) = 10)) := by
  unfold scriptRes
  split
  · exact .inl rfl
  · rename_i h3
    split
    · rename_i hall
      split
      · exact .inl rfl
      · rename_i h2
        have hok : ∀ x ∈ xs, deedOk x = true := List.all_eq_true.1 hall
        refine .inr ⟨rfl, by omega, by omega, ?_, fun cut hc => ?_⟩
        · rw [script_short h2, full_script xs [] hok (by simp; omega)]
          rfl
        · obtain ⟨e, q1, q2, q3⟩ := cut_script xs [] cut hok (by simp; omega) hc
          refine ⟨e, ?_, q2, q3⟩
          rw [script_short (by rw [List.length_take]; omega), q1]
          rfl
    · exact .inl rfl
theorem nlTo_all (xs : List MDeed) : nlTo (xs.flatMap lineNl) (xs.flatMap lineNl).length = xs.length := by
  induction xs with
  | nil => rfl
  | cons x t ih =>
    rw [show (x :: t).flatMap lineNl = lineNl x ++ t.flatMap lineNl from by simp, List.length_append, nlTo_right, nlTo_line, ih]
    simp
    omega
theorem nlTo_le (l : List UInt8) : ∀ k, nlTo l k ≤ k
  | 0 => Nat.le_refl _
  | k + 1 => by unfold nlTo; have := nlTo_le l k; split <;> omega
end Go.Proofs.YtdejncnjaebjfaaDoor
