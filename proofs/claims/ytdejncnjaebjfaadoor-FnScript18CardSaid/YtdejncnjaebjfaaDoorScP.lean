/-
  What ParseScript returns, plain: the deeds of the lines, and a code; no program in sight.
-/
import Derived.Test.YtdejncnjaebjfaaDoorWordsS
import Derived.Lib.IndexMore
namespace Go.Proofs.YtdejncnjaebjfaaDoor
set_option linter.unusedVariables false
set_option linter.unusedSimpArgs false
open Go.ChangeShapes Go.WideShapes Go.ChangeAt Go.RowKit

/-- what stands ahead of the first line end, and behind it -/
def cutNl : List UInt8 → Option (List UInt8 × List UInt8)
  | [] => none
  | c :: t => if c = 10 then some ([], t) else (cutNl t).map fun p => (c :: p.1, p.2)
theorem cutNl_none {l : List UInt8} (h : ∀ c ∈ l, c ≠ 10) : cutNl l = none := by
  induction l with
  | nil => rfl
  | cons c t ih =>
    unfold cutNl
    rw [if_neg (h c (by simp)), ih (fun d hd => h d (by simp [hd]))]
    rfl
theorem cutNl_app {a b : List UInt8} (h : ∀ c ∈ a, c ≠ 10) : cutNl (a ++ 10 :: b) = some (a, b) := by
  induction a with
  | nil => simp [cutNl]
  | cons c t ih =>
    rw [List.cons_append]
    unfold cutNl
    rw [if_neg (h c (by simp)), ih (fun d hd => h d (by simp [hd]))]
    rfl
theorem cutNl_some {l a b : List UInt8} (h : cutNl l = some (a, b)) : l = a ++ 10 :: b ∧ ∀ c ∈ a, c ≠ 10 := by
  induction l generalizing a b with
  | nil => simp [cutNl] at h
  | cons c t ih =>
    unfold cutNl at h
    by_cases hc : c = 10
    · rw [if_pos hc] at h
      injection h with h
      injection h with h1 h2
      subst h1 h2 hc
      simp
    · rw [if_neg hc] at h
      cases hp : cutNl t with
      | none => rw [hp] at h; simp at h
      | some p =>
        rw [hp] at h
        obtain ⟨p1, p2⟩ := p
        injection h with h
        injection h with h1 h2
        simp only at h1 h2
        subst h1 h2
        obtain ⟨e1, e2⟩ := ih hp
        refine ⟨by rw [e1]; rfl, fun d hd => ?_⟩
        rcases List.mem_cons.1 hd with rfl | hd
        · exact hc
        · exact e2 d hd
theorem cutNl_no {l : List UInt8} (h : cutNl l = none) : ∀ c ∈ l, c ≠ 10 := by
  induction l with
  | nil => simp
  | cons c t ih =>
    unfold cutNl at h
    by_cases hc : c = 10
    · rw [if_pos hc] at h; simp at h
    · rw [if_neg hc] at h
      cases hp : cutNl t with
      | none =>
        intro d hd
        rcases List.mem_cons.1 hd with rfl | hd
        · exact hc
        · exact ih hp d hd
      | some p => rw [hp] at h; simp at h

theorem index_nl (s : List UInt8) : (cutNl s = none ∧ Lib.index s [10] = -1) ∨ (∃ a b, cutNl s = some (a, b) ∧ Lib.index s [10] = a.length) := by
  induction s with
  | nil => left; exact ⟨rfl, rfl⟩
  | cons c t ih =>
    by_cases hc : c = 10
    · right
      subst hc
      refine ⟨[], t, by simp [cutNl], ?_⟩
      unfold Lib.index
      simp [List.isPrefixOf]
    · have hp : List.isPrefixOf [10] (c :: t) = false := by
        simp [List.isPrefixOf]
        exact fun h => hc h.symm
      rcases ih with ⟨h1, h2⟩ | ⟨a, b, h1, h2⟩
      · left
        refine ⟨by unfold cutNl; rw [if_neg hc, h1]; rfl, ?_⟩
        unfold Lib.index
        rw [hp, h2]; rfl
      · right
        refine ⟨c :: a, b, by unfold cutNl; rw [if_neg hc, h1]; rfl, ?_⟩
        unfold Lib.index
        rw [hp, h2]
        have : ((a.length : Int) == -1) = false := by rw [beq_eq_false_iff_ne]; omega
        rw [this]
        simp
theorem cut_nl_none {s : List UInt8} (h : cutNl s = none) : Lib.cut s [10] = (s, [], false) := by
  rcases index_nl s with ⟨_, h2⟩ | ⟨a, b, h1, _⟩
  · unfold Lib.cut; rw [h2, if_neg (by omega)]
  · rw [h] at h1; cases h1
theorem cut_nl_some {s a b : List UInt8} (h : cutNl s = some (a, b)) : Lib.cut s [10] = (a, b, true) := by
  rcases index_nl s with ⟨h1, _⟩ | ⟨a', b', h1, h2⟩
  · rw [h] at h1; cases h1
  · rw [h] at h1
    injection h1 with h1
    injection h1 with e1 e2
    subst e1 e2
    obtain ⟨e, _⟩ := cutNl_some h
    unfold Lib.cut
    rw [h2, if_pos (by omega)]
    subst e
    simp

def pScriptF : Nat → List UInt8 → List MDeed → List MDeed × Int
  | 0, _, D => (D, 0)
  | f + 1, l, D => match l with
    | [] => (D, 0)
    | _ :: _ => if D.length = 300 then (D, 1) else
      match cutNl l with
      | none => (D, 6)
      | some p => if (parseDeed p.1).2 = 0 then pScriptF f p.2 (D ++ [(parseDeed p.1).1]) else (D, (parseDeed p.1).2)
theorem pScriptF_eq (f : Nat) : ∀ (g : Nat) (l : List UInt8) (D : List MDeed), l.length < f → l.length < g → pScriptF f l D = pScriptF g l D := by
  induction f with
  | zero => intro g l D h; omega
  | succ f ih =>
    intro g l D h1 h2
    cases g with
    | zero => omega
    | succ g =>
      unfold pScriptF
      cases l with
      | nil => rfl
      | cons c t =>
        simp only []
        split
        · rfl
        · cases hc : cutNl (c :: t) with
          | none => rfl
          | some p =>
            obtain ⟨a, b⟩ := p
            simp only []
            have hl : (c :: t).length = a.length + 1 + b.length := by rw [(cutNl_some hc).1]; simp; omega
            rw [ih g b _ (by omega) (by omega)]
def pS (l : List UInt8) (D : List MDeed) : List MDeed × Int := pScriptF (l.length + 1) l D
theorem pS_nil (D : List MDeed) : pS [] D = (D, 0) := rfl
theorem pS_full {l : List UInt8} {D : List MDeed} (h : l ≠ []) (hD : D.length = 300) : pS l D = (D, 1) := by
  cases l with
  | nil => exact absurd rfl h
  | cons c t => unfold pS pScriptF; simp only []; rw [if_pos hD]
theorem pS_end {l : List UInt8} {D : List MDeed} (h : l ≠ []) (hD : D.length ≠ 300) (hc : cutNl l = none) : pS l D = (D, 6) := by
  cases l with
  | nil => exact absurd rfl h
  | cons c t => unfold pS pScriptF; simp only []; rw [if_neg hD, hc]
theorem cut_ne {l a b : List UInt8} (hc : cutNl l = some (a, b)) : l ≠ [] := by rintro rfl; simp [cutNl] at hc
theorem pS_bad {l a b : List UInt8} {D : List MDeed} (hD : D.length ≠ 300) (hc : cutNl l = some (a, b)) (hp : (parseDeed a).2 ≠ 0) : pS l D = (D, (parseDeed a).2) := by
  cases l with
  | nil => simp [cutNl] at hc
  | cons c t => unfold pS pScriptF; simp only []; rw [if_neg hD, hc]; simp only []; rw [if_neg hp]
theorem pS_next {l a b : List UInt8} {D : List MDeed} (hD : D.length ≠ 300) (hc : cutNl l = some (a, b)) (hp : (parseDeed a).2 = 0) : pS l D = pS b (D ++ [(parseDeed a).1]) := by
  cases l with
  | nil => simp [cutNl] at hc
  | cons c t =>
    have hl : (c :: t).length = a.length + 1 + b.length := by rw [(cutNl_some hc).1]; simp; omega
    unfold pS
    rw [show pScriptF ((c :: t).length + 1) (c :: t) D = pScriptF (c :: t).length b (D ++ [(parseDeed a).1]) from by
      conv => lhs; unfold pScriptF
      simp only []
      rw [if_neg hD, hc]; simp only []; rw [if_pos hp]]
    exact pScriptF_eq _ _ _ _ (by omega) (by omega)
/-- what ParseScript returns -/
def parseScript (l : List UInt8) : List MDeed × Int := if 20000 < l.length then ([], 1) else pS l []
theorem script_long {l : List UInt8} (h : 20000 < l.length) : parseScript l = ([], 1) := by unfold parseScript; rw [if_pos h]
theorem script_short {l : List UInt8} (h : ¬ 20000 < l.length) : parseScript l = pS l [] := by unfold parseScript; rw [if_neg h]

/-- the line end that a scan found -/
theorem cut_take {l : List UInt8} {f i : Nat} (hf : f ≤ i) (hi : i < l.length) (hs : bAt l i = 10) (hn : ∀ j, f ≤ j → j < i → bAt l j ≠ 10) : cutNl (l.drop f) = some ((l.take i).drop f, l.drop (i + 1)) := by
  have h1 : l.drop f = (l.take i).drop f ++ 10 :: l.drop (i + 1) := by
    have h2 : l[i] = 10 := by
      apply UInt8.toNat_inj.1
      unfold bAt at hs
      rw [List.getD_eq_getElem?_getD, List.getElem?_eq_getElem hi] at hs
      simp at hs
      have : (10 : UInt8).toNat = 10 := rfl
      omega
    conv => lhs; rw [← List.take_append_drop i l]
    rw [List.drop_append_of_le_length (by simp; omega), List.drop_eq_getElem_cons hi, h2]
  rw [h1, cutNl_app]
  intro c hc
  obtain ⟨j, hj⟩ := List.getElem?_of_mem hc
  rw [List.getElem?_drop] at hj
  have hlt : f + j < i := by
    have := (List.getElem?_eq_some_iff.1 hj).1
    rw [List.length_take] at this
    omega
  rw [List.getElem?_take, if_pos hlt] at hj
  intro e
  subst e
  apply hn (f + j) (by omega) hlt
  unfold bAt
  rw [List.getD_eq_getElem?_getD, hj]
  rfl
theorem cut_last {l : List UInt8} {f : Nat} (hn : ∀ j, f ≤ j → j < l.length → bAt l j ≠ 10) : cutNl (l.drop f) = none := by
  apply cutNl_none
  intro c hc
  obtain ⟨j, hj⟩ := List.getElem?_of_mem hc
  rw [List.getElem?_drop] at hj
  have hlt := (List.getElem?_eq_some_iff.1 hj).1
  intro e
  subst e
  apply hn (f + j) (by omega) hlt
  unfold bAt
  rw [List.getD_eq_getElem?_getD, hj]
  rfl
theorem drop_ne {l : List UInt8} {f : Nat} (h : f < l.length) : l.drop f ≠ [] := by
  intro e
  have := congrArg List.length e
  simp at this
  omega

theorem DeedOk.wf {x : MDeed} (h : DeedOk x) : x.wf := by
  unfold DeedOk at h
  unfold MDeed.wf I64
  omega
theorem zero_wf : zeroDeed.wf := by simp [zeroDeed, MDeed.wf, I64]
theorem parse_cases (l : List UInt8) : (∃ k, parseDeed l = (zeroDeed, k) ∧ 1 ≤ k ∧ k ≤ 5) ∨ (∃ x, parseDeed l = (x, 0) ∧ deedOk x = true) := by
  unfold parseDeed
  split
  · exact .inl ⟨1, rfl, by omega, by omega⟩
  · simp only []
    split
    · exact .inl ⟨2, rfl, by omega, by omega⟩
    · split
      · exact .inl ⟨3, rfl, by omega, by omega⟩
      · split
        · exact .inl ⟨4, rfl, by omega, by omega⟩
        · split
          · rename_i h
            exact .inr ⟨_, rfl, h⟩
          · exact .inl ⟨5, rfl, by omega, by omega⟩
theorem parse_wf (l : List UInt8) : (parseDeed l).1.wf := by
  rcases parse_cases l with ⟨k, h, _⟩ | ⟨x, h, hx⟩
  · rw [h]; exact zero_wf
  · rw [h]; exact ((deedOk_iff x).1 hx).wf
theorem pS_sound (n : Nat) : ∀ (l : List UInt8) (D : List MDeed), l.length ≤ n → D.length ≤ 300 → (∀ x ∈ D, x.wf) → (pS l D).1.length ≤ 300 ∧ (∀ x ∈ (pS l D).1, x.wf) ∧ 0 ≤ (pS l D).2 ∧ (pS l D).2 ≤ 6 := by
  induction n with
  | zero =>
    intro l D hl hD hw
    obtain rfl : l = [] := List.eq_nil_of_length_eq_zero (by omega)
    rw [pS_nil]; exact ⟨hD, hw, by simp, by simp⟩
  | succ n ih =>
    intro l D hl hD hw
    by_cases h0 : l = []
    · subst h0; rw [pS_nil]; exact ⟨hD, hw, by simp, by simp⟩
    · by_cases hf : D.length = 300
      · rw [pS_full h0 hf]; exact ⟨hD, hw, by simp, by simp⟩
      · cases hc : cutNl l with
        | none => rw [pS_end h0 hf hc]; exact ⟨hD, hw, by simp, by simp⟩
        | some p =>
          obtain ⟨a, b⟩ := p
          have hll : l.length = a.length + 1 + b.length := by rw [(cutNl_some hc).1]; simp; omega
          rcases parse_cases a with ⟨k, h, h1, h2⟩ | ⟨x, h, hx⟩
          · rw [pS_bad hf hc (by rw [h]; simp; omega), h]
            exact ⟨hD, hw, by simp; omega, by simp; omega⟩
          · rw [pS_next hf hc (by rw [h])]
            refine ih b _ (by omega) (by simp; omega) (fun y hy => ?_)
            rcases List.mem_append.1 hy with hy | hy
            · exact hw y hy
            · simp at hy; subst hy; exact parse_wf a
theorem script_sound (l : List UInt8) : (parseScript l).1.length ≤ 300 ∧ (∀ x ∈ (parseScript l).1, x.wf) ∧ 0 ≤ (parseScript l).2 ∧ (parseScript l).2 ≤ 6 := by
  by_cases h : 20000 < l.length
  · rw [script_long h]; simp
  · rw [script_short h]; exact pS_sound _ l [] (Nat.le_refl _) (by simp) (by simp)
end Go.Proofs.YtdejncnjaebjfaaDoor
