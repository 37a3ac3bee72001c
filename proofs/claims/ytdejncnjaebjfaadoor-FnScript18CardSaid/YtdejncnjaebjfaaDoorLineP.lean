/-
  Words and letters of deeds, plain; no program in sight.
-/
import Derived.Test.YtdejncnjaebjfaaDoorDeedOk
namespace Go.Proofs.YtdejncnjaebjfaaDoor
set_option linter.unusedVariables false
set_option linter.unusedSimpArgs false
open Go.RowKit
/-- the word of a kind -/
def kname (k : Int) : List UInt8 :=
  if k = 1 then [98, 101, 103, 105, 110]
  else if k = 2 then [114, 101, 97, 100]
  else if k = 3 then [119, 114, 105, 116, 101]
  else if k = 4 then [99, 111, 109, 109, 105, 116]
  else if k = 5 then [115, 116, 111, 112]
  else if k = 6 then [112, 117, 115, 104]
  else if k = 7 then [100, 101, 108, 105, 118, 101, 114]
  else if k = 8 then [100, 114, 111, 112]
  else if k = 9 then [100, 111, 117, 98, 108, 101]
  else if k = 10 then [109, 111, 118, 101]
  else if k = 11 then [99, 104, 97, 115, 101]
  else if k = 12 then [111, 117, 116]
  else if k = 13 then [115, 112, 108, 105, 116]
  else if k = 14 then [103, 105, 118, 101]
  else if k = 15 then [99, 97, 114, 114, 121]
  else []
/-- the letters of the numbers of a kind: At, To, Lo, Hi, Key, Value -/
def kform (k : Int) : List UInt8 :=
  if k = 1 then [65]
  else if k = 2 then [65, 76, 72]
  else if k = 3 then [65, 75, 86]
  else if k = 4 then [65]
  else if k = 5 then [65]
  else if k = 6 then [65]
  else if k = 7 then [65]
  else if k = 8 then [65]
  else if k = 9 then [65]
  else if k = 10 then [65, 84]
  else if k = 11 then [65]
  else if k = 12 then [65]
  else if k = 13 then [75]
  else if k = 14 then [75, 84]
  else if k = 15 then []
  else []
/-- the number behind a letter -/
def knum (x : MDeed) (c : Int) : Int :=
  if c = 65 then x.at_ else if c = 84 then x.to else if c = 76 then x.lo else if c = 72 then x.hi else if c = 75 then x.key else x.value
def koff (c : Int) : Nat := if c = 65 then 1 else if c = 84 then 2 else if c = 76 then 3 else if c = 72 then 4 else if c = 75 then 5 else 6
def nums (x : MDeed) : List Int := (kform x.kind).map fun c => knum x c.toNat
def numTxt (n : Int) : List UInt8 := 32 :: txt n
def lineOf (x : MDeed) : List UInt8 := kname x.kind ++ (nums x).flatMap numTxt

theorem kinds15 {k : Int} (h : 1 ≤ k ∧ k ≤ 15) : k = 1 ∨ k = 2 ∨ k = 3 ∨ k = 4 ∨ k = 5 ∨ k = 6 ∨ k = 7 ∨ k = 8 ∨ k = 9 ∨ k = 10 ∨ k = 11 ∨ k = 12 ∨ k = 13 ∨ k = 14 ∨ k = 15 := by omega
theorem DeedOk.kind {x : MDeed} (h : DeedOk x) : 1 ≤ x.kind ∧ x.kind ≤ 15 := by
  unfold DeedOk at h; omega
theorem kform_out {k : Int} (h : ¬ (1 ≤ k ∧ k ≤ 15)) : kform k = [] := by
  unfold kform
  repeat rw [if_neg (by omega)]
theorem kname_out {k : Int} (h : ¬ (1 ≤ k ∧ k ≤ 15)) : kname k = [] := by
  unfold kname
  repeat rw [if_neg (by omega)]
theorem kform_len (k : Int) : (kform k).length ≤ 3 := by
  by_cases h : 1 ≤ k ∧ k ≤ 15
  · rcases kinds15 h with rfl | rfl | rfl | rfl | rfl | rfl | rfl | rfl | rfl | rfl | rfl | rfl | rfl | rfl | rfl <;> decide
  · rw [kform_out h]; simp
theorem kname_len (k : Int) : (kname k).length ≤ 7 := by
  by_cases h : 1 ≤ k ∧ k ≤ 15
  · rcases kinds15 h with rfl | rfl | rfl | rfl | rfl | rfl | rfl | rfl | rfl | rfl | rfl | rfl | rfl | rfl | rfl <;> decide
  · rw [kname_out h]; simp
theorem kform_mem {k : Int} {c : UInt8} (h : c ∈ kform k) : (c.toNat : Int) = 65 ∨ (c.toNat : Int) = 84 ∨ (c.toNat : Int) = 76 ∨ (c.toNat : Int) = 72 ∨ (c.toNat : Int) = 75 ∨ (c.toNat : Int) = 86 := by
  have : c = 65 ∨ c = 84 ∨ c = 76 ∨ c = 72 ∨ c = 75 ∨ c = 86 := by
    by_cases hk : 1 ≤ k ∧ k ≤ 15
    · rcases kinds15 hk with rfl | rfl | rfl | rfl | rfl | rfl | rfl | rfl | rfl | rfl | rfl | rfl | rfl | rfl | rfl
      all_goals
        revert h c
        decide
    · rw [kform_out hk] at h; simp at h
  rcases this with rfl | rfl | rfl | rfl | rfl | rfl <;> simp
theorem knum_wf {x : MDeed} (h : x.wf) (c : Int) : I64 (knum x c) := by
  unfold MDeed.wf at h
  obtain ⟨_, a, b, d, e, f, g⟩ := h
  unfold knum
  repeat' split
  all_goals assumption
theorem nums_wf {x : MDeed} (h : x.wf) : ∀ n ∈ nums x, I64 n := by
  intro n hn
  unfold nums at hn
  obtain ⟨c, _, rfl⟩ := List.mem_map.1 hn
  exact knum_wf h _
theorem nums_len (x : MDeed) : (nums x).length ≤ 3 := by unfold nums; rw [List.length_map]; exact kform_len _
theorem flat_len (l : List Int) (h : ∀ n ∈ l, I64 n) : (l.flatMap numTxt).length ≤ l.length * 21 := by
  induction l with
  | nil => simp
  | cons n t ih =>
    have h1 := ih (fun m hm => h m (by simp [hm]))
    have h2 := h n (by simp)
    have h3 := txt_len h2.1 h2.2
    simp only [List.flatMap_cons, List.length_append, List.length_cons, numTxt]
    omega
theorem line_len {x : MDeed} (h : x.wf) : (lineOf x).length ≤ 70 := by
  have h1 := flat_len (nums x) (nums_wf h)
  have h2 := nums_len x
  have h3 := kname_len x.kind
  unfold lineOf
  rw [List.length_append]
  omega
theorem flat_take {l : List Int} {k : Nat} {n : Int} (h : l[k]? = some n) : (l.take (k + 1)).flatMap numTxt = (l.take k).flatMap numTxt ++ 32 :: txt n := by
  rw [List.take_add_one, h]
  simp [numTxt]
end Go.Proofs.YtdejncnjaebjfaaDoor
