/-
  Plain laws of words: a line split at its spaces; the library's own splitting says the same.
-/
import Derived.Test.YtdejncnjaebjfaaDoorLineP
import Derived.Test.YtdejncnjaebjfaaDoorNumPlain
import Derived.Lib.Split
namespace Go.Proofs.YtdejncnjaebjfaaDoor
set_option linter.unusedVariables false
set_option linter.unusedSimpArgs false

/-- the words of a line, split at each space -/
def wordsOf : List UInt8 → List (List UInt8)
  | [] => [[]]
  | c :: t => if c = 32 then [] :: wordsOf t else match wordsOf t with
    | [] => [[c]]
    | h :: r => (c :: h) :: r
theorem wordsOf_ne (l : List UInt8) : wordsOf l ≠ [] := by
  cases l with
  | nil => simp [wordsOf]
  | cons c t =>
    unfold wordsOf
    split
    · simp
    · split <;> simp
theorem wordsOf_none {l : List UInt8} (h : ∀ c ∈ l, c ≠ 32) : wordsOf l = [l] := by
  induction l with
  | nil => rfl
  | cons c t ih =>
    unfold wordsOf
    rw [if_neg (h c (by simp)), ih (fun d hd => h d (by simp [hd]))]
theorem wordsOf_cut {a b : List UInt8} (h : ∀ c ∈ a, c ≠ 32) : wordsOf (a ++ 32 :: b) = a :: wordsOf b := by
  induction a with
  | nil => simp [wordsOf]
  | cons c t ih =>
    rw [List.cons_append]
    conv => lhs; unfold wordsOf
    rw [if_neg (h c (by simp)), ih (fun d hd => h d (by simp [hd]))]

theorem index_cases (s : List UInt8) : (Lib.index s [32] = -1 ∧ ∀ c ∈ s, c ≠ 32) ∨ (∃ a b, s = a ++ 32 :: b ∧ (∀ c ∈ a, c ≠ 32) ∧ Lib.index s [32] = a.length) := by
  induction s with
  | nil => left; exact ⟨rfl, by simp⟩
  | cons c t ih =>
    by_cases hc : c = 32
    · right
      subst hc
      refine ⟨[], t, rfl, by simp, ?_⟩
      unfold Lib.index
      simp [List.isPrefixOf]
    · have hp : List.isPrefixOf [32] (c :: t) = false := by
        simp [List.isPrefixOf]
        exact fun h => hc h.symm
      rcases ih with ⟨h1, h2⟩ | ⟨a, b, h1, h2, h3⟩
      · left
        refine ⟨?_, by intro d hd; rcases List.mem_cons.1 hd with rfl | hd; exact hc; exact h2 d hd⟩
        unfold Lib.index
        rw [hp, h1]; rfl
      · right
        refine ⟨c :: a, b, by rw [h1]; rfl, by intro d hd; rcases List.mem_cons.1 hd with rfl | hd; exact hc; exact h2 d hd, ?_⟩
        unfold Lib.index
        rw [hp, h3]
        have : ((a.length : Int) == -1) = false := by rw [beq_eq_false_iff_ne]; omega
        rw [this]
        simp

theorem split_words (f : Nat) : ∀ s : List UInt8, s.length < f → Lib.splitK [32] 0 (Lib.countFrom [32] f s) s = wordsOf s := by
  induction f with
  | zero => intro s h; omega
  | succ f ih =>
    intro s h
    rcases index_cases s with ⟨h1, h2⟩ | ⟨a, b, h1, h2, h3⟩
    · unfold Lib.countFrom
      rw [h1]
      show Lib.splitK [32] 0 0 s = _
      unfold Lib.splitK
      rw [wordsOf_none h2]
    · have hb : ((a.length : Int) == -1) = false := by rw [beq_eq_false_iff_ne]; omega
      unfold Lib.countFrom
      rw [h3, hb]
      simp only [Bool.false_eq_true, if_false]
      rw [Nat.add_comm]
      unfold Lib.splitK
      rw [h3, hb]
      simp only [Bool.false_eq_true, if_false]
      have hd : s.drop ((a.length : Int).toNat + ([32] : List UInt8).length) = b := by
        rw [h1]
        simp
      have ht : s.take ((a.length : Int).toNat + 0) = a := by
        rw [h1]; simp
      rw [hd, ht, ih b (by rw [h1] at h; simp at h; omega), h1, wordsOf_cut h2]
theorem split_eq (s : List UInt8) : Lib.split s [32] = wordsOf s := split_words _ s (by omega)

/-- the kind of a word, among the first k kinds; 0 where none -/
def kindTo (w : List UInt8) : Nat → Int
  | 0 => 0
  | k + 1 => if kname ((k + 1 : Nat) : Int) = w then ((k + 1 : Nat) : Int) else kindTo w k
def kindOf (w : List UInt8) : Int := kindTo w 15
theorem kindTo_bd (w : List UInt8) : ∀ k : Nat, 0 ≤ kindTo w k ∧ kindTo w k ≤ k := by
  intro k
  induction k with
  | zero => simp [kindTo]
  | succ k ih =>
    unfold kindTo
    split
    · omega
    · omega
/-- the numbers of words; none where one is no number -/
def numsOf : List (List UInt8) → Option (List Int)
  | [] => some []
  | w :: r => if (numOf w).2 = true then (numsOf r).map ((numOf w).1 :: ·) else none
def setNum (x : MDeed) (c n : Int) : MDeed :=
  if c = 65 then { x with at_ := n } else if c = 84 then { x with to := n } else if c = 76 then { x with lo := n } else if c = 72 then { x with hi := n } else if c = 75 then { x with key := n } else { x with value := n }
def setAll : MDeed → List UInt8 → List Int → MDeed
  | x, c :: cs, n :: ns => setAll (setNum x c.toNat n) cs ns
  | x, _, _ => x
def zeroDeed : MDeed := ⟨0, 0, 0, 0, 0, 0, 0⟩
def deedWith (k : Int) (ns : List Int) : MDeed := setAll { zeroDeed with kind := k } (kform k) ns
/-- what ParseDeed returns -/
def parseDeed (l : List UInt8) : MDeed × Int :=
  if 20000 < l.length then (zeroDeed, 1) else
  let ws := wordsOf l
  let k := kindOf (ws.headD [])
  if k = 0 then (zeroDeed, 2) else
  if ws.length ≠ (kform k).length + 1 then (zeroDeed, 3) else
  match numsOf ws.tail with
  | none => (zeroDeed, 4)
  | some ns => if deedOk (deedWith k ns) = true then (deedWith k ns, 0) else (zeroDeed, 5)

theorem parse_long {l : List UInt8} (h : 20000 < l.length) : parseDeed l = (zeroDeed, 1) := by unfold parseDeed; rw [if_pos h]
theorem parse_word {l : List UInt8} (h : ¬ 20000 < l.length) (hk : kindOf ((wordsOf l).headD []) = 0) : parseDeed l = (zeroDeed, 2) := by
  unfold parseDeed; rw [if_neg h]; simp only []; rw [if_pos hk]
theorem parse_many {l : List UInt8} (h : ¬ 20000 < l.length) (hk : kindOf ((wordsOf l).headD []) ≠ 0) (hm : (wordsOf l).length ≠ (kform (kindOf ((wordsOf l).headD []))).length + 1) : parseDeed l = (zeroDeed, 3) := by
  unfold parseDeed; rw [if_neg h]; simp only []; rw [if_neg hk, if_pos hm]
theorem parse_num {l : List UInt8} (h : ¬ 20000 < l.length) (hk : kindOf ((wordsOf l).headD []) ≠ 0) (hm : (wordsOf l).length = (kform (kindOf ((wordsOf l).headD []))).length + 1) (hn : numsOf (wordsOf l).tail = none) : parseDeed l = (zeroDeed, 4) := by
  unfold parseDeed; rw [if_neg h]; simp only []; rw [if_neg hk, if_neg (by omega), hn]
theorem parse_deed {l : List UInt8} {ns : List Int} (h : ¬ 20000 < l.length) (hk : kindOf ((wordsOf l).headD []) ≠ 0) (hm : (wordsOf l).length = (kform (kindOf ((wordsOf l).headD []))).length + 1) (hn : numsOf (wordsOf l).tail = some ns) :
    parseDeed l = if deedOk (deedWith (kindOf ((wordsOf l).headD [])) ns) = true then (deedWith (kindOf ((wordsOf l).headD [])) ns, 0) else (zeroDeed, 5) := by
  unfold parseDeed; rw [if_neg h]; simp only []; rw [if_neg hk, if_neg (by omega), hn]

theorem numsOf_take {ws : List (List UInt8)} {k : Nat} {w : List UInt8} (h : ws[k]? = some w) : numsOf (ws.take (k + 1)) = if (numOf w).2 = true then (numsOf (ws.take k)).map (· ++ [(numOf w).1]) else (numsOf (ws.take (k + 1))) := by
  split
  · rename_i hw
    induction ws generalizing k with
    | nil => simp at h
    | cons y r ih =>
      cases k with
      | zero =>
        simp at h
        subst h
        simp [numsOf, hw]
      | succ k =>
        have h' : r[k]? = some w := by simpa using h
        rw [List.take_succ_cons, List.take_succ_cons]
        unfold numsOf
        rw [ih h']
        split
        · cases numsOf (List.take k r) <;> simp
        · simp
  · rfl
theorem numsOf_bad {ws : List (List UInt8)} {k : Nat} {w : List UInt8} (h : ws[k]? = some w) (hw : (numOf w).2 = false) : numsOf ws = none := by
  induction ws generalizing k with
  | nil => simp at h
  | cons y r ih =>
    cases k with
    | zero =>
      simp at h
      subst h
      unfold numsOf
      rw [hw]; simp
    | succ k =>
      have h' : r[k]? = some w := by simpa using h
      unfold numsOf
      rw [ih h']
      split <;> simp
end Go.Proofs.YtdejncnjaebjfaaDoor
