/-
  A deed that is right is read from its own line; a line that is read is that deed's. No program in sight.
-/
import Derived.Test.YtdejncnjaebjfaaDoorScP
namespace Go.Proofs.YtdejncnjaebjfaaDoor
set_option linter.unusedVariables false
set_option linter.unusedSimpArgs false
open Go.ChangeShapes Go.WideShapes Go.ChangeAt Go.RowKit

theorem digs_sp (f : Nat) : ∀ n : Nat, n < f → ∀ c ∈ digs n, (48 ≤ c.toNat ∧ c.toNat ≤ 57) := by
  induction f with
  | zero => intro n h; omega
  | succ f ih =>
    intro n h c hc
    by_cases h1 : n < 10
    · rw [digs_lt h1] at hc
      obtain rfl := List.mem_singleton.1 hc
      rw [digit_nat h1]; omega
    · rw [digs_ge h1] at hc
      rcases List.mem_append.1 hc with hc | hc
      · exact ih (n / 10) (by omega) c hc
      · obtain rfl := List.mem_singleton.1 hc
        rw [digit_nat (by omega)]; omega
theorem txt_ch {n : Int} : ∀ c ∈ txt n, c ≠ 32 ∧ c ≠ 10 := by
  intro c hc
  have key : ∀ c ∈ digs n.natAbs, c ≠ 32 ∧ c ≠ 10 := fun c hc => by
    have := digs_sp (n.natAbs + 1) n.natAbs (by omega) c hc
    constructor <;> (rintro rfl; simp at this)
  unfold txt at hc
  split at hc
  · rcases List.mem_cons.1 hc with rfl | hc
    · decide
    · exact key c hc
  · exact key c hc
theorem kname_ch {k : Int} : ∀ c ∈ kname k, c ≠ 32 ∧ c ≠ 10 := by
  by_cases h : 1 ≤ k ∧ k ≤ 15
  · rcases kinds15 h with rfl | rfl | rfl | rfl | rfl | rfl | rfl | rfl | rfl | rfl | rfl | rfl | rfl | rfl | rfl <;> decide
  · rw [kname_out h]; simp
theorem words_flat (ns : List Int) (a : List UInt8) (h : ∀ c ∈ a, c ≠ 32) : wordsOf (a ++ ns.flatMap numTxt) = a :: ns.map txt := by
  induction ns generalizing a with
  | nil => simp; exact wordsOf_none h
  | cons n t ih =>
    show wordsOf (a ++ (numTxt n ++ t.flatMap numTxt)) = _
    rw [show numTxt n ++ t.flatMap numTxt = 32 :: (txt n ++ t.flatMap numTxt) from rfl, wordsOf_cut h, ih (txt n) (fun c hc => (txt_ch c hc).1)]
    rfl
theorem words_line (x : MDeed) : wordsOf (lineOf x) = kname x.kind :: (nums x).map txt := words_flat _ _ fun c hc => (kname_ch c hc).1
theorem kindOf_name {k : Int} (h : 1 ≤ k ∧ k ≤ 15) : kindOf (kname k) = k := by
  rcases kinds15 h with rfl | rfl | rfl | rfl | rfl | rfl | rfl | rfl | rfl | rfl | rfl | rfl | rfl | rfl | rfl <;> decide
theorem numsOf_txt (ns : List Int) (h : ∀ n ∈ ns, -10000000000 < n ∧ n < 10000000000) : numsOf (ns.map txt) = some ns := by
  induction ns with
  | nil => rfl
  | cons n t ih =>
    have hn := h n (by simp)
    show numsOf (txt n :: t.map txt) = _
    unfold numsOf
    rw [numOf_txt_in hn.1 hn.2, ih (fun m hm => h m (by simp [hm]))]
    rfl
theorem nums_bd {x : MDeed} (h : DeedOk x) : ∀ n ∈ nums x, -10000000000 < n ∧ n < 10000000000 := by
  intro n hn
  unfold nums at hn
  obtain ⟨c, _, rfl⟩ := List.mem_map.1 hn
  unfold DeedOk at h
  unfold knum
  repeat' split
  all_goals omega
theorem deedWith_nums {x : MDeed} (h : DeedOk x) : deedWith x.kind (nums x) = x := by
  have hk := h.kind
  obtain ⟨k, a, t, lo, hi, key, v⟩ := x
  simp only at hk
  unfold DeedOk at h
  simp only at h
  rcases kinds15 hk with rfl | rfl | rfl | rfl | rfl | rfl | rfl | rfl | rfl | rfl | rfl | rfl | rfl | rfl | rfl
  all_goals
    simp [deedWith, nums, kform, setAll, setNum, knum, zeroDeed]
    omega
theorem parse_line {x : MDeed} (h : deedOk x = true) : parseDeed (lineOf x) = (x, 0) := by
  have hd := (deedOk_iff x).1 h
  have hk := hd.kind
  have hl := line_len hd.wf
  have hw := words_line x
  have e1 : (wordsOf (lineOf x)).headD [] = kname x.kind := by rw [hw]; rfl
  have e2 : (wordsOf (lineOf x)).tail = (nums x).map txt := by rw [hw]; rfl
  have e3 : (wordsOf (lineOf x)).length = (kform x.kind).length + 1 := by rw [hw]; simp [nums]
  have ek := kindOf_name hk
  rw [parse_deed (ns := nums x) (by omega) (by rw [e1, ek]; omega) (by rw [e1, ek]; exact e3) (by rw [e2]; exact numsOf_txt _ (nums_bd hd)), e1, ek, deedWith_nums hd, if_pos h]

theorem kindTo_name (w : List UInt8) : ∀ k : Nat, kindTo w k ≠ 0 → kname (kindTo w k) = w := by
  intro k
  induction k with
  | zero => intro h; exact absurd rfl h
  | succ k ih =>
    intro h
    unfold kindTo at h ⊢
    split
    · rename_i he; exact he
    · rename_i he; rw [if_neg he] at h; exact ih h
theorem words_join (l : List UInt8) : ∀ h t, wordsOf l = h :: t → l = h ++ t.flatMap (fun w => 32 :: w) := by
  induction l with
  | nil =>
    intro h t e
    simp [wordsOf] at e
    obtain ⟨rfl, rfl⟩ := e
    rfl
  | cons c r ih =>
    intro h t e
    unfold wordsOf at e
    split at e
    · rename_i hc
      injection e with e1 e2
      subst e1 hc
      cases hr : wordsOf r with
      | nil => exact absurd hr (wordsOf_ne r)
      | cons a b =>
        rw [hr] at e2
        subst e2
        have := ih a b hr
        simp [← this]
    · cases hr : wordsOf r with
      | nil => exact absurd hr (wordsOf_ne r)
      | cons a b =>
        rw [hr] at e
        injection e with e1 e2
        subst e1 e2
        have := ih a b hr
        rw [List.cons_append, ← this]
theorem numsOf_some {ws : List (List UInt8)} {ns : List Int} (h : numsOf ws = some ns) : ws = ns.map txt := by
  induction ws generalizing ns with
  | nil => simp [numsOf] at h; subst h; rfl
  | cons w r ih =>
    unfold numsOf at h
    split at h
    · rename_i hw
      cases hr : numsOf r with
      | none => rw [hr] at h; simp at h
      | some ms =>
        rw [hr] at h
        simp at h
        subst h
        rw [ih hr]
        rcases numOf_cases w with ⟨v, e1, e2, _⟩ | e1
        · rw [e1]; simp [e2]
        · rw [e1] at hw; simp at hw
    · simp at h
theorem nums_with {k : Int} {ns : List Int} (hk : 1 ≤ k ∧ k ≤ 15) (hl : ns.length = (kform k).length) : (deedWith k ns).kind = k ∧ nums (deedWith k ns) = ns := by
  rcases kinds15 hk with rfl | rfl | rfl | rfl | rfl | rfl | rfl | rfl | rfl | rfl | rfl | rfl | rfl | rfl | rfl
  all_goals
    simp [kform] at hl
    first
      | (obtain ⟨a, rfl⟩ : ∃ a, ns = [a] := by
          match ns, hl with
          | [a], _ => exact ⟨a, rfl⟩
         exact ⟨rfl, rfl⟩)
      | (obtain ⟨a, b, rfl⟩ : ∃ a b, ns = [a, b] := by
          match ns, hl with
          | [a, b], _ => exact ⟨a, b, rfl⟩
         exact ⟨rfl, rfl⟩)
      | (obtain ⟨a, b, c, rfl⟩ : ∃ a b c, ns = [a, b, c] := by
          match ns, hl with
          | [a, b, c], _ => exact ⟨a, b, c, rfl⟩
         exact ⟨rfl, rfl⟩)
      | (subst hl; exact ⟨rfl, rfl⟩)
theorem line_parse {l : List UInt8} {x : MDeed} (h : parseDeed l = (x, 0)) : deedOk x = true ∧ lineOf x = l := by
  by_cases h1 : 20000 < l.length
  · rw [parse_long h1] at h; simp at h
  · by_cases h2 : kindOf ((wordsOf l).headD []) = 0
    · rw [parse_word h1 h2] at h; simp at h
    · by_cases h3 : (wordsOf l).length = (kform (kindOf ((wordsOf l).headD []))).length + 1
      · cases h4 : numsOf (wordsOf l).tail with
        | none => rw [parse_num h1 h2 h3 h4] at h; simp at h
        | some ns =>
          rw [parse_deed h1 h2 h3 h4] at h
          split at h
          · rename_i hok
            injection h with hx _
            have hbd := kindTo_bd ((wordsOf l).headD []) 15
            have hkn := kindTo_name ((wordsOf l).headD []) 15 h2
            have hk : 1 ≤ kindOf ((wordsOf l).headD []) ∧ kindOf ((wordsOf l).headD []) ≤ 15 := by
              have : kindOf ((wordsOf l).headD []) = kindTo ((wordsOf l).headD []) 15 := rfl
              omega
            have hns := numsOf_some h4
            have hlen : ns.length = (kform (kindOf ((wordsOf l).headD []))).length := by
              have e : (wordsOf l).tail.length = ns.length := by rw [hns, List.length_map]
              rw [List.length_tail] at e
              omega
            obtain ⟨q1, q2⟩ := nums_with hk hlen
            subst hx
            refine ⟨hok, ?_⟩
            unfold lineOf
            rw [q1, q2]
            cases hw : wordsOf l with
            | nil => exact absurd hw (wordsOf_ne l)
            | cons a b =>
              have hj := words_join l a b hw
              rw [hw] at hns hkn
              simp only [List.tail_cons, List.headD_cons] at hns hkn
              show kname (kindTo a 15) ++ _ = _
              rw [hkn]
              conv => rhs; rw [hj]
              rw [hns, List.flatMap_map]
              rfl
          · simp at h
      · rw [parse_many h1 h2 h3] at h; simp at h
end Go.Proofs.YtdejncnjaebjfaaDoor
