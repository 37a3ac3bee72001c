/-
  The town: letters. Printed by sym.py.
-/
import Derived.Test.YtchceahcaaibcaaGreatT6
namespace Go.Proofs.YtchceahcaaibcaaGreat
set_option linter.unusedSimpArgs false
set_option linter.unusedVariables false
set_option maxRecDepth 4096
set_option maxHeartbeats 1000000
/-! loop.example/g00097/impl.LetterOk -/
abbrev i_LetterOkT : FuncId → List T → Option (T × Bool) := find [i_letterHasE, i_numRightE, i_hasE, i_RangeOkE, i_readsOkE, i_WritesOkE, i_StoreOkE, i_SharesOkE, i_votesE]
theorem i_LetterOkT_ok : CallOk Tryz.prog i_LetterOkT := find_ok (List.forall_mem_cons.2 ⟨i_letterHas_ok, List.forall_mem_cons.2 ⟨i_numRight_ok, List.forall_mem_cons.2 ⟨i_has_ok, List.forall_mem_cons.2 ⟨i_RangeOk_ok, List.forall_mem_cons.2 ⟨i_readsOk_ok, List.forall_mem_cons.2 ⟨i_WritesOk_ok, List.forall_mem_cons.2 ⟨i_StoreOk_ok, List.forall_mem_cons.2 ⟨i_SharesOk_ok, List.forall_mem_cons.2 ⟨i_votes_ok, List.forall_mem_nil _⟩⟩⟩⟩⟩⟩⟩⟩⟩)
abbrev i_LetterOkK : List Nat := [0, 1, 2, 3, 50, 85]
noncomputable def i_LetterOks0 (N : Nat) (p : List D) : Out := bif ((gd p 13).rows.length : Int) == 0 then bif !(votesAny (gd p 13) 1) then ob (!(votesAny (gd p 13) 2)) else ob false else ob false
noncomputable def i_LetterOks1 (N : Nat) (p : List D) : Out := bif hasB (i_letterHasF [(gd p 0)]) 83 then bif !(votesAny (gd p 13) 1) then ob (!(votesAny (gd p 13) 2)) else ob false else (i_LetterOks0 N p)
noncomputable def i_LetterOks2 (N : Nat) (p : List D) : Out := bif sharesOk (gd p 13) then nd (leI ((i_letterHasF [(gd p 0)]).length : Int) 100) (i_LetterOks1 N p) else ob false
noncomputable def i_LetterOks3 (N : Nat) (p : List D) : Out := bif hasB (i_letterHasF [(gd p 0)]) 108 then (i_LetterOks2 N p) else bif ((gd p 12).rows.length : Int) == 0 then (i_LetterOks2 N p) else ob false
noncomputable def i_LetterOks4 (N : Nat) (p : List D) : Out := bif storeOk (gd p 12) then nd (leI ((i_letterHasF [(gd p 0)]).length : Int) 100) (i_LetterOks3 N p) else ob false
noncomputable def i_LetterOks5 (N : Nat) (p : List D) : Out := bif hasB (i_letterHasF [(gd p 0)]) 87 then (i_LetterOks4 N p) else bif ((gd p 11).rows.length : Int) == 0 then (i_LetterOks4 N p) else ob false
noncomputable def i_LetterOks6 (N : Nat) (p : List D) : Out := bif writesOk (gd p 11) then nd (leI ((i_letterHasF [(gd p 0)]).length : Int) 100) (i_LetterOks5 N p) else ob false
noncomputable def i_LetterOks7 (N : Nat) (p : List D) : Out := bif hasB (i_letterHasF [(gd p 0)]) 101 then (i_LetterOks6 N p) else bif ((gd p 10).rows.length : Int) == 0 then (i_LetterOks6 N p) else ob false
noncomputable def i_LetterOks8 (N : Nat) (p : List D) : Out := bif readsOk (gd p 10) then nd (leI ((i_letterHasF [(gd p 0)]).length : Int) 100) (i_LetterOks7 N p) else ob false
noncomputable def i_LetterOks9 (N : Nat) (p : List D) : Out := bif !(hasB (i_letterHasF [(gd p 0)]) 89) then bif (gd p 9).bool then ob false else (i_LetterOks8 N p) else (i_LetterOks8 N p)
noncomputable def i_LetterOks10 (N : Nat) (p : List D) : Out := bif (gd p 6).int != 0 then ob false else nd (leI ((i_letterHasF [(gd p 0)]).length : Int) 100) (i_LetterOks9 N p)
noncomputable def i_LetterOks11 (N : Nat) (p : List D) : Out := bif !(hasB (i_letterHasF [(gd p 0)]) 107) then bif (gd p 5).int != 0 then ob false else (i_LetterOks10 N p) else nd (leI ((i_letterHasF [(gd p 0)]).length : Int) 100) (i_LetterOks9 N p)
noncomputable def i_LetterOks12 (N : Nat) (p : List D) : Out := bif !(rangeOk (sub p 5 2)) then ob false else nd (leI ((i_letterHasF [(gd p 0)]).length : Int) 100) (i_LetterOks11 N p)
noncomputable def i_LetterOks13 (N : Nat) (p : List D) : Out := bif hasB (i_letterHasF [(gd p 0)]) 107 then (i_LetterOks12 N p) else nd (leI ((i_letterHasF [(gd p 0)]).length : Int) 100) (i_LetterOks11 N p)
noncomputable def i_LetterOks14 (N : Nat) (p : List D) : Out := bif !(numOk (hasB (i_letterHasF [(gd p 0)]) 99) (gd p 8).int 0 7) then ob false else nd (leI ((i_letterHasF [(gd p 0)]).length : Int) 100) (i_LetterOks13 N p)
noncomputable def i_LetterOks15 (N : Nat) (p : List D) : Out := bif !(numOk (hasB (i_letterHasF [(gd p 0)]) 78) (gd p 7).int 1 1000000) then ob false else nd (leI ((i_letterHasF [(gd p 0)]).length : Int) 100) (i_LetterOks14 N p)
noncomputable def i_LetterOks16 (N : Nat) (p : List D) : Out := bif !(numOk (hasB (i_letterHasF [(gd p 0)]) 84) (gd p 4).int 1 60) then ob false else nd (leI ((i_letterHasF [(gd p 0)]).length : Int) 100) (i_LetterOks15 N p)
noncomputable def i_LetterOks17 (N : Nat) (p : List D) : Out := bif !(numOk (hasB (i_letterHasF [(gd p 0)]) 82) (gd p 3).int 1 1000000000) then ob false else nd (leI ((i_letterHasF [(gd p 0)]).length : Int) 100) (i_LetterOks16 N p)
noncomputable def i_LetterOks18 (N : Nat) (p : List D) : Out := bif !(numOk (hasB (i_letterHasF [(gd p 0)]) 67) (gd p 2).int 0 5) then ob false else nd (leI ((i_letterHasF [(gd p 0)]).length : Int) 100) (i_LetterOks17 N p)
noncomputable def i_LetterOks19 (N : Nat) (p : List D) : Out := bif !(numOk (hasB (i_letterHasF [(gd p 0)]) 71) (gd p 1).int 0 3) then ob false else nd (leI ((i_letterHasF [(gd p 0)]).length : Int) 100) (i_LetterOks18 N p)
noncomputable def i_LetterOks20 (N : Nat) (p : List D) : Out := bif (i_letterHasF [(gd p 0)]) == [] then ob false else nd (leI ((i_letterHasF [(gd p 0)]).length : Int) 100) (i_LetterOks19 N p)
theorem i_LetterOk_ev (N : Nat) (p : List D) : evFn Tryz.prog i_LetterOkT N i_LetterOkK Tryz.f71 rb [⟨ag rILetter, p⟩] = some (bo, (i_LetterOks20 N p)) := by kernel_rfl
def formI (k : Int) : List UInt8 := i_letterHasF [.i k]
theorem letters_same (k : Int) : ((lettersS k).str == []) = (formI k == []) ∧ hasB (lettersS k).str 103 = hasB (formI k) 71 ∧ hasB (lettersS k).str 99 = hasB (formI k) 67 ∧ hasB (lettersS k).str 113 = hasB (formI k) 82 ∧ hasB (lettersS k).str 116 = hasB (formI k) 84 ∧ hasB (lettersS k).str 110 = hasB (formI k) 78 ∧ hasB (lettersS k).str 107 = hasB (formI k) 99 ∧ hasB (lettersS k).str 121 = hasB (formI k) 89 ∧ hasB (lettersS k).str 114 = hasB (formI k) 107 ∧ hasB (lettersS k).str 82 = hasB (formI k) 101 ∧ hasB (lettersS k).str 87 = hasB (formI k) 87 ∧ hasB (lettersS k).str 67 = hasB (formI k) 108 ∧ hasB (lettersS k).str 83 = hasB (formI k) 83 := by
  by_cases h : 1 ≤ k ∧ k ≤ 17
  · have h17 : k = 1 ∨ k = 2 ∨ k = 3 ∨ k = 4 ∨ k = 5 ∨ k = 6 ∨ k = 7 ∨ k = 8 ∨ k = 9 ∨ k = 10 ∨ k = 11 ∨ k = 12 ∨ k = 13 ∨ k = 14 ∨ k = 15 ∨ k = 16 ∨ k = 17 := by omega
    rcases h17 with rfl | rfl | rfl | rfl | rfl | rfl | rfl | rfl | rfl | rfl | rfl | rfl | rfl | rfl | rfl | rfl | rfl <;> decide +kernel
  · have h1 : lettersS k = .s [] := by
      unfold lettersS
      rw [show inB k 1 17 = false from by
        simp only [inB, Bool.and_eq_false_iff, decide_eq_false_iff_not]; omega]
      rfl
    have h2 : formI k = [] := by
      have hn : ∀ j : Int, 1 ≤ j → j ≤ 17 → (k == j) = false := fun j a b => beq_eq_false_iff_ne.2 (by omega)
      show i_letterHasF [.i k] = []
      unfold i_letterHasF
      simp only [gd_cons_zero, int_i, hn 1 (by omega) (by omega), hn 2 (by omega) (by omega), hn 3 (by omega) (by omega), hn 4 (by omega) (by omega), hn 5 (by omega) (by omega), hn 6 (by omega) (by omega), hn 7 (by omega) (by omega), hn 8 (by omega) (by omega), hn 9 (by omega) (by omega), hn 10 (by omega) (by omega), hn 11 (by omega) (by omega), hn 12 (by omega) (by omega), hn 13 (by omega) (by omega), hn 14 (by omega) (by omega), hn 15 (by omega) (by omega), hn 16 (by omega) (by omega), hn 17 (by omega) (by omega), cond_false]
    rw [h1, h2]
    exact ⟨rfl, rfl, rfl, rfl, rfl, rfl, rfl, rfl, rfl, rfl, rfl, rfl, rfl⟩
theorem form_len (k : Int) : leI ((formI k).length : Int) 100 = true := by
  by_cases h : 1 ≤ k ∧ k ≤ 17
  · have h17 : k = 1 ∨ k = 2 ∨ k = 3 ∨ k = 4 ∨ k = 5 ∨ k = 6 ∨ k = 7 ∨ k = 8 ∨ k = 9 ∨ k = 10 ∨ k = 11 ∨ k = 12 ∨ k = 13 ∨ k = 14 ∨ k = 15 ∨ k = 16 ∨ k = 17 := by omega
    rcases h17 with rfl | rfl | rfl | rfl | rfl | rfl | rfl | rfl | rfl | rfl | rfl | rfl | rfl | rfl | rfl | rfl | rfl <;> rfl
  · have h2 : (formI k == []) = true := by
      rw [← (letters_same k).1]
      unfold lettersS
      rw [show inB k 1 17 = false from by
        simp only [inB, Bool.and_eq_false_iff, decide_eq_false_iff_not]; omega]
      rfl
    rw [eq_of_beq h2]; rfl
theorem letters_len (k : Int) : leI ((lettersS k).str.length : Int) 100 = true := by
  by_cases h : 1 ≤ k ∧ k ≤ 17
  · have h17 : k = 1 ∨ k = 2 ∨ k = 3 ∨ k = 4 ∨ k = 5 ∨ k = 6 ∨ k = 7 ∨ k = 8 ∨ k = 9 ∨ k = 10 ∨ k = 11 ∨ k = 12 ∨ k = 13 ∨ k = 14 ∨ k = 15 ∨ k = 16 ∨ k = 17 := by omega
    rcases h17 with rfl | rfl | rfl | rfl | rfl | rfl | rfl | rfl | rfl | rfl | rfl | rfl | rfl | rfl | rfl | rfl | rfl <;> rfl
  · unfold lettersS
    rw [show inB k 1 17 = false from by
      simp only [inB, Bool.and_eq_false_iff, decide_eq_false_iff_not]; omega]
    rfl
def letterF (p : List D) (f : List UInt8) : Bool := !(f == []) && (numOk (hasB f 71) (gd p 1).int 0 3 && (numOk (hasB f 67) (gd p 2).int 0 5 && (numOk (hasB f 82) (gd p 3).int 1 1000000000 && (numOk (hasB f 84) (gd p 4).int 1 60 && (numOk (hasB f 78) (gd p 7).int 1 1000000 && (numOk (hasB f 99) (gd p 8).int 0 7 && ((bif hasB f 107 then rangeOk [gd p 5, gd p 6] else ((gd p 5).int == 0) && ((gd p 6).int == 0)) && ((hasB f 89 || !(gd p 9).bool) && (readsOk (gd p 10) && ((hasB f 101 || (((gd p 10).rows.length : Int) == 0)) && (writesOk (gd p 11) && ((hasB f 87 || (((gd p 11).rows.length : Int) == 0)) && (storeOk (gd p 12) && ((hasB f 108 || (((gd p 12).rows.length : Int) == 0)) && (sharesOk (gd p 13) && ((hasB f 83 || (((gd p 13).rows.length : Int) == 0)) && ((!votesAny (gd p 13) 1 && !votesAny (gd p 13) 2))))))))))))))))))
def letterOk (p : List D) : Bool := letterF p (formI (gd p 0).int)
def i_LetterOkg0 (p : List D) : Bool := (((gd p 13).rows.length : Int) == 0) && (!votesAny (gd p 13) 1 && !votesAny (gd p 13) 2)
theorem i_LetterOkx0 (p : List D) : i_LetterOks0 0 p = ob (i_LetterOkg0 p) := by
  unfold i_LetterOks0 i_LetterOkg0
  try simp only [show i_letterHasF [gd p 0] = formI (gd p 0).int from rfl, form_len (gd p 0).int, nd_true, bne_not, show rangeOk (sub p 5 2) = rangeOk [gd p 5, gd p 6] from rfl]
  generalize (((gd p 13).rows.length : Int) == 0) = b0
  generalize votesAny (gd p 13) 1 = b1
  generalize votesAny (gd p 13) 2 = b2
  cases b0 <;> cases b1 <;> cases b2 <;> rfl
def i_LetterOkg1 (p : List D) : Bool := (hasB (formI (gd p 0).int) 83 || (((gd p 13).rows.length : Int) == 0)) && (!votesAny (gd p 13) 1 && !votesAny (gd p 13) 2)
theorem i_LetterOkx1 (p : List D) : i_LetterOks1 0 p = ob (i_LetterOkg1 p) := by
  unfold i_LetterOks1 i_LetterOkg1
  rw [i_LetterOkx0]
  unfold i_LetterOkg0
  try simp only [show i_letterHasF [gd p 0] = formI (gd p 0).int from rfl, form_len (gd p 0).int, nd_true, bne_not, show rangeOk (sub p 5 2) = rangeOk [gd p 5, gd p 6] from rfl]
  generalize hasB (formI (gd p 0).int) 83 = b0
  generalize (((gd p 13).rows.length : Int) == 0) = b1
  generalize votesAny (gd p 13) 1 = b2
  generalize votesAny (gd p 13) 2 = b3
  cases b0 <;> cases b1 <;> cases b2 <;> cases b3 <;> rfl
def i_LetterOkg2 (p : List D) : Bool := sharesOk (gd p 13) && i_LetterOkg1 p
theorem i_LetterOkx2 (p : List D) : i_LetterOks2 0 p = ob (i_LetterOkg2 p) := by
  unfold i_LetterOks2 i_LetterOkg2
  try rw [i_LetterOkx1 p]
  generalize i_LetterOkg1 p = y
  try simp only [show i_letterHasF [gd p 0] = formI (gd p 0).int from rfl, form_len (gd p 0).int, nd_true, bne_not, show rangeOk (sub p 5 2) = rangeOk [gd p 5, gd p 6] from rfl]
  generalize sharesOk (gd p 13) = b0
  cases b0 <;> rfl
def i_LetterOkg3 (p : List D) : Bool := (hasB (formI (gd p 0).int) 108 || (((gd p 12).rows.length : Int) == 0)) && i_LetterOkg2 p
theorem i_LetterOkx3 (p : List D) : i_LetterOks3 0 p = ob (i_LetterOkg3 p) := by
  unfold i_LetterOks3 i_LetterOkg3
  try rw [i_LetterOkx2 p]
  generalize i_LetterOkg2 p = y
  try simp only [show i_letterHasF [gd p 0] = formI (gd p 0).int from rfl, form_len (gd p 0).int, nd_true, bne_not, show rangeOk (sub p 5 2) = rangeOk [gd p 5, gd p 6] from rfl]
  generalize hasB (formI (gd p 0).int) 108 = b0
  generalize (((gd p 12).rows.length : Int) == 0) = b1
  cases b0 <;> cases b1 <;> rfl
def i_LetterOkg4 (p : List D) : Bool := storeOk (gd p 12) && i_LetterOkg3 p
theorem i_LetterOkx4 (p : List D) : i_LetterOks4 0 p = ob (i_LetterOkg4 p) := by
  unfold i_LetterOks4 i_LetterOkg4
  try rw [i_LetterOkx3 p]
  generalize i_LetterOkg3 p = y
  try simp only [show i_letterHasF [gd p 0] = formI (gd p 0).int from rfl, form_len (gd p 0).int, nd_true, bne_not, show rangeOk (sub p 5 2) = rangeOk [gd p 5, gd p 6] from rfl]
  generalize storeOk (gd p 12) = b0
  cases b0 <;> rfl
def i_LetterOkg5 (p : List D) : Bool := (hasB (formI (gd p 0).int) 87 || (((gd p 11).rows.length : Int) == 0)) && i_LetterOkg4 p
theorem i_LetterOkx5 (p : List D) : i_LetterOks5 0 p = ob (i_LetterOkg5 p) := by
  unfold i_LetterOks5 i_LetterOkg5
  try rw [i_LetterOkx4 p]
  generalize i_LetterOkg4 p = y
  try simp only [show i_letterHasF [gd p 0] = formI (gd p 0).int from rfl, form_len (gd p 0).int, nd_true, bne_not, show rangeOk (sub p 5 2) = rangeOk [gd p 5, gd p 6] from rfl]
  generalize hasB (formI (gd p 0).int) 87 = b0
  generalize (((gd p 11).rows.length : Int) == 0) = b1
  cases b0 <;> cases b1 <;> rfl
def i_LetterOkg6 (p : List D) : Bool := writesOk (gd p 11) && i_LetterOkg5 p
theorem i_LetterOkx6 (p : List D) : i_LetterOks6 0 p = ob (i_LetterOkg6 p) := by
  unfold i_LetterOks6 i_LetterOkg6
  try rw [i_LetterOkx5 p]
  generalize i_LetterOkg5 p = y
  try simp only [show i_letterHasF [gd p 0] = formI (gd p 0).int from rfl, form_len (gd p 0).int, nd_true, bne_not, show rangeOk (sub p 5 2) = rangeOk [gd p 5, gd p 6] from rfl]
  generalize writesOk (gd p 11) = b0
  cases b0 <;> rfl
def i_LetterOkg7 (p : List D) : Bool := (hasB (formI (gd p 0).int) 101 || (((gd p 10).rows.length : Int) == 0)) && i_LetterOkg6 p
theorem i_LetterOkx7 (p : List D) : i_LetterOks7 0 p = ob (i_LetterOkg7 p) := by
  unfold i_LetterOks7 i_LetterOkg7
  try rw [i_LetterOkx6 p]
  generalize i_LetterOkg6 p = y
  try simp only [show i_letterHasF [gd p 0] = formI (gd p 0).int from rfl, form_len (gd p 0).int, nd_true, bne_not, show rangeOk (sub p 5 2) = rangeOk [gd p 5, gd p 6] from rfl]
  generalize hasB (formI (gd p 0).int) 101 = b0
  generalize (((gd p 10).rows.length : Int) == 0) = b1
  cases b0 <;> cases b1 <;> rfl
def i_LetterOkg8 (p : List D) : Bool := readsOk (gd p 10) && i_LetterOkg7 p
theorem i_LetterOkx8 (p : List D) : i_LetterOks8 0 p = ob (i_LetterOkg8 p) := by
  unfold i_LetterOks8 i_LetterOkg8
  try rw [i_LetterOkx7 p]
  generalize i_LetterOkg7 p = y
  try simp only [show i_letterHasF [gd p 0] = formI (gd p 0).int from rfl, form_len (gd p 0).int, nd_true, bne_not, show rangeOk (sub p 5 2) = rangeOk [gd p 5, gd p 6] from rfl]
  generalize readsOk (gd p 10) = b0
  cases b0 <;> rfl
def i_LetterOkg9 (p : List D) : Bool := (hasB (formI (gd p 0).int) 89 || !(gd p 9).bool) && i_LetterOkg8 p
theorem i_LetterOkx9 (p : List D) : i_LetterOks9 0 p = ob (i_LetterOkg9 p) := by
  unfold i_LetterOks9 i_LetterOkg9
  try rw [i_LetterOkx8 p]
  generalize i_LetterOkg8 p = y
  try simp only [show i_letterHasF [gd p 0] = formI (gd p 0).int from rfl, form_len (gd p 0).int, nd_true, bne_not, show rangeOk (sub p 5 2) = rangeOk [gd p 5, gd p 6] from rfl]
  generalize hasB (formI (gd p 0).int) 89 = b0
  generalize (gd p 9).bool = b1
  cases b0 <;> cases b1 <;> rfl
def i_LetterOkg10 (p : List D) : Bool := ((gd p 6).int == 0) && i_LetterOkg9 p
theorem i_LetterOkx10 (p : List D) : i_LetterOks10 0 p = ob (i_LetterOkg10 p) := by
  unfold i_LetterOks10 i_LetterOkg10
  try rw [i_LetterOkx9 p]
  generalize i_LetterOkg9 p = y
  try simp only [show i_letterHasF [gd p 0] = formI (gd p 0).int from rfl, form_len (gd p 0).int, nd_true, bne_not, show rangeOk (sub p 5 2) = rangeOk [gd p 5, gd p 6] from rfl]
  generalize ((gd p 6).int == 0) = b0
  cases b0 <;> rfl
def i_LetterOkg11 (p : List D) : Bool := (bif hasB (formI (gd p 0).int) 107 then true else ((gd p 5).int == 0) && ((gd p 6).int == 0)) && i_LetterOkg9 p
theorem i_LetterOkx11 (p : List D) : i_LetterOks11 0 p = ob (i_LetterOkg11 p) := by
  unfold i_LetterOks11 i_LetterOkg11
  rw [i_LetterOkx10]
  unfold i_LetterOkg10
  try rw [i_LetterOkx9 p]
  generalize i_LetterOkg9 p = y
  try simp only [show i_letterHasF [gd p 0] = formI (gd p 0).int from rfl, form_len (gd p 0).int, nd_true, bne_not, show rangeOk (sub p 5 2) = rangeOk [gd p 5, gd p 6] from rfl]
  generalize hasB (formI (gd p 0).int) 107 = b0
  generalize ((gd p 5).int == 0) = b1
  generalize ((gd p 6).int == 0) = b2
  cases b0 <;> cases b1 <;> cases b2 <;> rfl
def i_LetterOkg12 (p : List D) : Bool := rangeOk [gd p 5, gd p 6] && ((bif hasB (formI (gd p 0).int) 107 then true else ((gd p 5).int == 0) && ((gd p 6).int == 0)) && i_LetterOkg9 p)
theorem i_LetterOkx12 (p : List D) : i_LetterOks12 0 p = ob (i_LetterOkg12 p) := by
  unfold i_LetterOks12 i_LetterOkg12
  rw [i_LetterOkx11]
  unfold i_LetterOkg11
  try rw [i_LetterOkx9 p]
  generalize i_LetterOkg9 p = y
  try simp only [show i_letterHasF [gd p 0] = formI (gd p 0).int from rfl, form_len (gd p 0).int, nd_true, bne_not, show rangeOk (sub p 5 2) = rangeOk [gd p 5, gd p 6] from rfl]
  generalize rangeOk [gd p 5, gd p 6] = b0
  generalize hasB (formI (gd p 0).int) 107 = b1
  generalize ((gd p 5).int == 0) = b2
  generalize ((gd p 6).int == 0) = b3
  cases b0 <;> cases b1 <;> cases b2 <;> cases b3 <;> rfl
def i_LetterOkg13 (p : List D) : Bool := (bif hasB (formI (gd p 0).int) 107 then rangeOk [gd p 5, gd p 6] else ((gd p 5).int == 0) && ((gd p 6).int == 0)) && i_LetterOkg9 p
theorem i_LetterOkx13 (p : List D) : i_LetterOks13 0 p = ob (i_LetterOkg13 p) := by
  unfold i_LetterOks13 i_LetterOkg13
  rw [i_LetterOkx12, i_LetterOkx11]
  unfold i_LetterOkg12 i_LetterOkg11
  try rw [i_LetterOkx9 p]
  generalize i_LetterOkg9 p = y
  try simp only [show i_letterHasF [gd p 0] = formI (gd p 0).int from rfl, form_len (gd p 0).int, nd_true, bne_not, show rangeOk (sub p 5 2) = rangeOk [gd p 5, gd p 6] from rfl]
  generalize rangeOk [gd p 5, gd p 6] = b0
  generalize hasB (formI (gd p 0).int) 107 = b1
  generalize ((gd p 5).int == 0) = b2
  generalize ((gd p 6).int == 0) = b3
  cases b0 <;> cases b1 <;> cases b2 <;> cases b3 <;> rfl
def i_LetterOkg14 (p : List D) : Bool := numOk (hasB (formI (gd p 0).int) 99) (gd p 8).int 0 7 && i_LetterOkg13 p
theorem i_LetterOkx14 (p : List D) : i_LetterOks14 0 p = ob (i_LetterOkg14 p) := by
  unfold i_LetterOks14 i_LetterOkg14
  try rw [i_LetterOkx13 p]
  generalize i_LetterOkg13 p = y
  try simp only [show i_letterHasF [gd p 0] = formI (gd p 0).int from rfl, form_len (gd p 0).int, nd_true, bne_not, show rangeOk (sub p 5 2) = rangeOk [gd p 5, gd p 6] from rfl]
  generalize numOk (hasB (formI (gd p 0).int) 99) (gd p 8).int 0 7 = b0
  cases b0 <;> rfl
def i_LetterOkg15 (p : List D) : Bool := numOk (hasB (formI (gd p 0).int) 78) (gd p 7).int 1 1000000 && i_LetterOkg14 p
theorem i_LetterOkx15 (p : List D) : i_LetterOks15 0 p = ob (i_LetterOkg15 p) := by
  unfold i_LetterOks15 i_LetterOkg15
  try rw [i_LetterOkx14 p]
  generalize i_LetterOkg14 p = y
  try simp only [show i_letterHasF [gd p 0] = formI (gd p 0).int from rfl, form_len (gd p 0).int, nd_true, bne_not, show rangeOk (sub p 5 2) = rangeOk [gd p 5, gd p 6] from rfl]
  generalize numOk (hasB (formI (gd p 0).int) 78) (gd p 7).int 1 1000000 = b0
  cases b0 <;> rfl
def i_LetterOkg16 (p : List D) : Bool := numOk (hasB (formI (gd p 0).int) 84) (gd p 4).int 1 60 && i_LetterOkg15 p
theorem i_LetterOkx16 (p : List D) : i_LetterOks16 0 p = ob (i_LetterOkg16 p) := by
  unfold i_LetterOks16 i_LetterOkg16
  try rw [i_LetterOkx15 p]
  generalize i_LetterOkg15 p = y
  try simp only [show i_letterHasF [gd p 0] = formI (gd p 0).int from rfl, form_len (gd p 0).int, nd_true, bne_not, show rangeOk (sub p 5 2) = rangeOk [gd p 5, gd p 6] from rfl]
  generalize numOk (hasB (formI (gd p 0).int) 84) (gd p 4).int 1 60 = b0
  cases b0 <;> rfl
def i_LetterOkg17 (p : List D) : Bool := numOk (hasB (formI (gd p 0).int) 82) (gd p 3).int 1 1000000000 && i_LetterOkg16 p
theorem i_LetterOkx17 (p : List D) : i_LetterOks17 0 p = ob (i_LetterOkg17 p) := by
  unfold i_LetterOks17 i_LetterOkg17
  try rw [i_LetterOkx16 p]
  generalize i_LetterOkg16 p = y
  try simp only [show i_letterHasF [gd p 0] = formI (gd p 0).int from rfl, form_len (gd p 0).int, nd_true, bne_not, show rangeOk (sub p 5 2) = rangeOk [gd p 5, gd p 6] from rfl]
  generalize numOk (hasB (formI (gd p 0).int) 82) (gd p 3).int 1 1000000000 = b0
  cases b0 <;> rfl
def i_LetterOkg18 (p : List D) : Bool := numOk (hasB (formI (gd p 0).int) 67) (gd p 2).int 0 5 && i_LetterOkg17 p
theorem i_LetterOkx18 (p : List D) : i_LetterOks18 0 p = ob (i_LetterOkg18 p) := by
  unfold i_LetterOks18 i_LetterOkg18
  try rw [i_LetterOkx17 p]
  generalize i_LetterOkg17 p = y
  try simp only [show i_letterHasF [gd p 0] = formI (gd p 0).int from rfl, form_len (gd p 0).int, nd_true, bne_not, show rangeOk (sub p 5 2) = rangeOk [gd p 5, gd p 6] from rfl]
  generalize numOk (hasB (formI (gd p 0).int) 67) (gd p 2).int 0 5 = b0
  cases b0 <;> rfl
def i_LetterOkg19 (p : List D) : Bool := numOk (hasB (formI (gd p 0).int) 71) (gd p 1).int 0 3 && i_LetterOkg18 p
theorem i_LetterOkx19 (p : List D) : i_LetterOks19 0 p = ob (i_LetterOkg19 p) := by
  unfold i_LetterOks19 i_LetterOkg19
  try rw [i_LetterOkx18 p]
  generalize i_LetterOkg18 p = y
  try simp only [show i_letterHasF [gd p 0] = formI (gd p 0).int from rfl, form_len (gd p 0).int, nd_true, bne_not, show rangeOk (sub p 5 2) = rangeOk [gd p 5, gd p 6] from rfl]
  generalize numOk (hasB (formI (gd p 0).int) 71) (gd p 1).int 0 3 = b0
  cases b0 <;> rfl
def i_LetterOkg20 (p : List D) : Bool := !((formI (gd p 0).int) == []) && i_LetterOkg19 p
theorem i_LetterOkx20 (p : List D) : i_LetterOks20 0 p = ob (i_LetterOkg20 p) := by
  unfold i_LetterOks20 i_LetterOkg20
  try rw [i_LetterOkx19 p]
  generalize i_LetterOkg19 p = y
  try simp only [show i_letterHasF [gd p 0] = formI (gd p 0).int from rfl, form_len (gd p 0).int, nd_true, bne_not, show rangeOk (sub p 5 2) = rangeOk [gd p 5, gd p 6] from rfl]
  generalize ((formI (gd p 0).int) == []) = b0
  cases b0 <;> rfl
def i_LetterOkE : Ent := (71, e1 (ag rILetter) fun p => (⟨rb, [.b (letterOk p)]⟩, true))
theorem i_LetterOk_ok : EntOk Tryz.prog i_LetterOkE := e1_ok fun p h => evFn_sound (N := 0) (ks := i_LetterOkK) (key := bo) i_LetterOkT_ok (enters Tryz.func71 (by kernel_rfl) (by kernel_rfl)) Tryz.func71 fun hw => by
  rw [i_LetterOk_ev]
  exact congrArg (fun x => some (bo, x)) ((i_LetterOkx20 p).trans rfl)

/-! loop.example/g00097/spec.LetterOk -/
abbrev s_LetterOkT : FuncId → List T → Option (T × Bool) := find [s_l16HasE, s_l4InE, s_l4NumE, s_l16RangeOkE, s_WritesOkE, s_StoreOkE, s_SharesOkE, s_RangeOkE, s_l14VotesE]
theorem s_LetterOkT_ok : CallOk Tryz.prog s_LetterOkT := find_ok (List.forall_mem_cons.2 ⟨s_l16Has_ok, List.forall_mem_cons.2 ⟨s_l4In_ok, List.forall_mem_cons.2 ⟨s_l4Num_ok, List.forall_mem_cons.2 ⟨s_l16RangeOk_ok, List.forall_mem_cons.2 ⟨s_WritesOk_ok, List.forall_mem_cons.2 ⟨s_StoreOk_ok, List.forall_mem_cons.2 ⟨s_SharesOk_ok, List.forall_mem_cons.2 ⟨s_RangeOk_ok, List.forall_mem_cons.2 ⟨s_l14Votes_ok, List.forall_mem_nil _⟩⟩⟩⟩⟩⟩⟩⟩⟩)
abbrev s_LetterOkK : List Nat := [0, 1, 2, 3, 4, 41, 64, 89, 155, 160, 169, 1000041, 1000064, 1000089, 1000155, 1000160, 1000169, 3000004, 3000006, 3000008]
noncomputable def s_LetterOkL0 (N : Nat) (p : List D) : List D → Out := loopOf Tryz.prog s_LetterOkT N s_LetterOkK Tryz.f52 rb [⟨ag rILetter, p⟩] 0
/- x0=t0(.one (.agg [.d si, .d si, .d si, .d si, .d si, .d si, .d si, .d si, .d si, .d (.bool), .d (.sl 122), .d (.sl 132), .d (.sl 176), .d (.sl 118)])) x14=t1(.one (.c (.ptr 1 0))) x15=t2(rb) x16=t3(sd (.str)) x17=t4(ri) x18=box1[.d si, .d si, .d si, .d si, .d si, .d si, .d si, .d si, .d si, .d (.bool), .d (.sl 122), .d (.sl 132), .d (.sl 176), .d (.sl 118)] -/
theorem s_LetterOkR0 (N : Nat) (p : List D) (x0 x1 x2 x3 x4 x5 x6 x7 x8 x9 x10 x11 x12 x13 x14 x15 x16 x17 x18 x19 x20 x21 x22 x23 x24 x25 x26 x27 x28 x29 x30 x31 : D) : (s_LetterOkL0 N p) [x0, x1, x2, x3, x4, x5, x6, x7, x8, x9, x10, x11, x12, x13, x14, x15, x16, x17, x18, x19, x20, x21, x22, x23, x24, x25, x26, x27, x28, x29, x30, x31] =
  bif ltI x17.int (x28.rows.length : Int) then nd (inRange x17.int x28.rows.length) (bif !(rangeOk (sub (x28.rows.getD x17.int.toNat []) 0 2)) then ob false
  else nx [x0, x1, x2, x3, x4, x5, x6, x7, x8, x9, x10, x11, x12, x13, x14, x15, x16, .i (w64 (x17.int + 1)), x18, x19, x20, x21, x22, x23, x24, x25, x26, x27, x28, x29, x30, x31])
  else ex 0 [x0, x1, x2, x3, x4, x5, x6, x7, x8, x9, x10, x11, x12, x13, x14, x15, x16, x17, x18, x19, x20, x21, x22, x23, x24, x25, x26, x27, x28, x29, x30, x31] := by kernel_rfl
noncomputable def s_LetterOks0 (N : Nat) (p : List D) : Out := nd (leI ((lettersS (gd p 0).int).str.length : Int) 100) (nx [gd p 0, gd p 1, gd p 2, gd p 3, gd p 4, gd p 5, gd p 6, gd p 7, gd p 8, gd p 9, gd p 10, gd p 11, gd p 12, gd p 13, .i 0, .b false, lettersS (gd p 0).int, .b (!(hasB (lettersS (gd p 0).int).str 121)), gd p 0, gd p 1, gd p 2, gd p 3, gd p 4, gd p 5, gd p 6, gd p 7, gd p 8, gd p 9, gd p 10, gd p 11, gd p 12, gd p 13])
noncomputable def s_LetterOks1 (N : Nat) (p : List D) : Out := bif (gd p 9).bool then (s_LetterOks0 N p) else nx [gd p 0, gd p 1, gd p 2, gd p 3, gd p 4, gd p 5, gd p 6, gd p 7, gd p 8, gd p 9, gd p 10, gd p 11, gd p 12, gd p 13, .i 0, .b false, lettersS (gd p 0).int, .b false, gd p 0, gd p 1, gd p 2, gd p 3, gd p 4, gd p 5, gd p 6, gd p 7, gd p 8, gd p 9, gd p 10, gd p 11, gd p 12, gd p 13]
noncomputable def s_LetterOks2 (N : Nat) (p : List D) : Out := bif !(numOk (hasB (lettersS (gd p 0).int).str 107) (gd p 8).int 0 7) then nx [gd p 0, gd p 1, gd p 2, gd p 3, gd p 4, gd p 5, gd p 6, gd p 7, gd p 8, gd p 9, gd p 10, gd p 11, gd p 12, gd p 13, .i 0, .b false, lettersS (gd p 0).int, .b true, gd p 0, gd p 1, gd p 2, gd p 3, gd p 4, gd p 5, gd p 6, gd p 7, gd p 8, gd p 9, gd p 10, gd p 11, gd p 12, gd p 13] else (s_LetterOks1 N p)
noncomputable def s_LetterOks3 (N : Nat) (p : List D) : Out := bif !(numOk (hasB (lettersS (gd p 0).int).str 110) (gd p 7).int 1 1000000) then nx [gd p 0, gd p 1, gd p 2, gd p 3, gd p 4, gd p 5, gd p 6, gd p 7, gd p 8, gd p 9, gd p 10, gd p 11, gd p 12, gd p 13, .i 0, .b false, lettersS (gd p 0).int, .b true, gd p 0, gd p 1, gd p 2, gd p 3, gd p 4, gd p 5, gd p 6, gd p 7, gd p 8, gd p 9, gd p 10, gd p 11, gd p 12, gd p 13] else nd (leI ((lettersS (gd p 0).int).str.length : Int) 100) (s_LetterOks2 N p)
noncomputable def s_LetterOks4 (N : Nat) (p : List D) (r4 : Out) : Out := bif (gd r4.pay 23).int != 0 then nx [gd r4.pay 0, gd r4.pay 1, gd r4.pay 2, gd r4.pay 3, gd r4.pay 4, gd r4.pay 5, gd r4.pay 6, gd r4.pay 7, gd r4.pay 8, gd r4.pay 9, gd r4.pay 10, gd r4.pay 11, gd r4.pay 12, gd r4.pay 13, gd r4.pay 14, gd r4.pay 15, gd r4.pay 16, .b true, gd r4.pay 18, gd r4.pay 19, gd r4.pay 20, gd r4.pay 21, gd r4.pay 22, gd r4.pay 23, gd r4.pay 24, gd r4.pay 25, gd r4.pay 26, gd r4.pay 27, gd r4.pay 28, gd r4.pay 29, gd r4.pay 30, gd r4.pay 31] else nx [gd r4.pay 0, gd r4.pay 1, gd r4.pay 2, gd r4.pay 3, gd r4.pay 4, gd r4.pay 5, gd r4.pay 6, gd r4.pay 7, gd r4.pay 8, gd r4.pay 9, gd r4.pay 10, gd r4.pay 11, gd r4.pay 12, gd r4.pay 13, gd r4.pay 14, gd r4.pay 15, gd r4.pay 16, .b ((gd r4.pay 24).int != 0), gd r4.pay 18, gd r4.pay 19, gd r4.pay 20, gd r4.pay 21, gd r4.pay 22, gd r4.pay 23, gd r4.pay 24, gd r4.pay 25, gd r4.pay 26, gd r4.pay 27, gd r4.pay 28, gd r4.pay 29, gd r4.pay 30, gd r4.pay 31]
noncomputable def s_LetterOks5 (N : Nat) (p : List D) (r4 : Out) : Out := bif !(hasB (gd r4.pay 16).str 114) then (s_LetterOks4 N p r4) else nx [gd r4.pay 0, gd r4.pay 1, gd r4.pay 2, gd r4.pay 3, gd r4.pay 4, gd r4.pay 5, gd r4.pay 6, gd r4.pay 7, gd r4.pay 8, gd r4.pay 9, gd r4.pay 10, gd r4.pay 11, gd r4.pay 12, gd r4.pay 13, gd r4.pay 14, gd r4.pay 15, gd r4.pay 16, .b false, gd r4.pay 18, gd r4.pay 19, gd r4.pay 20, gd r4.pay 21, gd r4.pay 22, gd r4.pay 23, gd r4.pay 24, gd r4.pay 25, gd r4.pay 26, gd r4.pay 27, gd r4.pay 28, gd r4.pay 29, gd r4.pay 30, gd r4.pay 31]
noncomputable def s_LetterOks6 (N : Nat) (p : List D) (r4 : Out) : Out := bif !(rangeOk [(gd r4.pay 23), (gd r4.pay 24)]) then nx [gd r4.pay 0, gd r4.pay 1, gd r4.pay 2, gd r4.pay 3, gd r4.pay 4, gd r4.pay 5, gd r4.pay 6, gd r4.pay 7, gd r4.pay 8, gd r4.pay 9, gd r4.pay 10, gd r4.pay 11, gd r4.pay 12, gd r4.pay 13, gd r4.pay 14, gd r4.pay 15, gd r4.pay 16, .b true, gd r4.pay 18, gd r4.pay 19, gd r4.pay 20, gd r4.pay 21, gd r4.pay 22, gd r4.pay 23, gd r4.pay 24, gd r4.pay 25, gd r4.pay 26, gd r4.pay 27, gd r4.pay 28, gd r4.pay 29, gd r4.pay 30, gd r4.pay 31] else nd (leI ((gd r4.pay 16).str.length : Int) 100) (s_LetterOks5 N p r4)
noncomputable def s_LetterOks7 (N : Nat) (p : List D) (r4 : Out) : Out := bif hasB (gd r4.pay 16).str 114 then (s_LetterOks6 N p r4) else nd (leI ((gd r4.pay 16).str.length : Int) 100) (s_LetterOks5 N p r4)
noncomputable def s_LetterOks8 (N : Nat) (p : List D) (r6 : Out) : Out := bif !(hasB (gd r6.pay 16).str 83) then nx [gd r6.pay 0, gd r6.pay 1, gd r6.pay 2, gd r6.pay 3, gd r6.pay 4, gd r6.pay 5, gd r6.pay 6, gd r6.pay 7, gd r6.pay 8, gd r6.pay 9, gd r6.pay 10, gd r6.pay 11, gd r6.pay 12, gd r6.pay 13, gd r6.pay 14, gd r6.pay 15, gd r6.pay 16, .b (ltI 0 ((gd r6.pay 31).rows.length : Int)), gd r6.pay 18, gd r6.pay 19, gd r6.pay 20, gd r6.pay 21, gd r6.pay 22, gd r6.pay 23, gd r6.pay 24, gd r6.pay 25, gd r6.pay 26, gd r6.pay 27, gd r6.pay 28, gd r6.pay 29, gd r6.pay 30, gd r6.pay 31] else nx [gd r6.pay 0, gd r6.pay 1, gd r6.pay 2, gd r6.pay 3, gd r6.pay 4, gd r6.pay 5, gd r6.pay 6, gd r6.pay 7, gd r6.pay 8, gd r6.pay 9, gd r6.pay 10, gd r6.pay 11, gd r6.pay 12, gd r6.pay 13, gd r6.pay 14, gd r6.pay 15, gd r6.pay 16, .b false, gd r6.pay 18, gd r6.pay 19, gd r6.pay 20, gd r6.pay 21, gd r6.pay 22, gd r6.pay 23, gd r6.pay 24, gd r6.pay 25, gd r6.pay 26, gd r6.pay 27, gd r6.pay 28, gd r6.pay 29, gd r6.pay 30, gd r6.pay 31]
noncomputable def s_LetterOks9 (N : Nat) (p : List D) (r6 : Out) : Out := bif !(sharesOk (gd r6.pay 31)) then nx [gd r6.pay 0, gd r6.pay 1, gd r6.pay 2, gd r6.pay 3, gd r6.pay 4, gd r6.pay 5, gd r6.pay 6, gd r6.pay 7, gd r6.pay 8, gd r6.pay 9, gd r6.pay 10, gd r6.pay 11, gd r6.pay 12, gd r6.pay 13, gd r6.pay 14, gd r6.pay 15, gd r6.pay 16, .b true, gd r6.pay 18, gd r6.pay 19, gd r6.pay 20, gd r6.pay 21, gd r6.pay 22, gd r6.pay 23, gd r6.pay 24, gd r6.pay 25, gd r6.pay 26, gd r6.pay 27, gd r6.pay 28, gd r6.pay 29, gd r6.pay 30, gd r6.pay 31] else nd (leI ((gd r6.pay 16).str.length : Int) 100) (s_LetterOks8 N p r6)
noncomputable def s_LetterOks10 (N : Nat) (p : List D) (r6 : Out) : Out := bif ltI 0 ((gd r6.pay 30).rows.length : Int) then nx [gd r6.pay 0, gd r6.pay 1, gd r6.pay 2, gd r6.pay 3, gd r6.pay 4, gd r6.pay 5, gd r6.pay 6, gd r6.pay 7, gd r6.pay 8, gd r6.pay 9, gd r6.pay 10, gd r6.pay 11, gd r6.pay 12, gd r6.pay 13, gd r6.pay 14, gd r6.pay 15, gd r6.pay 16, .b true, gd r6.pay 18, gd r6.pay 19, gd r6.pay 20, gd r6.pay 21, gd r6.pay 22, gd r6.pay 23, gd r6.pay 24, gd r6.pay 25, gd r6.pay 26, gd r6.pay 27, gd r6.pay 28, gd r6.pay 29, gd r6.pay 30, gd r6.pay 31] else (s_LetterOks9 N p r6)
noncomputable def s_LetterOks11 (N : Nat) (p : List D) (r6 : Out) : Out := nd (leI ((gd r6.pay 16).str.length : Int) 100) (bif !(hasB (gd r6.pay 16).str 67) then (s_LetterOks10 N p r6) else (s_LetterOks9 N p r6))
noncomputable def s_LetterOks12 (N : Nat) (p : List D) (r6 : Out) : Out := bif !(storeOk (gd r6.pay 30)) then nx [gd r6.pay 0, gd r6.pay 1, gd r6.pay 2, gd r6.pay 3, gd r6.pay 4, gd r6.pay 5, gd r6.pay 6, gd r6.pay 7, gd r6.pay 8, gd r6.pay 9, gd r6.pay 10, gd r6.pay 11, gd r6.pay 12, gd r6.pay 13, gd r6.pay 14, gd r6.pay 15, gd r6.pay 16, .b true, gd r6.pay 18, gd r6.pay 19, gd r6.pay 20, gd r6.pay 21, gd r6.pay 22, gd r6.pay 23, gd r6.pay 24, gd r6.pay 25, gd r6.pay 26, gd r6.pay 27, gd r6.pay 28, gd r6.pay 29, gd r6.pay 30, gd r6.pay 31] else (s_LetterOks11 N p r6)
noncomputable def s_LetterOks13 (N : Nat) (p : List D) (r6 : Out) : Out := bif ltI 0 ((gd r6.pay 29).rows.length : Int) then nx [gd r6.pay 0, gd r6.pay 1, gd r6.pay 2, gd r6.pay 3, gd r6.pay 4, gd r6.pay 5, gd r6.pay 6, gd r6.pay 7, gd r6.pay 8, gd r6.pay 9, gd r6.pay 10, gd r6.pay 11, gd r6.pay 12, gd r6.pay 13, gd r6.pay 14, gd r6.pay 15, gd r6.pay 16, .b true, gd r6.pay 18, gd r6.pay 19, gd r6.pay 20, gd r6.pay 21, gd r6.pay 22, gd r6.pay 23, gd r6.pay 24, gd r6.pay 25, gd r6.pay 26, gd r6.pay 27, gd r6.pay 28, gd r6.pay 29, gd r6.pay 30, gd r6.pay 31] else (s_LetterOks12 N p r6)
noncomputable def s_LetterOks14 (N : Nat) (p : List D) (r6 : Out) : Out := nd (leI ((gd r6.pay 16).str.length : Int) 100) (bif !(hasB (gd r6.pay 16).str 87) then (s_LetterOks13 N p r6) else (s_LetterOks12 N p r6))
noncomputable def s_LetterOks15 (N : Nat) (p : List D) (r6 : Out) : Out := bif !(writesOk (gd r6.pay 29)) then nx [gd r6.pay 0, gd r6.pay 1, gd r6.pay 2, gd r6.pay 3, gd r6.pay 4, gd r6.pay 5, gd r6.pay 6, gd r6.pay 7, gd r6.pay 8, gd r6.pay 9, gd r6.pay 10, gd r6.pay 11, gd r6.pay 12, gd r6.pay 13, gd r6.pay 14, gd r6.pay 15, gd r6.pay 16, .b true, gd r6.pay 18, gd r6.pay 19, gd r6.pay 20, gd r6.pay 21, gd r6.pay 22, gd r6.pay 23, gd r6.pay 24, gd r6.pay 25, gd r6.pay 26, gd r6.pay 27, gd r6.pay 28, gd r6.pay 29, gd r6.pay 30, gd r6.pay 31] else (s_LetterOks14 N p r6)
noncomputable def s_LetterOks16 (N : Nat) (p : List D) (r6 : Out) : Out := bif ltI 0 ((gd r6.pay 28).rows.length : Int) then nx [gd r6.pay 0, gd r6.pay 1, gd r6.pay 2, gd r6.pay 3, gd r6.pay 4, gd r6.pay 5, gd r6.pay 6, gd r6.pay 7, gd r6.pay 8, gd r6.pay 9, gd r6.pay 10, gd r6.pay 11, gd r6.pay 12, gd r6.pay 13, gd r6.pay 14, gd r6.pay 15, gd r6.pay 16, .b true, gd r6.pay 18, gd r6.pay 19, gd r6.pay 20, gd r6.pay 21, gd r6.pay 22, gd r6.pay 23, gd r6.pay 24, gd r6.pay 25, gd r6.pay 26, gd r6.pay 27, gd r6.pay 28, gd r6.pay 29, gd r6.pay 30, gd r6.pay 31] else (s_LetterOks15 N p r6)
noncomputable def s_LetterOks17 (N : Nat) (p : List D) (r6 : Out) : Out := nd (leI ((gd r6.pay 16).str.length : Int) 100) (bif !(hasB (gd r6.pay 16).str 82) then (s_LetterOks16 N p r6) else (s_LetterOks15 N p r6))
noncomputable def s_LetterOks18 (N : Nat) (p : List D) (r6 : Out) : Out := bif ltI 16 ((gd r6.pay 28).rows.length : Int) then nx [gd r6.pay 0, gd r6.pay 1, gd r6.pay 2, gd r6.pay 3, gd r6.pay 4, gd r6.pay 5, gd r6.pay 6, gd r6.pay 7, gd r6.pay 8, gd r6.pay 9, gd r6.pay 10, gd r6.pay 11, gd r6.pay 12, gd r6.pay 13, gd r6.pay 14, gd r6.pay 15, gd r6.pay 16, .b true, gd r6.pay 18, gd r6.pay 19, gd r6.pay 20, gd r6.pay 21, gd r6.pay 22, gd r6.pay 23, gd r6.pay 24, gd r6.pay 25, gd r6.pay 26, gd r6.pay 27, gd r6.pay 28, gd r6.pay 29, gd r6.pay 30, gd r6.pay 31] else (s_LetterOks17 N p r6)
noncomputable def s_LetterOks19 (N : Nat) (p : List D) (o0 : Out) : Out := bif o0.code == 1 then some (1, o0.pay) else nd (o0.code == 2) (ob ((votesN (gd o0.pay 31) 0) == ((gd o0.pay 31).rows.length : Int)))
noncomputable def s_LetterOks20 (N : Nat) (p : List D) (r8 : Out) : Out := let o0 : Out := iter (s_LetterOkL0 N p) N [gd r8.pay 0, gd r8.pay 1, gd r8.pay 2, gd r8.pay 3, gd r8.pay 4, gd r8.pay 5, gd r8.pay 6, gd r8.pay 7, gd r8.pay 8, gd r8.pay 9, gd r8.pay 10, gd r8.pay 11, gd r8.pay 12, gd r8.pay 13, gd r8.pay 14, gd r8.pay 15, gd r8.pay 16, .i 0, gd r8.pay 18, gd r8.pay 19, gd r8.pay 20, gd r8.pay 21, gd r8.pay 22, gd r8.pay 23, gd r8.pay 24, gd r8.pay 25, gd r8.pay 26, gd r8.pay 27, gd r8.pay 28, gd r8.pay 29, gd r8.pay 30, gd r8.pay 31]; nd o0.isSome (s_LetterOks19 N p o0)
noncomputable def s_LetterOks21 (N : Nat) (p : List D) (r6 : Out) : Out := let r8 : Out := (s_LetterOks18 N p r6); nd r8.isSome (bif (gd r8.pay 17).bool then ob false else (s_LetterOks20 N p r8))
noncomputable def s_LetterOks22 (N : Nat) (p : List D) (r4 : Out) : Out := let r6 : Out := nd (leI ((gd r4.pay 16).str.length : Int) 100) (s_LetterOks7 N p r4); nd r6.isSome (bif (gd r6.pay 17).bool then ob false else (s_LetterOks21 N p r6))
noncomputable def s_LetterOks23 (N : Nat) (p : List D) : Out := let r4 : Out := nd (leI ((lettersS (gd p 0).int).str.length : Int) 100) (s_LetterOks3 N p); nd r4.isSome (bif (gd r4.pay 17).bool then ob false else (s_LetterOks22 N p r4))
noncomputable def s_LetterOks24 (N : Nat) (p : List D) : Out := bif !(numOk (hasB (lettersS (gd p 0).int).str 116) (gd p 4).int 1 60) then ob false else (s_LetterOks23 N p)
noncomputable def s_LetterOks25 (N : Nat) (p : List D) : Out := bif !(numOk (hasB (lettersS (gd p 0).int).str 113) (gd p 3).int 1 1000000000) then ob false else nd (leI ((lettersS (gd p 0).int).str.length : Int) 100) (s_LetterOks24 N p)
noncomputable def s_LetterOks26 (N : Nat) (p : List D) : Out := bif !(numOk (hasB (lettersS (gd p 0).int).str 99) (gd p 2).int 0 5) then ob false else nd (leI ((lettersS (gd p 0).int).str.length : Int) 100) (s_LetterOks25 N p)
noncomputable def s_LetterOks27 (N : Nat) (p : List D) : Out := bif !(numOk (hasB (lettersS (gd p 0).int).str 103) (gd p 1).int 0 3) then ob false else nd (leI ((lettersS (gd p 0).int).str.length : Int) 100) (s_LetterOks26 N p)
noncomputable def s_LetterOks28 (N : Nat) (p : List D) : Out := bif (lettersS (gd p 0).int).str == [] then ob false else nd (leI ((lettersS (gd p 0).int).str.length : Int) 100) (s_LetterOks27 N p)
theorem s_LetterOk_ev (N : Nat) (p : List D) : evFn Tryz.prog s_LetterOkT N s_LetterOkK Tryz.f52 rb [⟨ag rILetter, p⟩] = some (bo, (s_LetterOks28 N p)) := by kernel_rfl
def letterG (p : List D) (f : List UInt8) : Bool := !(f == []) && (numOk (hasB f 71) (gd p 1).int 0 3 && (numOk (hasB f 67) (gd p 2).int 0 5 && (numOk (hasB f 82) (gd p 3).int 1 1000000000 && (numOk (hasB f 84) (gd p 4).int 1 60 && (numOk (hasB f 78) (gd p 7).int 1 1000000 && (numOk (hasB f 99) (gd p 8).int 0 7 && ((hasB f 89 || !(gd p 9).bool) && ((bif hasB f 107 then rangeOk [gd p 5, gd p 6] else ((gd p 5).int == 0) && ((gd p 6).int == 0)) && (decide (((gd p 10).rows.length : Int) ≤ 16) && ((hasB f 101 || (((gd p 10).rows.length : Int) == 0)) && (writesOk (gd p 11) && ((hasB f 87 || (((gd p 11).rows.length : Int) == 0)) && (storeOk (gd p 12) && ((hasB f 108 || (((gd p 12).rows.length : Int) == 0)) && (sharesOk (gd p 13) && ((hasB f 83 || (((gd p 13).rows.length : Int) == 0)) && ((((List.range (gd p 10).rows.length).all fun m => rangeOk (sub ((gd p 10).rows.getD m []) 0 2)) && ((votesN (gd p 13) 0 : Int) == ((gd p 13).rows.length : Int))))))))))))))))))))
theorem lt_zero (n : Nat) : ltI 0 (n : Int) = !((n : Int) == 0) := by
  rw [Bool.eq_iff_iff]; simp only [ltI, decide_eq_true_eq, Bool.not_eq_true', beq_eq_false_iff_ne, ne_eq]; omega
theorem lt_16 (n : Nat) : ltI 16 (n : Int) = !decide ((n : Int) ≤ 16) := by
  rw [Bool.eq_iff_iff]; simp only [ltI, decide_eq_true_eq, Bool.not_eq_true', decide_eq_false_iff_not]; omega
theorem votesN_all0 {z : D} (h : sharesOk z = true) : ((votesN z 0 : Int) == z.rows.length) = (!votesAny z 1 && !votesAny z 2) := by
  have := cnt_all (fun k => (gd (sub (z.rows.getD k []) 0 4) 3).int == 0) z.rows.length 0
  simp only [Nat.zero_add] at this
  rw [show ((votesN z 0 : Int) == z.rows.length) = decide (votesN z 0 = z.rows.length) from by
    by_cases e : votesN z 0 = z.rows.length
    · rw [decide_eq_true e]; exact beq_iff_eq.2 (by omega)
    · rw [decide_eq_false e]; exact beq_eq_false_iff_ne.2 (by omega)]
  rw [show decide (votesN z 0 = z.rows.length) = _ from this]
  have hs : ∀ k, k < z.rows.length → inB (gd (sub (z.rows.getD k []) 0 4) 3).int 0 2 = true := fun k hk => by
    simp only [sharesOk, Bool.and_eq_true, List.all_eq_true] at h
    have := h.2 k (List.mem_range.2 hk)
    simp only [shareAt, Bool.and_eq_true] at this
    exact this.2.2.2.2
  rw [Bool.eq_iff_iff]
  simp only [votesAny, anyS, Bool.and_eq_true, Bool.not_eq_true', List.all_eq_true, List.any_eq_false, List.mem_range, beq_iff_eq]
  constructor
  · intro h1
    exact ⟨fun k hk e => absurd (e.symm.trans (h1 k hk)) (by decide), fun k hk e => absurd (e.symm.trans (h1 k hk)) (by decide)⟩
  · rintro ⟨h1, h2⟩ k hk
    have := hs k hk
    simp only [inB, Bool.and_eq_true, decide_eq_true_eq] at this
    have n0 := h1 k hk
    have n2 := h2 k hk
    omega
theorem letter_same (p : List D) (f : List UInt8) : letterG p f = letterF p f := by
  unfold letterG letterF readsOk
  rw [reads_all]
  refine congrArg (and _) (congrArg (and _) (congrArg (and _) (congrArg (and _) (congrArg (and _) (congrArg (and _) (congrArg (and _) ?_))))))
  generalize (hasB f 89 || !(gd p 9).bool) = a
  generalize (bif hasB f 107 then rangeOk [gd p 5, gd p 6] else ((gd p 5).int == 0) && ((gd p 6).int == 0)) = b
  generalize decide (((gd p 10).rows.length : Int) ≤ 16) = c
  generalize (hasB f 101 || (((gd p 10).rows.length : Int) == 0)) = d
  generalize writesOk (gd p 11) = e
  generalize (hasB f 87 || (((gd p 11).rows.length : Int) == 0)) = g
  generalize storeOk (gd p 12) = m
  generalize (hasB f 108 || (((gd p 12).rows.length : Int) == 0)) = n
  cases hs : sharesOk (gd p 13)
  · simp only [Bool.and_false, Bool.false_and]
  · rw [votesN_all0 hs]
    generalize (hasB f 83 || (((gd p 13).rows.length : Int) == 0)) = o
    generalize (!votesAny (gd p 13) 1 && !votesAny (gd p 13) 2) = v
    generalize ((List.range (gd p 10).rows.length).all fun m => rangeOk (sub ((gd p 10).rows.getD m []) 0 2)) = w
    cases a
    · simp only [Bool.false_and, Bool.and_false]
    · cases b
      · simp only [Bool.false_and, Bool.and_false]
      · cases c
        · simp only [Bool.false_and, Bool.and_false]
        · cases w
          · simp only [Bool.false_and, Bool.and_false]
          · simp only [Bool.true_and, Bool.and_true]
def PX (p : List D) (b : Bool) : List D := [gd p 0, gd p 1, gd p 2, gd p 3, gd p 4, gd p 5, gd p 6, gd p 7, gd p 8, gd p 9, gd p 10, gd p 11, gd p 12, gd p 13, .i 0, .b false, lettersS (gd p 0).int, .b b, gd p 0, gd p 1, gd p 2, gd p 3, gd p 4, gd p 5, gd p 6, gd p 7, gd p 8, gd p 9, gd p 10, gd p 11, gd p 12, gd p 13]
theorem nx_and (p : List D) (a g : Bool) : (bif !a then nx (PX p true) else nx (PX p (!g))) = nx (PX p (!(a && g))) := by cases a <;> rfl
theorem nx_or (p : List D) (h g : Bool) (n : Nat) : (bif !h then (bif ltI 0 (n : Int) then nx (PX p true) else nx (PX p (!g))) else nx (PX p (!g))) = nx (PX p (!((h || ((n : Int) == 0)) && g))) := by
  rw [lt_zero]
  cases h <;> cases ((n : Int) == 0) <;> rfl
theorem ob_and (a g : Bool) : (bif !a then ob false else ob g) = ob (a && g) := by cases a <;> rfl
def s_LetterOkg1 (p : List D) : Bool := hasB (lettersS (gd p 0).int).str 121 || !(gd p 9).bool
theorem s_LetterOkx1 (p : List D) : s_LetterOks1 17 p = nx (PX p (!s_LetterOkg1 p)) := by
  rw [show s_LetterOks1 17 p = (bif (gd p 9).bool then nd (leI (((lettersS (gd p 0).int).str.length : Int)) 100) (nx (PX p (!(hasB (lettersS (gd p 0).int).str 121)))) else nx (PX p false)) from by kernel_rfl, letters_len, nd_true]
  unfold s_LetterOkg1
  cases (gd p 9).bool <;> cases hasB (lettersS (gd p 0).int).str 121 <;> rfl
def s_LetterOkg2 (p : List D) : Bool := numOk (hasB (lettersS (gd p 0).int).str 107) (gd p 8).int 0 7 && s_LetterOkg1 p
theorem s_LetterOkx2 (p : List D) : s_LetterOks2 17 p = nx (PX p (!s_LetterOkg2 p)) := by
  rw [show s_LetterOks2 17 p = (bif !(numOk (hasB (lettersS (gd p 0).int).str 107) (gd p 8).int 0 7) then nx (PX p true) else s_LetterOks1 17 p) from by kernel_rfl, s_LetterOkx1]
  exact nx_and p _ _
def s_LetterOkg3 (p : List D) : Bool := numOk (hasB (lettersS (gd p 0).int).str 110) (gd p 7).int 1 1000000 && s_LetterOkg2 p
theorem s_LetterOkx3 (p : List D) : s_LetterOks3 17 p = nx (PX p (!s_LetterOkg3 p)) := by
  rw [show s_LetterOks3 17 p = (bif !(numOk (hasB (lettersS (gd p 0).int).str 110) (gd p 7).int 1 1000000) then nx (PX p true) else nd (leI (((lettersS (gd p 0).int).str.length : Int)) 100) (s_LetterOks2 17 p)) from by kernel_rfl, s_LetterOkx2, letters_len, nd_true]
  exact nx_and p _ _
def s_LetterOkg5 (p : List D) : Bool := hasB (lettersS (gd p 0).int).str 114 || (((gd p 5).int == 0) && ((gd p 6).int == 0))
theorem s_LetterOkx5 (p : List D) (b : Bool) : s_LetterOks5 17 p (nx (PX p b)) = nx (PX p (!s_LetterOkg5 p)) := by
  rw [show s_LetterOks5 17 p (nx (PX p b)) = (bif !(hasB (lettersS (gd p 0).int).str 114) then (bif (gd p 5).int != 0 then nx (PX p true) else nx (PX p ((gd p 6).int != 0))) else nx (PX p false)) from by kernel_rfl, bne_not, bne_not]
  unfold s_LetterOkg5
  cases hasB (lettersS (gd p 0).int).str 114 <;> cases ((gd p 5).int == 0) <;> cases ((gd p 6).int == 0) <;> rfl
def s_LetterOkg6 (p : List D) : Bool := rangeOk [gd p 5, gd p 6] && s_LetterOkg5 p
theorem s_LetterOkx6 (p : List D) (b : Bool) : s_LetterOks6 17 p (nx (PX p b)) = nx (PX p (!s_LetterOkg6 p)) := by
  rw [show s_LetterOks6 17 p (nx (PX p b)) = (bif !(rangeOk [gd p 5, gd p 6]) then nx (PX p true) else nd (leI (((lettersS (gd p 0).int).str.length : Int)) 100) (s_LetterOks5 17 p (nx (PX p b)))) from by kernel_rfl, s_LetterOkx5, letters_len, nd_true]
  exact nx_and p _ _
def s_LetterOkg7 (p : List D) : Bool := bif hasB (lettersS (gd p 0).int).str 114 then s_LetterOkg6 p else s_LetterOkg5 p
theorem s_LetterOkx7 (p : List D) (b : Bool) : s_LetterOks7 17 p (nx (PX p b)) = nx (PX p (!s_LetterOkg7 p)) := by
  rw [show s_LetterOks7 17 p (nx (PX p b)) = (bif hasB (lettersS (gd p 0).int).str 114 then s_LetterOks6 17 p (nx (PX p b)) else nd (leI (((lettersS (gd p 0).int).str.length : Int)) 100) (s_LetterOks5 17 p (nx (PX p b)))) from by kernel_rfl, s_LetterOkx6, s_LetterOkx5, letters_len, nd_true]
  unfold s_LetterOkg7
  cases hasB (lettersS (gd p 0).int).str 114 <;> rfl
def s_LetterOkg8 (p : List D) : Bool := hasB (lettersS (gd p 0).int).str 83 || (((gd p 13).rows.length : Int) == 0)
theorem s_LetterOkx8 (p : List D) (b : Bool) : s_LetterOks8 17 p (nx (PX p b)) = nx (PX p (!s_LetterOkg8 p)) := by
  rw [show s_LetterOks8 17 p (nx (PX p b)) = (bif !(hasB (lettersS (gd p 0).int).str 83) then nx (PX p (ltI 0 ((gd p 13).rows.length : Int))) else nx (PX p false)) from by kernel_rfl, lt_zero]
  unfold s_LetterOkg8
  cases hasB (lettersS (gd p 0).int).str 83 <;> cases (((gd p 13).rows.length : Int) == 0) <;> rfl
def s_LetterOkg9 (p : List D) : Bool := sharesOk (gd p 13) && s_LetterOkg8 p
theorem s_LetterOkx9 (p : List D) (b : Bool) : s_LetterOks9 17 p (nx (PX p b)) = nx (PX p (!s_LetterOkg9 p)) := by
  rw [show s_LetterOks9 17 p (nx (PX p b)) = (bif !(sharesOk (gd p 13)) then nx (PX p true) else nd (leI (((lettersS (gd p 0).int).str.length : Int)) 100) (s_LetterOks8 17 p (nx (PX p b)))) from by kernel_rfl, s_LetterOkx8, letters_len, nd_true]
  exact nx_and p _ _
def s_LetterOkg11 (p : List D) : Bool := (hasB (lettersS (gd p 0).int).str 67 || (((gd p 12).rows.length : Int) == 0)) && s_LetterOkg9 p
theorem s_LetterOkx11 (p : List D) (b : Bool) : s_LetterOks11 17 p (nx (PX p b)) = nx (PX p (!s_LetterOkg11 p)) := by
  rw [show s_LetterOks11 17 p (nx (PX p b)) = (nd (leI (((lettersS (gd p 0).int).str.length : Int)) 100) (bif !(hasB (lettersS (gd p 0).int).str 67) then (bif ltI 0 ((gd p 12).rows.length : Int) then nx (PX p true) else s_LetterOks9 17 p (nx (PX p b))) else s_LetterOks9 17 p (nx (PX p b)))) from by kernel_rfl, s_LetterOkx9, letters_len, nd_true]
  exact nx_or p _ _ _
def s_LetterOkg12 (p : List D) : Bool := storeOk (gd p 12) && s_LetterOkg11 p
theorem s_LetterOkx12 (p : List D) (b : Bool) : s_LetterOks12 17 p (nx (PX p b)) = nx (PX p (!s_LetterOkg12 p)) := by
  rw [show s_LetterOks12 17 p (nx (PX p b)) = (bif !(storeOk (gd p 12)) then nx (PX p true) else s_LetterOks11 17 p (nx (PX p b))) from by kernel_rfl, s_LetterOkx11]
  exact nx_and p _ _
def s_LetterOkg14 (p : List D) : Bool := (hasB (lettersS (gd p 0).int).str 87 || (((gd p 11).rows.length : Int) == 0)) && s_LetterOkg12 p
theorem s_LetterOkx14 (p : List D) (b : Bool) : s_LetterOks14 17 p (nx (PX p b)) = nx (PX p (!s_LetterOkg14 p)) := by
  rw [show s_LetterOks14 17 p (nx (PX p b)) = (nd (leI (((lettersS (gd p 0).int).str.length : Int)) 100) (bif !(hasB (lettersS (gd p 0).int).str 87) then (bif ltI 0 ((gd p 11).rows.length : Int) then nx (PX p true) else s_LetterOks12 17 p (nx (PX p b))) else s_LetterOks12 17 p (nx (PX p b)))) from by kernel_rfl, s_LetterOkx12, letters_len, nd_true]
  exact nx_or p _ _ _
def s_LetterOkg15 (p : List D) : Bool := writesOk (gd p 11) && s_LetterOkg14 p
theorem s_LetterOkx15 (p : List D) (b : Bool) : s_LetterOks15 17 p (nx (PX p b)) = nx (PX p (!s_LetterOkg15 p)) := by
  rw [show s_LetterOks15 17 p (nx (PX p b)) = (bif !(writesOk (gd p 11)) then nx (PX p true) else s_LetterOks14 17 p (nx (PX p b))) from by kernel_rfl, s_LetterOkx14]
  exact nx_and p _ _
def s_LetterOkg17 (p : List D) : Bool := (hasB (lettersS (gd p 0).int).str 82 || (((gd p 10).rows.length : Int) == 0)) && s_LetterOkg15 p
theorem s_LetterOkx17 (p : List D) (b : Bool) : s_LetterOks17 17 p (nx (PX p b)) = nx (PX p (!s_LetterOkg17 p)) := by
  rw [show s_LetterOks17 17 p (nx (PX p b)) = (nd (leI (((lettersS (gd p 0).int).str.length : Int)) 100) (bif !(hasB (lettersS (gd p 0).int).str 82) then (bif ltI 0 ((gd p 10).rows.length : Int) then nx (PX p true) else s_LetterOks15 17 p (nx (PX p b))) else s_LetterOks15 17 p (nx (PX p b)))) from by kernel_rfl, s_LetterOkx15, letters_len, nd_true]
  exact nx_or p _ _ _
def s_LetterOkg18 (p : List D) : Bool := decide (((gd p 10).rows.length : Int) ≤ 16) && s_LetterOkg17 p
theorem s_LetterOkx18 (p : List D) (b : Bool) : s_LetterOks18 17 p (nx (PX p b)) = nx (PX p (!s_LetterOkg18 p)) := by
  rw [show s_LetterOks18 17 p (nx (PX p b)) = (bif ltI 16 ((gd p 10).rows.length : Int) then nx (PX p true) else s_LetterOks17 17 p (nx (PX p b))) from by kernel_rfl, s_LetterOkx17, lt_16]
  exact nx_and p _ _
theorem s_LetterOkx20 (p : List D) (b : Bool) (h : decide (((gd p 10).rows.length : Int) ≤ 16) = true) : s_LetterOks20 17 p (nx (PX p b)) = ob (((List.range (gd p 10).rows.length).all fun m => rangeOk (sub ((gd p 10).rows.getD m []) 0 2)) && ((votesN (gd p 13) 0 : Int) == ((gd p 13).rows.length : Int))) := by
  have h16 : (gd p 10).rows.length ≤ 16 := by have := of_decide_eq_true h; omega
  have e := for_loop (L := s_LetterOkL0 17 p) (fun k => [gd p 0, gd p 1, gd p 2, gd p 3, gd p 4, gd p 5, gd p 6, gd p 7, gd p 8, gd p 9, gd p 10, gd p 11, gd p 12, gd p 13, .i 0, .b false, lettersS (gd p 0).int, .i (k : Int), gd p 0, gd p 1, gd p 2, gd p 3, gd p 4, gd p 5, gd p 6, gd p 7, gd p 8, gd p 9, gd p 10, gd p 11, gd p 12, gd p 13]) (gd p 10).rows.length (fun m => rangeOk (sub ((gd p 10).rows.getD m []) 0 2)) [.b false] 0 (fun k hk => ?_) ?_ (N := 17) (by omega)
  · simp only [Int.natCast_zero] at e
    rw [show s_LetterOks20 17 p (nx (PX p b)) = nd (iter (s_LetterOkL0 17 p) 17 [gd p 0, gd p 1, gd p 2, gd p 3, gd p 4, gd p 5, gd p 6, gd p 7, gd p 8, gd p 9, gd p 10, gd p 11, gd p 12, gd p 13, .i 0, .b false, lettersS (gd p 0).int, .i 0, gd p 0, gd p 1, gd p 2, gd p 3, gd p 4, gd p 5, gd p 6, gd p 7, gd p 8, gd p 9, gd p 10, gd p 11, gd p 12, gd p 13]).isSome (s_LetterOks19 17 p (iter (s_LetterOkL0 17 p) 17 [gd p 0, gd p 1, gd p 2, gd p 3, gd p 4, gd p 5, gd p 6, gd p 7, gd p 8, gd p 9, gd p 10, gd p 11, gd p 12, gd p 13, .i 0, .b false, lettersS (gd p 0).int, .i 0, gd p 0, gd p 1, gd p 2, gd p 3, gd p 4, gd p 5, gd p 6, gd p 7, gd p 8, gd p 9, gd p 10, gd p 11, gd p 12, gd p 13])) from by kernel_rfl, e]
    cases (List.range (gd p 10).rows.length).all fun m => rangeOk (sub ((gd p 10).rows.getD m []) 0 2) <;> rfl
  · show s_LetterOkL0 _ p [_, _, _, _, _, _, _, _, _, _, _, _, _, _, _, _, _, .i (k : Int), _, _, _, _, _, _, _, _, _, _, _, _, _, _] = _
    rw [s_LetterOkR0]
    simp only [int_i, c_lt hk, nd_ix hk, w64_succ hk (show (gd p 10).rows.length ≤ 9223372036854775807 from by omega), Int.toNat_natCast]
    cases rangeOk (sub ((gd p 10).rows.getD k []) 0 2) <;> rfl
  · show s_LetterOkL0 _ p [_, _, _, _, _, _, _, _, _, _, _, _, _, _, _, _, _, .i ((gd p 10).rows.length : Int), _, _, _, _, _, _, _, _, _, _, _, _, _, _] = _
    rw [s_LetterOkR0]
    simp only [int_i, c_nlt]
def s_LetterOkg21 (p : List D) : Bool := s_LetterOkg18 p && (((List.range (gd p 10).rows.length).all fun m => rangeOk (sub ((gd p 10).rows.getD m []) 0 2)) && ((votesN (gd p 13) 0 : Int) == ((gd p 13).rows.length : Int)))
theorem s_LetterOkx21 (p : List D) (b : Bool) : s_LetterOks21 17 p (nx (PX p b)) = ob (s_LetterOkg21 p) := by
  rw [show s_LetterOks21 17 p (nx (PX p b)) = nd (s_LetterOks18 17 p (nx (PX p b))).isSome (bif (gd (Out.pay (s_LetterOks18 17 p (nx (PX p b)))) 17).bool then ob false else s_LetterOks20 17 p (s_LetterOks18 17 p (nx (PX p b)))) from by kernel_rfl, s_LetterOkx18]
  show (bif !s_LetterOkg18 p then ob false else s_LetterOks20 17 p (nx (PX p (!s_LetterOkg18 p)))) = _
  unfold s_LetterOkg21 s_LetterOkg18
  cases h : decide (((gd p 10).rows.length : Int) ≤ 16)
  · rfl
  · rw [s_LetterOkx20 p _ h, Bool.true_and]
    exact ob_and _ _
def s_LetterOkg22 (p : List D) : Bool := s_LetterOkg7 p && s_LetterOkg21 p
theorem s_LetterOkx22 (p : List D) (b : Bool) : s_LetterOks22 17 p (nx (PX p b)) = ob (s_LetterOkg22 p) := by
  rw [show s_LetterOks22 17 p (nx (PX p b)) = nd (nd (leI (((lettersS (gd p 0).int).str.length : Int)) 100) (s_LetterOks7 17 p (nx (PX p b)))).isSome (bif (gd (Out.pay (nd (leI (((lettersS (gd p 0).int).str.length : Int)) 100) (s_LetterOks7 17 p (nx (PX p b))))) 17).bool then ob false else s_LetterOks21 17 p (nd (leI (((lettersS (gd p 0).int).str.length : Int)) 100) (s_LetterOks7 17 p (nx (PX p b))))) from by kernel_rfl, letters_len, nd_true, s_LetterOkx7]
  show (bif !s_LetterOkg7 p then ob false else s_LetterOks21 17 p (nx (PX p (!s_LetterOkg7 p)))) = _
  rw [s_LetterOkx21]
  exact ob_and _ _
def s_LetterOkg23 (p : List D) : Bool := s_LetterOkg3 p && s_LetterOkg22 p
theorem s_LetterOkx23 (p : List D) : s_LetterOks23 17 p = ob (s_LetterOkg23 p) := by
  rw [show s_LetterOks23 17 p = nd (nd (leI (((lettersS (gd p 0).int).str.length : Int)) 100) (s_LetterOks3 17 p)).isSome (bif (gd (Out.pay (nd (leI (((lettersS (gd p 0).int).str.length : Int)) 100) (s_LetterOks3 17 p))) 17).bool then ob false else s_LetterOks22 17 p (nd (leI (((lettersS (gd p 0).int).str.length : Int)) 100) (s_LetterOks3 17 p))) from by kernel_rfl, letters_len, nd_true, s_LetterOkx3]
  show (bif !s_LetterOkg3 p then ob false else s_LetterOks22 17 p (nx (PX p (!s_LetterOkg3 p)))) = _
  rw [s_LetterOkx22]
  exact ob_and _ _
def s_LetterOkg24 (p : List D) : Bool := numOk (hasB (lettersS (gd p 0).int).str 116) (gd p 4).int 1 60 && s_LetterOkg23 p
theorem s_LetterOkx24 (p : List D) : s_LetterOks24 17 p = ob (s_LetterOkg24 p) := by
  rw [show s_LetterOks24 17 p = (bif !(numOk (hasB (lettersS (gd p 0).int).str 116) (gd p 4).int 1 60) then ob false else s_LetterOks23 17 p) from rfl, s_LetterOkx23]
  exact ob_and _ _
def s_LetterOkg25 (p : List D) : Bool := numOk (hasB (lettersS (gd p 0).int).str 113) (gd p 3).int 1 1000000000 && s_LetterOkg24 p
theorem s_LetterOkx25 (p : List D) : s_LetterOks25 17 p = ob (s_LetterOkg25 p) := by
  rw [show s_LetterOks25 17 p = (bif !(numOk (hasB (lettersS (gd p 0).int).str 113) (gd p 3).int 1 1000000000) then ob false else nd (leI (((lettersS (gd p 0).int).str.length : Int)) 100) (s_LetterOks24 17 p)) from rfl, s_LetterOkx24, letters_len, nd_true]
  exact ob_and _ _
def s_LetterOkg26 (p : List D) : Bool := numOk (hasB (lettersS (gd p 0).int).str 99) (gd p 2).int 0 5 && s_LetterOkg25 p
theorem s_LetterOkx26 (p : List D) : s_LetterOks26 17 p = ob (s_LetterOkg26 p) := by
  rw [show s_LetterOks26 17 p = (bif !(numOk (hasB (lettersS (gd p 0).int).str 99) (gd p 2).int 0 5) then ob false else nd (leI (((lettersS (gd p 0).int).str.length : Int)) 100) (s_LetterOks25 17 p)) from rfl, s_LetterOkx25, letters_len, nd_true]
  exact ob_and _ _
def s_LetterOkg27 (p : List D) : Bool := numOk (hasB (lettersS (gd p 0).int).str 103) (gd p 1).int 0 3 && s_LetterOkg26 p
theorem s_LetterOkx27 (p : List D) : s_LetterOks27 17 p = ob (s_LetterOkg27 p) := by
  rw [show s_LetterOks27 17 p = (bif !(numOk (hasB (lettersS (gd p 0).int).str 103) (gd p 1).int 0 3) then ob false else nd (leI (((lettersS (gd p 0).int).str.length : Int)) 100) (s_LetterOks26 17 p)) from rfl, s_LetterOkx26, letters_len, nd_true]
  exact ob_and _ _
def s_LetterOkg28 (p : List D) : Bool := !((lettersS (gd p 0).int).str == []) && s_LetterOkg27 p
theorem s_LetterOkx28 (p : List D) : s_LetterOks28 17 p = ob (s_LetterOkg28 p) := by
  rw [show s_LetterOks28 17 p = (bif (lettersS (gd p 0).int).str == [] then ob false else nd (leI (((lettersS (gd p 0).int).str.length : Int)) 100) (s_LetterOks27 17 p)) from rfl, s_LetterOkx27, letters_len, nd_true]
  unfold s_LetterOkg28
  cases (lettersS (gd p 0).int).str == [] <;> rfl
theorem s_LetterOk_all (p : List D) : s_LetterOkg28 p = letterG p (formI (gd p 0).int) := by
  obtain ⟨e0, e1, e2, e3, e4, e5, e6, e7, e8, e9, e10, e11, e12⟩ := letters_same (gd p 0).int
  unfold letterG s_LetterOkg28 s_LetterOkg27 s_LetterOkg26 s_LetterOkg25 s_LetterOkg24 s_LetterOkg23 s_LetterOkg22 s_LetterOkg21 s_LetterOkg18 s_LetterOkg17 s_LetterOkg15 s_LetterOkg14 s_LetterOkg12 s_LetterOkg11 s_LetterOkg9 s_LetterOkg8 s_LetterOkg7 s_LetterOkg6 s_LetterOkg5 s_LetterOkg3 s_LetterOkg2 s_LetterOkg1
  simp only [e0, e1, e2, e3, e4, e5, e6, e7, e8, e9, e10, e11, e12]
  rw [show (bif hasB (formI (gd p 0).int) 107 then rangeOk [gd p 5, gd p 6] && (hasB (formI (gd p 0).int) 107 || ((gd p 5).int == 0) && ((gd p 6).int == 0)) else hasB (formI (gd p 0).int) 107 || ((gd p 5).int == 0) && ((gd p 6).int == 0)) = (bif hasB (formI (gd p 0).int) 107 then rangeOk [gd p 5, gd p 6] else ((gd p 5).int == 0) && ((gd p 6).int == 0)) from by
    cases hasB (formI (gd p 0).int) 107
    · rfl
    · simp only [cond_true, Bool.true_or, Bool.and_true]]
  simp only [Bool.and_assoc]
def s_LetterOkE : Ent := (52, e1 (ag rILetter) fun p => (⟨rb, [.b (letterOk p)]⟩, true))
theorem s_LetterOk_ok : EntOk Tryz.prog s_LetterOkE := e1_ok fun p h => evFn_sound (N := 17) (ks := s_LetterOkK) (key := bo) s_LetterOkT_ok (enters Tryz.func52 (by kernel_rfl) (by kernel_rfl)) Tryz.func52 fun hw => by
  rw [s_LetterOk_ev]
  exact congrArg (fun x => some (bo, x)) ((s_LetterOkx28 p).trans (congrArg ob ((s_LetterOk_all p).trans (letter_same p (formI (gd p 0).int)))))

end Go.Proofs.YtchceahcaaibcaaGreat
