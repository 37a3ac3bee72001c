/-
  What all rounds have: how data are read, and loops that go on while something holds.
-/
import Derived.Test.YtchceahcaaibcaaGreatJ8
namespace Go.Proofs.YtchceahcaaibcaaGreat
set_option linter.unusedSimpArgs false
set_option linter.unusedVariables false
theorem int_i (n : Int) : (D.i n).int = n := rfl
theorem bool_b (n : Bool) : (D.b n).bool = n := rfl
theorem str_s (n : List UInt8) : (D.s n).str = n := rfl
theorem rows_l (n : List (List D)) : (D.l n).rows = n := rfl
theorem lt_nat {k n : Nat} (h : k < n) : decide ((k : Int) < (n : Int)) = true := decide_eq_true (by omega)
theorem nlt_nat {n : Nat} : decide ((n : Int) < (n : Int)) = false := decide_eq_false (by omega)
theorem ge_nat {k : Nat} : decide ((0 : Int) ≤ (k : Int)) = true := decide_eq_true (by omega)
theorem le_nat {k n : Nat} (h : k ≤ n) : decide ((k : Int) ≤ (n : Int)) = true := decide_eq_true (by omega)
theorem ge_00 : decide ((0 : Int) ≤ 0) = true := rfl
theorem w64_succ {k n : Nat} (h : k < n) (hn : n ≤ 9223372036854775807) : w64 ((k : Int) + 1) = ((k + 1 : Nat) : Int) := by
  rw [w64_id (by omega) (by omega)]; omega
theorem wt_at {P : Program} {xs : List Ce} {p : List D} {e : TypeId} (h : WT P ⟨.one (.agg xs), p⟩) {j : Nat} (hj : xs[j]? = some (.d (.sl e))) : (gd p j).rows.length ≤ 9223372036854775807 := by
  have h : ∀ (j : Nat) c, xs[j]? = some c → WC P c (gd p j) := h
  have h : WD P (.sl e) (gd p j) := h j _ hj
  cases h with
  | sl _ _ row _ h _ => exact h
theorem for_loop {L : List D → Out} (st : Nat → List D) (n : Nat) (C : Nat → Bool) (v : List D) (j : Nat) (h1 : ∀ k, k < n → L (st k) = some (bif C k then (0, st (k + 1)) else (1, v))) (h2 : L (st n) = some (j + 2, st n)) {N : Nat} (hN : n < N) :
    iter L N (st 0) = some (bif (List.range n).all C then (j + 2, st n) else (1, v)) := all_loop st n C v (st n) j h1 h2 hN
def ltI (x y : Int) : Bool := decide (x < y)
def leI (x y : Int) : Bool := decide (x ≤ y)
def eqI (x y : Int) : Bool := decide (x = y)
theorem ltI_t {x y : Int} (h : x < y) : ltI x y = true := decide_eq_true h
theorem ltI_f {x y : Int} (h : y ≤ x) : ltI x y = false := decide_eq_false (by omega)
theorem leI_t {x y : Int} (h : x ≤ y) : leI x y = true := decide_eq_true h
theorem leI_f {x y : Int} (h : y < x) : leI x y = false := decide_eq_false (by omega)
theorem ltI_nat {k n : Nat} (h : k < n) : ltI (k : Int) (n : Int) = true := decide_eq_true (by omega)
theorem ltI_nn {n : Nat} : ltI (n : Int) (n : Int) = false := decide_eq_false (by omega)
theorem leI_0 {n : Nat} : leI 0 (n : Int) = true := decide_eq_true (by omega)
theorem leI_00 : leI 0 0 = true := rfl
theorem leI_nat {k n : Nat} (h : k ≤ n) : leI (k : Int) (n : Int) = true := decide_eq_true (by omega)
theorem c_lt {k n : Nat} (h : k < n) {a b : Out} : (bif ltI (k : Int) (n : Int) then a else b) = a := by rw [ltI_nat h]; rfl
theorem c_nlt {n : Nat} {a b : Out} : (bif ltI (n : Int) (n : Int) then a else b) = b := by rw [ltI_nn]; rfl
theorem nd_true {a : Out} : nd true a = a := rfl
theorem nd_ix {k n : Nat} (h : k < n) {a : Out} : nd (inRange (k : Int) n) a = a := by rw [inRange_nat h]; rfl
theorem nd_take {k n : Nat} (h : k ≤ n) {a : Out} : nd (leI 0 0 && leI 0 (k : Int) && leI (k : Int) (n : Int)) a = a := by
  rw [leI_0, leI_nat h]; rfl
theorem bne_not {a b : Int} : (a != b) = !(a == b) := rfl
theorem ltI_00 : ltI 0 ((0 : Nat) : Int) = false := rfl
theorem ltI_0s {k : Nat} : ltI 0 ((k + 1 : Nat) : Int) = true := ltI_t (by omega)
theorem w64_pred {k : Nat} (h : k + 1 ≤ 9223372036854775807) : w64 (((k + 1 : Nat) : Int) - 1) = (k : Int) := by rw [w64_id (by omega) (by omega)]; omega
def lenOk (l : List (List D)) : Bool := decide (l.length ≤ 4294967296)
theorem lenOk_t {l : List (List D)} (h : l.length ≤ 4294967296) : lenOk l = true := decide_eq_true h
theorem cond_oi (c : Bool) (x y : Int) : (bif c then oi x else oi y) = oi (bif c then x else y) := by cases c <;> rfl
theorem cond_os (c : Bool) (x y : List UInt8) : (bif c then (some (1, [.s x]) : Out) else some (1, [.s y])) = some (1, [.s (bif c then x else y)]) := by cases c <;> rfl
theorem sameP_self (a : List (List D)) : sameP a a = true := by
  unfold sameP
  exact @decide_eq_true _ (Classical.propDecidable _) rfl
def e4 (s0 s1 s2 s3 : Sh) (F : List D → List D → List D → List D → T × Bool) : List T → Option (T × Bool)
  | [v0, v1, v2, v3] => bif v0.sh == s0 && v1.sh == s1 && v2.sh == s2 && v3.sh == s3 then some (F v0.p v1.p v2.p v3.p) else none
  | _ => none
theorem e4_ok {P : Program} {f : FuncId} {s0 s1 s2 s3 : Sh} {F : List D → List D → List D → List D → T × Bool} (h : ∀ p0 p1 p2 p3, (F p0 p1 p2 p3).2 = true → SoundFn P f [⟨s0, p0⟩, ⟨s1, p1⟩, ⟨s2, p2⟩, ⟨s3, p3⟩] (F p0 p1 p2 p3).1) : EntOk P (f, e4 s0 s1 s2 s3 F) := by
  intro args r hr0
  have hr : e4 s0 s1 s2 s3 F args = some (r, true) := hr0
  clear hr0
  unfold e4 at hr
  split at hr
  · rename_i v0 v1 v2 v3
    cases hb : (v0.sh == s0 && v1.sh == s1 && v2.sh == s2 && v3.sh == s3) with
    | false => rw [hb] at hr; cases hr
    | true =>
      rw [hb, cond_true, Option.some.injEq] at hr
      simp only [Bool.and_eq_true, beq_iff_eq] at hb
      obtain ⟨shv0, pv0⟩ := v0
      obtain ⟨shv1, pv1⟩ := v1
      obtain ⟨shv2, pv2⟩ := v2
      obtain ⟨shv3, pv3⟩ := v3
      obtain ⟨⟨⟨q0, q1⟩, q2⟩, q3⟩ := hb
      simp only at q0
      subst q0
      simp only at q1
      subst q1
      simp only at q2
      subst q2
      simp only at q3
      subst q3
      have hh := h pv0 pv1 pv2 pv3
      rw [hr] at hh
      exact hh rfl
  · cases hr
def e5 (s0 s1 s2 s3 s4 : Sh) (F : List D → List D → List D → List D → List D → T × Bool) : List T → Option (T × Bool)
  | [v0, v1, v2, v3, v4] => bif v0.sh == s0 && v1.sh == s1 && v2.sh == s2 && v3.sh == s3 && v4.sh == s4 then some (F v0.p v1.p v2.p v3.p v4.p) else none
  | _ => none
theorem e5_ok {P : Program} {f : FuncId} {s0 s1 s2 s3 s4 : Sh} {F : List D → List D → List D → List D → List D → T × Bool} (h : ∀ p0 p1 p2 p3 p4, (F p0 p1 p2 p3 p4).2 = true → SoundFn P f [⟨s0, p0⟩, ⟨s1, p1⟩, ⟨s2, p2⟩, ⟨s3, p3⟩, ⟨s4, p4⟩] (F p0 p1 p2 p3 p4).1) : EntOk P (f, e5 s0 s1 s2 s3 s4 F) := by
  intro args r hr0
  have hr : e5 s0 s1 s2 s3 s4 F args = some (r, true) := hr0
  clear hr0
  unfold e5 at hr
  split at hr
  · rename_i v0 v1 v2 v3 v4
    cases hb : (v0.sh == s0 && v1.sh == s1 && v2.sh == s2 && v3.sh == s3 && v4.sh == s4) with
    | false => rw [hb] at hr; cases hr
    | true =>
      rw [hb, cond_true, Option.some.injEq] at hr
      simp only [Bool.and_eq_true, beq_iff_eq] at hb
      obtain ⟨shv0, pv0⟩ := v0
      obtain ⟨shv1, pv1⟩ := v1
      obtain ⟨shv2, pv2⟩ := v2
      obtain ⟨shv3, pv3⟩ := v3
      obtain ⟨shv4, pv4⟩ := v4
      obtain ⟨⟨⟨⟨q0, q1⟩, q2⟩, q3⟩, q4⟩ := hb
      simp only at q0
      subst q0
      simp only at q1
      subst q1
      simp only at q2
      subst q2
      simp only at q3
      subst q3
      simp only at q4
      subst q4
      have hh := h pv0 pv1 pv2 pv3 pv4
      rw [hr] at hh
      exact hh rfl
  · cases hr
theorem cnt_zero (C : Nat → Bool) (k : Nat) : cnt C k 0 = 0 := rfl
theorem cnt_succ (C : Nat → Bool) : ∀ m k, cnt C k (m + 1) = cnt C k m + (bif C (k + m) then 1 else 0)
  | 0, k => by simp [cnt]
  | m + 1, k => by
    rw [cnt, cnt_succ C m (k + 1), cnt, show k + 1 + m = k + (m + 1) from by omega]
    omega
theorem anyS_take {C : List D → Bool} {z : D} {k : Nat} (h : k ≤ z.rows.length) : anyS C (.l (z.rows.take k)) = (List.range k).any fun j => C (z.rows.getD j []) := by
  unfold anyS
  rw [rows_l, List.length_take, Nat.min_eq_left h]
  rw [Bool.eq_iff_iff]
  simp only [List.any_eq_true, List.mem_range]
  constructor
  · rintro ⟨j, hj, h⟩
    refine ⟨j, hj, ?_⟩
    rwa [List.getD_eq_getElem?_getD, List.getElem?_take_of_lt hj, ← List.getD_eq_getElem?_getD] at h
  · rintro ⟨j, hj, h⟩
    refine ⟨j, hj, ?_⟩
    rwa [List.getD_eq_getElem?_getD, List.getElem?_take_of_lt hj, ← List.getD_eq_getElem?_getD]
end Go.Proofs.YtchceahcaaibcaaGreat
