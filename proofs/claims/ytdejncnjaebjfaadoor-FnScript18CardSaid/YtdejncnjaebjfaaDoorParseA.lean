/-
  l18Deed of the reference, kind by kind.
-/
import Derived.Test.YtdejncnjaebjfaaDoorWordsS
namespace Go.Proofs.YtdejncnjaebjfaaDoor
set_option linter.unusedVariables false
set_option linter.unusedSimpArgs false
open Go.ChangeShapes Go.WideShapes Go.ChangeAt Go.RowKit

theorem SlR.cells {lo : Nat} {w : World} {A : Option Addr} {n c : Nat} {ns : List Int} (h : SlR 1 RInt lo w (.slice A n c) ns) (h0 : 0 < ns.length) :
    ∃ b o, A = some ⟨b, o, none⟩ ∧ lo ≤ b ∧ b < w.heap.size ∧ ∀ i x, ns[i]? = some x → w.cell? ⟨b, o + i, none⟩ = some (.int .i64 x) := by
  obtain ⟨x, b, o, cs, h1, h2, h3, h4, h5, h6⟩ := h.get RInt.ok (Agree.refl _ _) h0
  refine ⟨b, o, h2, h3, h.blt h2 h0 (by omega), fun i y hy => ?_⟩
  obtain ⟨x', b', o', cs', k1, k2, k3, k4, k5, k6⟩ := h.get RInt.ok (Agree.refl _ _) (List.getElem?_eq_some_iff.1 hy).1
  rw [h2] at k2
  injection k2 with k2
  injection k2 with e1 e2 _
  subst e1 e2
  rw [hy] at k1
  injection k1 with k1
  subst k1
  have := k5 0 (.int .i64 y) (by rw [k6.1]; rfl)
  simpa using this

theorem len_1 {l : List Int} (h : l.length = 1) : ∃ a, l = [a] := by
  match l, h with
  | [a], _ => exact ⟨a, rfl⟩
theorem len_2 {l : List Int} (h : l.length = 2) : ∃ a b, l = [a, b] := by
  match l, h with
  | [a, b], _ => exact ⟨a, b, rfl⟩
theorem len_3 {l : List Int} (h : l.length = 3) : ∃ a b c, l = [a, b, c] := by
  match l, h with
  | [a, b, c], _ => exact ⟨a, b, c, rfl⟩

/-- a deed as a value -/
def deedV (x : MDeed) : Value := .agg #[.int .i64 x.kind, .int .i64 x.at_, .int .i64 x.to, .int .i64 x.lo, .int .i64 x.hi, .int .i64 x.key, .int .i64 x.value]

set_option maxRecDepth 100000 in
set_option maxHeartbeats 1000000 in
theorem ldeed_1 (n0 : Int) (b o c : Nat) (w : World) (hb : b < w.heap.size) (h0 : w.cell? ⟨b, o, none⟩ = some (.int .i64 n0)) :
    Calls Tryd.prog 29 #[.int .i64 1, .slice (some ⟨b, o, none⟩) 1 c] w fun e w' => e = .returned (.agg #[.int .i64 1, .int .i64 n0, .int .i64 0, .int .i64 0, .int .i64 0, .int .i64 0, .int .i64 0]) ∧ Below w.heap.size w w' := by
  go_enter Tryd.func29, Tryd.ntmps29
  go_wp2
  refine bodyPost_ret (v := .agg #[.int .i64 1, .int .i64 n0, .int .i64 0, .int .i64 0, .int .i64 0, .int .i64 0, .int .i64 0]) (by simp [results, Tryd.results29, go_sem]) rfl ⟨rfl, ?_⟩
  exact (by repeat (first | exact Below.refl _ _ | refine Below.alloc ?_ (by first | omega | (simp; done) | (simp; omega)) _ | refine Below.setCell ?_ (by first | omega | (simp; done) | (simp; omega)) _))

set_option maxRecDepth 100000 in
set_option maxHeartbeats 1000000 in
theorem ldeed_2 (n0 n1 n2 : Int) (b o c : Nat) (w : World) (hb : b < w.heap.size) (h0 : w.cell? ⟨b, o, none⟩ = some (.int .i64 n0)) (h1 : w.cell? ⟨b, o + 1, none⟩ = some (.int .i64 n1)) (h2 : w.cell? ⟨b, o + 2, none⟩ = some (.int .i64 n2)) :
    Calls Tryd.prog 29 #[.int .i64 2, .slice (some ⟨b, o, none⟩) 3 c] w fun e w' => e = .returned (.agg #[.int .i64 2, .int .i64 n0, .int .i64 0, .int .i64 n1, .int .i64 n2, .int .i64 0, .int .i64 0]) ∧ Below w.heap.size w w' := by
  go_enter Tryd.func29, Tryd.ntmps29
  go_wp2
  refine bodyPost_ret (v := .agg #[.int .i64 2, .int .i64 n0, .int .i64 0, .int .i64 n1, .int .i64 n2, .int .i64 0, .int .i64 0]) (by simp [results, Tryd.results29, go_sem]) rfl ⟨rfl, ?_⟩
  exact (by repeat (first | exact Below.refl _ _ | refine Below.alloc ?_ (by first | omega | (simp; done) | (simp; omega)) _ | refine Below.setCell ?_ (by first | omega | (simp; done) | (simp; omega)) _))

set_option maxRecDepth 100000 in
set_option maxHeartbeats 1000000 in
theorem ldeed_3 (n0 n1 n2 : Int) (b o c : Nat) (w : World) (hb : b < w.heap.size) (h0 : w.cell? ⟨b, o, none⟩ = some (.int .i64 n0)) (h1 : w.cell? ⟨b, o + 1, none⟩ = some (.int .i64 n1)) (h2 : w.cell? ⟨b, o + 2, none⟩ = some (.int .i64 n2)) :
    Calls Tryd.prog 29 #[.int .i64 3, .slice (some ⟨b, o, none⟩) 3 c] w fun e w' => e = .returned (.agg #[.int .i64 3, .int .i64 n0, .int .i64 0, .int .i64 0, .int .i64 0, .int .i64 n1, .int .i64 n2]) ∧ Below w.heap.size w w' := by
  go_enter Tryd.func29, Tryd.ntmps29
  go_wp2
  refine bodyPost_ret (v := .agg #[.int .i64 3, .int .i64 n0, .int .i64 0, .int .i64 0, .int .i64 0, .int .i64 n1, .int .i64 n2]) (by simp [results, Tryd.results29, go_sem]) rfl ⟨rfl, ?_⟩
  exact (by repeat (first | exact Below.refl _ _ | refine Below.alloc ?_ (by first | omega | (simp; done) | (simp; omega)) _ | refine Below.setCell ?_ (by first | omega | (simp; done) | (simp; omega)) _))

set_option maxRecDepth 100000 in
set_option maxHeartbeats 1000000 in
theorem ldeed_4 (n0 : Int) (b o c : Nat) (w : World) (hb : b < w.heap.size) (h0 : w.cell? ⟨b, o, none⟩ = some (.int .i64 n0)) :
    Calls Tryd.prog 29 #[.int .i64 4, .slice (some ⟨b, o, none⟩) 1 c] w fun e w' => e = .returned (.agg #[.int .i64 4, .int .i64 n0, .int .i64 0, .int .i64 0, .int .i64 0, .int .i64 0, .int .i64 0]) ∧ Below w.heap.size w w' := by
  go_enter Tryd.func29, Tryd.ntmps29
  go_wp2
  refine bodyPost_ret (v := .agg #[.int .i64 4, .int .i64 n0, .int .i64 0, .int .i64 0, .int .i64 0, .int .i64 0, .int .i64 0]) (by simp [results, Tryd.results29, go_sem]) rfl ⟨rfl, ?_⟩
  exact (by repeat (first | exact Below.refl _ _ | refine Below.alloc ?_ (by first | omega | (simp; done) | (simp; omega)) _ | refine Below.setCell ?_ (by first | omega | (simp; done) | (simp; omega)) _))

set_option maxRecDepth 100000 in
set_option maxHeartbeats 1000000 in
theorem ldeed_5 (n0 : Int) (b o c : Nat) (w : World) (hb : b < w.heap.size) (h0 : w.cell? ⟨b, o, none⟩ = some (.int .i64 n0)) :
    Calls Tryd.prog 29 #[.int .i64 5, .slice (some ⟨b, o, none⟩) 1 c] w fun e w' => e = .returned (.agg #[.int .i64 5, .int .i64 n0, .int .i64 0, .int .i64 0, .int .i64 0, .int .i64 0, .int .i64 0]) ∧ Below w.heap.size w w' := by
  go_enter Tryd.func29, Tryd.ntmps29
  go_wp2
  refine bodyPost_ret (v := .agg #[.int .i64 5, .int .i64 n0, .int .i64 0, .int .i64 0, .int .i64 0, .int .i64 0, .int .i64 0]) (by simp [results, Tryd.results29, go_sem]) rfl ⟨rfl, ?_⟩
  exact (by repeat (first | exact Below.refl _ _ | refine Below.alloc ?_ (by first | omega | (simp; done) | (simp; omega)) _ | refine Below.setCell ?_ (by first | omega | (simp; done) | (simp; omega)) _))

set_option maxRecDepth 100000 in
set_option maxHeartbeats 1000000 in
theorem ldeed_6 (n0 : Int) (b o c : Nat) (w : World) (hb : b < w.heap.size) (h0 : w.cell? ⟨b, o, none⟩ = some (.int .i64 n0)) :
    Calls Tryd.prog 29 #[.int .i64 6, .slice (some ⟨b, o, none⟩) 1 c] w fun e w' => e = .returned (.agg #[.int .i64 6, .int .i64 n0, .int .i64 0, .int .i64 0, .int .i64 0, .int .i64 0, .int .i64 0]) ∧ Below w.heap.size w w' := by
  go_enter Tryd.func29, Tryd.ntmps29
  go_wp2
  refine bodyPost_ret (v := .agg #[.int .i64 6, .int .i64 n0, .int .i64 0, .int .i64 0, .int .i64 0, .int .i64 0, .int .i64 0]) (by simp [results, Tryd.results29, go_sem]) rfl ⟨rfl, ?_⟩
  exact (by repeat (first | exact Below.refl _ _ | refine Below.alloc ?_ (by first | omega | (simp; done) | (simp; omega)) _ | refine Below.setCell ?_ (by first | omega | (simp; done) | (simp; omega)) _))

set_option maxRecDepth 100000 in
set_option maxHeartbeats 1000000 in
theorem ldeed_7 (n0 : Int) (b o c : Nat) (w : World) (hb : b < w.heap.size) (h0 : w.cell? ⟨b, o, none⟩ = some (.int .i64 n0)) :
    Calls Tryd.prog 29 #[.int .i64 7, .slice (some ⟨b, o, none⟩) 1 c] w fun e w' => e = .returned (.agg #[.int .i64 7, .int .i64 n0, .int .i64 0, .int .i64 0, .int .i64 0, .int .i64 0, .int .i64 0]) ∧ Below w.heap.size w w' := by
  go_enter Tryd.func29, Tryd.ntmps29
  go_wp2
  refine bodyPost_ret (v := .agg #[.int .i64 7, .int .i64 n0, .int .i64 0, .int .i64 0, .int .i64 0, .int .i64 0, .int .i64 0]) (by simp [results, Tryd.results29, go_sem]) rfl ⟨rfl, ?_⟩
  exact (by repeat (first | exact Below.refl _ _ | refine Below.alloc ?_ (by first | omega | (simp; done) | (simp; omega)) _ | refine Below.setCell ?_ (by first | omega | (simp; done) | (simp; omega)) _))

set_option maxRecDepth 100000 in
set_option maxHeartbeats 1000000 in
theorem ldeed_8 (n0 : Int) (b o c : Nat) (w : World) (hb : b < w.heap.size) (h0 : w.cell? ⟨b, o, none⟩ = some (.int .i64 n0)) :
    Calls Tryd.prog 29 #[.int .i64 8, .slice (some ⟨b, o, none⟩) 1 c] w fun e w' => e = .returned (.agg #[.int .i64 8, .int .i64 n0, .int .i64 0, .int .i64 0, .int .i64 0, .int .i64 0, .int .i64 0]) ∧ Below w.heap.size w w' := by
  go_enter Tryd.func29, Tryd.ntmps29
  go_wp2
  refine bodyPost_ret (v := .agg #[.int .i64 8, .int .i64 n0, .int .i64 0, .int .i64 0, .int .i64 0, .int .i64 0, .int .i64 0]) (by simp [results, Tryd.results29, go_sem]) rfl ⟨rfl, ?_⟩
  exact (by repeat (first | exact Below.refl _ _ | refine Below.alloc ?_ (by first | omega | (simp; done) | (simp; omega)) _ | refine Below.setCell ?_ (by first | omega | (simp; done) | (simp; omega)) _))

set_option maxRecDepth 100000 in
set_option maxHeartbeats 1000000 in
theorem ldeed_9 (n0 : Int) (b o c : Nat) (w : World) (hb : b < w.heap.size) (h0 : w.cell? ⟨b, o, none⟩ = some (.int .i64 n0)) :
    Calls Tryd.prog 29 #[.int .i64 9, .slice (some ⟨b, o, none⟩) 1 c] w fun e w' => e = .returned (.agg #[.int .i64 9, .int .i64 n0, .int .i64 0, .int .i64 0, .int .i64 0, .int .i64 0, .int .i64 0]) ∧ Below w.heap.size w w' := by
  go_enter Tryd.func29, Tryd.ntmps29
  go_wp2
  refine bodyPost_ret (v := .agg #[.int .i64 9, .int .i64 n0, .int .i64 0, .int .i64 0, .int .i64 0, .int .i64 0, .int .i64 0]) (by simp [results, Tryd.results29, go_sem]) rfl ⟨rfl, ?_⟩
  exact (by repeat (first | exact Below.refl _ _ | refine Below.alloc ?_ (by first | omega | (simp; done) | (simp; omega)) _ | refine Below.setCell ?_ (by first | omega | (simp; done) | (simp; omega)) _))

set_option maxRecDepth 100000 in
set_option maxHeartbeats 1000000 in
theorem ldeed_10 (n0 n1 : Int) (b o c : Nat) (w : World) (hb : b < w.heap.size) (h0 : w.cell? ⟨b, o, none⟩ = some (.int .i64 n0)) (h1 : w.cell? ⟨b, o + 1, none⟩ = some (.int .i64 n1)) :
    Calls Tryd.prog 29 #[.int .i64 10, .slice (some ⟨b, o, none⟩) 2 c] w fun e w' => e = .returned (.agg #[.int .i64 10, .int .i64 n0, .int .i64 n1, .int .i64 0, .int .i64 0, .int .i64 0, .int .i64 0]) ∧ Below w.heap.size w w' := by
  go_enter Tryd.func29, Tryd.ntmps29
  go_wp2
  refine bodyPost_ret (v := .agg #[.int .i64 10, .int .i64 n0, .int .i64 n1, .int .i64 0, .int .i64 0, .int .i64 0, .int .i64 0]) (by simp [results, Tryd.results29, go_sem]) rfl ⟨rfl, ?_⟩
  exact (by repeat (first | exact Below.refl _ _ | refine Below.alloc ?_ (by first | omega | (simp; done) | (simp; omega)) _ | refine Below.setCell ?_ (by first | omega | (simp; done) | (simp; omega)) _))

set_option maxRecDepth 100000 in
set_option maxHeartbeats 1000000 in
theorem ldeed_11 (n0 : Int) (b o c : Nat) (w : World) (hb : b < w.heap.size) (h0 : w.cell? ⟨b, o, none⟩ = some (.int .i64 n0)) :
    Calls Tryd.prog 29 #[.int .i64 11, .slice (some ⟨b, o, none⟩) 1 c] w fun e w' => e = .returned (.agg #[.int .i64 11, .int .i64 n0, .int .i64 0, .int .i64 0, .int .i64 0, .int .i64 0, .int .i64 0]) ∧ Below w.heap.size w w' := by
  go_enter Tryd.func29, Tryd.ntmps29
  go_wp2
  refine bodyPost_ret (v := .agg #[.int .i64 11, .int .i64 n0, .int .i64 0, .int .i64 0, .int .i64 0, .int .i64 0, .int .i64 0]) (by simp [results, Tryd.results29, go_sem]) rfl ⟨rfl, ?_⟩
  exact (by repeat (first | exact Below.refl _ _ | refine Below.alloc ?_ (by first | omega | (simp; done) | (simp; omega)) _ | refine Below.setCell ?_ (by first | omega | (simp; done) | (simp; omega)) _))

set_option maxRecDepth 100000 in
set_option maxHeartbeats 1000000 in
theorem ldeed_12 (n0 : Int) (b o c : Nat) (w : World) (hb : b < w.heap.size) (h0 : w.cell? ⟨b, o, none⟩ = some (.int .i64 n0)) :
    Calls Tryd.prog 29 #[.int .i64 12, .slice (some ⟨b, o, none⟩) 1 c] w fun e w' => e = .returned (.agg #[.int .i64 12, .int .i64 n0, .int .i64 0, .int .i64 0, .int .i64 0, .int .i64 0, .int .i64 0]) ∧ Below w.heap.size w w' := by
  go_enter Tryd.func29, Tryd.ntmps29
  go_wp2
  refine bodyPost_ret (v := .agg #[.int .i64 12, .int .i64 n0, .int .i64 0, .int .i64 0, .int .i64 0, .int .i64 0, .int .i64 0]) (by simp [results, Tryd.results29, go_sem]) rfl ⟨rfl, ?_⟩
  exact (by repeat (first | exact Below.refl _ _ | refine Below.alloc ?_ (by first | omega | (simp; done) | (simp; omega)) _ | refine Below.setCell ?_ (by first | omega | (simp; done) | (simp; omega)) _))

set_option maxRecDepth 100000 in
set_option maxHeartbeats 1000000 in
theorem ldeed_13 (n0 : Int) (b o c : Nat) (w : World) (hb : b < w.heap.size) (h0 : w.cell? ⟨b, o, none⟩ = some (.int .i64 n0)) :
    Calls Tryd.prog 29 #[.int .i64 13, .slice (some ⟨b, o, none⟩) 1 c] w fun e w' => e = .returned (.agg #[.int .i64 13, .int .i64 0, .int .i64 0, .int .i64 0, .int .i64 0, .int .i64 n0, .int .i64 0]) ∧ Below w.heap.size w w' := by
  go_enter Tryd.func29, Tryd.ntmps29
  go_wp2
  refine bodyPost_ret (v := .agg #[.int .i64 13, .int .i64 0, .int .i64 0, .int .i64 0, .int .i64 0, .int .i64 n0, .int .i64 0]) (by simp [results, Tryd.results29, go_sem]) rfl ⟨rfl, ?_⟩
  exact (by repeat (first | exact Below.refl _ _ | refine Below.alloc ?_ (by first | omega | (simp; done) | (simp; omega)) _ | refine Below.setCell ?_ (by first | omega | (simp; done) | (simp; omega)) _))

set_option maxRecDepth 100000 in
set_option maxHeartbeats 1000000 in
theorem ldeed_14 (n0 n1 : Int) (b o c : Nat) (w : World) (hb : b < w.heap.size) (h0 : w.cell? ⟨b, o, none⟩ = some (.int .i64 n0)) (h1 : w.cell? ⟨b, o + 1, none⟩ = some (.int .i64 n1)) :
    Calls Tryd.prog 29 #[.int .i64 14, .slice (some ⟨b, o, none⟩) 2 c] w fun e w' => e = .returned (.agg #[.int .i64 14, .int .i64 0, .int .i64 n1, .int .i64 0, .int .i64 0, .int .i64 n0, .int .i64 0]) ∧ Below w.heap.size w w' := by
  go_enter Tryd.func29, Tryd.ntmps29
  go_wp2
  refine bodyPost_ret (v := .agg #[.int .i64 14, .int .i64 0, .int .i64 n1, .int .i64 0, .int .i64 0, .int .i64 n0, .int .i64 0]) (by simp [results, Tryd.results29, go_sem]) rfl ⟨rfl, ?_⟩
  exact (by repeat (first | exact Below.refl _ _ | refine Below.alloc ?_ (by first | omega | (simp; done) | (simp; omega)) _ | refine Below.setCell ?_ (by first | omega | (simp; done) | (simp; omega)) _))

set_option maxRecDepth 100000 in
set_option maxHeartbeats 1000000 in
theorem ldeed_15 (A : Option Addr) (c : Nat) (w : World) :
    Calls Tryd.prog 29 #[.int .i64 15, .slice A 0 c] w fun e w' => e = .returned (.agg #[.int .i64 15, .int .i64 0, .int .i64 0, .int .i64 0, .int .i64 0, .int .i64 0, .int .i64 0]) ∧ Below w.heap.size w w' := by
  go_enter Tryd.func29, Tryd.ntmps29
  go_wp2
  refine bodyPost_ret (v := .agg #[.int .i64 15, .int .i64 0, .int .i64 0, .int .i64 0, .int .i64 0, .int .i64 0, .int .i64 0]) (by simp [results, Tryd.results29, go_sem]) rfl ⟨rfl, ?_⟩
  exact (by repeat (first | exact Below.refl _ _ | refine Below.alloc ?_ (by first | omega | (simp; done) | (simp; omega)) _ | refine Below.setCell ?_ (by first | omega | (simp; done) | (simp; omega)) _))

theorem ldeed (k : Int) (hk : 1 ≤ k ∧ k ≤ 15) (ns : List Int) (lo : Nat) (v : Value) (w : World) (hl : ns.length = (kform k).length) (h : SlR 1 RInt lo w v ns) :
    Calls Tryd.prog 29 #[.int .i64 k, v] w fun e w' => e = .returned (deedV (deedWith k ns)) ∧ Below w.heap.size w w' := by
  obtain ⟨A, c, rfl, _⟩ := h.form
  rcases kinds15 hk with rfl | rfl | rfl | rfl | rfl | rfl | rfl | rfl | rfl | rfl | rfl | rfl | rfl | rfl | rfl
  · have hl' : ns.length = 1 := hl
    obtain ⟨n0, rfl⟩ := len_1 hl'
    obtain ⟨b, o, rfl, _, hb, hc⟩ := h.cells (by simp)
    exact ldeed_1 n0 b o c w hb (hc 0 n0 rfl)
  · have hl' : ns.length = 3 := hl
    obtain ⟨n0, n1, n2, rfl⟩ := len_3 hl'
    obtain ⟨b, o, rfl, _, hb, hc⟩ := h.cells (by simp)
    exact ldeed_2 n0 n1 n2 b o c w hb (hc 0 n0 rfl) (hc 1 n1 rfl) (hc 2 n2 rfl)
  · have hl' : ns.length = 3 := hl
    obtain ⟨n0, n1, n2, rfl⟩ := len_3 hl'
    obtain ⟨b, o, rfl, _, hb, hc⟩ := h.cells (by simp)
    exact ldeed_3 n0 n1 n2 b o c w hb (hc 0 n0 rfl) (hc 1 n1 rfl) (hc 2 n2 rfl)
  · have hl' : ns.length = 1 := hl
    obtain ⟨n0, rfl⟩ := len_1 hl'
    obtain ⟨b, o, rfl, _, hb, hc⟩ := h.cells (by simp)
    exact ldeed_4 n0 b o c w hb (hc 0 n0 rfl)
  · have hl' : ns.length = 1 := hl
    obtain ⟨n0, rfl⟩ := len_1 hl'
    obtain ⟨b, o, rfl, _, hb, hc⟩ := h.cells (by simp)
    exact ldeed_5 n0 b o c w hb (hc 0 n0 rfl)
  · have hl' : ns.length = 1 := hl
    obtain ⟨n0, rfl⟩ := len_1 hl'
    obtain ⟨b, o, rfl, _, hb, hc⟩ := h.cells (by simp)
    exact ldeed_6 n0 b o c w hb (hc 0 n0 rfl)
  · have hl' : ns.length = 1 := hl
    obtain ⟨n0, rfl⟩ := len_1 hl'
    obtain ⟨b, o, rfl, _, hb, hc⟩ := h.cells (by simp)
    exact ldeed_7 n0 b o c w hb (hc 0 n0 rfl)
  · have hl' : ns.length = 1 := hl
    obtain ⟨n0, rfl⟩ := len_1 hl'
    obtain ⟨b, o, rfl, _, hb, hc⟩ := h.cells (by simp)
    exact ldeed_8 n0 b o c w hb (hc 0 n0 rfl)
  · have hl' : ns.length = 1 := hl
    obtain ⟨n0, rfl⟩ := len_1 hl'
    obtain ⟨b, o, rfl, _, hb, hc⟩ := h.cells (by simp)
    exact ldeed_9 n0 b o c w hb (hc 0 n0 rfl)
  · have hl' : ns.length = 2 := hl
    obtain ⟨n0, n1, rfl⟩ := len_2 hl'
    obtain ⟨b, o, rfl, _, hb, hc⟩ := h.cells (by simp)
    exact ldeed_10 n0 n1 b o c w hb (hc 0 n0 rfl) (hc 1 n1 rfl)
  · have hl' : ns.length = 1 := hl
    obtain ⟨n0, rfl⟩ := len_1 hl'
    obtain ⟨b, o, rfl, _, hb, hc⟩ := h.cells (by simp)
    exact ldeed_11 n0 b o c w hb (hc 0 n0 rfl)
  · have hl' : ns.length = 1 := hl
    obtain ⟨n0, rfl⟩ := len_1 hl'
    obtain ⟨b, o, rfl, _, hb, hc⟩ := h.cells (by simp)
    exact ldeed_12 n0 b o c w hb (hc 0 n0 rfl)
  · have hl' : ns.length = 1 := hl
    obtain ⟨n0, rfl⟩ := len_1 hl'
    obtain ⟨b, o, rfl, _, hb, hc⟩ := h.cells (by simp)
    exact ldeed_13 n0 b o c w hb (hc 0 n0 rfl)
  · have hl' : ns.length = 2 := hl
    obtain ⟨n0, n1, rfl⟩ := len_2 hl'
    obtain ⟨b, o, rfl, _, hb, hc⟩ := h.cells (by simp)
    exact ldeed_14 n0 n1 b o c w hb (hc 0 n0 rfl) (hc 1 n1 rfl)
  · have hl' : ns.length = 0 := hl
    obtain rfl : ns = [] := List.eq_nil_of_length_eq_zero hl'
    exact ldeed_15 A c w
end Go.Proofs.YtdejncnjaebjfaaDoor
