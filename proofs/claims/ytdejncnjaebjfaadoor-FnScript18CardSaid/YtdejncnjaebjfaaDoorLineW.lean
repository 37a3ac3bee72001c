/-
  The contracts of l18Name, l18Nums, deedWord, place: the words and numbers of deeds.
-/
import Derived.Test.YtdejncnjaebjfaaDoorDeedB
import Derived.Test.YtdejncnjaebjfaaDoorLineP
import Derived.Test.YtdejncnjaebjfaaDoorText
namespace Go.Proofs.YtdejncnjaebjfaaDoor
set_option linter.unusedVariables false
set_option linter.unusedSimpArgs false
open Go.ChangeShapes Go.WideShapes Go.ChangeAt Go.RowKit

set_option maxHeartbeats 1000000 in
theorem sname (k : Int) (w : World) (hk : 1 ≤ k ∧ k ≤ 15) :
    Calls Tryd.prog 26 #[.int .i64 k] w fun e w' => e = .returned (.string (bs (kname k))) ∧ Below w.heap.size w w' := by
  rcases kinds15 hk with rfl | rfl | rfl | rfl | rfl | rfl | rfl | rfl | rfl | rfl | rfl | rfl | rfl | rfl | rfl
  all_goals
    go_enter Tryd.func26, Tryd.ntmps26
    go_wp2
    go_ret
    exact ⟨rfl, (Below.refl _ _).alloc (Nat.le_refl _) _⟩

theorem iword (k : Int) (w : World) (hk : 1 ≤ k ∧ k ≤ 15) :
    Calls Tryd.prog 31 #[.int .i64 k] w fun e w' => e = .returned (.tuple #[.string (bs (kname k)), .string (bs (kform k))]) ∧ w = w' := by
  rcases kinds15 hk with rfl | rfl | rfl | rfl | rfl | rfl | rfl | rfl | rfl | rfl | rfl | rfl | rfl | rfl | rfl
  all_goals
    go_enter Tryd.func31, Tryd.ntmps31
    go_wp2
    go_ret2
    exact ⟨rfl, rfl⟩

theorem iplace (b : Nat) (c : Int) (w : World) (hc : c = 65 ∨ c = 84 ∨ c = 76 ∨ c = 72 ∨ c = 75 ∨ c = 86) :
    Calls Tryd.prog 33 #[.pointer (some ⟨b, 0, none⟩), .int .u8 c] w fun e w' => e = .returned (.pointer (some ⟨b, koff c, none⟩)) ∧ w = w' := by
  rcases hc with rfl | rfl | rfl | rfl | rfl | rfl
  all_goals
    go_enter Tryd.func33, Tryd.ntmps33
    go_wp2
    go_ret
    exact ⟨rfl, rfl⟩

/-- a list of ints that lies in a new block -/
theorem ints_new (w : World) (l : List Int) (h : ∀ n ∈ l, I64 n) (hl : l.length ≤ 1000) (lo : Nat) (hlo : lo ≤ w.heap.size) :
    SlR 1 RInt lo (w.alloc (.cells (l.map (Value.int .i64)).toArray 3)) (.slice (some ⟨w.heap.size, 0, none⟩) l.length l.length) l := by
  refine ⟨_, _, rfl, Nat.le_refl _, by omega, fun i x hx => ?_⟩
  refine ⟨w.heap.size, 0, [.int .i64 x], rfl, hlo, rfl, fun j u hu => ?_, rfl, h x (List.mem_of_getElem? hx)⟩
  have hj : j = 0 := by
    have := (List.getElem?_eq_some_iff.1 hu).1
    simpa using this
  subst hj
  simp at hu
  subst hu
  rw [Nat.zero_add, Nat.mul_one, Nat.add_zero, World.cell?_alloc_new]
  simp [hx]

theorem ints_at {W : World} {l : List Int} {g n c : Nat} {cs : Array Value} (hg : g = W.heap.size) (hc : cs = (l.map (Value.int .i64)).toArray) (hn : n = l.length) (hcn : c = l.length) (h : ∀ n ∈ l, I64 n) (hl : l.length ≤ 1000) (lo : Nat) (hlo : lo ≤ W.heap.size) :
    SlR 1 RInt lo (W.alloc (.cells cs 3)) (.slice (some ⟨g, 0, none⟩) n c) l := by
  subst hg hc hn hcn
  exact ints_new W l h hl lo hlo

set_option maxRecDepth 100000 in
set_option maxHeartbeats 1000000 in
theorem snums (x : MDeed) (w : World) (hx : x.wf) (hk : 1 ≤ x.kind ∧ x.kind ≤ 15) :
    Calls Tryd.prog 27 #[.agg #[.int .i64 x.kind, .int .i64 x.at_, .int .i64 x.to, .int .i64 x.lo, .int .i64 x.hi, .int .i64 x.key, .int .i64 x.value]] w fun e w' => ∃ v, e = .returned v ∧ SlR 1 RInt w.heap.size w' v (nums x) ∧ Below w.heap.size w w' := by
  have hw := nums_wf hx
  have hl := nums_len x
  have HW := Lib.hid hw; have HLN := Lib.hid hl; clear hw hl hx
  obtain ⟨k, a, t, l, h, y, v⟩ := x
  rcases kinds15 hk with e | e | e | e | e | e | e | e | e | e | e | e | e | e | e
  all_goals
    simp only at e
    subst e
    go_enter Tryd.func27, Tryd.ntmps27
    go_wp2
    go_ret
    exact ⟨_, rfl, ints_at (by simp) rfl rfl rfl HW.out (by have := HLN.out; omega) w.heap.size (by simp), ((Below.refl _ _).alloc (Nat.le_refl _) _).alloc (by simp) _⟩
end Go.Proofs.YtdejncnjaebjfaaDoor
