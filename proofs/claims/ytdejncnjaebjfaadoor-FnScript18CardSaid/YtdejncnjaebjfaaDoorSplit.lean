/-
  strings.Split at a space: the words of a line.
-/
import Derived.Test.YtdejncnjaebjfaaDoorShelf
import Derived.Test.YtdejncnjaebjfaaDoorWordsS
import Derived.Lib.SplitLaws
namespace Go.Proofs.YtdejncnjaebjfaaDoor
set_option linter.unusedVariables false
set_option linter.unusedSimpArgs false
open Go.ChangeShapes Go.WideShapes Go.ChangeAt Go.RowKit

theorem split_bs (l : List UInt8) : Lib.splitB (bs [32]) 0 (Lib.countB (bs l) (bs [32])) (bs l) = (wordsOf l).map bs := by
  have h := Lib.splitB_data (bs [32]) 0 (Lib.countB (bs l) (bs [32])) (bs l)
  have h2 : Lib.splitK (bs [32]).data.toList 0 (Lib.countB (bs l) (bs [32])) (bs l).data.toList = wordsOf l := by
    rw [← split_eq l]
    unfold Lib.split Lib.countB
    simp [bs]
  rw [h2] at h
  have hb : ∀ x : ByteArray, bs x.data.toList = x := fun x => by simp [bs]
  rw [← h, List.map_map]
  conv => lhs; rw [← List.map_id (Lib.splitB (bs [32]) 0 (Lib.countB (bs l) (bs [32])) (bs l))]
  apply List.map_congr_left
  intro x _
  exact (hb x).symm
theorem split_len (l : List UInt8) : Lib.countB (bs l) (bs [32]) + 1 = (wordsOf l).length := by
  have h := Lib.splitB_all (bs [32]) (by simp [bs, ByteArray.size]) 0 _ (bs l) rfl
  rw [split_bs, List.length_map] at h
  exact h.symm
theorem isplit (l : List UInt8) (w : World) (m : Int) (hm : w.cell? ⟨0, 0, none⟩ = some (.int .i64 m)) (hl : l.length ≤ 20000) :
    Calls Tryd.prog 30 #[.string (bs l), .string (bs [32])] w fun e w' => ∃ v, e = .returned v ∧ SlR 1 RStr w.heap.size w' v (wordsOf l) ∧ Below w.heap.size w w' := by
  refine (Tryd.strings_Split (bs l) (bs [32]) m w (by simp [bs, ByteArray.size]; omega) hm (by simp [bs, ByteArray.size])).mono ?_
  rintro e w' ⟨rfl, rfl⟩
  rw [split_len, split_bs]
  refine ⟨_, rfl, ?_, (Below.refl _ _).alloc (Nat.le_refl _) _⟩
  have hw := words_sum l
  refine ⟨_, _, rfl, Nat.le_refl _, by omega, fun i x hx => ⟨w.heap.size, 0, [.string (bs x)], rfl, Nat.le_refl _, rfl, fun j u hu => ?_, rfl, by have := hw.1 x (List.mem_of_getElem? hx); omega⟩⟩
  have hj : j = 0 := by
    have := (List.getElem?_eq_some_iff.1 hu).1
    simpa using this
  subst hj
  simp at hu
  subst hu
  rw [Nat.zero_add, Nat.mul_one, Nat.add_zero]
  have hn := heap_alloc_new w (Obj.cells (List.map Value.string (List.map bs (wordsOf l))).toArray 9)
  generalize w.alloc (Obj.cells (List.map Value.string (List.map bs (wordsOf l))).toArray 9) = W at hn
  simp [World.cell?, hn, hx]
end Go.Proofs.YtdejncnjaebjfaaDoor
