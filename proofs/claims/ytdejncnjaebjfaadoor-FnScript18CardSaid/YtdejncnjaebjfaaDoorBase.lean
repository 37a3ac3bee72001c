/-
  Words for the walks: strings as lists of bytes, in one normal form; small laws on endings.
-/
import Derived.Test.YtdejncnjaebjfaaDoorProg
import Derived.Test.YtdejncnjaebjfaaDoorPlainA
import Derived.WalkKit
import Derived.ProofKit
import Derived.OpenShut
import Derived.ShutString
import Derived.Outline
import Derived.BigQuiet
import Derived.Deep.QuietTactic
import Derived.Lib.Hide
namespace Go.Proofs.YtdejncnjaebjfaaDoor
set_option linter.unusedVariables false
set_option linter.unusedSimpArgs false
open Go.ChangeShapes Go.WideShapes Go.ChangeAt Go.RowKit

/-- a byte of a list, as a number -/
def bAt (l : List UInt8) (i : Nat) : Int := ((l.getD i 0).toNat : Int)
theorem bAt_lt (l : List UInt8) (i : Nat) : 0 ≤ bAt l i ∧ bAt l i ≤ 255 := by
  unfold bAt
  have := (l.getD i 0).toNat_lt
  omega
theorem bAt_drop (l : List UInt8) (f i : Nat) : bAt (l.drop f) i = bAt l (f + i) := by
  unfold bAt
  simp [List.getD_eq_getElem?_getD]
theorem bAt_zero (l : List UInt8) : bAt l 0 = match l with | [] => 0 | c :: _ => (c.toNat : Int) := by
  cases l <;> rfl

theorem bs_mk (a : Array UInt8) : ByteArray.mk a = bs a.toList := by unfold bs; simp
theorem bs_get (l : List UInt8) (i : Nat) (h : i < (bs l).size) : ((((bs l)[i]'h).toNat : Nat) : Int) = bAt l i := by
  have h' : i < l.length := by rw [bs_size] at h; exact h
  unfold bAt
  rw [List.getD_eq_getElem?_getD, List.getElem?_eq_getElem h']
  rfl
theorem bs_extract (l : List UInt8) (i j : Nat) : (bs l).extract i j = bs ((l.take j).drop i) := by
  unfold bs
  rw [ByteArray.ext_iff]
  simp [List.extract_eq_take_drop, List.drop_take]
theorem bs_toList (l : List UInt8) : (bs l).toList = l := by
  rw [ByteArray.toList_eq]; simp [bs]

attribute [go_sem] bs_mk bs_get bs_extract bs_toList bs_size bs_app

theorem ret_str {a b : ByteArray} (h : a = b) : Ending.returned (.string a) = .returned (.string b) := by rw [h]
theorem ret_bs {a b : List UInt8} (h : a = b) : Ending.returned (.string (bs a)) = .returned (.string (bs b)) := by rw [h]
theorem ret_bool {a b : Bool} (h : a = b) : Ending.returned (.bool a) = .returned (.bool b) := by rw [h]
theorem ret_i64 {a b : Int} (h : a = b) : Ending.returned (.int .i64 a) = .returned (.int .i64 b) := by rw [h]
theorem i64_of {a : Int} (h : (Lit.int .i64 a).wf = true) : -9223372036854775808 ≤ a ∧ a ≤ 9223372036854775807 := by
  simpa [Lit.wf, IntKind.min, IntKind.max, IntKind.signed, IntKind.bits] using h

/-- what lay there before reads as before: the two rules that the walk uses by itself -/
theorem bcell {W w1 : World} (hb : Below W.heap.size W w1) : (∀ b o, b < W.heap.size → w1.cell? ⟨b, o, none⟩ = W.cell? ⟨b, o, none⟩) ∧ (∀ b o, b < W.heap.size → w1.frozen? ⟨b, o, none⟩ = W.frozen? ⟨b, o, none⟩) :=
  ⟨fun b o h => hb.cell (p := ⟨b, o, none⟩) h, fun b o h => hb.frozen (p := ⟨b, o, none⟩) h⟩

end Go.Proofs.YtdejncnjaebjfaaDoor
