/-
  Deed: the Lean data of these structs, how cells read as them, and what the laws' helpers on them do. Written by gen.py.
-/
import Derived.Test.YtdejncnjaebjfaaDoorMem
namespace Go.Proofs.YtdejncnjaebjfaaDoor
set_option linter.unusedSimpArgs false
open Go.ChangeShapes Go.WideShapes Go.ChangeAt Go.RowKit
set_option linter.unusedVariables false

structure MDeed where
  kind : Int
  at_ : Int
  to : Int
  lo : Int
  hi : Int
  key : Int
  value : Int
def MDeed.wf (x : MDeed) : Prop := I64 x.kind ∧ I64 x.at_ ∧ I64 x.to ∧ I64 x.lo ∧ I64 x.hi ∧ I64 x.key ∧ I64 x.value
def RDeed : Rel MDeed := fun _ _ cs x => cs = [.int .i64 x.kind, .int .i64 x.at_, .int .i64 x.to, .int .i64 x.lo, .int .i64 x.hi, .int .i64 x.key, .int .i64 x.value] ∧ x.wf
theorem RDeed.ok : RelOk RDeed := ⟨fun h _ => h, fun h _ => h⟩
theorem SlR.getDeed {lo : Nat} {w w' : World} {A : Option Addr} {n c : Nat} {xs : List MDeed} (h : SlR 7 RDeed lo w (.slice A n c) xs) (ha : Agree lo w w') {i : Nat} (hi : i < xs.length) :
    ∃ (x : MDeed) (b o : Nat), xs[i]? = some x ∧ A = some ⟨b, o, none⟩ ∧ lo ≤ b ∧ b < w.heap.size ∧ b < w'.heap.size ∧ w'.cell? ⟨b, o + i * 7, none⟩ = some (.int .i64 x.kind) ∧ w'.cell? ⟨b, o + i * 7 + 1, none⟩ = some (.int .i64 x.at_) ∧ w'.cell? ⟨b, o + i * 7 + 2, none⟩ = some (.int .i64 x.to) ∧ w'.cell? ⟨b, o + i * 7 + 3, none⟩ = some (.int .i64 x.lo) ∧ w'.cell? ⟨b, o + i * 7 + 4, none⟩ = some (.int .i64 x.hi) ∧ w'.cell? ⟨b, o + i * 7 + 5, none⟩ = some (.int .i64 x.key) ∧ w'.cell? ⟨b, o + i * 7 + 6, none⟩ = some (.int .i64 x.value) ∧ x.wf := by
  obtain ⟨x, b, o, cs, hx, e, hlo, _, hc, hr, hw⟩ := h.get RDeed.ok ha hi
  subst hr
  have h0 := hc 0 _ rfl
  exact ⟨x, b, o, hx, e, hlo, h.blt e hi (by omega), cell_lt h0, h0, hc 1 _ rfl, hc 2 _ rfl, hc 3 _ rfl, hc 4 _ rfl, hc 5 _ rfl, hc 6 _ rfl, hw⟩

end Go.Proofs.YtdejncnjaebjfaaDoor
