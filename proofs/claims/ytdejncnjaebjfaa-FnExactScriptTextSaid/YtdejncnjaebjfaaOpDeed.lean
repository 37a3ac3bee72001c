/-
  Deed: the Lean data of these structs, how cells read as them, and what the laws' helpers on them do. Written by gen.py.
-/
import Derived.Test.YtdejncnjaebjfaaOpens
import Derived.Test.YtdejncnjaebjfaaTyDeed
namespace Go.Proofs.Ytdejncnjaebjfaa
open Go.ChangeShapes Go.WideShapes Go.ChangeAt Go.RowKit Go.Deep
set_option maxRecDepth 100000
set_option linter.unusedVariables false

theorem cells_Deed : Try.prog.cellsOf 23 = 7 := by kernel_rfl
set_option maxRecDepth 100000 in
theorem opens_Deed : Opens Try.prog 23 RDeed := by
  intro H enc W base spare held fuel cs y h
  obtain ⟨xs, n, _, _, hlen, hl, hg⟩ := DataW.trod_struct Try.underlying23 h
  rw [cells_Deed] at hlen
  match cs, hlen with
  | [c0, c1, c2, c3, c4, c5, c6], _ =>
    obtain ⟨y0, g0⟩ := opens_field hl hg 0 3 1 0 rfl cells_int
    obtain ⟨a0, e0, _, w0⟩ := DataW.trod_int Try.underlying3 g0
    simp at e0; subst e0
    obtain ⟨y1, g1⟩ := opens_field hl hg 1 3 1 1 rfl cells_int
    obtain ⟨a1, e1, _, w1⟩ := DataW.trod_int Try.underlying3 g1
    simp at e1; subst e1
    obtain ⟨y2, g2⟩ := opens_field hl hg 2 3 1 2 rfl cells_int
    obtain ⟨a2, e2, _, w2⟩ := DataW.trod_int Try.underlying3 g2
    simp at e2; subst e2
    obtain ⟨y3, g3⟩ := opens_field hl hg 3 3 1 3 rfl cells_int
    obtain ⟨a3, e3, _, w3⟩ := DataW.trod_int Try.underlying3 g3
    simp at e3; subst e3
    obtain ⟨y4, g4⟩ := opens_field hl hg 4 3 1 4 rfl cells_int
    obtain ⟨a4, e4, _, w4⟩ := DataW.trod_int Try.underlying3 g4
    simp at e4; subst e4
    obtain ⟨y5, g5⟩ := opens_field hl hg 5 3 1 5 rfl cells_int
    obtain ⟨a5, e5, _, w5⟩ := DataW.trod_int Try.underlying3 g5
    simp at e5; subst e5
    obtain ⟨y6, g6⟩ := opens_field hl hg 6 3 1 6 rfl cells_int
    obtain ⟨a6, e6, _, w6⟩ := DataW.trod_int Try.underlying3 g6
    simp at e6; subst e6
    exact ⟨⟨a0, a1, a2, a3, a4, a5, a6⟩, rfl, i64_wf w0, i64_wf w1, i64_wf w2, i64_wf w3, i64_wf w4, i64_wf w5, i64_wf w6⟩
set_option maxRecDepth 100000 in
theorem arg_DeedS {H : Type} {enc : TypeId × Value → H} {W : World} {base : Nat} {spare : Nat → Bool} {held : Bool} {S : TypeId} (hS : Try.prog.underlying S = some (.slice 23)) {A : Option Addr} {n c : Nat} {d : DataW H} {p : List MemPlace}
    (hy : DataW.Trod enc Try.prog W base spare held S (.slice A n c) d p) : ∃ xs, SlR 7 RDeed 0 W (.slice A n c) xs := opens_arg hS cells_Deed (by omega) opens_Deed rfl hy
set_option maxRecDepth 100000 in
theorem val_Deed {H : Type} {enc : TypeId × Value → H} {W : World} {base : Nat} {spare : Nat → Bool} {held : Bool} {r : Reach} {b0 : Nat} {v : Value} {d : DataW H} {p : List MemPlace}
    (hv : Value.okWide Try.prog W r b0 23 v) (hy : DataW.Trod enc Try.prog W base spare held 23 v d p) : ∃ (x : MDeed), v = .agg #[.int .i64 x.kind, .int .i64 x.at_, .int .i64 x.to, .int .i64 x.lo, .int .i64 x.hi, .int .i64 x.key, .int .i64 x.value] ∧ x.wf := by
  obtain ⟨cs, x, rfl, h⟩ := opens_val Try.underlying23 opens_Deed hv hy
  obtain ⟨e, hw⟩ := h
  exact ⟨x, by rw [← e], hw⟩

end Go.Proofs.Ytdejncnjaebjfaa
