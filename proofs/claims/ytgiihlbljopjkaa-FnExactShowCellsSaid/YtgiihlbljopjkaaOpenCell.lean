/-
  Cells that came in.
-/
import Derived.Test.YtgiihlbljopjkaaOpens
import Derived.Test.YtgiihlbljopjkaaCell
namespace Go.Proofs.Ytgiihlbljopjkaa
open Go.ChangeShapes Go.WideShapes Go.ChangeAt Go.RowKit Go.Deep
theorem cellsInt : Try.prog.cellsOf 3 = 1 := by kernel_rfl
theorem cellsCell : Try.prog.cellsOf 57 = 2 := by kernel_rfl
theorem opens_Cell : Opens Try.prog 57 RCell := by
  intro H enc W base spare held fuel cs y h
  obtain ⟨xs, n, _, _, hlen, hl, hg⟩ := DataW.trod_struct Try.underlying57 h
  rw [cellsCell] at hlen
  match cs, hlen with
  | [c0, c1], _ =>
    obtain ⟨y0, g0⟩ := opens_field hl hg 0 3 1 0 rfl cellsInt
    obtain ⟨y1, g1⟩ := opens_field hl hg 1 3 1 1 rfl cellsInt
    obtain ⟨a0, e0, _, w0⟩ := DataW.trod_int Try.underlying3 g0
    obtain ⟨a1, e1, _, w1⟩ := DataW.trod_int Try.underlying3 g1
    simp at e0 e1
    subst e0 e1
    exact ⟨⟨a0, a1⟩, rfl, i64_wf w0, i64_wf w1⟩
theorem arg_Cells {H : Type} {enc : TypeId × Value → H} {W : World} {base : Nat} {spare : Nat → Bool} {held : Bool} {A : Option Addr} {n c : Nat} {d : DataW H} {p : List MemPlace}
    (hy : DataW.Trod enc Try.prog W base spare held 31 (.slice A n c) d p) : ∃ xs, SlR 2 RCell 0 W (.slice A n c) xs :=
  opens_arg Try.underlying31 cellsCell (by omega) opens_Cell rfl hy
end Go.Proofs.Ytgiihlbljopjkaa
