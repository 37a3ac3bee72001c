/-
  The text of a number: contracts of TextOf of both.
-/
import Derived.Test.YtchceahcaaibcaaGreatRun
import Derived.Test.YtchceahcaaibcaaGreatText
namespace Go.Proofs.YtchceahcaaibcaaGreat
open Go.RowKit (Below)
set_option linter.unusedSimpArgs false
set_option linter.unusedVariables false

theorem arg_int {P : Program} {w : World} {prot : Nat → Nat} {p : List D} {vs : Array Value} (h : ArgsV P prot w [⟨ri, p⟩] vs) : vs = #[.int .i64 (gd p 0).int] := by
  obtain ⟨u, hu, hv⟩ := h.2 0 _ rfl
  have hv : VD P w prot (.int .i64) (gd p 0) u := hv
  cases hv
  have hs : vs.size = 1 := h.1
  refine Array.ext (by simpa using hs) fun i h1 h2 => ?_
  have : i = 0 := by omega
  subst this
  rw [Array.getElem?_eq_getElem h1] at hu
  injection hu
theorem res_str {P : Program} {prot : Nat → Nat} {w w' : World} {l : List UInt8} (hfr : ∀ b, w.heap.size ≤ b → prot b = 0) (hb : Below w.heap.size w w') : Res P prot w w' ⟨sd .str, [.s l]⟩ (.string (bs l)) (g0 prot) :=
  ⟨hb, VD.str (.s l), fun _ _ => rfl, fun b hb' => ⟨hfr b (Nat.le_trans hb.size hb'), rfl⟩⟩
def numSmall (x : Int) : Bool := leI (-1000000000000000) x && leI x 1000000000000000
theorem i_Text_snd : ∀ p : List D, numSmall (gd p 0).int = true → SoundFn Tryz.prog 91 [⟨ri, p⟩] ⟨sd .str, [.s (txt (gd p 0).int)]⟩ := fun p h => by
  simp only [numSmall, leI, Bool.and_eq_true, decide_eq_true_eq] at h
  refine SoundFn.of rfl ⟨enters Tryz.func91 (by kernel_rfl) (by kernel_rfl), fun w prot vs hargs hfr => ?_⟩
  rw [arg_int hargs]
  refine (itext (gd p 0).int w (by omega) (by omega)).mono ?_
  rintro e w' ⟨rfl, rfl⟩
  exact ⟨_, _, rfl, res_str hfr (Below.refl _ _)⟩
theorem s_Text_snd : ∀ p : List D, numSmall (gd p 0).int = true → SoundFn Tryz.prog 89 [⟨ri, p⟩] ⟨sd .str, [.s (txt (gd p 0).int)]⟩ := fun p h => by
  simp only [numSmall, leI, Bool.and_eq_true, decide_eq_true_eq] at h
  refine SoundFn.of rfl ⟨enters Tryz.func89 (by kernel_rfl) (by kernel_rfl), fun w prot vs hargs hfr => ?_⟩
  rw [arg_int hargs]
  refine (stext (gd p 0).int w (by omega) (by omega)).mono ?_
  rintro e w' ⟨rfl, hb⟩
  exact ⟨_, _, rfl, res_str hfr hb⟩
def i_TextOfE : Ent := (91, e1 ri fun p => (⟨sd .str, [.s (txt (gd p 0).int)]⟩, numSmall (gd p 0).int))
theorem i_TextOf_ok : EntOk Tryz.prog i_TextOfE := e1_ok i_Text_snd
def s_TextOfE : Ent := (89, e1 ri fun p => (⟨sd .str, [.s (txt (gd p 0).int)]⟩, numSmall (gd p 0).int))
theorem s_TextOf_ok : EntOk Tryz.prog s_TextOfE := e1_ok s_Text_snd
end Go.Proofs.YtchceahcaaibcaaGreat
