/-
  What a law is told of its arguments: slices of bytes as the walks want them.
-/
import Derived.Test.YtdejncnjaebjfaaDoorDrawD
namespace Go.Proofs.YtdejncnjaebjfaaDoor
open Go.ChangeShapes Go.WideShapes Go.ChangeAt Go.RowKit

theorem u8_of {a : Int} (h : (Lit.int .u8 a).wf = true) : 0 ≤ a ∧ a ≤ 255 := by
  simpa [Lit.wf, IntKind.min, IntKind.max, IntKind.signed, IntKind.bits] using h

/-- a slice of bytes that came in -/
theorem bytes_of {H : Type} {enc : TypeId × Value → H} {W : World} {spare : Nat → Bool} {held : Bool} {base : Nat} {a0 : Option Addr} {len0 cap0 : Nat} {d : DataW H} {p : List MemPlace}
    (h : DataW.Trod enc Tryd.prog W base spare held 33 (.slice a0 len0 cap0) d p) : (len0 : Int) ≤ 9223372036854775807 ∧ BytesAt W.heap.size W a0 len0 := by
  obtain ⟨fuel, hf⟩ := h
  rcases open_ints Tryd.underlying33 Tryd.underlying5 (by kernel_rfl) hf with ⟨hcs, _⟩ | ⟨x, l, c, zs, hcs, _, hl, hm, hz, _, hcell, hwz⟩
  · simp [Value.cells] at hcs
    obtain ⟨rfl, rfl, rfl⟩ := hcs
    exact ⟨by simp, fun k hk => by omega⟩
  · simp [Value.cells] at hcs
    obtain ⟨rfl, rfl, rfl⟩ := hcs
    unfold maxLen at hm
    refine ⟨by omega, fun k hk => ?_⟩
    have hz' : len0 ≤ zs.length := by rw [hz]; split <;> omega
    have hg : zs.getD k 0 = zs[k]'(by omega) := by rw [List.getD_eq_getElem?_getD, List.getElem?_eq_getElem (by omega)]; rfl
    have hc := hcell k (by omega)
    have hw := u8_of (hwz (zs[k]'(by omega)) (List.getElem_mem _))
    have hlt := cell_lt hc
    rw [block_add] at hlt
    exact ⟨_, _, rfl, hlt, hc, by rw [hg]; exact hw.1, by rw [hg]; exact hw.2⟩
end Go.Proofs.YtdejncnjaebjfaaDoor
