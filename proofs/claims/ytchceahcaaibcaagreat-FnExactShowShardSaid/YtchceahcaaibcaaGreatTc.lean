/-
  Cells as text: contracts of ShowCells of both.
-/
import Derived.Test.YtchceahcaaibcaaGreatTx
import Derived.Test.YtchceahcaaibcaaGreatHShowS
namespace Go.Proofs.YtchceahcaaibcaaGreat
open Go.RowKit (Below)
set_option linter.unusedSimpArgs false
set_option linter.unusedVariables false

def toCells (z : D) : List H.Cell := z.rows.map fun r => ⟨(gd r 0).int, (gd r 1).int⟩
def cellsT (z : D) : List UInt8 := H.showCells (toCells z)
def cellsSm (z : D) : Bool := leI (z.rows.length : Int) 1000000 && (List.range z.rows.length).all fun k => numSmall (gd (z.rows.getD k []) 0).int && numSmall (gd (z.rows.getD k []) 1).int
theorem cellsSm_at {z : D} (h : cellsSm z = true) : z.rows.length ≤ 1000000 ∧ ∀ x ∈ toCells z, x.wf := by
  unfold cellsSm at h
  simp only [Bool.and_eq_true, leI, decide_eq_true_eq, List.all_eq_true, List.mem_range] at h
  refine ⟨by omega, fun x hx => ?_⟩
  obtain ⟨r, hr, rfl⟩ := List.mem_map.1 hx
  obtain ⟨k, hk, rfl⟩ := List.getElem_of_mem hr
  have := h.2 k hk
  rw [List.getD_eq_getElem?_getD, List.getElem?_eq_getElem hk] at this
  simp only [numSmall, leI, Bool.and_eq_true, decide_eq_true_eq, Option.getD_some] at this
  exact ⟨⟨by show _ ≤ (gd _ 0).int; omega, by show (gd _ 0).int ≤ _; omega⟩, ⟨by show _ ≤ (gd _ 1).int; omega, by show (gd _ 1).int ≤ _; omega⟩⟩
theorem arg_sl {P : Program} {w : World} {prot : Nat → Nat} {p : List D} {vs : Array Value} {e : TypeId} (h : ArgsV P prot w [⟨sd (.sl e), p⟩] vs) : ∃ u, vs = #[u] ∧ VD P w prot (.sl e) (gd p 0) u := by
  obtain ⟨u, hu, hv⟩ := h.2 0 _ rfl
  refine ⟨u, ?_, hv⟩
  have hs : vs.size = 1 := h.1
  refine Array.ext (by simpa using hs) fun i h1 h2 => ?_
  have : i = 0 := by omega
  subst this
  rw [Array.getElem?_eq_getElem h1] at hu
  injection hu
theorem slr_of {P : Program} {w : World} {prot : Nat → Nat} {e : TypeId} {x : D} {v : Value} (hrow : rowOf P e = some [.int .i64, .int .i64]) (hv : VD P w prot (.sl e) x v) (hs : cellsSm x = true) : ∃ A c, v = .slice A (toCells x).length c ∧ H.SlR 2 H.RCell 0 w v (toCells x) := by
  cases hv with
  | sl e d A c row u hr h1 h2 h3 h4 =>
    rw [hrow] at hr
    injection hr with hr
    subst hr
    have hl : (toCells x).length = x.rows.length := by simp [toCells]
    refine ⟨A, c, by rw [hl], A, c, by rw [hl], by rw [hl]; exact h1, h2, fun i y hy => ?_⟩
    have hi : i < x.rows.length := by rw [← hl]; exact (List.getElem?_eq_some_iff.1 hy).1
    obtain ⟨b, o, hA, hc, _⟩ := h3 i 0 hi (by decide)
    obtain ⟨b', o', hA', hc', _⟩ := h3 i 1 hi (by decide)
    rw [hA] at hA'
    simp only [Option.some.injEq, Addr.mk.injEq] at hA'
    obtain ⟨rfl, rfl, _⟩ := hA'
    have e0 := h4 i 0 (.int .i64) hi rfl
    have e1 := h4 i 1 (.int .i64) hi rfl
    generalize u i 0 = u0 at *
    generalize u i 1 = u1 at *
    cases e0
    cases e1
    have hy' : y = ⟨(gd (x.rows.getD i []) 0).int, (gd (x.rows.getD i []) 1).int⟩ := by
      have : (toCells x)[i]? = some ⟨(gd (x.rows.getD i []) 0).int, (gd (x.rows.getD i []) 1).int⟩ := by
        simp [toCells, List.getElem?_eq_getElem hi]
      rw [hy] at this
      injection this
    refine ⟨b, o, [.int .i64 (gd (x.rows.getD i []) 0).int, .int .i64 (gd (x.rows.getD i []) 1).int], hA, Nat.zero_le _, rfl, ?_, by rw [hy'], (cellsSm_at hs).2 y (List.mem_of_getElem? hy)⟩
    intro j z hj
    match j, hj with
    | 0, hj => injection hj with hj; subst hj; simpa using hc
    | 1, hj => injection hj with hj; subst hj; simpa [Nat.add_assoc] using hc'
theorem i_Cells_snd : ∀ p : List D, cellsSm (gd p 0) = true → SoundFn Tryz.prog 99 [⟨sd (.sl 176), p⟩] ⟨sd .str, [.s (cellsT (gd p 0))]⟩ := fun p h => by
  refine SoundFn.of rfl ⟨enters Tryz.func99 (by kernel_rfl) (by kernel_rfl), fun w prot vs hargs hfr => ?_⟩
  obtain ⟨u, rfl, hv⟩ := arg_sl hargs
  obtain ⟨A, c, rfl, hs⟩ := slr_of (by kernel_rfl) hv h
  refine (H.ishow A c (toCells (gd p 0)) w 0 hs (by have := (cellsSm_at h).1; simp [toCells]; omega)).mono ?_
  rintro e w' ⟨rfl, hb⟩
  exact ⟨_, _, rfl, res_str hfr hb⟩
theorem s_Cells_snd : ∀ p : List D, cellsSm (gd p 0) = true → SoundFn Tryz.prog 98 [⟨sd (.sl 176), p⟩] ⟨sd .str, [.s (cellsT (gd p 0))]⟩ := fun p h => by
  refine SoundFn.of rfl ⟨enters Tryz.func98 (by kernel_rfl) (by kernel_rfl), fun w prot vs hargs hfr => ?_⟩
  obtain ⟨u, rfl, hv⟩ := arg_sl hargs
  obtain ⟨A, c, rfl, hs⟩ := slr_of (by kernel_rfl) hv h
  refine (H.sshow A c (toCells (gd p 0)) w 0 hs (by have := (cellsSm_at h).1; simp [toCells]; omega)).mono ?_
  rintro e w' ⟨rfl, hb⟩
  exact ⟨_, _, rfl, res_str hfr hb⟩
def i_ShowCellsE : Ent := (99, e1 (sd (.sl 176)) fun p => (⟨sd .str, [.s (cellsT (gd p 0))]⟩, cellsSm (gd p 0)))
theorem i_ShowCells_ok : EntOk Tryz.prog i_ShowCellsE := e1_ok i_Cells_snd
def s_ShowCellsE : Ent := (98, e1 (sd (.sl 176)) fun p => (⟨sd .str, [.s (cellsT (gd p 0))]⟩, cellsSm (gd p 0)))
theorem s_ShowCells_ok : EntOk Tryz.prog s_ShowCellsE := e1_ok s_Cells_snd
end Go.Proofs.YtchceahcaaibcaaGreat
