/-
  What came in, opened: a datum that can be read gives a Lean datum.
-/
import Derived.Test.YtdejncnjaebjfaaMem
import Derived.Deep.Slices
import Derived.Deep.Fields
import Derived.OpenShut
namespace Go.Proofs.Ytdejncnjaebjfaa
open Go.ChangeShapes Go.WideShapes Go.ChangeAt Go.RowKit Go.Deep

theorem i64_wf {n : Int} (h : (Lit.int .i64 n).wf = true) : I64 n := i64_of h

/-- whatever reads at type T reads by R -/
def Opens {α : Type} (P : Program) (T : TypeId) (R : Rel α) : Prop :=
  ∀ (H : Type) (enc : TypeId × Value → H) (W : World) (base : Nat) (spare : Nat → Bool) (held : Bool) (fuel : Nat) (cs : List Value) (y : DataW H × List MemPlace),
    DataW.trod enc P W base spare held fuel T cs = some y → ∃ x, R 0 W cs x

theorem choose_list {α : Type} {Q : Nat → α → Prop} (n : Nat) (h : ∀ i, i < n → ∃ x, Q i x) : ∃ l : List α, l.length = n ∧ ∀ i x, l[i]? = some x → Q i x := by
  induction n with
  | zero => exact ⟨[], rfl, fun i x hx => by simp at hx⟩
  | succ n ih =>
    obtain ⟨l, hl, hq⟩ := ih (fun i hi => h i (by omega))
    obtain ⟨x, hx⟩ := h n (by omega)
    refine ⟨l ++ [x], by simp [hl], fun i y hy => ?_⟩
    by_cases hi : i < n
    · rw [List.getElem?_append_left (by omega)] at hy
      exact hq i y hy
    · have hi' : i < (l ++ [x]).length := (List.getElem?_eq_some_iff.1 hy).1
      rw [List.length_append] at hi'
      simp at hi'
      obtain rfl : i = n := by omega
      rw [List.getElem?_append_right (by omega), hl] at hy
      simp at hy
      subst hy
      exact hx

theorem spot_none {w : World} {a : Addr} {v : Value} (h : w.cell? a = some v) : a = ⟨a.block, a.off, none⟩ := by
  cases hs : a.spot with
  | none => cases a; simp at hs; subst hs; rfl
  | some s =>
    unfold World.cell? at h
    rw [hs] at h
    simp at h
    split at h <;> simp at h

theorem opens_slice {α : Type} {P : Program} {S e : TypeId} {k : Nat} {R : Rel α} (ht : P.underlying S = some (.slice e)) (hk : P.cellsOf e = k) (hk0 : 0 < k) (h : Opens P e R)
    {H : Type} {enc : TypeId × Value → H} {W : World} {base : Nat} {spare : Nat → Bool} {held : Bool} {fuel : Nat} {cs : List Value} {y : DataW H × List MemPlace}
    (hy : DataW.trod enc P W base spare held fuel S cs = some y) : ∃ v xs, cs = [v] ∧ SlR k R 0 W v xs := by
  rcases open_slice ht hy with ⟨rfl, _⟩ | ⟨a, len, cap, m, n, D, Pl, rfl, hb, hl, hm, hmm, hx, hi⟩
  · exact ⟨_, [], rfl, SlR.nil _ _ _ _ _⟩
  · have hlm : len ≤ m := by rw [hmm]; split <;> omega
    have hq : ∀ i, i < len → ∃ x, ∃ b o cs, some a = some (⟨b, o, none⟩ : Addr) ∧ cs.length = k ∧ CellsAt W b (o + i * k) cs ∧ R 0 W cs x := by
      intro i hil
      obtain ⟨cs', hc, htr⟩ := hi i (by omega)
      rw [hk] at hc
      obtain ⟨_, hcl, hat⟩ := World.cells?_some hc
      obtain ⟨x, hx⟩ := h H enc W base spare held n cs' _ htr
      obtain ⟨cs0, hc0, _⟩ := hi 0 (by omega)
      rw [hk] at hc0
      obtain ⟨_, hcl0, hat0⟩ := World.cells?_some hc0
      have h00 := hat0 0 hk0
      rw [List.getElem?_eq_getElem (by omega)] at h00
      have ha : a = ⟨a.block, a.off, none⟩ := by
        have := spot_none h00
        rw [Nat.zero_mul] at this
        simpa [Addr.add] using this
      refine ⟨x, a.block, a.off, cs', by rw [← ha], hcl, ?_, hx⟩
      intro j u hu
      have hj := (List.getElem?_eq_some_iff.1 hu).1
      have := hat j (by omega)
      rw [ha, add_mk, add_mk, hu] at this
      exact this
    obtain ⟨l, hll, hl2⟩ := choose_list len hq
    unfold maxLen at hm
    refine ⟨_, l, rfl, some a, cap, by rw [hll], by omega, hm, fun i x hx => ?_⟩
    obtain ⟨b, o, cs, h1, h2, h3, h4⟩ := hl2 i x hx
    exact ⟨b, o, cs, h1, Nat.zero_le _, h2, h3, h4⟩

/-- a slice that came in as an argument -/
theorem opens_arg {α : Type} {P : Program} {S e : TypeId} {k : Nat} {R : Rel α} (ht : P.underlying S = some (.slice e)) (hk : P.cellsOf e = k) (hk0 : 0 < k) (h : Opens P e R)
    {H : Type} {enc : TypeId × Value → H} {W : World} {base : Nat} {spare : Nat → Bool} {held : Bool} {v : Value} {d : DataW H} {p : List MemPlace} (hv : v.cells.toList = [v])
    (hy : DataW.Trod enc P W base spare held S v d p) : ∃ xs, SlR k R 0 W v xs := by
  obtain ⟨fuel, hf⟩ := hy
  rw [hv] at hf
  obtain ⟨v', xs, e, hs⟩ := opens_slice ht hk hk0 h hf
  injection e with e
  subst e
  exact ⟨xs, hs⟩
/-- one field of a struct that came in -/
theorem opens_field {H : Type} {enc : TypeId × Value → H} {P : Program} {W : World} {base : Nat} {spare : Nat → Bool} {held : Bool} {n : Nat} {cs : List Value} {fs : Array Field} {xs : List (DataW H × List MemPlace)}
    (hl : xs.length = fs.size) (hg : ∀ (i : Nat) (f : Field), fs[i]? = some f → DataW.trod enc P W base spare held n f.type ((cs.drop f.offset).take (P.cellsOf f.type)) = xs[i]?)
    (i : Nat) (t m o : Nat) (ht : (fs[i]?).map (fun f => (f.type, f.offset)) = some (t, o)) (hm : P.cellsOf t = m) : ∃ y, DataW.trod enc P W base spare held n t ((cs.drop o).take m) = some y := by
  cases hf : fs[i]? with
  | none => rw [hf] at ht; simp at ht
  | some f =>
    rw [hf] at ht
    simp at ht
    obtain ⟨rfl, rfl⟩ := ht
    have h := hg i f hf
    rw [hm] at h
    have hi : i < xs.length := by rw [hl]; exact (Array.getElem?_eq_some_iff.1 hf).1
    exact ⟨_, h.trans (List.getElem?_eq_getElem hi)⟩
theorem cells_int : Try.prog.cellsOf 3 = 1 := by kernel_rfl
theorem cells_bool : Try.prog.cellsOf 4 = 1 := by kernel_rfl
theorem cells_string : Try.prog.cellsOf 9 = 1 := by kernel_rfl
theorem opens_int : Opens Try.prog 3 RInt := by
  intro H enc W base spare held fuel cs y h
  obtain ⟨a, e, _, w⟩ := DataW.trod_int Try.underlying3 h
  exact ⟨a, e, i64_wf w⟩
/-- a struct that came in by value -/
theorem opens_val {α : Type} {P : Program} {T : TypeId} {fs : Array Field} {R : Rel α} (hs : P.underlying T = some (.struct fs)) (ho : Opens P T R)
    {H : Type} {enc : TypeId × Value → H} {W : World} {base : Nat} {spare : Nat → Bool} {held : Bool} {r : Reach} {b0 : Nat} {v : Value} {d : DataW H} {p : List MemPlace}
    (hv : Value.okWide P W r b0 T v) (hy : DataW.Trod enc P W base spare held T v d p) : ∃ cs x, v = .agg cs ∧ R 0 W cs.toList x := by
  obtain ⟨cs, rfl, hsz⟩ := okWide_struct hs hv
  obtain ⟨fuel, hf⟩ := hy
  obtain ⟨x, hx⟩ := ho H enc W base spare held fuel _ _ hf
  exact ⟨cs, x, rfl, hx⟩
end Go.Proofs.Ytdejncnjaebjfaa
