/-
  l16DrawDeed of the reference: where it stands, and how it ends.
-/
import Derived.Test.YtdejncnjaebjfaaDoorDr1
namespace Go.Proofs.YtdejncnjaebjfaaDoor
set_option linter.unusedVariables false
set_option linter.unusedSimpArgs false
open Go.ChangeShapes Go.WideShapes Go.ChangeAt Go.RowKit


theorem alloc_cell (w : World) (cs : Array Value) (t : TypeId) (j : Nat) (u : Value) (h : cs[j]? = some u) : (w.alloc (.cells cs t)).cell? ⟨w.heap.size, j, none⟩ = some u := by
  have hn := heap_alloc_new w (Obj.cells cs t)
  generalize w.alloc (Obj.cells cs t) = W' at hn
  simp [World.cell?, hn, h]
/-- a deed's cells, and a deed as a value -/
def drow (x : MDeed) : List Value := [.int .i64 x.kind, .int .i64 x.at_, .int .i64 x.to, .int .i64 x.lo, .int .i64 x.hi, .int .i64 x.key, .int .i64 x.value]
def dval (x : MDeed) : Value := .agg #[.int .i64 x.kind, .int .i64 x.at_, .int .i64 x.to, .int .i64 x.lo, .int .i64 x.hi, .int .i64 x.key, .int .i64 x.value]
/-- some deed was drawn -/
def DrawnD (B g : Nat) (w : World) (e : Ending) (w' : World) : Prop := ∃ x : MDeed, e = .returned (dval x) ∧ x.wf ∧ CurAt B w' g ∧ Only g w w'
/-- the cells of a client that did nothing but reach a stage -/
def ClientAt (w : World) (b o : Nat) : Prop := ∃ s : Int, 0 ≤ s ∧ s ≤ 2 ∧ CellsAt w b o [.int .i64 s, .int .i64 0, .int .i64 0, .slice none 0 0, .slice none 0 0, .int .i64 0, .int .i64 0, .int .i64 0, .slice none 0 0]
/-- the town that is handed in: its cells -/
def town0 (s c p : Addr) : Array Value := #[.int .i64 0, .slice none 0 0, .int .i64 0, .int .i64 0, .int .i64 0, .int .i64 0, .int .i64 0, .int .i64 0, .slice none 0 0, .slice (some s) 3 3, .slice none 0 0, .slice none 0 0, .slice (some c) 3 3, .slice (some p) 5 5, .slice none 0 0]
/-- where the function stands: b is the town's box, b + 1 the deed that comes out -/
structure DI (B g b : Nat) (s c p : Addr) (w0 W : World) : Prop where
  cur : CurAt B W g
  only : Only g w0 W
  gb : g < b
  Bb : B ≤ b
  w0b : w0.heap.size ≤ b
  own : Own W (b + 1) 23 7
  k9 : W.cell? ⟨b, 9, none⟩ = some (.slice (some s) 3 3)
  k10 : W.cell? ⟨b, 10, none⟩ = some (.slice none 0 0)
  k12 : W.cell? ⟨b, 12, none⟩ = some (.slice (some c) 3 3)
  k13 : W.cell? ⟨b, 13, none⟩ = some (.slice (some p) 5 5)
theorem DI.next {B g b : Nat} {s c p : Addr} {w0 W W' : World} (h : DI B g b s c p w0 W) (hc : CurAt B W' g) (ho : Only g W W') : DI B g b s c p w0 W' := by
  have hg := h.gb
  have hl := h.own.lt
  have key : ∀ (j : Nat) (u : Value), W.cell? ⟨b, j, none⟩ = some u → W'.cell? ⟨b, j, none⟩ = some u := fun j u hu => (World.cell?_of_block (a := ⟨b, j, none⟩) (ho.block b (by omega) (by intro e; injection e with e; omega))).trans hu
  exact ⟨hc, h.only.trans ho, hg, h.Bb, h.w0b, h.own.keep (ho.block _ hl (by intro e; injection e with e; omega)), key _ _ h.k9, key _ _ h.k10, key _ _ h.k12, key _ _ h.k13⟩
theorem DI.start {B g : Nat} {s c p : Addr} {w0 W : World} (hc : CurAt B w0 g) (hW : W = (w0.alloc (.cells (town0 s c p) 90)).alloc (.cells #[.int .i64 0, .int .i64 0, .int .i64 0, .int .i64 0, .int .i64 0, .int .i64 0, .int .i64 0] 23)) : DI B g w0.heap.size s c p w0 W := by
  subst hW
  have hb : Below w0.heap.size w0 ((w0.alloc (.cells (town0 s c p) 90)).alloc (.cells #[.int .i64 0, .int .i64 0, .int .i64 0, .int .i64 0, .int .i64 0, .int .i64 0, .int .i64 0] 23)) := ((Below.refl _ _).alloc (Nat.le_refl _) _).alloc (by simp) _
  have hs : (w0.alloc (.cells (town0 s c p) 90)).heap.size = w0.heap.size + 1 := by simp
  have ho := Own.new (w0.alloc (.cells (town0 s c p) 90)) 23 #[.int .i64 0, .int .i64 0, .int .i64 0, .int .i64 0, .int .i64 0, .int .i64 0, .int .i64 0]
  rw [hs] at ho
  have key : ∀ (j : Nat) (u : Value), (town0 s c p)[j]? = some u → ((w0.alloc (.cells (town0 s c p) 90)).alloc (.cells #[.int .i64 0, .int .i64 0, .int .i64 0, .int .i64 0, .int .i64 0, .int .i64 0, .int .i64 0] 23)).cell? ⟨w0.heap.size, j, none⟩ = some u := fun j u hu => by
    have h2 := ((Below.refl (w0.alloc (.cells (town0 s c p) 90)).heap.size (w0.alloc (.cells (town0 s c p) 90))).alloc (Nat.le_refl _) (.cells #[.int .i64 0, .int .i64 0, .int .i64 0, .int .i64 0, .int .i64 0, .int .i64 0, .int .i64 0] 23)).cell (p := ⟨w0.heap.size, j, none⟩) (by simp)
    exact h2.trans (alloc_cell _ _ _ _ _ hu)
  exact ⟨hc.below hb, Only.of_below hb, hc.lt, by have := hc.1; have := hc.lt; omega, Nat.le_refl _, ho, key _ _ rfl, key _ _ rfl, key _ _ rfl, key _ _ rfl⟩
/-- .. and the client that was drawn: its box d, its stage t -/
structure DJ (B g b d : Nat) (t : Int) (s c p : Addr) (w0 W : World) : Prop extends DI B g b s c p w0 W where
  bd : b + 1 < d
  j0 : W.cell? ⟨d, 0, none⟩ = some (.int .i64 t)
  j8 : W.cell? ⟨d, 8, none⟩ = some (.slice none 0 0)
theorem DJ.next {B g b d : Nat} {t : Int} {s c p : Addr} {w0 W W' : World} (h : DJ B g b d t s c p w0 W) (hc : CurAt B W' g) (ho : Only g W W') : DJ B g b d t s c p w0 W' := by
  have hg := h.gb
  have hbd := h.bd
  have hl := cell_lt h.j0
  have key : ∀ (j : Nat) (u : Value), W.cell? ⟨d, j, none⟩ = some u → W'.cell? ⟨d, j, none⟩ = some u := fun j u hu => (World.cell?_of_block (a := ⟨d, j, none⟩) (ho.block d hl (by intro e; injection e with e; omega))).trans hu
  exact ⟨h.toDI.next hc ho, hbd, key _ _ h.j0, key _ _ h.j8⟩
/-- the client was laid into its box -/
theorem DJ.lay {B g b : Nat} {s c p : Addr} {w0 W : World} (t : Int) (h : DI B g b s c p w0 W) (hd : b + 1 < W.heap.size) (ty : TypeId) :
    DJ B g b W.heap.size t s c p w0 (W.alloc (.cells #[.int .i64 t, .int .i64 0, .int .i64 0, .slice none 0 0, .slice none 0 0, .int .i64 0, .int .i64 0, .int .i64 0, .slice none 0 0] ty)) := by
  have hb : Below W.heap.size W (W.alloc (.cells #[.int .i64 t, .int .i64 0, .int .i64 0, .slice none 0 0, .slice none 0 0, .int .i64 0, .int .i64 0, .int .i64 0, .slice none 0 0] ty)) := (Below.refl _ _).alloc (Nat.le_refl _) _
  have h1 := h.next (h.cur.below hb) (Only.of_below hb)
  exact ⟨h1, hd, alloc_cell _ _ _ _ _ rfl, alloc_cell _ _ _ _ _ rfl⟩
/-- how each way ends -/
theorem dd_done {B g b : Nat} {s c p : Addr} {w0 W : World} (h : DI B g b s c p w0 W) (x : MDeed) (hx : x.wf) (a : Act) (hd : a.defers = []) (ha : a.tmps[4]? = some (.pointer (some ⟨b + 1, 0, none⟩))) :
    bodyPost Tryd.prog Tryd.f59 (DrawnD B g w0) Exit.ret a (setRow W (b + 1) 0 (drow x)) := by
  have hc := setRow_cells (drow x) W 0 h.own (by simp [drow])
  have hon := setRow_only (b + 1) (drow x) W 0
  have hg := h.gb
  have hB := h.Bb
  have hw := h.w0b
  have hl := h.own.lt
  have c0 := hc 0 _ rfl
  have c1 := hc 1 _ rfl
  have c2 := hc 2 _ rfl
  have c3 := hc 3 _ rfl
  have c4 := hc 4 _ rfl
  have c5 := hc 5 _ rfl
  have c6 := hc 6 _ rfl
  generalize setRow W (b + 1) 0 (drow x) = V at *
  simp only [Nat.zero_add] at c0 c1 c2 c3 c4 c5 c6
  refine bodyPost_ret (v := dval x) ?_ hd ⟨x, rfl, hx, h.cur.only hon (by omega) (by omega), ?_⟩
  · simp [results, Tryd.results59, go_sem, dval, ha, c0, c1, c2, c3, c4, c5, c6]
  · exact ⟨hon.os.trans h.only.os, hon.tape.trans h.only.tape, hon.output.trans h.only.output, Nat.le_trans h.only.size hon.size, fun i hi hne => (hon.block i (by have := h.only.size; omega) (by intro e; injection e with e; omega)).trans (h.only.block i hi hne)⟩
end Go.Proofs.YtdejncnjaebjfaaDoor
