/-
  Words for memory: what is read of slices and structs as Lean data; addresses in one normal form.
-/
import Derived.Test.YtdejncnjaebjfaaDoorBase
import Derived.Laws.OwnMore
import Derived.Deep.Draws
import Derived.Laws.Rows
import Derived.Deep.RegionHeld3
import Derived.StillTailTactics
import Derived.Laws.MakeOwn
import Derived.Deep.AppendLies
import Derived.OwnWalk
namespace Go.Proofs.YtdejncnjaebjfaaDoor
set_option linter.unusedVariables false
set_option linter.unusedSimpArgs false
open Go.ChangeShapes Go.WideShapes Go.ChangeAt Go.RowKit

theorem add_mk (b o m : Nat) : (⟨b, o, none⟩ : Addr).add m = ⟨b, o + m, none⟩ := by
  unfold Addr.add
  split
  · rename_i h; subst h; rfl
  · rfl
attribute [go_sem] add_mk

theorem cell_lt {w : World} {p : Addr} {v : Value} (h : w.cell? p = some v) : p.block < w.heap.size := by
  rcases Nat.lt_or_ge p.block w.heap.size with hlt | hge
  · exact hlt
  · unfold World.cell? at h; rw [Array.getElem?_eq_none hge] at h; cases h

/-- an int of 64 bits -/
def I64 (n : Int) : Prop := -9223372036854775808 ≤ n ∧ n ≤ 9223372036854775807

/-- the blocks from lo on are as they were -/
def Agree (lo : Nat) (w w' : World) : Prop := ∀ b, lo ≤ b → b < w.heap.size → w'.heap[b]? = w.heap[b]?
theorem Agree.refl (lo : Nat) (w : World) : Agree lo w w := fun _ _ _ => rfl
theorem Agree.cell {lo : Nat} {w w' : World} (h : Agree lo w w') {b o : Nat} (h1 : lo ≤ b) {v : Value} (hv : w.cell? ⟨b, o, none⟩ = some v) : w'.cell? ⟨b, o, none⟩ = some v :=
  (World.cell?_of_block (a := ⟨b, o, none⟩) (h b h1 (cell_lt hv))).trans hv
theorem Agree.mono {lo lo' : Nat} {w w' : World} (h : Agree lo w w') (hl : lo ≤ lo') : Agree lo' w w' := fun b h1 h2 => h b (by omega) h2

/-- how cells read as a datum, within the blocks from lo on -/
abbrev Rel (α : Type) := Nat → World → List Value → α → Prop
structure RelOk {α : Type} (R : Rel α) : Prop where
  keep : ∀ {lo : Nat} {w w' : World} {cs : List Value} {x : α}, R lo w cs x → Agree lo w w' → R lo w' cs x
  widen : ∀ {lo lo' : Nat} {w : World} {cs : List Value} {x : α}, R lo w cs x → lo' ≤ lo → R lo' w cs x

/-- a row of cells of a block -/
def CellsAt (w : World) (b o : Nat) (cs : List Value) : Prop := ∀ j u, cs[j]? = some u → w.cell? ⟨b, o + j, none⟩ = some u

/-- a slice of elements of k cells each reads as a list -/
def SlR {α : Type} (k : Nat) (R : Rel α) (lo : Nat) (w : World) (v : Value) (xs : List α) : Prop :=
  ∃ A c, v = .slice A xs.length c ∧ xs.length ≤ c ∧ c ≤ 9223372036854775807 ∧
    ∀ i x, xs[i]? = some x → ∃ b o cs, A = some ⟨b, o, none⟩ ∧ lo ≤ b ∧ cs.length = k ∧ CellsAt w b (o + i * k) cs ∧ R lo w cs x

theorem SlR.keep {α : Type} {k : Nat} {R : Rel α} (hR : RelOk R) {lo : Nat} {w w' : World} {v : Value} {xs : List α} (h : SlR k R lo w v xs) (ha : Agree lo w w') : SlR k R lo w' v xs := by
  obtain ⟨A, c, e, h1, h2, h3⟩ := h
  refine ⟨A, c, e, h1, h2, fun i x hx => ?_⟩
  obtain ⟨b, o, cs, e1, l1, l3, hc, hr⟩ := h3 i x hx
  exact ⟨b, o, cs, e1, l1, l3, fun j u hu => ha.cell l1 (hc j u hu), hR.keep hr ha⟩
theorem SlR.widen {α : Type} {k : Nat} {R : Rel α} (hR : RelOk R) {lo lo' : Nat} {w : World} {v : Value} {xs : List α} (h : SlR k R lo w v xs) (hl : lo' ≤ lo) : SlR k R lo' w v xs := by
  obtain ⟨A, c, e, h1, h2, h3⟩ := h
  refine ⟨A, c, e, h1, h2, fun i x hx => ?_⟩
  obtain ⟨b, o, cs, e1, l1, l3, hc, hr⟩ := h3 i x hx
  exact ⟨b, o, cs, e1, Nat.le_trans hl l1, l3, hc, hR.widen hr hl⟩
theorem SlR.nil {α : Type} (k : Nat) (R : Rel α) (lo : Nat) (w : World) (A : Option Addr) : SlR k R lo w (.slice A 0 0) [] :=
  ⟨A, 0, rfl, Nat.le_refl _, by simp, fun i x hx => by simp at hx⟩
theorem SlR.form {α : Type} {k : Nat} {R : Rel α} {lo : Nat} {w : World} {v : Value} {xs : List α} (h : SlR k R lo w v xs) : ∃ A c, v = .slice A xs.length c ∧ (xs.length : Int) ≤ 9223372036854775807 := by
  obtain ⟨A, c, e, h1, h2, _⟩ := h
  exact ⟨A, c, e, by omega⟩
/-- the element at i of a slice, in a later world -/
theorem SlR.get {α : Type} {k : Nat} {R : Rel α} (hR : RelOk R) {lo : Nat} {w w' : World} {A : Option Addr} {n c : Nat} {xs : List α} (h : SlR k R lo w (.slice A n c) xs) (ha : Agree lo w w') {i : Nat} (hi : i < xs.length) :
    ∃ (x : α) (b o : Nat) (cs : List Value), xs[i]? = some x ∧ A = some ⟨b, o, none⟩ ∧ lo ≤ b ∧ cs.length = k ∧ CellsAt w' b (o + i * k) cs ∧ R lo w' cs x := by
  obtain ⟨A', c', e, h1, h2, h3⟩ := h
  obtain ⟨b, o, cs, e1, l1, l3, hc, hr⟩ := h3 i _ (List.getElem?_eq_getElem hi)
  injection e with e2 e3 e4
  exact ⟨_, b, o, cs, List.getElem?_eq_getElem hi, e2.trans e1, l1, l3, fun j u hu => ha.cell l1 (hc j u hu), hR.keep hr ha⟩

theorem SlR.blt {α : Type} {k : Nat} {R : Rel α} {lo : Nat} {w : World} {A : Option Addr} {n c : Nat} {xs : List α} (h : SlR k R lo w (.slice A n c) xs) {b o : Nat} (e : A = some ⟨b, o, none⟩) {i : Nat} (hi : i < xs.length) (hk : 0 < k) : b < w.heap.size := by
  obtain ⟨A', c', e0, h1, h2, h3⟩ := h
  obtain ⟨b', o', cs, e1, l1, l3, hc, hr⟩ := h3 i _ (List.getElem?_eq_getElem hi)
  injection e0 with e2 e3 e4
  rw [← e2, e] at e1
  injection e1 with e1
  injection e1 with e1 _ _
  subst e1
  have h0 : 0 < cs.length := by omega
  exact cell_lt (hc 0 _ (List.getElem?_eq_getElem h0))

/-- a relation that reads one row of cells and no memory -/
def Flat {α : Type} (f : α → List Value) (P : α → Prop) : Rel α := fun _ _ cs x => cs = f x ∧ P x
theorem Flat.ok {α : Type} (f : α → List Value) (P : α → Prop) : RelOk (Flat f P) := ⟨fun h _ => h, fun h _ => h⟩

/-- only block g has turned, and what is new -/
def Only (g : Nat) (a w : World) : Prop := a.grownBy w (some g)
theorem Only.refl (g : Nat) (w : World) : Only g w w := ⟨rfl, rfl, rfl, Nat.le_refl _, fun _ _ _ => rfl⟩
theorem Only.trans {g : Nat} {a b c : World} (h : Only g a b) (k : Only g b c) : Only g a c :=
  ⟨k.os.trans h.os, k.tape.trans h.tape, k.output.trans h.output, Nat.le_trans h.size k.size, fun i hi hne => (k.block i (Nat.lt_of_lt_of_le hi h.size) hne).trans (h.block i hi hne)⟩
theorem Only.drewN {g : Nat} {a w : World} (h : Only g a w) (n : Nat) : Only g a (w.drewN n) := ⟨h.os, h.tape, h.output, h.size, h.block⟩
theorem Only.drew {g : Nat} {a w : World} (h : Only g a w) : Only g a w.drew := ⟨h.os, h.tape, h.output, h.size, h.block⟩
theorem Only.alloc {g : Nat} {a w : World} (h : Only g a w) (o : Obj) : Only g a (w.alloc o) :=
  ⟨h.os, h.tape, h.output, Nat.le_trans h.size (by simp), fun i hi hne => (Below.heap_alloc w o i (Nat.lt_of_lt_of_le hi h.size)).trans (h.block i hi hne)⟩
theorem Only.setCell {g : Nat} {a w : World} (h : Only g a w) (o : Nat) (u : Value) : Only g a (w.setCell ⟨g, o, none⟩ u) :=
  ⟨h.os, h.tape, h.output, by simpa [World.setCell] using h.size, fun i hi hne => (Below.heap_setCell w ⟨g, o, none⟩ u i (by rintro rfl; exact hne rfl)).trans (h.block i hi hne)⟩
/-- a store into what is new -/
theorem Only.setNew {g : Nat} {a w : World} (h : Only g a w) {p : Addr} (hp : a.heap.size ≤ p.block) (u : Value) : Only g a (w.setCell p u) :=
  ⟨h.os, h.tape, h.output, by simpa [World.setCell] using h.size, fun i hi hne => (Below.heap_setCell w p u i (by rintro rfl; omega)).trans (h.block i hi hne)⟩
theorem Only.below {g B : Nat} {a w : World} (h : Only g a w) (hB : B ≤ g) (hs : B ≤ a.heap.size) : Below B a w :=
  ⟨h.os, h.tape, h.output, h.size, fun i hi => h.block i (by omega) (by intro e; injection e with e; omega)⟩
theorem Only.of_below {g : Nat} {a w : World} (h : Below a.heap.size a w) : Only g a w := ⟨h.os, h.tape, h.output, h.size, fun i hi _ => h.block i hi⟩
theorem Only.call {g : Nat} {a w w' : World} (h : Only g a w) (hb : Below w.heap.size w w') : Only g a w' := h.trans (Only.of_below hb)
theorem Only.agree {g lo : Nat} {a w : World} (h : Only g a w) (h1 : g < lo) : Agree lo a w :=
  fun b hb1 hb2 => h.block b hb2 (by intro e; injection e with e; omega)
theorem Agree.of_below {a w : World} (h : Below a.heap.size a w) (lo : Nat) : Agree lo a w := fun b _ hb2 => h.block b hb2

/-- block g is a row of m cells of type t, none frozen -/
def Own (w : World) (g : Nat) (t : TypeId) (m : Nat) : Prop := ∃ cs : Array Value, w.heap[g]? = some (.cells cs t (0, 0)) ∧ cs.size = m
theorem Own.cell {w : World} {g m : Nat} {t : TypeId} (h : Own w g t m) {j : Nat} (hj : j < m) : ∃ v, w.cell? ⟨g, j, none⟩ = some v := by
  obtain ⟨cs, h, hs⟩ := h
  refine ⟨cs[j]'(by omega), ?_⟩
  simp [World.cell?, h, hs, hj]
theorem Own.frozen {w : World} {g m : Nat} {t : TypeId} (h : Own w g t m) (j : Nat) : w.frozen? ⟨g, j, none⟩ = false := by
  obtain ⟨cs, h, hs⟩ := h
  simp [World.frozen?, h]
theorem Own.lt {w : World} {g m : Nat} {t : TypeId} (h : Own w g t m) : g < w.heap.size := by
  obtain ⟨cs, h, hs⟩ := h
  rcases Nat.lt_or_ge g w.heap.size with hlt | hge
  · exact hlt
  · rw [Array.getElem?_eq_none hge] at h; cases h
theorem Own.keep {w w' : World} {g m : Nat} {t : TypeId} (h : Own w g t m) (he : w'.heap[g]? = w.heap[g]?) : Own w' g t m := by
  obtain ⟨cs, h, hs⟩ := h
  exact ⟨cs, he.trans h, hs⟩
theorem Own.call {w w' : World} {g m : Nat} {t : TypeId} (h : Own w g t m) (hb : Below w.heap.size w w') : Own w' g t m := h.keep (hb.block g h.lt)
theorem Own.set {w : World} {g m : Nat} {t : TypeId} (h : Own w g t m) (j : Nat) (u : Value) : Own (w.setCell ⟨g, j, none⟩ u) g t m := by
  obtain ⟨cs, h, hs⟩ := h
  refine ⟨cs.setIfInBounds j u, ?_, by simpa using hs⟩
  simp [World.setCell, Array.getElem?_modify, h]
theorem Own.new (w : World) (t : TypeId) (cs : Array Value) : Own (w.alloc (.cells cs t)) w.heap.size t cs.size := ⟨cs, heap_alloc_new w _, rfl⟩
theorem cell_set_eq {w : World} {g m : Nat} {t : TypeId} (h : Own w g t m) {j : Nat} (hj : j < m) (u : Value) : (w.setCell ⟨g, j, none⟩ u).cell? ⟨g, j, none⟩ = some u := by
  obtain ⟨cs, h, hs⟩ := h
  simp [World.setCell, World.cell?, Array.getElem?_modify, h, hs, hj]
theorem cell_set_ne {w : World} {g j : Nat} {u : Value} {b o : Nat} (h : b ≠ g ∨ o ≠ j) : (w.setCell ⟨g, j, none⟩ u).cell? ⟨b, o, none⟩ = w.cell? ⟨b, o, none⟩ :=
  World.cell?_setCell_other w _ _ u (fun e => by simp at e; omega)

/-- cells laid one behind the other into a block -/
def setRow (w : World) (g o : Nat) : List Value → World
  | [] => w
  | c :: cs => setRow (w.setCell ⟨g, o, none⟩ c) g (o + 1) cs
theorem setRow_only (g : Nat) : ∀ (cs : List Value) (w : World) (o : Nat), Only g w (setRow w g o cs)
  | [], w, o => Only.refl g w
  | c :: cs, w, o => ((Only.refl g w).setCell o c).trans (setRow_only g cs _ (o + 1))
theorem setRow_own {g m : Nat} {t : TypeId} : ∀ (cs : List Value) (w : World) (o : Nat), Own w g t m → Own (setRow w g o cs) g t m
  | [], _, _, h => h
  | c :: cs, _, o, h => setRow_own cs _ (o + 1) (h.set o c)
theorem setRow_other {g : Nat} : ∀ (cs : List Value) (w : World) (o b p : Nat), b ≠ g ∨ p < o ∨ o + cs.length ≤ p → (setRow w g o cs).cell? ⟨b, p, none⟩ = w.cell? ⟨b, p, none⟩
  | [], _, _, _, _, _ => rfl
  | c :: cs, w, o, b, p, h => by
    unfold setRow
    rw [setRow_other cs _ (o + 1) b p (by simp at h; omega)]
    exact cell_set_ne (by simp at h; omega)
theorem setRow_cells {g m : Nat} {t : TypeId} : ∀ (cs : List Value) (w : World) (o : Nat), Own w g t m → o + cs.length ≤ m → CellsAt (setRow w g o cs) g o cs
  | [], _, _, _, _ => fun j u hu => by simp at hu
  | c :: cs, w, o, h, hm => by
    intro j u hu
    simp at hm
    cases j with
    | zero =>
      simp at hu
      subst hu
      unfold setRow
      rw [setRow_other cs _ (o + 1) g (o + 0) (by omega)]
      exact cell_set_eq h (by omega) _
    | succ j =>
      have := setRow_cells cs (w.setCell ⟨g, o, none⟩ c) (o + 1) (h.set o c) (by omega) j u (by simpa using hu)
      rw [show o + (j + 1) = o + 1 + j from by omega]
      exact this

/-- the first q rows of an own block are laid -/
def Laid {α : Type} (k : Nat) (R : Rel α) (g : Nat) (t : TypeId) (n : Nat) (w : World) (q : Nat) (xs : List α) : Prop :=
  Own w g t (n * k) ∧ ∀ i x, i < q → xs[i]? = some x → ∃ cs, cs.length = k ∧ CellsAt w g (i * k) cs ∧ R (g + 1) w cs x

theorem Laid.next {α : Type} {k : Nat} {R : Rel α} (hR : RelOk R) {g : Nat} {t : TypeId} {n : Nat} {w w1 : World} {q : Nat} {xs : List α} {cs : List Value} {x : α} (h : Laid k R g t n w q xs) (hb : Below w.heap.size w w1)
    (hx : xs[q]? = some x) (hl : cs.length = k) (hr : R (g + 1) w1 cs x) (hq : q < n) : Laid k R g t n (setRow w1 g (q * k) cs) (q + 1) xs := by
  have ho := h.1.call hb
  have hqk : q * k + k ≤ n * k := by
    have := Nat.mul_le_mul_right k (show q + 1 ≤ n by omega)
    rw [Nat.add_mul, Nat.one_mul] at this
    exact this
  refine ⟨setRow_own cs _ _ ho, fun i y hi hy => ?_⟩
  by_cases e : i = q
  · subst e
    obtain rfl : x = y := by rw [hx] at hy; injection hy
    exact ⟨cs, hl, setRow_cells cs w1 _ ho (by omega), hR.keep hr ((setRow_only g cs w1 _).agree (by omega))⟩
  · obtain ⟨cs', hl', hc', hr'⟩ := h.2 i y (by omega) hy
    refine ⟨cs', hl', fun j u hu => ?_, hR.keep (hR.keep hr' (Agree.of_below hb _)) ((setRow_only g cs w1 _).agree (by omega))⟩
    have hj : j < k := by
      have := (List.getElem?_eq_some_iff.1 hu).1
      omega
    have hik : i * k + k ≤ q * k := by
      have := Nat.mul_le_mul_right k (show i + 1 ≤ q by omega)
      rw [Nat.add_mul, Nat.one_mul] at this
      exact this
    rw [setRow_other cs w1 (q * k) g (i * k + j) (by omega)]
    exact (hb.cell (p := ⟨g, i * k + j, none⟩) h.1.lt).trans (hc' j u hu)

theorem Laid.done {α : Type} {k : Nat} {R : Rel α} (hR : RelOk R) {g : Nat} {t : TypeId} {w : World} {xs : List α} {c : Nat} (h : Laid k R g t xs.length w xs.length xs) (h1 : xs.length ≤ c) (h2 : c ≤ 9223372036854775807) :
    SlR k R g w (.slice (some ⟨g, 0, none⟩) xs.length c) xs := by
  refine ⟨_, c, rfl, h1, h2, fun i x hx => ?_⟩
  obtain ⟨cs, hl, hc, hr⟩ := h.2 i x (List.getElem?_eq_some_iff.1 hx).1 hx
  refine ⟨g, 0, cs, rfl, Nat.le_refl _, hl, fun j u hu => ?_, hR.widen hr (by omega)⟩
  rw [Nat.zero_add]
  exact hc j u hu
theorem Laid.start {α : Type} {k : Nat} {R : Rel α} (w : World) (t : TypeId) (n : Nat) (cs : Array Value) (h : cs.size = n * k) (xs : List α) : Laid k R w.heap.size t n (w.alloc (.cells cs t)) 0 xs :=
  ⟨h ▸ Own.new w t cs, fun i x hi => by omega⟩

/-- make, at a length that is known -/
theorem make_at {P : Program} (t e : TypeId) (i : TypeInfo) (z : Value) (ht : P.underlying t = some (.slice e)) (hi : P.info? e = some i) (hz : i.zero = some z) (n : Nat) (hbytes : i.bytes * n ≤ 281474976710656) (h63 : n ≤ 9223372036854775807) :
    ∀ w : World, (Instr.makeSlice t (.int .i64 (n : Int)) (.int .i64 (n : Int))).run P w = .ok (.slice (some ⟨w.heap.size, 0, none⟩) n n) (w.alloc (.cells (madeCells z.cells (n * i.size)) e)) := by
  intro w
  have hb : (i.bytes : Int) * (n : Int) ≤ 281474976710656 := by
    have h : ((i.bytes * n : Nat) : Int) ≤ 281474976710656 := by omega
    rwa [Int.natCast_mul] at h
  have hr := run_make (P := P) w t e i z ht hi hz .i64 .i64 n n (by omega) (by omega) hb (by omega)
  simp only [Int.toNat_natCast] at hr
  exact hr

theorem heap_alloc2 (w : World) (x y : Obj) : ((w.alloc x).alloc y).drew.heap[w.heap.size + 1]? = some y := by
  have h := heap_alloc_new (w.alloc x) y
  rw [show (w.alloc x).heap.size = w.heap.size + 1 from by simp] at h
  exact h
theorem own_ne {w : World} {base : Nat} {e : TypeId} {size : Nat} {v : Value} {n : Nat} {xs : List Value} (h : w.ownsRow base e size v n xs) : v.ownBlock ≠ some w.heap.size := by
  rcases h.2 with ⟨rfl, _⟩ | ⟨g, cap, cur, rfl, _, hh, _⟩
  · simp [Value.ownBlock]
  · intro he
    have hg : g = w.heap.size := by simpa [Value.ownBlock] using he
    rw [hg, Array.getElem?_eq_none (Nat.le_refl _)] at hh
    cases hh
theorem own_ge {w : World} {base : Nat} {e : TypeId} {size : Nat} {v : Value} {n : Nat} {xs : List Value} (h : w.ownsRow base e size v n xs) : ∀ g, v.ownBlock = some g → base ≤ g := by
  intro g hg
  rcases h.2 with ⟨rfl, _⟩ | ⟨g', cap, cur, rfl, hb, _⟩
  · simp [Value.ownBlock] at hg
  · have : g' = g := by simpa [Value.ownBlock] using hg
    omega
theorem own_call {w w' : World} {base : Nat} {e : TypeId} {size : Nat} {v : Value} {n : Nat} {xs : List Value} (h : w.ownsRow base e size v n xs) (hb : Below w.heap.size w w') : w'.ownsRow base e size v n xs := by
  refine h.kept (w' := w') (row := none) ⟨hb.os, hb.tape, hb.output, hb.size, fun i hi _ => hb.block i hi⟩ ?_
  cases hv : v.ownBlock <;> simp
theorem Calls.flip {P : Program} {f : FuncId} {args : Array Value} {w : World} {v : Value} (h : Calls P f args w fun e w' => e = .returned v ∧ w = w') : Calls P f args w fun e w' => e = .returned v ∧ w' = w :=
  h.mono fun _ _ ⟨a, b⟩ => ⟨a, b.symm⟩

/-- ints, strings, slices as elements -/
def RInt : Rel Int := fun _ _ cs x => cs = [.int .i64 x] ∧ I64 x
theorem RInt.ok : RelOk RInt := ⟨fun h _ => h, fun h _ => h⟩
def RStr : Rel (List UInt8) := fun _ _ cs x => cs = [.string (bs x)] ∧ (x.length : Int) ≤ 9223372036854775807
theorem RStr.ok : RelOk RStr := ⟨fun h _ => h, fun h _ => h⟩
def RSl {α : Type} (k : Nat) (R : Rel α) : Rel (List α) := fun lo w cs xs => ∃ v, cs = [v] ∧ SlR k R lo w v xs
theorem RSl.ok {α : Type} (k : Nat) {R : Rel α} (h : RelOk R) : RelOk (RSl k R) :=
  ⟨fun ⟨v, e, s⟩ ha => ⟨v, e, s.keep h ha⟩, fun ⟨v, e, s⟩ hl => ⟨v, e, s.widen h hl⟩⟩

/-- Agree, with sizes: built step by step along a walk -/
def AG (lo : Nat) (a w : World) : Prop := a.heap.size ≤ w.heap.size ∧ Agree lo a w
theorem AG.refl (lo : Nat) (w : World) : AG lo w w := ⟨Nat.le_refl _, Agree.refl lo w⟩
theorem AG.set {lo : Nat} {a w : World} (h : AG lo a w) {q : Addr} (hq : q.block < lo) (u : Value) : AG lo a (w.setCell q u) :=
  ⟨by simpa [World.setCell] using h.1, fun b h1 h2 => (Below.heap_setCell w q u b (by omega)).trans (h.2 b h1 h2)⟩
theorem AG.call {lo : Nat} {a w w' : World} (h : AG lo a w) (hb : Below w.heap.size w w') : AG lo a w' :=
  ⟨Nat.le_trans h.1 hb.size, fun b h1 h2 => (hb.block b (Nat.lt_of_lt_of_le h2 h.1)).trans (h.2 b h1 h2)⟩
theorem AG.alloc {lo : Nat} {a w : World} (h : AG lo a w) (o : Obj) : AG lo a (w.alloc o) :=
  ⟨Nat.le_trans h.1 (by simp), fun b h1 h2 => (Below.heap_alloc w o b (Nat.lt_of_lt_of_le h2 h.1)).trans (h.2 b h1 h2)⟩
theorem AG.drew {lo : Nat} {a w : World} (h : AG lo a w) : AG lo a w.drew := h
theorem AG.drewN {lo : Nat} {a w : World} (h : AG lo a w) (n : Nat) : AG lo a (w.drewN n) := h

theorem below_drewN {B : Nat} {a w : World} (h : Below B a w) (n : Nat) : Below B a (w.drewN n) := ⟨h.os, h.tape, h.output, h.size, h.block⟩
end Go.Proofs.YtdejncnjaebjfaaDoor
