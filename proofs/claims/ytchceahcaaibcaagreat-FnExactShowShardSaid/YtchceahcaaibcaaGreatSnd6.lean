/-
  The evaluator is right: operations that make memory.
-/
import Derived.Test.YtchceahcaaibcaaGreatSnd2
import Derived.Great.FillDense
import Derived.IntWalk
import Derived.Laws.OwnMore
namespace Go.Proofs.YtchceahcaaibcaaGreat
set_option linter.unusedSimpArgs false
open Go.RowKit
set_option linter.unusedVariables false
set_option linter.unusedSectionVars false

section
variable [Low] {P : Program} {w w' : World} {g g' : G} {base : Nat} {σ : St} {a : Act}

theorem getD_put (a : Act) (d i : Nat) (v : Value) (hd : d < a.tmps.size) : (a.put (some d) v).tmps.getD i undef = if i = d then v else a.tmps.getD i undef := by
  simp only [Act.put, Array.getD_eq_getD_getElem?, Array.getElem?_setIfInBounds]
  by_cases e : i = d
  · subst e; simp [hd]
  · rw [if_neg (by omega), if_neg e]
theorem put_size (a : Act) (d : Option Nat) (v : Value) : (a.put d v).tmps.size = a.tmps.size := by
  cases d <;> simp [Act.put]
theorem put_defers (a : Act) (d : Option Nat) (v : Value) : (a.put d v).defers = a.defers := by
  cases d <;> rfl

theorem Rel.put (hr : Rel P w g base σ a) {dst : Option Nat} (hd : ∀ d, dst = some d → d < a.tmps.size) {t : T} {v : Value} (hv : VT P w g base t v) : Rel P w g base (σ.put dst t) (a.put dst v) := by
  cases dst with
  | none => exact hr
  | some d =>
    refine ⟨fun i => ?_, hr.box, hr.fresh, hr.base_le, hr.defers, hr.low⟩
    rw [getD_put a d i v (hd d rfl)]
    show VT P w g base (bif i == d then t else look2 i σ.e σ.r) _
    by_cases e : i = d
    · rw [if_pos e, show (i == d) = true from by simpa using e]; exact hv
    · rw [if_neg e, show (i == d) = false from by simpa using e]; exact hr.env i

/-- a turned state, in a later world -/
theorem Rel.ext {d₀ : Nat} (hr : Rel P w g base σ a) (h : Ext (some d₀) g g' w w') (hf : ∀ b, w'.heap.size ≤ b → g'.prot b = 0 ∧ g'.owner b = none) (hbox : ∀ id cs ds, hlook id σ.h = some (cs, ds) → id ≠ d₀) :
    Rel P w' g' base (σ.wipe d₀) a := by
  have hk : Kept P base g g' w w' (wipeC d₀) := fun c x v hv => h.vc hr.base_le hv
  refine ⟨fun i => hr.envMap hk rfl i, fun id cs ds hl => hr.boxMap hk hl fun cs ds hq => ?_, hf, Nat.le_trans hr.base_le h.size, hr.defers, h.low hr⟩
  obtain ⟨k1, k2, k3, kl, arr, E, k4, k5⟩ := hr.box id cs ds hq
  have hlt := lt_of_heap k4
  exact ⟨h.θ id (by intro e; injection e with e; exact hbox id cs ds hq e), h.owner _ hlt, h.prot _ hlt, h.heap _ hlt⟩

/-- the ghost of a new block that box d names -/
def newBox (g : G) (d nb : Nat) : G := { g with owner := fun b => if b = nb then some (.inl d) else g.owner b, θ := fun id => if id = d then nb else g.θ id, len := fun t => if t.1 = d then 0 else g.len t }
/-- rows that are not there yet -/
def resetG (g : G) (d : Nat) : G := { g with len := fun t => if t.1 = d then 0 else g.len t }
theorem ext_reset (g : G) (d : Nat) (w : World) : Ext (some d) g (resetG g d) w w :=
  ⟨Nat.le_refl _, fun _ _ => rfl, fun t h => ⟨rfl, if_neg (fun e => h (by rw [e])), rfl, rfl⟩, fun _ _ => rfl, fun _ _ => rfl, fun _ _ => rfl⟩
/-- .. of a new row -/
def newRowG (g : G) (t : Tok) (e : TypeId) (nb n k : Nat) (p : Nat) : G :=
  { prot := fun b => if b = nb then p else g.prot b, owner := fun b => if b = nb then some (.inr t) else g.owner b, θ := g.θ, ρ := fun u => if u = t then nb else g.ρ u, len := fun u => if u = t then n else g.len u, wid := fun u => if u = t then k else g.wid u, ety := fun u => if u = t then e else g.ety u }

theorem ext_box (d : Nat) (o : Obj) : Ext (some d) g (newBox g d w.heap.size) w (w.alloc o) := by
  refine ⟨by simp, fun id h => ?_, fun t h => ⟨rfl, if_neg (fun e => h (by rw [e])), rfl, rfl⟩, fun b h => rfl, fun b h => ?_, fun b h => Below.heap_alloc w o b h⟩
  · show (if id = d then _ else _) = _
    rw [if_neg (fun e => h (by rw [e]))]
  · show (if b = w.heap.size then _ else _) = _
    rw [if_neg (by omega)]
theorem ext_row (t : Tok) (e : TypeId) (n k p : Nat) (o : Obj) : Ext (some t.1) g (newRowG g t e w.heap.size n k p) w (w.alloc o) := by
  refine ⟨by simp, fun id h => rfl, fun u h => ?_, fun b h => ?_, fun b h => ?_, fun b h => Below.heap_alloc w o b h⟩
  · have : u ≠ t := fun e => h (by rw [e])
    exact ⟨if_neg this, if_neg this, if_neg this, if_neg this⟩
  · show (if b = w.heap.size then _ else _) = _
    rw [if_neg (by omega)]
  · show (if b = w.heap.size then _ else _) = _
    rw [if_neg (by omega)]

theorem hlook_hput (i : Nat) (v : List Ce × List D) : ∀ (h : Boxes) (j : Nat), hlook j (hput i v h) = if j = i then some v else hlook j h
  | [], j => by
    by_cases e : j = i
    · subst e; simp [hput, hlook]
    · rw [if_neg e]; simp only [hput, hlook]; rw [show (j == i) = false from by simpa using e]; rfl
  | (k, u) :: r, j => by
    unfold hput
    by_cases hk : i = k
    · subst hk
      simp only [beq_self_eq_true, cond_true, hlook]
      by_cases e : j = i
      · subst e; simp
      · rw [if_neg e, show (j == i) = false from by simpa using e]; rfl
    · rw [show (i == k) = false from by simpa using hk, cond_false]
      simp only [hlook]
      rw [hlook_hput i v r j]
      by_cases e : j = k
      · subst e
        simp [Ne.symm hk]
      · rw [show (j == k) = false from by simpa using e]; simp
theorem hlook_map_ne (f : Ce → Ce) (σ : St) (i : Nat) : hlook i (σ.map f).h = (hlook i σ.h).map fun q => (q.1.map f, q.2) := hlook_map (List.map f) σ.h i

/-- the state without box d, wiped: as if it had not been -/
theorem Rel.wipeBox {d₀ : Nat} (hr : Rel P w g base σ a) (h : Ext (some d₀) g g' w w') (hf : ∀ b, w'.heap.size ≤ b → g'.prot b = 0 ∧ g'.owner b = none) {cs : List Ce} {ds : List D}
    (hb : BoxV P w' g' base d₀ cs ds) : Rel P w' g' base ⟨(σ.wipe d₀).r, (σ.wipe d₀).e, hput d₀ (cs, ds) (σ.wipe d₀).h⟩ a := by
  have hk : Kept P base g g' w w' (wipeC d₀) := fun c x v hv => h.vc hr.base_le hv
  refine ⟨fun i => hr.envMap hk rfl i, fun id cs' ds' hl => ?_, hf, Nat.le_trans hr.base_le h.size, hr.defers, h.low hr⟩
  rw [hlook_hput] at hl
  by_cases e : id = d₀
  · rw [if_pos e] at hl
    injection hl with hl
    injection hl with h1 h2
    subst h1; subst h2; subst e
    exact hb
  · rw [if_neg e] at hl
    refine hr.boxMap hk hl fun cs ds hq => ?_
    obtain ⟨k1, k2, k3, kl, arr, E, k4, k5⟩ := hr.box id cs ds hq
    have hlt := lt_of_heap k4
    exact ⟨h.θ id (by intro e'; injection e' with e'; exact e e'), h.owner _ hlt, h.prot _ hlt, h.heap _ hlt⟩
/-- a wiped state in which box d, if it is there, is still what it was -/
theorem Rel.wipeRow {d₀ : Nat} (hr : Rel P w g base σ a) (h : Ext (some d₀) g g' w w') (hθ : g'.θ = g.θ) (hf : ∀ b, w'.heap.size ≤ b → g'.prot b = 0 ∧ g'.owner b = none) : Rel P w' g' base (σ.wipe d₀) a := by
  have hk : Kept P base g g' w w' (wipeC d₀) := fun c x v hv => h.vc hr.base_le hv
  refine ⟨fun i => hr.envMap hk rfl i, fun id cs ds hl => hr.boxMap hk hl fun cs ds hq => ?_, hf, Nat.le_trans hr.base_le h.size, hr.defers, h.low hr⟩
  obtain ⟨k1, k2, k3, kl, arr, E, k4, k5⟩ := hr.box id cs ds hq
  have hlt := lt_of_heap k4
  exact ⟨by rw [hθ], h.owner _ hlt, h.prot _ hlt, h.heap _ hlt⟩

theorem heap_new (w : World) (o : Obj) : (w.alloc o).heap[w.heap.size]? = some o := by
  show (w.heap.push o)[w.heap.size]? = _
  simp
theorem fresh_box (hr : Rel P w g base σ a) (d : Nat) (o : Obj) : ∀ b, (w.alloc o).heap.size ≤ b → (newBox g d w.heap.size).prot b = 0 ∧ (newBox g d w.heap.size).owner b = none := by
  intro b hb
  have hb' : w.heap.size + 1 ≤ b := by simpa using hb
  have := hr.fresh b (by omega)
  exact ⟨this.1, by show (if b = w.heap.size then _ else _) = _; rw [if_neg (by omega)]; exact this.2⟩
theorem fresh_row (hr : Rel P w g base σ a) (t : Tok) (e : TypeId) (n k p : Nat) (o : Obj) : ∀ b, (w.alloc o).heap.size ≤ b → (newRowG g t e w.heap.size n k p).prot b = 0 ∧ (newRowG g t e w.heap.size n k p).owner b = none := by
  intro b hb
  have hb' : w.heap.size + 1 ≤ b := by simpa using hb
  have := hr.fresh b (by omega)
  exact ⟨by show (if b = w.heap.size then _ else _) = _; rw [if_neg (by omega)]; exact this.1, by show (if b = w.heap.size then _ else _) = _; rw [if_neg (by omega)]; exact this.2⟩

theorem run_newRow (e : TypeId) (cs : Array Value) : (newRow e cs).run P w = .ok ⟨w.heap.size, 0, none⟩ (w.alloc (.cells cs e)) := by
  simp [newRow, newObj, Sem.run]

/-- what an operation may do: it hands out a value, in a world below which nothing has turned -/
def Does (P : Program) (base : Nat) (σ' : St) (o : Oper) (a : Act) (w : World) : Prop :=
  ∃ z w' g', ((execOp a.eval o).run P w = .ok (.value z) w' ∨ ((execOp a.eval o).run P w = .ok .skip w' ∧ z = undef)) ∧ Rel P w' g' base σ' (a.put o.dst z) ∧ Below base w w'

/-- the same, and what was there stays -/
def DoesC (P : Program) (base : Nat) (σ' : St) (o : Oper) (a : Act) (w : World) : Prop :=
  ∃ z w' g', ((execOp a.eval o).run P w = .ok (.value z) w' ∨ ((execOp a.eval o).run P w = .ok .skip w' ∧ z = undef)) ∧ Rel P w' g' base σ' (a.put o.dst z) ∧ Below base w w' ∧ Below w.heap.size w w'
theorem DoesC.does {P : Program} {base : Nat} {σ' : St} {o : Oper} {a : Act} {w : World} (h : DoesC P base σ' o a w) : Does P base σ' o a w := by
  obtain ⟨z, w', g', h1, h2, h3, _⟩ := h
  exact ⟨z, w', g', h1, h2, h3⟩

theorem evPure_ok (hr : Rel P w g base σ a) {o : Oper} {σ' : St} (hd : ∀ d, o.dst = some d → d < a.tmps.size) (h : evPure P σ o = some (σ', true)) : Does P base σ' o a w := by
  unfold evPure at h
  split at h
  · rename_i v ok hq
    simp only [Option.some.injEq, Prod.mk.injEq] at h
    obtain ⟨rfl, rfl⟩ := h
    obtain ⟨z, h1, h2⟩ := evQ_ok hr hq
    have h1 := h1 w (.inl (Below.refl _ _))
    exact ⟨z, w, g, .inl h1, hr.put hd h2, Below.refl _ _⟩
  · cases h

/-- the cells of a value -/
theorem cells_length {v : T} {cs : List Ce} {ds : List D} (h : v.cells = some (cs, ds)) : ds.length = cs.length := by
  obtain ⟨sh, p⟩ := v
  unfold T.cells at h
  simp only at h
  split at h
  · rename_i x
    cases hx : (x == Ce.any) with
    | true => rw [hx] at h; cases h
    | false => rw [hx] at h; simp only [cond_false, Option.some.injEq, Prod.mk.injEq] at h; obtain ⟨rfl, rfl⟩ := h; rfl
  · rename_i xs
    cases hx : xs.contains Ce.any with
    | true => rw [hx] at h; cases h
    | false => rw [hx] at h; simp only [cond_false, Option.some.injEq, Prod.mk.injEq] at h; obtain ⟨rfl, rfl⟩ := h; exact sub_length _ _ _
  · cases h

theorem cells_ok {v : T} {u : Value} {cs : List Ce} {ds : List D} (h : v.cells = some (cs, ds)) (hv : VT P w g base v u) : VCs P w g base cs ds u.cells ∧ (∀ c ∈ cs, c ≠ .any) := by
  obtain ⟨sh, p⟩ := v
  cases sh with
  | tup xs => cases h
  | one x => cases x with
    | c x =>
      simp only [T.cells] at h
      cases hx : (x == Ce.any) with
      | true => rw [hx] at h; cases h
      | false =>
        rw [hx] at h
        simp only [cond_false, Option.some.injEq, Prod.mk.injEq] at h
        obtain ⟨rfl, rfl⟩ := h
        have hv : VC P w g base x (gd p 0) u := hv
        have hx : x ≠ .any := by simpa using hx
        have hf := hv.flat hx
        have hc : u.cells = #[u] := by cases u <;> simp_all [flatV, Value.cells]
        refine ⟨⟨by rw [hc]; rfl, fun j c hj => ?_⟩, by simpa using hx⟩
        cases j with
        | succ j => simp at hj
        | zero =>
          simp only [List.getElem?_cons_zero, Option.some.injEq] at hj
          subst hj
          exact ⟨u, by rw [hc]; rfl, hv⟩
    | agg xs =>
      simp only [T.cells] at h
      cases hx : xs.contains Ce.any with
      | true => rw [hx] at h; cases h
      | false =>
        rw [hx] at h
        simp only [cond_false, Option.some.injEq, Prod.mk.injEq] at h
        obtain ⟨rfl, rfl⟩ := h
        obtain ⟨arr, rfl, h1, h2⟩ := hv
        refine ⟨⟨h1, fun j c hj => ?_⟩, fun c hc e => ?_⟩
        · obtain ⟨z, k1, k2⟩ := h2 j c hj
          exact ⟨z, k1, by rw [gd_sub _ _ _ _ (List.getElem?_eq_some_iff.1 hj).1, Nat.zero_add]; exact k2⟩
        · subst e
          have := List.contains_iff_mem.2 hc
          rw [this] at hx
          cases hx

theorem evBox_ok (hr : Rel P w g base σ a) {o : Oper} {σ' : St} {d : Nat} {t : TypeId} {x : Operand} (ho : o.op = .box t x) (hdst : o.dst = some d) (hd : ∀ d, o.dst = some d → d < a.tmps.size) (h : evBox σ d x = some (σ', true)) : DoesC P base σ' o a w := by
  unfold evBox at h
  have hE := ext_box (g := g) (w := w) d (.cells (a.eval x).cells t)
  have hF := fresh_box hr d (.cells (a.eval x).cells t)
  have hk : Kept P base g _ w _ (wipeC d) := fun c x v hv => hE.vc hr.base_le hv
  cases hc : (opd (σ.wipe d) x).cells with
  | none => rw [hc] at h; cases h
  | some q =>
    obtain ⟨cs, ds⟩ := q
    rw [hc] at h
    simp only [Option.some.injEq, Prod.mk.injEq, and_true] at h
    subst h
    have hr0 : Rel P (w.alloc (.cells (a.eval x).cells t)) (newBox g d w.heap.size) base ⟨(σ.wipe d).r, (σ.wipe d).e, []⟩ a :=
      ⟨fun i => hr.envMap hk rfl i, fun id cs ds hl => by simp [hlook] at hl, hF, Nat.le_trans hr.base_le hE.size, hr.defers, hE.low hr⟩
    have hox : VT P (w.alloc (.cells (a.eval x).cells t)) (newBox g d w.heap.size) base (opd (σ.wipe d) x) (a.eval x) := by
      have := opd_ok hr0 x
      exact this
    obtain ⟨hcs, _⟩ := cells_ok hc hox
    have hbox : BoxV P (w.alloc (.cells (a.eval x).cells t)) (newBox g d w.heap.size) base d cs ds := by
      have hθ : (newBox g d w.heap.size).θ d = w.heap.size := if_pos rfl
      refine ⟨by rw [hθ]; exact hr.base_le, by rw [hθ]; exact if_pos rfl, by rw [hθ]; exact (hr.fresh _ (Nat.le_refl _)).1, cells_length hc, (a.eval x).cells, t, by rw [hθ]; exact heap_new w _, hcs⟩
    have hrel := hr.wipeBox hE hF hbox
    refine ⟨.pointer (some ⟨w.heap.size, 0, none⟩), _, _, .inl ?_, hrel.put hd (t := .c (.ptr d 0) D0) ?_ |> fun h => by rw [hdst] at h ⊢; exact h, (Below.refl _ _).alloc hr.base_le _, (Below.refl _ _).alloc (Nat.le_refl _) _⟩
    · simp only [execOp, ho, Instr.box, newVar, Sem.run_bind, run_newRow, Result.andThen_ok, Sem.run_pure]
    · show Value.pointer _ = Value.pointer (some ⟨(newBox g d w.heap.size).θ d, 0, none⟩)
      rw [show (newBox g d w.heap.size).θ d = w.heap.size from if_pos rfl]

theorem zero_get : ∀ {row : List S} {vs : List Value}, zeroMatch P row vs = true → vs.length = row.length ∧ ∀ (j : Nat) (s : S), row[j]? = some s → ∃ u, vs[j]? = some u ∧ (∀ (w : World) (prot : Nat → Nat), VD P w prot s (zeroD s) u) ∧ (∀ e, s = .sl e → u = .slice none 0 0 ∧ ∃ r, rowOf P e = some r)
  | [], [], _ => ⟨rfl, fun j s h => by simp at h⟩
  | [], _ :: _, h => by simp [zeroMatch] at h
  | s :: r, [], h => by cases s <;> simp [zeroMatch] at h
  | s :: r, v :: vs, h => by
    have key : zeroMatch P r vs = true ∧ (∀ (w : World) (prot : Nat → Nat), VD P w prot s (zeroD s) v) ∧ (∀ e, s = .sl e → v = .slice none 0 0 ∧ ∃ r, rowOf P e = some r) := by
      cases s with
      | int k =>
        cases v <;> simp only [zeroMatch, Bool.and_eq_true, beq_iff_eq, reduceCtorEq, Bool.false_eq_true] at h
        obtain ⟨⟨rfl, rfl⟩, h⟩ := h
        exact ⟨h, fun w prot => VD.int _ (.i 0), fun e he => by cases he⟩
      | bool =>
        cases v <;> simp only [zeroMatch, Bool.and_eq_true, beq_iff_eq, reduceCtorEq, Bool.false_eq_true, Bool.not_eq_true'] at h
        obtain ⟨rfl, h⟩ := h
        exact ⟨h, fun w prot => VD.bool (.b false), fun e he => by cases he⟩
      | str =>
        cases v <;> simp only [zeroMatch, Bool.and_eq_true, beq_iff_eq, reduceCtorEq, Bool.false_eq_true] at h
        rename_i b
        obtain ⟨h0, h⟩ := h
        have hb : b = bsv [] := by
          have : b.data.toList = [] := by simpa using h0
          rw [← bsv_byteList b]
          unfold byteList
          rw [this]
        subst hb
        exact ⟨h, fun w prot => VD.str (.s []), fun e he => by cases he⟩
      | sl e =>
        cases v with
        | slice A n c =>
          cases A with
          | some A => simp [zeroMatch] at h
          | none =>
            cases n with
            | succ n => simp [zeroMatch] at h
            | zero =>
              cases c with
              | succ c => simp [zeroMatch] at h
              | zero =>
                simp only [zeroMatch, Bool.and_eq_true] at h
                obtain ⟨h0, h⟩ := h
                obtain ⟨row', hr⟩ := Option.isSome_iff_exists.1 h0
                refine ⟨h, fun w prot => ?_, fun e' he => by cases he; exact ⟨rfl, row', hr⟩⟩
                exact VD.sl e (.l []) none 0 row' (fun _ _ => undef) hr (by simp [D.rows]) (by omega) (fun i j hi => by simp [D.rows] at hi) (fun i j s hi => by simp [D.rows] at hi)
        | _ => simp [zeroMatch] at h
    obtain ⟨h1, h2, h3⟩ := key
    obtain ⟨k1, k2⟩ := zero_get h1
    refine ⟨by simp [k1], fun j s' hj => ?_⟩
    cases j with
    | zero =>
      simp only [List.getElem?_cons_zero, Option.some.injEq] at hj
      subst hj
      exact ⟨v, rfl, h2, h3⟩
    | succ j => exact k2 j s' (by simpa using hj)

theorem zeroC_get (d : Nat) : ∀ (row : List S) (i j : Nat) c, (zeroC d i row)[j]? = some c → ∃ s, row[j]? = some s ∧ ((∃ e, s = .sl e ∧ c = .own (d, i + j) true e) ∨ c = .d s)
  | [], i, j, c, h => by simp [zeroC] at h
  | s :: r, i, j, c, h => by
    cases j with
    | zero =>
      simp only [zeroC, List.getElem?_cons_zero, Option.some.injEq] at h
      subst h
      refine ⟨s, rfl, ?_⟩
      cases s with
      | sl e => exact .inl ⟨e, rfl, rfl⟩
      | _ => exact .inr rfl
    | succ j =>
      obtain ⟨s', h1, h2⟩ := zeroC_get d r (i + 1) j c (by simpa [zeroC] using h)
      exact ⟨s', by simpa using h1, by rw [show i + (j + 1) = i + 1 + j from by omega]; exact h2⟩
theorem zeroC_length (d : Nat) : ∀ (row : List S) (i : Nat), (zeroC d i row).length = row.length
  | [], _ => rfl
  | s :: r, i => by
    rw [zeroC, List.length_cons, List.length_cons, zeroC_length d r (i + 1)]
theorem gd_map_zero (row : List S) (j : Nat) (s : S) (h : row[j]? = some s) : gd (row.map zeroD) j = zeroD s := by
  simp [gd, List.getD_eq_getElem?_getD, List.getElem?_map, h]

theorem zero_vcs {row : List S} {vs : Array Value} (h : zeroMatch P row vs.toList = true) (d i : Nat) (h0 : ∀ i, g.len (d, i) = 0) : VCs P w g base (zeroC d i row) (row.map zeroD) vs := by
  obtain ⟨h1, h2⟩ := zero_get h
  refine ⟨by rw [zeroC_length]; simpa using h1, fun j c hj => ?_⟩
  obtain ⟨s, hs, hc⟩ := zeroC_get d row i j c hj
  obtain ⟨u, hu, hv, hsl⟩ := h2 j s hs
  refine ⟨u, by simpa using hu, ?_⟩
  rw [gd_map_zero row j s hs]
  rcases hc with ⟨e, rfl, rfl⟩ | rfl
  · obtain ⟨rfl, r, hr⟩ := hsl e rfl
    exact ⟨r, hr, .inl ⟨rfl, h0 _, none, rfl⟩⟩
  · exact hv w g.prot

theorem zeroOk_ok {t : TypeId} {row : List S} (h : zeroOk P t row = true) : ∃ i v, P.info? t = some i ∧ i.zero = some v ∧ zeroMatch P row v.cells.toList = true := by
  unfold zeroOk at h
  split at h
  · rename_i i hi
    split at h
    · rename_i v hv
      exact ⟨i, v, hi, hv, h⟩
    · cases h
  · cases h
theorem run_zero {t : TypeId} {i : TypeInfo} {v : Value} (hi : P.info? t = some i) (hz : i.zero = some v) (w : World) : (zeroValue t).run P w = .ok v w := by
  simp [zeroValue, typeInfo, program, hi, hz, Sem.run]

/-- what was there stays -/
def DoesB (P : Program) (base : Nat) (σ' : St) (o : Oper) (a : Act) (w : World) : Prop :=
  ∃ z w' g', (execOp a.eval o).run P w = .ok (.value z) w' ∧ Rel P w' g' base σ' (a.put o.dst z) ∧ Below base w w' ∧ Below w.heap.size w w' ∧ z = .pointer (some ⟨w.heap.size, 0, none⟩)
theorem evAlloc_okB (hr : Rel P w g base σ a) {o : Oper} {σ' : St} {d : Nat} {t : TypeId} (ho : o.op = .alloc t) (hdst : o.dst = some d) (hd : ∀ d, o.dst = some d → d < a.tmps.size) (h : evAlloc P σ d t = some (σ', true)) : DoesB P base σ' o a w := by
  unfold evAlloc at h
  split at h
  · rename_i row hrow
    cases hz : zeroOk P t row with
    | false => rw [hz] at h; cases h
    | true =>
      rw [hz] at h
      simp only [Bool.not_true, cond_false, Option.some.injEq, Prod.mk.injEq, and_true] at h
      subst h
      obtain ⟨ti, v, hi, hv, hm⟩ := zeroOk_ok hz
      have hE := ext_box (g := g) (w := w) d (.cells v.cells t)
      have hF := fresh_box hr d (.cells v.cells t)
      have hθ : (newBox g d w.heap.size).θ d = w.heap.size := if_pos rfl
      have hbox : BoxV P (w.alloc (.cells v.cells t)) (newBox g d w.heap.size) base d (zeroC d 0 row) (row.map zeroD) :=
        ⟨by rw [hθ]; exact hr.base_le, by rw [hθ]; exact if_pos rfl, by rw [hθ]; exact (hr.fresh _ (Nat.le_refl _)).1, by simp [zeroC_length], v.cells, t, by rw [hθ]; exact heap_new w _, zero_vcs hm d 0 (fun i => if_pos rfl)⟩
      have hrel := hr.wipeBox hE hF hbox
      refine ⟨.pointer (some ⟨w.heap.size, 0, none⟩), _, _, ?_, hrel.put hd (t := .c (.ptr d 0) D0) ?_ |> fun h => by rw [hdst] at h ⊢; exact h, (Below.refl _ _).alloc hr.base_le _, (Below.refl _ _).alloc (Nat.le_refl _) _, rfl⟩
      · simp only [execOp, ho, Instr.alloc, newVar, Sem.run_bind, run_zero hi hv, run_newRow, Result.andThen_ok, Sem.run_pure]
      · show Value.pointer _ = Value.pointer (some ⟨(newBox g d w.heap.size).θ d, 0, none⟩)
        rw [hθ]
  · cases h

theorem evAlloc_ok (hr : Rel P w g base σ a) {o : Oper} {σ' : St} {d : Nat} {t : TypeId} (ho : o.op = .alloc t) (hdst : o.dst = some d) (hd : ∀ d, o.dst = some d → d < a.tmps.size) (h : evAlloc P σ d t = some (σ', true)) : Does P base σ' o a w := by
  obtain ⟨z, w', g', h1, h2, h3, _⟩ := evAlloc_okB hr ho hdst hd h
  exact ⟨z, w', g', .inl h1, h2, h3⟩

theorem evNil_ok (hr : Rel P w g base σ a) {o : Oper} {σ' : St} {d : Nat} (ho : o.op = .assign (.const (.slice none 0 0))) (hdst : o.dst = some d) (hd : ∀ d, o.dst = some d → d < a.tmps.size) (h : evNil P σ d o.type = some (σ', true)) : DoesC P base σ' o a w := by
  unfold evNil at h
  split at h
  · rename_i e he
    cases hz : (rowOf P e).isSome with
    | false => rw [hz] at h; cases h
    | true =>
      rw [hz] at h
      simp only [cond_true, Option.some.injEq, Prod.mk.injEq, and_true] at h
      subst h
      obtain ⟨row, hrow⟩ := Option.isSome_iff_exists.1 hz
      have hrel := hr.wipeRow (ext_reset g d w) rfl hr.fresh
      refine ⟨.slice none 0 0, w, resetG g d, .inl (by simp [execOp, ho, Act.eval]), hrel.put hd (t := .c (.own (d, 0) true e) (.l [])) ?_ |> fun h => by rw [hdst] at h ⊢; exact h, Below.refl _ _, Below.refl _ _⟩
      exact ⟨row, hrow, .inl ⟨rfl, if_pos rfl, none, rfl⟩⟩
  · cases h
end
end Go.Proofs.YtchceahcaaibcaaGreat
namespace Go.Proofs.YtchceahcaaibcaaGreat
set_option linter.unusedSimpArgs false
open Go.RowKit
set_option linter.unusedVariables false
set_option linter.unusedSectionVars false

section
variable [Low] {P : Program} {w w' : World} {g g' : G} {base : Nat} {σ : St} {a : Act}

/-- the rows of these tokens are written no more in place -/
def sealG (g : G) (ts : List Tok) : G :=
  { g with prot := fun b => match g.owner b with
      | some (.inr t) => if ts.contains t = true ∧ g.ρ t = b then max (g.prot b) (g.len t * g.wid t) else g.prot b
      | _ => g.prot b }
theorem seal_le (g : G) (ts : List Tok) (b : Nat) : g.prot b ≤ (sealG g ts).prot b := by
  show _ ≤ (match g.owner b with | some (.inr t) => if ts.contains t = true ∧ g.ρ t = b then max (g.prot b) (g.len t * g.wid t) else g.prot b | _ => g.prot b)
  split
  · split
    · exact Nat.le_max_left _ _
    · exact Nat.le_refl _
  · exact Nat.le_refl _
theorem seal_at {ts : List Tok} {t : Tok} (ho : g.owner (g.ρ t) = some (.inr t)) : (sealG g ts).prot (g.ρ t) = if ts.contains t = true then max (g.prot (g.ρ t)) (g.len t * g.wid t) else g.prot (g.ρ t) := by
  show (match g.owner (g.ρ t) with | some (.inr u) => if ts.contains u = true ∧ g.ρ u = g.ρ t then max (g.prot (g.ρ t)) (g.len u * g.wid u) else g.prot (g.ρ t) | _ => g.prot (g.ρ t)) = _
  rw [ho]
  simp
theorem seal_box {ts : List Tok} {b id : Nat} (ho : g.owner b = some (.inl id)) : (sealG g ts).prot b = g.prot b := by
  show (match g.owner b with | some (.inr u) => if ts.contains u = true ∧ g.ρ u = b then max (g.prot b) (g.len u * g.wid u) else g.prot b | _ => g.prot b) = _
  rw [ho]
theorem seal_none {ts : List Tok} {b : Nat} (ho : g.owner b = none) : (sealG g ts).prot b = g.prot b := by
  show (match g.owner b with | some (.inr u) => if ts.contains u = true ∧ g.ρ u = b then max (g.prot b) (g.len u * g.wid u) else g.prot b | _ => g.prot b) = _
  rw [ho]
theorem seal_vd {ts : List Tok} {s : S} {x : D} {v : Value} (h : VD P w g.prot s x v) : VD P w (sealG g ts).prot s x v :=
  h.mono fun b o u ho hc => ⟨hc, Nat.lt_of_lt_of_le ho (seal_le g ts b)⟩
theorem seal_own {ts : List Tok} {t : Tok} {xm : Bool} {e : TypeId} {row : List S} {rows : List (List D)} {v : Value} (h : OwnV P w g base t xm e row rows v) : OwnV P w (sealG g ts) base t (xm && !ts.contains t) e row rows v := by
  rcases h with h | ⟨cap, arr, E, h1, h2, h3, h4, h5, h6, h7, h8, h9, h10, h11⟩
  · exact .inl h
  · refine .inr ⟨cap, arr, E, h1, h2, h3, h4, h5, h6, h7, h8, h9, ?_, fun i j s hi hs => ?_⟩
    · show (sealG g ts).prot (g.ρ t) = if (xm && !ts.contains t) = true then 0 else g.len t * g.wid t
      rw [seal_at h5, h10]
      cases hc : ts.contains t <;> cases xm <;> simp
    · obtain ⟨u, k1, k2⟩ := h11 i j s hi hs
      exact ⟨u, k1, seal_vd k2⟩
theorem kept_seal (g : G) (ts : List Tok) (w : World) : Kept P base g (sealG g ts) w w (sealC ts) := by
  intro c x v hv
  cases c with
  | any => trivial
  | d s => exact seal_vd hv
  | kb b => exact hv
  | own t xm e =>
    obtain ⟨row, hr, hv⟩ := hv
    exact ⟨row, hr, seal_own hv⟩
  | ptr id off => exact hv
  | eptr tk e off =>
    cases tk with
    | none =>
      obtain ⟨row, b, o, h1, h2, h3, h4⟩ := hv
      refine ⟨row, b, o, h1, h2, h3, fun j s hs => ?_⟩
      obtain ⟨u, k1, k2, k3⟩ := h4 j s hs
      exact ⟨u, k1, Nat.lt_of_lt_of_le k2 (seal_le g ts b), seal_vd k3⟩
    | some t =>
      obtain ⟨row, h1, h2, h3, u, h4⟩ := hv
      change VC P w (sealG g ts) base (.eptr (bif ts.contains t then none else some t) e off) x v
      cases hc : ts.contains t with
      | false =>
        have := seal_own (ts := ts) h4
        rw [hc] at this
        exact ⟨row, h1, h2, h3, u, this⟩
      | true =>
        rcases h4 with ⟨h0, _⟩ | ⟨cap, arr, E, k1, k2, k3, k4, k5, k6, k7, k8, k9, k10, k11⟩
        · rw [h0] at h3; simp at h3
        · refine ⟨row, g.ρ t, 0, h1, by rw [Nat.zero_add]; exact h2, h3, fun j s hs => ?_⟩
          obtain ⟨u', j1, j2⟩ := k11 _ j s h3 hs
          refine ⟨u', by simp only [World.cell?, k6, Nat.zero_add]; exact j1, ?_, seal_vd j2⟩
          rw [seal_at k5, hc, if_pos rfl, Nat.zero_add]
          have hj := (List.getElem?_eq_some_iff.1 hs).1
          have : eIx x * row.length + row.length ≤ (eRows x).length * row.length := by
            rw [← Nat.succ_mul]; exact Nat.mul_le_mul_right _ h3
          rw [k8] at this
          rw [← k9]
          exact Nat.lt_of_lt_of_le (by omega) (Nat.le_max_right _ _)
  | cptr cells off =>
    obtain ⟨b, o, h1, h2, h3⟩ := hv
    refine ⟨b, o, h1, h2, fun j s hs => ?_⟩
    obtain ⟨u, k1, k2⟩ := h3 j s hs
    exact ⟨u, k1, seal_vd k2⟩
  | fn f caps =>
    obtain ⟨arr, h1, h2, h3⟩ := hv
    refine ⟨arr, h1, h2, fun j c hc => ?_⟩
    obtain ⟨u, hu, hcap⟩ := h3 j c hc
    refine ⟨u, hu, ?_⟩
    cases c with
    | d s => exact seal_vd hcap
    | ptr id off => exact hcap
    | cptr cells off =>
      obtain ⟨b, o, h1, h2, h3⟩ := hcap
      refine ⟨b, o, h1, h2, fun j s hs => ?_⟩
      obtain ⟨u, k1, k2⟩ := h3 j s hs
      exact ⟨u, k1, seal_vd k2⟩
theorem Rel.seal (hr : Rel P w g base σ a) (ts : List Tok) : Rel P w (sealG g ts) base (σ.seal ts) a := by
  have hk : Kept P base g (sealG g ts) w w (sealC ts) := kept_seal g ts w
  refine ⟨fun i => hr.envMap hk rfl i, fun id cs ds hl => hr.boxMap hk hl fun cs ds hq => ?_, fun b hb => ?_, hr.base_le, hr.defers, fun b hb => ?_⟩
  · obtain ⟨k1, k2, k3, kl, arr, E, k4, k5⟩ := hr.box id cs ds hq
    exact ⟨rfl, rfl, seal_box k2, rfl⟩
  · have := hr.fresh b hb
    exact ⟨by rw [seal_none this.2]; exact this.1, this.2⟩
  · have := hr.low b hb
    exact ⟨this.1, by rw [seal_none this.1]; exact this.2⟩

/-- a cell that is laid down or handed on -/
theorem toD_ok {ts : List Tok} {c : Ce} {s : S} {x : D} {v : Value} (hv : VC P w g base c x v) (hs : c.toS = some s) (ht : ∀ t xm e, c = .own t xm e → ts.contains t = true) : VD P w (sealG g ts).prot s (c.toD x) v := by
  cases c with
  | d s' =>
    simp only [Ce.toS, Option.some.injEq] at hs
    subst hs
    exact seal_vd hv
  | kb b =>
    simp only [Ce.toS, Option.some.injEq] at hs
    subst hs
    have hv : v = .bool b := hv
    subst hv
    exact VD.bool (.b b)
  | own t xm e =>
    simp only [Ce.toS, Option.some.injEq] at hs
    subst hs
    obtain ⟨row, hr, hv⟩ := hv
    refine own_vd hr hv (seal_le g ts) fun hne => ?_
    rcases hv with ⟨h0, _⟩ | ⟨cap, arr, E, h1, h2, h3, h4, h5, rest⟩
    · exact absurd h0 hne
    · rw [seal_at h5, ht t xm e rfl, if_pos rfl]
      exact Nat.le_max_right _ _
  | _ => cases hs
theorem allS_get : ∀ {cs : List Ce} {ss : List S}, allS cs = some ss → ss.length = cs.length ∧ ∀ (j : Nat) s, ss[j]? = some s → ∃ c, cs[j]? = some c ∧ c.toS = some s
  | [], ss, h => by
    simp only [allS, Option.some.injEq] at h
    subst h
    exact ⟨rfl, fun j s h => by simp at h⟩
  | c :: cs, ss, h => by
    unfold allS at h
    split at h
    · rename_i d ds h1 h2
      injection h with h
      subst h
      obtain ⟨k1, k2⟩ := allS_get h2
      refine ⟨by simp [k1], fun j s hj => ?_⟩
      cases j with
      | zero =>
        simp only [List.getElem?_cons_zero, Option.some.injEq] at hj
        subst hj
        exact ⟨c, rfl, h1⟩
      | succ j => exact k2 j s (by simpa using hj)
    · cases h
theorem toDs_get : ∀ (cs : List Ce) (ds : List D) (j : Nat) c, cs[j]? = some c → gd (toDs cs ds) j = c.toD (gd ds j)
  | [], ds, j, c, h => by simp at h
  | c0 :: cs, ds, 0, c, h => by
    simp only [List.getElem?_cons_zero, Option.some.injEq] at h
    subst h; rfl
  | c0 :: cs, ds, j + 1, c, h => by
    rw [toDs, gd_cons_succ, toDs_get cs ds.tail j c (by simpa using h), gd_tail]
theorem mem_toks : ∀ {cs : List Ce} {t : Tok} {xm : Bool} {e : TypeId}, Ce.own t xm e ∈ cs → t ∈ toks cs
  | [], _, _, _, h => by simp at h
  | c :: cs, t, xm, e, h => by
    rcases List.mem_cons.1 h with h | h
    · subst h; simp [toks]
    · have := mem_toks h
      cases c <;> simp [toks, this]
/-- cells that are laid down -/
theorem row_ok {ts : List Tok} {cs : List Ce} {ds : List D} {ss : List S} {arr : Array Value} (hv : VCs P w g base cs ds arr) (hs : allS cs = some ss) (ht : ∀ t ∈ toks cs, ts.contains t = true) :
    arr.size = ss.length ∧ ∀ (j : Nat) s, ss[j]? = some s → ∃ u, arr[j]? = some u ∧ VD P w (sealG g ts).prot s (gd (toDs cs ds) j) u := by
  obtain ⟨h1, h2⟩ := allS_get hs
  refine ⟨by rw [hv.1, h1], fun j s hj => ?_⟩
  obtain ⟨c, hc, hcs⟩ := h2 j s hj
  obtain ⟨u, hu, hvc⟩ := hv.2 j c hc
  refine ⟨u, hu, ?_⟩
  rw [toDs_get cs ds j c hc]
  exact toD_ok hvc hcs fun t xm e he => ht t (mem_toks (he ▸ List.mem_of_getElem? hc))

theorem litRows_ok (hr : Rel P w g base σ a) {row : List S} {ts : List Tok} : ∀ {parts : List (Nat × Operand)} {k : Nat} {rows : List (List D)} {ts' : List Tok}, litRows σ row parts k = some (rows, ts') → (∀ t ∈ ts', ts.contains t = true) →
    ∃ vs : List Value, parts.map (fun p => (p.1, a.eval p.2)) = (vs.zipIdx k).map (fun x => (x.2, x.1)) ∧ vs.length = parts.length ∧ rows.length = parts.length ∧ (∀ v ∈ vs, v.cells.size = row.length) ∧
      ∀ (i : Nat) v (j : Nat) s, vs[i]? = some v → row[j]? = some s → ∃ u, v.cells[j]? = some u ∧ VD P w (sealG g ts).prot s (gd (rows.getD i []) j) u
  | [], k, rows, ts', h, _ => by
    simp only [litRows, Option.some.injEq, Prod.mk.injEq] at h
    obtain ⟨rfl, rfl⟩ := h
    exact ⟨[], rfl, rfl, rfl, fun v hv => by simp at hv, fun i v j s hi => by simp at hi⟩
  | (i, x) :: r, k, rows, ts', h, ht => by
    unfold litRows at h
    cases hik : (i == k) with
    | false => rw [hik] at h; cases h
    | true =>
      rw [hik, cond_true] at h
      have hik : i = k := by simpa using hik
      subst hik
      split at h
      · rename_i cs ds rows0 ts0 h1 h2
        cases hss : (allS cs == some row) with
        | false => rw [hss] at h; cases h
        | true =>
          rw [hss] at h
          have hss : allS cs = some row := by simpa using hss
          simp only [cond_true, Option.some.injEq, Prod.mk.injEq] at h
          obtain ⟨rfl, rfl⟩ := h
          obtain ⟨vs, k1, k2, k3, k4, k5⟩ := litRows_ok hr h2 (fun t hh => ht t (List.mem_append.2 (.inr hh)))
          obtain ⟨hcs, _⟩ := cells_ok h1 (opd_ok hr x)
          obtain ⟨m1, m2⟩ := row_ok hcs hss (fun t hh => ht t (List.mem_append.2 (.inl hh)))
          refine ⟨a.eval x :: vs, by simp [k1], by simp [k2], by simp [k3], fun v hv => ?_, fun i v j s hi hs => ?_⟩
          · rcases List.mem_cons.1 hv with rfl | hv
            · exact m1
            · exact k4 v hv
          · cases i with
            | zero =>
              simp only [List.getElem?_cons_zero, Option.some.injEq] at hi
              subst hi
              exact m2 j s hs
            | succ i => exact k5 i v j s (by simpa using hi) hs
      · cases h

theorem VD.ext {d : Option Nat} (h : Ext d g g' w w') {s : S} {x : D} {v : Value} (hv : VD P w g.prot s x v) : VD P w' g'.prot s x v := h.vd hv

/-- a new row that the call owns -/
theorem newRow_own {w : World} (hr : Rel P w g base σ a) {d : Nat} {e : TypeId} {row : List S} {rows : List (List D)} {arr : Array Value} (hrow : rowOf P e = some row) (hsz : arr.size = rows.length * row.length)
    (hle : rows.length ≤ 9223372036854775807) (hv : ∀ (i j : Nat) s, i < rows.length → row[j]? = some s → ∃ u, arr[i * row.length + j]? = some u ∧ VD P w g.prot s (gd (rows.getD i []) j) u) :
    Rel P (w.alloc (.cells arr e)) (newRowG g (d, 0) e w.heap.size rows.length row.length 0) base (σ.wipe d) a ∧
    VT P (w.alloc (.cells arr e)) (newRowG g (d, 0) e w.heap.size rows.length row.length 0) base (.c (.own (d, 0) true e) (.l rows)) (.slice (some ⟨w.heap.size, 0, none⟩) rows.length rows.length) := by
  have hE := ext_row (g := g) (w := w) (d, 0) e rows.length row.length 0 (.cells arr e)
  refine ⟨hr.wipeRow hE rfl (fresh_row hr _ _ _ _ _ _), row, hrow, ?_⟩
  have e1 : (newRowG g (d, 0) e w.heap.size rows.length row.length 0).ρ (d, 0) = w.heap.size := if_pos rfl
  have e2 : (newRowG g (d, 0) e w.heap.size rows.length row.length 0).len (d, 0) = rows.length := if_pos rfl
  have e3 : (newRowG g (d, 0) e w.heap.size rows.length row.length 0).wid (d, 0) = row.length := if_pos rfl
  have e4 : (newRowG g (d, 0) e w.heap.size rows.length row.length 0).prot w.heap.size = 0 := if_pos rfl
  have e5 : (newRowG g (d, 0) e w.heap.size rows.length row.length 0).owner w.heap.size = some (.inr (d, 0)) := if_pos rfl
  have e6 : (newRowG g (d, 0) e w.heap.size rows.length row.length 0).ety (d, 0) = e := if_pos rfl
  refine .inr ⟨rows.length, arr, e, by rw [e1]; rfl, Nat.le_refl _, ⟨hle, rfl, e6.symm⟩, by rw [e1]; exact hr.base_le, by rw [e1]; exact e5, by rw [e1]; exact heap_new w _, hsz, e2.symm, e3.symm, by rw [e1]; exact e4, fun i j s hi hs => ?_⟩
  obtain ⟨u, k1, k2⟩ := hv i j s hi hs
  exact ⟨u, k1, hE.vd k2⟩

theorem evBuildSlice_ok (hr : Rel P w g base σ a) {o : Oper} {σ' : St} {d n : Nat} {t : TypeId} {parts : Array (Nat × Operand)} (ho : o.op = .buildSlice t n parts) (hdst : o.dst = some d) (hd : ∀ d, o.dst = some d → d < a.tmps.size)
    (h : evBuildSlice P σ d t n parts.toList = some (σ', true)) : DoesC P base σ' o a w := by
  unfold evBuildSlice at h
  split at h
  · rename_i e he
    split at h
    · rename_i row hrow
      cases hc : (parts.toList.length == n && decide (n * row.length ≤ 16777216) && zeroOk P e row) with
      | false => rw [hc] at h; cases h
      | true =>
        rw [hc, cond_true] at h
        simp only [Bool.and_eq_true, beq_iff_eq, decide_eq_true_eq] at hc
        obtain ⟨⟨hn, hsmall⟩, hz⟩ := hc
        split at h
        · rename_i rows ts hlit
          simp only [Option.some.injEq, Prod.mk.injEq, and_true] at h
          subst h
          obtain ⟨vs, k1, k2, k3, k4, k5⟩ := litRows_ok (ts := ts) hr hlit (fun t ht => List.contains_iff_mem.2 ht)
          obtain ⟨ti, v0, hi, hv0, hm⟩ := zeroOk_ok hz
          have hpos := rowOf_pos hrow
          have hsz := rowOf_size hrow
          have hti : ti.size = row.length := by
            have := hsz
            unfold tSize at this
            rw [hi] at this
            injection this
          let arr : Array Value := (vs.flatMap fun v => v.cells.toList).toArray
          have harr : arr.size = rows.length * row.length := by
            have : ∀ l : List Value, (∀ v ∈ l, v.cells.size = row.length) → (l.flatMap fun v => v.cells.toList).length = l.length * row.length := by
              intro l hl
              induction l with
              | nil => simp
              | cons x l ih =>
                rw [List.flatMap_cons, List.length_append, ih (fun v hv => hl v (by simp [hv])), List.length_cons, Nat.succ_mul]
                have := hl x (by simp)
                simp [this]; omega
            show (vs.flatMap fun v => v.cells.toList).toArray.size = _
            rw [List.size_toArray, this vs k4, k2, k3]
          have hcell : ∀ (i j : Nat) s, i < rows.length → row[j]? = some s → ∃ u, arr[i * row.length + j]? = some u ∧ VD P w (sealG g ts).prot s (gd (rows.getD i []) j) u := by
            intro i j s hi hs
            have hj := (List.getElem?_eq_some_iff.1 hs).1
            have hvi : vs[i]? = some (vs[i]'(by omega)) := List.getElem?_eq_getElem (by omega)
            obtain ⟨u, h1, h2⟩ := k5 i _ j s hvi hs
            refine ⟨u, ?_, h2⟩
            show (vs.flatMap fun v => v.cells.toList).toArray[i * row.length + j]? = _
            rw [List.getElem?_toArray, Great.flat_get hpos vs k4]
            have q1 : (i * row.length + j) / row.length = i := by
              rw [Nat.mul_comm, Nat.mul_add_div hpos, Nat.div_eq_of_lt hj, Nat.add_zero]
            have q2 : (i * row.length + j) % row.length = j := by
              rw [Nat.mul_comm, Nat.mul_add_mod, Nat.mod_eq_of_lt hj]
            rw [q1, q2, hvi]
            exact h1
          have hrs := hr.seal ts
          obtain ⟨r1, r2⟩ := newRow_own (d := d) hrs hrow harr (by have : rows.length * 1 ≤ rows.length * row.length := Nat.mul_le_mul_left _ hpos; rw [k3, hn] at this; rw [k3, hn]; omega) hcell
          have hlen : rows.length = n := by rw [k3]; exact hn
          rw [hlen] at r1 r2
          have hfill : Instr.fill (fun i => some (i * row.length, row.length)) ((Array.range (n * row.length)).map ((if n * row.length = 0 then #[] else v0.cells)[· % (if n * row.length = 0 then #[] else v0.cells).size]!)) (parts.map fun p => (p.1, a.eval p.2)).toList = some arr := by
            rw [Array.toList_map, k1]
            exact Great.fill_whole hpos vs _ k4 (by rw [k2, ← hn]; simp)
          refine ⟨.slice (some ⟨w.heap.size, 0, none⟩) n n, _, _, .inl ?_, r1.put hd (t := .c (.own (d, 0) true e) (.l rows)) r2 |> fun h => by rw [hdst] at h ⊢; exact h, (Below.refl _ _).alloc hr.base_le _, (Below.refl _ _).alloc (Nat.le_refl _) _⟩
          simp only [execOp, ho, Instr.buildSlice, Sem.run_bind, run_underlying (tElem_und he), run_size hsz, Result.andThen_ok]
          rw [if_neg (by omega)]
          by_cases h0 : n * row.length = 0
          · rw [if_pos h0] at hfill ⊢
            simp only [Sem.run_bind, Sem.run_pure, Result.andThen_ok]
            simp only [h0, if_true] at hfill
            rw [show n * row.length = 0 from h0] at *
            rw [hfill]
            simp only [Sem.run_bind, run_newRow, Result.andThen_ok, Sem.run_pure]
          · simp only [if_neg h0] at hfill ⊢
            simp only [Sem.run_bind, run_zero hi hv0, Sem.run_pure, Result.andThen_ok]
            rw [hfill]
            simp only [Sem.run_bind, run_newRow, Result.andThen_ok, Sem.run_pure]
        · cases h
    · cases h
  · cases h
end
end Go.Proofs.YtchceahcaaibcaaGreat
namespace Go.Proofs.YtchceahcaaibcaaGreat
set_option linter.unusedSimpArgs false
open Go.RowKit
set_option linter.unusedVariables false
set_option linter.unusedSectionVars false

section
variable [Low] {P : Program} {w w' : World} {g g' : G} {base : Nat} {σ : St} {a : Act}

theorem bytesOk_ok {e : TypeId} (h : bytesOk P e = true) : ∃ i, P.info? e = some i ∧ i.bytes ≤ 16384 := by
  unfold bytesOk at h
  split at h
  · rename_i i hi
    exact ⟨i, hi, by simpa using h⟩
  · cases h

theorem evMakeSlice_ok (hr : Rel P w g base σ a) {o : Oper} {σ' : St} {d : Nat} {t : TypeId} {x y : Operand} (ho : o.op = .makeSlice t x y) (hdst : o.dst = some d) (hd : ∀ d, o.dst = some d → d < a.tmps.size)
    (h : evMakeSlice P σ d t x y = some (σ', true)) : DoesC P base σ' o a w := by
  unfold evMakeSlice at h
  split at h
  · rename_i e he
    split at h
    · rename_i row n m hrow hn hm
      simp only [Option.some.injEq, Prod.mk.injEq, Bool.and_eq_true, decide_eq_true_eq] at h
      obtain ⟨rfl, ⟨⟨⟨h0, rfl⟩, h1⟩, hz⟩, hby⟩ := h
      obtain ⟨k1, hx⟩ := int_ok hn (opd_ok hr x)
      obtain ⟨k2, hy⟩ := int_ok hm (opd_ok hr y)
      obtain ⟨ti, v0, hi, hv0, hmz⟩ := zeroOk_ok hz
      obtain ⟨ti', hi', hb⟩ := bytesOk_ok hby
      rw [hi] at hi'; injection hi' with hi'; subst hi'
      have hsz := rowOf_size hrow
      have hpos := rowOf_pos hrow
      obtain ⟨hz1, hz2⟩ := zero_get hmz
      let zero : Array Value := if n.toNat * row.length = 0 then #[] else v0.cells
      let arr : Array Value := (Array.range (n.toNat * row.length)).map (zero[· % zero.size]!)
      have harr : arr.size = (List.replicate n.toNat (row.map zeroD)).length * row.length := by simp [arr]
      have hcell : ∀ (i j : Nat) s, i < (List.replicate n.toNat (row.map zeroD)).length → row[j]? = some s → ∃ u, arr[i * row.length + j]? = some u ∧ VD P w g.prot s (gd ((List.replicate n.toNat (row.map zeroD)).getD i []) j) u := by
        intro i j s hi' hs
        have hj := (List.getElem?_eq_some_iff.1 hs).1
        have hi2 : i < n.toNat := by simpa using hi'
        obtain ⟨u, hu, hv, _⟩ := hz2 j s hs
        have hlt : i * row.length + j < n.toNat * row.length := by
          have : (i + 1) * row.length ≤ n.toNat * row.length := Nat.mul_le_mul_right _ hi2
          rw [Nat.succ_mul] at this
          omega
        have hzero : zero = v0.cells := by show (if _ then _ else _) = _; rw [if_neg (by omega)]
        have hzs : zero.size = row.length := by rw [hzero]; simpa using hz1
        refine ⟨u, ?_, ?_⟩
        · show ((Array.range (n.toNat * row.length)).map (zero[· % zero.size]!))[i * row.length + j]? = _
          rw [Array.getElem?_map, Array.getElem?_range, if_pos hlt, Option.map_some, hzs]
          rw [Nat.mul_comm, Nat.mul_add_mod, Nat.mod_eq_of_lt hj, hzero]
          have : v0.cells[j]? = some u := by simpa using hu
          rw [getElem!_def, this]
        · have e : (List.replicate n.toNat (row.map zeroD)).getD i [] = row.map zeroD := by
            rw [List.getD_eq_getElem?_getD, List.getElem?_replicate, if_pos hi2]; rfl
          rw [e, gd_map_zero row j s hs]
          exact hv w g.prot
      obtain ⟨r1, r2⟩ := newRow_own (d := d) hr hrow harr (by simp; omega) hcell
      have hlen : (List.replicate n.toNat (row.map zeroD)).length = n.toNat := by simp
      rw [hlen] at r1 r2
      refine ⟨.slice (some ⟨w.heap.size, 0, none⟩) n.toNat n.toNat, _, _, .inl ?_, r1.put hd (t := .c (.own (d, 0) true e) (.l _)) r2 |> fun h => by rw [hdst] at h ⊢; exact h, (Below.refl _ _).alloc hr.base_le _, (Below.refl _ _).alloc (Nat.le_refl _) _⟩
      have hw : IntKind.i64.wrap n = n := IntWalk.i64_in _ (by omega)
      have hbn : (ti.bytes : Int) * n ≤ 16384 * 4294967296 := by
        have h2 : ti.bytes * n.toNat ≤ 16384 * 4294967296 := Nat.mul_le_mul hb (by omega)
        have : ((ti.bytes * n.toNat : Nat) : Int) ≤ ((16384 * 4294967296 : Nat) : Int) := by exact_mod_cast h2
        rw [Int.natCast_mul, Int.toNat_of_nonneg h0] at this
        exact this
      have hlarge : ¬ (n < 0 ∨ (ti.bytes : Int) * n > 2 ^ 48) := by
        have : (16384 * 4294967296 : Int) ≤ 2 ^ 48 := by decide
        omega
      simp only [execOp, ho, hx, hy, Instr.makeSlice, Sem.run_bind, run_underlying (tElem_und he), Result.andThen_ok, asInt, asIntOf, Sem.run_pure, typeInfo, program, Sem.run, hi, hw]
      rw [if_neg (by simp; omega)]
      have hroom : (askRoom (n.toNat * ti.bytes)).run P w = .ok () w := by
        unfold askRoom; split <;> simp [mark, Sem.run]
      simp only [Sem.run_bind, hroom, Result.andThen_ok, run_size hsz]
      by_cases hz0 : n.toNat * row.length = 0
      · rw [if_pos hz0]
        have : zero = #[] := if_pos hz0
        simp only [Sem.run_bind, Sem.run_pure, Result.andThen_ok]
        rw [← this]
        simp only [Sem.run_bind, run_newRow, Result.andThen_ok, Sem.run_pure]
        rfl
      · rw [if_neg hz0]
        have : zero = v0.cells := if_neg hz0
        simp only [Sem.run_bind, run_zero hi hv0, Sem.run_pure, Result.andThen_ok]
        rw [← this]
        simp only [Sem.run_bind, run_newRow, Result.andThen_ok, Sem.run_pure]
        rfl
    · cases h
  · cases h

/-- laying xs into l from o on -/
theorem setSub_get {α : Type} : ∀ (xs l : List α) (o k : Nat), (setSub l o xs)[k]? = if o ≤ k ∧ k < o + xs.length ∧ k < l.length then xs[k - o]? else l[k]?
  | [], l, o, k => by rw [setSub, if_neg (by simp; omega)]
  | x :: xs, l, o, k => by
    rw [setSub, setSub_get xs (l.set o x) (o + 1) k]
    simp only [List.length_set, List.length_cons]
    by_cases hk : o = k
    · subst hk
      rw [if_neg (by omega)]
      by_cases hl : o < l.length
      · rw [if_pos ⟨Nat.le_refl _, by omega, hl⟩]
        simp [hl]
      · rw [if_neg (by omega), List.getElem?_eq_none (by simp; omega), List.getElem?_eq_none (by omega)]
    · by_cases hin : o + 1 ≤ k ∧ k < o + 1 + xs.length ∧ k < l.length
      · rw [if_pos hin, if_pos (by omega)]
        rw [show k - o = (k - (o + 1)) + 1 from by omega, List.getElem?_cons_succ]
      · rw [if_neg hin, if_neg (by omega), List.getElem?_set_ne hk]
theorem setSub_length {α : Type} : ∀ (xs l : List α) (o : Nat), (setSub l o xs).length = l.length
  | [], l, o => rfl
  | x :: xs, l, o => by rw [setSub, setSub_length xs, List.length_set]
theorem gd_setSub (xs l : List D) (o k : Nat) (hl : k < l.length) : gd (setSub l o xs) k = if o ≤ k ∧ k < o + xs.length then gd xs (k - o) else gd l k := by
  unfold gd
  rw [List.getD_eq_getElem?_getD, setSub_get]
  split
  · rename_i h; rw [if_pos ⟨h.1, h.2.1⟩, List.getD_eq_getElem?_getD]
  · rename_i h; rw [if_neg (fun h' => h ⟨h'.1, h'.2, hl⟩), List.getD_eq_getElem?_getD]

/-- cells over cells -/
theorem vcs_setSub {cs cs' : List Ce} {ds ds' : List D} {arr arr' us : Array Value} {off : Nat} (hv : VCs P w g base cs ds arr) (hu : VCs P w g base cs' ds' us) (hle : off + cs'.length ≤ cs.length) (hds : ds.length = cs.length) (hds' : ds'.length = cs'.length)
    (hsz : arr'.size = arr.size) (harr : ∀ k, k < arr.size → arr'[k]? = if off ≤ k ∧ k < off + us.size then us[k - off]? else arr[k]?) : VCs P w g base (setSub cs off cs') (setSub ds off ds') arr' := by
  refine ⟨by rw [hsz, hv.1, setSub_length], fun j c hj => ?_⟩
  have hjl : j < cs.length := by
    have := (List.getElem?_eq_some_iff.1 hj).1
    rwa [setSub_length] at this
  rw [setSub_get] at hj
  rw [harr j (by rw [hv.1]; exact hjl), gd_setSub _ _ _ _ (by rw [hds]; exact hjl)]
  by_cases hin : off ≤ j ∧ j < off + cs'.length
  · rw [if_pos ⟨hin.1, hin.2, hjl⟩] at hj
    rw [if_pos (by rw [hu.1]; exact hin), if_pos (by rw [hds']; exact hin)]
    exact hu.2 _ c hj
  · rw [if_neg (fun h => hin ⟨h.1, h.2.1⟩)] at hj
    rw [if_neg (by rw [hu.1]; exact hin), if_neg (by rw [hds']; exact hin)]
    exact hv.2 _ c hj

theorem run_places {w : World} : ∀ (fs : List Field), (∀ f ∈ fs, (tSize P f.type).isSome = true) → (fs.mapM fun f => (do pure (f.offset, ← sizeOf f.type) : Sem (Nat × Nat))).run P w = .ok (fs.map fun f => (f.offset, (tSize P f.type).getD 0)) w
  | [], _ => by simp
  | f :: fs, h => by
    obtain ⟨n, hn⟩ := Option.isSome_iff_exists.1 (h f (by simp))
    have ih := run_places (w := w) fs (fun f hf => h f (by simp [hf]))
    simp only [List.mapM_cons, Sem.run_bind, run_size hn, Result.andThen_ok, Sem.run_pure, ih, List.map_cons, hn, Option.getD_some]

theorem litCells_ok (hr : Rel P w g base σ a) {t : TypeId} {fs : Array Field} (hu : P.underlying t = some (.struct fs)) : ∀ {parts : List (Nat × Operand)} {cs cs' : List Ce} {ds ds' : List D} {arr : Array Value},
    litCells P t σ parts (cs, ds) = some (cs', ds') → VCs P w g base cs ds arr → ds.length = cs.length →
    ∃ arr', Instr.fill ((fs.map fun f => (f.offset, (tSize P f.type).getD 0))[·]?) arr (parts.map fun p => (p.1, a.eval p.2)) = some arr' ∧ VCs P w g base cs' ds' arr'
  | [], cs, cs', ds, ds', arr, h, hv, _ => by
    simp only [litCells, Option.some.injEq, Prod.mk.injEq] at h
    obtain ⟨rfl, rfl⟩ := h
    exact ⟨arr, rfl, hv⟩
  | (i, x) :: r, cs, cs', ds, ds', arr, h, hv, hl => by
    unfold litCells at h
    split at h
    · rename_i off ft cs1 ds1 hf hc
      cases hsz : (tSize P ft == some cs1.length && Nat.ble (off + cs1.length) cs.length) with
      | false => rw [hsz] at h; cases h
      | true =>
        rw [hsz, cond_true] at h
        simp only [Bool.and_eq_true, beq_iff_eq] at hsz
        obtain ⟨hsz, hle⟩ := hsz
        have hle : off + cs1.length ≤ cs.length := Nat.le_of_ble_eq_true hle
        obtain ⟨fs', f, hu', hfi, rfl, rfl⟩ := tField_ok hf
        rw [hu] at hu'; injection hu' with hu'; injection hu' with hu'; subst hu'
        obtain ⟨hx, _⟩ := cells_ok hc (opd_ok hr x)
        obtain ⟨g1, g2⟩ := Great.foldl_set f.offset (a.eval x).cells.toList 0 arr
        let arr1 := ((a.eval x).cells.toList.zipIdx 0).foldl (fun cs (x : Value × Nat) => cs.setIfInBounds (f.offset + x.2) x.1) arr
        have hv1 : VCs P w g base (setSub cs f.offset cs1) (setSub ds f.offset ds1) arr1 := by
          refine vcs_setSub hv hx hle hl (cells_length hc) g1 fun k hk => ?_
          rw [g2 k]
          simp only [Nat.add_zero, Array.length_toList]
          by_cases hin : f.offset ≤ k ∧ k < f.offset + (a.eval x).cells.size
          · rw [if_pos ⟨hin.1, hin.2, hk⟩, if_pos hin]; simp
          · rw [if_neg (fun h => hin ⟨h.1, h.2.1⟩), if_neg hin]
        obtain ⟨arr', k1, k2⟩ := litCells_ok hr hu h hv1 (by rw [setSub_length, setSub_length]; exact hl)
        refine ⟨arr', ?_, k2⟩
        simp only [List.map_cons]
        unfold Instr.fill
        have hpl : (fs.map fun f => (f.offset, (tSize P f.type).getD 0))[i]? = some (f.offset, cs1.length) := by
          rw [Array.getElem?_map, hfi]
          simp [hsz]
        simp only [hpl]
        rw [if_neg (by simp only [hx.1]; simp; rw [hv.1]; exact hle)]
        rw [← k1]
        congr 1
        rw [← Array.foldl_toList, Array.toList_zipIdx]
    · cases h

theorem evBuild_ok (hr : Rel P w g base σ a) {o : Oper} {σ' : St} {d : Nat} {t : TypeId} {parts : Array (Nat × Operand)} (ho : o.op = .build t parts) (hdst : o.dst = some d) (hd : ∀ d, o.dst = some d → d < a.tmps.size)
    (h : evBuild P σ d t parts.toList = some (σ', true)) : DoesC P base σ' o a w := by
  unfold evBuild at h
  split at h
  · rename_i row hrow
    split at h
    · rename_i cs ds hl
      cases hz : (zeroOk P t row && fieldsOk P t) with
      | false => rw [hz] at h; cases h
      | true =>
        rw [hz] at h
        simp only [Bool.not_true, cond_false, Option.some.injEq, Prod.mk.injEq, and_true] at h
        subst h
        simp only [Bool.and_eq_true] at hz
        obtain ⟨hz, hfo⟩ := hz
        obtain ⟨ti, v0, hi, hv0, hmz⟩ := zeroOk_ok hz
        obtain ⟨fs, hu, hfs⟩ : ∃ fs, P.underlying t = some (.struct fs) ∧ ∀ f ∈ fs.toList, (tSize P f.type).isSome = true := by
          unfold fieldsOk at hfo
          split at hfo
          · rename_i fs hu
            exact ⟨fs, hu, fun f hf => List.all_eq_true.1 hfo f hf⟩
          · cases hfo
        have hrel := hr.wipeRow (ext_reset g d w) rfl hr.fresh
        obtain ⟨arr', k1, k2⟩ := litCells_ok hrel hu hl (zero_vcs hmz d 0 (fun i => if_pos rfl)) (by simp [zeroC_length])
        refine ⟨.agg arr', w, resetG g d, .inl ?_, hrel.put hd (t := ⟨.one (.agg cs), ds⟩) ⟨arr', rfl, k2⟩ |> fun h => by rw [hdst] at h ⊢; exact h, Below.refl _ _, Below.refl _ _⟩
        have hmap : (fs.mapM fun f => (do pure (f.offset, ← sizeOf f.type) : Sem (Nat × Nat))).run P w = .ok (fs.map fun f => (f.offset, (tSize P f.type).getD 0)) w := by
          rw [Array.mapM_eq_mapM_toList]
          simp only [map_eq_pure_bind, Sem.run_bind, run_places fs.toList hfs, Result.andThen_ok, Sem.run_pure]
          congr 1
          rw [← Array.toList_map, Array.toArray_toList]
        simp only [execOp, ho, Instr.build, Sem.run_bind, run_zero hi hv0, run_underlying hu, Result.andThen_ok]
        rw [hmap]
        simp only [Result.andThen_ok]
        rw [Array.toList_map, k1]
        simp only [Sem.run_pure]
        rfl
    · cases h
  · cases h
end
end Go.Proofs.YtchceahcaaibcaaGreat
namespace Go.Proofs.YtchceahcaaibcaaGreat
set_option linter.unusedSimpArgs false
open Go.RowKit
set_option linter.unusedVariables false
set_option linter.unusedSectionVars false

section
variable [Low] {P : Program} {w w' : World} {g g' : G} {base : Nat} {σ : St} {a : Act}

theorem Sh1.map_id' (s : Sh1) : s.map (fun c => c) = s := by
  cases s <;> simp [Sh1.map]
theorem Sh.map_id' (s : Sh) : s.map (fun c => c) = s := by
  cases s with
  | one x => simp [Sh.map, Sh1.map_id']
  | tup xs =>
    simp only [Sh.map]
    congr 1
    induction xs with
    | nil => rfl
    | cons x xs ih => simp only [List.map_cons, Sh1.map_id', ih]
theorem Kept.vt' (h : Kept P base g g' w w' (fun c => c)) {t : T} {v : Value} (hv : VT P w g base t v) : VT P w' g' base t v := by
  have := h.vt hv
  rwa [Sh.map_id'] at this
theorem Kept.vcs' (h : Kept P base g g' w w' (fun c => c)) {cs : List Ce} {p : List D} {arr : Array Value} (hv : VCs P w g base cs p arr) : VCs P w' g' base cs p arr := by
  have := h.vcs hv
  rwa [List.map_id'] at this

theorem own_ne_nil {t : Tok} {xm : Bool} {e : TypeId} {row : List S} {rows : List (List D)} {v : Value} (h : OwnV P w g base t xm e row rows v) (hne : 0 < g.len t) : rows ≠ [] := by
  rcases h with ⟨_, h, _⟩ | ⟨cap, arr, E, h1, h2, h3, h4, h5, h6, h7, h8, _⟩
  · omega
  · intro e; rw [e] at h8; simp at h8; omega

/-- only block nb, in which nothing is protected and which is no row, has turned -/
theorem kept_block {nb : Nat} (hb : ∀ b, b ≠ nb → w'.heap[b]? = w.heap[b]?) (hp : g.prot nb = 0) (ho : ∀ t, g.owner nb ≠ some (.inr t)) (hbase : base ≤ nb) : Kept P base g g w w' (fun c => c) := by
  have hvd : ∀ {s : S} {x : D} {v : Value}, VD P w g.prot s x v → VD P w' g.prot s x v := fun h =>
    h.mono fun b o u h1 h2 => ⟨(cell_of_heap (hb b (by rintro rfl; omega)) o).trans h2, h1⟩
  have hown : ∀ {t : Tok} {xm : Bool} {e : TypeId} {row : List S} {rows : List (List D)} {v : Value}, OwnV P w g base t xm e row rows v → OwnV P w' g base t xm e row rows v := by
    intro t xm e row rows v h
    rcases h with h | ⟨cap, arr, E, h1, h2, h3, h4, h5, h6, h7, h8, h9, h10, h11⟩
    · exact .inl h
    · refine .inr ⟨cap, arr, E, h1, h2, h3, h4, h5, by rw [hb _ (by intro e; rw [e] at h5; exact ho t h5)]; exact h6, h7, h8, h9, h10, fun i j s hi hs => ?_⟩
      obtain ⟨u, k1, k2⟩ := h11 i j s hi hs
      exact ⟨u, k1, hvd k2⟩
  have hcptr : ∀ {cells : List S} {off : Nat} {x : D} {v : Value}, CptrV P w g base cells off x v → CptrV P w' g base cells off x v := by
    rintro cells off x v ⟨b, o, h1, h2, h3⟩
    refine ⟨b, o, h1, h2, fun j s hs => ?_⟩
    obtain ⟨u, k1, k2⟩ := h3 j s hs
    exact ⟨u, (cell_of_heap (hb b (by omega)) _).trans k1, hvd k2⟩
  intro c x v hv
  cases c with
  | any => trivial
  | d s => exact hvd hv
  | kb b => exact hv
  | own t xm e => obtain ⟨row, hr, hv⟩ := hv; exact ⟨row, hr, hown hv⟩
  | ptr id off => exact hv
  | eptr tk e off =>
    cases tk with
    | none =>
      obtain ⟨row, b, o, h1, h2, h3, h4⟩ := hv
      refine ⟨row, b, o, h1, h2, h3, fun j s hs => ?_⟩
      obtain ⟨u, k1, k2, k3⟩ := h4 j s hs
      exact ⟨u, (cell_of_heap (hb b (by rintro rfl; omega)) _).trans k1, k2, hvd k3⟩
    | some t => obtain ⟨row, h1, h2, h3, u, h4⟩ := hv; exact ⟨row, h1, h2, h3, u, hown h4⟩
  | cptr cells off => exact hcptr hv
  | fn f caps =>
    obtain ⟨arr, h1, h2, h3⟩ := hv
    refine ⟨arr, h1, h2, fun j c hc => ?_⟩
    obtain ⟨u, hu, hcap⟩ := h3 j c hc
    refine ⟨u, hu, ?_⟩
    cases c with
    | d s => exact hvd hcap
    | ptr id off => exact hcap
    | cptr cells off => exact hcptr hcap

theorem oneCell_of_flat {v : Value} (h : flatV v = true) : v.oneCell' = true := by
  cases v <;> simp_all [flatV, Value.oneCell']
theorem vcs_oneCell {cs : List Ce} {ds : List D} {arr : Array Value} (h : VCs P w g base cs ds arr) (hn : ∀ c ∈ cs, c ≠ .any) : ∀ v ∈ arr.toList, v.oneCell' = true := by
  intro v hv
  obtain ⟨j, hj⟩ := List.getElem?_of_mem hv
  have hjl : j < cs.length := by rw [← h.1]; simpa using (List.getElem?_eq_some_iff.1 hj).1
  obtain ⟨u, h1, h2⟩ := h.2 j _ (List.getElem?_eq_getElem hjl)
  have : v = u := by
    have h3 : arr[j]? = some v := by simpa using hj
    rw [h1] at h3; injection h3 with h3; exact h3.symm
  subst this
  exact oneCell_of_flat (h2.flat (hn _ (List.getElem_mem hjl)))

/-- the row that a store leaves -/
def over (arr : Array Value) (o : Nat) (vs : List Value) : Array Value := (arr.toList.take o ++ vs ++ arr.toList.drop (o + vs.length)).toArray
theorem over_get (arr : Array Value) (o : Nat) (vs : List Value) (h : o + vs.length ≤ arr.size) (k : Nat) : (over arr o vs)[k]? = if o ≤ k ∧ k < o + vs.length then vs[k - o]? else arr[k]? := by
  unfold over
  rw [List.getElem?_toArray]
  have hl : (arr.toList.take o).length = o := by simp; omega
  by_cases h1 : k < o
  · rw [if_neg (by omega), List.append_assoc, List.getElem?_append_left (by omega), List.getElem?_take, if_pos h1]; simp
  · by_cases h2 : k < o + vs.length
    · rw [if_pos ⟨by omega, h2⟩, List.append_assoc, List.getElem?_append_right (by omega), hl, List.getElem?_append_left (by omega)]
    · rw [if_neg (by omega), List.getElem?_append_right (by simp; omega)]
      simp only [List.length_append, hl, List.getElem?_drop]
      rw [show o + vs.length + (k - (o + vs.length)) = k from by omega]
      simp
theorem over_size (arr : Array Value) (o : Nat) (vs : List Value) (h : o + vs.length ≤ arr.size) : (over arr o vs).size = arr.size := by
  unfold over
  simp only [List.size_toArray, List.length_append, List.length_take, List.length_drop, Array.length_toList]
  omega

theorem run_storeAt {t n b o : Nat} {u : Value} {arr : Array Value} {E : TypeId} (hn : tSize P t = some n) (hu : u.cells.size = n) (hh : w.heap[b]? = some (.cells arr E (0, 0))) (hle : o + n ≤ arr.size) (h1 : ∀ v ∈ u.cells.toList, v.oneCell' = true) :
    (Instr.storeAt t (.pointer (some ⟨b, o, none⟩)) u).run P w = .ok () (w.setRow b (over arr o u.cells.toList)) := by
  simp only [Instr.storeAt, Instr.sureAddr, storeVar, Sem.run_bind, Sem.run_pure, Result.andThen_ok, run_size hn]
  rw [if_neg (by simp [hu])]
  have := run_storeCells_at P b o E u.cells.toList 0 arr w hh (by simp [hu]; omega) h1
  simp only [Nat.add_zero] at this
  exact this

/-- a store: only the block that is named is turned -/
def DoesS (P : Program) (base : Nat) (σ' : St) (o : Oper) (p : Operand) (a : Act) (w : World) : Prop :=
  ∃ z w' g', ((execOp a.eval o).run P w = .ok (.value z) w' ∨ ((execOp a.eval o).run P w = .ok .skip w' ∧ z = undef)) ∧ Rel P w' g' base σ' (a.put o.dst z) ∧ Below base w w' ∧
    ∀ B, (∀ b o, a.eval p = .pointer (some ⟨b, o, none⟩) → B ≤ b) → Below B w w'
theorem DoesS.does {o : Oper} {σ' : St} {p : Operand} (h : DoesS P base σ' o p a w) : Does P base σ' o a w := by
  obtain ⟨z, w', g', h1, h2, h3, _⟩ := h
  exact ⟨z, w', g', h1, h2, h3⟩
theorem evStore_ptr (hr : Rel P w g base σ a) {o : Oper} {t n id off : Nat} {x p : Operand} {cs cs' : List Ce} {ds ds' : List D} {pp : List D} (ho : o.op = .store t p x) (hd : ∀ d, o.dst = some d → d < a.tmps.size) (hn : tSize P t = some n)
    (hc : (opd σ x).cells = some (cs, ds)) (hl : cs.length = n) (hp : (opd σ p) = ⟨.one (.c (.ptr id off)), pp⟩) (hb : hlook id σ.h = some (cs', ds')) (hle : off + n ≤ cs'.length) :
    DoesS P base (St.put ⟨σ.r, σ.e, hput id (setSub cs' off cs, setSub ds' off ds) σ.h⟩ o.dst .none_) o p a w := by
  have hpv := opd_ok hr p
  rw [hp] at hpv
  have hpv : a.eval p = .pointer (some ⟨g.θ id, off, none⟩) := hpv
  obtain ⟨hx, hany⟩ := cells_ok hc (opd_ok hr x)
  obtain ⟨k1, k2, k3, kl, arr, E, k4, k5⟩ := hr.box id cs' ds' hb
  have hlen : (a.eval x).cells.toList.length = n := by simp [hx.1, hl]
  have hfit : off + (a.eval x).cells.toList.length ≤ arr.size := by rw [hlen, k5.1]; exact hle
  have hrun := run_storeAt (P := P) (w := w) (b := g.θ id) (o := off) hn (by rw [hx.1, hl]) k4 (by rw [k5.1]; exact hle) (vcs_oneCell hx hany)
  have hoth : ∀ b, b ≠ g.θ id → (w.setRow (g.θ id) (over arr off (a.eval x).cells.toList)).heap[b]? = w.heap[b]? := fun b hb => setRow_other w (g.θ id) b _ hb
  have hk : Kept P base g g w (w.setRow (g.θ id) (over arr off (a.eval x).cells.toList)) (fun c => c) := kept_block hoth k3 (by intro t e; rw [k2] at e; cases e) k1
  have hsz : (w.setRow (g.θ id) (over arr off (a.eval x).cells.toList)).heap.size = w.heap.size := by simp [World.setRow]
  have hrel : Rel P (w.setRow (g.θ id) (over arr off (a.eval x).cells.toList)) g base ⟨σ.r, σ.e, hput id (setSub cs' off cs, setSub ds' off ds) σ.h⟩ a := by
    refine ⟨fun i => hk.vt' (hr.env i), fun id' cs1 ds1 h1 => ?_, by rw [hsz]; exact hr.fresh, by rw [hsz]; exact hr.base_le, hr.defers, hr.low⟩
    rw [hlook_hput] at h1
    by_cases e : id' = id
    · subst e
      rw [if_pos rfl] at h1
      injection h1 with h1
      injection h1 with e1 e2
      subst e1; subst e2
      refine ⟨k1, k2, k3, by rw [setSub_length, setSub_length]; exact kl, _, E, setRow_heap w _ arr _ E _ k4, ?_⟩
      exact vcs_setSub (hk.vcs' k5) (hk.vcs' hx) (by rw [hl]; exact hle) kl (cells_length hc) (over_size _ _ _ hfit) (fun k hk' => by
        rw [over_get _ _ _ hfit]
        simp)
    · rw [if_neg e] at h1
      obtain ⟨j1, j2, j3, jl, arr', E', j4, j5⟩ := hr.box id' cs1 ds1 h1
      refine ⟨j1, j2, j3, jl, arr', E', by rw [hoth _ (by intro e'; rw [e'] at j2; rw [k2] at j2; injection j2 with j2; injection j2 with j2; exact e j2.symm)]; exact j4, hk.vcs' j5⟩
  refine ⟨undef, _, g, .inr ⟨?_, rfl⟩, hrel.put hd (t := .none_) ⟨#[], rfl, rfl, fun j x h => by simp at h⟩, ⟨rfl, rfl, rfl, by rw [hsz]; exact Nat.le_refl _, fun k hk' => hoth k (by omega)⟩, fun B hB => ⟨rfl, rfl, rfl, by rw [hsz]; exact Nat.le_refl _, fun k hk' => hoth k (by have := hB _ _ hpv; omega)⟩⟩
  simp only [execOp, ho, hpv, Sem.run_bind, hrun, Result.andThen_ok, Sem.run_pure]

/-! ### append -/
/-- rows of token t are forgotten but for what is protected of them -/
theorem kept_drop {t : Tok} (hcell : ∀ b o u, o < g.prot b → w.cell? ⟨b, o, none⟩ = some u → w'.cell? ⟨b, o, none⟩ = some u ∧ o < g'.prot b)
    (hblk : ∀ b t', t' ≠ t → g.owner b = some (.inr t') → b < w.heap.size → w'.heap[b]? = w.heap[b]? ∧ g'.owner b = g.owner b ∧ g'.prot b = g.prot b)
    (htok : ∀ t', t' ≠ t → g'.ρ t' = g.ρ t' ∧ g'.len t' = g.len t' ∧ g'.wid t' = g.wid t' ∧ g'.ety t' = g.ety t') (hθ : g'.θ = g.θ) (hlow : ∀ b, b < base → w'.heap[b]? = w.heap[b]?) : Kept P base g g' w w' (dropC t) := by
  have hvd : ∀ {s : S} {x : D} {v : Value}, VD P w g.prot s x v → VD P w' g'.prot s x v := fun h => h.mono hcell
  have hown : ∀ {t' : Tok} {xm : Bool} {e : TypeId} {row : List S} {rows : List (List D)} {v : Value}, t' ≠ t → OwnV P w g base t' xm e row rows v → OwnV P w' g' base t' xm e row rows v := by
    intro t' xm e row rows v ht h
    obtain ⟨e1, e2, e3, e4⟩ := htok t' ht
    rcases h with ⟨h0, h1, h2⟩ | ⟨cap, arr, E, h1, h2, h3, h4, h5, h6, h7, h8, h9, h10, h11⟩
    · exact .inl ⟨h0, by rw [e2]; exact h1, h2⟩
    · obtain ⟨q1, q2, q3⟩ := hblk _ t' ht h5 (lt_of_heap h6)
      refine .inr ⟨cap, arr, E, by rw [e1]; exact h1, h2, by rw [e4]; exact h3, by rw [e1]; exact h4, by rw [e1, q2]; exact h5, by rw [e1, q1]; exact h6, h7, by rw [e2]; exact h8, by rw [e3]; exact h9, by rw [e1, e2, e3, q3]; exact h10, fun i j s hi hs => ?_⟩
      obtain ⟨u, k1, k2⟩ := h11 i j s hi hs
      exact ⟨u, k1, hvd k2⟩
  have hcptr : ∀ {cells : List S} {off : Nat} {x : D} {v : Value}, CptrV P w g base cells off x v → CptrV P w' g' base cells off x v := by
    rintro cells off x v ⟨b, o, h1, h2, h3⟩
    refine ⟨b, o, h1, h2, fun j s hs => ?_⟩
    obtain ⟨u, k1, k2⟩ := h3 j s hs
    exact ⟨u, (cell_of_heap (hlow b h2) _).trans k1, hvd k2⟩
  intro c x v hv
  cases c with
  | any => trivial
  | d s => exact hvd hv
  | kb b => exact hv
  | own t' xm e =>
    obtain ⟨row, hr, hv⟩ := hv
    change VC P w' g' base (bif t' == t then (bif xm then .any else .d (.sl e)) else .own t' xm e) x v
    by_cases ht : t' = t
    · rw [show (t' == t) = true from by simpa using ht, cond_true]
      cases xm with
      | true => trivial
      | false => exact hvd (own_vd' hr hv)
    · rw [show (t' == t) = false from by simpa using ht, cond_false]
      exact ⟨row, hr, hown ht hv⟩
  | ptr id off => show v = _; rw [hθ]; exact hv
  | eptr tk e off =>
    cases tk with
    | none =>
      obtain ⟨row, b, o, h1, h2, h3, h4⟩ := hv
      refine ⟨row, b, o, h1, h2, h3, fun j s hs => ?_⟩
      obtain ⟨u, k1, k2, k3⟩ := h4 j s hs
      obtain ⟨q1, q2⟩ := hcell b _ u k2 k1
      exact ⟨u, q1, q2, hvd k3⟩
    | some t' =>
      change VC P w' g' base (bif t' == t then .any else .eptr (some t') e off) x v
      by_cases ht : t' = t
      · rw [show (t' == t) = true from by simpa using ht]; trivial
      · rw [show (t' == t) = false from by simpa using ht, cond_false]
        obtain ⟨row, h1, h2, h3, u, h4⟩ := hv
        exact ⟨row, h1, by rw [(htok t' ht).1]; exact h2, h3, u, hown ht h4⟩
  | cptr cells off => exact hcptr hv
  | fn f caps =>
    obtain ⟨arr, h1, h2, h3⟩ := hv
    refine ⟨arr, h1, h2, fun j c hc => ?_⟩
    obtain ⟨u, hu, hcap⟩ := h3 j c hc
    refine ⟨u, hu, ?_⟩
    cases c with
    | d s => exact hvd hcap
    | ptr id off => show u = _; rw [hθ]; exact hcap
    | cptr cells off => exact hcptr hcap

theorem Rel.drop (hr : Rel P w g base σ a) {t : Tok} (hk : Kept P base g g' w w' (dropC t)) (hθ : g'.θ = g.θ)
    (hbox : ∀ b id, g.owner b = some (.inl id) → b < w.heap.size → w'.heap[b]? = w.heap[b]? ∧ g'.owner b = g.owner b ∧ g'.prot b = g.prot b)
    (hf : ∀ b, w'.heap.size ≤ b → g'.prot b = 0 ∧ g'.owner b = none) (hsz : w.heap.size ≤ w'.heap.size) (hlow : ∀ b, b < base → g'.owner b = g.owner b ∧ g'.prot b = g.prot b) : Rel P w' g' base (σ.map (dropC t)) a := by
  refine ⟨fun i => hr.envMap hk rfl i, fun id cs ds hl => hr.boxMap hk hl fun cs ds hq => ?_, hf, Nat.le_trans hr.base_le hsz, hr.defers, fun b hb => by rw [(hlow b hb).1, (hlow b hb).2]; exact hr.low b hb⟩
  obtain ⟨k1, k2, k3, kl, arr, E, k4, k5⟩ := hr.box id cs ds hq
  obtain ⟨q1, q2, q3⟩ := hbox _ id k2 (lt_of_heap k4)
  exact ⟨by rw [hθ], q2, q3, q1⟩
end
end Go.Proofs.YtchceahcaaibcaaGreat
