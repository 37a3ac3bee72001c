/-
  The evaluator is right: operations that make memory.
-/
import Derived.Test.YtdejncnjaebjfaaSnd2
import Derived.Great.FillDense
namespace Go.Proofs.Ytdejncnjaebjfaa
open Go.RowKit
set_option linter.unusedVariables false
set_option linter.unusedSectionVars false

section
variable [Low] {P : Program} {w w' : World} {g g' : G} {base : Nat} {σ : St} {a : Act}

theorem getD_put (a : Act) (d i : Nat) (v : Value) (hd : d < a.tmps.size) : (a.put (some d) v).tmps.getD i undef = if i = d then v else a.tmps.getD i undef := by
  simp only [Act.put, Array.getD_eq_getD_getElem?, Array.getElem?_setIfInBounds]
  by_cases e : i = d
  · subst e; simp [hd]
  · rw [if_neg (by omega), if_neg e]
theorem put_size (a : Act) (d : Option Nat) (v : Value) : (a.put d v).tmps.size = a.tmps.size := by
  cases d <;> simp [Act.put]
theorem put_defers (a : Act) (d : Option Nat) (v : Value) : (a.put d v).defers = a.defers := by
  cases d <;> rfl

theorem Rel.put (hr : Rel P w g base σ a) {dst : Option Nat} (hd : ∀ d, dst = some d → d < a.tmps.size) {t : T} {v : Value} (hv : VT P w g base t v) : Rel P w g base (σ.put dst t) (a.put dst v) := by
  cases dst with
  | none => exact hr
  | some d =>
    refine ⟨fun i => ?_, hr.box, hr.fresh, hr.base_le, hr.defers, hr.low⟩
    rw [getD_put a d i v (hd d rfl)]
    show VT P w g base (bif i == d then t else look2 i σ.e σ.r) _
    by_cases e : i = d
    · rw [if_pos e, show (i == d) = true from by simpa using e]; exact hv
    · rw [if_neg e, show (i == d) = false from by simpa using e]; exact hr.env i

/-- a turned state, in a later world -/
theorem Rel.ext {d₀ : Nat} (hr : Rel P w g base σ a) (h : Ext (some d₀) g g' w w') (hf : ∀ b, w'.heap.size ≤ b → g'.prot b = 0 ∧ g'.owner b = none) (hbox : ∀ id cs ds, hlook id σ.h = some (cs, ds) → id ≠ d₀) :
    Rel P w' g' base (σ.wipe d₀) a := by
  have hk : Kept P base g g' w w' (wipeC d₀) := fun c x v hv => h.vc hr.base_le hv
  refine ⟨fun i => hr.envMap hk rfl i, fun id cs ds hl => hr.boxMap hk hl fun cs ds hq => ?_, hf, Nat.le_trans hr.base_le h.size, hr.defers, h.low hr⟩
  obtain ⟨k1, k2, k3, kl, arr, E, k4, k5⟩ := hr.box id cs ds hq
  have hlt := lt_of_heap k4
  exact ⟨h.θ id (by intro e; injection e with e; exact hbox id cs ds hq e), h.owner _ hlt, h.prot _ hlt, h.heap _ hlt⟩

/-- the ghost of a new block that box d names -/
def newBox (g : G) (d nb : Nat) : G := { g with owner := fun b => if b = nb then some (.inl d) else g.owner b, θ := fun id => if id = d then nb else g.θ id, len := fun t => if t.1 = d then 0 else g.len t }
/-- rows that are not there yet -/
def resetG (g : G) (d : Nat) : G := { g with len := fun t => if t.1 = d then 0 else g.len t }
theorem ext_reset (g : G) (d : Nat) (w : World) : Ext (some d) g (resetG g d) w w :=
  ⟨Nat.le_refl _, fun _ _ => rfl, fun t h => ⟨rfl, if_neg (fun e => h (by rw [e])), rfl, rfl⟩, fun _ _ => rfl, fun _ _ => rfl, fun _ _ => rfl⟩
/-- .. of a new row -/
def newRowG (g : G) (t : Tok) (e : TypeId) (nb n k : Nat) (p : Nat) : G :=
  { prot := fun b => if b = nb then p else g.prot b, owner := fun b => if b = nb then some (.inr t) else g.owner b, θ := g.θ, ρ := fun u => if u = t then nb else g.ρ u, len := fun u => if u = t then n else g.len u, wid := fun u => if u = t then k else g.wid u, ety := fun u => if u = t then e else g.ety u }

theorem ext_box (d : Nat) (o : Obj) : Ext (some d) g (newBox g d w.heap.size) w (w.alloc o) := by
  refine ⟨by simp, fun id h => ?_, fun t h => ⟨rfl, if_neg (fun e => h (by rw [e])), rfl, rfl⟩, fun b h => rfl, fun b h => ?_, fun b h => Below.heap_alloc w o b h⟩
  · show (if id = d then _ else _) = _
    rw [if_neg (fun e => h (by rw [e]))]
  · show (if b = w.heap.size then _ else _) = _
    rw [if_neg (by omega)]
theorem ext_row (t : Tok) (e : TypeId) (n k p : Nat) (o : Obj) : Ext (some t.1) g (newRowG g t e w.heap.size n k p) w (w.alloc o) := by
  refine ⟨by simp, fun id h => rfl, fun u h => ?_, fun b h => ?_, fun b h => ?_, fun b h => Below.heap_alloc w o b h⟩
  · have : u ≠ t := fun e => h (by rw [e])
    exact ⟨if_neg this, if_neg this, if_neg this, if_neg this⟩
  · show (if b = w.heap.size then _ else _) = _
    rw [if_neg (by omega)]
  · show (if b = w.heap.size then _ else _) = _
    rw [if_neg (by omega)]

theorem hlook_hput (i : Nat) (v : List Ce × List D) : ∀ (h : Boxes) (j : Nat), hlook j (hput i v h) = if j = i then some v else hlook j h
  | [], j => by
    by_cases e : j = i
    · subst e; simp [hput, hlook]
    · rw [if_neg e]; simp only [hput, hlook]; rw [show (j == i) = false from by simpa using e]; rfl
  | (k, u) :: r, j => by
    unfold hput
    by_cases hk : i = k
    · subst hk
      simp only [beq_self_eq_true, cond_true, hlook]
      by_cases e : j = i
      · subst e; simp
      · rw [if_neg e, show (j == i) = false from by simpa using e]; rfl
    · rw [show (i == k) = false from by simpa using hk, cond_false]
      simp only [hlook]
      rw [hlook_hput i v r j]
      by_cases e : j = k
      · subst e
        simp [Ne.symm hk]
      · rw [show (j == k) = false from by simpa using e]; simp
theorem hlook_map_ne (f : Ce → Ce) (σ : St) (i : Nat) : hlook i (σ.map f).h = (hlook i σ.h).map fun q => (q.1.map f, q.2) := hlook_map (List.map f) σ.h i

/-- the state without box d, wiped: as if it had not been -/
theorem Rel.wipeBox {d₀ : Nat} (hr : Rel P w g base σ a) (h : Ext (some d₀) g g' w w') (hf : ∀ b, w'.heap.size ≤ b → g'.prot b = 0 ∧ g'.owner b = none) {cs : List Ce} {ds : List D}
    (hb : BoxV P w' g' base d₀ cs ds) : Rel P w' g' base ⟨(σ.wipe d₀).r, (σ.wipe d₀).e, hput d₀ (cs, ds) (σ.wipe d₀).h⟩ a := by
  have hk : Kept P base g g' w w' (wipeC d₀) := fun c x v hv => h.vc hr.base_le hv
  refine ⟨fun i => hr.envMap hk rfl i, fun id cs' ds' hl => ?_, hf, Nat.le_trans hr.base_le h.size, hr.defers, h.low hr⟩
  rw [hlook_hput] at hl
  by_cases e : id = d₀
  · rw [if_pos e] at hl
    injection hl with hl
    injection hl with h1 h2
    subst h1; subst h2; subst e
    exact hb
  · rw [if_neg e] at hl
    refine hr.boxMap hk hl fun cs ds hq => ?_
    obtain ⟨k1, k2, k3, kl, arr, E, k4, k5⟩ := hr.box id cs ds hq
    have hlt := lt_of_heap k4
    exact ⟨h.θ id (by intro e'; injection e' with e'; exact e e'), h.owner _ hlt, h.prot _ hlt, h.heap _ hlt⟩
/-- a wiped state in which box d, if it is there, is still what it was -/
theorem Rel.wipeRow {d₀ : Nat} (hr : Rel P w g base σ a) (h : Ext (some d₀) g g' w w') (hθ : g'.θ = g.θ) (hf : ∀ b, w'.heap.size ≤ b → g'.prot b = 0 ∧ g'.owner b = none) : Rel P w' g' base (σ.wipe d₀) a := by
  have hk : Kept P base g g' w w' (wipeC d₀) := fun c x v hv => h.vc hr.base_le hv
  refine ⟨fun i => hr.envMap hk rfl i, fun id cs ds hl => hr.boxMap hk hl fun cs ds hq => ?_, hf, Nat.le_trans hr.base_le h.size, hr.defers, h.low hr⟩
  obtain ⟨k1, k2, k3, kl, arr, E, k4, k5⟩ := hr.box id cs ds hq
  have hlt := lt_of_heap k4
  exact ⟨by rw [hθ], h.owner _ hlt, h.prot _ hlt, h.heap _ hlt⟩

theorem heap_new (w : World) (o : Obj) : (w.alloc o).heap[w.heap.size]? = some o := by
  show (w.heap.push o)[w.heap.size]? = _
  simp
theorem fresh_box (hr : Rel P w g base σ a) (d : Nat) (o : Obj) : ∀ b, (w.alloc o).heap.size ≤ b → (newBox g d w.heap.size).prot b = 0 ∧ (newBox g d w.heap.size).owner b = none := by
  intro b hb
  have hb' : w.heap.size + 1 ≤ b := by simpa using hb
  have := hr.fresh b (by omega)
  exact ⟨this.1, by show (if b = w.heap.size then _ else _) = _; rw [if_neg (by omega)]; exact this.2⟩
theorem fresh_row (hr : Rel P w g base σ a) (t : Tok) (e : TypeId) (n k p : Nat) (o : Obj) : ∀ b, (w.alloc o).heap.size ≤ b → (newRowG g t e w.heap.size n k p).prot b = 0 ∧ (newRowG g t e w.heap.size n k p).owner b = none := by
  intro b hb
  have hb' : w.heap.size + 1 ≤ b := by simpa using hb
  have := hr.fresh b (by omega)
  exact ⟨by show (if b = w.heap.size then _ else _) = _; rw [if_neg (by omega)]; exact this.1, by show (if b = w.heap.size then _ else _) = _; rw [if_neg (by omega)]; exact this.2⟩

theorem run_newRow (e : TypeId) (cs : Array Value) : (newRow e cs).run P w = .ok ⟨w.heap.size, 0, none⟩ (w.alloc (.cells cs e)) := by
  simp [newRow, newObj, Sem.run]

/-- what an operation may do: it hands out a value, in a world below which nothing has turned -/
def Does (P : Program) (base : Nat) (σ' : St) (o : Oper) (a : Act) (w : World) : Prop :=
  ∃ z w' g', ((execOp a.eval o).run P w = .ok (.value z) w' ∨ ((execOp a.eval o).run P w = .ok .skip w' ∧ z = undef)) ∧ Rel P w' g' base σ' (a.put o.dst z) ∧ Below base w w'

theorem evPure_ok (hr : Rel P w g base σ a) {o : Oper} {σ' : St} (hd : ∀ d, o.dst = some d → d < a.tmps.size) (h : evPure P σ o = some (σ', true)) : Does P base σ' o a w := by
  unfold evPure at h
  split at h
  · rename_i v ok hq
    simp only [Option.some.injEq, Prod.mk.injEq] at h
    obtain ⟨rfl, rfl⟩ := h
    obtain ⟨z, h1, h2⟩ := evQ_ok hr hq
    have h1 := h1 w (Below.refl _ _)
    exact ⟨z, w, g, .inl h1, hr.put hd h2, Below.refl _ _⟩
  · cases h

/-- the cells of a value -/
theorem cells_length {v : T} {cs : List Ce} {ds : List D} (h : v.cells = some (cs, ds)) : ds.length = cs.length := by
  obtain ⟨sh, p⟩ := v
  unfold T.cells at h
  simp only at h
  split at h
  · rename_i x
    cases hx : (x == Ce.any) with
    | true => rw [hx] at h; cases h
    | false => rw [hx] at h; simp only [cond_false, Option.some.injEq, Prod.mk.injEq] at h; obtain ⟨rfl, rfl⟩ := h; rfl
  · rename_i xs
    cases hx : xs.contains Ce.any with
    | true => rw [hx] at h; cases h
    | false => rw [hx] at h; simp only [cond_false, Option.some.injEq, Prod.mk.injEq] at h; obtain ⟨rfl, rfl⟩ := h; exact sub_length _ _ _
  · cases h

theorem cells_ok {v : T} {u : Value} {cs : List Ce} {ds : List D} (h : v.cells = some (cs, ds)) (hv : VT P w g base v u) : VCs P w g base cs ds u.cells ∧ (∀ c ∈ cs, c ≠ .any) := by
  obtain ⟨sh, p⟩ := v
  cases sh with
  | tup xs => cases h
  | one x => cases x with
    | c x =>
      simp only [T.cells] at h
      cases hx : (x == Ce.any) with
      | true => rw [hx] at h; cases h
      | false =>
        rw [hx] at h
        simp only [cond_false, Option.some.injEq, Prod.mk.injEq] at h
        obtain ⟨rfl, rfl⟩ := h
        have hv : VC P w g base x (gd p 0) u := hv
        have hx : x ≠ .any := by simpa using hx
        have hf := hv.flat hx
        have hc : u.cells = #[u] := by cases u <;> simp_all [flatV, Value.cells]
        refine ⟨⟨by rw [hc]; rfl, fun j c hj => ?_⟩, by simpa using hx⟩
        cases j with
        | succ j => simp at hj
        | zero =>
          simp only [List.getElem?_cons_zero, Option.some.injEq] at hj
          subst hj
          exact ⟨u, by rw [hc]; rfl, hv⟩
    | agg xs =>
      simp only [T.cells] at h
      cases hx : xs.contains Ce.any with
      | true => rw [hx] at h; cases h
      | false =>
        rw [hx] at h
        simp only [cond_false, Option.some.injEq, Prod.mk.injEq] at h
        obtain ⟨rfl, rfl⟩ := h
        obtain ⟨arr, rfl, h1, h2⟩ := hv
        refine ⟨⟨h1, fun j c hj => ?_⟩, fun c hc e => ?_⟩
        · obtain ⟨z, k1, k2⟩ := h2 j c hj
          exact ⟨z, k1, by rw [gd_sub _ _ _ _ (List.getElem?_eq_some_iff.1 hj).1, Nat.zero_add]; exact k2⟩
        · subst e
          have := List.contains_iff_mem.2 hc
          rw [this] at hx
          cases hx

theorem evBox_ok (hr : Rel P w g base σ a) {o : Oper} {σ' : St} {d : Nat} {t : TypeId} {x : Operand} (ho : o.op = .box t x) (hdst : o.dst = some d) (hd : ∀ d, o.dst = some d → d < a.tmps.size) (h : evBox σ d x = some (σ', true)) : Does P base σ' o a w := by
  unfold evBox at h
  have hE := ext_box (g := g) (w := w) d (.cells (a.eval x).cells t)
  have hF := fresh_box hr d (.cells (a.eval x).cells t)
  have hk : Kept P base g _ w _ (wipeC d) := fun c x v hv => hE.vc hr.base_le hv
  cases hc : (opd (σ.wipe d) x).cells with
  | none => rw [hc] at h; cases h
  | some q =>
    obtain ⟨cs, ds⟩ := q
    rw [hc] at h
    simp only [Option.some.injEq, Prod.mk.injEq, and_true] at h
    subst h
    have hr0 : Rel P (w.alloc (.cells (a.eval x).cells t)) (newBox g d w.heap.size) base ⟨(σ.wipe d).r, (σ.wipe d).e, []⟩ a :=
      ⟨fun i => hr.envMap hk rfl i, fun id cs ds hl => by simp [hlook] at hl, hF, Nat.le_trans hr.base_le hE.size, hr.defers, hE.low hr⟩
    have hox : VT P (w.alloc (.cells (a.eval x).cells t)) (newBox g d w.heap.size) base (opd (σ.wipe d) x) (a.eval x) := by
      have := opd_ok hr0 x
      exact this
    obtain ⟨hcs, _⟩ := cells_ok hc hox
    have hbox : BoxV P (w.alloc (.cells (a.eval x).cells t)) (newBox g d w.heap.size) base d cs ds := by
      have hθ : (newBox g d w.heap.size).θ d = w.heap.size := if_pos rfl
      refine ⟨by rw [hθ]; exact hr.base_le, by rw [hθ]; exact if_pos rfl, by rw [hθ]; exact (hr.fresh _ (Nat.le_refl _)).1, cells_length hc, (a.eval x).cells, t, by rw [hθ]; exact heap_new w _, hcs⟩
    have hrel := hr.wipeBox hE hF hbox
    refine ⟨.pointer (some ⟨w.heap.size, 0, none⟩), _, _, .inl ?_, hrel.put hd (t := .c (.ptr d 0) D0) ?_ |> fun h => by rw [hdst] at h ⊢; exact h, (Below.refl _ _).alloc hr.base_le _⟩
    · simp only [execOp, ho, Instr.box, newVar, Sem.run_bind, run_newRow, Result.andThen_ok, Sem.run_pure]
    · show Value.pointer _ = Value.pointer (some ⟨(newBox g d w.heap.size).θ d, 0, none⟩)
      rw [show (newBox g d w.heap.size).θ d = w.heap.size from if_pos rfl]

theorem zero_get : ∀ {row : List S} {vs : List Value}, zeroMatch P row vs = true → vs.length = row.length ∧ ∀ (j : Nat) (s : S), row[j]? = some s → ∃ u, vs[j]? = some u ∧ (∀ (w : World) (prot : Nat → Nat), VD P w prot s (zeroD s) u) ∧ (∀ e, s = .sl e → u = .slice none 0 0 ∧ ∃ r, rowOf P e = some r)
  | [], [], _ => ⟨rfl, fun j s h => by simp at h⟩
  | [], _ :: _, h => by simp [zeroMatch] at h
  | s :: r, [], h => by cases s <;> simp [zeroMatch] at h
  | s :: r, v :: vs, h => by
    have key : zeroMatch P r vs = true ∧ (∀ (w : World) (prot : Nat → Nat), VD P w prot s (zeroD s) v) ∧ (∀ e, s = .sl e → v = .slice none 0 0 ∧ ∃ r, rowOf P e = some r) := by
      cases s with
      | int k =>
        cases v <;> simp only [zeroMatch, Bool.and_eq_true, beq_iff_eq, reduceCtorEq, Bool.false_eq_true] at h
        obtain ⟨⟨rfl, rfl⟩, h⟩ := h
        exact ⟨h, fun w prot => VD.int _ (.i 0), fun e he => by cases he⟩
      | bool =>
        cases v <;> simp only [zeroMatch, Bool.and_eq_true, beq_iff_eq, reduceCtorEq, Bool.false_eq_true, Bool.not_eq_true'] at h
        obtain ⟨rfl, h⟩ := h
        exact ⟨h, fun w prot => VD.bool (.b false), fun e he => by cases he⟩
      | str =>
        cases v <;> simp only [zeroMatch, Bool.and_eq_true, beq_iff_eq, reduceCtorEq, Bool.false_eq_true] at h
        rename_i b
        obtain ⟨h0, h⟩ := h
        have hb : b = bsv [] := by
          have : b.data.toList = [] := by simpa using h0
          rw [← bsv_byteList b]
          unfold byteList
          rw [this]
        subst hb
        exact ⟨h, fun w prot => VD.str (.s []), fun e he => by cases he⟩
      | sl e =>
        cases v with
        | slice A n c =>
          cases A with
          | some A => simp [zeroMatch] at h
          | none =>
            cases n with
            | succ n => simp [zeroMatch] at h
            | zero =>
              cases c with
              | succ c => simp [zeroMatch] at h
              | zero =>
                simp only [zeroMatch, Bool.and_eq_true] at h
                obtain ⟨h0, h⟩ := h
                obtain ⟨row', hr⟩ := Option.isSome_iff_exists.1 h0
                refine ⟨h, fun w prot => ?_, fun e' he => by cases he; exact ⟨rfl, row', hr⟩⟩
                exact VD.sl e (.l []) none 0 row' (fun _ _ => undef) hr (by simp [D.rows]) (by omega) (fun i j hi => by simp [D.rows] at hi) (fun i j s hi => by simp [D.rows] at hi)
        | _ => simp [zeroMatch] at h
    obtain ⟨h1, h2, h3⟩ := key
    obtain ⟨k1, k2⟩ := zero_get h1
    refine ⟨by simp [k1], fun j s' hj => ?_⟩
    cases j with
    | zero =>
      simp only [List.getElem?_cons_zero, Option.some.injEq] at hj
      subst hj
      exact ⟨v, rfl, h2, h3⟩
    | succ j => exact k2 j s' (by simpa using hj)

theorem zeroC_get (d : Nat) : ∀ (row : List S) (i j : Nat) c, (zeroC d i row)[j]? = some c → ∃ s, row[j]? = some s ∧ ((∃ e, s = .sl e ∧ c = .own (d, i + j) true e) ∨ c = .d s)
  | [], i, j, c, h => by simp [zeroC] at h
  | s :: r, i, j, c, h => by
    cases j with
    | zero =>
      simp only [zeroC, List.getElem?_cons_zero, Option.some.injEq] at h
      subst h
      refine ⟨s, rfl, ?_⟩
      cases s with
      | sl e => exact .inl ⟨e, rfl, rfl⟩
      | _ => exact .inr rfl
    | succ j =>
      obtain ⟨s', h1, h2⟩ := zeroC_get d r (i + 1) j c (by simpa [zeroC] using h)
      exact ⟨s', by simpa using h1, by rw [show i + (j + 1) = i + 1 + j from by omega]; exact h2⟩
theorem zeroC_length (d : Nat) : ∀ (row : List S) (i : Nat), (zeroC d i row).length = row.length
  | [], _ => rfl
  | s :: r, i => by
    rw [zeroC, List.length_cons, List.length_cons, zeroC_length d r (i + 1)]
theorem gd_map_zero (row : List S) (j : Nat) (s : S) (h : row[j]? = some s) : gd (row.map zeroD) j = zeroD s := by
  simp [gd, List.getD_eq_getElem?_getD, List.getElem?_map, h]

theorem zero_vcs {row : List S} {vs : Array Value} (h : zeroMatch P row vs.toList = true) (d i : Nat) (h0 : ∀ i, g.len (d, i) = 0) : VCs P w g base (zeroC d i row) (row.map zeroD) vs := by
  obtain ⟨h1, h2⟩ := zero_get h
  refine ⟨by rw [zeroC_length]; simpa using h1, fun j c hj => ?_⟩
  obtain ⟨s, hs, hc⟩ := zeroC_get d row i j c hj
  obtain ⟨u, hu, hv, hsl⟩ := h2 j s hs
  refine ⟨u, by simpa using hu, ?_⟩
  rw [gd_map_zero row j s hs]
  rcases hc with ⟨e, rfl, rfl⟩ | rfl
  · obtain ⟨rfl, r, hr⟩ := hsl e rfl
    exact ⟨r, hr, .inl ⟨rfl, h0 _, none, rfl⟩⟩
  · exact hv w g.prot

theorem zeroOk_ok {t : TypeId} {row : List S} (h : zeroOk P t row = true) : ∃ i v, P.info? t = some i ∧ i.zero = some v ∧ zeroMatch P row v.cells.toList = true := by
  unfold zeroOk at h
  split at h
  · rename_i i hi
    split at h
    · rename_i v hv
      exact ⟨i, v, hi, hv, h⟩
    · cases h
  · cases h
theorem run_zero {t : TypeId} {i : TypeInfo} {v : Value} (hi : P.info? t = some i) (hz : i.zero = some v) (w : World) : (zeroValue t).run P w = .ok v w := by
  simp [zeroValue, typeInfo, program, hi, hz, Sem.run]

/-- what was there stays -/
def DoesB (P : Program) (base : Nat) (σ' : St) (o : Oper) (a : Act) (w : World) : Prop :=
  ∃ z w' g', (execOp a.eval o).run P w = .ok (.value z) w' ∧ Rel P w' g' base σ' (a.put o.dst z) ∧ Below base w w' ∧ Below w.heap.size w w' ∧ z = .pointer (some ⟨w.heap.size, 0, none⟩)
theorem evAlloc_okB (hr : Rel P w g base σ a) {o : Oper} {σ' : St} {d : Nat} {t : TypeId} (ho : o.op = .alloc t) (hdst : o.dst = some d) (hd : ∀ d, o.dst = some d → d < a.tmps.size) (h : evAlloc P σ d t = some (σ', true)) : DoesB P base σ' o a w := by
  unfold evAlloc at h
  split at h
  · rename_i row hrow
    cases hz : zeroOk P t row with
    | false => rw [hz] at h; cases h
    | true =>
      rw [hz] at h
      simp only [Bool.not_true, cond_false, Option.some.injEq, Prod.mk.injEq, and_true] at h
      subst h
      obtain ⟨ti, v, hi, hv, hm⟩ := zeroOk_ok hz
      have hE := ext_box (g := g) (w := w) d (.cells v.cells t)
      have hF := fresh_box hr d (.cells v.cells t)
      have hθ : (newBox g d w.heap.size).θ d = w.heap.size := if_pos rfl
      have hbox : BoxV P (w.alloc (.cells v.cells t)) (newBox g d w.heap.size) base d (zeroC d 0 row) (row.map zeroD) :=
        ⟨by rw [hθ]; exact hr.base_le, by rw [hθ]; exact if_pos rfl, by rw [hθ]; exact (hr.fresh _ (Nat.le_refl _)).1, by simp [zeroC_length], v.cells, t, by rw [hθ]; exact heap_new w _, zero_vcs hm d 0 (fun i => if_pos rfl)⟩
      have hrel := hr.wipeBox hE hF hbox
      refine ⟨.pointer (some ⟨w.heap.size, 0, none⟩), _, _, ?_, hrel.put hd (t := .c (.ptr d 0) D0) ?_ |> fun h => by rw [hdst] at h ⊢; exact h, (Below.refl _ _).alloc hr.base_le _, (Below.refl _ _).alloc (Nat.le_refl _) _, rfl⟩
      · simp only [execOp, ho, Instr.alloc, newVar, Sem.run_bind, run_zero hi hv, run_newRow, Result.andThen_ok, Sem.run_pure]
      · show Value.pointer _ = Value.pointer (some ⟨(newBox g d w.heap.size).θ d, 0, none⟩)
        rw [hθ]
  · cases h

theorem evAlloc_ok (hr : Rel P w g base σ a) {o : Oper} {σ' : St} {d : Nat} {t : TypeId} (ho : o.op = .alloc t) (hdst : o.dst = some d) (hd : ∀ d, o.dst = some d → d < a.tmps.size) (h : evAlloc P σ d t = some (σ', true)) : Does P base σ' o a w := by
  obtain ⟨z, w', g', h1, h2, h3, _⟩ := evAlloc_okB hr ho hdst hd h
  exact ⟨z, w', g', .inl h1, h2, h3⟩

theorem evNil_ok (hr : Rel P w g base σ a) {o : Oper} {σ' : St} {d : Nat} (ho : o.op = .assign (.const (.slice none 0 0))) (hdst : o.dst = some d) (hd : ∀ d, o.dst = some d → d < a.tmps.size) (h : evNil P σ d o.type = some (σ', true)) : Does P base σ' o a w := by
  unfold evNil at h
  split at h
  · rename_i e he
    cases hz : (rowOf P e).isSome with
    | false => rw [hz] at h; cases h
    | true =>
      rw [hz] at h
      simp only [cond_true, Option.some.injEq, Prod.mk.injEq, and_true] at h
      subst h
      obtain ⟨row, hrow⟩ := Option.isSome_iff_exists.1 hz
      have hrel := hr.wipeRow (ext_reset g d w) rfl hr.fresh
      refine ⟨.slice none 0 0, w, resetG g d, .inl (by simp [execOp, ho, Act.eval]), hrel.put hd (t := .c (.own (d, 0) true e) (.l [])) ?_ |> fun h => by rw [hdst] at h ⊢; exact h, Below.refl _ _⟩
      exact ⟨row, hrow, .inl ⟨rfl, if_pos rfl, none, rfl⟩⟩
  · cases h
end
end Go.Proofs.Ytdejncnjaebjfaa
