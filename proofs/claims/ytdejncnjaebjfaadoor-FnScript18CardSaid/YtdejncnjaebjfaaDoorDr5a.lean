/-
  The region in which l18DrawDeed makes its town, in whatever order.
-/
import Derived.Test.YtdejncnjaebjfaaDoorDr2
import Derived.Orders
namespace Go.Proofs.YtdejncnjaebjfaaDoor
set_option linter.unusedVariables false
set_option linter.unusedSimpArgs false
open Go.ChangeShapes Go.WideShapes Go.ChangeAt Go.RowKit

def cls0 : Array Value := #[.int .i64 0, .int .i64 0, .int .i64 0, .slice none 0 0, .slice none 0 0, .int .i64 0, .int .i64 0, .int .i64 0, .slice none 0 0, .int .i64 0, .int .i64 0, .int .i64 0, .slice none 0 0, .slice none 0 0, .int .i64 0, .int .i64 0, .int .i64 0, .slice none 0 0, .int .i64 0, .int .i64 0, .int .i64 0, .slice none 0 0, .slice none 0 0, .int .i64 0, .int .i64 0, .int .i64 0, .slice none 0 0]
def cel0 : Array Value := #[.int .i64 0, .int .i64 0, .int .i64 0, .slice none 0 0, .slice none 0 0, .int .i64 0, .int .i64 0, .int .i64 0, .slice none 0 0]
theorem cls0_eq : cls0 = #[.int .i64 0, .int .i64 0, .int .i64 0, .slice none 0 0, .slice none 0 0, .int .i64 0, .int .i64 0, .int .i64 0, .slice none 0 0, .int .i64 0, .int .i64 0, .int .i64 0, .slice none 0 0, .slice none 0 0, .int .i64 0, .int .i64 0, .int .i64 0, .slice none 0 0, .int .i64 0, .int .i64 0, .int .i64 0, .slice none 0 0, .slice none 0 0, .int .i64 0, .int .i64 0, .int .i64 0, .slice none 0 0] := rfl
theorem info_shard : (Tryd.prog.info? 142).map (fun i => (i.zero, i.size, i.bytes)) = some (some (.agg #[.int .i64 0, .slice none 0 0, .slice none 0 0, .slice none 0 0, .slice none 0 0, .slice none 0 0, .slice none 0 0, .slice none 0 0, .int .i64 0]), 9, 184) := by kernel_rfl
theorem info_letter : (Tryd.prog.info? 145).map (fun i => (i.zero, i.size, i.bytes)) = some (some (.agg #[.int .i64 0, .int .i64 0, .int .i64 0, .int .i64 0, .int .i64 0, .int .i64 0, .int .i64 0, .int .i64 0, .int .i64 0, .bool false, .slice none 0 0, .slice none 0 0, .slice none 0 0, .slice none 0 0]), 14, 176) := by kernel_rfl
theorem info_client : (Tryd.prog.info? 94).map (fun i => (i.zero, i.size, i.bytes)) = some (some (.agg cel0), 9, 120) := by kernel_rfl
theorem cls0_made : madeCells (Value.agg cel0).cells (3 * 9) = cls0 := by kernel_rfl
theorem mk_c (w : World) : (Instr.makeSlice 76 (.int .i64 3) (.int .i64 3)).run Tryd.prog w = .ok (.slice (some ⟨w.heap.size, 0, none⟩) 3 3) (w.alloc (.cells cls0 94)) := by
  obtain ⟨i, hi, hz, hs, hb⟩ := info_parts info_client
  have h := make_at _ _ i _ Tryd.underlying76 hi hz 3 (by rw [hb]; omega) (by omega) w
  rw [hs, cls0_made] at h
  exact h
theorem mk_s : ∃ cs : Array Value, ∀ w : World, (Instr.makeSlice 77 (.int .i64 3) (.int .i64 3)).run Tryd.prog w = .ok (.slice (some ⟨w.heap.size, 0, none⟩) 3 3) (w.alloc (.cells cs 142)) := by
  obtain ⟨i, hi, hz, hs, hb⟩ := info_parts info_shard
  exact ⟨_, make_at _ _ i _ Tryd.underlying77 hi hz 3 (by rw [hb]; omega) (by omega)⟩
theorem mk_p : ∃ cs : Array Value, ∀ w : World, (Instr.makeSlice 78 (.int .i64 5) (.int .i64 5)).run Tryd.prog w = .ok (.slice (some ⟨w.heap.size, 0, none⟩) 5 5) (w.alloc (.cells cs 145)) := by
  obtain ⟨i, hi, hz, hs, hb⟩ := info_parts info_letter
  exact ⟨_, make_at _ _ i _ Tryd.underlying78 hi hz 5 (by rw [hb]; omega) (by omega)⟩
theorem al_t (w : World) : (Instr.alloc 90 true (.tuple #[])).run Tryd.prog w = .ok (.pointer (some ⟨w.heap.size, 0, none⟩)) (w.alloc (.cells #[.int .i64 0, .slice none 0 0, .int .i64 0, .int .i64 0, .int .i64 0, .int .i64 0, .int .i64 0, .int .i64 0, .slice none 0 0, .slice none 0 0, .slice none 0 0, .slice none 0 0, .slice none 0 0, .slice none 0 0, .slice none 0 0] 90)) := by kernel_rfl

/-- a relation that each operation that may come up keeps, and that is enough in the end -/
theorem wpAny_inv {P : Program} {md : Region.Mode} {ops : Array Oper} {Q : Exit → Act → World → Prop} (R : Array Bool → Act → World → Prop) (left : Array Bool → Nat) (h0 : ∀ l a w, R l a w → left l = 0 → Region.ready md ops l = []) (hl : ∀ l a w i, R l a w → i ∈ Region.ready md ops l → left (l.setIfInBounds i true) < left l)
    (hend : ∀ l a w, R l a w → Region.ready md ops l = [] → Q .normal a w) (hstep : ∀ l a w i, R l a w → i ∈ Region.ready md ops l → wpOp P ops Q i (R (l.setIfInBounds i true)) a w) :
    ∀ (n : Nat) (l : Array Bool) (a : Act) (w : World), left l ≤ n → R l a w → wpAny P md ops Q n l a w
  | 0, l, a, w, hn, hr => ⟨h0 l a w hr (by omega), hend l a w hr (h0 l a w hr (by omega))⟩
  | n + 1, l, a, w, hn, hr => ⟨fun h => hend l a w hr h, fun i hi => wpOp_mono (fun a' w' hr' => wpAny_inv R left h0 hl hend hstep n _ a' w' (by have := hl l a w i hr hi; omega) hr') (hstep l a w i hr hi)⟩
theorem wpOp_do {P : Program} {ops : Array Oper} {Q : Exit → Act → World → Prop} {i : Nat} {o : Oper} {K : Act → World → Prop} {a : Act} {w : World} (ho : ops[i]? = some o) (hg : o.guard = none) (h : o.wp P a w K Q) : wpOp P ops Q i K a w := by
  unfold wpOp
  rw [ho]
  simp only [Region.wanted, hg, if_true]
  exact .inl h
theorem wp_make {P : Program} {Q : Exit → Act → World → Prop} {o : Oper} {K : Act → World → Prop} {a : Act} {w w' : World} {t : TypeId} {l c : Value} {v : Value} (ho : o.op = .makeSlice t (.const l) (.const c)) (hr : (Instr.makeSlice t l c).run P w = .ok v w') (h : K (a.put o.dst v) w') : o.wp P a w K Q := by
  unfold Oper.wp execOp
  simp only [ho, Act.eval, Sem.run_bind, Sem.run_pure, Result.andThen_ok, hr]
  exact h
theorem wp_alloc {P : Program} {Q : Exit → Act → World → Prop} {o : Oper} {K : Act → World → Prop} {a : Act} {w w' : World} {t : TypeId} {v : Value} (ho : o.op = .alloc t) (hr : (Instr.alloc t true (.tuple #[])).run P w = .ok v w') (h : K (a.put o.dst v) w') : o.wp P a w K Q := by
  unfold Oper.wp execOp
  simp only [ho, Act.eval, Sem.run_bind, Sem.run_pure, Result.andThen_ok, hr]
  exact h
theorem wp_build2 {P : Program} {Q : Exit → Act → World → Prop} {o : Oper} {K : Act → World → Prop} {a : Act} {w : World} (t : TypeId) (parts : Array (Nat × Operand)) (cs : Array Value) (ho : o.op = .build t parts) (hb : P.built t (parts.map fun (i, x) => (i, a.eval x)).toList = some cs) (h : K (a.put o.dst (.agg cs)) w) : o.wp P a w K Q :=
  wp_build t parts ho (by rw [hb]; rfl) (by rw [hb]; exact h)
def p208 : String := "l18_text.go:208"
def o0 : Oper := { dst := some 6, op := .makeSlice 76 (.const (.int .i64 3)) (.const (.int .i64 3)), type := 76, pos := "l18_text.go:208", after := #[], guard := none }
def o1 : Oper := { dst := some 7, op := .makeSlice 77 (.const (.int .i64 3)) (.const (.int .i64 3)), type := 77, pos := "l18_text.go:208", after := #[], guard := none }
def o2 : Oper := { dst := some 8, op := .makeSlice 78 (.const (.int .i64 5)) (.const (.int .i64 5)), type := 78, pos := "l18_text.go:208", after := #[], guard := none }
def o3 : Oper := { dst := some 9, op := .build 90 #[(3, .tmp 6), (1, .tmp 7), (4, .tmp 8)], type := 90, pos := "l18_text.go:208", after := #[{ on := 0, ground := .data }, { on := 1, ground := .data }, { on := 2, ground := .data }], guard := none }
def o4 : Oper := { dst := some 3, op := .alloc 90, type := 0, pos := "l18_text.go:208", after := #[], guard := none }
def o5 : Oper := { dst := none, op := .store 90 (.tmp 3) (.tmp 9), type := 0, pos := "l18_text.go:208", after := #[{ on := 4, ground := .data }, { on := 3, ground := .data }, { on := 0, ground := .phase }, { on := 1, ground := .phase }, { on := 2, ground := .phase }, { on := 3, ground := .phase }, { on := 4, ground := .phase }], guard := none }
def ops1 : Array Oper := #[o0, o1, o2, o3, o4, o5]
theorem ready_one' : ∀ l0 l1 l2 l3 l4 l5 : Bool, (Region.ready .any ops1 #[l0, l1, l2, l3, l4, l5]).all (fun i => (i == 0 && !l0) || (i == 1 && !l1) || (i == 2 && !l2) || (i == 3 && !l3 && l0 && l1 && l2) || (i == 4 && !l4) || (i == 5 && !l5 && l3 && l4)) = true := of_decide_eq_true (by kernel_rfl)
theorem ready_one (l0 l1 l2 l3 l4 l5 : Bool) (i : Nat) (hi : i ∈ Region.ready .any ops1 #[l0, l1, l2, l3, l4, l5]) : (i = 0 ∧ l0 = false) ∨ (i = 1 ∧ l1 = false) ∨ (i = 2 ∧ l2 = false) ∨ (i = 3 ∧ l3 = false ∧ l0 = true ∧ l1 = true ∧ l2 = true) ∨ (i = 4 ∧ l4 = false) ∨ (i = 5 ∧ l5 = false ∧ l3 = true ∧ l4 = true) := by
  have := List.all_eq_true.1 (ready_one' l0 l1 l2 l3 l4 l5) i hi
  simpa [and_assoc, or_assoc] using this
theorem ready_none : ∀ l0 l1 l2 l3 l4 l5 : Bool, Region.ready .any ops1 #[l0, l1, l2, l3, l4, l5] = [] → l0 = true ∧ l1 = true ∧ l2 = true ∧ l3 = true ∧ l4 = true ∧ l5 = true := of_decide_eq_true (by kernel_rfl)
theorem ready_all : Region.ready .any ops1 #[true, true, true, true, true, true] = [] := by kernel_rfl
/-- the frame -/
def fr1 (g n : Nat) (x3 x6 x7 x8 x9 : Value) : Act := { tmps := #[.pointer (some ⟨g, 0, none⟩), undef, .pointer (some ⟨n, 0, none⟩), x3, undef, undef, x6, x7, x8, x9, undef, undef, undef, undef, undef, undef, undef, undef, undef, undef, undef, undef, undef, undef, undef, undef, undef, undef, undef, undef], defers := [] }
/-- where the region stands -/
structure RR (g n : Nat) (w0 : World) (l0 l1 l2 l3 l4 l5 : Bool) (bC bS bP bT : Nat) (old : Array Value) (a : Act) (W : World) : Prop where
  fr : a = fr1 g n (bif l4 then .pointer (some ⟨bT, 0, none⟩) else undef) (bif l0 then .slice (some ⟨bC, 0, none⟩) 3 3 else undef) (bif l1 then .slice (some ⟨bS, 0, none⟩) 3 3 else undef) (bif l2 then .slice (some ⟨bP, 0, none⟩) 5 5 else undef) (bif l3 then .agg (town0 ⟨bS, 0, none⟩ ⟨bC, 0, none⟩ ⟨bP, 0, none⟩) else undef)
  bel : Below w0.heap.size w0 W
  nlt : n < W.heap.size
  own : Blk W n 23 #[.int .i64 0, .int .i64 0, .int .i64 0, .int .i64 0, .int .i64 0, .int .i64 0, .int .i64 0]
  hC : l0 = true → n < bC ∧ Blk W bC 94 cls0
  hT : l4 = true → n < bT ∧ old.size = 15 ∧ Blk W bT 90 old
  hne : l0 = true → l4 = true → bC ≠ bT
  h3 : l3 = true → l0 = true ∧ l1 = true ∧ l2 = true
  h5 : l5 = true → l3 = true ∧ l4 = true ∧ old = town0 ⟨bS, 0, none⟩ ⟨bC, 0, none⟩ ⟨bP, 0, none⟩
def R1 (g n : Nat) (w0 : World) (l : Array Bool) (a : Act) (W : World) : Prop :=
  ∃ (l0 l1 l2 l3 l4 l5 : Bool) (bC bS bP bT : Nat) (old : Array Value), l = #[l0, l1, l2, l3, l4, l5] ∧ RR g n w0 l0 l1 l2 l3 l4 l5 bC bS bP bT old a W
theorem Blk.alloc {w : World} {g : Nat} {t : TypeId} {cs : Array Value} (h : Blk w g t cs) (o : Obj) : Blk (w.alloc o) g t cs := h.keep (Below.heap_alloc w o g h.lt)
def left1 (l : Array Bool) : Nat := (l.toList.filter (fun b => b == false)).length
theorem ready_left : ∀ l0 l1 l2 l3 l4 l5 : Bool, ∀ i ∈ Region.ready .any ops1 #[l0, l1, l2, l3, l4, l5], left1 ((#[l0, l1, l2, l3, l4, l5] : Array Bool).setIfInBounds i true) < left1 #[l0, l1, l2, l3, l4, l5] := of_decide_eq_true (by kernel_rfl)
theorem left_zero : ∀ l0 l1 l2 l3 l4 l5 : Bool, left1 #[l0, l1, l2, l3, l4, l5] = 0 → Region.ready .any ops1 #[l0, l1, l2, l3, l4, l5] = [] := of_decide_eq_true (by kernel_rfl)

set_option maxRecDepth 100000 in
theorem region1 (g n : Nat) (w0 W0 : World) (hn : w0.heap.size = n) (Q : Exit → Act → World → Prop) (cs2 cs3 : Array Value)
    (m2 : ∀ w : World, (Instr.makeSlice 77 (.int .i64 3) (.int .i64 3)).run Tryd.prog w = .ok (.slice (some ⟨w.heap.size, 0, none⟩) 3 3) (w.alloc (.cells cs2 142)))
    (m3 : ∀ w : World, (Instr.makeSlice 78 (.int .i64 5) (.int .i64 5)).run Tryd.prog w = .ok (.slice (some ⟨w.heap.size, 0, none⟩) 5 5) (w.alloc (.cells cs3 145)))
    (hb : Below n w0 W0) (ho : Blk W0 n 23 #[.int .i64 0, .int .i64 0, .int .i64 0, .int .i64 0, .int .i64 0, .int .i64 0, .int .i64 0])
    (hQ : ∀ (bC bS bP bT : Nat) (W : World), Below n w0 W → Blk W n 23 #[.int .i64 0, .int .i64 0, .int .i64 0, .int .i64 0, .int .i64 0, .int .i64 0, .int .i64 0] → Blk W bC 94 cls0 → Blk W bT 90 (town0 ⟨bS, 0, none⟩ ⟨bC, 0, none⟩ ⟨bP, 0, none⟩) → n < bC → n < bT → bC ≠ bT → Q .normal (fr1 g n (.pointer (some ⟨bT, 0, none⟩)) (.slice (some ⟨bC, 0, none⟩) 3 3) (.slice (some ⟨bS, 0, none⟩) 3 3) (.slice (some ⟨bP, 0, none⟩) 5 5) (.agg (town0 ⟨bS, 0, none⟩ ⟨bC, 0, none⟩ ⟨bP, 0, none⟩))) W) :
    wpAny Tryd.prog .any ops1 Q 6 #[false, false, false, false, false, false] (fr1 g n undef undef undef undef undef) W0 := by
  subst hn
  refine wpAny_inv (R1 g w0.heap.size w0) left1 (by rintro l a w ⟨l0, l1, l2, l3, l4, l5, _, _, _, _, _, rfl, _⟩ h; exact left_zero _ _ _ _ _ _ h) (by rintro l a w i ⟨l0, l1, l2, l3, l4, l5, _, _, _, _, _, rfl, _⟩ h; exact ready_left _ _ _ _ _ _ i h) ?_ ?_ 6 _ _ _ (by decide) ⟨false, false, false, false, false, false, 0, 0, 0, 0, #[], rfl, rfl, hb, ho.lt, ho, by simp, by simp, by simp, by simp, by simp⟩
  · rintro l a w ⟨l0, l1, l2, l3, l4, l5, bC, bS, bP, bT, old, rfl, h⟩ hr
    obtain ⟨rfl, rfl, rfl, rfl, rfl, rfl⟩ := ready_none _ _ _ _ _ _ hr
    obtain ⟨h1, h2⟩ := h.hC rfl
    obtain ⟨h3, _, h4⟩ := h.hT rfl
    obtain ⟨_, _, rfl⟩ := h.h5 rfl
    rw [h.fr]
    exact hQ bC bS bP bT w h.bel h.own h2 h4 h1 h3 (h.hne rfl rfl)
  · rintro l a w i ⟨l0, l1, l2, l3, l4, l5, bC, bS, bP, bT, old, rfl, h⟩ hi
    have hbl := h.bel
    have hnl := h.nlt
    have hal := fun o => (h.bel).alloc (by have := h.bel.size; omega) o
    have hsz : ∀ o : Obj, w.heap.size < (w.alloc o).heap.size := fun o => by simp
    rcases ready_one _ _ _ _ _ _ i hi with ⟨rfl, rfl⟩ | ⟨rfl, rfl⟩ | ⟨rfl, rfl⟩ | ⟨rfl, rfl, rfl, rfl, rfl⟩ | ⟨rfl, rfl⟩ | ⟨rfl, rfl, rfl, rfl⟩
    · refine wpOp_do (o := o0) rfl rfl (wp_make rfl (mk_c w) ?_)
      refine ⟨true, l1, l2, l3, l4, l5, w.heap.size, bS, bP, bT, old, rfl, ?_⟩
      cases l3 with
      | true => exact absurd (h.h3 rfl).1 (by simp)
      | false =>
        refine ⟨by rw [h.fr]; rfl, hal _, by have := hsz (.cells cls0 94); omega, h.own.alloc _, fun _ => ⟨hnl, heap_alloc_new w _⟩, fun e => ⟨(h.hT e).1, (h.hT e).2.1, (h.hT e).2.2.alloc _⟩, fun _ e => ?_, by simp, fun e => absurd (h.h5 e).1 (by simp)⟩
        have := (h.hT e).2.2.lt
        omega
    · refine wpOp_do (o := o1) rfl rfl (wp_make rfl (m2 w) ?_)
      refine ⟨l0, true, l2, l3, l4, l5, bC, w.heap.size, bP, bT, old, rfl, ?_⟩
      cases l3 with
      | true => exact absurd (h.h3 rfl).2.1 (by simp)
      | false =>
        exact ⟨by rw [h.fr]; rfl, hal _, by have := hsz (.cells cs2 142); omega, h.own.alloc _, fun e => ⟨(h.hC e).1, (h.hC e).2.alloc _⟩, fun e => ⟨(h.hT e).1, (h.hT e).2.1, (h.hT e).2.2.alloc _⟩, h.hne, by simp, fun e => absurd (h.h5 e).1 (by simp)⟩
    · refine wpOp_do (o := o2) rfl rfl (wp_make rfl (m3 w) ?_)
      refine ⟨l0, l1, true, l3, l4, l5, bC, bS, w.heap.size, bT, old, rfl, ?_⟩
      cases l3 with
      | true => exact absurd (h.h3 rfl).2.2 (by simp)
      | false =>
        exact ⟨by rw [h.fr]; rfl, hal _, by have := hsz (.cells cs3 145); omega, h.own.alloc _, fun e => ⟨(h.hC e).1, (h.hC e).2.alloc _⟩, fun e => ⟨(h.hT e).1, (h.hT e).2.1, (h.hT e).2.2.alloc _⟩, h.hne, by simp, fun e => absurd (h.h5 e).1 (by simp)⟩
    · have hfr := h.fr
      subst hfr
      refine wpOp_do (o := o3) rfl rfl (wp_build2 _ _ (town0 ⟨bS, 0, none⟩ ⟨bC, 0, none⟩ ⟨bP, 0, none⟩) rfl (by cases l4 <;> kernel_rfl) ?_)
      exact ⟨true, true, true, true, l4, l5, bC, bS, bP, bT, old, rfl, by cases l4 <;> rfl, h.bel, h.nlt, h.own, h.hC, h.hT, h.hne, by simp, fun e => absurd (h.h5 e).1 (by simp)⟩
    · refine wpOp_do (o := o4) rfl rfl (wp_alloc rfl (al_t w) ?_)
      refine ⟨l0, l1, l2, l3, true, l5, bC, bS, bP, w.heap.size, #[.int .i64 0, .slice none 0 0, .int .i64 0, .int .i64 0, .int .i64 0, .int .i64 0, .int .i64 0, .int .i64 0, .slice none 0 0, .slice none 0 0, .slice none 0 0, .slice none 0 0, .slice none 0 0, .slice none 0 0, .slice none 0 0], rfl, ?_⟩
      cases l5 with
      | true => exact absurd (h.h5 rfl).2.1 (by simp)
      | false =>
        refine ⟨by rw [h.fr]; rfl, hal _, by have := hsz (.cells #[.int .i64 0, .slice none 0 0, .int .i64 0, .int .i64 0, .int .i64 0, .int .i64 0, .int .i64 0, .int .i64 0, .slice none 0 0, .slice none 0 0, .slice none 0 0, .slice none 0 0, .slice none 0 0, .slice none 0 0, .slice none 0 0] 90); omega, h.own.alloc _, fun e => ⟨(h.hC e).1, (h.hC e).2.alloc _⟩, fun _ => ⟨hnl, rfl, heap_alloc_new w _⟩, fun e _ => ?_, h.h3, by simp⟩
        have := (h.hC e).2.lt
        omega
    · obtain ⟨rfl, rfl, rfl⟩ := h.h3 rfl
      obtain ⟨t1, t2, t3⟩ := h.hT rfl
      obtain ⟨c1, c2⟩ := h.hC rfl
      have hne := h.hne rfl rfl
      have hfr := h.fr
      subst hfr
      refine wpOp_do (o := o5) rfl rfl (wp_store_row 90 (.tmp 3) (.tmp 9) rfl bT (town0 ⟨bS, 0, none⟩ ⟨bC, 0, none⟩ ⟨bP, 0, none⟩) rfl rfl 90 old t3 (by kernel_rfl) t2 (by simp [town0, Value.oneCell']) ?_)
      refine ⟨true, true, true, true, true, true, bC, bS, bP, bT, town0 ⟨bS, 0, none⟩ ⟨bC, 0, none⟩ ⟨bP, 0, none⟩, rfl, ?_⟩
      exact ⟨rfl, ⟨h.bel.os, h.bel.tape, h.bel.output, by rw [setRow_size]; exact h.bel.size, fun k hk => (Go.setRow_other w bT k _ (by omega)).trans (h.bel.block k hk)⟩, by rw [setRow_size]; exact h.nlt, h.own.keep (Go.setRow_other w bT _ _ (by omega)), fun _ => ⟨c1, c2.keep (Go.setRow_other w bT _ _ (by omega))⟩, fun _ => ⟨t1, rfl, Go.setRow_heap w bT old _ _ _ t3⟩, fun _ _ => hne, by simp, fun _ => ⟨rfl, rfl, rfl⟩⟩
end Go.Proofs.YtdejncnjaebjfaaDoor
