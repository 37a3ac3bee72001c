/-
  The evaluator is right: code.
-/
import Derived.Test.YtchceahcaaibcaaGreatSnd8
import Derived.Deep.LoopGhost
namespace Go.Proofs.YtchceahcaaibcaaGreat
set_option linter.unusedSimpArgs false
open Go.RowKit
set_option linter.unusedVariables false
set_option linter.unusedSectionVars false

section
variable [Low] {P : Program} {w w' : World} {g g' : G} {base : Nat} {σ : St} {a : Act}

theorem rcond_ok {c : Bool} {x y : R} {key : Option Dom} {out : Nat × List D} (h : rcond c x y = some (key, some out)) : (c = true → ∃ k, x = some (k, some out)) ∧ (c = false → ∃ k, y = some (k, some out)) := by
  unfold rcond at h
  split at h
  · split at h
    · simp only [Option.some.injEq, Prod.mk.injEq] at h
      obtain ⟨_, h⟩ := h
      cases c with
      | true => exact ⟨fun _ => ⟨_, by rw [cond_true] at h; rw [h]⟩, fun h => by cases h⟩
      | false => exact ⟨fun h => (by cases h), fun _ => ⟨_, by rw [cond_false] at h; rw [h]⟩⟩
    · cases h
  · cases h
theorem rneed_ok {c : Bool} {x : R} {key : Option Dom} {out : Nat × List D} (h : rneed c x = some (key, some out)) : c = true ∧ x = some (key, some out) := by
  unfold rneed at h
  split at h
  · simp only [Option.some.injEq, Prod.mk.injEq] at h
    obtain ⟨rfl, h⟩ := h
    cases c with
    | true => rw [cond_true] at h; subst h; exact ⟨rfl, rfl⟩
    | false => cases h
  · cases h

theorem evOp_goes (hr : Rel P w g base σ a) {call : FuncId → List T → Option (T × Bool)} (hcall : CallOk P call) {o : Oper} {σ' : St} (hd : ∀ d, o.dst = some d → d < a.tmps.size) (h : evOp P call σ o = some (σ', true)) : Goes P base σ' o a w := by
  obtain ⟨dst, op, ty, pos, after, guard⟩ := o
  unfold evOp at h
  simp only at h
  split at h
  · exact (evAlloc_ok hr rfl rfl hd h).goes
  · exact (evBox_ok hr rfl rfl hd h).goes
  · exact (evBuild_ok hr rfl rfl hd h).goes
  · exact (evBuildSlice_ok hr rfl rfl hd h).goes
  · exact (evMakeSlice_ok hr rfl rfl hd h).goes
  · exact (evStore_ok hr rfl hd h).goes
  · exact (evNil_ok hr rfl rfl hd h).goes
  · rename_i xs ts d
    split at h
    · rename_i x y t t' h1 h2
      cases ht : (t == t') with
      | false => rw [ht] at h; cases h
      | true =>
        rw [ht, cond_true] at h
        have ht : t = t' := by simpa using ht
        subst ht
        have e1 : xs = #[x, y] := by cases xs; simp_all
        have e2 : ts = #[t, t] := by cases ts; simp_all
        subst e1; subst e2
        exact (evAppend_ok hr rfl rfl hd h).goes
    · cases h
  · rename_i f xs ts d
    split at h
    · rename_i r he
      injection h with h
      subst h
      exact evW_ok hr hcall rfl hd he
    · exact (evCall_ok hr hcall rfl rfl hd h).goes
  · simp at h
  · simp at h
  · exact (evPure_ok hr hd h).goes

theorem yielded_of {ops : Array Oper} {tm : Array Value} {j t : Nat} (h : (ops[j]?).bind (·.dst) = some t) (hn : t < tm.size) : yielded ops tm j = match tm.getD t undef with | .bool b => some b | _ => none := by
  unfold yielded
  rw [h]
  simp only [Option.bind_some, Array.getElem?_eq_getElem hn, Array.getD_eq_getD_getElem?, Option.getD_some]
  cases tm[t] <;> rfl

theorem vd_bool {prot : Nat → Nat} {x : D} {v : Value} (h : VD P w prot .bool x v) : v = .bool x.bool := by
  cases h; rfl
theorem want_ok (hr : Rel P w g base σ a) {ops : Array Oper} (hops : ∀ o ∈ ops.toList, ∀ d, o.dst = some d → d < a.tmps.size) {o : Oper} :
    match want ops σ o with
    | .yes => Region.wanted o (yielded ops a.tmps) = true
    | .no => Region.wanted o (yielded ops a.tmps) = false
    | .ask t g b => t < a.tmps.size ∧ a.tmps.getD t undef = .bool g ∧ Region.wanted o (yielded ops a.tmps) = (g == b)
    | .bad => True := by
  unfold want Region.wanted
  cases hg : o.guard with
  | none => rfl
  | some q =>
    obtain ⟨j, b⟩ := q
    simp only
    cases hj : (ops[j]?).bind (·.dst) with
    | none => trivial
    | some t =>
      simp only
      have ht : t < a.tmps.size := by
        cases ho : ops[j]? with
        | none => rw [ho] at hj; cases hj
        | some o' => rw [ho] at hj; exact hops o' (by simpa using Array.mem_of_getElem? ho) t hj
      have hy := yielded_of (tm := a.tmps) hj ht
      have hv := hr.env t
      rw [hy]
      generalize look2 t σ.e σ.r = v at *
      obtain ⟨sh, p⟩ := v
      cases sh with
      | tup xs =>
        cases xs with
        | nil =>
          obtain ⟨vs, h1, h2, _⟩ := hv
          have : vs = #[] := by simpa using h2
          subst this
          simp only [h1]; rfl
        | cons x xs => trivial
      | one x => cases x with
        | agg xs => trivial
        | c x => cases x with
          | kb c =>
            have hv : a.tmps.getD t undef = .bool c := hv
            simp only [hv]
            cases c <;> cases b <;> rfl
          | d s => cases s with
            | bool =>
              have hv : VD P w g.prot .bool (gd p 0) (a.tmps.getD t undef) := hv
              have hv := vd_bool hv
              exact ⟨ht, hv, by rw [hv]; cases (gd p 0).bool <;> cases b <;> rfl⟩
            | _ => trivial
          | _ => trivial

/-- a region that draws no order -/
theorem evOps_ok {call : FuncId → List T → Option (T × Bool)} (hcall : CallOk P call) {ops : Array Oper} {k : St → R} {out : Nat × List D} {n : Nat} {Q : Exit → Act → World → Prop} {w0 : World}
    (hk : ∀ σ' w' g' a' key', k σ' = some (key', some out) → Rel P w' g' base σ' a' → a'.tmps.size = n → Below base w0 w' → Q .normal a' w') :
    ∀ (rest : List Oper) (σ : St) (w : World) (g : G) (a : Act) (key : Option Dom), (∀ o ∈ rest, ∀ d, o.dst = some d → d < n) → (∀ o ∈ ops.toList, ∀ d, o.dst = some d → d < n) →
      evOps P call ops rest σ k = some (key, some out) → Rel P w g base σ a → a.tmps.size = n → Below base w0 w → wpList P ops Q rest a w
  | [], σ, w, g, a, key, _, _, h, hr, hn, hb => hk σ w g a key h hr hn hb
  | o :: rest, σ, w, g, a, key, hrest, hops, h, hr, hn, hb => by
    have ih := evOps_ok hcall (ops := ops) (Q := Q) (w0 := w0) hk rest
    have hd : ∀ d, o.dst = some d → d < a.tmps.size := fun d hd => by rw [hn]; exact hrest o (by simp) d hd
    have hops' : ∀ o ∈ ops.toList, ∀ d, o.dst = some d → d < a.tmps.size := fun o ho d hd => by rw [hn]; exact hops o ho d hd
    -- the operation runs
    have yes : ∀ {σ : St} {key : Option Dom}, Rel P w g base σ a → evYes P call σ o (fun σ' => evOps P call ops rest σ' k) = some (key, some out) → o.wp P a w (wpList P ops Q rest) Q := by
      intro σ key hr h
      unfold evYes at h
      split at h
      · rename_i σ' ok he
        obtain ⟨hok, hcont⟩ := rneed_ok h
        subst hok
        exact evOp_goes hr hcall hd he _ _ fun z w' g' hr' hb' => ih σ' w' g' _ key (fun o ho => hrest o (by simp [ho])) hops hcont hr' (by rw [put_size]; exact hn) (hb.trans hb')
      · cases h
    -- it is passed over
    have no : ∀ {σ : St} {key : Option Dom}, Rel P w g base σ a → evOps P call ops rest (σ.put o.dst .none_) k = some (key, some out) → wpList P ops Q rest (a.put o.dst undef) w := by
      intro σ key hr h
      exact ih _ w g _ key (fun o ho => hrest o (by simp [ho])) hops h (hr.put hd (t := .none_) ⟨#[], rfl, rfl, fun j x h => by simp at h⟩) (by rw [put_size]; exact hn) hb
    have hw := want_ok hr hops' (o := o)
    unfold evOps evStep evStepG at h
    unfold wpList
    cases hq : want ops σ o with
    | yes =>
      rw [hq] at h hw
      simp only at h hw
      rw [if_pos hw]
      exact .inl (yes hr h)
    | no =>
      rw [hq] at h hw
      simp only at h hw
      rw [if_neg (by simp [hw])]
      exact no hr h
    | ask t gg b =>
      rw [hq] at h hw
      simp only at h hw
      obtain ⟨ht, hv, hw⟩ := hw
      obtain ⟨h1, h2⟩ := rcond_ok h
      have hkb : ∀ c : Bool, gg = c → Rel P w g base (σ.put (some t) (.c (.kb c) D0)) a := fun c hc => by
        have := hr.put (dst := some t) (fun d hd => by injection hd with hd; subst hd; exact ht) (t := .c (.kb c) D0) (v := .bool gg) (by rw [hc]; exact rfl)
        have e : a.put (some t) (.bool gg) = a := by
          rw [← hv]
          obtain ⟨tm, df⟩ := a
          simp only [Act.put]
          congr 1
          refine Array.ext_getElem? fun i => ?_
          rw [Array.getElem?_setIfInBounds]
          split
          · rename_i e
            subst e
            have ht' : t < tm.size := ht
            first
              | exact (Array.getElem?_eq_getElem ht').symm
              | (rw [if_pos ht', Array.getD_eq_getD_getElem?, Array.getElem?_eq_getElem ht']; rfl)
          · rfl
        rwa [e] at this
      cases gg with
      | true =>
        obtain ⟨k', h1⟩ := h1 rfl
        have hr' := hkb true rfl
        cases b with
        | true =>
          rw [if_pos (by rw [hw]; rfl)]
          exact .inl (yes hr' h1)
        | false =>
          rw [if_neg (by rw [hw]; decide)]
          exact no hr' h1
      | false =>
        obtain ⟨k', h2⟩ := h2 rfl
        have hr' := hkb false rfl
        cases b with
        | true =>
          rw [if_neg (by rw [hw]; decide)]
          exact no hr' h2
        | false =>
          rw [if_pos (by rw [hw]; rfl)]
          exact .inl (yes hr' h2)
    | bad => rw [hq] at h; cases h

/-! ### states again -/
theorem look_eput (i : Nat) (v : T) : ∀ (e : Env) (j : Nat), look j (eput i v e) = if j = i then v else look j e
  | [], j => by
    by_cases h : j = i
    · subst h; simp [eput, look]
    · simp only [eput, look]; rw [if_neg h, show (j == i) = false from by simpa using h]; rfl
  | (k, u) :: e, j => by
    unfold eput
    by_cases hk : i = k
    · subst hk
      simp only [beq_self_eq_true, cond_true, look]
      by_cases h : j = i
      · subst h; simp
      · rw [if_neg h, show (j == i) = false from by simpa using h]; rfl
    · rw [show (i == k) = false from by simpa using hk, cond_false]
      simp only [look]
      rw [look_eput i v e j]
      by_cases h : j = k
      · subst h
        simp only [beq_self_eq_true, cond_true]
        rw [if_neg (fun e => hk e.symm)]
      · rw [show (j == k) = false from by simpa using h]; rfl
theorem look_edrop (i : Nat) : ∀ (e : Env) (j : Nat), look j (edrop i e) = if j = i then .any else look j e
  | [], j => by simp [edrop, look]
  | (k, u) :: e, j => by
    unfold edrop
    by_cases hk : i = k
    · subst hk
      simp only [beq_self_eq_true, cond_true, look]
      rw [look_edrop i e j]
      by_cases h : j = i
      · subst h; simp
      · rw [if_neg h, if_neg h, show (j == i) = false from by simpa using h]; rfl
    · rw [show (i == k) = false from by simpa using hk, cond_false]
      simp only [look]
      rw [look_edrop i e j]
      by_cases h : j = k
      · subst h
        simp only [beq_self_eq_true, cond_true]
        rw [if_neg (fun e => hk e.symm)]
      · rw [show (j == k) = false from by simpa using h]; rfl
theorem look_settle (ks : List Nat) (e : Env) (j : Nat) : ∀ (r : Env), look j (settleE ks e r) = look2 j e r ∨ look j (settleE ks e r) = .any
  | [] => .inl rfl
  | (i, v) :: r => by
    unfold settleE look2
    by_cases h : j = i
    · subst h
      cases ks.contains j with
      | true => rw [cond_true, look_eput, if_pos rfl]; simp
      | false => rw [cond_false, look_edrop, if_pos rfl]; exact .inr rfl
    · rw [show (j == i) = false from by simpa using h, cond_false]
      cases ks.contains i with
      | true => rw [cond_true, look_eput, if_neg h]; exact look_settle ks e j r
      | false => rw [cond_false, look_edrop, if_neg h]; exact look_settle ks e j r
theorem Rel.settle (hr : Rel P w g base σ a) (ks : List Nat) : Rel P w g base (σ.settle ks) a := by
  refine ⟨fun i => ?_, hr.box, hr.fresh, hr.base_le, hr.defers, hr.low⟩
  show VT P w g base (look i (settleE ks σ.e σ.r)) _
  rcases look_settle ks σ.e i σ.r with h | h
  · rw [h]; exact hr.env i
  · rw [h]; trivial
theorem look_dropAll (j : Nat) : ∀ (ds : List Nat) (e : Env), look j (dropAll ds e) = look j e ∨ look j (dropAll ds e) = .any
  | [], _ => .inl rfl
  | i :: ds, e => by
    unfold dropAll
    rw [look_edrop]
    by_cases h : j = i
    · rw [if_pos h]; exact .inr rfl
    · rw [if_neg h]; exact look_dropAll j ds e
theorem look2_dropAll (j : Nat) (ds : List Nat) (e : Env) : ∀ (r : Env), look2 j (dropAll ds e) r = look2 j e r ∨ look2 j (dropAll ds e) r = .any
  | [] => look_dropAll j ds e
  | (i, v) :: r => by
    unfold look2
    cases (j == i) with
    | true => exact .inl rfl
    | false => exact look2_dropAll j ds e r
theorem Rel.shed (hr : Rel P w g base σ a) (ks : List Nat) (c : Code) : Rel P w g base (σ.shed ks c) a := by
  unfold St.shed
  cases isLoopC c with
  | false => exact hr
  | true =>
    refine ⟨fun i => ?_, hr.box, hr.fresh, hr.base_le, hr.defers, hr.low⟩
    show VT P w g base (look2 i (dropAll (dropsOf ks) σ.e) σ.r) _
    rcases look2_dropAll i (dropsOf ks) σ.e σ.r with h | h
    · rw [h]; exact hr.env i
    · rw [h]; trivial
theorem look_restrict (e : Env) (j : Nat) : ∀ (dom : List Nat), look j (restrictE dom e) = look j e ∨ look j (restrictE dom e) = .any
  | [] => .inr rfl
  | i :: dom => by
    show look j ((i, look i e) :: restrictE dom e) = _ ∨ look j ((i, look i e) :: restrictE dom e) = _
    simp only [look]
    by_cases h : j = i
    · subst h; left; simp only [beq_self_eq_true, cond_true]
    · rw [show (j == i) = false from by simpa using h]
      simp only [cond_false]
      exact look_restrict e j dom
theorem hlook_filter (q : Nat → Bool) (i : Nat) : ∀ (h : Boxes), hlook i (h.filter fun p => q p.1) = if q i = true then hlook i h else none
  | [] => by simp [hlook]
  | (j, v) :: h => by
    rw [List.filter_cons]
    by_cases hq : q j = true
    · rw [if_pos hq]
      simp only [hlook]
      rw [hlook_filter q i h]
      by_cases e : i = j
      · subst e; simp [hq]
      · rw [show (i == j) = false from by simpa using e]; rfl
    · rw [if_neg hq, hlook_filter q i h]
      by_cases e : i = j
      · subst e; rw [if_neg hq, if_neg hq]
      · simp only [hlook]; rw [show (i == j) = false from by simpa using e]; rfl
theorem Rel.restrictD (hr : Rel P w g base σ a) (hre : σ.r = []) (d : Dom) : Rel P w g base (restrictD d σ) a := by
  refine ⟨fun i => ?_, fun id cs ds h => ?_, hr.fresh, hr.base_le, hr.defers, hr.low⟩
  · show VT P w g base (look i (restrictE _ σ.e)) _
    rcases look_restrict σ.e i (d.1.map (·.1)) with h | h
    · rw [h]
      have := hr.env i
      rw [hre] at this
      exact this
    · rw [h]; trivial
  · have e := hlook_filter (fun i => (d.2.map (·.1)).contains i) id σ.h
    change hlook id (Go.Proofs.YtchceahcaaibcaaGreat.restrictD d σ).h = _ at e
    rw [h] at e
    split at e
    · exact hr.box id cs ds e.symm
    · cases e
theorem look_restrict2 (σ : St) (j : Nat) : ∀ (dom : List Nat), look j (dom.map fun i => (i, look2 i σ.e σ.r)) = look2 j σ.e σ.r ∨ look j (dom.map fun i => (i, look2 i σ.e σ.r)) = .any
  | [] => .inr rfl
  | i :: dom => by
    simp only [List.map_cons, look]
    by_cases h : j = i
    · subst h; left; simp only [beq_self_eq_true, cond_true]
    · rw [show (j == i) = false from by simpa using h]
      simp only [cond_false]
      exact look_restrict2 σ j dom
theorem Rel.restrict (hr : Rel P w g base σ a) (σ₀ : St) : Rel P w g base (σ₀.restrict σ) a := by
  refine ⟨fun i => ?_, fun id cs ds h => ?_, hr.fresh, hr.base_le, hr.defers, hr.low⟩
  · show VT P w g base (look i ((σ₀.e.map (·.1)).map fun i => (i, look2 i σ.e σ.r))) _
    rcases look_restrict2 σ i (σ₀.e.map (·.1)) with h | h
    · rw [h]; exact hr.env i
    · rw [h]; trivial
  · have e := hlook_filter (fun i => (σ₀.h.map (·.1)).contains i) id σ.h
    change hlook id (σ₀.restrict σ).h = _ at e
    rw [h] at e
    split at e
    · exact hr.box id cs ds e.symm
    · cases e

theorem sub_congr {p q : List D} : ∀ (n o o' : Nat), (∀ j, j < n → gd p (o + j) = gd q (o' + j)) → sub p o n = sub q o' n
  | 0, _, _, _ => rfl
  | n + 1, o, o', h => by
    rw [sub, sub, show gd p o = gd q o' from by simpa using h 0 (by omega), sub_congr n (o + 1) (o' + 1) (fun j hj => by
      have := h (j + 1) (by omega)
      rw [show o + 1 + j = o + (j + 1) from by omega, show o' + 1 + j = o' + (j + 1) from by omega]
      exact this)]
theorem offs_le : ∀ (xs : List Sh1) (j : Nat) x, xs[j]? = some x → offs xs j + x.size ≤ xs.foldr (fun s n => s.size + n) 0
  | [], j, x, h => by simp at h
  | y :: xs, 0, x, h => by
    simp only [List.getElem?_cons_zero, Option.some.injEq] at h
    subst h
    simp [offs]
  | y :: xs, j + 1, x, h => by
    have := offs_le xs j x (by simpa using h)
    simp only [offs, List.take_succ_cons, List.foldr_cons] at this ⊢
    omega
theorem vcs_congr {cs : List Ce} {p q : List D} {arr : Array Value} (h : ∀ j, j < cs.length → gd p j = gd q j) (hv : VCs P w g base cs p arr) : VCs P w g base cs q arr := by
  refine ⟨hv.1, fun j c hj => ?_⟩
  obtain ⟨u, h1, h2⟩ := hv.2 j c hj
  exact ⟨u, h1, by rw [← h j (List.getElem?_eq_some_iff.1 hj).1]; exact h2⟩
theorem v1_congr {x : Sh1} {p q : List D} {v : Value} (h : ∀ j, j < x.size → gd p j = gd q j) (hv : V1 P w g base x p v) : V1 P w g base x q v := by
  cases x with
  | c x => show VC P w g base x (gd q 0) v; rw [← h 0 (by simp [Sh1.size])]; exact hv
  | agg xs => obtain ⟨arr, h1, h2⟩ := hv; exact ⟨arr, h1, vcs_congr h h2⟩
theorem vs_congr {s : Sh} {p q : List D} {v : Value} (h : ∀ j, j < s.size → gd p j = gd q j) (hv : VS P w g base s p v) : VS P w g base s q v := by
  cases s with
  | one x => exact v1_congr h hv
  | tup xs =>
    obtain ⟨vs, h1, h2, h3⟩ := hv
    refine ⟨vs, h1, h2, fun j x hj => ?_⟩
    obtain ⟨u, k1, k2⟩ := h3 j x hj
    refine ⟨u, k1, ?_⟩
    have hle := offs_le xs j x hj
    rw [← sub_congr x.size (offs xs j) (offs xs j) (fun i hi => h _ (by simp only [Sh.size]; omega))]
    exact k2

def flatE (e : Env) : List D := e.flatMap fun p => sub p.2.p 0 p.2.sh.size
def flatH (h : Boxes) : List D := h.flatMap fun p => sub p.2.2 0 p.2.1.length
theorem gd_mid (pre xs post : List D) (j : Nat) (h : j < xs.length) : gd (pre ++ xs ++ post) (pre.length + j) = gd xs j := by
  unfold gd
  rw [List.getD_eq_getElem?_getD, List.getD_eq_getElem?_getD, List.getElem?_append_left (by simp; omega), List.getElem?_append_right (by omega)]
  simp
theorem mkE_ok : ∀ (e : Env) (pre post : List D), (mkE (e.map fun p => (p.1, p.2.sh)) (pre ++ flatE e ++ post) pre.length).2 = pre.length + (flatE e).length ∧
    ∀ i v, VT P w g base (look i e) v → VT P w g base (look i (mkE (e.map fun p => (p.1, p.2.sh)) (pre ++ flatE e ++ post) pre.length).1) v
  | [], pre, post => ⟨by simp [mkE, flatE], fun i v h => h⟩
  | (k, t) :: e, pre, post => by
    have hs : (sub t.p 0 t.sh.size).length = t.sh.size := sub_length _ _ _
    have ef : pre ++ flatE ((k, t) :: e) ++ post = (pre ++ sub t.p 0 t.sh.size) ++ flatE e ++ post := by simp [flatE, List.append_assoc]
    obtain ⟨k1, k2⟩ := mkE_ok e (pre ++ sub t.p 0 t.sh.size) post
    have hl : (pre ++ sub t.p 0 t.sh.size).length = pre.length + t.sh.size := by rw [List.length_append, hs]
    rw [hl, ← ef] at k1 k2
    have hfl : (flatE ((k, t) :: e)).length = t.sh.size + (flatE e).length := by simp [flatE, hs]
    refine ⟨?_, fun i v h => ?_⟩
    · simp only [List.map_cons, mkE]
      rw [k1, hfl]; omega
    · simp only [List.map_cons, mkE, look]
      unfold look at h
      by_cases hi : i = k
      · subst hi
        simp only [beq_self_eq_true, cond_true] at h ⊢
        refine vs_congr (fun j hj => ?_) h
        have hj : j < t.sh.size := hj
        have e1 : pre ++ flatE ((i, t) :: e) ++ post = pre ++ sub t.p 0 t.sh.size ++ (flatE e ++ post) := by simp [flatE, List.append_assoc]
        show gd t.p j = gd (sub (pre ++ flatE ((i, t) :: e) ++ post) pre.length t.sh.size) j
        rw [gd_sub _ _ _ _ hj, e1, gd_mid _ _ _ _ (by rw [hs]; exact hj), gd_sub _ _ _ _ hj, Nat.zero_add]
      · rw [show (i == k) = false from by simpa using hi, cond_false] at h ⊢
        exact k2 i v h
theorem mkH_ok : ∀ (h : Boxes) (pre post : List D) (i : Nat) cs ds, hlook i (mkH (h.map fun p => (p.1, p.2.1)) (pre ++ flatH h ++ post) pre.length) = some (cs, ds) → ∃ ds0, hlook i h = some (cs, ds0) ∧ ds.length = cs.length ∧ ∀ j, j < cs.length → gd ds0 j = gd ds j
  | [], pre, post, i, cs, ds, h => by simp [mkH, hlook] at h
  | (k, c, d) :: r, pre, post, i, cs, ds, h => by
    have hs : (sub d 0 c.length).length = c.length := sub_length _ _ _
    have ef : pre ++ flatH ((k, c, d) :: r) ++ post = (pre ++ sub d 0 c.length) ++ flatH r ++ post := by simp [flatH, List.append_assoc]
    simp only [List.map_cons, mkH, hlook] at h ⊢
    by_cases hi : i = k
    · subst hi
      simp only [beq_self_eq_true, cond_true, Option.some.injEq, Prod.mk.injEq] at h ⊢
      obtain ⟨rfl, rfl⟩ := h
      refine ⟨d, ⟨rfl, rfl⟩, sub_length _ _ _, fun j hj => ?_⟩
      have e1 : pre ++ flatH ((i, c, d) :: r) ++ post = pre ++ sub d 0 c.length ++ (flatH r ++ post) := by simp [flatH, List.append_assoc]
      rw [gd_sub _ _ _ _ hj, e1, gd_mid _ _ _ _ (by rw [hs]; exact hj), gd_sub _ _ _ _ hj, Nat.zero_add]
    · rw [show (i == k) = false from by simpa using hi, cond_false] at h ⊢
      rw [ef, show pre.length + c.length = (pre ++ sub d 0 c.length).length from by rw [List.length_append, hs]] at h
      exact mkH_ok r _ post i cs ds h
theorem Rel.mkSt (hr : Rel P w g base σ a) (hre : σ.r = []) : Rel P w g base (mkSt σ.dom σ.flat) a := by
  have e1 := mkE_ok (P := P) (w := w) (g := g) (base := base) σ.e [] (flatH σ.h)
  simp only [List.nil_append, List.length_nil, Nat.zero_add] at e1
  refine ⟨fun i => ?_, fun id cs ds h => ?_, hr.fresh, hr.base_le, hr.defers, hr.low⟩
  · refine e1.2 i _ ?_
    have := hr.env i
    rw [hre] at this
    exact this
  · have h : hlook id (mkH (σ.h.map fun p => (p.1, p.2.1)) (flatE σ.e ++ flatH σ.h) (mkE (σ.e.map fun p => (p.1, p.2.sh)) (flatE σ.e ++ flatH σ.h) 0).2) = some (cs, ds) := h
    rw [e1.1] at h
    have := mkH_ok σ.h (flatE σ.e) [] id cs ds (by rw [List.append_nil]; exact h)
    obtain ⟨ds0, h1, h2, h3⟩ := this
    obtain ⟨k1, k2, k3, kl, arr, E, k4, k5⟩ := hr.box id cs ds0 h1
    exact ⟨k1, k2, k3, h2, arr, E, k4, vcs_congr h3 k5⟩
end
end Go.Proofs.YtchceahcaaibcaaGreat
