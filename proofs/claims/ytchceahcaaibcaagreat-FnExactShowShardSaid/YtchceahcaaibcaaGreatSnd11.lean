/-
  The evaluator is right: functions.
-/
import Derived.Test.YtchceahcaaibcaaGreatSnd10
namespace Go.Proofs.YtchceahcaaibcaaGreat
set_option linter.unusedSimpArgs false
open Go.RowKit
set_option linter.unusedVariables false
set_option linter.unusedSectionVars false

section
variable [Low] {P : Program} {w w' : World} {g g' : G} {base : Nat} {σ : St} {a : Act}

def VL (P : Program) (w : World) (g : G) (base : Nat) : List Sh1 → List D → List Value → Prop
  | [], _, [] => True
  | x :: xs, p, v :: vs => V1 P w g base x p v ∧ VL P w g base xs (p.drop x.size) vs
  | _, _, _ => False
theorem gd_drop (p : List D) (n i : Nat) : gd (p.drop n) i = gd p (n + i) := by simp [gd, List.getD]
theorem gd_append_left {p q : List D} {i : Nat} (h : i < p.length) : gd (p ++ q) i = gd p i := by simp [gd, List.getD, List.getElem?_append_left h]
theorem vl_get : ∀ {xs : List Sh1} {p : List D} {vs : List Value}, VL P w g base xs p vs → vs.length = xs.length ∧ ∀ (j : Nat) x, xs[j]? = some x → ∃ u, vs[j]? = some u ∧ V1 P w g base x (sub p (offs xs j) x.size) u
  | [], p, [], h => ⟨rfl, fun j x h => by simp at h⟩
  | [], p, v :: vs, h => h.elim
  | x :: xs, p, [], h => h.elim
  | x :: xs, p, v :: vs, h => by
    obtain ⟨h1, h2⟩ := h
    obtain ⟨k1, k2⟩ := vl_get h2
    refine ⟨by simp [k1], fun j y hj => ?_⟩
    cases j with
    | zero =>
      simp only [List.getElem?_cons_zero, Option.some.injEq] at hj
      subst hj
      exact ⟨v, rfl, v1_congr (fun j hj => by rw [gd_sub _ _ _ _ hj]; simp [offs]) h1⟩
    | succ j =>
      obtain ⟨u, q1, q2⟩ := k2 j y (by simpa using hj)
      refine ⟨u, by simpa using q1, v1_congr (fun i hi => ?_) q2⟩
      rw [gd_sub _ _ _ _ hi, gd_sub _ _ _ _ hi, gd_drop]
      congr 1
      simp only [offs, List.take_succ_cons, List.foldr_cons]
      omega

theorem load_ptr {t : TypeId} {x r : T} {u : Value} (h : evLoad P t σ x = some r) (hx : VT P w g base x u) : ∃ A, u = .pointer (some A) := by
  unfold evLoad at h
  split at h
  · obtain ⟨sh, p⟩ := x
    cases sh with
    | tup xs => cases h
    | one x => cases x with
      | agg xs => cases h
      | c x => cases x with
        | ptr id off => exact ⟨_, hx⟩
        | eptr tk e off => cases tk with
          | none => obtain ⟨_, _, _, _, h, _⟩ := hx; exact ⟨_, h⟩
          | some t => obtain ⟨_, _, h, _⟩ := hx; exact ⟨_, h⟩
        | cptr cells off => obtain ⟨_, _, h, _⟩ := hx; exact ⟨_, h⟩
        | _ => cases h
  · cases h
def resVar (tmps : Array Value) : ResultVar → Sem Value
  | .tmp t => pure (tmps.getD t undef)
  | .cell a t => do loadVar t (← asAddr (tmps.getD a undef))
theorem results1_ok (hr : Rel P w g base σ a) : ∀ {rs : List ResultVar} {shs : List Sh1} {p : List D}, results1 P σ rs = some (shs, p) → ∃ vs : List Value, (rs.mapM (resVar a.tmps)).run P w = .ok vs w ∧ VL P w g base shs p vs
  | [], shs, p, h => by
    simp only [results1, Option.some.injEq, Prod.mk.injEq] at h
    obtain ⟨rfl, rfl⟩ := h
    exact ⟨[], by simp, trivial⟩
  | r :: rs, shs, p, h => by
    unfold results1 at h
    simp only at h
    split at h
    · rename_i v shs0 p0 hv hrs
      obtain ⟨vs, k1, k2⟩ := results1_ok hr hrs
      have h1 : ∃ u, (resVar a.tmps r).run P w = .ok u w ∧ VT P w g base v u := by
        cases r with
        | tmp t =>
          simp only [Option.some.injEq] at hv
          subst hv
          exact ⟨_, by simp [resVar], hr.env t⟩
        | cell x t =>
          simp only at hv
          obtain ⟨A, hA⟩ := load_ptr hv (hr.env x)
          obtain ⟨z, q1, q2⟩ := evLoad_ok hr hv (hr.env x)
          have q1 := q1 w (Below.refl _ _)
          refine ⟨z, ?_, q2⟩
          rw [hA] at q1
          simp only [resVar, hA, asAddr, Sem.run_bind, Sem.run_pure, Result.andThen_ok]
          simpa only [Instr.loadAt, Instr.sureAddr, Sem.run_bind, Sem.run_pure, Result.andThen_ok] using q1
      obtain ⟨u, q1, q2⟩ := h1
      have hrun : (List.mapM (resVar a.tmps) (r :: rs)).run P w = .ok (u :: vs) w := by
        rw [List.mapM_cons]
        simp only [Sem.run_bind, q1, Result.andThen_ok, k1, Sem.run_pure]
      obtain ⟨vsh, vp⟩ := v
      split at h
      · rename_i b he
        simp only at he
        subst he
        simp only [Option.some.injEq, Prod.mk.injEq] at h
        obtain ⟨rfl, rfl⟩ := h
        refine ⟨_, hrun, ?_, k2⟩
        have q2 : u = .bool b := q2
        subst q2
        exact VD.bool (.b b)
      · rename_i x _ he
        simp only at he
        subst he
        simp only [Option.some.injEq, Prod.mk.injEq] at h
        obtain ⟨rfl, rfl⟩ := h
        refine ⟨_, hrun, v1_congr (fun j hj => ?_) q2, ?_⟩
        · rw [gd_append_left (by rw [sub_length]; exact hj), gd_sub _ _ _ _ hj, Nat.zero_add]
        · rw [List.drop_append_of_le_length (by rw [sub_length]; exact Nat.le_refl _)]
          simpa [List.drop_eq_nil_of_le (Nat.le_of_eq (sub_length vp x.size 0))] using k2
      · cases h
    · cases h

/-! ### whose the results are -/
def fwd (pairs : List (Tok × Tok)) (t : Tok) : Option Tok := (pairs.find? (·.1 == t)).map (·.2)
def inv (pairs : List (Tok × Tok)) (t : Tok) : Tok := ((pairs.find? (·.2 == t)).map (·.1)).getD t
theorem find_nodup {f : Tok × Tok → Tok} : ∀ {pairs : List (Tok × Tok)} {q : Tok × Tok}, nodupB (pairs.map f) = true → q ∈ pairs → pairs.find? (fun r => f r == f q) = some q
  | [], q, _, h => by simp at h
  | r :: rs, q, hn, h => by
    simp only [List.map_cons, nodupB, Bool.and_eq_true] at hn
    rw [List.find?_cons]
    rcases List.mem_cons.1 h with e | e
    · subst e; simp
    · have hne : (f r == f q) = false := by
        cases hq : f r == f q with
        | false => rfl
        | true =>
          have hq : f r = f q := by simpa using hq
          have : (rs.map f).contains (f r) = true := List.contains_iff_mem.2 (List.mem_map.2 ⟨q, e, hq.symm⟩)
          rw [this] at hn
          exact absurd hn.1 (by decide)
      rw [hne]
      exact find_nodup hn.2 e
theorem given_append : ∀ {a b c d : List Ce}, a.length = c.length → given (a ++ b) (c ++ d) = given a c ++ given b d
  | [], b, [], d, _ => by simp [given]
  | x :: a, b, y :: c, d, h => by
    have ih := given_append (a := a) (b := b) (c := c) (d := d) (by simpa using h)
    cases x <;> cases y <;> simp [given, ih]
theorem given_get : ∀ {cs rs : List Ce} {j : Nat} {t t' : Tok} {x x' : Bool} {e e' : TypeId}, cs[j]? = some (.own t x e) → rs[j]? = some (.own t' x' e') → (t, t') ∈ given cs rs
  | [], rs, j, _, _, _, _, _, _, h, _ => by simp at h
  | c :: cs, [], j, _, _, _, _, _, _, _, h => by simp at h
  | c :: cs, r :: rs, 0, t, t', x, x', e, e', h, h' => by
    simp only [List.getElem?_cons_zero, Option.some.injEq] at h h'
    subst h; subst h'
    simp [given]
  | c :: cs, r :: rs, j + 1, t, t', x, x', e, e', h, h' => by
    have := given_get (cs := cs) (rs := rs) (j := j) (by simpa using h) (by simpa using h')
    cases c <;> cases r <;> simp [given, this]
/-- the ghost that the caller sees -/
def giveG (g : G) (pairs : List (Tok × Tok)) : G :=
  { prot := g.prot, owner := fun b => match g.owner b with | some (.inr t) => (fwd pairs t).map .inr | _ => none,
    θ := g.θ, ρ := fun t => g.ρ (inv pairs t), len := fun t => g.len (inv pairs t), wid := fun t => g.wid (inv pairs t), ety := fun t => g.ety (inv pairs t) }
theorem fitC_ok {pairs : List (Tok × Tok)} (h1 : nodupB (pairs.map (·.1)) = true) (h2 : nodupB (pairs.map (·.2)) = true) {c r : Ce} (hf : fitC c r = true) (hp : ∀ t x e t' x' e', c = .own t x e → r = .own t' x' e' → (t, t') ∈ pairs)
    {x : D} {v : Value} (hv : VC P w g base c x v) : VC P w (giveG g pairs) base r x v := by
  cases c with
  | d s => cases r with
    | d s' =>
      have : s = s' := by simpa [fitC] using hf
      subst this
      exact hv
    | _ => simp [fitC] at hf
  | own t xm e => cases r with
    | own t' x' e' =>
      have hm := hp t xm e t' x' e' rfl rfl
      have hx : xm = x' ∧ e = e' := by
        cases xm <;> simp [fitC] at hf
        · exact ⟨hf.1.1.symm, hf.1.2⟩
        · exact ⟨hf.1.1.symm, hf.1.2⟩
      obtain ⟨rfl, rfl⟩ := hx
      have ei : inv pairs t' = t := by
        have := find_nodup (f := (·.2)) h2 hm
        simp only at this
        simp [inv, this]
      have ef : fwd pairs t = some t' := by
        have := find_nodup (f := (·.1)) h1 hm
        simp only at this
        simp [fwd, this]
      obtain ⟨row, hrow, hown⟩ := hv
      refine ⟨row, hrow, ?_⟩
      rcases hown with ⟨k0, k1, k2⟩ | ⟨cap, arr, E, k1, k2, k3, k4, k5, k6, k7, k8, k9, k10, k11⟩
      · exact .inl ⟨k0, by show g.len (inv pairs t') = 0; rw [ei]; exact k1, k2⟩
      · refine .inr ⟨cap, arr, E, by show v = .slice (some ⟨g.ρ (inv pairs t'), 0, none⟩) _ _; rw [ei]; exact k1, k2, by show _ ∧ _ ∧ e = g.ety (inv pairs t'); rw [ei]; exact k3, by show base ≤ g.ρ (inv pairs t'); rw [ei]; exact k4, ?_, by show w.heap[g.ρ (inv pairs t')]? = _; rw [ei]; exact k6, k7, by show _ = g.len (inv pairs t'); rw [ei]; exact k8, by show _ = g.wid (inv pairs t'); rw [ei]; exact k9, ?_, k11⟩
        · show (match g.owner (g.ρ (inv pairs t')) with | some (Sum.inr t) => (fwd pairs t).map Sum.inr | _ => none) = some (.inr t')
          rw [ei, k5]
          simp [ef]
        · show g.prot (g.ρ (inv pairs t')) = if xm then 0 else g.len (inv pairs t') * g.wid (inv pairs t')
          rw [ei]; exact k10
    | d s =>
      cases xm with
      | true => cases s <;> simp [fitC] at hf
      | false =>
        cases s with
        | sl e' =>
          have : e = e' := by simpa [fitC] using hf
          subst this
          obtain ⟨row, hrow, hown⟩ := hv
          have : VD P w g.prot (.sl e) x v := own_vd' hrow hown
          exact this
        | _ => simp [fitC] at hf
    | _ => cases xm <;> simp [fitC] at hf
  | _ => cases r <;> simp [fitC] at hf
theorem fitCs_get : ∀ {cs rs : List Ce}, fitCs cs rs = true → cs.length = rs.length ∧ ∀ (j : Nat) r, rs[j]? = some r → ∃ c, cs[j]? = some c ∧ fitC c r = true
  | [], [], _ => ⟨rfl, fun j r h => by simp at h⟩
  | [], r :: rs, h => by simp [fitCs] at h
  | c :: cs, [], h => by simp [fitCs] at h
  | c :: cs, r :: rs, h => by
    simp only [fitCs, Bool.and_eq_true] at h
    obtain ⟨k1, k2⟩ := fitCs_get h.2
    refine ⟨by simp [k1], fun j x hj => ?_⟩
    cases j with
    | zero =>
      simp only [List.getElem?_cons_zero, Option.some.injEq] at hj
      subst hj
      exact ⟨c, rfl, h.1⟩
    | succ j =>
      obtain ⟨c0, q1, q2⟩ := k2 j x (by simpa using hj)
      exact ⟨c0, by simpa using q1, q2⟩
theorem sealC_own {ts : List Tok} {c : Ce} {t : Tok} {x : Bool} {e : TypeId} (h : sealC ts c = .own t x e) : ∃ x0, c = .own t x0 e := by
  cases c with
  | own t0 x0 e0 => simp only [sealC, Ce.own.injEq] at h; obtain ⟨rfl, _, rfl⟩ := h; exact ⟨x0, rfl⟩
  | eptr t e off => cases t <;> cases h
  | _ => cases h
theorem fit1_ok {pairs : List (Tok × Tok)} (h1 : nodupB (pairs.map (·.1)) = true) (h2 : nodupB (pairs.map (·.2)) = true) {ts : List Tok} {x y : Sh1} (hf : fit1 (x.map (sealC ts)) y = true) (hp : ∀ q ∈ given x.ces y.ces, q ∈ pairs)
    {p : List D} {v : Value} (hv : V1 P w g base (x.map (sealC ts)) p v) : x.size = y.size ∧ V1 P w (giveG g pairs) base y p v := by
  cases x with
  | c c => cases y with
    | c r =>
      refine ⟨rfl, fitC_ok h1 h2 hf (fun t x e t' x' e' e1 e2 => ?_) hv⟩
      obtain ⟨x0, rfl⟩ := sealC_own e1
      subst e2
      exact hp _ (by simp [Sh1.ces, given])
    | agg ys => cases hf
  | agg xs => cases y with
    | c r => cases hf
    | agg ys =>
      obtain ⟨k1, k2⟩ := fitCs_get (show fitCs (xs.map (sealC ts)) ys = true from hf)
      rw [List.length_map] at k1
      obtain ⟨arr, rfl, q1, q2⟩ := hv
      refine ⟨k1, arr, rfl, by rw [q1, List.length_map, k1], fun j r hj => ?_⟩
      obtain ⟨c, hc, hfc⟩ := k2 j r hj
      obtain ⟨u, hu, huv⟩ := q2 j c hc
      refine ⟨u, hu, fitC_ok h1 h2 hfc (fun t x e t' x' e' e1 e2 => ?_) huv⟩
      rw [List.getElem?_map] at hc
      cases hx : xs[j]? with
      | none => rw [hx] at hc; cases hc
      | some c0 =>
        rw [hx] at hc
        injection hc with hc
        rw [e1] at hc
        obtain ⟨x0, rfl⟩ := sealC_own hc
        subst e2
        exact hp _ (given_get hx hj)
theorem ces_length (x : Sh1) : x.ces.length = x.size := by cases x <;> rfl
theorem fit_ok {pairs : List (Tok × Tok)} (h1 : nodupB (pairs.map (·.1)) = true) (h2 : nodupB (pairs.map (·.2)) = true) {ts : List Tok} : ∀ {xs ys : List Sh1}, fit (xs.map (Sh1.map (sealC ts))) ys = true → (∀ q ∈ given (outCes xs) (outCes ys), q ∈ pairs) →
    ∀ {p : List D} {vs : List Value}, VL P w g base (xs.map (Sh1.map (sealC ts))) p vs → VL P w (giveG g pairs) base ys p vs
  | [], [], _, _, p, vs, h => by cases vs <;> exact h
  | [], y :: ys, h, _, _, _, _ => by simp [fit] at h
  | x :: xs, [], h, _, _, _, _ => by simp [fit] at h
  | x :: xs, y :: ys, h, hp, p, [], hv => hv.elim
  | x :: xs, y :: ys, h, hp, p, v :: vs, hv => by
    simp only [List.map_cons, fit, Bool.and_eq_true] at h
    obtain ⟨hv1, hv2⟩ := hv
    have hsz : x.size = y.size := by
      cases x with
      | c c => cases y with
        | c r => rfl
        | agg ys => cases h.1
      | agg xs => cases y with
        | c r => cases h.1
        | agg ys =>
          have := (fitCs_get (show fitCs (xs.map (sealC ts)) ys = true from h.1)).1
          rwa [List.length_map] at this
    have e : given (outCes (x :: xs)) (outCes (y :: ys)) = given x.ces y.ces ++ given (outCes xs) (outCes ys) := by
      simp only [outCes, List.flatMap_cons]
      exact given_append (by rw [ces_length, ces_length, hsz])
    rw [e] at hp
    refine ⟨(fit1_ok h1 h2 h.1 (fun q hq => hp q (List.mem_append.2 (.inl hq))) hv1).2, ?_⟩
    have := fit_ok h1 h2 h.2 (fun q hq => hp q (List.mem_append.2 (.inr hq))) hv2
    rwa [Sh1.size_map, hsz] at this
theorem vl_kept {f : Ce → Ce} (hk : Kept P base g g' w w' f) : ∀ {xs : List Sh1} {p : List D} {vs : List Value}, VL P w g base xs p vs → VL P w' g' base (xs.map (Sh1.map f)) p vs
  | [], p, vs, h => by cases vs <;> exact h
  | x :: xs, p, [], h => h.elim
  | x :: xs, p, v :: vs, h => ⟨hk.v1 h.1, by rw [Sh1.size_map]; exact vl_kept hk h.2⟩

theorem finish_ok (hr : Rel P w g base σ a) {fn : Func} {rs : Sh} {p : List D} (h : finish P fn rs σ = some p) :
    ∃ v g', (results fn a.tmps).run P w = .ok v w ∧ VT P w g' base ⟨rs, p⟩ v ∧ (∀ b, b < base → g'.prot b = Low.low b) ∧ (∀ b, w.heap.size ≤ b → g'.prot b = 0 ∧ g'.owner b = none) := by
  unfold finish at h
  split at h
  · rename_i shs p0 hres
    generalize hts : lend (outCes shs) (outCes rs.list) = ts at h
    generalize hpr : given (outCes shs) (outCes rs.list) = pairs at h
    cases hc : (fit (shs.map (Sh1.map (sealC ts))) rs.list && nodupB (pairs.map (·.1)) && nodupB (pairs.map (·.2)) && rs.tupOk) with
    | false => rw [hc] at h; cases h
    | true =>
      rw [hc, cond_true] at h
      injection h with h
      subst h
      simp only [Bool.and_eq_true] at hc
      obtain ⟨⟨⟨c1, c2⟩, c3⟩, c4⟩ := hc
      obtain ⟨vs, k1, k2⟩ := results1_ok hr hres
      have k3 := fit_ok c2 c3 c1 (fun q hq => by rw [← hpr]; exact hq) (vl_kept (kept_seal g ts w) k2)
      obtain ⟨q1, q2⟩ := vl_get k3
      have hs := hr.seal ts
      have hrun : (results fn a.tmps).run P w = .ok (if h : vs.toArray.size = 1 then vs.toArray[0] else .tuple vs.toArray) w := by
        have e : results fn a.tmps = (do let vs ← fn.results.mapM (resVar a.tmps); pure (if h : vs.size = 1 then vs[0] else .tuple vs)) := by
          unfold results
          congr 1
        rw [e, Array.mapM_eq_mapM_toList]
        simp only [Sem.run_bind, Sem.run_map, k1, Result.andThen_ok, Sem.run_pure]
      refine ⟨_, giveG (sealG g ts) pairs, hrun, ?_, fun b hb => (hs.low b hb).2, fun b hb => ?_⟩
      · cases rs with
        | one x =>
          have hl : vs.length = 1 := by rw [q1]; rfl
          obtain ⟨u, hu, huv⟩ := q2 0 x rfl
          rw [dif_pos (by simpa using hl)]
          have : vs.toArray[0]'(by simp [hl]) = u := by
            have := hu
            rw [List.getElem?_eq_getElem (by omega)] at this
            simpa using this
          rw [this]
          exact v1_congr (fun j hj => by rw [gd_sub _ _ _ _ hj]; simp [offs]) huv
        | tup xs =>
          have hne : ¬ vs.toArray.size = 1 := by
            simp only [List.size_toArray, q1]
            simpa [Sh.list, Sh.tupOk] using c4
          rw [dif_neg hne]
          exact ⟨vs.toArray, rfl, by simp [q1, Sh.list], fun j x hj => by
            obtain ⟨u, hu, huv⟩ := q2 j x hj
            exact ⟨u, by simpa using hu, huv⟩⟩
      · have := hs.fresh b hb
        refine ⟨this.1, ?_⟩
        show (match (sealG g ts).owner b with | some (Sum.inr t) => (fwd pairs t).map Sum.inr | _ => none) = none
        rw [this.2]
  · cases h

theorem look_start : ∀ (args : List T) (k i : Nat), look i (startAt k args) = if k ≤ i then (args[i - k]?).getD .any else .any
  | [], k, i => by simp [startAt, look]
  | v :: vs, k, i => by
    simp only [startAt, look]
    by_cases e : i = k
    · subst e; simp
    · rw [show (i == k) = false from by simpa using e, cond_false, look_start vs (k + 1) i]
      by_cases h : k ≤ i
      · rw [if_pos h, if_pos (by omega), show i - k = (i - (k + 1)) + 1 from by omega]
        simp
      · rw [if_neg h, if_neg (by omega)]
end

/-! ### lengths -/
inductive WD (P : Program) : S → D → Prop
  | int (k : IntKind) (d : D) : WD P (.int k) d
  | bool (d : D) : WD P .bool d
  | str (d : D) : WD P .str d
  | sl (e : TypeId) (d : D) (row : List S) (hr : rowOf P e = some row) (h1 : d.rows.length ≤ 9223372036854775807) (h2 : ∀ i j s, i < d.rows.length → row[j]? = some s → WD P s (gd (d.rows.getD i []) j)) : WD P (.sl e) d
theorem VD.wd {P : Program} {w : World} {prot : Nat → Nat} {s : S} {x : D} {v : Value} (h : VD P w prot s x v) : WD P s x := by
  induction h with
  | int k d => exact .int k d
  | bool d => exact .bool d
  | str d => exact .str d
  | sl e d A c row u hr h1 h2 h3 h4 ih => exact .sl e d row hr (Nat.le_trans h1 h2) ih
def WC (P : Program) : Ce → D → Prop
  | .d s, x => WD P s x
  | .cptr cells _, x => ∀ (j : Nat) s, cells[j]? = some s → WD P s (gd (x.rows.getD 0 []) j)
  | _, _ => True
def WT (P : Program) (t : T) : Prop :=
  match t.sh with
  | .one (.c c) => WC P c (gd t.p 0)
  | .one (.agg xs) => ∀ (j : Nat) c, xs[j]? = some c → WC P c (gd t.p j)
  | .tup _ => True
theorem wc_of {P : Program} {w : World} {g : G} {base : Nat} {c : Ce} {x : D} {v : Value} (h : VC P w g base c x v) : WC P c x := by
  cases c with
  | d s => exact VD.wd h
  | cptr cells off =>
    obtain ⟨b, o, _, _, h⟩ := h
    intro j s hs
    obtain ⟨u, _, h⟩ := h j s hs
    exact h.wd
  | _ => trivial
theorem wt_of {P : Program} {w : World} {g : G} {base : Nat} {t : T} {v : Value} (h : VT P w g base t v) : WT P t := by
  obtain ⟨sh, p⟩ := t
  cases sh with
  | tup xs => trivial
  | one x => cases x with
    | c c => exact wc_of h
    | agg xs =>
      obtain ⟨arr, _, _, h⟩ := h
      intro j c hj
      obtain ⟨u, _, h⟩ := h j c hj
      exact wc_of h

/-- what the evaluator says of a function, it does -/
theorem evFn_sound {P : Program} {call : FuncId → List T → Option (T × Bool)} (hcall : CallOk P call) {N : Nat} {ks : List Nat} {f : FuncId} {fn : Func} {rs : Sh} {args : List T} {key : Option Dom} {p : List D}
    (hen : ∀ vs w, (callFunc f vs).run P w = .ok (.enter f vs) w) (hf : P.funcs[f]? = some fn) (h : (∀ t ∈ args, WT P t) → evFn P call N ks fn rs args = some (key, some (1, p))) (hisw : rs.isW = false := by rfl) : SoundFn P f args ⟨rs, p⟩ := by
  refine SoundFn.of hisw ⟨hen, fun w prot vs hargs hprot => ?_⟩
  replace h := h fun t ht => by
    obtain ⟨j, hj⟩ := List.getElem?_of_mem ht
    obtain ⟨u, _, h⟩ := hargs.2 j t hj
    exact wt_of h
  letI : Low := ⟨prot⟩
  unfold evFn at h
  split at h
  · rename_i c hb
    cases hc : (dstsOk fn.ntmps c && Nat.ble args.length fn.ntmps) with
    | false => rw [hc] at h; cases h
    | true =>
      rw [hc, cond_true] at h
      simp only [Bool.and_eq_true] at hc
      have hle : args.length ≤ fn.ntmps := Nat.le_of_ble_eq_true hc.2
      refine calls_of_wp hf hb ?_
      have hrel : Rel P w (g0 prot) w.heap.size (start args) { tmps := vs ++ Array.replicate (fn.ntmps - vs.size) undef, defers := [] } := by
        refine ⟨fun i => ?_, fun id cs ds hl => (by cases hl), fun b hb => ⟨hprot b hb, rfl⟩, Nat.le_refl _, rfl, fun b hb => ⟨rfl, rfl⟩⟩
        show VT P w (g0 prot) w.heap.size (look i (startAt 0 args)) _
        rw [look_start, if_pos (Nat.zero_le _), Nat.sub_zero]
        cases ht : args[i]? with
        | none => trivial
        | some t =>
          obtain ⟨u, hu, huv⟩ := hargs.2 i t ht
          have hi : i < vs.size := (Array.getElem?_eq_some_iff.1 hu).1
          have : (vs ++ Array.replicate (fn.ntmps - vs.size) undef).getD i undef = u := by
            rw [Array.getD_eq_getD_getElem?, Array.getElem?_append_left hi, hu]; rfl
          rw [this]
          exact huv
      have hn : (vs ++ Array.replicate (fn.ntmps - vs.size) undef).size = fn.ntmps := by
        have := hargs.1
        simp; omega
      have hfin : ∀ (a' : Act) (w' : World) (σ' : St) (g' : G) (key' : Option Dom), retLeaf (finish P fn rs σ') = some (key', some (1, p)) → Rel P w' g' w.heap.size σ' a' → Below w.heap.size w w' → a'.defers = [] ∧ ∃ v, (results fn a'.tmps).run P w' = .ok v w' ∧ ∃ v' g', Ending.returned v = .returned v' ∧ Res P prot w w' ⟨rs, p⟩ v' g' := by
        intro a' w' σ' g' key' h1 h2 h3
        obtain ⟨p', k1, k2⟩ := retLeaf_ok h1
        injection k2 with _ k2
        subst k2
        obtain ⟨v, g2, q1, q2, q3, q4⟩ := finish_ok h2 k1
        exact ⟨h2.defers, v, q1, v, g2, rfl, h3, q2, q3, q4⟩
      exact evCode_ok hcall c (start args) _ _ _ key (1, p) w (g0 prot) _ _ hc.1 h hrel hn (Below.refl _ _)
        ⟨fun σ' w' g' a' key' h1 h2 h3 h4 => hfin a' w' σ' g' key' h1 h2 h4, fun j σ' w' g' a' key' h1 => (by cases h1), fun σ' w' g' a' key' h1 h2 h3 h4 => hfin a' w' σ' g' key' h1 h2 h4⟩
  · cases h
end Go.Proofs.YtchceahcaaibcaaGreat
