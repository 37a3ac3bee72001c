/-
  The evaluator is right: calls.
-/
import Derived.Test.YtdejncnjaebjfaaSnd7
namespace Go.Proofs.Ytdejncnjaebjfaa
open Go.RowKit
set_option linter.unusedVariables false
set_option linter.unusedSectionVars false

/-- of a callee's world nothing is known but what stays as it is -/
def g0 (prot : Nat → Nat) : G := ⟨prot, fun _ => none, fun _ => 0, fun _ => 0, fun _ => 0, fun _ => 0, fun _ => 0⟩
/-- what a call hands back -/
structure Res (P : Program) (prot : Nat → Nat) (w w' : World) (r : T) (v : Value) (g' : G) : Prop where
  below : Below w.heap.size w w'
  val : VT P w' g' w.heap.size r v
  prot : ∀ b, b < w.heap.size → g'.prot b = prot b
  fresh : ∀ b, w'.heap.size ≤ b → g'.prot b = 0 ∧ g'.owner b = none
def ArgsV (P : Program) (prot : Nat → Nat) (w : World) (args : List T) (vs : Array Value) : Prop :=
  vs.size = args.length ∧ ∀ (j : Nat) t, args[j]? = some t → ∃ u, vs[j]? = some u ∧ VT P w (g0 prot) w.heap.size t u
/-- the function f, at these arguments, hands back r -/
def SoundFn (P : Program) (f : FuncId) (args : List T) (r : T) : Prop :=
  (∀ vs w, (callFunc f vs).run P w = .ok (.enter f vs) w) ∧
  ∀ (w : World) (prot : Nat → Nat) (vs : Array Value), ArgsV P prot w args vs → (∀ b, w.heap.size ≤ b → prot b = 0) →
    Calls P f vs w fun e w' => ∃ v g', e = .returned v ∧ Res P prot w w' r v g'
def CallOk (P : Program) (call : FuncId → List T → Option (T × Bool)) : Prop := ∀ f args r, call f args = some (r, true) → SoundFn P f args r

section
variable [Low] {P : Program} {w w' : World} {g g' : G} {base : Nat} {σ : St} {a : Act}

theorem capArg_ok (hr : Rel P w g base σ a) {ts : List Tok} {c c' : Cap} {x x' : D} {u : Value} (h : capArg σ c x = some (c', x')) (hv : CapV P w g base c x u) (ht : ∀ t ∈ capToks σ [c], ts.contains t = true) :
    CapV P w (g0 (sealG g ts).prot) w.heap.size c' x' u := by
  cases c with
  | d s =>
    simp only [capArg, Option.some.injEq, Prod.mk.injEq] at h
    obtain ⟨rfl, rfl⟩ := h
    exact seal_vd hv
  | cptr cells off =>
    simp only [capArg, Option.some.injEq, Prod.mk.injEq] at h
    obtain ⟨rfl, rfl⟩ := h
    obtain ⟨b, o, h1, h2, h3⟩ := hv
    refine ⟨b, o, h1, Nat.lt_of_lt_of_le h2 hr.base_le, fun j s hs => ?_⟩
    obtain ⟨v, k1, k2⟩ := h3 j s hs
    exact ⟨v, k1, seal_vd k2⟩
  | ptr id off =>
    simp only [capArg] at h
    split at h
    · rename_i cs ds hl
      split at h
      · rename_i ss hss
        simp only [Option.some.injEq, Prod.mk.injEq] at h
        obtain ⟨rfl, rfl⟩ := h
        obtain ⟨k1, k2, k3, kl, arr, E, k4, k5⟩ := hr.box id cs ds hl
        have hv : u = .pointer (some ⟨g.θ id, off, none⟩) := hv
        subst hv
        have hrow := row_ok (ts := ts) k5 hss (fun t h => ht t (by simp [capToks, hl, h]))
        refine ⟨g.θ id, 0, by rw [Nat.zero_add], lt_of_heap k4, fun j s hs => ?_⟩
        obtain ⟨v, q1, q2⟩ := hrow.2 j s hs
        exact ⟨v, by simp only [World.cell?, k4, Nat.zero_add]; exact q1, q2⟩
      · cases h
    · cases h
theorem capToks_mem {σ : St} : ∀ {caps : List Cap} {j : Nat} {c : Cap}, caps[j]? = some c → ∀ t ∈ capToks σ [c], t ∈ capToks σ caps
  | [], j, c, h, t, ht => by simp at h
  | c0 :: cs, 0, c, h, t, ht => by
    simp only [List.getElem?_cons_zero, Option.some.injEq] at h
    subst h
    cases c0 <;> simp [capToks] at ht ⊢
    exact .inl ht
  | c0 :: cs, j + 1, c, h, t, ht => by
    have := capToks_mem (caps := cs) (j := j) (by simpa using h) t ht
    cases c0 <;> simp [capToks, this]
theorem capArgs_ok (hr : Rel P w g base σ a) {ts : List Tok} : ∀ {caps caps' : List Cap} {ds ds' : List D}, capArgs σ caps ds = some (caps', ds') → (∀ t ∈ capToks σ caps, ts.contains t = true) →
    caps'.length = caps.length ∧ ∀ (j : Nat) c', caps'[j]? = some c' → ∃ c, caps[j]? = some c ∧ ∀ u, CapV P w g base c (gd ds j) u → CapV P w (g0 (sealG g ts).prot) w.heap.size c' (gd ds' j) u
  | [], caps', ds, ds', h, _ => by
    simp only [capArgs, Option.some.injEq, Prod.mk.injEq] at h
    obtain ⟨rfl, rfl⟩ := h
    exact ⟨rfl, fun j c h => by simp at h⟩
  | c :: cs, caps', ds, ds', h, ht => by
    unfold capArgs at h
    split at h
    · rename_i d x ds1 xs h1 h2
      simp only [Option.some.injEq, Prod.mk.injEq] at h
      obtain ⟨rfl, rfl⟩ := h
      have ht1 : ∀ t ∈ capToks σ [c], ts.contains t = true := fun t h => ht t (capToks_mem (caps := c :: cs) (j := 0) rfl t h)
      have ht2 : ∀ t ∈ capToks σ cs, ts.contains t = true := fun t h => ht t (by cases c <;> simp [capToks, h])
      obtain ⟨k1, k2⟩ := capArgs_ok hr h2 ht2
      refine ⟨by simp [k1], fun j c' hj => ?_⟩
      cases j with
      | zero =>
        simp only [List.getElem?_cons_zero, Option.some.injEq] at hj
        subst hj
        exact ⟨c, rfl, fun u hu => capArg_ok hr h1 hu ht1⟩
      | succ j =>
        obtain ⟨c0, q1, q2⟩ := k2 j c' (by simpa using hj)
        refine ⟨c0, by simpa using q1, fun u hu => ?_⟩
        rw [gd_cons_succ]
        exact q2 u (by rw [gd_tail]; exact hu)
    · cases h

theorem arg_ok (hr : Rel P w g base σ a) {ts : List Tok} {v v' : T} {u : Value} (h : arg P σ v = some v') (hv : VT P w g base v u) (ht : ∀ t ∈ argToks σ v, ts.contains t = true) : VT P w (g0 (sealG g ts).prot) w.heap.size v' u := by
  obtain ⟨sh, p⟩ := v
  cases sh with
  | tup xs => cases h
  | one x => cases x with
    | agg xs =>
      unfold arg at h
      simp only at h
      split at h
      · rename_i ss hss
        injection h with h; subst h
        obtain ⟨arr, rfl, hvc⟩ := hv
        obtain ⟨k1, k2⟩ := row_ok (ts := ts) hvc hss ht
        refine ⟨arr, rfl, by simp [k1], fun j c hj => ?_⟩
        rw [List.getElem?_map] at hj
        cases hs : ss[j]? with
        | none => rw [hs] at hj; cases hj
        | some s =>
          rw [hs] at hj; injection hj with hj; subst hj
          obtain ⟨z, q1, q2⟩ := k2 j s hs
          exact ⟨z, q1, q2⟩
      · cases h
    | c x =>
      cases x with
      | fn f caps =>
        unfold arg at h
        simp only at h
        split at h
        · rename_i cs ds hc
          injection h with h; subst h
          obtain ⟨k1, k2⟩ := capArgs_ok hr hc ht
          obtain ⟨arr, rfl, h2, h3⟩ := hv
          refine ⟨arr, rfl, by rw [h2, k1], fun j c hj => ?_⟩
          obtain ⟨c0, q1, q2⟩ := k2 j c hj
          obtain ⟨z, z1, z2⟩ := h3 j c0 q1
          exact ⟨z, z1, q2 z z2⟩
        · cases h
      | cptr cells off =>
        simp only [arg, Option.some.injEq] at h
        subst h
        exact capArg_ok hr (c := .cptr cells off) (x := gd p 0) rfl hv (fun t h => by simp [capToks] at h)
      | ptr id off =>
        unfold arg at h
        simp only at h
        split at h
        · rename_i c d hc
          injection h with h; subst h
          have := capArg_ok hr (ts := ts) hc (u := u) hv ht
          have hcc : ∃ ss o', c = .cptr ss o' := by
            simp only [capArg] at hc
            split at hc
            · split at hc
              · simp only [Option.some.injEq, Prod.mk.injEq] at hc; exact ⟨_, _, hc.1.symm⟩
              · cases hc
            · cases hc
          obtain ⟨ss, o', rfl⟩ := hcc
          exact this
        · cases h
      | eptr tk e off =>
        unfold arg at h
        simp only at h
        split at h
        · rename_i row hrow
          injection h with h; subst h
          have key : ∃ b o, u = .pointer (some ⟨b, o + off, none⟩) ∧ ∀ (j : Nat) s, row[j]? = some s → ∃ z, w.cell? ⟨b, o + j, none⟩ = some z ∧ VD P w g.prot s (gd ((eRows (gd p 0)).getD (eIx (gd p 0)) []) j) z := by
            cases tk with
            | none =>
              obtain ⟨row', b, o, k1, k2, k3, k4⟩ := hv
              rw [hrow] at k1; injection k1 with k1; subst k1
              exact ⟨b, o + eIx (gd p 0) * row.length, by rw [k2, Nat.add_assoc], fun j s hs => by obtain ⟨z, j1, _, j3⟩ := k4 j s hs; exact ⟨z, by rw [Nat.add_assoc]; exact j1, j3⟩⟩
            | some t =>
              obtain ⟨row', k1, k2, k3, v0, k4⟩ := hv
              rw [hrow] at k1; injection k1 with k1; subst k1
              refine ⟨g.ρ t, eIx (gd p 0) * row.length, k2, fun j s hs => ?_⟩
              rcases k4 with ⟨h0, _⟩ | ⟨cap, arr, E, h1, h2, h3, h4, h5, h6, h7, h8, h9, h10, h11⟩
              · rw [h0] at k3; simp at k3
              · obtain ⟨z, hz1, hz2⟩ := h11 _ j s k3 hs
                exact ⟨z, by simp only [World.cell?, h6]; exact hz1, hz2⟩
          obtain ⟨b, o, rfl, hk⟩ := key
          obtain ⟨z0, hz0, _⟩ := hk 0 _ (List.getElem?_eq_getElem (rowOf_pos hrow))
          refine ⟨b, o, rfl, cell_size hz0, fun j s hs => ?_⟩
          obtain ⟨z, q1, q2⟩ := hk j s hs
          refine ⟨z, q1, ?_⟩
          have hj := (List.getElem?_eq_some_iff.1 hs).1
          show VD P w (sealG g ts).prot s (gd (sub ((eRows (gd p 0)).getD (eIx (gd p 0)) []) 0 row.length) j) z
          rw [gd_sub _ _ _ _ hj, Nat.zero_add]
          exact seal_vd q2
        · cases h
      | any => cases h
      | d s =>
        simp only [arg, Ce.toS, Option.some.injEq] at h
        subst h
        exact toD_ok (base := base) (c := .d s) (s := s) (x := gd p 0) hv rfl (fun t xm e h => by cases h)
      | kb b =>
        simp only [arg, Ce.toS, Option.some.injEq] at h
        subst h
        exact toD_ok (base := base) (c := .kb b) (s := .bool) (x := gd p 0) hv rfl (fun t xm e h => by cases h)
      | own t xm e =>
        simp only [arg, Ce.toS, Option.some.injEq] at h
        subst h
        exact toD_ok (base := base) (c := .own t xm e) (s := .sl e) (x := gd p 0) hv rfl (fun t' xm' e' h => by cases h; exact ht t (by simp [argToks, toks]))

theorem evArgs_ok (hr : Rel P w g base σ a) {ts : List Tok} : ∀ {xs : List Operand} {vs : List T}, evArgs P σ (xs.map (opd σ)) = some vs → (∀ t ∈ (xs.map (opd σ)).flatMap (argToks σ), ts.contains t = true) →
    vs.length = xs.length ∧ ∀ (j : Nat) v, vs[j]? = some v → ∃ x, xs[j]? = some x ∧ VT P w (g0 (sealG g ts).prot) w.heap.size v (a.eval x)
  | [], vs, h, _ => by
    simp only [List.map_nil, evArgs, Option.some.injEq] at h
    subst h
    exact ⟨rfl, fun j v h => by simp at h⟩
  | x :: xs, vs, h, ht => by
    simp only [List.map_cons, evArgs] at h
    split at h
    · rename_i d ds h1 h2
      injection h with h; subst h
      obtain ⟨k1, k2⟩ := evArgs_ok hr h2 (fun t h => ht t (by simp only [List.map_cons, List.flatMap_cons, List.mem_append]; exact .inr h))
      refine ⟨by simp [k1], fun j v hj => ?_⟩
      cases j with
      | zero =>
        simp only [List.getElem?_cons_zero, Option.some.injEq] at hj
        subst hj
        exact ⟨x, rfl, arg_ok hr h1 (opd_ok hr x) (fun t h => ht t (by simp only [List.map_cons, List.flatMap_cons, List.mem_append]; exact .inl h))⟩
      | succ j =>
        obtain ⟨y, q1, q2⟩ := k2 j v (by simpa using hj)
        exact ⟨y, by simpa using q1, q2⟩
    · cases h
theorem capTs_get : ∀ (cs : List Cap) (ds : List D) (j : Nat), (capTs cs ds)[j]? = (cs[j]?).map fun c => T.c c.ce (gd ds j)
  | [], ds, j => by simp [capTs]
  | c :: cs, ds, 0 => by simp [capTs]
  | c :: cs, ds, j + 1 => by
    simp only [capTs, List.getElem?_cons_succ, capTs_get cs ds.tail j, gd_tail]
theorem capTs_length : ∀ (cs : List Cap) (ds : List D), (capTs cs ds).length = cs.length
  | [], _ => rfl
  | c :: cs, ds => by simp [capTs, capTs_length cs ds.tail]

/-- over the cells of a shape alone -/
theorem vs_mem {f : Ce → Ce} {g g' : G} {base base' : Nat} {sh : Sh} {p : List D} {v : Value} (h : ∀ c ∈ sh.ces, ∀ x v, VC P w g base c x v → VC P w g' base' (f c) x v) (hv : VS P w g base sh p v) : VS P w g' base' (sh.map f) p v := by
  have h1 : ∀ {x : Sh1} {p : List D} {v : Value}, (∀ c ∈ x.ces, ∀ x v, VC P w g base c x v → VC P w g' base' (f c) x v) → V1 P w g base x p v → V1 P w g' base' (x.map f) p v := by
    intro x p v hx hv
    cases x with
    | c c => exact hx c (by simp [Sh1.ces]) _ _ hv
    | agg xs =>
      obtain ⟨arr, rfl, k1, k2⟩ := hv
      refine ⟨arr, rfl, by rw [List.length_map]; exact k1, fun j c hj => ?_⟩
      rw [List.getElem?_map] at hj
      cases hs : xs[j]? with
      | none => rw [hs] at hj; cases hj
      | some c0 =>
        rw [hs] at hj; injection hj with hj; subst hj
        obtain ⟨u, q1, q2⟩ := k2 j c0 hs
        exact ⟨u, q1, hx c0 (List.mem_of_getElem? hs) _ _ q2⟩
  cases sh with
  | one x => exact h1 h hv
  | tup xs =>
    obtain ⟨vs, rfl, k1, k2⟩ := hv
    refine ⟨vs, rfl, by rw [List.length_map]; exact k1, fun j x hj => ?_⟩
    rw [List.getElem?_map] at hj
    cases hs : xs[j]? with
    | none => rw [hs] at hj; cases hj
    | some x0 =>
      rw [hs] at hj; injection hj with hj; subst hj
      obtain ⟨u, q1, q2⟩ := k2 j x0 hs
      refine ⟨u, q1, ?_⟩
      rw [offs_map, Sh1.size_map]
      exact h1 (fun c hc => h c (List.mem_flatMap.2 ⟨x0, List.mem_of_getElem? hs, hc⟩)) q2

/-- the operation goes on -/
def Goes (P : Program) (base : Nat) (σ' : St) (o : Oper) (a : Act) (w : World) : Prop :=
  ∀ (K : Act → World → Prop) (Q : Exit → Act → World → Prop), (∀ z w' g', Rel P w' g' base σ' (a.put o.dst z) → Below base w w' → K (a.put o.dst z) w') → o.wp P a w K Q
theorem Does.goes {o : Oper} {σ' : St} (h : Does P base σ' o a w) : Goes P base σ' o a w := by
  intro K Q hK
  obtain ⟨z, w', g', h1 | ⟨h1, rfl⟩, h2, h3⟩ := h
  · unfold Oper.wp; rw [h1]; exact hK z w' g' h2 h3
  · unfold Oper.wp; rw [h1]; exact hK undef w' g' h2 h3

theorem prim_mem {sh : Sh} (h : sh.prim = true) : ∀ c ∈ sh.ces, c.prim = true := by
  have h1 : ∀ {x : Sh1}, x.prim = true → ∀ c ∈ x.ces, c.prim = true := by
    intro x hx c hc
    cases x with
    | c c0 => simp only [Sh1.ces, List.mem_singleton] at hc; subst hc; exact hx
    | agg xs => exact List.all_eq_true.1 hx c hc
  intro c hc
  cases sh with
  | one x => exact h1 h c hc
  | tup xs =>
    obtain ⟨x, hx, hc⟩ := List.mem_flatMap.1 hc
    exact h1 (List.all_eq_true.1 h x hx) c hc

def GoesB (P : Program) (base : Nat) (σ' : St) (o : Oper) (a : Act) (w : World) : Prop :=
  ∀ (K : Act → World → Prop) (Q : Exit → Act → World → Prop), (∀ z w' g', Rel P w' g' base σ' (a.put o.dst z) → Below base w w' → Below w.heap.size w w' → K (a.put o.dst z) w') → o.wp P a w K Q
theorem GoesB.goes {o : Oper} {σ' : St} (h : GoesB P base σ' o a w) : Goes P base σ' o a w := fun K Q hK => h K Q fun z w' g' h1 h2 _ => hK z w' g' h1 h2
theorem evCall_ok (hr : Rel P w g base σ a) {call : FuncId → List T → Option (T × Bool)} (hcall : CallOk P call) {o : Oper} {σ' : St} {d : Nat} {f : Operand} {xs : Array Operand} {ts0 : Array TypeId} (ho : o.op = .call { callee := .value f, args := xs, argTypes := ts0 }) (hdst : o.dst = some d) (hd : ∀ d, o.dst = some d → d < a.tmps.size)
    (h : evCall P call σ d f xs.toList = some (σ', true)) : GoesB P base σ' o a w := by
  unfold evCall at h
  split at h
  · rename_i fid caps hsh
    split at h
    · rename_i vs cs ds hvs hcs
      split at h
      · rename_i r ok hcl
        cases hres : r.sh.ces.all resC with
        | false => rw [hres] at h; cases h
        | true =>
          rw [hres, cond_true] at h
          simp only [Option.some.injEq, Prod.mk.injEq] at h
          obtain ⟨rfl, rfl⟩ := h
          let ts : List Tok := (xs.toList.map (opd σ)).flatMap (argToks σ) ++ capToks σ caps
          obtain ⟨k1, k2⟩ := evArgs_ok (ts := ts) hr hvs (fun t h => List.contains_iff_mem.2 (List.mem_append.2 (.inl h)))
          obtain ⟨q1, q2⟩ := capArgs_ok (ts := ts) hr hcs (fun t h => List.contains_iff_mem.2 (List.mem_append.2 (.inr h)))
          have hfv := opd_ok hr f
          have hfv : VC P w g base (.fn fid caps) (gd (opd σ f).p 0) (a.eval f) := by
            generalize opd σ f = q at *
            obtain ⟨sh, p⟩ := q
            simp only at hsh
            subst hsh
            exact hfv
          obtain ⟨carr, hfe, hcl1, hcl2⟩ := hfv
          obtain ⟨hen, hcalls⟩ := hcall _ _ _ hcl
          have hxs : xs.toList.length = xs.size := by simp
          have hargs : ArgsV P (sealG g ts).prot w (vs ++ capTs cs ds) (xs.map a.eval ++ carr) := by
            refine ⟨by simp [k1, capTs_length, q1, hcl1], fun j t hj => ?_⟩
            rw [List.getElem?_append] at hj
            split at hj
            · rename_i hlt
              obtain ⟨x, hx, hxv⟩ := k2 j t hj
              refine ⟨a.eval x, ?_, hxv⟩
              rw [Array.getElem?_append_left (by simp; omega), Array.getElem?_map]
              have : xs[j]? = some x := by simpa using hx
              rw [this]; rfl
            · rename_i hge
              rw [capTs_get] at hj
              cases hc : cs[j - vs.length]? with
              | none => rw [hc] at hj; cases hj
              | some c =>
                rw [hc] at hj; injection hj with hj; subst hj
                obtain ⟨c0, m1, m2⟩ := q2 _ c hc
                obtain ⟨u, m3, m4⟩ := hcl2 _ c0 m1
                refine ⟨u, ?_, ?_⟩
                · rw [Array.getElem?_append_right (by simp; omega)]
                  simp only [Array.size_map, ← k1.symm]
                  rw [show xs.size = vs.length from by rw [k1]; simp]
                  exact m3
                · have := m2 u m4
                  cases c <;> exact this
          have hfr : ∀ b, w.heap.size ≤ b → (sealG g ts).prot b = 0 := fun b hb => ((hr.seal ts).fresh b hb).1
          intro K Q hK
          unfold Oper.wp
          have hrun : (execOp a.eval o).run P w = .ok (.enter fid (xs.map a.eval ++ carr)) w := by
            simp only [execOp, ho, resolve, hfe, Deferred.ofValue, Sem.run_bind, Sem.run_pure, Result.andThen_ok, invoke]
            simpa using hen (xs.map a.eval ++ carr) w
          rw [hrun]
          refine (hcalls w _ _ hargs hfr).mono ?_
          rintro e w' ⟨v, g', rfl, hR⟩
          let ts' : List Tok := bif r.sh.prim then [] else ts
          let gs := sealG g ts'
          have hrs : Rel P w gs base (σ.seal ts') a := hr.seal ts'
          let g2 : G := { prot := fun b => if b < w.heap.size then gs.prot b else g'.prot b,
                          owner := fun b => if b < w.heap.size then gs.owner b else match g'.owner b with | some (.inr t) => some (.inr (d, t.2)) | _ => none,
                          θ := gs.θ, ρ := fun t => if t.1 = d then g'.ρ (0, t.2) else gs.ρ t, len := fun t => if t.1 = d then g'.len (0, t.2) else gs.len t,
                          wid := fun t => if t.1 = d then g'.wid (0, t.2) else gs.wid t, ety := fun t => if t.1 = d then g'.ety (0, t.2) else gs.ety t }
          have hE : Ext (some d) gs g2 w w' := by
            refine ⟨hR.below.size, fun id h => rfl, fun t h => ?_, fun b h => if_pos h, fun b h => if_pos h, fun b h => hR.below.block b h⟩
            have : t.1 ≠ d := fun e => h (by rw [e])
            exact ⟨if_neg this, if_neg this, if_neg this, if_neg this⟩
          have hF : ∀ b, w'.heap.size ≤ b → g2.prot b = 0 ∧ g2.owner b = none := fun b hb => by
            have hge := hR.below.size
            have := hR.fresh b hb
            refine ⟨by show (if b < w.heap.size then _ else _) = _; rw [if_neg (by omega)]; exact this.1, ?_⟩
            show (if b < w.heap.size then _ else match g'.owner b with | some (Sum.inr t) => some (Sum.inr (d, t.2)) | _ => none) = _
            rw [if_neg (by omega), this.2]
          have hrel := hrs.wipeRow hE rfl hF
          have hval : VT P w' g2 base ⟨r.sh.map (retokC d), r.p⟩ v := by
            refine vs_mem (fun c hc x u hcv => ?_) hR.val
            have hcr := List.all_eq_true.1 hres c hc
            have hprot : r.sh.prim = false → ∀ b o z, o < g'.prot b → w'.cell? ⟨b, o, none⟩ = some z → w'.cell? ⟨b, o, none⟩ = some z ∧ o < g2.prot b := fun hp b o z h1 h2 => by
              refine ⟨h2, ?_⟩
              show o < (if b < w.heap.size then gs.prot b else g'.prot b)
              split
              · rename_i hlt
                have e : gs = sealG g ts := by show sealG g (bif r.sh.prim then [] else ts) = _; rw [hp]; rfl
                rw [e, ← hR.prot b hlt]; exact h1
              · exact h1
            cases c with
            | d s =>
              show VD P w' g2.prot s x u
              have hcv : VD P w' g'.prot s x u := hcv
              cases hp : r.sh.prim with
              | false => exact hcv.mono (hprot hp)
              | true =>
                have := prim_mem hp _ hc
                cases hcv with
                | int k y => exact .int k _
                | bool y => exact .bool _
                | str y => exact .str _
                | sl => simp [Ce.prim] at this
            | own t xm e =>
              obtain ⟨t1, ix⟩ := t
              have ht0 : t1 = 0 := by simpa [resC] using hcr
              subst ht0
              have hp : r.sh.prim = false := by
                cases hp : r.sh.prim with
                | false => rfl
                | true => have := prim_mem hp _ hc; simp [Ce.prim] at this
              obtain ⟨row, hrow, hown⟩ := hcv
              refine ⟨row, hrow, ?_⟩
              have e1 : g2.ρ (d, ix) = g'.ρ (0, ix) := if_pos rfl
              have e2 : g2.len (d, ix) = g'.len (0, ix) := if_pos rfl
              have e3 : g2.wid (d, ix) = g'.wid (0, ix) := if_pos rfl
              have e4 : g2.ety (d, ix) = g'.ety (0, ix) := if_pos rfl
              rcases hown with ⟨h0, h1, h2⟩ | ⟨cap, arr, E, h1, h2, h3, h4, h5, h6, h7, h8, h9, h10, h11⟩
              · exact .inl ⟨h0, by show g2.len (d, ix) = 0; rw [e2]; exact h1, h2⟩
              · have hge : ¬ g'.ρ (0, ix) < w.heap.size := by omega
                refine .inr ⟨cap, arr, E, by show u = .slice (some ⟨g2.ρ (d, ix), 0, none⟩) _ _; rw [e1]; exact h1, h2, by show _ ∧ _ ∧ e = g2.ety (d, ix); rw [e4]; exact h3, by show base ≤ g2.ρ (d, ix); rw [e1]; exact Nat.le_trans hr.base_le h4, ?_, by show w'.heap[g2.ρ (d, ix)]? = _; rw [e1]; exact h6, h7, by show _ = g2.len (d, ix); rw [e2]; exact h8, by show _ = g2.wid (d, ix); rw [e3]; exact h9, ?_, fun i j s hi hs => ?_⟩
                · show g2.owner (g2.ρ (d, ix)) = some (.inr (d, ix))
                  rw [e1]
                  show (if g'.ρ (0, ix) < w.heap.size then _ else match g'.owner (g'.ρ (0, ix)) with | some (Sum.inr t) => some (Sum.inr (d, t.2)) | _ => none) = _
                  rw [if_neg hge, h5]
                · show g2.prot (g2.ρ (d, ix)) = if xm then 0 else g2.len (d, ix) * g2.wid (d, ix)
                  rw [e1, e2, e3]
                  show (if g'.ρ (0, ix) < w.heap.size then _ else g'.prot (g'.ρ (0, ix))) = _
                  rw [if_neg hge, h10]
                · obtain ⟨z, z1, z2⟩ := h11 i j s hi hs
                  exact ⟨z, z1, z2.mono (hprot hp)⟩
            | _ => simp [resC] at hcr
          have hb : Below base w w' := hR.below.mono hr.base_le
          have := hK v w' g2 (by
            have := hrel.put hd (dst := o.dst) (t := ⟨r.sh.map (retokC d), r.p⟩) hval
            rw [hdst] at this ⊢
            exact this) hb hR.below
          exact this
      · cases h
    · cases h
  · cases h
end
end Go.Proofs.Ytdejncnjaebjfaa
