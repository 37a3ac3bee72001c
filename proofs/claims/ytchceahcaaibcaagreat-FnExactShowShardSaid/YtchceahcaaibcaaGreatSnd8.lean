/-
  The evaluator is right: calls.
-/
import Derived.Test.YtchceahcaaibcaaGreatSnd7
namespace Go.Proofs.YtchceahcaaibcaaGreat
set_option linter.unusedSimpArgs false
open Go.RowKit
set_option linter.unusedVariables false
set_option linter.unusedSectionVars false

/-- of a callee's world nothing is known but what stays as it is -/
def g0 (prot : Nat → Nat) : G := ⟨prot, fun _ => none, fun _ => 0, fun _ => 0, fun _ => 0, fun _ => 0, fun _ => 0⟩
/-- what a call hands back -/
structure Res (P : Program) (prot : Nat → Nat) (w w' : World) (r : T) (v : Value) (g' : G) : Prop where
  below : Below w.heap.size w w'
  val : VT P w' g' w.heap.size r v
  prot : ∀ b, b < w.heap.size → g'.prot b = prot b
  fresh : ∀ b, w'.heap.size ≤ b → g'.prot b = 0 ∧ g'.owner b = none
def ArgsV (P : Program) (prot : Nat → Nat) (w : World) (args : List T) (vs : Array Value) : Prop :=
  vs.size = args.length ∧ ∀ (j : Nat) t, args[j]? = some t → ∃ u, vs[j]? = some u ∧ VT P w (g0 prot) w.heap.size t u
/-- what a call hands back that writes into the row that it is given -/
def wRet (sh : Sh) (v : Value) : Value :=
  match sh with
  | .tup [.c _] => .tuple #[]
  | _ => v
structure Writ (b : Nat) (e : TypeId) (arr : Array Value) (rows : List (List D)) (w w' : World) : Prop where
  below : Below 0 w w'
  other : ∀ k, k < w.heap.size → k ≠ b → w'.heap[k]? = w.heap[k]?
  row : ∃ arr', w'.heap[b]? = some (.cells arr' e (0, 0)) ∧ arr'.size = arr.size ∧ ∀ i, i < rows.length → arr'[i]? = some (.int .i64 (gd (rows.getD i []) 0).int)
/-- the function f writes into the row of numbers that it is given -/
def SoundW (P : Program) (f : FuncId) (args : List T) (r : T) : Prop :=
  (∀ vs w, (callFunc f vs).run P w = .ok (.enter f vs) w) ∧
  ∀ (e : TypeId) (x : D), args = [.c (.d (.sl e)) x] → rowOf P e = some [.int .i64] →
    (x.rows = [] → (gd r.p 0).rows = [] ∧ ∀ (A : Option Addr) (w : World), Calls P f #[.slice A 0 0] w fun ex w' => ex = .returned (wRet r.sh (.slice A 0 0)) ∧ Below w.heap.size w w') ∧
    ∀ (w : World) (b cap : Nat) (arr : Array Value), w.heap[b]? = some (.cells arr e (0, 0)) → arr.size = cap → x.rows.length ≤ cap → cap ≤ 9223372036854775807 → (∀ i, i < x.rows.length → arr[i]? = some (.int .i64 (gd (x.rows.getD i []) 0).int)) →
      (gd r.p 0).rows.length ≤ x.rows.length ∧ ((∃ c, r.sh = .tup [.c c]) → (gd r.p 0).rows.length = x.rows.length) ∧
      Calls P f #[.slice (some ⟨b, 0, none⟩) x.rows.length cap] w fun ex w' => ex = .returned (wRet r.sh (.slice (some ⟨b, 0, none⟩) (gd r.p 0).rows.length cap)) ∧ Writ b e arr (gd r.p 0).rows w w'
/-- the function f, at these arguments, hands back r -/
def SoundFn (P : Program) (f : FuncId) (args : List T) (r : T) : Prop := if r.sh.isW then SoundW P f args r else
  (∀ vs w, (callFunc f vs).run P w = .ok (.enter f vs) w) ∧
  ∀ (w : World) (prot : Nat → Nat) (vs : Array Value), ArgsV P prot w args vs → (∀ b, w.heap.size ≤ b → prot b = 0) →
    Calls P f vs w fun e w' => ∃ v g', e = .returned v ∧ Res P prot w w' r v g'
theorem SoundFn.n {P : Program} {f : FuncId} {args : List T} {r : T} (h : SoundFn P f args r) (hw : r.sh.isW = false) : (∀ vs w, (callFunc f vs).run P w = .ok (.enter f vs) w) ∧
  ∀ (w : World) (prot : Nat → Nat) (vs : Array Value), ArgsV P prot w args vs → (∀ b, w.heap.size ≤ b → prot b = 0) →
    Calls P f vs w fun e w' => ∃ v g', e = .returned v ∧ Res P prot w w' r v g' := by
  unfold SoundFn at h
  rw [hw] at h
  exact h
theorem SoundFn.w {P : Program} {f : FuncId} {args : List T} {r : T} (h : SoundFn P f args r) (hw : r.sh.isW = true) : SoundW P f args r := by
  unfold SoundFn at h
  rw [hw] at h
  exact h
theorem SoundFn.ofW {P : Program} {f : FuncId} {args : List T} {r : T} (hw : r.sh.isW = true) (h : SoundW P f args r) : SoundFn P f args r := by
  unfold SoundFn
  rw [hw]
  exact h
theorem SoundFn.of {P : Program} {f : FuncId} {args : List T} {r : T} (hw : r.sh.isW = false) (h : (∀ vs w, (callFunc f vs).run P w = .ok (.enter f vs) w) ∧
  ∀ (w : World) (prot : Nat → Nat) (vs : Array Value), ArgsV P prot w args vs → (∀ b, w.heap.size ≤ b → prot b = 0) →
    Calls P f vs w fun e w' => ∃ v g', e = .returned v ∧ Res P prot w w' r v g') : SoundFn P f args r := by
  unfold SoundFn
  rw [hw]
  exact h
def CallOk (P : Program) (call : FuncId → List T → Option (T × Bool)) : Prop := ∀ f args r, call f args = some (r, true) → SoundFn P f args r

section
variable [Low] {P : Program} {w w' : World} {g g' : G} {base : Nat} {σ : St} {a : Act}

theorem capArg_ok (hr : Rel P w g base σ a) {ts : List Tok} {c c' : Cap} {x x' : D} {u : Value} (h : capArg σ c x = some (c', x')) (hv : CapV P w g base c x u) (ht : ∀ t ∈ capToks σ [c], ts.contains t = true) :
    CapV P w (g0 (sealG g ts).prot) w.heap.size c' x' u := by
  cases c with
  | d s =>
    simp only [capArg, Option.some.injEq, Prod.mk.injEq] at h
    obtain ⟨rfl, rfl⟩ := h
    exact seal_vd hv
  | cptr cells off =>
    simp only [capArg, Option.some.injEq, Prod.mk.injEq] at h
    obtain ⟨rfl, rfl⟩ := h
    obtain ⟨b, o, h1, h2, h3⟩ := hv
    refine ⟨b, o, h1, Nat.lt_of_lt_of_le h2 hr.base_le, fun j s hs => ?_⟩
    obtain ⟨v, k1, k2⟩ := h3 j s hs
    exact ⟨v, k1, seal_vd k2⟩
  | ptr id off =>
    simp only [capArg] at h
    split at h
    · rename_i cs ds hl
      split at h
      · rename_i ss hss
        simp only [Option.some.injEq, Prod.mk.injEq] at h
        obtain ⟨rfl, rfl⟩ := h
        obtain ⟨k1, k2, k3, kl, arr, E, k4, k5⟩ := hr.box id cs ds hl
        have hv : u = .pointer (some ⟨g.θ id, off, none⟩) := hv
        subst hv
        have hrow := row_ok (ts := ts) k5 hss (fun t h => ht t (by simp [capToks, hl, h]))
        refine ⟨g.θ id, 0, by rw [Nat.zero_add], lt_of_heap k4, fun j s hs => ?_⟩
        obtain ⟨v, q1, q2⟩ := hrow.2 j s hs
        exact ⟨v, by simp only [World.cell?, k4, Nat.zero_add]; exact q1, q2⟩
      · cases h
    · cases h
theorem capToks_mem {σ : St} : ∀ {caps : List Cap} {j : Nat} {c : Cap}, caps[j]? = some c → ∀ t ∈ capToks σ [c], t ∈ capToks σ caps
  | [], j, c, h, t, ht => by simp at h
  | c0 :: cs, 0, c, h, t, ht => by
    simp only [List.getElem?_cons_zero, Option.some.injEq] at h
    subst h
    cases c0 <;> simp [capToks] at ht ⊢
    exact .inl ht
  | c0 :: cs, j + 1, c, h, t, ht => by
    have := capToks_mem (caps := cs) (j := j) (by simpa using h) t ht
    cases c0 <;> simp [capToks, this]
theorem capArgs_ok (hr : Rel P w g base σ a) {ts : List Tok} : ∀ {caps caps' : List Cap} {ds ds' : List D}, capArgs σ caps ds = some (caps', ds') → (∀ t ∈ capToks σ caps, ts.contains t = true) →
    caps'.length = caps.length ∧ ∀ (j : Nat) c', caps'[j]? = some c' → ∃ c, caps[j]? = some c ∧ ∀ u, CapV P w g base c (gd ds j) u → CapV P w (g0 (sealG g ts).prot) w.heap.size c' (gd ds' j) u
  | [], caps', ds, ds', h, _ => by
    simp only [capArgs, Option.some.injEq, Prod.mk.injEq] at h
    obtain ⟨rfl, rfl⟩ := h
    exact ⟨rfl, fun j c h => by simp at h⟩
  | c :: cs, caps', ds, ds', h, ht => by
    unfold capArgs at h
    split at h
    · rename_i d x ds1 xs h1 h2
      simp only [Option.some.injEq, Prod.mk.injEq] at h
      obtain ⟨rfl, rfl⟩ := h
      have ht1 : ∀ t ∈ capToks σ [c], ts.contains t = true := fun t h => ht t (capToks_mem (caps := c :: cs) (j := 0) rfl t h)
      have ht2 : ∀ t ∈ capToks σ cs, ts.contains t = true := fun t h => ht t (by cases c <;> simp [capToks, h])
      obtain ⟨k1, k2⟩ := capArgs_ok hr h2 ht2
      refine ⟨by simp [k1], fun j c' hj => ?_⟩
      cases j with
      | zero =>
        simp only [List.getElem?_cons_zero, Option.some.injEq] at hj
        subst hj
        exact ⟨c, rfl, fun u hu => capArg_ok hr h1 hu ht1⟩
      | succ j =>
        obtain ⟨c0, q1, q2⟩ := k2 j c' (by simpa using hj)
        refine ⟨c0, by simpa using q1, fun u hu => ?_⟩
        rw [gd_cons_succ]
        exact q2 u (by rw [gd_tail]; exact hu)
    · cases h

theorem arg_ok (hr : Rel P w g base σ a) {ts : List Tok} {v v' : T} {u : Value} (h : arg P σ v = some v') (hv : VT P w g base v u) (ht : ∀ t ∈ argToks σ v, ts.contains t = true) : VT P w (g0 (sealG g ts).prot) w.heap.size v' u := by
  obtain ⟨sh, p⟩ := v
  cases sh with
  | tup xs => cases h
  | one x => cases x with
    | agg xs =>
      unfold arg at h
      simp only at h
      split at h
      · rename_i ss hss
        injection h with h; subst h
        obtain ⟨arr, rfl, hvc⟩ := hv
        obtain ⟨k1, k2⟩ := row_ok (ts := ts) hvc hss ht
        refine ⟨arr, rfl, by simp [k1], fun j c hj => ?_⟩
        rw [List.getElem?_map] at hj
        cases hs : ss[j]? with
        | none => rw [hs] at hj; cases hj
        | some s =>
          rw [hs] at hj; injection hj with hj; subst hj
          obtain ⟨z, q1, q2⟩ := k2 j s hs
          exact ⟨z, q1, q2⟩
      · cases h
    | c x =>
      cases x with
      | fn f caps =>
        unfold arg at h
        simp only at h
        split at h
        · rename_i cs ds hc
          injection h with h; subst h
          obtain ⟨k1, k2⟩ := capArgs_ok hr hc ht
          obtain ⟨arr, rfl, h2, h3⟩ := hv
          refine ⟨arr, rfl, by rw [h2, k1], fun j c hj => ?_⟩
          obtain ⟨c0, q1, q2⟩ := k2 j c hj
          obtain ⟨z, z1, z2⟩ := h3 j c0 q1
          exact ⟨z, z1, q2 z z2⟩
        · cases h
      | cptr cells off =>
        simp only [arg, Option.some.injEq] at h
        subst h
        exact capArg_ok hr (c := .cptr cells off) (x := gd p 0) rfl hv (fun t h => by simp [capToks] at h)
      | ptr id off =>
        unfold arg at h
        simp only at h
        split at h
        · rename_i c d hc
          injection h with h; subst h
          have := capArg_ok hr (ts := ts) hc (u := u) hv ht
          have hcc : ∃ ss o', c = .cptr ss o' := by
            simp only [capArg] at hc
            split at hc
            · split at hc
              · simp only [Option.some.injEq, Prod.mk.injEq] at hc; exact ⟨_, _, hc.1.symm⟩
              · cases hc
            · cases hc
          obtain ⟨ss, o', rfl⟩ := hcc
          exact this
        · cases h
      | eptr tk e off =>
        unfold arg at h
        simp only at h
        split at h
        · rename_i row hrow
          injection h with h; subst h
          have key : ∃ b o, u = .pointer (some ⟨b, o + off, none⟩) ∧ ∀ (j : Nat) s, row[j]? = some s → ∃ z, w.cell? ⟨b, o + j, none⟩ = some z ∧ VD P w g.prot s (gd ((eRows (gd p 0)).getD (eIx (gd p 0)) []) j) z := by
            cases tk with
            | none =>
              obtain ⟨row', b, o, k1, k2, k3, k4⟩ := hv
              rw [hrow] at k1; injection k1 with k1; subst k1
              exact ⟨b, o + eIx (gd p 0) * row.length, by rw [k2, Nat.add_assoc], fun j s hs => by obtain ⟨z, j1, _, j3⟩ := k4 j s hs; exact ⟨z, by rw [Nat.add_assoc]; exact j1, j3⟩⟩
            | some t =>
              obtain ⟨row', k1, k2, k3, v0, k4⟩ := hv
              rw [hrow] at k1; injection k1 with k1; subst k1
              refine ⟨g.ρ t, eIx (gd p 0) * row.length, k2, fun j s hs => ?_⟩
              rcases k4 with ⟨h0, _⟩ | ⟨cap, arr, E, h1, h2, h3, h4, h5, h6, h7, h8, h9, h10, h11⟩
              · rw [h0] at k3; simp at k3
              · obtain ⟨z, hz1, hz2⟩ := h11 _ j s k3 hs
                exact ⟨z, by simp only [World.cell?, h6]; exact hz1, hz2⟩
          obtain ⟨b, o, rfl, hk⟩ := key
          obtain ⟨z0, hz0, _⟩ := hk 0 _ (List.getElem?_eq_getElem (rowOf_pos hrow))
          refine ⟨b, o, rfl, cell_size hz0, fun j s hs => ?_⟩
          obtain ⟨z, q1, q2⟩ := hk j s hs
          refine ⟨z, q1, ?_⟩
          have hj := (List.getElem?_eq_some_iff.1 hs).1
          show VD P w (sealG g ts).prot s (gd (sub ((eRows (gd p 0)).getD (eIx (gd p 0)) []) 0 row.length) j) z
          rw [gd_sub _ _ _ _ hj, Nat.zero_add]
          exact seal_vd q2
        · cases h
      | any => cases h
      | d s =>
        simp only [arg, Ce.toS, Option.some.injEq] at h
        subst h
        exact toD_ok (base := base) (c := .d s) (s := s) (x := gd p 0) hv rfl (fun t xm e h => by cases h)
      | kb b =>
        simp only [arg, Ce.toS, Option.some.injEq] at h
        subst h
        exact toD_ok (base := base) (c := .kb b) (s := .bool) (x := gd p 0) hv rfl (fun t xm e h => by cases h)
      | own t xm e =>
        simp only [arg, Ce.toS, Option.some.injEq] at h
        subst h
        exact toD_ok (base := base) (c := .own t xm e) (s := .sl e) (x := gd p 0) hv rfl (fun t' xm' e' h => by cases h; exact ht t (by simp [argToks, toks]))

theorem evArgs_ok (hr : Rel P w g base σ a) {ts : List Tok} : ∀ {xs : List Operand} {vs : List T}, evArgs P σ (xs.map (opd σ)) = some vs → (∀ t ∈ (xs.map (opd σ)).flatMap (argToks σ), ts.contains t = true) →
    vs.length = xs.length ∧ ∀ (j : Nat) v, vs[j]? = some v → ∃ x, xs[j]? = some x ∧ VT P w (g0 (sealG g ts).prot) w.heap.size v (a.eval x)
  | [], vs, h, _ => by
    simp only [List.map_nil, evArgs, Option.some.injEq] at h
    subst h
    exact ⟨rfl, fun j v h => by simp at h⟩
  | x :: xs, vs, h, ht => by
    simp only [List.map_cons, evArgs] at h
    split at h
    · rename_i d ds h1 h2
      injection h with h; subst h
      obtain ⟨k1, k2⟩ := evArgs_ok hr h2 (fun t h => ht t (by simp only [List.map_cons, List.flatMap_cons, List.mem_append]; exact .inr h))
      refine ⟨by simp [k1], fun j v hj => ?_⟩
      cases j with
      | zero =>
        simp only [List.getElem?_cons_zero, Option.some.injEq] at hj
        subst hj
        exact ⟨x, rfl, arg_ok hr h1 (opd_ok hr x) (fun t h => ht t (by simp only [List.map_cons, List.flatMap_cons, List.mem_append]; exact .inl h))⟩
      | succ j =>
        obtain ⟨y, q1, q2⟩ := k2 j v (by simpa using hj)
        exact ⟨y, by simpa using q1, q2⟩
    · cases h
theorem evArgsN_ok (hr : Rel P w g base σ a) {ts : List Tok} : ∀ {xs : List Operand} {tys : List TypeId} {vs : List T}, evArgsN P σ xs tys = some vs → (∀ t ∈ (xs.map (opd σ)).flatMap (argToks σ), ts.contains t = true) →
    vs.length = xs.length ∧ ∀ (j : Nat) v, vs[j]? = some v → ∃ x, xs[j]? = some x ∧ VT P w (g0 (sealG g ts).prot) w.heap.size v (a.eval x)
  | [], tys, vs, h, _ => by
    simp only [evArgsN, Option.some.injEq] at h
    subst h
    exact ⟨rfl, fun j v h => by simp at h⟩
  | x :: xs, tys, vs, h, ht => by
    simp only [evArgsN] at h
    split at h
    · rename_i d ds h1 h2
      injection h with h; subst h
      obtain ⟨k1, k2⟩ := evArgsN_ok hr h2 (fun t h => ht t (by simp only [List.map_cons, List.flatMap_cons, List.mem_append]; exact .inr h))
      refine ⟨by simp [k1], fun j v hj => ?_⟩
      cases j with
      | zero =>
        simp only [List.getElem?_cons_zero, Option.some.injEq] at hj
        subst hj
        refine ⟨x, rfl, ?_⟩
        unfold argN at h1
        split at h1
        · rename_i t hn
          injection h1 with h1
          subst h1
          unfold nilT at hn
          split at hn
          · rename_i t0
            split at hn
            · rename_i e he
              cases hro : rowOf P e with
              | none => rw [hro] at hn; cases hn
              | some row =>
                rw [hro] at hn
                injection hn with hn
                subst hn
                exact ⟨row, hro, .inl ⟨rfl, rfl, none, rfl⟩⟩
            · cases hn
          · cases hn
        · exact arg_ok hr h1 (opd_ok hr x) (fun t h => ht t (by simp only [List.map_cons, List.flatMap_cons, List.mem_append]; exact .inl h))
      | succ j =>
        obtain ⟨y, q1, q2⟩ := k2 j v (by simpa using hj)
        exact ⟨y, by simpa using q1, q2⟩
    · cases h
theorem capTs_get : ∀ (cs : List Cap) (ds : List D) (j : Nat), (capTs cs ds)[j]? = (cs[j]?).map fun c => T.c c.ce (gd ds j)
  | [], ds, j => by simp [capTs]
  | c :: cs, ds, 0 => by simp [capTs]
  | c :: cs, ds, j + 1 => by
    simp only [capTs, List.getElem?_cons_succ, capTs_get cs ds.tail j, gd_tail]
theorem capTs_length : ∀ (cs : List Cap) (ds : List D), (capTs cs ds).length = cs.length
  | [], _ => rfl
  | c :: cs, ds => by simp [capTs, capTs_length cs ds.tail]

/-- over the cells of a shape alone -/
theorem vs_mem {f : Ce → Ce} {g g' : G} {base base' : Nat} {sh : Sh} {p : List D} {v : Value} (h : ∀ c ∈ sh.ces, ∀ x v, VC P w g base c x v → VC P w g' base' (f c) x v) (hv : VS P w g base sh p v) : VS P w g' base' (sh.map f) p v := by
  have h1 : ∀ {x : Sh1} {p : List D} {v : Value}, (∀ c ∈ x.ces, ∀ x v, VC P w g base c x v → VC P w g' base' (f c) x v) → V1 P w g base x p v → V1 P w g' base' (x.map f) p v := by
    intro x p v hx hv
    cases x with
    | c c => exact hx c (by simp [Sh1.ces]) _ _ hv
    | agg xs =>
      obtain ⟨arr, rfl, k1, k2⟩ := hv
      refine ⟨arr, rfl, by rw [List.length_map]; exact k1, fun j c hj => ?_⟩
      rw [List.getElem?_map] at hj
      cases hs : xs[j]? with
      | none => rw [hs] at hj; cases hj
      | some c0 =>
        rw [hs] at hj; injection hj with hj; subst hj
        obtain ⟨u, q1, q2⟩ := k2 j c0 hs
        exact ⟨u, q1, hx c0 (List.mem_of_getElem? hs) _ _ q2⟩
  cases sh with
  | one x => exact h1 h hv
  | tup xs =>
    obtain ⟨vs, rfl, k1, k2⟩ := hv
    refine ⟨vs, rfl, by rw [List.length_map]; exact k1, fun j x hj => ?_⟩
    rw [List.getElem?_map] at hj
    cases hs : xs[j]? with
    | none => rw [hs] at hj; cases hj
    | some x0 =>
      rw [hs] at hj; injection hj with hj; subst hj
      obtain ⟨u, q1, q2⟩ := k2 j x0 hs
      refine ⟨u, q1, ?_⟩
      rw [offs_map, Sh1.size_map]
      exact h1 (fun c hc => h c (List.mem_flatMap.2 ⟨x0, List.mem_of_getElem? hs, hc⟩)) q2

/-- the operation goes on -/
def Goes (P : Program) (base : Nat) (σ' : St) (o : Oper) (a : Act) (w : World) : Prop :=
  ∀ (K : Act → World → Prop) (Q : Exit → Act → World → Prop), (∀ z w' g', Rel P w' g' base σ' (a.put o.dst z) → Below base w w' → K (a.put o.dst z) w') → o.wp P a w K Q
theorem Does.goes {o : Oper} {σ' : St} (h : Does P base σ' o a w) : Goes P base σ' o a w := by
  intro K Q hK
  obtain ⟨z, w', g', h1 | ⟨h1, rfl⟩, h2, h3⟩ := h
  · unfold Oper.wp; rw [h1]; exact hK z w' g' h2 h3
  · unfold Oper.wp; rw [h1]; exact hK undef w' g' h2 h3

theorem prim_mem {sh : Sh} (h : sh.prim = true) : ∀ c ∈ sh.ces, c.prim = true := by
  have h1 : ∀ {x : Sh1}, x.prim = true → ∀ c ∈ x.ces, c.prim = true := by
    intro x hx c hc
    cases x with
    | c c0 => simp only [Sh1.ces, List.mem_singleton] at hc; subst hc; exact hx
    | agg xs => exact List.all_eq_true.1 hx c hc
  intro c hc
  cases sh with
  | one x => exact h1 h c hc
  | tup xs =>
    obtain ⟨x, hx, hc⟩ := List.mem_flatMap.1 hc
    exact h1 (List.all_eq_true.1 h x hx) c hc

theorem DoesC.goes {o : Oper} {σ' : St} (h : DoesC P base σ' o a w) : Goes P base σ' o a w := h.does.goes
def GoesB (P : Program) (base : Nat) (σ' : St) (o : Oper) (a : Act) (w : World) : Prop :=
  ∀ (K : Act → World → Prop) (Q : Exit → Act → World → Prop), (∀ z w' g', Rel P w' g' base σ' (a.put o.dst z) → Below base w w' → Below w.heap.size w w' → K (a.put o.dst z) w') → o.wp P a w K Q
theorem GoesB.goes {o : Oper} {σ' : St} (h : GoesB P base σ' o a w) : Goes P base σ' o a w := fun K Q hK => h K Q fun z w' g' h1 h2 _ => hK z w' g' h1 h2
theorem evCall_ok (hr : Rel P w g base σ a) {call : FuncId → List T → Option (T × Bool)} (hcall : CallOk P call) {o : Oper} {σ' : St} {d : Nat} {f : Operand} {xs : Array Operand} {ts0 : Array TypeId} (ho : o.op = .call { callee := .value f, args := xs, argTypes := ts0 }) (hdst : o.dst = some d) (hd : ∀ d, o.dst = some d → d < a.tmps.size)
    {tys : List TypeId} (h : evCall P call σ d f xs.toList tys = some (σ', true)) : GoesB P base σ' o a w := by
  unfold evCall at h
  split at h
  · rename_i fid caps hsh
    split at h
    · rename_i vs cs ds hvs hcs
      split at h
      · rename_i r ok hcl
        cases hres : r.sh.ces.all resC with
        | false => rw [hres, Bool.and_false] at h; cases h
        | true =>
         cases hisw : r.sh.isW with
         | true => rw [hisw] at h; cases h
         | false =>
          rw [hres, hisw, show (!false && true) = true from rfl, cond_true] at h
          simp only [Option.some.injEq, Prod.mk.injEq] at h
          obtain ⟨rfl, rfl⟩ := h
          let ts : List Tok := (xs.toList.map (opd σ)).flatMap (argToks σ) ++ capToks σ caps
          obtain ⟨k1, k2⟩ := evArgsN_ok (ts := ts) hr hvs (fun t h => List.contains_iff_mem.2 (List.mem_append.2 (.inl h)))
          obtain ⟨q1, q2⟩ := capArgs_ok (ts := ts) hr hcs (fun t h => List.contains_iff_mem.2 (List.mem_append.2 (.inr h)))
          have hfv := opd_ok hr f
          have hfv : VC P w g base (.fn fid caps) (gd (opd σ f).p 0) (a.eval f) := by
            generalize opd σ f = q at *
            obtain ⟨sh, p⟩ := q
            simp only at hsh
            subst hsh
            exact hfv
          obtain ⟨carr, hfe, hcl1, hcl2⟩ := hfv
          obtain ⟨hen, hcalls⟩ := (hcall _ _ _ hcl).n hisw
          have hxs : xs.toList.length = xs.size := by simp
          have hargs : ArgsV P (sealG g ts).prot w (vs ++ capTs cs ds) (xs.map a.eval ++ carr) := by
            refine ⟨by simp [k1, capTs_length, q1, hcl1], fun j t hj => ?_⟩
            rw [List.getElem?_append] at hj
            split at hj
            · rename_i hlt
              obtain ⟨x, hx, hxv⟩ := k2 j t hj
              refine ⟨a.eval x, ?_, hxv⟩
              rw [Array.getElem?_append_left (by simp; omega), Array.getElem?_map]
              have : xs[j]? = some x := by simpa using hx
              rw [this]; rfl
            · rename_i hge
              rw [capTs_get] at hj
              cases hc : cs[j - vs.length]? with
              | none => rw [hc] at hj; cases hj
              | some c =>
                rw [hc] at hj; injection hj with hj; subst hj
                obtain ⟨c0, m1, m2⟩ := q2 _ c hc
                obtain ⟨u, m3, m4⟩ := hcl2 _ c0 m1
                refine ⟨u, ?_, ?_⟩
                · rw [Array.getElem?_append_right (by simp; omega)]
                  simp only [Array.size_map, ← k1.symm]
                  rw [show xs.size = vs.length from by rw [k1]; simp]
                  exact m3
                · have := m2 u m4
                  cases c <;> exact this
          have hfr : ∀ b, w.heap.size ≤ b → (sealG g ts).prot b = 0 := fun b hb => ((hr.seal ts).fresh b hb).1
          intro K Q hK
          unfold Oper.wp
          have hrun : (execOp a.eval o).run P w = .ok (.enter fid (xs.map a.eval ++ carr)) w := by
            simp only [execOp, ho, resolve, hfe, Deferred.ofValue, Sem.run_bind, Sem.run_pure, Result.andThen_ok, invoke]
            simpa using hen (xs.map a.eval ++ carr) w
          rw [hrun]
          refine (hcalls w _ _ hargs hfr).mono ?_
          rintro e w' ⟨v, g', rfl, hR⟩
          let ts' : List Tok := bif r.sh.prim then [] else ts
          let gs := sealG g ts'
          have hrs : Rel P w gs base (σ.seal ts') a := hr.seal ts'
          let g2 : G := { prot := fun b => if b < w.heap.size then gs.prot b else g'.prot b,
                          owner := fun b => if b < w.heap.size then gs.owner b else match g'.owner b with | some (.inr t) => some (.inr (d, t.2)) | _ => none,
                          θ := gs.θ, ρ := fun t => if t.1 = d then g'.ρ (0, t.2) else gs.ρ t, len := fun t => if t.1 = d then g'.len (0, t.2) else gs.len t,
                          wid := fun t => if t.1 = d then g'.wid (0, t.2) else gs.wid t, ety := fun t => if t.1 = d then g'.ety (0, t.2) else gs.ety t }
          have hE : Ext (some d) gs g2 w w' := by
            refine ⟨hR.below.size, fun id h => rfl, fun t h => ?_, fun b h => if_pos h, fun b h => if_pos h, fun b h => hR.below.block b h⟩
            have : t.1 ≠ d := fun e => h (by rw [e])
            exact ⟨if_neg this, if_neg this, if_neg this, if_neg this⟩
          have hF : ∀ b, w'.heap.size ≤ b → g2.prot b = 0 ∧ g2.owner b = none := fun b hb => by
            have hge := hR.below.size
            have := hR.fresh b hb
            refine ⟨by show (if b < w.heap.size then _ else _) = _; rw [if_neg (by omega)]; exact this.1, ?_⟩
            show (if b < w.heap.size then _ else match g'.owner b with | some (Sum.inr t) => some (Sum.inr (d, t.2)) | _ => none) = _
            rw [if_neg (by omega), this.2]
          have hrel := hrs.wipeRow hE rfl hF
          have hval : VT P w' g2 base ⟨r.sh.map (retokC d), r.p⟩ v := by
            refine vs_mem (fun c hc x u hcv => ?_) hR.val
            have hcr := List.all_eq_true.1 hres c hc
            have hprot : r.sh.prim = false → ∀ b o z, o < g'.prot b → w'.cell? ⟨b, o, none⟩ = some z → w'.cell? ⟨b, o, none⟩ = some z ∧ o < g2.prot b := fun hp b o z h1 h2 => by
              refine ⟨h2, ?_⟩
              show o < (if b < w.heap.size then gs.prot b else g'.prot b)
              split
              · rename_i hlt
                have e : gs = sealG g ts := by show sealG g (bif r.sh.prim then [] else ts) = _; rw [hp]; rfl
                rw [e, ← hR.prot b hlt]; exact h1
              · exact h1
            cases c with
            | d s =>
              show VD P w' g2.prot s x u
              have hcv : VD P w' g'.prot s x u := hcv
              cases hp : r.sh.prim with
              | false => exact hcv.mono (hprot hp)
              | true =>
                have := prim_mem hp _ hc
                cases hcv with
                | int k y => exact .int k _
                | bool y => exact .bool _
                | str y => exact .str _
                | sl => simp [Ce.prim] at this
            | own t xm e =>
              obtain ⟨t1, ix⟩ := t
              have ht0 : t1 = 0 := by simpa [resC] using hcr
              subst ht0
              have hp : r.sh.prim = false := by
                cases hp : r.sh.prim with
                | false => rfl
                | true => have := prim_mem hp _ hc; simp [Ce.prim] at this
              obtain ⟨row, hrow, hown⟩ := hcv
              refine ⟨row, hrow, ?_⟩
              have e1 : g2.ρ (d, ix) = g'.ρ (0, ix) := if_pos rfl
              have e2 : g2.len (d, ix) = g'.len (0, ix) := if_pos rfl
              have e3 : g2.wid (d, ix) = g'.wid (0, ix) := if_pos rfl
              have e4 : g2.ety (d, ix) = g'.ety (0, ix) := if_pos rfl
              rcases hown with ⟨h0, h1, h2⟩ | ⟨cap, arr, E, h1, h2, h3, h4, h5, h6, h7, h8, h9, h10, h11⟩
              · exact .inl ⟨h0, by show g2.len (d, ix) = 0; rw [e2]; exact h1, h2⟩
              · have hge : ¬ g'.ρ (0, ix) < w.heap.size := by omega
                refine .inr ⟨cap, arr, E, by show u = .slice (some ⟨g2.ρ (d, ix), 0, none⟩) _ _; rw [e1]; exact h1, h2, by show _ ∧ _ ∧ e = g2.ety (d, ix); rw [e4]; exact h3, by show base ≤ g2.ρ (d, ix); rw [e1]; exact Nat.le_trans hr.base_le h4, ?_, by show w'.heap[g2.ρ (d, ix)]? = _; rw [e1]; exact h6, h7, by show _ = g2.len (d, ix); rw [e2]; exact h8, by show _ = g2.wid (d, ix); rw [e3]; exact h9, ?_, fun i j s hi hs => ?_⟩
                · show g2.owner (g2.ρ (d, ix)) = some (.inr (d, ix))
                  rw [e1]
                  show (if g'.ρ (0, ix) < w.heap.size then _ else match g'.owner (g'.ρ (0, ix)) with | some (Sum.inr t) => some (Sum.inr (d, t.2)) | _ => none) = _
                  rw [if_neg hge, h5]
                · show g2.prot (g2.ρ (d, ix)) = if xm then 0 else g2.len (d, ix) * g2.wid (d, ix)
                  rw [e1, e2, e3]
                  show (if g'.ρ (0, ix) < w.heap.size then _ else g'.prot (g'.ρ (0, ix))) = _
                  rw [if_neg hge, h10]
                · obtain ⟨z, z1, z2⟩ := h11 i j s hi hs
                  exact ⟨z, z1, z2.mono (hprot hp)⟩
            | _ => simp [resC] at hcr
          have hb : Below base w w' := hR.below.mono hr.base_le
          have := hK v w' g2 (by
            have := hrel.put hd (dst := o.dst) (t := ⟨r.sh.map (retokC d), r.p⟩) hval
            rw [hdst] at this ⊢
            exact this) hb hR.below
          exact this
      · cases h
    · cases h
  · cases h

theorem noW_ok {call : FuncId → List T → Option (T × Bool)} (h : CallOk P call) : CallOk P (noW call) := by
  intro f args r hc
  unfold noW at hc
  split at hc
  · rename_i r' ok he
    cases hw : r'.sh.isW with
    | true => rw [hw] at hc; cases hc
    | false =>
      rw [hw, cond_false] at hc
      simp only [Option.some.injEq, Prod.mk.injEq] at hc
      obtain ⟨rfl, rfl⟩ := hc
      exact h _ _ _ he
  · cases hc
theorem noW_not {call : FuncId → List T → Option (T × Bool)} {f : FuncId} {args : List T} {r : T} {ok : Bool} (hc : noW call f args = some (r, ok)) : r.sh.isW = false := by
  unfold noW at hc
  split at hc
  · rename_i r' ok he
    cases hw : r'.sh.isW with
    | true => rw [hw] at hc; cases hc
    | false =>
      rw [hw, cond_false] at hc
      simp only [Option.some.injEq, Prod.mk.injEq] at hc
      obtain ⟨rfl, rfl⟩ := hc
      exact hw
  · cases hc
/-- the row of the token t has been written: what is dropped and what is still owned -/
theorem writ_rel (hr : Rel P w g base σ a) {t : Tok} {e : TypeId} {rows rows' : List (List D)} {u : Value} (hown : OwnV P w g base t true e [.int .i64] rows u) {cap : Nat} {arr : Array Value}
    (hu : u = .slice (some ⟨g.ρ t, 0, none⟩) rows.length cap) (hcap : rows.length ≤ cap) (hc63 : cap ≤ 9223372036854775807) (hety : e = g.ety t) (hbase : base ≤ g.ρ t) (howner : g.owner (g.ρ t) = some (.inr t)) (hh : w.heap[g.ρ t]? = some (.cells arr e (0, 0))) (hsz : arr.size = cap) (hwid : 1 = g.wid t) (hp0 : g.prot (g.ρ t) = 0)
    (hle : rows'.length ≤ rows.length) (hw : Writ (g.ρ t) e arr rows' w w') (hrow : rowOf P e = some [.int .i64]) :
    ∃ g', Rel P w' g' base (σ.map (dropC t)) a ∧ VT P w' g' base (.c (.own t true e) (.l rows')) (.slice (some ⟨g.ρ t, 0, none⟩) rows'.length cap) ∧ Below base w w' := by
  obtain ⟨hbel, hoth, arr', hh', hsz', hcells⟩ := hw
  let g' : G := { g with len := fun u => if u = t then rows'.length else g.len u }
  have hcell : ∀ b o u, o < g.prot b → w.cell? ⟨b, o, none⟩ = some u → w'.cell? ⟨b, o, none⟩ = some u ∧ o < g'.prot b := fun b o u h1 h2 => by
    have hne : b ≠ g.ρ t := by rintro rfl; omega
    exact ⟨(cell_of_heap (hoth b (cell_size h2) hne) o).trans h2, h1⟩
  have hk : Kept P base g g' w w' (dropC t) := by
    refine kept_drop hcell (fun b t' ht' ho hb => ?_) (fun t' ht' => ⟨rfl, if_neg ht', rfl, rfl⟩) rfl (fun b hb => hoth b (Nat.lt_of_lt_of_le hb hr.base_le) (by omega))
    have hne : b ≠ g.ρ t := by intro e; rw [e, howner] at ho; injection ho with ho; injection ho with ho; exact ht' ho.symm
    exact ⟨hoth b hb hne, rfl, rfl⟩
  have hrel : Rel P w' g' base (σ.map (dropC t)) a := by
    refine hr.drop hk rfl (fun b id ho hb => ?_) (fun b hb => ?_) hbel.size (fun b hb => ⟨rfl, rfl⟩)
    · have hne : b ≠ g.ρ t := by intro e; rw [e, howner] at ho; injection ho with ho; cases ho
      exact ⟨hoth b hb hne, rfl, rfl⟩
    · exact hr.fresh b (Nat.le_trans hbel.size hb)
  refine ⟨g', hrel, ⟨[.int .i64], hrow, .inr ⟨cap, arr', e, rfl, by show rows'.length ≤ cap; omega, ⟨hc63, rfl, hety⟩, hbase, howner, hh', by rw [hsz', hsz]; simp, by show rows'.length = if t = t then _ else _; rw [if_pos rfl], hwid, hp0, ?_⟩⟩, ?_⟩
  · intro i j s hi hs
    have hi' : i < rows'.length := hi
    match j, hs with
    | 0, hs =>
      injection hs with hs
      subst hs
      have := hcells i hi'
      exact ⟨.int .i64 (gd (rows'.getD i []) 0).int, by simpa using this, .int .i64 _⟩
  · exact ⟨hbel.os, hbel.tape, hbel.output, hbel.size, fun k hk' => hoth k (Nat.lt_of_lt_of_le hk' hr.base_le) (by omega)⟩
/-- the row of the token t has been turned: all that name it have the new rows -/
theorem setRows_rel (hr : Rel P w g base σ a) {t : Tok} {rows' : List (List D)} (hcell : ∀ b o u, o < g.prot b → w.cell? ⟨b, o, none⟩ = some u → w'.cell? ⟨b, o, none⟩ = some u)
    (hblk : ∀ b t', t' ≠ t → g.owner b = some (.inr t') → b < w.heap.size → w'.heap[b]? = w.heap[b]?) (hbox : ∀ b id, g.owner b = some (.inl id) → b < w.heap.size → w'.heap[b]? = w.heap[b]?)
    (hlow : ∀ b, b < base → w'.heap[b]? = w.heap[b]?) (hsz : w.heap.size ≤ w'.heap.size)
    (hownt : ∀ {xm : Bool} {e' : TypeId} {row' : List S} {rowsT : List (List D)} {v : Value}, rowOf P e' = some row' → OwnV P w g base t xm e' row' rowsT v → rowsT.length = rows'.length ∧ OwnV P w' g base t xm e' row' rows' v) : Rel P w' g base (σ.setRows t rows') a := by
  have hvd : ∀ {s : S} {x : D} {v : Value}, VD P w g.prot s x v → VD P w' g.prot s x v := fun h => h.mono fun b o u q1 q2 => ⟨hcell b o u q1 q2, q1⟩
  have hownu : ∀ {t' : Tok} {xm : Bool} {e' : TypeId} {row' : List S} {rowsT : List (List D)} {v : Value}, t' ≠ t → OwnV P w g base t' xm e' row' rowsT v → OwnV P w' g base t' xm e' row' rowsT v := by
    intro t' xm e' row' rowsT v ht h
    rcases h with h | ⟨cap', arr', E', k1, k2, k3, k4, k5, k6, k7, k8, k9, k10, k11⟩
    · exact .inl h
    · refine .inr ⟨cap', arr', E', k1, k2, k3, k4, k5, by rw [hblk _ t' ht k5 (lt_of_heap k6)]; exact k6, k7, k8, k9, k10, fun i' j s hi' hs => ?_⟩
      obtain ⟨u, q1, q2⟩ := k11 i' j s hi' hs
      exact ⟨u, q1, hvd q2⟩
  have hcptr : ∀ {cells : List S} {off' : Nat} {x : D} {v : Value}, CptrV P w g base cells off' x v → CptrV P w' g base cells off' x v := by
    rintro cells off' x v ⟨b, o, q1, q2, q3⟩
    refine ⟨b, o, q1, q2, fun j s hs => ?_⟩
    obtain ⟨u, z1, z2⟩ := q3 j s hs
    exact ⟨u, (cell_of_heap (hlow b q2) _).trans z1, hvd z2⟩
  have hkc : ∀ c x v, VC P w g base c x v → VC P w' g base c (setD t rows' c x) v := by
    intro c x v hv
    cases c with
    | any => trivial
    | d s => exact hvd hv
    | kb b => exact hv
    | own t' xm e' =>
      obtain ⟨row', hr', hv⟩ := hv
      refine ⟨row', hr', ?_⟩
      show OwnV P _ g base t' xm e' row' (bif t' == t then D.l rows' else x).rows v
      by_cases ht : t' = t
      · subst ht
        rw [show (t' == t') = true from by simp]
        exact (hownt hr' hv).2
      · rw [show (t' == t) = false from by simpa using ht]
        exact hownu ht hv
    | ptr id off' => exact hv
    | eptr tk e' off' =>
      cases tk with
      | none =>
        obtain ⟨row', b, o, q1, q2, q3, q4⟩ := hv
        refine ⟨row', b, o, q1, q2, q3, fun j s hs => ?_⟩
        obtain ⟨u, z1, z2, z3⟩ := q4 j s hs
        exact ⟨u, hcell _ _ _ z2 z1, z2, hvd z3⟩
      | some t' =>
        obtain ⟨row', hr', q2, q3, u, q4⟩ := hv
        refine ⟨row', hr', ?_⟩
        show v = .pointer (some ⟨g.ρ t', eIx (bif t' == t then D.l [[.l rows', gd (x.rows.getD 0 []) 1]] else x) * row'.length + off', none⟩) ∧ eIx (bif t' == t then D.l [[.l rows', gd (x.rows.getD 0 []) 1]] else x) < (eRows (bif t' == t then D.l [[.l rows', gd (x.rows.getD 0 []) 1]] else x)).length ∧ ∃ u, OwnV P _ g base t' true e' row' (eRows (bif t' == t then D.l [[.l rows', gd (x.rows.getD 0 []) 1]] else x)) u
        by_cases ht : t' = t
        · subst ht
          rw [show (t' == t') = true from by simp, cond_true]
          obtain ⟨z1, z2⟩ := hownt hr' q4
          exact ⟨q2, by show eIx x < rows'.length; rw [← z1]; exact q3, u, z2⟩
        · rw [show (t' == t) = false from by simpa using ht, cond_false]
          exact ⟨q2, q3, u, hownu ht q4⟩
    | cptr cells off' => exact hcptr hv
    | fn f caps =>
      obtain ⟨arr', q1, q2, q3⟩ := hv
      refine ⟨arr', q1, q2, fun j c hc => ?_⟩
      obtain ⟨u, hu, hcap⟩ := q3 j c hc
      refine ⟨u, hu, ?_⟩
      cases c with
      | d s => exact hvd hcap
      | ptr id off => exact hcap
      | cptr cells off => exact hcptr hcap
  have hvcs : ∀ {cs : List Ce} {ds : List D} {arr' : Array Value}, VCs P w g base cs ds arr' → VCs P w' g base cs (setDs t rows' cs ds) arr' := by
    intro cs ds arr' h
    refine ⟨h.1, fun j c hj => ?_⟩
    obtain ⟨u, q1, q2⟩ := h.2 j c hj
    exact ⟨u, q1, by rw [setDs_get _ _ _ _ j c hj]; exact hkc c _ _ q2⟩
  have hvt : ∀ {q : T} {v : Value}, VT P w g base q v → VT P w' g base (setT t rows' q) v := by
    intro q v hv
    obtain ⟨sh, pq⟩ := q
    cases sh with
    | tup xs => trivial
    | one xx => cases xx with
      | c xx =>
        show VC P _ g base xx (gd (setDs t rows' [xx] pq) 0) v
        rw [setDs_get _ _ _ _ 0 xx rfl]
        exact hkc xx _ _ hv
      | agg xs =>
        obtain ⟨arr', rfl, hh⟩ := hv
        exact ⟨arr', rfl, hvcs hh⟩
  refine ⟨fun j => ?_, fun id cs1 ds1 hq => ?_, fun b hb => hr.fresh b (Nat.le_trans hsz hb), Nat.le_trans hr.base_le hsz, hr.defers, hr.low⟩
  · have e1 := look2_map (setT t rows') rfl σ.e j σ.r
    show VT P _ g base (look2 j (σ.e.map _) (σ.r.map _)) _
    rw [e1]
    exact hvt (hr.env j)
  · have e1 := hlook_map2 (setDs t rows') σ.h id
    change hlook id (σ.setRows t rows').h = _ at e1
    rw [hq] at e1
    cases hq2 : hlook id σ.h with
    | none => rw [hq2] at e1; cases e1
    | some q =>
      obtain ⟨cs0, ds0⟩ := q
      rw [hq2] at e1
      injection e1 with e1
      injection e1 with e2 e3
      subst e2; subst e3
      obtain ⟨j1, j2, j3, jl, arr', E', j4, j5⟩ := hr.box id _ _ hq2
      exact ⟨j1, j2, j3, setDs_length _ _ _ _, arr', E', by rw [hbox _ id j2 (lt_of_heap j4)]; exact j4, hvcs j5⟩
/-- a call that writes into the own row that it is given -/
theorem evW_ok (hr : Rel P w g base σ a) {call : FuncId → List T → Option (T × Bool)} (hcall : CallOk P call) {o : Oper} {σ' : St} {f : Operand} {xs : Array Operand} {ts0 : Array TypeId} (ho : o.op = .call { callee := .value f, args := xs, argTypes := ts0 }) (hd : ∀ d, o.dst = some d → d < a.tmps.size)
    (h : evW P call σ o.dst f xs.toList = some (σ', true)) : Goes P base σ' o a w := by
  unfold evW at h
  split at h
  · rename_i fid i hsh hxs
    split at h
    · rename_i t e hsi
      split at h
      · rename_i r ok hcl
        cases hq : (rowOf P e == some [.int .i64]) with
        | false => rw [hq] at h; cases h
        | true =>
          rw [hq, cond_true] at h
          have hrow : rowOf P e = some [.int .i64] := by simpa using hq
          have hxs' : xs = #[.tmp i] := by cases xs; simp_all
          subst hxs'
          have hfv := opd_ok hr f
          have hfv : VC P w g base (.fn fid []) (gd (opd σ f).p 0) (a.eval f) := by
            generalize opd σ f = q at *
            obtain ⟨sh, p⟩ := q
            simp only at hsh
            subst hsh
            exact hfv
          obtain ⟨carr, hfe, hcl1, _⟩ := hfv
          have hc0 : carr = #[] := by simpa using hcl1
          subst hc0
          have hiv := opd_ok hr (.tmp i)
          have hiv : VC P w g base (.own t true e) (gd (opd σ (.tmp i)).p 0) (a.eval (.tmp i)) := by
            generalize opd σ (.tmp i) = q at *
            obtain ⟨sh, p⟩ := q
            simp only at hsi
            subst hsi
            exact hiv
          obtain ⟨row', hrow', hown⟩ := hiv
          rw [hrow] at hrow'; injection hrow' with hrow'; subst hrow'
          generalize hx : gd (opd σ (.tmp i)).p 0 = x at *
          have hisw : r.sh.isW = true ∧ ok = true := by
            split at h
            · rename_i c hrs
              simp only [Option.some.injEq, Prod.mk.injEq] at h
              exact ⟨by rw [hrs]; rfl, h.2⟩
            · rename_i c hrs
              simp only [Option.some.injEq, Prod.mk.injEq] at h
              exact ⟨by rw [hrs]; rfl, h.2⟩
            · cases h
          obtain ⟨hisw, hok⟩ := hisw
          subst hok
          obtain ⟨hen, hcalls⟩ := (hcall _ _ _ hcl).w hisw
          obtain ⟨hC0, hC⟩ := hcalls e x rfl hrow
          have hgd : ∀ {w' g'} {v : Value}, VT P w' g' base (.c (.own t true e) (.l (gd r.p 0).rows)) v → VT P w' g' base (.c (.own t true e) (gd r.p 0)) v := fun {w' g' v} h => h
          intro K Q hK
          unfold Oper.wp
          have hrun : (execOp a.eval o).run P w = .ok (.enter fid #[a.eval (.tmp i)]) w := by
            simp only [execOp, ho, resolve, hfe, Deferred.ofValue, Sem.run_bind, Sem.run_pure, Result.andThen_ok, invoke]
            simpa using hen #[a.eval (.tmp i)] w
          rw [hrun]
          rcases hown with ⟨h0, h1, A, hv⟩ | ⟨cap, arr, E, k1, k2, ⟨k3, rfl, k3'⟩, k4, k5, k6, k7, k8, k9, k10, k11⟩
          · obtain ⟨hr0, hcc⟩ := hC0 h0
            rw [hv]
            refine (hcc A w).mono ?_
            rintro ex w' ⟨rfl, hbel⟩
            have hoth : ∀ k, k < w.heap.size → w'.heap[k]? = w.heap[k]? := fun k hk => hbel.block k hk
            split at h
            · rename_i c hrs
              simp only [Option.some.injEq, Prod.mk.injEq] at h
              obtain ⟨rfl, _⟩ := h
              have hrel : Rel P w' g base (σ.setRows t (gd r.p 0).rows) a := setRows_rel hr (fun b o u q1 q2 => (cell_of_heap (hoth b (cell_size q2)) o).trans q2) (fun b _ _ _ hb => hoth b hb) (fun b _ _ hb => hoth b hb) (fun b hb => hoth b (Nat.lt_of_lt_of_le hb hr.base_le)) hbel.size (fun {xm e' row' rowsT v} hr' ho' => by
                rw [hr0]
                rcases ho' with ⟨q0, q1, q2⟩ | ⟨cap', arr', E', q1, q2, q3, q4, q5, q6, q7, q8, q9, q10, q11⟩
                · exact ⟨by rw [q0], .inl ⟨rfl, q1, q2⟩⟩
                · have hz : rowsT.length = 0 := by omega
                  refine ⟨hz, .inr ⟨cap', arr', E', by rw [q1, hz]; rfl, Nat.zero_le _, q3, q4, q5, by rw [hoth _ (lt_of_heap q6)]; exact q6, q7, by rw [← q8, hz]; rfl, q9, q10, fun i' j s hi' _ => by simp at hi'⟩⟩)
              rw [hrs]
              exact hK _ w' g (hrel.put hd (dst := o.dst) (t := .none_) (v := .tuple #[]) ⟨#[], rfl, rfl, fun j x h => by simp at h⟩) (hbel.mono hr.base_le)
            · rename_i c hrs
              simp only [Option.some.injEq, Prod.mk.injEq] at h
              obtain ⟨rfl, _⟩ := h
              have hk : Kept P base g g w w' (dropC t) := kept_drop (fun b o u q1 q2 => ⟨(cell_of_heap (hoth b (cell_size q2)) o).trans q2, q1⟩) (fun b t' _ _ hb => ⟨hoth b hb, rfl, rfl⟩) (fun _ _ => ⟨rfl, rfl, rfl, rfl⟩) rfl (fun b hb => hoth b (Nat.lt_of_lt_of_le hb hr.base_le))
              have hrel : Rel P w' g base (σ.map (dropC t)) a := hr.drop hk rfl (fun b _ _ hb => ⟨hoth b hb, rfl, rfl⟩) (fun b hb => hr.fresh b (Nat.le_trans hbel.size hb)) hbel.size (fun _ _ => ⟨rfl, rfl⟩)
              rw [hrs]
              exact hK _ w' g (hrel.put hd (dst := o.dst) (hgd (v := .slice A 0 0) ⟨_, hrow, .inl ⟨hr0, h1, A, rfl⟩⟩)) (hbel.mono hr.base_le)
            · cases h
          · have hnum : ∀ i, i < x.rows.length → arr[i]? = some (.int .i64 (gd (x.rows.getD i []) 0).int) := fun i hi => by
              obtain ⟨u, q1, q2⟩ := k11 i 0 (.int .i64) hi rfl
              cases q2
              simpa using q1
            have hcs : arr.size = cap := by rw [k7]; simp
            obtain ⟨hle, hsame, hcc⟩ := hC w (g.ρ t) cap arr k6 hcs k2 k3 hnum
            rw [k1]
            refine hcc.mono ?_
            rintro ex w' ⟨rfl, hW⟩
            split at h
            · rename_i c hrs
              simp only [Option.some.injEq, Prod.mk.injEq] at h
              obtain ⟨rfl, _⟩ := h
              have hsame := hsame ⟨c, hrs⟩
              obtain ⟨hbel, hoth, arr', hh', hsz', hcells⟩ := hW
              have hp0 : g.prot (g.ρ t) = 0 := by simpa using k10
              have hrel : Rel P w' g base (σ.setRows t (gd r.p 0).rows) a := setRows_rel hr (fun b o u q1 q2 => (cell_of_heap (hoth b (cell_size q2) (by rintro rfl; omega)) o).trans q2)
                (fun b t' ht' ho' hb => hoth b hb (by intro e; rw [e, k5] at ho'; injection ho' with ho'; injection ho' with ho'; exact ht' ho'.symm))
                (fun b id ho' hb => hoth b hb (by intro e; rw [e, k5] at ho'; injection ho' with ho'; cases ho'))
                (fun b hb => hoth b (Nat.lt_of_lt_of_le hb hr.base_le) (by omega)) hbel.size (fun {xm e' row' rowsT v} hr' ho' => by
                rcases ho' with ⟨q0, q1, q2⟩ | ⟨cap', arr1, E', q1, q2, ⟨q3, qE, q3'⟩, q4, q5, q6, q7, q8, q9, q10, q11⟩
                · have hz : (gd r.p 0).rows = [] := List.eq_nil_of_length_eq_zero (by omega)
                  rw [hz]
                  exact ⟨by rw [q0], .inl ⟨rfl, q1, q2⟩⟩
                · have ee : e' = E := by rw [q3', k3']
                  subst ee
                  rw [hrow] at hr'; injection hr' with hr'; subst hr'
                  rw [k6] at q6
                  injection q6 with q6
                  injection q6 with z1 z2 z3
                  subst z1
                  have hll : rowsT.length = (gd r.p 0).rows.length := by omega
                  refine ⟨hll, .inr ⟨cap', arr', e', by rw [q1, hll], by omega, ⟨q3, rfl, q3'⟩, q4, q5, hh', by rw [hsz']; exact q7, by omega, q9, q10, fun i' j s hi' hs => ?_⟩⟩
                  match j, hs with
                  | 0, hs =>
                    injection hs with hs
                    subst hs
                    exact ⟨_, by simpa using hcells i' hi', .int .i64 _⟩)
              rw [hrs]
              exact hK _ w' g (hrel.put hd (dst := o.dst) (t := .none_) (v := .tuple #[]) ⟨#[], rfl, rfl, fun j x h => by simp at h⟩) ⟨hbel.os, hbel.tape, hbel.output, hbel.size, fun k hk' => hoth k (Nat.lt_of_lt_of_le hk' hr.base_le) (by omega)⟩
            · rename_i c hrs
              simp only [Option.some.injEq, Prod.mk.injEq] at h
              obtain ⟨rfl, _⟩ := h
              obtain ⟨g', q1, q2, q3⟩ := writ_rel hr (.inr ⟨cap, arr, E, k1, k2, ⟨k3, rfl, k3'⟩, k4, k5, k6, k7, k8, k9, k10, k11⟩) k1 k2 k3 k3' k4 k5 k6 hcs (by simpa using k9) (by simpa using k10) hle hW hrow
              rw [hrs]
              exact hK _ w' g' (q1.put hd (dst := o.dst) (hgd q2)) q3
            · cases h
      · cases h
    · cases h
  · cases h
end
end Go.Proofs.YtchceahcaaibcaaGreat
