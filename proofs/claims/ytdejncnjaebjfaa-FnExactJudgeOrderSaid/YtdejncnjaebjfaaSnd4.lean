/-
  The evaluator is right: rows.
-/
import Derived.Test.YtdejncnjaebjfaaSnd3
namespace Go.Proofs.Ytdejncnjaebjfaa
open Go.RowKit
set_option linter.unusedVariables false
set_option linter.unusedSectionVars false

section
variable [Low] {P : Program} {w w' : World} {g g' : G} {base : Nat} {σ : St} {a : Act}

/-- the rows of these tokens are written no more in place -/
def sealG (g : G) (ts : List Tok) : G :=
  { g with prot := fun b => match g.owner b with
      | some (.inr t) => if ts.contains t = true ∧ g.ρ t = b then max (g.prot b) (g.len t * g.wid t) else g.prot b
      | _ => g.prot b }
theorem seal_le (g : G) (ts : List Tok) (b : Nat) : g.prot b ≤ (sealG g ts).prot b := by
  show _ ≤ (match g.owner b with | some (.inr t) => if ts.contains t = true ∧ g.ρ t = b then max (g.prot b) (g.len t * g.wid t) else g.prot b | _ => g.prot b)
  split
  · split
    · exact Nat.le_max_left _ _
    · exact Nat.le_refl _
  · exact Nat.le_refl _
theorem seal_at {ts : List Tok} {t : Tok} (ho : g.owner (g.ρ t) = some (.inr t)) : (sealG g ts).prot (g.ρ t) = if ts.contains t = true then max (g.prot (g.ρ t)) (g.len t * g.wid t) else g.prot (g.ρ t) := by
  show (match g.owner (g.ρ t) with | some (.inr u) => if ts.contains u = true ∧ g.ρ u = g.ρ t then max (g.prot (g.ρ t)) (g.len u * g.wid u) else g.prot (g.ρ t) | _ => g.prot (g.ρ t)) = _
  rw [ho]
  simp
theorem seal_box {ts : List Tok} {b id : Nat} (ho : g.owner b = some (.inl id)) : (sealG g ts).prot b = g.prot b := by
  show (match g.owner b with | some (.inr u) => if ts.contains u = true ∧ g.ρ u = b then max (g.prot b) (g.len u * g.wid u) else g.prot b | _ => g.prot b) = _
  rw [ho]
theorem seal_none {ts : List Tok} {b : Nat} (ho : g.owner b = none) : (sealG g ts).prot b = g.prot b := by
  show (match g.owner b with | some (.inr u) => if ts.contains u = true ∧ g.ρ u = b then max (g.prot b) (g.len u * g.wid u) else g.prot b | _ => g.prot b) = _
  rw [ho]
theorem seal_vd {ts : List Tok} {s : S} {x : D} {v : Value} (h : VD P w g.prot s x v) : VD P w (sealG g ts).prot s x v :=
  h.mono fun b o u ho hc => ⟨hc, Nat.lt_of_lt_of_le ho (seal_le g ts b)⟩
theorem seal_own {ts : List Tok} {t : Tok} {xm : Bool} {e : TypeId} {row : List S} {rows : List (List D)} {v : Value} (h : OwnV P w g base t xm e row rows v) : OwnV P w (sealG g ts) base t (xm && !ts.contains t) e row rows v := by
  rcases h with h | ⟨cap, arr, E, h1, h2, h3, h4, h5, h6, h7, h8, h9, h10, h11⟩
  · exact .inl h
  · refine .inr ⟨cap, arr, E, h1, h2, h3, h4, h5, h6, h7, h8, h9, ?_, fun i j s hi hs => ?_⟩
    · show (sealG g ts).prot (g.ρ t) = if (xm && !ts.contains t) = true then 0 else g.len t * g.wid t
      rw [seal_at h5, h10]
      cases hc : ts.contains t <;> cases xm <;> simp
    · obtain ⟨u, k1, k2⟩ := h11 i j s hi hs
      exact ⟨u, k1, seal_vd k2⟩
theorem kept_seal (g : G) (ts : List Tok) (w : World) : Kept P base g (sealG g ts) w w (sealC ts) := by
  intro c x v hv
  cases c with
  | any => trivial
  | d s => exact seal_vd hv
  | kb b => exact hv
  | own t xm e =>
    obtain ⟨row, hr, hv⟩ := hv
    exact ⟨row, hr, seal_own hv⟩
  | ptr id off => exact hv
  | eptr tk e off =>
    cases tk with
    | none =>
      obtain ⟨row, b, o, h1, h2, h3, h4⟩ := hv
      refine ⟨row, b, o, h1, h2, h3, fun j s hs => ?_⟩
      obtain ⟨u, k1, k2, k3⟩ := h4 j s hs
      exact ⟨u, k1, Nat.lt_of_lt_of_le k2 (seal_le g ts b), seal_vd k3⟩
    | some t =>
      obtain ⟨row, h1, h2, h3, u, h4⟩ := hv
      change VC P w (sealG g ts) base (.eptr (bif ts.contains t then none else some t) e off) x v
      cases hc : ts.contains t with
      | false =>
        have := seal_own (ts := ts) h4
        rw [hc] at this
        exact ⟨row, h1, h2, h3, u, this⟩
      | true =>
        rcases h4 with ⟨h0, _⟩ | ⟨cap, arr, E, k1, k2, k3, k4, k5, k6, k7, k8, k9, k10, k11⟩
        · rw [h0] at h3; simp at h3
        · refine ⟨row, g.ρ t, 0, h1, by rw [Nat.zero_add]; exact h2, h3, fun j s hs => ?_⟩
          obtain ⟨u', j1, j2⟩ := k11 _ j s h3 hs
          refine ⟨u', by simp only [World.cell?, k6, Nat.zero_add]; exact j1, ?_, seal_vd j2⟩
          rw [seal_at k5, hc, if_pos rfl, Nat.zero_add]
          have hj := (List.getElem?_eq_some_iff.1 hs).1
          have : eIx x * row.length + row.length ≤ (eRows x).length * row.length := by
            rw [← Nat.succ_mul]; exact Nat.mul_le_mul_right _ h3
          rw [k8] at this
          rw [← k9]
          exact Nat.lt_of_lt_of_le (by omega) (Nat.le_max_right _ _)
  | cptr cells off =>
    obtain ⟨b, o, h1, h2, h3⟩ := hv
    refine ⟨b, o, h1, h2, fun j s hs => ?_⟩
    obtain ⟨u, k1, k2⟩ := h3 j s hs
    exact ⟨u, k1, seal_vd k2⟩
  | fn f caps =>
    obtain ⟨arr, h1, h2, h3⟩ := hv
    refine ⟨arr, h1, h2, fun j c hc => ?_⟩
    obtain ⟨u, hu, hcap⟩ := h3 j c hc
    refine ⟨u, hu, ?_⟩
    cases c with
    | d s => exact seal_vd hcap
    | ptr id off => exact hcap
    | cptr cells off =>
      obtain ⟨b, o, h1, h2, h3⟩ := hcap
      refine ⟨b, o, h1, h2, fun j s hs => ?_⟩
      obtain ⟨u, k1, k2⟩ := h3 j s hs
      exact ⟨u, k1, seal_vd k2⟩
theorem Rel.seal (hr : Rel P w g base σ a) (ts : List Tok) : Rel P w (sealG g ts) base (σ.seal ts) a := by
  have hk : Kept P base g (sealG g ts) w w (sealC ts) := kept_seal g ts w
  refine ⟨fun i => hr.envMap hk rfl i, fun id cs ds hl => hr.boxMap hk hl fun cs ds hq => ?_, fun b hb => ?_, hr.base_le, hr.defers, fun b hb => ?_⟩
  · obtain ⟨k1, k2, k3, kl, arr, E, k4, k5⟩ := hr.box id cs ds hq
    exact ⟨rfl, rfl, seal_box k2, rfl⟩
  · have := hr.fresh b hb
    exact ⟨by rw [seal_none this.2]; exact this.1, this.2⟩
  · have := hr.low b hb
    exact ⟨this.1, by rw [seal_none this.1]; exact this.2⟩

/-- a cell that is laid down or handed on -/
theorem toD_ok {ts : List Tok} {c : Ce} {s : S} {x : D} {v : Value} (hv : VC P w g base c x v) (hs : c.toS = some s) (ht : ∀ t xm e, c = .own t xm e → ts.contains t = true) : VD P w (sealG g ts).prot s (c.toD x) v := by
  cases c with
  | d s' =>
    simp only [Ce.toS, Option.some.injEq] at hs
    subst hs
    exact seal_vd hv
  | kb b =>
    simp only [Ce.toS, Option.some.injEq] at hs
    subst hs
    have hv : v = .bool b := hv
    subst hv
    exact VD.bool (.b b)
  | own t xm e =>
    simp only [Ce.toS, Option.some.injEq] at hs
    subst hs
    obtain ⟨row, hr, hv⟩ := hv
    refine own_vd hr hv (seal_le g ts) fun hne => ?_
    rcases hv with ⟨h0, _⟩ | ⟨cap, arr, E, h1, h2, h3, h4, h5, rest⟩
    · exact absurd h0 hne
    · rw [seal_at h5, ht t xm e rfl, if_pos rfl]
      exact Nat.le_max_right _ _
  | _ => cases hs
theorem allS_get : ∀ {cs : List Ce} {ss : List S}, allS cs = some ss → ss.length = cs.length ∧ ∀ (j : Nat) s, ss[j]? = some s → ∃ c, cs[j]? = some c ∧ c.toS = some s
  | [], ss, h => by
    simp only [allS, Option.some.injEq] at h
    subst h
    exact ⟨rfl, fun j s h => by simp at h⟩
  | c :: cs, ss, h => by
    unfold allS at h
    split at h
    · rename_i d ds h1 h2
      injection h with h
      subst h
      obtain ⟨k1, k2⟩ := allS_get h2
      refine ⟨by simp [k1], fun j s hj => ?_⟩
      cases j with
      | zero =>
        simp only [List.getElem?_cons_zero, Option.some.injEq] at hj
        subst hj
        exact ⟨c, rfl, h1⟩
      | succ j => exact k2 j s (by simpa using hj)
    · cases h
theorem toDs_get : ∀ (cs : List Ce) (ds : List D) (j : Nat) c, cs[j]? = some c → gd (toDs cs ds) j = c.toD (gd ds j)
  | [], ds, j, c, h => by simp at h
  | c0 :: cs, ds, 0, c, h => by
    simp only [List.getElem?_cons_zero, Option.some.injEq] at h
    subst h; rfl
  | c0 :: cs, ds, j + 1, c, h => by
    rw [toDs, gd_cons_succ, toDs_get cs ds.tail j c (by simpa using h), gd_tail]
theorem mem_toks : ∀ {cs : List Ce} {t : Tok} {xm : Bool} {e : TypeId}, Ce.own t xm e ∈ cs → t ∈ toks cs
  | [], _, _, _, h => by simp at h
  | c :: cs, t, xm, e, h => by
    rcases List.mem_cons.1 h with h | h
    · subst h; simp [toks]
    · have := mem_toks h
      cases c <;> simp [toks, this]
/-- cells that are laid down -/
theorem row_ok {ts : List Tok} {cs : List Ce} {ds : List D} {ss : List S} {arr : Array Value} (hv : VCs P w g base cs ds arr) (hs : allS cs = some ss) (ht : ∀ t ∈ toks cs, ts.contains t = true) :
    arr.size = ss.length ∧ ∀ (j : Nat) s, ss[j]? = some s → ∃ u, arr[j]? = some u ∧ VD P w (sealG g ts).prot s (gd (toDs cs ds) j) u := by
  obtain ⟨h1, h2⟩ := allS_get hs
  refine ⟨by rw [hv.1, h1], fun j s hj => ?_⟩
  obtain ⟨c, hc, hcs⟩ := h2 j s hj
  obtain ⟨u, hu, hvc⟩ := hv.2 j c hc
  refine ⟨u, hu, ?_⟩
  rw [toDs_get cs ds j c hc]
  exact toD_ok hvc hcs fun t xm e he => ht t (mem_toks (he ▸ List.mem_of_getElem? hc))

theorem litRows_ok (hr : Rel P w g base σ a) {row : List S} {ts : List Tok} : ∀ {parts : List (Nat × Operand)} {k : Nat} {rows : List (List D)} {ts' : List Tok}, litRows σ row parts k = some (rows, ts') → (∀ t ∈ ts', ts.contains t = true) →
    ∃ vs : List Value, parts.map (fun p => (p.1, a.eval p.2)) = (vs.zipIdx k).map (fun x => (x.2, x.1)) ∧ vs.length = parts.length ∧ rows.length = parts.length ∧ (∀ v ∈ vs, v.cells.size = row.length) ∧
      ∀ (i : Nat) v (j : Nat) s, vs[i]? = some v → row[j]? = some s → ∃ u, v.cells[j]? = some u ∧ VD P w (sealG g ts).prot s (gd (rows.getD i []) j) u
  | [], k, rows, ts', h, _ => by
    simp only [litRows, Option.some.injEq, Prod.mk.injEq] at h
    obtain ⟨rfl, rfl⟩ := h
    exact ⟨[], rfl, rfl, rfl, fun v hv => by simp at hv, fun i v j s hi => by simp at hi⟩
  | (i, x) :: r, k, rows, ts', h, ht => by
    unfold litRows at h
    cases hik : (i == k) with
    | false => rw [hik] at h; cases h
    | true =>
      rw [hik, cond_true] at h
      have hik : i = k := by simpa using hik
      subst hik
      split at h
      · rename_i cs ds rows0 ts0 h1 h2
        cases hss : (allS cs == some row) with
        | false => rw [hss] at h; cases h
        | true =>
          rw [hss] at h
          have hss : allS cs = some row := by simpa using hss
          simp only [cond_true, Option.some.injEq, Prod.mk.injEq] at h
          obtain ⟨rfl, rfl⟩ := h
          obtain ⟨vs, k1, k2, k3, k4, k5⟩ := litRows_ok hr h2 (fun t hh => ht t (List.mem_append.2 (.inr hh)))
          obtain ⟨hcs, _⟩ := cells_ok h1 (opd_ok hr x)
          obtain ⟨m1, m2⟩ := row_ok hcs hss (fun t hh => ht t (List.mem_append.2 (.inl hh)))
          refine ⟨a.eval x :: vs, by simp [k1], by simp [k2], by simp [k3], fun v hv => ?_, fun i v j s hi hs => ?_⟩
          · rcases List.mem_cons.1 hv with rfl | hv
            · exact m1
            · exact k4 v hv
          · cases i with
            | zero =>
              simp only [List.getElem?_cons_zero, Option.some.injEq] at hi
              subst hi
              exact m2 j s hs
            | succ i => exact k5 i v j s (by simpa using hi) hs
      · cases h

theorem VD.ext {d : Option Nat} (h : Ext d g g' w w') {s : S} {x : D} {v : Value} (hv : VD P w g.prot s x v) : VD P w' g'.prot s x v := h.vd hv

/-- a new row that the call owns -/
theorem newRow_own {w : World} (hr : Rel P w g base σ a) {d : Nat} {e : TypeId} {row : List S} {rows : List (List D)} {arr : Array Value} (hrow : rowOf P e = some row) (hsz : arr.size = rows.length * row.length)
    (hle : rows.length ≤ 9223372036854775807) (hv : ∀ (i j : Nat) s, i < rows.length → row[j]? = some s → ∃ u, arr[i * row.length + j]? = some u ∧ VD P w g.prot s (gd (rows.getD i []) j) u) :
    Rel P (w.alloc (.cells arr e)) (newRowG g (d, 0) e w.heap.size rows.length row.length 0) base (σ.wipe d) a ∧
    VT P (w.alloc (.cells arr e)) (newRowG g (d, 0) e w.heap.size rows.length row.length 0) base (.c (.own (d, 0) true e) (.l rows)) (.slice (some ⟨w.heap.size, 0, none⟩) rows.length rows.length) := by
  have hE := ext_row (g := g) (w := w) (d, 0) e rows.length row.length 0 (.cells arr e)
  refine ⟨hr.wipeRow hE rfl (fresh_row hr _ _ _ _ _ _), row, hrow, ?_⟩
  have e1 : (newRowG g (d, 0) e w.heap.size rows.length row.length 0).ρ (d, 0) = w.heap.size := if_pos rfl
  have e2 : (newRowG g (d, 0) e w.heap.size rows.length row.length 0).len (d, 0) = rows.length := if_pos rfl
  have e3 : (newRowG g (d, 0) e w.heap.size rows.length row.length 0).wid (d, 0) = row.length := if_pos rfl
  have e4 : (newRowG g (d, 0) e w.heap.size rows.length row.length 0).prot w.heap.size = 0 := if_pos rfl
  have e5 : (newRowG g (d, 0) e w.heap.size rows.length row.length 0).owner w.heap.size = some (.inr (d, 0)) := if_pos rfl
  have e6 : (newRowG g (d, 0) e w.heap.size rows.length row.length 0).ety (d, 0) = e := if_pos rfl
  refine .inr ⟨rows.length, arr, e, by rw [e1]; rfl, Nat.le_refl _, ⟨hle, rfl, e6.symm⟩, by rw [e1]; exact hr.base_le, by rw [e1]; exact e5, by rw [e1]; exact heap_new w _, hsz, e2.symm, e3.symm, by rw [e1]; exact e4, fun i j s hi hs => ?_⟩
  obtain ⟨u, k1, k2⟩ := hv i j s hi hs
  exact ⟨u, k1, hE.vd k2⟩

theorem evBuildSlice_ok (hr : Rel P w g base σ a) {o : Oper} {σ' : St} {d n : Nat} {t : TypeId} {parts : Array (Nat × Operand)} (ho : o.op = .buildSlice t n parts) (hdst : o.dst = some d) (hd : ∀ d, o.dst = some d → d < a.tmps.size)
    (h : evBuildSlice P σ d t n parts.toList = some (σ', true)) : Does P base σ' o a w := by
  unfold evBuildSlice at h
  split at h
  · rename_i e he
    split at h
    · rename_i row hrow
      cases hc : (parts.toList.length == n && decide (n * row.length ≤ 16777216) && zeroOk P e row) with
      | false => rw [hc] at h; cases h
      | true =>
        rw [hc, cond_true] at h
        simp only [Bool.and_eq_true, beq_iff_eq, decide_eq_true_eq] at hc
        obtain ⟨⟨hn, hsmall⟩, hz⟩ := hc
        split at h
        · rename_i rows ts hlit
          simp only [Option.some.injEq, Prod.mk.injEq, and_true] at h
          subst h
          obtain ⟨vs, k1, k2, k3, k4, k5⟩ := litRows_ok (ts := ts) hr hlit (fun t ht => List.contains_iff_mem.2 ht)
          obtain ⟨ti, v0, hi, hv0, hm⟩ := zeroOk_ok hz
          have hpos := rowOf_pos hrow
          have hsz := rowOf_size hrow
          have hti : ti.size = row.length := by
            have := hsz
            unfold tSize at this
            rw [hi] at this
            injection this
          let arr : Array Value := (vs.flatMap fun v => v.cells.toList).toArray
          have harr : arr.size = rows.length * row.length := by
            have : ∀ l : List Value, (∀ v ∈ l, v.cells.size = row.length) → (l.flatMap fun v => v.cells.toList).length = l.length * row.length := by
              intro l hl
              induction l with
              | nil => simp
              | cons x l ih =>
                rw [List.flatMap_cons, List.length_append, ih (fun v hv => hl v (by simp [hv])), List.length_cons, Nat.succ_mul]
                have := hl x (by simp)
                simp [this]; omega
            show (vs.flatMap fun v => v.cells.toList).toArray.size = _
            rw [List.size_toArray, this vs k4, k2, k3]
          have hcell : ∀ (i j : Nat) s, i < rows.length → row[j]? = some s → ∃ u, arr[i * row.length + j]? = some u ∧ VD P w (sealG g ts).prot s (gd (rows.getD i []) j) u := by
            intro i j s hi hs
            have hj := (List.getElem?_eq_some_iff.1 hs).1
            have hvi : vs[i]? = some (vs[i]'(by omega)) := List.getElem?_eq_getElem (by omega)
            obtain ⟨u, h1, h2⟩ := k5 i _ j s hvi hs
            refine ⟨u, ?_, h2⟩
            show (vs.flatMap fun v => v.cells.toList).toArray[i * row.length + j]? = _
            rw [List.getElem?_toArray, Great.flat_get hpos vs k4]
            have q1 : (i * row.length + j) / row.length = i := by
              rw [Nat.mul_comm, Nat.mul_add_div hpos, Nat.div_eq_of_lt hj, Nat.add_zero]
            have q2 : (i * row.length + j) % row.length = j := by
              rw [Nat.mul_comm, Nat.mul_add_mod, Nat.mod_eq_of_lt hj]
            rw [q1, q2, hvi]
            exact h1
          have hrs := hr.seal ts
          obtain ⟨r1, r2⟩ := newRow_own (d := d) hrs hrow harr (by have : rows.length * 1 ≤ rows.length * row.length := Nat.mul_le_mul_left _ hpos; rw [k3, hn] at this; rw [k3, hn]; omega) hcell
          have hlen : rows.length = n := by rw [k3]; exact hn
          rw [hlen] at r1 r2
          have hfill : Instr.fill (fun i => some (i * row.length, row.length)) ((Array.range (n * row.length)).map ((if n * row.length = 0 then #[] else v0.cells)[· % (if n * row.length = 0 then #[] else v0.cells).size]!)) (parts.map fun p => (p.1, a.eval p.2)).toList = some arr := by
            rw [Array.toList_map, k1]
            exact Great.fill_whole hpos vs _ k4 (by rw [k2, ← hn]; simp)
          refine ⟨.slice (some ⟨w.heap.size, 0, none⟩) n n, _, _, .inl ?_, r1.put hd (t := .c (.own (d, 0) true e) (.l rows)) r2 |> fun h => by rw [hdst] at h ⊢; exact h, (Below.refl _ _).alloc hr.base_le _⟩
          simp only [execOp, ho, Instr.buildSlice, Sem.run_bind, run_underlying (tElem_und he), run_size hsz, Result.andThen_ok]
          rw [if_neg (by omega)]
          by_cases h0 : n * row.length = 0
          · rw [if_pos h0] at hfill ⊢
            simp only [Sem.run_bind, Sem.run_pure, Result.andThen_ok]
            simp only [h0, if_true] at hfill
            rw [show n * row.length = 0 from h0] at *
            rw [hfill]
            simp only [Sem.run_bind, run_newRow, Result.andThen_ok, Sem.run_pure]
          · simp only [if_neg h0] at hfill ⊢
            simp only [Sem.run_bind, run_zero hi hv0, Sem.run_pure, Result.andThen_ok]
            rw [hfill]
            simp only [Sem.run_bind, run_newRow, Result.andThen_ok, Sem.run_pure]
        · cases h
    · cases h
  · cases h
end
end Go.Proofs.Ytdejncnjaebjfaa
