/-
  The evaluator is right: stores and append.
-/
import Derived.Test.YtdejncnjaebjfaaSnd5
namespace Go.Proofs.Ytdejncnjaebjfaa
open Go.RowKit
set_option linter.unusedVariables false
set_option linter.unusedSectionVars false

section
variable [Low] {P : Program} {w w' : World} {g g' : G} {base : Nat} {σ : St} {a : Act}

theorem Sh1.map_id' (s : Sh1) : s.map (fun c => c) = s := by
  cases s <;> simp [Sh1.map]
theorem Sh.map_id' (s : Sh) : s.map (fun c => c) = s := by
  cases s with
  | one x => simp [Sh.map, Sh1.map_id']
  | tup xs =>
    simp only [Sh.map]
    congr 1
    induction xs with
    | nil => rfl
    | cons x xs ih => simp only [List.map_cons, Sh1.map_id', ih]
theorem Kept.vt' (h : Kept P base g g' w w' (fun c => c)) {t : T} {v : Value} (hv : VT P w g base t v) : VT P w' g' base t v := by
  have := h.vt hv
  rwa [Sh.map_id'] at this
theorem Kept.vcs' (h : Kept P base g g' w w' (fun c => c)) {cs : List Ce} {p : List D} {arr : Array Value} (hv : VCs P w g base cs p arr) : VCs P w' g' base cs p arr := by
  have := h.vcs hv
  rwa [List.map_id'] at this

theorem own_ne_nil {t : Tok} {xm : Bool} {e : TypeId} {row : List S} {rows : List (List D)} {v : Value} (h : OwnV P w g base t xm e row rows v) (hne : 0 < g.len t) : rows ≠ [] := by
  rcases h with ⟨_, h, _⟩ | ⟨cap, arr, E, h1, h2, h3, h4, h5, h6, h7, h8, _⟩
  · omega
  · intro e; rw [e] at h8; simp at h8; omega

/-- only block nb, in which nothing is protected and which is no row, has turned -/
theorem kept_block {nb : Nat} (hb : ∀ b, b ≠ nb → w'.heap[b]? = w.heap[b]?) (hp : g.prot nb = 0) (ho : ∀ t, g.owner nb ≠ some (.inr t)) (hbase : base ≤ nb) : Kept P base g g w w' (fun c => c) := by
  have hvd : ∀ {s : S} {x : D} {v : Value}, VD P w g.prot s x v → VD P w' g.prot s x v := fun h =>
    h.mono fun b o u h1 h2 => ⟨(cell_of_heap (hb b (by rintro rfl; omega)) o).trans h2, h1⟩
  have hown : ∀ {t : Tok} {xm : Bool} {e : TypeId} {row : List S} {rows : List (List D)} {v : Value}, OwnV P w g base t xm e row rows v → OwnV P w' g base t xm e row rows v := by
    intro t xm e row rows v h
    rcases h with h | ⟨cap, arr, E, h1, h2, h3, h4, h5, h6, h7, h8, h9, h10, h11⟩
    · exact .inl h
    · refine .inr ⟨cap, arr, E, h1, h2, h3, h4, h5, by rw [hb _ (by intro e; rw [e] at h5; exact ho t h5)]; exact h6, h7, h8, h9, h10, fun i j s hi hs => ?_⟩
      obtain ⟨u, k1, k2⟩ := h11 i j s hi hs
      exact ⟨u, k1, hvd k2⟩
  have hcptr : ∀ {cells : List S} {off : Nat} {x : D} {v : Value}, CptrV P w g base cells off x v → CptrV P w' g base cells off x v := by
    rintro cells off x v ⟨b, o, h1, h2, h3⟩
    refine ⟨b, o, h1, h2, fun j s hs => ?_⟩
    obtain ⟨u, k1, k2⟩ := h3 j s hs
    exact ⟨u, (cell_of_heap (hb b (by omega)) _).trans k1, hvd k2⟩
  intro c x v hv
  cases c with
  | any => trivial
  | d s => exact hvd hv
  | kb b => exact hv
  | own t xm e => obtain ⟨row, hr, hv⟩ := hv; exact ⟨row, hr, hown hv⟩
  | ptr id off => exact hv
  | eptr tk e off =>
    cases tk with
    | none =>
      obtain ⟨row, b, o, h1, h2, h3, h4⟩ := hv
      refine ⟨row, b, o, h1, h2, h3, fun j s hs => ?_⟩
      obtain ⟨u, k1, k2, k3⟩ := h4 j s hs
      exact ⟨u, (cell_of_heap (hb b (by rintro rfl; omega)) _).trans k1, k2, hvd k3⟩
    | some t => obtain ⟨row, h1, h2, h3, u, h4⟩ := hv; exact ⟨row, h1, h2, h3, u, hown h4⟩
  | cptr cells off => exact hcptr hv
  | fn f caps =>
    obtain ⟨arr, h1, h2, h3⟩ := hv
    refine ⟨arr, h1, h2, fun j c hc => ?_⟩
    obtain ⟨u, hu, hcap⟩ := h3 j c hc
    refine ⟨u, hu, ?_⟩
    cases c with
    | d s => exact hvd hcap
    | ptr id off => exact hcap
    | cptr cells off => exact hcptr hcap

theorem oneCell_of_flat {v : Value} (h : flatV v = true) : v.oneCell' = true := by
  cases v <;> simp_all [flatV, Value.oneCell']
theorem vcs_oneCell {cs : List Ce} {ds : List D} {arr : Array Value} (h : VCs P w g base cs ds arr) (hn : ∀ c ∈ cs, c ≠ .any) : ∀ v ∈ arr.toList, v.oneCell' = true := by
  intro v hv
  obtain ⟨j, hj⟩ := List.getElem?_of_mem hv
  have hjl : j < cs.length := by rw [← h.1]; simpa using (List.getElem?_eq_some_iff.1 hj).1
  obtain ⟨u, h1, h2⟩ := h.2 j _ (List.getElem?_eq_getElem hjl)
  have : v = u := by
    have h3 : arr[j]? = some v := by simpa using hj
    rw [h1] at h3; injection h3 with h3; exact h3.symm
  subst this
  exact oneCell_of_flat (h2.flat (hn _ (List.getElem_mem hjl)))

/-- the row that a store leaves -/
def over (arr : Array Value) (o : Nat) (vs : List Value) : Array Value := (arr.toList.take o ++ vs ++ arr.toList.drop (o + vs.length)).toArray
theorem over_get (arr : Array Value) (o : Nat) (vs : List Value) (h : o + vs.length ≤ arr.size) (k : Nat) : (over arr o vs)[k]? = if o ≤ k ∧ k < o + vs.length then vs[k - o]? else arr[k]? := by
  unfold over
  rw [List.getElem?_toArray]
  have hl : (arr.toList.take o).length = o := by simp; omega
  by_cases h1 : k < o
  · rw [if_neg (by omega), List.append_assoc, List.getElem?_append_left (by omega), List.getElem?_take, if_pos h1]; simp
  · by_cases h2 : k < o + vs.length
    · rw [if_pos ⟨by omega, h2⟩, List.append_assoc, List.getElem?_append_right (by omega), hl, List.getElem?_append_left (by omega)]
    · rw [if_neg (by omega), List.getElem?_append_right (by simp; omega)]
      simp only [List.length_append, hl, List.getElem?_drop]
      rw [show o + vs.length + (k - (o + vs.length)) = k from by omega]
      simp
theorem over_size (arr : Array Value) (o : Nat) (vs : List Value) (h : o + vs.length ≤ arr.size) : (over arr o vs).size = arr.size := by
  unfold over
  simp only [List.size_toArray, List.length_append, List.length_take, List.length_drop, Array.length_toList]
  omega

theorem run_storeAt {t n b o : Nat} {u : Value} {arr : Array Value} {E : TypeId} (hn : tSize P t = some n) (hu : u.cells.size = n) (hh : w.heap[b]? = some (.cells arr E (0, 0))) (hle : o + n ≤ arr.size) (h1 : ∀ v ∈ u.cells.toList, v.oneCell' = true) :
    (Instr.storeAt t (.pointer (some ⟨b, o, none⟩)) u).run P w = .ok () (w.setRow b (over arr o u.cells.toList)) := by
  simp only [Instr.storeAt, Instr.sureAddr, storeVar, Sem.run_bind, Sem.run_pure, Result.andThen_ok, run_size hn]
  rw [if_neg (by simp [hu])]
  have := run_storeCells_at P b o E u.cells.toList 0 arr w hh (by simp [hu]; omega) h1
  simp only [Nat.add_zero] at this
  exact this

/-- a store: only the block that is named is turned -/
def DoesS (P : Program) (base : Nat) (σ' : St) (o : Oper) (p : Operand) (a : Act) (w : World) : Prop :=
  ∃ z w' g', ((execOp a.eval o).run P w = .ok (.value z) w' ∨ ((execOp a.eval o).run P w = .ok .skip w' ∧ z = undef)) ∧ Rel P w' g' base σ' (a.put o.dst z) ∧ Below base w w' ∧
    ∀ B, (∀ b o, a.eval p = .pointer (some ⟨b, o, none⟩) → B ≤ b) → Below B w w'
theorem DoesS.does {o : Oper} {σ' : St} {p : Operand} (h : DoesS P base σ' o p a w) : Does P base σ' o a w := by
  obtain ⟨z, w', g', h1, h2, h3, _⟩ := h
  exact ⟨z, w', g', h1, h2, h3⟩
theorem evStore_ptr (hr : Rel P w g base σ a) {o : Oper} {t n id off : Nat} {x p : Operand} {cs cs' : List Ce} {ds ds' : List D} {pp : List D} (ho : o.op = .store t p x) (hd : ∀ d, o.dst = some d → d < a.tmps.size) (hn : tSize P t = some n)
    (hc : (opd σ x).cells = some (cs, ds)) (hl : cs.length = n) (hp : (opd σ p) = ⟨.one (.c (.ptr id off)), pp⟩) (hb : hlook id σ.h = some (cs', ds')) (hle : off + n ≤ cs'.length) :
    DoesS P base (St.put ⟨σ.r, σ.e, hput id (setSub cs' off cs, setSub ds' off ds) σ.h⟩ o.dst .none_) o p a w := by
  have hpv := opd_ok hr p
  rw [hp] at hpv
  have hpv : a.eval p = .pointer (some ⟨g.θ id, off, none⟩) := hpv
  obtain ⟨hx, hany⟩ := cells_ok hc (opd_ok hr x)
  obtain ⟨k1, k2, k3, kl, arr, E, k4, k5⟩ := hr.box id cs' ds' hb
  have hlen : (a.eval x).cells.toList.length = n := by simp [hx.1, hl]
  have hfit : off + (a.eval x).cells.toList.length ≤ arr.size := by rw [hlen, k5.1]; exact hle
  have hrun := run_storeAt (P := P) (w := w) (b := g.θ id) (o := off) hn (by rw [hx.1, hl]) k4 (by rw [k5.1]; exact hle) (vcs_oneCell hx hany)
  have hoth : ∀ b, b ≠ g.θ id → (w.setRow (g.θ id) (over arr off (a.eval x).cells.toList)).heap[b]? = w.heap[b]? := fun b hb => setRow_other w (g.θ id) b _ hb
  have hk : Kept P base g g w (w.setRow (g.θ id) (over arr off (a.eval x).cells.toList)) (fun c => c) := kept_block hoth k3 (by intro t e; rw [k2] at e; cases e) k1
  have hsz : (w.setRow (g.θ id) (over arr off (a.eval x).cells.toList)).heap.size = w.heap.size := by simp [World.setRow]
  have hrel : Rel P (w.setRow (g.θ id) (over arr off (a.eval x).cells.toList)) g base ⟨σ.r, σ.e, hput id (setSub cs' off cs, setSub ds' off ds) σ.h⟩ a := by
    refine ⟨fun i => hk.vt' (hr.env i), fun id' cs1 ds1 h1 => ?_, by rw [hsz]; exact hr.fresh, by rw [hsz]; exact hr.base_le, hr.defers, hr.low⟩
    rw [hlook_hput] at h1
    by_cases e : id' = id
    · subst e
      rw [if_pos rfl] at h1
      injection h1 with h1
      injection h1 with e1 e2
      subst e1; subst e2
      refine ⟨k1, k2, k3, by rw [setSub_length, setSub_length]; exact kl, _, E, setRow_heap w _ arr _ E _ k4, ?_⟩
      exact vcs_setSub (hk.vcs' k5) (hk.vcs' hx) (by rw [hl]; exact hle) kl (cells_length hc) (over_size _ _ _ hfit) (fun k hk' => by
        rw [over_get _ _ _ hfit]
        simp)
    · rw [if_neg e] at h1
      obtain ⟨j1, j2, j3, jl, arr', E', j4, j5⟩ := hr.box id' cs1 ds1 h1
      refine ⟨j1, j2, j3, jl, arr', E', by rw [hoth _ (by intro e'; rw [e'] at j2; rw [k2] at j2; injection j2 with j2; injection j2 with j2; exact e j2.symm)]; exact j4, hk.vcs' j5⟩
  refine ⟨undef, _, g, .inr ⟨?_, rfl⟩, hrel.put hd (t := .none_) ⟨#[], rfl, rfl, fun j x h => by simp at h⟩, ⟨rfl, rfl, rfl, by rw [hsz]; exact Nat.le_refl _, fun k hk' => hoth k (by omega)⟩, fun B hB => ⟨rfl, rfl, rfl, by rw [hsz]; exact Nat.le_refl _, fun k hk' => hoth k (by have := hB _ _ hpv; omega)⟩⟩
  simp only [execOp, ho, hpv, Sem.run_bind, hrun, Result.andThen_ok, Sem.run_pure]

/-! ### append -/
/-- rows of token t are forgotten but for what is protected of them -/
theorem kept_drop {t : Tok} (hcell : ∀ b o u, o < g.prot b → w.cell? ⟨b, o, none⟩ = some u → w'.cell? ⟨b, o, none⟩ = some u ∧ o < g'.prot b)
    (hblk : ∀ b t', t' ≠ t → g.owner b = some (.inr t') → b < w.heap.size → w'.heap[b]? = w.heap[b]? ∧ g'.owner b = g.owner b ∧ g'.prot b = g.prot b)
    (htok : ∀ t', t' ≠ t → g'.ρ t' = g.ρ t' ∧ g'.len t' = g.len t' ∧ g'.wid t' = g.wid t' ∧ g'.ety t' = g.ety t') (hθ : g'.θ = g.θ) (hlow : ∀ b, b < base → w'.heap[b]? = w.heap[b]?) : Kept P base g g' w w' (dropC t) := by
  have hvd : ∀ {s : S} {x : D} {v : Value}, VD P w g.prot s x v → VD P w' g'.prot s x v := fun h => h.mono hcell
  have hown : ∀ {t' : Tok} {xm : Bool} {e : TypeId} {row : List S} {rows : List (List D)} {v : Value}, t' ≠ t → OwnV P w g base t' xm e row rows v → OwnV P w' g' base t' xm e row rows v := by
    intro t' xm e row rows v ht h
    obtain ⟨e1, e2, e3, e4⟩ := htok t' ht
    rcases h with ⟨h0, h1, h2⟩ | ⟨cap, arr, E, h1, h2, h3, h4, h5, h6, h7, h8, h9, h10, h11⟩
    · exact .inl ⟨h0, by rw [e2]; exact h1, h2⟩
    · obtain ⟨q1, q2, q3⟩ := hblk _ t' ht h5 (lt_of_heap h6)
      refine .inr ⟨cap, arr, E, by rw [e1]; exact h1, h2, by rw [e4]; exact h3, by rw [e1]; exact h4, by rw [e1, q2]; exact h5, by rw [e1, q1]; exact h6, h7, by rw [e2]; exact h8, by rw [e3]; exact h9, by rw [e1, e2, e3, q3]; exact h10, fun i j s hi hs => ?_⟩
      obtain ⟨u, k1, k2⟩ := h11 i j s hi hs
      exact ⟨u, k1, hvd k2⟩
  have hcptr : ∀ {cells : List S} {off : Nat} {x : D} {v : Value}, CptrV P w g base cells off x v → CptrV P w' g' base cells off x v := by
    rintro cells off x v ⟨b, o, h1, h2, h3⟩
    refine ⟨b, o, h1, h2, fun j s hs => ?_⟩
    obtain ⟨u, k1, k2⟩ := h3 j s hs
    exact ⟨u, (cell_of_heap (hlow b h2) _).trans k1, hvd k2⟩
  intro c x v hv
  cases c with
  | any => trivial
  | d s => exact hvd hv
  | kb b => exact hv
  | own t' xm e =>
    obtain ⟨row, hr, hv⟩ := hv
    change VC P w' g' base (bif t' == t then (bif xm then .any else .d (.sl e)) else .own t' xm e) x v
    by_cases ht : t' = t
    · rw [show (t' == t) = true from by simpa using ht, cond_true]
      cases xm with
      | true => trivial
      | false => exact hvd (own_vd' hr hv)
    · rw [show (t' == t) = false from by simpa using ht, cond_false]
      exact ⟨row, hr, hown ht hv⟩
  | ptr id off => show v = _; rw [hθ]; exact hv
  | eptr tk e off =>
    cases tk with
    | none =>
      obtain ⟨row, b, o, h1, h2, h3, h4⟩ := hv
      refine ⟨row, b, o, h1, h2, h3, fun j s hs => ?_⟩
      obtain ⟨u, k1, k2, k3⟩ := h4 j s hs
      obtain ⟨q1, q2⟩ := hcell b _ u k2 k1
      exact ⟨u, q1, q2, hvd k3⟩
    | some t' =>
      change VC P w' g' base (bif t' == t then .any else .eptr (some t') e off) x v
      by_cases ht : t' = t
      · rw [show (t' == t) = true from by simpa using ht]; trivial
      · rw [show (t' == t) = false from by simpa using ht, cond_false]
        obtain ⟨row, h1, h2, h3, u, h4⟩ := hv
        exact ⟨row, h1, by rw [(htok t' ht).1]; exact h2, h3, u, hown ht h4⟩
  | cptr cells off => exact hcptr hv
  | fn f caps =>
    obtain ⟨arr, h1, h2, h3⟩ := hv
    refine ⟨arr, h1, h2, fun j c hc => ?_⟩
    obtain ⟨u, hu, hcap⟩ := h3 j c hc
    refine ⟨u, hu, ?_⟩
    cases c with
    | d s => exact hvd hcap
    | ptr id off => show u = _; rw [hθ]; exact hcap
    | cptr cells off => exact hcptr hcap

theorem Rel.drop (hr : Rel P w g base σ a) {t : Tok} (hk : Kept P base g g' w w' (dropC t)) (hθ : g'.θ = g.θ)
    (hbox : ∀ b id, g.owner b = some (.inl id) → b < w.heap.size → w'.heap[b]? = w.heap[b]? ∧ g'.owner b = g.owner b ∧ g'.prot b = g.prot b)
    (hf : ∀ b, w'.heap.size ≤ b → g'.prot b = 0 ∧ g'.owner b = none) (hsz : w.heap.size ≤ w'.heap.size) (hlow : ∀ b, b < base → g'.owner b = g.owner b ∧ g'.prot b = g.prot b) : Rel P w' g' base (σ.map (dropC t)) a := by
  refine ⟨fun i => hr.envMap hk rfl i, fun id cs ds hl => hr.boxMap hk hl fun cs ds hq => ?_, hf, Nat.le_trans hr.base_le hsz, hr.defers, fun b hb => by rw [(hlow b hb).1, (hlow b hb).2]; exact hr.low b hb⟩
  obtain ⟨k1, k2, k3, kl, arr, E, k4, k5⟩ := hr.box id cs ds hq
  obtain ⟨q1, q2, q3⟩ := hbox _ id k2 (lt_of_heap k4)
  exact ⟨by rw [hθ], q2, q3, q1⟩
end
end Go.Proofs.Ytdejncnjaebjfaa
