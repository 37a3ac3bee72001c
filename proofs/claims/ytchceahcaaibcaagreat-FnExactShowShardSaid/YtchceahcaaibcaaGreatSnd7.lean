/-
  The evaluator is right: append.
-/
import Derived.Test.YtchceahcaaibcaaGreatSnd6
namespace Go.Proofs.YtchceahcaaibcaaGreat
set_option linter.unusedSimpArgs false
open Go.RowKit
set_option linter.unusedVariables false
set_option linter.unusedSectionVars false

section
variable [Low] {P : Program} {w w' : World} {g g' : G} {base : Nat} {σ : St} {a : Act}

theorem slice_cells {x : T} {tk : Option Tok} {e : TypeId} {rows : List (List D)} {v : Value} (h : x.slice = some (tk, e, rows)) (hx : VT P w g base x v) :
    ∃ A c row, v = .slice A rows.length c ∧ rowOf P e = some row ∧ ∀ (i j : Nat) s, i < rows.length → row[j]? = some s → ∃ b o z, A = some ⟨b, o, none⟩ ∧ w.cell? ⟨b, o + (i * row.length + j), none⟩ = some z ∧ VD P w g.prot s (gd (rows.getD i []) j) z := by
  obtain ⟨A, c, rfl, h1, h2, row, hr, hv⟩ := slice_ok h hx
  refine ⟨A, c, row, rfl, hr, fun i j s hi hs => ?_⟩
  cases tk with
  | none =>
    obtain ⟨b, o, z, k1, k2, _, k4⟩ := hv i j s hi hs
    exact ⟨b, o, z, k1, k2, k4⟩
  | some t =>
    rcases hv with ⟨h0, _⟩ | ⟨cap, arr, E, k1, k2, k3, k4, k5, k6, k7, k8, k9, k10, k11⟩
    · rw [h0] at hi; simp at hi
    · injection k1 with k1 _ _
      obtain ⟨z, j1, j2⟩ := k11 i j s hi hs
      refine ⟨_, _, z, k1, ?_, j2⟩
      simp only [World.cell?, k6, Nat.zero_add]
      exact j1

theorem run_append_zero {tt e n : Nat} {A A' : Option Addr} {sLen cap c : Nat} (ht : P.underlying tt = some (.slice e)) (hn : tSize P e = some n) (hle : sLen ≤ cap) (ty : TypeId) :
    (Builtin.append_ #[tt, tt] ty #[.slice A sLen cap, .slice A' 0 c]).run P w = .ok (.slice A sLen cap) w := by
  have hf : (Builtin.firstCells n 0 (.slice A' 0 c)).run P w = .ok #[] w := by
    cases A' with
    | none => simp [Builtin.firstCells]
    | some x => simp [Builtin.firstCells, loadCells, loadCellsFrom]
  unfold Builtin.append_
  simp only [List.getElem?_toArray, List.getElem?_cons_zero, List.getElem?_cons_succ, Sem.run_bind, run_underlying ht, Result.andThen_ok, run_size hn, Sem.run_pure, Builtin.lenOf, Nat.add_zero]
  simp only [Bool.false_eq_true, if_false, Sem.run_bind, Sem.run_pure, Result.andThen_ok, Builtin.lenOf, Nat.add_zero, if_pos hle, Bool.not_false, if_true, hf]
  cases A with
  | none => simp
  | some x => simp [storeCells]

theorem append_ok (hr : Rel P w g base σ a) {tt e : TypeId} {row : List S} (ht : tElem P tt = some e) (hrow : rowOf P e = some row) (hz : zeroOk P e row = true) (hby : bytesOk P e = true) {t : Tok} {b : Bool} {rows rows' : List (List D)} {u v : Value}
    (hx : OwnV P w g base t b e row rows u) (hy : ∃ A c, v = .slice A rows'.length c ∧ ∀ (i j : Nat) s, i < rows'.length → row[j]? = some s → ∃ b o z, A = some ⟨b, o, none⟩ ∧ w.cell? ⟨b, o + (i * row.length + j), none⟩ = some z ∧ VD P w g.prot s (gd (rows'.getD i []) j) z)
    (hlen : (rows ++ rows').length ≤ 4294967296) (ty : TypeId) :
    ∃ v' w' g', (Builtin.append_ #[tt, tt] ty #[u, v]).run P w = .ok v' w' ∧ Rel P w' g' base (σ.map (dropC t)) a ∧ OwnV P w' g' base t b e row (rows ++ rows') v' ∧ Below base w w' := by
  obtain ⟨A, c, rfl, hy⟩ := hy
  have hsz := rowOf_size hrow
  have hpos := rowOf_pos hrow
  have hu := tElem_und ht
  rw [List.length_append] at hlen
  by_cases hm : rows'.length = 0
  · have hnil : rows' = [] := List.eq_nil_of_length_eq_zero hm
    subst hnil
    have hk : Kept P base g g w w (dropC t) := kept_drop (fun b o u h1 h2 => ⟨h2, h1⟩) (fun b t' _ _ _ => ⟨rfl, rfl, rfl⟩) (fun _ _ => ⟨rfl, rfl, rfl, rfl⟩) rfl (fun _ _ => rfl)
    have hrel : Rel P w g base (σ.map (dropC t)) a := hr.drop hk rfl (fun _ _ _ _ => ⟨rfl, rfl, rfl⟩) hr.fresh (Nat.le_refl _) (fun _ _ => ⟨rfl, rfl⟩)
    rw [List.append_nil]
    rcases hx with ⟨h0, h1, A0, rfl⟩ | ⟨cap, arr, E, rfl, h2, rest⟩
    · exact ⟨_, w, g, run_append_zero hu hsz (Nat.le_refl _) ty, hrel, .inl ⟨h0, h1, A0, rfl⟩, Below.refl _ _⟩
    · exact ⟨_, w, g, run_append_zero hu hsz h2 ty, hrel, .inr ⟨cap, arr, E, rfl, h2, rest⟩, Below.refl _ _⟩
  · obtain ⟨ti, v0, hi, hv0, hmz⟩ := zeroOk_ok hz
    obtain ⟨ti', hi', hb⟩ := bytesOk_ok hby
    rw [hi] at hi'; injection hi' with hi'; subst hi'
    have hti : ti.size = row.length := by
      have := hsz
      unfold tSize at this
      rw [hi] at this
      injection this
    obtain ⟨hz1, _⟩ := zero_get hmz
    have hz1 : v0.cells.size = row.length := by simpa using hz1
    obtain ⟨b0, o0, _, hA, _⟩ := hy 0 0 _ (by omega) (List.getElem?_eq_getElem hpos)
    subst hA
    have hsrc : ∀ (i j : Nat) s, i < rows'.length → row[j]? = some s → ∃ z, w.cell? ⟨b0, o0 + (i * row.length + j), none⟩ = some z ∧ VD P w g.prot s (gd (rows'.getD i []) j) z := fun i j s h1 h2 => by
      obtain ⟨b, o, z, k1, k2, k3⟩ := hy i j s h1 h2
      injection k1 with k1
      injection k1 with e1 e2 _
      subst e1; subst e2
      exact ⟨z, k2, k3⟩
    let news : List Value := List.ofFn (n := rows'.length * row.length) fun j => (w.cell? ⟨b0, o0 + j.1, none⟩).getD undef
    have hnl : news.length = rows'.length * row.length := by simp [news]
    have hng : ∀ j, j < rows'.length * row.length → ∃ z, news[j]? = some z ∧ w.cell? ⟨b0, o0 + j, none⟩ = some z ∧ z.oneCell' = true := fun j hj => by
      have hjk : j % row.length < row.length := Nat.mod_lt _ hpos
      obtain ⟨z, k1, k2⟩ := hsrc (j / row.length) (j % row.length) _ ((Nat.div_lt_iff_lt_mul hpos).2 hj) (List.getElem?_eq_getElem hjk)
      have e : j / row.length * row.length + j % row.length = j := by rw [Nat.mul_comm]; exact Nat.div_add_mod j row.length
      rw [e] at k1
      refine ⟨z, ?_, k1, oneCell_of_flat k2.flat⟩
      rw [List.getElem?_eq_getElem (by rw [hnl]; exact hj)]
      simp [news, k1]
    have hnews : ∀ j z, news[j]? = some z → w.cell? ((⟨b0, o0, none⟩ : Addr).add j) = some z := fun j z hj => by
      have hjl := (List.getElem?_eq_some_iff.1 hj).1
      obtain ⟨z', h1, h2, _⟩ := hng j (by rw [← hnl]; exact hjl)
      rw [hj] at h1; injection h1 with h1; subst h1
      rw [addr_add]; exact h2
    have hone : ∀ z ∈ news, z.oneCell' = true := fun z hz => by
      obtain ⟨j, hj⟩ := List.getElem?_of_mem hz
      have hjl := (List.getElem?_eq_some_iff.1 hj).1
      obtain ⟨z', h1, _, h3⟩ := hng j (by rw [← hnl]; exact hjl)
      rw [hj] at h1; injection h1 with h1; subst h1
      exact h3
    have hnv : ∀ (i j : Nat) s, i < rows'.length → row[j]? = some s → ∃ z, news[i * row.length + j]? = some z ∧ VD P w g.prot s (gd (rows'.getD i []) j) z := fun i j s h1 h2 => by
      obtain ⟨z, k1, k2⟩ := hsrc i j s h1 h2
      have hj := (List.getElem?_eq_some_iff.1 h2).1
      have hlt : i * row.length + j < rows'.length * row.length := by
        have : (i + 1) * row.length ≤ rows'.length * row.length := Nat.mul_le_mul_right _ h1
        rw [Nat.succ_mul] at this; omega
      obtain ⟨z', q1, q2, _⟩ := hng _ hlt
      rw [k1] at q2; injection q2 with q2; subst q2
      exact ⟨z, q1, k2⟩
    have hgetD : ∀ i, i < rows.length + rows'.length → (rows ++ rows').getD i [] = if i < rows.length then rows.getD i [] else rows'.getD (i - rows.length) [] := fun i hi => by
      rw [List.getD_eq_getElem?_getD, List.getElem?_append]
      split
      · rw [List.getD_eq_getElem?_getD]
      · rw [List.getD_eq_getElem?_getD]
    have hbytes : (rows.length + rows'.length) * ti.bytes ≤ 140737488355328 := by
      have := Nat.mul_le_mul hlen hb
      omega
    -- a new block
    have grow : ∀ (olds : List Value) (old : Nat), olds.length = rows.length * row.length → (∀ (i j : Nat) s, i < rows.length → row[j]? = some s → ∃ z, olds[i * row.length + j]? = some z ∧ VD P w g.prot s (gd (rows.getD i []) j) z) →
        (Builtin.append_ #[tt, tt] ty #[u, .slice (some ⟨b0, o0, none⟩) rows'.length c]).run P w = .ok (.slice (some ⟨w.heap.size, 0, none⟩) (rows.length + rows'.length) (grownCap w (rows.length + rows'.length) old e))
          (w.drew.alloc (.cells (olds.toArray ++ news.toArray ++ Builtin.zeroCells v0.cells (grownCap w (rows.length + rows'.length) old e - (rows.length + rows'.length))) e)) →
        ∃ v' w' g', (Builtin.append_ #[tt, tt] ty #[u, .slice (some ⟨b0, o0, none⟩) rows'.length c]).run P w = .ok v' w' ∧ Rel P w' g' base (σ.map (dropC t)) a ∧ OwnV P w' g' base t b e row (rows ++ rows') v' ∧ Below base w w' := by
      intro olds old hol hov hrun
      have hge := grownCap_ge w (rows.length + rows'.length) old e
      have hcm := grownCap_le_maxLen w (rows.length + rows'.length) old e (by unfold maxLen; omega)
      unfold maxLen at hcm
      let arr : Array Value := olds.toArray ++ news.toArray ++ Builtin.zeroCells v0.cells (grownCap w (rows.length + rows'.length) old e - (rows.length + rows'.length))
      let g' : G := { prot := fun x => if x = w.heap.size then (if b then 0 else (rows.length + rows'.length) * row.length) else g.prot x, owner := fun x => if x = w.heap.size then some (.inr t) else g.owner x, θ := g.θ,
                      ρ := fun u => if u = t then w.heap.size else g.ρ u, len := fun u => if u = t then rows.length + rows'.length else g.len u, wid := fun u => if u = t then row.length else g.wid u, ety := fun u => if u = t then e else g.ety u }
      have hheap : ∀ x, x < w.heap.size → (w.drew.alloc (.cells arr e)).heap[x]? = w.heap[x]? := fun x hx => Below.heap_alloc w.drew _ x hx
      have hw'sz : (w.drew.alloc (.cells arr e)).heap.size = w.heap.size + 1 := by simp
      have hcellk : ∀ x o z, o < g.prot x → w.cell? ⟨x, o, none⟩ = some z → (w.drew.alloc (.cells arr e)).cell? ⟨x, o, none⟩ = some z ∧ o < g'.prot x := fun x o z h1 h2 => by
        have hlt := cell_size h2
        exact ⟨(cell_of_heap (hheap x hlt) o).trans h2, by show o < (if x = w.heap.size then _ else _); rw [if_neg (by omega)]; exact h1⟩
      have hk : Kept P base g g' w (w.drew.alloc (.cells arr e)) (dropC t) := by
        refine kept_drop hcellk (fun x t' _ _ hx => ⟨hheap x hx, ?_, ?_⟩) (fun t' ht' => ⟨if_neg ht', if_neg ht', if_neg ht', if_neg ht'⟩) rfl (fun x hx => hheap x (Nat.lt_of_lt_of_le hx hr.base_le))
        · show (if x = w.heap.size then _ else _) = _; rw [if_neg (by omega)]
        · show (if x = w.heap.size then _ else _) = _; rw [if_neg (by omega)]
      have hrel : Rel P (w.drew.alloc (.cells arr e)) g' base (σ.map (dropC t)) a := by
        refine hr.drop hk rfl (fun x id _ hx => ⟨hheap x hx, ?_, ?_⟩) (fun x hx => ?_) (by rw [hw'sz]; omega) (fun x hx => by
          have := hr.base_le
          exact ⟨by show (if x = w.heap.size then _ else _) = _; rw [if_neg (by omega)], by show (if x = w.heap.size then _ else _) = _; rw [if_neg (by omega)]⟩)
        · show (if x = w.heap.size then _ else _) = _; rw [if_neg (by omega)]
        · show (if x = w.heap.size then _ else _) = _; rw [if_neg (by omega)]
        · rw [hw'sz] at hx
          have := hr.fresh x (by omega)
          exact ⟨by show (if x = w.heap.size then _ else _) = _; rw [if_neg (by omega)]; exact this.1, by show (if x = w.heap.size then _ else _) = _; rw [if_neg (by omega)]; exact this.2⟩
      refine ⟨_, _, g', hrun, hrel, .inr ⟨_, arr, e, ?_, by rw [List.length_append]; exact hge, ⟨hcm, rfl, (if_pos rfl : g'.ety t = e).symm⟩, ?_, ?_, ?_, ?_, ?_, (if_pos rfl : g'.wid t = row.length).symm, ?_, ?_⟩, ?_⟩
      · rw [List.length_append, show g'.ρ t = w.heap.size from if_pos rfl]
      · rw [show g'.ρ t = w.heap.size from if_pos rfl]; exact hr.base_le
      · rw [show g'.ρ t = w.heap.size from if_pos rfl]; exact if_pos rfl
      · rw [show g'.ρ t = w.heap.size from if_pos rfl]; exact heap_new w.drew _
      · show (olds.toArray ++ news.toArray ++ Builtin.zeroCells v0.cells _).size = _
        simp only [Array.size_append, List.size_toArray, size_zeroCells, hol, hnl, hz1, ← Nat.add_mul]
        congr 1; omega
      · rw [List.length_append]; exact (if_pos rfl : g'.len t = _).symm
      · rw [show g'.ρ t = w.heap.size from if_pos rfl, show g'.len t = rows.length + rows'.length from if_pos rfl, show g'.wid t = row.length from if_pos rfl]
        exact if_pos rfl
      · intro i j s hi hs
        rw [List.length_append] at hi
        have hj := (List.getElem?_eq_some_iff.1 hs).1
        rw [hgetD i hi]
        by_cases h1 : i < rows.length
        · rw [if_pos h1]
          obtain ⟨z, q1, q2⟩ := hov i j s h1 hs
          refine ⟨z, ?_, q2.mono hcellk⟩
          have hlt := (List.getElem?_eq_some_iff.1 q1).1
          show (olds.toArray ++ news.toArray ++ _)[i * row.length + j]? = _
          rw [Array.append_assoc, Array.getElem?_append_left (by simpa using hlt)]
          simpa using q1
        · rw [if_neg h1]
          obtain ⟨z, q1, q2⟩ := hnv (i - rows.length) j s (by omega) hs
          refine ⟨z, ?_, q2.mono hcellk⟩
          have hlt := (List.getElem?_eq_some_iff.1 q1).1
          have e1 : i * row.length + j = rows.length * row.length + ((i - rows.length) * row.length + j) := by
            rw [← Nat.add_assoc, ← Nat.add_mul]; congr 2; omega
          show (olds.toArray ++ news.toArray ++ _)[i * row.length + j]? = _
          rw [Array.getElem?_append_left (by simp [hol]; omega), Array.getElem?_append_right (by simp [hol]; omega)]
          simp only [List.size_toArray, hol, e1, Nat.add_sub_cancel_left]
          simpa using q1
      · exact ⟨rfl, rfl, rfl, by rw [hw'sz]; omega, fun x hx => hheap x (Nat.lt_of_lt_of_le hx hr.base_le)⟩
    rcases hx with ⟨h0, h1, A0, rfl⟩ | ⟨cap, arr, E, rfl, h2, ⟨h3, rfl, h3'⟩, h4, h5, h6, h7, h8, h9, h10, h11⟩
    · subst h0
      simp only [List.length_nil, Nat.zero_add] at grow hlen hbytes ⊢
      refine grow [] 0 (by simp) (fun i j s hi => by omega) ?_
      cases A0 with
      | none =>
        have := run_append_nil (P := P) w tt ty e ti v0 hu hi hv0 ⟨b0, o0, none⟩ rows'.length c news (by rw [hnl, hti]) hnews (by omega) (by omega) (by omega)
        simpa using this
      | some ad =>
        have := run_append_grow (P := P) w tt ty e ti v0 hu hi hv0 ad 0 0 [] (by simp) (fun j v h => by simp at h) ⟨b0, o0, none⟩ rows'.length c news (by rw [hnl, hti]) hnews (by omega) (by omega) (by simpa using growslice_fits (by omega) hbytes)
        simpa using this
    · by_cases hroom : rows.length + rows'.length ≤ cap
      · have hfit : rows.length * row.length + news.length ≤ arr.size := by
          rw [hnl, h7, ← Nat.add_mul]; exact Nat.mul_le_mul_right _ hroom
        have hrun := run_append_room (P := P) w tt ty E ti hu hi (g.ρ t) rows.length cap arr h6 ⟨b0, o0, none⟩ rows'.length c news (by rw [hnl, hti]) hnews hone hroom (by rw [hti]; exact hfit)
        rw [hti] at hrun
        change _ = Result.ok _ (w.setRow (g.ρ t) (over arr (rows.length * row.length) news)) at hrun
        let g' : G := { g with prot := fun x => if x = g.ρ t then (if b then 0 else (rows.length + rows'.length) * row.length) else g.prot x, len := fun u => if u = t then rows.length + rows'.length else g.len u }
        have hoth : ∀ x, x ≠ g.ρ t → (w.setRow (g.ρ t) (over arr (rows.length * row.length) news)).heap[x]? = w.heap[x]? := fun x hx => setRow_other w (g.ρ t) x _ hx
        have hself : (w.setRow (g.ρ t) (over arr (rows.length * row.length) news)).heap[g.ρ t]? = some (.cells (over arr (rows.length * row.length) news) E (0, 0)) := setRow_heap w _ arr _ E _ h6
        have hws : (w.setRow (g.ρ t) (over arr (rows.length * row.length) news)).heap.size = w.heap.size := by simp [World.setRow]
        have hcellk : ∀ x o z, o < g.prot x → w.cell? ⟨x, o, none⟩ = some z → (w.setRow (g.ρ t) (over arr (rows.length * row.length) news)).cell? ⟨x, o, none⟩ = some z ∧ o < g'.prot x := fun x o z q1 q2 => by
          by_cases hx : x = g.ρ t
          · subst hx
            rw [h10] at q1
            cases b with
            | true => simp at q1
            | false =>
              simp only [Bool.false_eq_true, if_false] at q1
              rw [← h8, ← h9] at q1
              refine ⟨?_, ?_⟩
              · simp only [World.cell?, hself, Option.isSome_none, Bool.false_eq_true, if_false]
                rw [over_get _ _ _ hfit, if_neg (by omega)]
                simp only [World.cell?, h6, Option.isSome_none, Bool.false_eq_true, if_false] at q2
                exact q2
              · show o < (if g.ρ t = g.ρ t then _ else _)
                rw [if_pos rfl]
                simp only [Bool.false_eq_true, if_false, Nat.add_mul]
                omega
          · exact ⟨(cell_of_heap (hoth x hx) o).trans q2, by show o < (if x = g.ρ t then _ else _); rw [if_neg hx]; exact q1⟩
        have hk : Kept P base g g' w (w.setRow (g.ρ t) (over arr (rows.length * row.length) news)) (dropC t) := by
          refine kept_drop hcellk (fun x t' ht' ho hx => ?_) (fun t' ht' => ⟨rfl, if_neg ht', rfl, rfl⟩) rfl (fun x hx => hoth x (by omega))
          have hne : x ≠ g.ρ t := by intro e; rw [e, h5] at ho; injection ho with ho; injection ho with ho; exact ht' ho.symm
          exact ⟨hoth x hne, rfl, if_neg hne⟩
        have hrel : Rel P (w.setRow (g.ρ t) (over arr (rows.length * row.length) news)) g' base (σ.map (dropC t)) a := by
          refine hr.drop hk rfl (fun x id ho hx => ?_) (fun x hx => ?_) (by rw [hws]; exact Nat.le_refl _) (fun x hx => ⟨rfl, if_neg (by omega)⟩)
          · have hne : x ≠ g.ρ t := by intro e; rw [e, h5] at ho; injection ho with ho; cases ho
            exact ⟨hoth x hne, rfl, if_neg hne⟩
          · rw [hws] at hx
            have hlt := lt_of_heap h6
            have := hr.fresh x hx
            exact ⟨by show (if x = g.ρ t then _ else _) = _; rw [if_neg (by omega)]; exact this.1, this.2⟩
        refine ⟨_, _, g', hrun, hrel, .inr ⟨cap, _, E, by rw [List.length_append], by rw [List.length_append]; exact hroom, ⟨h3, rfl, h3'⟩, h4, h5, hself, by rw [over_size _ _ _ hfit]; exact h7, by rw [List.length_append]; exact (if_pos rfl : g'.len t = _).symm, h9, ?_, ?_⟩, ?_⟩
        · rw [show g'.len t = rows.length + rows'.length from if_pos rfl, show g'.wid t = row.length from h9.symm]
          exact if_pos rfl
        · intro i j s hi' hs
          rw [List.length_append] at hi'
          have hj := (List.getElem?_eq_some_iff.1 hs).1
          rw [hgetD i hi', over_get _ _ _ hfit]
          by_cases q : i < rows.length
          · rw [if_pos q]
            obtain ⟨z, q1, q2⟩ := h11 i j s q hs
            have : (i + 1) * row.length ≤ rows.length * row.length := Nat.mul_le_mul_right _ q
            rw [Nat.succ_mul] at this
            exact ⟨z, by rw [if_neg (by omega)]; exact q1, q2.mono hcellk⟩
          · rw [if_neg q]
            obtain ⟨z, q1, q2⟩ := hnv (i - rows.length) j s (by omega) hs
            have e1 : i * row.length + j = rows.length * row.length + ((i - rows.length) * row.length + j) := by
              rw [← Nat.add_assoc, ← Nat.add_mul]; congr 2; omega
            have hlt := (List.getElem?_eq_some_iff.1 q1).1
            refine ⟨z, ?_, q2.mono hcellk⟩
            rw [if_pos (by omega), e1, Nat.add_sub_cancel_left]
            exact q1
        · exact ⟨rfl, rfl, rfl, by rw [hws]; exact Nat.le_refl _, fun x hx => hoth x (by omega)⟩
      · have hol : (arr.toList.take (rows.length * row.length)).length = rows.length * row.length := by
          have e1 : arr.toList.length = cap * row.length := by simpa using h7
          rw [List.length_take, e1]
          exact Nat.min_eq_left (Nat.mul_le_mul_right _ h2)
        refine grow (arr.toList.take (rows.length * row.length)) cap hol (fun i j s hi' hs => ?_) ?_
        · obtain ⟨z, q1, q2⟩ := h11 i j s hi' hs
          have hj := (List.getElem?_eq_some_iff.1 hs).1
          have : (i + 1) * row.length ≤ rows.length * row.length := Nat.mul_le_mul_right _ hi'
          rw [Nat.succ_mul] at this
          exact ⟨z, by rw [List.getElem?_take, if_pos (by omega)]; simpa using q1, q2⟩
        · exact run_append_grow (P := P) w tt ty E ti v0 hu hi hv0 ⟨g.ρ t, 0, none⟩ rows.length cap (arr.toList.take (rows.length * row.length)) (by rw [hol, hti]) (fun j z hj => by
            rw [List.getElem?_take] at hj
            split at hj
            · rw [addr_add]
              simp only [World.cell?, h6, Nat.zero_add]
              simpa using hj
            · cases hj) ⟨b0, o0, none⟩ rows'.length c news (by rw [hnl, hti]) hnews (by omega) (by omega) (growslice_fits (by omega) hbytes)

theorem evAppend_ok (hr : Rel P w g base σ a) {o : Oper} {σ' : St} {d : Nat} {tt : TypeId} {x y : Operand} (ho : o.op = .call { callee := .builtin .append, args := #[x, y], argTypes := #[tt, tt] }) (hdst : o.dst = some d) (hd : ∀ d, o.dst = some d → d < a.tmps.size)
    (h : evAppend P σ d tt x y = some (σ', true)) : Does P base σ' o a w := by
  unfold evAppend at h
  split at h
  · rename_i t b e tk e' rows' hsh hy
    cases hc : (e == e' && tElem P tt == some e && rowZero P e) with
    | false => rw [hc] at h; cases h
    | true =>
      rw [hc, cond_true] at h
      simp only [Option.some.injEq, Prod.mk.injEq, Bool.and_eq_true, decide_eq_true_eq] at h
      obtain ⟨rfl, hlen, hby⟩ := h
      simp only [Bool.and_eq_true, beq_iff_eq] at hc
      obtain ⟨⟨rfl, ht⟩, hz⟩ := hc
      unfold rowZero at hz
      cases hrow : rowOf P e with
      | none => rw [hrow] at hz; cases hz
      | some row =>
        rw [hrow] at hz
        simp only at hz
        have hxv := opd_ok hr x
        have hxv : VC P w g base (.own t b e) (gd (opd σ x).p 0) (a.eval x) := by
          generalize opd σ x = q at *
          obtain ⟨sh, p⟩ := q
          simp only at hsh
          subst hsh
          exact hxv
        obtain ⟨row', hrow', hown⟩ := hxv
        rw [hrow] at hrow'; injection hrow' with hrow'; subst hrow'
        obtain ⟨A, c, row', hyv, hrow', hyc⟩ := slice_cells hy (opd_ok hr y)
        rw [hrow] at hrow'; injection hrow' with hrow'; subst hrow'
        obtain ⟨v', w', g', k1, k2, k3, k4⟩ := append_ok hr ht hrow hz hby hown ⟨A, c, hyv, hyc⟩ hlen o.type
        refine ⟨v', w', g', .inl ?_, k2.put hd (t := .c (.own t b e) (.l _)) ⟨row, hrow, k3⟩ |> fun h => by rw [hdst] at h ⊢; exact h, k4⟩
        simp only [execOp, ho, resolve, invoke, builtin, Sem.run_bind, Sem.run_pure, Result.andThen_ok, List.map_toArray, List.map_cons, List.map_nil, k1]
  · cases h

/-! ### a store into a row -/
theorem setDs_get (s : Tok) (rows : List (List D)) : ∀ (cs : List Ce) (ds : List D) (j : Nat) c, cs[j]? = some c → gd (setDs s rows cs ds) j = setD s rows c (gd ds j)
  | [], ds, j, c, h => by simp at h
  | c0 :: cs, ds, 0, c, h => by
    simp only [List.getElem?_cons_zero, Option.some.injEq] at h
    subst h; rfl
  | c0 :: cs, ds, j + 1, c, h => by
    rw [setDs, gd_cons_succ, setDs_get s rows cs ds.tail j c (by simpa using h), gd_tail]
theorem setDs_length (s : Tok) (rows : List (List D)) : ∀ (cs : List Ce) (ds : List D), (setDs s rows cs ds).length = cs.length
  | [], _ => rfl
  | c :: cs, ds => by simp [setDs, setDs_length s rows cs ds.tail]
theorem look_map2 (F : T → T) (hF : F .any = .any) (e : Env) (i : Nat) : look i (e.map fun p => (p.1, F p.2)) = F (look i e) := look_map F hF e i
theorem hlook_map2 (F : List Ce → List D → List D) : ∀ (h : Boxes) (i : Nat), hlook i (h.map fun p => (p.1, p.2.1, F p.2.1 p.2.2)) = (hlook i h).map fun q => (q.1, F q.1 q.2)
  | [], i => by simp [hlook]
  | (j, v) :: e, i => by
    simp only [List.map_cons, hlook]
    rw [hlook_map2 F e i]
    cases i == j <;> rfl

theorem evStore_row (hr0 : Rel P w g base σ a) {o : Oper} {t n off : Nat} {e : TypeId} {x p : Operand} {cs : List Ce} {ds : List D} {pp : List D} {tok : Tok} {row ss : List S} (ho : o.op = .store t p x) (hd : ∀ d, o.dst = some d → d < a.tmps.size) (hn : tSize P t = some n)
    (hc : (opd σ x).cells = some (cs, ds)) (hl : cs.length = n) (hp : (opd σ p) = ⟨.one (.c (.eptr (some tok) e off)), pp⟩) (hrow : rowOf P e = some row) (hss : allS cs = some ss) (hfit : (row.drop off).take n = ss) (htok : (toks cs).contains tok = false) (hn1 : 1 ≤ n) (hofs : off + n ≤ row.length) :
    DoesS P base (St.put ((σ.seal (toks cs)).setRows tok ((eRows (gd pp 0)).set (eIx (gd pp 0)) (setSub (sub ((eRows (gd pp 0)).getD (eIx (gd pp 0)) []) 0 row.length) off (toDs cs ds)))) o.dst .none_) o p a w := by
  have hpv := opd_ok hr0 p
  rw [hp] at hpv
  obtain ⟨hx, hany⟩ := cells_ok hc (opd_ok hr0 x)
  have hrow1 := row_ok (ts := toks cs) hx hss (fun t h => List.contains_iff_mem.2 h)
  have hr := hr0.seal (toks cs)
  obtain ⟨row', hrow', hpe, hix, u0, hown0⟩ := hpv
  rw [hrow] at hrow'; injection hrow' with hrow'; subst hrow'
  have hown := seal_own (ts := toks cs) hown0
  rw [htok] at hown
  simp only [Bool.not_false, Bool.and_self] at hown
  have hρ : (sealG g (toks cs)).ρ = g.ρ := rfl
  rw [← hρ] at hpe
  generalize sealG g (toks cs) = gs at *
  have hix' : eIx (gd pp 0) < (eRows (gd pp 0)).length := hix
  change a.eval p = .pointer (some ⟨gs.ρ tok, eIx (gd pp 0) * row.length + off, none⟩) at hpe
  change OwnV P w gs base tok true e row (eRows (gd pp 0)) u0 at hown
  generalize hrows : eRows (gd pp 0) = rows at *
  generalize eIx (gd pp 0) = i at *
  rcases hown with ⟨h0, _⟩ | ⟨cap, arr, E, h1, h2, ⟨h3, hE, h3'⟩, h4, h5, h6, h7, h8, h9, h10, h11⟩
  · rw [h0] at hix'; simp at hix'
  · subst hE
    have hul : (a.eval x).cells.toList.length = n := by simp [hx.1, hl]
    have hkk : i * row.length + row.length ≤ rows.length * row.length := by
      rw [← Nat.succ_mul]; exact Nat.mul_le_mul_right _ hix'
    have hcap : rows.length * row.length ≤ cap * row.length := Nat.mul_le_mul_right _ h2
    have hfit' : i * row.length + off + n ≤ arr.size := by rw [h7]; omega
    have hfl : i * row.length + off + (a.eval x).cells.toList.length ≤ arr.size := by rw [hul]; exact hfit'
    have hrun := run_storeAt (P := P) (w := w) (b := gs.ρ tok) (o := i * row.length + off) hn (by rw [hx.1, hl]) h6 hfit' (vcs_oneCell hx hany)
    generalize hvs : (a.eval x).cells.toList = vs at *
    have hoth : ∀ b, b ≠ gs.ρ tok → (w.setRow (gs.ρ tok) (over arr (i * row.length + off) vs)).heap[b]? = w.heap[b]? := fun b hb => setRow_other w (gs.ρ tok) b _ hb
    have hself : (w.setRow (gs.ρ tok) (over arr (i * row.length + off) vs)).heap[gs.ρ tok]? = some (.cells (over arr (i * row.length + off) vs) E (0, 0)) := setRow_heap w _ arr _ E _ h6
    have hsz : (w.setRow (gs.ρ tok) (over arr (i * row.length + off) vs)).heap.size = w.heap.size := by simp [World.setRow]
    have hp0 : gs.prot (gs.ρ tok) = 0 := by rw [h10]; rfl
    have hvd : ∀ {s : S} {x : D} {v : Value}, VD P w gs.prot s x v → VD P (w.setRow (gs.ρ tok) (over arr (i * row.length + off) vs)) gs.prot s x v := fun h =>
      h.mono fun b o u q1 q2 => ⟨(cell_of_heap (hoth b (by rintro rfl; rw [hp0] at q1; omega)) o).trans q2, q1⟩
    generalize hnr : setSub (sub (rows.getD i []) 0 row.length) off (toDs cs ds) = nr
    have hdl : (toDs cs ds).length = n := by
      have : ∀ (cs : List Ce) (ds : List D), (toDs cs ds).length = cs.length := by
        intro cs
        induction cs with
        | nil => intro ds; rfl
        | cons c cs ih => intro ds; simp [toDs, ih]
      rw [this, hl]
    have hnrg : ∀ j, j < row.length → gd nr j = if off ≤ j ∧ j < off + n then gd (toDs cs ds) (j - off) else gd (rows.getD i []) j := fun j hj => by
      rw [← hnr, gd_setSub _ _ _ _ (by rw [sub_length]; exact hj), hdl, gd_sub _ _ _ _ hj, Nat.zero_add]
    have hlen' : (rows.set i nr).length = rows.length := by simp
    have hcells : ∀ (i' j : Nat) s, i' < rows.length → row[j]? = some s → ∃ u, (over arr (i * row.length + off) vs)[i' * row.length + j]? = some u ∧ VD P (w.setRow (gs.ρ tok) (over arr (i * row.length + off) vs)) gs.prot s (gd ((rows.set i nr).getD i' []) j) u := by
      intro i' j s hi' hs
      have hj := (List.getElem?_eq_some_iff.1 hs).1
      rw [over_get _ _ _ hfl, hul]
      have hset : (rows.set i nr).getD i' [] = if i = i' then nr else rows.getD i' [] := by
        rw [List.getD_eq_getElem?_getD, List.getElem?_set]
        by_cases e : i = i'
        · subst e; simp [hi']
        · simp [e, List.getD_eq_getElem?_getD]
      rw [hset]
      by_cases hin : i * row.length + off ≤ i' * row.length + j ∧ i' * row.length + j < i * row.length + off + n
      · have hii : i = i' := by
          rcases Nat.lt_trichotomy i i' with h | h | h
          · exfalso
            have : (i + 1) * row.length ≤ i' * row.length := Nat.mul_le_mul_right _ h
            rw [Nat.succ_mul] at this
            omega
          · exact h
          · exfalso
            have : (i' + 1) * row.length ≤ i * row.length := Nat.mul_le_mul_right _ h
            rw [Nat.succ_mul] at this
            omega
        subst hii
        rw [if_pos hin, if_pos rfl, hnrg j hj, if_pos (by omega)]
        have hsj : ss[j - off]? = some s := by
          rw [← hfit, List.getElem?_take, if_pos (by omega), List.getElem?_drop, show off + (j - off) = j from by omega]
          exact hs
        obtain ⟨u, q1, q2⟩ := hrow1.2 _ s hsj
        refine ⟨u, ?_, hvd q2⟩
        rw [show i * row.length + j - (i * row.length + off) = j - off from by omega, ← hvs]
        simpa using q1
      · rw [if_neg hin]
        obtain ⟨u, q1, q2⟩ := h11 i' j s hi' hs
        refine ⟨u, q1, ?_⟩
        by_cases hii : i = i'
        · subst hii
          rw [if_pos rfl, hnrg j hj, if_neg (by omega)]
          exact hvd q2
        · rw [if_neg hii]
          exact hvd q2
    have hownt : ∀ {xm : Bool} {e' : TypeId} {row' : List S} {rowsT : List (List D)} {v : Value}, rowOf P e' = some row' → OwnV P w gs base tok xm e' row' rowsT v → rowsT.length = (rows.set i nr).length ∧ OwnV P (w.setRow (gs.ρ tok) (over arr (i * row.length + off) vs)) gs base tok xm e' row' (rows.set i nr) v := by
      intro xm e' row' rowsT v hr' h
      rcases h with ⟨_, h, _⟩ | ⟨cap', arr', E', k1, k2, ⟨k3, kE, k3'⟩, k4, k5, k6, k7, k8, k9, k10, k11⟩
      · omega
      · have ee : e' = E := by rw [k3', h3']
        subst ee
        rw [hrow] at hr'; injection hr' with hr'; subst hr'
        rw [h6] at k6
        injection k6 with k6
        injection k6 with q1 q2 q3
        subst q1
        have hll : rowsT.length = (rows.set i nr).length := by rw [hlen', k8, h8]
        refine ⟨hll, .inr ⟨cap', _, e', by rw [k1, hll], by rw [← hll]; exact k2, ⟨k3, rfl, k3'⟩, k4, k5, by rw [hself, q2, kE], by rw [over_size _ _ _ hfl]; exact k7, by rw [← hll]; exact k8, k9, k10, fun i' j s hi' hs => hcells i' j s (by rw [← hlen']; exact hi') hs⟩⟩
    have hownu : ∀ {t' : Tok} {xm : Bool} {e' : TypeId} {row' : List S} {rowsT : List (List D)} {v : Value}, t' ≠ tok → OwnV P w gs base t' xm e' row' rowsT v → OwnV P (w.setRow (gs.ρ tok) (over arr (i * row.length + off) vs)) gs base t' xm e' row' rowsT v := by
      intro t' xm e' row' rowsT v ht h
      rcases h with h | ⟨cap', arr', E', k1, k2, k3, k4, k5, k6, k7, k8, k9, k10, k11⟩
      · exact .inl h
      · refine .inr ⟨cap', arr', E', k1, k2, k3, k4, k5, by rw [hoth _ (by intro e; rw [e, h5] at k5; injection k5 with k5; injection k5 with k5; exact ht k5.symm)]; exact k6, k7, k8, k9, k10, fun i' j s hi' hs => ?_⟩
        obtain ⟨u, q1, q2⟩ := k11 i' j s hi' hs
        exact ⟨u, q1, hvd q2⟩
    have hcptr : ∀ {cells : List S} {off' : Nat} {x : D} {v : Value}, CptrV P w gs base cells off' x v → CptrV P (w.setRow (gs.ρ tok) (over arr (i * row.length + off) vs)) gs base cells off' x v := by
      rintro cells off' x v ⟨b, o, q1, q2, q3⟩
      refine ⟨b, o, q1, q2, fun j s hs => ?_⟩
      obtain ⟨u, z1, z2⟩ := q3 j s hs
      exact ⟨u, (cell_of_heap (hoth b (by omega)) _).trans z1, hvd z2⟩
    have hkc : ∀ c x v, VC P w gs base c x v → VC P (w.setRow (gs.ρ tok) (over arr (i * row.length + off) vs)) gs base c (setD tok (rows.set i nr) c x) v := by
      intro c x v hv
      cases c with
      | any => trivial
      | d s => exact hvd hv
      | kb b => exact hv
      | own t' xm e' =>
        obtain ⟨row', hr', hv⟩ := hv
        refine ⟨row', hr', ?_⟩
        show OwnV P _ gs base t' xm e' row' (bif t' == tok then D.l (rows.set i nr) else x).rows v
        by_cases ht : t' = tok
        · subst ht
          rw [show (t' == t') = true from by simp]
          exact (hownt hr' hv).2
        · rw [show (t' == tok) = false from by simpa using ht]
          exact hownu ht hv
      | ptr id off' => exact hv
      | eptr tk e' off' =>
        cases tk with
        | none =>
          obtain ⟨row', b, o, q1, q2, q3, q4⟩ := hv
          refine ⟨row', b, o, q1, q2, q3, fun j s hs => ?_⟩
          obtain ⟨u, z1, z2, z3⟩ := q4 j s hs
          exact ⟨u, (cell_of_heap (hoth b (by rintro rfl; rw [hp0] at z2; omega)) _).trans z1, z2, hvd z3⟩
        | some t' =>
          obtain ⟨row', hr', q2, q3, u, q4⟩ := hv
          refine ⟨row', hr', ?_⟩
          show v = .pointer (some ⟨gs.ρ t', eIx (bif t' == tok then D.l [[.l (rows.set i nr), gd (x.rows.getD 0 []) 1]] else x) * row'.length + off', none⟩) ∧ eIx (bif t' == tok then D.l [[.l (rows.set i nr), gd (x.rows.getD 0 []) 1]] else x) < (eRows (bif t' == tok then D.l [[.l (rows.set i nr), gd (x.rows.getD 0 []) 1]] else x)).length ∧ ∃ u, OwnV P _ gs base t' true e' row' (eRows (bif t' == tok then D.l [[.l (rows.set i nr), gd (x.rows.getD 0 []) 1]] else x)) u
          by_cases ht : t' = tok
          · subst ht
            rw [show (t' == t') = true from by simp, cond_true]
            obtain ⟨z1, z2⟩ := hownt hr' q4
            exact ⟨q2, by show eIx x < (rows.set i nr).length; rw [← z1]; exact q3, u, z2⟩
          · rw [show (t' == tok) = false from by simpa using ht, cond_false]
            exact ⟨q2, q3, u, hownu ht q4⟩
      | cptr cells off' => exact hcptr hv
      | fn f caps =>
        obtain ⟨arr', q1, q2, q3⟩ := hv
        refine ⟨arr', q1, q2, fun j c hc => ?_⟩
        obtain ⟨u, hu, hcap⟩ := q3 j c hc
        refine ⟨u, hu, ?_⟩
        cases c with
        | d s => exact hvd hcap
        | ptr id off => exact hcap
        | cptr cells off => exact hcptr hcap
    have hvcs : ∀ {cs : List Ce} {ds : List D} {arr' : Array Value}, VCs P w gs base cs ds arr' → VCs P (w.setRow (gs.ρ tok) (over arr (i * row.length + off) vs)) gs base cs (setDs tok (rows.set i nr) cs ds) arr' := by
      intro cs ds arr' h
      refine ⟨h.1, fun j c hj => ?_⟩
      obtain ⟨u, q1, q2⟩ := h.2 j c hj
      exact ⟨u, q1, by rw [setDs_get _ _ _ _ j c hj]; exact hkc c _ _ q2⟩
    have hvt : ∀ {q : T} {v : Value}, VT P w gs base q v → VT P (w.setRow (gs.ρ tok) (over arr (i * row.length + off) vs)) gs base (setT tok (rows.set i nr) q) v := by
      intro q v hv
      obtain ⟨sh, pq⟩ := q
      cases sh with
      | tup xs => trivial
      | one xx => cases xx with
        | c xx =>
          show VC P _ gs base xx (gd (setDs tok (rows.set i nr) [xx] pq) 0) v
          rw [setDs_get _ _ _ _ 0 xx rfl]
          exact hkc xx _ _ hv
        | agg xs =>
          obtain ⟨arr', rfl, hh⟩ := hv
          exact ⟨arr', rfl, hvcs hh⟩
    have hrel : Rel P (w.setRow (gs.ρ tok) (over arr (i * row.length + off) vs)) gs base ((σ.seal (toks cs)).setRows tok (rows.set i nr)) a := by
      refine ⟨fun j => ?_, fun id cs1 ds1 hq => ?_, by rw [hsz]; exact hr.fresh, by rw [hsz]; exact hr.base_le, hr.defers, hr.low⟩
      · have e1 := look2_map (setT tok (rows.set i nr)) rfl (σ.seal (toks cs)).e j (σ.seal (toks cs)).r
        show VT P _ gs base (look2 j ((σ.seal (toks cs)).e.map _) ((σ.seal (toks cs)).r.map _)) _
        rw [e1]
        exact hvt (hr.env j)
      · have e1 := hlook_map2 (setDs tok (rows.set i nr)) (σ.seal (toks cs)).h id
        change hlook id ((σ.seal (toks cs)).setRows tok (rows.set i nr)).h = _ at e1
        rw [hq] at e1
        cases hq2 : hlook id (σ.seal (toks cs)).h with
        | none => rw [hq2] at e1; cases e1
        | some q =>
          obtain ⟨cs0, ds0⟩ := q
          rw [hq2] at e1
          injection e1 with e1
          injection e1 with e2 e3
          subst e2; subst e3
          obtain ⟨j1, j2, j3, jl, arr', E', j4, j5⟩ := hr.box id _ _ hq2
          exact ⟨j1, j2, j3, setDs_length _ _ _ _, arr', E', by rw [hoth _ (by intro e'; rw [e', h5] at j2; injection j2 with j2; cases j2)]; exact j4, hvcs j5⟩
    refine ⟨undef, _, gs, .inr ⟨?_, rfl⟩, hrel.put hd (t := .none_) ⟨#[], rfl, rfl, fun j x h => by simp at h⟩, ⟨rfl, rfl, rfl, by rw [hsz]; exact Nat.le_refl _, fun k hk' => hoth k (by omega)⟩, fun B hB => ⟨rfl, rfl, rfl, by rw [hsz]; exact Nat.le_refl _, fun k hk' => hoth k (by have := hB _ _ hpe; omega)⟩⟩
    simp only [execOp, ho, hpe, Sem.run_bind, hrun, Result.andThen_ok, Sem.run_pure]

theorem evStore_okS (hr : Rel P w g base σ a) {o : Oper} {σ' : St} {t : TypeId} {p x : Operand} (ho : o.op = .store t p x) (hd : ∀ d, o.dst = some d → d < a.tmps.size) (h : evStore P σ o.dst t p x = some (σ', true)) : DoesS P base σ' o p a w := by
  unfold evStore at h
  split at h
  · rename_i n cs ds hn hc
    cases hl : (cs.length == n) with
    | false => rw [hl] at h; cases h
    | true =>
      rw [hl, cond_true] at h
      have hl : cs.length = n := by simpa using hl
      split at h
      · rename_i id off hsh
        split at h
        · rename_i cs' ds' hb
          cases hle : Nat.ble (off + n) cs'.length with
          | false => rw [hle] at h; cases h
          | true =>
            rw [hle] at h
            simp only [cond_true, Option.some.injEq, Prod.mk.injEq, and_true] at h
            subst h
            exact evStore_ptr hr ho hd hn hc hl (pp := (opd σ p).p) (by rw [← hsh]) hb (Nat.le_of_ble_eq_true hle)
        · cases h
      · rename_i tok e off hsh
        split at h
        · rename_i row ss hrow hss
          cases hq : ((row.drop off).take n == ss && !(toks cs).contains tok && Nat.ble 1 n && Nat.ble (off + n) row.length) with
          | false => rw [hq] at h; cases h
          | true =>
            rw [hq] at h
            simp only [cond_true, Option.some.injEq, Prod.mk.injEq, and_true] at h
            subst h
            simp only [Bool.and_eq_true, beq_iff_eq, Bool.not_eq_true'] at hq
            obtain ⟨⟨⟨q1, q2⟩, q3⟩, q4⟩ := hq
            exact evStore_row hr ho hd hn hc hl (pp := (opd σ p).p) (by rw [← hsh]) hrow hss q1 q2 (Nat.le_of_ble_eq_true q3) (Nat.le_of_ble_eq_true q4)
        · cases h
      · cases h
  · cases h
theorem evStore_ok (hr : Rel P w g base σ a) {o : Oper} {σ' : St} {t : TypeId} {p x : Operand} (ho : o.op = .store t p x) (hd : ∀ d, o.dst = some d → d < a.tmps.size) (h : evStore P σ o.dst t p x = some (σ', true)) : Does P base σ' o a w := (evStore_okS hr ho hd h).does
end
end Go.Proofs.YtchceahcaaibcaaGreat
