/-
  The evaluator is right: make, struct literals, stores, append.
-/
import Derived.Test.YtdejncnjaebjfaaSnd4
import Derived.IntWalk
import Derived.Laws.OwnMore
namespace Go.Proofs.Ytdejncnjaebjfaa
open Go.RowKit
set_option linter.unusedVariables false
set_option linter.unusedSectionVars false

section
variable [Low] {P : Program} {w w' : World} {g g' : G} {base : Nat} {σ : St} {a : Act}

theorem bytesOk_ok {e : TypeId} (h : bytesOk P e = true) : ∃ i, P.info? e = some i ∧ i.bytes ≤ 16384 := by
  unfold bytesOk at h
  split at h
  · rename_i i hi
    exact ⟨i, hi, by simpa using h⟩
  · cases h

theorem evMakeSlice_ok (hr : Rel P w g base σ a) {o : Oper} {σ' : St} {d : Nat} {t : TypeId} {x y : Operand} (ho : o.op = .makeSlice t x y) (hdst : o.dst = some d) (hd : ∀ d, o.dst = some d → d < a.tmps.size)
    (h : evMakeSlice P σ d t x y = some (σ', true)) : Does P base σ' o a w := by
  unfold evMakeSlice at h
  split at h
  · rename_i e he
    split at h
    · rename_i row n m hrow hn hm
      simp only [Option.some.injEq, Prod.mk.injEq, Bool.and_eq_true, decide_eq_true_eq] at h
      obtain ⟨rfl, ⟨⟨⟨h0, rfl⟩, h1⟩, hz⟩, hby⟩ := h
      obtain ⟨k1, hx⟩ := int_ok hn (opd_ok hr x)
      obtain ⟨k2, hy⟩ := int_ok hm (opd_ok hr y)
      obtain ⟨ti, v0, hi, hv0, hmz⟩ := zeroOk_ok hz
      obtain ⟨ti', hi', hb⟩ := bytesOk_ok hby
      rw [hi] at hi'; injection hi' with hi'; subst hi'
      have hsz := rowOf_size hrow
      have hpos := rowOf_pos hrow
      obtain ⟨hz1, hz2⟩ := zero_get hmz
      let zero : Array Value := if n.toNat * row.length = 0 then #[] else v0.cells
      let arr : Array Value := (Array.range (n.toNat * row.length)).map (zero[· % zero.size]!)
      have harr : arr.size = (List.replicate n.toNat (row.map zeroD)).length * row.length := by simp [arr]
      have hcell : ∀ (i j : Nat) s, i < (List.replicate n.toNat (row.map zeroD)).length → row[j]? = some s → ∃ u, arr[i * row.length + j]? = some u ∧ VD P w g.prot s (gd ((List.replicate n.toNat (row.map zeroD)).getD i []) j) u := by
        intro i j s hi' hs
        have hj := (List.getElem?_eq_some_iff.1 hs).1
        have hi2 : i < n.toNat := by simpa using hi'
        obtain ⟨u, hu, hv, _⟩ := hz2 j s hs
        have hlt : i * row.length + j < n.toNat * row.length := by
          have : (i + 1) * row.length ≤ n.toNat * row.length := Nat.mul_le_mul_right _ hi2
          rw [Nat.succ_mul] at this
          omega
        have hzero : zero = v0.cells := by show (if _ then _ else _) = _; rw [if_neg (by omega)]
        have hzs : zero.size = row.length := by rw [hzero]; simpa using hz1
        refine ⟨u, ?_, ?_⟩
        · show ((Array.range (n.toNat * row.length)).map (zero[· % zero.size]!))[i * row.length + j]? = _
          rw [Array.getElem?_map, Array.getElem?_range, if_pos hlt, Option.map_some, hzs]
          rw [Nat.mul_comm, Nat.mul_add_mod, Nat.mod_eq_of_lt hj, hzero]
          have : v0.cells[j]? = some u := by simpa using hu
          rw [getElem!_def, this]
        · have e : (List.replicate n.toNat (row.map zeroD)).getD i [] = row.map zeroD := by
            rw [List.getD_eq_getElem?_getD, List.getElem?_replicate, if_pos hi2]; rfl
          rw [e, gd_map_zero row j s hs]
          exact hv w g.prot
      obtain ⟨r1, r2⟩ := newRow_own (d := d) hr hrow harr (by simp; omega) hcell
      have hlen : (List.replicate n.toNat (row.map zeroD)).length = n.toNat := by simp
      rw [hlen] at r1 r2
      refine ⟨.slice (some ⟨w.heap.size, 0, none⟩) n.toNat n.toNat, _, _, .inl ?_, r1.put hd (t := .c (.own (d, 0) true e) (.l _)) r2 |> fun h => by rw [hdst] at h ⊢; exact h, (Below.refl _ _).alloc hr.base_le _⟩
      have hw : IntKind.i64.wrap n = n := IntWalk.i64_in _ (by omega)
      have hbn : (ti.bytes : Int) * n ≤ 16384 * 4294967296 := by
        have h2 : ti.bytes * n.toNat ≤ 16384 * 4294967296 := Nat.mul_le_mul hb (by omega)
        have : ((ti.bytes * n.toNat : Nat) : Int) ≤ ((16384 * 4294967296 : Nat) : Int) := by exact_mod_cast h2
        rw [Int.natCast_mul, Int.toNat_of_nonneg h0] at this
        exact this
      have hlarge : ¬ (n < 0 ∨ (ti.bytes : Int) * n > 2 ^ 48) := by
        have : (16384 * 4294967296 : Int) ≤ 2 ^ 48 := by decide
        omega
      simp only [execOp, ho, hx, hy, Instr.makeSlice, Sem.run_bind, run_underlying (tElem_und he), Result.andThen_ok, asInt, asIntOf, Sem.run_pure, typeInfo, program, Sem.run, hi, hw]
      rw [if_neg (by simp; omega)]
      have hroom : (askRoom (n.toNat * ti.bytes)).run P w = .ok () w := by
        unfold askRoom; split <;> simp [mark, Sem.run]
      simp only [Sem.run_bind, hroom, Result.andThen_ok, run_size hsz]
      by_cases hz0 : n.toNat * row.length = 0
      · rw [if_pos hz0]
        have : zero = #[] := if_pos hz0
        simp only [Sem.run_bind, Sem.run_pure, Result.andThen_ok]
        rw [← this]
        simp only [Sem.run_bind, run_newRow, Result.andThen_ok, Sem.run_pure]
        rfl
      · rw [if_neg hz0]
        have : zero = v0.cells := if_neg hz0
        simp only [Sem.run_bind, run_zero hi hv0, Sem.run_pure, Result.andThen_ok]
        rw [← this]
        simp only [Sem.run_bind, run_newRow, Result.andThen_ok, Sem.run_pure]
        rfl
    · cases h
  · cases h

/-- laying xs into l from o on -/
theorem setSub_get {α : Type} : ∀ (xs l : List α) (o k : Nat), (setSub l o xs)[k]? = if o ≤ k ∧ k < o + xs.length ∧ k < l.length then xs[k - o]? else l[k]?
  | [], l, o, k => by rw [setSub, if_neg (by simp; omega)]
  | x :: xs, l, o, k => by
    rw [setSub, setSub_get xs (l.set o x) (o + 1) k]
    simp only [List.length_set, List.length_cons]
    by_cases hk : o = k
    · subst hk
      rw [if_neg (by omega)]
      by_cases hl : o < l.length
      · rw [if_pos ⟨Nat.le_refl _, by omega, hl⟩]
        simp [hl]
      · rw [if_neg (by omega), List.getElem?_eq_none (by simp; omega), List.getElem?_eq_none (by omega)]
    · by_cases hin : o + 1 ≤ k ∧ k < o + 1 + xs.length ∧ k < l.length
      · rw [if_pos hin, if_pos (by omega)]
        rw [show k - o = (k - (o + 1)) + 1 from by omega, List.getElem?_cons_succ]
      · rw [if_neg hin, if_neg (by omega), List.getElem?_set_ne hk]
theorem setSub_length {α : Type} : ∀ (xs l : List α) (o : Nat), (setSub l o xs).length = l.length
  | [], l, o => rfl
  | x :: xs, l, o => by rw [setSub, setSub_length xs, List.length_set]
theorem gd_setSub (xs l : List D) (o k : Nat) (hl : k < l.length) : gd (setSub l o xs) k = if o ≤ k ∧ k < o + xs.length then gd xs (k - o) else gd l k := by
  unfold gd
  rw [List.getD_eq_getElem?_getD, setSub_get]
  split
  · rename_i h; rw [if_pos ⟨h.1, h.2.1⟩, List.getD_eq_getElem?_getD]
  · rename_i h; rw [if_neg (fun h' => h ⟨h'.1, h'.2, hl⟩), List.getD_eq_getElem?_getD]

/-- cells over cells -/
theorem vcs_setSub {cs cs' : List Ce} {ds ds' : List D} {arr arr' us : Array Value} {off : Nat} (hv : VCs P w g base cs ds arr) (hu : VCs P w g base cs' ds' us) (hle : off + cs'.length ≤ cs.length) (hds : ds.length = cs.length) (hds' : ds'.length = cs'.length)
    (hsz : arr'.size = arr.size) (harr : ∀ k, k < arr.size → arr'[k]? = if off ≤ k ∧ k < off + us.size then us[k - off]? else arr[k]?) : VCs P w g base (setSub cs off cs') (setSub ds off ds') arr' := by
  refine ⟨by rw [hsz, hv.1, setSub_length], fun j c hj => ?_⟩
  have hjl : j < cs.length := by
    have := (List.getElem?_eq_some_iff.1 hj).1
    rwa [setSub_length] at this
  rw [setSub_get] at hj
  rw [harr j (by rw [hv.1]; exact hjl), gd_setSub _ _ _ _ (by rw [hds]; exact hjl)]
  by_cases hin : off ≤ j ∧ j < off + cs'.length
  · rw [if_pos ⟨hin.1, hin.2, hjl⟩] at hj
    rw [if_pos (by rw [hu.1]; exact hin), if_pos (by rw [hds']; exact hin)]
    exact hu.2 _ c hj
  · rw [if_neg (fun h => hin ⟨h.1, h.2.1⟩)] at hj
    rw [if_neg (by rw [hu.1]; exact hin), if_neg (by rw [hds']; exact hin)]
    exact hv.2 _ c hj

theorem run_places {w : World} : ∀ (fs : List Field), (∀ f ∈ fs, (tSize P f.type).isSome = true) → (fs.mapM fun f => (do pure (f.offset, ← sizeOf f.type) : Sem (Nat × Nat))).run P w = .ok (fs.map fun f => (f.offset, (tSize P f.type).getD 0)) w
  | [], _ => by simp
  | f :: fs, h => by
    obtain ⟨n, hn⟩ := Option.isSome_iff_exists.1 (h f (by simp))
    have ih := run_places (w := w) fs (fun f hf => h f (by simp [hf]))
    simp only [List.mapM_cons, Sem.run_bind, run_size hn, Result.andThen_ok, Sem.run_pure, ih, List.map_cons, hn, Option.getD_some]

theorem litCells_ok (hr : Rel P w g base σ a) {t : TypeId} {fs : Array Field} (hu : P.underlying t = some (.struct fs)) : ∀ {parts : List (Nat × Operand)} {cs cs' : List Ce} {ds ds' : List D} {arr : Array Value},
    litCells P t σ parts (cs, ds) = some (cs', ds') → VCs P w g base cs ds arr → ds.length = cs.length →
    ∃ arr', Instr.fill ((fs.map fun f => (f.offset, (tSize P f.type).getD 0))[·]?) arr (parts.map fun p => (p.1, a.eval p.2)) = some arr' ∧ VCs P w g base cs' ds' arr'
  | [], cs, cs', ds, ds', arr, h, hv, _ => by
    simp only [litCells, Option.some.injEq, Prod.mk.injEq] at h
    obtain ⟨rfl, rfl⟩ := h
    exact ⟨arr, rfl, hv⟩
  | (i, x) :: r, cs, cs', ds, ds', arr, h, hv, hl => by
    unfold litCells at h
    split at h
    · rename_i off ft cs1 ds1 hf hc
      cases hsz : (tSize P ft == some cs1.length && Nat.ble (off + cs1.length) cs.length) with
      | false => rw [hsz] at h; cases h
      | true =>
        rw [hsz, cond_true] at h
        simp only [Bool.and_eq_true, beq_iff_eq] at hsz
        obtain ⟨hsz, hle⟩ := hsz
        have hle : off + cs1.length ≤ cs.length := Nat.le_of_ble_eq_true hle
        obtain ⟨fs', f, hu', hfi, rfl, rfl⟩ := tField_ok hf
        rw [hu] at hu'; injection hu' with hu'; injection hu' with hu'; subst hu'
        obtain ⟨hx, _⟩ := cells_ok hc (opd_ok hr x)
        obtain ⟨g1, g2⟩ := Great.foldl_set f.offset (a.eval x).cells.toList 0 arr
        let arr1 := ((a.eval x).cells.toList.zipIdx 0).foldl (fun cs (x : Value × Nat) => cs.setIfInBounds (f.offset + x.2) x.1) arr
        have hv1 : VCs P w g base (setSub cs f.offset cs1) (setSub ds f.offset ds1) arr1 := by
          refine vcs_setSub hv hx hle hl (cells_length hc) g1 fun k hk => ?_
          rw [g2 k]
          simp only [Nat.add_zero, Array.length_toList]
          by_cases hin : f.offset ≤ k ∧ k < f.offset + (a.eval x).cells.size
          · rw [if_pos ⟨hin.1, hin.2, hk⟩, if_pos hin]; simp
          · rw [if_neg (fun h => hin ⟨h.1, h.2.1⟩), if_neg hin]
        obtain ⟨arr', k1, k2⟩ := litCells_ok hr hu h hv1 (by rw [setSub_length, setSub_length]; exact hl)
        refine ⟨arr', ?_, k2⟩
        simp only [List.map_cons]
        unfold Instr.fill
        have hpl : (fs.map fun f => (f.offset, (tSize P f.type).getD 0))[i]? = some (f.offset, cs1.length) := by
          rw [Array.getElem?_map, hfi]
          simp [hsz]
        simp only [hpl]
        rw [if_neg (by simp only [hx.1]; simp; rw [hv.1]; exact hle)]
        rw [← k1]
        congr 1
        rw [← Array.foldl_toList, Array.toList_zipIdx]
    · cases h

theorem evBuild_ok (hr : Rel P w g base σ a) {o : Oper} {σ' : St} {d : Nat} {t : TypeId} {parts : Array (Nat × Operand)} (ho : o.op = .build t parts) (hdst : o.dst = some d) (hd : ∀ d, o.dst = some d → d < a.tmps.size)
    (h : evBuild P σ d t parts.toList = some (σ', true)) : Does P base σ' o a w := by
  unfold evBuild at h
  split at h
  · rename_i row hrow
    split at h
    · rename_i cs ds hl
      cases hz : (zeroOk P t row && fieldsOk P t) with
      | false => rw [hz] at h; cases h
      | true =>
        rw [hz] at h
        simp only [Bool.not_true, cond_false, Option.some.injEq, Prod.mk.injEq, and_true] at h
        subst h
        simp only [Bool.and_eq_true] at hz
        obtain ⟨hz, hfo⟩ := hz
        obtain ⟨ti, v0, hi, hv0, hmz⟩ := zeroOk_ok hz
        obtain ⟨fs, hu, hfs⟩ : ∃ fs, P.underlying t = some (.struct fs) ∧ ∀ f ∈ fs.toList, (tSize P f.type).isSome = true := by
          unfold fieldsOk at hfo
          split at hfo
          · rename_i fs hu
            exact ⟨fs, hu, fun f hf => List.all_eq_true.1 hfo f hf⟩
          · cases hfo
        have hrel := hr.wipeRow (ext_reset g d w) rfl hr.fresh
        obtain ⟨arr', k1, k2⟩ := litCells_ok hrel hu hl (zero_vcs hmz d 0 (fun i => if_pos rfl)) (by simp [zeroC_length])
        refine ⟨.agg arr', w, resetG g d, .inl ?_, hrel.put hd (t := ⟨.one (.agg cs), ds⟩) ⟨arr', rfl, k2⟩ |> fun h => by rw [hdst] at h ⊢; exact h, Below.refl _ _⟩
        have hmap : (fs.mapM fun f => (do pure (f.offset, ← sizeOf f.type) : Sem (Nat × Nat))).run P w = .ok (fs.map fun f => (f.offset, (tSize P f.type).getD 0)) w := by
          rw [Array.mapM_eq_mapM_toList]
          simp only [map_eq_pure_bind, Sem.run_bind, run_places fs.toList hfs, Result.andThen_ok, Sem.run_pure]
          congr 1
          rw [← Array.toList_map, Array.toArray_toList]
        simp only [execOp, ho, Instr.build, Sem.run_bind, run_zero hi hv0, run_underlying hu, Result.andThen_ok]
        rw [hmap]
        simp only [Result.andThen_ok]
        rw [Array.toList_map, k1]
        simp only [Sem.run_pure]
        rfl
    · cases h
  · cases h
end
end Go.Proofs.Ytdejncnjaebjfaa
