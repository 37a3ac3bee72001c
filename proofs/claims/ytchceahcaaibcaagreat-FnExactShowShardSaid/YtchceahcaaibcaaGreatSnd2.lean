/-
  The evaluator is right: the operations that only compute.
-/
import Derived.Test.YtchceahcaaibcaaGreatSnd
namespace Go.Proofs.YtchceahcaaibcaaGreat
set_option linter.unusedSimpArgs false
open Go.RowKit (Below)
set_option linter.unusedVariables false
set_option linter.unusedSectionVars false

theorem addr_add (b o m : Nat) : (⟨b, o, none⟩ : Addr).add m = ⟨b, o + m, none⟩ := by
  unfold Addr.add
  split
  · rename_i h; subst h; rfl
  · rfl
section
variable [Low] {P : Program}
theorem run_size {t n : Nat} (h : tSize P t = some n) (w : World) : (sizeOf t).run P w = .ok n w := by
  unfold tSize at h
  cases hi : P.info? t with
  | none => rw [hi] at h; cases h
  | some i => rw [hi] at h; injection h with h; simp [sizeOf, typeInfo, program, hi, h, Sem.run]
theorem run_agg {t : Nat} {b : Bool} (h : tAgg P t = some b) (w : World) : (isAgg t).run P w = .ok b w := by
  unfold tAgg at h
  cases hu : P.underlying t with
  | none => rw [hu] at h; cases h
  | some d =>
    rw [hu] at h
    simp only [isAgg, Sem.run_bind, run_underlying hu, Result.andThen_ok]
    cases d <;> simp_all
theorem tElem_und {t e : Nat} (h : tElem P t = some e) : P.underlying t = some (.slice e) := by
  unfold tElem at h
  split at h
  · rename_i h'; injection h with h; subst h; exact h'
  · cases h
theorem rowOf_size {t : Nat} {row : List S} (h : rowOf P t = some row) : tSize P t = some row.length := by
  unfold rowOf at h
  split at h
  · rename_i r hr
    cases hc : (tSize P t == some r.length && !r.isEmpty) with
    | true =>
      rw [hc, cond_true] at h; injection h with h; subst h
      simp only [Bool.and_eq_true] at hc
      simpa using hc.1
    | false => rw [hc, cond_false] at h; cases h
  · cases h

theorem rowOf_pos {t : Nat} {row : List S} (h : rowOf P t = some row) : 0 < row.length := by
  unfold rowOf at h
  split at h
  · rename_i r hr
    cases hc : (tSize P t == some r.length && !r.isEmpty) with
    | true =>
      rw [hc, cond_true] at h; injection h with h; subst h
      simp only [Bool.and_eq_true] at hc
      have := hc.2
      cases r with
      | nil => simp at this
      | cons x y => simp
    | false => rw [hc, cond_false] at h; cases h
  · cases h
variable {w : World} {g : G} {base n : Nat} {σ : St} {a : Act}

theorem ofV_ok (v : Value) : VT P w g base (ofV v) v := by
  cases v with
  | int k n => exact VD.int k (.i n)
  | bool b => exact rfl
  | string s =>
    have h := VD.str (P := P) (w := w) (prot := g.prot) (.s (byteList s))
    simp only [D.str, bsv_byteList] at h
    exact h
  | tuple xs =>
    show VT P w g base (bif xs.isEmpty then .none_ else .any) (.tuple xs)
    cases hx : xs.isEmpty with
    | true =>
      have : xs = #[] := by simpa using hx
      subst this
      exact ⟨#[], rfl, rfl, fun j x h => by simp at h⟩
    | false => trivial
  | _ => trivial
theorem opd_ok (hr : Rel P w g base σ a) (x : Operand) : VT P w g base (opd σ x) (a.eval x) := by
  cases x with
  | tmp i => exact hr.env i
  | const v => exact ofV_ok v
  | global i => trivial
  | func f => exact ⟨#[], rfl, rfl, fun j c h => by simp at h⟩

theorem sc_ok {v : T} {s : S} {d : D} {u : Value} (h : v.sc = some (s, d)) (hv : VT P w g base v u) : VD P w g.prot s d u := by
  obtain ⟨sh, p⟩ := v
  cases sh with
  | tup xs => cases h
  | one x => cases x with
    | agg xs => cases h
    | c x => cases x with
      | d s' =>
        simp only [T.sc, Option.some.injEq, Prod.mk.injEq] at h
        obtain ⟨rfl, rfl⟩ := h
        exact hv
      | kb b =>
        simp only [T.sc, Option.some.injEq, Prod.mk.injEq] at h
        obtain ⟨rfl, rfl⟩ := h
        have : u = .bool b := hv
        subst this
        exact VD.bool (.b b)
      | _ => cases h
theorem int_ok {v : T} {i : Int} {u : Value} (h : v.intOf = some i) (hv : VT P w g base v u) : ∃ k, u = .int k i := by
  unfold T.intOf at h
  split at h
  · rename_i k d e
    injection h with h; subst h
    have := sc_ok e hv
    cases this
    exact ⟨k, rfl⟩
  · cases h
theorem ret_i (k : IntKind) (n : Int) : VT P w g base (.c (.d (.int k)) (.i n)) (.int k n) := VD.int k (.i n)
theorem ret_b (b : Bool) : VT P w g base (.c (.d .bool) (.b b)) (.bool b) := VD.bool (.b b)

theorem evInt_ok {op : BinOp} {k : IntKind} {x y : Int} {r : T} (h : evInt op k x y = some (r, true)) (t : TypeId) (X Y : Operand) :
    ∃ u, (∀ w' : World, True → (do eqGuard op t X Y (.int k x) (.int k y); binOp op t (.int k x) (.int k y) : Sem Value).run P w' = .ok u w') ∧ VT P w g base r u := by
  have hg : ∀ w, (eqGuard op t X Y (.int k x) (.int k y)).run P w = .ok () w := by
    intro w
    unfold eqGuard
    cases op <;> simp [Sem.run]
  cases op <;> simp only [evInt, Option.some.injEq, Prod.mk.injEq, and_true, reduceCtorEq] at h
  all_goals simp only [Sem.run_bind, hg, Result.andThen_ok]
  case add => subst h; exact ⟨_, by intro w' _; simp [binOp, Op.intArith], ret_i _ _⟩
  case sub => subst h; exact ⟨_, by intro w' _; simp [binOp, Op.intArith], ret_i _ _⟩
  case mul => subst h; exact ⟨_, by intro w' _; simp [binOp, Op.intArith], ret_i _ _⟩
  case quo =>
    obtain ⟨h, hy⟩ := h; subst h
    have hy : y ≠ 0 := by simpa using hy
    exact ⟨_, by intro w' _; simp [binOp, Op.intDiv, hy], ret_i _ _⟩
  case rem =>
    obtain ⟨h, hy⟩ := h; subst h
    have hy : y ≠ 0 := by simpa using hy
    exact ⟨_, by intro w' _; simp [binOp, Op.intDiv, hy], ret_i _ _⟩
  case shr =>
    obtain ⟨h, hy⟩ := h; subst h
    have hy : ¬ y < 0 := by have : 0 ≤ y := by simpa using hy
                            omega
    exact ⟨_, by intro w' _; simp [binOp, Op.shift, hy], ret_i _ _⟩
  all_goals (subst h; exact ⟨_, by intro w' _; simp [binOp, Op.intCmp], ret_b _⟩)

theorem bsv_size (l : List UInt8) : (bsv l).size = l.length := by simp [bsv, ByteArray.size]
theorem bsv_toList (l : List UInt8) : (bsv l).toList = l := by rw [ByteArray.toList_eq]; simp [bsv]
theorem bsv_app (a b : List UInt8) : bsv a ++ bsv b = bsv (a ++ b) := by
  unfold bsv
  rw [ByteArray.ext_iff]
  simp
theorem bsv_extract (l : List UInt8) (i j : Nat) : (bsv l).extract i j = bsv ((l.take j).drop i) := by
  unfold bsv
  rw [ByteArray.ext_iff]
  simp [List.extract_eq_take_drop, List.drop_take]
theorem bsv_get (l : List UInt8) (i : Nat) : (bsv l)[i]? = l[i]? := by
  by_cases h : i < l.length
  · rw [List.getElem?_eq_getElem h, getElem?_pos (bsv l) i (by rw [bsv_size]; exact h)]
    rfl
  · rw [List.getElem?_eq_none (by omega), getElem?_neg (bsv l) i (by rw [bsv_size]; exact h)]

theorem run_equal_bool {t : TypeId} (hu : P.underlying t = some .bool) (x y : Bool) (w : World) : (Op.equal t (.bool x) (.bool y)).run P w = .ok (x == y) w := by
  have h : ∀ n, (Op.equalIn (n + 1) t (.bool x) (.bool y)).run P w = .ok (x == y) w := by
    intro n
    unfold Op.equalIn
    simp only [Sem.run_bind, run_underlying hu, Result.andThen_ok]
    rfl
  exact h 9999
theorem isBoolT_ok {t : TypeId} (h : isBoolT P t = true) : P.underlying t = some .bool := by
  unfold isBoolT at h
  split at h
  · assumption
  · cases h
theorem evBin_ok {op : BinOp} {x y r : T} {u v : Value} (t : TypeId) (h : evBin (isBoolT P t) op x y = some (r, true)) (X Y : Operand) (hx : VT P w g base x u) (hy : VT P w g base y v) :
    ∃ z, (∀ w' : World, True → (do eqGuard op t X Y u v; binOp op t u v : Sem Value).run P w' = .ok z w') ∧ VT P w g base r z := by
  unfold evBin at h
  cases ex : x.sc with
  | none => rw [ex] at h; cases h
  | some q =>
    obtain ⟨s1, d1⟩ := q
    cases ey : y.sc with
    | none => rw [ex, ey] at h; cases s1 <;> cases h
    | some q =>
      obtain ⟨s2, d2⟩ := q
      rw [ex, ey] at h
      have h1 := sc_ok ex hx
      have h2 := sc_ok ey hy
      cases s1 <;> cases s2 <;> try (cases h; done)
      · rename_i k k'
        cases hk : (k == k') with
        | false => simp only [hk, cond_false, reduceCtorEq] at h
        | true =>
          simp only [hk, cond_true] at h
          have : k = k' := by simpa using hk
          subst this
          cases h1; cases h2
          exact evInt_ok h t X Y
      · cases h1; cases h2
        have hg : ∀ w, (eqGuard op t X Y (.bool d1.bool) (.bool d2.bool)).run P w = .ok () w := by
          intro w; unfold eqGuard; cases op <;> simp [Sem.run]
        cases hb : isBoolT P t with
        | false => simp only [hb, cond_false, reduceCtorEq] at h
        | true =>
        simp only [hb, cond_true] at h
        have hu := isBoolT_ok hb
        cases op <;> simp only [reduceCtorEq, Option.some.injEq, Prod.mk.injEq, and_true] at h
        all_goals
          subst h
          refine ⟨_, ?_, ret_b _⟩
          intro w' _
          simp only [Sem.run_bind, hg, Result.andThen_ok, binOp, run_equal_bool hu, Sem.run_pure]
      · cases h1; cases h2
        have hg : ∀ w, (eqGuard op t X Y (.string (bsv d1.str)) (.string (bsv d2.str))).run P w = .ok () w := by
          intro w; unfold eqGuard; cases op <;> simp [Sem.run]
        cases op <;> simp only [reduceCtorEq, Option.some.injEq, Prod.mk.injEq, and_true] at h
        · obtain ⟨h, hl⟩ := h
          subst h
          have hl : d1.str.length + d2.str.length < 1099511627776 := by simpa using hl
          refine ⟨.string (bsv (d1.str ++ d2.str)), ?_, VD.str (.s (d1.str ++ d2.str))⟩
          intro w' _
          simp only [Sem.run_bind, hg, Result.andThen_ok, binOp, Op.stringOp, bsv_size, bsv_app]
          rw [if_neg (by simp [IntKind.max, IntKind.signed, IntKind.bits]; omega)]
          rfl
        · subst h
          refine ⟨_, ?_, ret_b _⟩
          intro w' _
          simp [Sem.run_bind, hg, binOp, Op.stringOp, bsv_toList]
        · subst h
          refine ⟨_, ?_, ret_b _⟩
          intro w' _
          simp [Sem.run_bind, hg, binOp, Op.stringOp, bsv_toList]

theorem evUn_ok {op : UnOp} {x r : T} {u : Value} (h : evUn op x = some r) (hx : VT P w g base x u) : ∃ z, (∀ w' : World, True → (Op.unary op u).run P w' = .ok z w') ∧ VT P w g base r z := by
  unfold evUn at h
  cases ex : x.sc with
  | none => rw [ex] at h; cases op <;> cases h
  | some q =>
    obtain ⟨s, d⟩ := q
    rw [ex] at h
    have hv := sc_ok ex hx
    cases op <;> cases s <;> simp only [reduceCtorEq, Option.some.injEq] at h
    · subst h; cases hv; exact ⟨_, by intro w' _; simp [Op.unary, Op.intArith], ret_i _ _⟩
    · subst h; cases hv; exact ⟨_, by intro w' _; simp [Op.unary], ret_b _⟩

theorem slice_ok {x : T} {t : Option Tok} {e : TypeId} {rows : List (List D)} {u : Value} (h : x.slice = some (t, e, rows)) (hx : VT P w g base x u) :
    ∃ A c, u = .slice A rows.length c ∧ rows.length ≤ c ∧ c ≤ 9223372036854775807 ∧ ∃ row, rowOf P e = some row ∧
      match t with
      | none => ∀ i j s, i < rows.length → row[j]? = some s → ∃ b o v, A = some ⟨b, o, none⟩ ∧ w.cell? ⟨b, o + (i * row.length + j), none⟩ = some v ∧ o + (i * row.length + j) < g.prot b ∧ VD P w g.prot s (gd (rows.getD i []) j) v
      | some t => OwnV P w g base t true e row rows u := by
  obtain ⟨sh, p⟩ := x
  cases sh with
  | tup xs => cases h
  | one x => cases x with
    | agg xs => cases h
    | c x => cases x with
      | d s => cases s with
        | sl e' =>
          simp only [T.slice, Option.some.injEq, Prod.mk.injEq] at h
          obtain ⟨rfl, rfl, rfl⟩ := h
          have hx : VD P w g.prot (.sl e') (gd p 0) u := hx
          cases hx with
          | sl _ _ A c row u hr h1 h2 h3 h4 =>
            refine ⟨A, c, rfl, h1, h2, row, hr, fun i j s hi hs => ?_⟩
            have hj := (List.getElem?_eq_some_iff.1 hs).1
            obtain ⟨b, o, k1, k2, k3⟩ := h3 i j hi hj
            exact ⟨b, o, _, k1, k2, k3, h4 i j s hi hs⟩
        | _ => cases h
      | own t' xm e' =>
        simp only [T.slice, Option.some.injEq, Prod.mk.injEq] at h
        obtain ⟨rfl, rfl, rfl⟩ := h
        obtain ⟨row, hr, hv⟩ : ∃ row, rowOf P e' = some row ∧ OwnV P w g base t' xm e' row (gd p 0).rows u := hx
        cases xm with
        | true =>
          rcases hv with ⟨h0, hl0, A, rfl⟩ | ⟨cap, arr, E, rfl, h2, h3, rest⟩
          · exact ⟨A, 0, by rw [h0]; rfl, by rw [h0]; simp, by omega, row, hr, .inl ⟨h0, hl0, A, rfl⟩⟩
          · exact ⟨_, cap, rfl, h2, h3.1, row, hr, .inr ⟨cap, arr, E, rfl, h2, h3, rest⟩⟩
        | false =>
          have hvd := own_vd' hr hv
          generalize hd : gd p 0 = d at *
          cases hvd with
          | sl _ _ A c row' u hr' h1 h2 h3 h4 =>
            refine ⟨A, c, rfl, h1, h2, row', hr', fun i j s hi hs => ?_⟩
            have hj := (List.getElem?_eq_some_iff.1 hs).1
            obtain ⟨b, o, k1, k2, k3⟩ := h3 i j hi hj
            exact ⟨b, o, _, k1, k2, k3, h4 i j s hi hs⟩
      | _ => cases h

theorem inRange_ok {n : Int} {len : Nat} (h : inRange n len = true) : 0 ≤ n ∧ n < len ∧ n.toNat < len := by
  unfold inRange at h
  simp only [Bool.and_eq_true, decide_eq_true_eq] at h
  omega

theorem evIndexAddr_ok {t e : TypeId} {x i r : T} {u v : Value} (ht : tElem P t = some e) (h : evIndexAddr e x i = some (r, true)) (hx : VT P w g base x u) (hi : VT P w g base i v) :
    ∃ z, (∀ w' : World, True → (Instr.indexAt t u v).run P w' = .ok z w') ∧ VT P w g base r z := by
  unfold evIndexAddr at h
  cases ei : i.intOf with
  | none => rw [ei] at h; cases h
  | some n =>
    cases es : x.slice with
    | none => rw [ei, es] at h; cases h
    | some q =>
      obtain ⟨tk, e', rows⟩ := q
      rw [ei, es] at h
      simp only at h
      cases he : (e == e') with
      | false => rw [he] at h; cases h
      | true =>
        rw [he] at h
        have he : e = e' := by simpa using he
        subst he
        simp only [cond_true, Option.some.injEq, Prod.mk.injEq] at h
        obtain ⟨rfl, hin⟩ := h
        obtain ⟨h0, h1, h2⟩ := inRange_ok hin
        obtain ⟨k, rfl⟩ := int_ok ei hi
        obtain ⟨A, c, rfl, hc1, hc2, row, hr, hv⟩ := slice_ok es hx
        have hsz := rowOf_size hr
        have hrun : ∀ b o, A = some ⟨b, o, none⟩ → ∀ w' : World, True → (Instr.indexAt t (.slice A rows.length c) (.int k n)).run P w' = .ok (.pointer (some ⟨b, o + n.toNat * row.length, none⟩)) w' := by
          intro b o hA w' _
          subst hA
          unfold Instr.indexAt
          simp only [asIntOf, Sem.run_bind, Sem.run_pure, Result.andThen_ok, run_underlying (tElem_und ht)]
          rw [if_pos ⟨h0, h1⟩]
          simp only [Sem.run_bind, run_size hsz, Result.andThen_ok, Sem.run_pure, addr_add]
        cases tk with
        | none =>
          have hrow : 0 < row.length := by
            rcases Nat.eq_zero_or_pos row.length with h | h
            · exfalso
              have := rowOf_pos hr
              omega
            · exact h
          obtain ⟨b, o, v0, hA, _⟩ := hv n.toNat 0 _ h2 (List.getElem?_eq_getElem hrow)
          refine ⟨_, hrun b o hA, row, b, o, hr, rfl, h2, fun j s hs => ?_⟩
          obtain ⟨b', o', v', hA', k1, k2, k3⟩ := hv n.toNat j s h2 hs
          rw [hA] at hA'
          injection hA' with hA'
          injection hA' with e1 e2 _
          subst e1; subst e2
          exact ⟨v', k1, k2, k3⟩
        | some tk =>
          have hv0 := hv
          rcases hv with ⟨hn, _⟩ | ⟨cap, arr, E, hs, rest⟩
          · rw [hn] at h2; simp at h2
          · injection hs with hA _ _
            refine ⟨_, hrun _ _ hA, row, hr, ?_, h2, _, hv0⟩
            show Value.pointer (some ⟨g.ρ tk, 0 + n.toNat * row.length, none⟩) = Value.pointer (some ⟨g.ρ tk, n.toNat * row.length + 0, none⟩)
            rw [Nat.zero_add, Nat.add_zero]

theorem isStrT_ok {t : TypeId} (h : isStrT P t = true) : P.underlying t = some .string := by
  unfold isStrT at h
  split at h
  · assumption
  · cases h
theorem evLen_ok {tt : TypeId} {x r : T} {u : Value} (h : evLen P tt x = some r) (hx : VT P w g base x u) (ty : TypeId) :
    ∃ z, (∀ w' : World, True → (Builtin.len_ #[tt] ty #[u]).run P w' = .ok z w') ∧ VT P w g base r z := by
  unfold evLen at h
  split at h
  · rename_i d ex
    cases ht : isStrT P tt with
    | false => rw [ht] at h; cases h
    | true =>
      rw [ht] at h
      simp only [cond_true, Option.some.injEq] at h; subst h
      have hv := sc_ok ex hx
      cases hv
      refine ⟨.int .i64 d.str.length, ?_, ret_i _ _⟩
      intro w' _
      simp [Builtin.len_, run_underlying (isStrT_ok ht), bsv_size, goInt]
  · split at h
    · rename_i t e rows es
      cases ht : (tElem P tt).isSome with
      | false => rw [ht] at h; cases h
      | true =>
        rw [ht] at h
        simp only [cond_true, Option.some.injEq] at h; subst h
        obtain ⟨A, c, rfl, _⟩ := slice_ok es hx
        obtain ⟨e', he⟩ := Option.isSome_iff_exists.1 ht
        refine ⟨.int .i64 rows.length, ?_, ret_i _ _⟩
        intro w' _
        simp [Builtin.len_, run_underlying (tElem_und he), goInt]
    · cases h

/-- cells from an address on -/
def CellsV (P : Program) (w : World) (g : G) (base : Nat) (cs : List Ce) (ds : List D) (b o : Nat) : Prop :=
  ∀ (j : Nat) c, cs[j]? = some c → ∃ u, w.cell? ⟨b, o + j, none⟩ = some u ∧ VC P w g base c (gd ds j) u

theorem run_loadCells {b o : Nat} : ∀ (n i : Nat) (us acc : Array Value), us.size = i + n → acc.size = i → (∀ j, i ≤ j → j < i + n → w.cell? ⟨b, o + j, none⟩ = us[j]?) → (∀ j, j < i → acc[j]? = us[j]?) →
    (loadCellsFrom ⟨b, o, none⟩ i n acc).run P w = .ok us w
  | 0, i, us, acc, h1, h2, _, h4 => by
    simp only [loadCellsFrom, Sem.run_pure]
    congr 1
    refine Array.ext (by omega) fun j hj1 hj2 => ?_
    have := h4 j (by omega)
    rw [Array.getElem?_eq_getElem hj1, Array.getElem?_eq_getElem hj2] at this
    injection this
  | n + 1, i, us, acc, h1, h2, h3, h4 => by
    have hc := h3 i (Nat.le_refl _) (by omega)
    have hu : us[i]? = some (us[i]'(by omega)) := Array.getElem?_eq_getElem (by omega)
    rw [hu] at hc
    simp only [loadCellsFrom, addr_add, load, Sem.run_bind, Sem.run, hc, Result.andThen_ok]
    refine run_loadCells n (i + 1) us _ (by omega) (by simp [h2]) (fun j hj1 hj2 => h3 j (by omega) (by omega)) fun j hj => ?_
    rw [Array.getElem?_push]
    split
    · rename_i e; rw [e, h2]; exact hu.symm
    · exact h4 j (by omega)

theorem run_loadVar {t n : Nat} {ag : Bool} {b o : Nat} {us : Array Value} (ha : tAgg P t = some ag) (hn : tSize P t = some n) (hus : us.size = n) (h : ∀ j, j < n → w.cell? ⟨b, o + j, none⟩ = us[j]?) (h1 : ag = false → n = 1) :
    (loadVar t ⟨b, o, none⟩).run P w = .ok (if ag then .agg us else us.getD 0 undef) w := by
  unfold loadVar
  simp only [Sem.run_bind, run_agg ha, Result.andThen_ok]
  cases ag with
  | true =>
    simp only [if_true, Sem.run_bind, run_size hn, Result.andThen_ok, loadCells]
    rw [run_loadCells (P := P) (w := w) n 0 us #[] (by omega) rfl (fun j _ hj => h j (by omega)) (fun j hj => by omega)]
    rfl
  | false =>
    have := h1 rfl
    subst this
    have h0 := h 0 (by omega)
    rw [Array.getElem?_eq_getElem (by omega)] at h0
    rw [Nat.add_zero] at h0
    simp only [Bool.false_eq_true, if_false, load, Sem.run, h0]
    congr 1
    simp [Array.getD, hus]

theorem cut_ok {t n off : Nat} {ag : Bool} {cs : List Ce} {ds : List D} {b o : Nat} {r : T} (ha : tAgg P t = some ag) (hn : tSize P t = some n) (h : cut ag n off cs ds = some r) (hc : CellsV P w g base cs ds b o) :
    ∃ z, (∀ w', Below w.heap.size w w' → (loadVar t ⟨b, o + off, none⟩).run P w' = .ok z w') ∧ VT P w g base r z := by
  unfold cut at h
  cases hb : Nat.ble (off + n) cs.length with
  | false => rw [hb] at h; cases h
  | true =>
    rw [hb] at h
    have hle : off + n ≤ cs.length := Nat.le_of_ble_eq_true hb
    simp only [cond_true] at h
    have hex : ∀ (j : Nat) (hj : j < n), ∃ u, w.cell? ⟨b, o + off + j, none⟩ = some u ∧ VC P w g base (cs[off + j]'(by omega)) (gd ds (off + j)) u := fun j hj => by
      obtain ⟨u, h1, h2⟩ := hc (off + j) _ (List.getElem?_eq_getElem (by omega))
      exact ⟨u, by rw [Nat.add_assoc]; exact h1, h2⟩
    let us : Array Value := Array.ofFn (n := n) fun j => (w.cell? ⟨b, o + off + j.1, none⟩).getD undef
    have hus : us.size = n := by simp [us]
    have hcell : ∀ j, j < n → w.cell? ⟨b, o + off + j, none⟩ = us[j]? := fun j hj => by
      obtain ⟨u, h1, _⟩ := hex j hj
      rw [h1, Array.getElem?_eq_getElem (by omega)]
      simp [us, h1]
    have hcell' : ∀ w', Below w.heap.size w w' → ∀ j, j < n → w'.cell? ⟨b, o + off + j, none⟩ = us[j]? := fun w' hw j hj => by
      obtain ⟨u, h1, _⟩ := hex j hj
      rw [← hcell j hj]
      exact cell_of_heap (hw.block _ (cell_size h1)) _
    cases ag with
    | true =>
      simp only [cond_true, Option.some.injEq] at h
      subst h
      refine ⟨_, fun w' hw => run_loadVar ha hn hus (hcell' w' hw) (by intro h; cases h), us, rfl, by simp [hus]; omega, fun j c hj => ?_⟩
      have hjn : j < n := by
        have := (List.getElem?_eq_some_iff.1 hj).1
        simp at this; omega
      obtain ⟨u, h1, h2⟩ := hex j hjn
      refine ⟨u, by rw [← hcell j hjn, h1], ?_⟩
      rw [gd_sub _ _ _ _ hjn]
      rw [List.getElem?_take, if_pos hjn, List.getElem?_drop, List.getElem?_eq_getElem (by omega)] at hj
      injection hj with hj
      subst hj
      exact h2
    | false =>
      simp only [cond_false] at h
      cases ho : cs[off]? with
      | none => rw [ho] at h; cases h
      | some c =>
        rw [ho] at h
        cases hn1 : (n == 1) with
        | false => simp only [hn1, cond_false, reduceCtorEq] at h
        | true =>
          simp only [hn1, cond_true, Option.some.injEq] at h
          have hn1 : n = 1 := by simpa using hn1
          subst h
          refine ⟨_, fun w' hw => run_loadVar ha hn hus (hcell' w' hw) (fun _ => hn1), ?_⟩
          obtain ⟨u, h1, h2⟩ := hex 0 (by omega)
          have h3 := hcell 0 (by omega)
          rw [h1] at h3
          have h4 : us.getD 0 undef = u := by
            rw [Array.getD_eq_getD_getElem?, ← h3]; rfl
          simp only [Bool.false_eq_true, if_false]
          rw [h4]
          have hc0 : cs[off + 0]'(by omega) = c := by
            rw [List.getElem?_eq_getElem (by omega)] at ho
            injection ho
          rw [hc0] at h2
          exact h2

theorem evLoad_ok {t : Nat} {x r : T} {u : Value} (hr : Rel P w g base σ a) (h : evLoad P t σ x = some r) (hx : VT P w g base x u) :
    ∃ z, (∀ w', Below w.heap.size w w' → (Instr.loadAt t u).run P w' = .ok z w') ∧ VT P w g base r z := by
  unfold evLoad at h
  cases ha : tAgg P t with
  | none => rw [ha] at h; cases h
  | some ag =>
    cases hn : tSize P t with
    | none => rw [ha, hn] at h; cases h
    | some n =>
      rw [ha, hn] at h
      obtain ⟨sh, p⟩ := x
      cases sh with
      | tup xs => cases h
      | one x => cases x with
        | agg xs => cases h
        | c x => cases x with
          | ptr id off =>
            have hx : u = .pointer (some ⟨g.θ id, off, none⟩) := hx
            subst hx
            simp only at h
            cases hl : hlook id σ.h with
            | none => rw [hl] at h; cases h
            | some q =>
              obtain ⟨cs, ds⟩ := q
              rw [hl] at h
              obtain ⟨_, _, _, _, arr, E, h4, h5, h6⟩ := hr.box id cs ds hl
              have hcv : CellsV P w g base cs ds (g.θ id) 0 := fun j c hj => by
                obtain ⟨v, h7, h8⟩ := h6 j c hj
                exact ⟨v, by simp only [World.cell?, h4, Nat.zero_add]; exact h7, h8⟩
              obtain ⟨z, k1, k2⟩ := cut_ok ha hn h hcv
              rw [Nat.zero_add] at k1
              exact ⟨z, fun w' hw => by simp only [Instr.loadAt, Instr.sureAddr, Sem.run_bind, Sem.run_pure, Result.andThen_ok]; exact k1 w' hw, k2⟩
          | eptr tk e off =>
            simp only at h
            cases hrow : rowOf P e with
            | none => rw [hrow] at h; cases h
            | some row =>
              rw [hrow] at h
              have key : ∃ b o, u = .pointer (some ⟨b, o + (eIx (gd p 0) * row.length + off), none⟩) ∧ ∀ j s, row[j]? = some s → ∃ v, w.cell? ⟨b, o + (eIx (gd p 0) * row.length + j), none⟩ = some v ∧ VD P w g.prot s (gd ((eRows (gd p 0)).getD (eIx (gd p 0)) []) j) v := by
                cases tk with
                | none =>
                  obtain ⟨row', b, o, k1, k2, k3, k4⟩ := hx
                  rw [hrow] at k1; injection k1 with k1; subst k1
                  exact ⟨b, o, k2, fun j s hs => by obtain ⟨v, j1, _, j3⟩ := k4 j s hs; exact ⟨v, j1, j3⟩⟩
                | some tk =>
                  obtain ⟨row', k1, k2, k3, v0, k4⟩ := hx
                  rw [hrow] at k1; injection k1 with k1; subst k1
                  refine ⟨g.ρ tk, 0, by rw [Nat.zero_add]; exact k2, fun j s hs => ?_⟩
                  rcases k4 with ⟨h0, _⟩ | ⟨cap, arr, E, h1, h2, h3, h4, h5, h6, h7, h8, h9, h10, h11⟩
                  · rw [h0] at k3; simp at k3
                  · obtain ⟨v, hv1, hv2⟩ := h11 _ j s k3 hs
                    exact ⟨v, by simp only [World.cell?, h6, Nat.zero_add]; exact hv1, hv2⟩
              obtain ⟨b, o, rfl, hk⟩ := key
              have hcv : CellsV P w g base (row.map .d) ((eRows (gd p 0)).getD (eIx (gd p 0)) []) b (o + eIx (gd p 0) * row.length) := fun j c hj => by
                rw [List.getElem?_map] at hj
                cases hs : row[j]? with
                | none => rw [hs] at hj; cases hj
                | some s =>
                  rw [hs] at hj
                  injection hj with hj
                  subst hj
                  obtain ⟨v, k1, k2⟩ := hk j s hs
                  exact ⟨v, by rw [Nat.add_assoc]; exact k1, k2⟩
              obtain ⟨z, k1, k2⟩ := cut_ok ha hn h hcv
              rw [Nat.add_assoc] at k1
              exact ⟨z, fun w' hw => by simp only [Instr.loadAt, Instr.sureAddr, Sem.run_bind, Sem.run_pure, Result.andThen_ok]; exact k1 w' hw, k2⟩
          | cptr cells off =>
            obtain ⟨b, o, k1, k2, k3⟩ : CptrV P w g base cells off (gd p 0) u := hx
            subst k1
            simp only at h
            have hcv : CellsV P w g base (cells.map .d) ((gd p 0).rows.getD 0 []) b o := fun j c hj => by
              rw [List.getElem?_map] at hj
              cases hs : cells[j]? with
              | none => rw [hs] at hj; cases hj
              | some s =>
                rw [hs] at hj
                injection hj with hj
                subst hj
                exact k3 j s hs
            obtain ⟨z, k1, k2⟩ := cut_ok ha hn h hcv
            exact ⟨z, fun w' hw => by simp only [Instr.loadAt, Instr.sureAddr, Sem.run_bind, Sem.run_pure, Result.andThen_ok]; exact k1 w' hw, k2⟩
          | _ => cases h

theorem tField_ok {t i off ft : Nat} (h : tField P t i = some (off, ft)) : ∃ (fs : Array Field) (f : Field), P.underlying t = some (.struct fs) ∧ fs[i]? = some f ∧ f.offset = off ∧ f.type = ft := by
  unfold tField at h
  split at h
  · rename_i fs hu
    cases hf : fs[i]? with
    | none => rw [hf] at h; cases h
    | some f =>
      rw [hf] at h
      simp only [Option.map_some, Option.some.injEq, Prod.mk.injEq] at h
      exact ⟨fs, f, hu, hf, h.1, h.2⟩
  · cases h

theorem fieldAddr_ok {t i off ft n : Nat} {x r : T} {u : Value} (hf : tField P t i = some (off, ft)) (hn : tSize P ft = some n) (hn0 : n ≠ 0) (h : addOff x off = some r) (hx : VT P w g base x u) :
    ∃ z, (∀ w' : World, True → (Instr.fieldAt t u i).run P w' = .ok z w') ∧ VT P w g base r z := by
  obtain ⟨fs, f, hu, hfi, rfl, rfl⟩ := tField_ok hf
  have hrun : ∀ b o (w' : World), True → (Instr.fieldAt t (.pointer (some ⟨b, o, none⟩)) i).run P w' = .ok (.pointer (some ⟨b, o + f.offset, none⟩)) w' := by
    intro b o w' _
    unfold Instr.fieldAt
    simp only [Sem.run_bind, run_underlying hu, Result.andThen_ok, hfi, Instr.sureAddr, Sem.run_pure, fieldPlace, run_size hn, if_neg hn0, addr_add]
  obtain ⟨sh, p⟩ := x
  cases sh with
  | tup xs => cases h
  | one x => cases x with
    | agg xs => cases h
    | c x => cases x with
      | ptr id o =>
        have hx : u = .pointer (some ⟨g.θ id, o, none⟩) := hx
        subst hx
        simp only [addOff, Option.some.injEq] at h
        subst h
        exact ⟨_, hrun _ _, rfl⟩
      | eptr tk e o =>
        simp only [addOff, Option.some.injEq] at h
        subst h
        cases tk with
        | none =>
          obtain ⟨row, b, o', h1, rfl, h3, h4⟩ := hx
          refine ⟨_, hrun _ _, row, b, o', h1, ?_, h3, h4⟩
          show Value.pointer (some ⟨b, o' + (eIx (gd p 0) * row.length + o) + f.offset, none⟩) = Value.pointer (some ⟨b, o' + (eIx (gd p 0) * row.length + (o + f.offset)), none⟩)
          rw [Nat.add_assoc, Nat.add_assoc]
        | some tk =>
          obtain ⟨row, h1, rfl, h3⟩ := hx
          refine ⟨_, hrun _ _, row, h1, ?_, h3⟩
          show Value.pointer (some ⟨g.ρ tk, eIx (gd p 0) * row.length + o + f.offset, none⟩) = Value.pointer (some ⟨g.ρ tk, eIx (gd p 0) * row.length + (o + f.offset), none⟩)
          rw [Nat.add_assoc]
      | cptr cells o =>
        simp only [addOff, Option.some.injEq] at h
        subst h
        obtain ⟨b, o', rfl, h3⟩ : CptrV P w g base cells o (gd p 0) u := hx
        refine ⟨_, hrun _ _, b, o', ?_, h3⟩
        show Value.pointer (some ⟨b, o' + o + f.offset, none⟩) = Value.pointer (some ⟨b, o' + (o + f.offset), none⟩)
        rw [Nat.add_assoc]
      | _ => cases h

theorem field_ok {t i off ft n : Nat} {ag : Bool} {cs : List Ce} {p : List D} {r : T} {u : Value} (hf : tField P t i = some (off, ft)) (ha : tAgg P ft = some ag) (hn : tSize P ft = some n) (h : cut ag n off cs p = some r)
    (hx : VT P w g base ⟨.one (.agg cs), p⟩ u) : ∃ z, (∀ w' : World, True → (Instr.field t u i).run P w' = .ok z w') ∧ VT P w g base r z := by
  obtain ⟨fs, f, hu, hfi, rfl, rfl⟩ := tField_ok hf
  obtain ⟨arr, rfl, hsz, hv⟩ := hx
  have hrun : ∀ w, (Instr.field t (.agg arr) i).run P w = (part f.type arr f.offset).run P w := by
    intro w
    unfold Instr.field
    simp only [Sem.run_bind, run_underlying hu, Result.andThen_ok, hfi, asAgg, Sem.run_pure]
  simp only [hrun]
  unfold cut at h
  cases hb : Nat.ble (f.offset + n) cs.length with
  | false => rw [hb] at h; cases h
  | true =>
    rw [hb] at h
    have hle : f.offset + n ≤ cs.length := Nat.le_of_ble_eq_true hb
    simp only [cond_true] at h
    unfold part
    simp only [Sem.run_bind, run_agg ha, Result.andThen_ok]
    cases ag with
    | true =>
      simp only [cond_true, Option.some.injEq] at h
      subst h
      simp only [if_true, Sem.run_bind, run_size hn, Result.andThen_ok, Sem.run_pure]
      refine ⟨_, fun _ _ => rfl, _, rfl, by simp; omega, fun j c hj => ?_⟩
      have hjn : j < n := by
        have := (List.getElem?_eq_some_iff.1 hj).1
        simp at this; omega
      rw [List.getElem?_take, if_pos hjn, List.getElem?_drop] at hj
      obtain ⟨u, h1, h2⟩ := hv _ c hj
      refine ⟨u, ?_, by rw [gd_sub _ _ _ _ hjn]; exact h2⟩
      rw [Array.getElem?_extract, if_pos (by omega)]
      exact h1
    | false =>
      simp only [cond_false] at h
      cases ho : cs[f.offset]? with
      | none => rw [ho] at h; cases h
      | some c =>
        rw [ho] at h
        cases hn1 : (n == 1) with
        | false => simp only [hn1, cond_false, reduceCtorEq] at h
        | true =>
          simp only [hn1, cond_true, Option.some.injEq] at h
          subst h
          obtain ⟨u, h1, h2⟩ := hv _ c ho
          simp only [Bool.false_eq_true, if_false, h1, Sem.run_pure]
          exact ⟨u, fun _ _ => rfl, h2⟩

theorem index_ok {t : TypeId} {x i : T} {d : D} {n : Int} {u v : Value} (hs : x.sc = some (.str, d)) (hi : i.intOf = some n) (hx : VT P w g base x u) (hv : VT P w g base i v) (hn : inRange n d.str.length = true) (ht : P.underlying t = some .string) :
    ∃ z, (∀ w' : World, True → (Instr.index t u v).run P w' = .ok z w') ∧ VT P w g base (.c (.d (.int .u8)) (.i ((d.str.getD n.toNat 0).toNat : Int))) z := by
  have h1 := sc_ok hs hx
  cases h1
  obtain ⟨k, rfl⟩ := int_ok hi hv
  obtain ⟨h0, h1, h2⟩ := inRange_ok hn
  refine ⟨_, ?_, ret_i _ _⟩
  intro w' _
  unfold Instr.index
  simp only [asIntOf, Sem.run_bind, Sem.run_pure, Result.andThen_ok, run_underlying ht, if_pos h0, bsv_get]
  rw [List.getElem?_eq_getElem h2]
  simp only [Sem.run_pure]
  congr 1
  simp [List.getD_eq_getElem?_getD, List.getElem?_eq_getElem h2]

theorem sub_sub (p : List D) : ∀ (n o : Nat) (m k : Nat), k + m ≤ n → sub (sub p o n) k m = sub p (o + k) m := by
  intro n o m
  induction m with
  | zero => intro k h; rfl
  | succ m ih =>
    intro k h
    rw [sub, sub, gd_sub _ _ _ _ (by omega), ih (k + 1) (by omega), Nat.add_assoc]

theorem extract_ok {vs : List Sh1} {p : List D} {i : Nat} {x : Sh1} {u : Value} (hi : vs[i]? = some x) (hx : VT P w g base ⟨.tup vs, p⟩ u) :
    ∃ z, (∀ w' : World, True → (Instr.extract u i).run P w' = .ok z w') ∧ VT P w g base ⟨.one x, sub p (offs vs i) x.size⟩ z := by
  obtain ⟨arr, rfl, hs, hv⟩ := hx
  obtain ⟨z, h1, h2⟩ := hv i x hi
  exact ⟨z, by intro w' _; simp [Instr.extract, h1], h2⟩

theorem bound_ok {lo : Option T} {dflt l : Int} {lv : Option Value} (h : bound dflt lo = some l) (hl : ∀ x v, lo = some x → lv = some v → VT P w g base x v) (hs : lo.isSome = lv.isSome) :
    (lo = none ∧ lv = none ∧ l = dflt) ∨ ∃ k, lv = some (.int k l) := by
  cases lo with
  | none => cases lv with
    | none => simp only [bound, Option.some.injEq] at h; exact .inl ⟨rfl, rfl, h.symm⟩
    | some v => cases hs
  | some x => cases lv with
    | none => cases hs
    | some v =>
      obtain ⟨k, e⟩ := int_ok (show x.intOf = some l from h) (hl x v rfl rfl)
      exact .inr ⟨k, by rw [e]⟩

theorem run_sliceBound {k : IntKind} {x : Int} {y : Nat} {code : BoundsCode} (h0 : 0 ≤ x) (h1 : x ≤ y) : (Instr.sliceBound (.int k x) y code).run P w = .ok x.toNat w := by
  simp [Instr.sliceBound, asIntOf, h0, h1]
theorem run_sliceBounds {b : Bool} {len cap : Nat} {lv hv : Option Value} {l h : Int} (h0 : 0 ≤ l) (h1 : l ≤ h) (h2 : h ≤ len) (hc : len ≤ cap)
    (hl : (lv = none ∧ l = 0) ∨ ∃ k, lv = some (.int k l)) (hh : (hv = none ∧ h = len) ∨ ∃ k, hv = some (.int k h)) : (Instr.sliceBounds b len cap lv hv none).run P w = .ok (l.toNat, h.toNat, cap) w := by
  unfold Instr.sliceBounds
  rcases hh with ⟨rfl, rfl⟩ | ⟨k, rfl⟩ <;> rcases hl with ⟨rfl, rfl⟩ | ⟨k', rfl⟩
  · simp
  · simp only [Sem.run_bind, Sem.run_pure, Result.andThen_ok]
    rw [run_sliceBound h0 h1]
    simp
  · simp only [Sem.run_bind, Sem.run_pure, Result.andThen_ok]
    rw [run_sliceBound (by omega) (by omega)]
    simp
  · simp only [Sem.run_bind, Sem.run_pure, Result.andThen_ok]
    rw [run_sliceBound (by omega) (by omega)]
    simp only [Result.andThen_ok]
    rw [run_sliceBound h0 (by omega)]
    simp
theorem bound_nice {lo : Option T} {dflt l : Int} {lv : Option Value} (h : bound dflt lo = some l) (hl : ∀ x v, lo = some x → lv = some v → VT P w g base x v) (hs : lo.isSome = lv.isSome) :
    (lv = none ∧ l = dflt) ∨ ∃ k, lv = some (.int k l) := by
  rcases bound_ok h hl hs with ⟨_, h1, h2⟩ | h
  · exact .inl ⟨h1, h2⟩
  · exact .inr h

theorem evSlice_ok {t : TypeId} {x r : T} {lo hi : Option T} {u : Value} {lv hv : Option Value} (h : evSlice P t x lo hi = some (r, true)) (hx : VT P w g base x u)
    (hl : ∀ x v, lo = some x → lv = some v → VT P w g base x v) (hls : lo.isSome = lv.isSome) (hh : ∀ x v, hi = some x → hv = some v → VT P w g base x v) (hhs : hi.isSome = hv.isSome) :
    ∃ z, (∀ w' : World, True → (Instr.sliceAt t u lv hv none).run P w' = .ok z w') ∧ VT P w g base r z := by
  unfold evSlice at h
  split at h
  · rename_i d ex
    have hvd := sc_ok ex hx
    cases hvd
    split at h
    · rename_i l hb e1 e2
      cases ht : isStrT P t with
      | false => rw [ht] at h; cases h
      | true =>
        rw [ht] at h
        simp only [Bool.not_true, cond_false, Option.some.injEq, Prod.mk.injEq, Bool.and_eq_true, decide_eq_true_eq] at h
        obtain ⟨rfl, ⟨h0, h1⟩, h2⟩ := h
        have b1 := bound_nice e1 hl hls
        have b2 := bound_nice e2 hh hhs
        refine ⟨.string (bsv ((d.str.take hb.toNat).drop l.toNat)), ?_, VD.str (.s _)⟩
        intro w' _
        simp only [Instr.sliceAt, Instr.slice, Sem.run_bind, run_underlying (isStrT_ok ht), Result.andThen_ok, Option.isSome_none, Bool.false_eq_true, if_false]
        rw [run_sliceBounds (len := (bsv d.str).size) h0 h1 (by rw [bsv_size]; exact h2) (Nat.le_refl _) b1 (by rw [bsv_size]; exact b2)]
        simp [bsv_extract]
    · cases h
  · rename_i e d ex
    have hvd := sc_ok ex hx
    cases hvd with
    | sl _ _ A c row u hr k1 k2 k3 k4 =>
      split at h
      · rename_i l hb e1 e2
        cases ht : (tElem P t == some e) with
        | false => rw [ht] at h; cases h
        | true =>
          rw [ht] at h
          have ht : tElem P t = some e := by simpa using ht
          simp only [Bool.not_true, cond_false, Option.some.injEq, Prod.mk.injEq, Bool.and_eq_true, decide_eq_true_eq] at h
          obtain ⟨rfl, ⟨h0, h1⟩, h2⟩ := h
          have b1 := bound_nice e1 hl hls
          have b2 := bound_nice e2 hh hhs
          have hlen : ((d.rows.take hb.toNat).drop l.toNat).length = hb.toNat - l.toNat := by
            rw [List.length_drop, List.length_take]; omega
          refine ⟨.slice (if c = l.toNat then A else A.map (·.add (l.toNat * row.length))) (hb.toNat - l.toNat) (c - l.toNat), ?_, ?_⟩
          · intro w' _
            simp only [Instr.sliceAt, Instr.slice, Sem.run_bind, run_underlying (tElem_und ht), Result.andThen_ok]
            rw [run_sliceBounds (len := d.rows.length) h0 h1 h2 k1 b1 b2]
            simp only [Result.andThen_ok, Sem.run_bind, run_size (rowOf_size hr), Sem.run_pure]
          · show VD P w g.prot (.sl e) (.l ((d.rows.take hb.toNat).drop l.toNat)) _
            rw [← hlen]
            refine VD.sl e (.l ((d.rows.take hb.toNat).drop l.toNat)) _ (c - l.toNat) row (fun i j => u (l.toNat + i) j) hr (Nat.le_trans (Nat.le_of_eq hlen) (by omega)) (by omega) ?_ ?_
            · intro i j hi hj
              have hi : i < hb.toNat - l.toNat := by rw [← hlen]; exact hi
              obtain ⟨b, o, q1, q2, q3⟩ := k3 (l.toNat + i) j (by omega) hj
              refine ⟨b, o + l.toNat * row.length, ?_, ?_, ?_⟩
              · rw [if_neg (by omega), q1, Option.map_some, addr_add]
              · rw [show o + l.toNat * row.length + (i * row.length + j) = o + ((l.toNat + i) * row.length + j) from by rw [Nat.add_mul]; omega]
                exact q2
              · rw [show o + l.toNat * row.length + (i * row.length + j) = o + ((l.toNat + i) * row.length + j) from by rw [Nat.add_mul]; omega]
                exact q3
            · intro i j s hi hs
              have hi : i < hb.toNat - l.toNat := by rw [← hlen]; exact hi
              have := k4 (l.toNat + i) j s (by omega) hs
              have e : ((d.rows.take hb.toNat).drop l.toNat).getD i [] = d.rows.getD (l.toNat + i) [] := by
                rw [List.getD_eq_getElem?_getD, List.getD_eq_getElem?_getD, List.getElem?_drop, List.getElem?_take, if_pos (by omega)]
              show VD P w g.prot s (gd (((d.rows.take hb.toNat).drop l.toNat).getD i []) j) _
              rw [e]
              exact this
      · cases h
  · cases h

theorem pick_sc {s : S} {x y : D} {u v : Value} {b : Bool} (hx : VD P w g.prot s x u) (hy : VD P w g.prot s y v) : VD P w g.prot s (bif b then x else y) (if b then u else v) := by
  cases b
  · exact hy
  · exact hx

theorem capOf_ok {x : T} {c : Cap} {d : D} {u : Value} (h : capOf x = some (c, d)) (hx : VT P w g base x u) : CapV P w g base c d u := by
  obtain ⟨sh, p⟩ := x
  cases sh with
  | tup xs => cases h
  | one x => cases x with
    | agg xs => cases h
    | c x => cases x with
      | ptr id off => simp only [capOf, Option.some.injEq, Prod.mk.injEq] at h; obtain ⟨rfl, rfl⟩ := h; exact hx
      | cptr cells off => simp only [capOf, Option.some.injEq, Prod.mk.injEq] at h; obtain ⟨rfl, rfl⟩ := h; exact hx
      | d s => simp only [capOf, Option.some.injEq, Prod.mk.injEq] at h; obtain ⟨rfl, rfl⟩ := h; exact hx
      | _ => cases h
theorem capsOf_ok (ho : ∀ x, VT P w g base (opd σ x) (a.eval x)) : ∀ {xs : List Operand} {cs : List Cap} {ds : List D}, capsOf σ xs = some (cs, ds) → cs.length = xs.length ∧ ∀ (j : Nat) c, cs[j]? = some c → ∃ x, xs[j]? = some x ∧ CapV P w g base c (gd ds j) (a.eval x)
  | [], cs, ds, h => by
    simp only [capsOf, Option.some.injEq, Prod.mk.injEq] at h
    obtain ⟨rfl, rfl⟩ := h
    exact ⟨rfl, fun j c h => by simp at h⟩
  | x :: xs, cs, ds, h => by
    unfold capsOf at h
    split at h
    · rename_i c d cs' ds' h1 h2
      simp only [Option.some.injEq, Prod.mk.injEq] at h
      obtain ⟨rfl, rfl⟩ := h
      obtain ⟨k1, k2⟩ := capsOf_ok ho h2
      refine ⟨by simp [k1], fun j c' hj => ?_⟩
      cases j with
      | zero =>
        simp only [List.getElem?_cons_zero, Option.some.injEq] at hj
        subst hj
        exact ⟨x, rfl, capOf_ok h1 (ho x)⟩
      | succ j =>
        obtain ⟨y, q1, q2⟩ := k2 j c' (by simpa using hj)
        exact ⟨y, by simpa using q1, by rw [gd_cons_succ]; exact q2⟩
    · cases h

/-- an operation that only computes: what it hands out -/
theorem evQ_ok (hr : Rel P w g base σ a) {o : Oper} {r : T} (h : evQ P σ o = some (r, true)) : ∃ z, (∀ w', (Below w.heap.size w w' ∨ noMem o = true) → (execOp a.eval o).run P w' = .ok (.value z) w') ∧ VT P w g base r z := by
  obtain ⟨dst, op, ty, pos, after, guard⟩ := o
  have ho := fun x => opd_ok hr x
  cases op with
  | move x =>
    simp only [evQ, Option.some.injEq, Prod.mk.injEq, and_true] at h
    subst h
    exact ⟨_, by intro w' _; simp [execOp], ho x⟩
  | assign x =>
    simp only [evQ, Option.some.injEq, Prod.mk.injEq, and_true] at h
    subst h
    exact ⟨_, by intro w' _; simp [execOp], ho x⟩
  | pick c x y =>
    simp only [evQ] at h
    split at h
    · rename_i t e
      simp only [Option.some.injEq, Prod.mk.injEq, and_true] at h
      subst h
      have hc := ho c
      have hcb : a.eval c = .bool t := by
        generalize opd σ c = q at *
        obtain ⟨sh, p⟩ := q
        simp only at e
        subst e
        exact hc
      refine ⟨if t then a.eval x else a.eval y, by intro w' _; simp [execOp, hcb, asBool], ?_⟩
      cases t
      · exact ho y
      · exact ho x
    · rename_i s x' s' y' e1 e2 e3
      cases hss : (s == s') with
      | false => rw [hss] at h; cases h
      | true =>
        rw [hss] at h
        have hss : s = s' := by simpa using hss
        subst hss
        simp only [cond_true, Option.some.injEq, Prod.mk.injEq, and_true] at h
        subst h
        have hc := ho c
        have hcb : a.eval c = .bool (gd (opd σ c).p 0).bool := by
          generalize hq : opd σ c = q at *
          obtain ⟨sh, p⟩ := q
          simp only at e1
          subst e1
          have hc : VD P w g.prot .bool (gd p 0) (a.eval c) := hc
          generalize a.eval c = vv at *
          cases hc
          rfl
        exact ⟨_, by intro w' _; simp only [execOp, hcb, asBool, Sem.run_bind, Sem.run_pure, Result.andThen_ok], pick_sc (sc_ok e2 (ho x)) (sc_ok e3 (ho y))⟩
    · cases h
  | load t x =>
    simp only [evQ] at h
    cases hl : evLoad P t σ (opd σ x) with
    | none => rw [hl] at h; cases h
    | some r' =>
      rw [hl] at h
      simp only [Option.map_some, Option.some.injEq, Prod.mk.injEq, and_true] at h
      subst h
      obtain ⟨z, h1, h2⟩ := evLoad_ok hr hl (ho x)
      exact ⟨z, fun w' hw => by simp only [execOp, Sem.run_bind, h1 w' (hw.resolve_right (by simp [noMem])), Result.andThen_ok, Sem.run_pure], h2⟩
  | fieldAddr t x i =>
    simp only [evQ] at h
    split at h
    · rename_i off ft hf
      split at h
      · rename_i n hn
        cases hl : addOff (opd σ x) off with
        | none => rw [hl] at h; cases h
        | some r' =>
          rw [hl] at h
          simp only [Option.map_some, Option.some.injEq, Prod.mk.injEq, and_true] at h
          subst h
          obtain ⟨z, h1, h2⟩ := fieldAddr_ok hf hn (by omega) hl (ho x)
          exact ⟨z, fun w' hw => by simp only [execOp, Sem.run_bind, h1 w' trivial, Result.andThen_ok, Sem.run_pure], h2⟩
      · cases h
    · cases h
  | field t x i =>
    simp only [evQ] at h
    split at h
    · rename_i off ft cs hf hsh
      split at h
      · rename_i ag n ha hn
        cases hl : cut ag n off cs (opd σ x).p with
        | none => rw [hl] at h; cases h
        | some r' =>
          rw [hl] at h
          simp only [Option.map_some, Option.some.injEq, Prod.mk.injEq, and_true] at h
          subst h
          have hx := ho x
          have hx : VT P w g base ⟨.one (.agg cs), (opd σ x).p⟩ (a.eval x) := by rw [← hsh]; exact hx
          obtain ⟨z, h1, h2⟩ := field_ok hf ha hn hl hx
          exact ⟨z, fun w' hw => by simp only [execOp, Sem.run_bind, h1 w' trivial, Result.andThen_ok, Sem.run_pure], h2⟩
      · cases h
    · cases h
  | indexAddr t x i =>
    simp only [evQ] at h
    split at h
    · rename_i e he
      obtain ⟨z, h1, h2⟩ := evIndexAddr_ok he h (ho x) (ho i)
      exact ⟨z, fun w' hw => by simp only [execOp, Sem.run_bind, h1 w' trivial, Result.andThen_ok, Sem.run_pure], h2⟩
    · cases h
  | index t x i =>
    simp only [evQ] at h
    split at h
    · rename_i d n e1 e2
      cases ht : isStrT P t with
      | false => rw [ht] at h; cases h
      | true =>
        rw [ht] at h
        simp only [Bool.not_true, cond_false, Option.some.injEq, Prod.mk.injEq] at h
        obtain ⟨rfl, hn⟩ := h
        obtain ⟨z, h1, h2⟩ := index_ok e1 e2 (ho x) (ho i) hn (isStrT_ok ht)
        exact ⟨z, fun w' hw => by simp only [execOp, Sem.run_bind, h1 w' trivial, Result.andThen_ok, Sem.run_pure], h2⟩
    · cases h
  | binOp op t x y t2 =>
    simp only [evQ] at h
    obtain ⟨z, h1, h2⟩ := evBin_ok t h x y (ho x) (ho y)
    exact ⟨z, fun w' hw => by simp only [execOp]; rw [Sem.run_bind, h1 w' trivial]; simp, h2⟩
  | unOp op t x =>
    simp only [evQ] at h
    cases hl : evUn op (opd σ x) with
    | none => rw [hl] at h; cases h
    | some r' =>
      rw [hl] at h
      simp only [Option.map_some, Option.some.injEq, Prod.mk.injEq, and_true] at h
      subst h
      obtain ⟨z, h1, h2⟩ := evUn_ok hl (ho x)
      exact ⟨z, fun w' hw => by simp only [execOp, Sem.run_bind, h1 w' trivial, Result.andThen_ok, Sem.run_pure], h2⟩
  | extract t i =>
    simp only [evQ] at h
    split at h
    · rename_i vs hsh
      split at h
      · rename_i x hx
        simp only [Option.some.injEq, Prod.mk.injEq, and_true] at h
        subst h
        have ht := ho t
        have ht : VT P w g base ⟨.tup vs, (opd σ t).p⟩ (a.eval t) := by rw [← hsh]; exact ht
        obtain ⟨z, h1, h2⟩ := extract_ok hx ht
        exact ⟨z, fun w' hw => by simp only [execOp, Sem.run_bind, h1 w' trivial, Result.andThen_ok, Sem.run_pure], h2⟩
      · cases h
    · cases h
  | slice t x lo hi mx =>
    cases mx with
    | some m => simp only [evQ] at h; cases h
    | none =>
      simp only [evQ] at h
      obtain ⟨z, h1, h2⟩ := evSlice_ok (lv := lo.map a.eval) (hv := hi.map a.eval) h (ho x) (by
          intro x' v e1 e2
          cases lo with
          | none => cases e1
          | some l => simp only [Option.map_some, Option.some.injEq] at e1 e2; subst e1; subst e2; exact ho l) (by cases lo <;> rfl) (by
          intro x' v e1 e2
          cases hi with
          | none => cases e1
          | some l => simp only [Option.map_some, Option.some.injEq] at e1 e2; subst e1; subst e2; exact ho l) (by cases hi <;> rfl)
      exact ⟨z, fun w' hw => by simp only [execOp, Option.map_none, Sem.run_bind, h1 w' trivial, Result.andThen_ok, Sem.run_pure], h2⟩
  | convert t1 t2 x =>
    simp only [evQ] at h
    split at h
    · rename_i d1 k k' d h1 h2 h3
      simp only [Option.some.injEq, Prod.mk.injEq, and_true] at h
      subst h
      have hv := sc_ok h3 (ho x)
      generalize hq : a.eval x = u at hv
      cases hv
      refine ⟨_, ?_, ret_i _ _⟩
      intro w' _
      simp only [execOp, hq, convert, Sem.run_bind, run_underlying h1, run_underlying h2, Result.andThen_ok]
      cases d1 <;> simp [Conv.intToInt]
    · rename_i d1 d h1 h2 h3
      simp only [Option.some.injEq, Prod.mk.injEq, and_true] at h
      subst h
      have hv := sc_ok h3 (ho x)
      generalize hq : a.eval x = u at hv
      cases hv
      refine ⟨_, ?_, VD.str d⟩
      intro w' _
      simp only [execOp, hq, convert, Sem.run_bind, run_underlying h1, run_underlying h2, Result.andThen_ok]
      cases d1 <;> simp
    · cases h
  | makeFunc fn first caps =>
    cases fn with
    | func f =>
      simp only [evQ] at h
      cases he : first.isEmpty with
      | false => rw [he] at h; cases h
      | true =>
        rw [he] at h
        simp only [cond_true] at h
        split at h
        · rename_i cs ds hc
          simp only [Option.some.injEq, Prod.mk.injEq, and_true] at h
          subst h
          have he : first = #[] := by simpa using he
          subst he
          obtain ⟨k1, k2⟩ := capsOf_ok ho hc
          refine ⟨.func (.func f) #[] (caps.map a.eval), fun w' _ => by simp [execOp, Instr.makeFunc], caps.map a.eval, rfl, by simp [k1], fun j c hj => ?_⟩
          obtain ⟨x, q1, q2⟩ := k2 j c hj
          refine ⟨a.eval x, ?_, q2⟩
          have : caps[j]? = some x := by simpa using q1
          rw [Array.getElem?_map, this]; rfl
        · cases h
    | _ => simp only [evQ] at h; cases h
  | call c =>
    obtain ⟨callee, args, ts⟩ := c
    cases callee with
    | builtin b =>
      cases b with
      | len =>
        simp only [evQ] at h
        split at h
        · rename_i x t e1 e2
          cases hl : evLen P t (opd σ x) with
          | none => rw [hl] at h; cases h
          | some r' =>
            rw [hl] at h
            simp only [Option.map_some, Option.some.injEq, Prod.mk.injEq, and_true] at h
            subst h
            obtain ⟨z, h1, h2⟩ := evLen_ok hl (ho x) ty
            have ea : args = #[x] := by cases args; simp_all
            have et : ts = #[t] := by cases ts; simp_all
            subst ea; subst et
            refine ⟨z, fun w' hw => ?_, h2⟩
            simp only [execOp, resolve, invoke, builtin, Sem.run_bind, Sem.run_pure, Result.andThen_ok, List.map_toArray, List.map_cons, List.map_nil, h1 w' trivial]
        · cases h
      | _ => simp only [evQ] at h; cases h
    | _ => simp only [evQ] at h; cases h
  | _ => simp only [evQ] at h; cases h
end
end Go.Proofs.YtchceahcaaibcaaGreat
