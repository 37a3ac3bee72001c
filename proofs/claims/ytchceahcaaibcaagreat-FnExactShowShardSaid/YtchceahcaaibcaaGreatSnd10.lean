/-
  The evaluator is right: code, loops, functions.
-/
import Derived.Test.YtchceahcaaibcaaGreatSndD
namespace Go.Proofs.YtchceahcaaibcaaGreat
set_option linter.unusedSimpArgs false
open Go.RowKit
set_option linter.unusedVariables false
set_option linter.unusedSectionVars false

section
variable [Low] {P : Program} {w w' : World} {g g' : G} {base : Nat} {σ : St} {a : Act}

theorem leave_ok {o : Out} {σ : St} {kx : Nat → St → R} {key : Option Dom} {out : Nat × List D} : ∀ {ids : List Nat}, leave ids o σ kx = some (key, some out) → ∃ j ∈ ids, o.code = j + 2 ∧ ∃ k', kx j σ = some (k', some out)
  | [], h => by simp [leave] at h
  | [j], h => by
    obtain ⟨h1, h2⟩ := rneed_ok (show rneed (o.code == j + 2) (kx j σ) = _ from h)
    exact ⟨j, by simp, by simpa using h1, _, h2⟩
  | j :: k :: r, h => by
    obtain ⟨h1, h2⟩ := rcond_ok (show rcond (o.code == j + 2) (kx j σ) (leave (k :: r) o σ kx) = _ from h)
    by_cases hc : o.code = j + 2
    · obtain ⟨k', h1⟩ := h1 (by simpa using hc)
      exact ⟨j, by simp, hc, k', h1⟩
    · obtain ⟨k', h2⟩ := h2 (by simpa using hc)
      obtain ⟨i, q1, q2, q3⟩ := leave_ok h2
      exact ⟨i, by simp at q1 ⊢; exact .inr q1, q2, q3⟩
theorem leaf_ok {d : Dom} {code : Nat} {key : Option Dom} {out : Nat × List D} (h : leaf d code σ = some (key, some out)) : (restrictD d σ).dom = d ∧ σ.r = [] ∧ out = (code, (restrictD d σ).flat) := by
  unfold leaf at h
  cases hc : ((restrictD d σ).dom == d && σ.r.isEmpty) with
  | false => rw [hc] at h; cases h
  | true =>
    rw [hc] at h
    simp only [cond_true, Option.some.injEq, Prod.mk.injEq] at h
    simp only [Bool.and_eq_true, beq_iff_eq] at hc
    exact ⟨hc.1, by simpa using hc.2, h.2.symm⟩
theorem retLeaf_ok {x : Option (List D)} {key : Option Dom} {out : Nat × List D} (h : retLeaf x = some (key, some out)) : ∃ p, x = some p ∧ out = (1, p) := by
  unfold retLeaf at h
  split at h
  · rename_i p
    simp only [Option.some.injEq, Prod.mk.injEq] at h
    exact ⟨p, rfl, h.2.symm⟩
  · cases h
theorem stepOut_ok {r : R} {x : Nat × List D} (h : stepOut r = some x) : ∃ key, r = some (key, some x) := by
  unfold stepOut at h
  split at h
  · rename_i k o
    subst h
    exact ⟨k, rfl⟩
  · cases h

theorem joinOut_ok {rets : Bool} {ids : List Nat} {code : Nat} {pay : List D} {τ : St} {kn : St → R} {kx : Nat → St → R} {kr : Option (List D) → R} {key : Option Dom} {out : Nat × List D}
    (h : joinOut rets ids (some (code, pay)) τ kn kx kr = some (key, some out)) :
    (code = 0 ∧ ∃ k, kn τ = some (k, some out)) ∨ (code = 1 ∧ ∃ k, kr (some pay) = some (k, some out)) ∨ ∃ j, code = j + 2 ∧ ∃ k, kx j τ = some (k, some out) := by
  have c0 : ∀ {x : R} {k : Option Dom}, rcond (Out.code (some (code, pay)) == 0) (kn τ) x = some (k, some out) → (code = 0 ∧ ∃ k, kn τ = some (k, some out)) ∨ ∃ k, x = some (k, some out) := by
    intro x k h
    obtain ⟨h1, h2⟩ := rcond_ok h
    by_cases hc : code = 0
    · exact .inl ⟨hc, h1 (by simpa [Out.code] using hc)⟩
    · exact .inr (h2 (by simpa [Out.code] using hc))
  have lv : ∀ {ids : List Nat} {k : Option Dom}, leave ids (some (code, pay)) τ kx = some (k, some out) → ∃ j, code = j + 2 ∧ ∃ k, kx j τ = some (k, some out) := by
    intro ids k h
    obtain ⟨j, _, h1, k2, h2⟩ := leave_ok h
    exact ⟨j, h1, k2, h2⟩
  unfold joinOut at h
  split at h
  · obtain ⟨h1, h2⟩ := rneed_ok h
    exact .inl ⟨by simpa [Out.code] using h1, _, h2⟩
  · rcases c0 h with h | ⟨k, h⟩
    · exact .inl h
    · obtain ⟨h1, h2⟩ := rneed_ok h
      exact .inr (.inl ⟨by simpa [Out.code] using h1, _, h2⟩)
  · rcases c0 h with h | ⟨k, h⟩
    · exact .inl h
    · exact .inr (.inr (lv h))
  · rcases c0 h with h | ⟨k, h⟩
    · exact .inl h
    · obtain ⟨h1, h2⟩ := rcond_ok h
      by_cases hc : code = 1
      · exact .inr (.inl ⟨hc, h1 (by simpa [Out.code] using hc)⟩)
      · obtain ⟨k', h2⟩ := h2 (by simpa [Out.code] using hc)
        exact .inr (.inr (lv h2))

theorem gd_wideDs : ∀ (cs : List Ce) (ds : List D) (i j : Nat) c, cs[j]? = some c → gd (wideDs cs ds i) j = wideD c (gd ds (i + j))
  | [], _, _, _, _, h => by simp at h
  | c :: cs, ds, i, 0, c', h => by simp at h; subst h; rfl
  | c :: cs, ds, i, j + 1, c', h => by
    have := gd_wideDs cs ds (i + 1) j c' (by simpa using h)
    show gd (wideDs cs ds (i + 1)) j = _
    rw [this, show i + 1 + j = i + (j + 1) from by omega]
theorem vc_wide {c : Ce} {x : D} {v : Value} (h : VC P w g base c x v) : VC P w g base (wideC c) (wideD c x) v := by
  cases c with
  | kb b =>
    have h : v = .bool b := h
    subst h
    exact VD.bool (.b b)
  | _ => exact h
theorem vcs_wide {cs : List Ce} {ds : List D} {arr : Array Value} (h : VCs P w g base cs ds arr) : VCs P w g base (cs.map wideC) (wideDs cs ds 0) arr := by
  refine ⟨by rw [h.1, List.length_map], fun j c hc => ?_⟩
  rw [List.getElem?_map] at hc
  obtain ⟨c0, h0, rfl⟩ := Option.map_eq_some_iff.1 hc
  obtain ⟨u, hu, hv⟩ := h.2 j c0 h0
  exact ⟨u, hu, by rw [gd_wideDs cs ds 0 j c0 h0, Nat.zero_add]; exact vc_wide hv⟩
theorem vt_wide {t : T} {v : Value} (h : VT P w g base t v) : VT P w g base t.wide v := by
  obtain ⟨sh, p⟩ := t
  match sh, h with
  | .one (.c c), h => exact vc_wide h
  | .one (.agg cs), ⟨arr, h1, h2⟩ => exact ⟨arr, h1, vcs_wide h2⟩
  | .tup xs, h => exact h
theorem look_wide (e : Env) (j : Nat) : look j (e.map fun p => (p.1, p.2.wide)) = (look j e).wide := by
  induction e with
  | nil => rfl
  | cons p e ih =>
    obtain ⟨i, v⟩ := p
    simp only [List.map_cons, look]
    cases (j == i) with
    | true => rfl
    | false => exact ih
theorem hlook_wide (h : Boxes) (j : Nat) : hlook j (h.map fun p => (p.1, p.2.1.map wideC, wideDs p.2.1 p.2.2 0)) = (hlook j h).map fun p => (p.1.map wideC, wideDs p.1 p.2 0) := by
  induction h with
  | nil => rfl
  | cons p h ih =>
    obtain ⟨i, v⟩ := p
    simp only [List.map_cons, hlook]
    cases (j == i) with
    | true => rfl
    | false => exact ih
theorem len_wideDs : ∀ (cs : List Ce) (ds : List D) (i : Nat), (wideDs cs ds i).length = cs.length
  | [], _, _ => rfl
  | c :: cs, ds, i => congrArg (· + 1) (len_wideDs cs ds (i + 1))
theorem Rel.wide (hr : Rel P w g base σ a) (hre : σ.r = []) : Rel P w g base σ.wide a := by
  refine ⟨fun i => ?_, fun id cs ds h => ?_, hr.fresh, hr.base_le, hr.defers, hr.low⟩
  · have := hr.env i
    rw [hre] at this
    show VT P w g base (look2 i (σ.e.map fun p => (p.1, p.2.wide)) σ.r) _
    rw [hre]
    show VT P w g base (look i (σ.e.map fun p => (p.1, p.2.wide))) _
    rw [look_wide]
    exact vt_wide this
  · have h : hlook id (σ.h.map fun p => (p.1, p.2.1.map wideC, wideDs p.2.1 p.2.2 0)) = some (cs, ds) := h
    rw [hlook_wide] at h
    obtain ⟨⟨cs0, ds0⟩, h0, h1⟩ := Option.map_eq_some_iff.1 h
    injection h1 with h1 h2
    subst h1; subst h2
    obtain ⟨q1, q2, q3, q4, arr, E, q5, q6⟩ := hr.box id cs0 ds0 h0
    exact ⟨q1, q2, q3, by rw [len_wideDs, List.length_map], arr, E, q5, vcs_wide q6⟩

theorem Rel.cut (hr : Rel P w g base σ a) (ks : List Nat) : Rel P w g base (σ.cut ks) a := by
  refine ⟨fun i => ?_, hr.box, hr.fresh, hr.base_le, hr.defers, hr.low⟩
  show VT P w g base (look2 i (dropAll (dropsOf ks) σ.e) σ.r) _
  rcases look2_dropAll i (dropsOf ks) σ.e σ.r with h | h
  · rw [h]; exact hr.env i
  · rw [h]; trivial

/-- a code that is left: at its end, by an exit, by a return -/
def Ends (P : Program) (base n : Nat) (w0 : World) (fin : St → Option (List D)) (out : Nat × List D) (kn : St → R) (kx : Nat → St → R) (kr : Option (List D) → R) (Q : Exit → Act → World → Prop) : Prop :=
  (∀ σ' w' g' a' key', kn σ' = some (key', some out) → Rel P w' g' base σ' a' → a'.tmps.size = n → Below base w0 w' → Q .normal a' w') ∧
  (∀ j σ' w' g' a' key', kx j σ' = some (key', some out) → Rel P w' g' base σ' a' → a'.tmps.size = n → Below base w0 w' → Q (.exit j) a' w') ∧
  (∀ σ' w' g' a' key', kr (fin σ') = some (key', some out) → Rel P w' g' base σ' a' → a'.tmps.size = n → Below base w0 w' → Q .ret a' w')

theorem evCode_ok {call : FuncId → List T → Option (T × Bool)} (hcall : CallOk P call) {N : Nat} {ks : List Nat} {fin : St → Option (List D)} {n : Nat} {w0 : World} :
    ∀ (c : Code) (σ : St) (kn : St → R) (kx : Nat → St → R) (kr : Option (List D) → R) (key : Option Dom) (out : Nat × List D) (w : World) (g : G) (a : Act) (Q : Exit → Act → World → Prop),
      dstsOk n c = true → evCode P call N ks fin c σ kn kx kr = some (key, some out) → Rel P w g base σ a → a.tmps.size = n → Below base w0 w → Ends P base n w0 fin out kn kx kr Q → c.wp P Q a w := by
  intro c
  induction c with
  | skip =>
    intro σ kn kx kr key out w g a Q hd h hr hn hb hE
    exact wp_skip (hE.1 σ w g a key h hr hn hb)
  | region id ops draw =>
    intro σ kn kx kr key out w g a Q hd h hr hn hb hE
    have hops : ∀ o ∈ ops.toList, ∀ d, o.dst = some d → d < n := fun o ho d hdo => by
      have := List.all_eq_true.1 hd o ho
      rw [hdo] at this
      exact Nat.le_of_ble_eq_true this
    simp only [evCode] at h
    have hr := hr.cut ks
    generalize σ.cut ks = σ at *
    cases hj : (joinsOf ks).contains (1000000 + id) with
    | true =>
      rw [hj, cond_true] at h
      split at h
      · rename_i d _ _
        split at h
        · rename_i kk oo hev
          obtain ⟨hsome, h⟩ := rneed_ok h
          obtain ⟨⟨code, pay⟩, rfl⟩ := Option.isSome_iff_exists.1 hsome
          have at0 : ∀ σ' w' g' a' key', leaf d 0 (σ'.settle ks).wide = some (key', some (code, pay)) → Rel P w' g' base σ' a' → a'.tmps.size = n → Below base w0 w' → Q .normal a' w' := by
            intro σ' w' g' a' key' h1 h2 h3 h4
            obtain ⟨q1, q2, q3⟩ := leaf_ok h1
            injection q3 with q3 q4
            subst q3; subst q4
            have := (((h2.settle ks).wide rfl).restrictD q2 d).mkSt rfl
            rw [q1] at this
            exact hE.1 _ w' g' a' key h this h3 h4
          cases draw with
          | true => exact evDraw_ok hcall hops at0 hev hr hn hb
          | false =>
            exact wp_region_list (evOps_ok hcall at0 ops.toList σ w g a kk hops hops hev hr hn hb)
        · cases h
      · cases h
    | false =>
    rw [hj, cond_false] at h
    cases draw with
    | true => exact evDraw_ok hcall hops (fun σ' w' g' a' key' h1 h2 h3 h4 => hE.1 _ w' g' a' key' h1 (h2.settle ks) h3 h4) h hr hn hb
    | false =>
      exact wp_region_list (evOps_ok hcall (fun σ' w' g' a' key' h1 h2 h3 h4 => hE.1 _ w' g' a' key' h1 (h2.settle ks) h3 h4) ops.toList σ w g a key hops hops h hr hn hb)
  | seq x y ihx ihy =>
    intro σ kn kx kr key out w g a Q hd h hr hn hb hE
    simp only [dstsOk, Bool.and_eq_true] at hd
    refine wp_seq (ihx σ _ kx kr key out w g a _ hd.1 h hr hn hb ⟨fun σ' w' g' a' key' h1 h2 h3 h4 => ?_, fun j σ' w' g' a' key' h1 h2 h3 h4 => hE.2.1 j σ' w' g' a' key' h1 h2 h3 h4, fun σ' w' g' a' key' h1 h2 h3 h4 => hE.2.2 σ' w' g' a' key' h1 h2 h3 h4⟩)
    exact ihy σ' kn kx kr key' out w' g' a' Q hd.2 h1 h2 h3 h4 hE
  | cond c x y ihx ihy =>
    intro σ kn kx kr key out w g a Q hd h hr hn hb hE
    simp only [dstsOk, Bool.and_eq_true] at hd
    simp only [evCode] at h
    have hc := opd_ok hr c
    split at h
    · rename_i t hsh
      have hcv : a.eval c = .bool t := by
        generalize opd σ c = q at *
        obtain ⟨sh, p⟩ := q
        simp only at hsh
        subst hsh
        exact hc
      cases t with
      | true => exact wp_cond_true hcv (ihx σ kn kx kr key out w g a Q hd.1 h hr hn hb hE)
      | false => exact wp_cond_false hcv (ihy σ kn kx kr key out w g a Q hd.2 h hr hn hb hE)
    · rename_i hsh
      have hcv : a.eval c = .bool (gd (opd σ c).p 0).bool := by
        generalize opd σ c = q at *
        obtain ⟨sh, p⟩ := q
        simp only at hsh
        subst hsh
        exact vd_bool hc
      obtain ⟨h1, h2⟩ := rcond_ok h
      refine wp_cond_split hcv (fun ht => ?_) (fun hf => ?_)
      · obtain ⟨k', h1⟩ := h1 ht
        exact ihx σ kn kx kr k' out w g a Q hd.1 h1 hr hn hb hE
      · obtain ⟨k', h2⟩ := h2 hf
        exact ihy σ kn kx kr k' out w g a Q hd.2 h2 hr hn hb hE
    · cases h
  | block id x ih =>
    intro σ kn kx kr key out w g a Q hd h hr hn hb hE
    simp only [evCode] at h
    cases hj : (joinsOf ks).contains id with
    | true =>
      rw [hj, cond_true] at h
      split at h
      · rename_i d _ _
        split at h
        · rename_i kk oo hev
          obtain ⟨hsome, h⟩ := rneed_ok h
          obtain ⟨⟨code, pay⟩, rfl⟩ := Option.isSome_iff_exists.1 hsome
          have hjo := joinOut_ok h
          have at0 : ∀ σ' w' g' a' key', leaf d 0 σ' = some (key', some (code, pay)) → Rel P w' g' base σ' a' → a'.tmps.size = n → Below base w0 w' → Q .normal a' w' := by
            intro σ' w' g' a' key' h1 h2 h3 h4
            obtain ⟨q1, q2, q3⟩ := leaf_ok h1
            injection q3 with q3 q4
            subst q3; subst q4
            have := (h2.restrictD q2 d).mkSt rfl
            rw [q1] at this
            rcases hjo with ⟨_, k, hk⟩ | ⟨hc, _⟩ | ⟨j, hc, _⟩
            · exact hE.1 _ w' g' a' k hk this h3 h4
            · omega
            · omega
          refine wp_block (ih σ _ _ _ kk (code, pay) w g a _ hd hev hr hn hb ⟨at0, fun j σ' w' g' a' key' h1 h2 h3 h4 => ?_, fun σ' w' g' a' key' h1 h2 h3 h4 => ?_⟩)
          · have h1 : (bif j == id then leaf d 0 else leaf d (j + 2)) σ' = some (key', some (code, pay)) := h1
            simp only [Exit.inBlock]
            by_cases e : j = id
            · rw [if_pos e]
              rw [show (j == id) = true from by simpa using e, cond_true] at h1
              exact at0 σ' w' g' a' key' h1 h2 h3 h4
            · rw [if_neg e]
              rw [show (j == id) = false from by simpa using e, cond_false] at h1
              obtain ⟨q1, q2, q3⟩ := leaf_ok h1
              injection q3 with q3 q4
              subst q3; subst q4
              have := (h2.restrictD q2 d).mkSt rfl
              rw [q1] at this
              rcases hjo with ⟨hc, _⟩ | ⟨hc, _⟩ | ⟨j', hc, k, hk⟩
              · omega
              · omega
              · obtain rfl : j' = j := by omega
                exact hE.2.1 j' _ w' g' a' k hk this h3 h4
          · obtain ⟨pp, q1, q2⟩ := retLeaf_ok h1
            injection q2 with q2 q3
            subst q2; subst q3
            rcases hjo with ⟨hc, _⟩ | ⟨_, k, hk⟩ | ⟨j', hc, _⟩
            · omega
            · exact hE.2.2 σ' w' g' a' k (by rw [q1]; exact hk) h2 h3 h4
            · omega
        · cases h
      · cases h
    | false =>
    rw [hj, cond_false] at h
    have hr := hr.shed ks x
    generalize σ.shed ks x = σ at *
    refine wp_block (ih σ _ _ kr key out w g a _ hd h hr hn hb ⟨fun σ' w' g' a' key' h1 h2 h3 h4 => hE.1 _ w' g' a' key' h1 (h2.restrict σ) h3 h4, fun j σ' w' g' a' key' h1 h2 h3 h4 => ?_, fun σ' w' g' a' key' h1 h2 h3 h4 => hE.2.2 σ' w' g' a' key' h1 h2 h3 h4⟩)
    have h1 : (bif j == id then kn (σ.restrict σ') else kx j σ') = some (key', some out) := h1
    simp only [Exit.inBlock]
    by_cases e : j = id
    · rw [if_pos e]
      rw [show (j == id) = true from by simpa using e, cond_true] at h1
      exact hE.1 _ w' g' a' key' h1 (h2.restrict σ) h3 h4
    · rw [if_neg e]
      rw [show (j == id) = false from by simpa using e, cond_false] at h1
      exact hE.2.1 j σ' w' g' a' key' h1 h2 h3 h4
  | loop x ih =>
    intro σ kn kx kr key out w g a Q hd h hr hn hb hE
    simp only [evCode] at h
    cases hre : σ.r.isEmpty with
    | false => rw [hre] at h; cases h
    | true =>
      rw [hre] at h
      have hre : σ.r = [] := by simpa using hre
      simp only [Bool.not_true, cond_false] at h
      split at h
      · rename_i heq
        obtain ⟨hsome, h⟩ := rneed_ok h
        generalize hstep : (fun p => stepOut (evCode P call N ks fin x (mkSt σ.dom p) (leaf σ.dom 0) (fun j => leaf σ.dom (j + 2)) retLeaf)) = step at *
        obtain ⟨oo, hoo⟩ := Option.isSome_iff_exists.1 hsome
        rw [hoo] at h
        obtain ⟨code, pay⟩ := oo
        -- where it ends
        have hend : (∀ j w' g' a', code = j + 2 → Rel P w' g' base (mkSt σ.dom pay) a' → a'.tmps.size = n → Below base w0 w' → Q (.exit j) a' w') ∧
            (∀ σ' w' g' a', code = 1 → fin σ' = some pay → Rel P w' g' base σ' a' → a'.tmps.size = n → Below base w0 w' → Q .ret a' w') := by
          have hlv : ∀ {k' : Option Dom}, leave (exitsOf x).eraseDups (some (code, pay)) (mkSt σ.dom (Out.pay (some (code, pay)))) kx = some (k', some out) → code ≠ 1 ∧ ∀ j w' g' a', code = j + 2 → Rel P w' g' base (mkSt σ.dom pay) a' → a'.tmps.size = n → Below base w0 w' → Q (.exit j) a' w' := by
            intro k' hl
            obtain ⟨j, _, h1, k2, h2⟩ := leave_ok hl
            have h1 : code = j + 2 := h1
            refine ⟨by omega, fun j' w' g' a' hj' hr' hn' hb' => ?_⟩
            obtain rfl : j' = j := by omega
            exact hE.2.1 j' _ w' g' a' k2 h2 hr' hn' hb'
          have hrt : ∀ {k' : Option Dom}, kr (some pay) = some (k', some out) → ∀ σ' w' g' a', code = 1 → fin σ' = some pay → Rel P w' g' base σ' a' → a'.tmps.size = n → Below base w0 w' → Q .ret a' w' := by
            intro k' hk σ' w' g' a' _ hf hr' hn' hb'
            exact hE.2.2 σ' w' g' a' k' (by rw [hf]; exact hk) hr' hn' hb'
          cases hh : hasRet x with
          | true =>
            rw [hh, cond_true] at h
            split at h
            · obtain ⟨h1, h2⟩ := rneed_ok h
              have h1 : code = 1 := by simpa [Out.code] using h1
              exact ⟨fun j w' g' a' hj => by omega, hrt h2⟩
            · obtain ⟨h1, h2⟩ := rcond_ok h
              by_cases hc : code = 1
              · obtain ⟨k', h1⟩ := h1 (by simpa [Out.code] using hc)
                exact ⟨fun j w' g' a' hj => by omega, hrt h1⟩
              · obtain ⟨k', h2⟩ := h2 (by simpa [Out.code] using hc)
                exact ⟨(hlv h2).2, fun σ' w' g' a' h => absurd h hc⟩
          | false =>
            rw [hh, cond_false] at h
            exact ⟨(hlv h).2, fun σ' w' g' a' h1 => absurd h1 (hlv h).1⟩
        -- the rounds
        refine wp_loop_ghost (fun m a w => ∃ p g, iter step m p = some (code, pay) ∧ Rel P w g base (mkSt σ.dom p) a ∧ a.tmps.size = n ∧ Below base w0 w) N ⟨σ.flat, g, hoo, hr.mkSt hre, hn, hb⟩ ?_
        rintro m a1 w1 ⟨p, g1, hit, hr1, hn1, hb1⟩
        cases m with
        | zero => cases hit
        | succ m =>
          unfold iter at hit
          cases hs : step p with
          | none => rw [hs] at hit; cases hit
          | some cp =>
            obtain ⟨code', pay'⟩ := cp
            rw [hs] at hit
            have hs' : stepOut (evCode P call N ks fin x (mkSt σ.dom p) (leaf σ.dom 0) (fun j => leaf σ.dom (j + 2)) retLeaf) = some (code', pay') := by rw [← hs, ← hstep]
            obtain ⟨k', hev⟩ := stepOut_ok hs'
            refine ih (mkSt σ.dom p) _ _ _ k' (code', pay') w1 g1 a1 _ hd hev hr1 hn1 hb1 ⟨fun σ' w' g' a' key' h1 h2 h3 h4 => ?_, fun j σ' w' g' a' key' h1 h2 h3 h4 => ?_, fun σ' w' g' a' key' h1 h2 h3 h4 => ?_⟩
            · obtain ⟨q1, q2, q3⟩ := leaf_ok h1
              injection q3 with q3 q4
              subst q3; subst q4
              have := (h2.restrictD q2 σ.dom).mkSt rfl
              rw [q1] at this
              exact ⟨m, Nat.lt_succ_self m, _, g', hit, this, h3, h4⟩
            · obtain ⟨q1, q2, q3⟩ := leaf_ok h1
              injection q3 with q3 q4
              subst q3; subst q4
              have := (h2.restrictD q2 σ.dom).mkSt rfl
              rw [q1] at this
              simp only [Option.some.injEq, Prod.mk.injEq] at hit
              obtain ⟨rfl, rfl⟩ := hit
              exact hend.1 j w' g' a' rfl this h3 h4
            · obtain ⟨pp, q1, q2⟩ := retLeaf_ok h1
              injection q2 with q2 q3
              subst q2; subst q3
              simp only [Option.some.injEq, Prod.mk.injEq] at hit
              obtain ⟨rfl, rfl⟩ := hit
              exact hend.2 σ' w' g' a' rfl q1 h2 h3 h4
      · cases h
  | exit id =>
    intro σ kn kx kr key out w g a Q hd h hr hn hb hE
    exact wp_exit (hE.2.1 id σ w g a key h hr hn hb)
  | ret =>
    intro σ kn kx kr key out w g a Q hd h hr hn hb hE
    exact wp_ret (hE.2.2 σ w g a key h hr hn hb)
  | _ =>
    intro σ kn kx kr key out w g a Q hd h hr hn hb hE
    simp only [evCode] at h
    cases h
end
end Go.Proofs.YtchceahcaaibcaaGreat
