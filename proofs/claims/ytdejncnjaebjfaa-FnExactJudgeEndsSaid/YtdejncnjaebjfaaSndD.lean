/-
  The evaluator is right: regions that draw their order.
-/
import Derived.Test.YtdejncnjaebjfaaSnd9
namespace Go.Proofs.Ytdejncnjaebjfaa
open Go.RowKit
set_option linter.unusedVariables false
set_option linter.unusedSectionVars false

/-! ### any order -/
section
variable {P : Program} {ops : Array Oper}

def QF : Exit → Act → World → Prop := fun _ _ _ => False
theorem wp_QF {o : Oper} {a : Act} {w : World} {K K' : Act → World → Prop} {Q : Exit → Act → World → Prop} (hK : ∀ a w, K a w → K' a w) (hh : o.wp P a w K QF) : o.wp P a w K' Q := by
  unfold Oper.wp at *
  generalize (execOp a.eval o).run P w = r at *
  cases r with
  | ok n w' =>
    cases n <;> simp only [Oper.upon] at hh ⊢
    case value => exact hK _ _ hh
    case skip => exact hK _ _ hh
    case defer => exact hK _ _ hh
    case enter =>
      refine Calls.mono hh fun e w'' he => ?_
      cases e with
      | returned v => exact hK _ _ he
      | panicked c => exact he.elim
      | outgrown => obtain ⟨_, _, h⟩ := he; exact h.elim
    case row => exact Rows.mono hh fun _ _ he => hK _ _ he
  | halt x w' =>
    cases x <;> simp only [Oper.upon] at hh
    exact hh.elim
theorem wpOp_QF {i : Nat} {a : Act} {w : World} {K K' : Act → World → Prop} {Q : Exit → Act → World → Prop} (hK : ∀ a w, K a w → K' a w) (hh : wpOp P ops QF i K a w) : wpOp P ops Q i K' a w := by
  unfold wpOp at *
  split
  · exact hK _ _ (by simpa [*] using hh)
  · rename_i o ho
    simp only [ho] at hh
    split
    · rename_i hw
      simp only [hw, if_true] at hh
      rcases hh with hh | ⟨_, _, _, hl⟩
      · exact .inl (wp_QF hK hh)
      · exact hl.elim
    · rename_i hw; simp only [hw] at hh; exact hK _ _ hh

def Grew (ops : Array Oper) (i : Nat) (w w' : World) : Prop := ∀ o, ops[i]? = some o → calm o = true → Below w.heap.size w w'
def wpAnyB (P : Program) (ops : Array Oper) (Q : Act → World → Prop) : Nat → Array Bool → Act → World → Prop
  | 0, listed, a, w => Region.ready .any ops listed = [] ∧ Q a w
  | n + 1, listed, a, w =>
    (Region.ready .any ops listed = [] → Q a w) ∧
    ∀ i ∈ Region.ready .any ops listed, wpOp P ops QF i (fun a' w' => Grew ops i w w' ∧ wpAnyB P ops Q n (listed.setIfInBounds i true) a' w') a w
theorem wpAny_of_B {Q : Act → World → Prop} {Q' : Exit → Act → World → Prop} (hQ : ∀ a w, Q a w → Q' .normal a w) : ∀ (n : Nat) (listed : Array Bool) (a : Act) (w : World), wpAnyB P ops Q n listed a w → wpAny P .any ops Q' n listed a w
  | 0, _, _, _, h => ⟨h.1, hQ _ _ h.2⟩
  | n + 1, _, _, _, h => ⟨fun h0 => hQ _ _ (h.1 h0), fun i hi => wpOp_QF (fun a' w' h' => wpAny_of_B hQ n _ a' w' h'.2) (h.2 i hi)⟩

/-- in every later world it yields v -/
def YieldsP (P : Program) (ops : Array Oper) (o : Oper) (v : Value) (a : Act) (w : World) : Prop :=
  (Region.wanted o (yielded ops a.tmps) = true ∧ ∀ w', Below w.heap.size w w' → (execOp a.eval o).run P w' = .ok (.value v) w') ∨ (Region.wanted o (yielded ops a.tmps) = false ∧ v = undef)
theorem YieldsP.wpOp {i : Nat} {o : Oper} {v : Value} {a : Act} {w : World} {Q : Exit → Act → World → Prop} (hi : ops[i]? = some o) (hy : YieldsP P ops o v a w) {K : Act → World → Prop} (h : K (a.put o.dst v) w) : wpOp P ops Q i K a w := by
  unfold Go.wpOp
  simp only [hi]
  rcases hy with ⟨hw, hv⟩ | ⟨hw, rfl⟩
  · simp only [hw, if_true, Oper.wp, hv w (Below.refl _ _), Oper.upon]; exact .inl h
  · simp only [hw, Bool.false_eq_true, if_false]; exact h
theorem below_trans {w w' w'' : World} (h : Below w.heap.size w w') (h' : Below w'.heap.size w' w'') : Below w.heap.size w w'' := h.trans (h'.mono h.size)
theorem YieldsP.later {o : Oper} {v : Value} {a : Act} {w w' : World} (hy : YieldsP P ops o v a w) (h : Below w.heap.size w w') : YieldsP P ops o v a w' := by
  rcases hy with ⟨hw, hv⟩ | hy
  · exact .inl ⟨hw, fun w'' h' => hv w'' (below_trans h h')⟩
  · exact .inr hy
theorem wpOp_apart {j : Nat} {oi oj : Oper} {v : Value} {w : World} (hj : ops[j]? = some oj) (hap : oi.apart ops oj = true) (hsi : ∀ cs b, oi.op ≠ .select cs b) (hsj : ∀ cs b, oj.op ≠ .select cs b) {K : Act → World → Prop} {a : Act}
    (hy : YieldsP P ops oi v a w) (h : wpOp P ops QF j K (a.put oi.dst v) w) : wpOp P ops QF j (fun a' w' => YieldsP P ops oi v a' w ∧ K (a'.put oi.dst v) w') a w := by
  obtain ⟨h1, h2, h3⟩ := Oper.apart_spec hap
  have keep : ∀ u, YieldsP P ops oi v (a.put oj.dst u) w := fun u => by
    unfold YieldsP at *
    rw [execOp_put oi hsi a oj.dst u h3, wanted_put oi a oj.dst u h3]
    exact hy
  unfold wpOp at *
  simp only [hj] at *
  rw [wanted_put oj a oi.dst v h1] at h
  split
  · rename_i hw
    simp only [hw, if_true] at h
    rcases h with h | ⟨_, _, _, hl⟩
    · refine .inl ?_
      unfold Oper.wp at *
      rw [execOp_put oj hsj a oi.dst v h1] at h
      generalize (execOp a.eval oj).run P w = r at *
      cases r with
      | ok n w' =>
        cases n <;> simp only [Oper.upon] at h ⊢
        case value u => exact ⟨keep u, by rw [← Act.put_comm a v u h2]; exact h⟩
        case skip => exact ⟨keep _, by rw [← Act.put_comm a v undef h2]; exact h⟩
        case defer d =>
          refine ⟨?_, ?_⟩
          · have := keep undef
            unfold YieldsP at this ⊢
            cases hdd : oj.dst <;> rw [hdd] at this <;> exact this
          · rw [← Act.put_comm _ v undef h2, ← Act.put_defers]
            exact h
        case enter f args =>
          refine Calls.mono h fun e w'' he => ?_
          cases e with
          | returned u => exact ⟨keep u, by rw [← Act.put_comm a v u h2]; exact he⟩
          | panicked c => exact he.elim
          | outgrown => exact he
        case row row args => exact Rows.mono h fun u w'' he => ⟨keep u, by rw [← Act.put_comm a v u h2]; exact he⟩
      | halt x w' =>
        cases x <;> simp only [Oper.upon] at h
        exact h.elim
    · exact hl.elim
  · rename_i hw
    simp only [hw] at h
    exact ⟨keep _, by rw [← Act.put_comm a v undef h2]; exact h⟩

theorem wpAnyB_first {Q : Act → World → Prop} {i : Nat} {oi : Oper} {v : Value} (hi : ops[i]? = some oi) (hsel : ∀ (j : Nat) (o : Oper) cs b, ops[j]? = some o → o.op ≠ .select cs b) :
    ∀ (n : Nat) (listed : Array Bool) (a : Act) (w : World),
      (∀ j oj, ops[j]? = some oj → j ≠ i → listed.getD j true = false → (∀ e ∈ oj.after, Region.binds .any e = true → e.on ≠ i) → oi.apart ops oj = true ∧ calm oj = true) →
      i ∈ Region.ready .any ops listed → YieldsP P ops oi v a w → wpAnyB P ops Q n (listed.setIfInBounds i true) (a.put oi.dst v) w → wpAnyB P ops Q (n + 1) listed a w := by
  intro n
  induction n with
  | zero =>
    intro listed a w _ hr hy H
    refine ⟨fun h => (by rw [h] at hr; cases hr), fun j hj => ?_⟩
    by_cases hji : j = i
    · subst hji; exact hy.wpOp hi ⟨fun _ _ _ => Below.refl _ _, H⟩
    · have := ready_mono hj hji
      rw [H.1] at this
      cases this
  | succ n ih =>
    intro listed a w hfree hr hy H
    refine ⟨fun h => (by rw [h] at hr; cases hr), fun j hj => ?_⟩
    by_cases hji : j = i
    · subst hji; exact hy.wpOp hi ⟨fun _ _ _ => Below.refl _ _, H⟩
    · have h1 := H.2 j (ready_mono hj hji)
      obtain ⟨hjun, oj, hoj, hall⟩ := mem_ready.1 hj
      have hnot : ∀ e ∈ oj.after, Region.binds .any e = true → e.on ≠ i := fun e he hb heq => by
        have h1 := hall e he hb
        have h0 := (mem_ready.1 hr).1
        rw [heq] at h1
        rcases Nat.lt_or_ge i listed.size with h' | h'
        · simp [h'] at h0 h1; rw [h0] at h1; cases h1
        · simp [Array.getElem?_eq_none h'] at h1
      obtain ⟨hap, hcalm⟩ := hfree j oj hoj hji hjun hnot
      have h2 := wpOp_apart hoj hap (fun cs b => hsel i oi cs b hi) (fun cs b => hsel j oj cs b hoj) hy h1
      refine wpOp_QF (fun a' w' h3 => ?_) h2
      obtain ⟨h3, h4, h5⟩ := h3
      refine ⟨h4, ih (listed.setIfInBounds j true) a' w' (fun k ok hk hki hun hno => ?_) (ready_mono hr (Ne.symm hji)) (h3.later (h4 oj hoj hcalm)) ?_⟩
      · refine hfree k ok hk hki ?_ hno
        by_cases hjk : j = k
        · subst hjk; exact hjun
        · rw [getD_set_ne true hjk] at hun; exact hun
      · rw [Array.setIfInBounds_comm _ _ hji]
        exact h5
end

section
variable [Low] {P : Program} {w w' : World} {g g' : G} {base : Nat} {σ : St} {a : Act}
theorem isQ_pure {call : FuncId → List T → Option (T × Bool)} {o : Oper} (h : isQ o = true) : evOp P call σ o = evPure P σ o := by
  obtain ⟨dst, op, ty, pos, after, guard⟩ := o
  cases op with
  | assign x =>
    cases x with
    | const v => cases v with
      | slice A n c =>
        cases A with
        | none => cases n with
          | zero => cases c with
            | zero => simp [isQ] at h
            | succ c => cases dst <;> rfl
          | succ n => cases dst <;> rfl
        | some A => cases dst <;> rfl
      | _ => cases dst <;> rfl
    | _ => cases dst <;> rfl
  | call c =>
    obtain ⟨callee, args, ts⟩ := c
    cases callee with
    | builtin b => cases b <;> first | (simp [isQ] at h; done) | rfl
    | _ => simp [isQ] at h
  | _ => first | (simp [isQ] at h; done) | (cases dst <;> rfl)
theorem pure_ok (hr : Rel P w g base σ a) {o : Oper} {σ' : St} (hd : ∀ d, o.dst = some d → d < a.tmps.size) (h : evPure P σ o = some (σ', true)) :
    ∃ z, (∀ w', Below w.heap.size w w' → (execOp a.eval o).run P w' = .ok (.value z) w') ∧ Rel P w g base σ' (a.put o.dst z) := by
  unfold evPure at h
  split at h
  · rename_i v ok hq
    simp only [Option.some.injEq, Prod.mk.injEq] at h
    obtain ⟨rfl, rfl⟩ := h
    obtain ⟨z, h1, h2⟩ := evQ_ok hr hq
    exact ⟨z, h1, hr.put hd h2⟩
  · cases h
theorem evOp_goesC (hr : Rel P w g base σ a) {call : FuncId → List T → Option (T × Bool)} (hcall : CallOk P call) {o : Oper} {σ' : St} (hd : ∀ d, o.dst = some d → d < a.tmps.size) (h : evOp P call σ o = some (σ', true)) :
    ∀ (K : Act → World → Prop) (Q : Exit → Act → World → Prop), (∀ z w' g', Rel P w' g' base σ' (a.put o.dst z) → Below base w w' → (calm o = true → Below w.heap.size w w') → K (a.put o.dst z) w') → o.wp P a w K Q := by
  intro K Q hK
  cases hc : calm o with
  | false => exact evOp_goes hr hcall hd h K Q fun z w' g' h1 h2 => hK z w' g' h1 h2 (by rw [hc]; intro h; cases h)
  | true =>
    cases hq : isQ o with
    | true =>
      rw [isQ_pure hq] at h
      obtain ⟨z, h1, h2⟩ := pure_ok hr hd h
      unfold Oper.wp
      rw [h1 w (Below.refl _ _)]
      exact hK z w g h2 (Below.refl _ _) fun _ => Below.refl _ _
    | false =>
      have hcc : isC o = true := by simpa [calm, hq] using hc
      obtain ⟨dst, op, ty, pos, after, guard⟩ := o
      cases op with
      | call c =>
        obtain ⟨callee, args, ts⟩ := c
        cases callee with
        | value f =>
          cases dst with
          | none => simp only [evOp, evPure, evQ] at h; cases h
          | some d => exact evCall_ok hr hcall rfl rfl hd h K Q fun z w' g' h1 h2 h3 => hK z w' g' h1 h2 fun _ => h3
        | _ => simp [isC] at hcc
      | _ => simp [isC] at hcc

theorem evStepG_ok (hr : Rel P w g base σ a) {ops : Array Oper} (hops : ∀ o ∈ ops.toList, ∀ d, o.dst = some d → d < a.tmps.size) {o : Oper} {y k : St → R} {key : Option Dom} {out : Nat × List D} (hd : ∀ d, o.dst = some d → d < a.tmps.size)
    (h : evStepG ops σ o y k = some (key, some out)) :
    (Region.wanted o (yielded ops a.tmps) = true ∧ ∃ σ₂ key', Rel P w g base σ₂ a ∧ y σ₂ = some (key', some out)) ∨
    (Region.wanted o (yielded ops a.tmps) = false ∧ ∃ σ₂ key', Rel P w g base σ₂ (a.put o.dst undef) ∧ k σ₂ = some (key', some out)) := by
  have hw := want_ok hr hops (o := o)
  have hput : ∀ {σ : St}, Rel P w g base σ a → Rel P w g base (σ.put o.dst .none_) (a.put o.dst undef) := fun hr => hr.put hd (t := .none_) ⟨#[], rfl, rfl, fun j x h => by simp at h⟩
  unfold evStepG at h
  cases hq : want ops σ o with
  | yes => rw [hq] at h hw; exact .inl ⟨hw, σ, key, hr, h⟩
  | no => rw [hq] at h hw; exact .inr ⟨hw, _, key, hput hr, h⟩
  | ask t gg b =>
    rw [hq] at h hw
    simp only at h hw
    obtain ⟨ht, hv, hw⟩ := hw
    obtain ⟨h1, h2⟩ := rcond_ok h
    have hkb : ∀ c : Bool, gg = c → Rel P w g base (σ.put (some t) (.c (.kb c) D0)) a := fun c hc => by
      have := hr.put (dst := some t) (fun d hd => by injection hd with hd; subst hd; exact ht) (t := .c (.kb c) D0) (v := .bool gg) (by rw [hc]; exact rfl)
      have e : a.put (some t) (.bool gg) = a := by
        rw [← hv]
        obtain ⟨tm, df⟩ := a
        simp only [Act.put]
        congr 1
        refine Array.ext_getElem? fun i => ?_
        rw [Array.getElem?_setIfInBounds]
        split
        · rename_i e
          subst e
          have ht' : t < tm.size := ht
          first
            | exact (Array.getElem?_eq_getElem ht').symm
            | (rw [if_pos ht', Array.getD_eq_getD_getElem?, Array.getElem?_eq_getElem ht']; rfl)
        · rfl
      rwa [e] at this
    cases gg with
    | true =>
      obtain ⟨k', h1⟩ := h1 rfl
      cases b with
      | true => exact .inl ⟨by rw [hw]; rfl, _, k', hkb true rfl, h1⟩
      | false => exact .inr ⟨by rw [hw]; rfl, _, k', hput (hkb true rfl), h1⟩
    | false =>
      obtain ⟨k', h2⟩ := h2 rfl
      cases b with
      | true => exact .inr ⟨by rw [hw]; rfl, _, k', hput (hkb false rfl), h2⟩
      | false => exact .inl ⟨by rw [hw]; rfl, _, k', hkb false rfl, h2⟩
  | bad => rw [hq] at h; cases h

theorem early_ok {ops : Array Oper} {listed : Array Bool} {i : Nat} {oi : Oper} (hi : ops[i]? = some oi) (h : early ops listed i = true) :
    isQ oi = true ∧ ∀ j oj, ops[j]? = some oj → j ≠ i → listed.getD j true = false → (∀ e ∈ oj.after, Region.binds .any e = true → e.on ≠ i) → oi.apart ops oj = true ∧ calm oj = true := by
  unfold early at h
  simp only [hi, Bool.and_eq_true] at h
  obtain ⟨⟨h1, h2⟩, h3⟩ := h
  refine ⟨h1, fun j oj hj hne hun hno => ⟨Region.free_spec hi h2 j oj hj hne hun hno, ?_⟩⟩
  have := List.all_eq_true.1 h3 j (List.mem_range.2 (Array.getElem?_eq_some_iff.1 hj).1)
  simp only [hj, Bool.or_eq_true, beq_iff_eq, hne, false_or, hun, Bool.false_eq_true] at this
  rcases this with h | h
  · exact h
  · obtain ⟨e, he, hb⟩ := Array.any_eq_true'.1 h
    simp only [Bool.and_eq_true, beq_iff_eq] at hb
    exact absurd hb.2 (hno e he hb.1)

theorem consO_ok {q : Nat × Bool} {o : Option (List (Nat × Bool))} {l : List (Nat × Bool)} (h : consO q o = some l) : ∃ r, o = some r ∧ l = q :: r := by
  cases o with
  | none => cases h
  | some r => simp only [consO, Option.some.injEq] at h; exact ⟨r, rfl, h.symm⟩
theorem ready_lt {ops : Array Oper} {listed : Array Bool} {i : Nat} (h : i ∈ Region.ready .any ops listed) : ∃ o, ops[i]? = some o := by
  obtain ⟨_, o, ho, _⟩ := mem_ready.1 h
  exact ⟨o, ho⟩

theorem evPlan_ok {call : FuncId → List T → Option (T × Bool)} (hcall : CallOk P call) {ops : Array Oper} (hs : Region.noSelect ops = true) {k : St → R} {out : Nat × List D} {n : Nat} {Q : Act → World → Prop} {w0 : World} (hops : ∀ o ∈ ops.toList, ∀ d, o.dst = some d → d < n)
    (hk : ∀ σ' w' g' a' key', k σ' = some (key', some out) → Rel P w' g' base σ' a' → a'.tmps.size = n → Below base w0 w' → Q a' w') :
    ∀ (m : Nat) (listed : Array Bool) (l : List (Nat × Bool)) (σ : St) (w : World) (g : G) (a : Act) (key : Option Dom), plan ops m listed = some l → evPlan P call ops l σ k = some (key, some out) → Rel P w g base σ a → a.tmps.size = n → Below base w0 w → wpAnyB P ops Q m listed a w := by
  intro m
  induction m with
  | zero =>
    intro listed l σ w g a key hp h hr hn hb
    unfold plan at hp
    split at hp
    · rename_i hready
      simp only [Option.some.injEq] at hp
      subst hp
      exact ⟨hready, hk σ w g a key h hr hn hb⟩
    · cases hp
  | succ m ih =>
    intro listed l σ w g a key hp h hr hn hb
    unfold plan at hp
    split at hp
    · rename_i hready
      simp only [Option.some.injEq] at hp
      subst hp
      exact ⟨fun _ => hk σ w g a key h hr hn hb, fun i hi => by rw [hready] at hi; cases hi⟩
    · rename_i j r hready
      have hops' : ∀ o ∈ ops.toList, ∀ d, o.dst = some d → d < a.tmps.size := fun o ho d hd => by rw [hn]; exact hops o ho d hd
      split at hp
      · rename_i i hfind
        obtain ⟨l', hp', rfl⟩ := consO_ok hp
        have hearly := List.find?_some hfind
        have hmem : i ∈ Region.ready .any ops listed := by rw [hready]; exact List.mem_of_find?_eq_some hfind
        obtain ⟨o, ho⟩ := ready_lt hmem
        obtain ⟨_, hfree⟩ := early_ok ho hearly
        have hd : ∀ d, o.dst = some d → d < a.tmps.size := hops' o (by simpa using Array.mem_of_getElem? ho)
        unfold evPlan at h
        simp only [ho] at h
        rcases evStepG_ok hr hops' hd h with ⟨hw, σ₂, key', hr2, h2⟩ | ⟨hw, σ₂, key', hr2, h2⟩
        · simp only [cond_true] at h2
          unfold evYesQ at h2
          split at h2
          · rename_i σ' ok he
            obtain ⟨hok, hcont⟩ := rneed_ok h2
            subst hok
            obtain ⟨z, hz, hrz⟩ := pure_ok hr2 hd he
            exact wpAnyB_first ho (Region.noSelect_spec hs) m listed a w hfree hmem (.inl ⟨hw, hz⟩) (ih _ l' σ' w g _ key' hp' hcont hrz (by rw [put_size]; exact hn) hb)
          · cases h2
        · exact wpAnyB_first ho (Region.noSelect_spec hs) m listed a w hfree hmem (.inr ⟨hw, rfl⟩) (ih _ l' σ₂ w g _ key' hp' h2 hr2 (by rw [put_size]; exact hn) hb)
      · split at hp
        · obtain ⟨l', hp', rfl⟩ := consO_ok hp
          have hmem : j ∈ Region.ready .any ops listed := by rw [hready]; simp
          obtain ⟨o, ho⟩ := ready_lt hmem
          have hd : ∀ d, o.dst = some d → d < a.tmps.size := hops' o (by simpa using Array.mem_of_getElem? ho)
          refine ⟨fun h0 => (by rw [hready] at h0; cases h0), fun i hi => ?_⟩
          have : i = j := by rw [hready] at hi; simpa using hi
          subst this
          unfold evPlan at h
          simp only [ho] at h
          unfold wpOp
          simp only [ho]
          rcases evStepG_ok hr hops' hd h with ⟨hw, σ₂, key', hr2, h2⟩ | ⟨hw, σ₂, key', hr2, h2⟩
          · simp only [cond_false] at h2
            unfold evYes at h2
            split at h2
            · rename_i σ' ok he
              obtain ⟨hok, hcont⟩ := rneed_ok h2
              subst hok
              rw [if_pos hw]
              refine .inl (evOp_goesC hr2 hcall hd he _ _ fun z w' g' h3 h4 h5 => ⟨fun o' ho' hc => ?_, ih _ l' σ' w' g' _ key' hp' hcont h3 (by rw [put_size]; exact hn) (hb.trans h4)⟩)
              rw [ho] at ho'
              injection ho' with ho'
              subst ho'
              exact h5 hc
            · cases h2
          · rw [if_neg (by simp [hw])]
            exact ⟨fun _ _ _ => Below.refl _ _, ih _ l' σ₂ w g _ key' hp' h2 hr2 (by rw [put_size]; exact hn) hb⟩
        · cases hp

theorem low_drawn (hr : Rel P w g base σ a) : Rel P { w with drawn := w.drawn + 1 } g base σ a := by
  have hE : Ext (some 0) g g w { w with drawn := w.drawn + 1 } := ⟨Nat.le_refl _, fun _ _ => rfl, fun _ _ => ⟨rfl, rfl, rfl, rfl⟩, fun _ _ => rfl, fun _ _ => rfl, fun _ _ => rfl⟩
  have hE' : Ext none g g w { w with drawn := w.drawn + 1 } := ⟨Nat.le_refl _, fun _ _ => rfl, fun _ _ => ⟨rfl, rfl, rfl, rfl⟩, fun _ _ => rfl, fun _ _ => rfl, fun _ _ => rfl⟩
  have hk : Kept P base g g w { w with drawn := w.drawn + 1 } (fun c => c) := by
    intro c x v hv
    cases c with
    | any => trivial
    | d s => exact hE'.vd hv
    | kb b => exact hv
    | own t xm e =>
      obtain ⟨row, hrow, hown⟩ := hv
      exact ⟨row, hrow, hE'.own (by intro e; cases e) hown⟩
    | ptr id off => exact hv
    | eptr tk e off => cases tk with
      | none =>
        obtain ⟨row, b, o, h1, h2, h3, h4⟩ := hv
        exact ⟨row, b, o, h1, h2, h3, fun j s hs => by
          obtain ⟨u, k1, k2, k3⟩ := h4 j s hs
          exact ⟨u, k1, k2, hE'.vd k3⟩⟩
      | some t =>
        obtain ⟨row, h1, h2, h3, u, h4⟩ := hv
        exact ⟨row, h1, h2, h3, u, hE'.own (by intro e; cases e) h4⟩
    | cptr cells off => exact hE'.cptr hr.base_le hv
    | fn f caps =>
      obtain ⟨arr, h1, h2, h3⟩ := hv
      refine ⟨arr, h1, h2, fun j c hc => ?_⟩
      obtain ⟨u, hu, hcap⟩ := h3 j c hc
      refine ⟨u, hu, ?_⟩
      cases c with
      | d s => exact hE'.vd hcap
      | ptr id off => exact hcap
      | cptr cells off => exact hE'.cptr hr.base_le hcap
  refine ⟨fun i => hk.vt' (hr.env i), fun id cs ds h => ?_, hr.fresh, hr.base_le, hr.defers, hr.low⟩
  obtain ⟨k1, k2, k3, kl, arr, E, k4, k5⟩ := hr.box id cs ds h
  have := hk.vcs k5
  rw [List.map_id'] at this
  exact ⟨k1, k2, k3, kl, arr, E, k4, this⟩

/-- a region that draws its order -/
theorem evDraw_ok {call : FuncId → List T → Option (T × Bool)} (hcall : CallOk P call) {id : Nat} {ops : Array Oper} {k : St → R} {key : Option Dom} {out : Nat × List D} {n : Nat} {Q : Exit → Act → World → Prop} {w0 : World} (hops : ∀ o ∈ ops.toList, ∀ d, o.dst = some d → d < n)
    (hk : ∀ σ' w' g' a' key', k σ' = some (key', some out) → Rel P w' g' base σ' a' → a'.tmps.size = n → Below base w0 w' → Q .normal a' w') (h : evDraw P call ops σ k = some (key, some out)) (hr : Rel P w g base σ a) (hn : a.tmps.size = n) (hb : Below base w0 w) : (Code.region id ops true).wp P Q a w := by
  unfold evDraw at h
  cases hc : (Region.noSelect ops && P.follows .mixedOrders) with
  | false => rw [hc] at h; cases h
  | true =>
    rw [hc, cond_true] at h
    simp only [Bool.and_eq_true] at hc
    split at h
    · rename_i l hp
      refine wp_region_any hc.2 (wpAny_of_B (Q := fun a w => Q .normal a w) (fun _ _ h => h) _ _ _ _ ?_)
      exact evPlan_ok hcall hc.1 hops (fun σ' w' g' a' key' h1 h2 h3 h4 => hk σ' w' g' a' key' h1 h2 h3 h4) ops.size _ l σ _ g a key hp h (low_drawn hr) hn (hb.trans ⟨rfl, rfl, rfl, Nat.le_refl _, fun _ _ => rfl⟩)
    · cases h
end
end Go.Proofs.Ytdejncnjaebjfaa
