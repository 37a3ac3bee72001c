/-
  The evaluator is right: regions that draw their order.
-/
import Derived.Test.YtchceahcaaibcaaGreatSnd9
namespace Go.Proofs.YtchceahcaaibcaaGreat
set_option linter.unusedSimpArgs false
open Go.RowKit
set_option linter.unusedVariables false
set_option linter.unusedSectionVars false

/-! ### any order -/
section
variable {P : Program} {ops : Array Oper}

def QF : Exit → Act → World → Prop := fun _ _ _ => False
theorem wp_QF {o : Oper} {a : Act} {w : World} {K K' : Act → World → Prop} {Q : Exit → Act → World → Prop} (hK : ∀ a w, K a w → K' a w) (hh : o.wp P a w K QF) : o.wp P a w K' Q := by
  unfold Oper.wp at *
  generalize (execOp a.eval o).run P w = r at *
  cases r with
  | ok n w' =>
    cases n <;> simp only [Oper.upon] at hh ⊢
    case value => exact hK _ _ hh
    case skip => exact hK _ _ hh
    case defer => exact hK _ _ hh
    case enter =>
      refine Calls.mono hh fun e w'' he => ?_
      cases e with
      | returned v => exact hK _ _ he
      | panicked c => exact he.elim
      | outgrown => obtain ⟨_, _, h⟩ := he; exact h.elim
    case row => exact Rows.mono hh fun _ _ he => hK _ _ he
  | halt x w' =>
    cases x <;> simp only [Oper.upon] at hh
    exact hh.elim
theorem wpOp_QF {i : Nat} {a : Act} {w : World} {K K' : Act → World → Prop} {Q : Exit → Act → World → Prop} (hK : ∀ a w, K a w → K' a w) (hh : wpOp P ops QF i K a w) : wpOp P ops Q i K' a w := by
  unfold wpOp at *
  split
  · exact hK _ _ (by simpa [*] using hh)
  · rename_i o ho
    simp only [ho] at hh
    split
    · rename_i hw
      simp only [hw, if_true] at hh
      rcases hh with hh | ⟨_, _, _, hl⟩
      · exact .inl (wp_QF hK hh)
      · exact hl.elim
    · rename_i hw; simp only [hw] at hh; exact hK _ _ hh

def Grew (ops : Array Oper) (B : Nat) (i : Nat) (w w' : World) : Prop := ∀ o, ops[i]? = some o → (calm o = true → Below w.heap.size w w') ∧ (storeTo ops o = true → Below B w w')
theorem Grew.refl {ops : Array Oper} {B i : Nat} {w : World} : Grew ops B i w w := fun _ _ => ⟨fun _ => Below.refl _ _, fun _ => Below.refl _ _⟩
def wpAnyB (P : Program) (ops : Array Oper) (B : Nat) (Q : Act → World → Prop) : Nat → Array Bool → Act → World → Prop
  | 0, listed, a, w => Region.ready .any ops listed = [] ∧ Q a w
  | n + 1, listed, a, w =>
    (Region.ready .any ops listed = [] → Q a w) ∧
    ∀ i ∈ Region.ready .any ops listed, wpOp P ops QF i (fun a' w' => Grew ops B i w w' ∧ wpAnyB P ops B Q n (listed.setIfInBounds i true) a' w') a w
theorem wpAny_of_B {B : Nat} {Q : Act → World → Prop} {Q' : Exit → Act → World → Prop} (hQ : ∀ a w, Q a w → Q' .normal a w) : ∀ (n : Nat) (listed : Array Bool) (a : Act) (w : World), wpAnyB P ops B Q n listed a w → wpAny P .any ops Q' n listed a w
  | 0, _, _, _, h => ⟨h.1, hQ _ _ h.2⟩
  | n + 1, _, _, _, h => ⟨fun h0 => hQ _ _ (h.1 h0), fun i hi => wpOp_QF (fun a' w' h' => wpAny_of_B hQ n _ a' w' h'.2) (h.2 i hi)⟩

/-- in every world that is this one below B it yields v -/
def YieldsP (P : Program) (ops : Array Oper) (B : Nat) (o : Oper) (v : Value) (a : Act) (w : World) : Prop :=
  (Region.wanted o (yielded ops a.tmps) = true ∧ ∀ w', Below B w w' → (execOp a.eval o).run P w' = .ok (.value v) w') ∨ (Region.wanted o (yielded ops a.tmps) = false ∧ v = undef)
theorem YieldsP.wpOp {B i : Nat} {o : Oper} {v : Value} {a : Act} {w : World} {Q : Exit → Act → World → Prop} (hi : ops[i]? = some o) (hy : YieldsP P ops B o v a w) {K : Act → World → Prop} (h : K (a.put o.dst v) w) : wpOp P ops Q i K a w := by
  unfold Go.wpOp
  simp only [hi]
  rcases hy with ⟨hw, hv⟩ | ⟨hw, rfl⟩
  · simp only [hw, if_true, Oper.wp, hv w (Below.refl _ _), Oper.upon]; exact .inl h
  · simp only [hw, Bool.false_eq_true, if_false]; exact h
theorem YieldsP.later {B : Nat} {o : Oper} {v : Value} {a : Act} {w w' : World} (hy : YieldsP P ops B o v a w) (h : Below B w w') : YieldsP P ops B o v a w' := by
  rcases hy with ⟨hw, hv⟩ | hy
  · exact .inl ⟨hw, fun w'' h' => hv w'' (h.trans h')⟩
  · exact .inr hy
theorem wpOp_apart {B j : Nat} {oi oj : Oper} {v : Value} {w : World} (hj : ops[j]? = some oj) (hap : oi.apart ops oj = true) (hsi : ∀ cs b, oi.op ≠ .select cs b) (hsj : ∀ cs b, oj.op ≠ .select cs b) {K : Act → World → Prop} {a : Act}
    (hy : YieldsP P ops B oi v a w) (h : wpOp P ops QF j K (a.put oi.dst v) w) : wpOp P ops QF j (fun a' w' => YieldsP P ops B oi v a' w ∧ K (a'.put oi.dst v) w') a w := by
  obtain ⟨h1, h2, h3⟩ := Oper.apart_spec hap
  have keep : ∀ u, YieldsP P ops B oi v (a.put oj.dst u) w := fun u => by
    unfold YieldsP at *
    rw [execOp_put oi hsi a oj.dst u h3, wanted_put oi a oj.dst u h3]
    exact hy
  unfold wpOp at *
  simp only [hj] at *
  rw [wanted_put oj a oi.dst v h1] at h
  split
  · rename_i hw
    simp only [hw, if_true] at h
    rcases h with h | ⟨_, _, _, hl⟩
    · refine .inl ?_
      unfold Oper.wp at *
      rw [execOp_put oj hsj a oi.dst v h1] at h
      generalize (execOp a.eval oj).run P w = r at *
      cases r with
      | ok n w' =>
        cases n <;> simp only [Oper.upon] at h ⊢
        case value u => exact ⟨keep u, by rw [← Act.put_comm a v u h2]; exact h⟩
        case skip => exact ⟨keep _, by rw [← Act.put_comm a v undef h2]; exact h⟩
        case defer d =>
          refine ⟨?_, ?_⟩
          · have := keep undef
            unfold YieldsP at this ⊢
            cases hdd : oj.dst <;> rw [hdd] at this <;> exact this
          · rw [← Act.put_comm _ v undef h2, ← Act.put_defers]
            exact h
        case enter f args =>
          refine Calls.mono h fun e w'' he => ?_
          cases e with
          | returned u => exact ⟨keep u, by rw [← Act.put_comm a v u h2]; exact he⟩
          | panicked c => exact he.elim
          | outgrown => exact he
        case row row args => exact Rows.mono h fun u w'' he => ⟨keep u, by rw [← Act.put_comm a v u h2]; exact he⟩
      | halt x w' =>
        cases x <;> simp only [Oper.upon] at h
        exact h.elim
    · exact hl.elim
  · rename_i hw
    simp only [hw] at h
    exact ⟨keep _, by rw [← Act.put_comm a v undef h2]; exact h⟩

theorem wpAnyB_first {B B₀ : Nat} {Q : Act → World → Prop} {i : Nat} {oi : Oper} {v : Value} (hi : ops[i]? = some oi) (hsel : ∀ (j : Nat) (o : Oper) cs b, ops[j]? = some o → o.op ≠ .select cs b) :
    ∀ (n : Nat) (listed : Array Bool) (a : Act) (w : World),
      (∀ j oj, ops[j]? = some oj → j ≠ i → listed.getD j true = false → (∀ e ∈ oj.after, Region.binds .any e = true → e.on ≠ i) → oi.apart ops oj = true ∧ (calm oj = true ∨ storeTo ops oj = true ∧ B₀ = B)) → B₀ ≤ w.heap.size →
      i ∈ Region.ready .any ops listed → YieldsP P ops B₀ oi v a w → wpAnyB P ops B Q n (listed.setIfInBounds i true) (a.put oi.dst v) w → wpAnyB P ops B Q (n + 1) listed a w := by
  intro n
  induction n with
  | zero =>
    intro listed a w _ _ hr hy H
    refine ⟨fun h => (by rw [h] at hr; cases hr), fun j hj => ?_⟩
    by_cases hji : j = i
    · subst hji; exact hy.wpOp hi ⟨Grew.refl, H⟩
    · have := ready_mono hj hji
      rw [H.1] at this
      cases this
  | succ n ih =>
    intro listed a w hfree hB0 hr hy H
    refine ⟨fun h => (by rw [h] at hr; cases hr), fun j hj => ?_⟩
    by_cases hji : j = i
    · subst hji; exact hy.wpOp hi ⟨Grew.refl, H⟩
    · have h1 := H.2 j (ready_mono hj hji)
      obtain ⟨hjun, oj, hoj, hall⟩ := mem_ready.1 hj
      have hnot : ∀ e ∈ oj.after, Region.binds .any e = true → e.on ≠ i := fun e he hb heq => by
        have h1 := hall e he hb
        have h0 := (mem_ready.1 hr).1
        rw [heq] at h1
        rcases Nat.lt_or_ge i listed.size with h' | h'
        · simp [h'] at h0 h1; rw [h0] at h1; cases h1
        · simp [Array.getElem?_eq_none h'] at h1
      obtain ⟨hap, hcalm⟩ := hfree j oj hoj hji hjun hnot
      have h2 := wpOp_apart hoj hap (fun cs b => hsel i oi cs b hi) (fun cs b => hsel j oj cs b hoj) hy h1
      refine wpOp_QF (fun a' w' h3 => ?_) h2
      obtain ⟨h3, h4, h5⟩ := h3
      have hBB : Below B₀ w w' := by
        obtain ⟨g1, g2⟩ := h4 oj hoj
        rcases hcalm with hc | ⟨hc, rfl⟩
        · exact (g1 hc).mono hB0
        · exact g2 hc
      refine ⟨h4, ih (listed.setIfInBounds j true) a' w' (fun k ok hk hki hun hno => ?_) (Nat.le_trans hB0 hBB.size) (ready_mono hr (Ne.symm hji)) (h3.later hBB) ?_⟩
      · refine hfree k ok hk hki ?_ hno
        by_cases hjk : j = k
        · subst hjk; exact hjun
        · rw [getD_set_ne true hjk] at hun; exact hun
      · rw [Array.setIfInBounds_comm _ _ hji]
        exact h5
end

section
variable [Low] {P : Program} {w w' : World} {g g' : G} {base : Nat} {σ : St} {a : Act}
theorem isQ_pure {call : FuncId → List T → Option (T × Bool)} {o : Oper} (h : isQ o = true) : evOp P call σ o = evPure P σ o := by
  obtain ⟨dst, op, ty, pos, after, guard⟩ := o
  cases op with
  | assign x =>
    cases x with
    | const v => cases v with
      | slice A n c =>
        cases A with
        | none => cases n with
          | zero => cases c with
            | zero => simp [isQ] at h
            | succ c => cases dst <;> rfl
          | succ n => cases dst <;> rfl
        | some A => cases dst <;> rfl
      | _ => cases dst <;> rfl
    | _ => cases dst <;> rfl
  | call c =>
    obtain ⟨callee, args, ts⟩ := c
    cases callee with
    | builtin b => cases b <;> first | (simp [isQ] at h; done) | rfl
    | _ => simp [isQ] at h
  | _ => first | (simp [isQ] at h; done) | (cases dst <;> rfl)
theorem pure_ok (hr : Rel P w g base σ a) {o : Oper} {σ' : St} (hd : ∀ d, o.dst = some d → d < a.tmps.size) (h : evPure P σ o = some (σ', true)) :
    ∃ z, (∀ w', (Below w.heap.size w w' ∨ noMem o = true) → (execOp a.eval o).run P w' = .ok (.value z) w') ∧ Rel P w g base σ' (a.put o.dst z) := by
  unfold evPure at h
  split at h
  · rename_i v ok hq
    simp only [Option.some.injEq, Prod.mk.injEq] at h
    obtain ⟨rfl, rfl⟩ := h
    obtain ⟨z, h1, h2⟩ := evQ_ok hr hq
    exact ⟨z, h1, hr.put hd h2⟩
  · cases h
/-- what is known of the world behind an operation -/
structure After (o : Oper) (a : Act) (z : Value) (w w' : World) : Prop where
  calm : calm o = true → Below w.heap.size w w'
  pure : isQ o = true → w' = w
  box : isA o = true → z = .pointer (some ⟨w.heap.size, 0, none⟩)
  store : ∀ t d x B, o.op = .store t (.tmp d) x → (∀ b off, a.tmps.getD d undef = .pointer (some ⟨b, off, none⟩) → B ≤ b) → Below B w w'
theorem evW_not {call : FuncId → List T → Option (T × Bool)} (hnw : ∀ f args r ok, call f args = some (r, ok) → r.sh.isW = false) {dst : Option Nat} {f : Operand} {xs : List Operand} {r : St × Bool} (h : evW P call σ dst f xs = some r) : False := by
  unfold evW at h
  split at h
  · split at h
    · split at h
      · rename_i r' ok hc
        have hw := hnw _ _ _ _ hc
        cases hq : (rowOf P _ == some [.int .i64]) with
        | false => rw [hq] at h; cases h
        | true =>
          rw [hq, cond_true] at h
          split at h
          · rename_i e; rw [e] at hw; cases hw
          · rename_i e; rw [e] at hw; cases hw
          · cases h
      · cases h
    · cases h
  · cases h
theorem evOp_goesC (hr : Rel P w g base σ a) {call : FuncId → List T → Option (T × Bool)} (hcall : CallOk P call) (hnw : ∀ f args r ok, call f args = some (r, ok) → r.sh.isW = false) {o : Oper} {σ' : St} (hd : ∀ d, o.dst = some d → d < a.tmps.size) (h : evOp P call σ o = some (σ', true)) :
    ∀ (K : Act → World → Prop) (Q : Exit → Act → World → Prop), (∀ z w' g', Rel P w' g' base σ' (a.put o.dst z) → Below base w w' → After o a z w w' → K (a.put o.dst z) w') → o.wp P a w K Q := by
  intro K Q hK
  cases hs : (match o.op with | .store _ _ _ => true | _ => false) with
  | true =>
    obtain ⟨dst, op, ty, pos, after, guard⟩ := o
    cases op with
    | store t p x =>
      obtain ⟨z, w', g', h1, h2, h3, h4⟩ := evStore_okS (o := ⟨dst, .store t p x, ty, pos, after, guard⟩) hr rfl hd (by cases dst <;> exact h)
      have hA : After ⟨dst, .store t p x, ty, pos, after, guard⟩ a z w w' := ⟨fun h => by cases dst <;> simp [calm, isQ, isC, isA, isM] at h, fun h => by simp [isQ] at h, fun h => by cases dst <;> simp [isA] at h, fun t' d x' B he hB => h4 B fun b o hb => by
        injection he with _ e2 _
        subst e2
        exact hB b o hb⟩
      unfold Oper.wp
      rcases h1 with h1 | ⟨h1, rfl⟩
      · rw [h1]; exact hK z w' g' h2 h3 hA
      · rw [h1]; exact hK undef w' g' h2 h3 hA
    | _ => simp at hs
  | false =>
  have hns : ∀ t d x, o.op ≠ .store t d x := fun t d x e => by rw [e] at hs; cases hs
  cases hc : calm o with
  | false => exact evOp_goes hr hcall hd h K Q fun z w' g' h1 h2 => hK z w' g' h1 h2 ⟨fun h => by rw [hc] at h; (cases h), fun h => by simp [calm, h] at hc, fun h => by simp [calm, h] at hc, fun t d x _ e => absurd e (hns t _ x)⟩
  | true =>
    cases hq : isQ o with
    | true =>
      rw [isQ_pure hq] at h
      obtain ⟨z, h1, h2⟩ := pure_ok hr hd h
      unfold Oper.wp
      rw [h1 w (.inl (Below.refl _ _))]
      exact hK z w g h2 (Below.refl _ _) ⟨fun _ => Below.refl _ _, fun _ => rfl, fun h => by
        obtain ⟨dst, op, ty, pos, after, guard⟩ := o
        cases op <;> first | (simp [isQ] at hq; done) | (simp [isA] at h; done), fun t d x _ e => absurd e (hns t _ x)⟩
    | false =>
     cases ha : isA o with
     | true =>
      obtain ⟨dst, op, ty, pos, after, guard⟩ := o
      cases op with
      | alloc t =>
        cases dst with
        | none => simp [isA] at ha
        | some d =>
          obtain ⟨z, w', g', h1, h2, h3, h4, h5⟩ := evAlloc_okB (o := ⟨some d, .alloc t, ty, pos, after, guard⟩) hr rfl rfl hd h
          unfold Oper.wp
          rw [h1]
          exact hK z w' g' h2 h3 ⟨fun _ => h4, fun h => by simp [isQ] at h, fun _ => h5, fun t d x _ e => absurd e (hns t _ x)⟩
      | _ => simp [isA] at ha
     | false =>
      cases hm : isM o with
      | true =>
       have hd1 : DoesC P base σ' o a w := by
        obtain ⟨dst, op, ty, pos, after, guard⟩ := o
        cases dst with
        | none => cases op <;> first | (simp [isM] at hm; done) | (unfold isM at hm; split at hm <;> simp_all)
        | some d =>
          cases op with
          | box t x => exact evBox_ok (o := ⟨some d, .box t x, ty, pos, after, guard⟩) hr rfl rfl hd h
          | build t ps => exact evBuild_ok (o := ⟨some d, .build t ps, ty, pos, after, guard⟩) hr rfl rfl hd h
          | buildSlice t n ps => exact evBuildSlice_ok (o := ⟨some d, .buildSlice t n ps, ty, pos, after, guard⟩) hr rfl rfl hd h
          | makeSlice t n c => exact evMakeSlice_ok (o := ⟨some d, .makeSlice t n c, ty, pos, after, guard⟩) hr rfl rfl hd h
          | assign x =>
            have hx : x = .const (.slice none 0 0) := by
              unfold isM at hm
              split at hm <;> simp_all
            subst hx
            exact evNil_ok (o := ⟨some d, .assign (.const (.slice none 0 0)), ty, pos, after, guard⟩) hr rfl rfl hd h
          | _ => simp [isM] at hm
       obtain ⟨z, w', g', h1, h2, h3, h4⟩ := hd1
       have hA : After o a z w w' := ⟨fun _ => h4, fun h => (by rw [hq] at h; cases h), fun h => (by rw [ha] at h; cases h), fun t d x _ e => absurd e (hns t _ x)⟩
       unfold Oper.wp
       rcases h1 with h1 | ⟨h1, rfl⟩
       · rw [h1]; exact hK z w' g' h2 h3 hA
       · rw [h1]; exact hK undef w' g' h2 h3 hA
      | false =>
      have hcc : isC o = true := by simpa [calm, hq, ha, hm] using hc
      obtain ⟨dst, op, ty, pos, after, guard⟩ := o
      cases op with
      | call c =>
        obtain ⟨callee, args, ts⟩ := c
        cases callee with
        | value f =>
          cases dst with
          | none => simp only [evOp, evPure, evQ] at h; cases h
          | some d =>
           simp only [evOp] at h
           split at h
           · rename_i r he
             exact (evW_not hnw he).elim
           · exact evCall_ok hr hcall rfl rfl hd h K Q fun z w' g' h1 h2 h3 => hK z w' g' h1 h2 ⟨fun _ => h3, fun h => by simp [isQ] at h, fun h => by simp [isA] at h, fun t d x _ e => absurd e (hns t _ x)⟩
        | _ => simp [isC] at hcc
      | _ => simp [isC] at hcc

theorem evStepG_ok (hr : Rel P w g base σ a) {ops : Array Oper} (hops : ∀ o ∈ ops.toList, ∀ d, o.dst = some d → d < a.tmps.size) {o : Oper} {y k : St → R} {key : Option Dom} {out : Nat × List D} (hd : ∀ d, o.dst = some d → d < a.tmps.size)
    (h : evStepG ops σ o y k = some (key, some out)) :
    (Region.wanted o (yielded ops a.tmps) = true ∧ ∃ σ₂ key', Rel P w g base σ₂ a ∧ y σ₂ = some (key', some out)) ∨
    (Region.wanted o (yielded ops a.tmps) = false ∧ ∃ σ₂ key', Rel P w g base σ₂ (a.put o.dst undef) ∧ k σ₂ = some (key', some out)) := by
  have hw := want_ok hr hops (o := o)
  have hput : ∀ {σ : St}, Rel P w g base σ a → Rel P w g base (σ.put o.dst .none_) (a.put o.dst undef) := fun hr => hr.put hd (t := .none_) ⟨#[], rfl, rfl, fun j x h => by simp at h⟩
  unfold evStepG at h
  cases hq : want ops σ o with
  | yes => rw [hq] at h hw; exact .inl ⟨hw, σ, key, hr, h⟩
  | no => rw [hq] at h hw; exact .inr ⟨hw, _, key, hput hr, h⟩
  | ask t gg b =>
    rw [hq] at h hw
    simp only at h hw
    obtain ⟨ht, hv, hw⟩ := hw
    obtain ⟨h1, h2⟩ := rcond_ok h
    have hkb : ∀ c : Bool, gg = c → Rel P w g base (σ.put (some t) (.c (.kb c) D0)) a := fun c hc => by
      have := hr.put (dst := some t) (fun d hd => by injection hd with hd; subst hd; exact ht) (t := .c (.kb c) D0) (v := .bool gg) (by rw [hc]; exact rfl)
      have e : a.put (some t) (.bool gg) = a := by
        rw [← hv]
        obtain ⟨tm, df⟩ := a
        simp only [Act.put]
        congr 1
        refine Array.ext_getElem? fun i => ?_
        rw [Array.getElem?_setIfInBounds]
        split
        · rename_i e
          subst e
          have ht' : t < tm.size := ht
          first
            | exact (Array.getElem?_eq_getElem ht').symm
            | (rw [if_pos ht', Array.getD_eq_getD_getElem?, Array.getElem?_eq_getElem ht']; rfl)
        · rfl
      rwa [e] at this
    cases gg with
    | true =>
      obtain ⟨k', h1⟩ := h1 rfl
      cases b with
      | true => exact .inl ⟨by rw [hw]; rfl, _, k', hkb true rfl, h1⟩
      | false => exact .inr ⟨by rw [hw]; rfl, _, k', hput (hkb true rfl), h1⟩
    | false =>
      obtain ⟨k', h2⟩ := h2 rfl
      cases b with
      | true => exact .inr ⟨by rw [hw]; rfl, _, k', hput (hkb false rfl), h2⟩
      | false => exact .inl ⟨by rw [hw]; rfl, _, k', hkb false rfl, h2⟩
  | bad => rw [hq] at h; cases h

theorem early_ok {ops : Array Oper} {listed : Array Bool} {i : Nat} {oi : Oper} (hi : ops[i]? = some oi) (h : early ops listed i = true) :
    isQ oi = true ∧ ∀ j oj, ops[j]? = some oj → j ≠ i → listed.getD j true = false → (∀ e ∈ oj.after, Region.binds .any e = true → e.on ≠ i) → oi.apart ops oj = true ∧ calm oj = true := by
  unfold early at h
  simp only [hi, Bool.and_eq_true] at h
  obtain ⟨⟨h1, h2⟩, h3⟩ := h
  refine ⟨h1, fun j oj hj hne hun hno => ⟨Region.free_spec hi h2 j oj hj hne hun hno, ?_⟩⟩
  have := List.all_eq_true.1 h3 j (List.mem_range.2 (Array.getElem?_eq_some_iff.1 hj).1)
  simp only [hj, Bool.or_eq_true, beq_iff_eq, hne, false_or, hun, Bool.false_eq_true] at this
  rcases this with h | h
  · exact h
  · obtain ⟨e, he, hb⟩ := Array.any_eq_true'.1 h
    simp only [Bool.and_eq_true, beq_iff_eq] at hb
    exact absurd hb.2 (hno e he hb.1)

/-! two boxes, in either order -/
structure Same (σ τ : St) : Prop where
  env : ∀ i, look2 i σ.e σ.r = look2 i τ.e τ.r
  box : ∀ i, hlook i σ.h = hlook i τ.h
theorem Rel.same (hr : Rel P w g base σ a) {τ : St} (h : Same σ τ) : Rel P w g base τ a :=
  ⟨fun i => by rw [← h.env i]; exact hr.env i, fun id cs ds hl => hr.box id cs ds (by rw [h.box id]; exact hl), hr.fresh, hr.base_le, hr.defers, hr.low⟩
theorem wipeC_comm (d d' : Nat) (c : Ce) : wipeC d (wipeC d' c) = wipeC d' (wipeC d c) := by
  cases c with
  | own t x e => cases x <;> cases h : (t.1 == d) <;> cases h' : (t.1 == d') <;> simp [wipeC, h, h']
  | eptr t e off => cases t with
    | none => rfl
    | some t => cases h : (t.1 == d) <;> cases h' : (t.1 == d') <;> simp [wipeC, h, h']
  | ptr id off => cases h : (id == d) <;> cases h' : (id == d') <;> simp [wipeC, h, h']
  | fn f caps =>
    obtain ⟨b1, h1⟩ : ∃ b, wipeC d (.fn f caps) = bif b then .fn f caps else .any := ⟨_, rfl⟩
    obtain ⟨b2, h2⟩ : ∃ b, wipeC d' (.fn f caps) = bif b then .fn f caps else .any := ⟨_, rfl⟩
    rw [h1, h2]
    cases b1 <;> cases b2 <;> simp only [cond_true, cond_false, h1, h2] <;> rfl
  | _ => rfl
theorem Sh1.map_map (f f' : Ce → Ce) (s : Sh1) : (s.map f).map f' = s.map (f' ∘ f) := by
  cases s <;> simp [Sh1.map]
theorem Sh.map_map (f f' : Ce → Ce) (s : Sh) : (s.map f).map f' = s.map (f' ∘ f) := by
  cases s with
  | one x => simp [Sh.map, Sh1.map_map]
  | tup xs =>
    simp only [Sh.map, List.map_map]
    congr 1
    refine List.map_congr_left fun x _ => ?_
    exact Sh1.map_map f f' x
theorem look2_wipe (σ : St) (d i : Nat) : look2 i (σ.wipe d).e (σ.wipe d).r = ⟨(look2 i σ.e σ.r).sh.map (wipeC d), (look2 i σ.e σ.r).p⟩ :=
  look2_map (fun t => ⟨t.sh.map (wipeC d), t.p⟩) (by rfl) σ.e i σ.r
theorem hlook_wipe (σ : St) (d i : Nat) : hlook i (σ.wipe d).h = (hlook i σ.h).map fun q => (q.1.map (wipeC d), q.2) := hlook_map_ne (wipeC d) σ i
theorem zeroC_wipe (d d' : Nat) (h : d ≠ d') : ∀ (row : List S) (i : Nat), (zeroC d i row).map (wipeC d') = zeroC d i row
  | [], _ => rfl
  | s :: r, i => by
    simp only [zeroC, List.map_cons, zeroC_wipe d d' h r (i + 1)]
    congr 1
    cases s <;> simp [zC, wipeC, beq_eq_false_iff_ne.2 h]
def alloced (σ : St) (d : Nat) (row : List S) : St := St.put ⟨(σ.wipe d).r, (σ.wipe d).e, hput d (zeroC d 0 row, row.map zeroD) (σ.wipe d).h⟩ (some d) (.c (.ptr d 0) D0)
theorem look2_alloced (σ : St) (d i : Nat) (row : List S) : look2 i (alloced σ d row).e (alloced σ d row).r = if i = d then .c (.ptr d 0) D0 else ⟨(look2 i σ.e σ.r).sh.map (wipeC d), (look2 i σ.e σ.r).p⟩ := by
  show look2 i (σ.wipe d).e ((d, .c (.ptr d 0) D0) :: (σ.wipe d).r) = _
  rw [look2]
  by_cases h : i = d
  · subst h; simp
  · rw [if_neg h, show (i == d) = false from by simpa using h, cond_false, look2_wipe]
theorem hlook_alloced (σ : St) (d i : Nat) (row : List S) : hlook i (alloced σ d row).h = if i = d then some (zeroC d 0 row, row.map zeroD) else (hlook i σ.h).map fun q => (q.1.map (wipeC d), q.2) := by
  show hlook i (hput d _ (σ.wipe d).h) = _
  rw [hlook_hput, hlook_wipe]
theorem alloced_swap (σ : St) {d d' : Nat} (h : d ≠ d') (row row' : List S) : Same (alloced (alloced σ d' row') d row) (alloced (alloced σ d row) d' row') := by
  refine ⟨fun i => ?_, fun i => ?_⟩
  · rw [look2_alloced, look2_alloced, look2_alloced, look2_alloced]
    by_cases h1 : i = d
    · subst h1
      rw [if_pos rfl, if_neg h, if_pos rfl]
      simp only [Sh.map, Sh1.map, wipeC]
      rw [show (i == d') = false from by simpa using h]
      rfl
    · by_cases h2 : i = d'
      · subst h2
        rw [if_neg h1, if_pos rfl, if_pos rfl]
        simp only [Sh.map, Sh1.map, wipeC]
        rw [show (i == d) = false from by simpa using h1]
        rfl
      · rw [if_neg h1, if_neg h2, if_neg h2, if_neg h1]
        simp only [Sh.map_map]
        congr 2
        funext c
        exact wipeC_comm d d' c
  · rw [hlook_alloced, hlook_alloced, hlook_alloced, hlook_alloced]
    by_cases h1 : i = d
    · subst h1
      rw [if_pos rfl, if_neg h, if_pos rfl]
      simp only [Option.map_some, zeroC_wipe i d' h]
    · by_cases h2 : i = d'
      · subst h2
        rw [if_neg h1, if_pos rfl, if_pos rfl]
        simp only [Option.map_some, zeroC_wipe i d (Ne.symm h)]
      · rw [if_neg h1, if_neg h2, if_neg h2, if_neg h1]
        cases hlook i σ.h with
        | none => rfl
        | some q =>
          simp only [Option.map_some, List.map_map]
          congr 3
          funext c
          exact wipeC_comm d d' c
theorem evAlloc_eq {d : Nat} {t : TypeId} {σ' : St} (h : evAlloc P σ d t = some (σ', true)) : ∃ row, σ' = alloced σ d row ∧ ∀ τ, evAlloc P τ d t = some (alloced τ d row, true) := by
  unfold evAlloc at h
  split at h
  · rename_i row hrow
    cases hz : zeroOk P t row with
    | false => rw [hz] at h; cases h
    | true =>
      rw [hz] at h
      simp only [Bool.not_true, cond_false, Option.some.injEq, Prod.mk.injEq, and_true] at h
      exact ⟨row, h.symm, fun τ => by simp only [evAlloc, hrow, hz, Bool.not_true, cond_false]; rfl⟩
  · cases h
theorem isA_eq {o : Oper} (h : isA o = true) : ∃ d t, o.op = .alloc t ∧ o.dst = some d := by
  obtain ⟨dst, op, ty, pos, after, guard⟩ := o
  cases op <;> cases dst <;> first | (simp [isA] at h; done) | exact ⟨_, _, rfl, rfl⟩
/-- an unguarded box in a plan -/
theorem plan_alloc {call : FuncId → List T → Option (T × Bool)} {ops : Array Oper} {j : Nat} {o : Oper} {d : Nat} {t : TypeId} {l : List (Nat × Bool)} {k : St → R} {key : Option Dom} {out : Nat × List D} (ho : ops[j]? = some o) (hop : o.op = .alloc t) (hdst : o.dst = some d) (hg : o.guard = none)
    (h : evPlan P call ops ((j, false) :: l) σ k = some (key, some out)) : ∃ σ', evAlloc P σ d t = some (σ', true) ∧ ∃ key', evPlan P call ops l σ' k = some (key', some out) := by
  unfold evPlan at h
  simp only [ho, evStepG, want, hg, cond_false] at h
  unfold evYes at h
  split at h
  · rename_i σ' ok he
    obtain ⟨hok, hcont⟩ := rneed_ok h
    subst hok
    refine ⟨σ', ?_, key, hcont⟩
    rw [← he]
    simp only [evOp, hop, hdst]
  · cases h

theorem early0_ok {ops : Array Oper} {listed : Array Bool} {i : Nat} {oi : Oper} (hi : ops[i]? = some oi) (h : early0 ops listed i = true) :
    isQ oi = true ∧ onlyQ ops listed = true ∧ ∀ j oj, ops[j]? = some oj → j ≠ i → listed.getD j true = false → (∀ e ∈ oj.after, Region.binds .any e = true → e.on ≠ i) → oi.apart ops oj = true ∧ (calm oj = true ∨ storeTo ops oj = true) := by
  unfold early0 at h
  simp only [hi, Bool.and_eq_true] at h
  obtain ⟨⟨⟨h1, h2⟩, h4⟩, h3⟩ := h
  refine ⟨h1, h4, fun j oj hj hne hun hno => ⟨Region.free_spec hi h2 j oj hj hne hun hno, ?_⟩⟩
  have := List.all_eq_true.1 h3 j (List.mem_range.2 (Array.getElem?_eq_some_iff.1 hj).1)
  simp only [hj, Bool.or_eq_true, beq_iff_eq, hne, false_or, hun, Bool.false_eq_true] at this
  rcases this with h | h
  · exact h
  · obtain ⟨e, he, hb⟩ := Array.any_eq_true'.1 h
    simp only [Bool.and_eq_true, beq_iff_eq] at hb
    exact absurd hb.2 (hno e he hb.1)
/-- the boxes that the region has made stand above B -/
def Made (ops : Array Oper) (B : Nat) (listed : Array Bool) (a : Act) : Prop :=
  dstOk ops = true → ∀ j o d, ops[j]? = some o → listed.getD j true = true → isA o = true → o.guard = none → o.dst = some d → ∃ b off, a.tmps.getD d undef = .pointer (some ⟨b, off, none⟩) ∧ B ≤ b
theorem dstOk_ne {ops : Array Oper} (h : dstOk ops = true) {i j d : Nat} {oi oj : Oper} (hi : ops[i]? = some oi) (hj : ops[j]? = some oj) (hne : i ≠ j) (hd : oi.dst = some d) : oj.dst ≠ some d := by
  unfold dstOk at h
  have := List.all_eq_true.1 (List.all_eq_true.1 h i (List.mem_range.2 (Array.getElem?_eq_some_iff.1 hi).1)) j (List.mem_range.2 (Array.getElem?_eq_some_iff.1 hj).1)
  simp only [hi, hj, Bool.or_eq_true, beq_iff_eq, hne, false_or, hd, Option.isNone_some, Bool.false_eq_true, bne_iff_ne, ne_eq] at this
  exact fun e => this e.symm
theorem getD_put_none (a : Act) (dst : Option Nat) (d : Nat) (v : Value) (h : dst ≠ some d) : (a.put dst v).tmps.getD d undef = a.tmps.getD d undef := by
  cases dst with
  | none => rfl
  | some e =>
    have hne : e ≠ d := fun h' => h (by rw [h'])
    simp [Act.put, Array.getElem?_setIfInBounds, hne]
theorem Made.step {ops : Array Oper} {B : Nat} {listed : Array Bool} {i : Nat} {o : Oper} {z : Value} (h : Made ops B listed a) (hi : ops[i]? = some o) (hsz : ∀ d, o.dst = some d → d < a.tmps.size) (hz : isA o = true → o.guard = none → ∃ b off, z = .pointer (some ⟨b, off, none⟩) ∧ B ≤ b) :
    Made ops B (listed.setIfInBounds i true) (a.put o.dst z) := by
  intro hok j oj d hj hl ha hg hd
  by_cases e : i = j
  · subst e
    rw [hi] at hj; injection hj with hj; subst hj
    obtain ⟨b, off, rfl, hb⟩ := hz ha hg
    refine ⟨b, off, ?_, hb⟩
    rw [hd]
    exact (getD_put a d d _ (hsz d hd)).trans (if_pos rfl)
  · rw [getD_set_ne true e] at hl
    obtain ⟨b, off, h1, h2⟩ := h hok j oj d hj hl ha hg hd
    exact ⟨b, off, by rw [getD_put_none a o.dst d z (dstOk_ne hok hj hi (Ne.symm e) hd)]; exact h1, h2⟩
theorem onlyQ_of {ops : Array Oper} {listed : Array Bool} {i : Nat} (h : onlyQ ops (listed.setIfInBounds i true) = true) : onlyQ ops listed = true := by
  unfold onlyQ at h ⊢
  rw [List.all_eq_true] at h ⊢
  intro j hj
  have := h j hj
  by_cases e : i = j
  · subst e
    rcases Nat.lt_or_ge i listed.size with hlt | hge
    · simp only [Bool.or_eq_true, Bool.not_eq_true'] at this ⊢
      rcases this with h | h
      · simp [hlt] at h
      · exact .inr h
    · rwa [Array.setIfInBounds_eq_of_size_le hge] at this
  · rwa [getD_set_ne true e] at this
theorem onlyQ_at {ops : Array Oper} {listed : Array Bool} {i : Nat} {o : Oper} (hi : ops[i]? = some o) (h : onlyQ ops (listed.setIfInBounds i true) = true) : isQ o = true := by
  unfold onlyQ at h
  rw [List.all_eq_true] at h
  have := h i (List.mem_range.2 (Array.getElem?_eq_some_iff.1 hi).1)
  simp only [hi, Bool.or_eq_true, Bool.not_eq_true'] at this
  rcases this with h | h
  · rcases Nat.lt_or_ge i listed.size with hlt | hge
    · simp [hlt] at h
    · rw [Array.setIfInBounds_eq_of_size_le hge, Array.getD_eq_getD_getElem?, Array.getElem?_eq_none hge] at h; cases h
  · exact h
theorem storeTo_ok {ops : Array Oper} {o : Oper} (h : storeTo ops o = true) : dstOk ops = true ∧ ∃ t d x, o.op = .store t (.tmp d) x ∧ ∃ e ∈ o.after, Region.binds .any e = true ∧ ∃ o', ops[e.on]? = some o' ∧ isA o' = true ∧ o'.guard = none ∧ o'.dst = some d := by
  unfold storeTo at h
  split at h
  · rename_i t d x hop
    simp only [Bool.and_eq_true] at h
    obtain ⟨h1, h2⟩ := h
    obtain ⟨e, he, hb⟩ := Array.any_eq_true'.1 h2
    simp only [Bool.and_eq_true] at hb
    obtain ⟨hb, hm⟩ := hb
    split at hm
    · rename_i o' ho'
      simp only [Bool.and_eq_true, beq_iff_eq, Option.isNone_iff_eq_none] at hm
      exact ⟨h1, t, d, x, hop, e, he, hb, o', ho', hm.1.1, hm.1.2, hm.2⟩
    · cases hm
  · cases h
theorem After.grew {ops : Array Oper} {B i : Nat} {listed : Array Bool} {o : Oper} {z : Value} (h : After o a z w w') (hi : ops[i]? = some o) (hm : i ∈ Region.ready .any ops listed) (hM : Made ops B listed a) : Grew ops B i w w' := by
  intro o' ho'
  rw [hi] at ho'; injection ho' with ho'; subst ho'
  refine ⟨h.calm, fun hs => ?_⟩
  obtain ⟨hok, t, d, x, hop, e, he, hb, o', ho', ha, hg, hd⟩ := storeTo_ok hs
  obtain ⟨_, o2, ho2, hall⟩ := mem_ready.1 hm
  rw [hi] at ho2; injection ho2 with ho2; subst ho2
  have hl : listed.getD e.on true = true := by
    have h' := hall e he hb
    rw [Array.getD_eq_getD_getElem?] at h' ⊢
    cases hq : listed[e.on]? with
    | none => rfl
    | some b => rw [hq] at h'; exact h'
  obtain ⟨b, off, h1, h2⟩ := hM hok e.on o' d ho' hl ha hg hd
  exact h.store t d x B hop fun b' off' hb' => by
    rw [h1] at hb'
    injection hb' with hb'
    injection hb' with hb'
    injection hb' with hb'
    omega
theorem consO_ok {q : Nat × Bool} {o : Option (List (Nat × Bool))} {l : List (Nat × Bool)} (h : consO q o = some l) : ∃ r, o = some r ∧ l = q :: r := by
  cases o with
  | none => cases h
  | some r => simp only [consO, Option.some.injEq] at h; exact ⟨r, rfl, h.symm⟩
theorem ready_lt {ops : Array Oper} {listed : Array Bool} {i : Nat} (h : i ∈ Region.ready .any ops listed) : ∃ o, ops[i]? = some o := by
  obtain ⟨_, o, ho, _⟩ := mem_ready.1 h
  exact ⟨o, ho⟩

theorem evPlan_ok {B : Nat} {call : FuncId → List T → Option (T × Bool)} (hcall : CallOk P call) (hnw : ∀ f args r ok, call f args = some (r, ok) → r.sh.isW = false) {ops : Array Oper} (hs : Region.noSelect ops = true) {k : St → R} {out : Nat × List D} {n : Nat} {Q : Act → World → Prop} {w0 : World} (hops : ∀ o ∈ ops.toList, ∀ d, o.dst = some d → d < n)
    (hk : ∀ σ' w' g' a' key', k σ' = some (key', some out) → Rel P w' g' base σ' a' → a'.tmps.size = n → Below base w0 w' → Q a' w') :
    ∀ (m : Nat) (listed : Array Bool) (l : List (Nat × Bool)) (σ : St) (w : World) (g : G) (a : Act) (key : Option Dom), plan ops m listed = some l → evPlan P call ops l σ k = some (key, some out) → Rel P w g base σ a → a.tmps.size = n → Below base w0 w → B ≤ w.heap.size → (onlyQ ops listed = true → w.heap.size = B) → Made ops B listed a → wpAnyB P ops B Q m listed a w := by
  intro m
  induction m using Nat.strongRecOn with
  | _ m ih0 =>
  cases m with
  | zero =>
    intro listed l σ w g a key hp h hr hn hb hBw hoq hM
    unfold plan at hp
    split at hp
    · rename_i hready
      simp only [Option.some.injEq] at hp
      subst hp
      exact ⟨hready, hk σ w g a key h hr hn hb⟩
    · cases hp
  | succ m =>
    have ih := ih0 m (Nat.lt_succ_self m)
    intro listed l σ w g a key hp h hr hn hb hBw hoq hM
    unfold plan at hp
    split at hp
    · rename_i hready
      simp only [Option.some.injEq] at hp
      subst hp
      exact ⟨fun _ => hk σ w g a key h hr hn hb, fun i hi => by rw [hready] at hi; cases hi⟩
    · rename_i j r hready
      have hops' : ∀ o ∈ ops.toList, ∀ d, o.dst = some d → d < a.tmps.size := fun o ho d hd => by rw [hn]; exact hops o ho d hd
      split at hp
      · rename_i i hfind
        obtain ⟨l', hp', rfl⟩ := consO_ok hp
        have hearly := List.find?_some hfind
        have hmem : i ∈ Region.ready .any ops listed := by rw [hready]; exact List.mem_of_find?_eq_some hfind
        obtain ⟨o, ho⟩ := ready_lt hmem
        have hfree : ∃ B₀, B₀ = w.heap.size ∧ isQ o = true ∧ ∀ j oj, ops[j]? = some oj → j ≠ i → listed.getD j true = false → (∀ e ∈ oj.after, Region.binds .any e = true → e.on ≠ i) → o.apart ops oj = true ∧ (calm oj = true ∨ storeTo ops oj = true ∧ B₀ = B) := by
          have hearly : early ops listed i = true ∨ early0 ops listed i = true := by simpa only [Bool.or_eq_true] using hearly
          rcases hearly with he | he
          · obtain ⟨q1, q2⟩ := early_ok ho he
            exact ⟨_, rfl, q1, fun j oj h1 h2 h3 h4 => ⟨(q2 j oj h1 h2 h3 h4).1, .inl (q2 j oj h1 h2 h3 h4).2⟩⟩
          · obtain ⟨q1, q0, q2⟩ := early0_ok ho he
            refine ⟨_, rfl, q1, fun j oj h1 h2 h3 h4 => ⟨(q2 j oj h1 h2 h3 h4).1, ?_⟩⟩
            rcases (q2 j oj h1 h2 h3 h4).2 with h | h
            · exact .inl h
            · exact .inr ⟨h, hoq q0⟩
        obtain ⟨B₀, hB0, hisq, hfree⟩ := hfree
        have hd : ∀ d, o.dst = some d → d < a.tmps.size := hops' o (by simpa using Array.mem_of_getElem? ho)
        have hnA : isA o = true → False := fun ha => by
          obtain ⟨dst, op, ty, pos, after, guard⟩ := o
          cases op <;> first | (simp [isQ] at hisq; done) | (simp [isA] at ha; done)
        unfold evPlan at h
        simp only [ho] at h
        rcases evStepG_ok hr hops' hd h with ⟨hw, σ₂, key', hr2, h2⟩ | ⟨hw, σ₂, key', hr2, h2⟩
        · simp only [cond_true] at h2
          unfold evYesQ at h2
          split at h2
          · rename_i σ' ok he
            obtain ⟨hok, hcont⟩ := rneed_ok h2
            subst hok
            obtain ⟨z, hz, hrz⟩ := pure_ok hr2 hd he
            exact wpAnyB_first ho (Region.noSelect_spec hs) m listed a w hfree (by omega) hmem (.inl ⟨hw, by rw [hB0]; exact fun w' h => hz w' (.inl h)⟩) (ih _ l' σ' w g _ key' hp' hcont hrz (by rw [put_size]; exact hn) hb hBw (fun hq => hoq (onlyQ_of hq)) (hM.step ho hd fun ha _ => (hnA ha).elim))
          · cases h2
        · exact wpAnyB_first ho (Region.noSelect_spec hs) m listed a w hfree (by omega) hmem (.inr ⟨hw, rfl⟩) (ih _ l' σ₂ w g _ key' hp' h2 hr2 (by rw [put_size]; exact hn) hb hBw (fun hq => hoq (onlyQ_of hq)) (hM.step ho hd fun ha _ => (hnA ha).elim))
      · split at hp
        · obtain ⟨l', hp', rfl⟩ := consO_ok hp
          have hmem : j ∈ Region.ready .any ops listed := by rw [hready]; simp
          obtain ⟨o, ho⟩ := ready_lt hmem
          have hd : ∀ d, o.dst = some d → d < a.tmps.size := hops' o (by simpa using Array.mem_of_getElem? ho)
          refine ⟨fun h0 => (by rw [hready] at h0; cases h0), fun i hi => ?_⟩
          have : i = j := by rw [hready] at hi; simpa using hi
          subst this
          unfold evPlan at h
          simp only [ho] at h
          unfold wpOp
          simp only [ho]
          rcases evStepG_ok hr hops' hd h with ⟨hw, σ₂, key', hr2, h2⟩ | ⟨hw, σ₂, key', hr2, h2⟩
          · simp only [cond_false] at h2
            unfold evYes at h2
            split at h2
            · rename_i σ' ok he
              obtain ⟨hok, hcont⟩ := rneed_ok h2
              subst hok
              rw [if_pos hw]
              refine .inl (evOp_goesC hr2 hcall hnw hd he _ _ fun z w' g' h3 h4 h5 => ⟨h5.grew ho hmem hM, ih _ l' σ' w' g' _ key' hp' hcont h3 (by rw [put_size]; exact hn) (hb.trans h4) (Nat.le_trans hBw h4.size) (fun hq => ?_) (hM.step ho hd fun ha _ => ⟨_, _, h5.box ha, hBw⟩)⟩)
              rw [h5.pure (onlyQ_at ho hq)]
              exact hoq (onlyQ_of hq)
            · cases h2
          · rw [if_neg (by simp [hw])]
            refine ⟨Grew.refl, ih _ l' σ₂ w g _ key' hp' h2 hr2 (by rw [put_size]; exact hn) hb hBw (fun hq => hoq (onlyQ_of hq)) (hM.step ho hd fun ha hg => ?_)⟩
            unfold Region.wanted at hw
            rw [hg] at hw
            cases hw
        · rename_i kk hf0
          cases hpo : pairOk ops listed j kk with
          | false => rw [hpo] at hp; cases hp
          | true =>
            rw [hpo, cond_true] at hp
            obtain ⟨l', hp', rfl⟩ := consO_ok hp
            have hmj : j ∈ Region.ready .any ops listed := by rw [hready]; simp
            have hmk : kk ∈ Region.ready .any ops listed := by rw [hready]; simp
            obtain ⟨oj, hoj⟩ := ready_lt hmj
            obtain ⟨ok, hok⟩ := ready_lt hmk
            unfold pairOk at hpo
            simp only [hoj, hok, Bool.and_eq_true, beq_iff_eq, bne_iff_ne, ne_eq, Option.isNone_iff_eq_none] at hpo
            obtain ⟨⟨⟨⟨⟨⟨haj, hak⟩, hgj⟩, hgk⟩, hne⟩, hrj⟩, hrk⟩ := hpo
            obtain ⟨dj, tj, hopj, hdj⟩ := isA_eq haj
            obtain ⟨dk, tk, hopk, hdk⟩ := isA_eq hak
            have hdne : dj ≠ dk := fun e => hne (by rw [hdj, hdk, e])
            have hddj : ∀ d, oj.dst = some d → d < a.tmps.size := hops' oj (by simpa using Array.mem_of_getElem? hoj)
            have hddk : ∀ d, ok.dst = some d → d < a.tmps.size := hops' ok (by simpa using Array.mem_of_getElem? hok)
            -- the plan goes on with the other one
            cases m with
            | zero => unfold plan at hp'; rw [hrj] at hp'; cases hp'
            | succ m =>
              have hp2 := hp'
              unfold plan at hp2
              rw [hrj] at hp2
              have hkj : kk ≠ j := by
                intro e
                subst e
                rw [hoj] at hok
                injection hok with hok
                subst hok
                exact hne rfl
              have hnqj : isQ oj = false := by
                obtain ⟨dst, op, ty, pos, after, guard⟩ := oj
                cases op <;> first | (simp [isA] at haj; done) | rfl
              have grewA : ∀ {i : Nat} {o : Oper} {w w' : World}, ops[i]? = some o → isA o = true → Below w.heap.size w w' → Grew ops B i w w' := fun {i o w w'} ho ha hbb o' ho' => by
                rw [ho] at ho'; injection ho' with ho'; subst ho'
                refine ⟨fun _ => hbb, fun hst => ?_⟩
                obtain ⟨_, t, d, x, hop, _⟩ := storeTo_ok hst
                obtain ⟨d', t', hop', _⟩ := isA_eq ha
                rw [hop] at hop'; cases hop'
              have hnq : isQ ok = false := by
                obtain ⟨dst, op, ty, pos, after, guard⟩ := ok
                cases op <;> first | (simp [isA] at hak; done) | rfl
              have hfind : List.find? (fun i => early ops (listed.setIfInBounds j true) i || early0 ops (listed.setIfInBounds j true) i) [kk] = none := by
                simp [List.find?_cons, early, early0, hok, hnq]
              simp only [hfind] at hp2
              obtain ⟨l2, hp3, rfl⟩ := consO_ok hp2
              obtain ⟨σ1, e1, key1, h1⟩ := plan_alloc hoj hopj hdj hgj h
              obtain ⟨σ2, e2, key2, h2⟩ := plan_alloc hok hopk hdk hgk h1
              obtain ⟨rowj, rfl, aj⟩ := evAlloc_eq e1
              obtain ⟨rowk, rfl, ak⟩ := evAlloc_eq e2
              have hwj : Region.wanted oj (yielded ops a.tmps) = true := by unfold Region.wanted; rw [hgj]
              have hwk : Region.wanted ok (yielded ops a.tmps) = true := by unfold Region.wanted; rw [hgk]
              refine ⟨fun h0 => (by rw [hready] at h0; cases h0), fun i hi => ?_⟩
              have hi : i = j ∨ i = kk := by rw [hready] at hi; simpa using hi
              rcases hi with rfl | rfl
              · unfold wpOp
                simp only [hoj]
                rw [if_pos hwj]
                refine .inl ?_
                obtain ⟨z, w', g', q1, q2, q3, q4, q5⟩ := evAlloc_okB hr hopj hdj hddj e1
                unfold Oper.wp
                rw [q1]
                exact ⟨grewA hoj haj q4, ih _ _ _ w' g' _ key1 hp' h1 q2 (by rw [put_size]; exact hn) (hb.trans q3) (Nat.le_trans hBw q3.size) (fun hq => absurd (onlyQ_at hoj hq) (by rw [hnqj]; exact Bool.false_ne_true)) (hM.step hoj hddj fun _ _ => ⟨_, _, q5, hBw⟩)⟩
              · unfold wpOp
                simp only [hok]
                rw [if_pos hwk]
                refine .inl ?_
                obtain ⟨z, w', g', q1, q2, q3, q4, q5⟩ := evAlloc_okB hr hopk hdk hddk (ak σ)
                unfold Oper.wp
                rw [q1]
                refine ⟨grewA hok hak q4, fun h0 => (by rw [hrk] at h0; cases h0), fun i' hi' => ?_⟩
                have : i' = j := by rw [hrk] at hi'; simpa using hi'
                subst this
                have hwj' : Region.wanted oj (yielded ops (a.put ok.dst z).tmps) = true := by unfold Region.wanted; rw [hgj]
                unfold wpOp
                simp only [hoj]
                rw [if_pos hwj']
                refine .inl ?_
                obtain ⟨z2, w2, g2, r1, r2, r3, r4, r5⟩ := evAlloc_okB q2 hopj hdj (fun d hd => by rw [put_size]; exact hddj d hd) (aj _)
                unfold Oper.wp
                rw [r1]
                have hM1 := hM.step hok hddk (z := z) fun _ _ => ⟨_, _, q5, hBw⟩
                have hM2 := hM1.step hoj (fun d hd => by rw [put_size]; exact hddj d hd) (z := z2) fun _ _ => ⟨_, _, r5, Nat.le_trans hBw q3.size⟩
                refine ⟨grewA hoj haj r4, ?_⟩
                rw [Array.setIfInBounds_comm _ _ hkj]
                exact ih0 m (by omega) _ l2 _ w2 g2 _ key2 hp3 h2 (r2.same (alloced_swap σ hdne rowj rowk)) (by rw [put_size, put_size]; exact hn) ((hb.trans q3).trans r3) (Nat.le_trans (Nat.le_trans hBw q3.size) r3.size) (fun hq => absurd (onlyQ_at hok hq) (by rw [hnq]; exact Bool.false_ne_true)) (by rw [Array.setIfInBounds_comm _ _ hkj] at hM2; exact hM2)
        · cases hp

/-! a region that reads no memory: what is computed in it is the same in every world -/
theorem wp_imp {o : Oper} {a : Act} {w : World} {K K' : Act → World → Prop} {Q Q' : Exit → Act → World → Prop} (hQ : ∀ e a w, Q e a w → Q' e a w) (hK : ∀ a w, K a w → K' a w) (hh : o.wp P a w K Q) : o.wp P a w K' Q' := by
  unfold Oper.wp at *
  generalize (execOp a.eval o).run P w = r at *
  cases r with
  | ok n w' =>
    cases n <;> simp only [Oper.upon] at hh ⊢
    case value => exact hK _ _ hh
    case skip => exact hK _ _ hh
    case defer => exact hK _ _ hh
    case enter =>
      refine Calls.mono hh fun e w'' he => ?_
      cases e with
      | returned v => exact hK _ _ he
      | panicked c => exact hQ _ _ _ he
      | outgrown => obtain ⟨x, y, h⟩ := he; exact ⟨x, y, hQ _ _ _ h⟩
    case row => exact Rows.mono hh fun _ _ he => hK _ _ he
  | halt x w' =>
    cases x <;> simp only [Oper.upon] at hh ⊢ <;> first | exact hh.elim | exact hQ _ _ _ hh
theorem wpOp_imp {ops : Array Oper} {i : Nat} {a : Act} {w : World} {K K' : Act → World → Prop} {Q Q' : Exit → Act → World → Prop} (hQ : ∀ e a w, Q e a w → Q' e a w) (hK : ∀ a w, K a w → K' a w) (hh : wpOp P ops Q i K a w) : wpOp P ops Q' i K' a w := by
  unfold wpOp at *
  split
  · exact hK _ _ (by simpa [*] using hh)
  · rename_i o ho
    simp only [ho] at hh
    split
    · rename_i hw
      simp only [hw, if_true] at hh
      rcases hh with hh | ⟨x, y, z, hl⟩
      · exact .inl (wp_imp hQ hK hh)
      · exact .inr ⟨x, y, z, hQ _ _ _ hl⟩
    · rename_i hw; simp only [hw] at hh; exact hK _ _ hh
theorem wpAny_imp {ops : Array Oper} {Q Q' : Exit → Act → World → Prop} (hQ : ∀ e a w, Q e a w → Q' e a w) : ∀ (n : Nat) (listed : Array Bool) (a : Act) (w : World), wpAny P .any ops Q n listed a w → wpAny P .any ops Q' n listed a w
  | 0, _, _, _, h => ⟨h.1, hQ _ _ _ h.2⟩
  | n + 1, _, _, _, h => ⟨fun h0 => hQ _ _ _ (h.1 h0), fun i hi => wpOp_imp hQ (fun a' w' h' => wpAny_imp hQ n _ a' w' h') (h.2 i hi)⟩
/-- at the end alone -/
def QN (Q : Act → World → Prop) : Exit → Act → World → Prop
  | .normal, a, w => Q a w
  | _, _, _ => False
theorem evPlan0_ok {call : FuncId → List T → Option (T × Bool)} (hcall : CallOk P call) {ops : Array Oper} (hs : Region.noSelect ops = true) (hml : memless ops = true) {k : St → R} {out : Nat × List D} {n : Nat} {Q : Act → World → Prop} {w0 : World} (hops : ∀ o ∈ ops.toList, ∀ d, o.dst = some d → d < n)
    (hk : ∀ σ' w' g' a' key', k σ' = some (key', some out) → Rel P w' g' base σ' a' → a'.tmps.size = n → Below base w0 w' → Q a' w') :
    ∀ (m : Nat) (listed : Array Bool) (l : List (Nat × Bool)) (σ : St) (w : World) (g : G) (a : Act) (key : Option Dom), plan ops m listed = some l → evPlan P call ops l σ k = some (key, some out) → Rel P w g base σ a → a.tmps.size = n → Below base w0 w → wpAny P .any ops (QN Q) m listed a w := by
  intro m
  induction m with
  | zero =>
    intro listed l σ w g a key hp h hr hn hb
    unfold plan at hp
    split at hp
    · rename_i hready
      simp only [Option.some.injEq] at hp
      subst hp
      exact ⟨hready, hk σ w g a key h hr hn hb⟩
    · cases hp
  | succ m ih =>
    intro listed l σ w g a key hp h hr hn hb
    unfold plan at hp
    split at hp
    · rename_i hready
      simp only [Option.some.injEq] at hp
      subst hp
      exact ⟨fun _ => hk σ w g a key h hr hn hb, fun i hi => by rw [hready] at hi; cases hi⟩
    · rename_i j r hready
      have hops' : ∀ o ∈ ops.toList, ∀ d, o.dst = some d → d < a.tmps.size := fun o ho d hd => by rw [hn]; exact hops o ho d hd
      have hmem0 : ∀ {i : Nat} {o : Oper}, ops[i]? = some o → noMem o = true ∨ isC o = true := fun {i o} ho => by
        have := List.all_eq_true.1 hml o (by simpa using Array.mem_of_getElem? ho)
        simpa using this
      split at hp
      · rename_i i hfind
        obtain ⟨l', hp', rfl⟩ := consO_ok hp
        have hearly := List.find?_some hfind
        have hmem : i ∈ Region.ready .any ops listed := by rw [hready]; exact List.mem_of_find?_eq_some hfind
        obtain ⟨o, ho⟩ := ready_lt hmem
        have hfree : isQ o = true ∧ ∀ j oj, ops[j]? = some oj → j ≠ i → listed.getD j true = false → (∀ e ∈ oj.after, Region.binds .any e = true → e.on ≠ i) → o.apart ops oj = true := by
          have hearly : early ops listed i = true ∨ early0 ops listed i = true := by simpa only [Bool.or_eq_true] using hearly
          rcases hearly with he | he
          · obtain ⟨q1, q2⟩ := early_ok ho he
            exact ⟨q1, fun j oj h1 h2 h3 h4 => (q2 j oj h1 h2 h3 h4).1⟩
          · obtain ⟨q1, q0, q2⟩ := early0_ok ho he
            exact ⟨q1, fun j oj h1 h2 h3 h4 => (q2 j oj h1 h2 h3 h4).1⟩
        obtain ⟨hisq, hfree⟩ := hfree
        have hnm : noMem o = true := by
          rcases hmem0 ho with h' | h'
          · exact h'
          · exfalso
            obtain ⟨dst, op, ty, pos, after, guard⟩ := o
            cases op with
            | call c =>
              obtain ⟨callee, args, ts⟩ := c
              cases callee <;> first | (simp [isC] at h'; done) | (simp [isQ] at hisq; done)
            | _ => simp [isC] at h'
        have hd : ∀ d, o.dst = some d → d < a.tmps.size := hops' o (by simpa using Array.mem_of_getElem? ho)
        unfold evPlan at h
        simp only [ho] at h
        rcases evStepG_ok hr hops' hd h with ⟨hw, σ₂, key', hr2, h2⟩ | ⟨hw, σ₂, key', hr2, h2⟩
        · simp only [cond_true] at h2
          unfold evYesQ at h2
          split at h2
          · rename_i σ' ok he
            obtain ⟨hok, hcont⟩ := rneed_ok h2
            subst hok
            obtain ⟨z, hz, hrz⟩ := pure_ok hr2 hd he
            exact wpAny_first ho (Region.noSelect_spec hs) (fun c a w h => h) m listed a w hfree hmem (.inl ⟨hw, fun w' => hz w' (.inr hnm)⟩) (ih _ l' σ' w g _ key' hp' hcont hrz (by rw [put_size]; exact hn) hb)
          · cases h2
        · exact wpAny_first ho (Region.noSelect_spec hs) (fun c a w h => h) m listed a w hfree hmem (.inr ⟨hw, rfl⟩) (ih _ l' σ₂ w g _ key' hp' h2 hr2 (by rw [put_size]; exact hn) hb)
      · split at hp
        · obtain ⟨l', hp', rfl⟩ := consO_ok hp
          have hmem : j ∈ Region.ready .any ops listed := by rw [hready]; simp
          obtain ⟨o, ho⟩ := ready_lt hmem
          have hd : ∀ d, o.dst = some d → d < a.tmps.size := hops' o (by simpa using Array.mem_of_getElem? ho)
          refine ⟨fun h0 => (by rw [hready] at h0; cases h0), fun i hi => ?_⟩
          have : i = j := by rw [hready] at hi; simpa using hi
          subst this
          unfold evPlan at h
          simp only [ho] at h
          unfold wpOp
          simp only [ho]
          rcases evStepG_ok hr hops' hd h with ⟨hw, σ₂, key', hr2, h2⟩ | ⟨hw, σ₂, key', hr2, h2⟩
          · simp only [cond_false] at h2
            unfold evYes at h2
            split at h2
            · rename_i σ' ok he
              obtain ⟨hok, hcont⟩ := rneed_ok h2
              subst hok
              rw [if_pos hw]
              exact .inl (evOp_goes hr2 hcall hd he _ _ fun z w' g' h3 h4 => ih _ l' σ' w' g' _ key' hp' hcont h3 (by rw [put_size]; exact hn) (hb.trans h4))
            · cases h2
          · rw [if_neg (by simp [hw])]
            exact ih _ l' σ₂ w g _ key' hp' h2 hr2 (by rw [put_size]; exact hn) hb
        · rename_i kk hf0
          cases hpo : pairOk ops listed j kk with
          | false => rw [hpo] at hp; cases hp
          | true =>
            exfalso
            have hmj : j ∈ Region.ready .any ops listed := by rw [hready]; simp
            obtain ⟨oj, hoj⟩ := ready_lt hmj
            have hmk : kk ∈ Region.ready .any ops listed := by rw [hready]; simp
            obtain ⟨ok, hok⟩ := ready_lt hmk
            unfold pairOk at hpo
            simp only [hoj, hok, Bool.and_eq_true] at hpo
            obtain ⟨⟨⟨⟨⟨⟨haj, _⟩, _⟩, _⟩, _⟩, _⟩, _⟩ := hpo
            obtain ⟨dj, tj, hopj, _⟩ := isA_eq haj
            have := hmem0 hoj
            obtain ⟨dst, op, ty, pos, after, guard⟩ := oj
            simp only at hopj
            subst hopj
            simp [noMem, isC] at this
        · cases hp

/-! all orders -/
theorem consAll_ok {q : Nat × Bool} {o : Option (List (List (Nat × Bool)))} {ls : List (List (Nat × Bool))} (h : consAll q o = some ls) : ∃ l r, o = some (l :: r) ∧ ls = (l :: r).map (q :: ·) := by
  unfold consAll at h
  split at h
  · cases h
  · rename_i l r; injection h with h; exact ⟨l, r, rfl, h.symm⟩
  · cases h
theorem appAll_ok {a b : Option (List (List (Nat × Bool)))} {ls : List (List (Nat × Bool))} (h : appAll a b = some ls) : ∃ x y, a = some x ∧ b = some y ∧ ls = x ++ y := by
  unfold appAll at h
  split at h
  · rename_i x y; injection h with h; exact ⟨x, y, rfl, rfl, h.symm⟩
  · cases h
theorem fold_ok {f : Nat → Option (List (List (Nat × Bool)))} : ∀ {js : List Nat} {ls : List (List (Nat × Bool))}, js.foldr (fun i acc => appAll (consAll (i, false) (f i)) acc) (some []) = some ls → ∀ i ∈ js, ∃ l r, f i = some (l :: r) ∧ ∀ x ∈ (l :: r), ((i, false) :: x) ∈ ls
  | [], ls, h, i, hi => by cases hi
  | j :: js, ls, h, i, hi => by
    obtain ⟨x, y, h1, h2, rfl⟩ := appAll_ok h
    obtain ⟨l, r, h3, rfl⟩ := consAll_ok h1
    rcases List.mem_cons.1 hi with rfl | hi
    · exact ⟨l, r, h3, fun x hx => List.mem_append.2 (.inl (List.mem_map.2 ⟨x, hx, rfl⟩))⟩
    · obtain ⟨l', r', h4, h5⟩ := fold_ok h2 i hi
      exact ⟨l', r', h4, fun x hx => List.mem_append.2 (.inr (h5 x hx))⟩
/-- a step in straight order -/
theorem evS_cons {call : FuncId → List T → Option (T × Bool)} {ops : Array Oper} {i : Nat} {q : Bool} {l : List (Nat × Bool)} {o : Oper} (ho : ops[i]? = some o) {τ : St} (h : evS P call ops ((i, q) :: l) σ = some (τ, true)) :
    (want ops σ o = .yes ∧ ∃ σ', (bif q then evPure P σ o else evOp P call σ o) = some (σ', true) ∧ evS P call ops l σ' = some (τ, true)) ∨ (want ops σ o = .no ∧ evS P call ops l (σ.put o.dst .none_) = some (τ, true)) := by
  unfold evS at h
  simp only [ho] at h
  split at h
  · rename_i hw
    split at h
    · rename_i σ' ok he
      split at h
      · rename_i τ' ok' he'
        simp only [Option.some.injEq, Prod.mk.injEq, Bool.and_eq_true] at h
        obtain ⟨rfl, rfl, rfl⟩ := h
        exact .inl ⟨hw, σ', he, he'⟩
      · cases h
    · cases h
  · rename_i hw; exact .inr ⟨hw, h⟩
  · cases h
theorem orders_ok {call : FuncId → List T → Option (T × Bool)} (hcall : CallOk P call) (hnw : ∀ f args r ok, call f args = some (r, ok) → r.sh.isW = false) {ops : Array Oper} (hs : Region.noSelect ops = true) {F : St → Prop} {n B : Nat} {Q : Act → World → Prop} {w0 : World} (hops : ∀ o ∈ ops.toList, ∀ d, o.dst = some d → d < n)
    (hk : ∀ σ' w' g' a', F σ' → Rel P w' g' base σ' a' → a'.tmps.size = n → Below base w0 w' → Q a' w') :
    ∀ (m : Nat) (listed : Array Bool) (ls : List (List (Nat × Bool))) (σ : St) (w : World) (g : G) (a : Act), orders ops m listed = some ls → (∀ l ∈ ls, ∃ τ, evS P call ops l σ = some (τ, true) ∧ F τ) → Rel P w g base σ a → a.tmps.size = n → Below base w0 w → B ≤ w.heap.size → (onlyQ ops listed = true → w.heap.size = B) → Made ops B listed a → wpAnyB P ops B Q m listed a w := by
  intro m
  induction m with
  | zero =>
    intro listed ls σ w g a hp h hr hn hb hBw hoq hM
    unfold orders at hp
    split at hp
    · rename_i hready
      injection hp with hp
      subst hp
      obtain ⟨τ, h1, h2⟩ := h [] (by simp)
      injection h1 with h1
      injection h1 with h1 _
      subst h1
      exact ⟨hready, hk _ w g a h2 hr hn hb⟩
    · cases hp
  | succ m ih =>
    intro listed ls σ w g a hp h hr hn hb hBw hoq hM
    have hops' : ∀ o ∈ ops.toList, ∀ d, o.dst = some d → d < a.tmps.size := fun o ho d hd => by rw [hn]; exact hops o ho d hd
    unfold orders at hp
    split at hp
    · rename_i hready
      injection hp with hp
      subst hp
      obtain ⟨τ, h1, h2⟩ := h [] (by simp)
      injection h1 with h1
      injection h1 with h1 _
      subst h1
      exact ⟨fun _ => hk _ w g a h2 hr hn hb, fun i hi => by rw [hready] at hi; cases hi⟩
    · rename_i j r hready
      split at hp
      · rename_i i hfind
        obtain ⟨l0, r0, hp', rfl⟩ := consAll_ok hp
        have hearly := List.find?_some hfind
        have hmem : i ∈ Region.ready .any ops listed := by rw [hready]; exact List.mem_of_find?_eq_some hfind
        obtain ⟨o, ho⟩ := ready_lt hmem
        have hfree : ∃ B₀, B₀ = w.heap.size ∧ isQ o = true ∧ ∀ j oj, ops[j]? = some oj → j ≠ i → listed.getD j true = false → (∀ e ∈ oj.after, Region.binds .any e = true → e.on ≠ i) → o.apart ops oj = true ∧ (calm oj = true ∨ storeTo ops oj = true ∧ B₀ = B) := by
          have hearly : early ops listed i = true ∨ early0 ops listed i = true := by simpa only [Bool.or_eq_true] using hearly
          rcases hearly with he | he
          · obtain ⟨q1, q2⟩ := early_ok ho he
            exact ⟨_, rfl, q1, fun j oj h1 h2 h3 h4 => ⟨(q2 j oj h1 h2 h3 h4).1, .inl (q2 j oj h1 h2 h3 h4).2⟩⟩
          · obtain ⟨q1, q0, q2⟩ := early0_ok ho he
            refine ⟨_, rfl, q1, fun j oj h1 h2 h3 h4 => ⟨(q2 j oj h1 h2 h3 h4).1, ?_⟩⟩
            rcases (q2 j oj h1 h2 h3 h4).2 with h | h
            · exact .inl h
            · exact .inr ⟨h, hoq q0⟩
        obtain ⟨B₀, hB0, hisq, hfree⟩ := hfree
        have hd : ∀ d, o.dst = some d → d < a.tmps.size := hops' o (by simpa using Array.mem_of_getElem? ho)
        have hnA : isA o = true → False := fun ha => by
          obtain ⟨dst, op, ty, pos, after, guard⟩ := o
          cases op <;> first | (simp [isQ] at hisq; done) | (simp [isA] at ha; done)
        have hh : ∀ l ∈ (l0 :: r0), ∃ τ, evS P call ops ((i, true) :: l) σ = some (τ, true) ∧ F τ := fun l hl => h _ (List.mem_map.2 ⟨l, hl, rfl⟩)
        have hw := want_ok hr hops' (o := o)
        obtain ⟨τ0, e0, _⟩ := hh l0 (by simp)
        rcases evS_cons ho e0 with ⟨hq, σ', he, _⟩ | ⟨hq, _⟩
        · rw [hq] at hw
          rw [cond_true] at he
          obtain ⟨z, hz, hrz⟩ := pure_ok hr hd he
          refine wpAnyB_first ho (Region.noSelect_spec hs) m listed a w hfree (by omega) hmem (.inl ⟨hw, by rw [hB0]; exact fun w' h => hz w' (.inl h)⟩) (ih _ _ σ' w g _ hp' (fun l hl => ?_) hrz (by rw [put_size]; exact hn) hb hBw (fun hq => hoq (onlyQ_of hq)) (hM.step ho hd fun ha _ => (hnA ha).elim))
          obtain ⟨τ, e, hF⟩ := hh l hl
          rcases evS_cons ho e with ⟨_, σ'', he', e'⟩ | ⟨hq', _⟩
          · rw [cond_true, he] at he'
            injection he' with he'; injection he' with he' _
            subst he'
            exact ⟨τ, e', hF⟩
          · rw [hq] at hq'; cases hq'
        · rw [hq] at hw
          refine wpAnyB_first ho (Region.noSelect_spec hs) m listed a w hfree (by omega) hmem (.inr ⟨hw, rfl⟩) (ih _ _ _ w g _ hp' (fun l hl => ?_) (hr.put hd (t := .none_) ⟨#[], rfl, rfl, fun j x h => by simp at h⟩) (by rw [put_size]; exact hn) hb hBw (fun hq => hoq (onlyQ_of hq)) (hM.step ho hd fun ha _ => (hnA ha).elim))
          obtain ⟨τ, e, hF⟩ := hh l hl
          rcases evS_cons ho e with ⟨hq', _⟩ | ⟨_, e'⟩
          · rw [hq] at hq'; cases hq'
          · exact ⟨τ, e', hF⟩
      · refine ⟨fun h0 => (by rw [hready] at h0; cases h0), fun i hi => ?_⟩
        have hi' : i ∈ j :: r := by rw [hready] at hi; exact hi
        obtain ⟨l0, r0, hp', hsub⟩ := fold_ok hp i hi'
        obtain ⟨o, ho⟩ := ready_lt hi
        have hd : ∀ d, o.dst = some d → d < a.tmps.size := hops' o (by simpa using Array.mem_of_getElem? ho)
        have hh : ∀ l ∈ (l0 :: r0), ∃ τ, evS P call ops ((i, false) :: l) σ = some (τ, true) ∧ F τ := fun l hl => h _ (hsub l hl)
        have hw := want_ok hr hops' (o := o)
        obtain ⟨τ0, e0, _⟩ := hh l0 (by simp)
        unfold wpOp
        simp only [ho]
        rcases evS_cons ho e0 with ⟨hq, σ', he, _⟩ | ⟨hq, _⟩
        · rw [hq] at hw
          rw [cond_false] at he
          rw [if_pos hw]
          refine .inl (evOp_goesC hr hcall hnw hd he _ _ fun z w' g' h3 h4 h5 => ⟨h5.grew ho hi hM, ih _ _ σ' w' g' _ hp' (fun l hl => ?_) h3 (by rw [put_size]; exact hn) (hb.trans h4) (Nat.le_trans hBw h4.size) (fun hq => ?_) (hM.step ho hd fun ha _ => ⟨_, _, h5.box ha, hBw⟩)⟩)
          · obtain ⟨τ, e, hF⟩ := hh l hl
            rcases evS_cons ho e with ⟨_, σ'', he', e'⟩ | ⟨hq', _⟩
            · rw [cond_false, he] at he'
              injection he' with he'; injection he' with he' _
              subst he'
              exact ⟨τ, e', hF⟩
            · rw [hq] at hq'; cases hq'
          · rw [h5.pure (onlyQ_at ho hq)]
            exact hoq (onlyQ_of hq)
        · rw [hq] at hw
          rw [if_neg (by simp [hw])]
          refine ⟨Grew.refl, ih _ _ _ w g _ hp' (fun l hl => ?_) (hr.put hd (t := .none_) ⟨#[], rfl, rfl, fun j x h => by simp at h⟩) (by rw [put_size]; exact hn) hb hBw (fun hq => hoq (onlyQ_of hq)) (hM.step ho hd fun ha hg => ?_)⟩
          · obtain ⟨τ, e, hF⟩ := hh l hl
            rcases evS_cons ho e with ⟨hq', _⟩ | ⟨_, e'⟩
            · rw [hq] at hq'; cases hq'
            · exact ⟨τ, e', hF⟩
          · unfold Region.wanted at hw
            rw [hg] at hw
            cases hw
theorem look_absent : ∀ {e : Env} {i : Nat}, i ∉ e.map (·.1) → look i e = .any
  | [], _, _ => rfl
  | (j, v) :: e, i, h => by
    simp only [List.map_cons, List.mem_cons, not_or] at h
    rw [look, show (i == j) = false from by simpa using h.1, cond_false]
    exact look_absent h.2
theorem look2_absent : ∀ {r e : Env} {i : Nat}, i ∉ r.map (·.1) → i ∉ e.map (·.1) → look2 i e r = .any
  | [], _, _, _, h => look_absent h
  | (j, v) :: r, e, i, h, h' => by
    simp only [List.map_cons, List.mem_cons, not_or] at h
    rw [look2, show (i == j) = false from by simpa using h.1, cond_false]
    exact look2_absent h.2 h'
theorem hlook_absent : ∀ {h : Boxes} {i : Nat}, i ∉ h.map (·.1) → hlook i h = none
  | [], _, _ => rfl
  | (j, v) :: e, i, h => by
    simp only [List.map_cons, List.mem_cons, not_or] at h
    rw [hlook, show (i == j) = false from by simpa using h.1, cond_false]
    exact hlook_absent h.2
theorem map_eq_at {α β : Type} {f f' : α → β} : ∀ {l : List α}, l.map f = l.map f' → ∀ x ∈ l, f x = f' x
  | [], _, x, hx => by cases hx
  | y :: l, h, x, hx => by
    simp only [List.map_cons, List.cons.injEq] at h
    rcases List.mem_cons.1 hx with rfl | hx
    · exact h.1
    · exact map_eq_at h.2 x hx
theorem same_of {σ τ : St} (h1 : sameSh σ τ = true) (h2 : sameP (pays σ τ) (paysAs σ τ) = true) : Same τ σ := by
  have h2 : pays σ τ = paysAs σ τ := by
    unfold sameP at h2
    exact @of_decide_eq_true _ (Classical.propDecidable _) h2
  unfold sameSh at h1
  simp only [Bool.and_eq_true, List.all_eq_true] at h1
  obtain ⟨s1, s2⟩ := h1
  unfold pays paysAs at h2
  have hlen : ∀ {α β : Type} (f f' : α → β) (l : List α), (l.map f).length = (l.map f').length := fun f f' l => by simp
  obtain ⟨p1, p2⟩ := List.append_inj h2 (hlen _ _ _)
  refine ⟨fun i => ?_, fun i => ?_⟩
  · by_cases hi : i ∈ allTmps σ τ
    · have e1 := s1 i hi
      have e1 : (look2 i σ.e σ.r).sh = (look2 i τ.e τ.r).sh := by simpa using e1
      have e2 := map_eq_at p1 i hi
      generalize look2 i σ.e σ.r = u at *
      generalize look2 i τ.e τ.r = v at *
      cases u; cases v; simp_all
    · simp only [allTmps, List.mem_eraseDups, List.mem_append, not_or] at hi
      rw [look2_absent hi.1.1 hi.1.2, look2_absent hi.2.1 hi.2.2]
  · by_cases hi : i ∈ allBoxes σ τ
    · have e1 := s2 i hi
      have e1 : (hlook i σ.h).map (·.1) = (hlook i τ.h).map (·.1) := by simpa using e1
      have e2 := map_eq_at p2 i hi
      cases hu : hlook i σ.h with
      | none =>
        rw [hu] at e1
        cases hv : hlook i τ.h with
        | none => rfl
        | some v => rw [hv] at e1; cases e1
      | some u =>
        rw [hu] at e1 e2
        cases hv : hlook i τ.h with
        | none => rw [hv] at e1; cases e1
        | some v =>
          rw [hv] at e1 e2
          simp only [Option.map_some, Option.some.injEq, Option.getD_some] at e1 e2
          obtain ⟨u1, u2⟩ := u
          obtain ⟨v1, v2⟩ := v
          simp_all
    · simp only [allBoxes, List.mem_eraseDups, List.mem_append, not_or] at hi
      rw [hlook_absent hi.1, hlook_absent hi.2]
theorem evRest_ok {call : FuncId → List T → Option (T × Bool)} {ops : Array Oper} {σ0 : St} {r : R} {out : Nat × List D} : ∀ {ls : List (List (Nat × Bool))} {key : Option Dom}, evRest P call ops σ σ0 ls r = some (key, some out) →
    r = some (key, some out) ∧ ∀ l ∈ ls, ∃ τ, evS P call ops l σ = some (τ, true) ∧ Same τ σ0
  | [], key, h => ⟨h, fun l hl => by cases hl⟩
  | l :: ls, key, h => by
    unfold evRest at h
    split at h
    · rename_i τ ok he
      cases hsh : sameSh σ0 τ with
      | false => rw [hsh] at h; cases h
      | true =>
        rw [hsh, cond_true] at h
        obtain ⟨hok, hcont⟩ := rneed_ok h
        simp only [Bool.and_eq_true] at hok
        obtain ⟨rfl, hp⟩ := hok
        obtain ⟨h1, h2⟩ := evRest_ok hcont
        exact ⟨h1, fun l' hl => by
          rcases List.mem_cons.1 hl with rfl | hl
          · exact ⟨τ, he, same_of hsh hp⟩
          · exact h2 l' hl⟩
    · cases h

theorem low_drawn (hr : Rel P w g base σ a) : Rel P { w with drawn := w.drawn + 1 } g base σ a := by
  have hE : Ext (some 0) g g w { w with drawn := w.drawn + 1 } := ⟨Nat.le_refl _, fun _ _ => rfl, fun _ _ => ⟨rfl, rfl, rfl, rfl⟩, fun _ _ => rfl, fun _ _ => rfl, fun _ _ => rfl⟩
  have hE' : Ext none g g w { w with drawn := w.drawn + 1 } := ⟨Nat.le_refl _, fun _ _ => rfl, fun _ _ => ⟨rfl, rfl, rfl, rfl⟩, fun _ _ => rfl, fun _ _ => rfl, fun _ _ => rfl⟩
  have hk : Kept P base g g w { w with drawn := w.drawn + 1 } (fun c => c) := by
    intro c x v hv
    cases c with
    | any => trivial
    | d s => exact hE'.vd hv
    | kb b => exact hv
    | own t xm e =>
      obtain ⟨row, hrow, hown⟩ := hv
      exact ⟨row, hrow, hE'.own (by intro e; cases e) hown⟩
    | ptr id off => exact hv
    | eptr tk e off => cases tk with
      | none =>
        obtain ⟨row, b, o, h1, h2, h3, h4⟩ := hv
        exact ⟨row, b, o, h1, h2, h3, fun j s hs => by
          obtain ⟨u, k1, k2, k3⟩ := h4 j s hs
          exact ⟨u, k1, k2, hE'.vd k3⟩⟩
      | some t =>
        obtain ⟨row, h1, h2, h3, u, h4⟩ := hv
        exact ⟨row, h1, h2, h3, u, hE'.own (by intro e; cases e) h4⟩
    | cptr cells off => exact hE'.cptr hr.base_le hv
    | fn f caps =>
      obtain ⟨arr, h1, h2, h3⟩ := hv
      refine ⟨arr, h1, h2, fun j c hc => ?_⟩
      obtain ⟨u, hu, hcap⟩ := h3 j c hc
      refine ⟨u, hu, ?_⟩
      cases c with
      | d s => exact hE'.vd hcap
      | ptr id off => exact hcap
      | cptr cells off => exact hE'.cptr hr.base_le hcap
  refine ⟨fun i => hk.vt' (hr.env i), fun id cs ds h => ?_, hr.fresh, hr.base_le, hr.defers, hr.low⟩
  obtain ⟨k1, k2, k3, kl, arr, E, k4, k5⟩ := hr.box id cs ds h
  have := hk.vcs k5
  rw [List.map_id'] at this
  exact ⟨k1, k2, k3, kl, arr, E, k4, this⟩

/-- a region that draws its order -/
theorem evDraw_ok {call : FuncId → List T → Option (T × Bool)} (hcall : CallOk P call) {id : Nat} {ops : Array Oper} {k : St → R} {key : Option Dom} {out : Nat × List D} {n : Nat} {Q : Exit → Act → World → Prop} {w0 : World} (hops : ∀ o ∈ ops.toList, ∀ d, o.dst = some d → d < n)
    (hk : ∀ σ' w' g' a' key', k σ' = some (key', some out) → Rel P w' g' base σ' a' → a'.tmps.size = n → Below base w0 w' → Q .normal a' w') (h : evDraw P call ops σ k = some (key, some out)) (hr : Rel P w g base σ a) (hn : a.tmps.size = n) (hb : Below base w0 w) : (Code.region id ops true).wp P Q a w := by
  unfold evDraw at h
  cases hc : (Region.noSelect ops && P.follows .mixedOrders) with
  | false => rw [hc] at h; cases h
  | true =>
    rw [hc, cond_true] at h
    simp only [Bool.and_eq_true] at hc
    split at h
    · rename_i l hp
      cases hml : memless ops with
      | true =>
       rw [hml, cond_true] at h
       refine wp_region_any hc.2 (wpAny_imp (Q := QN fun a w => Q .normal a w) (fun e a w h => ?_) _ _ _ _ ?_)
       · cases e <;> first | exact h | exact h.elim
       · exact evPlan0_ok hcall hc.1 hml hops (fun σ' w' g' a' key' h1 h2 h3 h4 => hk σ' w' g' a' key' h1 h2 h3 h4) ops.size _ l σ _ g a key hp h (low_drawn hr) hn (hb.trans ⟨rfl, rfl, rfl, Nat.le_refl _, fun _ _ => rfl⟩)
      | false =>
      rw [hml, cond_false] at h
      refine wp_region_any hc.2 (wpAny_of_B (B := w.heap.size) (Q := fun a w => Q .normal a w) (fun _ _ h => h) _ _ _ _ ?_)
      exact evPlan_ok (B := w.heap.size) (noW_ok hcall) (fun _ _ _ _ h => noW_not h) hc.1 hops (fun σ' w' g' a' key' h1 h2 h3 h4 => hk σ' w' g' a' key' h1 h2 h3 h4) ops.size _ l σ _ g a key hp h (low_drawn hr) hn (hb.trans ⟨rfl, rfl, rfl, Nat.le_refl _, fun _ _ => rfl⟩) (Nat.le_refl _) (fun _ => rfl) (fun _ j o d hj hl => by
        have hjs := (Array.getElem?_eq_some_iff.1 hj).1
        simp [hjs] at hl)
    · split at h
      · rename_i ls hp
        unfold evAll at h
        split at h
        · cases h
        · rename_i l ls
          split at h
          · rename_i σ0 ok he
            obtain ⟨hok, hcont⟩ := rneed_ok h
            subst hok
            obtain ⟨h1, h2⟩ := evRest_ok hcont
            refine wp_region_any hc.2 (wpAny_of_B (B := w.heap.size) (Q := fun a w => Q .normal a w) (fun _ _ h => h) _ _ _ _ ?_)
            exact orders_ok (B := w.heap.size) (F := fun τ => Same τ σ0) (noW_ok hcall) (fun _ _ _ _ h => noW_not h) hc.1 hops (fun σ' w' g' a' h3 h4 h5 h6 => hk σ0 w' g' a' key h1 (h4.same h3) h5 h6) ops.size _ _ σ _ g a hp (fun l' hl => by
              rcases List.mem_cons.1 hl with rfl | hl
              · exact ⟨σ0, he, ⟨fun _ => rfl, fun _ => rfl⟩⟩
              · exact h2 l' hl) (low_drawn hr) hn (hb.trans ⟨rfl, rfl, rfl, Nat.le_refl _, fun _ _ => rfl⟩) (Nat.le_refl _) (fun _ => rfl) (fun _ j o d hj hl => by
              have hjs := (Array.getElem?_eq_some_iff.1 hj).1
              simp [hjs] at hl)
          · cases h
      · cases h
end
end Go.Proofs.YtchceahcaaibcaaGreat
