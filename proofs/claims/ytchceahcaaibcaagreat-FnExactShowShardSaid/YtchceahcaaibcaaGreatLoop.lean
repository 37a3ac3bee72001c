/-
  Rounds and tables.
-/
import Derived.Test.YtchceahcaaibcaaGreatSnd11
namespace Go.Proofs.YtchceahcaaibcaaGreat
set_option linter.unusedSimpArgs false
set_option linter.unusedVariables false

/-- rounds 0 .. n-1, each may end it -/
def scan (ex : Nat → Option (Nat × List D)) : Nat → Nat → Option (Nat × List D)
  | _, 0 => none
  | k, m + 1 => match ex k with
    | some o => some o
    | none => scan ex (k + 1) m
theorem iter_scan {step : List D → Out} (st : Nat → List D) (ex : Nat → Option (Nat × List D)) (fin : Nat × List D) {n : Nat}
    (h1 : ∀ k, k < n → step (st k) = some ((ex k).getD (0, st (k + 1)))) (hex : ∀ k o, ex k = some o → o.1 ≠ 0) (h2 : step (st n) = some fin) (hf : fin.1 ≠ 0) :
    ∀ (m k N : Nat), k + m = n → m < N → iter step N (st k) = some ((scan ex k m).getD fin) := by
  intro m
  induction m with
  | zero =>
    intro k N hk hN
    obtain ⟨N, rfl⟩ : ∃ N', N = N' + 1 := ⟨N - 1, by omega⟩
    obtain rfl : k = n := by omega
    obtain ⟨c, pay⟩ := fin
    rw [iter, h2]
    cases c with
    | zero => exact absurd rfl hf
    | succ c => rfl
  | succ m ih =>
    intro k N hk hN
    obtain ⟨N, rfl⟩ : ∃ N', N = N' + 1 := ⟨N - 1, by omega⟩
    rw [iter, h1 k (by omega), scan]
    cases he : ex k with
    | none => simp only [Option.getD_none]; exact ih (k + 1) N (by omega) (by omega)
    | some o =>
      obtain ⟨c, pay⟩ := o
      have := hex k _ he
      cases c with
      | zero => exact absurd rfl this
      | succ c => rfl

theorem enters {P : Program} {f : FuncId} {fn : Func} (hf : P.funcs[f]? = some fn) (hname : (fn.name == "runtime.NumGoroutine") = false) (hb : fn.body.isNone = false) (vs : Array Value) (w : World) : (callFunc f vs).run P w = .ok (.enter f vs) w := by
  unfold callFunc
  simp only [Sem.run_bind, run_program, Result.andThen_ok, hf, hname, hb, Bool.false_eq_true, if_false, Sem.run_pure]

/-! tables of contracts -/
abbrev Ent := FuncId × (List T → Option (T × Bool))
def find : List Ent → FuncId → List T → Option (T × Bool)
  | [], _, _ => none
  | e :: r, f, args => bif Nat.beq e.1 f then e.2 args else find r f args
def EntOk (P : Program) (e : Ent) : Prop := ∀ args r, e.2 args = some (r, true) → SoundFn P e.1 args r
theorem find_ok {P : Program} : ∀ {l : List Ent}, (∀ e ∈ l, EntOk P e) → CallOk P (find l)
  | [], _, f, args, r, h => by cases h
  | e :: l, hl, f, args, r, h => by
    unfold find at h
    cases hb : Nat.beq e.1 f with
    | false =>
      rw [hb, cond_false] at h
      exact find_ok (fun e' he' => hl e' (by simp [he'])) f args r h
    | true =>
      rw [hb, cond_true] at h
      obtain rfl := Nat.eq_of_beq_eq_true hb
      exact hl e (by simp) args r h
/-- one argument of this shape -/
def e1 (s : Sh) (F : List D → T × Bool) : List T → Option (T × Bool)
  | [v] => bif v.sh == s then some (F v.p) else none
  | _ => none
def e2 (s s' : Sh) (F : List D → List D → T × Bool) : List T → Option (T × Bool)
  | [v, u] => bif v.sh == s && u.sh == s' then some (F v.p u.p) else none
  | _ => none
theorem e1_ok {P : Program} {f : FuncId} {s : Sh} {F : List D → T × Bool} (h : ∀ p, (F p).2 = true → SoundFn P f [⟨s, p⟩] (F p).1) : EntOk P (f, e1 s F) := by
  intro args r hr
  match args, hr with
  | [], hr => cases hr
  | [⟨sh, p⟩], hr =>
    have hq : (bif sh == s then some (F p) else none) = some (r, true) := hr
    cases hb : (sh == s) with
    | false => rw [hb] at hq; cases hq
    | true =>
      rw [hb] at hq
      simp only [cond_true, Option.some.injEq] at hq
      have e : sh = s := by simpa using hb
      subst e
      have := h p
      rw [hq] at this
      exact this rfl
  | _ :: _ :: _, hr => cases hr
theorem e2_ok {P : Program} {f : FuncId} {s s' : Sh} {F : List D → List D → T × Bool} (h : ∀ p q, (F p q).2 = true → SoundFn P f [⟨s, p⟩, ⟨s', q⟩] (F p q).1) : EntOk P (f, e2 s s' F) := by
  intro args r hr
  match args, hr with
  | [], hr => cases hr
  | [_], hr => cases hr
  | [⟨sh, p⟩, ⟨sh', q⟩], hr =>
    have hq : (bif sh == s && sh' == s' then some (F p q) else none) = some (r, true) := hr
    cases hb : (sh == s && sh' == s') with
    | false => rw [hb] at hq; cases hq
    | true =>
      rw [hb] at hq
      simp only [cond_true, Option.some.injEq] at hq
      simp only [Bool.and_eq_true, beq_iff_eq] at hb
      obtain ⟨rfl, rfl⟩ := hb
      have := h p q
      rw [hq] at this
      exact this rfl
  | _ :: _ :: _ :: _, hr => cases hr
end Go.Proofs.YtchceahcaaibcaaGreat
