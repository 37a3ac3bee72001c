/-
  Loops that all fills, comparisons and measures have.
-/
import Derived.Test.YtchceahcaaibcaaGreatLoop
namespace Go.Proofs.YtchceahcaaibcaaGreat
set_option linter.unusedSimpArgs false
set_option linter.unusedVariables false
abbrev bo : Option Dom := none
abbrev sd (s : S) : Sh := .one (.c (.d s))
abbrev si : S := .int .i64
abbrev rb : Sh := sd .bool
abbrev ri : Sh := sd si
abbrev ag (l : List S) : Sh := .one (.agg (l.map .d))
abbrev ob (x : Bool) : Out := some (1, [.b x])
abbrev oi (x : Int) : Out := some (1, [.i x])
abbrev ex (j : Nat) (p : List D) : Out := some (j + 2, p)
abbrev nx (p : List D) : Out := some (0, p)
def nd (c : Bool) (o : Out) : Out := bif c then o else none
abbrev w64 (x : Int) : Int := IntKind.i64.wrap x
theorem w64_id {x : Int} (h : -9223372036854775808 ≤ x) (h' : x ≤ 9223372036854775807) : w64 x = x := by
  simp only [w64, IntKind.wrap, IntKind.signed, IntKind.bits]
  simp
  omega
theorem inRange_nat {k len : Nat} (h : k < len) : inRange (k : Int) len = true := by
  simp only [inRange, Bool.and_eq_true, decide_eq_true_eq]; omega

/-- all are filled in -/
theorem fill_loop {L : List D → Out} {z x2 : D} {f : List D → List D} {ok : List D → Bool} (z0 : List D) (hlen : z.rows.length ≤ 9223372036854775807) (hok : ∀ r ∈ z.rows, ok r = true)
    (hrd : ∀ (rows : List (List D)) (k : Int), L [z, x2, .l rows, .i k] = bif decide (k < z.rows.length) then nd (inRange k z.rows.length) (nd (ok (z.rows.getD k.toNat [])) (nd (inRange k rows.length) (nx [z, x2, .l (rows.set k.toNat (f (z.rows.getD k.toNat []))), .i (w64 (k + 1))]))) else ex 0 [z, x2, .l rows, .i k])
    {N : Nat} (hN : z.rows.length < N) : iter L N [z, x2, .l (List.replicate z.rows.length z0), .i 0] = some (2, [z, x2, .l (z.rows.map f), .i z.rows.length]) := by
  let st : Nat → List D := fun k => [z, x2, .l ((z.rows.take k).map f ++ List.replicate (z.rows.length - k) z0), .i (k : Int)]
  have hset : ∀ k, (h : k < z.rows.length) → ((z.rows.take k).map f ++ List.replicate (z.rows.length - k) z0).set k (f (z.rows.getD k [])) = (z.rows.take (k + 1)).map f ++ List.replicate (z.rows.length - (k + 1)) z0 := fun k h => by
    have hl : ((z.rows.take k).map f).length = k := by simp; omega
    rw [List.set_append_right _ _ (by omega), hl, Nat.sub_self]
    obtain ⟨m, hm⟩ : ∃ m, z.rows.length - k = m + 1 := ⟨z.rows.length - k - 1, by omega⟩
    rw [hm, show z.rows.length - (k + 1) = m from by omega, List.replicate_succ, List.set_cons_zero, List.take_succ_eq_append_getElem h, List.map_append, List.append_assoc]
    simp only [List.getD_eq_getElem?_getD, List.getElem?_eq_getElem h, Option.getD_some, List.map_cons, List.map_nil, List.singleton_append]
  have := iter_scan (step := L) st (fun _ => none) (2, st z.rows.length) (n := z.rows.length) (fun k hk => ?_) (fun _ _ h => by cases h) ?_ (by simp) z.rows.length 0 N (by omega) hN
  · have e0 : st 0 = [z, x2, .l (List.replicate z.rows.length z0), .i 0] := by simp [st]
    rw [e0] at this
    rw [this]
    have : ∀ m k, scan (fun _ => none) k m = none := by
      intro m
      induction m with
      | zero => intro k; rfl
      | succ m ih => intro k; exact ih _
    rw [this]
    simp only [st, Option.getD_none, Nat.sub_self, List.replicate_zero, List.append_nil, List.take_length]
  · have hlen2 : ((z.rows.take k).map f ++ List.replicate (z.rows.length - k) z0).length = z.rows.length := by simp; omega
    have hmem : z.rows.getD k [] ∈ z.rows := by
      rw [List.getD_eq_getElem?_getD, List.getElem?_eq_getElem hk]
      exact List.getElem_mem hk
    show L [z, x2, .l ((z.rows.take k).map f ++ List.replicate (z.rows.length - k) z0), .i (k : Int)] = _
    rw [hrd]
    rw [show decide ((k : Int) < z.rows.length) = true from by simpa using hk, cond_true, inRange_nat hk, hlen2, inRange_nat hk, show ((k : Int)).toNat = k from rfl, hok _ hmem, w64_id (by omega) (by omega), hset k hk]
    rfl
  · show L [z, x2, .l _, .i (z.rows.length : Int)] = _
    rw [hrd, show decide ((z.rows.length : Int) < z.rows.length) = false from by simp, cond_false]

/-- all are alike -/
def alikeS (E : List D → List D → Bool) (z u : D) : Bool := (z.rows.length == u.rows.length) && (List.range z.rows.length).all fun k => E (z.rows.getD k []) (u.rows.getD k [])
theorem alikeS_refl {E : List D → List D → Bool} (h : ∀ r, E r r = true) (z : D) : alikeS E z z = true := by
  simp [alikeS, h]
theorem scan_find {ex : Nat → Option (Nat × List D)} {o : Nat × List D} {C : Nat → Bool} (h : ∀ k, ex k = if C k then none else some o) : ∀ (m k : Nat), scan ex k m = if (List.range m).all (fun j => C (k + j)) then none else some o
  | 0, k => by simp [scan]
  | m + 1, k => by
    rw [scan, h]
    by_cases hc : C k = true
    · rw [if_pos hc]
      simp only
      rw [scan_find h m (k + 1), List.range_succ_eq_map, List.all_cons, List.all_map]
      simp only [Nat.add_zero, hc, Bool.true_and]
      congr 2
      congr 1
      funext j
      simp only [Function.comp]
      congr 1
      omega
    · rw [if_neg hc]
      simp [List.range_succ_eq_map, hc]
theorem like_loop {L : List D → Out} {z u x y : D} {E : List D → List D → Bool} (hlen : z.rows.length ≤ 9223372036854775807) (hu : z.rows.length = u.rows.length)
    (hrd : ∀ k : Int, L [z, u, x, y, .i k] = bif decide (k < z.rows.length) then nd (inRange k z.rows.length) (nd (inRange k u.rows.length) (bif !E (z.rows.getD k.toNat []) (u.rows.getD k.toNat []) then ob false else nx [z, u, x, y, .i (w64 (k + 1))])) else ex 0 [z, u, x, y, .i k])
    {N : Nat} (hN : z.rows.length < N) : iter L N [z, u, x, y, .i 0] = some (if alikeS E z u then (2, [z, u, x, y, .i z.rows.length]) else (1, [.b false])) := by
  have := iter_scan (step := L) (fun k => [z, u, x, y, .i (k : Int)]) (fun k => if E (z.rows.getD k []) (u.rows.getD k []) then none else some (1, [.b false])) (2, [z, u, x, y, .i z.rows.length]) (n := z.rows.length) (fun k hk => ?_) (fun k o h => ?_) ?_ (by simp) z.rows.length 0 N (by omega) hN
  · simp only [Int.natCast_zero] at this
    rw [this, scan_find (o := (1, [.b false])) (C := fun k => E (z.rows.getD k []) (u.rows.getD k [])) (fun k => rfl)]
    simp only [Nat.zero_add, alikeS, ← hu, beq_self_eq_true, Bool.true_and]
    split <;> rfl
  · show L [z, u, x, y, .i (k : Int)] = _
    rw [hrd, show decide ((k : Int) < z.rows.length) = true from by simpa using hk, cond_true, inRange_nat hk, inRange_nat (by omega), show ((k : Int)).toNat = k from rfl, w64_id (by omega) (by omega)]
    cases E (z.rows.getD k []) (u.rows.getD k []) <;> rfl
  · split at h
    · cases h
    · injection h with h; rw [← h]; simp
  · show L [z, u, x, y, .i (z.rows.length : Int)] = _
    rw [hrd, show decide ((z.rows.length : Int) < z.rows.length) = false from by simp, cond_false]

/-- what is left of n behind a thing of this size -/
def left (s : Nat) (n : Int) : Int := if (s : Int) ≤ n then n - s else -1
def fair (n : Int) : Bool := decide (0 ≤ n) && decide (n ≤ 1048576)
def total (size : List D → Nat) (rows : List (List D)) : Nat := (rows.map size).sum
theorem size_loop {L : List D → Out} {z x y : D} {size : List D → Nat} (hlen : z.rows.length ≤ 9223372036854775807)
    (hrd : ∀ n k : Int, L [z, .i n, x, y, .i k] = bif decide (k < z.rows.length) then nd (inRange k z.rows.length) (nd (fair n) (bif decide (left (size (z.rows.getD k.toNat [])) n < 0) then oi (-1) else nx [z, .i (left (size (z.rows.getD k.toNat [])) n), x, y, .i (w64 (k + 1))])) else ex 0 [z, .i n, x, y, .i k]) :
    ∀ (m k N : Nat) (n : Int), k + m = z.rows.length → m < N → 0 ≤ n → n ≤ 1048576 → iter L N [z, .i n, x, y, .i k] = some (if (total size (z.rows.drop k) : Int) ≤ n then (2, [z, .i (n - total size (z.rows.drop k)), x, y, .i z.rows.length]) else (1, [.i (-1)])) := by
  intro m
  induction m with
  | zero =>
    intro k N n hk hN h0 h1
    obtain ⟨N, rfl⟩ : ∃ N', N = N' + 1 := ⟨N - 1, by omega⟩
    have hk : k = z.rows.length := by omega
    subst hk
    rw [iter, hrd, show decide ((z.rows.length : Int) < z.rows.length) = false from by simp, cond_false]
    simp [total, h0]
  | succ m ih =>
    intro k N n hk hN h0 h1
    obtain ⟨N, rfl⟩ : ∃ N', N = N' + 1 := ⟨N - 1, by omega⟩
    have hlt : k < z.rows.length := by omega
    have hd : z.rows.drop k = z.rows.getD k [] :: z.rows.drop (k + 1) := by
      rw [List.drop_eq_getElem_cons hlt, List.getD_eq_getElem?_getD, List.getElem?_eq_getElem hlt]; rfl
    have ht : total size (z.rows.drop k) = size (z.rows.getD k []) + total size (z.rows.drop (k + 1)) := by rw [hd]; simp [total]
    rw [iter, hrd, show decide ((k : Int) < z.rows.length) = true from by simpa using hlt, cond_true, inRange_nat hlt, show fair n = true from by simp [fair, h0, h1], show ((k : Int)).toNat = k from rfl, w64_id (by omega) (by omega)]
    by_cases hs : (size (z.rows.getD k []) : Int) ≤ n
    · have hl : left (size (z.rows.getD k [])) n = n - size (z.rows.getD k []) := if_pos hs
      rw [hl, show decide (n - (size (z.rows.getD k []) : Int) < 0) = false from decide_eq_false (by omega), cond_false]
      have := ih (k + 1) N (n - size (z.rows.getD k [])) (by omega) (by omega) (by omega) (by omega)
      simp only [nd, cond_true]
      rw [show ((k : Int) + 1) = ((k + 1 : Nat) : Int) from by simp, this, ht]
      congr 1
      by_cases hq : ((size (z.rows.getD k []) + total size (z.rows.drop (k + 1)) : Nat) : Int) ≤ n
      · rw [if_pos hq, if_pos (by push_cast at hq; omega), show n - (size (z.rows.getD k []) : Int) - (total size (z.rows.drop (k + 1)) : Int) = n - ((size (z.rows.getD k []) + total size (z.rows.drop (k + 1)) : Nat) : Int) from by push_cast; omega]
      · rw [if_neg hq, if_neg (by push_cast at hq; omega)]
    · have hl : left (size (z.rows.getD k [])) n = -1 := if_neg hs
      rw [hl, ht, if_neg (by push_cast; omega)]
      rfl
/-- rounds that go on while C holds -/
theorem all_loop {L : List D → Out} (st : Nat → List D) (n : Nat) (C : Nat → Bool) (v fin : List D) (j : Nat) (h1 : ∀ k, k < n → L (st k) = some (bif C k then (0, st (k + 1)) else (1, v))) (h2 : L (st n) = some (j + 2, fin)) {N : Nat} (hN : n < N) :
    iter L N (st 0) = some (bif (List.range n).all C then (j + 2, fin) else (1, v)) := by
  have := iter_scan (step := L) st (fun k => if C k then none else some (1, v)) (j + 2, fin) (n := n) (fun k hk => ?_) (fun k o h => ?_) h2 (by simp) n 0 N (by omega) hN
  · rw [this, scan_find (o := (1, v)) (C := C) (fun k => rfl)]
    simp only [Nat.zero_add]
    have e : (fun j => C j) = C := rfl
    rw [e]
    cases (List.range n).all C <;> rfl
  · rw [h1 k hk]
    cases C k <;> rfl
  · split at h
    · cases h
    · injection h with h; rw [← h]; simp
def e3 (s s' s'' : Sh) (F : List D → List D → List D → T × Bool) : List T → Option (T × Bool)
  | [v, u, t] => bif v.sh == s && (u.sh == s' && t.sh == s'') then some (F v.p u.p t.p) else none
  | _ => none
theorem e3_ok {P : Program} {f : FuncId} {s s' s'' : Sh} {F : List D → List D → List D → T × Bool} (h : ∀ p q r, (F p q r).2 = true → SoundFn P f [⟨s, p⟩, ⟨s', q⟩, ⟨s'', r⟩] (F p q r).1) : EntOk P (f, e3 s s' s'' F) := by
  intro args r hr
  match args, hr with
  | [], hr => cases hr
  | [_], hr => cases hr
  | [_, _], hr => cases hr
  | [⟨sh, p⟩, ⟨sh', q⟩, ⟨sh'', o⟩], hr =>
    have hq : (bif sh == s && (sh' == s' && sh'' == s'') then some (F p q o) else none) = some (r, true) := hr
    cases hb : (sh == s && (sh' == s' && sh'' == s'')) with
    | false => rw [hb] at hq; cases hq
    | true =>
      rw [hb] at hq
      simp only [cond_true, Option.some.injEq] at hq
      simp only [Bool.and_eq_true, beq_iff_eq] at hb
      obtain ⟨rfl, rfl, rfl⟩ := hb
      have := h p q o
      rw [hq] at this
      exact this rfl
  | _ :: _ :: _ :: _ :: _, hr => cases hr
end Go.Proofs.YtchceahcaaibcaaGreat
