/-
  The town: impl.ShardOk. Printed by sym.py.
-/
import Derived.Test.YtchceahcaaibcaaGreatT14
import Derived.Test.YtchceahcaaibcaaGreatT15A
namespace Go.Proofs.YtchceahcaaibcaaGreat
set_option linter.unusedSimpArgs false
set_option linter.unusedVariables false
set_option maxRecDepth 4096
set_option maxHeartbeats 1000000
/-! loop.example/g00097/impl.ShardOk -/
abbrev i_ShardOkT : FuncId → List T → Option (T × Bool) := find [i_isGroupE, i_RangesOkE, i_StoreOkE, i_LocksOkE, i_heldsOkE, i_ascendingE, i_fromE, cofSFE, cofSCE, i_ConcatE, cofSLE, i_txsOfE, i_sortE, i_clonE, i_compE, i_roomE]
theorem i_ShardOkT_ok : CallOk Tryz.prog i_ShardOkT := find_ok (List.forall_mem_cons.2 ⟨i_isGroup_ok, List.forall_mem_cons.2 ⟨i_RangesOk_ok, List.forall_mem_cons.2 ⟨i_StoreOk_ok, List.forall_mem_cons.2 ⟨i_LocksOk_ok, List.forall_mem_cons.2 ⟨i_heldsOk_ok, List.forall_mem_cons.2 ⟨i_ascending_ok, List.forall_mem_cons.2 ⟨i_from_ok, List.forall_mem_cons.2 ⟨cofSF_ok, List.forall_mem_cons.2 ⟨cofSC_ok, List.forall_mem_cons.2 ⟨i_Concat_ok, List.forall_mem_cons.2 ⟨cofSL_ok, List.forall_mem_cons.2 ⟨i_txsOf_ok, List.forall_mem_cons.2 ⟨i_sort_ok, List.forall_mem_cons.2 ⟨i_clon_ok, List.forall_mem_cons.2 ⟨i_comp_ok, List.forall_mem_cons.2 ⟨i_room_ok, List.forall_mem_nil _⟩⟩⟩⟩⟩⟩⟩⟩⟩⟩⟩⟩⟩⟩⟩⟩)
abbrev i_ShardOkK : List Nat := [0, 1, 2, 3, 4, 55, 65, 75]
noncomputable def i_ShardOks0 (N : Nat) (p : List D) : Out := nd (leI ((gd p 3).rows.length : Int) 1000000000 && leI ((gd p 5).rows.length : Int) 1000000000) (ob (leI (roomOf (sub p 0 9)) 60))
noncomputable def i_ShardOks1 (N : Nat) (p : List D) : Out := bif ((compD (.l (sortD (.l ((txsD (gd p 5)).rows ++ (concD (.l [[gd p 6], [gd p 7]])).rows))).rows)).rows.length : Int) == ((sortD (.l ((txsD (gd p 5)).rows ++ (concD (.l [[gd p 6], [gd p 7]])).rows))).rows.length : Int) then (i_ShardOks0 N p) else ob false
noncomputable def i_ShardOks2 (N : Nat) (p : List D) : Out := nd (leI ((sortD (.l ((txsD (gd p 5)).rows ++ (concD (.l [[gd p 6], [gd p 7]])).rows))).rows.length : Int) 1000000000) (i_ShardOks1 N p)
noncomputable def i_ShardOks3 (N : Nat) (p : List D) : Out := nd (leI ((sortD (.l ((txsD (gd p 5)).rows ++ (concD (.l [[gd p 6], [gd p 7]])).rows))).rows.length : Int) 1000000000) (i_ShardOks2 N p)
noncomputable def i_ShardOks4 (N : Nat) (p : List D) : Out := nd (leI (((txsD (gd p 5)).rows ++ (concD (.l [[gd p 6], [gd p 7]])).rows).length : Int) 1000000000) (i_ShardOks3 N p)
noncomputable def i_ShardOks5 (N : Nat) (p : List D) : Out := nd (lenOk ((txsD (gd p 5)).rows ++ (concD (.l [[gd p 6], [gd p 7]])).rows) && true) (i_ShardOks4 N p)
noncomputable def i_ShardOks6 (N : Nat) (p : List D) : Out := bif anyS (fun rr => ixfSLC (.l [[.l [sub p 0 9], .l [[concD (.l [[gd p 6], [gd p 7]])]]]]) (sub rr 0 4)) (gd p 4) then ob false else nd (leI ((gd p 5).rows.length : Int) 1000000000) (i_ShardOks5 N p)
noncomputable def i_ShardOks7 (N : Nat) (p : List D) : Out := bif anyS (fun rr => ixfSCC (.l [[.l [sub p 0 9]]]) (sub rr 0 2)) (gd p 3) then ob false else nd (concOk (.l [[gd p 6], [gd p 7]])) (i_ShardOks6 N p)
noncomputable def i_ShardOks8 (N : Nat) (p : List D) : Out := bif anyS (fun rr => ixfSFC (.l [[.l [sub p 0 9]]]) (sub rr 0 2)) (gd p 2) then ob false else (i_ShardOks7 N p)
noncomputable def i_ShardOks9 (N : Nat) (p : List D) : Out := bif !(ascOk (gd p 7)) then ob false else bif !(inB (gd p 8).int 0 1000000) then ob false else (i_ShardOks8 N p)
noncomputable def i_ShardOks10 (N : Nat) (p : List D) : Out := bif !(heldsOk (sub p 0 9)) then ob false else bif !(ascOk (gd p 6)) then ob false else (i_ShardOks9 N p)
noncomputable def i_ShardOks11 (N : Nat) (p : List D) : Out := bif !(locksOk (gd p 4)) then ob false else nd (leI ((gd p 5).rows.length : Int) 1000000000) (i_ShardOks10 N p)
noncomputable def i_ShardOks12 (N : Nat) (p : List D) : Out := bif !(rangesOk (gd p 2)) then ob false else bif !(storeOk (gd p 3)) then ob false else (i_ShardOks11 N p)
noncomputable def i_ShardOks13 (N : Nat) (p : List D) : Out := bif !(inB (gd p 0).int (0) (3)) then ob false else bif !(rangesOk (gd p 1)) then ob false else (i_ShardOks12 N p)
theorem i_ShardOk_ev (N : Nat) (p : List D) : evFn Tryz.prog i_ShardOkT N i_ShardOkK Tryz.f63 rb [⟨ag rIShard, p⟩] = some (bo, (i_ShardOks13 N p)) := by kernel_rfl
def vAt (z : D) (i : Nat) : Int := (gd (z.rows.getD i []) 0).int
theorem numsOf_v (z : D) (i : Nat) (h : i < (numsOf z).length) : (numsOf z)[i] = vAt z i := by
  have h' : i < z.rows.length := by rwa [numsOf_len] at h
  have := numsOf_at z i h'
  rw [List.getElem?_eq_getElem h] at this
  injection this
theorem hasInt_iff (z : D) (x : Int) : hasInt z x = true ↔ x ∈ numsOf z := by
  unfold hasInt anyS
  simp only [List.any_eq_true, List.mem_range, beq_iff_eq]
  constructor
  · rintro ⟨k, hk, rfl⟩
    have hk' : k < (numsOf z).length := by rwa [numsOf_len]
    exact List.mem_iff_getElem.2 ⟨k, hk', numsOf_v z k hk'⟩
  · intro h
    obtain ⟨k, hk, rfl⟩ := List.getElem_of_mem h
    exact ⟨k, by rwa [numsOf_len] at hk, numsOf_v z k hk⟩
theorem asc_v {z : D} (h : ascOk z = true) : ∀ i, i < z.rows.length → (i : Int) + 1 ≤ vAt z i ∧ vAt z i ≤ 60 ∧ ∀ j, j < i → vAt z j < vAt z i := by
  unfold ascOk at h
  rw [List.all_eq_true] at h
  intro i
  induction i with
  | zero =>
    intro hi
    have := h 0 (List.mem_range.2 hi)
    simp only [ascAt, inB, Bool.and_eq_true, decide_eq_true_eq] at this
    refine ⟨?_, ?_, fun j hj => by omega⟩ <;> unfold vAt <;> omega
  | succ i ih =>
    intro hi
    obtain ⟨h1, h2, h3⟩ := ih (by omega)
    have := h (i + 1) (List.mem_range.2 hi)
    simp only [ascAt, inB, leI, Bool.and_eq_true, decide_eq_true_eq, Bool.not_eq_true', decide_eq_false_iff_not] at this
    unfold vAt at *
    refine ⟨by omega, by omega, fun j hj => ?_⟩
    rcases Nat.lt_or_ge j i with hj' | hj'
    · have := h3 j hj'; omega
    · have : j = i := by omega
      subst this; omega
theorem asc_len {z : D} (h : ascOk z = true) : z.rows.length ≤ 60 := by
  rcases Nat.eq_zero_or_pos z.rows.length with h0 | h0
  · omega
  · have := asc_v h (z.rows.length - 1) (by omega)
    omega
theorem asc_nodup {z : D} (h : ascOk z = true) : (numsOf z).Nodup := by
  refine List.pairwise_iff_getElem.2 fun i j hi hj hij => ?_
  rw [numsOf_v, numsOf_v]
  have := (asc_v h j (by rwa [numsOf_len] at hj)).2.2 i hij
  omega
def shardAll (p : List D) : D := .l ((txsD (gd p 5)).rows ++ ((gd p 6).rows ++ (gd p 7).rows))
theorem numsOf_all (p : List D) : numsOf (shardAll p) = numsOf (txsD (gd p 5)) ++ (numsOf (gd p 6) ++ numsOf (gd p 7)) := by
  show List.map _ (_ ++ (_ ++ _)) = _
  rw [List.map_append, List.map_append]
  rfl
theorem txs_v (z : D) (i : Nat) : vAt (txsD z) i = vAt z i := by
  unfold vAt txsD
  show (gd ((z.rows.map fun r => [gd r 0]).getD i []) 0).int = _
  rw [List.getD_eq_getElem?_getD, List.getD_eq_getElem?_getD, List.getElem?_map]
  cases z.rows[i]? <;> rfl
theorem txs_len (z : D) : (txsD z).rows.length = z.rows.length := by simp [txsD, D.rows]
def shardApart (p : List D) : Bool := ((List.range (gd p 5).rows.length).all fun k => !hasInt (gd p 6) (vAt (gd p 5) k) && !hasInt (gd p 7) (vAt (gd p 5) k)) && ((List.range (gd p 6).rows.length).all fun k => !hasInt (gd p 7) (vAt (gd p 6) k))
theorem apart_iff (p : List D) (h5 : ascOk (txsD (gd p 5)) = true) (h6 : ascOk (gd p 6) = true) (h7 : ascOk (gd p 7) = true) : ((compD (sortD (shardAll p))).rows.length == (sortD (shardAll p)).rows.length) = shardApart p := by
  rw [Bool.eq_iff_iff, beq_iff_eq, comp_sort, numsOf_all]
  have e : shardApart p = true ↔ (∀ k, k < (gd p 5).rows.length → vAt (gd p 5) k ∉ numsOf (gd p 6) ∧ vAt (gd p 5) k ∉ numsOf (gd p 7)) ∧ (∀ k, k < (gd p 6).rows.length → vAt (gd p 6) k ∉ numsOf (gd p 7)) := by
    have hn : ∀ z x, (!hasInt z x) = true ↔ x ∉ numsOf z := fun z x => by
      rw [← hasInt_iff]; cases hasInt z x <;> simp
    unfold shardApart
    simp only [Bool.and_eq_true, List.all_eq_true, List.mem_range, hn]
  rw [e, List.nodup_append, List.nodup_append]
  have hm : ∀ (z : D) (Q : Int → Prop), (∀ a ∈ numsOf z, Q a) ↔ ∀ k, k < z.rows.length → Q (vAt z k) := fun z Q => by
    constructor
    · intro h k hk
      have hk' : k < (numsOf z).length := by rwa [numsOf_len]
      have := h _ (List.getElem_mem hk')
      rwa [numsOf_v] at this
    · intro h a ha
      obtain ⟨k, hk, rfl⟩ := List.getElem_of_mem ha
      rw [numsOf_v]
      exact h k (by rwa [numsOf_len] at hk)
  rw [hm (txsD (gd p 5)), hm (gd p 6), txs_len]
  simp only [txs_v]
  constructor
  · rintro ⟨_, ⟨_, _, h3⟩, h4⟩
    exact ⟨fun k hk => ⟨fun h => h4 k hk _ (List.mem_append.2 (.inl h)) rfl, fun h => h4 k hk _ (List.mem_append.2 (.inr h)) rfl⟩, fun k hk h => h3 k hk _ h rfl⟩
  · rintro ⟨h1, h2⟩
    refine ⟨asc_nodup h5, ⟨asc_nodup h6, asc_nodup h7, fun k hk b hb e => h2 k hk (e ▸ hb)⟩, fun k hk b hb e => ?_⟩
    subst e
    rcases List.mem_append.1 hb with hb | hb
    · exact (h1 k hk).1 hb
    · exact (h1 k hk).2 hb
theorem one_rangeOk {r : List D} (h0 : 0 ≤ (gd r 0).int) (h1 : (gd r 0).int ≤ 999) : rangeOk (oneAt r) = true := by
  show (decide ((gd r 0).int ≥ 0) && (decide ((gd r 0).int < w64 ((gd r 0).int + 1)) && decide (w64 ((gd r 0).int + 1) ≤ 1000))) = true
  rw [w64_id (by omega) (by omega)]
  simp only [Bool.and_eq_true, decide_eq_true_eq]
  omega
theorem heldRest_eq {p : List D} {k : Nat} (hz : locksOk (gd p 4) = true) : heldRest p k = (heldAt p k && (!hasInt (gd p 6) (vAt (gd p 5) k) && !hasInt (gd p 7) (vAt (gd p 5) k))) := by
  unfold heldRest heldAt vAt
  cases hw : writesOk (gd ((gd p 5).rows.getD k []) 1) with
  | false => rfl
  | true =>
    rw [Bool.true_and, Bool.true_and]
    congr 1
    rw [Bool.eq_iff_iff, List.all_eq_true, List.all_eq_true]
    refine forall_congr' fun j => forall_congr' fun hj => ?_
    unfold writesOk at hw
    simp only [Bool.and_eq_true, List.all_eq_true] at hw
    have hj' := hw.2 j hj
    simp only [writeAt, inB, Bool.and_eq_true, decide_eq_true_eq] at hj'
    rw [hold_same hz (one_rangeOk (by omega) (by omega))]
def shardI (p : List D) : Bool := inB (gd p 0).int 0 3 && (rangesOk (gd p 1) && (rangesOk (gd p 2) && (storeOk (gd p 3) && (locksOk (gd p 4) && (heldsOk p && (ascOk (gd p 6) && (ascOk (gd p 7) && (inB (gd p 8).int 0 1000000 && (shardA p 2 0 shardC0 && (shardA p 3 2 shardC2 && (shardA p 4 4 shardC4 && (shardApart p && leI (roomOf p) 60))))))))))))
theorem heldsS_iff {p : List D} (hz : locksOk (gd p 4) = true) : heldsOkS p = true ↔ heldsOk p = true ∧ ∀ k, k < (gd p 5).rows.length → (!hasInt (gd p 6) (vAt (gd p 5) k) && !hasInt (gd p 7) (vAt (gd p 5) k)) = true := by
  unfold heldsOkS heldsOk ascOk
  rw [txs_len]
  simp only [Bool.and_eq_true, List.all_eq_true, List.mem_range]
  have hs : ∀ k, heldAtS p k = true ↔ (heldAt p k = true ∧ ascAt (txsD (gd p 5)) k = true) ∧ (!hasInt (gd p 6) (vAt (gd p 5) k) && !hasInt (gd p 7) (vAt (gd p 5) k)) = true := by
    intro k
    have hv : ∀ j, (gd ((txsD (gd p 5)).rows.getD j []) 0).int = (gd ((gd p 5).rows.getD j []) 0).int := fun j => txs_v (gd p 5) j
    cases k with
    | zero =>
      simp only [heldAtS, ascAt, heldRest_eq hz, hv, Bool.and_eq_true]
      constructor
      · rintro ⟨a, b, c⟩; exact ⟨⟨b, a⟩, c⟩
      · rintro ⟨⟨b, a⟩, c⟩; exact ⟨a, b, c⟩
    | succ k =>
      simp only [heldAtS, ascAt, heldRest_eq hz, hv, Bool.and_eq_true]
      constructor
      · rintro ⟨a, r, b, c⟩; exact ⟨⟨b, a, r⟩, c⟩
      · rintro ⟨⟨b, a, r⟩, c⟩; exact ⟨a, r, b, c⟩
  simp only [hs, Bool.and_eq_true]
  constructor
  · intro h; exact ⟨⟨fun k hk => (h k hk).1.1, fun k hk => (h k hk).1.2⟩, fun k hk => (h k hk).2⟩
  · rintro ⟨⟨h1, h2⟩, h3⟩ k hk; exact ⟨⟨h1 k hk, h2 k hk⟩, h3 k hk⟩
theorem shard_same (p : List D) : shardI p = shardOk p := by
  rw [Bool.eq_iff_iff]
  have hl : ∀ {z : D}, ascOk z = true → leI (z.rows.length : Int) 60 = true := fun h => by
    have := asc_len h
    simp only [leI, decide_eq_true_eq]; omega
  have hasc : heldsOk p = true → leI ((gd p 5).rows.length : Int) 60 = true := fun h => by
    have h' : ascOk (txsD (gd p 5)) = true := by
      unfold heldsOk at h
      simp only [Bool.and_eq_true] at h
      exact h.2
    have := hl h'
    rwa [txs_len] at this
  have h6 : shardA p 6 6 shardC6 = true ↔ ((List.range (gd p 6).rows.length).all fun k => !hasInt (gd p 7) (vAt (gd p 6) k)) = true := Iff.rfl
  have hap : shardApart p = true ↔ (∀ k, k < (gd p 5).rows.length → (!hasInt (gd p 6) (vAt (gd p 5) k) && !hasInt (gd p 7) (vAt (gd p 5) k)) = true) ∧ shardA p 6 6 shardC6 = true := by
    rw [h6]
    unfold shardApart
    rw [Bool.and_eq_true, List.all_eq_true]
    simp only [List.mem_range]
  have hsum : shardSum p = true ↔ heldsOkS p = true ∧ leI (roomOf p) 60 = true := by
    unfold shardSum roomOf
    rw [Bool.and_eq_true]
  unfold shardI shardOk
  simp only [Bool.and_eq_true, hap, hsum]
  constructor
  · rintro ⟨a0, a1, a2, a3, a4, a5, a6, a7, a8, b0, b2, b4, ⟨c1, c2⟩, d⟩
    exact ⟨a0, a1, a2, a3, a4, a8, hasc a5, hl a6, hl a7, a6, a7, b0, b2, b4, c2, (heldsS_iff a4).2 ⟨a5, fun k hk => by simpa using c1 k hk⟩, d⟩
  · rintro ⟨a0, a1, a2, a3, a4, a8, _, _, _, a6, a7, b0, b2, b4, c2, hs, d⟩
    obtain ⟨a5, c1⟩ := (heldsS_iff a4).1 hs
    exact ⟨a0, a1, a2, a3, a4, a5, a6, a7, a8, b0, b2, b4, ⟨fun k hk => by simpa using c1 k hk, c2⟩, d⟩
theorem have_same {z : D} {q : List D} (hz : rangesOk z = true) (hq : rangeOk q = true) : haveAll z q = rangesHave z q := by
  unfold rangesHave
  rw [hz, hq]
  rfl
theorem ranges_at {z : D} {k : Nat} (hz : rangesOk z = true) (hk : k < z.rows.length) : rangeOk (sub (z.rows.getD k []) 0 2) = true := by
  unfold rangesOk at hz
  simp only [Bool.and_eq_true, List.all_eq_true, List.mem_range] at hz
  have := hz.1 k hk
  cases k with
  | zero => exact this
  | succ k => simp only [rangesAt, Bool.and_eq_true] at this; exact this.1
theorem store_key {z : D} {k : Nat} (hz : storeOk z = true) (hk : k < z.rows.length) : 0 ≤ (gd (z.rows.getD k []) 0).int ∧ (gd (z.rows.getD k []) 0).int ≤ 999 := by
  unfold storeOk at hz
  simp only [Bool.and_eq_true, List.all_eq_true, List.mem_range] at hz
  have := hz.1 k hk
  cases k with
  | zero => simp only [storeAt, inB, Bool.and_eq_true, decide_eq_true_eq] at this; omega
  | succ k => simp only [storeAt, inB, Bool.and_eq_true, decide_eq_true_eq] at this; omega
theorem locks_at {z : D} {k : Nat} (hz : locksOk z = true) (hk : k < z.rows.length) : rangeOk [gd (z.rows.getD k []) 1, gd (z.rows.getD k []) 2] = true := by
  unfold locksOk at hz
  simp only [Bool.and_eq_true, List.all_eq_true, List.mem_range] at hz
  have := hz.1 k hk
  simp only [lockAt, Bool.and_eq_true] at this
  exact this.2.1
theorem anyS_not {C : List D → Bool} {z : D} {A : Nat → Bool} (h : ∀ k, k < z.rows.length → C (z.rows.getD k []) = !A k) : anyS C z = !(List.range z.rows.length).all A := by
  unfold anyS
  rw [Bool.eq_iff_iff]
  simp only [List.any_eq_true, List.mem_range, Bool.not_eq_true', ← Bool.not_eq_true, List.all_eq_true]
  constructor
  · rintro ⟨k, hk, hc⟩ ha
    rw [h k hk, ha k hk] at hc
    cases hc
  · intro hn
    refine Classical.byContradiction fun hne => hn fun k hk => ?_
    cases hA : A k with
    | true => rfl
    | false => exact absurd ⟨k, hk, by rw [h k hk, hA]; rfl⟩ hne
theorem hasInt_app (a b : List (List D)) (x : Int) : hasInt (.l (a ++ b)) x = (hasInt (.l a) x || hasInt (.l b) x) := by
  have e : numsOf (.l (a ++ b)) = numsOf (.l a) ++ numsOf (.l b) := List.map_append
  rw [Bool.eq_iff_iff, Bool.or_eq_true, hasInt_iff, hasInt_iff, hasInt_iff, e, List.mem_append]
theorem hasInt_rows (z : D) (x : Int) : hasInt (.l z.rows) x = hasInt z x := rfl
theorem shard_f (p : List D) (h1 : rangesOk (gd p 1) = true) (h2 : rangesOk (gd p 2) = true) : anyS (fun rr => ixfSFC (.l [[.l [sub p 0 9]]]) (sub rr 0 2)) (gd p 2) = !(shardA p 2 0 shardC0) := by
  refine anyS_not fun k hk => ?_
  show (!(haveAll (gd p 1) (sub ((gd p 2).rows.getD k []) 0 2))) = _
  rw [have_same h1 (ranges_at h2 hk)]
  rfl
theorem shard_c (p : List D) (h1 : rangesOk (gd p 1) = true) (h3 : storeOk (gd p 3) = true) : anyS (fun rr => ixfSCC (.l [[.l [sub p 0 9]]]) (sub rr 0 2)) (gd p 3) = !(shardA p 3 2 shardC2) := by
  refine anyS_not fun k hk => ?_
  show (!(haveAll (gd p 1) (oneAt ((gd p 3).rows.getD k [])))) = _
  have := store_key h3 hk
  rw [have_same h1 (one_rangeOk this.1 this.2)]
  rfl
theorem shard_l (p : List D) (h1 : rangesOk (gd p 1) = true) (h4 : locksOk (gd p 4) = true) : anyS (fun rr => ixfSLC (.l [[.l [sub p 0 9], .l [[concD (.l [[gd p 6], [gd p 7]])]]]]) (sub rr 0 4)) (gd p 4) = !(shardA p 4 4 shardC4) := by
  refine anyS_not fun k hk => ?_
  show (bif !(haveAll (gd p 1) [gd ((gd p 4).rows.getD k []) 1, gd ((gd p 4).rows.getD k []) 2]) then true else hasInt (.l ((gd p 6).rows ++ (gd p 7).rows)) (gd ((gd p 4).rows.getD k []) 0).int) = _
  rw [have_same h1 (locks_at h4 hk), hasInt_app, hasInt_rows, hasInt_rows]
  unfold shardC4
  cases rangesHave (gd p 1) [gd ((gd p 4).rows.getD k []) 1, gd ((gd p 4).rows.getD k []) 2] <;> cases hasInt (gd p 6) (gd ((gd p 4).rows.getD k []) 0).int <;> cases hasInt (gd p 7) (gd ((gd p 4).rows.getD k []) 0).int <;> rfl
def shardSmall (p : List D) : Bool := leI ((gd p 3).rows.length : Int) 100000000 && (leI ((gd p 5).rows.length : Int) 100000000 && (leI ((gd p 6).rows.length : Int) 100000000 && leI ((gd p 7).rows.length : Int) 100000000))
theorem ob_step2 {a c g : Bool} {x : Out} (hc : c = !a) (h : a = true → x = ob g) : (bif c then ob false else x) = ob (a && g) := by
  subst hc
  exact ob_step h
def i_ShardOkE : Ent := (63, e1 (ag rIShard) fun p => (⟨rb, [.b (shardOk p)]⟩, shardSmall p))
theorem i_ShardOk_ok : EntOk Tryz.prog i_ShardOkE := e1_ok fun p h => evFn_sound (N := 0) (ks := i_ShardOkK) (key := bo) i_ShardOkT_ok (enters Tryz.func63 (by kernel_rfl) (by kernel_rfl)) Tryz.func63 fun hw => by
  rw [i_ShardOk_ev]
  have h : shardSmall p = true := h
  unfold shardSmall at h
  simp only [Bool.and_eq_true, leI, decide_eq_true_eq] at h
  obtain ⟨h3, h5, h6, h7⟩ := h
  refine congrArg (fun x => some (bo, x)) ?_
  show i_ShardOks13 0 p = ob (shardOk p)
  have l9 : leI ((gd p 5).rows.length : Int) 1000000000 = true := leI_t (by omega)
  have lall : (shardAll p).rows.length = (gd p 5).rows.length + ((gd p 6).rows.length + (gd p 7).rows.length) := by
    show ((txsD (gd p 5)).rows ++ ((gd p 6).rows ++ (gd p 7).rows)).length = _
    rw [List.length_append, List.length_append, txs_len]
  have lsort : (sortD (shardAll p)).rows.length = (shardAll p).rows.length := by rw [sortD, numsD_len, sortL_len, numsOf_len]
  rw [← shard_same]
  unfold i_ShardOks13 i_ShardOks12 shardI
  refine ob_step fun _ => ob_step fun a1 => ob_step fun a2 => ob_step fun a3 => ?_
  unfold i_ShardOks11
  refine ob_step fun a4 => ?_
  rw [l9, nd_true]
  unfold i_ShardOks10
  refine ob_step (a := heldsOk p) fun a5 => ob_step fun a6 => ?_
  unfold i_ShardOks9
  refine ob_step fun a7 => ob_step fun _ => ?_
  unfold i_ShardOks8
  refine ob_step2 (shard_f p a1 a2) fun _ => ?_
  unfold i_ShardOks7
  refine ob_step2 (shard_c p a1 a3) fun _ => ?_
  have hcc : concOk (.l [[gd p 6], [gd p 7]]) = true := by
    show (true && (leI ((gd p 6).rows.length : Int) 100000000 && leI ((gd p 7).rows.length : Int) 100000000)) = true
    rw [leI_t (by omega), leI_t (by omega)]
    rfl
  rw [hcc, nd_true]
  unfold i_ShardOks6
  refine ob_step2 (shard_l p a1 a4) fun _ => ?_
  rw [l9, nd_true]
  unfold heldsOk at a5
  simp only [Bool.and_eq_true] at a5
  show nd (lenOk (shardAll p).rows && true) (i_ShardOks4 0 p) = _
  rw [lenOk_t (by omega)]
  show nd (leI ((shardAll p).rows.length : Int) 1000000000) (nd (leI ((sortD (shardAll p)).rows.length : Int) 1000000000) (nd (leI ((sortD (shardAll p)).rows.length : Int) 1000000000) (bif ((compD (sortD (shardAll p))).rows.length : Int) == ((sortD (shardAll p)).rows.length : Int) then (nd (leI ((gd p 3).rows.length : Int) 1000000000 && leI ((gd p 5).rows.length : Int) 1000000000) (ob (leI (roomOf p) 60))) else ob false))) = _
  rw [lsort, leI_t (by omega), nd_true, nd_true, nd_true, leI_t (by omega), l9, Bool.and_self, nd_true, ← lsort]
  have e := apart_iff p a5.2 a6 a7
  rw [← e]
  have e' : (((compD (sortD (shardAll p))).rows.length : Int) == ((sortD (shardAll p)).rows.length : Int)) = ((compD (sortD (shardAll p))).rows.length == (sortD (shardAll p)).rows.length) := by
    rw [Bool.eq_iff_iff, beq_iff_eq, beq_iff_eq]; omega
  rw [e']
  cases (compD (sortD (shardAll p))).rows.length == (sortD (shardAll p)).rows.length <;> rfl

end Go.Proofs.YtchceahcaaibcaaGreat
