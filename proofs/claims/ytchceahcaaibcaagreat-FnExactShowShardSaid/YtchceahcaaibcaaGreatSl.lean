/-
  Calls of Go's slices at numbers: Clone and Grow hand out a row of the caller's own; Sort and Compact write into the row that they are given.
-/
import Derived.Test.YtchceahcaaibcaaGreatRun
import Derived.Test.YtchceahcaaibcaaGreatShelf
import Derived.Lib.SlicesCompact
import Derived.Lib.RowBridge
namespace Go.Proofs.YtchceahcaaibcaaGreat
set_option linter.unusedSimpArgs false
open Go.RowKit (Below)
set_option linter.unusedVariables false

def numsOf (z : D) : List Int := z.rows.map fun r => (gd r 0).int
def numsD (xs : List Int) : D := .l (xs.map fun n => [.i n])
def sortL (xs : List Int) : List Int := xs.mergeSort fun x y => decide (x ≤ y)
def sortD (z : D) : D := numsD (sortL (numsOf z))
def compD (z : D) : D := numsD (Lib.compact (numsOf z))
theorem numsOf_len (z : D) : (numsOf z).length = z.rows.length := by simp [numsOf]
theorem numsD_rows (xs : List Int) : (numsD xs).rows = xs.map fun n => [.i n] := rfl
theorem numsD_len (xs : List Int) : (numsD xs).rows.length = xs.length := by simp [numsD, D.rows]
theorem numsD_at (xs : List Int) (i : Nat) (h : i < xs.length) : (gd ((numsD xs).rows.getD i []) 0).int = xs[i] := by
  rw [numsD_rows, List.getD_eq_getElem?_getD, List.getElem?_map, List.getElem?_eq_getElem h]
  rfl
theorem numsOf_at (z : D) (i : Nat) (h : i < z.rows.length) : (numsOf z)[i]? = some (gd (z.rows.getD i []) 0).int := by
  simp [numsOf, List.getD_eq_getElem?_getD, List.getElem?_eq_getElem h]
theorem numsOf_numsD (xs : List Int) : numsOf (numsD xs) = xs := by
  unfold numsOf
  rw [numsD_rows, List.map_map]
  have : ((fun r => (gd r 0).int) ∘ fun n : Int => [D.i n]) = id := by funext n; rfl
  rw [this, List.map_id]
theorem sortL_len (xs : List Int) : (sortL xs).length = xs.length := List.length_mergeSort xs
theorem comp_le (xs : List Int) : (Lib.compact xs).length ≤ xs.length := by
  unfold Lib.compact Lib.compactUpTo
  rw [List.length_map]
  exact Nat.le_trans (List.length_filter_le _ _) (by simp)

/-- the world behind Sort and Compact -/
theorem writ_put {w : World} {b n : Nat} {arr : Array Value} {e : TypeId} {d : Array Int} {os : Array Obj} {rows : List (List D)} (hh : w.heap[b]? = some (.cells arr e (0, 0))) (hd : d.size ≤ arr.size)
    (hr : ∀ i, i < rows.length → i < d.size ∧ d[i]! = (gd (rows.getD i []) 0).int) : Writ b e arr rows w (Go.Sort.grow (Go.Sort.putRow (Value.int .i64) (Go.Sort.ahead w n) b 0 d) os) := by
  have hb := lt_of_heap hh
  have h1 : (Go.Sort.grow (Go.Sort.putRow (Value.int .i64) (Go.Sort.ahead w n) b 0 d) os).heap = w.heap.modify b (Go.Sort.onCells (Go.Sort.putCells (Value.int .i64) 0 d)) ++ os := rfl
  have h2 : ∀ k, k < w.heap.size → (Go.Sort.grow (Go.Sort.putRow (Value.int .i64) (Go.Sort.ahead w n) b 0 d) os).heap[k]? = if b = k then (w.heap[k]?).map (Go.Sort.onCells (Go.Sort.putCells (Value.int .i64) 0 d)) else w.heap[k]? := fun k hk => by
    rw [h1, Array.getElem?_append_left (by simpa using hk), Array.getElem?_modify]
  refine ⟨⟨rfl, rfl, rfl, by rw [h1]; simp, fun k hk => by omega⟩, fun k hk hne => by rw [h2 k hk, if_neg (Ne.symm hne)], Go.Sort.putCells (Value.int .i64) 0 d arr, ?_, ?_, ?_⟩
  · rw [h2 b hb, if_pos rfl, hh]; rfl
  · simp [Go.Sort.putCells]
  · intro i hi
    obtain ⟨q1, q2⟩ := hr i hi
    have hlt : i < arr.size := by omega
    unfold Go.Sort.putCells
    rw [Array.getElem?_mapIdx, Array.getElem?_eq_getElem hlt]
    rw [getElem!_pos d i q1] at q2
    simp only [← q2]
    simp [q1]
theorem holds_nums {w : World} {b : Nat} {arr : Array Value} {e : TypeId} {x : D} (hh : w.heap[b]? = some (.cells arr e (0, 0))) (hle : x.rows.length ≤ arr.size) (hc : ∀ i, i < x.rows.length → arr[i]? = some (.int .i64 (gd (x.rows.getD i []) 0).int)) :
    Go.Sort.Holds (Value.int .i64) w b 0 (numsOf x).toArray := by
  intro j hj
  have hj : j < x.rows.length := by simpa [numsOf] using hj
  refine ⟨?_, ?_⟩
  · have e1 : (numsOf x).toArray[j]! = (gd (x.rows.getD j []) 0).int := by
      have := numsOf_at x j hj
      simp [getElem!_def, this]
    rw [e1]
    simp only [World.cell?, hh, Nat.zero_add]
    exact hc j hj
  · simp [World.frozen?, hh]

def i_sortE : Ent := (174, e1 (sd (.sl 3)) fun p => (⟨.tup [.c .any], [sortD (gd p 0)]⟩, leI ((gd p 0).rows.length : Int) 1000000000))
theorem i_sort_ok : EntOk Tryz.prog i_sortE := e1_ok fun p h => by
  have h : leI ((gd p 0).rows.length : Int) 1000000000 = true := h
  simp only [leI, decide_eq_true_eq] at h
  refine SoundFn.ofW rfl ⟨enters Tryz.func174 (by kernel_rfl) (by kernel_rfl), fun e x he hrow => ?_⟩
  injection he with he _
  injection he with he hp
  injection he with he
  injection he with he
  injection he with he
  injection he with he
  subst he
  subst hp
  have hx : gd [x] 0 = x := rfl
  rw [hx] at h
  refine ⟨fun h0 => ⟨?_, fun A w => ?_⟩, fun w b cap arr hh hsz hle hc hnum => ⟨?_, fun _ => ?_, ?_⟩⟩
  · show (sortD x).rows = []
    have : numsOf x = [] := by unfold numsOf; rw [h0]; rfl
    exact List.eq_nil_of_length_eq_zero (by rw [sortD, numsD_len, sortL_len, this]; rfl)
  · refine (Any.slices_Sort_int_none Tryz.lays189 A 0 w).mono ?_
    rintro ex w' ⟨rfl, rfl⟩
    exact ⟨rfl, Below.refl _ _⟩
  · show (sortD x).rows.length ≤ _
    rw [sortD, numsD_len, sortL_len, numsOf_len]
    exact Nat.le_refl _
  · show (sortD x).rows.length = _
    rw [sortD, numsD_len, sortL_len, numsOf_len]
  · have hl := numsOf_len x
    have hs := Any.slices_Sort_int Tryz.lays189 b 0 cap (numsOf x) w (holds_nums hh (by omega) hnum) (lt_of_heap hh) (by omega)
    rw [hl] at hs
    refine hs.mono ?_
    rintro ex w' ⟨rfl, n, os, rfl⟩
    refine ⟨rfl, writ_put hh (by simp [hl]; omega) fun i hi => ?_⟩
    have hi : i < (sortL (numsOf x)).length := by
      have hi : i < (sortD x).rows.length := hi
      rwa [sortD, numsD_len] at hi
    refine ⟨by simpa [sortL] using hi, ?_⟩
    show _ = (gd ((sortD x).rows.getD i []) 0).int
    rw [sortD, numsD_at _ _ hi]
    have hi' : i < ((numsOf x).mergeSort fun x y => decide (x ≤ y)).length := hi
    simp [getElem!_def, List.getElem?_eq_getElem hi', sortL]
def i_compE : Ent := (175, e1 (sd (.sl 3)) fun p => (⟨.tup [.agg []], [compD (gd p 0)]⟩, leI ((gd p 0).rows.length : Int) 1000000000))
theorem i_comp_ok : EntOk Tryz.prog i_compE := e1_ok fun p h => by
  have h : leI ((gd p 0).rows.length : Int) 1000000000 = true := h
  simp only [leI, decide_eq_true_eq] at h
  refine SoundFn.ofW rfl ⟨enters Tryz.func175 (by kernel_rfl) (by kernel_rfl), fun e x he hrow => ?_⟩
  injection he with he _
  injection he with he hp
  injection he with he
  injection he with he
  injection he with he
  injection he with he
  subst he
  subst hp
  have hx : gd [x] 0 = x := rfl
  rw [hx] at h
  have hcl : ∀ x : D, (compD x).rows.length = (Lib.compact (numsOf x)).length := fun x => numsD_len _
  refine ⟨fun h0 => ⟨?_, fun A w => ?_⟩, fun w b cap arr hh hsz hle hc hnum => ⟨?_, ?_, ?_⟩⟩
  · show (compD x).rows = []
    have : numsOf x = [] := by unfold numsOf; rw [h0]; rfl
    unfold compD
    rw [this]; rfl
  · refine (Any.slices_Compact_int_empty Tryz.laysNm220 A 0 w).mono ?_
    rintro ex w' ⟨rfl, rfl⟩
    exact ⟨rfl, Below.refl _ _⟩
  · show (compD x).rows.length ≤ _
    rw [hcl, ← numsOf_len]
    exact comp_le _
  · rintro ⟨c, hc⟩
    cases hc
  · have hl := numsOf_len x
    have hcle := comp_le (numsOf x)
    have hs := Any.slices_Compact_int Tryz.laysNm220 b 0 cap (numsOf x) w (holds_nums hh (by omega) hnum) (by omega) (by omega)
    rw [hl] at hs
    refine hs.mono ?_
    rintro ex w' ⟨rfl, n, rfl⟩
    refine ⟨?_, ?_⟩
    · show _ = Ending.returned (.slice (some ⟨b, 0, none⟩) (compD x).rows.length cap)
      rw [hcl]
    · have := writ_put (os := #[]) (n := n) (rows := (compD x).rows) (d := (Lib.compact (numsOf x) ++ List.replicate (x.rows.length - (Lib.compact (numsOf x)).length) 0).toArray) hh (by simp; omega) fun i hi => ?_
      · rw [Go.Sort.grow_empty] at this
        exact this
      · rw [hcl] at hi
        refine ⟨by simp; omega, ?_⟩
        rw [compD, numsD_at _ _ hi]
        simp [getElem!_def, List.getElem?_append_left hi, List.getElem?_eq_getElem hi]

/-- a row of numbers that a call hands out -/
theorem res_own {P : Program} {prot : Nat → Nat} {w w' : World} {e : TypeId} {x : D} {v : Value} (hrow : rowOf P e = some [.int .i64]) (hfr : ∀ b, w.heap.size ≤ b → prot b = 0) (hb : Below w.heap.size w w') (ho : w'.ownsRow w.heap.size e 1 v x.rows.length ((numsOf x).map (Value.int .i64))) :
    ∃ g', Res P prot w w' ⟨.one (.c (.own (0, 0) true e)), [x]⟩ v g' := by
  obtain ⟨hl, ⟨rfl, h0⟩ | ⟨blk, cap, cur, rfl, hblk, hh, hcap, hmax, hsz, htk⟩⟩ := ho
  · exact ⟨g0 prot, hb, ⟨[.int .i64], hrow, .inl ⟨List.eq_nil_of_length_eq_zero h0, rfl, none, rfl⟩⟩, fun _ _ => rfl, fun b hb' => ⟨hfr b (Nat.le_trans hb.size hb'), rfl⟩⟩
  · refine ⟨⟨prot, fun b => if b = blk then some (.inr (0, 0)) else none, fun _ => 0, fun _ => blk, fun _ => x.rows.length, fun _ => 1, fun _ => e⟩, hb, ⟨[.int .i64], hrow, .inr ⟨cap, cur, e, rfl, hcap, ⟨by unfold maxLen at hmax; omega, rfl, rfl⟩, hblk, if_pos rfl, hh, by simpa using hsz, rfl, rfl, ?_, ?_⟩⟩, fun _ _ => rfl, fun b hb' => ⟨hfr b (Nat.le_trans hb.size hb'), ?_⟩⟩
    · show prot blk = 0
      exact hfr blk hblk
    · intro i j s hi hs
      have hi : i < x.rows.length := hi
      match j, hs with
      | 0, hs =>
        injection hs with hs
        subst hs
        refine ⟨.int .i64 (gd (x.rows.getD i []) 0).int, ?_, .int .i64 _⟩
        have e1 : (cur.toList.take (x.rows.length * 1))[i]? = some (Value.int .i64 (gd (x.rows.getD i []) 0).int) := by
          rw [htk, List.getElem?_map, numsOf_at x i hi]; rfl
        rw [List.getElem?_take, if_pos (by omega)] at e1
        simpa using e1
    · have := lt_of_heap hh
      exact if_neg (by omega)
def i_clonE : Ent := (176, e1 (sd (.sl 3)) fun p => (⟨.one (.c (.own (0, 0) true 3)), [.l (gd p 0).rows]⟩, leI ((gd p 0).rows.length : Int) 1000000000))
theorem i_clon_ok : EntOk Tryz.prog i_clonE := e1_ok fun p h => by
  have h : leI ((gd p 0).rows.length : Int) 1000000000 = true := h
  simp only [leI, decide_eq_true_eq] at h
  have hrow : rowOf Tryz.prog 3 = some [.int .i64] := by kernel_rfl
  refine SoundFn.of rfl ⟨enters Tryz.func176 (by kernel_rfl) (by kernel_rfl), fun w prot vs hargs hfr => ?_⟩
  obtain ⟨u, hu, hv⟩ := hargs.2 0 _ rfl
  have hvs : vs = #[u] := by
    have hs : vs.size = 1 := hargs.1
    refine Array.ext (by simpa using hs) fun i h1 h2 => ?_
    have : i = 0 := by omega
    subst this
    rw [Array.getElem?_eq_getElem h1] at hu
    injection hu
  subst hvs
  have hv : VD Tryz.prog w prot (.sl 3) (gd p 0) u := hv
  generalize gd p 0 = x at *
  cases hv with
  | sl e d A c row uu hr h1 h2 h3 h4 =>
    rw [hrow] at hr
    injection hr with hr
    subst hr
    cases A with
    | none =>
      have h0 : x.rows.length = 0 := by
        rcases Nat.eq_zero_or_pos x.rows.length with h' | h'
        · exact h'
        · obtain ⟨b, o, hA, _⟩ := h3 0 0 h' (by decide)
          cases hA
      have hx0 : x.rows = [] := List.eq_nil_of_length_eq_zero h0
      refine (Any.slices_Clone_int_nil Tryz.laysNm215 x.rows.length c w).mono ?_
      rintro ex w' ⟨rfl, rfl⟩
      obtain ⟨g', hg⟩ := res_own (x := x) (prot := prot) (w := w') (w' := w') hrow hfr (Below.refl _ _) (v := .slice none 0 0) ⟨by simp [numsOf], .inl ⟨rfl, h0⟩⟩
      exact ⟨_, g', rfl, hg.below, hg.val, hg.prot, hg.fresh⟩
    | some ad =>
      rcases Nat.eq_zero_or_pos x.rows.length with h0 | hpos
      · have hx0 : x.rows = [] := List.eq_nil_of_length_eq_zero h0
        rw [h0]
        refine (Any.slices_Clone_int_zero Tryz.laysNm215 ad c w).mono ?_
        rintro ex w' ⟨v', rfl, hown, _, hbel⟩
        obtain ⟨g', hg⟩ := res_own (x := x) (prot := prot) hrow hfr hbel (v := v') (by
          have e1 : numsOf x = [] := by unfold numsOf; rw [hx0]; rfl
          rw [h0, e1]; exact hown)
        exact ⟨_, g', rfl, hg.below, hg.val, hg.prot, hg.fresh⟩
      · obtain ⟨b, o, hA, _⟩ := h3 0 0 hpos (by decide)
        injection hA with hA
        subst hA
        have hl := numsOf_len x
        refine (Any.slices_Clone_int Tryz.laysNm215 b o x.rows.length c (numsOf x) w (by omega) (by omega) (fun j hj => ?_)).mono ?_
        · have hj : j < x.rows.length := by rw [← hl]; exact hj
          obtain ⟨b', o', hA, hc, _⟩ := h3 j 0 hj (by decide)
          simp only [Option.some.injEq, Addr.mk.injEq] at hA
          obtain ⟨rfl, rfl, _⟩ := hA
          have hvv := h4 j 0 (.int .i64) hj rfl
          generalize uu j 0 = uv at *
          cases hvv
          have e1 : (numsOf x).getD j 0 = (gd (x.rows.getD j []) 0).int := by
            rw [List.getD_eq_getElem?_getD, numsOf_at x j hj]; rfl
          rw [e1]
          simpa using hc
        · rintro ex w' ⟨v', rfl, hown, _, hbel⟩
          obtain ⟨g', hg⟩ := res_own (x := x) (prot := prot) hrow hfr hbel (v := v') (by
            rw [List.take_of_length_le (by omega)] at hown; exact hown)
          exact ⟨_, g', rfl, hg.below, hg.val, hg.prot, hg.fresh⟩
def i_growE : Ent := (266, e2 (.one (.c (.own (0, 0) true 3))) ri fun p q => (⟨.one (.c (.own (0, 0) true 3)), [.l []]⟩, leI 0 (gd q 0).int && leI (gd q 0).int 1000000000))
theorem i_grow_ok : EntOk Tryz.prog i_growE := e2_ok fun p q h => by
  have h : (leI 0 (gd q 0).int && leI (gd q 0).int 1000000000) = true := h
  simp only [Bool.and_eq_true, leI, decide_eq_true_eq] at h
  have hrow : rowOf Tryz.prog 3 = some [.int .i64] := by kernel_rfl
  refine SoundFn.of rfl ⟨enters Tryz.func266 (by kernel_rfl) (by kernel_rfl), fun w prot vs hargs hfr => ?_⟩
  obtain ⟨u, hu, hv⟩ := hargs.2 0 _ rfl
  obtain ⟨u1, hu1, hv1⟩ := hargs.2 1 _ rfl
  have hvs : vs = #[u, u1] := by
    have hs : vs.size = 2 := hargs.1
    refine Array.ext (by simpa using hs) fun i h1 h2 => ?_
    have : i = 0 ∨ i = 1 := by omega
    rcases this with rfl | rfl
    · rw [Array.getElem?_eq_getElem h1] at hu
      injection hu
    · rw [Array.getElem?_eq_getElem h1] at hu1
      injection hu1
  subst hvs
  have hv1 : VD Tryz.prog w prot (.int .i64) (gd q 0) u1 := hv1
  obtain ⟨row, _, hown⟩ := hv
  generalize gd q 0 = y at *
  cases hv1
  rcases hown with ⟨_, _, A, rfl⟩ | ⟨_, _, _, _, _, _, _, ho, _⟩
  · obtain ⟨n, hn⟩ : ∃ n : Nat, y.int = n := ⟨y.int.toNat, by omega⟩
    rw [hn]
    rcases Nat.eq_zero_or_pos n with rfl | hpos
    · refine (Any8.slices_Grow_room Tryz.growI A 0 0 0 w (by omega) (by omega) (by omega) (by omega)).mono ?_
      rintro ex w' ⟨rfl, rfl⟩
      exact ⟨_, g0 prot, rfl, Below.refl _ _, ⟨[.int .i64], hrow, .inl ⟨rfl, rfl, A, rfl⟩⟩, fun _ _ => rfl, fun b hb' => ⟨hfr b hb', rfl⟩⟩
    · obtain ⟨i0, hi0, hz0, hs0, hby⟩ := info_parts (P := Tryz.prog) (e := 3) (z := .int .i64 0) (size := 1) (bytes := 8) (by kernel_rfl)
      obtain ⟨z, hz⟩ : ∃ z, z = Value.int .i64 0 := ⟨_, rfl⟩
      have hzc : z.cells.size = 1 := by rw [hz]; rfl
      rw [← hz] at hz0
      refine (Any8.slices_Grow_grow Tryz.growI i0 z hi0 hz0 (by omega) A 0 0 n [] w (by omega) (by omega) (by rw [hby]; omega) (by omega) (by simp) (fun _ => rfl) (fun a _ j v hj => by simp at hj)).mono ?_
      rintro ex w' ⟨rfl, rfl⟩
      have hge := grownCap_ge w (0 + n) 0 3
      have hcm := grownCap_le_maxLen w (0 + n) 0 3 (by unfold maxLen; omega)
      obtain ⟨g', hg⟩ := res_own (x := .l []) (prot := prot) (w := w) (w' := w.drew.alloc (.cells ((#[] : Array Value) ++ Builtin.zeroCells z.cells (0 + n - 0) ++ Builtin.zeroCells z.cells (grownCap w (0 + n) 0 3 - (0 + n))) 3)) hrow hfr
        ⟨rfl, rfl, rfl, by simp, fun k hk => Below.heap_alloc w.drew _ k hk⟩ (v := .slice (some ⟨w.heap.size, 0, none⟩) 0 (grownCap w (0 + n) 0 3)) ⟨rfl, .inr ⟨w.heap.size, _, _, rfl, Nat.le_refl _, (by letI : Low := ⟨prot⟩; exact heap_new w.drew _), Nat.zero_le _, hcm, (by simp only [Nat.zero_add] at hge; simp [size_zeroCells, hzc]; omega), rfl⟩⟩
      exact ⟨_, g', rfl, hg⟩
  · cases ho
/-! a row that rises -/
theorem keeps_iff (ys : List Int) (hs : ys.Pairwise (· ≤ ·)) : (∀ j, j < ys.length → Lib.keeps ys.toArray j = true) ↔ ys.Nodup := by
  have hle : ∀ i j (hi : i < ys.length) (hj : j < ys.length), i ≤ j → ys[i] ≤ ys[j] := by
    intro i j hi hj h
    rcases Nat.lt_or_ge i j with h | h
    · exact List.pairwise_iff_getElem.1 hs i j hi hj h
    · have : i = j := by omega
      subst this; exact Int.le_refl _
  have hk : ∀ j (hj : j < ys.length), j ≠ 0 → (Lib.keeps ys.toArray j = true ↔ ys[j] ≠ ys[j - 1]) := by
    intro j hj h0
    have hj1 : j - 1 < ys.length := by omega
    simp [Lib.keeps, h0, getElem!_def, List.getElem?_eq_getElem hj, List.getElem?_eq_getElem hj1]
  constructor
  · intro h
    refine List.pairwise_iff_getElem.2 fun i j hi hj hij => ?_
    have h1 := (hk j hj (by omega)).1 (h j hj)
    have h2 := hle i (j - 1) hi (by omega) (by omega)
    have h3 := hle (j - 1) j (by omega) hj (by omega)
    omega
  · intro h j hj
    by_cases h0 : j = 0
    · subst h0; simp [Lib.keeps]
    · refine (hk j hj h0).2 ?_
      have := List.pairwise_iff_getElem.1 h (j - 1) j (by omega) hj (by omega)
      exact fun e => this e.symm
theorem comp_len (ys : List Int) (hs : ys.Pairwise (· ≤ ·)) : ((Lib.compact ys).length = ys.length) ↔ ys.Nodup := by
  rw [← keeps_iff ys hs]
  unfold Lib.compact Lib.compactUpTo
  rw [List.length_map]
  have h := List.length_filter_eq_length_iff (l := List.range ys.length) (p := Lib.keeps ys.toArray)
  rw [List.length_range] at h
  rw [h]
  simp
theorem sortL_pair (xs : List Int) : (sortL xs).Pairwise (· ≤ ·) := by
  have h := List.pairwise_mergeSort (le := fun x y : Int => decide (x ≤ y)) (by intro a b c h1 h2; simp only [decide_eq_true_eq] at *; omega) (by intro a b; simp only [Bool.or_eq_true, decide_eq_true_eq]; omega) xs
  exact h.imp fun h => by simpa using h
/-- as long behind Compact as ahead of it: no number stands there twice -/
theorem comp_sort (z : D) : (compD (sortD z)).rows.length = (sortD z).rows.length ↔ (numsOf z).Nodup := by
  unfold compD
  rw [numsD_len]
  unfold sortD
  rw [numsOf_numsD, numsD_len, comp_len _ (sortL_pair _)]
  exact (List.mergeSort_perm (numsOf z) _).nodup_iff
end Go.Proofs.YtchceahcaaibcaaGreat
