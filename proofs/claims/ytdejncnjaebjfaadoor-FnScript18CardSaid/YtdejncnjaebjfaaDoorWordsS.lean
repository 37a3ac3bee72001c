/-
  The words of a line, as the reference makes them.
-/
import Derived.Test.YtdejncnjaebjfaaDoorWords
import Derived.Test.YtdejncnjaebjfaaDoorText
namespace Go.Proofs.YtdejncnjaebjfaaDoor
set_option linter.unusedVariables false
set_option linter.unusedSimpArgs false
open Go.ChangeShapes Go.WideShapes Go.ChangeAt Go.RowKit

def strsOf (l : List (List UInt8)) : List Value := l.map fun x => Value.string (bs x)
theorem info_str : (Tryd.prog.info? 9).map (fun i => (i.zero, i.size, i.bytes)) = some (some (.string ⟨#[]⟩), 1, 16) := by kernel_rfl
theorem own_strs {w : World} {base : Nat} {v : Value} {l : List (List UInt8)} {n : Nat} (h : w.ownsRow base 9 1 v n (strsOf l)) (hn : l.length = n) (hs : ∀ x ∈ l, (x.length : Int) ≤ 9223372036854775807) (hm : n ≤ 1048576) : SlR 1 RStr base w v l := by
  subst hn
  rcases h.2 with ⟨rfl, h0⟩ | ⟨g, cap, cur, rfl, hb, hh, h1, h2, h3, h4⟩
  · obtain rfl : l = [] := List.eq_nil_of_length_eq_zero h0
    exact SlR.nil _ _ _ _ _
  · unfold maxLen at h2
    refine ⟨_, cap, rfl, h1, h2, fun i x hx => ⟨g, 0, [.string (bs x)], rfl, hb, rfl, fun j u hu => ?_, rfl, hs x (List.mem_of_getElem? hx)⟩⟩
    have hj : j = 0 := by
      have := (List.getElem?_eq_some_iff.1 hu).1
      simpa using this
    subst hj
    simp at hu
    subst hu
    have hi := (List.getElem?_eq_some_iff.1 hx).1
    rw [Nat.zero_add, Nat.mul_one, Nat.add_zero, World.ownsRow.cellAt h i (by omega)]
    unfold strsOf
    rw [List.getElem?_map, hx]
    rfl
theorem wordsOf_take {l : List UInt8} {f i : Nat} (hf : f ≤ i) (hi : i < l.length) (hs : bAt l i = 32) (hn : ∀ j, f ≤ j → j < i → bAt l j ≠ 32) : wordsOf (l.drop f) = (l.take i).drop f :: wordsOf (l.drop (i + 1)) := by
  have h1 : l.drop f = (l.take i).drop f ++ 32 :: l.drop (i + 1) := by
    have h2 : l[i] = 32 := by
      apply UInt8.toNat_inj.1
      unfold bAt at hs
      rw [List.getD_eq_getElem?_getD, List.getElem?_eq_getElem hi] at hs
      simp at hs
      have : (32 : UInt8).toNat = 32 := rfl
      omega
    conv => lhs; rw [← List.take_append_drop i l]
    rw [List.drop_append_of_le_length (by simp; omega), List.drop_eq_getElem_cons hi, h2]
  rw [h1, wordsOf_cut]
  intro c hc
  obtain ⟨j, hj⟩ := List.getElem?_of_mem hc
  rw [List.getElem?_drop] at hj
  have hlt : f + j < i := by
    have := (List.getElem?_eq_some_iff.1 hj).1
    rw [List.length_take] at this
    omega
  rw [List.getElem?_take, if_pos hlt] at hj
  intro e
  subst e
  apply hn (f + j) (by omega) hlt
  unfold bAt
  rw [List.getD_eq_getElem?_getD, hj]
  rfl
theorem wordsOf_last {l : List UInt8} {f : Nat} (hn : ∀ j, f ≤ j → j < l.length → bAt l j ≠ 32) : wordsOf (l.drop f) = [l.drop f] := by
  apply wordsOf_none
  intro c hc
  obtain ⟨j, hj⟩ := List.getElem?_of_mem hc
  rw [List.getElem?_drop] at hj
  have hlt := (List.getElem?_eq_some_iff.1 hj).1
  intro e
  subst e
  apply hn (f + j) (by omega) hlt
  unfold bAt
  rw [List.getD_eq_getElem?_getD, hj]
  rfl
theorem words_sum (l : List UInt8) : (∀ x ∈ wordsOf l, x.length ≤ l.length) ∧ (wordsOf l).length ≤ l.length + 1 := by
  induction l with
  | nil => simp [wordsOf]
  | cons c t ih =>
    obtain ⟨h1, h2⟩ := ih
    unfold wordsOf
    split
    · refine ⟨fun x hx => ?_, by simp; omega⟩
      rcases List.mem_cons.1 hx with rfl | hx
      · simp
      · have := h1 x hx; simp; omega
    · split
      · simp
      · rename_i h r e
        rw [e] at h1 h2
        refine ⟨fun x hx => ?_, by simp at h2 ⊢; omega⟩
        rcases List.mem_cons.1 hx with rfl | hx
        · have := h1 h (by simp); simp; omega
        · have := h1 x (by simp [hx]); simp; omega

/-- where the loop over a line stands -/
def WStep (l : List UInt8) (D : List (List UInt8)) (f i : Nat) : Prop :=
  D.length ≤ i ∧ (∀ x ∈ D, x.length ≤ l.length) ∧
  ((i ≤ l.length ∧ f ≤ i ∧ D ++ wordsOf (l.drop f) = wordsOf l ∧ ∀ j, f ≤ j → j < i → bAt l j ≠ 32) ∨ (i = l.length + 1 ∧ D = wordsOf l))
theorem WStep.same {l : List UInt8} {D : List (List UInt8)} {f i : Nat} (h : WStep l D f i) (hi : i < l.length) (hs : bAt l i ≠ 32) : WStep l D f (i + 1) := by
  obtain ⟨h0, h1, ⟨h2, h3, h4, h5⟩ | ⟨h2, _⟩⟩ := h
  · refine ⟨by omega, h1, .inl ⟨by omega, by omega, h4, fun j hj hj2 => ?_⟩⟩
    by_cases e : j = i
    · subst e; exact hs
    · exact h5 j hj (by omega)
  · omega
theorem WStep.cut {l : List UInt8} {D : List (List UInt8)} {f i : Nat} (h : WStep l D f i) (hi : i < l.length) (hs : bAt l i = 32) : WStep l (D ++ [(l.take i).drop f]) (i + 1) (i + 1) := by
  obtain ⟨h0, h1, ⟨h2, h3, h4, h5⟩ | ⟨h2, _⟩⟩ := h
  · refine ⟨by simp; omega, fun x hx => ?_, .inl ⟨by omega, Nat.le_refl _, ?_, fun j hj hj2 => by omega⟩⟩
    · rcases List.mem_append.1 hx with hx | hx
      · exact h1 x hx
      · simp at hx; subst hx; simp; omega
    · rw [List.append_assoc, ← h4, wordsOf_take h3 hi hs h5]; rfl
  · omega
theorem WStep.end_ {l : List UInt8} {D : List (List UInt8)} {f : Nat} (h : WStep l D f l.length) : WStep l (D ++ [(l.take l.length).drop f]) (l.length + 1) (l.length + 1) := by
  obtain ⟨h0, h1, ⟨h2, h3, h4, h5⟩ | ⟨h2, _⟩⟩ := h
  · refine ⟨by simp; omega, fun x hx => ?_, .inr ⟨rfl, ?_⟩⟩
    · rcases List.mem_append.1 hx with hx | hx
      · exact h1 x hx
      · simp at hx; subst hx; simp
    · rw [← h4, wordsOf_last h5, List.take_of_length_le (Nat.le_refl _)]
  · omega

set_option maxRecDepth 100000 in
set_option maxHeartbeats 1000000 in
theorem swords (l : List UInt8) (w : World) (hl : l.length ≤ 20000) :
    Calls Tryd.prog 25 #[.string (bs l)] w fun e w' => ∃ v, e = .returned v ∧ SlR 1 RStr w.heap.size w' v (wordsOf l) ∧ Below w.heap.size w w' := by
  obtain ⟨i0, hi, hz0, hz1, hz2⟩ := info_parts info_str
  go_enter Tryd.func25, Tryd.ntmps25
  go_wp2_with fail
  go_loopw [3, 4, 5] (fun v fr i wr => ∃ (D : List (List UInt8)) (f k : Nat), k ≤ l.length + 1 ∧ fr = .int .i64 (f : Int) ∧ i = .int .i64 (k : Int) ∧ RowKit.Hid (WStep l D f k) ∧ f ≤ k ∧ Below w.heap.size w wr ∧ wr.ownsRow w.heap.size 9 1 v D.length (strsOf D)) (fun _ _ i _ => l.length + 1 - (intOf i).toNat)
  case atStart => exact ⟨[], 0, 0, by omega, rfl, rfl, (⟨by simp, by simp, .inl ⟨by omega, by omega, by simp, fun j _ hj => by omega⟩⟩ : WStep l [] 0 0), by omega, (Below.refl _ _).alloc (Nat.le_refl _) _, World.ownsRow_lit w #[] 0 (Nat.le_refl _) (by unfold maxLen; omega) rfl⟩
  case round =>
    obtain ⟨D, f, k, hk, rfl, rfl, hst, hfk, hb, hown⟩ := hrel
    have hD := hst.out.1
    by_cases hlt : k < l.length
    · have hne : ((k : Int) == (l.length : Int)) = false := by rw [beq_eq_false_iff_ne]; omega
      by_cases hs : bAt l k = 32
      · have hs' : (bAt l k == 32) = true := by simpa using hs
        have HST := Lib.hid (hst.out.cut hlt hs); clear hst hs
        generalize hx : (l.take k).drop f = x at HST
        have HX := Lib.hid hx; clear hx
        go_wp2_with (at_builtin; refine wpList_append_own _ rfl (.tmp 23) (.tmp 28) 43 rfl w.heap.size 9 i0 _ 1 16 Tryd.underlying43 hi hz0 hz1 hz2 rfl (by omega) _ D.length _ rfl (hown.alloc _) ⟨wr.heap.size, 0, none⟩ 1 1 [.string (bs ((l.take k).drop f))] rfl rfl (cell_one_new _ _ _) (by intro u hu; simp at hu; subst hu; rfl) (by unfold maxLen; omega) (by omega) (by have := hb.size; simp; omega) ?_)
        rintro v' w' h1 h2 h3
        have HO : w'.ownsRow w.heap.size 9 1 v' (D ++ [x]).length (strsOf (D ++ [x])) := by
          have hx := HX.out
          subst hx
          simp only [strsOf, List.map_append, List.map_cons, List.map_nil, List.length_append, List.length_cons, List.length_nil]
          exact h1
        have HB : Below w.heap.size w w' := (hb.alloc hb.size _).grown h2 (by have := hb.size; simp; omega) (own_ge hown)
        clear h1 h2 h3 hown hb
        go_wp2_with fail
        go_roundw
        case rel => exact ⟨D ++ [x], k + 1, k + 1, by omega, by go_num, by go_num, HST.out, by omega, HB, HO⟩
        case measure => simp [intOf] <;> omega
      · have hs' : (bAt l k == 32) = false := by simpa using hs
        have HST := Lib.hid (hst.out.same hlt hs); clear hst hs
        go_wp2_with fail
        go_roundw
        case rel => exact ⟨D, f, k + 1, by omega, rfl, by go_num, HST.out, by omega, hb, hown⟩
        case measure => simp [intOf] <;> omega
    · by_cases hle : k = l.length
      · subst hle
        have HST := hst.out.end_; clear hst
        rw [List.take_of_length_le (Nat.le_refl _)] at HST
        replace HST := Lib.hid HST
        have he : ((l.length : Int) == (l.length : Int)) = true := beq_self_eq_true _
        generalize hx : l.drop f = x at HST
        have HX := Lib.hid hx; clear hx
        go_wp2_with (at_builtin; refine wpList_append_own _ rfl (.tmp 23) (.tmp 28) 43 rfl w.heap.size 9 i0 _ 1 16 Tryd.underlying43 hi hz0 hz1 hz2 rfl (by omega) _ D.length _ rfl (hown.alloc _) ⟨wr.heap.size, 0, none⟩ 1 1 [.string (bs (l.drop f))] rfl rfl (cell_one_new _ _ _) (by intro u hu; simp at hu; subst hu; rfl) (by unfold maxLen; omega) (by omega) (by have := hb.size; simp; omega) ?_)
        rintro v' w' h1 h2 h3
        have HO : w'.ownsRow w.heap.size 9 1 v' (D ++ [x]).length (strsOf (D ++ [x])) := by
          have hx := HX.out
          subst hx
          simp only [strsOf, List.map_append, List.map_cons, List.map_nil, List.length_append, List.length_cons, List.length_nil]
          exact h1
        have HB : Below w.heap.size w w' := (hb.alloc hb.size _).grown h2 (by have := hb.size; simp; omega) (own_ge hown)
        clear h1 h2 h3 hown hb
        go_wp2_with fail
        go_roundw
        case rel => exact ⟨D ++ [x], l.length + 1, l.length + 1, by omega, by go_num, by go_num, HST.out, by omega, HB, HO⟩
        case measure => simp [intOf] <;> omega
      · obtain rfl : k = l.length + 1 := by omega
        have hd : D = wordsOf l := by
          rcases hst.out.2.2 with ⟨h, _⟩ | ⟨_, h⟩
          · omega
          · exact h
        subst hd
        have hn : ¬ ((l.length : Int) + 1 ≤ (l.length : Int)) := by omega
        have HS : SlR 1 RStr w.heap.size wr u3 (wordsOf l) := own_strs hown rfl (fun x hx => by have := (words_sum l).1 x hx; omega) (by have := (words_sum l).2; omega)
        go_wp2_with fail
        first | exact ⟨_, ⟨_, rfl, HS, hb⟩⟩ | exact ⟨_, rfl, _, rfl, HS, hb⟩ | exact bodyPost_ret (v := u3) (by simp [results, Tryd.results25, go_sem]) rfl ⟨_, rfl, HS, hb⟩
end Go.Proofs.YtdejncnjaebjfaaDoor
