/-
  ShowCells of the reference, and its join.
-/
import Derived.Test.YtgiihlbljopjkaaShow
namespace Go.Proofs.Ytgiihlbljopjkaa
open Go.ChangeShapes Go.WideShapes Go.ChangeAt Go.RowKit

theorem join_take {l : List (List UInt8)} {k : Nat} {x : List UInt8} (h : l[k]? = some x) : Lib.join (l.take (k + 1)) [32] = if k = 0 then x else Lib.join (l.take k) [32] ++ (32 :: x) := by
  cases l with
  | nil => simp at h
  | cons y r =>
    cases k with
    | zero =>
      simp at h
      subst h
      rw [if_pos rfl]
      exact Lib.join_one y [32]
    | succ k =>
      rw [if_neg (by omega), List.take_succ_cons, List.take_succ_cons, Lib.join_cons, Lib.join_cons]
      have h' : r[k]? = some x := by simpa using h
      rw [List.take_add_one, h']
      simp [Lib.joinTail]

theorem sjoin (A : Option Addr) (c : Nat) (l : List (List UInt8)) (w : World) (hl : ∀ i x, l[i]? = some x → ∃ g, A = some ⟨g, 0, none⟩ ∧ w.cell? ⟨g, i, none⟩ = some (.string (bs x))) (hn : l.length ≤ 1048576) (hx : ∀ x ∈ l, x.length ≤ 41) :
    Calls Try.prog 28 #[.slice A l.length c] w fun e w' => e = .returned (.string (bs (if l.length = 0 then [110, 111, 116, 104, 105, 110, 103] else Lib.join l [32]))) ∧ w = w' := by
  have HL := Lib.hid hl; have HX := Lib.hid hx; clear hl hx
  go_enter Try.func28, Try.ntmps28
  go_wp2_with fail
  go_loop [3, 4] (fun v i => ∃ k : Nat, k ≤ l.length ∧ i = .int .i64 (k : Int) ∧ v = .string (bs (Lib.join (l.take k) [32]))) (fun _ i => l.length - (intOf i).toNat)
  case atStart => exact ⟨0, by omega, rfl, rfl⟩
  case round =>
    obtain ⟨k, hk, rfl, rfl⟩ := hrel
    have hj : (Lib.join (l.take k) [32]).length ≤ 44040192 := by
      have := join_len (l.take k) 41 (fun x hx => HX.out x (List.mem_of_mem_take hx))
      rw [List.length_take] at this
      omega
    by_cases hlt : k < l.length
    · have hx : l[k]? = some (l[k]'hlt) := List.getElem?_eq_getElem hlt
      have hxl := HX.out (l[k]'hlt) (List.getElem_mem _)
      generalize l[k]'hlt = x at hx hxl
      obtain ⟨g, rfl, hc⟩ := HL.out k x hx
      have ht := join_take hx
      have HT := Lib.hid ht
      clear ht hx
      by_cases h0 : k = 0
      · subst h0
        rw [if_pos rfl] at HT
        have L1 : ¬ 9223372036854775807 < (Lib.join (l.take 0) [32]).length + x.length := by omega
        have e0 : Lib.join (List.take 0 l) [32] = [] := rfl
        simp only [List.take_zero] at *
        go_wp2_with fail
        go_round
        case rel => exact ⟨1, by omega, rfl, by rw [HT.out]⟩
        case measure => simp [intOf]; omega
      · rw [if_neg h0] at HT
        have hk0 : 0 < (k : Int) := by omega
        have L1 : ¬ 9223372036854775807 < (Lib.join (l.take k) [32]).length + 1 := by omega
        have L2 : ¬ 9223372036854775807 < (Lib.join (l.take k) [32]).length + 1 + x.length := by omega
        generalize Lib.join (List.take k l) [32] = y at *
        go_wp2_with fail
        go_round
        case rel => exact ⟨k + 1, by omega, by go_num, by rw [HT.out]⟩
        case measure => simp [intOf]; omega
    · obtain rfl : k = l.length := by omega
      rw [List.take_of_length_le (Nat.le_refl _)] at *
      by_cases h0 : l.length = 0
      · have hz : ((l.length : Int) == 0) = true := by rw [h0]; rfl
        go_wp2_with fail
        go_ret
        exact ⟨rfl, rfl⟩
      · have hz : ((l.length : Int) == 0) = false := by rw [beq_eq_false_iff_ne]; omega
        go_wp2_with fail
        go_ret
        exact ⟨rfl, rfl⟩

theorem sshow (A : Option Addr) (c : Nat) (xs : List Cell) (w : World) (lo : Nat) (h : SlR 2 RCell lo w (.slice A xs.length c) xs) (hn : xs.length ≤ 1048576) :
    Calls Try.prog 16 #[.slice A xs.length c] w fun e w' => e = .returned (.string (bs (showCells xs))) ∧ Below w.heap.size w w' := by
  have H := Lib.hid h; clear h
  by_cases h1 : (xs.length : Int) > 1000
  · have e : showCells xs = [] := by unfold showCells; rw [if_neg (by omega), if_pos (by omega)]
    have E := Lib.hid e; clear e
    go_enter Try.func16, Try.ntmps16
    go_wp2_with fail
    go_ret
    exact ⟨by rw [E.out]; rfl, (Below.refl _ _).alloc (Nat.le_refl _) _⟩
  · obtain ⟨i0, hi, hz0, hz1, hz2⟩ := info_parts info_string
    go_enter Try.func16, Try.ntmps16
    go_wp2_with fail
    go_loopw [3, 4] (fun v i wr => ∃ k : Nat, k ≤ xs.length ∧ i = .int .i64 (k : Int) ∧ Below w.heap.size w wr ∧ wr.ownsRow w.heap.size 9 1 v k (strs ((xs.map word).take k)) ∧ (k = 0 → ∃ A c, v = .slice A 0 c)) (fun _ i _ => xs.length - (intOf i).toNat)
    case atStart => exact ⟨0, by omega, rfl, (Below.refl _ _).alloc (Nat.le_refl _) _, World.ownsRow_lit w #[] 0 (Nat.le_refl _) (by unfold maxLen; omega) rfl, fun _ => ⟨_, _, rfl⟩⟩
    case round =>
      obtain ⟨k, hk, rfl, hb, hown, hnil⟩ := hrel
      have HOWN := Lib.hid hown; have HNIL := Lib.hid hnil; clear hown hnil
      by_cases hlt : k < xs.length
      · obtain ⟨x, b, o, hx, rfl, hbw, hb1, c0, c1, hw⟩ := H.out.cell (Agree.of_below hb lo) hlt
        have HX := Lib.hid hx
        have l1 := txt_len hw.1.1 hw.1.2
        have l2 := txt_len hw.2.1 hw.2.2
        have k0 : (0 : Int) ≤ (k : Int) := by omega
        have k1 : (k : Int) < (xs.length : Int) := by omega
        have L1 : ¬ 9223372036854775807 < (txt x.key).length + 1 := by omega
        have L2 : ¬ 9223372036854775807 < (txt x.key).length + 1 + (txt x.value).length := by omega
        have L3 : ¬ 9223372036854775807 < (txt x.key).length + ((txt x.value).length + 1) := by omega
        have HNB : u3.ownBlock ≠ some b := fun e => by have := own_ge HOWN.out b e; omega
        go_wp2_with fail
        go_region_held3 (fun w' => w'.cell? ⟨b, o + k * 2, none⟩ = some (.int .i64 x.key) ∧ w'.cell? ⟨b, o + k * 2 + 1, none⟩ = some (.int .i64 x.value))
          (first
            | go_keep
            | (go_split_ands
               refine ⟨?_, ?_⟩
               all_goals first
                 | exact (hgrow.cell_far _ (by have q2 := hb2.size; have q3 := hb3.size; simp at q2 q3 ⊢; omega) (Ne.symm HNB)).trans (by assumption)
                 | exact (hb3.cell (by have := hb2.size; simp at this ⊢; omega)).trans (by assumption)
                 | exact (hb2.cell (by simp; omega)).trans (by assumption)))
          (first
            | (go_at_call_of 8 (Value.int .i64 x.key); refine (stext x.key _ hw.1.1 hw.1.2).mono ?_; rintro e w1 ⟨rfl, hb2⟩)
            | (go_at_call_of 8 (Value.int .i64 x.value); refine (stext x.value _ hw.2.1 hw.2.2).mono ?_; rintro e w2 ⟨rfl, hb3⟩)
            | (refine step_append_lies _ (by rfl) _ _ _ (by rfl) w.heap.size 9 i0 _ 1 16 Try.underlying52 hi hz0 hz1 hz2 rfl (by omega) _ k _ (by rfl) ((own_call (own_call HOWN.out.drew hb2) hb3).alloc _)
                  ⟨w2.heap.size, 0, none⟩ 1 1 [.string (bs (txt x.key ++ 61 :: txt x.value))] (by rfl) (by rfl) (World.news_of_block (cs := #[.string (bs (txt x.key ++ 61 :: txt x.value))]) (t := 9) (fr := (0, 0)) (heap_alloc_new w2 _)) (by simp [Value.oneCell'])
                  (by omega) (by unfold maxLen; omega) (by omega) (by have q1 := hb.size; have q2 := hb2.size; have q3 := hb3.size; simp at q1 q2 q3 ⊢; omega) (w2.heap.size + 1) (by simp) ?_; intro gg cap w3 hown1 hgrow hat hlt1))
        go_wp2_with fail
        go_roundw
        case rel =>
          have q1 := hb.size
          have q2 := hb2.size
          have q3 := hb3.size
          simp at q2
          have t1 := hb.drew.trans (hb2.mono hb.size)
          have t2 := t1.trans (hb3.mono (by omega))
          have t3 := (t2.alloc (by omega) (Obj.cells #[Value.string (bs (txt x.key ++ 61 :: txt x.value))] 9)).grown hgrow (by simp; omega) (own_ge HOWN.out)
          exact ⟨k + 1, by omega, by go_num, t3, by rw [take_word HX.out]; exact hown1, fun h => by omega⟩
        case measure => simp [intOf]; omega
      · obtain rfl : k = xs.length := by omega
        by_cases h0 : xs.length = 0
        · obtain ⟨A', c', hv⟩ := HNIL.out h0
          subst hv
          have e : showCells xs = [110, 111, 116, 104, 105, 110, 103] := by unfold showCells; rw [if_pos h0]
          have E := Lib.hid e; clear e
          have H0 := Lib.hid h0; clear h0
          go_wp2_with fail
          refine (sjoin A' c' [] wr (by simp) (by simp) (by simp)).mono ?_
          rintro e w' ⟨rfl, rfl⟩
          go_wp2_with fail
          go_ret
          exact ⟨by rw [E.out]; rfl, hb⟩
        · obtain ⟨g, cap, hv, hle, hcl⟩ := own_form HOWN.out (by omega)
          subst hv
          have e : showCells xs = Lib.join (xs.map word) [32] := by unfold showCells; rw [if_neg h0, if_neg (by omega)]
          have E := Lib.hid e; clear e
          have hl : (xs.map word).length = xs.length := by simp
          have hj := sjoin (some ⟨g, 0, none⟩) cap (xs.map word) wr (by
            intro i y hy
            refine ⟨g, rfl, ?_⟩
            have := hcl i (Value.string (bs y)) (by rw [List.take_of_length_le (by omega)]; unfold strs; rw [List.getElem?_map, hy]; rfl)
            simpa using this) (by omega) (by
            intro l hl
            obtain ⟨x, hx, rfl⟩ := List.mem_map.1 hl
            obtain ⟨i, hi⟩ := List.getElem?_of_mem hx
            exact word_len (SlR.wf H.out hi))
          rw [hl, if_neg h0] at hj
          have HJ := Lib.hid hj
          clear hj hl
          go_wp2_with fail
          refine HJ.out.mono ?_
          rintro e w' ⟨rfl, rfl⟩
          go_wp2_with fail
          go_ret
          exact ⟨by rw [E.out]; rfl, hb⟩
end Go.Proofs.Ytgiihlbljopjkaa
