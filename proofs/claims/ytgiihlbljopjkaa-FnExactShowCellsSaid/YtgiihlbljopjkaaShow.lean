/-
  ShowCells of the program and of the reference: the words of the cells, joined.
-/
import Derived.Test.YtgiihlbljopjkaaCell
import Derived.Test.YtgiihlbljopjkaaText
import Derived.Test.YtgiihlbljopjkaaShelf
import Derived.Deep.AppendLies
import Derived.OwnWalk
namespace Go.Proofs.Ytgiihlbljopjkaa
open Go.ChangeShapes Go.WideShapes Go.ChangeAt Go.RowKit

def word (x : Cell) : List UInt8 := txt x.key ++ 61 :: txt x.value
def strs (l : List (List UInt8)) : List Value := l.map fun x => Value.string (bs x)
def showCells (xs : List Cell) : List UInt8 := if xs.length = 0 then [110, 111, 116, 104, 105, 110, 103] else if 1000 < xs.length then [] else Lib.join (xs.map word) [32]

theorem word_len {x : Cell} (h : x.wf) : (word x).length ≤ 41 := by
  have h1 := txt_len h.1.1 h.1.2
  have h2 := txt_len h.2.1 h.2.2
  unfold word; simp; omega

theorem info_string : (Try.prog.info? 9).map (fun i => (i.zero, i.size, i.bytes)) = some (some (.string ⟨#[]⟩), 1, 16) := by kernel_rfl

theorem take_word {xs : List Cell} {k : Nat} {x : Cell} (h : xs[k]? = some x) : strs ((xs.map word).take (k + 1)) = strs ((xs.map word).take k) ++ [Value.string (bs (txt x.key ++ 61 :: txt x.value))] := by
  have h1 : (xs.map word)[k]? = some (word x) := by rw [List.getElem?_map, h]; rfl
  rw [List.take_add_one, h1]
  simp [strs, word]

theorem join_len (l : List (List UInt8)) (m : Nat) (h : ∀ x ∈ l, x.length ≤ m) : (Lib.join l [32]).length ≤ l.length * (m + 1) := by
  cases l with
  | nil => simp [Lib.join_nil]
  | cons y r =>
    rw [Lib.join_cons]
    have h1 := h y (by simp)
    have h2 : (Lib.joinTail [32] r).length ≤ r.length * (m + 1) := by
      have hr : ∀ x ∈ r, x.length ≤ m := fun x hx => h x (by simp [hx])
      clear h h1
      induction r with
      | nil => simp [Lib.joinTail]
      | cons z t ih =>
        have := ih (fun x hx => hr x (by simp [hx]))
        have hz := hr z (by simp)
        unfold Lib.joinTail at this ⊢
        simp only [List.map_cons, List.flatten_cons, List.length_append, List.length_cons, List.length_nil] at this ⊢
        rw [Nat.add_mul, Nat.one_mul]
        omega
    rw [List.length_append, List.length_cons, Nat.add_mul, Nat.one_mul]
    omega

theorem SlR.wf {lo : Nat} {w : World} {v : Value} {xs : List Cell} (h : SlR 2 RCell lo w v xs) {i : Nat} {x : Cell} (hi : xs[i]? = some x) : x.wf := by
  obtain ⟨A, c, e, h1, h2, h3⟩ := h
  obtain ⟨b, o, cs, _, _, _, _, hr⟩ := h3 i x hi
  exact hr.2

theorem own_form {w : World} {base : Nat} {e : TypeId} {size : Nat} {v : Value} {n : Nat} {xs : List Value} (h : w.ownsRow base e size v n xs) (hn : 0 < n) :
    ∃ g cap, v = .slice (some ⟨g, 0, none⟩) n cap ∧ n ≤ cap ∧ CellsAt w g 0 xs := by
  rcases h.2 with ⟨_, h0⟩ | ⟨g, cap, cur, rfl, hb, hh, h1, h2, h3, h4⟩
  · omega
  · refine ⟨g, cap, rfl, h1, fun j u hu => ?_⟩
    have hj := (List.getElem?_eq_some_iff.1 hu).1
    rw [h.1] at hj
    rw [Nat.zero_add, World.ownsRow.cellAt h j hj]
    exact hu

theorem join_any (l : List (List UInt8)) (sep : List UInt8) (g n cap : Nat) (w : World) (hn : l.length = n) (h0 : 0 < n) (hc : n ≤ cap) (hcl : CellsAt w g 0 (strs (l.take n))) (hlen : (Lib.join l sep).length ≤ 140737488355328) (hN : n ≤ 1048576 := by omega) :
    Calls Try.prog 30 #[.slice (some ⟨g, 0, none⟩) n cap, .string (bs sep)] w fun e w' => e = .returned (.string (bs (Lib.join l sep))) ∧ Below w.heap.size w w' := by
  subst hn
  rw [List.take_of_length_le (Nat.le_refl _)] at hcl
  have hd : ∀ l : List (List UInt8), (l.map bs).map (fun x : ByteArray => x.data.toList) = l := by
    intro l
    induction l with
    | nil => rfl
    | cons x t ih => simp only [List.map_cons, ih]; congr 1
  have hs : (bs sep).data.toList = sep := by simp [bs]
  have h := Try.strings_Join g 0 cap (l.map bs) (bs sep) w (by
      intro j x hx
      rw [List.getElem?_map] at hx
      cases hy : l[j]? with
      | none => rw [hy] at hx; simp at hx
      | some y =>
        rw [hy] at hx
        simp at hx
        subst hx
        exact hcl j _ (by unfold strs; rw [List.getElem?_map, hy]; rfl)) (by
      cases l with
      | nil => simp at h0
      | cons y r => exact cell_lt (hcl 0 (Value.string (bs y)) rfl)) (by rw [List.length_map]; omega) (by rw [List.length_map]; exact hc) (by rw [hd, hs]; exact hlen)
  rw [hd, hs, List.length_map] at h
  exact h

theorem ishow (A : Option Addr) (c : Nat) (xs : List Cell) (w : World) (lo : Nat) (h : SlR 2 RCell lo w (.slice A xs.length c) xs) (hn : xs.length ≤ 1048576) :
    Calls Try.prog 18 #[.slice A xs.length c] w fun e w' => e = .returned (.string (bs (showCells xs))) ∧ Below w.heap.size w w' := by
  have H := Lib.hid h; clear h
  by_cases h0 : xs.length = 0
  · have hz : ((xs.length : Int) == 0) = true := by rw [h0]; rfl
    have e : showCells xs = [110, 111, 116, 104, 105, 110, 103] := by unfold showCells; rw [if_pos h0]
    have E := Lib.hid e; clear e h0
    go_enter Try.func18, Try.ntmps18
    go_wp2_with fail
    go_ret
    exact ⟨by rw [E.out]; rfl, Below.refl _ _⟩
  · have hz : ((xs.length : Int) == 0) = false := by rw [beq_eq_false_iff_ne]; omega
    by_cases h1 : (xs.length : Int) > 1000
    · have e : showCells xs = [] := by unfold showCells; rw [if_neg h0, if_pos (by omega)]
      have E := Lib.hid e; clear e h0
      go_enter Try.func18, Try.ntmps18
      go_wp2_with fail
      go_ret
      exact ⟨by rw [E.out]; rfl, Below.refl _ _⟩
    · obtain ⟨i0, hi, hz0, hz1, hz2⟩ := info_parts info_string
      go_enter Try.func18, Try.ntmps18
      go_wp2_with fail
      go_loopw [3, 17] (fun v i wr => ∃ k : Nat, k ≤ xs.length ∧ i = .int .i64 (k : Int) ∧ Below w.heap.size w wr ∧ wr.ownsRow w.heap.size 9 1 v k (strs ((xs.map word).take k))) (fun _ i _ => xs.length - (intOf i).toNat)
      case atStart => exact ⟨0, by omega, rfl, (Below.refl _ _).alloc (Nat.le_refl _) _, World.ownsRow_lit w #[] 0 (Nat.le_refl _) (by unfold maxLen; omega) rfl⟩
      case round =>
        obtain ⟨k, hk, rfl, hb, hown⟩ := hrel
        have HOWN := Lib.hid hown; clear hown
        by_cases hlt : k < xs.length
        · obtain ⟨x, b, o, hx, rfl, _, hb1, c0, c1, hw⟩ := H.out.cell (Agree.of_below hb lo) hlt
          have HX := Lib.hid hx
          have l1 := txt_len hw.1.1 hw.1.2
          have l2 := txt_len hw.2.1 hw.2.2
          go_wp2_with fail
          have L1 : ¬ 9223372036854775807 < (txt x.key).length + 1 := by omega
          have L2 : ¬ 9223372036854775807 < (txt x.key).length + 1 + (txt x.value).length := by omega
          have L3 : ¬ 9223372036854775807 < (txt x.key).length + ((txt x.value).length + 1) := by omega
          have HNE := own_ne HOWN.out
          go_region_held3 (fun w' => w'.cell? ⟨wr.heap.size, 0, none⟩ = some (.int .i64 x.key) ∧ w'.cell? ⟨wr.heap.size, 1, none⟩ = some (.int .i64 x.value))
            (first
              | go_keep
              | (go_split_ands
                 refine ⟨?_, ?_⟩
                 · (rw [hgrow.cell_far _ (by simp; omega) (Ne.symm HNE)]; simp)
                 · (rw [hgrow.cell_far _ (by simp; omega) (Ne.symm HNE)]; simp)))
            (first
              | (go_at_call_of 9 (Value.int .i64 x.key); refine (itext x.key _ hw.1.1 hw.1.2).mono ?_; rintro e w' ⟨rfl, rfl⟩)
              | (go_at_call_of 9 (Value.int .i64 x.value); refine (itext x.value _ hw.2.1 hw.2.2).mono ?_; rintro e w' ⟨rfl, rfl⟩)
              | (refine step_append_lies _ (by rfl) _ _ _ (by rfl) w.heap.size 9 i0 _ 1 16 Try.underlying52 hi hz0 hz1 hz2 rfl (by omega) _ k _ (by rfl) (((HOWN.out.alloc _).alloc _).drew)
                  ⟨wr.heap.size + 1, 0, none⟩ 1 1 [.string (bs (txt x.key ++ 61 :: txt x.value))] (by rfl) (by rfl) (World.news_of_block (cs := #[.string (bs (txt x.key ++ 61 :: txt x.value))]) (t := 9) (fr := (0, 0)) (heap_alloc2 wr _ _)) (by simp [Value.oneCell'])
                  (by omega) (by unfold maxLen; omega) (by omega) (by have := hb.size; simp; omega) (wr.heap.size + 2) (by simp) ?_; intro gg cap w1 hown1 hgrow hat hlt1))
          go_wp2_with fail
          go_roundw
          case rel =>
            refine ⟨k + 1, by omega, by go_num, ?_, ?_⟩
            · exact ((((hb.alloc hb.size _).alloc (by have := hb.size; simp; omega) _).drew).grown hgrow (by have := hb.size; simp; omega) (own_ge HOWN.out))
            · rw [take_word HX.out]
              exact hown1
          case measure => simp [intOf]; omega
        · obtain rfl : k = xs.length := by omega
          have e : showCells xs = Lib.join (xs.map word) [32] := by unfold showCells; rw [if_neg h0, if_neg (by omega)]
          have E := Lib.hid e; clear e
          obtain ⟨g, cap, hv, hle, hcl⟩ := own_form HOWN.out (by omega)
          subst hv
          have hlen : (Lib.join (xs.map word) [32]).length ≤ 140737488355328 := by
            have := join_len (xs.map word) 41 (by
              intro l hl
              obtain ⟨x, hx, rfl⟩ := List.mem_map.1 hl
              obtain ⟨i, hi⟩ := List.getElem?_of_mem hx
              exact word_len (SlR.wf H.out hi))
            rw [List.length_map] at this
            omega
          have hL := Lib.hid hlen; clear hlen
          go_wp2_with fail
          refine (join_any (xs.map word) [32] g xs.length cap _ (by simp) (by omega) (by omega) hcl hL.out).mono ?_
          rintro e w1 ⟨rfl, hb1⟩
          go_wp2_with fail
          go_ret
          exact ⟨by rw [E.out]; rfl, hb.trans (hb1.mono hb.size)⟩
end Go.Proofs.Ytgiihlbljopjkaa
