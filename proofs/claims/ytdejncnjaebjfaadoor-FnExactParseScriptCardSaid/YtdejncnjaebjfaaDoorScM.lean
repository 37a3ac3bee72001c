/-
  Marks on a row of deeds that is one's own: markDeedS, heldDeedS.
-/
import Derived.Test.YtdejncnjaebjfaaDoorScS
import Derived.Test.YtdejncnjaebjfaaDoorTyDeedEq
namespace Go.Proofs.YtdejncnjaebjfaaDoor
set_option linter.unusedVariables false
set_option linter.unusedSimpArgs false
open Go.ChangeShapes Go.WideShapes Go.ChangeAt Go.RowKit

/-- the first q cells of block g bear the numbers from 1 on -/
def Marked (w : World) (g q : Nat) : Prop := ∀ j, j < q → w.cell? ⟨g, j, none⟩ = some (.int .i64 (1 + (j : Int)))
theorem Marked.next {w : World} {g m q : Nat} {t : TypeId} (ho : Own w g t m) (h : Marked w g q) (hq : q < m) : Marked (w.setCell ⟨g, q, none⟩ (.int .i64 (1 + (q : Int)))) g (q + 1) := by
  intro j hj
  by_cases e : j = q
  · subst e; exact cell_set_eq ho hq _
  · rw [cell_set_ne (by omega)]; exact h j (by omega)

theorem marked7 {wr : World} {g q m : Nat} {t : TypeId} (ho : Own wr g t m) (h : Marked wr g (q * 7)) (hq : q * 7 + 7 ≤ m) :
    Marked (((((((wr.setCell ⟨g, q * 7, none⟩ (.int .i64 (1 + (q : Int) * 7))).setCell ⟨g, q * 7 + 1, none⟩ (.int .i64 (1 + (q : Int) * 7 + 1))).setCell ⟨g, q * 7 + 2, none⟩ (.int .i64 (1 + (q : Int) * 7 + 1 + 1))).setCell ⟨g, q * 7 + 3, none⟩ (.int .i64 (1 + (q : Int) * 7 + 1 + 1 + 1))).setCell ⟨g, q * 7 + 4, none⟩ (.int .i64 (1 + (q : Int) * 7 + 1 + 1 + 1 + 1))).setCell ⟨g, q * 7 + 5, none⟩ (.int .i64 (1 + (q : Int) * 7 + 1 + 1 + 1 + 1 + 1))).setCell ⟨g, q * 7 + 6, none⟩ (.int .i64 (1 + (q : Int) * 7 + 1 + 1 + 1 + 1 + 1 + 1))) g ((q + 1) * 7) ∧ Own (((((((wr.setCell ⟨g, q * 7, none⟩ (.int .i64 (1 + (q : Int) * 7))).setCell ⟨g, q * 7 + 1, none⟩ (.int .i64 (1 + (q : Int) * 7 + 1))).setCell ⟨g, q * 7 + 2, none⟩ (.int .i64 (1 + (q : Int) * 7 + 1 + 1))).setCell ⟨g, q * 7 + 3, none⟩ (.int .i64 (1 + (q : Int) * 7 + 1 + 1 + 1))).setCell ⟨g, q * 7 + 4, none⟩ (.int .i64 (1 + (q : Int) * 7 + 1 + 1 + 1 + 1))).setCell ⟨g, q * 7 + 5, none⟩ (.int .i64 (1 + (q : Int) * 7 + 1 + 1 + 1 + 1 + 1))).setCell ⟨g, q * 7 + 6, none⟩ (.int .i64 (1 + (q : Int) * 7 + 1 + 1 + 1 + 1 + 1 + 1))) g t m := by
  have e0 : 1 + (q : Int) * 7 = 1 + ((q * 7 : Nat) : Int) := by omega
  have e1 : 1 + (q : Int) * 7 + 1 = 1 + ((q * 7 + 1 : Nat) : Int) := by omega
  have e2 : 1 + (q : Int) * 7 + 1 + 1 = 1 + ((q * 7 + 2 : Nat) : Int) := by omega
  have e3 : 1 + (q : Int) * 7 + 1 + 1 + 1 = 1 + ((q * 7 + 3 : Nat) : Int) := by omega
  have e4 : 1 + (q : Int) * 7 + 1 + 1 + 1 + 1 = 1 + ((q * 7 + 4 : Nat) : Int) := by omega
  have e5 : 1 + (q : Int) * 7 + 1 + 1 + 1 + 1 + 1 = 1 + ((q * 7 + 5 : Nat) : Int) := by omega
  have e6 : 1 + (q : Int) * 7 + 1 + 1 + 1 + 1 + 1 + 1 = 1 + ((q * 7 + 6 : Nat) : Int) := by omega
  rw [e6, e5, e4, e3, e2, e1, e0]
  have m0 := h.next ho (by omega)
  have o0 := ho.set (q * 7) (.int .i64 (1 + ((q * 7 : Nat) : Int)))
  have m1 := m0.next o0 (by omega)
  have o1 := o0.set (q * 7 + 1) (.int .i64 (1 + ((q * 7 + 1 : Nat) : Int)))
  have m2 := m1.next o1 (by omega)
  have o2 := o1.set (q * 7 + 2) (.int .i64 (1 + ((q * 7 + 2 : Nat) : Int)))
  have m3 := m2.next o2 (by omega)
  have o3 := o2.set (q * 7 + 3) (.int .i64 (1 + ((q * 7 + 3 : Nat) : Int)))
  have m4 := m3.next o3 (by omega)
  have o4 := o3.set (q * 7 + 4) (.int .i64 (1 + ((q * 7 + 4 : Nat) : Int)))
  have m5 := m4.next o4 (by omega)
  have o5 := o4.set (q * 7 + 5) (.int .i64 (1 + ((q * 7 + 5 : Nat) : Int)))
  have m6 := m5.next o5 (by omega)
  have o6 := o5.set (q * 7 + 6) (.int .i64 (1 + ((q * 7 + 6 : Nat) : Int)))
  rw [show (q + 1) * 7 = q * 7 + 7 from by omega]
  exact ⟨m6, o6⟩

set_option maxRecDepth 100000 in
set_option maxHeartbeats 1000000 in
theorem markDeed_nil (w : World) :
    Calls Tryd.prog 13 #[.slice none 0 0, .int .i64 1] w fun e w' => e = .returned (.int .i64 1) ∧ w' = w := by
  go_enter Tryd.func13, Tryd.ntmps13
  go_wp2_with fail
  go_loopw [1, 5] (fun k i wr => k = .int .i64 1 ∧ i = .int .i64 0 ∧ wr = w) (fun _ _ _ => 0)
  case atStart => exact ⟨rfl, rfl, rfl⟩
  case round =>
    obtain ⟨rfl, rfl, rfl⟩ := hrel
    go_wp2_with fail
    go_ret
    exact ⟨rfl, rfl⟩

set_option maxRecDepth 100000 in
set_option maxHeartbeats 1000000 in
theorem markDeed_row (w : World) (g n c : Nat) (t : TypeId) (ho : Own w g t (c * 7)) (hn : n ≤ c) (hn2 : n ≤ 1048576) (hc : c ≤ 9223372036854775807) :
    Calls Tryd.prog 13 #[.slice (some ⟨g, 0, none⟩) n c, .int .i64 1] w fun e w' => e = .returned (.int .i64 (1 + (n * 7 : Nat))) ∧ Marked w' g (n * 7) ∧ Own w' g t (c * 7) ∧ Only g w w' := by
  go_enter Tryd.func13, Tryd.ntmps13
  go_wp2_with fail
  go_loopw [1, 5] (fun k i wr => ∃ q : Nat, q ≤ n ∧ k = .int .i64 (1 + (q * 7 : Nat)) ∧ i = .int .i64 (q : Int) ∧ RowKit.Hid (Marked wr g (q * 7)) ∧ RowKit.Hid (Own wr g t (c * 7)) ∧ RowKit.Hid (Only g w wr)) (fun _ i _ => n - (intOf i).toNat)
  case atStart => exact ⟨0, by omega, rfl, rfl, (fun j hj => absurd hj (by omega) : Marked w g 0), ho, Only.refl g w⟩
  case round =>
    obtain ⟨q, hq, rfl, rfl, hm, hown, honly⟩ := hrel
    by_cases hlt : q < n
    · have hqc : q * 7 + 7 ≤ c * 7 := by omega
      obtain ⟨v0, c0⟩ := hown.out.cell (j := q * 7) (by omega)
      have f0 := hown.out.frozen (q * 7)
      obtain ⟨v1, c1⟩ := hown.out.cell (j := q * 7 + 1) (by omega)
      have f1 := hown.out.frozen (q * 7 + 1)
      obtain ⟨v2, c2⟩ := hown.out.cell (j := q * 7 + 2) (by omega)
      have f2 := hown.out.frozen (q * 7 + 2)
      obtain ⟨v3, c3⟩ := hown.out.cell (j := q * 7 + 3) (by omega)
      have f3 := hown.out.frozen (q * 7 + 3)
      obtain ⟨v4, c4⟩ := hown.out.cell (j := q * 7 + 4) (by omega)
      have f4 := hown.out.frozen (q * 7 + 4)
      obtain ⟨v5, c5⟩ := hown.out.cell (j := q * 7 + 5) (by omega)
      have f5 := hown.out.frozen (q * 7 + 5)
      obtain ⟨v6, c6⟩ := hown.out.cell (j := q * 7 + 6) (by omega)
      have f6 := hown.out.frozen (q * 7 + 6)
      have hgl := hown.out.lt
      go_wp2_with fail
      go_roundw
      case rel =>
        obtain ⟨k1, k2⟩ := marked7 hown.out hm.out hqc
        exact ⟨q + 1, by omega, by go_num, by go_num, k1, k2, ((((((honly.out.setCell _ _).setCell _ _).setCell _ _).setCell _ _).setCell _ _).setCell _ _).setCell _ _⟩
      case measure => simp [intOf] <;> omega
    · obtain rfl : q = n := by omega
      go_wp2_with fail
      go_ret
      exact ⟨rfl, hm.out, hown.out, honly.out⟩

set_option maxRecDepth 100000 in
set_option maxHeartbeats 1000000 in
theorem heldDeed_nil (w : World) :
    Calls Tryd.prog 14 #[.slice none 0 0, .int .i64 1] w fun e w' => e = .returned (.int .i64 1) ∧ w' = w := by
  go_enter Tryd.func14, Tryd.ntmps14
  go_wp2_with fail
  go_loopw [1, 5] (fun k i wr => k = .int .i64 1 ∧ i = .int .i64 0 ∧ wr = w) (fun _ _ _ => 0)
  case atStart => exact ⟨rfl, rfl, rfl⟩
  case round =>
    obtain ⟨rfl, rfl, rfl⟩ := hrel
    go_wp2_with fail
    go_ret
    exact ⟨rfl, rfl⟩

set_option maxRecDepth 100000 in
set_option maxHeartbeats 1000000 in
theorem heldDeed_row (w : World) (g n c : Nat) (hm : Marked w g (n * 7)) (hn2 : n ≤ 1048576) :
    Calls Tryd.prog 14 #[.slice (some ⟨g, 0, none⟩) n c, .int .i64 1] w fun e w' => e = .returned (.int .i64 (1 + (n * 7 : Nat))) ∧ w' = w := by
  have HM := Lib.hid hm; clear hm
  go_enter Tryd.func14, Tryd.ntmps14
  go_wp2_with fail
  go_loopw [1, 5] (fun k i wr => ∃ q : Nat, q ≤ n ∧ k = .int .i64 (1 + (q * 7 : Nat)) ∧ i = .int .i64 (q : Int) ∧ wr = w) (fun _ i _ => n - (intOf i).toNat)
  case atStart => exact ⟨0, by omega, rfl, rfl, rfl⟩
  case round =>
    obtain ⟨q, hq, rfl, rfl, rfl⟩ := hrel
    by_cases hlt : q < n
    · have c0 : wr.cell? ⟨g, q * 7, none⟩ = some (.int .i64 (1 + (q : Int) * 7)) := by rw [HM.out (q * 7) (by omega)]; congr 2
      have c1 : wr.cell? ⟨g, q * 7 + 1, none⟩ = some (.int .i64 (1 + (q : Int) * 7 + 1)) := by rw [HM.out (q * 7 + 1) (by omega)]; congr 2
      have c2 : wr.cell? ⟨g, q * 7 + 2, none⟩ = some (.int .i64 (1 + (q : Int) * 7 + 1 + 1)) := by rw [HM.out (q * 7 + 2) (by omega)]; congr 2
      have c3 : wr.cell? ⟨g, q * 7 + 3, none⟩ = some (.int .i64 (1 + (q : Int) * 7 + 1 + 1 + 1)) := by rw [HM.out (q * 7 + 3) (by omega)]; congr 2
      have c4 : wr.cell? ⟨g, q * 7 + 4, none⟩ = some (.int .i64 (1 + (q : Int) * 7 + 1 + 1 + 1 + 1)) := by rw [HM.out (q * 7 + 4) (by omega)]; congr 2
      have c5 : wr.cell? ⟨g, q * 7 + 5, none⟩ = some (.int .i64 (1 + (q : Int) * 7 + 1 + 1 + 1 + 1 + 1)) := by rw [HM.out (q * 7 + 5) (by omega)]; congr 2
      have c6 : wr.cell? ⟨g, q * 7 + 6, none⟩ = some (.int .i64 (1 + (q : Int) * 7 + 1 + 1 + 1 + 1 + 1 + 1)) := by rw [HM.out (q * 7 + 6) (by omega)]; congr 2
      have hgl := cell_lt c0
      go_wp2_with fail
      go_roundw
      case rel => exact ⟨q + 1, by omega, by go_num, by go_num, trivial⟩
      case measure => simp [intOf] <;> omega
    · obtain rfl : q = n := by omega
      go_wp2_with fail
      go_ret
      exact ⟨rfl, rfl⟩

/-- a slice whose rows bear the marks -/
def MarkedV (w : World) (v : Value) (n : Nat) : Prop := (v = .slice none 0 0 ∧ n = 0) ∨ ∃ g c, v = .slice (some ⟨g, 0, none⟩) n c ∧ Marked w g (n * 7)
theorem MarkedV.keep {w w' : World} {v : Value} {n : Nat} (h : MarkedV w v n) (hb : Below w.heap.size w w') : MarkedV w' v n := by
  rcases h with h | ⟨g, c, rfl, hm⟩
  · exact .inl h
  · exact .inr ⟨g, c, rfl, fun j hj => (hb.cell (p := ⟨g, j, none⟩) (cell_lt (hm j hj))).trans (hm j hj)⟩
theorem mark_own {w : World} {base n : Nat} {v : Value} {xs : List Value} (h : w.ownsRow base 23 7 v n xs) (hn : n ≤ 1048576) (hbase : base ≤ w.heap.size) :
    Calls Tryd.prog 13 #[v, .int .i64 1] w fun e w' => e = .returned (.int .i64 (1 + (n * 7 : Nat))) ∧ MarkedV w' v n ∧ Below base w w' := by
  rcases h.2 with ⟨rfl, h0⟩ | ⟨g, cap, cur, rfl, hb, hh, h1, h2, h3, h4⟩
  · subst h0
    refine (markDeed_nil w).mono ?_
    rintro e w' ⟨rfl, rfl⟩
    exact ⟨rfl, .inl ⟨rfl, rfl⟩, Below.refl _ _⟩
  · have hc : cap ≤ 9223372036854775807 := by unfold maxLen at h2; omega
    refine (markDeed_row w g n cap 23 ⟨cur, hh, h3⟩ h1 hn hc).mono ?_
    rintro e w' ⟨rfl, hm, _, ho⟩
    exact ⟨rfl, .inr ⟨g, cap, rfl, hm⟩, ho.below hb hbase⟩
theorem held_own {w : World} {n : Nat} {v : Value} (h : MarkedV w v n) (hn : n ≤ 1048576) :
    Calls Tryd.prog 14 #[v, .int .i64 1] w fun e w' => e = .returned (.int .i64 (1 + (n * 7 : Nat))) ∧ w' = w := by
  rcases h with ⟨rfl, rfl⟩ | ⟨g, c, rfl, hm⟩
  · exact heldDeed_nil w
  · exact heldDeed_row w g n c hm hn
end Go.Proofs.YtdejncnjaebjfaaDoor
