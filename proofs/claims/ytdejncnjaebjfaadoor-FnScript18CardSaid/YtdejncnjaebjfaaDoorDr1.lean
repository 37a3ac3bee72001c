/-
  Contracts of small drawing functions.
-/
import Derived.Test.YtdejncnjaebjfaaDoorDrawD
import Derived.Test.YtdejncnjaebjfaaDoorTyDeed
namespace Go.Proofs.YtdejncnjaebjfaaDoor
set_option linter.unusedVariables false
set_option linter.unusedSimpArgs false
open Go.ChangeShapes Go.WideShapes Go.ChangeAt Go.RowKit

theorem CurAt.set {B g : Nat} {w : World} (h : CurAt B w g) {p : Addr} (hg : p.block ≠ g) (hB : B ≤ p.block) (u : Value) : CurAt B (w.setCell p u) g := by
  obtain ⟨h0, A, n, c, i, x, hk, hn, hy⟩ := h
  refine ⟨h0, A, n, c, i, x, hk.keep (Below.heap_setCell w p u g (fun e => hg e.symm)), hn, fun k hk' => ?_⟩
  obtain ⟨ad, b, e, h1, h2, h3⟩ := hy k hk'
  exact ⟨ad, b, e, h1, (World.cell?_setCell_other w _ _ u (fun e => by have := congrArg Addr.block e; rw [block_add] at this; omega)).trans h2, h3⟩
theorem CurAt.only {B g g' : Nat} {w w' : World} (h : CurAt B w g) (ho : Only g' w w') (hg : g ≠ g') (hB : B ≤ g') : CurAt B w' g := by
  have hlt := h.lt
  obtain ⟨h0, A, n, c, i, x, hk, hn, hy⟩ := h
  refine ⟨h0, A, n, c, i, x, hk.keep (ho.block g hlt (by intro e; injection e with e; omega)), hn, hy.keep (ho.below hB (by omega))⟩

theorem once_any (B g : Nat) (n : Int) (w : World) (hc : CurAt B w g) :
    Calls Tryd.prog 38 #[.pointer (some ⟨g, 0, none⟩), .int .i64 n] w fun e w' => ∃ b : Bool, e = .returned (.bool b) ∧ CurAt B w' g ∧ Only g w w' := by
  have HC := Lib.hid hc; clear hc
  go_enter Tryd.func38, Tryd.ntmps38
  go_wp2_with fail
  refine (below_any B g n w HC.out).mono ?_
  rintro e w1 ⟨x, rfl, _, hc1, ho1⟩
  go_wp2_with fail
  go_ret
  exact ⟨_, rfl, hc1, ho1⟩
theorem max_is (a b : Int) (w : World) :
    Calls Tryd.prog 70 #[.int .i64 a, .int .i64 b] w fun e w' => e = .returned (.int .i64 (if b < a then a else b)) ∧ w' = w := by
  by_cases h : b < a
  · rw [if_pos h]
    go_enter Tryd.func70, Tryd.ntmps70
    go_wp2_with fail
    go_ret
    exact ⟨rfl, rfl⟩
  · rw [if_neg h]
    go_enter Tryd.func70, Tryd.ntmps70
    go_wp2_with fail
    go_ret
    exact ⟨rfl, rfl⟩
theorem min_is (a b : Int) (w : World) :
    Calls Tryd.prog 63 #[.int .i64 a, .int .i64 b] w fun e w' => e = .returned (.int .i64 (if a < b then a else b)) ∧ w' = w := by
  by_cases h : a < b
  · rw [if_pos h]
    go_enter Tryd.func63, Tryd.ntmps63
    go_wp2_with fail
    go_ret
    exact ⟨rfl, rfl⟩
  · rw [if_neg h]
    go_enter Tryd.func63, Tryd.ntmps63
    go_wp2_with fail
    go_ret
    exact ⟨rfl, rfl⟩
theorem soon_any (B g : Nat) (n : Int) (w : World) (hc : CurAt B w g) (hn : 1 ≤ n ∧ n ≤ 1000) :
    Calls Tryd.prog 72 #[.pointer (some ⟨g, 0, none⟩), .int .i64 n] w (Drawn B g w fun x => 0 ≤ x ∧ x ≤ 1000) := by
  have HC := Lib.hid hc; clear hc
  go_enter Tryd.func72, Tryd.ntmps72
  go_wp2_with fail
  refine (once_any B g 3 w HC.out).mono ?_
  rintro e w1 ⟨b, rfl, hc1, ho1⟩
  have HC1 := Lib.hid hc1; have HO1 := Lib.hid ho1; clear hc1 ho1
  cases b with
  | true =>
    go_wp2_with fail
    refine (below_any B g n w1 HC1.out).mono ?_
    rintro e w2 ⟨x, rfl, ⟨h0, _, h1⟩, hc2, ho2⟩
    go_wp2_with fail
    go_ret
    exact ⟨_, rfl, ⟨h0, by have := h1 (by omega); omega⟩, hc2, HO1.out.trans ho2⟩
  | false =>
    by_cases h3 : n < 3
    · have hmin := min_is n 3 w1
      rw [if_pos h3] at hmin
      go_wp2_with fail
      refine hmin.mono ?_
      rintro e w2 ⟨rfl, rfl⟩
      go_wp2_with fail
      refine (below_any B g _ w2 HC1.out).mono ?_
      rintro e w3 ⟨x, rfl, ⟨h0, _, h1⟩, hc2, ho2⟩
      go_wp2_with fail
      go_ret
      exact ⟨_, rfl, ⟨h0, by have := h1 (by omega); omega⟩, hc2, HO1.out.trans ho2⟩
    · have hmin := min_is n 3 w1
      rw [if_neg h3] at hmin
      go_wp2_with fail
      refine hmin.mono ?_
      rintro e w2 ⟨rfl, rfl⟩
      go_wp2_with fail
      refine (below_any B g _ w2 HC1.out).mono ?_
      rintro e w3 ⟨x, rfl, ⟨h0, _, h1⟩, hc2, ho2⟩
      go_wp2_with fail
      go_ret
      exact ⟨_, rfl, ⟨h0, by have := h1 (by omega); omega⟩, hc2, HO1.out.trans ho2⟩
theorem partat_nil (A : Option Addr) (c : Nat) (k : Int) (w : World) :
    Calls Tryd.prog 82 #[.slice A 0 c, .int .i64 k] w fun e w' => e = .returned (.int .i64 (-1)) ∧ w' = w := by
  go_enter Tryd.func82, Tryd.ntmps82
  go_wp2_with fail
  go_loopw [5] (fun i wr => i = .int .i64 0 ∧ wr = w) (fun _ _ => 0)
  case atStart => exact ⟨rfl, rfl⟩
  case round =>
    obtain ⟨rfl, rfl⟩ := hrel
    go_wp2_with fail
    go_ret
    exact ⟨rfl, rfl⟩
theorem near_nil (B g : Nat) (A : Option Addr) (c : Nat) (w : World) (hc : CurAt B w g) :
    Calls Tryd.prog 71 #[.pointer (some ⟨g, 0, none⟩), .slice A 0 c] w fun e w' => ∃ x y : Int, e = .returned (.tuple #[.int .i64 x, .int .i64 y]) ∧ (0 ≤ x ∧ x ≤ 40 ∧ 0 ≤ y ∧ y ≤ 40) ∧ CurAt B w' g ∧ Only g w w' := by
  have HC := Lib.hid hc; clear hc
  go_enter Tryd.func71, Tryd.ntmps71
  go_wp2_with fail
  refine (below_any B g 35 w HC.out).mono ?_
  rintro e w1 ⟨x, rfl, ⟨h0, _, h1⟩, hc1, ho1⟩
  have h2 := h1 (by omega)
  have HC1 := Lib.hid hc1; have HO1 := Lib.hid ho1; clear hc1 ho1 h1
  go_wp2_with fail
  refine (partat_nil A c x w1).mono ?_
  rintro e w2 ⟨rfl, rfl⟩
  go_wp2_with fail
  go_ret2
  exact ⟨_, _, rfl, ⟨h0, by omega, by omega, by omega⟩, HC1.out, HO1.out⟩
end Go.Proofs.YtdejncnjaebjfaaDoor
