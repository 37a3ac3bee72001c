/-
  Deed: the Lean data of these structs, how cells read as them, and what the laws' helpers on them do. Written by gen.py.
-/
import Derived.Test.YtdejncnjaebjfaaDoorTyDeed
namespace Go.Proofs.YtdejncnjaebjfaaDoor
set_option linter.unusedSimpArgs false
open Go.ChangeShapes Go.WideShapes Go.ChangeAt Go.RowKit
set_option linter.unusedVariables false

set_option maxRecDepth 100000 in
set_option maxHeartbeats 1000000 in
theorem eqDeed_same (x : MDeed) (w : World) :
    Calls Tryd.prog 9 #[.agg #[.int .i64 x.kind, .int .i64 x.at_, .int .i64 x.to, .int .i64 x.lo, .int .i64 x.hi, .int .i64 x.key, .int .i64 x.value], .agg #[.int .i64 x.kind, .int .i64 x.at_, .int .i64 x.to, .int .i64 x.lo, .int .i64 x.hi, .int .i64 x.key, .int .i64 x.value]] w fun e w' => e = .returned (.bool true) ∧ Below w.heap.size w w' := by
  go_enter Tryd.func9, Tryd.ntmps9
  go_wp2_with fail
  go_ret
  exact ⟨rfl, (by repeat (first | assumption | exact Below.refl _ _ | refine Below.alloc ?_ (by first | omega | (simp; done) | (simp; omega)) _ | refine Below.setCell ?_ (by first | omega | (simp; done) | (simp; omega)) _ | refine Below.drew ?_))⟩

set_option maxRecDepth 100000 in
set_option maxHeartbeats 1000000 in
theorem eqDeedS_same (A A' : Option Addr) (c c' : Nat) (xs : List MDeed) (w : World) (lo lo' : Nat) (h : SlR 7 RDeed lo w (.slice A xs.length c) xs) (h' : SlR 7 RDeed lo' w (.slice A' xs.length c') xs) (hn : xs.length ≤ 1048576) :
    Calls Tryd.prog 12 #[.slice A xs.length c, .slice A' xs.length c'] w fun e w' => e = .returned (.bool true) ∧ Below w.heap.size w w' := by
  have H := Lib.hid h; clear h
  have H' := Lib.hid h'; clear h'
  go_enter Tryd.func12, Tryd.ntmps12
  go_wp2_with fail
  go_loopw [5] (fun i wr => ∃ k : Nat, k ≤ xs.length ∧ i = .int .i64 (k : Int) ∧ Below w.heap.size w wr) (fun i _ => xs.length - (intOf i).toNat)
  case atStart => exact ⟨0, by omega, rfl, Below.refl _ _⟩
  case round =>
    obtain ⟨k, hk, rfl, hb⟩ := hrel
    by_cases hlt : k < xs.length
    · obtain ⟨x, b, o, hx, rfl, _, _, hb1, g0, g1, g2, g3, g4, g5, g6, hw⟩ := H.out.getDeed (Agree.of_below hb lo) hlt
      obtain ⟨x', b', o', hx', rfl, _, _, hb1', g0', g1', g2', g3', g4', g5', g6', hw'⟩ := H'.out.getDeed (Agree.of_below hb lo') hlt
      obtain rfl : x = x' := by rw [hx] at hx'; injection hx'
      clear hx hx' hw hw'
      go_wp2_with fail
      go_still_tail 8, (by kernel_rfl)
      go_wp2_with fail
      refine (eqDeed_same x wr.drew).mono ?_
      rintro e w1 ⟨rfl, hb2⟩
      go_wp2_with fail
      go_roundw
      case rel => exact ⟨k + 1, by omega, by go_num, hb.drew.trans (hb2.mono hb.size)⟩
      case measure => simp [intOf]; omega
    · go_wp2_with fail
      go_ret
      exact ⟨rfl, hb⟩

end Go.Proofs.YtdejncnjaebjfaaDoor
