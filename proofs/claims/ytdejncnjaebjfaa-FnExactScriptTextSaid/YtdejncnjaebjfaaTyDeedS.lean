/-
  Deed: the Lean data of these structs, how cells read as them, and what the laws' helpers on them do. Written by gen.py.
-/
import Derived.Test.YtdejncnjaebjfaaTyDeed
namespace Go.Proofs.Ytdejncnjaebjfaa
open Go.ChangeShapes Go.WideShapes Go.ChangeAt Go.RowKit
set_option linter.unusedVariables false

theorem szDeedS_any (A : Option Addr) (c n : Nat) (left : Int) (w : World) (h0 : 0 ≤ left) (h1 : left ≤ 1048576) (hn : (n : Int) ≤ 9223372036854775807) :
    Calls Try.prog 12 #[.slice A n c, .int .i64 left] w fun e w' => ∃ r : Int, e = .returned (.int .i64 r) ∧ r ≤ left ∧ -1 ≤ r ∧ (0 ≤ r → n ≤ 1048576) ∧ w = w' := by
  by_cases h : left - (n : Int) < 0
  · go_enter Try.func12, Try.ntmps12
    go_wp2_with fail
    go_ret
    exact ⟨_, rfl, by omega, by omega, fun h => by omega, rfl⟩
  · go_enter Try.func12, Try.ntmps12
    go_wp2_with fail
    go_ret
    exact ⟨_, rfl, by omega, by omega, fun h => by omega, rfl⟩

theorem info_impl_Deed : (Try.prog.info? 26).map (fun i => (i.zero, i.size, i.bytes)) = some (some (.agg #[.int .i64 0, .int .i64 0, .int .i64 0, .int .i64 0, .int .i64 0, .int .i64 0, .int .i64 0]), 7, 56) := by kernel_rfl
set_option maxHeartbeats 1000000 in
theorem toDeedS_any (A : Option Addr) (c : Nat) (xs : List MDeed) (w : World) (lo : Nat) (h : SlR 7 RDeed lo w (.slice A xs.length c) xs) (hn : xs.length ≤ 1048576) :
    Calls Try.prog 14 #[.slice A xs.length c] w fun e w' => ∃ v, e = .returned v ∧ SlR 7 RDeed w.heap.size w' v xs ∧ Below w.heap.size w w' := by
  have H := Lib.hid h; clear h
  obtain ⟨i0, hi, hz0, hz1, hz2⟩ := info_parts info_impl_Deed
  have hmk := make_at (P := Try.prog) 32 26 i0 _ Try.underlying32 hi hz0 xs.length (by rw [hz2]; omega) (by omega)
  rw [hz1] at hmk
  have hsz : (madeCells (Value.agg #[.int .i64 0, .int .i64 0, .int .i64 0, .int .i64 0, .int .i64 0, .int .i64 0, .int .i64 0]).cells (xs.length * 7)).size = xs.length * 7 := size_madeCells _ _
  generalize madeCells (Value.agg #[.int .i64 0, .int .i64 0, .int .i64 0, .int .i64 0, .int .i64 0, .int .i64 0, .int .i64 0]).cells (xs.length * 7) = mc at hmk hsz
  have HS := Lib.hid hsz
  clear hsz hz0 hz1 hz2 hi
  go_enter Try.func14, Try.ntmps14
  go_wp2_with fail
  go_loopw [4] (fun i wr => ∃ k : Nat, k ≤ xs.length ∧ i = .int .i64 (k : Int) ∧ Below w.heap.size w wr ∧ Laid 7 RDeed w.heap.size 26 xs.length wr k xs) (fun i _ => xs.length - (intOf i).toNat)
  case atStart => exact ⟨0, by omega, rfl, (Below.refl _ _).alloc (Nat.le_refl _) _, Laid.start w _ _ _ HS.out xs⟩
  case round =>
    obtain ⟨k, hk, rfl, hb, hl⟩ := hrel
    have HL := Lib.hid hl; clear hl
    by_cases hlt : k < xs.length
    · obtain ⟨x, b, o, hx, rfl, _, _, hb1, g0, g1, g2, g3, g4, g5, g6, hw⟩ := H.out.getDeed (Agree.of_below hb lo) hlt
      have HX := Lib.hid hx; have HW := Lib.hid hw; clear hw
      clear hx
      go_wp2_with fail
      refine (toDeed_any x wr).mono ?_
      rintro e w1 ⟨rfl, hb2⟩
      have ho := HL.out.1.call hb2
      obtain ⟨z0, q0⟩ := ho.cell (j := k * 7) (by omega)
      have f0 := ho.frozen (k * 7)
      obtain ⟨z1, q1⟩ := ho.cell (j := k * 7 + 1) (by omega)
      have f1 := ho.frozen (k * 7 + 1)
      obtain ⟨z2, q2⟩ := ho.cell (j := k * 7 + 2) (by omega)
      have f2 := ho.frozen (k * 7 + 2)
      obtain ⟨z3, q3⟩ := ho.cell (j := k * 7 + 3) (by omega)
      have f3 := ho.frozen (k * 7 + 3)
      obtain ⟨z4, q4⟩ := ho.cell (j := k * 7 + 4) (by omega)
      have f4 := ho.frozen (k * 7 + 4)
      obtain ⟨z5, q5⟩ := ho.cell (j := k * 7 + 5) (by omega)
      have f5 := ho.frozen (k * 7 + 5)
      obtain ⟨z6, q6⟩ := ho.cell (j := k * 7 + 6) (by omega)
      have f6 := ho.frozen (k * 7 + 6)
      have HB2 := Lib.hid hb2; have HO := Lib.hid ho; clear hb2 ho
      go_wp2_with fail
      go_roundw
      case rel =>
        have hb3 := hb.trans (HB2.out.mono hb.size)
        refine ⟨k + 1, by omega, by go_num, hb3.trans ((setRow_only w.heap.size [Value.int .i64 x.kind, .int .i64 x.at_, .int .i64 x.to, .int .i64 x.lo, .int .i64 x.hi, .int .i64 x.key, .int .i64 x.value] w1 (k * 7)).below (Nat.le_refl _) hb3.size), ?_⟩
        exact HL.out.next RDeed.ok HB2.out HX.out (cs := [Value.int .i64 x.kind, .int .i64 x.at_, .int .i64 x.to, .int .i64 x.lo, .int .i64 x.hi, .int .i64 x.key, .int .i64 x.value]) rfl ⟨rfl, HW.out⟩ hlt
      case measure => simp [intOf]; omega
    · obtain rfl : k = xs.length := by omega
      go_wp2_with fail
      go_ret
      exact ⟨_, rfl, HL.out.done RDeed.ok (Nat.le_refl _) (by omega), hb⟩

set_option maxRecDepth 100000 in
set_option maxHeartbeats 1000000 in
theorem eqDeed_same (x : MDeed) (w : World) :
    Calls Try.prog 43 #[.agg #[.int .i64 x.kind, .int .i64 x.at_, .int .i64 x.to, .int .i64 x.lo, .int .i64 x.hi, .int .i64 x.key, .int .i64 x.value], .agg #[.int .i64 x.kind, .int .i64 x.at_, .int .i64 x.to, .int .i64 x.lo, .int .i64 x.hi, .int .i64 x.key, .int .i64 x.value]] w fun e w' => e = .returned (.bool true) ∧ Below w.heap.size w w' := by
  go_enter Try.func43, Try.ntmps43
  go_wp2_with fail
  go_ret
  exact ⟨rfl, (by repeat (first | assumption | exact Below.refl _ _ | refine Below.alloc ?_ (by first | omega | (simp; done) | (simp; omega)) _ | refine Below.setCell ?_ (by first | omega | (simp; done) | (simp; omega)) _ | refine Below.drew ?_))⟩

set_option maxRecDepth 100000 in
set_option maxHeartbeats 1000000 in
theorem eqDeedS_same (A A' : Option Addr) (c c' : Nat) (xs : List MDeed) (w : World) (lo lo' : Nat) (h : SlR 7 RDeed lo w (.slice A xs.length c) xs) (h' : SlR 7 RDeed lo' w (.slice A' xs.length c') xs) (hn : xs.length ≤ 1048576) :
    Calls Try.prog 16 #[.slice A xs.length c, .slice A' xs.length c'] w fun e w' => e = .returned (.bool true) ∧ Below w.heap.size w w' := by
  have H := Lib.hid h; clear h
  have H' := Lib.hid h'; clear h'
  go_enter Try.func16, Try.ntmps16
  go_wp2_with fail
  go_loopw [5] (fun i wr => ∃ k : Nat, k ≤ xs.length ∧ i = .int .i64 (k : Int) ∧ Below w.heap.size w wr) (fun i _ => xs.length - (intOf i).toNat)
  case atStart => exact ⟨0, by omega, rfl, Below.refl _ _⟩
  case round =>
    obtain ⟨k, hk, rfl, hb⟩ := hrel
    by_cases hlt : k < xs.length
    · obtain ⟨x, b, o, hx, rfl, _, _, hb1, g0, g1, g2, g3, g4, g5, g6, hw⟩ := H.out.getDeed (Agree.of_below hb lo) hlt
      obtain ⟨x', b', o', hx', rfl, _, _, hb1', g0', g1', g2', g3', g4', g5', g6', hw'⟩ := H'.out.getDeed (Agree.of_below hb lo') hlt
      obtain rfl : x = x' := by rw [hx] at hx'; injection hx'
      clear hx hx' hw hw'
      go_wp2_with fail
      go_still_tail 8, (by kernel_rfl)
      go_wp2_with fail
      refine (eqDeed_same x wr.drew).mono ?_
      rintro e w1 ⟨rfl, hb2⟩
      go_wp2_with fail
      go_roundw
      case rel => exact ⟨k + 1, by omega, by go_num, hb.drew.trans (hb2.mono hb.size)⟩
      case measure => simp [intOf]; omega
    · go_wp2_with fail
      go_ret
      exact ⟨rfl, hb⟩

end Go.Proofs.Ytdejncnjaebjfaa
