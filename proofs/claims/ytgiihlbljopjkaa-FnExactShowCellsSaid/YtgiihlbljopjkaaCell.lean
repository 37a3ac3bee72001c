/-
  Cells: what laws.toCell, toCellS, eqCell, eqCellS, szCellS do.
-/
import Derived.Test.YtgiihlbljopjkaaMem
namespace Go.Proofs.Ytgiihlbljopjkaa
open Go.ChangeShapes Go.WideShapes Go.ChangeAt Go.RowKit

structure Cell where
  key : Int
  value : Int
def Cell.wf (x : Cell) : Prop := I64 x.key ∧ I64 x.value
def RCell : Rel Cell := fun _ _ cs x => cs = [.int .i64 x.key, .int .i64 x.value] ∧ x.wf
theorem RCell.ok : RelOk RCell := ⟨fun h _ => h, fun h _ => h⟩

theorem SlR.cell {lo : Nat} {w w' : World} {A : Option Addr} {n c : Nat} {xs : List Cell} (h : SlR 2 RCell lo w (.slice A n c) xs) (ha : Agree lo w w') {i : Nat} (hi : i < xs.length) :
    ∃ (x : Cell) (b o : Nat), xs[i]? = some x ∧ A = some ⟨b, o, none⟩ ∧ b < w.heap.size ∧ b < w'.heap.size ∧ w'.cell? ⟨b, o + i * 2, none⟩ = some (.int .i64 x.key) ∧ w'.cell? ⟨b, o + i * 2 + 1, none⟩ = some (.int .i64 x.value) ∧ x.wf := by
  obtain ⟨x, b, o, cs, hx, e, _, _, hc, hr, hw⟩ := h.get RCell.ok ha hi
  subst hr
  have h0 := hc 0 _ rfl
  exact ⟨x, b, o, hx, e, h.blt e hi (by omega), cell_lt h0, h0, hc 1 _ rfl, hw⟩

theorem toCell_any (x : Cell) (w : World) :
    Calls Try.prog 29 #[.agg #[.int .i64 x.key, .int .i64 x.value]] w fun e w' => e = .returned (.agg #[.int .i64 x.key, .int .i64 x.value]) ∧ Below w.heap.size w w' := by
  go_enter Try.func29, Try.ntmps29
  go_wp2_with fail
  refine bodyPost_ret (v := .agg #[.int .i64 x.key, .int .i64 x.value]) (by simp [results, Try.results29, go_sem]) rfl ⟨rfl, ?_⟩
  exact (((Below.refl _ _).alloc (Nat.le_refl _) _).alloc (by simp) _).alloc (by simp; omega) _

theorem info_impl_Cell : (Try.prog.info? 54).map (fun i => (i.zero, i.size, i.bytes)) = some (some (.agg #[.int .i64 0, .int .i64 0]), 2, 16) := by kernel_rfl

theorem toCellS_any (A : Option Addr) (c : Nat) (xs : List Cell) (w : World) (lo : Nat) (h : SlR 2 RCell lo w (.slice A xs.length c) xs) (hn : xs.length ≤ 1048576) :
    Calls Try.prog 17 #[.slice A xs.length c] w fun e w' => ∃ v, e = .returned v ∧ SlR 2 RCell w.heap.size w' v xs ∧ Below w.heap.size w w' := by
  have H := Lib.hid h; clear h
  obtain ⟨i0, hi, hz0, hz1, hz2⟩ := info_parts info_impl_Cell
  have hmk := make_at (P := Try.prog) 34 54 i0 _ Try.underlying34 hi hz0 xs.length (by rw [hz2]; omega) (by omega)
  rw [hz1] at hmk
  have hsz : (madeCells (Value.agg #[.int .i64 0, .int .i64 0]).cells (xs.length * 2)).size = xs.length * 2 := size_madeCells _ _
  generalize madeCells (Value.agg #[.int .i64 0, .int .i64 0]).cells (xs.length * 2) = mc at hmk hsz
  have HS := Lib.hid hsz
  clear hsz hz0 hz1 hz2 hi
  go_enter Try.func17, Try.ntmps17
  go_wp2_with fail
  go_loopw [4] (fun i wr => ∃ k : Nat, k ≤ xs.length ∧ i = .int .i64 (k : Int) ∧ Below w.heap.size w wr ∧ Laid 2 RCell w.heap.size 54 xs.length wr k xs) (fun i _ => xs.length - (intOf i).toNat)
  case atStart => exact ⟨0, by omega, rfl, (Below.refl _ _).alloc (Nat.le_refl _) _, Laid.start w _ _ _ HS.out xs⟩
  case round =>
    obtain ⟨k, hk, rfl, hb, hl⟩ := hrel
    have HL := Lib.hid hl; clear hl
    by_cases hlt : k < xs.length
    · obtain ⟨x, b, o, hx, rfl, _, hb1, h0, h1, hw⟩ := H.out.cell (Agree.of_below hb lo) hlt
      have HX := Lib.hid hx; have HW := Lib.hid hw; clear hx hw
      go_wp2_with fail
      refine (toCell_any x wr).mono ?_
      rintro e w1 ⟨rfl, hb2⟩
      have ho := HL.out.1.call hb2
      obtain ⟨v0, c0⟩ := ho.cell (j := k * 2) (by omega)
      obtain ⟨v1, c1⟩ := ho.cell (j := k * 2 + 1) (by omega)
      have f0 := ho.frozen (k * 2)
      have f1 := ho.frozen (k * 2 + 1)
      have HB2 := Lib.hid hb2; have HO := Lib.hid ho; clear hb2 ho
      go_wp2_with fail
      go_roundw
      case rel =>
        have hb3 := hb.trans (HB2.out.mono hb.size)
        refine ⟨k + 1, by omega, by go_num, hb3.trans ((setRow_only w.heap.size [Value.int .i64 x.key, .int .i64 x.value] w1 (k * 2)).below (Nat.le_refl _) hb3.size), ?_⟩
        exact HL.out.next RCell.ok HB2.out HX.out (cs := [Value.int .i64 x.key, .int .i64 x.value]) rfl ⟨rfl, HW.out⟩ hlt
      case measure => simp [intOf]; omega
    · obtain rfl : k = xs.length := by omega
      go_wp2_with fail
      go_ret
      exact ⟨_, rfl, HL.out.done RCell.ok (Nat.le_refl _) (by omega), hb⟩

theorem eqCell_same (x : Cell) (w : World) :
    Calls Try.prog 31 #[.agg #[.int .i64 x.key, .int .i64 x.value], .agg #[.int .i64 x.key, .int .i64 x.value]] w fun e w' => e = .returned (.bool true) ∧ Below w.heap.size w w' := by
  go_enter Try.func31, Try.ntmps31
  go_wp2_with fail
  go_ret
  exact ⟨rfl, ((Below.refl _ _).alloc (Nat.le_refl _) _).alloc (by simp) _⟩

theorem eqCellS_same (A A' : Option Addr) (c c' : Nat) (xs : List Cell) (w : World) (lo lo' : Nat) (h : SlR 2 RCell lo w (.slice A xs.length c) xs) (h' : SlR 2 RCell lo' w (.slice A' xs.length c') xs) (hn : xs.length ≤ 1048576) :
    Calls Try.prog 19 #[.slice A xs.length c, .slice A' xs.length c'] w fun e w' => e = .returned (.bool true) ∧ Below w.heap.size w w' := by
  have H := Lib.hid h; clear h
  have H' := Lib.hid h'; clear h'
  go_enter Try.func19, Try.ntmps19
  go_wp2_with fail
  go_loopw [5] (fun i wr => ∃ k : Nat, k ≤ xs.length ∧ i = .int .i64 (k : Int) ∧ Below w.heap.size w wr) (fun i _ => xs.length - (intOf i).toNat)
  case atStart => exact ⟨0, by omega, rfl, Below.refl _ _⟩
  case round =>
    obtain ⟨k, hk, rfl, hb⟩ := hrel
    by_cases hlt : k < xs.length
    · obtain ⟨x, b, o, hx, rfl, _, hb1, h0, h1, hw⟩ := H.out.cell (Agree.of_below hb lo) hlt
      obtain ⟨x', b', o', hx', rfl, _, hb1', h0', h1', hw'⟩ := H'.out.cell (Agree.of_below hb lo') hlt
      obtain rfl : x = x' := by rw [hx] at hx'; injection hx'
      clear hx hx' hw hw'
      go_wp2_with fail
      go_still_tail 8, (by kernel_rfl)
      go_wp2_with fail
      refine (eqCell_same x wr.drew).mono ?_
      rintro e w1 ⟨rfl, hb2⟩
      go_wp2_with fail
      go_roundw
      case rel => exact ⟨k + 1, by omega, by go_num, hb.drew.trans (hb2.mono hb.size)⟩
      case measure => simp [intOf]; omega
    · go_wp2_with fail
      go_ret
      exact ⟨rfl, hb⟩

theorem szCellS_any (A : Option Addr) (c n : Nat) (left : Int) (w : World) (h0 : 0 ≤ left) (h1 : left ≤ 1048576) (hn : (n : Int) ≤ 9223372036854775807) :
    Calls Try.prog 15 #[.slice A n c, .int .i64 left] w fun e w' => ∃ r : Int, e = .returned (.int .i64 r) ∧ r ≤ left ∧ -1 ≤ r ∧ (0 ≤ r → n ≤ 1048576) ∧ w = w' := by
  by_cases h : left - (n : Int) < 0
  · go_enter Try.func15, Try.ntmps15
    go_wp2_with fail
    go_ret
    exact ⟨_, rfl, by omega, by omega, fun h => by omega, rfl⟩
  · go_enter Try.func15, Try.ntmps15
    go_wp2_with fail
    go_ret
    exact ⟨_, rfl, by omega, by omega, fun h => by omega, rfl⟩
end Go.Proofs.Ytgiihlbljopjkaa
