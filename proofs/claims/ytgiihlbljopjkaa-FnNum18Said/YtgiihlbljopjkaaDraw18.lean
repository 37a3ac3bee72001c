/-
  The contracts of DrawTextOf and DrawNumOf: whatever the bytes, they return some int, some short text.
-/
import Derived.Test.YtgiihlbljopjkaaDraw
import Derived.Test.YtgiihlbljopjkaaText
namespace Go.Proofs.Ytgiihlbljopjkaa
open Go.ChangeShapes Go.WideShapes Go.ChangeAt Go.RowKit

theorem drawtext (w : World) (A : Option Addr) (n c : Nat) (hn : (n : Int) ≤ 9223372036854675807) (hy : BytesAt w.heap.size w A n) :
    Calls Try.prog 13 #[.slice A n c] w fun e w' => ∃ x : Int, e = .returned (.int .i64 x) ∧ (-9223372036854775808 ≤ x ∧ x ≤ 9223372036854775807) ∧ Below w.heap.size w w' := by
  have HY := Lib.hid hy; clear hy
  go_enter Try.func13, Try.ntmps13
  go_wp2_with fail
  refine (new_any w.heap.size w A n c (Nat.le_refl _) hn HY.out).mono ?_
  rintro e w1 ⟨g, rfl, hg, hc1, hb1⟩
  have HC1 := Lib.hid hc1; have HB1 := Lib.hid hb1; clear hc1 hb1
  go_wp2_with fail
  refine (below_any w.heap.size g _ w1 HC1.out).mono ?_
  rintro e w2 ⟨x, rfl, ⟨x0, x1, x2⟩, hc2, ho2⟩
  have x3 := x2 (by omega)
  have HC2 := Lib.hid hc2; have HO2 := Lib.hid ho2; clear hc2 ho2 x1 x2
  go_wp2_with fail
  refine (below_any w.heap.size g _ w2 HC2.out).mono ?_
  rintro e w3 ⟨y, rfl, ⟨y0, y1, y2⟩, hc3, ho3⟩
  have y3 := y2 (by omega)
  have HC3 := Lib.hid hc3; have HO3 := Lib.hid ho3; clear hc3 ho3 y1 y2
  go_wp2_with fail
  have hc4 := HC3.out.below ((Below.refl _ _).alloc (Nat.le_refl _) (Obj.cells #[Value.int .i64 0, .int .i64 (-1), .int .i64 10, .int .i64 (-10), .int .i64 9223372036854775807, .int .i64 (-9223372036854775808), .int .i64 x, .int .i64 (-y)] 3))
  have hglt := HC3.out.lt
  refine (pickint_any w.heap.size g _ _ 8 8 (fun x => -9223372036854775808 ≤ x ∧ x ≤ 9223372036854775807) hc4 (by omega) (by omega) (by simp; omega) ?_).mono ?_
  · intro k hk
    obtain ⟨v, hv, z, rfl, hz⟩ := new_all (w := w3) (t := 3) (l := [Value.int .i64 0, .int .i64 (-1), .int .i64 10, .int .i64 (-10), .int .i64 9223372036854775807, .int .i64 (-9223372036854775808), .int .i64 x, .int .i64 (-y)])
      (Q := fun v => ∃ z : Int, v = .int .i64 z ∧ -9223372036854775808 ≤ z ∧ z ≤ 9223372036854775807) (by simp; omega) k hk
    exact ⟨z, hv, hz⟩
  rintro e w4 ⟨z, rfl, hz, hc5, ho5⟩
  clear hc4 hc5
  have HO5 := Lib.hid ho5; clear ho5
  go_wp2_with fail
  go_ret
  refine ⟨z, rfl, hz, ?_⟩
  have b2 := HB1.out.trans (HO2.out.below hg HB1.out.size)
  have b3 := b2.trans (HO3.out.below hg b2.size)
  have b4 := b3.alloc b3.size (Obj.cells #[Value.int .i64 0, .int .i64 (-1), .int .i64 10, .int .i64 (-10), .int .i64 9223372036854775807, .int .i64 (-9223372036854775808), .int .i64 x, .int .i64 (-y)] 3)
  exact b4.trans (HO5.out.below hg b4.size)
theorem drawnum (w : World) (A : Option Addr) (n c : Nat) (hn : (n : Int) ≤ 9223372036854675807) (hy : BytesAt w.heap.size w A n) :
    Calls Try.prog 14 #[.slice A n c] w fun e w' => ∃ l : List UInt8, e = .returned (.string (bs l)) ∧ l.length ≤ 20 ∧ Below w.heap.size w w' := by
  have HY := Lib.hid hy; clear hy
  go_enter Try.func14, Try.ntmps14
  go_wp2_with fail
  refine (new_any w.heap.size w A n c (Nat.le_refl _) hn HY.out).mono ?_
  rintro e w1 ⟨g, rfl, hg, hc1, hb1⟩
  have HC1 := Lib.hid hc1; have HB1 := Lib.hid hb1; clear hc1 hb1
  go_wp2_with fail
  refine (below_any w.heap.size g _ w1 HC1.out).mono ?_
  rintro e w2 ⟨x, rfl, ⟨x0, x1, x2⟩, hc2, ho2⟩
  have x3 := x2 (by omega)
  have b2 := HB1.out.trans (ho2.below hg HB1.out.size)
  have HC2 := Lib.hid hc2; have HB2 := Lib.hid b2; clear hc2 ho2 x1 x2 b2
  go_wp2_with fail
  refine (stext x w2 (by omega) (by omega)).mono ?_
  rintro e w3 ⟨rfl, hb3⟩
  have hc3 := HC2.out.below hb3
  have b3 := HB2.out.trans (hb3.mono HB2.out.size)
  have HC3 := Lib.hid hc3; have HB3 := Lib.hid b3; clear hc3 hb3 b3
  go_wp2_with fail
  refine (below_any w.heap.size g _ w3 HC3.out).mono ?_
  rintro e w4 ⟨y, rfl, ⟨y0, y1, y2⟩, hc4, ho4⟩
  have y3 := y2 (by omega)
  have b4 := HB3.out.trans (ho4.below hg HB3.out.size)
  have HC4 := Lib.hid hc4; have HB4 := Lib.hid b4; clear hc4 ho4 y1 y2 b4
  go_wp2_with fail
  refine (stext (-y) w4 (by omega) (by omega)).mono ?_
  rintro e w5 ⟨rfl, hb5⟩
  have hc5 := HC4.out.below hb5
  have b5 := HB4.out.trans (hb5.mono HB4.out.size)
  have HC5 := Lib.hid hc5; have HB5 := Lib.hid b5; clear hc5 hb5 b5
  have l1 : (txt x).length ≤ 20 := txt_len (by omega) (by omega)
  have l2 : (txt (-y)).length ≤ 20 := txt_len (by omega) (by omega)
  have L1 := Lib.hid l1; have L2 := Lib.hid l2; clear l1 l2
  go_wp2_with fail
  have hc6 := HC5.out.below ((Below.refl _ _).alloc (Nat.le_refl _) (Obj.cells #[Value.string (bs [48]), Value.string (bs [45, 48]), Value.string (bs [48, 48]), Value.string (bs []), Value.string (bs [45]), Value.string (bs [43, 49]), Value.string (bs [55]), Value.string (bs [45, 49, 50]), Value.string (bs [57, 57, 57, 57, 57, 57, 57, 57, 57, 57]), Value.string (bs [45, 57, 57, 57, 57, 57, 57, 57, 57, 57, 57]), Value.string (bs [49, 48, 48, 48, 48, 48, 48, 48, 48, 48, 48]), Value.string (bs [49, 48, 48, 48, 48, 48, 48, 48, 48, 48]), Value.string (bs [49, 50, 120]), Value.string (bs [32, 49]), Value.string (bs (txt x)), Value.string (bs (txt (-y)))] 9))
  have hglt := HC5.out.lt
  refine (pick_any w.heap.size g _ _ 16 16 (fun l => l.length ≤ 20) hc6 (by omega) (by omega) (by simp; omega) ?_).mono ?_
  · intro k hk
    obtain ⟨v, hv, z, rfl, hz⟩ := new_all (w := w5) (t := 9) (l := [Value.string (bs [48]), Value.string (bs [45, 48]), Value.string (bs [48, 48]), Value.string (bs []), Value.string (bs [45]), Value.string (bs [43, 49]), Value.string (bs [55]), Value.string (bs [45, 49, 50]), Value.string (bs [57, 57, 57, 57, 57, 57, 57, 57, 57, 57]), Value.string (bs [45, 57, 57, 57, 57, 57, 57, 57, 57, 57, 57]), Value.string (bs [49, 48, 48, 48, 48, 48, 48, 48, 48, 48, 48]), Value.string (bs [49, 48, 48, 48, 48, 48, 48, 48, 48, 48]), Value.string (bs [49, 50, 120]), Value.string (bs [32, 49]), Value.string (bs (txt x)), Value.string (bs (txt (-y)))])
      (Q := fun v => ∃ z : List UInt8, v = .string (bs z) ∧ z.length ≤ 20) (by
        intro v hv
        simp only [List.mem_cons, List.not_mem_nil, or_false] at hv
        rcases hv with rfl | rfl | rfl | rfl | rfl | rfl | rfl | rfl | rfl | rfl | rfl | rfl | rfl | rfl | rfl | rfl
        all_goals first | exact ⟨_, rfl, L1.out⟩ | exact ⟨_, rfl, L2.out⟩ | exact ⟨_, rfl, by decide⟩) k hk
    exact ⟨z, hv, hz⟩
  rintro e w6 ⟨z, rfl, hz, hc7, ho7⟩
  clear hc6 hc7
  have HO7 := Lib.hid ho7; clear ho7
  go_wp2_with fail
  go_ret
  refine ⟨z, rfl, hz, ?_⟩
  have b6 := HB5.out.alloc HB5.out.size (Obj.cells #[Value.string (bs [48]), Value.string (bs [45, 48]), Value.string (bs [48, 48]), Value.string (bs []), Value.string (bs [45]), Value.string (bs [43, 49]), Value.string (bs [55]), Value.string (bs [45, 49, 50]), Value.string (bs [57, 57, 57, 57, 57, 57, 57, 57, 57, 57]), Value.string (bs [45, 57, 57, 57, 57, 57, 57, 57, 57, 57, 57]), Value.string (bs [49, 48, 48, 48, 48, 48, 48, 48, 48, 48, 48]), Value.string (bs [49, 48, 48, 48, 48, 48, 48, 48, 48, 48]), Value.string (bs [49, 50, 120]), Value.string (bs [32, 49]), Value.string (bs (txt x)), Value.string (bs (txt (-y)))] 9)
  exact b6.trans (HO7.out.below hg b6.size)
end Go.Proofs.Ytgiihlbljopjkaa
