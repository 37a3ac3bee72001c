/-
  DrawScriptText of the reference: some deeds, in a row of one's own.
-/
import Derived.Test.YtdejncnjaebjfaaDoorDr8
namespace Go.Proofs.YtdejncnjaebjfaaDoor
set_option linter.unusedVariables false
set_option linter.unusedSimpArgs false
open Go.ChangeShapes Go.WideShapes Go.ChangeAt Go.RowKit

theorem own_base {w : World} {base base' : Nat} {e : TypeId} {size : Nat} {v : Value} {n : Nat} {xs : List Value} (h : w.ownsRow base e size v n xs) (hb : base' ≤ base) : w.ownsRow base' e size v n xs := by
  obtain ⟨h1, h2⟩ := h
  refine ⟨h1, ?_⟩
  rcases h2 with h2 | ⟨g', cap, cur, rfl, hb', h3⟩
  · exact .inl h2
  · exact .inr ⟨g', cap, cur, rfl, Nat.le_trans hb hb', h3⟩
theorem size_any (A : Option Addr) (n c : Nat) (w : World) (hn : (n : Int) ≤ 1048576) :
    Calls Tryd.prog 37 #[.slice A n c, .int .i64 20] w fun e w' => ∃ m : Int, e = .returned (.int .i64 m) ∧ 0 ≤ m ∧ m ≤ 20 ∧ w = w' := by
  obtain ⟨d, hd, hd0, hd1⟩ : ∃ d : Int, (n : Int).tdiv 20 = d ∧ 0 ≤ d ∧ d ≤ 1048576 := ⟨_, rfl, Int.tdiv_nonneg (by omega) (by omega), Int.le_trans (Int.tdiv_le_self _ (by omega)) hn⟩
  by_cases h : (20 : Int) < 2 + d
  · go_enter Tryd.func37, Tryd.ntmps37
    go_wp2_with fail
    all_goals go_ret
    all_goals first
      | exact ⟨20, rfl, by omega, by omega, rfl⟩
      | exact ⟨_, rfl, by omega, by omega, rfl⟩
  · go_enter Tryd.func37, Tryd.ntmps37
    go_wp2_with fail
    all_goals go_ret
    all_goals first
      | exact ⟨20, rfl, by omega, by omega, rfl⟩
      | exact ⟨_, rfl, by omega, by omega, rfl⟩
theorem at_any (A : Option Addr) (n c : Nat) (w : World) (hn : (n : Int) ≤ 1048576) {B : Nat} (hy : BytesAt B w A n) :
    Calls Tryd.prog 19 #[.slice A n c, .int .i64 1] w fun e w' => ∃ m : Int, e = .returned (.int .i64 m) ∧ 0 ≤ m ∧ m ≤ 255 ∧ w = w' := by
  by_cases h : 1 < n
  · obtain ⟨ad, b, rfl, h1, h2, h3, h4⟩ := hy 1 h
    have h6 : w.cell? ⟨ad.block, ad.off + 1, none⟩ = some (.int .u8 b) := by simpa [Addr.add] using h2
    clear hy
    go_enter Tryd.func19, Tryd.ntmps19
    go_wp2_with fail
    go_ret
    exact ⟨b, rfl, h3, h4, rfl⟩
  · have h5 : ¬ (1 : Int) < (n : Int) := by omega
    clear hy
    go_enter Tryd.func19, Tryd.ntmps19
    go_wp2_with fail
    go_ret
    refine ⟨_, rfl, ?_, ?_, rfl⟩
    · first | exact Int.emod_nonneg _ (by omega) | omega
    · first | omega | (have := Int.emod_lt_of_pos (7 + (n : Int)) (show (0 : Int) < 256 by omega); omega)

set_option maxRecDepth 100000 in
set_option maxHeartbeats 4000000 in
theorem dst_any (w : World) (A : Option Addr) (n c : Nat) (hn : (n : Int) ≤ 1048576) (hy : BytesAt w.heap.size w A n) :
    Calls Tryd.prog 16 #[.slice A n c] w fun e w' => ∃ (v : Value) (D : List MDeed), e = .returned v ∧ w'.ownsRow w.heap.size 23 7 v D.length (rows7 D) ∧ (∀ x ∈ D, x.wf) ∧ D.length ≤ 1001 ∧ Below w.heap.size w w' := by
  have HY := Lib.hid hy; clear hy
  obtain ⟨i0, hi, hz0, hz1, hz2⟩ := info_parts info_deed
  go_enter Tryd.func16, Tryd.ntmps16
  go_wp2_with fail
  refine (new_any w.heap.size w A n c (Nat.le_refl _) (by omega) HY.out).mono ?_
  rintro e w1 ⟨g, rfl, hg, hc, hb⟩
  have C1 := Lib.hid hc; have B1 := Lib.hid hb
  have hgl := hc.lt
  clear hc hb
  go_wp2_with fail
  refine (size_any A n c _ hn).mono ?_
  rintro e w' ⟨m, rfl, m0, m1, rfl⟩
  go_wp2_with fail
  refine (deeds_any w.heap.size g m _ C1.out ⟨m0, by omega⟩).mono ?_
  rintro e w2 ⟨v, D, rfl, hown, hwf, hD, hc, ho⟩
  have C2 := Lib.hid hc; have B2 := Lib.hid (B1.out.trans (ho.below hg B1.out.size)); have HWF := Lib.hid hwf
  have hs2 := ho.size
  have hs1 := B1.out.size
  have hge := own_ge hown
  have HO := Lib.hid hown
  clear hc ho hwf hown
  go_wp2_with fail
  refine (once_any w.heap.size g 6 _ C2.out).mono ?_
  rintro e w3 ⟨b, rfl, hc, ho⟩
  have C3 := Lib.hid hc; have B3 := Lib.hid (B2.out.trans (ho.below hg (by omega)))
  have O3 := Lib.hid (own_only HO.out ho (fun e => by have := hge g e; omega))
  have hs3 := ho.size
  clear hc ho
  cases b with
  | true =>
    go_wp2_with fail
    refine (dr_any w.heap.size g _ C3.out).mono ?_
    rintro e w4 ⟨x, rfl, hx, hc, ho⟩
    have HX := Lib.hid hx; have B4 := Lib.hid (B3.out.trans (ho.below hg (by omega)))
    have O4 := Lib.hid (own_only O3.out ho (fun e => by have := hge g e; omega))
    have hs4 := ho.size
    clear hx hc ho
    unfold dval
    go_wp2_with (at_builtin; refine wpList_append_own _ rfl (.tmp 13) (.tmp 16) 28 rfl w1.heap.size 23 i0 _ 7 56 Tryd.underlying28 hi hz0 hz1 hz2 rfl (by omega) _ D.length _ rfl (own_call O4.out (by repeat (first | exact Below.refl _ _ | refine Below.alloc ?_ (by first | omega | (simp; done) | (simp; omega)) _ | refine Below.setCell ?_ (by first | omega | (simp; done) | (simp; omega)) _))) ⟨w4.heap.size, 0, none⟩ 1 1 (row7 x) rfl rfl (news7 x (by simp)) (by intro u hu; simp [row7] at hu; rcases hu with rfl | rfl | rfl | rfl | rfl | rfl | rfl <;> rfl) (by unfold maxLen; omega) (by omega) (by simp; omega) ?_)
    rintro v' w' h1 h2 h3
    have HO7 : w'.ownsRow w1.heap.size 23 7 v' (D ++ [x]).length (rows7 (D ++ [x])) := by
      rw [rows7_add, List.length_append]
      exact h1
    have B7 := Lib.hid (Below.grown (B4.out.alloc B4.out.size _) h2 (by simp; omega) (fun b e => by have := hge b e; omega))
    clear h1 h2 h3
    have hln : (D ++ [x]).length ≤ 1001 := by simp; omega
    obtain ⟨A7, c7, rfl⟩ := own_form HO7 (by omega)
    have HO8 := Lib.hid (own_base HO7 hs1)
    clear HO7
    go_wp2_with fail
    exact bodyPost_ret (v := .slice A7 (D ++ [x]).length c7) (by simp [results, Tryd.results16, go_sem]) rfl ⟨_, D ++ [x], rfl, HO8.out, (fun y hy => by rcases List.mem_append.1 hy with hy | hy <;> first | exact HWF.out y hy | (obtain rfl := List.mem_singleton.1 hy; exact HX.out)), hln, B7.out⟩
  | false =>
    obtain ⟨A7, c7, rfl⟩ := own_form O3.out (by omega)
    have HO8 := Lib.hid (own_base O3.out hs1)
    go_wp2_with fail
    exact bodyPost_ret (v := .slice A7 D.length c7) (by simp [results, Tryd.results16, go_sem]) rfl ⟨_, D, rfl, HO8.out, HWF.out, by omega, B3.out⟩
end Go.Proofs.YtdejncnjaebjfaaDoor
