/-
  ParseDeed of the program.
-/
import Derived.Test.YtdejncnjaebjfaaDoorParseS
import Derived.Test.YtdejncnjaebjfaaDoorSplit
namespace Go.Proofs.YtdejncnjaebjfaaDoor
set_option linter.unusedVariables false
set_option linter.unusedSimpArgs false
open Go.ChangeShapes Go.WideShapes Go.ChangeAt Go.RowKit

theorem setAll_take (v : Int) : ∀ (cs : List UInt8) (D : List Int) (x : MDeed) (k : Nat) (c : UInt8), cs[k]? = some c → D.length = k → setAll x (cs.take (k + 1)) (D ++ [v]) = setNum (setAll x (cs.take k) D) c.toNat v
  | [], _, _, _, _, h, _ => by simp at h
  | a :: cs, [], x, k, c, h, hl => by
    simp at hl
    subst hl
    simp at h
    subst h
    simp [setAll]
  | a :: cs, n :: D, x, k, c, h, hl => by
    simp at hl
    subst hl
    have h' : cs[D.length]? = some c := by simpa using h
    rw [List.take_succ_cons, List.take_succ_cons, List.cons_append]
    unfold setAll
    exact setAll_take v cs D _ _ c h' rfl
theorem cells_set {wr : World} {g m : Nat} {t : TypeId} {cs : List Value} (ho : Own wr g t m) (hc : CellsAt wr g 0 cs) (hm : cs.length ≤ m) {j : Nat} (hj : j < cs.length) (u : Value) : CellsAt (wr.setCell ⟨g, j, none⟩ u) g 0 (cs.set j u) := by
  intro i x hx
  rw [Nat.zero_add]
  by_cases e : i = j
  · subst e
    rw [List.getElem?_set_self (by omega)] at hx
    injection hx with hx
    subst hx
    exact cell_set_eq ho (by omega) _
  · rw [List.getElem?_set_ne (by omega)] at hx
    rw [cell_set_ne (by omega)]
    have := hc i x hx
    rwa [Nat.zero_add] at this
theorem cells_new (w : World) (t : TypeId) (cs : List Value) : CellsAt (w.alloc (.cells cs.toArray t)) w.heap.size 0 cs := by
  intro j u hu
  have hn := heap_alloc_new w (Obj.cells cs.toArray t)
  generalize w.alloc (Obj.cells cs.toArray t) = W at hn
  simpa [World.cell?, hn] using hu
theorem row7_kind (x : MDeed) (n : Int) : (row7 x).set 0 (.int .i64 n) = row7 { x with kind := n } := rfl
theorem row7_set (x : MDeed) (c n : Int) : (row7 x).set (koff c) (.int .i64 n) = row7 (setNum x c n) := by
  unfold koff setNum
  by_cases h1 : c = 65
  · rw [if_pos h1, if_pos h1]; rfl
  · rw [if_neg h1, if_neg h1]
    by_cases h2 : c = 84
    · rw [if_pos h2, if_pos h2]; rfl
    · rw [if_neg h2, if_neg h2]
      by_cases h3 : c = 76
      · rw [if_pos h3, if_pos h3]; rfl
      · rw [if_neg h3, if_neg h3]
        by_cases h4 : c = 72
        · rw [if_pos h4, if_pos h4]; rfl
        · rw [if_neg h4, if_neg h4]
          by_cases h5 : c = 75
          · rw [if_pos h5, if_pos h5]; rfl
          · rw [if_neg h5, if_neg h5]; rfl
theorem koff_lt (c : Int) : koff c < 7 := by
  unfold koff; repeat' split
  all_goals omega

theorem idone {w wr : World} {cs : Array Value} {t : TypeId} (hb : Below (w.alloc (.cells cs t)).heap.size (w.alloc (.cells cs t)) wr) (hs : cs.size = 7) (l : List UInt8) (x : MDeed) (n : Int) (e : parseDeed l = (x, n)) (a : Act) (hd : a.defers = []) (ha : a.tmps[2]? = some (.pointer (some ⟨w.heap.size, 0, none⟩))) (hn : a.tmps[3]? = some (.int .i64 n)) :
    bodyPost Tryd.prog Tryd.f8 (fun e w' => e = ret_parse (parseDeed l) ∧ Below w.heap.size w w') Exit.ret a (setRow wr w.heap.size 0 (row7 x)) := by
  have ho : Own wr w.heap.size t 7 := hs ▸ (Own.new w t cs).call hb
  have hc := setRow_cells (row7 x) wr 0 ho (by simp [row7])
  have c0 := hc 0 _ rfl
  have c1 := hc 1 _ rfl
  have c2 := hc 2 _ rfl
  have c3 := hc 3 _ rfl
  have c4 := hc 4 _ rfl
  have c5 := hc 5 _ rfl
  have c6 := hc 6 _ rfl
  have hB : Below w.heap.size w (setRow wr w.heap.size 0 (row7 x)) :=
    (((Below.refl _ _).alloc (Nat.le_refl _) _).trans (hb.mono (by simp))).trans ((setRow_only _ _ _ _).below (Nat.le_refl _) (by have := hb.size; simp at this; omega))
  generalize setRow wr w.heap.size 0 (row7 x) = W at *
  simp only [Nat.zero_add] at c0 c1 c2 c3 c4 c5 c6
  refine bodyPost_ret (v := .tuple #[deedV x, .int .i64 n]) ?_ hd ⟨by rw [e]; rfl, hB⟩
  simp [results, Tryd.results8, go_sem, deedV, ha, hn, c0, c1, c2, c3, c4, c5, c6]

set_option maxRecDepth 100000 in
set_option maxHeartbeats 1000000 in
theorem iparse (l : List UInt8) (w : World) (m : Int) (hm : w.cell? ⟨0, 0, none⟩ = some (.int .i64 m)) (hl : l.length ≤ 9223372036854775807) :
    Calls Tryd.prog 8 #[.string (bs l)] w fun e w' => e = ret_parse (parseDeed l) ∧ Below w.heap.size w w' := by
  by_cases h2 : 20000 < l.length
  · have h3 : ¬ (l.length : Int) ≤ 20000 := by omega
    have h4 : (20000 : Int) < (l.length : Int) := by omega
    rw [parse_long h2]
    go_enter Tryd.func8, Tryd.ntmps8
    go_wp2
    refine bodyPost_ret (v := .tuple #[deedV zeroDeed, .int .i64 1]) (by simp [results, Tryd.results8, go_sem, deedV, zeroDeed]) rfl ⟨rfl, ?_⟩
    exact ((Below.refl _ _).alloc (Nat.le_refl _) _)
  · have h4 : ¬ (20000 : Int) < (l.length : Int) := by omega
    go_enter Tryd.func8, Tryd.ntmps8
    go_wp2_with fail
    refine (isplit l _ m ((((Below.refl w.heap.size w).alloc (Nat.le_refl _) _).cell (p := ⟨0, 0, none⟩) (cell_lt hm)).trans hm) (by omega)).mono ?_
    rintro e w1 ⟨v, rfl, hs, hb⟩
    obtain ⟨A, c, rfl, hn⟩ := hs.form
    have hsz := hb.size
    have HB := Lib.hid hb; have HS := Lib.hid hs; clear hs hb
    have h0 : 0 < (wordsOf l).length := List.length_pos_iff.2 (wordsOf_ne l)
    obtain ⟨x0, hx0⟩ : ∃ x, (wordsOf l).headD [] = x := ⟨_, rfl⟩
    have HX0 := Lib.hid hx0; clear hx0
    go_wp2_with fail
    go_loopw [6, 7] (fun fm k wr => ∃ j : Nat, j ≤ 15 ∧ k = .int .i64 ((j : Int) + 1) ∧ fm = .string (bs (kform (kindTo x0 j))) ∧ Below w1.heap.size w1 wr ∧ Own wr w1.heap.size 23 7 ∧ CellsAt wr w1.heap.size 0 (row7 ⟨kindTo x0 j, 0, 0, 0, 0, 0, 0⟩)) (fun _ k _ => 16 - (intOf k).toNat)
    case atStart => exact ⟨0, by omega, rfl, rfl, (Below.refl _ _).alloc (Nat.le_refl _) _, Own.new _ _ _, cells_new w1 23 (row7 zeroDeed)⟩
    case round =>
      obtain ⟨j, hj, rfl, rfl, hb, hown, hcs⟩ := hrel
      have HOWN := Lib.hid hown
      have HCS := Lib.hid hcs
      have d0 := hcs 0 _ rfl
      have f0 := hown.frozen 0
      clear hown hcs
      rw [Nat.zero_add] at d0
      by_cases hlt : j < 15
      · obtain ⟨x, b, o, cs, hx, rfl, _, hcl, hca, hr⟩ := HS.out.get RStr.ok (Agree.of_below hb _) h0
        have hx0 : x = x0 := by
          have := HX0.out
          cases hw : wordsOf l with
          | nil => exact absurd hw (wordsOf_ne l)
          | cons y r => rw [hw] at hx this; simp at hx this; rw [← hx, this]
        subst hx0
        have hcell : wr.cell? ⟨b, o, none⟩ = some (.string (bs x)) := by
          have := hca 0 (.string (bs x)) (by rw [hr.1]; rfl)
          simpa using this
        clear hca hr hx hcl
        have hjj : 1 ≤ (j : Int) + 1 ∧ (j : Int) + 1 ≤ 15 := by omega
        go_wp2_with fail
        refine (iword ((j : Int) + 1) _ hjj).mono ?_
        rintro e w' ⟨rfl, rfl⟩
        by_cases he : kname (((j + 1 : Nat) : Int)) = x
        · have hek : kindTo x (j + 1) = (j : Int) + 1 := by unfold kindTo; rw [if_pos he]; omega
          have he2 : (kname ((j : Int) + 1) == x) = true := by rw [beq_iff_eq]; exact he
          have HEK := Lib.hid hek; clear hek
          go_wp2_with fail
          go_roundw
          case rel =>
            refine ⟨j + 1, by omega, by go_num, by rw [HEK.out], (hb.setCell (Nat.le_refl _) _), HOWN.out.set _ _, ?_⟩
            have := cells_set HOWN.out HCS.out (by simp [row7]) (j := 0) (by simp [row7]) (.int .i64 ((j : Int) + 1))
            rw [row7_kind] at this
            rw [HEK.out]
            exact this
          case measure => simp [intOf] <;> omega
        · have hek : kindTo x (j + 1) = kindTo x j := by rw [show kindTo x (j + 1) = if kname ((j + 1 : Nat) : Int) = x then ((j + 1 : Nat) : Int) else kindTo x j from rfl, if_neg he]
          have he2 : (kname ((j : Int) + 1) == x) = false := by rw [beq_eq_false_iff_ne]; exact he
          have HEK := Lib.hid hek; clear hek
          go_wp2_with fail
          go_roundw
          case rel => exact ⟨j + 1, by omega, by go_num, by rw [HEK.out], hb, HOWN.out, by rw [HEK.out]; exact HCS.out⟩
          case measure => simp [intOf] <;> omega
      · obtain rfl : j = 15 := by omega
        have hkd : kindTo x0 15 = kindOf ((wordsOf l).headD []) := by rw [HX0.out]; rfl
        have hkb := kindTo_bd x0 15
        generalize kindTo x0 15 = kd at *
        have HKD := Lib.hid hkd; clear hkd
        have HB1 := Lib.hid (HB.out.trans (hb.mono HB.out.size))
        obtain ⟨hc, hf⟩ := bcell HB1.out
        have hkl := kform_len kd
        by_cases hk0 : kd = 0
        · subst hk0
          have e := parse_word h2 HKD.out.symm
          have E := Lib.hid e; clear e
          go_wp2_with fail
          exact idone HB1.out rfl l zeroDeed 2 E.out _ rfl rfl rfl
        · have hk0' : (kd == 0) = false := by rw [beq_eq_false_iff_ne]; exact hk0
          have hrg : 1 ≤ kd ∧ kd ≤ 15 := by omega
          by_cases hm : (wordsOf l).length = (kform kd).length + 1
          · have hm1 : (((wordsOf l).length : Int) != ((kform kd).length : Int) + 1) = false := by simp; omega
            obtain ⟨x, b, o, cs, hx, rfl, _, hcl, hca, hr⟩ := HS.out.get RStr.ok (Agree.refl _ _) h0
            clear hx hcl hca hr
            obtain ⟨hc1, hc2⟩ : (wordsOf l).length ≤ c ∧ c ≤ 9223372036854775807 := by
              obtain ⟨_, c', e, q1, q2, _⟩ := HS.out
              injection e with _ _ e3
              subst e3
              exact ⟨q1, q2⟩
            have hc3 : 1 ≤ c := by omega
            have hc4 : 1 ≤ (wordsOf l).length := h0
            go_wp2_with fail
            all_goals
              go_loopw [54] (fun i wr' => ∃ (k : Nat) (D : List Int), k ≤ (kform kd).length ∧ i = .int .i64 (k : Int) ∧ numsOf ((wordsOf l).tail.take k) = some D ∧ D.length = k ∧ (∀ n ∈ D, I64 n) ∧ Below w1.heap.size w1 wr' ∧ Own wr' w1.heap.size 23 7 ∧ CellsAt wr' w1.heap.size 0 (row7 (setAll { zeroDeed with kind := kd } ((kform kd).take k) D))) (fun i _ => 5 - (intOf i).toNat)
              case atStart => exact ⟨0, [], by omega, rfl, rfl, rfl, by simp, hb, HOWN.out, HCS.out⟩
              case round =>
                obtain ⟨k, D, hk, rfl, hD, hDl, hDw, hb', hown', hcs'⟩ := hrel
                have HOWN' := Lib.hid hown'; have HCS' := Lib.hid hcs'; have HD := Lib.hid hD; have HDW := Lib.hid hDw; have HDL := Lib.hid hDl
                clear hown' hcs' hD hDw hDl hc hf d0 f0
                have HBB := Lib.hid (HB.out.trans (hb'.mono HB.out.size))
                obtain ⟨hc, hf⟩ := bcell HBB.out
                by_cases hlt2 : k < (kform kd).length
                · obtain ⟨y, b', o', cs', hy, hbo, _, hcl, hca, hr⟩ := HS.out.get RStr.ok (Agree.of_below hb' _) (i := k + 1) (by omega)
                  injection hbo with hbo
                  injection hbo with e1 e2 _
                  subst e1 e2
                  have hcell : wr.cell? ⟨b, o + (k + 1), none⟩ = some (.string (bs y)) := by
                    have := hca 0 (.string (bs y)) (by rw [hr.1]; rfl)
                    simpa using this
                  have hcell2 : wr.cell? ⟨b, o + 1 + k, none⟩ = some (.string (bs y)) := by rw [Nat.add_assoc, Nat.add_comm 1 k]; exact hcell
                  have hyl := hr.2
                  have hyt : (wordsOf l).tail[k]? = some y := by
                    cases hw : wordsOf l with
                    | nil => rw [hw] at hy; simp at hy
                    | cons z r => rw [hw] at hy; simpa using hy
                  have HYT := Lib.hid hyt
                  obtain ⟨ch, hch⟩ : ∃ ch, (kform kd)[k]? = some ch := ⟨_, List.getElem?_eq_getElem hlt2⟩
                  have hch2 : bAt (kform kd) k = ch.toNat := by unfold bAt; rw [List.getD_eq_getElem?_getD, hch]; rfl
                  have hplace := fun w => iplace w1.heap.size (ch.toNat : Int) w (kform_mem (List.mem_of_getElem? hch))
                  have HPL := Lib.hid hplace
                  have HCH := Lib.hid hch
                  clear hca hr hy hcl hyt hplace hch
                  go_wp2_with fail
                  all_goals
                    refine (inum y _ (by omega)).mono ?_
                    rintro e w4 ⟨rfl, rfl⟩
                    unfold ret_num
                    rcases numOf_cases y with ⟨v, hv, _, hv1, hv2⟩ | hv
                    · rw [hv]
                      have HV := Lib.hid hv; clear hv
                      go_wp2_with fail
                      refine (HPL.out _).mono ?_
                      rintro e w5 ⟨rfl, rfl⟩
                      have hkoff := koff_lt (ch.toNat : Int)
                      obtain ⟨v0, hv0⟩ := HOWN'.out.cell hkoff
                      have hfz := HOWN'.out.frozen (koff (ch.toNat : Int))
                      go_wp2_with fail
                      go_roundw
                      case rel =>
                        refine ⟨k + 1, D ++ [v], by omega, by go_num, ?_, by simp [HDL.out], fun n hn => ?_, (hb'.setCell (Nat.le_refl _) _), HOWN'.out.set _ _, ?_⟩
                        · rw [numsOf_take HYT.out, HV.out, if_pos rfl, HD.out]; rfl
                        · rcases List.mem_append.1 hn with hn | hn
                          · exact HDW.out n hn
                          · simp at hn; subst hn; unfold I64; omega
                        · have := cells_set HOWN'.out HCS'.out (by simp [row7]) (j := koff (ch.toNat : Int)) (by simp [row7]; exact hkoff) (.int .i64 v)
                          rw [row7_set] at this
                          rw [setAll_take v _ _ _ _ _ HCH.out HDL.out]
                          exact this
                      case measure => simp [intOf] <;> omega
                    · rw [hv]
                      have e := parse_num h2 (by rw [← HKD.out]; exact hk0) (by rw [← HKD.out]; exact hm) (numsOf_bad HYT.out (by rw [hv]))
                      have E := Lib.hid e; clear e hv
                      go_wp2_with fail
                      exact idone HBB.out rfl l zeroDeed 4 E.out _ rfl rfl rfl
                · obtain rfl : k = (kform kd).length := by omega
                  have hN : numsOf (wordsOf l).tail = some D := by
                    have := HD.out
                    rw [List.take_of_length_le (by rw [List.length_tail]; omega)] at this
                    exact this
                  have hp := parse_deed h2 (by rw [← HKD.out]; exact hk0) (by rw [← HKD.out]; exact hm) hN
                  rw [← HKD.out] at hp
                  have hfull : setAll { zeroDeed with kind := kd } ((kform kd).take (kform kd).length) D = deedWith kd D := by rw [List.take_of_length_le (Nat.le_refl _)]; rfl
                  have hcells := HCS'.out
                  rw [hfull] at hcells
                  generalize deedWith kd D = x at *
                  have c0 := hcells 0 _ rfl
                  have c1 := hcells 1 _ rfl
                  have c2 := hcells 2 _ rfl
                  have c3 := hcells 3 _ rfl
                  have c4 := hcells 4 _ rfl
                  have c5 := hcells 5 _ rfl
                  have c6 := hcells 6 _ rfl
                  simp only [Nat.zero_add] at c0 c1 c2 c3 c4 c5 c6
                  have HP := Lib.hid hp; clear hp
                  clear hcells hfull hN
                  go_wp2_with fail
                  all_goals
                    refine (ideedok x _).mono ?_
                    rintro e w6 ⟨rfl, hb6⟩
                    have HB6 := Lib.hid (HBB.out.trans (hb6.mono HBB.out.size))
                    obtain ⟨hc, hf⟩ := bcell HB6.out
                    have hwl := HOWN'.out.lt
                    replace c0 := (hb6.cell (p := ⟨w1.heap.size, 0, none⟩) hwl).trans c0
                    replace c1 := (hb6.cell (p := ⟨w1.heap.size, 1, none⟩) hwl).trans c1
                    replace c2 := (hb6.cell (p := ⟨w1.heap.size, 2, none⟩) hwl).trans c2
                    replace c3 := (hb6.cell (p := ⟨w1.heap.size, 3, none⟩) hwl).trans c3
                    replace c4 := (hb6.cell (p := ⟨w1.heap.size, 4, none⟩) hwl).trans c4
                    replace c5 := (hb6.cell (p := ⟨w1.heap.size, 5, none⟩) hwl).trans c5
                    replace c6 := (hb6.cell (p := ⟨w1.heap.size, 6, none⟩) hwl).trans c6
                    by_cases hok : deedOk x = true
                    · have e := HP.out
                      rw [if_pos hok] at e
                      have E := Lib.hid e; clear e
                      rw [hok]
                      go_wp2_with fail
                      exact idone HB6.out rfl l x 0 E.out _ rfl rfl rfl
                    · have e := HP.out
                      rw [if_neg hok] at e
                      have E := Lib.hid e; clear e
                      rw [show deedOk x = false from by simpa using hok]
                      go_wp2_with fail
                      exact idone HB6.out rfl l zeroDeed 5 E.out _ rfl rfl rfl
          · have hm1 : (((wordsOf l).length : Int) != ((kform kd).length : Int) + 1) = true := by simp; omega
            have e := parse_many h2 (by rw [← HKD.out]; exact hk0) (by rw [← HKD.out]; exact hm)
            have E := Lib.hid e; clear e
            go_wp2_with fail
            exact idone HB1.out rfl l zeroDeed 3 E.out _ rfl rfl rfl
end Go.Proofs.YtdejncnjaebjfaaDoor
