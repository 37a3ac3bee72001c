/-
  ParseDeed of the reference.
-/
import Derived.Test.YtdejncnjaebjfaaDoorParseA
import Derived.Test.YtdejncnjaebjfaaDoorLine
import Derived.Test.YtdejncnjaebjfaaDoorNumI
namespace Go.Proofs.YtdejncnjaebjfaaDoor
set_option linter.unusedVariables false
set_option linter.unusedSimpArgs false
open Go.ChangeShapes Go.WideShapes Go.ChangeAt Go.RowKit

def ret_parse (p : MDeed × Int) : Ending := .returned (.tuple #[deedV p.1, .int .i64 p.2])

theorem info_i64 : (Tryd.prog.info? 3).map (fun i => (i.zero, i.size, i.bytes)) = some (some (.int .i64 0), 1, 8) := by kernel_rfl
theorem own_ints {w : World} {base : Nat} {v : Value} {l : List Int} {n : Nat} (h : w.ownsRow base 3 1 v n (l.map (Value.int .i64))) (hn : l.length = n) (hs : ∀ x ∈ l, I64 x) (hm : n ≤ 1048576) : SlR 1 RInt base w v l := by
  subst hn
  rcases h.2 with ⟨rfl, h0⟩ | ⟨g, cap, cur, rfl, hb, hh, h1, h2, h3, h4⟩
  · obtain rfl : l = [] := List.eq_nil_of_length_eq_zero h0
    exact SlR.nil _ _ _ _ _
  · unfold maxLen at h2
    refine ⟨_, cap, rfl, h1, h2, fun i x hx => ⟨g, 0, [.int .i64 x], rfl, hb, rfl, fun j u hu => ?_, rfl, hs x (List.mem_of_getElem? hx)⟩⟩
    have hj : j = 0 := by
      have := (List.getElem?_eq_some_iff.1 hu).1
      simpa using this
    subst hj
    simp at hu
    subst hu
    have hi := (List.getElem?_eq_some_iff.1 hx).1
    rw [Nat.zero_add, Nat.mul_one, Nat.add_zero, World.ownsRow.cellAt h i (by omega)]
    rw [List.getElem?_map, hx]
    rfl
/-- a deed's cells -/
def row7 (x : MDeed) : List Value := [.int .i64 x.kind, .int .i64 x.at_, .int .i64 x.to, .int .i64 x.lo, .int .i64 x.hi, .int .i64 x.key, .int .i64 x.value]

theorem sdone {w wr : World} {cs : Array Value} {t : TypeId} (hb : Below (w.alloc (.cells cs t)).heap.size (w.alloc (.cells cs t)) wr) (hs : cs.size = 7) (l : List UInt8) (x : MDeed) (n : Int) (e : parseDeed l = (x, n)) (a : Act) (hd : a.defers = []) (ha : a.tmps[2]? = some (.pointer (some ⟨w.heap.size, 0, none⟩))) (hn : a.tmps[3]? = some (.int .i64 n)) :
    bodyPost Tryd.prog Tryd.f7 (fun e w' => e = ret_parse (parseDeed l) ∧ Below w.heap.size w w') Exit.ret a (setRow wr w.heap.size 0 (row7 x)) := by
  have ho : Own wr w.heap.size t 7 := hs ▸ (Own.new w t cs).call hb
  have hc := setRow_cells (row7 x) wr 0 ho (by simp [row7])
  have c0 := hc 0 _ rfl
  have c1 := hc 1 _ rfl
  have c2 := hc 2 _ rfl
  have c3 := hc 3 _ rfl
  have c4 := hc 4 _ rfl
  have c5 := hc 5 _ rfl
  have c6 := hc 6 _ rfl
  have hB : Below w.heap.size w (setRow wr w.heap.size 0 (row7 x)) :=
    (((Below.refl _ _).alloc (Nat.le_refl _) _).trans (hb.mono (by simp))).trans ((setRow_only _ _ _ _).below (Nat.le_refl _) (by have := hb.size; simp at this; omega))
  generalize setRow wr w.heap.size 0 (row7 x) = W at *
  simp only [Nat.zero_add] at c0 c1 c2 c3 c4 c5 c6
  refine bodyPost_ret (v := .tuple #[deedV x, .int .i64 n]) ?_ hd ⟨by rw [e]; rfl, hB⟩
  simp [results, Tryd.results7, go_sem, deedV, ha, hn, c0, c1, c2, c3, c4, c5, c6]

set_option maxRecDepth 100000 in
set_option maxHeartbeats 1000000 in
theorem sparse (l : List UInt8) (w : World) (hl : l.length ≤ 9223372036854775807) :
    Calls Tryd.prog 7 #[.string (bs l)] w fun e w' => e = ret_parse (parseDeed l) ∧ Below w.heap.size w w' := by
  by_cases h2 : 20000 < l.length
  · have h3 : ¬ (l.length : Int) ≤ 20000 := by omega
    have h4 : (20000 : Int) < (l.length : Int) := by omega
    rw [parse_long h2]
    go_enter Tryd.func7, Tryd.ntmps7
    go_wp2
    refine bodyPost_ret (v := .tuple #[deedV zeroDeed, .int .i64 1]) (by simp [results, Tryd.results7, go_sem, deedV, zeroDeed]) rfl ⟨rfl, ?_⟩
    exact ((Below.refl _ _).alloc (Nat.le_refl _) _)
  · have h4 : ¬ (20000 : Int) < (l.length : Int) := by omega
    obtain ⟨i0, hi, hz0, hz1, hz2⟩ := info_parts info_i64
    go_enter Tryd.func7, Tryd.ntmps7
    go_wp2_with fail
    refine (swords l _ (by omega)).mono ?_
    rintro e w1 ⟨v, rfl, hs, hb⟩
    obtain ⟨A, c, rfl, hn⟩ := hs.form
    have hsz := hb.size
    have HB := Lib.hid hb; have HS := Lib.hid hs; clear hs hb
    have h0 : 0 < (wordsOf l).length := List.length_pos_iff.2 (wordsOf_ne l)
    obtain ⟨x0, hx0⟩ : ∃ x, (wordsOf l).headD [] = x := ⟨_, rfl⟩
    have HX0 := Lib.hid hx0; clear hx0
    go_wp2_with fail
    go_loopw [5, 6] (fun kd k wr => ∃ j : Nat, j ≤ 15 ∧ k = .int .i64 ((j : Int) + 1) ∧ kd = .int .i64 (kindTo x0 j) ∧ Below w1.heap.size w1 wr) (fun _ k _ => 16 - (intOf k).toNat)
    case atStart => exact ⟨0, by omega, rfl, rfl, Below.refl _ _⟩
    case round =>
      obtain ⟨j, hj, rfl, rfl, hb⟩ := hrel
      by_cases hlt : j < 15
      · obtain ⟨x, b, o, cs, hx, rfl, _, hcl, hca, hr⟩ := HS.out.get RStr.ok (Agree.of_below hb _) h0
        have hx0 : x = x0 := by
          have := HX0.out
          cases hw : wordsOf l with
          | nil => exact absurd hw (wordsOf_ne l)
          | cons y r => rw [hw] at hx this; simp at hx this; rw [← hx, this]
        subst hx0
        have hcell : wr.cell? ⟨b, o, none⟩ = some (.string (bs x)) := by
          have := hca 0 (.string (bs x)) (by rw [hr.1]; rfl)
          simpa using this
        have hbl := cell_lt hcell
        clear hca hr hx hcl
        have hjj : 1 ≤ (j : Int) + 1 ∧ (j : Int) + 1 ≤ 15 := by omega
        go_wp2_with fail
        go_region_held3 (fun w' => w'.cell? ⟨b, o, none⟩ = some (.string (bs x)))
          (first
            | go_keep
            | exact (hb2.cell (p := ⟨b, o, none⟩) hbl).trans hcell)
          (first
            | (go_at_call 26; refine (sname ((j : Int) + 1) _ hjj).mono ?_; rintro e w2 ⟨rfl, hb2⟩))
        have hbw : Below w1.heap.size w1 w2 := hb.drew.trans (hb2.mono hb.size)
        have HBW := Lib.hid hbw
        clear hb hb2 hbw hcell
        by_cases he : kname (((j + 1 : Nat) : Int)) = x
        · have hek : kindTo x (j + 1) = (j : Int) + 1 := by unfold kindTo; rw [if_pos he]; omega
          have he2 : (x == kname ((j : Int) + 1)) = true := by rw [beq_iff_eq]; exact he.symm
          rw [he2]
          go_wp2_with fail
          go_roundw
          case rel => exact ⟨j + 1, by omega, by go_num, by rw [hek], HBW.out⟩
          case measure => simp [intOf] <;> omega
        · have hek : kindTo x (j + 1) = kindTo x j := by rw [show kindTo x (j + 1) = if kname ((j + 1 : Nat) : Int) = x then ((j + 1 : Nat) : Int) else kindTo x j from rfl, if_neg he]
          have he2 : (x == kname ((j : Int) + 1)) = false := by rw [beq_eq_false_iff_ne]; exact fun h => he h.symm
          rw [he2]
          go_wp2_with fail
          go_roundw
          case rel => exact ⟨j + 1, by omega, by go_num, by rw [hek], HBW.out⟩
          case measure => simp [intOf] <;> omega
      · obtain rfl : j = 15 := by omega
        have hkd : kindTo x0 15 = kindOf ((wordsOf l).headD []) := by rw [HX0.out]; rfl
        have hkb := kindTo_bd x0 15
        generalize kindTo x0 15 = kd at *
        have HKD := Lib.hid hkd; clear hkd
        have HB1 := Lib.hid (HB.out.trans (hb.mono HB.out.size))
        obtain ⟨hc, hf⟩ := bcell HB1.out
        by_cases hk0 : kd = 0
        · subst hk0
          have e := parse_word h2 HKD.out.symm
          have E := Lib.hid e; clear e
          go_wp2_with fail
          exact sdone HB1.out rfl l zeroDeed 2 E.out _ rfl rfl rfl
        · have hk0' : (kd == 0) = false := by rw [beq_eq_false_iff_ne]; exact hk0
          go_wp2_with fail
          have hwf : (⟨kd, 0, 0, 0, 0, 0, 0⟩ : MDeed).wf := by simp [MDeed.wf, I64]; omega
          have hrg : 1 ≤ kd ∧ kd ≤ 15 := by omega
          refine (snums ⟨kd, 0, 0, 0, 0, 0, 0⟩ _ hwf hrg).mono ?_
          rintro e w3 ⟨v, rfl, hs3, hb3⟩
          obtain ⟨A3, c3, rfl, _⟩ := hs3.form
          have hnl : (nums ⟨kd, 0, 0, 0, 0, 0, 0⟩).length = (kform kd).length := by unfold nums; rw [List.length_map]
          rw [hnl]
          clear hc hf
          have HB3 := Lib.hid (hb.trans (hb3.mono hb.size))
          have HB4 := Lib.hid (HB.out.trans (HB3.out.mono HB.out.size))
          clear hb hb3 HB1
          obtain ⟨hc, hf⟩ := bcell HB4.out
          have hkl := kform_len kd
          have HS3 := Lib.hid hs3; clear hs3
          by_cases hm : (wordsOf l).length = (kform kd).length + 1
          · have hm1 : (((wordsOf l).length : Int) != ((kform kd).length : Int) + 1) = false := by simp; omega
            go_wp2_with fail
            go_loopw [7, 8] (fun nv i wr => ∃ (k : Nat) (D : List Int), k ≤ (kform kd).length ∧ i = .int .i64 ((k : Int) + 1) ∧ numsOf ((wordsOf l).tail.take k) = some D ∧ D.length = k ∧ (∀ n ∈ D, I64 n) ∧ wr.ownsRow w3.heap.size 3 1 nv k (D.map (Value.int .i64)) ∧ Below w3.heap.size w3 wr) (fun _ i _ => 5 - (intOf i).toNat)
            case atStart => exact ⟨0, [], by omega, rfl, rfl, rfl, by simp, World.ownsRow_lit w3 #[] 0 (Nat.le_refl _) (by unfold maxLen; omega) rfl, (Below.refl _ _).alloc (Nat.le_refl _) _⟩
            case round =>
              obtain ⟨k, D, hk, rfl, hD, hDl, hDw, hown, hb⟩ := hrel
              have HOWN := Lib.hid hown; clear hown
              have HD := Lib.hid hD; clear hD
              have HDW := Lib.hid hDw; clear hDw
              have HDL := Lib.hid hDl; clear hDl
              have hnz : (((wordsOf l).length : Int)) = ((kform kd).length : Int) + 1 := by omega
              by_cases hlt : k < (kform kd).length
              · obtain ⟨x, b, o, cs, hx, rfl, _, hcl, hca, hr⟩ := HS.out.get RStr.ok (Agree.of_below (HB3.out.trans (hb.mono HB3.out.size)) _) (i := k + 1) (by omega)
                have hcell : wr.cell? ⟨b, o + (k + 1), none⟩ = some (.string (bs x)) := by
                  have := hca 0 (.string (bs x)) (by rw [hr.1]; rfl)
                  simpa using this
                have hbl := cell_lt hcell
                have HX := Lib.hid hx
                have hxl := hr.2
                clear hca hr hx hcl
                have hxt : (wordsOf l).tail[k]? = some x := by
                  have := HX.out
                  cases hw : wordsOf l with
                  | nil => rw [hw] at this; simp at this
                  | cons y r => rw [hw] at this; simpa using this
                have HXT := Lib.hid hxt; clear hxt
                go_wp2_with fail
                refine (snum x _ (by omega)).mono ?_
                rintro e w4 ⟨rfl, hb4⟩
                have HBB := Lib.hid (HB4.out.trans ((hb.trans (hb4.mono hb.size)).mono (by have := HB4.out.size; have := HB3.out.size; omega)))
                clear hcell hbl hc hf
                obtain ⟨hc, hf⟩ := bcell HBB.out
                unfold ret_num
                rcases numOf_cases x with ⟨v, hv, _, hv1, hv2⟩ | hv
                · rw [hv]
                  have HV := Lib.hid hv; clear hv
                  go_wp2_with (at_builtin; refine wpList_append_own _ rfl (.tmp 59) (.tmp 61) 46 rfl w3.heap.size 3 i0 _ 1 8 Tryd.underlying46 hi hz0 hz1 hz2 rfl (by omega) _ k _ rfl ((own_call HOWN.out hb4).alloc _) ⟨w4.heap.size, 0, none⟩ 1 1 [.int .i64 v] rfl rfl (cell_one_new _ _ _) (by intro u hu; simp at hu; subst hu; rfl) (by unfold maxLen; omega) (by omega) (by have := hb.size; have := hb4.size; simp; omega) ?_)
                  rintro v' w' q1 q2 q3
                  have HO : w'.ownsRow w3.heap.size 3 1 v' (k + 1) ((D ++ [v]).map (Value.int .i64)) := by rw [List.map_append]; exact q1
                  have HB' : Below w3.heap.size w3 w' := ((hb.trans (hb4.mono hb.size)).alloc (by have := hb.size; have := hb4.size; omega) _).grown q2 (by have := hb.size; have := hb4.size; simp; omega) (own_ge (own_call HOWN.out hb4))
                  have HN : numsOf ((wordsOf l).tail.take (k + 1)) = some (D ++ [v]) := by
                    rw [numsOf_take HXT.out, HV.out, if_pos rfl, HD.out]; rfl
                  have HN := Lib.hid HN
                  have HO := Lib.hid HO
                  have HB' := Lib.hid HB'
                  clear q1 q2 q3 hc hf
                  go_wp2_with fail
                  go_roundw
                  case rel =>
                    refine ⟨k + 1, D ++ [v], by omega, by go_num, HN.out, by simp [HDL.out], fun n hn => ?_, HO.out, HB'.out⟩
                    rcases List.mem_append.1 hn with hn | hn
                    · exact HDW.out n hn
                    · simp at hn; subst hn; unfold I64; omega
                  case measure => simp [intOf] <;> omega
                · rw [hv]
                  have e := parse_num h2 (by rw [← HKD.out]; exact hk0) (by rw [← HKD.out]; exact hm) (numsOf_bad HXT.out (by rw [hv]))
                  have E := Lib.hid e; clear e hv
                  go_wp2_with fail
                  exact sdone HBB.out rfl l zeroDeed 4 E.out _ rfl rfl rfl
              · obtain rfl : k = (kform kd).length := by omega
                have hN : numsOf (wordsOf l).tail = some D := by
                  have := HD.out
                  rw [List.take_of_length_le (by rw [List.length_tail]; omega)] at this
                  exact this
                have HS7 := own_ints HOWN.out HDL.out HDW.out (by omega)
                have hp := parse_deed h2 (by rw [← HKD.out]; exact hk0) (by rw [← HKD.out]; exact hm) hN
                rw [← HKD.out] at hp
                have HP := Lib.hid hp; clear hp
                have HN := Lib.hid hN; clear hN
                go_wp2_with fail
                refine (ldeed kd hrg D w3.heap.size _ _ HDL.out HS7).mono ?_
                rintro e w5 ⟨rfl, hb5⟩
                clear HS7 hc hf
                generalize deedWith kd D = x at *
                unfold deedV
                have HBB := Lib.hid (HB4.out.trans ((hb.trans (hb5.mono hb.size)).mono (by have := HB4.out.size; have := HB3.out.size; omega)))
                clear hb hb5
                go_wp2_with fail
                refine (sdeedok x _).mono ?_
                rintro e w6 ⟨rfl, hb6⟩
                have HB6 := Lib.hid (HBB.out.trans ((((Below.refl _ _).alloc (Nat.le_refl _) _).trans (hb6.mono (by simp))).mono HBB.out.size))
                obtain ⟨hc, hf⟩ := bcell HB6.out
                by_cases hok : deedOk x = true
                · have e := HP.out
                  rw [if_pos hok] at e
                  have E := Lib.hid e; clear e
                  rw [hok]
                  obtain ⟨hc2, hf2⟩ := bcell hb6
                  go_wp2_with fail
                  exact sdone HB6.out rfl l x 0 E.out _ rfl rfl rfl
                · have e := HP.out
                  rw [if_neg hok] at e
                  have E := Lib.hid e; clear e
                  rw [show deedOk x = false from by simpa using hok]
                  go_wp2_with fail
                  exact sdone HB6.out rfl l zeroDeed 5 E.out _ rfl rfl rfl
          · have hm1 : (((wordsOf l).length : Int) != ((kform kd).length : Int) + 1) = true := by simp; omega
            have e := parse_many h2 (by rw [← HKD.out]; exact hk0) (by rw [← HKD.out]; exact hm)
            have E := Lib.hid e; clear e
            go_wp2_with fail
            exact sdone HB4.out rfl l zeroDeed 3 E.out _ rfl rfl rfl
end Go.Proofs.YtdejncnjaebjfaaDoor
