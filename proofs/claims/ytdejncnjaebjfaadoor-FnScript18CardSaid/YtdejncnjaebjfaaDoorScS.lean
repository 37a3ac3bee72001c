/-
  ParseScript of the reference.
-/
import Derived.Test.YtdejncnjaebjfaaDoorScP
import Derived.Test.YtdejncnjaebjfaaDoorParseS
namespace Go.Proofs.YtdejncnjaebjfaaDoor
set_option linter.unusedVariables false
set_option linter.unusedSimpArgs false
open Go.ChangeShapes Go.WideShapes Go.ChangeAt Go.RowKit

def rows7 (D : List MDeed) : List Value := D.flatMap row7
theorem rows7_add (D : List MDeed) (x : MDeed) : rows7 (D ++ [x]) = rows7 D ++ row7 x := by simp [rows7]
theorem info_deed : (Tryd.prog.info? 23).map (fun i => (i.zero, i.size, i.bytes)) = some (some (.agg #[.int .i64 0, .int .i64 0, .int .i64 0, .int .i64 0, .int .i64 0, .int .i64 0, .int .i64 0]), 7, 56) := by kernel_rfl
theorem own_form {w : World} {base s : Nat} {t : TypeId} {v : Value} {n : Nat} {xs : List Value} (h : w.ownsRow base t s v n xs) (hn : n ≤ 1048576) : ∃ A c, v = .slice A n c := by
  rcases h.2 with ⟨rfl, h0⟩ | ⟨g, cap, cur, rfl, hb, hh, h1, h2, h3, h4⟩
  · subst h0; exact ⟨none, 0, rfl⟩
  · exact ⟨_, cap, rfl⟩
/-- what both return: the row is their own -/
def RetScr (w w' : World) (e : Ending) (p : List MDeed × Int) : Prop :=
  ∃ v, e = .returned (.tuple #[v, .int .i64 (p.1.length : Int), .int .i64 p.2]) ∧ w'.ownsRow w.heap.size 23 7 v p.1.length (rows7 p.1) ∧ Below w.heap.size w w'

theorem rows7_len (D : List MDeed) : (rows7 D).length = D.length * 7 := by
  induction D with
  | nil => rfl
  | cons x t ih =>
    show (row7 x ++ rows7 t).length = _
    rw [List.length_append, ih]
    simp [row7]
    omega
theorem rows7_get {D : List MDeed} {i j : Nat} {x : MDeed} {u : Value} (hx : D[i]? = some x) (hu : (row7 x)[j]? = some u) : (rows7 D)[i * 7 + j]? = some u := by
  have hj : j < 7 := (List.getElem?_eq_some_iff.1 hu).1
  induction D generalizing i with
  | nil => simp at hx
  | cons y t ih =>
    show (row7 y ++ rows7 t)[i * 7 + j]? = _
    cases i with
    | zero =>
      simp at hx
      subst hx
      rw [List.getElem?_append_left (by simp [row7]; omega), Nat.zero_mul, Nat.zero_add]
      exact hu
    | succ i =>
      rw [List.getElem?_append_right (by simp [row7]; omega)]
      have := ih (i := i) (by simpa using hx)
      rw [show (i + 1) * 7 + j - (row7 y).length = i * 7 + j from by simp [row7]; omega]
      exact this
theorem own_deeds {w : World} {base : Nat} {v : Value} {l : List MDeed} (h : w.ownsRow base 23 7 v l.length (rows7 l)) (hs : ∀ x ∈ l, x.wf) (hm : l.length ≤ 1048576) : SlR 7 RDeed base w v l := by
  rcases h.2 with ⟨rfl, h0⟩ | ⟨g, cap, cur, rfl, hb, hh, h1, h2, h3, h4⟩
  · obtain rfl : l = [] := List.eq_nil_of_length_eq_zero h0
    exact SlR.nil _ _ _ _ _
  · unfold maxLen at h2
    refine ⟨_, cap, rfl, h1, h2, fun i x hx => ⟨g, 0, row7 x, rfl, hb, rfl, fun j u hu => ?_, rfl, hs x (List.mem_of_getElem? hx)⟩⟩
    have hi := (List.getElem?_eq_some_iff.1 hx).1
    have hj : j < 7 := (List.getElem?_eq_some_iff.1 hu).1
    rw [Nat.zero_add, World.ownsRow.cellAt h (i * 7 + j) (by omega)]
    exact rows7_get hx hu

theorem news7 {W : World} {t : TypeId} {n : Nat} (x : MDeed) (hn : W.heap.size = n) : ∀ j u, (row7 x)[j]? = some u → (W.alloc (.cells (row7 x).toArray t)).cell? ((⟨n, 0, none⟩ : Addr).add j) = some u := by
  subst hn
  intro j u hu
  have hn := heap_alloc_new W (Obj.cells (row7 x).toArray t)
  rw [add_mk, Nat.zero_add]
  generalize W.alloc (Obj.cells (row7 x).toArray t) = W' at hn
  simpa [World.cell?, hn] using hu

set_option maxRecDepth 100000 in
set_option maxHeartbeats 1000000 in
theorem sscr (l : List UInt8) (w : World) (hl : l.length ≤ 9223372036854775807) :
    Calls Tryd.prog 10 #[.string (bs l)] w fun e w' => RetScr w w' e (parseScript l) := by
  by_cases h2 : 20000 < l.length
  · have h4 : (20000 : Int) < (l.length : Int) := by omega
    rw [script_long h2]
    go_enter Tryd.func10, Tryd.ntmps10
    go_wp2_with fail
    refine bodyPost_ret (v := .tuple #[.slice (some ⟨w.heap.size, 0, none⟩) 0 0, .int .i64 0, .int .i64 1]) (by simp [results, Tryd.results10, go_sem]) rfl ⟨_, rfl, World.ownsRow_lit w #[] 0 (Nat.le_refl _) (by unfold maxLen; omega) rfl, (Below.refl _ _).alloc (Nat.le_refl _) _⟩
  · have h4 : ¬ (20000 : Int) < (l.length : Int) := by omega
    have hps := script_short h2
    have HPS := Lib.hid hps; clear hps
    obtain ⟨i0, hi, hz0, hz1, hz2⟩ := info_parts info_deed
    go_enter Tryd.func10, Tryd.ntmps10
    go_wp2_with fail
    go_loopw [5, 6] (fun v fr wr => ∃ (D : List MDeed) (f : Nat), f ≤ l.length ∧ fr = .int .i64 (f : Int) ∧ RowKit.Hid (pS (l.drop f) D = parseScript l) ∧ D.length ≤ 300 ∧ Below w.heap.size w wr ∧ wr.ownsRow w.heap.size 23 7 v D.length (rows7 D)) (fun _ fr _ => l.length - (intOf fr).toNat)
    case atStart => exact ⟨[], 0, by omega, rfl, HPS.out.symm, by simp, (Below.refl _ _).alloc (Nat.le_refl _) _, World.ownsRow_lit w #[] 0 (Nat.le_refl _) (by unfold maxLen; omega) rfl⟩
    case round =>
      obtain ⟨D, f, hf, rfl, hst, hD, hb, hown⟩ := hrel
      obtain ⟨A, c, rfl⟩ := own_form hown (by omega)
      have HST := Lib.hid hst.out; clear hst
      by_cases hlt : f < l.length
      · have hne := drop_ne hlt
        have HNE := Lib.hid hne; clear hne
        by_cases hfull : D.length = 300
        · have hf1 : ((D.length : Int) == 300) = true := by rw [beq_iff_eq]; omega
          have hr := pS_full HNE.out hfull
          rw [HST.out] at hr
          have HR := Lib.hid hr; clear hr
          go_wp2_with fail
          refine bodyPost_ret (v := .tuple #[.slice A D.length c, .int .i64 (D.length : Int), .int .i64 1]) (by simp [results, Tryd.results10, go_sem, hfull]) rfl ⟨_, by rw [HR.out], by rw [HR.out]; exact hown, hb⟩
        · have hf1 : ((D.length : Int) == 300) = false := by rw [beq_eq_false_iff_ne]; omega
          go_wp2_with fail
          go_loopw [7] (fun t wr' => ∃ k : Nat, f ≤ k ∧ k ≤ l.length ∧ t = .int .i64 (k : Int) ∧ RowKit.Hid (∀ j, f ≤ j → j < k → bAt l j ≠ 10) ∧ wr' = wr) (fun t _ => l.length - (intOf t).toNat)
          case atStart => exact ⟨f, by omega, by omega, rfl, (fun j h1 h2 => absurd h1 (by omega)), rfl⟩
          case round =>
            obtain ⟨k, hfk, hk, rfl, hno, rfl⟩ := hrel
            by_cases hkl : k < l.length
            · by_cases hs : bAt l k = 10
              · have hs' : (bAt l k != 10) = false := by simpa using hs
                have hcut := cut_take hfk hkl hs hno.out
                have HCUT := Lib.hid hcut
                have hkn : ((k : Int) == (l.length : Int)) = false := by rw [beq_eq_false_iff_ne]; omega
                have hp := fun w => sparse ((l.take k).drop f) w (by simp; omega)
                have hpw := parse_wf ((l.take k).drop f)
                have hpc := parse_cases ((l.take k).drop f)
                clear hno hs hcut
                unfold ret_parse at hp
                generalize hx : parseDeed ((l.take k).drop f) = p at hp hpw hpc
                obtain ⟨x, n⟩ := p
                simp only [deedV] at hp hpw hpc
                have HP := Lib.hid hp; have HX := Lib.hid hx; have HPW := Lib.hid hpw; have HPC := Lib.hid hpc; clear hp hx hpw hpc
                by_cases hn : n = 0
                · subst hn
                  have hnext := pS_next hfull HCUT.out (by rw [HX.out])
                  rw [HST.out, HX.out] at hnext
                  have HN := Lib.hid hnext; clear hnext
                  go_wp2_with fail
                  refine (HP.out _).mono ?_
                  rintro e w1 ⟨rfl, hb1⟩
                  have HB1 := Lib.hid (hb.trans (hb1.mono hb.size))
                  have HO := Lib.hid (own_call hown hb1)
                  clear hb1
                  go_wp2_with (at_builtin; refine wpList_append_own _ rfl (.tmp 59) (.tmp 61) 28 rfl w.heap.size 23 i0 _ 7 56 Tryd.underlying28 hi hz0 hz1 hz2 rfl (by omega) _ D.length _ rfl (own_call HO.out (by repeat (first | exact Below.refl _ _ | refine Below.alloc ?_ (by first | omega | (simp; done) | (simp; omega)) _ | refine Below.setCell ?_ (by first | omega | (simp; done) | (simp; omega)) _))) ⟨w1.heap.size + 1, 0, none⟩ 1 1 (row7 x) rfl rfl (news7 x (by simp)) (by intro u hu; simp [row7] at hu; rcases hu with rfl | rfl | rfl | rfl | rfl | rfl | rfl <;> rfl) (by unfold maxLen; omega) (by omega) (by have := HB1.out.size; simp; omega) ?_)
                  rintro v' w' h1 h2 h3
                  have HO2 : w'.ownsRow w.heap.size 23 7 v' (D ++ [x]).length (rows7 (D ++ [x])) := by
                    rw [rows7_add, List.length_append]
                    exact h1
                  have HB2 : Below w.heap.size w w' := Below.grown (by repeat (first | exact HB1.out | exact Below.refl _ _ | refine Below.alloc ?_ (by first | omega | (simp; done) | (have := HB1.out.size; simp; omega)) _ | refine Below.setCell ?_ (by first | omega | (simp; done) | (have := HB1.out.size; simp; omega)) _)) h2 (by have := HB1.out.size; simp; omega) (own_ge hown)
                  clear h1 h2 h3
                  go_wp2_with fail
                  go_roundw
                  case rel => exact ⟨D ++ [x], k + 1, by omega, by go_num, HN.out.symm, by simp; omega, HB2, HO2⟩
                  case measure => simp [intOf] <;> omega
                · have hn1 : (n == 0) = false := by rw [beq_eq_false_iff_ne]; exact hn
                  have hr := pS_bad hfull HCUT.out (by rw [HX.out]; exact hn)
                  rw [HST.out, HX.out] at hr
                  have HR := Lib.hid hr; clear hr
                  go_wp2_with fail
                  refine (HP.out _).mono ?_
                  rintro e w1 ⟨rfl, hb1⟩
                  have HB1 := Lib.hid (hb.trans (hb1.mono hb.size))
                  have HO := Lib.hid (own_call hown hb1)
                  clear hb1
                  go_wp2_with fail
                  refine bodyPost_ret (v := .tuple #[.slice A D.length c, .int .i64 (D.length : Int), .int .i64 n]) (by simp [results, Tryd.results10, go_sem]) rfl ⟨_, by rw [HR.out], by rw [HR.out]; exact (own_call HO.out (by repeat (first | exact Below.refl _ _ | refine Below.alloc ?_ (by first | omega | (simp; done) | (simp; omega)) _ | refine Below.setCell ?_ (by first | omega | (simp; done) | (simp; omega)) _))), (by repeat (first | exact HB1.out | exact Below.refl _ _ | refine Below.alloc ?_ (by first | omega | (simp; done) | (have := HB1.out.size; simp; omega)) _ | refine Below.setCell ?_ (by first | omega | (simp; done) | (have := HB1.out.size; simp; omega)) _))⟩
              · have hs' : (bAt l k != 10) = true := by simpa using hs
                have hno2 : ∀ j, f ≤ j → j < k + 1 → bAt l j ≠ 10 := by
                  intro j h1 h2
                  by_cases e : j = k
                  · rw [e]; exact hs
                  · exact hno.out j h1 (by omega)
                have HNO := Lib.hid hno2; clear hno2
                go_wp2_with fail
                go_roundw
                case rel => exact ⟨k + 1, by omega, by omega, by go_num, HNO.out, trivial⟩
                case measure => simp [intOf] <;> omega
            · obtain rfl : k = l.length := by omega
              have hr := pS_end HNE.out hfull (cut_last hno.out)
              rw [HST.out] at hr
              have HR := Lib.hid hr; clear hr hno
              have hkn : ((l.length : Int) == (l.length : Int)) = true := beq_self_eq_true _
              go_wp2_with fail
              refine bodyPost_ret (v := .tuple #[.slice A D.length c, .int .i64 (D.length : Int), .int .i64 6]) (by simp [results, Tryd.results10, go_sem]) rfl ⟨_, by rw [HR.out], by rw [HR.out]; exact hown, hb⟩
      · obtain rfl : f = l.length := by omega
        have hr := HST.out
        rw [List.drop_length, pS_nil] at hr
        replace hr := hr.symm
        have HR := Lib.hid hr; clear hr
        go_wp2_with fail
        refine bodyPost_ret (v := .tuple #[.slice A D.length c, .int .i64 (D.length : Int), .int .i64 0]) (by simp [results, Tryd.results10, go_sem]) rfl ⟨_, by rw [HR.out], by rw [HR.out]; exact hown, hb⟩
end Go.Proofs.YtdejncnjaebjfaaDoor
