/-
  ParseScript of the program.
-/
import Derived.Test.YtdejncnjaebjfaaDoorScS
import Derived.Test.YtdejncnjaebjfaaDoorParseI
namespace Go.Proofs.YtdejncnjaebjfaaDoor
set_option linter.unusedVariables false
set_option linter.unusedSimpArgs false
open Go.ChangeShapes Go.WideShapes Go.ChangeAt Go.RowKit

theorem icut (l : List UInt8) (w : World) (m : Int) (hm : w.cell? ⟨0, 0, none⟩ = some (.int .i64 m)) (hl : l.length ≤ 20000) :
    Calls Tryd.prog 34 #[.string (bs l), .string (bs [10])] w fun e w' => e = .returned (.tuple #[.string (bs (Lib.cut l [10]).1), .string (bs (Lib.cut l [10]).2.1), .bool (Lib.cut l [10]).2.2]) ∧ ∃ n, w' = w.drewN n := by
  have h := Tryd.strings_Cut (bs l) (bs [10]) m w (by simp [bs, ByteArray.size]; omega) hm
  have e1 : (bs l).data.toList = l := by simp [bs]
  have e2 : (bs [10]).data.toList = [10] := by simp [bs]
  rw [e1, e2] at h
  exact h

def strLen : Value → Nat
  | .string s => s.size
  | _ => 0

set_option maxRecDepth 100000 in
set_option maxHeartbeats 1000000 in
theorem iscr (l : List UInt8) (w : World) (m : Int) (hm : w.cell? ⟨0, 0, none⟩ = some (.int .i64 m)) (hl : l.length ≤ 9223372036854775807) :
    Calls Tryd.prog 11 #[.string (bs l)] w fun e w' => RetScr w w' e (parseScript l) := by
  by_cases h2 : 20000 < l.length
  · have h4 : (20000 : Int) < (l.length : Int) := by omega
    rw [script_long h2]
    go_enter Tryd.func11, Tryd.ntmps11
    go_wp2_with fail
    refine bodyPost_ret (v := .tuple #[.slice none 0 0, .int .i64 0, .int .i64 1]) (by simp [results, Tryd.results11, go_sem]) rfl ⟨_, rfl, ⟨rfl, .inl ⟨rfl, rfl⟩⟩, Below.refl _ _⟩
  · have h4 : ¬ (20000 : Int) < (l.length : Int) := by omega
    have hps := script_short h2
    have HPS := Lib.hid hps; clear hps
    have HL := Lib.hid (show l.length ≤ 20000 by omega)
    have HM := Lib.hid hm; clear hm
    obtain ⟨i0, hi, hz0, hz1, hz2⟩ := info_parts info_deed
    go_enter Tryd.func11, Tryd.ntmps11
    go_wp2_with fail
    go_loopw [0, 5] (fun s v wr => ∃ (D : List MDeed) (r : List UInt8), r.length ≤ l.length ∧ s = .string (bs r) ∧ RowKit.Hid (pS r D = parseScript l) ∧ D.length ≤ 300 ∧ RowKit.Hid (Below w.heap.size w wr) ∧ wr.ownsRow w.heap.size 23 7 v D.length (rows7 D)) (fun s _ _ => strLen s)
    case atStart => exact ⟨[], l, by omega, rfl, HPS.out.symm, by simp, (Below.refl _ _).alloc (Nat.le_refl _) _, World.ownsRow_lit w #[] 0 (Nat.le_refl _) (by unfold maxLen; omega) rfl⟩
    case round =>
      obtain ⟨D, r, hr, rfl, hst, hD, hb, hown⟩ := hrel
      obtain ⟨A, c, rfl⟩ := own_form hown (by omega)
      have HST := Lib.hid hst.out; clear hst
      have hll := HL.out
      have hwr : w.heap.size ≤ wr.heap.size := hb.out.size
      by_cases hne : r = []
      · subst hne
        have hr := HST.out
        rw [pS_nil] at hr
        replace hr := hr.symm
        have HR := Lib.hid hr; clear hr
        go_wp2_with fail
        refine bodyPost_ret (v := .tuple #[.slice A D.length c, .int .i64 (D.length : Int), .int .i64 0]) (by simp [results, Tryd.results11, go_sem]) rfl ⟨_, by rw [HR.out], by rw [HR.out]; exact hown, hb.out⟩
      · have hne1 : (r == []) = false := by rw [beq_eq_false_iff_ne]; exact hne
        have hne2 : (r != []) = true := by simpa using hne
        have HMR := Lib.hid ((hb.out.cell (p := ⟨0, 0, none⟩) (cell_lt HM.out)).trans HM.out)
        have HNE := Lib.hid hne
        have hic := fun w hm => icut r w m hm (by omega)
        by_cases hfull : D.length = 300
        · have hf1 : ((D.length : Int) == 300) = true := by rw [beq_iff_eq]; omega
          have hr := pS_full HNE.out hfull
          rw [HST.out] at hr
          have HR := Lib.hid hr; clear hr
          have HIC := Lib.hid hic; clear hic
          go_wp2_with fail
          refine (HIC.out _ HMR.out).mono ?_
          rintro e w1 ⟨rfl, n1, rfl⟩
          go_wp2_with fail
          refine bodyPost_ret (v := .tuple #[.slice A D.length c, .int .i64 (D.length : Int), .int .i64 1]) (by simp [results, Tryd.results11, go_sem, hfull]) rfl ⟨_, by rw [HR.out], by rw [HR.out]; exact hown, below_drewN hb.out n1⟩
        · have hf1 : ((D.length : Int) == 300) = false := by rw [beq_eq_false_iff_ne]; omega
          cases hc : cutNl r with
          | none =>
            rw [cut_nl_none hc] at hic
            simp only at hic
            have HIC := Lib.hid hic; clear hic
            have hr := pS_end HNE.out hfull hc
            rw [HST.out] at hr
            have HR := Lib.hid hr; clear hr hc
            go_wp2_with fail
            refine (HIC.out _ HMR.out).mono ?_
            rintro e w1 ⟨rfl, n1, rfl⟩
            go_wp2_with fail
            refine bodyPost_ret (v := .tuple #[.slice A D.length c, .int .i64 (D.length : Int), .int .i64 6]) (by simp [results, Tryd.results11, go_sem]) rfl ⟨_, by rw [HR.out], by rw [HR.out]; exact hown, below_drewN hb.out n1⟩
          | some p =>
            obtain ⟨a, b⟩ := p
            have hcl := cut_nl_some hc
            have hlen : r.length = a.length + 1 + b.length := by rw [(cutNl_some hc).1]; simp; omega
            have HCUT := Lib.hid hc; clear hc
            rw [hcl] at hic
            simp only at hic
            have HIC := Lib.hid hic; clear hic hcl
            have hp := fun w hm => iparse a w m hm (by omega)
            have hpc := parse_cases a
            unfold ret_parse at hp
            generalize hx : parseDeed a = p at hp hpc
            obtain ⟨x, n⟩ := p
            simp only [deedV] at hp hpc
            have HP := Lib.hid hp; have HX := Lib.hid hx; have HPC := Lib.hid hpc; clear hp hx hpc
            go_wp2_with fail
            refine (HIC.out _ HMR.out).mono ?_
            rintro e w1 ⟨rfl, n1, rfl⟩
            by_cases hn : n = 0
            · subst hn
              have hnext := pS_next hfull HCUT.out (by rw [HX.out])
              rw [HST.out, HX.out] at hnext
              have HN := Lib.hid hnext; clear hnext
              go_wp2_with fail
              refine (HP.out (wr.drewN n1) HMR.out).mono ?_
              rintro e w1 ⟨rfl, hb1⟩
              have HB1 := Lib.hid ((below_drewN hb.out n1).trans (hb1.mono hb.out.size))
              have HO := Lib.hid (own_call (w := wr.drewN n1) hown hb1)
              clear hb1
              go_wp2_with (at_builtin; refine wpList_append_own _ rfl (.tmp 45) (.tmp 47) 28 rfl w.heap.size 23 i0 _ 7 56 Tryd.underlying28 hi hz0 hz1 hz2 rfl (by omega) _ D.length _ rfl (own_call HO.out (by repeat (first | exact Below.refl _ _ | refine Below.alloc ?_ (by first | omega | (simp; done) | (simp; omega)) _ | refine Below.setCell ?_ (by first | omega | (simp; done) | (simp; omega)) _))) ⟨w1.heap.size + 1, 0, none⟩ 1 1 (row7 x) rfl rfl (news7 x (by simp)) (by intro u hu; simp [row7] at hu; rcases hu with rfl | rfl | rfl | rfl | rfl | rfl | rfl <;> rfl) (by unfold maxLen; omega) (by omega) (by have := HB1.out.size; simp; omega) ?_)
              rintro v' w' h1 h2 h3
              have HO2 : w'.ownsRow w.heap.size 23 7 v' (D ++ [x]).length (rows7 (D ++ [x])) := by
                rw [rows7_add, List.length_append]
                exact h1
              have HB2 : Below w.heap.size w w' := Below.grown (by repeat (first | exact HB1.out | exact Below.refl _ _ | refine Below.alloc ?_ (by first | omega | (simp; done) | (have := HB1.out.size; simp; omega)) _ | refine Below.setCell ?_ (by first | omega | (simp; done) | (have := HB1.out.size; simp; omega)) _)) h2 (by have := HB1.out.size; simp; omega) (own_ge hown)
              clear h1 h2 h3
              go_wp2_with fail
              go_roundw
              case rel => exact ⟨D ++ [x], b, by omega, rfl, HN.out.symm, by simp; omega, HB2, HO2⟩
              case measure => simp [strLen, bs_size] <;> omega
            · have hn1 : (n == 0) = false := by rw [beq_eq_false_iff_ne]; exact hn
              have hr := pS_bad hfull HCUT.out (by rw [HX.out]; exact hn)
              rw [HST.out, HX.out] at hr
              have HR := Lib.hid hr; clear hr
              go_wp2_with fail
              refine (HP.out (wr.drewN n1) HMR.out).mono ?_
              rintro e w1 ⟨rfl, hb1⟩
              have HB1 := Lib.hid ((below_drewN hb.out n1).trans (hb1.mono hb.out.size))
              have HO := Lib.hid (own_call (w := wr.drewN n1) hown hb1)
              clear hb1
              go_wp2_with fail
              refine bodyPost_ret (v := .tuple #[.slice A D.length c, .int .i64 (D.length : Int), .int .i64 n]) (by simp [results, Tryd.results11, go_sem]) rfl ⟨_, by rw [HR.out], by rw [HR.out]; exact (own_call HO.out (by repeat (first | exact Below.refl _ _ | refine Below.alloc ?_ (by first | omega | (simp; done) | (simp; omega)) _ | refine Below.setCell ?_ (by first | omega | (simp; done) | (simp; omega)) _))), (by repeat (first | exact HB1.out | exact Below.refl _ _ | refine Below.alloc ?_ (by first | omega | (simp; done) | (have := HB1.out.size; simp; omega)) _ | refine Below.setCell ?_ (by first | omega | (simp; done) | (have := HB1.out.size; simp; omega)) _))⟩
end Go.Proofs.YtdejncnjaebjfaaDoor
