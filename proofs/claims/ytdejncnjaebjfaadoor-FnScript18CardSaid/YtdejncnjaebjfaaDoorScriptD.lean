/-
  ScriptText of the program and of the reference.
-/
import Derived.Test.YtdejncnjaebjfaaDoorLine
import Derived.Test.YtdejncnjaebjfaaDoorTyDeed
namespace Go.Proofs.YtdejncnjaebjfaaDoor
set_option linter.unusedVariables false
set_option linter.unusedSimpArgs false
open Go.ChangeShapes Go.WideShapes Go.ChangeAt Go.RowKit

def lineNl (x : MDeed) : List UInt8 := lineOf x ++ [10]
def scriptRes (xs : List MDeed) : List UInt8 × Bool :=
  if 300 < xs.length then ([], false) else
  if xs.all deedOk = true then (if 20000 < (xs.flatMap lineNl).length then ([], false) else (xs.flatMap lineNl, true)) else ([], false)
def ret_script (xs : List MDeed) : Ending := .returned (.tuple #[.string (bs (scriptRes xs).1), .bool (scriptRes xs).2])

theorem flat_nl {l : List MDeed} {k : Nat} {x : MDeed} (h : l[k]? = some x) : (l.take (k + 1)).flatMap lineNl = (l.take k).flatMap lineNl ++ (lineOf x ++ [10]) := by
  rw [List.take_add_one, h]
  simp [lineNl]
theorem flat_nl_len (l : List MDeed) (h : ∀ x ∈ l, x.wf) : (l.flatMap lineNl).length ≤ l.length * 71 := by
  induction l with
  | nil => simp
  | cons n t ih =>
    have h1 := ih (fun m hm => h m (by simp [hm]))
    have h2 := line_len (h n (by simp))
    simp only [List.flatMap_cons, List.length_append, List.length_cons, lineNl, List.length_nil]
    omega
theorem wf_all {lo : Nat} {w : World} {v : Value} {xs : List MDeed} (h : SlR 7 RDeed lo w v xs) : ∀ x ∈ xs, x.wf := by
  intro x hx
  obtain ⟨i, hi⟩ := List.getElem?_of_mem hx
  obtain ⟨A, c, e, h1, h2, h3⟩ := h
  obtain ⟨b, o, cs, _, _, _, _, hr⟩ := h3 i x hi
  exact hr.2

set_option maxHeartbeats 1000000 in
theorem sscript (A : Option Addr) (c : Nat) (xs : List MDeed) (w : World) (lo : Nat) (h : SlR 7 RDeed lo w (.slice A xs.length c) xs) (hn : xs.length ≤ 1048576) :
    Calls Tryd.prog 18 #[.slice A xs.length c] w fun e w' => e = ret_script xs ∧ Below w.heap.size w w' := by
  have hwf := wf_all h
  have HWF := Lib.hid hwf
  have H := Lib.hid h; clear h hwf
  by_cases h3 : (xs.length : Int) > 300
  · have e : scriptRes xs = ([], false) := by unfold scriptRes; rw [if_pos (by omega)]
    have E := Lib.hid e; clear e
    go_enter Tryd.func18, Tryd.ntmps18
    go_wp2_with fail
    go_ret2
    exact ⟨by unfold ret_script; rw [E.out]; rfl, Below.refl _ _⟩
  · go_enter Tryd.func18, Tryd.ntmps18
    go_wp2_with fail
    go_loopw [4, 5] (fun o i wr => ∃ k : Nat, k ≤ xs.length ∧ i = .int .i64 (k : Int) ∧ o = .string (bs ((xs.take k).flatMap lineNl)) ∧ RowKit.Hid (∀ j z, j < k → xs[j]? = some z → deedOk z = true) ∧ Below w.heap.size w wr) (fun _ i _ => xs.length - (intOf i).toNat)
    case atStart => exact ⟨0, by omega, rfl, rfl, (fun j z hj => absurd hj (by omega)), Below.refl _ _⟩
    case round =>
      obtain ⟨k, hk, rfl, rfl, hall, hb⟩ := hrel
      have hlen : ((xs.take k).flatMap lineNl).length ≤ 21300 := by
        have := flat_nl_len (xs.take k) (fun x hx => HWF.out x (List.mem_of_mem_take hx))
        rw [List.length_take] at this
        omega
      by_cases hlt : k < xs.length
      · obtain ⟨x, b, o, hx, rfl, _, _, hb1, g0, g1, g2, g3, g4, g5, g6, hw⟩ := H.out.getDeed (Agree.of_below hb lo) hlt
        have ht := flat_nl hx
        have HT := Lib.hid ht; have HX := Lib.hid hx
        have hll := line_len hw
        have hl := fun w => sline x w hw
        unfold ret_line lineRes at hl
        generalize hyy : (List.take k xs).flatMap lineNl = y at *
        have HYY := Lib.hid hyy
        clear ht hx hw hyy
        by_cases hok : deedOk x = true
        · rw [if_pos hok] at hl
          simp only at hl
          generalize hz : lineOf x = z at *
          have HZ := Lib.hid hz; have HL := Lib.hid hl; have HOK := Lib.hid hok
          clear hz hl hok
          have L1 : ¬ 9223372036854775807 < y.length + z.length := by omega
          have L2 : ¬ 9223372036854775807 < y.length + z.length + 1 := by omega
          have L3 : ¬ 9223372036854775807 < z.length + 1 := by omega
          have L4 : ¬ 9223372036854775807 < y.length + (z.length + 1) := by omega
          go_wp2_with fail
          refine (HL.out _).mono ?_
          rintro e w1 ⟨rfl, hb2⟩
          have hb3 : Below w.heap.size w w1 := hb.trans (hb2.mono hb.size)
          have HB3 := Lib.hid hb3; clear hb2 hb3
          go_wp2_with fail
          go_roundw
          case rel =>
            refine ⟨k + 1, by omega, by go_num, by rw [HT.out]; try simp, fun j u hj hu => ?_, HB3.out⟩
            by_cases e : j = k
            · subst e
              have := HX.out
              rw [this] at hu
              injection hu with hu
              subst hu
              exact HOK.out
            · exact hall.out j u (by omega) hu
          case measure => simp [intOf]; omega
        · rw [if_neg hok] at hl
          simp only at hl
          have e : scriptRes xs = ([], false) := by
            unfold scriptRes
            rw [if_neg (by omega), if_neg]
            rw [List.all_eq_true]
            intro h
            exact hok (h x (List.mem_of_getElem? HX.out))
          have HL := Lib.hid hl; have E := Lib.hid e
          clear hl hok e
          go_wp2_with fail
          refine (HL.out _).mono ?_
          rintro e w1 ⟨rfl, hb2⟩
          have hb3 : Below w.heap.size w w1 := hb.trans (hb2.mono hb.size)
          have HB3 := Lib.hid hb3; clear hb2 hb3
          go_wp2_with fail
          go_ret2
          exact ⟨by unfold ret_script; rw [E.out]; rfl, HB3.out⟩
      · obtain rfl : k = xs.length := by omega
        have hal : xs.all deedOk = true := by
          rw [List.all_eq_true]
          intro x hx
          obtain ⟨i, hi⟩ := List.getElem?_of_mem hx
          exact hall.out i x (List.getElem?_eq_some_iff.1 hi).1 hi
        rw [List.take_of_length_le (Nat.le_refl _)] at *
        by_cases hbig : ((xs.flatMap lineNl).length : Int) > 20000
        · have e : scriptRes xs = ([], false) := by unfold scriptRes; rw [if_neg (by omega), if_pos hal, if_pos (by omega)]
          have E := Lib.hid e; clear e hal
          generalize xs.flatMap lineNl = y at *
          go_wp2_with fail
          go_ret2
          exact ⟨by unfold ret_script; rw [E.out]; rfl, hb⟩
        · have e : scriptRes xs = (xs.flatMap lineNl, true) := by unfold scriptRes; rw [if_neg (by omega), if_pos hal, if_neg (by omega)]
          have E := Lib.hid e; clear e hal
          generalize xs.flatMap lineNl = y at *
          go_wp2_with fail
          go_ret2
          exact ⟨by unfold ret_script; rw [E.out]; rfl, hb⟩

set_option maxHeartbeats 1000000 in
theorem iscript (A : Option Addr) (c : Nat) (xs : List MDeed) (w : World) (lo : Nat) (h : SlR 7 RDeed lo w (.slice A xs.length c) xs) (hn : xs.length ≤ 1048576) :
    Calls Tryd.prog 17 #[.slice A xs.length c] w fun e w' => e = ret_script xs ∧ Below w.heap.size w w' := by
  have hwf := wf_all h
  have HWF := Lib.hid hwf
  have H := Lib.hid h; clear h hwf
  by_cases h3 : (xs.length : Int) > 300
  · have e : scriptRes xs = ([], false) := by unfold scriptRes; rw [if_pos (by omega)]
    have E := Lib.hid e; clear e
    go_enter Tryd.func17, Tryd.ntmps17
    go_wp2_with fail
    go_ret2
    exact ⟨by unfold ret_script; rw [E.out]; rfl, Below.refl _ _⟩
  · go_enter Tryd.func17, Tryd.ntmps17
    go_wp2_with fail
    go_loopw [4, 14] (fun o i wr => ∃ k : Nat, k ≤ xs.length ∧ i = .int .i64 (k : Int) ∧ o = .string (bs ((xs.take k).flatMap lineNl)) ∧ RowKit.Hid (∀ j z, j < k → xs[j]? = some z → deedOk z = true) ∧ Below w.heap.size w wr) (fun _ i _ => xs.length - (intOf i).toNat)
    case atStart => exact ⟨0, by omega, rfl, rfl, (fun j z hj => absurd hj (by omega)), Below.refl _ _⟩
    case round =>
      obtain ⟨k, hk, rfl, rfl, hall, hb⟩ := hrel
      have hlen : ((xs.take k).flatMap lineNl).length ≤ 21300 := by
        have := flat_nl_len (xs.take k) (fun x hx => HWF.out x (List.mem_of_mem_take hx))
        rw [List.length_take] at this
        omega
      by_cases hlt : k < xs.length
      · obtain ⟨x, b, o, hx, rfl, _, _, hb1, g0, g1, g2, g3, g4, g5, g6, hw⟩ := H.out.getDeed (Agree.of_below hb lo) hlt
        have ht := flat_nl hx
        have HT := Lib.hid ht; have HX := Lib.hid hx
        have hll := line_len hw
        have hl := fun w => iline x w hw
        unfold ret_line lineRes at hl
        generalize hyy : (List.take k xs).flatMap lineNl = y at *
        have HYY := Lib.hid hyy
        clear ht hx hw hyy
        by_cases hok : deedOk x = true
        · rw [if_pos hok] at hl
          simp only at hl
          generalize hz : lineOf x = z at *
          have HZ := Lib.hid hz; have HL := Lib.hid hl; have HOK := Lib.hid hok
          clear hz hl hok
          have L1 : ¬ 9223372036854775807 < y.length + z.length := by omega
          have L2 : ¬ 9223372036854775807 < y.length + z.length + 1 := by omega
          have L3 : ¬ 9223372036854775807 < z.length + 1 := by omega
          have L4 : ¬ 9223372036854775807 < y.length + (z.length + 1) := by omega
          go_wp2_with fail
          refine (HL.out _).mono ?_
          rintro e w1 ⟨rfl, hb2⟩
          have hb3 : Below w.heap.size w w1 := (hb.alloc hb.size _).trans (hb2.mono (by have := hb.size; simp; omega))
          have HB3 := Lib.hid hb3; clear hb2 hb3
          go_wp2_with fail
          go_roundw
          case rel =>
            refine ⟨k + 1, by omega, by go_num, by rw [HT.out]; try simp, fun j u hj hu => ?_, HB3.out⟩
            by_cases e : j = k
            · subst e
              have := HX.out
              rw [this] at hu
              injection hu with hu
              subst hu
              exact HOK.out
            · exact hall.out j u (by omega) hu
          case measure => simp [intOf]; omega
        · rw [if_neg hok] at hl
          simp only at hl
          have e : scriptRes xs = ([], false) := by
            unfold scriptRes
            rw [if_neg (by omega), if_neg]
            rw [List.all_eq_true]
            intro h
            exact hok (h x (List.mem_of_getElem? HX.out))
          have HL := Lib.hid hl; have E := Lib.hid e
          clear hl hok e
          go_wp2_with fail
          refine (HL.out _).mono ?_
          rintro e w1 ⟨rfl, hb2⟩
          have hb3 : Below w.heap.size w w1 := (hb.alloc hb.size _).trans (hb2.mono (by have := hb.size; simp; omega))
          have HB3 := Lib.hid hb3; clear hb2 hb3
          go_wp2_with fail
          go_ret2
          exact ⟨by unfold ret_script; rw [E.out]; rfl, HB3.out⟩
      · obtain rfl : k = xs.length := by omega
        have hal : xs.all deedOk = true := by
          rw [List.all_eq_true]
          intro x hx
          obtain ⟨i, hi⟩ := List.getElem?_of_mem hx
          exact hall.out i x (List.getElem?_eq_some_iff.1 hi).1 hi
        rw [List.take_of_length_le (Nat.le_refl _)] at *
        by_cases hbig : ((xs.flatMap lineNl).length : Int) > 20000
        · have e : scriptRes xs = ([], false) := by unfold scriptRes; rw [if_neg (by omega), if_pos hal, if_pos (by omega)]
          have E := Lib.hid e; clear e hal
          generalize xs.flatMap lineNl = y at *
          go_wp2_with fail
          go_ret2
          exact ⟨by unfold ret_script; rw [E.out]; rfl, hb⟩
        · have e : scriptRes xs = (xs.flatMap lineNl, true) := by unfold scriptRes; rw [if_neg (by omega), if_pos hal, if_neg (by omega)]
          have E := Lib.hid e; clear e hal
          generalize xs.flatMap lineNl = y at *
          go_wp2_with fail
          go_ret2
          exact ⟨by unfold ret_script; rw [E.out]; rfl, hb⟩
end Go.Proofs.YtdejncnjaebjfaaDoor
