/-
  The judge: what is small enough is copied; what is compared with itself is alike.
-/
import Derived.Test.YtdejncnjaebjfaaJ10
namespace Go.Proofs.Ytdejncnjaebjfaa
theorem total_mem {size : List D → Nat} : ∀ {rows : List (List D)} {r : List D}, r ∈ rows → size r ≤ total size rows
  | a :: l, r, h => by
    have e : total size (a :: l) = size a + total size l := by simp [total]
    rcases List.mem_cons.1 h with rfl | h
    · omega
    · have := total_mem (size := size) h
      omega
theorem okS {ok : List D → Bool} {size : List D → Nat} {z : D} {m : Nat} (hm : m ≤ 4294967296) (h : z.rows.length + total size z.rows ≤ m) (hr : ∀ r, size r ≤ m → ok r = true) : (decide (z.rows.length ≤ 4294967296) && z.rows.all fun r => ok r) = true := by
  simp only [Bool.and_eq_true, decide_eq_true_eq, List.all_eq_true]
  exact ⟨by omega, fun r hm => hr r (Nat.le_trans (total_mem hm) (by omega))⟩
theorem okF {ok : List D → Bool} {z : D} {m : Nat} (hm : m ≤ 4294967296) (h : z.rows.length ≤ m) (hr : ∀ r, ok r = true) : (decide (z.rows.length ≤ 4294967296) && z.rows.all fun r => ok r) = true := by
  simp only [Bool.and_eq_true, decide_eq_true_eq, List.all_eq_true]
  exact ⟨by omega, fun r _ => hr r⟩
theorem okIntS_of {z : D} {m : Nat} (hm : m ≤ 4294967296) (h : sizeIntS z ≤ m) : okIntS z = true := okF hm h fun _ => rfl
theorem okCellS_of {z : D} {m : Nat} (hm : m ≤ 4294967296) (h : sizeCellS z ≤ m) : okCellS z = true := okF (ok := fun r => okCell (sub r 0 2)) hm h fun _ => rfl
theorem okRangeS_of {z : D} {m : Nat} (hm : m ≤ 4294967296) (h : sizeRangeS z ≤ m) : okRangeS z = true := okF (ok := fun r => okRange (sub r 0 2)) hm h fun _ => rfl
theorem okWriteS_of {z : D} {m : Nat} (hm : m ≤ 4294967296) (h : sizeWriteS z ≤ m) : okWriteS z = true := okF (ok := fun r => okWrite (sub r 0 2)) hm h fun _ => rfl
theorem okShare_of {p : List D} {m : Nat} (hm : m ≤ 4294967296) (h : sizeShare p ≤ m) : okShare p = true := by
  unfold sizeShare at h
  rw [okShare, okRangeS_of hm (show sizeRangeS (gd p 1) ≤ m from by omega), okWriteS_of hm (show sizeWriteS (gd p 2) ≤ m from by omega)]; rfl
theorem okShareS_of {z : D} {m : Nat} (hm : m ≤ 4294967296) (h : sizeShareS z ≤ m) : okShareS z = true := okS (ok := fun r => okShare (sub r 0 4)) (size := fun r => sizeShare (sub r 0 4)) hm h fun _ h => okShare_of hm h
theorem okRec_of {p : List D} {m : Nat} (hm : m ≤ 4294967296) (h : sizeRec p ≤ m) : okRec p = true := okShareS_of hm h
theorem okRecS_of {z : D} {m : Nat} (hm : m ≤ 4294967296) (h : sizeRecS z ≤ m) : okRecS z = true := okS (ok := fun r => okRec (sub r 0 5)) (size := fun r => sizeRec (sub r 0 5)) hm h fun _ h => okRec_of hm h
theorem okCoord_of {p : List D} {m : Nat} (hm : m ≤ 4294967296) (h : sizeCoord p ≤ m) : okCoord p = true := by
  unfold sizeCoord at h
  rw [okCoord, okRecS_of hm (show sizeRecS (gd p 0) ≤ m from by omega), okIntS_of hm (show sizeIntS (gd p 1) ≤ m from by omega)]; rfl
theorem okEvent_of {p : List D} {m : Nat} (hm : m ≤ 4294967296) (h : sizeEvent p ≤ m) : okEvent p = true := okCellS_of hm h
theorem okEventS_of {z : D} {m : Nat} (hm : m ≤ 4294967296) (h : sizeEventS z ≤ m) : okEventS z = true := okS (ok := fun r => okEvent (sub r 0 7)) (size := fun r => sizeEvent (sub r 0 7)) hm h fun _ h => okEvent_of hm h
theorem left_ge {s : Nat} {n : Int} (h : ltI (left s n) 0 = false) (h0 : 0 ≤ n) : left s n = n - s ∧ (s : Int) ≤ n := by
  unfold left at h ⊢
  split
  · exact ⟨rfl, by assumption⟩
  · rename_i hn
    rw [if_neg hn] at h
    cases h
end Go.Proofs.Ytdejncnjaebjfaa
