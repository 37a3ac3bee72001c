/-
  The town: what the law's bound on the size says of a town's shards and clients.
-/
import Derived.Test.YtchceahcaaibcaaGreatT16
namespace Go.Proofs.YtchceahcaaibcaaGreat
set_option linter.unusedSimpArgs false
set_option linter.unusedVariables false

theorem map_getD {f : List D → List D} {l : List (List D)} {k : Nat} (h : k < l.length) : (l.map f).getD k [] = f (l.getD k []) := by
  rw [List.getD_eq_getElem?_getD, List.getD_eq_getElem?_getD, List.getElem?_map, List.getElem?_eq_getElem h]
  rfl
theorem getD_mem {l : List (List D)} {k : Nat} (h : k < l.length) : l.getD k [] ∈ l := by
  rw [List.getD_eq_getElem?_getD, List.getElem?_eq_getElem h]
  exact List.getElem_mem h
theorem mapD_len (f : List D → List D) (z : D) : (D.l (z.rows.map f)).rows.length = z.rows.length := List.length_map ..
theorem town_small {p : List D} (h : sizeTown p ≤ 1048576) : townSmall (cpTown p) = true := by
  unfold sizeTown sizeShardS sizeClientS at h
  unfold townSmall
  rw [Bool.and_eq_true, List.all_eq_true, List.all_eq_true]
  constructor
  · intro k hk
    have hk : k < (gd p 9).rows.length := by
      have hk := List.mem_range.1 hk
      have e : (gd (cpTown p) 9).rows.length = (gd p 9).rows.length := mapD_len _ _
      omega
    have hm := total_mem (size := fun r => sizeShard (sub r 0 9)) (getD_mem hk)
    have e : (gd (cpTown p) 9).rows.getD k [] = cpShard (sub ((gd p 9).rows.getD k []) 0 9) := map_getD hk
    rw [e]
    generalize (gd p 9).rows.getD k [] = r at *
    show shardSmall (cpShard r) = true
    have hm : sizeShard r ≤ total (fun r => sizeShard (sub r 0 9)) (gd p 9).rows := hm
    replace hm : sizeShard r ≤ 1048576 := by omega
    unfold sizeShard sizeCellS sizeHeldS sizeIntS at hm
    have l3 : (gd (cpShard r) 3).rows.length = (gd r 3).rows.length := mapD_len _ _
    have l5 : (gd (cpShard r) 5).rows.length = (gd r 5).rows.length := mapD_len _ _
    have l6 : (gd (cpShard r) 6).rows.length = (gd r 6).rows.length := mapD_len _ _
    have l7 : (gd (cpShard r) 7).rows.length = (gd r 7).rows.length := mapD_len _ _
    unfold shardSmall
    simp only [l3, l5, l6, l7, Bool.and_eq_true, leI, decide_eq_true_eq]
    omega
  · intro k hk
    have hk : k < (gd p 12).rows.length := by
      have hk := List.mem_range.1 hk
      have e : (gd (cpTown p) 12).rows.length = (gd p 12).rows.length := mapD_len _ _
      omega
    have hm := total_mem (size := fun r => sizeClient (sub r 0 9)) (getD_mem hk)
    have e : (gd (cpTown p) 12).rows.getD k [] = cpClient (sub ((gd p 12).rows.getD k []) 0 9) := map_getD hk
    rw [e]
    generalize (gd p 12).rows.getD k [] = r at *
    show clientSmall (cpClient r) = true
    have hm : sizeClient r ≤ total (fun r => sizeClient (sub r 0 9)) (gd p 12).rows := hm
    replace hm : sizeClient r ≤ 1048576 := by omega
    unfold sizeClient sizeWriteS sizeSeenS sizePartS at hm
    have l3 : (gd (cpClient r) 3).rows.length = (gd r 3).rows.length := mapD_len _ _
    have l4 : (gd (cpClient r) 4).rows.length = (gd r 4).rows.length := mapD_len _ _
    have l8 : (gd (cpClient r) 8).rows.length = (gd r 8).rows.length := mapD_len _ _
    unfold clientSmall
    simp only [l3, l4, l8, Bool.and_eq_true, leI, decide_eq_true_eq]
    omega
end Go.Proofs.YtchceahcaaibcaaGreat
