import Derived.Test.YtchceahcaaibcaaGreatTTyE
namespace Go.Proofs.YtchceahcaaibcaaGreat
set_option linter.unusedSimpArgs false
set_option linter.unusedVariables false
set_option maxRecDepth 4096
def rLTown : List S := [si, .sl 252, si, si, si, si, si, si, .sl 308, .sl 154, .sl 241, .sl 3, .sl 160, .sl 164, .sl 167]
def rITown : List S := [si, .sl 97, si, si, si, si, si, si, .sl 176, .sl 80, .sl 116, .sl 3, .sl 102, .sl 85, .sl 88]
def cpTown (p : List D) : List D := [gd (cpAtlas (sub p 0 9)) 0, gd (cpAtlas (sub p 0 9)) 1, gd (cpAtlas (sub p 0 9)) 2, gd (cpAtlas (sub p 0 9)) 3, gd (cpAtlas (sub p 0 9)) 4, gd (cpAtlas (sub p 0 9)) 5, gd (cpAtlas (sub p 0 9)) 6, gd (cpAtlas (sub p 0 9)) 7, gd (cpAtlas (sub p 0 9)) 8, cpShardS (gd p 9), gd (cpCoord (sub p 10 2)) 0, gd (cpCoord (sub p 10 2)) 1, cpClientS (gd p 12), cpLetterS (gd p 13), cpEventS (gd p 14)]
def okTown (p : List D) : Bool := okAtlas (sub p 0 9) && (okShardS (gd p 9) && (okCoord (sub p 10 2) && (okClientS (gd p 12) && (okLetterS (gd p 13) && (okEventS (gd p 14))))))
theorem toTown_ev (p : List D) (N : Nat) : evFn Tryz.prog (find [toAtlasE, toShardSE, toCoordE, toClientSE, toLetterSE, toEventSE]) N [0, 1, 2, 3] Tryz.f15 (ag rITown) [⟨ag rLTown, p⟩] = some (bo, nd (okAtlas (sub p 0 9)) (nd (okShardS (gd p 9)) (nd (okCoord (sub p 10 2)) (nd (okClientS (gd p 12)) (nd (okLetterS (gd p 13)) (nd (okEventS (gd p 14)) (some (1, cpTown p)))))))) := by kernel_rfl
def toTownE : Ent := (15, e1 (ag rLTown) fun p => (⟨ag rITown, cpTown p⟩, okTown p))
theorem toTown_ok : EntOk Tryz.prog toTownE := e1_ok fun p h => evFn_sound (N := 0) (ks := [0, 1, 2, 3]) (key := bo) (find_ok (List.forall_mem_cons.2 ⟨toAtlas_ok, List.forall_mem_cons.2 ⟨toShardS_ok, List.forall_mem_cons.2 ⟨toCoord_ok, List.forall_mem_cons.2 ⟨toClientS_ok, List.forall_mem_cons.2 ⟨toLetterS_ok, List.forall_mem_cons.2 ⟨toEventS_ok, List.forall_mem_nil _⟩⟩⟩⟩⟩⟩)) (enters Tryz.func15 (by kernel_rfl) (by kernel_rfl)) Tryz.func15 fun _ => by
  have h : okTown p = true := h
  simp only [okTown, Bool.and_eq_true] at h
  rw [toTown_ev]
  simp only [nd, h, cond_true]

def eqTown (p q : List D) : Bool := (eqAtlas (sub p 0 9) (sub q 0 9)) && ((eqShardS (gd p 9) (gd q 9)) && ((eqCoord (sub p 10 2) (sub q 10 2)) && ((eqClientS (gd p 12) (gd q 12)) && ((eqLetterS (gd p 13) (gd q 13)) && ((eqEventS (gd p 14) (gd q 14)) && (true))))))
theorem eqTown_ev (p q : List D) (N : Nat) : evFn Tryz.prog (find [eqAtlasE, eqShardSE, eqCoordE, eqClientSE, eqLetterSE, eqEventSE]) N [0, 1, 2, 3, 4, 10, 16, 22, 28, 34, 40] Tryz.f17 rb [⟨ag rITown, p⟩, ⟨ag rITown, q⟩] = some (bo, bif !(eqAtlas (sub p 0 9) (sub q 0 9)) then ob false else bif !(eqShardS (gd p 9) (gd q 9)) then ob false else bif !(eqCoord (sub p 10 2) (sub q 10 2)) then ob false else bif !(eqClientS (gd p 12) (gd q 12)) then ob false else bif !(eqLetterS (gd p 13) (gd q 13)) then ob false else bif !(eqEventS (gd p 14) (gd q 14)) then ob false else ob true) := by kernel_rfl
def eqTownE : Ent := (17, e2 (ag rITown) (ag rITown) fun p q => (⟨rb, [.b (eqTown p q)]⟩, true))
theorem eqTown_ok : EntOk Tryz.prog eqTownE := e2_ok fun p q _ => evFn_sound (N := 0) (ks := [0, 1, 2, 3, 4, 10, 16, 22, 28, 34, 40]) (key := bo) (find_ok (List.forall_mem_cons.2 ⟨eqAtlas_ok, List.forall_mem_cons.2 ⟨eqShardS_ok, List.forall_mem_cons.2 ⟨eqCoord_ok, List.forall_mem_cons.2 ⟨eqClientS_ok, List.forall_mem_cons.2 ⟨eqLetterS_ok, List.forall_mem_cons.2 ⟨eqEventS_ok, List.forall_mem_nil _⟩⟩⟩⟩⟩⟩)) (enters Tryz.func17 (by kernel_rfl) (by kernel_rfl)) Tryz.func17 fun _ => by
  rw [eqTown_ev]
  simp only [ne_step]
  rfl
theorem eqTown_refl (p : List D) : eqTown p p = true := by
  simp [eqTown, eqAtlas_refl, eqShardS_refl, eqCoord_refl, eqClientS_refl, eqLetterS_refl, eqEventS_refl]

def sizeTown (p : List D) : Nat := sizeAtlas (sub p 0 9) + (sizeShardS (gd p 9) + (sizeCoord (sub p 10 2) + (sizeClientS (gd p 12) + (sizeLetterS (gd p 13) + (sizeEventS (gd p 14))))))
theorem szTown_ev (p q : List D) (N : Nat) : evFn Tryz.prog (find [szAtlasE, szShardSE, szCoordE, szClientSE, szLetterSE, szEventSE]) N [0, 1, 2, 4, 10, 16, 22, 28, 34, 40] Tryz.f13 ri [⟨ag rLTown, p⟩, ⟨ri, q⟩] = some (bo, nd (fair (gd q 0).int) (bif ltI (left (sizeAtlas (sub p 0 9)) (gd q 0).int) 0 then oi (-1) else nd (fair (left (sizeAtlas (sub p 0 9)) (gd q 0).int)) (bif ltI (left (sizeShardS (gd p 9)) (left (sizeAtlas (sub p 0 9)) (gd q 0).int)) 0 then oi (-1) else nd (fair (left (sizeShardS (gd p 9)) (left (sizeAtlas (sub p 0 9)) (gd q 0).int))) (bif ltI (left (sizeCoord (sub p 10 2)) (left (sizeShardS (gd p 9)) (left (sizeAtlas (sub p 0 9)) (gd q 0).int))) 0 then oi (-1) else nd (fair (left (sizeCoord (sub p 10 2)) (left (sizeShardS (gd p 9)) (left (sizeAtlas (sub p 0 9)) (gd q 0).int)))) (bif ltI (left (sizeClientS (gd p 12)) (left (sizeCoord (sub p 10 2)) (left (sizeShardS (gd p 9)) (left (sizeAtlas (sub p 0 9)) (gd q 0).int)))) 0 then oi (-1) else nd (fair (left (sizeClientS (gd p 12)) (left (sizeCoord (sub p 10 2)) (left (sizeShardS (gd p 9)) (left (sizeAtlas (sub p 0 9)) (gd q 0).int))))) (bif ltI (left (sizeLetterS (gd p 13)) (left (sizeClientS (gd p 12)) (left (sizeCoord (sub p 10 2)) (left (sizeShardS (gd p 9)) (left (sizeAtlas (sub p 0 9)) (gd q 0).int))))) 0 then oi (-1) else nd (fair (left (sizeLetterS (gd p 13)) (left (sizeClientS (gd p 12)) (left (sizeCoord (sub p 10 2)) (left (sizeShardS (gd p 9)) (left (sizeAtlas (sub p 0 9)) (gd q 0).int)))))) (bif ltI (left (sizeEventS (gd p 14)) (left (sizeLetterS (gd p 13)) (left (sizeClientS (gd p 12)) (left (sizeCoord (sub p 10 2)) (left (sizeShardS (gd p 9)) (left (sizeAtlas (sub p 0 9)) (gd q 0).int)))))) 0 then oi (-1) else oi (left (sizeEventS (gd p 14)) (left (sizeLetterS (gd p 13)) (left (sizeClientS (gd p 12)) (left (sizeCoord (sub p 10 2)) (left (sizeShardS (gd p 9)) (left (sizeAtlas (sub p 0 9)) (gd q 0).int))))))))))))) := by kernel_rfl
def szTownE : Ent := (13, e2 (ag rLTown) ri fun p q => (⟨ri, [.i (left (sizeTown p) (gd q 0).int)]⟩, fair (gd q 0).int))
theorem szTown_ok : EntOk Tryz.prog szTownE := e2_ok fun p q h => evFn_sound (N := 0) (ks := [0, 1, 2, 4, 10, 16, 22, 28, 34, 40]) (key := bo) (find_ok (List.forall_mem_cons.2 ⟨szAtlas_ok, List.forall_mem_cons.2 ⟨szShardS_ok, List.forall_mem_cons.2 ⟨szCoord_ok, List.forall_mem_cons.2 ⟨szClientS_ok, List.forall_mem_cons.2 ⟨szLetterS_ok, List.forall_mem_cons.2 ⟨szEventS_ok, List.forall_mem_nil _⟩⟩⟩⟩⟩⟩)) (enters Tryz.func13 (by kernel_rfl) (by kernel_rfl)) Tryz.func13 fun _ => by
  have h : fair (gd q 0).int = true := h
  rw [szTown_ev]
  simp only [sz1, szN]
  simp only [h, nd, cond_true]
  rfl

theorem okTown_of {p : List D} {m : Nat} (hm : m ≤ 4294967296) (h : sizeTown p ≤ m) : okTown p = true := by
  unfold sizeTown at h
  simp only [okTown, Bool.and_eq_true]
  exact ⟨okAtlas_of hm (show sizeAtlas (sub p 0 9) ≤ m from by omega), okShardS_of hm (show sizeShardS (gd p 9) ≤ m from by omega), okCoord_of hm (show sizeCoord (sub p 10 2) ≤ m from by omega), okClientS_of hm (show sizeClientS (gd p 12) ≤ m from by omega), okLetterS_of hm (show sizeLetterS (gd p 13) ≤ m from by omega), okEventS_of hm (show sizeEventS (gd p 14) ≤ m from by omega)⟩
end Go.Proofs.YtchceahcaaibcaaGreat