/-
  The town: moves, atlases, clients, events. Printed by sym.py.
-/
import Derived.Test.YtchceahcaaibcaaGreatT4
namespace Go.Proofs.YtchceahcaaibcaaGreat
set_option linter.unusedSimpArgs false
set_option linter.unusedVariables false
set_option maxRecDepth 4096
/-! loop.example/g00097/impl.cellsIn -/
abbrev i_cellsInT : FuncId → List T → Option (T × Bool) := find [i_StoreOkE, cofCIE]
theorem i_cellsInT_ok : CallOk Tryz.prog i_cellsInT := find_ok (List.forall_mem_cons.2 ⟨i_StoreOk_ok, List.forall_mem_cons.2 ⟨cofCI_ok, List.forall_mem_nil _⟩⟩)
abbrev i_cellsInK : List Nat := [0, 1, 3, 4]
theorem i_cellsIn_ev (N : Nat) (p q : List D) : evFn Tryz.prog i_cellsInT N i_cellsInK Tryz.f254 rb [⟨sd (.sl 176), p⟩, ⟨ag rIRange, q⟩] = some (bo,
  bif storeOk (gd p 0) then ob (!(anyS (fun r => ixfCIC (.l [[.l [sub q 0 2]]]) (sub r 0 2)) (gd p 0)))
  else ob false) := by kernel_rfl
def cellsIn (z : D) (q : List D) : Bool := storeOk z && (List.range z.rows.length).all fun k => inB (gd (z.rows.getD k []) 0).int (gd q 0).int (w64 ((gd q 1).int - 1))
def i_cellsInE : Ent := (254, e2 (sd (.sl 176)) (ag rIRange) fun p q => (⟨rb, [.b (cellsIn (gd p 0) q)]⟩, true))
theorem i_cellsIn_ok : EntOk Tryz.prog i_cellsInE := e2_ok fun p q h => evFn_sound (N := 0) (ks := i_cellsInK) (key := bo) i_cellsInT_ok (enters Tryz.func254 (by kernel_rfl) (by kernel_rfl)) Tryz.func254 fun hw => by
  rw [i_cellsIn_ev]
  unfold cellsIn
  cases storeOk (gd p 0)
  · rfl
  · refine congrArg (fun x => some (bo, ob x)) ?_
    show (!anyS (fun r => !inB (gd r 0).int (gd q 0).int (w64 ((gd q 1).int - 1))) (gd p 0)) = _
    unfold anyS
    rw [← not_any, Bool.true_and]
    simp only [Bool.not_not]

/-! loop.example/g00097/impl.moveOk -/
abbrev i_moveOkT : FuncId → List T → Option (T × Bool) := find [i_fromE, i_MkeysE, i_RangeOkE, i_isGroupE, i_cellsInE]
theorem i_moveOkT_ok : CallOk Tryz.prog i_moveOkT := find_ok (List.forall_mem_cons.2 ⟨i_from_ok, List.forall_mem_cons.2 ⟨i_Mkeys_ok, List.forall_mem_cons.2 ⟨i_RangeOk_ok, List.forall_mem_cons.2 ⟨i_isGroup_ok, List.forall_mem_cons.2 ⟨i_cellsIn_ok, List.forall_mem_nil _⟩⟩⟩⟩⟩)
abbrev i_moveOkK : List Nat := [0, 1, 2, 12, 15]
theorem i_moveOk_ev (N : Nat) (p : List D) : evFn Tryz.prog i_moveOkT N i_moveOkK Tryz.f156 rb [⟨ag rIMove, p⟩] = some (bo,
  bif !(inB (gd p 0).int 0 300000) then ob false
  else bif !(inB (gd p 1).int 0 4) then ob false
  else bif (gd p 1).int == 0 then bif (gd p 2).int == 0 then bif (gd p 3).int == 0 then bif (gd p 4).int == 0 then bif (gd p 5).int == 0 then ob (((gd p 6).rows.length : Int) == 0)
  else ob false
  else ob false
  else ob false
  else ob false
  else bif leI 1 (gd p 0).int then bif rangeOk [(gd p 2), (gd p 3)] then bif inB (gd p 4).int (0) (3) then bif inB (gd p 5).int (0) (3) then bif (gd p 4).int != (gd p 5).int then bif cellsIn (gd p 6) [(gd p 2), (gd p 3)] then bif (gd p 1).int == 2 then ob true
  else ob (((gd p 6).rows.length : Int) == 0)
  else ob false
  else ob false
  else ob false
  else ob false
  else ob false
  else ob false) := by kernel_rfl
def still (a b c d : Int) (n : Nat) : Bool := (a == 0) && ((b == 0) && ((c == 0) && ((d == 0) && ((n : Int) == 0))))
def moveOk (p : List D) : Bool := inB (gd p 0).int 0 300000 && (inB (gd p 1).int 0 4 && (bif (gd p 1).int == 0 then still (gd p 2).int (gd p 3).int (gd p 4).int (gd p 5).int (gd p 6).rows.length else
  leI 1 (gd p 0).int && (rangeOk [gd p 2, gd p 3] && (inB (gd p 4).int 0 3 && (inB (gd p 5).int 0 3 && (!((gd p 4).int == (gd p 5).int) && (cellsIn (gd p 6) [gd p 2, gd p 3] && (((gd p 1).int == 2) || (((gd p 6).rows.length : Int) == 0)))))))))
def i_moveOkE : Ent := (156, e1 (ag rIMove) fun p => (⟨rb, [.b (moveOk p)]⟩, true))
theorem i_moveOk_ok : EntOk Tryz.prog i_moveOkE := e1_ok fun p h => evFn_sound (N := 0) (ks := i_moveOkK) (key := bo) i_moveOkT_ok (enters Tryz.func156 (by kernel_rfl) (by kernel_rfl)) Tryz.func156 fun hw => by
  rw [i_moveOk_ev]
  unfold moveOk still
  rw [bne_not]
  cases inB (gd p 0).int 0 300000 <;> try rfl
  cases inB (gd p 1).int 0 4 <;> try rfl
  cases (gd p 1).int == 0
  · cases leI 1 (gd p 0).int <;> try rfl
    cases rangeOk [gd p 2, gd p 3] <;> try rfl
    cases inB (gd p 4).int 0 3 <;> try rfl
    cases inB (gd p 5).int 0 3 <;> try rfl
    cases (gd p 4).int == (gd p 5).int <;> try rfl
    cases cellsIn (gd p 6) [gd p 2, gd p 3] <;> try rfl
    cases (gd p 1).int == 2 <;> rfl
  · cases (gd p 2).int == 0 <;> try rfl
    cases (gd p 3).int == 0 <;> try rfl
    cases (gd p 4).int == 0 <;> try rfl
    cases (gd p 5).int == 0 <;> rfl

/-! loop.example/g00097/impl.AtlasOk -/
abbrev i_AtlasOkT : FuncId → List T → Option (T × Bool) := find [i_fromE, i_PartsOkE, i_moveOkE]
theorem i_AtlasOkT_ok : CallOk Tryz.prog i_AtlasOkT := find_ok (List.forall_mem_cons.2 ⟨i_from_ok, List.forall_mem_cons.2 ⟨i_PartsOk_ok, List.forall_mem_cons.2 ⟨i_moveOk_ok, List.forall_mem_nil _⟩⟩⟩)
abbrev i_AtlasOkK : List Nat := [0, 1, 2]
theorem i_AtlasOk_ev (N : Nat) (p : List D) : evFn Tryz.prog i_AtlasOkT N i_AtlasOkK Tryz.f60 rb [⟨ag rIAtlas, p⟩] = some (bo,
  bif inB (gd p 0).int 0 1000000 then bif partsOk (gd p 1) then ob (moveOk (sub p 2 7))
  else ob false
  else ob false) := by kernel_rfl
def atlasOk (p : List D) : Bool := inB (gd p 0).int 0 1000000 && (partsOk (gd p 1) && moveOk (sub p 2 7))
def i_AtlasOkE : Ent := (60, e1 (ag rIAtlas) fun p => (⟨rb, [.b (atlasOk p)]⟩, true))
theorem i_AtlasOk_ok : EntOk Tryz.prog i_AtlasOkE := e1_ok fun p h => evFn_sound (N := 0) (ks := i_AtlasOkK) (key := bo) i_AtlasOkT_ok (enters Tryz.func60 (by kernel_rfl) (by kernel_rfl)) Tryz.func60 fun hw => by
  rw [i_AtlasOk_ev]
  unfold atlasOk
  cases inB (gd p 0).int 0 1000000 <;> try rfl
  cases partsOk (gd p 1) <;> rfl

/-! loop.example/g00097/spec.AtlasOk -/
abbrev s_AtlasOkT : FuncId → List T → Option (T × Bool) := find [s_l1InE, s_PartsOkE, s_StoreOkE, s_RangeOkE, s_l15GroupE, s_l15InE]
theorem s_AtlasOkT_ok : CallOk Tryz.prog s_AtlasOkT := find_ok (List.forall_mem_cons.2 ⟨s_l1In_ok, List.forall_mem_cons.2 ⟨s_PartsOk_ok, List.forall_mem_cons.2 ⟨s_StoreOk_ok, List.forall_mem_cons.2 ⟨s_RangeOk_ok, List.forall_mem_cons.2 ⟨s_l15Group_ok, List.forall_mem_cons.2 ⟨s_l15In_ok, List.forall_mem_nil _⟩⟩⟩⟩⟩⟩)
abbrev s_AtlasOkK : List Nat := [0, 1, 2, 3, 33, 36, 91]
theorem s_AtlasOk_ev (N : Nat) (p : List D) : evFn Tryz.prog s_AtlasOkT N s_AtlasOkK Tryz.f46 rb [⟨ag rIAtlas, p⟩] = some (bo,
  bif !(inB (gd p 0).int 0 1000000) then ob false
  else bif !(partsOk (gd p 1)) then ob false
  else bif !(inB (gd p 2).int 0 300000) then ob false
  else bif !(inB (gd p 3).int 0 4) then ob false
  else bif !(storeOk (gd p 8)) then ob false
  else bif (gd p 3).int == 0 then bif (gd p 4).int == 0 then bif (gd p 5).int == 0 then bif (gd p 6).int == 0 then bif (gd p 7).int == 0 then ob (((gd p 8).rows.length : Int) == 0)
  else ob false
  else ob false
  else ob false
  else ob false
  else bif ltI (gd p 2).int 1 then ob false
  else bif !(rangeOk (sub p 4 2)) then ob false
  else bif !(inB (gd p 6).int 0 3) then ob false
  else bif !(inB (gd p 7).int 0 3) then ob false
  else bif (gd p 6).int == (gd p 7).int then ob false
  else bif cellsInS (gd p 8) (sub p 2 7) then bif (gd p 3).int == 2 then ob true
  else ob (((gd p 8).rows.length : Int) == 0)
  else ob false) := by kernel_rfl
theorem store_nil {z : D} (h : ((z.rows.length : Int) == 0) = true) : storeOk z = true := by
  have h0 : z.rows.length = 0 := by have := eq_of_beq h; omega
  unfold storeOk
  rw [h0]; rfl
theorem cells_split (z : D) (q : List D) : cellsIn z [gd q 2, gd q 3] = (storeOk z && cellsInS z q) := rfl
def s_AtlasOkE : Ent := (46, e1 (ag rIAtlas) fun p => (⟨rb, [.b (atlasOk p)]⟩, true))
theorem s_AtlasOk_ok : EntOk Tryz.prog s_AtlasOkE := e1_ok fun p h => evFn_sound (N := 0) (ks := s_AtlasOkK) (key := bo) s_AtlasOkT_ok (enters Tryz.func46 (by kernel_rfl) (by kernel_rfl)) Tryz.func46 fun hw => by
  rw [s_AtlasOk_ev]
  rw [show rangeOk (sub p 4 2) = rangeOk [gd p 4, gd p 5] from rfl]
  have hm : moveOk (sub p 2 7) = (inB (gd p 2).int 0 300000 && (inB (gd p 3).int 0 4 && (bif (gd p 3).int == 0 then still (gd p 4).int (gd p 5).int (gd p 6).int (gd p 7).int (gd p 8).rows.length else leI 1 (gd p 2).int && (rangeOk [gd p 4, gd p 5] && (inB (gd p 6).int 0 3 && (inB (gd p 7).int 0 3 && (!((gd p 6).int == (gd p 7).int) && ((storeOk (gd p 8) && cellsInS (gd p 8) (sub p 2 7)) && (((gd p 3).int == 2) || (((gd p 8).rows.length : Int) == 0)))))))))) := rfl
  unfold atlasOk
  rw [hm, show leI 1 (gd p 2).int = !ltI (gd p 2).int 1 from by unfold leI ltI; rw [← decide_not]; exact decide_eq_decide.2 (by omega)]
  unfold still
  cases inB (gd p 0).int 0 1000000 <;> try rfl
  cases partsOk (gd p 1) <;> try rfl
  cases inB (gd p 2).int 0 300000 <;> try rfl
  cases inB (gd p 3).int 0 4 <;> try rfl
  cases hs : storeOk (gd p 8)
  · cases (gd p 3).int == 0
    · cases ltI (gd p 2).int 1 <;> cases rangeOk [gd p 4, gd p 5] <;> cases inB (gd p 6).int 0 3 <;> cases inB (gd p 7).int 0 3 <;> cases (gd p 6).int == (gd p 7).int <;> rfl
    · cases hl : ((gd p 8).rows.length : Int) == 0
      · cases (gd p 4).int == 0 <;> cases (gd p 5).int == 0 <;> cases (gd p 6).int == 0 <;> cases (gd p 7).int == 0 <;> rfl
      · rw [store_nil hl] at hs; cases hs
  · cases (gd p 3).int == 0
    · cases ltI (gd p 2).int 1 <;> try rfl
      cases rangeOk [gd p 4, gd p 5] <;> try rfl
      cases inB (gd p 6).int 0 3 <;> try rfl
      cases inB (gd p 7).int 0 3 <;> try rfl
      cases (gd p 6).int == (gd p 7).int <;> try rfl
      cases cellsInS (gd p 8) (sub p 2 7) <;> try rfl
      cases (gd p 3).int == 2 <;> rfl
    · cases (gd p 4).int == 0 <;> try rfl
      cases (gd p 5).int == 0 <;> try rfl
      cases (gd p 6).int == 0 <;> try rfl
      cases (gd p 7).int == 0 <;> rfl

/-! loop.example/g00097/impl.eventRight -/
abbrev i_eventRightT : FuncId → List T → Option (T × Bool) := find [i_fromE, i_isTxE, i_StoreOkE, i_RangeOkE]
theorem i_eventRightT_ok : CallOk Tryz.prog i_eventRightT := find_ok (List.forall_mem_cons.2 ⟨i_from_ok, List.forall_mem_cons.2 ⟨i_isTx_ok, List.forall_mem_cons.2 ⟨i_StoreOk_ok, List.forall_mem_cons.2 ⟨i_RangeOk_ok, List.forall_mem_nil _⟩⟩⟩⟩)
abbrev i_eventRightK : List Nat := [0, 1, 2, 3, 4, 30, 33]
theorem i_eventRight_ev (N : Nat) (p q : List D) : evFn Tryz.prog i_eventRightT N i_eventRightK Tryz.f74 rb [⟨ag rITown, p⟩, ⟨ag rIEvent, q⟩] = some (bo,
  bif !(inB (gd q 0).int 1 3) then ob false
  else bif !(inB (gd q 1).int 0 (w64 (((gd p 12).rows.length : Int) - 1))) then ob false
  else bif !(inB (gd q 2).int 1 60) then ob false
  else bif !(storeOk (gd q 5)) then ob false
  else bif (gd q 0).int == 2 then bif rangeOk (sub q 3 2) then ob (!(gd q 6).bool)
  else ob false
  else bif (gd q 3).int == 0 then bif (gd q 4).int == 0 then bif ((gd q 5).rows.length : Int) == 0 then bif (gd q 0).int == 3 then ob true
  else ob (!(gd q 6).bool)
  else ob false
  else ob false
  else ob false) := by kernel_rfl
def eventOk (e : List D) (n : Int) : Bool := inB (gd e 0).int 1 3 && (inB (gd e 1).int 0 (w64 (n - 1)) && (inB (gd e 2).int 1 60 && (storeOk (gd e 5) && (bif (gd e 0).int == 2 then rangeOk [gd e 3, gd e 4] && !(gd e 6).bool else
  ((gd e 3).int == 0) && (((gd e 4).int == 0) && ((((gd e 5).rows.length : Int) == 0) && (((gd e 0).int == 3) || !(gd e 6).bool)))))))
def i_eventRightE : Ent := (74, e2 (ag rITown) (ag rIEvent) fun p q => (⟨rb, [.b (eventOk q ((gd p 12).rows.length : Int))]⟩, true))
theorem i_eventRight_ok : EntOk Tryz.prog i_eventRightE := e2_ok fun p q h => evFn_sound (N := 0) (ks := i_eventRightK) (key := bo) i_eventRightT_ok (enters Tryz.func74 (by kernel_rfl) (by kernel_rfl)) Tryz.func74 fun hw => by
  rw [i_eventRight_ev]
  rw [show rangeOk (sub q 3 2) = rangeOk [gd q 3, gd q 4] from rfl]
  unfold eventOk
  cases inB (gd q 0).int 1 3 <;> try rfl
  cases inB (gd q 1).int 0 (w64 (((gd p 12).rows.length : Int) - 1)) <;> try rfl
  cases inB (gd q 2).int 1 60 <;> try rfl
  cases storeOk (gd q 5) <;> try rfl
  cases (gd q 0).int == 2
  · cases (gd q 3).int == 0 <;> try rfl
    cases (gd q 4).int == 0 <;> try rfl
    cases ((gd q 5).rows.length : Int) == 0 <;> try rfl
    cases (gd q 0).int == 3 <;> rfl
  · cases rangeOk [gd q 3, gd q 4] <;> rfl

/-! loop.example/g00097/spec.l16EventOk -/
abbrev s_l16EventOkT : FuncId → List T → Option (T × Bool) := find [s_l1InE, s_l12TxE, s_StoreOkE, s_l16RangeOkE]
theorem s_l16EventOkT_ok : CallOk Tryz.prog s_l16EventOkT := find_ok (List.forall_mem_cons.2 ⟨s_l1In_ok, List.forall_mem_cons.2 ⟨s_l12Tx_ok, List.forall_mem_cons.2 ⟨s_StoreOk_ok, List.forall_mem_cons.2 ⟨s_l16RangeOk_ok, List.forall_mem_nil _⟩⟩⟩⟩)
abbrev s_l16EventOkK : List Nat := [0, 1, 2, 4, 28, 31]
theorem s_l16EventOk_ev (N : Nat) (p q : List D) : evFn Tryz.prog s_l16EventOkT N s_l16EventOkK Tryz.f53 rb [⟨ag rIEvent, p⟩, ⟨ri, q⟩] = some (bo,
  bif !(inB (gd p 0).int 1 3) then ob false
  else bif !(inB (gd p 1).int 0 (w64 ((gd q 0).int - 1))) then ob false
  else bif !(inB (gd p 2).int 1 60) then ob false
  else bif !(storeOk (gd p 5)) then ob false
  else bif (gd p 0).int == 2 then bif rangeOk [(gd p 3), (gd p 4)] then ob (!(gd p 6).bool)
  else ob false
  else bif (gd p 3).int == 0 then bif (gd p 4).int == 0 then bif ((gd p 5).rows.length : Int) == 0 then bif (gd p 0).int == 3 then ob true
  else ob (!(gd p 6).bool)
  else ob false
  else ob false
  else ob false) := by kernel_rfl
def s_l16EventOkE : Ent := (53, e2 (ag rIEvent) ri fun p q => (⟨rb, [.b (eventOk p (gd q 0).int)]⟩, true))
theorem s_l16EventOk_ok : EntOk Tryz.prog s_l16EventOkE := e2_ok fun p q h => evFn_sound (N := 0) (ks := s_l16EventOkK) (key := bo) s_l16EventOkT_ok (enters Tryz.func53 (by kernel_rfl) (by kernel_rfl)) Tryz.func53 fun hw => by
  rw [s_l16EventOk_ev]
  unfold eventOk
  cases inB (gd p 0).int 1 3 <;> try rfl
  cases inB (gd p 1).int 0 (w64 ((gd q 0).int - 1)) <;> try rfl
  cases inB (gd p 2).int 1 60 <;> try rfl
  cases storeOk (gd p 5) <;> try rfl
  cases (gd p 0).int == 2
  · cases (gd p 3).int == 0 <;> try rfl
    cases (gd p 4).int == 0 <;> try rfl
    cases ((gd p 5).rows.length : Int) == 0 <;> try rfl
    cases (gd p 0).int == 3 <;> rfl
  · cases rangeOk [gd p 3, gd p 4] <;> rfl

/-! loop.example/g00097/impl.ClientOk -/
abbrev i_ClientOkT : FuncId → List T → Option (T × Bool) := find [i_fromE, i_isWholeE, i_RangeOkE, i_isGroupE, i_isTxE, i_WritesOkE, i_PartsOkE, cofCOE]
theorem i_ClientOkT_ok : CallOk Tryz.prog i_ClientOkT := find_ok (List.forall_mem_cons.2 ⟨i_from_ok, List.forall_mem_cons.2 ⟨i_isWhole_ok, List.forall_mem_cons.2 ⟨i_RangeOk_ok, List.forall_mem_cons.2 ⟨i_isGroup_ok, List.forall_mem_cons.2 ⟨i_isTx_ok, List.forall_mem_cons.2 ⟨i_WritesOk_ok, List.forall_mem_cons.2 ⟨i_PartsOk_ok, List.forall_mem_cons.2 ⟨cofCO_ok, List.forall_mem_nil _⟩⟩⟩⟩⟩⟩⟩⟩)
abbrev i_ClientOkK : List Nat := [0, 1, 2, 3, 23, 44, 67]
theorem i_ClientOk_ev (N : Nat) (p : List D) : evFn Tryz.prog i_ClientOkT N i_ClientOkK Tryz.f180 rb [⟨ag rIClient, p⟩] = some (bo,
  bif !(inB (gd p 0).int 0 5) then ob false
  else bif !(inB (gd p 2).int (0) (1000000000)) then ob false
  else bif (gd p 2).int == 0 then bif (gd p 0).int != 0 then ob false
  else bif (gd p 5).int == 0 then bif (gd p 6).int == 0 then bif (gd p 0).int == 0 then bif (gd p 7).int == 0 then bif (gd p 1).int == 0 then ob ((w64 ((w64 (((gd p 3).rows.length : Int) + ((gd p 4).rows.length : Int))) + ((gd p 8).rows.length : Int))) == 0)
  else ob false
  else ob false
  else bif (gd p 0).int == 1 then bif (gd p 7).int == 0 then bif (gd p 1).int == 0 then ob ((w64 ((w64 (((gd p 3).rows.length : Int) + ((gd p 4).rows.length : Int))) + ((gd p 8).rows.length : Int))) == 0)
  else ob false
  else ob false
  else bif (gd p 0).int == 3 then bif rangeOk (sub p 5 2) then bif inB (gd p 7).int (0) (3) then bif inB (gd p 1).int 1 60 then bif writesOk (gd p 3) then bif leI ((gd p 4).rows.length : Int) 16 then bif partsOk (gd p 8) then ob (!(anyS (fun r => ixfCOC (.l [[]]) (sub r 0 3)) (gd p 4)))
  else ob false
  else ob false
  else ob false
  else ob false
  else ob false
  else ob false
  else bif (gd p 7).int == 0 then bif inB (gd p 1).int 1 60 then bif writesOk (gd p 3) then bif leI ((gd p 4).rows.length : Int) 16 then bif partsOk (gd p 8) then ob (!(anyS (fun r => ixfCOC (.l [[]]) (sub r 0 3)) (gd p 4)))
  else ob false
  else ob false
  else ob false
  else ob false
  else ob false
  else bif (gd p 0).int == 0 then ob false
  else bif (gd p 0).int == 1 then ob false
  else bif (gd p 0).int == 3 then bif rangeOk (sub p 5 2) then bif inB (gd p 7).int (0) (3) then bif inB (gd p 1).int 1 60 then bif writesOk (gd p 3) then bif leI ((gd p 4).rows.length : Int) 16 then bif partsOk (gd p 8) then ob (!(anyS (fun r => ixfCOC (.l [[]]) (sub r 0 3)) (gd p 4)))
  else ob false
  else ob false
  else ob false
  else ob false
  else ob false
  else ob false
  else ob false
  else bif (gd p 0).int == 0 then ob false
  else bif (gd p 0).int == 1 then ob false
  else bif (gd p 0).int == 3 then bif rangeOk (sub p 5 2) then bif inB (gd p 7).int (0) (3) then bif inB (gd p 1).int 1 60 then bif writesOk (gd p 3) then bif leI ((gd p 4).rows.length : Int) 16 then bif partsOk (gd p 8) then ob (!(anyS (fun r => ixfCOC (.l [[]]) (sub r 0 3)) (gd p 4)))
  else ob false
  else ob false
  else ob false
  else ob false
  else ob false
  else ob false
  else ob false
  else bif (gd p 5).int == 0 then bif (gd p 6).int == 0 then bif (gd p 0).int == 0 then bif (gd p 7).int == 0 then bif (gd p 1).int == 0 then ob ((w64 ((w64 (((gd p 3).rows.length : Int) + ((gd p 4).rows.length : Int))) + ((gd p 8).rows.length : Int))) == 0)
  else ob false
  else ob false
  else bif (gd p 0).int == 1 then bif (gd p 7).int == 0 then bif (gd p 1).int == 0 then ob ((w64 ((w64 (((gd p 3).rows.length : Int) + ((gd p 4).rows.length : Int))) + ((gd p 8).rows.length : Int))) == 0)
  else ob false
  else ob false
  else bif (gd p 0).int == 3 then bif rangeOk (sub p 5 2) then bif inB (gd p 7).int (0) (3) then bif inB (gd p 1).int 1 60 then bif writesOk (gd p 3) then bif leI ((gd p 4).rows.length : Int) 16 then bif partsOk (gd p 8) then ob (!(anyS (fun r => ixfCOC (.l [[]]) (sub r 0 3)) (gd p 4)))
  else ob false
  else ob false
  else ob false
  else ob false
  else ob false
  else ob false
  else bif (gd p 7).int == 0 then bif inB (gd p 1).int 1 60 then bif writesOk (gd p 3) then bif leI ((gd p 4).rows.length : Int) 16 then bif partsOk (gd p 8) then ob (!(anyS (fun r => ixfCOC (.l [[]]) (sub r 0 3)) (gd p 4)))
  else ob false
  else ob false
  else ob false
  else ob false
  else ob false
  else bif (gd p 0).int == 0 then ob false
  else bif (gd p 0).int == 1 then ob false
  else bif (gd p 0).int == 3 then bif rangeOk (sub p 5 2) then bif inB (gd p 7).int (0) (3) then bif inB (gd p 1).int 1 60 then bif writesOk (gd p 3) then bif leI ((gd p 4).rows.length : Int) 16 then bif partsOk (gd p 8) then ob (!(anyS (fun r => ixfCOC (.l [[]]) (sub r 0 3)) (gd p 4)))
  else ob false
  else ob false
  else ob false
  else ob false
  else ob false
  else ob false
  else ob false
  else bif (gd p 0).int == 0 then ob false
  else bif (gd p 0).int == 1 then ob false
  else bif (gd p 0).int == 3 then bif rangeOk (sub p 5 2) then bif inB (gd p 7).int (0) (3) then bif inB (gd p 1).int 1 60 then bif writesOk (gd p 3) then bif leI ((gd p 4).rows.length : Int) 16 then bif partsOk (gd p 8) then ob (!(anyS (fun r => ixfCOC (.l [[]]) (sub r 0 3)) (gd p 4)))
  else ob false
  else ob false
  else ob false
  else ob false
  else ob false
  else ob false
  else ob false) := by kernel_rfl
def clientSmall (p : List D) : Bool := leI ((gd p 3).rows.length : Int) 1000000000 && (leI ((gd p 4).rows.length : Int) 1000000000 && leI ((gd p 8).rows.length : Int) 1000000000)
def clientIdle (p : List D) : Bool := ((gd p 5).int == 0) && (((gd p 6).int == 0) && (((gd p 7).int == 0) && (((gd p 1).int == 0) && ((((gd p 3).rows.length : Int) == 0) && ((((gd p 4).rows.length : Int) == 0) && (((gd p 8).rows.length : Int) == 0))))))
def clientBusy (p : List D) : Bool := inB (gd p 1).int 1 60 && (writesOk (gd p 3) && (seenOk (gd p 4) && partsOk (gd p 8)))
def clientPlace (p : List D) : Bool := bif (gd p 0).int == 3 then rangeOk [gd p 5, gd p 6] && inB (gd p 7).int 0 3 else ((gd p 5).int == 0) && (((gd p 6).int == 0) && ((gd p 7).int == 0))
def clientOk (p : List D) : Bool := inB (gd p 0).int 0 5 && (inB (gd p 2).int 0 1000000000 && (!(((gd p 2).int == 0) && !((gd p 0).int == 0)) && (bif ltI (gd p 0).int 2 then clientIdle p else clientPlace p && clientBusy p)))
theorem seen_any (z : D) : (!(anyS (fun r => ixfCOC (.l [[]]) (sub r 0 3)) z)) = (List.range z.rows.length).all (seenAt z) := by
  have : (fun k => seenAt z k) = fun k => !(ixfCOC (.l [[]]) (sub (z.rows.getD k []) 0 3)) := by
    funext k
    unfold seenAt ixfCOC i_ClientOk_1F
    simp only [gd_cons_zero, gd_cons_succ, sub]
    cases inB (gd (z.rows.getD k []) 0).int 0 3 <;> simp
  show _ = (List.range z.rows.length).all fun k => seenAt z k
  rw [this, not_any]
  rfl
theorem seen_split (z : D) : (leI (z.rows.length : Int) 16 && !(anyS (fun r => ixfCOC (.l [[]]) (sub r 0 3)) z)) = seenOk z := by
  rw [seen_any, Bool.and_comm]; rfl
theorem sum_zero {a b c : Nat} (ha : leI (a : Int) 1000000000 = true) (hb : leI (b : Int) 1000000000 = true) (hc : leI (c : Int) 1000000000 = true) : (w64 ((w64 ((a : Int) + (b : Int))) + (c : Int)) == 0) = (((a : Int) == 0) && (((b : Int) == 0) && ((c : Int) == 0))) := by
  simp only [leI, decide_eq_true_eq] at ha hb hc
  rw [w64_id (x := (a : Int) + b) (by omega) (by omega), w64_id (by omega) (by omega), Bool.eq_iff_iff]
  simp only [Bool.and_eq_true, beq_iff_eq]
  omega
theorem stage_lt (x : Int) (h : inB x 0 5 = true) : ltI x 2 = ((x == 0) || (x == 1)) := by
  simp only [inB, Bool.and_eq_true, decide_eq_true_eq] at h
  rw [Bool.eq_iff_iff]
  simp only [ltI, Bool.or_eq_true, beq_iff_eq, decide_eq_true_eq]
  omega
def i_ClientOkE : Ent := (180, e1 (ag rIClient) fun p => (⟨rb, [.b (clientOk p)]⟩, clientSmall p))
theorem i_ClientOk_ok : EntOk Tryz.prog i_ClientOkE := e1_ok fun p h => evFn_sound (N := 0) (ks := i_ClientOkK) (key := bo) i_ClientOkT_ok (enters Tryz.func180 (by kernel_rfl) (by kernel_rfl)) Tryz.func180 fun hw => by
  rw [i_ClientOk_ev]
  have h : clientSmall p = true := h
  simp only [clientSmall, Bool.and_eq_true] at h
  rw [sum_zero h.1 h.2.1 h.2.2]
  rw [show rangeOk (sub p 5 2) = rangeOk [gd p 5, gd p 6] from rfl]
  simp only [bne_not]
  unfold clientOk clientIdle clientPlace clientBusy
  rw [← seen_split]
  cases hst : inB (gd p 0).int 0 5
  · rfl
  rw [stage_lt _ hst]
  cases inB (gd p 2).int 0 1000000000
  · rfl
  generalize anyS (fun r => ixfCOC (.l [[]]) (sub r 0 3)) (gd p 4) = sa
  generalize (((gd p 3).rows.length : Int) == 0) = l3
  generalize (((gd p 4).rows.length : Int) == 0) = l4
  generalize (((gd p 8).rows.length : Int) == 0) = l8
  have h30 : ((gd p 0).int == 0) = true → ((gd p 0).int == 3) = false := fun h => by rw [eq_of_beq h]; rfl
  have h31 : ((gd p 0).int == 1) = true → ((gd p 0).int == 3) = false := fun h => by rw [eq_of_beq h]; rfl
  generalize hs0 : ((gd p 0).int == 0) = s0 at *
  generalize hs1 : ((gd p 0).int == 1) = s1 at *
  generalize hs3 : ((gd p 0).int == 3) = s3 at *
  clear hs0 hs1 hs3 hst h
  generalize ((gd p 2).int == 0) = r0
  generalize ((gd p 5).int == 0) = a5
  generalize ((gd p 6).int == 0) = a6
  generalize ((gd p 7).int == 0) = a7
  generalize ((gd p 1).int == 0) = a1
  generalize rangeOk [gd p 5, gd p 6] = rg
  generalize inB (gd p 7).int 0 3 = g7
  generalize inB (gd p 1).int 1 60 = t1
  generalize writesOk (gd p 3) = wo
  generalize leI ((gd p 4).rows.length : Int) 16 = l16
  generalize partsOk (gd p 8) = po
  cases r0 <;> cases s0 <;> cases s1 <;> cases a5 <;> cases a6 <;> cases a7 <;> try rfl
  all_goals (cases a1 <;> cases s3 <;> try rfl)
  all_goals (cases rg <;> cases g7 <;> try rfl)
  all_goals (cases t1 <;> try rfl)
  all_goals (cases wo <;> try rfl)
  all_goals (cases l16 <;> try rfl)
  all_goals (cases po <;> try rfl)
  all_goals (cases sa <;> rfl)

/-! loop.example/g00097/spec.ClientOk -/
abbrev s_ClientOkT : FuncId → List T → Option (T × Bool) := find [s_l1InE, s_l1WholeE, s_l16RangeOkE, s_l15GroupE, s_l12TxE, s_WritesOkE, s_l16SeenOkE, s_PartsOkE]
theorem s_ClientOkT_ok : CallOk Tryz.prog s_ClientOkT := find_ok (List.forall_mem_cons.2 ⟨s_l1In_ok, List.forall_mem_cons.2 ⟨s_l1Whole_ok, List.forall_mem_cons.2 ⟨s_l16RangeOk_ok, List.forall_mem_cons.2 ⟨s_l15Group_ok, List.forall_mem_cons.2 ⟨s_l12Tx_ok, List.forall_mem_cons.2 ⟨s_WritesOk_ok, List.forall_mem_cons.2 ⟨s_l16SeenOk_ok, List.forall_mem_cons.2 ⟨s_PartsOk_ok, List.forall_mem_nil _⟩⟩⟩⟩⟩⟩⟩⟩)
abbrev s_ClientOkK : List Nat := [0, 1, 2, 3, 23, 39, 66]
theorem s_ClientOk_ev (N : Nat) (p : List D) : evFn Tryz.prog s_ClientOkT N s_ClientOkK Tryz.f132 rb [⟨ag rIClient, p⟩] = some (bo,
  bif !(inB (gd p 0).int 0 5) then ob false
  else bif !(inB (gd p 2).int (0) (1000000000)) then ob false
  else bif (gd p 0).int != 0 then bif (gd p 2).int == 0 then ob false
  else bif (gd p 5).int == 0 then bif (gd p 6).int == 0 then bif ltI (gd p 0).int 2 then bif (gd p 7).int == 0 then bif (gd p 1).int == 0 then bif ((gd p 3).rows.length : Int) == 0 then bif ((gd p 4).rows.length : Int) == 0 then ob (((gd p 8).rows.length : Int) == 0)
  else ob false
  else ob false
  else ob false
  else ob false
  else bif (gd p 0).int == 3 then bif rangeOk [(gd p 5), (gd p 6)] then bif inB (gd p 7).int 0 3 then bif inB (gd p 1).int 1 60 then bif writesOk (gd p 3) then bif seenOk (gd p 4) then ob (partsOk (gd p 8))
  else ob false
  else ob false
  else ob false
  else ob false
  else ob false
  else bif (gd p 7).int == 0 then bif inB (gd p 1).int 1 60 then bif writesOk (gd p 3) then bif seenOk (gd p 4) then ob (partsOk (gd p 8))
  else ob false
  else ob false
  else ob false
  else ob false
  else bif ltI (gd p 0).int 2 then ob false
  else bif (gd p 0).int == 3 then bif rangeOk [(gd p 5), (gd p 6)] then bif inB (gd p 7).int 0 3 then bif inB (gd p 1).int 1 60 then bif writesOk (gd p 3) then bif seenOk (gd p 4) then ob (partsOk (gd p 8))
  else ob false
  else ob false
  else ob false
  else ob false
  else ob false
  else ob false
  else bif ltI (gd p 0).int 2 then ob false
  else bif (gd p 0).int == 3 then bif rangeOk [(gd p 5), (gd p 6)] then bif inB (gd p 7).int 0 3 then bif inB (gd p 1).int 1 60 then bif writesOk (gd p 3) then bif seenOk (gd p 4) then ob (partsOk (gd p 8))
  else ob false
  else ob false
  else ob false
  else ob false
  else ob false
  else ob false
  else bif (gd p 5).int == 0 then bif (gd p 6).int == 0 then bif ltI (gd p 0).int 2 then bif (gd p 7).int == 0 then bif (gd p 1).int == 0 then bif ((gd p 3).rows.length : Int) == 0 then bif ((gd p 4).rows.length : Int) == 0 then ob (((gd p 8).rows.length : Int) == 0)
  else ob false
  else ob false
  else ob false
  else ob false
  else bif (gd p 0).int == 3 then bif rangeOk [(gd p 5), (gd p 6)] then bif inB (gd p 7).int 0 3 then bif inB (gd p 1).int 1 60 then bif writesOk (gd p 3) then bif seenOk (gd p 4) then ob (partsOk (gd p 8))
  else ob false
  else ob false
  else ob false
  else ob false
  else ob false
  else bif (gd p 7).int == 0 then bif inB (gd p 1).int 1 60 then bif writesOk (gd p 3) then bif seenOk (gd p 4) then ob (partsOk (gd p 8))
  else ob false
  else ob false
  else ob false
  else ob false
  else bif ltI (gd p 0).int 2 then ob false
  else bif (gd p 0).int == 3 then bif rangeOk [(gd p 5), (gd p 6)] then bif inB (gd p 7).int 0 3 then bif inB (gd p 1).int 1 60 then bif writesOk (gd p 3) then bif seenOk (gd p 4) then ob (partsOk (gd p 8))
  else ob false
  else ob false
  else ob false
  else ob false
  else ob false
  else ob false
  else bif ltI (gd p 0).int 2 then ob false
  else bif (gd p 0).int == 3 then bif rangeOk [(gd p 5), (gd p 6)] then bif inB (gd p 7).int 0 3 then bif inB (gd p 1).int 1 60 then bif writesOk (gd p 3) then bif seenOk (gd p 4) then ob (partsOk (gd p 8))
  else ob false
  else ob false
  else ob false
  else ob false
  else ob false
  else ob false) := by kernel_rfl
def s_ClientOkE : Ent := (132, e1 (ag rIClient) fun p => (⟨rb, [.b (clientOk p)]⟩, true))
theorem s_ClientOk_ok : EntOk Tryz.prog s_ClientOkE := e1_ok fun p h => evFn_sound (N := 0) (ks := s_ClientOkK) (key := bo) s_ClientOkT_ok (enters Tryz.func132 (by kernel_rfl) (by kernel_rfl)) Tryz.func132 fun hw => by
  rw [s_ClientOk_ev]
  simp only [bne_not]
  unfold clientOk clientIdle clientPlace clientBusy
  generalize inB (gd p 0).int 0 5 = st
  generalize inB (gd p 2).int 0 1000000000 = rq
  generalize ltI (gd p 0).int 2 = lt
  generalize (((gd p 3).rows.length : Int) == 0) = l3
  generalize (((gd p 4).rows.length : Int) == 0) = l4
  generalize (((gd p 8).rows.length : Int) == 0) = l8
  generalize ((gd p 0).int == 0) = s0
  generalize ((gd p 0).int == 3) = s3
  generalize ((gd p 2).int == 0) = r0
  generalize ((gd p 5).int == 0) = a5
  generalize ((gd p 6).int == 0) = a6
  generalize ((gd p 7).int == 0) = a7
  generalize ((gd p 1).int == 0) = a1
  generalize rangeOk [gd p 5, gd p 6] = rg
  generalize inB (gd p 7).int 0 3 = g7
  generalize inB (gd p 1).int 1 60 = t1
  generalize writesOk (gd p 3) = wo
  generalize seenOk (gd p 4) = so
  generalize partsOk (gd p 8) = po
  cases st <;> try rfl
  cases rq <;> try rfl
  cases r0 <;> cases s0 <;> cases lt <;> cases a5 <;> cases a6 <;> cases a7 <;> try rfl
  all_goals (cases a1 <;> cases s3 <;> try rfl)
  all_goals (cases rg <;> cases g7 <;> try rfl)
  all_goals (cases t1 <;> try rfl)
  all_goals (cases wo <;> try rfl)
  all_goals (cases so <;> try rfl)
  all_goals (cases po <;> try rfl)
  all_goals (cases l3 <;> try rfl)
  all_goals (cases l4 <;> rfl)

end Go.Proofs.YtchceahcaaibcaaGreat
