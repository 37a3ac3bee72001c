/-
  The town: small functions. Printed by sym.py.
-/
import Derived.Test.YtchceahcaaibcaaGreatTTyF
namespace Go.Proofs.YtchceahcaaibcaaGreat
set_option linter.unusedSimpArgs false
set_option linter.unusedVariables false
set_option maxRecDepth 4096
/-! loop.example/g00097/impl.isTx -/
abbrev i_isTxT : FuncId → List T → Option (T × Bool) := find [i_fromE]
theorem i_isTxT_ok : CallOk Tryz.prog i_isTxT := find_ok (List.forall_mem_cons.2 ⟨i_from_ok, List.forall_mem_nil _⟩)
abbrev i_isTxK : List Nat := [0, 2]
theorem i_isTx_ev (N : Nat) (p : List D) : evFn Tryz.prog i_isTxT N i_isTxK Tryz.f194 rb [⟨ri, p⟩] = some (bo,
  ob (inB (gd p 0).int 1 60)) := by kernel_rfl
def i_isTxE : Ent := (194, e1 ri fun p => (⟨rb, [.b (inB (gd p 0).int 1 60)]⟩, true))
theorem i_isTx_ok : EntOk Tryz.prog i_isTxE := e1_ok fun p h => evFn_sound (N := 0) (ks := i_isTxK) (key := bo) i_isTxT_ok (enters Tryz.func194 (by kernel_rfl) (by kernel_rfl)) Tryz.func194 fun hw => by
  rw [i_isTx_ev]
  skip

/-! loop.example/g00097/spec.l12Tx -/
abbrev s_l12TxT : FuncId → List T → Option (T × Bool) := find [s_l1InE]
theorem s_l12TxT_ok : CallOk Tryz.prog s_l12TxT := find_ok (List.forall_mem_cons.2 ⟨s_l1In_ok, List.forall_mem_nil _⟩)
abbrev s_l12TxK : List Nat := [0, 2]
theorem s_l12Tx_ev (N : Nat) (p : List D) : evFn Tryz.prog s_l12TxT N s_l12TxK Tryz.f146 rb [⟨ri, p⟩] = some (bo,
  ob (inB (gd p 0).int 1 60)) := by kernel_rfl
def s_l12TxE : Ent := (146, e1 ri fun p => (⟨rb, [.b (inB (gd p 0).int 1 60)]⟩, true))
theorem s_l12Tx_ok : EntOk Tryz.prog s_l12TxE := e1_ok fun p h => evFn_sound (N := 0) (ks := s_l12TxK) (key := bo) s_l12TxT_ok (enters Tryz.func146 (by kernel_rfl) (by kernel_rfl)) Tryz.func146 fun hw => by
  rw [s_l12Tx_ev]
  skip

/-! loop.example/g00097/impl.isMode -/
abbrev i_isModeT : FuncId → List T → Option (T × Bool) := find []
theorem i_isModeT_ok : CallOk Tryz.prog i_isModeT := find_ok (List.forall_mem_nil _)
abbrev i_isModeK : List Nat := [0, 2]
theorem i_isMode_ev (N : Nat) (p : List D) : evFn Tryz.prog i_isModeT N i_isModeK Tryz.f258 rb [⟨ri, p⟩] = some (bo,
  bif (gd p 0).int == 1 then ob true
  else ob ((gd p 0).int == 2)) := by kernel_rfl
def i_isModeF (p : List D) : Bool :=
  bif (gd p 0).int == 1 then true
  else (gd p 0).int == 2
def i_isModeE : Ent := (258, e1 ri fun p => (⟨rb, [.b (i_isModeF [gd p 0])]⟩, true))
theorem i_isMode_ok : EntOk Tryz.prog i_isModeE := e1_ok fun p h => evFn_sound (N := 0) (ks := i_isModeK) (key := bo) i_isModeT_ok (enters Tryz.func258 (by kernel_rfl) (by kernel_rfl)) Tryz.func258 fun hw => by
  rw [i_isMode_ev]
  try simp only [cond_ob, cond_oi, cond_os]
  rfl

/-! loop.example/g00097/spec.l12Mode -/
abbrev s_l12ModeT : FuncId → List T → Option (T × Bool) := find []
theorem s_l12ModeT_ok : CallOk Tryz.prog s_l12ModeT := find_ok (List.forall_mem_nil _)
abbrev s_l12ModeK : List Nat := [0, 2]
theorem s_l12Mode_ev (N : Nat) (p : List D) : evFn Tryz.prog s_l12ModeT N s_l12ModeK Tryz.f240 rb [⟨ri, p⟩] = some (bo,
  bif (gd p 0).int == 1 then ob true
  else ob ((gd p 0).int == 2)) := by kernel_rfl
def s_l12ModeF (p : List D) : Bool :=
  bif (gd p 0).int == 1 then true
  else (gd p 0).int == 2
def s_l12ModeE : Ent := (240, e1 ri fun p => (⟨rb, [.b (s_l12ModeF [gd p 0])]⟩, true))
theorem s_l12Mode_ok : EntOk Tryz.prog s_l12ModeE := e1_ok fun p h => evFn_sound (N := 0) (ks := s_l12ModeK) (key := bo) s_l12ModeT_ok (enters Tryz.func240 (by kernel_rfl) (by kernel_rfl)) Tryz.func240 fun hw => by
  rw [s_l12Mode_ev]
  try simp only [cond_ob, cond_oi, cond_os]
  rfl

/-! loop.example/g00097/impl.one -/
abbrev i_oneT : FuncId → List T → Option (T × Bool) := find []
theorem i_oneT_ok : CallOk Tryz.prog i_oneT := find_ok (List.forall_mem_nil _)
abbrev i_oneK : List Nat := [0, 2]
theorem i_one_ev (N : Nat) (p : List D) : evFn Tryz.prog i_oneT N i_oneK Tryz.f87 (ag rIRange) [⟨ri, p⟩] = some (bo,
  some (1, [gd p 0, .i (w64 ((gd p 0).int + 1))])) := by kernel_rfl
def i_oneE : Ent := (87, e1 ri fun p => (⟨ag rIRange, [(gd p 0), .i (w64 ((gd p 0).int + 1))]⟩, true))
theorem i_one_ok : EntOk Tryz.prog i_oneE := e1_ok fun p h => evFn_sound (N := 0) (ks := i_oneK) (key := bo) i_oneT_ok (enters Tryz.func87 (by kernel_rfl) (by kernel_rfl)) Tryz.func87 fun hw => by
  rw [i_one_ev]
  skip

/-! loop.example/g00097/spec.l10One -/
abbrev s_l10OneT : FuncId → List T → Option (T × Bool) := find []
theorem s_l10OneT_ok : CallOk Tryz.prog s_l10OneT := find_ok (List.forall_mem_nil _)
abbrev s_l10OneK : List Nat := [0, 2]
theorem s_l10One_ev (N : Nat) (p : List D) : evFn Tryz.prog s_l10OneT N s_l10OneK Tryz.f84 (ag rIRange) [⟨ri, p⟩] = some (bo,
  some (1, [gd p 0, .i (w64 ((gd p 0).int + 1))])) := by kernel_rfl
def s_l10OneE : Ent := (84, e1 ri fun p => (⟨ag rIRange, [(gd p 0), .i (w64 ((gd p 0).int + 1))]⟩, true))
theorem s_l10One_ok : EntOk Tryz.prog s_l10OneE := e1_ok fun p h => evFn_sound (N := 0) (ks := s_l10OneK) (key := bo) s_l10OneT_ok (enters Tryz.func84 (by kernel_rfl) (by kernel_rfl)) Tryz.func84 fun hw => by
  rw [s_l10One_ev]
  skip

/-! (loop.example/g00097/impl.Lock).keys -/
abbrev i_LkeysT : FuncId → List T → Option (T × Bool) := find []
theorem i_LkeysT_ok : CallOk Tryz.prog i_LkeysT := find_ok (List.forall_mem_nil _)
abbrev i_LkeysK : List Nat := [0, 1, 2]
theorem i_Lkeys_ev (N : Nat) (p : List D) : evFn Tryz.prog i_LkeysT N i_LkeysK Tryz.f100 (ag rIRange) [⟨ag rILock, p⟩] = some (bo,
  some (1, sub p 1 2)) := by kernel_rfl
def i_LkeysE : Ent := (100, e1 (ag rILock) fun p => (⟨ag rIRange, [(gd p 1), (gd p 2)]⟩, true))
theorem i_Lkeys_ok : EntOk Tryz.prog i_LkeysE := e1_ok fun p h => evFn_sound (N := 0) (ks := i_LkeysK) (key := bo) i_LkeysT_ok (enters Tryz.func100 (by kernel_rfl) (by kernel_rfl)) Tryz.func100 fun hw => by
  rw [i_Lkeys_ev]
  rfl

/-! (loop.example/g00097/impl.Seen).keys -/
abbrev i_SkeysT : FuncId → List T → Option (T × Bool) := find []
theorem i_SkeysT_ok : CallOk Tryz.prog i_SkeysT := find_ok (List.forall_mem_nil _)
abbrev i_SkeysK : List Nat := [0, 1, 2]
theorem i_Skeys_ev (N : Nat) (p : List D) : evFn Tryz.prog i_SkeysT N i_SkeysK Tryz.f93 (ag rIRange) [⟨ag rISeen, p⟩] = some (bo,
  some (1, sub p 1 2)) := by kernel_rfl
def i_SkeysE : Ent := (93, e1 (ag rISeen) fun p => (⟨ag rIRange, [(gd p 1), (gd p 2)]⟩, true))
theorem i_Skeys_ok : EntOk Tryz.prog i_SkeysE := e1_ok fun p h => evFn_sound (N := 0) (ks := i_SkeysK) (key := bo) i_SkeysT_ok (enters Tryz.func93 (by kernel_rfl) (by kernel_rfl)) Tryz.func93 fun hw => by
  rw [i_Skeys_ev]
  rfl

/-! (loop.example/g00097/impl.Move).keys -/
abbrev i_MkeysT : FuncId → List T → Option (T × Bool) := find []
theorem i_MkeysT_ok : CallOk Tryz.prog i_MkeysT := find_ok (List.forall_mem_nil _)
abbrev i_MkeysK : List Nat := [0, 1, 2]
theorem i_Mkeys_ev (N : Nat) (p : List D) : evFn Tryz.prog i_MkeysT N i_MkeysK Tryz.f253 (ag rIRange) [⟨ag rIMove, p⟩] = some (bo,
  some (1, sub p 2 2)) := by kernel_rfl
def i_MkeysE : Ent := (253, e1 (ag rIMove) fun p => (⟨ag rIRange, [(gd p 2), (gd p 3)]⟩, true))
theorem i_Mkeys_ok : EntOk Tryz.prog i_MkeysE := e1_ok fun p h => evFn_sound (N := 0) (ks := i_MkeysK) (key := bo) i_MkeysT_ok (enters Tryz.func253 (by kernel_rfl) (by kernel_rfl)) Tryz.func253 fun hw => by
  rw [i_Mkeys_ev]
  rfl

/-! loop.example/g00097/spec.l12Range -/
abbrev s_l12RangeT : FuncId → List T → Option (T × Bool) := find []
theorem s_l12RangeT_ok : CallOk Tryz.prog s_l12RangeT := find_ok (List.forall_mem_nil _)
abbrev s_l12RangeK : List Nat := [0, 1, 2]
theorem s_l12Range_ev (N : Nat) (p : List D) : evFn Tryz.prog s_l12RangeT N s_l12RangeK Tryz.f136 (ag rIRange) [⟨ag rILock, p⟩] = some (bo,
  some (1, sub p 1 2)) := by kernel_rfl
def s_l12RangeE : Ent := (136, e1 (ag rILock) fun p => (⟨ag rIRange, [(gd p 1), (gd p 2)]⟩, true))
theorem s_l12Range_ok : EntOk Tryz.prog s_l12RangeE := e1_ok fun p h => evFn_sound (N := 0) (ks := s_l12RangeK) (key := bo) s_l12RangeT_ok (enters Tryz.func136 (by kernel_rfl) (by kernel_rfl)) Tryz.func136 fun hw => by
  rw [s_l12Range_ev]
  rfl

/-! loop.example/g00097/impl.meets -/
abbrev i_meetsT : FuncId → List T → Option (T × Bool) := find []
theorem i_meetsT_ok : CallOk Tryz.prog i_meetsT := find_ok (List.forall_mem_nil _)
abbrev i_meetsK : List Nat := [0, 1, 2, 3, 4]
theorem i_meets_ev (N : Nat) (p q : List D) : evFn Tryz.prog i_meetsT N i_meetsK Tryz.f288 rb [⟨ag rIRange, p⟩, ⟨ag rIRange, q⟩] = some (bo,
  bif ltI (gd p 0).int (gd q 1).int then ob (ltI (gd q 0).int (gd p 1).int)
  else ob false) := by kernel_rfl
def i_meetsF (p q : List D) : Bool :=
  bif ltI (gd p 0).int (gd q 1).int then ltI (gd q 0).int (gd p 1).int
  else false
def i_meetsE : Ent := (288, e2 (ag rIRange) (ag rIRange) fun p q => (⟨rb, [.b (i_meetsF p q)]⟩, true))
theorem i_meets_ok : EntOk Tryz.prog i_meetsE := e2_ok fun p q h => evFn_sound (N := 0) (ks := i_meetsK) (key := bo) i_meetsT_ok (enters Tryz.func288 (by kernel_rfl) (by kernel_rfl)) Tryz.func288 fun hw => by
  rw [i_meets_ev]
  try simp only [cond_ob, cond_oi, cond_os]
  rfl

/-! loop.example/g00097/impl.clash -/
abbrev i_clashT : FuncId → List T → Option (T × Bool) := find [i_LkeysE, i_meetsE]
theorem i_clashT_ok : CallOk Tryz.prog i_clashT := find_ok (List.forall_mem_cons.2 ⟨i_Lkeys_ok, List.forall_mem_cons.2 ⟨i_meets_ok, List.forall_mem_nil _⟩⟩)
abbrev i_clashK : List Nat := [0, 1, 2, 3, 4]
theorem i_clash_ev (N : Nat) (p q : List D) : evFn Tryz.prog i_clashT N i_clashK Tryz.f260 rb [⟨ag rILock, p⟩, ⟨ag rILock, q⟩] = some (bo,
  bif (gd p 0).int != (gd q 0).int then bif (gd p 3).int == 2 then ob (i_meetsF [(gd p 1), (gd p 2)] [(gd q 1), (gd q 2)])
  else bif (gd q 3).int == 2 then ob (i_meetsF [(gd p 1), (gd p 2)] [(gd q 1), (gd q 2)])
  else ob false
  else ob false) := by kernel_rfl
def i_clashF (p q : List D) : Bool :=
  bif (gd p 0).int != (gd q 0).int then bif (gd p 3).int == 2 then i_meetsF [(gd p 1), (gd p 2)] [(gd q 1), (gd q 2)]
  else bif (gd q 3).int == 2 then i_meetsF [(gd p 1), (gd p 2)] [(gd q 1), (gd q 2)]
  else false
  else false
def i_clashE : Ent := (260, e2 (ag rILock) (ag rILock) fun p q => (⟨rb, [.b (i_clashF p q)]⟩, true))
theorem i_clash_ok : EntOk Tryz.prog i_clashE := e2_ok fun p q h => evFn_sound (N := 0) (ks := i_clashK) (key := bo) i_clashT_ok (enters Tryz.func260 (by kernel_rfl) (by kernel_rfl)) Tryz.func260 fun hw => by
  rw [i_clash_ev]
  try simp only [cond_ob, cond_oi, cond_os]
  rfl

/-! (loop.example/g00097/impl.Range).has -/
abbrev i_RhasT : FuncId → List T → Option (T × Bool) := find [i_fromE]
theorem i_RhasT_ok : CallOk Tryz.prog i_RhasT := find_ok (List.forall_mem_cons.2 ⟨i_from_ok, List.forall_mem_nil _⟩)
abbrev i_RhasK : List Nat := [0, 1, 2, 4]
theorem i_Rhas_ev (N : Nat) (p q : List D) : evFn Tryz.prog i_RhasT N i_RhasK Tryz.f227 rb [⟨ag rIRange, p⟩, ⟨ri, q⟩] = some (bo,
  ob (inB (gd q 0).int (gd p 0).int (w64 ((gd p 1).int - 1)))) := by kernel_rfl
def i_RhasE : Ent := (227, e2 (ag rIRange) ri fun p q => (⟨rb, [.b (inB (gd q 0).int (gd p 0).int (w64 ((gd p 1).int - 1)))]⟩, true))
theorem i_Rhas_ok : EntOk Tryz.prog i_RhasE := e2_ok fun p q h => evFn_sound (N := 0) (ks := i_RhasK) (key := bo) i_RhasT_ok (enters Tryz.func227 (by kernel_rfl) (by kernel_rfl)) Tryz.func227 fun hw => by
  rw [i_Rhas_ev]
  skip

/-! loop.example/g00097/spec.l1Max -/
abbrev s_l1MaxT : FuncId → List T → Option (T × Bool) := find []
theorem s_l1MaxT_ok : CallOk Tryz.prog s_l1MaxT := find_ok (List.forall_mem_nil _)
abbrev s_l1MaxK : List Nat := [0, 1, 4, 7]
theorem s_l1Max_ev (N : Nat) (p q : List D) : evFn Tryz.prog s_l1MaxT N s_l1MaxK Tryz.f329 ri [⟨ri, p⟩, ⟨ri, q⟩] = some (bo,
  bif ltI (gd q 0).int (gd p 0).int then some (1, [gd p 0])
  else some (1, [gd q 0])) := by kernel_rfl
def maxD (x y : D) : D := bif ltI y.int x.int then x else y
def minD (x y : D) : D := bif ltI x.int y.int then x else y
def s_l1MaxE : Ent := (329, e2 ri ri fun p q => (⟨ri, [maxD (gd p 0) (gd q 0)]⟩, true))
theorem s_l1Max_ok : EntOk Tryz.prog s_l1MaxE := e2_ok fun p q h => evFn_sound (N := 0) (ks := s_l1MaxK) (key := bo) s_l1MaxT_ok (enters Tryz.func329 (by kernel_rfl) (by kernel_rfl)) Tryz.func329 fun hw => by
  rw [s_l1Max_ev]
  show some (bo, bif ltI (gd q 0).int (gd p 0).int then some (1, [gd p 0]) else some (1, [gd q 0])) = some (bo, some (1, [bif ltI (gd q 0).int (gd p 0).int then gd p 0 else gd q 0]))
  cases ltI (gd q 0).int (gd p 0).int <;> rfl

/-! loop.example/g00097/spec.l1Min -/
abbrev s_l1MinT : FuncId → List T → Option (T × Bool) := find []
theorem s_l1MinT_ok : CallOk Tryz.prog s_l1MinT := find_ok (List.forall_mem_nil _)
abbrev s_l1MinK : List Nat := [0, 1, 4, 7]
theorem s_l1Min_ev (N : Nat) (p q : List D) : evFn Tryz.prog s_l1MinT N s_l1MinK Tryz.f330 ri [⟨ri, p⟩, ⟨ri, q⟩] = some (bo,
  bif ltI (gd p 0).int (gd q 0).int then some (1, [gd p 0])
  else some (1, [gd q 0])) := by kernel_rfl
def s_l1MinE : Ent := (330, e2 ri ri fun p q => (⟨ri, [minD (gd p 0) (gd q 0)]⟩, true))
theorem s_l1Min_ok : EntOk Tryz.prog s_l1MinE := e2_ok fun p q h => evFn_sound (N := 0) (ks := s_l1MinK) (key := bo) s_l1MinT_ok (enters Tryz.func330 (by kernel_rfl) (by kernel_rfl)) Tryz.func330 fun hw => by
  rw [s_l1Min_ev]
  show some (bo, bif ltI (gd p 0).int (gd q 0).int then some (1, [gd p 0]) else some (1, [gd q 0])) = some (bo, some (1, [bif ltI (gd p 0).int (gd q 0).int then gd p 0 else gd q 0]))
  cases ltI (gd p 0).int (gd q 0).int <;> rfl

/-! loop.example/g00097/spec.RangeMeet -/
abbrev s_RangeMeetT : FuncId → List T → Option (T × Bool) := find [s_l1MaxE, s_l1MinE, s_RangeOkE]
theorem s_RangeMeetT_ok : CallOk Tryz.prog s_RangeMeetT := find_ok (List.forall_mem_cons.2 ⟨s_l1Max_ok, List.forall_mem_cons.2 ⟨s_l1Min_ok, List.forall_mem_cons.2 ⟨s_RangeOk_ok, List.forall_mem_nil _⟩⟩⟩)
abbrev s_RangeMeetK : List Nat := [0, 1, 2, 3, 4, 5, 6, 30]
theorem s_RangeMeet_ev (N : Nat) (p q : List D) : evFn Tryz.prog s_RangeMeetT N s_RangeMeetK Tryz.f286 (.tup [.agg [.d si, .d si], .c (.d (.bool))]) [⟨ag rIRange, p⟩, ⟨ag rIRange, q⟩] = some (bo,
  nd (sameP [[.i 0], [maxD (gd p 0) (gd q 0), minD (gd p 1) (gd q 1)], [minD (gd p 1) (gd q 1)], [maxD (gd p 0) (gd q 0)], [gd q 1], [.i 0], [gd p 1], [.i 0], [gd q 0], [.i 0], [gd p 0], [.i 0], p, q, [.i 0], [.i 0], [.i 0], [.i 0], [gd p 0, gd p 1], [gd q 0, gd q 1], [.i 0, .i 0], [maxD (gd p 0) (gd q 0), minD (gd p 1) (gd q 1)]] [[.i 0], [maxD (gd p 0) (gd q 0), minD (gd p 1) (gd q 1)], [minD (gd p 1) (gd q 1)], [maxD (gd p 0) (gd q 0)], [gd q 1], [.i 0], [gd p 1], [.i 0], [gd q 0], [.i 0], [gd p 0], [.i 0], p, q, [.i 0], [.i 0], [.i 0], [.i 0], [gd p 0, gd p 1], [gd q 0, gd q 1], [.i 0, .i 0], [maxD (gd p 0) (gd q 0), minD (gd p 1) (gd q 1)]]) (nd (sameP [[.i 0], [maxD (gd p 0) (gd q 0), minD (gd p 1) (gd q 1)], [minD (gd p 1) (gd q 1)], [maxD (gd p 0) (gd q 0)], [gd q 1], [.i 0], [gd p 1], [.i 0], [gd q 0], [.i 0], [gd p 0], [.i 0], p, q, [.i 0], [.i 0], [.i 0], [.i 0], [gd p 0, gd p 1], [gd q 0, gd q 1], [.i 0, .i 0], [maxD (gd p 0) (gd q 0), minD (gd p 1) (gd q 1)]] [[.i 0], [maxD (gd p 0) (gd q 0), minD (gd p 1) (gd q 1)], [minD (gd p 1) (gd q 1)], [maxD (gd p 0) (gd q 0)], [gd q 1], [.i 0], [gd p 1], [.i 0], [gd q 0], [.i 0], [gd p 0], [.i 0], p, q, [.i 0], [.i 0], [.i 0], [.i 0], [gd p 0, gd p 1], [gd q 0, gd q 1], [.i 0, .i 0], [maxD (gd p 0) (gd q 0), minD (gd p 1) (gd q 1)]]) (nd (sameP [[.i 0], [maxD (gd p 0) (gd q 0), minD (gd p 1) (gd q 1)], [minD (gd p 1) (gd q 1)], [maxD (gd p 0) (gd q 0)], [gd q 1], [.i 0], [gd p 1], [.i 0], [gd q 0], [.i 0], [gd p 0], [.i 0], p, q, [.i 0], [.i 0], [.i 0], [.i 0], [gd p 0, gd p 1], [gd q 0, gd q 1], [.i 0, .i 0], [maxD (gd p 0) (gd q 0), minD (gd p 1) (gd q 1)]] [[.i 0], [maxD (gd p 0) (gd q 0), minD (gd p 1) (gd q 1)], [minD (gd p 1) (gd q 1)], [maxD (gd p 0) (gd q 0)], [gd q 1], [.i 0], [gd p 1], [.i 0], [gd q 0], [.i 0], [gd p 0], [.i 0], p, q, [.i 0], [.i 0], [.i 0], [.i 0], [gd p 0, gd p 1], [gd q 0, gd q 1], [.i 0, .i 0], [maxD (gd p 0) (gd q 0), minD (gd p 1) (gd q 1)]]) (bif !(rangeOk (sub p 0 2)) then some (1, [.i 0, .i 0, .b false])
  else bif !(rangeOk (sub q 0 2)) then some (1, [.i 0, .i 0, .b false])
  else bif !(rangeOk [maxD (gd p 0) (gd q 0), minD (gd p 1) (gd q 1)]) then some (1, [.i 0, .i 0, .b false])
  else some (1, [maxD (gd p 0) (gd q 0), minD (gd p 1) (gd q 1), .b true]))))) := by kernel_rfl
def meetR (p q : List D) : List D := bif rangeOk p && (rangeOk q && rangeOk [maxD (gd p 0) (gd q 0), minD (gd p 1) (gd q 1)]) then [maxD (gd p 0) (gd q 0), minD (gd p 1) (gd q 1), .b true] else [.i 0, .i 0, .b false]
def meetB (p q : List D) : Bool := rangeOk p && (rangeOk q && rangeOk [maxD (gd p 0) (gd q 0), minD (gd p 1) (gd q 1)])
theorem meetR_2 (p q : List D) : (gd (meetR p q) 2).bool = meetB p q := by
  unfold meetR meetB
  cases rangeOk p && (rangeOk q && rangeOk [maxD (gd p 0) (gd q 0), minD (gd p 1) (gd q 1)]) <;> rfl
theorem bif_and (a b : Bool) : (bif a then b else false) = (a && b) := by cases a <;> rfl
theorem meetB_of {p q : List D} (hp : rangeOk p = true) (hq : rangeOk q = true) : meetB p q = i_meetsF p q := by
  unfold meetB i_meetsF
  rw [hp, hq, bif_and]
  simp only [rangeOk, Bool.and_eq_true, decide_eq_true_eq] at hp hq
  unfold rangeOk maxD minD ltI
  by_cases h1 : (gd q 0).int < (gd p 0).int <;> by_cases h2 : (gd p 1).int < (gd q 1).int <;> simp only [h1, h2, decide_true, decide_false, cond_true, cond_false, gd_cons_zero, gd_cons_succ] <;> rw [Bool.eq_iff_iff] <;> simp only [Bool.and_eq_true, decide_eq_true_eq, true_and] <;> omega
def s_RangeMeetE : Ent := (286, e2 (ag rIRange) (ag rIRange) fun p q => (⟨.tup [.agg [.d si, .d si], .c (.d (.bool))], sub (meetR p q) 0 3⟩, true))
theorem s_RangeMeet_ok : EntOk Tryz.prog s_RangeMeetE := e2_ok fun p q h => evFn_sound (N := 0) (ks := s_RangeMeetK) (key := bo) s_RangeMeetT_ok (enters Tryz.func286 (by kernel_rfl) (by kernel_rfl)) Tryz.func286 fun hw => by
  rw [s_RangeMeet_ev]
  simp only [sameP_self, nd_true]
  rw [show rangeOk (sub p 0 2) = rangeOk p from rfl, show rangeOk (sub q 0 2) = rangeOk q from rfl]
  unfold meetR
  cases rangeOk p <;> cases rangeOk q <;> try rfl
  cases rangeOk [maxD (gd p 0) (gd q 0), minD (gd p 1) (gd q 1)] <;> rfl

/-! loop.example/g00097/spec.l12Clash -/
abbrev s_l12ClashT : FuncId → List T → Option (T × Bool) := find [s_l12RangeE, s_RangeMeetE]
theorem s_l12ClashT_ok : CallOk Tryz.prog s_l12ClashT := find_ok (List.forall_mem_cons.2 ⟨s_l12Range_ok, List.forall_mem_cons.2 ⟨s_RangeMeet_ok, List.forall_mem_nil _⟩⟩)
abbrev s_l12ClashK : List Nat := [0, 1, 2, 3, 4, 6]
theorem s_l12Clash_ev (N : Nat) (p q : List D) : evFn Tryz.prog s_l12ClashT N s_l12ClashK Tryz.f241 rb [⟨ag rILock, p⟩, ⟨ag rILock, q⟩] = some (bo,
  nd (sameP [[gd (meetR [(gd p 1), (gd p 2)] [(gd q 1), (gd q 2)]) 2], [.i 0], [gd (meetR [(gd p 1), (gd p 2)] [(gd q 1), (gd q 2)]) 2], [gd (meetR [(gd p 1), (gd p 2)] [(gd q 1), (gd q 2)]) 0, gd (meetR [(gd p 1), (gd p 2)] [(gd q 1), (gd q 2)]) 1], [gd (meetR [(gd p 1), (gd p 2)] [(gd q 1), (gd q 2)]) 0, gd (meetR [(gd p 1), (gd p 2)] [(gd q 1), (gd q 2)]) 1, gd (meetR [(gd p 1), (gd p 2)] [(gd q 1), (gd q 2)]) 2], [gd (meetR [(gd p 1), (gd p 2)] [(gd q 1), (gd q 2)]) 0, gd (meetR [(gd p 1), (gd p 2)] [(gd q 1), (gd q 2)]) 1, gd (meetR [(gd p 1), (gd p 2)] [(gd q 1), (gd q 2)]) 2], [(gd q 1), (gd q 2)], [(gd p 1), (gd p 2)], [gd q 0, gd q 1, gd q 2, gd q 3], [gd p 0, gd p 1, gd p 2, gd p 3], p, q, [.i 0], [.i 0], [.i 0], [gd p 0, gd p 1, gd p 2, gd p 3], [gd q 0, gd q 1, gd q 2, gd q 3], [gd (meetR [(gd p 1), (gd p 2)] [(gd q 1), (gd q 2)]) 0, gd (meetR [(gd p 1), (gd p 2)] [(gd q 1), (gd q 2)]) 1]] [[gd (meetR [(gd p 1), (gd p 2)] [(gd q 1), (gd q 2)]) 2], [.i 0], [gd (meetR [(gd p 1), (gd p 2)] [(gd q 1), (gd q 2)]) 2], [gd (meetR [(gd p 1), (gd p 2)] [(gd q 1), (gd q 2)]) 0, gd (meetR [(gd p 1), (gd p 2)] [(gd q 1), (gd q 2)]) 1], [gd (meetR [(gd p 1), (gd p 2)] [(gd q 1), (gd q 2)]) 0, gd (meetR [(gd p 1), (gd p 2)] [(gd q 1), (gd q 2)]) 1, gd (meetR [(gd p 1), (gd p 2)] [(gd q 1), (gd q 2)]) 2], [gd (meetR [(gd p 1), (gd p 2)] [(gd q 1), (gd q 2)]) 0, gd (meetR [(gd p 1), (gd p 2)] [(gd q 1), (gd q 2)]) 1, gd (meetR [(gd p 1), (gd p 2)] [(gd q 1), (gd q 2)]) 2], [(gd q 1), (gd q 2)], [(gd p 1), (gd p 2)], [gd q 0, gd q 1, gd q 2, gd q 3], [gd p 0, gd p 1, gd p 2, gd p 3], p, q, [.i 0], [.i 0], [.i 0], [gd p 0, gd p 1, gd p 2, gd p 3], [gd q 0, gd q 1, gd q 2, gd q 3], [gd (meetR [(gd p 1), (gd p 2)] [(gd q 1), (gd q 2)]) 0, gd (meetR [(gd p 1), (gd p 2)] [(gd q 1), (gd q 2)]) 1]]) (nd (sameP [[gd (meetR [(gd p 1), (gd p 2)] [(gd q 1), (gd q 2)]) 2], [.i 0], [gd (meetR [(gd p 1), (gd p 2)] [(gd q 1), (gd q 2)]) 2], [gd (meetR [(gd p 1), (gd p 2)] [(gd q 1), (gd q 2)]) 0, gd (meetR [(gd p 1), (gd p 2)] [(gd q 1), (gd q 2)]) 1], [gd (meetR [(gd p 1), (gd p 2)] [(gd q 1), (gd q 2)]) 0, gd (meetR [(gd p 1), (gd p 2)] [(gd q 1), (gd q 2)]) 1, gd (meetR [(gd p 1), (gd p 2)] [(gd q 1), (gd q 2)]) 2], [gd (meetR [(gd p 1), (gd p 2)] [(gd q 1), (gd q 2)]) 0, gd (meetR [(gd p 1), (gd p 2)] [(gd q 1), (gd q 2)]) 1, gd (meetR [(gd p 1), (gd p 2)] [(gd q 1), (gd q 2)]) 2], [(gd q 1), (gd q 2)], [(gd p 1), (gd p 2)], [gd q 0, gd q 1, gd q 2, gd q 3], [gd p 0, gd p 1, gd p 2, gd p 3], p, q, [.i 0], [.i 0], [.i 0], [gd p 0, gd p 1, gd p 2, gd p 3], [gd q 0, gd q 1, gd q 2, gd q 3], [gd (meetR [(gd p 1), (gd p 2)] [(gd q 1), (gd q 2)]) 0, gd (meetR [(gd p 1), (gd p 2)] [(gd q 1), (gd q 2)]) 1]] [[gd (meetR [(gd p 1), (gd p 2)] [(gd q 1), (gd q 2)]) 2], [.i 0], [gd (meetR [(gd p 1), (gd p 2)] [(gd q 1), (gd q 2)]) 2], [gd (meetR [(gd p 1), (gd p 2)] [(gd q 1), (gd q 2)]) 0, gd (meetR [(gd p 1), (gd p 2)] [(gd q 1), (gd q 2)]) 1], [gd (meetR [(gd p 1), (gd p 2)] [(gd q 1), (gd q 2)]) 0, gd (meetR [(gd p 1), (gd p 2)] [(gd q 1), (gd q 2)]) 1, gd (meetR [(gd p 1), (gd p 2)] [(gd q 1), (gd q 2)]) 2], [gd (meetR [(gd p 1), (gd p 2)] [(gd q 1), (gd q 2)]) 0, gd (meetR [(gd p 1), (gd p 2)] [(gd q 1), (gd q 2)]) 1, gd (meetR [(gd p 1), (gd p 2)] [(gd q 1), (gd q 2)]) 2], [(gd q 1), (gd q 2)], [(gd p 1), (gd p 2)], [gd q 0, gd q 1, gd q 2, gd q 3], [gd p 0, gd p 1, gd p 2, gd p 3], p, q, [.i 0], [.i 0], [.i 0], [gd p 0, gd p 1, gd p 2, gd p 3], [gd q 0, gd q 1, gd q 2, gd q 3], [gd (meetR [(gd p 1), (gd p 2)] [(gd q 1), (gd q 2)]) 0, gd (meetR [(gd p 1), (gd p 2)] [(gd q 1), (gd q 2)]) 1]]) (nd (sameP [[gd (meetR [(gd p 1), (gd p 2)] [(gd q 1), (gd q 2)]) 2], [.i 0], [gd (meetR [(gd p 1), (gd p 2)] [(gd q 1), (gd q 2)]) 2], [gd (meetR [(gd p 1), (gd p 2)] [(gd q 1), (gd q 2)]) 0, gd (meetR [(gd p 1), (gd p 2)] [(gd q 1), (gd q 2)]) 1], [gd (meetR [(gd p 1), (gd p 2)] [(gd q 1), (gd q 2)]) 0, gd (meetR [(gd p 1), (gd p 2)] [(gd q 1), (gd q 2)]) 1, gd (meetR [(gd p 1), (gd p 2)] [(gd q 1), (gd q 2)]) 2], [gd (meetR [(gd p 1), (gd p 2)] [(gd q 1), (gd q 2)]) 0, gd (meetR [(gd p 1), (gd p 2)] [(gd q 1), (gd q 2)]) 1, gd (meetR [(gd p 1), (gd p 2)] [(gd q 1), (gd q 2)]) 2], [(gd q 1), (gd q 2)], [(gd p 1), (gd p 2)], [gd q 0, gd q 1, gd q 2, gd q 3], [gd p 0, gd p 1, gd p 2, gd p 3], p, q, [.i 0], [.i 0], [.i 0], [gd p 0, gd p 1, gd p 2, gd p 3], [gd q 0, gd q 1, gd q 2, gd q 3], [gd (meetR [(gd p 1), (gd p 2)] [(gd q 1), (gd q 2)]) 0, gd (meetR [(gd p 1), (gd p 2)] [(gd q 1), (gd q 2)]) 1]] [[gd (meetR [(gd p 1), (gd p 2)] [(gd q 1), (gd q 2)]) 2], [.i 0], [gd (meetR [(gd p 1), (gd p 2)] [(gd q 1), (gd q 2)]) 2], [gd (meetR [(gd p 1), (gd p 2)] [(gd q 1), (gd q 2)]) 0, gd (meetR [(gd p 1), (gd p 2)] [(gd q 1), (gd q 2)]) 1], [gd (meetR [(gd p 1), (gd p 2)] [(gd q 1), (gd q 2)]) 0, gd (meetR [(gd p 1), (gd p 2)] [(gd q 1), (gd q 2)]) 1, gd (meetR [(gd p 1), (gd p 2)] [(gd q 1), (gd q 2)]) 2], [gd (meetR [(gd p 1), (gd p 2)] [(gd q 1), (gd q 2)]) 0, gd (meetR [(gd p 1), (gd p 2)] [(gd q 1), (gd q 2)]) 1, gd (meetR [(gd p 1), (gd p 2)] [(gd q 1), (gd q 2)]) 2], [(gd q 1), (gd q 2)], [(gd p 1), (gd p 2)], [gd q 0, gd q 1, gd q 2, gd q 3], [gd p 0, gd p 1, gd p 2, gd p 3], p, q, [.i 0], [.i 0], [.i 0], [gd p 0, gd p 1, gd p 2, gd p 3], [gd q 0, gd q 1, gd q 2, gd q 3], [gd (meetR [(gd p 1), (gd p 2)] [(gd q 1), (gd q 2)]) 0, gd (meetR [(gd p 1), (gd p 2)] [(gd q 1), (gd q 2)]) 1]]) (nd (sameP [[gd (meetR [(gd p 1), (gd p 2)] [(gd q 1), (gd q 2)]) 2], [.i 0], [gd (meetR [(gd p 1), (gd p 2)] [(gd q 1), (gd q 2)]) 2], [gd (meetR [(gd p 1), (gd p 2)] [(gd q 1), (gd q 2)]) 0, gd (meetR [(gd p 1), (gd p 2)] [(gd q 1), (gd q 2)]) 1], [gd (meetR [(gd p 1), (gd p 2)] [(gd q 1), (gd q 2)]) 0, gd (meetR [(gd p 1), (gd p 2)] [(gd q 1), (gd q 2)]) 1, gd (meetR [(gd p 1), (gd p 2)] [(gd q 1), (gd q 2)]) 2], [gd (meetR [(gd p 1), (gd p 2)] [(gd q 1), (gd q 2)]) 0, gd (meetR [(gd p 1), (gd p 2)] [(gd q 1), (gd q 2)]) 1, gd (meetR [(gd p 1), (gd p 2)] [(gd q 1), (gd q 2)]) 2], [(gd q 1), (gd q 2)], [(gd p 1), (gd p 2)], [gd q 0, gd q 1, gd q 2, gd q 3], [gd p 0, gd p 1, gd p 2, gd p 3], p, q, [.i 0], [.i 0], [.i 0], [gd p 0, gd p 1, gd p 2, gd p 3], [gd q 0, gd q 1, gd q 2, gd q 3], [gd (meetR [(gd p 1), (gd p 2)] [(gd q 1), (gd q 2)]) 0, gd (meetR [(gd p 1), (gd p 2)] [(gd q 1), (gd q 2)]) 1]] [[gd (meetR [(gd p 1), (gd p 2)] [(gd q 1), (gd q 2)]) 2], [.i 0], [gd (meetR [(gd p 1), (gd p 2)] [(gd q 1), (gd q 2)]) 2], [gd (meetR [(gd p 1), (gd p 2)] [(gd q 1), (gd q 2)]) 0, gd (meetR [(gd p 1), (gd p 2)] [(gd q 1), (gd q 2)]) 1], [gd (meetR [(gd p 1), (gd p 2)] [(gd q 1), (gd q 2)]) 0, gd (meetR [(gd p 1), (gd p 2)] [(gd q 1), (gd q 2)]) 1, gd (meetR [(gd p 1), (gd p 2)] [(gd q 1), (gd q 2)]) 2], [gd (meetR [(gd p 1), (gd p 2)] [(gd q 1), (gd q 2)]) 0, gd (meetR [(gd p 1), (gd p 2)] [(gd q 1), (gd q 2)]) 1, gd (meetR [(gd p 1), (gd p 2)] [(gd q 1), (gd q 2)]) 2], [(gd q 1), (gd q 2)], [(gd p 1), (gd p 2)], [gd q 0, gd q 1, gd q 2, gd q 3], [gd p 0, gd p 1, gd p 2, gd p 3], p, q, [.i 0], [.i 0], [.i 0], [gd p 0, gd p 1, gd p 2, gd p 3], [gd q 0, gd q 1, gd q 2, gd q 3], [gd (meetR [(gd p 1), (gd p 2)] [(gd q 1), (gd q 2)]) 0, gd (meetR [(gd p 1), (gd p 2)] [(gd q 1), (gd q 2)]) 1]]) (nd (sameP [[gd (meetR [(gd p 1), (gd p 2)] [(gd q 1), (gd q 2)]) 2], [.i 0], [gd (meetR [(gd p 1), (gd p 2)] [(gd q 1), (gd q 2)]) 2], [gd (meetR [(gd p 1), (gd p 2)] [(gd q 1), (gd q 2)]) 0, gd (meetR [(gd p 1), (gd p 2)] [(gd q 1), (gd q 2)]) 1], [gd (meetR [(gd p 1), (gd p 2)] [(gd q 1), (gd q 2)]) 0, gd (meetR [(gd p 1), (gd p 2)] [(gd q 1), (gd q 2)]) 1, gd (meetR [(gd p 1), (gd p 2)] [(gd q 1), (gd q 2)]) 2], [gd (meetR [(gd p 1), (gd p 2)] [(gd q 1), (gd q 2)]) 0, gd (meetR [(gd p 1), (gd p 2)] [(gd q 1), (gd q 2)]) 1, gd (meetR [(gd p 1), (gd p 2)] [(gd q 1), (gd q 2)]) 2], [(gd q 1), (gd q 2)], [(gd p 1), (gd p 2)], [gd q 0, gd q 1, gd q 2, gd q 3], [gd p 0, gd p 1, gd p 2, gd p 3], p, q, [.i 0], [.i 0], [.i 0], [gd p 0, gd p 1, gd p 2, gd p 3], [gd q 0, gd q 1, gd q 2, gd q 3], [gd (meetR [(gd p 1), (gd p 2)] [(gd q 1), (gd q 2)]) 0, gd (meetR [(gd p 1), (gd p 2)] [(gd q 1), (gd q 2)]) 1]] [[gd (meetR [(gd p 1), (gd p 2)] [(gd q 1), (gd q 2)]) 2], [.i 0], [gd (meetR [(gd p 1), (gd p 2)] [(gd q 1), (gd q 2)]) 2], [gd (meetR [(gd p 1), (gd p 2)] [(gd q 1), (gd q 2)]) 0, gd (meetR [(gd p 1), (gd p 2)] [(gd q 1), (gd q 2)]) 1], [gd (meetR [(gd p 1), (gd p 2)] [(gd q 1), (gd q 2)]) 0, gd (meetR [(gd p 1), (gd p 2)] [(gd q 1), (gd q 2)]) 1, gd (meetR [(gd p 1), (gd p 2)] [(gd q 1), (gd q 2)]) 2], [gd (meetR [(gd p 1), (gd p 2)] [(gd q 1), (gd q 2)]) 0, gd (meetR [(gd p 1), (gd p 2)] [(gd q 1), (gd q 2)]) 1, gd (meetR [(gd p 1), (gd p 2)] [(gd q 1), (gd q 2)]) 2], [(gd q 1), (gd q 2)], [(gd p 1), (gd p 2)], [gd q 0, gd q 1, gd q 2, gd q 3], [gd p 0, gd p 1, gd p 2, gd p 3], p, q, [.i 0], [.i 0], [.i 0], [gd p 0, gd p 1, gd p 2, gd p 3], [gd q 0, gd q 1, gd q 2, gd q 3], [gd (meetR [(gd p 1), (gd p 2)] [(gd q 1), (gd q 2)]) 0, gd (meetR [(gd p 1), (gd p 2)] [(gd q 1), (gd q 2)]) 1]]) (nd (sameP [[gd (meetR [(gd p 1), (gd p 2)] [(gd q 1), (gd q 2)]) 2], [.i 0], [gd (meetR [(gd p 1), (gd p 2)] [(gd q 1), (gd q 2)]) 2], [gd (meetR [(gd p 1), (gd p 2)] [(gd q 1), (gd q 2)]) 0, gd (meetR [(gd p 1), (gd p 2)] [(gd q 1), (gd q 2)]) 1], [gd (meetR [(gd p 1), (gd p 2)] [(gd q 1), (gd q 2)]) 0, gd (meetR [(gd p 1), (gd p 2)] [(gd q 1), (gd q 2)]) 1, gd (meetR [(gd p 1), (gd p 2)] [(gd q 1), (gd q 2)]) 2], [gd (meetR [(gd p 1), (gd p 2)] [(gd q 1), (gd q 2)]) 0, gd (meetR [(gd p 1), (gd p 2)] [(gd q 1), (gd q 2)]) 1, gd (meetR [(gd p 1), (gd p 2)] [(gd q 1), (gd q 2)]) 2], [(gd q 1), (gd q 2)], [(gd p 1), (gd p 2)], [gd q 0, gd q 1, gd q 2, gd q 3], [gd p 0, gd p 1, gd p 2, gd p 3], p, q, [.i 0], [.i 0], [.i 0], [gd p 0, gd p 1, gd p 2, gd p 3], [gd q 0, gd q 1, gd q 2, gd q 3], [gd (meetR [(gd p 1), (gd p 2)] [(gd q 1), (gd q 2)]) 0, gd (meetR [(gd p 1), (gd p 2)] [(gd q 1), (gd q 2)]) 1]] [[gd (meetR [(gd p 1), (gd p 2)] [(gd q 1), (gd q 2)]) 2], [.i 0], [gd (meetR [(gd p 1), (gd p 2)] [(gd q 1), (gd q 2)]) 2], [gd (meetR [(gd p 1), (gd p 2)] [(gd q 1), (gd q 2)]) 0, gd (meetR [(gd p 1), (gd p 2)] [(gd q 1), (gd q 2)]) 1], [gd (meetR [(gd p 1), (gd p 2)] [(gd q 1), (gd q 2)]) 0, gd (meetR [(gd p 1), (gd p 2)] [(gd q 1), (gd q 2)]) 1, gd (meetR [(gd p 1), (gd p 2)] [(gd q 1), (gd q 2)]) 2], [gd (meetR [(gd p 1), (gd p 2)] [(gd q 1), (gd q 2)]) 0, gd (meetR [(gd p 1), (gd p 2)] [(gd q 1), (gd q 2)]) 1, gd (meetR [(gd p 1), (gd p 2)] [(gd q 1), (gd q 2)]) 2], [(gd q 1), (gd q 2)], [(gd p 1), (gd p 2)], [gd q 0, gd q 1, gd q 2, gd q 3], [gd p 0, gd p 1, gd p 2, gd p 3], p, q, [.i 0], [.i 0], [.i 0], [gd p 0, gd p 1, gd p 2, gd p 3], [gd q 0, gd q 1, gd q 2, gd q 3], [gd (meetR [(gd p 1), (gd p 2)] [(gd q 1), (gd q 2)]) 0, gd (meetR [(gd p 1), (gd p 2)] [(gd q 1), (gd q 2)]) 1]]) (nd (sameP [[gd (meetR [(gd p 1), (gd p 2)] [(gd q 1), (gd q 2)]) 2], [.i 0], [gd (meetR [(gd p 1), (gd p 2)] [(gd q 1), (gd q 2)]) 2], [gd (meetR [(gd p 1), (gd p 2)] [(gd q 1), (gd q 2)]) 0, gd (meetR [(gd p 1), (gd p 2)] [(gd q 1), (gd q 2)]) 1], [gd (meetR [(gd p 1), (gd p 2)] [(gd q 1), (gd q 2)]) 0, gd (meetR [(gd p 1), (gd p 2)] [(gd q 1), (gd q 2)]) 1, gd (meetR [(gd p 1), (gd p 2)] [(gd q 1), (gd q 2)]) 2], [gd (meetR [(gd p 1), (gd p 2)] [(gd q 1), (gd q 2)]) 0, gd (meetR [(gd p 1), (gd p 2)] [(gd q 1), (gd q 2)]) 1, gd (meetR [(gd p 1), (gd p 2)] [(gd q 1), (gd q 2)]) 2], [(gd q 1), (gd q 2)], [(gd p 1), (gd p 2)], [gd q 0, gd q 1, gd q 2, gd q 3], [gd p 0, gd p 1, gd p 2, gd p 3], p, q, [.i 0], [.i 0], [.i 0], [gd p 0, gd p 1, gd p 2, gd p 3], [gd q 0, gd q 1, gd q 2, gd q 3], [gd (meetR [(gd p 1), (gd p 2)] [(gd q 1), (gd q 2)]) 0, gd (meetR [(gd p 1), (gd p 2)] [(gd q 1), (gd q 2)]) 1]] [[gd (meetR [(gd p 1), (gd p 2)] [(gd q 1), (gd q 2)]) 2], [.i 0], [gd (meetR [(gd p 1), (gd p 2)] [(gd q 1), (gd q 2)]) 2], [gd (meetR [(gd p 1), (gd p 2)] [(gd q 1), (gd q 2)]) 0, gd (meetR [(gd p 1), (gd p 2)] [(gd q 1), (gd q 2)]) 1], [gd (meetR [(gd p 1), (gd p 2)] [(gd q 1), (gd q 2)]) 0, gd (meetR [(gd p 1), (gd p 2)] [(gd q 1), (gd q 2)]) 1, gd (meetR [(gd p 1), (gd p 2)] [(gd q 1), (gd q 2)]) 2], [gd (meetR [(gd p 1), (gd p 2)] [(gd q 1), (gd q 2)]) 0, gd (meetR [(gd p 1), (gd p 2)] [(gd q 1), (gd q 2)]) 1, gd (meetR [(gd p 1), (gd p 2)] [(gd q 1), (gd q 2)]) 2], [(gd q 1), (gd q 2)], [(gd p 1), (gd p 2)], [gd q 0, gd q 1, gd q 2, gd q 3], [gd p 0, gd p 1, gd p 2, gd p 3], p, q, [.i 0], [.i 0], [.i 0], [gd p 0, gd p 1, gd p 2, gd p 3], [gd q 0, gd q 1, gd q 2, gd q 3], [gd (meetR [(gd p 1), (gd p 2)] [(gd q 1), (gd q 2)]) 0, gd (meetR [(gd p 1), (gd p 2)] [(gd q 1), (gd q 2)]) 1]]) (nd (sameP [[gd (meetR [(gd p 1), (gd p 2)] [(gd q 1), (gd q 2)]) 2], [.i 0], [gd (meetR [(gd p 1), (gd p 2)] [(gd q 1), (gd q 2)]) 2], [gd (meetR [(gd p 1), (gd p 2)] [(gd q 1), (gd q 2)]) 0, gd (meetR [(gd p 1), (gd p 2)] [(gd q 1), (gd q 2)]) 1], [gd (meetR [(gd p 1), (gd p 2)] [(gd q 1), (gd q 2)]) 0, gd (meetR [(gd p 1), (gd p 2)] [(gd q 1), (gd q 2)]) 1, gd (meetR [(gd p 1), (gd p 2)] [(gd q 1), (gd q 2)]) 2], [gd (meetR [(gd p 1), (gd p 2)] [(gd q 1), (gd q 2)]) 0, gd (meetR [(gd p 1), (gd p 2)] [(gd q 1), (gd q 2)]) 1, gd (meetR [(gd p 1), (gd p 2)] [(gd q 1), (gd q 2)]) 2], [(gd q 1), (gd q 2)], [(gd p 1), (gd p 2)], [gd q 0, gd q 1, gd q 2, gd q 3], [gd p 0, gd p 1, gd p 2, gd p 3], p, q, [.i 0], [.i 0], [.i 0], [gd p 0, gd p 1, gd p 2, gd p 3], [gd q 0, gd q 1, gd q 2, gd q 3], [gd (meetR [(gd p 1), (gd p 2)] [(gd q 1), (gd q 2)]) 0, gd (meetR [(gd p 1), (gd p 2)] [(gd q 1), (gd q 2)]) 1]] [[gd (meetR [(gd p 1), (gd p 2)] [(gd q 1), (gd q 2)]) 2], [.i 0], [gd (meetR [(gd p 1), (gd p 2)] [(gd q 1), (gd q 2)]) 2], [gd (meetR [(gd p 1), (gd p 2)] [(gd q 1), (gd q 2)]) 0, gd (meetR [(gd p 1), (gd p 2)] [(gd q 1), (gd q 2)]) 1], [gd (meetR [(gd p 1), (gd p 2)] [(gd q 1), (gd q 2)]) 0, gd (meetR [(gd p 1), (gd p 2)] [(gd q 1), (gd q 2)]) 1, gd (meetR [(gd p 1), (gd p 2)] [(gd q 1), (gd q 2)]) 2], [gd (meetR [(gd p 1), (gd p 2)] [(gd q 1), (gd q 2)]) 0, gd (meetR [(gd p 1), (gd p 2)] [(gd q 1), (gd q 2)]) 1, gd (meetR [(gd p 1), (gd p 2)] [(gd q 1), (gd q 2)]) 2], [(gd q 1), (gd q 2)], [(gd p 1), (gd p 2)], [gd q 0, gd q 1, gd q 2, gd q 3], [gd p 0, gd p 1, gd p 2, gd p 3], p, q, [.i 0], [.i 0], [.i 0], [gd p 0, gd p 1, gd p 2, gd p 3], [gd q 0, gd q 1, gd q 2, gd q 3], [gd (meetR [(gd p 1), (gd p 2)] [(gd q 1), (gd q 2)]) 0, gd (meetR [(gd p 1), (gd p 2)] [(gd q 1), (gd q 2)]) 1]]) (bif (gd (meetR [(gd p 1), (gd p 2)] [(gd q 1), (gd q 2)]) 2).bool then bif (gd p 0).int != (gd q 0).int then bif (gd p 3).int == 2 then ob true
  else ob ((gd q 3).int == 2)
  else ob false
  else ob false))))))))) := by kernel_rfl
def clashS (p q : List D) : Bool := meetB [gd p 1, gd p 2] [gd q 1, gd q 2] && (!((gd p 0).int == (gd q 0).int) && (((gd p 3).int == 2) || ((gd q 3).int == 2)))
theorem clashS_of {p q : List D} (hp : rangeOk [gd p 1, gd p 2] = true) (hq : rangeOk [gd q 1, gd q 2] = true) : clashS p q = i_clashF p q := by
  unfold clashS i_clashF
  rw [meetB_of hp hq, bne_not]
  cases (gd p 0).int == (gd q 0).int <;> cases (gd p 3).int == 2 <;> cases (gd q 3).int == 2 <;> cases i_meetsF [gd p 1, gd p 2] [gd q 1, gd q 2] <;> rfl
def s_l12ClashE : Ent := (241, e2 (ag rILock) (ag rILock) fun p q => (⟨rb, [.b (clashS p q)]⟩, true))
theorem s_l12Clash_ok : EntOk Tryz.prog s_l12ClashE := e2_ok fun p q h => evFn_sound (N := 0) (ks := s_l12ClashK) (key := bo) s_l12ClashT_ok (enters Tryz.func241 (by kernel_rfl) (by kernel_rfl)) Tryz.func241 fun hw => by
  rw [s_l12Clash_ev]
  simp only [sameP_self, nd_true, meetR_2, bne_not]
  unfold clashS
  cases meetB [gd p 1, gd p 2] [gd q 1, gd q 2] <;> cases (gd p 0).int == (gd q 0).int <;> cases (gd p 3).int == 2 <;> cases (gd q 3).int == 2 <;> rfl

/-! loop.example/g00097/spec.RangeIn -/
abbrev s_RangeInT : FuncId → List T → Option (T × Bool) := find [s_RangeOkE]
theorem s_RangeInT_ok : CallOk Tryz.prog s_RangeInT := find_ok (List.forall_mem_cons.2 ⟨s_RangeOk_ok, List.forall_mem_nil _⟩)
abbrev s_RangeInK : List Nat := [0, 1, 2, 3, 4]
theorem s_RangeIn_ev (N : Nat) (p q : List D) : evFn Tryz.prog s_RangeInT N s_RangeInK Tryz.f299 rb [⟨ag rIRange, p⟩, ⟨ag rIRange, q⟩] = some (bo,
  bif rangeOk (sub p 0 2) then bif rangeOk (sub q 0 2) then bif leI (gd q 0).int (gd p 0).int then ob (leI (gd p 1).int (gd q 1).int)
  else ob false
  else ob false
  else ob false) := by kernel_rfl
def s_RangeInF (p q : List D) : Bool :=
  bif rangeOk (sub p 0 2) then bif rangeOk (sub q 0 2) then bif leI (gd q 0).int (gd p 0).int then leI (gd p 1).int (gd q 1).int
  else false
  else false
  else false
def s_RangeInE : Ent := (299, e2 (ag rIRange) (ag rIRange) fun p q => (⟨rb, [.b (s_RangeInF p q)]⟩, true))
theorem s_RangeIn_ok : EntOk Tryz.prog s_RangeInE := e2_ok fun p q h => evFn_sound (N := 0) (ks := s_RangeInK) (key := bo) s_RangeInT_ok (enters Tryz.func299 (by kernel_rfl) (by kernel_rfl)) Tryz.func299 fun hw => by
  rw [s_RangeIn_ev]
  try simp only [cond_ob, cond_oi, cond_os]
  rfl

/-! loop.example/g00097/spec.l16RangeOk -/
abbrev s_l16RangeOkT : FuncId → List T → Option (T × Bool) := find [s_RangeOkE]
theorem s_l16RangeOkT_ok : CallOk Tryz.prog s_l16RangeOkT := find_ok (List.forall_mem_cons.2 ⟨s_RangeOk_ok, List.forall_mem_nil _⟩)
abbrev s_l16RangeOkK : List Nat := [0, 1, 4]
theorem s_l16RangeOk_ev (N : Nat) (p q : List D) : evFn Tryz.prog s_l16RangeOkT N s_l16RangeOkK Tryz.f142 rb [⟨ri, p⟩, ⟨ri, q⟩] = some (bo,
  ob (rangeOk [gd p 0, gd q 0])) := by kernel_rfl
def s_l16RangeOkE : Ent := (142, e2 ri ri fun p q => (⟨rb, [.b (rangeOk [(gd p 0), (gd q 0)])]⟩, true))
theorem s_l16RangeOk_ok : EntOk Tryz.prog s_l16RangeOkE := e2_ok fun p q h => evFn_sound (N := 0) (ks := s_l16RangeOkK) (key := bo) s_l16RangeOkT_ok (enters Tryz.func142 (by kernel_rfl) (by kernel_rfl)) Tryz.func142 fun hw => by
  rw [s_l16RangeOk_ev]
  skip

/-! loop.example/g00097/spec.l15Group -/
abbrev s_l15GroupT : FuncId → List T → Option (T × Bool) := find [s_l1InE]
theorem s_l15GroupT_ok : CallOk Tryz.prog s_l15GroupT := find_ok (List.forall_mem_cons.2 ⟨s_l1In_ok, List.forall_mem_nil _⟩)
abbrev s_l15GroupK : List Nat := [0, 2]
theorem s_l15Group_ev (N : Nat) (p : List D) : evFn Tryz.prog s_l15GroupT N s_l15GroupK Tryz.f129 rb [⟨ri, p⟩] = some (bo,
  ob (inB (gd p 0).int 0 3)) := by kernel_rfl
def s_l15GroupE : Ent := (129, e1 ri fun p => (⟨rb, [.b (inB (gd p 0).int 0 3)]⟩, true))
theorem s_l15Group_ok : EntOk Tryz.prog s_l15GroupE := e1_ok fun p h => evFn_sound (N := 0) (ks := s_l15GroupK) (key := bo) s_l15GroupT_ok (enters Tryz.func129 (by kernel_rfl) (by kernel_rfl)) Tryz.func129 fun hw => by
  rw [s_l15Group_ev]
  skip

/-! loop.example/g00097/spec.l4Num -/
abbrev s_l4NumT : FuncId → List T → Option (T × Bool) := find [s_l1InE]
theorem s_l4NumT_ok : CallOk Tryz.prog s_l4NumT := find_ok (List.forall_mem_cons.2 ⟨s_l1In_ok, List.forall_mem_nil _⟩)
abbrev s_l4NumK : List Nat := [0, 1, 2, 3, 8]
theorem s_l4Num_ev (N : Nat) (p q r s : List D) : evFn Tryz.prog s_l4NumT N s_l4NumK Tryz.f140 rb [⟨rb, p⟩, ⟨ri, q⟩, ⟨ri, r⟩, ⟨ri, s⟩] = some (bo,
  bif (gd p 0).bool then bif inB (gd q 0).int (gd r 0).int (gd s 0).int then ob true
  else bif !(gd p 0).bool then ob ((gd q 0).int == 0)
  else ob false
  else bif !(gd p 0).bool then ob ((gd q 0).int == 0)
  else ob false) := by kernel_rfl
def numOk (h : Bool) (x lo hi : Int) : Bool := bif h then inB x lo hi else x == 0
def s_l4NumE : Ent := (140, e4 rb ri ri ri fun p q r s => (⟨rb, [.b (numOk (gd p 0).bool (gd q 0).int (gd r 0).int (gd s 0).int)]⟩, true))
theorem s_l4Num_ok : EntOk Tryz.prog s_l4NumE := e4_ok fun p q r s h => evFn_sound (N := 0) (ks := s_l4NumK) (key := bo) s_l4NumT_ok (enters Tryz.func140 (by kernel_rfl) (by kernel_rfl)) Tryz.func140 fun hw => by
  rw [s_l4Num_ev]
  unfold numOk
  cases (gd p 0).bool <;> cases inB (gd q 0).int (gd r 0).int (gd s 0).int <;> rfl

/-! loop.example/g00097/impl.has -/
abbrev i_hasT : FuncId → List T → Option (T × Bool) := find []
theorem i_hasT_ok : CallOk Tryz.prog i_hasT := find_ok (List.forall_mem_nil _)
abbrev i_hasK : List Nat := [0, 1, 4, 5, 7, 8, 9, 15]
noncomputable def i_hasL0 (N : Nat) (p q : List D) : List D → Out := loopOf Tryz.prog i_hasT N i_hasK Tryz.f187 rb [⟨sd (.str), p⟩, ⟨sd (.int .u8), q⟩] 0
/- x0=t0(sd (.str)) x1=t1(sd (.int .u8)) x2=t4(.one (.c (.kb false))) x3=t7(ri) x4=t8(ri) -/
theorem i_hasR0 (N : Nat) (p q : List D) (x0 x1 x2 x3 x4 : D) : (i_hasL0 N p q) [x0, x1, x2, x3, x4] =
  bif ltI x4.int x3.int then nd (inRange x4.int x0.str.length) (bif ((x0.str.getD x4.int.toNat 0).toNat : Int) == x1.int then ob true
  else nx [x0, x1, x2, x3, .i (w64 (x4.int + 1))])
  else ex 0 [x0, x1, x2, x3, x4] := by kernel_rfl
theorem i_has_ev (N : Nat) (p q : List D) : evFn Tryz.prog i_hasT N i_hasK Tryz.f187 rb [⟨sd (.str), p⟩, ⟨sd (.int .u8), q⟩] = some (bo,
  (let o0 := iter (i_hasL0 N p q) N [gd p 0, gd q 0, .i 0, .i ((gd p 0).str.length : Int), .i 0]
   nd o0.isSome (bif o0.code == 1 then some (1, o0.pay)
   else nd (o0.code == 2) (ob false)))) := by kernel_rfl
def hasB (l : List UInt8) (x : Int) : Bool := (List.range l.length).any fun k => ((l.getD k 0).toNat : Int) == x
theorem any_loop {L : List D → Out} (st : Nat → List D) (n : Nat) (C : Nat → Bool) (v : List D) (j : Nat) (h1 : ∀ k, k < n → L (st k) = some (bif C k then (1, v) else (0, st (k + 1)))) (h2 : L (st n) = some (j + 2, st n)) {N : Nat} (hN : n < N) :
    iter L N (st 0) = some (bif (List.range n).any C then (1, v) else (j + 2, st n)) := by
  have e := for_loop st n (fun k => !C k) v j (fun k hk => by rw [h1 k hk]; cases C k <;> rfl) h2 hN
  rw [e, not_any]
  cases (List.range n).any C <;> rfl
def i_hasE : Ent := (187, e2 (sd (.str)) (sd (.int .u8)) fun p q => (⟨rb, [.b (hasB (gd p 0).str (gd q 0).int)]⟩, leI ((gd p 0).str.length : Int) 100))
theorem i_has_ok : EntOk Tryz.prog i_hasE := e2_ok fun p q h => evFn_sound (N := 101) (ks := i_hasK) (key := bo) i_hasT_ok (enters Tryz.func187 (by kernel_rfl) (by kernel_rfl)) Tryz.func187 fun hw => by
  rw [i_has_ev]
  have h : leI ((gd p 0).str.length : Int) 100 = true := h
  simp only [leI, decide_eq_true_eq] at h
  have e := any_loop (L := i_hasL0 101 p q) (fun k => [gd p 0, gd q 0, .i 0, .i ((gd p 0).str.length : Int), .i (k : Int)]) (gd p 0).str.length (fun k => (((gd p 0).str.getD k 0).toNat : Int) == (gd q 0).int) [.b true] 0 (fun k hk => ?_) ?_ (N := 101) (by omega)
  · simp only [Int.natCast_zero] at e
    rw [e]
    unfold hasB
    cases (List.range (gd p 0).str.length).any (fun k => (((gd p 0).str.getD k 0).toNat : Int) == (gd q 0).int) <;> rfl
  · show i_hasL0 _ p q [_, _, _, _, .i (k : Int)] = _
    rw [i_hasR0]
    simp only [int_i, c_lt hk, nd_ix hk, w64_succ hk (show (gd p 0).str.length ≤ 9223372036854775807 from by omega), Int.toNat_natCast]
    cases (((gd p 0).str.getD k 0).toNat : Int) == (gd q 0).int <;> rfl
  · show i_hasL0 _ p q [_, _, _, .i ((gd p 0).str.length : Int), .i ((gd p 0).str.length : Int)] = _
    rw [i_hasR0]
    simp only [int_i, c_nlt]

/-! loop.example/g00097/spec.l4In -/
abbrev s_l4InT : FuncId → List T → Option (T × Bool) := find []
theorem s_l4InT_ok : CallOk Tryz.prog s_l4InT := find_ok (List.forall_mem_nil _)
abbrev s_l4InK : List Nat := [0, 1, 4, 5, 9, 16]
noncomputable def s_l4InL0 (N : Nat) (p q : List D) : List D → Out := loopOf Tryz.prog s_l4InT N s_l4InK Tryz.f141 rb [⟨sd (.str), p⟩, ⟨sd (.int .u8), q⟩] 0
/- x0=t0(sd (.str)) x1=t1(sd (.int .u8)) x2=t4(.one (.c (.kb false))) x3=t5(ri) -/
theorem s_l4InR0 (N : Nat) (p q : List D) (x0 x1 x2 x3 : D) : (s_l4InL0 N p q) [x0, x1, x2, x3] =
  bif ltI x3.int (x0.str.length : Int) then nd (inRange x3.int x0.str.length) (bif ((x0.str.getD x3.int.toNat 0).toNat : Int) == x1.int then ob true
  else nx [x0, x1, x2, .i (w64 (x3.int + 1))])
  else ex 0 [x0, x1, x2, x3] := by kernel_rfl
theorem s_l4In_ev (N : Nat) (p q : List D) : evFn Tryz.prog s_l4InT N s_l4InK Tryz.f141 rb [⟨sd (.str), p⟩, ⟨sd (.int .u8), q⟩] = some (bo,
  (let o0 := iter (s_l4InL0 N p q) N [gd p 0, gd q 0, .i 0, .i 0]
   nd o0.isSome (bif o0.code == 1 then some (1, o0.pay)
   else nd (o0.code == 2) (ob false)))) := by kernel_rfl
def s_l4InE : Ent := (141, e2 (sd (.str)) (sd (.int .u8)) fun p q => (⟨rb, [.b (hasB (gd p 0).str (gd q 0).int)]⟩, leI ((gd p 0).str.length : Int) 100))
theorem s_l4In_ok : EntOk Tryz.prog s_l4InE := e2_ok fun p q h => evFn_sound (N := 101) (ks := s_l4InK) (key := bo) s_l4InT_ok (enters Tryz.func141 (by kernel_rfl) (by kernel_rfl)) Tryz.func141 fun hw => by
  rw [s_l4In_ev]
  have h : leI ((gd p 0).str.length : Int) 100 = true := h
  simp only [leI, decide_eq_true_eq] at h
  have e := any_loop (L := s_l4InL0 101 p q) (fun k => [gd p 0, gd q 0, .i 0, .i (k : Int)]) (gd p 0).str.length (fun k => (((gd p 0).str.getD k 0).toNat : Int) == (gd q 0).int) [.b true] 0 (fun k hk => ?_) ?_ (N := 101) (by omega)
  · simp only [Int.natCast_zero] at e
    rw [e]
    unfold hasB
    cases (List.range (gd p 0).str.length).any (fun k => (((gd p 0).str.getD k 0).toNat : Int) == (gd q 0).int) <;> rfl
  · show s_l4InL0 _ p q [_, _, _, .i (k : Int)] = _
    rw [s_l4InR0]
    simp only [int_i, c_lt hk, nd_ix hk, w64_succ hk (show (gd p 0).str.length ≤ 9223372036854775807 from by omega), Int.toNat_natCast]
    cases (((gd p 0).str.getD k 0).toNat : Int) == (gd q 0).int <;> rfl
  · show s_l4InL0 _ p q [_, _, _, .i ((gd p 0).str.length : Int)] = _
    rw [s_l4InR0]
    simp only [int_i, c_nlt]

/-! loop.example/g00097/impl.numRight -/
abbrev i_numRightT : FuncId → List T → Option (T × Bool) := find [i_hasE, i_fromE]
theorem i_numRightT_ok : CallOk Tryz.prog i_numRightT := find_ok (List.forall_mem_cons.2 ⟨i_has_ok, List.forall_mem_cons.2 ⟨i_from_ok, List.forall_mem_nil _⟩⟩)
abbrev i_numRightK : List Nat := [0, 1, 2, 3, 4, 10, 13]
theorem i_numRight_ev (N : Nat) (p q r s t : List D) : evFn Tryz.prog i_numRightT N i_numRightK Tryz.f186 rb [⟨sd (.str), p⟩, ⟨sd (.int .u8), q⟩, ⟨ri, r⟩, ⟨ri, s⟩, ⟨ri, t⟩] = some (bo,
  nd (leI ((gd p 0).str.length : Int) 100) (bif hasB (gd p 0).str (gd q 0).int then ob (inB (gd r 0).int (gd s 0).int (gd t 0).int)
  else ob ((gd r 0).int == 0))) := by kernel_rfl
def i_numRightE : Ent := (186, e5 (sd (.str)) (sd (.int .u8)) ri ri ri fun p q r s t => (⟨rb, [.b (numOk (hasB (gd p 0).str (gd q 0).int) (gd r 0).int (gd s 0).int (gd t 0).int)]⟩, leI ((gd p 0).str.length : Int) 100))
theorem i_numRight_ok : EntOk Tryz.prog i_numRightE := e5_ok fun p q r s t h => evFn_sound (N := 0) (ks := i_numRightK) (key := bo) i_numRightT_ok (enters Tryz.func186 (by kernel_rfl) (by kernel_rfl)) Tryz.func186 fun hw => by
  rw [i_numRight_ev]
  have h : leI ((gd p 0).str.length : Int) 100 = true := h
  rw [h, nd_true]
  unfold numOk
  cases hasB (gd p 0).str (gd q 0).int <;> rfl

/-! loop.example/g00097/impl.letterHas -/
abbrev i_letterHasT : FuncId → List T → Option (T × Bool) := find []
theorem i_letterHasT_ok : CallOk Tryz.prog i_letterHasT := find_ok (List.forall_mem_nil _)
abbrev i_letterHasK : List Nat := [0, 2, 3, 4, 6, 8, 10, 12, 14, 16, 18, 20, 23, 27, 29, 31, 33]
theorem i_letterHas_ev (N : Nat) (p : List D) : evFn Tryz.prog i_letterHasT N i_letterHasK Tryz.f185 (sd (.str)) [⟨ri, p⟩] = some (bo,
  bif (gd p 0).int == 1 then some (1, [.s [67, 82]])
  else bif (gd p 0).int == 2 then some (1, [.s [67, 82, 84]])
  else bif (gd p 0).int == 3 then some (1, [.s [71, 67, 82, 84, 107]])
  else bif (gd p 0).int == 4 then some (1, [.s [71, 67, 82, 84, 107, 99, 108]])
  else bif (gd p 0).int == 5 then some (1, [.s [67, 84, 83]])
  else bif (gd p 0).int == 6 then some (1, [.s [67, 84]])
  else bif (gd p 0).int == 7 then some (1, [.s [67, 84, 89]])
  else bif (gd p 0).int == 8 then some (1, [.s [71, 84, 101, 87]])
  else bif (gd p 0).int == 9 then bif (gd p 0).int == 9 then some (1, [.s [71, 84, 89]])
  else bif (gd p 0).int == 11 then bif (gd p 0).int == 11 then some (1, [.s [71, 78, 107]])
  else bif (gd p 0).int == 12 then some (1, [.s [78, 108]])
  else bif (gd p 0).int == 13 then some (1, [.s [71, 78, 107, 108]])
  else bif (gd p 0).int == 14 then some (1, [.s [78, 89]])
  else bif (gd p 0).int == 17 then some (1, [.s [78]])
  else some (1, [.s []])
  else bif (gd p 0).int == 15 then bif (gd p 0).int == 15 then some (1, [.s [71, 78, 107]])
  else bif (gd p 0).int == 12 then some (1, [.s [78, 108]])
  else bif (gd p 0).int == 13 then some (1, [.s [71, 78, 107, 108]])
  else bif (gd p 0).int == 14 then some (1, [.s [78, 89]])
  else bif (gd p 0).int == 17 then some (1, [.s [78]])
  else some (1, [.s []])
  else bif (gd p 0).int == 16 then some (1, [.s [71, 78, 107]])
  else bif (gd p 0).int == 12 then some (1, [.s [78, 108]])
  else bif (gd p 0).int == 13 then some (1, [.s [71, 78, 107, 108]])
  else bif (gd p 0).int == 14 then some (1, [.s [78, 89]])
  else bif (gd p 0).int == 17 then some (1, [.s [78]])
  else some (1, [.s []])
  else bif (gd p 0).int == 10 then some (1, [.s [71, 84, 89]])
  else bif (gd p 0).int == 11 then bif (gd p 0).int == 11 then some (1, [.s [71, 78, 107]])
  else bif (gd p 0).int == 12 then some (1, [.s [78, 108]])
  else bif (gd p 0).int == 13 then some (1, [.s [71, 78, 107, 108]])
  else bif (gd p 0).int == 14 then some (1, [.s [78, 89]])
  else bif (gd p 0).int == 17 then some (1, [.s [78]])
  else some (1, [.s []])
  else bif (gd p 0).int == 15 then bif (gd p 0).int == 15 then some (1, [.s [71, 78, 107]])
  else bif (gd p 0).int == 12 then some (1, [.s [78, 108]])
  else bif (gd p 0).int == 13 then some (1, [.s [71, 78, 107, 108]])
  else bif (gd p 0).int == 14 then some (1, [.s [78, 89]])
  else bif (gd p 0).int == 17 then some (1, [.s [78]])
  else some (1, [.s []])
  else bif (gd p 0).int == 16 then some (1, [.s [71, 78, 107]])
  else bif (gd p 0).int == 12 then some (1, [.s [78, 108]])
  else bif (gd p 0).int == 13 then some (1, [.s [71, 78, 107, 108]])
  else bif (gd p 0).int == 14 then some (1, [.s [78, 89]])
  else bif (gd p 0).int == 17 then some (1, [.s [78]])
  else some (1, [.s []])) := by kernel_rfl
def i_letterHasF (p : List D) : List UInt8 :=
  bif (gd p 0).int == 1 then [67, 82]
  else bif (gd p 0).int == 2 then [67, 82, 84]
  else bif (gd p 0).int == 3 then [71, 67, 82, 84, 107]
  else bif (gd p 0).int == 4 then [71, 67, 82, 84, 107, 99, 108]
  else bif (gd p 0).int == 5 then [67, 84, 83]
  else bif (gd p 0).int == 6 then [67, 84]
  else bif (gd p 0).int == 7 then [67, 84, 89]
  else bif (gd p 0).int == 8 then [71, 84, 101, 87]
  else bif (gd p 0).int == 9 then bif (gd p 0).int == 9 then [71, 84, 89]
  else bif (gd p 0).int == 11 then bif (gd p 0).int == 11 then [71, 78, 107]
  else bif (gd p 0).int == 12 then [78, 108]
  else bif (gd p 0).int == 13 then [71, 78, 107, 108]
  else bif (gd p 0).int == 14 then [78, 89]
  else bif (gd p 0).int == 17 then [78]
  else []
  else bif (gd p 0).int == 15 then bif (gd p 0).int == 15 then [71, 78, 107]
  else bif (gd p 0).int == 12 then [78, 108]
  else bif (gd p 0).int == 13 then [71, 78, 107, 108]
  else bif (gd p 0).int == 14 then [78, 89]
  else bif (gd p 0).int == 17 then [78]
  else []
  else bif (gd p 0).int == 16 then [71, 78, 107]
  else bif (gd p 0).int == 12 then [78, 108]
  else bif (gd p 0).int == 13 then [71, 78, 107, 108]
  else bif (gd p 0).int == 14 then [78, 89]
  else bif (gd p 0).int == 17 then [78]
  else []
  else bif (gd p 0).int == 10 then [71, 84, 89]
  else bif (gd p 0).int == 11 then bif (gd p 0).int == 11 then [71, 78, 107]
  else bif (gd p 0).int == 12 then [78, 108]
  else bif (gd p 0).int == 13 then [71, 78, 107, 108]
  else bif (gd p 0).int == 14 then [78, 89]
  else bif (gd p 0).int == 17 then [78]
  else []
  else bif (gd p 0).int == 15 then bif (gd p 0).int == 15 then [71, 78, 107]
  else bif (gd p 0).int == 12 then [78, 108]
  else bif (gd p 0).int == 13 then [71, 78, 107, 108]
  else bif (gd p 0).int == 14 then [78, 89]
  else bif (gd p 0).int == 17 then [78]
  else []
  else bif (gd p 0).int == 16 then [71, 78, 107]
  else bif (gd p 0).int == 12 then [78, 108]
  else bif (gd p 0).int == 13 then [71, 78, 107, 108]
  else bif (gd p 0).int == 14 then [78, 89]
  else bif (gd p 0).int == 17 then [78]
  else []
def i_letterHasE : Ent := (185, e1 ri fun p => (⟨sd (.str), [.s (i_letterHasF [gd p 0])]⟩, true))
theorem i_letterHas_ok : EntOk Tryz.prog i_letterHasE := e1_ok fun p h => evFn_sound (N := 0) (ks := i_letterHasK) (key := bo) i_letterHasT_ok (enters Tryz.func185 (by kernel_rfl) (by kernel_rfl)) Tryz.func185 fun hw => by
  rw [i_letterHas_ev]
  try simp only [cond_ob, cond_oi, cond_os]
  rfl

/-! loop.example/g00097/spec.l16Has -/
abbrev s_l16HasT : FuncId → List T → Option (T × Bool) := find [s_l1InE]
theorem s_l16HasT_ok : CallOk Tryz.prog s_l16HasT := find_ok (List.forall_mem_cons.2 ⟨s_l1In_ok, List.forall_mem_nil _⟩)
abbrev s_l16HasK : List Nat := [0, 2, 5]
theorem s_l16Has_ev (N : Nat) (p : List D) : evFn Tryz.prog s_l16HasT N s_l16HasK Tryz.f139 (sd (.str)) [⟨ri, p⟩] = some (bo,
  bif !(inB (gd p 0).int 1 17) then some (1, [.s []])
  else nd (inRange (gd p 0).int ([[.s []], [.s [99, 113]], [.s [99, 113, 116]], [.s [103, 99, 113, 116, 114]], [.s [103, 99, 113, 116, 114, 107, 67]], [.s [99, 116, 83]], [.s [99, 116]], [.s [99, 116, 121]], [.s [103, 116, 82, 87]], [.s [103, 116, 121]], [.s [103, 116, 121]], [.s [103, 110, 114]], [.s [110, 67]], [.s [103, 110, 114, 67]], [.s [110, 121]], [.s [103, 110, 114]], [.s [103, 110, 114]], [.s [110]]] : List (List D)).length) (some (1, [gd (([[.s []], [.s [99, 113]], [.s [99, 113, 116]], [.s [103, 99, 113, 116, 114]], [.s [103, 99, 113, 116, 114, 107, 67]], [.s [99, 116, 83]], [.s [99, 116]], [.s [99, 116, 121]], [.s [103, 116, 82, 87]], [.s [103, 116, 121]], [.s [103, 116, 121]], [.s [103, 110, 114]], [.s [110, 67]], [.s [103, 110, 114, 67]], [.s [110, 121]], [.s [103, 110, 114]], [.s [103, 110, 114]], [.s [110]]] : List (List D)).getD (gd p 0).int.toNat []) 0]))) := by kernel_rfl
def lettersD : List (List D) := [[.s []], [.s [99, 113]], [.s [99, 113, 116]], [.s [103, 99, 113, 116, 114]], [.s [103, 99, 113, 116, 114, 107, 67]], [.s [99, 116, 83]], [.s [99, 116]], [.s [99, 116, 121]], [.s [103, 116, 82, 87]], [.s [103, 116, 121]], [.s [103, 116, 121]], [.s [103, 110, 114]], [.s [110, 67]], [.s [103, 110, 114, 67]], [.s [110, 121]], [.s [103, 110, 114]], [.s [103, 110, 114]], [.s [110]]]
def lettersS (k : Int) : D := bif inB k 1 17 then gd (lettersD.getD k.toNat []) 0 else .s []
def s_l16HasE : Ent := (139, e1 ri fun p => (⟨sd (.str), [lettersS (gd p 0).int]⟩, true))
theorem s_l16Has_ok : EntOk Tryz.prog s_l16HasE := e1_ok fun p h => evFn_sound (N := 0) (ks := s_l16HasK) (key := bo) s_l16HasT_ok (enters Tryz.func139 (by kernel_rfl) (by kernel_rfl)) Tryz.func139 fun hw => by
  rw [s_l16Has_ev]
  show some (bo, bif !inB (gd p 0).int 1 17 then some (1, [.s []]) else nd (inRange (gd p 0).int lettersD.length) (some (1, [gd (lettersD.getD (gd p 0).int.toNat []) 0]))) = some (bo, some (1, [lettersS (gd p 0).int]))
  unfold lettersS
  cases hb : inB (gd p 0).int 1 17
  · rfl
  · simp only [inB, Bool.and_eq_true, decide_eq_true_eq] at hb
    rw [show inRange (gd p 0).int lettersD.length = true from by
      have h18 : lettersD.length = 18 := rfl
      simp only [inRange, Bool.and_eq_true, decide_eq_true_eq, h18]; omega]
    rfl

/-! loop.example/g00097/impl.LocksOk$1 -/
abbrev i_LocksOk_1T : FuncId → List T → Option (T × Bool) := find [i_clashE]
theorem i_LocksOk_1T_ok : CallOk Tryz.prog i_LocksOk_1T := find_ok (List.forall_mem_cons.2 ⟨i_clash_ok, List.forall_mem_nil _⟩)
abbrev i_LocksOk_1K : List Nat := [0, 1, 2, 3]
theorem i_LocksOk_1_ev (N : Nat) (p q : List D) : evFn Tryz.prog i_LocksOk_1T N i_LocksOk_1K Tryz.f259 rb [⟨ag rILock, p⟩, ⟨.one (.c (.cptr [si, si, si, si] 0)), q⟩] = some (bo,
  ob (i_clashF (sub ((gd q 0).rows.getD 0 []) 0 4) (sub p 0 4))) := by kernel_rfl
def i_LocksOk_1F (p q : List D) : Bool :=
  i_clashF (sub ((gd q 0).rows.getD 0 []) 0 4) (sub p 0 4)
def i_LocksOk_1E : Ent := (259, e2 (ag rILock) (.one (.c (.cptr [si, si, si, si] 0))) fun p q => (⟨rb, [.b (i_LocksOk_1F p [gd q 0])]⟩, true))
theorem i_LocksOk_1_ok : EntOk Tryz.prog i_LocksOk_1E := e2_ok fun p q h => evFn_sound (N := 0) (ks := i_LocksOk_1K) (key := bo) i_LocksOk_1T_ok (enters Tryz.func259 (by kernel_rfl) (by kernel_rfl)) Tryz.func259 fun hw => by
  rw [i_LocksOk_1_ev]
  try simp only [cond_ob, cond_oi, cond_os]
  rfl

/-! loop.example/g00097/impl.LocksHold$1 -/
abbrev i_LocksHold_1T : FuncId → List T → Option (T × Bool) := find []
theorem i_LocksHold_1T_ok : CallOk Tryz.prog i_LocksHold_1T := find_ok (List.forall_mem_nil _)
abbrev i_LocksHold_1K : List Nat := [0, 1, 2, 3, 4, 5]
theorem i_LocksHold_1_ev (N : Nat) (p q r s : List D) : evFn Tryz.prog i_LocksHold_1T N i_LocksHold_1K Tryz.f309 rb [⟨ag rILock, p⟩, ⟨.one (.c (.cptr [si] 0)), q⟩, ⟨.one (.c (.cptr [si] 0)), r⟩, ⟨.one (.c (.cptr [si, si] 0)), s⟩] = some (bo,
  bif (gd p 0).int == (gd ((gd q 0).rows.getD 0 []) 0).int then bif (gd p 3).int == (gd ((gd r 0).rows.getD 0 []) 0).int then bif leI (gd p 1).int (gd ((gd s 0).rows.getD 0 []) 0).int then ob (leI (gd ((gd s 0).rows.getD 0 []) 1).int (gd p 2).int)
  else ob false
  else bif (gd p 3).int == 2 then bif leI (gd p 1).int (gd ((gd s 0).rows.getD 0 []) 0).int then ob (leI (gd ((gd s 0).rows.getD 0 []) 1).int (gd p 2).int)
  else ob false
  else ob false
  else ob false) := by kernel_rfl
def i_LocksHold_1F (p q r s : List D) : Bool :=
  bif (gd p 0).int == (gd ((gd q 0).rows.getD 0 []) 0).int then bif (gd p 3).int == (gd ((gd r 0).rows.getD 0 []) 0).int then bif leI (gd p 1).int (gd ((gd s 0).rows.getD 0 []) 0).int then leI (gd ((gd s 0).rows.getD 0 []) 1).int (gd p 2).int
  else false
  else bif (gd p 3).int == 2 then bif leI (gd p 1).int (gd ((gd s 0).rows.getD 0 []) 0).int then leI (gd ((gd s 0).rows.getD 0 []) 1).int (gd p 2).int
  else false
  else false
  else false
def i_LocksHold_1E : Ent := (309, e4 (ag rILock) (.one (.c (.cptr [si] 0))) (.one (.c (.cptr [si] 0))) (.one (.c (.cptr [si, si] 0))) fun p q r s => (⟨rb, [.b (i_LocksHold_1F p [gd q 0] [gd r 0] [gd s 0])]⟩, true))
theorem i_LocksHold_1_ok : EntOk Tryz.prog i_LocksHold_1E := e4_ok fun p q r s h => evFn_sound (N := 0) (ks := i_LocksHold_1K) (key := bo) i_LocksHold_1T_ok (enters Tryz.func309 (by kernel_rfl) (by kernel_rfl)) Tryz.func309 fun hw => by
  rw [i_LocksHold_1_ev]
  try simp only [cond_ob, cond_oi, cond_os]
  rfl

/-! loop.example/g00097/impl.TownOk$1 -/
abbrev i_TownOk_1T : FuncId → List T → Option (T × Bool) := find []
theorem i_TownOk_1T_ok : CallOk Tryz.prog i_TownOk_1T := find_ok (List.forall_mem_nil _)
abbrev i_TownOk_1K : List Nat := [0, 1, 2, 3]
theorem i_TownOk_1_ev (N : Nat) (p q : List D) : evFn Tryz.prog i_TownOk_1T N i_TownOk_1K Tryz.f65 rb [⟨ag rIPart, p⟩, ⟨.one (.c (.cptr [si] 0)), q⟩] = some (bo,
  ob (leI (gd ((gd q 0).rows.getD 0 []) 0).int (gd p 2).int)) := by kernel_rfl
def i_TownOk_1F (p q : List D) : Bool :=
  leI (gd ((gd q 0).rows.getD 0 []) 0).int (gd p 2).int
def i_TownOk_1E : Ent := (65, e2 (ag rIPart) (.one (.c (.cptr [si] 0))) fun p q => (⟨rb, [.b (i_TownOk_1F p [gd q 0])]⟩, true))
theorem i_TownOk_1_ok : EntOk Tryz.prog i_TownOk_1E := e2_ok fun p q h => evFn_sound (N := 0) (ks := i_TownOk_1K) (key := bo) i_TownOk_1T_ok (enters Tryz.func65 (by kernel_rfl) (by kernel_rfl)) Tryz.func65 fun hw => by
  rw [i_TownOk_1_ev]
  try simp only [cond_ob, cond_oi, cond_os]
  rfl

/-! loop.example/g00097/impl.clientRight$1 -/
abbrev i_clientRight_1T : FuncId → List T → Option (T × Bool) := find []
theorem i_clientRight_1T_ok : CallOk Tryz.prog i_clientRight_1T := find_ok (List.forall_mem_nil _)
abbrev i_clientRight_1K : List Nat := [0, 1, 2, 3]
theorem i_clientRight_1_ev (N : Nat) (p q : List D) : evFn Tryz.prog i_clientRight_1T N i_clientRight_1K Tryz.f181 rb [⟨ag rIPart, p⟩, ⟨.one (.c (.cptr [si] 0)), q⟩] = some (bo,
  ob (leI (gd ((gd q 0).rows.getD 0 []) 0).int (gd p 2).int)) := by kernel_rfl
def i_clientRight_1F (p q : List D) : Bool :=
  leI (gd ((gd q 0).rows.getD 0 []) 0).int (gd p 2).int
def i_clientRight_1E : Ent := (181, e2 (ag rIPart) (.one (.c (.cptr [si] 0))) fun p q => (⟨rb, [.b (i_clientRight_1F p [gd q 0])]⟩, true))
theorem i_clientRight_1_ok : EntOk Tryz.prog i_clientRight_1E := e2_ok fun p q h => evFn_sound (N := 0) (ks := i_clientRight_1K) (key := bo) i_clientRight_1T_ok (enters Tryz.func181 (by kernel_rfl) (by kernel_rfl)) Tryz.func181 fun hw => by
  rw [i_clientRight_1_ev]
  try simp only [cond_ob, cond_oi, cond_os]
  rfl

/-! loop.example/g00097/impl.clientRight$2 -/
abbrev i_clientRight_2T : FuncId → List T → Option (T × Bool) := find []
theorem i_clientRight_2T_ok : CallOk Tryz.prog i_clientRight_2T := find_ok (List.forall_mem_nil _)
abbrev i_clientRight_2K : List Nat := [0, 1, 2, 3]
theorem i_clientRight_2_ev (N : Nat) (p q : List D) : evFn Tryz.prog i_clientRight_2T N i_clientRight_2K Tryz.f183 rb [⟨ag rISeen, p⟩, ⟨.one (.c (.cptr [si] 0)), q⟩] = some (bo,
  ob (leI (gd ((gd q 0).rows.getD 0 []) 0).int (gd p 0).int)) := by kernel_rfl
def i_clientRight_2F (p q : List D) : Bool :=
  leI (gd ((gd q 0).rows.getD 0 []) 0).int (gd p 0).int
def i_clientRight_2E : Ent := (183, e2 (ag rISeen) (.one (.c (.cptr [si] 0))) fun p q => (⟨rb, [.b (i_clientRight_2F p [gd q 0])]⟩, true))
theorem i_clientRight_2_ok : EntOk Tryz.prog i_clientRight_2E := e2_ok fun p q h => evFn_sound (N := 0) (ks := i_clientRight_2K) (key := bo) i_clientRight_2T_ok (enters Tryz.func183 (by kernel_rfl) (by kernel_rfl)) Tryz.func183 fun hw => by
  rw [i_clientRight_2_ev]
  try simp only [cond_ob, cond_oi, cond_os]
  rfl

/-! loop.example/g00097/impl.cellsIn$1 -/
abbrev i_cellsIn_1T : FuncId → List T → Option (T × Bool) := find [i_RhasE]
theorem i_cellsIn_1T_ok : CallOk Tryz.prog i_cellsIn_1T := find_ok (List.forall_mem_cons.2 ⟨i_Rhas_ok, List.forall_mem_nil _⟩)
abbrev i_cellsIn_1K : List Nat := [0, 1, 2, 3]
theorem i_cellsIn_1_ev (N : Nat) (p q : List D) : evFn Tryz.prog i_cellsIn_1T N i_cellsIn_1K Tryz.f307 rb [⟨ag rICell, p⟩, ⟨.one (.c (.cptr [si, si] 0)), q⟩] = some (bo,
  ob (!(inB (gd p 0).int (gd ((gd q 0).rows.getD 0 []) 0).int (w64 ((gd ((gd q 0).rows.getD 0 []) 1).int - 1))))) := by kernel_rfl
def i_cellsIn_1F (p q : List D) : Bool :=
  !(inB (gd p 0).int (gd ((gd q 0).rows.getD 0 []) 0).int (w64 ((gd ((gd q 0).rows.getD 0 []) 1).int - 1)))
def i_cellsIn_1E : Ent := (307, e2 (ag rICell) (.one (.c (.cptr [si, si] 0))) fun p q => (⟨rb, [.b (i_cellsIn_1F p [gd q 0])]⟩, true))
theorem i_cellsIn_1_ok : EntOk Tryz.prog i_cellsIn_1E := e2_ok fun p q h => evFn_sound (N := 0) (ks := i_cellsIn_1K) (key := bo) i_cellsIn_1T_ok (enters Tryz.func307 (by kernel_rfl) (by kernel_rfl)) Tryz.func307 fun hw => by
  rw [i_cellsIn_1_ev]
  try simp only [cond_ob, cond_oi, cond_os]
  rfl

/-! loop.example/g00097/impl.ClientOk$1 -/
abbrev i_ClientOk_1T : FuncId → List T → Option (T × Bool) := find [i_isGroupE, i_SkeysE, i_RangeOkE]
theorem i_ClientOk_1T_ok : CallOk Tryz.prog i_ClientOk_1T := find_ok (List.forall_mem_cons.2 ⟨i_isGroup_ok, List.forall_mem_cons.2 ⟨i_Skeys_ok, List.forall_mem_cons.2 ⟨i_RangeOk_ok, List.forall_mem_nil _⟩⟩⟩)
abbrev i_ClientOk_1K : List Nat := [0, 1, 2]
theorem i_ClientOk_1_ev (N : Nat) (p : List D) : evFn Tryz.prog i_ClientOk_1T N i_ClientOk_1K Tryz.f271 rb [⟨ag rISeen, p⟩] = some (bo,
  bif !(inB (gd p 0).int (0) (3)) then ob true
  else ob (!(rangeOk [(gd p 1), (gd p 2)]))) := by kernel_rfl
def i_ClientOk_1F (p : List D) : Bool :=
  bif !(inB (gd p 0).int (0) (3)) then true
  else !(rangeOk [(gd p 1), (gd p 2)])
def i_ClientOk_1E : Ent := (271, e1 (ag rISeen) fun p => (⟨rb, [.b (i_ClientOk_1F p)]⟩, true))
theorem i_ClientOk_1_ok : EntOk Tryz.prog i_ClientOk_1E := e1_ok fun p h => evFn_sound (N := 0) (ks := i_ClientOk_1K) (key := bo) i_ClientOk_1T_ok (enters Tryz.func271 (by kernel_rfl) (by kernel_rfl)) Tryz.func271 fun hw => by
  rw [i_ClientOk_1_ev]
  try simp only [cond_ob, cond_oi, cond_os]
  rfl

end Go.Proofs.YtchceahcaaibcaaGreat
