/-
 Texts of the proof,put together: part 4.
-/
import Derived.Test.YtpdfmcmnjikppaaGreatSI1
import Derived.Test.YtpdfmcmnjikppaaGreatSI2
import Derived.Test.YtpdfmcmnjikppaaGreatSI3
import Derived.Shelf.Sort.Plain
import Derived.Shelf.Slices.In.SortNone
import Derived.Shelf.Slices.CompactI
import Derived.Shelf.Slices.Clone
import Derived.Shelf.Spec.SlicesGrow
import Derived.Test.YtpdfmcmnjikppaaGreatProg
import Derived.Lib.SlicesCompact
import Derived.Lib.RowBridge
set_option linter.unusedSimpArgs false
set_option linter.unusedVariables false
set_option linter.unusedSectionVars false
namespace Go.Proofs.YtpdfmcmnjikppaaGreat
set_option maxRecDepth 4096
abbrev i_isTxT:FuncId→List T→Option (T × Bool):=find [i_fromE]
theorem i_isTxT_ok:CallOk Tryz.prog i_isTxT:=find_ok (fC ⟨i_from_ok,fN⟩)
abbrev i_isTxK:List Nat:= [0,2]
theorem i_isTx_ev (N:Nat) (p:List D):evFn Tryz.prog i_isTxT N i_isTxK Tryz.f105 rb [⟨ri,p⟩]=some (bo,
 ob (inB (gd p 0).int 1 60)):=by kernel_rfl
def i_isTxE:Ent:=(105,e1 ri fun p=>(⟨rb,[.b (inB (gd p 0).int 1 60)]⟩,true))
theorem i_isTx_ok:EntOk Tryz.prog i_isTxE:=e1_ok fun p h=>evFn_sound (N:=0) (ks:=i_isTxK) (key:=bo) i_isTxT_ok (enters Tryz.func105) Tryz.func105 fun hw=>by
 rw [i_isTx_ev]
 skip
abbrev s_l12TxT:FuncId→List T→Option (T × Bool):=find [s_l1InE]
theorem s_l12TxT_ok:CallOk Tryz.prog s_l12TxT:=find_ok (fC ⟨s_l1In_ok,fN⟩)
abbrev s_l12TxK:List Nat:= [0,2]
theorem s_l12Tx_ev (N:Nat) (p:List D):evFn Tryz.prog s_l12TxT N s_l12TxK Tryz.f92 rb [⟨ri,p⟩]=some (bo,
 ob (inB (gd p 0).int 1 60)):=by kernel_rfl
def s_l12TxE:Ent:=(92,e1 ri fun p=>(⟨rb,[.b (inB (gd p 0).int 1 60)]⟩,true))
theorem s_l12Tx_ok:EntOk Tryz.prog s_l12TxE:=e1_ok fun p h=>evFn_sound (N:=0) (ks:=s_l12TxK) (key:=bo) s_l12TxT_ok (enters Tryz.func92) Tryz.func92 fun hw=>by
 rw [s_l12Tx_ev]
 skip
abbrev i_isModeT:FuncId→List T→Option (T × Bool):=find []
theorem i_isModeT_ok:CallOk Tryz.prog i_isModeT:=find_ok (fN)
abbrev i_isModeK:List Nat:= [0,2]
theorem i_isMode_ev (N:Nat) (p:List D):evFn Tryz.prog i_isModeT N i_isModeK Tryz.f176 rb [⟨ri,p⟩]=some (bo,
 bif (gd p 0).int==1 then ob true
 else ob ((gd p 0).int==2)):=by kernel_rfl
def i_isModeF (p:List D):Bool:=
 bif (gd p 0).int==1 then true
 else (gd p 0).int==2
def i_isModeE:Ent:=(176,e1 ri fun p=>(⟨rb,[.b (i_isModeF [gd p 0])]⟩,true))
theorem i_isMode_ok:EntOk Tryz.prog i_isModeE:=e1_ok fun p h=>evFn_sound (N:=0) (ks:=i_isModeK) (key:=bo) i_isModeT_ok (enters Tryz.func176) Tryz.func176 fun hw=>by
 rw [i_isMode_ev]
 try simp only [cond_ob,cond_oi,cond_os]
 rfl
abbrev s_l12ModeT:FuncId→List T→Option (T × Bool):=find []
theorem s_l12ModeT_ok:CallOk Tryz.prog s_l12ModeT:=find_ok (fN)
abbrev s_l12ModeK:List Nat:= [0,2]
theorem s_l12Mode_ev (N:Nat) (p:List D):evFn Tryz.prog s_l12ModeT N s_l12ModeK Tryz.f237 rb [⟨ri,p⟩]=some (bo,
 bif (gd p 0).int==1 then ob true
 else ob ((gd p 0).int==2)):=by kernel_rfl
def s_l12ModeF (p:List D):Bool:=
 bif (gd p 0).int==1 then true
 else (gd p 0).int==2
def s_l12ModeE:Ent:=(237,e1 ri fun p=>(⟨rb,[.b (s_l12ModeF [gd p 0])]⟩,true))
theorem s_l12Mode_ok:EntOk Tryz.prog s_l12ModeE:=e1_ok fun p h=>evFn_sound (N:=0) (ks:=s_l12ModeK) (key:=bo) s_l12ModeT_ok (enters Tryz.func237) Tryz.func237 fun hw=>by
 rw [s_l12Mode_ev]
 try simp only [cond_ob,cond_oi,cond_os]
 rfl
abbrev i_oneT:FuncId→List T→Option (T × Bool):=find []
theorem i_oneT_ok:CallOk Tryz.prog i_oneT:=find_ok (fN)
abbrev i_oneK:List Nat:= [0,2]
theorem i_one_ev (N:Nat) (p:List D):evFn Tryz.prog i_oneT N i_oneK Tryz.f113 (ag rIRange) [⟨ri,p⟩]=some (bo,
 some (1,[gd p 0,.i (w64 ((gd p 0).int+1))])):=by kernel_rfl
def i_oneE:Ent:=(113,e1 ri fun p=>(⟨ag rIRange,[(gd p 0),.i (w64 ((gd p 0).int+1))]⟩,true))
theorem i_one_ok:EntOk Tryz.prog i_oneE:=e1_ok fun p h=>evFn_sound (N:=0) (ks:=i_oneK) (key:=bo) i_oneT_ok (enters Tryz.func113) Tryz.func113 fun hw=>by
 rw [i_one_ev]
 skip
abbrev s_l10OneT:FuncId→List T→Option (T × Bool):=find []
theorem s_l10OneT_ok:CallOk Tryz.prog s_l10OneT:=find_ok (fN)
abbrev s_l10OneK:List Nat:= [0,2]
theorem s_l10One_ev (N:Nat) (p:List D):evFn Tryz.prog s_l10OneT N s_l10OneK Tryz.f98 (ag rIRange) [⟨ri,p⟩]=some (bo,
 some (1,[gd p 0,.i (w64 ((gd p 0).int+1))])):=by kernel_rfl
def s_l10OneE:Ent:=(98,e1 ri fun p=>(⟨ag rIRange,[(gd p 0),.i (w64 ((gd p 0).int+1))]⟩,true))
theorem s_l10One_ok:EntOk Tryz.prog s_l10OneE:=e1_ok fun p h=>evFn_sound (N:=0) (ks:=s_l10OneK) (key:=bo) s_l10OneT_ok (enters Tryz.func98) Tryz.func98 fun hw=>by
 rw [s_l10One_ev]
 skip
abbrev i_LkeysT:FuncId→List T→Option (T × Bool):=find []
theorem i_LkeysT_ok:CallOk Tryz.prog i_LkeysT:=find_ok (fN)
abbrev i_LkeysK:List Nat:= [0,1,2]
theorem i_Lkeys_ev (N:Nat) (p:List D):evFn Tryz.prog i_LkeysT N i_LkeysK Tryz.f160 (ag rIRange) [⟨ag rILock,p⟩]=some (bo,
 some (1,sub p 1 2)):=by kernel_rfl
def i_LkeysE:Ent:=(160,e1 (ag rILock) fun p=>(⟨ag rIRange,[(gd p 1),(gd p 2)]⟩,true))
theorem i_Lkeys_ok:EntOk Tryz.prog i_LkeysE:=e1_ok fun p h=>evFn_sound (N:=0) (ks:=i_LkeysK) (key:=bo) i_LkeysT_ok (enters Tryz.func160) Tryz.func160 fun hw=>by
 rw [i_Lkeys_ev]
 rfl
abbrev s_l12RangeT:FuncId→List T→Option (T × Bool):=find []
theorem s_l12RangeT_ok:CallOk Tryz.prog s_l12RangeT:=find_ok (fN)
abbrev s_l12RangeK:List Nat:= [0,1,2]
theorem s_l12Range_ev (N:Nat) (p:List D):evFn Tryz.prog s_l12RangeT N s_l12RangeK Tryz.f65 (ag rIRange) [⟨ag rILock,p⟩]=some (bo,
 some (1,sub p 1 2)):=by kernel_rfl
def s_l12RangeE:Ent:=(65,e1 (ag rILock) fun p=>(⟨ag rIRange,[(gd p 1),(gd p 2)]⟩,true))
theorem s_l12Range_ok:EntOk Tryz.prog s_l12RangeE:=e1_ok fun p h=>evFn_sound (N:=0) (ks:=s_l12RangeK) (key:=bo) s_l12RangeT_ok (enters Tryz.func65) Tryz.func65 fun hw=>by
 rw [s_l12Range_ev]
 rfl
abbrev i_meetsT:FuncId→List T→Option (T × Bool):=find []
theorem i_meetsT_ok:CallOk Tryz.prog i_meetsT:=find_ok (fN)
abbrev i_meetsK:List Nat:= [0,1,2,3,4]
theorem i_meets_ev (N:Nat) (p q:List D):evFn Tryz.prog i_meetsT N i_meetsK Tryz.f181 rb [⟨ag rIRange,p⟩,⟨ag rIRange,q⟩]=some (bo,
 bif ltI (gd p 0).int (gd q 1).int then ob (ltI (gd q 0).int (gd p 1).int)
 else ob false):=by kernel_rfl
def i_meetsF (p q:List D):Bool:=
 bif ltI (gd p 0).int (gd q 1).int then ltI (gd q 0).int (gd p 1).int
 else false
def i_meetsE:Ent:=(181,e2 (ag rIRange) (ag rIRange) fun p q=>(⟨rb,[.b (i_meetsF p q)]⟩,true))
theorem i_meets_ok:EntOk Tryz.prog i_meetsE:=e2_ok fun p q h=>evFn_sound (N:=0) (ks:=i_meetsK) (key:=bo) i_meetsT_ok (enters Tryz.func181) Tryz.func181 fun hw=>by
 rw [i_meets_ev]
 try simp only [cond_ob,cond_oi,cond_os]
 rfl
abbrev i_clashT:FuncId→List T→Option (T × Bool):=find [i_LkeysE,i_meetsE]
theorem i_clashT_ok:CallOk Tryz.prog i_clashT:=find_ok (fC ⟨i_Lkeys_ok,fC ⟨i_meets_ok,fN⟩⟩)
abbrev i_clashK:List Nat:= [0,1,2,3,4]
theorem i_clash_ev (N:Nat) (p q:List D):evFn Tryz.prog i_clashT N i_clashK Tryz.f231 rb [⟨ag rILock,p⟩,⟨ag rILock,q⟩]=some (bo,
 bif (gd p 0).int != (gd q 0).int then bif (gd p 3).int==2 then ob (i_meetsF [(gd p 1),(gd p 2)] [(gd q 1),(gd q 2)])
 else bif (gd q 3).int==2 then ob (i_meetsF [(gd p 1),(gd p 2)] [(gd q 1),(gd q 2)])
 else ob false
 else ob false):=by kernel_rfl
def i_clashF (p q:List D):Bool:=
 bif (gd p 0).int != (gd q 0).int then bif (gd p 3).int==2 then i_meetsF [(gd p 1),(gd p 2)] [(gd q 1),(gd q 2)]
 else bif (gd q 3).int==2 then i_meetsF [(gd p 1),(gd p 2)] [(gd q 1),(gd q 2)]
 else false
 else false
def i_clashE:Ent:=(231,e2 (ag rILock) (ag rILock) fun p q=>(⟨rb,[.b (i_clashF p q)]⟩,true))
theorem i_clash_ok:EntOk Tryz.prog i_clashE:=e2_ok fun p q h=>evFn_sound (N:=0) (ks:=i_clashK) (key:=bo) i_clashT_ok (enters Tryz.func231) Tryz.func231 fun hw=>by
 rw [i_clash_ev]
 try simp only [cond_ob,cond_oi,cond_os]
 rfl
abbrev i_RhasT:FuncId→List T→Option (T × Bool):=find [i_fromE]
theorem i_RhasT_ok:CallOk Tryz.prog i_RhasT:=find_ok (fC ⟨i_from_ok,fN⟩)
abbrev i_RhasK:List Nat:= [0,1,2,4]
theorem i_Rhas_ev (N:Nat) (p q:List D):evFn Tryz.prog i_RhasT N i_RhasK Tryz.f130 rb [⟨ag rIRange,p⟩,⟨ri,q⟩]=some (bo,
 ob (inB (gd q 0).int (gd p 0).int (w64 ((gd p 1).int - 1)))):=by kernel_rfl
def i_RhasE:Ent:=(130,e2 (ag rIRange) ri fun p q=>(⟨rb,[.b (inB (gd q 0).int (gd p 0).int (w64 ((gd p 1).int - 1)))]⟩,true))
theorem i_Rhas_ok:EntOk Tryz.prog i_RhasE:=e2_ok fun p q h=>evFn_sound (N:=0) (ks:=i_RhasK) (key:=bo) i_RhasT_ok (enters Tryz.func130) Tryz.func130 fun hw=>by
 rw [i_Rhas_ev]
 skip
abbrev s_l1MaxT:FuncId→List T→Option (T × Bool):=find []
theorem s_l1MaxT_ok:CallOk Tryz.prog s_l1MaxT:=find_ok (fN)
abbrev s_l1MaxK:List Nat:= [0,1,4,7]
theorem s_l1Max_ev (N:Nat) (p q:List D):evFn Tryz.prog s_l1MaxT N s_l1MaxK Tryz.f187 ri [⟨ri,p⟩,⟨ri,q⟩]=some (bo,
 bif ltI (gd q 0).int (gd p 0).int then some (1,[gd p 0])
 else some (1,[gd q 0])):=by kernel_rfl
def maxD (x y:D):D:=bif ltI y.int x.int then x else y
def minD (x y:D):D:=bif ltI x.int y.int then x else y
def s_l1MaxE:Ent:=(187,e2 ri ri fun p q=>(⟨ri,[maxD (gd p 0) (gd q 0)]⟩,true))
theorem s_l1Max_ok:EntOk Tryz.prog s_l1MaxE:=e2_ok fun p q h=>evFn_sound (N:=0) (ks:=s_l1MaxK) (key:=bo) s_l1MaxT_ok (enters Tryz.func187) Tryz.func187 fun hw=>by
 rw [s_l1Max_ev]
 show some (bo,bif ltI (gd q 0).int (gd p 0).int then some (1,[gd p 0]) else some (1,[gd q 0]))=some (bo,some (1,[bif ltI (gd q 0).int (gd p 0).int then gd p 0 else gd q 0]))
 cases ltI (gd q 0).int (gd p 0).int <;> rfl
abbrev s_l1MinT:FuncId→List T→Option (T × Bool):=find []
theorem s_l1MinT_ok:CallOk Tryz.prog s_l1MinT:=find_ok (fN)
abbrev s_l1MinK:List Nat:= [0,1,4,7]
theorem s_l1Min_ev (N:Nat) (p q:List D):evFn Tryz.prog s_l1MinT N s_l1MinK Tryz.f188 ri [⟨ri,p⟩,⟨ri,q⟩]=some (bo,
 bif ltI (gd p 0).int (gd q 0).int then some (1,[gd p 0])
 else some (1,[gd q 0])):=by kernel_rfl
def s_l1MinE:Ent:=(188,e2 ri ri fun p q=>(⟨ri,[minD (gd p 0) (gd q 0)]⟩,true))
theorem s_l1Min_ok:EntOk Tryz.prog s_l1MinE:=e2_ok fun p q h=>evFn_sound (N:=0) (ks:=s_l1MinK) (key:=bo) s_l1MinT_ok (enters Tryz.func188) Tryz.func188 fun hw=>by
 rw [s_l1Min_ev]
 show some (bo,bif ltI (gd p 0).int (gd q 0).int then some (1,[gd p 0]) else some (1,[gd q 0]))=some (bo,some (1,[bif ltI (gd p 0).int (gd q 0).int then gd p 0 else gd q 0]))
 cases ltI (gd p 0).int (gd q 0).int <;> rfl
abbrev s_RangeMeetT:FuncId→List T→Option (T × Bool):=find [s_l1MaxE,s_l1MinE,s_RangeOkE]
theorem s_RangeMeetT_ok:CallOk Tryz.prog s_RangeMeetT:=find_ok (fC ⟨s_l1Max_ok,fC ⟨s_l1Min_ok,fC ⟨s_RangeOk_ok,fN⟩⟩⟩)
abbrev s_RangeMeetK:List Nat:= [0,1,2,3,4,5,6,30]
theorem s_RangeMeet_ev (N:Nat) (p q:List D):evFn Tryz.prog s_RangeMeetT N s_RangeMeetK Tryz.f64 (.tup [.agg [.d si,.d si],.c (.d (.bool))]) [⟨ag rIRange,p⟩,⟨ag rIRange,q⟩]=some (bo,
 nd (sameP [[.i 0],[maxD (gd p 0) (gd q 0),minD (gd p 1) (gd q 1)],[minD (gd p 1) (gd q 1)],[maxD (gd p 0) (gd q 0)],[gd q 1],[.i 0],[gd p 1],[.i 0],[gd q 0],[.i 0],[gd p 0],[.i 0],p,q,[.i 0],[.i 0],[.i 0],[.i 0],[gd p 0,gd p 1],[gd q 0,gd q 1],[.i 0,.i 0],[maxD (gd p 0) (gd q 0),minD (gd p 1) (gd q 1)]] [[.i 0],[maxD (gd p 0) (gd q 0),minD (gd p 1) (gd q 1)],[minD (gd p 1) (gd q 1)],[maxD (gd p 0) (gd q 0)],[gd q 1],[.i 0],[gd p 1],[.i 0],[gd q 0],[.i 0],[gd p 0],[.i 0],p,q,[.i 0],[.i 0],[.i 0],[.i 0],[gd p 0,gd p 1],[gd q 0,gd q 1],[.i 0,.i 0],[maxD (gd p 0) (gd q 0),minD (gd p 1) (gd q 1)]]) (nd (sameP [[.i 0],[maxD (gd p 0) (gd q 0),minD (gd p 1) (gd q 1)],[minD (gd p 1) (gd q 1)],[maxD (gd p 0) (gd q 0)],[gd q 1],[.i 0],[gd p 1],[.i 0],[gd q 0],[.i 0],[gd p 0],[.i 0],p,q,[.i 0],[.i 0],[.i 0],[.i 0],[gd p 0,gd p 1],[gd q 0,gd q 1],[.i 0,.i 0],[maxD (gd p 0) (gd q 0),minD (gd p 1) (gd q 1)]] [[.i 0],[maxD (gd p 0) (gd q 0),minD (gd p 1) (gd q 1)],[minD (gd p 1) (gd q 1)],[maxD (gd p 0) (gd q 0)],[gd q 1],[.i 0],[gd p 1],[.i 0],[gd q 0],[.i 0],[gd p 0],[.i 0],p,q,[.i 0],[.i 0],[.i 0],[.i 0],[gd p 0,gd p 1],[gd q 0,gd q 1],[.i 0,.i 0],[maxD (gd p 0) (gd q 0),minD (gd p 1) (gd q 1)]]) (nd (sameP [[.i 0],[maxD (gd p 0) (gd q 0),minD (gd p 1) (gd q 1)],[minD (gd p 1) (gd q 1)],[maxD (gd p 0) (gd q 0)],[gd q 1],[.i 0],[gd p 1],[.i 0],[gd q 0],[.i 0],[gd p 0],[.i 0],p,q,[.i 0],[.i 0],[.i 0],[.i 0],[gd p 0,gd p 1],[gd q 0,gd q 1],[.i 0,.i 0],[maxD (gd p 0) (gd q 0),minD (gd p 1) (gd q 1)]] [[.i 0],[maxD (gd p 0) (gd q 0),minD (gd p 1) (gd q 1)],[minD (gd p 1) (gd q 1)],[maxD (gd p 0) (gd q 0)],[gd q 1],[.i 0],[gd p 1],[.i 0],[gd q 0],[.i 0],[gd p 0],[.i 0],p,q,[.i 0],[.i 0],[.i 0],[.i 0],[gd p 0,gd p 1],[gd q 0,gd q 1],[.i 0,.i 0],[maxD (gd p 0) (gd q 0),minD (gd p 1) (gd q 1)]]) (bif !(rangeOk (sub p 0 2)) then some (1,[.i 0,.i 0,.b false])
 else bif !(rangeOk (sub q 0 2)) then some (1,[.i 0,.i 0,.b false])
 else bif !(rangeOk [maxD (gd p 0) (gd q 0),minD (gd p 1) (gd q 1)]) then some (1,[.i 0,.i 0,.b false])
 else some (1,[maxD (gd p 0) (gd q 0),minD (gd p 1) (gd q 1),.b true]))))):=by kernel_rfl
def meetR (p q:List D):List D:=bif rangeOk p&&(rangeOk q&&rangeOk [maxD (gd p 0) (gd q 0),minD (gd p 1) (gd q 1)]) then [maxD (gd p 0) (gd q 0),minD (gd p 1) (gd q 1),.b true] else [.i 0,.i 0,.b false]
def meetB (p q:List D):Bool:=rangeOk p&&(rangeOk q&&rangeOk [maxD (gd p 0) (gd q 0),minD (gd p 1) (gd q 1)])
theorem meetR_2 (p q:List D):(gd (meetR p q) 2).bool=meetB p q:=by
 unfold meetR meetB
 cases rangeOk p&&(rangeOk q&&rangeOk [maxD (gd p 0) (gd q 0),minD (gd p 1) (gd q 1)]) <;> rfl
theorem bif_and (a b:Bool):(bif a then b else false)=(a&&b):=by cases a <;> rfl
theorem meetB_of {p q:List D} (hp:rangeOk p=true) (hq:rangeOk q=true):meetB p q=i_meetsF p q:=by
 unfold meetB i_meetsF
 rw [hp,hq,bif_and]
 simp only [rangeOk,Bool.and_eq_true,decide_eq_true_eq] at hp hq
 unfold rangeOk maxD minD ltI
 by_cases h1:(gd q 0).int<(gd p 0).int <;> by_cases h2:(gd p 1).int<(gd q 1).int <;> simp only [h1,h2,decide_true,decide_false,cond_true,cond_false,gd_cons_zero,gd_cons_succ] <;> rw [Bool.eq_iff_iff] <;> simp only [Bool.and_eq_true,decide_eq_true_eq,true_and] <;> omega
def s_RangeMeetE:Ent:=(64,e2 (ag rIRange) (ag rIRange) fun p q=>(⟨.tup [.agg [.d si,.d si],.c (.d (.bool))],sub (meetR p q) 0 3⟩,true))
theorem s_RangeMeet_ok:EntOk Tryz.prog s_RangeMeetE:=e2_ok fun p q h=>evFn_sound (N:=0) (ks:=s_RangeMeetK) (key:=bo) s_RangeMeetT_ok (enters Tryz.func64) Tryz.func64 fun hw=>by
 rw [s_RangeMeet_ev]
 simp only [sameP_self,nd_true]
 rw [show rangeOk (sub p 0 2)=rangeOk p from rfl,show rangeOk (sub q 0 2)=rangeOk q from rfl]
 unfold meetR
 cases rangeOk p <;> cases rangeOk q <;> try rfl
 cases rangeOk [maxD (gd p 0) (gd q 0),minD (gd p 1) (gd q 1)] <;> rfl
abbrev s_l12ClashT:FuncId→List T→Option (T × Bool):=find [s_l12RangeE,s_RangeMeetE]
theorem s_l12ClashT_ok:CallOk Tryz.prog s_l12ClashT:=find_ok (fC ⟨s_l12Range_ok,fC ⟨s_RangeMeet_ok,fN⟩⟩)
abbrev s_l12ClashK:List Nat:= [0,1,2,3,4,6]
theorem s_l12Clash_ev (N:Nat) (p q:List D):evFn Tryz.prog s_l12ClashT N s_l12ClashK Tryz.f238 rb [⟨ag rILock,p⟩,⟨ag rILock,q⟩]=some (bo,
 nd (sameP [[gd (meetR [(gd p 1),(gd p 2)] [(gd q 1),(gd q 2)]) 2],[.i 0],[gd (meetR [(gd p 1),(gd p 2)] [(gd q 1),(gd q 2)]) 2],[gd (meetR [(gd p 1),(gd p 2)] [(gd q 1),(gd q 2)]) 0,gd (meetR [(gd p 1),(gd p 2)] [(gd q 1),(gd q 2)]) 1],[gd (meetR [(gd p 1),(gd p 2)] [(gd q 1),(gd q 2)]) 0,gd (meetR [(gd p 1),(gd p 2)] [(gd q 1),(gd q 2)]) 1,gd (meetR [(gd p 1),(gd p 2)] [(gd q 1),(gd q 2)]) 2],[gd (meetR [(gd p 1),(gd p 2)] [(gd q 1),(gd q 2)]) 0,gd (meetR [(gd p 1),(gd p 2)] [(gd q 1),(gd q 2)]) 1,gd (meetR [(gd p 1),(gd p 2)] [(gd q 1),(gd q 2)]) 2],[(gd q 1),(gd q 2)],[(gd p 1),(gd p 2)],[gd q 0,gd q 1,gd q 2,gd q 3],[gd p 0,gd p 1,gd p 2,gd p 3],p,q,[.i 0],[.i 0],[.i 0],[gd p 0,gd p 1,gd p 2,gd p 3],[gd q 0,gd q 1,gd q 2,gd q 3],[gd (meetR [(gd p 1),(gd p 2)] [(gd q 1),(gd q 2)]) 0,gd (meetR [(gd p 1),(gd p 2)] [(gd q 1),(gd q 2)]) 1]] [[gd (meetR [(gd p 1),(gd p 2)] [(gd q 1),(gd q 2)]) 2],[.i 0],[gd (meetR [(gd p 1),(gd p 2)] [(gd q 1),(gd q 2)]) 2],[gd (meetR [(gd p 1),(gd p 2)] [(gd q 1),(gd q 2)]) 0,gd (meetR [(gd p 1),(gd p 2)] [(gd q 1),(gd q 2)]) 1],[gd (meetR [(gd p 1),(gd p 2)] [(gd q 1),(gd q 2)]) 0,gd (meetR [(gd p 1),(gd p 2)] [(gd q 1),(gd q 2)]) 1,gd (meetR [(gd p 1),(gd p 2)] [(gd q 1),(gd q 2)]) 2],[gd (meetR [(gd p 1),(gd p 2)] [(gd q 1),(gd q 2)]) 0,gd (meetR [(gd p 1),(gd p 2)] [(gd q 1),(gd q 2)]) 1,gd (meetR [(gd p 1),(gd p 2)] [(gd q 1),(gd q 2)]) 2],[(gd q 1),(gd q 2)],[(gd p 1),(gd p 2)],[gd q 0,gd q 1,gd q 2,gd q 3],[gd p 0,gd p 1,gd p 2,gd p 3],p,q,[.i 0],[.i 0],[.i 0],[gd p 0,gd p 1,gd p 2,gd p 3],[gd q 0,gd q 1,gd q 2,gd q 3],[gd (meetR [(gd p 1),(gd p 2)] [(gd q 1),(gd q 2)]) 0,gd (meetR [(gd p 1),(gd p 2)] [(gd q 1),(gd q 2)]) 1]]) (nd (sameP [[gd (meetR [(gd p 1),(gd p 2)] [(gd q 1),(gd q 2)]) 2],[.i 0],[gd (meetR [(gd p 1),(gd p 2)] [(gd q 1),(gd q 2)]) 2],[gd (meetR [(gd p 1),(gd p 2)] [(gd q 1),(gd q 2)]) 0,gd (meetR [(gd p 1),(gd p 2)] [(gd q 1),(gd q 2)]) 1],[gd (meetR [(gd p 1),(gd p 2)] [(gd q 1),(gd q 2)]) 0,gd (meetR [(gd p 1),(gd p 2)] [(gd q 1),(gd q 2)]) 1,gd (meetR [(gd p 1),(gd p 2)] [(gd q 1),(gd q 2)]) 2],[gd (meetR [(gd p 1),(gd p 2)] [(gd q 1),(gd q 2)]) 0,gd (meetR [(gd p 1),(gd p 2)] [(gd q 1),(gd q 2)]) 1,gd (meetR [(gd p 1),(gd p 2)] [(gd q 1),(gd q 2)]) 2],[(gd q 1),(gd q 2)],[(gd p 1),(gd p 2)],[gd q 0,gd q 1,gd q 2,gd q 3],[gd p 0,gd p 1,gd p 2,gd p 3],p,q,[.i 0],[.i 0],[.i 0],[gd p 0,gd p 1,gd p 2,gd p 3],[gd q 0,gd q 1,gd q 2,gd q 3],[gd (meetR [(gd p 1),(gd p 2)] [(gd q 1),(gd q 2)]) 0,gd (meetR [(gd p 1),(gd p 2)] [(gd q 1),(gd q 2)]) 1]] [[gd (meetR [(gd p 1),(gd p 2)] [(gd q 1),(gd q 2)]) 2],[.i 0],[gd (meetR [(gd p 1),(gd p 2)] [(gd q 1),(gd q 2)]) 2],[gd (meetR [(gd p 1),(gd p 2)] [(gd q 1),(gd q 2)]) 0,gd (meetR [(gd p 1),(gd p 2)] [(gd q 1),(gd q 2)]) 1],[gd (meetR [(gd p 1),(gd p 2)] [(gd q 1),(gd q 2)]) 0,gd (meetR [(gd p 1),(gd p 2)] [(gd q 1),(gd q 2)]) 1,gd (meetR [(gd p 1),(gd p 2)] [(gd q 1),(gd q 2)]) 2],[gd (meetR [(gd p 1),(gd p 2)] [(gd q 1),(gd q 2)]) 0,gd (meetR [(gd p 1),(gd p 2)] [(gd q 1),(gd q 2)]) 1,gd (meetR [(gd p 1),(gd p 2)] [(gd q 1),(gd q 2)]) 2],[(gd q 1),(gd q 2)],[(gd p 1),(gd p 2)],[gd q 0,gd q 1,gd q 2,gd q 3],[gd p 0,gd p 1,gd p 2,gd p 3],p,q,[.i 0],[.i 0],[.i 0],[gd p 0,gd p 1,gd p 2,gd p 3],[gd q 0,gd q 1,gd q 2,gd q 3],[gd (meetR [(gd p 1),(gd p 2)] [(gd q 1),(gd q 2)]) 0,gd (meetR [(gd p 1),(gd p 2)] [(gd q 1),(gd q 2)]) 1]]) (nd (sameP [[gd (meetR [(gd p 1),(gd p 2)] [(gd q 1),(gd q 2)]) 2],[.i 0],[gd (meetR [(gd p 1),(gd p 2)] [(gd q 1),(gd q 2)]) 2],[gd (meetR [(gd p 1),(gd p 2)] [(gd q 1),(gd q 2)]) 0,gd (meetR [(gd p 1),(gd p 2)] [(gd q 1),(gd q 2)]) 1],[gd (meetR [(gd p 1),(gd p 2)] [(gd q 1),(gd q 2)]) 0,gd (meetR [(gd p 1),(gd p 2)] [(gd q 1),(gd q 2)]) 1,gd (meetR [(gd p 1),(gd p 2)] [(gd q 1),(gd q 2)]) 2],[gd (meetR [(gd p 1),(gd p 2)] [(gd q 1),(gd q 2)]) 0,gd (meetR [(gd p 1),(gd p 2)] [(gd q 1),(gd q 2)]) 1,gd (meetR [(gd p 1),(gd p 2)] [(gd q 1),(gd q 2)]) 2],[(gd q 1),(gd q 2)],[(gd p 1),(gd p 2)],[gd q 0,gd q 1,gd q 2,gd q 3],[gd p 0,gd p 1,gd p 2,gd p 3],p,q,[.i 0],[.i 0],[.i 0],[gd p 0,gd p 1,gd p 2,gd p 3],[gd q 0,gd q 1,gd q 2,gd q 3],[gd (meetR [(gd p 1),(gd p 2)] [(gd q 1),(gd q 2)]) 0,gd (meetR [(gd p 1),(gd p 2)] [(gd q 1),(gd q 2)]) 1]] [[gd (meetR [(gd p 1),(gd p 2)] [(gd q 1),(gd q 2)]) 2],[.i 0],[gd (meetR [(gd p 1),(gd p 2)] [(gd q 1),(gd q 2)]) 2],[gd (meetR [(gd p 1),(gd p 2)] [(gd q 1),(gd q 2)]) 0,gd (meetR [(gd p 1),(gd p 2)] [(gd q 1),(gd q 2)]) 1],[gd (meetR [(gd p 1),(gd p 2)] [(gd q 1),(gd q 2)]) 0,gd (meetR [(gd p 1),(gd p 2)] [(gd q 1),(gd q 2)]) 1,gd (meetR [(gd p 1),(gd p 2)] [(gd q 1),(gd q 2)]) 2],[gd (meetR [(gd p 1),(gd p 2)] [(gd q 1),(gd q 2)]) 0,gd (meetR [(gd p 1),(gd p 2)] [(gd q 1),(gd q 2)]) 1,gd (meetR [(gd p 1),(gd p 2)] [(gd q 1),(gd q 2)]) 2],[(gd q 1),(gd q 2)],[(gd p 1),(gd p 2)],[gd q 0,gd q 1,gd q 2,gd q 3],[gd p 0,gd p 1,gd p 2,gd p 3],p,q,[.i 0],[.i 0],[.i 0],[gd p 0,gd p 1,gd p 2,gd p 3],[gd q 0,gd q 1,gd q 2,gd q 3],[gd (meetR [(gd p 1),(gd p 2)] [(gd q 1),(gd q 2)]) 0,gd (meetR [(gd p 1),(gd p 2)] [(gd q 1),(gd q 2)]) 1]]) (nd (sameP [[gd (meetR [(gd p 1),(gd p 2)] [(gd q 1),(gd q 2)]) 2],[.i 0],[gd (meetR [(gd p 1),(gd p 2)] [(gd q 1),(gd q 2)]) 2],[gd (meetR [(gd p 1),(gd p 2)] [(gd q 1),(gd q 2)]) 0,gd (meetR [(gd p 1),(gd p 2)] [(gd q 1),(gd q 2)]) 1],[gd (meetR [(gd p 1),(gd p 2)] [(gd q 1),(gd q 2)]) 0,gd (meetR [(gd p 1),(gd p 2)] [(gd q 1),(gd q 2)]) 1,gd (meetR [(gd p 1),(gd p 2)] [(gd q 1),(gd q 2)]) 2],[gd (meetR [(gd p 1),(gd p 2)] [(gd q 1),(gd q 2)]) 0,gd (meetR [(gd p 1),(gd p 2)] [(gd q 1),(gd q 2)]) 1,gd (meetR [(gd p 1),(gd p 2)] [(gd q 1),(gd q 2)]) 2],[(gd q 1),(gd q 2)],[(gd p 1),(gd p 2)],[gd q 0,gd q 1,gd q 2,gd q 3],[gd p 0,gd p 1,gd p 2,gd p 3],p,q,[.i 0],[.i 0],[.i 0],[gd p 0,gd p 1,gd p 2,gd p 3],[gd q 0,gd q 1,gd q 2,gd q 3],[gd (meetR [(gd p 1),(gd p 2)] [(gd q 1),(gd q 2)]) 0,gd (meetR [(gd p 1),(gd p 2)] [(gd q 1),(gd q 2)]) 1]] [[gd (meetR [(gd p 1),(gd p 2)] [(gd q 1),(gd q 2)]) 2],[.i 0],[gd (meetR [(gd p 1),(gd p 2)] [(gd q 1),(gd q 2)]) 2],[gd (meetR [(gd p 1),(gd p 2)] [(gd q 1),(gd q 2)]) 0,gd (meetR [(gd p 1),(gd p 2)] [(gd q 1),(gd q 2)]) 1],[gd (meetR [(gd p 1),(gd p 2)] [(gd q 1),(gd q 2)]) 0,gd (meetR [(gd p 1),(gd p 2)] [(gd q 1),(gd q 2)]) 1,gd (meetR [(gd p 1),(gd p 2)] [(gd q 1),(gd q 2)]) 2],[gd (meetR [(gd p 1),(gd p 2)] [(gd q 1),(gd q 2)]) 0,gd (meetR [(gd p 1),(gd p 2)] [(gd q 1),(gd q 2)]) 1,gd (meetR [(gd p 1),(gd p 2)] [(gd q 1),(gd q 2)]) 2],[(gd q 1),(gd q 2)],[(gd p 1),(gd p 2)],[gd q 0,gd q 1,gd q 2,gd q 3],[gd p 0,gd p 1,gd p 2,gd p 3],p,q,[.i 0],[.i 0],[.i 0],[gd p 0,gd p 1,gd p 2,gd p 3],[gd q 0,gd q 1,gd q 2,gd q 3],[gd (meetR [(gd p 1),(gd p 2)] [(gd q 1),(gd q 2)]) 0,gd (meetR [(gd p 1),(gd p 2)] [(gd q 1),(gd q 2)]) 1]]) (nd (sameP [[gd (meetR [(gd p 1),(gd p 2)] [(gd q 1),(gd q 2)]) 2],[.i 0],[gd (meetR [(gd p 1),(gd p 2)] [(gd q 1),(gd q 2)]) 2],[gd (meetR [(gd p 1),(gd p 2)] [(gd q 1),(gd q 2)]) 0,gd (meetR [(gd p 1),(gd p 2)] [(gd q 1),(gd q 2)]) 1],[gd (meetR [(gd p 1),(gd p 2)] [(gd q 1),(gd q 2)]) 0,gd (meetR [(gd p 1),(gd p 2)] [(gd q 1),(gd q 2)]) 1,gd (meetR [(gd p 1),(gd p 2)] [(gd q 1),(gd q 2)]) 2],[gd (meetR [(gd p 1),(gd p 2)] [(gd q 1),(gd q 2)]) 0,gd (meetR [(gd p 1),(gd p 2)] [(gd q 1),(gd q 2)]) 1,gd (meetR [(gd p 1),(gd p 2)] [(gd q 1),(gd q 2)]) 2],[(gd q 1),(gd q 2)],[(gd p 1),(gd p 2)],[gd q 0,gd q 1,gd q 2,gd q 3],[gd p 0,gd p 1,gd p 2,gd p 3],p,q,[.i 0],[.i 0],[.i 0],[gd p 0,gd p 1,gd p 2,gd p 3],[gd q 0,gd q 1,gd q 2,gd q 3],[gd (meetR [(gd p 1),(gd p 2)] [(gd q 1),(gd q 2)]) 0,gd (meetR [(gd p 1),(gd p 2)] [(gd q 1),(gd q 2)]) 1]] [[gd (meetR [(gd p 1),(gd p 2)] [(gd q 1),(gd q 2)]) 2],[.i 0],[gd (meetR [(gd p 1),(gd p 2)] [(gd q 1),(gd q 2)]) 2],[gd (meetR [(gd p 1),(gd p 2)] [(gd q 1),(gd q 2)]) 0,gd (meetR [(gd p 1),(gd p 2)] [(gd q 1),(gd q 2)]) 1],[gd (meetR [(gd p 1),(gd p 2)] [(gd q 1),(gd q 2)]) 0,gd (meetR [(gd p 1),(gd p 2)] [(gd q 1),(gd q 2)]) 1,gd (meetR [(gd p 1),(gd p 2)] [(gd q 1),(gd q 2)]) 2],[gd (meetR [(gd p 1),(gd p 2)] [(gd q 1),(gd q 2)]) 0,gd (meetR [(gd p 1),(gd p 2)] [(gd q 1),(gd q 2)]) 1,gd (meetR [(gd p 1),(gd p 2)] [(gd q 1),(gd q 2)]) 2],[(gd q 1),(gd q 2)],[(gd p 1),(gd p 2)],[gd q 0,gd q 1,gd q 2,gd q 3],[gd p 0,gd p 1,gd p 2,gd p 3],p,q,[.i 0],[.i 0],[.i 0],[gd p 0,gd p 1,gd p 2,gd p 3],[gd q 0,gd q 1,gd q 2,gd q 3],[gd (meetR [(gd p 1),(gd p 2)] [(gd q 1),(gd q 2)]) 0,gd (meetR [(gd p 1),(gd p 2)] [(gd q 1),(gd q 2)]) 1]]) (nd (sameP [[gd (meetR [(gd p 1),(gd p 2)] [(gd q 1),(gd q 2)]) 2],[.i 0],[gd (meetR [(gd p 1),(gd p 2)] [(gd q 1),(gd q 2)]) 2],[gd (meetR [(gd p 1),(gd p 2)] [(gd q 1),(gd q 2)]) 0,gd (meetR [(gd p 1),(gd p 2)] [(gd q 1),(gd q 2)]) 1],[gd (meetR [(gd p 1),(gd p 2)] [(gd q 1),(gd q 2)]) 0,gd (meetR [(gd p 1),(gd p 2)] [(gd q 1),(gd q 2)]) 1,gd (meetR [(gd p 1),(gd p 2)] [(gd q 1),(gd q 2)]) 2],[gd (meetR [(gd p 1),(gd p 2)] [(gd q 1),(gd q 2)]) 0,gd (meetR [(gd p 1),(gd p 2)] [(gd q 1),(gd q 2)]) 1,gd (meetR [(gd p 1),(gd p 2)] [(gd q 1),(gd q 2)]) 2],[(gd q 1),(gd q 2)],[(gd p 1),(gd p 2)],[gd q 0,gd q 1,gd q 2,gd q 3],[gd p 0,gd p 1,gd p 2,gd p 3],p,q,[.i 0],[.i 0],[.i 0],[gd p 0,gd p 1,gd p 2,gd p 3],[gd q 0,gd q 1,gd q 2,gd q 3],[gd (meetR [(gd p 1),(gd p 2)] [(gd q 1),(gd q 2)]) 0,gd (meetR [(gd p 1),(gd p 2)] [(gd q 1),(gd q 2)]) 1]] [[gd (meetR [(gd p 1),(gd p 2)] [(gd q 1),(gd q 2)]) 2],[.i 0],[gd (meetR [(gd p 1),(gd p 2)] [(gd q 1),(gd q 2)]) 2],[gd (meetR [(gd p 1),(gd p 2)] [(gd q 1),(gd q 2)]) 0,gd (meetR [(gd p 1),(gd p 2)] [(gd q 1),(gd q 2)]) 1],[gd (meetR [(gd p 1),(gd p 2)] [(gd q 1),(gd q 2)]) 0,gd (meetR [(gd p 1),(gd p 2)] [(gd q 1),(gd q 2)]) 1,gd (meetR [(gd p 1),(gd p 2)] [(gd q 1),(gd q 2)]) 2],[gd (meetR [(gd p 1),(gd p 2)] [(gd q 1),(gd q 2)]) 0,gd (meetR [(gd p 1),(gd p 2)] [(gd q 1),(gd q 2)]) 1,gd (meetR [(gd p 1),(gd p 2)] [(gd q 1),(gd q 2)]) 2],[(gd q 1),(gd q 2)],[(gd p 1),(gd p 2)],[gd q 0,gd q 1,gd q 2,gd q 3],[gd p 0,gd p 1,gd p 2,gd p 3],p,q,[.i 0],[.i 0],[.i 0],[gd p 0,gd p 1,gd p 2,gd p 3],[gd q 0,gd q 1,gd q 2,gd q 3],[gd (meetR [(gd p 1),(gd p 2)] [(gd q 1),(gd q 2)]) 0,gd (meetR [(gd p 1),(gd p 2)] [(gd q 1),(gd q 2)]) 1]]) (nd (sameP [[gd (meetR [(gd p 1),(gd p 2)] [(gd q 1),(gd q 2)]) 2],[.i 0],[gd (meetR [(gd p 1),(gd p 2)] [(gd q 1),(gd q 2)]) 2],[gd (meetR [(gd p 1),(gd p 2)] [(gd q 1),(gd q 2)]) 0,gd (meetR [(gd p 1),(gd p 2)] [(gd q 1),(gd q 2)]) 1],[gd (meetR [(gd p 1),(gd p 2)] [(gd q 1),(gd q 2)]) 0,gd (meetR [(gd p 1),(gd p 2)] [(gd q 1),(gd q 2)]) 1,gd (meetR [(gd p 1),(gd p 2)] [(gd q 1),(gd q 2)]) 2],[gd (meetR [(gd p 1),(gd p 2)] [(gd q 1),(gd q 2)]) 0,gd (meetR [(gd p 1),(gd p 2)] [(gd q 1),(gd q 2)]) 1,gd (meetR [(gd p 1),(gd p 2)] [(gd q 1),(gd q 2)]) 2],[(gd q 1),(gd q 2)],[(gd p 1),(gd p 2)],[gd q 0,gd q 1,gd q 2,gd q 3],[gd p 0,gd p 1,gd p 2,gd p 3],p,q,[.i 0],[.i 0],[.i 0],[gd p 0,gd p 1,gd p 2,gd p 3],[gd q 0,gd q 1,gd q 2,gd q 3],[gd (meetR [(gd p 1),(gd p 2)] [(gd q 1),(gd q 2)]) 0,gd (meetR [(gd p 1),(gd p 2)] [(gd q 1),(gd q 2)]) 1]] [[gd (meetR [(gd p 1),(gd p 2)] [(gd q 1),(gd q 2)]) 2],[.i 0],[gd (meetR [(gd p 1),(gd p 2)] [(gd q 1),(gd q 2)]) 2],[gd (meetR [(gd p 1),(gd p 2)] [(gd q 1),(gd q 2)]) 0,gd (meetR [(gd p 1),(gd p 2)] [(gd q 1),(gd q 2)]) 1],[gd (meetR [(gd p 1),(gd p 2)] [(gd q 1),(gd q 2)]) 0,gd (meetR [(gd p 1),(gd p 2)] [(gd q 1),(gd q 2)]) 1,gd (meetR [(gd p 1),(gd p 2)] [(gd q 1),(gd q 2)]) 2],[gd (meetR [(gd p 1),(gd p 2)] [(gd q 1),(gd q 2)]) 0,gd (meetR [(gd p 1),(gd p 2)] [(gd q 1),(gd q 2)]) 1,gd (meetR [(gd p 1),(gd p 2)] [(gd q 1),(gd q 2)]) 2],[(gd q 1),(gd q 2)],[(gd p 1),(gd p 2)],[gd q 0,gd q 1,gd q 2,gd q 3],[gd p 0,gd p 1,gd p 2,gd p 3],p,q,[.i 0],[.i 0],[.i 0],[gd p 0,gd p 1,gd p 2,gd p 3],[gd q 0,gd q 1,gd q 2,gd q 3],[gd (meetR [(gd p 1),(gd p 2)] [(gd q 1),(gd q 2)]) 0,gd (meetR [(gd p 1),(gd p 2)] [(gd q 1),(gd q 2)]) 1]]) (nd (sameP [[gd (meetR [(gd p 1),(gd p 2)] [(gd q 1),(gd q 2)]) 2],[.i 0],[gd (meetR [(gd p 1),(gd p 2)] [(gd q 1),(gd q 2)]) 2],[gd (meetR [(gd p 1),(gd p 2)] [(gd q 1),(gd q 2)]) 0,gd (meetR [(gd p 1),(gd p 2)] [(gd q 1),(gd q 2)]) 1],[gd (meetR [(gd p 1),(gd p 2)] [(gd q 1),(gd q 2)]) 0,gd (meetR [(gd p 1),(gd p 2)] [(gd q 1),(gd q 2)]) 1,gd (meetR [(gd p 1),(gd p 2)] [(gd q 1),(gd q 2)]) 2],[gd (meetR [(gd p 1),(gd p 2)] [(gd q 1),(gd q 2)]) 0,gd (meetR [(gd p 1),(gd p 2)] [(gd q 1),(gd q 2)]) 1,gd (meetR [(gd p 1),(gd p 2)] [(gd q 1),(gd q 2)]) 2],[(gd q 1),(gd q 2)],[(gd p 1),(gd p 2)],[gd q 0,gd q 1,gd q 2,gd q 3],[gd p 0,gd p 1,gd p 2,gd p 3],p,q,[.i 0],[.i 0],[.i 0],[gd p 0,gd p 1,gd p 2,gd p 3],[gd q 0,gd q 1,gd q 2,gd q 3],[gd (meetR [(gd p 1),(gd p 2)] [(gd q 1),(gd q 2)]) 0,gd (meetR [(gd p 1),(gd p 2)] [(gd q 1),(gd q 2)]) 1]] [[gd (meetR [(gd p 1),(gd p 2)] [(gd q 1),(gd q 2)]) 2],[.i 0],[gd (meetR [(gd p 1),(gd p 2)] [(gd q 1),(gd q 2)]) 2],[gd (meetR [(gd p 1),(gd p 2)] [(gd q 1),(gd q 2)]) 0,gd (meetR [(gd p 1),(gd p 2)] [(gd q 1),(gd q 2)]) 1],[gd (meetR [(gd p 1),(gd p 2)] [(gd q 1),(gd q 2)]) 0,gd (meetR [(gd p 1),(gd p 2)] [(gd q 1),(gd q 2)]) 1,gd (meetR [(gd p 1),(gd p 2)] [(gd q 1),(gd q 2)]) 2],[gd (meetR [(gd p 1),(gd p 2)] [(gd q 1),(gd q 2)]) 0,gd (meetR [(gd p 1),(gd p 2)] [(gd q 1),(gd q 2)]) 1,gd (meetR [(gd p 1),(gd p 2)] [(gd q 1),(gd q 2)]) 2],[(gd q 1),(gd q 2)],[(gd p 1),(gd p 2)],[gd q 0,gd q 1,gd q 2,gd q 3],[gd p 0,gd p 1,gd p 2,gd p 3],p,q,[.i 0],[.i 0],[.i 0],[gd p 0,gd p 1,gd p 2,gd p 3],[gd q 0,gd q 1,gd q 2,gd q 3],[gd (meetR [(gd p 1),(gd p 2)] [(gd q 1),(gd q 2)]) 0,gd (meetR [(gd p 1),(gd p 2)] [(gd q 1),(gd q 2)]) 1]]) (bif (gd (meetR [(gd p 1),(gd p 2)] [(gd q 1),(gd q 2)]) 2).bool then bif (gd p 0).int != (gd q 0).int then bif (gd p 3).int==2 then ob true
 else ob ((gd q 3).int==2)
 else ob false
 else ob false))))))))):=by kernel_rfl
def clashS (p q:List D):Bool:=meetB [gd p 1,gd p 2] [gd q 1,gd q 2]&&(!((gd p 0).int==(gd q 0).int)&&(((gd p 3).int==2)||((gd q 3).int==2)))
theorem clashS_of {p q:List D} (hp:rangeOk [gd p 1,gd p 2]=true) (hq:rangeOk [gd q 1,gd q 2]=true):clashS p q=i_clashF p q:=by
 unfold clashS i_clashF
 rw [meetB_of hp hq,bne_not]
 cases (gd p 0).int==(gd q 0).int <;> cases (gd p 3).int==2 <;> cases (gd q 3).int==2 <;> cases i_meetsF [gd p 1,gd p 2] [gd q 1,gd q 2] <;> rfl
def s_l12ClashE:Ent:=(238,e2 (ag rILock) (ag rILock) fun p q=>(⟨rb,[.b (clashS p q)]⟩,true))
theorem s_l12Clash_ok:EntOk Tryz.prog s_l12ClashE:=e2_ok fun p q h=>evFn_sound (N:=0) (ks:=s_l12ClashK) (key:=bo) s_l12ClashT_ok (enters Tryz.func238) Tryz.func238 fun hw=>by
 rw [s_l12Clash_ev]
 simp only [sameP_self,nd_true,meetR_2,bne_not]
 unfold clashS
 cases meetB [gd p 1,gd p 2] [gd q 1,gd q 2] <;> cases (gd p 0).int==(gd q 0).int <;> cases (gd p 3).int==2 <;> cases (gd q 3).int==2 <;> rfl
abbrev s_RangeInT:FuncId→List T→Option (T × Bool):=find [s_RangeOkE]
theorem s_RangeInT_ok:CallOk Tryz.prog s_RangeInT:=find_ok (fC ⟨s_RangeOk_ok,fN⟩)
abbrev s_RangeInK:List Nat:= [0,1,2,3,4]
theorem s_RangeIn_ev (N:Nat) (p q:List D):evFn Tryz.prog s_RangeInT N s_RangeInK Tryz.f202 rb [⟨ag rIRange,p⟩,⟨ag rIRange,q⟩]=some (bo,
 bif rangeOk (sub p 0 2) then bif rangeOk (sub q 0 2) then bif leI (gd q 0).int (gd p 0).int then ob (leI (gd p 1).int (gd q 1).int)
 else ob false
 else ob false
 else ob false):=by kernel_rfl
def s_RangeInF (p q:List D):Bool:=
 bif rangeOk (sub p 0 2) then bif rangeOk (sub q 0 2) then bif leI (gd q 0).int (gd p 0).int then leI (gd p 1).int (gd q 1).int
 else false
 else false
 else false
def s_RangeInE:Ent:=(202,e2 (ag rIRange) (ag rIRange) fun p q=>(⟨rb,[.b (s_RangeInF p q)]⟩,true))
theorem s_RangeIn_ok:EntOk Tryz.prog s_RangeInE:=e2_ok fun p q h=>evFn_sound (N:=0) (ks:=s_RangeInK) (key:=bo) s_RangeInT_ok (enters Tryz.func202) Tryz.func202 fun hw=>by
 rw [s_RangeIn_ev]
 try simp only [cond_ob,cond_oi,cond_os]
 rfl
theorem any_loop {L:List D→Out} (st:Nat→List D) (n:Nat) (C:Nat→Bool) (v:List D) (j:Nat) (h1:∀ k,k<n→L (st k)=some (bif C k then (1,v) else (0,st (k+1)))) (h2:L (st n)=some (j+2,st n)) {N:Nat} (hN:n<N) :
  iter L N (st 0)=some (bif (List.range n).any C then (1,v) else (j+2,st n)):=by
 have e:=for_loop st n (fun k => !C k) v j (fun k hk=>by rw [h1 k hk]; cases C k <;> rfl) h2 hN
 rw [e,not_any]
 cases (List.range n).any C <;> rfl
abbrev i_LocksOk_1T:FuncId→List T→Option (T × Bool):=find [i_clashE]
theorem i_LocksOk_1T_ok:CallOk Tryz.prog i_LocksOk_1T:=find_ok (fC ⟨i_clash_ok,fN⟩)
abbrev i_LocksOk_1K:List Nat:= [0,1,2,3]
theorem i_LocksOk_1_ev (N:Nat) (p q:List D):evFn Tryz.prog i_LocksOk_1T N i_LocksOk_1K Tryz.f230 rb [⟨ag rILock,p⟩,⟨.one (.c (.cptr [si,si,si,si] 0)),q⟩]=some (bo,
 ob (i_clashF (sub ((gd q 0).rows.getD 0 []) 0 4) (sub p 0 4))):=by kernel_rfl
def i_LocksOk_1F (p q:List D):Bool:=
 i_clashF (sub ((gd q 0).rows.getD 0 []) 0 4) (sub p 0 4)
def i_LocksOk_1E:Ent:=(230,e2 (ag rILock) (.one (.c (.cptr [si,si,si,si] 0))) fun p q=>(⟨rb,[.b (i_LocksOk_1F p [gd q 0])]⟩,true))
theorem i_LocksOk_1_ok:EntOk Tryz.prog i_LocksOk_1E:=e2_ok fun p q h=>evFn_sound (N:=0) (ks:=i_LocksOk_1K) (key:=bo) i_LocksOk_1T_ok (enters Tryz.func230) Tryz.func230 fun hw=>by
 rw [i_LocksOk_1_ev]
 try simp only [cond_ob,cond_oi,cond_os]
 rfl
abbrev i_LocksHold_1T:FuncId→List T→Option (T × Bool):=find []
theorem i_LocksHold_1T_ok:CallOk Tryz.prog i_LocksHold_1T:=find_ok (fN)
abbrev i_LocksHold_1K:List Nat:= [0,1,2,3,4,5]
theorem i_LocksHold_1_ev (N:Nat) (p q r s:List D):evFn Tryz.prog i_LocksHold_1T N i_LocksHold_1K Tryz.f177 rb [⟨ag rILock,p⟩,⟨.one (.c (.cptr [si] 0)),q⟩,⟨.one (.c (.cptr [si] 0)),r⟩,⟨.one (.c (.cptr [si,si] 0)),s⟩]=some (bo,
 bif (gd p 0).int==(gd ((gd q 0).rows.getD 0 []) 0).int then bif (gd p 3).int==(gd ((gd r 0).rows.getD 0 []) 0).int then bif leI (gd p 1).int (gd ((gd s 0).rows.getD 0 []) 0).int then ob (leI (gd ((gd s 0).rows.getD 0 []) 1).int (gd p 2).int)
 else ob false
 else bif (gd p 3).int==2 then bif leI (gd p 1).int (gd ((gd s 0).rows.getD 0 []) 0).int then ob (leI (gd ((gd s 0).rows.getD 0 []) 1).int (gd p 2).int)
 else ob false
 else ob false
 else ob false):=by kernel_rfl
def i_LocksHold_1F (p q r s:List D):Bool:=
 bif (gd p 0).int==(gd ((gd q 0).rows.getD 0 []) 0).int then bif (gd p 3).int==(gd ((gd r 0).rows.getD 0 []) 0).int then bif leI (gd p 1).int (gd ((gd s 0).rows.getD 0 []) 0).int then leI (gd ((gd s 0).rows.getD 0 []) 1).int (gd p 2).int
 else false
 else bif (gd p 3).int==2 then bif leI (gd p 1).int (gd ((gd s 0).rows.getD 0 []) 0).int then leI (gd ((gd s 0).rows.getD 0 []) 1).int (gd p 2).int
 else false
 else false
 else false
def i_LocksHold_1E:Ent:=(177,e4 (ag rILock) (.one (.c (.cptr [si] 0))) (.one (.c (.cptr [si] 0))) (.one (.c (.cptr [si,si] 0))) fun p q r s=>(⟨rb,[.b (i_LocksHold_1F p [gd q 0] [gd r 0] [gd s 0])]⟩,true))
theorem i_LocksHold_1_ok:EntOk Tryz.prog i_LocksHold_1E:=e4_ok fun p q r s h=>evFn_sound (N:=0) (ks:=i_LocksHold_1K) (key:=bo) i_LocksHold_1T_ok (enters Tryz.func177) Tryz.func177 fun hw=>by
 rw [i_LocksHold_1_ev]
 try simp only [cond_ob,cond_oi,cond_os]
 rfl
end Go.Proofs.YtpdfmcmnjikppaaGreat
namespace Go.Proofs.YtpdfmcmnjikppaaGreat
set_option maxRecDepth 4096
abbrev ixfLOT:FuncId→List T→Option (T × Bool):=find [i_LocksOk_1E]
theorem ixfLOT_ok:CallOk Tryz.prog ixfLOT:=find_ok (fC ⟨i_LocksOk_1_ok,fN⟩)
abbrev ixfLOK:List Nat:= [0,1,4,5,7,8,9,16]
noncomputable def ixfLOL0 (N:Nat) (p q:List D):List D→Out:=loopOf Tryz.prog ixfLOT N ixfLOK Tryz.f234 ri [⟨sd (.sl 93),p⟩,⟨.one (.c (.fn 230 [.cptr [si,si,si,si] 0])),q⟩] 0
theorem ixfLOR0 (N:Nat) (p q:List D) (x0 x1 x2 x3 x4:D):(ixfLOL0 N p q) [x0,x1,x2,x3,x4] =
 bif ltI x4.int x3.int then nd (inRange x4.int x0.rows.length) (bif i_LocksOk_1F (sub (x0.rows.getD x4.int.toNat []) 0 4) [(gd (x1.rows.getD 0 []) 0)] then some (1,[x4])
 else nx [x0,x1,x2,x3,.i (w64 (x4.int+1))])
 else ex 0 [x0,x1,x2,x3,x4]:=by kernel_rfl
theorem ixfLO_ev (N:Nat) (p q:List D):evFn Tryz.prog ixfLOT N ixfLOK Tryz.f234 ri [⟨sd (.sl 93),p⟩,⟨.one (.c (.fn 230 [.cptr [si,si,si,si] 0])),q⟩]=some (bo,
 (let o0:=iter (ixfLOL0 N p q) N [gd p 0,gd q 0,.i 0,.i ((gd p 0).rows.length:Int),.i 0]
  nd o0.isSome (bif o0.code==1 then some (1,o0.pay)
  else nd (o0.code==2) (oi (-1))))):=by kernel_rfl
def ixfLOC (c:D) (r:List D):Bool:=i_LocksOk_1F r [gd (c.rows.getD 0 []) 0]
def ixfLOE:Ent:=(234,e2 (sd (.sl 93)) (.one (.c (.fn 230 [.cptr [si,si,si,si] 0]))) fun p q=>(⟨ri,[.i (ixF (fun k=>ixfLOC (gd q 0) (sub ((gd p 0).rows.getD k []) 0 4)) 0 (gd p 0).rows.length)]⟩,true))
theorem ixfLO_ok:EntOk Tryz.prog ixfLOE:=e2_ok fun p q h=>evFn_sound (N:=(gd p 0).rows.length+1) (ks:=ixfLOK) (key:=bo) ixfLOT_ok (enters Tryz.func234) Tryz.func234 fun hw=>by
 rw [ixfLO_ev]
 have hl:=wt_sl (hw ⟨sd (.sl 93),p⟩ (by simp))
 have e:=ix_loop (L:=ixfLOL0 ((gd p 0).rows.length+1) p q) (fun k => [gd p 0,gd q 0,.i 0,.i ((gd p 0).rows.length:Int),.i (k:Int)]) (gd p 0).rows.length (fun k=>ixfLOC (gd q 0) (sub ((gd p 0).rows.getD k []) 0 4)) [gd p 0,gd q 0,.i 0,.i ((gd p 0).rows.length:Int),.i ((gd p 0).rows.length:Int)] (fun k hk=>?_) ?_ (gd p 0).rows.length 0 ((gd p 0).rows.length+1) (by omega) (by omega)
 ·simp only [Int.natCast_zero] at e
  rw [e]
  have hno:=ixF_neg (fun k=>ixfLOC (gd q 0) (sub ((gd p 0).rows.getD k []) 0 4)) (gd p 0).rows.length 0
  cases hd:decide (ixF (fun k=>ixfLOC (gd q 0) (sub ((gd p 0).rows.getD k []) 0 4)) 0 (gd p 0).rows.length≥0)
  ·rw [hno hd]; rfl
  ·rfl
 ·show ixfLOL0 _ p q [_,_,_,_,.i (k:Int)]=_
  rw [ixfLOR0]
  simp only [int_i,c_lt hk,nd_ix hk,w64_succ hk hl,Int.toNat_natCast]
  unfold ixfLOC
  cases i_LocksOk_1F (sub ((gd p 0).rows.getD k []) 0 4) [gd ((gd q 0).rows.getD 0 []) 0] <;> rfl
 ·show ixfLOL0 _ p q [_,_,_,.i ((gd p 0).rows.length:Int),.i ((gd p 0).rows.length:Int)]=_
  rw [ixfLOR0]
  simp only [int_i,c_nlt]
abbrev cofLOT:FuncId→List T→Option (T × Bool):=find [ixfLOE,i_LocksOk_1E]
theorem cofLOT_ok:CallOk Tryz.prog cofLOT:=find_ok (fC ⟨ixfLO_ok,fC ⟨i_LocksOk_1_ok,fN⟩⟩)
abbrev cofLOK:List Nat:= [0,1,4]
theorem cofLO_ev (N:Nat) (p q:List D):evFn Tryz.prog cofLOT N cofLOK Tryz.f158 rb [⟨sd (.sl 93),p⟩,⟨.one (.c (.fn 230 [.cptr [si,si,si,si] 0])),q⟩]=some (bo,
 ob (leI 0 (ixF (fun k=>ixfLOC (.l [[gd ((gd q 0).rows.getD 0 []) 0]]) (sub ((gd p 0).rows.getD k []) 0 4)) 0 (gd p 0).rows.length))):=by kernel_rfl
def cofLOE:Ent:=(158,e2 (sd (.sl 93)) (.one (.c (.fn 230 [.cptr [si,si,si,si] 0]))) fun p q=>(⟨rb,[.b (anyS (fun rr=>ixfLOC (gd q 0) (sub rr 0 4)) (gd p 0))]⟩,true))
theorem cofLO_ok:EntOk Tryz.prog cofLOE:=e2_ok fun p q h=>evFn_sound (N:=0) (ks:=cofLOK) (key:=bo) cofLOT_ok (enters Tryz.func158) Tryz.func158 fun hw=>by
 rw [cofLO_ev]
 refine congrArg (fun x=>some (bo,ob x)) ?_
 exact (ixF_any (fun k=>ixfLOC (gd q 0) (sub ((gd p 0).rows.getD k []) 0 4)) (gd p 0).rows.length 0).trans (by simp only [Nat.zero_add]; rfl)
abbrev ixfLHT:FuncId→List T→Option (T × Bool):=find [i_LocksHold_1E]
theorem ixfLHT_ok:CallOk Tryz.prog ixfLHT:=find_ok (fC ⟨i_LocksHold_1_ok,fN⟩)
abbrev ixfLHK:List Nat:= [0,1,4,5,7,8,9,16]
noncomputable def ixfLHL0 (N:Nat) (p q:List D):List D→Out:=loopOf Tryz.prog ixfLHT N ixfLHK Tryz.f234 ri [⟨sd (.sl 93),p⟩,⟨.one (.c (.fn 177 [.cptr [si] 0,.cptr [si] 0,.cptr [si,si] 0])),q⟩] 0
theorem ixfLHR0 (N:Nat) (p q:List D) (x0 x1 x2 x3 x4:D):(ixfLHL0 N p q) [x0,x1,x2,x3,x4] =
 bif ltI x4.int x3.int then nd (inRange x4.int x0.rows.length) (bif i_LocksHold_1F (sub (x0.rows.getD x4.int.toNat []) 0 4) [(gd (x1.rows.getD 0 []) 0)] [(gd (x1.rows.getD 0 []).tail 0)] [(gd (x1.rows.getD 0 []).tail.tail 0)] then some (1,[x4])
 else nx [x0,x1,x2,x3,.i (w64 (x4.int+1))])
 else ex 0 [x0,x1,x2,x3,x4]:=by kernel_rfl
theorem ixfLH_ev (N:Nat) (p q:List D):evFn Tryz.prog ixfLHT N ixfLHK Tryz.f234 ri [⟨sd (.sl 93),p⟩,⟨.one (.c (.fn 177 [.cptr [si] 0,.cptr [si] 0,.cptr [si,si] 0])),q⟩]=some (bo,
 (let o0:=iter (ixfLHL0 N p q) N [gd p 0,gd q 0,.i 0,.i ((gd p 0).rows.length:Int),.i 0]
  nd o0.isSome (bif o0.code==1 then some (1,o0.pay)
  else nd (o0.code==2) (oi (-1))))):=by kernel_rfl
def ixfLHC (c:D) (r:List D):Bool:=i_LocksHold_1F r [gd (c.rows.getD 0 []) 0] [gd (c.rows.getD 0 []).tail 0] [gd (c.rows.getD 0 []).tail.tail 0]
def ixfLHE:Ent:=(234,e2 (sd (.sl 93)) (.one (.c (.fn 177 [.cptr [si] 0,.cptr [si] 0,.cptr [si,si] 0]))) fun p q=>(⟨ri,[.i (ixF (fun k=>ixfLHC (gd q 0) (sub ((gd p 0).rows.getD k []) 0 4)) 0 (gd p 0).rows.length)]⟩,true))
theorem ixfLH_ok:EntOk Tryz.prog ixfLHE:=e2_ok fun p q h=>evFn_sound (N:=(gd p 0).rows.length+1) (ks:=ixfLHK) (key:=bo) ixfLHT_ok (enters Tryz.func234) Tryz.func234 fun hw=>by
 rw [ixfLH_ev]
 have hl:=wt_sl (hw ⟨sd (.sl 93),p⟩ (by simp))
 have e:=ix_loop (L:=ixfLHL0 ((gd p 0).rows.length+1) p q) (fun k => [gd p 0,gd q 0,.i 0,.i ((gd p 0).rows.length:Int),.i (k:Int)]) (gd p 0).rows.length (fun k=>ixfLHC (gd q 0) (sub ((gd p 0).rows.getD k []) 0 4)) [gd p 0,gd q 0,.i 0,.i ((gd p 0).rows.length:Int),.i ((gd p 0).rows.length:Int)] (fun k hk=>?_) ?_ (gd p 0).rows.length 0 ((gd p 0).rows.length+1) (by omega) (by omega)
 ·simp only [Int.natCast_zero] at e
  rw [e]
  have hno:=ixF_neg (fun k=>ixfLHC (gd q 0) (sub ((gd p 0).rows.getD k []) 0 4)) (gd p 0).rows.length 0
  cases hd:decide (ixF (fun k=>ixfLHC (gd q 0) (sub ((gd p 0).rows.getD k []) 0 4)) 0 (gd p 0).rows.length≥0)
  ·rw [hno hd]; rfl
  ·rfl
 ·show ixfLHL0 _ p q [_,_,_,_,.i (k:Int)]=_
  rw [ixfLHR0]
  simp only [int_i,c_lt hk,nd_ix hk,w64_succ hk hl,Int.toNat_natCast]
  unfold ixfLHC
  cases i_LocksHold_1F (sub ((gd p 0).rows.getD k []) 0 4) [gd ((gd q 0).rows.getD 0 []) 0] [gd ((gd q 0).rows.getD 0 []).tail 0] [gd ((gd q 0).rows.getD 0 []).tail.tail 0] <;> rfl
 ·show ixfLHL0 _ p q [_,_,_,.i ((gd p 0).rows.length:Int),.i ((gd p 0).rows.length:Int)]=_
  rw [ixfLHR0]
  simp only [int_i,c_nlt]
abbrev cofLHT:FuncId→List T→Option (T × Bool):=find [ixfLHE,i_LocksHold_1E]
theorem cofLHT_ok:CallOk Tryz.prog cofLHT:=find_ok (fC ⟨ixfLH_ok,fC ⟨i_LocksHold_1_ok,fN⟩⟩)
abbrev cofLHK:List Nat:= [0,1,4]
theorem cofLH_ev (N:Nat) (p q:List D):evFn Tryz.prog cofLHT N cofLHK Tryz.f158 rb [⟨sd (.sl 93),p⟩,⟨.one (.c (.fn 177 [.cptr [si] 0,.cptr [si] 0,.cptr [si,si] 0])),q⟩]=some (bo,
 ob (leI 0 (ixF (fun k=>ixfLHC (.l [[gd ((gd q 0).rows.getD 0 []) 0,gd ((gd q 0).rows.getD 0 []).tail 0,gd ((gd q 0).rows.getD 0 []).tail.tail 0]]) (sub ((gd p 0).rows.getD k []) 0 4)) 0 (gd p 0).rows.length))):=by kernel_rfl
def cofLHE:Ent:=(158,e2 (sd (.sl 93)) (.one (.c (.fn 177 [.cptr [si] 0,.cptr [si] 0,.cptr [si,si] 0]))) fun p q=>(⟨rb,[.b (anyS (fun rr=>ixfLHC (gd q 0) (sub rr 0 4)) (gd p 0))]⟩,true))
theorem cofLH_ok:EntOk Tryz.prog cofLHE:=e2_ok fun p q h=>evFn_sound (N:=0) (ks:=cofLHK) (key:=bo) cofLHT_ok (enters Tryz.func158) Tryz.func158 fun hw=>by
 rw [cofLH_ev]
 refine congrArg (fun x=>some (bo,ob x)) ?_
 exact (ixF_any (fun k=>ixfLHC (gd q 0) (sub ((gd p 0).rows.getD k []) 0 4)) (gd p 0).rows.length 0).trans (by simp only [Nat.zero_add]; rfl)
end Go.Proofs.YtpdfmcmnjikppaaGreat
namespace Go.Proofs.YtpdfmcmnjikppaaGreat
set_option maxRecDepth 4096
abbrev i_RangesOkT:FuncId→List T→Option (T × Bool):=find [i_RangeOkE]
theorem i_RangesOkT_ok:CallOk Tryz.prog i_RangesOkT:=find_ok (fC ⟨i_RangeOk_ok,fN⟩)
abbrev i_RangesOkK:List Nat:= [0,2,3,4,5,6,7,8,29]
noncomputable def i_RangesOkL0 (N:Nat) (p:List D):List D→Out:=loopOf Tryz.prog i_RangesOkT N i_RangesOkK Tryz.f150 rb [⟨sd (.sl 41),p⟩] 0
theorem i_RangesOkR0 (N:Nat) (p:List D) (x0 x1 x2 x3 x4:D):(i_RangesOkL0 N p) [x0,x1,x2,x3,x4] =
 bif ltI x4.int x3.int then nd (inRange x4.int x2.rows.length) (bif !(rangeOk (sub (x2.rows.getD x4.int.toNat []) 0 2)) then ob false
 else bif ltI 0 x4.int then nd (inRange (w64 (x4.int - 1)) x0.rows.length) (bif ltI (gd (x2.rows.getD x4.int.toNat []) 0).int (gd (x0.rows.getD (w64 (x4.int - 1)).toNat []) 1).int then ob false
 else nx [x0,x1,x2,x3,.i (w64 (x4.int+1))])
 else nx [x0,x1,x2,x3,.i (w64 (x4.int+1))])
 else ex 0 [x0,x1,x2,x3,x4]:=by kernel_rfl
theorem i_RangesOk_ev (N:Nat) (p:List D):evFn Tryz.prog i_RangesOkT N i_RangesOkK Tryz.f150 rb [⟨sd (.sl 41),p⟩]=some (bo,
 (let o0:=iter (i_RangesOkL0 N p) N [gd p 0,.i 0,gd p 0,.i ((gd p 0).rows.length:Int),.i 0]
  nd o0.isSome (bif o0.code==1 then some (1,o0.pay)
  else nd (o0.code==2) (ob (leI ((gd o0.pay 0).rows.length:Int) 16))))):=by kernel_rfl
def rangesAt (z:D):Nat→Bool
 | 0=>rangeOk (sub (z.rows.getD 0 []) 0 2)
 | k+1=>rangeOk (sub (z.rows.getD (k+1) []) 0 2) && !ltI (gd (z.rows.getD (k+1) []) 0).int (gd (z.rows.getD k []) 1).int
def rangesOk (z:D):Bool:=(List.range z.rows.length).all (rangesAt z)&&leI (z.rows.length:Int) 16
def i_RangesOkE:Ent:=(150,e1 (sd (.sl 41)) fun p=>(⟨rb,[.b (rangesOk (gd p 0))]⟩,true))
theorem i_RangesOk_ok:EntOk Tryz.prog i_RangesOkE:=e1_ok fun p h=>evFn_sound (N:=(gd p 0).rows.length+1) (ks:=i_RangesOkK) (key:=bo) i_RangesOkT_ok (enters Tryz.func150) Tryz.func150 fun hw=>by
 rw [i_RangesOk_ev]
 have hl:=wt_sl (hw ⟨sd (.sl 41),p⟩ (by simp))
 have e:=for_loop (L:=i_RangesOkL0 ((gd p 0).rows.length+1) p) (fun k => [(gd p 0),.i 0,(gd p 0),.i ((gd p 0).rows.length:Int),.i (k:Int)]) (gd p 0).rows.length (rangesAt (gd p 0)) [.b false] 0 (fun k hk=>?_) ?_ (N:=((gd p 0).rows.length+1)) (by omega)
 ·simp only [Int.natCast_zero] at e
  rw [e]
  unfold rangesOk
  cases (List.range (gd p 0).rows.length).all (rangesAt (gd p 0)) <;> rfl
 ·cases k with
  | zero =>
   show i_RangesOkL0 _ p [_,_,_,_,.i ((0:Nat):Int)]=_
   rw [i_RangesOkR0]
   simp only [int_i,c_lt hk,nd_ix hk,w64_succ hk hl,Int.toNat_natCast,bne_not,ltI_00,rangesAt]
   cases rangeOk (sub ((gd p 0).rows.getD 0 []) 0 2) <;> rfl
  | succ k =>
   show i_RangesOkL0 _ p [_,_,_,_,.i ((k+1:Nat):Int)]=_
   rw [i_RangesOkR0]
   simp only [int_i,c_lt hk,nd_ix hk,w64_succ hk hl,Int.toNat_natCast,bne_not,ltI_0s,w64_pred (show k+1≤9223372036854775807 from by omega),nd_ix (Nat.lt_of_succ_lt hk),rangesAt]
   cases rangeOk (sub ((gd p 0).rows.getD (k+1) []) 0 2) <;> cases ltI (gd ((gd p 0).rows.getD (k+1) []) 0).int (gd ((gd p 0).rows.getD k []) 1).int <;> rfl
 ·show i_RangesOkL0 _ p [_,_,_,.i ((gd p 0).rows.length:Int),.i ((gd p 0).rows.length:Int)]=_
  rw [i_RangesOkR0]
  simp only [int_i,c_nlt]
abbrev s_RangesOkT:FuncId→List T→Option (T × Bool):=find [s_RangeOkE]
theorem s_RangesOkT_ok:CallOk Tryz.prog s_RangesOkT:=find_ok (fC ⟨s_RangeOk_ok,fN⟩)
abbrev s_RangesOkK:List Nat:= [0,2,3,6,10,36]
noncomputable def s_RangesOkL0 (N:Nat) (p:List D):List D→Out:=loopOf Tryz.prog s_RangesOkT N s_RangesOkK Tryz.f185 rb [⟨sd (.sl 41),p⟩] 0
theorem s_RangesOkR0 (N:Nat) (p:List D) (x0 x1 x2 x3:D):(s_RangesOkL0 N p) [x0,x1,x2,x3] =
 bif ltI x3.int (x0.rows.length:Int) then nd (inRange x3.int x0.rows.length) (bif !(rangeOk (sub (x0.rows.getD x3.int.toNat []) 0 2)) then ob false
 else bif ltI 0 x3.int then nd (inRange x3.int x0.rows.length) (nd (inRange (w64 (x3.int - 1)) x0.rows.length) (bif ltI (gd (x0.rows.getD x3.int.toNat []) 0).int (gd (x0.rows.getD (w64 (x3.int - 1)).toNat []) 1).int then ob false
 else nx [x0,x1,x2,.i (w64 (x3.int+1))]))
 else nx [x0,x1,x2,.i (w64 (x3.int+1))])
 else ex 0 [x0,x1,x2,x3]:=by kernel_rfl
theorem s_RangesOk_ev (N:Nat) (p:List D):evFn Tryz.prog s_RangesOkT N s_RangesOkK Tryz.f185 rb [⟨sd (.sl 41),p⟩]=some (bo,
 bif ltI 16 ((gd p 0).rows.length:Int) then ob false
 else (let o0:=iter (s_RangesOkL0 N p) N [gd p 0,.i 0,.b (ltI 16 ((gd p 0).rows.length:Int)),.i 0]
  nd o0.isSome (bif o0.code==1 then some (1,o0.pay)
  else nd (o0.code==2) (ob true)))):=by kernel_rfl
def s_RangesOkE:Ent:=(185,e1 (sd (.sl 41)) fun p=>(⟨rb,[.b (rangesOk (gd p 0))]⟩,true))
theorem s_RangesOk_ok:EntOk Tryz.prog s_RangesOkE:=e1_ok fun p h=>evFn_sound (N:=(gd p 0).rows.length+1) (ks:=s_RangesOkK) (key:=bo) s_RangesOkT_ok (enters Tryz.func185) Tryz.func185 fun hw=>by
 rw [s_RangesOk_ev]
 have hl:=wt_sl (hw ⟨sd (.sl 41),p⟩ (by simp))
 unfold rangesOk
 by_cases hb:(gd p 0).rows.length≤16
 ·rw [ltI_f (show ((gd p 0).rows.length:Int)≤16 from by omega),leI_t (show ((gd p 0).rows.length:Int)≤16 from by omega),cond_false]
  have e:=for_loop (L:=s_RangesOkL0 ((gd p 0).rows.length+1) p) (fun k => [(gd p 0),.i 0,.b false,.i (k:Int)]) (gd p 0).rows.length (rangesAt (gd p 0)) [.b false] 0 (fun k hk=>?_) ?_ (N:=((gd p 0).rows.length+1)) (by omega)
  ·simp only [Int.natCast_zero] at e
   rw [e]
   cases (List.range (gd p 0).rows.length).all (rangesAt (gd p 0)) <;> rfl
  ·cases k with
   | zero =>
    show s_RangesOkL0 _ p [_,_,_,.i ((0:Nat):Int)]=_
    rw [s_RangesOkR0]
    simp only [int_i,c_lt hk,nd_ix hk,w64_succ hk hl,Int.toNat_natCast,bne_not,ltI_00,rangesAt]
    cases rangeOk (sub ((gd p 0).rows.getD 0 []) 0 2) <;> rfl
   | succ k =>
    show s_RangesOkL0 _ p [_,_,_,.i ((k+1:Nat):Int)]=_
    rw [s_RangesOkR0]
    simp only [int_i,c_lt hk,nd_ix hk,w64_succ hk hl,Int.toNat_natCast,bne_not,ltI_0s,w64_pred (show k+1≤9223372036854775807 from by omega),nd_ix (Nat.lt_of_succ_lt hk),rangesAt]
    cases rangeOk (sub ((gd p 0).rows.getD (k+1) []) 0 2) <;> cases ltI (gd ((gd p 0).rows.getD (k+1) []) 0).int (gd ((gd p 0).rows.getD k []) 1).int <;> rfl
  ·show s_RangesOkL0 _ p [_,_,_,.i ((gd p 0).rows.length:Int)]=_
   rw [s_RangesOkR0]
   simp only [int_i,c_nlt]
 ·rw [ltI_t (show (16:Int)<((gd p 0).rows.length:Int) from by omega),leI_f (show (16:Int)<((gd p 0).rows.length:Int) from by omega),Bool.and_false]
  rfl
abbrev i_StoreOkT:FuncId→List T→Option (T × Bool):=find [i_isKeyE,i_isWholeE]
theorem i_StoreOkT_ok:CallOk Tryz.prog i_StoreOkT:=find_ok (fC ⟨i_isKey_ok,fC ⟨i_isWhole_ok,fN⟩⟩)
abbrev i_StoreOkK:List Nat:= [0,2,3,4,5,6,7,8,36]
noncomputable def i_StoreOkL0 (N:Nat) (p:List D):List D→Out:=loopOf Tryz.prog i_StoreOkT N i_StoreOkK Tryz.f127 rb [⟨sd (.sl 108),p⟩] 0
theorem i_StoreOkR0 (N:Nat) (p:List D) (x0 x1 x2 x3 x4:D):(i_StoreOkL0 N p) [x0,x1,x2,x3,x4] =
 bif ltI x4.int x3.int then nd (inRange x4.int x2.rows.length) (bif !(inB (gd (x2.rows.getD x4.int.toNat []) 0).int (0) (999)) then ob false
 else bif !(inB (gd (x2.rows.getD x4.int.toNat []) 1).int (0) (1000000000)) then ob false
 else bif ltI 0 x4.int then nd (inRange (w64 (x4.int - 1)) x0.rows.length) (bif leI (gd (x2.rows.getD x4.int.toNat []) 0).int (gd (x0.rows.getD (w64 (x4.int - 1)).toNat []) 0).int then ob false
 else nx [x0,x1,x2,x3,.i (w64 (x4.int+1))])
 else nx [x0,x1,x2,x3,.i (w64 (x4.int+1))])
 else ex 0 [x0,x1,x2,x3,x4]:=by kernel_rfl
theorem i_StoreOk_ev (N:Nat) (p:List D):evFn Tryz.prog i_StoreOkT N i_StoreOkK Tryz.f127 rb [⟨sd (.sl 108),p⟩]=some (bo,
 (let o0:=iter (i_StoreOkL0 N p) N [gd p 0,.i 0,gd p 0,.i ((gd p 0).rows.length:Int),.i 0]
  nd o0.isSome (bif o0.code==1 then some (1,o0.pay)
  else nd (o0.code==2) (ob (leI ((gd o0.pay 0).rows.length:Int) 60))))):=by kernel_rfl
def storeAt (z:D):Nat→Bool
 | 0=>inB (gd (z.rows.getD 0 []) 0).int 0 999&&inB (gd (z.rows.getD 0 []) 1).int 0 1000000000
 | k+1=>inB (gd (z.rows.getD (k+1) []) 0).int 0 999&&(inB (gd (z.rows.getD (k+1) []) 1).int 0 1000000000 && !leI (gd (z.rows.getD (k+1) []) 0).int (gd (z.rows.getD k []) 0).int)
def storeOk (z:D):Bool:=(List.range z.rows.length).all (storeAt z)&&leI (z.rows.length:Int) 60
def i_StoreOkE:Ent:=(127,e1 (sd (.sl 108)) fun p=>(⟨rb,[.b (storeOk (gd p 0))]⟩,true))
theorem i_StoreOk_ok:EntOk Tryz.prog i_StoreOkE:=e1_ok fun p h=>evFn_sound (N:=(gd p 0).rows.length+1) (ks:=i_StoreOkK) (key:=bo) i_StoreOkT_ok (enters Tryz.func127) Tryz.func127 fun hw=>by
 rw [i_StoreOk_ev]
 have hl:=wt_sl (hw ⟨sd (.sl 108),p⟩ (by simp))
 have e:=for_loop (L:=i_StoreOkL0 ((gd p 0).rows.length+1) p) (fun k => [(gd p 0),.i 0,(gd p 0),.i ((gd p 0).rows.length:Int),.i (k:Int)]) (gd p 0).rows.length (storeAt (gd p 0)) [.b false] 0 (fun k hk=>?_) ?_ (N:=((gd p 0).rows.length+1)) (by omega)
 ·simp only [Int.natCast_zero] at e
  rw [e]
  unfold storeOk
  cases (List.range (gd p 0).rows.length).all (storeAt (gd p 0)) <;> rfl
 ·cases k with
  | zero =>
   show i_StoreOkL0 _ p [_,_,_,_,.i ((0:Nat):Int)]=_
   rw [i_StoreOkR0]
   simp only [int_i,c_lt hk,nd_ix hk,w64_succ hk hl,Int.toNat_natCast,bne_not,ltI_00,storeAt]
   cases inB (gd ((gd p 0).rows.getD 0 []) 0).int 0 999 <;> cases inB (gd ((gd p 0).rows.getD 0 []) 1).int 0 1000000000 <;> rfl
  | succ k =>
   show i_StoreOkL0 _ p [_,_,_,_,.i ((k+1:Nat):Int)]=_
   rw [i_StoreOkR0]
   simp only [int_i,c_lt hk,nd_ix hk,w64_succ hk hl,Int.toNat_natCast,bne_not,ltI_0s,w64_pred (show k+1≤9223372036854775807 from by omega),nd_ix (Nat.lt_of_succ_lt hk),storeAt]
   cases inB (gd ((gd p 0).rows.getD (k+1) []) 0).int 0 999 <;> cases inB (gd ((gd p 0).rows.getD (k+1) []) 1).int 0 1000000000 <;> cases leI (gd ((gd p 0).rows.getD (k+1) []) 0).int (gd ((gd p 0).rows.getD k []) 0).int <;> rfl
 ·show i_StoreOkL0 _ p [_,_,_,.i ((gd p 0).rows.length:Int),.i ((gd p 0).rows.length:Int)]=_
  rw [i_StoreOkR0]
  simp only [int_i,c_nlt]
abbrev s_StoreOkT:FuncId→List T→Option (T × Bool):=find [s_l10KeyE,s_l1WholeE]
theorem s_StoreOkT_ok:CallOk Tryz.prog s_StoreOkT:=find_ok (fC ⟨s_l10Key_ok,fC ⟨s_l1Whole_ok,fN⟩⟩)
abbrev s_StoreOkK:List Nat:= [0,2,3,6,10,46]
noncomputable def s_StoreOkL0 (N:Nat) (p:List D):List D→Out:=loopOf Tryz.prog s_StoreOkT N s_StoreOkK Tryz.f122 rb [⟨sd (.sl 108),p⟩] 0
theorem s_StoreOkR0 (N:Nat) (p:List D) (x0 x1 x2 x3:D):(s_StoreOkL0 N p) [x0,x1,x2,x3] =
 bif ltI x3.int (x0.rows.length:Int) then nd (inRange x3.int x0.rows.length) (bif !(inB (gd (x0.rows.getD x3.int.toNat []) 0).int (0) (999)) then ob false
 else nd (inRange x3.int x0.rows.length) (bif !(inB (gd (x0.rows.getD x3.int.toNat []) 1).int (0) (1000000000)) then ob false
 else bif ltI 0 x3.int then nd (inRange (w64 (x3.int - 1)) x0.rows.length) (nd (inRange x3.int x0.rows.length) (bif leI (gd (x0.rows.getD x3.int.toNat []) 0).int (gd (x0.rows.getD (w64 (x3.int - 1)).toNat []) 0).int then ob false
 else nx [x0,x1,x2,.i (w64 (x3.int+1))]))
 else nx [x0,x1,x2,.i (w64 (x3.int+1))]))
 else ex 0 [x0,x1,x2,x3]:=by kernel_rfl
theorem s_StoreOk_ev (N:Nat) (p:List D):evFn Tryz.prog s_StoreOkT N s_StoreOkK Tryz.f122 rb [⟨sd (.sl 108),p⟩]=some (bo,
 bif ltI 60 ((gd p 0).rows.length:Int) then ob false
 else (let o0:=iter (s_StoreOkL0 N p) N [gd p 0,.i 0,.b (ltI 60 ((gd p 0).rows.length:Int)),.i 0]
  nd o0.isSome (bif o0.code==1 then some (1,o0.pay)
  else nd (o0.code==2) (ob true)))):=by kernel_rfl
def s_StoreOkE:Ent:=(122,e1 (sd (.sl 108)) fun p=>(⟨rb,[.b (storeOk (gd p 0))]⟩,true))
theorem s_StoreOk_ok:EntOk Tryz.prog s_StoreOkE:=e1_ok fun p h=>evFn_sound (N:=(gd p 0).rows.length+1) (ks:=s_StoreOkK) (key:=bo) s_StoreOkT_ok (enters Tryz.func122) Tryz.func122 fun hw=>by
 rw [s_StoreOk_ev]
 have hl:=wt_sl (hw ⟨sd (.sl 108),p⟩ (by simp))
 unfold storeOk
 by_cases hb:(gd p 0).rows.length≤60
 ·rw [ltI_f (show ((gd p 0).rows.length:Int)≤60 from by omega),leI_t (show ((gd p 0).rows.length:Int)≤60 from by omega),cond_false]
  have e:=for_loop (L:=s_StoreOkL0 ((gd p 0).rows.length+1) p) (fun k => [(gd p 0),.i 0,.b false,.i (k:Int)]) (gd p 0).rows.length (storeAt (gd p 0)) [.b false] 0 (fun k hk=>?_) ?_ (N:=((gd p 0).rows.length+1)) (by omega)
  ·simp only [Int.natCast_zero] at e
   rw [e]
   cases (List.range (gd p 0).rows.length).all (storeAt (gd p 0)) <;> rfl
  ·cases k with
   | zero =>
    show s_StoreOkL0 _ p [_,_,_,.i ((0:Nat):Int)]=_
    rw [s_StoreOkR0]
    simp only [int_i,c_lt hk,nd_ix hk,w64_succ hk hl,Int.toNat_natCast,bne_not,ltI_00,storeAt]
    cases inB (gd ((gd p 0).rows.getD 0 []) 0).int 0 999 <;> cases inB (gd ((gd p 0).rows.getD 0 []) 1).int 0 1000000000 <;> rfl
   | succ k =>
    show s_StoreOkL0 _ p [_,_,_,.i ((k+1:Nat):Int)]=_
    rw [s_StoreOkR0]
    simp only [int_i,c_lt hk,nd_ix hk,w64_succ hk hl,Int.toNat_natCast,bne_not,ltI_0s,w64_pred (show k+1≤9223372036854775807 from by omega),nd_ix (Nat.lt_of_succ_lt hk),storeAt]
    cases inB (gd ((gd p 0).rows.getD (k+1) []) 0).int 0 999 <;> cases inB (gd ((gd p 0).rows.getD (k+1) []) 1).int 0 1000000000 <;> cases leI (gd ((gd p 0).rows.getD (k+1) []) 0).int (gd ((gd p 0).rows.getD k []) 0).int <;> rfl
  ·show s_StoreOkL0 _ p [_,_,_,.i ((gd p 0).rows.length:Int)]=_
   rw [s_StoreOkR0]
   simp only [int_i,c_nlt]
 ·rw [ltI_t (show (60:Int)<((gd p 0).rows.length:Int) from by omega),leI_f (show (60:Int)<((gd p 0).rows.length:Int) from by omega),Bool.and_false]
  rfl
abbrev i_ascendingT:FuncId→List T→Option (T × Bool):=find [i_isTxE]
theorem i_ascendingT_ok:CallOk Tryz.prog i_ascendingT:=find_ok (fC ⟨i_isTx_ok,fN⟩)
abbrev i_ascendingK:List Nat:= [0,2,3,4,5,6,7,8,27]
noncomputable def i_ascendingL0 (N:Nat) (p:List D):List D→Out:=loopOf Tryz.prog i_ascendingT N i_ascendingK Tryz.f153 rb [⟨sd (.sl 3),p⟩] 0
theorem i_ascendingR0 (N:Nat) (p:List D) (x0 x1 x2 x3 x4:D):(i_ascendingL0 N p) [x0,x1,x2,x3,x4] =
 bif ltI x4.int x3.int then nd (inRange x4.int x2.rows.length) (bif !(inB (gd (x2.rows.getD x4.int.toNat []) 0).int 1 60) then ob false
 else bif ltI 0 x4.int then nd (inRange (w64 (x4.int - 1)) x0.rows.length) (bif leI (gd (x2.rows.getD x4.int.toNat []) 0).int (gd (x0.rows.getD (w64 (x4.int - 1)).toNat []) 0).int then ob false
 else nx [x0,x1,x2,x3,.i (w64 (x4.int+1))])
 else nx [x0,x1,x2,x3,.i (w64 (x4.int+1))])
 else ex 0 [x0,x1,x2,x3,x4]:=by kernel_rfl
theorem i_ascending_ev (N:Nat) (p:List D):evFn Tryz.prog i_ascendingT N i_ascendingK Tryz.f153 rb [⟨sd (.sl 3),p⟩]=some (bo,
 (let o0:=iter (i_ascendingL0 N p) N [gd p 0,.i 0,gd p 0,.i ((gd p 0).rows.length:Int),.i 0]
  nd o0.isSome (bif o0.code==1 then some (1,o0.pay)
  else nd (o0.code==2) (ob true)))):=by kernel_rfl
def ascAt (z:D):Nat→Bool
 | 0=>inB (gd (z.rows.getD 0 []) 0).int 1 60
 | k+1=>inB (gd (z.rows.getD (k+1) []) 0).int 1 60 && !leI (gd (z.rows.getD (k+1) []) 0).int (gd (z.rows.getD k []) 0).int
def ascOk (z:D):Bool:=(List.range z.rows.length).all (ascAt z)
def i_ascendingE:Ent:=(153,e1 (sd (.sl 3)) fun p=>(⟨rb,[.b (ascOk (gd p 0))]⟩,true))
theorem i_ascending_ok:EntOk Tryz.prog i_ascendingE:=e1_ok fun p h=>evFn_sound (N:=(gd p 0).rows.length+1) (ks:=i_ascendingK) (key:=bo) i_ascendingT_ok (enters Tryz.func153) Tryz.func153 fun hw=>by
 rw [i_ascending_ev]
 have hl:=wt_sl (hw ⟨sd (.sl 3),p⟩ (by simp))
 have e:=for_loop (L:=i_ascendingL0 ((gd p 0).rows.length+1) p) (fun k => [(gd p 0),.i 0,(gd p 0),.i ((gd p 0).rows.length:Int),.i (k:Int)]) (gd p 0).rows.length (ascAt (gd p 0)) [.b false] 0 (fun k hk=>?_) ?_ (N:=((gd p 0).rows.length+1)) (by omega)
 ·simp only [Int.natCast_zero] at e
  rw [e]
  unfold ascOk
  cases (List.range (gd p 0).rows.length).all (ascAt (gd p 0)) <;> rfl
 ·cases k with
  | zero =>
   show i_ascendingL0 _ p [_,_,_,_,.i ((0:Nat):Int)]=_
   rw [i_ascendingR0]
   simp only [int_i,c_lt hk,nd_ix hk,w64_succ hk hl,Int.toNat_natCast,bne_not,ltI_00,ascAt]
   cases inB (gd ((gd p 0).rows.getD 0 []) 0).int 1 60 <;> rfl
  | succ k =>
   show i_ascendingL0 _ p [_,_,_,_,.i ((k+1:Nat):Int)]=_
   rw [i_ascendingR0]
   simp only [int_i,c_lt hk,nd_ix hk,w64_succ hk hl,Int.toNat_natCast,bne_not,ltI_0s,w64_pred (show k+1≤9223372036854775807 from by omega),nd_ix (Nat.lt_of_succ_lt hk),ascAt]
   cases inB (gd ((gd p 0).rows.getD (k+1) []) 0).int 1 60 <;> cases leI (gd ((gd p 0).rows.getD (k+1) []) 0).int (gd ((gd p 0).rows.getD k []) 0).int <;> rfl
 ·show i_ascendingL0 _ p [_,_,_,.i ((gd p 0).rows.length:Int),.i ((gd p 0).rows.length:Int)]=_
  rw [i_ascendingR0]
  simp only [int_i,c_nlt]
abbrev s_l13TxsT:FuncId→List T→Option (T × Bool):=find [s_l12TxE]
theorem s_l13TxsT_ok:CallOk Tryz.prog s_l13TxsT:=find_ok (fC ⟨s_l12Tx_ok,fN⟩)
abbrev s_l13TxsK:List Nat:= [0,2,3,7,31]
noncomputable def s_l13TxsL0 (N:Nat) (p:List D):List D→Out:=loopOf Tryz.prog s_l13TxsT N s_l13TxsK Tryz.f199 rb [⟨sd (.sl 3),p⟩] 0
theorem s_l13TxsR0 (N:Nat) (p:List D) (x0 x1 x2:D):(s_l13TxsL0 N p) [x0,x1,x2] =
 bif ltI x2.int (x0.rows.length:Int) then nd (inRange x2.int x0.rows.length) (bif !(inB (gd (x0.rows.getD x2.int.toNat []) 0).int 1 60) then ob false
 else bif ltI 0 x2.int then nd (inRange (w64 (x2.int - 1)) x0.rows.length) (nd (inRange x2.int x0.rows.length) (bif leI (gd (x0.rows.getD x2.int.toNat []) 0).int (gd (x0.rows.getD (w64 (x2.int - 1)).toNat []) 0).int then ob false
 else nx [x0,x1,.i (w64 (x2.int+1))]))
 else nx [x0,x1,.i (w64 (x2.int+1))])
 else ex 0 [x0,x1,x2]:=by kernel_rfl
theorem s_l13Txs_ev (N:Nat) (p:List D):evFn Tryz.prog s_l13TxsT N s_l13TxsK Tryz.f199 rb [⟨sd (.sl 3),p⟩]=some (bo,
 (let o0:=iter (s_l13TxsL0 N p) N [gd p 0,.i 0,.i 0]
  nd o0.isSome (bif o0.code==1 then some (1,o0.pay)
  else nd (o0.code==2) (ob true)))):=by kernel_rfl
def s_l13TxsE:Ent:=(199,e1 (sd (.sl 3)) fun p=>(⟨rb,[.b (ascOk (gd p 0))]⟩,true))
theorem s_l13Txs_ok:EntOk Tryz.prog s_l13TxsE:=e1_ok fun p h=>evFn_sound (N:=(gd p 0).rows.length+1) (ks:=s_l13TxsK) (key:=bo) s_l13TxsT_ok (enters Tryz.func199) Tryz.func199 fun hw=>by
 rw [s_l13Txs_ev]
 have hl:=wt_sl (hw ⟨sd (.sl 3),p⟩ (by simp))
 have e:=for_loop (L:=s_l13TxsL0 ((gd p 0).rows.length+1) p) (fun k => [(gd p 0),.i 0,.i (k:Int)]) (gd p 0).rows.length (ascAt (gd p 0)) [.b false] 0 (fun k hk=>?_) ?_ (N:=((gd p 0).rows.length+1)) (by omega)
 ·simp only [Int.natCast_zero] at e
  rw [e]
  unfold ascOk
  cases (List.range (gd p 0).rows.length).all (ascAt (gd p 0)) <;> rfl
 ·cases k with
  | zero =>
   show s_l13TxsL0 _ p [_,_,.i ((0:Nat):Int)]=_
   rw [s_l13TxsR0]
   simp only [int_i,c_lt hk,nd_ix hk,w64_succ hk hl,Int.toNat_natCast,bne_not,ltI_00,ascAt]
   cases inB (gd ((gd p 0).rows.getD 0 []) 0).int 1 60 <;> rfl
  | succ k =>
   show s_l13TxsL0 _ p [_,_,.i ((k+1:Nat):Int)]=_
   rw [s_l13TxsR0]
   simp only [int_i,c_lt hk,nd_ix hk,w64_succ hk hl,Int.toNat_natCast,bne_not,ltI_0s,w64_pred (show k+1≤9223372036854775807 from by omega),nd_ix (Nat.lt_of_succ_lt hk),ascAt]
   cases inB (gd ((gd p 0).rows.getD (k+1) []) 0).int 1 60 <;> cases leI (gd ((gd p 0).rows.getD (k+1) []) 0).int (gd ((gd p 0).rows.getD k []) 0).int <;> rfl
 ·show s_l13TxsL0 _ p [_,_,.i ((gd p 0).rows.length:Int)]=_
  rw [s_l13TxsR0]
  simp only [int_i,c_nlt]
end Go.Proofs.YtpdfmcmnjikppaaGreat
namespace Go.Proofs.YtpdfmcmnjikppaaGreat
set_option maxRecDepth 4096
def endD (z:D):Nat→D
 | 0=>.i 0
 | k+1=>gd (z.rows.getD k []) 1
abbrev i_LocksOkT:FuncId→List T→Option (T × Bool):=find [i_isTxE,i_LkeysE,i_RangeOkE,i_isModeE,cofLOE]
theorem i_LocksOkT_ok:CallOk Tryz.prog i_LocksOkT:=find_ok (fC ⟨i_isTx_ok,fC ⟨i_Lkeys_ok,fC ⟨i_RangeOk_ok,fC ⟨i_isMode_ok,fC ⟨cofLO_ok,fN⟩⟩⟩⟩⟩)
abbrev i_LocksOkK:List Nat:= [0,2,3,4,5,6,7,8,34]
noncomputable def i_LocksOkL0 (N:Nat) (p:List D):List D→Out:=loopOf Tryz.prog i_LocksOkT N i_LocksOkK Tryz.f151 rb [⟨sd (.sl 93),p⟩] 0
theorem i_LocksOkR0 (N:Nat) (p:List D) (x0 x1 x2 x3 x4:D):(i_LocksOkL0 N p) [x0,x1,x2,x3,x4] =
 bif ltI x4.int x3.int then nd (inRange x4.int x2.rows.length) (bif !(inB (gd (x2.rows.getD x4.int.toNat []) 0).int 1 60) then ob false
 else bif !(rangeOk [(gd (x2.rows.getD x4.int.toNat []) 1),(gd (x2.rows.getD x4.int.toNat []) 2)]) then ob false
 else bif !(i_isModeF [(gd (x2.rows.getD x4.int.toNat []) 3)]) then ob false
 else nd (leI 0 0&&leI 0 x4.int&&leI x4.int (x0.rows.length:Int)) (bif anyS (fun r=>ixfLOC (.l [[.l [sub (x2.rows.getD x4.int.toNat []) 0 4]]]) (sub r 0 4)) (.l (x0.rows.take x4.int.toNat)) then ob false
 else nx [x0,x1,x2,x3,.i (w64 (x4.int+1))]))
 else ex 0 [x0,x1,x2,x3,x4]:=by kernel_rfl
theorem i_LocksOk_ev (N:Nat) (p:List D):evFn Tryz.prog i_LocksOkT N i_LocksOkK Tryz.f151 rb [⟨sd (.sl 93),p⟩]=some (bo,
 (let o0:=iter (i_LocksOkL0 N p) N [gd p 0,.i 0,gd p 0,.i ((gd p 0).rows.length:Int),.i 0]
  nd o0.isSome (bif o0.code==1 then some (1,o0.pay)
  else nd (o0.code==2) (ob (leI ((gd o0.pay 0).rows.length:Int) 40))))):=by kernel_rfl
def lockAt (z:D) (k:Nat):Bool:=inB (gd (z.rows.getD k []) 0).int 1 60&&(rangeOk [gd (z.rows.getD k []) 1,gd (z.rows.getD k []) 2]&&(i_isModeF [gd (z.rows.getD k []) 3] && !(List.range k).any fun j=>i_clashF (z.rows.getD k []) (z.rows.getD j [])))
def locksOk (z:D):Bool:=(List.range z.rows.length).all (lockAt z)&&leI (z.rows.length:Int) 40
def i_LocksOkE:Ent:=(151,e1 (sd (.sl 93)) fun p=>(⟨rb,[.b (locksOk (gd p 0))]⟩,true))
theorem i_LocksOk_ok:EntOk Tryz.prog i_LocksOkE:=e1_ok fun p h=>evFn_sound (N:=(gd p 0).rows.length+1) (ks:=i_LocksOkK) (key:=bo) i_LocksOkT_ok (enters Tryz.func151) Tryz.func151 fun hw=>by
 rw [i_LocksOk_ev]
 have hl:=wt_sl (hw ⟨sd (.sl 93),p⟩ (by simp))
 have e:=for_loop (L:=i_LocksOkL0 ((gd p 0).rows.length+1) p) (fun k => [gd p 0,.i 0,gd p 0,.i ((gd p 0).rows.length:Int),.i (k:Int)]) (gd p 0).rows.length (lockAt (gd p 0)) [.b false] 0 (fun k hk=>?_) ?_ (N:=(gd p 0).rows.length+1) (by omega)
 ·simp only [Int.natCast_zero] at e
  rw [e]
  unfold locksOk
  cases (List.range (gd p 0).rows.length).all (lockAt (gd p 0)) <;> rfl
 ·show i_LocksOkL0 _ p [_,_,_,_,.i (k:Int)]=_
  rw [i_LocksOkR0]
  simp only [int_i,c_lt hk,nd_ix hk,w64_succ hk hl,Int.toNat_natCast,nd_take (Nat.le_of_lt hk),anyS_take (Nat.le_of_lt hk),lockAt]
  rw [show ((List.range k).any fun j=>ixfLOC (.l [[.l [sub ((gd p 0).rows.getD k []) 0 4]]]) (sub ((gd p 0).rows.getD j []) 0 4))=(List.range k).any fun j=>i_clashF ((gd p 0).rows.getD k []) ((gd p 0).rows.getD j []) from rfl]
  cases inB (gd ((gd p 0).rows.getD k []) 0).int 1 60 <;> cases rangeOk [gd ((gd p 0).rows.getD k []) 1,gd ((gd p 0).rows.getD k []) 2] <;> cases i_isModeF [gd ((gd p 0).rows.getD k []) 3] <;> cases (List.range k).any fun j=>i_clashF ((gd p 0).rows.getD k []) ((gd p 0).rows.getD j []) <;> rfl
 ·show i_LocksOkL0 _ p [_,_,_,.i ((gd p 0).rows.length:Int),.i ((gd p 0).rows.length:Int)]=_
  rw [i_LocksOkR0]
  simp only [int_i,c_nlt]
abbrev s_LocksOkT:FuncId→List T→Option (T × Bool):=find [s_l12TxE,s_l12RangeE,s_RangeOkE,s_l12ModeE,s_l12ClashE]
theorem s_LocksOkT_ok:CallOk Tryz.prog s_LocksOkT:=find_ok (fC ⟨s_l12Tx_ok,fC ⟨s_l12Range_ok,fC ⟨s_RangeOk_ok,fC ⟨s_l12Mode_ok,fC ⟨s_l12Clash_ok,fN⟩⟩⟩⟩⟩)
abbrev s_LocksOkK:List Nat:= [0,2,3,4,7,11,38,41,52]
noncomputable def s_LocksOkL0 (N:Nat) (p:List D):List D→Out:=loopOf Tryz.prog s_LocksOkT N s_LocksOkK Tryz.f167 rb [⟨sd (.sl 93),p⟩] 0
noncomputable def s_LocksOkL2 (N:Nat) (p:List D):List D→Out:=loopOf Tryz.prog s_LocksOkT N s_LocksOkK Tryz.f167 rb [⟨sd (.sl 93),p⟩] 2
theorem s_LocksOkR0 (N:Nat) (p:List D) (x0 x1 x2 x3:D):(s_LocksOkL0 N p) [x0,x1,x2,x3] =
 bif ltI x3.int (x0.rows.length:Int) then nd (inRange x3.int x0.rows.length) (bif !(inB (gd (x0.rows.getD x3.int.toNat []) 0).int 1 60) then ob false
 else nd (inRange x3.int x0.rows.length) (bif !(rangeOk [(gd (x0.rows.getD x3.int.toNat []) 1),(gd (x0.rows.getD x3.int.toNat []) 2)]) then ob false
 else nd (inRange x3.int x0.rows.length) (bif !(s_l12ModeF [(gd (x0.rows.getD x3.int.toNat []) 3)]) then ob false
 else (let o2:=iter (s_LocksOkL2 N p) N [x0,x1,x2,x3,.b (ltI x3.int (x0.rows.length:Int)),.b (!(s_l12ModeF [(gd (x0.rows.getD x3.int.toNat []) 3)])),.i 0]
  nd o2.isSome (bif o2.code==1 then some (1,o2.pay)
  else nd (o2.code==4) (nx [gd o2.pay 0,gd o2.pay 1,gd o2.pay 2,.i (w64 ((gd o2.pay 3).int+1))]))))))
 else ex 0 [x0,x1,x2,x3]:=by kernel_rfl
theorem s_LocksOkR2 (N:Nat) (p:List D) (x0 x1 x2 x3 x4 x5 x6:D):(s_LocksOkL2 N p) [x0,x1,x2,x3,x4,x5,x6] =
 bif ltI x6.int x3.int then nd (inRange x3.int x0.rows.length) (nd (inRange x6.int x0.rows.length) (bif clashS (sub (x0.rows.getD x3.int.toNat []) 0 4) (sub (x0.rows.getD x6.int.toNat []) 0 4) then ob false
 else nx [x0,x1,x2,x3,x4,x5,.i (w64 (x6.int+1))]))
 else ex 2 [x0,x1,x2,x3,x4,x5,x6]:=by kernel_rfl
theorem s_LocksOk_ev (N:Nat) (p:List D):evFn Tryz.prog s_LocksOkT N s_LocksOkK Tryz.f167 rb [⟨sd (.sl 93),p⟩]=some (bo,
 bif ltI 40 ((gd p 0).rows.length:Int) then ob false
 else (let o0:=iter (s_LocksOkL0 N p) N [gd p 0,.i 0,.b (ltI 40 ((gd p 0).rows.length:Int)),.i 0]
  nd o0.isSome (bif o0.code==1 then some (1,o0.pay)
  else nd (o0.code==2) (ob true)))):=by kernel_rfl
def lockAtS (z:D) (k:Nat):Bool:=inB (gd (z.rows.getD k []) 0).int 1 60&&(rangeOk [gd (z.rows.getD k []) 1,gd (z.rows.getD k []) 2]&&(i_isModeF [gd (z.rows.getD k []) 3]&&(List.range k).all fun j => !clashS (z.rows.getD k []) (z.rows.getD j [])))
theorem locks_same (z:D) (n:Nat):(List.range n).all (lockAtS z)=(List.range n).all (lockAt z):=by
 rw [Bool.eq_iff_iff]
 simp only [List.all_eq_true,List.mem_range]
 have hr:∀ {k},(lockAtS z k=true∨lockAt z k=true)→rangeOk [gd (z.rows.getD k []) 1,gd (z.rows.getD k []) 2]=true:=fun h=>by
  rcases h with h | h
  ·simp only [lockAtS,Bool.and_eq_true] at h; exact h.2.1
  ·simp only [lockAt,Bool.and_eq_true] at h; exact h.2.1
 constructor
 ·intro h k hk
  have a:=h k hk
  have ra:=hr (.inl a)
  simp only [lockAtS,Bool.and_eq_true,List.all_eq_true,List.mem_range,Bool.not_eq_true'] at a
  simp only [lockAt,Bool.and_eq_true,Bool.not_eq_true',List.any_eq_false,List.mem_range,Bool.not_eq_true]
  refine ⟨a.1,a.2.1,a.2.2.1,fun j hj=>?_⟩
  rw [← clashS_of ra (hr (.inl (h j (by omega))))]
  exact a.2.2.2 j hj
 ·intro h k hk
  have a:=h k hk
  have ra:=hr (.inr a)
  simp only [lockAt,Bool.and_eq_true,Bool.not_eq_true',List.any_eq_false,List.mem_range,Bool.not_eq_true] at a
  simp only [lockAtS,Bool.and_eq_true,List.all_eq_true,List.mem_range,Bool.not_eq_true']
  refine ⟨a.1,a.2.1,a.2.2.1,fun j hj=>?_⟩
  rw [clashS_of ra (hr (.inr (h j (by omega))))]
  exact a.2.2.2 j hj
def s_LocksOkE:Ent:=(167,e1 (sd (.sl 93)) fun p=>(⟨rb,[.b (locksOk (gd p 0))]⟩,true))
theorem s_LocksOk_ok:EntOk Tryz.prog s_LocksOkE:=e1_ok fun p h=>evFn_sound (N:=(gd p 0).rows.length+1) (ks:=s_LocksOkK) (key:=bo) s_LocksOkT_ok (enters Tryz.func167) Tryz.func167 fun hw=>by
 rw [s_LocksOk_ev]
 have hl:=wt_sl (hw ⟨sd (.sl 93),p⟩ (by simp))
 unfold locksOk
 rw [← locks_same]
 by_cases hb:(gd p 0).rows.length≤40
 ·rw [ltI_f (show ((gd p 0).rows.length:Int)≤40 from by omega),leI_t (show ((gd p 0).rows.length:Int)≤40 from by omega),cond_false]
  have e:=for_loop (L:=s_LocksOkL0 ((gd p 0).rows.length+1) p) (fun k => [gd p 0,.i 0,.b false,.i (k:Int)]) (gd p 0).rows.length (lockAtS (gd p 0)) [.b false] 0 (fun k hk=>?_) ?_ (N:=(gd p 0).rows.length+1) (by omega)
  ·simp only [Int.natCast_zero] at e
   rw [e]
   cases (List.range (gd p 0).rows.length).all (lockAtS (gd p 0)) <;> rfl
  ·show s_LocksOkL0 _ p [_,_,_,.i (k:Int)]=_
   rw [s_LocksOkR0]
   simp only [int_i,ltI_nat hk,cond_true,nd_ix hk,Int.toNat_natCast,lockAtS,show s_l12ModeF [gd ((gd p 0).rows.getD k []) 3]=i_isModeF [gd ((gd p 0).rows.getD k []) 3] from rfl]
   cases inB (gd ((gd p 0).rows.getD k []) 0).int 1 60
   ·rfl
   cases rangeOk [gd ((gd p 0).rows.getD k []) 1,gd ((gd p 0).rows.getD k []) 2]
   ·rfl
   cases i_isModeF [gd ((gd p 0).rows.getD k []) 3]
   ·rfl
   have e2:=for_loop (L:=s_LocksOkL2 ((gd p 0).rows.length+1) p) (fun j => [gd p 0,.i 0,.b false,.i (k:Int),.b true,.b false,.i (j:Int)]) k (fun j => !clashS ((gd p 0).rows.getD k []) ((gd p 0).rows.getD j [])) [.b false] 2 (fun j hj=>?_) ?_ (N:=(gd p 0).rows.length+1) (by omega)
   ·simp only [Int.natCast_zero] at e2
    simp only [Bool.not_true,cond_false,e2,Bool.true_and]
    cases (List.range k).all fun j => !clashS ((gd p 0).rows.getD k []) ((gd p 0).rows.getD j [])
    ·rfl
    ·simp only [nd,cond_true,cond_false,Option.isSome_some,Out.code,Out.pay,Option.getD_some,gd_cons_zero,gd_cons_succ,Nat.reduceBEq,Nat.reduceAdd,int_i,bool_b,str_s,rows_l,Bool.not_true,Bool.not_false,beq_self_eq_true,w64_succ hk hl]
   ·show s_LocksOkL2 _ p [_,_,_,.i (k:Int),_,_,.i (j:Int)]=_
    rw [s_LocksOkR2]
    simp only [int_i,c_lt hj,nd_ix hk,nd_ix (Nat.lt_trans hj hk),w64_succ hj (show k≤9223372036854775807 from by omega),Int.toNat_natCast]
    rw [show clashS (sub ((gd p 0).rows.getD k []) 0 4) (sub ((gd p 0).rows.getD j []) 0 4)=clashS ((gd p 0).rows.getD k []) ((gd p 0).rows.getD j []) from rfl]
    cases clashS ((gd p 0).rows.getD k []) ((gd p 0).rows.getD j []) <;> rfl
   ·show s_LocksOkL2 _ p [_,_,_,.i (k:Int),_,_,.i (k:Int)]=_
    rw [s_LocksOkR2]
    simp only [int_i,c_nlt]
  ·show s_LocksOkL0 _ p [_,_,_,.i ((gd p 0).rows.length:Int)]=_
   rw [s_LocksOkR0]
   simp only [int_i,c_nlt]
 ·rw [ltI_t (show (40:Int)<((gd p 0).rows.length:Int) from by omega),leI_f (show (40:Int)<((gd p 0).rows.length:Int) from by omega),Bool.and_false]
  rfl
abbrev i_haveAllT:FuncId→List T→Option (T × Bool):=find []
theorem i_haveAllT_ok:CallOk Tryz.prog i_haveAllT:=find_ok (fN)
abbrev i_haveAllK:List Nat:= [0,1,3,4,5,7,10,11,12,13,25]
noncomputable def i_haveAllL0 (N:Nat) (p q:List D):List D→Out:=loopOf Tryz.prog i_haveAllT N i_haveAllK Tryz.f75 rb [⟨sd (.sl 41),p⟩,⟨ag rIRange,q⟩] 0
theorem i_haveAllR0 (N:Nat) (p q:List D) (x0 x1 x2 x3 x4 x5 x6 x7 x8 x9 x10:D):(i_haveAllL0 N p q) [x0,x1,x2,x3,x4,x5,x6,x7,x8,x9,x10] =
 bif ltI x8.int x7.int then nd (inRange x8.int x6.rows.length) (bif leI (gd (x6.rows.getD x8.int.toNat []) 0).int x5.int then bif ltI x5.int (gd (x6.rows.getD x8.int.toNat []) 1).int then nx [x0,x1,x2,x3,x4,gd (x6.rows.getD x8.int.toNat []) 1,x6,x7,.i (w64 (x8.int+1)),x9,x10]
 else nx [x0,x1,x2,x3,x4,x5,x6,x7,.i (w64 (x8.int+1)),x9,x10]
 else nx [x0,x1,x2,x3,x4,x5,x6,x7,.i (w64 (x8.int+1)),x9,x10])
 else ex 0 [x0,x1,x2,x3,x4,x5,x6,x7,x8,x9,x10]:=by kernel_rfl
theorem i_haveAll_ev (N:Nat) (p q:List D):evFn Tryz.prog i_haveAllT N i_haveAllK Tryz.f75 rb [⟨sd (.sl 41),p⟩,⟨ag rIRange,q⟩]=some (bo,
 (let o0:=iter (i_haveAllL0 N p q) N [gd p 0,gd q 0,gd q 1,.i 0,.i 0,gd q 0,gd p 0,.i ((gd p 0).rows.length:Int),.i 0,gd q 0,gd q 1]
  nd o0.isSome (nd (o0.code==2) (ob (leI (gd o0.pay 10).int (gd o0.pay 5).int))))):=by kernel_rfl
def haveD (z:D) (a:D):Nat→D
 | 0=>a
 | k+1=>bif leI (gd (z.rows.getD k []) 0).int (haveD z a k).int&&ltI (haveD z a k).int (gd (z.rows.getD k []) 1).int then gd (z.rows.getD k []) 1 else haveD z a k
def haveAll (z:D) (q:List D):Bool:=leI (gd q 1).int (haveD z (gd q 0) z.rows.length).int
theorem run_loop {L:List D→Out} (st:Nat→List D) (n:Nat) (j:Nat) (h1:∀ k,k<n→L (st k)=some (0,st (k+1))) (h2:L (st n)=some (j+2,st n)) {N:Nat} (hN:n<N) :
  iter L N (st 0)=some (j+2,st n):=by
 have e:=for_loop (L:=L) st n (fun _=>true) [] j (fun k hk=>h1 k hk) h2 hN
 rw [e,show (List.range n).all (fun _=>true)=true from by simp]; rfl
def i_haveAllE:Ent:=(75,e2 (sd (.sl 41)) (ag rIRange) fun p q=>(⟨rb,[.b (haveAll (gd p 0) q)]⟩,true))
theorem i_haveAll_ok:EntOk Tryz.prog i_haveAllE:=e2_ok fun p q h=>evFn_sound (N:=(gd p 0).rows.length+1) (ks:=i_haveAllK) (key:=bo) i_haveAllT_ok (enters Tryz.func75) Tryz.func75 fun hw=>by
 rw [i_haveAll_ev]
 have hl:=wt_sl (hw ⟨sd (.sl 41),p⟩ (by simp))
 have e:=run_loop (L:=i_haveAllL0 ((gd p 0).rows.length+1) p q) (fun k => [gd p 0,gd q 0,gd q 1,.i 0,.i 0,haveD (gd p 0) (gd q 0) k,gd p 0,.i ((gd p 0).rows.length:Int),.i (k:Int),gd q 0,gd q 1]) (gd p 0).rows.length 0 (fun k hk=>?_) ?_ (N:=(gd p 0).rows.length+1) (by omega)
 ·simp only [Int.natCast_zero] at e
  rw [show haveD (gd p 0) (gd q 0) 0=gd q 0 from rfl] at e
  rw [e]
  rfl
 ·show i_haveAllL0 _ p q [_,_,_,_,_,_,_,_,.i (k:Int),_,_]=_
  rw [i_haveAllR0]
  simp only [int_i,c_lt hk,nd_ix hk,w64_succ hk hl,Int.toNat_natCast,haveD]
  cases leI (gd ((gd p 0).rows.getD k []) 0).int (haveD (gd p 0) (gd q 0) k).int <;> cases ltI (haveD (gd p 0) (gd q 0) k).int (gd ((gd p 0).rows.getD k []) 1).int <;> rfl
 ·show i_haveAllL0 _ p q [_,_,_,_,_,_,_,.i ((gd p 0).rows.length:Int),.i ((gd p 0).rows.length:Int),_,_]=_
  rw [i_haveAllR0]
  simp only [int_i,c_nlt]
abbrev s_RangesHaveT:FuncId→List T→Option (T × Bool):=find [s_RangesOkE,s_RangeOkE]
theorem s_RangesHaveT_ok:CallOk Tryz.prog s_RangesHaveT:=find_ok (fC ⟨s_RangesOk_ok,fC ⟨s_RangeOk_ok,fN⟩⟩)
abbrev s_RangesHaveK:List Nat:= [0,1,3,4,5,6,14,20,38]
noncomputable def s_RangesHaveL0 (N:Nat) (p q:List D):List D→Out:=loopOf Tryz.prog s_RangesHaveT N s_RangesHaveK Tryz.f62 rb [⟨sd (.sl 41),p⟩,⟨ag rIRange,q⟩] 0
theorem s_RangesHaveR0 (N:Nat) (p q:List D) (x0 x1 x2 x3 x4 x5 x6 x7 x8 x9:D):(s_RangesHaveL0 N p q) [x0,x1,x2,x3,x4,x5,x6,x7,x8,x9] =
 bif ltI x7.int (x0.rows.length:Int) then nd (inRange x7.int x0.rows.length) (bif leI (gd (x0.rows.getD x7.int.toNat []) 0).int x6.int then nd (inRange x7.int x0.rows.length) (bif ltI x6.int (gd (x0.rows.getD x7.int.toNat []) 1).int then nd (inRange x7.int x0.rows.length) (nx [x0,x1,x2,x3,x4,x5,gd (x0.rows.getD x7.int.toNat []) 1,.i (w64 (x7.int+1)),x8,x9])
 else nx [x0,x1,x2,x3,x4,x5,x6,.i (w64 (x7.int+1)),x8,x9])
 else nx [x0,x1,x2,x3,x4,x5,x6,.i (w64 (x7.int+1)),x8,x9])
 else ex 0 [x0,x1,x2,x3,x4,x5,x6,x7,x8,x9]:=by kernel_rfl
theorem s_RangesHave_ev (N:Nat) (p q:List D):evFn Tryz.prog s_RangesHaveT N s_RangesHaveK Tryz.f62 rb [⟨sd (.sl 41),p⟩,⟨ag rIRange,q⟩]=some (bo,
 bif !(rangesOk (gd p 0)) then ob false
 else bif !(rangeOk (sub q 0 2)) then ob false
 else (let o0:=iter (s_RangesHaveL0 N p q) N [gd p 0,gd q 0,gd q 1,.i 0,.i 0,.b (!(rangeOk (sub q 0 2))),gd q 0,.i 0,gd q 0,gd q 1]
  nd o0.isSome (nd (o0.code==2) (ob (leI (gd o0.pay 9).int (gd o0.pay 6).int))))):=by kernel_rfl
def rangesHave (z:D) (q:List D):Bool:=rangesOk z&&(rangeOk q&&haveAll z q)
def s_RangesHaveE:Ent:=(62,e2 (sd (.sl 41)) (ag rIRange) fun p q=>(⟨rb,[.b (rangesHave (gd p 0) q)]⟩,true))
theorem s_RangesHave_ok:EntOk Tryz.prog s_RangesHaveE:=e2_ok fun p q h=>evFn_sound (N:=(gd p 0).rows.length+1) (ks:=s_RangesHaveK) (key:=bo) s_RangesHaveT_ok (enters Tryz.func62) Tryz.func62 fun hw=>by
 rw [s_RangesHave_ev]
 have hl:=wt_sl (hw ⟨sd (.sl 41),p⟩ (by simp))
 unfold rangesHave
 rw [show rangeOk (sub q 0 2)=rangeOk q from rfl]
 cases rangesOk (gd p 0)
 ·rfl
 cases rangeOk q
 ·rfl
 have e:=run_loop (L:=s_RangesHaveL0 ((gd p 0).rows.length+1) p q) (fun k => [gd p 0,gd q 0,gd q 1,.i 0,.i 0,.b false,haveD (gd p 0) (gd q 0) k,.i (k:Int),gd q 0,gd q 1]) (gd p 0).rows.length 0 (fun k hk=>?_) ?_ (N:=(gd p 0).rows.length+1) (by omega)
 ·simp only [Int.natCast_zero] at e
  rw [show haveD (gd p 0) (gd q 0) 0=gd q 0 from rfl] at e
  simp only [Bool.not_true,cond_false,e]
  rfl
 ·show s_RangesHaveL0 _ p q [_,_,_,_,_,_,_,.i (k:Int),_,_]=_
  rw [s_RangesHaveR0]
  simp only [int_i,c_lt hk,nd_ix hk,w64_succ hk hl,Int.toNat_natCast,haveD]
  cases leI (gd ((gd p 0).rows.getD k []) 0).int (haveD (gd p 0) (gd q 0) k).int <;> cases ltI (haveD (gd p 0) (gd q 0) k).int (gd ((gd p 0).rows.getD k []) 1).int <;> rfl
 ·show s_RangesHaveL0 _ p q [_,_,_,_,_,_,_,.i ((gd p 0).rows.length:Int),_,_]=_
  rw [s_RangesHaveR0]
  simp only [int_i,c_nlt]
end Go.Proofs.YtpdfmcmnjikppaaGreat
namespace Go.Proofs.YtpdfmcmnjikppaaGreat
set_option maxRecDepth 4096
def still (a b c d:Int) (n:Nat):Bool:=(a==0)&&((b==0)&&((c==0)&&((d==0)&&((n:Int)==0))))
end Go.Proofs.YtpdfmcmnjikppaaGreat
namespace Go.Proofs.YtpdfmcmnjikppaaGreat
set_option maxRecDepth 4096
set_option maxHeartbeats 1000000
abbrev i_LocksHoldT:FuncId→List T→Option (T × Bool):=find [i_LocksOkE,i_RangeOkE,i_isModeE,cofLHE]
theorem i_LocksHoldT_ok:CallOk Tryz.prog i_LocksHoldT:=find_ok (fC ⟨i_LocksOk_ok,fC ⟨i_RangeOk_ok,fC ⟨i_isMode_ok,fC ⟨cofLH_ok,fN⟩⟩⟩⟩)
abbrev i_LocksHoldK:List Nat:= [0,1,2,3,5,6,7,8]
theorem i_LocksHold_ev (N:Nat) (p q r s:List D):evFn Tryz.prog i_LocksHoldT N i_LocksHoldK Tryz.f50 rb [⟨sd (.sl 93),p⟩,⟨ri,q⟩,⟨ag rIRange,r⟩,⟨ri,s⟩]=some (bo,
 bif locksOk (gd p 0) then bif rangeOk (sub r 0 2) then bif i_isModeF [(gd s 0)] then ob (anyS (fun rr=>ixfLHC (.l [[.l [[gd q 0]],.l [[gd s 0]],.l [sub r 0 2]]]) (sub rr 0 4)) (gd p 0))
 else ob false
 else ob false
 else ob false):=by kernel_rfl
def locksHold (z tx:D) (a:List D) (mode:D):Bool:=locksOk z&&(rangeOk a&&(i_isModeF [mode]&&anyS (fun r=>ixfLHC (.l [[.l [[tx]],.l [[mode]],.l [sub a 0 2]]]) (sub r 0 4)) z))
def i_LocksHoldE:Ent:=(50,e4 (sd (.sl 93)) ri (ag rIRange) ri fun p q r s=>(⟨rb,[.b (locksHold (gd p 0) (gd q 0) r (gd s 0))]⟩,true))
theorem i_LocksHold_ok:EntOk Tryz.prog i_LocksHoldE:=e4_ok fun p q r s h=>evFn_sound (N:=0) (ks:=i_LocksHoldK) (key:=bo) i_LocksHoldT_ok (enters Tryz.func50) Tryz.func50 fun hw=>by
 rw [i_LocksHold_ev]
 rw [show rangeOk (sub r 0 2)=rangeOk r from rfl]
 unfold locksHold
 cases locksOk (gd p 0) <;> try rfl
 cases rangeOk r <;> try rfl
 cases i_isModeF [gd s 0] <;> rfl
abbrev s_l12HoldsT:FuncId→List T→Option (T × Bool):=find [s_l12RangeE,s_RangeInE]
theorem s_l12HoldsT_ok:CallOk Tryz.prog s_l12HoldsT:=find_ok (fC ⟨s_l12Range_ok,fC ⟨s_RangeIn_ok,fN⟩⟩)
abbrev s_l12HoldsK:List Nat:= [0,1,2,3,6,8,9,13,40]
noncomputable def s_l12HoldsL0 (N:Nat) (p q r s:List D):List D→Out:=loopOf Tryz.prog s_l12HoldsT N s_l12HoldsK Tryz.f96 rb [⟨sd (.sl 93),p⟩,⟨ri,q⟩,⟨ag rIRange,r⟩,⟨ri,s⟩] 0
theorem s_l12HoldsR0 (N:Nat) (p q r s:List D) (x0 x1 x2 x3 x4 x5 x6 x7 x8 x9:D):(s_l12HoldsL0 N p q r s) [x0,x1,x2,x3,x4,x5,x6,x7,x8,x9] =
 bif ltI x7.int (x0.rows.length:Int) then nd (inRange x7.int x0.rows.length) (bif (gd (x0.rows.getD x7.int.toNat []) 0).int==x1.int then nd (inRange x7.int x0.rows.length) (bif s_RangeInF [x8,x9] [(gd (x0.rows.getD x7.int.toNat []) 1),(gd (x0.rows.getD x7.int.toNat []) 2)] then nd (inRange x7.int x0.rows.length) (bif leI x4.int (gd (x0.rows.getD x7.int.toNat []) 3).int then ob true
 else nx [x0,x1,x2,x3,x4,x5,x6,.i (w64 (x7.int+1)),x8,x9])
 else nx [x0,x1,x2,x3,x4,x5,x6,.i (w64 (x7.int+1)),x8,x9])
 else nx [x0,x1,x2,x3,x4,x5,x6,.i (w64 (x7.int+1)),x8,x9])
 else ex 0 [x0,x1,x2,x3,x4,x5,x6,x7,x8,x9]:=by kernel_rfl
theorem s_l12Holds_ev (N:Nat) (p q r s:List D):evFn Tryz.prog s_l12HoldsT N s_l12HoldsK Tryz.f96 rb [⟨sd (.sl 93),p⟩,⟨ri,q⟩,⟨ag rIRange,r⟩,⟨ri,s⟩]=some (bo,
 (let o0:=iter (s_l12HoldsL0 N p q r s) N [gd p 0,gd q 0,gd r 0,gd r 1,gd s 0,.i 0,.i 0,.i 0,gd r 0,gd r 1]
  nd o0.isSome (bif o0.code==1 then some (1,o0.pay)
  else nd (o0.code==2) (ob false)))):=by kernel_rfl
def holdS (r:List D) (tx:D) (a:List D) (mode:D):Bool:=((gd r 0).int==tx.int)&&(s_RangeInF a [gd r 1,gd r 2]&&leI mode.int (gd r 3).int)
def holds (z tx:D) (a:List D) (mode:D):Bool:=(List.range z.rows.length).any fun k=>holdS (z.rows.getD k []) tx a mode
theorem lock_row {z:D} (h:locksOk z=true) {k:Nat} (hk:k<z.rows.length):rangeOk [gd (z.rows.getD k []) 1,gd (z.rows.getD k []) 2]=true∧i_isModeF [gd (z.rows.getD k []) 3]=true:=by
 simp only [locksOk,Bool.and_eq_true,List.all_eq_true,List.mem_range] at h
 have:=h.1 k hk
 simp only [lockAt,Bool.and_eq_true] at this
 exact ⟨this.2.1,this.2.2.1⟩
theorem any_congr {n:Nat} {C C':Nat→Bool} (h:∀ k,k<n→C k=C' k):(List.range n).any C=(List.range n).any C':=by
 rw [Bool.eq_iff_iff]
 simp only [List.any_eq_true,List.mem_range]
 exact ⟨fun ⟨k,hk,hc⟩=>⟨k,hk,by rw [← h k hk]; exact hc⟩,fun ⟨k,hk,hc⟩=>⟨k,hk,by rw [h k hk]; exact hc⟩⟩
theorem all_congr {n:Nat} {C C':Nat→Bool} (h:∀ k,k<n→C k=C' k):(List.range n).all C=(List.range n).all C':=by
 rw [Bool.eq_iff_iff]
 simp only [List.all_eq_true,List.mem_range]
 exact ⟨fun hc k hk=>by rw [← h k hk]; exact hc k hk,fun hc k hk=>by rw [h k hk]; exact hc k hk⟩
theorem hold_same {z tx:D} {a:List D} (hz:locksOk z=true) (ha:rangeOk a=true):holds z tx a (.i 2)=locksHold z tx a (.i 2):=by
 unfold holds locksHold
 rw [hz,ha,Bool.true_and,Bool.true_and,show i_isModeF [.i 2]=true from rfl,Bool.true_and]
 unfold anyS
 refine any_congr fun k hk=>?_
 obtain ⟨h1,h2⟩:=lock_row hz hk
 show holdS (z.rows.getD k []) tx a (.i 2)=i_LocksHold_1F (sub (z.rows.getD k []) 0 4) [.l [[tx]]] [.l [[.i 2]]] [.l [sub a 0 2]]
 have e:i_LocksHold_1F (sub (z.rows.getD k []) 0 4) [.l [[tx]]] [.l [[.i 2]]] [.l [sub a 0 2]]=(bif (gd (z.rows.getD k []) 0).int==tx.int then bif (gd (z.rows.getD k []) 3).int==2 then bif leI (gd (z.rows.getD k []) 1).int (gd a 0).int then leI (gd a 1).int (gd (z.rows.getD k []) 2).int else false else bif (gd (z.rows.getD k []) 3).int==2 then bif leI (gd (z.rows.getD k []) 1).int (gd a 0).int then leI (gd a 1).int (gd (z.rows.getD k []) 2).int else false else false else false):=rfl
 rw [e]
 unfold holdS s_RangeInF
 rw [show rangeOk (sub a 0 2)=rangeOk a from rfl,ha,show rangeOk (sub [gd (z.rows.getD k []) 1,gd (z.rows.getD k []) 2] 0 2)=rangeOk [gd (z.rows.getD k []) 1,gd (z.rows.getD k []) 2] from rfl,h1]
 simp only [cond_true,gd_cons_zero,gd_cons_succ,int_i]
 have hm:leI 2 (gd (z.rows.getD k []) 3).int=((gd (z.rows.getD k []) 3).int==2):=by
  have h2:(bif (gd (z.rows.getD k []) 3).int==1 then true else (gd (z.rows.getD k []) 3).int==2)=true:=h2
  cases h3:(gd (z.rows.getD k []) 3).int==1
  ·rw [h3,cond_false] at h2
   rw [h2,eq_of_beq h2]; rfl
  ·rw [eq_of_beq h3]; rfl
 rw [hm]
 cases (gd (z.rows.getD k []) 0).int==tx.int <;> cases (gd (z.rows.getD k []) 3).int==2 <;> cases leI (gd (z.rows.getD k []) 1).int (gd a 0).int <;> cases leI (gd a 1).int (gd (z.rows.getD k []) 2).int <;> rfl
def s_l12HoldsE:Ent:=(96,e4 (sd (.sl 93)) ri (ag rIRange) ri fun p q r s=>(⟨rb,[.b (holds (gd p 0) (gd q 0) r (gd s 0))]⟩,true))
theorem s_l12Holds_ok:EntOk Tryz.prog s_l12HoldsE:=e4_ok fun p q r s h=>evFn_sound (N:=(gd p 0).rows.length+1) (ks:=s_l12HoldsK) (key:=bo) s_l12HoldsT_ok (enters Tryz.func96) Tryz.func96 fun hw=>by
 rw [s_l12Holds_ev]
 have hl:=wt_sl (hw ⟨sd (.sl 93),p⟩ (by simp))
 have e:=any_loop (L:=s_l12HoldsL0 ((gd p 0).rows.length+1) p q r s) (fun k => [gd p 0,gd q 0,gd r 0,gd r 1,gd s 0,.i 0,.i 0,.i (k:Int),gd r 0,gd r 1]) (gd p 0).rows.length (fun k=>holdS ((gd p 0).rows.getD k []) (gd q 0) r (gd s 0)) [.b true] 0 (fun k hk=>?_) ?_ (N:=(gd p 0).rows.length+1) (by omega)
 ·simp only [Int.natCast_zero] at e
  rw [e]
  unfold holds
  cases (List.range (gd p 0).rows.length).any (fun k=>holdS ((gd p 0).rows.getD k []) (gd q 0) r (gd s 0)) <;> rfl
 ·show s_l12HoldsL0 _ p q r s [_,_,_,_,_,_,_,.i (k:Int),_,_]=_
  rw [s_l12HoldsR0]
  simp only [int_i,c_lt hk,nd_ix hk,w64_succ hk hl,Int.toNat_natCast]
  rw [show s_RangeInF [gd r 0,gd r 1] [gd ((gd p 0).rows.getD k []) 1,gd ((gd p 0).rows.getD k []) 2]=s_RangeInF r [gd ((gd p 0).rows.getD k []) 1,gd ((gd p 0).rows.getD k []) 2] from rfl]
  unfold holdS
  cases (gd ((gd p 0).rows.getD k []) 0).int==(gd q 0).int <;> cases s_RangeInF r [gd ((gd p 0).rows.getD k []) 1,gd ((gd p 0).rows.getD k []) 2] <;> cases leI (gd s 0).int (gd ((gd p 0).rows.getD k []) 3).int <;> rfl
 ·show s_l12HoldsL0 _ p q r s [_,_,_,_,_,_,_,.i ((gd p 0).rows.length:Int),_,_]=_
  rw [s_l12HoldsR0]
  simp only [int_i,c_nlt]
abbrev i_txsOfT:FuncId→List T→Option (T × Bool):=find []
theorem i_txsOfT_ok:CallOk Tryz.prog i_txsOfT:=find_ok (fN)
abbrev i_txsOfK:List Nat:= [0,2,3,5,7,8,9,10]
noncomputable def i_txsOfL0 (N:Nat) (p:List D):List D→Out:=loopOf Tryz.prog i_txsOfT N i_txsOfK Tryz.f117 (.one (.c (.own (0,0) true 3))) [⟨sd (.sl 75),p⟩] 0
theorem i_txsOfR0 (N:Nat) (p:List D) (x0 x1 x2 x3 x4 x5:D):(i_txsOfL0 N p) [x0,x1,x2,x3,x4,x5] =
 bif ltI x5.int x4.int then nd (inRange x5.int x3.rows.length) (nd (lenOk (x2.rows ++ [[gd (x3.rows.getD x5.int.toNat []) 0]])&&true) (nx [x0,x1,.l (x2.rows ++ [[gd (x3.rows.getD x5.int.toNat []) 0]]),x3,x4,.i (w64 (x5.int+1))]))
 else ex 0 [x0,x1,x2,x3,x4,x5]:=by kernel_rfl
theorem i_txsOf_ev (N:Nat) (p:List D):evFn Tryz.prog i_txsOfT N i_txsOfK Tryz.f117 (.one (.c (.own (0,0) true 3))) [⟨sd (.sl 75),p⟩]=some (bo,
 (let o0:=iter (i_txsOfL0 N p) N [gd p 0,.l [],.l [],gd p 0,.i ((gd p 0).rows.length:Int),.i 0]
  nd o0.isSome (nd (o0.code==2) (some (1,[gd o0.pay 2]))))):=by kernel_rfl
def txsD (z:D):D:=.l (z.rows.map fun r => [gd r 0])
def i_txsOfE:Ent:=(117,e1 (sd (.sl 75)) fun p=>(⟨.one (.c (.own (0,0) true 3)),[txsD (gd p 0)]⟩,leI ((gd p 0).rows.length:Int) 1000000000))
theorem i_txsOf_ok:EntOk Tryz.prog i_txsOfE:=e1_ok fun p h=>evFn_sound (N:=(gd p 0).rows.length+1) (ks:=i_txsOfK) (key:=bo) i_txsOfT_ok (enters Tryz.func117) Tryz.func117 fun hw=>by
 rw [i_txsOf_ev]
 have h:leI ((gd p 0).rows.length:Int) 1000000000=true:=h
 simp only [leI,decide_eq_true_eq] at h
 have e:=run_loop (L:=i_txsOfL0 ((gd p 0).rows.length+1) p) (fun k => [gd p 0,.l [],.l (((gd p 0).rows.take k).map fun r => [gd r 0]),gd p 0,.i ((gd p 0).rows.length:Int),.i (k:Int)]) (gd p 0).rows.length 0 (fun k hk=>?_) ?_ (N:=(gd p 0).rows.length+1) (by omega)
 ·simp only [Int.natCast_zero,List.take_zero,List.map_nil,List.take_length] at e
  rw [e]
  rfl
 ·show i_txsOfL0 _ p [_,_,.l (((gd p 0).rows.take k).map fun r => [gd r 0]),_,_,.i (k:Int)]=_
  rw [i_txsOfR0]
  have ht:((gd p 0).rows.take (k+1)).map (fun r => [gd r 0])=((gd p 0).rows.take k).map (fun r => [gd r 0]) ++ [[gd ((gd p 0).rows.getD k []) 0]]:=by
   rw [List.take_succ_eq_append_getElem hk,List.map_append,List.getD_eq_getElem?_getD,List.getElem?_eq_getElem hk]
   rfl
  have hd:lenOk (((gd p 0).rows.take k).map (fun r => [gd r 0]) ++ [[gd ((gd p 0).rows.getD k []) 0]])=true:=lenOk_t (by simp; omega)
  simp only [int_i,rows_l,c_lt hk,nd_ix hk,w64_succ hk (show (gd p 0).rows.length≤9223372036854775807 from by omega),Int.toNat_natCast]
  rw [hd,ht]
  rfl
 ·show i_txsOfL0 _ p [_,_,_,_,.i ((gd p 0).rows.length:Int),.i ((gd p 0).rows.length:Int)]=_
  rw [i_txsOfR0]
  simp only [int_i,c_nlt]
abbrev i_heldsOk_1T:FuncId→List T→Option (T × Bool):=find [i_oneE,i_LocksHoldE]
theorem i_heldsOk_1T_ok:CallOk Tryz.prog i_heldsOk_1T:=find_ok (fC ⟨i_one_ok,fC ⟨i_LocksHold_ok,fN⟩⟩)
abbrev i_heldsOk_1K:List Nat:= [0,1,2,3,4]
theorem i_heldsOk_1_ev (N:Nat) (p q r:List D):evFn Tryz.prog i_heldsOk_1T N i_heldsOk_1K Tryz.f232 rb [⟨ag rIWrite,p⟩,⟨.one (.c (.cptr [si,.sl 41,.sl 41,.sl 108,.sl 93,.sl 75,.sl 3,.sl 3,si] 0)),q⟩,⟨.one (.c (.cptr [si,.sl 70] 0)),r⟩]=some (bo,
 ob (!(locksHold (gd ((gd q 0).rows.getD 0 []) 4) (gd ((gd r 0).rows.getD 0 []) 0) [(gd p 0),.i (w64 ((gd p 0).int+1))] (.i 2)))):=by kernel_rfl
def i_heldsOk_1F (p q r:List D):Bool:=
 !(locksHold (gd ((gd q 0).rows.getD 0 []) 4) (gd ((gd r 0).rows.getD 0 []) 0) [(gd p 0),.i (w64 ((gd p 0).int+1))] (.i 2))
def i_heldsOk_1E:Ent:=(232,e3 (ag rIWrite) (.one (.c (.cptr [si,.sl 41,.sl 41,.sl 108,.sl 93,.sl 75,.sl 3,.sl 3,si] 0))) (.one (.c (.cptr [si,.sl 70] 0))) fun p q r=>(⟨rb,[.b (i_heldsOk_1F p [gd q 0] [gd r 0])]⟩,true))
theorem i_heldsOk_1_ok:EntOk Tryz.prog i_heldsOk_1E:=e3_ok fun p q r h=>evFn_sound (N:=0) (ks:=i_heldsOk_1K) (key:=bo) i_heldsOk_1T_ok (enters Tryz.func232) Tryz.func232 fun hw=>by
 rw [i_heldsOk_1_ev]
 try simp only [cond_ob,cond_oi,cond_os]
 rfl
abbrev ixfHOT:FuncId→List T→Option (T × Bool):=find [i_heldsOk_1E]
theorem ixfHOT_ok:CallOk Tryz.prog ixfHOT:=find_ok (fC ⟨i_heldsOk_1_ok,fN⟩)
abbrev ixfHOK:List Nat:= [0,1,4,5,7,8,9,16]
noncomputable def ixfHOL0 (N:Nat) (p q:List D):List D→Out:=loopOf Tryz.prog ixfHOT N ixfHOK Tryz.f252 ri [⟨sd (.sl 70),p⟩,⟨.one (.c (.fn 232 [.cptr [si,.sl 41,.sl 41,.sl 108,.sl 93,.sl 75,.sl 3,.sl 3,si] 0,.cptr [si,.sl 70] 0])),q⟩] 0
theorem ixfHOR0 (N:Nat) (p q:List D) (x0 x1 x2 x3 x4:D):(ixfHOL0 N p q) [x0,x1,x2,x3,x4] =
 bif ltI x4.int x3.int then nd (inRange x4.int x0.rows.length) (bif i_heldsOk_1F (sub (x0.rows.getD x4.int.toNat []) 0 2) [gd (x1.rows.getD 0 []) 0] [gd (x1.rows.getD 0 []).tail 0] then some (1,[x4])
 else nx [x0,x1,x2,x3,.i (w64 (x4.int+1))])
 else ex 0 [x0,x1,x2,x3,x4]:=by kernel_rfl
theorem ixfHO_ev (N:Nat) (p q:List D):evFn Tryz.prog ixfHOT N ixfHOK Tryz.f252 ri [⟨sd (.sl 70),p⟩,⟨.one (.c (.fn 232 [.cptr [si,.sl 41,.sl 41,.sl 108,.sl 93,.sl 75,.sl 3,.sl 3,si] 0,.cptr [si,.sl 70] 0])),q⟩]=some (bo,
 (let o0:=iter (ixfHOL0 N p q) N [gd p 0,gd q 0,.i 0,.i ((gd p 0).rows.length:Int),.i 0]
  nd o0.isSome (bif o0.code==1 then some (1,o0.pay)
  else nd (o0.code==2) (oi (-1))))):=by kernel_rfl
def ixfHOC (c:D) (r:List D):Bool:=i_heldsOk_1F r [gd (c.rows.getD 0 []) 0] [gd (c.rows.getD 0 []).tail 0]
def ixfHOE:Ent:=(252,e2 (sd (.sl 70)) (.one (.c (.fn 232 [.cptr [si,.sl 41,.sl 41,.sl 108,.sl 93,.sl 75,.sl 3,.sl 3,si] 0,.cptr [si,.sl 70] 0]))) fun p q=>(⟨ri,[.i (ixF (fun k=>ixfHOC (gd q 0) (sub ((gd p 0).rows.getD k []) 0 2)) 0 (gd p 0).rows.length)]⟩,true))
theorem ixfHO_ok:EntOk Tryz.prog ixfHOE:=e2_ok fun p q h=>evFn_sound (N:=(gd p 0).rows.length+1) (ks:=ixfHOK) (key:=bo) ixfHOT_ok (enters Tryz.func252) Tryz.func252 fun hw=>by
 rw [ixfHO_ev]
 have hl:=wt_sl (hw ⟨sd (.sl 70),p⟩ (by simp))
 have e:=ix_loop (L:=ixfHOL0 ((gd p 0).rows.length+1) p q) (fun k => [gd p 0,gd q 0,.i 0,.i ((gd p 0).rows.length:Int),.i (k:Int)]) (gd p 0).rows.length (fun k=>ixfHOC (gd q 0) (sub ((gd p 0).rows.getD k []) 0 2)) [gd p 0,gd q 0,.i 0,.i ((gd p 0).rows.length:Int),.i ((gd p 0).rows.length:Int)] (fun k hk=>?_) ?_ (gd p 0).rows.length 0 ((gd p 0).rows.length+1) (by omega) (by omega)
 ·simp only [Int.natCast_zero] at e
  rw [e]
  have hno:=ixF_neg (fun k=>ixfHOC (gd q 0) (sub ((gd p 0).rows.getD k []) 0 2)) (gd p 0).rows.length 0
  cases hd:decide (ixF (fun k=>ixfHOC (gd q 0) (sub ((gd p 0).rows.getD k []) 0 2)) 0 (gd p 0).rows.length≥0)
  ·rw [hno hd]; rfl
  ·rfl
 ·show ixfHOL0 _ p q [_,_,_,_,.i (k:Int)]=_
  rw [ixfHOR0]
  simp only [int_i,c_lt hk,nd_ix hk,w64_succ hk hl,Int.toNat_natCast]
  unfold ixfHOC
  cases i_heldsOk_1F (sub ((gd p 0).rows.getD k []) 0 2) [gd ((gd q 0).rows.getD 0 []) 0] [gd ((gd q 0).rows.getD 0 []).tail 0] <;> rfl
 ·show ixfHOL0 _ p q [_,_,_,.i ((gd p 0).rows.length:Int),.i ((gd p 0).rows.length:Int)]=_
  rw [ixfHOR0]
  simp only [int_i,c_nlt]
abbrev cofHOT:FuncId→List T→Option (T × Bool):=find [ixfHOE,i_heldsOk_1E]
theorem cofHOT_ok:CallOk Tryz.prog cofHOT:=find_ok (fC ⟨ixfHO_ok,fC ⟨i_heldsOk_1_ok,fN⟩⟩)
abbrev cofHOK:List Nat:= [0,1,4]
theorem cofHO_ev (N:Nat) (p q:List D):evFn Tryz.prog cofHOT N cofHOK Tryz.f211 rb [⟨sd (.sl 70),p⟩,⟨.one (.c (.fn 232 [.cptr [si,.sl 41,.sl 41,.sl 108,.sl 93,.sl 75,.sl 3,.sl 3,si] 0,.cptr [si,.sl 70] 0])),q⟩]=some (bo,
 ob (leI 0 (ixF (fun k=>ixfHOC (.l [[gd ((gd q 0).rows.getD 0 []) 0,gd ((gd q 0).rows.getD 0 []).tail 0]]) (sub ((gd p 0).rows.getD k []) 0 2)) 0 (gd p 0).rows.length))):=by kernel_rfl
def cofHOE:Ent:=(211,e2 (sd (.sl 70)) (.one (.c (.fn 232 [.cptr [si,.sl 41,.sl 41,.sl 108,.sl 93,.sl 75,.sl 3,.sl 3,si] 0,.cptr [si,.sl 70] 0]))) fun p q=>(⟨rb,[.b (anyS (fun rr=>ixfHOC (gd q 0) (sub rr 0 2)) (gd p 0))]⟩,true))
theorem cofHO_ok:EntOk Tryz.prog cofHOE:=e2_ok fun p q h=>evFn_sound (N:=0) (ks:=cofHOK) (key:=bo) cofHOT_ok (enters Tryz.func211) Tryz.func211 fun hw=>by
 rw [cofHO_ev]
 refine congrArg (fun x=>some (bo,ob x)) ?_
 exact (ixF_any (fun k=>ixfHOC (gd q 0) (sub ((gd p 0).rows.getD k []) 0 2)) (gd p 0).rows.length 0).trans (by simp only [Nat.zero_add]; rfl)
abbrev i_heldsOkT:FuncId→List T→Option (T × Bool):=find [i_WritesOkE,cofHOE,i_txsOfE,i_ascendingE]
theorem i_heldsOkT_ok:CallOk Tryz.prog i_heldsOkT:=find_ok (fC ⟨i_WritesOk_ok,fC ⟨cofHO_ok,fC ⟨i_txsOf_ok,fC ⟨i_ascending_ok,fN⟩⟩⟩⟩)
abbrev i_heldsOkK:List Nat:= [0,1,2,4,6,7,8,9,21]
noncomputable def i_heldsOkL0 (N:Nat) (p:List D):List D→Out:=loopOf Tryz.prog i_heldsOkT N i_heldsOkK Tryz.f152 rb [⟨ag rIShard,p⟩] 0
theorem i_heldsOkR0 (N:Nat) (p:List D) (x0 x1 x2 x3 x4 x5 x6 x7 x8 x9 x10 x11 x12 x13 x14 x15 x16 x17 x18 x19 x20 x21 x22:D):(i_heldsOkL0 N p) [x0,x1,x2,x3,x4,x5,x6,x7,x8,x9,x10,x11,x12,x13,x14,x15,x16,x17,x18,x19,x20,x21,x22] =
 bif ltI x13.int x12.int then nd (inRange x13.int x11.rows.length) (bif !(writesOk (gd (x11.rows.getD x13.int.toNat []) 1)) then ob false
 else bif anyS (fun rr=>ixfHOC (.l [[.l [[x14,x15,x16,x17,x18,x19,x20,x21,x22]],.l [sub (x11.rows.getD x13.int.toNat []) 0 2]]]) (sub rr 0 2)) (gd (x11.rows.getD x13.int.toNat []) 1) then ob false
 else nx [x0,x1,x2,x3,x4,x5,x6,x7,x8,x9,x10,x11,x12,.i (w64 (x13.int+1)),x14,x15,x16,x17,x18,x19,x20,x21,x22])
 else ex 0 [x0,x1,x2,x3,x4,x5,x6,x7,x8,x9,x10,x11,x12,x13,x14,x15,x16,x17,x18,x19,x20,x21,x22]:=by kernel_rfl
theorem i_heldsOk_ev (N:Nat) (p:List D):evFn Tryz.prog i_heldsOkT N i_heldsOkK Tryz.f152 rb [⟨ag rIShard,p⟩]=some (bo,
 (let o0:=iter (i_heldsOkL0 N p) N [gd p 0,gd p 1,gd p 2,gd p 3,gd p 4,gd p 5,gd p 6,gd p 7,gd p 8,.i 0,.i 0,gd p 5,.i ((gd p 5).rows.length:Int),.i 0,gd p 0,gd p 1,gd p 2,gd p 3,gd p 4,gd p 5,gd p 6,gd p 7,gd p 8]
  nd o0.isSome (bif o0.code==1 then some (1,o0.pay)
  else nd (o0.code==2) (nd (leI ((gd o0.pay 19).rows.length:Int) 1000000000) (ob (ascOk (txsD (gd o0.pay 19)))))))):=by kernel_rfl
def oneAt (w:List D):List D:= [gd w 0,.i (w64 ((gd w 0).int+1))]
def heldAt (p:List D) (k:Nat):Bool:=writesOk (gd ((gd p 5).rows.getD k []) 1)&&(List.range (gd ((gd p 5).rows.getD k []) 1).rows.length).all fun j=>locksHold (gd p 4) (gd ((gd p 5).rows.getD k []) 0) (oneAt ((gd ((gd p 5).rows.getD k []) 1).rows.getD j [])) (.i 2)
def heldsOk (p:List D):Bool:=(List.range (gd p 5).rows.length).all (heldAt p)&&ascOk (txsD (gd p 5))
def i_heldsOkE:Ent:=(152,e1 (ag rIShard) fun p=>(⟨rb,[.b (heldsOk p)]⟩,leI ((gd p 5).rows.length:Int) 1000000000))
theorem i_heldsOk_ok:EntOk Tryz.prog i_heldsOkE:=e1_ok fun p h=>evFn_sound (N:=(gd p 5).rows.length+1) (ks:=i_heldsOkK) (key:=bo) i_heldsOkT_ok (enters Tryz.func152) Tryz.func152 fun hw=>by
 rw [i_heldsOk_ev]
 have h:leI ((gd p 5).rows.length:Int) 1000000000=true:=h
 have h':=h
 simp only [leI,decide_eq_true_eq] at h'
 have e:=for_loop (L:=i_heldsOkL0 ((gd p 5).rows.length+1) p) (fun k => [gd p 0,gd p 1,gd p 2,gd p 3,gd p 4,gd p 5,gd p 6,gd p 7,gd p 8,.i 0,.i 0,gd p 5,.i ((gd p 5).rows.length:Int),.i (k:Int),gd p 0,gd p 1,gd p 2,gd p 3,gd p 4,gd p 5,gd p 6,gd p 7,gd p 8]) (gd p 5).rows.length (heldAt p) [.b false] 0 (fun k hk=>?_) ?_ (N:=(gd p 5).rows.length+1) (by omega)
 ·simp only [Int.natCast_zero] at e
  rw [e]
  unfold heldsOk
  cases (List.range (gd p 5).rows.length).all (heldAt p)
  ·rfl
  ·simp only [nd,cond_true,cond_false,Option.isSome_some,Out.code,Out.pay,Option.getD_some,gd_cons_zero,gd_cons_succ,Nat.reduceBEq,Nat.reduceAdd,int_i,bool_b,str_s,rows_l,Bool.not_true,Bool.not_false,beq_self_eq_true,h]
   rfl
 ·show i_heldsOkL0 _ p [_,_,_,_,_,_,_,_,_,_,_,_,_,.i (k:Int),_,_,_,_,_,_,_,_,_]=_
  rw [i_heldsOkR0]
  simp only [int_i,c_lt hk,nd_ix hk,w64_succ hk (show (gd p 5).rows.length≤9223372036854775807 from by omega),Int.toNat_natCast]
  have ea:(!anyS (fun r=>ixfHOC (.l [[.l [[gd p 0,gd p 1,gd p 2,gd p 3,gd p 4,gd p 5,gd p 6,gd p 7,gd p 8]],.l [sub ((gd p 5).rows.getD k []) 0 2]]]) (sub r 0 2)) (gd ((gd p 5).rows.getD k []) 1))=(List.range (gd ((gd p 5).rows.getD k []) 1).rows.length).all fun j=>locksHold (gd p 4) (gd ((gd p 5).rows.getD k []) 0) (oneAt ((gd ((gd p 5).rows.getD k []) 1).rows.getD j [])) (.i 2):=by
   unfold anyS
   rw [← not_any]
   refine all_congr fun j _=>?_
   show (!(!locksHold (gd p 4) (gd ((gd p 5).rows.getD k []) 0) (oneAt ((gd ((gd p 5).rows.getD k []) 1).rows.getD j [])) (.i 2)))=_
   rw [Bool.not_not]
  unfold heldAt
  rw [← ea]
  cases writesOk (gd ((gd p 5).rows.getD k []) 1) <;> cases anyS (fun r=>ixfHOC (.l [[.l [[gd p 0,gd p 1,gd p 2,gd p 3,gd p 4,gd p 5,gd p 6,gd p 7,gd p 8]],.l [sub ((gd p 5).rows.getD k []) 0 2]]]) (sub r 0 2)) (gd ((gd p 5).rows.getD k []) 1) <;> rfl
 ·show i_heldsOkL0 _ p [_,_,_,_,_,_,_,_,_,_,_,_,.i ((gd p 5).rows.length:Int),.i ((gd p 5).rows.length:Int),_,_,_,_,_,_,_,_,_]=_
  rw [i_heldsOkR0]
  simp only [int_i,c_nlt]
abbrev s_l13HeldsOkT:FuncId→List T→Option (T × Bool):=find [s_l12TxE,s_WritesOkE,s_l10OneE,s_l12HoldsE,s_l12HasE]
theorem s_l13HeldsOkT_ok:CallOk Tryz.prog s_l13HeldsOkT:=find_ok (fC ⟨s_l12Tx_ok,fC ⟨s_WritesOk_ok,fC ⟨s_l10One_ok,fC ⟨s_l12Holds_ok,fC ⟨s_l12Has_ok,fN⟩⟩⟩⟩⟩)
abbrev s_l13HeldsOkK:List Nat:= [0,1,2,3,4,5,10,43,48,63,75]
noncomputable def s_l13HeldsOkL0 (N:Nat) (p:List D):List D→Out:=loopOf Tryz.prog s_l13HeldsOkT N s_l13HeldsOkK Tryz.f200 rb [⟨ag rIShard,p⟩] 0
noncomputable def s_l13HeldsOkL2 (N:Nat) (p:List D):List D→Out:=loopOf Tryz.prog s_l13HeldsOkT N s_l13HeldsOkK Tryz.f200 rb [⟨ag rIShard,p⟩] 2
theorem s_l13HeldsOkR0 (N:Nat) (p:List D) (x0 x1 x2 x3 x4 x5 x6 x7 x8 x9 x10 x11 x12 x13 x14 x15 x16 x17 x18 x19 x20:D):(s_l13HeldsOkL0 N p) [x0,x1,x2,x3,x4,x5,x6,x7,x8,x9,x10,x11,x12,x13,x14,x15,x16,x17,x18,x19,x20] =
 bif ltI x11.int (x17.rows.length:Int) then nd (inRange x11.int x17.rows.length) (bif !(inB (gd (x17.rows.getD x11.int.toNat []) 0).int 1 60) then ob false
 else bif ltI 0 x11.int then nd (inRange (w64 (x11.int - 1)) x17.rows.length) (bif leI (gd (x17.rows.getD x11.int.toNat []) 0).int (gd (x17.rows.getD (w64 (x11.int - 1)).toNat []) 0).int then ob false
 else bif !(writesOk (gd (x17.rows.getD x11.int.toNat []) 1)) then ob false
 else (let o2:=iter (s_l13HeldsOkL2 N p) N [x0,x1,x2,x3,x4,x5,x6,x7,x8,x9,x10,x11,.b (ltI x11.int (x17.rows.length:Int)),.i 0,.b (!(writesOk (gd (x17.rows.getD x11.int.toNat []) 1))),.i 0,x12,x13,x14,x15,x16,x17,x18,x19,x20,gd (x17.rows.getD x11.int.toNat []) 0,gd (x17.rows.getD x11.int.toNat []) 1]
  nd o2.isSome (bif o2.code==1 then some (1,o2.pay)
  else nd (o2.code==4) (bif hasInt (gd o2.pay 22) (gd o2.pay 25).int then ob false
  else bif hasInt (gd o2.pay 23) (gd o2.pay 25).int then ob false
  else nx [gd o2.pay 0,gd o2.pay 1,gd o2.pay 2,gd o2.pay 3,gd o2.pay 4,gd o2.pay 5,gd o2.pay 6,gd o2.pay 7,gd o2.pay 8,gd o2.pay 9,gd o2.pay 10,.i (w64 ((gd o2.pay 11).int+1)),gd o2.pay 16,gd o2.pay 17,gd o2.pay 18,gd o2.pay 19,gd o2.pay 20,gd o2.pay 21,gd o2.pay 22,gd o2.pay 23,gd o2.pay 24]))))
 else bif !(writesOk (gd (x17.rows.getD x11.int.toNat []) 1)) then ob false
 else (let o2:=iter (s_l13HeldsOkL2 N p) N [x0,x1,x2,x3,x4,x5,x6,x7,x8,x9,x10,x11,.b (ltI x11.int (x17.rows.length:Int)),.i 0,.b (!(writesOk (gd (x17.rows.getD x11.int.toNat []) 1))),.i 0,x12,x13,x14,x15,x16,x17,x18,x19,x20,gd (x17.rows.getD x11.int.toNat []) 0,gd (x17.rows.getD x11.int.toNat []) 1]
  nd o2.isSome (bif o2.code==1 then some (1,o2.pay)
  else nd (o2.code==4) (bif hasInt (gd o2.pay 22) (gd o2.pay 25).int then ob false
  else bif hasInt (gd o2.pay 23) (gd o2.pay 25).int then ob false
  else nx [gd o2.pay 0,gd o2.pay 1,gd o2.pay 2,gd o2.pay 3,gd o2.pay 4,gd o2.pay 5,gd o2.pay 6,gd o2.pay 7,gd o2.pay 8,gd o2.pay 9,gd o2.pay 10,.i (w64 ((gd o2.pay 11).int+1)),gd o2.pay 16,gd o2.pay 17,gd o2.pay 18,gd o2.pay 19,gd o2.pay 20,gd o2.pay 21,gd o2.pay 22,gd o2.pay 23,gd o2.pay 24]))))
 else ex 0 [x0,x1,x2,x3,x4,x5,x6,x7,x8,x9,x10,x11,x12,x13,x14,x15,x16,x17,x18,x19,x20]:=by kernel_rfl
theorem s_l13HeldsOkR2 (N:Nat) (p:List D) (x0 x1 x2 x3 x4 x5 x6 x7 x8 x9 x10 x11 x12 x13 x14 x15 x16 x17 x18 x19 x20 x21 x22 x23 x24 x25 x26:D):(s_l13HeldsOkL2 N p) [x0,x1,x2,x3,x4,x5,x6,x7,x8,x9,x10,x11,x12,x13,x14,x15,x16,x17,x18,x19,x20,x21,x22,x23,x24,x25,x26] =
 bif ltI x15.int (x26.rows.length:Int) then nd (inRange x15.int x26.rows.length) (bif !(holds x20 x25 [(gd (x26.rows.getD x15.int.toNat []) 0),.i (w64 ((gd (x26.rows.getD x15.int.toNat []) 0).int+1))] (.i 2)) then ob false
 else nx [x0,x1,x2,x3,x4,x5,x6,x7,x8,x9,x10,x11,x12,x13,x14,.i (w64 (x15.int+1)),x16,x17,x18,x19,x20,x21,x22,x23,x24,x25,x26])
 else ex 2 [x0,x1,x2,x3,x4,x5,x6,x7,x8,x9,x10,x11,x12,x13,x14,x15,x16,x17,x18,x19,x20,x21,x22,x23,x24,x25,x26]:=by kernel_rfl
theorem s_l13HeldsOk_ev (N:Nat) (p:List D):evFn Tryz.prog s_l13HeldsOkT N s_l13HeldsOkK Tryz.f200 rb [⟨ag rIShard,p⟩]=some (bo,
 (let o0:=iter (s_l13HeldsOkL0 N p) N [gd p 0,gd p 1,gd p 2,gd p 3,gd p 4,gd p 5,gd p 6,gd p 7,gd p 8,.i 0,.i 0,.i 0,gd p 0,gd p 1,gd p 2,gd p 3,gd p 4,gd p 5,gd p 6,gd p 7,gd p 8]
  nd o0.isSome (bif o0.code==1 then some (1,o0.pay)
  else nd (o0.code==2) (ob true)))):=by kernel_rfl
def heldRest (p:List D) (k:Nat):Bool:=writesOk (gd ((gd p 5).rows.getD k []) 1)&&((List.range (gd ((gd p 5).rows.getD k []) 1).rows.length).all (fun j=>holds (gd p 4) (gd ((gd p 5).rows.getD k []) 0) (oneAt ((gd ((gd p 5).rows.getD k []) 1).rows.getD j [])) (.i 2))&&(!hasInt (gd p 6) (gd ((gd p 5).rows.getD k []) 0).int && !hasInt (gd p 7) (gd ((gd p 5).rows.getD k []) 0).int))
def heldAtS (p:List D):Nat→Bool
 | 0=>inB (gd ((gd p 5).rows.getD 0 []) 0).int 1 60&&heldRest p 0
 | k+1=>inB (gd ((gd p 5).rows.getD (k+1) []) 0).int 1 60&&(!leI (gd ((gd p 5).rows.getD (k+1) []) 0).int (gd ((gd p 5).rows.getD k []) 0).int&&heldRest p (k+1))
def heldsOkS (p:List D):Bool:=(List.range (gd p 5).rows.length).all (heldAtS p)
theorem writes_len {z:D} (h:writesOk z=true):z.rows.length≤60:=by
 simp only [writesOk,Bool.and_eq_true,decide_eq_true_eq] at h
 omega
theorem heldsU (p:List D) (N:Nat) (hN:61≤N) (x12 x14:D) (k:Nat) (hwo:writesOk (gd ((gd p 5).rows.getD k []) 1)=true) :
  iter (s_l13HeldsOkL2 N p) N [gd p 0,gd p 1,gd p 2,gd p 3,gd p 4,gd p 5,gd p 6,gd p 7,gd p 8,.i 0,.i 0,.i (k:Int),x12,.i 0,x14,.i 0,gd p 0,gd p 1,gd p 2,gd p 3,gd p 4,gd p 5,gd p 6,gd p 7,gd p 8,gd ((gd p 5).rows.getD k []) 0,gd ((gd p 5).rows.getD k []) 1] =
  some (bif (List.range (gd ((gd p 5).rows.getD k []) 1).rows.length).all (fun j=>holds (gd p 4) (gd ((gd p 5).rows.getD k []) 0) (oneAt ((gd ((gd p 5).rows.getD k []) 1).rows.getD j [])) (.i 2)) then (4,[gd p 0,gd p 1,gd p 2,gd p 3,gd p 4,gd p 5,gd p 6,gd p 7,gd p 8,.i 0,.i 0,.i (k:Int),x12,.i 0,x14,.i ((gd ((gd p 5).rows.getD k []) 1).rows.length:Int),gd p 0,gd p 1,gd p 2,gd p 3,gd p 4,gd p 5,gd p 6,gd p 7,gd p 8,gd ((gd p 5).rows.getD k []) 0,gd ((gd p 5).rows.getD k []) 1]) else (1,[.b false])):=by
 have hlw:=writes_len hwo
 have e:=for_loop (L:=s_l13HeldsOkL2 N p) (fun j => [gd p 0,gd p 1,gd p 2,gd p 3,gd p 4,gd p 5,gd p 6,gd p 7,gd p 8,.i 0,.i 0,.i (k:Int),x12,.i 0,x14,.i (j:Int),gd p 0,gd p 1,gd p 2,gd p 3,gd p 4,gd p 5,gd p 6,gd p 7,gd p 8,gd ((gd p 5).rows.getD k []) 0,gd ((gd p 5).rows.getD k []) 1]) (gd ((gd p 5).rows.getD k []) 1).rows.length (fun j=>holds (gd p 4) (gd ((gd p 5).rows.getD k []) 0) (oneAt ((gd ((gd p 5).rows.getD k []) 1).rows.getD j [])) (.i 2)) [.b false] 2 (fun j hj=>?_) ?_ (N:=N) (by omega)
 ·simp only [Int.natCast_zero] at e
  exact e
 ·show s_l13HeldsOkL2 N p [_,_,_,_,_,_,_,_,_,_,_,_,_,_,_,.i (j:Int),_,_,_,_,_,_,_,_,_,_,_]=_
  rw [s_l13HeldsOkR2]
  simp only [int_i,c_lt hj,nd_ix hj,w64_succ hj (show (gd ((gd p 5).rows.getD k []) 1).rows.length≤9223372036854775807 from by omega),Int.toNat_natCast]
  rw [show holds (gd p 4) (gd ((gd p 5).rows.getD k []) 0) [gd ((gd ((gd p 5).rows.getD k []) 1).rows.getD j []) 0,.i (w64 ((gd ((gd ((gd p 5).rows.getD k []) 1).rows.getD j []) 0).int+1))] (.i 2)=holds (gd p 4) (gd ((gd p 5).rows.getD k []) 0) (oneAt ((gd ((gd p 5).rows.getD k []) 1).rows.getD j [])) (.i 2) from rfl]
  cases holds (gd p 4) (gd ((gd p 5).rows.getD k []) 0) (oneAt ((gd ((gd p 5).rows.getD k []) 1).rows.getD j [])) (.i 2) <;> rfl
 ·show s_l13HeldsOkL2 N p [_,_,_,_,_,_,_,_,_,_,_,_,_,_,_,.i ((gd ((gd p 5).rows.getD k []) 1).rows.length:Int),_,_,_,_,_,_,_,_,_,_,_]=_
  rw [s_l13HeldsOkR2]
  simp only [int_i,c_nlt]
def s_l13HeldsOkE:Ent:=(200,e1 (ag rIShard) fun p=>(⟨rb,[.b (heldsOkS p)]⟩,true))
theorem s_l13HeldsOk_ok:EntOk Tryz.prog s_l13HeldsOkE:=e1_ok fun p h=>evFn_sound (N:=(gd p 5).rows.length+61) (ks:=s_l13HeldsOkK) (key:=bo) s_l13HeldsOkT_ok (enters Tryz.func200) Tryz.func200 fun hw=>by
 rw [s_l13HeldsOk_ev]
 have hl:=wt_at (hw ⟨ag rIShard,p⟩ (by simp)) (j:=5) rfl
 have e:=for_loop (L:=s_l13HeldsOkL0 ((gd p 5).rows.length+61) p) (fun k => [gd p 0,gd p 1,gd p 2,gd p 3,gd p 4,gd p 5,gd p 6,gd p 7,gd p 8,.i 0,.i 0,.i (k:Int),gd p 0,gd p 1,gd p 2,gd p 3,gd p 4,gd p 5,gd p 6,gd p 7,gd p 8]) (gd p 5).rows.length (heldAtS p) [.b false] 0 (fun k hk=>?_) ?_ (N:=(gd p 5).rows.length+61) (by omega)
 ·simp only [Int.natCast_zero] at e
  rw [e]
  unfold heldsOkS
  cases (List.range (gd p 5).rows.length).all (heldAtS p) <;> rfl
 ·cases k with
  | zero =>
   show s_l13HeldsOkL0 _ p [_,_,_,_,_,_,_,_,_,_,_,.i ((0:Nat):Int),_,_,_,_,_,_,_,_,_]=_
   rw [s_l13HeldsOkR0]
   simp only [int_i,ltI_nat hk,cond_true,nd_ix hk,Int.toNat_natCast,ltI_00,cond_false,heldAtS,heldRest]
   cases inB (gd ((gd p 5).rows.getD 0 []) 0).int 1 60 <;> try rfl
   cases hwo:writesOk (gd ((gd p 5).rows.getD 0 []) 1) <;> try rfl
   simp only [Bool.not_true,cond_false,heldsU p _ (show 61≤(gd p 5).rows.length+61 from by omega) _ _ 0 hwo]
   cases (List.range (gd ((gd p 5).rows.getD 0 []) 1).rows.length).all (fun j=>holds (gd p 4) (gd ((gd p 5).rows.getD 0 []) 0) (oneAt ((gd ((gd p 5).rows.getD 0 []) 1).rows.getD j [])) (.i 2)) <;> try rfl
   simp only [nd,cond_true,cond_false,Option.isSome_some,Out.code,Out.pay,Option.getD_some,gd_cons_zero,gd_cons_succ,Nat.reduceBEq,Nat.reduceAdd,int_i,bool_b,str_s,rows_l,Bool.not_true,Bool.not_false,beq_self_eq_true,w64_succ hk hl]
   cases hasInt (gd p 6) (gd ((gd p 5).rows.getD 0 []) 0).int <;> cases hasInt (gd p 7) (gd ((gd p 5).rows.getD 0 []) 0).int <;> rfl
  | succ k =>
   show s_l13HeldsOkL0 _ p [_,_,_,_,_,_,_,_,_,_,_,.i ((k+1:Nat):Int),_,_,_,_,_,_,_,_,_]=_
   rw [s_l13HeldsOkR0]
   simp only [int_i,ltI_nat hk,cond_true,nd_ix hk,Int.toNat_natCast,ltI_0s,w64_pred (show k+1≤9223372036854775807 from by omega),nd_ix (Nat.lt_of_succ_lt hk),heldAtS,heldRest]
   cases inB (gd ((gd p 5).rows.getD (k+1) []) 0).int 1 60 <;> try rfl
   cases leI (gd ((gd p 5).rows.getD (k+1) []) 0).int (gd ((gd p 5).rows.getD k []) 0).int <;> try rfl
   cases hwo:writesOk (gd ((gd p 5).rows.getD (k+1) []) 1) <;> try rfl
   simp only [Bool.not_true,cond_false,heldsU p _ (show 61≤(gd p 5).rows.length+61 from by omega) _ _ (k+1) hwo]
   cases (List.range (gd ((gd p 5).rows.getD (k+1) []) 1).rows.length).all (fun j=>holds (gd p 4) (gd ((gd p 5).rows.getD (k+1) []) 0) (oneAt ((gd ((gd p 5).rows.getD (k+1) []) 1).rows.getD j [])) (.i 2)) <;> try rfl
   simp only [nd,cond_true,cond_false,Option.isSome_some,Out.code,Out.pay,Option.getD_some,gd_cons_zero,gd_cons_succ,Nat.reduceBEq,Nat.reduceAdd,int_i,bool_b,str_s,rows_l,Bool.not_true,Bool.not_false,beq_self_eq_true,w64_succ hk hl]
   cases hasInt (gd p 6) (gd ((gd p 5).rows.getD (k+1) []) 0).int <;> cases hasInt (gd p 7) (gd ((gd p 5).rows.getD (k+1) []) 0).int <;> rfl
 ·show s_l13HeldsOkL0 _ p [_,_,_,_,_,_,_,_,_,_,_,.i ((gd p 5).rows.length:Int),_,_,_,_,_,_,_,_,_]=_
  rw [s_l13HeldsOkR0]
  simp only [int_i,c_nlt]
end Go.Proofs.YtpdfmcmnjikppaaGreat
namespace Go.Proofs.YtpdfmcmnjikppaaGreat
set_option maxRecDepth 4096
set_option maxHeartbeats 1000000
end Go.Proofs.YtpdfmcmnjikppaaGreat
namespace Go.Proofs.YtpdfmcmnjikppaaGreat
set_option maxRecDepth 4096
set_option maxHeartbeats 1000000
abbrev i_cellFor_1T:FuncId→List T→Option (T × Bool):=find []
theorem i_cellFor_1T_ok:CallOk Tryz.prog i_cellFor_1T:=find_ok (fN)
abbrev i_cellFor_1K:List Nat:= [0,1,2,4]
theorem i_cellFor_1_ev (N:Nat) (p q:List D):evFn Tryz.prog i_cellFor_1T N i_cellFor_1K Tryz.f274 ri [⟨ag rICell,p⟩,⟨ri,q⟩]=some (bo,
 oi (w64 ((gd p 0).int - (gd q 0).int))):=by kernel_rfl
def i_cellFor_1E:Ent:=(274,e2 (ag rICell) ri fun p q=>(⟨ri,[.i (w64 ((gd p 0).int - (gd q 0).int))]⟩,true))
theorem i_cellFor_1_ok:EntOk Tryz.prog i_cellFor_1E:=e2_ok fun p q h=>evFn_sound (N:=0) (ks:=i_cellFor_1K) (key:=bo) i_cellFor_1T_ok (enters Tryz.func274) Tryz.func274 fun hw=>by
 rw [i_cellFor_1_ev]
 skip
abbrev bsCT:FuncId→List T→Option (T × Bool):=find [i_cellFor_1E]
theorem bsCT_ok:CallOk Tryz.prog bsCT:=find_ok (fC ⟨i_cellFor_1_ok,fN⟩)
abbrev bsCK:List Nat:= [0,1,2,6,7,8,9,10,11,17,31]
noncomputable def bsCL0 (N:Nat) (p q r:List D):List D→Out:=loopOf Tryz.prog bsCT N bsCK Tryz.f273 (.tup [.c (.d si),.c (.d (.bool))]) [⟨sd (.sl 108),p⟩,⟨ri,q⟩,⟨.one (.c (.fn 274 [])),r⟩] 0
theorem bsCR0 (N:Nat) (p q r:List D) (x0 x1 x2 x3 x4 x5 x6 x7:D):(bsCL0 N p q r) [x0,x1,x2,x3,x4,x5,x6,x7] =
 bif ltI x6.int x7.int then nd (leI 0 1) (nd (inRange (w64 ((IntKind.u64.wrap (w64 (x6.int+x7.int))).fdiv (2 ^ (min 1 64)))) x0.rows.length) (bif ltI (w64 ((gd (x0.rows.getD (w64 ((IntKind.u64.wrap (w64 (x6.int+x7.int))).fdiv (2 ^ (min 1 64)))).toNat []) 0).int - x1.int)) 0 then nx [x0,x1,x2,x3,x4,x5,.i (w64 ((w64 ((IntKind.u64.wrap (w64 (x6.int+x7.int))).fdiv (2 ^ (min 1 64))))+1)),x7]
 else nx [x0,x1,x2,x3,x4,x5,x6,.i (w64 ((IntKind.u64.wrap (w64 (x6.int+x7.int))).fdiv (2 ^ (min 1 64))))]))
 else ex 0 [x0,x1,x2,x3,x4,x5,x6,x7]:=by kernel_rfl
noncomputable def bsCs0 (N:Nat) (p q r:List D):Out:=let o0:=iter (bsCL0 N p q r) N [gd p 0,gd q 0,gd r 0,.i 0,.i 0,.i ((gd p 0).rows.length:Int),.i 0,.i ((gd p 0).rows.length:Int)]; nd o0.isSome (nd (o0.code==2) (bif ltI (gd o0.pay 6).int (gd o0.pay 5).int then nd (inRange (gd o0.pay 6).int (gd o0.pay 0).rows.length) (some (1,[gd o0.pay 6,.b ((w64 ((gd ((gd o0.pay 0).rows.getD (gd o0.pay 6).int.toNat []) 0).int - (gd o0.pay 1).int))==0)])) else some (1,[gd o0.pay 6,.b false])))
theorem bsC_ev (N:Nat) (p q r:List D):evFn Tryz.prog bsCT N bsCK Tryz.f273 (.tup [.c (.d si),.c (.d (.bool))]) [⟨sd (.sl 108),p⟩,⟨ri,q⟩,⟨.one (.c (.fn 274 [])),r⟩]=some (bo,(bsCs0 N p q r)):=by kernel_rfl
def keyAt (z:D) (k:Nat):Int:=(gd (z.rows.getD k []) 0).int
def lowN (z:D) (t:Int):Nat:=cnt (fun k=>ltI (keyAt z k) t) 0 z.rows.length
def bsB (z:D) (t:Int):Bool:=ltI (lowN z t:Int) (z.rows.length:Int)&&(keyAt z (lowN z t)==t)
theorem cnt_add (C:Nat→Bool):∀ b k a,cnt C k (a+b)=cnt C k a+cnt C (k+a) b
 | 0,k,a=>rfl
 | b+1,k,a=>by
  rw [← Nat.add_assoc,cnt_succ,cnt_succ,cnt_add C b k a,Nat.add_assoc,Nat.add_assoc]
theorem cnt_yes {C:Nat→Bool}:∀ m k,(∀ j,j<m→C (k+j)=true)→cnt C k m=m
 | 0,_,_=>rfl
 | m+1,k,h=>by rw [cnt_succ,cnt_yes m k (fun j hj=>h j (by omega)),h m (by omega)]; rfl
theorem cnt_no {C:Nat→Bool}:∀ m k,(∀ j,j<m→C (k+j)=false)→cnt C k m=0
 | 0,_,_=>rfl
 | m+1,k,h=>by rw [cnt_succ,cnt_no m k (fun j hj=>h j (by omega)),h m (by omega)]; rfl
theorem lowN_eq {z:D} {t:Int} {i:Nat} (hi:i≤z.rows.length) (h1:∀ k,k<i→keyAt z k<t) (h2:∀ k,i≤k→k<z.rows.length→t≤keyAt z k):lowN z t=i:=by
 unfold lowN
 obtain ⟨m,hm⟩:∃ m,z.rows.length=i+m:=⟨z.rows.length - i,by omega⟩
 rw [hm,cnt_add,cnt_yes i 0 (fun j hj=>by rw [Nat.zero_add]; exact ltI_t (h1 j hj)),cnt_no m (0+i) (fun j hj=>by rw [Nat.zero_add]; exact ltI_f (h2 (i+j) (by omega) (by omega)))]
 omega
structure Sorted (z:D):Prop where
 len:z.rows.length≤60
 key:∀ k,k<z.rows.length→0≤keyAt z k∧keyAt z k≤999
 lt:∀ i j,i<j→j<z.rows.length→keyAt z i<keyAt z j
theorem store_sorted {z:D} (h:storeOk z=true):Sorted z:=by
 simp only [storeOk,Bool.and_eq_true,List.all_eq_true,List.mem_range,leI,decide_eq_true_eq] at h
 obtain ⟨h,hl⟩:=h
 refine ⟨by omega,fun k hk=>?_,fun i j hij hj=>?_⟩
 ·have:=h k hk
  cases k with
  | zero=>simp only [storeAt,Bool.and_eq_true,inB,decide_eq_true_eq] at this; exact ⟨this.1.1,this.1.2⟩
  | succ k=>simp only [storeAt,Bool.and_eq_true,inB,decide_eq_true_eq] at this; exact ⟨this.1.1,this.1.2⟩
 ·obtain ⟨d,rfl⟩:∃ d,j=i+d+1:=⟨j - i - 1,by omega⟩
  have hs:∀ k,k+1<z.rows.length→keyAt z k<keyAt z (k+1):=fun k hk=>by
   have:=h (k+1) hk
   simp only [storeAt,Bool.and_eq_true,leI,Bool.not_eq_true',decide_eq_false_iff_not] at this
   unfold keyAt
   omega
  clear hij
  induction d with
  | zero=>exact hs i hj
  | succ d ih=>exact Int.lt_trans (ih (by omega)) (hs (i+d+1) hj)
theorem u64_id {x:Int} (h:0≤x) (h':x≤9223372036854775807):IntKind.u64.wrap x=x:=by
 simp only [IntKind.wrap,IntKind.signed,IntKind.bits]
 simp
 omega
theorem half {i j:Nat} (h:i+j≤1000):w64 ((IntKind.u64.wrap (w64 ((i:Int)+(j:Int)))).fdiv (2 ^ (min 1 64)))=(((i+j) / 2:Nat):Int):=by
 rw [w64_id (x:=(i:Int)+j) (by omega) (by omega),u64_id (by omega) (by omega),show ((2:Int) ^ (min 1 64))=((2:Nat):Int) from rfl,show ((i:Int)+(j:Int))=((i+j:Nat):Int) from by omega,← Int.ofNat_fdiv,w64_id (by omega) (by omega)]
theorem bs_loop (p q r:List D) (N:Nat) (hz:Sorted (gd p 0)) (ht:inB (gd q 0).int 0 999=true):∀ (d i j M:Nat),j=i+d→j≤(gd p 0).rows.length→d<M→(∀ k,k<i→keyAt (gd p 0) k<(gd q 0).int)→(∀ k,j≤k→k<(gd p 0).rows.length→(gd q 0).int≤keyAt (gd p 0) k) →
  iter (bsCL0 N p q r) M [gd p 0,gd q 0,gd r 0,.i 0,.i 0,.i ((gd p 0).rows.length:Int),.i (i:Int),.i (j:Int)]=some (2,[gd p 0,gd q 0,gd r 0,.i 0,.i 0,.i ((gd p 0).rows.length:Int),.i (lowN (gd p 0) (gd q 0).int:Int),.i (lowN (gd p 0) (gd q 0).int:Int)]):=by
 intro d
 induction d using Nat.strongRecOn with
 | _ d ih =>
 intro i j M hj hn hM h1 h2
 have hlen:=hz.len
 simp only [inB,Bool.and_eq_true,decide_eq_true_eq] at ht
 obtain ⟨M,rfl⟩:∃ M',M=M'+1:=⟨M - 1,by omega⟩
 rw [iter,bsCR0]
 simp only [int_i]
 by_cases hd:d=0
 ·subst hd
  obtain rfl:j=i:=by omega
  rw [c_nlt,lowN_eq hn h1 h2]
  rfl
 ·rw [c_lt (show i<j from by omega)]
  have hh:(i+j) / 2<(gd p 0).rows.length:=by omega
  simp only [half (show i+j≤1000 from by omega),nd_ix hh,Int.toNat_natCast,show leI 0 1=true from rfl,nd_true]
  have hk:=hz.key _ hh
  rw [show (gd ((gd p 0).rows.getD ((i+j) / 2) []) 0).int=keyAt (gd p 0) ((i+j) / 2) from rfl,w64_id (x:=keyAt (gd p 0) ((i+j) / 2) - (gd q 0).int) (by omega) (by omega)]
  by_cases hc:keyAt (gd p 0) ((i+j) / 2)<(gd q 0).int
  ·rw [ltI_t (show keyAt (gd p 0) ((i+j) / 2) - (gd q 0).int<0 from by omega),cond_true]
   simp only [w64_succ hh (show (gd p 0).rows.length≤9223372036854775807 from by omega)]
   exact ih (j - ((i+j) / 2+1)) (by omega) ((i+j) / 2+1) j M (by omega) hn (by omega) (fun k hk'=>by
    rcases Nat.lt_or_ge k ((i+j) / 2) with h | h
    ·have:=hz.lt k _ h hh; omega
    ·obtain rfl:k=(i+j) / 2:=by omega
     exact hc) h2
  ·rw [ltI_f (show 0≤keyAt (gd p 0) ((i+j) / 2) - (gd q 0).int from by omega),cond_false]
   exact ih ((i+j) / 2 - i) (by omega) i ((i+j) / 2) M (by omega) (by omega) (by omega) h1 (fun k hk1 hk2=>by
    rcases Nat.lt_or_ge ((i+j) / 2) k with h | h
    ·have:=hz.lt _ k h hk2; omega
    ·obtain rfl:k=(i+j) / 2:=by omega
     omega)
def bsCE:Ent:=(273,e3 (sd (.sl 108)) ri (.one (.c (.fn 274 []))) fun p q r=>(⟨.tup [.c (.d si),.c (.d (.bool))],[.i (lowN (gd p 0) (gd q 0).int:Int),.b (bsB (gd p 0) (gd q 0).int)]⟩,storeOk (gd p 0)&&inB (gd q 0).int 0 999))
theorem bsC_ok:EntOk Tryz.prog bsCE:=e3_ok fun p q r h=>evFn_sound (N:=61) (ks:=bsCK) (key:=bo) bsCT_ok (enters Tryz.func273) Tryz.func273 fun hw=>by
 rw [bsC_ev]
 have h:(storeOk (gd p 0)&&inB (gd q 0).int 0 999)=true:=h
 simp only [Bool.and_eq_true] at h
 have hz:=store_sorted h.1
 have hlen:=hz.len
 have e:=bs_loop p q r 61 hz h.2 (gd p 0).rows.length 0 (gd p 0).rows.length 61 (by omega) (Nat.le_refl _) (by omega) (fun k hk=>absurd hk (Nat.not_lt_zero _)) (fun k h1 h2=>absurd h2 (by omega))
 simp only [Int.natCast_zero] at e
 unfold bsCs0
 rw [e]
 simp only [nd,cond_true,cond_false,Option.isSome_some,Out.code,Out.pay,Option.getD_some,gd_cons_zero,gd_cons_succ,Nat.reduceBEq,Nat.reduceAdd,int_i,bool_b,str_s,rows_l,Bool.not_true,Bool.not_false,beq_self_eq_true]
 unfold bsB
 have ht:=h.2
 simp only [inB,Bool.and_eq_true,decide_eq_true_eq] at ht
 by_cases hb:lowN (gd p 0) (gd q 0).int<(gd p 0).rows.length
 ·have hk:=hz.key _ hb
  rw [ltI_nat hb,inRange_nat hb,Int.toNat_natCast,show (gd ((gd p 0).rows.getD (lowN (gd p 0) (gd q 0).int) []) 0).int=keyAt (gd p 0) (lowN (gd p 0) (gd q 0).int) from rfl,w64_id (x:=keyAt (gd p 0) (lowN (gd p 0) (gd q 0).int) - (gd q 0).int) (by omega) (by omega)]
  rw [show (keyAt (gd p 0) (lowN (gd p 0) (gd q 0).int) - (gd q 0).int==0)=(keyAt (gd p 0) (lowN (gd p 0) (gd q 0).int)==(gd q 0).int) from by
   rw [Bool.eq_iff_iff]; simp only [beq_iff_eq]; omega]
  rfl
 ·rw [ltI_f (show ((gd p 0).rows.length:Int)≤(lowN (gd p 0) (gd q 0).int:Int) from by omega)]
  rfl
abbrev i_cellForT:FuncId→List T→Option (T × Bool):=find [bsCE]
theorem i_cellForT_ok:CallOk Tryz.prog i_cellForT:=find_ok (fC ⟨bsC_ok,fN⟩)
abbrev i_cellForK:List Nat:= [0,1,4,5]
theorem i_cellFor_ev (N:Nat) (p q:List D):evFn Tryz.prog i_cellForT N i_cellForK Tryz.f244 (.tup [.c (.d si),.c (.d (.bool))]) [⟨sd (.sl 108),p⟩,⟨ri,q⟩]=some (bo,
 nd (storeOk (gd p 0)&&inB (gd q 0).int 0 999) (some (1,[.i (lowN (gd p 0) (gd q 0).int:Int),.b (bsB (gd p 0) (gd q 0).int)]))):=by kernel_rfl
def i_cellForE:Ent:=(244,e2 (sd (.sl 108)) ri fun p q=>(⟨.tup [.c (.d si),.c (.d (.bool))],[.i (lowN (gd p 0) (gd q 0).int:Int),.b (bsB (gd p 0) (gd q 0).int)]⟩,storeOk (gd p 0)&&inB (gd q 0).int 0 999))
theorem i_cellFor_ok:EntOk Tryz.prog i_cellForE:=e2_ok fun p q h=>evFn_sound (N:=0) (ks:=i_cellForK) (key:=bo) i_cellForT_ok (enters Tryz.func244) Tryz.func244 fun hw=>by
 rw [i_cellFor_ev]
 have h:(storeOk (gd p 0)&&inB (gd q 0).int 0 999)=true:=h
 rw [h,nd_true]
abbrev i_valueOfT:FuncId→List T→Option (T × Bool):=find [i_cellForE]
theorem i_valueOfT_ok:CallOk Tryz.prog i_valueOfT:=find_ok (fC ⟨i_cellFor_ok,fN⟩)
abbrev i_valueOfK:List Nat:= [0,1,4,5,6,14]
theorem i_valueOf_ev (N:Nat) (p q:List D):evFn Tryz.prog i_valueOfT N i_valueOfK Tryz.f175 ri [⟨sd (.sl 108),p⟩,⟨ri,q⟩]=some (bo,
 nd (storeOk (gd p 0)&&inB (gd q 0).int 0 999) (bif !(bsB (gd p 0) (gd q 0).int) then oi (-1)
 else nd (inRange (lowN (gd p 0) (gd q 0).int:Int) (gd p 0).rows.length) (some (1,[gd ((gd p 0).rows.getD (lowN (gd p 0) (gd q 0).int:Int).toNat []) 1])))):=by kernel_rfl
def valD (z:D) (t:Int):D:=bif bsB z t then gd (z.rows.getD (lowN z t) []) 1 else .i (-1)
def i_valueOfE:Ent:=(175,e2 (sd (.sl 108)) ri fun p q=>(⟨ri,[valD (gd p 0) (gd q 0).int]⟩,storeOk (gd p 0)&&inB (gd q 0).int 0 999))
theorem i_valueOf_ok:EntOk Tryz.prog i_valueOfE:=e2_ok fun p q h=>evFn_sound (N:=0) (ks:=i_valueOfK) (key:=bo) i_valueOfT_ok (enters Tryz.func175) Tryz.func175 fun hw=>by
 rw [i_valueOf_ev]
 have h:(storeOk (gd p 0)&&inB (gd q 0).int 0 999)=true:=h
 rw [h,nd_true]
 unfold valD
 cases hb:bsB (gd p 0) (gd q 0).int
 ·rfl
 ·have hb':=hb
  simp only [bsB,Bool.and_eq_true,ltI,decide_eq_true_eq] at hb'
  rw [inRange_nat (show lowN (gd p 0) (gd q 0).int<(gd p 0).rows.length from by omega)]
  rfl
abbrev s_l11GetT:FuncId→List T→Option (T × Bool):=find []
theorem s_l11GetT_ok:CallOk Tryz.prog s_l11GetT:=find_ok (fN)
abbrev s_l11GetK:List Nat:= [0,1,4,5,9,18]
noncomputable def s_l11GetL0 (N:Nat) (p q:List D):List D→Out:=loopOf Tryz.prog s_l11GetT N s_l11GetK Tryz.f206 ri [⟨sd (.sl 108),p⟩,⟨ri,q⟩] 0
theorem s_l11GetR0 (N:Nat) (p q:List D) (x0 x1 x2 x3:D):(s_l11GetL0 N p q) [x0,x1,x2,x3] =
 bif ltI x3.int (x0.rows.length:Int) then nd (inRange x3.int x0.rows.length) (bif (gd (x0.rows.getD x3.int.toNat []) 0).int==x1.int then nd (inRange x3.int x0.rows.length) (some (1,[gd (x0.rows.getD x3.int.toNat []) 1]))
 else nx [x0,x1,x2,.i (w64 (x3.int+1))])
 else ex 0 [x0,x1,x2,x3]:=by kernel_rfl
theorem s_l11Get_ev (N:Nat) (p q:List D):evFn Tryz.prog s_l11GetT N s_l11GetK Tryz.f206 ri [⟨sd (.sl 108),p⟩,⟨ri,q⟩]=some (bo,
 (let o0:=iter (s_l11GetL0 N p q) N [gd p 0,gd q 0,.i 0,.i 0]
  nd o0.isSome (bif o0.code==1 then some (1,o0.pay)
  else nd (o0.code==2) (oi (-1))))):=by kernel_rfl
theorem scan_at {ex:Nat→Option (Nat × List D)} {o:Nat × List D}:∀ (m k i:Nat),i<m→ex (k+i)=some o→(∀ j,j<i→ex (k+j)=none)→scan ex k m=some o
 | 0,_,_,h,_,_=>absurd h (Nat.not_lt_zero _)
 | m+1,k,0,_,h,_=>by rw [scan,show ex k=some o from h]
 | m+1,k,i+1,hi,h,hn=>by
  rw [scan,show ex k=none from hn 0 (by omega)]
  exact scan_at m (k+1) i (by omega) (by rw [show k+1+i=k+(i+1) from by omega]; exact h) fun j hj=>by rw [show k+1+j=k+(j+1) from by omega]; exact hn (j+1) (by omega)
theorem scan_no {ex:Nat→Option (Nat × List D)}:∀ (m k:Nat),(∀ j,j<m→ex (k+j)=none)→scan ex k m=none
 | 0,_,_=>rfl
 | m+1,k,h=>by
  rw [scan,show ex k=none from h 0 (by omega)]
  exact scan_no m (k+1) fun j hj=>by rw [show k+1+j=k+(j+1) from by omega]; exact h (j+1) (by omega)
def s_l11GetE:Ent:=(206,e2 (sd (.sl 108)) ri fun p q=>(⟨ri,[valD (gd p 0) (gd q 0).int]⟩,storeOk (gd p 0)))
theorem s_l11Get_ok:EntOk Tryz.prog s_l11GetE:=e2_ok fun p q h=>evFn_sound (N:=61) (ks:=s_l11GetK) (key:=bo) s_l11GetT_ok (enters Tryz.func206) Tryz.func206 fun hw=>by
 rw [s_l11Get_ev]
 have h:storeOk (gd p 0)=true:=h
 have hz:=store_sorted h
 have hlen:=hz.len
 have e:=iter_scan (step:=s_l11GetL0 61 p q) (fun k => [gd p 0,gd q 0,.i 0,.i (k:Int)]) (fun k=>bif keyAt (gd p 0) k==(gd q 0).int then some (1,[gd ((gd p 0).rows.getD k []) 1]) else none) (2,[gd p 0,gd q 0,.i 0,.i ((gd p 0).rows.length:Int)]) (n:=(gd p 0).rows.length) (fun k hk=>?_) (fun k o h=>?_) ?_ (by simp) (gd p 0).rows.length 0 61 (by omega) (by omega)
 ·simp only [Int.natCast_zero] at e
  rw [e]
  unfold valD
  cases hb:bsB (gd p 0) (gd q 0).int
  ·rw [scan_no _ _ fun j hj=>?_]
   ·rfl
   ·rw [Nat.zero_add]
    cases hk:keyAt (gd p 0) j==(gd q 0).int
    ·rfl
    ·have hk:=eq_of_beq hk
     have hl:lowN (gd p 0) (gd q 0).int=j:=lowN_eq (by omega) (fun k hkj=>by have:=hz.lt k j hkj hj; omega) (fun k h1 h2=>by
      rcases Nat.lt_or_ge j k with h | h
      ·have:=hz.lt j k h h2; omega
      ·obtain rfl:k=j:=by omega
       omega)
     unfold bsB at hb
     rw [hl,ltI_nat hj,hk,beq_self_eq_true] at hb
     cases hb
  ·simp only [bsB,Bool.and_eq_true,ltI,decide_eq_true_eq] at hb
   have hlt:lowN (gd p 0) (gd q 0).int<(gd p 0).rows.length:=by omega
   rw [scan_at _ _ (lowN (gd p 0) (gd q 0).int) hlt (by rw [Nat.zero_add,hb.2]; rfl) fun j hj=>?_]
   ·rfl
   ·rw [Nat.zero_add,show (keyAt (gd p 0) j==(gd q 0).int)=false from beq_eq_false_iff_ne.2 (by
     have:=hz.lt j _ hj hlt
     have:=eq_of_beq hb.2
     omega)]
    rfl
 ·show s_l11GetL0 _ p q [_,_,_,.i (k:Int)]=_
  rw [s_l11GetR0]
  simp only [int_i,c_lt hk,nd_ix hk,w64_succ hk (show (gd p 0).rows.length≤9223372036854775807 from by omega),Int.toNat_natCast]
  rw [show (gd ((gd p 0).rows.getD k []) 0).int=keyAt (gd p 0) k from rfl]
  cases keyAt (gd p 0) k==(gd q 0).int <;> rfl
 ·cases hc:keyAt (gd p 0) k==(gd q 0).int
  ·rw [hc] at h; cases h
  ·rw [hc,cond_true] at h
   injection h with h
   rw [← h]; simp
 ·show s_l11GetL0 _ p q [_,_,_,.i ((gd p 0).rows.length:Int)]=_
  rw [s_l11GetR0]
  simp only [int_i,c_nlt]
end Go.Proofs.YtpdfmcmnjikppaaGreat
namespace Go.Proofs.YtpdfmcmnjikppaaGreat
set_option maxRecDepth 4096
set_option maxHeartbeats 1000000
abbrev i_StoreNewT:FuncId→List T→Option (T × Bool):=find [i_StoreOkE,i_WritesOkE,i_valueOfE]
theorem i_StoreNewT_ok:CallOk Tryz.prog i_StoreNewT:=find_ok (fC ⟨i_StoreOk_ok,fC ⟨i_WritesOk_ok,fC ⟨i_valueOf_ok,fN⟩⟩⟩)
abbrev i_StoreNewK:List Nat:= [0,1,4,5,7,15,16,17,18,19,31]
noncomputable def i_StoreNewL0 (N:Nat) (p q:List D):List D→Out:=loopOf Tryz.prog i_StoreNewT N i_StoreNewK Tryz.f115 ri [⟨sd (.sl 108),p⟩,⟨sd (.sl 70),q⟩] 0
theorem i_StoreNewR0 (N:Nat) (p q:List D) (x0 x1 x2 x3 x4 x5 x6 x7:D):(i_StoreNewL0 N p q) [x0,x1,x2,x3,x4,x5,x6,x7] =
 bif ltI x7.int x6.int then nd (inRange x7.int x5.rows.length) (bif (gd (x5.rows.getD x7.int.toNat []) 1).int != (-1) then nd (storeOk x0&&inB (gd (x5.rows.getD x7.int.toNat []) 0).int 0 999) (bif ltI (valD x0 (gd (x5.rows.getD x7.int.toNat []) 0).int).int 0 then nx [x0,x1,x2,x3,.i (w64 (x4.int+1)),x5,x6,.i (w64 (x7.int+1))]
 else nx [x0,x1,x2,x3,x4,x5,x6,.i (w64 (x7.int+1))])
 else nx [x0,x1,x2,x3,x4,x5,x6,.i (w64 (x7.int+1))])
 else ex 0 [x0,x1,x2,x3,x4,x5,x6,x7]:=by kernel_rfl
theorem i_StoreNew_ev (N:Nat) (p q:List D):evFn Tryz.prog i_StoreNewT N i_StoreNewK Tryz.f115 ri [⟨sd (.sl 108),p⟩,⟨sd (.sl 70),q⟩]=some (bo,
 bif !(storeOk (gd p 0)) then oi (-1)
 else bif !(writesOk (gd q 0)) then oi (-1)
 else (let o0:=iter (i_StoreNewL0 N p q) N [gd p 0,gd q 0,.i 0,.b (!(writesOk (gd q 0))),.i 0,gd q 0,.i ((gd q 0).rows.length:Int),.i 0]
  nd o0.isSome (nd (o0.code==2) (some (1,[gd o0.pay 4]))))):=by kernel_rfl
def newAt (z w:D) (k:Nat):Bool:=leI 0 (gd (w.rows.getD k []) 1).int&&ltI (valD z (gd (w.rows.getD k []) 0).int).int 0
def storeNew (z w:D):Int:=bif storeOk z then bif writesOk w then (cnt (newAt z w) 0 w.rows.length:Int) else -1 else -1
theorem write_at {w:D} (h:writesOk w=true) {k:Nat} (hk:k<w.rows.length):w.rows.length≤60∧inB (gd (w.rows.getD k []) 0).int 0 999=true∧((gd (w.rows.getD k []) 1).int != (-1))=leI 0 (gd (w.rows.getD k []) 1).int:=by
 simp only [writesOk,Bool.and_eq_true,List.all_eq_true,List.mem_range,decide_eq_true_eq] at h
 obtain ⟨hl,h⟩:=h
 have:=h k hk
 simp only [writeAt,Bool.and_eq_true] at this
 refine ⟨by omega,this.1,?_⟩
 have h2:=this.2.1
 simp only [inB,Bool.and_eq_true,decide_eq_true_eq] at h2
 rw [Bool.eq_iff_iff]
 simp only [bne_iff_ne,ne_eq,leI,decide_eq_true_eq]
 omega
theorem writes_len60 {w:D} (h:writesOk w=true):w.rows.length≤60:=by
 simp only [writesOk,Bool.and_eq_true,decide_eq_true_eq] at h
 omega
theorem new_step (z w:D) (k:Nat) (h:k<1000):(cnt (newAt z w) 0 (k+1):Int)=bif newAt z w k then w64 ((cnt (newAt z w) 0 k:Int)+1) else (cnt (newAt z w) 0 k:Int):=by
 have:=cnt_le (newAt z w) k 0
 rw [cnt_succ,Nat.zero_add]
 cases newAt z w k
 ·rfl
 ·rw [cond_true,cond_true,w64_id (by omega) (by omega)]; omega
def i_StoreNewE:Ent:=(115,e2 (sd (.sl 108)) (sd (.sl 70)) fun p q=>(⟨ri,[.i (storeNew (gd p 0) (gd q 0))]⟩,true))
theorem i_StoreNew_ok:EntOk Tryz.prog i_StoreNewE:=e2_ok fun p q h=>evFn_sound (N:=61) (ks:=i_StoreNewK) (key:=bo) i_StoreNewT_ok (enters Tryz.func115) Tryz.func115 fun hw=>by
 rw [i_StoreNew_ev]
 unfold storeNew
 cases hz:storeOk (gd p 0)
 ·rfl
 cases hw:writesOk (gd q 0)
 ·rfl
 have hlen:=writes_len60 hw
 simp only [Bool.not_true,cond_false,cond_true]
 have e:=run_loop (L:=i_StoreNewL0 61 p q) (fun k => [gd p 0,gd q 0,.i 0,.b false,.i (cnt (newAt (gd p 0) (gd q 0)) 0 k:Int),gd q 0,.i ((gd q 0).rows.length:Int),.i (k:Int)]) (gd q 0).rows.length 0 (fun k hk=>?_) ?_ (N:=61) (by omega)
 ·simp only [Int.natCast_zero,cnt_zero] at e
  rw [e]
  rfl
 ·show i_StoreNewL0 _ p q [_,_,_,_,_,_,_,.i (k:Int)]=_
  rw [i_StoreNewR0]
  obtain ⟨_,hk2,hk3⟩:=write_at hw hk
  simp only [int_i,c_lt hk,nd_ix hk,w64_succ hk (show (gd q 0).rows.length≤9223372036854775807 from by omega),Int.toNat_natCast]
  rw [hz,hk2,hk3,new_step _ _ _ (show k<1000 from by omega)]
  unfold newAt
  cases leI 0 (gd ((gd q 0).rows.getD k []) 1).int <;> cases ltI (valD (gd p 0) (gd ((gd q 0).rows.getD k []) 0).int).int 0 <;> rfl
 ·show i_StoreNewL0 _ p q [_,_,_,_,_,_,.i ((gd q 0).rows.length:Int),.i ((gd q 0).rows.length:Int)]=_
  rw [i_StoreNewR0]
  simp only [int_i,c_nlt]
abbrev s_StoreNewT:FuncId→List T→Option (T × Bool):=find [s_StoreOkE,s_WritesOkE,s_l11GetE]
theorem s_StoreNewT_ok:CallOk Tryz.prog s_StoreNewT:=find_ok (fC ⟨s_StoreOk_ok,fC ⟨s_WritesOk_ok,fC ⟨s_l11Get_ok,fN⟩⟩⟩)
abbrev s_StoreNewK:List Nat:= [0,1,4,5,6,14,18,36]
noncomputable def s_StoreNewL0 (N:Nat) (p q:List D):List D→Out:=loopOf Tryz.prog s_StoreNewT N s_StoreNewK Tryz.f103 ri [⟨sd (.sl 108),p⟩,⟨sd (.sl 70),q⟩] 0
theorem s_StoreNewR0 (N:Nat) (p q:List D) (x0 x1 x2 x3 x4 x5:D):(s_StoreNewL0 N p q) [x0,x1,x2,x3,x4,x5] =
 bif ltI x5.int (x1.rows.length:Int) then nd (inRange x5.int x1.rows.length) (bif leI 0 (gd (x1.rows.getD x5.int.toNat []) 1).int then nd (inRange x5.int x1.rows.length) (nd (storeOk x0) (bif ltI (valD x0 (gd (x1.rows.getD x5.int.toNat []) 0).int).int 0 then nx [x0,x1,x2,x3,.i (w64 (x4.int+1)),.i (w64 (x5.int+1))]
 else nx [x0,x1,x2,x3,x4,.i (w64 (x5.int+1))]))
 else nx [x0,x1,x2,x3,x4,.i (w64 (x5.int+1))])
 else ex 0 [x0,x1,x2,x3,x4,x5]:=by kernel_rfl
theorem s_StoreNew_ev (N:Nat) (p q:List D):evFn Tryz.prog s_StoreNewT N s_StoreNewK Tryz.f103 ri [⟨sd (.sl 108),p⟩,⟨sd (.sl 70),q⟩]=some (bo,
 bif !(storeOk (gd p 0)) then oi (-1)
 else bif !(writesOk (gd q 0)) then oi (-1)
 else (let o0:=iter (s_StoreNewL0 N p q) N [gd p 0,gd q 0,.i 0,.b (!(writesOk (gd q 0))),.i 0,.i 0]
  nd o0.isSome (nd (o0.code==2) (some (1,[gd o0.pay 4]))))):=by kernel_rfl
def s_StoreNewE:Ent:=(103,e2 (sd (.sl 108)) (sd (.sl 70)) fun p q=>(⟨ri,[.i (storeNew (gd p 0) (gd q 0))]⟩,true))
theorem s_StoreNew_ok:EntOk Tryz.prog s_StoreNewE:=e2_ok fun p q h=>evFn_sound (N:=61) (ks:=s_StoreNewK) (key:=bo) s_StoreNewT_ok (enters Tryz.func103) Tryz.func103 fun hw=>by
 rw [s_StoreNew_ev]
 unfold storeNew
 cases hz:storeOk (gd p 0)
 ·rfl
 cases hw:writesOk (gd q 0)
 ·rfl
 have hlen:=writes_len60 hw
 simp only [Bool.not_true,cond_false,cond_true]
 have e:=run_loop (L:=s_StoreNewL0 61 p q) (fun k => [gd p 0,gd q 0,.i 0,.b false,.i (cnt (newAt (gd p 0) (gd q 0)) 0 k:Int),.i (k:Int)]) (gd q 0).rows.length 0 (fun k hk=>?_) ?_ (N:=61) (by omega)
 ·simp only [Int.natCast_zero,cnt_zero] at e
  rw [e]
  rfl
 ·show s_StoreNewL0 _ p q [_,_,_,_,_,.i (k:Int)]=_
  rw [s_StoreNewR0]
  simp only [int_i,c_lt hk,nd_ix hk,w64_succ hk (show (gd q 0).rows.length≤9223372036854775807 from by omega),Int.toNat_natCast]
  rw [hz,nd_true,new_step _ _ _ (show k<1000 from by omega)]
  unfold newAt
  cases leI 0 (gd ((gd q 0).rows.getD k []) 1).int <;> cases ltI (valD (gd p 0) (gd ((gd q 0).rows.getD k []) 0).int).int 0 <;> rfl
 ·show s_StoreNewL0 _ p q [_,_,_,_,_,.i ((gd q 0).rows.length:Int)]=_
  rw [s_StoreNewR0]
  simp only [int_i,c_nlt]
end Go.Proofs.YtpdfmcmnjikppaaGreat
namespace Go.Proofs.YtpdfmcmnjikppaaGreat
set_option maxRecDepth 4096
set_option maxHeartbeats 1000000
abbrev i_roomT:FuncId→List T→Option (T × Bool):=find [i_StoreNewE]
theorem i_roomT_ok:CallOk Tryz.prog i_roomT:=find_ok (fC ⟨i_StoreNew_ok,fN⟩)
abbrev i_roomK:List Nat:= [0,1,2,3,5,10,11,12,13]
noncomputable def i_roomL0 (N:Nat) (p:List D):List D→Out:=loopOf Tryz.prog i_roomT N i_roomK Tryz.f114 ri [⟨ag rIShard,p⟩] 0
theorem i_roomR0 (N:Nat) (p:List D) (x0 x1 x2 x3 x4 x5 x6 x7 x8 x9 x10 x11 x12 x13 x14 x15 x16 x17 x18 x19 x20 x21 x22 x23:D):(i_roomL0 N p) [x0,x1,x2,x3,x4,x5,x6,x7,x8,x9,x10,x11,x12,x13,x14,x15,x16,x17,x18,x19,x20,x21,x22,x23] =
 bif ltI x14.int x13.int then nd (inRange x14.int x12.rows.length) (nx [x0,x1,x2,x3,x4,x5,x6,x7,x8,x9,x10,.i (w64 (x11.int+(storeNew x18 (gd (x12.rows.getD x14.int.toNat []) 1)))),x12,x13,.i (w64 (x14.int+1)),x15,x16,x17,x18,x19,x20,x21,x22,x23])
 else ex 0 [x0,x1,x2,x3,x4,x5,x6,x7,x8,x9,x10,x11,x12,x13,x14,x15,x16,x17,x18,x19,x20,x21,x22,x23]:=by kernel_rfl
theorem i_room_ev (N:Nat) (p:List D):evFn Tryz.prog i_roomT N i_roomK Tryz.f114 ri [⟨ag rIShard,p⟩]=some (bo,
 (let o0:=iter (i_roomL0 N p) N [gd p 0,gd p 1,gd p 2,gd p 3,gd p 4,gd p 5,gd p 6,gd p 7,gd p 8,.i 0,.i 0,.i ((gd p 3).rows.length:Int),gd p 5,.i ((gd p 5).rows.length:Int),.i 0,gd p 0,gd p 1,gd p 2,gd p 3,gd p 4,gd p 5,gd p 6,gd p 7,gd p 8]
  nd o0.isSome (nd (o0.code==2) (some (1,[gd o0.pay 11]))))):=by kernel_rfl
def newSum (c hs:D):Nat→Int
 | 0=>0
 | k+1=>newSum c hs k+storeNew c (gd (hs.rows.getD k []) 1)
def roomOf (p:List D):Int:=((gd p 3).rows.length:Int)+newSum (gd p 3) (gd p 5) (gd p 5).rows.length
theorem storeNew_in (c w:D) : -1≤storeNew c w∧storeNew c w≤60:=by
 unfold storeNew
 cases storeOk c
 ·simp only [cond_false]; omega
 cases h:writesOk w
 ·simp only [cond_true,cond_false]; omega
 have h1:=writes_len60 h
 have h2:=cnt_le (newAt c w) w.rows.length 0
 simp only [cond_true]
 omega
theorem newSum_in (c hs:D):∀ k:Nat,-(k:Int)≤newSum c hs k∧newSum c hs k≤60*(k:Int)
 | 0=>⟨by simp only [newSum]; omega,by simp only [newSum]; omega⟩
 | k+1=>by
  have h1:=newSum_in c hs k
  have h2:=storeNew_in c (gd (hs.rows.getD k []) 1)
  simp only [newSum]
  omega
def i_roomE:Ent:=(114,e1 (ag rIShard) fun p=>(⟨ri,[.i (roomOf p)]⟩,leI ((gd p 3).rows.length:Int) 1000000000&&leI ((gd p 5).rows.length:Int) 1000000000))
theorem i_room_ok:EntOk Tryz.prog i_roomE:=e1_ok fun p h=>evFn_sound (N:=(gd p 5).rows.length+1) (ks:=i_roomK) (key:=bo) i_roomT_ok (enters Tryz.func114) Tryz.func114 fun hw=>by
 rw [i_room_ev]
 have h:(leI ((gd p 3).rows.length:Int) 1000000000&&leI ((gd p 5).rows.length:Int) 1000000000)=true:=h
 simp only [Bool.and_eq_true,leI,decide_eq_true_eq] at h
 have e:=run_loop (L:=i_roomL0 ((gd p 5).rows.length+1) p) (fun k => [gd p 0,gd p 1,gd p 2,gd p 3,gd p 4,gd p 5,gd p 6,gd p 7,gd p 8,.i 0,.i 0,.i (((gd p 3).rows.length:Int)+newSum (gd p 3) (gd p 5) k),gd p 5,.i ((gd p 5).rows.length:Int),.i (k:Int),gd p 0,gd p 1,gd p 2,gd p 3,gd p 4,gd p 5,gd p 6,gd p 7,gd p 8]) (gd p 5).rows.length 0 (fun k hk=>?_) ?_ (N:=(gd p 5).rows.length+1) (by omega)
 ·simp only [Int.natCast_zero,newSum,Int.add_zero] at e
  rw [e]
  rfl
 ·show i_roomL0 _ p [_,_,_,_,_,_,_,_,_,_,_,_,_,_,.i (k:Int),_,_,_,_,_,_,_,_,_]=_
  rw [i_roomR0]
  have h1:=newSum_in (gd p 3) (gd p 5) k
  have h2:=storeNew_in (gd p 3) (gd ((gd p 5).rows.getD k []) 1)
  simp only [int_i,c_lt hk,nd_ix hk,w64_succ hk (show (gd p 5).rows.length≤9223372036854775807 from by omega),Int.toNat_natCast]
  rw [w64_id (by omega) (by omega),Int.add_assoc]
  rfl
 ·show i_roomL0 _ p [_,_,_,_,_,_,_,_,_,_,_,_,_,.i ((gd p 5).rows.length:Int),.i ((gd p 5).rows.length:Int),_,_,_,_,_,_,_,_,_]=_
  rw [i_roomR0]
  simp only [int_i,c_nlt]
abbrev s_l13NewT:FuncId→List T→Option (T × Bool):=find [s_StoreNewE]
theorem s_l13NewT_ok:CallOk Tryz.prog s_l13NewT:=find_ok (fC ⟨s_StoreNew_ok,fN⟩)
abbrev s_l13NewK:List Nat:= [0,1,2,3,4,9]
noncomputable def s_l13NewL0 (N:Nat) (p:List D):List D→Out:=loopOf Tryz.prog s_l13NewT N s_l13NewK Tryz.f102 ri [⟨ag rIShard,p⟩] 0
theorem s_l13NewR0 (N:Nat) (p:List D) (x0 x1 x2 x3 x4 x5 x6 x7 x8 x9 x10 x11 x12 x13 x14 x15 x16 x17 x18 x19 x20 x21:D):(s_l13NewL0 N p) [x0,x1,x2,x3,x4,x5,x6,x7,x8,x9,x10,x11,x12,x13,x14,x15,x16,x17,x18,x19,x20,x21] =
 bif ltI x12.int (x18.rows.length:Int) then nd (inRange x12.int x18.rows.length) (nx [x0,x1,x2,x3,x4,x5,x6,x7,x8,x9,x10,.i (w64 (x11.int+(storeNew x16 (gd (x18.rows.getD x12.int.toNat []) 1)))),.i (w64 (x12.int+1)),x13,x14,x15,x16,x17,x18,x19,x20,x21])
 else ex 0 [x0,x1,x2,x3,x4,x5,x6,x7,x8,x9,x10,x11,x12,x13,x14,x15,x16,x17,x18,x19,x20,x21]:=by kernel_rfl
theorem s_l13New_ev (N:Nat) (p:List D):evFn Tryz.prog s_l13NewT N s_l13NewK Tryz.f102 ri [⟨ag rIShard,p⟩]=some (bo,
 (let o0:=iter (s_l13NewL0 N p) N [gd p 0,gd p 1,gd p 2,gd p 3,gd p 4,gd p 5,gd p 6,gd p 7,gd p 8,.i 0,.i 0,.i 0,.i 0,gd p 0,gd p 1,gd p 2,gd p 3,gd p 4,gd p 5,gd p 6,gd p 7,gd p 8]
  nd o0.isSome (nd (o0.code==2) (some (1,[gd o0.pay 11]))))):=by kernel_rfl
def s_l13NewE:Ent:=(102,e1 (ag rIShard) fun p=>(⟨ri,[.i (newSum (gd p 3) (gd p 5) (gd p 5).rows.length)]⟩,leI ((gd p 5).rows.length:Int) 1000000000))
theorem s_l13New_ok:EntOk Tryz.prog s_l13NewE:=e1_ok fun p h=>evFn_sound (N:=(gd p 5).rows.length+1) (ks:=s_l13NewK) (key:=bo) s_l13NewT_ok (enters Tryz.func102) Tryz.func102 fun hw=>by
 rw [s_l13New_ev]
 have h:leI ((gd p 5).rows.length:Int) 1000000000=true:=h
 simp only [leI,decide_eq_true_eq] at h
 have e:=run_loop (L:=s_l13NewL0 ((gd p 5).rows.length+1) p) (fun k => [gd p 0,gd p 1,gd p 2,gd p 3,gd p 4,gd p 5,gd p 6,gd p 7,gd p 8,.i 0,.i 0,.i (newSum (gd p 3) (gd p 5) k),.i (k:Int),gd p 0,gd p 1,gd p 2,gd p 3,gd p 4,gd p 5,gd p 6,gd p 7,gd p 8]) (gd p 5).rows.length 0 (fun k hk=>?_) ?_ (N:=(gd p 5).rows.length+1) (by omega)
 ·simp only [Int.natCast_zero,newSum] at e
  rw [e]
  rfl
 ·show s_l13NewL0 _ p [_,_,_,_,_,_,_,_,_,_,_,_,.i (k:Int),_,_,_,_,_,_,_,_,_]=_
  rw [s_l13NewR0]
  have h1:=newSum_in (gd p 3) (gd p 5) k
  have h2:=storeNew_in (gd p 3) (gd ((gd p 5).rows.getD k []) 1)
  simp only [int_i,c_lt hk,nd_ix hk,w64_succ hk (show (gd p 5).rows.length≤9223372036854775807 from by omega),Int.toNat_natCast]
  rw [w64_id (by omega) (by omega)]
  rfl
 ·show s_l13NewL0 _ p [_,_,_,_,_,_,_,_,_,_,_,_,.i ((gd p 5).rows.length:Int),_,_,_,_,_,_,_,_,_]=_
  rw [s_l13NewR0]
  simp only [int_i,c_nlt]
end Go.Proofs.YtpdfmcmnjikppaaGreat
namespace Go.Proofs.YtpdfmcmnjikppaaGreat
set_option maxRecDepth 4096
set_option maxHeartbeats 1000000
abbrev i_ShardOk_1T:FuncId→List T→Option (T × Bool):=find [i_haveAllE]
theorem i_ShardOk_1T_ok:CallOk Tryz.prog i_ShardOk_1T:=find_ok (fC ⟨i_haveAll_ok,fN⟩)
abbrev i_ShardOk_1K:List Nat:= [0,1,2,3]
theorem i_ShardOk_1_ev (N:Nat) (p q:List D):evFn Tryz.prog i_ShardOk_1T N i_ShardOk_1K Tryz.f155 rb [⟨ag rIRange,p⟩,⟨.one (.c (.cptr [si,.sl 41,.sl 41,.sl 108,.sl 93,.sl 75,.sl 3,.sl 3,si] 0)),q⟩]=some (bo,
 ob (!(haveAll (gd ((gd q 0).rows.getD 0 []) 1) (sub p 0 2)))):=by kernel_rfl
def i_ShardOk_1F (p q:List D):Bool:=
 !(haveAll (gd ((gd q 0).rows.getD 0 []) 1) (sub p 0 2))
def i_ShardOk_1E:Ent:=(155,e2 (ag rIRange) (.one (.c (.cptr [si,.sl 41,.sl 41,.sl 108,.sl 93,.sl 75,.sl 3,.sl 3,si] 0))) fun p q=>(⟨rb,[.b (i_ShardOk_1F p [gd q 0])]⟩,true))
theorem i_ShardOk_1_ok:EntOk Tryz.prog i_ShardOk_1E:=e2_ok fun p q h=>evFn_sound (N:=0) (ks:=i_ShardOk_1K) (key:=bo) i_ShardOk_1T_ok (enters Tryz.func155) Tryz.func155 fun hw=>by
 rw [i_ShardOk_1_ev]
 try simp only [cond_ob,cond_oi,cond_os]
 rfl
abbrev i_ShardOk_2T:FuncId→List T→Option (T × Bool):=find [i_oneE,i_haveAllE]
theorem i_ShardOk_2T_ok:CallOk Tryz.prog i_ShardOk_2T:=find_ok (fC ⟨i_one_ok,fC ⟨i_haveAll_ok,fN⟩⟩)
abbrev i_ShardOk_2K:List Nat:= [0,1,2,3]
theorem i_ShardOk_2_ev (N:Nat) (p q:List D):evFn Tryz.prog i_ShardOk_2T N i_ShardOk_2K Tryz.f156 rb [⟨ag rICell,p⟩,⟨.one (.c (.cptr [si,.sl 41,.sl 41,.sl 108,.sl 93,.sl 75,.sl 3,.sl 3,si] 0)),q⟩]=some (bo,
 ob (!(haveAll (gd ((gd q 0).rows.getD 0 []) 1) [(gd p 0),.i (w64 ((gd p 0).int+1))]))):=by kernel_rfl
def i_ShardOk_2F (p q:List D):Bool:=
 !(haveAll (gd ((gd q 0).rows.getD 0 []) 1) [(gd p 0),.i (w64 ((gd p 0).int+1))])
def i_ShardOk_2E:Ent:=(156,e2 (ag rICell) (.one (.c (.cptr [si,.sl 41,.sl 41,.sl 108,.sl 93,.sl 75,.sl 3,.sl 3,si] 0))) fun p q=>(⟨rb,[.b (i_ShardOk_2F p [gd q 0])]⟩,true))
theorem i_ShardOk_2_ok:EntOk Tryz.prog i_ShardOk_2E:=e2_ok fun p q h=>evFn_sound (N:=0) (ks:=i_ShardOk_2K) (key:=bo) i_ShardOk_2T_ok (enters Tryz.func156) Tryz.func156 fun hw=>by
 rw [i_ShardOk_2_ev]
 try simp only [cond_ob,cond_oi,cond_os]
 rfl
abbrev i_ShardOk_3T:FuncId→List T→Option (T × Bool):=find [i_LkeysE,i_haveAllE,coIE]
theorem i_ShardOk_3T_ok:CallOk Tryz.prog i_ShardOk_3T:=find_ok (fC ⟨i_Lkeys_ok,fC ⟨i_haveAll_ok,fC ⟨coI_ok,fN⟩⟩⟩)
abbrev i_ShardOk_3K:List Nat:= [0,1,2,3,4]
theorem i_ShardOk_3_ev (N:Nat) (p q r:List D):evFn Tryz.prog i_ShardOk_3T N i_ShardOk_3K Tryz.f159 rb [⟨ag rILock,p⟩,⟨.one (.c (.cptr [si,.sl 41,.sl 41,.sl 108,.sl 93,.sl 75,.sl 3,.sl 3,si] 0)),q⟩,⟨.one (.c (.cptr [.sl 3] 0)),r⟩]=some (bo,
 bif !(haveAll (gd ((gd q 0).rows.getD 0 []) 1) [(gd p 1),(gd p 2)]) then ob true
 else ob (hasInt (gd ((gd r 0).rows.getD 0 []) 0) (gd p 0).int)):=by kernel_rfl
def i_ShardOk_3F (p q r:List D):Bool:=
 bif !(haveAll (gd ((gd q 0).rows.getD 0 []) 1) [(gd p 1),(gd p 2)]) then true
 else hasInt (gd ((gd r 0).rows.getD 0 []) 0) (gd p 0).int
def i_ShardOk_3E:Ent:=(159,e3 (ag rILock) (.one (.c (.cptr [si,.sl 41,.sl 41,.sl 108,.sl 93,.sl 75,.sl 3,.sl 3,si] 0))) (.one (.c (.cptr [.sl 3] 0))) fun p q r=>(⟨rb,[.b (i_ShardOk_3F p [gd q 0] [gd r 0])]⟩,true))
theorem i_ShardOk_3_ok:EntOk Tryz.prog i_ShardOk_3E:=e3_ok fun p q r h=>evFn_sound (N:=0) (ks:=i_ShardOk_3K) (key:=bo) i_ShardOk_3T_ok (enters Tryz.func159) Tryz.func159 fun hw=>by
 rw [i_ShardOk_3_ev]
 try simp only [cond_ob,cond_oi,cond_os]
 rfl
abbrev ixfSFT:FuncId→List T→Option (T × Bool):=find [i_ShardOk_1E]
theorem ixfSFT_ok:CallOk Tryz.prog ixfSFT:=find_ok (fC ⟨i_ShardOk_1_ok,fN⟩)
abbrev ixfSFK:List Nat:= [0,1,4,5,7,8,9,16]
noncomputable def ixfSFL0 (N:Nat) (p q:List D):List D→Out:=loopOf Tryz.prog ixfSFT N ixfSFK Tryz.f207 ri [⟨sd (.sl 41),p⟩,⟨.one (.c (.fn 155 [.cptr [si,.sl 41,.sl 41,.sl 108,.sl 93,.sl 75,.sl 3,.sl 3,si] 0])),q⟩] 0
theorem ixfSFR0 (N:Nat) (p q:List D) (x0 x1 x2 x3 x4:D):(ixfSFL0 N p q) [x0,x1,x2,x3,x4] =
 bif ltI x4.int x3.int then nd (inRange x4.int x0.rows.length) (bif i_ShardOk_1F (sub (x0.rows.getD x4.int.toNat []) 0 2) [gd (x1.rows.getD 0 []) 0] then some (1,[x4])
 else nx [x0,x1,x2,x3,.i (w64 (x4.int+1))])
 else ex 0 [x0,x1,x2,x3,x4]:=by kernel_rfl
theorem ixfSF_ev (N:Nat) (p q:List D):evFn Tryz.prog ixfSFT N ixfSFK Tryz.f207 ri [⟨sd (.sl 41),p⟩,⟨.one (.c (.fn 155 [.cptr [si,.sl 41,.sl 41,.sl 108,.sl 93,.sl 75,.sl 3,.sl 3,si] 0])),q⟩]=some (bo,
 (let o0:=iter (ixfSFL0 N p q) N [gd p 0,gd q 0,.i 0,.i ((gd p 0).rows.length:Int),.i 0]
  nd o0.isSome (bif o0.code==1 then some (1,o0.pay)
  else nd (o0.code==2) (oi (-1))))):=by kernel_rfl
def ixfSFC (c:D) (r:List D):Bool:=i_ShardOk_1F r [gd (c.rows.getD 0 []) 0]
def ixfSFE:Ent:=(207,e2 (sd (.sl 41)) (.one (.c (.fn 155 [.cptr [si,.sl 41,.sl 41,.sl 108,.sl 93,.sl 75,.sl 3,.sl 3,si] 0]))) fun p q=>(⟨ri,[.i (ixF (fun k=>ixfSFC (gd q 0) (sub ((gd p 0).rows.getD k []) 0 2)) 0 (gd p 0).rows.length)]⟩,true))
theorem ixfSF_ok:EntOk Tryz.prog ixfSFE:=e2_ok fun p q h=>evFn_sound (N:=(gd p 0).rows.length+1) (ks:=ixfSFK) (key:=bo) ixfSFT_ok (enters Tryz.func207) Tryz.func207 fun hw=>by
 rw [ixfSF_ev]
 have hl:=wt_sl (hw ⟨sd (.sl 41),p⟩ (by simp))
 have e:=ix_loop (L:=ixfSFL0 ((gd p 0).rows.length+1) p q) (fun k => [gd p 0,gd q 0,.i 0,.i ((gd p 0).rows.length:Int),.i (k:Int)]) (gd p 0).rows.length (fun k=>ixfSFC (gd q 0) (sub ((gd p 0).rows.getD k []) 0 2)) [gd p 0,gd q 0,.i 0,.i ((gd p 0).rows.length:Int),.i ((gd p 0).rows.length:Int)] (fun k hk=>?_) ?_ (gd p 0).rows.length 0 ((gd p 0).rows.length+1) (by omega) (by omega)
 ·simp only [Int.natCast_zero] at e
  rw [e]
  have hno:=ixF_neg (fun k=>ixfSFC (gd q 0) (sub ((gd p 0).rows.getD k []) 0 2)) (gd p 0).rows.length 0
  cases hd:decide (ixF (fun k=>ixfSFC (gd q 0) (sub ((gd p 0).rows.getD k []) 0 2)) 0 (gd p 0).rows.length≥0)
  ·rw [hno hd]; rfl
  ·rfl
 ·show ixfSFL0 _ p q [_,_,_,_,.i (k:Int)]=_
  rw [ixfSFR0]
  simp only [int_i,c_lt hk,nd_ix hk,w64_succ hk hl,Int.toNat_natCast]
  unfold ixfSFC
  cases i_ShardOk_1F (sub ((gd p 0).rows.getD k []) 0 2) [gd ((gd q 0).rows.getD 0 []) 0] <;> rfl
 ·show ixfSFL0 _ p q [_,_,_,.i ((gd p 0).rows.length:Int),.i ((gd p 0).rows.length:Int)]=_
  rw [ixfSFR0]
  simp only [int_i,c_nlt]
abbrev cofSFT:FuncId→List T→Option (T × Bool):=find [ixfSFE,i_ShardOk_1E]
theorem cofSFT_ok:CallOk Tryz.prog cofSFT:=find_ok (fC ⟨ixfSF_ok,fC ⟨i_ShardOk_1_ok,fN⟩⟩)
abbrev cofSFK:List Nat:= [0,1,4]
theorem cofSF_ev (N:Nat) (p q:List D):evFn Tryz.prog cofSFT N cofSFK Tryz.f106 rb [⟨sd (.sl 41),p⟩,⟨.one (.c (.fn 155 [.cptr [si,.sl 41,.sl 41,.sl 108,.sl 93,.sl 75,.sl 3,.sl 3,si] 0])),q⟩]=some (bo,
 ob (leI 0 (ixF (fun k=>ixfSFC (.l [[gd ((gd q 0).rows.getD 0 []) 0]]) (sub ((gd p 0).rows.getD k []) 0 2)) 0 (gd p 0).rows.length))):=by kernel_rfl
def cofSFE:Ent:=(106,e2 (sd (.sl 41)) (.one (.c (.fn 155 [.cptr [si,.sl 41,.sl 41,.sl 108,.sl 93,.sl 75,.sl 3,.sl 3,si] 0]))) fun p q=>(⟨rb,[.b (anyS (fun rr=>ixfSFC (gd q 0) (sub rr 0 2)) (gd p 0))]⟩,true))
theorem cofSF_ok:EntOk Tryz.prog cofSFE:=e2_ok fun p q h=>evFn_sound (N:=0) (ks:=cofSFK) (key:=bo) cofSFT_ok (enters Tryz.func106) Tryz.func106 fun hw=>by
 rw [cofSF_ev]
 refine congrArg (fun x=>some (bo,ob x)) ?_
 exact (ixF_any (fun k=>ixfSFC (gd q 0) (sub ((gd p 0).rows.getD k []) 0 2)) (gd p 0).rows.length 0).trans (by simp only [Nat.zero_add]; rfl)
abbrev ixfSCT:FuncId→List T→Option (T × Bool):=find [i_ShardOk_2E]
theorem ixfSCT_ok:CallOk Tryz.prog ixfSCT:=find_ok (fC ⟨i_ShardOk_2_ok,fN⟩)
abbrev ixfSCK:List Nat:= [0,1,4,5,7,8,9,16]
noncomputable def ixfSCL0 (N:Nat) (p q:List D):List D→Out:=loopOf Tryz.prog ixfSCT N ixfSCK Tryz.f221 ri [⟨sd (.sl 108),p⟩,⟨.one (.c (.fn 156 [.cptr [si,.sl 41,.sl 41,.sl 108,.sl 93,.sl 75,.sl 3,.sl 3,si] 0])),q⟩] 0
theorem ixfSCR0 (N:Nat) (p q:List D) (x0 x1 x2 x3 x4:D):(ixfSCL0 N p q) [x0,x1,x2,x3,x4] =
 bif ltI x4.int x3.int then nd (inRange x4.int x0.rows.length) (bif i_ShardOk_2F (sub (x0.rows.getD x4.int.toNat []) 0 2) [gd (x1.rows.getD 0 []) 0] then some (1,[x4])
 else nx [x0,x1,x2,x3,.i (w64 (x4.int+1))])
 else ex 0 [x0,x1,x2,x3,x4]:=by kernel_rfl
theorem ixfSC_ev (N:Nat) (p q:List D):evFn Tryz.prog ixfSCT N ixfSCK Tryz.f221 ri [⟨sd (.sl 108),p⟩,⟨.one (.c (.fn 156 [.cptr [si,.sl 41,.sl 41,.sl 108,.sl 93,.sl 75,.sl 3,.sl 3,si] 0])),q⟩]=some (bo,
 (let o0:=iter (ixfSCL0 N p q) N [gd p 0,gd q 0,.i 0,.i ((gd p 0).rows.length:Int),.i 0]
  nd o0.isSome (bif o0.code==1 then some (1,o0.pay)
  else nd (o0.code==2) (oi (-1))))):=by kernel_rfl
def ixfSCC (c:D) (r:List D):Bool:=i_ShardOk_2F r [gd (c.rows.getD 0 []) 0]
def ixfSCE:Ent:=(221,e2 (sd (.sl 108)) (.one (.c (.fn 156 [.cptr [si,.sl 41,.sl 41,.sl 108,.sl 93,.sl 75,.sl 3,.sl 3,si] 0]))) fun p q=>(⟨ri,[.i (ixF (fun k=>ixfSCC (gd q 0) (sub ((gd p 0).rows.getD k []) 0 2)) 0 (gd p 0).rows.length)]⟩,true))
theorem ixfSC_ok:EntOk Tryz.prog ixfSCE:=e2_ok fun p q h=>evFn_sound (N:=(gd p 0).rows.length+1) (ks:=ixfSCK) (key:=bo) ixfSCT_ok (enters Tryz.func221) Tryz.func221 fun hw=>by
 rw [ixfSC_ev]
 have hl:=wt_sl (hw ⟨sd (.sl 108),p⟩ (by simp))
 have e:=ix_loop (L:=ixfSCL0 ((gd p 0).rows.length+1) p q) (fun k => [gd p 0,gd q 0,.i 0,.i ((gd p 0).rows.length:Int),.i (k:Int)]) (gd p 0).rows.length (fun k=>ixfSCC (gd q 0) (sub ((gd p 0).rows.getD k []) 0 2)) [gd p 0,gd q 0,.i 0,.i ((gd p 0).rows.length:Int),.i ((gd p 0).rows.length:Int)] (fun k hk=>?_) ?_ (gd p 0).rows.length 0 ((gd p 0).rows.length+1) (by omega) (by omega)
 ·simp only [Int.natCast_zero] at e
  rw [e]
  have hno:=ixF_neg (fun k=>ixfSCC (gd q 0) (sub ((gd p 0).rows.getD k []) 0 2)) (gd p 0).rows.length 0
  cases hd:decide (ixF (fun k=>ixfSCC (gd q 0) (sub ((gd p 0).rows.getD k []) 0 2)) 0 (gd p 0).rows.length≥0)
  ·rw [hno hd]; rfl
  ·rfl
 ·show ixfSCL0 _ p q [_,_,_,_,.i (k:Int)]=_
  rw [ixfSCR0]
  simp only [int_i,c_lt hk,nd_ix hk,w64_succ hk hl,Int.toNat_natCast]
  unfold ixfSCC
  cases i_ShardOk_2F (sub ((gd p 0).rows.getD k []) 0 2) [gd ((gd q 0).rows.getD 0 []) 0] <;> rfl
 ·show ixfSCL0 _ p q [_,_,_,.i ((gd p 0).rows.length:Int),.i ((gd p 0).rows.length:Int)]=_
  rw [ixfSCR0]
  simp only [int_i,c_nlt]
abbrev cofSCT:FuncId→List T→Option (T × Bool):=find [ixfSCE,i_ShardOk_2E]
theorem cofSCT_ok:CallOk Tryz.prog cofSCT:=find_ok (fC ⟨ixfSC_ok,fC ⟨i_ShardOk_2_ok,fN⟩⟩)
abbrev cofSCK:List Nat:= [0,1,4]
theorem cofSC_ev (N:Nat) (p q:List D):evFn Tryz.prog cofSCT N cofSCK Tryz.f128 rb [⟨sd (.sl 108),p⟩,⟨.one (.c (.fn 156 [.cptr [si,.sl 41,.sl 41,.sl 108,.sl 93,.sl 75,.sl 3,.sl 3,si] 0])),q⟩]=some (bo,
 ob (leI 0 (ixF (fun k=>ixfSCC (.l [[gd ((gd q 0).rows.getD 0 []) 0]]) (sub ((gd p 0).rows.getD k []) 0 2)) 0 (gd p 0).rows.length))):=by kernel_rfl
def cofSCE:Ent:=(128,e2 (sd (.sl 108)) (.one (.c (.fn 156 [.cptr [si,.sl 41,.sl 41,.sl 108,.sl 93,.sl 75,.sl 3,.sl 3,si] 0]))) fun p q=>(⟨rb,[.b (anyS (fun rr=>ixfSCC (gd q 0) (sub rr 0 2)) (gd p 0))]⟩,true))
theorem cofSC_ok:EntOk Tryz.prog cofSCE:=e2_ok fun p q h=>evFn_sound (N:=0) (ks:=cofSCK) (key:=bo) cofSCT_ok (enters Tryz.func128) Tryz.func128 fun hw=>by
 rw [cofSC_ev]
 refine congrArg (fun x=>some (bo,ob x)) ?_
 exact (ixF_any (fun k=>ixfSCC (gd q 0) (sub ((gd p 0).rows.getD k []) 0 2)) (gd p 0).rows.length 0).trans (by simp only [Nat.zero_add]; rfl)
abbrev ixfSLT:FuncId→List T→Option (T × Bool):=find [i_ShardOk_3E]
theorem ixfSLT_ok:CallOk Tryz.prog ixfSLT:=find_ok (fC ⟨i_ShardOk_3_ok,fN⟩)
abbrev ixfSLK:List Nat:= [0,1,4,5,7,8,9,16]
noncomputable def ixfSLL0 (N:Nat) (p q:List D):List D→Out:=loopOf Tryz.prog ixfSLT N ixfSLK Tryz.f234 ri [⟨sd (.sl 93),p⟩,⟨.one (.c (.fn 159 [.cptr [si,.sl 41,.sl 41,.sl 108,.sl 93,.sl 75,.sl 3,.sl 3,si] 0,.cptr [.sl 3] 0])),q⟩] 0
theorem ixfSLR0 (N:Nat) (p q:List D) (x0 x1 x2 x3 x4:D):(ixfSLL0 N p q) [x0,x1,x2,x3,x4] =
 bif ltI x4.int x3.int then nd (inRange x4.int x0.rows.length) (bif i_ShardOk_3F (sub (x0.rows.getD x4.int.toNat []) 0 4) [gd (x1.rows.getD 0 []) 0] [gd (x1.rows.getD 0 []).tail 0] then some (1,[x4])
 else nx [x0,x1,x2,x3,.i (w64 (x4.int+1))])
 else ex 0 [x0,x1,x2,x3,x4]:=by kernel_rfl
theorem ixfSL_ev (N:Nat) (p q:List D):evFn Tryz.prog ixfSLT N ixfSLK Tryz.f234 ri [⟨sd (.sl 93),p⟩,⟨.one (.c (.fn 159 [.cptr [si,.sl 41,.sl 41,.sl 108,.sl 93,.sl 75,.sl 3,.sl 3,si] 0,.cptr [.sl 3] 0])),q⟩]=some (bo,
 (let o0:=iter (ixfSLL0 N p q) N [gd p 0,gd q 0,.i 0,.i ((gd p 0).rows.length:Int),.i 0]
  nd o0.isSome (bif o0.code==1 then some (1,o0.pay)
  else nd (o0.code==2) (oi (-1))))):=by kernel_rfl
def ixfSLC (c:D) (r:List D):Bool:=i_ShardOk_3F r [gd (c.rows.getD 0 []) 0] [gd (c.rows.getD 0 []).tail 0]
def ixfSLE:Ent:=(234,e2 (sd (.sl 93)) (.one (.c (.fn 159 [.cptr [si,.sl 41,.sl 41,.sl 108,.sl 93,.sl 75,.sl 3,.sl 3,si] 0,.cptr [.sl 3] 0]))) fun p q=>(⟨ri,[.i (ixF (fun k=>ixfSLC (gd q 0) (sub ((gd p 0).rows.getD k []) 0 4)) 0 (gd p 0).rows.length)]⟩,true))
theorem ixfSL_ok:EntOk Tryz.prog ixfSLE:=e2_ok fun p q h=>evFn_sound (N:=(gd p 0).rows.length+1) (ks:=ixfSLK) (key:=bo) ixfSLT_ok (enters Tryz.func234) Tryz.func234 fun hw=>by
 rw [ixfSL_ev]
 have hl:=wt_sl (hw ⟨sd (.sl 93),p⟩ (by simp))
 have e:=ix_loop (L:=ixfSLL0 ((gd p 0).rows.length+1) p q) (fun k => [gd p 0,gd q 0,.i 0,.i ((gd p 0).rows.length:Int),.i (k:Int)]) (gd p 0).rows.length (fun k=>ixfSLC (gd q 0) (sub ((gd p 0).rows.getD k []) 0 4)) [gd p 0,gd q 0,.i 0,.i ((gd p 0).rows.length:Int),.i ((gd p 0).rows.length:Int)] (fun k hk=>?_) ?_ (gd p 0).rows.length 0 ((gd p 0).rows.length+1) (by omega) (by omega)
 ·simp only [Int.natCast_zero] at e
  rw [e]
  have hno:=ixF_neg (fun k=>ixfSLC (gd q 0) (sub ((gd p 0).rows.getD k []) 0 4)) (gd p 0).rows.length 0
  cases hd:decide (ixF (fun k=>ixfSLC (gd q 0) (sub ((gd p 0).rows.getD k []) 0 4)) 0 (gd p 0).rows.length≥0)
  ·rw [hno hd]; rfl
  ·rfl
 ·show ixfSLL0 _ p q [_,_,_,_,.i (k:Int)]=_
  rw [ixfSLR0]
  simp only [int_i,c_lt hk,nd_ix hk,w64_succ hk hl,Int.toNat_natCast]
  unfold ixfSLC
  cases i_ShardOk_3F (sub ((gd p 0).rows.getD k []) 0 4) [gd ((gd q 0).rows.getD 0 []) 0] [gd ((gd q 0).rows.getD 0 []).tail 0] <;> rfl
 ·show ixfSLL0 _ p q [_,_,_,.i ((gd p 0).rows.length:Int),.i ((gd p 0).rows.length:Int)]=_
  rw [ixfSLR0]
  simp only [int_i,c_nlt]
abbrev cofSLT:FuncId→List T→Option (T × Bool):=find [ixfSLE,i_ShardOk_3E]
theorem cofSLT_ok:CallOk Tryz.prog cofSLT:=find_ok (fC ⟨ixfSL_ok,fC ⟨i_ShardOk_3_ok,fN⟩⟩)
abbrev cofSLK:List Nat:= [0,1,4]
theorem cofSL_ev (N:Nat) (p q:List D):evFn Tryz.prog cofSLT N cofSLK Tryz.f158 rb [⟨sd (.sl 93),p⟩,⟨.one (.c (.fn 159 [.cptr [si,.sl 41,.sl 41,.sl 108,.sl 93,.sl 75,.sl 3,.sl 3,si] 0,.cptr [.sl 3] 0])),q⟩]=some (bo,
 ob (leI 0 (ixF (fun k=>ixfSLC (.l [[gd ((gd q 0).rows.getD 0 []) 0,gd ((gd q 0).rows.getD 0 []).tail 0]]) (sub ((gd p 0).rows.getD k []) 0 4)) 0 (gd p 0).rows.length))):=by kernel_rfl
def cofSLE:Ent:=(158,e2 (sd (.sl 93)) (.one (.c (.fn 159 [.cptr [si,.sl 41,.sl 41,.sl 108,.sl 93,.sl 75,.sl 3,.sl 3,si] 0,.cptr [.sl 3] 0]))) fun p q=>(⟨rb,[.b (anyS (fun rr=>ixfSLC (gd q 0) (sub rr 0 4)) (gd p 0))]⟩,true))
theorem cofSL_ok:EntOk Tryz.prog cofSLE:=e2_ok fun p q h=>evFn_sound (N:=0) (ks:=cofSLK) (key:=bo) cofSLT_ok (enters Tryz.func158) Tryz.func158 fun hw=>by
 rw [cofSL_ev]
 refine congrArg (fun x=>some (bo,ob x)) ?_
 exact (ixF_any (fun k=>ixfSLC (gd q 0) (sub ((gd p 0).rows.getD k []) 0 4)) (gd p 0).rows.length 0).trans (by simp only [Nat.zero_add]; rfl)
end Go.Proofs.YtpdfmcmnjikppaaGreat
namespace Go.Proofs.YtpdfmcmnjikppaaGreat
set_option maxRecDepth 4096
set_option maxHeartbeats 1000000
end Go.Proofs.YtpdfmcmnjikppaaGreat
namespace Go.Proofs.YtpdfmcmnjikppaaGreat
set_option maxRecDepth 4096
set_option maxHeartbeats 1000000
abbrev s_ShardOkT:FuncId→List T→Option (T × Bool):=find [s_l1InE,s_RangesOkE,s_StoreOkE,s_LocksOkE,s_l13TxsE,s_RangesHaveE,s_l10OneE,s_l12RangeE,s_l12HasE,s_l13HeldsOkE,s_l13NewE]
theorem s_ShardOkT_ok:CallOk Tryz.prog s_ShardOkT:=find_ok (fC ⟨s_l1In_ok,fC ⟨s_RangesOk_ok,fC ⟨s_StoreOk_ok,fC ⟨s_LocksOk_ok,fC ⟨s_l13Txs_ok,fC ⟨s_RangesHave_ok,fC ⟨s_l10One_ok,fC ⟨s_l12Range_ok,fC ⟨s_l12Has_ok,fC ⟨s_l13HeldsOk_ok,fC ⟨s_l13New_ok,fN⟩⟩⟩⟩⟩⟩⟩⟩⟩⟩⟩)
abbrev s_ShardOkK:List Nat:= [0,1,2,3,4,5,6,7,41,69,74,85,90,103,108,135,140,150,1000041,1000069,1000074,1000085,1000090,1000103,1000108,1000135,1000140,1000150]
noncomputable def s_ShardOkL0 (N:Nat) (p:List D):List D→Out:=loopOf Tryz.prog s_ShardOkT N s_ShardOkK Tryz.f91 rb [⟨ag rIShard,p⟩] 0
noncomputable def s_ShardOkL2 (N:Nat) (p:List D):List D→Out:=loopOf Tryz.prog s_ShardOkT N s_ShardOkK Tryz.f91 rb [⟨ag rIShard,p⟩] 2
noncomputable def s_ShardOkL4 (N:Nat) (p:List D):List D→Out:=loopOf Tryz.prog s_ShardOkT N s_ShardOkK Tryz.f91 rb [⟨ag rIShard,p⟩] 4
noncomputable def s_ShardOkL6 (N:Nat) (p:List D):List D→Out:=loopOf Tryz.prog s_ShardOkT N s_ShardOkK Tryz.f91 rb [⟨ag rIShard,p⟩] 6
theorem s_ShardOkR0 (N:Nat) (p:List D) (x0 x1 x2 x3 x4 x5 x6 x7 x8 x9 x10 x11 x12 x13 x14 x15 x16 x17 x18 x19 x20:D):(s_ShardOkL0 N p) [x0,x1,x2,x3,x4,x5,x6,x7,x8,x9,x10,x11,x12,x13,x14,x15,x16,x17,x18,x19,x20] =
 bif ltI x11.int (x14.rows.length:Int) then nd (inRange x11.int x14.rows.length) (bif !(rangesHave x13 (sub (x14.rows.getD x11.int.toNat []) 0 2)) then ob false
 else nx [x0,x1,x2,x3,x4,x5,x6,x7,x8,x9,x10,.i (w64 (x11.int+1)),x12,x13,x14,x15,x16,x17,x18,x19,x20])
 else ex 0 [x0,x1,x2,x3,x4,x5,x6,x7,x8,x9,x10,x11,x12,x13,x14,x15,x16,x17,x18,x19,x20]:=by kernel_rfl
theorem s_ShardOkR2 (N:Nat) (p:List D) (x0 x1 x2 x3 x4 x5 x6 x7 x8 x9 x10 x11 x12 x13 x14 x15 x16 x17 x18 x19 x20 x21:D):(s_ShardOkL2 N p) [x0,x1,x2,x3,x4,x5,x6,x7,x8,x9,x10,x11,x12,x13,x14,x15,x16,x17,x18,x19,x20,x21] =
 bif ltI x12.int (x16.rows.length:Int) then nd (inRange x12.int x16.rows.length) (bif !(rangesHave x14 [(gd (x16.rows.getD x12.int.toNat []) 0),.i (w64 ((gd (x16.rows.getD x12.int.toNat []) 0).int+1))]) then ob false
 else nx [x0,x1,x2,x3,x4,x5,x6,x7,x8,x9,x10,x11,.i (w64 (x12.int+1)),x13,x14,x15,x16,x17,x18,x19,x20,x21])
 else ex 2 [x0,x1,x2,x3,x4,x5,x6,x7,x8,x9,x10,x11,x12,x13,x14,x15,x16,x17,x18,x19,x20,x21]:=by kernel_rfl
theorem s_ShardOkR4 (N:Nat) (p:List D) (x0 x1 x2 x3 x4 x5 x6 x7 x8 x9 x10 x11 x12 x13 x14 x15 x16 x17 x18 x19 x20 x21 x22:D):(s_ShardOkL4 N p) [x0,x1,x2,x3,x4,x5,x6,x7,x8,x9,x10,x11,x12,x13,x14,x15,x16,x17,x18,x19,x20,x21,x22] =
 bif ltI x13.int (x18.rows.length:Int) then nd (inRange x13.int x18.rows.length) (bif !(rangesHave x15 [(gd (x18.rows.getD x13.int.toNat []) 1),(gd (x18.rows.getD x13.int.toNat []) 2)]) then ob false
 else bif hasInt x20 (gd (x18.rows.getD x13.int.toNat []) 0).int then ob false
 else bif hasInt x21 (gd (x18.rows.getD x13.int.toNat []) 0).int then ob false
 else nx [x0,x1,x2,x3,x4,x5,x6,x7,x8,x9,x10,x11,x12,.i (w64 (x13.int+1)),x14,x15,x16,x17,x18,x19,x20,x21,x22])
 else ex 4 [x0,x1,x2,x3,x4,x5,x6,x7,x8,x9,x10,x11,x12,x13,x14,x15,x16,x17,x18,x19,x20,x21,x22]:=by kernel_rfl
theorem s_ShardOkR6 (N:Nat) (p:List D) (x0 x1 x2 x3 x4 x5 x6 x7 x8 x9 x10 x11 x12 x13 x14 x15 x16 x17 x18 x19 x20 x21 x22 x23:D):(s_ShardOkL6 N p) [x0,x1,x2,x3,x4,x5,x6,x7,x8,x9,x10,x11,x12,x13,x14,x15,x16,x17,x18,x19,x20,x21,x22,x23] =
 bif ltI x14.int (x21.rows.length:Int) then nd (inRange x14.int x21.rows.length) (bif hasInt x22 (gd (x21.rows.getD x14.int.toNat []) 0).int then ob false
 else nx [x0,x1,x2,x3,x4,x5,x6,x7,x8,x9,x10,x11,x12,x13,.i (w64 (x14.int+1)),x15,x16,x17,x18,x19,x20,x21,x22,x23])
 else ex 6 [x0,x1,x2,x3,x4,x5,x6,x7,x8,x9,x10,x11,x12,x13,x14,x15,x16,x17,x18,x19,x20,x21,x22,x23]:=by kernel_rfl
noncomputable def s_ShardOks0 (N:Nat) (p:List D) (o6:Out):Out:=nd (leI ((gd o6.pay 20).rows.length:Int) 1000000000) (ob (leI (w64 (((gd o6.pay 18).rows.length:Int)+(newSum (gd o6.pay 18) (gd o6.pay 20) (gd o6.pay 20).rows.length))) 60))
noncomputable def s_ShardOks1 (N:Nat) (p:List D) (o6:Out):Out:=bif o6.code==1 then some (1,o6.pay) else nd (o6.code==8) (bif heldsOkS (sub o6.pay 15 9) then (s_ShardOks0 N p o6) else ob false)
noncomputable def s_ShardOks2 (N:Nat) (p:List D) (o4:Out):Out:=let o6:Out:=iter (s_ShardOkL6 N p) N [gd o4.pay 0,gd o4.pay 1,gd o4.pay 2,gd o4.pay 3,gd o4.pay 4,gd o4.pay 5,gd o4.pay 6,gd o4.pay 7,gd o4.pay 8,gd o4.pay 9,gd o4.pay 10,gd o4.pay 11,gd o4.pay 12,gd o4.pay 13,.i 0,gd o4.pay 14,gd o4.pay 15,gd o4.pay 16,gd o4.pay 17,gd o4.pay 18,gd o4.pay 19,gd o4.pay 20,gd o4.pay 21,gd o4.pay 22]; nd o6.isSome (s_ShardOks1 N p o6)
noncomputable def s_ShardOks3 (N:Nat) (p:List D) (o2:Out):Out:=let o4:Out:=iter (s_ShardOkL4 N p) N [gd o2.pay 0,gd o2.pay 1,gd o2.pay 2,gd o2.pay 3,gd o2.pay 4,gd o2.pay 5,gd o2.pay 6,gd o2.pay 7,gd o2.pay 8,gd o2.pay 9,gd o2.pay 10,gd o2.pay 11,gd o2.pay 12,.i 0,gd o2.pay 13,gd o2.pay 14,gd o2.pay 15,gd o2.pay 16,gd o2.pay 17,gd o2.pay 18,gd o2.pay 19,gd o2.pay 20,gd o2.pay 21]; nd o4.isSome (bif o4.code==1 then some (1,o4.pay) else nd (o4.code==6) (s_ShardOks2 N p o4))
noncomputable def s_ShardOks4 (N:Nat) (p:List D) (o0:Out):Out:=let o2:Out:=iter (s_ShardOkL2 N p) N [gd o0.pay 0,gd o0.pay 1,gd o0.pay 2,gd o0.pay 3,gd o0.pay 4,gd o0.pay 5,gd o0.pay 6,gd o0.pay 7,gd o0.pay 8,gd o0.pay 9,gd o0.pay 10,gd o0.pay 11,.i 0,gd o0.pay 12,gd o0.pay 13,gd o0.pay 14,gd o0.pay 15,gd o0.pay 16,gd o0.pay 17,gd o0.pay 18,gd o0.pay 19,gd o0.pay 20]; nd o2.isSome (bif o2.code==1 then some (1,o2.pay) else nd (o2.code==4) (s_ShardOks3 N p o2))
noncomputable def s_ShardOks5 (N:Nat) (p:List D):Out:=let o0:Out:=iter (s_ShardOkL0 N p) N [gd p 0,gd p 1,gd p 2,gd p 3,gd p 4,gd p 5,gd p 6,gd p 7,gd p 8,.i 0,.i 0,.i 0,gd p 0,gd p 1,gd p 2,gd p 3,gd p 4,gd p 5,gd p 6,gd p 7,gd p 8]; nd o0.isSome (bif o0.code==1 then some (1,o0.pay) else nd (o0.code==2) (s_ShardOks4 N p o0))
noncomputable def s_ShardOks6 (N:Nat) (p:List D):Out:=bif ltI 60 ((gd p 7).rows.length:Int) then ob false else bif !(ascOk (gd p 6)) then ob false else bif !(ascOk (gd p 7)) then ob false else (s_ShardOks5 N p)
noncomputable def s_ShardOks7 (N:Nat) (p:List D):Out:=bif ltI 60 ((gd p 5).rows.length:Int) then ob false else bif ltI 60 ((gd p 6).rows.length:Int) then ob false else (s_ShardOks6 N p)
noncomputable def s_ShardOks8 (N:Nat) (p:List D):Out:=bif !(locksOk (gd p 4)) then ob false else bif !(inB (gd p 8).int 0 1000000) then ob false else (s_ShardOks7 N p)
noncomputable def s_ShardOks9 (N:Nat) (p:List D):Out:=bif !(rangesOk (gd p 2)) then ob false else bif !(storeOk (gd p 3)) then ob false else (s_ShardOks8 N p)
noncomputable def s_ShardOks10 (N:Nat) (p:List D):Out:=bif !(inB (gd p 0).int 0 3) then ob false else bif !(rangesOk (gd p 1)) then ob false else (s_ShardOks9 N p)
theorem s_ShardOk_ev (N:Nat) (p:List D):evFn Tryz.prog s_ShardOkT N s_ShardOkK Tryz.f91 rb [⟨ag rIShard,p⟩]=some (bo,(s_ShardOks10 N p)):=by kernel_rfl
def shardC0 (p:List D) (k:Nat):Bool:=rangesHave (gd p 1) (sub ((gd p 2).rows.getD k []) 0 2)
def shardC2 (p:List D) (k:Nat):Bool:=rangesHave (gd p 1) [gd ((gd p 3).rows.getD k []) 0,.i (w64 ((gd ((gd p 3).rows.getD k []) 0).int+1))]
def shardC4 (p:List D) (k:Nat):Bool:=(rangesHave (gd p 1) [gd ((gd p 4).rows.getD k []) 1,gd ((gd p 4).rows.getD k []) 2]&&(!hasInt (gd p 6) (gd ((gd p 4).rows.getD k []) 0).int && !hasInt (gd p 7) (gd ((gd p 4).rows.getD k []) 0).int))
def shardC6 (p:List D) (k:Nat):Bool:= !hasInt (gd p 7) (gd ((gd p 6).rows.getD k []) 0).int
def shardA (p:List D) (f j:Nat) (C:List D→Nat→Bool):Bool:=(List.range (gd p f).rows.length).all (C p)
def shardSum (p:List D):Bool:=heldsOkS p&&leI (((gd p 3).rows.length:Int)+newSum (gd p 3) (gd p 5) (gd p 5).rows.length) 60
def shardOk (p:List D):Bool:=inB (gd p 0).int 0 3&&(rangesOk (gd p 1)&&(rangesOk (gd p 2)&&(storeOk (gd p 3)&&(locksOk (gd p 4)&&(inB (gd p 8).int 0 1000000&&(leI ((gd p 5).rows.length:Int) 60&&(leI ((gd p 6).rows.length:Int) 60&&(leI ((gd p 7).rows.length:Int) 60&&(ascOk (gd p 6)&&(ascOk (gd p 7)&&(shardA p 2 0 shardC0&&(shardA p 3 2 shardC2&&(shardA p 4 4 shardC4&&(shardA p 6 6 shardC6&&(shardSum p)))))))))))))))
theorem s_ShardOkI0 (p:List D) (N:Nat) (hN:(gd p 2).rows.length<N) (hl:(gd p 2).rows.length≤9223372036854775807):iter (s_ShardOkL0 N p) N [gd p 0,gd p 1,gd p 2,gd p 3,gd p 4,gd p 5,gd p 6,gd p 7,gd p 8,.i 0,.i 0,.i 0,gd p 0,gd p 1,gd p 2,gd p 3,gd p 4,gd p 5,gd p 6,gd p 7,gd p 8]=some (bif shardA p 2 0 shardC0 then (2,[gd p 0,gd p 1,gd p 2,gd p 3,gd p 4,gd p 5,gd p 6,gd p 7,gd p 8,.i 0,.i 0,.i ((gd p 2).rows.length:Int),gd p 0,gd p 1,gd p 2,gd p 3,gd p 4,gd p 5,gd p 6,gd p 7,gd p 8]) else (1,[.b false])):=by
 have e:=for_loop (L:=s_ShardOkL0 N p) (fun k => [gd p 0,gd p 1,gd p 2,gd p 3,gd p 4,gd p 5,gd p 6,gd p 7,gd p 8,.i 0,.i 0,.i (k:Int),gd p 0,gd p 1,gd p 2,gd p 3,gd p 4,gd p 5,gd p 6,gd p 7,gd p 8]) (gd p 2).rows.length (shardC0 p) [.b false] 0 (fun k hk=>?_) ?_ (N:=N) hN
 ·simp only [Int.natCast_zero] at e
  exact e
 ·show s_ShardOkL0 _ p [_,_,_,_,_,_,_,_,_,_,_,.i (k:Int),_,_,_,_,_,_,_,_,_]=_
  rw [s_ShardOkR0]
  simp only [int_i,c_lt hk,nd_ix hk,w64_succ hk hl,Int.toNat_natCast]
  unfold shardC0
  cases rangesHave (gd p 1) (sub ((gd p 2).rows.getD k []) 0 2) <;> rfl
 ·show s_ShardOkL0 _ p [_,_,_,_,_,_,_,_,_,_,_,.i ((gd p 2).rows.length:Int),_,_,_,_,_,_,_,_,_]=_
  rw [s_ShardOkR0]
  simp only [int_i,c_nlt]
theorem s_ShardOkI2 (p:List D) (N:Nat) (hN:(gd p 3).rows.length<N) (hl:(gd p 3).rows.length≤9223372036854775807):iter (s_ShardOkL2 N p) N [gd p 0,gd p 1,gd p 2,gd p 3,gd p 4,gd p 5,gd p 6,gd p 7,gd p 8,.i 0,.i 0,.i ((gd p 2).rows.length:Int),.i 0,gd p 0,gd p 1,gd p 2,gd p 3,gd p 4,gd p 5,gd p 6,gd p 7,gd p 8]=some (bif shardA p 3 2 shardC2 then (4,[gd p 0,gd p 1,gd p 2,gd p 3,gd p 4,gd p 5,gd p 6,gd p 7,gd p 8,.i 0,.i 0,.i ((gd p 2).rows.length:Int),.i ((gd p 3).rows.length:Int),gd p 0,gd p 1,gd p 2,gd p 3,gd p 4,gd p 5,gd p 6,gd p 7,gd p 8]) else (1,[.b false])):=by
 have e:=for_loop (L:=s_ShardOkL2 N p) (fun k => [gd p 0,gd p 1,gd p 2,gd p 3,gd p 4,gd p 5,gd p 6,gd p 7,gd p 8,.i 0,.i 0,.i ((gd p 2).rows.length:Int),.i (k:Int),gd p 0,gd p 1,gd p 2,gd p 3,gd p 4,gd p 5,gd p 6,gd p 7,gd p 8]) (gd p 3).rows.length (shardC2 p) [.b false] 2 (fun k hk=>?_) ?_ (N:=N) hN
 ·simp only [Int.natCast_zero] at e
  exact e
 ·show s_ShardOkL2 _ p [_,_,_,_,_,_,_,_,_,_,_,_,.i (k:Int),_,_,_,_,_,_,_,_,_]=_
  rw [s_ShardOkR2]
  simp only [int_i,c_lt hk,nd_ix hk,w64_succ hk hl,Int.toNat_natCast]
  unfold shardC2
  cases rangesHave (gd p 1) [gd ((gd p 3).rows.getD k []) 0,.i (w64 ((gd ((gd p 3).rows.getD k []) 0).int+1))] <;> rfl
 ·show s_ShardOkL2 _ p [_,_,_,_,_,_,_,_,_,_,_,_,.i ((gd p 3).rows.length:Int),_,_,_,_,_,_,_,_,_]=_
  rw [s_ShardOkR2]
  simp only [int_i,c_nlt]
theorem s_ShardOkI4 (p:List D) (N:Nat) (hN:(gd p 4).rows.length<N) (hl:(gd p 4).rows.length≤9223372036854775807):iter (s_ShardOkL4 N p) N [gd p 0,gd p 1,gd p 2,gd p 3,gd p 4,gd p 5,gd p 6,gd p 7,gd p 8,.i 0,.i 0,.i ((gd p 2).rows.length:Int),.i ((gd p 3).rows.length:Int),.i 0,gd p 0,gd p 1,gd p 2,gd p 3,gd p 4,gd p 5,gd p 6,gd p 7,gd p 8]=some (bif shardA p 4 4 shardC4 then (6,[gd p 0,gd p 1,gd p 2,gd p 3,gd p 4,gd p 5,gd p 6,gd p 7,gd p 8,.i 0,.i 0,.i ((gd p 2).rows.length:Int),.i ((gd p 3).rows.length:Int),.i ((gd p 4).rows.length:Int),gd p 0,gd p 1,gd p 2,gd p 3,gd p 4,gd p 5,gd p 6,gd p 7,gd p 8]) else (1,[.b false])):=by
 have e:=for_loop (L:=s_ShardOkL4 N p) (fun k => [gd p 0,gd p 1,gd p 2,gd p 3,gd p 4,gd p 5,gd p 6,gd p 7,gd p 8,.i 0,.i 0,.i ((gd p 2).rows.length:Int),.i ((gd p 3).rows.length:Int),.i (k:Int),gd p 0,gd p 1,gd p 2,gd p 3,gd p 4,gd p 5,gd p 6,gd p 7,gd p 8]) (gd p 4).rows.length (shardC4 p) [.b false] 4 (fun k hk=>?_) ?_ (N:=N) hN
 ·simp only [Int.natCast_zero] at e
  exact e
 ·show s_ShardOkL4 _ p [_,_,_,_,_,_,_,_,_,_,_,_,_,.i (k:Int),_,_,_,_,_,_,_,_,_]=_
  rw [s_ShardOkR4]
  simp only [int_i,c_lt hk,nd_ix hk,w64_succ hk hl,Int.toNat_natCast]
  unfold shardC4
  cases rangesHave (gd p 1) [gd ((gd p 4).rows.getD k []) 1,gd ((gd p 4).rows.getD k []) 2] <;> cases hasInt (gd p 6) (gd ((gd p 4).rows.getD k []) 0).int <;> cases hasInt (gd p 7) (gd ((gd p 4).rows.getD k []) 0).int <;> rfl
 ·show s_ShardOkL4 _ p [_,_,_,_,_,_,_,_,_,_,_,_,_,.i ((gd p 4).rows.length:Int),_,_,_,_,_,_,_,_,_]=_
  rw [s_ShardOkR4]
  simp only [int_i,c_nlt]
theorem s_ShardOkI6 (p:List D) (N:Nat) (hN:(gd p 6).rows.length<N) (hl:(gd p 6).rows.length≤9223372036854775807):iter (s_ShardOkL6 N p) N [gd p 0,gd p 1,gd p 2,gd p 3,gd p 4,gd p 5,gd p 6,gd p 7,gd p 8,.i 0,.i 0,.i ((gd p 2).rows.length:Int),.i ((gd p 3).rows.length:Int),.i ((gd p 4).rows.length:Int),.i 0,gd p 0,gd p 1,gd p 2,gd p 3,gd p 4,gd p 5,gd p 6,gd p 7,gd p 8]=some (bif shardA p 6 6 shardC6 then (8,[gd p 0,gd p 1,gd p 2,gd p 3,gd p 4,gd p 5,gd p 6,gd p 7,gd p 8,.i 0,.i 0,.i ((gd p 2).rows.length:Int),.i ((gd p 3).rows.length:Int),.i ((gd p 4).rows.length:Int),.i ((gd p 6).rows.length:Int),gd p 0,gd p 1,gd p 2,gd p 3,gd p 4,gd p 5,gd p 6,gd p 7,gd p 8]) else (1,[.b false])):=by
 have e:=for_loop (L:=s_ShardOkL6 N p) (fun k => [gd p 0,gd p 1,gd p 2,gd p 3,gd p 4,gd p 5,gd p 6,gd p 7,gd p 8,.i 0,.i 0,.i ((gd p 2).rows.length:Int),.i ((gd p 3).rows.length:Int),.i ((gd p 4).rows.length:Int),.i (k:Int),gd p 0,gd p 1,gd p 2,gd p 3,gd p 4,gd p 5,gd p 6,gd p 7,gd p 8]) (gd p 6).rows.length (shardC6 p) [.b false] 6 (fun k hk=>?_) ?_ (N:=N) hN
 ·simp only [Int.natCast_zero] at e
  exact e
 ·show s_ShardOkL6 _ p [_,_,_,_,_,_,_,_,_,_,_,_,_,_,.i (k:Int),_,_,_,_,_,_,_,_,_]=_
  rw [s_ShardOkR6]
  simp only [int_i,c_lt hk,nd_ix hk,w64_succ hk hl,Int.toNat_natCast]
  unfold shardC6
  cases hasInt (gd p 7) (gd ((gd p 6).rows.getD k []) 0).int <;> rfl
 ·show s_ShardOkL6 _ p [_,_,_,_,_,_,_,_,_,_,_,_,_,_,.i ((gd p 6).rows.length:Int),_,_,_,_,_,_,_,_,_]=_
  rw [s_ShardOkR6]
  simp only [int_i,c_nlt]
theorem lt60 (n:Nat):ltI 60 (n:Int) = !leI (n:Int) 60:=by
 rw [Bool.eq_iff_iff]; simp only [ltI,leI,decide_eq_true_eq,Bool.not_eq_true',decide_eq_false_iff_not]; omega
theorem s_ShardOkx1 (p:List D) (N:Nat) (h5:leI ((gd p 5).rows.length:Int) 60=true) (h3:storeOk (gd p 3)=true):s_ShardOks1 N p (some (8,[gd p 0,gd p 1,gd p 2,gd p 3,gd p 4,gd p 5,gd p 6,gd p 7,gd p 8,.i 0,.i 0,.i ((gd p 2).rows.length:Int),.i ((gd p 3).rows.length:Int),.i ((gd p 4).rows.length:Int),.i ((gd p 6).rows.length:Int),gd p 0,gd p 1,gd p 2,gd p 3,gd p 4,gd p 5,gd p 6,gd p 7,gd p 8]))=ob (shardSum p):=by
 simp only [leI,decide_eq_true_eq] at h5
 have hs:=(store_sorted h3).len
 have hn:=newSum_in (gd p 3) (gd p 5) (gd p 5).rows.length
 rw [show s_ShardOks1 N p (some (8,[gd p 0,gd p 1,gd p 2,gd p 3,gd p 4,gd p 5,gd p 6,gd p 7,gd p 8,.i 0,.i 0,.i ((gd p 2).rows.length:Int),.i ((gd p 3).rows.length:Int),.i ((gd p 4).rows.length:Int),.i ((gd p 6).rows.length:Int),gd p 0,gd p 1,gd p 2,gd p 3,gd p 4,gd p 5,gd p 6,gd p 7,gd p 8]))=(bif heldsOkS p then nd (leI ((gd p 5).rows.length:Int) 1000000000) (ob (leI (w64 (((gd p 3).rows.length:Int)+newSum (gd p 3) (gd p 5) (gd p 5).rows.length)) 60)) else ob false) from by kernel_rfl]
 rw [leI_t (show ((gd p 5).rows.length:Int)≤1000000000 from by omega),nd_true,w64_id (by omega) (by omega)]
 unfold shardSum
 cases heldsOkS p <;> rfl
theorem s_ShardOkx2 (p:List D) (N:Nat) (hN:((gd p 2).rows.length+(gd p 3).rows.length+(gd p 4).rows.length+(gd p 6).rows.length+1)≤N) (hl:∀ j,j ∈ [2,3,4,6]→(gd p j).rows.length≤9223372036854775807) (h5:leI ((gd p 5).rows.length:Int) 60=true) (h3:storeOk (gd p 3)=true):s_ShardOks2 N p (some (6,[gd p 0,gd p 1,gd p 2,gd p 3,gd p 4,gd p 5,gd p 6,gd p 7,gd p 8,.i 0,.i 0,.i ((gd p 2).rows.length:Int),.i ((gd p 3).rows.length:Int),.i ((gd p 4).rows.length:Int),gd p 0,gd p 1,gd p 2,gd p 3,gd p 4,gd p 5,gd p 6,gd p 7,gd p 8]))=ob (shardA p 6 6 shardC6&&(shardSum p)):=by
 rw [show s_ShardOks2 N p (some (6,[gd p 0,gd p 1,gd p 2,gd p 3,gd p 4,gd p 5,gd p 6,gd p 7,gd p 8,.i 0,.i 0,.i ((gd p 2).rows.length:Int),.i ((gd p 3).rows.length:Int),.i ((gd p 4).rows.length:Int),gd p 0,gd p 1,gd p 2,gd p 3,gd p 4,gd p 5,gd p 6,gd p 7,gd p 8]))=nd (iter (s_ShardOkL6 N p) N [gd p 0,gd p 1,gd p 2,gd p 3,gd p 4,gd p 5,gd p 6,gd p 7,gd p 8,.i 0,.i 0,.i ((gd p 2).rows.length:Int),.i ((gd p 3).rows.length:Int),.i ((gd p 4).rows.length:Int),.i 0,gd p 0,gd p 1,gd p 2,gd p 3,gd p 4,gd p 5,gd p 6,gd p 7,gd p 8]).isSome (s_ShardOks1 N p (iter (s_ShardOkL6 N p) N [gd p 0,gd p 1,gd p 2,gd p 3,gd p 4,gd p 5,gd p 6,gd p 7,gd p 8,.i 0,.i 0,.i ((gd p 2).rows.length:Int),.i ((gd p 3).rows.length:Int),.i ((gd p 4).rows.length:Int),.i 0,gd p 0,gd p 1,gd p 2,gd p 3,gd p 4,gd p 5,gd p 6,gd p 7,gd p 8])) from by kernel_rfl]
 rw [s_ShardOkI6 p N (by omega) (hl 6 (by simp))]
 cases shardA p 6 6 shardC6
 ·rfl
 ·show s_ShardOks1 N p (some (8,[gd p 0,gd p 1,gd p 2,gd p 3,gd p 4,gd p 5,gd p 6,gd p 7,gd p 8,.i 0,.i 0,.i ((gd p 2).rows.length:Int),.i ((gd p 3).rows.length:Int),.i ((gd p 4).rows.length:Int),.i ((gd p 6).rows.length:Int),gd p 0,gd p 1,gd p 2,gd p 3,gd p 4,gd p 5,gd p 6,gd p 7,gd p 8]))=ob (true&&(shardSum p))
  rw [Bool.true_and]
  exact s_ShardOkx1 p N h5 h3
theorem s_ShardOkx3 (p:List D) (N:Nat) (hN:((gd p 2).rows.length+(gd p 3).rows.length+(gd p 4).rows.length+(gd p 6).rows.length+1)≤N) (hl:∀ j,j ∈ [2,3,4,6]→(gd p j).rows.length≤9223372036854775807) (h5:leI ((gd p 5).rows.length:Int) 60=true) (h3:storeOk (gd p 3)=true):s_ShardOks3 N p (some (4,[gd p 0,gd p 1,gd p 2,gd p 3,gd p 4,gd p 5,gd p 6,gd p 7,gd p 8,.i 0,.i 0,.i ((gd p 2).rows.length:Int),.i ((gd p 3).rows.length:Int),gd p 0,gd p 1,gd p 2,gd p 3,gd p 4,gd p 5,gd p 6,gd p 7,gd p 8]))=ob (shardA p 4 4 shardC4&&(shardA p 6 6 shardC6&&(shardSum p))):=by
 rw [show s_ShardOks3 N p (some (4,[gd p 0,gd p 1,gd p 2,gd p 3,gd p 4,gd p 5,gd p 6,gd p 7,gd p 8,.i 0,.i 0,.i ((gd p 2).rows.length:Int),.i ((gd p 3).rows.length:Int),gd p 0,gd p 1,gd p 2,gd p 3,gd p 4,gd p 5,gd p 6,gd p 7,gd p 8]))=nd (iter (s_ShardOkL4 N p) N [gd p 0,gd p 1,gd p 2,gd p 3,gd p 4,gd p 5,gd p 6,gd p 7,gd p 8,.i 0,.i 0,.i ((gd p 2).rows.length:Int),.i ((gd p 3).rows.length:Int),.i 0,gd p 0,gd p 1,gd p 2,gd p 3,gd p 4,gd p 5,gd p 6,gd p 7,gd p 8]).isSome (bif Out.code (iter (s_ShardOkL4 N p) N [gd p 0,gd p 1,gd p 2,gd p 3,gd p 4,gd p 5,gd p 6,gd p 7,gd p 8,.i 0,.i 0,.i ((gd p 2).rows.length:Int),.i ((gd p 3).rows.length:Int),.i 0,gd p 0,gd p 1,gd p 2,gd p 3,gd p 4,gd p 5,gd p 6,gd p 7,gd p 8])==1 then some (1,Out.pay (iter (s_ShardOkL4 N p) N [gd p 0,gd p 1,gd p 2,gd p 3,gd p 4,gd p 5,gd p 6,gd p 7,gd p 8,.i 0,.i 0,.i ((gd p 2).rows.length:Int),.i ((gd p 3).rows.length:Int),.i 0,gd p 0,gd p 1,gd p 2,gd p 3,gd p 4,gd p 5,gd p 6,gd p 7,gd p 8])) else nd (Out.code (iter (s_ShardOkL4 N p) N [gd p 0,gd p 1,gd p 2,gd p 3,gd p 4,gd p 5,gd p 6,gd p 7,gd p 8,.i 0,.i 0,.i ((gd p 2).rows.length:Int),.i ((gd p 3).rows.length:Int),.i 0,gd p 0,gd p 1,gd p 2,gd p 3,gd p 4,gd p 5,gd p 6,gd p 7,gd p 8])==6) (s_ShardOks2 N p (iter (s_ShardOkL4 N p) N [gd p 0,gd p 1,gd p 2,gd p 3,gd p 4,gd p 5,gd p 6,gd p 7,gd p 8,.i 0,.i 0,.i ((gd p 2).rows.length:Int),.i ((gd p 3).rows.length:Int),.i 0,gd p 0,gd p 1,gd p 2,gd p 3,gd p 4,gd p 5,gd p 6,gd p 7,gd p 8]))) from by kernel_rfl]
 rw [s_ShardOkI4 p N (by omega) (hl 4 (by simp))]
 cases shardA p 4 4 shardC4
 ·rfl
 ·show s_ShardOks2 N p (some (6,[gd p 0,gd p 1,gd p 2,gd p 3,gd p 4,gd p 5,gd p 6,gd p 7,gd p 8,.i 0,.i 0,.i ((gd p 2).rows.length:Int),.i ((gd p 3).rows.length:Int),.i ((gd p 4).rows.length:Int),gd p 0,gd p 1,gd p 2,gd p 3,gd p 4,gd p 5,gd p 6,gd p 7,gd p 8]))=ob (true&&(shardA p 6 6 shardC6&&(shardSum p)))
  rw [Bool.true_and]
  exact s_ShardOkx2 p N hN hl h5 h3
theorem s_ShardOkx4 (p:List D) (N:Nat) (hN:((gd p 2).rows.length+(gd p 3).rows.length+(gd p 4).rows.length+(gd p 6).rows.length+1)≤N) (hl:∀ j,j ∈ [2,3,4,6]→(gd p j).rows.length≤9223372036854775807) (h5:leI ((gd p 5).rows.length:Int) 60=true) (h3:storeOk (gd p 3)=true):s_ShardOks4 N p (some (2,[gd p 0,gd p 1,gd p 2,gd p 3,gd p 4,gd p 5,gd p 6,gd p 7,gd p 8,.i 0,.i 0,.i ((gd p 2).rows.length:Int),gd p 0,gd p 1,gd p 2,gd p 3,gd p 4,gd p 5,gd p 6,gd p 7,gd p 8]))=ob (shardA p 3 2 shardC2&&(shardA p 4 4 shardC4&&(shardA p 6 6 shardC6&&(shardSum p)))):=by
 rw [show s_ShardOks4 N p (some (2,[gd p 0,gd p 1,gd p 2,gd p 3,gd p 4,gd p 5,gd p 6,gd p 7,gd p 8,.i 0,.i 0,.i ((gd p 2).rows.length:Int),gd p 0,gd p 1,gd p 2,gd p 3,gd p 4,gd p 5,gd p 6,gd p 7,gd p 8]))=nd (iter (s_ShardOkL2 N p) N [gd p 0,gd p 1,gd p 2,gd p 3,gd p 4,gd p 5,gd p 6,gd p 7,gd p 8,.i 0,.i 0,.i ((gd p 2).rows.length:Int),.i 0,gd p 0,gd p 1,gd p 2,gd p 3,gd p 4,gd p 5,gd p 6,gd p 7,gd p 8]).isSome (bif Out.code (iter (s_ShardOkL2 N p) N [gd p 0,gd p 1,gd p 2,gd p 3,gd p 4,gd p 5,gd p 6,gd p 7,gd p 8,.i 0,.i 0,.i ((gd p 2).rows.length:Int),.i 0,gd p 0,gd p 1,gd p 2,gd p 3,gd p 4,gd p 5,gd p 6,gd p 7,gd p 8])==1 then some (1,Out.pay (iter (s_ShardOkL2 N p) N [gd p 0,gd p 1,gd p 2,gd p 3,gd p 4,gd p 5,gd p 6,gd p 7,gd p 8,.i 0,.i 0,.i ((gd p 2).rows.length:Int),.i 0,gd p 0,gd p 1,gd p 2,gd p 3,gd p 4,gd p 5,gd p 6,gd p 7,gd p 8])) else nd (Out.code (iter (s_ShardOkL2 N p) N [gd p 0,gd p 1,gd p 2,gd p 3,gd p 4,gd p 5,gd p 6,gd p 7,gd p 8,.i 0,.i 0,.i ((gd p 2).rows.length:Int),.i 0,gd p 0,gd p 1,gd p 2,gd p 3,gd p 4,gd p 5,gd p 6,gd p 7,gd p 8])==4) (s_ShardOks3 N p (iter (s_ShardOkL2 N p) N [gd p 0,gd p 1,gd p 2,gd p 3,gd p 4,gd p 5,gd p 6,gd p 7,gd p 8,.i 0,.i 0,.i ((gd p 2).rows.length:Int),.i 0,gd p 0,gd p 1,gd p 2,gd p 3,gd p 4,gd p 5,gd p 6,gd p 7,gd p 8]))) from by kernel_rfl]
 rw [s_ShardOkI2 p N (by omega) (hl 3 (by simp))]
 cases shardA p 3 2 shardC2
 ·rfl
 ·show s_ShardOks3 N p (some (4,[gd p 0,gd p 1,gd p 2,gd p 3,gd p 4,gd p 5,gd p 6,gd p 7,gd p 8,.i 0,.i 0,.i ((gd p 2).rows.length:Int),.i ((gd p 3).rows.length:Int),gd p 0,gd p 1,gd p 2,gd p 3,gd p 4,gd p 5,gd p 6,gd p 7,gd p 8]))=ob (true&&(shardA p 4 4 shardC4&&(shardA p 6 6 shardC6&&(shardSum p))))
  rw [Bool.true_and]
  exact s_ShardOkx3 p N hN hl h5 h3
theorem s_ShardOkx5 (p:List D) (N:Nat) (hN:((gd p 2).rows.length+(gd p 3).rows.length+(gd p 4).rows.length+(gd p 6).rows.length+1)≤N) (hl:∀ j,j ∈ [2,3,4,6]→(gd p j).rows.length≤9223372036854775807) (h5:leI ((gd p 5).rows.length:Int) 60=true) (h3:storeOk (gd p 3)=true):s_ShardOks5 N p=ob (shardA p 2 0 shardC0&&(shardA p 3 2 shardC2&&(shardA p 4 4 shardC4&&(shardA p 6 6 shardC6&&(shardSum p))))):=by
 rw [show s_ShardOks5 N p=nd (iter (s_ShardOkL0 N p) N [gd p 0,gd p 1,gd p 2,gd p 3,gd p 4,gd p 5,gd p 6,gd p 7,gd p 8,.i 0,.i 0,.i 0,gd p 0,gd p 1,gd p 2,gd p 3,gd p 4,gd p 5,gd p 6,gd p 7,gd p 8]).isSome (bif Out.code (iter (s_ShardOkL0 N p) N [gd p 0,gd p 1,gd p 2,gd p 3,gd p 4,gd p 5,gd p 6,gd p 7,gd p 8,.i 0,.i 0,.i 0,gd p 0,gd p 1,gd p 2,gd p 3,gd p 4,gd p 5,gd p 6,gd p 7,gd p 8])==1 then some (1,Out.pay (iter (s_ShardOkL0 N p) N [gd p 0,gd p 1,gd p 2,gd p 3,gd p 4,gd p 5,gd p 6,gd p 7,gd p 8,.i 0,.i 0,.i 0,gd p 0,gd p 1,gd p 2,gd p 3,gd p 4,gd p 5,gd p 6,gd p 7,gd p 8])) else nd (Out.code (iter (s_ShardOkL0 N p) N [gd p 0,gd p 1,gd p 2,gd p 3,gd p 4,gd p 5,gd p 6,gd p 7,gd p 8,.i 0,.i 0,.i 0,gd p 0,gd p 1,gd p 2,gd p 3,gd p 4,gd p 5,gd p 6,gd p 7,gd p 8])==2) (s_ShardOks4 N p (iter (s_ShardOkL0 N p) N [gd p 0,gd p 1,gd p 2,gd p 3,gd p 4,gd p 5,gd p 6,gd p 7,gd p 8,.i 0,.i 0,.i 0,gd p 0,gd p 1,gd p 2,gd p 3,gd p 4,gd p 5,gd p 6,gd p 7,gd p 8]))) from by kernel_rfl]
 rw [s_ShardOkI0 p N (by omega) (hl 2 (by simp))]
 cases shardA p 2 0 shardC0
 ·rfl
 ·show s_ShardOks4 N p (some (2,[gd p 0,gd p 1,gd p 2,gd p 3,gd p 4,gd p 5,gd p 6,gd p 7,gd p 8,.i 0,.i 0,.i ((gd p 2).rows.length:Int),gd p 0,gd p 1,gd p 2,gd p 3,gd p 4,gd p 5,gd p 6,gd p 7,gd p 8]))=ob (true&&(shardA p 3 2 shardC2&&(shardA p 4 4 shardC4&&(shardA p 6 6 shardC6&&(shardSum p)))))
  rw [Bool.true_and]
  exact s_ShardOkx4 p N hN hl h5 h3
theorem ob_step {a g:Bool} {x:Out} (h:a=true→x=ob g):(bif !a then ob false else x)=ob (a&&g):=by
 cases a
 ·rfl
 ·exact h rfl
def s_ShardOkE:Ent:=(91,e1 (ag rIShard) fun p=>(⟨rb,[.b (shardOk p)]⟩,true))
theorem s_ShardOk_ok:EntOk Tryz.prog s_ShardOkE:=e1_ok fun p h=>evFn_sound (N:=((gd p 2).rows.length+(gd p 3).rows.length+(gd p 4).rows.length+(gd p 6).rows.length+1)) (ks:=s_ShardOkK) (key:=bo) s_ShardOkT_ok (enters Tryz.func91) Tryz.func91 fun hw=>by
 rw [s_ShardOk_ev]
 have hl:∀ j,j ∈ [2,3,4,6]→(gd p j).rows.length≤9223372036854775807:=by
  intro j hj
  simp only [List.mem_cons,List.not_mem_nil,or_false] at hj
  rcases hj with rfl | rfl | rfl | rfl <;> exact wt_at (hw ⟨ag rIShard,p⟩ (by simp)) rfl
 refine congrArg (fun x=>some (bo,x)) ?_
 show s_ShardOks10 ((gd p 2).rows.length+(gd p 3).rows.length+(gd p 4).rows.length+(gd p 6).rows.length+1) p=ob (shardOk p)
 unfold s_ShardOks10 s_ShardOks9 s_ShardOks8 s_ShardOks7 s_ShardOks6 shardOk
 simp only [lt60]
 refine ob_step fun _=>?_
 refine ob_step fun _=>?_
 refine ob_step fun _=>?_
 refine ob_step fun h3=>?_
 refine ob_step fun _=>?_
 refine ob_step fun _=>?_
 refine ob_step fun h5=>?_
 refine ob_step fun _=>?_
 refine ob_step fun _=>?_
 refine ob_step fun _=>?_
 refine ob_step fun _=>?_
 exact s_ShardOkx5 p _ (Nat.le_refl _) hl h5 h3
end Go.Proofs.YtpdfmcmnjikppaaGreat
namespace Go.Proofs.YtpdfmcmnjikppaaGreat
set_option maxRecDepth 4096
set_option maxHeartbeats 1000000
end Go.Proofs.YtpdfmcmnjikppaaGreat
namespace Go.Proofs
open Go.Shelf
def Tryz.lays189_ren:Go.Shelf.Ren:=⟨fun | 189=>161 | 125=>236 | 257=>235 | 128=>268 | 129=>269 | 294=>260 | 295=>261 | 296=>262 | 297=>263 | 298=>264 | 299=>265 | 216=>214 | 300=>266 | 301=>267 | 328=>287 | 329=>288 | 330=>289 | 331=>290 | 332=>291 | 215=>255 | 343=>298 | n=>n,fun | 28=>26 | 3=>3 | 46=>187 | 0=>0 | 51=>228 | 53=>230 | 4=>4 | 183=>222 | 182=>221 | 131=>128 | 5=>5 | 9=>9 | 218=>240 | 222=>244 | 228=>249 | 229=>250 | n=>n,fun | n=>n⟩
theorem Tryz.lays189:Go.Proofs.Lays.n189 Tryz.prog Tryz.lays189_ren:={ mixed:=by kernel_rfl,f125:=Tryz.func236.trans (congrArg some (by kernel_rfl)),f128:=Tryz.func268.trans (congrArg some (by kernel_rfl)),f129:=Tryz.func269.trans (congrArg some (by kernel_rfl)),f189:=Tryz.func161.trans (congrArg some (by kernel_rfl)),f215:=Tryz.func255.trans (congrArg some (by kernel_rfl)),f216:=Tryz.func214.trans (congrArg some (by kernel_rfl)),f257:=Tryz.func235.trans (congrArg some (by kernel_rfl)),f294:=Tryz.func260.trans (congrArg some (by kernel_rfl)),f295:=Tryz.func261.trans (congrArg some (by kernel_rfl)),f296:=Tryz.func262.trans (congrArg some (by kernel_rfl)),f297:=Tryz.func263.trans (congrArg some (by kernel_rfl)),f298:=Tryz.func264.trans (congrArg some (by kernel_rfl)),f299:=Tryz.func265.trans (congrArg some (by kernel_rfl)),f300:=Tryz.func266.trans (congrArg some (by kernel_rfl)),f301:=Tryz.func267.trans (congrArg some (by kernel_rfl)),f328:=Tryz.func287.trans (congrArg some (by kernel_rfl)),f329:=Tryz.func288.trans (congrArg some (by kernel_rfl)),f330:=Tryz.func289.trans (congrArg some (by kernel_rfl)),f331:=Tryz.func290.trans (congrArg some (by kernel_rfl)),f332:=Tryz.func291.trans (congrArg some (by kernel_rfl)),f343:=Tryz.func298.trans (congrArg some (by kernel_rfl)),t0:=Tryz.underlying0,a0:=Tryz.isAgg0,z0:=Tryz.sizeOf0,v0:=Tryz.zeroValue0,t3:=Tryz.underlying3,a3:=Tryz.isAgg3,z3:=Tryz.sizeOf3,v3:=Tryz.zeroValue3,t4:=Tryz.underlying4,a4:=Tryz.isAgg4,z4:=Tryz.sizeOf4,v4:=Tryz.zeroValue4,t5:=Tryz.underlying5,a5:=Tryz.isAgg5,z5:=Tryz.sizeOf5,v5:=Tryz.zeroValue5,t9:=Tryz.underlying9,a9:=Tryz.isAgg9,z9:=Tryz.sizeOf9,v9:=Tryz.zeroValue9,t28:=Tryz.underlying26,a28:=Tryz.isAgg26,z28:=Tryz.sizeOf26,v28:=Tryz.zeroValue26,t46:=Tryz.underlying187,a46:=Tryz.isAgg187,z46:=Tryz.sizeOf187,v46:=Tryz.zeroValue187,t51:=Tryz.underlying228,a51:=Tryz.isAgg228,z51:=Tryz.sizeOf228,v51:=Tryz.zeroValue228,t53:=Tryz.underlying230,a53:=Tryz.isAgg230,z53:=Tryz.sizeOf230,v53:=Tryz.zeroValue230,t131:=Tryz.underlying128,a131:=Tryz.isAgg128,z131:=Tryz.sizeOf128,v131:=Tryz.zeroValue128,t182:=Tryz.underlying221,a182:=Tryz.isAgg221,z182:=Tryz.sizeOf221,v182:=Tryz.zeroValue221,t183:=Tryz.underlying222,a183:=Tryz.isAgg222,z183:=Tryz.sizeOf222,v183:=Tryz.zeroValue222,t218:=Tryz.underlying240,a218:=Tryz.isAgg240,z218:=Tryz.sizeOf240,v218:=Tryz.zeroValue240,t222:=Tryz.underlying244,a222:=Tryz.isAgg244,z222:=Tryz.sizeOf244,v222:=Tryz.zeroValue244,t228:=Tryz.underlying249,a228:=Tryz.isAgg249,z228:=Tryz.sizeOf249,v228:=Tryz.zeroValue249,t229:=Tryz.underlying250,a229:=Tryz.isAgg250,z229:=Tryz.sizeOf250,v229:=Tryz.zeroValue250 }
def Tryz.laysNm220_ren:Go.Shelf.Ren:=⟨fun | 20=>162 | n=>n,fun | 22=>26 | 3=>3 | 4=>4 | 0=>0 | n=>n,fun | n=>n⟩
theorem Tryz.laysNm220:Go.Proofs.Lays2.n20 Tryz.prog Tryz.laysNm220_ren:={ mixed:=by kernel_rfl,f20:=Tryz.func162.trans (congrArg some (by kernel_rfl)),t0:=Tryz.underlying0,a0:=Tryz.isAgg0,z0:=Tryz.sizeOf0,v0:=Tryz.zeroValue0,t3:=Tryz.underlying3,a3:=Tryz.isAgg3,z3:=Tryz.sizeOf3,v3:=Tryz.zeroValue3,t4:=Tryz.underlying4,a4:=Tryz.isAgg4,z4:=Tryz.sizeOf4,v4:=Tryz.zeroValue4,t22:=Tryz.underlying26,a22:=Tryz.isAgg26,z22:=Tryz.sizeOf26,v22:=Tryz.zeroValue26,i3:=by kernel_rfl }
def Tryz.laysNm215_ren:Go.Shelf.Ren:=⟨fun | 15=>163 | n=>n,fun | 22=>26 | 3=>3 | 4=>4 | n=>n,fun | n=>n⟩
theorem Tryz.laysNm215:Go.Proofs.Lays2.n15 Tryz.prog Tryz.laysNm215_ren:={ mixed:=by kernel_rfl,f15:=Tryz.func163.trans (congrArg some (by kernel_rfl)),t3:=Tryz.underlying3,a3:=Tryz.isAgg3,z3:=Tryz.sizeOf3,v3:=Tryz.zeroValue3,t4:=Tryz.underlying4,a4:=Tryz.isAgg4,z4:=Tryz.sizeOf4,v4:=Tryz.zeroValue4,t22:=Tryz.underlying26,a22:=Tryz.isAgg26,z22:=Tryz.sizeOf26,v22:=Tryz.zeroValue26,i3:=by kernel_rfl }
def Tryz.growI_ren:Go.Shelf.Ren:=⟨fun | 4=>233 | n=>n,fun | 22=>26 | 25=>3 | 3=>3 | 4=>4 | 9=>9 | 20=>20 | 0=>0 | n=>n,fun | n=>n⟩
theorem Tryz.growI:Go.Proofs.Lays8.n4 Tryz.prog Tryz.growI_ren:={ mixed:=by kernel_rfl,f4:=⟨Tryz.f233.name,by decide,Tryz.func233.trans (congrArg some (by kernel_rfl))⟩,t0:=Tryz.underlying0,a0:=Tryz.isAgg0,z0:=Tryz.sizeOf0,v0:=Tryz.zeroValue0,t3:=Tryz.underlying3,a3:=Tryz.isAgg3,z3:=Tryz.sizeOf3,v3:=Tryz.zeroValue3,t4:=Tryz.underlying4,a4:=Tryz.isAgg4,z4:=Tryz.sizeOf4,v4:=Tryz.zeroValue4,t9:=Tryz.underlying9,a9:=Tryz.isAgg9,z9:=Tryz.sizeOf9,v9:=Tryz.zeroValue9,t20:=Tryz.underlying20,a20:=Tryz.isAgg20,z20:=Tryz.sizeOf20,v20:=Tryz.zeroValue20,t22:=Tryz.underlying26,a22:=Tryz.isAgg26,z22:=Tryz.sizeOf26,v22:=Tryz.zeroValue26 }
end Go.Proofs
namespace Go.Proofs.YtpdfmcmnjikppaaGreat
open Go.RowKit (Below)
def numsOf (z:D):List Int:=z.rows.map fun r=>(gd r 0).int
def numsD (xs:List Int):D:=.l (xs.map fun n => [.i n])
def sortL (xs:List Int):List Int:=xs.mergeSort fun x y=>decide (x≤y)
def sortD (z:D):D:=numsD (sortL (numsOf z))
def compD (z:D):D:=numsD (Lib.compact (numsOf z))
theorem numsOf_len (z:D):(numsOf z).length=z.rows.length:=by simp [numsOf]
theorem numsD_rows (xs:List Int):(numsD xs).rows=xs.map fun n => [.i n]:=rfl
theorem numsD_len (xs:List Int):(numsD xs).rows.length=xs.length:=by simp [numsD,D.rows]
theorem numsD_at (xs:List Int) (i:Nat) (h:i<xs.length):(gd ((numsD xs).rows.getD i []) 0).int=xs[i]:=by
 rw [numsD_rows,List.getD_eq_getElem?_getD,List.getElem?_map,List.getElem?_eq_getElem h]
 rfl
theorem numsOf_at (z:D) (i:Nat) (h:i<z.rows.length):(numsOf z)[i]?=some (gd (z.rows.getD i []) 0).int:=by
 simp [numsOf,List.getD_eq_getElem?_getD,List.getElem?_eq_getElem h]
theorem numsOf_numsD (xs:List Int):numsOf (numsD xs)=xs:=by
 unfold numsOf
 rw [numsD_rows,List.map_map]
 have:((fun r=>(gd r 0).int) ∘ fun n:Int => [D.i n])=id:=by funext n; rfl
 rw [this,List.map_id]
theorem sortL_len (xs:List Int):(sortL xs).length=xs.length:=List.length_mergeSort xs
theorem comp_le (xs:List Int):(Lib.compact xs).length≤xs.length:=by
 unfold Lib.compact Lib.compactUpTo
 rw [List.length_map]
 exact Nat.le_trans (List.length_filter_le _ _) (by simp)
theorem writ_put {w:World} {b n:Nat} {arr:Array Value} {e:TypeId} {d:Array Int} {os:Array Obj} {rows:List (List D)} (hh:w.heap[b]?=some (.cells arr e (0,0))) (hd:d.size≤arr.size)
  (hr:∀ i,i<rows.length→i<d.size∧d[i]! = (gd (rows.getD i []) 0).int):Writ b e arr rows w (Go.Sort.grow (Go.Sort.putRow (Value.int .i64) (Go.Sort.ahead w n) b 0 d) os):=by
 have hb:=lt_of_heap hh
 have h1:(Go.Sort.grow (Go.Sort.putRow (Value.int .i64) (Go.Sort.ahead w n) b 0 d) os).heap=w.heap.modify b (Go.Sort.onCells (Go.Sort.putCells (Value.int .i64) 0 d))++os:=rfl
 have h2:∀ k,k<w.heap.size→(Go.Sort.grow (Go.Sort.putRow (Value.int .i64) (Go.Sort.ahead w n) b 0 d) os).heap[k]?=if b=k then (w.heap[k]?).map (Go.Sort.onCells (Go.Sort.putCells (Value.int .i64) 0 d)) else w.heap[k]?:=fun k hk=>by
  rw [h1,Array.getElem?_append_left (by simpa using hk),Array.getElem?_modify]
 refine ⟨⟨rfl,rfl,rfl,by rw [h1]; simp,fun k hk=>by omega⟩,fun k hk hne=>by rw [h2 k hk,if_neg (Ne.symm hne)],Go.Sort.putCells (Value.int .i64) 0 d arr,?_,?_,?_⟩
 ·rw [h2 b hb,if_pos rfl,hh]; rfl
 ·simp [Go.Sort.putCells]
 ·intro i hi
  obtain ⟨q1,q2⟩:=hr i hi
  have hlt:i<arr.size:=by omega
  unfold Go.Sort.putCells
  rw [Array.getElem?_mapIdx,Array.getElem?_eq_getElem hlt]
  rw [getElem!_pos d i q1] at q2
  simp only [← q2]
  simp [q1]
theorem holds_nums {w:World} {b:Nat} {arr:Array Value} {e:TypeId} {x:D} (hh:w.heap[b]?=some (.cells arr e (0,0))) (hle:x.rows.length≤arr.size) (hc:∀ i,i<x.rows.length→arr[i]?=some (.int .i64 (gd (x.rows.getD i []) 0).int)) :
  Go.Sort.Holds (Value.int .i64) w b 0 (numsOf x).toArray:=by
 intro j hj
 have hj:j<x.rows.length:=by simpa [numsOf] using hj
 refine ⟨?_,?_⟩
 ·have e1:(numsOf x).toArray[j]! = (gd (x.rows.getD j []) 0).int:=by
   have:=numsOf_at x j hj
   simp [getElem!_def,this]
  rw [e1]
  simp only [World.cell?,hh,Nat.zero_add]
  exact hc j hj
 ·simp [World.frozen?,hh]
def i_sortE:Ent:=(161,e1 (sd (.sl 3)) fun p=>(⟨.tup [.c .any],[sortD (gd p 0)]⟩,leI ((gd p 0).rows.length:Int) 1000000000))
theorem i_sort_ok:EntOk Tryz.prog i_sortE:=e1_ok fun p h=>by
 have h:leI ((gd p 0).rows.length:Int) 1000000000=true:=h
 simp only [leI,decide_eq_true_eq] at h
 refine SoundFn.ofW rfl ⟨enters Tryz.func161 (by kernel_rfl) (by kernel_rfl),fun e x he hrow=>?_⟩
 injection he with he _
 injection he with he hp
 injection he with he
 injection he with he
 injection he with he
 injection he with he
 subst he
 subst hp
 have hx:gd [x] 0=x:=rfl
 rw [hx] at h
 refine ⟨fun h0=>⟨?_,fun A w=>?_⟩,fun w b cap arr hh hsz hle hc hnum=>⟨?_,fun _=>?_,?_⟩⟩
 ·show (sortD x).rows = []
  have:numsOf x = []:=by unfold numsOf; rw [h0]; rfl
  exact List.eq_nil_of_length_eq_zero (by rw [sortD,numsD_len,sortL_len,this]; rfl)
 ·refine (Any.slices_Sort_int_none Tryz.lays189 A 0 w).mono ?_
  rintro ex w' ⟨rfl,rfl⟩
  exact ⟨rfl,Below.refl _ _⟩
 ·show (sortD x).rows.length≤_
  rw [sortD,numsD_len,sortL_len,numsOf_len]
  exact Nat.le_refl _
 ·show (sortD x).rows.length=_
  rw [sortD,numsD_len,sortL_len,numsOf_len]
 ·have hl:=numsOf_len x
  have hs:=Any.slices_Sort_int Tryz.lays189 b 0 cap (numsOf x) w (holds_nums hh (by omega) hnum) (lt_of_heap hh) (by omega)
  rw [hl] at hs
  refine hs.mono ?_
  rintro ex w' ⟨rfl,n,os,rfl⟩
  refine ⟨rfl,writ_put hh (by simp [hl]; omega) fun i hi=>?_⟩
  have hi:i<(sortL (numsOf x)).length:=by
   have hi:i<(sortD x).rows.length:=hi
   rwa [sortD,numsD_len] at hi
  refine ⟨by simpa [sortL] using hi,?_⟩
  show _=(gd ((sortD x).rows.getD i []) 0).int
  rw [sortD,numsD_at _ _ hi]
  have hi':i<((numsOf x).mergeSort fun x y=>decide (x≤y)).length:=hi
  simp [getElem!_def,List.getElem?_eq_getElem hi',sortL]
def i_compE:Ent:=(162,e1 (sd (.sl 3)) fun p=>(⟨.tup [.agg []],[compD (gd p 0)]⟩,leI ((gd p 0).rows.length:Int) 1000000000))
theorem i_comp_ok:EntOk Tryz.prog i_compE:=e1_ok fun p h=>by
 have h:leI ((gd p 0).rows.length:Int) 1000000000=true:=h
 simp only [leI,decide_eq_true_eq] at h
 refine SoundFn.ofW rfl ⟨enters Tryz.func162 (by kernel_rfl) (by kernel_rfl),fun e x he hrow=>?_⟩
 injection he with he _
 injection he with he hp
 injection he with he
 injection he with he
 injection he with he
 injection he with he
 subst he
 subst hp
 have hx:gd [x] 0=x:=rfl
 rw [hx] at h
 have hcl:∀ x:D,(compD x).rows.length=(Lib.compact (numsOf x)).length:=fun x=>numsD_len _
 refine ⟨fun h0=>⟨?_,fun A w=>?_⟩,fun w b cap arr hh hsz hle hc hnum=>⟨?_,?_,?_⟩⟩
 ·show (compD x).rows = []
  have:numsOf x = []:=by unfold numsOf; rw [h0]; rfl
  unfold compD
  rw [this]; rfl
 ·refine (Any.slices_Compact_int_empty Tryz.laysNm220 A 0 w).mono ?_
  rintro ex w' ⟨rfl,rfl⟩
  exact ⟨rfl,Below.refl _ _⟩
 ·show (compD x).rows.length≤_
  rw [hcl,← numsOf_len]
  exact comp_le _
 ·rintro ⟨c,hc⟩
  cases hc
 ·have hl:=numsOf_len x
  have hcle:=comp_le (numsOf x)
  have hs:=Any.slices_Compact_int Tryz.laysNm220 b 0 cap (numsOf x) w (holds_nums hh (by omega) hnum) (by omega) (by omega)
  rw [hl] at hs
  refine hs.mono ?_
  rintro ex w' ⟨rfl,n,rfl⟩
  refine ⟨?_,?_⟩
  ·show _=Ending.returned (.slice (some ⟨b,0,none⟩) (compD x).rows.length cap)
   rw [hcl]
  ·have:=writ_put (os:= #[]) (n:=n) (rows:=(compD x).rows) (d:=(Lib.compact (numsOf x)++List.replicate (x.rows.length - (Lib.compact (numsOf x)).length) 0).toArray) hh (by simp; omega) fun i hi=>?_
   ·rw [Go.Sort.grow_empty] at this
    exact this
   ·rw [hcl] at hi
    refine ⟨by simp; omega,?_⟩
    rw [compD,numsD_at _ _ hi]
    simp [getElem!_def,List.getElem?_append_left hi,List.getElem?_eq_getElem hi]
theorem res_own {P:Program} {prot:Nat→Nat} {w w':World} {e:TypeId} {x:D} {v:Value} (hrow:rowOf P e=some [.int .i64]) (hfr:∀ b,w.heap.size≤b→prot b=0) (hb:Below w.heap.size w w') (ho:w'.ownsRow w.heap.size e 1 v x.rows.length ((numsOf x).map (Value.int .i64))) :
  ∃ g',Res P prot w w' ⟨.one (.c (.own (0,0) true e)),[x]⟩ v g':=by
 obtain ⟨hl,⟨rfl,h0⟩ | ⟨blk,cap,cur,rfl,hblk,hh,hcap,hmax,hsz,htk⟩⟩:=ho
 ·exact ⟨g0 0 prot,hb,⟨[.int .i64],hrow,.inl ⟨List.eq_nil_of_length_eq_zero h0,rfl,none,rfl⟩⟩,fun _ _=>rfl,fun b hb'=>⟨hfr b (Nat.le_trans hb.size hb'),rfl⟩⟩
 ·refine ⟨⟨prot,fun b=>if b=blk then some (.inr (0,0)) else none,fun _=>0,fun _=>blk,fun _=>x.rows.length,fun _=>1,fun _=>e,fun _ => [],fun _=>0,fun _=>False⟩,hb,⟨[.int .i64],hrow,.inr ⟨cap,cur,e,rfl,hcap,⟨by unfold maxLen at hmax; omega,rfl,rfl⟩,hblk,if_pos rfl,hh,by simpa using hsz,rfl,rfl,?_,?_⟩⟩,fun _ _=>rfl,fun b hb'=>⟨hfr b (Nat.le_trans hb.size hb'),?_⟩⟩
  ·show prot blk=0
   exact hfr blk hblk
  ·intro i j s hi hs
   have hi:i<x.rows.length:=hi
   match j,hs with
   | 0,hs =>
    injection hs with hs
    subst hs
    refine ⟨.int .i64 (gd (x.rows.getD i []) 0).int,?_,.of_vd (.int .i64 _) (.inr rfl)⟩
    have e1:(cur.toList.take (x.rows.length*1))[i]?=some (Value.int .i64 (gd (x.rows.getD i []) 0).int):=by
     rw [htk,List.getElem?_map,numsOf_at x i hi]; rfl
    rw [List.getElem?_take,if_pos (by omega)] at e1
    simpa using e1
  ·have:=lt_of_heap hh
   exact if_neg (by omega)
def i_clonE:Ent:=(163,e1 (sd (.sl 3)) fun p=>(⟨.one (.c (.own (0,0) true 3)),[.l (gd p 0).rows]⟩,leI ((gd p 0).rows.length:Int) 1000000000))
theorem i_clon_ok:EntOk Tryz.prog i_clonE:=e1_ok fun p h=>by
 have h:leI ((gd p 0).rows.length:Int) 1000000000=true:=h
 simp only [leI,decide_eq_true_eq] at h
 have hrow:rowOf Tryz.prog 3=some [.int .i64]:=by kernel_rfl
 refine SoundFn.of rfl ⟨enters Tryz.func163 (by kernel_rfl) (by kernel_rfl),fun w prot vs hargs hfr=>?_⟩
 obtain ⟨u,hu,hv⟩:=hargs.2 0 _ rfl
 have hvs:vs = #[u]:=by
  have hs:vs.size=1:=hargs.1
  refine Array.ext (by simpa using hs) fun i h1 h2=>?_
  have:i=0:=by omega
  subst this
  rw [Array.getElem?_eq_getElem h1] at hu
  injection hu
 subst hvs
 have hv:VD Tryz.prog w prot (.sl 3) (gd p 0) u:=hv
 generalize gd p 0=x at *
 cases hv with
 | sl e d A c row uu hr h1 h2 h3 h4 =>
  rw [hrow] at hr
  injection hr with hr
  subst hr
  cases A with
  | none =>
   have h0:x.rows.length=0:=by
    rcases Nat.eq_zero_or_pos x.rows.length with h' | h'
    ·exact h'
    ·obtain ⟨b,o,hA,_⟩:=h3 0 0 h' (by decide)
     cases hA
   have hx0:x.rows = []:=List.eq_nil_of_length_eq_zero h0
   refine (Any.slices_Clone_int_nil Tryz.laysNm215 x.rows.length c w).mono ?_
   rintro ex w' ⟨rfl,rfl⟩
   obtain ⟨g',hg⟩:=res_own (x:=x) (prot:=prot) (w:=w') (w':=w') hrow hfr (Below.refl _ _) (v:=.slice none 0 0) ⟨by simp [numsOf],.inl ⟨rfl,h0⟩⟩
   exact ⟨_,g',rfl,hg.below,hg.val,hg.prot,hg.fresh⟩
  | some ad =>
   rcases Nat.eq_zero_or_pos x.rows.length with h0 | hpos
   ·have hx0:x.rows = []:=List.eq_nil_of_length_eq_zero h0
    rw [h0]
    refine (Any.slices_Clone_int_zero Tryz.laysNm215 ad c w).mono ?_
    rintro ex w' ⟨v',rfl,hown,_,hbel⟩
    obtain ⟨g',hg⟩:=res_own (x:=x) (prot:=prot) hrow hfr hbel (v:=v') (by
     have e1:numsOf x = []:=by unfold numsOf; rw [hx0]; rfl
     rw [h0,e1]; exact hown)
    exact ⟨_,g',rfl,hg.below,hg.val,hg.prot,hg.fresh⟩
   ·obtain ⟨b,o,hA,_⟩:=h3 0 0 hpos (by decide)
    injection hA with hA
    subst hA
    have hl:=numsOf_len x
    refine (Any.slices_Clone_int Tryz.laysNm215 b o x.rows.length c (numsOf x) w (by omega) (by omega) (fun j hj=>?_)).mono ?_
    ·have hj:j<x.rows.length:=by rw [← hl]; exact hj
     obtain ⟨b',o',hA,hc,_⟩:=h3 j 0 hj (by decide)
     simp only [Option.some.injEq,Addr.mk.injEq] at hA
     obtain ⟨rfl,rfl,_⟩:=hA
     have hvv:=h4 j 0 (.int .i64) hj rfl
     generalize uu j 0=uv at *
     cases hvv
     have e1:(numsOf x).getD j 0=(gd (x.rows.getD j []) 0).int:=by
      rw [List.getD_eq_getElem?_getD,numsOf_at x j hj]; rfl
     rw [e1]
     simpa using hc
    ·rintro ex w' ⟨v',rfl,hown,_,hbel⟩
     obtain ⟨g',hg⟩:=res_own (x:=x) (prot:=prot) hrow hfr hbel (v:=v') (by
      rw [List.take_of_length_le (by omega)] at hown; exact hown)
     exact ⟨_,g',rfl,hg.below,hg.val,hg.prot,hg.fresh⟩
def i_growE:Ent:=(233,e2 (.one (.c (.own (0,0) true 3))) ri fun p q=>(⟨.one (.c (.own (0,0) true 3)),[.l []]⟩,leI 0 (gd q 0).int&&leI (gd q 0).int 1000000000))
theorem i_grow_ok:EntOk Tryz.prog i_growE:=e2_ok fun p q h=>by
 have h:(leI 0 (gd q 0).int&&leI (gd q 0).int 1000000000)=true:=h
 simp only [Bool.and_eq_true,leI,decide_eq_true_eq] at h
 have hrow:rowOf Tryz.prog 3=some [.int .i64]:=by kernel_rfl
 refine SoundFn.of rfl ⟨enters Tryz.func233 (by kernel_rfl) (by kernel_rfl),fun w prot vs hargs hfr=>?_⟩
 obtain ⟨u,hu,hv⟩:=hargs.2 0 _ rfl
 obtain ⟨u1,hu1,hv1⟩:=hargs.2 1 _ rfl
 have hvs:vs = #[u,u1]:=by
  have hs:vs.size=2:=hargs.1
  refine Array.ext (by simpa using hs) fun i h1 h2=>?_
  have:i=0∨i=1:=by omega
  rcases this with rfl | rfl
  ·rw [Array.getElem?_eq_getElem h1] at hu
   injection hu
  ·rw [Array.getElem?_eq_getElem h1] at hu1
   injection hu1
 subst hvs
 have hv1:VD Tryz.prog w prot (.int .i64) (gd q 0) u1:=hv1
 obtain ⟨row,_,hown⟩:=hv
 generalize gd q 0=y at *
 cases hv1
 rcases hown with ⟨_,_,A,rfl⟩ | ⟨_,_,_,_,_,_,_,ho,_⟩
 ·obtain ⟨n,hn⟩:∃ n:Nat,y.int=n:=⟨y.int.toNat,by omega⟩
  rw [hn]
  rcases Nat.eq_zero_or_pos n with rfl | hpos
  ·refine (Any8.slices_Grow_room Tryz.growI A 0 0 0 w (by omega) (by omega) (by omega) (by omega)).mono ?_
   rintro ex w' ⟨rfl,rfl⟩
   exact ⟨_,g0 0 prot,rfl,Below.refl _ _,⟨[.int .i64],hrow,.inl ⟨rfl,rfl,A,rfl⟩⟩,fun _ _=>rfl,fun b hb'=>⟨hfr b hb',rfl⟩⟩
  ·obtain ⟨i0,hi0,hz0,hs0,hby⟩:=info_parts (P:=Tryz.prog) (e:=3) (z:=.int .i64 0) (size:=1) (bytes:=8) (by kernel_rfl)
   obtain ⟨z,hz⟩:∃ z,z=Value.int .i64 0:=⟨_,rfl⟩
   have hzc:z.cells.size=1:=by rw [hz]; rfl
   rw [← hz] at hz0
   refine (Any8.slices_Grow_grow Tryz.growI i0 z hi0 hz0 (by omega) A 0 0 n [] w (by omega) (by omega) (by rw [hby]; omega) (by omega) (by simp) (fun _=>rfl) (fun a _ j v hj=>by simp at hj)).mono ?_
   rintro ex w' ⟨rfl,rfl⟩
   have hge:=grownCap_ge w (0+n) 0 3
   have hcm:=grownCap_le_maxLen w (0+n) 0 3 (by unfold maxLen; omega)
   obtain ⟨g',hg⟩:=res_own (x:=.l []) (prot:=prot) (w:=w) (w':=w.drew.alloc (.cells ((#[]:Array Value)++Builtin.zeroCells z.cells (0+n - 0)++Builtin.zeroCells z.cells (grownCap w (0+n) 0 3 - (0+n))) 3)) hrow hfr
    ⟨rfl,rfl,rfl,by simp,fun k hk=>Below.heap_alloc w.drew _ k hk⟩ (v:=.slice (some ⟨w.heap.size,0,none⟩) 0 (grownCap w (0+n) 0 3)) ⟨rfl,.inr ⟨w.heap.size,_,_,rfl,Nat.le_refl _,(by letI:Low:=noLow; exact heap_new w.drew _),Nat.zero_le _,hcm,(by simp only [Nat.zero_add] at hge; simp [size_zeroCells,hzc]; omega),rfl⟩⟩
   exact ⟨_,g',rfl,hg⟩
 ·cases ho
theorem keeps_iff (ys:List Int) (hs:ys.Pairwise (· ≤ ·)):(∀ j,j<ys.length→Lib.keeps ys.toArray j=true)↔ys.Nodup:=by
 have hle:∀ i j (hi:i<ys.length) (hj:j<ys.length),i≤j→ys[i]≤ys[j]:=by
  intro i j hi hj h
  rcases Nat.lt_or_ge i j with h | h
  ·exact List.pairwise_iff_getElem.1 hs i j hi hj h
  ·have:i=j:=by omega
   subst this; exact Int.le_refl _
 have hk:∀ j (hj:j<ys.length),j≠0→(Lib.keeps ys.toArray j=true↔ys[j]≠ys[j - 1]):=by
  intro j hj h0
  have hj1:j - 1<ys.length:=by omega
  simp [Lib.keeps,h0,getElem!_def,List.getElem?_eq_getElem hj,List.getElem?_eq_getElem hj1]
 constructor
 ·intro h
  refine List.pairwise_iff_getElem.2 fun i j hi hj hij=>?_
  have h1:=(hk j hj (by omega)).1 (h j hj)
  have h2:=hle i (j - 1) hi (by omega) (by omega)
  have h3:=hle (j - 1) j (by omega) hj (by omega)
  omega
 ·intro h j hj
  by_cases h0:j=0
  ·subst h0; simp [Lib.keeps]
  ·refine (hk j hj h0).2 ?_
   have:=List.pairwise_iff_getElem.1 h (j - 1) j (by omega) hj (by omega)
   exact fun e=>this e.symm
theorem comp_len (ys:List Int) (hs:ys.Pairwise (· ≤ ·)):((Lib.compact ys).length=ys.length)↔ys.Nodup:=by
 rw [← keeps_iff ys hs]
 unfold Lib.compact Lib.compactUpTo
 rw [List.length_map]
 have h:=List.length_filter_eq_length_iff (l:=List.range ys.length) (p:=Lib.keeps ys.toArray)
 rw [List.length_range] at h
 rw [h]
 simp
theorem sortL_pair (xs:List Int):(sortL xs).Pairwise (· ≤ ·):=by
 have h:=List.pairwise_mergeSort (le:=fun x y:Int=>decide (x≤y)) (by intro a b c h1 h2; simp only [decide_eq_true_eq] at *; omega) (by intro a b; simp only [Bool.or_eq_true,decide_eq_true_eq]; omega) xs
 exact h.imp fun h=>by simpa using h
theorem comp_sort (z:D):(compD (sortD z)).rows.length=(sortD z).rows.length↔(numsOf z).Nodup:=by
 unfold compD
 rw [numsD_len]
 unfold sortD
 rw [numsOf_numsD,numsD_len,comp_len _ (sortL_pair _)]
 exact (List.mergeSort_perm (numsOf z) _).nodup_iff
end Go.Proofs.YtpdfmcmnjikppaaGreat
namespace Go.Proofs.YtpdfmcmnjikppaaGreat
set_option maxRecDepth 4096
set_option maxHeartbeats 1000000
abbrev i_ConcatT:FuncId→List T→Option (T × Bool):=find [i_growE]
theorem i_ConcatT_ok:CallOk Tryz.prog i_ConcatT:=find_ok (fC ⟨i_grow_ok,fN⟩)
abbrev i_ConcatK:List Nat:= [0,2,3,5,6,8,9,10,11,12,20,25,26,27,28]
noncomputable def i_ConcatL0 (N:Nat) (p:List D):List D→Out:=loopOf Tryz.prog i_ConcatT N i_ConcatK Tryz.f157 (.one (.c (.own (0,0) true 3))) [⟨sd (.sl 26),p⟩] 0
noncomputable def i_ConcatL2 (N:Nat) (p:List D):List D→Out:=loopOf Tryz.prog i_ConcatT N i_ConcatK Tryz.f157 (.one (.c (.own (0,0) true 3))) [⟨sd (.sl 26),p⟩] 2
theorem i_ConcatR0 (N:Nat) (p:List D) (x0 x1 x2 x3 x4 x5:D):(i_ConcatL0 N p) [x0,x1,x2,x3,x4,x5] =
 bif ltI x5.int x4.int then nd (inRange x5.int x3.rows.length) (bif ltI (w64 (x2.int+((gd (x3.rows.getD x5.int.toNat []) 0).rows.length:Int))) 0 then nd false (nd false (nx [x0,x1,.i (w64 (x2.int+((gd (x3.rows.getD x5.int.toNat []) 0).rows.length:Int))),x3,x4,.i (w64 (x5.int+1))]))
 else nx [x0,x1,.i (w64 (x2.int+((gd (x3.rows.getD x5.int.toNat []) 0).rows.length:Int))),x3,x4,.i (w64 (x5.int+1))])
 else ex 0 [x0,x1,x2,x3,x4,x5]:=by kernel_rfl
theorem i_ConcatR2 (N:Nat) (p:List D) (x0 x1 x2 x3 x4 x5 x6 x7 x8 x9:D):(i_ConcatL2 N p) [x0,x1,x2,x3,x4,x5,x6,x7,x8,x9] =
 bif ltI x9.int x8.int then nd (inRange x9.int x7.rows.length) (nd (lenOk (x6.rows++(gd (x7.rows.getD x9.int.toNat []) 0).rows)&&true) (nx [x0,x1,x2,x3,x4,x5,.l (x6.rows++(gd (x7.rows.getD x9.int.toNat []) 0).rows),x7,x8,.i (w64 (x9.int+1))]))
 else ex 2 [x0,x1,x2,x3,x4,x5,x6,x7,x8,x9]:=by kernel_rfl
theorem i_Concat_ev (N:Nat) (p:List D):evFn Tryz.prog i_ConcatT N i_ConcatK Tryz.f157 (.one (.c (.own (0,0) true 3))) [⟨sd (.sl 26),p⟩]=some (bo,
 (let o0:=iter (i_ConcatL0 N p) N [gd p 0,.l [],.i 0,gd p 0,.i ((gd p 0).rows.length:Int),.i 0]
  nd o0.isSome (nd (o0.code==2) (nd (leI 0 (gd o0.pay 2).int&&leI (gd o0.pay 2).int 1000000000) ((let o2:=iter (i_ConcatL2 N p) N [gd o0.pay 0,gd o0.pay 1,gd o0.pay 2,gd o0.pay 3,gd o0.pay 4,gd o0.pay 5,.l [],gd o0.pay 0,.i ((gd o0.pay 0).rows.length:Int),.i 0]
  nd o2.isSome (nd (o2.code==4) (some (1,[gd o2.pay 6]))))))))):=by kernel_rfl
def concD (x:D):D:=.l ((gd (x.rows.getD 0 []) 0).rows++(gd (x.rows.getD 1 []) 0).rows)
def concOk (x:D):Bool:=x.rows.length==2&&(leI ((gd (x.rows.getD 0 []) 0).rows.length:Int) 100000000&&leI ((gd (x.rows.getD 1 []) 0).rows.length:Int) 100000000)
theorem iter_nx {L:List D→Out} {n:Nat} {p q:List D} (h:L p=nx q):iter L (n+1) p=iter L n q:=by
 show (match L p with | some (0,p')=>iter L n p' | o=>o)=_
 rw [h]; rfl
theorem iter_ex {L:List D→Out} {n c:Nat} {p q:List D} (h:L p=some (c+1,q)):iter L (n+1) p=some (c+1,q):=by
 show (match L p with | some (0,p')=>iter L n p' | o=>o)=_
 rw [h]; rfl
def i_ConcatE:Ent:=(157,e1 (sd (.sl 26)) fun p=>(⟨.one (.c (.own (0,0) true 3)),[concD (gd p 0)]⟩,concOk (gd p 0)))
theorem i_Concat_ok:EntOk Tryz.prog i_ConcatE:=e1_ok fun p h=>evFn_sound (N:=3) (ks:=i_ConcatK) (key:=bo) i_ConcatT_ok (enters Tryz.func157) Tryz.func157 fun hw=>by
 rw [i_Concat_ev]
 have h:concOk (gd p 0)=true:=h
 unfold concOk at h
 simp only [Bool.and_eq_true,leI,decide_eq_true_eq,beq_iff_eq] at h
 obtain ⟨hl,h0,h1⟩:=h
 have hlen:∀ k,k<(gd p 0).rows.length→((gd ((gd p 0).rows.getD k []) 0).rows.length:Int)≤100000000:=fun k hk=>by
  have:k=0∨k=1:=by omega
  rcases this with rfl | rfl <;> assumption
 have s0:∀ (k:Nat) (s:Int),k<(gd p 0).rows.length→0≤s→s≤100000000→i_ConcatL0 3 p [gd p 0,.l [],.i s,gd p 0,.i ((gd p 0).rows.length:Int),.i (k:Int)]=nx [gd p 0,.l [],.i (s+((gd ((gd p 0).rows.getD k []) 0).rows.length:Int)),gd p 0,.i ((gd p 0).rows.length:Int),.i ((k+1:Nat):Int)]:=fun k s hk hs1 hs2=>by
  have:=hlen k hk
  rw [i_ConcatR0]
  simp only [int_i,c_lt hk,nd_ix hk,Int.toNat_natCast]
  rw [w64_id (by omega) (by omega),ltI_f (by omega),cond_false,w64_succ hk (by omega)]
 have s2:∀ (k:Nat) (x2 x3 x4 x5:D) (rs:List (List D)),k<(gd p 0).rows.length→rs.length≤100000000→i_ConcatL2 3 p [gd p 0,.l [],x2,x3,x4,x5,.l rs,gd p 0,.i ((gd p 0).rows.length:Int),.i (k:Int)]=nx [gd p 0,.l [],x2,x3,x4,x5,.l (rs++(gd ((gd p 0).rows.getD k []) 0).rows),gd p 0,.i ((gd p 0).rows.length:Int),.i ((k+1:Nat):Int)]:=fun k x2 x3 x4 x5 rs hk hrs=>by
  have:=hlen k hk
  rw [i_ConcatR2]
  simp only [int_i,rows_l,c_lt hk,nd_ix hk,Int.toNat_natCast]
  rw [lenOk_t (by rw [List.length_append]; omega),w64_succ hk (by omega)]
  rfl
 have e0:iter (i_ConcatL0 3 p) 3 [gd p 0,.l [],.i 0,gd p 0,.i ((gd p 0).rows.length:Int),.i 0]=some (2,[gd p 0,.l [],.i (0+((gd ((gd p 0).rows.getD 0 []) 0).rows.length:Int)+((gd ((gd p 0).rows.getD 1 []) 0).rows.length:Int)),gd p 0,.i ((gd p 0).rows.length:Int),.i ((gd p 0).rows.length:Int)]):=by
  refine Eq.trans (iter_nx (n:=2) (s0 0 0 (by omega) (by omega) (by omega))) (Eq.trans (iter_nx (n:=1) (s0 1 _ (by omega) (by omega) (by omega))) ?_)
  have e:((1+1:Nat):Int)=((gd p 0).rows.length:Int):=by omega
  rw [e]
  refine iter_ex (c:=1) ?_
  rw [i_ConcatR0]
  simp only [int_i,c_nlt]
 have e2:∀ (x2 x3 x4 x5:D),iter (i_ConcatL2 3 p) 3 [gd p 0,.l [],x2,x3,x4,x5,.l [],gd p 0,.i ((gd p 0).rows.length:Int),.i 0]=some (4,[gd p 0,.l [],x2,x3,x4,x5,.l ([]++(gd ((gd p 0).rows.getD 0 []) 0).rows++(gd ((gd p 0).rows.getD 1 []) 0).rows),gd p 0,.i ((gd p 0).rows.length:Int),.i ((gd p 0).rows.length:Int)]):=fun x2 x3 x4 x5=>by
  refine Eq.trans (iter_nx (n:=2) (s2 0 x2 x3 x4 x5 [] (by omega) (by simp))) (Eq.trans (iter_nx (n:=1) (s2 1 x2 x3 x4 x5 _ (by omega) (by have:=hlen 0 (by omega); rw [List.nil_append]; omega))) ?_)
  have e:((1+1:Nat):Int)=((gd p 0).rows.length:Int):=by omega
  rw [e]
  refine iter_ex (c:=3) ?_
  rw [i_ConcatR2]
  simp only [int_i,c_nlt]
 refine congrArg (fun x=>some (bo,x)) ?_
 simp only [e0,nd,cond_true,cond_false,Option.isSome_some,Out.code,Out.pay,Option.getD_some,gd_cons_zero,gd_cons_succ,Nat.reduceBEq,Nat.reduceAdd,int_i,bool_b,str_s,rows_l,Bool.not_true,Bool.not_false,beq_self_eq_true]
 rw [leI_t (by omega),leI_t (by omega)]
 simp only [e2,nd,cond_true,cond_false,Option.isSome_some,Out.code,Out.pay,Option.getD_some,gd_cons_zero,gd_cons_succ,Nat.reduceBEq,Nat.reduceAdd,int_i,bool_b,str_s,rows_l,Bool.not_true,Bool.not_false,beq_self_eq_true,Bool.and_self]
 rw [List.nil_append]
 rfl
end Go.Proofs.YtpdfmcmnjikppaaGreat
namespace Go.Proofs.YtpdfmcmnjikppaaGreat
set_option maxRecDepth 4096
set_option maxHeartbeats 1000000
abbrev i_ShardOkT:FuncId→List T→Option (T × Bool):=find [i_isGroupE,i_RangesOkE,i_StoreOkE,i_LocksOkE,i_heldsOkE,i_ascendingE,i_fromE,cofSFE,cofSCE,i_ConcatE,cofSLE,i_txsOfE,i_sortE,i_clonE,i_compE,i_roomE]
theorem i_ShardOkT_ok:CallOk Tryz.prog i_ShardOkT:=find_ok (fC ⟨i_isGroup_ok,fC ⟨i_RangesOk_ok,fC ⟨i_StoreOk_ok,fC ⟨i_LocksOk_ok,fC ⟨i_heldsOk_ok,fC ⟨i_ascending_ok,fC ⟨i_from_ok,fC ⟨cofSF_ok,fC ⟨cofSC_ok,fC ⟨i_Concat_ok,fC ⟨cofSL_ok,fC ⟨i_txsOf_ok,fC ⟨i_sort_ok,fC ⟨i_clon_ok,fC ⟨i_comp_ok,fC ⟨i_room_ok,fN⟩⟩⟩⟩⟩⟩⟩⟩⟩⟩⟩⟩⟩⟩⟩⟩)
abbrev i_ShardOkK:List Nat:= [0,1,2,3,4,55,65,75]
noncomputable def i_ShardOks0 (N:Nat) (p:List D):Out:=nd (leI ((gd p 3).rows.length:Int) 1000000000&&leI ((gd p 5).rows.length:Int) 1000000000) (ob (leI (roomOf (sub p 0 9)) 60))
noncomputable def i_ShardOks1 (N:Nat) (p:List D):Out:=bif ((compD (.l (sortD (.l ((txsD (gd p 5)).rows++(concD (.l [[gd p 6],[gd p 7]])).rows))).rows)).rows.length:Int)==((sortD (.l ((txsD (gd p 5)).rows++(concD (.l [[gd p 6],[gd p 7]])).rows))).rows.length:Int) then (i_ShardOks0 N p) else ob false
noncomputable def i_ShardOks2 (N:Nat) (p:List D):Out:=nd (leI ((sortD (.l ((txsD (gd p 5)).rows++(concD (.l [[gd p 6],[gd p 7]])).rows))).rows.length:Int) 1000000000) (i_ShardOks1 N p)
noncomputable def i_ShardOks3 (N:Nat) (p:List D):Out:=nd (leI ((sortD (.l ((txsD (gd p 5)).rows++(concD (.l [[gd p 6],[gd p 7]])).rows))).rows.length:Int) 1000000000) (i_ShardOks2 N p)
noncomputable def i_ShardOks4 (N:Nat) (p:List D):Out:=nd (leI (((txsD (gd p 5)).rows++(concD (.l [[gd p 6],[gd p 7]])).rows).length:Int) 1000000000) (i_ShardOks3 N p)
noncomputable def i_ShardOks5 (N:Nat) (p:List D):Out:=nd (lenOk ((txsD (gd p 5)).rows++(concD (.l [[gd p 6],[gd p 7]])).rows)&&true) (i_ShardOks4 N p)
noncomputable def i_ShardOks6 (N:Nat) (p:List D):Out:=bif anyS (fun rr=>ixfSLC (.l [[.l [sub p 0 9],.l [[concD (.l [[gd p 6],[gd p 7]])]]]]) (sub rr 0 4)) (gd p 4) then ob false else nd (leI ((gd p 5).rows.length:Int) 1000000000) (i_ShardOks5 N p)
noncomputable def i_ShardOks7 (N:Nat) (p:List D):Out:=bif anyS (fun rr=>ixfSCC (.l [[.l [sub p 0 9]]]) (sub rr 0 2)) (gd p 3) then ob false else nd (concOk (.l [[gd p 6],[gd p 7]])) (i_ShardOks6 N p)
noncomputable def i_ShardOks8 (N:Nat) (p:List D):Out:=bif anyS (fun rr=>ixfSFC (.l [[.l [sub p 0 9]]]) (sub rr 0 2)) (gd p 2) then ob false else (i_ShardOks7 N p)
noncomputable def i_ShardOks9 (N:Nat) (p:List D):Out:=bif !(ascOk (gd p 7)) then ob false else bif !(inB (gd p 8).int 0 1000000) then ob false else (i_ShardOks8 N p)
noncomputable def i_ShardOks10 (N:Nat) (p:List D):Out:=bif !(heldsOk (sub p 0 9)) then ob false else bif !(ascOk (gd p 6)) then ob false else (i_ShardOks9 N p)
noncomputable def i_ShardOks11 (N:Nat) (p:List D):Out:=bif !(locksOk (gd p 4)) then ob false else nd (leI ((gd p 5).rows.length:Int) 1000000000) (i_ShardOks10 N p)
noncomputable def i_ShardOks12 (N:Nat) (p:List D):Out:=bif !(rangesOk (gd p 2)) then ob false else bif !(storeOk (gd p 3)) then ob false else (i_ShardOks11 N p)
noncomputable def i_ShardOks13 (N:Nat) (p:List D):Out:=bif !(inB (gd p 0).int (0) (3)) then ob false else bif !(rangesOk (gd p 1)) then ob false else (i_ShardOks12 N p)
theorem i_ShardOk_ev (N:Nat) (p:List D):evFn Tryz.prog i_ShardOkT N i_ShardOkK Tryz.f43 rb [⟨ag rIShard,p⟩]=some (bo,(i_ShardOks13 N p)):=by kernel_rfl
def vAt (z:D) (i:Nat):Int:=(gd (z.rows.getD i []) 0).int
theorem numsOf_v (z:D) (i:Nat) (h:i<(numsOf z).length):(numsOf z)[i]=vAt z i:=by
 have h':i<z.rows.length:=by rwa [numsOf_len] at h
 have:=numsOf_at z i h'
 rw [List.getElem?_eq_getElem h] at this
 injection this
theorem hasInt_iff (z:D) (x:Int):hasInt z x=true↔x∈numsOf z:=by
 unfold hasInt anyS
 simp only [List.any_eq_true,List.mem_range,beq_iff_eq]
 constructor
 ·rintro ⟨k,hk,rfl⟩
  have hk':k<(numsOf z).length:=by rwa [numsOf_len]
  exact List.mem_iff_getElem.2 ⟨k,hk',numsOf_v z k hk'⟩
 ·intro h
  obtain ⟨k,hk,rfl⟩:=List.getElem_of_mem h
  exact ⟨k,by rwa [numsOf_len] at hk,numsOf_v z k hk⟩
theorem asc_v {z:D} (h:ascOk z=true):∀ i,i<z.rows.length→(i:Int)+1≤vAt z i∧vAt z i≤60∧∀ j,j<i→vAt z j<vAt z i:=by
 unfold ascOk at h
 rw [List.all_eq_true] at h
 intro i
 induction i with
 | zero =>
  intro hi
  have:=h 0 (List.mem_range.2 hi)
  simp only [ascAt,inB,Bool.and_eq_true,decide_eq_true_eq] at this
  refine ⟨?_,?_,fun j hj=>by omega⟩ <;> unfold vAt <;> omega
 | succ i ih =>
  intro hi
  obtain ⟨h1,h2,h3⟩:=ih (by omega)
  have:=h (i+1) (List.mem_range.2 hi)
  simp only [ascAt,inB,leI,Bool.and_eq_true,decide_eq_true_eq,Bool.not_eq_true',decide_eq_false_iff_not] at this
  unfold vAt at *
  refine ⟨by omega,by omega,fun j hj=>?_⟩
  rcases Nat.lt_or_ge j i with hj' | hj'
  ·have:=h3 j hj'; omega
  ·have:j=i:=by omega
   subst this; omega
theorem asc_len {z:D} (h:ascOk z=true):z.rows.length≤60:=by
 rcases Nat.eq_zero_or_pos z.rows.length with h0 | h0
 ·omega
 ·have:=asc_v h (z.rows.length - 1) (by omega)
  omega
theorem asc_nodup {z:D} (h:ascOk z=true):(numsOf z).Nodup:=by
 refine List.pairwise_iff_getElem.2 fun i j hi hj hij=>?_
 rw [numsOf_v,numsOf_v]
 have:=(asc_v h j (by rwa [numsOf_len] at hj)).2.2 i hij
 omega
def shardAll (p:List D):D:=.l ((txsD (gd p 5)).rows++((gd p 6).rows++(gd p 7).rows))
theorem numsOf_all (p:List D):numsOf (shardAll p)=numsOf (txsD (gd p 5))++(numsOf (gd p 6)++numsOf (gd p 7)):=by
 show List.map _ (_++(_++_))=_
 rw [List.map_append,List.map_append]
 rfl
theorem txs_v (z:D) (i:Nat):vAt (txsD z) i=vAt z i:=by
 unfold vAt txsD
 show (gd ((z.rows.map fun r => [gd r 0]).getD i []) 0).int=_
 rw [List.getD_eq_getElem?_getD,List.getD_eq_getElem?_getD,List.getElem?_map]
 cases z.rows[i]? <;> rfl
theorem txs_len (z:D):(txsD z).rows.length=z.rows.length:=by simp [txsD,D.rows]
def shardApart (p:List D):Bool:=((List.range (gd p 5).rows.length).all fun k => !hasInt (gd p 6) (vAt (gd p 5) k) && !hasInt (gd p 7) (vAt (gd p 5) k))&&((List.range (gd p 6).rows.length).all fun k => !hasInt (gd p 7) (vAt (gd p 6) k))
theorem apart_iff (p:List D) (h5:ascOk (txsD (gd p 5))=true) (h6:ascOk (gd p 6)=true) (h7:ascOk (gd p 7)=true):((compD (sortD (shardAll p))).rows.length==(sortD (shardAll p)).rows.length)=shardApart p:=by
 rw [Bool.eq_iff_iff,beq_iff_eq,comp_sort,numsOf_all]
 have e:shardApart p=true↔(∀ k,k<(gd p 5).rows.length→vAt (gd p 5) k ∉ numsOf (gd p 6)∧vAt (gd p 5) k ∉ numsOf (gd p 7))∧(∀ k,k<(gd p 6).rows.length→vAt (gd p 6) k ∉ numsOf (gd p 7)):=by
  have hn:∀ z x,(!hasInt z x)=true↔x ∉ numsOf z:=fun z x=>by
   rw [← hasInt_iff]; cases hasInt z x <;> simp
  unfold shardApart
  simp only [Bool.and_eq_true,List.all_eq_true,List.mem_range,hn]
 rw [e,List.nodup_append,List.nodup_append]
 have hm:∀ (z:D) (Q:Int→Prop),(∀ a∈numsOf z,Q a)↔∀ k,k<z.rows.length→Q (vAt z k):=fun z Q=>by
  constructor
  ·intro h k hk
   have hk':k<(numsOf z).length:=by rwa [numsOf_len]
   have:=h _ (List.getElem_mem hk')
   rwa [numsOf_v] at this
  ·intro h a ha
   obtain ⟨k,hk,rfl⟩:=List.getElem_of_mem ha
   rw [numsOf_v]
   exact h k (by rwa [numsOf_len] at hk)
 rw [hm (txsD (gd p 5)),hm (gd p 6),txs_len]
 simp only [txs_v]
 constructor
 ·rintro ⟨_,⟨_,_,h3⟩,h4⟩
  exact ⟨fun k hk=>⟨fun h=>h4 k hk _ (List.mem_append.2 (.inl h)) rfl,fun h=>h4 k hk _ (List.mem_append.2 (.inr h)) rfl⟩,fun k hk h=>h3 k hk _ h rfl⟩
 ·rintro ⟨h1,h2⟩
  refine ⟨asc_nodup h5,⟨asc_nodup h6,asc_nodup h7,fun k hk b hb e=>h2 k hk (e▸hb)⟩,fun k hk b hb e=>?_⟩
  subst e
  rcases List.mem_append.1 hb with hb | hb
  ·exact (h1 k hk).1 hb
  ·exact (h1 k hk).2 hb
theorem one_rangeOk {r:List D} (h0:0≤(gd r 0).int) (h1:(gd r 0).int≤999):rangeOk (oneAt r)=true:=by
 show (decide ((gd r 0).int≥0)&&(decide ((gd r 0).int<w64 ((gd r 0).int+1))&&decide (w64 ((gd r 0).int+1)≤1000)))=true
 rw [w64_id (by omega) (by omega)]
 simp only [Bool.and_eq_true,decide_eq_true_eq]
 omega
theorem heldRest_eq {p:List D} {k:Nat} (hz:locksOk (gd p 4)=true):heldRest p k=(heldAt p k&&(!hasInt (gd p 6) (vAt (gd p 5) k) && !hasInt (gd p 7) (vAt (gd p 5) k))):=by
 unfold heldRest heldAt vAt
 cases hw:writesOk (gd ((gd p 5).rows.getD k []) 1) with
 | false=>rfl
 | true =>
  rw [Bool.true_and,Bool.true_and]
  congr 1
  rw [Bool.eq_iff_iff,List.all_eq_true,List.all_eq_true]
  refine forall_congr' fun j=>forall_congr' fun hj=>?_
  unfold writesOk at hw
  simp only [Bool.and_eq_true,List.all_eq_true] at hw
  have hj':=hw.2 j hj
  simp only [writeAt,inB,Bool.and_eq_true,decide_eq_true_eq] at hj'
  rw [hold_same hz (one_rangeOk (by omega) (by omega))]
def shardI (p:List D):Bool:=inB (gd p 0).int 0 3&&(rangesOk (gd p 1)&&(rangesOk (gd p 2)&&(storeOk (gd p 3)&&(locksOk (gd p 4)&&(heldsOk p&&(ascOk (gd p 6)&&(ascOk (gd p 7)&&(inB (gd p 8).int 0 1000000&&(shardA p 2 0 shardC0&&(shardA p 3 2 shardC2&&(shardA p 4 4 shardC4&&(shardApart p&&leI (roomOf p) 60))))))))))))
theorem heldsS_iff {p:List D} (hz:locksOk (gd p 4)=true):heldsOkS p=true↔heldsOk p=true∧∀ k,k<(gd p 5).rows.length→(!hasInt (gd p 6) (vAt (gd p 5) k) && !hasInt (gd p 7) (vAt (gd p 5) k))=true:=by
 unfold heldsOkS heldsOk ascOk
 rw [txs_len]
 simp only [Bool.and_eq_true,List.all_eq_true,List.mem_range]
 have hs:∀ k,heldAtS p k=true↔(heldAt p k=true∧ascAt (txsD (gd p 5)) k=true)∧(!hasInt (gd p 6) (vAt (gd p 5) k) && !hasInt (gd p 7) (vAt (gd p 5) k))=true:=by
  intro k
  have hv:∀ j,(gd ((txsD (gd p 5)).rows.getD j []) 0).int=(gd ((gd p 5).rows.getD j []) 0).int:=fun j=>txs_v (gd p 5) j
  cases k with
  | zero =>
   simp only [heldAtS,ascAt,heldRest_eq hz,hv,Bool.and_eq_true]
   constructor
   ·rintro ⟨a,b,c⟩; exact ⟨⟨b,a⟩,c⟩
   ·rintro ⟨⟨b,a⟩,c⟩; exact ⟨a,b,c⟩
  | succ k =>
   simp only [heldAtS,ascAt,heldRest_eq hz,hv,Bool.and_eq_true]
   constructor
   ·rintro ⟨a,r,b,c⟩; exact ⟨⟨b,a,r⟩,c⟩
   ·rintro ⟨⟨b,a,r⟩,c⟩; exact ⟨a,r,b,c⟩
 simp only [hs,Bool.and_eq_true]
 constructor
 ·intro h; exact ⟨⟨fun k hk=>(h k hk).1.1,fun k hk=>(h k hk).1.2⟩,fun k hk=>(h k hk).2⟩
 ·rintro ⟨⟨h1,h2⟩,h3⟩ k hk; exact ⟨⟨h1 k hk,h2 k hk⟩,h3 k hk⟩
theorem shard_same (p:List D):shardI p=shardOk p:=by
 rw [Bool.eq_iff_iff]
 have hl:∀ {z:D},ascOk z=true→leI (z.rows.length:Int) 60=true:=fun h=>by
  have:=asc_len h
  simp only [leI,decide_eq_true_eq]; omega
 have hasc:heldsOk p=true→leI ((gd p 5).rows.length:Int) 60=true:=fun h=>by
  have h':ascOk (txsD (gd p 5))=true:=by
   unfold heldsOk at h
   simp only [Bool.and_eq_true] at h
   exact h.2
  have:=hl h'
  rwa [txs_len] at this
 have h6:shardA p 6 6 shardC6=true↔((List.range (gd p 6).rows.length).all fun k => !hasInt (gd p 7) (vAt (gd p 6) k))=true:=Iff.rfl
 have hap:shardApart p=true↔(∀ k,k<(gd p 5).rows.length→(!hasInt (gd p 6) (vAt (gd p 5) k) && !hasInt (gd p 7) (vAt (gd p 5) k))=true)∧shardA p 6 6 shardC6=true:=by
  rw [h6]
  unfold shardApart
  rw [Bool.and_eq_true,List.all_eq_true]
  simp only [List.mem_range]
 have hsum:shardSum p=true↔heldsOkS p=true∧leI (roomOf p) 60=true:=by
  unfold shardSum roomOf
  rw [Bool.and_eq_true]
 unfold shardI shardOk
 simp only [Bool.and_eq_true,hap,hsum]
 constructor
 ·rintro ⟨a0,a1,a2,a3,a4,a5,a6,a7,a8,b0,b2,b4,⟨c1,c2⟩,d⟩
  exact ⟨a0,a1,a2,a3,a4,a8,hasc a5,hl a6,hl a7,a6,a7,b0,b2,b4,c2,(heldsS_iff a4).2 ⟨a5,fun k hk=>by simpa using c1 k hk⟩,d⟩
 ·rintro ⟨a0,a1,a2,a3,a4,a8,_,_,_,a6,a7,b0,b2,b4,c2,hs,d⟩
  obtain ⟨a5,c1⟩:=(heldsS_iff a4).1 hs
  exact ⟨a0,a1,a2,a3,a4,a5,a6,a7,a8,b0,b2,b4,⟨fun k hk=>by simpa using c1 k hk,c2⟩,d⟩
theorem have_same {z:D} {q:List D} (hz:rangesOk z=true) (hq:rangeOk q=true):haveAll z q=rangesHave z q:=by
 unfold rangesHave
 rw [hz,hq]
 rfl
theorem ranges_at {z:D} {k:Nat} (hz:rangesOk z=true) (hk:k<z.rows.length):rangeOk (sub (z.rows.getD k []) 0 2)=true:=by
 unfold rangesOk at hz
 simp only [Bool.and_eq_true,List.all_eq_true,List.mem_range] at hz
 have:=hz.1 k hk
 cases k with
 | zero=>exact this
 | succ k=>simp only [rangesAt,Bool.and_eq_true] at this; exact this.1
theorem store_key {z:D} {k:Nat} (hz:storeOk z=true) (hk:k<z.rows.length):0≤(gd (z.rows.getD k []) 0).int∧(gd (z.rows.getD k []) 0).int≤999:=by
 unfold storeOk at hz
 simp only [Bool.and_eq_true,List.all_eq_true,List.mem_range] at hz
 have:=hz.1 k hk
 cases k with
 | zero=>simp only [storeAt,inB,Bool.and_eq_true,decide_eq_true_eq] at this; omega
 | succ k=>simp only [storeAt,inB,Bool.and_eq_true,decide_eq_true_eq] at this; omega
theorem locks_at {z:D} {k:Nat} (hz:locksOk z=true) (hk:k<z.rows.length):rangeOk [gd (z.rows.getD k []) 1,gd (z.rows.getD k []) 2]=true:=by
 unfold locksOk at hz
 simp only [Bool.and_eq_true,List.all_eq_true,List.mem_range] at hz
 have:=hz.1 k hk
 simp only [lockAt,Bool.and_eq_true] at this
 exact this.2.1
theorem anyS_not {C:List D→Bool} {z:D} {A:Nat→Bool} (h:∀ k,k<z.rows.length→C (z.rows.getD k []) = !A k):anyS C z = !(List.range z.rows.length).all A:=by
 unfold anyS
 rw [Bool.eq_iff_iff]
 simp only [List.any_eq_true,List.mem_range,Bool.not_eq_true',← Bool.not_eq_true,List.all_eq_true]
 constructor
 ·rintro ⟨k,hk,hc⟩ ha
  rw [h k hk,ha k hk] at hc
  cases hc
 ·intro hn
  refine Classical.byContradiction fun hne=>hn fun k hk=>?_
  cases hA:A k with
  | true=>rfl
  | false=>exact absurd ⟨k,hk,by rw [h k hk,hA]; rfl⟩ hne
theorem hasInt_app (a b:List (List D)) (x:Int):hasInt (.l (a++b)) x=(hasInt (.l a) x||hasInt (.l b) x):=by
 have e:numsOf (.l (a++b))=numsOf (.l a)++numsOf (.l b):=List.map_append
 rw [Bool.eq_iff_iff,Bool.or_eq_true,hasInt_iff,hasInt_iff,hasInt_iff,e,List.mem_append]
theorem hasInt_rows (z:D) (x:Int):hasInt (.l z.rows) x=hasInt z x:=rfl
theorem shard_f (p:List D) (h1:rangesOk (gd p 1)=true) (h2:rangesOk (gd p 2)=true):anyS (fun rr=>ixfSFC (.l [[.l [sub p 0 9]]]) (sub rr 0 2)) (gd p 2) = !(shardA p 2 0 shardC0):=by
 refine anyS_not fun k hk=>?_
 show (!(haveAll (gd p 1) (sub ((gd p 2).rows.getD k []) 0 2)))=_
 rw [have_same h1 (ranges_at h2 hk)]
 rfl
theorem shard_c (p:List D) (h1:rangesOk (gd p 1)=true) (h3:storeOk (gd p 3)=true):anyS (fun rr=>ixfSCC (.l [[.l [sub p 0 9]]]) (sub rr 0 2)) (gd p 3) = !(shardA p 3 2 shardC2):=by
 refine anyS_not fun k hk=>?_
 show (!(haveAll (gd p 1) (oneAt ((gd p 3).rows.getD k []))))=_
 have:=store_key h3 hk
 rw [have_same h1 (one_rangeOk this.1 this.2)]
 rfl
theorem shard_l (p:List D) (h1:rangesOk (gd p 1)=true) (h4:locksOk (gd p 4)=true):anyS (fun rr=>ixfSLC (.l [[.l [sub p 0 9],.l [[concD (.l [[gd p 6],[gd p 7]])]]]]) (sub rr 0 4)) (gd p 4) = !(shardA p 4 4 shardC4):=by
 refine anyS_not fun k hk=>?_
 show (bif !(haveAll (gd p 1) [gd ((gd p 4).rows.getD k []) 1,gd ((gd p 4).rows.getD k []) 2]) then true else hasInt (.l ((gd p 6).rows++(gd p 7).rows)) (gd ((gd p 4).rows.getD k []) 0).int)=_
 rw [have_same h1 (locks_at h4 hk),hasInt_app,hasInt_rows,hasInt_rows]
 unfold shardC4
 cases rangesHave (gd p 1) [gd ((gd p 4).rows.getD k []) 1,gd ((gd p 4).rows.getD k []) 2] <;> cases hasInt (gd p 6) (gd ((gd p 4).rows.getD k []) 0).int <;> cases hasInt (gd p 7) (gd ((gd p 4).rows.getD k []) 0).int <;> rfl
def shardSmall (p:List D):Bool:=leI ((gd p 3).rows.length:Int) 100000000&&(leI ((gd p 5).rows.length:Int) 100000000&&(leI ((gd p 6).rows.length:Int) 100000000&&leI ((gd p 7).rows.length:Int) 100000000))
theorem ob_step2 {a c g:Bool} {x:Out} (hc:c = !a) (h:a=true→x=ob g):(bif c then ob false else x)=ob (a&&g):=by
 subst hc
 exact ob_step h
def i_ShardOkE:Ent:=(43,e1 (ag rIShard) fun p=>(⟨rb,[.b (shardOk p)]⟩,shardSmall p))
theorem i_ShardOk_ok:EntOk Tryz.prog i_ShardOkE:=e1_ok fun p h=>evFn_sound (N:=0) (ks:=i_ShardOkK) (key:=bo) i_ShardOkT_ok (enters Tryz.func43) Tryz.func43 fun hw=>by
 rw [i_ShardOk_ev]
 have h:shardSmall p=true:=h
 unfold shardSmall at h
 simp only [Bool.and_eq_true,leI,decide_eq_true_eq] at h
 obtain ⟨h3,h5,h6,h7⟩:=h
 refine congrArg (fun x=>some (bo,x)) ?_
 show i_ShardOks13 0 p=ob (shardOk p)
 have l9:leI ((gd p 5).rows.length:Int) 1000000000=true:=leI_t (by omega)
 have lall:(shardAll p).rows.length=(gd p 5).rows.length+((gd p 6).rows.length+(gd p 7).rows.length):=by
  show ((txsD (gd p 5)).rows++((gd p 6).rows++(gd p 7).rows)).length=_
  rw [List.length_append,List.length_append,txs_len]
 have lsort:(sortD (shardAll p)).rows.length=(shardAll p).rows.length:=by rw [sortD,numsD_len,sortL_len,numsOf_len]
 rw [← shard_same]
 unfold i_ShardOks13 i_ShardOks12 shardI
 refine ob_step fun _=>ob_step fun a1=>ob_step fun a2=>ob_step fun a3=>?_
 unfold i_ShardOks11
 refine ob_step fun a4=>?_
 rw [l9,nd_true]
 unfold i_ShardOks10
 refine ob_step (a:=heldsOk p) fun a5=>ob_step fun a6=>?_
 unfold i_ShardOks9
 refine ob_step fun a7=>ob_step fun _=>?_
 unfold i_ShardOks8
 refine ob_step2 (shard_f p a1 a2) fun _=>?_
 unfold i_ShardOks7
 refine ob_step2 (shard_c p a1 a3) fun _=>?_
 have hcc:concOk (.l [[gd p 6],[gd p 7]])=true:=by
  show (true&&(leI ((gd p 6).rows.length:Int) 100000000&&leI ((gd p 7).rows.length:Int) 100000000))=true
  rw [leI_t (by omega),leI_t (by omega)]
  rfl
 rw [hcc,nd_true]
 unfold i_ShardOks6
 refine ob_step2 (shard_l p a1 a4) fun _=>?_
 rw [l9,nd_true]
 unfold heldsOk at a5
 simp only [Bool.and_eq_true] at a5
 show nd (lenOk (shardAll p).rows&&true) (i_ShardOks4 0 p)=_
 rw [lenOk_t (by omega)]
 show nd (leI ((shardAll p).rows.length:Int) 1000000000) (nd (leI ((sortD (shardAll p)).rows.length:Int) 1000000000) (nd (leI ((sortD (shardAll p)).rows.length:Int) 1000000000) (bif ((compD (sortD (shardAll p))).rows.length:Int)==((sortD (shardAll p)).rows.length:Int) then (nd (leI ((gd p 3).rows.length:Int) 1000000000&&leI ((gd p 5).rows.length:Int) 1000000000) (ob (leI (roomOf p) 60))) else ob false)))=_
 rw [lsort,leI_t (by omega),nd_true,nd_true,nd_true,leI_t (by omega),l9,Bool.and_self,nd_true,← lsort]
 have e:=apart_iff p a5.2 a6 a7
 rw [← e]
 have e':(((compD (sortD (shardAll p))).rows.length:Int)==((sortD (shardAll p)).rows.length:Int))=((compD (sortD (shardAll p))).rows.length==(sortD (shardAll p)).rows.length):=by
  rw [Bool.eq_iff_iff,beq_iff_eq,beq_iff_eq]; omega
 rw [e']
 cases (compD (sortD (shardAll p))).rows.length==(sortD (shardAll p)).rows.length <;> rfl
end Go.Proofs.YtpdfmcmnjikppaaGreat
