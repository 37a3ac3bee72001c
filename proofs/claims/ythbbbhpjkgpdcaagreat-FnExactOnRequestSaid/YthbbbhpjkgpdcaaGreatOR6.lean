/-
 Texts of the proof,put together: part 6.
-/
import Derived.Test.YthbbbhpjkgpdcaaGreatOR1
import Derived.Test.YthbbbhpjkgpdcaaGreatOR2
import Derived.Test.YthbbbhpjkgpdcaaGreatOR3
import Derived.Test.YthbbbhpjkgpdcaaGreatOR4
import Derived.Test.YthbbbhpjkgpdcaaGreatOR5
import Derived.Test.YthbbbhpjkgpdcaaGreatProg
import Derived.WalkKit
import Derived.ProofKit
import Derived.OpenShut
import Derived.ShutString
import Derived.Outline
import Derived.BigQuiet
import Derived.Deep.QuietTactic
import Derived.Lib.Hide
set_option linter.unusedSimpArgs false
set_option linter.unusedVariables false
set_option linter.unusedSectionVars false
namespace Go.Proofs.YthbbbhpjkgpdcaaGreat
set_option maxRecDepth 4096
set_option maxHeartbeats 1000000
abbrev i_putN1T:FuncId→List T→Option (T × Bool):=find [i_cellForNE,i_clonCE,i_delCE,i_insCE]
theorem i_putN1T_ok:CallOk Tryz.prog i_putN1T:=find_ok (fC ⟨i_cellForN_ok,fC ⟨i_clonC_ok,fC ⟨i_delC_ok,fC ⟨i_insC_ok,fN⟩⟩⟩⟩)
abbrev i_putN1K:List Nat:= [0,1,2,6,7,8,9,16,28,33]
theorem i_putN1_ev (N:Nat) (p q r:List D):evFn Tryz.prog i_putN1T N i_putN1K Tryz.f156 (.one (.c (.own (0,0) true 148))) [⟨sd (.sl 148),p⟩,⟨ri,q⟩,⟨ri,r⟩]=some (bo,
 nd (keysUp (gd p 0)&&inB (gd q 0).int 0 1000000000) (bif (gd r 0).int==(-1) then bif bsB (gd p 0) (gd q 0).int then nd (leI ((gd p 0).rows.length:Int) 1000000) (nd (leI ((gd p 0).rows.length:Int) 1000000&&inRange (lowN (gd p 0) (gd q 0).int:Int) (gd p 0).rows.length&&((w64 ((lowN (gd p 0) (gd q 0).int:Int)+1))==(lowN (gd p 0) (gd q 0).int:Int)+1)) (some (1,[.l (delRows (gd p 0).rows (lowN (gd p 0) (gd q 0).int:Int).toNat)])))
 else bif (gd r 0).int==(-1) then nd (leI ((gd p 0).rows.length:Int) 1000000) (some (1,[.l (gd p 0).rows]))
 else bif bsB (gd p 0) (gd q 0).int then nd (leI ((gd p 0).rows.length:Int) 1000000) (nd (inRange (lowN (gd p 0) (gd q 0).int:Int) (gd p 0).rows.length) (some (1,[.l ((gd p 0).rows.set (lowN (gd p 0) (gd q 0).int:Int).toNat [gd ((gd p 0).rows.getD (lowN (gd p 0) (gd q 0).int:Int).toNat []) 0,gd r 0])])))
 else nd (leI ((gd p 0).rows.length:Int) 1000000) (nd (leI ((gd p 0).rows.length:Int) 1000000&&leI 0 (lowN (gd p 0) (gd q 0).int:Int)&&leI (lowN (gd p 0) (gd q 0).int:Int) ((gd p 0).rows.length:Int)&&([[gd q 0,gd r 0]].length==1)) (some (1,[.l (insRows (gd p 0).rows (lowN (gd p 0) (gd q 0).int:Int).toNat ([[gd q 0,gd r 0]].getD 0 []))])))
 else bif (gd r 0).int==(-1) then nd (leI ((gd p 0).rows.length:Int) 1000000) (some (1,[.l (gd p 0).rows]))
 else bif bsB (gd p 0) (gd q 0).int then nd (leI ((gd p 0).rows.length:Int) 1000000) (nd (inRange (lowN (gd p 0) (gd q 0).int:Int) (gd p 0).rows.length) (some (1,[.l ((gd p 0).rows.set (lowN (gd p 0) (gd q 0).int:Int).toNat [gd ((gd p 0).rows.getD (lowN (gd p 0) (gd q 0).int:Int).toNat []) 0,gd r 0])])))
 else nd (leI ((gd p 0).rows.length:Int) 1000000) (nd (leI ((gd p 0).rows.length:Int) 1000000&&leI 0 (lowN (gd p 0) (gd q 0).int:Int)&&leI (lowN (gd p 0) (gd q 0).int:Int) ((gd p 0).rows.length:Int)&&([[gd q 0,gd r 0]].length==1)) (some (1,[.l (insRows (gd p 0).rows (lowN (gd p 0) (gd q 0).int:Int).toNat ([[gd q 0,gd r 0]].getD 0 []))]))))):=by kernel_rfl
def i_putN1E:Ent:=(156,e3 (sd (.sl 148)) ri ri fun p q r=>(⟨.one (.c (.own (0,0) true 148)),[putRaw (gd p 0) (gd q 0) (gd r 0)]⟩,keysUp (gd p 0)&&inB (gd q 0).int 0 1000000000))
theorem i_putN1_ok:EntOk Tryz.prog i_putN1E:=e3_ok fun p q r h=>evFn_sound (N:=0) (ks:=i_putN1K) (key:=bo) i_putN1T_ok (enters Tryz.func156) Tryz.func156 fun hw=>by
 rw [i_putN1_ev]
 have h:(keysUp (gd p 0)&&inB (gd q 0).int 0 1000000000)=true:=h
 rw [h,nd_true]
 simp only [Bool.and_eq_true] at h
 have hz:=keys_sorted h.1
 have hl:=hz.len
 have hlow:=low_le (gd p 0) (gd q 0).int
 have h1:leI ((gd p 0).rows.length:Int) 1000000=true:=leI_t (by omega)
 have h3:leI (lowN (gd p 0) (gd q 0).int:Int) ((gd p 0).rows.length:Int)=true:=leI_t (by omega)
 have h4:w64 ((lowN (gd p 0) (gd q 0).int:Int)+1)=(lowN (gd p 0) (gd q 0).int:Int)+1:=w64_id (by omega) (by omega)
 unfold putRaw
 simp only [h1,leI_0,h3,h4,nd_true,Int.toNat_natCast,Bool.true_and,beq_self_eq_true,Bool.and_true]
 cases hb:bsB (gd p 0) (gd q 0).int
 ·cases (gd r 0).int == -1 <;> rfl
 ·rw [inRange_nat (bs_lt hb)]
  cases (gd r 0).int == -1 <;> rfl
abbrev i_copyImageT:FuncId→List T→Option (T × Bool):=find [i_clonCE,i_clonSeatE]
theorem i_copyImageT_ok:CallOk Tryz.prog i_copyImageT:=find_ok (fC ⟨i_clonC_ok,fC ⟨i_clonSeat_ok,fN⟩⟩)
abbrev i_copyImageK:List Nat:= [0,1,2]
theorem i_copyImage_ev (N:Nat) (p:List D):evFn Tryz.prog i_copyImageT N i_copyImageK Tryz.f136 (.one (.agg [.own (0,0) true 148,.own (0,1) true 69])) [⟨ag rIImage,p⟩]=some (bo,
 nd (leI ((gd p 0).rows.length:Int) 1000000) (nd (leI ((gd p 1).rows.length:Int) 2000000) (some (1,[.l (gd p 0).rows,.l (gd p 1).rows])))):=by kernel_rfl
def copyIm (p:List D):List D:= [.l (gd p 0).rows,.l (gd p 1).rows]
def i_copyImageE:Ent:=(136,e1 (ag rIImage) fun p=>(⟨.one (.agg [.own (0,0) true 148,.own (0,1) true 69]),sub (copyIm p) 0 2⟩,leI ((gd p 0).rows.length:Int) 1000000&&leI ((gd p 1).rows.length:Int) 1000000))
theorem i_copyImage_ok:EntOk Tryz.prog i_copyImageE:=e1_ok fun p h=>evFn_sound (N:=0) (ks:=i_copyImageK) (key:=bo) i_copyImageT_ok (enters Tryz.func136) Tryz.func136 fun hw=>by
 rw [i_copyImage_ev]
 have h:(leI ((gd p 0).rows.length:Int) 1000000&&leI ((gd p 1).rows.length:Int) 1000000)=true:=h
 simp only [Bool.and_eq_true,leI,decide_eq_true_eq] at h
 simp only [leI_t h.1,leI_t (show ((gd p 1).rows.length:Int)≤2000000 by omega),nd_true]
 rfl
abbrev i_runT:FuncId→List T→Option (T × Bool):=find [i_copyImageE,i_valueOfNE,i_putN1E,apartE]
theorem i_runT_ok:CallOk Tryz.prog i_runT:=find_ok (fC ⟨i_copyImage_ok,fC ⟨i_valueOfN_ok,fC ⟨i_putN1_ok,fC ⟨apart_ok,fN⟩⟩⟩⟩)
abbrev i_runK:List Nat:= [0,1,2,3,4,5,6,7,18,19,23,33,50]
theorem i_run_ev (N:Nat) (p q:List D):evFn Tryz.prog i_runT N i_runK Tryz.f139 (.tup [.agg [.own (0,0) true 148,.own (0,1) true 69],.c (.d si)]) [⟨ag rIImage,p⟩,⟨ag rICmd,q⟩]=some (bo,
 nd (leI ((gd p 0).rows.length:Int) 1000000&&leI ((gd p 1).rows.length:Int) 1000000) (nd (keysUp (gd (copyIm (sub p 0 2)) 0)&&inB (gd q 1).int 0 1000000000) (bif (gd q 0).int==1 then some (1,[gd (copyIm (sub p 0 2)) 0,gd (copyIm (sub p 0 2)) 1,valD (gd (copyIm (sub p 0 2)) 0) (gd q 1).int])
 else bif (gd q 0).int==4 then nd (keysUp (gd (copyIm (sub p 0 2)) 0)&&inB (gd q 1).int 0 1000000000) (some (1,[putRaw (gd (copyIm (sub p 0 2)) 0) (gd q 1) (.i (-1)),gd (copyIm (sub p 0 2)) 1,valD (gd (copyIm (sub p 0 2)) 0) (gd q 1).int]))
 else bif (gd q 0).int==3 then bif ltI (valD (gd (copyIm (sub p 0 2)) 0) (gd q 1).int).int 0 then bif ((gd (copyIm (sub p 0 2)) 0).rows.length:Int)==40 then some (1,[gd (copyIm (sub p 0 2)) 0,gd (copyIm (sub p 0 2)) 1,.i (-1)])
 else bif ltI 1000000000 (w64 ((gd q 2).int+(maxI (valD (gd (copyIm (sub p 0 2)) 0) (gd q 1).int).int 0))) then some (1,[gd (copyIm (sub p 0 2)) 0,gd (copyIm (sub p 0 2)) 1,.i (-1)])
 else nd (keysUp (gd (copyIm (sub p 0 2)) 0)&&inB (gd q 1).int 0 1000000000) (some (1,[putRaw (gd (copyIm (sub p 0 2)) 0) (gd q 1) (.i (w64 ((gd q 2).int+(maxI (valD (gd (copyIm (sub p 0 2)) 0) (gd q 1).int).int 0)))),gd (copyIm (sub p 0 2)) 1,.i (w64 ((gd q 2).int+(maxI (valD (gd (copyIm (sub p 0 2)) 0) (gd q 1).int).int 0)))]))
 else bif ltI 1000000000 (w64 ((gd q 2).int+(maxI (valD (gd (copyIm (sub p 0 2)) 0) (gd q 1).int).int 0))) then some (1,[gd (copyIm (sub p 0 2)) 0,gd (copyIm (sub p 0 2)) 1,.i (-1)])
 else nd (keysUp (gd (copyIm (sub p 0 2)) 0)&&inB (gd q 1).int 0 1000000000) (some (1,[putRaw (gd (copyIm (sub p 0 2)) 0) (gd q 1) (.i (w64 ((gd q 2).int+(maxI (valD (gd (copyIm (sub p 0 2)) 0) (gd q 1).int).int 0)))),gd (copyIm (sub p 0 2)) 1,.i (w64 ((gd q 2).int+(maxI (valD (gd (copyIm (sub p 0 2)) 0) (gd q 1).int).int 0)))]))
 else bif ltI (valD (gd (copyIm (sub p 0 2)) 0) (gd q 1).int).int 0 then bif ((gd (copyIm (sub p 0 2)) 0).rows.length:Int)==40 then some (1,[gd (copyIm (sub p 0 2)) 0,gd (copyIm (sub p 0 2)) 1,.i (-1)])
 else bif ltI 1000000000 (gd q 2).int then some (1,[gd (copyIm (sub p 0 2)) 0,gd (copyIm (sub p 0 2)) 1,.i (-1)])
 else nd (keysUp (gd (copyIm (sub p 0 2)) 0)&&inB (gd q 1).int 0 1000000000) (some (1,[putRaw (gd (copyIm (sub p 0 2)) 0) (gd q 1) (gd q 2),gd (copyIm (sub p 0 2)) 1,gd q 2]))
 else bif ltI 1000000000 (gd q 2).int then some (1,[gd (copyIm (sub p 0 2)) 0,gd (copyIm (sub p 0 2)) 1,.i (-1)])
 else nd (keysUp (gd (copyIm (sub p 0 2)) 0)&&inB (gd q 1).int 0 1000000000) (some (1,[putRaw (gd (copyIm (sub p 0 2)) 0) (gd q 1) (gd q 2),gd (copyIm (sub p 0 2)) 1,gd q 2]))))):=by kernel_rfl
theorem im_len {p:List D} (h:imOk p=true):(gd p 0).rows.length≤40∧(gd p 1).rows.length≤10:=by
 simp only [imOk,Bool.and_eq_true,leI,decide_eq_true_eq] at h
 omega
theorem cmd_key {c:List D} (h:cmdOk c=true):inB (gd c 1).int 0 1000000000=true:=by
 unfold cmdOk at h
 revert h
 cases (gd c 0).int==1||(gd c 0).int==4 <;> cases (gd c 0).int==2||(gd c 0).int==3 <;> cases inB (gd c 1).int 0 1000000000 <;> simp
def runV (old:D) (c:List D):D:=bif (gd c 0).int==3 then .i (w64 ((gd c 2).int+maxI old.int 0)) else gd c 2
def runC (p c:List D):List D:=
 bif (gd c 0).int==1 then [.l (gd p 0).rows,.l (gd p 1).rows,valD (gd p 0) (gd c 1).int]
 else bif (gd c 0).int==4 then [putRaw (gd p 0) (gd c 1) (.i (-1)),.l (gd p 1).rows,valD (gd p 0) (gd c 1).int]
 else bif (ltI (valD (gd p 0) (gd c 1).int).int 0&&((gd p 0).rows.length:Int)==40)||ltI 1000000000 (runV (valD (gd p 0) (gd c 1).int) c).int then [.l (gd p 0).rows,.l (gd p 1).rows,.i (-1)]
 else [putRaw (gd p 0) (gd c 1) (runV (valD (gd p 0) (gd c 1).int) c),.l (gd p 1).rows,runV (valD (gd p 0) (gd c 1).int) c]
def i_runE:Ent:=(139,e2 (ag rIImage) (ag rICmd) fun p q=>(⟨.tup [.agg [.own (0,0) true 148,.own (0,1) true 69],.c (.d si)],sub (runC p q) 0 3⟩,imOk p&&cmdOk q))
theorem i_run_ok:EntOk Tryz.prog i_runE:=e2_ok fun p q h=>evFn_sound (N:=0) (ks:=i_runK) (key:=bo) i_runT_ok (enters Tryz.func139) Tryz.func139 fun hw=>by
 rw [i_run_ev]
 have h:(imOk p&&cmdOk q)=true:=h
 simp only [Bool.and_eq_true] at h
 have hl:=im_len h.1
 have hk:keysUp (.l (gd p 0).rows)=true:=im_cells h.1
 have hc:=cmd_key h.2
 have e2:gd (copyIm (sub p 0 2)) 0=.l (gd p 0).rows:=rfl
 have e3:gd (copyIm (sub p 0 2)) 1=.l (gd p 1).rows:=rfl
 have e0:∀ t,valD (.l (gd p 0).rows) t=valD (gd p 0) t:=fun _=>rfl
 have e1:∀ k v,putRaw (.l (gd p 0).rows) k v=putRaw (gd p 0) k v:=fun _ _=>rfl
 simp only [e2,e3,e0,e1,rows_l,hk,hc,leI_t (show ((gd p 0).rows.length:Int)≤1000000 by omega),leI_t (show ((gd p 1).rows.length:Int)≤1000000 by omega),Bool.and_self,nd_true]
 unfold runC runV
 generalize valD (gd p 0) (gd q 1).int=old
 by_cases h1:(gd q 0).int=1
 ·rw [h1]; rfl
 by_cases h4:(gd q 0).int=4
 ·rw [h4]; rfl
 rw [beq_eq_false_iff_ne.2 h1,beq_eq_false_iff_ne.2 h4]
 cases (gd q 0).int==3 <;> simp only [cond_false,cond_true,int_i] <;> cases ltI old.int 0 <;> cases ((gd p 0).rows.length:Int)==40 <;> simp only [cond_false,cond_true,Bool.and_self,Bool.and_false,Bool.false_and,Bool.false_or,Bool.true_or]
 all_goals first
  | rfl
  | (cases ltI 1000000000 (gd q 2).int <;> rfl)
  | (cases ltI 1000000000 (w64 ((gd q 2).int+maxI old.int 0)) <;> rfl)
abbrev s_l2CopyT:FuncId→List T→Option (T × Bool):=find []
theorem s_l2CopyT_ok:CallOk Tryz.prog s_l2CopyT:=find_ok (fN)
abbrev s_l2CopyK:List Nat:= [0,1,2]
theorem s_l2Copy_ev (N:Nat) (p:List D):evFn Tryz.prog s_l2CopyT N s_l2CopyK Tryz.f114 (.one (.agg [.d (.sl 148),.d (.sl 69)])) [⟨ag rIImage,p⟩]=some (bo,
 nd ((lenOk ([]++(gd p 0).rows)&&true)&&((lenOk ([]++(gd p 1).rows)&&true)&&true)) (nd (((lenOk ([]++(gd p 0).rows)&&true)&&((lenOk ([]++(gd p 1).rows)&&true)&&true))&&(sameP [[.l ([]++(gd p 0).rows),.l ([]++(gd p 1).rows)],[.l ([]++(gd p 1).rows)],[.l []],[gd p 1],[.i 0],[.l ([]++(gd p 0).rows)],[.l []],[gd p 0],[.i 0],p,[.i 0],[.i 0],[gd p 0,gd p 1],[.l ([]++(gd p 0).rows),.l ([]++(gd p 1).rows)]] [[.l ([]++(gd p 0).rows),.l ([]++(gd p 1).rows)],[.l ([]++(gd p 1).rows)],[.l []],[gd p 1],[.i 0],[.l ([]++(gd p 0).rows)],[.l []],[gd p 0],[.i 0],p,[.i 0],[.i 0],[gd p 0,gd p 1],[.l ([]++(gd p 0).rows),.l ([]++(gd p 1).rows)]])) (nd (((lenOk ([]++(gd p 0).rows)&&true)&&((lenOk ([]++(gd p 1).rows)&&true)&&true))&&(sameP [[.l ([]++(gd p 0).rows),.l ([]++(gd p 1).rows)],[.l ([]++(gd p 1).rows)],[.l []],[gd p 1],[.i 0],[.l ([]++(gd p 0).rows)],[.l []],[gd p 0],[.i 0],p,[.i 0],[.i 0],[gd p 0,gd p 1],[.l ([]++(gd p 0).rows),.l ([]++(gd p 1).rows)]] [[.l ([]++(gd p 0).rows),.l ([]++(gd p 1).rows)],[.l ([]++(gd p 1).rows)],[.l []],[gd p 1],[.i 0],[.l ([]++(gd p 0).rows)],[.l []],[gd p 0],[.i 0],p,[.i 0],[.i 0],[gd p 0,gd p 1],[.l ([]++(gd p 0).rows),.l ([]++(gd p 1).rows)]])) (nd (((lenOk ([]++(gd p 0).rows)&&true)&&((lenOk ([]++(gd p 1).rows)&&true)&&true))&&(sameP [[.l ([]++(gd p 0).rows),.l ([]++(gd p 1).rows)],[.l ([]++(gd p 1).rows)],[.l []],[gd p 1],[.i 0],[.l ([]++(gd p 0).rows)],[.l []],[gd p 0],[.i 0],p,[.i 0],[.i 0],[gd p 0,gd p 1],[.l ([]++(gd p 0).rows),.l ([]++(gd p 1).rows)]] [[.l ([]++(gd p 0).rows),.l ([]++(gd p 1).rows)],[.l ([]++(gd p 1).rows)],[.l []],[gd p 1],[.i 0],[.l ([]++(gd p 0).rows)],[.l []],[gd p 0],[.i 0],p,[.i 0],[.i 0],[gd p 0,gd p 1],[.l ([]++(gd p 0).rows),.l ([]++(gd p 1).rows)]])) (nd (((lenOk ([]++(gd p 0).rows)&&true)&&((lenOk ([]++(gd p 1).rows)&&true)&&true))&&(sameP [[.l ([]++(gd p 0).rows),.l ([]++(gd p 1).rows)],[.l ([]++(gd p 1).rows)],[.l []],[gd p 1],[.i 0],[.l ([]++(gd p 0).rows)],[.l []],[gd p 0],[.i 0],p,[.i 0],[.i 0],[gd p 0,gd p 1],[.l ([]++(gd p 0).rows),.l ([]++(gd p 1).rows)]] [[.l ([]++(gd p 0).rows),.l ([]++(gd p 1).rows)],[.l ([]++(gd p 1).rows)],[.l []],[gd p 1],[.i 0],[.l ([]++(gd p 0).rows)],[.l []],[gd p 0],[.i 0],p,[.i 0],[.i 0],[gd p 0,gd p 1],[.l ([]++(gd p 0).rows),.l ([]++(gd p 1).rows)]])) (nd (((lenOk ([]++(gd p 0).rows)&&true)&&((lenOk ([]++(gd p 1).rows)&&true)&&true))&&(sameP [[.l ([]++(gd p 0).rows),.l ([]++(gd p 1).rows)],[.l ([]++(gd p 1).rows)],[.l []],[gd p 1],[.i 0],[.l ([]++(gd p 0).rows)],[.l []],[gd p 0],[.i 0],p,[.i 0],[.i 0],[gd p 0,gd p 1],[.l ([]++(gd p 0).rows),.l ([]++(gd p 1).rows)]] [[.l ([]++(gd p 0).rows),.l ([]++(gd p 1).rows)],[.l ([]++(gd p 1).rows)],[.l []],[gd p 1],[.i 0],[.l ([]++(gd p 0).rows)],[.l []],[gd p 0],[.i 0],p,[.i 0],[.i 0],[gd p 0,gd p 1],[.l ([]++(gd p 0).rows),.l ([]++(gd p 1).rows)]])) (nd (((lenOk ([]++(gd p 0).rows)&&true)&&((lenOk ([]++(gd p 1).rows)&&true)&&true))&&(sameP [[.l ([]++(gd p 0).rows),.l ([]++(gd p 1).rows)],[.l ([]++(gd p 1).rows)],[.l []],[gd p 1],[.i 0],[.l ([]++(gd p 0).rows)],[.l []],[gd p 0],[.i 0],p,[.i 0],[.i 0],[gd p 0,gd p 1],[.l ([]++(gd p 0).rows),.l ([]++(gd p 1).rows)]] [[.l ([]++(gd p 0).rows),.l ([]++(gd p 1).rows)],[.l ([]++(gd p 1).rows)],[.l []],[gd p 1],[.i 0],[.l ([]++(gd p 0).rows)],[.l []],[gd p 0],[.i 0],p,[.i 0],[.i 0],[gd p 0,gd p 1],[.l ([]++(gd p 0).rows),.l ([]++(gd p 1).rows)]])) (nd (((lenOk ([]++(gd p 0).rows)&&true)&&((lenOk ([]++(gd p 1).rows)&&true)&&true))&&(sameP [[.l ([]++(gd p 0).rows),.l ([]++(gd p 1).rows)],[.l ([]++(gd p 1).rows)],[.l []],[gd p 1],[.i 0],[.l ([]++(gd p 0).rows)],[.l []],[gd p 0],[.i 0],p,[.i 0],[.i 0],[gd p 0,gd p 1],[.l ([]++(gd p 0).rows),.l ([]++(gd p 1).rows)]] [[.l ([]++(gd p 0).rows),.l ([]++(gd p 1).rows)],[.l ([]++(gd p 1).rows)],[.l []],[gd p 1],[.i 0],[.l ([]++(gd p 0).rows)],[.l []],[gd p 0],[.i 0],p,[.i 0],[.i 0],[gd p 0,gd p 1],[.l ([]++(gd p 0).rows),.l ([]++(gd p 1).rows)]])) (nd (((lenOk ([]++(gd p 0).rows)&&true)&&((lenOk ([]++(gd p 1).rows)&&true)&&true))&&(sameP [[.l ([]++(gd p 0).rows),.l ([]++(gd p 1).rows)],[.l ([]++(gd p 1).rows)],[.l []],[gd p 1],[.i 0],[.l ([]++(gd p 0).rows)],[.l []],[gd p 0],[.i 0],p,[.i 0],[.i 0],[gd p 0,gd p 1],[.l ([]++(gd p 0).rows),.l ([]++(gd p 1).rows)]] [[.l ([]++(gd p 0).rows),.l ([]++(gd p 1).rows)],[.l ([]++(gd p 1).rows)],[.l []],[gd p 1],[.i 0],[.l ([]++(gd p 0).rows)],[.l []],[gd p 0],[.i 0],p,[.i 0],[.i 0],[gd p 0,gd p 1],[.l ([]++(gd p 0).rows),.l ([]++(gd p 1).rows)]])) (nd (((lenOk ([]++(gd p 0).rows)&&true)&&((lenOk ([]++(gd p 1).rows)&&true)&&true))&&(sameP [[.l ([]++(gd p 0).rows),.l ([]++(gd p 1).rows)],[.l ([]++(gd p 1).rows)],[.l []],[gd p 1],[.i 0],[.l ([]++(gd p 0).rows)],[.l []],[gd p 0],[.i 0],p,[.i 0],[.i 0],[gd p 0,gd p 1],[.l ([]++(gd p 0).rows),.l ([]++(gd p 1).rows)]] [[.l ([]++(gd p 0).rows),.l ([]++(gd p 1).rows)],[.l ([]++(gd p 1).rows)],[.l []],[gd p 1],[.i 0],[.l ([]++(gd p 0).rows)],[.l []],[gd p 0],[.i 0],p,[.i 0],[.i 0],[gd p 0,gd p 1],[.l ([]++(gd p 0).rows),.l ([]++(gd p 1).rows)]])) (nd (((lenOk ([]++(gd p 0).rows)&&true)&&((lenOk ([]++(gd p 1).rows)&&true)&&true))&&(sameP [[.l ([]++(gd p 0).rows),.l ([]++(gd p 1).rows)],[.l ([]++(gd p 1).rows)],[.l []],[gd p 1],[.i 0],[.l ([]++(gd p 0).rows)],[.l []],[gd p 0],[.i 0],p,[.i 0],[.i 0],[gd p 0,gd p 1],[.l ([]++(gd p 0).rows),.l ([]++(gd p 1).rows)]] [[.l ([]++(gd p 0).rows),.l ([]++(gd p 1).rows)],[.l ([]++(gd p 1).rows)],[.l []],[gd p 1],[.i 0],[.l ([]++(gd p 0).rows)],[.l []],[gd p 0],[.i 0],p,[.i 0],[.i 0],[gd p 0,gd p 1],[.l ([]++(gd p 0).rows),.l ([]++(gd p 1).rows)]])) (nd (((lenOk ([]++(gd p 0).rows)&&true)&&((lenOk ([]++(gd p 1).rows)&&true)&&true))&&(sameP [[.l ([]++(gd p 0).rows),.l ([]++(gd p 1).rows)],[.l ([]++(gd p 1).rows)],[.l []],[gd p 1],[.i 0],[.l ([]++(gd p 0).rows)],[.l []],[gd p 0],[.i 0],p,[.i 0],[.i 0],[gd p 0,gd p 1],[.l ([]++(gd p 0).rows),.l ([]++(gd p 1).rows)]] [[.l ([]++(gd p 0).rows),.l ([]++(gd p 1).rows)],[.l ([]++(gd p 1).rows)],[.l []],[gd p 1],[.i 0],[.l ([]++(gd p 0).rows)],[.l []],[gd p 0],[.i 0],p,[.i 0],[.i 0],[gd p 0,gd p 1],[.l ([]++(gd p 0).rows),.l ([]++(gd p 1).rows)]])) (nd (((lenOk ([]++(gd p 0).rows)&&true)&&((lenOk ([]++(gd p 1).rows)&&true)&&true))&&(sameP [[.l ([]++(gd p 0).rows),.l ([]++(gd p 1).rows)],[.l ([]++(gd p 1).rows)],[.l []],[gd p 1],[.i 0],[.l ([]++(gd p 0).rows)],[.l []],[gd p 0],[.i 0],p,[.i 0],[.i 0],[gd p 0,gd p 1],[.l ([]++(gd p 0).rows),.l ([]++(gd p 1).rows)]] [[.l ([]++(gd p 0).rows),.l ([]++(gd p 1).rows)],[.l ([]++(gd p 1).rows)],[.l []],[gd p 1],[.i 0],[.l ([]++(gd p 0).rows)],[.l []],[gd p 0],[.i 0],p,[.i 0],[.i 0],[gd p 0,gd p 1],[.l ([]++(gd p 0).rows),.l ([]++(gd p 1).rows)]])) (nd (((lenOk ([]++(gd p 0).rows)&&true)&&((lenOk ([]++(gd p 1).rows)&&true)&&true))&&(sameP [[.l ([]++(gd p 0).rows),.l ([]++(gd p 1).rows)],[.l ([]++(gd p 1).rows)],[.l []],[gd p 1],[.i 0],[.l ([]++(gd p 0).rows)],[.l []],[gd p 0],[.i 0],p,[.i 0],[.i 0],[gd p 0,gd p 1],[.l ([]++(gd p 0).rows),.l ([]++(gd p 1).rows)]] [[.l ([]++(gd p 0).rows),.l ([]++(gd p 1).rows)],[.l ([]++(gd p 1).rows)],[.l []],[gd p 1],[.i 0],[.l ([]++(gd p 0).rows)],[.l []],[gd p 0],[.i 0],p,[.i 0],[.i 0],[gd p 0,gd p 1],[.l ([]++(gd p 0).rows),.l ([]++(gd p 1).rows)]])) (nd (((lenOk ([]++(gd p 0).rows)&&true)&&((lenOk ([]++(gd p 1).rows)&&true)&&true))&&(sameP [[.l ([]++(gd p 0).rows),.l ([]++(gd p 1).rows)],[.l ([]++(gd p 1).rows)],[.l []],[gd p 1],[.i 0],[.l ([]++(gd p 0).rows)],[.l []],[gd p 0],[.i 0],p,[.i 0],[.i 0],[gd p 0,gd p 1],[.l ([]++(gd p 0).rows),.l ([]++(gd p 1).rows)]] [[.l ([]++(gd p 0).rows),.l ([]++(gd p 1).rows)],[.l ([]++(gd p 1).rows)],[.l []],[gd p 1],[.i 0],[.l ([]++(gd p 0).rows)],[.l []],[gd p 0],[.i 0],p,[.i 0],[.i 0],[gd p 0,gd p 1],[.l ([]++(gd p 0).rows),.l ([]++(gd p 1).rows)]])) (nd (((lenOk ([]++(gd p 0).rows)&&true)&&((lenOk ([]++(gd p 1).rows)&&true)&&true))&&(sameP [[.l ([]++(gd p 0).rows),.l ([]++(gd p 1).rows)],[.l ([]++(gd p 1).rows)],[.l []],[gd p 1],[.i 0],[.l ([]++(gd p 0).rows)],[.l []],[gd p 0],[.i 0],p,[.i 0],[.i 0],[gd p 0,gd p 1],[.l ([]++(gd p 0).rows),.l ([]++(gd p 1).rows)]] [[.l ([]++(gd p 0).rows),.l ([]++(gd p 1).rows)],[.l ([]++(gd p 1).rows)],[.l []],[gd p 1],[.i 0],[.l ([]++(gd p 0).rows)],[.l []],[gd p 0],[.i 0],p,[.i 0],[.i 0],[gd p 0,gd p 1],[.l ([]++(gd p 0).rows),.l ([]++(gd p 1).rows)]])) (nd (((lenOk ([]++(gd p 0).rows)&&true)&&((lenOk ([]++(gd p 1).rows)&&true)&&true))&&(sameP [[.l ([]++(gd p 0).rows),.l ([]++(gd p 1).rows)],[.l ([]++(gd p 1).rows)],[.l []],[gd p 1],[.i 0],[.l ([]++(gd p 0).rows)],[.l []],[gd p 0],[.i 0],p,[.i 0],[.i 0],[gd p 0,gd p 1],[.l ([]++(gd p 0).rows),.l ([]++(gd p 1).rows)]] [[.l ([]++(gd p 0).rows),.l ([]++(gd p 1).rows)],[.l ([]++(gd p 1).rows)],[.l []],[gd p 1],[.i 0],[.l ([]++(gd p 0).rows)],[.l []],[gd p 0],[.i 0],p,[.i 0],[.i 0],[gd p 0,gd p 1],[.l ([]++(gd p 0).rows),.l ([]++(gd p 1).rows)]])) (nd (((lenOk ([]++(gd p 0).rows)&&true)&&((lenOk ([]++(gd p 1).rows)&&true)&&true))&&(sameP [[.l ([]++(gd p 0).rows),.l ([]++(gd p 1).rows)],[.l ([]++(gd p 1).rows)],[.l []],[gd p 1],[.i 0],[.l ([]++(gd p 0).rows)],[.l []],[gd p 0],[.i 0],p,[.i 0],[.i 0],[gd p 0,gd p 1],[.l ([]++(gd p 0).rows),.l ([]++(gd p 1).rows)]] [[.l ([]++(gd p 0).rows),.l ([]++(gd p 1).rows)],[.l ([]++(gd p 1).rows)],[.l []],[gd p 1],[.i 0],[.l ([]++(gd p 0).rows)],[.l []],[gd p 0],[.i 0],p,[.i 0],[.i 0],[gd p 0,gd p 1],[.l ([]++(gd p 0).rows),.l ([]++(gd p 1).rows)]])) (nd (((lenOk ([]++(gd p 0).rows)&&true)&&((lenOk ([]++(gd p 1).rows)&&true)&&true))&&(sameP [[.l ([]++(gd p 0).rows),.l ([]++(gd p 1).rows)],[.l ([]++(gd p 1).rows)],[.l []],[gd p 1],[.i 0],[.l ([]++(gd p 0).rows)],[.l []],[gd p 0],[.i 0],p,[.i 0],[.i 0],[gd p 0,gd p 1],[.l ([]++(gd p 0).rows),.l ([]++(gd p 1).rows)]] [[.l ([]++(gd p 0).rows),.l ([]++(gd p 1).rows)],[.l ([]++(gd p 1).rows)],[.l []],[gd p 1],[.i 0],[.l ([]++(gd p 0).rows)],[.l []],[gd p 0],[.i 0],p,[.i 0],[.i 0],[gd p 0,gd p 1],[.l ([]++(gd p 0).rows),.l ([]++(gd p 1).rows)]])) (nd (((lenOk ([]++(gd p 0).rows)&&true)&&((lenOk ([]++(gd p 1).rows)&&true)&&true))&&(sameP [[.l ([]++(gd p 0).rows),.l ([]++(gd p 1).rows)],[.l ([]++(gd p 1).rows)],[.l []],[gd p 1],[.i 0],[.l ([]++(gd p 0).rows)],[.l []],[gd p 0],[.i 0],p,[.i 0],[.i 0],[gd p 0,gd p 1],[.l ([]++(gd p 0).rows),.l ([]++(gd p 1).rows)]] [[.l ([]++(gd p 0).rows),.l ([]++(gd p 1).rows)],[.l ([]++(gd p 1).rows)],[.l []],[gd p 1],[.i 0],[.l ([]++(gd p 0).rows)],[.l []],[gd p 0],[.i 0],p,[.i 0],[.i 0],[gd p 0,gd p 1],[.l ([]++(gd p 0).rows),.l ([]++(gd p 1).rows)]])) (nd (((lenOk ([]++(gd p 0).rows)&&true)&&((lenOk ([]++(gd p 1).rows)&&true)&&true))&&(sameP [[.l ([]++(gd p 0).rows),.l ([]++(gd p 1).rows)],[.l ([]++(gd p 1).rows)],[.l []],[gd p 1],[.i 0],[.l ([]++(gd p 0).rows)],[.l []],[gd p 0],[.i 0],p,[.i 0],[.i 0],[gd p 0,gd p 1],[.l ([]++(gd p 0).rows),.l ([]++(gd p 1).rows)]] [[.l ([]++(gd p 0).rows),.l ([]++(gd p 1).rows)],[.l ([]++(gd p 1).rows)],[.l []],[gd p 1],[.i 0],[.l ([]++(gd p 0).rows)],[.l []],[gd p 0],[.i 0],p,[.i 0],[.i 0],[gd p 0,gd p 1],[.l ([]++(gd p 0).rows),.l ([]++(gd p 1).rows)]])) (nd (((lenOk ([]++(gd p 0).rows)&&true)&&((lenOk ([]++(gd p 1).rows)&&true)&&true))&&(sameP [[.l ([]++(gd p 0).rows),.l ([]++(gd p 1).rows)],[.l ([]++(gd p 1).rows)],[.l []],[gd p 1],[.i 0],[.l ([]++(gd p 0).rows)],[.l []],[gd p 0],[.i 0],p,[.i 0],[.i 0],[gd p 0,gd p 1],[.l ([]++(gd p 0).rows),.l ([]++(gd p 1).rows)]] [[.l ([]++(gd p 0).rows),.l ([]++(gd p 1).rows)],[.l ([]++(gd p 1).rows)],[.l []],[gd p 1],[.i 0],[.l ([]++(gd p 0).rows)],[.l []],[gd p 0],[.i 0],p,[.i 0],[.i 0],[gd p 0,gd p 1],[.l ([]++(gd p 0).rows),.l ([]++(gd p 1).rows)]])) (nd (((lenOk ([]++(gd p 0).rows)&&true)&&((lenOk ([]++(gd p 1).rows)&&true)&&true))&&(sameP [[.l ([]++(gd p 0).rows),.l ([]++(gd p 1).rows)],[.l ([]++(gd p 1).rows)],[.l []],[gd p 1],[.i 0],[.l ([]++(gd p 0).rows)],[.l []],[gd p 0],[.i 0],p,[.i 0],[.i 0],[gd p 0,gd p 1],[.l ([]++(gd p 0).rows),.l ([]++(gd p 1).rows)]] [[.l ([]++(gd p 0).rows),.l ([]++(gd p 1).rows)],[.l ([]++(gd p 1).rows)],[.l []],[gd p 1],[.i 0],[.l ([]++(gd p 0).rows)],[.l []],[gd p 0],[.i 0],p,[.i 0],[.i 0],[gd p 0,gd p 1],[.l ([]++(gd p 0).rows),.l ([]++(gd p 1).rows)]])) (nd (((lenOk ([]++(gd p 0).rows)&&true)&&((lenOk ([]++(gd p 1).rows)&&true)&&true))&&(sameP [[.l ([]++(gd p 0).rows),.l ([]++(gd p 1).rows)],[.l ([]++(gd p 1).rows)],[.l []],[gd p 1],[.i 0],[.l ([]++(gd p 0).rows)],[.l []],[gd p 0],[.i 0],p,[.i 0],[.i 0],[gd p 0,gd p 1],[.l ([]++(gd p 0).rows),.l ([]++(gd p 1).rows)]] [[.l ([]++(gd p 0).rows),.l ([]++(gd p 1).rows)],[.l ([]++(gd p 1).rows)],[.l []],[gd p 1],[.i 0],[.l ([]++(gd p 0).rows)],[.l []],[gd p 0],[.i 0],p,[.i 0],[.i 0],[gd p 0,gd p 1],[.l ([]++(gd p 0).rows),.l ([]++(gd p 1).rows)]])) (nd (((lenOk ([]++(gd p 0).rows)&&true)&&((lenOk ([]++(gd p 1).rows)&&true)&&true))&&(sameP [[.l ([]++(gd p 0).rows),.l ([]++(gd p 1).rows)],[.l ([]++(gd p 1).rows)],[.l []],[gd p 1],[.i 0],[.l ([]++(gd p 0).rows)],[.l []],[gd p 0],[.i 0],p,[.i 0],[.i 0],[gd p 0,gd p 1],[.l ([]++(gd p 0).rows),.l ([]++(gd p 1).rows)]] [[.l ([]++(gd p 0).rows),.l ([]++(gd p 1).rows)],[.l ([]++(gd p 1).rows)],[.l []],[gd p 1],[.i 0],[.l ([]++(gd p 0).rows)],[.l []],[gd p 0],[.i 0],p,[.i 0],[.i 0],[gd p 0,gd p 1],[.l ([]++(gd p 0).rows),.l ([]++(gd p 1).rows)]])) (nd (((lenOk ([]++(gd p 0).rows)&&true)&&((lenOk ([]++(gd p 1).rows)&&true)&&true))&&(sameP [[.l ([]++(gd p 0).rows),.l ([]++(gd p 1).rows)],[.l ([]++(gd p 1).rows)],[.l []],[gd p 1],[.i 0],[.l ([]++(gd p 0).rows)],[.l []],[gd p 0],[.i 0],p,[.i 0],[.i 0],[gd p 0,gd p 1],[.l ([]++(gd p 0).rows),.l ([]++(gd p 1).rows)]] [[.l ([]++(gd p 0).rows),.l ([]++(gd p 1).rows)],[.l ([]++(gd p 1).rows)],[.l []],[gd p 1],[.i 0],[.l ([]++(gd p 0).rows)],[.l []],[gd p 0],[.i 0],p,[.i 0],[.i 0],[gd p 0,gd p 1],[.l ([]++(gd p 0).rows),.l ([]++(gd p 1).rows)]])) (some (1,[.l ([]++(gd p 0).rows),.l ([]++(gd p 1).rows)])))))))))))))))))))))))))))):=by kernel_rfl
def s_l2CopyE:Ent:=(114,e1 (ag rIImage) fun p=>(⟨.one (.agg [.d (.sl 148),.d (.sl 69)]),sub (copyIm p) 0 2⟩,leI ((gd p 0).rows.length:Int) 1000000&&leI ((gd p 1).rows.length:Int) 1000000))
theorem s_l2Copy_ok:EntOk Tryz.prog s_l2CopyE:=e1_ok fun p h=>evFn_sound (N:=0) (ks:=s_l2CopyK) (key:=bo) s_l2CopyT_ok (enters Tryz.func114) Tryz.func114 fun hw=>by
 rw [s_l2Copy_ev]
 have h:(leI ((gd p 0).rows.length:Int) 1000000&&leI ((gd p 1).rows.length:Int) 1000000)=true:=h
 simp only [Bool.and_eq_true,leI,decide_eq_true_eq] at h
 simp only [List.nil_append,lenOk_t (show (gd p 0).rows.length≤4294967296 by omega),lenOk_t (show (gd p 1).rows.length≤4294967296 by omega),sameP_self,Bool.and_self,nd_true]
 rfl
abbrev s_l2SeatsT:FuncId→List T→Option (T × Bool):=find []
theorem s_l2SeatsT_ok:CallOk Tryz.prog s_l2SeatsT:=find_ok (fN)
abbrev s_l2SeatsK:List Nat:= [0,1,3,4,5,6,7,12,26,38,47,3000002,3000008]
noncomputable def s_l2SeatsL0 (N:Nat) (p q:List D):List D→Out:=loopOf Tryz.prog s_l2SeatsT N s_l2SeatsK Tryz.f116 (.one (.c (.own (0,0) true 69))) [⟨sd (.sl 69),p⟩,⟨ag rISeat,q⟩] 0
theorem s_l2SeatsR0 (N:Nat) (p q:List D) (x0 x1 x2 x3 x4 x5 x6 x7 x8 x9 x10 x11:D):(s_l2SeatsL0 N p q) [x0,x1,x2,x3,x4,x5,x6,x7,x8,x9,x10,x11] =
 bif ltI x8.int (x0.rows.length:Int) then bif !x7.bool then nd (inRange x8.int x0.rows.length) (bif leI x9.int (gd (x0.rows.getD x8.int.toNat []) 0).int then nd (lenOk (x6.rows ++ [[x9,x10,x11]])&&true) ((let r8:Out:=nx [x0,x1,x2,x3,x4,x5,.l (x6.rows ++ [[x9,x10,x11]]),.b true,x8,.b (ltI x8.int (x0.rows.length:Int)),.b (leI x9.int (gd (x0.rows.getD x8.int.toNat []) 0).int),x9,x10,x11]
  nd r8.isSome (nd (inRange (gd r8.pay 8).int (gd r8.pay 0).rows.length) (bif (gd ((gd r8.pay 0).rows.getD (gd r8.pay 8).int.toNat []) 0).int != (gd r8.pay 11).int then nd (inRange (gd r8.pay 8).int (gd r8.pay 0).rows.length) (nd (lenOk ((gd r8.pay 6).rows ++ [sub ((gd r8.pay 0).rows.getD (gd r8.pay 8).int.toNat []) 0 3])&&true) (nx [gd r8.pay 0,gd r8.pay 1,gd r8.pay 2,gd r8.pay 3,gd r8.pay 4,gd r8.pay 5,.l ((gd r8.pay 6).rows ++ [sub ((gd r8.pay 0).rows.getD (gd r8.pay 8).int.toNat []) 0 3]),gd r8.pay 7,.i (w64 ((gd r8.pay 8).int+1)),gd r8.pay 11,gd r8.pay 12,gd r8.pay 13]))
  else nx [gd r8.pay 0,gd r8.pay 1,gd r8.pay 2,gd r8.pay 3,gd r8.pay 4,gd r8.pay 5,gd r8.pay 6,gd r8.pay 7,.i (w64 ((gd r8.pay 8).int+1)),gd r8.pay 11,gd r8.pay 12,gd r8.pay 13]))))
 else nd (inRange x8.int x0.rows.length) (bif (gd (x0.rows.getD x8.int.toNat []) 0).int != x9.int then nd (inRange x8.int x0.rows.length) (nd (lenOk (x6.rows ++ [sub (x0.rows.getD x8.int.toNat []) 0 3])&&true) (nx [x0,x1,x2,x3,x4,x5,.l (x6.rows ++ [sub (x0.rows.getD x8.int.toNat []) 0 3]),x7,.i (w64 (x8.int+1)),x9,x10,x11]))
 else nx [x0,x1,x2,x3,x4,x5,x6,x7,.i (w64 (x8.int+1)),x9,x10,x11]))
 else nd (inRange x8.int x0.rows.length) (bif (gd (x0.rows.getD x8.int.toNat []) 0).int != x9.int then nd (inRange x8.int x0.rows.length) (nd (lenOk (x6.rows ++ [sub (x0.rows.getD x8.int.toNat []) 0 3])&&true) (nx [x0,x1,x2,x3,x4,x5,.l (x6.rows ++ [sub (x0.rows.getD x8.int.toNat []) 0 3]),x7,.i (w64 (x8.int+1)),x9,x10,x11]))
 else nx [x0,x1,x2,x3,x4,x5,x6,x7,.i (w64 (x8.int+1)),x9,x10,x11])
 else ex 0 [x0,x1,x2,x3,x4,x5,x6,x7,x8,x9,x10,x11]:=by kernel_rfl
theorem s_l2Seats_ev (N:Nat) (p q:List D):evFn Tryz.prog s_l2SeatsT N s_l2SeatsK Tryz.f116 (.one (.c (.own (0,0) true 69))) [⟨sd (.sl 69),p⟩,⟨ag rISeat,q⟩]=some (bo,
 (let r2:Out:=nx [gd p 0,gd q 0,gd q 1,gd q 2,.i 0,.l [],.l [],.b false,gd q 0,gd q 1,gd q 2]
  nd r2.isSome ((let o0:=iter (s_l2SeatsL0 N p q) N [gd r2.pay 0,gd r2.pay 1,gd r2.pay 2,gd r2.pay 3,gd r2.pay 4,gd r2.pay 5,gd r2.pay 6,gd r2.pay 7,.i 0,gd r2.pay 8,gd r2.pay 9,gd r2.pay 10]
  nd o0.isSome (nd (o0.code==2) (bif !(gd o0.pay 7).bool then nd (lenOk ((gd o0.pay 6).rows ++ [sub o0.pay 9 3])&&true) (some (1,[.l ((gd o0.pay 6).rows ++ [sub o0.pay 9 3])]))
  else some (1,[gd o0.pay 6]))))))):=by kernel_rfl
theorem put_rows {z:D} (h:SortN z) (k v:D) (keep:Bool) (hv:keep=true→v.int ≠ -1):(putRaw z k (bif keep then v else .i (-1))).rows.map (numsR 2)=(l2Raw z k v keep).rows.map (numsR 2):=by
 have hst:stepL k v=stepW 2 k.int [k,v]:=rfl
 have hl2:(l2Raw z k v keep).rows=finW [k,v] (z.rows.foldl (stepW 2 k.int [k,v]) ([],!keep)):=by
  show (bif !(accL z k v keep z.rows.length).2 then (accL z k v keep z.rows.length).1 ++ [[k,v]] else (accL z k v keep z.rows.length).1)=_
  unfold accL
  rw [List.take_length,hst]
  rfl
 have n2:∀ (r:List D),keyR r=k.int→numsR 2 [gd r 0,v]=numsR 2 [k,v]:=fun r hr=>by
  have hr:(gd r 0).int=k.int:=hr
  show [(gd r 0).int,v.int] = [k.int,v.int]
  rw [hr]
 obtain ⟨A,B,hA,ha,hb,h⟩:=low_cases h k.int
 rw [hl2]
 unfold putRaw
 rw [← hA]
 rcases h with ⟨hb0,e⟩ | ⟨hb1,b,hkb,e⟩
 ·rw [hb0,e]
  cases keep with
  | true =>
   rw [cond_false,cond_true,show (v.int == -1)=false from beq_eq_false_iff_ne.2 (hv rfl),cond_false,rows_l,ins_mid,Bool.not_true,fold_no ha hb]
   simp only [List.map_append,nums_map,List.map_cons,List.map_nil,List.append_assoc,List.cons_append,List.nil_append]
  | false =>
   rw [cond_false,cond_false,show ((D.i (-1)).int == -1)=true from rfl,cond_true,rows_l,Bool.not_false,fold_none ha hb]
   simp only [List.map_append,nums_map,List.map_cons,List.map_nil,List.append_assoc,List.cons_append,List.nil_append]
 ·rw [hb1,e]
  cases keep with
  | true =>
   rw [cond_true,cond_true,show (v.int == -1)=false from beq_eq_false_iff_ne.2 (hv rfl),cond_false,rows_l,set_mid,getD_mid,Bool.not_true,fold_yes ha hkb hb]
   simp only [List.map_append,nums_map,List.map_cons,List.map_nil,List.append_assoc,List.cons_append,List.nil_append,n2 b hkb]
  | false =>
   rw [cond_true,cond_false,show ((D.i (-1)).int == -1)=true from rfl,cond_true,rows_l,del_mid,Bool.not_false,fold_del ha hkb hb]
   simp only [List.map_append,nums_map,List.map_cons,List.map_nil,List.append_assoc,List.cons_append,List.nil_append]
def s_l2CellsKE:Ent:=(146,e4 (sd (.sl 148)) ri ri rb fun p q r s=>(⟨.one (.c (.own (0,0) true 148)),[putRaw (gd p 0) (gd q 0) (bif (gd s 0).bool then (gd r 0) else .i (-1))]⟩,keysUp (gd p 0)&&(!(gd s 0).bool||(gd r 0).int != -1)))
theorem s_l2CellsK_ok:EntOk Tryz.prog s_l2CellsKE:=e4_ok fun p q r s h=>by
 have h:(keysUp (gd p 0)&&(!(gd s 0).bool||(gd r 0).int != -1))=true:=h
 simp only [Bool.and_eq_true,Bool.or_eq_true,Bool.not_eq_true',bne_iff_ne,ne_eq] at h
 have hz:=keys_sorted h.1
 have hl:=hz.len
 refine SoundFn.nums (w:=2) row_cell (put_rows hz (gd q 0) (gd r 0) (gd s 0).bool (fun hs=>?_)).symm (s_l2Cells_ok [⟨sd (.sl 148),p⟩,⟨ri,q⟩,⟨ri,r⟩,⟨rb,s⟩] ⟨.one (.c (.own (0,0) true 148)),[l2Raw (gd p 0) (gd q 0) (gd r 0) (gd s 0).bool]⟩ ?_)
 ·rcases h.2 with h2 | h2
  ·rw [hs] at h2; cases h2
  ·exact h2
 ·have:leI ((gd p 0).rows.length:Int) 1000000=true:=leI_t (by omega)
  simp only [s_l2CellsE,e4,beq_self_eq_true,Bool.and_self,cond_true,this]
def accW (z:D) (k:Int) (new:List D) (n:Nat):List (List D) × Bool:=(z.rows.take n).foldl (stepW 3 k new) ([],false)
theorem accW_succ (z:D) (k:Int) (new:List D) {n:Nat} (h:n<z.rows.length):accW z k new (n+1)=stepW 3 k new (accW z k new n) (z.rows.getD n []):=by
 unfold accW
 rw [List.take_add_one,List.foldl_append,List.getElem?_eq_getElem h,List.getD_eq_getElem?_getD,List.getElem?_eq_getElem h]
 rfl
theorem accW_len (z:D) (k:Int) (new:List D):∀ n,n≤z.rows.length→(accW z k new n).1.length≤2*n
 | 0,_=>by simp [accW]
 | n+1,h=>by
  rw [accW_succ z k new (by omega)]
  have:=accW_len z k new n (by omega)
  unfold stepW
  generalize accW z k new n=A at *
  cases !A.2&&leI k (gd (z.rows.getD n []) 0).int <;> cases (gd (z.rows.getD n []) 0).int != k <;> simp <;> omega
def s_l2SeatsE:Ent:=(116,e2 (sd (.sl 69)) (ag rISeat) fun p q=>(⟨.one (.c (.own (0,0) true 69)),[.l (finW (sub q 0 3) (accW (gd p 0) (gd q 0).int (sub q 0 3) (gd p 0).rows.length))]⟩,leI ((gd p 0).rows.length:Int) 1000000))
theorem s_l2Seats_ok:EntOk Tryz.prog s_l2SeatsE:=e2_ok fun p q h=>evFn_sound (N:=(gd p 0).rows.length+1) (ks:=s_l2SeatsK) (key:=bo) s_l2SeatsT_ok (enters Tryz.func116) Tryz.func116 fun hw=>by
 rw [s_l2Seats_ev]
 have h:leI ((gd p 0).rows.length:Int) 1000000=true:=h
 simp only [leI,decide_eq_true_eq] at h
 have hq:sub q 0 3 = [gd q 0,gd q 1,gd q 2]:=rfl
 rw [hq]
 have e:=run_loop (L:=s_l2SeatsL0 ((gd p 0).rows.length+1) p q) (fun n => [gd p 0,gd q 0,gd q 1,gd q 2,.i 0,.l [],.l (accW (gd p 0) (gd q 0).int [gd q 0,gd q 1,gd q 2] n).1,.b (accW (gd p 0) (gd q 0).int [gd q 0,gd q 1,gd q 2] n).2,.i (n:Int),gd q 0,gd q 1,gd q 2]) (gd p 0).rows.length 0 (fun k hk=>?_) ?_ (N:=(gd p 0).rows.length+1) (by omega)
 ·simp only [Int.natCast_zero] at e
  rw [show (accW (gd p 0) (gd q 0).int [gd q 0,gd q 1,gd q 2] 0)=([],false) from rfl] at e
  simp only [nd,cond_true,cond_false,Option.isSome_some,Out.code,Out.pay,Option.getD_some,gd_cons_zero,gd_cons_succ,Nat.reduceBEq,Nat.reduceAdd,int_i,bool_b,str_s,rows_l,Bool.not_true,Bool.not_false,beq_self_eq_true]
  rw [e]
  have hA:=accW_len (gd p 0) (gd q 0).int [gd q 0,gd q 1,gd q 2] _ (Nat.le_refl _)
  unfold finW
  generalize accW (gd p 0) (gd q 0).int [gd q 0,gd q 1,gd q 2] (gd p 0).rows.length=A at *
  have hA2:lenOk (A.1 ++ [[gd q 0,gd q 1,gd q 2]])=true:=lenOk_t (by simp; omega)
  cases A.2
  ·change some (bo,bif lenOk (A.1 ++ [[gd q 0,gd q 1,gd q 2]])&&true then some (1,[D.l (A.1 ++ [[gd q 0,gd q 1,gd q 2]])]) else none)=_
   rw [hA2]
   rfl
  ·rfl
 ·show s_l2SeatsL0 _ p q [_,_,_,_,_,_,_,_,.i (k:Int),_,_,_]=_
  rw [s_l2SeatsR0,accW_succ _ _ _ hk]
  have hA:=accW_len (gd p 0) (gd q 0).int [gd q 0,gd q 1,gd q 2] k (by omega)
  generalize accW (gd p 0) (gd q 0).int [gd q 0,gd q 1,gd q 2] k=A at *
  have hA1:∀ x,lenOk (A.1 ++ [x])=true:=fun x=>lenOk_t (by simp; omega)
  have hA2:∀ x y,lenOk (A.1 ++ [x] ++ [y])=true:=fun x y=>lenOk_t (by simp; omega)
  simp only [int_i,bool_b,rows_l,c_lt hk,nd_ix hk,w64_succ hk (show (gd p 0).rows.length≤9223372036854775807 from by omega),Int.toNat_natCast,stepW,hA1,Bool.and_true,nd_true]
  cases A.2 <;> cases leI (gd q 0).int (gd ((gd p 0).rows.getD k []) 0).int <;> cases hn:(gd ((gd p 0).rows.getD k []) 0).int != (gd q 0).int <;> simp only [nd,cond_true,cond_false,Option.isSome_some,Out.code,Out.pay,Option.getD_some,gd_cons_zero,gd_cons_succ,Nat.reduceBEq,Nat.reduceAdd,int_i,bool_b,str_s,rows_l,Bool.not_true,Bool.not_false,beq_self_eq_true,hA1,hA2,hn,inRange_nat hk,Int.toNat_natCast,Bool.and_true,Bool.and_false,Bool.false_and,Bool.true_and,Bool.or_true,Bool.or_false,Bool.true_or,Bool.false_or,w64_succ hk (show (gd p 0).rows.length≤9223372036854775807 from by omega)]
 ·show s_l2SeatsL0 _ p q [_,_,_,_,_,_,_,_,.i ((gd p 0).rows.length:Int),_,_,_]=_
  rw [s_l2SeatsR0]
  simp only [int_i,c_nlt]
abbrev s_RunCmdT:FuncId→List T→Option (T × Bool):=find [s_ImageOkE,s_CmdOkE,s_l2CopyE,s_CellAtE,s_l2CellsKE,s_l1MaxE]
theorem s_RunCmdT_ok:CallOk Tryz.prog s_RunCmdT:=find_ok (fC ⟨s_ImageOk_ok,fC ⟨s_CmdOk_ok,fC ⟨s_l2Copy_ok,fC ⟨s_CellAt_ok,fC ⟨s_l2CellsK_ok,fC ⟨s_l1Max_ok,fN⟩⟩⟩⟩⟩⟩)
abbrev s_RunCmdK:List Nat:= [0,1,2,3,4,5,6,7,8,16,27,28,32,42,59]
theorem s_RunCmd_ev (N:Nat) (p q:List D):evFn Tryz.prog s_RunCmdT N s_RunCmdK Tryz.f115 (.tup [.agg [.d (.sl 148),.d (.sl 69)],.c (.d si)]) [⟨ag rIImage,p⟩,⟨ag rICmd,q⟩]=some (bo,
 bif !(imOk (sub p 0 2)) then some (1,[.l [],.l [],.i 0])
 else bif !(cmdOk (sub q 0 3)) then some (1,[.l [],.l [],.i 0])
 else nd (leI ((gd p 0).rows.length:Int) 1000000&&leI ((gd p 1).rows.length:Int) 1000000) (bif (gd q 0).int==1 then some (1,[gd (copyIm (sub p 0 2)) 0,gd (copyIm (sub p 0 2)) 1,(bif imOk (sub p 0 2) then valD (gd p 0) (gd q 1).int else .i (-1))])
 else bif (gd q 0).int==4 then nd (keysUp (gd p 0)&&(!false||0 != -1)) (some (1,[putRaw (gd p 0) (gd q 1) (bif false then (.i 0) else .i (-1)),gd (copyIm (sub p 0 2)) 1,(bif imOk (sub p 0 2) then valD (gd p 0) (gd q 1).int else .i (-1))]))
 else bif (gd q 0).int==3 then bif ltI 1000000000 (w64 ((gd q 2).int+(maxD (bif imOk (sub p 0 2) then valD (gd p 0) (gd q 1).int else .i (-1)) (.i 0)).int)) then some (1,[gd (copyIm (sub p 0 2)) 0,gd (copyIm (sub p 0 2)) 1,.i (-1)])
 else bif ltI (bif imOk (sub p 0 2) then valD (gd p 0) (gd q 1).int else .i (-1)).int 0 then bif ((gd p 0).rows.length:Int)==40 then some (1,[gd (copyIm (sub p 0 2)) 0,gd (copyIm (sub p 0 2)) 1,.i (-1)])
 else nd (keysUp (gd p 0)&&(!true||(w64 ((gd q 2).int+(maxD (bif imOk (sub p 0 2) then valD (gd p 0) (gd q 1).int else .i (-1)) (.i 0)).int)) != -1)) (some (1,[putRaw (gd p 0) (gd q 1) (bif true then (.i (w64 ((gd q 2).int+(maxD (bif imOk (sub p 0 2) then valD (gd p 0) (gd q 1).int else .i (-1)) (.i 0)).int))) else .i (-1)),gd (copyIm (sub p 0 2)) 1,.i (w64 ((gd q 2).int+(maxD (bif imOk (sub p 0 2) then valD (gd p 0) (gd q 1).int else .i (-1)) (.i 0)).int))]))
 else nd (keysUp (gd p 0)&&(!true||(w64 ((gd q 2).int+(maxD (bif imOk (sub p 0 2) then valD (gd p 0) (gd q 1).int else .i (-1)) (.i 0)).int)) != -1)) (some (1,[putRaw (gd p 0) (gd q 1) (bif true then (.i (w64 ((gd q 2).int+(maxD (bif imOk (sub p 0 2) then valD (gd p 0) (gd q 1).int else .i (-1)) (.i 0)).int))) else .i (-1)),gd (copyIm (sub p 0 2)) 1,.i (w64 ((gd q 2).int+(maxD (bif imOk (sub p 0 2) then valD (gd p 0) (gd q 1).int else .i (-1)) (.i 0)).int))]))
 else bif ltI 1000000000 (gd q 2).int then some (1,[gd (copyIm (sub p 0 2)) 0,gd (copyIm (sub p 0 2)) 1,.i (-1)])
 else bif ltI (bif imOk (sub p 0 2) then valD (gd p 0) (gd q 1).int else .i (-1)).int 0 then bif ((gd p 0).rows.length:Int)==40 then some (1,[gd (copyIm (sub p 0 2)) 0,gd (copyIm (sub p 0 2)) 1,.i (-1)])
 else nd (keysUp (gd p 0)&&(!true||(gd q 2).int != -1)) (some (1,[putRaw (gd p 0) (gd q 1) (bif true then (gd q 2) else .i (-1)),gd (copyIm (sub p 0 2)) 1,gd q 2]))
 else nd (keysUp (gd p 0)&&(!true||(gd q 2).int != -1)) (some (1,[putRaw (gd p 0) (gd q 1) (bif true then (gd q 2) else .i (-1)),gd (copyIm (sub p 0 2)) 1,gd q 2])))):=by kernel_rfl
theorem val_le {p:List D} (h:imOk p=true) (t:Int) : -1≤(valD (gd p 0) t).int∧(valD (gd p 0) t).int≤1000000000:=by
 unfold valD
 cases hb:bsB (gd p 0) t with
 | false=>exact ⟨Int.le_refl _,(by decide:(-1:Int)≤1000000000)⟩
 | true =>
  rw [cond_true]
  have hlt:=bs_lt hb
  simp only [imOk,Bool.and_eq_true,List.all_eq_true,List.mem_range] at h
  have:=h.1 _ hlt
  generalize lowN (gd p 0) t=k at *
  cases k with
  | zero=>simp only [cellAtB,inB,Bool.and_eq_true,decide_eq_true_eq] at this; omega
  | succ k=>simp only [cellAtB,inB,Bool.and_eq_true,decide_eq_true_eq] at this; omega
theorem cmd_val {c:List D} (h:cmdOk c=true):0≤(gd c 2).int∧(gd c 2).int≤1000000000:=by
 unfold cmdOk at h
 cases h1:(gd c 0).int==1||(gd c 0).int==4 with
 | true =>
  rw [h1,cond_true,Bool.and_eq_true] at h
  have:=eq_of_beq h.2
  omega
 | false =>
  rw [h1,cond_false] at h
  cases h2:(gd c 0).int==2||(gd c 0).int==3 with
  | true =>
   rw [h2,cond_true,Bool.and_eq_true] at h
   have:=h.2
   simpa only [inB,Bool.and_eq_true,decide_eq_true_eq] using this
  | false=>rw [h2] at h; cases h
theorem max_same (x:Int):(maxD (.i x) (.i 0)).int=maxI x 0:=by
 unfold maxD maxI ltI
 by_cases h:x<0
 ·rw [if_pos h,show decide ((D.i 0).int<(D.i x).int)=false from decide_eq_false (by show ¬ (0:Int)<x; omega)]; rfl
 ·by_cases h0:x=0
  ·subst h0; rfl
  ·rw [if_neg h,show decide ((D.i 0).int<(D.i x).int)=true from decide_eq_true (by show (0:Int)<x; omega)]; rfl
theorem maxD_int (x:D):(maxD x (.i 0)).int=maxI x.int 0:=(by show (bif ltI (D.i 0).int x.int then x else D.i 0).int=(bif ltI (D.i 0).int x.int then D.i x.int else D.i 0).int; cases ltI (D.i 0).int x.int <;> rfl:(maxD x (.i 0)).int=(maxD (.i x.int) (.i 0)).int).trans (max_same _)
theorem maxI_ge (x:Int):0≤maxI x 0∧(x≤1000000000→maxI x 0≤1000000000):=by
 unfold maxI
 split <;> omega
def s_RunCmdE:Ent:=(115,e2 (ag rIImage) (ag rICmd) fun p q=>(⟨.tup [.agg [.d (.sl 148),.d (.sl 69)],.c (.d si)],sub (bif imOk p&&cmdOk q then runC p q else [.l [],.l [],.i 0]) 0 3⟩,true))
theorem s_RunCmd_ok:EntOk Tryz.prog s_RunCmdE:=e2_ok fun p q h=>evFn_sound (N:=0) (ks:=s_RunCmdK) (key:=bo) s_RunCmdT_ok (enters Tryz.func115) Tryz.func115 fun hw=>by
 rw [s_RunCmd_ev]
 rw [show imOk (sub p 0 2)=imOk p from rfl,show cmdOk (sub q 0 3)=cmdOk q from rfl]
 cases hi:imOk p with
 | false=>rfl
 | true =>
 cases hc:cmdOk q with
 | false=>rfl
 | true =>
 have hl:=im_len hi
 have hk:keysUp (gd p 0)=true:=im_cells hi
 have hv:=val_le hi (gd q 1).int
 have hc2:=cmd_val hc
 have e2:gd (copyIm (sub p 0 2)) 0=.l (gd p 0).rows:=rfl
 have e3:gd (copyIm (sub p 0 2)) 1=.l (gd p 1).rows:=rfl
 simp only [e2,e3,hk,leI_t (show ((gd p 0).rows.length:Int)≤1000000 by omega),leI_t (show ((gd p 1).rows.length:Int)≤1000000 by omega),Bool.and_self,Bool.not_true,Bool.not_false,cond_false,cond_true,Bool.true_or,Bool.false_or,Bool.true_and,nd_true,maxD_int]
 unfold runC runV
 generalize valD (gd p 0) (gd q 1).int=old at *
 have hm:=maxI_ge old.int
 have n1:((gd q 2).int != -1)=true:=bne_iff_ne.2 (by omega)
 have n2:(w64 ((gd q 2).int+maxI old.int 0) != -1)=true:=bne_iff_ne.2 (by rw [w64_id (by omega) (by omega)]; omega)
 simp only [n1,n2,nd_true,int_i]
 by_cases h1:(gd q 0).int=1
 ·rw [h1]; rfl
 by_cases h4:(gd q 0).int=4
 ·rw [h4]; rfl
 rw [beq_eq_false_iff_ne.2 h1,beq_eq_false_iff_ne.2 h4]
 cases (gd q 0).int==3 <;> simp only [cond_false,cond_true,int_i] <;> cases ltI old.int 0 <;> cases ((gd p 0).rows.length:Int)==40 <;> simp only [cond_false,cond_true,Bool.and_self,Bool.and_false,Bool.false_and,Bool.false_or,Bool.true_or,Bool.true_and]
 all_goals first
  | (cases ltI 1000000000 (gd q 2).int <;> rfl)
  | (cases ltI 1000000000 (w64 ((gd q 2).int+maxI old.int 0)) <;> rfl)
end Go.Proofs.YthbbbhpjkgpdcaaGreat
namespace Go.Proofs.YthbbbhpjkgpdcaaGreat
set_option maxRecDepth 4096
set_option maxHeartbeats 1000000
abbrev i_RunEntryT:FuncId→List T→Option (T × Bool):=find [i_ImageOkE,i_EntryOkE,i_seatForE,i_copyImageE,i_runE,i_insSE,apartE]
theorem i_RunEntryT_ok:CallOk Tryz.prog i_RunEntryT:=find_ok (fC ⟨i_ImageOk_ok,fC ⟨i_EntryOk_ok,fC ⟨i_seatFor_ok,fC ⟨i_copyImage_ok,fC ⟨i_run_ok,fC ⟨i_insS_ok,fC ⟨apart_ok,fN⟩⟩⟩⟩⟩⟩⟩)
abbrev i_RunEntryK:List Nat:= [0,1,2,3,4,5,6,7,8,9,10,11,19,28,49,64,88,3000004,3000006,3000008]
def i_RunEntry_evq0 (N:Nat) (p q:List D) (r4:Out):List (List D):= [[.i 2],[gd ((gd r4.pay 17).rows.getD (gd r4.pay 13).int.toNat []) 2],[gd ((gd r4.pay 17).rows.getD (gd r4.pay 13).int.toNat []) 2],[.l [[.l (gd r4.pay 17).rows,.i (gd r4.pay 13).int]]],[.l [[.l (gd r4.pay 17).rows,.i (gd r4.pay 13).int]]],[gd r4.pay 13],[gd r4.pay 17],[.i 0],[gd (sub (copyIm (sub r4.pay 16 2)) 0 2) 0,gd (sub (copyIm (sub r4.pay 16 2)) 0 2) 1],[gd r4.pay 16,gd r4.pay 17],[gd r4.pay 0,gd r4.pay 1],sub r4.pay 2 5,[gd r4.pay 7],[gd r4.pay 8],[gd r4.pay 9],[gd r4.pay 12],[gd r4.pay 13],[gd r4.pay 14],[gd r4.pay 15],[gd r4.pay 16,gd r4.pay 17],sub r4.pay 18 5,[gd (sub (copyIm (sub r4.pay 16 2)) 0 2) 0,gd (sub (copyIm (sub r4.pay 16 2)) 0 2) 1]]
theorem i_RunEntry_ev (N:Nat) (p q:List D):evFn Tryz.prog i_RunEntryT N i_RunEntryK Tryz.f94 (.tup [.agg [.own (0,0) true 148,.own (0,1) true 69],.c (.d si),.c (.d si)]) [⟨ag rIImage,p⟩,⟨ag rIEntry,q⟩]=some (bo,
 bif !(imOk (sub p 0 2)) then some (1,[.l [],.l [],.i 0,.i 1])
 else bif !(entryOk (sub q 0 5)) then some (1,[.l [],.l [],.i 0,.i 1])
 else nd (keysUp (gd p 1)&&inB (gd q 0).int 0 1000000000) ((let r4:Out:=(bif bsB (gd p 1) (gd q 0).int then nd (inRange (lowN (gd p 1) (gd q 0).int:Int) (gd p 1).rows.length) (nx [gd p 0,gd p 1,gd q 0,gd q 1,gd q 2,gd q 3,gd q 4,.i 0,.i 0,.i 0,.i 0,.i 0,.b (!(entryOk (sub q 0 5))),.i (lowN (gd p 1) (gd q 0).int:Int),.b (bsB (gd p 1) (gd q 0).int),.b ((gd ((gd p 1).rows.getD (lowN (gd p 1) (gd q 0).int:Int).toNat []) 1).int==(gd q 1).int),gd p 0,gd p 1,gd q 0,gd q 1,gd q 2,gd q 3,gd q 4,.l [],.l []])
  else nx [gd p 0,gd p 1,gd q 0,gd q 1,gd q 2,gd q 3,gd q 4,.i 0,.i 0,.i 0,.i 0,.i 0,.b (!(entryOk (sub q 0 5))),.i (lowN (gd p 1) (gd q 0).int:Int),.b (bsB (gd p 1) (gd q 0).int),.b false,gd p 0,gd p 1,gd q 0,gd q 1,gd q 2,gd q 3,gd q 4,.l [],.l []]);
  nd r4.isSome (bif (gd r4.pay 15).bool then nd ((leI ((gd r4.pay 16).rows.length:Int) 1000000&&leI ((gd r4.pay 17).rows.length:Int) 1000000)&&((inRange (gd r4.pay 13).int (gd r4.pay 17).rows.length)&&true)) (ndN 37 (((leI ((gd r4.pay 16).rows.length:Int) 1000000&&leI ((gd r4.pay 17).rows.length:Int) 1000000)&&((inRange (gd r4.pay 13).int (gd r4.pay 17).rows.length)&&true))&&(sameP (i_RunEntry_evq0 N p q r4) (i_RunEntry_evq0 N p q r4))) (ndN 6 (((inRange (gd r4.pay 13).int (gd r4.pay 17).rows.length)&&((leI ((gd r4.pay 16).rows.length:Int) 1000000&&leI ((gd r4.pay 17).rows.length:Int) 1000000)&&true))&&(sameP (i_RunEntry_evq0 N p q r4) (i_RunEntry_evq0 N p q r4))) (ndN 9 (((leI ((gd r4.pay 16).rows.length:Int) 1000000&&leI ((gd r4.pay 17).rows.length:Int) 1000000)&&((inRange (gd r4.pay 13).int (gd r4.pay 17).rows.length)&&true))&&(sameP (i_RunEntry_evq0 N p q r4) (i_RunEntry_evq0 N p q r4))) (ndN 6 (((inRange (gd r4.pay 13).int (gd r4.pay 17).rows.length)&&((leI ((gd r4.pay 16).rows.length:Int) 1000000&&leI ((gd r4.pay 17).rows.length:Int) 1000000)&&true))&&(sameP (i_RunEntry_evq0 N p q r4) (i_RunEntry_evq0 N p q r4))) (ndN 15 (((leI ((gd r4.pay 16).rows.length:Int) 1000000&&leI ((gd r4.pay 17).rows.length:Int) 1000000)&&((inRange (gd r4.pay 13).int (gd r4.pay 17).rows.length)&&true))&&(sameP (i_RunEntry_evq0 N p q r4) (i_RunEntry_evq0 N p q r4))) (ndN 6 (((inRange (gd r4.pay 13).int (gd r4.pay 17).rows.length)&&((leI ((gd r4.pay 16).rows.length:Int) 1000000&&leI ((gd r4.pay 17).rows.length:Int) 1000000)&&true))&&(sameP (i_RunEntry_evq0 N p q r4) (i_RunEntry_evq0 N p q r4))) (some (1,[gd (sub (copyIm (sub r4.pay 16 2)) 0 2) 0,gd (sub (copyIm (sub r4.pay 16 2)) 0 2) 1,gd ((gd r4.pay 17).rows.getD (gd r4.pay 13).int.toNat []) 2,.i 2]))))))))
  else (let r6:Out:=(bif (gd r4.pay 14).bool then nd (inRange (gd r4.pay 13).int (gd r4.pay 17).rows.length) (nx [gd r4.pay 0,gd r4.pay 1,gd r4.pay 2,gd r4.pay 3,gd r4.pay 4,gd r4.pay 5,gd r4.pay 6,gd r4.pay 7,gd r4.pay 8,gd r4.pay 9,gd r4.pay 10,gd r4.pay 11,gd r4.pay 12,gd r4.pay 13,gd r4.pay 14,gd r4.pay 15,.b (ltI (gd r4.pay 19).int (gd ((gd r4.pay 17).rows.getD (gd r4.pay 13).int.toNat []) 1).int),gd r4.pay 16,gd r4.pay 17,gd r4.pay 18,gd r4.pay 19,gd r4.pay 20,gd r4.pay 21,gd r4.pay 22,gd r4.pay 23,gd r4.pay 24])
  else nx [gd r4.pay 0,gd r4.pay 1,gd r4.pay 2,gd r4.pay 3,gd r4.pay 4,gd r4.pay 5,gd r4.pay 6,gd r4.pay 7,gd r4.pay 8,gd r4.pay 9,gd r4.pay 10,gd r4.pay 11,gd r4.pay 12,gd r4.pay 13,gd r4.pay 14,gd r4.pay 15,.b false,gd r4.pay 16,gd r4.pay 17,gd r4.pay 18,gd r4.pay 19,gd r4.pay 20,gd r4.pay 21,gd r4.pay 22,gd r4.pay 23,gd r4.pay 24]);
  nd r6.isSome (bif (gd r6.pay 16).bool then nd (leI ((gd r6.pay 17).rows.length:Int) 1000000&&leI ((gd r6.pay 18).rows.length:Int) 1000000) (some (1,[gd (sub (copyIm (sub r6.pay 17 2)) 0 2) 0,gd (sub (copyIm (sub r6.pay 17 2)) 0 2) 1,.i (-1),.i 2]))
  else (let r8:Out:=(bif !(gd r6.pay 14).bool then nx [gd r6.pay 0,gd r6.pay 1,gd r6.pay 2,gd r6.pay 3,gd r6.pay 4,gd r6.pay 5,gd r6.pay 6,gd r6.pay 7,gd r6.pay 8,gd r6.pay 9,gd r6.pay 10,gd r6.pay 11,gd r6.pay 12,gd r6.pay 13,gd r6.pay 14,gd r6.pay 15,gd r6.pay 16,.b (((gd r6.pay 18).rows.length:Int)==10),gd r6.pay 17,gd r6.pay 18,gd r6.pay 19,gd r6.pay 20,gd r6.pay 21,gd r6.pay 22,gd r6.pay 23,gd r6.pay 24,gd r6.pay 25]
   else nx [gd r6.pay 0,gd r6.pay 1,gd r6.pay 2,gd r6.pay 3,gd r6.pay 4,gd r6.pay 5,gd r6.pay 6,gd r6.pay 7,gd r6.pay 8,gd r6.pay 9,gd r6.pay 10,gd r6.pay 11,gd r6.pay 12,gd r6.pay 13,gd r6.pay 14,gd r6.pay 15,gd r6.pay 16,.b false,gd r6.pay 17,gd r6.pay 18,gd r6.pay 19,gd r6.pay 20,gd r6.pay 21,gd r6.pay 22,gd r6.pay 23,gd r6.pay 24,gd r6.pay 25]);
   nd r8.isSome (bif (gd r8.pay 17).bool then nd (leI ((gd r8.pay 18).rows.length:Int) 1000000&&leI ((gd r8.pay 19).rows.length:Int) 1000000) (some (1,[gd (sub (copyIm (sub r8.pay 18 2)) 0 2) 0,gd (sub (copyIm (sub r8.pay 18 2)) 0 2) 1,.i (-1),.i 3]))
   else nd (imOk (sub r8.pay 18 2)&&cmdOk (sub r8.pay 22 3)) (bif (gd r8.pay 14).bool then nd (inRange (gd r8.pay 13).int (gd (sub (runC (sub r8.pay 18 2) (sub r8.pay 22 3)) 0 3) 1).rows.length) (some (1,[gd (sub (runC (sub r8.pay 18 2) (sub r8.pay 22 3)) 0 3) 0,.l ((gd (sub (runC (sub r8.pay 18 2) (sub r8.pay 22 3)) 0 3) 1).rows.set (gd r8.pay 13).int.toNat [gd r8.pay 20,gd r8.pay 21,gd (sub (runC (sub r8.pay 18 2) (sub r8.pay 22 3)) 0 3) 2]),gd (sub (runC (sub r8.pay 18 2) (sub r8.pay 22 3)) 0 3) 2,.i 0]))
   else nd (leI ((gd (sub (runC (sub r8.pay 18 2) (sub r8.pay 22 3)) 0 3) 1).rows.length:Int) 1000000&&leI 0 (gd r8.pay 13).int&&leI (gd r8.pay 13).int ((gd (sub (runC (sub r8.pay 18 2) (sub r8.pay 22 3)) 0 3) 1).rows.length:Int)&&([[gd r8.pay 20,gd r8.pay 21,gd (sub (runC (sub r8.pay 18 2) (sub r8.pay 22 3)) 0 3) 2]].length==1)) (some (1,[gd (sub (runC (sub r8.pay 18 2) (sub r8.pay 22 3)) 0 3) 0,.l (insRows (gd (sub (runC (sub r8.pay 18 2) (sub r8.pay 22 3)) 0 3) 1).rows (gd r8.pay 13).int.toNat ([[gd r8.pay 20,gd r8.pay 21,gd (sub (runC (sub r8.pay 18 2) (sub r8.pay 22 3)) 0 3) 2]].getD 0 [])),gd (sub (runC (sub r8.pay 18 2) (sub r8.pay 22 3)) 0 3) 2,.i 0]))))))))))):=by kernel_rfl
def seatsPut (z:D) (k:Int) (new:List D):D:=bif bsB z k then .l (z.rows.set (lowN z k) new) else .l (insRows z.rows (lowN z k) new)
theorem seats_rows {z:D} (h:SortN z) (k:Int) (new:List D) (hn:numsR 3 (sub new 0 3)=numsR 3 new):(seatsPut z k (sub new 0 3)).rows.map (numsR 3)=(finW (sub new 0 3) (accW z k (sub new 0 3) z.rows.length)).map (numsR 3):=by
 unfold accW
 rw [List.take_length]
 obtain ⟨A,B,hA,ha,hb,h⟩:=low_cases h k
 unfold seatsPut
 rw [← hA]
 rcases h with ⟨hb0,e⟩ | ⟨hb1,b,hkb,e⟩
 ·rw [hb0,e,cond_false,rows_l,ins_mid,fold_no ha hb]
  simp only [List.map_append,nums_map,List.map_cons,List.map_nil,List.append_assoc,List.cons_append,List.nil_append]
 ·rw [hb1,e,cond_true,rows_l,set_mid,fold_yes ha hkb hb]
  simp only [List.map_append,nums_map,List.map_cons,List.map_nil,List.append_assoc,List.cons_append,List.nil_append]
def s_l2SeatsKE:Ent:=(116,e2 (sd (.sl 69)) (ag rISeat) fun p q=>(⟨.one (.c (.own (0,0) true 69)),[seatsPut (gd p 0) (gd q 0).int (sub q 0 3)]⟩,keysUp (gd p 0)))
theorem s_l2SeatsK_ok:EntOk Tryz.prog s_l2SeatsKE:=e2_ok fun p q h=>by
 have h:keysUp (gd p 0)=true:=h
 have hz:=keys_sorted h
 have hl:=hz.len
 refine SoundFn.nums (w:=3) (y:=.l (finW (sub q 0 3) (accW (gd p 0) (gd q 0).int (sub q 0 3) (gd p 0).rows.length))) row_seat (seats_rows hz (gd q 0).int q (numsR_sub 3 q)).symm (s_l2Seats_ok [⟨sd (.sl 69),p⟩,⟨ag rISeat,q⟩] ⟨.one (.c (.own (0,0) true 69)),[.l (finW (sub q 0 3) (accW (gd p 0) (gd q 0).int (sub q 0 3) (gd p 0).rows.length))]⟩ ?_)
 have:leI ((gd p 0).rows.length:Int) 1000000=true:=leI_t (by omega)
 simp only [s_l2SeatsE,e2,beq_self_eq_true,Bool.and_self,cond_true,this]
theorem run_seats (p c:List D):gd (runC p c) 1=.l (gd p 1).rows:=by
 unfold runC
 cases (gd c 0).int==1 <;> cases (gd c 0).int==4 <;> cases (ltI (valD (gd p 0) (gd c 1).int).int 0&&((gd p 0).rows.length:Int)==40)||ltI 1000000000 (runV (valD (gd p 0) (gd c 1).int) c).int <;> rfl
def seatR (p q:List D):List D:=(gd p 1).rows.getD (lowN (gd p 1) (gd q 0).int) []
def runE2 (p q:List D):List D:=
 bif bsB (gd p 1) (gd q 0).int&&(gd (seatR p q) 1).int==(gd q 1).int then [.l (gd p 0).rows,.l (gd p 1).rows,gd (seatR p q) 2,.i 2]
 else bif bsB (gd p 1) (gd q 0).int&&ltI (gd q 1).int (gd (seatR p q) 1).int then [.l (gd p 0).rows,.l (gd p 1).rows,.i (-1),.i 2]
 else bif !bsB (gd p 1) (gd q 0).int&&((gd p 1).rows.length:Int)==10 then [.l (gd p 0).rows,.l (gd p 1).rows,.i (-1),.i 3]
 else [gd (runC (sub p 0 2) (sub q 2 3)) 0,seatsPut (gd p 1) (gd q 0).int [gd q 0,gd q 1,gd (runC (sub p 0 2) (sub q 2 3)) 2],gd (runC (sub p 0 2) (sub q 2 3)) 2,.i 0]
def runEntry (p q:List D):List D:=bif imOk p&&entryOk q then runE2 p q else [.l [],.l [],.i 0,.i 1]
def i_RunEntryE:Ent:=(94,e2 (ag rIImage) (ag rIEntry) fun p q=>(⟨.tup [.agg [.own (0,0) true 148,.own (0,1) true 69],.c (.d si),.c (.d si)],sub (runEntry p q) 0 4⟩,true))
theorem i_RunEntry_ok:EntOk Tryz.prog i_RunEntryE:=e2_ok fun p q h=>evFn_sound (N:=0) (ks:=i_RunEntryK) (key:=bo) i_RunEntryT_ok (enters Tryz.func94) Tryz.func94 fun hw=>by
 rw [i_RunEntry_ev]
 unfold runEntry
 have hp2:sub p 0 2 = [gd p 0,gd p 1]:=rfl
 have hq5:sub q 0 5 = [gd q 0,gd q 1,gd q 2,gd q 3,gd q 4]:=rfl
 rw [show imOk (sub p 0 2)=imOk p from rfl,show entryOk (sub q 0 5)=entryOk q from rfl]
 cases hi:imOk p with
 | false=>rfl
 | true =>
 cases he:entryOk q with
 | false=>rfl
 | true =>
 have hl:=im_len hi
 have hk:keysUp (gd p 1)=true:=im_seats hi
 have he':=he
 simp only [entryOk,Bool.and_eq_true] at he'
 have l1:leI ((gd p 0).rows.length:Int) 1000000=true:=leI_t (by omega)
 have l2:leI ((gd p 1).rows.length:Int) 1000000=true:=leI_t (by omega)
 have hi':imOk [gd p 0,gd p 1]=true:=hi
 have hc':cmdOk [gd q 2,gd q 3,gd q 4]=true:=he'.2.2
 unfold runE2 seatR
 cases hb:bsB (gd p 1) (gd q 0).int with
 | false =>
  simp only [hk,he'.1,hb,l1,l2,nd,cond_true,cond_false,Option.isSome_some,Out.code,Out.pay,Option.getD_some,gd_cons_zero,gd_cons_succ,Nat.reduceBEq,Nat.reduceAdd,int_i,bool_b,str_s,rows_l,Bool.not_true,Bool.not_false,beq_self_eq_true,Bool.and_self,nd_true,Bool.false_and,Bool.and_true]
  have hlow:leI (lowN (gd p 1) (gd q 0).int:Int) ((gd p 1).rows.length:Int)=true:=leI_t (by have:=low_le (gd p 1) (gd q 0).int; omega)
  simp only [sub,Nat.reduceAdd,gd_cons_zero,gd_cons_succ,hi',hc',run_seats,rows_l,l2,leI_0,hlow,Bool.and_self,List.length_cons,List.length_nil,nd_true,cond_false,Int.toNat_natCast,copyIm,l1,beq_self_eq_true,seatsPut,hb]
  cases ((gd p 1).rows.length:Int)==10 <;> rfl
 | true =>
  have hlt:=bs_lt hb
  simp only [hk,he'.1,hb,l1,l2,nd,cond_true,cond_false,Option.isSome_some,Out.code,Out.pay,Option.getD_some,gd_cons_zero,gd_cons_succ,Nat.reduceBEq,Nat.reduceAdd,int_i,bool_b,str_s,rows_l,Bool.not_true,Bool.not_false,beq_self_eq_true,inRange_nat hlt,Int.toNat_natCast,sameP_self,ndN_true,Bool.and_self,nd_true,Bool.true_and,Bool.and_true]
  simp only [sub,Nat.reduceAdd,gd_cons_zero,gd_cons_succ,hi',hc',run_seats,rows_l,l2,leI_0,Bool.and_self,List.length_cons,List.length_nil,nd_true,cond_false,Int.toNat_natCast,copyIm,l1,beq_self_eq_true,inRange_nat hlt,seatsPut,hb,cond_true]
  cases (gd ((gd p 1).rows.getD (lowN (gd p 1) (gd q 0).int) []) 1).int==(gd q 1).int with
  | true=>rfl
  | false=>cases ltI (gd q 1).int (gd ((gd p 1).rows.getD (lowN (gd p 1) (gd q 0).int) []) 1).int <;> rfl
abbrev i_RunAllT:FuncId→List T→Option (T × Bool):=find [i_copyImageE,i_RunEntryE,apartE]
theorem i_RunAllT_ok:CallOk Tryz.prog i_RunAllT:=find_ok (fC ⟨i_copyImage_ok,fC ⟨i_RunEntry_ok,fC ⟨apart_ok,fN⟩⟩⟩)
abbrev i_RunAllK:List Nat:= [0,1,2,4,5,6,8,9,10,11,17,20,21,22,23,34,8000002]
noncomputable def i_RunAllL0 (N:Nat) (p q:List D):List D→Out:=loopOf Tryz.prog i_RunAllT N i_RunAllK Tryz.f88 (.tup [.agg [.own (0,0) true 148,.own (0,1) true 69],.c (.own (0,2) true 3)]) [⟨ag rIImage,p⟩,⟨sd (.sl 78),q⟩] 0
def i_RunAllc0 (x8 x10 x11 x12:D):List D:=runEntry [x11,x12] (sub (x8.rows.getD x10.int.toNat []) 0 5)
theorem i_RunAllR0 (N:Nat) (p q:List D) (x0 x1 x2 x3 x4 x5 x6 x7 x8 x9 x10 x11 x12 x13 x14:D):(i_RunAllL0 N p q) [x0,x1,x2,x3,x4,x5,x6,x7,x8,x9,x10,x11,x12,x13,x14] =
 bif ltI x10.int x9.int then nd (inRange x10.int x8.rows.length) (bif (gd (i_RunAllc0 x8 x10 x11 x12) 3).int != 1 then nd (lenOk (x6.rows ++ [[gd (i_RunAllc0 x8 x10 x11 x12) 2]])&&true) (nx [x0,x1,x2,x3,x4,x5,.l (x6.rows ++ [[gd (i_RunAllc0 x8 x10 x11 x12) 2]]),x7,x8,x9,.i (w64 (x10.int+1)),gd (i_RunAllc0 x8 x10 x11 x12) 0,gd (i_RunAllc0 x8 x10 x11 x12) 1,x13,x14])
 else nd (lenOk (x6.rows ++ [[gd (i_RunAllc0 x8 x10 x11 x12) 2]])&&true) (nx [x0,x1,x2,x3,x4,x5,.l (x6.rows ++ [[gd (i_RunAllc0 x8 x10 x11 x12) 2]]),x7,x8,x9,.i (w64 (x10.int+1)),x11,x12,x13,x14]))
 else ex 0 [x0,x1,x2,x3,x4,x5,x6,x7,x8,x9,x10,x11,x12,x13,x14]:=by kernel_rfl
theorem i_RunAll_ev (N:Nat) (p q:List D):evFn Tryz.prog i_RunAllT N i_RunAllK Tryz.f88 (.tup [.agg [.own (0,0) true 148,.own (0,1) true 69],.c (.own (0,2) true 3)]) [⟨ag rIImage,p⟩,⟨sd (.sl 78),q⟩]=some (bo,
 nd (leI ((gd p 0).rows.length:Int) 1000000&&leI ((gd p 1).rows.length:Int) 1000000) (bif ltI 60 ((gd q 0).rows.length:Int) then some (1,[gd (sub (copyIm (sub p 0 2)) 0 2) 0,gd (sub (copyIm (sub p 0 2)) 0 2) 1,.l []])
 else (let o0:=iter (i_RunAllL0 N p q) N [gd p 0,gd p 1,gd q 0,.i 0,.i 0,.l [],.l [],.b (ltI 60 ((gd q 0).rows.length:Int)),gd q 0,.i ((gd q 0).rows.length:Int),.i 0,gd (sub (copyIm (sub p 0 2)) 0 2) 0,gd (sub (copyIm (sub p 0 2)) 0 2) 1,.l [],.l []]
  nd o0.isSome (nd (o0.code==2) (some (1,[gd o0.pay 11,gd o0.pay 12,gd o0.pay 6])))))):=by kernel_rfl
def runR (S:D × D × List (List D)) (r:List D):List D:=runEntry [S.1,S.2.1] (sub r 0 5)
def runS (p:List D) (z:D):Nat→D × D × List (List D)
 | 0=>(.l (gd p 0).rows,.l (gd p 1).rows,[])
 | k+1=>(bif (gd (runR (runS p z k) (z.rows.getD k [])) 3).int != 1 then gd (runR (runS p z k) (z.rows.getD k [])) 0 else (runS p z k).1,
   bif (gd (runR (runS p z k) (z.rows.getD k [])) 3).int != 1 then gd (runR (runS p z k) (z.rows.getD k [])) 1 else (runS p z k).2.1,(runS p z k).2.2 ++ [[gd (runR (runS p z k) (z.rows.getD k [])) 2]])
theorem runS_len (p:List D) (z:D):∀ k,(runS p z k).2.2.length=k
 | 0=>rfl
 | k+1=>by rw [runS,List.length_append,runS_len p z k]; rfl
def runAll (p:List D) (z:D):List D:=bif ltI 60 (z.rows.length:Int) then [.l (gd p 0).rows,.l (gd p 1).rows,.l []] else [(runS p z z.rows.length).1,(runS p z z.rows.length).2.1,.l (runS p z z.rows.length).2.2]
def i_RunAllE:Ent:=(88,e2 (ag rIImage) (sd (.sl 78)) fun p q=>(⟨.tup [.agg [.own (0,0) true 148,.own (0,1) true 69],.c (.own (0,2) true 3)],sub (runAll p (gd q 0)) 0 3⟩,leI ((gd p 0).rows.length:Int) 1000000&&leI ((gd p 1).rows.length:Int) 1000000))
theorem i_RunAll_ok:EntOk Tryz.prog i_RunAllE:=e2_ok fun p q h=>evFn_sound (N:=(gd q 0).rows.length+1) (ks:=i_RunAllK) (key:=bo) i_RunAllT_ok (enters Tryz.func88) Tryz.func88 fun hw=>by
 rw [i_RunAll_ev]
 have h:(leI ((gd p 0).rows.length:Int) 1000000&&leI ((gd p 1).rows.length:Int) 1000000)=true:=h
 rw [h,nd_true]
 unfold runAll
 by_cases hb:(gd q 0).rows.length≤60
 rotate_left
 ·rw [ltI_t (show (60:Int)<((gd q 0).rows.length:Int) from by omega)]
  rfl
 rw [ltI_f (show ((gd q 0).rows.length:Int)≤60 from by omega)]
 have e:=run_loop (L:=i_RunAllL0 ((gd q 0).rows.length+1) p q) (fun k => [gd p 0,gd p 1,gd q 0,.i 0,.i 0,.l [],.l (runS p (gd q 0) k).2.2,.b false,gd q 0,.i ((gd q 0).rows.length:Int),.i (k:Int),(runS p (gd q 0) k).1,(runS p (gd q 0) k).2.1,.l [],.l []]) (gd q 0).rows.length 0 (fun k hk=>?_) ?_ (N:=(gd q 0).rows.length+1) (by omega)
 ·simp only [Int.natCast_zero] at e
  rw [show (runS p (gd q 0) 0)=(.l (gd p 0).rows,.l (gd p 1).rows,[]) from rfl] at e
  simp only [cond_false,sub,copyIm,Nat.reduceAdd,gd_cons_zero,gd_cons_succ]
  rw [e]
  rfl
 ·show i_RunAllL0 _ p q [_,_,_,_,_,_,_,_,_,_,.i (k:Int),_,_,_,_]=_
  rw [i_RunAllR0]
  have hlen:=runS_len p (gd q 0) k
  have ho:∀ x,lenOk ((runS p (gd q 0) k).2.2 ++ [x])=true:=fun x=>lenOk_t (by simp; omega)
  simp only [i_RunAllc0,int_i,rows_l,c_lt hk,nd_ix hk,inRange_nat hk,Int.toNat_natCast,w64_succ hk (show (gd q 0).rows.length≤9223372036854775807 by omega),ho,sameP_self,ndN_true,Bool.and_self,nd_true]
  rw [runS]
  unfold runR
  cases (gd (runEntry [(runS p (gd q 0) k).1,(runS p (gd q 0) k).2.1] (sub ((gd q 0).rows.getD k []) 0 5)) 3).int != 1 <;> rfl
 ·show i_RunAllL0 _ p q [_,_,_,_,_,_,_,_,_,.i ((gd q 0).rows.length:Int),.i ((gd q 0).rows.length:Int),_,_,_,_]=_
  rw [i_RunAllR0]
  simp only [int_i,c_nlt]
abbrev s_RunEntryT:FuncId→List T→Option (T × Bool):=find [s_ImageOkE,s_EntryOkE,s_SeatOfE,s_l2CopyE,s_RunCmdE,s_l2SeatsKE]
theorem s_RunEntryT_ok:CallOk Tryz.prog s_RunEntryT:=find_ok (fC ⟨s_ImageOk_ok,fC ⟨s_EntryOk_ok,fC ⟨s_SeatOf_ok,fC ⟨s_l2Copy_ok,fC ⟨s_RunCmd_ok,fC ⟨s_l2SeatsK_ok,fN⟩⟩⟩⟩⟩⟩)
abbrev s_RunEntryK:List Nat:= [0,1,2,3,4,5,6,7,8,9,10,18,27,40,51]
def s_RunEntryc0 (p q:List D):List D:=bif imOk (sub p 0 2)&&cmdOk (sub q 2 3) then runC (sub p 0 2) (sub q 2 3) else [.l [],.l [],.i 0]
def s_RunEntry_evq0 (N:Nat) (p q:List D):List (List D):= [[.i 2],[gd (sub (seatOf (sub p 0 2) (gd q 0).int) 0 4) 2],[gd (sub (seatOf (sub p 0 2) (gd q 0).int) 0 4) 2],[.i 0],[gd (sub (copyIm (sub p 0 2)) 0 2) 0,gd (sub (copyIm (sub p 0 2)) 0 2) 1],[gd p 0,gd p 1],p,q,[.i 0],[.i 0],[.i 0],[.b (!(entryOk (sub q 0 5)))],[.i 0],[gd (sub (seatOf (sub p 0 2) (gd q 0).int) 0 4) 3],[.b ((gd (sub (seatOf (sub p 0 2) (gd q 0).int) 0 4) 1).int==(gd q 1).int)],[gd p 0,gd p 1],sub q 0 5,[gd (sub (copyIm (sub p 0 2)) 0 2) 0,gd (sub (copyIm (sub p 0 2)) 0 2) 1],sub (sub (seatOf (sub p 0 2) (gd q 0).int) 0 4) 0 3]
theorem s_RunEntry_ev (N:Nat) (p q:List D):evFn Tryz.prog s_RunEntryT N s_RunEntryK Tryz.f76 (.tup [.agg [.d (.sl 148),.d (.sl 69)],.c (.d si),.c (.d si)]) [⟨ag rIImage,p⟩,⟨ag rIEntry,q⟩]=some (bo,
 bif !(imOk (sub p 0 2)) then some (1,[.l [],.l [],.i 0,.i 1])
 else bif !(entryOk (sub q 0 5)) then some (1,[.l [],.l [],.i 0,.i 1])
 else bif (gd (sub (seatOf (sub p 0 2) (gd q 0).int) 0 4) 3).bool then bif (gd (sub (seatOf (sub p 0 2) (gd q 0).int) 0 4) 1).int==(gd q 1).int then nd ((leI ((gd p 0).rows.length:Int) 1000000&&leI ((gd p 1).rows.length:Int) 1000000)&&true) (ndN 5 (((leI ((gd p 0).rows.length:Int) 1000000&&leI ((gd p 1).rows.length:Int) 1000000)&&true)&&(sameP (s_RunEntry_evq0 N p q) (s_RunEntry_evq0 N p q))) (some (1,[gd (sub (copyIm (sub p 0 2)) 0 2) 0,gd (sub (copyIm (sub p 0 2)) 0 2) 1,gd (sub (seatOf (sub p 0 2) (gd q 0).int) 0 4) 2,.i 2])))
 else bif (gd (sub (seatOf (sub p 0 2) (gd q 0).int) 0 4) 3).bool then bif ltI (gd q 1).int (gd (sub (seatOf (sub p 0 2) (gd q 0).int) 0 4) 1).int then nd (leI ((gd p 0).rows.length:Int) 1000000&&leI ((gd p 1).rows.length:Int) 1000000) (some (1,[gd (sub (copyIm (sub p 0 2)) 0 2) 0,gd (sub (copyIm (sub p 0 2)) 0 2) 1,.i (-1),.i 2]))
 else bif !(gd (sub (seatOf (sub p 0 2) (gd q 0).int) 0 4) 3).bool then bif ((gd p 1).rows.length:Int)==10 then nd (leI ((gd p 0).rows.length:Int) 1000000&&leI ((gd p 1).rows.length:Int) 1000000) (some (1,[gd (sub (copyIm (sub p 0 2)) 0 2) 0,gd (sub (copyIm (sub p 0 2)) 0 2) 1,.i (-1),.i 3]))
 else nd (keysUp (gd p 1)) (some (1,[gd (sub (s_RunEntryc0 p q) 0 3) 0,seatsPut (gd p 1) (gd q 0).int (sub [gd q 0,gd q 1,gd (sub (s_RunEntryc0 p q) 0 3) 2] 0 3),gd (sub (s_RunEntryc0 p q) 0 3) 2,.i 0]))
 else nd (keysUp (gd p 1)) (some (1,[gd (sub (s_RunEntryc0 p q) 0 3) 0,seatsPut (gd p 1) (gd q 0).int (sub [gd q 0,gd q 1,gd (sub (s_RunEntryc0 p q) 0 3) 2] 0 3),gd (sub (s_RunEntryc0 p q) 0 3) 2,.i 0]))
 else bif !(gd (sub (seatOf (sub p 0 2) (gd q 0).int) 0 4) 3).bool then bif ((gd p 1).rows.length:Int)==10 then nd (leI ((gd p 0).rows.length:Int) 1000000&&leI ((gd p 1).rows.length:Int) 1000000) (some (1,[gd (sub (copyIm (sub p 0 2)) 0 2) 0,gd (sub (copyIm (sub p 0 2)) 0 2) 1,.i (-1),.i 3]))
 else nd (keysUp (gd p 1)) (some (1,[gd (sub (s_RunEntryc0 p q) 0 3) 0,seatsPut (gd p 1) (gd q 0).int (sub [gd q 0,gd q 1,gd (sub (s_RunEntryc0 p q) 0 3) 2] 0 3),gd (sub (s_RunEntryc0 p q) 0 3) 2,.i 0]))
 else nd (keysUp (gd p 1)) (some (1,[gd (sub (s_RunEntryc0 p q) 0 3) 0,seatsPut (gd p 1) (gd q 0).int (sub [gd q 0,gd q 1,gd (sub (s_RunEntryc0 p q) 0 3) 2] 0 3),gd (sub (s_RunEntryc0 p q) 0 3) 2,.i 0]))
 else bif (gd (sub (seatOf (sub p 0 2) (gd q 0).int) 0 4) 3).bool then bif ltI (gd q 1).int (gd (sub (seatOf (sub p 0 2) (gd q 0).int) 0 4) 1).int then nd (leI ((gd p 0).rows.length:Int) 1000000&&leI ((gd p 1).rows.length:Int) 1000000) (some (1,[gd (sub (copyIm (sub p 0 2)) 0 2) 0,gd (sub (copyIm (sub p 0 2)) 0 2) 1,.i (-1),.i 2]))
 else bif !(gd (sub (seatOf (sub p 0 2) (gd q 0).int) 0 4) 3).bool then bif ((gd p 1).rows.length:Int)==10 then nd (leI ((gd p 0).rows.length:Int) 1000000&&leI ((gd p 1).rows.length:Int) 1000000) (some (1,[gd (sub (copyIm (sub p 0 2)) 0 2) 0,gd (sub (copyIm (sub p 0 2)) 0 2) 1,.i (-1),.i 3]))
 else nd (keysUp (gd p 1)) (some (1,[gd (sub (s_RunEntryc0 p q) 0 3) 0,seatsPut (gd p 1) (gd q 0).int (sub [gd q 0,gd q 1,gd (sub (s_RunEntryc0 p q) 0 3) 2] 0 3),gd (sub (s_RunEntryc0 p q) 0 3) 2,.i 0]))
 else nd (keysUp (gd p 1)) (some (1,[gd (sub (s_RunEntryc0 p q) 0 3) 0,seatsPut (gd p 1) (gd q 0).int (sub [gd q 0,gd q 1,gd (sub (s_RunEntryc0 p q) 0 3) 2] 0 3),gd (sub (s_RunEntryc0 p q) 0 3) 2,.i 0]))
 else bif !(gd (sub (seatOf (sub p 0 2) (gd q 0).int) 0 4) 3).bool then bif ((gd p 1).rows.length:Int)==10 then nd (leI ((gd p 0).rows.length:Int) 1000000&&leI ((gd p 1).rows.length:Int) 1000000) (some (1,[gd (sub (copyIm (sub p 0 2)) 0 2) 0,gd (sub (copyIm (sub p 0 2)) 0 2) 1,.i (-1),.i 3]))
 else nd (keysUp (gd p 1)) (some (1,[gd (sub (s_RunEntryc0 p q) 0 3) 0,seatsPut (gd p 1) (gd q 0).int (sub [gd q 0,gd q 1,gd (sub (s_RunEntryc0 p q) 0 3) 2] 0 3),gd (sub (s_RunEntryc0 p q) 0 3) 2,.i 0]))
 else nd (keysUp (gd p 1)) (some (1,[gd (sub (s_RunEntryc0 p q) 0 3) 0,seatsPut (gd p 1) (gd q 0).int (sub [gd q 0,gd q 1,gd (sub (s_RunEntryc0 p q) 0 3) 2] 0 3),gd (sub (s_RunEntryc0 p q) 0 3) 2,.i 0]))):=by kernel_rfl
def s_RunEntryE:Ent:=(76,e2 (ag rIImage) (ag rIEntry) fun p q=>(⟨.tup [.agg [.d (.sl 148),.d (.sl 69)],.c (.d si),.c (.d si)],sub (runEntry p q) 0 4⟩,true))
theorem s_RunEntry_ok:EntOk Tryz.prog s_RunEntryE:=e2_ok fun p q h=>evFn_sound (N:=0) (ks:=s_RunEntryK) (key:=bo) s_RunEntryT_ok (enters Tryz.func76) Tryz.func76 fun hw=>by
 rw [s_RunEntry_ev]
 unfold runEntry
 have hp2:sub p 0 2 = [gd p 0,gd p 1]:=rfl
 rw [show imOk (sub p 0 2)=imOk p from rfl,show entryOk (sub q 0 5)=entryOk q from rfl]
 cases hi:imOk p with
 | false=>rfl
 | true =>
 cases he:entryOk q with
 | false=>rfl
 | true =>
 have hl:=im_len hi
 have hk:keysUp (gd p 1)=true:=im_seats hi
 have he':=he
 simp only [entryOk,Bool.and_eq_true] at he'
 have l1:leI ((gd p 0).rows.length:Int) 1000000=true:=leI_t (by omega)
 have l2:leI ((gd p 1).rows.length:Int) 1000000=true:=leI_t (by omega)
 have hi':imOk [gd p 0,gd p 1]=true:=hi
 have hc':cmdOk [gd q 2,gd q 3,gd q 4]=true:=he'.2.2
 have hc2:(cmdOk (sub q 2 3))=true:=he'.2.2
 simp only [hi,hc2,Bool.and_self,cond_true,Bool.not_true,cond_false,s_RunEntryc0,show imOk (sub p 0 2)=true from hi]
 unfold runE2 seatR seatOf
 cases hb:bsB (gd p 1) (gd q 0).int with
 | false =>
  simp only [nd,cond_true,cond_false,Option.isSome_some,Out.code,Out.pay,Option.getD_some,gd_cons_zero,gd_cons_succ,Nat.reduceBEq,Nat.reduceAdd,int_i,bool_b,str_s,rows_l,Bool.not_true,Bool.not_false,beq_self_eq_true,sub,Nat.reduceAdd,hb,hi',hk,l1,l2,Bool.and_self,Bool.and_false,Bool.false_and,Bool.true_and,nd_true,copyIm]
  cases ((gd p 1).rows.length:Int)==10 <;> rfl
 | true =>
  simp only [nd,cond_true,cond_false,Option.isSome_some,Out.code,Out.pay,Option.getD_some,gd_cons_zero,gd_cons_succ,Nat.reduceBEq,Nat.reduceAdd,int_i,bool_b,str_s,rows_l,Bool.not_true,Bool.not_false,beq_self_eq_true,sub,Nat.reduceAdd,hb,hi',hk,l1,l2,Bool.and_self,Bool.and_true,Bool.true_and,nd_true,sameP_self,ndN_true,copyIm]
  cases (gd ((gd p 1).rows.getD (lowN (gd p 1) (gd q 0).int) []) 1).int==(gd q 1).int with
  | true=>rfl
  | false=>cases ltI (gd q 1).int (gd ((gd p 1).rows.getD (lowN (gd p 1) (gd q 0).int) []) 1).int <;> rfl
abbrev s_RunAllT:FuncId→List T→Option (T × Bool):=find [s_l2CopyE,s_RunEntryE]
theorem s_RunAllT_ok:CallOk Tryz.prog s_RunAllT:=find_ok (fC ⟨s_l2Copy_ok,fC ⟨s_RunEntry_ok,fN⟩⟩)
abbrev s_RunAllK:List Nat:= [0,1,2,4,5,6,7,8,9,10,11,17,23,41]
noncomputable def s_RunAllL0 (N:Nat) (p q:List D):List D→Out:=loopOf Tryz.prog s_RunAllT N s_RunAllK Tryz.f112 (.tup [.agg [.d (.sl 148),.d (.sl 69)],.c (.d (.sl 3))]) [⟨ag rIImage,p⟩,⟨sd (.sl 78),q⟩] 0
def s_RunAllR0q0 (N:Nat) (p q:List D) (x0 x1 x2 x3 x4 x5 x6 x7 x8 x9 x10 x11 x12 x13 x14 x15:D):List (List D):= [[gd (runEntry [x14,x15] (sub (x2.rows.getD x9.int.toNat []) 0 5)) 3],[gd (runEntry [x14,x15] (sub (x2.rows.getD x9.int.toNat []) 0 5)) 2],[.i 0],[gd (runEntry [x14,x15] (sub (x2.rows.getD x9.int.toNat []) 0 5)) 3],[gd (runEntry [x14,x15] (sub (x2.rows.getD x9.int.toNat []) 0 5)) 2],[gd (runEntry [x14,x15] (sub (x2.rows.getD x9.int.toNat []) 0 5)) 0,gd (runEntry [x14,x15] (sub (x2.rows.getD x9.int.toNat []) 0 5)) 1],[gd (runEntry [x14,x15] (sub (x2.rows.getD x9.int.toNat []) 0 5)) 0,gd (runEntry [x14,x15] (sub (x2.rows.getD x9.int.toNat []) 0 5)) 1,gd (runEntry [x14,x15] (sub (x2.rows.getD x9.int.toNat []) 0 5)) 2,gd (runEntry [x14,x15] (sub (x2.rows.getD x9.int.toNat []) 0 5)) 3],[gd (runEntry [x14,x15] (sub (x2.rows.getD x9.int.toNat []) 0 5)) 0,gd (runEntry [x14,x15] (sub (x2.rows.getD x9.int.toNat []) 0 5)) 1,gd (runEntry [x14,x15] (sub (x2.rows.getD x9.int.toNat []) 0 5)) 2,gd (runEntry [x14,x15] (sub (x2.rows.getD x9.int.toNat []) 0 5)) 3],[gd (x2.rows.getD x9.int.toNat []) 0,gd (x2.rows.getD x9.int.toNat []) 1,gd (x2.rows.getD x9.int.toNat []) 2,gd (x2.rows.getD x9.int.toNat []) 3,gd (x2.rows.getD x9.int.toNat []) 4],[.l [[.l x2.rows,.i x9.int]]],[x9],[x2],[x14,x15],[x0,x1],[x2],[x3],[x4],[x5],[x6],[x7],[x8],[x9],[.b (ltI x9.int (x2.rows.length:Int))],[x10,x11],[x12,x13],[x14,x15],[gd (runEntry [x14,x15] (sub (x2.rows.getD x9.int.toNat []) 0 5)) 0,gd (runEntry [x14,x15] (sub (x2.rows.getD x9.int.toNat []) 0 5)) 1]]
def s_RunAllc0 (x2 x9 x14 x15:D):List D:=runEntry [x14,x15] (sub (x2.rows.getD x9.int.toNat []) 0 5)
theorem s_RunAllR0 (N:Nat) (p q:List D) (x0 x1 x2 x3 x4 x5 x6 x7 x8 x9 x10 x11 x12 x13 x14 x15:D):(s_RunAllL0 N p q) [x0,x1,x2,x3,x4,x5,x6,x7,x8,x9,x10,x11,x12,x13,x14,x15] =
 bif ltI x9.int (x2.rows.length:Int) then nd ((inRange x9.int x2.rows.length)&&true) (ndN 15 (((inRange x9.int x2.rows.length)&&true)&&(sameP (s_RunAllR0q0 N p q x0 x1 x2 x3 x4 x5 x6 x7 x8 x9 x10 x11 x12 x13 x14 x15) (s_RunAllR0q0 N p q x0 x1 x2 x3 x4 x5 x6 x7 x8 x9 x10 x11 x12 x13 x14 x15))) (nd (lenOk (x6.rows ++ [[gd (s_RunAllc0 x2 x9 x14 x15) 2]])&&true) (bif (gd (s_RunAllc0 x2 x9 x14 x15) 3).int != 1 then nx [x0,x1,x2,x3,x4,x5,.l (x6.rows ++ [[gd (s_RunAllc0 x2 x9 x14 x15) 2]]),x7,x8,.i (w64 (x9.int+1)),x10,x11,x12,x13,gd (s_RunAllc0 x2 x9 x14 x15) 0,gd (s_RunAllc0 x2 x9 x14 x15) 1]
 else nx [x0,x1,x2,x3,x4,x5,.l (x6.rows ++ [[gd (s_RunAllc0 x2 x9 x14 x15) 2]]),x7,x8,.i (w64 (x9.int+1)),x10,x11,x12,x13,x14,x15])))
 else ex 0 [x0,x1,x2,x3,x4,x5,x6,x7,x8,x9,x10,x11,x12,x13,x14,x15]:=by kernel_rfl
theorem s_RunAll_ev (N:Nat) (p q:List D):evFn Tryz.prog s_RunAllT N s_RunAllK Tryz.f112 (.tup [.agg [.d (.sl 148),.d (.sl 69)],.c (.d (.sl 3))]) [⟨ag rIImage,p⟩,⟨sd (.sl 78),q⟩]=some (bo,
 nd (leI ((gd p 0).rows.length:Int) 1000000&&leI ((gd p 1).rows.length:Int) 1000000) (bif ltI 60 ((gd q 0).rows.length:Int) then some (1,[gd (sub (copyIm (sub p 0 2)) 0 2) 0,gd (sub (copyIm (sub p 0 2)) 0 2) 1,.l []])
 else (let o0:=iter (s_RunAllL0 N p q) N [gd p 0,gd p 1,gd q 0,.i 0,.i 0,.l [],.l [],.i 0,.b (ltI 60 ((gd q 0).rows.length:Int)),.i 0,gd p 0,gd p 1,.l [],.l [],gd (sub (copyIm (sub p 0 2)) 0 2) 0,gd (sub (copyIm (sub p 0 2)) 0 2) 1]
  nd o0.isSome (nd (o0.code==2) (some (1,[gd o0.pay 14,gd o0.pay 15,gd o0.pay 6])))))):=by kernel_rfl
def s_RunAllE:Ent:=(112,e2 (ag rIImage) (sd (.sl 78)) fun p q=>(⟨.tup [.agg [.d (.sl 148),.d (.sl 69)],.c (.d (.sl 3))],sub (runAll p (gd q 0)) 0 3⟩,leI ((gd p 0).rows.length:Int) 1000000&&leI ((gd p 1).rows.length:Int) 1000000))
theorem s_RunAll_ok:EntOk Tryz.prog s_RunAllE:=e2_ok fun p q h=>evFn_sound (N:=(gd q 0).rows.length+1) (ks:=s_RunAllK) (key:=bo) s_RunAllT_ok (enters Tryz.func112) Tryz.func112 fun hw=>by
 rw [s_RunAll_ev]
 have h:(leI ((gd p 0).rows.length:Int) 1000000&&leI ((gd p 1).rows.length:Int) 1000000)=true:=h
 rw [h,nd_true]
 unfold runAll
 by_cases hb:(gd q 0).rows.length≤60
 rotate_left
 ·rw [ltI_t (show (60:Int)<((gd q 0).rows.length:Int) from by omega)]
  rfl
 rw [ltI_f (show ((gd q 0).rows.length:Int)≤60 from by omega)]
 have e:=run_loop (L:=s_RunAllL0 ((gd q 0).rows.length+1) p q) (fun k => [gd p 0,gd p 1,gd q 0,.i 0,.i 0,.l [],.l (runS p (gd q 0) k).2.2,.i 0,.b false,.i (k:Int),gd p 0,gd p 1,.l [],.l [],(runS p (gd q 0) k).1,(runS p (gd q 0) k).2.1]) (gd q 0).rows.length 0 (fun k hk=>?_) ?_ (N:=(gd q 0).rows.length+1) (by omega)
 ·simp only [Int.natCast_zero] at e
  rw [show (runS p (gd q 0) 0)=(.l (gd p 0).rows,.l (gd p 1).rows,[]) from rfl] at e
  simp only [cond_false,sub,copyIm,Nat.reduceAdd,gd_cons_zero,gd_cons_succ]
  rw [e]
  rfl
 ·show s_RunAllL0 _ p q [_,_,_,_,_,_,_,_,_,.i (k:Int),_,_,_,_,_,_]=_
  rw [s_RunAllR0]
  have hlen:=runS_len p (gd q 0) k
  have ho:∀ x,lenOk ((runS p (gd q 0) k).2.2 ++ [x])=true:=fun x=>lenOk_t (by simp; omega)
  simp only [s_RunAllc0,int_i,rows_l,c_lt hk,nd_ix hk,inRange_nat hk,Int.toNat_natCast,w64_succ hk (show (gd q 0).rows.length≤9223372036854775807 by omega),ho,sameP_self,ndN_true,Bool.and_self,nd_true]
  rw [runS]
  unfold runR
  cases (gd (runEntry [(runS p (gd q 0) k).1,(runS p (gd q 0) k).2.1] (sub ((gd q 0).rows.getD k []) 0 5)) 3).int != 1 <;> rfl
 ·show s_RunAllL0 _ p q [_,_,_,_,_,_,_,_,_,.i ((gd q 0).rows.length:Int),_,_,_,_,_,_]=_
  rw [s_RunAllR0]
  simp only [int_i,c_nlt]
end Go.Proofs.YthbbbhpjkgpdcaaGreat
namespace Go.Proofs.YthbbbhpjkgpdcaaGreat
def pr (r:List D):Int × Int:=((gd r 0).int,(gd r 1).int)
def fin (k v:D) (R:List (List D) × Bool):List (List D):=bif !R.2 then R.1 ++ [[k,v]] else R.1
end Go.Proofs.YthbbbhpjkgpdcaaGreat
namespace Go.Proofs.YthbbbhpjkgpdcaaGreat
end Go.Proofs.YthbbbhpjkgpdcaaGreat
namespace Go.Proofs.YthbbbhpjkgpdcaaGreat
set_option maxRecDepth 4096
set_option maxHeartbeats 1000000
end Go.Proofs.YthbbbhpjkgpdcaaGreat
namespace Go.Proofs.YthbbbhpjkgpdcaaGreat
set_option maxRecDepth 4096
set_option maxHeartbeats 1000000
structure CoordW (R O:D):Prop where
 len:R.rows.length≤60
 tx:∀ i,i<R.rows.length→(gd (R.rows.getD i []) 0).int=((i+1:Nat):Int)
 sh:∀ i,i<R.rows.length→sharesOk (gd (R.rows.getD i []) 4)=true
 ord:∀ k,k<O.rows.length→1≤vAt O k∧vAt O k≤(R.rows.length:Int)∧(gd (R.rows.getD (vAt O k - 1).toNat []) 3).int=3
 nodup:(numsOf O).Nodup
 all:cnt (isYes R) 0 R.rows.length=O.rows.length
end Go.Proofs.YthbbbhpjkgpdcaaGreat
namespace Go.Proofs.YthbbbhpjkgpdcaaGreat
set_option maxRecDepth 4096
set_option maxHeartbeats 1000000
abbrev shOf (R O:D) (k:Nat):D:=gd (R.rows.getD (vAt O k - 1).toNat []) 4
structure BefW (R O:D):Prop where
 ord:∀ k,k<O.rows.length→1≤vAt O k∧vAt O k≤(R.rows.length:Int)
 sh:∀ k,k<O.rows.length→sharesOk (shOf R O k)=true
 rl:R.rows.length≤60
 ol:O.rows.length≤60
end Go.Proofs.YthbbbhpjkgpdcaaGreat
namespace Go.Proofs.YthbbbhpjkgpdcaaGreat
set_option maxRecDepth 4096
set_option maxHeartbeats 1000000
def cellsOf (p:List D) (k:Nat):D:=gd ((gd p 9).rows.getD k []) 3
end Go.Proofs.YthbbbhpjkgpdcaaGreat
namespace Go.Proofs.YthbbbhpjkgpdcaaGreat
set_option maxRecDepth 4096
set_option maxHeartbeats 1000000
end Go.Proofs.YthbbbhpjkgpdcaaGreat
namespace Go.Proofs.YthbbbhpjkgpdcaaGreat
set_option maxRecDepth 4096
set_option maxHeartbeats 1000000
def sameC (x y:D):Bool:=(x.rows.length==y.rows.length)&&(List.range x.rows.length).all fun k=>eqRow [si,si] (sub (x.rows.getD k []) 0 2) (sub (y.rows.getD k []) 0 2)
theorem for_same {L:List D→Out} {st:Nat→List D} {n:Nat} (C:Nat→Bool) (h1:∀ k,k<n→L (st k)=bif C k then nx (st (k+1)) else some (1,[.b false])) (h2:L (st n)=some (2,st n)) :
  ∀ (m k N:Nat),k+m=n→m<N→iter L N (st k)=bif (List.range' k m).all C then some (2,st n) else some (1,[.b false]):=by
 intro m
 induction m with
 | zero =>
  intro k N hk hN
  obtain ⟨N,rfl⟩:∃ N',N=N'+1:=⟨N - 1,by omega⟩
  obtain rfl:k=n:=by omega
  exact iter_ex (c:=1) h2
 | succ m ih =>
  intro k N hk hN
  obtain ⟨N,rfl⟩:∃ N',N=N'+1:=⟨N - 1,by omega⟩
  have h:=h1 k (by omega)
  rw [List.range'_succ,List.all_cons]
  cases hc:C k with
  | true =>
   rw [hc,cond_true] at h
   rw [iter_nx h,Bool.true_and]
   exact ih (k+1) N (by omega) (by omega)
  | false =>
   rw [hc,cond_false] at h
   rw [Bool.false_and,cond_false]
   exact iter_ex (c:=0) h
theorem same_all {x y:D} (h:x.rows.length=y.rows.length):sameC x y=(List.range' 0 x.rows.length).all fun k=>eqRow [si,si] (sub (x.rows.getD k []) 0 2) (sub (y.rows.getD k []) 0 2):=by
 unfold sameC
 rw [show (x.rows.length==y.rows.length)=true from by simp [h],Bool.true_and,List.range_eq_range']
abbrev i_EqCT:FuncId→List T→Option (T × Bool):=find []
theorem i_EqCT_ok:CallOk Tryz.prog i_EqCT:=find_ok (fN)
abbrev i_EqCK:List Nat:= [0,1,4,5,10,12,13,14,24]
noncomputable def i_EqCL0 (N:Nat) (p q:List D):List D→Out:=loopOf Tryz.prog i_EqCT N i_EqCK Tryz.f167 rb [⟨sd (.sl 148),p⟩,⟨sd (.sl 148),q⟩] 0
theorem i_EqCR0 (N:Nat) (p q:List D) (x0 x1 x2 x3 x4 x5:D):(i_EqCL0 N p q) [x0,x1,x2,x3,x4,x5] =
 bif ltI x5.int x4.int then nd (inRange x5.int x0.rows.length) (nd (inRange x5.int x1.rows.length) (bif !(eqRow [si,si] (sub (x0.rows.getD x5.int.toNat []) 0 2) (sub (x1.rows.getD x5.int.toNat []) 0 2)) then ob false
 else nx [x0,x1,x2,x3,x4,.i (w64 (x5.int+1))]))
 else ex 0 [x0,x1,x2,x3,x4,x5]:=by kernel_rfl
theorem i_EqC_ev (N:Nat) (p q:List D):evFn Tryz.prog i_EqCT N i_EqCK Tryz.f167 rb [⟨sd (.sl 148),p⟩,⟨sd (.sl 148),q⟩]=some (bo,
 bif ((gd p 0).rows.length:Int) != ((gd q 0).rows.length:Int) then ob false
 else (let o0:=iter (i_EqCL0 N p q) N [gd p 0,gd q 0,.i 0,.b (((gd p 0).rows.length:Int) != ((gd q 0).rows.length:Int)),.i ((gd p 0).rows.length:Int),.i 0]
  nd o0.isSome (bif o0.code==1 then some (1,o0.pay)
  else nd (o0.code==2) (ob true)))):=by kernel_rfl
def i_EqCE:Ent:=(167,e2 (sd (.sl 148)) (sd (.sl 148)) fun p q=>(⟨rb,[.b (sameC (gd p 0) (gd q 0))]⟩,true))
theorem i_EqC_ok:EntOk Tryz.prog i_EqCE:=e2_ok fun p q h=>evFn_sound (N:=(gd p 0).rows.length+1) (ks:=i_EqCK) (key:=bo) i_EqCT_ok (enters Tryz.func167) Tryz.func167 fun hw=>by
 rw [i_EqC_ev]
 have hl:=wt_sl (hw ⟨sd (.sl 148),p⟩ (by simp))
 by_cases he:(gd p 0).rows.length=(gd q 0).rows.length
 ·rw [show ((((gd p 0).rows.length:Int)) != ((gd q 0).rows.length:Int))=false from by simp [he]]
  have e:=for_same (L:=i_EqCL0 ((gd p 0).rows.length+1) p q) (st:=fun k => [gd p 0,gd q 0,.i 0,.b false,.i ((gd p 0).rows.length:Int),.i (k:Int)]) (n:=(gd p 0).rows.length) (fun k=>eqRow [si,si] (sub ((gd p 0).rows.getD k []) 0 2) (sub ((gd q 0).rows.getD k []) 0 2)) (fun k hk=>?_) ?_ (gd p 0).rows.length 0 ((gd p 0).rows.length+1) (by omega) (by omega)
  ·simp only [Int.natCast_zero] at e
   simp only [cond_false]
   rw [e,← same_all he]
   cases sameC (gd p 0) (gd q 0) <;> rfl
  ·show i_EqCL0 _ p q [_,_,_,_,_,.i (k:Int)]=_
   rw [i_EqCR0]
   have hk':k<(gd q 0).rows.length:=by omega
   simp only [int_i,c_lt hk,ltI_nat hk,nd_ix hk,nd_ix hk',Int.toNat_natCast,w64_succ hk hl]
   cases eqRow [si,si] (sub ((gd p 0).rows.getD k []) 0 2) (sub ((gd q 0).rows.getD k []) 0 2) <;> rfl
  ·show i_EqCL0 _ p q [_,_,_,_,_,.i ((gd p 0).rows.length:Int)]=_
   rw [i_EqCR0]
   simp only [int_i,c_nlt]
 ·rw [show ((((gd p 0).rows.length:Int)) != ((gd q 0).rows.length:Int))=true from by simp only [bne_iff_ne,ne_eq,Int.ofNat_inj]; exact he]
  rw [show sameC (gd p 0) (gd q 0)=false from by simp [sameC,he]]
  rfl
end Go.Proofs.YthbbbhpjkgpdcaaGreat
namespace Go.Proofs.YthbbbhpjkgpdcaaGreat
set_option maxRecDepth 4096
set_option maxHeartbeats 1000000
abbrev i_EqST:FuncId→List T→Option (T × Bool):=find []
theorem i_EqST_ok:CallOk Tryz.prog i_EqST:=find_ok (fN)
abbrev i_EqSK:List Nat:= [0,1,4,5,10,12,13,14,24]
noncomputable def i_EqSL0 (N:Nat) (p q:List D):List D→Out:=loopOf Tryz.prog i_EqST N i_EqSK Tryz.f168 rb [⟨sd (.sl 69),p⟩,⟨sd (.sl 69),q⟩] 0
theorem i_EqSR0 (N:Nat) (p q:List D) (x0 x1 x2 x3 x4 x5:D):(i_EqSL0 N p q) [x0,x1,x2,x3,x4,x5] =
 bif ltI x5.int x4.int then nd (inRange x5.int x0.rows.length) (nd (inRange x5.int x1.rows.length) (bif !(eqRow [si,si,si] (sub (x0.rows.getD x5.int.toNat []) 0 3) (sub (x1.rows.getD x5.int.toNat []) 0 3)) then ob false
 else nx [x0,x1,x2,x3,x4,.i (w64 (x5.int+1))]))
 else ex 0 [x0,x1,x2,x3,x4,x5]:=by kernel_rfl
theorem i_EqS_ev (N:Nat) (p q:List D):evFn Tryz.prog i_EqST N i_EqSK Tryz.f168 rb [⟨sd (.sl 69),p⟩,⟨sd (.sl 69),q⟩]=some (bo,
 bif ((gd p 0).rows.length:Int) != ((gd q 0).rows.length:Int) then ob false
 else (let o0:=iter (i_EqSL0 N p q) N [gd p 0,gd q 0,.i 0,.b (((gd p 0).rows.length:Int) != ((gd q 0).rows.length:Int)),.i ((gd p 0).rows.length:Int),.i 0]
  nd o0.isSome (bif o0.code==1 then some (1,o0.pay)
  else nd (o0.code==2) (ob true)))):=by kernel_rfl
def sameS (x y:D):Bool:=(x.rows.length==y.rows.length)&&(List.range x.rows.length).all fun k=>eqRow [si,si,si] (sub (x.rows.getD k []) 0 3) (sub (y.rows.getD k []) 0 3)
theorem sameS_all {x y:D} (h:x.rows.length=y.rows.length):sameS x y=(List.range' 0 x.rows.length).all fun k=>eqRow [si,si,si] (sub (x.rows.getD k []) 0 3) (sub (y.rows.getD k []) 0 3):=by
 unfold sameS
 rw [show (x.rows.length==y.rows.length)=true from by simp [h],Bool.true_and,List.range_eq_range']
theorem sameS_ne {x y:D} (h:¬ x.rows.length=y.rows.length):sameS x y=false:=by simp [sameS,h]
def i_EqSE:Ent:=(168,e2 (sd (.sl 69)) (sd (.sl 69)) fun p q=>(⟨rb,[.b (sameS (gd p 0) (gd q 0))]⟩,true))
theorem i_EqS_ok:EntOk Tryz.prog i_EqSE:=e2_ok fun p q h=>evFn_sound (N:=(gd p 0).rows.length+1) (ks:=i_EqSK) (key:=bo) i_EqST_ok (enters Tryz.func168) Tryz.func168 fun hw=>by
 rw [i_EqS_ev]
 have hl:=wt_sl (hw ⟨sd (.sl 69),p⟩ (by simp))
 by_cases he:(gd p 0).rows.length=(gd q 0).rows.length
 ·rw [show ((((gd p 0).rows.length:Int)) != ((gd q 0).rows.length:Int))=false from by simp [he]]
  have e:=for_same (L:=i_EqSL0 ((gd p 0).rows.length+1) p q) (st:=fun k => [gd p 0,gd q 0,.i 0,.b false,.i ((gd p 0).rows.length:Int),.i (k:Int)]) (n:=(gd p 0).rows.length) (fun k=>eqRow [si,si,si] (sub ((gd p 0).rows.getD k []) 0 3) (sub ((gd q 0).rows.getD k []) 0 3)) (fun k hk=>?_) ?_ (gd p 0).rows.length 0 ((gd p 0).rows.length+1) (by omega) (by omega)
  ·simp only [Int.natCast_zero] at e
   simp only [cond_false]
   rw [e,← sameS_all he]
   cases sameS (gd p 0) (gd q 0) <;> rfl
  ·show i_EqSL0 _ p q [_,_,_,_,_,.i (k:Int)]=_
   rw [i_EqSR0]
   have hk':k<(gd q 0).rows.length:=by omega
   simp only [int_i,c_lt hk,ltI_nat hk,nd_ix hk,nd_ix hk',Int.toNat_natCast,w64_succ hk hl]
   cases eqRow [si,si,si] (sub ((gd p 0).rows.getD k []) 0 3) (sub ((gd q 0).rows.getD k []) 0 3) <;> rfl
  ·show i_EqSL0 _ p q [_,_,_,_,.i ((gd p 0).rows.length:Int),.i ((gd p 0).rows.length:Int)]=_
   rw [i_EqSR0]
   simp only [int_i,c_nlt]
 ·rw [show ((((gd p 0).rows.length:Int)) != ((gd q 0).rows.length:Int))=true from by simp only [bne_iff_ne,ne_eq,Int.ofNat_inj]; exact he]
  rw [sameS_ne he]
  rfl
abbrev i_EqET:FuncId→List T→Option (T × Bool):=find []
theorem i_EqET_ok:CallOk Tryz.prog i_EqET:=find_ok (fN)
abbrev i_EqEK:List Nat:= [0,1,4,5,10,12,13,14,24]
noncomputable def i_EqEL0 (N:Nat) (p q:List D):List D→Out:=loopOf Tryz.prog i_EqET N i_EqEK Tryz.f162 rb [⟨sd (.sl 78),p⟩,⟨sd (.sl 78),q⟩] 0
theorem i_EqER0 (N:Nat) (p q:List D) (x0 x1 x2 x3 x4 x5:D):(i_EqEL0 N p q) [x0,x1,x2,x3,x4,x5] =
 bif ltI x5.int x4.int then nd (inRange x5.int x0.rows.length) (nd (inRange x5.int x1.rows.length) (bif !(eqRow [si,si,si,si,si] (sub (x0.rows.getD x5.int.toNat []) 0 5) (sub (x1.rows.getD x5.int.toNat []) 0 5)) then ob false
 else nx [x0,x1,x2,x3,x4,.i (w64 (x5.int+1))]))
 else ex 0 [x0,x1,x2,x3,x4,x5]:=by kernel_rfl
theorem i_EqE_ev (N:Nat) (p q:List D):evFn Tryz.prog i_EqET N i_EqEK Tryz.f162 rb [⟨sd (.sl 78),p⟩,⟨sd (.sl 78),q⟩]=some (bo,
 bif ((gd p 0).rows.length:Int) != ((gd q 0).rows.length:Int) then ob false
 else (let o0:=iter (i_EqEL0 N p q) N [gd p 0,gd q 0,.i 0,.b (((gd p 0).rows.length:Int) != ((gd q 0).rows.length:Int)),.i ((gd p 0).rows.length:Int),.i 0]
  nd o0.isSome (bif o0.code==1 then some (1,o0.pay)
  else nd (o0.code==2) (ob true)))):=by kernel_rfl
def sameE (x y:D):Bool:=(x.rows.length==y.rows.length)&&(List.range x.rows.length).all fun k=>eqRow [si,si,si,si,si] (sub (x.rows.getD k []) 0 5) (sub (y.rows.getD k []) 0 5)
theorem sameE_all {x y:D} (h:x.rows.length=y.rows.length):sameE x y=(List.range' 0 x.rows.length).all fun k=>eqRow [si,si,si,si,si] (sub (x.rows.getD k []) 0 5) (sub (y.rows.getD k []) 0 5):=by
 unfold sameE
 rw [show (x.rows.length==y.rows.length)=true from by simp [h],Bool.true_and,List.range_eq_range']
theorem sameE_ne {x y:D} (h:¬ x.rows.length=y.rows.length):sameE x y=false:=by simp [sameE,h]
def i_EqEE:Ent:=(162,e2 (sd (.sl 78)) (sd (.sl 78)) fun p q=>(⟨rb,[.b (sameE (gd p 0) (gd q 0))]⟩,true))
theorem i_EqE_ok:EntOk Tryz.prog i_EqEE:=e2_ok fun p q h=>evFn_sound (N:=(gd p 0).rows.length+1) (ks:=i_EqEK) (key:=bo) i_EqET_ok (enters Tryz.func162) Tryz.func162 fun hw=>by
 rw [i_EqE_ev]
 have hl:=wt_sl (hw ⟨sd (.sl 78),p⟩ (by simp))
 by_cases he:(gd p 0).rows.length=(gd q 0).rows.length
 ·rw [show ((((gd p 0).rows.length:Int)) != ((gd q 0).rows.length:Int))=false from by simp [he]]
  have e:=for_same (L:=i_EqEL0 ((gd p 0).rows.length+1) p q) (st:=fun k => [gd p 0,gd q 0,.i 0,.b false,.i ((gd p 0).rows.length:Int),.i (k:Int)]) (n:=(gd p 0).rows.length) (fun k=>eqRow [si,si,si,si,si] (sub ((gd p 0).rows.getD k []) 0 5) (sub ((gd q 0).rows.getD k []) 0 5)) (fun k hk=>?_) ?_ (gd p 0).rows.length 0 ((gd p 0).rows.length+1) (by omega) (by omega)
  ·simp only [Int.natCast_zero] at e
   simp only [cond_false]
   rw [e,← sameE_all he]
   cases sameE (gd p 0) (gd q 0) <;> rfl
  ·show i_EqEL0 _ p q [_,_,_,_,_,.i (k:Int)]=_
   rw [i_EqER0]
   have hk':k<(gd q 0).rows.length:=by omega
   simp only [int_i,c_lt hk,ltI_nat hk,nd_ix hk,nd_ix hk',Int.toNat_natCast,w64_succ hk hl]
   cases eqRow [si,si,si,si,si] (sub ((gd p 0).rows.getD k []) 0 5) (sub ((gd q 0).rows.getD k []) 0 5) <;> rfl
  ·show i_EqEL0 _ p q [_,_,_,_,.i ((gd p 0).rows.length:Int),.i ((gd p 0).rows.length:Int)]=_
   rw [i_EqER0]
   simp only [int_i,c_nlt]
 ·rw [show ((((gd p 0).rows.length:Int)) != ((gd q 0).rows.length:Int))=true from by simp only [bne_iff_ne,ne_eq,Int.ofNat_inj]; exact he]
  rw [sameE_ne he]
  rfl
abbrev i_SameImageT:FuncId→List T→Option (T × Bool):=find [i_EqCE,i_EqSE]
theorem i_SameImageT_ok:CallOk Tryz.prog i_SameImageT:=find_ok (fC ⟨i_EqC_ok,fC ⟨i_EqS_ok,fN⟩⟩)
abbrev i_SameImageK:List Nat:= [0,1,2,3,4]
theorem i_SameImage_ev (N:Nat) (p q:List D):evFn Tryz.prog i_SameImageT N i_SameImageK Tryz.f161 rb [⟨ag rIImage,p⟩,⟨ag rIImage,q⟩]=some (bo,
 bif sameC (gd p 0) (gd q 0) then ob (sameS (gd p 1) (gd q 1))
 else ob false):=by kernel_rfl
def sameIm (p q:List D):Bool:=sameC (gd p 0) (gd q 0)&&sameS (gd p 1) (gd q 1)
def i_SameImageE:Ent:=(161,e2 (ag rIImage) (ag rIImage) fun p q=>(⟨rb,[.b (sameIm p q)]⟩,true))
theorem i_SameImage_ok:EntOk Tryz.prog i_SameImageE:=e2_ok fun p q h=>evFn_sound (N:=0) (ks:=i_SameImageK) (key:=bo) i_SameImageT_ok (enters Tryz.func161) Tryz.func161 fun hw=>by
 rw [i_SameImage_ev]
 unfold sameIm
 cases sameC (gd p 0) (gd q 0) <;> rfl
abbrev i_SameLogT:FuncId→List T→Option (T × Bool):=find [i_SameImageE,i_EqEE]
theorem i_SameLogT_ok:CallOk Tryz.prog i_SameLogT:=find_ok (fC ⟨i_SameImage_ok,fC ⟨i_EqE_ok,fN⟩⟩)
abbrev i_SameLogK:List Nat:= [0,1,2,3,4]
theorem i_SameLog_ev (N:Nat) (p q:List D):evFn Tryz.prog i_SameLogT N i_SameLogK Tryz.f151 rb [⟨ag rILog,p⟩,⟨ag rILog,q⟩]=some (bo,
 bif (gd p 0).int==(gd q 0).int then bif sameIm (sub p 1 2) (sub q 1 2) then ob (sameE (gd p 3) (gd q 3))
 else ob false
 else ob false):=by kernel_rfl
def sameLg (p q:List D):Bool:=(gd p 0).int==(gd q 0).int&&(sameIm (sub p 1 2) (sub q 1 2)&&sameE (gd p 3) (gd q 3))
def i_SameLogE:Ent:=(151,e2 (ag rILog) (ag rILog) fun p q=>(⟨rb,[.b (sameLg p q)]⟩,true))
theorem i_SameLog_ok:EntOk Tryz.prog i_SameLogE:=e2_ok fun p q h=>evFn_sound (N:=0) (ks:=i_SameLogK) (key:=bo) i_SameLogT_ok (enters Tryz.func151) Tryz.func151 fun hw=>by
 rw [i_SameLog_ev]
 unfold sameLg
 cases (gd p 0).int==(gd q 0).int <;> cases sameIm (sub p 1 2) (sub q 1 2) <;> rfl
abbrev i_isLogZeroT:FuncId→List T→Option (T × Bool):=find [i_SameLogE]
theorem i_isLogZeroT_ok:CallOk Tryz.prog i_isLogZeroT:=find_ok (fC ⟨i_SameLog_ok,fN⟩)
abbrev i_isLogZeroK:List Nat:= [0,1,2]
theorem i_isLogZero_ev (N:Nat) (p:List D):evFn Tryz.prog i_isLogZeroT N i_isLogZeroK Tryz.f126 rb [⟨ag rILog,p⟩]=some (bo,
 ob (sameLg (sub p 0 4) [.i 0,.l [],.l [],.l []])):=by kernel_rfl
def i_isLogZeroE:Ent:=(126,e1 (ag rILog) fun p=>(⟨rb,[.b (sameLg p [.i 0,.l [],.l [],.l []])]⟩,true))
theorem i_isLogZero_ok:EntOk Tryz.prog i_isLogZeroE:=e1_ok fun p h=>evFn_sound (N:=0) (ks:=i_isLogZeroK) (key:=bo) i_isLogZeroT_ok (enters Tryz.func126) Tryz.func126 fun hw=>by
 rw [i_isLogZero_ev]
 rfl
abbrev s_SameImageT:FuncId→List T→Option (T × Bool):=find []
theorem s_SameImageT_ok:CallOk Tryz.prog s_SameImageT:=find_ok (fN)
abbrev s_SameImageK:List Nat:= [0,1,2,3,4,5,6,22,27,40,45,58]
noncomputable def s_SameImageL0 (N:Nat) (p q:List D):List D→Out:=loopOf Tryz.prog s_SameImageT N s_SameImageK Tryz.f144 rb [⟨ag rIImage,p⟩,⟨ag rIImage,q⟩] 0
noncomputable def s_SameImageL2 (N:Nat) (p q:List D):List D→Out:=loopOf Tryz.prog s_SameImageT N s_SameImageK Tryz.f144 rb [⟨ag rIImage,p⟩,⟨ag rIImage,q⟩] 2
theorem s_SameImageR0 (N:Nat) (p q:List D) (x0 x1 x2 x3 x4 x5 x6 x7 x8 x9 x10 x11 x12:D):(s_SameImageL0 N p q) [x0,x1,x2,x3,x4,x5,x6,x7,x8,x9,x10,x11,x12] =
 bif ltI x8.int (x9.rows.length:Int) then nd (inRange x8.int x9.rows.length) (nd (inRange x8.int x11.rows.length) (bif !(eqRow [si,si] (sub (x9.rows.getD x8.int.toNat []) 0 2) (sub (x11.rows.getD x8.int.toNat []) 0 2)) then ob false
 else nx [x0,x1,x2,x3,x4,x5,x6,x7,.i (w64 (x8.int+1)),x9,x10,x11,x12]))
 else ex 0 [x0,x1,x2,x3,x4,x5,x6,x7,x8,x9,x10,x11,x12]:=by kernel_rfl
theorem s_SameImageR2 (N:Nat) (p q:List D) (x0 x1 x2 x3 x4 x5 x6 x7 x8 x9 x10 x11 x12 x13:D):(s_SameImageL2 N p q) [x0,x1,x2,x3,x4,x5,x6,x7,x8,x9,x10,x11,x12,x13] =
 bif ltI x9.int (x11.rows.length:Int) then nd (inRange x9.int x11.rows.length) (nd (inRange x9.int x13.rows.length) (bif !(eqRow [si,si,si] (sub (x11.rows.getD x9.int.toNat []) 0 3) (sub (x13.rows.getD x9.int.toNat []) 0 3)) then ob false
 else nx [x0,x1,x2,x3,x4,x5,x6,x7,x8,.i (w64 (x9.int+1)),x10,x11,x12,x13]))
 else ex 2 [x0,x1,x2,x3,x4,x5,x6,x7,x8,x9,x10,x11,x12,x13]:=by kernel_rfl
theorem s_SameImage_ev (N:Nat) (p q:List D):evFn Tryz.prog s_SameImageT N s_SameImageK Tryz.f144 rb [⟨ag rIImage,p⟩,⟨ag rIImage,q⟩]=some (bo,
 bif ((gd p 0).rows.length:Int) != ((gd q 0).rows.length:Int) then ob false
 else bif ((gd p 1).rows.length:Int) != ((gd q 1).rows.length:Int) then ob false
 else (let o0:=iter (s_SameImageL0 N p q) N [gd p 0,gd p 1,gd q 0,gd q 1,.i 0,.i 0,.i 0,.b (((gd p 1).rows.length:Int) != ((gd q 1).rows.length:Int)),.i 0,gd p 0,gd p 1,gd q 0,gd q 1]
  nd o0.isSome (bif o0.code==1 then some (1,o0.pay)
  else nd (o0.code==2) ((let o2:=iter (s_SameImageL2 N p q) N [gd o0.pay 0,gd o0.pay 1,gd o0.pay 2,gd o0.pay 3,gd o0.pay 4,gd o0.pay 5,gd o0.pay 6,gd o0.pay 7,gd o0.pay 8,.i 0,gd o0.pay 9,gd o0.pay 10,gd o0.pay 11,gd o0.pay 12]
  nd o2.isSome (bif o2.code==1 then some (1,o2.pay)
  else nd (o2.code==4) (ob true))))))):=by kernel_rfl
theorem neC {x y:D} (h:¬ x.rows.length=y.rows.length):sameC x y=false:=by simp [sameC,h]
theorem eqC_r {x y:D} (h:x.rows.length=y.rows.length):((List.range x.rows.length).all fun k=>eqRow [si,si] (sub (x.rows.getD k []) 0 2) (sub (y.rows.getD k []) 0 2))=sameC x y:=by rw [same_all h,List.range_eq_range']
theorem eqS_r {x y:D} (h:x.rows.length=y.rows.length):((List.range x.rows.length).all fun k=>eqRow [si,si,si] (sub (x.rows.getD k []) 0 3) (sub (y.rows.getD k []) 0 3))=sameS x y:=by rw [sameS_all h,List.range_eq_range']
theorem eqE_r {x y:D} (h:x.rows.length=y.rows.length):((List.range x.rows.length).all fun k=>eqRow [si,si,si,si,si] (sub (x.rows.getD k []) 0 5) (sub (y.rows.getD k []) 0 5))=sameE x y:=by rw [sameE_all h,List.range_eq_range']
theorem ne_len {a b:Nat} (h:¬ a=b):((a:Int) != (b:Int))=true:=by simp only [bne_iff_ne,ne_eq,Int.ofNat_inj]; exact h
theorem eq_len {a b:Nat} (h:a=b):((a:Int) != (b:Int))=false:=by simp [h]
def s_SameImageE:Ent:=(144,e2 (ag rIImage) (ag rIImage) fun p q=>(⟨rb,[.b (sameIm p q)]⟩,true))
theorem s_SameImage_ok:EntOk Tryz.prog s_SameImageE:=e2_ok fun p q h=>evFn_sound (N:=(gd p 0).rows.length+(gd p 1).rows.length+1) (ks:=s_SameImageK) (key:=bo) s_SameImageT_ok (enters Tryz.func144) Tryz.func144 fun hw=>by
 rw [s_SameImage_ev]
 have hl0:=wt_at (hw ⟨ag rIImage,p⟩ (by simp)) (j:=0) rfl
 have hl1:=wt_at (hw ⟨ag rIImage,p⟩ (by simp)) (j:=1) rfl
 unfold sameIm
 by_cases he:(gd p 0).rows.length=(gd q 0).rows.length
 rotate_left
 ·rw [ne_len he,neC he]; rfl
 by_cases hs:(gd p 1).rows.length=(gd q 1).rows.length
 rotate_left
 ·rw [eq_len he,ne_len hs,sameS_ne hs,Bool.and_false]; rfl
 rw [eq_len he,eq_len hs]
 simp only [cond_false]
 have e0:=for_loop (L:=s_SameImageL0 ((gd p 0).rows.length+(gd p 1).rows.length+1) p q) (fun k => [gd p 0,gd p 1,gd q 0,gd q 1,.i 0,.i 0,.i 0,.b false,.i (k:Int),gd p 0,gd p 1,gd q 0,gd q 1]) (gd p 0).rows.length (fun k=>eqRow [si,si] (sub ((gd p 0).rows.getD k []) 0 2) (sub ((gd q 0).rows.getD k []) 0 2)) [.b false] 0 (fun k hk=>?_) ?_ (N:=((gd p 0).rows.length+(gd p 1).rows.length+1)) (by omega)
 ·simp only [Int.natCast_zero] at e0
  rw [e0,eqC_r he]
  cases sameC (gd p 0) (gd q 0) with
  | false=>rfl
  | true =>
  have e2:=for_loop (L:=s_SameImageL2 ((gd p 0).rows.length+(gd p 1).rows.length+1) p q) (fun k => [gd p 0,gd p 1,gd q 0,gd q 1,.i 0,.i 0,.i 0,.b false,.i ((gd p 0).rows.length:Int),.i (k:Int),gd p 0,gd p 1,gd q 0,gd q 1]) (gd p 1).rows.length (fun k=>eqRow [si,si,si] (sub ((gd p 1).rows.getD k []) 0 3) (sub ((gd q 1).rows.getD k []) 0 3)) [.b false] 2 (fun k hk=>?_) ?_ (N:=((gd p 0).rows.length+(gd p 1).rows.length+1)) (by omega)
  ·simp only [Int.natCast_zero] at e2
   simp only [nd,cond_true,cond_false,Option.isSome_some,Out.code,Out.pay,Option.getD_some,gd_cons_zero,gd_cons_succ,Nat.reduceBEq,Nat.reduceAdd,int_i,bool_b,str_s,rows_l,Bool.not_true,Bool.not_false,beq_self_eq_true]
   rw [e2,eqS_r hs]
   cases sameS (gd p 1) (gd q 1) <;> rfl
  ·show s_SameImageL2 _ p q [_,_,_,_,_,_,_,_,_,.i (k:Int),_,_,_,_]=_
   rw [s_SameImageR2]
   have hk':k<(gd q 1).rows.length:=by omega
   simp only [int_i,c_lt hk,nd_ix hk,nd_ix hk',w64_succ hk hl1,Int.toNat_natCast]
   cases eqRow [si,si,si] (sub ((gd p 1).rows.getD k []) 0 3) (sub ((gd q 1).rows.getD k []) 0 3) <;> rfl
  ·show s_SameImageL2 _ p q [_,_,_,_,_,_,_,_,_,.i ((gd p 1).rows.length:Int),_,_,_,_]=_
   rw [s_SameImageR2]
   simp only [int_i,c_nlt]
 ·show s_SameImageL0 _ p q [_,_,_,_,_,_,_,_,.i (k:Int),_,_,_,_]=_
  rw [s_SameImageR0]
  have hk':k<(gd q 0).rows.length:=by omega
  simp only [int_i,c_lt hk,nd_ix hk,nd_ix hk',w64_succ hk hl0,Int.toNat_natCast]
  cases eqRow [si,si] (sub ((gd p 0).rows.getD k []) 0 2) (sub ((gd q 0).rows.getD k []) 0 2) <;> rfl
 ·show s_SameImageL0 _ p q [_,_,_,_,_,_,_,_,.i ((gd p 0).rows.length:Int),_,_,_,_]=_
  rw [s_SameImageR0]
  simp only [int_i,c_nlt]
abbrev s_SameLogT:FuncId→List T→Option (T × Bool):=find [s_SameImageE]
theorem s_SameLogT_ok:CallOk Tryz.prog s_SameLogT:=find_ok (fC ⟨s_SameImage_ok,fN⟩)
abbrev s_SameLogK:List Nat:= [0,1,2,3,4,5,27,32,45]
noncomputable def s_SameLogL0 (N:Nat) (p q:List D):List D→Out:=loopOf Tryz.prog s_SameLogT N s_SameLogK Tryz.f107 rb [⟨ag rILog,p⟩,⟨ag rILog,q⟩] 0
theorem s_SameLogR0 (N:Nat) (p q:List D) (x0 x1 x2 x3 x4 x5 x6 x7 x8 x9 x10 x11 x12 x13 x14 x15 x16 x17 x18 x19 x20:D):(s_SameLogL0 N p q) [x0,x1,x2,x3,x4,x5,x6,x7,x8,x9,x10,x11,x12,x13,x14,x15,x16,x17,x18,x19,x20] =
 bif ltI x12.int (x16.rows.length:Int) then nd (inRange x12.int x16.rows.length) (nd (inRange x12.int x20.rows.length) (bif !(eqRow [si,si,si,si,si] (sub (x16.rows.getD x12.int.toNat []) 0 5) (sub (x20.rows.getD x12.int.toNat []) 0 5)) then ob false
 else nx [x0,x1,x2,x3,x4,x5,x6,x7,x8,x9,x10,x11,.i (w64 (x12.int+1)),x13,x14,x15,x16,x17,x18,x19,x20]))
 else ex 0 [x0,x1,x2,x3,x4,x5,x6,x7,x8,x9,x10,x11,x12,x13,x14,x15,x16,x17,x18,x19,x20]:=by kernel_rfl
theorem s_SameLog_ev (N:Nat) (p q:List D):evFn Tryz.prog s_SameLogT N s_SameLogK Tryz.f107 rb [⟨ag rILog,p⟩,⟨ag rILog,q⟩]=some (bo,
 bif (gd p 0).int != (gd q 0).int then ob false
 else bif ((gd p 3).rows.length:Int) != ((gd q 3).rows.length:Int) then ob false
 else bif !(sameIm (sub p 1 2) (sub q 1 2)) then ob false
 else (let o0:=iter (s_SameLogL0 N p q) N [gd p 0,gd p 1,gd p 2,gd p 3,gd q 0,gd q 1,gd q 2,gd q 3,.i 0,.i 0,.i 0,.b (!(sameIm (sub p 1 2) (sub q 1 2))),.i 0,gd p 0,gd p 1,gd p 2,gd p 3,gd q 0,gd q 1,gd q 2,gd q 3]
  nd o0.isSome (bif o0.code==1 then some (1,o0.pay)
  else nd (o0.code==2) (ob true)))):=by kernel_rfl
def s_SameLogE:Ent:=(107,e2 (ag rILog) (ag rILog) fun p q=>(⟨rb,[.b (sameLg p q)]⟩,true))
theorem s_SameLog_ok:EntOk Tryz.prog s_SameLogE:=e2_ok fun p q h=>evFn_sound (N:=(gd p 3).rows.length+1) (ks:=s_SameLogK) (key:=bo) s_SameLogT_ok (enters Tryz.func107) Tryz.func107 fun hw=>by
 rw [s_SameLog_ev]
 have hl0:=wt_at (hw ⟨ag rILog,p⟩ (by simp)) (j:=3) rfl
 unfold sameLg
 rw [bne_not]
 cases (gd p 0).int==(gd q 0).int with
 | false=>rfl
 | true =>
 by_cases he:(gd p 3).rows.length=(gd q 3).rows.length
 rotate_left
 ·rw [ne_len he,sameE_ne he,Bool.and_false]; rfl
 rw [eq_len he]
 cases sameIm (sub p 1 2) (sub q 1 2) with
 | false=>rfl
 | true =>
 simp only [Bool.not_true,cond_false]
 have e0:=for_loop (L:=s_SameLogL0 ((gd p 3).rows.length+1) p q) (fun k => [gd p 0,gd p 1,gd p 2,gd p 3,gd q 0,gd q 1,gd q 2,gd q 3,.i 0,.i 0,.i 0,.b false,.i (k:Int),gd p 0,gd p 1,gd p 2,gd p 3,gd q 0,gd q 1,gd q 2,gd q 3]) (gd p 3).rows.length (fun k=>eqRow [si,si,si,si,si] (sub ((gd p 3).rows.getD k []) 0 5) (sub ((gd q 3).rows.getD k []) 0 5)) [.b false] 0 (fun k hk=>?_) ?_ (N:=((gd p 3).rows.length+1)) (by omega)
 ·simp only [Int.natCast_zero] at e0
  rw [e0,eqE_r he]
  cases sameE (gd p 3) (gd q 3) <;> rfl
 ·show s_SameLogL0 _ p q [_,_,_,_,_,_,_,_,_,_,_,_,.i (k:Int),_,_,_,_,_,_,_,_]=_
  rw [s_SameLogR0]
  have hk':k<(gd q 3).rows.length:=by omega
  simp only [int_i,c_lt hk,nd_ix hk,nd_ix hk',w64_succ hk hl0,Int.toNat_natCast]
  cases eqRow [si,si,si,si,si] (sub ((gd p 3).rows.getD k []) 0 5) (sub ((gd q 3).rows.getD k []) 0 5) <;> rfl
 ·show s_SameLogL0 _ p q [_,_,_,_,_,_,_,_,_,_,_,_,.i ((gd p 3).rows.length:Int),_,_,_,_,_,_,_,_]=_
  rw [s_SameLogR0]
  simp only [int_i,c_nlt]
abbrev i_copyLogT:FuncId→List T→Option (T × Bool):=find [i_copyImageE,i_clonEntryE,apartE]
theorem i_copyLogT_ok:CallOk Tryz.prog i_copyLogT:=find_ok (fC ⟨i_copyImage_ok,fC ⟨i_clonEntry_ok,fC ⟨apart_ok,fN⟩⟩⟩)
abbrev i_copyLogK:List Nat:= [0,1,2]
theorem i_copyLog_ev (N:Nat) (p:List D):evFn Tryz.prog i_copyLogT N i_copyLogK Tryz.f89 (.one (.agg [.d si,.own (0,1) true 148,.own (0,2) true 69,.own (0,3) true 78])) [⟨ag rILog,p⟩]=some (bo,
 nd (leI ((gd p 1).rows.length:Int) 1000000&&leI ((gd p 2).rows.length:Int) 1000000) (nd (leI ((gd p 3).rows.length:Int) 2000000) (some (1,[gd p 0,gd (sub (copyIm (sub p 1 2)) 0 2) 0,gd (sub (copyIm (sub p 1 2)) 0 2) 1,.l (gd p 3).rows])))):=by kernel_rfl
def copyLg (p:List D):List D:= [gd p 0,.l (gd p 1).rows,.l (gd p 2).rows,.l (gd p 3).rows]
def i_copyLogE:Ent:=(89,e1 (ag rILog) fun p=>(⟨.one (.agg [.d si,.own (0,1) true 148,.own (0,2) true 69,.own (0,3) true 78]),sub (copyLg p) 0 4⟩,leI ((gd p 1).rows.length:Int) 1000000&&(leI ((gd p 2).rows.length:Int) 1000000&&leI ((gd p 3).rows.length:Int) 1000000)))
theorem i_copyLog_ok:EntOk Tryz.prog i_copyLogE:=e1_ok fun p h=>evFn_sound (N:=0) (ks:=i_copyLogK) (key:=bo) i_copyLogT_ok (enters Tryz.func89) Tryz.func89 fun hw=>by
 rw [i_copyLog_ev]
 have h:(leI ((gd p 1).rows.length:Int) 1000000&&(leI ((gd p 2).rows.length:Int) 1000000&&leI ((gd p 3).rows.length:Int) 1000000))=true:=h
 have h':=h
 simp only [Bool.and_eq_true,leI,decide_eq_true_eq] at h'
 have e2:((leI ((gd p 3).rows.length:Int) 2000000))=true:=leI_t (by omega)
 have l1:leI ((gd p 1).rows.length:Int) 1000000=true:=leI_t (by omega)
 have l2:leI ((gd p 2).rows.length:Int) 1000000=true:=leI_t (by omega)
 have l3:lenOk (gd p 3).rows=true:=lenOk_t (by omega)
 simp only [sub,Nat.reduceAdd,gd_cons_zero,gd_cons_succ,copyIm,e2,l1,l2,l3,List.nil_append,Bool.and_self,nd_true,sameP_self,ndN_true]
 rfl
abbrev s_l3CopyT:FuncId→List T→Option (T × Bool):=find [s_l2CopyE]
theorem s_l3CopyT_ok:CallOk Tryz.prog s_l3CopyT:=find_ok (fC ⟨s_l2Copy_ok,fN⟩)
abbrev s_l3CopyK:List Nat:= [0,1,2]
def s_l3Copy_evq0 (N:Nat) (p:List D):List (List D):= [[gd p 0,gd (sub (copyIm (sub p 1 2)) 0 2) 0,gd (sub (copyIm (sub p 1 2)) 0 2) 1,.l ([]++(gd p 3).rows)],[.l ([]++(gd p 3).rows)],[.l []],[gd (sub (copyIm (sub p 1 2)) 0 2) 0,gd (sub (copyIm (sub p 1 2)) 0 2) 1],[gd p 0],[.i 0],[gd p 3],[.i 0],[gd p 1,gd p 2],[.i 0],p,[.i 0],[.i 0],sub p 0 4,[gd p 0,gd (sub (copyIm (sub p 1 2)) 0 2) 0,gd (sub (copyIm (sub p 1 2)) 0 2) 1,.l ([]++(gd p 3).rows)]]
theorem s_l3Copy_ev (N:Nat) (p:List D):evFn Tryz.prog s_l3CopyT N s_l3CopyK Tryz.f73 (.one (.agg [.d si,.d (.sl 148),.d (.sl 69),.own (0,3) true 78])) [⟨ag rILog,p⟩]=some (bo,
 nd ((leI ((gd p 1).rows.length:Int) 1000000&&leI ((gd p 2).rows.length:Int) 1000000)&&((lenOk ([]++(gd p 3).rows)&&true)&&true)) (ndN 19 (((leI ((gd p 1).rows.length:Int) 1000000&&leI ((gd p 2).rows.length:Int) 1000000)&&((lenOk ([]++(gd p 3).rows)&&true)&&true))&&(sameP (s_l3Copy_evq0 N p) (s_l3Copy_evq0 N p))) (some (1,[gd p 0,gd (sub (copyIm (sub p 1 2)) 0 2) 0,gd (sub (copyIm (sub p 1 2)) 0 2) 1,.l ([]++(gd p 3).rows)])))):=by kernel_rfl
def s_l3CopyE:Ent:=(73,e1 (ag rILog) fun p=>(⟨.one (.agg [.d si,.d (.sl 148),.d (.sl 69),.own (0,3) true 78]),sub (copyLg p) 0 4⟩,leI ((gd p 1).rows.length:Int) 1000000&&(leI ((gd p 2).rows.length:Int) 1000000&&leI ((gd p 3).rows.length:Int) 1000000)))
theorem s_l3Copy_ok:EntOk Tryz.prog s_l3CopyE:=e1_ok fun p h=>evFn_sound (N:=0) (ks:=s_l3CopyK) (key:=bo) s_l3CopyT_ok (enters Tryz.func73) Tryz.func73 fun hw=>by
 rw [s_l3Copy_ev]
 have h:(leI ((gd p 1).rows.length:Int) 1000000&&(leI ((gd p 2).rows.length:Int) 1000000&&leI ((gd p 3).rows.length:Int) 1000000))=true:=h
 have h':=h
 simp only [Bool.and_eq_true,leI,decide_eq_true_eq] at h'
 have e2:((leI ((gd p 3).rows.length:Int) 2000000))=true:=leI_t (by omega)
 have l1:leI ((gd p 1).rows.length:Int) 1000000=true:=leI_t (by omega)
 have l2:leI ((gd p 2).rows.length:Int) 1000000=true:=leI_t (by omega)
 have l3:lenOk (gd p 3).rows=true:=lenOk_t (by omega)
 simp only [sub,Nat.reduceAdd,gd_cons_zero,gd_cons_succ,copyIm,e2,l1,l2,l3,List.nil_append,Bool.and_self,nd_true,sameP_self,ndN_true]
 rfl
abbrev i_LogAtT:FuncId→List T→Option (T × Bool):=find [i_LogOkE,i_endE,i_fromE]
theorem i_LogAtT_ok:CallOk Tryz.prog i_LogAtT:=find_ok (fC ⟨i_LogOk_ok,fC ⟨i_end_ok,fC ⟨i_from_ok,fN⟩⟩⟩)
abbrev i_LogAtK:List Nat:= [0,1,2,4,5,18]
def i_LogAtc0 (p q:List D):List D:=(gd p 3).rows.getD (w64 ((w64 ((gd q 0).int - (gd p 0).int)) - 1)).toNat []
theorem i_LogAt_ev (N:Nat) (p q:List D):evFn Tryz.prog i_LogAtT N i_LogAtK Tryz.f93 (.tup [.agg [.d si,.d si,.d si,.d si,.d si],.c (.d .bool)]) [⟨ag rILog,p⟩,⟨ri,q⟩]=some (bo,
 bif !(logOk (sub p 0 4)) then some (1,[.i 0,.i 0,.i 0,.i 0,.i 0,.b false])
 else bif !(inB (gd q 0).int (w64 ((gd p 0).int+1)) (endL (sub p 0 4))) then some (1,[.i 0,.i 0,.i 0,.i 0,.i 0,.b false])
 else nd (inRange (w64 ((w64 ((gd q 0).int - (gd p 0).int)) - 1)) (gd p 3).rows.length) (some (1,[gd (i_LogAtc0 p q) 0,gd (i_LogAtc0 p q) 1,gd (i_LogAtc0 p q) 2,gd (i_LogAtc0 p q) 3,gd (i_LogAtc0 p q) 4,.b true]))):=by kernel_rfl
structure LogD (p:List D):Prop where
 b0:0≤(gd p 0).int
 b1:(gd p 0).int≤1000000000
 im:imOk (sub p 1 2)=true
 len:(gd p 3).rows.length≤60
 en:endL p=(gd p 0).int+((gd p 3).rows.length:Int)
 e1:endL p≤1000000000
theorem log_d {p:List D} (h:logOk p=true):LogD p:=by
 simp only [logOk,Bool.and_eq_true] at h
 obtain ⟨h1,h2,h3,h4,h5⟩:=h
 simp only [inB,leI,Bool.and_eq_true,decide_eq_true_eq] at h1 h3 h5
 have hw:w64 ((gd p 0).int+((gd p 3).rows.length:Int))=(gd p 0).int+((gd p 3).rows.length:Int):=w64_id (by omega) (by omega)
 refine ⟨h1.1,h1.2,h2,by omega,hw,?_⟩
 unfold endL
 omega
theorem log_im {p:List D} (h:LogD p):(gd p 1).rows.length≤40∧(gd p 2).rows.length≤10:=im_len h.im
def entAt (p:List D) (n:Int):List D:=(gd p 3).rows.getD (n - (gd p 0).int - 1).toNat []
def logAt (p:List D) (n:Int):List D:=bif logOk p&&inB n ((gd p 0).int+1) (endL p) then [gd (entAt p n) 0,gd (entAt p n) 1,gd (entAt p n) 2,gd (entAt p n) 3,gd (entAt p n) 4,.b true] else [.i 0,.i 0,.i 0,.i 0,.i 0,.b false]
def i_LogAtE:Ent:=(93,e2 (ag rILog) ri fun p q=>(⟨.tup [.agg [.d si,.d si,.d si,.d si,.d si],.c (.d .bool)],sub (logAt p (gd q 0).int) 0 6⟩,true))
theorem i_LogAt_ok:EntOk Tryz.prog i_LogAtE:=e2_ok fun p q h=>evFn_sound (N:=0) (ks:=i_LogAtK) (key:=bo) i_LogAtT_ok (enters Tryz.func93) Tryz.func93 fun hw=>by
 rw [i_LogAt_ev]
 rw [show logOk (sub p 0 4)=logOk p from rfl,show endL (sub p 0 4)=endL p from rfl]
 unfold logAt entAt
 cases hlo:logOk p with
 | false=>rfl
 | true =>
 have hd:=log_d hlo
 obtain ⟨b0,b1,_,hl,en,e1⟩:=hd
 rw [w64_id (x:=(gd p 0).int+1) (by omega) (by omega),Bool.true_and]
 cases hb:inB (gd q 0).int ((gd p 0).int+1) (endL p) with
 | false=>rfl
 | true =>
 simp only [inB,Bool.and_eq_true,decide_eq_true_eq] at hb
 obtain ⟨k,hk⟩:∃ k:Nat,(gd q 0).int - (gd p 0).int - 1=k:=⟨((gd q 0).int - (gd p 0).int - 1).toNat,by omega⟩
 have hw:w64 (w64 ((gd q 0).int - (gd p 0).int) - 1)=(k:Int):=by rw [w64_id (x:=(gd q 0).int - (gd p 0).int) (by omega) (by omega),w64_id (by omega) (by omega),hk]
 unfold i_LogAtc0
 rw [hw,hk,inRange_nat (show k<(gd p 3).rows.length by omega),Int.toNat_natCast]
 rfl
abbrev s_LogAtT:FuncId→List T→Option (T × Bool):=find [s_LogOkE,s_LogEndE]
theorem s_LogAtT_ok:CallOk Tryz.prog s_LogAtT:=find_ok (fC ⟨s_LogOk_ok,fC ⟨s_LogEnd_ok,fN⟩⟩)
abbrev s_LogAtK:List Nat:= [0,1,2,4,5,20]
def s_LogAtc0 (p q:List D):List D:=(gd p 3).rows.getD (w64 ((w64 ((gd q 0).int - (gd p 0).int)) - 1)).toNat []
theorem s_LogAt_ev (N:Nat) (p q:List D):evFn Tryz.prog s_LogAtT N s_LogAtK Tryz.f74 (.tup [.agg [.d si,.d si,.d si,.d si,.d si],.c (.d .bool)]) [⟨ag rILog,p⟩,⟨ri,q⟩]=some (bo,
 bif !(logOk (sub p 0 4)) then some (1,[.i 0,.i 0,.i 0,.i 0,.i 0,.b false])
 else bif leI (gd q 0).int (gd p 0).int then some (1,[.i 0,.i 0,.i 0,.i 0,.i 0,.b false])
 else bif ltI (logEnd (sub p 0 4)) (gd q 0).int then some (1,[.i 0,.i 0,.i 0,.i 0,.i 0,.b false])
 else nd (inRange (w64 ((w64 ((gd q 0).int - (gd p 0).int)) - 1)) (gd p 3).rows.length) (some (1,[gd (s_LogAtc0 p q) 0,gd (s_LogAtc0 p q) 1,gd (s_LogAtc0 p q) 2,gd (s_LogAtc0 p q) 3,gd (s_LogAtc0 p q) 4,.b true]))):=by kernel_rfl
def s_LogAtE:Ent:=(74,e2 (ag rILog) ri fun p q=>(⟨.tup [.agg [.d si,.d si,.d si,.d si,.d si],.c (.d .bool)],sub (logAt p (gd q 0).int) 0 6⟩,true))
theorem s_LogAt_ok:EntOk Tryz.prog s_LogAtE:=e2_ok fun p q h=>evFn_sound (N:=0) (ks:=s_LogAtK) (key:=bo) s_LogAtT_ok (enters Tryz.func74) Tryz.func74 fun hw=>by
 rw [s_LogAt_ev]
 rw [show logOk (sub p 0 4)=logOk p from rfl,show logEnd (sub p 0 4)=logEnd p from rfl]
 unfold logAt entAt logEnd
 rw [show logOk (sub p 0 4)=logOk p from rfl,show endL (sub p 0 4)=endL p from rfl]
 cases hlo:logOk p with
 | false=>rfl
 | true =>
 have hd:=log_d hlo
 obtain ⟨b0,b1,_,hl,en,e1⟩:=hd
 rw [Bool.true_and,cond_true]
 by_cases h1:(gd q 0).int≤(gd p 0).int
 ·rw [leI_t h1,show inB (gd q 0).int ((gd p 0).int+1) (endL p)=false from by simp only [inB,Bool.and_eq_false_iff,decide_eq_false_iff_not]; omega]
  rfl
 by_cases h2:endL p<(gd q 0).int
 ·rw [leI_f (by omega),ltI_t h2,show inB (gd q 0).int ((gd p 0).int+1) (endL p)=false from by simp only [inB,Bool.and_eq_false_iff,decide_eq_false_iff_not]; omega]
  rfl
 rw [leI_f (by omega),ltI_f (by omega),show inB (gd q 0).int ((gd p 0).int+1) (endL p)=true from by simp only [inB,Bool.and_eq_true,decide_eq_true_eq]; omega]
 obtain ⟨k,hk⟩:∃ k:Nat,(gd q 0).int - (gd p 0).int - 1=k:=⟨((gd q 0).int - (gd p 0).int - 1).toNat,by omega⟩
 have hw:w64 (w64 ((gd q 0).int - (gd p 0).int) - 1)=(k:Int):=by rw [w64_id (x:=(gd q 0).int - (gd p 0).int) (by omega) (by omega),w64_id (by omega) (by omega),hk]
 unfold s_LogAtc0
 rw [hw,hk,inRange_nat (show k<(gd p 3).rows.length by omega),Int.toNat_natCast]
 rfl
abbrev i_LogPutT:FuncId→List T→Option (T × Bool):=find [i_LogOkE,i_copyLogE,i_EntryOkE,i_endE,apartE]
theorem i_LogPutT_ok:CallOk Tryz.prog i_LogPutT:=find_ok (fC ⟨i_LogOk_ok,fC ⟨i_copyLog_ok,fC ⟨i_EntryOk_ok,fC ⟨i_end_ok,fC ⟨apart_ok,fN⟩⟩⟩⟩⟩)
abbrev i_LogPutK:List Nat:= [0,1,2,3,4,5,6,9,26]
theorem i_LogPut_ev (N:Nat) (p q:List D):evFn Tryz.prog i_LogPutT N i_LogPutK Tryz.f92 (.tup [.agg [.d si,.own (0,1) true 148,.own (0,2) true 69,.own (0,3) true 78],.c (.d .bool)]) [⟨ag rILog,p⟩,⟨ag rIEntry,q⟩]=some (bo,
 bif !(logOk (sub p 0 4)) then some (1,[.i 0,.l [],.l [],.l [],.b false])
 else nd (leI ((gd p 1).rows.length:Int) 1000000&&(leI ((gd p 2).rows.length:Int) 1000000&&leI ((gd p 3).rows.length:Int) 1000000)) (bif !(entryOk (sub q 0 5)) then some (1,[gd (copyLg (sub p 0 4)) 0,gd (copyLg (sub p 0 4)) 1,gd (copyLg (sub p 0 4)) 2,gd (copyLg (sub p 0 4)) 3,.b false])
 else bif ((gd p 3).rows.length:Int)==60 then some (1,[gd (copyLg (sub p 0 4)) 0,gd (copyLg (sub p 0 4)) 1,gd (copyLg (sub p 0 4)) 2,gd (copyLg (sub p 0 4)) 3,.b false])
 else bif (endL (sub p 0 4))==1000000000 then some (1,[gd (copyLg (sub p 0 4)) 0,gd (copyLg (sub p 0 4)) 1,gd (copyLg (sub p 0 4)) 2,gd (copyLg (sub p 0 4)) 3,.b false])
 else nd (lenOk ((gd (copyLg (sub p 0 4)) 3).rows ++ [sub q 0 5])&&true) (some (1,[gd (copyLg (sub p 0 4)) 0,gd (copyLg (sub p 0 4)) 1,gd (copyLg (sub p 0 4)) 2,.l ((gd (copyLg (sub p 0 4)) 3).rows ++ [sub q 0 5]),.b true])))):=by kernel_rfl
def logPut (p e:List D):List D:=
 bif logOk p then (bif entryOk e&&(!(((gd p 3).rows.length:Int)==60) && !(endL p==1000000000)) then [gd p 0,.l (gd p 1).rows,.l (gd p 2).rows,.l ((gd p 3).rows ++ [sub e 0 5]),.b true] else [gd p 0,.l (gd p 1).rows,.l (gd p 2).rows,.l (gd p 3).rows,.b false]) else [.i 0,.l [],.l [],.l [],.b false]
def i_LogPutE:Ent:=(92,e2 (ag rILog) (ag rIEntry) fun p q=>(⟨.tup [.agg [.d si,.own (0,1) true 148,.own (0,2) true 69,.own (0,3) true 78],.c (.d .bool)],sub (logPut p q) 0 5⟩,true))
theorem i_LogPut_ok:EntOk Tryz.prog i_LogPutE:=e2_ok fun p q h=>evFn_sound (N:=0) (ks:=i_LogPutK) (key:=bo) i_LogPutT_ok (enters Tryz.func92) Tryz.func92 fun hw=>by
 rw [i_LogPut_ev]
 rw [show logOk (sub p 0 4)=logOk p from rfl,show entryOk (sub q 0 5)=entryOk q from rfl,show endL (sub p 0 4)=endL p from rfl]
 unfold logPut
 cases hlo:logOk p with
 | false=>rfl
 | true =>
 have hd:=log_d hlo
 have him:=log_im hd
 have hl:=hd.len
 have ho:lenOk ((gd p 3).rows ++ [sub q 0 5])=true:=lenOk_t (by simp; omega)
 have l1:leI ((gd p 1).rows.length:Int) 1000000=true:=leI_t (by omega)
 have l2:leI ((gd p 2).rows.length:Int) 1000000=true:=leI_t (by omega)
 have l3:leI ((gd p 3).rows.length:Int) 1000000=true:=leI_t (by omega)
 simp only [l1,l2,l3,show (gd (copyLg (sub p 0 4)) 3).rows=(gd p 3).rows from rfl,ho,Bool.and_self,nd_true]
 cases entryOk q <;> cases ((gd p 3).rows.length:Int)==60 <;> cases endL p==1000000000 <;> rfl
abbrev s_LogPutT:FuncId→List T→Option (T × Bool):=find [s_LogOkE,s_l3CopyE,s_EntryOkE,s_LogEndE]
theorem s_LogPutT_ok:CallOk Tryz.prog s_LogPutT:=find_ok (fC ⟨s_LogOk_ok,fC ⟨s_l3Copy_ok,fC ⟨s_EntryOk_ok,fC ⟨s_LogEnd_ok,fN⟩⟩⟩⟩)
abbrev s_LogPutK:List Nat:= [0,1,2,3,4,5,6,9,26]
theorem s_LogPut_ev (N:Nat) (p q:List D):evFn Tryz.prog s_LogPutT N s_LogPutK Tryz.f72 (.tup [.agg [.d si,.d (.sl 148),.d (.sl 69),.d (.sl 78)],.c (.d .bool)]) [⟨ag rILog,p⟩,⟨ag rIEntry,q⟩]=some (bo,
 bif !(logOk (sub p 0 4)) then some (1,[.i 0,.l [],.l [],.l [],.b false])
 else nd (leI ((gd p 1).rows.length:Int) 1000000&&(leI ((gd p 2).rows.length:Int) 1000000&&leI ((gd p 3).rows.length:Int) 1000000)) (bif !(entryOk (sub q 0 5)) then some (1,[gd (copyLg (sub p 0 4)) 0,gd (copyLg (sub p 0 4)) 1,gd (copyLg (sub p 0 4)) 2,gd (copyLg (sub p 0 4)) 3,.b false])
 else bif ((gd p 3).rows.length:Int)==60 then some (1,[gd (copyLg (sub p 0 4)) 0,gd (copyLg (sub p 0 4)) 1,gd (copyLg (sub p 0 4)) 2,gd (copyLg (sub p 0 4)) 3,.b false])
 else bif (logEnd (sub p 0 4))==1000000000 then some (1,[gd (copyLg (sub p 0 4)) 0,gd (copyLg (sub p 0 4)) 1,gd (copyLg (sub p 0 4)) 2,gd (copyLg (sub p 0 4)) 3,.b false])
 else nd (lenOk ((gd (copyLg (sub p 0 4)) 3).rows ++ [sub q 0 5])&&true) (some (1,[gd (copyLg (sub p 0 4)) 0,gd (copyLg (sub p 0 4)) 1,gd (copyLg (sub p 0 4)) 2,.l ((gd (copyLg (sub p 0 4)) 3).rows ++ [sub q 0 5]),.b true])))):=by kernel_rfl
def s_LogPutE:Ent:=(72,e2 (ag rILog) (ag rIEntry) fun p q=>(⟨.tup [.agg [.d si,.d (.sl 148),.d (.sl 69),.d (.sl 78)],.c (.d .bool)],sub (logPut p q) 0 5⟩,true))
theorem s_LogPut_ok:EntOk Tryz.prog s_LogPutE:=e2_ok fun p q h=>evFn_sound (N:=0) (ks:=s_LogPutK) (key:=bo) s_LogPutT_ok (enters Tryz.func72) Tryz.func72 fun hw=>by
 rw [s_LogPut_ev]
 rw [show logOk (sub p 0 4)=logOk p from rfl,show entryOk (sub q 0 5)=entryOk q from rfl,show logEnd (sub p 0 4)=logEnd p from rfl]
 unfold logPut
 cases hlo:logOk p with
 | false=>rfl
 | true =>
 have hd:=log_d hlo
 have him:=log_im hd
 have hl:=hd.len
 have ho:lenOk ((gd p 3).rows ++ [sub q 0 5])=true:=lenOk_t (by simp; omega)
 have l1:leI ((gd p 1).rows.length:Int) 1000000=true:=leI_t (by omega)
 have l2:leI ((gd p 2).rows.length:Int) 1000000=true:=leI_t (by omega)
 have l3:leI ((gd p 3).rows.length:Int) 1000000=true:=leI_t (by omega)
 simp only [l1,l2,l3,show (gd (copyLg (sub p 0 4)) 3).rows=(gd p 3).rows from rfl,ho,Bool.and_self,nd_true,show logEnd p=endL p from (by unfold logEnd; rw [show logOk (sub p 0 4)=logOk p from rfl,hlo]; rfl)]
 cases entryOk q <;> cases ((gd p 3).rows.length:Int)==60 <;> cases endL p==1000000000 <;> rfl
abbrev i_imageT:FuncId→List T→Option (T × Bool):=find [i_RunAllE,apartE]
theorem i_imageT_ok:CallOk Tryz.prog i_imageT:=find_ok (fC ⟨i_RunAll_ok,fC ⟨apart_ok,fN⟩⟩)
abbrev i_imageK:List Nat:= [0,1,2,4,5]
def i_image_evq0 (N:Nat) (p q:List D):List (List D):= [[gd (sub (runAll (sub p 1 2) (.l ((gd p 3).rows.take (w64 ((gd q 0).int - (gd p 0).int)).toNat))) 0 3) 2],[.i 0],[gd (sub (runAll (sub p 1 2) (.l ((gd p 3).rows.take (w64 ((gd q 0).int - (gd p 0).int)).toNat))) 0 3) 2],[gd (sub (runAll (sub p 1 2) (.l ((gd p 3).rows.take (w64 ((gd q 0).int - (gd p 0).int)).toNat))) 0 3) 0,gd (sub (runAll (sub p 1 2) (.l ((gd p 3).rows.take (w64 ((gd q 0).int - (gd p 0).int)).toNat))) 0 3) 1],sub (sub (runAll (sub p 1 2) (.l ((gd p 3).rows.take (w64 ((gd q 0).int - (gd p 0).int)).toNat))) 0 3) 0 3,sub (sub (runAll (sub p 1 2) (.l ((gd p 3).rows.take (w64 ((gd q 0).int - (gd p 0).int)).toNat))) 0 3) 0 3,[.l ((gd p 3).rows.take (w64 ((gd q 0).int - (gd p 0).int)).toNat)],[.i (w64 ((gd q 0).int - (gd p 0).int))],[gd p 0],[.i 0],q,[gd p 3],[.i 0],[gd p 1,gd p 2],[.i 0],p,q,[.i 0],[.i 0],sub p 0 4,[.l [],.l []],[gd (sub (runAll (sub p 1 2) (.l ((gd p 3).rows.take (w64 ((gd q 0).int - (gd p 0).int)).toNat))) 0 3) 0,gd (sub (runAll (sub p 1 2) (.l ((gd p 3).rows.take (w64 ((gd q 0).int - (gd p 0).int)).toNat))) 0 3) 1]]
theorem i_image_ev (N:Nat) (p q:List D):evFn Tryz.prog i_imageT N i_imageK Tryz.f38 (.one (.agg [.own (0,0) true 148,.own (0,1) true 69])) [⟨ag rILog,p⟩,⟨ri,q⟩]=some (bo,
 nd ((leI 0 0&&leI 0 (w64 ((gd q 0).int - (gd p 0).int))&&leI (w64 ((gd q 0).int - (gd p 0).int)) ((gd p 3).rows.length:Int))&&((leI ((gd p 1).rows.length:Int) 1000000&&leI ((gd p 2).rows.length:Int) 1000000)&&true)) (ndN 4 (((leI 0 0&&leI 0 (w64 ((gd q 0).int - (gd p 0).int))&&leI (w64 ((gd q 0).int - (gd p 0).int)) ((gd p 3).rows.length:Int))&&((leI ((gd p 1).rows.length:Int) 1000000&&leI ((gd p 2).rows.length:Int) 1000000)&&true))&&(sameP (i_image_evq0 N p q) (i_image_evq0 N p q))) (some (1,sub (sub (runAll (sub p 1 2) (.l ((gd p 3).rows.take (w64 ((gd q 0).int - (gd p 0).int)).toNat))) 0 3) 0 2)))):=by kernel_rfl
theorem has_d {p:List D} {n:D} (h:hasN p n=true):logOk p=true∧∃ k:Nat,n.int - (gd p 0).int=k∧k≤(gd p 3).rows.length∧w64 (n.int - (gd p 0).int)=(k:Int):=by
 simp only [hasN,Bool.and_eq_true] at h
 obtain ⟨h1,h2⟩:=h
 have h1:logOk p=true:=h1
 obtain ⟨b0,b1,_,hl,en,e1⟩:=log_d h1
 have h2:inB n.int (gd p 0).int (endL p)=true:=h2
 simp only [inB,Bool.and_eq_true,decide_eq_true_eq] at h2
 refine ⟨h1,(n.int - (gd p 0).int).toNat,by omega,by omega,?_⟩
 rw [w64_id (by omega) (by omega)]
 omega
def imageL (p:List D) (n:Int):List D:=sub (runAll (sub p 1 2) (.l ((gd p 3).rows.take (n - (gd p 0).int).toNat))) 0 2
def i_imageE:Ent:=(38,e2 (ag rILog) ri fun p q=>(⟨.one (.agg [.own (0,0) true 148,.own (0,1) true 69]),sub (imageL p (gd q 0).int) 0 2⟩,hasN p (gd q 0)))
theorem i_image_ok:EntOk Tryz.prog i_imageE:=e2_ok fun p q h=>evFn_sound (N:=0) (ks:=i_imageK) (key:=bo) i_imageT_ok (enters Tryz.func38) Tryz.func38 fun hw=>by
 rw [i_image_ev]
 have hn:hasN p (gd q 0)=true:=h
 obtain ⟨hlo,k,hk,hkl,hw⟩:=has_d hn
 have hd:=log_d hlo
 have him:=log_im hd
 have hl:=hd.len
 have l1:leI ((gd p 1).rows.length:Int) 1000000=true:=leI_t (by omega)
 have l2:leI ((gd p 2).rows.length:Int) 1000000=true:=leI_t (by omega)
 have lk:leI (k:Int) ((gd p 3).rows.length:Int)=true:=leI_t (by omega)
 have ln:leI ((gd p 3).rows.length:Int) ((gd p 3).rows.length:Int)=true:=leI_t (by omega)
 have ld:leI (((gd p 3).rows.drop k).length:Int) 2000000=true:=leI_t (by rw [List.length_drop]; omega)
 have lo:lenOk ((gd p 3).rows.drop k)=true:=lenOk_t (by rw [List.length_drop]; omega)
 unfold imageL
 rw [hw,hk]
 simp only [leI_00,leI_0,lk,l1,l2,Bool.and_self,nd_true,sameP_self,ndN_true,Int.toNat_natCast]
 rfl
abbrev s_LogImageT:FuncId→List T→Option (T × Bool):=find [s_l3AmongE,s_RunAllE]
theorem s_LogImageT_ok:CallOk Tryz.prog s_LogImageT:=find_ok (fC ⟨s_l3Among_ok,fC ⟨s_RunAll_ok,fN⟩⟩)
abbrev s_LogImageK:List Nat:= [0,1,2,4,5,6,11]
def s_LogImagec0 (p q:List D):List D:=runAll (sub p 1 2) (.l ((gd p 3).rows.take (w64 ((gd q 0).int - (gd p 0).int)).toNat))
def s_LogImage_evq0 (N:Nat) (p q:List D):List (List D):= [[gd (sub (s_LogImagec0 p q) 0 3) 2],[.i 0],[gd (sub (s_LogImagec0 p q) 0 3) 2],[gd (sub (s_LogImagec0 p q) 0 3) 0,gd (sub (s_LogImagec0 p q) 0 3) 1],sub (sub (s_LogImagec0 p q) 0 3) 0 3,sub (sub (s_LogImagec0 p q) 0 3) 0 3,[.l ((gd p 3).rows.take (w64 ((gd q 0).int - (gd p 0).int)).toNat)],[.i (w64 ((gd q 0).int - (gd p 0).int))],[gd p 0],[.i 0],q,[gd p 3],[.i 0],[gd p 1,gd p 2],[.i 0],p,q,[.i 0],[.i 0],[.i 0],[.b (!(hasN (sub p 0 4) (gd q 0)))],sub p 0 4,[.l [],.l []],[gd (sub (s_LogImagec0 p q) 0 3) 0,gd (sub (s_LogImagec0 p q) 0 3) 1]]
theorem s_LogImage_ev (N:Nat) (p q:List D):evFn Tryz.prog s_LogImageT N s_LogImageK Tryz.f69 (.tup [.agg [.d (.sl 148),.d (.sl 69)],.c (.d .bool)]) [⟨ag rILog,p⟩,⟨ri,q⟩]=some (bo,
 bif !(hasN (sub p 0 4) (gd q 0)) then some (1,[.l [],.l [],.b false])
 else nd ((leI 0 0&&leI 0 (w64 ((gd q 0).int - (gd p 0).int))&&leI (w64 ((gd q 0).int - (gd p 0).int)) ((gd p 3).rows.length:Int))&&((leI ((gd p 1).rows.length:Int) 1000000&&leI ((gd p 2).rows.length:Int) 1000000)&&true)) (ndN 4 (((leI 0 0&&leI 0 (w64 ((gd q 0).int - (gd p 0).int))&&leI (w64 ((gd q 0).int - (gd p 0).int)) ((gd p 3).rows.length:Int))&&((leI ((gd p 1).rows.length:Int) 1000000&&leI ((gd p 2).rows.length:Int) 1000000)&&true))&&(sameP (s_LogImage_evq0 N p q) (s_LogImage_evq0 N p q))) (some (1,[gd (sub (s_LogImagec0 p q) 0 3) 0,gd (sub (s_LogImagec0 p q) 0 3) 1,.b true])))):=by kernel_rfl
def logIm (p:List D) (n:D):List D:=bif hasN p n then [gd (imageL p n.int) 0,gd (imageL p n.int) 1,.b true] else [.l [],.l [],.b false]
def s_LogImageE:Ent:=(69,e2 (ag rILog) ri fun p q=>(⟨.tup [.agg [.d (.sl 148),.d (.sl 69)],.c (.d .bool)],sub (logIm p (gd q 0)) 0 3⟩,true))
theorem s_LogImage_ok:EntOk Tryz.prog s_LogImageE:=e2_ok fun p q h=>evFn_sound (N:=0) (ks:=s_LogImageK) (key:=bo) s_LogImageT_ok (enters Tryz.func69) Tryz.func69 fun hw=>by
 rw [s_LogImage_ev]
 rw [show hasN (sub p 0 4) (gd q 0)=hasN p (gd q 0) from rfl]
 unfold logIm
 cases hn0:hasN p (gd q 0) with
 | false=>rfl
 | true =>
 have hn:hasN p (gd q 0)=true:=hn0
 obtain ⟨hlo,k,hk,hkl,hw⟩:=has_d hn
 have hd:=log_d hlo
 have him:=log_im hd
 have hl:=hd.len
 have l1:leI ((gd p 1).rows.length:Int) 1000000=true:=leI_t (by omega)
 have l2:leI ((gd p 2).rows.length:Int) 1000000=true:=leI_t (by omega)
 have lk:leI (k:Int) ((gd p 3).rows.length:Int)=true:=leI_t (by omega)
 have ln:leI ((gd p 3).rows.length:Int) ((gd p 3).rows.length:Int)=true:=leI_t (by omega)
 have ld:leI (((gd p 3).rows.drop k).length:Int) 2000000=true:=leI_t (by rw [List.length_drop]; omega)
 have lo:lenOk ((gd p 3).rows.drop k)=true:=lenOk_t (by rw [List.length_drop]; omega)
 unfold imageL s_LogImagec0
 rw [hw,hk]
 simp only [leI_00,leI_0,lk,l1,l2,Bool.and_self,nd_true,sameP_self,ndN_true,Int.toNat_natCast]
 rfl
abbrev i_LogFoldT:FuncId→List T→Option (T × Bool):=find [i_hasNumberE,i_imageE,i_clonEntryE,apartE]
theorem i_LogFoldT_ok:CallOk Tryz.prog i_LogFoldT:=find_ok (fC ⟨i_hasNumber_ok,fC ⟨i_image_ok,fC ⟨i_clonEntry_ok,fC ⟨apart_ok,fN⟩⟩⟩⟩)
abbrev i_LogFoldK:List Nat:= [0,1,2,4,5,9]
theorem i_LogFold_ev (N:Nat) (p q:List D):evFn Tryz.prog i_LogFoldT N i_LogFoldK Tryz.f91 (.tup [.agg [.d si,.own (0,1) true 148,.own (0,2) true 69,.own (0,3) true 78],.c (.d .bool)]) [⟨ag rILog,p⟩,⟨ri,q⟩]=some (bo,
 bif !(hasN (sub p 0 4) (gd q 0)) then some (1,[.i 0,.l [],.l [],.l [],.b false])
 else nd (leI 0 (w64 ((gd q 0).int - (gd p 0).int))&&leI (w64 ((gd q 0).int - (gd p 0).int)) ((gd p 3).rows.length:Int)&&leI ((gd p 3).rows.length:Int) ((gd p 3).rows.length:Int)) (nd (hasN (sub p 0 4) (gd q 0)) (nd (leI ((((gd p 3).rows.take (gd p 3).rows.length).drop (w64 ((gd q 0).int - (gd p 0).int)).toNat).length:Int) 2000000) (some (1,[gd q 0,gd (imageL (sub p 0 4) (gd q 0).int) 0,gd (imageL (sub p 0 4) (gd q 0).int) 1,.l (((gd p 3).rows.take (gd p 3).rows.length).drop (w64 ((gd q 0).int - (gd p 0).int)).toNat),.b true]))))):=by kernel_rfl
def logFold (p:List D) (n:D):List D:=bif hasN p n then [n,gd (imageL p n.int) 0,gd (imageL p n.int) 1,.l ((gd p 3).rows.drop (n.int - (gd p 0).int).toNat),.b true] else [.i 0,.l [],.l [],.l [],.b false]
def i_LogFoldE:Ent:=(91,e2 (ag rILog) ri fun p q=>(⟨.tup [.agg [.d si,.own (0,1) true 148,.own (0,2) true 69,.own (0,3) true 78],.c (.d .bool)],sub (logFold p (gd q 0)) 0 5⟩,true))
theorem i_LogFold_ok:EntOk Tryz.prog i_LogFoldE:=e2_ok fun p q h=>evFn_sound (N:=0) (ks:=i_LogFoldK) (key:=bo) i_LogFoldT_ok (enters Tryz.func91) Tryz.func91 fun hw=>by
 rw [i_LogFold_ev]
 rw [show hasN (sub p 0 4) (gd q 0)=hasN p (gd q 0) from rfl]
 unfold logFold
 cases hn0:hasN p (gd q 0) with
 | false=>rfl
 | true =>
 have hn:hasN p (gd q 0)=true:=hn0
 obtain ⟨hlo,k,hk,hkl,hw⟩:=has_d hn
 have hd:=log_d hlo
 have him:=log_im hd
 have hl:=hd.len
 have l1:leI ((gd p 1).rows.length:Int) 1000000=true:=leI_t (by omega)
 have l2:leI ((gd p 2).rows.length:Int) 1000000=true:=leI_t (by omega)
 have lk:leI (k:Int) ((gd p 3).rows.length:Int)=true:=leI_t (by omega)
 have ln:leI ((gd p 3).rows.length:Int) ((gd p 3).rows.length:Int)=true:=leI_t (by omega)
 have ld:leI (((gd p 3).rows.drop k).length:Int) 2000000=true:=leI_t (by rw [List.length_drop]; omega)
 have lo:lenOk ((gd p 3).rows.drop k)=true:=lenOk_t (by rw [List.length_drop]; omega)
 rw [hw,hk]
 simp only [leI_00,leI_0,lk,ln,ld,List.take_length,Bool.and_self,nd_true,Int.toNat_natCast]
 rfl
abbrev s_LogFoldT:FuncId→List T→Option (T × Bool):=find [s_LogImageE]
theorem s_LogFoldT_ok:CallOk Tryz.prog s_LogFoldT:=find_ok (fC ⟨s_LogImage_ok,fN⟩)
abbrev s_LogFoldK:List Nat:= [0,1,2,4,5,6,7,15]
def s_LogFold_evq0 (N:Nat) (p q:List D):List (List D):= [[.i 0],[gd q 0,gd (logIm (sub p 0 4) (gd q 0)) 0,gd (logIm (sub p 0 4) (gd q 0)) 1,.l ([]++(((gd p 3).rows.take (gd p 3).rows.length).drop (w64 ((gd q 0).int - (gd p 0).int)).toNat))],[.l ([]++(((gd p 3).rows.take (gd p 3).rows.length).drop (w64 ((gd q 0).int - (gd p 0).int)).toNat))],[.l []],[gd (logIm (sub p 0 4) (gd q 0)) 0,gd (logIm (sub p 0 4) (gd q 0)) 1],q,[.l (((gd p 3).rows.take (gd p 3).rows.length).drop (w64 ((gd q 0).int - (gd p 0).int)).toNat)],[.i (w64 ((gd q 0).int - (gd p 0).int))],[gd p 0],[.i 0],q,[gd p 3],[.i 0],p,q,[.i 0],[.i 0],[.i 0],[gd (logIm (sub p 0 4) (gd q 0)) 2],[.b (!(gd (logIm (sub p 0 4) (gd q 0)) 2).bool)],sub p 0 4,[gd q 0,gd (logIm (sub p 0 4) (gd q 0)) 0,gd (logIm (sub p 0 4) (gd q 0)) 1,.l ([]++(((gd p 3).rows.take (gd p 3).rows.length).drop (w64 ((gd q 0).int - (gd p 0).int)).toNat))],[gd (logIm (sub p 0 4) (gd q 0)) 0,gd (logIm (sub p 0 4) (gd q 0)) 1]]
theorem s_LogFold_ev (N:Nat) (p q:List D):evFn Tryz.prog s_LogFoldT N s_LogFoldK Tryz.f71 (.tup [.agg [.d si,.d (.sl 148),.d (.sl 69),.d (.sl 78)],.c (.d .bool)]) [⟨ag rILog,p⟩,⟨ri,q⟩]=some (bo,
 bif !(gd (logIm (sub p 0 4) (gd q 0)) 2).bool then some (1,[.i 0,.l [],.l [],.l [],.b false])
 else nd ((leI 0 (w64 ((gd q 0).int - (gd p 0).int))&&leI (w64 ((gd q 0).int - (gd p 0).int)) ((gd p 3).rows.length:Int)&&leI ((gd p 3).rows.length:Int) ((gd p 3).rows.length:Int))&&((lenOk ([]++(((gd p 3).rows.take (gd p 3).rows.length).drop (w64 ((gd q 0).int - (gd p 0).int)).toNat))&&true)&&true)) (ndN 10 (((leI 0 (w64 ((gd q 0).int - (gd p 0).int))&&leI (w64 ((gd q 0).int - (gd p 0).int)) ((gd p 3).rows.length:Int)&&leI ((gd p 3).rows.length:Int) ((gd p 3).rows.length:Int))&&((lenOk ([]++(((gd p 3).rows.take (gd p 3).rows.length).drop (w64 ((gd q 0).int - (gd p 0).int)).toNat))&&true)&&true))&&(sameP (s_LogFold_evq0 N p q) (s_LogFold_evq0 N p q))) (some (1,[gd q 0,gd (logIm (sub p 0 4) (gd q 0)) 0,gd (logIm (sub p 0 4) (gd q 0)) 1,.l ([]++(((gd p 3).rows.take (gd p 3).rows.length).drop (w64 ((gd q 0).int - (gd p 0).int)).toNat)),.b true])))):=by kernel_rfl
def s_LogFoldE:Ent:=(71,e2 (ag rILog) ri fun p q=>(⟨.tup [.agg [.d si,.d (.sl 148),.d (.sl 69),.d (.sl 78)],.c (.d .bool)],sub (logFold p (gd q 0)) 0 5⟩,true))
theorem s_LogFold_ok:EntOk Tryz.prog s_LogFoldE:=e2_ok fun p q h=>evFn_sound (N:=0) (ks:=s_LogFoldK) (key:=bo) s_LogFoldT_ok (enters Tryz.func71) Tryz.func71 fun hw=>by
 rw [s_LogFold_ev]
 rw [show logIm (sub p 0 4) (gd q 0)=logIm p (gd q 0) from rfl]
 unfold logFold logIm
 cases hn0:hasN p (gd q 0) with
 | false=>rfl
 | true =>
 have hn:hasN p (gd q 0)=true:=hn0
 obtain ⟨hlo,k,hk,hkl,hw⟩:=has_d hn
 have hd:=log_d hlo
 have him:=log_im hd
 have hl:=hd.len
 have l1:leI ((gd p 1).rows.length:Int) 1000000=true:=leI_t (by omega)
 have l2:leI ((gd p 2).rows.length:Int) 1000000=true:=leI_t (by omega)
 have lk:leI (k:Int) ((gd p 3).rows.length:Int)=true:=leI_t (by omega)
 have ln:leI ((gd p 3).rows.length:Int) ((gd p 3).rows.length:Int)=true:=leI_t (by omega)
 have ld:leI (((gd p 3).rows.drop k).length:Int) 2000000=true:=leI_t (by rw [List.length_drop]; omega)
 have lo:lenOk ((gd p 3).rows.drop k)=true:=lenOk_t (by rw [List.length_drop]; omega)
 rw [hw,hk]
 simp only [leI_00,leI_0,lk,ln,lo,List.take_length,List.nil_append,Bool.and_self,nd_true,sameP_self,ndN_true,Int.toNat_natCast]
 rfl
abbrev s_LogFromT:FuncId→List T→Option (T × Bool):=find [s_l3AmongE]
theorem s_LogFromT_ok:CallOk Tryz.prog s_LogFromT:=find_ok (fC ⟨s_l3Among_ok,fN⟩)
abbrev s_LogFromK:List Nat:= [0,1,2,4,5,9]
theorem s_LogFrom_ev (N:Nat) (p q:List D):evFn Tryz.prog s_LogFromT N s_LogFromK Tryz.f25 (.tup [.c (.d (.sl 78)),.c (.d .bool)]) [⟨ag rILog,p⟩,⟨ri,q⟩]=some (bo,
 bif !(hasN (sub p 0 4) (gd q 0)) then some (1,[.l [],.b false])
 else nd (leI 0 (w64 ((gd q 0).int - (gd p 0).int))&&leI (w64 ((gd q 0).int - (gd p 0).int)) ((gd p 3).rows.length:Int)&&leI ((gd p 3).rows.length:Int) ((gd p 3).rows.length:Int)) (nd (lenOk ([]++(((gd p 3).rows.take (gd p 3).rows.length).drop (w64 ((gd q 0).int - (gd p 0).int)).toNat))&&true) (some (1,[.l ([]++(((gd p 3).rows.take (gd p 3).rows.length).drop (w64 ((gd q 0).int - (gd p 0).int)).toNat)),.b true])))):=by kernel_rfl
def s_LogFromE:Ent:=(25,e2 (ag rILog) ri fun p q=>(⟨.tup [.c (.d (.sl 78)),.c (.d .bool)],[(bif hasN p (gd q 0) then .l ((gd p 3).rows.drop ((gd q 0).int - (gd p 0).int).toNat) else .l []),.b (hasN p (gd q 0))]⟩,true))
theorem s_LogFrom_ok:EntOk Tryz.prog s_LogFromE:=e2_ok fun p q h=>evFn_sound (N:=0) (ks:=s_LogFromK) (key:=bo) s_LogFromT_ok (enters Tryz.func25) Tryz.func25 fun hw=>by
 rw [s_LogFrom_ev]
 rw [show hasN (sub p 0 4) (gd q 0)=hasN p (gd q 0) from rfl]
 cases hn0:hasN p (gd q 0) with
 | false=>rfl
 | true =>
 have hn:hasN p (gd q 0)=true:=hn0
 obtain ⟨hlo,k,hk,hkl,hw⟩:=has_d hn
 have hd:=log_d hlo
 have him:=log_im hd
 have hl:=hd.len
 have l1:leI ((gd p 1).rows.length:Int) 1000000=true:=leI_t (by omega)
 have l2:leI ((gd p 2).rows.length:Int) 1000000=true:=leI_t (by omega)
 have lk:leI (k:Int) ((gd p 3).rows.length:Int)=true:=leI_t (by omega)
 have ln:leI ((gd p 3).rows.length:Int) ((gd p 3).rows.length:Int)=true:=leI_t (by omega)
 have ld:leI (((gd p 3).rows.drop k).length:Int) 2000000=true:=leI_t (by rw [List.length_drop]; omega)
 have lo:lenOk ((gd p 3).rows.drop k)=true:=lenOk_t (by rw [List.length_drop]; omega)
 rw [hw,hk]
 simp only [leI_00,leI_0,lk,ln,lo,List.take_length,List.nil_append,Bool.and_self,nd_true,Int.toNat_natCast]
 rfl
end Go.Proofs.YthbbbhpjkgpdcaaGreat
namespace Go.Proofs.YthbbbhpjkgpdcaaGreat
set_option maxRecDepth 4096
set_option maxHeartbeats 1000000
abbrev i_voteOkT:FuncId→List T→Option (T × Bool):=find [i_fromE,i_isWholeE,i_hasNumberE]
theorem i_voteOkT_ok:CallOk Tryz.prog i_voteOkT:=find_ok (fC ⟨i_from_ok,fC ⟨i_isWhole_ok,fC ⟨i_hasNumber_ok,fN⟩⟩⟩)
abbrev i_voteOkK:List Nat:= [0,1,2,4]
theorem i_voteOk_ev (N:Nat) (p q:List D):evFn Tryz.prog i_voteOkT N i_voteOkK Tryz.f125 rb [⟨ag rIVote,p⟩,⟨ri,q⟩]=some (bo,
 bif (gd p 0).int==3 then bif inB (gd p 1).int 0 (w64 ((gd q 0).int - 1)) then bif inB (gd p 2).int (0) (1000000000) then bif inB (gd p 3).int (0) (1000000000) then bif inB (gd p 4).int (0) (1000000000) then ob (hasN (sub p 6 4) (gd p 5))
 else ob false
 else ob false
 else ob false
 else ob false
 else bif (gd p 0).int==5 then bif inB (gd p 1).int 0 (w64 ((gd q 0).int - 1)) then bif inB (gd p 2).int (0) (1000000000) then bif inB (gd p 3).int (0) (1000000000) then bif inB (gd p 4).int (0) (1000000000) then ob (hasN (sub p 6 4) (gd p 5))
 else ob false
 else ob false
 else ob false
 else ob false
 else bif (gd p 0).int==6 then bif inB (gd p 1).int 0 (w64 ((gd q 0).int - 1)) then bif inB (gd p 2).int (0) (1000000000) then bif inB (gd p 3).int (0) (1000000000) then bif inB (gd p 4).int (0) (1000000000) then ob (hasN (sub p 6 4) (gd p 5))
 else ob false
 else ob false
 else ob false
 else ob false
 else bif (gd p 0).int==9 then bif inB (gd p 1).int 0 (w64 ((gd q 0).int - 1)) then bif inB (gd p 2).int (0) (1000000000) then bif inB (gd p 3).int (0) (1000000000) then bif inB (gd p 4).int (0) (1000000000) then ob (hasN (sub p 6 4) (gd p 5))
 else ob false
 else ob false
 else ob false
 else ob false
 else ob false):=by kernel_rfl
def voteRest (p:List D) (n:Int):Bool:=inB (gd p 1).int 0 (w64 (n - 1))&&(inB (gd p 2).int 0 1000000000&&(inB (gd p 3).int 0 1000000000&&(inB (gd p 4).int 0 1000000000&&hasN (sub p 6 4) (gd p 5))))
def voteOk (p:List D) (n:Int):Bool:=((gd p 0).int==3||((gd p 0).int==5||((gd p 0).int==6||(gd p 0).int==9)))&&voteRest p n
def i_voteOkE:Ent:=(125,e2 (ag rIVote) ri fun p q=>(⟨rb,[.b (voteOk p (gd q 0).int)]⟩,true))
theorem i_voteOk_ok:EntOk Tryz.prog i_voteOkE:=e2_ok fun p q h=>evFn_sound (N:=0) (ks:=i_voteOkK) (key:=bo) i_voteOkT_ok (enters Tryz.func125) Tryz.func125 fun hw=>by
 rw [i_voteOk_ev]
 unfold voteOk
 rw [show (voteRest p (gd q 0).int)=(inB (gd p 1).int 0 (w64 ((gd q 0).int - 1))&&(inB (gd p 2).int 0 1000000000&&(inB (gd p 3).int 0 1000000000&&(inB (gd p 4).int 0 1000000000&&hasN (sub p 6 4) (gd p 5))))) from rfl]
 by_cases h3:(gd p 0).int=3
 ·rw [h3]; cases inB (gd p 1).int 0 (w64 ((gd q 0).int - 1)) <;> cases inB (gd p 2).int 0 1000000000 <;> cases inB (gd p 3).int 0 1000000000 <;> cases inB (gd p 4).int 0 1000000000 <;> rfl
 by_cases h5:(gd p 0).int=5
 ·rw [h5]; cases inB (gd p 1).int 0 (w64 ((gd q 0).int - 1)) <;> cases inB (gd p 2).int 0 1000000000 <;> cases inB (gd p 3).int 0 1000000000 <;> cases inB (gd p 4).int 0 1000000000 <;> rfl
 by_cases h6:(gd p 0).int=6
 ·rw [h6]; cases inB (gd p 1).int 0 (w64 ((gd q 0).int - 1)) <;> cases inB (gd p 2).int 0 1000000000 <;> cases inB (gd p 3).int 0 1000000000 <;> cases inB (gd p 4).int 0 1000000000 <;> rfl
 by_cases h9:(gd p 0).int=9
 ·rw [h9]; cases inB (gd p 1).int 0 (w64 ((gd q 0).int - 1)) <;> cases inB (gd p 2).int 0 1000000000 <;> cases inB (gd p 3).int 0 1000000000 <;> cases inB (gd p 4).int 0 1000000000 <;> rfl
 rw [beq_eq_false_iff_ne.2 h3,beq_eq_false_iff_ne.2 h5,beq_eq_false_iff_ne.2 h6,beq_eq_false_iff_ne.2 h9]
 rfl
abbrev s_l6VoteOkT:FuncId→List T→Option (T × Bool):=find [s_l1InE,s_l1WholeE,s_l6LogE]
theorem s_l6VoteOkT_ok:CallOk Tryz.prog s_l6VoteOkT:=find_ok (fC ⟨s_l1In_ok,fC ⟨s_l1Whole_ok,fC ⟨s_l6Log_ok,fN⟩⟩⟩)
abbrev s_l6VoteOkK:List Nat:= [0,1,2,4,6,7]
theorem s_l6VoteOk_ev (N:Nat) (p q:List D):evFn Tryz.prog s_l6VoteOkT N s_l6VoteOkK Tryz.f106 rb [⟨ag rIVote,p⟩,⟨ri,q⟩]=some (bo,
 bif (gd p 0).int==3 then bif (gd p 0).int==3 then bif inB (gd p 1).int 0 (w64 ((gd q 0).int - 1)) then bif inB (gd p 2).int (0) (1000000000) then bif inB (gd p 3).int (0) (1000000000) then bif inB (gd p 4).int (0) (1000000000) then ob (hasN (sub p 6 4) (gd p 5))
 else ob false
 else ob false
 else ob false
 else ob false
 else ob false
 else bif (gd p 0).int==5 then bif (gd p 0).int==5 then bif inB (gd p 1).int 0 (w64 ((gd q 0).int - 1)) then bif inB (gd p 2).int (0) (1000000000) then bif inB (gd p 3).int (0) (1000000000) then bif inB (gd p 4).int (0) (1000000000) then ob (hasN (sub p 6 4) (gd p 5))
 else ob false
 else ob false
 else ob false
 else ob false
 else ob false
 else bif (gd p 0).int==6 then bif (gd p 0).int==6 then bif inB (gd p 1).int 0 (w64 ((gd q 0).int - 1)) then bif inB (gd p 2).int (0) (1000000000) then bif inB (gd p 3).int (0) (1000000000) then bif inB (gd p 4).int (0) (1000000000) then ob (hasN (sub p 6 4) (gd p 5))
 else ob false
 else ob false
 else ob false
 else ob false
 else ob false
 else bif (gd p 0).int==9 then bif inB (gd p 1).int 0 (w64 ((gd q 0).int - 1)) then bif inB (gd p 2).int (0) (1000000000) then bif inB (gd p 3).int (0) (1000000000) then bif inB (gd p 4).int (0) (1000000000) then ob (hasN (sub p 6 4) (gd p 5))
 else ob false
 else ob false
 else ob false
 else ob false
 else ob false):=by kernel_rfl
def s_l6VoteOkE:Ent:=(106,e2 (ag rIVote) ri fun p q=>(⟨rb,[.b (voteOk p (gd q 0).int)]⟩,true))
theorem s_l6VoteOk_ok:EntOk Tryz.prog s_l6VoteOkE:=e2_ok fun p q h=>evFn_sound (N:=0) (ks:=s_l6VoteOkK) (key:=bo) s_l6VoteOkT_ok (enters Tryz.func106) Tryz.func106 fun hw=>by
 rw [s_l6VoteOk_ev]
 unfold voteOk
 rw [show (voteRest p (gd q 0).int)=(inB (gd p 1).int 0 (w64 ((gd q 0).int - 1))&&(inB (gd p 2).int 0 1000000000&&(inB (gd p 3).int 0 1000000000&&(inB (gd p 4).int 0 1000000000&&hasN (sub p 6 4) (gd p 5))))) from rfl]
 by_cases h3:(gd p 0).int=3
 ·rw [h3]; cases inB (gd p 1).int 0 (w64 ((gd q 0).int - 1)) <;> cases inB (gd p 2).int 0 1000000000 <;> cases inB (gd p 3).int 0 1000000000 <;> cases inB (gd p 4).int 0 1000000000 <;> rfl
 by_cases h5:(gd p 0).int=5
 ·rw [h5]; cases inB (gd p 1).int 0 (w64 ((gd q 0).int - 1)) <;> cases inB (gd p 2).int 0 1000000000 <;> cases inB (gd p 3).int 0 1000000000 <;> cases inB (gd p 4).int 0 1000000000 <;> rfl
 by_cases h6:(gd p 0).int=6
 ·rw [h6]; cases inB (gd p 1).int 0 (w64 ((gd q 0).int - 1)) <;> cases inB (gd p 2).int 0 1000000000 <;> cases inB (gd p 3).int 0 1000000000 <;> cases inB (gd p 4).int 0 1000000000 <;> rfl
 by_cases h9:(gd p 0).int=9
 ·rw [h9]; cases inB (gd p 1).int 0 (w64 ((gd q 0).int - 1)) <;> cases inB (gd p 2).int 0 1000000000 <;> cases inB (gd p 3).int 0 1000000000 <;> cases inB (gd p 4).int 0 1000000000 <;> rfl
 rw [beq_eq_false_iff_ne.2 h3,beq_eq_false_iff_ne.2 h5,beq_eq_false_iff_ne.2 h6,beq_eq_false_iff_ne.2 h9]
 rfl
abbrev i_ReplicaOk_1T:FuncId→List T→Option (T × Bool):=find [i_voteOkE]
theorem i_ReplicaOk_1T_ok:CallOk Tryz.prog i_ReplicaOk_1T:=find_ok (fC ⟨i_voteOk_ok,fN⟩)
abbrev i_ReplicaOk_1K:List Nat:= [0,1,2,3]
theorem i_ReplicaOk_1_ev (N:Nat) (p q:List D):evFn Tryz.prog i_ReplicaOk_1T N i_ReplicaOk_1K Tryz.f124 rb [⟨ag rIVote,p⟩,⟨.one (.c (.cptr [si,si,si,si,si,si,si,.sl 148,.sl 69,.sl 78,.sl 132,si,si] 0)),q⟩]=some (bo,
 ob (!(voteOk (sub p 0 10) (gd ((gd q 0).rows.getD 0 []) 1).int))):=by kernel_rfl
def i_ReplicaOk_1E:Ent:=(124,e2 (ag rIVote) (.one (.c (.cptr [si,si,si,si,si,si,si,.sl 148,.sl 69,.sl 78,.sl 132,si,si] 0))) fun p q=>(⟨rb,[.b (!voteOk p (gd ((gd q 0).rows.getD 0 []) 1).int)]⟩,true))
theorem i_ReplicaOk_1_ok:EntOk Tryz.prog i_ReplicaOk_1E:=e2_ok fun p q h=>evFn_sound (N:=0) (ks:=i_ReplicaOk_1K) (key:=bo) i_ReplicaOk_1T_ok (enters Tryz.func124) Tryz.func124 fun hw=>by
 rw [i_ReplicaOk_1_ev]
 rfl
abbrev ixfRVT:FuncId→List T→Option (T × Bool):=find [i_ReplicaOk_1E]
theorem ixfRVT_ok:CallOk Tryz.prog ixfRVT:=find_ok (fC ⟨i_ReplicaOk_1_ok,fN⟩)
abbrev ixfRVK:List Nat:= [0,1,4,5,7,8,9,16]
noncomputable def ixfRVL0 (N:Nat) (p q:List D):List D→Out:=loopOf Tryz.prog ixfRVT N ixfRVK Tryz.f150 ri [⟨sd (.sl 132),p⟩,⟨.one (.c (.fn 124 [.cptr [si,si,si,si,si,si,si,.sl 148,.sl 69,.sl 78,.sl 132,si,si] 0])),q⟩] 0
theorem ixfRVR0 (N:Nat) (p q:List D) (x0 x1 x2 x3 x4:D):(ixfRVL0 N p q) [x0,x1,x2,x3,x4] =
 bif ltI x4.int x3.int then nd (inRange x4.int x0.rows.length) (bif !voteOk (sub (x0.rows.getD x4.int.toNat []) 0 10) (gd ((gd (x1.rows.getD 0 []) 0).rows.getD 0 []) 1).int then some (1,[x4])
 else nx [x0,x1,x2,x3,.i (w64 (x4.int+1))])
 else ex 0 [x0,x1,x2,x3,x4]:=by kernel_rfl
theorem ixfRV_ev (N:Nat) (p q:List D):evFn Tryz.prog ixfRVT N ixfRVK Tryz.f150 ri [⟨sd (.sl 132),p⟩,⟨.one (.c (.fn 124 [.cptr [si,si,si,si,si,si,si,.sl 148,.sl 69,.sl 78,.sl 132,si,si] 0])),q⟩]=some (bo,
 (let o0:=iter (ixfRVL0 N p q) N [gd p 0,gd q 0,.i 0,.i ((gd p 0).rows.length:Int),.i 0]
  nd o0.isSome (bif o0.code==1 then some (1,o0.pay)
  else nd (o0.code==2) (oi (-1))))):=by kernel_rfl
def ixfRVC (c:D) (r:List D):Bool:= !voteOk r (gd ((gd (c.rows.getD 0 []) 0).rows.getD 0 []) 1).int
def ixfRVE:Ent:=(150,e2 (sd (.sl 132)) (.one (.c (.fn 124 [.cptr [si,si,si,si,si,si,si,.sl 148,.sl 69,.sl 78,.sl 132,si,si] 0]))) fun p q=>(⟨ri,[.i (ixF (fun k=>ixfRVC (gd q 0) (sub ((gd p 0).rows.getD k []) 0 10)) 0 (gd p 0).rows.length)]⟩,true))
theorem ixfRV_ok:EntOk Tryz.prog ixfRVE:=e2_ok fun p q h=>evFn_sound (N:=(gd p 0).rows.length+1) (ks:=ixfRVK) (key:=bo) ixfRVT_ok (enters Tryz.func150) Tryz.func150 fun hw=>by
 rw [ixfRV_ev]
 have hl:=wt_sl (hw ⟨sd (.sl 132),p⟩ (by simp))
 have e:=ix_loop (L:=ixfRVL0 ((gd p 0).rows.length+1) p q) (fun k => [gd p 0,gd q 0,.i 0,.i ((gd p 0).rows.length:Int),.i (k:Int)]) (gd p 0).rows.length (fun k=>ixfRVC (gd q 0) (sub ((gd p 0).rows.getD k []) 0 10)) [gd p 0,gd q 0,.i 0,.i ((gd p 0).rows.length:Int),.i ((gd p 0).rows.length:Int)] (fun k hk=>?_) ?_ (gd p 0).rows.length 0 ((gd p 0).rows.length+1) (by omega) (by omega)
 ·simp only [Int.natCast_zero] at e
  rw [e]
  have hno:=ixF_neg (fun k=>ixfRVC (gd q 0) (sub ((gd p 0).rows.getD k []) 0 10)) (gd p 0).rows.length 0
  cases hd:decide (ixF (fun k=>ixfRVC (gd q 0) (sub ((gd p 0).rows.getD k []) 0 10)) 0 (gd p 0).rows.length≥0)
  ·rw [hno hd]; rfl
  ·rfl
 ·show ixfRVL0 _ p q [_,_,_,_,.i (k:Int)]=_
  rw [ixfRVR0]
  simp only [int_i,c_lt hk,nd_ix hk,w64_succ hk hl,Int.toNat_natCast]
  unfold ixfRVC
  cases voteOk (sub ((gd p 0).rows.getD k []) 0 10) (gd ((gd ((gd q 0).rows.getD 0 []) 0).rows.getD 0 []) 1).int <;> rfl
 ·show ixfRVL0 _ p q [_,_,_,.i ((gd p 0).rows.length:Int),.i ((gd p 0).rows.length:Int)]=_
  rw [ixfRVR0]
  simp only [int_i,c_nlt]
abbrev cofRVT:FuncId→List T→Option (T × Bool):=find [ixfRVE,i_ReplicaOk_1E]
theorem cofRVT_ok:CallOk Tryz.prog cofRVT:=find_ok (fC ⟨ixfRV_ok,fC ⟨i_ReplicaOk_1_ok,fN⟩⟩)
abbrev cofRVK:List Nat:= [0,1,4]
theorem cofRV_ev (N:Nat) (p q:List D):evFn Tryz.prog cofRVT N cofRVK Tryz.f123 rb [⟨sd (.sl 132),p⟩,⟨.one (.c (.fn 124 [.cptr [si,si,si,si,si,si,si,.sl 148,.sl 69,.sl 78,.sl 132,si,si] 0])),q⟩]=some (bo,
 ob (leI 0 (ixF (fun k=>ixfRVC (.l [[gd ((gd q 0).rows.getD 0 []) 0]]) (sub ((gd p 0).rows.getD k []) 0 10)) 0 (gd p 0).rows.length))):=by kernel_rfl
def cofRVE:Ent:=(123,e2 (sd (.sl 132)) (.one (.c (.fn 124 [.cptr [si,si,si,si,si,si,si,.sl 148,.sl 69,.sl 78,.sl 132,si,si] 0]))) fun p q=>(⟨rb,[.b (anyS (fun rr=>ixfRVC (gd q 0) (sub rr 0 10)) (gd p 0))]⟩,true))
theorem cofRV_ok:EntOk Tryz.prog cofRVE:=e2_ok fun p q h=>evFn_sound (N:=0) (ks:=cofRVK) (key:=bo) cofRVT_ok (enters Tryz.func123) Tryz.func123 fun hw=>by
 rw [cofRV_ev]
 refine congrArg (fun x=>some (bo,ob x)) ?_
 exact (ixF_any (fun k=>ixfRVC (gd q 0) (sub ((gd p 0).rows.getD k []) 0 10)) (gd p 0).rows.length 0).trans (by simp only [Nat.zero_add]; rfl)
abbrev i_ReplicaOkT:FuncId→List T→Option (T × Bool):=find [i_isOfE,i_fromE,i_isWholeE,i_hasNumberE,cofRVE,i_isLogZeroE]
theorem i_ReplicaOkT_ok:CallOk Tryz.prog i_ReplicaOkT:=find_ok (fC ⟨i_isOf_ok,fC ⟨i_from_ok,fC ⟨i_isWhole_ok,fC ⟨i_hasNumber_ok,fC ⟨cofRV_ok,fC ⟨i_isLogZero_ok,fN⟩⟩⟩⟩⟩⟩)
abbrev i_ReplicaOkK:List Nat:= [0,1,2,53,57,59,60,74,88]
theorem i_ReplicaOk_ev (N:Nat) (p:List D):evFn Tryz.prog i_ReplicaOkT N i_ReplicaOkK Tryz.f80 rb [⟨ag rIReplica,p⟩]=some (bo,
 bif !(isOfN (gd p 1).int) then ob false
 else bif !(inB (gd p 0).int 0 (w64 ((gd p 1).int - 1))) then ob false
 else bif !(inB (gd p 3).int (0) (1000000000)) then ob false
 else bif !(inB (gd p 4).int (0) (1000000000)) then ob false
 else bif !(inB (gd p 11).int (0) (1000000000)) then ob false
 else bif !(inB (gd p 12).int (0) (1000000000)) then ob false
 else bif !(hasN (sub p 6 4) (gd p 5)) then ob false
 else bif ltI 20 ((gd p 10).rows.length:Int) then ob false
 else bif anyS (fun rr=>ixfRVC (.l [[.l [sub p 0 13]]]) (sub rr 0 10)) (gd p 10) then ob false
 else bif (gd p 2).int==1 then bif (gd p 3).int==(gd p 4).int then ob ((gd p 3).int==(gd p 11).int)
 else ob false
 else bif (gd p 2).int==2 then bif leI (gd p 4).int (gd p 3).int then ob ((gd p 3).int==(gd p 11).int)
 else ob false
 else bif (gd p 2).int==0 then bif (gd p 2).int==0 then bif (gd p 3).int==0 then bif (gd p 4).int==0 then bif (gd p 5).int==0 then bif sameLg (sub p 6 4) [.i 0,.l [],.l [],.l []] then bif (gd p 2).int==3 then ob true
 else ob (((gd p 10).rows.length:Int)==0)
 else ob false
 else ob false
 else ob false
 else ob false
 else ob false
 else bif (gd p 2).int==3 then bif (gd p 3).int==0 then bif (gd p 4).int==0 then bif (gd p 5).int==0 then bif sameLg (sub p 6 4) [.i 0,.l [],.l [],.l []] then bif (gd p 2).int==3 then ob true
 else ob (((gd p 10).rows.length:Int)==0)
 else ob false
 else ob false
 else ob false
 else ob false
 else ob false):=by kernel_rfl
def votesOk (z:D) (n:Int):Bool:=(List.range z.rows.length).all fun k=>voteOk (sub (z.rows.getD k []) 0 10) n
theorem votes_any (z c:D):anyS (fun rr=>ixfRVC c (sub rr 0 10)) z = !votesOk z (gd ((gd (c.rows.getD 0 []) 0).rows.getD 0 []) 1).int:=by
 have hS:∀ C:List D→Bool,anyS C z=(List.range z.rows.length).any fun j=>C (z.rows.getD j []):=fun C=>by
  have h:=anyS_take (C:=C) (z:=z) (k:=z.rows.length) (Nat.le_refl _)
  rw [List.take_length] at h
  exact h
 rw [hS]
 unfold votesOk ixfRVC
 rw [List.not_all_eq_any_not]
def repMode (p:List D):Bool:=
 bif (gd p 2).int==1 then (gd p 3).int==(gd p 4).int&&(gd p 3).int==(gd p 11).int
 else bif (gd p 2).int==2 then leI (gd p 4).int (gd p 3).int&&(gd p 3).int==(gd p 11).int
 else bif (gd p 2).int==0||(gd p 2).int==3 then (gd p 3).int==0&&((gd p 4).int==0&&((gd p 5).int==0&&(sameLg (sub p 6 4) [.i 0,.l [],.l [],.l []]&&((gd p 2).int==3||((gd p 10).rows.length:Int)==0))))
 else false
def repOk (p:List D):Bool:=isOfN (gd p 1).int&&(inB (gd p 0).int 0 (w64 ((gd p 1).int - 1))&&(inB (gd p 3).int 0 1000000000&&(inB (gd p 4).int 0 1000000000&&(inB (gd p 11).int 0 1000000000&&(inB (gd p 12).int 0 1000000000&&(hasN (sub p 6 4) (gd p 5)&&(leI ((gd p 10).rows.length:Int) 20&&(votesOk (gd p 10) (gd p 1).int&&repMode p))))))))
def i_ReplicaOkE:Ent:=(80,e1 (ag rIReplica) fun p=>(⟨rb,[.b (repOk p)]⟩,true))
theorem i_ReplicaOk_ok:EntOk Tryz.prog i_ReplicaOkE:=e1_ok fun p h=>evFn_sound (N:=0) (ks:=i_ReplicaOkK) (key:=bo) i_ReplicaOkT_ok (enters Tryz.func80) Tryz.func80 fun hw=>by
 rw [i_ReplicaOk_ev]
 rw [votes_any]
 rw [show (gd ((gd ((D.l [[.l [sub p 0 13]]]).rows.getD 0 []) 0).rows.getD 0 []) 1).int=(gd p 1).int from rfl]
 unfold repOk
 cases isOfN (gd p 1).int with
 | false=>rfl
 | true =>
 cases inB (gd p 0).int 0 (w64 ((gd p 1).int - 1)) with
 | false=>rfl
 | true =>
 cases inB (gd p 3).int 0 1000000000 with
 | false=>rfl
 | true =>
 cases inB (gd p 4).int 0 1000000000 with
 | false=>rfl
 | true =>
 cases inB (gd p 11).int 0 1000000000 with
 | false=>rfl
 | true =>
 cases inB (gd p 12).int 0 1000000000 with
 | false=>rfl
 | true =>
 cases hasN (sub p 6 4) (gd p 5) with
 | false=>rfl
 | true =>
 by_cases hb:(gd p 10).rows.length≤20
 rotate_left
 ·rw [ltI_t (show (20:Int)<((gd p 10).rows.length:Int) by omega),leI_f (show (20:Int)<((gd p 10).rows.length:Int) by omega)]; rfl
 rw [ltI_f (show ((gd p 10).rows.length:Int)≤20 by omega),leI_t (show ((gd p 10).rows.length:Int)≤20 by omega)]
 cases votesOk (gd p 10) (gd p 1).int with
 | false=>rfl
 | true =>
 unfold repMode
 by_cases m1:(gd p 2).int=1
 ·rw [m1]; cases (gd p 3).int==(gd p 4).int <;> rfl
 by_cases m2:(gd p 2).int=2
 ·rw [m2]; cases leI (gd p 4).int (gd p 3).int <;> rfl
 by_cases m0:(gd p 2).int=0
 ·rw [m0]; cases (gd p 3).int==0 <;> cases (gd p 4).int==0 <;> cases (gd p 5).int==0 <;> cases sameLg (sub p 6 4) [.i 0,.l [],.l [],.l []] <;> rfl
 by_cases m3:(gd p 2).int=3
 ·rw [m3]; cases (gd p 3).int==0 <;> cases (gd p 4).int==0 <;> cases (gd p 5).int==0 <;> cases sameLg (sub p 6 4) [.i 0,.l [],.l [],.l []] <;> rfl
 rw [beq_eq_false_iff_ne.2 m1,beq_eq_false_iff_ne.2 m2,beq_eq_false_iff_ne.2 m0,beq_eq_false_iff_ne.2 m3]
 rfl
abbrev s_ReplicaOkT:FuncId→List T→Option (T × Bool):=find [s_l6OfE,s_l1InE,s_l1WholeE,s_l6LogE,s_l6VoteOkE,s_SameLogE]
theorem s_ReplicaOkT_ok:CallOk Tryz.prog s_ReplicaOkT:=find_ok (fC ⟨s_l6Of_ok,fC ⟨s_l1In_ok,fC ⟨s_l1Whole_ok,fC ⟨s_l6Log_ok,fC ⟨s_l6VoteOk_ok,fC ⟨s_SameLog_ok,fN⟩⟩⟩⟩⟩⟩)
abbrev s_ReplicaOkK:List Nat:= [0,1,2,3,54,59,70,72,73,87,101]
noncomputable def s_ReplicaOkL0 (N:Nat) (p:List D):List D→Out:=loopOf Tryz.prog s_ReplicaOkT N s_ReplicaOkK Tryz.f64 rb [⟨ag rIReplica,p⟩] 0
theorem s_ReplicaOkR0 (N:Nat) (p:List D) (x0 x1 x2 x3 x4 x5 x6 x7 x8 x9 x10 x11 x12 x13 x14 x15 x16 x17 x18 x19 x20 x21 x22 x23 x24 x25 x26 x27 x28 x29:D):(s_ReplicaOkL0 N p) [x0,x1,x2,x3,x4,x5,x6,x7,x8,x9,x10,x11,x12,x13,x14,x15,x16,x17,x18,x19,x20,x21,x22,x23,x24,x25,x26,x27,x28,x29] =
 bif ltI x16.int (x27.rows.length:Int) then nd (inRange x16.int x27.rows.length) (bif !(voteOk (sub (x27.rows.getD x16.int.toNat []) 0 10) x18.int) then ob false
 else nx [x0,x1,x2,x3,x4,x5,x6,x7,x8,x9,x10,x11,x12,x13,x14,x15,.i (w64 (x16.int+1)),x17,x18,x19,x20,x21,x22,x23,x24,x25,x26,x27,x28,x29])
 else ex 0 [x0,x1,x2,x3,x4,x5,x6,x7,x8,x9,x10,x11,x12,x13,x14,x15,x16,x17,x18,x19,x20,x21,x22,x23,x24,x25,x26,x27,x28,x29]:=by kernel_rfl
theorem s_ReplicaOk_ev (N:Nat) (p:List D):evFn Tryz.prog s_ReplicaOkT N s_ReplicaOkK Tryz.f64 rb [⟨ag rIReplica,p⟩]=some (bo,
 bif !(isOfN (gd p 1).int) then ob false
 else bif !(inB (gd p 0).int 0 (w64 ((gd p 1).int - 1))) then ob false
 else bif !(inB (gd p 3).int (0) (1000000000)) then ob false
 else bif !(inB (gd p 4).int (0) (1000000000)) then ob false
 else bif !(inB (gd p 11).int (0) (1000000000)) then ob false
 else bif !(inB (gd p 12).int (0) (1000000000)) then ob false
 else bif !(hasN (sub p 6 4) (gd p 5)) then ob false
 else bif ltI 20 ((gd p 10).rows.length:Int) then ob false
 else (let o0:=iter (s_ReplicaOkL0 N p) N [gd p 0,gd p 1,gd p 2,gd p 3,gd p 4,gd p 5,gd p 6,gd p 7,gd p 8,gd p 9,gd p 10,gd p 11,gd p 12,.i 0,.i 0,.b (ltI 20 ((gd p 10).rows.length:Int)),.i 0,gd p 0,gd p 1,gd p 2,gd p 3,gd p 4,gd p 5,gd p 6,gd p 7,gd p 8,gd p 9,gd p 10,gd p 11,gd p 12]
  nd o0.isSome (bif o0.code==1 then some (1,o0.pay)
  else nd (o0.code==2) (bif (gd o0.pay 19).int==1 then bif (gd o0.pay 20).int==(gd o0.pay 21).int then ob ((gd o0.pay 20).int==(gd o0.pay 28).int)
  else ob false
  else bif (gd o0.pay 19).int==2 then bif leI (gd o0.pay 21).int (gd o0.pay 20).int then ob ((gd o0.pay 20).int==(gd o0.pay 28).int)
  else ob false
  else bif (gd o0.pay 19).int==0 then bif (gd o0.pay 19).int==0 then bif (gd o0.pay 20).int==0 then bif (gd o0.pay 21).int==0 then bif (gd o0.pay 22).int==0 then bif sameLg (sub o0.pay 23 4) [.i 0,.l [],.l [],.l []] then bif (gd o0.pay 19).int==3 then ob true
  else ob (((gd o0.pay 27).rows.length:Int)==0)
  else ob false
  else ob false
  else ob false
  else ob false
  else ob false
  else bif (gd o0.pay 19).int==3 then bif (gd o0.pay 20).int==0 then bif (gd o0.pay 21).int==0 then bif (gd o0.pay 22).int==0 then bif sameLg (sub o0.pay 23 4) [.i 0,.l [],.l [],.l []] then bif (gd o0.pay 19).int==3 then ob true
  else ob (((gd o0.pay 27).rows.length:Int)==0)
  else ob false
  else ob false
  else ob false
  else ob false
  else ob false)))):=by kernel_rfl
def s_ReplicaOkE:Ent:=(64,e1 (ag rIReplica) fun p=>(⟨rb,[.b (repOk p)]⟩,true))
theorem s_ReplicaOk_ok:EntOk Tryz.prog s_ReplicaOkE:=e1_ok fun p h=>evFn_sound (N:=(gd p 10).rows.length+1) (ks:=s_ReplicaOkK) (key:=bo) s_ReplicaOkT_ok (enters Tryz.func64) Tryz.func64 fun hw=>by
 rw [s_ReplicaOk_ev]
 have hl:=wt_at (hw ⟨ag rIReplica,p⟩ (by simp)) (j:=10) rfl
 unfold repOk
 cases isOfN (gd p 1).int with
 | false=>rfl
 | true =>
 cases inB (gd p 0).int 0 (w64 ((gd p 1).int - 1)) with
 | false=>rfl
 | true =>
 cases inB (gd p 3).int 0 1000000000 with
 | false=>rfl
 | true =>
 cases inB (gd p 4).int 0 1000000000 with
 | false=>rfl
 | true =>
 cases inB (gd p 11).int 0 1000000000 with
 | false=>rfl
 | true =>
 cases inB (gd p 12).int 0 1000000000 with
 | false=>rfl
 | true =>
 cases hasN (sub p 6 4) (gd p 5) with
 | false=>rfl
 | true =>
 by_cases hb:(gd p 10).rows.length≤20
 rotate_left
 ·rw [ltI_t (show (20:Int)<((gd p 10).rows.length:Int) by omega),leI_f (show (20:Int)<((gd p 10).rows.length:Int) by omega)]; rfl
 rw [ltI_f (show ((gd p 10).rows.length:Int)≤20 by omega),leI_t (show ((gd p 10).rows.length:Int)≤20 by omega)]
 have e:=for_loop (L:=s_ReplicaOkL0 ((gd p 10).rows.length+1) p) (fun k => [gd p 0,gd p 1,gd p 2,gd p 3,gd p 4,gd p 5,gd p 6,gd p 7,gd p 8,gd p 9,gd p 10,gd p 11,gd p 12,.i 0,.i 0,.b false,.i (k:Int),gd p 0,gd p 1,gd p 2,gd p 3,gd p 4,gd p 5,gd p 6,gd p 7,gd p 8,gd p 9,gd p 10,gd p 11,gd p 12]) (gd p 10).rows.length (fun k=>voteOk (sub ((gd p 10).rows.getD k []) 0 10) (gd p 1).int) [.b false] 0 (fun k hk=>?_) ?_ (N:=(gd p 10).rows.length+1) (by omega)
 ·simp only [Int.natCast_zero] at e
  simp only [Bool.not_true,cond_false]
  rw [e]
  rw [show ((List.range (gd p 10).rows.length).all fun k=>voteOk (sub ((gd p 10).rows.getD k []) 0 10) (gd p 1).int)=votesOk (gd p 10) (gd p 1).int from rfl]
  cases votesOk (gd p 10) (gd p 1).int with
  | false=>rfl
  | true =>
  simp only [nd,cond_true,cond_false,Option.isSome_some,Out.code,Out.pay,Option.getD_some,gd_cons_zero,gd_cons_succ,Nat.reduceBEq,Nat.reduceAdd,int_i,bool_b,str_s,rows_l,Bool.not_true,Bool.not_false,beq_self_eq_true,sub,Nat.reduceAdd,Bool.true_and]
  rw [show repMode p=repMode p from rfl]
  unfold repMode
  simp only [sub,Nat.reduceAdd]
  by_cases m1:(gd p 2).int=1
  ·rw [m1]; cases (gd p 3).int==(gd p 4).int <;> rfl
  by_cases m2:(gd p 2).int=2
  ·rw [m2]; cases leI (gd p 4).int (gd p 3).int <;> rfl
  by_cases m0:(gd p 2).int=0
  ·rw [m0]; cases (gd p 3).int==0 <;> cases (gd p 4).int==0 <;> cases (gd p 5).int==0 <;> cases sameLg [gd p 6,gd p 7,gd p 8,gd p 9] [.i 0,.l [],.l [],.l []] <;> rfl
  by_cases m3:(gd p 2).int=3
  ·rw [m3]; cases (gd p 3).int==0 <;> cases (gd p 4).int==0 <;> cases (gd p 5).int==0 <;> cases sameLg [gd p 6,gd p 7,gd p 8,gd p 9] [.i 0,.l [],.l [],.l []] <;> rfl
  rw [beq_eq_false_iff_ne.2 m1,beq_eq_false_iff_ne.2 m2,beq_eq_false_iff_ne.2 m0,beq_eq_false_iff_ne.2 m3]
  rfl
 ·show s_ReplicaOkL0 _ p [_,_,_,_,_,_,_,_,_,_,_,_,_,_,_,_,.i (k:Int),_,_,_,_,_,_,_,_,_,_,_,_,_]=_
  rw [s_ReplicaOkR0]
  simp only [int_i,c_lt hk,nd_ix hk,w64_succ hk hl,Int.toNat_natCast]
  cases voteOk (sub ((gd p 10).rows.getD k []) 0 10) (gd p 1).int <;> rfl
 ·show s_ReplicaOkL0 _ p [_,_,_,_,_,_,_,_,_,_,_,_,_,_,_,_,.i ((gd p 10).rows.length:Int),_,_,_,_,_,_,_,_,_,_,_,_,_]=_
  rw [s_ReplicaOkR0]
  simp only [int_i,c_nlt]
abbrev s_PrimaryOfT:FuncId→List T→Option (T × Bool):=find [s_l1WholeE,s_l6OfE]
theorem s_PrimaryOfT_ok:CallOk Tryz.prog s_PrimaryOfT:=find_ok (fC ⟨s_l1Whole_ok,fC ⟨s_l6Of_ok,fN⟩⟩)
abbrev s_PrimaryOfK:List Nat:= [0,1,4,12]
theorem s_PrimaryOf_ev (N:Nat) (p q:List D):evFn Tryz.prog s_PrimaryOfT N s_PrimaryOfK Tryz.f67 ri [⟨ri,p⟩,⟨ri,q⟩]=some (bo,
 bif !(inB (gd p 0).int (0) (1000000000)) then oi (-1)
 else bif !(isOfN (gd q 0).int) then oi (-1)
 else nd ((gd q 0).int != 0) (oi ((gd p 0).int.tmod (gd q 0).int))):=by kernel_rfl
def primOf (v n:Int):Int:=bif inB v 0 1000000000&&isOfN n then v.tmod n else -1
def s_PrimaryOfE:Ent:=(67,e2 ri ri fun p q=>(⟨ri,[.i (primOf (gd p 0).int (gd q 0).int)]⟩,true))
theorem s_PrimaryOf_ok:EntOk Tryz.prog s_PrimaryOfE:=e2_ok fun p q h=>evFn_sound (N:=0) (ks:=s_PrimaryOfK) (key:=bo) s_PrimaryOfT_ok (enters Tryz.func67) Tryz.func67 fun hw=>by
 rw [s_PrimaryOf_ev]
 unfold primOf
 cases inB (gd p 0).int 0 1000000000 with
 | false=>rfl
 | true =>
 cases h:isOfN (gd q 0).int with
 | false=>rfl
 | true =>
 have hn:((gd q 0).int != 0)=true:=by
  simp only [isOfN,Bool.or_eq_true,beq_iff_eq] at h
  exact bne_iff_ne.2 (by omega)
 rw [hn]
 rfl
abbrev s_l6LeadsT:FuncId→List T→Option (T × Bool):=find [s_PrimaryOfE]
theorem s_l6LeadsT_ok:CallOk Tryz.prog s_l6LeadsT:=find_ok (fC ⟨s_PrimaryOf_ok,fN⟩)
abbrev s_l6LeadsK:List Nat:= [0,1,2]
theorem s_l6Leads_ev (N:Nat) (p:List D):evFn Tryz.prog s_l6LeadsT N s_l6LeadsK Tryz.f22 rb [⟨ag rIReplica,p⟩]=some (bo,
 ob ((primOf (gd p 3).int (gd p 1).int)==(gd p 0).int)):=by kernel_rfl
def s_l6LeadsE:Ent:=(22,e1 (ag rIReplica) fun p=>(⟨rb,[.b (primOf (gd p 3).int (gd p 1).int==(gd p 0).int)]⟩,true))
theorem s_l6Leads_ok:EntOk Tryz.prog s_l6LeadsE:=e1_ok fun p h=>evFn_sound (N:=0) (ks:=s_l6LeadsK) (key:=bo) s_l6LeadsT_ok (enters Tryz.func22) Tryz.func22 fun hw=>by
 rw [s_l6Leads_ev]
 skip
def i_copyVotesdE:Ent:=deepE [6,19]
theorem i_copyVotesd_ok:EntOk Tryz.prog i_copyVotesdE:=deepE_ok _
abbrev i_copyVotesT:FuncId→List T→Option (T × Bool):=find [i_copyLogE,apartE,i_copyVotesdE]
theorem i_copyVotesT_ok:CallOk Tryz.prog i_copyVotesT:=find_ok (fC ⟨i_copyLog_ok,fC ⟨apart_ok,fC ⟨i_copyVotesd_ok,fN⟩⟩⟩)
abbrev i_copyVotesK:List Nat:= [0,2,3,5,7,8,9,10]
noncomputable def i_copyVotesL0 (N:Nat) (p:List D):List D→Out:=loopOf Tryz.prog i_copyVotesT N i_copyVotesK Tryz.f127 (.one (.c (.own (0,1000000) true 132))) [⟨sd (.sl 132),p⟩] 0
theorem i_copyVotesR0 (N:Nat) (p:List D) (x0 x1 x2 x3 x4 x5:D):(i_copyVotesL0 N p) [x0,x1,x2,x3,x4,x5] =
 bif ltI x5.int x4.int then nd (inRange x5.int x3.rows.length) (nd (leI ((gd (x3.rows.getD x5.int.toNat []) 7).rows.length:Int) 1000000&&(leI ((gd (x3.rows.getD x5.int.toNat []) 8).rows.length:Int) 1000000&&leI ((gd (x3.rows.getD x5.int.toNat []) 9).rows.length:Int) 1000000)) (nd (lenOk (x2.rows ++ [[gd (x3.rows.getD x5.int.toNat []) 0,gd (x3.rows.getD x5.int.toNat []) 1,gd (x3.rows.getD x5.int.toNat []) 2,gd (x3.rows.getD x5.int.toNat []) 3,gd (x3.rows.getD x5.int.toNat []) 4,gd (x3.rows.getD x5.int.toNat []) 5,gd (sub (copyLg (sub (x3.rows.getD x5.int.toNat []) 6 4)) 0 4) 0,gd (sub (copyLg (sub (x3.rows.getD x5.int.toNat []) 6 4)) 0 4) 1,gd (sub (copyLg (sub (x3.rows.getD x5.int.toNat []) 6 4)) 0 4) 2,gd (sub (copyLg (sub (x3.rows.getD x5.int.toNat []) 6 4)) 0 4) 3]])&&true) (nx [x0,x1,.l (x2.rows ++ [[gd (x3.rows.getD x5.int.toNat []) 0,gd (x3.rows.getD x5.int.toNat []) 1,gd (x3.rows.getD x5.int.toNat []) 2,gd (x3.rows.getD x5.int.toNat []) 3,gd (x3.rows.getD x5.int.toNat []) 4,gd (x3.rows.getD x5.int.toNat []) 5,gd (sub (copyLg (sub (x3.rows.getD x5.int.toNat []) 6 4)) 0 4) 0,gd (sub (copyLg (sub (x3.rows.getD x5.int.toNat []) 6 4)) 0 4) 1,gd (sub (copyLg (sub (x3.rows.getD x5.int.toNat []) 6 4)) 0 4) 2,gd (sub (copyLg (sub (x3.rows.getD x5.int.toNat []) 6 4)) 0 4) 3]]),x3,x4,.i (w64 (x5.int+1))])))
 else ex 0 [x0,x1,x2,x3,x4,x5]:=by kernel_rfl
theorem i_copyVotes_ev (N:Nat) (p:List D):evFn Tryz.prog i_copyVotesT N i_copyVotesK Tryz.f127 (.one (.c (.own (0,1000000) true 132))) [⟨sd (.sl 132),p⟩]=some (bo,
 (let o0:=iter (i_copyVotesL0 N p) N [gd p 0,.l [],.l [],gd p 0,.i ((gd p 0).rows.length:Int),.i 0]
  nd o0.isSome (nd (o0.code==2) (some (1,[gd o0.pay 2]))))):=by kernel_rfl
def cpV (r:List D):List D:= [gd r 0,gd r 1,gd r 2,gd r 3,gd r 4,gd r 5,gd r 6,.l (gd r 7).rows,.l (gd r 8).rows,.l (gd r 9).rows]
def vsm (r:List D):Bool:=leI ((gd r 7).rows.length:Int) 1000000&&(leI ((gd r 8).rows.length:Int) 1000000&&leI ((gd r 9).rows.length:Int) 1000000)
def vsmS (z:D):Bool:=leI (z.rows.length:Int) 1000000&&z.rows.all vsm
def cpVs (z:D):List (List D):=z.rows.map cpV
theorem cpVs_succ {z:D} {k:Nat} (h:k<z.rows.length):(z.rows.take (k+1)).map cpV=(z.rows.take k).map cpV ++ [cpV (z.rows.getD k [])]:=by
 rw [List.take_succ_eq_append_getElem h,List.map_append,List.getD_eq_getElem?_getD,List.getElem?_eq_getElem h]
 rfl
theorem vsm_at {z:D} (h:vsmS z=true) {k:Nat} (hk:k<z.rows.length):vsm (z.rows.getD k [])=true:=by
 simp only [vsmS,Bool.and_eq_true,List.all_eq_true] at h
 refine h.2 _ ?_
 rw [List.getD_eq_getElem?_getD,List.getElem?_eq_getElem hk]
 exact List.getElem_mem hk
def i_copyVotesE:Ent:=(127,e1 (sd (.sl 132)) fun p=>(⟨.one (.c (.own (0,1000000) true 132)),[.l (cpVs (gd p 0))]⟩,vsmS (gd p 0)))
theorem i_copyVotes_ok:EntOk Tryz.prog i_copyVotesE:=e1_ok fun p h=>evFn_sound (N:=(gd p 0).rows.length+1) (ks:=i_copyVotesK) (key:=bo) i_copyVotesT_ok (enters Tryz.func127) Tryz.func127 fun hw=>by
 rw [i_copyVotes_ev]
 have h:vsmS (gd p 0)=true:=h
 have hl:(gd p 0).rows.length≤1000000:=by
  simp only [vsmS,Bool.and_eq_true,leI,decide_eq_true_eq] at h
  omega
 have e:=run_loop (L:=i_copyVotesL0 ((gd p 0).rows.length+1) p) (fun k => [gd p 0,.l [],.l (((gd p 0).rows.take k).map cpV),gd p 0,.i ((gd p 0).rows.length:Int),.i (k:Int)]) (gd p 0).rows.length 0 (fun k hk=>?_) ?_ (N:=(gd p 0).rows.length+1) (by omega)
 ·simp only [Int.natCast_zero,List.take_zero,List.map_nil,List.take_length] at e
  rw [e]
  rfl
 ·show i_copyVotesL0 _ p [_,_,_,_,_,.i (k:Int)]=_
  rw [i_copyVotesR0,cpVs_succ hk]
  have hv:=vsm_at h hk
  unfold vsm at hv
  have ho:∀ x,lenOk (((gd p 0).rows.take k).map cpV ++ [x])=true:=fun x=>lenOk_t (by simp; omega)
  simp only [int_i,rows_l,c_lt hk,nd_ix hk,Int.toNat_natCast,hv,ho,w64_succ hk (show (gd p 0).rows.length≤9223372036854775807 by omega),Bool.and_self,nd_true]
  rfl
 ·show i_copyVotesL0 _ p [_,_,_,_,.i ((gd p 0).rows.length:Int),.i ((gd p 0).rows.length:Int)]=_
  rw [i_copyVotesR0]
  simp only [int_i,c_nlt]
abbrev i_copyReplicaT:FuncId→List T→Option (T × Bool):=find [i_copyLogE,i_copyVotesE,apartE]
theorem i_copyReplicaT_ok:CallOk Tryz.prog i_copyReplicaT:=find_ok (fC ⟨i_copyLog_ok,fC ⟨i_copyVotes_ok,fC ⟨apart_ok,fN⟩⟩⟩)
abbrev i_copyReplicaK:List Nat:= [0,1,2]
theorem i_copyReplica_ev (N:Nat) (p:List D):evFn Tryz.prog i_copyReplicaT N i_copyReplicaK Tryz.f81 (.one (.agg [.d si,.d si,.d si,.d si,.d si,.d si,.d si,.own (0,7) true 148,.own (0,8) true 69,.own (0,9) true 78,.own (0,1000010) true 132,.d si,.d si])) [⟨ag rIReplica,p⟩]=some (bo,
 nd (leI ((gd p 7).rows.length:Int) 1000000&&(leI ((gd p 8).rows.length:Int) 1000000&&leI ((gd p 9).rows.length:Int) 1000000)) (nd (vsmS (gd p 10)) (some (1,[gd p 0,gd p 1,gd p 2,gd p 3,gd p 4,gd p 5,gd (sub (copyLg (sub p 6 4)) 0 4) 0,gd (sub (copyLg (sub p 6 4)) 0 4) 1,gd (sub (copyLg (sub p 6 4)) 0 4) 2,gd (sub (copyLg (sub p 6 4)) 0 4) 3,.l (cpVs (gd p 10)),gd p 11,gd p 12])))):=by kernel_rfl
def copyRp (p:List D):List D:= [gd p 0,gd p 1,gd p 2,gd p 3,gd p 4,gd p 5,gd p 6,.l (gd p 7).rows,.l (gd p 8).rows,.l (gd p 9).rows,.l (cpVs (gd p 10)),gd p 11,gd p 12]
def i_copyReplicaE:Ent:=(81,e1 (ag rIReplica) fun p=>(⟨.one (.agg [.d si,.d si,.d si,.d si,.d si,.d si,.d si,.own (0,7) true 148,.own (0,8) true 69,.own (0,9) true 78,.own (0,1000010) true 132,.d si,.d si]),sub (copyRp p) 0 13⟩,leI ((gd p 7).rows.length:Int) 1000000&&(leI ((gd p 8).rows.length:Int) 1000000&&leI ((gd p 9).rows.length:Int) 1000000)&&vsmS (gd p 10)))
theorem i_copyReplica_ok:EntOk Tryz.prog i_copyReplicaE:=e1_ok fun p h=>evFn_sound (N:=0) (ks:=i_copyReplicaK) (key:=bo) i_copyReplicaT_ok (enters Tryz.func81) Tryz.func81 fun hw=>by
 rw [i_copyReplica_ev]
 have h:(leI ((gd p 7).rows.length:Int) 1000000&&(leI ((gd p 8).rows.length:Int) 1000000&&leI ((gd p 9).rows.length:Int) 1000000)&&vsmS (gd p 10))=true:=h
 rw [Bool.and_eq_true] at h
 rw [h.1,h.2]
 rfl
abbrev s_l6CopyT:FuncId→List T→Option (T × Bool):=find [s_l3CopyE]
theorem s_l6CopyT_ok:CallOk Tryz.prog s_l6CopyT:=find_ok (fC ⟨s_l3Copy_ok,fN⟩)
abbrev s_l6CopyK:List Nat:= [0,1,2,3,4,5,17]
noncomputable def s_l6CopyL0 (N:Nat) (p:List D):List D→Out:=loopOf Tryz.prog s_l6CopyT N s_l6CopyK Tryz.f65 (.one (.agg [.d si,.d si,.d si,.d si,.d si,.d si,.d si,.d (.sl 148),.d (.sl 69),.d (.sl 78),.d (.sl 132),.d si,.d si])) [⟨ag rIReplica,p⟩] 0
def s_l6Copyc0 (x16 x27:D):List D:=sub (copyLg (sub (x27.rows.getD x16.int.toNat []) 6 4)) 0 4
theorem s_l6CopyR0 (N:Nat) (p:List D) (x0 x1 x2 x3 x4 x5 x6 x7 x8 x9 x10 x11 x12 x13 x14 x15 x16 x17 x18 x19 x20 x21 x22 x23 x24 x25 x26 x27 x28 x29 x30 x31 x32 x33 x34 x35 x36 x37 x38 x39 x40 x41 x42 x43 x44 x45 x46 x47 x48 x49 x50 x51 x52 x53 x54 x55:D):(s_l6CopyL0 N p) [x0,x1,x2,x3,x4,x5,x6,x7,x8,x9,x10,x11,x12,x13,x14,x15,x16,x17,x18,x19,x20,x21,x22,x23,x24,x25,x26,x27,x28,x29,x30,x31,x32,x33,x34,x35,x36,x37,x38,x39,x40,x41,x42,x43,x44,x45,x46,x47,x48,x49,x50,x51,x52,x53,x54,x55] =
 bif ltI x16.int (x27.rows.length:Int) then nd (inRange x16.int x27.rows.length) (nd (leI ((gd (x27.rows.getD x16.int.toNat []) 7).rows.length:Int) 1000000&&(leI ((gd (x27.rows.getD x16.int.toNat []) 8).rows.length:Int) 1000000&&leI ((gd (x27.rows.getD x16.int.toNat []) 9).rows.length:Int) 1000000)) (nd (lenOk (x53.rows ++ [[gd (x27.rows.getD x16.int.toNat []) 0,gd (x27.rows.getD x16.int.toNat []) 1,gd (x27.rows.getD x16.int.toNat []) 2,gd (x27.rows.getD x16.int.toNat []) 3,gd (x27.rows.getD x16.int.toNat []) 4,gd (x27.rows.getD x16.int.toNat []) 5,gd (s_l6Copyc0 x16 x27) 0,gd (s_l6Copyc0 x16 x27) 1,gd (s_l6Copyc0 x16 x27) 2,gd (s_l6Copyc0 x16 x27) 3]])&&true) (nx [x0,x1,x2,x3,x4,x5,x6,x7,x8,x9,x10,x11,x12,x13,x14,x15,.i (w64 (x16.int+1)),x17,x18,x19,x20,x21,x22,x23,x24,x25,x26,x27,x28,x29,x30,x31,x32,x33,x34,x35,x36,x37,x38,x39,x40,x41,x42,x43,x44,x45,x46,x47,x48,x49,x50,x51,x52,.l (x53.rows ++ [[gd (x27.rows.getD x16.int.toNat []) 0,gd (x27.rows.getD x16.int.toNat []) 1,gd (x27.rows.getD x16.int.toNat []) 2,gd (x27.rows.getD x16.int.toNat []) 3,gd (x27.rows.getD x16.int.toNat []) 4,gd (x27.rows.getD x16.int.toNat []) 5,gd (s_l6Copyc0 x16 x27) 0,gd (s_l6Copyc0 x16 x27) 1,gd (s_l6Copyc0 x16 x27) 2,gd (s_l6Copyc0 x16 x27) 3]]),x54,x55])))
 else ex 0 [x0,x1,x2,x3,x4,x5,x6,x7,x8,x9,x10,x11,x12,x13,x14,x15,x16,x17,x18,x19,x20,x21,x22,x23,x24,x25,x26,x27,x28,x29,x30,x31,x32,x33,x34,x35,x36,x37,x38,x39,x40,x41,x42,x43,x44,x45,x46,x47,x48,x49,x50,x51,x52,x53,x54,x55]:=by kernel_rfl
theorem s_l6Copy_ev (N:Nat) (p:List D):evFn Tryz.prog s_l6CopyT N s_l6CopyK Tryz.f65 (.one (.agg [.d si,.d si,.d si,.d si,.d si,.d si,.d si,.d (.sl 148),.d (.sl 69),.d (.sl 78),.d (.sl 132),.d si,.d si])) [⟨ag rIReplica,p⟩]=some (bo,
 nd (leI ((gd p 7).rows.length:Int) 1000000&&(leI ((gd p 8).rows.length:Int) 1000000&&leI ((gd p 9).rows.length:Int) 1000000)) ((let o0:=iter (s_l6CopyL0 N p) N [gd p 0,gd p 1,gd p 2,gd p 3,gd p 4,gd p 5,gd p 6,gd p 7,gd p 8,gd p 9,gd p 10,gd p 11,gd p 12,.i 0,.i 0,.i 0,.i 0,gd p 0,gd p 1,gd p 2,gd p 3,gd p 4,gd p 5,gd p 6,gd p 7,gd p 8,gd p 9,gd p 10,gd p 11,gd p 12,.i 0,.i 0,.i 0,.i 0,.i 0,.i 0,.i 0,.l [],.l [],.l [],.l [],.i 0,.i 0,gd p 0,gd p 1,gd p 2,gd p 3,gd p 4,gd p 5,gd (sub (copyLg (sub p 6 4)) 0 4) 0,gd (sub (copyLg (sub p 6 4)) 0 4) 1,gd (sub (copyLg (sub p 6 4)) 0 4) 2,gd (sub (copyLg (sub p 6 4)) 0 4) 3,.l [],gd p 11,gd p 12]
  nd o0.isSome (nd (o0.code==2) (some (1,sub o0.pay 43 13)))))):=by kernel_rfl
def s_l6CopyE:Ent:=(65,e1 (ag rIReplica) fun p=>(⟨.one (.agg [.d si,.d si,.d si,.d si,.d si,.d si,.d si,.d (.sl 148),.d (.sl 69),.d (.sl 78),.d (.sl 132),.d si,.d si]),sub (copyRp p) 0 13⟩,leI ((gd p 7).rows.length:Int) 1000000&&(leI ((gd p 8).rows.length:Int) 1000000&&leI ((gd p 9).rows.length:Int) 1000000)&&vsmS (gd p 10)))
theorem s_l6Copy_ok:EntOk Tryz.prog s_l6CopyE:=e1_ok fun p h=>evFn_sound (N:=(gd p 10).rows.length+1) (ks:=s_l6CopyK) (key:=bo) s_l6CopyT_ok (enters Tryz.func65) Tryz.func65 fun hw=>by
 rw [s_l6Copy_ev]
 have h:(leI ((gd p 7).rows.length:Int) 1000000&&(leI ((gd p 8).rows.length:Int) 1000000&&leI ((gd p 9).rows.length:Int) 1000000)&&vsmS (gd p 10))=true:=h
 rw [Bool.and_eq_true] at h
 obtain ⟨h1,h2⟩:=h
 have hl:(gd p 10).rows.length≤1000000:=by
  simp only [vsmS,Bool.and_eq_true,leI,decide_eq_true_eq] at h2
  omega
 rw [h1]
 have e:=run_loop (L:=s_l6CopyL0 ((gd p 10).rows.length+1) p) (fun k => [gd p 0,gd p 1,gd p 2,gd p 3,gd p 4,gd p 5,gd p 6,gd p 7,gd p 8,gd p 9,gd p 10,gd p 11,gd p 12,.i 0,.i 0,.i 0,.i (k:Int),gd p 0,gd p 1,gd p 2,gd p 3,gd p 4,gd p 5,gd p 6,gd p 7,gd p 8,gd p 9,gd p 10,gd p 11,gd p 12,.i 0,.i 0,.i 0,.i 0,.i 0,.i 0,.i 0,.l [],.l [],.l [],.l [],.i 0,.i 0,gd p 0,gd p 1,gd p 2,gd p 3,gd p 4,gd p 5,gd p 6,.l (gd p 7).rows,.l (gd p 8).rows,.l (gd p 9).rows,.l (((gd p 10).rows.take k).map cpV),gd p 11,gd p 12]) (gd p 10).rows.length 0 (fun k hk=>?_) ?_ (N:=(gd p 10).rows.length+1) (by omega)
 ·simp only [Int.natCast_zero,List.take_zero,List.map_nil,List.take_length] at e
  simp only [sub,copyLg,Nat.reduceAdd,gd_cons_zero,gd_cons_succ,nd_true]
  rw [e]
  rfl
 ·show s_l6CopyL0 _ p [_,_,_,_,_,_,_,_,_,_,_,_,_,_,_,_,.i (k:Int),_,_,_,_,_,_,_,_,_,_,_,_,_,_,_,_,_,_,_,_,_,_,_,_,_,_,_,_,_,_,_,_,_,_,_,_,_,_,_]=_
  rw [s_l6CopyR0,cpVs_succ hk]
  have hv:=vsm_at h2 hk
  unfold vsm at hv
  have ho:∀ x,lenOk (((gd p 10).rows.take k).map cpV ++ [x])=true:=fun x=>lenOk_t (by simp; omega)
  simp only [s_l6Copyc0,int_i,rows_l,c_lt hk,nd_ix hk,Int.toNat_natCast,hv,ho,w64_succ hk (show (gd p 10).rows.length≤9223372036854775807 by omega),Bool.and_self,nd_true]
  rfl
 ·show s_l6CopyL0 _ p [_,_,_,_,_,_,_,_,_,_,_,_,_,_,_,_,.i ((gd p 10).rows.length:Int),_,_,_,_,_,_,_,_,_,_,_,_,_,_,_,_,_,_,_,_,_,_,_,_,_,_,_,_,_,_,_,_,_,_,_,_,_,_,_]=_
  rw [s_l6CopyR0]
  simp only [int_i,c_nlt]
abbrev s_l6SameT:FuncId→List T→Option (T × Bool):=find [s_ReplicaOkE,s_l6CopyE]
theorem s_l6SameT_ok:CallOk Tryz.prog s_l6SameT:=find_ok (fC ⟨s_ReplicaOk_ok,fC ⟨s_l6Copy_ok,fN⟩⟩)
abbrev s_l6SameK:List Nat:= [0,1,2,5]
theorem s_l6Same_ev (N:Nat) (p:List D):evFn Tryz.prog s_l6SameT N s_l6SameK Tryz.f20 (.one (.agg [.d si,.d si,.d si,.d si,.d si,.d si,.d si,.d (.sl 148),.d (.sl 69),.d (.sl 78),.d (.sl 132),.d si,.d si])) [⟨ag rIReplica,p⟩]=some (bo,
 bif !(repOk (sub p 0 13)) then some (1,[.i 0,.i 0,.i 0,.i 0,.i 0,.i 0,.i 0,.l [],.l [],.l [],.l [],.i 0,.i 0])
 else nd (leI ((gd p 7).rows.length:Int) 1000000&&(leI ((gd p 8).rows.length:Int) 1000000&&leI ((gd p 9).rows.length:Int) 1000000)&&vsmS (gd p 10)) (some (1,sub (copyRp (sub p 0 13)) 0 13))):=by kernel_rfl
theorem rep_small {p:List D} (h:repOk p=true):(leI ((gd p 7).rows.length:Int) 1000000&&(leI ((gd p 8).rows.length:Int) 1000000&&leI ((gd p 9).rows.length:Int) 1000000)&&vsmS (gd p 10))=true:=by
 simp only [repOk,Bool.and_eq_true] at h
 obtain ⟨_,_,_,_,_,_,hn,hl,hv,_⟩:=h
 obtain ⟨hlo,_⟩:=has_d hn
 have hd:=log_d hlo
 have him:=log_im hd
 have hel:=hd.len
 have h7:(gd p 7).rows.length≤40:=him.1
 have h8:(gd p 8).rows.length≤10:=him.2
 have h9:(gd p 9).rows.length≤60:=hel
 simp only [leI,decide_eq_true_eq] at hl
 simp only [votesOk,List.all_eq_true,List.mem_range] at hv
 rw [leI_t (show ((gd p 7).rows.length:Int)≤1000000 by omega),leI_t (show ((gd p 8).rows.length:Int)≤1000000 by omega),leI_t (show ((gd p 9).rows.length:Int)≤1000000 by omega)]
 show vsmS (gd p 10)=true
 unfold vsmS
 rw [leI_t (show ((gd p 10).rows.length:Int)≤1000000 by omega),Bool.true_and,List.all_eq_true]
 intro r hr
 obtain ⟨k,hk,rfl⟩:=List.getElem_of_mem hr
 have h0:=hv k hk
 rw [List.getD_eq_getElem?_getD,List.getElem?_eq_getElem hk] at h0
 generalize (gd p 10).rows[k]=r at *
 have h0:voteOk (sub r 0 10) (gd p 1).int=true:=h0
 simp only [voteOk,voteRest,Bool.and_eq_true] at h0
 obtain ⟨hlo2,_⟩:=has_d h0.2.2.2.2.2
 have hd2:=log_d hlo2
 have him2:=log_im hd2
 have hel2:=hd2.len
 have g7:(gd r 7).rows.length≤40:=him2.1
 have g8:(gd r 8).rows.length≤10:=him2.2
 have g9:(gd r 9).rows.length≤60:=hel2
 unfold vsm
 rw [leI_t (show ((gd r 7).rows.length:Int)≤1000000 by omega),leI_t (show ((gd r 8).rows.length:Int)≤1000000 by omega),leI_t (show ((gd r 9).rows.length:Int)≤1000000 by omega)]
 rfl
def sameR (p:List D):List D:=bif repOk p then copyRp p else [.i 0,.i 0,.i 0,.i 0,.i 0,.i 0,.i 0,.l [],.l [],.l [],.l [],.i 0,.i 0]
def s_l6SameE:Ent:=(20,e1 (ag rIReplica) fun p=>(⟨.one (.agg [.d si,.d si,.d si,.d si,.d si,.d si,.d si,.d (.sl 148),.d (.sl 69),.d (.sl 78),.d (.sl 132),.d si,.d si]),sub (sameR p) 0 13⟩,true))
theorem s_l6Same_ok:EntOk Tryz.prog s_l6SameE:=e1_ok fun p h=>evFn_sound (N:=0) (ks:=s_l6SameK) (key:=bo) s_l6SameT_ok (enters Tryz.func20) Tryz.func20 fun hw=>by
 rw [s_l6Same_ev]
 rw [show repOk (sub p 0 13)=repOk p from rfl]
 unfold sameR
 cases hr:repOk p with
 | false=>rfl
 | true =>
 have hs:=rep_small hr
 simp only [hs,nd_true]
 rfl
end Go.Proofs.YthbbbhpjkgpdcaaGreat
namespace Go.Proofs.YthbbbhpjkgpdcaaGreat
set_option maxRecDepth 4096
set_option maxHeartbeats 1000000
abbrev i_isPrimaryT:FuncId→List T→Option (T × Bool):=find []
theorem i_isPrimaryT_ok:CallOk Tryz.prog i_isPrimaryT:=find_ok (fN)
abbrev i_isPrimaryK:List Nat:= [0,2]
theorem i_isPrimary_ev (N:Nat) (p:List D):evFnP Tryz.prog i_isPrimaryT N i_isPrimaryK Tryz.f36 (.tup [.agg [.any],.agg [.d si,.d si,.d si,.d si,.d si,.d si,.d si,.own (0,7) true 148,.own (0,8) true 69,.own (0,9) true 78,.own (0,1000010) true 132,.d si,.d si,.own (0,1000013) true 74],.c (.d .bool)]) [⟨.tup [.agg [.d si,.d si,.d si,.d si,.d si,.d si,.d si,.own (1000000,7) true 148,.own (1000000,8) true 69,.own (1000000,9) true 78,.own (1000000,1000010) true 132,.d si,.d si,.own (1000000,1000013) true 74]],p⟩]=some (bo,
 nd ((gd p 1).int != 0) (some (1,[.i 0,gd p 0,gd p 1,gd p 2,gd p 3,gd p 4,gd p 5,gd p 6,gd p 7,gd p 8,gd p 9,gd p 10,gd p 11,gd p 12,gd p 13,.b ((gd p 0).int==((gd p 3).int.tmod (gd p 1).int))]))):=by kernel_rfl
def isPrimP (p:List D):List D:= [.i 0,gd p 0,gd p 1,gd p 2,gd p 3,gd p 4,gd p 5,gd p 6,gd p 7,gd p 8,gd p 9,gd p 10,gd p 11,gd p 12,gd p 13,.b ((gd p 0).int==((gd p 3).int.tmod (gd p 1).int))]
def i_isPrimaryE:Ent:=(36,e1 (.tup [.agg [.d si,.d si,.d si,.d si,.d si,.d si,.d si,.own (1000000,7) true 148,.own (1000000,8) true 69,.own (1000000,9) true 78,.own (1000000,1000010) true 132,.d si,.d si,.own (1000000,1000013) true 74]]) fun p=>(⟨.tup [.agg [.any],.agg [.d si,.d si,.d si,.d si,.d si,.d si,.d si,.own (0,7) true 148,.own (0,8) true 69,.own (0,9) true 78,.own (0,1000010) true 132,.d si,.d si,.own (0,1000013) true 74],.c (.d .bool)],sub (isPrimP p) 0 16⟩,(gd p 1).int != 0))
theorem i_isPrimary_ok:EntOk Tryz.prog i_isPrimaryE:=e1_ok fun p h=>evFnP_sound (N:=0) (ks:=i_isPrimaryK) (key:=bo) i_isPrimaryT_ok (enters Tryz.func36) Tryz.func36 fun hw hw'=>by
 rw [i_isPrimary_ev]
 have h:((gd p 1).int != 0)=true:=h
 rw [h]
 rfl
def i_senddE:Ent:=deepE [18]
theorem i_sendd_ok:EntOk Tryz.prog i_senddE:=deepE_ok _
abbrev i_sendT:FuncId→List T→Option (T × Bool):=find [i_copyLogE,apartE,i_senddE]
theorem i_sendT_ok:CallOk Tryz.prog i_sendT:=find_ok (fC ⟨i_copyLog_ok,fC ⟨apart_ok,fC ⟨i_sendd_ok,fN⟩⟩⟩)
abbrev i_sendK:List Nat:= [0,1,2,5]
def i_send_evq0 (N:Nat) (p q r:List D):List (List D):= [[.i 0],[.i 0],[.l ((gd p 13).rows ++ [[gd q 0,gd r 0,gd r 1,gd r 2,gd r 3,gd r 4,gd r 5,gd r 6,gd r 7,gd r 8,gd r 9,gd r 10,gd r 11,gd r 12,gd (sub (copyLg (sub r 13 4)) 0 4) 0,gd (sub (copyLg (sub r 13 4)) 0 4) 1,gd (sub (copyLg (sub r 13 4)) 0 4) 2,gd (sub (copyLg (sub r 13 4)) 0 4) 3]])],[.l [[gd q 0,gd r 0,gd r 1,gd r 2,gd r 3,gd r 4,gd r 5,gd r 6,gd r 7,gd r 8,gd r 9,gd r 10,gd r 11,gd r 12,gd (sub (copyLg (sub r 13 4)) 0 4) 0,gd (sub (copyLg (sub r 13 4)) 0 4) 1,gd (sub (copyLg (sub r 13 4)) 0 4) 2,gd (sub (copyLg (sub r 13 4)) 0 4) 3]]],[gd q 0,gd r 0,gd r 1,gd r 2,gd r 3,gd r 4,gd r 5,gd r 6,gd r 7,gd r 8,gd r 9,gd r 10,gd r 11,gd r 12,gd (sub (copyLg (sub r 13 4)) 0 4) 0,gd (sub (copyLg (sub r 13 4)) 0 4) 1,gd (sub (copyLg (sub r 13 4)) 0 4) 2,gd (sub (copyLg (sub r 13 4)) 0 4) 3],[.i 0],[gd r 0,gd r 1,gd r 2,gd r 3,gd r 4,gd r 5,gd r 6,gd r 7,gd r 8,gd r 9,gd r 10,gd r 11,gd r 12,gd (sub (copyLg (sub r 13 4)) 0 4) 0,gd (sub (copyLg (sub r 13 4)) 0 4) 1,gd (sub (copyLg (sub r 13 4)) 0 4) 2,gd (sub (copyLg (sub r 13 4)) 0 4) 3],q,[gd p 13],[.i 0],[.i 0],[.i 0],[.i 0],q,r,[.i 0],[gd p 0,gd p 1,gd p 2,gd p 3,gd p 4,gd p 5,gd p 6,gd p 7,gd p 8,gd p 9,gd p 10,gd p 11,gd p 12,.l ((gd p 13).rows ++ [[gd q 0,gd r 0,gd r 1,gd r 2,gd r 3,gd r 4,gd r 5,gd r 6,gd r 7,gd r 8,gd r 9,gd r 10,gd r 11,gd r 12,gd (sub (copyLg (sub r 13 4)) 0 4) 0,gd (sub (copyLg (sub r 13 4)) 0 4) 1,gd (sub (copyLg (sub r 13 4)) 0 4) 2,gd (sub (copyLg (sub r 13 4)) 0 4) 3]])],[gd r 0,gd r 1,gd r 2,gd r 3,gd r 4,gd r 5,gd r 6,gd r 7,gd r 8,gd r 9,gd r 10,gd r 11,gd r 12,gd (sub (copyLg (sub r 13 4)) 0 4) 0,gd (sub (copyLg (sub r 13 4)) 0 4) 1,gd (sub (copyLg (sub r 13 4)) 0 4) 2,gd (sub (copyLg (sub r 13 4)) 0 4) 3]]
theorem i_send_ev (N:Nat) (p q r:List D):evFnP Tryz.prog i_sendT N i_sendK Tryz.f39 (.tup [.agg [.any],.agg [.d si,.d si,.d si,.d si,.d si,.d si,.d si,.own (0,7) true 148,.own (0,8) true 69,.own (0,9) true 78,.own (0,1000010) true 132,.d si,.d si,.own (0,1000013) true 74]]) [⟨.tup [.agg [.d si,.d si,.d si,.d si,.d si,.d si,.d si,.own (1000000,7) true 148,.own (1000000,8) true 69,.own (1000000,9) true 78,.own (1000000,1000010) true 132,.d si,.d si,.own (1000000,1000013) true 74]],p⟩,⟨ri,q⟩,⟨ag rIMsg,r⟩]=some (bo,
 nd (leI ((gd r 14).rows.length:Int) 1000000&&(leI ((gd r 15).rows.length:Int) 1000000&&leI ((gd r 16).rows.length:Int) 1000000)) (nd ((lenOk ((gd p 13).rows ++ [[gd q 0,gd r 0,gd r 1,gd r 2,gd r 3,gd r 4,gd r 5,gd r 6,gd r 7,gd r 8,gd r 9,gd r 10,gd r 11,gd r 12,gd (sub (copyLg (sub r 13 4)) 0 4) 0,gd (sub (copyLg (sub r 13 4)) 0 4) 1,gd (sub (copyLg (sub r 13 4)) 0 4) 2,gd (sub (copyLg (sub r 13 4)) 0 4) 3]])&&true)&&true) (ndN 3 (((lenOk ((gd p 13).rows ++ [[gd q 0,gd r 0,gd r 1,gd r 2,gd r 3,gd r 4,gd r 5,gd r 6,gd r 7,gd r 8,gd r 9,gd r 10,gd r 11,gd r 12,gd (sub (copyLg (sub r 13 4)) 0 4) 0,gd (sub (copyLg (sub r 13 4)) 0 4) 1,gd (sub (copyLg (sub r 13 4)) 0 4) 2,gd (sub (copyLg (sub r 13 4)) 0 4) 3]])&&true)&&true)&&(sameP (i_send_evq0 N p q r) (i_send_evq0 N p q r))) (some (1,[.i 0,gd p 0,gd p 1,gd p 2,gd p 3,gd p 4,gd p 5,gd p 6,gd p 7,gd p 8,gd p 9,gd p 10,gd p 11,gd p 12,.l ((gd p 13).rows ++ [[gd q 0,gd r 0,gd r 1,gd r 2,gd r 3,gd r 4,gd r 5,gd r 6,gd r 7,gd r 8,gd r 9,gd r 10,gd r 11,gd r 12,gd (sub (copyLg (sub r 13 4)) 0 4) 0,gd (sub (copyLg (sub r 13 4)) 0 4) 1,gd (sub (copyLg (sub r 13 4)) 0 4) 2,gd (sub (copyLg (sub r 13 4)) 0 4) 3]])]))))):=by kernel_rfl
def outRow (t:D) (m:List D):List D:= [t,gd m 0,gd m 1,gd m 2,gd m 3,gd m 4,gd m 5,gd m 6,gd m 7,gd m 8,gd m 9,gd m 10,gd m 11,gd m 12,gd m 13,.l (gd m 14).rows,.l (gd m 15).rows,.l (gd m 16).rows]
def msgSm (m:List D):Bool:=leI ((gd m 14).rows.length:Int) 1000000&&(leI ((gd m 15).rows.length:Int) 1000000&&leI ((gd m 16).rows.length:Int) 1000000)
def sendP (p:List D) (t:D) (m:List D):List D:= [.i 0,gd p 0,gd p 1,gd p 2,gd p 3,gd p 4,gd p 5,gd p 6,gd p 7,gd p 8,gd p 9,gd p 10,gd p 11,gd p 12,.l ((gd p 13).rows ++ [outRow t m])]
def i_sendE:Ent:=(39,e3 (.tup [.agg [.d si,.d si,.d si,.d si,.d si,.d si,.d si,.own (1000000,7) true 148,.own (1000000,8) true 69,.own (1000000,9) true 78,.own (1000000,1000010) true 132,.d si,.d si,.own (1000000,1000013) true 74]]) ri (ag rIMsg) fun p q r=>(⟨.tup [.agg [.any],.agg [.d si,.d si,.d si,.d si,.d si,.d si,.d si,.own (0,7) true 148,.own (0,8) true 69,.own (0,9) true 78,.own (0,1000010) true 132,.d si,.d si,.own (0,1000013) true 74]],sub (sendP p (gd q 0) r) 0 15⟩,msgSm r&&leI ((gd p 13).rows.length:Int) 1000000))
theorem i_send_ok:EntOk Tryz.prog i_sendE:=e3_ok fun p q r h=>evFnP_sound (N:=0) (ks:=i_sendK) (key:=bo) i_sendT_ok (enters Tryz.func39) Tryz.func39 fun hw hw'=>by
 rw [i_send_ev]
 have h:(msgSm r&&leI ((gd p 13).rows.length:Int) 1000000)=true:=h
 rw [Bool.and_eq_true] at h
 obtain ⟨h1,h2⟩:=h
 unfold msgSm at h1
 simp only [leI,decide_eq_true_eq] at h2
 have ho:∀ x,lenOk ((gd p 13).rows ++ [x])=true:=fun x=>lenOk_t (by simp; omega)
 rw [h1]
 simp only [ho,sameP_self,ndN_true,Bool.and_self,nd_true]
 rfl
abbrev i_prepareT:FuncId→List T→Option (T × Bool):=find []
theorem i_prepareT_ok:CallOk Tryz.prog i_prepareT:=find_ok (fN)
abbrev i_prepareK:List Nat:= [0,1,2,5,6]
theorem i_prepare_ev (N:Nat) (p q r:List D):evFnP Tryz.prog i_prepareT N i_prepareK Tryz.f44 (.tup [.agg [.any],.agg [.d si,.d si,.d si,.d si,.d si,.d si,.d si,.own (0,7) true 148,.own (0,8) true 69,.own (0,9) true 78,.own (0,1000010) true 132,.d si,.d si,.own (0,1000013) true 74],.agg [.d si,.d si,.d si,.d si,.d si,.d si,.d si,.d si,.d si,.d si,.d si,.d si,.d si,.d si,.d (.sl 148),.d (.sl 69),.d (.sl 78)]]) [⟨.tup [.agg [.d si,.d si,.d si,.d si,.d si,.d si,.d si,.own (1000000,7) true 148,.own (1000000,8) true 69,.own (1000000,9) true 78,.own (1000000,1000010) true 132,.d si,.d si,.own (1000000,1000013) true 74]],p⟩,⟨ri,q⟩,⟨ag rIEntry,r⟩]=some (bo,
 some (1,[.i 0,gd p 0,gd p 1,gd p 2,gd p 3,gd p 4,gd p 5,gd p 6,gd p 7,gd p 8,gd p 9,gd p 10,gd p 11,gd p 12,gd p 13,.i 2,gd p 0,gd p 3,gd q 0,gd p 5,.i 0,.i 0,gd r 0,gd r 1,.i 0,gd r 2,gd r 3,gd r 4,.i 0,.l [],.l [],.l []])):=by kernel_rfl
def prepM (p:List D) (n:D) (e:List D):List D:= [.i 2,gd p 0,gd p 3,n,gd p 5,.i 0,.i 0,gd e 0,gd e 1,.i 0,gd e 2,gd e 3,gd e 4,.i 0,.l [],.l [],.l []]
def prepP (p:List D) (n:D) (e:List D):List D:= [.i 0,gd p 0,gd p 1,gd p 2,gd p 3,gd p 4,gd p 5,gd p 6,gd p 7,gd p 8,gd p 9,gd p 10,gd p 11,gd p 12,gd p 13]++prepM p n e
def i_prepareE:Ent:=(44,e3 (.tup [.agg [.d si,.d si,.d si,.d si,.d si,.d si,.d si,.own (1000000,7) true 148,.own (1000000,8) true 69,.own (1000000,9) true 78,.own (1000000,1000010) true 132,.d si,.d si,.own (1000000,1000013) true 74]]) ri (ag rIEntry) fun p q r=>(⟨.tup [.agg [.any],.agg [.d si,.d si,.d si,.d si,.d si,.d si,.d si,.own (0,7) true 148,.own (0,8) true 69,.own (0,9) true 78,.own (0,1000010) true 132,.d si,.d si,.own (0,1000013) true 74],.agg [.d si,.d si,.d si,.d si,.d si,.d si,.d si,.d si,.d si,.d si,.d si,.d si,.d si,.d si,.d (.sl 148),.d (.sl 69),.d (.sl 78)]],sub (prepP p (gd q 0) r) 0 32⟩,true))
theorem i_prepare_ok:EntOk Tryz.prog i_prepareE:=e3_ok fun p q r h=>evFnP_sound (N:=0) (ks:=i_prepareK) (key:=bo) i_prepareT_ok (enters Tryz.func44) Tryz.func44 fun hw hw'=>by
 rw [i_prepare_ev]
 rfl
abbrev i_kputT:FuncId→List T→Option (T × Bool):=find [i_LogFoldE,i_LogPutE,apartE]
theorem i_kputT_ok:CallOk Tryz.prog i_kputT:=find_ok (fC ⟨i_LogFold_ok,fC ⟨i_LogPut_ok,fC ⟨apart_ok,fN⟩⟩⟩)
abbrev i_kputK:List Nat:= [0,1,3,4,5,6,7,16,33]
def i_kputc0 (p q:List D):List D:=logPut (sub (sub (logFold (sub p 6 4) (gd p 5)) 0 5) 0 4) (sub q 0 5)
def i_kput_evq0 (N:Nat) (p q:List D):List (List D):= [[gd (sub (logFold (sub p 6 4) (gd p 5)) 0 5) 4],sub (sub (logFold (sub p 6 4) (gd p 5)) 0 5) 0 4,sub (sub (logFold (sub p 6 4) (gd p 5)) 0 5) 0 5,sub (sub (logFold (sub p 6 4) (gd p 5)) 0 5) 0 5,[gd p 5],[.i 0],[.i 0],[.i 0],[.i 0],sub p 6 4,[.i 0],q,[.i 0],[.i 0],[.i 0],[.b (((gd p 9).rows.length:Int)==60)],sub p 0 14,sub q 0 5,sub (sub (logFold (sub p 6 4) (gd p 5)) 0 5) 0 4]
theorem i_kput_ev (N:Nat) (p q:List D):evFnP Tryz.prog i_kputT N i_kputK Tryz.f42 (.tup [.agg [.any],.agg [.d si,.d si,.d si,.d si,.d si,.d si,.d si,.own (0,7) true 148,.own (0,8) true 69,.own (0,9) true 78,.own (0,1000010) true 132,.d si,.d si,.own (0,1000013) true 74],.c (.d .bool)]) [⟨.tup [.agg [.d si,.d si,.d si,.d si,.d si,.d si,.d si,.own (1000000,7) true 148,.own (1000000,8) true 69,.own (1000000,9) true 78,.own (1000000,1000010) true 132,.d si,.d si,.own (1000000,1000013) true 74]],p⟩,⟨ag rIEntry,q⟩]=some (bo,
 bif ((gd p 9).rows.length:Int)==60 then nd (sameP (i_kput_evq0 N p q) (i_kput_evq0 N p q)) (bif (gd (sub (i_kputc0 p q) 0 5) 4).bool then some (1,[.i 0,gd p 0,gd p 1,gd p 2,gd p 3,gd p 4,gd p 5,gd (sub (i_kputc0 p q) 0 5) 0,gd (sub (i_kputc0 p q) 0 5) 1,gd (sub (i_kputc0 p q) 0 5) 2,gd (sub (i_kputc0 p q) 0 5) 3,gd p 10,gd p 11,gd p 12,gd p 13,gd (sub (i_kputc0 p q) 0 5) 4])
 else some (1,[.i 0,gd p 0,gd p 1,gd p 2,gd p 3,gd p 4,gd p 5,gd p 6,gd p 7,gd p 8,gd p 9,gd p 10,gd p 11,gd p 12,gd p 13,gd (sub (i_kputc0 p q) 0 5) 4]))
 else bif (gd (sub (logPut (sub p 6 4) (sub q 0 5)) 0 5) 4).bool then some (1,[.i 0,gd p 0,gd p 1,gd p 2,gd p 3,gd p 4,gd p 5,gd (sub (logPut (sub p 6 4) (sub q 0 5)) 0 5) 0,gd (sub (logPut (sub p 6 4) (sub q 0 5)) 0 5) 1,gd (sub (logPut (sub p 6 4) (sub q 0 5)) 0 5) 2,gd (sub (logPut (sub p 6 4) (sub q 0 5)) 0 5) 3,gd p 10,gd p 11,gd p 12,gd p 13,gd (sub (logPut (sub p 6 4) (sub q 0 5)) 0 5) 4])
 else some (1,[.i 0,gd p 0,gd p 1,gd p 2,gd p 3,gd p 4,gd p 5,gd p 6,gd p 7,gd p 8,gd p 9,gd p 10,gd p 11,gd p 12,gd p 13,gd (sub (logPut (sub p 6 4) (sub q 0 5)) 0 5) 4])):=by kernel_rfl
def putL (p e:List D):List D:=logPut (bif ((gd p 9).rows.length:Int)==60 then sub (logFold (sub p 6 4) (gd p 5)) 0 4 else sub p 6 4) (sub e 0 5)
def kputP (p e:List D):List D:=bif (gd (putL p e) 4).bool then [.i 0,gd p 0,gd p 1,gd p 2,gd p 3,gd p 4,gd p 5,gd (putL p e) 0,gd (putL p e) 1,gd (putL p e) 2,gd (putL p e) 3,gd p 10,gd p 11,gd p 12,gd p 13,gd (putL p e) 4] else [.i 0,gd p 0,gd p 1,gd p 2,gd p 3,gd p 4,gd p 5,gd p 6,gd p 7,gd p 8,gd p 9,gd p 10,gd p 11,gd p 12,gd p 13,gd (putL p e) 4]
def i_kputE:Ent:=(42,e2 (.tup [.agg [.d si,.d si,.d si,.d si,.d si,.d si,.d si,.own (1000000,7) true 148,.own (1000000,8) true 69,.own (1000000,9) true 78,.own (1000000,1000010) true 132,.d si,.d si,.own (1000000,1000013) true 74]]) (ag rIEntry) fun p q=>(⟨.tup [.agg [.any],.agg [.d si,.d si,.d si,.d si,.d si,.d si,.d si,.own (0,7) true 148,.own (0,8) true 69,.own (0,9) true 78,.own (0,1000010) true 132,.d si,.d si,.own (0,1000013) true 74],.c (.d .bool)],sub (kputP p q) 0 16⟩,true))
theorem i_kput_ok:EntOk Tryz.prog i_kputE:=e2_ok fun p q h=>evFnP_sound (N:=0) (ks:=i_kputK) (key:=bo) i_kputT_ok (enters Tryz.func42) Tryz.func42 fun hw hw'=>by
 rw [i_kput_ev]
 unfold kputP putL i_kputc0
 cases ((gd p 9).rows.length:Int)==60 with
 | true =>
  simp only [cond_true,sameP_self,nd_true]
  rw [show sub (sub (logFold (sub p 6 4) (gd p 5)) 0 5) 0 4=sub (logFold (sub p 6 4) (gd p 5)) 0 4 from rfl]
  generalize logPut (sub (logFold (sub p 6 4) (gd p 5)) 0 4) (sub q 0 5)=R
  rw [show gd (sub R 0 5) 4=gd R 4 from rfl]
  cases (gd R 4).bool <;> rfl
 | false =>
  simp only [cond_false]
  generalize logPut (sub p 6 4) (sub q 0 5)=R
  rw [show gd (sub R 0 5) 4=gd R 4 from rfl]
  cases (gd R 4).bool <;> rfl
abbrev i_sendAllT:FuncId→List T→Option (T × Bool):=find [i_sendE,apartE]
theorem i_sendAllT_ok:CallOk Tryz.prog i_sendAllT:=find_ok (fC ⟨i_send_ok,fC ⟨apart_ok,fN⟩⟩)
abbrev i_sendAllK:List Nat:= [0,1,3,4,9,10,11,19]
noncomputable def i_sendAllL0 (N:Nat) (p q:List D):List D→Out:=loopOfP Tryz.prog i_sendAllT N i_sendAllK Tryz.f43 (.tup [.agg [.any],.agg [.d si,.d si,.d si,.d si,.d si,.d si,.d si,.own (0,7) true 148,.own (0,8) true 69,.own (0,9) true 78,.own (0,1000010) true 132,.d si,.d si,.own (0,1000013) true 74]]) [⟨.tup [.agg [.d si,.d si,.d si,.d si,.d si,.d si,.d si,.own (1000000,7) true 148,.own (1000000,8) true 69,.own (1000000,9) true 78,.own (1000000,1000010) true 132,.d si,.d si,.own (1000000,1000013) true 74]],p⟩,⟨ag rIMsg,q⟩] 0
def i_sendAllc0 (x20 x21 x22 x23 x24 x25 x26 x27 x28 x29 x30 x31 x32 x33 x34 x35 x36 x37 x38 x39 x40 x41 x42 x43 x44 x45 x46 x47 x48 x49 x50 x51:D):List D:=sendP [x21,x22,x23,x24,x25,x26,x27,x28,x29,x30,x31,x32,x33,x34] x20 [x35,x36,x37,x38,x39,x40,x41,x42,x43,x44,x45,x46,x47,x48,x49,x50,x51]
theorem i_sendAllR0 (N:Nat) (p q:List D) (x0 x1 x2 x3 x4 x5 x6 x7 x8 x9 x10 x11 x12 x13 x14 x15 x16 x17 x18 x19 x20 x21 x22 x23 x24 x25 x26 x27 x28 x29 x30 x31 x32 x33 x34 x35 x36 x37 x38 x39 x40 x41 x42 x43 x44 x45 x46 x47 x48 x49 x50 x51:D):(i_sendAllL0 N p q) [x0,x1,x2,x3,x4,x5,x6,x7,x8,x9,x10,x11,x12,x13,x14,x15,x16,x17,x18,x19,x20,x21,x22,x23,x24,x25,x26,x27,x28,x29,x30,x31,x32,x33,x34,x35,x36,x37,x38,x39,x40,x41,x42,x43,x44,x45,x46,x47,x48,x49,x50,x51] =
 bif ltI x20.int x19.int then bif x20.int != x21.int then nd (msgSm [x35,x36,x37,x38,x39,x40,x41,x42,x43,x44,x45,x46,x47,x48,x49,x50,x51]&&leI (x34.rows.length:Int) 1000000) (nx [x0,x1,x2,x3,x4,x5,x6,x7,x8,x9,x10,x11,x12,x13,x14,x15,x16,x17,x18,x19,.i (w64 (x20.int+1)),gd (i_sendAllc0 x20 x21 x22 x23 x24 x25 x26 x27 x28 x29 x30 x31 x32 x33 x34 x35 x36 x37 x38 x39 x40 x41 x42 x43 x44 x45 x46 x47 x48 x49 x50 x51) 1,gd (i_sendAllc0 x20 x21 x22 x23 x24 x25 x26 x27 x28 x29 x30 x31 x32 x33 x34 x35 x36 x37 x38 x39 x40 x41 x42 x43 x44 x45 x46 x47 x48 x49 x50 x51) 2,gd (i_sendAllc0 x20 x21 x22 x23 x24 x25 x26 x27 x28 x29 x30 x31 x32 x33 x34 x35 x36 x37 x38 x39 x40 x41 x42 x43 x44 x45 x46 x47 x48 x49 x50 x51) 3,gd (i_sendAllc0 x20 x21 x22 x23 x24 x25 x26 x27 x28 x29 x30 x31 x32 x33 x34 x35 x36 x37 x38 x39 x40 x41 x42 x43 x44 x45 x46 x47 x48 x49 x50 x51) 4,gd (i_sendAllc0 x20 x21 x22 x23 x24 x25 x26 x27 x28 x29 x30 x31 x32 x33 x34 x35 x36 x37 x38 x39 x40 x41 x42 x43 x44 x45 x46 x47 x48 x49 x50 x51) 5,gd (i_sendAllc0 x20 x21 x22 x23 x24 x25 x26 x27 x28 x29 x30 x31 x32 x33 x34 x35 x36 x37 x38 x39 x40 x41 x42 x43 x44 x45 x46 x47 x48 x49 x50 x51) 6,gd (i_sendAllc0 x20 x21 x22 x23 x24 x25 x26 x27 x28 x29 x30 x31 x32 x33 x34 x35 x36 x37 x38 x39 x40 x41 x42 x43 x44 x45 x46 x47 x48 x49 x50 x51) 7,gd (i_sendAllc0 x20 x21 x22 x23 x24 x25 x26 x27 x28 x29 x30 x31 x32 x33 x34 x35 x36 x37 x38 x39 x40 x41 x42 x43 x44 x45 x46 x47 x48 x49 x50 x51) 8,gd (i_sendAllc0 x20 x21 x22 x23 x24 x25 x26 x27 x28 x29 x30 x31 x32 x33 x34 x35 x36 x37 x38 x39 x40 x41 x42 x43 x44 x45 x46 x47 x48 x49 x50 x51) 9,gd (i_sendAllc0 x20 x21 x22 x23 x24 x25 x26 x27 x28 x29 x30 x31 x32 x33 x34 x35 x36 x37 x38 x39 x40 x41 x42 x43 x44 x45 x46 x47 x48 x49 x50 x51) 10,gd (i_sendAllc0 x20 x21 x22 x23 x24 x25 x26 x27 x28 x29 x30 x31 x32 x33 x34 x35 x36 x37 x38 x39 x40 x41 x42 x43 x44 x45 x46 x47 x48 x49 x50 x51) 11,gd (i_sendAllc0 x20 x21 x22 x23 x24 x25 x26 x27 x28 x29 x30 x31 x32 x33 x34 x35 x36 x37 x38 x39 x40 x41 x42 x43 x44 x45 x46 x47 x48 x49 x50 x51) 12,gd (i_sendAllc0 x20 x21 x22 x23 x24 x25 x26 x27 x28 x29 x30 x31 x32 x33 x34 x35 x36 x37 x38 x39 x40 x41 x42 x43 x44 x45 x46 x47 x48 x49 x50 x51) 13,gd (i_sendAllc0 x20 x21 x22 x23 x24 x25 x26 x27 x28 x29 x30 x31 x32 x33 x34 x35 x36 x37 x38 x39 x40 x41 x42 x43 x44 x45 x46 x47 x48 x49 x50 x51) 14,x35,x36,x37,x38,x39,x40,x41,x42,x43,x44,x45,x46,x47,x48,x49,x50,x51])
 else nx [x0,x1,x2,x3,x4,x5,x6,x7,x8,x9,x10,x11,x12,x13,x14,x15,x16,x17,x18,x19,.i (w64 (x20.int+1)),x21,x22,x23,x24,x25,x26,x27,x28,x29,x30,x31,x32,x33,x34,x35,x36,x37,x38,x39,x40,x41,x42,x43,x44,x45,x46,x47,x48,x49,x50,x51]
 else ex 0 [x0,x1,x2,x3,x4,x5,x6,x7,x8,x9,x10,x11,x12,x13,x14,x15,x16,x17,x18,x19,x20,x21,x22,x23,x24,x25,x26,x27,x28,x29,x30,x31,x32,x33,x34,x35,x36,x37,x38,x39,x40,x41,x42,x43,x44,x45,x46,x47,x48,x49,x50,x51]:=by kernel_rfl
theorem i_sendAll_ev (N:Nat) (p q:List D):evFnP Tryz.prog i_sendAllT N i_sendAllK Tryz.f43 (.tup [.agg [.any],.agg [.d si,.d si,.d si,.d si,.d si,.d si,.d si,.own (0,7) true 148,.own (0,8) true 69,.own (0,9) true 78,.own (0,1000010) true 132,.d si,.d si,.own (0,1000013) true 74]]) [⟨.tup [.agg [.d si,.d si,.d si,.d si,.d si,.d si,.d si,.own (1000000,7) true 148,.own (1000000,8) true 69,.own (1000000,9) true 78,.own (1000000,1000010) true 132,.d si,.d si,.own (1000000,1000013) true 74]],p⟩,⟨ag rIMsg,q⟩]=some (bo,
 (let o0:=iter (i_sendAllL0 N p q) N [.i 0,gd q 0,gd q 1,gd q 2,gd q 3,gd q 4,gd q 5,gd q 6,gd q 7,gd q 8,gd q 9,gd q 10,gd q 11,gd q 12,gd q 13,gd q 14,gd q 15,gd q 16,.i 0,gd p 1,.i 0,gd p 0,gd p 1,gd p 2,gd p 3,gd p 4,gd p 5,gd p 6,gd p 7,gd p 8,gd p 9,gd p 10,gd p 11,gd p 12,gd p 13,gd q 0,gd q 1,gd q 2,gd q 3,gd q 4,gd q 5,gd q 6,gd q 7,gd q 8,gd q 9,gd q 10,gd q 11,gd q 12,gd q 13,gd q 14,gd q 15,gd q 16]
  nd o0.isSome (nd (o0.code==2) (some (1,[.i 0,gd o0.pay 21,gd o0.pay 22,gd o0.pay 23,gd o0.pay 24,gd o0.pay 25,gd o0.pay 26,gd o0.pay 27,gd o0.pay 28,gd o0.pay 29,gd o0.pay 30,gd o0.pay 31,gd o0.pay 32,gd o0.pay 33,gd o0.pay 34]))))):=by kernel_rfl
def allO (me:Int) (m:List D):Nat→List (List D)
 | 0 => []
 | k+1=>allO me m k++(bif (k:Int) != me then [outRow (.i (k:Int)) m] else [])
theorem allO_len (me:Int) (m:List D):∀ k,(allO me m k).length≤k
 | 0=>Nat.le_refl _
 | k+1=>by
  have:=allO_len me m k
  rw [allO,List.length_append]
  cases (k:Int) != me <;> simp <;> omega
def allD (z:D) (me:Int) (m:List D):Nat→D
 | 0=>z
 | k+1=>bif (k:Int) != me then .l ((allD z me m k).rows ++ [outRow (.i (k:Int)) m]) else allD z me m k
theorem allD_rows (z:D) (me:Int) (m:List D):∀ k,(allD z me m k).rows=z.rows++allO me m k
 | 0=>(List.append_nil _).symm
 | k+1=>by
  rw [allD,allO]
  cases (k:Int) != me with
  | false=>rw [cond_false,cond_false,List.append_nil,allD_rows z me m k]
  | true=>rw [cond_true,cond_true,rows_l,allD_rows z me m k,List.append_assoc]
def sendAllP (p m:List D):List D:= [.i 0,gd p 0,gd p 1,gd p 2,gd p 3,gd p 4,gd p 5,gd p 6,gd p 7,gd p 8,gd p 9,gd p 10,gd p 11,gd p 12,allD (gd p 13) (gd p 0).int m (gd p 1).int.toNat]
def i_sendAllE:Ent:=(43,e2 (.tup [.agg [.d si,.d si,.d si,.d si,.d si,.d si,.d si,.own (1000000,7) true 148,.own (1000000,8) true 69,.own (1000000,9) true 78,.own (1000000,1000010) true 132,.d si,.d si,.own (1000000,1000013) true 74]]) (ag rIMsg) fun p q=>(⟨.tup [.agg [.any],.agg [.d si,.d si,.d si,.d si,.d si,.d si,.d si,.own (0,7) true 148,.own (0,8) true 69,.own (0,9) true 78,.own (0,1000010) true 132,.d si,.d si,.own (0,1000013) true 74]],sub (sendAllP p q) 0 15⟩,msgSm q&&(leI ((gd p 13).rows.length:Int) 1000&&inB (gd p 1).int 0 5)))
theorem i_sendAll_ok:EntOk Tryz.prog i_sendAllE:=e2_ok fun p q h=>evFnP_sound (N:=6) (ks:=i_sendAllK) (key:=bo) i_sendAllT_ok (enters Tryz.func43) Tryz.func43 fun hw hw'=>by
 rw [i_sendAll_ev]
 have h:(msgSm q&&(leI ((gd p 13).rows.length:Int) 1000&&inB (gd p 1).int 0 5))=true:=h
 simp only [Bool.and_eq_true,leI,inB,decide_eq_true_eq] at h
 obtain ⟨h1,h2,h3,h4⟩:=h
 have h1':=h1
 unfold msgSm at h1'
 obtain ⟨n,hn⟩:∃ n:Nat,(gd p 1).int=n:=⟨(gd p 1).int.toNat,by omega⟩
 have e:=run_loop (L:=i_sendAllL0 6 p q) (fun k => [.i 0,gd q 0,gd q 1,gd q 2,gd q 3,gd q 4,gd q 5,gd q 6,gd q 7,gd q 8,gd q 9,gd q 10,gd q 11,gd q 12,gd q 13,gd q 14,gd q 15,gd q 16,.i 0,gd p 1,.i (k:Int),gd p 0,gd p 1,gd p 2,gd p 3,gd p 4,gd p 5,gd p 6,gd p 7,gd p 8,gd p 9,gd p 10,gd p 11,gd p 12,allD (gd p 13) (gd p 0).int q k,gd q 0,gd q 1,gd q 2,gd q 3,gd q 4,gd q 5,gd q 6,gd q 7,gd q 8,gd q 9,gd q 10,gd q 11,gd q 12,gd q 13,gd q 14,gd q 15,gd q 16]) n 0 (fun k hk=>?_) ?_ (N:=6) (by omega)
 ·simp only [Int.natCast_zero] at e
  rw [show allD (gd p 13) (gd p 0).int q 0=gd p 13 from rfl,← hn] at e
  unfold sendAllP
  rw [e,hn,Int.toNat_natCast]
  rfl
 ·show i_sendAllL0 _ p q [_,_,_,_,_,_,_,_,_,_,_,_,_,_,_,_,_,_,_,_,.i (k:Int),_,_,_,_,_,_,_,_,_,_,_,_,_,_,_,_,_,_,_,_,_,_,_,_,_,_,_,_,_,_,_]=_
  rw [i_sendAllR0,allD]
  have hl:=allO_len (gd p 0).int q k
  have ho:leI ((allD (gd p 13) (gd p 0).int q k).rows.length:Int) 1000000=true:=leI_t (by rw [allD_rows,List.length_append]; omega)
  have hm:msgSm [gd q 0,gd q 1,gd q 2,gd q 3,gd q 4,gd q 5,gd q 6,gd q 7,gd q 8,gd q 9,gd q 10,gd q 11,gd q 12,gd q 13,gd q 14,gd q 15,gd q 16]=true:=h1
  unfold i_sendAllc0
  simp only [int_i,hn,c_lt hk,w64_succ hk (show n≤9223372036854775807 by omega)]
  cases (k:Int) != (gd p 0).int with
  | false=>rfl
  | true =>
   rw [cond_true,cond_true,hm,ho]
   rfl
 ·show i_sendAllL0 _ p q [_,_,_,_,_,_,_,_,_,_,_,_,_,_,_,_,_,_,_,_,.i (n:Int),_,_,_,_,_,_,_,_,_,_,_,_,_,_,_,_,_,_,_,_,_,_,_,_,_,_,_,_,_,_,_]=_
  rw [i_sendAllR0]
  simp only [int_i,hn,c_nlt]
abbrev i_answerT:FuncId→List T→Option (T × Bool):=find [i_LogAtE,i_imageE,i_RunEntryE,i_SeatOfE,i_sendE,apartE]
theorem i_answerT_ok:CallOk Tryz.prog i_answerT:=find_ok (fC ⟨i_LogAt_ok,fC ⟨i_image_ok,fC ⟨i_RunEntry_ok,fC ⟨i_SeatOf_ok,fC ⟨i_send_ok,fC ⟨apart_ok,fN⟩⟩⟩⟩⟩⟩)
abbrev i_answerK:List Nat:= [0,1,2,6,7,9,11,12,13,19,70]
noncomputable def i_answerL0 (N:Nat) (p q r:List D):List D→Out:=loopOfP Tryz.prog i_answerT N i_answerK Tryz.f46 (.tup [.agg [.any],.agg [.d si,.d si,.d si,.d si,.d si,.d si,.d si,.own (0,7) true 148,.own (0,8) true 69,.own (0,9) true 78,.own (0,1000010) true 132,.d si,.d si,.own (0,1000013) true 74]]) [⟨.tup [.agg [.d si,.d si,.d si,.d si,.d si,.d si,.d si,.own (1000000,7) true 148,.own (1000000,8) true 69,.own (1000000,9) true 78,.own (1000000,1000010) true 132,.d si,.d si,.own (1000000,1000013) true 74]],p⟩,⟨ri,q⟩,⟨ri,r⟩] 0
def i_answerc0 (x3 x10 x11 x12 x13:D):List D:=runEntry (sub (sub (imageL [x10,x11,x12,x13] (w64 (x3.int - 1))) 0 2) 0 2) (sub (sub (logAt [x10,x11,x12,x13] x3.int) 0 6) 0 5)
def i_answerc1 (x3 x4 x5 x6 x7 x8 x9 x10 x11 x12 x13 x14 x15 x16 x17:D):List D:=sendP [x4,x5,x6,x7,x8,x9,x10,x11,x12,x13,x14,x15,x16,x17] (.i (-1)) [.i 12,.i 0,x7,.i 0,.i 0,.i 0,.i 0,gd (sub (logAt [x10,x11,x12,x13] x3.int) 0 6) 0,gd (sub (logAt [x10,x11,x12,x13] x3.int) 0 6) 1,gd (sub (i_answerc0 x3 x10 x11 x12 x13) 0 4) 2,.i 0,.i 0,.i 0,.i 0,.l [],.l [],.l []]
theorem i_answerR0 (N:Nat) (p q r:List D) (x0 x1 x2 x3 x4 x5 x6 x7 x8 x9 x10 x11 x12 x13 x14 x15 x16 x17:D):(i_answerL0 N p q r) [x0,x1,x2,x3,x4,x5,x6,x7,x8,x9,x10,x11,x12,x13,x14,x15,x16,x17] =
 bif leI x3.int x2.int then nd (hasN [x10,x11,x12,x13] (.i (w64 (x3.int - 1)))) (nd (inB (gd (sub (logAt [x10,x11,x12,x13] x3.int) 0 6) 0).int 0 1000000000) (bif (gd (sub (i_answerc0 x3 x10 x11 x12 x13) 0 4) 3).int==0 then nd (msgSm [.i 12,.i 0,x7,.i 0,.i 0,.i 0,.i 0,gd (sub (logAt [x10,x11,x12,x13] x3.int) 0 6) 0,gd (sub (logAt [x10,x11,x12,x13] x3.int) 0 6) 1,gd (sub (i_answerc0 x3 x10 x11 x12 x13) 0 4) 2,.i 0,.i 0,.i 0,.i 0,.l [],.l [],.l []]&&leI (x17.rows.length:Int) 1000000) (nx [x0,x1,x2,.i (w64 (x3.int+1)),gd (i_answerc1 x3 x4 x5 x6 x7 x8 x9 x10 x11 x12 x13 x14 x15 x16 x17) 1,gd (i_answerc1 x3 x4 x5 x6 x7 x8 x9 x10 x11 x12 x13 x14 x15 x16 x17) 2,gd (i_answerc1 x3 x4 x5 x6 x7 x8 x9 x10 x11 x12 x13 x14 x15 x16 x17) 3,gd (i_answerc1 x3 x4 x5 x6 x7 x8 x9 x10 x11 x12 x13 x14 x15 x16 x17) 4,gd (i_answerc1 x3 x4 x5 x6 x7 x8 x9 x10 x11 x12 x13 x14 x15 x16 x17) 5,gd (i_answerc1 x3 x4 x5 x6 x7 x8 x9 x10 x11 x12 x13 x14 x15 x16 x17) 6,gd (i_answerc1 x3 x4 x5 x6 x7 x8 x9 x10 x11 x12 x13 x14 x15 x16 x17) 7,gd (i_answerc1 x3 x4 x5 x6 x7 x8 x9 x10 x11 x12 x13 x14 x15 x16 x17) 8,gd (i_answerc1 x3 x4 x5 x6 x7 x8 x9 x10 x11 x12 x13 x14 x15 x16 x17) 9,gd (i_answerc1 x3 x4 x5 x6 x7 x8 x9 x10 x11 x12 x13 x14 x15 x16 x17) 10,gd (i_answerc1 x3 x4 x5 x6 x7 x8 x9 x10 x11 x12 x13 x14 x15 x16 x17) 11,gd (i_answerc1 x3 x4 x5 x6 x7 x8 x9 x10 x11 x12 x13 x14 x15 x16 x17) 12,gd (i_answerc1 x3 x4 x5 x6 x7 x8 x9 x10 x11 x12 x13 x14 x15 x16 x17) 13,gd (i_answerc1 x3 x4 x5 x6 x7 x8 x9 x10 x11 x12 x13 x14 x15 x16 x17) 14])
 else bif (gd (sub (i_answerc0 x3 x10 x11 x12 x13) 0 4) 3).int==3 then nd (msgSm [.i 12,.i 0,x7,.i 0,.i 0,.i 0,.i 0,gd (sub (logAt [x10,x11,x12,x13] x3.int) 0 6) 0,gd (sub (logAt [x10,x11,x12,x13] x3.int) 0 6) 1,gd (sub (i_answerc0 x3 x10 x11 x12 x13) 0 4) 2,.i 0,.i 0,.i 0,.i 0,.l [],.l [],.l []]&&leI (x17.rows.length:Int) 1000000) (nx [x0,x1,x2,.i (w64 (x3.int+1)),gd (i_answerc1 x3 x4 x5 x6 x7 x8 x9 x10 x11 x12 x13 x14 x15 x16 x17) 1,gd (i_answerc1 x3 x4 x5 x6 x7 x8 x9 x10 x11 x12 x13 x14 x15 x16 x17) 2,gd (i_answerc1 x3 x4 x5 x6 x7 x8 x9 x10 x11 x12 x13 x14 x15 x16 x17) 3,gd (i_answerc1 x3 x4 x5 x6 x7 x8 x9 x10 x11 x12 x13 x14 x15 x16 x17) 4,gd (i_answerc1 x3 x4 x5 x6 x7 x8 x9 x10 x11 x12 x13 x14 x15 x16 x17) 5,gd (i_answerc1 x3 x4 x5 x6 x7 x8 x9 x10 x11 x12 x13 x14 x15 x16 x17) 6,gd (i_answerc1 x3 x4 x5 x6 x7 x8 x9 x10 x11 x12 x13 x14 x15 x16 x17) 7,gd (i_answerc1 x3 x4 x5 x6 x7 x8 x9 x10 x11 x12 x13 x14 x15 x16 x17) 8,gd (i_answerc1 x3 x4 x5 x6 x7 x8 x9 x10 x11 x12 x13 x14 x15 x16 x17) 9,gd (i_answerc1 x3 x4 x5 x6 x7 x8 x9 x10 x11 x12 x13 x14 x15 x16 x17) 10,gd (i_answerc1 x3 x4 x5 x6 x7 x8 x9 x10 x11 x12 x13 x14 x15 x16 x17) 11,gd (i_answerc1 x3 x4 x5 x6 x7 x8 x9 x10 x11 x12 x13 x14 x15 x16 x17) 12,gd (i_answerc1 x3 x4 x5 x6 x7 x8 x9 x10 x11 x12 x13 x14 x15 x16 x17) 13,gd (i_answerc1 x3 x4 x5 x6 x7 x8 x9 x10 x11 x12 x13 x14 x15 x16 x17) 14])
 else bif (gd (sub (i_answerc0 x3 x10 x11 x12 x13) 0 4) 3).int==2 then bif (gd (sub (seatOf (sub (sub (imageL [x10,x11,x12,x13] (w64 (x3.int - 1))) 0 2) 0 2) (gd (sub (logAt [x10,x11,x12,x13] x3.int) 0 6) 0).int) 0 4) 1).int==(gd (sub (logAt [x10,x11,x12,x13] x3.int) 0 6) 1).int then nd (msgSm [.i 12,.i 0,x7,.i 0,.i 0,.i 0,.i 0,gd (sub (logAt [x10,x11,x12,x13] x3.int) 0 6) 0,gd (sub (logAt [x10,x11,x12,x13] x3.int) 0 6) 1,gd (sub (i_answerc0 x3 x10 x11 x12 x13) 0 4) 2,.i 0,.i 0,.i 0,.i 0,.l [],.l [],.l []]&&leI (x17.rows.length:Int) 1000000) (nx [x0,x1,x2,.i (w64 (x3.int+1)),gd (i_answerc1 x3 x4 x5 x6 x7 x8 x9 x10 x11 x12 x13 x14 x15 x16 x17) 1,gd (i_answerc1 x3 x4 x5 x6 x7 x8 x9 x10 x11 x12 x13 x14 x15 x16 x17) 2,gd (i_answerc1 x3 x4 x5 x6 x7 x8 x9 x10 x11 x12 x13 x14 x15 x16 x17) 3,gd (i_answerc1 x3 x4 x5 x6 x7 x8 x9 x10 x11 x12 x13 x14 x15 x16 x17) 4,gd (i_answerc1 x3 x4 x5 x6 x7 x8 x9 x10 x11 x12 x13 x14 x15 x16 x17) 5,gd (i_answerc1 x3 x4 x5 x6 x7 x8 x9 x10 x11 x12 x13 x14 x15 x16 x17) 6,gd (i_answerc1 x3 x4 x5 x6 x7 x8 x9 x10 x11 x12 x13 x14 x15 x16 x17) 7,gd (i_answerc1 x3 x4 x5 x6 x7 x8 x9 x10 x11 x12 x13 x14 x15 x16 x17) 8,gd (i_answerc1 x3 x4 x5 x6 x7 x8 x9 x10 x11 x12 x13 x14 x15 x16 x17) 9,gd (i_answerc1 x3 x4 x5 x6 x7 x8 x9 x10 x11 x12 x13 x14 x15 x16 x17) 10,gd (i_answerc1 x3 x4 x5 x6 x7 x8 x9 x10 x11 x12 x13 x14 x15 x16 x17) 11,gd (i_answerc1 x3 x4 x5 x6 x7 x8 x9 x10 x11 x12 x13 x14 x15 x16 x17) 12,gd (i_answerc1 x3 x4 x5 x6 x7 x8 x9 x10 x11 x12 x13 x14 x15 x16 x17) 13,gd (i_answerc1 x3 x4 x5 x6 x7 x8 x9 x10 x11 x12 x13 x14 x15 x16 x17) 14])
 else nx [x0,x1,x2,.i (w64 (x3.int+1)),x4,x5,x6,x7,x8,x9,x10,x11,x12,x13,x14,x15,x16,x17]
 else nx [x0,x1,x2,.i (w64 (x3.int+1)),x4,x5,x6,x7,x8,x9,x10,x11,x12,x13,x14,x15,x16,x17]))
 else ex 0 [x0,x1,x2,x3,x4,x5,x6,x7,x8,x9,x10,x11,x12,x13,x14,x15,x16,x17]:=by kernel_rfl
theorem i_answer_ev (N:Nat) (p q r:List D):evFnP Tryz.prog i_answerT N i_answerK Tryz.f46 (.tup [.agg [.any],.agg [.d si,.d si,.d si,.d si,.d si,.d si,.d si,.own (0,7) true 148,.own (0,8) true 69,.own (0,9) true 78,.own (0,1000010) true 132,.d si,.d si,.own (0,1000013) true 74]]) [⟨.tup [.agg [.d si,.d si,.d si,.d si,.d si,.d si,.d si,.own (1000000,7) true 148,.own (1000000,8) true 69,.own (1000000,9) true 78,.own (1000000,1000010) true 132,.d si,.d si,.own (1000000,1000013) true 74]],p⟩,⟨ri,q⟩,⟨ri,r⟩]=some (bo,
 (let o0:=iter (i_answerL0 N p q r) N [.i 0,gd q 0,gd r 0,.i (w64 ((gd q 0).int+1)),gd p 0,gd p 1,gd p 2,gd p 3,gd p 4,gd p 5,gd p 6,gd p 7,gd p 8,gd p 9,gd p 10,gd p 11,gd p 12,gd p 13]
  nd o0.isSome (nd (o0.code==2) (some (1,[.i 0,gd o0.pay 4,gd o0.pay 5,gd o0.pay 6,gd o0.pay 7,gd o0.pay 8,gd o0.pay 9,gd o0.pay 10,gd o0.pay 11,gd o0.pay 12,gd o0.pay 13,gd o0.pay 14,gd o0.pay 15,gd o0.pay 16,gd o0.pay 17]))))):=by kernel_rfl
def ansE (p:List D) (n:Int):List D:=logAt (sub p 6 4) n
def ansI (p:List D) (n:Int):List D:=imageL (sub p 6 4) (n - 1)
def ansR (p:List D) (n:Int):List D:=runEntry (ansI p n) (sub (ansE p n) 0 5)
def ansC (p:List D) (n:Int):Bool:=(gd (ansR p n) 3).int==0||((gd (ansR p n) 3).int==3||((gd (ansR p n) 3).int==2&&(gd (seatOf (ansI p n) (gd (ansE p n) 0).int) 1).int==(gd (ansE p n) 1).int))
def ansRow (p:List D) (n:Int):List D:=outRow (.i (-1)) [.i 12,.i 0,gd p 3,.i 0,.i 0,.i 0,.i 0,gd (ansE p n) 0,gd (ansE p n) 1,gd (ansR p n) 2,.i 0,.i 0,.i 0,.i 0,.l [],.l [],.l []]
def ansO (p:List D) (a:Int):Nat→List (List D)
 | 0 => []
 | k+1=>ansO p a k++(bif ansC p (a+1+(k:Int)) then [ansRow p (a+1+(k:Int))] else [])
theorem ansO_len (p:List D) (a:Int):∀ k,(ansO p a k).length≤k
 | 0=>Nat.le_refl _
 | k+1=>by
  have:=ansO_len p a k
  rw [ansO,List.length_append]
  cases ansC p (a+1+(k:Int)) <;> simp <;> omega
def ansD (z:D) (p:List D) (a:Int):Nat→D
 | 0=>z
 | k+1=>bif ansC p (a+1+(k:Int)) then .l ((ansD z p a k).rows ++ [ansRow p (a+1+(k:Int))]) else ansD z p a k
theorem ansD_rows (z:D) (p:List D) (a:Int):∀ k,(ansD z p a k).rows=z.rows++ansO p a k
 | 0=>(List.append_nil _).symm
 | k+1=>by
  rw [ansD,ansO]
  cases ansC p (a+1+(k:Int)) with
  | false=>rw [cond_false,cond_false,List.append_nil,ansD_rows z p a k]
  | true=>rw [cond_true,cond_true,rows_l,ansD_rows z p a k,List.append_assoc]
def answerP (p:List D) (a b:Int):List D:= [.i 0,gd p 0,gd p 1,gd p 2,gd p 3,gd p 4,gd p 5,gd p 6,gd p 7,gd p 8,gd p 9,gd p 10,gd p 11,gd p 12,ansD (gd p 13) p a (b - a).toNat]
theorem at_client {p:List D} {n:Int} (h:logOk p=true) (hn:inB n ((gd p 0).int+1) (endL p)=true):inB (gd (logAt p n) 0).int 0 1000000000=true:=by
 unfold logAt
 rw [h,hn,Bool.and_self,cond_true,gd_cons_zero]
 have hd:=log_d h
 obtain ⟨_,_,_,hl,en,_⟩:=hd
 simp only [logOk,Bool.and_eq_true] at h
 have he:=h.2.2.2.1
 simp only [entsOk,List.all_eq_true,List.mem_range] at he
 simp only [inB,Bool.and_eq_true,decide_eq_true_eq] at hn
 have:=he (n - (gd p 0).int - 1).toNat (by omega)
 simp only [entryOk,Bool.and_eq_true] at this
 exact this.1
def i_answerE:Ent:=(46,e3 (.tup [.agg [.d si,.d si,.d si,.d si,.d si,.d si,.d si,.own (1000000,7) true 148,.own (1000000,8) true 69,.own (1000000,9) true 78,.own (1000000,1000010) true 132,.d si,.d si,.own (1000000,1000013) true 74]]) ri ri fun p q r=>(⟨.tup [.agg [.any],.agg [.d si,.d si,.d si,.d si,.d si,.d si,.d si,.own (0,7) true 148,.own (0,8) true 69,.own (0,9) true 78,.own (0,1000010) true 132,.d si,.d si,.own (0,1000013) true 74]],sub (answerP p (gd q 0).int (gd r 0).int) 0 15⟩,hasN (sub p 6 4) (gd q 0)&&(hasN (sub p 6 4) (gd r 0)&&leI ((gd p 13).rows.length:Int) 1000)))
theorem i_answer_ok:EntOk Tryz.prog i_answerE:=e3_ok fun p q r h=>evFnP_sound (N:=62) (ks:=i_answerK) (key:=bo) i_answerT_ok (enters Tryz.func46) Tryz.func46 fun hw hw'=>by
 rw [i_answer_ev]
 have h:(hasN (sub p 6 4) (gd q 0)&&(hasN (sub p 6 4) (gd r 0)&&leI ((gd p 13).rows.length:Int) 1000))=true:=h
 simp only [Bool.and_eq_true,leI,decide_eq_true_eq] at h
 obtain ⟨ha,hb,ho⟩:=h
 obtain ⟨hlo,_⟩:=has_d ha
 have hd:=log_d hlo
 obtain ⟨b0,b1,_,hl,en,e1⟩:=hd
 have ha':=ha
 have hb':=hb
 simp only [hasN,inB,Bool.and_eq_true,decide_eq_true_eq] at ha' hb'
 have hb0:(gd (sub p 6 4) 0).int=(gd p 6).int:=rfl
 have hen:endL (sub (sub p 6 4) 0 4)=endL (sub p 6 4):=rfl
 have hll:(gd (sub p 6 4) 3).rows.length≤60:=hl
 rw [hen] at ha' hb'
 obtain ⟨n,hn⟩:∃ n,n=((gd r 0).int - (gd q 0).int).toNat:=⟨_,rfl⟩
 have e:=run_loop (L:=i_answerL0 62 p q r) (fun k => [.i 0,gd q 0,gd r 0,.i ((gd q 0).int+1+(k:Int)),gd p 0,gd p 1,gd p 2,gd p 3,gd p 4,gd p 5,gd p 6,gd p 7,gd p 8,gd p 9,gd p 10,gd p 11,gd p 12,ansD (gd p 13) p (gd q 0).int k]) n 0 (fun k hk=>?_) ?_ (N:=62) (by omega)
 ·simp only [Int.natCast_zero,Int.add_zero] at e
  rw [show ansD (gd p 13) p (gd q 0).int 0=gd p 13 from rfl] at e
  unfold answerP
  rw [w64_id (x:=(gd q 0).int+1) (by omega) (by omega),e,← hn]
  rfl
 ·show i_answerL0 _ p q r [_,_,_,.i ((gd q 0).int+1+(k:Int)),_,_,_,_,_,_,_,_,_,_,_,_,_,_]=_
  rw [i_answerR0,ansD]
  have hlen:=ansO_len p (gd q 0).int k
  have hos:leI ((ansD (gd p 13) p (gd q 0).int k).rows.length:Int) 1000000=true:=leI_t (by rw [ansD_rows,List.length_append]; omega)
  obtain ⟨m,hm⟩:∃ m,m=(gd q 0).int+1+(k:Int):=⟨_,rfl⟩
  rw [show (gd q 0).int+1+((k+1:Nat):Int)=m+1 from by omega,← hm]
  have hw:w64 (m - 1)=m - 1:=w64_id (by omega) (by omega)
  have hw1:w64 (m+1)=m+1:=w64_id (by omega) (by omega)
  have hh:hasN [gd p 6,gd p 7,gd p 8,gd p 9] (.i (m - 1))=true:=by
   show hasN (sub p 6 4) (.i (m - 1))=true
   unfold hasN
   rw [show logOk (sub (sub p 6 4) 0 4)=true from hlo,Bool.true_and,hen,int_i]
   simp only [inB,Bool.and_eq_true,decide_eq_true_eq]
   omega
  have hc:inB (gd (logAt [gd p 6,gd p 7,gd p 8,gd p 9] m) 0).int 0 1000000000=true:=at_client (p:=sub p 6 4) hlo (by simp only [inB,Bool.and_eq_true,decide_eq_true_eq]; omega)
  have hR:i_answerc0 (.i m) (gd p 6) (gd p 7) (gd p 8) (gd p 9)=ansR p m:=by
   unfold i_answerc0 ansR ansI ansE
   rw [int_i,hw]
   rfl
  have hE:sub (logAt [gd p 6,gd p 7,gd p 8,gd p 9] m) 0 6=sub (ansE p m) 0 6:=rfl
  have hI:sub (sub (imageL [gd p 6,gd p 7,gd p 8,gd p 9] (m - 1)) 0 2) 0 2=ansI p m:=rfl
  simp only [int_i,hw,hw1,hh,hR,hE,hI,leI_t (show m≤(gd r 0).int by omega),cond_true,nd_true]
  have hc':inB (gd (ansE p m) 0).int 0 1000000000=true:=hc
  have g0:gd (sub (ansE p m) 0 6) 0=gd (ansE p m) 0:=rfl
  have g1:gd (sub (ansE p m) 0 6) 1=gd (ansE p m) 1:=rfl
  have g2:gd (sub (ansR p m) 0 4) 2=gd (ansR p m) 2:=rfl
  have g3:gd (sub (ansR p m) 0 4) 3=gd (ansR p m) 3:=rfl
  have g4:∀ c,gd (sub (seatOf (ansI p m) c) 0 4) 1=gd (seatOf (ansI p m) c) 1:=fun _=>rfl
  have hms:∀ a b c d:D,msgSm [.i 12,.i 0,a,.i 0,.i 0,.i 0,.i 0,b,c,d,.i 0,.i 0,.i 0,.i 0,.l [],.l [],.l []]=true:=fun _ _ _ _=>rfl
  have hC:∀ z:D,i_answerc1 (.i m) (gd p 0) (gd p 1) (gd p 2) (gd p 3) (gd p 4) (gd p 5) (gd p 6) (gd p 7) (gd p 8) (gd p 9) (gd p 10) (gd p 11) (gd p 12) z = [.i 0,gd p 0,gd p 1,gd p 2,gd p 3,gd p 4,gd p 5,gd p 6,gd p 7,gd p 8,gd p 9,gd p 10,gd p 11,gd p 12,.l (z.rows ++ [ansRow p m])]:=fun z=>by
   unfold i_answerc1
   rw [hR]
   rfl
  simp only [g0,g1,g2,g3,g4,hms,hos,hC,hc',gd_cons_zero,gd_cons_succ,Bool.and_self,nd_true]
  unfold ansC
  cases (gd (ansR p m) 3).int==0 <;> cases (gd (ansR p m) 3).int==3 <;> cases (gd (ansR p m) 3).int==2 <;> cases (gd (seatOf (ansI p m) (gd (ansE p m) 0).int) 1).int==(gd (ansE p m) 1).int <;> rfl
 ·show i_answerL0 _ p q r [_,_,_,.i ((gd q 0).int+1+(n:Int)),_,_,_,_,_,_,_,_,_,_,_,_,_,_]=_
  rw [i_answerR0]
  simp only [int_i,leI_f (show (gd r 0).int<(gd q 0).int+1+(n:Int) by omega),cond_false]
end Go.Proofs.YthbbbhpjkgpdcaaGreat
namespace Go.Proofs.YthbbbhpjkgpdcaaGreat
set_option maxRecDepth 4096
set_option maxHeartbeats 1000000
abbrev i_fieldsT:FuncId→List T→Option (T × Bool):=find []
theorem i_fieldsT_ok:CallOk Tryz.prog i_fieldsT:=find_ok (fN)
abbrev i_fieldsK:List Nat:= [0,2,3,4,6,8,11,13,15,17,20,22,24]
theorem i_fields_ev (N:Nat) (p:List D):evFn Tryz.prog i_fieldsT N i_fieldsK Tryz.f84 (sd (.str)) [⟨ri,p⟩]=some (bo,
 bif (gd p 0).int==1 then some (1,[.s [99,114,120]])
 else bif (gd p 0).int==2 then some (1,[.s [70,86,79,67,99,114,120]])
 else bif (gd p 0).int==3 then bif (gd p 0).int==3 then some (1,[.s [70,86,79]])
 else bif (gd p 0).int==4 then some (1,[.s [70,86,67]])
 else bif (gd p 0).int==5 then some (1,[.s [70,86]])
 else bif (gd p 0).int==6 then some (1,[.s [70,86,78,67,76]])
 else bif (gd p 0).int==7 then bif (gd p 0).int==7 then some (1,[.s [70,86,67,76]])
 else bif (gd p 0).int==8 then some (1,[.s [70,110]])
 else bif (gd p 0).int==9 then some (1,[.s [70,86,110,67,76]])
 else bif (gd p 0).int==12 then some (1,[.s [86,99,114,65]])
 else some (1,[.s []])
 else bif (gd p 0).int==11 then some (1,[.s [70,86,67,76]])
 else bif (gd p 0).int==8 then some (1,[.s [70,110]])
 else bif (gd p 0).int==9 then some (1,[.s [70,86,110,67,76]])
 else bif (gd p 0).int==12 then some (1,[.s [86,99,114,65]])
 else some (1,[.s []])
 else bif (gd p 0).int==10 then some (1,[.s [70,86,79]])
 else bif (gd p 0).int==4 then some (1,[.s [70,86,67]])
 else bif (gd p 0).int==5 then some (1,[.s [70,86]])
 else bif (gd p 0).int==6 then some (1,[.s [70,86,78,67,76]])
 else bif (gd p 0).int==7 then bif (gd p 0).int==7 then some (1,[.s [70,86,67,76]])
 else bif (gd p 0).int==8 then some (1,[.s [70,110]])
 else bif (gd p 0).int==9 then some (1,[.s [70,86,110,67,76]])
 else bif (gd p 0).int==12 then some (1,[.s [86,99,114,65]])
 else some (1,[.s []])
 else bif (gd p 0).int==11 then some (1,[.s [70,86,67,76]])
 else bif (gd p 0).int==8 then some (1,[.s [70,110]])
 else bif (gd p 0).int==9 then some (1,[.s [70,86,110,67,76]])
 else bif (gd p 0).int==12 then some (1,[.s [86,99,114,65]])
 else some (1,[.s []])):=by kernel_rfl
def fieldsF (k:Int):List UInt8:=bif k==1 then [99,114,120] else bif k==2 then [70,86,79,67,99,114,120] else bif k==3 then [70,86,79] else bif k==4 then [70,86,67] else bif k==5 then [70,86] else bif k==6 then [70,86,78,67,76] else bif k==7 then [70,86,67,76] else bif k==8 then [70,110] else bif k==9 then [70,86,110,67,76] else bif k==10 then [70,86,79] else bif k==11 then [70,86,67,76] else bif k==12 then [86,99,114,65] else []
def i_fieldsE:Ent:=(84,e1 ri fun p=>(⟨sd (.str),[.s (fieldsF (gd p 0).int)]⟩,true))
theorem i_fields_ok:EntOk Tryz.prog i_fieldsE:=e1_ok fun p h=>evFn_sound (N:=0) (ks:=i_fieldsK) (key:=bo) i_fieldsT_ok (enters Tryz.func84) Tryz.func84 fun hw=>by
 rw [i_fields_ev]
 unfold fieldsF
 by_cases h1:(gd p 0).int=1
 ·rw [h1]; rfl
 by_cases h2:(gd p 0).int=2
 ·rw [h2]; rfl
 by_cases h3:(gd p 0).int=3
 ·rw [h3]; rfl
 by_cases h4:(gd p 0).int=4
 ·rw [h4]; rfl
 by_cases h5:(gd p 0).int=5
 ·rw [h5]; rfl
 by_cases h6:(gd p 0).int=6
 ·rw [h6]; rfl
 by_cases h7:(gd p 0).int=7
 ·rw [h7]; rfl
 by_cases h8:(gd p 0).int=8
 ·rw [h8]; rfl
 by_cases h9:(gd p 0).int=9
 ·rw [h9]; rfl
 by_cases h10:(gd p 0).int=10
 ·rw [h10]; rfl
 by_cases h11:(gd p 0).int=11
 ·rw [h11]; rfl
 by_cases h12:(gd p 0).int=12
 ·rw [h12]; rfl
 rw [beq_eq_false_iff_ne.2 h1,beq_eq_false_iff_ne.2 h2,beq_eq_false_iff_ne.2 h3,beq_eq_false_iff_ne.2 h4,beq_eq_false_iff_ne.2 h5,beq_eq_false_iff_ne.2 h6,beq_eq_false_iff_ne.2 h7,beq_eq_false_iff_ne.2 h8,beq_eq_false_iff_ne.2 h9,beq_eq_false_iff_ne.2 h10,beq_eq_false_iff_ne.2 h11,beq_eq_false_iff_ne.2 h12]
 rfl
abbrev s_l4HasT:FuncId→List T→Option (T × Bool):=find []
theorem s_l4HasT_ok:CallOk Tryz.prog s_l4HasT:=find_ok (fN)
abbrev s_l4HasK:List Nat:= [0,2,3,4,6,8,11,13,15,17,20,22,24]
theorem s_l4Has_ev (N:Nat) (p:List D):evFn Tryz.prog s_l4HasT N s_l4HasK Tryz.f108 (sd (.str)) [⟨ri,p⟩]=some (bo,
 bif (gd p 0).int==1 then some (1,[.s [67,82,100]])
 else bif (gd p 0).int==2 then some (1,[.s [102,118,111,99,67,82,100]])
 else bif (gd p 0).int==3 then bif (gd p 0).int==3 then some (1,[.s [102,118,111]])
 else bif (gd p 0).int==4 then some (1,[.s [102,118,99]])
 else bif (gd p 0).int==5 then some (1,[.s [102,118]])
 else bif (gd p 0).int==6 then some (1,[.s [102,118,110,99,108]])
 else bif (gd p 0).int==7 then bif (gd p 0).int==7 then some (1,[.s [102,118,99,108]])
 else bif (gd p 0).int==8 then some (1,[.s [102,107]])
 else bif (gd p 0).int==9 then some (1,[.s [102,118,107,99,108]])
 else bif (gd p 0).int==12 then some (1,[.s [118,67,82,65]])
 else some (1,[.s []])
 else bif (gd p 0).int==11 then some (1,[.s [102,118,99,108]])
 else bif (gd p 0).int==8 then some (1,[.s [102,107]])
 else bif (gd p 0).int==9 then some (1,[.s [102,118,107,99,108]])
 else bif (gd p 0).int==12 then some (1,[.s [118,67,82,65]])
 else some (1,[.s []])
 else bif (gd p 0).int==10 then some (1,[.s [102,118,111]])
 else bif (gd p 0).int==4 then some (1,[.s [102,118,99]])
 else bif (gd p 0).int==5 then some (1,[.s [102,118]])
 else bif (gd p 0).int==6 then some (1,[.s [102,118,110,99,108]])
 else bif (gd p 0).int==7 then bif (gd p 0).int==7 then some (1,[.s [102,118,99,108]])
 else bif (gd p 0).int==8 then some (1,[.s [102,107]])
 else bif (gd p 0).int==9 then some (1,[.s [102,118,107,99,108]])
 else bif (gd p 0).int==12 then some (1,[.s [118,67,82,65]])
 else some (1,[.s []])
 else bif (gd p 0).int==11 then some (1,[.s [102,118,99,108]])
 else bif (gd p 0).int==8 then some (1,[.s [102,107]])
 else bif (gd p 0).int==9 then some (1,[.s [102,118,107,99,108]])
 else bif (gd p 0).int==12 then some (1,[.s [118,67,82,65]])
 else some (1,[.s []])):=by kernel_rfl
def hasS (k:Int):List UInt8:=bif k==1 then [67,82,100] else bif k==2 then [102,118,111,99,67,82,100] else bif k==3 then [102,118,111] else bif k==4 then [102,118,99] else bif k==5 then [102,118] else bif k==6 then [102,118,110,99,108] else bif k==7 then [102,118,99,108] else bif k==8 then [102,107] else bif k==9 then [102,118,107,99,108] else bif k==10 then [102,118,111] else bif k==11 then [102,118,99,108] else bif k==12 then [118,67,82,65] else []
def s_l4HasE:Ent:=(108,e1 ri fun p=>(⟨sd (.str),[.s (hasS (gd p 0).int)]⟩,true))
theorem s_l4Has_ok:EntOk Tryz.prog s_l4HasE:=e1_ok fun p h=>evFn_sound (N:=0) (ks:=s_l4HasK) (key:=bo) s_l4HasT_ok (enters Tryz.func108) Tryz.func108 fun hw=>by
 rw [s_l4Has_ev]
 unfold hasS
 by_cases h1:(gd p 0).int=1
 ·rw [h1]; rfl
 by_cases h2:(gd p 0).int=2
 ·rw [h2]; rfl
 by_cases h3:(gd p 0).int=3
 ·rw [h3]; rfl
 by_cases h4:(gd p 0).int=4
 ·rw [h4]; rfl
 by_cases h5:(gd p 0).int=5
 ·rw [h5]; rfl
 by_cases h6:(gd p 0).int=6
 ·rw [h6]; rfl
 by_cases h7:(gd p 0).int=7
 ·rw [h7]; rfl
 by_cases h8:(gd p 0).int=8
 ·rw [h8]; rfl
 by_cases h9:(gd p 0).int=9
 ·rw [h9]; rfl
 by_cases h10:(gd p 0).int=10
 ·rw [h10]; rfl
 by_cases h11:(gd p 0).int=11
 ·rw [h11]; rfl
 by_cases h12:(gd p 0).int=12
 ·rw [h12]; rfl
 rw [beq_eq_false_iff_ne.2 h1,beq_eq_false_iff_ne.2 h2,beq_eq_false_iff_ne.2 h3,beq_eq_false_iff_ne.2 h4,beq_eq_false_iff_ne.2 h5,beq_eq_false_iff_ne.2 h6,beq_eq_false_iff_ne.2 h7,beq_eq_false_iff_ne.2 h8,beq_eq_false_iff_ne.2 h9,beq_eq_false_iff_ne.2 h10,beq_eq_false_iff_ne.2 h11,beq_eq_false_iff_ne.2 h12]
 rfl
abbrev i_fieldOkT:FuncId→List T→Option (T × Bool):=find [i_fromE,i_isReqE,i_isAnswerE,i_isWholeE]
theorem i_fieldOkT_ok:CallOk Tryz.prog i_fieldOkT:=find_ok (fC ⟨i_from_ok,fC ⟨i_isReq_ok,fC ⟨i_isAnswer_ok,fC ⟨i_isWhole_ok,fN⟩⟩⟩⟩)
abbrev i_fieldOkK:List Nat:= [0,1,4,5,6,10,14]
theorem i_fieldOk_ev (N:Nat) (p q:List D):evFn Tryz.prog i_fieldOkT N i_fieldOkK Tryz.f129 rb [⟨sd (.int .u8),p⟩,⟨ri,q⟩]=some (bo,
 bif (gd p 0).int==70 then ob (inB (gd q 0).int 0 4)
 else bif (gd p 0).int==114 then ob (inB (gd q 0).int (1) (1000000000))
 else bif (gd p 0).int==65 then ob (inB (gd q 0).int (-1) (1000000000))
 else ob (inB (gd q 0).int (0) (1000000000))):=by kernel_rfl
def fieldOkB (c n:Int):Bool:=bif c==70 then inB n 0 4 else bif c==114 then inB n 1 1000000000 else bif c==65 then inB n (-1) 1000000000 else inB n 0 1000000000
def i_fieldOkE:Ent:=(129,e2 (sd (.int .u8)) ri fun p q=>(⟨rb,[.b (fieldOkB (gd p 0).int (gd q 0).int)]⟩,true))
theorem i_fieldOk_ok:EntOk Tryz.prog i_fieldOkE:=e2_ok fun p q h=>evFn_sound (N:=0) (ks:=i_fieldOkK) (key:=bo) i_fieldOkT_ok (enters Tryz.func129) Tryz.func129 fun hw=>by
 rw [i_fieldOk_ev]
 unfold fieldOkB
 by_cases h1:(gd p 0).int=70
 ·rw [h1]; rfl
 by_cases h2:(gd p 0).int=114
 ·rw [h2]; rfl
 by_cases h3:(gd p 0).int=65
 ·rw [h3]; rfl
 rw [beq_eq_false_iff_ne.2 h1,beq_eq_false_iff_ne.2 h2,beq_eq_false_iff_ne.2 h3]
 rfl
abbrev s_MsgFitsT:FuncId→List T→Option (T × Bool):=find [s_l4HasE,s_l4InE,s_l4NumE,s_CmdOkE,s_LogOkE,s_LogEndE,s_l1InE,s_SameLogE]
theorem s_MsgFitsT_ok:CallOk Tryz.prog s_MsgFitsT:=find_ok (fC ⟨s_l4Has_ok,fC ⟨s_l4In_ok,fC ⟨s_l4Num_ok,fC ⟨s_CmdOk_ok,fC ⟨s_LogOk_ok,fC ⟨s_LogEnd_ok,fC ⟨s_l1In_ok,fC ⟨s_SameLog_ok,fN⟩⟩⟩⟩⟩⟩⟩⟩)
abbrev s_MsgFitsK:List Nat:= [0,1,2,3,4,5,34,86,113,115]
theorem s_MsgFits_ev (N:Nat) (p:List D):evFn Tryz.prog s_MsgFitsT N s_MsgFitsK Tryz.f66 rb [⟨ag rIMsg,p⟩]=some (bo,
 bif (hasS (gd p 0).int) == [] then ob false
 else nd (leI ((hasS (gd p 0).int).length:Int) 100) (bif !(numOk (hasB (hasS (gd p 0).int) 102) (gd p 1).int 0 4) then ob false
 else nd (leI ((hasS (gd p 0).int).length:Int) 100) (bif !(numOk (hasB (hasS (gd p 0).int) 82) (gd p 8).int 1 1000000000) then ob false
 else nd (leI ((hasS (gd p 0).int).length:Int) 100) (bif !(numOk (hasB (hasS (gd p 0).int) 65) (gd p 9).int (-1) 1000000000) then ob false
 else nd (leI ((hasS (gd p 0).int).length:Int) 100) (bif !(numOk (hasB (hasS (gd p 0).int) 118) (gd p 2).int 0 1000000000) then ob false
 else nd (leI ((hasS (gd p 0).int).length:Int) 100) (bif !(numOk (hasB (hasS (gd p 0).int) 111) (gd p 3).int 0 1000000000) then ob false
 else nd (leI ((hasS (gd p 0).int).length:Int) 100) (bif !(numOk (hasB (hasS (gd p 0).int) 99) (gd p 4).int 0 1000000000) then ob false
 else nd (leI ((hasS (gd p 0).int).length:Int) 100) (bif !(numOk (hasB (hasS (gd p 0).int) 110) (gd p 5).int 0 1000000000) then ob false
 else nd (leI ((hasS (gd p 0).int).length:Int) 100) (bif !(numOk (hasB (hasS (gd p 0).int) 107) (gd p 6).int 0 1000000000) then ob false
 else nd (leI ((hasS (gd p 0).int).length:Int) 100) (bif !(numOk (hasB (hasS (gd p 0).int) 67) (gd p 7).int 0 1000000000) then ob false
 else nd (leI ((hasS (gd p 0).int).length:Int) 100) (bif hasB (hasS (gd p 0).int) 100 then bif !(cmdOk (sub p 10 3)) then ob false
 else nd (leI ((hasS (gd p 0).int).length:Int) 100) (bif !(hasB (hasS (gd p 0).int) 100) then bif !(eqRow [si,si,si] (sub p 10 3) [.i 0,.i 0,.i 0]) then ob false
 else bif ltI (gd p 2).int (gd p 5).int then ob false
 else nd (leI ((hasS (gd p 0).int).length:Int) 100) (bif hasB (hasS (gd p 0).int) 108 then bif logOk (sub p 13 4) then ob (inB (gd p 4).int (gd p 13).int (logEnd (sub p 13 4)))
 else ob false
 else ob (sameLg (sub p 13 4) [.i 0,.l [],.l [],.l []]))
 else bif ltI (gd p 2).int (gd p 5).int then ob false
 else nd (leI ((hasS (gd p 0).int).length:Int) 100) (bif hasB (hasS (gd p 0).int) 108 then bif logOk (sub p 13 4) then ob (inB (gd p 4).int (gd p 13).int (logEnd (sub p 13 4)))
 else ob false
 else ob (sameLg (sub p 13 4) [.i 0,.l [],.l [],.l []])))
 else nd (leI ((hasS (gd p 0).int).length:Int) 100) (bif !(hasB (hasS (gd p 0).int) 100) then bif !(eqRow [si,si,si] (sub p 10 3) [.i 0,.i 0,.i 0]) then ob false
 else bif ltI (gd p 2).int (gd p 5).int then ob false
 else nd (leI ((hasS (gd p 0).int).length:Int) 100) (bif hasB (hasS (gd p 0).int) 108 then bif logOk (sub p 13 4) then ob (inB (gd p 4).int (gd p 13).int (logEnd (sub p 13 4)))
 else ob false
 else ob (sameLg (sub p 13 4) [.i 0,.l [],.l [],.l []]))
 else bif ltI (gd p 2).int (gd p 5).int then ob false
 else nd (leI ((hasS (gd p 0).int).length:Int) 100) (bif hasB (hasS (gd p 0).int) 108 then bif logOk (sub p 13 4) then ob (inB (gd p 4).int (gd p 13).int (logEnd (sub p 13 4)))
 else ob false
 else ob (sameLg (sub p 13 4) [.i 0,.l [],.l [],.l []])))))))))))))):=by kernel_rfl
theorem fieldsF_len (k:Int):leI ((fieldsF k).length:Int) 100=true:=by
 unfold fieldsF
 cases k==1 with
 | true=>rfl
 | false =>
 rw [cond_false]
 cases k==2 with
 | true=>rfl
 | false =>
 rw [cond_false]
 cases k==3 with
 | true=>rfl
 | false =>
 rw [cond_false]
 cases k==4 with
 | true=>rfl
 | false =>
 rw [cond_false]
 cases k==5 with
 | true=>rfl
 | false =>
 rw [cond_false]
 cases k==6 with
 | true=>rfl
 | false =>
 rw [cond_false]
 cases k==7 with
 | true=>rfl
 | false =>
 rw [cond_false]
 cases k==8 with
 | true=>rfl
 | false =>
 rw [cond_false]
 cases k==9 with
 | true=>rfl
 | false =>
 rw [cond_false]
 cases k==10 with
 | true=>rfl
 | false =>
 rw [cond_false]
 cases k==11 with
 | true=>rfl
 | false =>
 rw [cond_false]
 cases k==12 with
 | true=>rfl
 | false =>
 rw [cond_false]
 decide
theorem hasS_len (k:Int):leI ((hasS k).length:Int) 100=true:=by
 unfold hasS
 cases k==1 with
 | true=>rfl
 | false =>
 rw [cond_false]
 cases k==2 with
 | true=>rfl
 | false =>
 rw [cond_false]
 cases k==3 with
 | true=>rfl
 | false =>
 rw [cond_false]
 cases k==4 with
 | true=>rfl
 | false =>
 rw [cond_false]
 cases k==5 with
 | true=>rfl
 | false =>
 rw [cond_false]
 cases k==6 with
 | true=>rfl
 | false =>
 rw [cond_false]
 cases k==7 with
 | true=>rfl
 | false =>
 rw [cond_false]
 cases k==8 with
 | true=>rfl
 | false =>
 rw [cond_false]
 cases k==9 with
 | true=>rfl
 | false =>
 rw [cond_false]
 cases k==10 with
 | true=>rfl
 | false =>
 rw [cond_false]
 cases k==11 with
 | true=>rfl
 | false =>
 rw [cond_false]
 cases k==12 with
 | true=>rfl
 | false =>
 rw [cond_false]
 decide
def fitsS (p:List D):Bool:= !(hasS (gd p 0).int == [])&&(numOk (hasB (hasS (gd p 0).int) 102) (gd p 1).int 0 4&&(numOk (hasB (hasS (gd p 0).int) 82) (gd p 8).int 1 1000000000&&(numOk (hasB (hasS (gd p 0).int) 65) (gd p 9).int (-1) 1000000000&&(numOk (hasB (hasS (gd p 0).int) 118) (gd p 2).int 0 1000000000&&(numOk (hasB (hasS (gd p 0).int) 111) (gd p 3).int 0 1000000000&&(numOk (hasB (hasS (gd p 0).int) 99) (gd p 4).int 0 1000000000&&(numOk (hasB (hasS (gd p 0).int) 110) (gd p 5).int 0 1000000000&&(numOk (hasB (hasS (gd p 0).int) 107) (gd p 6).int 0 1000000000&&(numOk (hasB (hasS (gd p 0).int) 67) (gd p 7).int 0 1000000000&&((bif hasB (hasS (gd p 0).int) 100 then cmdOk (sub p 10 3) else eqRow [si,si,si] (sub p 10 3) [.i 0,.i 0,.i 0])&&(!ltI (gd p 2).int (gd p 5).int&&(bif hasB (hasS (gd p 0).int) 108 then logOk (sub p 13 4)&&inB (gd p 4).int (gd p 13).int (logEnd (sub p 13 4)) else sameLg (sub p 13 4) [.i 0,.l [],.l [],.l []]))))))))))))
def s_MsgFitsE:Ent:=(66,e1 (ag rIMsg) fun p=>(⟨rb,[.b (fitsS p)]⟩,true))
theorem s_MsgFits_ok:EntOk Tryz.prog s_MsgFitsE:=e1_ok fun p h=>evFn_sound (N:=0) (ks:=s_MsgFitsK) (key:=bo) s_MsgFitsT_ok (enters Tryz.func66) Tryz.func66 fun hw=>by
 rw [s_MsgFits_ev]
 have hs:=hasS_len (gd p 0).int
 simp only [hs,nd_true]
 unfold fitsS
 cases hasS (gd p 0).int == [] with
 | true=>rfl
 | false =>
 cases numOk (hasB (hasS (gd p 0).int) 102) (gd p 1).int 0 4 with
 | false=>rfl
 | true =>
 cases numOk (hasB (hasS (gd p 0).int) 82) (gd p 8).int 1 1000000000 with
 | false=>rfl
 | true =>
 cases numOk (hasB (hasS (gd p 0).int) 65) (gd p 9).int (-1) 1000000000 with
 | false=>rfl
 | true =>
 cases numOk (hasB (hasS (gd p 0).int) 118) (gd p 2).int 0 1000000000 with
 | false=>rfl
 | true =>
 cases numOk (hasB (hasS (gd p 0).int) 111) (gd p 3).int 0 1000000000 with
 | false=>rfl
 | true =>
 cases numOk (hasB (hasS (gd p 0).int) 99) (gd p 4).int 0 1000000000 with
 | false=>rfl
 | true =>
 cases numOk (hasB (hasS (gd p 0).int) 110) (gd p 5).int 0 1000000000 with
 | false=>rfl
 | true =>
 cases numOk (hasB (hasS (gd p 0).int) 107) (gd p 6).int 0 1000000000 with
 | false=>rfl
 | true =>
 cases numOk (hasB (hasS (gd p 0).int) 67) (gd p 7).int 0 1000000000 with
 | false=>rfl
 | true =>
 cases hasB (hasS (gd p 0).int) 100 <;> cases cmdOk (sub p 10 3) <;> cases eqRow [si,si,si] (sub p 10 3) [.i 0,.i 0,.i 0] <;> cases ltI (gd p 2).int (gd p 5).int <;> cases hasB (hasS (gd p 0).int) 108 <;> cases logOk (sub p 13 4) <;> rfl
end Go.Proofs.YthbbbhpjkgpdcaaGreat
namespace Go.Proofs.YthbbbhpjkgpdcaaGreat
def bs (l:List UInt8):ByteArray:=⟨l.toArray⟩
theorem bs_app (a b:List UInt8):bs a++bs b=bs (a++b):=by
 unfold bs
 rw [ByteArray.ext_iff]
 simp
theorem bs_size (a:List UInt8):(bs a).size=a.length:=by simp [bs,ByteArray.size]
end Go.Proofs.YthbbbhpjkgpdcaaGreat
namespace Go.Proofs.YthbbbhpjkgpdcaaGreat
open Go.ChangeShapes Go.WideShapes Go.ChangeAt Go.RowKit
def bAt (l:List UInt8) (i:Nat):Int:=((l.getD i 0).toNat:Int)
theorem bs_mk (a:Array UInt8):ByteArray.mk a=bs a.toList:=by unfold bs; simp
theorem bs_get (l:List UInt8) (i:Nat) (h:i<(bs l).size):((((bs l)[i]'h).toNat:Nat):Int)=bAt l i:=by
 have h':i<l.length:=by rw [bs_size] at h; exact h
 unfold bAt
 rw [List.getD_eq_getElem?_getD,List.getElem?_eq_getElem h']
 rfl
theorem bs_extract (l:List UInt8) (i j:Nat):(bs l).extract i j=bs ((l.take j).drop i):=by
 unfold bs
 rw [ByteArray.ext_iff]
 simp [List.extract_eq_take_drop,List.drop_take]
theorem bs_toList (l:List UInt8):(bs l).toList=l:=by
 rw [ByteArray.toList_eq]; simp [bs]
attribute [go_sem] bs_mk bs_get bs_extract bs_toList bs_size bs_app
theorem bcell {W w1:World} (hb:Below W.heap.size W w1):(∀ b o,b<W.heap.size→w1.cell? ⟨b,o,none⟩=W.cell? ⟨b,o,none⟩)∧(∀ b o,b<W.heap.size→w1.frozen? ⟨b,o,none⟩=W.frozen? ⟨b,o,none⟩):=
 ⟨fun b o h=>hb.cell (p:=⟨b,o,none⟩) h,fun b o h=>hb.frozen (p:=⟨b,o,none⟩) h⟩
end Go.Proofs.YthbbbhpjkgpdcaaGreat
