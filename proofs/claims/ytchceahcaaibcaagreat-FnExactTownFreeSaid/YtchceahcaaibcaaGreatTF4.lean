/-
 Texts of the proof,put together: part 4.
-/
import Derived.Test.YtchceahcaaibcaaGreatTF1
import Derived.Test.YtchceahcaaibcaaGreatTF2
import Derived.Test.YtchceahcaaibcaaGreatTF3
set_option linter.unusedSimpArgs false
set_option linter.unusedVariables false
set_option linter.unusedSectionVars false
namespace Go.Proofs.YtchceahcaaibcaaGreat
set_option maxRecDepth 4096
theorem and_ob (c x:Bool):(bif c then ob x else ob false)=ob (c&&x):=by cases c <;> rfl
def inB (n a b:Int):Bool:=decide (n≥a)&&decide (n≤b)
theorem i_from_ev (p q r:List D) (N:Nat):evFn Tryz.prog (find []) N [0,1,2,6] Tryz.f61 (rb) [⟨ri,p⟩,⟨ri,q⟩,⟨ri,r⟩]=some (bo,bif decide ((gd p 0).int≥(gd q 0).int) then ob (decide ((gd p 0).int≤(gd r 0).int)) else ob false):=by kernel_rfl
def i_fromE:Ent:=(61,e3 (ri) (ri) (ri) fun p q r=>(⟨rb,[.b (inB (gd p 0).int (gd q 0).int (gd r 0).int)]⟩,true))
theorem i_from_ok:EntOk Tryz.prog i_fromE:=e3_ok fun p q r h=>evFn_sound (N:=0) (ks:= [0,1,2,6]) (key:=bo) (find_ok (fN)) (enters Tryz.func61) Tryz.func61 fun _=>by
 rw [i_from_ev]
 rw [and_ob]; rfl
theorem s_l1In_ev (p q r:List D) (N:Nat):evFn Tryz.prog (find []) N [0,1,2,6] Tryz.f47 (rb) [⟨ri,p⟩,⟨ri,q⟩,⟨ri,r⟩]=some (bo,bif decide ((gd p 0).int≥(gd q 0).int) then ob (decide ((gd p 0).int≤(gd r 0).int)) else ob false):=by kernel_rfl
def s_l1InE:Ent:=(47,e3 (ri) (ri) (ri) fun p q r=>(⟨rb,[.b (inB (gd p 0).int (gd q 0).int (gd r 0).int)]⟩,true))
theorem s_l1In_ok:EntOk Tryz.prog s_l1InE:=e3_ok fun p q r h=>evFn_sound (N:=0) (ks:= [0,1,2,6]) (key:=bo) (find_ok (fN)) (enters Tryz.func47) Tryz.func47 fun _=>by
 rw [s_l1In_ev]
 rw [and_ob]; rfl
theorem i_isWhole_ev (p:List D) (N:Nat):evFn Tryz.prog (find [i_fromE]) N [0,2] Tryz.f255 (rb) [⟨ri,p⟩]=some (bo,ob (inB (gd p 0).int (0) (1000000000))):=by kernel_rfl
def i_isWholeE:Ent:=(255,e1 (ri) fun p=>(⟨rb,[.b (inB (gd p 0).int (0) (1000000000))]⟩,true))
theorem i_isWhole_ok:EntOk Tryz.prog i_isWholeE:=e1_ok fun p h=>evFn_sound (N:=0) (ks:= [0,2]) (key:=bo) (find_ok (fC ⟨i_from_ok,fN⟩)) (enters Tryz.func255) Tryz.func255 fun _=>by
 rw [i_isWhole_ev]
 skip
theorem i_isReq_ev (p:List D) (N:Nat):evFn Tryz.prog (find [i_fromE]) N [0,2] Tryz.f256 (rb) [⟨ri,p⟩]=some (bo,ob (inB (gd p 0).int (1) (1000000000))):=by kernel_rfl
def i_isReqE:Ent:=(256,e1 (ri) fun p=>(⟨rb,[.b (inB (gd p 0).int (1) (1000000000))]⟩,true))
theorem i_isReq_ok:EntOk Tryz.prog i_isReqE:=e1_ok fun p h=>evFn_sound (N:=0) (ks:= [0,2]) (key:=bo) (find_ok (fC ⟨i_from_ok,fN⟩)) (enters Tryz.func256) Tryz.func256 fun _=>by
 rw [i_isReq_ev]
 skip
theorem i_isAnswer_ev (p:List D) (N:Nat):evFn Tryz.prog (find [i_fromE]) N [0,2] Tryz.f274 (rb) [⟨ri,p⟩]=some (bo,ob (inB (gd p 0).int (-1) (1000000000))):=by kernel_rfl
def i_isAnswerE:Ent:=(274,e1 (ri) fun p=>(⟨rb,[.b (inB (gd p 0).int (-1) (1000000000))]⟩,true))
theorem i_isAnswer_ok:EntOk Tryz.prog i_isAnswerE:=e1_ok fun p h=>evFn_sound (N:=0) (ks:= [0,2]) (key:=bo) (find_ok (fC ⟨i_from_ok,fN⟩)) (enters Tryz.func274) Tryz.func274 fun _=>by
 rw [i_isAnswer_ev]
 skip
theorem i_isKey_ev (p:List D) (N:Nat):evFn Tryz.prog (find [i_fromE]) N [0,2] Tryz.f96 (rb) [⟨ri,p⟩]=some (bo,ob (inB (gd p 0).int (0) (999))):=by kernel_rfl
def i_isKeyE:Ent:=(96,e1 (ri) fun p=>(⟨rb,[.b (inB (gd p 0).int (0) (999))]⟩,true))
theorem i_isKey_ok:EntOk Tryz.prog i_isKeyE:=e1_ok fun p h=>evFn_sound (N:=0) (ks:= [0,2]) (key:=bo) (find_ok (fC ⟨i_from_ok,fN⟩)) (enters Tryz.func96) Tryz.func96 fun _=>by
 rw [i_isKey_ev]
 skip
theorem i_isGroup_ev (p:List D) (N:Nat):evFn Tryz.prog (find [i_fromE]) N [0,2] Tryz.f160 (rb) [⟨ri,p⟩]=some (bo,ob (inB (gd p 0).int (0) (3))):=by kernel_rfl
def i_isGroupE:Ent:=(160,e1 (ri) fun p=>(⟨rb,[.b (inB (gd p 0).int (0) (3))]⟩,true))
theorem i_isGroup_ok:EntOk Tryz.prog i_isGroupE:=e1_ok fun p h=>evFn_sound (N:=0) (ks:= [0,2]) (key:=bo) (find_ok (fC ⟨i_from_ok,fN⟩)) (enters Tryz.func160) Tryz.func160 fun _=>by
 rw [i_isGroup_ev]
 skip
theorem s_l1Whole_ev (p:List D) (N:Nat):evFn Tryz.prog (find [s_l1InE]) N [0,2] Tryz.f238 (rb) [⟨ri,p⟩]=some (bo,ob (inB (gd p 0).int (0) (1000000000))):=by kernel_rfl
def s_l1WholeE:Ent:=(238,e1 (ri) fun p=>(⟨rb,[.b (inB (gd p 0).int (0) (1000000000))]⟩,true))
theorem s_l1Whole_ok:EntOk Tryz.prog s_l1WholeE:=e1_ok fun p h=>evFn_sound (N:=0) (ks:= [0,2]) (key:=bo) (find_ok (fC ⟨s_l1In_ok,fN⟩)) (enters Tryz.func238) Tryz.func238 fun _=>by
 rw [s_l1Whole_ev]
 skip
theorem s_l10Key_ev (p:List D) (N:Nat):evFn Tryz.prog (find [s_l1InE]) N [0,2] Tryz.f94 (rb) [⟨ri,p⟩]=some (bo,ob (inB (gd p 0).int (0) (999))):=by kernel_rfl
def s_l10KeyE:Ent:=(94,e1 (ri) fun p=>(⟨rb,[.b (inB (gd p 0).int (0) (999))]⟩,true))
theorem s_l10Key_ok:EntOk Tryz.prog s_l10KeyE:=e1_ok fun p h=>evFn_sound (N:=0) (ks:= [0,2]) (key:=bo) (find_ok (fC ⟨s_l1In_ok,fN⟩)) (enters Tryz.func94) Tryz.func94 fun _=>by
 rw [s_l10Key_ev]
 skip
def rangeOk (p:List D):Bool:=decide ((gd p 0).int≥0)&&(decide ((gd p 0).int<(gd p 1).int)&&decide ((gd p 1).int≤1000))
theorem i_RangeOk_ev (p:List D) (N:Nat):evFn Tryz.prog (find []) N [0,1,2] Tryz.f188 (rb) [⟨ag rIRange,p⟩]=some (bo,bif decide ((gd p 0).int≥0) then bif decide ((gd p 0).int<(gd p 1).int) then ob (decide ((gd p 1).int≤1000)) else ob false else ob false):=by kernel_rfl
def i_RangeOkE:Ent:=(188,e1 (ag rIRange) fun p=>(⟨rb,[.b (rangeOk p)]⟩,true))
theorem i_RangeOk_ok:EntOk Tryz.prog i_RangeOkE:=e1_ok fun p h=>evFn_sound (N:=0) (ks:= [0,1,2]) (key:=bo) (find_ok (fN)) (enters Tryz.func188) Tryz.func188 fun _=>by
 rw [i_RangeOk_ev]
 simp only [and_ob]; rfl
theorem s_RangeOk_ev (p:List D) (N:Nat):evFn Tryz.prog (find []) N [0,1,2] Tryz.f128 (rb) [⟨ag rIRange,p⟩]=some (bo,bif decide ((gd p 0).int≥0) then bif decide ((gd p 0).int<(gd p 1).int) then ob (decide ((gd p 1).int≤1000)) else ob false else ob false):=by kernel_rfl
def s_RangeOkE:Ent:=(128,e1 (ag rIRange) fun p=>(⟨rb,[.b (rangeOk p)]⟩,true))
theorem s_RangeOk_ok:EntOk Tryz.prog s_RangeOkE:=e1_ok fun p h=>evFn_sound (N:=0) (ks:= [0,1,2]) (key:=bo) (find_ok (fN)) (enters Tryz.func128) Tryz.func128 fun _=>by
 rw [s_RangeOk_ev]
 simp only [and_ob]; rfl
end Go.Proofs.YtchceahcaaibcaaGreat
namespace Go.Proofs.YtchceahcaaibcaaGreat
set_option maxRecDepth 4096
def writeAt (z:D) (k:Nat):Bool:=inB (gd (z.rows.getD k []) 0).int 0 999&&(inB (gd (z.rows.getD k []) 1).int (-1) 1000000000&&(k==0 || !decide ((gd (z.rows.getD (k - 1) []) 0).int≥(gd (z.rows.getD k []) 0).int)))
def writesOk (z:D):Bool:=decide ((z.rows.length:Int)≤60)&&(List.range z.rows.length).all (writeAt z)
theorem pre_nat {k:Nat} (h:k≠0) (h':k≤9223372036854775807):w64 ((k:Int) - 1)=((k - 1:Nat):Int):=by
 rw [w64_id (by omega) (by omega)]; omega
noncomputable def swL (N:Nat) (p:List D):List D→Out:=loopOf Tryz.prog (find [s_l1InE,s_l10KeyE]) N [0,2,3,6,10,46] Tryz.f143 rb [⟨sd (.sl 132),p⟩] 0
theorem sw_rd (p:List D) (N:Nat) (z x2 y:D) (k:Int):swL N p [z,x2,y,.i k] =
 bif decide (k<z.rows.length) then nd (inRange k z.rows.length) (bif !(inB (gd (z.rows.getD k.toNat []) 0).int 0 999) then ob false else nd (inRange k z.rows.length) (bif !(inB (gd (z.rows.getD k.toNat []) 1).int (-1) 1000000000) then ob false else
  bif decide (k > 0) then nd (inRange (w64 (k - 1)) z.rows.length) (nd (inRange k z.rows.length) (bif decide ((gd (z.rows.getD (w64 (k - 1)).toNat []) 0).int≥(gd (z.rows.getD k.toNat []) 0).int) then ob false else nx [z,x2,y,.i (w64 (k+1))])) else nx [z,x2,y,.i (w64 (k+1))])) else ex 0 [z,x2,y,.i k]:=by kernel_rfl
theorem sw_ev (p:List D) (N:Nat):evFn Tryz.prog (find [s_l1InE,s_l10KeyE]) N [0,2,3,6,10,46] Tryz.f143 rb [⟨sd (.sl 132),p⟩]=some (bo,bif decide (((gd p 0).rows.length:Int) > 60) then ob false else
  (let o:=iter (swL N p) N [gd p 0,D0,.b (decide (((gd p 0).rows.length:Int) > 60)),.i 0]
  nd o.isSome (bif o.code==1 then some (1,o.pay) else nd (o.code==2) (ob true)))):=by kernel_rfl
noncomputable def iwL (N:Nat) (p:List D):List D→Out:=loopOf Tryz.prog (find [i_isKeyE,i_isAnswerE]) N [0,2,3,4,5,6,7,8,36] Tryz.f190 rb [⟨sd (.sl 132),p⟩] 0
theorem iw_rd (p:List D) (N:Nat) (z x2 z5:D) (n k:Int):iwL N p [z,x2,z5,.i n,.i k] =
  bif decide (k<n) then nd (inRange k z5.rows.length)
   (bif !(inB (gd (z5.rows.getD k.toNat []) 0).int 0 999) then ob false else bif !(inB (gd (z5.rows.getD k.toNat []) 1).int (-1) 1000000000) then ob false else
   bif decide (k > 0) then nd (inRange (w64 (k - 1)) z.rows.length) (bif decide ((gd (z.rows.getD (w64 (k - 1)).toNat []) 0).int≥(gd (z5.rows.getD k.toNat []) 0).int) then ob false else nx [z,x2,z5,.i n,.i (w64 (k+1))]) else nx [z,x2,z5,.i n,.i (w64 (k+1))])
  else ex 0 [z,x2,z5,.i n,.i k]:=by kernel_rfl
theorem iw_ev (p:List D) (N:Nat):evFn Tryz.prog (find [i_isKeyE,i_isAnswerE]) N [0,2,3,4,5,6,7,8,36] Tryz.f190 rb [⟨sd (.sl 132),p⟩]=some (bo,
  (let o:=iter (iwL N p) N [gd p 0,D0,gd p 0,.i (gd p 0).rows.length,.i 0]
  nd o.isSome (bif o.code==1 then some (1,o.pay) else nd (o.code==2) (ob (decide (((gd o.pay 0).rows.length:Int)≤60)))))):=by kernel_rfl
def s_WritesOkE:Ent:=(143,e1 (sd (.sl 132)) fun p=>(⟨rb,[.b (writesOk (gd p 0))]⟩,true))
def i_WritesOkE:Ent:=(190,e1 (sd (.sl 132)) fun p=>(⟨rb,[.b (writesOk (gd p 0))]⟩,true))
theorem s_WritesOk_ok:EntOk Tryz.prog s_WritesOkE:=e1_ok fun p _=>evFn_sound (N:=(gd p 0).rows.length+1) (ks:= [0,2,3,6,10,46]) (key:=bo) (find_ok (fC ⟨s_l1In_ok,fC ⟨s_l10Key_ok,fN⟩⟩)) (enters Tryz.func143) Tryz.func143 fun hw=>by
 have hl:=wt_sl (hw ⟨sd (.sl 132),p⟩ (by simp))
 rw [sw_ev]
 by_cases h60:((gd p 0).rows.length:Int)≤60
 ·have e:=all_loop (L:=swL ((gd p 0).rows.length+1) p) (fun k => [gd p 0,D0,.b (decide (((gd p 0).rows.length:Int) > 60)),.i (k:Int)]) (gd p 0).rows.length (writeAt (gd p 0)) [.b false] [gd p 0,D0,.b (decide (((gd p 0).rows.length:Int) > 60)),.i (gd p 0).rows.length] 0 (fun k hk=>?_) ?_ (Nat.lt_succ_self _)
  ·simp only [Int.natCast_zero] at e
   rw [e,show decide (((gd p 0).rows.length:Int) > 60)=false from decide_eq_false (by omega)]
   simp only [writesOk,h60,decide_true,Bool.true_and]
   cases (List.range (gd p 0).rows.length).all (writeAt (gd p 0)) <;> rfl
  ·show swL _ p [gd p 0,D0,_,.i (k:Int)]=_
   rw [sw_rd,decide_eq_true (show (k:Int)<(gd p 0).rows.length from by omega),inRange_nat hk]
   simp only [cond_true,nd,Int.toNat_natCast,writeAt]
   cases inB (gd ((gd p 0).rows.getD k []) 0).int 0 999 <;> simp only [Bool.not_true,Bool.not_false,cond_true,cond_false,Bool.false_and,Bool.true_and] <;> first | rfl | skip
   cases inB (gd ((gd p 0).rows.getD k []) 1).int (-1) 1000000000 <;> simp only [Bool.not_true,Bool.not_false,cond_true,cond_false,Bool.false_and,Bool.true_and] <;> first | rfl | skip
   rw [w64_id (x:=(k:Int)+1) (by omega) (by omega)]
   by_cases h0:k=0
   ·subst h0; rfl
   ·rw [decide_eq_true (show (k:Int) > 0 from by omega),pre_nat h0 (by omega),inRange_nat (show k - 1<(gd p 0).rows.length from by omega),show (k==0)=false from by simpa using h0]
    simp only [cond_true,Int.toNat_natCast,Bool.false_or]
    cases decide ((gd ((gd p 0).rows.getD (k - 1) []) 0).int≥(gd ((gd p 0).rows.getD k []) 0).int) <;> rfl
  ·show swL _ p [gd p 0,D0,_,.i ((gd p 0).rows.length:Int)]=_
   rw [sw_rd,decide_eq_false (show ¬ ((gd p 0).rows.length:Int)<(gd p 0).rows.length from by omega)]
   rfl
 ·rw [decide_eq_true (show ((gd p 0).rows.length:Int) > 60 from by omega)]
  simp only [writesOk,h60,decide_false,Bool.false_and]
  rfl
theorem i_WritesOk_ok:EntOk Tryz.prog i_WritesOkE:=e1_ok fun p _=>evFn_sound (N:=(gd p 0).rows.length+1) (ks:= [0,2,3,4,5,6,7,8,36]) (key:=bo) (find_ok (fC ⟨i_isKey_ok,fC ⟨i_isAnswer_ok,fN⟩⟩)) (enters Tryz.func190) Tryz.func190 fun hw=>by
 have hl:=wt_sl (hw ⟨sd (.sl 132),p⟩ (by simp))
 have e:=all_loop (L:=iwL ((gd p 0).rows.length+1) p) (fun k => [gd p 0,D0,gd p 0,.i (gd p 0).rows.length,.i (k:Int)]) (gd p 0).rows.length (writeAt (gd p 0)) [.b false] [gd p 0,D0,gd p 0,.i (gd p 0).rows.length,.i (gd p 0).rows.length] 0 (fun k hk=>?_) ?_ (Nat.lt_succ_self _)
 ·simp only [Int.natCast_zero] at e
  rw [iw_ev,e]
  cases hq:(List.range (gd p 0).rows.length).all (writeAt (gd p 0))
  ·simp only [writesOk,hq,Bool.and_false]; rfl
  ·simp only [writesOk,hq,Bool.and_true]; rfl
 ·show iwL _ p [gd p 0,D0,gd p 0,.i _,.i (k:Int)]=_
  rw [iw_rd,decide_eq_true (show (k:Int)<(gd p 0).rows.length from by omega),inRange_nat hk]
  simp only [cond_true,nd,Int.toNat_natCast,writeAt]
  cases inB (gd ((gd p 0).rows.getD k []) 0).int 0 999 <;> simp only [Bool.not_true,Bool.not_false,cond_true,cond_false,Bool.false_and,Bool.true_and] <;> first | rfl | skip
  cases inB (gd ((gd p 0).rows.getD k []) 1).int (-1) 1000000000 <;> simp only [Bool.not_true,Bool.not_false,cond_true,cond_false,Bool.false_and,Bool.true_and] <;> first | rfl | skip
  rw [w64_id (x:=(k:Int)+1) (by omega) (by omega)]
  by_cases h0:k=0
  ·subst h0; rfl
  ·rw [decide_eq_true (show (k:Int) > 0 from by omega),pre_nat h0 (by omega),inRange_nat (show k - 1<(gd p 0).rows.length from by omega),show (k==0)=false from by simpa using h0]
   simp only [cond_true,Int.toNat_natCast,Bool.false_or]
   cases decide ((gd ((gd p 0).rows.getD (k - 1) []) 0).int≥(gd ((gd p 0).rows.getD k []) 0).int) <;> rfl
 ·show iwL _ p [gd p 0,D0,gd p 0,.i _,.i ((gd p 0).rows.length:Int)]=_
  rw [iw_rd,decide_eq_false (show ¬ ((gd p 0).rows.length:Int)<(gd p 0).rows.length from by omega)]
  rfl
end Go.Proofs.YtchceahcaaibcaaGreat
namespace Go.Proofs.YtchceahcaaibcaaGreat
set_option maxRecDepth 4096
def ixF (C:Nat→Bool):Nat→Nat→Int
 | _,0 => -1
 | k,m+1=>bif C k then k else ixF C (k+1) m
theorem ixF_any (C:Nat→Bool):∀ (m k:Nat),decide (ixF C k m≥0)=(List.range m).any fun j=>C (k+j)
 | 0,k=>rfl
 | m+1,k=>by
  rw [ixF,List.range_succ_eq_map,List.any_cons,List.any_map]
  cases hc:C k with
  | true=>simp [hc]
  | false =>
   simp only [cond_false,Nat.add_zero,hc,Bool.false_or]
   rw [ixF_any C m (k+1)]
   congr 1
   funext j
   simp only [Function.comp]
   congr 1; omega
theorem ix_loop {L:List D→Out} (st:Nat→List D) (n:Nat) (C:Nat→Bool) (fin:List D) (h1:∀ k,k<n→L (st k)=some (bif C k then (1,[.i (k:Int)]) else (0,st (k+1)))) (h2:L (st n)=some (2,fin)) :
  ∀ (m k N:Nat),k+m=n→m<N→iter L N (st k)=some (bif decide (ixF C k m≥0) then (1,[.i (ixF C k m)]) else (2,fin)):=by
 intro m
 induction m with
 | zero =>
  intro k N hk hN
  obtain ⟨N,rfl⟩:∃ N',N=N'+1:=⟨N - 1,by omega⟩
  obtain rfl:k=n:=by omega
  rw [iter,h2]; rfl
 | succ m ih =>
  intro k N hk hN
  obtain ⟨N,rfl⟩:∃ N',N=N'+1:=⟨N - 1,by omega⟩
  rw [iter,h1 k (by omega),ixF]
  cases hc:C k with
  | true=>simp only [cond_true]; rw [decide_eq_true (show (k:Int)≥0 from by omega)]; rfl
  | false=>simp only [cond_false]; exact ih (k+1) N (by omega) (by omega)
def anyS (C:List D→Bool) (z:D):Bool:=(List.range z.rows.length).any fun k=>C (z.rows.getD k [])
theorem ixF_neg (C:Nat→Bool):∀ (m k:Nat),decide (ixF C k m≥0)=false→ixF C k m = -1
 | 0,k,_=>rfl
 | m+1,k,h=>by
  rw [ixF] at h ⊢
  cases hc:C k with
  | true=>rw [hc,cond_true,decide_eq_true (show (k:Int)≥0 from by omega)] at h; cases h
  | false=>rw [hc,cond_false] at h; rw [cond_false]; exact ixF_neg C m (k+1) h
theorem i_readsOk_1_ev (p:List D) (N:Nat):evFn Tryz.prog (find [i_RangeOkE]) N [0,1,2] Tryz.f273 (rb) [⟨ag rIRange,p⟩]=some (bo,ob (!rangeOk p)):=by kernel_rfl
def i_readsOk_1E:Ent:=(273,e1 (ag rIRange) fun p=>(⟨rb,[.b (!rangeOk p)]⟩,true))
theorem i_readsOk_1_ok:EntOk Tryz.prog i_readsOk_1E:=e1_ok fun p h=>evFn_sound (N:=0) (ks:= [0,1,2]) (key:=bo) (find_ok (fC ⟨i_RangeOk_ok,fN⟩)) (enters Tryz.func273) Tryz.func273 fun _=>by
 rw [i_readsOk_1_ev]
 skip
theorem i_votes_1_ev (p q:List D) (N:Nat):evFn Tryz.prog (find []) N [0,1,2,3] Tryz.f276 (rb) [⟨ag rIShare,p⟩,⟨.one (.c (.cptr [si] 0)),q⟩]=some (bo,ob ((gd p 3).int==(gd ((gd q 0).rows.getD 0 []) 0).int)):=by kernel_rfl
def i_votes_1E:Ent:=(276,e2 (ag rIShare) (.one (.c (.cptr [si] 0))) fun p q=>(⟨rb,[.b ((gd p 3).int==(gd ((gd q 0).rows.getD 0 []) 0).int)]⟩,true))
theorem i_votes_1_ok:EntOk Tryz.prog i_votes_1E:=e2_ok fun p q h=>evFn_sound (N:=0) (ks:= [0,1,2,3]) (key:=bo) (find_ok (fN)) (enters Tryz.func276) Tryz.func276 fun _=>by
 rw [i_votes_1_ev]
 skip
theorem i_CoordOk_1_ev (p q:List D) (N:Nat):evFn Tryz.prog (find []) N [0,1,2,3] Tryz.f159 (rb) [⟨ag rIRec,p⟩,⟨.one (.c (.cptr rIRec 0)),q⟩]=some (bo,bif ((gd p 1).int==(gd ((gd q 0).rows.getD 0 []) 1).int) then ob ((gd p 2).int==(gd ((gd q 0).rows.getD 0 []) 2).int) else ob false):=by kernel_rfl
def i_CoordOk_1E:Ent:=(159,e2 (ag rIRec) (.one (.c (.cptr rIRec 0))) fun p q=>(⟨rb,[.b (((gd p 1).int==(gd ((gd q 0).rows.getD 0 []) 1).int)&&((gd p 2).int==(gd ((gd q 0).rows.getD 0 []) 2).int))]⟩,true))
theorem i_CoordOk_1_ok:EntOk Tryz.prog i_CoordOk_1E:=e2_ok fun p q h=>evFn_sound (N:=0) (ks:= [0,1,2,3]) (key:=bo) (find_ok (fN)) (enters Tryz.func159) Tryz.func159 fun _=>by
 rw [i_CoordOk_1_ev]
 rw [and_ob]
def ixfRC (c:D) (r:List D):Bool:= !rangeOk r
noncomputable def ixfRL (N:Nat) (p q:List D):List D→Out:=loopOf Tryz.prog (find [i_readsOk_1E]) N [0,1,4,5,7,8,9,16] Tryz.f264 ri [⟨sd (.sl 122),p⟩,⟨.one (.c (.fn 273 [])),q⟩] 0
theorem ixfR_rd (p q:List D) (N:Nat) (z c x:D) (n k:Int):ixfRL N p q [z,c,x,.i n,.i k]=bif decide (k<n) then nd (inRange k z.rows.length) (bif ixfRC c (sub (z.rows.getD k.toNat []) 0 2) then oi k else nx [z,c,x,.i n,.i (w64 (k+1))]) else ex 0 [z,c,x,.i n,.i k]:=by kernel_rfl
theorem ixfR_ev (p q:List D) (N:Nat):evFn Tryz.prog (find [i_readsOk_1E]) N [0,1,4,5,7,8,9,16] Tryz.f264 ri [⟨sd (.sl 122),p⟩,⟨.one (.c (.fn 273 [])),q⟩]=some (bo,(let o:=iter (ixfRL N p q) N [gd p 0,gd q 0,.i 0,.i (gd p 0).rows.length,.i 0]
  nd o.isSome (bif o.code==1 then some (1,o.pay) else nd (o.code==2) (oi (-1))))):=by kernel_rfl
def ixfRE:Ent:=(264,e2 (sd (.sl 122)) (.one (.c (.fn 273 []))) fun p q=>(⟨ri,[.i (ixF (fun k=>ixfRC (gd q 0) (sub ((gd p 0).rows.getD k []) 0 2)) 0 (gd p 0).rows.length)]⟩,true))
theorem ixfR_ok:EntOk Tryz.prog ixfRE:=e2_ok fun p q _=>evFn_sound (N:=(gd p 0).rows.length+1) (ks:= [0,1,4,5,7,8,9,16]) (key:=bo) (find_ok (fC ⟨i_readsOk_1_ok,fN⟩)) (enters Tryz.func264) Tryz.func264 fun hw=>by
 have hl:=wt_sl (hw ⟨sd (.sl 122),p⟩ (by simp))
 have e:=ix_loop (L:=ixfRL ((gd p 0).rows.length+1) p q) (fun k => [gd p 0,gd q 0,.i 0,.i (gd p 0).rows.length,.i (k:Int)]) (gd p 0).rows.length (fun k=>ixfRC (gd q 0) (sub ((gd p 0).rows.getD k []) 0 2)) [gd p 0,gd q 0,.i 0,.i (gd p 0).rows.length,.i (gd p 0).rows.length] (fun k hk=>?_) ?_ (gd p 0).rows.length 0 ((gd p 0).rows.length+1) (by omega) (by omega)
 ·simp only [Int.natCast_zero] at e
  rw [ixfR_ev,e]
  have hno:∀ m k,decide (ixF (fun k=>ixfRC (gd q 0) (sub ((gd p 0).rows.getD k []) 0 2)) k m≥0)=false→ixF (fun k=>ixfRC (gd q 0) (sub ((gd p 0).rows.getD k []) 0 2)) k m = -1:=ixF_neg _
  cases hd:decide (ixF (fun k=>ixfRC (gd q 0) (sub ((gd p 0).rows.getD k []) 0 2)) 0 (gd p 0).rows.length≥0)
  ·rw [hno _ _ hd]; rfl
  ·rfl
 ·show ixfRL _ p q [gd p 0,gd q 0,.i 0,.i _,.i (k:Int)]=_
  rw [ixfR_rd,decide_eq_true (show (k:Int)<(gd p 0).rows.length from by omega),inRange_nat hk,w64_id (by omega) (by omega),Int.toNat_natCast]
  cases hcc:ixfRC (gd q 0) (sub ((gd p 0).rows.getD k []) 0 2) <;> rfl
 ·show ixfRL _ p q [gd p 0,gd q 0,.i 0,.i _,.i ((gd p 0).rows.length:Int)]=_
  rw [ixfR_rd,decide_eq_false (show ¬ ((gd p 0).rows.length:Int)<(gd p 0).rows.length from by omega)]
  rfl
theorem cofR_ev (p q:List D) (N:Nat):evFn Tryz.prog (find [ixfRE]) N [0,1,4] Tryz.f166 rb [⟨sd (.sl 122),p⟩,⟨.one (.c (.fn 273 [])),q⟩]=some (bo,ob (decide (ixF (fun k=>ixfRC (gd q 0) (sub ((gd p 0).rows.getD k []) 0 2)) 0 (gd p 0).rows.length≥0))):=by kernel_rfl
def cofRE:Ent:=(166,e2 (sd (.sl 122)) (.one (.c (.fn 273 []))) fun p q=>(⟨rb,[.b (anyS (fun r=>ixfRC (gd q 0) (sub r 0 2)) (gd p 0))]⟩,true))
theorem cofR_ok:EntOk Tryz.prog cofRE:=e2_ok fun p q _=>evFn_sound (N:=0) (ks:= [0,1,4]) (key:=bo) (find_ok (fC ⟨ixfR_ok,fN⟩)) (enters Tryz.func166) Tryz.func166 fun _=>by
 rw [cofR_ev,ixF_any]
 simp only [Nat.zero_add]
 rfl
def ixfVC (c:D) (r:List D):Bool:=((gd r 3).int==(gd ((gd (c.rows.getD 0 []) 0).rows.getD 0 []) 0).int)
noncomputable def ixfVL (N:Nat) (p q:List D):List D→Out:=loopOf Tryz.prog (find [i_votes_1E]) N [0,1,4,5,7,8,9,16] Tryz.f321 ri [⟨sd (.sl 118),p⟩,⟨.one (.c (.fn 276 [.cptr [si] 0])),q⟩] 0
theorem ixfV_rd (p q:List D) (N:Nat) (z c x:D) (n k:Int):ixfVL N p q [z,c,x,.i n,.i k]=bif decide (k<n) then nd (inRange k z.rows.length) (bif ixfVC c (sub (z.rows.getD k.toNat []) 0 4) then oi k else nx [z,c,x,.i n,.i (w64 (k+1))]) else ex 0 [z,c,x,.i n,.i k]:=by kernel_rfl
theorem ixfV_ev (p q:List D) (N:Nat):evFn Tryz.prog (find [i_votes_1E]) N [0,1,4,5,7,8,9,16] Tryz.f321 ri [⟨sd (.sl 118),p⟩,⟨.one (.c (.fn 276 [.cptr [si] 0])),q⟩]=some (bo,(let o:=iter (ixfVL N p q) N [gd p 0,gd q 0,.i 0,.i (gd p 0).rows.length,.i 0]
  nd o.isSome (bif o.code==1 then some (1,o.pay) else nd (o.code==2) (oi (-1))))):=by kernel_rfl
def ixfVE:Ent:=(321,e2 (sd (.sl 118)) (.one (.c (.fn 276 [.cptr [si] 0]))) fun p q=>(⟨ri,[.i (ixF (fun k=>ixfVC (gd q 0) (sub ((gd p 0).rows.getD k []) 0 4)) 0 (gd p 0).rows.length)]⟩,true))
theorem ixfV_ok:EntOk Tryz.prog ixfVE:=e2_ok fun p q _=>evFn_sound (N:=(gd p 0).rows.length+1) (ks:= [0,1,4,5,7,8,9,16]) (key:=bo) (find_ok (fC ⟨i_votes_1_ok,fN⟩)) (enters Tryz.func321) Tryz.func321 fun hw=>by
 have hl:=wt_sl (hw ⟨sd (.sl 118),p⟩ (by simp))
 have e:=ix_loop (L:=ixfVL ((gd p 0).rows.length+1) p q) (fun k => [gd p 0,gd q 0,.i 0,.i (gd p 0).rows.length,.i (k:Int)]) (gd p 0).rows.length (fun k=>ixfVC (gd q 0) (sub ((gd p 0).rows.getD k []) 0 4)) [gd p 0,gd q 0,.i 0,.i (gd p 0).rows.length,.i (gd p 0).rows.length] (fun k hk=>?_) ?_ (gd p 0).rows.length 0 ((gd p 0).rows.length+1) (by omega) (by omega)
 ·simp only [Int.natCast_zero] at e
  rw [ixfV_ev,e]
  have hno:∀ m k,decide (ixF (fun k=>ixfVC (gd q 0) (sub ((gd p 0).rows.getD k []) 0 4)) k m≥0)=false→ixF (fun k=>ixfVC (gd q 0) (sub ((gd p 0).rows.getD k []) 0 4)) k m = -1:=ixF_neg _
  cases hd:decide (ixF (fun k=>ixfVC (gd q 0) (sub ((gd p 0).rows.getD k []) 0 4)) 0 (gd p 0).rows.length≥0)
  ·rw [hno _ _ hd]; rfl
  ·rfl
 ·show ixfVL _ p q [gd p 0,gd q 0,.i 0,.i _,.i (k:Int)]=_
  rw [ixfV_rd,decide_eq_true (show (k:Int)<(gd p 0).rows.length from by omega),inRange_nat hk,w64_id (by omega) (by omega),Int.toNat_natCast]
  cases hcc:ixfVC (gd q 0) (sub ((gd p 0).rows.getD k []) 0 4) <;> rfl
 ·show ixfVL _ p q [gd p 0,gd q 0,.i 0,.i _,.i ((gd p 0).rows.length:Int)]=_
  rw [ixfV_rd,decide_eq_false (show ¬ ((gd p 0).rows.length:Int)<(gd p 0).rows.length from by omega)]
  rfl
theorem cofV_ev (p q:List D) (N:Nat):evFn Tryz.prog (find [ixfVE]) N [0,1,4] Tryz.f275 rb [⟨sd (.sl 118),p⟩,⟨.one (.c (.fn 276 [.cptr [si] 0])),q⟩]=some (bo,ob (decide (ixF (fun k=>ixfVC (gd q 0) (sub ((gd p 0).rows.getD k []) 0 4)) 0 (gd p 0).rows.length≥0))):=by kernel_rfl
def cofVE:Ent:=(275,e2 (sd (.sl 118)) (.one (.c (.fn 276 [.cptr [si] 0]))) fun p q=>(⟨rb,[.b (anyS (fun r=>ixfVC (gd q 0) (sub r 0 4)) (gd p 0))]⟩,true))
theorem cofV_ok:EntOk Tryz.prog cofVE:=e2_ok fun p q _=>evFn_sound (N:=0) (ks:= [0,1,4]) (key:=bo) (find_ok (fC ⟨ixfV_ok,fN⟩)) (enters Tryz.func275) Tryz.func275 fun _=>by
 rw [cofV_ev,ixF_any]
 simp only [Nat.zero_add]
 rfl
def ixfKC (c:D) (r:List D):Bool:=((gd r 1).int==(gd ((gd (c.rows.getD 0 []) 0).rows.getD 0 []) 1).int)&&((gd r 2).int==(gd ((gd (c.rows.getD 0 []) 0).rows.getD 0 []) 2).int)
noncomputable def ixfKL (N:Nat) (p q:List D):List D→Out:=loopOf Tryz.prog (find [i_CoordOk_1E]) N [0,1,4,5,7,8,9,16] Tryz.f257 ri [⟨sd (.sl 116),p⟩,⟨.one (.c (.fn 159 [.cptr rIRec 0])),q⟩] 0
theorem ixfK_rd (p q:List D) (N:Nat) (z c x:D) (n k:Int):ixfKL N p q [z,c,x,.i n,.i k]=bif decide (k<n) then nd (inRange k z.rows.length) (bif ixfKC c (sub (z.rows.getD k.toNat []) 0 5) then oi k else nx [z,c,x,.i n,.i (w64 (k+1))]) else ex 0 [z,c,x,.i n,.i k]:=by kernel_rfl
theorem ixfK_ev (p q:List D) (N:Nat):evFn Tryz.prog (find [i_CoordOk_1E]) N [0,1,4,5,7,8,9,16] Tryz.f257 ri [⟨sd (.sl 116),p⟩,⟨.one (.c (.fn 159 [.cptr rIRec 0])),q⟩]=some (bo,(let o:=iter (ixfKL N p q) N [gd p 0,gd q 0,.i 0,.i (gd p 0).rows.length,.i 0]
  nd o.isSome (bif o.code==1 then some (1,o.pay) else nd (o.code==2) (oi (-1))))):=by kernel_rfl
def ixfKE:Ent:=(257,e2 (sd (.sl 116)) (.one (.c (.fn 159 [.cptr rIRec 0]))) fun p q=>(⟨ri,[.i (ixF (fun k=>ixfKC (gd q 0) (sub ((gd p 0).rows.getD k []) 0 5)) 0 (gd p 0).rows.length)]⟩,true))
theorem ixfK_ok:EntOk Tryz.prog ixfKE:=e2_ok fun p q _=>evFn_sound (N:=(gd p 0).rows.length+1) (ks:= [0,1,4,5,7,8,9,16]) (key:=bo) (find_ok (fC ⟨i_CoordOk_1_ok,fN⟩)) (enters Tryz.func257) Tryz.func257 fun hw=>by
 have hl:=wt_sl (hw ⟨sd (.sl 116),p⟩ (by simp))
 have e:=ix_loop (L:=ixfKL ((gd p 0).rows.length+1) p q) (fun k => [gd p 0,gd q 0,.i 0,.i (gd p 0).rows.length,.i (k:Int)]) (gd p 0).rows.length (fun k=>ixfKC (gd q 0) (sub ((gd p 0).rows.getD k []) 0 5)) [gd p 0,gd q 0,.i 0,.i (gd p 0).rows.length,.i (gd p 0).rows.length] (fun k hk=>?_) ?_ (gd p 0).rows.length 0 ((gd p 0).rows.length+1) (by omega) (by omega)
 ·simp only [Int.natCast_zero] at e
  rw [ixfK_ev,e]
  have hno:∀ m k,decide (ixF (fun k=>ixfKC (gd q 0) (sub ((gd p 0).rows.getD k []) 0 5)) k m≥0)=false→ixF (fun k=>ixfKC (gd q 0) (sub ((gd p 0).rows.getD k []) 0 5)) k m = -1:=ixF_neg _
  cases hd:decide (ixF (fun k=>ixfKC (gd q 0) (sub ((gd p 0).rows.getD k []) 0 5)) 0 (gd p 0).rows.length≥0)
  ·rw [hno _ _ hd]; rfl
  ·rfl
 ·show ixfKL _ p q [gd p 0,gd q 0,.i 0,.i _,.i (k:Int)]=_
  rw [ixfK_rd,decide_eq_true (show (k:Int)<(gd p 0).rows.length from by omega),inRange_nat hk,w64_id (by omega) (by omega),Int.toNat_natCast]
  cases hcc:ixfKC (gd q 0) (sub ((gd p 0).rows.getD k []) 0 5) <;> rfl
 ·show ixfKL _ p q [gd p 0,gd q 0,.i 0,.i _,.i ((gd p 0).rows.length:Int)]=_
  rw [ixfK_rd,decide_eq_false (show ¬ ((gd p 0).rows.length:Int)<(gd p 0).rows.length from by omega)]
  rfl
theorem cofK_ev (p q:List D) (N:Nat):evFn Tryz.prog (find [ixfKE]) N [0,1,4] Tryz.f158 rb [⟨sd (.sl 116),p⟩,⟨.one (.c (.fn 159 [.cptr rIRec 0])),q⟩]=some (bo,ob (decide (ixF (fun k=>ixfKC (gd q 0) (sub ((gd p 0).rows.getD k []) 0 5)) 0 (gd p 0).rows.length≥0))):=by kernel_rfl
def cofKE:Ent:=(158,e2 (sd (.sl 116)) (.one (.c (.fn 159 [.cptr rIRec 0]))) fun p q=>(⟨rb,[.b (anyS (fun r=>ixfKC (gd q 0) (sub r 0 5)) (gd p 0))]⟩,true))
theorem cofK_ok:EntOk Tryz.prog cofKE:=e2_ok fun p q _=>evFn_sound (N:=0) (ks:= [0,1,4]) (key:=bo) (find_ok (fC ⟨ixfK_ok,fN⟩)) (enters Tryz.func158) Tryz.func158 fun _=>by
 rw [cofK_ev,ixF_any]
 simp only [Nat.zero_add]
 rfl
end Go.Proofs.YtchceahcaaibcaaGreat
namespace Go.Proofs.YtchceahcaaibcaaGreat
set_option maxRecDepth 4096
def readsOk (z:D):Bool:=decide ((z.rows.length:Int)≤16) && !anyS (fun r => !rangeOk (sub r 0 2)) z
def votesAny (z:D) (v:Int):Bool:=anyS (fun r=>(gd (sub r 0 4) 3).int==v) z
def hasInt (z:D) (x:Int):Bool:=anyS (fun r=>x==(gd r 0).int) z
def cnt (C:Nat→Bool):Nat→Nat→Nat
 | _,0=>0
 | k,m+1=>(bif C k then 1 else 0)+cnt C (k+1) m
theorem cnt_le (C:Nat→Bool):∀ m k,cnt C k m≤m
 | 0,k=>Nat.le_refl _
 | m+1,k=>by
  have:=cnt_le C m (k+1)
  rw [cnt]
  cases C k <;> simp only [cond_true,cond_false] <;> omega
def votesN (z:D) (v:Int):Nat:=cnt (fun k=>(gd (sub (z.rows.getD k []) 0 4) 3).int==v) 0 z.rows.length
theorem not_all {n:Nat} {C:Nat→Bool}:(!(List.range n).all fun k => !C k)=(List.range n).any C:=by simp [List.all_eq_not_any_not]
theorem i_readsOk_ev (p:List D) (N:Nat):evFn Tryz.prog (find [cofRE]) N [0,2] Tryz.f189 (rb) [⟨sd (.sl 122),p⟩]=some (bo,bif decide (((gd p 0).rows.length:Int)≤16) then ob (!anyS (fun r => !rangeOk (sub r 0 2)) (gd p 0)) else ob false):=by kernel_rfl
def i_readsOkE:Ent:=(189,e1 (sd (.sl 122)) fun p=>(⟨rb,[.b (readsOk (gd p 0))]⟩,true))
theorem i_readsOk_ok:EntOk Tryz.prog i_readsOkE:=e1_ok fun p h=>evFn_sound (N:=0) (ks:= [0,2]) (key:=bo) (find_ok (fC ⟨cofR_ok,fN⟩)) (enters Tryz.func189) Tryz.func189 fun _=>by
 rw [i_readsOk_ev]
 rw [and_ob]; rfl
theorem i_votes_ev (p q:List D) (N:Nat):evFn Tryz.prog (find [cofVE]) N [0,1,3,4] Tryz.f192 (rb) [⟨sd (.sl 118),p⟩,⟨ri,q⟩]=some (bo,ob (votesAny (gd p 0) (gd q 0).int)):=by kernel_rfl
def i_votesE:Ent:=(192,e2 (sd (.sl 118)) (ri) fun p q=>(⟨rb,[.b (votesAny (gd p 0) (gd q 0).int)]⟩,true))
theorem i_votes_ok:EntOk Tryz.prog i_votesE:=e2_ok fun p q h=>evFn_sound (N:=0) (ks:= [0,1,3,4]) (key:=bo) (find_ok (fC ⟨cofV_ok,fN⟩)) (enters Tryz.func192) Tryz.func192 fun _=>by
 rw [i_votes_ev]
 skip
noncomputable def s_l12HasL (N:Nat) (p q:List D):List D→Out:=loopOf Tryz.prog (find []) N [0,1,4,5,9,17] Tryz.f81 rb [⟨sd (.sl 3),p⟩,⟨ri,q⟩] 0
theorem s_l12Has_rd (p q:List D) (N:Nat) (z x y:D) (k:Int):s_l12HasL N p q [z,x,y,.i k]=bif decide (k<z.rows.length) then nd (inRange k z.rows.length) (bif ((gd (z.rows.getD k.toNat []) 0).int==x.int) then ob true else nx [z,x,y,.i (w64 (k+1))]) else ex 0 [z,x,y,.i k]:=by kernel_rfl
theorem s_l12Has_ev (p q:List D) (N:Nat):evFn Tryz.prog (find []) N [0,1,4,5,9,17] Tryz.f81 rb [⟨sd (.sl 3),p⟩,⟨ri,q⟩]=some (bo,(let o:=iter (s_l12HasL N p q) N [gd p 0,gd q 0,D0,.i 0]
  nd o.isSome (bif o.code==1 then some (1,o.pay) else nd (o.code==2) (ob false)))):=by kernel_rfl
def s_l12HasE:Ent:=(81,e2 (sd (.sl 3)) ri fun p q=>(⟨rb,[.b (hasInt (gd p 0) (gd q 0).int)]⟩,true))
theorem s_l12Has_ok:EntOk Tryz.prog s_l12HasE:=e2_ok fun p q _=>evFn_sound (N:=(gd p 0).rows.length+1) (ks:= [0,1,4,5,9,17]) (key:=bo) (find_ok (fN)) (enters Tryz.func81) Tryz.func81 fun hw=>by
 have hl:=wt_sl (hw ⟨sd (.sl 3),p⟩ (by simp))
 have e:=all_loop (L:=s_l12HasL ((gd p 0).rows.length+1) p q) (fun k => [gd p 0,gd q 0,D0,.i (k:Int)]) (gd p 0).rows.length (fun k => !((gd q 0).int==(gd ((gd p 0).rows.getD k []) 0).int)) [.b true] [gd p 0,gd q 0,D0,.i (gd p 0).rows.length] 0 (fun k hk=>?_) ?_ (Nat.lt_succ_self _)
 ·simp only [Int.natCast_zero] at e
  rw [s_l12Has_ev,e]
  have hn:hasInt (gd p 0) (gd q 0).int = !(List.range (gd p 0).rows.length).all fun k => !((gd q 0).int==(gd ((gd p 0).rows.getD k []) 0).int):=not_all.symm
  rw [hn]
  cases (List.range (gd p 0).rows.length).all fun k => !((gd q 0).int==(gd ((gd p 0).rows.getD k []) 0).int) <;> rfl
 ·show s_l12HasL _ p q [gd p 0,gd q 0,D0,.i (k:Int)]=_
  rw [s_l12Has_rd,decide_eq_true (show (k:Int)<(gd p 0).rows.length from by omega),inRange_nat hk,w64_id (by omega) (by omega),Int.toNat_natCast,Bool.beq_comm]
  cases hcc:((gd q 0).int==(gd ((gd p 0).rows.getD k []) 0).int) <;> rfl
 ·show s_l12HasL _ p q [gd p 0,gd q 0,D0,.i ((gd p 0).rows.length:Int)]=_
  rw [s_l12Has_rd,decide_eq_false (show ¬ ((gd p 0).rows.length:Int)<(gd p 0).rows.length from by omega)]
  rfl
noncomputable def ixIL (N:Nat) (p q:List D):List D→Out:=loopOf Tryz.prog (find []) N [0,1,4,5,7,8,9,16] Tryz.f202 ri [⟨sd (.sl 3),p⟩,⟨ri,q⟩] 0
theorem ixI_rd (p q:List D) (N:Nat) (z c x:D) (n k:Int):ixIL N p q [z,c,x,.i n,.i k]=bif decide (k<n) then nd (inRange k z.rows.length) (bif (c.int==(gd (z.rows.getD k.toNat []) 0).int) then oi k else nx [z,c,x,.i n,.i (w64 (k+1))]) else ex 0 [z,c,x,.i n,.i k]:=by kernel_rfl
theorem ixI_ev (p q:List D) (N:Nat):evFn Tryz.prog (find []) N [0,1,4,5,7,8,9,16] Tryz.f202 ri [⟨sd (.sl 3),p⟩,⟨ri,q⟩]=some (bo,(let o:=iter (ixIL N p q) N [gd p 0,gd q 0,.i 0,.i (gd p 0).rows.length,.i 0]
  nd o.isSome (bif o.code==1 then some (1,o.pay) else nd (o.code==2) (oi (-1))))):=by kernel_rfl
def ixIE:Ent:=(202,e2 (sd (.sl 3)) ri fun p q=>(⟨ri,[.i (ixF (fun k=>(gd q 0).int==(gd ((gd p 0).rows.getD k []) 0).int) 0 (gd p 0).rows.length)]⟩,true))
theorem ixI_ok:EntOk Tryz.prog ixIE:=e2_ok fun p q _=>evFn_sound (N:=(gd p 0).rows.length+1) (ks:= [0,1,4,5,7,8,9,16]) (key:=bo) (find_ok (fN)) (enters Tryz.func202) Tryz.func202 fun hw=>by
 have hl:=wt_sl (hw ⟨sd (.sl 3),p⟩ (by simp))
 have e:=ix_loop (L:=ixIL ((gd p 0).rows.length+1) p q) (fun k => [gd p 0,gd q 0,.i 0,.i (gd p 0).rows.length,.i (k:Int)]) (gd p 0).rows.length (fun k=>(gd q 0).int==(gd ((gd p 0).rows.getD k []) 0).int) [gd p 0,gd q 0,.i 0,.i (gd p 0).rows.length,.i (gd p 0).rows.length] (fun k hk=>?_) ?_ (gd p 0).rows.length 0 ((gd p 0).rows.length+1) (by omega) (by omega)
 ·simp only [Int.natCast_zero] at e
  rw [ixI_ev,e]
  cases hd:decide (ixF (fun k=>(gd q 0).int==(gd ((gd p 0).rows.getD k []) 0).int) 0 (gd p 0).rows.length≥0)
  ·rw [ixF_neg _ _ _ hd]; rfl
  ·rfl
 ·show ixIL _ p q [gd p 0,gd q 0,.i 0,.i _,.i (k:Int)]=_
  rw [ixI_rd,decide_eq_true (show (k:Int)<(gd p 0).rows.length from by omega),inRange_nat hk,w64_id (by omega) (by omega),Int.toNat_natCast]
  cases hcc:((gd q 0).int==(gd ((gd p 0).rows.getD k []) 0).int) <;> rfl
 ·show ixIL _ p q [gd p 0,gd q 0,.i 0,.i _,.i ((gd p 0).rows.length:Int)]=_
  rw [ixI_rd,decide_eq_false (show ¬ ((gd p 0).rows.length:Int)<(gd p 0).rows.length from by omega)]
  rfl
theorem coI_ev (p q:List D) (N:Nat):evFn Tryz.prog (find [ixIE]) N [0,1,4] Tryz.f82 rb [⟨sd (.sl 3),p⟩,⟨ri,q⟩]=some (bo,ob (decide (ixF (fun k=>(gd q 0).int==(gd ((gd p 0).rows.getD k []) 0).int) 0 (gd p 0).rows.length≥0))):=by kernel_rfl
def coIE:Ent:=(82,e2 (sd (.sl 3)) ri fun p q=>(⟨rb,[.b (hasInt (gd p 0) (gd q 0).int)]⟩,true))
theorem coI_ok:EntOk Tryz.prog coIE:=e2_ok fun p q _=>evFn_sound (N:=0) (ks:= [0,1,4]) (key:=bo) (find_ok (fC ⟨ixI_ok,fN⟩)) (enters Tryz.func82) Tryz.func82 fun _=>by
 rw [coI_ev,ixF_any]
 simp only [Nat.zero_add]
 rfl
noncomputable def s_l14VotesL (N:Nat) (p q:List D):List D→Out:=loopOf Tryz.prog (find []) N [0,1,4,5,6,10,19] Tryz.f145 ri [⟨sd (.sl 118),p⟩,⟨ri,q⟩] 0
theorem s_l14Votes_rd (p q:List D) (N:Nat) (z x y:D) (n k:Int):s_l14VotesL N p q [z,x,y,.i n,.i k]=bif decide (k<z.rows.length) then nd (inRange k z.rows.length) (bif ((gd (sub (z.rows.getD k.toNat []) 0 4) 3).int==x.int) then nx [z,x,y,.i (w64 (n+1)),.i (w64 (k+1))] else nx [z,x,y,.i n,.i (w64 (k+1))]) else ex 0 [z,x,y,.i n,.i k]:=by kernel_rfl
theorem s_l14Votes_ev (p q:List D) (N:Nat):evFn Tryz.prog (find []) N [0,1,4,5,6,10,19] Tryz.f145 ri [⟨sd (.sl 118),p⟩,⟨ri,q⟩]=some (bo,(let o:=iter (s_l14VotesL N p q) N [gd p 0,gd q 0,.i 0,.i 0,.i 0]
  nd o.isSome (nd (o.code==2) (some (1,[gd o.pay 3]))))):=by kernel_rfl
def s_l14VotesE:Ent:=(145,e2 (sd (.sl 118)) ri fun p q=>(⟨ri,[.i (votesN (gd p 0) (gd q 0).int)]⟩,true))
theorem s_l14Votes_ok:EntOk Tryz.prog s_l14VotesE:=e2_ok fun p q _=>evFn_sound (N:=(gd p 0).rows.length+1) (ks:= [0,1,4,5,6,10,19]) (key:=bo) (find_ok (fN)) (enters Tryz.func145) Tryz.func145 fun hw=>by
 have hl:=wt_sl (hw ⟨sd (.sl 118),p⟩ (by simp))
 have H:∀ (m k N:Nat) (n:Int),k+m=(gd p 0).rows.length→m<N→0≤n→n+m≤9223372036854775807→iter (s_l14VotesL ((gd p 0).rows.length+1) p q) N [gd p 0,gd q 0,.i 0,.i n,.i (k:Int)]=some (2,[gd p 0,gd q 0,.i 0,.i (n+cnt (fun k=>(gd (sub ((gd p 0).rows.getD k []) 0 4) 3).int==(gd q 0).int) k m),.i (gd p 0).rows.length]):=by
  intro m
  induction m with
  | zero =>
   intro k N n hk hN h0 h1
   obtain ⟨N,rfl⟩:∃ N',N=N'+1:=⟨N - 1,by omega⟩
   have hk:k=(gd p 0).rows.length:=by omega
   subst hk
   rw [iter,s_l14Votes_rd,decide_eq_false (show ¬ ((gd p 0).rows.length:Int)<(gd p 0).rows.length from by omega)]
   simp [cnt]
  | succ m ih =>
   intro k N n hk hN h0 h1
   obtain ⟨N,rfl⟩:∃ N',N=N'+1:=⟨N - 1,by omega⟩
   have hlt:k<(gd p 0).rows.length:=by omega
   rw [iter,s_l14Votes_rd,decide_eq_true (show (k:Int)<(gd p 0).rows.length from by omega),inRange_nat hlt,w64_id (x:=(k:Int)+1) (by omega) (by omega),w64_id (x:=n+1) (by omega) (by omega),Int.toNat_natCast,cnt]
   cases hcc:((gd (sub ((gd p 0).rows.getD k []) 0 4) 3).int==(gd q 0).int) with
   | true =>
    simp only [cond_true,nd]
    rw [show ((k:Int)+1)=((k+1:Nat):Int) from by simp,ih (k+1) N (n+1) (by omega) (by omega) (by omega) (by omega)]
    have e2:∀ c:Nat,n+1+(c:Int)=n+((1+c:Nat):Int):=fun c=>by omega
    rw [e2]
   | false =>
    simp only [cond_true,cond_false,nd,Nat.zero_add]
    rw [show ((k:Int)+1)=((k+1:Nat):Int) from by simp,ih (k+1) N n (by omega) (by omega) (by omega) (by omega)]
 have e:=H (gd p 0).rows.length 0 ((gd p 0).rows.length+1) 0 (by omega) (by omega) (by omega) (by omega)
 simp only [Int.natCast_zero,Int.zero_add] at e
 rw [s_l14Votes_ev,e]
 rfl
end Go.Proofs.YtchceahcaaibcaaGreat
namespace Go.Proofs.YtchceahcaaibcaaGreat
set_option maxRecDepth 4096
def shareAt (z:D) (k:Nat):Bool:=
 inB (gd (z.rows.getD k []) 0).int 0 3&&((k==0 || !decide ((gd (z.rows.getD (k - 1) []) 0).int≥(gd (z.rows.getD k []) 0).int))&&(readsOk (gd (z.rows.getD k []) 1)&&(writesOk (gd (z.rows.getD k []) 2)&&inB (gd (z.rows.getD k []) 3).int 0 2)))
def sharesOk (z:D):Bool:=decide ((z.rows.length:Int)≤4)&&(List.range z.rows.length).all (shareAt z)
abbrev tbIS:FuncId→List T→Option (T × Bool):=find [i_fromE,i_isGroupE,i_readsOkE,i_WritesOkE]
theorem tbIS_ok:CallOk Tryz.prog tbIS:=find_ok (fC ⟨i_from_ok,fC ⟨i_isGroup_ok,fC ⟨i_readsOk_ok,fC ⟨i_WritesOk_ok,fN⟩⟩⟩⟩)
abbrev aSh (p:List D):List T:= [⟨sd (.sl 118),p⟩]
noncomputable def isL (N:Nat) (p:List D):List D→Out:=loopOf Tryz.prog tbIS N [0,2,3,4,5,6,7,8,48] Tryz.f191 rb (aSh p) 0
def isT (row:List D) (nxt:Out):Out:=bif !readsOk (gd row 1) then ob false else bif !writesOk (gd row 2) then ob false else bif !inB (gd row 3).int 0 2 then ob false else nxt
theorem is_rd (p:List D) (N:Nat) (z x2 z5:D) (n k:Int):isL N p [z,x2,z5,.i n,.i k] =
  bif decide (k<n) then nd (inRange k z5.rows.length)
   (bif !(inB (gd (z5.rows.getD k.toNat []) 0).int 0 3) then ob false else
   bif decide (k > 0) then nd (inRange (w64 (k - 1)) z.rows.length) (bif decide ((gd (z.rows.getD (w64 (k - 1)).toNat []) 0).int≥(gd (z5.rows.getD k.toNat []) 0).int) then ob false else isT (z5.rows.getD k.toNat []) (nx [z,x2,z5,.i n,.i (w64 (k+1))])) else isT (z5.rows.getD k.toNat []) (nx [z,x2,z5,.i n,.i (w64 (k+1))]))
  else ex 0 [z,x2,z5,.i n,.i k]:=by kernel_rfl
theorem is_ev (p:List D) (N:Nat):evFn Tryz.prog tbIS N [0,2,3,4,5,6,7,8,48] Tryz.f191 rb (aSh p)=some (bo,
  (let o:=iter (isL N p) N [gd p 0,D0,gd p 0,.i (gd p 0).rows.length,.i 0]
  nd o.isSome (bif o.code==1 then some (1,o.pay) else nd (o.code==2) (ob (decide (((gd o.pay 0).rows.length:Int)≤4)))))):=by kernel_rfl
def i_SharesOkE:Ent:=(191,e1 (sd (.sl 118)) fun p=>(⟨rb,[.b (sharesOk (gd p 0))]⟩,true))
theorem isT_ok (row:List D) (nxt:Out):isT row nxt=bif readsOk (gd row 1)&&(writesOk (gd row 2)&&inB (gd row 3).int 0 2) then nxt else ob false:=by
 unfold isT
 cases readsOk (gd row 1) <;> cases writesOk (gd row 2) <;> cases inB (gd row 3).int 0 2 <;> rfl
theorem i_SharesOk_ok:EntOk Tryz.prog i_SharesOkE:=e1_ok fun p _=>evFn_sound (N:=(gd p 0).rows.length+1) (ks:= [0,2,3,4,5,6,7,8,48]) (key:=bo) tbIS_ok (enters Tryz.func191) Tryz.func191 fun hw=>by
 have hl:=wt_sl (hw ⟨sd (.sl 118),p⟩ (by simp))
 have e:=all_loop (L:=isL ((gd p 0).rows.length+1) p) (fun k => [gd p 0,D0,gd p 0,.i (gd p 0).rows.length,.i (k:Int)]) (gd p 0).rows.length (shareAt (gd p 0)) [.b false] [gd p 0,D0,gd p 0,.i (gd p 0).rows.length,.i (gd p 0).rows.length] 0 (fun k hk=>?_) ?_ (Nat.lt_succ_self _)
 ·simp only [Int.natCast_zero] at e
  rw [is_ev,e]
  cases hq:(List.range (gd p 0).rows.length).all (shareAt (gd p 0))
  ·simp only [sharesOk,hq,Bool.and_false]; rfl
  ·simp only [sharesOk,hq,Bool.and_true]; rfl
 ·show isL _ p [gd p 0,D0,gd p 0,.i _,.i (k:Int)]=_
  rw [is_rd,decide_eq_true (show (k:Int)<(gd p 0).rows.length from by omega),inRange_nat hk]
  simp only [cond_true,nd,Int.toNat_natCast,shareAt,isT_ok]
  cases inB (gd ((gd p 0).rows.getD k []) 0).int 0 3 <;> simp only [Bool.not_true,Bool.not_false,cond_true,cond_false,Bool.false_and,Bool.true_and] <;> first | rfl | skip
  rw [w64_id (x:=(k:Int)+1) (by omega) (by omega)]
  by_cases h0:k=0
  ·subst h0
   cases readsOk (gd ((gd p 0).rows.getD 0 []) 1)&&(writesOk (gd ((gd p 0).rows.getD 0 []) 2)&&inB (gd ((gd p 0).rows.getD 0 []) 3).int 0 2) <;> rfl
  ·rw [decide_eq_true (show (k:Int) > 0 from by omega),pre_nat h0 (by omega),inRange_nat (show k - 1<(gd p 0).rows.length from by omega),show (k==0)=false from by simpa using h0]
   simp only [cond_true,Int.toNat_natCast,Bool.false_or]
   cases decide ((gd ((gd p 0).rows.getD (k - 1) []) 0).int≥(gd ((gd p 0).rows.getD k []) 0).int) <;> cases readsOk (gd ((gd p 0).rows.getD k []) 1)&&(writesOk (gd ((gd p 0).rows.getD k []) 2)&&inB (gd ((gd p 0).rows.getD k []) 3).int 0 2) <;> rfl
 ·show isL _ p [gd p 0,D0,gd p 0,.i _,.i ((gd p 0).rows.length:Int)]=_
  rw [is_rd,decide_eq_false (show ¬ ((gd p 0).rows.length:Int)<(gd p 0).rows.length from by omega)]
  rfl
end Go.Proofs.YtchceahcaaibcaaGreat
namespace Go.Proofs.YtchceahcaaibcaaGreat
set_option maxRecDepth 4096
abbrev tbSS:FuncId→List T→Option (T × Bool):=find [s_l1InE,s_RangeOkE,s_WritesOkE]
theorem tbSS_ok:CallOk Tryz.prog tbSS:=find_ok (fC ⟨s_l1In_ok,fC ⟨s_RangeOk_ok,fC ⟨s_WritesOk_ok,fN⟩⟩⟩)
noncomputable def ssL (N:Nat) (p:List D):List D→Out:=loopOf Tryz.prog tbSS N [0,2,3,4,5,8,12,55,60,69] Tryz.f144 rb (aSh p) 0
noncomputable def ssM (N:Nat) (p:List D):List D→Out:=loopOf Tryz.prog tbSS N [0,2,3,4,5,8,12,55,60,69] Tryz.f144 rb (aSh p) 2
theorem ss_rd2 (p:List D) (N:Nat) (z x2 y8 i y12 y4 y55 b0 b1 b2 b3:D) (m:Int):ssM N p [z,x2,y8,i,y12,y4,y55,.i m,b0,b1,b2,b3] =
  bif decide (m<b1.rows.length) then nd (inRange m b1.rows.length) (bif !(rangeOk (sub (b1.rows.getD m.toNat []) 0 2)) then ob false else nx [z,x2,y8,i,y12,y4,y55,.i (w64 (m+1)),b0,b1,b2,b3])
  else ex 2 [z,x2,y8,i,y12,y4,y55,.i m,b0,b1,b2,b3]:=by kernel_rfl
def ssU (z x2 y8:D) (k:Int) (row:List D) (M:List D→Out) (N:Nat) (nxt:List D→Out):Out:=
 bif decide (((gd row 1).rows.length:Int) > 16) then ob false else bif !(writesOk (gd row 2)) then ob false else bif !(inB (gd row 3).int 0 2) then ob false else
  (let o:=iter M N [z,x2,y8,.i k,.b (decide (k<z.rows.length)),D0,.b (!(inB (gd row 3).int 0 2)),.i 0,gd row 0,gd row 1,gd row 2,gd row 3]
   nd o.isSome (bif o.code==1 then some (1,o.pay) else nd (o.code==4) (nxt o.pay)))
theorem ss_rd (p:List D) (N:Nat) (z x2 y8:D) (k:Int):ssL N p [z,x2,y8,.i k] =
  bif decide (k<z.rows.length) then nd (inRange k z.rows.length)
   (bif !(inB (gd (z.rows.getD k.toNat []) 0).int 0 3) then ob false else
   bif decide (k > 0) then nd (inRange (w64 (k - 1)) z.rows.length) (bif decide ((gd (z.rows.getD (w64 (k - 1)).toNat []) 0).int≥(gd (z.rows.getD k.toNat []) 0).int) then ob false else ssU z x2 y8 k (z.rows.getD k.toNat []) (ssM N p) N (fun q=>nx [gd q 0,gd q 1,gd q 2,.i (w64 ((gd q 3).int+1))])) else ssU z x2 y8 k (z.rows.getD k.toNat []) (ssM N p) N (fun q=>nx [gd q 0,gd q 1,gd q 2,.i (w64 ((gd q 3).int+1))]))
  else ex 0 [z,x2,y8,.i k]:=by kernel_rfl
theorem ss_ev (p:List D) (N:Nat):evFn Tryz.prog tbSS N [0,2,3,4,5,8,12,55,60,69] Tryz.f144 rb (aSh p)=some (bo,bif decide (((gd p 0).rows.length:Int) > 4) then ob false else
  (let o:=iter (ssL N p) N [gd p 0,D0,.b (decide (((gd p 0).rows.length:Int) > 4)),.i 0]
  nd o.isSome (bif o.code==1 then some (1,o.pay) else nd (o.code==2) (ob true)))):=by kernel_rfl
end Go.Proofs.YtchceahcaaibcaaGreat
namespace Go.Proofs.YtchceahcaaibcaaGreat
set_option maxRecDepth 4096
theorem reads_all (z:D):(!anyS (fun r => !rangeOk (sub r 0 2)) z)=(List.range z.rows.length).all fun m=>rangeOk (sub (z.rows.getD m []) 0 2):=by
 unfold anyS
 rw [List.all_eq_not_any_not]
theorem ssU_ok (p:List D) (N:Nat) (z x2 y8:D) (k:Int) (row:List D) (hN:17≤N):ssU z x2 y8 k row (ssM N p) N (fun q=>nx [gd q 0,gd q 1,gd q 2,.i (w64 ((gd q 3).int+1))]) =
  bif readsOk (gd row 1)&&(writesOk (gd row 2)&&inB (gd row 3).int 0 2) then nx [z,x2,y8,.i (w64 (k+1))] else ob false:=by
 unfold ssU readsOk
 by_cases h16:((gd row 1).rows.length:Int)≤16
 ·rw [decide_eq_false (show ¬ ((gd row 1).rows.length:Int) > 16 from by omega),decide_eq_true h16,reads_all]
  simp only [cond_false,Bool.true_and]
  cases writesOk (gd row 2)
  ·simp only [Bool.not_false,cond_true,Bool.false_and,Bool.and_false,cond_false]
  ·cases hv:inB (gd row 3).int 0 2
   ·simp only [Bool.not_false,Bool.not_true,cond_true,cond_false,Bool.true_and,Bool.and_false]
   ·have e:=all_loop (L:=ssM N p) (fun m => [z,x2,y8,.i k,.b (decide (k<z.rows.length)),D0,.b (!true),.i (m:Int),gd row 0,gd row 1,gd row 2,gd row 3]) (gd row 1).rows.length (fun m=>rangeOk (sub ((gd row 1).rows.getD m []) 0 2)) [.b false] [z,x2,y8,.i k,.b (decide (k<z.rows.length)),D0,.b (!true),.i (gd row 1).rows.length,gd row 0,gd row 1,gd row 2,gd row 3] 2 (fun m hm=>?_) ?_ (N:=N) (by omega)
    ·simp only [Int.natCast_zero] at e
     simp only [Bool.not_true,cond_false,Bool.and_true,Bool.true_and] at e ⊢
     rw [e]
     cases (List.range (gd row 1).rows.length).all fun m=>rangeOk (sub ((gd row 1).rows.getD m []) 0 2) <;> rfl
    ·show ssM N p [z,x2,y8,.i k,_,D0,_,.i (m:Int),_,_,_,_]=_
     rw [ss_rd2,decide_eq_true (show (m:Int)<(gd row 1).rows.length from by omega),inRange_nat hm,w64_id (by omega) (by omega),Int.toNat_natCast]
     cases rangeOk (sub ((gd row 1).rows.getD m []) 0 2) <;> rfl
    ·show ssM N p [z,x2,y8,.i k,_,D0,_,.i ((gd row 1).rows.length:Int),_,_,_,_]=_
     rw [ss_rd2,decide_eq_false (show ¬ ((gd row 1).rows.length:Int)<(gd row 1).rows.length from by omega)]
     rfl
 ·rw [decide_eq_true (show ((gd row 1).rows.length:Int) > 16 from by omega),decide_eq_false h16]
  simp only [cond_true,Bool.false_and,cond_false]
def s_SharesOkE:Ent:=(144,e1 (sd (.sl 118)) fun p=>(⟨rb,[.b (sharesOk (gd p 0))]⟩,true))
theorem s_SharesOk_ok:EntOk Tryz.prog s_SharesOkE:=e1_ok fun p _=>evFn_sound (N:=(gd p 0).rows.length+17) (ks:= [0,2,3,4,5,8,12,55,60,69]) (key:=bo) tbSS_ok (enters Tryz.func144) Tryz.func144 fun hw=>by
 have hl:=wt_sl (hw ⟨sd (.sl 118),p⟩ (by simp))
 rw [ss_ev]
 by_cases h4:((gd p 0).rows.length:Int)≤4
 ·have e:=all_loop (L:=ssL ((gd p 0).rows.length+17) p) (fun k => [gd p 0,D0,.b (decide (((gd p 0).rows.length:Int) > 4)),.i (k:Int)]) (gd p 0).rows.length (shareAt (gd p 0)) [.b false] [gd p 0,D0,.b (decide (((gd p 0).rows.length:Int) > 4)),.i (gd p 0).rows.length] 0 (fun k hk=>?_) ?_ (N:=(gd p 0).rows.length+17) (by omega)
  ·simp only [Int.natCast_zero] at e
   rw [e,show decide (((gd p 0).rows.length:Int) > 4)=false from decide_eq_false (by omega)]
   simp only [sharesOk,h4,decide_true,Bool.true_and]
   cases (List.range (gd p 0).rows.length).all (shareAt (gd p 0)) <;> rfl
  ·show ssL _ p [gd p 0,D0,_,.i (k:Int)]=_
   rw [ss_rd,decide_eq_true (show (k:Int)<(gd p 0).rows.length from by omega),inRange_nat hk]
   simp only [cond_true,nd,Int.toNat_natCast,shareAt,ssU_ok p _ _ _ _ _ _ (show 17≤(gd p 0).rows.length+17 from by omega)]
   cases inB (gd ((gd p 0).rows.getD k []) 0).int 0 3 <;> simp only [Bool.not_true,Bool.not_false,cond_true,cond_false,Bool.false_and,Bool.true_and] <;> first | rfl | skip
   rw [w64_id (x:=(k:Int)+1) (by omega) (by omega)]
   by_cases h0:k=0
   ·subst h0
    cases readsOk (gd ((gd p 0).rows.getD 0 []) 1)&&(writesOk (gd ((gd p 0).rows.getD 0 []) 2)&&inB (gd ((gd p 0).rows.getD 0 []) 3).int 0 2) <;> rfl
   ·rw [decide_eq_true (show (k:Int) > 0 from by omega),pre_nat h0 (by omega),inRange_nat (show k - 1<(gd p 0).rows.length from by omega),show (k==0)=false from by simpa using h0]
    simp only [cond_true,Int.toNat_natCast,Bool.false_or]
    cases decide ((gd ((gd p 0).rows.getD (k - 1) []) 0).int≥(gd ((gd p 0).rows.getD k []) 0).int) <;> cases readsOk (gd ((gd p 0).rows.getD k []) 1)&&(writesOk (gd ((gd p 0).rows.getD k []) 2)&&inB (gd ((gd p 0).rows.getD k []) 3).int 0 2) <;> rfl
  ·show ssL _ p [gd p 0,D0,_,.i ((gd p 0).rows.length:Int)]=_
   rw [ss_rd,decide_eq_false (show ¬ ((gd p 0).rows.length:Int)<(gd p 0).rows.length from by omega)]
   rfl
 ·rw [decide_eq_true (show ((gd p 0).rows.length:Int) > 4 from by omega)]
  simp only [sharesOk,h4,decide_false,Bool.false_and]
  rfl
end Go.Proofs.YtchceahcaaibcaaGreat
namespace Go.Proofs.YtchceahcaaibcaaGreat
set_option maxRecDepth 4096
def stateOk (p:List D):Bool:=
 bif (gd p 3).int==1 then ((gd p 4).rows.length:Int)==0 else bif (gd p 3).int==2 then votesAny (gd p 4) 0 && !votesAny (gd p 4) 2 else bif (gd p 3).int==3 then !votesAny (gd p 4) 0 && !votesAny (gd p 4) 2 else (gd p 3).int==4
def recOk (p:List D):Bool:=inB (gd p 1).int 0 1000000000&&(inB (gd p 2).int 1 1000000000&&(sharesOk (gd p 4)&&stateOk p))
abbrev tbIR:FuncId→List T→Option (T × Bool):=find [i_isWholeE,i_isReqE,i_SharesOkE,i_votesE]
theorem tbIR_ok:CallOk Tryz.prog tbIR:=find_ok (fC ⟨i_isWhole_ok,fC ⟨i_isReq_ok,fC ⟨i_SharesOk_ok,fC ⟨i_votes_ok,fN⟩⟩⟩⟩)
theorem ir_ev (p:List D) (N:Nat):evFn Tryz.prog tbIR N [0,1,2,18,20,21,27,38] Tryz.f157 rb [⟨ag rIRec,p⟩]=some (bo,
  bif !inB (gd p 1).int 0 1000000000 then ob false else bif !inB (gd p 2).int 1 1000000000 then ob false else bif !sharesOk (gd p 4) then ob false else
  bif (gd p 3).int==1 then ob (((gd p 4).rows.length:Int)==0) else bif (gd p 3).int==2 then (bif votesAny (gd p 4) 0 then ob (!votesAny (gd p 4) 2) else ob false) else
  bif (gd p 3).int==3 then (bif !votesAny (gd p 4) 0 then ob (!votesAny (gd p 4) 2) else ob false) else ob ((gd p 3).int==4)):=by kernel_rfl
def i_recOkE:Ent:=(157,e1 (ag rIRec) fun p=>(⟨rb,[.b (recOk p)]⟩,true))
theorem cond_ob (c x y:Bool):(bif c then ob x else ob y)=ob (bif c then x else y):=by cases c <;> rfl
theorem i_recOk_ok:EntOk Tryz.prog i_recOkE:=e1_ok fun p _=>evFn_sound (N:=0) (ks:= [0,1,2,18,20,21,27,38]) (key:=bo) tbIR_ok (enters Tryz.func157) Tryz.func157 fun _=>by
 rw [ir_ev]
 show _=some (bo,some (1,[D.b (recOk p)]))
 unfold recOk stateOk
 cases inB (gd p 1).int 0 1000000000 <;> first | rfl | skip
 cases inB (gd p 2).int 1 1000000000 <;> first | rfl | skip
 cases sharesOk (gd p 4) <;> first | rfl | skip
 cases (gd p 3).int==1 <;> first | rfl | skip
 cases (gd p 3).int==2 <;> cases (gd p 3).int==3 <;> cases votesAny (gd p 4) 0 <;> first | rfl | (cases votesAny (gd p 4) 2 <;> rfl)
abbrev tbSR:FuncId→List T→Option (T × Bool):=find [s_l1WholeE,s_l1InE,s_SharesOkE,s_l14VotesE]
theorem tbSR_ok:CallOk Tryz.prog tbSR:=find_ok (fC ⟨s_l1Whole_ok,fC ⟨s_l1In_ok,fC ⟨s_SharesOk_ok,fC ⟨s_l14Votes_ok,fN⟩⟩⟩⟩)
theorem sr_ev (p:List D) (N:Nat):evFn Tryz.prog tbSR N [0,1,2,18,20,21,27,39] Tryz.f131 rb [⟨ag rIRec,p⟩]=some (bo,
  bif !inB (gd p 1).int 0 1000000000 then ob false else bif !inB (gd p 2).int 1 1000000000 then ob false else bif !sharesOk (gd p 4) then ob false else
  bif (gd p 3).int==1 then ob (((gd p 4).rows.length:Int)==0) else bif (gd p 3).int==2 then (bif decide ((votesN (gd p 4) 0:Int) > 0) then ob ((votesN (gd p 4) 2:Int)==0) else ob false) else
  bif (gd p 3).int==3 then ob ((votesN (gd p 4) 1:Int)==(gd p 4).rows.length) else ob ((gd p 3).int==4)):=by kernel_rfl
theorem cnt_any (C:Nat→Bool):∀ m k,decide (0<cnt C k m)=(List.range m).any fun j=>C (k+j)
 | 0,k=>rfl
 | m+1,k=>by
  rw [cnt,List.range_succ_eq_map,List.any_cons,List.any_map]
  cases hc:C k with
  | true=>simp [hc]; omega
  | false =>
   simp only [cond_false,Nat.add_zero,hc,Bool.false_or,Nat.zero_add]
   rw [cnt_any C m (k+1)]
   congr 1; funext j; simp only [Function.comp]; congr 1; omega
theorem cnt_all (C:Nat→Bool):∀ m k,decide (cnt C k m=m)=(List.range m).all fun j=>C (k+j)
 | 0,k=>rfl
 | m+1,k=>by
  have hle:=cnt_le C m (k+1)
  rw [cnt,List.range_succ_eq_map,List.all_cons,List.all_map]
  cases hc:C k with
  | true =>
   simp only [cond_true,Nat.add_zero,hc,Bool.true_and]
   have:=cnt_all C m (k+1)
   have e:decide (1+cnt C (k+1) m=m+1)=decide (cnt C (k+1) m=m):=decide_eq_decide.2 (by omega)
   rw [e,this]
   congr 1; funext j; simp only [Function.comp]; congr 1; omega
  | false=>simp only [cond_false,Nat.zero_add,Nat.add_zero,hc,Bool.false_and,decide_eq_false_iff_not]; omega
theorem votesN_pos (z:D) (v:Int):decide ((votesN z v:Int) > 0)=votesAny z v:=by
 have:=cnt_any (fun k=>(gd (sub (z.rows.getD k []) 0 4) 3).int==v) z.rows.length 0
 simp only [Nat.zero_add] at this
 rw [show decide ((votesN z v:Int) > 0)=decide (0<votesN z v) from decide_eq_decide.2 (by omega)]
 exact this
theorem votesN_zero (z:D) (v:Int):((votesN z v:Int)==0) = !votesAny z v:=by
 rw [← votesN_pos]
 by_cases h:votesN z v=0
 ·simp [h]
 ·rw [decide_eq_true (show (votesN z v:Int) > 0 from by omega)]
  exact beq_eq_false_iff_ne.2 (by omega)
theorem votesN_all {z:D} (h:sharesOk z=true):((votesN z 1:Int)==z.rows.length)=(!votesAny z 0 && !votesAny z 2):=by
 have:=cnt_all (fun k=>(gd (sub (z.rows.getD k []) 0 4) 3).int==1) z.rows.length 0
 simp only [Nat.zero_add] at this
 rw [show ((votesN z 1:Int)==z.rows.length)=decide (votesN z 1=z.rows.length) from by
  by_cases e:votesN z 1=z.rows.length
  ·rw [decide_eq_true e]; exact beq_iff_eq.2 (by omega)
  ·rw [decide_eq_false e]; exact beq_eq_false_iff_ne.2 (by omega)]
 rw [show decide (votesN z 1=z.rows.length)=_ from this]
 have hs:∀ k,k<z.rows.length→inB (gd (sub (z.rows.getD k []) 0 4) 3).int 0 2=true:=fun k hk=>by
  simp only [sharesOk,Bool.and_eq_true,List.all_eq_true] at h
  have:=h.2 k (List.mem_range.2 hk)
  simp only [shareAt,Bool.and_eq_true] at this
  exact this.2.2.2.2
 rw [Bool.eq_iff_iff]
 simp only [votesAny,anyS,Bool.and_eq_true,Bool.not_eq_true',List.all_eq_true,List.any_eq_false,List.mem_range,beq_iff_eq]
 constructor
 ·intro h1
  exact ⟨fun k hk e=>absurd (e.symm.trans (h1 k hk)) (by decide),fun k hk e=>absurd (e.symm.trans (h1 k hk)) (by decide)⟩
 ·rintro ⟨h1,h2⟩ k hk
  have:=hs k hk
  simp only [inB,Bool.and_eq_true,decide_eq_true_eq] at this
  have n0:=h1 k hk
  have n2:=h2 k hk
  omega
def s_l14RecOkE:Ent:=(131,e1 (ag rIRec) fun p=>(⟨rb,[.b (recOk p)]⟩,true))
theorem s_l14RecOk_ok:EntOk Tryz.prog s_l14RecOkE:=e1_ok fun p _=>evFn_sound (N:=0) (ks:= [0,1,2,18,20,21,27,39]) (key:=bo) tbSR_ok (enters Tryz.func131) Tryz.func131 fun _=>by
 rw [sr_ev,votesN_pos,votesN_zero]
 show _=some (bo,some (1,[D.b (recOk p)]))
 unfold recOk stateOk
 cases inB (gd p 1).int 0 1000000000 <;> first | rfl | skip
 cases inB (gd p 2).int 1 1000000000 <;> first | rfl | skip
 cases hs:sharesOk (gd p 4) <;> first | rfl | skip
 rw [votesN_all hs]
 cases (gd p 3).int==1 <;> first | rfl | skip
 cases (gd p 3).int==2 <;> cases (gd p 3).int==3 <;> cases votesAny (gd p 4) 0 <;> first | rfl | (cases votesAny (gd p 4) 2 <;> rfl)
end Go.Proofs.YtchceahcaaibcaaGreat
namespace Go.Proofs.YtchceahcaaibcaaGreat
theorem int_i (n:Int):(D.i n).int=n:=rfl
theorem bool_b (n:Bool):(D.b n).bool=n:=rfl
theorem str_s (n:List UInt8):(D.s n).str=n:=rfl
theorem rows_l (n:List (List D)):(D.l n).rows=n:=rfl
theorem w64_succ {k n:Nat} (h:k<n) (hn:n≤9223372036854775807):w64 ((k:Int)+1)=((k+1:Nat):Int):=by
 rw [w64_id (by omega) (by omega)]; omega
theorem wt_at {P:Program} {xs:List Ce} {p:List D} {e:TypeId} (h:WT P ⟨.one (.agg xs),p⟩) {j:Nat} (hj:xs[j]?=some (.d (.sl e))):(gd p j).rows.length≤9223372036854775807:=by
 have h:∀ (j:Nat) c,xs[j]?=some c→WC P c (gd p j):=h
 have h:WD P (.sl e) (gd p j):=h j _ hj
 cases h with
 | sl _ _ row _ h _=>exact h
theorem for_loop {L:List D→Out} (st:Nat→List D) (n:Nat) (C:Nat→Bool) (v:List D) (j:Nat) (h1:∀ k,k<n→L (st k)=some (bif C k then (0,st (k+1)) else (1,v))) (h2:L (st n)=some (j+2,st n)) {N:Nat} (hN:n<N) :
  iter L N (st 0)=some (bif (List.range n).all C then (j+2,st n) else (1,v)):=all_loop st n C v (st n) j h1 h2 hN
def ltI (x y:Int):Bool:=decide (x<y)
def leI (x y:Int):Bool:=decide (x≤y)
theorem ltI_t {x y:Int} (h:x<y):ltI x y=true:=decide_eq_true h
theorem ltI_f {x y:Int} (h:y≤x):ltI x y=false:=decide_eq_false (by omega)
theorem leI_t {x y:Int} (h:x≤y):leI x y=true:=decide_eq_true h
theorem leI_f {x y:Int} (h:y<x):leI x y=false:=decide_eq_false (by omega)
theorem ltI_nat {k n:Nat} (h:k<n):ltI (k:Int) (n:Int)=true:=decide_eq_true (by omega)
theorem ltI_nn {n:Nat}:ltI (n:Int) (n:Int)=false:=decide_eq_false (by omega)
theorem leI_0 {n:Nat}:leI 0 (n:Int)=true:=decide_eq_true (by omega)
theorem leI_nat {k n:Nat} (h:k≤n):leI (k:Int) (n:Int)=true:=decide_eq_true (by omega)
theorem c_lt {k n:Nat} (h:k<n) {a b:Out}:(bif ltI (k:Int) (n:Int) then a else b)=a:=by rw [ltI_nat h]; rfl
theorem c_nlt {n:Nat} {a b:Out}:(bif ltI (n:Int) (n:Int) then a else b)=b:=by rw [ltI_nn]; rfl
theorem nd_true {a:Out}:nd true a=a:=rfl
theorem nd_ix {k n:Nat} (h:k<n) {a:Out}:nd (inRange (k:Int) n) a=a:=by rw [inRange_nat h]; rfl
theorem nd_take {k n:Nat} (h:k≤n) {a:Out}:nd (leI 0 0&&leI 0 (k:Int)&&leI (k:Int) (n:Int)) a=a:=by
 rw [leI_0,leI_nat h]; rfl
theorem bne_not {a b:Int}:(a != b) = !(a==b):=rfl
theorem ltI_00:ltI 0 ((0:Nat):Int)=false:=rfl
theorem ltI_0s {k:Nat}:ltI 0 ((k+1:Nat):Int)=true:=ltI_t (by omega)
theorem w64_pred {k:Nat} (h:k+1≤9223372036854775807):w64 (((k+1:Nat):Int) - 1)=(k:Int):=by rw [w64_id (by omega) (by omega)]; omega
def lenOk (l:List (List D)):Bool:=decide (l.length≤4294967296)
theorem lenOk_t {l:List (List D)} (h:l.length≤4294967296):lenOk l=true:=decide_eq_true h
theorem cond_oi (c:Bool) (x y:Int):(bif c then oi x else oi y)=oi (bif c then x else y):=by cases c <;> rfl
theorem cond_os (c:Bool) (x y:List UInt8):(bif c then (some (1,[.s x]):Out) else some (1,[.s y]))=some (1,[.s (bif c then x else y)]):=by cases c <;> rfl
theorem sameP_self (a:List (List D)):sameP a a=true:=by
 unfold sameP
 exact @decide_eq_true _ (Classical.propDecidable _) rfl
def e4 (s0 s1 s2 s3:Sh) (F:List D→List D→List D→List D→T × Bool):List T→Option (T × Bool)
 | [v0,v1,v2,v3]=>bif v0.sh==s0&&v1.sh==s1&&v2.sh==s2&&v3.sh==s3 then some (F v0.p v1.p v2.p v3.p) else none
 | _=>none
theorem e4_ok {P:Program} {f:FuncId} {s0 s1 s2 s3:Sh} {F:List D→List D→List D→List D→T × Bool} (h:∀ p0 p1 p2 p3,(F p0 p1 p2 p3).2=true→SoundFn P f [⟨s0,p0⟩,⟨s1,p1⟩,⟨s2,p2⟩,⟨s3,p3⟩] (F p0 p1 p2 p3).1):EntOk P (f,e4 s0 s1 s2 s3 F):=by
 intro args r hr0
 have hr:e4 s0 s1 s2 s3 F args=some (r,true):=hr0
 clear hr0
 unfold e4 at hr
 split at hr
 ·rename_i v0 v1 v2 v3
  cases hb:(v0.sh==s0&&v1.sh==s1&&v2.sh==s2&&v3.sh==s3) with
  | false=>rw [hb] at hr; cases hr
  | true =>
   rw [hb,cond_true,Option.some.injEq] at hr
   simp only [Bool.and_eq_true,beq_iff_eq] at hb
   obtain ⟨shv0,pv0⟩:=v0
   obtain ⟨shv1,pv1⟩:=v1
   obtain ⟨shv2,pv2⟩:=v2
   obtain ⟨shv3,pv3⟩:=v3
   obtain ⟨⟨⟨q0,q1⟩,q2⟩,q3⟩:=hb
   simp only at q0
   subst q0
   simp only at q1
   subst q1
   simp only at q2
   subst q2
   simp only at q3
   subst q3
   have hh:=h pv0 pv1 pv2 pv3
   rw [hr] at hh
   exact hh rfl
 ·cases hr
def e5 (s0 s1 s2 s3 s4:Sh) (F:List D→List D→List D→List D→List D→T × Bool):List T→Option (T × Bool)
 | [v0,v1,v2,v3,v4]=>bif v0.sh==s0&&v1.sh==s1&&v2.sh==s2&&v3.sh==s3&&v4.sh==s4 then some (F v0.p v1.p v2.p v3.p v4.p) else none
 | _=>none
theorem e5_ok {P:Program} {f:FuncId} {s0 s1 s2 s3 s4:Sh} {F:List D→List D→List D→List D→List D→T × Bool} (h:∀ p0 p1 p2 p3 p4,(F p0 p1 p2 p3 p4).2=true→SoundFn P f [⟨s0,p0⟩,⟨s1,p1⟩,⟨s2,p2⟩,⟨s3,p3⟩,⟨s4,p4⟩] (F p0 p1 p2 p3 p4).1):EntOk P (f,e5 s0 s1 s2 s3 s4 F):=by
 intro args r hr0
 have hr:e5 s0 s1 s2 s3 s4 F args=some (r,true):=hr0
 clear hr0
 unfold e5 at hr
 split at hr
 ·rename_i v0 v1 v2 v3 v4
  cases hb:(v0.sh==s0&&v1.sh==s1&&v2.sh==s2&&v3.sh==s3&&v4.sh==s4) with
  | false=>rw [hb] at hr; cases hr
  | true =>
   rw [hb,cond_true,Option.some.injEq] at hr
   simp only [Bool.and_eq_true,beq_iff_eq] at hb
   obtain ⟨shv0,pv0⟩:=v0
   obtain ⟨shv1,pv1⟩:=v1
   obtain ⟨shv2,pv2⟩:=v2
   obtain ⟨shv3,pv3⟩:=v3
   obtain ⟨shv4,pv4⟩:=v4
   obtain ⟨⟨⟨⟨q0,q1⟩,q2⟩,q3⟩,q4⟩:=hb
   simp only at q0
   subst q0
   simp only at q1
   subst q1
   simp only at q2
   subst q2
   simp only at q3
   subst q3
   simp only at q4
   subst q4
   have hh:=h pv0 pv1 pv2 pv3 pv4
   rw [hr] at hh
   exact hh rfl
 ·cases hr
theorem cnt_zero (C:Nat→Bool) (k:Nat):cnt C k 0=0:=rfl
theorem cnt_succ (C:Nat→Bool):∀ m k,cnt C k (m+1)=cnt C k m+(bif C (k+m) then 1 else 0)
 | 0,k=>by simp [cnt]
 | m+1,k=>by
  rw [cnt,cnt_succ C m (k+1),cnt,show k+1+m=k+(m+1) from by omega]
  omega
theorem anyS_take {C:List D→Bool} {z:D} {k:Nat} (h:k≤z.rows.length):anyS C (.l (z.rows.take k))=(List.range k).any fun j=>C (z.rows.getD j []):=by
 unfold anyS
 rw [rows_l,List.length_take,Nat.min_eq_left h]
 rw [Bool.eq_iff_iff]
 simp only [List.any_eq_true,List.mem_range]
 constructor
 ·rintro ⟨j,hj,h⟩
  refine ⟨j,hj,?_⟩
  rwa [List.getD_eq_getElem?_getD,List.getElem?_take_of_lt hj,← List.getD_eq_getElem?_getD] at h
 ·rintro ⟨j,hj,h⟩
  refine ⟨j,hj,?_⟩
  rwa [List.getD_eq_getElem?_getD,List.getElem?_take_of_lt hj,← List.getD_eq_getElem?_getD]
end Go.Proofs.YtchceahcaaibcaaGreat
namespace Go.Proofs.YtchceahcaaibcaaGreat
set_option maxRecDepth 4096
abbrev i_CoordOkT:FuncId→List T→Option (T × Bool):=find [i_recOkE,cofKE,i_fromE,coIE]
theorem i_CoordOkT_ok:CallOk Tryz.prog i_CoordOkT:=find_ok (fC ⟨i_recOk_ok,fC ⟨cofK_ok,fC ⟨i_from_ok,fC ⟨coI_ok,fN⟩⟩⟩⟩)
abbrev i_CoordOkK:List Nat:= [0,1,2,3,4,5,6,7,11,13,14,15,16,37,40,45,46,47,48,75]
noncomputable def i_CoordOkL0 (N:Nat) (p:List D):List D→Out:=loopOf Tryz.prog i_CoordOkT N i_CoordOkK Tryz.f62 rb [⟨ag rICoord,p⟩] 0
noncomputable def i_CoordOkL2 (N:Nat) (p:List D):List D→Out:=loopOf Tryz.prog i_CoordOkT N i_CoordOkK Tryz.f62 rb [⟨ag rICoord,p⟩] 2
theorem i_CoordOkR0 (N:Nat) (p:List D) (x0 x1 x2 x3 x4 x5 x6 x7 x8 x9 x10:D):(i_CoordOkL0 N p) [x0,x1,x2,x3,x4,x5,x6,x7,x8,x9,x10] =
 bif ltI x8.int x7.int then nd (inRange x8.int x6.rows.length) (bif (gd (x6.rows.getD x8.int.toNat []) 0).int != (w64 (x8.int+1)) then ob false
 else bif !(recOk (sub (x6.rows.getD x8.int.toNat []) 0 5)) then ob false
 else nd (leI 0 0&&leI 0 x8.int&&leI x8.int (x9.rows.length:Int)) (bif anyS (fun r=>ixfKC (.l [[.l [sub (x6.rows.getD x8.int.toNat []) 0 5]]]) (sub r 0 5)) (.l (x9.rows.take x8.int.toNat)) then ob false
 else bif (gd (x6.rows.getD x8.int.toNat []) 3).int==3 then nx [x0,x1,x2,x3,x4,.i (w64 (x5.int+1)),x6,x7,.i (w64 (x8.int+1)),x9,x10]
 else nx [x0,x1,x2,x3,x4,x5,x6,x7,.i (w64 (x8.int+1)),x9,x10]))
 else ex 0 [x0,x1,x2,x3,x4,x5,x6,x7,x8,x9,x10]:=by kernel_rfl
theorem i_CoordOkR2 (N:Nat) (p:List D) (x0 x1 x2 x3 x4 x5 x6 x7 x8 x9 x10 x11 x12 x13:D):(i_CoordOkL2 N p) [x0,x1,x2,x3,x4,x5,x6,x7,x8,x9,x10,x11,x12,x13] =
 bif ltI x11.int x10.int then nd (inRange x11.int x9.rows.length) (bif !(inB (gd (x9.rows.getD x11.int.toNat []) 0).int 1 (x12.rows.length:Int)) then ob false
 else nd (inRange (w64 ((gd (x9.rows.getD x11.int.toNat []) 0).int - 1)) x12.rows.length) (bif (gd (x12.rows.getD (w64 ((gd (x9.rows.getD x11.int.toNat []) 0).int - 1)).toNat []) 3).int != 3 then ob false
 else nd (leI 0 0&&leI 0 x11.int&&leI x11.int (x13.rows.length:Int)) (bif hasInt (.l (x13.rows.take x11.int.toNat)) (gd (x9.rows.getD x11.int.toNat []) 0).int then ob false
 else nx [x0,x1,x2,x3,x4,x5,x6,x7,x8,x9,x10,.i (w64 (x11.int+1)),x12,x13])))
 else ex 2 [x0,x1,x2,x3,x4,x5,x6,x7,x8,x9,x10,x11,x12,x13]:=by kernel_rfl
theorem i_CoordOk_ev (N:Nat) (p:List D):evFn Tryz.prog i_CoordOkT N i_CoordOkK Tryz.f62 rb [⟨ag rICoord,p⟩]=some (bo,
 bif ltI 60 ((gd p 0).rows.length:Int) then ob false
 else (let o0:=iter (i_CoordOkL0 N p) N [gd p 0,gd p 1,.i 0,.i 0,.b (ltI 60 ((gd p 0).rows.length:Int)),.i 0,gd p 0,.i ((gd p 0).rows.length:Int),.i 0,gd p 0,gd p 1]
  nd o0.isSome (bif o0.code==1 then some (1,o0.pay)
  else nd (o0.code==2) ((let o2:=iter (i_CoordOkL2 N p) N [gd o0.pay 0,gd o0.pay 1,gd o0.pay 2,gd o0.pay 3,gd o0.pay 4,gd o0.pay 5,gd o0.pay 6,gd o0.pay 7,gd o0.pay 8,gd o0.pay 10,.i ((gd o0.pay 10).rows.length:Int),.i 0,gd o0.pay 9,gd o0.pay 10]
  nd o2.isSome (bif o2.code==1 then some (1,o2.pay)
  else nd (o2.code==4) (ob ((gd o2.pay 5).int==((gd o2.pay 13).rows.length:Int))))))))):=by kernel_rfl
def recSame (a b:List D):Bool:=((gd a 1).int==(gd b 1).int)&&((gd a 2).int==(gd b 2).int)
def recAt (z:D) (k:Nat):Bool:=((gd (z.rows.getD k []) 0).int==((k+1:Nat):Int))&&(recOk (sub (z.rows.getD k []) 0 5) && !(List.range k).any fun j=>recSame (z.rows.getD j []) (z.rows.getD k []))
def isYes (z:D) (k:Nat):Bool:=(gd (z.rows.getD k []) 3).int==3
def ordAt (z o:D) (k:Nat):Bool:=inB (gd (o.rows.getD k []) 0).int 1 (z.rows.length:Int)&&(((gd (z.rows.getD ((gd (o.rows.getD k []) 0).int - 1).toNat []) 3).int==3) && !hasInt (.l (o.rows.take k)) (gd (o.rows.getD k []) 0).int)
def coordOk (p:List D):Bool:=decide ((gd p 0).rows.length≤60)&&((List.range (gd p 0).rows.length).all (recAt (gd p 0))&&((List.range (gd p 1).rows.length).all (ordAt (gd p 0) (gd p 1))&&((cnt (isYes (gd p 0)) 0 (gd p 0).rows.length:Nat):Int)==((gd p 1).rows.length:Int)))
def i_CoordOkE:Ent:=(62,e1 (ag rICoord) fun p=>(⟨rb,[.b (coordOk p)]⟩,true))
theorem i_CoordOk_ok:EntOk Tryz.prog i_CoordOkE:=e1_ok fun p h=>evFn_sound (N:=(gd p 0).rows.length+(gd p 1).rows.length+1) (ks:=i_CoordOkK) (key:=bo) i_CoordOkT_ok (enters Tryz.func62) Tryz.func62 fun hw=>by
 rw [i_CoordOk_ev]
 have hl1:=wt_at (hw ⟨ag rICoord,p⟩ (by simp)) (j:=1) rfl
 by_cases h60:(gd p 0).rows.length≤60
 ·rw [ltI_f (show ((gd p 0).rows.length:Int)≤60 from by omega)]
  have e0:=for_loop (L:=i_CoordOkL0 ((gd p 0).rows.length+(gd p 1).rows.length+1) p) (fun k => [gd p 0,gd p 1,.i 0,.i 0,.b false,.i (cnt (isYes (gd p 0)) 0 k:Nat),gd p 0,.i ((gd p 0).rows.length:Int),.i (k:Int),gd p 0,gd p 1]) (gd p 0).rows.length (recAt (gd p 0)) [.b false] 0 (fun k hk=>?_) ?_ (N:=(gd p 0).rows.length+(gd p 1).rows.length+1) (by omega)
  ·simp only [cnt_zero,Int.natCast_zero] at e0
   rw [cond_false,e0]
   simp only [coordOk,h60,decide_true,Bool.true_and]
   cases h1:(List.range (gd p 0).rows.length).all (recAt (gd p 0))
   ·rfl
   ·have e2:=for_loop (L:=i_CoordOkL2 ((gd p 0).rows.length+(gd p 1).rows.length+1) p) (fun k => [gd p 0,gd p 1,.i 0,.i 0,.b false,.i (cnt (isYes (gd p 0)) 0 (gd p 0).rows.length:Nat),gd p 0,.i ((gd p 0).rows.length:Int),.i ((gd p 0).rows.length:Int),gd p 1,.i ((gd p 1).rows.length:Int),.i (k:Int),gd p 0,gd p 1]) (gd p 1).rows.length (ordAt (gd p 0) (gd p 1)) [.b false] 2 (fun k hk=>?_) ?_ (N:=(gd p 0).rows.length+(gd p 1).rows.length+1) (by omega)
    ·simp only [Int.natCast_zero] at e2
     simp only [nd,cond_true,cond_false,Option.isSome_some,Out.code,Out.pay,Option.getD_some,gd_cons_zero,gd_cons_succ,Nat.reduceBEq,Nat.reduceAdd,int_i,bool_b,str_s,rows_l,Bool.not_true,Bool.not_false,beq_self_eq_true]
     rw [e2]
     cases h2:(List.range (gd p 1).rows.length).all (ordAt (gd p 0) (gd p 1)) <;> rfl
    ·show i_CoordOkL2 _ p [_,_,_,_,_,_,_,_,_,_,_,.i (k:Int),_,_]=_
     rw [i_CoordOkR2]
     simp only [int_i,c_lt hk,nd_ix hk,w64_succ hk hl1,Int.toNat_natCast,nd_take (Nat.le_of_lt hk),bne_not,ordAt]
     cases hb:inB (gd ((gd p 1).rows.getD k []) 0).int 1 ((gd p 0).rows.length:Int)
     ·rfl
     ·have hb':=hb
      simp only [inB,Bool.and_eq_true,decide_eq_true_eq] at hb'
      obtain ⟨m,hm⟩:∃ m:Nat,(gd ((gd p 1).rows.getD k []) 0).int=((m+1:Nat):Int):=⟨((gd ((gd p 1).rows.getD k []) 0).int - 1).toNat,by omega⟩
      rw [hm] at hb' ⊢
      rw [show w64 (((m+1:Nat):Int) - 1)=(m:Int) from by rw [w64_id (by omega) (by omega)]; omega,show ((m+1:Nat):Int) - 1=(m:Int) from by omega,nd_ix (show m<(gd p 0).rows.length from by omega),Int.toNat_natCast]
      cases (gd ((gd p 0).rows.getD m []) 3).int==3 <;> cases hasInt (.l ((gd p 1).rows.take k)) ((m+1:Nat):Int) <;> rfl
    ·show i_CoordOkL2 _ p [_,_,_,_,_,_,_,_,_,_,_,.i ((gd p 1).rows.length:Int),_,_]=_
     rw [i_CoordOkR2]
     simp only [int_i,c_nlt]
  ·show i_CoordOkL0 _ p [_,_,_,_,_,_,_,_,.i (k:Int),_,_]=_
   rw [i_CoordOkR0]
   simp only [int_i,c_lt hk,nd_ix hk,w64_succ hk (show (gd p 0).rows.length≤9223372036854775807 from by omega),Int.toNat_natCast,nd_take (Nat.le_of_lt hk),bne_not,recAt,anyS_take (Nat.le_of_lt hk),cnt_succ,Nat.zero_add]
   have hc:=cnt_le (isYes (gd p 0)) k 0
   rw [w64_id (x:=(cnt (isYes (gd p 0)) 0 k:Int)+1) (by omega) (by omega)]
   rw [show ((List.range k).any fun j=>ixfKC (.l [[.l [sub ((gd p 0).rows.getD k []) 0 5]]]) (sub ((gd p 0).rows.getD j []) 0 5))=(List.range k).any fun j=>recSame ((gd p 0).rows.getD j []) ((gd p 0).rows.getD k []) from rfl]
   cases (gd ((gd p 0).rows.getD k []) 0).int==((k+1:Nat):Int)
   ·rfl
   cases recOk (sub ((gd p 0).rows.getD k []) 0 5)
   ·rfl
   cases (List.range k).any fun j=>recSame ((gd p 0).rows.getD j []) ((gd p 0).rows.getD k [])
   ·rw [show ((gd ((gd p 0).rows.getD k []) 3).int==3)=isYes (gd p 0) k from rfl]
    cases isYes (gd p 0) k <;> rfl
   ·rfl
  ·show i_CoordOkL0 _ p [_,_,_,_,_,_,_,.i ((gd p 0).rows.length:Int),.i ((gd p 0).rows.length:Int),_,_]=_
   rw [i_CoordOkR0]
   simp only [int_i,c_nlt]
 ·rw [ltI_t (show (60:Int)<((gd p 0).rows.length:Int) from by omega)]
  simp only [coordOk,h60,decide_false,Bool.false_and]
  rfl
abbrev s_CoordOkT:FuncId→List T→Option (T × Bool):=find [s_l14RecOkE,s_l1InE,s_l12HasE]
theorem s_CoordOkT_ok:CallOk Tryz.prog s_CoordOkT:=find_ok (fC ⟨s_l14RecOk_ok,fC ⟨s_l1In_ok,fC ⟨s_l12Has_ok,fN⟩⟩⟩)
abbrev s_CoordOkK:List Nat:= [0,1,2,3,4,5,6,7,8,18,23,40,43,65,68,75,106]
noncomputable def s_CoordOkL0 (N:Nat) (p:List D):List D→Out:=loopOf Tryz.prog s_CoordOkT N s_CoordOkK Tryz.f48 rb [⟨ag rICoord,p⟩] 0
noncomputable def s_CoordOkL2 (N:Nat) (p:List D):List D→Out:=loopOf Tryz.prog s_CoordOkT N s_CoordOkK Tryz.f48 rb [⟨ag rICoord,p⟩] 2
noncomputable def s_CoordOkL4 (N:Nat) (p:List D):List D→Out:=loopOf Tryz.prog s_CoordOkT N s_CoordOkK Tryz.f48 rb [⟨ag rICoord,p⟩] 4
theorem s_CoordOkR0 (N:Nat) (p:List D) (x0 x1 x2 x3 x4 x5 x6 x7 x8:D):(s_CoordOkL0 N p) [x0,x1,x2,x3,x4,x5,x6,x7,x8] =
 bif ltI x6.int (x7.rows.length:Int) then nd (inRange x6.int x7.rows.length) (bif (gd (x7.rows.getD x6.int.toNat []) 0).int != (w64 (x6.int+1)) then ob false
 else bif !(recOk (sub (x7.rows.getD x6.int.toNat []) 0 5)) then ob false
 else (let o2:=iter (s_CoordOkL2 N p) N [x0,x1,x2,x3,x4,x5,x6,.b (ltI x6.int (x7.rows.length:Int)),.i 0,.b (!(recOk (sub (x7.rows.getD x6.int.toNat []) 0 5))),.i 0,x7,x8,gd (x7.rows.getD x6.int.toNat []) 0,gd (x7.rows.getD x6.int.toNat []) 1,gd (x7.rows.getD x6.int.toNat []) 2,gd (x7.rows.getD x6.int.toNat []) 3,gd (x7.rows.getD x6.int.toNat []) 4]
  nd o2.isSome (bif o2.code==1 then some (1,o2.pay)
  else nd (o2.code==4) (bif (gd o2.pay 16).int==3 then nx [gd o2.pay 0,gd o2.pay 1,gd o2.pay 2,gd o2.pay 3,gd o2.pay 4,.i (w64 ((gd o2.pay 5).int+1)),.i (w64 ((gd o2.pay 6).int+1)),gd o2.pay 11,gd o2.pay 12]
  else nx [gd o2.pay 0,gd o2.pay 1,gd o2.pay 2,gd o2.pay 3,gd o2.pay 4,gd o2.pay 5,.i (w64 ((gd o2.pay 6).int+1)),gd o2.pay 11,gd o2.pay 12]))))
 else ex 0 [x0,x1,x2,x3,x4,x5,x6,x7,x8]:=by kernel_rfl
theorem s_CoordOkR2 (N:Nat) (p:List D) (x0 x1 x2 x3 x4 x5 x6 x7 x8 x9 x10 x11 x12 x13 x14 x15 x16 x17:D):(s_CoordOkL2 N p) [x0,x1,x2,x3,x4,x5,x6,x7,x8,x9,x10,x11,x12,x13,x14,x15,x16,x17] =
 bif ltI x10.int x6.int then nd (inRange x10.int x11.rows.length) (bif (gd (x11.rows.getD x10.int.toNat []) 1).int==x14.int then nd (inRange x10.int x11.rows.length) (bif (gd (x11.rows.getD x10.int.toNat []) 2).int==x15.int then ob false
 else nx [x0,x1,x2,x3,x4,x5,x6,x7,x8,x9,.i (w64 (x10.int+1)),x11,x12,x13,x14,x15,x16,x17])
 else nx [x0,x1,x2,x3,x4,x5,x6,x7,x8,x9,.i (w64 (x10.int+1)),x11,x12,x13,x14,x15,x16,x17])
 else ex 2 [x0,x1,x2,x3,x4,x5,x6,x7,x8,x9,x10,x11,x12,x13,x14,x15,x16,x17]:=by kernel_rfl
theorem s_CoordOkR4 (N:Nat) (p:List D) (x0 x1 x2 x3 x4 x5 x6 x7 x8 x9:D):(s_CoordOkL4 N p) [x0,x1,x2,x3,x4,x5,x6,x7,x8,x9] =
 bif ltI x7.int (x9.rows.length:Int) then nd (inRange x7.int x9.rows.length) (bif !(inB (gd (x9.rows.getD x7.int.toNat []) 0).int 1 (x8.rows.length:Int)) then ob false
 else nd (inRange (w64 ((gd (x9.rows.getD x7.int.toNat []) 0).int - 1)) x8.rows.length) (bif (gd (x8.rows.getD (w64 ((gd (x9.rows.getD x7.int.toNat []) 0).int - 1)).toNat []) 3).int != 3 then ob false
 else nd (leI 0 0&&leI 0 x7.int&&leI x7.int (x9.rows.length:Int)) (bif hasInt (.l (x9.rows.take x7.int.toNat)) (gd (x9.rows.getD x7.int.toNat []) 0).int then ob false
 else nx [x0,x1,x2,x3,x4,x5,x6,.i (w64 (x7.int+1)),x8,x9])))
 else ex 4 [x0,x1,x2,x3,x4,x5,x6,x7,x8,x9]:=by kernel_rfl
theorem s_CoordOk_ev (N:Nat) (p:List D):evFn Tryz.prog s_CoordOkT N s_CoordOkK Tryz.f48 rb [⟨ag rICoord,p⟩]=some (bo,
 bif ltI 60 ((gd p 0).rows.length:Int) then ob false
 else bif ltI 60 ((gd p 1).rows.length:Int) then ob false
 else (let o0:=iter (s_CoordOkL0 N p) N [gd p 0,gd p 1,.i 0,.i 0,.b (ltI 60 ((gd p 1).rows.length:Int)),.i 0,.i 0,gd p 0,gd p 1]
  nd o0.isSome (bif o0.code==1 then some (1,o0.pay)
  else nd (o0.code==2) ((let o4:=iter (s_CoordOkL4 N p) N [gd o0.pay 0,gd o0.pay 1,gd o0.pay 2,gd o0.pay 3,gd o0.pay 4,gd o0.pay 5,gd o0.pay 6,.i 0,gd o0.pay 7,gd o0.pay 8]
  nd o4.isSome (bif o4.code==1 then some (1,o4.pay)
  else nd (o4.code==6) (ob ((gd o4.pay 5).int==((gd o4.pay 9).rows.length:Int))))))))):=by kernel_rfl
theorem not_any {n:Nat} {C:Nat→Bool}:((List.range n).all fun k => !C k) = !(List.range n).any C:=by simp [List.all_eq_not_any_not]
theorem s_CoordOkU (N:Nat) (p:List D) (hN:(gd p 0).rows.length<N) (hl:(gd p 0).rows.length≤60) (y:D) (k:Nat) (hk:k<(gd p 0).rows.length) :
  iter (s_CoordOkL2 N p) N [gd p 0,gd p 1,.i 0,.i 0,.b false,y,.i (k:Int),.b true,.i 0,.b false,.i 0,gd p 0,gd p 1,gd ((gd p 0).rows.getD k []) 0,gd ((gd p 0).rows.getD k []) 1,gd ((gd p 0).rows.getD k []) 2,gd ((gd p 0).rows.getD k []) 3,gd ((gd p 0).rows.getD k []) 4] =
  some (bif (List.range k).any (fun j=>recSame ((gd p 0).rows.getD j []) ((gd p 0).rows.getD k [])) then (1,[.b false]) else (4,[gd p 0,gd p 1,.i 0,.i 0,.b false,y,.i (k:Int),.b true,.i 0,.b false,.i (k:Int),gd p 0,gd p 1,gd ((gd p 0).rows.getD k []) 0,gd ((gd p 0).rows.getD k []) 1,gd ((gd p 0).rows.getD k []) 2,gd ((gd p 0).rows.getD k []) 3,gd ((gd p 0).rows.getD k []) 4])):=by
 have e:=for_loop (L:=s_CoordOkL2 N p) (fun j => [gd p 0,gd p 1,.i 0,.i 0,.b false,y,.i (k:Int),.b true,.i 0,.b false,.i (j:Int),gd p 0,gd p 1,gd ((gd p 0).rows.getD k []) 0,gd ((gd p 0).rows.getD k []) 1,gd ((gd p 0).rows.getD k []) 2,gd ((gd p 0).rows.getD k []) 3,gd ((gd p 0).rows.getD k []) 4]) k (fun j => !recSame ((gd p 0).rows.getD j []) ((gd p 0).rows.getD k [])) [.b false] 2 (fun j hj=>?_) ?_ (N:=N) (by omega)
 ·simp only [Int.natCast_zero,not_any] at e
  rw [e]
  cases (List.range k).any (fun j=>recSame ((gd p 0).rows.getD j []) ((gd p 0).rows.getD k [])) <;> rfl
 ·show s_CoordOkL2 N p [_,_,_,_,_,_,.i (k:Int),_,_,_,.i (j:Int),_,_,_,_,_,_,_]=_
  rw [s_CoordOkR2]
  simp only [int_i,c_lt hj,nd_ix (Nat.lt_trans hj hk),w64_succ hj (show k≤9223372036854775807 from by omega),Int.toNat_natCast,recSame]
  cases (gd ((gd p 0).rows.getD j []) 1).int==(gd ((gd p 0).rows.getD k []) 1).int <;> cases (gd ((gd p 0).rows.getD j []) 2).int==(gd ((gd p 0).rows.getD k []) 2).int <;> rfl
 ·show s_CoordOkL2 N p [_,_,_,_,_,_,.i (k:Int),_,_,_,.i (k:Int),_,_,_,_,_,_,_]=_
  rw [s_CoordOkR2]
  simp only [int_i,c_nlt]
def s_CoordOkE:Ent:=(48,e1 (ag rICoord) fun p=>(⟨rb,[.b (coordOk p)]⟩,true))
theorem s_CoordOk_ok:EntOk Tryz.prog s_CoordOkE:=e1_ok fun p h=>evFn_sound (N:=(gd p 0).rows.length+(gd p 1).rows.length+1) (ks:=s_CoordOkK) (key:=bo) s_CoordOkT_ok (enters Tryz.func48) Tryz.func48 fun hw=>by
 rw [s_CoordOk_ev]
 have hl1:=wt_at (hw ⟨ag rICoord,p⟩ (by simp)) (j:=1) rfl
 by_cases h60:(gd p 0).rows.length≤60
 ·rw [ltI_f (show ((gd p 0).rows.length:Int)≤60 from by omega),cond_false]
  by_cases h61:(gd p 1).rows.length≤60
  ·rw [ltI_f (show ((gd p 1).rows.length:Int)≤60 from by omega),cond_false]
   have e0:=for_loop (L:=s_CoordOkL0 ((gd p 0).rows.length+(gd p 1).rows.length+1) p) (fun k => [gd p 0,gd p 1,.i 0,.i 0,.b false,.i (cnt (isYes (gd p 0)) 0 k:Nat),.i (k:Int),gd p 0,gd p 1]) (gd p 0).rows.length (recAt (gd p 0)) [.b false] 0 (fun k hk=>?_) ?_ (N:=(gd p 0).rows.length+(gd p 1).rows.length+1) (by omega)
   ·simp only [cnt_zero,Int.natCast_zero] at e0
    rw [e0]
    simp only [coordOk,h60,decide_true,Bool.true_and]
    cases h1:(List.range (gd p 0).rows.length).all (recAt (gd p 0))
    ·rfl
    ·have e2:=for_loop (L:=s_CoordOkL4 ((gd p 0).rows.length+(gd p 1).rows.length+1) p) (fun k => [gd p 0,gd p 1,.i 0,.i 0,.b false,.i (cnt (isYes (gd p 0)) 0 (gd p 0).rows.length:Nat),.i ((gd p 0).rows.length:Int),.i (k:Int),gd p 0,gd p 1]) (gd p 1).rows.length (ordAt (gd p 0) (gd p 1)) [.b false] 4 (fun k hk=>?_) ?_ (N:=(gd p 0).rows.length+(gd p 1).rows.length+1) (by omega)
     ·simp only [Int.natCast_zero] at e2
      simp only [nd,cond_true,cond_false,Option.isSome_some,Out.code,Out.pay,Option.getD_some,gd_cons_zero,gd_cons_succ,Nat.reduceBEq,Nat.reduceAdd,int_i,bool_b,str_s,rows_l,Bool.not_true,Bool.not_false,beq_self_eq_true]
      rw [e2]
      cases h2:(List.range (gd p 1).rows.length).all (ordAt (gd p 0) (gd p 1)) <;> rfl
     ·show s_CoordOkL4 _ p [_,_,_,_,_,_,_,.i (k:Int),_,_]=_
      rw [s_CoordOkR4]
      simp only [int_i,c_lt hk,nd_ix hk,w64_succ hk hl1,Int.toNat_natCast,nd_take (Nat.le_of_lt hk),bne_not,ordAt]
      cases hb:inB (gd ((gd p 1).rows.getD k []) 0).int 1 ((gd p 0).rows.length:Int)
      ·rfl
      ·have hb':=hb
       simp only [inB,Bool.and_eq_true,decide_eq_true_eq] at hb'
       obtain ⟨m,hm⟩:∃ m:Nat,(gd ((gd p 1).rows.getD k []) 0).int=((m+1:Nat):Int):=⟨((gd ((gd p 1).rows.getD k []) 0).int - 1).toNat,by omega⟩
       rw [hm] at hb' ⊢
       rw [show w64 (((m+1:Nat):Int) - 1)=(m:Int) from by rw [w64_id (by omega) (by omega)]; omega,show ((m+1:Nat):Int) - 1=(m:Int) from by omega,nd_ix (show m<(gd p 0).rows.length from by omega),Int.toNat_natCast]
       cases (gd ((gd p 0).rows.getD m []) 3).int==3 <;> cases hasInt (.l ((gd p 1).rows.take k)) ((m+1:Nat):Int) <;> rfl
     ·show s_CoordOkL4 _ p [_,_,_,_,_,_,_,.i ((gd p 1).rows.length:Int),_,_]=_
      rw [s_CoordOkR4]
      simp only [int_i,c_nlt]
   ·show s_CoordOkL0 _ p [_,_,_,_,_,_,.i (k:Int),_,_]=_
    rw [s_CoordOkR0]
    simp only [int_i,ltI_nat hk,nd_ix hk,w64_succ hk (show (gd p 0).rows.length≤9223372036854775807 from by omega),Int.toNat_natCast,bne_not,recAt,cnt_succ,Nat.zero_add]
    have hc:=cnt_le (isYes (gd p 0)) k 0
    cases (gd ((gd p 0).rows.getD k []) 0).int==((k+1:Nat):Int)
    ·rfl
    cases recOk (sub ((gd p 0).rows.getD k []) 0 5)
    ·rfl
    simp only [nd,cond_true,cond_false,Option.isSome_some,Out.code,Out.pay,Option.getD_some,gd_cons_zero,gd_cons_succ,Nat.reduceBEq,Nat.reduceAdd,int_i,bool_b,str_s,rows_l,Bool.not_true,Bool.not_false,beq_self_eq_true,Bool.true_and,s_CoordOkU ((gd p 0).rows.length+(gd p 1).rows.length+1) p (by omega) h60 _ k hk]
    cases (List.range k).any fun j=>recSame ((gd p 0).rows.getD j []) ((gd p 0).rows.getD k [])
    ·simp only [nd,cond_true,cond_false,Option.isSome_some,Out.code,Out.pay,Option.getD_some,gd_cons_zero,gd_cons_succ,Nat.reduceBEq,Nat.reduceAdd,int_i,bool_b,str_s,rows_l,Bool.not_true,Bool.not_false,beq_self_eq_true,Bool.true_and,show ((gd ((gd p 0).rows.getD k []) 3).int==3)=isYes (gd p 0) k from rfl,w64_id (x:=(cnt (isYes (gd p 0)) 0 k:Int)+1) (by omega) (by omega),w64_succ hk (show (gd p 0).rows.length≤9223372036854775807 from by omega)]
     cases isYes (gd p 0) k <;> rfl
    ·rfl
   ·show s_CoordOkL0 _ p [_,_,_,_,_,_,.i ((gd p 0).rows.length:Int),_,_]=_
    rw [s_CoordOkR0]
    simp only [int_i,c_nlt]
  ·rw [ltI_t (show (60:Int)<((gd p 1).rows.length:Int) from by omega)]
   have hc:=cnt_le (isYes (gd p 0)) (gd p 0).rows.length 0
   simp only [coordOk,show (((cnt (isYes (gd p 0)) 0 (gd p 0).rows.length:Nat):Int)==((gd p 1).rows.length:Int))=false from beq_eq_false_iff_ne.2 (by omega),Bool.and_false]
   rfl
 ·rw [ltI_t (show (60:Int)<((gd p 0).rows.length:Int) from by omega)]
  simp only [coordOk,h60,decide_false,Bool.false_and]
  rfl
end Go.Proofs.YtchceahcaaibcaaGreat
namespace Go.Proofs.YtchceahcaaibcaaGreat
set_option maxRecDepth 4096
end Go.Proofs.YtchceahcaaibcaaGreat
namespace Go.Proofs.YtchceahcaaibcaaGreat
theorem total_mem {size:List D→Nat}:∀ {rows:List (List D)} {r:List D},r∈rows→size r≤total size rows
 | a::l,r,h=>by
  have e:total size (a::l)=size a+total size l:=by simp [total]
  rcases List.mem_cons.1 h with rfl | h
  ·omega
  ·have:=total_mem (size:=size) h
   omega
theorem okS {ok:List D→Bool} {size:List D→Nat} {z:D} {m:Nat} (hm:m≤4294967296) (h:z.rows.length+total size z.rows≤m) (hr:∀ r,size r≤m→ok r=true):(decide (z.rows.length≤4294967296)&&z.rows.all fun r=>ok r)=true:=by
 simp only [Bool.and_eq_true,decide_eq_true_eq,List.all_eq_true]
 exact ⟨by omega,fun r hm=>hr r (Nat.le_trans (total_mem hm) (by omega))⟩
theorem okF {ok:List D→Bool} {z:D} {m:Nat} (hm:m≤4294967296) (h:z.rows.length≤m) (hr:∀ r,ok r=true):(decide (z.rows.length≤4294967296)&&z.rows.all fun r=>ok r)=true:=by
 simp only [Bool.and_eq_true,decide_eq_true_eq,List.all_eq_true]
 exact ⟨by omega,fun r _=>hr r⟩
theorem okIntS_of {z:D} {m:Nat} (hm:m≤4294967296) (h:sizeIntS z≤m):okIntS z=true:=okF hm h fun _=>rfl
theorem okCellS_of {z:D} {m:Nat} (hm:m≤4294967296) (h:sizeCellS z≤m):okCellS z=true:=okF (ok:=fun r=>okCell (sub r 0 2)) hm h fun _=>rfl
theorem okRangeS_of {z:D} {m:Nat} (hm:m≤4294967296) (h:sizeRangeS z≤m):okRangeS z=true:=okF (ok:=fun r=>okRange (sub r 0 2)) hm h fun _=>rfl
theorem okWriteS_of {z:D} {m:Nat} (hm:m≤4294967296) (h:sizeWriteS z≤m):okWriteS z=true:=okF (ok:=fun r=>okWrite (sub r 0 2)) hm h fun _=>rfl
theorem okShare_of {p:List D} {m:Nat} (hm:m≤4294967296) (h:sizeShare p≤m):okShare p=true:=by
 unfold sizeShare at h
 rw [okShare,okRangeS_of hm (show sizeRangeS (gd p 1)≤m from by omega),okWriteS_of hm (show sizeWriteS (gd p 2)≤m from by omega)]; rfl
theorem okShareS_of {z:D} {m:Nat} (hm:m≤4294967296) (h:sizeShareS z≤m):okShareS z=true:=okS (ok:=fun r=>okShare (sub r 0 4)) (size:=fun r=>sizeShare (sub r 0 4)) hm h fun _ h=>okShare_of hm h
theorem okRec_of {p:List D} {m:Nat} (hm:m≤4294967296) (h:sizeRec p≤m):okRec p=true:=okShareS_of hm h
theorem okRecS_of {z:D} {m:Nat} (hm:m≤4294967296) (h:sizeRecS z≤m):okRecS z=true:=okS (ok:=fun r=>okRec (sub r 0 5)) (size:=fun r=>sizeRec (sub r 0 5)) hm h fun _ h=>okRec_of hm h
theorem okCoord_of {p:List D} {m:Nat} (hm:m≤4294967296) (h:sizeCoord p≤m):okCoord p=true:=by
 unfold sizeCoord at h
 rw [okCoord,okRecS_of hm (show sizeRecS (gd p 0)≤m from by omega),okIntS_of hm (show sizeIntS (gd p 1)≤m from by omega)]; rfl
theorem okEvent_of {p:List D} {m:Nat} (hm:m≤4294967296) (h:sizeEvent p≤m):okEvent p=true:=okCellS_of hm h
theorem okEventS_of {z:D} {m:Nat} (hm:m≤4294967296) (h:sizeEventS z≤m):okEventS z=true:=okS (ok:=fun r=>okEvent (sub r 0 7)) (size:=fun r=>sizeEvent (sub r 0 7)) hm h fun _ h=>okEvent_of hm h
theorem left_ge {s:Nat} {n:Int} (h:ltI (left s n) 0=false) (h0:0≤n):left s n=n - s∧(s:Int)≤n:=by
 unfold left at h ⊢
 split
 ·exact ⟨rfl,by assumption⟩
 ·rename_i hn
  rw [if_neg hn] at h
  cases h
end Go.Proofs.YtchceahcaaibcaaGreat
namespace Go.Proofs.YtchceahcaaibcaaGreat
set_option maxRecDepth 4096
theorem sz1 {a:Nat} {n:Int}:(bif ltI (left a n) 0 then oi (-1) else oi (left a n))=oi (left a n):=by
 unfold ltI left
 split
 ·rw [decide_eq_false (by omega)]; rfl
 ·rfl
theorem szN {b c:Nat} {m:Int}:nd (fair m) (bif ltI (left b m) 0 then oi (-1) else nd (fair (left b m)) (oi (left c (left b m))))=nd (fair m) (oi (left (b+c) m)):=by
 cases hm:fair m
 ·rfl
 ·simp only [nd,cond_true]
  by_cases h:left b m<0
  ·rw [ltI_t h,cond_true]
   have e:=left_left b c m
   rw [if_pos h] at e
   rw [← e]
  ·rw [ltI_f (by omega),cond_false,fair_left hm h,cond_true]
   have e:=left_left b c m
   rw [if_neg h] at e
   rw [← e]
def rLPart:List S:= [si,si,si]
def rIPart:List S:= [si,si,si]
def cpPart (p:List D):List D:= [gd p 0,gd p 1,gd p 2]
def okPart (p:List D):Bool:=true
theorem toPart_ev (p:List D) (N:Nat):evFn Tryz.prog (find []) N [0,1,2,3] Tryz.f244 (ag rIPart) [⟨ag rLPart,p⟩]=some (bo,some (1,cpPart p)):=by kernel_rfl
def toPartE:Ent:=(244,e1 (ag rLPart) fun p=>(⟨ag rIPart,cpPart p⟩,okPart p))
theorem toPart_ok:EntOk Tryz.prog toPartE:=e1_ok fun p h=>evFn_sound (N:=0) (ks:= [0,1,2,3]) (key:=bo) (find_ok (fN)) (enters Tryz.func244) Tryz.func244 fun _=>by
 have h:okPart p=true:=h
 simp only [okPart,Bool.and_eq_true] at h
 rw [toPart_ev]
def eqPart (p q:List D):Bool:=((gd p 0).int==(gd q 0).int)&&(((gd p 1).int==(gd q 1).int)&&(((gd p 2).int==(gd q 2).int)&&(true)))
theorem eqPart_ev (p q:List D) (N:Nat):evFn Tryz.prog (find []) N [0,1,2,3,4,9,14,19] Tryz.f277 rb [⟨ag rIPart,p⟩,⟨ag rIPart,q⟩]=some (bo,bif !((gd p 0).int==(gd q 0).int) then ob false else bif !((gd p 1).int==(gd q 1).int) then ob false else bif !((gd p 2).int==(gd q 2).int) then ob false else ob true):=by kernel_rfl
def eqPartE:Ent:=(277,e2 (ag rIPart) (ag rIPart) fun p q=>(⟨rb,[.b (eqPart p q)]⟩,true))
theorem eqPart_ok:EntOk Tryz.prog eqPartE:=e2_ok fun p q _=>evFn_sound (N:=0) (ks:= [0,1,2,3,4,9,14,19]) (key:=bo) (find_ok (fN)) (enters Tryz.func277) Tryz.func277 fun _=>by
 rw [eqPart_ev]
 simp only [ne_step]
 rfl
theorem eqPart_refl (p:List D):eqPart p p=true:=by
 simp [eqPart]
def cpPartS (z:D):D:=.l (z.rows.map fun r=>cpPart (sub r 0 3))
def okPartS (z:D):Bool:=decide (z.rows.length≤4294967296)&&z.rows.all fun r=>okPart (sub r 0 3)
def eqPartS:D→D→Bool:=alikeS (fun r s=>eqPart (sub r 0 3) (sub s 0 3))
noncomputable def eqPartSL (N:Nat) (p q:List D):List D→Out:=loopOf Tryz.prog (find [eqPartE]) N [0,1,4,5,10,14,26] Tryz.f195 rb [⟨sd (.sl 97),p⟩,⟨sd (.sl 97),q⟩] 0
theorem eqPartS_rd (p q:List D) (N:Nat) (z u x y:D) (k:Int):eqPartSL N p q [z,u,x,y,.i k]=bif decide (k<z.rows.length) then nd (inRange k z.rows.length) (nd (inRange k u.rows.length) (bif !(eqPart (sub (z.rows.getD k.toNat []) 0 3) (sub (u.rows.getD k.toNat []) 0 3)) then ob false else nx [z,u,x,y,.i (w64 (k+1))])) else ex 0 [z,u,x,y,.i k]:=by kernel_rfl
theorem eqPartS_ev (p q:List D) (N:Nat):evFn Tryz.prog (find [eqPartE]) N [0,1,4,5,10,14,26] Tryz.f195 rb [⟨sd (.sl 97),p⟩,⟨sd (.sl 97),q⟩]=some (bo,bif !(((gd p 0).rows.length:Int)==(gd q 0).rows.length) then ob false else
  (let o:=iter (eqPartSL N p q) N [gd p 0,gd q 0,D0,.b (!(((gd p 0).rows.length:Int)==(gd q 0).rows.length)),.i 0]
   nd o.isSome (bif o.code==1 then some (1,o.pay) else nd (o.code==2) (ob true)))):=by kernel_rfl
def eqPartSE:Ent:=(195,e2 (sd (.sl 97)) (sd (.sl 97)) fun p q=>(⟨rb,[.b (eqPartS (gd p 0) (gd q 0))]⟩,true))
theorem eqPartS_ok:EntOk Tryz.prog eqPartSE:=e2_ok fun p q _=>evFn_sound (N:=(gd p 0).rows.length+1) (ks:= [0,1,4,5,10,14,26]) (key:=bo) (find_ok (fC ⟨eqPart_ok,fN⟩)) (enters Tryz.func195) Tryz.func195 fun hw=>by
 rw [eqPartS_ev]
 by_cases hl:(gd p 0).rows.length=(gd q 0).rows.length
 ·rw [like_loop (E:=(fun r s=>eqPart (sub r 0 3) (sub s 0 3))) (wt_sl (hw ⟨sd (.sl 97),p⟩ (by simp))) hl (eqPartS_rd p q _ _ _ _ _) (by omega)]
  rw [show ((((gd p 0).rows.length:Int))==(gd q 0).rows.length)=true from beq_iff_eq.2 (by omega)]
  show some (bo,_)=some (bo,some (1,[D.b (alikeS (fun r s=>eqPart (sub r 0 3) (sub s 0 3)) (gd p 0) (gd q 0))]))
  cases alikeS (fun r s=>eqPart (sub r 0 3) (sub s 0 3)) (gd p 0) (gd q 0) <;> rfl
 ·rw [show ((((gd p 0).rows.length:Int))==(gd q 0).rows.length)=false from beq_eq_false_iff_ne.2 (by omega)]
  show some (bo,_)=some (bo,some (1,[D.b (alikeS (fun r s=>eqPart (sub r 0 3) (sub s 0 3)) (gd p 0) (gd q 0))]))
  rw [show alikeS (fun r s=>eqPart (sub r 0 3) (sub s 0 3)) (gd p 0) (gd q 0)=false from by simp [alikeS,hl]]
  rfl
theorem eqPartS_refl (z:D):eqPartS z z=true:=alikeS_refl (fun r=>by exact eqPart_refl _) z
def sizePartS (z:D):Nat:=z.rows.length
theorem szPartS_ev (p q:List D) (N:Nat):evFn Tryz.prog (find []) N [0,1,4,10] Tryz.f118 ri [⟨sd (.sl 252),p⟩,⟨ri,q⟩]=some (bo,bif decide (w64 ((gd q 0).int - (gd p 0).rows.length)<0) then oi (-1) else oi (w64 ((gd q 0).int - (gd p 0).rows.length))):=by kernel_rfl
def szPartSE:Ent:=(118,e2 (sd (.sl 252)) ri fun p q=>(⟨ri,[.i (left (sizePartS (gd p 0)) (gd q 0).int)]⟩,fair (gd q 0).int))
theorem szPartS_ok:EntOk Tryz.prog szPartSE:=e2_ok fun p q h=>evFn_sound (N:=(gd p 0).rows.length+1) (ks:= [0,1,4,10]) (key:=bo) (find_ok (fN)) (enters Tryz.func118) Tryz.func118 fun hw=>by
 have h:fair (gd q 0).int=true:=h
 have hl:=wt_sl (hw ⟨sd (.sl 252),p⟩ (by simp))
 have h2:0≤(gd q 0).int∧(gd q 0).int≤1048576:=by simpa [fair] using h
 rw [szPartS_ev,w64_id (by omega) (by omega)]
 rw [oi_if,left_sub]
 rfl
theorem okPartS_of {z:D} {m:Nat} (hm:m≤4294967296) (h:sizePartS z≤m):okPartS z=true:=okF (ok:=fun r=>okPart (sub r 0 3)) hm h fun _=>rfl
def rLMove:List S:= [si,si,si,si,si,si,.sl 308]
def rIMove:List S:= [si,si,si,si,si,si,.sl 176]
def cpMove (p:List D):List D:= [gd p 0,gd p 1,gd p 2,gd p 3,gd p 4,gd p 5,cpCellS (gd p 6)]
def okMove (p:List D):Bool:=okCellS (gd p 6)
def eqMove (p q:List D):Bool:=((gd p 0).int==(gd q 0).int)&&(((gd p 1).int==(gd q 1).int)&&(((gd p 2).int==(gd q 2).int)&&(((gd p 3).int==(gd q 3).int)&&(((gd p 4).int==(gd q 4).int)&&(((gd p 5).int==(gd q 5).int)&&((eqCellS (gd p 6) (gd q 6))&&(true)))))))
theorem eqMove_ev (p q:List D) (N:Nat):evFn Tryz.prog (find [eqCellSE]) N [0,1,2,3,4,9,14,19,24,29,34,40] Tryz.f196 rb [⟨ag rIMove,p⟩,⟨ag rIMove,q⟩]=some (bo,bif !((gd p 0).int==(gd q 0).int) then ob false else bif !((gd p 1).int==(gd q 1).int) then ob false else bif !((gd p 2).int==(gd q 2).int) then ob false else bif !((gd p 3).int==(gd q 3).int) then ob false else bif !((gd p 4).int==(gd q 4).int) then ob false else bif !((gd p 5).int==(gd q 5).int) then ob false else bif !(eqCellS (gd p 6) (gd q 6)) then ob false else ob true):=by kernel_rfl
def eqMoveE:Ent:=(196,e2 (ag rIMove) (ag rIMove) fun p q=>(⟨rb,[.b (eqMove p q)]⟩,true))
theorem eqMove_ok:EntOk Tryz.prog eqMoveE:=e2_ok fun p q _=>evFn_sound (N:=0) (ks:= [0,1,2,3,4,9,14,19,24,29,34,40]) (key:=bo) (find_ok (fC ⟨eqCellS_ok,fN⟩)) (enters Tryz.func196) Tryz.func196 fun _=>by
 rw [eqMove_ev]
 simp only [ne_step]
 rfl
theorem eqMove_refl (p:List D):eqMove p p=true:=by
 simp [eqMove,eqCellS_refl]
def sizeMove (p:List D):Nat:=sizeCellS (gd p 6)
theorem szMove_ev (p q:List D) (N:Nat):evFn Tryz.prog (find [szCellSE]) N [0,1,2,4,10] Tryz.f119 ri [⟨ag rLMove,p⟩,⟨ri,q⟩]=some (bo,nd (fair (gd q 0).int) (bif ltI (left (sizeCellS (gd p 6)) (gd q 0).int) 0 then oi (-1) else oi (left (sizeCellS (gd p 6)) (gd q 0).int))):=by kernel_rfl
def szMoveE:Ent:=(119,e2 (ag rLMove) ri fun p q=>(⟨ri,[.i (left (sizeMove p) (gd q 0).int)]⟩,fair (gd q 0).int))
theorem szMove_ok:EntOk Tryz.prog szMoveE:=e2_ok fun p q h=>evFn_sound (N:=0) (ks:= [0,1,2,4,10]) (key:=bo) (find_ok (fC ⟨szCellS_ok,fN⟩)) (enters Tryz.func119) Tryz.func119 fun _=>by
 have h:fair (gd q 0).int=true:=h
 rw [szMove_ev]
 simp only [sz1,szN]
 simp only [h,nd,cond_true]
 rfl
theorem okMove_of {p:List D} {m:Nat} (hm:m≤4294967296) (h:sizeMove p≤m):okMove p=true:=by
 unfold sizeMove at h
 simp only [okMove,Bool.and_eq_true]
 exact okCellS_of hm (show sizeCellS (gd p 6)≤m from by omega)
def rLAtlas:List S:= [si,.sl 252,si,si,si,si,si,si,.sl 308]
def rIAtlas:List S:= [si,.sl 97,si,si,si,si,si,si,.sl 176]
def cpAtlas (p:List D):List D:= [gd p 0,cpPartS (gd p 1),gd (cpMove (sub p 2 7)) 0,gd (cpMove (sub p 2 7)) 1,gd (cpMove (sub p 2 7)) 2,gd (cpMove (sub p 2 7)) 3,gd (cpMove (sub p 2 7)) 4,gd (cpMove (sub p 2 7)) 5,gd (cpMove (sub p 2 7)) 6]
def okAtlas (p:List D):Bool:=okPartS (gd p 1)&&(okMove (sub p 2 7))
def eqAtlas (p q:List D):Bool:=((gd p 0).int==(gd q 0).int)&&((eqPartS (gd p 1) (gd q 1))&&((eqMove (sub p 2 7) (sub q 2 7))&&(true)))
theorem eqAtlas_ev (p q:List D) (N:Nat):evFn Tryz.prog (find [eqPartSE,eqMoveE]) N [0,1,2,3,4,9,15,21] Tryz.f75 rb [⟨ag rIAtlas,p⟩,⟨ag rIAtlas,q⟩]=some (bo,bif !((gd p 0).int==(gd q 0).int) then ob false else bif !(eqPartS (gd p 1) (gd q 1)) then ob false else bif !(eqMove (sub p 2 7) (sub q 2 7)) then ob false else ob true):=by kernel_rfl
def eqAtlasE:Ent:=(75,e2 (ag rIAtlas) (ag rIAtlas) fun p q=>(⟨rb,[.b (eqAtlas p q)]⟩,true))
theorem eqAtlas_ok:EntOk Tryz.prog eqAtlasE:=e2_ok fun p q _=>evFn_sound (N:=0) (ks:= [0,1,2,3,4,9,15,21]) (key:=bo) (find_ok (fC ⟨eqPartS_ok,fC ⟨eqMove_ok,fN⟩⟩)) (enters Tryz.func75) Tryz.func75 fun _=>by
 rw [eqAtlas_ev]
 simp only [ne_step]
 rfl
theorem eqAtlas_refl (p:List D):eqAtlas p p=true:=by
 simp [eqAtlas,eqPartS_refl,eqMove_refl]
def sizeAtlas (p:List D):Nat:=sizePartS (gd p 1)+(sizeMove (sub p 2 7))
theorem szAtlas_ev (p q:List D) (N:Nat):evFn Tryz.prog (find [szPartSE,szMoveE]) N [0,1,2,4,10,16] Tryz.f40 ri [⟨ag rLAtlas,p⟩,⟨ri,q⟩]=some (bo,nd (fair (gd q 0).int) (bif ltI (left (sizePartS (gd p 1)) (gd q 0).int) 0 then oi (-1) else nd (fair (left (sizePartS (gd p 1)) (gd q 0).int)) (bif ltI (left (sizeMove (sub p 2 7)) (left (sizePartS (gd p 1)) (gd q 0).int)) 0 then oi (-1) else oi (left (sizeMove (sub p 2 7)) (left (sizePartS (gd p 1)) (gd q 0).int))))):=by kernel_rfl
def szAtlasE:Ent:=(40,e2 (ag rLAtlas) ri fun p q=>(⟨ri,[.i (left (sizeAtlas p) (gd q 0).int)]⟩,fair (gd q 0).int))
theorem szAtlas_ok:EntOk Tryz.prog szAtlasE:=e2_ok fun p q h=>evFn_sound (N:=0) (ks:= [0,1,2,4,10,16]) (key:=bo) (find_ok (fC ⟨szPartS_ok,fC ⟨szMove_ok,fN⟩⟩)) (enters Tryz.func40) Tryz.func40 fun _=>by
 have h:fair (gd q 0).int=true:=h
 rw [szAtlas_ev]
 simp only [sz1,szN]
 simp only [h,nd,cond_true]
 rfl
theorem okAtlas_of {p:List D} {m:Nat} (hm:m≤4294967296) (h:sizeAtlas p≤m):okAtlas p=true:=by
 unfold sizeAtlas at h
 simp only [okAtlas,Bool.and_eq_true]
 exact ⟨okPartS_of hm (show sizePartS (gd p 1)≤m from by omega),okMove_of hm (show sizeMove (sub p 2 7)≤m from by omega)⟩
end Go.Proofs.YtchceahcaaibcaaGreat
namespace Go.Proofs.YtchceahcaaibcaaGreat
set_option maxRecDepth 4096
def rLLock:List S:= [si,si,si,si]
def rILock:List S:= [si,si,si,si]
def cpLock (p:List D):List D:= [gd p 0,gd p 1,gd p 2,gd p 3]
def okLock (p:List D):Bool:=true
theorem toLock_ev (p:List D) (N:Nat):evFn Tryz.prog (find []) N [0,1,2,3] Tryz.f302 (ag rILock) [⟨ag rLLock,p⟩]=some (bo,some (1,cpLock p)):=by kernel_rfl
def toLockE:Ent:=(302,e1 (ag rLLock) fun p=>(⟨ag rILock,cpLock p⟩,okLock p))
theorem toLock_ok:EntOk Tryz.prog toLockE:=e1_ok fun p h=>evFn_sound (N:=0) (ks:= [0,1,2,3]) (key:=bo) (find_ok (fN)) (enters Tryz.func302) Tryz.func302 fun _=>by
 have h:okLock p=true:=h
 simp only [okLock,Bool.and_eq_true] at h
 rw [toLock_ev]
def eqLock (p q:List D):Bool:=((gd p 0).int==(gd q 0).int)&&(((gd p 1).int==(gd q 1).int)&&(((gd p 2).int==(gd q 2).int)&&(((gd p 3).int==(gd q 3).int)&&(true))))
theorem eqLock_ev (p q:List D) (N:Nat):evFn Tryz.prog (find []) N [0,1,2,3,4,9,14,19,24] Tryz.f324 rb [⟨ag rILock,p⟩,⟨ag rILock,q⟩]=some (bo,bif !((gd p 0).int==(gd q 0).int) then ob false else bif !((gd p 1).int==(gd q 1).int) then ob false else bif !((gd p 2).int==(gd q 2).int) then ob false else bif !((gd p 3).int==(gd q 3).int) then ob false else ob true):=by kernel_rfl
def eqLockE:Ent:=(324,e2 (ag rILock) (ag rILock) fun p q=>(⟨rb,[.b (eqLock p q)]⟩,true))
theorem eqLock_ok:EntOk Tryz.prog eqLockE:=e2_ok fun p q _=>evFn_sound (N:=0) (ks:= [0,1,2,3,4,9,14,19,24]) (key:=bo) (find_ok (fN)) (enters Tryz.func324) Tryz.func324 fun _=>by
 rw [eqLock_ev]
 simp only [ne_step]
 rfl
theorem eqLock_refl (p:List D):eqLock p p=true:=by
 simp [eqLock]
def cpLockS (z:D):D:=.l (z.rows.map fun r=>cpLock (sub r 0 4))
def okLockS (z:D):Bool:=decide (z.rows.length≤4294967296)&&z.rows.all fun r=>okLock (sub r 0 4)
def eqLockS:D→D→Bool:=alikeS (fun r s=>eqLock (sub r 0 4) (sub s 0 4))
noncomputable def eqLockSL (N:Nat) (p q:List D):List D→Out:=loopOf Tryz.prog (find [eqLockE]) N [0,1,4,5,10,14,26] Tryz.f280 rb [⟨sd (.sl 138),p⟩,⟨sd (.sl 138),q⟩] 0
theorem eqLockS_rd (p q:List D) (N:Nat) (z u x y:D) (k:Int):eqLockSL N p q [z,u,x,y,.i k]=bif decide (k<z.rows.length) then nd (inRange k z.rows.length) (nd (inRange k u.rows.length) (bif !(eqLock (sub (z.rows.getD k.toNat []) 0 4) (sub (u.rows.getD k.toNat []) 0 4)) then ob false else nx [z,u,x,y,.i (w64 (k+1))])) else ex 0 [z,u,x,y,.i k]:=by kernel_rfl
theorem eqLockS_ev (p q:List D) (N:Nat):evFn Tryz.prog (find [eqLockE]) N [0,1,4,5,10,14,26] Tryz.f280 rb [⟨sd (.sl 138),p⟩,⟨sd (.sl 138),q⟩]=some (bo,bif !(((gd p 0).rows.length:Int)==(gd q 0).rows.length) then ob false else
  (let o:=iter (eqLockSL N p q) N [gd p 0,gd q 0,D0,.b (!(((gd p 0).rows.length:Int)==(gd q 0).rows.length)),.i 0]
   nd o.isSome (bif o.code==1 then some (1,o.pay) else nd (o.code==2) (ob true)))):=by kernel_rfl
def eqLockSE:Ent:=(280,e2 (sd (.sl 138)) (sd (.sl 138)) fun p q=>(⟨rb,[.b (eqLockS (gd p 0) (gd q 0))]⟩,true))
theorem eqLockS_ok:EntOk Tryz.prog eqLockSE:=e2_ok fun p q _=>evFn_sound (N:=(gd p 0).rows.length+1) (ks:= [0,1,4,5,10,14,26]) (key:=bo) (find_ok (fC ⟨eqLock_ok,fN⟩)) (enters Tryz.func280) Tryz.func280 fun hw=>by
 rw [eqLockS_ev]
 by_cases hl:(gd p 0).rows.length=(gd q 0).rows.length
 ·rw [like_loop (E:=(fun r s=>eqLock (sub r 0 4) (sub s 0 4))) (wt_sl (hw ⟨sd (.sl 138),p⟩ (by simp))) hl (eqLockS_rd p q _ _ _ _ _) (by omega)]
  rw [show ((((gd p 0).rows.length:Int))==(gd q 0).rows.length)=true from beq_iff_eq.2 (by omega)]
  show some (bo,_)=some (bo,some (1,[D.b (alikeS (fun r s=>eqLock (sub r 0 4) (sub s 0 4)) (gd p 0) (gd q 0))]))
  cases alikeS (fun r s=>eqLock (sub r 0 4) (sub s 0 4)) (gd p 0) (gd q 0) <;> rfl
 ·rw [show ((((gd p 0).rows.length:Int))==(gd q 0).rows.length)=false from beq_eq_false_iff_ne.2 (by omega)]
  show some (bo,_)=some (bo,some (1,[D.b (alikeS (fun r s=>eqLock (sub r 0 4) (sub s 0 4)) (gd p 0) (gd q 0))]))
  rw [show alikeS (fun r s=>eqLock (sub r 0 4) (sub s 0 4)) (gd p 0) (gd q 0)=false from by simp [alikeS,hl]]
  rfl
theorem eqLockS_refl (z:D):eqLockS z z=true:=alikeS_refl (fun r=>by exact eqLock_refl _) z
def sizeLockS (z:D):Nat:=z.rows.length
theorem szLockS_ev (p q:List D) (N:Nat):evFn Tryz.prog (find []) N [0,1,4,10] Tryz.f232 ri [⟨sd (.sl 312),p⟩,⟨ri,q⟩]=some (bo,bif decide (w64 ((gd q 0).int - (gd p 0).rows.length)<0) then oi (-1) else oi (w64 ((gd q 0).int - (gd p 0).rows.length))):=by kernel_rfl
def szLockSE:Ent:=(232,e2 (sd (.sl 312)) ri fun p q=>(⟨ri,[.i (left (sizeLockS (gd p 0)) (gd q 0).int)]⟩,fair (gd q 0).int))
theorem szLockS_ok:EntOk Tryz.prog szLockSE:=e2_ok fun p q h=>evFn_sound (N:=(gd p 0).rows.length+1) (ks:= [0,1,4,10]) (key:=bo) (find_ok (fN)) (enters Tryz.func232) Tryz.func232 fun hw=>by
 have h:fair (gd q 0).int=true:=h
 have hl:=wt_sl (hw ⟨sd (.sl 312),p⟩ (by simp))
 have h2:0≤(gd q 0).int∧(gd q 0).int≤1048576:=by simpa [fair] using h
 rw [szLockS_ev,w64_id (by omega) (by omega)]
 rw [oi_if,left_sub]
 rfl
theorem okLockS_of {z:D} {m:Nat} (hm:m≤4294967296) (h:sizeLockS z≤m):okLockS z=true:=okF (ok:=fun r=>okLock (sub r 0 4)) hm h fun _=>rfl
def rLHeld:List S:= [si,.sl 315]
def rIHeld:List S:= [si,.sl 132]
def cpHeld (p:List D):List D:= [gd p 0,cpWriteS (gd p 1)]
def okHeld (p:List D):Bool:=okWriteS (gd p 1)
def eqHeld (p q:List D):Bool:=((gd p 0).int==(gd q 0).int)&&((eqWriteS (gd p 1) (gd q 1))&&(true))
theorem eqHeld_ev (p q:List D) (N:Nat):evFn Tryz.prog (find [eqWriteSE]) N [0,1,2,3,4,9,15] Tryz.f325 rb [⟨ag rIHeld,p⟩,⟨ag rIHeld,q⟩]=some (bo,bif !((gd p 0).int==(gd q 0).int) then ob false else bif !(eqWriteS (gd p 1) (gd q 1)) then ob false else ob true):=by kernel_rfl
def eqHeldE:Ent:=(325,e2 (ag rIHeld) (ag rIHeld) fun p q=>(⟨rb,[.b (eqHeld p q)]⟩,true))
theorem eqHeld_ok:EntOk Tryz.prog eqHeldE:=e2_ok fun p q _=>evFn_sound (N:=0) (ks:= [0,1,2,3,4,9,15]) (key:=bo) (find_ok (fC ⟨eqWriteS_ok,fN⟩)) (enters Tryz.func325) Tryz.func325 fun _=>by
 rw [eqHeld_ev]
 simp only [ne_step]
 rfl
theorem eqHeld_refl (p:List D):eqHeld p p=true:=by
 simp [eqHeld,eqWriteS_refl]
def sizeHeld (p:List D):Nat:=sizeWriteS (gd p 1)
theorem szHeld_ev (p q:List D) (N:Nat):evFn Tryz.prog (find [szWriteSE]) N [0,1,2,4,10] Tryz.f297 ri [⟨ag rLHeld,p⟩,⟨ri,q⟩]=some (bo,nd (fair (gd q 0).int) (bif ltI (left (sizeWriteS (gd p 1)) (gd q 0).int) 0 then oi (-1) else oi (left (sizeWriteS (gd p 1)) (gd q 0).int))):=by kernel_rfl
def szHeldE:Ent:=(297,e2 (ag rLHeld) ri fun p q=>(⟨ri,[.i (left (sizeHeld p) (gd q 0).int)]⟩,fair (gd q 0).int))
theorem szHeld_ok:EntOk Tryz.prog szHeldE:=e2_ok fun p q h=>evFn_sound (N:=0) (ks:= [0,1,2,4,10]) (key:=bo) (find_ok (fC ⟨szWriteS_ok,fN⟩)) (enters Tryz.func297) Tryz.func297 fun _=>by
 have h:fair (gd q 0).int=true:=h
 rw [szHeld_ev]
 simp only [sz1,szN]
 simp only [h,nd,cond_true]
 rfl
theorem okHeld_of {p:List D} {m:Nat} (hm:m≤4294967296) (h:sizeHeld p≤m):okHeld p=true:=by
 unfold sizeHeld at h
 simp only [okHeld,Bool.and_eq_true]
 exact okWriteS_of hm (show sizeWriteS (gd p 1)≤m from by omega)
def cpHeldS (z:D):D:=.l (z.rows.map fun r=>cpHeld (sub r 0 2))
def okHeldS (z:D):Bool:=decide (z.rows.length≤4294967296)&&z.rows.all fun r=>okHeld (sub r 0 2)
def eqHeldS:D→D→Bool:=alikeS (fun r s=>eqHeld (sub r 0 2) (sub s 0 2))
noncomputable def eqHeldSL (N:Nat) (p q:List D):List D→Out:=loopOf Tryz.prog (find [eqHeldE]) N [0,1,4,5,10,14,26] Tryz.f281 rb [⟨sd (.sl 248),p⟩,⟨sd (.sl 248),q⟩] 0
theorem eqHeldS_rd (p q:List D) (N:Nat) (z u x y:D) (k:Int):eqHeldSL N p q [z,u,x,y,.i k]=bif decide (k<z.rows.length) then nd (inRange k z.rows.length) (nd (inRange k u.rows.length) (bif !(eqHeld (sub (z.rows.getD k.toNat []) 0 2) (sub (u.rows.getD k.toNat []) 0 2)) then ob false else nx [z,u,x,y,.i (w64 (k+1))])) else ex 0 [z,u,x,y,.i k]:=by kernel_rfl
theorem eqHeldS_ev (p q:List D) (N:Nat):evFn Tryz.prog (find [eqHeldE]) N [0,1,4,5,10,14,26] Tryz.f281 rb [⟨sd (.sl 248),p⟩,⟨sd (.sl 248),q⟩]=some (bo,bif !(((gd p 0).rows.length:Int)==(gd q 0).rows.length) then ob false else
  (let o:=iter (eqHeldSL N p q) N [gd p 0,gd q 0,D0,.b (!(((gd p 0).rows.length:Int)==(gd q 0).rows.length)),.i 0]
   nd o.isSome (bif o.code==1 then some (1,o.pay) else nd (o.code==2) (ob true)))):=by kernel_rfl
def eqHeldSE:Ent:=(281,e2 (sd (.sl 248)) (sd (.sl 248)) fun p q=>(⟨rb,[.b (eqHeldS (gd p 0) (gd q 0))]⟩,true))
theorem eqHeldS_ok:EntOk Tryz.prog eqHeldSE:=e2_ok fun p q _=>evFn_sound (N:=(gd p 0).rows.length+1) (ks:= [0,1,4,5,10,14,26]) (key:=bo) (find_ok (fC ⟨eqHeld_ok,fN⟩)) (enters Tryz.func281) Tryz.func281 fun hw=>by
 rw [eqHeldS_ev]
 by_cases hl:(gd p 0).rows.length=(gd q 0).rows.length
 ·rw [like_loop (E:=(fun r s=>eqHeld (sub r 0 2) (sub s 0 2))) (wt_sl (hw ⟨sd (.sl 248),p⟩ (by simp))) hl (eqHeldS_rd p q _ _ _ _ _) (by omega)]
  rw [show ((((gd p 0).rows.length:Int))==(gd q 0).rows.length)=true from beq_iff_eq.2 (by omega)]
  show some (bo,_)=some (bo,some (1,[D.b (alikeS (fun r s=>eqHeld (sub r 0 2) (sub s 0 2)) (gd p 0) (gd q 0))]))
  cases alikeS (fun r s=>eqHeld (sub r 0 2) (sub s 0 2)) (gd p 0) (gd q 0) <;> rfl
 ·rw [show ((((gd p 0).rows.length:Int))==(gd q 0).rows.length)=false from beq_eq_false_iff_ne.2 (by omega)]
  show some (bo,_)=some (bo,some (1,[D.b (alikeS (fun r s=>eqHeld (sub r 0 2) (sub s 0 2)) (gd p 0) (gd q 0))]))
  rw [show alikeS (fun r s=>eqHeld (sub r 0 2) (sub s 0 2)) (gd p 0) (gd q 0)=false from by simp [alikeS,hl]]
  rfl
theorem eqHeldS_refl (z:D):eqHeldS z z=true:=alikeS_refl (fun r=>by exact eqHeld_refl _) z
def sizeHeldS (z:D):Nat:=z.rows.length+total (fun r=>sizeHeld (sub r 0 2)) z.rows
noncomputable def szHeldSL (N:Nat) (p q:List D):List D→Out:=loopOf Tryz.prog (find [szHeldE]) N [0,1,4,5,11,15,25] Tryz.f233 ri [⟨sd (.sl 303),p⟩,⟨ri,q⟩] 0
theorem szHeldS_rd (p q:List D) (N:Nat) (z x y:D) (n k:Int):szHeldSL N p q [z,.i n,x,y,.i k]=bif decide (k<z.rows.length) then nd (inRange k z.rows.length) (nd (fair n) (bif decide (left (sizeHeld (sub (z.rows.getD k.toNat []) 0 2)) n<0) then oi (-1) else nx [z,.i (left (sizeHeld (sub (z.rows.getD k.toNat []) 0 2)) n),x,y,.i (w64 (k+1))])) else ex 0 [z,.i n,x,y,.i k]:=by kernel_rfl
theorem szHeldS_ev (p q:List D) (N:Nat):evFn Tryz.prog (find [szHeldE]) N [0,1,4,5,11,15,25] Tryz.f233 ri [⟨sd (.sl 303),p⟩,⟨ri,q⟩]=some (bo,bif decide (w64 ((gd q 0).int - (gd p 0).rows.length)<0) then oi (-1) else
  (let o:=iter (szHeldSL N p q) N [gd p 0,.i (w64 ((gd q 0).int - (gd p 0).rows.length)),.i 0,.b (decide (w64 ((gd q 0).int - (gd p 0).rows.length)<0)),.i 0]
   nd o.isSome (bif o.code==1 then some (1,o.pay) else nd (o.code==2) (some (1,[gd o.pay 1]))))):=by kernel_rfl
def szHeldSE:Ent:=(233,e2 (sd (.sl 303)) ri fun p q=>(⟨ri,[.i (left (sizeHeldS (gd p 0)) (gd q 0).int)]⟩,fair (gd q 0).int))
theorem szHeldS_ok:EntOk Tryz.prog szHeldSE:=e2_ok fun p q h=>evFn_sound (N:=(gd p 0).rows.length+1) (ks:= [0,1,4,5,11,15,25]) (key:=bo) (find_ok (fC ⟨szHeld_ok,fN⟩)) (enters Tryz.func233) Tryz.func233 fun hw=>by
 have h:fair (gd q 0).int=true:=h
 have hl:=wt_sl (hw ⟨sd (.sl 303),p⟩ (by simp))
 have h2:0≤(gd q 0).int∧(gd q 0).int≤1048576:=by simpa [fair] using h
 rw [szHeldS_ev,w64_id (by omega) (by omega)]
 by_cases hn:(gd q 0).int - ((gd p 0).rows.length:Int)<0
 ·rw [decide_eq_true hn,cond_true]
  have e:left (sizeHeldS (gd p 0)) (gd q 0).int = -1:=if_neg (by simp only [sizeHeldS]; push_cast; omega)
  rw [e]
 ·rw [decide_eq_false hn,cond_false]
  have:=size_loop (size:=fun r=>sizeHeld (sub r 0 2)) hl (szHeldS_rd p q ((gd p 0).rows.length+1) (gd p 0) (.i 0) (.b false)) (gd p 0).rows.length 0 ((gd p 0).rows.length+1) ((gd q 0).int - ((gd p 0).rows.length:Int)) (by omega) (by omega) (by omega) (by omega)
  simp only [Int.natCast_zero,List.drop_zero] at this
  rw [this]
  by_cases hq:(total (fun r=>sizeHeld (sub r 0 2)) (gd p 0).rows:Int)≤(gd q 0).int - ((gd p 0).rows.length:Int)
  ·have e:left (sizeHeldS (gd p 0)) (gd q 0).int=(gd q 0).int - ((gd p 0).rows.length:Int) - (total (fun r=>sizeHeld (sub r 0 2)) (gd p 0).rows:Int):=by
    rw [left,if_pos (by simp only [sizeHeldS]; push_cast; omega)]
    simp only [sizeHeldS]; push_cast; omega
   rw [if_pos hq,e]
   rfl
  ·have e:left (sizeHeldS (gd p 0)) (gd q 0).int = -1:=if_neg (by simp only [sizeHeldS]; push_cast; omega)
   rw [if_neg hq,e]
   rfl
theorem okHeldS_of {z:D} {m:Nat} (hm:m≤4294967296) (h:sizeHeldS z≤m):okHeldS z=true:=okS (ok:=fun r=>okHeld (sub r 0 2)) (size:=fun r=>sizeHeld (sub r 0 2)) hm h fun _ h=>okHeld_of hm h
end Go.Proofs.YtchceahcaaibcaaGreat
namespace Go.Proofs.YtchceahcaaibcaaGreat
set_option maxRecDepth 4096
def rLShard:List S:= [si,.sl 310,.sl 310,.sl 308,.sl 312,.sl 303,.sl 3,.sl 3,si]
def rIShard:List S:= [si,.sl 122,.sl 122,.sl 176,.sl 138,.sl 248,.sl 3,.sl 3,si]
def cpShard (p:List D):List D:= [gd p 0,cpRangeS (gd p 1),cpRangeS (gd p 2),cpCellS (gd p 3),cpLockS (gd p 4),cpHeldS (gd p 5),cpIntS (gd p 6),cpIntS (gd p 7),gd p 8]
def okShard (p:List D):Bool:=okRangeS (gd p 1)&&(okRangeS (gd p 2)&&(okCellS (gd p 3)&&(okLockS (gd p 4)&&(okHeldS (gd p 5)&&(okIntS (gd p 6)&&(okIntS (gd p 7)))))))
def eqShard (p q:List D):Bool:=((gd p 0).int==(gd q 0).int)&&((eqRangeS (gd p 1) (gd q 1))&&((eqRangeS (gd p 2) (gd q 2))&&((eqCellS (gd p 3) (gd q 3))&&((eqLockS (gd p 4) (gd q 4))&&((eqHeldS (gd p 5) (gd q 5))&&((eqIntS (gd p 6) (gd q 6))&&((eqIntS (gd p 7) (gd q 7))&&(((gd p 8).int==(gd q 8).int)&&(true)))))))))
theorem eqShard_ev (p q:List D) (N:Nat):evFn Tryz.prog (find [eqRangeSE,eqRangeSE,eqCellSE,eqLockSE,eqHeldSE,eqIntSE,eqIntSE]) N [0,1,2,3,4,9,15,21,27,33,39,45,51,56] Tryz.f197 rb [⟨ag rIShard,p⟩,⟨ag rIShard,q⟩]=some (bo,bif !((gd p 0).int==(gd q 0).int) then ob false else bif !(eqRangeS (gd p 1) (gd q 1)) then ob false else bif !(eqRangeS (gd p 2) (gd q 2)) then ob false else bif !(eqCellS (gd p 3) (gd q 3)) then ob false else bif !(eqLockS (gd p 4) (gd q 4)) then ob false else bif !(eqHeldS (gd p 5) (gd q 5)) then ob false else bif !(eqIntS (gd p 6) (gd q 6)) then ob false else bif !(eqIntS (gd p 7) (gd q 7)) then ob false else bif !((gd p 8).int==(gd q 8).int) then ob false else ob true):=by kernel_rfl
def eqShardE:Ent:=(197,e2 (ag rIShard) (ag rIShard) fun p q=>(⟨rb,[.b (eqShard p q)]⟩,true))
theorem eqShard_ok:EntOk Tryz.prog eqShardE:=e2_ok fun p q _=>evFn_sound (N:=0) (ks:= [0,1,2,3,4,9,15,21,27,33,39,45,51,56]) (key:=bo) (find_ok (fC ⟨eqRangeS_ok,fC ⟨eqRangeS_ok,fC ⟨eqCellS_ok,fC ⟨eqLockS_ok,fC ⟨eqHeldS_ok,fC ⟨eqIntS_ok,fC ⟨eqIntS_ok,fN⟩⟩⟩⟩⟩⟩⟩)) (enters Tryz.func197) Tryz.func197 fun _=>by
 rw [eqShard_ev]
 simp only [ne_step]
 rfl
theorem eqShard_refl (p:List D):eqShard p p=true:=by
 simp [eqShard,eqRangeS_refl,eqRangeS_refl,eqCellS_refl,eqLockS_refl,eqHeldS_refl,eqIntS_refl,eqIntS_refl]
def sizeShard (p:List D):Nat:=sizeRangeS (gd p 1)+(sizeRangeS (gd p 2)+(sizeCellS (gd p 3)+(sizeLockS (gd p 4)+(sizeHeldS (gd p 5)+(sizeIntS (gd p 6)+(sizeIntS (gd p 7)))))))
theorem szShard_ev (p q:List D) (N:Nat):evFn Tryz.prog (find [szRangeSE,szRangeSE,szCellSE,szLockSE,szHeldSE,szIntSE,szIntSE]) N [0,1,2,4,10,16,22,28,34,40,46] Tryz.f120 ri [⟨ag rLShard,p⟩,⟨ri,q⟩]=some (bo,nd (fair (gd q 0).int) (bif ltI (left (sizeRangeS (gd p 1)) (gd q 0).int) 0 then oi (-1) else nd (fair (left (sizeRangeS (gd p 1)) (gd q 0).int)) (bif ltI (left (sizeRangeS (gd p 2)) (left (sizeRangeS (gd p 1)) (gd q 0).int)) 0 then oi (-1) else nd (fair (left (sizeRangeS (gd p 2)) (left (sizeRangeS (gd p 1)) (gd q 0).int))) (bif ltI (left (sizeCellS (gd p 3)) (left (sizeRangeS (gd p 2)) (left (sizeRangeS (gd p 1)) (gd q 0).int))) 0 then oi (-1) else nd (fair (left (sizeCellS (gd p 3)) (left (sizeRangeS (gd p 2)) (left (sizeRangeS (gd p 1)) (gd q 0).int)))) (bif ltI (left (sizeLockS (gd p 4)) (left (sizeCellS (gd p 3)) (left (sizeRangeS (gd p 2)) (left (sizeRangeS (gd p 1)) (gd q 0).int)))) 0 then oi (-1) else nd (fair (left (sizeLockS (gd p 4)) (left (sizeCellS (gd p 3)) (left (sizeRangeS (gd p 2)) (left (sizeRangeS (gd p 1)) (gd q 0).int))))) (bif ltI (left (sizeHeldS (gd p 5)) (left (sizeLockS (gd p 4)) (left (sizeCellS (gd p 3)) (left (sizeRangeS (gd p 2)) (left (sizeRangeS (gd p 1)) (gd q 0).int))))) 0 then oi (-1) else nd (fair (left (sizeHeldS (gd p 5)) (left (sizeLockS (gd p 4)) (left (sizeCellS (gd p 3)) (left (sizeRangeS (gd p 2)) (left (sizeRangeS (gd p 1)) (gd q 0).int)))))) (bif ltI (left (sizeIntS (gd p 6)) (left (sizeHeldS (gd p 5)) (left (sizeLockS (gd p 4)) (left (sizeCellS (gd p 3)) (left (sizeRangeS (gd p 2)) (left (sizeRangeS (gd p 1)) (gd q 0).int)))))) 0 then oi (-1) else nd (fair (left (sizeIntS (gd p 6)) (left (sizeHeldS (gd p 5)) (left (sizeLockS (gd p 4)) (left (sizeCellS (gd p 3)) (left (sizeRangeS (gd p 2)) (left (sizeRangeS (gd p 1)) (gd q 0).int))))))) (bif ltI (left (sizeIntS (gd p 7)) (left (sizeIntS (gd p 6)) (left (sizeHeldS (gd p 5)) (left (sizeLockS (gd p 4)) (left (sizeCellS (gd p 3)) (left (sizeRangeS (gd p 2)) (left (sizeRangeS (gd p 1)) (gd q 0).int))))))) 0 then oi (-1) else oi (left (sizeIntS (gd p 7)) (left (sizeIntS (gd p 6)) (left (sizeHeldS (gd p 5)) (left (sizeLockS (gd p 4)) (left (sizeCellS (gd p 3)) (left (sizeRangeS (gd p 2)) (left (sizeRangeS (gd p 1)) (gd q 0).int))))))))))))))):=by kernel_rfl
def szShardE:Ent:=(120,e2 (ag rLShard) ri fun p q=>(⟨ri,[.i (left (sizeShard p) (gd q 0).int)]⟩,fair (gd q 0).int))
theorem szShard_ok:EntOk Tryz.prog szShardE:=e2_ok fun p q h=>evFn_sound (N:=0) (ks:= [0,1,2,4,10,16,22,28,34,40,46]) (key:=bo) (find_ok (fC ⟨szRangeS_ok,fC ⟨szRangeS_ok,fC ⟨szCellS_ok,fC ⟨szLockS_ok,fC ⟨szHeldS_ok,fC ⟨szIntS_ok,fC ⟨szIntS_ok,fN⟩⟩⟩⟩⟩⟩⟩)) (enters Tryz.func120) Tryz.func120 fun _=>by
 have h:fair (gd q 0).int=true:=h
 rw [szShard_ev]
 simp only [sz1,szN]
 simp only [h,nd,cond_true]
 rfl
theorem okShard_of {p:List D} {m:Nat} (hm:m≤4294967296) (h:sizeShard p≤m):okShard p=true:=by
 unfold sizeShard at h
 simp only [okShard,Bool.and_eq_true]
 exact ⟨okRangeS_of hm (show sizeRangeS (gd p 1)≤m from by omega),okRangeS_of hm (show sizeRangeS (gd p 2)≤m from by omega),okCellS_of hm (show sizeCellS (gd p 3)≤m from by omega),okLockS_of hm (show sizeLockS (gd p 4)≤m from by omega),okHeldS_of hm (show sizeHeldS (gd p 5)≤m from by omega),okIntS_of hm (show sizeIntS (gd p 6)≤m from by omega),okIntS_of hm (show sizeIntS (gd p 7)≤m from by omega)⟩
def cpShardS (z:D):D:=.l (z.rows.map fun r=>cpShard (sub r 0 9))
def okShardS (z:D):Bool:=decide (z.rows.length≤4294967296)&&z.rows.all fun r=>okShard (sub r 0 9)
def eqShardS:D→D→Bool:=alikeS (fun r s=>eqShard (sub r 0 9) (sub s 0 9))
noncomputable def eqShardSL (N:Nat) (p q:List D):List D→Out:=loopOf Tryz.prog (find [eqShardE]) N [0,1,4,5,10,14,26] Tryz.f76 rb [⟨sd (.sl 80),p⟩,⟨sd (.sl 80),q⟩] 0
theorem eqShardS_rd (p q:List D) (N:Nat) (z u x y:D) (k:Int):eqShardSL N p q [z,u,x,y,.i k]=bif decide (k<z.rows.length) then nd (inRange k z.rows.length) (nd (inRange k u.rows.length) (bif !(eqShard (sub (z.rows.getD k.toNat []) 0 9) (sub (u.rows.getD k.toNat []) 0 9)) then ob false else nx [z,u,x,y,.i (w64 (k+1))])) else ex 0 [z,u,x,y,.i k]:=by kernel_rfl
theorem eqShardS_ev (p q:List D) (N:Nat):evFn Tryz.prog (find [eqShardE]) N [0,1,4,5,10,14,26] Tryz.f76 rb [⟨sd (.sl 80),p⟩,⟨sd (.sl 80),q⟩]=some (bo,bif !(((gd p 0).rows.length:Int)==(gd q 0).rows.length) then ob false else
  (let o:=iter (eqShardSL N p q) N [gd p 0,gd q 0,D0,.b (!(((gd p 0).rows.length:Int)==(gd q 0).rows.length)),.i 0]
   nd o.isSome (bif o.code==1 then some (1,o.pay) else nd (o.code==2) (ob true)))):=by kernel_rfl
def eqShardSE:Ent:=(76,e2 (sd (.sl 80)) (sd (.sl 80)) fun p q=>(⟨rb,[.b (eqShardS (gd p 0) (gd q 0))]⟩,true))
theorem eqShardS_ok:EntOk Tryz.prog eqShardSE:=e2_ok fun p q _=>evFn_sound (N:=(gd p 0).rows.length+1) (ks:= [0,1,4,5,10,14,26]) (key:=bo) (find_ok (fC ⟨eqShard_ok,fN⟩)) (enters Tryz.func76) Tryz.func76 fun hw=>by
 rw [eqShardS_ev]
 by_cases hl:(gd p 0).rows.length=(gd q 0).rows.length
 ·rw [like_loop (E:=(fun r s=>eqShard (sub r 0 9) (sub s 0 9))) (wt_sl (hw ⟨sd (.sl 80),p⟩ (by simp))) hl (eqShardS_rd p q _ _ _ _ _) (by omega)]
  rw [show ((((gd p 0).rows.length:Int))==(gd q 0).rows.length)=true from beq_iff_eq.2 (by omega)]
  show some (bo,_)=some (bo,some (1,[D.b (alikeS (fun r s=>eqShard (sub r 0 9) (sub s 0 9)) (gd p 0) (gd q 0))]))
  cases alikeS (fun r s=>eqShard (sub r 0 9) (sub s 0 9)) (gd p 0) (gd q 0) <;> rfl
 ·rw [show ((((gd p 0).rows.length:Int))==(gd q 0).rows.length)=false from beq_eq_false_iff_ne.2 (by omega)]
  show some (bo,_)=some (bo,some (1,[D.b (alikeS (fun r s=>eqShard (sub r 0 9) (sub s 0 9)) (gd p 0) (gd q 0))]))
  rw [show alikeS (fun r s=>eqShard (sub r 0 9) (sub s 0 9)) (gd p 0) (gd q 0)=false from by simp [alikeS,hl]]
  rfl
theorem eqShardS_refl (z:D):eqShardS z z=true:=alikeS_refl (fun r=>by exact eqShard_refl _) z
def sizeShardS (z:D):Nat:=z.rows.length+total (fun r=>sizeShard (sub r 0 9)) z.rows
noncomputable def szShardSL (N:Nat) (p q:List D):List D→Out:=loopOf Tryz.prog (find [szShardE]) N [0,1,4,5,11,15,25] Tryz.f41 ri [⟨sd (.sl 154),p⟩,⟨ri,q⟩] 0
theorem szShardS_rd (p q:List D) (N:Nat) (z x y:D) (n k:Int):szShardSL N p q [z,.i n,x,y,.i k]=bif decide (k<z.rows.length) then nd (inRange k z.rows.length) (nd (fair n) (bif decide (left (sizeShard (sub (z.rows.getD k.toNat []) 0 9)) n<0) then oi (-1) else nx [z,.i (left (sizeShard (sub (z.rows.getD k.toNat []) 0 9)) n),x,y,.i (w64 (k+1))])) else ex 0 [z,.i n,x,y,.i k]:=by kernel_rfl
theorem szShardS_ev (p q:List D) (N:Nat):evFn Tryz.prog (find [szShardE]) N [0,1,4,5,11,15,25] Tryz.f41 ri [⟨sd (.sl 154),p⟩,⟨ri,q⟩]=some (bo,bif decide (w64 ((gd q 0).int - (gd p 0).rows.length)<0) then oi (-1) else
  (let o:=iter (szShardSL N p q) N [gd p 0,.i (w64 ((gd q 0).int - (gd p 0).rows.length)),.i 0,.b (decide (w64 ((gd q 0).int - (gd p 0).rows.length)<0)),.i 0]
   nd o.isSome (bif o.code==1 then some (1,o.pay) else nd (o.code==2) (some (1,[gd o.pay 1]))))):=by kernel_rfl
def szShardSE:Ent:=(41,e2 (sd (.sl 154)) ri fun p q=>(⟨ri,[.i (left (sizeShardS (gd p 0)) (gd q 0).int)]⟩,fair (gd q 0).int))
theorem szShardS_ok:EntOk Tryz.prog szShardSE:=e2_ok fun p q h=>evFn_sound (N:=(gd p 0).rows.length+1) (ks:= [0,1,4,5,11,15,25]) (key:=bo) (find_ok (fC ⟨szShard_ok,fN⟩)) (enters Tryz.func41) Tryz.func41 fun hw=>by
 have h:fair (gd q 0).int=true:=h
 have hl:=wt_sl (hw ⟨sd (.sl 154),p⟩ (by simp))
 have h2:0≤(gd q 0).int∧(gd q 0).int≤1048576:=by simpa [fair] using h
 rw [szShardS_ev,w64_id (by omega) (by omega)]
 by_cases hn:(gd q 0).int - ((gd p 0).rows.length:Int)<0
 ·rw [decide_eq_true hn,cond_true]
  have e:left (sizeShardS (gd p 0)) (gd q 0).int = -1:=if_neg (by simp only [sizeShardS]; push_cast; omega)
  rw [e]
 ·rw [decide_eq_false hn,cond_false]
  have:=size_loop (size:=fun r=>sizeShard (sub r 0 9)) hl (szShardS_rd p q ((gd p 0).rows.length+1) (gd p 0) (.i 0) (.b false)) (gd p 0).rows.length 0 ((gd p 0).rows.length+1) ((gd q 0).int - ((gd p 0).rows.length:Int)) (by omega) (by omega) (by omega) (by omega)
  simp only [Int.natCast_zero,List.drop_zero] at this
  rw [this]
  by_cases hq:(total (fun r=>sizeShard (sub r 0 9)) (gd p 0).rows:Int)≤(gd q 0).int - ((gd p 0).rows.length:Int)
  ·have e:left (sizeShardS (gd p 0)) (gd q 0).int=(gd q 0).int - ((gd p 0).rows.length:Int) - (total (fun r=>sizeShard (sub r 0 9)) (gd p 0).rows:Int):=by
    rw [left,if_pos (by simp only [sizeShardS]; push_cast; omega)]
    simp only [sizeShardS]; push_cast; omega
   rw [if_pos hq,e]
   rfl
  ·have e:left (sizeShardS (gd p 0)) (gd q 0).int = -1:=if_neg (by simp only [sizeShardS]; push_cast; omega)
   rw [if_neg hq,e]
   rfl
theorem okShardS_of {z:D} {m:Nat} (hm:m≤4294967296) (h:sizeShardS z≤m):okShardS z=true:=okS (ok:=fun r=>okShard (sub r 0 9)) (size:=fun r=>sizeShard (sub r 0 9)) hm h fun _ h=>okShard_of hm h
end Go.Proofs.YtchceahcaaibcaaGreat
namespace Go.Proofs.YtchceahcaaibcaaGreat
set_option maxRecDepth 4096
def rLSeen:List S:= [si,si,si]
def rISeen:List S:= [si,si,si]
def cpSeen (p:List D):List D:= [gd p 0,gd p 1,gd p 2]
def okSeen (p:List D):Bool:=true
theorem toSeen_ev (p:List D) (N:Nat):evFn Tryz.prog (find []) N [0,1,2,3] Tryz.f305 (ag rISeen) [⟨ag rLSeen,p⟩]=some (bo,some (1,cpSeen p)):=by kernel_rfl
def toSeenE:Ent:=(305,e1 (ag rLSeen) fun p=>(⟨ag rISeen,cpSeen p⟩,okSeen p))
theorem toSeen_ok:EntOk Tryz.prog toSeenE:=e1_ok fun p h=>evFn_sound (N:=0) (ks:= [0,1,2,3]) (key:=bo) (find_ok (fN)) (enters Tryz.func305) Tryz.func305 fun _=>by
 have h:okSeen p=true:=h
 simp only [okSeen,Bool.and_eq_true] at h
 rw [toSeen_ev]
def eqSeen (p q:List D):Bool:=((gd p 0).int==(gd q 0).int)&&(((gd p 1).int==(gd q 1).int)&&(((gd p 2).int==(gd q 2).int)&&(true)))
theorem eqSeen_ev (p q:List D) (N:Nat):evFn Tryz.prog (find []) N [0,1,2,3,4,9,14,19] Tryz.f327 rb [⟨ag rISeen,p⟩,⟨ag rISeen,q⟩]=some (bo,bif !((gd p 0).int==(gd q 0).int) then ob false else bif !((gd p 1).int==(gd q 1).int) then ob false else bif !((gd p 2).int==(gd q 2).int) then ob false else ob true):=by kernel_rfl
def eqSeenE:Ent:=(327,e2 (ag rISeen) (ag rISeen) fun p q=>(⟨rb,[.b (eqSeen p q)]⟩,true))
theorem eqSeen_ok:EntOk Tryz.prog eqSeenE:=e2_ok fun p q _=>evFn_sound (N:=0) (ks:= [0,1,2,3,4,9,14,19]) (key:=bo) (find_ok (fN)) (enters Tryz.func327) Tryz.func327 fun _=>by
 rw [eqSeen_ev]
 simp only [ne_step]
 rfl
theorem eqSeen_refl (p:List D):eqSeen p p=true:=by
 simp [eqSeen]
def cpSeenS (z:D):D:=.l (z.rows.map fun r=>cpSeen (sub r 0 3))
def okSeenS (z:D):Bool:=decide (z.rows.length≤4294967296)&&z.rows.all fun r=>okSeen (sub r 0 3)
def eqSeenS:D→D→Bool:=alikeS (fun r s=>eqSeen (sub r 0 3) (sub s 0 3))
noncomputable def eqSeenSL (N:Nat) (p q:List D):List D→Out:=loopOf Tryz.prog (find [eqSeenE]) N [0,1,4,5,10,14,26] Tryz.f284 rb [⟨sd (.sl 130),p⟩,⟨sd (.sl 130),q⟩] 0
theorem eqSeenS_rd (p q:List D) (N:Nat) (z u x y:D) (k:Int):eqSeenSL N p q [z,u,x,y,.i k]=bif decide (k<z.rows.length) then nd (inRange k z.rows.length) (nd (inRange k u.rows.length) (bif !(eqSeen (sub (z.rows.getD k.toNat []) 0 3) (sub (u.rows.getD k.toNat []) 0 3)) then ob false else nx [z,u,x,y,.i (w64 (k+1))])) else ex 0 [z,u,x,y,.i k]:=by kernel_rfl
theorem eqSeenS_ev (p q:List D) (N:Nat):evFn Tryz.prog (find [eqSeenE]) N [0,1,4,5,10,14,26] Tryz.f284 rb [⟨sd (.sl 130),p⟩,⟨sd (.sl 130),q⟩]=some (bo,bif !(((gd p 0).rows.length:Int)==(gd q 0).rows.length) then ob false else
  (let o:=iter (eqSeenSL N p q) N [gd p 0,gd q 0,D0,.b (!(((gd p 0).rows.length:Int)==(gd q 0).rows.length)),.i 0]
   nd o.isSome (bif o.code==1 then some (1,o.pay) else nd (o.code==2) (ob true)))):=by kernel_rfl
def eqSeenSE:Ent:=(284,e2 (sd (.sl 130)) (sd (.sl 130)) fun p q=>(⟨rb,[.b (eqSeenS (gd p 0) (gd q 0))]⟩,true))
theorem eqSeenS_ok:EntOk Tryz.prog eqSeenSE:=e2_ok fun p q _=>evFn_sound (N:=(gd p 0).rows.length+1) (ks:= [0,1,4,5,10,14,26]) (key:=bo) (find_ok (fC ⟨eqSeen_ok,fN⟩)) (enters Tryz.func284) Tryz.func284 fun hw=>by
 rw [eqSeenS_ev]
 by_cases hl:(gd p 0).rows.length=(gd q 0).rows.length
 ·rw [like_loop (E:=(fun r s=>eqSeen (sub r 0 3) (sub s 0 3))) (wt_sl (hw ⟨sd (.sl 130),p⟩ (by simp))) hl (eqSeenS_rd p q _ _ _ _ _) (by omega)]
  rw [show ((((gd p 0).rows.length:Int))==(gd q 0).rows.length)=true from beq_iff_eq.2 (by omega)]
  show some (bo,_)=some (bo,some (1,[D.b (alikeS (fun r s=>eqSeen (sub r 0 3) (sub s 0 3)) (gd p 0) (gd q 0))]))
  cases alikeS (fun r s=>eqSeen (sub r 0 3) (sub s 0 3)) (gd p 0) (gd q 0) <;> rfl
 ·rw [show ((((gd p 0).rows.length:Int))==(gd q 0).rows.length)=false from beq_eq_false_iff_ne.2 (by omega)]
  show some (bo,_)=some (bo,some (1,[D.b (alikeS (fun r s=>eqSeen (sub r 0 3) (sub s 0 3)) (gd p 0) (gd q 0))]))
  rw [show alikeS (fun r s=>eqSeen (sub r 0 3) (sub s 0 3)) (gd p 0) (gd q 0)=false from by simp [alikeS,hl]]
  rfl
theorem eqSeenS_refl (z:D):eqSeenS z z=true:=alikeS_refl (fun r=>by exact eqSeen_refl _) z
def sizeSeenS (z:D):Nat:=z.rows.length
theorem szSeenS_ev (p q:List D) (N:Nat):evFn Tryz.prog (find []) N [0,1,4,10] Tryz.f236 ri [⟨sd (.sl 317),p⟩,⟨ri,q⟩]=some (bo,bif decide (w64 ((gd q 0).int - (gd p 0).rows.length)<0) then oi (-1) else oi (w64 ((gd q 0).int - (gd p 0).rows.length))):=by kernel_rfl
def szSeenSE:Ent:=(236,e2 (sd (.sl 317)) ri fun p q=>(⟨ri,[.i (left (sizeSeenS (gd p 0)) (gd q 0).int)]⟩,fair (gd q 0).int))
theorem szSeenS_ok:EntOk Tryz.prog szSeenSE:=e2_ok fun p q h=>evFn_sound (N:=(gd p 0).rows.length+1) (ks:= [0,1,4,10]) (key:=bo) (find_ok (fN)) (enters Tryz.func236) Tryz.func236 fun hw=>by
 have h:fair (gd q 0).int=true:=h
 have hl:=wt_sl (hw ⟨sd (.sl 317),p⟩ (by simp))
 have h2:0≤(gd q 0).int∧(gd q 0).int≤1048576:=by simpa [fair] using h
 rw [szSeenS_ev,w64_id (by omega) (by omega)]
 rw [oi_if,left_sub]
 rfl
theorem okSeenS_of {z:D} {m:Nat} (hm:m≤4294967296) (h:sizeSeenS z≤m):okSeenS z=true:=okF (ok:=fun r=>okSeen (sub r 0 3)) hm h fun _=>rfl
def rLClient:List S:= [si,si,si,.sl 315,.sl 317,si,si,si,.sl 252]
def rIClient:List S:= [si,si,si,.sl 132,.sl 130,si,si,si,.sl 97]
def cpClient (p:List D):List D:= [gd p 0,gd p 1,gd p 2,cpWriteS (gd p 3),cpSeenS (gd p 4),gd p 5,gd p 6,gd p 7,cpPartS (gd p 8)]
def okClient (p:List D):Bool:=okWriteS (gd p 3)&&(okSeenS (gd p 4)&&(okPartS (gd p 8)))
def eqClient (p q:List D):Bool:=((gd p 0).int==(gd q 0).int)&&(((gd p 1).int==(gd q 1).int)&&(((gd p 2).int==(gd q 2).int)&&((eqWriteS (gd p 3) (gd q 3))&&((eqSeenS (gd p 4) (gd q 4))&&(((gd p 5).int==(gd q 5).int)&&(((gd p 6).int==(gd q 6).int)&&(((gd p 7).int==(gd q 7).int)&&((eqPartS (gd p 8) (gd q 8))&&(true)))))))))
theorem eqClient_ev (p q:List D) (N:Nat):evFn Tryz.prog (find [eqWriteSE,eqSeenSE,eqPartSE]) N [0,1,2,3,4,9,14,19,25,31,36,41,46,52] Tryz.f199 rb [⟨ag rIClient,p⟩,⟨ag rIClient,q⟩]=some (bo,bif !((gd p 0).int==(gd q 0).int) then ob false else bif !((gd p 1).int==(gd q 1).int) then ob false else bif !((gd p 2).int==(gd q 2).int) then ob false else bif !(eqWriteS (gd p 3) (gd q 3)) then ob false else bif !(eqSeenS (gd p 4) (gd q 4)) then ob false else bif !((gd p 5).int==(gd q 5).int) then ob false else bif !((gd p 6).int==(gd q 6).int) then ob false else bif !((gd p 7).int==(gd q 7).int) then ob false else bif !(eqPartS (gd p 8) (gd q 8)) then ob false else ob true):=by kernel_rfl
def eqClientE:Ent:=(199,e2 (ag rIClient) (ag rIClient) fun p q=>(⟨rb,[.b (eqClient p q)]⟩,true))
theorem eqClient_ok:EntOk Tryz.prog eqClientE:=e2_ok fun p q _=>evFn_sound (N:=0) (ks:= [0,1,2,3,4,9,14,19,25,31,36,41,46,52]) (key:=bo) (find_ok (fC ⟨eqWriteS_ok,fC ⟨eqSeenS_ok,fC ⟨eqPartS_ok,fN⟩⟩⟩)) (enters Tryz.func199) Tryz.func199 fun _=>by
 rw [eqClient_ev]
 simp only [ne_step]
 rfl
theorem eqClient_refl (p:List D):eqClient p p=true:=by
 simp [eqClient,eqWriteS_refl,eqSeenS_refl,eqPartS_refl]
def sizeClient (p:List D):Nat:=sizeWriteS (gd p 3)+(sizeSeenS (gd p 4)+(sizePartS (gd p 8)))
theorem szClient_ev (p q:List D) (N:Nat):evFn Tryz.prog (find [szWriteSE,szSeenSE,szPartSE]) N [0,1,2,4,10,16,22] Tryz.f123 ri [⟨ag rLClient,p⟩,⟨ri,q⟩]=some (bo,nd (fair (gd q 0).int) (bif ltI (left (sizeWriteS (gd p 3)) (gd q 0).int) 0 then oi (-1) else nd (fair (left (sizeWriteS (gd p 3)) (gd q 0).int)) (bif ltI (left (sizeSeenS (gd p 4)) (left (sizeWriteS (gd p 3)) (gd q 0).int)) 0 then oi (-1) else nd (fair (left (sizeSeenS (gd p 4)) (left (sizeWriteS (gd p 3)) (gd q 0).int))) (bif ltI (left (sizePartS (gd p 8)) (left (sizeSeenS (gd p 4)) (left (sizeWriteS (gd p 3)) (gd q 0).int))) 0 then oi (-1) else oi (left (sizePartS (gd p 8)) (left (sizeSeenS (gd p 4)) (left (sizeWriteS (gd p 3)) (gd q 0).int))))))):=by kernel_rfl
def szClientE:Ent:=(123,e2 (ag rLClient) ri fun p q=>(⟨ri,[.i (left (sizeClient p) (gd q 0).int)]⟩,fair (gd q 0).int))
theorem szClient_ok:EntOk Tryz.prog szClientE:=e2_ok fun p q h=>evFn_sound (N:=0) (ks:= [0,1,2,4,10,16,22]) (key:=bo) (find_ok (fC ⟨szWriteS_ok,fC ⟨szSeenS_ok,fC ⟨szPartS_ok,fN⟩⟩⟩)) (enters Tryz.func123) Tryz.func123 fun _=>by
 have h:fair (gd q 0).int=true:=h
 rw [szClient_ev]
 simp only [sz1,szN]
 simp only [h,nd,cond_true]
 rfl
theorem okClient_of {p:List D} {m:Nat} (hm:m≤4294967296) (h:sizeClient p≤m):okClient p=true:=by
 unfold sizeClient at h
 simp only [okClient,Bool.and_eq_true]
 exact ⟨okWriteS_of hm (show sizeWriteS (gd p 3)≤m from by omega),okSeenS_of hm (show sizeSeenS (gd p 4)≤m from by omega),okPartS_of hm (show sizePartS (gd p 8)≤m from by omega)⟩
def cpClientS (z:D):D:=.l (z.rows.map fun r=>cpClient (sub r 0 9))
def okClientS (z:D):Bool:=decide (z.rows.length≤4294967296)&&z.rows.all fun r=>okClient (sub r 0 9)
def eqClientS:D→D→Bool:=alikeS (fun r s=>eqClient (sub r 0 9) (sub s 0 9))
noncomputable def eqClientSL (N:Nat) (p q:List D):List D→Out:=loopOf Tryz.prog (find [eqClientE]) N [0,1,4,5,10,14,26] Tryz.f78 rb [⟨sd (.sl 102),p⟩,⟨sd (.sl 102),q⟩] 0
theorem eqClientS_rd (p q:List D) (N:Nat) (z u x y:D) (k:Int):eqClientSL N p q [z,u,x,y,.i k]=bif decide (k<z.rows.length) then nd (inRange k z.rows.length) (nd (inRange k u.rows.length) (bif !(eqClient (sub (z.rows.getD k.toNat []) 0 9) (sub (u.rows.getD k.toNat []) 0 9)) then ob false else nx [z,u,x,y,.i (w64 (k+1))])) else ex 0 [z,u,x,y,.i k]:=by kernel_rfl
theorem eqClientS_ev (p q:List D) (N:Nat):evFn Tryz.prog (find [eqClientE]) N [0,1,4,5,10,14,26] Tryz.f78 rb [⟨sd (.sl 102),p⟩,⟨sd (.sl 102),q⟩]=some (bo,bif !(((gd p 0).rows.length:Int)==(gd q 0).rows.length) then ob false else
  (let o:=iter (eqClientSL N p q) N [gd p 0,gd q 0,D0,.b (!(((gd p 0).rows.length:Int)==(gd q 0).rows.length)),.i 0]
   nd o.isSome (bif o.code==1 then some (1,o.pay) else nd (o.code==2) (ob true)))):=by kernel_rfl
def eqClientSE:Ent:=(78,e2 (sd (.sl 102)) (sd (.sl 102)) fun p q=>(⟨rb,[.b (eqClientS (gd p 0) (gd q 0))]⟩,true))
theorem eqClientS_ok:EntOk Tryz.prog eqClientSE:=e2_ok fun p q _=>evFn_sound (N:=(gd p 0).rows.length+1) (ks:= [0,1,4,5,10,14,26]) (key:=bo) (find_ok (fC ⟨eqClient_ok,fN⟩)) (enters Tryz.func78) Tryz.func78 fun hw=>by
 rw [eqClientS_ev]
 by_cases hl:(gd p 0).rows.length=(gd q 0).rows.length
 ·rw [like_loop (E:=(fun r s=>eqClient (sub r 0 9) (sub s 0 9))) (wt_sl (hw ⟨sd (.sl 102),p⟩ (by simp))) hl (eqClientS_rd p q _ _ _ _ _) (by omega)]
  rw [show ((((gd p 0).rows.length:Int))==(gd q 0).rows.length)=true from beq_iff_eq.2 (by omega)]
  show some (bo,_)=some (bo,some (1,[D.b (alikeS (fun r s=>eqClient (sub r 0 9) (sub s 0 9)) (gd p 0) (gd q 0))]))
  cases alikeS (fun r s=>eqClient (sub r 0 9) (sub s 0 9)) (gd p 0) (gd q 0) <;> rfl
 ·rw [show ((((gd p 0).rows.length:Int))==(gd q 0).rows.length)=false from beq_eq_false_iff_ne.2 (by omega)]
  show some (bo,_)=some (bo,some (1,[D.b (alikeS (fun r s=>eqClient (sub r 0 9) (sub s 0 9)) (gd p 0) (gd q 0))]))
  rw [show alikeS (fun r s=>eqClient (sub r 0 9) (sub s 0 9)) (gd p 0) (gd q 0)=false from by simp [alikeS,hl]]
  rfl
theorem eqClientS_refl (z:D):eqClientS z z=true:=alikeS_refl (fun r=>by exact eqClient_refl _) z
def sizeClientS (z:D):Nat:=z.rows.length+total (fun r=>sizeClient (sub r 0 9)) z.rows
noncomputable def szClientSL (N:Nat) (p q:List D):List D→Out:=loopOf Tryz.prog (find [szClientE]) N [0,1,4,5,11,15,25] Tryz.f43 ri [⟨sd (.sl 160),p⟩,⟨ri,q⟩] 0
theorem szClientS_rd (p q:List D) (N:Nat) (z x y:D) (n k:Int):szClientSL N p q [z,.i n,x,y,.i k]=bif decide (k<z.rows.length) then nd (inRange k z.rows.length) (nd (fair n) (bif decide (left (sizeClient (sub (z.rows.getD k.toNat []) 0 9)) n<0) then oi (-1) else nx [z,.i (left (sizeClient (sub (z.rows.getD k.toNat []) 0 9)) n),x,y,.i (w64 (k+1))])) else ex 0 [z,.i n,x,y,.i k]:=by kernel_rfl
theorem szClientS_ev (p q:List D) (N:Nat):evFn Tryz.prog (find [szClientE]) N [0,1,4,5,11,15,25] Tryz.f43 ri [⟨sd (.sl 160),p⟩,⟨ri,q⟩]=some (bo,bif decide (w64 ((gd q 0).int - (gd p 0).rows.length)<0) then oi (-1) else
  (let o:=iter (szClientSL N p q) N [gd p 0,.i (w64 ((gd q 0).int - (gd p 0).rows.length)),.i 0,.b (decide (w64 ((gd q 0).int - (gd p 0).rows.length)<0)),.i 0]
   nd o.isSome (bif o.code==1 then some (1,o.pay) else nd (o.code==2) (some (1,[gd o.pay 1]))))):=by kernel_rfl
def szClientSE:Ent:=(43,e2 (sd (.sl 160)) ri fun p q=>(⟨ri,[.i (left (sizeClientS (gd p 0)) (gd q 0).int)]⟩,fair (gd q 0).int))
theorem szClientS_ok:EntOk Tryz.prog szClientSE:=e2_ok fun p q h=>evFn_sound (N:=(gd p 0).rows.length+1) (ks:= [0,1,4,5,11,15,25]) (key:=bo) (find_ok (fC ⟨szClient_ok,fN⟩)) (enters Tryz.func43) Tryz.func43 fun hw=>by
 have h:fair (gd q 0).int=true:=h
 have hl:=wt_sl (hw ⟨sd (.sl 160),p⟩ (by simp))
 have h2:0≤(gd q 0).int∧(gd q 0).int≤1048576:=by simpa [fair] using h
 rw [szClientS_ev,w64_id (by omega) (by omega)]
 by_cases hn:(gd q 0).int - ((gd p 0).rows.length:Int)<0
 ·rw [decide_eq_true hn,cond_true]
  have e:left (sizeClientS (gd p 0)) (gd q 0).int = -1:=if_neg (by simp only [sizeClientS]; push_cast; omega)
  rw [e]
 ·rw [decide_eq_false hn,cond_false]
  have:=size_loop (size:=fun r=>sizeClient (sub r 0 9)) hl (szClientS_rd p q ((gd p 0).rows.length+1) (gd p 0) (.i 0) (.b false)) (gd p 0).rows.length 0 ((gd p 0).rows.length+1) ((gd q 0).int - ((gd p 0).rows.length:Int)) (by omega) (by omega) (by omega) (by omega)
  simp only [Int.natCast_zero,List.drop_zero] at this
  rw [this]
  by_cases hq:(total (fun r=>sizeClient (sub r 0 9)) (gd p 0).rows:Int)≤(gd q 0).int - ((gd p 0).rows.length:Int)
  ·have e:left (sizeClientS (gd p 0)) (gd q 0).int=(gd q 0).int - ((gd p 0).rows.length:Int) - (total (fun r=>sizeClient (sub r 0 9)) (gd p 0).rows:Int):=by
    rw [left,if_pos (by simp only [sizeClientS]; push_cast; omega)]
    simp only [sizeClientS]; push_cast; omega
   rw [if_pos hq,e]
   rfl
  ·have e:left (sizeClientS (gd p 0)) (gd q 0).int = -1:=if_neg (by simp only [sizeClientS]; push_cast; omega)
   rw [if_neg hq,e]
   rfl
theorem okClientS_of {z:D} {m:Nat} (hm:m≤4294967296) (h:sizeClientS z≤m):okClientS z=true:=okS (ok:=fun r=>okClient (sub r 0 9)) (size:=fun r=>sizeClient (sub r 0 9)) hm h fun _ h=>okClient_of hm h
end Go.Proofs.YtchceahcaaibcaaGreat
namespace Go.Proofs.YtchceahcaaibcaaGreat
set_option maxRecDepth 4096
def rLLetter:List S:= [si,si,si,si,si,si,si,si,si,.bool,.sl 310,.sl 315,.sl 308,.sl 306]
def rILetter:List S:= [si,si,si,si,si,si,si,si,si,.bool,.sl 122,.sl 132,.sl 176,.sl 118]
def cpLetter (p:List D):List D:= [gd p 0,gd p 1,gd p 2,gd p 3,gd p 4,gd p 5,gd p 6,gd p 7,gd p 8,gd p 9,cpRangeS (gd p 10),cpWriteS (gd p 11),cpCellS (gd p 12),cpShareS (gd p 13)]
def okLetter (p:List D):Bool:=okRangeS (gd p 10)&&(okWriteS (gd p 11)&&(okCellS (gd p 12)&&(okShareS (gd p 13))))
def eqLetter (p q:List D):Bool:=((gd p 0).int==(gd q 0).int)&&(((gd p 1).int==(gd q 1).int)&&(((gd p 2).int==(gd q 2).int)&&(((gd p 3).int==(gd q 3).int)&&(((gd p 4).int==(gd q 4).int)&&(((gd p 5).int==(gd q 5).int)&&(((gd p 6).int==(gd q 6).int)&&(((gd p 7).int==(gd q 7).int)&&(((gd p 8).int==(gd q 8).int)&&(((gd p 9).bool==(gd q 9).bool)&&((eqRangeS (gd p 10) (gd q 10))&&((eqWriteS (gd p 11) (gd q 11))&&((eqCellS (gd p 12) (gd q 12))&&((eqShareS (gd p 13) (gd q 13))&&(true))))))))))))))
theorem eqLetter_ev (p q:List D) (N:Nat):evFn Tryz.prog (find [eqRangeSE,eqWriteSE,eqCellSE,eqShareSE]) N [0,1,2,3,4,9,14,19,24,29,34,39,44,49,54,60,66,72,78] Tryz.f200 rb [⟨ag rILetter,p⟩,⟨ag rILetter,q⟩]=some (bo,bif !((gd p 0).int==(gd q 0).int) then ob false else bif !((gd p 1).int==(gd q 1).int) then ob false else bif !((gd p 2).int==(gd q 2).int) then ob false else bif !((gd p 3).int==(gd q 3).int) then ob false else bif !((gd p 4).int==(gd q 4).int) then ob false else bif !((gd p 5).int==(gd q 5).int) then ob false else bif !((gd p 6).int==(gd q 6).int) then ob false else bif !((gd p 7).int==(gd q 7).int) then ob false else bif !((gd p 8).int==(gd q 8).int) then ob false else bif !((gd p 9).bool==(gd q 9).bool) then ob false else bif !(eqRangeS (gd p 10) (gd q 10)) then ob false else bif !(eqWriteS (gd p 11) (gd q 11)) then ob false else bif !(eqCellS (gd p 12) (gd q 12)) then ob false else bif !(eqShareS (gd p 13) (gd q 13)) then ob false else ob true):=by kernel_rfl
def eqLetterE:Ent:=(200,e2 (ag rILetter) (ag rILetter) fun p q=>(⟨rb,[.b (eqLetter p q)]⟩,true))
theorem eqLetter_ok:EntOk Tryz.prog eqLetterE:=e2_ok fun p q _=>evFn_sound (N:=0) (ks:= [0,1,2,3,4,9,14,19,24,29,34,39,44,49,54,60,66,72,78]) (key:=bo) (find_ok (fC ⟨eqRangeS_ok,fC ⟨eqWriteS_ok,fC ⟨eqCellS_ok,fC ⟨eqShareS_ok,fN⟩⟩⟩⟩)) (enters Tryz.func200) Tryz.func200 fun _=>by
 rw [eqLetter_ev]
 simp only [ne_step]
 rfl
theorem eqLetter_refl (p:List D):eqLetter p p=true:=by
 simp [eqLetter,eqRangeS_refl,eqWriteS_refl,eqCellS_refl,eqShareS_refl]
def sizeLetter (p:List D):Nat:=sizeRangeS (gd p 10)+(sizeWriteS (gd p 11)+(sizeCellS (gd p 12)+(sizeShareS (gd p 13))))
theorem szLetter_ev (p q:List D) (N:Nat):evFn Tryz.prog (find [szRangeSE,szWriteSE,szCellSE,szShareSE]) N [0,1,2,4,10,16,22,28] Tryz.f124 ri [⟨ag rLLetter,p⟩,⟨ri,q⟩]=some (bo,nd (fair (gd q 0).int) (bif ltI (left (sizeRangeS (gd p 10)) (gd q 0).int) 0 then oi (-1) else nd (fair (left (sizeRangeS (gd p 10)) (gd q 0).int)) (bif ltI (left (sizeWriteS (gd p 11)) (left (sizeRangeS (gd p 10)) (gd q 0).int)) 0 then oi (-1) else nd (fair (left (sizeWriteS (gd p 11)) (left (sizeRangeS (gd p 10)) (gd q 0).int))) (bif ltI (left (sizeCellS (gd p 12)) (left (sizeWriteS (gd p 11)) (left (sizeRangeS (gd p 10)) (gd q 0).int))) 0 then oi (-1) else nd (fair (left (sizeCellS (gd p 12)) (left (sizeWriteS (gd p 11)) (left (sizeRangeS (gd p 10)) (gd q 0).int)))) (bif ltI (left (sizeShareS (gd p 13)) (left (sizeCellS (gd p 12)) (left (sizeWriteS (gd p 11)) (left (sizeRangeS (gd p 10)) (gd q 0).int)))) 0 then oi (-1) else oi (left (sizeShareS (gd p 13)) (left (sizeCellS (gd p 12)) (left (sizeWriteS (gd p 11)) (left (sizeRangeS (gd p 10)) (gd q 0).int))))))))):=by kernel_rfl
def szLetterE:Ent:=(124,e2 (ag rLLetter) ri fun p q=>(⟨ri,[.i (left (sizeLetter p) (gd q 0).int)]⟩,fair (gd q 0).int))
theorem szLetter_ok:EntOk Tryz.prog szLetterE:=e2_ok fun p q h=>evFn_sound (N:=0) (ks:= [0,1,2,4,10,16,22,28]) (key:=bo) (find_ok (fC ⟨szRangeS_ok,fC ⟨szWriteS_ok,fC ⟨szCellS_ok,fC ⟨szShareS_ok,fN⟩⟩⟩⟩)) (enters Tryz.func124) Tryz.func124 fun _=>by
 have h:fair (gd q 0).int=true:=h
 rw [szLetter_ev]
 simp only [sz1,szN]
 simp only [h,nd,cond_true]
 rfl
theorem okLetter_of {p:List D} {m:Nat} (hm:m≤4294967296) (h:sizeLetter p≤m):okLetter p=true:=by
 unfold sizeLetter at h
 simp only [okLetter,Bool.and_eq_true]
 exact ⟨okRangeS_of hm (show sizeRangeS (gd p 10)≤m from by omega),okWriteS_of hm (show sizeWriteS (gd p 11)≤m from by omega),okCellS_of hm (show sizeCellS (gd p 12)≤m from by omega),okShareS_of hm (show sizeShareS (gd p 13)≤m from by omega)⟩
def cpLetterS (z:D):D:=.l (z.rows.map fun r=>cpLetter (sub r 0 14))
def okLetterS (z:D):Bool:=decide (z.rows.length≤4294967296)&&z.rows.all fun r=>okLetter (sub r 0 14)
def eqLetterS:D→D→Bool:=alikeS (fun r s=>eqLetter (sub r 0 14) (sub s 0 14))
noncomputable def eqLetterSL (N:Nat) (p q:List D):List D→Out:=loopOf Tryz.prog (find [eqLetterE]) N [0,1,4,5,10,14,26] Tryz.f79 rb [⟨sd (.sl 85),p⟩,⟨sd (.sl 85),q⟩] 0
theorem eqLetterS_rd (p q:List D) (N:Nat) (z u x y:D) (k:Int):eqLetterSL N p q [z,u,x,y,.i k]=bif decide (k<z.rows.length) then nd (inRange k z.rows.length) (nd (inRange k u.rows.length) (bif !(eqLetter (sub (z.rows.getD k.toNat []) 0 14) (sub (u.rows.getD k.toNat []) 0 14)) then ob false else nx [z,u,x,y,.i (w64 (k+1))])) else ex 0 [z,u,x,y,.i k]:=by kernel_rfl
theorem eqLetterS_ev (p q:List D) (N:Nat):evFn Tryz.prog (find [eqLetterE]) N [0,1,4,5,10,14,26] Tryz.f79 rb [⟨sd (.sl 85),p⟩,⟨sd (.sl 85),q⟩]=some (bo,bif !(((gd p 0).rows.length:Int)==(gd q 0).rows.length) then ob false else
  (let o:=iter (eqLetterSL N p q) N [gd p 0,gd q 0,D0,.b (!(((gd p 0).rows.length:Int)==(gd q 0).rows.length)),.i 0]
   nd o.isSome (bif o.code==1 then some (1,o.pay) else nd (o.code==2) (ob true)))):=by kernel_rfl
def eqLetterSE:Ent:=(79,e2 (sd (.sl 85)) (sd (.sl 85)) fun p q=>(⟨rb,[.b (eqLetterS (gd p 0) (gd q 0))]⟩,true))
theorem eqLetterS_ok:EntOk Tryz.prog eqLetterSE:=e2_ok fun p q _=>evFn_sound (N:=(gd p 0).rows.length+1) (ks:= [0,1,4,5,10,14,26]) (key:=bo) (find_ok (fC ⟨eqLetter_ok,fN⟩)) (enters Tryz.func79) Tryz.func79 fun hw=>by
 rw [eqLetterS_ev]
 by_cases hl:(gd p 0).rows.length=(gd q 0).rows.length
 ·rw [like_loop (E:=(fun r s=>eqLetter (sub r 0 14) (sub s 0 14))) (wt_sl (hw ⟨sd (.sl 85),p⟩ (by simp))) hl (eqLetterS_rd p q _ _ _ _ _) (by omega)]
  rw [show ((((gd p 0).rows.length:Int))==(gd q 0).rows.length)=true from beq_iff_eq.2 (by omega)]
  show some (bo,_)=some (bo,some (1,[D.b (alikeS (fun r s=>eqLetter (sub r 0 14) (sub s 0 14)) (gd p 0) (gd q 0))]))
  cases alikeS (fun r s=>eqLetter (sub r 0 14) (sub s 0 14)) (gd p 0) (gd q 0) <;> rfl
 ·rw [show ((((gd p 0).rows.length:Int))==(gd q 0).rows.length)=false from beq_eq_false_iff_ne.2 (by omega)]
  show some (bo,_)=some (bo,some (1,[D.b (alikeS (fun r s=>eqLetter (sub r 0 14) (sub s 0 14)) (gd p 0) (gd q 0))]))
  rw [show alikeS (fun r s=>eqLetter (sub r 0 14) (sub s 0 14)) (gd p 0) (gd q 0)=false from by simp [alikeS,hl]]
  rfl
theorem eqLetterS_refl (z:D):eqLetterS z z=true:=alikeS_refl (fun r=>by exact eqLetter_refl _) z
def sizeLetterS (z:D):Nat:=z.rows.length+total (fun r=>sizeLetter (sub r 0 14)) z.rows
noncomputable def szLetterSL (N:Nat) (p q:List D):List D→Out:=loopOf Tryz.prog (find [szLetterE]) N [0,1,4,5,11,15,25] Tryz.f44 ri [⟨sd (.sl 164),p⟩,⟨ri,q⟩] 0
theorem szLetterS_rd (p q:List D) (N:Nat) (z x y:D) (n k:Int):szLetterSL N p q [z,.i n,x,y,.i k]=bif decide (k<z.rows.length) then nd (inRange k z.rows.length) (nd (fair n) (bif decide (left (sizeLetter (sub (z.rows.getD k.toNat []) 0 14)) n<0) then oi (-1) else nx [z,.i (left (sizeLetter (sub (z.rows.getD k.toNat []) 0 14)) n),x,y,.i (w64 (k+1))])) else ex 0 [z,.i n,x,y,.i k]:=by kernel_rfl
theorem szLetterS_ev (p q:List D) (N:Nat):evFn Tryz.prog (find [szLetterE]) N [0,1,4,5,11,15,25] Tryz.f44 ri [⟨sd (.sl 164),p⟩,⟨ri,q⟩]=some (bo,bif decide (w64 ((gd q 0).int - (gd p 0).rows.length)<0) then oi (-1) else
  (let o:=iter (szLetterSL N p q) N [gd p 0,.i (w64 ((gd q 0).int - (gd p 0).rows.length)),.i 0,.b (decide (w64 ((gd q 0).int - (gd p 0).rows.length)<0)),.i 0]
   nd o.isSome (bif o.code==1 then some (1,o.pay) else nd (o.code==2) (some (1,[gd o.pay 1]))))):=by kernel_rfl
def szLetterSE:Ent:=(44,e2 (sd (.sl 164)) ri fun p q=>(⟨ri,[.i (left (sizeLetterS (gd p 0)) (gd q 0).int)]⟩,fair (gd q 0).int))
theorem szLetterS_ok:EntOk Tryz.prog szLetterSE:=e2_ok fun p q h=>evFn_sound (N:=(gd p 0).rows.length+1) (ks:= [0,1,4,5,11,15,25]) (key:=bo) (find_ok (fC ⟨szLetter_ok,fN⟩)) (enters Tryz.func44) Tryz.func44 fun hw=>by
 have h:fair (gd q 0).int=true:=h
 have hl:=wt_sl (hw ⟨sd (.sl 164),p⟩ (by simp))
 have h2:0≤(gd q 0).int∧(gd q 0).int≤1048576:=by simpa [fair] using h
 rw [szLetterS_ev,w64_id (by omega) (by omega)]
 by_cases hn:(gd q 0).int - ((gd p 0).rows.length:Int)<0
 ·rw [decide_eq_true hn,cond_true]
  have e:left (sizeLetterS (gd p 0)) (gd q 0).int = -1:=if_neg (by simp only [sizeLetterS]; push_cast; omega)
  rw [e]
 ·rw [decide_eq_false hn,cond_false]
  have:=size_loop (size:=fun r=>sizeLetter (sub r 0 14)) hl (szLetterS_rd p q ((gd p 0).rows.length+1) (gd p 0) (.i 0) (.b false)) (gd p 0).rows.length 0 ((gd p 0).rows.length+1) ((gd q 0).int - ((gd p 0).rows.length:Int)) (by omega) (by omega) (by omega) (by omega)
  simp only [Int.natCast_zero,List.drop_zero] at this
  rw [this]
  by_cases hq:(total (fun r=>sizeLetter (sub r 0 14)) (gd p 0).rows:Int)≤(gd q 0).int - ((gd p 0).rows.length:Int)
  ·have e:left (sizeLetterS (gd p 0)) (gd q 0).int=(gd q 0).int - ((gd p 0).rows.length:Int) - (total (fun r=>sizeLetter (sub r 0 14)) (gd p 0).rows:Int):=by
    rw [left,if_pos (by simp only [sizeLetterS]; push_cast; omega)]
    simp only [sizeLetterS]; push_cast; omega
   rw [if_pos hq,e]
   rfl
  ·have e:left (sizeLetterS (gd p 0)) (gd q 0).int = -1:=if_neg (by simp only [sizeLetterS]; push_cast; omega)
   rw [if_neg hq,e]
   rfl
theorem okLetterS_of {z:D} {m:Nat} (hm:m≤4294967296) (h:sizeLetterS z≤m):okLetterS z=true:=okS (ok:=fun r=>okLetter (sub r 0 14)) (size:=fun r=>sizeLetter (sub r 0 14)) hm h fun _ h=>okLetter_of hm h
end Go.Proofs.YtchceahcaaibcaaGreat
namespace Go.Proofs.YtchceahcaaibcaaGreat
set_option maxRecDepth 4096
def rLTown:List S:= [si,.sl 252,si,si,si,si,si,si,.sl 308,.sl 154,.sl 241,.sl 3,.sl 160,.sl 164,.sl 167]
def rITown:List S:= [si,.sl 97,si,si,si,si,si,si,.sl 176,.sl 80,.sl 116,.sl 3,.sl 102,.sl 85,.sl 88]
def cpTown (p:List D):List D:= [gd (cpAtlas (sub p 0 9)) 0,gd (cpAtlas (sub p 0 9)) 1,gd (cpAtlas (sub p 0 9)) 2,gd (cpAtlas (sub p 0 9)) 3,gd (cpAtlas (sub p 0 9)) 4,gd (cpAtlas (sub p 0 9)) 5,gd (cpAtlas (sub p 0 9)) 6,gd (cpAtlas (sub p 0 9)) 7,gd (cpAtlas (sub p 0 9)) 8,cpShardS (gd p 9),gd (cpCoord (sub p 10 2)) 0,gd (cpCoord (sub p 10 2)) 1,cpClientS (gd p 12),cpLetterS (gd p 13),cpEventS (gd p 14)]
def okTown (p:List D):Bool:=okAtlas (sub p 0 9)&&(okShardS (gd p 9)&&(okCoord (sub p 10 2)&&(okClientS (gd p 12)&&(okLetterS (gd p 13)&&(okEventS (gd p 14))))))
def eqTown (p q:List D):Bool:=(eqAtlas (sub p 0 9) (sub q 0 9))&&((eqShardS (gd p 9) (gd q 9))&&((eqCoord (sub p 10 2) (sub q 10 2))&&((eqClientS (gd p 12) (gd q 12))&&((eqLetterS (gd p 13) (gd q 13))&&((eqEventS (gd p 14) (gd q 14))&&(true))))))
theorem eqTown_ev (p q:List D) (N:Nat):evFn Tryz.prog (find [eqAtlasE,eqShardSE,eqCoordE,eqClientSE,eqLetterSE,eqEventSE]) N [0,1,2,3,4,10,16,22,28,34,40] Tryz.f17 rb [⟨ag rITown,p⟩,⟨ag rITown,q⟩]=some (bo,bif !(eqAtlas (sub p 0 9) (sub q 0 9)) then ob false else bif !(eqShardS (gd p 9) (gd q 9)) then ob false else bif !(eqCoord (sub p 10 2) (sub q 10 2)) then ob false else bif !(eqClientS (gd p 12) (gd q 12)) then ob false else bif !(eqLetterS (gd p 13) (gd q 13)) then ob false else bif !(eqEventS (gd p 14) (gd q 14)) then ob false else ob true):=by kernel_rfl
def eqTownE:Ent:=(17,e2 (ag rITown) (ag rITown) fun p q=>(⟨rb,[.b (eqTown p q)]⟩,true))
theorem eqTown_ok:EntOk Tryz.prog eqTownE:=e2_ok fun p q _=>evFn_sound (N:=0) (ks:= [0,1,2,3,4,10,16,22,28,34,40]) (key:=bo) (find_ok (fC ⟨eqAtlas_ok,fC ⟨eqShardS_ok,fC ⟨eqCoord_ok,fC ⟨eqClientS_ok,fC ⟨eqLetterS_ok,fC ⟨eqEventS_ok,fN⟩⟩⟩⟩⟩⟩)) (enters Tryz.func17) Tryz.func17 fun _=>by
 rw [eqTown_ev]
 simp only [ne_step]
 rfl
theorem eqTown_refl (p:List D):eqTown p p=true:=by
 simp [eqTown,eqAtlas_refl,eqShardS_refl,eqCoord_refl,eqClientS_refl,eqLetterS_refl,eqEventS_refl]
def sizeTown (p:List D):Nat:=sizeAtlas (sub p 0 9)+(sizeShardS (gd p 9)+(sizeCoord (sub p 10 2)+(sizeClientS (gd p 12)+(sizeLetterS (gd p 13)+(sizeEventS (gd p 14))))))
theorem szTown_ev (p q:List D) (N:Nat):evFn Tryz.prog (find [szAtlasE,szShardSE,szCoordE,szClientSE,szLetterSE,szEventSE]) N [0,1,2,4,10,16,22,28,34,40] Tryz.f13 ri [⟨ag rLTown,p⟩,⟨ri,q⟩]=some (bo,nd (fair (gd q 0).int) (bif ltI (left (sizeAtlas (sub p 0 9)) (gd q 0).int) 0 then oi (-1) else nd (fair (left (sizeAtlas (sub p 0 9)) (gd q 0).int)) (bif ltI (left (sizeShardS (gd p 9)) (left (sizeAtlas (sub p 0 9)) (gd q 0).int)) 0 then oi (-1) else nd (fair (left (sizeShardS (gd p 9)) (left (sizeAtlas (sub p 0 9)) (gd q 0).int))) (bif ltI (left (sizeCoord (sub p 10 2)) (left (sizeShardS (gd p 9)) (left (sizeAtlas (sub p 0 9)) (gd q 0).int))) 0 then oi (-1) else nd (fair (left (sizeCoord (sub p 10 2)) (left (sizeShardS (gd p 9)) (left (sizeAtlas (sub p 0 9)) (gd q 0).int)))) (bif ltI (left (sizeClientS (gd p 12)) (left (sizeCoord (sub p 10 2)) (left (sizeShardS (gd p 9)) (left (sizeAtlas (sub p 0 9)) (gd q 0).int)))) 0 then oi (-1) else nd (fair (left (sizeClientS (gd p 12)) (left (sizeCoord (sub p 10 2)) (left (sizeShardS (gd p 9)) (left (sizeAtlas (sub p 0 9)) (gd q 0).int))))) (bif ltI (left (sizeLetterS (gd p 13)) (left (sizeClientS (gd p 12)) (left (sizeCoord (sub p 10 2)) (left (sizeShardS (gd p 9)) (left (sizeAtlas (sub p 0 9)) (gd q 0).int))))) 0 then oi (-1) else nd (fair (left (sizeLetterS (gd p 13)) (left (sizeClientS (gd p 12)) (left (sizeCoord (sub p 10 2)) (left (sizeShardS (gd p 9)) (left (sizeAtlas (sub p 0 9)) (gd q 0).int)))))) (bif ltI (left (sizeEventS (gd p 14)) (left (sizeLetterS (gd p 13)) (left (sizeClientS (gd p 12)) (left (sizeCoord (sub p 10 2)) (left (sizeShardS (gd p 9)) (left (sizeAtlas (sub p 0 9)) (gd q 0).int)))))) 0 then oi (-1) else oi (left (sizeEventS (gd p 14)) (left (sizeLetterS (gd p 13)) (left (sizeClientS (gd p 12)) (left (sizeCoord (sub p 10 2)) (left (sizeShardS (gd p 9)) (left (sizeAtlas (sub p 0 9)) (gd q 0).int))))))))))))):=by kernel_rfl
def szTownE:Ent:=(13,e2 (ag rLTown) ri fun p q=>(⟨ri,[.i (left (sizeTown p) (gd q 0).int)]⟩,fair (gd q 0).int))
theorem szTown_ok:EntOk Tryz.prog szTownE:=e2_ok fun p q h=>evFn_sound (N:=0) (ks:= [0,1,2,4,10,16,22,28,34,40]) (key:=bo) (find_ok (fC ⟨szAtlas_ok,fC ⟨szShardS_ok,fC ⟨szCoord_ok,fC ⟨szClientS_ok,fC ⟨szLetterS_ok,fC ⟨szEventS_ok,fN⟩⟩⟩⟩⟩⟩)) (enters Tryz.func13) Tryz.func13 fun _=>by
 have h:fair (gd q 0).int=true:=h
 rw [szTown_ev]
 simp only [sz1,szN]
 simp only [h,nd,cond_true]
 rfl
theorem okTown_of {p:List D} {m:Nat} (hm:m≤4294967296) (h:sizeTown p≤m):okTown p=true:=by
 unfold sizeTown at h
 simp only [okTown,Bool.and_eq_true]
 exact ⟨okAtlas_of hm (show sizeAtlas (sub p 0 9)≤m from by omega),okShardS_of hm (show sizeShardS (gd p 9)≤m from by omega),okCoord_of hm (show sizeCoord (sub p 10 2)≤m from by omega),okClientS_of hm (show sizeClientS (gd p 12)≤m from by omega),okLetterS_of hm (show sizeLetterS (gd p 13)≤m from by omega),okEventS_of hm (show sizeEventS (gd p 14)≤m from by omega)⟩
end Go.Proofs.YtchceahcaaibcaaGreat
namespace Go.Proofs.YtchceahcaaibcaaGreat
set_option maxRecDepth 4096
abbrev i_isTxT:FuncId→List T→Option (T × Bool):=find [i_fromE]
theorem i_isTxT_ok:CallOk Tryz.prog i_isTxT:=find_ok (fC ⟨i_from_ok,fN⟩)
abbrev i_isTxK:List Nat:= [0,2]
theorem i_isTx_ev (N:Nat) (p:List D):evFn Tryz.prog i_isTxT N i_isTxK Tryz.f194 rb [⟨ri,p⟩]=some (bo,
 ob (inB (gd p 0).int 1 60)):=by kernel_rfl
def i_isTxE:Ent:=(194,e1 ri fun p=>(⟨rb,[.b (inB (gd p 0).int 1 60)]⟩,true))
theorem i_isTx_ok:EntOk Tryz.prog i_isTxE:=e1_ok fun p h=>evFn_sound (N:=0) (ks:=i_isTxK) (key:=bo) i_isTxT_ok (enters Tryz.func194) Tryz.func194 fun hw=>by
 rw [i_isTx_ev]
 skip
abbrev s_l12TxT:FuncId→List T→Option (T × Bool):=find [s_l1InE]
theorem s_l12TxT_ok:CallOk Tryz.prog s_l12TxT:=find_ok (fC ⟨s_l1In_ok,fN⟩)
abbrev s_l12TxK:List Nat:= [0,2]
theorem s_l12Tx_ev (N:Nat) (p:List D):evFn Tryz.prog s_l12TxT N s_l12TxK Tryz.f146 rb [⟨ri,p⟩]=some (bo,
 ob (inB (gd p 0).int 1 60)):=by kernel_rfl
def s_l12TxE:Ent:=(146,e1 ri fun p=>(⟨rb,[.b (inB (gd p 0).int 1 60)]⟩,true))
theorem s_l12Tx_ok:EntOk Tryz.prog s_l12TxE:=e1_ok fun p h=>evFn_sound (N:=0) (ks:=s_l12TxK) (key:=bo) s_l12TxT_ok (enters Tryz.func146) Tryz.func146 fun hw=>by
 rw [s_l12Tx_ev]
 skip
abbrev i_isModeT:FuncId→List T→Option (T × Bool):=find []
theorem i_isModeT_ok:CallOk Tryz.prog i_isModeT:=find_ok (fN)
abbrev i_isModeK:List Nat:= [0,2]
theorem i_isMode_ev (N:Nat) (p:List D):evFn Tryz.prog i_isModeT N i_isModeK Tryz.f258 rb [⟨ri,p⟩]=some (bo,
 bif (gd p 0).int==1 then ob true
 else ob ((gd p 0).int==2)):=by kernel_rfl
def i_isModeF (p:List D):Bool:=
 bif (gd p 0).int==1 then true
 else (gd p 0).int==2
def i_isModeE:Ent:=(258,e1 ri fun p=>(⟨rb,[.b (i_isModeF [gd p 0])]⟩,true))
theorem i_isMode_ok:EntOk Tryz.prog i_isModeE:=e1_ok fun p h=>evFn_sound (N:=0) (ks:=i_isModeK) (key:=bo) i_isModeT_ok (enters Tryz.func258) Tryz.func258 fun hw=>by
 rw [i_isMode_ev]
 try simp only [cond_ob,cond_oi,cond_os]
 rfl
abbrev s_l12ModeT:FuncId→List T→Option (T × Bool):=find []
theorem s_l12ModeT_ok:CallOk Tryz.prog s_l12ModeT:=find_ok (fN)
abbrev s_l12ModeK:List Nat:= [0,2]
theorem s_l12Mode_ev (N:Nat) (p:List D):evFn Tryz.prog s_l12ModeT N s_l12ModeK Tryz.f240 rb [⟨ri,p⟩]=some (bo,
 bif (gd p 0).int==1 then ob true
 else ob ((gd p 0).int==2)):=by kernel_rfl
def s_l12ModeF (p:List D):Bool:=
 bif (gd p 0).int==1 then true
 else (gd p 0).int==2
def s_l12ModeE:Ent:=(240,e1 ri fun p=>(⟨rb,[.b (s_l12ModeF [gd p 0])]⟩,true))
theorem s_l12Mode_ok:EntOk Tryz.prog s_l12ModeE:=e1_ok fun p h=>evFn_sound (N:=0) (ks:=s_l12ModeK) (key:=bo) s_l12ModeT_ok (enters Tryz.func240) Tryz.func240 fun hw=>by
 rw [s_l12Mode_ev]
 try simp only [cond_ob,cond_oi,cond_os]
 rfl
abbrev i_oneT:FuncId→List T→Option (T × Bool):=find []
theorem i_oneT_ok:CallOk Tryz.prog i_oneT:=find_ok (fN)
abbrev i_oneK:List Nat:= [0,2]
theorem i_one_ev (N:Nat) (p:List D):evFn Tryz.prog i_oneT N i_oneK Tryz.f87 (ag rIRange) [⟨ri,p⟩]=some (bo,
 some (1,[gd p 0,.i (w64 ((gd p 0).int+1))])):=by kernel_rfl
def i_oneE:Ent:=(87,e1 ri fun p=>(⟨ag rIRange,[(gd p 0),.i (w64 ((gd p 0).int+1))]⟩,true))
theorem i_one_ok:EntOk Tryz.prog i_oneE:=e1_ok fun p h=>evFn_sound (N:=0) (ks:=i_oneK) (key:=bo) i_oneT_ok (enters Tryz.func87) Tryz.func87 fun hw=>by
 rw [i_one_ev]
 skip
abbrev s_l10OneT:FuncId→List T→Option (T × Bool):=find []
theorem s_l10OneT_ok:CallOk Tryz.prog s_l10OneT:=find_ok (fN)
abbrev s_l10OneK:List Nat:= [0,2]
theorem s_l10One_ev (N:Nat) (p:List D):evFn Tryz.prog s_l10OneT N s_l10OneK Tryz.f84 (ag rIRange) [⟨ri,p⟩]=some (bo,
 some (1,[gd p 0,.i (w64 ((gd p 0).int+1))])):=by kernel_rfl
def s_l10OneE:Ent:=(84,e1 ri fun p=>(⟨ag rIRange,[(gd p 0),.i (w64 ((gd p 0).int+1))]⟩,true))
theorem s_l10One_ok:EntOk Tryz.prog s_l10OneE:=e1_ok fun p h=>evFn_sound (N:=0) (ks:=s_l10OneK) (key:=bo) s_l10OneT_ok (enters Tryz.func84) Tryz.func84 fun hw=>by
 rw [s_l10One_ev]
 skip
abbrev i_LkeysT:FuncId→List T→Option (T × Bool):=find []
theorem i_LkeysT_ok:CallOk Tryz.prog i_LkeysT:=find_ok (fN)
abbrev i_LkeysK:List Nat:= [0,1,2]
theorem i_Lkeys_ev (N:Nat) (p:List D):evFn Tryz.prog i_LkeysT N i_LkeysK Tryz.f100 (ag rIRange) [⟨ag rILock,p⟩]=some (bo,
 some (1,sub p 1 2)):=by kernel_rfl
def i_LkeysE:Ent:=(100,e1 (ag rILock) fun p=>(⟨ag rIRange,[(gd p 1),(gd p 2)]⟩,true))
theorem i_Lkeys_ok:EntOk Tryz.prog i_LkeysE:=e1_ok fun p h=>evFn_sound (N:=0) (ks:=i_LkeysK) (key:=bo) i_LkeysT_ok (enters Tryz.func100) Tryz.func100 fun hw=>by
 rw [i_Lkeys_ev]
 rfl
abbrev i_SkeysT:FuncId→List T→Option (T × Bool):=find []
theorem i_SkeysT_ok:CallOk Tryz.prog i_SkeysT:=find_ok (fN)
abbrev i_SkeysK:List Nat:= [0,1,2]
theorem i_Skeys_ev (N:Nat) (p:List D):evFn Tryz.prog i_SkeysT N i_SkeysK Tryz.f93 (ag rIRange) [⟨ag rISeen,p⟩]=some (bo,
 some (1,sub p 1 2)):=by kernel_rfl
def i_SkeysE:Ent:=(93,e1 (ag rISeen) fun p=>(⟨ag rIRange,[(gd p 1),(gd p 2)]⟩,true))
theorem i_Skeys_ok:EntOk Tryz.prog i_SkeysE:=e1_ok fun p h=>evFn_sound (N:=0) (ks:=i_SkeysK) (key:=bo) i_SkeysT_ok (enters Tryz.func93) Tryz.func93 fun hw=>by
 rw [i_Skeys_ev]
 rfl
abbrev i_MkeysT:FuncId→List T→Option (T × Bool):=find []
theorem i_MkeysT_ok:CallOk Tryz.prog i_MkeysT:=find_ok (fN)
abbrev i_MkeysK:List Nat:= [0,1,2]
theorem i_Mkeys_ev (N:Nat) (p:List D):evFn Tryz.prog i_MkeysT N i_MkeysK Tryz.f253 (ag rIRange) [⟨ag rIMove,p⟩]=some (bo,
 some (1,sub p 2 2)):=by kernel_rfl
def i_MkeysE:Ent:=(253,e1 (ag rIMove) fun p=>(⟨ag rIRange,[(gd p 2),(gd p 3)]⟩,true))
theorem i_Mkeys_ok:EntOk Tryz.prog i_MkeysE:=e1_ok fun p h=>evFn_sound (N:=0) (ks:=i_MkeysK) (key:=bo) i_MkeysT_ok (enters Tryz.func253) Tryz.func253 fun hw=>by
 rw [i_Mkeys_ev]
 rfl
abbrev s_l12RangeT:FuncId→List T→Option (T × Bool):=find []
theorem s_l12RangeT_ok:CallOk Tryz.prog s_l12RangeT:=find_ok (fN)
abbrev s_l12RangeK:List Nat:= [0,1,2]
theorem s_l12Range_ev (N:Nat) (p:List D):evFn Tryz.prog s_l12RangeT N s_l12RangeK Tryz.f136 (ag rIRange) [⟨ag rILock,p⟩]=some (bo,
 some (1,sub p 1 2)):=by kernel_rfl
def s_l12RangeE:Ent:=(136,e1 (ag rILock) fun p=>(⟨ag rIRange,[(gd p 1),(gd p 2)]⟩,true))
theorem s_l12Range_ok:EntOk Tryz.prog s_l12RangeE:=e1_ok fun p h=>evFn_sound (N:=0) (ks:=s_l12RangeK) (key:=bo) s_l12RangeT_ok (enters Tryz.func136) Tryz.func136 fun hw=>by
 rw [s_l12Range_ev]
 rfl
abbrev i_meetsT:FuncId→List T→Option (T × Bool):=find []
theorem i_meetsT_ok:CallOk Tryz.prog i_meetsT:=find_ok (fN)
abbrev i_meetsK:List Nat:= [0,1,2,3,4]
theorem i_meets_ev (N:Nat) (p q:List D):evFn Tryz.prog i_meetsT N i_meetsK Tryz.f288 rb [⟨ag rIRange,p⟩,⟨ag rIRange,q⟩]=some (bo,
 bif ltI (gd p 0).int (gd q 1).int then ob (ltI (gd q 0).int (gd p 1).int)
 else ob false):=by kernel_rfl
def i_meetsF (p q:List D):Bool:=
 bif ltI (gd p 0).int (gd q 1).int then ltI (gd q 0).int (gd p 1).int
 else false
def i_meetsE:Ent:=(288,e2 (ag rIRange) (ag rIRange) fun p q=>(⟨rb,[.b (i_meetsF p q)]⟩,true))
theorem i_meets_ok:EntOk Tryz.prog i_meetsE:=e2_ok fun p q h=>evFn_sound (N:=0) (ks:=i_meetsK) (key:=bo) i_meetsT_ok (enters Tryz.func288) Tryz.func288 fun hw=>by
 rw [i_meets_ev]
 try simp only [cond_ob,cond_oi,cond_os]
 rfl
abbrev i_clashT:FuncId→List T→Option (T × Bool):=find [i_LkeysE,i_meetsE]
theorem i_clashT_ok:CallOk Tryz.prog i_clashT:=find_ok (fC ⟨i_Lkeys_ok,fC ⟨i_meets_ok,fN⟩⟩)
abbrev i_clashK:List Nat:= [0,1,2,3,4]
theorem i_clash_ev (N:Nat) (p q:List D):evFn Tryz.prog i_clashT N i_clashK Tryz.f260 rb [⟨ag rILock,p⟩,⟨ag rILock,q⟩]=some (bo,
 bif (gd p 0).int != (gd q 0).int then bif (gd p 3).int==2 then ob (i_meetsF [(gd p 1),(gd p 2)] [(gd q 1),(gd q 2)])
 else bif (gd q 3).int==2 then ob (i_meetsF [(gd p 1),(gd p 2)] [(gd q 1),(gd q 2)])
 else ob false
 else ob false):=by kernel_rfl
def i_clashF (p q:List D):Bool:=
 bif (gd p 0).int != (gd q 0).int then bif (gd p 3).int==2 then i_meetsF [(gd p 1),(gd p 2)] [(gd q 1),(gd q 2)]
 else bif (gd q 3).int==2 then i_meetsF [(gd p 1),(gd p 2)] [(gd q 1),(gd q 2)]
 else false
 else false
def i_clashE:Ent:=(260,e2 (ag rILock) (ag rILock) fun p q=>(⟨rb,[.b (i_clashF p q)]⟩,true))
theorem i_clash_ok:EntOk Tryz.prog i_clashE:=e2_ok fun p q h=>evFn_sound (N:=0) (ks:=i_clashK) (key:=bo) i_clashT_ok (enters Tryz.func260) Tryz.func260 fun hw=>by
 rw [i_clash_ev]
 try simp only [cond_ob,cond_oi,cond_os]
 rfl
abbrev i_RhasT:FuncId→List T→Option (T × Bool):=find [i_fromE]
theorem i_RhasT_ok:CallOk Tryz.prog i_RhasT:=find_ok (fC ⟨i_from_ok,fN⟩)
abbrev i_RhasK:List Nat:= [0,1,2,4]
theorem i_Rhas_ev (N:Nat) (p q:List D):evFn Tryz.prog i_RhasT N i_RhasK Tryz.f227 rb [⟨ag rIRange,p⟩,⟨ri,q⟩]=some (bo,
 ob (inB (gd q 0).int (gd p 0).int (w64 ((gd p 1).int - 1)))):=by kernel_rfl
def i_RhasE:Ent:=(227,e2 (ag rIRange) ri fun p q=>(⟨rb,[.b (inB (gd q 0).int (gd p 0).int (w64 ((gd p 1).int - 1)))]⟩,true))
theorem i_Rhas_ok:EntOk Tryz.prog i_RhasE:=e2_ok fun p q h=>evFn_sound (N:=0) (ks:=i_RhasK) (key:=bo) i_RhasT_ok (enters Tryz.func227) Tryz.func227 fun hw=>by
 rw [i_Rhas_ev]
 skip
abbrev s_l1MaxT:FuncId→List T→Option (T × Bool):=find []
theorem s_l1MaxT_ok:CallOk Tryz.prog s_l1MaxT:=find_ok (fN)
abbrev s_l1MaxK:List Nat:= [0,1,4,7]
theorem s_l1Max_ev (N:Nat) (p q:List D):evFn Tryz.prog s_l1MaxT N s_l1MaxK Tryz.f329 ri [⟨ri,p⟩,⟨ri,q⟩]=some (bo,
 bif ltI (gd q 0).int (gd p 0).int then some (1,[gd p 0])
 else some (1,[gd q 0])):=by kernel_rfl
def maxD (x y:D):D:=bif ltI y.int x.int then x else y
def minD (x y:D):D:=bif ltI x.int y.int then x else y
def s_l1MaxE:Ent:=(329,e2 ri ri fun p q=>(⟨ri,[maxD (gd p 0) (gd q 0)]⟩,true))
theorem s_l1Max_ok:EntOk Tryz.prog s_l1MaxE:=e2_ok fun p q h=>evFn_sound (N:=0) (ks:=s_l1MaxK) (key:=bo) s_l1MaxT_ok (enters Tryz.func329) Tryz.func329 fun hw=>by
 rw [s_l1Max_ev]
 show some (bo,bif ltI (gd q 0).int (gd p 0).int then some (1,[gd p 0]) else some (1,[gd q 0]))=some (bo,some (1,[bif ltI (gd q 0).int (gd p 0).int then gd p 0 else gd q 0]))
 cases ltI (gd q 0).int (gd p 0).int <;> rfl
abbrev s_l1MinT:FuncId→List T→Option (T × Bool):=find []
theorem s_l1MinT_ok:CallOk Tryz.prog s_l1MinT:=find_ok (fN)
abbrev s_l1MinK:List Nat:= [0,1,4,7]
theorem s_l1Min_ev (N:Nat) (p q:List D):evFn Tryz.prog s_l1MinT N s_l1MinK Tryz.f330 ri [⟨ri,p⟩,⟨ri,q⟩]=some (bo,
 bif ltI (gd p 0).int (gd q 0).int then some (1,[gd p 0])
 else some (1,[gd q 0])):=by kernel_rfl
def s_l1MinE:Ent:=(330,e2 ri ri fun p q=>(⟨ri,[minD (gd p 0) (gd q 0)]⟩,true))
theorem s_l1Min_ok:EntOk Tryz.prog s_l1MinE:=e2_ok fun p q h=>evFn_sound (N:=0) (ks:=s_l1MinK) (key:=bo) s_l1MinT_ok (enters Tryz.func330) Tryz.func330 fun hw=>by
 rw [s_l1Min_ev]
 show some (bo,bif ltI (gd p 0).int (gd q 0).int then some (1,[gd p 0]) else some (1,[gd q 0]))=some (bo,some (1,[bif ltI (gd p 0).int (gd q 0).int then gd p 0 else gd q 0]))
 cases ltI (gd p 0).int (gd q 0).int <;> rfl
abbrev s_RangeMeetT:FuncId→List T→Option (T × Bool):=find [s_l1MaxE,s_l1MinE,s_RangeOkE]
theorem s_RangeMeetT_ok:CallOk Tryz.prog s_RangeMeetT:=find_ok (fC ⟨s_l1Max_ok,fC ⟨s_l1Min_ok,fC ⟨s_RangeOk_ok,fN⟩⟩⟩)
abbrev s_RangeMeetK:List Nat:= [0,1,2,3,4,5,6,30]
theorem s_RangeMeet_ev (N:Nat) (p q:List D):evFn Tryz.prog s_RangeMeetT N s_RangeMeetK Tryz.f286 (.tup [.agg [.d si,.d si],.c (.d (.bool))]) [⟨ag rIRange,p⟩,⟨ag rIRange,q⟩]=some (bo,
 nd (sameP [[.i 0],[maxD (gd p 0) (gd q 0),minD (gd p 1) (gd q 1)],[minD (gd p 1) (gd q 1)],[maxD (gd p 0) (gd q 0)],[gd q 1],[.i 0],[gd p 1],[.i 0],[gd q 0],[.i 0],[gd p 0],[.i 0],p,q,[.i 0],[.i 0],[.i 0],[.i 0],[gd p 0,gd p 1],[gd q 0,gd q 1],[.i 0,.i 0],[maxD (gd p 0) (gd q 0),minD (gd p 1) (gd q 1)]] [[.i 0],[maxD (gd p 0) (gd q 0),minD (gd p 1) (gd q 1)],[minD (gd p 1) (gd q 1)],[maxD (gd p 0) (gd q 0)],[gd q 1],[.i 0],[gd p 1],[.i 0],[gd q 0],[.i 0],[gd p 0],[.i 0],p,q,[.i 0],[.i 0],[.i 0],[.i 0],[gd p 0,gd p 1],[gd q 0,gd q 1],[.i 0,.i 0],[maxD (gd p 0) (gd q 0),minD (gd p 1) (gd q 1)]]) (nd (sameP [[.i 0],[maxD (gd p 0) (gd q 0),minD (gd p 1) (gd q 1)],[minD (gd p 1) (gd q 1)],[maxD (gd p 0) (gd q 0)],[gd q 1],[.i 0],[gd p 1],[.i 0],[gd q 0],[.i 0],[gd p 0],[.i 0],p,q,[.i 0],[.i 0],[.i 0],[.i 0],[gd p 0,gd p 1],[gd q 0,gd q 1],[.i 0,.i 0],[maxD (gd p 0) (gd q 0),minD (gd p 1) (gd q 1)]] [[.i 0],[maxD (gd p 0) (gd q 0),minD (gd p 1) (gd q 1)],[minD (gd p 1) (gd q 1)],[maxD (gd p 0) (gd q 0)],[gd q 1],[.i 0],[gd p 1],[.i 0],[gd q 0],[.i 0],[gd p 0],[.i 0],p,q,[.i 0],[.i 0],[.i 0],[.i 0],[gd p 0,gd p 1],[gd q 0,gd q 1],[.i 0,.i 0],[maxD (gd p 0) (gd q 0),minD (gd p 1) (gd q 1)]]) (nd (sameP [[.i 0],[maxD (gd p 0) (gd q 0),minD (gd p 1) (gd q 1)],[minD (gd p 1) (gd q 1)],[maxD (gd p 0) (gd q 0)],[gd q 1],[.i 0],[gd p 1],[.i 0],[gd q 0],[.i 0],[gd p 0],[.i 0],p,q,[.i 0],[.i 0],[.i 0],[.i 0],[gd p 0,gd p 1],[gd q 0,gd q 1],[.i 0,.i 0],[maxD (gd p 0) (gd q 0),minD (gd p 1) (gd q 1)]] [[.i 0],[maxD (gd p 0) (gd q 0),minD (gd p 1) (gd q 1)],[minD (gd p 1) (gd q 1)],[maxD (gd p 0) (gd q 0)],[gd q 1],[.i 0],[gd p 1],[.i 0],[gd q 0],[.i 0],[gd p 0],[.i 0],p,q,[.i 0],[.i 0],[.i 0],[.i 0],[gd p 0,gd p 1],[gd q 0,gd q 1],[.i 0,.i 0],[maxD (gd p 0) (gd q 0),minD (gd p 1) (gd q 1)]]) (bif !(rangeOk (sub p 0 2)) then some (1,[.i 0,.i 0,.b false])
 else bif !(rangeOk (sub q 0 2)) then some (1,[.i 0,.i 0,.b false])
 else bif !(rangeOk [maxD (gd p 0) (gd q 0),minD (gd p 1) (gd q 1)]) then some (1,[.i 0,.i 0,.b false])
 else some (1,[maxD (gd p 0) (gd q 0),minD (gd p 1) (gd q 1),.b true]))))):=by kernel_rfl
def meetR (p q:List D):List D:=bif rangeOk p&&(rangeOk q&&rangeOk [maxD (gd p 0) (gd q 0),minD (gd p 1) (gd q 1)]) then [maxD (gd p 0) (gd q 0),minD (gd p 1) (gd q 1),.b true] else [.i 0,.i 0,.b false]
def meetB (p q:List D):Bool:=rangeOk p&&(rangeOk q&&rangeOk [maxD (gd p 0) (gd q 0),minD (gd p 1) (gd q 1)])
theorem meetR_2 (p q:List D):(gd (meetR p q) 2).bool=meetB p q:=by
 unfold meetR meetB
 cases rangeOk p&&(rangeOk q&&rangeOk [maxD (gd p 0) (gd q 0),minD (gd p 1) (gd q 1)]) <;> rfl
theorem bif_and (a b:Bool):(bif a then b else false)=(a&&b):=by cases a <;> rfl
theorem meetB_of {p q:List D} (hp:rangeOk p=true) (hq:rangeOk q=true):meetB p q=i_meetsF p q:=by
 unfold meetB i_meetsF
 rw [hp,hq,bif_and]
 simp only [rangeOk,Bool.and_eq_true,decide_eq_true_eq] at hp hq
 unfold rangeOk maxD minD ltI
 by_cases h1:(gd q 0).int<(gd p 0).int <;> by_cases h2:(gd p 1).int<(gd q 1).int <;> simp only [h1,h2,decide_true,decide_false,cond_true,cond_false,gd_cons_zero,gd_cons_succ] <;> rw [Bool.eq_iff_iff] <;> simp only [Bool.and_eq_true,decide_eq_true_eq,true_and] <;> omega
def s_RangeMeetE:Ent:=(286,e2 (ag rIRange) (ag rIRange) fun p q=>(⟨.tup [.agg [.d si,.d si],.c (.d (.bool))],sub (meetR p q) 0 3⟩,true))
theorem s_RangeMeet_ok:EntOk Tryz.prog s_RangeMeetE:=e2_ok fun p q h=>evFn_sound (N:=0) (ks:=s_RangeMeetK) (key:=bo) s_RangeMeetT_ok (enters Tryz.func286) Tryz.func286 fun hw=>by
 rw [s_RangeMeet_ev]
 simp only [sameP_self,nd_true]
 rw [show rangeOk (sub p 0 2)=rangeOk p from rfl,show rangeOk (sub q 0 2)=rangeOk q from rfl]
 unfold meetR
 cases rangeOk p <;> cases rangeOk q <;> try rfl
 cases rangeOk [maxD (gd p 0) (gd q 0),minD (gd p 1) (gd q 1)] <;> rfl
abbrev s_l12ClashT:FuncId→List T→Option (T × Bool):=find [s_l12RangeE,s_RangeMeetE]
theorem s_l12ClashT_ok:CallOk Tryz.prog s_l12ClashT:=find_ok (fC ⟨s_l12Range_ok,fC ⟨s_RangeMeet_ok,fN⟩⟩)
abbrev s_l12ClashK:List Nat:= [0,1,2,3,4,6]
theorem s_l12Clash_ev (N:Nat) (p q:List D):evFn Tryz.prog s_l12ClashT N s_l12ClashK Tryz.f241 rb [⟨ag rILock,p⟩,⟨ag rILock,q⟩]=some (bo,
 nd (sameP [[gd (meetR [(gd p 1),(gd p 2)] [(gd q 1),(gd q 2)]) 2],[.i 0],[gd (meetR [(gd p 1),(gd p 2)] [(gd q 1),(gd q 2)]) 2],[gd (meetR [(gd p 1),(gd p 2)] [(gd q 1),(gd q 2)]) 0,gd (meetR [(gd p 1),(gd p 2)] [(gd q 1),(gd q 2)]) 1],[gd (meetR [(gd p 1),(gd p 2)] [(gd q 1),(gd q 2)]) 0,gd (meetR [(gd p 1),(gd p 2)] [(gd q 1),(gd q 2)]) 1,gd (meetR [(gd p 1),(gd p 2)] [(gd q 1),(gd q 2)]) 2],[gd (meetR [(gd p 1),(gd p 2)] [(gd q 1),(gd q 2)]) 0,gd (meetR [(gd p 1),(gd p 2)] [(gd q 1),(gd q 2)]) 1,gd (meetR [(gd p 1),(gd p 2)] [(gd q 1),(gd q 2)]) 2],[(gd q 1),(gd q 2)],[(gd p 1),(gd p 2)],[gd q 0,gd q 1,gd q 2,gd q 3],[gd p 0,gd p 1,gd p 2,gd p 3],p,q,[.i 0],[.i 0],[.i 0],[gd p 0,gd p 1,gd p 2,gd p 3],[gd q 0,gd q 1,gd q 2,gd q 3],[gd (meetR [(gd p 1),(gd p 2)] [(gd q 1),(gd q 2)]) 0,gd (meetR [(gd p 1),(gd p 2)] [(gd q 1),(gd q 2)]) 1]] [[gd (meetR [(gd p 1),(gd p 2)] [(gd q 1),(gd q 2)]) 2],[.i 0],[gd (meetR [(gd p 1),(gd p 2)] [(gd q 1),(gd q 2)]) 2],[gd (meetR [(gd p 1),(gd p 2)] [(gd q 1),(gd q 2)]) 0,gd (meetR [(gd p 1),(gd p 2)] [(gd q 1),(gd q 2)]) 1],[gd (meetR [(gd p 1),(gd p 2)] [(gd q 1),(gd q 2)]) 0,gd (meetR [(gd p 1),(gd p 2)] [(gd q 1),(gd q 2)]) 1,gd (meetR [(gd p 1),(gd p 2)] [(gd q 1),(gd q 2)]) 2],[gd (meetR [(gd p 1),(gd p 2)] [(gd q 1),(gd q 2)]) 0,gd (meetR [(gd p 1),(gd p 2)] [(gd q 1),(gd q 2)]) 1,gd (meetR [(gd p 1),(gd p 2)] [(gd q 1),(gd q 2)]) 2],[(gd q 1),(gd q 2)],[(gd p 1),(gd p 2)],[gd q 0,gd q 1,gd q 2,gd q 3],[gd p 0,gd p 1,gd p 2,gd p 3],p,q,[.i 0],[.i 0],[.i 0],[gd p 0,gd p 1,gd p 2,gd p 3],[gd q 0,gd q 1,gd q 2,gd q 3],[gd (meetR [(gd p 1),(gd p 2)] [(gd q 1),(gd q 2)]) 0,gd (meetR [(gd p 1),(gd p 2)] [(gd q 1),(gd q 2)]) 1]]) (nd (sameP [[gd (meetR [(gd p 1),(gd p 2)] [(gd q 1),(gd q 2)]) 2],[.i 0],[gd (meetR [(gd p 1),(gd p 2)] [(gd q 1),(gd q 2)]) 2],[gd (meetR [(gd p 1),(gd p 2)] [(gd q 1),(gd q 2)]) 0,gd (meetR [(gd p 1),(gd p 2)] [(gd q 1),(gd q 2)]) 1],[gd (meetR [(gd p 1),(gd p 2)] [(gd q 1),(gd q 2)]) 0,gd (meetR [(gd p 1),(gd p 2)] [(gd q 1),(gd q 2)]) 1,gd (meetR [(gd p 1),(gd p 2)] [(gd q 1),(gd q 2)]) 2],[gd (meetR [(gd p 1),(gd p 2)] [(gd q 1),(gd q 2)]) 0,gd (meetR [(gd p 1),(gd p 2)] [(gd q 1),(gd q 2)]) 1,gd (meetR [(gd p 1),(gd p 2)] [(gd q 1),(gd q 2)]) 2],[(gd q 1),(gd q 2)],[(gd p 1),(gd p 2)],[gd q 0,gd q 1,gd q 2,gd q 3],[gd p 0,gd p 1,gd p 2,gd p 3],p,q,[.i 0],[.i 0],[.i 0],[gd p 0,gd p 1,gd p 2,gd p 3],[gd q 0,gd q 1,gd q 2,gd q 3],[gd (meetR [(gd p 1),(gd p 2)] [(gd q 1),(gd q 2)]) 0,gd (meetR [(gd p 1),(gd p 2)] [(gd q 1),(gd q 2)]) 1]] [[gd (meetR [(gd p 1),(gd p 2)] [(gd q 1),(gd q 2)]) 2],[.i 0],[gd (meetR [(gd p 1),(gd p 2)] [(gd q 1),(gd q 2)]) 2],[gd (meetR [(gd p 1),(gd p 2)] [(gd q 1),(gd q 2)]) 0,gd (meetR [(gd p 1),(gd p 2)] [(gd q 1),(gd q 2)]) 1],[gd (meetR [(gd p 1),(gd p 2)] [(gd q 1),(gd q 2)]) 0,gd (meetR [(gd p 1),(gd p 2)] [(gd q 1),(gd q 2)]) 1,gd (meetR [(gd p 1),(gd p 2)] [(gd q 1),(gd q 2)]) 2],[gd (meetR [(gd p 1),(gd p 2)] [(gd q 1),(gd q 2)]) 0,gd (meetR [(gd p 1),(gd p 2)] [(gd q 1),(gd q 2)]) 1,gd (meetR [(gd p 1),(gd p 2)] [(gd q 1),(gd q 2)]) 2],[(gd q 1),(gd q 2)],[(gd p 1),(gd p 2)],[gd q 0,gd q 1,gd q 2,gd q 3],[gd p 0,gd p 1,gd p 2,gd p 3],p,q,[.i 0],[.i 0],[.i 0],[gd p 0,gd p 1,gd p 2,gd p 3],[gd q 0,gd q 1,gd q 2,gd q 3],[gd (meetR [(gd p 1),(gd p 2)] [(gd q 1),(gd q 2)]) 0,gd (meetR [(gd p 1),(gd p 2)] [(gd q 1),(gd q 2)]) 1]]) (nd (sameP [[gd (meetR [(gd p 1),(gd p 2)] [(gd q 1),(gd q 2)]) 2],[.i 0],[gd (meetR [(gd p 1),(gd p 2)] [(gd q 1),(gd q 2)]) 2],[gd (meetR [(gd p 1),(gd p 2)] [(gd q 1),(gd q 2)]) 0,gd (meetR [(gd p 1),(gd p 2)] [(gd q 1),(gd q 2)]) 1],[gd (meetR [(gd p 1),(gd p 2)] [(gd q 1),(gd q 2)]) 0,gd (meetR [(gd p 1),(gd p 2)] [(gd q 1),(gd q 2)]) 1,gd (meetR [(gd p 1),(gd p 2)] [(gd q 1),(gd q 2)]) 2],[gd (meetR [(gd p 1),(gd p 2)] [(gd q 1),(gd q 2)]) 0,gd (meetR [(gd p 1),(gd p 2)] [(gd q 1),(gd q 2)]) 1,gd (meetR [(gd p 1),(gd p 2)] [(gd q 1),(gd q 2)]) 2],[(gd q 1),(gd q 2)],[(gd p 1),(gd p 2)],[gd q 0,gd q 1,gd q 2,gd q 3],[gd p 0,gd p 1,gd p 2,gd p 3],p,q,[.i 0],[.i 0],[.i 0],[gd p 0,gd p 1,gd p 2,gd p 3],[gd q 0,gd q 1,gd q 2,gd q 3],[gd (meetR [(gd p 1),(gd p 2)] [(gd q 1),(gd q 2)]) 0,gd (meetR [(gd p 1),(gd p 2)] [(gd q 1),(gd q 2)]) 1]] [[gd (meetR [(gd p 1),(gd p 2)] [(gd q 1),(gd q 2)]) 2],[.i 0],[gd (meetR [(gd p 1),(gd p 2)] [(gd q 1),(gd q 2)]) 2],[gd (meetR [(gd p 1),(gd p 2)] [(gd q 1),(gd q 2)]) 0,gd (meetR [(gd p 1),(gd p 2)] [(gd q 1),(gd q 2)]) 1],[gd (meetR [(gd p 1),(gd p 2)] [(gd q 1),(gd q 2)]) 0,gd (meetR [(gd p 1),(gd p 2)] [(gd q 1),(gd q 2)]) 1,gd (meetR [(gd p 1),(gd p 2)] [(gd q 1),(gd q 2)]) 2],[gd (meetR [(gd p 1),(gd p 2)] [(gd q 1),(gd q 2)]) 0,gd (meetR [(gd p 1),(gd p 2)] [(gd q 1),(gd q 2)]) 1,gd (meetR [(gd p 1),(gd p 2)] [(gd q 1),(gd q 2)]) 2],[(gd q 1),(gd q 2)],[(gd p 1),(gd p 2)],[gd q 0,gd q 1,gd q 2,gd q 3],[gd p 0,gd p 1,gd p 2,gd p 3],p,q,[.i 0],[.i 0],[.i 0],[gd p 0,gd p 1,gd p 2,gd p 3],[gd q 0,gd q 1,gd q 2,gd q 3],[gd (meetR [(gd p 1),(gd p 2)] [(gd q 1),(gd q 2)]) 0,gd (meetR [(gd p 1),(gd p 2)] [(gd q 1),(gd q 2)]) 1]]) (nd (sameP [[gd (meetR [(gd p 1),(gd p 2)] [(gd q 1),(gd q 2)]) 2],[.i 0],[gd (meetR [(gd p 1),(gd p 2)] [(gd q 1),(gd q 2)]) 2],[gd (meetR [(gd p 1),(gd p 2)] [(gd q 1),(gd q 2)]) 0,gd (meetR [(gd p 1),(gd p 2)] [(gd q 1),(gd q 2)]) 1],[gd (meetR [(gd p 1),(gd p 2)] [(gd q 1),(gd q 2)]) 0,gd (meetR [(gd p 1),(gd p 2)] [(gd q 1),(gd q 2)]) 1,gd (meetR [(gd p 1),(gd p 2)] [(gd q 1),(gd q 2)]) 2],[gd (meetR [(gd p 1),(gd p 2)] [(gd q 1),(gd q 2)]) 0,gd (meetR [(gd p 1),(gd p 2)] [(gd q 1),(gd q 2)]) 1,gd (meetR [(gd p 1),(gd p 2)] [(gd q 1),(gd q 2)]) 2],[(gd q 1),(gd q 2)],[(gd p 1),(gd p 2)],[gd q 0,gd q 1,gd q 2,gd q 3],[gd p 0,gd p 1,gd p 2,gd p 3],p,q,[.i 0],[.i 0],[.i 0],[gd p 0,gd p 1,gd p 2,gd p 3],[gd q 0,gd q 1,gd q 2,gd q 3],[gd (meetR [(gd p 1),(gd p 2)] [(gd q 1),(gd q 2)]) 0,gd (meetR [(gd p 1),(gd p 2)] [(gd q 1),(gd q 2)]) 1]] [[gd (meetR [(gd p 1),(gd p 2)] [(gd q 1),(gd q 2)]) 2],[.i 0],[gd (meetR [(gd p 1),(gd p 2)] [(gd q 1),(gd q 2)]) 2],[gd (meetR [(gd p 1),(gd p 2)] [(gd q 1),(gd q 2)]) 0,gd (meetR [(gd p 1),(gd p 2)] [(gd q 1),(gd q 2)]) 1],[gd (meetR [(gd p 1),(gd p 2)] [(gd q 1),(gd q 2)]) 0,gd (meetR [(gd p 1),(gd p 2)] [(gd q 1),(gd q 2)]) 1,gd (meetR [(gd p 1),(gd p 2)] [(gd q 1),(gd q 2)]) 2],[gd (meetR [(gd p 1),(gd p 2)] [(gd q 1),(gd q 2)]) 0,gd (meetR [(gd p 1),(gd p 2)] [(gd q 1),(gd q 2)]) 1,gd (meetR [(gd p 1),(gd p 2)] [(gd q 1),(gd q 2)]) 2],[(gd q 1),(gd q 2)],[(gd p 1),(gd p 2)],[gd q 0,gd q 1,gd q 2,gd q 3],[gd p 0,gd p 1,gd p 2,gd p 3],p,q,[.i 0],[.i 0],[.i 0],[gd p 0,gd p 1,gd p 2,gd p 3],[gd q 0,gd q 1,gd q 2,gd q 3],[gd (meetR [(gd p 1),(gd p 2)] [(gd q 1),(gd q 2)]) 0,gd (meetR [(gd p 1),(gd p 2)] [(gd q 1),(gd q 2)]) 1]]) (nd (sameP [[gd (meetR [(gd p 1),(gd p 2)] [(gd q 1),(gd q 2)]) 2],[.i 0],[gd (meetR [(gd p 1),(gd p 2)] [(gd q 1),(gd q 2)]) 2],[gd (meetR [(gd p 1),(gd p 2)] [(gd q 1),(gd q 2)]) 0,gd (meetR [(gd p 1),(gd p 2)] [(gd q 1),(gd q 2)]) 1],[gd (meetR [(gd p 1),(gd p 2)] [(gd q 1),(gd q 2)]) 0,gd (meetR [(gd p 1),(gd p 2)] [(gd q 1),(gd q 2)]) 1,gd (meetR [(gd p 1),(gd p 2)] [(gd q 1),(gd q 2)]) 2],[gd (meetR [(gd p 1),(gd p 2)] [(gd q 1),(gd q 2)]) 0,gd (meetR [(gd p 1),(gd p 2)] [(gd q 1),(gd q 2)]) 1,gd (meetR [(gd p 1),(gd p 2)] [(gd q 1),(gd q 2)]) 2],[(gd q 1),(gd q 2)],[(gd p 1),(gd p 2)],[gd q 0,gd q 1,gd q 2,gd q 3],[gd p 0,gd p 1,gd p 2,gd p 3],p,q,[.i 0],[.i 0],[.i 0],[gd p 0,gd p 1,gd p 2,gd p 3],[gd q 0,gd q 1,gd q 2,gd q 3],[gd (meetR [(gd p 1),(gd p 2)] [(gd q 1),(gd q 2)]) 0,gd (meetR [(gd p 1),(gd p 2)] [(gd q 1),(gd q 2)]) 1]] [[gd (meetR [(gd p 1),(gd p 2)] [(gd q 1),(gd q 2)]) 2],[.i 0],[gd (meetR [(gd p 1),(gd p 2)] [(gd q 1),(gd q 2)]) 2],[gd (meetR [(gd p 1),(gd p 2)] [(gd q 1),(gd q 2)]) 0,gd (meetR [(gd p 1),(gd p 2)] [(gd q 1),(gd q 2)]) 1],[gd (meetR [(gd p 1),(gd p 2)] [(gd q 1),(gd q 2)]) 0,gd (meetR [(gd p 1),(gd p 2)] [(gd q 1),(gd q 2)]) 1,gd (meetR [(gd p 1),(gd p 2)] [(gd q 1),(gd q 2)]) 2],[gd (meetR [(gd p 1),(gd p 2)] [(gd q 1),(gd q 2)]) 0,gd (meetR [(gd p 1),(gd p 2)] [(gd q 1),(gd q 2)]) 1,gd (meetR [(gd p 1),(gd p 2)] [(gd q 1),(gd q 2)]) 2],[(gd q 1),(gd q 2)],[(gd p 1),(gd p 2)],[gd q 0,gd q 1,gd q 2,gd q 3],[gd p 0,gd p 1,gd p 2,gd p 3],p,q,[.i 0],[.i 0],[.i 0],[gd p 0,gd p 1,gd p 2,gd p 3],[gd q 0,gd q 1,gd q 2,gd q 3],[gd (meetR [(gd p 1),(gd p 2)] [(gd q 1),(gd q 2)]) 0,gd (meetR [(gd p 1),(gd p 2)] [(gd q 1),(gd q 2)]) 1]]) (nd (sameP [[gd (meetR [(gd p 1),(gd p 2)] [(gd q 1),(gd q 2)]) 2],[.i 0],[gd (meetR [(gd p 1),(gd p 2)] [(gd q 1),(gd q 2)]) 2],[gd (meetR [(gd p 1),(gd p 2)] [(gd q 1),(gd q 2)]) 0,gd (meetR [(gd p 1),(gd p 2)] [(gd q 1),(gd q 2)]) 1],[gd (meetR [(gd p 1),(gd p 2)] [(gd q 1),(gd q 2)]) 0,gd (meetR [(gd p 1),(gd p 2)] [(gd q 1),(gd q 2)]) 1,gd (meetR [(gd p 1),(gd p 2)] [(gd q 1),(gd q 2)]) 2],[gd (meetR [(gd p 1),(gd p 2)] [(gd q 1),(gd q 2)]) 0,gd (meetR [(gd p 1),(gd p 2)] [(gd q 1),(gd q 2)]) 1,gd (meetR [(gd p 1),(gd p 2)] [(gd q 1),(gd q 2)]) 2],[(gd q 1),(gd q 2)],[(gd p 1),(gd p 2)],[gd q 0,gd q 1,gd q 2,gd q 3],[gd p 0,gd p 1,gd p 2,gd p 3],p,q,[.i 0],[.i 0],[.i 0],[gd p 0,gd p 1,gd p 2,gd p 3],[gd q 0,gd q 1,gd q 2,gd q 3],[gd (meetR [(gd p 1),(gd p 2)] [(gd q 1),(gd q 2)]) 0,gd (meetR [(gd p 1),(gd p 2)] [(gd q 1),(gd q 2)]) 1]] [[gd (meetR [(gd p 1),(gd p 2)] [(gd q 1),(gd q 2)]) 2],[.i 0],[gd (meetR [(gd p 1),(gd p 2)] [(gd q 1),(gd q 2)]) 2],[gd (meetR [(gd p 1),(gd p 2)] [(gd q 1),(gd q 2)]) 0,gd (meetR [(gd p 1),(gd p 2)] [(gd q 1),(gd q 2)]) 1],[gd (meetR [(gd p 1),(gd p 2)] [(gd q 1),(gd q 2)]) 0,gd (meetR [(gd p 1),(gd p 2)] [(gd q 1),(gd q 2)]) 1,gd (meetR [(gd p 1),(gd p 2)] [(gd q 1),(gd q 2)]) 2],[gd (meetR [(gd p 1),(gd p 2)] [(gd q 1),(gd q 2)]) 0,gd (meetR [(gd p 1),(gd p 2)] [(gd q 1),(gd q 2)]) 1,gd (meetR [(gd p 1),(gd p 2)] [(gd q 1),(gd q 2)]) 2],[(gd q 1),(gd q 2)],[(gd p 1),(gd p 2)],[gd q 0,gd q 1,gd q 2,gd q 3],[gd p 0,gd p 1,gd p 2,gd p 3],p,q,[.i 0],[.i 0],[.i 0],[gd p 0,gd p 1,gd p 2,gd p 3],[gd q 0,gd q 1,gd q 2,gd q 3],[gd (meetR [(gd p 1),(gd p 2)] [(gd q 1),(gd q 2)]) 0,gd (meetR [(gd p 1),(gd p 2)] [(gd q 1),(gd q 2)]) 1]]) (nd (sameP [[gd (meetR [(gd p 1),(gd p 2)] [(gd q 1),(gd q 2)]) 2],[.i 0],[gd (meetR [(gd p 1),(gd p 2)] [(gd q 1),(gd q 2)]) 2],[gd (meetR [(gd p 1),(gd p 2)] [(gd q 1),(gd q 2)]) 0,gd (meetR [(gd p 1),(gd p 2)] [(gd q 1),(gd q 2)]) 1],[gd (meetR [(gd p 1),(gd p 2)] [(gd q 1),(gd q 2)]) 0,gd (meetR [(gd p 1),(gd p 2)] [(gd q 1),(gd q 2)]) 1,gd (meetR [(gd p 1),(gd p 2)] [(gd q 1),(gd q 2)]) 2],[gd (meetR [(gd p 1),(gd p 2)] [(gd q 1),(gd q 2)]) 0,gd (meetR [(gd p 1),(gd p 2)] [(gd q 1),(gd q 2)]) 1,gd (meetR [(gd p 1),(gd p 2)] [(gd q 1),(gd q 2)]) 2],[(gd q 1),(gd q 2)],[(gd p 1),(gd p 2)],[gd q 0,gd q 1,gd q 2,gd q 3],[gd p 0,gd p 1,gd p 2,gd p 3],p,q,[.i 0],[.i 0],[.i 0],[gd p 0,gd p 1,gd p 2,gd p 3],[gd q 0,gd q 1,gd q 2,gd q 3],[gd (meetR [(gd p 1),(gd p 2)] [(gd q 1),(gd q 2)]) 0,gd (meetR [(gd p 1),(gd p 2)] [(gd q 1),(gd q 2)]) 1]] [[gd (meetR [(gd p 1),(gd p 2)] [(gd q 1),(gd q 2)]) 2],[.i 0],[gd (meetR [(gd p 1),(gd p 2)] [(gd q 1),(gd q 2)]) 2],[gd (meetR [(gd p 1),(gd p 2)] [(gd q 1),(gd q 2)]) 0,gd (meetR [(gd p 1),(gd p 2)] [(gd q 1),(gd q 2)]) 1],[gd (meetR [(gd p 1),(gd p 2)] [(gd q 1),(gd q 2)]) 0,gd (meetR [(gd p 1),(gd p 2)] [(gd q 1),(gd q 2)]) 1,gd (meetR [(gd p 1),(gd p 2)] [(gd q 1),(gd q 2)]) 2],[gd (meetR [(gd p 1),(gd p 2)] [(gd q 1),(gd q 2)]) 0,gd (meetR [(gd p 1),(gd p 2)] [(gd q 1),(gd q 2)]) 1,gd (meetR [(gd p 1),(gd p 2)] [(gd q 1),(gd q 2)]) 2],[(gd q 1),(gd q 2)],[(gd p 1),(gd p 2)],[gd q 0,gd q 1,gd q 2,gd q 3],[gd p 0,gd p 1,gd p 2,gd p 3],p,q,[.i 0],[.i 0],[.i 0],[gd p 0,gd p 1,gd p 2,gd p 3],[gd q 0,gd q 1,gd q 2,gd q 3],[gd (meetR [(gd p 1),(gd p 2)] [(gd q 1),(gd q 2)]) 0,gd (meetR [(gd p 1),(gd p 2)] [(gd q 1),(gd q 2)]) 1]]) (nd (sameP [[gd (meetR [(gd p 1),(gd p 2)] [(gd q 1),(gd q 2)]) 2],[.i 0],[gd (meetR [(gd p 1),(gd p 2)] [(gd q 1),(gd q 2)]) 2],[gd (meetR [(gd p 1),(gd p 2)] [(gd q 1),(gd q 2)]) 0,gd (meetR [(gd p 1),(gd p 2)] [(gd q 1),(gd q 2)]) 1],[gd (meetR [(gd p 1),(gd p 2)] [(gd q 1),(gd q 2)]) 0,gd (meetR [(gd p 1),(gd p 2)] [(gd q 1),(gd q 2)]) 1,gd (meetR [(gd p 1),(gd p 2)] [(gd q 1),(gd q 2)]) 2],[gd (meetR [(gd p 1),(gd p 2)] [(gd q 1),(gd q 2)]) 0,gd (meetR [(gd p 1),(gd p 2)] [(gd q 1),(gd q 2)]) 1,gd (meetR [(gd p 1),(gd p 2)] [(gd q 1),(gd q 2)]) 2],[(gd q 1),(gd q 2)],[(gd p 1),(gd p 2)],[gd q 0,gd q 1,gd q 2,gd q 3],[gd p 0,gd p 1,gd p 2,gd p 3],p,q,[.i 0],[.i 0],[.i 0],[gd p 0,gd p 1,gd p 2,gd p 3],[gd q 0,gd q 1,gd q 2,gd q 3],[gd (meetR [(gd p 1),(gd p 2)] [(gd q 1),(gd q 2)]) 0,gd (meetR [(gd p 1),(gd p 2)] [(gd q 1),(gd q 2)]) 1]] [[gd (meetR [(gd p 1),(gd p 2)] [(gd q 1),(gd q 2)]) 2],[.i 0],[gd (meetR [(gd p 1),(gd p 2)] [(gd q 1),(gd q 2)]) 2],[gd (meetR [(gd p 1),(gd p 2)] [(gd q 1),(gd q 2)]) 0,gd (meetR [(gd p 1),(gd p 2)] [(gd q 1),(gd q 2)]) 1],[gd (meetR [(gd p 1),(gd p 2)] [(gd q 1),(gd q 2)]) 0,gd (meetR [(gd p 1),(gd p 2)] [(gd q 1),(gd q 2)]) 1,gd (meetR [(gd p 1),(gd p 2)] [(gd q 1),(gd q 2)]) 2],[gd (meetR [(gd p 1),(gd p 2)] [(gd q 1),(gd q 2)]) 0,gd (meetR [(gd p 1),(gd p 2)] [(gd q 1),(gd q 2)]) 1,gd (meetR [(gd p 1),(gd p 2)] [(gd q 1),(gd q 2)]) 2],[(gd q 1),(gd q 2)],[(gd p 1),(gd p 2)],[gd q 0,gd q 1,gd q 2,gd q 3],[gd p 0,gd p 1,gd p 2,gd p 3],p,q,[.i 0],[.i 0],[.i 0],[gd p 0,gd p 1,gd p 2,gd p 3],[gd q 0,gd q 1,gd q 2,gd q 3],[gd (meetR [(gd p 1),(gd p 2)] [(gd q 1),(gd q 2)]) 0,gd (meetR [(gd p 1),(gd p 2)] [(gd q 1),(gd q 2)]) 1]]) (bif (gd (meetR [(gd p 1),(gd p 2)] [(gd q 1),(gd q 2)]) 2).bool then bif (gd p 0).int != (gd q 0).int then bif (gd p 3).int==2 then ob true
 else ob ((gd q 3).int==2)
 else ob false
 else ob false))))))))):=by kernel_rfl
def clashS (p q:List D):Bool:=meetB [gd p 1,gd p 2] [gd q 1,gd q 2]&&(!((gd p 0).int==(gd q 0).int)&&(((gd p 3).int==2)||((gd q 3).int==2)))
theorem clashS_of {p q:List D} (hp:rangeOk [gd p 1,gd p 2]=true) (hq:rangeOk [gd q 1,gd q 2]=true):clashS p q=i_clashF p q:=by
 unfold clashS i_clashF
 rw [meetB_of hp hq,bne_not]
 cases (gd p 0).int==(gd q 0).int <;> cases (gd p 3).int==2 <;> cases (gd q 3).int==2 <;> cases i_meetsF [gd p 1,gd p 2] [gd q 1,gd q 2] <;> rfl
def s_l12ClashE:Ent:=(241,e2 (ag rILock) (ag rILock) fun p q=>(⟨rb,[.b (clashS p q)]⟩,true))
theorem s_l12Clash_ok:EntOk Tryz.prog s_l12ClashE:=e2_ok fun p q h=>evFn_sound (N:=0) (ks:=s_l12ClashK) (key:=bo) s_l12ClashT_ok (enters Tryz.func241) Tryz.func241 fun hw=>by
 rw [s_l12Clash_ev]
 simp only [sameP_self,nd_true,meetR_2,bne_not]
 unfold clashS
 cases meetB [gd p 1,gd p 2] [gd q 1,gd q 2] <;> cases (gd p 0).int==(gd q 0).int <;> cases (gd p 3).int==2 <;> cases (gd q 3).int==2 <;> rfl
abbrev s_RangeInT:FuncId→List T→Option (T × Bool):=find [s_RangeOkE]
theorem s_RangeInT_ok:CallOk Tryz.prog s_RangeInT:=find_ok (fC ⟨s_RangeOk_ok,fN⟩)
abbrev s_RangeInK:List Nat:= [0,1,2,3,4]
theorem s_RangeIn_ev (N:Nat) (p q:List D):evFn Tryz.prog s_RangeInT N s_RangeInK Tryz.f299 rb [⟨ag rIRange,p⟩,⟨ag rIRange,q⟩]=some (bo,
 bif rangeOk (sub p 0 2) then bif rangeOk (sub q 0 2) then bif leI (gd q 0).int (gd p 0).int then ob (leI (gd p 1).int (gd q 1).int)
 else ob false
 else ob false
 else ob false):=by kernel_rfl
def s_RangeInF (p q:List D):Bool:=
 bif rangeOk (sub p 0 2) then bif rangeOk (sub q 0 2) then bif leI (gd q 0).int (gd p 0).int then leI (gd p 1).int (gd q 1).int
 else false
 else false
 else false
def s_RangeInE:Ent:=(299,e2 (ag rIRange) (ag rIRange) fun p q=>(⟨rb,[.b (s_RangeInF p q)]⟩,true))
theorem s_RangeIn_ok:EntOk Tryz.prog s_RangeInE:=e2_ok fun p q h=>evFn_sound (N:=0) (ks:=s_RangeInK) (key:=bo) s_RangeInT_ok (enters Tryz.func299) Tryz.func299 fun hw=>by
 rw [s_RangeIn_ev]
 try simp only [cond_ob,cond_oi,cond_os]
 rfl
abbrev s_l16RangeOkT:FuncId→List T→Option (T × Bool):=find [s_RangeOkE]
theorem s_l16RangeOkT_ok:CallOk Tryz.prog s_l16RangeOkT:=find_ok (fC ⟨s_RangeOk_ok,fN⟩)
abbrev s_l16RangeOkK:List Nat:= [0,1,4]
theorem s_l16RangeOk_ev (N:Nat) (p q:List D):evFn Tryz.prog s_l16RangeOkT N s_l16RangeOkK Tryz.f142 rb [⟨ri,p⟩,⟨ri,q⟩]=some (bo,
 ob (rangeOk [gd p 0,gd q 0])):=by kernel_rfl
def s_l16RangeOkE:Ent:=(142,e2 ri ri fun p q=>(⟨rb,[.b (rangeOk [(gd p 0),(gd q 0)])]⟩,true))
theorem s_l16RangeOk_ok:EntOk Tryz.prog s_l16RangeOkE:=e2_ok fun p q h=>evFn_sound (N:=0) (ks:=s_l16RangeOkK) (key:=bo) s_l16RangeOkT_ok (enters Tryz.func142) Tryz.func142 fun hw=>by
 rw [s_l16RangeOk_ev]
 skip
abbrev s_l15GroupT:FuncId→List T→Option (T × Bool):=find [s_l1InE]
theorem s_l15GroupT_ok:CallOk Tryz.prog s_l15GroupT:=find_ok (fC ⟨s_l1In_ok,fN⟩)
abbrev s_l15GroupK:List Nat:= [0,2]
theorem s_l15Group_ev (N:Nat) (p:List D):evFn Tryz.prog s_l15GroupT N s_l15GroupK Tryz.f129 rb [⟨ri,p⟩]=some (bo,
 ob (inB (gd p 0).int 0 3)):=by kernel_rfl
def s_l15GroupE:Ent:=(129,e1 ri fun p=>(⟨rb,[.b (inB (gd p 0).int 0 3)]⟩,true))
theorem s_l15Group_ok:EntOk Tryz.prog s_l15GroupE:=e1_ok fun p h=>evFn_sound (N:=0) (ks:=s_l15GroupK) (key:=bo) s_l15GroupT_ok (enters Tryz.func129) Tryz.func129 fun hw=>by
 rw [s_l15Group_ev]
 skip
abbrev s_l4NumT:FuncId→List T→Option (T × Bool):=find [s_l1InE]
theorem s_l4NumT_ok:CallOk Tryz.prog s_l4NumT:=find_ok (fC ⟨s_l1In_ok,fN⟩)
abbrev s_l4NumK:List Nat:= [0,1,2,3,8]
theorem s_l4Num_ev (N:Nat) (p q r s:List D):evFn Tryz.prog s_l4NumT N s_l4NumK Tryz.f140 rb [⟨rb,p⟩,⟨ri,q⟩,⟨ri,r⟩,⟨ri,s⟩]=some (bo,
 bif (gd p 0).bool then bif inB (gd q 0).int (gd r 0).int (gd s 0).int then ob true
 else bif !(gd p 0).bool then ob ((gd q 0).int==0)
 else ob false
 else bif !(gd p 0).bool then ob ((gd q 0).int==0)
 else ob false):=by kernel_rfl
def numOk (h:Bool) (x lo hi:Int):Bool:=bif h then inB x lo hi else x==0
def s_l4NumE:Ent:=(140,e4 rb ri ri ri fun p q r s=>(⟨rb,[.b (numOk (gd p 0).bool (gd q 0).int (gd r 0).int (gd s 0).int)]⟩,true))
theorem s_l4Num_ok:EntOk Tryz.prog s_l4NumE:=e4_ok fun p q r s h=>evFn_sound (N:=0) (ks:=s_l4NumK) (key:=bo) s_l4NumT_ok (enters Tryz.func140) Tryz.func140 fun hw=>by
 rw [s_l4Num_ev]
 unfold numOk
 cases (gd p 0).bool <;> cases inB (gd q 0).int (gd r 0).int (gd s 0).int <;> rfl
abbrev i_hasT:FuncId→List T→Option (T × Bool):=find []
theorem i_hasT_ok:CallOk Tryz.prog i_hasT:=find_ok (fN)
abbrev i_hasK:List Nat:= [0,1,4,5,7,8,9,15]
noncomputable def i_hasL0 (N:Nat) (p q:List D):List D→Out:=loopOf Tryz.prog i_hasT N i_hasK Tryz.f187 rb [⟨sd (.str),p⟩,⟨sd (.int .u8),q⟩] 0
theorem i_hasR0 (N:Nat) (p q:List D) (x0 x1 x2 x3 x4:D):(i_hasL0 N p q) [x0,x1,x2,x3,x4] =
 bif ltI x4.int x3.int then nd (inRange x4.int x0.str.length) (bif ((x0.str.getD x4.int.toNat 0).toNat:Int)==x1.int then ob true
 else nx [x0,x1,x2,x3,.i (w64 (x4.int+1))])
 else ex 0 [x0,x1,x2,x3,x4]:=by kernel_rfl
theorem i_has_ev (N:Nat) (p q:List D):evFn Tryz.prog i_hasT N i_hasK Tryz.f187 rb [⟨sd (.str),p⟩,⟨sd (.int .u8),q⟩]=some (bo,
 (let o0:=iter (i_hasL0 N p q) N [gd p 0,gd q 0,.i 0,.i ((gd p 0).str.length:Int),.i 0]
  nd o0.isSome (bif o0.code==1 then some (1,o0.pay)
  else nd (o0.code==2) (ob false)))):=by kernel_rfl
def hasB (l:List UInt8) (x:Int):Bool:=(List.range l.length).any fun k=>((l.getD k 0).toNat:Int)==x
theorem any_loop {L:List D→Out} (st:Nat→List D) (n:Nat) (C:Nat→Bool) (v:List D) (j:Nat) (h1:∀ k,k<n→L (st k)=some (bif C k then (1,v) else (0,st (k+1)))) (h2:L (st n)=some (j+2,st n)) {N:Nat} (hN:n<N) :
  iter L N (st 0)=some (bif (List.range n).any C then (1,v) else (j+2,st n)):=by
 have e:=for_loop st n (fun k => !C k) v j (fun k hk=>by rw [h1 k hk]; cases C k <;> rfl) h2 hN
 rw [e,not_any]
 cases (List.range n).any C <;> rfl
def i_hasE:Ent:=(187,e2 (sd (.str)) (sd (.int .u8)) fun p q=>(⟨rb,[.b (hasB (gd p 0).str (gd q 0).int)]⟩,leI ((gd p 0).str.length:Int) 100))
theorem i_has_ok:EntOk Tryz.prog i_hasE:=e2_ok fun p q h=>evFn_sound (N:=101) (ks:=i_hasK) (key:=bo) i_hasT_ok (enters Tryz.func187) Tryz.func187 fun hw=>by
 rw [i_has_ev]
 have h:leI ((gd p 0).str.length:Int) 100=true:=h
 simp only [leI,decide_eq_true_eq] at h
 have e:=any_loop (L:=i_hasL0 101 p q) (fun k => [gd p 0,gd q 0,.i 0,.i ((gd p 0).str.length:Int),.i (k:Int)]) (gd p 0).str.length (fun k=>(((gd p 0).str.getD k 0).toNat:Int)==(gd q 0).int) [.b true] 0 (fun k hk=>?_) ?_ (N:=101) (by omega)
 ·simp only [Int.natCast_zero] at e
  rw [e]
  unfold hasB
  cases (List.range (gd p 0).str.length).any (fun k=>(((gd p 0).str.getD k 0).toNat:Int)==(gd q 0).int) <;> rfl
 ·show i_hasL0 _ p q [_,_,_,_,.i (k:Int)]=_
  rw [i_hasR0]
  simp only [int_i,c_lt hk,nd_ix hk,w64_succ hk (show (gd p 0).str.length≤9223372036854775807 from by omega),Int.toNat_natCast]
  cases (((gd p 0).str.getD k 0).toNat:Int)==(gd q 0).int <;> rfl
 ·show i_hasL0 _ p q [_,_,_,.i ((gd p 0).str.length:Int),.i ((gd p 0).str.length:Int)]=_
  rw [i_hasR0]
  simp only [int_i,c_nlt]
abbrev s_l4InT:FuncId→List T→Option (T × Bool):=find []
theorem s_l4InT_ok:CallOk Tryz.prog s_l4InT:=find_ok (fN)
abbrev s_l4InK:List Nat:= [0,1,4,5,9,16]
noncomputable def s_l4InL0 (N:Nat) (p q:List D):List D→Out:=loopOf Tryz.prog s_l4InT N s_l4InK Tryz.f141 rb [⟨sd (.str),p⟩,⟨sd (.int .u8),q⟩] 0
theorem s_l4InR0 (N:Nat) (p q:List D) (x0 x1 x2 x3:D):(s_l4InL0 N p q) [x0,x1,x2,x3] =
 bif ltI x3.int (x0.str.length:Int) then nd (inRange x3.int x0.str.length) (bif ((x0.str.getD x3.int.toNat 0).toNat:Int)==x1.int then ob true
 else nx [x0,x1,x2,.i (w64 (x3.int+1))])
 else ex 0 [x0,x1,x2,x3]:=by kernel_rfl
theorem s_l4In_ev (N:Nat) (p q:List D):evFn Tryz.prog s_l4InT N s_l4InK Tryz.f141 rb [⟨sd (.str),p⟩,⟨sd (.int .u8),q⟩]=some (bo,
 (let o0:=iter (s_l4InL0 N p q) N [gd p 0,gd q 0,.i 0,.i 0]
  nd o0.isSome (bif o0.code==1 then some (1,o0.pay)
  else nd (o0.code==2) (ob false)))):=by kernel_rfl
def s_l4InE:Ent:=(141,e2 (sd (.str)) (sd (.int .u8)) fun p q=>(⟨rb,[.b (hasB (gd p 0).str (gd q 0).int)]⟩,leI ((gd p 0).str.length:Int) 100))
theorem s_l4In_ok:EntOk Tryz.prog s_l4InE:=e2_ok fun p q h=>evFn_sound (N:=101) (ks:=s_l4InK) (key:=bo) s_l4InT_ok (enters Tryz.func141) Tryz.func141 fun hw=>by
 rw [s_l4In_ev]
 have h:leI ((gd p 0).str.length:Int) 100=true:=h
 simp only [leI,decide_eq_true_eq] at h
 have e:=any_loop (L:=s_l4InL0 101 p q) (fun k => [gd p 0,gd q 0,.i 0,.i (k:Int)]) (gd p 0).str.length (fun k=>(((gd p 0).str.getD k 0).toNat:Int)==(gd q 0).int) [.b true] 0 (fun k hk=>?_) ?_ (N:=101) (by omega)
 ·simp only [Int.natCast_zero] at e
  rw [e]
  unfold hasB
  cases (List.range (gd p 0).str.length).any (fun k=>(((gd p 0).str.getD k 0).toNat:Int)==(gd q 0).int) <;> rfl
 ·show s_l4InL0 _ p q [_,_,_,.i (k:Int)]=_
  rw [s_l4InR0]
  simp only [int_i,c_lt hk,nd_ix hk,w64_succ hk (show (gd p 0).str.length≤9223372036854775807 from by omega),Int.toNat_natCast]
  cases (((gd p 0).str.getD k 0).toNat:Int)==(gd q 0).int <;> rfl
 ·show s_l4InL0 _ p q [_,_,_,.i ((gd p 0).str.length:Int)]=_
  rw [s_l4InR0]
  simp only [int_i,c_nlt]
abbrev i_numRightT:FuncId→List T→Option (T × Bool):=find [i_hasE,i_fromE]
theorem i_numRightT_ok:CallOk Tryz.prog i_numRightT:=find_ok (fC ⟨i_has_ok,fC ⟨i_from_ok,fN⟩⟩)
abbrev i_numRightK:List Nat:= [0,1,2,3,4,10,13]
theorem i_numRight_ev (N:Nat) (p q r s t:List D):evFn Tryz.prog i_numRightT N i_numRightK Tryz.f186 rb [⟨sd (.str),p⟩,⟨sd (.int .u8),q⟩,⟨ri,r⟩,⟨ri,s⟩,⟨ri,t⟩]=some (bo,
 nd (leI ((gd p 0).str.length:Int) 100) (bif hasB (gd p 0).str (gd q 0).int then ob (inB (gd r 0).int (gd s 0).int (gd t 0).int)
 else ob ((gd r 0).int==0))):=by kernel_rfl
def i_numRightE:Ent:=(186,e5 (sd (.str)) (sd (.int .u8)) ri ri ri fun p q r s t=>(⟨rb,[.b (numOk (hasB (gd p 0).str (gd q 0).int) (gd r 0).int (gd s 0).int (gd t 0).int)]⟩,leI ((gd p 0).str.length:Int) 100))
theorem i_numRight_ok:EntOk Tryz.prog i_numRightE:=e5_ok fun p q r s t h=>evFn_sound (N:=0) (ks:=i_numRightK) (key:=bo) i_numRightT_ok (enters Tryz.func186) Tryz.func186 fun hw=>by
 rw [i_numRight_ev]
 have h:leI ((gd p 0).str.length:Int) 100=true:=h
 rw [h,nd_true]
 unfold numOk
 cases hasB (gd p 0).str (gd q 0).int <;> rfl
abbrev i_letterHasT:FuncId→List T→Option (T × Bool):=find []
theorem i_letterHasT_ok:CallOk Tryz.prog i_letterHasT:=find_ok (fN)
abbrev i_letterHasK:List Nat:= [0,2,3,4,6,8,10,12,14,16,18,20,23,27,29,31,33]
theorem i_letterHas_ev (N:Nat) (p:List D):evFn Tryz.prog i_letterHasT N i_letterHasK Tryz.f185 (sd (.str)) [⟨ri,p⟩]=some (bo,
 bif (gd p 0).int==1 then some (1,[.s [67,82]])
 else bif (gd p 0).int==2 then some (1,[.s [67,82,84]])
 else bif (gd p 0).int==3 then some (1,[.s [71,67,82,84,107]])
 else bif (gd p 0).int==4 then some (1,[.s [71,67,82,84,107,99,108]])
 else bif (gd p 0).int==5 then some (1,[.s [67,84,83]])
 else bif (gd p 0).int==6 then some (1,[.s [67,84]])
 else bif (gd p 0).int==7 then some (1,[.s [67,84,89]])
 else bif (gd p 0).int==8 then some (1,[.s [71,84,101,87]])
 else bif (gd p 0).int==9 then bif (gd p 0).int==9 then some (1,[.s [71,84,89]])
 else bif (gd p 0).int==11 then bif (gd p 0).int==11 then some (1,[.s [71,78,107]])
 else bif (gd p 0).int==12 then some (1,[.s [78,108]])
 else bif (gd p 0).int==13 then some (1,[.s [71,78,107,108]])
 else bif (gd p 0).int==14 then some (1,[.s [78,89]])
 else bif (gd p 0).int==17 then some (1,[.s [78]])
 else some (1,[.s []])
 else bif (gd p 0).int==15 then bif (gd p 0).int==15 then some (1,[.s [71,78,107]])
 else bif (gd p 0).int==12 then some (1,[.s [78,108]])
 else bif (gd p 0).int==13 then some (1,[.s [71,78,107,108]])
 else bif (gd p 0).int==14 then some (1,[.s [78,89]])
 else bif (gd p 0).int==17 then some (1,[.s [78]])
 else some (1,[.s []])
 else bif (gd p 0).int==16 then some (1,[.s [71,78,107]])
 else bif (gd p 0).int==12 then some (1,[.s [78,108]])
 else bif (gd p 0).int==13 then some (1,[.s [71,78,107,108]])
 else bif (gd p 0).int==14 then some (1,[.s [78,89]])
 else bif (gd p 0).int==17 then some (1,[.s [78]])
 else some (1,[.s []])
 else bif (gd p 0).int==10 then some (1,[.s [71,84,89]])
 else bif (gd p 0).int==11 then bif (gd p 0).int==11 then some (1,[.s [71,78,107]])
 else bif (gd p 0).int==12 then some (1,[.s [78,108]])
 else bif (gd p 0).int==13 then some (1,[.s [71,78,107,108]])
 else bif (gd p 0).int==14 then some (1,[.s [78,89]])
 else bif (gd p 0).int==17 then some (1,[.s [78]])
 else some (1,[.s []])
 else bif (gd p 0).int==15 then bif (gd p 0).int==15 then some (1,[.s [71,78,107]])
 else bif (gd p 0).int==12 then some (1,[.s [78,108]])
 else bif (gd p 0).int==13 then some (1,[.s [71,78,107,108]])
 else bif (gd p 0).int==14 then some (1,[.s [78,89]])
 else bif (gd p 0).int==17 then some (1,[.s [78]])
 else some (1,[.s []])
 else bif (gd p 0).int==16 then some (1,[.s [71,78,107]])
 else bif (gd p 0).int==12 then some (1,[.s [78,108]])
 else bif (gd p 0).int==13 then some (1,[.s [71,78,107,108]])
 else bif (gd p 0).int==14 then some (1,[.s [78,89]])
 else bif (gd p 0).int==17 then some (1,[.s [78]])
 else some (1,[.s []])):=by kernel_rfl
def i_letterHasF (p:List D):List UInt8:=
 bif (gd p 0).int==1 then [67,82]
 else bif (gd p 0).int==2 then [67,82,84]
 else bif (gd p 0).int==3 then [71,67,82,84,107]
 else bif (gd p 0).int==4 then [71,67,82,84,107,99,108]
 else bif (gd p 0).int==5 then [67,84,83]
 else bif (gd p 0).int==6 then [67,84]
 else bif (gd p 0).int==7 then [67,84,89]
 else bif (gd p 0).int==8 then [71,84,101,87]
 else bif (gd p 0).int==9 then bif (gd p 0).int==9 then [71,84,89]
 else bif (gd p 0).int==11 then bif (gd p 0).int==11 then [71,78,107]
 else bif (gd p 0).int==12 then [78,108]
 else bif (gd p 0).int==13 then [71,78,107,108]
 else bif (gd p 0).int==14 then [78,89]
 else bif (gd p 0).int==17 then [78]
 else []
 else bif (gd p 0).int==15 then bif (gd p 0).int==15 then [71,78,107]
 else bif (gd p 0).int==12 then [78,108]
 else bif (gd p 0).int==13 then [71,78,107,108]
 else bif (gd p 0).int==14 then [78,89]
 else bif (gd p 0).int==17 then [78]
 else []
 else bif (gd p 0).int==16 then [71,78,107]
 else bif (gd p 0).int==12 then [78,108]
 else bif (gd p 0).int==13 then [71,78,107,108]
 else bif (gd p 0).int==14 then [78,89]
 else bif (gd p 0).int==17 then [78]
 else []
 else bif (gd p 0).int==10 then [71,84,89]
 else bif (gd p 0).int==11 then bif (gd p 0).int==11 then [71,78,107]
 else bif (gd p 0).int==12 then [78,108]
 else bif (gd p 0).int==13 then [71,78,107,108]
 else bif (gd p 0).int==14 then [78,89]
 else bif (gd p 0).int==17 then [78]
 else []
 else bif (gd p 0).int==15 then bif (gd p 0).int==15 then [71,78,107]
 else bif (gd p 0).int==12 then [78,108]
 else bif (gd p 0).int==13 then [71,78,107,108]
 else bif (gd p 0).int==14 then [78,89]
 else bif (gd p 0).int==17 then [78]
 else []
 else bif (gd p 0).int==16 then [71,78,107]
 else bif (gd p 0).int==12 then [78,108]
 else bif (gd p 0).int==13 then [71,78,107,108]
 else bif (gd p 0).int==14 then [78,89]
 else bif (gd p 0).int==17 then [78]
 else []
def i_letterHasE:Ent:=(185,e1 ri fun p=>(⟨sd (.str),[.s (i_letterHasF [gd p 0])]⟩,true))
theorem i_letterHas_ok:EntOk Tryz.prog i_letterHasE:=e1_ok fun p h=>evFn_sound (N:=0) (ks:=i_letterHasK) (key:=bo) i_letterHasT_ok (enters Tryz.func185) Tryz.func185 fun hw=>by
 rw [i_letterHas_ev]
 try simp only [cond_ob,cond_oi,cond_os]
 rfl
abbrev s_l16HasT:FuncId→List T→Option (T × Bool):=find [s_l1InE]
theorem s_l16HasT_ok:CallOk Tryz.prog s_l16HasT:=find_ok (fC ⟨s_l1In_ok,fN⟩)
abbrev s_l16HasK:List Nat:= [0,2,5]
theorem s_l16Has_ev (N:Nat) (p:List D):evFn Tryz.prog s_l16HasT N s_l16HasK Tryz.f139 (sd (.str)) [⟨ri,p⟩]=some (bo,
 bif !(inB (gd p 0).int 1 17) then some (1,[.s []])
 else nd (inRange (gd p 0).int ([[.s []],[.s [99,113]],[.s [99,113,116]],[.s [103,99,113,116,114]],[.s [103,99,113,116,114,107,67]],[.s [99,116,83]],[.s [99,116]],[.s [99,116,121]],[.s [103,116,82,87]],[.s [103,116,121]],[.s [103,116,121]],[.s [103,110,114]],[.s [110,67]],[.s [103,110,114,67]],[.s [110,121]],[.s [103,110,114]],[.s [103,110,114]],[.s [110]]]:List (List D)).length) (some (1,[gd (([[.s []],[.s [99,113]],[.s [99,113,116]],[.s [103,99,113,116,114]],[.s [103,99,113,116,114,107,67]],[.s [99,116,83]],[.s [99,116]],[.s [99,116,121]],[.s [103,116,82,87]],[.s [103,116,121]],[.s [103,116,121]],[.s [103,110,114]],[.s [110,67]],[.s [103,110,114,67]],[.s [110,121]],[.s [103,110,114]],[.s [103,110,114]],[.s [110]]]:List (List D)).getD (gd p 0).int.toNat []) 0]))):=by kernel_rfl
def lettersD:List (List D):= [[.s []],[.s [99,113]],[.s [99,113,116]],[.s [103,99,113,116,114]],[.s [103,99,113,116,114,107,67]],[.s [99,116,83]],[.s [99,116]],[.s [99,116,121]],[.s [103,116,82,87]],[.s [103,116,121]],[.s [103,116,121]],[.s [103,110,114]],[.s [110,67]],[.s [103,110,114,67]],[.s [110,121]],[.s [103,110,114]],[.s [103,110,114]],[.s [110]]]
def lettersS (k:Int):D:=bif inB k 1 17 then gd (lettersD.getD k.toNat []) 0 else .s []
def s_l16HasE:Ent:=(139,e1 ri fun p=>(⟨sd (.str),[lettersS (gd p 0).int]⟩,true))
theorem s_l16Has_ok:EntOk Tryz.prog s_l16HasE:=e1_ok fun p h=>evFn_sound (N:=0) (ks:=s_l16HasK) (key:=bo) s_l16HasT_ok (enters Tryz.func139) Tryz.func139 fun hw=>by
 rw [s_l16Has_ev]
 show some (bo,bif !inB (gd p 0).int 1 17 then some (1,[.s []]) else nd (inRange (gd p 0).int lettersD.length) (some (1,[gd (lettersD.getD (gd p 0).int.toNat []) 0])))=some (bo,some (1,[lettersS (gd p 0).int]))
 unfold lettersS
 cases hb:inB (gd p 0).int 1 17
 ·rfl
 ·simp only [inB,Bool.and_eq_true,decide_eq_true_eq] at hb
  rw [show inRange (gd p 0).int lettersD.length=true from by
   have h18:lettersD.length=18:=rfl
   simp only [inRange,Bool.and_eq_true,decide_eq_true_eq,h18]; omega]
  rfl
abbrev i_LocksOk_1T:FuncId→List T→Option (T × Bool):=find [i_clashE]
theorem i_LocksOk_1T_ok:CallOk Tryz.prog i_LocksOk_1T:=find_ok (fC ⟨i_clash_ok,fN⟩)
abbrev i_LocksOk_1K:List Nat:= [0,1,2,3]
theorem i_LocksOk_1_ev (N:Nat) (p q:List D):evFn Tryz.prog i_LocksOk_1T N i_LocksOk_1K Tryz.f259 rb [⟨ag rILock,p⟩,⟨.one (.c (.cptr [si,si,si,si] 0)),q⟩]=some (bo,
 ob (i_clashF (sub ((gd q 0).rows.getD 0 []) 0 4) (sub p 0 4))):=by kernel_rfl
def i_LocksOk_1F (p q:List D):Bool:=
 i_clashF (sub ((gd q 0).rows.getD 0 []) 0 4) (sub p 0 4)
def i_LocksOk_1E:Ent:=(259,e2 (ag rILock) (.one (.c (.cptr [si,si,si,si] 0))) fun p q=>(⟨rb,[.b (i_LocksOk_1F p [gd q 0])]⟩,true))
theorem i_LocksOk_1_ok:EntOk Tryz.prog i_LocksOk_1E:=e2_ok fun p q h=>evFn_sound (N:=0) (ks:=i_LocksOk_1K) (key:=bo) i_LocksOk_1T_ok (enters Tryz.func259) Tryz.func259 fun hw=>by
 rw [i_LocksOk_1_ev]
 try simp only [cond_ob,cond_oi,cond_os]
 rfl
abbrev i_LocksHold_1T:FuncId→List T→Option (T × Bool):=find []
theorem i_LocksHold_1T_ok:CallOk Tryz.prog i_LocksHold_1T:=find_ok (fN)
abbrev i_LocksHold_1K:List Nat:= [0,1,2,3,4,5]
theorem i_LocksHold_1_ev (N:Nat) (p q r s:List D):evFn Tryz.prog i_LocksHold_1T N i_LocksHold_1K Tryz.f309 rb [⟨ag rILock,p⟩,⟨.one (.c (.cptr [si] 0)),q⟩,⟨.one (.c (.cptr [si] 0)),r⟩,⟨.one (.c (.cptr [si,si] 0)),s⟩]=some (bo,
 bif (gd p 0).int==(gd ((gd q 0).rows.getD 0 []) 0).int then bif (gd p 3).int==(gd ((gd r 0).rows.getD 0 []) 0).int then bif leI (gd p 1).int (gd ((gd s 0).rows.getD 0 []) 0).int then ob (leI (gd ((gd s 0).rows.getD 0 []) 1).int (gd p 2).int)
 else ob false
 else bif (gd p 3).int==2 then bif leI (gd p 1).int (gd ((gd s 0).rows.getD 0 []) 0).int then ob (leI (gd ((gd s 0).rows.getD 0 []) 1).int (gd p 2).int)
 else ob false
 else ob false
 else ob false):=by kernel_rfl
def i_LocksHold_1F (p q r s:List D):Bool:=
 bif (gd p 0).int==(gd ((gd q 0).rows.getD 0 []) 0).int then bif (gd p 3).int==(gd ((gd r 0).rows.getD 0 []) 0).int then bif leI (gd p 1).int (gd ((gd s 0).rows.getD 0 []) 0).int then leI (gd ((gd s 0).rows.getD 0 []) 1).int (gd p 2).int
 else false
 else bif (gd p 3).int==2 then bif leI (gd p 1).int (gd ((gd s 0).rows.getD 0 []) 0).int then leI (gd ((gd s 0).rows.getD 0 []) 1).int (gd p 2).int
 else false
 else false
 else false
def i_LocksHold_1E:Ent:=(309,e4 (ag rILock) (.one (.c (.cptr [si] 0))) (.one (.c (.cptr [si] 0))) (.one (.c (.cptr [si,si] 0))) fun p q r s=>(⟨rb,[.b (i_LocksHold_1F p [gd q 0] [gd r 0] [gd s 0])]⟩,true))
theorem i_LocksHold_1_ok:EntOk Tryz.prog i_LocksHold_1E:=e4_ok fun p q r s h=>evFn_sound (N:=0) (ks:=i_LocksHold_1K) (key:=bo) i_LocksHold_1T_ok (enters Tryz.func309) Tryz.func309 fun hw=>by
 rw [i_LocksHold_1_ev]
 try simp only [cond_ob,cond_oi,cond_os]
 rfl
abbrev i_TownOk_1T:FuncId→List T→Option (T × Bool):=find []
theorem i_TownOk_1T_ok:CallOk Tryz.prog i_TownOk_1T:=find_ok (fN)
abbrev i_TownOk_1K:List Nat:= [0,1,2,3]
theorem i_TownOk_1_ev (N:Nat) (p q:List D):evFn Tryz.prog i_TownOk_1T N i_TownOk_1K Tryz.f65 rb [⟨ag rIPart,p⟩,⟨.one (.c (.cptr [si] 0)),q⟩]=some (bo,
 ob (leI (gd ((gd q 0).rows.getD 0 []) 0).int (gd p 2).int)):=by kernel_rfl
def i_TownOk_1F (p q:List D):Bool:=
 leI (gd ((gd q 0).rows.getD 0 []) 0).int (gd p 2).int
def i_TownOk_1E:Ent:=(65,e2 (ag rIPart) (.one (.c (.cptr [si] 0))) fun p q=>(⟨rb,[.b (i_TownOk_1F p [gd q 0])]⟩,true))
theorem i_TownOk_1_ok:EntOk Tryz.prog i_TownOk_1E:=e2_ok fun p q h=>evFn_sound (N:=0) (ks:=i_TownOk_1K) (key:=bo) i_TownOk_1T_ok (enters Tryz.func65) Tryz.func65 fun hw=>by
 rw [i_TownOk_1_ev]
 try simp only [cond_ob,cond_oi,cond_os]
 rfl
abbrev i_clientRight_1T:FuncId→List T→Option (T × Bool):=find []
theorem i_clientRight_1T_ok:CallOk Tryz.prog i_clientRight_1T:=find_ok (fN)
abbrev i_clientRight_1K:List Nat:= [0,1,2,3]
theorem i_clientRight_1_ev (N:Nat) (p q:List D):evFn Tryz.prog i_clientRight_1T N i_clientRight_1K Tryz.f181 rb [⟨ag rIPart,p⟩,⟨.one (.c (.cptr [si] 0)),q⟩]=some (bo,
 ob (leI (gd ((gd q 0).rows.getD 0 []) 0).int (gd p 2).int)):=by kernel_rfl
def i_clientRight_1F (p q:List D):Bool:=
 leI (gd ((gd q 0).rows.getD 0 []) 0).int (gd p 2).int
def i_clientRight_1E:Ent:=(181,e2 (ag rIPart) (.one (.c (.cptr [si] 0))) fun p q=>(⟨rb,[.b (i_clientRight_1F p [gd q 0])]⟩,true))
theorem i_clientRight_1_ok:EntOk Tryz.prog i_clientRight_1E:=e2_ok fun p q h=>evFn_sound (N:=0) (ks:=i_clientRight_1K) (key:=bo) i_clientRight_1T_ok (enters Tryz.func181) Tryz.func181 fun hw=>by
 rw [i_clientRight_1_ev]
 try simp only [cond_ob,cond_oi,cond_os]
 rfl
abbrev i_clientRight_2T:FuncId→List T→Option (T × Bool):=find []
theorem i_clientRight_2T_ok:CallOk Tryz.prog i_clientRight_2T:=find_ok (fN)
abbrev i_clientRight_2K:List Nat:= [0,1,2,3]
theorem i_clientRight_2_ev (N:Nat) (p q:List D):evFn Tryz.prog i_clientRight_2T N i_clientRight_2K Tryz.f183 rb [⟨ag rISeen,p⟩,⟨.one (.c (.cptr [si] 0)),q⟩]=some (bo,
 ob (leI (gd ((gd q 0).rows.getD 0 []) 0).int (gd p 0).int)):=by kernel_rfl
def i_clientRight_2F (p q:List D):Bool:=
 leI (gd ((gd q 0).rows.getD 0 []) 0).int (gd p 0).int
def i_clientRight_2E:Ent:=(183,e2 (ag rISeen) (.one (.c (.cptr [si] 0))) fun p q=>(⟨rb,[.b (i_clientRight_2F p [gd q 0])]⟩,true))
theorem i_clientRight_2_ok:EntOk Tryz.prog i_clientRight_2E:=e2_ok fun p q h=>evFn_sound (N:=0) (ks:=i_clientRight_2K) (key:=bo) i_clientRight_2T_ok (enters Tryz.func183) Tryz.func183 fun hw=>by
 rw [i_clientRight_2_ev]
 try simp only [cond_ob,cond_oi,cond_os]
 rfl
abbrev i_cellsIn_1T:FuncId→List T→Option (T × Bool):=find [i_RhasE]
theorem i_cellsIn_1T_ok:CallOk Tryz.prog i_cellsIn_1T:=find_ok (fC ⟨i_Rhas_ok,fN⟩)
abbrev i_cellsIn_1K:List Nat:= [0,1,2,3]
theorem i_cellsIn_1_ev (N:Nat) (p q:List D):evFn Tryz.prog i_cellsIn_1T N i_cellsIn_1K Tryz.f307 rb [⟨ag rICell,p⟩,⟨.one (.c (.cptr [si,si] 0)),q⟩]=some (bo,
 ob (!(inB (gd p 0).int (gd ((gd q 0).rows.getD 0 []) 0).int (w64 ((gd ((gd q 0).rows.getD 0 []) 1).int - 1))))):=by kernel_rfl
def i_cellsIn_1F (p q:List D):Bool:=
 !(inB (gd p 0).int (gd ((gd q 0).rows.getD 0 []) 0).int (w64 ((gd ((gd q 0).rows.getD 0 []) 1).int - 1)))
def i_cellsIn_1E:Ent:=(307,e2 (ag rICell) (.one (.c (.cptr [si,si] 0))) fun p q=>(⟨rb,[.b (i_cellsIn_1F p [gd q 0])]⟩,true))
theorem i_cellsIn_1_ok:EntOk Tryz.prog i_cellsIn_1E:=e2_ok fun p q h=>evFn_sound (N:=0) (ks:=i_cellsIn_1K) (key:=bo) i_cellsIn_1T_ok (enters Tryz.func307) Tryz.func307 fun hw=>by
 rw [i_cellsIn_1_ev]
 try simp only [cond_ob,cond_oi,cond_os]
 rfl
abbrev i_ClientOk_1T:FuncId→List T→Option (T × Bool):=find [i_isGroupE,i_SkeysE,i_RangeOkE]
theorem i_ClientOk_1T_ok:CallOk Tryz.prog i_ClientOk_1T:=find_ok (fC ⟨i_isGroup_ok,fC ⟨i_Skeys_ok,fC ⟨i_RangeOk_ok,fN⟩⟩⟩)
abbrev i_ClientOk_1K:List Nat:= [0,1,2]
theorem i_ClientOk_1_ev (N:Nat) (p:List D):evFn Tryz.prog i_ClientOk_1T N i_ClientOk_1K Tryz.f271 rb [⟨ag rISeen,p⟩]=some (bo,
 bif !(inB (gd p 0).int (0) (3)) then ob true
 else ob (!(rangeOk [(gd p 1),(gd p 2)]))):=by kernel_rfl
def i_ClientOk_1F (p:List D):Bool:=
 bif !(inB (gd p 0).int (0) (3)) then true
 else !(rangeOk [(gd p 1),(gd p 2)])
def i_ClientOk_1E:Ent:=(271,e1 (ag rISeen) fun p=>(⟨rb,[.b (i_ClientOk_1F p)]⟩,true))
theorem i_ClientOk_1_ok:EntOk Tryz.prog i_ClientOk_1E:=e1_ok fun p h=>evFn_sound (N:=0) (ks:=i_ClientOk_1K) (key:=bo) i_ClientOk_1T_ok (enters Tryz.func271) Tryz.func271 fun hw=>by
 rw [i_ClientOk_1_ev]
 try simp only [cond_ob,cond_oi,cond_os]
 rfl
end Go.Proofs.YtchceahcaaibcaaGreat
namespace Go.Proofs.YtchceahcaaibcaaGreat
set_option maxRecDepth 4096
abbrev ixfLOT:FuncId→List T→Option (T × Bool):=find [i_LocksOk_1E]
theorem ixfLOT_ok:CallOk Tryz.prog ixfLOT:=find_ok (fC ⟨i_LocksOk_1_ok,fN⟩)
abbrev ixfLOK:List Nat:= [0,1,4,5,7,8,9,16]
noncomputable def ixfLOL0 (N:Nat) (p q:List D):List D→Out:=loopOf Tryz.prog ixfLOT N ixfLOK Tryz.f267 ri [⟨sd (.sl 138),p⟩,⟨.one (.c (.fn 259 [.cptr [si,si,si,si] 0])),q⟩] 0
theorem ixfLOR0 (N:Nat) (p q:List D) (x0 x1 x2 x3 x4:D):(ixfLOL0 N p q) [x0,x1,x2,x3,x4] =
 bif ltI x4.int x3.int then nd (inRange x4.int x0.rows.length) (bif i_LocksOk_1F (sub (x0.rows.getD x4.int.toNat []) 0 4) [(gd (x1.rows.getD 0 []) 0)] then some (1,[x4])
 else nx [x0,x1,x2,x3,.i (w64 (x4.int+1))])
 else ex 0 [x0,x1,x2,x3,x4]:=by kernel_rfl
theorem ixfLO_ev (N:Nat) (p q:List D):evFn Tryz.prog ixfLOT N ixfLOK Tryz.f267 ri [⟨sd (.sl 138),p⟩,⟨.one (.c (.fn 259 [.cptr [si,si,si,si] 0])),q⟩]=some (bo,
 (let o0:=iter (ixfLOL0 N p q) N [gd p 0,gd q 0,.i 0,.i ((gd p 0).rows.length:Int),.i 0]
  nd o0.isSome (bif o0.code==1 then some (1,o0.pay)
  else nd (o0.code==2) (oi (-1))))):=by kernel_rfl
def ixfLOC (c:D) (r:List D):Bool:=i_LocksOk_1F r [gd (c.rows.getD 0 []) 0]
def ixfLOE:Ent:=(267,e2 (sd (.sl 138)) (.one (.c (.fn 259 [.cptr [si,si,si,si] 0]))) fun p q=>(⟨ri,[.i (ixF (fun k=>ixfLOC (gd q 0) (sub ((gd p 0).rows.getD k []) 0 4)) 0 (gd p 0).rows.length)]⟩,true))
theorem ixfLO_ok:EntOk Tryz.prog ixfLOE:=e2_ok fun p q h=>evFn_sound (N:=(gd p 0).rows.length+1) (ks:=ixfLOK) (key:=bo) ixfLOT_ok (enters Tryz.func267) Tryz.func267 fun hw=>by
 rw [ixfLO_ev]
 have hl:=wt_sl (hw ⟨sd (.sl 138),p⟩ (by simp))
 have e:=ix_loop (L:=ixfLOL0 ((gd p 0).rows.length+1) p q) (fun k => [gd p 0,gd q 0,.i 0,.i ((gd p 0).rows.length:Int),.i (k:Int)]) (gd p 0).rows.length (fun k=>ixfLOC (gd q 0) (sub ((gd p 0).rows.getD k []) 0 4)) [gd p 0,gd q 0,.i 0,.i ((gd p 0).rows.length:Int),.i ((gd p 0).rows.length:Int)] (fun k hk=>?_) ?_ (gd p 0).rows.length 0 ((gd p 0).rows.length+1) (by omega) (by omega)
 ·simp only [Int.natCast_zero] at e
  rw [e]
  have hno:=ixF_neg (fun k=>ixfLOC (gd q 0) (sub ((gd p 0).rows.getD k []) 0 4)) (gd p 0).rows.length 0
  cases hd:decide (ixF (fun k=>ixfLOC (gd q 0) (sub ((gd p 0).rows.getD k []) 0 4)) 0 (gd p 0).rows.length≥0)
  ·rw [hno hd]; rfl
  ·rfl
 ·show ixfLOL0 _ p q [_,_,_,_,.i (k:Int)]=_
  rw [ixfLOR0]
  simp only [int_i,c_lt hk,nd_ix hk,w64_succ hk hl,Int.toNat_natCast]
  unfold ixfLOC
  cases i_LocksOk_1F (sub ((gd p 0).rows.getD k []) 0 4) [gd ((gd q 0).rows.getD 0 []) 0] <;> rfl
 ·show ixfLOL0 _ p q [_,_,_,.i ((gd p 0).rows.length:Int),.i ((gd p 0).rows.length:Int)]=_
  rw [ixfLOR0]
  simp only [int_i,c_nlt]
abbrev cofLOT:FuncId→List T→Option (T × Bool):=find [ixfLOE,i_LocksOk_1E]
theorem cofLOT_ok:CallOk Tryz.prog cofLOT:=find_ok (fC ⟨ixfLO_ok,fC ⟨i_LocksOk_1_ok,fN⟩⟩)
abbrev cofLOK:List Nat:= [0,1,4]
theorem cofLO_ev (N:Nat) (p q:List D):evFn Tryz.prog cofLOT N cofLOK Tryz.f171 rb [⟨sd (.sl 138),p⟩,⟨.one (.c (.fn 259 [.cptr [si,si,si,si] 0])),q⟩]=some (bo,
 ob (leI 0 (ixF (fun k=>ixfLOC (.l [[gd ((gd q 0).rows.getD 0 []) 0]]) (sub ((gd p 0).rows.getD k []) 0 4)) 0 (gd p 0).rows.length))):=by kernel_rfl
def cofLOE:Ent:=(171,e2 (sd (.sl 138)) (.one (.c (.fn 259 [.cptr [si,si,si,si] 0]))) fun p q=>(⟨rb,[.b (anyS (fun rr=>ixfLOC (gd q 0) (sub rr 0 4)) (gd p 0))]⟩,true))
theorem cofLO_ok:EntOk Tryz.prog cofLOE:=e2_ok fun p q h=>evFn_sound (N:=0) (ks:=cofLOK) (key:=bo) cofLOT_ok (enters Tryz.func171) Tryz.func171 fun hw=>by
 rw [cofLO_ev]
 refine congrArg (fun x=>some (bo,ob x)) ?_
 exact (ixF_any (fun k=>ixfLOC (gd q 0) (sub ((gd p 0).rows.getD k []) 0 4)) (gd p 0).rows.length 0).trans (by simp only [Nat.zero_add]; rfl)
abbrev ixfLHT:FuncId→List T→Option (T × Bool):=find [i_LocksHold_1E]
theorem ixfLHT_ok:CallOk Tryz.prog ixfLHT:=find_ok (fC ⟨i_LocksHold_1_ok,fN⟩)
abbrev ixfLHK:List Nat:= [0,1,4,5,7,8,9,16]
noncomputable def ixfLHL0 (N:Nat) (p q:List D):List D→Out:=loopOf Tryz.prog ixfLHT N ixfLHK Tryz.f267 ri [⟨sd (.sl 138),p⟩,⟨.one (.c (.fn 309 [.cptr [si] 0,.cptr [si] 0,.cptr [si,si] 0])),q⟩] 0
theorem ixfLHR0 (N:Nat) (p q:List D) (x0 x1 x2 x3 x4:D):(ixfLHL0 N p q) [x0,x1,x2,x3,x4] =
 bif ltI x4.int x3.int then nd (inRange x4.int x0.rows.length) (bif i_LocksHold_1F (sub (x0.rows.getD x4.int.toNat []) 0 4) [(gd (x1.rows.getD 0 []) 0)] [(gd (x1.rows.getD 0 []).tail 0)] [(gd (x1.rows.getD 0 []).tail.tail 0)] then some (1,[x4])
 else nx [x0,x1,x2,x3,.i (w64 (x4.int+1))])
 else ex 0 [x0,x1,x2,x3,x4]:=by kernel_rfl
theorem ixfLH_ev (N:Nat) (p q:List D):evFn Tryz.prog ixfLHT N ixfLHK Tryz.f267 ri [⟨sd (.sl 138),p⟩,⟨.one (.c (.fn 309 [.cptr [si] 0,.cptr [si] 0,.cptr [si,si] 0])),q⟩]=some (bo,
 (let o0:=iter (ixfLHL0 N p q) N [gd p 0,gd q 0,.i 0,.i ((gd p 0).rows.length:Int),.i 0]
  nd o0.isSome (bif o0.code==1 then some (1,o0.pay)
  else nd (o0.code==2) (oi (-1))))):=by kernel_rfl
def ixfLHC (c:D) (r:List D):Bool:=i_LocksHold_1F r [gd (c.rows.getD 0 []) 0] [gd (c.rows.getD 0 []).tail 0] [gd (c.rows.getD 0 []).tail.tail 0]
def ixfLHE:Ent:=(267,e2 (sd (.sl 138)) (.one (.c (.fn 309 [.cptr [si] 0,.cptr [si] 0,.cptr [si,si] 0]))) fun p q=>(⟨ri,[.i (ixF (fun k=>ixfLHC (gd q 0) (sub ((gd p 0).rows.getD k []) 0 4)) 0 (gd p 0).rows.length)]⟩,true))
theorem ixfLH_ok:EntOk Tryz.prog ixfLHE:=e2_ok fun p q h=>evFn_sound (N:=(gd p 0).rows.length+1) (ks:=ixfLHK) (key:=bo) ixfLHT_ok (enters Tryz.func267) Tryz.func267 fun hw=>by
 rw [ixfLH_ev]
 have hl:=wt_sl (hw ⟨sd (.sl 138),p⟩ (by simp))
 have e:=ix_loop (L:=ixfLHL0 ((gd p 0).rows.length+1) p q) (fun k => [gd p 0,gd q 0,.i 0,.i ((gd p 0).rows.length:Int),.i (k:Int)]) (gd p 0).rows.length (fun k=>ixfLHC (gd q 0) (sub ((gd p 0).rows.getD k []) 0 4)) [gd p 0,gd q 0,.i 0,.i ((gd p 0).rows.length:Int),.i ((gd p 0).rows.length:Int)] (fun k hk=>?_) ?_ (gd p 0).rows.length 0 ((gd p 0).rows.length+1) (by omega) (by omega)
 ·simp only [Int.natCast_zero] at e
  rw [e]
  have hno:=ixF_neg (fun k=>ixfLHC (gd q 0) (sub ((gd p 0).rows.getD k []) 0 4)) (gd p 0).rows.length 0
  cases hd:decide (ixF (fun k=>ixfLHC (gd q 0) (sub ((gd p 0).rows.getD k []) 0 4)) 0 (gd p 0).rows.length≥0)
  ·rw [hno hd]; rfl
  ·rfl
 ·show ixfLHL0 _ p q [_,_,_,_,.i (k:Int)]=_
  rw [ixfLHR0]
  simp only [int_i,c_lt hk,nd_ix hk,w64_succ hk hl,Int.toNat_natCast]
  unfold ixfLHC
  cases i_LocksHold_1F (sub ((gd p 0).rows.getD k []) 0 4) [gd ((gd q 0).rows.getD 0 []) 0] [gd ((gd q 0).rows.getD 0 []).tail 0] [gd ((gd q 0).rows.getD 0 []).tail.tail 0] <;> rfl
 ·show ixfLHL0 _ p q [_,_,_,.i ((gd p 0).rows.length:Int),.i ((gd p 0).rows.length:Int)]=_
  rw [ixfLHR0]
  simp only [int_i,c_nlt]
abbrev cofLHT:FuncId→List T→Option (T × Bool):=find [ixfLHE,i_LocksHold_1E]
theorem cofLHT_ok:CallOk Tryz.prog cofLHT:=find_ok (fC ⟨ixfLH_ok,fC ⟨i_LocksHold_1_ok,fN⟩⟩)
abbrev cofLHK:List Nat:= [0,1,4]
theorem cofLH_ev (N:Nat) (p q:List D):evFn Tryz.prog cofLHT N cofLHK Tryz.f171 rb [⟨sd (.sl 138),p⟩,⟨.one (.c (.fn 309 [.cptr [si] 0,.cptr [si] 0,.cptr [si,si] 0])),q⟩]=some (bo,
 ob (leI 0 (ixF (fun k=>ixfLHC (.l [[gd ((gd q 0).rows.getD 0 []) 0,gd ((gd q 0).rows.getD 0 []).tail 0,gd ((gd q 0).rows.getD 0 []).tail.tail 0]]) (sub ((gd p 0).rows.getD k []) 0 4)) 0 (gd p 0).rows.length))):=by kernel_rfl
def cofLHE:Ent:=(171,e2 (sd (.sl 138)) (.one (.c (.fn 309 [.cptr [si] 0,.cptr [si] 0,.cptr [si,si] 0]))) fun p q=>(⟨rb,[.b (anyS (fun rr=>ixfLHC (gd q 0) (sub rr 0 4)) (gd p 0))]⟩,true))
theorem cofLH_ok:EntOk Tryz.prog cofLHE:=e2_ok fun p q h=>evFn_sound (N:=0) (ks:=cofLHK) (key:=bo) cofLHT_ok (enters Tryz.func171) Tryz.func171 fun hw=>by
 rw [cofLH_ev]
 refine congrArg (fun x=>some (bo,ob x)) ?_
 exact (ixF_any (fun k=>ixfLHC (gd q 0) (sub ((gd p 0).rows.getD k []) 0 4)) (gd p 0).rows.length 0).trans (by simp only [Nat.zero_add]; rfl)
abbrev ixfTPT:FuncId→List T→Option (T × Bool):=find [i_TownOk_1E]
theorem ixfTPT_ok:CallOk Tryz.prog ixfTPT:=find_ok (fC ⟨i_TownOk_1_ok,fN⟩)
abbrev ixfTPK:List Nat:= [0,1,4,5,7,8,9,16]
noncomputable def ixfTPL0 (N:Nat) (p q:List D):List D→Out:=loopOf Tryz.prog ixfTPT N ixfTPK Tryz.f178 ri [⟨sd (.sl 97),p⟩,⟨.one (.c (.fn 65 [.cptr [si] 0])),q⟩] 0
theorem ixfTPR0 (N:Nat) (p q:List D) (x0 x1 x2 x3 x4:D):(ixfTPL0 N p q) [x0,x1,x2,x3,x4] =
 bif ltI x4.int x3.int then nd (inRange x4.int x0.rows.length) (bif i_TownOk_1F (sub (x0.rows.getD x4.int.toNat []) 0 3) [(gd (x1.rows.getD 0 []) 0)] then some (1,[x4])
 else nx [x0,x1,x2,x3,.i (w64 (x4.int+1))])
 else ex 0 [x0,x1,x2,x3,x4]:=by kernel_rfl
theorem ixfTP_ev (N:Nat) (p q:List D):evFn Tryz.prog ixfTPT N ixfTPK Tryz.f178 ri [⟨sd (.sl 97),p⟩,⟨.one (.c (.fn 65 [.cptr [si] 0])),q⟩]=some (bo,
 (let o0:=iter (ixfTPL0 N p q) N [gd p 0,gd q 0,.i 0,.i ((gd p 0).rows.length:Int),.i 0]
  nd o0.isSome (bif o0.code==1 then some (1,o0.pay)
  else nd (o0.code==2) (oi (-1))))):=by kernel_rfl
def ixfTPC (c:D) (r:List D):Bool:=i_TownOk_1F r [gd (c.rows.getD 0 []) 0]
def ixfTPE:Ent:=(178,e2 (sd (.sl 97)) (.one (.c (.fn 65 [.cptr [si] 0]))) fun p q=>(⟨ri,[.i (ixF (fun k=>ixfTPC (gd q 0) (sub ((gd p 0).rows.getD k []) 0 3)) 0 (gd p 0).rows.length)]⟩,true))
theorem ixfTP_ok:EntOk Tryz.prog ixfTPE:=e2_ok fun p q h=>evFn_sound (N:=(gd p 0).rows.length+1) (ks:=ixfTPK) (key:=bo) ixfTPT_ok (enters Tryz.func178) Tryz.func178 fun hw=>by
 rw [ixfTP_ev]
 have hl:=wt_sl (hw ⟨sd (.sl 97),p⟩ (by simp))
 have e:=ix_loop (L:=ixfTPL0 ((gd p 0).rows.length+1) p q) (fun k => [gd p 0,gd q 0,.i 0,.i ((gd p 0).rows.length:Int),.i (k:Int)]) (gd p 0).rows.length (fun k=>ixfTPC (gd q 0) (sub ((gd p 0).rows.getD k []) 0 3)) [gd p 0,gd q 0,.i 0,.i ((gd p 0).rows.length:Int),.i ((gd p 0).rows.length:Int)] (fun k hk=>?_) ?_ (gd p 0).rows.length 0 ((gd p 0).rows.length+1) (by omega) (by omega)
 ·simp only [Int.natCast_zero] at e
  rw [e]
  have hno:=ixF_neg (fun k=>ixfTPC (gd q 0) (sub ((gd p 0).rows.getD k []) 0 3)) (gd p 0).rows.length 0
  cases hd:decide (ixF (fun k=>ixfTPC (gd q 0) (sub ((gd p 0).rows.getD k []) 0 3)) 0 (gd p 0).rows.length≥0)
  ·rw [hno hd]; rfl
  ·rfl
 ·show ixfTPL0 _ p q [_,_,_,_,.i (k:Int)]=_
  rw [ixfTPR0]
  simp only [int_i,c_lt hk,nd_ix hk,w64_succ hk hl,Int.toNat_natCast]
  unfold ixfTPC
  cases i_TownOk_1F (sub ((gd p 0).rows.getD k []) 0 3) [gd ((gd q 0).rows.getD 0 []) 0] <;> rfl
 ·show ixfTPL0 _ p q [_,_,_,.i ((gd p 0).rows.length:Int),.i ((gd p 0).rows.length:Int)]=_
  rw [ixfTPR0]
  simp only [int_i,c_nlt]
abbrev cofTPT:FuncId→List T→Option (T × Bool):=find [ixfTPE,i_TownOk_1E]
theorem cofTPT_ok:CallOk Tryz.prog cofTPT:=find_ok (fC ⟨ixfTP_ok,fC ⟨i_TownOk_1_ok,fN⟩⟩)
abbrev cofTPK:List Nat:= [0,1,4]
theorem cofTP_ev (N:Nat) (p q:List D):evFn Tryz.prog cofTPT N cofTPK Tryz.f64 rb [⟨sd (.sl 97),p⟩,⟨.one (.c (.fn 65 [.cptr [si] 0])),q⟩]=some (bo,
 ob (leI 0 (ixF (fun k=>ixfTPC (.l [[gd ((gd q 0).rows.getD 0 []) 0]]) (sub ((gd p 0).rows.getD k []) 0 3)) 0 (gd p 0).rows.length))):=by kernel_rfl
def cofTPE:Ent:=(64,e2 (sd (.sl 97)) (.one (.c (.fn 65 [.cptr [si] 0]))) fun p q=>(⟨rb,[.b (anyS (fun rr=>ixfTPC (gd q 0) (sub rr 0 3)) (gd p 0))]⟩,true))
theorem cofTP_ok:EntOk Tryz.prog cofTPE:=e2_ok fun p q h=>evFn_sound (N:=0) (ks:=cofTPK) (key:=bo) cofTPT_ok (enters Tryz.func64) Tryz.func64 fun hw=>by
 rw [cofTP_ev]
 refine congrArg (fun x=>some (bo,ob x)) ?_
 exact (ixF_any (fun k=>ixfTPC (gd q 0) (sub ((gd p 0).rows.getD k []) 0 3)) (gd p 0).rows.length 0).trans (by simp only [Nat.zero_add]; rfl)
abbrev ixfCPT:FuncId→List T→Option (T × Bool):=find [i_clientRight_1E]
theorem ixfCPT_ok:CallOk Tryz.prog ixfCPT:=find_ok (fC ⟨i_clientRight_1_ok,fN⟩)
abbrev ixfCPK:List Nat:= [0,1,4,5,7,8,9,16]
noncomputable def ixfCPL0 (N:Nat) (p q:List D):List D→Out:=loopOf Tryz.prog ixfCPT N ixfCPK Tryz.f178 ri [⟨sd (.sl 97),p⟩,⟨.one (.c (.fn 181 [.cptr [si] 0])),q⟩] 0
theorem ixfCPR0 (N:Nat) (p q:List D) (x0 x1 x2 x3 x4:D):(ixfCPL0 N p q) [x0,x1,x2,x3,x4] =
 bif ltI x4.int x3.int then nd (inRange x4.int x0.rows.length) (bif i_clientRight_1F (sub (x0.rows.getD x4.int.toNat []) 0 3) [(gd (x1.rows.getD 0 []) 0)] then some (1,[x4])
 else nx [x0,x1,x2,x3,.i (w64 (x4.int+1))])
 else ex 0 [x0,x1,x2,x3,x4]:=by kernel_rfl
theorem ixfCP_ev (N:Nat) (p q:List D):evFn Tryz.prog ixfCPT N ixfCPK Tryz.f178 ri [⟨sd (.sl 97),p⟩,⟨.one (.c (.fn 181 [.cptr [si] 0])),q⟩]=some (bo,
 (let o0:=iter (ixfCPL0 N p q) N [gd p 0,gd q 0,.i 0,.i ((gd p 0).rows.length:Int),.i 0]
  nd o0.isSome (bif o0.code==1 then some (1,o0.pay)
  else nd (o0.code==2) (oi (-1))))):=by kernel_rfl
def ixfCPC (c:D) (r:List D):Bool:=i_clientRight_1F r [gd (c.rows.getD 0 []) 0]
def ixfCPE:Ent:=(178,e2 (sd (.sl 97)) (.one (.c (.fn 181 [.cptr [si] 0]))) fun p q=>(⟨ri,[.i (ixF (fun k=>ixfCPC (gd q 0) (sub ((gd p 0).rows.getD k []) 0 3)) 0 (gd p 0).rows.length)]⟩,true))
theorem ixfCP_ok:EntOk Tryz.prog ixfCPE:=e2_ok fun p q h=>evFn_sound (N:=(gd p 0).rows.length+1) (ks:=ixfCPK) (key:=bo) ixfCPT_ok (enters Tryz.func178) Tryz.func178 fun hw=>by
 rw [ixfCP_ev]
 have hl:=wt_sl (hw ⟨sd (.sl 97),p⟩ (by simp))
 have e:=ix_loop (L:=ixfCPL0 ((gd p 0).rows.length+1) p q) (fun k => [gd p 0,gd q 0,.i 0,.i ((gd p 0).rows.length:Int),.i (k:Int)]) (gd p 0).rows.length (fun k=>ixfCPC (gd q 0) (sub ((gd p 0).rows.getD k []) 0 3)) [gd p 0,gd q 0,.i 0,.i ((gd p 0).rows.length:Int),.i ((gd p 0).rows.length:Int)] (fun k hk=>?_) ?_ (gd p 0).rows.length 0 ((gd p 0).rows.length+1) (by omega) (by omega)
 ·simp only [Int.natCast_zero] at e
  rw [e]
  have hno:=ixF_neg (fun k=>ixfCPC (gd q 0) (sub ((gd p 0).rows.getD k []) 0 3)) (gd p 0).rows.length 0
  cases hd:decide (ixF (fun k=>ixfCPC (gd q 0) (sub ((gd p 0).rows.getD k []) 0 3)) 0 (gd p 0).rows.length≥0)
  ·rw [hno hd]; rfl
  ·rfl
 ·show ixfCPL0 _ p q [_,_,_,_,.i (k:Int)]=_
  rw [ixfCPR0]
  simp only [int_i,c_lt hk,nd_ix hk,w64_succ hk hl,Int.toNat_natCast]
  unfold ixfCPC
  cases i_clientRight_1F (sub ((gd p 0).rows.getD k []) 0 3) [gd ((gd q 0).rows.getD 0 []) 0] <;> rfl
 ·show ixfCPL0 _ p q [_,_,_,.i ((gd p 0).rows.length:Int),.i ((gd p 0).rows.length:Int)]=_
  rw [ixfCPR0]
  simp only [int_i,c_nlt]
abbrev cofCPT:FuncId→List T→Option (T × Bool):=find [ixfCPE,i_clientRight_1E]
theorem cofCPT_ok:CallOk Tryz.prog cofCPT:=find_ok (fC ⟨ixfCP_ok,fC ⟨i_clientRight_1_ok,fN⟩⟩)
abbrev cofCPK:List Nat:= [0,1,4]
theorem cofCP_ev (N:Nat) (p q:List D):evFn Tryz.prog cofCPT N cofCPK Tryz.f64 rb [⟨sd (.sl 97),p⟩,⟨.one (.c (.fn 181 [.cptr [si] 0])),q⟩]=some (bo,
 ob (leI 0 (ixF (fun k=>ixfCPC (.l [[gd ((gd q 0).rows.getD 0 []) 0]]) (sub ((gd p 0).rows.getD k []) 0 3)) 0 (gd p 0).rows.length))):=by kernel_rfl
def cofCPE:Ent:=(64,e2 (sd (.sl 97)) (.one (.c (.fn 181 [.cptr [si] 0]))) fun p q=>(⟨rb,[.b (anyS (fun rr=>ixfCPC (gd q 0) (sub rr 0 3)) (gd p 0))]⟩,true))
theorem cofCP_ok:EntOk Tryz.prog cofCPE:=e2_ok fun p q h=>evFn_sound (N:=0) (ks:=cofCPK) (key:=bo) cofCPT_ok (enters Tryz.func64) Tryz.func64 fun hw=>by
 rw [cofCP_ev]
 refine congrArg (fun x=>some (bo,ob x)) ?_
 exact (ixF_any (fun k=>ixfCPC (gd q 0) (sub ((gd p 0).rows.getD k []) 0 3)) (gd p 0).rows.length 0).trans (by simp only [Nat.zero_add]; rfl)
abbrev ixfCST:FuncId→List T→Option (T × Bool):=find [i_clientRight_2E]
theorem ixfCST_ok:CallOk Tryz.prog ixfCST:=find_ok (fC ⟨i_clientRight_2_ok,fN⟩)
abbrev ixfCSK:List Nat:= [0,1,4,5,7,8,9,16]
noncomputable def ixfCSL0 (N:Nat) (p q:List D):List D→Out:=loopOf Tryz.prog ixfCST N ixfCSK Tryz.f272 ri [⟨sd (.sl 130),p⟩,⟨.one (.c (.fn 183 [.cptr [si] 0])),q⟩] 0
theorem ixfCSR0 (N:Nat) (p q:List D) (x0 x1 x2 x3 x4:D):(ixfCSL0 N p q) [x0,x1,x2,x3,x4] =
 bif ltI x4.int x3.int then nd (inRange x4.int x0.rows.length) (bif i_clientRight_2F (sub (x0.rows.getD x4.int.toNat []) 0 3) [(gd (x1.rows.getD 0 []) 0)] then some (1,[x4])
 else nx [x0,x1,x2,x3,.i (w64 (x4.int+1))])
 else ex 0 [x0,x1,x2,x3,x4]:=by kernel_rfl
theorem ixfCS_ev (N:Nat) (p q:List D):evFn Tryz.prog ixfCST N ixfCSK Tryz.f272 ri [⟨sd (.sl 130),p⟩,⟨.one (.c (.fn 183 [.cptr [si] 0])),q⟩]=some (bo,
 (let o0:=iter (ixfCSL0 N p q) N [gd p 0,gd q 0,.i 0,.i ((gd p 0).rows.length:Int),.i 0]
  nd o0.isSome (bif o0.code==1 then some (1,o0.pay)
  else nd (o0.code==2) (oi (-1))))):=by kernel_rfl
def ixfCSC (c:D) (r:List D):Bool:=i_clientRight_2F r [gd (c.rows.getD 0 []) 0]
def ixfCSE:Ent:=(272,e2 (sd (.sl 130)) (.one (.c (.fn 183 [.cptr [si] 0]))) fun p q=>(⟨ri,[.i (ixF (fun k=>ixfCSC (gd q 0) (sub ((gd p 0).rows.getD k []) 0 3)) 0 (gd p 0).rows.length)]⟩,true))
theorem ixfCS_ok:EntOk Tryz.prog ixfCSE:=e2_ok fun p q h=>evFn_sound (N:=(gd p 0).rows.length+1) (ks:=ixfCSK) (key:=bo) ixfCST_ok (enters Tryz.func272) Tryz.func272 fun hw=>by
 rw [ixfCS_ev]
 have hl:=wt_sl (hw ⟨sd (.sl 130),p⟩ (by simp))
 have e:=ix_loop (L:=ixfCSL0 ((gd p 0).rows.length+1) p q) (fun k => [gd p 0,gd q 0,.i 0,.i ((gd p 0).rows.length:Int),.i (k:Int)]) (gd p 0).rows.length (fun k=>ixfCSC (gd q 0) (sub ((gd p 0).rows.getD k []) 0 3)) [gd p 0,gd q 0,.i 0,.i ((gd p 0).rows.length:Int),.i ((gd p 0).rows.length:Int)] (fun k hk=>?_) ?_ (gd p 0).rows.length 0 ((gd p 0).rows.length+1) (by omega) (by omega)
 ·simp only [Int.natCast_zero] at e
  rw [e]
  have hno:=ixF_neg (fun k=>ixfCSC (gd q 0) (sub ((gd p 0).rows.getD k []) 0 3)) (gd p 0).rows.length 0
  cases hd:decide (ixF (fun k=>ixfCSC (gd q 0) (sub ((gd p 0).rows.getD k []) 0 3)) 0 (gd p 0).rows.length≥0)
  ·rw [hno hd]; rfl
  ·rfl
 ·show ixfCSL0 _ p q [_,_,_,_,.i (k:Int)]=_
  rw [ixfCSR0]
  simp only [int_i,c_lt hk,nd_ix hk,w64_succ hk hl,Int.toNat_natCast]
  unfold ixfCSC
  cases i_clientRight_2F (sub ((gd p 0).rows.getD k []) 0 3) [gd ((gd q 0).rows.getD 0 []) 0] <;> rfl
 ·show ixfCSL0 _ p q [_,_,_,.i ((gd p 0).rows.length:Int),.i ((gd p 0).rows.length:Int)]=_
  rw [ixfCSR0]
  simp only [int_i,c_nlt]
abbrev cofCST:FuncId→List T→Option (T × Bool):=find [ixfCSE,i_clientRight_2E]
theorem cofCST_ok:CallOk Tryz.prog cofCST:=find_ok (fC ⟨ixfCS_ok,fC ⟨i_clientRight_2_ok,fN⟩⟩)
abbrev cofCSK:List Nat:= [0,1,4]
theorem cofCS_ev (N:Nat) (p q:List D):evFn Tryz.prog cofCST N cofCSK Tryz.f182 rb [⟨sd (.sl 130),p⟩,⟨.one (.c (.fn 183 [.cptr [si] 0])),q⟩]=some (bo,
 ob (leI 0 (ixF (fun k=>ixfCSC (.l [[gd ((gd q 0).rows.getD 0 []) 0]]) (sub ((gd p 0).rows.getD k []) 0 3)) 0 (gd p 0).rows.length))):=by kernel_rfl
def cofCSE:Ent:=(182,e2 (sd (.sl 130)) (.one (.c (.fn 183 [.cptr [si] 0]))) fun p q=>(⟨rb,[.b (anyS (fun rr=>ixfCSC (gd q 0) (sub rr 0 3)) (gd p 0))]⟩,true))
theorem cofCS_ok:EntOk Tryz.prog cofCSE:=e2_ok fun p q h=>evFn_sound (N:=0) (ks:=cofCSK) (key:=bo) cofCST_ok (enters Tryz.func182) Tryz.func182 fun hw=>by
 rw [cofCS_ev]
 refine congrArg (fun x=>some (bo,ob x)) ?_
 exact (ixF_any (fun k=>ixfCSC (gd q 0) (sub ((gd p 0).rows.getD k []) 0 3)) (gd p 0).rows.length 0).trans (by simp only [Nat.zero_add]; rfl)
abbrev ixfCIT:FuncId→List T→Option (T × Bool):=find [i_cellsIn_1E]
theorem ixfCIT_ok:CallOk Tryz.prog ixfCIT:=find_ok (fC ⟨i_cellsIn_1_ok,fN⟩)
abbrev ixfCIK:List Nat:= [0,1,4,5,7,8,9,16]
noncomputable def ixfCIL0 (N:Nat) (p q:List D):List D→Out:=loopOf Tryz.prog ixfCIT N ixfCIK Tryz.f265 ri [⟨sd (.sl 176),p⟩,⟨.one (.c (.fn 307 [.cptr [si,si] 0])),q⟩] 0
theorem ixfCIR0 (N:Nat) (p q:List D) (x0 x1 x2 x3 x4:D):(ixfCIL0 N p q) [x0,x1,x2,x3,x4] =
 bif ltI x4.int x3.int then nd (inRange x4.int x0.rows.length) (bif i_cellsIn_1F (sub (x0.rows.getD x4.int.toNat []) 0 2) [(gd (x1.rows.getD 0 []) 0)] then some (1,[x4])
 else nx [x0,x1,x2,x3,.i (w64 (x4.int+1))])
 else ex 0 [x0,x1,x2,x3,x4]:=by kernel_rfl
theorem ixfCI_ev (N:Nat) (p q:List D):evFn Tryz.prog ixfCIT N ixfCIK Tryz.f265 ri [⟨sd (.sl 176),p⟩,⟨.one (.c (.fn 307 [.cptr [si,si] 0])),q⟩]=some (bo,
 (let o0:=iter (ixfCIL0 N p q) N [gd p 0,gd q 0,.i 0,.i ((gd p 0).rows.length:Int),.i 0]
  nd o0.isSome (bif o0.code==1 then some (1,o0.pay)
  else nd (o0.code==2) (oi (-1))))):=by kernel_rfl
def ixfCIC (c:D) (r:List D):Bool:=i_cellsIn_1F r [gd (c.rows.getD 0 []) 0]
def ixfCIE:Ent:=(265,e2 (sd (.sl 176)) (.one (.c (.fn 307 [.cptr [si,si] 0]))) fun p q=>(⟨ri,[.i (ixF (fun k=>ixfCIC (gd q 0) (sub ((gd p 0).rows.getD k []) 0 2)) 0 (gd p 0).rows.length)]⟩,true))
theorem ixfCI_ok:EntOk Tryz.prog ixfCIE:=e2_ok fun p q h=>evFn_sound (N:=(gd p 0).rows.length+1) (ks:=ixfCIK) (key:=bo) ixfCIT_ok (enters Tryz.func265) Tryz.func265 fun hw=>by
 rw [ixfCI_ev]
 have hl:=wt_sl (hw ⟨sd (.sl 176),p⟩ (by simp))
 have e:=ix_loop (L:=ixfCIL0 ((gd p 0).rows.length+1) p q) (fun k => [gd p 0,gd q 0,.i 0,.i ((gd p 0).rows.length:Int),.i (k:Int)]) (gd p 0).rows.length (fun k=>ixfCIC (gd q 0) (sub ((gd p 0).rows.getD k []) 0 2)) [gd p 0,gd q 0,.i 0,.i ((gd p 0).rows.length:Int),.i ((gd p 0).rows.length:Int)] (fun k hk=>?_) ?_ (gd p 0).rows.length 0 ((gd p 0).rows.length+1) (by omega) (by omega)
 ·simp only [Int.natCast_zero] at e
  rw [e]
  have hno:=ixF_neg (fun k=>ixfCIC (gd q 0) (sub ((gd p 0).rows.getD k []) 0 2)) (gd p 0).rows.length 0
  cases hd:decide (ixF (fun k=>ixfCIC (gd q 0) (sub ((gd p 0).rows.getD k []) 0 2)) 0 (gd p 0).rows.length≥0)
  ·rw [hno hd]; rfl
  ·rfl
 ·show ixfCIL0 _ p q [_,_,_,_,.i (k:Int)]=_
  rw [ixfCIR0]
  simp only [int_i,c_lt hk,nd_ix hk,w64_succ hk hl,Int.toNat_natCast]
  unfold ixfCIC
  cases i_cellsIn_1F (sub ((gd p 0).rows.getD k []) 0 2) [gd ((gd q 0).rows.getD 0 []) 0] <;> rfl
 ·show ixfCIL0 _ p q [_,_,_,.i ((gd p 0).rows.length:Int),.i ((gd p 0).rows.length:Int)]=_
  rw [ixfCIR0]
  simp only [int_i,c_nlt]
abbrev cofCIT:FuncId→List T→Option (T × Bool):=find [ixfCIE,i_cellsIn_1E]
theorem cofCIT_ok:CallOk Tryz.prog cofCIT:=find_ok (fC ⟨ixfCI_ok,fC ⟨i_cellsIn_1_ok,fN⟩⟩)
abbrev cofCIK:List Nat:= [0,1,4]
theorem cofCI_ev (N:Nat) (p q:List D):evFn Tryz.prog cofCIT N cofCIK Tryz.f168 rb [⟨sd (.sl 176),p⟩,⟨.one (.c (.fn 307 [.cptr [si,si] 0])),q⟩]=some (bo,
 ob (leI 0 (ixF (fun k=>ixfCIC (.l [[gd ((gd q 0).rows.getD 0 []) 0]]) (sub ((gd p 0).rows.getD k []) 0 2)) 0 (gd p 0).rows.length))):=by kernel_rfl
def cofCIE:Ent:=(168,e2 (sd (.sl 176)) (.one (.c (.fn 307 [.cptr [si,si] 0]))) fun p q=>(⟨rb,[.b (anyS (fun rr=>ixfCIC (gd q 0) (sub rr 0 2)) (gd p 0))]⟩,true))
theorem cofCI_ok:EntOk Tryz.prog cofCIE:=e2_ok fun p q h=>evFn_sound (N:=0) (ks:=cofCIK) (key:=bo) cofCIT_ok (enters Tryz.func168) Tryz.func168 fun hw=>by
 rw [cofCI_ev]
 refine congrArg (fun x=>some (bo,ob x)) ?_
 exact (ixF_any (fun k=>ixfCIC (gd q 0) (sub ((gd p 0).rows.getD k []) 0 2)) (gd p 0).rows.length 0).trans (by simp only [Nat.zero_add]; rfl)
abbrev ixfCOT:FuncId→List T→Option (T × Bool):=find [i_ClientOk_1E]
theorem ixfCOT_ok:CallOk Tryz.prog ixfCOT:=find_ok (fC ⟨i_ClientOk_1_ok,fN⟩)
abbrev ixfCOK:List Nat:= [0,1,4,5,7,8,9,16]
noncomputable def ixfCOL0 (N:Nat) (p q:List D):List D→Out:=loopOf Tryz.prog ixfCOT N ixfCOK Tryz.f272 ri [⟨sd (.sl 130),p⟩,⟨.one (.c (.fn 271 [])),q⟩] 0
theorem ixfCOR0 (N:Nat) (p q:List D) (x0 x1 x2 x3 x4:D):(ixfCOL0 N p q) [x0,x1,x2,x3,x4] =
 bif ltI x4.int x3.int then nd (inRange x4.int x0.rows.length) (bif i_ClientOk_1F (sub (x0.rows.getD x4.int.toNat []) 0 3) then some (1,[x4])
 else nx [x0,x1,x2,x3,.i (w64 (x4.int+1))])
 else ex 0 [x0,x1,x2,x3,x4]:=by kernel_rfl
theorem ixfCO_ev (N:Nat) (p q:List D):evFn Tryz.prog ixfCOT N ixfCOK Tryz.f272 ri [⟨sd (.sl 130),p⟩,⟨.one (.c (.fn 271 [])),q⟩]=some (bo,
 (let o0:=iter (ixfCOL0 N p q) N [gd p 0,gd q 0,.i 0,.i ((gd p 0).rows.length:Int),.i 0]
  nd o0.isSome (bif o0.code==1 then some (1,o0.pay)
  else nd (o0.code==2) (oi (-1))))):=by kernel_rfl
def ixfCOC (c:D) (r:List D):Bool:=i_ClientOk_1F r
def ixfCOE:Ent:=(272,e2 (sd (.sl 130)) (.one (.c (.fn 271 []))) fun p q=>(⟨ri,[.i (ixF (fun k=>ixfCOC (gd q 0) (sub ((gd p 0).rows.getD k []) 0 3)) 0 (gd p 0).rows.length)]⟩,true))
theorem ixfCO_ok:EntOk Tryz.prog ixfCOE:=e2_ok fun p q h=>evFn_sound (N:=(gd p 0).rows.length+1) (ks:=ixfCOK) (key:=bo) ixfCOT_ok (enters Tryz.func272) Tryz.func272 fun hw=>by
 rw [ixfCO_ev]
 have hl:=wt_sl (hw ⟨sd (.sl 130),p⟩ (by simp))
 have e:=ix_loop (L:=ixfCOL0 ((gd p 0).rows.length+1) p q) (fun k => [gd p 0,gd q 0,.i 0,.i ((gd p 0).rows.length:Int),.i (k:Int)]) (gd p 0).rows.length (fun k=>ixfCOC (gd q 0) (sub ((gd p 0).rows.getD k []) 0 3)) [gd p 0,gd q 0,.i 0,.i ((gd p 0).rows.length:Int),.i ((gd p 0).rows.length:Int)] (fun k hk=>?_) ?_ (gd p 0).rows.length 0 ((gd p 0).rows.length+1) (by omega) (by omega)
 ·simp only [Int.natCast_zero] at e
  rw [e]
  have hno:=ixF_neg (fun k=>ixfCOC (gd q 0) (sub ((gd p 0).rows.getD k []) 0 3)) (gd p 0).rows.length 0
  cases hd:decide (ixF (fun k=>ixfCOC (gd q 0) (sub ((gd p 0).rows.getD k []) 0 3)) 0 (gd p 0).rows.length≥0)
  ·rw [hno hd]; rfl
  ·rfl
 ·show ixfCOL0 _ p q [_,_,_,_,.i (k:Int)]=_
  rw [ixfCOR0]
  simp only [int_i,c_lt hk,nd_ix hk,w64_succ hk hl,Int.toNat_natCast]
  unfold ixfCOC
  cases i_ClientOk_1F (sub ((gd p 0).rows.getD k []) 0 3)  <;> rfl
 ·show ixfCOL0 _ p q [_,_,_,.i ((gd p 0).rows.length:Int),.i ((gd p 0).rows.length:Int)]=_
  rw [ixfCOR0]
  simp only [int_i,c_nlt]
abbrev cofCOT:FuncId→List T→Option (T × Bool):=find [ixfCOE,i_ClientOk_1E]
theorem cofCOT_ok:CallOk Tryz.prog cofCOT:=find_ok (fC ⟨ixfCO_ok,fC ⟨i_ClientOk_1_ok,fN⟩⟩)
abbrev cofCOK:List Nat:= [0,1,4]
theorem cofCO_ev (N:Nat) (p q:List D):evFn Tryz.prog cofCOT N cofCOK Tryz.f182 rb [⟨sd (.sl 130),p⟩,⟨.one (.c (.fn 271 [])),q⟩]=some (bo,
 ob (leI 0 (ixF (fun k=>ixfCOC (.l [[]]) (sub ((gd p 0).rows.getD k []) 0 3)) 0 (gd p 0).rows.length))):=by kernel_rfl
def cofCOE:Ent:=(182,e2 (sd (.sl 130)) (.one (.c (.fn 271 []))) fun p q=>(⟨rb,[.b (anyS (fun rr=>ixfCOC (gd q 0) (sub rr 0 3)) (gd p 0))]⟩,true))
theorem cofCO_ok:EntOk Tryz.prog cofCOE:=e2_ok fun p q h=>evFn_sound (N:=0) (ks:=cofCOK) (key:=bo) cofCOT_ok (enters Tryz.func182) Tryz.func182 fun hw=>by
 rw [cofCO_ev]
 refine congrArg (fun x=>some (bo,ob x)) ?_
 exact (ixF_any (fun k=>ixfCOC (gd q 0) (sub ((gd p 0).rows.getD k []) 0 3)) (gd p 0).rows.length 0).trans (by simp only [Nat.zero_add]; rfl)
end Go.Proofs.YtchceahcaaibcaaGreat
