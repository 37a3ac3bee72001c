/-
 Texts of the proof,put together: part 7.
-/
import Derived.Test.YtchceahcaaibcaaGreatJT1
import Derived.Test.YtchceahcaaibcaaGreatJT2
import Derived.Test.YtchceahcaaibcaaGreatJT3
import Derived.Test.YtchceahcaaibcaaGreatJT4
import Derived.Test.YtchceahcaaibcaaGreatJT5
import Derived.Test.YtchceahcaaibcaaGreatJT6
import Derived.Deep.Slices
import Derived.Deep.Fields
import Derived.OpenShut
set_option linter.unusedSimpArgs false
set_option linter.unusedVariables false
set_option linter.unusedSectionVars false
namespace Go.Proofs.YtchceahcaaibcaaGreat
set_option maxRecDepth 4096
set_option maxHeartbeats 1000000
abbrev i_JudgeReads_1T:FuncId→List T→Option (T × Bool):=find [i_RhasE]
theorem i_JudgeReads_1T_ok:CallOk Tryz.prog i_JudgeReads_1T:=find_ok (fC ⟨i_Rhas_ok,fN⟩)
abbrev i_JudgeReads_1K:List Nat:= [0,1,2,3]
theorem i_JudgeReads_1_ev (N:Nat) (p q:List D):evFn Tryz.prog i_JudgeReads_1T N i_JudgeReads_1K Tryz.f226 rb [⟨ag rICell,p⟩,⟨.one (.c (.cptr [si,si] 0)),q⟩]=some (bo,
 ob (!(inB (gd p 0).int (gd ((gd q 0).rows.getD 0 []) 0).int (w64 ((gd ((gd q 0).rows.getD 0 []) 1).int - 1))))):=by kernel_rfl
def i_JudgeReads_1F (p q:List D):Bool:=
 !(inB (gd p 0).int (gd ((gd q 0).rows.getD 0 []) 0).int (w64 ((gd ((gd q 0).rows.getD 0 []) 1).int - 1)))
def i_JudgeReads_1E:Ent:=(226,e2 (ag rICell) (.one (.c (.cptr [si,si] 0))) fun p q=>(⟨rb,[.b (i_JudgeReads_1F p [gd q 0])]⟩,true))
theorem i_JudgeReads_1_ok:EntOk Tryz.prog i_JudgeReads_1E:=e2_ok fun p q h=>evFn_sound (N:=0) (ks:=i_JudgeReads_1K) (key:=bo) i_JudgeReads_1T_ok (enters Tryz.func226) Tryz.func226 fun hw=>by
 rw [i_JudgeReads_1_ev]
 try simp only [cond_ob,cond_oi,cond_os]
 rfl
abbrev ixfJRT:FuncId→List T→Option (T × Bool):=find [i_JudgeReads_1E]
theorem ixfJRT_ok:CallOk Tryz.prog ixfJRT:=find_ok (fC ⟨i_JudgeReads_1_ok,fN⟩)
abbrev ixfJRK:List Nat:= [0,1,4,5,7,8,9,16]
noncomputable def ixfJRL0 (N:Nat) (p q:List D):List D→Out:=loopOf Tryz.prog ixfJRT N ixfJRK Tryz.f265 ri [⟨sd (.sl 176),p⟩,⟨.one (.c (.fn 226 [.cptr [si,si] 0])),q⟩] 0
theorem ixfJRR0 (N:Nat) (p q:List D) (x0 x1 x2 x3 x4:D):(ixfJRL0 N p q) [x0,x1,x2,x3,x4] =
 bif ltI x4.int x3.int then nd (inRange x4.int x0.rows.length) (bif i_JudgeReads_1F (sub (x0.rows.getD x4.int.toNat []) 0 2) [gd (x1.rows.getD 0 []) 0] then some (1,[x4])
 else nx [x0,x1,x2,x3,.i (w64 (x4.int+1))])
 else ex 0 [x0,x1,x2,x3,x4]:=by kernel_rfl
theorem ixfJR_ev (N:Nat) (p q:List D):evFn Tryz.prog ixfJRT N ixfJRK Tryz.f265 ri [⟨sd (.sl 176),p⟩,⟨.one (.c (.fn 226 [.cptr [si,si] 0])),q⟩]=some (bo,
 (let o0:=iter (ixfJRL0 N p q) N [gd p 0,gd q 0,.i 0,.i ((gd p 0).rows.length:Int),.i 0]
  nd o0.isSome (bif o0.code==1 then some (1,o0.pay)
  else nd (o0.code==2) (oi (-1))))):=by kernel_rfl
def ixfJRC (c:D) (r:List D):Bool:=i_JudgeReads_1F r [gd (c.rows.getD 0 []) 0]
def ixfJRE:Ent:=(265,e2 (sd (.sl 176)) (.one (.c (.fn 226 [.cptr [si,si] 0]))) fun p q=>(⟨ri,[.i (ixF (fun k=>ixfJRC (gd q 0) (sub ((gd p 0).rows.getD k []) 0 2)) 0 (gd p 0).rows.length)]⟩,true))
theorem ixfJR_ok:EntOk Tryz.prog ixfJRE:=e2_ok fun p q h=>evFn_sound (N:=(gd p 0).rows.length+1) (ks:=ixfJRK) (key:=bo) ixfJRT_ok (enters Tryz.func265) Tryz.func265 fun hw=>by
 rw [ixfJR_ev]
 have hl:=wt_sl (hw ⟨sd (.sl 176),p⟩ (by simp))
 have e:=ix_loop (L:=ixfJRL0 ((gd p 0).rows.length+1) p q) (fun k => [gd p 0,gd q 0,.i 0,.i ((gd p 0).rows.length:Int),.i (k:Int)]) (gd p 0).rows.length (fun k=>ixfJRC (gd q 0) (sub ((gd p 0).rows.getD k []) 0 2)) [gd p 0,gd q 0,.i 0,.i ((gd p 0).rows.length:Int),.i ((gd p 0).rows.length:Int)] (fun k hk=>?_) ?_ (gd p 0).rows.length 0 ((gd p 0).rows.length+1) (by omega) (by omega)
 ·simp only [Int.natCast_zero] at e
  rw [e]
  have hno:=ixF_neg (fun k=>ixfJRC (gd q 0) (sub ((gd p 0).rows.getD k []) 0 2)) (gd p 0).rows.length 0
  cases hd:decide (ixF (fun k=>ixfJRC (gd q 0) (sub ((gd p 0).rows.getD k []) 0 2)) 0 (gd p 0).rows.length≥0)
  ·rw [hno hd]; rfl
  ·rfl
 ·show ixfJRL0 _ p q [_,_,_,_,.i (k:Int)]=_
  rw [ixfJRR0]
  simp only [int_i,c_lt hk,nd_ix hk,w64_succ hk hl,Int.toNat_natCast]
  unfold ixfJRC
  cases i_JudgeReads_1F (sub ((gd p 0).rows.getD k []) 0 2) [gd ((gd q 0).rows.getD 0 []) 0] <;> rfl
 ·show ixfJRL0 _ p q [_,_,_,.i ((gd p 0).rows.length:Int),.i ((gd p 0).rows.length:Int)]=_
  rw [ixfJRR0]
  simp only [int_i,c_nlt]
abbrev s_l17SameT:FuncId→List T→Option (T × Bool):=find []
theorem s_l17SameT_ok:CallOk Tryz.prog s_l17SameT:=find_ok (fN)
abbrev s_l17SameK:List Nat:= [0,1,4,5,10,14,25]
noncomputable def s_l17SameL0 (N:Nat) (p q:List D):List D→Out:=loopOf Tryz.prog s_l17SameT N s_l17SameK Tryz.f221 rb [⟨sd (.sl 176),p⟩,⟨sd (.sl 176),q⟩] 0
theorem s_l17SameR0 (N:Nat) (p q:List D) (x0 x1 x2 x3 x4:D):(s_l17SameL0 N p q) [x0,x1,x2,x3,x4] =
 bif ltI x4.int (x0.rows.length:Int) then nd (inRange x4.int x0.rows.length) (nd (inRange x4.int x1.rows.length) (bif !(eqRow [si,si] (sub (x0.rows.getD x4.int.toNat []) 0 2) (sub (x1.rows.getD x4.int.toNat []) 0 2)) then ob false
 else nx [x0,x1,x2,x3,.i (w64 (x4.int+1))]))
 else ex 0 [x0,x1,x2,x3,x4]:=by kernel_rfl
theorem s_l17Same_ev (N:Nat) (p q:List D):evFn Tryz.prog s_l17SameT N s_l17SameK Tryz.f221 rb [⟨sd (.sl 176),p⟩,⟨sd (.sl 176),q⟩]=some (bo,
 bif ((gd p 0).rows.length:Int) != ((gd q 0).rows.length:Int) then ob false
 else (let o0:=iter (s_l17SameL0 N p q) N [gd p 0,gd q 0,.i 0,.b (((gd p 0).rows.length:Int) != ((gd q 0).rows.length:Int)),.i 0]
  nd o0.isSome (bif o0.code==1 then some (1,o0.pay)
  else nd (o0.code==2) (ob true)))):=by kernel_rfl
def sameC (x y:D):Bool:=(x.rows.length==y.rows.length)&&(List.range x.rows.length).all fun k=>eqRow [si,si] (sub (x.rows.getD k []) 0 2) (sub (y.rows.getD k []) 0 2)
theorem for_same {L:List D→Out} {st:Nat→List D} {n:Nat} (C:Nat→Bool) (h1:∀ k,k<n→L (st k)=bif C k then nx (st (k+1)) else some (1,[.b false])) (h2:L (st n)=some (2,st n)) :
  ∀ (m k N:Nat),k+m=n→m<N→iter L N (st k)=bif (List.range' k m).all C then some (2,st n) else some (1,[.b false]):=by
 intro m
 induction m with
 | zero =>
  intro k N hk hN
  obtain ⟨N,rfl⟩:∃ N',N=N'+1:=⟨N - 1,by omega⟩
  obtain rfl:k=n:=by omega
  exact iter_ex (c:=1) h2
 | succ m ih =>
  intro k N hk hN
  obtain ⟨N,rfl⟩:∃ N',N=N'+1:=⟨N - 1,by omega⟩
  have h:=h1 k (by omega)
  rw [List.range'_succ,List.all_cons]
  cases hc:C k with
  | true =>
   rw [hc,cond_true] at h
   rw [iter_nx h,Bool.true_and]
   exact ih (k+1) N (by omega) (by omega)
  | false =>
   rw [hc,cond_false] at h
   rw [Bool.false_and,cond_false]
   exact iter_ex (c:=0) h
theorem same_all {x y:D} (h:x.rows.length=y.rows.length):sameC x y=(List.range' 0 x.rows.length).all fun k=>eqRow [si,si] (sub (x.rows.getD k []) 0 2) (sub (y.rows.getD k []) 0 2):=by
 unfold sameC
 rw [show (x.rows.length==y.rows.length)=true from by simp [h],Bool.true_and,List.range_eq_range']
def s_l17SameE:Ent:=(221,e2 (sd (.sl 176)) (sd (.sl 176)) fun p q=>(⟨rb,[.b (sameC (gd p 0) (gd q 0))]⟩,true))
theorem s_l17Same_ok:EntOk Tryz.prog s_l17SameE:=e2_ok fun p q h=>evFn_sound (N:=(gd p 0).rows.length+1) (ks:=s_l17SameK) (key:=bo) s_l17SameT_ok (enters Tryz.func221) Tryz.func221 fun hw=>by
 rw [s_l17Same_ev]
 have hl:=wt_sl (hw ⟨sd (.sl 176),p⟩ (by simp))
 by_cases he:(gd p 0).rows.length=(gd q 0).rows.length
 ·rw [show ((((gd p 0).rows.length:Int)) != ((gd q 0).rows.length:Int))=false from by simp [he]]
  have e:=for_same (L:=s_l17SameL0 ((gd p 0).rows.length+1) p q) (st:=fun k => [gd p 0,gd q 0,.i 0,.b false,.i (k:Int)]) (n:=(gd p 0).rows.length) (fun k=>eqRow [si,si] (sub ((gd p 0).rows.getD k []) 0 2) (sub ((gd q 0).rows.getD k []) 0 2)) (fun k hk=>?_) ?_ (gd p 0).rows.length 0 ((gd p 0).rows.length+1) (by omega) (by omega)
  ·simp only [Int.natCast_zero] at e
   simp only [cond_false]
   rw [e,← same_all he]
   cases sameC (gd p 0) (gd q 0) <;> rfl
  ·show s_l17SameL0 _ p q [_,_,_,_,.i (k:Int)]=_
   rw [s_l17SameR0]
   have hk':k<(gd q 0).rows.length:=by omega
   simp only [int_i,c_lt hk,ltI_nat hk,nd_ix hk,nd_ix hk',Int.toNat_natCast,w64_succ hk hl]
   cases eqRow [si,si] (sub ((gd p 0).rows.getD k []) 0 2) (sub ((gd q 0).rows.getD k []) 0 2) <;> rfl
  ·show s_l17SameL0 _ p q [_,_,_,_,.i ((gd p 0).rows.length:Int)]=_
   rw [s_l17SameR0]
   simp only [int_i,c_nlt]
 ·rw [show ((((gd p 0).rows.length:Int)) != ((gd q 0).rows.length:Int))=true from by simp only [bne_iff_ne,ne_eq,Int.ofNat_inj]; exact he]
  rw [show sameC (gd p 0) (gd q 0)=false from by simp [sameC,he]]
  rfl
abbrev i_EqCT:FuncId→List T→Option (T × Bool):=find []
theorem i_EqCT_ok:CallOk Tryz.prog i_EqCT:=find_ok (fN)
abbrev i_EqCK:List Nat:= [0,1,4,5,10,12,13,14,24]
noncomputable def i_EqCL0 (N:Nat) (p q:List D):List D→Out:=loopOf Tryz.prog i_EqCT N i_EqCK Tryz.f228 rb [⟨sd (.sl 176),p⟩,⟨sd (.sl 176),q⟩] 0
theorem i_EqCR0 (N:Nat) (p q:List D) (x0 x1 x2 x3 x4 x5:D):(i_EqCL0 N p q) [x0,x1,x2,x3,x4,x5] =
 bif ltI x5.int x4.int then nd (inRange x5.int x0.rows.length) (nd (inRange x5.int x1.rows.length) (bif !(eqRow [si,si] (sub (x0.rows.getD x5.int.toNat []) 0 2) (sub (x1.rows.getD x5.int.toNat []) 0 2)) then ob false
 else nx [x0,x1,x2,x3,x4,.i (w64 (x5.int+1))]))
 else ex 0 [x0,x1,x2,x3,x4,x5]:=by kernel_rfl
theorem i_EqC_ev (N:Nat) (p q:List D):evFn Tryz.prog i_EqCT N i_EqCK Tryz.f228 rb [⟨sd (.sl 176),p⟩,⟨sd (.sl 176),q⟩]=some (bo,
 bif ((gd p 0).rows.length:Int) != ((gd q 0).rows.length:Int) then ob false
 else (let o0:=iter (i_EqCL0 N p q) N [gd p 0,gd q 0,.i 0,.b (((gd p 0).rows.length:Int) != ((gd q 0).rows.length:Int)),.i ((gd p 0).rows.length:Int),.i 0]
  nd o0.isSome (bif o0.code==1 then some (1,o0.pay)
  else nd (o0.code==2) (ob true)))):=by kernel_rfl
def i_EqCE:Ent:=(228,e2 (sd (.sl 176)) (sd (.sl 176)) fun p q=>(⟨rb,[.b (sameC (gd p 0) (gd q 0))]⟩,true))
theorem i_EqC_ok:EntOk Tryz.prog i_EqCE:=e2_ok fun p q h=>evFn_sound (N:=(gd p 0).rows.length+1) (ks:=i_EqCK) (key:=bo) i_EqCT_ok (enters Tryz.func228) Tryz.func228 fun hw=>by
 rw [i_EqC_ev]
 have hl:=wt_sl (hw ⟨sd (.sl 176),p⟩ (by simp))
 by_cases he:(gd p 0).rows.length=(gd q 0).rows.length
 ·rw [show ((((gd p 0).rows.length:Int)) != ((gd q 0).rows.length:Int))=false from by simp [he]]
  have e:=for_same (L:=i_EqCL0 ((gd p 0).rows.length+1) p q) (st:=fun k => [gd p 0,gd q 0,.i 0,.b false,.i ((gd p 0).rows.length:Int),.i (k:Int)]) (n:=(gd p 0).rows.length) (fun k=>eqRow [si,si] (sub ((gd p 0).rows.getD k []) 0 2) (sub ((gd q 0).rows.getD k []) 0 2)) (fun k hk=>?_) ?_ (gd p 0).rows.length 0 ((gd p 0).rows.length+1) (by omega) (by omega)
  ·simp only [Int.natCast_zero] at e
   simp only [cond_false]
   rw [e,← same_all he]
   cases sameC (gd p 0) (gd q 0) <;> rfl
  ·show i_EqCL0 _ p q [_,_,_,_,_,.i (k:Int)]=_
   rw [i_EqCR0]
   have hk':k<(gd q 0).rows.length:=by omega
   simp only [int_i,c_lt hk,ltI_nat hk,nd_ix hk,nd_ix hk',Int.toNat_natCast,w64_succ hk hl]
   cases eqRow [si,si] (sub ((gd p 0).rows.getD k []) 0 2) (sub ((gd q 0).rows.getD k []) 0 2) <;> rfl
  ·show i_EqCL0 _ p q [_,_,_,_,_,.i ((gd p 0).rows.length:Int)]=_
   rw [i_EqCR0]
   simp only [int_i,c_nlt]
 ·rw [show ((((gd p 0).rows.length:Int)) != ((gd q 0).rows.length:Int))=true from by simp only [bne_iff_ne,ne_eq,Int.ofNat_inj]; exact he]
  rw [show sameC (gd p 0) (gd q 0)=false from by simp [sameC,he]]
  rfl
end Go.Proofs.YtchceahcaaibcaaGreat
namespace Go.Proofs.YtchceahcaaibcaaGreat
set_option maxRecDepth 100000
set_option maxHeartbeats 4000000
open Go.RowKit Go.Lib
def protK (B:Option Nat) (n:Nat):Nat→Nat:=fun b=>if B=some b then n else 0
theorem ownK_vd {P:Program} {w:World} {e:TypeId} {row:List S} {z:D} {u:Value} {B:Option Nat} (hrow:rowOf P e=some row) (h:OwnK w e row z.rows u B):VD P w (protK B (z.rows.length*row.length)) (.sl e) z u:=by
 rcases h with ⟨rfl,h0,A,rfl⟩ | ⟨b,cap,arr,rfl,rfl,h2,h3,h4,h5,h6⟩
 ·have:=VD.sl (P:=P) (w:=w) (prot:=protK none (z.rows.length*row.length)) e z A 0 row (fun _ _=>undef) hrow (by rw [h0]; simp) (by omega) (by rw [h0]; intro i j hi; simp at hi) (by rw [h0]; intro i j s hi; simp at hi)
  rwa [show z.rows.length=0 from by rw [h0]; rfl] at this
 ·refine VD.sl e z _ cap row (fun i j=>arr[i*row.length+j]?.getD undef) hrow h2 h3 (fun i j hi hj=>?_) (fun i j s hi hs=>?_)
  ·obtain ⟨v,k1,k2⟩:=h6 i j _ hi (List.getElem?_eq_getElem hj)
   refine ⟨b,0,rfl,?_,?_⟩
   ·rw [k1,Nat.zero_add,cell_at h4]; exact k1
   ·show _<(if some b=some b then _ else _)
    rw [if_pos rfl,Nat.zero_add]
    have:i*row.length+row.length≤z.rows.length*row.length:=by
     rw [← Nat.succ_mul]; exact Nat.mul_le_mul_right _ hi
    omega
  ·obtain ⟨v,k1,k2⟩:=h6 i j s hi hs
   simp only [k1]
   exact k2.vd
theorem ownV_K {P:Program} {w:World} {g:G} {base:Nat} {t:Tok} {xm:Bool} {e:TypeId} {row:List S} {rows:List (List D)} {v:Value} (hf:row.all S.flat=true) (h:OwnV P w g base t xm e row rows v):∃ B,OwnK w e row rows v B∧∀ b,B=some b→base≤b:=by
 rcases h with ⟨h0,_,h2⟩ | ⟨cap,arr,E,h1,h2,⟨h3,rfl,_⟩,h4,h5,h6,h7,h8,h9,h10,h11⟩
 ·exact ⟨none,.inl ⟨rfl,h0,h2⟩,fun b hb=>by cases hb⟩
 ·refine ⟨some (g.ρ t),.inr ⟨g.ρ t,cap,arr,rfl,h1,h2,h3,h6,h7,fun i j s hi hs=>?_⟩,fun b hb=>by injection hb with hb; omega⟩
  obtain ⟨u,k1,k2⟩:=h11 i j s hi hs
  have hsf:=List.all_eq_true.1 hf s (List.mem_of_getElem? hs)
  exact ⟨u,k1,(k2.vd_flat hsf).fv hsf⟩
theorem ownK_size {w:World} {e:TypeId} {row:List S} {rows:List (List D)} {v:Value} {B:Option Nat} (h:OwnK w e row rows v B):∀ b,B=some b→b<w.heap.size:=by
 rcases h with ⟨rfl,_⟩ | ⟨b,cap,arr,rfl,_,_,_,h4,_⟩
 ·intro b hb; cases hb
 ·intro b' hb
  injection hb with hb
  subst hb
  exact lt_of_heap h4
theorem put_calls {w:World} {z:D} {u:Value} {B:Option Nat} {k v:Int} (hO:OwnK w 176 cellRow z.rows u B) (hz:cellsUp z=true) (hk:inB k 0 999=true) (hv:leI (-1) v=true) :
  Calls Tryz.prog 295 #[u,.int .i64 k,.int .i64 v] w fun ex w'=>∃ v' B',ex=.returned v'∧Below w.heap.size w w'∧OwnK w' 176 cellRow (putD z k v).rows v' B'∧∀ b,B'=some b→w.heap.size≤b:=by
 have hs:=i_putN_ok [⟨sd (.sl 176),[z]⟩,⟨ri,[.i k]⟩,⟨ri,[.i v]⟩] ⟨.one (.c (.own (0,0) true 176)),[putD z k v]⟩ (by
  have h:(cellsUp (gd [z] 0)&&inB (gd [D.i k] 0).int 0 999&&leI (-1) (gd [D.i v] 0).int)=true:=by
   show (cellsUp z&&inB k 0 999&&leI (-1) v)=true
   rw [hz,hk,hv]; rfl
  simp only [i_putNE,e3,beq_self_eq_true,Bool.and_self,cond_true,h]
  rfl)
 have hs:=(hs.n rfl).2 w (protK B (z.rows.length*2)) #[u,.int .i64 k,.int .i64 v] ⟨rfl,fun j t hj=>?_⟩ (fun b hb=>?_)
 ·refine hs.mono ?_
  rintro ex w' ⟨v',g',rfl,hR⟩
  obtain ⟨row,hr,ho⟩:=hR.val
  rw [row_cell] at hr; injection hr with hr; subst hr
  obtain ⟨B',q1,q2⟩:=ownV_K rfl ho
  exact ⟨v',B',rfl,hR.below,q1,q2⟩
 ·match j,hj with
  | 0,hj =>
   injection hj with hj; subst hj
   exact ⟨u,rfl,ownK_vd row_cell hO⟩
  | 1,hj =>
   injection hj with hj; subst hj
   exact ⟨_,rfl,VD.int .i64 (.i k)⟩
  | 2,hj =>
   injection hj with hj; subst hj
   exact ⟨_,rfl,VD.int .i64 (.i v)⟩
 ·show (if B=some b then _ else 0)=0
  rw [if_neg (fun e=>by have:=ownK_size hO b e; omega)]
theorem ownK_below {w w':World} {e:TypeId} {row:List S} {rows:List (List D)} {v:Value} {B:Option Nat} (h:OwnK w e row rows v B) (hb:Below w.heap.size w w'):OwnK w' e row rows v B:=by
 rcases h with h | ⟨b,cap,arr,h1,h2,h3,h4,h5,h6⟩
 ·exact .inl h
 ·exact .inr ⟨b,cap,arr,h1,h2,h3,h4,(hb.block b (lt_of_heap h5)).trans h5,h6⟩
theorem row_write:rowOf Tryz.prog 132=some cellRow:=by kernel_rfl
theorem vd_writes {w:World} {prot:Nat→Nat} {x:D} {v:Value} (h:VD Tryz.prog w prot (.sl 132) x v):∃ A c,v=.slice A x.rows.length c∧x.rows.length≤c∧c≤9223372036854775807 ∧
  ∀ i,i<x.rows.length→∃ b o,A=some ⟨b,o,none⟩∧w.cell? ⟨b,o+i*2,none⟩=some (.int .i64 (gd (x.rows.getD i []) 0).int)∧w.cell? ⟨b,o+i*2+1,none⟩=some (.int .i64 (gd (x.rows.getD i []) 1).int):=by
 cases h with
 | sl e d A c row u hr h1 h2 h3 h4 =>
  rw [row_write] at hr
  injection hr with hr
  subst hr
  refine ⟨A,c,rfl,h1,h2,fun i hi=>?_⟩
  obtain ⟨b,o,hA,hc,_⟩:=h3 i 0 hi (by decide)
  obtain ⟨b',o',hA',hc',_⟩:=h3 i 1 hi (by decide)
  rw [hA] at hA'
  injection hA' with hA'
  injection hA' with e1 e2 _
  subst e1 e2
  have e0:=vd_int (k:=.i64) (h4 i 0 _ hi rfl)
  have e1:=vd_int (k:=.i64) (h4 i 1 _ hi rfl)
  rw [e0] at hc
  rw [e1] at hc'
  exact ⟨b,o,hA,hc,hc'⟩
theorem arg_writes {prot:Nat→Nat} {w:World} {q:List D} {vs:Array Value} (h:ArgsV Tryz.prog prot w [⟨sd (.sl 132),q⟩] vs):∃ u,vs = #[u]∧VD Tryz.prog w prot (.sl 132) (gd q 0) u:=by
 obtain ⟨u,hu,hv⟩:=h.2 0 _ rfl
 refine ⟨u,args_at h [u] rfl fun j t u' h1 h2=>?_,hv⟩
 match j,h1 with
 | 0,h1=>rw [h2] at hu; injection hu with hu; subst hu; rfl
theorem written_calls {w:World} {prot:Nat→Nat} {z ws:D} {u v1:Value} {B:Option Nat} (hO:OwnK w 176 cellRow z.rows u B) (hz:cellsUp z=true) (hw:writesOk ws=true) (hst:∀ w'',Changed w w'' B→VD Tryz.prog w'' prot (.sl 132) ws v1) :
  Calls Tryz.prog 219 #[u,v1] w fun ex w'=>∃ v' B',ex=.returned v'∧Changed w w' B∧OwnK w' 176 cellRow (wrD z ws ws.rows.length).rows v' B'∧∀ b,B'=some b→B=some b∨w.heap.size≤b:=by
 have hl:=writes_lenU hw
 obtain ⟨A,c,rfl,hc1,hc2,_⟩:=vd_writes (hst w (Changed.refl w B))
 have HST:Hid _:=hst
 have HO:Hid _:=hO
 have HZ:Hid _:=hz
 have HW:Hid _:=hw
 clear hst hO hz hw
 go_enter Tryz.func219,Tryz.ntmps219
 go_wp2_with fail
 go_loopw [0,9] (fun v i wr=>∃ (k:Nat) (Bk:Option Nat),k≤ws.rows.length∧i=.int .i64 (k:Int)∧Hid (Changed w wr B)∧Hid (OwnK wr 176 cellRow (wrD z ws k).rows v Bk)∧Hid (∀ b,Bk=some b→B=some b∨w.heap.size≤b)) (fun _ i _=>ws.rows.length - (intOf i).toNat)
 case atStart=>exact ⟨0,B,by omega,rfl,Changed.refl w B,HO.out,fun b hb=>.inl hb⟩
 case round =>
  obtain ⟨k,Bk,hk,rfl,HC,HOk,HB⟩:=hrel
  by_cases hlt:k<ws.rows.length
  ·obtain ⟨A',c',hA',_,_,hcell⟩:=vd_writes (HST.out wr HC.out)
   injection hA' with e1 e2 e3
   subst e1 e3
   obtain ⟨b,o,rfl,c0,c1⟩:=hcell k hlt
   obtain ⟨w1,w2⟩:=writes_at HW.out hlt
   have hup:=wrD_up HZ.out HW.out k (by omega)
   have hfr:∀ x:World,Below wr.heap.size wr x→Changed w x B:=fun x hx=>HC.out.trans (Changed.of_below B hx) (fun b hb=>.inl hb)
   have hnx:wrD z ws (k+1)=putD (wrD z ws k) (gd (ws.rows.getD k []) 0).int (gd (ws.rows.getD k []) 1).int:=rfl
   generalize (gd (ws.rows.getD k []) 0).int=kk at *
   generalize (gd (ws.rows.getD k []) 1).int=vv at *
   have hcall:∀ x:World,Below wr.heap.size wr x→Calls Tryz.prog 295 #[u0,.int .i64 kk,.int .i64 vv] x fun ex w'=>∃ v' B',ex=.returned v'∧Below x.heap.size x w'∧OwnK w' 176 cellRow (putD (wrD z ws k) kk vv).rows v' B'∧∀ b,B'=some b→x.heap.size≤b:=fun x hx =>
    put_calls (ownK_below HOk.out hx) hup w1 w2
   have HCALL:Hid _:=hcall
   have HNX:Hid _:=hnx
   have HFR:Hid _:=hfr
   clear hcall hnx hfr w1 w2 hup hcell
   go_wp2_with fail
   refine (HCALL.out _ ((Below.refl _ _).alloc (Nat.le_refl _) _)).mono ?_
   rintro e w' ⟨v',B',rfl,hb',ho',hB'⟩
   have HBB:Hid _:=hb'
   have HOO:Hid _:=ho'
   have HBX:Hid _:=hB'
   clear hb' ho' hB'
   go_wp2_with fail
   go_roundw
   case rel =>
    have hA:Below wr.heap.size wr (wr.alloc (Obj.cells #[Value.int .i64 kk,Value.int .i64 vv] 132)):=(Below.refl _ _).alloc (Nat.le_refl _) _
    refine ⟨k+1,B',by omega,by go_num,HFR.out _ (hA.trans (HBB.out.mono hA.size)),by rw [HNX.out]; exact HOO.out,fun b hb=>.inr ?_⟩
    have q1:=HBX.out b hb
    have q2:=HC.out.size
    simp at q1
    omega
   case measure=>simp [intOf]; omega
  ·obtain rfl:k=ws.rows.length:=by omega
   go_wp2_with fail
   go_ret
   exact ⟨_,Bk,rfl,HC.out,HOk.out,HB.out⟩
def i_writtenKE:Ent:=(219,e2 (sd (.sl 176)) (sd (.sl 132)) fun p q=>(⟨.tup [.agg [.any]],[wrD (gd p 0) (gd q 0) (gd q 0).rows.length]⟩,cellsUp (gd p 0)&&writesOk (gd q 0)))
theorem i_writtenK_ok:EntOk Tryz.prog i_writtenKE:=e2_ok fun p q h=>by
 have h:(cellsUp (gd p 0)&&writesOk (gd q 0))=true:=h
 rw [Bool.and_eq_true] at h
 refine SoundFn.ofK rfl ⟨enters Tryz.func219 (by kernel_rfl) (by kernel_rfl),fun e x rest row he hrow hflat w prot u B vs hO hB hfr hargs hko=>?_⟩
 injection he with he hre
 injection he with he hp
 injection he with he
 injection he with he
 injection he with he
 injection he with he
 subst he hre
 have hx:gd p 0=x:=by rw [hp]; rfl
 rw [row_cell] at hrow
 injection hrow with hrow
 subst hrow
 obtain ⟨v1,rfl,hv⟩:=arg_writes (hargs w (Changed.refl w B))
 rw [hx] at h
 have:=written_calls (prot:=prot) (ws:=gd q 0) (v1:=v1) hO h.1 h.2 (fun w'' hC=>by
  obtain ⟨v2,e2,hv2⟩:=arg_writes (hargs w'' hC)
  have e2:v1=v2:=by
   have:=congrArg (fun a:Array Value=>a[0]?) e2
   simpa using this
  rw [e2]; exact hv2)
 show Calls _ _ #[u,v1] w fun ex w'=>∃ v' B',ex=.returned v'∧Changed w w' B∧OwnK w' _ _ (wrD (gd p 0) (gd q 0) (gd q 0).rows.length).rows v' B'∧_
 rw [hx]
 exact this
end Go.Proofs.YtchceahcaaibcaaGreat
namespace Go.Proofs.YtchceahcaaibcaaGreat
set_option maxRecDepth 100000
set_option maxHeartbeats 4000000
open Go.RowKit Go.Lib
def keptR (C:List D→Bool) (rows:List (List D)):List (List D):=rows.filter fun r => !C r
structure KI (C:List D→Bool) (rows rj:List (List D)) (i j:Nat):Prop where
 len:rj.length=rows.length
 lt:i<j
 le:j≤rows.length
 num:i=(keptR C (rows.take j)).length
 done:rj.take i=keptR C (rows.take j)
 rest:∀ k,j≤k→rj.getD k []=rows.getD k []
theorem own_cell_at {w:World} {rows:List (List D)} {u:Value} {b:Nat} (h:OwnK w 176 cellRow rows u (some b)) {k:Nat} (hk:k<rows.length) :
  w.cell? ⟨b,k*2,none⟩=some (.int .i64 (gd (rows.getD k []) 0).int)∧w.cell? ⟨b,k*2+1,none⟩=some (.int .i64 (gd (rows.getD k []) 1).int)∧w.frozen? ⟨b,k*2,none⟩=false∧w.frozen? ⟨b,k*2+1,none⟩=false:=by
 rcases ownK_get h with ⟨h0,_⟩ | ⟨b',cap,arr,hb,_,hle,_,hh,hs,hc⟩
 ·cases h0
 ·injection hb with hb
  subst hb
  obtain ⟨q1,q2⟩:=cellsV_get rows k hk
  exact ⟨by rw [cell_at hh]; exact hc _ _ q1,by rw [cell_at hh]; exact hc _ _ q2,unfrozen hh _,unfrozen hh _⟩
theorem own_set {w w2:World} {rj:List (List D)} {b cap n i:Nat} (h:OwnK w 176 cellRow rj (.slice (some ⟨b,0,none⟩) n cap) (some b)) (hn:rj.length=n) (hi:i<n) (hbb:w2.heap[b]?=w.heap[b]?) (r:List D) :
  OwnK (w2.setCells b (i*2) [.int .i64 (gd r 0).int,.int .i64 (gd r 1).int]) 176 cellRow (rj.set i r) (.slice (some ⟨b,0,none⟩) n cap) (some b):=by
 rcases ownK_at h with ⟨h0,_⟩ | ⟨b',cap',arr,hb,hu,hle,h63,hh,hs,hc⟩
 ·cases h0
 ·injection hb with hb
  subst hb
  injection hu with _ hu1 hu2
  subst hu2
  obtain ⟨arr',a1,a2,a3,a4⟩:=setCells_heap b 176 (0,0) [.int .i64 (gd r 0).int,.int .i64 (gd r 1).int] (i*2) w2 arr (hbb.trans hh) (by rw [hs]; show i*2+2≤_; omega)
  have hl:(rj.set i r).length=n:=by simp [hn]
  have:=ownK_cell (rows:=rj.set i r) a1 (by rw [a2,hs]) (by omega) h63 (fun k hk=>by
   rw [hl] at hk
   have hset:(rj.set i r).getD k []=if i=k then r else rj.getD k []:=by
    rw [List.getD_eq_getElem?_getD,List.getElem?_set]
    by_cases e:i=k
    ·subst e; simp [hn,hi]
    ·simp [e,List.getD_eq_getElem?_getD]
   rw [hset]
   by_cases e:i=k
   ·subst e
    rw [if_pos rfl]
    exact ⟨a4 0 _ rfl,a4 1 _ rfl⟩
   ·rw [if_neg e]
    obtain ⟨q1,q2⟩:=hc k (by omega)
    exact ⟨by rw [a3 _ (by show _∨i*2+2≤_; omega)]; exact q1,by rw [a3 _ (by show _∨i*2+2≤_; omega)]; exact q2⟩)
  rwa [hl] at this
theorem take_succ_getD {rows:List (List D)} {j:Nat} (h:j<rows.length):rows.take (j+1)=rows.take j ++ [rows.getD j []]:=by
 rw [List.take_add_one,List.getElem?_eq_getElem h,List.getD_eq_getElem?_getD,List.getElem?_eq_getElem h]
 rfl
theorem KI.keep {C:List D→Bool} {rows rj:List (List D)} {i j:Nat} (h:KI C rows rj i j) (hj:j<rows.length) (hc:C (rows.getD j [])=false):KI C rows (rj.set i (rows.getD j [])) (i+1) (j+1):=by
 have hk:keptR C (rows.take (j+1))=keptR C (rows.take j) ++ [rows.getD j []]:=by
  rw [take_succ_getD hj]
  unfold keptR
  rw [List.filter_append]
  congr 1
  simp only [List.filter_cons,hc,Bool.not_false,if_true,List.filter_nil]
 have hl:=h.len
 have hlt:=h.lt
 refine ⟨by simp [hl],by omega,by omega,by rw [hk,List.length_append,← h.num]; rfl,?_,fun k hk'=>?_⟩
 ·rw [hk,← h.done,take_succ_getD (by simp; omega)]
  congr 1
  ·rw [List.take_set_of_le (Nat.le_refl _)]
  ·rw [List.getD_eq_getElem?_getD,List.getElem?_set_self (by omega)]; rfl
 ·rw [List.getD_eq_getElem?_getD,List.getElem?_set_ne (by omega),← List.getD_eq_getElem?_getD]
  exact h.rest k (by omega)
theorem KI.skip {C:List D→Bool} {rows rj:List (List D)} {i j:Nat} (h:KI C rows rj i j) (hj:j<rows.length) (hc:C (rows.getD j [])=true):KI C rows rj i (j+1):=by
 have hk:keptR C (rows.take (j+1))=keptR C (rows.take j):=by
  rw [take_succ_getD hj]
  unfold keptR
  rw [List.filter_append]
  simp only [List.filter_cons,hc,Bool.not_true,Bool.false_eq_true,if_false,List.filter_nil,List.append_nil]
 have hlt:=h.lt
 exact ⟨h.len,by omega,by omega,by rw [hk]; exact h.num,by rw [hk]; exact h.done,fun k hk'=>h.rest k (by omega)⟩
theorem keptR_none {C:List D→Bool} {rows:List (List D)} (h:∀ k,k<rows.length→C (rows.getD k [])=false):keptR C rows=rows:=by
 unfold keptR
 rw [List.filter_eq_self]
 intro r hr
 obtain ⟨k,hk,rfl⟩:=List.getElem_of_mem hr
 have:=h k hk
 rw [List.getD_eq_getElem?_getD,List.getElem?_eq_getElem hk] at this
 simpa using this
theorem KI.start {C:List D→Bool} {rows:List (List D)} {k0:Nat} (h:k0<rows.length) (hn:∀ k,k<k0→C (rows.getD k [])=false) (hc:C (rows.getD k0 [])=true):KI C rows rows k0 (k0+1):=by
 have hkn:keptR C (rows.take k0)=rows.take k0:=keptR_none fun k hk=>by
  have hk:k<k0:=by have:=hk; simp at this; omega
  rw [List.getD_eq_getElem?_getD,List.getElem?_take,if_pos hk,← List.getD_eq_getElem?_getD]
  exact hn k hk
 have hk:keptR C (rows.take (k0+1))=rows.take k0:=by
  rw [take_succ_getD h]
  unfold keptR
  rw [List.filter_append]
  simp only [List.filter_cons,hc,Bool.not_true,Bool.false_eq_true,if_false,List.filter_nil,List.append_nil]
  exact hkn
 exact ⟨rfl,by omega,by omega,by rw [hk,List.length_take]; omega,hk.symm,fun _ _=>rfl⟩
theorem ixF_spec (C:Nat→Bool):∀ (n i:Nat),(ixF C i n = -1∧∀ k,k<n→C (i+k)=false)∨∃ k,k<n∧ixF C i n=((i+k:Nat):Int)∧C (i+k)=true∧∀ k',k'<k→C (i+k')=false
 | 0,i=>.inl ⟨rfl,fun k hk=>absurd hk (Nat.not_lt_zero _)⟩
 | n+1,i=>by
  cases h:C i with
  | true=>exact .inr ⟨0,by omega,by simp [ixF,h],h,fun k hk=>absurd hk (Nat.not_lt_zero _)⟩
  | false =>
   rcases ixF_spec C n (i+1) with ⟨e,ha⟩ | ⟨k,hk,e,ht,ha⟩
   ·refine .inl ⟨by simp [ixF,h,e],fun k hk=>?_⟩
    cases k with
    | zero=>exact h
    | succ k=>have:=ha k (by omega); rwa [show i+1+k=i+(k+1) from by omega] at this
   ·refine .inr ⟨k+1,by omega,by simp only [ixF,h]; rw [show i+(k+1)=i+1+k from by omega]; exact e,by rwa [show i+(k+1)=i+1+k from by omega],fun k' hk'=>?_⟩
    cases k' with
    | zero=>exact h
    | succ k'=>have:=ha k' (by omega); rwa [show i+1+k'=i+(k'+1) from by omega] at this
theorem run_clear3 {P:Program} (w:World) (t e ty:TypeId) (z:Value) (ht:P.underlying t=some (.slice e)) (hv:∀ w,(zeroValue e).run P w=.ok z w) (h1:∀ u∈z.cells.toList,u.oneCell'=true) (b o n c:Nat) (hn:0<n) (hs:0<z.cells.size)
  (hc:∀ j,j<n*z.cells.size→(w.cell? ⟨b,o+j,none⟩).isSome=true) (hf:∀ j,j<n*z.cells.size→w.frozen? ⟨b,o+j,none⟩=false) :
  (Builtin.clear_ #[t] ty #[.slice (some ⟨b,o,none⟩) n c]).run P w=.ok (.tuple #[]) (w.setCells b o (Builtin.zeroCells z.cells n).toList):=by
 have hsz:(Builtin.zeroCells z.cells n).toList.length=n*z.cells.size:=by simp [size_zeroCells]
 have hst:=run_storeCells_cells (P:=P) b o (Builtin.zeroCells z.cells n).toList 0 w (by rw [hsz]; simpa using hc) (by rw [hsz]; simpa using hf) (fun u hu=>by
  obtain ⟨j,hj,rfl⟩:=List.getElem_of_mem hu
  rw [hsz] at hj
  have:(Builtin.zeroCells z.cells n).toList[j]'(by rw [hsz]; exact hj)=z.cells[j % z.cells.size]'(Nat.mod_lt _ hs):=by
   have h2:j % z.cells.size<z.cells.size:=Nat.mod_lt j hs
   simp only [Builtin.zeroCells,Array.toList_map,Array.toList_range,List.getElem_map,List.getElem_range]
   exact getElem!_pos z.cells _ h2
  rw [this]
  exact h1 _ (by simp))
 obtain ⟨m,rfl⟩:∃ m,n=m+1:=⟨n - 1,by omega⟩
 simp only [Nat.add_zero] at hst
 simp [Builtin.clear_,run_underlying ht,hv,hst]
theorem delf_calls {w:World} {rows:List (List D)} {u:Value} {B:Option Nat} (hO:OwnK w 176 cellRow rows u B) (F:FuncId) (fa:Array Value) (C:List D→Bool) (hC:∀ r,C r=C [.i (gd r 0).int,.i (gd r 1).int])
  (hen:∀ vs w,(callFunc F vs).run Tryz.prog w=.ok (.enter F vs) w)
  (hix:Calls Tryz.prog 265 #[u,.func (.func F) #[] fa] w fun ex w'=>ex=.returned (.int .i64 (ixF (fun k=>C (rows.getD k [])) 0 rows.length))∧Below w.heap.size w w')
  (hdel:∀ (w'':World) (x y:Int),Changed w w'' B→Calls Tryz.prog F (#[.agg #[.int .i64 x,.int .i64 y]]++fa) w'' fun ex w'=>ex=.returned (.bool (C [.i x,.i y]))∧Below w''.heap.size w'' w') :
  Calls Tryz.prog 225 #[u,.func (.func F) #[] fa] w fun ex w'=>∃ v' B',ex=.returned v'∧Changed w w' B∧OwnK w' 176 cellRow (keptR C rows) v' B'∧∀ b,B'=some b→B=some b∨w.heap.size≤b:=by
 by_cases hno:ixF (fun k=>C (rows.getD k [])) 0 rows.length = -1
 ·rw [hno] at hix
  have hall:keptR C rows=rows:=by
   rcases ixF_spec (fun k=>C (rows.getD k [])) rows.length 0 with ⟨_,h⟩ | ⟨k,_,h,_⟩
   ·exact keptR_none fun k hk=>by have:=h k hk; rwa [Nat.zero_add] at this
   ·rw [hno] at h; omega
  rw [hall]
  have HO:Hid _:=hO
  clear hO hdel hall
  go_enter Tryz.func225,Tryz.ntmps225
  go_wp2_with fail
  refine hix.mono ?_
  rintro e w' ⟨rfl,hb⟩
  go_wp2_with fail
  go_ret
  exact ⟨u,B,rfl,Changed.of_below B hb,ownK_below HO.out hb,fun b hb=>.inl hb⟩
 ·obtain ⟨k0,hk0,hk0l,hkn,hkk⟩:∃ k0:Nat,ixF (fun k=>C (rows.getD k [])) 0 rows.length=(k0:Int)∧k0<rows.length∧(∀ k,k<k0→C (rows.getD k [])=false)∧C (rows.getD k0 [])=true:=by
   rcases ixF_spec (fun k=>C (rows.getD k [])) rows.length 0 with ⟨h,_⟩ | ⟨k,h1,h2,h3,h4⟩
   ·exact absurd h hno
   ·simp only [Nat.zero_add] at h2 h3 h4
    exact ⟨k,h2,h1,h4,h3⟩
  rw [hk0] at hix
  obtain ⟨b,cap,arr,rfl,rfl,hle,h63,hh,hs,hc⟩:∃ (b cap:Nat) (arr:Array Value),B=some b∧u=.slice (some ⟨b,0,none⟩) rows.length cap∧rows.length≤cap∧cap≤9223372036854775807∧w.heap[b]?=some (.cells arr 176 (0,0))∧arr.size=cap*2 ∧
    ∀ (k:Nat) v,(cellsV rows)[k]?=some v→arr[k]?=some v:=by
   rcases ownK_get hO with ⟨_,h0,_⟩ | h
   ·rw [h0] at hk0l; simp at hk0l
   ·exact h
  have HO:Hid _:=hO
  have HDEL:Hid _:=hdel
  have hne1:((k0:Int) == -1)=false:=beq_eq_false_iff_ne.2 (by omega)
  have HST:Hid (KI C rows rows k0 (k0+1)):=KI.start hk0l hkn hkk
  have hbw:b<w.heap.size:=lt_of_heap hh
  clear hO hdel hh hs hc hkn hkk hno hk0
  go_enter Tryz.func225,Tryz.ntmps225
  go_wp2_with fail
  refine hix.mono ?_
  rintro e w' ⟨rfl,hb⟩
  have HB0:Hid _:=hb
  clear hb
  go_wp2_with fail
  go_loopw [5,6] (fun s5 s6 wr=>∃ (i j:Nat) (rj:List (List D)),s5=.int .i64 i∧s6=.int .i64 j∧Hid (Changed w wr (some b))∧Hid (OwnK wr 176 cellRow rj (.slice (some ⟨b,0,none⟩) rows.length cap) (some b))∧Hid (KI C rows rj i j)) (fun _ s6 _=>rows.length - (intOf s6).toNat)
  case atStart=>exact ⟨k0,k0+1,rows,rfl,by go_num,Changed.of_below _ HB0.out,ownK_below HO.out HB0.out,HST.out⟩
  case round =>
   obtain ⟨i,j,rj,rfl,rfl,HC,HOW,HK⟩:=hrel
   have hij:=HK.out.lt
   have hjl:=HK.out.le
   have hrl:=HK.out.len
   by_cases hlt:j<rows.length
   ·obtain ⟨cj0,cj1,_,_⟩:=own_cell_at HOW.out (k:=j) (by omega)
    obtain ⟨ci0,ci1,fi0,fi1⟩:=own_cell_at HOW.out (k:=i) (by omega)
    have hbr:b<wr.heap.size:=by have:=HC.out.size; omega
    have hrow:(rj.getD j [])=rows.getD j []:=HK.out.rest j (Nat.le_refl _)
    rw [hrow] at cj0 cj1
    have hcall:=fun (x:World) (hx:Below wr.heap.size wr x)=>HDEL.out x (gd (rows.getD j []) 0).int (gd (rows.getD j []) 1).int (HC.out.trans (Changed.of_below _ hx) (fun b hb=>.inl hb))
    rw [← hC] at hcall
    generalize hxx:(gd (rows.getD j []) 0).int=xx at *
    generalize hyy:(gd (rows.getD j []) 1).int=yy at *
    generalize (gd (rj.getD i []) 0).int=ox at *
    generalize (gd (rj.getD i []) 1).int=oy at *
    have HX:Hid _:=hxx
    have HY:Hid _:=hyy
    have HCALL:Hid _:=hcall
    clear hxx hyy hcall hrow
    cases hq:C (rows.getD j []) with
    | false =>
     have HQ:Hid _:=hq
     rw [hq] at HCALL
     clear hq
     go_wp2_with fail
     refine (HCALL.out _ ((Below.refl _ _).alloc (Nat.le_refl _) _)).mono ?_
     rintro e w2 ⟨rfl,hb2⟩
     have hsz2:=hb2.size
     have hnew:w2.heap[wr.heap.size]?=some (.cells #[.int .i64 xx,.int .i64 yy] 176 (0,0)):=(hb2.block wr.heap.size (by simp)).trans (by letI:Low:=⟨fun _=>0⟩; exact heap_new wr _)
     have ex0:w2.cell? ⟨wr.heap.size,0,none⟩=some (.int .i64 xx):=by rw [cell_at hnew]; rfl
     have ex1:w2.cell? ⟨wr.heap.size,1,none⟩=some (.int .i64 yy):=by rw [cell_at hnew]; rfl
     clear hnew
     have hbb:w2.heap[b]?=wr.heap[b]?:=(hb2.block b (by simp; omega)).trans (Below.heap_alloc wr _ b hbr)
     have ei0:w2.cell? ⟨b,i*2,none⟩=some (.int .i64 ox):=(cell_of_heap hbb _).trans ci0
     have ei1:w2.cell? ⟨b,i*2+1,none⟩=some (.int .i64 oy):=(cell_of_heap hbb _).trans ci1
     have ef0:w2.frozen? ⟨b,i*2,none⟩=false:=by rw [← fi0]; unfold World.frozen?; simp only; rw [hbb]
     have ef1:w2.frozen? ⟨b,i*2+1,none⟩=false:=by rw [← fi1]; unfold World.frozen?; simp only; rw [hbb]
     have HB2:Hid _:=hb2
     have HBB:Hid _:=hbb
     clear hb2 hbb ci0 ci1 fi0 fi1 cj0 cj1
     go_wp2_with fail
     have hA:Below wr.heap.size wr w2:=((Below.refl _ _).alloc (Nat.le_refl _) _).trans (HB2.out.mono (by simp))
     have hrow2 : [Value.int .i64 xx,Value.int .i64 yy] = [.int .i64 (gd (rows.getD j []) 0).int,.int .i64 (gd (rows.getD j []) 1).int]:=by rw [HX.out,HY.out]
     obtain ⟨d1,d2,d3,d4,d5⟩:=setCells_else b [Value.int .i64 xx,Value.int .i64 yy] (i*2) w2
     refine ⟨⟨i+1,j+1,rj.set i (rows.getD j []),by go_num,by go_num,(show Hid _ from ?_),(show Hid _ from ?_),HK.out.keep hlt HQ.out⟩,by simp [intOf]; omega⟩
     ·exact (HC.out.trans (Changed.of_below _ hA) (fun b hb=>.inl hb)).trans ⟨d1,d2,d3,Nat.le_of_eq d4.symm,fun k hk hne=>d5 k (fun e=>hne (by rw [e]))⟩ (fun b hb=>.inl hb)
     ·have:=own_set (i:=i) HOW.out hrl (by omega) HBB.out (rows.getD j [])
      rw [← hrow2] at this
      exact this
    | true =>
     have HQ:Hid _:=hq
     rw [hq] at HCALL
     clear hq ci0 ci1 fi0 fi1
     go_wp2_with fail
     refine (HCALL.out _ ((Below.refl _ _).alloc (Nat.le_refl _) _)).mono ?_
     rintro e w2 ⟨rfl,hb2⟩
     have HB2:Hid _:=hb2
     clear hb2 cj0 cj1
     go_wp2_with fail
     have hA:Below wr.heap.size wr w2:=((Below.refl _ _).alloc (Nat.le_refl _) _).trans (HB2.out.mono (by simp))
     exact ⟨⟨i,j+1,rj,rfl,by go_num,HC.out.trans (Changed.of_below _ hA) (fun b hb=>.inl hb),ownK_below HOW.out hA,HK.out.skip hlt HQ.out⟩,by simp [intOf]; omega⟩
   ·obtain rfl:j=rows.length:=by omega
    have hcells:∀ k,k<rows.length*2→(wr.cell? ⟨b,k,none⟩).isSome=true∧wr.frozen? ⟨b,k,none⟩=false:=fun k hk=>by
     obtain ⟨q1,q2,q3,q4⟩:=own_cell_at HOW.out (k:=k / 2) (by omega)
     rcases Nat.mod_two_eq_zero_or_one k with hm | hm
     ·rw [show k / 2*2=k from by omega] at q1 q3
      exact ⟨by rw [q1]; rfl,q3⟩
     ·rw [show k / 2*2+1=k from by omega] at q2 q4
      exact ⟨by rw [q2]; rfl,q4⟩
    have hzs:H.zc.cells.size=2:=rfl
    have hcl:∀ ty,(Builtin.clear_ #[41] ty #[.slice (some ⟨b,i*2,none⟩) (rows.length - i) (cap - i)]).run Tryz.prog wr=.ok (.tuple #[]) (wr.setCells b (i*2) (Builtin.zeroCells H.zc.cells (rows.length - i)).toList):=fun ty =>
     run_clear3 wr _ _ ty H.zc Tryz.underlying41 H.zc_run (fun u hu=>by simp [Value.cells] at hu; subst hu; rfl) b (i*2) _ _ (by omega) (by decide)
      (fun k hk=>(hcells (i*2+k) (by rw [hzs] at hk; omega)).1) (fun k hk=>(hcells (i*2+k) (by rw [hzs] at hk; omega)).2)
    have HCL:Hid _:=hcl
    have b1:i≤cap:=by omega
    have b2:i≤rows.length:=by omega
    have b3:¬ (cap=i):=by omega
    clear hcells hzs
    go_wp2
    go_ret
    have hfin:keptR C rows=rj.take i:=by
     have:=HK.out.done
     rw [List.take_of_length_le (Nat.le_refl _)] at this
     exact this.symm
    rw [hfin]
    obtain ⟨d1,d2,d3,d4,d5⟩:=setCells_else b (Builtin.zeroCells H.zc.cells (rows.length - i)).toList (i*2) wr
    refine ⟨_,some b,rfl,HC.out.trans ⟨d1,d2,d3,Nat.le_of_eq d4.symm,fun k hk hne=>d5 k (fun e=>hne (by rw [e]))⟩ (fun b hb=>.inl hb),?_,fun b hb=>.inl hb⟩
    rcases ownK_at HOW.out with ⟨h0,_⟩ | ⟨b',cap',arr',hb,hu,hle',h63',hh',hs',hc'⟩
    ·cases h0
    ·injection hb with hb
     subst hb
     injection hu with _ _ hu2
     subst hu2
     obtain ⟨arr2,a1,a2,a3,a4⟩:=setCells_heap b 176 (0,0) (Builtin.zeroCells H.zc.cells (rows.length - i)).toList (i*2) wr arr' hh' (by
      have:(Builtin.zeroCells H.zc.cells (rows.length - i)).toList.length=(rows.length - i)*2:=by simp [size_zeroCells,show H.zc.cells.size=2 from rfl]
      rw [this,hs']; omega)
     have hl:(rj.take i).length=i:=by rw [List.length_take]; omega
     have:=ownK_cell (rows:=rj.take i) a1 (by rw [a2,hs']) (by omega) h63' (fun k hk=>by
      rw [hl] at hk
      rw [List.getD_eq_getElem?_getD,List.getElem?_take,if_pos hk,← List.getD_eq_getElem?_getD]
      obtain ⟨q1,q2⟩:=hc' k (by omega)
      exact ⟨by rw [a3 _ (.inl (by omega))]; exact q1,by rw [a3 _ (.inl (by omega))]; exact q2⟩)
     rwa [hl] at this
def keptJR (x c:D):D:=.l (keptR (fun r=>ixfJRC c (sub r 0 2)) x.rows)
def i_delfJRE:Ent:=(225,e2 (sd (.sl 176)) (.one (.c (.fn 226 [.cptr [si,si] 0]))) fun p q=>(⟨.tup [.agg [.any]],[keptJR (gd p 0) (gd q 0)]⟩,true))
theorem i_delfJR_ok:EntOk Tryz.prog i_delfJRE:=e2_ok fun p q h=>by
 refine SoundFn.ofK rfl ⟨enters Tryz.func225 (by kernel_rfl) (by kernel_rfl),fun e x rest row he hrow hflat w prot u B vs hO hB hfr hargs hko=>?_⟩
 injection he with he hre
 injection he with he hp
 injection he with he
 injection he with he
 injection he with he
 injection he with he
 subst he hre
 have hx:gd p 0=x:=by rw [hp]; rfl
 rw [row_cell] at hrow
 injection hrow with hrow
 subst hrow
 obtain ⟨f0,hf0,fa,hfe,hfs,hfc⟩:∃ f0,vs = #[f0]∧∃ fa:Array Value,f0=.func (.func 226) #[] fa∧fa.size=1∧∀ w'',Changed w w'' B→∃ z,fa[0]?=some z∧CptrV Tryz.prog w'' (g0 prot) w''.heap.size [si,si] 0 (gd ((gd q 0).rows.getD 0 []) 0) z:=by
  have hg:=fun w'' (hC:Changed w w'' B)=>(hargs w'' hC).2 0 _ rfl
  obtain ⟨f0,h1,fa,h2,h3,h4⟩:=hg w (Changed.refl w B)
  refine ⟨f0,args_at (hargs w (Changed.refl w B)) [f0] rfl fun j t u' hj hu=>?_,fa,h2,h3,fun w'' hC=>?_⟩
  ·match j,hj with
   | 0,_=>rw [h1] at hu; injection hu with hu; rw [← hu]; rfl
  ·obtain ⟨f1,k1,fb,k2,k3,k4⟩:=hg w'' hC
   rw [h1] at k1; injection k1 with k1
   subst k1
   rw [h2] at k2
   injection k2 with _ _ k2
   subst k2
   exact k4 0 _ rfl
 subst hf0 hfe
 let C:List D→Bool:=fun r=>ixfJRC (gd q 0) (sub r 0 2)
 have hcap:∀ w'' prot',Changed w w'' B→∃ z,fa[0]?=some z∧CptrV Tryz.prog w'' (g0 prot') w''.heap.size [si,si] 0 (gd ((gd q 0).rows.getD 0 []) 0) z:=by
  intro w'' prot' hC
  obtain ⟨z,h1,b,o,h2,h3,h4⟩:=hfc w'' hC
  refine ⟨z,h1,b,o,h2,h3,fun j s hs=>?_⟩
  obtain ⟨u',k1,k2⟩:=h4 j s hs
  have hsi:s=si:=by
   match j,hs with
   | 0,hs=>injection hs with hs; exact hs.symm
   | 1,hs=>injection hs with hs; exact hs.symm
  subst hsi
  exact ⟨u',k1,by cases k2; exact .int _ _⟩
 have hfa:fa.toList.length=1:=by simpa using hfs
 have hmain:=delf_calls hO 226 fa C (fun r=>rfl) (enters Tryz.func226) ?_ ?_
 ·show Calls _ _ #[u,.func (.func 226) #[] fa] w fun ex w'=>∃ v' B',ex=.returned v'∧Changed w w' B∧OwnK w' _ _ (keptR C (gd p 0).rows) v' B'∧_
  rw [hx]
  exact hmain
 ·-- the search
  have hs:=ixfJR_ok [⟨sd (.sl 176),[x]⟩,⟨.one (.c (.fn 226 [.cptr [si,si] 0])),q⟩] ⟨ri,[.i (ixF (fun k=>C (x.rows.getD k [])) 0 x.rows.length)]⟩ rfl
  have hs:=(hs.n rfl).2 w (fun b=>if B=some b then x.rows.length*2 else prot b) #[u,.func (.func 226) #[] fa] ⟨rfl,fun j t hj=>?_⟩ (fun b hb=>?_)
  ·refine hs.mono ?_
   rintro ex w' ⟨v',g',rfl,hR⟩
   have hv:VD Tryz.prog w' g'.prot (.int .i64) (.i (ixF (fun k=>C (x.rows.getD k [])) 0 x.rows.length)) v':=hR.val
   cases hv
   exact ⟨rfl,hR.below⟩
  ·match j,hj with
   | 0,hj =>
    injection hj with hj; subst hj
    refine ⟨u,rfl,?_⟩
    have:=ownK_vd (P:=Tryz.prog) (z:=x) row_cell hO
    exact this.mono fun b o z h1 h2=>⟨h2,by
     change o<(if B=some b then x.rows.length*2 else 0) at h1
     show o<(if B=some b then x.rows.length*2 else prot b)
     split at h1
     ·rw [if_pos ‹_›]; exact h1
     ·omega⟩
   | 1,hj =>
    injection hj with hj; subst hj
    refine ⟨_,rfl,fa,rfl,hfs,fun j c hc=>?_⟩
    match j,hc with
    | 0,hc =>
     injection hc with hc; subst hc
     exact hcap w _ (Changed.refl w B)
  ·show (if B=some b then _ else prot b)=0
   rw [if_neg (fun e=>by have:=ownK_size hO b e; omega)]
   exact hfr b hb
 ·intro w'' a c hC
  have hs:=i_JudgeReads_1_ok [⟨ag rICell,[.i a,.i c]⟩,⟨.one (.c (.cptr [si,si] 0)),[gd ((gd q 0).rows.getD 0 []) 0]⟩] ⟨rb,[.b (C [.i a,.i c])]⟩ rfl
  have hs:=(hs.n rfl).2 w'' (fun _=>0) (#[.agg #[.int .i64 a,.int .i64 c]]++fa) ⟨by rw [Array.size_append,hfs]; rfl,fun j t hj=>?_⟩ (fun b hb=>rfl)
  ·refine hs.mono ?_
   rintro ex w' ⟨v',g',rfl,hR⟩
   have hv:VD Tryz.prog w' g'.prot .bool (.b (C [.i a,.i c])) v':=hR.val
   cases hv
   exact ⟨rfl,hR.below⟩
  ·match j,hj with
   | 0,hj =>
    injection hj with hj; subst hj
    refine ⟨.agg #[.int .i64 a,.int .i64 c],Array.getElem?_append_left (xs:= #[Value.agg #[.int .i64 a,.int .i64 c]]) (i:=0) (by show 0<1; omega),#[.int .i64 a,.int .i64 c],rfl,rfl,fun j cc hcc=>?_⟩
    match j,hcc with
    | 0,hcc=>injection hcc with hcc; subst hcc; exact ⟨_,rfl,.int .i64 (.i a)⟩
    | 1,hcc=>injection hcc with hcc; subst hcc; exact ⟨_,rfl,.int .i64 (.i c)⟩
   | 1,hj =>
    injection hj with hj; subst hj
    obtain ⟨z,h1,h2⟩:=hcap w'' (fun _=>0) hC
    refine ⟨z,?_,h2⟩
    exact (Array.getElem?_append_right (xs:= #[Value.agg #[.int .i64 a,.int .i64 c]]) (i:=1) (Nat.le_refl _)).trans h1
end Go.Proofs.YtchceahcaaibcaaGreat
namespace Go.Proofs.YtchceahcaaibcaaGreat
set_option maxRecDepth 4096
set_option maxHeartbeats 1000000
abbrev i_JudgeBeforeOT:FuncId→List T→Option (T × Bool):=find [i_CoordOkE,i_writtenKE]
theorem i_JudgeBeforeOT_ok:CallOk Tryz.prog i_JudgeBeforeOT:=find_ok (fC ⟨i_CoordOk_ok,fC ⟨i_writtenK_ok,fN⟩⟩)
abbrev i_JudgeBeforeOK:List Nat:= [0,1,2,4,5,7,9,13,16,17,18,19,24,31,32,33,34]
noncomputable def i_JudgeBeforeOL0 (N:Nat) (p q:List D):List D→Out:=loopOf Tryz.prog i_JudgeBeforeOT N i_JudgeBeforeOK Tryz.f110 (.one (.c (.own (0,0) true 176))) [⟨ag rICoord,p⟩,⟨ri,q⟩] 0
noncomputable def i_JudgeBeforeOL2 (N:Nat) (p q:List D):List D→Out:=loopOf Tryz.prog i_JudgeBeforeOT N i_JudgeBeforeOK Tryz.f110 (.one (.c (.own (0,0) true 176))) [⟨ag rICoord,p⟩,⟨ri,q⟩] 2
theorem i_JudgeBeforeOR0 (N:Nat) (p q:List D) (x0 x1 x2 x3 x4 x5 x6 x7 x8 x9 x10 x11:D):(i_JudgeBeforeOL0 N p q) [x0,x1,x2,x3,x4,x5,x6,x7,x8,x9,x10,x11] =
 bif ltI x9.int x8.int then nd (inRange x9.int x7.rows.length) (bif (gd (x7.rows.getD x9.int.toNat []) 0).int==x2.int then ex 0 [x0,x1,x2,x3,x4,x5,x6,x7,x8,x9,x10,x11]
 else nd (inRange (w64 ((gd (x7.rows.getD x9.int.toNat []) 0).int - 1)) x10.rows.length) ((let o2:=iter (i_JudgeBeforeOL2 N p q) N [x0,x1,x2,x3,x4,x5,x6,x7,x8,x9,.b (ltI x9.int x8.int),gd (x7.rows.getD x9.int.toNat []) 0,.b ((gd (x7.rows.getD x9.int.toNat []) 0).int==x2.int),gd (x10.rows.getD (w64 ((gd (x7.rows.getD x9.int.toNat []) 0).int - 1)).toNat []) 4,.i ((gd (x10.rows.getD (w64 ((gd (x7.rows.getD x9.int.toNat []) 0).int - 1)).toNat []) 4).rows.length:Int),.i 0,x10,x11]
  nd o2.isSome (nd (o2.code==4) (nx [gd o2.pay 0,gd o2.pay 1,gd o2.pay 2,gd o2.pay 3,gd o2.pay 4,gd o2.pay 5,gd o2.pay 6,gd o2.pay 7,gd o2.pay 8,.i (w64 ((gd o2.pay 9).int+1)),gd o2.pay 16,gd o2.pay 17])))))
 else ex 0 [x0,x1,x2,x3,x4,x5,x6,x7,x8,x9,x10,x11]:=by kernel_rfl
theorem i_JudgeBeforeOR2 (N:Nat) (p q:List D) (x0 x1 x2 x3 x4 x5 x6 x7 x8 x9 x10 x11 x12 x13 x14 x15 x16 x17:D):(i_JudgeBeforeOL2 N p q) [x0,x1,x2,x3,x4,x5,x6,x7,x8,x9,x10,x11,x12,x13,x14,x15,x16,x17] =
 bif ltI x15.int x14.int then nd (inRange x15.int x13.rows.length) (nd (cellsUp x5&&writesOk (gd (x13.rows.getD x15.int.toNat []) 2)) (nx [x0,x1,x2,x3,x4,wrD x5 (gd (x13.rows.getD x15.int.toNat []) 2) (gd (x13.rows.getD x15.int.toNat []) 2).rows.length,x6,x7,x8,x9,x10,x11,x12,x13,x14,.i (w64 (x15.int+1)),x16,x17]))
 else ex 2 [x0,x1,x2,x3,x4,x5,x6,x7,x8,x9,x10,x11,x12,x13,x14,x15,x16,x17]:=by kernel_rfl
theorem i_JudgeBeforeO_ev (N:Nat) (p q:List D):evFn Tryz.prog i_JudgeBeforeOT N i_JudgeBeforeOK Tryz.f110 (.one (.c (.own (0,0) true 176))) [⟨ag rICoord,p⟩,⟨ri,q⟩]=some (bo,
 bif !(coordOk (sub p 0 2)) then some (1,[.l []])
 else (let o0:=iter (i_JudgeBeforeOL0 N p q) N [gd p 0,gd p 1,gd q 0,.i 0,.l [],.l [],.b (!(coordOk (sub p 0 2))),gd p 1,.i ((gd p 1).rows.length:Int),.i 0,gd p 0,gd p 1]
  nd o0.isSome (nd (o0.code==2) (some (1,[gd o0.pay 5]))))):=by kernel_rfl
def i_JudgeBeforeOE:Ent:=(110,e2 (ag rICoord) ri fun p q=>(⟨.one (.c (.own (0,0) true 176)),[(bif coordOk p then befD p (gd q 0).int else .l [])]⟩,true))
theorem i_JudgeBeforeO_ok:EntOk Tryz.prog i_JudgeBeforeOE:=e2_ok fun p q h=>evFn_sound (N:=(gd p 1).rows.length+6) (ks:=i_JudgeBeforeOK) (key:=bo) i_JudgeBeforeOT_ok (enters Tryz.func110) Tryz.func110 fun hw=>by
 rw [i_JudgeBeforeO_ev]
 rw [show coordOk (sub p 0 2)=coordOk p from rfl]
 cases h:coordOk p with
 | false=>rfl
 | true =>
 have hb:=befW h
 have hr:=hb.rl
 have hol:=hb.ol
 have e:=stop_loop (L:=i_JudgeBeforeOL0 ((gd p 1).rows.length+6) p q) (st:=fun k => [gd p 0,gd p 1,gd q 0,.i 0,.l [],befN (gd p 0) (gd p 1) k,.b false,gd p 1,.i ((gd p 1).rows.length:Int),.i (k:Int),gd p 0,gd p 1]) (n:=(gd p 1).rows.length) (fun k=>vAt (gd p 1) k==(gd q 0).int) 0 (fun k hk=>?_) ?_ (gd p 1).rows.length 0 ((gd p 1).rows.length+6) (by omega) (by omega)
 ·simp only [Int.natCast_zero] at e
  rw [show befN (gd p 0) (gd p 1) 0=.l [] from rfl] at e
  simp only [Bool.not_true,cond_false]
  rw [e]
  rfl
 ·show i_JudgeBeforeOL0 _ p q [_,_,_,_,_,_,_,_,_,.i (k:Int),_,_]=_
  rw [i_JudgeBeforeOR0]
  obtain ⟨o1,o2⟩:=hb.ord k hk
  have hsh:=hb.sh k hk
  have hsl:=shares_len hsh
  have hz:=befN_up hb k (by omega)
  have ev:(gd ((gd p 1).rows.getD k []) 0).int=vAt (gd p 1) k:=rfl
  have ew:w64 (vAt (gd p 1) k - 1)=((vAt (gd p 1) k - 1).toNat:Int):=by rw [w64_id (by omega) (by omega)]; omega
  have hlt:(vAt (gd p 1) k - 1).toNat<(gd p 0).rows.length:=by omega
  simp only [int_i,c_lt hk,nd_ix hk,Int.toNat_natCast,ev,ew,nd_ix hlt,ltI_nat hk]
  cases vAt (gd p 1) k==(gd q 0).int with
  | true=>rfl
  | false =>
   simp only [cond_false]
   have e2:=run_loop (L:=i_JudgeBeforeOL2 ((gd p 1).rows.length+6) p q) (fun j => [gd p 0,gd p 1,gd q 0,.i 0,.l [],doneD (befN (gd p 0) (gd p 1) k) (shOf (gd p 0) (gd p 1) k) j,.b false,gd p 1,.i ((gd p 1).rows.length:Int),.i (k:Int),.b true,gd ((gd p 1).rows.getD k []) 0,.b false,shOf (gd p 0) (gd p 1) k,.i ((shOf (gd p 0) (gd p 1) k).rows.length:Int),.i (j:Int),gd p 0,gd p 1]) (shOf (gd p 0) (gd p 1) k).rows.length 2 (fun j hj=>?_) ?_ (N:=(gd p 1).rows.length+6) (by omega)
   ·simp only [Int.natCast_zero] at e2
    rw [show doneD (befN (gd p 0) (gd p 1) k) (shOf (gd p 0) (gd p 1) k) 0=befN (gd p 0) (gd p 1) k from rfl] at e2
    rw [e2]
    simp only [nd,cond_true,cond_false,Option.isSome_some,Out.code,Out.pay,Option.getD_some,gd_cons_zero,gd_cons_succ,Nat.reduceBEq,Nat.reduceAdd,int_i,bool_b,str_s,rows_l,Bool.not_true,Bool.not_false,beq_self_eq_true,w64_succ hk (show (gd p 1).rows.length≤9223372036854775807 from by omega)]
    rfl
   ·show i_JudgeBeforeOL2 _ p q [_,_,_,_,_,_,_,_,_,_,_,_,_,_,_,.i (j:Int),_,_]=_
    rw [i_JudgeBeforeOR2]
    simp only [int_i,c_lt hj,nd_ix hj,Int.toNat_natCast,doneD_up hz hsh j (by omega),shares_ws hsh hj,Bool.and_true,nd_true,w64_succ hj (show (shOf (gd p 0) (gd p 1) k).rows.length≤9223372036854775807 from by omega)]
    rfl
   ·show i_JudgeBeforeOL2 _ p q [_,_,_,_,_,_,_,_,_,_,_,_,_,_,_,.i ((shOf (gd p 0) (gd p 1) k).rows.length:Int),_,_]=_
    rw [i_JudgeBeforeOR2]
    simp only [int_i,c_nlt]
 ·show i_JudgeBeforeOL0 _ p q [_,_,_,_,_,_,_,_,_,.i ((gd p 1).rows.length:Int),_,_]=_
  rw [i_JudgeBeforeOR0]
  simp only [int_i,c_nlt]
end Go.Proofs.YtchceahcaaibcaaGreat
namespace Go.Proofs.YtchceahcaaibcaaGreat
set_option maxRecDepth 4096
set_option maxHeartbeats 1000000
abbrev i_JudgeReadsT:FuncId→List T→Option (T × Bool):=find [i_judgedE,coIE,i_JudgeBeforeOE,i_delfJRE,i_EqCE]
theorem i_JudgeReadsT_ok:CallOk Tryz.prog i_JudgeReadsT:=find_ok (fC ⟨i_judged_ok,fC ⟨coI_ok,fC ⟨i_JudgeBeforeO_ok,fC ⟨i_delfJR_ok,fC ⟨i_EqC_ok,fN⟩⟩⟩⟩⟩)
abbrev i_JudgeReadsK:List Nat:= [0,1,2,4,6,7,8,12,13,14,15,16,29,45]
noncomputable def i_JudgeReadsL0 (N:Nat) (p q:List D):List D→Out:=loopOf Tryz.prog i_JudgeReadsT N i_JudgeReadsK Tryz.f115 rb [⟨ag rICoord,p⟩,⟨sd (.sl 88),q⟩] 0
theorem i_JudgeReadsR0 (N:Nat) (p q:List D) (x0 x1 x2 x3 x4 x5 x6 x7 x8 x9 x10:D):(i_JudgeReadsL0 N p q) [x0,x1,x2,x3,x4,x5,x6,x7,x8,x9,x10] =
 bif ltI x8.int x7.int then nd (inRange x8.int x6.rows.length) (bif (gd (x6.rows.getD x8.int.toNat []) 0).int != 2 then nx [x0,x1,x2,x3,x4,x5,x6,x7,.i (w64 (x8.int+1)),x9,x10]
 else bif !(hasInt x10 (gd (x6.rows.getD x8.int.toNat []) 2).int) then nx [x0,x1,x2,x3,x4,x5,x6,x7,.i (w64 (x8.int+1)),x9,x10]
 else bif !(sameC (keptJR (bif coordOk [x9,x10] then befD [x9,x10] (gd (x6.rows.getD x8.int.toNat []) 2).int else .l []) (.l [[.l [sub (x6.rows.getD x8.int.toNat []) 3 2]]])) (gd (x6.rows.getD x8.int.toNat []) 5)) then ob false
 else nx [x0,x1,x2,x3,x4,x5,x6,x7,.i (w64 (x8.int+1)),x9,x10])
 else ex 0 [x0,x1,x2,x3,x4,x5,x6,x7,x8,x9,x10]:=by kernel_rfl
theorem i_JudgeReads_ev (N:Nat) (p q:List D):evFn Tryz.prog i_JudgeReadsT N i_JudgeReadsK Tryz.f115 rb [⟨ag rICoord,p⟩,⟨sd (.sl 88),q⟩]=some (bo,
 bif !(judged (sub p 0 2) (gd q 0)) then ob false
 else (let o0:=iter (i_JudgeReadsL0 N p q) N [gd p 0,gd p 1,gd q 0,.i 0,.i 0,.b (!(judged (sub p 0 2) (gd q 0))),gd q 0,.i ((gd q 0).rows.length:Int),.i 0,gd p 0,gd p 1]
  nd o0.isSome (bif o0.code==1 then some (1,o0.pay)
  else nd (o0.code==2) (ob true)))):=by kernel_rfl
def keepI (all:D) (ev:List D):D:=keptJR all (.l [[.l [sub ev 3 2]]])
def readI (p:List D) (z:D) (k:Nat):Bool:=bif (gd (z.rows.getD k []) 0).int==2&&hasInt (gd p 1) (gd (z.rows.getD k []) 2).int then sameC (keepI (befD p (gd (z.rows.getD k []) 2).int) (z.rows.getD k [])) (gd (z.rows.getD k []) 5) else true
def judgeReadsI (p:List D) (z:D):Bool:=judged p z&&(List.range z.rows.length).all (readI p z)
def i_JudgeReadsE:Ent:=(115,e2 (ag rICoord) (sd (.sl 88)) fun p q=>(⟨rb,[.b (judgeReadsI p (gd q 0))]⟩,true))
theorem i_JudgeReads_ok:EntOk Tryz.prog i_JudgeReadsE:=e2_ok fun p q h=>evFn_sound (N:=201) (ks:=i_JudgeReadsK) (key:=bo) i_JudgeReadsT_ok (enters Tryz.func115) Tryz.func115 fun hw=>by
 rw [i_JudgeReads_ev]
 rw [show judged (sub p 0 2) (gd q 0)=judged p (gd q 0) from rfl]
 unfold judgeReadsI
 cases hj:judged p (gd q 0)
 ·rfl
 ·have hj':=hj
  simp only [judged,leI,Bool.and_eq_true,decide_eq_true_eq] at hj'
  obtain ⟨hco,hl⟩:=hj'
  have h200:(gd q 0).rows.length≤200:=by omega
  have e0:=for_loop (L:=i_JudgeReadsL0 201 p q) (fun k => [gd p 0,gd p 1,gd q 0,.i 0,.i 0,.b false,gd q 0,.i ((gd q 0).rows.length:Int),.i (k:Int),gd p 0,gd p 1]) (gd q 0).rows.length (readI p (gd q 0)) [.b false] 0 (fun k hk=>?_) ?_ (N:=201) (by omega)
  ·simp only [Int.natCast_zero] at e0
   simp only [Bool.not_true,cond_false,e0,Bool.true_and]
   cases (List.range (gd q 0).rows.length).all (readI p (gd q 0)) <;> rfl
  ·show i_JudgeReadsL0 _ p q [_,_,_,_,_,_,_,_,.i (k:Int),_,_]=_
   rw [i_JudgeReadsR0]
   have e1:coordOk [gd p 0,gd p 1]=true:=hco
   simp only [int_i,c_lt hk,nd_ix hk,w64_succ hk (show (gd q 0).rows.length≤9223372036854775807 from by omega),Int.toNat_natCast,bne_not,e1,cond_true]
   unfold readI
   rw [show keptJR (befD [gd p 0,gd p 1] (gd ((gd q 0).rows.getD k []) 2).int) (.l [[.l [sub ((gd q 0).rows.getD k []) 3 2]]])=keepI (befD p (gd ((gd q 0).rows.getD k []) 2).int) ((gd q 0).rows.getD k []) from rfl]
   cases (gd ((gd q 0).rows.getD k []) 0).int==2 <;> cases hasInt (gd p 1) (gd ((gd q 0).rows.getD k []) 2).int <;> cases sameC (keepI (befD p (gd ((gd q 0).rows.getD k []) 2).int) ((gd q 0).rows.getD k [])) (gd ((gd q 0).rows.getD k []) 5) <;> rfl
  ·show i_JudgeReadsL0 _ p q [_,_,_,_,_,_,_,.i ((gd q 0).rows.length:Int),.i ((gd q 0).rows.length:Int),_,_]=_
   rw [i_JudgeReadsR0]
   simp only [int_i,c_nlt]
abbrev s_JudgeReadsT:FuncId→List T→Option (T × Bool):=find [s_l17RightE,s_l17SameE,s_l17DoneE]
theorem s_JudgeReadsT_ok:CallOk Tryz.prog s_JudgeReadsT:=find_ok (fC ⟨s_l17Right_ok,fC ⟨s_l17Same_ok,fC ⟨s_l17Done_ok,fN⟩⟩⟩)
abbrev s_JudgeReadsK:List Nat:= [0,1,2,4,5,6,7,8,9,10,14,20,26,45,50,70,82,4000005]
noncomputable def s_JudgeReadsL0 (N:Nat) (p q:List D):List D→Out:=loopOf Tryz.prog s_JudgeReadsT N s_JudgeReadsK Tryz.f112 rb [⟨ag rICoord,p⟩,⟨sd (.sl 88),q⟩] 0
noncomputable def s_JudgeReadsL2 (N:Nat) (p q:List D):List D→Out:=loopOf Tryz.prog s_JudgeReadsT N s_JudgeReadsK Tryz.f112 rb [⟨ag rICoord,p⟩,⟨sd (.sl 88),q⟩] 2
noncomputable def s_JudgeReadsL4 (N:Nat) (p q:List D):List D→Out:=loopOf Tryz.prog s_JudgeReadsT N s_JudgeReadsK Tryz.f112 rb [⟨ag rICoord,p⟩,⟨sd (.sl 88),q⟩] 4
theorem s_JudgeReadsR0 (N:Nat) (p q:List D) (x0 x1 x2 x3 x4 x5 x6 x7 x8 x9:D):(s_JudgeReadsL0 N p q) [x0,x1,x2,x3,x4,x5,x6,x7,x8,x9] =
 bif ltI x7.int (x9.rows.length:Int) then (let o2:=iter (s_JudgeReadsL2 N p q) N [x0,x1,x2,x3,x4,x5,x6,x7,.b (ltI x7.int (x9.rows.length:Int)),.i 0,x8,x9]
  nd o2.isSome (bif o2.code==1 then some (1,o2.pay)
  else nd (o2.code==4) (nd (inRange (gd o2.pay 7).int (gd o2.pay 11).rows.length) (nd (inRange (w64 ((gd ((gd o2.pay 11).rows.getD (gd o2.pay 7).int.toNat []) 0).int - 1)) (gd o2.pay 10).rows.length) (nd (cellsUp (gd o2.pay 6)&&sharesOk (gd ((gd o2.pay 10).rows.getD (w64 ((gd ((gd o2.pay 11).rows.getD (gd o2.pay 7).int.toNat []) 0).int - 1)).toNat []) 4)) (nx [gd o2.pay 0,gd o2.pay 1,gd o2.pay 2,gd o2.pay 3,gd o2.pay 4,gd o2.pay 5,doneD (gd o2.pay 6) (gd ((gd o2.pay 10).rows.getD (w64 ((gd ((gd o2.pay 11).rows.getD (gd o2.pay 7).int.toNat []) 0).int - 1)).toNat []) 4) (gd ((gd o2.pay 10).rows.getD (w64 ((gd ((gd o2.pay 11).rows.getD (gd o2.pay 7).int.toNat []) 0).int - 1)).toNat []) 4).rows.length,.i (w64 ((gd o2.pay 7).int+1)),gd o2.pay 10,gd o2.pay 11]))))))
 else ex 0 [x0,x1,x2,x3,x4,x5,x6,x7,x8,x9]:=by kernel_rfl
theorem s_JudgeReadsR2 (N:Nat) (p q:List D) (x0 x1 x2 x3 x4 x5 x6 x7 x8 x9 x10 x11:D):(s_JudgeReadsL2 N p q) [x0,x1,x2,x3,x4,x5,x6,x7,x8,x9,x10,x11] =
 bif ltI x9.int (x2.rows.length:Int) then nd (inRange x9.int x2.rows.length) (bif (gd (x2.rows.getD x9.int.toNat []) 0).int != 2 then nx [x0,x1,x2,x3,x4,x5,x6,x7,x8,.i (w64 (x9.int+1)),x10,x11]
 else nd (inRange x7.int x11.rows.length) (bif (gd (x2.rows.getD x9.int.toNat []) 2).int != (gd (x11.rows.getD x7.int.toNat []) 0).int then nx [x0,x1,x2,x3,x4,x5,x6,x7,x8,.i (w64 (x9.int+1)),x10,x11]
 else (let o4:=iter (s_JudgeReadsL4 N p q) N [x0,x1,x2,x3,x4,x5,x6,x7,x8,x9,.b (ltI x9.int (x2.rows.length:Int)),.i 0,.b ((gd (x2.rows.getD x9.int.toNat []) 2).int != (gd (x11.rows.getD x7.int.toNat []) 0).int),.l [],.i 0,x10,x11,gd (x2.rows.getD x9.int.toNat []) 0,gd (x2.rows.getD x9.int.toNat []) 1,gd (x2.rows.getD x9.int.toNat []) 2,gd (x2.rows.getD x9.int.toNat []) 3,gd (x2.rows.getD x9.int.toNat []) 4,gd (x2.rows.getD x9.int.toNat []) 5,gd (x2.rows.getD x9.int.toNat []) 6]
  nd o4.isSome (nd (o4.code==6) (bif !(sameC (gd o4.pay 13) (gd o4.pay 22)) then ob false
  else nx [gd o4.pay 0,gd o4.pay 1,gd o4.pay 2,gd o4.pay 3,gd o4.pay 4,gd o4.pay 5,gd o4.pay 6,gd o4.pay 7,gd o4.pay 8,.i (w64 ((gd o4.pay 9).int+1)),gd o4.pay 15,gd o4.pay 16])))))
 else ex 2 [x0,x1,x2,x3,x4,x5,x6,x7,x8,x9,x10,x11]:=by kernel_rfl
theorem s_JudgeReadsR4 (N:Nat) (p q:List D) (x0 x1 x2 x3 x4 x5 x6 x7 x8 x9 x10 x11 x12 x13 x14 x15 x16 x17 x18 x19 x20 x21 x22 x23:D):(s_JudgeReadsL4 N p q) [x0,x1,x2,x3,x4,x5,x6,x7,x8,x9,x10,x11,x12,x13,x14,x15,x16,x17,x18,x19,x20,x21,x22,x23] =
 bif ltI x14.int (x6.rows.length:Int) then nd (inRange x14.int x6.rows.length) (bif leI x20.int (gd (x6.rows.getD x14.int.toNat []) 0).int then nd (inRange x14.int x6.rows.length) (bif ltI (gd (x6.rows.getD x14.int.toNat []) 0).int x21.int then nd (inRange x14.int x6.rows.length) (nd (lenOk (x13.rows ++ [sub (x6.rows.getD x14.int.toNat []) 0 2])&&true) (nx [x0,x1,x2,x3,x4,x5,x6,x7,x8,x9,x10,x11,x12,.l (x13.rows ++ [sub (x6.rows.getD x14.int.toNat []) 0 2]),.i (w64 (x14.int+1)),x15,x16,x17,x18,x19,x20,x21,x22,x23]))
 else nx [x0,x1,x2,x3,x4,x5,x6,x7,x8,x9,x10,x11,x12,x13,.i (w64 (x14.int+1)),x15,x16,x17,x18,x19,x20,x21,x22,x23])
 else nx [x0,x1,x2,x3,x4,x5,x6,x7,x8,x9,x10,x11,x12,x13,.i (w64 (x14.int+1)),x15,x16,x17,x18,x19,x20,x21,x22,x23])
 else ex 4 [x0,x1,x2,x3,x4,x5,x6,x7,x8,x9,x10,x11,x12,x13,x14,x15,x16,x17,x18,x19,x20,x21,x22,x23]:=by kernel_rfl
theorem s_JudgeReads_ev (N:Nat) (p q:List D):evFn Tryz.prog s_JudgeReadsT N s_JudgeReadsK Tryz.f112 rb [⟨ag rICoord,p⟩,⟨sd (.sl 88),q⟩]=some (bo,
 bif !(judged (sub p 0 2) (gd q 0)) then ob false
 else (let o0:=iter (s_JudgeReadsL0 N p q) N [gd p 0,gd p 1,gd q 0,.i 0,.i 0,.b (!(judged (sub p 0 2) (gd q 0))),.l [],.i 0,gd p 0,gd p 1]
  nd o0.isSome (bif o0.code==1 then some (1,o0.pay)
  else nd (o0.code==2) (ob true)))):=by kernel_rfl
def keepN (all:D) (lo hi:Int):Nat→List (List D)
 | 0 => []
 | m+1=>bif leI lo (keyAt all m)&&ltI (keyAt all m) hi then keepN all lo hi m ++ [sub (all.rows.getD m []) 0 2] else keepN all lo hi m
theorem keepN_len (all:D) (lo hi:Int):∀ m,(keepN all lo hi m).length≤m
 | 0=>Nat.le_refl _
 | m+1=>by
  have:=keepN_len all lo hi m
  unfold keepN
  cases leI lo (keyAt all m)&&ltI (keyAt all m) hi
  ·simp only [cond_false]; omega
  ·simp only [cond_true,List.length_append,List.length_cons,List.length_nil]; omega
def keepS (all:D) (ev:List D):D:=.l (keepN all (gd ev 3).int (gd ev 4).int all.rows.length)
def readS (all o z:D) (n i:Nat):Bool:=bif (gd (z.rows.getD i []) 0).int==2&&(gd (z.rows.getD i []) 2).int==vAt o n then sameC (keepS all (z.rows.getD i [])) (gd (z.rows.getD i []) 5) else true
def judgeReadsS (p:List D) (z:D):Bool:=judged p z&&(List.range (gd p 1).rows.length).all fun n=>(List.range z.rows.length).all (readS (befN (gd p 0) (gd p 1) n) (gd p 1) z n)
def s_JudgeReadsE:Ent:=(112,e2 (ag rICoord) (sd (.sl 88)) fun p q=>(⟨rb,[.b (judgeReadsS p (gd q 0))]⟩,true))
theorem s_JudgeReads_ok:EntOk Tryz.prog s_JudgeReadsE:=e2_ok fun p q h=>evFn_sound (N:=1002) (ks:=s_JudgeReadsK) (key:=bo) s_JudgeReadsT_ok (enters Tryz.func112) Tryz.func112 fun hw=>by
 rw [s_JudgeReads_ev]
 rw [show judged (sub p 0 2) (gd q 0)=judged p (gd q 0) from rfl]
 unfold judgeReadsS
 cases hj:judged p (gd q 0)
 ·rfl
 ·have hj':=hj
  simp only [judged,leI,Bool.and_eq_true,decide_eq_true_eq] at hj'
  obtain ⟨hco,hl⟩:=hj'
  have h200:(gd q 0).rows.length≤200:=by omega
  have hb:=befW hco
  have hr:=hb.rl
  have hol:=hb.ol
  have e0:=for_loop (L:=s_JudgeReadsL0 1002 p q) (fun n => [gd p 0,gd p 1,gd q 0,.i 0,.i 0,.b false,befN (gd p 0) (gd p 1) n,.i (n:Int),gd p 0,gd p 1]) (gd p 1).rows.length (fun n=>(List.range (gd q 0).rows.length).all (readS (befN (gd p 0) (gd p 1) n) (gd p 1) (gd q 0) n)) [.b false] 0 (fun n hn=>?_) ?_ (N:=1002) (by omega)
  ·simp only [Int.natCast_zero] at e0
   rw [show befN (gd p 0) (gd p 1) 0=.l [] from rfl] at e0
   simp only [Bool.not_true,cond_false,e0,Bool.true_and]
   cases (List.range (gd p 1).rows.length).all fun n=>(List.range (gd q 0).rows.length).all (readS (befN (gd p 0) (gd p 1) n) (gd p 1) (gd q 0) n) <;> rfl
  ·show s_JudgeReadsL0 _ p q [_,_,_,_,_,_,_,.i (n:Int),_,_]=_
   rw [s_JudgeReadsR0]
   have hz:=befN_up hb n (by omega)
   have hzl:(befN (gd p 0) (gd p 1) n).rows.length≤1000:=by
    simp only [cellsUp,leI,Bool.and_eq_true,decide_eq_true_eq] at hz
    omega
   obtain ⟨o1,o2⟩:=hb.ord n hn
   have hlt:(vAt (gd p 1) n - 1).toNat<(gd p 0).rows.length:=by omega
   have ew:w64 (vAt (gd p 1) n - 1)=((vAt (gd p 1) n - 1).toNat:Int):=by rw [w64_id (by omega) (by omega)]; omega
   have ev:(gd ((gd p 1).rows.getD n []) 0).int=vAt (gd p 1) n:=rfl
   simp only [int_i,ltI_nat hn,cond_true]
   have e2:=for_loop (L:=s_JudgeReadsL2 1002 p q) (fun i => [gd p 0,gd p 1,gd q 0,.i 0,.i 0,.b false,befN (gd p 0) (gd p 1) n,.i (n:Int),.b true,.i (i:Int),gd p 0,gd p 1]) (gd q 0).rows.length (readS (befN (gd p 0) (gd p 1) n) (gd p 1) (gd q 0) n) [.b false] 2 (fun i hi=>?_) ?_ (N:=1002) (by omega)
   ·simp only [Int.natCast_zero] at e2
    rw [e2]
    cases (List.range (gd q 0).rows.length).all (readS (befN (gd p 0) (gd p 1) n) (gd p 1) (gd q 0) n)
    ·rfl
    ·simp only [nd,cond_true,cond_false,Option.isSome_some,Out.code,Out.pay,Option.getD_some,gd_cons_zero,gd_cons_succ,Nat.reduceBEq,Nat.reduceAdd,int_i,bool_b,str_s,rows_l,Bool.not_true,Bool.not_false,beq_self_eq_true,int_i,Int.toNat_natCast,inRange_nat hn,ev,ew,inRange_nat hlt,hz,hb.sh n hn,Bool.and_true,nd_true,w64_succ hn (show (gd p 1).rows.length≤9223372036854775807 from by omega)]
     rfl
   ·show s_JudgeReadsL2 _ p q [_,_,_,_,_,_,_,.i (n:Int),_,.i (i:Int),_,_]=_
    rw [s_JudgeReadsR2]
    simp only [int_i,c_lt hi,nd_ix hi,nd_ix hn,ltI_nat hi,Int.toNat_natCast,bne_not,ev,w64_succ hi (show (gd q 0).rows.length≤9223372036854775807 from by omega)]
    unfold readS
    cases hk:(gd ((gd q 0).rows.getD i []) 0).int==2
    ·rfl
    cases ht:(gd ((gd q 0).rows.getD i []) 2).int==vAt (gd p 1) n
    ·rfl
    simp only [Bool.not_true,cond_false,Bool.and_self,cond_true]
    have e4:=run_loop (L:=s_JudgeReadsL4 1002 p q) (fun m => [gd p 0,gd p 1,gd q 0,.i 0,.i 0,.b false,befN (gd p 0) (gd p 1) n,.i (n:Int),.b true,.i (i:Int),.b true,.i 0,.b false,.l (keepN (befN (gd p 0) (gd p 1) n) (gd ((gd q 0).rows.getD i []) 3).int (gd ((gd q 0).rows.getD i []) 4).int m),.i (m:Int),gd p 0,gd p 1,gd ((gd q 0).rows.getD i []) 0,gd ((gd q 0).rows.getD i []) 1,gd ((gd q 0).rows.getD i []) 2,gd ((gd q 0).rows.getD i []) 3,gd ((gd q 0).rows.getD i []) 4,gd ((gd q 0).rows.getD i []) 5,gd ((gd q 0).rows.getD i []) 6]) (befN (gd p 0) (gd p 1) n).rows.length 4 (fun m hm=>?_) ?_ (N:=1002) (by omega)
    ·simp only [Int.natCast_zero] at e4
     rw [show keepN (befN (gd p 0) (gd p 1) n) (gd ((gd q 0).rows.getD i []) 3).int (gd ((gd q 0).rows.getD i []) 4).int 0 = [] from rfl] at e4
     rw [e4]
     rw [show (D.l (keepN (befN (gd p 0) (gd p 1) n) (gd ((gd q 0).rows.getD i []) 3).int (gd ((gd q 0).rows.getD i []) 4).int (befN (gd p 0) (gd p 1) n).rows.length))=keepS (befN (gd p 0) (gd p 1) n) ((gd q 0).rows.getD i []) from rfl]
     simp only [nd,cond_true,cond_false,Option.isSome_some,Out.code,Out.pay,Option.getD_some,gd_cons_zero,gd_cons_succ,Nat.reduceBEq,Nat.reduceAdd,int_i,bool_b,str_s,rows_l,Bool.not_true,Bool.not_false,beq_self_eq_true,int_i,w64_succ hi (show (gd q 0).rows.length≤9223372036854775807 from by omega)]
     cases sameC (keepS (befN (gd p 0) (gd p 1) n) ((gd q 0).rows.getD i [])) (gd ((gd q 0).rows.getD i []) 5) <;> rfl
    ·show s_JudgeReadsL4 _ p q [_,_,_,_,_,_,_,_,_,_,_,_,_,.l _,.i (m:Int),_,_,_,_,_,_,_,_,_]=_
     rw [s_JudgeReadsR4]
     have ek:(gd ((befN (gd p 0) (gd p 1) n).rows.getD m []) 0).int=keyAt (befN (gd p 0) (gd p 1) n) m:=rfl
     have hkl:=keepN_len (befN (gd p 0) (gd p 1) n) (gd ((gd q 0).rows.getD i []) 3).int (gd ((gd q 0).rows.getD i []) 4).int m
     simp only [int_i,rows_l,c_lt hm,nd_ix hm,Int.toNat_natCast,ek,w64_succ hm (show (befN (gd p 0) (gd p 1) n).rows.length≤9223372036854775807 from by omega),lenOk_t (show (keepN (befN (gd p 0) (gd p 1) n) (gd ((gd q 0).rows.getD i []) 3).int (gd ((gd q 0).rows.getD i []) 4).int m ++ [sub ((befN (gd p 0) (gd p 1) n).rows.getD m []) 0 2]).length≤4294967296 from by simp only [List.length_append,List.length_cons,List.length_nil]; omega),Bool.and_true,nd_true]
     rw [keepN]
     cases leI (gd ((gd q 0).rows.getD i []) 3).int (keyAt (befN (gd p 0) (gd p 1) n) m) <;> cases ltI (keyAt (befN (gd p 0) (gd p 1) n) m) (gd ((gd q 0).rows.getD i []) 4).int <;> rfl
    ·show s_JudgeReadsL4 _ p q [_,_,_,_,_,_,_,_,_,_,_,_,_,_,.i ((befN (gd p 0) (gd p 1) n).rows.length:Int),_,_,_,_,_,_,_,_,_]=_
     rw [s_JudgeReadsR4]
     simp only [int_i,c_nlt]
   ·show s_JudgeReadsL2 _ p q [_,_,_,_,_,_,_,_,_,.i ((gd q 0).rows.length:Int),_,_]=_
    rw [s_JudgeReadsR2]
    simp only [int_i,c_nlt]
  ·show s_JudgeReadsL0 _ p q [_,_,_,_,_,_,_,.i ((gd p 1).rows.length:Int),_,_]=_
   rw [s_JudgeReadsR0]
   simp only [int_i,c_nlt]
end Go.Proofs.YtchceahcaaibcaaGreat
namespace Go.Proofs.YtchceahcaaibcaaGreat
set_option maxHeartbeats 1000000
theorem sub_sub2 (r:List D):sub (sub r 0 2) 0 2=sub r 0 2:=rfl
theorem getD_map_sub (rows:List (List D)) (k:Nat) (h:k<rows.length):(rows.map fun r=>sub r 0 2).getD k []=sub (rows.getD k []) 0 2:=by
 rw [List.getD_eq_getElem?_getD,List.getElem?_map,List.getD_eq_getElem?_getD,List.getElem?_eq_getElem h]
 rfl
theorem sameC_map (rows:List (List D)) (y:D):sameC (.l (rows.map fun r=>sub r 0 2)) y=sameC (.l rows) y:=by
 unfold sameC
 rw [show (D.l (rows.map fun r=>sub r 0 2)).rows=rows.map fun r=>sub r 0 2 from rfl,show (D.l rows).rows=rows from rfl,List.length_map]
 congr 1
 rw [Bool.eq_iff_iff]
 simp only [List.all_eq_true,List.mem_range]
 constructor
 ·intro h k hk
  have:=h k hk
  rwa [getD_map_sub _ _ hk,sub_sub2] at this
 ·intro h k hk
  rw [getD_map_sub _ _ hk,sub_sub2]
  exact h k hk
theorem keepN_eq (all:D) (lo hi:Int):∀ m,m≤all.rows.length→keepN all lo hi m=((all.rows.take m).filter fun r=>leI lo (gd r 0).int&&ltI (gd r 0).int hi).map fun r=>sub r 0 2
 | 0,_=>rfl
 | m+1,h=>by
  rw [take_succ_getD h,List.filter_append,List.map_append,← keepN_eq all lo hi m (by omega)]
  show (bif leI lo (gd (all.rows.getD m []) 0).int&&ltI (gd (all.rows.getD m []) 0).int hi then keepN all lo hi m ++ [sub (all.rows.getD m []) 0 2] else keepN all lo hi m)=_
  cases hc:leI lo (gd (all.rows.getD m []) 0).int&&ltI (gd (all.rows.getD m []) 0).int hi
  ·simp only [cond_false,List.filter_cons,hc,Bool.false_eq_true,if_false,List.filter_nil,List.map_nil,List.append_nil]
  ·simp only [cond_true,List.filter_cons,hc,if_true,List.filter_nil,List.map_cons,List.map_nil]
theorem keep_same {all:D} {ev:List D} {y:D} (h : -9223372036854775808<(gd ev 4).int∧(gd ev 4).int≤9223372036854775807):sameC (keepI all ev) y=sameC (keepS all ev) y:=by
 unfold keepS
 rw [keepN_eq all _ _ _ (Nat.le_refl _),List.take_length,sameC_map]
 have e:keepI all ev=.l (all.rows.filter fun r=>leI (gd ev 3).int (gd r 0).int&&ltI (gd r 0).int (gd ev 4).int):=by
  show D.l (keptR _ all.rows)=_
  unfold keptR
  congr 1
  refine List.filter_congr fun r _=>?_
  show (!(!(inB (gd r 0).int (gd ev 3).int (w64 ((gd ev 4).int - 1)))))=_
  rw [Bool.not_not,w64_id (by omega) (by omega),Bool.eq_iff_iff]
  simp only [inB,leI,ltI,Bool.and_eq_true,decide_eq_true_eq]
  omega
 rw [e]
theorem stop_first (C:Nat→Bool):∀ (m k n:Nat),k≤n→n<k+m→C n=true→(∀ j,k≤j→j<n→C j=false)→stopN C k m=n
 | 0,k,n,h1,h2,_,_=>by omega
 | m+1,k,n,h1,h2,hc,hn=>by
  unfold stopN
  by_cases e:k=n
  ·subst e; rw [hc]; rfl
  ·rw [hn k (Nat.le_refl _) (by omega),cond_false]
   exact stop_first C m (k+1) n (by omega) (by omega) hc (fun j h h'=>hn j (by omega) h')
theorem vAt_inj {z:D} (h:(numsOf z).Nodup) {i j:Nat} (hi:i<z.rows.length) (hj:j<z.rows.length) (he:vAt z i=vAt z j):i=j:=by
 have hi':i<(numsOf z).length:=by rw [numsOf_len]; exact hi
 have hj':j<(numsOf z).length:=by rw [numsOf_len]; exact hj
 have hv:(numsOf z)[i]=(numsOf z)[j]:=by rw [numsOf_v z i hi',numsOf_v z j hj',he]
 rcases Nat.lt_trichotomy i j with hlt | hlt | hlt
 ·exact absurd hv ((List.pairwise_iff_getElem.1 h) i j hi' hj' hlt)
 ·exact hlt
 ·exact absurd hv.symm ((List.pairwise_iff_getElem.1 h) j i hj' hi' hlt)
theorem reads_same {p:List D} {z:D} (hco:coordOk p=true) (hr:∀ k,k<z.rows.length→(gd (z.rows.getD k []) 0).int=2 → -9223372036854775808<(gd (z.rows.getD k []) 4).int∧(gd (z.rows.getD k []) 4).int≤9223372036854775807):judgeReadsI p z=judgeReadsS p z:=by
 have hw:=coordW hco
 unfold judgeReadsI judgeReadsS
 congr 1
 rw [Bool.eq_iff_iff]
 simp only [List.all_eq_true,List.mem_range]
 have key:∀ i,i<z.rows.length→(readI p z i=true↔∀ n,n<(gd p 1).rows.length→readS (befN (gd p 0) (gd p 1) n) (gd p 1) z n i=true):=by
  intro i hi
  cases hk:(gd (z.rows.getD i []) 0).int==2 with
  | false =>
   unfold readI readS
   simp only [hk,Bool.false_and,cond_false,implies_true]
  | true =>
   have hk2:(gd (z.rows.getD i []) 0).int=2:=by simpa using hk
   by_cases hex:∃ n,n<(gd p 1).rows.length∧vAt (gd p 1) n=(gd (z.rows.getD i []) 2).int
   ·obtain ⟨n,hn,hv⟩:=hex
    have hhas:hasInt (gd p 1) (gd (z.rows.getD i []) 2).int=true:=by
     unfold hasInt anyS
     rw [List.any_eq_true]
     exact ⟨n,List.mem_range.2 hn,by rw [← hv]; exact beq_self_eq_true _⟩
    have hbef:befD p (gd (z.rows.getD i []) 2).int=befN (gd p 0) (gd p 1) n:=by
     unfold befD
     rw [stop_first (fun k=>vAt (gd p 1) k==(gd (z.rows.getD i []) 2).int) _ 0 n (Nat.zero_le _) (by omega) (by simp [hv]) (fun j _ hj=>by
      simp only [beq_eq_false_iff_ne,ne_eq]
      intro e
      have:=vAt_inj hw.nodup (i:=j) (j:=n) (by omega) hn (e.trans hv.symm)
      omega)]
    have hI:readI p z i=sameC (keepS (befN (gd p 0) (gd p 1) n) (z.rows.getD i [])) (gd (z.rows.getD i []) 5):=by
     unfold readI
     rw [hk,hhas,Bool.and_self,cond_true,hbef,keep_same (hr i hi hk2)]
    rw [hI]
    constructor
    ·intro h m hm
     unfold readS
     cases ht:(gd (z.rows.getD i []) 2).int==vAt (gd p 1) m with
     | false=>rw [hk,Bool.and_false]; rfl
     | true =>
      have ht:(gd (z.rows.getD i []) 2).int=vAt (gd p 1) m:=by simpa using ht
      have:=vAt_inj hw.nodup (i:=n) (j:=m) hn hm (hv.trans ht)
      subst this
      rw [hk,Bool.and_self,cond_true]
      exact h
    ·intro h
     have:=h n hn
     unfold readS at this
     rw [hk,show ((gd (z.rows.getD i []) 2).int==vAt (gd p 1) n)=true from by rw [hv]; exact beq_self_eq_true _,Bool.and_self,cond_true] at this
     exact this
   ·have hhas:hasInt (gd p 1) (gd (z.rows.getD i []) 2).int=false:=by
     unfold hasInt anyS
     rw [Bool.eq_false_iff]
     intro h
     rw [List.any_eq_true] at h
     obtain ⟨n,hn,h⟩:=h
     have h:(gd (z.rows.getD i []) 2).int=vAt (gd p 1) n:=eq_of_beq h
     exact hex ⟨n,List.mem_range.1 hn,h.symm⟩
    unfold readI
    rw [hhas,Bool.and_false,cond_false]
    simp only [true_iff]
    intro n hn
    unfold readS
    rw [show ((gd (z.rows.getD i []) 2).int==vAt (gd p 1) n)=false from by
     simp only [beq_eq_false_iff_ne,ne_eq]
     exact fun e=>hex ⟨n,hn,e.symm⟩,Bool.and_false]
    rfl
 constructor
 ·intro h n hn i hi
  exact (key i hi).1 (h i hi) n hn
 ·intro h i hi
  exact (key i hi).2 fun n hn=>h n hn i hi
end Go.Proofs.YtchceahcaaibcaaGreat
namespace Go.Proofs.YtchceahcaaibcaaGreat
set_option maxRecDepth 4096
set_option maxHeartbeats 1000000
abbrev i_JudgeOwnersT:FuncId→List T→Option (T × Bool):=find [i_TownOkE,i_oneE,i_freeE,i_haveAllE]
theorem i_JudgeOwnersT_ok:CallOk Tryz.prog i_JudgeOwnersT:=find_ok (fC ⟨i_TownOk_ok,fC ⟨i_one_ok,fC ⟨i_free_ok,fC ⟨i_haveAll_ok,fN⟩⟩⟩⟩)
abbrev i_JudgeOwnersK:List Nat:= [0,1,2,3,4,5,7,10,11,12,15,16,17,18,24,31,40,1000010,1000012,1000018,1000024,1000031,1000040]
noncomputable def i_JudgeOwnersL0 (N:Nat) (p:List D):List D→Out:=loopOf Tryz.prog i_JudgeOwnersT N i_JudgeOwnersK Tryz.f21 rb [⟨ag rITown,p⟩] 0
noncomputable def i_JudgeOwnersL2 (N:Nat) (p:List D):List D→Out:=loopOf Tryz.prog i_JudgeOwnersT N i_JudgeOwnersK Tryz.f21 rb [⟨ag rITown,p⟩] 2
theorem i_JudgeOwnersR0 (N:Nat) (p:List D) (x0 x1 x2 x3 x4 x5 x6 x7 x8 x9 x10 x11 x12 x13 x14 x15 x16 x17 x18 x19 x20 x21 x22 x23 x24 x25 x26 x27 x28 x29 x30 x31 x32:D):(i_JudgeOwnersL0 N p) [x0,x1,x2,x3,x4,x5,x6,x7,x8,x9,x10,x11,x12,x13,x14,x15,x16,x17,x18,x19,x20,x21,x22,x23,x24,x25,x26,x27,x28,x29,x30,x31,x32] =
 bif ltI x17.int 1000 then (let o2:=iter (i_JudgeOwnersL2 N p) N [x0,x1,x2,x3,x4,x5,x6,x7,x8,x9,x10,x11,x12,x13,x14,x15,x16,x17,x17,.i 0,.i 0,x27,.i (x27.rows.length:Int),.i 0,x18,x19,x20,x21,x22,x23,x24,x25,x26,x27,x28,x29,x30,x31,x32]
  nd o2.isSome (nd (o2.code==4) (bif ltI 1 (gd o2.pay 19).int then ob false
  else bif ltI (gd o2.pay 20).int 1 then ob false
  else nx [gd o2.pay 0,gd o2.pay 1,gd o2.pay 2,gd o2.pay 3,gd o2.pay 4,gd o2.pay 5,gd o2.pay 6,gd o2.pay 7,gd o2.pay 8,gd o2.pay 9,gd o2.pay 10,gd o2.pay 11,gd o2.pay 12,gd o2.pay 13,gd o2.pay 14,gd o2.pay 15,gd o2.pay 16,.i (w64 ((gd o2.pay 17).int+1)),gd o2.pay 24,gd o2.pay 25,gd o2.pay 26,gd o2.pay 27,gd o2.pay 28,gd o2.pay 29,gd o2.pay 30,gd o2.pay 31,gd o2.pay 32,gd o2.pay 33,gd o2.pay 34,gd o2.pay 35,gd o2.pay 36,gd o2.pay 37,gd o2.pay 38])))
 else ex 0 [x0,x1,x2,x3,x4,x5,x6,x7,x8,x9,x10,x11,x12,x13,x14,x15,x16,x17,x18,x19,x20,x21,x22,x23,x24,x25,x26,x27,x28,x29,x30,x31,x32]:=by kernel_rfl
theorem i_JudgeOwnersR2 (N:Nat) (p:List D) (x0 x1 x2 x3 x4 x5 x6 x7 x8 x9 x10 x11 x12 x13 x14 x15 x16 x17 x18 x19 x20 x21 x22 x23 x24 x25 x26 x27 x28 x29 x30 x31 x32 x33 x34 x35 x36 x37 x38:D):(i_JudgeOwnersL2 N p) [x0,x1,x2,x3,x4,x5,x6,x7,x8,x9,x10,x11,x12,x13,x14,x15,x16,x17,x18,x19,x20,x21,x22,x23,x24,x25,x26,x27,x28,x29,x30,x31,x32,x33,x34,x35,x36,x37,x38] =
 bif ltI x23.int x22.int then nd (inRange x23.int x21.rows.length) (bif freeF (sub (x21.rows.getD x23.int.toNat []) 0 9) [x18,.i (w64 (x18.int+1))] then bif haveAll (gd (x21.rows.getD x23.int.toNat []) 1) [x18,.i (w64 (x18.int+1))] then nx [x0,x1,x2,x3,x4,x5,x6,x7,x8,x9,x10,x11,x12,x13,x14,x15,x16,x17,x18,.i (w64 (x19.int+1)),.i (w64 (x20.int+1)),x21,x22,.i (w64 (x23.int+1)),x24,x25,x26,x27,x28,x29,x30,x31,x32,x33,x34,x35,x36,x37,x38]
 else nx [x0,x1,x2,x3,x4,x5,x6,x7,x8,x9,x10,x11,x12,x13,x14,x15,x16,x17,x18,.i (w64 (x19.int+1)),x20,x21,x22,.i (w64 (x23.int+1)),x24,x25,x26,x27,x28,x29,x30,x31,x32,x33,x34,x35,x36,x37,x38]
 else bif haveAll (gd (x21.rows.getD x23.int.toNat []) 1) [x18,.i (w64 (x18.int+1))] then nx [x0,x1,x2,x3,x4,x5,x6,x7,x8,x9,x10,x11,x12,x13,x14,x15,x16,x17,x18,x19,.i (w64 (x20.int+1)),x21,x22,.i (w64 (x23.int+1)),x24,x25,x26,x27,x28,x29,x30,x31,x32,x33,x34,x35,x36,x37,x38]
 else nx [x0,x1,x2,x3,x4,x5,x6,x7,x8,x9,x10,x11,x12,x13,x14,x15,x16,x17,x18,x19,x20,x21,x22,.i (w64 (x23.int+1)),x24,x25,x26,x27,x28,x29,x30,x31,x32,x33,x34,x35,x36,x37,x38])
 else ex 2 [x0,x1,x2,x3,x4,x5,x6,x7,x8,x9,x10,x11,x12,x13,x14,x15,x16,x17,x18,x19,x20,x21,x22,x23,x24,x25,x26,x27,x28,x29,x30,x31,x32,x33,x34,x35,x36,x37,x38]:=by kernel_rfl
noncomputable def i_JudgeOwnerss0 (N:Nat) (p:List D):Out:=let o0:Out:=iter (i_JudgeOwnersL0 N p) N [gd p 0,gd p 1,gd p 2,gd p 3,gd p 4,gd p 5,gd p 6,gd p 7,gd p 8,gd p 9,gd p 10,gd p 11,gd p 12,gd p 13,gd p 14,.i 0,.i 0,.i 0,gd p 0,gd p 1,gd p 2,gd p 3,gd p 4,gd p 5,gd p 6,gd p 7,gd p 8,gd p 9,gd p 10,gd p 11,gd p 12,gd p 13,gd p 14]; nd o0.isSome (bif o0.code==1 then some (1,o0.pay) else nd (o0.code==2) (ob true))
theorem i_JudgeOwners_ev (N:Nat) (p:List D):evFn Tryz.prog i_JudgeOwnersT N i_JudgeOwnersK Tryz.f21 rb [⟨ag rITown,p⟩]=some (bo,nd (townSmall (sub p 0 15)) (bif !(townOk (sub p 0 15)) then ob false else (i_JudgeOwnerss0 N p))):=by kernel_rfl
def freeC (p:List D) (x k:Nat):Bool:=freeF (sub ((gd p 9).rows.getD k []) 0 9) [.i (x:Int),.i (w64 ((x:Int)+1))]
def ownC (p:List D) (x k:Nat):Bool:=haveAll (gd ((gd p 9).rows.getD k []) 1) [.i (x:Int),.i (w64 ((x:Int)+1))]
def ownersC (p:List D) (x:Nat):Bool:=leI (cnt (freeC p x) 0 (gd p 9).rows.length:Int) 1&&leI 1 (cnt (ownC p x) 0 (gd p 9).rows.length:Int)
def judgeOwners (p:List D):Bool:=townOk p&&(List.range 1000).all (ownersC p)
theorem cnt_w (C:Nat→Bool) {k:Nat} (h:k≤4):w64 ((cnt C 0 k:Int)+1)=((cnt C 0 k+1:Nat):Int):=by
 have:=cnt_le C k 0
 rw [w64_id (by omega) (by omega)]
 omega
theorem lt1 (n:Nat):ltI 1 (n:Int) = !leI (n:Int) 1:=by
 rw [Bool.eq_iff_iff]; simp only [ltI,leI,decide_eq_true_eq,Bool.not_eq_true',decide_eq_false_iff_not]; omega
theorem lt1' (n:Nat):ltI (n:Int) 1 = !leI 1 (n:Int):=by
 rw [Bool.eq_iff_iff]; simp only [ltI,leI,decide_eq_true_eq,Bool.not_eq_true',decide_eq_false_iff_not]; omega
theorem eq0 (n:Nat):((n:Int)==0) = !leI 1 (n:Int):=by
 rw [Bool.eq_iff_iff]; simp only [leI,beq_iff_eq,Bool.not_eq_true',decide_eq_false_iff_not]; omega
theorem key_nat {x:Nat} (hx:x<1000):rangeOk [.i (x:Int),.i (w64 ((x:Int)+1))]=true:=one_rangeOk (r:= [.i (x:Int)]) (by show 0≤(x:Int); omega) (by show (x:Int)≤999; omega)
theorem i_JOx (p:List D) (ht:townOk p=true) (x:Nat) (hx:x<1000) (N:Nat) (hN:(gd p 9).rows.length<N):iter (i_JudgeOwnersL2 N p) N [gd p 0,gd p 1,gd p 2,gd p 3,gd p 4,gd p 5,gd p 6,gd p 7,gd p 8,gd p 9,gd p 10,gd p 11,gd p 12,gd p 13,gd p 14,.i 0,.i 0,.i (x:Int),.i (x:Int),.i 0,.i 0,gd p 9,.i ((gd p 9).rows.length:Int),.i 0,gd p 0,gd p 1,gd p 2,gd p 3,gd p 4,gd p 5,gd p 6,gd p 7,gd p 8,gd p 9,gd p 10,gd p 11,gd p 12,gd p 13,gd p 14]=some (4,[gd p 0,gd p 1,gd p 2,gd p 3,gd p 4,gd p 5,gd p 6,gd p 7,gd p 8,gd p 9,gd p 10,gd p 11,gd p 12,gd p 13,gd p 14,.i 0,.i 0,.i (x:Int),.i (x:Int),.i (cnt (freeC p x) 0 (gd p 9).rows.length:Int),.i (cnt (ownC p x) 0 (gd p 9).rows.length:Int),gd p 9,.i ((gd p 9).rows.length:Int),.i ((gd p 9).rows.length:Int),gd p 0,gd p 1,gd p 2,gd p 3,gd p 4,gd p 5,gd p 6,gd p 7,gd p 8,gd p 9,gd p 10,gd p 11,gd p 12,gd p 13,gd p 14]):=by
 have hn:=town_n ht
 have e:=run_loop (L:=(i_JudgeOwnersL2 N p)) (fun k => [gd p 0,gd p 1,gd p 2,gd p 3,gd p 4,gd p 5,gd p 6,gd p 7,gd p 8,gd p 9,gd p 10,gd p 11,gd p 12,gd p 13,gd p 14,.i 0,.i 0,.i (x:Int),.i (x:Int),.i (cnt (freeC p x) 0 k:Int),.i (cnt (ownC p x) 0 k:Int),gd p 9,.i ((gd p 9).rows.length:Int),.i (k:Int),gd p 0,gd p 1,gd p 2,gd p 3,gd p 4,gd p 5,gd p 6,gd p 7,gd p 8,gd p 9,gd p 10,gd p 11,gd p 12,gd p 13,gd p 14]) (gd p 9).rows.length 2 (fun k hk=>?_) ?_ (N:=N) hN
 ·simp only [Int.natCast_zero] at e
  exact e
 ·show i_JudgeOwnersL2 N p [gd p 0,gd p 1,gd p 2,gd p 3,gd p 4,gd p 5,gd p 6,gd p 7,gd p 8,gd p 9,gd p 10,gd p 11,gd p 12,gd p 13,gd p 14,.i 0,.i 0,.i (x:Int),.i (x:Int),.i (cnt (freeC p x) 0 k:Int),.i (cnt (ownC p x) 0 k:Int),gd p 9,.i ((gd p 9).rows.length:Int),.i (k:Int),gd p 0,gd p 1,gd p 2,gd p 3,gd p 4,gd p 5,gd p 6,gd p 7,gd p 8,gd p 9,gd p 10,gd p 11,gd p 12,gd p 13,gd p 14]=nx [gd p 0,gd p 1,gd p 2,gd p 3,gd p 4,gd p 5,gd p 6,gd p 7,gd p 8,gd p 9,gd p 10,gd p 11,gd p 12,gd p 13,gd p 14,.i 0,.i 0,.i (x:Int),.i (x:Int),.i (cnt (freeC p x) 0 (k+1):Int),.i (cnt (ownC p x) 0 (k+1):Int),gd p 9,.i ((gd p 9).rows.length:Int),.i ((k+1):Int),gd p 0,gd p 1,gd p 2,gd p 3,gd p 4,gd p 5,gd p 6,gd p 7,gd p 8,gd p 9,gd p 10,gd p 11,gd p 12,gd p 13,gd p 14]
  rw [i_JudgeOwnersR2]
  simp only [int_i,c_lt hk,nd_ix hk,w64_succ hk (show (gd p 9).rows.length≤9223372036854775807 from by omega),Int.toNat_natCast,cnt_w _ (show k≤4 from by omega),cnt_succ,Nat.zero_add]
  show (bif freeC p x k then (bif ownC p x k then _ else _) else (bif ownC p x k then _ else _))=_
  cases freeC p x k <;> cases ownC p x k <;> rfl
 ·show i_JudgeOwnersL2 N p [gd p 0,gd p 1,gd p 2,gd p 3,gd p 4,gd p 5,gd p 6,gd p 7,gd p 8,gd p 9,gd p 10,gd p 11,gd p 12,gd p 13,gd p 14,.i 0,.i 0,.i (x:Int),.i (x:Int),.i (cnt (freeC p x) 0 (gd p 9).rows.length:Int),.i (cnt (ownC p x) 0 (gd p 9).rows.length:Int),gd p 9,.i ((gd p 9).rows.length:Int),.i ((gd p 9).rows.length:Int),gd p 0,gd p 1,gd p 2,gd p 3,gd p 4,gd p 5,gd p 6,gd p 7,gd p 8,gd p 9,gd p 10,gd p 11,gd p 12,gd p 13,gd p 14]=_
  rw [i_JudgeOwnersR2]
  simp only [int_i,c_nlt]
theorem i_JOo (p:List D) (ht:townOk p=true) (N:Nat) (hN:(gd p 9).rows.length+1000<N):iter (i_JudgeOwnersL0 N p) N [gd p 0,gd p 1,gd p 2,gd p 3,gd p 4,gd p 5,gd p 6,gd p 7,gd p 8,gd p 9,gd p 10,gd p 11,gd p 12,gd p 13,gd p 14,.i 0,.i 0,.i 0,gd p 0,gd p 1,gd p 2,gd p 3,gd p 4,gd p 5,gd p 6,gd p 7,gd p 8,gd p 9,gd p 10,gd p 11,gd p 12,gd p 13,gd p 14]=some (bif (List.range 1000).all (ownersC p) then (2,[gd p 0,gd p 1,gd p 2,gd p 3,gd p 4,gd p 5,gd p 6,gd p 7,gd p 8,gd p 9,gd p 10,gd p 11,gd p 12,gd p 13,gd p 14,.i 0,.i 0,.i ((1000:Nat):Int),gd p 0,gd p 1,gd p 2,gd p 3,gd p 4,gd p 5,gd p 6,gd p 7,gd p 8,gd p 9,gd p 10,gd p 11,gd p 12,gd p 13,gd p 14]) else (1,[.b false])):=by
 have e:=for_loop (L:=(i_JudgeOwnersL0 N p)) (fun x => [gd p 0,gd p 1,gd p 2,gd p 3,gd p 4,gd p 5,gd p 6,gd p 7,gd p 8,gd p 9,gd p 10,gd p 11,gd p 12,gd p 13,gd p 14,.i 0,.i 0,.i (x:Int),gd p 0,gd p 1,gd p 2,gd p 3,gd p 4,gd p 5,gd p 6,gd p 7,gd p 8,gd p 9,gd p 10,gd p 11,gd p 12,gd p 13,gd p 14]) 1000 (ownersC p) [.b false] 0 (fun x hx=>?_) ?_ (N:=N) (by omega)
 ·simp only [Int.natCast_zero] at e
  exact e
 ·show i_JudgeOwnersL0 N p [gd p 0,gd p 1,gd p 2,gd p 3,gd p 4,gd p 5,gd p 6,gd p 7,gd p 8,gd p 9,gd p 10,gd p 11,gd p 12,gd p 13,gd p 14,.i 0,.i 0,.i (x:Int),gd p 0,gd p 1,gd p 2,gd p 3,gd p 4,gd p 5,gd p 6,gd p 7,gd p 8,gd p 9,gd p 10,gd p 11,gd p 12,gd p 13,gd p 14]=_
  rw [i_JudgeOwnersR0]
  simp only [int_i]
  rw [ltI_t (show (x:Int)<1000 from by omega),cond_true,i_JOx p ht x hx N (by omega)]
  show nd true (nd true (bif ltI 1 (cnt (freeC p x) 0 (gd p 9).rows.length:Int) then ob false else bif ltI (cnt (ownC p x) 0 (gd p 9).rows.length:Int) 1 then ob false else nx [gd p 0,gd p 1,gd p 2,gd p 3,gd p 4,gd p 5,gd p 6,gd p 7,gd p 8,gd p 9,gd p 10,gd p 11,gd p 12,gd p 13,gd p 14,.i 0,.i 0,.i (w64 ((x:Int)+1)),gd p 0,gd p 1,gd p 2,gd p 3,gd p 4,gd p 5,gd p 6,gd p 7,gd p 8,gd p 9,gd p 10,gd p 11,gd p 12,gd p 13,gd p 14]))=_
  rw [lt1,lt1',nd_true,nd_true,w64_succ hx (by omega)]
  unfold ownersC
  cases leI (cnt (freeC p x) 0 (gd p 9).rows.length:Int) 1 <;> cases leI 1 (cnt (ownC p x) 0 (gd p 9).rows.length:Int) <;> rfl
 ·show i_JudgeOwnersL0 N p [gd p 0,gd p 1,gd p 2,gd p 3,gd p 4,gd p 5,gd p 6,gd p 7,gd p 8,gd p 9,gd p 10,gd p 11,gd p 12,gd p 13,gd p 14,.i 0,.i 0,.i ((1000:Nat):Int),gd p 0,gd p 1,gd p 2,gd p 3,gd p 4,gd p 5,gd p 6,gd p 7,gd p 8,gd p 9,gd p 10,gd p 11,gd p 12,gd p 13,gd p 14]=_
  rw [i_JudgeOwnersR0]
  simp only [int_i]
  rw [ltI_f (show (1000:Int)≤((1000:Nat):Int) from by omega),cond_false]
def i_JudgeOwnersE:Ent:=(21,e1 (ag rITown) fun p=>(⟨rb,[.b (judgeOwners p)]⟩,townSmall p))
theorem i_JudgeOwners_ok:EntOk Tryz.prog i_JudgeOwnersE:=e1_ok fun p h=>evFn_sound (N:=(gd p 9).rows.length+1001) (ks:=i_JudgeOwnersK) (key:=bo) i_JudgeOwnersT_ok (enters Tryz.func21) Tryz.func21 fun hw=>by
 rw [i_JudgeOwners_ev]
 refine congrArg (fun x=>some (bo,x)) ?_
 have h:townSmall p=true:=h
 show nd (townSmall p) (bif !(townOk p) then ob false else i_JudgeOwnerss0 ((gd p 9).rows.length+1001) p)=ob (judgeOwners p)
 rw [h,nd_true]
 cases ht:townOk p with
 | false=>unfold judgeOwners; rw [ht]; rfl
 | true =>
  simp only [Bool.not_true,cond_false]
  rw [show i_JudgeOwnerss0 ((gd p 9).rows.length+1001) p=nd (iter (i_JudgeOwnersL0 ((gd p 9).rows.length+1001) p) ((gd p 9).rows.length+1001) [gd p 0,gd p 1,gd p 2,gd p 3,gd p 4,gd p 5,gd p 6,gd p 7,gd p 8,gd p 9,gd p 10,gd p 11,gd p 12,gd p 13,gd p 14,.i 0,.i 0,.i 0,gd p 0,gd p 1,gd p 2,gd p 3,gd p 4,gd p 5,gd p 6,gd p 7,gd p 8,gd p 9,gd p 10,gd p 11,gd p 12,gd p 13,gd p 14]).isSome (bif Out.code (iter (i_JudgeOwnersL0 ((gd p 9).rows.length+1001) p) ((gd p 9).rows.length+1001) [gd p 0,gd p 1,gd p 2,gd p 3,gd p 4,gd p 5,gd p 6,gd p 7,gd p 8,gd p 9,gd p 10,gd p 11,gd p 12,gd p 13,gd p 14,.i 0,.i 0,.i 0,gd p 0,gd p 1,gd p 2,gd p 3,gd p 4,gd p 5,gd p 6,gd p 7,gd p 8,gd p 9,gd p 10,gd p 11,gd p 12,gd p 13,gd p 14])==1 then some (1,Out.pay (iter (i_JudgeOwnersL0 ((gd p 9).rows.length+1001) p) ((gd p 9).rows.length+1001) [gd p 0,gd p 1,gd p 2,gd p 3,gd p 4,gd p 5,gd p 6,gd p 7,gd p 8,gd p 9,gd p 10,gd p 11,gd p 12,gd p 13,gd p 14,.i 0,.i 0,.i 0,gd p 0,gd p 1,gd p 2,gd p 3,gd p 4,gd p 5,gd p 6,gd p 7,gd p 8,gd p 9,gd p 10,gd p 11,gd p 12,gd p 13,gd p 14])) else nd (Out.code (iter (i_JudgeOwnersL0 ((gd p 9).rows.length+1001) p) ((gd p 9).rows.length+1001) [gd p 0,gd p 1,gd p 2,gd p 3,gd p 4,gd p 5,gd p 6,gd p 7,gd p 8,gd p 9,gd p 10,gd p 11,gd p 12,gd p 13,gd p 14,.i 0,.i 0,.i 0,gd p 0,gd p 1,gd p 2,gd p 3,gd p 4,gd p 5,gd p 6,gd p 7,gd p 8,gd p 9,gd p 10,gd p 11,gd p 12,gd p 13,gd p 14])==2) (ob true)) from by kernel_rfl]
  rw [i_JOo p ht _ (by omega)]
  rw [show judgeOwners p=(List.range 1000).all (ownersC p) from by unfold judgeOwners; rw [ht,Bool.true_and]]
  cases (List.range 1000).all (ownersC p) <;> rfl
abbrev s_JudgeOwnersT:FuncId→List T→Option (T × Bool):=find [s_TownOkE,s_l10OneE,s_RangesHaveE,s_l13FreeE]
theorem s_JudgeOwnersT_ok:CallOk Tryz.prog s_JudgeOwnersT:=find_ok (fC ⟨s_TownOk_ok,fC ⟨s_l10One_ok,fC ⟨s_RangesHave_ok,fC ⟨s_l13Free_ok,fN⟩⟩⟩⟩)
abbrev s_JudgeOwnersK:List Nat:= [0,1,2,3,4,5,6,9,11,18,29,39,47,1000009,1000011,1000018,1000029,1000039,1000047]
noncomputable def s_JudgeOwnersL0 (N:Nat) (p:List D):List D→Out:=loopOf Tryz.prog s_JudgeOwnersT N s_JudgeOwnersK Tryz.f20 rb [⟨ag rITown,p⟩] 0
noncomputable def s_JudgeOwnersL2 (N:Nat) (p:List D):List D→Out:=loopOf Tryz.prog s_JudgeOwnersT N s_JudgeOwnersK Tryz.f20 rb [⟨ag rITown,p⟩] 2
theorem s_JudgeOwnersR0 (N:Nat) (p:List D) (x0 x1 x2 x3 x4 x5 x6 x7 x8 x9 x10 x11 x12 x13 x14 x15 x16 x17 x18 x19 x20 x21 x22 x23 x24 x25 x26 x27 x28 x29 x30 x31 x32:D):(s_JudgeOwnersL0 N p) [x0,x1,x2,x3,x4,x5,x6,x7,x8,x9,x10,x11,x12,x13,x14,x15,x16,x17,x18,x19,x20,x21,x22,x23,x24,x25,x26,x27,x28,x29,x30,x31,x32] =
 bif ltI x17.int 1000 then (let o2:=iter (s_JudgeOwnersL2 N p) N [x0,x1,x2,x3,x4,x5,x6,x7,x8,x9,x10,x11,x12,x13,x14,x15,x16,x17,.i 0,.i 0,.i 0,x18,x19,x20,x21,x22,x23,x24,x25,x26,x27,x28,x29,x30,x31,x32]
  nd o2.isSome (nd (o2.code==4) (bif ltI 1 (gd o2.pay 18).int then ob false
  else bif (gd o2.pay 19).int==0 then ob false
  else nx [gd o2.pay 0,gd o2.pay 1,gd o2.pay 2,gd o2.pay 3,gd o2.pay 4,gd o2.pay 5,gd o2.pay 6,gd o2.pay 7,gd o2.pay 8,gd o2.pay 9,gd o2.pay 10,gd o2.pay 11,gd o2.pay 12,gd o2.pay 13,gd o2.pay 14,gd o2.pay 15,gd o2.pay 16,.i (w64 ((gd o2.pay 17).int+1)),gd o2.pay 21,gd o2.pay 22,gd o2.pay 23,gd o2.pay 24,gd o2.pay 25,gd o2.pay 26,gd o2.pay 27,gd o2.pay 28,gd o2.pay 29,gd o2.pay 30,gd o2.pay 31,gd o2.pay 32,gd o2.pay 33,gd o2.pay 34,gd o2.pay 35])))
 else ex 0 [x0,x1,x2,x3,x4,x5,x6,x7,x8,x9,x10,x11,x12,x13,x14,x15,x16,x17,x18,x19,x20,x21,x22,x23,x24,x25,x26,x27,x28,x29,x30,x31,x32]:=by kernel_rfl
theorem s_JudgeOwnersR2 (N:Nat) (p:List D) (x0 x1 x2 x3 x4 x5 x6 x7 x8 x9 x10 x11 x12 x13 x14 x15 x16 x17 x18 x19 x20 x21 x22 x23 x24 x25 x26 x27 x28 x29 x30 x31 x32 x33 x34 x35:D):(s_JudgeOwnersL2 N p) [x0,x1,x2,x3,x4,x5,x6,x7,x8,x9,x10,x11,x12,x13,x14,x15,x16,x17,x18,x19,x20,x21,x22,x23,x24,x25,x26,x27,x28,x29,x30,x31,x32,x33,x34,x35] =
 bif ltI x20.int (x30.rows.length:Int) then nd (inRange x20.int x30.rows.length) (bif rangesHave (gd (x30.rows.getD x20.int.toNat []) 1) [x17,.i (w64 (x17.int+1))] then nd (inRange x20.int x30.rows.length) (bif freeS (sub (x30.rows.getD x20.int.toNat []) 0 9) [x17,.i (w64 (x17.int+1))] then nx [x0,x1,x2,x3,x4,x5,x6,x7,x8,x9,x10,x11,x12,x13,x14,x15,x16,x17,.i (w64 (x18.int+1)),.i (w64 (x19.int+1)),.i (w64 (x20.int+1)),x21,x22,x23,x24,x25,x26,x27,x28,x29,x30,x31,x32,x33,x34,x35]
 else nx [x0,x1,x2,x3,x4,x5,x6,x7,x8,x9,x10,x11,x12,x13,x14,x15,x16,x17,x18,.i (w64 (x19.int+1)),.i (w64 (x20.int+1)),x21,x22,x23,x24,x25,x26,x27,x28,x29,x30,x31,x32,x33,x34,x35])
 else nd (inRange x20.int x30.rows.length) (bif freeS (sub (x30.rows.getD x20.int.toNat []) 0 9) [x17,.i (w64 (x17.int+1))] then nx [x0,x1,x2,x3,x4,x5,x6,x7,x8,x9,x10,x11,x12,x13,x14,x15,x16,x17,.i (w64 (x18.int+1)),x19,.i (w64 (x20.int+1)),x21,x22,x23,x24,x25,x26,x27,x28,x29,x30,x31,x32,x33,x34,x35]
 else nx [x0,x1,x2,x3,x4,x5,x6,x7,x8,x9,x10,x11,x12,x13,x14,x15,x16,x17,x18,x19,.i (w64 (x20.int+1)),x21,x22,x23,x24,x25,x26,x27,x28,x29,x30,x31,x32,x33,x34,x35]))
 else ex 2 [x0,x1,x2,x3,x4,x5,x6,x7,x8,x9,x10,x11,x12,x13,x14,x15,x16,x17,x18,x19,x20,x21,x22,x23,x24,x25,x26,x27,x28,x29,x30,x31,x32,x33,x34,x35]:=by kernel_rfl
noncomputable def s_JudgeOwnerss0 (N:Nat) (p:List D):Out:=let o0:Out:=iter (s_JudgeOwnersL0 N p) N [gd p 0,gd p 1,gd p 2,gd p 3,gd p 4,gd p 5,gd p 6,gd p 7,gd p 8,gd p 9,gd p 10,gd p 11,gd p 12,gd p 13,gd p 14,.i 0,.i 0,.i 0,gd p 0,gd p 1,gd p 2,gd p 3,gd p 4,gd p 5,gd p 6,gd p 7,gd p 8,gd p 9,gd p 10,gd p 11,gd p 12,gd p 13,gd p 14]; nd o0.isSome (bif o0.code==1 then some (1,o0.pay) else nd (o0.code==2) (ob true))
theorem s_JudgeOwners_ev (N:Nat) (p:List D):evFn Tryz.prog s_JudgeOwnersT N s_JudgeOwnersK Tryz.f20 rb [⟨ag rITown,p⟩]=some (bo,bif !(townOk (sub p 0 15)) then ob false else (s_JudgeOwnerss0 N p)):=by kernel_rfl
theorem s_JOx (p:List D) (ht:townOk p=true) (x:Nat) (hx:x<1000) (N:Nat) (hN:(gd p 9).rows.length<N):iter (s_JudgeOwnersL2 N p) N [gd p 0,gd p 1,gd p 2,gd p 3,gd p 4,gd p 5,gd p 6,gd p 7,gd p 8,gd p 9,gd p 10,gd p 11,gd p 12,gd p 13,gd p 14,.i 0,.i 0,.i (x:Int),.i 0,.i 0,.i 0,gd p 0,gd p 1,gd p 2,gd p 3,gd p 4,gd p 5,gd p 6,gd p 7,gd p 8,gd p 9,gd p 10,gd p 11,gd p 12,gd p 13,gd p 14]=some (4,[gd p 0,gd p 1,gd p 2,gd p 3,gd p 4,gd p 5,gd p 6,gd p 7,gd p 8,gd p 9,gd p 10,gd p 11,gd p 12,gd p 13,gd p 14,.i 0,.i 0,.i (x:Int),.i (cnt (freeC p x) 0 (gd p 9).rows.length:Int),.i (cnt (ownC p x) 0 (gd p 9).rows.length:Int),.i ((gd p 9).rows.length:Int),gd p 0,gd p 1,gd p 2,gd p 3,gd p 4,gd p 5,gd p 6,gd p 7,gd p 8,gd p 9,gd p 10,gd p 11,gd p 12,gd p 13,gd p 14]):=by
 have hn:=town_n ht
 have e:=run_loop (L:=(s_JudgeOwnersL2 N p)) (fun k => [gd p 0,gd p 1,gd p 2,gd p 3,gd p 4,gd p 5,gd p 6,gd p 7,gd p 8,gd p 9,gd p 10,gd p 11,gd p 12,gd p 13,gd p 14,.i 0,.i 0,.i (x:Int),.i (cnt (freeC p x) 0 k:Int),.i (cnt (ownC p x) 0 k:Int),.i (k:Int),gd p 0,gd p 1,gd p 2,gd p 3,gd p 4,gd p 5,gd p 6,gd p 7,gd p 8,gd p 9,gd p 10,gd p 11,gd p 12,gd p 13,gd p 14]) (gd p 9).rows.length 2 (fun k hk=>?_) ?_ (N:=N) hN
 ·simp only [Int.natCast_zero] at e
  exact e
 ·show s_JudgeOwnersL2 N p [gd p 0,gd p 1,gd p 2,gd p 3,gd p 4,gd p 5,gd p 6,gd p 7,gd p 8,gd p 9,gd p 10,gd p 11,gd p 12,gd p 13,gd p 14,.i 0,.i 0,.i (x:Int),.i (cnt (freeC p x) 0 k:Int),.i (cnt (ownC p x) 0 k:Int),.i (k:Int),gd p 0,gd p 1,gd p 2,gd p 3,gd p 4,gd p 5,gd p 6,gd p 7,gd p 8,gd p 9,gd p 10,gd p 11,gd p 12,gd p 13,gd p 14]=nx [gd p 0,gd p 1,gd p 2,gd p 3,gd p 4,gd p 5,gd p 6,gd p 7,gd p 8,gd p 9,gd p 10,gd p 11,gd p 12,gd p 13,gd p 14,.i 0,.i 0,.i (x:Int),.i (cnt (freeC p x) 0 (k+1):Int),.i (cnt (ownC p x) 0 (k+1):Int),.i ((k+1):Int),gd p 0,gd p 1,gd p 2,gd p 3,gd p 4,gd p 5,gd p 6,gd p 7,gd p 8,gd p 9,gd p 10,gd p 11,gd p 12,gd p 13,gd p 14]
  rw [s_JudgeOwnersR2]
  simp only [int_i,c_lt hk,nd_ix hk,w64_succ hk (show (gd p 9).rows.length≤9223372036854775807 from by omega),Int.toNat_natCast,cnt_w _ (show k≤4 from by omega),cnt_succ,Nat.zero_add]
  obtain ⟨a,b,_⟩:=shard_own (town_shard ht hk)
  have e1:freeS (sub ((gd p 9).rows.getD k []) 0 9) [.i (x:Int),.i (w64 ((x:Int)+1))]=freeC p x k:=free_same a b (key_nat hx)
  have e2:rangesHave (gd ((gd p 9).rows.getD k []) 1) [.i (x:Int),.i (w64 ((x:Int)+1))]=ownC p x k:=(have_same a (key_nat hx)).symm
  rw [e1,e2]
  cases freeC p x k <;> cases ownC p x k <;> rfl
 ·show s_JudgeOwnersL2 N p [gd p 0,gd p 1,gd p 2,gd p 3,gd p 4,gd p 5,gd p 6,gd p 7,gd p 8,gd p 9,gd p 10,gd p 11,gd p 12,gd p 13,gd p 14,.i 0,.i 0,.i (x:Int),.i (cnt (freeC p x) 0 (gd p 9).rows.length:Int),.i (cnt (ownC p x) 0 (gd p 9).rows.length:Int),.i ((gd p 9).rows.length:Int),gd p 0,gd p 1,gd p 2,gd p 3,gd p 4,gd p 5,gd p 6,gd p 7,gd p 8,gd p 9,gd p 10,gd p 11,gd p 12,gd p 13,gd p 14]=_
  rw [s_JudgeOwnersR2]
  simp only [int_i,c_nlt]
theorem s_JOo (p:List D) (ht:townOk p=true) (N:Nat) (hN:(gd p 9).rows.length+1000<N):iter (s_JudgeOwnersL0 N p) N [gd p 0,gd p 1,gd p 2,gd p 3,gd p 4,gd p 5,gd p 6,gd p 7,gd p 8,gd p 9,gd p 10,gd p 11,gd p 12,gd p 13,gd p 14,.i 0,.i 0,.i 0,gd p 0,gd p 1,gd p 2,gd p 3,gd p 4,gd p 5,gd p 6,gd p 7,gd p 8,gd p 9,gd p 10,gd p 11,gd p 12,gd p 13,gd p 14]=some (bif (List.range 1000).all (ownersC p) then (2,[gd p 0,gd p 1,gd p 2,gd p 3,gd p 4,gd p 5,gd p 6,gd p 7,gd p 8,gd p 9,gd p 10,gd p 11,gd p 12,gd p 13,gd p 14,.i 0,.i 0,.i ((1000:Nat):Int),gd p 0,gd p 1,gd p 2,gd p 3,gd p 4,gd p 5,gd p 6,gd p 7,gd p 8,gd p 9,gd p 10,gd p 11,gd p 12,gd p 13,gd p 14]) else (1,[.b false])):=by
 have e:=for_loop (L:=(s_JudgeOwnersL0 N p)) (fun x => [gd p 0,gd p 1,gd p 2,gd p 3,gd p 4,gd p 5,gd p 6,gd p 7,gd p 8,gd p 9,gd p 10,gd p 11,gd p 12,gd p 13,gd p 14,.i 0,.i 0,.i (x:Int),gd p 0,gd p 1,gd p 2,gd p 3,gd p 4,gd p 5,gd p 6,gd p 7,gd p 8,gd p 9,gd p 10,gd p 11,gd p 12,gd p 13,gd p 14]) 1000 (ownersC p) [.b false] 0 (fun x hx=>?_) ?_ (N:=N) (by omega)
 ·simp only [Int.natCast_zero] at e
  exact e
 ·show s_JudgeOwnersL0 N p [gd p 0,gd p 1,gd p 2,gd p 3,gd p 4,gd p 5,gd p 6,gd p 7,gd p 8,gd p 9,gd p 10,gd p 11,gd p 12,gd p 13,gd p 14,.i 0,.i 0,.i (x:Int),gd p 0,gd p 1,gd p 2,gd p 3,gd p 4,gd p 5,gd p 6,gd p 7,gd p 8,gd p 9,gd p 10,gd p 11,gd p 12,gd p 13,gd p 14]=_
  rw [s_JudgeOwnersR0]
  simp only [int_i]
  rw [ltI_t (show (x:Int)<1000 from by omega),cond_true,s_JOx p ht x hx N (by omega)]
  show nd true (nd true (bif ltI 1 (cnt (freeC p x) 0 (gd p 9).rows.length:Int) then ob false else bif (cnt (ownC p x) 0 (gd p 9).rows.length:Int)==0 then ob false else nx [gd p 0,gd p 1,gd p 2,gd p 3,gd p 4,gd p 5,gd p 6,gd p 7,gd p 8,gd p 9,gd p 10,gd p 11,gd p 12,gd p 13,gd p 14,.i 0,.i 0,.i (w64 ((x:Int)+1)),gd p 0,gd p 1,gd p 2,gd p 3,gd p 4,gd p 5,gd p 6,gd p 7,gd p 8,gd p 9,gd p 10,gd p 11,gd p 12,gd p 13,gd p 14]))=_
  rw [lt1,eq0,nd_true,nd_true,w64_succ hx (by omega)]
  unfold ownersC
  cases leI (cnt (freeC p x) 0 (gd p 9).rows.length:Int) 1 <;> cases leI 1 (cnt (ownC p x) 0 (gd p 9).rows.length:Int) <;> rfl
 ·show s_JudgeOwnersL0 N p [gd p 0,gd p 1,gd p 2,gd p 3,gd p 4,gd p 5,gd p 6,gd p 7,gd p 8,gd p 9,gd p 10,gd p 11,gd p 12,gd p 13,gd p 14,.i 0,.i 0,.i ((1000:Nat):Int),gd p 0,gd p 1,gd p 2,gd p 3,gd p 4,gd p 5,gd p 6,gd p 7,gd p 8,gd p 9,gd p 10,gd p 11,gd p 12,gd p 13,gd p 14]=_
  rw [s_JudgeOwnersR0]
  simp only [int_i]
  rw [ltI_f (show (1000:Int)≤((1000:Nat):Int) from by omega),cond_false]
def s_JudgeOwnersE:Ent:=(20,e1 (ag rITown) fun p=>(⟨rb,[.b (judgeOwners p)]⟩,true))
theorem s_JudgeOwners_ok:EntOk Tryz.prog s_JudgeOwnersE:=e1_ok fun p h=>evFn_sound (N:=(gd p 9).rows.length+1001) (ks:=s_JudgeOwnersK) (key:=bo) s_JudgeOwnersT_ok (enters Tryz.func20) Tryz.func20 fun hw=>by
 rw [s_JudgeOwners_ev]
 refine congrArg (fun x=>some (bo,x)) ?_
 show (bif !(townOk p) then ob false else s_JudgeOwnerss0 ((gd p 9).rows.length+1001) p)=ob (judgeOwners p)
 cases ht:townOk p with
 | false=>unfold judgeOwners; rw [ht]; rfl
 | true =>
  simp only [Bool.not_true,cond_false]
  rw [show s_JudgeOwnerss0 ((gd p 9).rows.length+1001) p=nd (iter (s_JudgeOwnersL0 ((gd p 9).rows.length+1001) p) ((gd p 9).rows.length+1001) [gd p 0,gd p 1,gd p 2,gd p 3,gd p 4,gd p 5,gd p 6,gd p 7,gd p 8,gd p 9,gd p 10,gd p 11,gd p 12,gd p 13,gd p 14,.i 0,.i 0,.i 0,gd p 0,gd p 1,gd p 2,gd p 3,gd p 4,gd p 5,gd p 6,gd p 7,gd p 8,gd p 9,gd p 10,gd p 11,gd p 12,gd p 13,gd p 14]).isSome (bif Out.code (iter (s_JudgeOwnersL0 ((gd p 9).rows.length+1001) p) ((gd p 9).rows.length+1001) [gd p 0,gd p 1,gd p 2,gd p 3,gd p 4,gd p 5,gd p 6,gd p 7,gd p 8,gd p 9,gd p 10,gd p 11,gd p 12,gd p 13,gd p 14,.i 0,.i 0,.i 0,gd p 0,gd p 1,gd p 2,gd p 3,gd p 4,gd p 5,gd p 6,gd p 7,gd p 8,gd p 9,gd p 10,gd p 11,gd p 12,gd p 13,gd p 14])==1 then some (1,Out.pay (iter (s_JudgeOwnersL0 ((gd p 9).rows.length+1001) p) ((gd p 9).rows.length+1001) [gd p 0,gd p 1,gd p 2,gd p 3,gd p 4,gd p 5,gd p 6,gd p 7,gd p 8,gd p 9,gd p 10,gd p 11,gd p 12,gd p 13,gd p 14,.i 0,.i 0,.i 0,gd p 0,gd p 1,gd p 2,gd p 3,gd p 4,gd p 5,gd p 6,gd p 7,gd p 8,gd p 9,gd p 10,gd p 11,gd p 12,gd p 13,gd p 14])) else nd (Out.code (iter (s_JudgeOwnersL0 ((gd p 9).rows.length+1001) p) ((gd p 9).rows.length+1001) [gd p 0,gd p 1,gd p 2,gd p 3,gd p 4,gd p 5,gd p 6,gd p 7,gd p 8,gd p 9,gd p 10,gd p 11,gd p 12,gd p 13,gd p 14,.i 0,.i 0,.i 0,gd p 0,gd p 1,gd p 2,gd p 3,gd p 4,gd p 5,gd p 6,gd p 7,gd p 8,gd p 9,gd p 10,gd p 11,gd p 12,gd p 13,gd p 14])==2) (ob true)) from by kernel_rfl]
  rw [s_JOo p ht _ (by omega)]
  rw [show judgeOwners p=(List.range 1000).all (ownersC p) from by unfold judgeOwners; rw [ht,Bool.true_and]]
  cases (List.range 1000).all (ownersC p) <;> rfl
end Go.Proofs.YtchceahcaaibcaaGreat
namespace Go.Proofs.YtchceahcaaibcaaGreat
set_option maxRecDepth 4096
abbrev s_l17PlaceT:FuncId→List T→Option (T × Bool):=find []
theorem s_l17PlaceT_ok:CallOk Tryz.prog s_l17PlaceT:=find_ok (fN)
abbrev s_l17PlaceK:List Nat:= [0,1,2,4,5,10,19]
noncomputable def s_l17PlaceL0 (N:Nat) (p q:List D):List D→Out:=loopOf Tryz.prog s_l17PlaceT N s_l17PlaceK Tryz.f222 ri [⟨ag rICoord,p⟩,⟨ri,q⟩] 0
theorem s_l17PlaceR0 (N:Nat) (p q:List D) (x0 x1 x2 x3 x4 x5 x6 x7:D):(s_l17PlaceL0 N p q) [x0,x1,x2,x3,x4,x5,x6,x7] =
 bif ltI x5.int (x7.rows.length:Int) then nd (inRange x5.int x7.rows.length) (bif (gd (x7.rows.getD x5.int.toNat []) 0).int==x2.int then some (1,[x5])
 else nx [x0,x1,x2,x3,x4,.i (w64 (x5.int+1)),x6,x7])
 else ex 0 [x0,x1,x2,x3,x4,x5,x6,x7]:=by kernel_rfl
theorem s_l17Place_ev (N:Nat) (p q:List D):evFn Tryz.prog s_l17PlaceT N s_l17PlaceK Tryz.f222 ri [⟨ag rICoord,p⟩,⟨ri,q⟩]=some (bo,
 (let o0:=iter (s_l17PlaceL0 N p q) N [gd p 0,gd p 1,gd q 0,.i 0,.i 0,.i 0,gd p 0,gd p 1]
  nd o0.isSome (bif o0.code==1 then some (1,o0.pay)
  else nd (o0.code==2) (oi (-1))))):=by kernel_rfl
def placeOf (o:D) (tx:Int):Int:=ixF (fun k=>tx==(gd (o.rows.getD k []) 0).int) 0 o.rows.length
theorem int_beq_comm (a b:Int):(a==b)=(b==a):=by
 rw [Bool.eq_iff_iff]; simp only [beq_iff_eq]; exact ⟨Eq.symm,Eq.symm⟩
theorem getD_take {l:List (List D)} {k i:Nat} (h:i<k):(l.take k).getD i []=l.getD i []:=by
 rw [List.getD_eq_getElem?_getD,List.getElem?_take_of_lt h,← List.getD_eq_getElem?_getD]
def s_l17PlaceE:Ent:=(222,e2 (ag rICoord) ri fun p q=>(⟨ri,[.i (placeOf (gd p 1) (gd q 0).int)]⟩,true))
theorem s_l17Place_ok:EntOk Tryz.prog s_l17PlaceE:=e2_ok fun p q h=>evFn_sound (N:=(gd p 1).rows.length+1) (ks:=s_l17PlaceK) (key:=bo) s_l17PlaceT_ok (enters Tryz.func222) Tryz.func222 fun hw=>by
 rw [s_l17Place_ev]
 have hl:=wt_at (hw ⟨ag rICoord,p⟩ (by simp)) (j:=1) rfl
 have e:=ix_loop (L:=s_l17PlaceL0 ((gd p 1).rows.length+1) p q) (fun k => [gd p 0,gd p 1,gd q 0,.i 0,.i 0,.i (k:Int),gd p 0,gd p 1]) (gd p 1).rows.length (fun k=>(gd q 0).int==(gd ((gd p 1).rows.getD k []) 0).int) [gd p 0,gd p 1,gd q 0,.i 0,.i 0,.i ((gd p 1).rows.length:Int),gd p 0,gd p 1] (fun k hk=>?_) ?_ (gd p 1).rows.length 0 ((gd p 1).rows.length+1) (by omega) (by omega)
 ·simp only [Int.natCast_zero] at e
  rw [e]
  have hno:=ixF_neg (fun k=>(gd q 0).int==(gd ((gd p 1).rows.getD k []) 0).int) (gd p 1).rows.length 0
  show _=some (bo,some (1,[D.i (ixF (fun k=>(gd q 0).int==(gd ((gd p 1).rows.getD k []) 0).int) 0 (gd p 1).rows.length)]))
  cases hd:decide (ixF (fun k=>(gd q 0).int==(gd ((gd p 1).rows.getD k []) 0).int) 0 (gd p 1).rows.length≥0)
  ·rw [hno hd]; rfl
  ·rfl
 ·show s_l17PlaceL0 _ p q [_,_,_,_,_,.i (k:Int),_,_]=_
  rw [s_l17PlaceR0]
  simp only [int_i,c_lt hk,nd_ix hk,w64_succ hk hl,Int.toNat_natCast,int_beq_comm _ (gd q 0).int]
  cases (gd q 0).int==(gd ((gd p 1).rows.getD k []) 0).int <;> rfl
 ·show s_l17PlaceL0 _ p q [_,_,_,_,_,.i ((gd p 1).rows.length:Int),_,_]=_
  rw [s_l17PlaceR0]
  simp only [int_i,c_nlt]
abbrev i_JudgeOrderT:FuncId→List T→Option (T × Bool):=find [i_judgedE,ixIE]
theorem i_JudgeOrderT_ok:CallOk Tryz.prog i_JudgeOrderT:=find_ok (fC ⟨i_judged_ok,fC ⟨ixI_ok,fN⟩⟩)
abbrev i_JudgeOrderK:List Nat:= [0,1,2,4,5,6,7,9,13,14,15,16,17,32,35,36,37,38,63]
noncomputable def i_JudgeOrderL0 (N:Nat) (p q:List D):List D→Out:=loopOf Tryz.prog i_JudgeOrderT N i_JudgeOrderK Tryz.f116 rb [⟨ag rICoord,p⟩,⟨sd (.sl 88),q⟩] 0
noncomputable def i_JudgeOrderL2 (N:Nat) (p q:List D):List D→Out:=loopOf Tryz.prog i_JudgeOrderT N i_JudgeOrderK Tryz.f116 rb [⟨ag rICoord,p⟩,⟨sd (.sl 88),q⟩] 2
theorem i_JudgeOrderR0 (N:Nat) (p q:List D) (x0 x1 x2 x3 x4 x5 x6 x7 x8 x9 x10:D):(i_JudgeOrderL0 N p q) [x0,x1,x2,x3,x4,x5,x6,x7,x8,x9,x10] =
 bif ltI x8.int x7.int then nd (inRange x8.int x6.rows.length) (bif (gd (x6.rows.getD x8.int.toNat []) 0).int != 1 then nx [x0,x1,x2,x3,x4,x5,x6,x7,.i (w64 (x8.int+1)),x9,x10]
 else bif ltI (ixF (fun k=>(gd (x6.rows.getD x8.int.toNat []) 2).int==(gd (x10.rows.getD k []) 0).int) 0 x10.rows.length) 0 then nx [x0,x1,x2,x3,x4,x5,x6,x7,.i (w64 (x8.int+1)),x9,x10]
 else nd (leI 0 0&&leI 0 x8.int&&leI x8.int (x2.rows.length:Int)) ((let o2:=iter (i_JudgeOrderL2 N p q) N [x0,x1,x2,x3,x4,x5,x6,x7,x8,.b (ltI x8.int x7.int),.i 0,x8,.i (ixF (fun k=>(gd (x6.rows.getD x8.int.toNat []) 2).int==(gd (x10.rows.getD k []) 0).int) 0 x10.rows.length),.b (ltI (ixF (fun k=>(gd (x6.rows.getD x8.int.toNat []) 2).int==(gd (x10.rows.getD k []) 0).int) 0 x10.rows.length) 0),.l (x2.rows.take x8.int.toNat),.i ((x2.rows.take x8.int.toNat).length:Int),.i 0,x9,x10,gd (x6.rows.getD x8.int.toNat []) 0,gd (x6.rows.getD x8.int.toNat []) 1,gd (x6.rows.getD x8.int.toNat []) 2,gd (x6.rows.getD x8.int.toNat []) 3,gd (x6.rows.getD x8.int.toNat []) 4,gd (x6.rows.getD x8.int.toNat []) 5,gd (x6.rows.getD x8.int.toNat []) 6]
  nd o2.isSome (bif o2.code==1 then some (1,o2.pay)
  else nd (o2.code==4) (nx [gd o2.pay 0,gd o2.pay 1,gd o2.pay 2,gd o2.pay 3,gd o2.pay 4,gd o2.pay 5,gd o2.pay 6,gd o2.pay 7,.i (w64 ((gd o2.pay 8).int+1)),gd o2.pay 17,gd o2.pay 18])))))
 else ex 0 [x0,x1,x2,x3,x4,x5,x6,x7,x8,x9,x10]:=by kernel_rfl
theorem i_JudgeOrderR2 (N:Nat) (p q:List D) (x0 x1 x2 x3 x4 x5 x6 x7 x8 x9 x10 x11 x12 x13 x14 x15 x16 x17 x18 x19 x20 x21 x22 x23 x24 x25:D):(i_JudgeOrderL2 N p q) [x0,x1,x2,x3,x4,x5,x6,x7,x8,x9,x10,x11,x12,x13,x14,x15,x16,x17,x18,x19,x20,x21,x22,x23,x24,x25] =
 bif ltI x16.int x15.int then nd (inRange x16.int x14.rows.length) (bif (gd (x14.rows.getD x16.int.toNat []) 0).int==3 then bif (gd (x14.rows.getD x16.int.toNat []) 6).bool then bif (gd (x14.rows.getD x16.int.toNat []) 2).int != x21.int then bif ltI x12.int (ixF (fun k=>(gd (x14.rows.getD x16.int.toNat []) 2).int==(gd (x18.rows.getD k []) 0).int) 0 x18.rows.length) then ob false
 else nx [x0,x1,x2,x3,x4,x5,x6,x7,x8,x9,x10,x11,x12,x13,x14,x15,.i (w64 (x16.int+1)),x17,x18,x19,x20,x21,x22,x23,x24,x25]
 else nx [x0,x1,x2,x3,x4,x5,x6,x7,x8,x9,x10,x11,x12,x13,x14,x15,.i (w64 (x16.int+1)),x17,x18,x19,x20,x21,x22,x23,x24,x25]
 else nx [x0,x1,x2,x3,x4,x5,x6,x7,x8,x9,x10,x11,x12,x13,x14,x15,.i (w64 (x16.int+1)),x17,x18,x19,x20,x21,x22,x23,x24,x25]
 else nx [x0,x1,x2,x3,x4,x5,x6,x7,x8,x9,x10,x11,x12,x13,x14,x15,.i (w64 (x16.int+1)),x17,x18,x19,x20,x21,x22,x23,x24,x25])
 else ex 2 [x0,x1,x2,x3,x4,x5,x6,x7,x8,x9,x10,x11,x12,x13,x14,x15,x16,x17,x18,x19,x20,x21,x22,x23,x24,x25]:=by kernel_rfl
theorem i_JudgeOrder_ev (N:Nat) (p q:List D):evFn Tryz.prog i_JudgeOrderT N i_JudgeOrderK Tryz.f116 rb [⟨ag rICoord,p⟩,⟨sd (.sl 88),q⟩]=some (bo,
 bif !(judged (sub p 0 2) (gd q 0)) then ob false
 else (let o0:=iter (i_JudgeOrderL0 N p q) N [gd p 0,gd p 1,gd q 0,.i 0,.i 0,.b (!(judged (sub p 0 2) (gd q 0))),gd q 0,.i ((gd q 0).rows.length:Int),.i 0,gd p 0,gd p 1]
  nd o0.isSome (bif o0.code==1 then some (1,o0.pay)
  else nd (o0.code==2) (ob true)))):=by kernel_rfl
def badPair (o z:D) (i k:Nat):Bool:=
 ((gd (z.rows.getD i []) 0).int==3)&&((gd (z.rows.getD i []) 6).bool&&(((gd (z.rows.getD k []) 0).int==1)&&(!((gd (z.rows.getD i []) 2).int==(gd (z.rows.getD k []) 2).int) &&
  (leI 0 (placeOf o (gd (z.rows.getD i []) 2).int)&&(leI 0 (placeOf o (gd (z.rows.getD k []) 2).int)&&ltI (placeOf o (gd (z.rows.getD k []) 2).int) (placeOf o (gd (z.rows.getD i []) 2).int))))))
def judgeOrder (p:List D) (z:D):Bool:=judged p z&&(List.range z.rows.length).all fun k=>(List.range k).all fun i => !badPair (gd p 1) z i k
theorem all_true {n:Nat} {C:Nat→Bool} (h:∀ i,i<n→C i=true):(List.range n).all C=true:=by
 rw [List.all_eq_true]; exact fun i hi=>h i (List.mem_range.1 hi)
def i_JudgeOrderE:Ent:=(116,e2 (ag rICoord) (sd (.sl 88)) fun p q=>(⟨rb,[.b (judgeOrder p (gd q 0))]⟩,true))
theorem i_JudgeOrder_ok:EntOk Tryz.prog i_JudgeOrderE:=e2_ok fun p q h=>evFn_sound (N:=201) (ks:=i_JudgeOrderK) (key:=bo) i_JudgeOrderT_ok (enters Tryz.func116) Tryz.func116 fun hw=>by
 rw [i_JudgeOrder_ev]
 rw [show judged (sub p 0 2) (gd q 0)=judged p (gd q 0) from rfl]
 unfold judgeOrder
 cases hj:judged p (gd q 0)
 ·rfl
 ·have h200:(gd q 0).rows.length≤200:=by
   simp only [judged,leI,Bool.and_eq_true,decide_eq_true_eq] at hj
   omega
  have e0:=for_loop (L:=i_JudgeOrderL0 201 p q) (fun k => [gd p 0,gd p 1,gd q 0,.i 0,.i 0,.b false,gd q 0,.i ((gd q 0).rows.length:Int),.i (k:Int),gd p 0,gd p 1]) (gd q 0).rows.length (fun k=>(List.range k).all fun i => !badPair (gd p 1) (gd q 0) i k) [.b false] 0 (fun k hk=>?_) ?_ (N:=201) (by omega)
  ·simp only [Int.natCast_zero] at e0
   simp only [Bool.not_true,cond_false,e0,Bool.true_and]
   cases (List.range (gd q 0).rows.length).all fun k=>(List.range k).all fun i => !badPair (gd p 1) (gd q 0) i k <;> rfl
  ·show i_JudgeOrderL0 _ p q [_,_,_,_,_,_,_,_,.i (k:Int),_,_]=_
   rw [i_JudgeOrderR0]
   have hk':k≤9223372036854775807:=by omega
   have hlt:((gd q 0).rows.take k).length=k:=by rw [List.length_take]; omega
   simp only [int_i,c_lt hk,nd_ix hk,w64_succ hk (show (gd q 0).rows.length≤9223372036854775807 from by omega),Int.toNat_natCast,bne_not,nd_take (Nat.le_of_lt hk),ltI_nat hk,hlt]
   rw [show ixF (fun k_1=>(gd ((gd q 0).rows.getD k []) 2).int==(gd ((gd p 1).rows.getD k_1 []) 0).int) 0 (gd p 1).rows.length=placeOf (gd p 1) (gd ((gd q 0).rows.getD k []) 2).int from rfl]
   cases hb:(gd ((gd q 0).rows.getD k []) 0).int==1
   ·rw [all_true (n:=k) (C:=fun i => !badPair (gd p 1) (gd q 0) i k) (fun i _=>by simp only [badPair,hb,Bool.false_and,Bool.and_false,Bool.not_false])]
    rfl
   cases hp:ltI (placeOf (gd p 1) (gd ((gd q 0).rows.getD k []) 2).int) 0
   ·have hp0:0≤placeOf (gd p 1) (gd ((gd q 0).rows.getD k []) 2).int:=by
     simp only [ltI,decide_eq_false_iff_not] at hp; omega
    have e2:=for_loop (L:=i_JudgeOrderL2 201 p q) (fun j => [gd p 0,gd p 1,gd q 0,.i 0,.i 0,.b false,gd q 0,.i ((gd q 0).rows.length:Int),.i (k:Int),.b true,.i 0,.i (k:Int),.i (placeOf (gd p 1) (gd ((gd q 0).rows.getD k []) 2).int),.b false,.l ((gd q 0).rows.take k),.i (k:Int),.i (j:Int),gd p 0,gd p 1,gd ((gd q 0).rows.getD k []) 0,gd ((gd q 0).rows.getD k []) 1,gd ((gd q 0).rows.getD k []) 2,gd ((gd q 0).rows.getD k []) 3,gd ((gd q 0).rows.getD k []) 4,gd ((gd q 0).rows.getD k []) 5,gd ((gd q 0).rows.getD k []) 6]) k (fun i => !badPair (gd p 1) (gd q 0) i k) [.b false] 2 (fun j hj=>?_) ?_ (N:=201) (by omega)
    ·simp only [Int.natCast_zero] at e2
     simp only [Bool.not_true,cond_false,e2]
     cases (List.range k).all fun i => !badPair (gd p 1) (gd q 0) i k
     ·rfl
     ·simp only [nd,cond_true,cond_false,Option.isSome_some,Out.code,Out.pay,Option.getD_some,gd_cons_zero,gd_cons_succ,Nat.reduceBEq,Nat.reduceAdd,int_i,bool_b,str_s,rows_l,Bool.not_true,Bool.not_false,beq_self_eq_true,int_i,w64_succ hk (show (gd q 0).rows.length≤9223372036854775807 from by omega)]
    ·show i_JudgeOrderL2 _ p q [_,_,_,_,_,_,_,_,_,_,_,_,_,_,.l ((gd q 0).rows.take k),.i (k:Int),.i (j:Int),_,_,_,_,_,_,_,_,_]=_
     rw [i_JudgeOrderR2]
     simp only [int_i,rows_l,c_lt hj,hlt,nd_ix hj,w64_succ hj hk',Int.toNat_natCast,bne_not,getD_take hj]
     rw [show ixF (fun k_1=>(gd ((gd q 0).rows.getD j []) 2).int==(gd ((gd p 1).rows.getD k_1 []) 0).int) 0 (gd p 1).rows.length=placeOf (gd p 1) (gd ((gd q 0).rows.getD j []) 2).int from rfl]
     simp only [badPair,hb,leI_t hp0,Bool.true_and]
     have hpp:(leI 0 (placeOf (gd p 1) (gd ((gd q 0).rows.getD j []) 2).int)&&ltI (placeOf (gd p 1) (gd ((gd q 0).rows.getD k []) 2).int) (placeOf (gd p 1) (gd ((gd q 0).rows.getD j []) 2).int))=ltI (placeOf (gd p 1) (gd ((gd q 0).rows.getD k []) 2).int) (placeOf (gd p 1) (gd ((gd q 0).rows.getD j []) 2).int):=by
      rw [Bool.eq_iff_iff]
      simp only [leI,ltI,Bool.and_eq_true,decide_eq_true_eq]
      omega
     rw [hpp]
     cases (gd ((gd q 0).rows.getD j []) 0).int==3 <;> cases (gd ((gd q 0).rows.getD j []) 6).bool <;> cases (gd ((gd q 0).rows.getD j []) 2).int==(gd ((gd q 0).rows.getD k []) 2).int <;> cases ltI (placeOf (gd p 1) (gd ((gd q 0).rows.getD k []) 2).int) (placeOf (gd p 1) (gd ((gd q 0).rows.getD j []) 2).int) <;> rfl
    ·show i_JudgeOrderL2 _ p q [_,_,_,_,_,_,_,_,_,_,_,_,_,_,_,.i (k:Int),.i (k:Int),_,_,_,_,_,_,_,_,_]=_
     rw [i_JudgeOrderR2]
     simp only [int_i,c_nlt]
   ·have hp0:placeOf (gd p 1) (gd ((gd q 0).rows.getD k []) 2).int<0:=by
     simp only [ltI,decide_eq_true_eq] at hp; omega
    rw [all_true (n:=k) (C:=fun i => !badPair (gd p 1) (gd q 0) i k) (fun i _=>by simp only [badPair,leI_f hp0,Bool.false_and,Bool.and_false,Bool.not_false])]
    rfl
  ·show i_JudgeOrderL0 _ p q [_,_,_,_,_,_,_,.i ((gd q 0).rows.length:Int),.i ((gd q 0).rows.length:Int),_,_]=_
   rw [i_JudgeOrderR0]
   simp only [int_i,c_nlt]
abbrev s_JudgeOrderT:FuncId→List T→Option (T × Bool):=find [s_l17RightE,s_l17PlaceE]
theorem s_JudgeOrderT_ok:CallOk Tryz.prog s_JudgeOrderT:=find_ok (fC ⟨s_l17Right_ok,fC ⟨s_l17Place_ok,fN⟩⟩)
abbrev s_JudgeOrderK:List Nat:= [0,1,2,4,5,6,7,8,9,10,14,18,26,56,75]
noncomputable def s_JudgeOrderL0 (N:Nat) (p q:List D):List D→Out:=loopOf Tryz.prog s_JudgeOrderT N s_JudgeOrderK Tryz.f113 rb [⟨ag rICoord,p⟩,⟨sd (.sl 88),q⟩] 0
noncomputable def s_JudgeOrderL2 (N:Nat) (p q:List D):List D→Out:=loopOf Tryz.prog s_JudgeOrderT N s_JudgeOrderK Tryz.f113 rb [⟨ag rICoord,p⟩,⟨sd (.sl 88),q⟩] 2
theorem s_JudgeOrderR0 (N:Nat) (p q:List D) (x0 x1 x2 x3 x4 x5 x6 x7 x8:D):(s_JudgeOrderL0 N p q) [x0,x1,x2,x3,x4,x5,x6,x7,x8] =
 bif ltI x6.int (x2.rows.length:Int) then (let o2:=iter (s_JudgeOrderL2 N p q) N [x0,x1,x2,x3,x4,x5,x6,.b (ltI x6.int (x2.rows.length:Int)),.i (w64 (x6.int+1)),x7,x8]
  nd o2.isSome (bif o2.code==1 then some (1,o2.pay)
  else nd (o2.code==4) (nx [gd o2.pay 0,gd o2.pay 1,gd o2.pay 2,gd o2.pay 3,gd o2.pay 4,gd o2.pay 5,.i (w64 ((gd o2.pay 6).int+1)),gd o2.pay 9,gd o2.pay 10])))
 else ex 0 [x0,x1,x2,x3,x4,x5,x6,x7,x8]:=by kernel_rfl
theorem s_JudgeOrderR2 (N:Nat) (p q:List D) (x0 x1 x2 x3 x4 x5 x6 x7 x8 x9 x10:D):(s_JudgeOrderL2 N p q) [x0,x1,x2,x3,x4,x5,x6,x7,x8,x9,x10] =
 bif ltI x8.int (x2.rows.length:Int) then nd (inRange x6.int x2.rows.length) (nd (inRange x8.int x2.rows.length) (bif (gd (x2.rows.getD x6.int.toNat []) 0).int != 3 then nx [x0,x1,x2,x3,x4,x5,x6,x7,.i (w64 (x8.int+1)),x9,x10]
 else bif !(gd (x2.rows.getD x6.int.toNat []) 6).bool then nx [x0,x1,x2,x3,x4,x5,x6,x7,.i (w64 (x8.int+1)),x9,x10]
 else bif (gd (x2.rows.getD x8.int.toNat []) 0).int != 1 then nx [x0,x1,x2,x3,x4,x5,x6,x7,.i (w64 (x8.int+1)),x9,x10]
 else bif (gd (x2.rows.getD x6.int.toNat []) 2).int==(gd (x2.rows.getD x8.int.toNat []) 2).int then nx [x0,x1,x2,x3,x4,x5,x6,x7,.i (w64 (x8.int+1)),x9,x10]
 else bif leI 0 (placeOf x10 (gd (x2.rows.getD x6.int.toNat []) 2).int) then bif leI 0 (placeOf x10 (gd (x2.rows.getD x8.int.toNat []) 2).int) then bif ltI (placeOf x10 (gd (x2.rows.getD x8.int.toNat []) 2).int) (placeOf x10 (gd (x2.rows.getD x6.int.toNat []) 2).int) then ob false
 else nx [x0,x1,x2,x3,x4,x5,x6,x7,.i (w64 (x8.int+1)),x9,x10]
 else nx [x0,x1,x2,x3,x4,x5,x6,x7,.i (w64 (x8.int+1)),x9,x10]
 else nx [x0,x1,x2,x3,x4,x5,x6,x7,.i (w64 (x8.int+1)),x9,x10]))
 else ex 2 [x0,x1,x2,x3,x4,x5,x6,x7,x8,x9,x10]:=by kernel_rfl
theorem s_JudgeOrder_ev (N:Nat) (p q:List D):evFn Tryz.prog s_JudgeOrderT N s_JudgeOrderK Tryz.f113 rb [⟨ag rICoord,p⟩,⟨sd (.sl 88),q⟩]=some (bo,
 bif !(judged (sub p 0 2) (gd q 0)) then ob false
 else (let o0:=iter (s_JudgeOrderL0 N p q) N [gd p 0,gd p 1,gd q 0,.i 0,.i 0,.b (!(judged (sub p 0 2) (gd q 0))),.i 0,gd p 0,gd p 1]
  nd o0.isSome (bif o0.code==1 then some (1,o0.pay)
  else nd (o0.code==2) (ob true)))):=by kernel_rfl
theorem all_pairs (n:Nat) (C:Nat→Nat→Bool):((List.range n).all fun k=>(List.range k).all fun i=>C i k)=(List.range n).all fun i=>(List.range (n - (i+1))).all fun m=>C i (i+1+m):=by
 rw [Bool.eq_iff_iff]
 simp only [List.all_eq_true,List.mem_range]
 constructor
 ·intro h i hi m hm
  exact h (i+1+m) (by omega) i (by omega)
 ·intro h k hk i hi
  have:=h i (by omega) (k - (i+1)) (by omega)
  rwa [show i+1+(k - (i+1))=k from by omega] at this
def s_JudgeOrderE:Ent:=(113,e2 (ag rICoord) (sd (.sl 88)) fun p q=>(⟨rb,[.b (judgeOrder p (gd q 0))]⟩,true))
theorem s_JudgeOrder_ok:EntOk Tryz.prog s_JudgeOrderE:=e2_ok fun p q h=>evFn_sound (N:=201) (ks:=s_JudgeOrderK) (key:=bo) s_JudgeOrderT_ok (enters Tryz.func113) Tryz.func113 fun hw=>by
 rw [s_JudgeOrder_ev]
 rw [show judged (sub p 0 2) (gd q 0)=judged p (gd q 0) from rfl]
 unfold judgeOrder
 rw [all_pairs]
 cases hj:judged p (gd q 0)
 ·rfl
 ·have h200:(gd q 0).rows.length≤200:=by
   simp only [judged,leI,Bool.and_eq_true,decide_eq_true_eq] at hj
   omega
  have e0:=for_loop (L:=s_JudgeOrderL0 201 p q) (fun k => [gd p 0,gd p 1,gd q 0,.i 0,.i 0,.b false,.i (k:Int),gd p 0,gd p 1]) (gd q 0).rows.length (fun i=>(List.range ((gd q 0).rows.length - (i+1))).all fun m => !badPair (gd p 1) (gd q 0) i (i+1+m)) [.b false] 0 (fun k hk=>?_) ?_ (N:=201) (by omega)
  ·simp only [Int.natCast_zero] at e0
   simp only [Bool.not_true,cond_false,e0,Bool.true_and]
   cases (List.range (gd q 0).rows.length).all fun i=>(List.range ((gd q 0).rows.length - (i+1))).all fun m => !badPair (gd p 1) (gd q 0) i (i+1+m) <;> rfl
  ·show s_JudgeOrderL0 _ p q [_,_,_,_,_,_,.i (k:Int),_,_]=_
   rw [s_JudgeOrderR0]
   simp only [int_i,ltI_nat hk,cond_true,w64_succ hk (show (gd q 0).rows.length≤9223372036854775807 from by omega)]
   have e2:=for_loop (L:=s_JudgeOrderL2 201 p q) (fun m => [gd p 0,gd p 1,gd q 0,.i 0,.i 0,.b false,.i (k:Int),.b true,.i ((k+1+m:Nat):Int),gd p 0,gd p 1]) ((gd q 0).rows.length - (k+1)) (fun m => !badPair (gd p 1) (gd q 0) k (k+1+m)) [.b false] 2 (fun m hm=>?_) ?_ (N:=201) (by omega)
   ·simp only [Nat.add_zero] at e2
    rw [e2]
    cases (List.range ((gd q 0).rows.length - (k+1))).all fun m => !badPair (gd p 1) (gd q 0) k (k+1+m)
    ·rfl
    ·simp only [nd,cond_true,cond_false,Option.isSome_some,Out.code,Out.pay,Option.getD_some,gd_cons_zero,gd_cons_succ,Nat.reduceBEq,Nat.reduceAdd,int_i,bool_b,str_s,rows_l,Bool.not_true,Bool.not_false,beq_self_eq_true,int_i,w64_succ hk (show (gd q 0).rows.length≤9223372036854775807 from by omega)]
   ·have hm':k+1+m<(gd q 0).rows.length:=by omega
    show s_JudgeOrderL2 _ p q [_,_,_,_,_,_,.i (k:Int),_,.i ((k+1+m:Nat):Int),_,_]=_
    rw [s_JudgeOrderR2]
    simp only [int_i,c_lt hm',nd_ix hm',nd_ix hk,w64_succ hm' (show (gd q 0).rows.length≤9223372036854775807 from by omega),Int.toNat_natCast,bne_not,badPair]
    generalize placeOf (gd p 1) (gd ((gd q 0).rows.getD k []) 2).int=pa
    generalize placeOf (gd p 1) (gd ((gd q 0).rows.getD (k+1+m) []) 2).int=pb
    cases (gd ((gd q 0).rows.getD k []) 0).int==3 <;> try rfl
    cases (gd ((gd q 0).rows.getD k []) 6).bool <;> try rfl
    cases (gd ((gd q 0).rows.getD (k+1+m) []) 0).int==1 <;> try rfl
    cases (gd ((gd q 0).rows.getD k []) 2).int==(gd ((gd q 0).rows.getD (k+1+m) []) 2).int <;> cases leI 0 pa <;> cases leI 0 pb <;> cases ltI pb pa <;> rfl
   ·have hn:k+1+((gd q 0).rows.length - (k+1))=(gd q 0).rows.length:=by omega
    show s_JudgeOrderL2 _ p q [_,_,_,_,_,_,_,_,.i ((k+1+((gd q 0).rows.length - (k+1)):Nat):Int),_,_]=some (2+2,[_,_,_,_,_,_,_,_,.i ((k+1+((gd q 0).rows.length - (k+1)):Nat):Int),_,_])
    rw [hn,s_JudgeOrderR2]
    simp only [int_i,c_nlt]
  ·show s_JudgeOrderL0 _ p q [_,_,_,_,_,_,.i ((gd q 0).rows.length:Int),_,_]=_
   rw [s_JudgeOrderR0]
   simp only [int_i,c_nlt]
end Go.Proofs.YtchceahcaaibcaaGreat
namespace Go.Proofs.YtchceahcaaibcaaGreat
set_option maxRecDepth 4096
set_option maxHeartbeats 1000000
abbrev i_JudgeTownT:FuncId→List T→Option (T × Bool):=find [i_JudgeOwnersE,i_JudgeReadsE,i_JudgeOrderE,i_JudgeEndsE,i_JudgeValuesE]
theorem i_JudgeTownT_ok:CallOk Tryz.prog i_JudgeTownT:=find_ok (fC ⟨i_JudgeOwners_ok,fC ⟨i_JudgeReads_ok,fC ⟨i_JudgeOrder_ok,fC ⟨i_JudgeEnds_ok,fC ⟨i_JudgeValues_ok,fN⟩⟩⟩⟩⟩)
abbrev i_JudgeTownK:List Nat:= [0,1,2]
theorem i_JudgeTown_ev (N:Nat) (p:List D):evFn Tryz.prog i_JudgeTownT N i_JudgeTownK Tryz.f39 rb [⟨ag rITown,p⟩]=some (bo,
 nd (townSmall (sub p 0 15)) (bif judgeOwners (sub p 0 15) then bif judgeReadsI (sub p 10 2) (gd p 14) then bif judgeOrder (sub p 10 2) (gd p 14) then bif judgeEnds (sub p 10 2) (gd p 14) then nd (townSmall (sub p 0 15)) (ob (judgeValues (sub p 0 15)))
 else ob false
 else ob false
 else ob false
 else ob false)):=by kernel_rfl
def judgeTown (p:List D):Bool:=judgeOwners p&&(judgeReadsI (sub p 10 2) (gd p 14)&&(judgeOrder (sub p 10 2) (gd p 14)&&(judgeEnds (sub p 10 2) (gd p 14)&&judgeValues p)))
theorem town_reads {p:List D} (h:townOk p=true):judgeReadsI (sub p 10 2) (gd p 14)=judgeReadsS (sub p 10 2) (gd p 14):=by
 refine reads_same (town_coordOk h) fun k hk h2=>?_
 unfold townOk at h
 simp only [Bool.and_eq_true] at h
 have h4:=h.2.2.2.2.2.2.2.2.2.2.2.2
 unfold shardA at h4
 have he:=List.all_eq_true.1 h4 k (List.mem_range.2 hk)
 unfold townC4 eventOk at he
 simp only [Bool.and_eq_true] at he
 have hr:=he.2.2.2.2
 rw [show (gd (sub ((gd p 14).rows.getD k []) 0 7) 0).int=(gd ((gd p 14).rows.getD k []) 0).int from rfl,h2,show ((2:Int)==2)=true from rfl,cond_true,Bool.and_eq_true] at hr
 have hr:=hr.1
 unfold rangeOk at hr
 simp only [Bool.and_eq_true,decide_eq_true_eq] at hr
 have e3:(gd [gd (sub ((gd p 14).rows.getD k []) 0 7) 3,gd (sub ((gd p 14).rows.getD k []) 0 7) 4] 0).int=(gd ((gd p 14).rows.getD k []) 3).int:=rfl
 have e4:(gd [gd (sub ((gd p 14).rows.getD k []) 0 7) 3,gd (sub ((gd p 14).rows.getD k []) 0 7) 4] 1).int=(gd ((gd p 14).rows.getD k []) 4).int:=rfl
 rw [e3,e4] at hr
 omega
def i_JudgeTownE:Ent:=(39,e1 (ag rITown) fun p=>(⟨rb,[.b (judgeTown p)]⟩,townSmall p))
theorem i_JudgeTown_ok:EntOk Tryz.prog i_JudgeTownE:=e1_ok fun p h=>evFn_sound (N:=0) (ks:=i_JudgeTownK) (key:=bo) i_JudgeTownT_ok (enters Tryz.func39) Tryz.func39 fun hw=>by
 rw [i_JudgeTown_ev]
 have h:townSmall p=true:=h
 rw [show townSmall (sub p 0 15)=townSmall p from rfl,show judgeOwners (sub p 0 15)=judgeOwners p from rfl,show judgeValues (sub p 0 15)=judgeValues p from rfl,h,nd_true]
 unfold judgeTown
 cases judgeOwners p <;> cases judgeReadsI (sub p 10 2) (gd p 14) <;> cases judgeOrder (sub p 10 2) (gd p 14) <;> cases judgeEnds (sub p 10 2) (gd p 14) <;> rfl
abbrev s_JudgeTownT:FuncId→List T→Option (T × Bool):=find [s_JudgeReadsE,s_JudgeOrderE,s_JudgeEndsE,s_JudgeOwnersE,s_JudgeValuesE]
theorem s_JudgeTownT_ok:CallOk Tryz.prog s_JudgeTownT:=find_ok (fC ⟨s_JudgeReads_ok,fC ⟨s_JudgeOrder_ok,fC ⟨s_JudgeEnds_ok,fC ⟨s_JudgeOwners_ok,fC ⟨s_JudgeValues_ok,fN⟩⟩⟩⟩⟩)
abbrev s_JudgeTownK:List Nat:= [0,1,2]
theorem s_JudgeTown_ev (N:Nat) (p:List D):evFn Tryz.prog s_JudgeTownT N s_JudgeTownK Tryz.f38 rb [⟨ag rITown,p⟩]=some (bo,
 bif judgeReadsS (sub p 10 2) (gd p 14) then bif judgeOrder (sub p 10 2) (gd p 14) then bif judgeEnds (sub p 10 2) (gd p 14) then bif judgeOwners (sub p 0 15) then nd (townSmall (sub p 0 15)) (ob (judgeValues (sub p 0 15)))
 else ob false
 else ob false
 else ob false
 else ob false):=by kernel_rfl
def s_JudgeTownE:Ent:=(38,e1 (ag rITown) fun p=>(⟨rb,[.b (judgeTown p)]⟩,townSmall p))
theorem s_JudgeTown_ok:EntOk Tryz.prog s_JudgeTownE:=e1_ok fun p h=>evFn_sound (N:=0) (ks:=s_JudgeTownK) (key:=bo) s_JudgeTownT_ok (enters Tryz.func38) Tryz.func38 fun hw=>by
 rw [s_JudgeTown_ev]
 have h:townSmall p=true:=h
 rw [show townSmall (sub p 0 15)=townSmall p from rfl,show judgeOwners (sub p 0 15)=judgeOwners p from rfl,show judgeValues (sub p 0 15)=judgeValues p from rfl,h]
 unfold judgeTown
 cases ho:judgeOwners p with
 | false=>cases judgeReadsS (sub p 10 2) (gd p 14) <;> cases judgeOrder (sub p 10 2) (gd p 14) <;> cases judgeEnds (sub p 10 2) (gd p 14) <;> rfl
 | true =>
  have ht:townOk p=true:=by
   unfold judgeOwners at ho
   rw [Bool.and_eq_true] at ho
   exact ho.1
  rw [town_reads ht]
  cases judgeReadsS (sub p 10 2) (gd p 14) <;> cases judgeOrder (sub p 10 2) (gd p 14) <;> cases judgeEnds (sub p 10 2) (gd p 14) <;> rfl
end Go.Proofs.YtchceahcaaibcaaGreat
namespace Go.Proofs.YtchceahcaaibcaaGreat
open Go.ChangeShapes Go.WideShapes Go.ChangeAt Go.RowKit Go.Deep
def prot0 (w:World) (b:Nat):Nat:=
 match w.heap[b]? with
 | some (.cells arr _ _)=>arr.size
 | _=>0
theorem prot0_cell {w:World} {b o:Nat} {u:Value} (h:w.cell? ⟨b,o,none⟩=some u):o<prot0 w b:=by
 unfold World.cell? at h
 simp only at h
 unfold prot0
 cases hb:w.heap[b]? with
 | none=>rw [hb] at h; cases h
 | some x =>
  rw [hb] at h
  cases x with
  | cells arr t f =>
   simp only at h ⊢
   exact (Array.getElem?_eq_some_iff.1 h).1
  | _=>simp at h
theorem prot0_fresh {w:World} {b:Nat} (h:w.heap.size≤b):prot0 w b=0:=by
 unfold prot0
 rw [Array.getElem?_eq_none h]
def coverB (P:Program) (row:List S) (fs:Array Field):Bool:=
 (List.range row.length).all fun j=>(List.range fs.size).any fun i=>match fs[i]? with
  | some f=>match rowOf P f.type with
   | some rf=>decide (f.offset≤j)&&decide (j<f.offset+rf.length)&&rf.length==P.cellsOf f.type&&rf[j - f.offset]?==row[j]?
   | none=>false
  | none=>false
def layB (P:Program):Nat→TypeId→Bool
 | 0,_=>false
 | n+1,T=>match P.underlying T,rowOf P T with
  | some (.int k),some row=>row == [.int k]
  | some .bool,some row=>row == [.bool]
  | some .string,some row=>row == [.str]
  | some (.slice e),some row=>row == [.sl e]&&(match rowOf P e with | some re=>P.cellsOf e==re.length && !re.isEmpty&&layB P n e | none=>false)
  | some (.struct fs),some row=>coverB P row fs&&P.cellsOf T==row.length&&fs.toList.all fun f=>layB P n f.type
  | _,_=>false
theorem choose_pay {Q:Nat→D→Prop} (n:Nat) (h:∀ i,i<n→∃ x,Q i x):∃ l:List D,l.length=n∧∀ i,i<n→Q i (gd l i):=by
 induction n with
 | zero=>exact ⟨[],rfl,fun i hi=>by omega⟩
 | succ n ih =>
  obtain ⟨l,hl,hq⟩:=ih (fun i hi=>h i (by omega))
  obtain ⟨x,hx⟩:=h n (by omega)
  refine ⟨l ++ [x],by simp [hl],fun i hi=>?_⟩
  by_cases hin:i<n
  ·have:gd (l ++ [x]) i=gd l i:=by
    simp only [gd,List.getD_eq_getElem?_getD]
    rw [List.getElem?_append_left (by omega)]
   rw [this]; exact hq i hin
  ·obtain rfl:i=n:=by omega
   have:gd (l ++ [x]) i=x:=by
    simp only [gd,List.getD_eq_getElem?_getD]
    rw [List.getElem?_append_right (by omega),hl]
    simp
   rw [this]; exact hx
theorem choose_rows {Q:Nat→List D→Prop} (n:Nat) (h:∀ i,i<n→∃ x,Q i x):∃ l:List (List D),l.length=n∧∀ i,i<n→Q i (l.getD i []):=by
 induction n with
 | zero=>exact ⟨[],rfl,fun i hi=>by omega⟩
 | succ n ih =>
  obtain ⟨l,hl,hq⟩:=ih (fun i hi=>h i (by omega))
  obtain ⟨x,hx⟩:=h n (by omega)
  refine ⟨l ++ [x],by simp [hl],fun i hi=>?_⟩
  by_cases hin:i<n
  ·rw [List.getD_eq_getElem?_getD,List.getElem?_append_left (by omega),← List.getD_eq_getElem?_getD]; exact hq i hin
  ·obtain rfl:i=n:=by omega
   rw [List.getD_eq_getElem?_getD,List.getElem?_append_right (by omega),hl]
   simpa using hx
theorem spot_none' {w:World} {a:Addr} {v:Value} (h:w.cell? a=some v):a=⟨a.block,a.off,none⟩:=by
 cases hs:a.spot with
 | none=>cases a; simp at hs; subst hs; rfl
 | some s =>
  unfold World.cell? at h
  rw [hs] at h
  simp at h
  split at h <;> simp at h
theorem add_mk' {b o i:Nat}:(⟨b,o,none⟩:Addr).add i=⟨b,o+i,none⟩:=by
 unfold Addr.add
 split
 ·rename_i h; rw [h]; rfl
 ·rfl
theorem trod_vd {H:Type} {enc:TypeId × Value→H} {P:Program} {W:World} {base:Nat} {spare:Nat→Bool} {held:Bool}:∀ (n:Nat) (T:TypeId) (row:List S),layB P n T=true→rowOf P T=some row →
  ∀ (fuel:Nat) (cs:List Value) (y:DataW H × List MemPlace),DataW.trod enc P W base spare held fuel T cs=some y →
  ∃ p:List D,cs.length=row.length∧∀ j s,row[j]?=some s→∃ u,cs[j]?=some u∧VD P W (prot0 W) s (gd p j) u
 | 0,T,row,hl,_,_,_,_,_=>by cases hl
 | n+1,T,row,hl,hrow,fuel,cs,y,h=>by
  rw [layB,hrow] at hl
  split at hl
  ·rename_i k row' hu hr'
   injection hr' with hr'; subst hr'
   have hl:row = [.int k]:=by simpa using hl
   subst hl
   obtain ⟨a,e,_,_⟩:=DataW.trod_int hu h
   subst e
   refine ⟨[.i a],rfl,fun j s hs=>?_⟩
   match j,hs with
   | 0,hs=>injection hs with hs; subst hs; exact ⟨_,rfl,.int k (.i a)⟩
  ·rename_i row' hu hr'
   injection hr' with hr'; subst hr'
   have hl:row = [.bool]:=by simpa using hl
   subst hl
   obtain ⟨a,e,_⟩:=DataW.trod_bool hu h
   subst e
   refine ⟨[.b a],rfl,fun j s hs=>?_⟩
   match j,hs with
   | 0,hs=>injection hs with hs; subst hs; exact ⟨_,rfl,.bool (.b a)⟩
  ·rename_i row' hu hr'
   injection hr' with hr'; subst hr'
   have hl:row = [.str]:=by simpa using hl
   subst hl
   obtain ⟨a,e,_⟩:=DataW.trod_string hu h
   subst e
   refine ⟨[.s (byteList a)],rfl,fun j s hs=>?_⟩
   match j,hs with
   | 0,hs =>
    injection hs with hs; subst hs
    have:=VD.str (P:=P) (w:=W) (prot:=prot0 W) (.s (byteList a))
    rw [str_s,bsv_byteList] at this
    exact ⟨_,rfl,this⟩
  ·rename_i e row' hu hr'
   injection hr' with hr'; subst hr'
   simp only [Bool.and_eq_true] at hl
   obtain ⟨hl0,hl⟩:=hl
   have hl0:row = [.sl e]:=by simpa using hl0
   subst hl0
   split at hl
   ·rename_i re hre
    simp only [Bool.and_eq_true,beq_iff_eq,Bool.not_eq_true'] at hl
    obtain ⟨⟨hc,hne⟩,hle⟩:=hl
    have hpos:0<re.length:=by cases re with | nil=>cases hne | cons=>simp
    rcases open_slice hu h with ⟨rfl,_⟩ | ⟨a,len,cap,m,nn,Dd,Pl,rfl,hb,hlc,hm,hmm,hx,hi⟩
    ·refine ⟨[.l []],rfl,fun j s hs=>?_⟩
     match j,hs with
     | 0,hs=>injection hs with hs; subst hs; exact ⟨_,rfl,.sl e (.l []) none 0 re (fun _ _=>undef) hre (Nat.zero_le _) (by omega) (fun i j hi=>absurd hi (Nat.not_lt_zero _)) (fun i j s hi=>absurd hi (Nat.not_lt_zero _))⟩
    ·have hlm:len≤m:=by rw [hmm]; split <;> omega
     have ha:0<len→a=⟨a.block,a.off,none⟩:=by
      intro h0
      obtain ⟨cs0,hc0,_⟩:=hi 0 (by omega)
      rw [hc] at hc0
      obtain ⟨_,hcl0,hat0⟩:=World.cells?_some hc0
      have h00:=hat0 0 hpos
      rw [List.getElem?_eq_getElem (by omega)] at h00
      have:=spot_none' h00
      rw [Nat.zero_mul] at this
      simpa [Addr.add] using this
     have hq:∀ i,i<len→∃ p:List D,∀ j s,re[j]?=some s→∃ u,W.cell? ⟨a.block,a.off+(i*re.length+j),none⟩=some u∧VD P W (prot0 W) s (gd p j) u:=by
      intro i hil
      obtain ⟨cs',hcs,htr⟩:=hi i (by omega)
      rw [hc] at hcs
      obtain ⟨_,hcl,hat⟩:=World.cells?_some hcs
      obtain ⟨p,_,hp⟩:=trod_vd n e re hle hre nn cs' _ htr
      refine ⟨p,fun j s hs=>?_⟩
      obtain ⟨u,hu,hv⟩:=hp j s hs
      have hj:=(List.getElem?_eq_some_iff.1 hs).1
      have:=hat j hj
      rw [hu,ha (by omega),add_mk',add_mk'] at this
      refine ⟨u,?_,hv⟩
      rw [← this]; congr 2; omega
     obtain ⟨l,hll,hlq⟩:=choose_rows len hq
     refine ⟨[.l l],rfl,fun j s hs=>?_⟩
     match j,hs with
     | 0,hs =>
      injection hs with hs; subst hs
      refine ⟨_,rfl,?_⟩
      have hsl:=VD.sl (P:=P) (w:=W) (prot:=prot0 W) e (.l l) (some a) cap re (fun i j=>(W.cell? ⟨a.block,a.off+(i*re.length+j),none⟩).getD undef) hre (by rw [rows_l]; omega) (by unfold maxLen at hm; omega) ?_ ?_
      ·rw [rows_l,hll] at hsl; exact hsl
      ·intro i j hi hj
       rw [rows_l,hll] at hi
       obtain ⟨u,hu,_⟩:=hlq i hi j re[j] (List.getElem?_eq_getElem hj)
       refine ⟨a.block,a.off,by rw [← ha (by omega)],?_,prot0_cell hu⟩
       rw [hu]; rfl
      ·intro i j s hi hs
       rw [rows_l,hll] at hi
       obtain ⟨u,hu,hv⟩:=hlq i hi j s hs
       show VD P W (prot0 W) s (gd (l.getD i []) j) ((W.cell? ⟨a.block,a.off+(i*re.length+j),none⟩).getD undef)
       rw [hu]; exact hv
   ·cases hl
  ·rename_i fs row' hu hr'
   injection hr' with hr'; subst hr'
   simp only [Bool.and_eq_true,beq_iff_eq] at hl
   obtain ⟨⟨hcov,hct⟩,hall⟩:=hl
   obtain ⟨xs,nn,_,_,hlen,hlx,hg⟩:=DataW.trod_struct hu h
   rw [hct] at hlen
   have hq:∀ j,j<row.length→∃ d:D,∀ s,row[j]?=some s→∃ u,cs[j]?=some u∧VD P W (prot0 W) s d u:=by
    intro j hj
    unfold coverB at hcov
    rw [List.all_eq_true] at hcov
    have hcj:=hcov j (List.mem_range.2 hj)
    rw [List.any_eq_true] at hcj
    obtain ⟨i,hi,hci⟩:=hcj
    have hi:=List.mem_range.1 hi
    split at hci
    ·rename_i f hf
     split at hci
     ·rename_i rf hrf
      simp only [Bool.and_eq_true,decide_eq_true_eq,beq_iff_eq] at hci
      obtain ⟨⟨⟨k1,k2⟩,k3⟩,k4⟩:=hci
      have hlf:layB P n f.type=true:=by
       rw [List.all_eq_true] at hall
       exact hall f (by
        have:=Array.getElem?_eq_some_iff.1 hf
        obtain ⟨h1,h2⟩:=this
        rw [← h2]; simp)
      have htr:=hg i f hf
      rw [List.getElem?_eq_getElem (by rw [hlx]; exact hi)] at htr
      obtain ⟨p,hpl,hp⟩:=trod_vd n f.type rf hlf hrf nn _ _ htr
      refine ⟨gd p (j - f.offset),fun s hs=>?_⟩
      rw [hs] at k4
      obtain ⟨u,hu',hv⟩:=hp _ _ k4
      refine ⟨u,?_,hv⟩
      rw [List.getElem?_take_of_lt (by omega),List.getElem?_drop] at hu'
      rw [← hu']; congr 1; omega
     ·cases hci
    ·cases hci
   obtain ⟨p,_,hp⟩:=choose_pay row.length hq
   exact ⟨p,hlen,fun j s hs=>hp j (List.getElem?_eq_some_iff.1 hs).1 s hs⟩
  ·cases hl
theorem arg_agg {H:Type} {enc:TypeId × Value→H} {P:Program} {W:World} {base:Nat} {spare:Nat→Bool} {held:Bool} {r:Reach} {b0:Nat} {T:TypeId} {fs:Array Field} {row:List S} {v:Value} {d:DataW H} {ps:List MemPlace}
  (hs:P.underlying T=some (.struct fs)) (hrow:rowOf P T=some row) (hl:layB P 12 T=true) (hv:Value.okWide P W r b0 T v) (hy:DataW.Trod enc P W base spare held T v d ps) :
  ∃ p,VT P W (g0 (prot0 W)) W.heap.size ⟨.one (.agg (row.map .d)),p⟩ v:=by
 obtain ⟨cs,rfl,hsz⟩:=okWide_struct hs hv
 obtain ⟨fuel,hf⟩:=hy
 obtain ⟨p,hpl,hp⟩:=trod_vd 12 T row hl hrow fuel _ _ hf
 refine ⟨p,cs,rfl,?_,fun j c hc=>?_⟩
 ·have:cs.toList.length=row.length:=hpl
  simpa using this
 ·rw [List.getElem?_map] at hc
  cases hr:row[j]? with
  | none=>rw [hr] at hc; cases hc
  | some s =>
   rw [hr] at hc
   injection hc with hc
   subst hc
   obtain ⟨u,hu,hvd⟩:=hp j s hr
   have hu:cs.toList[j]?=some u:=hu
   exact ⟨u,by simpa using hu,hvd⟩
theorem args_1 {P:Program} {W:World} {t:T} {v:Value} (h:VT P W (g0 (prot0 W)) W.heap.size t v):ArgsV P (prot0 W) W [t] #[v]:=⟨rfl,fun j t' hj=>by
 match j,hj with
 | 0,hj=>injection hj with hj; subst hj; exact ⟨v,rfl,h⟩⟩
theorem ev_walk {P:Program} {f:FuncId} {args:List T} {b:Bool} (h:SoundFn P f args ⟨rb,[.b b]⟩) {W:World} {vs:Array Value} (ha:ArgsV P (prot0 W) W args vs) :
  Calls P f vs W fun e W'=>e=.returned (.bool b)∧Below W.heap.size W W':=by
 refine ((h.n rfl).2 W (prot0 W) vs ha (fun b hb=>prot0_fresh hb)).mono fun e W' hx=>?_
 obtain ⟨v,g',rfl,hres⟩:=hx
 have hv:VD P W' g'.prot .bool (.b b) v:=hres.val
 cases hv
 exact ⟨rfl,hres.below⟩
end Go.Proofs.YtchceahcaaibcaaGreat
namespace Go.Proofs.YtchceahcaaibcaaGreat
set_option maxRecDepth 4096
set_option maxHeartbeats 1000000
abbrev l_JudgeTownT:FuncId→List T→Option (T × Bool):=find [szTownE,toTownE,s_JudgeTownE,i_JudgeTownE,eqTownE]
theorem l_JudgeTownT_ok:CallOk Tryz.prog l_JudgeTownT:=find_ok (fC ⟨szTown_ok,fC ⟨toTown_ok,fC ⟨s_JudgeTown_ok,fC ⟨i_JudgeTown_ok,fC ⟨eqTown_ok,fN⟩⟩⟩⟩⟩)
abbrev l_JudgeTownK:List Nat:= [0,1,2,3,4,5,6,11,21,26]
theorem l_JudgeTown_ev (N:Nat) (p:List D):evFn Tryz.prog l_JudgeTownT N l_JudgeTownK Tryz.f12 rb [⟨ag rLTown,p⟩]=some (bo,
 nd (fair 1048576) (bif ltI (left (sizeTown (sub p 0 15)) 1048576) 0 then ob true
 else nd (okTown (sub p 0 15)) (nd (townSmall (sub (cpTown (sub p 0 15)) 0 15)) (nd (okTown (sub p 0 15)) (nd (townSmall (sub (cpTown (sub p 0 15)) 0 15)) (bif !((judgeTown (sub (cpTown (sub p 0 15)) 0 15))==(judgeTown (sub (cpTown (sub p 0 15)) 0 15))) then ob false
 else nd (okTown (sub p 0 15)) (bif !(eqTown (sub (cpTown (sub p 0 15)) 0 15) (sub (cpTown (sub p 0 15)) 0 15)) then ob false
 else ob true))))))):=by kernel_rfl
def l_JudgeTownE:Ent:=(12,e1 (ag rLTown) fun p=>(⟨rb,[.b true]⟩,true))
theorem l_JudgeTown_ok:EntOk Tryz.prog l_JudgeTownE:=e1_ok fun p h=>evFn_sound (N:=0) (ks:=l_JudgeTownK) (key:=bo) l_JudgeTownT_ok (enters Tryz.func12) Tryz.func12 fun hw=>by
 rw [l_JudgeTown_ev]
 simp only [show okTown (sub p 0 15)=okTown p from rfl,show sizeTown (sub p 0 15)=sizeTown p from rfl,show townSmall (sub (cpTown (sub p 0 15)) 0 15)=townSmall (cpTown p) from rfl,show eqTown (sub (cpTown (sub p 0 15)) 0 15) (sub (cpTown (sub p 0 15)) 0 15)=true from eqTown_refl _]
 rw [show fair 1048576=true from rfl]
 cases h0:ltI (left (sizeTown p) 1048576) 0
 ·obtain ⟨e0,l0⟩:=left_ge h0 (by omega)
  rw [okTown_of (m:=1048576) (by omega) (show sizeTown p≤1048576 from by omega),town_small (show sizeTown p≤1048576 from by omega)]
  simp only [nd,cond_true,cond_false,beq_self_eq_true,bne_self_eq_false,Bool.not_true]
 ·rfl
end Go.Proofs.YtchceahcaaibcaaGreat
