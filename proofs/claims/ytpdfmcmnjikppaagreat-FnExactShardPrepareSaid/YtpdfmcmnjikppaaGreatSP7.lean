/-
 Texts of the proof,put together: part 7.
-/
import Derived.Test.YtpdfmcmnjikppaaGreatSP1
import Derived.Test.YtpdfmcmnjikppaaGreatSP2
import Derived.Test.YtpdfmcmnjikppaaGreatSP3
import Derived.Test.YtpdfmcmnjikppaaGreatSP4
import Derived.Test.YtpdfmcmnjikppaaGreatSP5
import Derived.Test.YtpdfmcmnjikppaaGreatSP6
import Derived.Deep.Slices
import Derived.Deep.Fields
import Derived.OpenShut
set_option linter.unusedSimpArgs false
set_option linter.unusedVariables false
set_option linter.unusedSectionVars false
namespace Go.Proofs.YtpdfmcmnjikppaaGreat
set_option maxRecDepth 100000
set_option maxHeartbeats 4000000
open Go.RowKit Go.Lib
end Go.Proofs.YtpdfmcmnjikppaaGreat
namespace Go.Proofs.YtpdfmcmnjikppaaGreat
set_option maxRecDepth 100000
set_option maxHeartbeats 4000000
open Go.RowKit Go.Lib
theorem pickCs_app (m:Nat) (cs:List Value):∀ a b:List Nat,pickCs m cs (a++b)=pickCs m cs a++pickCs m cs b
 | [],b=>rfl
 | k::a,b=>by rw [List.cons_append,pickCs,pickCs,pickCs_app m cs a b,List.append_assoc]
theorem pickCs_range (m:Nat) (cs:List Value):∀ (k a:Nat),pickCs m cs (List.range' a k)=(cs.drop (a*m)).take (k*m)
 | 0,a=>by rw [Nat.zero_mul]; rfl
 | k+1,a=>by
  rw [List.range'_succ,pickCs,pickCs_range m cs k (a+1),Nat.succ_mul a m,show (k+1)*m=m+k*m from by rw [Nat.succ_mul]; omega,List.take_add,List.drop_drop]
theorem rows_range (l:List (List D)):∀ (k a:Nat),a+k≤l.length→(List.range' a k).map (fun k=>l.getD k [])=(l.drop a).take k
 | 0,a,_=>rfl
 | k+1,a,h=>by
  have hd:l.drop a=l[a]'(by omega)::l.drop (a+1):=List.drop_eq_getElem_cons (by omega)
  rw [List.range'_succ,List.map_cons,rows_range l k (a+1) (by omega),hd,List.take_succ_cons]
  congr 1
  rw [List.getD_eq_getElem?_getD,List.getElem?_eq_getElem (show a<l.length by omega)]
  rfl
theorem row_heldX:rowOf Tryz.prog 75=some [.int .i64,.sl 70]:=by kernel_rfl
theorem nodup_mid {n i:Nat} (h:i≤n):(List.range' 0 i ++ [n]++List.range' i (n - i)).Nodup:=by
 rw [List.nodup_append,List.nodup_append]
 refine ⟨⟨List.nodup_range',by simp,fun a ha b hb=>?_⟩,List.nodup_range',fun a ha b hb=>?_⟩
 ·simp only [List.mem_range',List.mem_singleton] at ha hb
  omega
 ·simp only [List.mem_append,List.mem_range',List.mem_singleton] at ha hb
  omega
def insHD (h:D) (i:Int) (v:D):D:=.l (h.rows.take i.toNat++v.rows++h.rows.drop i.toNat)
def i_insHE:Ent:=(118,e3 (sd (.sl 75)) ri (sd (.sl 75)) fun p q r=>(⟨.tup [.agg [.any,.any,.any]],[insHD (gd p 0) (gd q 0).int (gd r 0)]⟩,inB (gd q 0).int 0 ((gd p 0).rows.length:Int)&&leI ((gd p 0).rows.length:Int) 1000000&&((gd r 0).rows.length==1)))
theorem i_insH_ok:EntOk Tryz.prog i_insHE:=e3_ok fun p q r h=>by
 have h:(inB (gd q 0).int 0 ((gd p 0).rows.length:Int)&&leI ((gd p 0).rows.length:Int) 1000000&&((gd r 0).rows.length==1))=true:=h
 simp only [Bool.and_eq_true] at h
 obtain ⟨⟨h1,h2⟩,h3⟩:=h
 have h3:(gd r 0).rows.length=1:=by simpa using h3
 have h2:((gd p 0).rows.length:Int)≤1000000:=of_decide_eq_true h2
 have h1:0≤(gd q 0).int∧(gd q 0).int≤((gd p 0).rows.length:Int):=by
  simpa [inB,leI] using h1
 refine SoundFn.ofX rfl ⟨enters Tryz.func118 (by kernel_rfl) (by kernel_rfl),fun e x n z row he hrow=>?_⟩
 injection he with he hre
 injection hre with he2 hre
 injection hre with he3 hre
 injection he with he hp
 injection he with he
 injection he with he
 injection he with he
 injection he with he
 injection he2 with he2 hq
 subst he hp hq he3
 rw [row_heldX] at hrow
 injection hrow with hrow
 subst hrow
 change 0≤n.int∧n.int≤(x.rows.length:Int) at h1
 change (x.rows.length:Int)≤1000000 at h2
 obtain ⟨i,hi⟩:∃ i:Nat,n.int=(i:Int):=⟨n.int.toNat,by omega⟩
 have hin:i≤x.rows.length:=by omega
 refine ⟨List.range' 0 i ++ [x.rows.length]++List.range' i (x.rows.length - i),nodup_mid hin,fun k hk=>?_,?_,fun w u v B B2 cs cs2 hO hB hz=>?_⟩
 ·show k<(x.rows++(gd r 0).rows).length
  rw [List.length_append,h3]
  simp only [List.mem_append,List.mem_range',List.mem_singleton] at hk
  omega
 ·show x.rows.take n.int.toNat++(gd r 0).rows++x.rows.drop n.int.toNat=List.map (fun k=>(x.rows++(gd r 0).rows).getD k []) _
  rw [hi,Int.toNat_natCast,List.map_append,List.map_append,rows_range _ _ _ (by rw [List.length_append]; omega),rows_range _ _ _ (by rw [List.length_append]; omega),List.drop_zero,List.take_append_of_le_length hin,List.drop_append_of_le_length hin,List.take_append_of_le_length (by rw [List.length_drop]; exact Nat.le_refl _),List.take_of_length_le (show (x.rows.drop i).length≤x.rows.length - i by rw [List.length_drop]; exact Nat.le_refl _)]
  congr 2
  obtain ⟨y,hy⟩:=List.length_eq_one_iff.1 h3
  rw [hy]
  show [y] = [(x.rows ++ [y]).getD x.rows.length []]
  rw [List.getD_eq_getElem?_getD,List.getElem?_append_right (Nat.le_refl _),Nat.sub_self]
  rfl
 ·rcases hz with ⟨h,_⟩ | ⟨_,hO2⟩
  ·cases h
  ·have hO2:OwnU w (gd r 0).rows.length cs2 v B2:=hO2
   rw [h3] at hO2
   have hcl:cs.length=x.rows.length*2:=hO.1
   have hc2:cs2.length=2:=by have:=hO2.1; omega
   rw [hi]
   refine (insU_calls (show OwnU w x.rows.length cs u B from hO) hO2 hB (by omega) hin).mono ?_
   rintro ex w' ⟨v',B',k1,k2,k3,k4⟩
   refine ⟨v',B',k1,k2,?_,k4⟩
   have e1:(List.range' 0 i ++ [x.rows.length]++List.range' i (x.rows.length - i)).length=x.rows.length+1:=by
    simp only [List.length_append,List.length_range',List.length_singleton]
    omega
   have e2:pickCs 2 (cs++cs2) (List.range' 0 i ++ [x.rows.length]++List.range' i (x.rows.length - i))=cs.take (i*2)++cs2++cs.drop (i*2):=by
    rw [pickCs_app,pickCs_app,pickCs_range,pickCs_range,Nat.zero_mul,List.drop_zero,List.take_append_of_le_length (by omega),List.drop_append_of_le_length (by omega),List.take_append_of_le_length (by rw [List.length_drop]; omega),List.take_of_length_le (show (cs.drop (i*2)).length≤(x.rows.length - i)*2 by rw [List.length_drop]; omega)]
    congr 2
    show ((cs++cs2).drop (x.rows.length*2)).take 2 ++ []=cs2
    rw [List.append_nil,← hcl,List.drop_left,List.take_of_length_le (by omega)]
   rw [show ([.int .i64,.sl 70]:List S).length=2 from rfl,e1,e2]
   exact k3
end Go.Proofs.YtpdfmcmnjikppaaGreat
namespace Go.Proofs.YtpdfmcmnjikppaaGreat
set_option maxRecDepth 4096
set_option maxHeartbeats 1000000
def i_ShardPreparedE:Ent:=deepE [37,99]
theorem i_ShardPrepared_ok:EntOk Tryz.prog i_ShardPreparedE:=deepE_ok _
abbrev i_ShardPrepareT:FuncId→List T→Option (T × Bool):=find [i_ShardOkE,i_isTxE,cofSPRE,i_WritesOkE,i_copyShardE,i_isHeldE,i_promisedE,i_oneE,i_askE,i_roomE,i_StoreNewE,i_txsOfE,i_bsE,i_clonWriteE,i_insHE,apartE,i_ShardPreparedE]
theorem i_ShardPrepareT_ok:CallOk Tryz.prog i_ShardPrepareT:=find_ok (fC ⟨i_ShardOk_ok,fC ⟨i_isTx_ok,fC ⟨cofSPR_ok,fC ⟨i_WritesOk_ok,fC ⟨i_copyShard_ok,fC ⟨i_isHeld_ok,fC ⟨i_promised_ok,fC ⟨i_one_ok,fC ⟨i_ask_ok,fC ⟨i_room_ok,fC ⟨i_StoreNew_ok,fC ⟨i_txsOf_ok,fC ⟨i_bs_ok,fC ⟨i_clonWrite_ok,fC ⟨i_insH_ok,fC ⟨apart_ok,fC ⟨i_ShardPrepared_ok,fN⟩⟩⟩⟩⟩⟩⟩⟩⟩⟩⟩⟩⟩⟩⟩⟩⟩)
abbrev i_ShardPrepareK:List Nat:= [0,1,2,3,4,8,9,10,11,12,13,36,42,56,78,80]
noncomputable def i_ShardPrepareL0 (N:Nat) (p q r s:List D):List D→Out:=loopOf Tryz.prog i_ShardPrepareT N i_ShardPrepareK Tryz.f25 (.tup [.agg rDShard,.c (.d si)]) [⟨ag rIShard,p⟩,⟨ri,q⟩,⟨sd (.sl 41),r⟩,⟨sd (.sl 70),s⟩] 0
theorem i_ShardPrepareR0 (N:Nat) (p q r s:List D) (x0 x1 x2 x3 x4 x5 x6 x7 x8 x9 x10 x11 x12 x13 x14 x15 x16 x17 x18 x19 x20 x21 x22 x23 x24 x25 x26 x27 x28 x29 x30 x31 x32 x33 x34 x35 x36 x37 x38 x39 x40 x41 x42 x43 x44 x45 x46:D):(i_ShardPrepareL0 N p q r s) [x0,x1,x2,x3,x4,x5,x6,x7,x8,x9,x10,x11,x12,x13,x14,x15,x16,x17,x18,x19,x20,x21,x22,x23,x24,x25,x26,x27,x28,x29,x30,x31,x32,x33,x34,x35,x36,x37,x38,x39,x40,x41,x42,x43,x44,x45,x46] =
 bif ltI x19.int (x11.rows.length:Int) then bif x18.int==0 then nd (inRange x19.int x11.rows.length) (nd (ascB x44&&(leI (x44.rows.length:Int) 10000&&leI (x43.rows.length:Int) 1000000000)) (nx [x0,x1,x2,x3,x4,x5,x6,x7,x8,x9,x10,x11,x12,x13,x14,x15,x16,x17,gd (sub (askB [x38,x39,x40,x41,x42,x43,x44,x45,x46] x9 [(gd (x11.rows.getD x19.int.toNat []) 0),.i (w64 ((gd (x11.rows.getD x19.int.toNat []) 0).int+1))] (.i 2)) 0 11) 10,.i (w64 (x19.int+1)),x20,x21,x22,x23,x24,x25,x26,x27,x28,x29,x30,x31,x32,x33,x34,x35,x36,x37,gd (sub (askB [x38,x39,x40,x41,x42,x43,x44,x45,x46] x9 [(gd (x11.rows.getD x19.int.toNat []) 0),.i (w64 ((gd (x11.rows.getD x19.int.toNat []) 0).int+1))] (.i 2)) 0 11) 1,gd (sub (askB [x38,x39,x40,x41,x42,x43,x44,x45,x46] x9 [(gd (x11.rows.getD x19.int.toNat []) 0),.i (w64 ((gd (x11.rows.getD x19.int.toNat []) 0).int+1))] (.i 2)) 0 11) 2,gd (sub (askB [x38,x39,x40,x41,x42,x43,x44,x45,x46] x9 [(gd (x11.rows.getD x19.int.toNat []) 0),.i (w64 ((gd (x11.rows.getD x19.int.toNat []) 0).int+1))] (.i 2)) 0 11) 3,gd (sub (askB [x38,x39,x40,x41,x42,x43,x44,x45,x46] x9 [(gd (x11.rows.getD x19.int.toNat []) 0),.i (w64 ((gd (x11.rows.getD x19.int.toNat []) 0).int+1))] (.i 2)) 0 11) 4,gd (sub (askB [x38,x39,x40,x41,x42,x43,x44,x45,x46] x9 [(gd (x11.rows.getD x19.int.toNat []) 0),.i (w64 ((gd (x11.rows.getD x19.int.toNat []) 0).int+1))] (.i 2)) 0 11) 5,gd (sub (askB [x38,x39,x40,x41,x42,x43,x44,x45,x46] x9 [(gd (x11.rows.getD x19.int.toNat []) 0),.i (w64 ((gd (x11.rows.getD x19.int.toNat []) 0).int+1))] (.i 2)) 0 11) 6,gd (sub (askB [x38,x39,x40,x41,x42,x43,x44,x45,x46] x9 [(gd (x11.rows.getD x19.int.toNat []) 0),.i (w64 ((gd (x11.rows.getD x19.int.toNat []) 0).int+1))] (.i 2)) 0 11) 7,gd (sub (askB [x38,x39,x40,x41,x42,x43,x44,x45,x46] x9 [(gd (x11.rows.getD x19.int.toNat []) 0),.i (w64 ((gd (x11.rows.getD x19.int.toNat []) 0).int+1))] (.i 2)) 0 11) 8,gd (sub (askB [x38,x39,x40,x41,x42,x43,x44,x45,x46] x9 [(gd (x11.rows.getD x19.int.toNat []) 0),.i (w64 ((gd (x11.rows.getD x19.int.toNat []) 0).int+1))] (.i 2)) 0 11) 9]))
 else ex 0 [x0,x1,x2,x3,x4,x5,x6,x7,x8,x9,x10,x11,x12,x13,x14,x15,x16,x17,x18,x19,x20,x21,x22,x23,x24,x25,x26,x27,x28,x29,x30,x31,x32,x33,x34,x35,x36,x37,x38,x39,x40,x41,x42,x43,x44,x45,x46]
 else ex 0 [x0,x1,x2,x3,x4,x5,x6,x7,x8,x9,x10,x11,x12,x13,x14,x15,x16,x17,x18,x19,x20,x21,x22,x23,x24,x25,x26,x27,x28,x29,x30,x31,x32,x33,x34,x35,x36,x37,x38,x39,x40,x41,x42,x43,x44,x45,x46]:=by kernel_rfl
theorem i_ShardPrepare_ev (N:Nat) (p q r s:List D):evFn Tryz.prog i_ShardPrepareT N i_ShardPrepareK Tryz.f25 (.tup [.agg rDShard,.c (.d si)]) [⟨ag rIShard,p⟩,⟨ri,q⟩,⟨sd (.sl 41),r⟩,⟨sd (.sl 70),s⟩]=some (bo,
 nd (shardSmall (sub p 0 9)) (bif !(shardOk (sub p 0 9)) then some (1,[.i 0,.l [],.l [],.l [],.l [],.l [],.l [],.l [],.i 0,.i 1])
 else bif !(inB (gd q 0).int 1 60) then some (1,[.i 0,.l [],.l [],.l [],.l [],.l [],.l [],.l [],.i 0,.i 1])
 else bif ltI 16 ((gd r 0).rows.length:Int) then some (1,[.i 0,.l [],.l [],.l [],.l [],.l [],.l [],.l [],.i 0,.i 1])
 else bif anyS (fun rr=>ixfSPRC (.l [[]]) (sub rr 0 2)) (gd r 0) then some (1,[.i 0,.l [],.l [],.l [],.l [],.l [],.l [],.l [],.i 0,.i 1])
 else bif !(writesOk (gd s 0)) then some (1,[.i 0,.l [],.l [],.l [],.l [],.l [],.l [],.l [],.i 0,.i 1])
 else nd (dupOk (sub p 0 9)) (nd (leI ((gd p 5).rows.length:Int) 1000000000) (bif hasInt (txsD (gd p 5)) (gd q 0).int then some (1,[gd (sub (dupShard (sub p 0 9)) 0 9) 0,gd (sub (dupShard (sub p 0 9)) 0 9) 1,gd (sub (dupShard (sub p 0 9)) 0 9) 2,gd (sub (dupShard (sub p 0 9)) 0 9) 3,gd (sub (dupShard (sub p 0 9)) 0 9) 4,gd (sub (dupShard (sub p 0 9)) 0 9) 5,gd (sub (dupShard (sub p 0 9)) 0 9) 6,gd (sub (dupShard (sub p 0 9)) 0 9) 7,gd (sub (dupShard (sub p 0 9)) 0 9) 8,.i 0])
 else (let o0:=iter (i_ShardPrepareL0 N p q r s) N [gd p 0,gd p 1,gd p 2,gd p 3,gd p 4,gd p 5,gd p 6,gd p 7,gd p 8,gd q 0,gd r 0,gd s 0,.i 0,.i 0,.i 0,.b (!(writesOk (gd s 0))),.i 0,.b (hasInt (txsD (gd p 5)) (gd q 0).int),.i (i_promisedF (sub p 0 9) [(gd q 0)] [(gd r 0)] [(gd s 0)]),.i 0,gd p 0,gd p 1,gd p 2,gd p 3,gd p 4,gd p 5,gd p 6,gd p 7,gd p 8,.i 0,.l [],.l [],.l [],.l [],.l [],.l [],.l [],.i 0,gd (sub (dupShard (sub p 0 9)) 0 9) 0,gd (sub (dupShard (sub p 0 9)) 0 9) 1,gd (sub (dupShard (sub p 0 9)) 0 9) 2,gd (sub (dupShard (sub p 0 9)) 0 9) 3,gd (sub (dupShard (sub p 0 9)) 0 9) 4,gd (sub (dupShard (sub p 0 9)) 0 9) 5,gd (sub (dupShard (sub p 0 9)) 0 9) 6,gd (sub (dupShard (sub p 0 9)) 0 9) 7,gd (sub (dupShard (sub p 0 9)) 0 9) 8]
  nd o0.isSome (nd (o0.code==2) (bif (gd o0.pay 18).int==0 then nd (leI ((gd o0.pay 23).rows.length:Int) 1000000000&&leI ((gd o0.pay 25).rows.length:Int) 1000000000) (bif ltI 60 (w64 ((roomOf (sub o0.pay 20 9))+(storeNew (gd o0.pay 23) (gd o0.pay 11)))) then bif 6 != 0 then nd (dupOk (sub o0.pay 20 9)) (some (1,[gd (sub (dupShard (sub o0.pay 20 9)) 0 9) 0,gd (sub (dupShard (sub o0.pay 20 9)) 0 9) 1,gd (sub (dupShard (sub o0.pay 20 9)) 0 9) 2,gd (sub (dupShard (sub o0.pay 20 9)) 0 9) 3,gd (sub (dupShard (sub o0.pay 20 9)) 0 9) 4,gd (sub (dupShard (sub o0.pay 20 9)) 0 9) 5,gd (sub (dupShard (sub o0.pay 20 9)) 0 9) 6,gd (sub (dupShard (sub o0.pay 20 9)) 0 9) 7,gd (sub (dupShard (sub o0.pay 20 9)) 0 9) 8,.i 6]))
  else nd (leI ((gd o0.pay 43).rows.length:Int) 1000000000) (nd (ascB (txsD (gd o0.pay 43))&&leI ((txsD (gd o0.pay 43)).rows.length:Int) 40000) (nd (leI ((gd o0.pay 11).rows.length:Int) 2000000) (nd (inB (lowN (txsD (gd o0.pay 43)) (gd o0.pay 9).int:Int) 0 ((gd o0.pay 43).rows.length:Int)&&leI ((gd o0.pay 43).rows.length:Int) 1000000&&([[gd o0.pay 9,.l (gd o0.pay 11).rows]].length==1)) (some (1,[gd o0.pay 38,gd o0.pay 39,gd o0.pay 40,gd o0.pay 41,gd o0.pay 42,insHD (gd o0.pay 43) (lowN (txsD (gd o0.pay 43)) (gd o0.pay 9).int:Int) (.l [[gd o0.pay 9,.l (gd o0.pay 11).rows]]),gd o0.pay 44,gd o0.pay 45,gd o0.pay 46,.i 0])))))
  else bif (gd o0.pay 18).int != 0 then nd (dupOk (sub o0.pay 20 9)) (some (1,[gd (sub (dupShard (sub o0.pay 20 9)) 0 9) 0,gd (sub (dupShard (sub o0.pay 20 9)) 0 9) 1,gd (sub (dupShard (sub o0.pay 20 9)) 0 9) 2,gd (sub (dupShard (sub o0.pay 20 9)) 0 9) 3,gd (sub (dupShard (sub o0.pay 20 9)) 0 9) 4,gd (sub (dupShard (sub o0.pay 20 9)) 0 9) 5,gd (sub (dupShard (sub o0.pay 20 9)) 0 9) 6,gd (sub (dupShard (sub o0.pay 20 9)) 0 9) 7,gd (sub (dupShard (sub o0.pay 20 9)) 0 9) 8,gd o0.pay 18]))
  else nd (leI ((gd o0.pay 43).rows.length:Int) 1000000000) (nd (ascB (txsD (gd o0.pay 43))&&leI ((txsD (gd o0.pay 43)).rows.length:Int) 40000) (nd (leI ((gd o0.pay 11).rows.length:Int) 2000000) (nd (inB (lowN (txsD (gd o0.pay 43)) (gd o0.pay 9).int:Int) 0 ((gd o0.pay 43).rows.length:Int)&&leI ((gd o0.pay 43).rows.length:Int) 1000000&&([[gd o0.pay 9,.l (gd o0.pay 11).rows]].length==1)) (some (1,[gd o0.pay 38,gd o0.pay 39,gd o0.pay 40,gd o0.pay 41,gd o0.pay 42,insHD (gd o0.pay 43) (lowN (txsD (gd o0.pay 43)) (gd o0.pay 9).int:Int) (.l [[gd o0.pay 9,.l (gd o0.pay 11).rows]]),gd o0.pay 44,gd o0.pay 45,gd o0.pay 46,.i 0]))))))
  else bif (gd o0.pay 18).int != 0 then nd (dupOk (sub o0.pay 20 9)) (some (1,[gd (sub (dupShard (sub o0.pay 20 9)) 0 9) 0,gd (sub (dupShard (sub o0.pay 20 9)) 0 9) 1,gd (sub (dupShard (sub o0.pay 20 9)) 0 9) 2,gd (sub (dupShard (sub o0.pay 20 9)) 0 9) 3,gd (sub (dupShard (sub o0.pay 20 9)) 0 9) 4,gd (sub (dupShard (sub o0.pay 20 9)) 0 9) 5,gd (sub (dupShard (sub o0.pay 20 9)) 0 9) 6,gd (sub (dupShard (sub o0.pay 20 9)) 0 9) 7,gd (sub (dupShard (sub o0.pay 20 9)) 0 9) 8,gd o0.pay 18]))
  else nd (leI ((gd o0.pay 43).rows.length:Int) 1000000000) (nd (ascB (txsD (gd o0.pay 43))&&leI ((txsD (gd o0.pay 43)).rows.length:Int) 40000) (nd (leI ((gd o0.pay 11).rows.length:Int) 2000000) (nd (inB (lowN (txsD (gd o0.pay 43)) (gd o0.pay 9).int:Int) 0 ((gd o0.pay 43).rows.length:Int)&&leI ((gd o0.pay 43).rows.length:Int) 1000000&&([[gd o0.pay 9,.l (gd o0.pay 11).rows]].length==1)) (some (1,[gd o0.pay 38,gd o0.pay 39,gd o0.pay 40,gd o0.pay 41,gd o0.pay 42,insHD (gd o0.pay 43) (lowN (txsD (gd o0.pay 43)) (gd o0.pay 9).int:Int) (.l [[gd o0.pay 9,.l (gd o0.pay 11).rows]]),gd o0.pay 44,gd o0.pay 45,gd o0.pay 46,.i 0])))))))))))):=by kernel_rfl
def asksI (p:List D) (n u:D) (c:D):Nat→D × D × D
 | 0=>(.l (gd p 4).rows,.l (gd p 6).rows,c)
 | k+1=>bif (asksI p n u c k).2.2.int==0 then
   (bif (gd (askI (asksI p n u c k).1 (txsD (gd (sub (dupShard (sub p 0 9)) 0 9) 5)) n (keyR u k) (.i 2)) 2).int==2 then ((asksI p n u c k).1,(asksI p n u c k).2.1,.i 5)
   else bif (gd (askI (asksI p n u c k).1 (txsD (gd (sub (dupShard (sub p 0 9)) 0 9) 5)) n (keyR u k) (.i 2)) 2).int==3 then ((asksI p n u c k).1,(asksI p n u c k).2.1,.i 6)
   else (gd (askI (asksI p n u c k).1 (txsD (gd (sub (dupShard (sub p 0 9)) 0 9) 5)) n (keyR u k) (.i 2)) 0,putsS (asksI p n u c k).2.1 (gd (askI (asksI p n u c k).1 (txsD (gd (sub (dupShard (sub p 0 9)) 0 9) 5)) n (keyR u k) (.i 2)) 1) (gd (askI (asksI p n u c k).1 (txsD (gd (sub (dupShard (sub p 0 9)) 0 9) 5)) n (keyR u k) (.i 2)) 1).rows.length,.i 0))
  else asksI p n u c k
theorem asksI_stop (p:List D) (n u c:D) {k:Nat} (h:((asksI p n u c k).2.2.int==0)=false):∀ m,asksI p n u c (k+m)=asksI p n u c k
 | 0=>rfl
 | m+1=>by
  have ih:=asksI_stop p n u c h m
  rw [show k+(m+1)=(k+m)+1 from rfl,asksI,ih,h,cond_false]
theorem asksI_mem (p:List D) (n u c:D) (h6:(numsOf (.l (gd p 6).rows)).Pairwise (· < ·)):∀ k,(numsOf (asksI p n u c k).2.1).Pairwise (· < ·)∧(asksI p n u c k).2.1.rows.length≤(gd p 6).rows.length+40*k
 | 0=>⟨h6,Nat.le_refl _⟩
 | k+1=>by
  obtain ⟨i1,i2⟩:=asksI_mem p n u c h6 k
  rw [asksI]
  cases (asksI p n u c k).2.2.int==0 with
  | false=>exact ⟨i1,by rw [cond_false]; omega⟩
  | true =>
   have ha:=askI_len (asksI p n u c k).1 (txsD (gd (sub (dupShard (sub p 0 9)) 0 9) 5)) n (keyR u k) (.i 2)
   generalize askI (asksI p n u c k).1 (txsD (gd (sub (dupShard (sub p 0 9)) 0 9) 5)) n (keyR u k) (.i 2)=A at *
   rw [cond_true]
   cases (gd A 2).int==2 with
   | true=>exact ⟨i1,by rw [cond_true]; dsimp only; omega⟩
   | false =>
    cases (gd A 2).int==3 with
    | true=>exact ⟨i1,by rw [cond_false,cond_true]; dsimp only; omega⟩
    | false =>
     rw [cond_false,cond_false]
     have a2:=putsS_len (asksI p n u c k).2.1 (gd A 1) (gd A 1).rows.length
     exact ⟨(putsS_mem (t:=gd A 1) i1 _ (Nat.le_refl _)).1,by dsimp only; omega⟩
def codeI (p:List D) (n z u:D):D:=.i (i_promisedF (sub p 0 9) [n] [z] [u])
def prI3 (p:List D) (n u:D) (x:D × D × D):List D:=
 bif x.2.2.int==0 then bif ltI 60 (w64 (roomOf (sub p 0 9)+storeNew (gd p 3) u)) then sub (dupShard (sub p 0 9)) 0 9 ++ [.i 6]
  else [gd (sub (dupShard (sub p 0 9)) 0 9) 0,gd (sub (dupShard (sub p 0 9)) 0 9) 1,gd (sub (dupShard (sub p 0 9)) 0 9) 2,gd (sub (dupShard (sub p 0 9)) 0 9) 3,x.1,insHD (gd (sub (dupShard (sub p 0 9)) 0 9) 5) (lowN (txsD (gd (sub (dupShard (sub p 0 9)) 0 9) 5)) n.int:Int) (.l [[n,.l u.rows]]),x.2.1,gd (sub (dupShard (sub p 0 9)) 0 9) 7,gd (sub (dupShard (sub p 0 9)) 0 9) 8,.i 0]
 else sub (dupShard (sub p 0 9)) 0 9 ++ [x.2.2]
def prI (p:List D) (n z u:D):List D:=
 bif !(shardOk (sub p 0 9)) then noShard ++ [.i 1]
 else bif !(inB n.int 1 60) then noShard ++ [.i 1]
 else bif ltI 16 (z.rows.length:Int) then noShard ++ [.i 1]
 else bif anyS (fun rr=>ixfSPRC (.l [[]]) (sub rr 0 2)) z then noShard ++ [.i 1]
 else bif !(writesOk u) then noShard ++ [.i 1]
 else bif hasInt (txsD (gd p 5)) n.int then sub (dupShard (sub p 0 9)) 0 9 ++ [.i 0]
 else prI3 p n u (asksI p n u (codeI p n z u) u.rows.length)
theorem halt_loop {L:List D→Out} (st:Nat→List D) (n:Nat) (G:Nat→Bool) (j:Nat) (h1:∀ k,k<n→G k=true→L (st k)=some (0,st (k+1))) (h2:∀ k,k<n→G k=false→L (st k)=some (j+2,st k)) (h3:L (st n)=some (j+2,st n)) :
  ∀ (m k N:Nat),k+m=n→m<N→∃ i,iter L N (st k)=some (j+2,st i)∧i≤n∧(i=n∨G i=false):=by
 intro m
 induction m with
 | zero =>
  intro k N hk hN
  obtain ⟨N,rfl⟩:∃ N',N=N'+1:=⟨N - 1,by omega⟩
  obtain rfl:k=n:=by omega
  exact ⟨k,iter_ex (c:=j+1) h3,Nat.le_refl _,.inl rfl⟩
 | succ m ih =>
  intro k N hk hN
  obtain ⟨N,rfl⟩:∃ N',N=N'+1:=⟨N - 1,by omega⟩
  cases hg:G k with
  | false=>exact ⟨k,iter_ex (c:=j+1) (h2 k (by omega) hg),by omega,.inr hg⟩
  | true =>
   rw [iter_nx (h1 k (by omega) hg)]
   exact ih (k+1) N (by omega) (by omega)
abbrev qy (p q r s:List D) (c:D) (x:D × D × D):List D:= [gd p 0,gd p 1,gd p 2,gd p 3,gd p 4,gd p 5,gd p 6,gd p 7,gd p 8,gd q 0,gd r 0,gd s 0,.i 0,.i 0,.i 0,.b false,.i 0,.b false,x.2.2,c,gd p 0,gd p 1,gd p 2,gd p 3,gd p 4,gd p 5,gd p 6,gd p 7,gd p 8,.i 0,.l [],.l [],.l [],.l [],.l [],.l [],.l [],.i 0,gd (sub (dupShard (sub p 0 9)) 0 9) 0,gd (sub (dupShard (sub p 0 9)) 0 9) 1,gd (sub (dupShard (sub p 0 9)) 0 9) 2,gd (sub (dupShard (sub p 0 9)) 0 9) 3,x.1,gd (sub (dupShard (sub p 0 9)) 0 9) 5,x.2.1,gd (sub (dupShard (sub p 0 9)) 0 9) 7,gd (sub (dupShard (sub p 0 9)) 0 9) 8]
theorem D5_asc {p:List D} (h:shardOk (sub p 0 9)=true):(numsOf (txsD (gd (sub (dupShard (sub p 0 9)) 0 9) 5))).Pairwise (· < ·):=by
 have e:numsOf (txsD (gd (sub (dupShard (sub p 0 9)) 0 9) 5))=(gd p 5).rows.map fun r=>(gd r 0).int:=by
  rw [dup_helds]
  unfold numsOf txsD
  simp only [rows_l,List.map_map]
  rfl
 rw [e]
 have hs:=h
 simp only [shardOk,shardSum,heldsOkS,Bool.and_eq_true,List.all_eq_true,List.mem_range] at hs
 have hw:∀ k,k<(gd p 5).rows.length→heldAtS (sub p 0 9) k=true:=by
  obtain ⟨_,_,_,_,_,_,_,_,_,_,_,_,_,_,_,hw,_⟩:=hs
  exact hw
 have hs1:∀ k,k+1<(gd p 5).rows.length→(gd ((gd p 5).rows.getD k []) 0).int<(gd ((gd p 5).rows.getD (k+1) []) 0).int:=fun k hk=>by
  have:=hw (k+1) hk
  simp only [heldAtS,Bool.and_eq_true,leI,Bool.not_eq_true',decide_eq_false_iff_not] at this
  have:=this.2.1
  change ¬ (gd ((gd p 5).rows.getD (k+1) []) 0).int≤(gd ((gd p 5).rows.getD k []) 0).int at this
  omega
 have hl:∀ d i,i+d+1<(gd p 5).rows.length→(gd ((gd p 5).rows.getD i []) 0).int<(gd ((gd p 5).rows.getD (i+d+1) []) 0).int:=fun d=>by
  induction d with
  | zero=>exact fun i hi=>hs1 i hi
  | succ d ih=>exact fun i hi=>Int.lt_trans (ih i (by omega)) (hs1 (i+d+1) hi)
 refine List.pairwise_iff_getElem.2 fun i j hi hj hij=>?_
 rw [List.length_map] at hi hj
 rw [List.getElem_map,List.getElem_map,← getD_row hi,← getD_row hj]
 have:=hl (j - i - 1) i (by omega)
 rwa [show i+(j - i - 1)+1=j from by omega] at this
noncomputable def i_prT (p:List D) (o0:Out):Out:=nd o0.isSome (nd (o0.code==2) (bif (gd o0.pay 18).int==0 then nd (leI ((gd o0.pay 23).rows.length:Int) 1000000000&&leI ((gd o0.pay 25).rows.length:Int) 1000000000) (bif ltI 60 (w64 ((roomOf (sub o0.pay 20 9))+(storeNew (gd o0.pay 23) (gd o0.pay 11)))) then bif 6 != 0 then nd (dupOk (sub o0.pay 20 9)) (some (1,[gd (sub (dupShard (sub o0.pay 20 9)) 0 9) 0,gd (sub (dupShard (sub o0.pay 20 9)) 0 9) 1,gd (sub (dupShard (sub o0.pay 20 9)) 0 9) 2,gd (sub (dupShard (sub o0.pay 20 9)) 0 9) 3,gd (sub (dupShard (sub o0.pay 20 9)) 0 9) 4,gd (sub (dupShard (sub o0.pay 20 9)) 0 9) 5,gd (sub (dupShard (sub o0.pay 20 9)) 0 9) 6,gd (sub (dupShard (sub o0.pay 20 9)) 0 9) 7,gd (sub (dupShard (sub o0.pay 20 9)) 0 9) 8,.i 6]))
  else nd (leI ((gd o0.pay 43).rows.length:Int) 1000000000) (nd (ascB (txsD (gd o0.pay 43))&&leI ((txsD (gd o0.pay 43)).rows.length:Int) 40000) (nd (leI ((gd o0.pay 11).rows.length:Int) 2000000) (nd (inB (lowN (txsD (gd o0.pay 43)) (gd o0.pay 9).int:Int) 0 ((gd o0.pay 43).rows.length:Int)&&leI ((gd o0.pay 43).rows.length:Int) 1000000&&([[gd o0.pay 9,.l (gd o0.pay 11).rows]].length==1)) (some (1,[gd o0.pay 38,gd o0.pay 39,gd o0.pay 40,gd o0.pay 41,gd o0.pay 42,insHD (gd o0.pay 43) (lowN (txsD (gd o0.pay 43)) (gd o0.pay 9).int:Int) (.l [[gd o0.pay 9,.l (gd o0.pay 11).rows]]),gd o0.pay 44,gd o0.pay 45,gd o0.pay 46,.i 0])))))
  else bif (gd o0.pay 18).int != 0 then nd (dupOk (sub o0.pay 20 9)) (some (1,[gd (sub (dupShard (sub o0.pay 20 9)) 0 9) 0,gd (sub (dupShard (sub o0.pay 20 9)) 0 9) 1,gd (sub (dupShard (sub o0.pay 20 9)) 0 9) 2,gd (sub (dupShard (sub o0.pay 20 9)) 0 9) 3,gd (sub (dupShard (sub o0.pay 20 9)) 0 9) 4,gd (sub (dupShard (sub o0.pay 20 9)) 0 9) 5,gd (sub (dupShard (sub o0.pay 20 9)) 0 9) 6,gd (sub (dupShard (sub o0.pay 20 9)) 0 9) 7,gd (sub (dupShard (sub o0.pay 20 9)) 0 9) 8,gd o0.pay 18]))
  else nd (leI ((gd o0.pay 43).rows.length:Int) 1000000000) (nd (ascB (txsD (gd o0.pay 43))&&leI ((txsD (gd o0.pay 43)).rows.length:Int) 40000) (nd (leI ((gd o0.pay 11).rows.length:Int) 2000000) (nd (inB (lowN (txsD (gd o0.pay 43)) (gd o0.pay 9).int:Int) 0 ((gd o0.pay 43).rows.length:Int)&&leI ((gd o0.pay 43).rows.length:Int) 1000000&&([[gd o0.pay 9,.l (gd o0.pay 11).rows]].length==1)) (some (1,[gd o0.pay 38,gd o0.pay 39,gd o0.pay 40,gd o0.pay 41,gd o0.pay 42,insHD (gd o0.pay 43) (lowN (txsD (gd o0.pay 43)) (gd o0.pay 9).int:Int) (.l [[gd o0.pay 9,.l (gd o0.pay 11).rows]]),gd o0.pay 44,gd o0.pay 45,gd o0.pay 46,.i 0]))))))
  else bif (gd o0.pay 18).int != 0 then nd (dupOk (sub o0.pay 20 9)) (some (1,[gd (sub (dupShard (sub o0.pay 20 9)) 0 9) 0,gd (sub (dupShard (sub o0.pay 20 9)) 0 9) 1,gd (sub (dupShard (sub o0.pay 20 9)) 0 9) 2,gd (sub (dupShard (sub o0.pay 20 9)) 0 9) 3,gd (sub (dupShard (sub o0.pay 20 9)) 0 9) 4,gd (sub (dupShard (sub o0.pay 20 9)) 0 9) 5,gd (sub (dupShard (sub o0.pay 20 9)) 0 9) 6,gd (sub (dupShard (sub o0.pay 20 9)) 0 9) 7,gd (sub (dupShard (sub o0.pay 20 9)) 0 9) 8,gd o0.pay 18]))
  else nd (leI ((gd o0.pay 43).rows.length:Int) 1000000000) (nd (ascB (txsD (gd o0.pay 43))&&leI ((txsD (gd o0.pay 43)).rows.length:Int) 40000) (nd (leI ((gd o0.pay 11).rows.length:Int) 2000000) (nd (inB (lowN (txsD (gd o0.pay 43)) (gd o0.pay 9).int:Int) 0 ((gd o0.pay 43).rows.length:Int)&&leI ((gd o0.pay 43).rows.length:Int) 1000000&&([[gd o0.pay 9,.l (gd o0.pay 11).rows]].length==1)) (some (1,[gd o0.pay 38,gd o0.pay 39,gd o0.pay 40,gd o0.pay 41,gd o0.pay 42,insHD (gd o0.pay 43) (lowN (txsD (gd o0.pay 43)) (gd o0.pay 9).int:Int) (.l [[gd o0.pay 9,.l (gd o0.pay 11).rows]]),gd o0.pay 44,gd o0.pay 45,gd o0.pay 46,.i 0])))))))
theorem i_prT_at (p q r s:List D) (c:D) (x:D × D × D):i_prT p (some (2,qy p q r s c x))=(bif (x.2.2).int==0 then nd (leI ((gd p 3).rows.length:Int) 1000000000&&leI ((gd p 5).rows.length:Int) 1000000000) (bif ltI 60 (w64 ((roomOf (sub p 0 9))+(storeNew (gd p 3) (gd s 0)))) then bif 6 != 0 then nd (dupOk (sub p 0 9)) (some (1,[gd (sub (dupShard (sub p 0 9)) 0 9) 0,gd (sub (dupShard (sub p 0 9)) 0 9) 1,gd (sub (dupShard (sub p 0 9)) 0 9) 2,gd (sub (dupShard (sub p 0 9)) 0 9) 3,gd (sub (dupShard (sub p 0 9)) 0 9) 4,gd (sub (dupShard (sub p 0 9)) 0 9) 5,gd (sub (dupShard (sub p 0 9)) 0 9) 6,gd (sub (dupShard (sub p 0 9)) 0 9) 7,gd (sub (dupShard (sub p 0 9)) 0 9) 8,.i 6]))
  else nd (leI ((gd (sub (dupShard (sub p 0 9)) 0 9) 5).rows.length:Int) 1000000000) (nd (ascB (txsD (gd (sub (dupShard (sub p 0 9)) 0 9) 5))&&leI ((txsD (gd (sub (dupShard (sub p 0 9)) 0 9) 5)).rows.length:Int) 40000) (nd (leI ((gd s 0).rows.length:Int) 2000000) (nd (inB (lowN (txsD (gd (sub (dupShard (sub p 0 9)) 0 9) 5)) (gd q 0).int:Int) 0 ((gd (sub (dupShard (sub p 0 9)) 0 9) 5).rows.length:Int)&&leI ((gd (sub (dupShard (sub p 0 9)) 0 9) 5).rows.length:Int) 1000000&&([[gd q 0,.l (gd s 0).rows]].length==1)) (some (1,[gd (sub (dupShard (sub p 0 9)) 0 9) 0,gd (sub (dupShard (sub p 0 9)) 0 9) 1,gd (sub (dupShard (sub p 0 9)) 0 9) 2,gd (sub (dupShard (sub p 0 9)) 0 9) 3,x.1,insHD (gd (sub (dupShard (sub p 0 9)) 0 9) 5) (lowN (txsD (gd (sub (dupShard (sub p 0 9)) 0 9) 5)) (gd q 0).int:Int) (.l [[gd q 0,.l (gd s 0).rows]]),x.2.1,gd (sub (dupShard (sub p 0 9)) 0 9) 7,gd (sub (dupShard (sub p 0 9)) 0 9) 8,.i 0])))))
  else bif (x.2.2).int != 0 then nd (dupOk (sub p 0 9)) (some (1,[gd (sub (dupShard (sub p 0 9)) 0 9) 0,gd (sub (dupShard (sub p 0 9)) 0 9) 1,gd (sub (dupShard (sub p 0 9)) 0 9) 2,gd (sub (dupShard (sub p 0 9)) 0 9) 3,gd (sub (dupShard (sub p 0 9)) 0 9) 4,gd (sub (dupShard (sub p 0 9)) 0 9) 5,gd (sub (dupShard (sub p 0 9)) 0 9) 6,gd (sub (dupShard (sub p 0 9)) 0 9) 7,gd (sub (dupShard (sub p 0 9)) 0 9) 8,x.2.2]))
  else nd (leI ((gd (sub (dupShard (sub p 0 9)) 0 9) 5).rows.length:Int) 1000000000) (nd (ascB (txsD (gd (sub (dupShard (sub p 0 9)) 0 9) 5))&&leI ((txsD (gd (sub (dupShard (sub p 0 9)) 0 9) 5)).rows.length:Int) 40000) (nd (leI ((gd s 0).rows.length:Int) 2000000) (nd (inB (lowN (txsD (gd (sub (dupShard (sub p 0 9)) 0 9) 5)) (gd q 0).int:Int) 0 ((gd (sub (dupShard (sub p 0 9)) 0 9) 5).rows.length:Int)&&leI ((gd (sub (dupShard (sub p 0 9)) 0 9) 5).rows.length:Int) 1000000&&([[gd q 0,.l (gd s 0).rows]].length==1)) (some (1,[gd (sub (dupShard (sub p 0 9)) 0 9) 0,gd (sub (dupShard (sub p 0 9)) 0 9) 1,gd (sub (dupShard (sub p 0 9)) 0 9) 2,gd (sub (dupShard (sub p 0 9)) 0 9) 3,x.1,insHD (gd (sub (dupShard (sub p 0 9)) 0 9) 5) (lowN (txsD (gd (sub (dupShard (sub p 0 9)) 0 9) 5)) (gd q 0).int:Int) (.l [[gd q 0,.l (gd s 0).rows]]),x.2.1,gd (sub (dupShard (sub p 0 9)) 0 9) 7,gd (sub (dupShard (sub p 0 9)) 0 9) 8,.i 0]))))))
  else bif (x.2.2).int != 0 then nd (dupOk (sub p 0 9)) (some (1,[gd (sub (dupShard (sub p 0 9)) 0 9) 0,gd (sub (dupShard (sub p 0 9)) 0 9) 1,gd (sub (dupShard (sub p 0 9)) 0 9) 2,gd (sub (dupShard (sub p 0 9)) 0 9) 3,gd (sub (dupShard (sub p 0 9)) 0 9) 4,gd (sub (dupShard (sub p 0 9)) 0 9) 5,gd (sub (dupShard (sub p 0 9)) 0 9) 6,gd (sub (dupShard (sub p 0 9)) 0 9) 7,gd (sub (dupShard (sub p 0 9)) 0 9) 8,x.2.2]))
  else nd (leI ((gd (sub (dupShard (sub p 0 9)) 0 9) 5).rows.length:Int) 1000000000) (nd (ascB (txsD (gd (sub (dupShard (sub p 0 9)) 0 9) 5))&&leI ((txsD (gd (sub (dupShard (sub p 0 9)) 0 9) 5)).rows.length:Int) 40000) (nd (leI ((gd s 0).rows.length:Int) 2000000) (nd (inB (lowN (txsD (gd (sub (dupShard (sub p 0 9)) 0 9) 5)) (gd q 0).int:Int) 0 ((gd (sub (dupShard (sub p 0 9)) 0 9) 5).rows.length:Int)&&leI ((gd (sub (dupShard (sub p 0 9)) 0 9) 5).rows.length:Int) 1000000&&([[gd q 0,.l (gd s 0).rows]].length==1)) (some (1,[gd (sub (dupShard (sub p 0 9)) 0 9) 0,gd (sub (dupShard (sub p 0 9)) 0 9) 1,gd (sub (dupShard (sub p 0 9)) 0 9) 2,gd (sub (dupShard (sub p 0 9)) 0 9) 3,x.1,insHD (gd (sub (dupShard (sub p 0 9)) 0 9) 5) (lowN (txsD (gd (sub (dupShard (sub p 0 9)) 0 9) 5)) (gd q 0).int:Int) (.l [[gd q 0,.l (gd s 0).rows]]),x.2.1,gd (sub (dupShard (sub p 0 9)) 0 9) 7,gd (sub (dupShard (sub p 0 9)) 0 9) 8,.i 0])))))):=rfl
def i_ShardPrepareE:Ent:=(25,e4 (ag rIShard) ri (sd (.sl 41)) (sd (.sl 70)) fun p q r s=>(⟨.tup [.agg rDShard,.c (.d si)],sub (prI p (gd q 0) (gd r 0) (gd s 0)) 0 10⟩,shardSmall p))
theorem i_ShardPrepare_ok:EntOk Tryz.prog i_ShardPrepareE:=e4_ok fun p q r s h=>evFn_sound (N:=(gd s 0).rows.length+1) (ks:=i_ShardPrepareK) (key:=bo) i_ShardPrepareT_ok (enters Tryz.func25) Tryz.func25 fun hw=>by
 rw [i_ShardPrepare_ev]
 have hls:=wt_sl (hw ⟨sd (.sl 70),s⟩ (by simp))
 have h:shardSmall (sub p 0 9)=true:=h
 refine congrArg (fun x=>some (bo,x)) ?_
 change _=some (1,sub (prI p (gd q 0) (gd r 0) (gd s 0)) 0 10)
 unfold prI
 rw [h,nd_true]
 cases hsh:shardOk (sub p 0 9) with
 | false=>rfl
 | true =>
 rw [Bool.not_true,cond_false,cond_false]
 cases hin:inB (gd q 0).int 1 60 with
 | false=>rfl
 | true =>
 rw [Bool.not_true,cond_false,cond_false]
 cases hz:ltI 16 ((gd r 0).rows.length:Int) with
 | true=>rfl
 | false =>
 rw [cond_false,cond_false]
 cases hra:anyS (fun rr=>ixfSPRC (.l [[]]) (sub rr 0 2)) (gd r 0) with
 | true=>rfl
 | false =>
 rw [cond_false,cond_false]
 cases hwo:writesOk (gd s 0) with
 | false=>rfl
 | true =>
 obtain ⟨_,hl4,hl5,hl6,hw6,_⟩:=shard_lens hsh
 have hl5:(gd p 5).rows.length≤60:=hl5
 have hl6:(gd p 6).rows.length≤60:=hl6
 have hw6:(numsOf (.l (gd p 6).rows)).Pairwise (· < ·):=ascOk_asc (z:=gd p 6) hw6
 have hw60:=writes_len hwo
 have h5:leI ((gd p 5).rows.length:Int) 1000000000=true:=leI_t (by omega)
 have hD5:(gd (sub (dupShard (sub p 0 9)) 0 9) 5).rows.length≤60:=Nat.le_trans (kpL_len _ _ _) hl5
 have hD9:leI ((gd (sub (dupShard (sub p 0 9)) 0 9) 5).rows.length:Int) 1000000000=true:=leI_t (by omega)
 rw [Bool.not_true,cond_false,cond_false,shard_dup hsh,h5,nd_true,nd_true]
 cases hih:hasInt (txsD (gd p 5)) (gd q 0).int with
 | true=>rfl
 | false =>
 rw [cond_false,cond_false]
 generalize hN:(gd s 0).rows.length+1=N
 obtain ⟨i,e0,hi1,hi2⟩:=halt_loop (L:=i_ShardPrepareL0 N p q r s) (st:=fun k=>qy p q r s (.i (k:Int)) (asksI p (gd q 0) (gd s 0) (codeI p (gd q 0) (gd r 0) (gd s 0)) k)) (gd s 0).rows.length (fun k=>(asksI p (gd q 0) (gd s 0) (codeI p (gd q 0) (gd r 0) (gd s 0)) k).2.2.int==0) 0 (fun k hk hg=>by
  show i_ShardPrepareL0 _ p q r s [_,_,_,_,_,_,_,_,_,_,_,_,_,_,_,_,_,_,_,.i (k:Int),_,_,_,_,_,_,_,_,_,_,_,_,_,_,_,_,_,_,_,_,_,_,_,_,_,_,_]=_
  rw [i_ShardPrepareR0]
  obtain ⟨m1,m2⟩:=asksI_mem p (gd q 0) (gd s 0) (codeI p (gd q 0) (gd r 0) (gd s 0)) hw6 k
  rw [asksI]
  generalize asksI p (gd q 0) (gd s 0) (codeI p (gd q 0) (gd r 0) (gd s 0)) k=X at *
  obtain ⟨X1,X2,X3⟩:=X
  dsimp only at hg m1 m2 ⊢
  simp only [int_i,c_lt hk,nd_ix hk,w64_succ hk hls,Int.toNat_natCast,hg,cond_true,hD9,ascB_t m1,leI_t (show (X2.rows.length:Int)≤10000 by omega),Bool.and_self,nd_true]
  unfold askB
  rw [show ∀ l w a,askA [gd (sub (dupShard (sub p 0 9)) 0 9) 0,gd (sub (dupShard (sub p 0 9)) 0 9) 1,gd (sub (dupShard (sub p 0 9)) 0 9) 2,gd (sub (dupShard (sub p 0 9)) 0 9) 3,l,gd (sub (dupShard (sub p 0 9)) 0 9) 5,w,gd (sub (dupShard (sub p 0 9)) 0 9) 7,gd (sub (dupShard (sub p 0 9)) 0 9) 8] (gd q 0) a (.i 2)=askI l (txsD (gd (sub (dupShard (sub p 0 9)) 0 9) 5)) (gd q 0) (sub a 0 2) (.i 2) from fun _ _ _=>rfl]
  rw [show askI X1 (txsD (gd (sub (dupShard (sub p 0 9)) 0 9) 5)) (gd q 0) (sub [gd ((gd s 0).rows.getD k []) 0,.i (w64 ((gd ((gd s 0).rows.getD k []) 0).int+1))] 0 2) (.i 2)=askI X1 (txsD (gd (sub (dupShard (sub p 0 9)) 0 9) 5)) (gd q 0) (keyR (gd s 0) k) (.i 2) from rfl]
  generalize askI X1 (txsD (gd (sub (dupShard (sub p 0 9)) 0 9) 5)) (gd q 0) (keyR (gd s 0) k) (.i 2)=AA
  cases (gd AA 2).int==2 with
  | true=>rfl
  | false =>
   cases (gd AA 2).int==3 with
   | true=>rfl
   | false=>rfl) (fun k hk hg=>by
  show i_ShardPrepareL0 _ p q r s [_,_,_,_,_,_,_,_,_,_,_,_,_,_,_,_,_,_,_,.i (k:Int),_,_,_,_,_,_,_,_,_,_,_,_,_,_,_,_,_,_,_,_,_,_,_,_,_,_,_]=_
  rw [i_ShardPrepareR0]
  generalize asksI p (gd q 0) (gd s 0) (codeI p (gd q 0) (gd r 0) (gd s 0)) k=X at *
  obtain ⟨X1,X2,X3⟩:=X
  dsimp only at hg ⊢
  simp only [int_i,c_lt hk,hg,cond_false]) (by
  show i_ShardPrepareL0 _ p q r s [_,_,_,_,_,_,_,_,_,_,_,_,_,_,_,_,_,_,_,.i ((gd s 0).rows.length:Int),_,_,_,_,_,_,_,_,_,_,_,_,_,_,_,_,_,_,_,_,_,_,_,_,_,_,_]=_
  rw [i_ShardPrepareR0]
  simp only [int_i,c_nlt]) (gd s 0).rows.length 0 N (Nat.zero_add _) (by omega)
 simp only [Int.natCast_zero] at e0
 have e0:iter (i_ShardPrepareL0 N p q r s) N (qy p q r s (.i 0) (.l (gd p 4).rows,.l (gd p 6).rows,codeI p (gd q 0) (gd r 0) (gd s 0)))=_:=e0
 have ei:asksI p (gd q 0) (gd s 0) (codeI p (gd q 0) (gd r 0) (gd s 0)) i=asksI p (gd q 0) (gd s 0) (codeI p (gd q 0) (gd r 0) (gd s 0)) (gd s 0).rows.length:=by
  rcases hi2 with hi2 | hi2
  ·rw [hi2]
  ·obtain ⟨m,hm⟩:=Nat.le.dest hi1
   rw [← hm,asksI_stop p (gd q 0) (gd s 0) (codeI p (gd q 0) (gd r 0) (gd s 0)) hi2 m]
 rw [ei] at e0
 generalize asksI p (gd q 0) (gd s 0) (codeI p (gd q 0) (gd r 0) (gd s 0)) (gd s 0).rows.length=X at *
 have hlow:=low_at (z:=txsD (gd (sub (dupShard (sub p 0 9)) 0 9) 5)) (D5_asc hsh) (gd q 0).int
 have hlen:(txsD (gd (sub (dupShard (sub p 0 9)) 0 9) 5)).rows.length=(gd (sub (dupShard (sub p 0 9)) 0 9) 5).rows.length:=List.length_map ..
 have hasc:(ascB (txsD (gd (sub (dupShard (sub p 0 9)) 0 9) 5))&&leI ((txsD (gd (sub (dupShard (sub p 0 9)) 0 9) 5)).rows.length:Int) 40000)=true:=by
  rw [ascB_t (D5_asc hsh),Bool.true_and,hlen]
  exact leI_t (by omega)
 have hins:(inB (lowN (txsD (gd (sub (dupShard (sub p 0 9)) 0 9) 5)) (gd q 0).int:Int) 0 ((gd (sub (dupShard (sub p 0 9)) 0 9) 5).rows.length:Int)&&leI ((gd (sub (dupShard (sub p 0 9)) 0 9) 5).rows.length:Int) 1000000&&(([[gd q 0,D.l (gd s 0).rows]]:List (List D)).length==1))=true:=by
  rw [leI_t (show ((gd (sub (dupShard (sub p 0 9)) 0 9) 5).rows.length:Int)≤1000000 by omega)]
  have h1:=hlow.1
  rw [hlen] at h1
  unfold inB
  rw [decide_eq_true (show (lowN (txsD (gd (sub (dupShard (sub p 0 9)) 0 9) 5)) (gd q 0).int:Int)≥0 by omega),decide_eq_true (show (lowN (txsD (gd (sub (dupShard (sub p 0 9)) 0 9) 5)) (gd q 0).int:Int)≤((gd (sub (dupShard (sub p 0 9)) 0 9) 5).rows.length:Int) by omega)]
  rfl
 have hw2:leI ((gd s 0).rows.length:Int) 2000000=true:=leI_t (by omega)
 have h3:leI ((gd p 3).rows.length:Int) 1000000000=true:=leI_t (by
  have h3:=(shard_lens hsh).2.2.2.2.2.1
  simp only [storeOk,Bool.and_eq_true,leI,decide_eq_true_eq] at h3
  have h3:((gd p 3).rows.length:Int)≤60:=h3.2
  omega)
 change (let o0:=iter (i_ShardPrepareL0 N p q r s) N (qy p q r s (.i 0) (.l (gd p 4).rows,.l (gd p 6).rows,codeI p (gd q 0) (gd r 0) (gd s 0))); i_prT p o0)=_
 rw [e0,i_prT_at]
 unfold prI3
 obtain ⟨X1,X2,X3⟩:=X
 dsimp only
 rw [h3,h5,shard_dup hsh,hD9,hasc,hw2,hins]
 simp only [nd_true,Bool.and_self]
 simp only [show ((6:Int) != 0)=true from rfl,show ((6:Nat) != 0)=true from rfl,cond_true]
 simp only [show (X3.int != 0) = !(X3.int==0) from rfl]
 cases X3.int==0 with
 | true =>
  cases ltI 60 (w64 (roomOf (sub p 0 9)+storeNew (gd p 3) (gd s 0))) <;> rfl
 | false=>rfl
end Go.Proofs.YtpdfmcmnjikppaaGreat
namespace Go.Proofs.YtpdfmcmnjikppaaGreat
open Go.RowKit Go.Lib
theorem ranges_any (z:D):anyS (fun rr=>ixfSPRC (.l [[]]) (sub rr 0 2)) z = !rangesR z:=by
 unfold anyS rangesR
 exact any_all _ fun k _=>rfl
theorem held_rest {p:List D} (h:shardOk (sub p 0 9)=true) {k:Nat} (hk:k<(gd p 5).rows.length):heldRest (sub p 0 9) k=true:=by
 simp only [shardOk,shardSum,heldsOkS,Bool.and_eq_true,List.all_eq_true,List.mem_range] at h
 obtain ⟨_,_,_,_,_,_,_,_,_,_,_,_,_,_,_,hw,_⟩:=h
 have:=hw k hk
 cases k with
 | zero=>simp only [heldAtS,Bool.and_eq_true] at this; exact this.2
 | succ k=>simp only [heldAtS,Bool.and_eq_true] at this; exact this.2.2
theorem held_not {p:List D} (h:shardOk (sub p 0 9)=true) {n:Int} (ht:hasTx (gd p 5) n=true):hasInt (gd p 6) n=false∧hasInt (gd p 7) n=false:=by
 unfold hasTx at ht
 obtain ⟨k,hk,e⟩:=List.any_eq_true.1 ht
 have hk:=List.mem_range.1 hk
 have e:(gd ((gd p 5).rows.getD k []) 0).int=n:=by simpa using e
 have hr:=held_rest h hk
 simp only [heldRest,Bool.and_eq_true,Bool.not_eq_true'] at hr
 have h6:hasInt (gd p 6) (gd ((gd p 5).rows.getD k []) 0).int=false:=hr.2.2.1
 have h7:hasInt (gd p 7) (gd ((gd p 5).rows.getD k []) 0).int=false:=hr.2.2.2
 rw [e] at h6 h7
 exact ⟨h6,h7⟩
theorem txs_dup (p:List D):txsD (gd (sub (dupShard (sub p 0 9)) 0 9) 5)=txsD (gd p 5):=by
 rw [dup_helds]
 unfold txsD
 rw [rows_l,List.map_map]
 rfl
theorem keyR_ok {u:D} (h:writesOk u=true) {k:Nat} (hk:k<u.rows.length):rangeOk (keyR u k)=true:=key_rangeOk (q:=u.rows.getD k []) (writes_at h hk).1
theorem ask_code {l h n:D} {a:List D} (hR:s_l12RightF [l] [h] [n] (sub a 0 2) [.i 2]=true):(gd (askI l h n a (.i 2)) 2).int=0∨(gd (askI l h n a (.i 2)) 2).int=2∨(gd (askI l h n a (.i 2)) 2).int=3:=by
 unfold askI
 rw [hR]
 cases locksHold l n (sub a 0 2) (.i 2) with
 | true=>exact .inl rfl
 | false =>
  cases ltI 0 ((clW l h (askX n a (.i 2))).rows.length:Int) with
  | true=>exact .inr (.inl rfl)
  | false =>
   cases ((askRest l (askX n a (.i 2))).rows.length:Int)==40 with
   | true=>exact .inr (.inr rfl)
   | false=>exact .inl rfl
theorem has_nrm {a b:D} (e:a.rows.map nrm=b.rows.map nrm) {f:D} (h:∀ r∈b.rows,hasInt f (gd r 0).int=false):∀ r∈a.rows,hasInt f (gd r 0).int=false:=by
 intro r hr
 have:nrm r∈b.rows.map nrm:=by rw [← e]; exact List.mem_map_of_mem hr
 obtain ⟨r',hr',e'⟩:=List.mem_map.1 this
 have h2:gd r' 0=gd r 0:=by
  have:=congrArg (fun x=>gd x 0) e'
  exact this
 rw [← h2]
 exact h r' hr'
section
variable {p:List D} {n u:D} (hsh:shardOk (sub p 0 9)=true) (hin:inB n.int 1 60=true) (hwo:writesOk u=true)
include hsh hin hwo
theorem right_at {l:D} (hl:locksOk l=true) {k:Nat} (hk:k<u.rows.length):s_l12RightF [l] [txsD (gd p 5)] [n] (sub (keyR u k) 0 2) [.i 2]=true:=by
 obtain ⟨_,_,hl5,_⟩:=shard_lens hsh
 have hl5:(gd p 5).rows.length≤60:=hl5
 rw [right_is,hl,hin,show rangeOk (sub (sub (keyR u k) 0 2) 0 2)=rangeOk (keyR u k) from rfl,keyR_ok hwo hk,leI_t (show ((txsD (gd p 5)).rows.length:Int)≤60 by unfold txsD; rw [rows_l,List.length_map]; omega)]
 rfl
theorem asks_rel:∀ k,k≤u.rows.length→(∀ j,j<k→(askCS p n u j).int=0)→(asksI p n u (.i 0) k).2.2.int=0∧(asksI p n u (.i 0) k).2.1=(asksS p n u k).2∧(asksI p n u (.i 0) k).1.rows.map nrm=(asksS p n u k).1.rows.map nrm∧locksOk (asksS p n u k).1=true
 | 0,_,_=>⟨rfl,rfl,rfl,(shard_lens hsh).1⟩
 | k+1,hk,h0=>by
  obtain ⟨i1,i2,i3,i4⟩:=asks_rel k (by omega) (fun j hj=>h0 j (by omega))
  have hR:=right_at hsh hin hwo i4 (show k<u.rows.length by omega)
  obtain ⟨a1,a2,a3⟩:=ask_two i3 (txsD (gd p 5)) n (keyR u k) (.i 2)
  obtain ⟨b1,b2,b3⟩:=ask_same hR
  have hc:=h0 k (by omega)
  unfold askCS at hc
  have hn:=ask_none (asksS p n u k).1 (txsD (gd p 5)) n (keyR u k) (.i 2)
  have ho:=ask_ok hR
  obtain ⟨w1,w2⟩:=woundS_is (gd (askS (asksS p n u k).1 (txsD (gd p 5)) n (keyR u k) (.i 2)) 0) (asksS p n u k).2 (gd (askS (asksS p n u k).1 (txsD (gd p 5)) n (keyR u k) (.i 2)) 1) (gd (askS (asksS p n u k).1 (txsD (gd p 5)) n (keyR u k) (.i 2)) 1).rows.length
  have hno:=has_nrm b3 hn
  rw [← b2] at hno
  have hk0:=foldK_none hno
  have hS1:(asksS p n u (k+1)).1.rows.map nrm=(gd (askS (asksS p n u k).1 (txsD (gd p 5)) n (keyR u k) (.i 2)) 0).rows.map nrm:=w1.trans hk0
  have hI:asksI p n u (.i 0) (k+1)=(gd (askI (asksI p n u (.i 0) k).1 (txsD (gd p 5)) n (keyR u k) (.i 2)) 0,putsS (asksI p n u (.i 0) k).2.1 (gd (askI (asksI p n u (.i 0) k).1 (txsD (gd p 5)) n (keyR u k) (.i 2)) 1) (gd (askI (asksI p n u (.i 0) k).1 (txsD (gd p 5)) n (keyR u k) (.i 2)) 1).rows.length,.i 0):=by
   rw [asksI,i1,txs_dup,a1,← b1,hc]
   rfl
  rw [hI]
  refine ⟨rfl,?_,?_,?_⟩
  ·show putsS (asksI p n u (.i 0) k).2.1 _ _=(asksS p n u (k+1)).2
   rw [show (asksS p n u (k+1)).2=(woundS (gd (askS (asksS p n u k).1 (txsD (gd p 5)) n (keyR u k) (.i 2)) 0) (asksS p n u k).2 (gd (askS (asksS p n u k).1 (txsD (gd p 5)) n (keyR u k) (.i 2)) 1) (gd (askS (asksS p n u k).1 (txsD (gd p 5)) n (keyR u k) (.i 2)) 1).rows.length).2 from rfl,w2,i2,a2,← b2]
  ·show (gd (askI (asksI p n u (.i 0) k).1 (txsD (gd p 5)) n (keyR u k) (.i 2)) 0).rows.map nrm=_
   rw [hS1,a3,b3]
  ·rw [locksOk_two (hS1.trans b3)]
   exact ho
theorem asks_stop {k:Nat} (hk:k<u.rows.length) (h0:∀ j,j<k→(askCS p n u j).int=0) (h1:(askCS p n u k).int≠0):(asksI p n u (.i 0) u.rows.length).2.2=.i (s_l13CodeF [askCS p n u k])∧s_l13CodeF [askCS p n u k]≠0:=by
 obtain ⟨i1,i2,i3,i4⟩:=asks_rel hsh hin hwo k (by omega) h0
 have hR:=right_at hsh hin hwo i4 hk
 obtain ⟨a1,_,_⟩:=ask_two i3 (txsD (gd p 5)) n (keyR u k) (.i 2)
 obtain ⟨b1,_,_⟩:=ask_same hR
 have hc:=ask_code hR
 rw [← b1] at hc
 change (askCS p n u k).int=0∨(askCS p n u k).int=2∨(askCS p n u k).int=3 at hc
 have e1:(gd (askI (asksI p n u (.i 0) k).1 (txsD (gd p 5)) n (keyR u k) (.i 2)) 2)=askCS p n u k:=a1.trans b1.symm
 have key:(asksI p n u (.i 0) (k+1)).2.2=.i (s_l13CodeF [askCS p n u k])∧s_l13CodeF [askCS p n u k]≠0:=by
  rw [asksI,i1,txs_dup,e1]
  unfold s_l13CodeF
  rw [show gd [askCS p n u k] 0=askCS p n u k from rfl]
  rcases hc with hc | hc | hc
  ·exact absurd hc h1
  ·rw [hc]
   exact ⟨rfl,by decide⟩
  ·rw [hc]
   exact ⟨rfl,by decide⟩
 obtain ⟨m,hm⟩:=Nat.le.dest (show k+1≤u.rows.length by omega)
 have hst:=asksI_stop p n u (.i 0) (k:=k+1) (by rw [key.1]; exact beq_eq_false_iff_ne.2 key.2) m
 rw [hm] at hst
 rw [hst]
 exact key
end
theorem hS_at {h n:D} {v:List D} {i:Nat} (hi:i≤h.rows.length) (h1:∀ k,k<i→(gd (h.rows.getD k []) 0).int<n.int) (h2:∀ k,i≤k→k<h.rows.length→n.int<(gd (h.rows.getD k []) 0).int) (h3:∀ r∈h.rows,sub r 0 2=r) :
  ∀ k,k≤h.rows.length→hS h n v k=bif ltI (i:Int) (k:Int) then (h.rows.take i ++ [v]++(h.rows.drop i).take (k - i),true) else (h.rows.take k,false)
 | 0,_=>by
  rw [ltI_f (by omega)]
  rfl
 | k+1,hk=>by
  have ih:=hS_at (v:=v) hi h1 h2 h3 k (by omega)
  have hkl:k<h.rows.length:=by omega
  have hrow:sub (h.rows.getD k []) 0 2=h.rows[k]:=by
   rw [getD_row hkl]
   exact h3 _ (List.getElem_mem hkl)
  rw [hS,ih,hrow]
  by_cases hki:i<k
  ·have e1:(h.rows.drop i).take (k+1 - i)=(h.rows.drop i).take (k - i) ++ [h.rows[k]]:=by
    rw [show k+1 - i=k - i+1 from by omega,List.take_add_one,List.getElem?_drop,show i+(k - i)=k from by omega,List.getElem?_eq_getElem hkl]
    rfl
   rw [ltI_nat hki,ltI_nat (show i<k+1 by omega),e1]
   simp [List.append_assoc]
  ·by_cases hke:i=k
   ·subst hke
    have hlt:=h2 i (Nat.le_refl _) hkl
    rw [ltI_nn,ltI_nat (show i<i+1 by omega),cond_false,ltI_t hlt,show i+1 - i=1 from by omega,List.drop_eq_getElem_cons hkl]
    rfl
   ·have hlt:=h1 k (by omega)
    rw [ltI_f (show (k:Int)≤(i:Int) by omega),ltI_f (show ((k+1:Nat):Int)≤(i:Int) by omega),cond_false,cond_false,ltI_f (show (gd (h.rows.getD k []) 0).int≤n.int by omega),List.take_add_one,List.getElem?_eq_getElem hkl]
    rfl
theorem put_same {p:List D} (hsh:shardOk (sub p 0 9)=true) {n u:D} (hn:hasTx (gd p 5) n.int=false) :
  hputS (gd (sub (dupShard (sub p 0 9)) 0 9) 5) n [n,.l u.rows]=insHD (gd (sub (dupShard (sub p 0 9)) 0 9) 5) (lowN (txsD (gd (sub (dupShard (sub p 0 9)) 0 9) 5)) n.int:Int) (.l [[n,.l u.rows]]):=by
 obtain ⟨l1,l2,l3⟩:=low_at (z:=txsD (gd (sub (dupShard (sub p 0 9)) 0 9) 5)) (D5_asc hsh) n.int
 have hno:∀ r∈(gd (sub (dupShard (sub p 0 9)) 0 9) 5).rows,(gd r 0).int≠n.int:=fun r hr e=>by
  have:hasInt (txsD (gd (sub (dupShard (sub p 0 9)) 0 9) 5)) n.int=true:=by
   rw [txs_has,hasTx_iff]
   exact ⟨r,hr,e⟩
  rw [dup_has] at this
  change hasTx (gd p 5) n.int=true at this
  rw [hn] at this
  cases this
 have hrow:∀ r∈(gd (sub (dupShard (sub p 0 9)) 0 9) 5).rows,sub r 0 2=r:=fun r hr=>by
  rw [dup_helds] at hr
  obtain ⟨x,_,rfl⟩:=List.mem_map.1 hr
  rfl
 generalize gd (sub (dupShard (sub p 0 9)) 0 9) 5=h at *
 have hlen:(txsD h).rows.length=h.rows.length:=List.length_map ..
 rw [hlen] at l1 l3
 have hkey:∀ k,k<h.rows.length→keyAt (txsD h) k=(gd (h.rows.getD k []) 0).int:=fun k hk=>by
  show (gd ((h.rows.map fun r => [gd r 0]).getD k []) 0).int=_
  rw [List.getD_eq_getElem?_getD,List.getElem?_map,List.getElem?_eq_getElem hk,getD_row hk]
  rfl
 generalize lowN (txsD h) n.int=i at *
 have hall:=hS_at (h:=h) (n:=n) (v:= [n,.l u.rows]) l1 (fun k hk=>by rw [← hkey k (by omega)]; exact l2 k hk) (fun k hk hl=>by
  have a:=l3 k hk hl
  rw [hkey k hl] at a
  have b:=hno (h.rows.getD k []) (by rw [getD_row hl]; exact List.getElem_mem hl)
  omega) hrow h.rows.length (Nat.le_refl _)
 unfold hputS insHD
 rw [hall,Int.toNat_natCast]
 by_cases hi:i<h.rows.length
 ·rw [ltI_nat hi,cond_true,List.take_of_length_le (show (h.rows.drop i).length≤h.rows.length - i by rw [List.length_drop]; exact Nat.le_refl _)]
  rfl
 ·obtain rfl:i=h.rows.length:=by omega
  rw [ltI_nn,cond_false,List.take_length,List.drop_length,List.append_nil]
  rfl
theorem full_is {p:List D} (hsh:shardOk (sub p 0 9)=true) (u:D):ltI 60 (w64 (roomOf (sub p 0 9)+storeNew (gd p 3) u))=fullS p u:=by
 unfold fullS
 have h:roomOf (sub p 0 9)=((gd p 3).rows.length:Int)+newSum (gd p 3) (gd p 5) (gd p 5).rows.length:=rfl
 obtain ⟨_,_,hl5,_⟩:=shard_lens hsh
 have hl5:(gd p 5).rows.length≤60:=hl5
 have h1:=newSum_in (gd p 3) (gd p 5) (gd p 5).rows.length
 have h3:=(shard_lens hsh).2.2.2.2.2.1
 simp only [storeOk,Bool.and_eq_true,leI,decide_eq_true_eq] at h3
 have h3:((gd p 3).rows.length:Int)≤60:=h3.2
 rw [h,w64_id (x:=((gd p 3).rows.length:Int)+newSum (gd p 3) (gd p 5) (gd p 5).rows.length) (by omega) (by omega)]
theorem prI3_bad (p:List D) (n u:D) {c:Int} (hc:c≠0):prI3 p n u (asksI p n u (.i c) u.rows.length)=sub (dupShard (sub p 0 9)) 0 9 ++ [.i c]:=by
 have h0:(c==0)=false:=by simpa using hc
 have:=asksI_stop p n u (.i c) (k:=0) h0 u.rows.length
 rw [Nat.zero_add] at this
 rw [this]
 show (bif (c==0) then _ else _)=_
 rw [h0,cond_false]
 rfl
theorem prep_same (p:List D) (n z u:D):eqShard (sub (sub (prI p n z u) 0 10) 0 9) (sub (sub (prS p n z u) 0 10) 0 9)=true∧(gd (sub (prI p n z u) 0 10) 9).int=(gd (sub (prS p n z u) 0 10) 9).int:=by
 have same:∀ {x y:List D},x=y→eqShard (sub (sub x 0 10) 0 9) (sub (sub y 0 10) 0 9)=true∧(gd (sub x 0 10) 9).int=(gd (sub y 0 10) 9).int:=fun e=>by
  rw [e]
  exact ⟨eqShard_refl _,rfl⟩
 unfold prI prS rightS
 rw [ranges_any]
 cases hsh:shardOk (sub p 0 9) with
 | false=>exact same rfl
 | true =>
 cases hin:inB n.int 1 60 with
 | false=>exact same rfl
 | true =>
 cases hz:leI (z.rows.length:Int) 16 with
 | false =>
  rw [show ltI 16 (z.rows.length:Int)=true from by simp only [leI,decide_eq_false_iff_not] at hz; exact ltI_t (by omega)]
  exact same rfl
 | true =>
 rw [show ltI 16 (z.rows.length:Int)=false from by simp only [leI,decide_eq_true_eq] at hz; exact ltI_f (by omega)]
 cases hrr:rangesR z with
 | false =>
  cases writesOk u <;> exact same rfl
 | true =>
 cases hwo:writesOk u with
 | false=>exact same rfl
 | true =>
 simp only [Bool.and_self,Bool.not_true,cond_false]
 rw [txs_has]
 cases ht:hasTx (gd p 5) n.int with
 | true =>
  obtain ⟨h6,h7⟩:=held_not hsh ht
  rw [h7]
  exact same rfl
 | false =>
 rw [cond_false]
 obtain ⟨hlo,hl4,hl5,hl6,hw6,hst,hr1,hr2⟩:=shard_lens hsh
 have hlo:locksOk (gd p 4)=true:=hlo
 have hrz:∀ k,k<z.rows.length→rangeOk (sub (z.rows.getD k []) 0 2)=true:=fun k hk=>by
  unfold rangesR at hrr
  exact List.all_eq_true.1 hrr k (List.mem_range.2 hk)
 have hcode:codeI p n z u=.i (bif hasInt (gd p 7) n.int then 2 else bif hasInt (gd p 6) n.int then 3 else bif !readsHeld p n z then 7 else bif !keysFree p u then 4 else 0):=by
  rw [← lost_same (p:=p) (tx:=n) (z:=z) hlo hrz,← else_same (p:=p) (z:=u) hr1 hr2 (fun k hk=>keyR_ok hwo hk)]
  rfl
 rw [hcode]
 cases hasInt (gd p 7) n.int with
 | true=>exact same (prI3_bad p n u (c:=2) (by decide))
 | false =>
 cases hasInt (gd p 6) n.int with
 | true=>exact same (prI3_bad p n u (c:=3) (by decide))
 | false =>
 cases readsHeld p n z with
 | false=>exact same (prI3_bad p n u (c:=7) (by decide))
 | true =>
 cases keysFree p u with
 | false=>exact same (prI3_bad p n u (c:=4) (by decide))
 | true =>
 simp only [Bool.not_true,cond_false,cond_true]
 cases hf:(List.range u.rows.length).find? (fun k=>(askCS p n u k).int != 0) with
 | some k =>
  obtain ⟨hp,i,hi,e,hmin⟩:=List.find?_eq_some_iff_getElem.1 hf
  rw [List.length_range] at hi
  rw [List.getElem_range] at e
  subst e
  have h0:∀ j,j<i→(askCS p n u j).int=0:=fun j hj=>by
   have:=hmin j hj
   rw [List.getElem_range] at this
   simpa using this
  obtain ⟨k1,k2⟩:=asks_stop hsh hin hwo hi h0 (by simpa using hp)
  refine same ?_
  unfold prI3
  rw [k1]
  rw [show ((D.i (s_l13CodeF [askCS p n u i])).int==0)=false from beq_eq_false_iff_ne.2 k2]
  rfl
 | none =>
  have h0:∀ j,j<u.rows.length→(askCS p n u j).int=0:=fun j hj=>by
   have:=List.find?_eq_none.1 hf j (List.mem_range.2 hj)
   simpa using this
  obtain ⟨i1,i2,i3,_⟩:=asks_rel hsh hin hwo u.rows.length (Nat.le_refl _) h0
  unfold prI3 prS2
  rw [i1,full_is hsh,i2,put_same hsh ht]
  rw [show ((0:Int)==0)=true from rfl,cond_true]
  dsimp only
  cases fullS p u with
  | true=>exact same rfl
  | false =>
   refine ⟨?_,rfl⟩
   simp only [cond_false]
   generalize (asksI p n u (.i 0) u.rows.length).1=L at *
   generalize (asksS p n u u.rows.length).1=l at *
   generalize (asksS p n u u.rows.length).2=W
   generalize insHD _ _ _=H
   show (((gd p 0).int==(gd p 0).int)&&(eqRangeS (.l (gd p 1).rows) (.l (gd p 1).rows)&&(eqRangeS (.l (gd p 2).rows) (.l (gd p 2).rows)&&(eqCellS (.l (gd p 3).rows) (.l (gd p 3).rows)&&(eqLockS L l&&(eqHeldS H H&&(eqIntS W W&&(eqIntS (.l (gd p 7).rows) (.l (gd p 7).rows)&&(((gd p 8).int==(gd p 8).int)&&true)))))))))=true
   rw [eqLockS_nrm i3,eqRangeS_refl,eqRangeS_refl,eqCellS_refl,eqHeldS_refl,eqIntS_refl,eqIntS_refl,beq_self_eq_true,beq_self_eq_true]
   rfl
end Go.Proofs.YtpdfmcmnjikppaaGreat
namespace Go.Proofs.YtpdfmcmnjikppaaGreat
inductive Fh where
 | i (off:Nat)
 | b (off:Nat)
 | m (off:Nat) (G:D→D→D)
def hrnd (i:Int) (rows:List (List D)):List Fh→D→(D→Out)→Out
 | [],k,K=>K k
 | .i off::fs,k,K=>nd (inRange i rows.length) (bif (gd (rows.getD i.toNat []) off).int != k.int then oi (-1) else hrnd i rows fs (.i (w64 (k.int+1))) K)
 | .b off::fs,k,K=>nd (inRange i rows.length) (bif !((gd (rows.getD i.toNat []) off).bool==(k.int.tmod 3==0)) then oi (-1) else hrnd i rows fs (.i (w64 (k.int+1))) K)
 | .m off G::fs,k,K=>nd (inRange i rows.length) (bif ltI (G (gd (rows.getD i.toNat []) off) k).int 0 then oi (-1) else hrnd i rows fs (G (gd (rows.getD i.toNat []) off) k) K)
def hdRow (r:List D):List Fh→D→Option D
 | [],k=>some k
 | .i off::fs,k=>bif (gd r off).int != k.int then none else hdRow r fs (.i (w64 (k.int+1)))
 | .b off::fs,k=>bif !((gd r off).bool==(k.int.tmod 3==0)) then none else hdRow r fs (.i (w64 (k.int+1)))
 | .m off G::fs,k=>bif ltI (G (gd r off) k).int 0 then none else hdRow r fs (G (gd r off) k)
theorem hrnd_eq {i:Nat} {rows:List (List D)} {K:D→Out} (hi:i<rows.length):∀ {fs:List Fh} {k:D},hrnd (i:Int) rows fs k K=(match hdRow (rows.getD i []) fs k with | some k'=>K k' | none=>oi (-1))
 | [],k=>rfl
 | .i off::fs,k=>by
  simp only [hrnd,hdRow,Int.toNat_natCast,nd_ix hi]
  cases ((gd (rows.getD i []) off).int != k.int)
  ·simp only [cond_false]; exact hrnd_eq hi
  ·rfl
 | .b off::fs,k=>by
  simp only [hrnd,hdRow,Int.toNat_natCast,nd_ix hi]
  cases (!((gd (rows.getD i []) off).bool==(k.int.tmod 3==0)))
  ·simp only [cond_false]; exact hrnd_eq hi
  ·rfl
 | .m off G::fs,k=>by
  simp only [hrnd,hdRow,Int.toNat_natCast,nd_ix hi]
  cases (ltI (G (gd (rows.getD i []) off) k).int 0)
  ·simp only [cond_false]; exact hrnd_eq hi
  ·rfl
def hdTo (fs:List Fh) (rows:List (List D)) (q:D):Nat→D
 | 0=>q
 | j+1=>(hdRow (rows.getD j []) fs (hdTo fs rows q j)).getD D0
def hdC (fs:List Fh) (rows:List (List D)) (q:D) (j:Nat):Bool:=(hdRow (rows.getD j []) fs (hdTo fs rows q j)).isSome
def hdAll (fs:List Fh) (z q:D):D:=bif (List.range z.rows.length).all (hdC fs z.rows q) then hdTo fs z.rows q z.rows.length else .i (-1)
theorem hd_sound {P:Program} {call:FuncId→List T→Option (T × Bool)} (hcall:CallOk P call) {ks:List Nat} {f:FuncId} {fn:Func} {e:TypeId} {p q:List D} {L:Nat→List D→List D→List D→Out} {fs:List Fh} (hen:∀ vs w,(callFunc f vs).run P w=.ok (.enter f vs) w) (hf:P.funcs[f]?=some fn)
  (hR:∀ N x0 x1 x2 x3,L N p q [x0,x1,x2,x3]=bif ltI x3.int (x0.rows.length:Int) then hrnd x3.int x0.rows fs x1 (fun k=>nx [x0,k,x2,.i (w64 (x3.int+1))]) else ex 0 [x0,x1,x2,x3])
  (hev:∀ N,evFn P call N ks fn ri [⟨.one (.c (.d (.sl e))),p⟩,⟨ri,q⟩]=some (bo,(let o0:=iter (L N p q) N [gd p 0,gd q 0,.i 0,.i 0]; nd o0.isSome (bif o0.code==1 then some (1,o0.pay) else nd (o0.code==2) (some (1,[gd o0.pay 1])))))) :
  SoundFn P f [⟨.one (.c (.d (.sl e))),p⟩,⟨ri,q⟩] ⟨ri,[hdAll fs (gd p 0) (gd q 0)]⟩:=by
 refine evFn_sound (N:=(gd p 0).rows.length+1) (ks:=ks) (key:=bo) hcall hen hf fun hw=>?_
 have hl:(gd p 0).rows.length≤9223372036854775807:=by
  have hw:WD P (.sl e) (gd p 0):=hw ⟨.one (.c (.d (.sl e))),p⟩ (by simp)
  cases hw with
  | sl _ _ _ _ h _=>exact h
 rw [hev]
 have e:=for_loop (L:=L ((gd p 0).rows.length+1) p q) (fun j => [gd p 0,hdTo fs (gd p 0).rows (gd q 0) j,.i 0,.i (j:Int)]) (gd p 0).rows.length (hdC fs (gd p 0).rows (gd q 0)) [.i (-1)] 0 (fun j hj=>?_) ?_ (N:=(gd p 0).rows.length+1) (by omega)
 ·simp only [Int.natCast_zero,Nat.zero_add] at e
  rw [show hdTo fs (gd p 0).rows (gd q 0) 0=gd q 0 from rfl] at e
  rw [e]
  unfold hdAll
  cases (List.range (gd p 0).rows.length).all (hdC fs (gd p 0).rows (gd q 0)) <;> rfl
 ·rw [hR]
  simp only [int_i,c_lt hj]
  rw [hrnd_eq hj,w64_succ hj hl]
  unfold hdC
  simp only [hdTo]
  cases hdRow ((gd p 0).rows.getD j []) fs (hdTo fs (gd p 0).rows (gd q 0) j) <;> rfl
 ·rw [hR]
  simp only [int_i,c_nlt]
def Fh.off:Fh→Nat
 | .i o=>o
 | .b o=>o
 | .m o _=>o
def pairF:Fld→Fh→Prop
 | .i o,.i o'=>o=o'
 | .b o,.b o'=>o=o'
 | .m o F c,.m o' G=>o=o'∧∀ x q:D,0≤q.int→q.int+c x≤4611686018427387904→G (gd (F [x] q) 1) q=gd (F [x] q) 0
 | _,_=>False
def pairFs:List Fld→List Fh→Prop
 | [],[]=>True
 | f::fs,h::hs=>pairF f h∧pairFs fs hs
 | _,_=>False
theorem pairFs.offs:∀ {fs:List Fld} {hs:List Fh},pairFs fs hs→hs.map Fh.off=fs.map Fld.off
 | [],[],_=>rfl
 | f::fs,h::hs,hp=>by
  have h1:h.off=f.off:=by
   have:=hp.1
   cases f <;> cases h <;> first | exact this.symm | exact this.1.symm | exact this.elim
  simp only [List.map_cons,h1,pairFs.offs hp.2]
 | [],_::_,hp=>hp.elim
 | _::_,[],hp=>hp.elim
theorem gd_rowF {w:Nat}:∀ {fs:List Fld} {r:List D} {k:D} {j:Nat},(∀ f∈fs,f.off≠j)→j<w→gd (rowF w fs r k).1 j=gd r j
 | [],r,k,j,_,_=>rfl
 | f::fs,r,k,j,h,hj=>by
  rw [rowF,gd_rowF (fun g hg=>h g (by simp [hg])) hj,gd_stF (h f (by simp)) hj]
theorem stF_at {w:Nat} {r:List D} {k:D}:∀ {f:Fld},f.off<w→gd (stF w f r k).1 f.off=(match f with | .i _=>k | .b _=>.b (k.int.tmod 3==0) | .m o F _=>gd (F [gd r o] k) 1):=by
 have key:∀ (o:Nat) (d:D),o<w→gd (setSub (sub r 0 w) o [d]) o=d:=fun o d ho=>by
  show gd ((sub r 0 w).set o d) o=d
  simp [gd,List.getD_eq_getElem?_getD,List.getElem?_set,sub_length,ho]
 intro f hf
 cases f with
 | i o=>exact key o _ hf
 | b o=>exact key o _ hf
 | m o F c=>exact key o _ hf
theorem held_row {w:Nat}:∀ {fs:List Fld} {hs:List Fh} {r:List D} {k:D},pairFs fs hs→apartF fs=true→FldsOk w fs→0≤k.int→k.int+cFs fs r≤4611686018427387904→hdRow (rowF w fs r k).1 hs k=some (rowF w fs r k).2
 | [],[],r,k,_,_,_,_,_=>rfl
 | [],_::_,_,_,hp,_,_,_,_=>hp.elim
 | _::_,[],_,_,hp,_,_,_,_=>hp.elim
 | f::fs,h::hs,r,k,hp,ha,hok,h0,h1=>by
  simp only [apartF,Bool.and_eq_true,List.all_eq_true] at ha
  simp only [cFs] at h1
  push_cast at h1
  have hc:cFs fs (stF w f r k).1=cFs fs r:=cFs_congr hok.2 fun g hg=>gd_stF (by simpa using ha.1 g hg) (hok.2.mem g hg).lt
  have hk:(stF w f r k).2.int=k.int+cF r f:=by
   cases f with
   | i o=>show w64 (k.int+1)=k.int+((1:Nat):Int); simp only [cF] at h1; rw [w64_id (by omega) (by omega)]; rfl
   | b o=>show w64 (k.int+1)=k.int+((1:Nat):Int); simp only [cF] at h1; rw [w64_id (by omega) (by omega)]; rfl
   | m o F c=>simp only [cF] at h1; exact hok.1.2 _ _ h0 (by omega)
  have ih:=held_row (r:=(stF w f r k).1) (k:=(stF w f r k).2) hp.2 ha.2 hok.2 (by omega) (by rw [hc]; omega)
  have hg:gd (rowF w fs (stF w f r k).1 (stF w f r k).2).1 f.off=gd (stF w f r k).1 f.off:=gd_rowF (fun g hg e=>by have:=ha.1 g hg; rw [e] at this; simp at this) hok.1.lt
  rw [stF_at hok.1.lt] at hg
  simp only [rowF]
  have hp1:=hp.1
  cases f with
  | i o =>
   cases h with
   | i o' =>
    have e:o=o':=hp1
    subst e
    simp only [Fld.off] at hg
    simp only [hdRow,hg,bne_self_eq_false,cond_false]
    exact ih
   | _=>exact hp1.elim
  | b o =>
   cases h with
   | b o' =>
    have e:o=o':=hp1
    subst e
    simp only [Fld.off] at hg
    simp only [hdRow,hg,bool_b,beq_self_eq_true,Bool.not_true,cond_false]
    exact ih
   | _=>exact hp1.elim
  | m o F c =>
   cases h with
   | m o' G =>
    obtain ⟨e,hG⟩:=hp1
    subst e
    simp only [Fld.off] at hg
    simp only [cF] at h1 hk
    have e1:=hG (gd r o) k h0 (by omega)
    simp only [hdRow,hg,e1]
    rw [show (gd (F [gd r o] k) 0)=(stF w (.m o F c) r k).2 from rfl,ltI_f (by omega),cond_false]
    exact ih
   | _=>exact hp1.elim
theorem held_all {w:Nat} {fs:List Fld} {hs:List Fh} {x q:D} (hp:pairFs fs hs) (ha:apartF fs=true) (hok:FldsOk w fs) (h0:0≤q.int) (h1:q.int+total (cFs fs) x.rows≤4611686018427387904):hdAll hs (gd (mkAll (rowF w fs) x q) 1) q=gd (mkAll (rowF w fs) x q) 0:=by
 show hdAll hs (mkZ (rowF w fs) x q x.rows.length) q=(mkTo (rowF w fs) x.rows q x.rows.length).2
 have hk:∀ j,j≤x.rows.length→(mkTo (rowF w fs) x.rows q j).2.int=q.int+total (cFs fs) (x.rows.take j):=by
  intro j
  induction j with
  | zero=>intro _; simp [mkTo,total]
  | succ j ih =>
   intro hj
   have ih:=ih (by omega)
   have ht:=total_take (f:=cFs fs) x.rows j (by omega)
   have hle:=total_take_le (f:=cFs fs) x.rows (j+1)
   simp only [mkTo]
   rw [mkTo_hi _ _ _ j j (Nat.le_refl _),rowF_k ha hok (by omega) (by omega),ih,ht]
   push_cast
   omega
 have hlo:∀ n j,j<n→n≤x.rows.length→(mkTo (rowF w fs) x.rows q n).1.getD j []=(rowF w fs (x.rows.getD j []) (mkTo (rowF w fs) x.rows q j).2).1:=by
  intro n
  induction n with
  | zero=>intro j hj; omega
  | succ n ih =>
   intro j hj hn
   simp only [mkTo]
   by_cases e:j=n
   ·subst e
    rw [getD_set_self (by rw [mkTo_len]; omega),mkTo_hi _ _ _ j j (Nat.le_refl _)]
   ·rw [← ih j (by omega) (by omega)]
    simp only [List.getD_eq_getElem?_getD,List.getElem?_set]
    rw [if_neg (by omega)]
 have hrow:∀ j,j<x.rows.length→hdRow ((mkTo (rowF w fs) x.rows q x.rows.length).1.getD j []) hs (mkTo (rowF w fs) x.rows q j).2=some (mkTo (rowF w fs) x.rows q (j+1)).2:=by
  intro j hj
  have ht:=total_take (f:=cFs fs) x.rows j (by omega)
  have hle:=total_take_le (f:=cFs fs) x.rows (j+1)
  have hkj:=hk j (by omega)
  rw [hlo _ j hj (Nat.le_refl _),held_row hp ha hok (by omega) (by omega)]
  simp only [mkTo]
  rw [mkTo_hi _ _ _ j j (Nat.le_refl _)]
 have hto:∀ j,j≤x.rows.length→hdTo hs (mkTo (rowF w fs) x.rows q x.rows.length).1 q j=(mkTo (rowF w fs) x.rows q j).2:=by
  intro j
  induction j with
  | zero=>intro _; rfl
  | succ j ih =>
   intro hj
   simp only [hdTo]
   rw [ih (by omega),hrow j (by omega)]
   rfl
 unfold hdAll
 rw [mkZ_rows,mkTo_len]
 have hall:(List.range x.rows.length).all (hdC hs (mkTo (rowF w fs) x.rows q x.rows.length).1 q)=true:=by
  rw [List.all_eq_true]
  intro j hj
  have hj:=List.mem_range.1 hj
  unfold hdC
  rw [hto j (by omega),hrow j hj]
  rfl
 rw [hall,cond_true,hto _ (Nat.le_refl _)]
theorem hd_bif (b:Bool) (x:D):(bif b then oi (-1) else some (1,[x]))=(some (1,[bif b then .i (-1) else x]):Out):=by cases b <;> rfl
end Go.Proofs.YtpdfmcmnjikppaaGreat
namespace Go.Proofs.YtpdfmcmnjikppaaGreat
set_option maxRecDepth 4096
set_option maxHeartbeats 1000000
abbrev hdIntST:FuncId→List T→Option (T × Bool):=find []
theorem hdIntST_ok:CallOk Tryz.prog hdIntST:=find_ok (fN)
abbrev hdIntSK:List Nat:= [0,1,4,5,9,17]
noncomputable def hdIntSL (N:Nat) (p q:List D):List D→Out:=loopOf Tryz.prog hdIntST N hdIntSK Tryz.f90 ri [⟨sd (.sl 3),p⟩,⟨ri,q⟩] 0
def hdIntSf:List Fh:= [.i 0]
def hdIntS (x q:D):D:=hdAll hdIntSf x q
theorem hdIntSR (N:Nat) (p q:List D) (x0 x1 x2 x3:D):hdIntSL N p q [x0,x1,x2,x3]=bif ltI x3.int (x0.rows.length:Int) then hrnd x3.int x0.rows hdIntSf x1 (fun k=>nx [x0,k,x2,.i (w64 (x3.int+1))]) else ex 0 [x0,x1,x2,x3]:=by kernel_rfl
theorem hdIntS_ev (N:Nat) (p q:List D):evFn Tryz.prog hdIntST N hdIntSK Tryz.f90 ri [⟨sd (.sl 3),p⟩,⟨ri,q⟩]=some (bo,(let o0:=iter (hdIntSL N p q) N [gd p 0,gd q 0,.i 0,.i 0]; nd o0.isSome (bif o0.code==1 then some (1,o0.pay) else nd (o0.code==2) (some (1,[gd o0.pay 1]))))):=by kernel_rfl
def hdIntSE:Ent:=(90,e2 (sd (.sl 3)) ri fun p q=>(⟨ri,[hdIntS (gd p 0) (gd q 0)]⟩,true))
theorem hdIntS_ok:EntOk Tryz.prog hdIntSE:=e2_ok fun p q _=>hd_sound (L:=hdIntSL) (fs:=hdIntSf) (ks:=hdIntSK) hdIntST_ok (enters Tryz.func90) Tryz.func90 (fun N x0 x1 x2 x3=>hdIntSR N p q x0 x1 x2 x3) (fun N=>hdIntS_ev N p q)
theorem heldIntS {x q:D} (h0:0≤q.int) (h1:q.int+ctIntS x≤4611686018427387904):hdIntS (gd (mkIntS [x] q) 1) q=gd (mkIntS [x] q) 0:=held_all (w:=1) (fs:=mkIntSf) (hs:=hdIntSf) (by
 unfold mkIntSf hdIntSf
 exact ⟨(rfl:0=0),trivial⟩) (by decide) (by
 unfold mkIntSf
 exact ⟨(by decide:0<1),trivial⟩) h0 h1
abbrev hdRangeST:FuncId→List T→Option (T × Bool):=find []
theorem hdRangeST_ok:CallOk Tryz.prog hdRangeST:=find_ok (fN)
abbrev hdRangeSK:List Nat:= [0,1,4,5,9,18,27]
noncomputable def hdRangeSL (N:Nat) (p q:List D):List D→Out:=loopOf Tryz.prog hdRangeST N hdRangeSK Tryz.f87 ri [⟨sd (.sl 41),p⟩,⟨ri,q⟩] 0
def hdRangeSf:List Fh:= [.i 0,.i 1]
def hdRangeS (x q:D):D:=hdAll hdRangeSf x q
theorem hdRangeSR (N:Nat) (p q:List D) (x0 x1 x2 x3:D):hdRangeSL N p q [x0,x1,x2,x3]=bif ltI x3.int (x0.rows.length:Int) then hrnd x3.int x0.rows hdRangeSf x1 (fun k=>nx [x0,k,x2,.i (w64 (x3.int+1))]) else ex 0 [x0,x1,x2,x3]:=by kernel_rfl
theorem hdRangeS_ev (N:Nat) (p q:List D):evFn Tryz.prog hdRangeST N hdRangeSK Tryz.f87 ri [⟨sd (.sl 41),p⟩,⟨ri,q⟩]=some (bo,(let o0:=iter (hdRangeSL N p q) N [gd p 0,gd q 0,.i 0,.i 0]; nd o0.isSome (bif o0.code==1 then some (1,o0.pay) else nd (o0.code==2) (some (1,[gd o0.pay 1]))))):=by kernel_rfl
def hdRangeSE:Ent:=(87,e2 (sd (.sl 41)) ri fun p q=>(⟨ri,[hdRangeS (gd p 0) (gd q 0)]⟩,true))
theorem hdRangeS_ok:EntOk Tryz.prog hdRangeSE:=e2_ok fun p q _=>hd_sound (L:=hdRangeSL) (fs:=hdRangeSf) (ks:=hdRangeSK) hdRangeST_ok (enters Tryz.func87) Tryz.func87 (fun N x0 x1 x2 x3=>hdRangeSR N p q x0 x1 x2 x3) (fun N=>hdRangeS_ev N p q)
theorem heldRangeS {x q:D} (h0:0≤q.int) (h1:q.int+ctRangeS x≤4611686018427387904):hdRangeS (gd (mkRangeS [x] q) 1) q=gd (mkRangeS [x] q) 0:=held_all (w:=2) (fs:=mkRangeSf) (hs:=hdRangeSf) (by
 unfold mkRangeSf hdRangeSf
 exact ⟨(rfl:0=0),(rfl:1=1),trivial⟩) (by decide) (by
 unfold mkRangeSf
 exact ⟨(by decide:0<2),(by decide:1<2),trivial⟩) h0 h1
abbrev hdCellST:FuncId→List T→Option (T × Bool):=find []
theorem hdCellST_ok:CallOk Tryz.prog hdCellST:=find_ok (fN)
abbrev hdCellSK:List Nat:= [0,1,4,5,9,18,27]
noncomputable def hdCellSL (N:Nat) (p q:List D):List D→Out:=loopOf Tryz.prog hdCellST N hdCellSK Tryz.f19 ri [⟨sd (.sl 108),p⟩,⟨ri,q⟩] 0
def hdCellSf:List Fh:= [.i 0,.i 1]
def hdCellS (x q:D):D:=hdAll hdCellSf x q
theorem hdCellSR (N:Nat) (p q:List D) (x0 x1 x2 x3:D):hdCellSL N p q [x0,x1,x2,x3]=bif ltI x3.int (x0.rows.length:Int) then hrnd x3.int x0.rows hdCellSf x1 (fun k=>nx [x0,k,x2,.i (w64 (x3.int+1))]) else ex 0 [x0,x1,x2,x3]:=by kernel_rfl
theorem hdCellS_ev (N:Nat) (p q:List D):evFn Tryz.prog hdCellST N hdCellSK Tryz.f19 ri [⟨sd (.sl 108),p⟩,⟨ri,q⟩]=some (bo,(let o0:=iter (hdCellSL N p q) N [gd p 0,gd q 0,.i 0,.i 0]; nd o0.isSome (bif o0.code==1 then some (1,o0.pay) else nd (o0.code==2) (some (1,[gd o0.pay 1]))))):=by kernel_rfl
def hdCellSE:Ent:=(19,e2 (sd (.sl 108)) ri fun p q=>(⟨ri,[hdCellS (gd p 0) (gd q 0)]⟩,true))
theorem hdCellS_ok:EntOk Tryz.prog hdCellSE:=e2_ok fun p q _=>hd_sound (L:=hdCellSL) (fs:=hdCellSf) (ks:=hdCellSK) hdCellST_ok (enters Tryz.func19) Tryz.func19 (fun N x0 x1 x2 x3=>hdCellSR N p q x0 x1 x2 x3) (fun N=>hdCellS_ev N p q)
theorem heldCellS {x q:D} (h0:0≤q.int) (h1:q.int+ctCellS x≤4611686018427387904):hdCellS (gd (mkCellS [x] q) 1) q=gd (mkCellS [x] q) 0:=held_all (w:=2) (fs:=mkCellSf) (hs:=hdCellSf) (by
 unfold mkCellSf hdCellSf
 exact ⟨(rfl:0=0),(rfl:1=1),trivial⟩) (by decide) (by
 unfold mkCellSf
 exact ⟨(by decide:0<2),(by decide:1<2),trivial⟩) h0 h1
abbrev hdWriteST:FuncId→List T→Option (T × Bool):=find []
theorem hdWriteST_ok:CallOk Tryz.prog hdWriteST:=find_ok (fN)
abbrev hdWriteSK:List Nat:= [0,1,4,5,9,18,27]
noncomputable def hdWriteSL (N:Nat) (p q:List D):List D→Out:=loopOf Tryz.prog hdWriteST N hdWriteSK Tryz.f198 ri [⟨sd (.sl 70),p⟩,⟨ri,q⟩] 0
def hdWriteSf:List Fh:= [.i 0,.i 1]
def hdWriteS (x q:D):D:=hdAll hdWriteSf x q
theorem hdWriteSR (N:Nat) (p q:List D) (x0 x1 x2 x3:D):hdWriteSL N p q [x0,x1,x2,x3]=bif ltI x3.int (x0.rows.length:Int) then hrnd x3.int x0.rows hdWriteSf x1 (fun k=>nx [x0,k,x2,.i (w64 (x3.int+1))]) else ex 0 [x0,x1,x2,x3]:=by kernel_rfl
theorem hdWriteS_ev (N:Nat) (p q:List D):evFn Tryz.prog hdWriteST N hdWriteSK Tryz.f198 ri [⟨sd (.sl 70),p⟩,⟨ri,q⟩]=some (bo,(let o0:=iter (hdWriteSL N p q) N [gd p 0,gd q 0,.i 0,.i 0]; nd o0.isSome (bif o0.code==1 then some (1,o0.pay) else nd (o0.code==2) (some (1,[gd o0.pay 1]))))):=by kernel_rfl
def hdWriteSE:Ent:=(198,e2 (sd (.sl 70)) ri fun p q=>(⟨ri,[hdWriteS (gd p 0) (gd q 0)]⟩,true))
theorem hdWriteS_ok:EntOk Tryz.prog hdWriteSE:=e2_ok fun p q _=>hd_sound (L:=hdWriteSL) (fs:=hdWriteSf) (ks:=hdWriteSK) hdWriteST_ok (enters Tryz.func198) Tryz.func198 (fun N x0 x1 x2 x3=>hdWriteSR N p q x0 x1 x2 x3) (fun N=>hdWriteS_ev N p q)
theorem heldWriteS {x q:D} (h0:0≤q.int) (h1:q.int+ctWriteS x≤4611686018427387904):hdWriteS (gd (mkWriteS [x] q) 1) q=gd (mkWriteS [x] q) 0:=held_all (w:=2) (fs:=mkWriteSf) (hs:=hdWriteSf) (by
 unfold mkWriteSf hdWriteSf
 exact ⟨(rfl:0=0),(rfl:1=1),trivial⟩) (by decide) (by
 unfold mkWriteSf
 exact ⟨(by decide:0<2),(by decide:1<2),trivial⟩) h0 h1
abbrev hdLockST:FuncId→List T→Option (T × Bool):=find []
theorem hdLockST_ok:CallOk Tryz.prog hdLockST:=find_ok (fN)
abbrev hdLockSK:List Nat:= [0,1,4,5,9,18,27,36,45]
noncomputable def hdLockSL (N:Nat) (p q:List D):List D→Out:=loopOf Tryz.prog hdLockST N hdLockSK Tryz.f88 ri [⟨sd (.sl 93),p⟩,⟨ri,q⟩] 0
def hdLockSf:List Fh:= [.i 0,.i 1,.i 2,.i 3]
def hdLockS (x q:D):D:=hdAll hdLockSf x q
theorem hdLockSR (N:Nat) (p q:List D) (x0 x1 x2 x3:D):hdLockSL N p q [x0,x1,x2,x3]=bif ltI x3.int (x0.rows.length:Int) then hrnd x3.int x0.rows hdLockSf x1 (fun k=>nx [x0,k,x2,.i (w64 (x3.int+1))]) else ex 0 [x0,x1,x2,x3]:=by kernel_rfl
theorem hdLockS_ev (N:Nat) (p q:List D):evFn Tryz.prog hdLockST N hdLockSK Tryz.f88 ri [⟨sd (.sl 93),p⟩,⟨ri,q⟩]=some (bo,(let o0:=iter (hdLockSL N p q) N [gd p 0,gd q 0,.i 0,.i 0]; nd o0.isSome (bif o0.code==1 then some (1,o0.pay) else nd (o0.code==2) (some (1,[gd o0.pay 1]))))):=by kernel_rfl
def hdLockSE:Ent:=(88,e2 (sd (.sl 93)) ri fun p q=>(⟨ri,[hdLockS (gd p 0) (gd q 0)]⟩,true))
theorem hdLockS_ok:EntOk Tryz.prog hdLockSE:=e2_ok fun p q _=>hd_sound (L:=hdLockSL) (fs:=hdLockSf) (ks:=hdLockSK) hdLockST_ok (enters Tryz.func88) Tryz.func88 (fun N x0 x1 x2 x3=>hdLockSR N p q x0 x1 x2 x3) (fun N=>hdLockS_ev N p q)
theorem heldLockS {x q:D} (h0:0≤q.int) (h1:q.int+ctLockS x≤4611686018427387904):hdLockS (gd (mkLockS [x] q) 1) q=gd (mkLockS [x] q) 0:=held_all (w:=4) (fs:=mkLockSf) (hs:=hdLockSf) (by
 unfold mkLockSf hdLockSf
 exact ⟨(rfl:0=0),(rfl:1=1),(rfl:2=2),(rfl:3=3),trivial⟩) (by decide) (by
 unfold mkLockSf
 exact ⟨(by decide:0<4),(by decide:1<4),(by decide:2<4),(by decide:3<4),trivial⟩) h0 h1
abbrev hdHeldST:FuncId→List T→Option (T × Bool):=find [hdWriteSE]
theorem hdHeldST_ok:CallOk Tryz.prog hdHeldST:=find_ok (fC ⟨hdWriteS_ok,fN⟩)
abbrev hdHeldSK:List Nat:= [0,1,4,5,9,18,29]
noncomputable def hdHeldSL (N:Nat) (p q:List D):List D→Out:=loopOf Tryz.prog hdHeldST N hdHeldSK Tryz.f89 ri [⟨sd (.sl 75),p⟩,⟨ri,q⟩] 0
def hdHeldSf:List Fh:= [.i 0,.m 1 hdWriteS]
def hdHeldS (x q:D):D:=hdAll hdHeldSf x q
theorem hdHeldSR (N:Nat) (p q:List D) (x0 x1 x2 x3:D):hdHeldSL N p q [x0,x1,x2,x3]=bif ltI x3.int (x0.rows.length:Int) then hrnd x3.int x0.rows hdHeldSf x1 (fun k=>nx [x0,k,x2,.i (w64 (x3.int+1))]) else ex 0 [x0,x1,x2,x3]:=by kernel_rfl
theorem hdHeldS_ev (N:Nat) (p q:List D):evFn Tryz.prog hdHeldST N hdHeldSK Tryz.f89 ri [⟨sd (.sl 75),p⟩,⟨ri,q⟩]=some (bo,(let o0:=iter (hdHeldSL N p q) N [gd p 0,gd q 0,.i 0,.i 0]; nd o0.isSome (bif o0.code==1 then some (1,o0.pay) else nd (o0.code==2) (some (1,[gd o0.pay 1]))))):=by kernel_rfl
def hdHeldSE:Ent:=(89,e2 (sd (.sl 75)) ri fun p q=>(⟨ri,[hdHeldS (gd p 0) (gd q 0)]⟩,true))
theorem hdHeldS_ok:EntOk Tryz.prog hdHeldSE:=e2_ok fun p q _=>hd_sound (L:=hdHeldSL) (fs:=hdHeldSf) (ks:=hdHeldSK) hdHeldST_ok (enters Tryz.func89) Tryz.func89 (fun N x0 x1 x2 x3=>hdHeldSR N p q x0 x1 x2 x3) (fun N=>hdHeldS_ev N p q)
theorem heldHeldS {x q:D} (h0:0≤q.int) (h1:q.int+ctHeldS x≤4611686018427387904):hdHeldS (gd (mkHeldS [x] q) 1) q=gd (mkHeldS [x] q) 0:=held_all (w:=2) (fs:=mkHeldSf) (hs:=hdHeldSf) (by
 unfold mkHeldSf hdHeldSf
 exact ⟨(rfl:0=0),⟨rfl,fun x q h0 h1=>heldWriteS h0 h1⟩,trivial⟩) (by decide) (by
 unfold mkHeldSf
 exact ⟨(by decide:0<2),⟨by decide,fun x q h0 h1=>mkWriteS_k h0 h1⟩,trivial⟩) h0 h1
end Go.Proofs.YtpdfmcmnjikppaaGreat
namespace Go.Proofs.YtpdfmcmnjikppaaGreat
set_option maxRecDepth 4096
set_option maxHeartbeats 1000000
abbrev hdShardT:FuncId→List T→Option (T × Bool):=find [hdRangeSE,hdCellSE,hdLockSE,hdHeldSE,hdIntSE]
theorem hdShardT_ok:CallOk Tryz.prog hdShardT:=find_ok (fC ⟨hdRangeS_ok,fC ⟨hdCellS_ok,fC ⟨hdLockS_ok,fC ⟨hdHeldS_ok,fC ⟨hdIntS_ok,fN⟩⟩⟩⟩⟩)
abbrev hdShardK:List Nat:= [0,1,2,4,10,16,22,28,34,40,46]
def hdShard (p:List D) (q:D):D:=bif ltI (hdRangeS (gd p 1) q).int 0 then .i (-1) else bif ltI (hdRangeS (gd p 2) (hdRangeS (gd p 1) q)).int 0 then .i (-1) else bif ltI (hdCellS (gd p 3) (hdRangeS (gd p 2) (hdRangeS (gd p 1) q))).int 0 then .i (-1) else bif ltI (hdLockS (gd p 4) (hdCellS (gd p 3) (hdRangeS (gd p 2) (hdRangeS (gd p 1) q)))).int 0 then .i (-1) else bif ltI (hdHeldS (gd p 5) (hdLockS (gd p 4) (hdCellS (gd p 3) (hdRangeS (gd p 2) (hdRangeS (gd p 1) q))))).int 0 then .i (-1) else bif ltI (hdIntS (gd p 6) (hdHeldS (gd p 5) (hdLockS (gd p 4) (hdCellS (gd p 3) (hdRangeS (gd p 2) (hdRangeS (gd p 1) q)))))).int 0 then .i (-1) else bif ltI (hdIntS (gd p 7) (hdIntS (gd p 6) (hdHeldS (gd p 5) (hdLockS (gd p 4) (hdCellS (gd p 3) (hdRangeS (gd p 2) (hdRangeS (gd p 1) q))))))).int 0 then .i (-1) else (hdIntS (gd p 7) (hdIntS (gd p 6) (hdHeldS (gd p 5) (hdLockS (gd p 4) (hdCellS (gd p 3) (hdRangeS (gd p 2) (hdRangeS (gd p 1) q)))))))
theorem hdShard_ev (p q:List D):evFn Tryz.prog hdShardT 0 hdShardK Tryz.f18 ri [⟨ag rIShard,p⟩,⟨ri,q⟩]=some (bo,bif ltI (hdRangeS (gd p 1) (gd q 0)).int 0 then oi (-1) else bif ltI (hdRangeS (gd p 2) (hdRangeS (gd p 1) (gd q 0))).int 0 then oi (-1) else bif ltI (hdCellS (gd p 3) (hdRangeS (gd p 2) (hdRangeS (gd p 1) (gd q 0)))).int 0 then oi (-1) else bif ltI (hdLockS (gd p 4) (hdCellS (gd p 3) (hdRangeS (gd p 2) (hdRangeS (gd p 1) (gd q 0))))).int 0 then oi (-1) else bif ltI (hdHeldS (gd p 5) (hdLockS (gd p 4) (hdCellS (gd p 3) (hdRangeS (gd p 2) (hdRangeS (gd p 1) (gd q 0)))))).int 0 then oi (-1) else bif ltI (hdIntS (gd p 6) (hdHeldS (gd p 5) (hdLockS (gd p 4) (hdCellS (gd p 3) (hdRangeS (gd p 2) (hdRangeS (gd p 1) (gd q 0))))))).int 0 then oi (-1) else bif ltI (hdIntS (gd p 7) (hdIntS (gd p 6) (hdHeldS (gd p 5) (hdLockS (gd p 4) (hdCellS (gd p 3) (hdRangeS (gd p 2) (hdRangeS (gd p 1) (gd q 0)))))))).int 0 then oi (-1) else some (1,[(hdIntS (gd p 7) (hdIntS (gd p 6) (hdHeldS (gd p 5) (hdLockS (gd p 4) (hdCellS (gd p 3) (hdRangeS (gd p 2) (hdRangeS (gd p 1) (gd q 0))))))))])):=by kernel_rfl
def hdShardE:Ent:=(18,e2 (ag rIShard) ri fun p q=>(⟨ri,[hdShard p (gd q 0)]⟩,true))
theorem hdShard_ok:EntOk Tryz.prog hdShardE:=e2_ok fun p q _=>evFn_sound (N:=0) (ks:=hdShardK) (key:=bo) hdShardT_ok (enters Tryz.func18) Tryz.func18 fun hw=>by
 rw [hdShard_ev]
 unfold hdShard
 simp only [hd_bif]
theorem heldShard {p:List D} {q:D} (h0:0≤q.int) (h1:q.int+ctShard p≤4611686018427387904):hdShard (sub (mkShard p q) 1 9) q=gd (mkShard p q) 0:=by
 unfold ctShard at h1
 have e1:=mkRangeS_k (x:=gd p 1) (q:=q) (by omega) (by omega)
 have e2:=mkRangeS_k (x:=gd p 2) (q:=(gd (mkRangeS [gd p 1] q) 0)) (by omega) (by omega)
 have e3:=mkCellS_k (x:=gd p 3) (q:=(gd (mkRangeS [gd p 2] (gd (mkRangeS [gd p 1] q) 0)) 0)) (by omega) (by omega)
 have e4:=mkLockS_k (x:=gd p 4) (q:=(gd (mkCellS [gd p 3] (gd (mkRangeS [gd p 2] (gd (mkRangeS [gd p 1] q) 0)) 0)) 0)) (by omega) (by omega)
 have e5:=mkHeldS_k (x:=gd p 5) (q:=(gd (mkLockS [gd p 4] (gd (mkCellS [gd p 3] (gd (mkRangeS [gd p 2] (gd (mkRangeS [gd p 1] q) 0)) 0)) 0)) 0)) (by omega) (by omega)
 have e6:=mkIntS_k (x:=gd p 6) (q:=(gd (mkHeldS [gd p 5] (gd (mkLockS [gd p 4] (gd (mkCellS [gd p 3] (gd (mkRangeS [gd p 2] (gd (mkRangeS [gd p 1] q) 0)) 0)) 0)) 0)) 0)) (by omega) (by omega)
 have e7:=mkIntS_k (x:=gd p 7) (q:=(gd (mkIntS [gd p 6] (gd (mkHeldS [gd p 5] (gd (mkLockS [gd p 4] (gd (mkCellS [gd p 3] (gd (mkRangeS [gd p 2] (gd (mkRangeS [gd p 1] q) 0)) 0)) 0)) 0)) 0)) 0)) (by omega) (by omega)
 have f1:hdRangeS (.l (gd (mkRangeS [gd p 1] q) 1).rows) q=gd (mkRangeS [gd p 1] q) 0:=heldRangeS (by omega) (by omega)
 have f2:hdRangeS (.l (gd (mkRangeS [gd p 2] (gd (mkRangeS [gd p 1] q) 0)) 1).rows) (gd (mkRangeS [gd p 1] q) 0)=gd (mkRangeS [gd p 2] (gd (mkRangeS [gd p 1] q) 0)) 0:=heldRangeS (by omega) (by omega)
 have f3:hdCellS (.l (gd (mkCellS [gd p 3] (gd (mkRangeS [gd p 2] (gd (mkRangeS [gd p 1] q) 0)) 0)) 1).rows) (gd (mkRangeS [gd p 2] (gd (mkRangeS [gd p 1] q) 0)) 0)=gd (mkCellS [gd p 3] (gd (mkRangeS [gd p 2] (gd (mkRangeS [gd p 1] q) 0)) 0)) 0:=heldCellS (by omega) (by omega)
 have f4:hdLockS (.l (gd (mkLockS [gd p 4] (gd (mkCellS [gd p 3] (gd (mkRangeS [gd p 2] (gd (mkRangeS [gd p 1] q) 0)) 0)) 0)) 1).rows) (gd (mkCellS [gd p 3] (gd (mkRangeS [gd p 2] (gd (mkRangeS [gd p 1] q) 0)) 0)) 0)=gd (mkLockS [gd p 4] (gd (mkCellS [gd p 3] (gd (mkRangeS [gd p 2] (gd (mkRangeS [gd p 1] q) 0)) 0)) 0)) 0:=heldLockS (by omega) (by omega)
 have f5:hdHeldS (.l (gd (mkHeldS [gd p 5] (gd (mkLockS [gd p 4] (gd (mkCellS [gd p 3] (gd (mkRangeS [gd p 2] (gd (mkRangeS [gd p 1] q) 0)) 0)) 0)) 0)) 1).rows) (gd (mkLockS [gd p 4] (gd (mkCellS [gd p 3] (gd (mkRangeS [gd p 2] (gd (mkRangeS [gd p 1] q) 0)) 0)) 0)) 0)=gd (mkHeldS [gd p 5] (gd (mkLockS [gd p 4] (gd (mkCellS [gd p 3] (gd (mkRangeS [gd p 2] (gd (mkRangeS [gd p 1] q) 0)) 0)) 0)) 0)) 0:=heldHeldS (by omega) (by omega)
 have f6:hdIntS (.l (gd (mkIntS [gd p 6] (gd (mkHeldS [gd p 5] (gd (mkLockS [gd p 4] (gd (mkCellS [gd p 3] (gd (mkRangeS [gd p 2] (gd (mkRangeS [gd p 1] q) 0)) 0)) 0)) 0)) 0)) 1).rows) (gd (mkHeldS [gd p 5] (gd (mkLockS [gd p 4] (gd (mkCellS [gd p 3] (gd (mkRangeS [gd p 2] (gd (mkRangeS [gd p 1] q) 0)) 0)) 0)) 0)) 0)=gd (mkIntS [gd p 6] (gd (mkHeldS [gd p 5] (gd (mkLockS [gd p 4] (gd (mkCellS [gd p 3] (gd (mkRangeS [gd p 2] (gd (mkRangeS [gd p 1] q) 0)) 0)) 0)) 0)) 0)) 0:=heldIntS (by omega) (by omega)
 have f7:hdIntS (.l (gd (mkIntS [gd p 7] (gd (mkIntS [gd p 6] (gd (mkHeldS [gd p 5] (gd (mkLockS [gd p 4] (gd (mkCellS [gd p 3] (gd (mkRangeS [gd p 2] (gd (mkRangeS [gd p 1] q) 0)) 0)) 0)) 0)) 0)) 0)) 1).rows) (gd (mkIntS [gd p 6] (gd (mkHeldS [gd p 5] (gd (mkLockS [gd p 4] (gd (mkCellS [gd p 3] (gd (mkRangeS [gd p 2] (gd (mkRangeS [gd p 1] q) 0)) 0)) 0)) 0)) 0)) 0)=gd (mkIntS [gd p 7] (gd (mkIntS [gd p 6] (gd (mkHeldS [gd p 5] (gd (mkLockS [gd p 4] (gd (mkCellS [gd p 3] (gd (mkRangeS [gd p 2] (gd (mkRangeS [gd p 1] q) 0)) 0)) 0)) 0)) 0)) 0)) 0:=heldIntS (by omega) (by omega)
 show (bif ltI (hdRangeS (.l (gd (mkRangeS [gd p 1] q) 1).rows) q).int 0 then D.i (-1) else bif ltI (hdRangeS (.l (gd (mkRangeS [gd p 2] (gd (mkRangeS [gd p 1] q) 0)) 1).rows) (hdRangeS (.l (gd (mkRangeS [gd p 1] q) 1).rows) q)).int 0 then D.i (-1) else bif ltI (hdCellS (.l (gd (mkCellS [gd p 3] (gd (mkRangeS [gd p 2] (gd (mkRangeS [gd p 1] q) 0)) 0)) 1).rows) (hdRangeS (.l (gd (mkRangeS [gd p 2] (gd (mkRangeS [gd p 1] q) 0)) 1).rows) (hdRangeS (.l (gd (mkRangeS [gd p 1] q) 1).rows) q))).int 0 then D.i (-1) else bif ltI (hdLockS (.l (gd (mkLockS [gd p 4] (gd (mkCellS [gd p 3] (gd (mkRangeS [gd p 2] (gd (mkRangeS [gd p 1] q) 0)) 0)) 0)) 1).rows) (hdCellS (.l (gd (mkCellS [gd p 3] (gd (mkRangeS [gd p 2] (gd (mkRangeS [gd p 1] q) 0)) 0)) 1).rows) (hdRangeS (.l (gd (mkRangeS [gd p 2] (gd (mkRangeS [gd p 1] q) 0)) 1).rows) (hdRangeS (.l (gd (mkRangeS [gd p 1] q) 1).rows) q)))).int 0 then D.i (-1) else bif ltI (hdHeldS (.l (gd (mkHeldS [gd p 5] (gd (mkLockS [gd p 4] (gd (mkCellS [gd p 3] (gd (mkRangeS [gd p 2] (gd (mkRangeS [gd p 1] q) 0)) 0)) 0)) 0)) 1).rows) (hdLockS (.l (gd (mkLockS [gd p 4] (gd (mkCellS [gd p 3] (gd (mkRangeS [gd p 2] (gd (mkRangeS [gd p 1] q) 0)) 0)) 0)) 1).rows) (hdCellS (.l (gd (mkCellS [gd p 3] (gd (mkRangeS [gd p 2] (gd (mkRangeS [gd p 1] q) 0)) 0)) 1).rows) (hdRangeS (.l (gd (mkRangeS [gd p 2] (gd (mkRangeS [gd p 1] q) 0)) 1).rows) (hdRangeS (.l (gd (mkRangeS [gd p 1] q) 1).rows) q))))).int 0 then D.i (-1) else bif ltI (hdIntS (.l (gd (mkIntS [gd p 6] (gd (mkHeldS [gd p 5] (gd (mkLockS [gd p 4] (gd (mkCellS [gd p 3] (gd (mkRangeS [gd p 2] (gd (mkRangeS [gd p 1] q) 0)) 0)) 0)) 0)) 0)) 1).rows) (hdHeldS (.l (gd (mkHeldS [gd p 5] (gd (mkLockS [gd p 4] (gd (mkCellS [gd p 3] (gd (mkRangeS [gd p 2] (gd (mkRangeS [gd p 1] q) 0)) 0)) 0)) 0)) 1).rows) (hdLockS (.l (gd (mkLockS [gd p 4] (gd (mkCellS [gd p 3] (gd (mkRangeS [gd p 2] (gd (mkRangeS [gd p 1] q) 0)) 0)) 0)) 1).rows) (hdCellS (.l (gd (mkCellS [gd p 3] (gd (mkRangeS [gd p 2] (gd (mkRangeS [gd p 1] q) 0)) 0)) 1).rows) (hdRangeS (.l (gd (mkRangeS [gd p 2] (gd (mkRangeS [gd p 1] q) 0)) 1).rows) (hdRangeS (.l (gd (mkRangeS [gd p 1] q) 1).rows) q)))))).int 0 then D.i (-1) else bif ltI (hdIntS (.l (gd (mkIntS [gd p 7] (gd (mkIntS [gd p 6] (gd (mkHeldS [gd p 5] (gd (mkLockS [gd p 4] (gd (mkCellS [gd p 3] (gd (mkRangeS [gd p 2] (gd (mkRangeS [gd p 1] q) 0)) 0)) 0)) 0)) 0)) 0)) 1).rows) (hdIntS (.l (gd (mkIntS [gd p 6] (gd (mkHeldS [gd p 5] (gd (mkLockS [gd p 4] (gd (mkCellS [gd p 3] (gd (mkRangeS [gd p 2] (gd (mkRangeS [gd p 1] q) 0)) 0)) 0)) 0)) 0)) 1).rows) (hdHeldS (.l (gd (mkHeldS [gd p 5] (gd (mkLockS [gd p 4] (gd (mkCellS [gd p 3] (gd (mkRangeS [gd p 2] (gd (mkRangeS [gd p 1] q) 0)) 0)) 0)) 0)) 1).rows) (hdLockS (.l (gd (mkLockS [gd p 4] (gd (mkCellS [gd p 3] (gd (mkRangeS [gd p 2] (gd (mkRangeS [gd p 1] q) 0)) 0)) 0)) 1).rows) (hdCellS (.l (gd (mkCellS [gd p 3] (gd (mkRangeS [gd p 2] (gd (mkRangeS [gd p 1] q) 0)) 0)) 1).rows) (hdRangeS (.l (gd (mkRangeS [gd p 2] (gd (mkRangeS [gd p 1] q) 0)) 1).rows) (hdRangeS (.l (gd (mkRangeS [gd p 1] q) 1).rows) q))))))).int 0 then D.i (-1) else (hdIntS (.l (gd (mkIntS [gd p 7] (gd (mkIntS [gd p 6] (gd (mkHeldS [gd p 5] (gd (mkLockS [gd p 4] (gd (mkCellS [gd p 3] (gd (mkRangeS [gd p 2] (gd (mkRangeS [gd p 1] q) 0)) 0)) 0)) 0)) 0)) 0)) 1).rows) (hdIntS (.l (gd (mkIntS [gd p 6] (gd (mkHeldS [gd p 5] (gd (mkLockS [gd p 4] (gd (mkCellS [gd p 3] (gd (mkRangeS [gd p 2] (gd (mkRangeS [gd p 1] q) 0)) 0)) 0)) 0)) 0)) 1).rows) (hdHeldS (.l (gd (mkHeldS [gd p 5] (gd (mkLockS [gd p 4] (gd (mkCellS [gd p 3] (gd (mkRangeS [gd p 2] (gd (mkRangeS [gd p 1] q) 0)) 0)) 0)) 0)) 1).rows) (hdLockS (.l (gd (mkLockS [gd p 4] (gd (mkCellS [gd p 3] (gd (mkRangeS [gd p 2] (gd (mkRangeS [gd p 1] q) 0)) 0)) 0)) 1).rows) (hdCellS (.l (gd (mkCellS [gd p 3] (gd (mkRangeS [gd p 2] (gd (mkRangeS [gd p 1] q) 0)) 0)) 1).rows) (hdRangeS (.l (gd (mkRangeS [gd p 2] (gd (mkRangeS [gd p 1] q) 0)) 1).rows) (hdRangeS (.l (gd (mkRangeS [gd p 1] q) 1).rows) q))))))))=(gd (mkIntS [gd p 7] (gd (mkIntS [gd p 6] (gd (mkHeldS [gd p 5] (gd (mkLockS [gd p 4] (gd (mkCellS [gd p 3] (gd (mkRangeS [gd p 2] (gd (mkRangeS [gd p 1] q) 0)) 0)) 0)) 0)) 0)) 0)) 0)
 rw [f1,ltI_f (show 0≤_ by omega),cond_false,f2,ltI_f (show 0≤_ by omega),cond_false,f3,ltI_f (show 0≤_ by omega),cond_false,f4,ltI_f (show 0≤_ by omega),cond_false,f5,ltI_f (show 0≤_ by omega),cond_false,f6,ltI_f (show 0≤_ by omega),cond_false,f7,ltI_f (show 0≤_ by omega),cond_false]
end Go.Proofs.YtpdfmcmnjikppaaGreat
namespace Go.Proofs.YtpdfmcmnjikppaaGreat
open Go.RowKit Go.Lib
theorem total_leS {f:List D→Nat} {c:Nat}:∀ {l:List (List D)},(∀ r∈l,f r≤c)→total f l≤c*l.length
 | [],_=>Nat.zero_le _
 | r::l,h=>by
  have h1:=h r (by simp)
  have h2:=total_leS (l:=l) fun x hx=>h x (by simp [hx])
  have e:total f (r::l)=f r+total f l:=by simp [total]
  rw [e,List.length_cons,Nat.mul_add]
  omega
theorem ctRange_n (x:D):ctRangeS x≤2*x.rows.length:=total_leS fun r _=>Nat.le_refl 2
theorem ctCell_n (x:D):ctCellS x≤2*x.rows.length:=total_leS fun r _=>Nat.le_refl 2
theorem ctLock_n (x:D):ctLockS x≤4*x.rows.length:=total_leS fun r _=>Nat.le_refl 4
theorem ctInt_n (x:D):ctIntS x≤1*x.rows.length:=total_leS fun r _=>Nat.le_refl 1
theorem ctWrite_n (x:D):ctWriteS x≤2*x.rows.length:=total_leS fun r _=>Nat.le_refl 2
theorem ctHeld_n (x:D) (h:∀ r∈x.rows,(gd r 1).rows.length≤60):ctHeldS x≤121*x.rows.length:=total_leS fun r hr=>by
 have h1:=ctWrite_n (gd r 1)
 have h2:=h r hr
 show 1+(ctWriteS (gd r 1)+0)≤121
 omega
theorem held_writes {p:List D} (h:shardOk p=true):∀ r∈(gd p 5).rows,(gd r 1).rows.length≤60:=by
 simp only [shardOk,shardSum,heldsOkS,Bool.and_eq_true,leI,decide_eq_true_eq,List.all_eq_true,List.mem_range] at h
 obtain ⟨_,_,_,_,_,_,_,_,h7,_,_,_,_,_,_,hw,_⟩:=h
 intro r hr
 obtain ⟨k,hk,rfl⟩:=List.getElem_of_mem hr
 have hr:heldRest p k=true:=by
  have:=hw k hk
  cases k with
  | zero=>simp only [heldAtS,Bool.and_eq_true] at this; exact this.2
  | succ k=>simp only [heldAtS,Bool.and_eq_true] at this; exact this.2.2
 simp only [heldRest,Bool.and_eq_true] at hr
 rw [← getD_row hk]
 exact writes_len hr.1
theorem dup_ct {p:List D} (h:shardOk p=true):(gd p 1).rows.length≤16∧(gd p 2).rows.length≤16∧(gd p 3).rows.length≤60∧(gd p 4).rows.length≤40∧ctHeldS (gd (sub (dupShard p) 0 9) 5)≤7260∧(gd p 6).rows.length≤60∧(gd p 7).rows.length≤60:=by
 obtain ⟨_,h4,h5,h6,_,h3,h1,h2⟩:=shard_lens h
 have hw:=held_writes h
 have h7:(gd p 7).rows.length≤60:=by
  simp only [shardOk,Bool.and_eq_true,leI,decide_eq_true_eq] at h
  have:=h.2.2.2.2.2.2.2.2.1
  omega
 simp only [rangesOk,storeOk,Bool.and_eq_true,leI,decide_eq_true_eq] at h1 h2 h3
 have k1:=h1.2
 have k2:=h2.2
 have k3:=h3.2
 refine ⟨by omega,by omega,by omega,h4,?_,h6,h7⟩
 rw [dup_helds]
 have:=ctHeld_n (.l ((gd p 5).rows.map fun r => [gd r 0,.l (gd r 1).rows])) (fun r hr=>by
  obtain ⟨x,hx,rfl⟩:=List.mem_map.1 hr
  exact hw x hx)
 have e:(D.l ((gd p 5).rows.map fun r => [gd r 0,.l (gd r 1).rows])).rows.length=(gd p 5).rows.length:=List.length_map ..
 rw [e] at this
 omega
theorem dupShard_ct {p:List D} (h:shardOk p=true):ctShard (sub (dupShard p) 0 9)≤20000:=by
 obtain ⟨h1,h2,h3,h4,h5,h6,h7⟩:=dup_ct h
 have c1:=ctRange_n (.l (gd p 1).rows)
 have c2:=ctRange_n (.l (gd p 2).rows)
 have c3:=ctCell_n (.l (gd p 3).rows)
 have c4:=ctLock_n (.l (gd p 4).rows)
 have c6:=ctInt_n (.l (gd p 6).rows)
 have c7:=ctInt_n (.l (gd p 7).rows)
 rw [rows_l] at c1 c2 c3 c4 c6 c7
 show ctRangeS (.l (gd p 1).rows)+(ctRangeS (.l (gd p 2).rows)+(ctCellS (.l (gd p 3).rows)+(ctLockS (.l (gd p 4).rows)+(ctHeldS (gd (sub (dupShard p) 0 9) 5)+(ctIntS (.l (gd p 6).rows)+ctIntS (.l (gd p 7).rows))))))≤20000
 omega
theorem shard_small {p:List D} (h:sizeShard p≤1048576):shardSmall (cpShard p)=true:=by
 unfold sizeShard sizeCellS sizeHeldS sizeIntS at h
 have l3:(gd (cpShard p) 3).rows.length=(gd p 3).rows.length:=mapD_len _ _
 have l5:(gd (cpShard p) 5).rows.length=(gd p 5).rows.length:=mapD_len _ _
 have l6:(gd (cpShard p) 6).rows.length=(gd p 6).rows.length:=mapD_len _ _
 have l7:(gd (cpShard p) 7).rows.length=(gd p 7).rows.length:=mapD_len _ _
 unfold shardSmall
 simp only [l3,l5,l6,l7,Bool.and_eq_true,leI,decide_eq_true_eq]
 omega
end Go.Proofs.YtpdfmcmnjikppaaGreat
namespace Go.Proofs.YtpdfmcmnjikppaaGreat
open Go.ChangeShapes Go.WideShapes Go.ChangeAt Go.RowKit Go.Deep
def prot0 (w:World) (b:Nat):Nat:=
 match w.heap[b]? with
 | some (.cells arr _ _)=>arr.size
 | _=>0
theorem prot0_cell {w:World} {b o:Nat} {u:Value} (h:w.cell? ⟨b,o,none⟩=some u):o<prot0 w b:=by
 unfold World.cell? at h
 simp only at h
 unfold prot0
 cases hb:w.heap[b]? with
 | none=>rw [hb] at h; cases h
 | some x =>
  rw [hb] at h
  cases x with
  | cells arr t f =>
   simp only at h ⊢
   exact (Array.getElem?_eq_some_iff.1 h).1
  | _=>simp at h
theorem prot0_fresh {w:World} {b:Nat} (h:w.heap.size≤b):prot0 w b=0:=by
 unfold prot0
 rw [Array.getElem?_eq_none h]
def coverB (P:Program) (row:List S) (fs:Array Field):Bool:=
 (List.range row.length).all fun j=>(List.range fs.size).any fun i=>match fs[i]? with
  | some f=>match rowOf P f.type with
   | some rf=>decide (f.offset≤j)&&decide (j<f.offset+rf.length)&&rf.length==P.cellsOf f.type&&rf[j - f.offset]?==row[j]?
   | none=>false
  | none=>false
def layB (P:Program):Nat→TypeId→Bool
 | 0,_=>false
 | n+1,T=>match P.underlying T,rowOf P T with
  | some (.int k),some row=>row == [.int k]
  | some .bool,some row=>row == [.bool]
  | some .string,some row=>row == [.str]
  | some (.slice e),some row=>row == [.sl e]&&(match rowOf P e with | some re=>P.cellsOf e==re.length && !re.isEmpty&&layB P n e | none=>false)
  | some (.struct fs),some row=>coverB P row fs&&P.cellsOf T==row.length&&fs.toList.all fun f=>layB P n f.type
  | _,_=>false
theorem choose_pay {Q:Nat→D→Prop} (n:Nat) (h:∀ i,i<n→∃ x,Q i x):∃ l:List D,l.length=n∧∀ i,i<n→Q i (gd l i):=by
 induction n with
 | zero=>exact ⟨[],rfl,fun i hi=>by omega⟩
 | succ n ih =>
  obtain ⟨l,hl,hq⟩:=ih (fun i hi=>h i (by omega))
  obtain ⟨x,hx⟩:=h n (by omega)
  refine ⟨l ++ [x],by simp [hl],fun i hi=>?_⟩
  by_cases hin:i<n
  ·have:gd (l ++ [x]) i=gd l i:=by
    simp only [gd,List.getD_eq_getElem?_getD]
    rw [List.getElem?_append_left (by omega)]
   rw [this]; exact hq i hin
  ·obtain rfl:i=n:=by omega
   have:gd (l ++ [x]) i=x:=by
    simp only [gd,List.getD_eq_getElem?_getD]
    rw [List.getElem?_append_right (by omega),hl]
    simp
   rw [this]; exact hx
theorem choose_rows {Q:Nat→List D→Prop} (n:Nat) (h:∀ i,i<n→∃ x,Q i x):∃ l:List (List D),l.length=n∧∀ i,i<n→Q i (l.getD i []):=by
 induction n with
 | zero=>exact ⟨[],rfl,fun i hi=>by omega⟩
 | succ n ih =>
  obtain ⟨l,hl,hq⟩:=ih (fun i hi=>h i (by omega))
  obtain ⟨x,hx⟩:=h n (by omega)
  refine ⟨l ++ [x],by simp [hl],fun i hi=>?_⟩
  by_cases hin:i<n
  ·rw [List.getD_eq_getElem?_getD,List.getElem?_append_left (by omega),← List.getD_eq_getElem?_getD]; exact hq i hin
  ·obtain rfl:i=n:=by omega
   rw [List.getD_eq_getElem?_getD,List.getElem?_append_right (by omega),hl]
   simpa using hx
theorem spot_none' {w:World} {a:Addr} {v:Value} (h:w.cell? a=some v):a=⟨a.block,a.off,none⟩:=by
 cases hs:a.spot with
 | none=>cases a; simp at hs; subst hs; rfl
 | some s =>
  unfold World.cell? at h
  rw [hs] at h
  simp at h
  split at h <;> simp at h
theorem add_mk' {b o i:Nat}:(⟨b,o,none⟩:Addr).add i=⟨b,o+i,none⟩:=by
 unfold Addr.add
 split
 ·rename_i h; rw [h]; rfl
 ·rfl
theorem trod_vd {H:Type} {enc:TypeId × Value→H} {P:Program} {W:World} {base:Nat} {spare:Nat→Bool} {held:Bool}:∀ (n:Nat) (T:TypeId) (row:List S),layB P n T=true→rowOf P T=some row →
  ∀ (fuel:Nat) (cs:List Value) (y:DataW H × List MemPlace),DataW.trod enc P W base spare held fuel T cs=some y →
  ∃ p:List D,cs.length=row.length∧∀ j s,row[j]?=some s→∃ u,cs[j]?=some u∧VD P W (prot0 W) s (gd p j) u
 | 0,T,row,hl,_,_,_,_,_=>by cases hl
 | n+1,T,row,hl,hrow,fuel,cs,y,h=>by
  rw [layB,hrow] at hl
  split at hl
  ·rename_i k row' hu hr'
   injection hr' with hr'; subst hr'
   have hl:row = [.int k]:=by simpa using hl
   subst hl
   obtain ⟨a,e,_,_⟩:=DataW.trod_int hu h
   subst e
   refine ⟨[.i a],rfl,fun j s hs=>?_⟩
   match j,hs with
   | 0,hs=>injection hs with hs; subst hs; exact ⟨_,rfl,.int k (.i a)⟩
  ·rename_i row' hu hr'
   injection hr' with hr'; subst hr'
   have hl:row = [.bool]:=by simpa using hl
   subst hl
   obtain ⟨a,e,_⟩:=DataW.trod_bool hu h
   subst e
   refine ⟨[.b a],rfl,fun j s hs=>?_⟩
   match j,hs with
   | 0,hs=>injection hs with hs; subst hs; exact ⟨_,rfl,.bool (.b a)⟩
  ·rename_i row' hu hr'
   injection hr' with hr'; subst hr'
   have hl:row = [.str]:=by simpa using hl
   subst hl
   obtain ⟨a,e,_⟩:=DataW.trod_string hu h
   subst e
   refine ⟨[.s (byteList a)],rfl,fun j s hs=>?_⟩
   match j,hs with
   | 0,hs =>
    injection hs with hs; subst hs
    have:=VD.str (P:=P) (w:=W) (prot:=prot0 W) (.s (byteList a))
    rw [str_s,bsv_byteList] at this
    exact ⟨_,rfl,this⟩
  ·rename_i e row' hu hr'
   injection hr' with hr'; subst hr'
   simp only [Bool.and_eq_true] at hl
   obtain ⟨hl0,hl⟩:=hl
   have hl0:row = [.sl e]:=by simpa using hl0
   subst hl0
   split at hl
   ·rename_i re hre
    simp only [Bool.and_eq_true,beq_iff_eq,Bool.not_eq_true'] at hl
    obtain ⟨⟨hc,hne⟩,hle⟩:=hl
    have hpos:0<re.length:=by cases re with | nil=>cases hne | cons=>simp
    rcases open_slice hu h with ⟨rfl,_⟩ | ⟨a,len,cap,m,nn,Dd,Pl,rfl,hb,hlc,hm,hmm,hx,hi⟩
    ·refine ⟨[.l []],rfl,fun j s hs=>?_⟩
     match j,hs with
     | 0,hs=>injection hs with hs; subst hs; exact ⟨_,rfl,.sl e (.l []) none 0 re (fun _ _=>undef) hre (Nat.zero_le _) (by omega) (fun i j hi=>absurd hi (Nat.not_lt_zero _)) (fun i j s hi=>absurd hi (Nat.not_lt_zero _))⟩
    ·have hlm:len≤m:=by rw [hmm]; split <;> omega
     have ha:0<len→a=⟨a.block,a.off,none⟩:=by
      intro h0
      obtain ⟨cs0,hc0,_⟩:=hi 0 (by omega)
      rw [hc] at hc0
      obtain ⟨_,hcl0,hat0⟩:=World.cells?_some hc0
      have h00:=hat0 0 hpos
      rw [List.getElem?_eq_getElem (by omega)] at h00
      have:=spot_none' h00
      rw [Nat.zero_mul] at this
      simpa [Addr.add] using this
     have hq:∀ i,i<len→∃ p:List D,∀ j s,re[j]?=some s→∃ u,W.cell? ⟨a.block,a.off+(i*re.length+j),none⟩=some u∧VD P W (prot0 W) s (gd p j) u:=by
      intro i hil
      obtain ⟨cs',hcs,htr⟩:=hi i (by omega)
      rw [hc] at hcs
      obtain ⟨_,hcl,hat⟩:=World.cells?_some hcs
      obtain ⟨p,_,hp⟩:=trod_vd n e re hle hre nn cs' _ htr
      refine ⟨p,fun j s hs=>?_⟩
      obtain ⟨u,hu,hv⟩:=hp j s hs
      have hj:=(List.getElem?_eq_some_iff.1 hs).1
      have:=hat j hj
      rw [hu,ha (by omega),add_mk',add_mk'] at this
      refine ⟨u,?_,hv⟩
      rw [← this]; congr 2; omega
     obtain ⟨l,hll,hlq⟩:=choose_rows len hq
     refine ⟨[.l l],rfl,fun j s hs=>?_⟩
     match j,hs with
     | 0,hs =>
      injection hs with hs; subst hs
      refine ⟨_,rfl,?_⟩
      have hsl:=VD.sl (P:=P) (w:=W) (prot:=prot0 W) e (.l l) (some a) cap re (fun i j=>(W.cell? ⟨a.block,a.off+(i*re.length+j),none⟩).getD undef) hre (by rw [rows_l]; omega) (by unfold maxLen at hm; omega) ?_ ?_
      ·rw [rows_l,hll] at hsl; exact hsl
      ·intro i j hi hj
       rw [rows_l,hll] at hi
       obtain ⟨u,hu,_⟩:=hlq i hi j re[j] (List.getElem?_eq_getElem hj)
       refine ⟨a.block,a.off,by rw [← ha (by omega)],?_,prot0_cell hu⟩
       rw [hu]; rfl
      ·intro i j s hi hs
       rw [rows_l,hll] at hi
       obtain ⟨u,hu,hv⟩:=hlq i hi j s hs
       show VD P W (prot0 W) s (gd (l.getD i []) j) ((W.cell? ⟨a.block,a.off+(i*re.length+j),none⟩).getD undef)
       rw [hu]; exact hv
   ·cases hl
  ·rename_i fs row' hu hr'
   injection hr' with hr'; subst hr'
   simp only [Bool.and_eq_true,beq_iff_eq] at hl
   obtain ⟨⟨hcov,hct⟩,hall⟩:=hl
   obtain ⟨xs,nn,_,_,hlen,hlx,hg⟩:=DataW.trod_struct hu h
   rw [hct] at hlen
   have hq:∀ j,j<row.length→∃ d:D,∀ s,row[j]?=some s→∃ u,cs[j]?=some u∧VD P W (prot0 W) s d u:=by
    intro j hj
    unfold coverB at hcov
    rw [List.all_eq_true] at hcov
    have hcj:=hcov j (List.mem_range.2 hj)
    rw [List.any_eq_true] at hcj
    obtain ⟨i,hi,hci⟩:=hcj
    have hi:=List.mem_range.1 hi
    split at hci
    ·rename_i f hf
     split at hci
     ·rename_i rf hrf
      simp only [Bool.and_eq_true,decide_eq_true_eq,beq_iff_eq] at hci
      obtain ⟨⟨⟨k1,k2⟩,k3⟩,k4⟩:=hci
      have hlf:layB P n f.type=true:=by
       rw [List.all_eq_true] at hall
       exact hall f (by
        have:=Array.getElem?_eq_some_iff.1 hf
        obtain ⟨h1,h2⟩:=this
        rw [← h2]; simp)
      have htr:=hg i f hf
      rw [List.getElem?_eq_getElem (by rw [hlx]; exact hi)] at htr
      obtain ⟨p,hpl,hp⟩:=trod_vd n f.type rf hlf hrf nn _ _ htr
      refine ⟨gd p (j - f.offset),fun s hs=>?_⟩
      rw [hs] at k4
      obtain ⟨u,hu',hv⟩:=hp _ _ k4
      refine ⟨u,?_,hv⟩
      rw [List.getElem?_take_of_lt (by omega),List.getElem?_drop] at hu'
      rw [← hu']; congr 1; omega
     ·cases hci
    ·cases hci
   obtain ⟨p,_,hp⟩:=choose_pay row.length hq
   exact ⟨p,hlen,fun j s hs=>hp j (List.getElem?_eq_some_iff.1 hs).1 s hs⟩
  ·cases hl
theorem arg_agg {H:Type} {enc:TypeId × Value→H} {P:Program} {W:World} {base:Nat} {spare:Nat→Bool} {held:Bool} {r:Reach} {b0:Nat} {T:TypeId} {fs:Array Field} {row:List S} {v:Value} {d:DataW H} {ps:List MemPlace}
  (hs:P.underlying T=some (.struct fs)) (hrow:rowOf P T=some row) (hl:layB P 12 T=true) (hv:Value.okWide P W r b0 T v) (hy:DataW.Trod enc P W base spare held T v d ps) :
  ∃ p,VT P W (g0 W.heap.size (prot0 W)) W.heap.size ⟨.one (.agg (row.map .d)),p⟩ v:=by
 obtain ⟨cs,rfl,hsz⟩:=okWide_struct hs hv
 obtain ⟨fuel,hf⟩:=hy
 obtain ⟨p,hpl,hp⟩:=trod_vd 12 T row hl hrow fuel _ _ hf
 refine ⟨p,cs,rfl,?_,fun j c hc=>?_⟩
 ·have:cs.toList.length=row.length:=hpl
  simpa using this
 ·rw [List.getElem?_map] at hc
  cases hr:row[j]? with
  | none=>rw [hr] at hc; cases hc
  | some s =>
   rw [hr] at hc
   injection hc with hc
   subst hc
   obtain ⟨u,hu,hvd⟩:=hp j s hr
   have hu:cs.toList[j]?=some u:=hu
   exact ⟨u,by simpa using hu,hvd⟩
theorem arg_one {H:Type} {enc:TypeId × Value→H} {P:Program} {W:World} {base:Nat} {spare:Nat→Bool} {held:Bool} {T:TypeId} {s:S} {v:Value} {d:DataW H} {ps:List MemPlace}
  (hrow:rowOf P T=some [s]) (hl:layB P 12 T=true) (hv:v.cells.toList = [v]) (hy:DataW.Trod enc P W base spare held T v d ps) :
  ∃ p,VT P W (g0 W.heap.size (prot0 W)) W.heap.size ⟨.one (.c (.d s)),p⟩ v:=by
 obtain ⟨fuel,hf⟩:=hy
 rw [hv] at hf
 obtain ⟨p,_,hp⟩:=trod_vd 12 T [s] hl hrow fuel _ _ hf
 obtain ⟨u,hu,hvd⟩:=hp 0 s rfl
 injection hu with hu
 subst hu
 exact ⟨p,hvd⟩
theorem ev_walk {P:Program} {f:FuncId} {args:List T} {b:Bool} (h:SoundFn P f args ⟨rb,[.b b]⟩) {W:World} {vs:Array Value} (ha:ArgsV P (prot0 W) W args vs) :
  Calls P f vs W fun e W'=>e=.returned (.bool b)∧Below W.heap.size W W':=by
 refine ((h.n rfl).2 W (prot0 W) vs ha (fun b hb=>prot0_fresh hb)).mono fun e W' hx=>?_
 obtain ⟨v,g',rfl,hres⟩:=hx
 have hv:VD P W' g'.prot .bool (.b b) v:=hres.val
 cases hv
 exact ⟨rfl,hres.below⟩
end Go.Proofs.YtpdfmcmnjikppaaGreat
namespace Go.Proofs.YtpdfmcmnjikppaaGreat
set_option maxRecDepth 4096
set_option maxHeartbeats 1000000
abbrev l_ShardPrepareT:FuncId→List T→Option (T × Bool):=find [szShardE,szRangeSE,szWriteSE,toSharddE,toRangeSdE,toWriteSdE,s_ShardPrepareE,i_ShardPrepareE,eqShardE,eqRangeSE,eqWriteSE,mkShardE,mkRangeSE,mkWriteSE,hdShardE,apartE]
theorem l_ShardPrepareT_ok:CallOk Tryz.prog l_ShardPrepareT:=find_ok (fC ⟨szShard_ok,fC ⟨szRangeS_ok,fC ⟨szWriteS_ok,fC ⟨toShardd_ok,fC ⟨toRangeSd_ok,fC ⟨toWriteSd_ok,fC ⟨s_ShardPrepare_ok,fC ⟨i_ShardPrepare_ok,fC ⟨eqShard_ok,fC ⟨eqRangeS_ok,fC ⟨eqWriteS_ok,fC ⟨mkShard_ok,fC ⟨mkRangeS_ok,fC ⟨mkWriteS_ok,fC ⟨hdShard_ok,fC ⟨apart_ok,fN⟩⟩⟩⟩⟩⟩⟩⟩⟩⟩⟩⟩⟩⟩⟩⟩)
abbrev l_ShardPrepareK:List Nat:= [0,1,2,3,4,8,9,10,11,12,13,14,15,16,17,18,19,20,21,26,31,36,70,75,80,85,107,115,118,138,143,146]
theorem l_ShardPrepare_ev (N:Nat) (p q r s:List D):evFn Tryz.prog l_ShardPrepareT N l_ShardPrepareK Tryz.f4 rb [⟨ag rLShard,p⟩,⟨ri,q⟩,⟨sd (.sl 30),r⟩,⟨sd (.sl 124),s⟩]=some (bo,
 nd (fair 1048576) (bif ltI (left (sizeShard (sub p 0 9)) 1048576) 0 then ob true
 else nd (fair (left (sizeShard (sub p 0 9)) 1048576)) (bif ltI (left (sizeRangeS (gd r 0)) (left (sizeShard (sub p 0 9)) 1048576)) 0 then ob true
 else nd (fair (left (sizeRangeS (gd r 0)) (left (sizeShard (sub p 0 9)) 1048576))) (bif ltI (left (sizeWriteS (gd s 0)) (left (sizeRangeS (gd r 0)) (left (sizeShard (sub p 0 9)) 1048576))) 0 then ob true
 else nd (okShard (sub p 0 9)) (nd (okRangeS (gd r 0)) (nd (okWriteS (gd s 0)) (nd (okShard (sub p 0 9)) (nd (okRangeS (gd r 0)) (nd (okWriteS (gd s 0)) (nd (shardSmall (sub (cpShard (sub p 0 9)) 0 9)) (bif !(eqShard (sub (sub (prI (sub (cpShard (sub p 0 9)) 0 9) (gd q 0) (cpRangeS (gd r 0)) (cpWriteS (gd s 0))) 0 10) 0 9) (sub (sub (prS (sub (cpShard (sub p 0 9)) 0 9) (gd q 0) (cpRangeS (gd r 0)) (cpWriteS (gd s 0))) 0 10) 0 9)) then ob false
 else bif (gd (sub (prI (sub (cpShard (sub p 0 9)) 0 9) (gd q 0) (cpRangeS (gd r 0)) (cpWriteS (gd s 0))) 0 10) 9).int != (gd (sub (prS (sub (cpShard (sub p 0 9)) 0 9) (gd q 0) (cpRangeS (gd r 0)) (cpWriteS (gd s 0))) 0 10) 9).int then ob false
 else nd (okShard (sub p 0 9)) (bif !(eqShard (sub (cpShard (sub p 0 9)) 0 9) (sub (cpShard (sub p 0 9)) 0 9)) then ob false
 else nd (okRangeS (gd r 0)) (bif !(eqRangeS (cpRangeS (gd r 0)) (cpRangeS (gd r 0))) then ob false
 else nd (okWriteS (gd s 0)) (bif !(eqWriteS (cpWriteS (gd s 0)) (cpWriteS (gd s 0))) then ob false
 else bif ltI (gd (mkWriteS [cpWriteS (gd s 0)] (gd (mkRangeS [cpRangeS (gd r 0)] (gd (mkShard (sub (cpShard (sub p 0 9)) 0 9) (.i 1)) 0)) 0)) 0).int 0 then ob false
 else bif !(eqShard (sub (sub (prI (sub (cpShard (sub p 0 9)) 0 9) (gd q 0) (cpRangeS (gd r 0)) (cpWriteS (gd s 0))) 0 10) 0 9) (sub (sub (prS (sub (cpShard (sub p 0 9)) 0 9) (gd q 0) (cpRangeS (gd r 0)) (cpWriteS (gd s 0))) 0 10) 0 9)) then ob false
 else bif (gd (sub (prI (sub (cpShard (sub p 0 9)) 0 9) (gd q 0) (cpRangeS (gd r 0)) (cpWriteS (gd s 0))) 0 10) 9).int != (gd (sub (prS (sub (cpShard (sub p 0 9)) 0 9) (gd q 0) (cpRangeS (gd r 0)) (cpWriteS (gd s 0))) 0 10) 9).int then ob false
 else bif ltI (hdShard [gd (sub (prI (sub (cpShard (sub p 0 9)) 0 9) (gd q 0) (cpRangeS (gd r 0)) (cpWriteS (gd s 0))) 0 10) 0,.l (gd (mkShard (sub (sub (prI (sub (cpShard (sub p 0 9)) 0 9) (gd q 0) (cpRangeS (gd r 0)) (cpWriteS (gd s 0))) 0 10) 0 9) (.i 1)) 2).rows,.l (gd (mkShard (sub (sub (prI (sub (cpShard (sub p 0 9)) 0 9) (gd q 0) (cpRangeS (gd r 0)) (cpWriteS (gd s 0))) 0 10) 0 9) (.i 1)) 3).rows,.l (gd (mkShard (sub (sub (prI (sub (cpShard (sub p 0 9)) 0 9) (gd q 0) (cpRangeS (gd r 0)) (cpWriteS (gd s 0))) 0 10) 0 9) (.i 1)) 4).rows,.l (gd (mkShard (sub (sub (prI (sub (cpShard (sub p 0 9)) 0 9) (gd q 0) (cpRangeS (gd r 0)) (cpWriteS (gd s 0))) 0 10) 0 9) (.i 1)) 5).rows,.l (gd (mkShard (sub (sub (prI (sub (cpShard (sub p 0 9)) 0 9) (gd q 0) (cpRangeS (gd r 0)) (cpWriteS (gd s 0))) 0 10) 0 9) (.i 1)) 6).rows,.l (gd (mkShard (sub (sub (prI (sub (cpShard (sub p 0 9)) 0 9) (gd q 0) (cpRangeS (gd r 0)) (cpWriteS (gd s 0))) 0 10) 0 9) (.i 1)) 7).rows,.l (gd (mkShard (sub (sub (prI (sub (cpShard (sub p 0 9)) 0 9) (gd q 0) (cpRangeS (gd r 0)) (cpWriteS (gd s 0))) 0 10) 0 9) (.i 1)) 8).rows,gd (sub (prI (sub (cpShard (sub p 0 9)) 0 9) (gd q 0) (cpRangeS (gd r 0)) (cpWriteS (gd s 0))) 0 10) 8] (.i 1)).int 0 then ob false
 else bif (hdShard [gd (sub (prI (sub (cpShard (sub p 0 9)) 0 9) (gd q 0) (cpRangeS (gd r 0)) (cpWriteS (gd s 0))) 0 10) 0,.l (gd (mkShard (sub (sub (prI (sub (cpShard (sub p 0 9)) 0 9) (gd q 0) (cpRangeS (gd r 0)) (cpWriteS (gd s 0))) 0 10) 0 9) (.i 1)) 2).rows,.l (gd (mkShard (sub (sub (prI (sub (cpShard (sub p 0 9)) 0 9) (gd q 0) (cpRangeS (gd r 0)) (cpWriteS (gd s 0))) 0 10) 0 9) (.i 1)) 3).rows,.l (gd (mkShard (sub (sub (prI (sub (cpShard (sub p 0 9)) 0 9) (gd q 0) (cpRangeS (gd r 0)) (cpWriteS (gd s 0))) 0 10) 0 9) (.i 1)) 4).rows,.l (gd (mkShard (sub (sub (prI (sub (cpShard (sub p 0 9)) 0 9) (gd q 0) (cpRangeS (gd r 0)) (cpWriteS (gd s 0))) 0 10) 0 9) (.i 1)) 5).rows,.l (gd (mkShard (sub (sub (prI (sub (cpShard (sub p 0 9)) 0 9) (gd q 0) (cpRangeS (gd r 0)) (cpWriteS (gd s 0))) 0 10) 0 9) (.i 1)) 6).rows,.l (gd (mkShard (sub (sub (prI (sub (cpShard (sub p 0 9)) 0 9) (gd q 0) (cpRangeS (gd r 0)) (cpWriteS (gd s 0))) 0 10) 0 9) (.i 1)) 7).rows,.l (gd (mkShard (sub (sub (prI (sub (cpShard (sub p 0 9)) 0 9) (gd q 0) (cpRangeS (gd r 0)) (cpWriteS (gd s 0))) 0 10) 0 9) (.i 1)) 8).rows,gd (sub (prI (sub (cpShard (sub p 0 9)) 0 9) (gd q 0) (cpRangeS (gd r 0)) (cpWriteS (gd s 0))) 0 10) 8] (.i 1)).int != (gd (mkShard (sub (sub (prI (sub (cpShard (sub p 0 9)) 0 9) (gd q 0) (cpRangeS (gd r 0)) (cpWriteS (gd s 0))) 0 10) 0 9) (.i 1)) 0).int then ob false
 else nd (okShard (sub p 0 9)) (nd (okRangeS (gd r 0)) (nd (okWriteS (gd s 0)) (nd (shardSmall (sub (cpShard (sub p 0 9)) 0 9)) (bif !(eqShard (sub (sub (prI (sub (cpShard (sub p 0 9)) 0 9) (gd q 0) (cpRangeS (gd r 0)) (cpWriteS (gd s 0))) 0 10) 0 9) (sub (sub (prS (sub (cpShard (sub p 0 9)) 0 9) (gd q 0) (cpRangeS (gd r 0)) (cpWriteS (gd s 0))) 0 10) 0 9)) then ob false
 else bif (gd (sub (prI (sub (cpShard (sub p 0 9)) 0 9) (gd q 0) (cpRangeS (gd r 0)) (cpWriteS (gd s 0))) 0 10) 9).int != (gd (sub (prS (sub (cpShard (sub p 0 9)) 0 9) (gd q 0) (cpRangeS (gd r 0)) (cpWriteS (gd s 0))) 0 10) 9).int then ob false
 else bif ltI (hdShard [gd (sub (prI (sub (cpShard (sub p 0 9)) 0 9) (gd q 0) (cpRangeS (gd r 0)) (cpWriteS (gd s 0))) 0 10) 0,.l (gd (mkShard (sub (sub (prI (sub (cpShard (sub p 0 9)) 0 9) (gd q 0) (cpRangeS (gd r 0)) (cpWriteS (gd s 0))) 0 10) 0 9) (.i 1)) 2).rows,.l (gd (mkShard (sub (sub (prI (sub (cpShard (sub p 0 9)) 0 9) (gd q 0) (cpRangeS (gd r 0)) (cpWriteS (gd s 0))) 0 10) 0 9) (.i 1)) 3).rows,.l (gd (mkShard (sub (sub (prI (sub (cpShard (sub p 0 9)) 0 9) (gd q 0) (cpRangeS (gd r 0)) (cpWriteS (gd s 0))) 0 10) 0 9) (.i 1)) 4).rows,.l (gd (mkShard (sub (sub (prI (sub (cpShard (sub p 0 9)) 0 9) (gd q 0) (cpRangeS (gd r 0)) (cpWriteS (gd s 0))) 0 10) 0 9) (.i 1)) 5).rows,.l (gd (mkShard (sub (sub (prI (sub (cpShard (sub p 0 9)) 0 9) (gd q 0) (cpRangeS (gd r 0)) (cpWriteS (gd s 0))) 0 10) 0 9) (.i 1)) 6).rows,.l (gd (mkShard (sub (sub (prI (sub (cpShard (sub p 0 9)) 0 9) (gd q 0) (cpRangeS (gd r 0)) (cpWriteS (gd s 0))) 0 10) 0 9) (.i 1)) 7).rows,.l (gd (mkShard (sub (sub (prI (sub (cpShard (sub p 0 9)) 0 9) (gd q 0) (cpRangeS (gd r 0)) (cpWriteS (gd s 0))) 0 10) 0 9) (.i 1)) 8).rows,gd (sub (prI (sub (cpShard (sub p 0 9)) 0 9) (gd q 0) (cpRangeS (gd r 0)) (cpWriteS (gd s 0))) 0 10) 8] (.i 1)).int 0 then ob false
 else bif (hdShard [gd (sub (prI (sub (cpShard (sub p 0 9)) 0 9) (gd q 0) (cpRangeS (gd r 0)) (cpWriteS (gd s 0))) 0 10) 0,.l (gd (mkShard (sub (sub (prI (sub (cpShard (sub p 0 9)) 0 9) (gd q 0) (cpRangeS (gd r 0)) (cpWriteS (gd s 0))) 0 10) 0 9) (.i 1)) 2).rows,.l (gd (mkShard (sub (sub (prI (sub (cpShard (sub p 0 9)) 0 9) (gd q 0) (cpRangeS (gd r 0)) (cpWriteS (gd s 0))) 0 10) 0 9) (.i 1)) 3).rows,.l (gd (mkShard (sub (sub (prI (sub (cpShard (sub p 0 9)) 0 9) (gd q 0) (cpRangeS (gd r 0)) (cpWriteS (gd s 0))) 0 10) 0 9) (.i 1)) 4).rows,.l (gd (mkShard (sub (sub (prI (sub (cpShard (sub p 0 9)) 0 9) (gd q 0) (cpRangeS (gd r 0)) (cpWriteS (gd s 0))) 0 10) 0 9) (.i 1)) 5).rows,.l (gd (mkShard (sub (sub (prI (sub (cpShard (sub p 0 9)) 0 9) (gd q 0) (cpRangeS (gd r 0)) (cpWriteS (gd s 0))) 0 10) 0 9) (.i 1)) 6).rows,.l (gd (mkShard (sub (sub (prI (sub (cpShard (sub p 0 9)) 0 9) (gd q 0) (cpRangeS (gd r 0)) (cpWriteS (gd s 0))) 0 10) 0 9) (.i 1)) 7).rows,.l (gd (mkShard (sub (sub (prI (sub (cpShard (sub p 0 9)) 0 9) (gd q 0) (cpRangeS (gd r 0)) (cpWriteS (gd s 0))) 0 10) 0 9) (.i 1)) 8).rows,gd (sub (prI (sub (cpShard (sub p 0 9)) 0 9) (gd q 0) (cpRangeS (gd r 0)) (cpWriteS (gd s 0))) 0 10) 8] (.i 1)).int != (gd (mkShard (sub (sub (prI (sub (cpShard (sub p 0 9)) 0 9) (gd q 0) (cpRangeS (gd r 0)) (cpWriteS (gd s 0))) 0 10) 0 9) (.i 1)) 0).int then ob false
 else ob true)))))))))))))))))):=by kernel_rfl
theorem askI_len0 (l h n:D) (a:List D) (m:D):(gd (askI l h n a m) 0).rows.length≤41:=by
 unfold askI
 cases hR:s_l12RightF [l] [h] [n] (sub a 0 2) [m] with
 | false=>exact Nat.zero_le _
 | true =>
  have hl:=right_len hR
  cases locksHold l n (sub a 0 2) m with
  | true=>show l.rows.length≤41; omega
  | false =>
   cases ltI 0 ((clW l h (askX n a m)).rows.length:Int) with
   | true=>show l.rows.length≤41; omega
   | false =>
    cases ((askRest l (askX n a m)).rows.length:Int)==40 with
    | true=>show l.rows.length≤41; omega
    | false =>
     show ((askRest l (askX n a m)).rows ++ [askX n a m]).length≤41
     have:(askRest l (askX n a m)).rows.length≤l.rows.length:=by rw [rest_rows]; exact List.length_filter_le _ _
     rw [List.length_append,List.length_singleton]
     omega
theorem asksI_len0 (p:List D) (n u c:D) (h4:(gd p 4).rows.length≤40):∀ k,(asksI p n u c k).1.rows.length≤41
 | 0=>by show (gd p 4).rows.length≤41; omega
 | k+1=>by
  have ih:=asksI_len0 p n u c h4 k
  rw [asksI]
  have ha:=askI_len0 (asksI p n u c k).1 (txsD (gd (sub (dupShard (sub p 0 9)) 0 9) 5)) n (keyR u k) (.i 2)
  generalize askI (asksI p n u c k).1 (txsD (gd (sub (dupShard (sub p 0 9)) 0 9) 5)) n (keyR u k) (.i 2)=A at *
  cases (asksI p n u c k).2.2.int==0 with
  | false=>exact ih
  | true =>
   cases (gd A 2).int==2 with
   | true=>exact ih
   | false =>
    cases (gd A 2).int==3 with
    | true=>exact ih
    | false=>exact ha
theorem prep_ct (p:List D) (n z u:D):ctShard (sub (sub (prI p n z u) 0 10) 0 9)≤20000:=by
 unfold prI
 cases hsh:shardOk (sub p 0 9) with
 | false=>exact Nat.zero_le _
 | true =>
 cases inB n.int 1 60 with
 | false=>exact Nat.zero_le _
 | true =>
 cases ltI 16 (z.rows.length:Int) with
 | true=>exact Nat.zero_le _
 | false =>
 cases anyS (fun rr=>ixfSPRC (.l [[]]) (sub rr 0 2)) z with
 | true=>exact Nat.zero_le _
 | false =>
 cases hwo:writesOk u with
 | false=>exact Nat.zero_le _
 | true =>
 have hd:=dupShard_ct hsh
 have hw60:=writes_len hwo
 cases hasInt (txsD (gd p 5)) n.int with
 | true=>exact hd
 | false =>
 obtain ⟨h1,h2,h3,h4,h5,h6,h7⟩:=dup_ct hsh
 have h1:(gd p 1).rows.length≤16:=h1
 have h2:(gd p 2).rows.length≤16:=h2
 have h3:(gd p 3).rows.length≤60:=h3
 have h4:(gd p 4).rows.length≤40:=h4
 have h6:(gd p 6).rows.length≤60:=h6
 have h7:(gd p 7).rows.length≤60:=h7
 have hw6:(numsOf (.l (gd p 6).rows)).Pairwise (· < ·):=ascOk_asc (z:=gd p 6) (shard_lens hsh).2.2.2.2.1
 obtain ⟨_,m2⟩:=asksI_mem p n u (codeI p n z u) hw6 u.rows.length
 have m0:=asksI_len0 p n u (codeI p n z u) h4 u.rows.length
 simp only [Bool.not_true,cond_false]
 generalize asksI p n u (codeI p n z u) u.rows.length=X at *
 obtain ⟨X1,X2,X3⟩:=X
 unfold prI3
 dsimp only at m0 m2 ⊢
 cases X3.int==0 with
 | false=>exact hd
 | true =>
 cases ltI 60 (w64 (roomOf (sub p 0 9)+storeNew (gd p 3) u)) with
 | true=>exact hd
 | false =>
 have hl5:(gd (sub (dupShard (sub p 0 9)) 0 9) 5).rows.length≤60:=Nat.le_trans (kpL_len _ _ _) (shard_lens hsh).2.2.1
 have hwr:∀ r∈(gd (sub (dupShard (sub p 0 9)) 0 9) 5).rows,(gd r 1).rows.length≤60:=fun r hr=>by
  rw [dup_helds] at hr
  obtain ⟨x,hx,rfl⟩:=List.mem_map.1 hr
  exact held_writes hsh x hx
 generalize (lowN (txsD (gd (sub (dupShard (sub p 0 9)) 0 9) 5)) n.int:Int)=i
 have hins:ctHeldS (insHD (gd (sub (dupShard (sub p 0 9)) 0 9) 5) i (.l [[n,.l u.rows]]))≤7381:=by
  generalize gd (sub (dupShard (sub p 0 9)) 0 9) 5=h at *
  have hc:=ctHeld_n (insHD h i (.l [[n,.l u.rows]])) (fun r hr=>by
   have hr:r∈h.rows.take i.toNat ++ [[n,.l u.rows]]++h.rows.drop i.toNat:=hr
   rcases List.mem_append.1 hr with hr | hr
   ·rcases List.mem_append.1 hr with hr | hr
    ·exact hwr r (List.mem_of_mem_take hr)
    ·rw [List.mem_singleton.1 hr]
     show (D.l u.rows).rows.length≤60
     exact hw60
   ·exact hwr r (List.mem_of_mem_drop hr))
  have hl:(insHD h i (.l [[n,.l u.rows]])).rows.length≤61:=by
   show (h.rows.take i.toNat ++ [[n,.l u.rows]]++h.rows.drop i.toNat).length≤61
   rw [List.length_append,List.length_append,List.length_take,List.length_drop,List.length_singleton]
   omega
  omega
 generalize insHD (gd (sub (dupShard (sub p 0 9)) 0 9) 5) i (.l [[n,.l u.rows]])=H at *
 have c1:=ctRange_n (.l (gd p 1).rows)
 have c2:=ctRange_n (.l (gd p 2).rows)
 have c3:=ctCell_n (.l (gd p 3).rows)
 have c4:=ctLock_n X1
 have c6:=ctInt_n X2
 have c7:=ctInt_n (.l (gd p 7).rows)
 rw [rows_l] at c1 c2 c3 c7
 show ctRangeS (.l (gd p 1).rows)+(ctRangeS (.l (gd p 2).rows)+(ctCellS (.l (gd p 3).rows)+(ctLockS X1+(ctHeldS H+(ctIntS X2+ctIntS (.l (gd p 7).rows))))))≤20000
 omega
theorem held_shard {F:List D} (h1:ctShard (sub F 0 9)≤20000) :
  hdShard [gd F 0,.l (gd (mkShard (sub F 0 9) (.i 1)) 2).rows,.l (gd (mkShard (sub F 0 9) (.i 1)) 3).rows,.l (gd (mkShard (sub F 0 9) (.i 1)) 4).rows,.l (gd (mkShard (sub F 0 9) (.i 1)) 5).rows,.l (gd (mkShard (sub F 0 9) (.i 1)) 6).rows,.l (gd (mkShard (sub F 0 9) (.i 1)) 7).rows,.l (gd (mkShard (sub F 0 9) (.i 1)) 8).rows,gd F 8] (.i 1)=gd (mkShard (sub F 0 9) (.i 1)) 0∧ltI (gd (mkShard (sub F 0 9) (.i 1)) 0).int 0=false:=by
 have hc:(D.i 1).int+(ctShard (sub F 0 9):Nat)≤4611686018427387904:=by show (1:Int)+_≤_; omega
 have hm:=mkShard_k (p:=sub F 0 9) (q:=.i 1) (by decide) hc
 have hm:(gd (mkShard (sub F 0 9) (.i 1)) 0).int=1+(ctShard (sub F 0 9):Nat):=hm
 exact ⟨heldShard (p:=sub F 0 9) (q:=.i 1) (by decide) hc,ltI_f (by omega)⟩
def l_ShardPrepareE:Ent:=(4,e4 (ag rLShard) ri (sd (.sl 30)) (sd (.sl 124)) fun p q r s=>(⟨rb,[.b true]⟩,true))
theorem l_ShardPrepare_ok:EntOk Tryz.prog l_ShardPrepareE:=e4_ok fun p q r s h=>evFn_sound (N:=0) (ks:=l_ShardPrepareK) (key:=bo) l_ShardPrepareT_ok (enters Tryz.func4) Tryz.func4 fun hw=>by
 rw [l_ShardPrepare_ev]
 rw [show fair 1048576=true from rfl]
 cases h0:ltI (left (sizeShard (sub p 0 9)) 1048576) 0
 ·obtain ⟨e0,l0⟩:=left_ge h0 (by omega)
  have l0:sizeShard (sub p 0 9)≤1048576:=by omega
  have hf:fair (left (sizeShard (sub p 0 9)) 1048576)=true:=by
   rw [e0]
   unfold fair
   rw [Bool.and_eq_true,decide_eq_true_eq,decide_eq_true_eq]
   omega
  rw [hf]
  cases h1:ltI (left (sizeRangeS (gd r 0)) (left (sizeShard (sub p 0 9)) 1048576)) 0
  ·obtain ⟨e1,l1⟩:=left_ge h1 (by omega)
   have l1:sizeRangeS (gd r 0)≤1048576:=by omega
   have hf1:fair (left (sizeRangeS (gd r 0)) (left (sizeShard (sub p 0 9)) 1048576))=true:=by
    rw [e1,e0]
    unfold fair
    rw [Bool.and_eq_true,decide_eq_true_eq,decide_eq_true_eq]
    omega
   rw [hf1]
   cases h2:ltI (left (sizeWriteS (gd s 0)) (left (sizeRangeS (gd r 0)) (left (sizeShard (sub p 0 9)) 1048576))) 0
   ·obtain ⟨e2,l2⟩:=left_ge h2 (by omega)
    have l2:sizeWriteS (gd s 0)≤1048576:=by omega
    have hok:=okShard_of (m:=1048576) (by omega) l0
    have hokr:okRangeS (gd r 0)=true:=okF (ok:=fun r=>okRange (sub r 0 2)) (m:=1048576) (by omega) l1 fun _=>rfl
    have hokw:okWriteS (gd s 0)=true:=okF (ok:=fun r=>okWrite (sub r 0 2)) (m:=1048576) (by omega) l2 fun _=>rfl
    have hsm:shardSmall (sub (cpShard (sub p 0 9)) 0 9)=true:=shard_small l0
    have hmk:=mkShard_k (p:=sub (cpShard (sub p 0 9)) 0 9) (q:=.i 1) (by decide) (by
     have:=bdShard (sub p 0 9)
     have:ctShard (sub (cpShard (sub p 0 9)) 0 9)≤16*sizeShard (sub p 0 9):=this
     show (1:Int)+(ctShard (sub (cpShard (sub p 0 9)) 0 9):Nat)≤_
     omega)
    have hmk:(gd (mkShard (sub (cpShard (sub p 0 9)) 0 9) (.i 1)) 0).int=1+(ctShard (sub (cpShard (sub p 0 9)) 0 9):Nat):=hmk
    have hb1:ctShard (sub (cpShard (sub p 0 9)) 0 9)≤16*sizeShard (sub p 0 9):=bdShard (sub p 0 9)
    have hb2:=bdRangeS (gd r 0)
    have hb3:=bdWriteS (gd s 0)
    have hmr:=mkRangeS_k (x:=cpRangeS (gd r 0)) (q:=gd (mkShard (sub (cpShard (sub p 0 9)) 0 9) (.i 1)) 0) (by omega) (by omega)
    have hmw:=mkWriteS_k (x:=cpWriteS (gd s 0)) (q:=gd (mkRangeS [cpRangeS (gd r 0)] (gd (mkShard (sub (cpShard (sub p 0 9)) 0 9) (.i 1)) 0)) 0) (by omega) (by omega)
    have hk0:ltI (gd (mkWriteS [cpWriteS (gd s 0)] (gd (mkRangeS [cpRangeS (gd r 0)] (gd (mkShard (sub (cpShard (sub p 0 9)) 0 9) (.i 1)) 0)) 0)) 0).int 0=false:=ltI_f (by omega)
    have c1:=prep_ct (sub (cpShard (sub p 0 9)) 0 9) (gd q 0) (cpRangeS (gd r 0)) (cpWriteS (gd s 0))
    obtain ⟨s1,s2⟩:=prep_same (sub (cpShard (sub p 0 9)) 0 9) (gd q 0) (cpRangeS (gd r 0)) (cpWriteS (gd s 0))
    rw [hok,hokr,hokw,hsm,hk0,s1,s2]
    simp only [sameP_self,Bool.and_self,ndN_true,nd_true]
    generalize sub (prI (sub (cpShard (sub p 0 9)) 0 9) (gd q 0) (cpRangeS (gd r 0)) (cpWriteS (gd s 0))) 0 10=F at *
    obtain ⟨g1,g2⟩:=held_shard c1
    rw [g1,g2,eqShard_refl,eqRangeS_refl,eqWriteS_refl]
    simp only [nd,cond_true,cond_false,beq_self_eq_true,bne_self_eq_false,Bool.not_true]
   ·rfl
  ·rfl
 ·rfl
end Go.Proofs.YtpdfmcmnjikppaaGreat
