/-
 Texts of the proof,put together: part 7.
-/
import Derived.Test.YtpdfmcmnjikppaaGreatSS1
import Derived.Test.YtpdfmcmnjikppaaGreatSS2
import Derived.Test.YtpdfmcmnjikppaaGreatSS3
import Derived.Test.YtpdfmcmnjikppaaGreatSS4
import Derived.Test.YtpdfmcmnjikppaaGreatSS5
import Derived.Test.YtpdfmcmnjikppaaGreatSS6
set_option linter.unusedSimpArgs false
set_option linter.unusedVariables false
set_option linter.unusedSectionVars false
noncomputable section
namespace Go.Proofs.YtpdfmcmnjikppaaGreat
abbrev D3:=@List.length_singleton
abbrev G4:=@List.take_append_of_le_length
abbrev H4:=@List.drop_eq_getElem_cons
abbrev I9:=@List.pairwise_singleton
abbrev J8:=@List.getElem_take
abbrev J9:=@List.getElem_drop
abbrev K0:=@List.mem_of_mem_take
abbrev K8:=@List.mem_range'
abbrev L9:=@List.nodup_range'
abbrev N6:=@List.mem_map_of_mem
abbrev N7:=@List.drop_zero
end Go.Proofs.YtpdfmcmnjikppaaGreat
namespace Go.Proofs.YtpdfmcmnjikppaaGreat
set_option maxRecDepth 100000
set_option maxHeartbeats 4000000
open Go.RowKit Go.Lib
theorem JY:bk f4 3=some [.int .i64]:=by kernel_rfl
def Rd(B:Option Nat)(b:Nat):Nat:=if B=some b then 9223372036854775807 else 0
theorem abM{w:World}{x:D}{u:Value}{B:Option Nat}(Y:dg w 3 [.int .i64] x.rows u B):VD f4 w (Rd B) (.sl 3) x u:=by
 rcases Y with⟨_,O,A,rfl⟩ | ⟨b,cap,arr,rfl,rfl,hle,h63,hh,hs,hc⟩
 ·have e:Value.slice A 0 0=.slice A x.rows.length 0:=by rw[O];rfl
  rw[e];exact .sl 3 x A 0 _ (fun _ _=>.bool true) JY (by rw[O];exact g8 _) (by omega) (fun i j hi=>by rw[O] at hi;simp at hi) (fun i j s hi=>by rw[O] at hi;simp at hi)
 ·refine .sl 3 x (some ⟨b,0,none⟩) cap _ (fun i _=>.int .i64 (x i 0).int) JY hle h63 (fun i j hi J=>?_) (fun i j s hi J=>?_)
  ·have J:j<1:=J;obtain rfl:j=0:=by omega
   obtain⟨Z,U,V⟩:=hc i 0 (.int .i64) hi rfl;refine⟨b,0,rfl,?_,?_⟩
   ·rw[dx hh,i9,U];exact congrArg some V
   ·unfold Rd;rw[j8 rfl];show 0+(i*1+0)<_;omega
  ·match j,J with
   | 0,J =>
    injection J with J
    subst J;exact .int .i64 _
theorem Ic{w:World}{e:TypeId}{row:List S}{rows:List b8}{u:Value}{B:Option Nat}(J:dg w e row rows u B)(b:Nat)(O:w.heap.size<=b):Rd B b=0:=by
 unfold Rd;rcases J with⟨rfl,_⟩ | ⟨b',cap,arr,rfl,_,_,_,hh,_⟩
 ·exact i7 (by simp)
 ·have:=aT hh;exact i7 (by intro h;injection h with h;omega)
theorem alS{w:World}{x:D}{u:Value}{B:Option Nat}(hO:dg w 3 [.int .i64] x.rows u B)(n:Int)(hz:(ai x).Pairwise (· < ·))(hl:x.rows.length<=40000) :
  Calls f4 116 #[u,.int .i64 n] w fun e w'=>e=.returned (.tuple #[.int .i64 (bl x n:Int),.bool (bsB x n)])/\Below w.heap.size w w':=by
 have Z:ahh.2 [⟨sd (.sl 3),[x]⟩,⟨ri,[.i n]⟩]=some (⟨.tup [.c (.d si),.c (.d (.bool))],[.i (bl x n:Int),.b (bsB x n)]⟩,iR x&&leI x 40000):=by kernel_rfl
 rw[ro hz,bb (show (x:Int)<=40000 by omega)] at Z;have s:=(abt _ _ Z).n rfl;refine (s.2 w (Rd B) #[u,.int .i64 n] ⟨rfl,fun j t J=>?_⟩ (Ic hO)).mono ?_
 ·match j,J with
  | 0,J =>
   injection J with J
   subst J;exact⟨u,rfl,abM hO⟩
  | 1,J =>
   injection J with J
   subst J;exact⟨_,rfl,.int .i64 (.i n)⟩
 ·rintro e w' ⟨v,g',rfl,hr⟩;refine⟨?_,hr.below⟩;obtain⟨vs,rfl,hs,hv⟩:=hr.val;obtain⟨u0,U,V⟩:=hv 0 _ rfl;obtain⟨u1,O,Y⟩:=hv 1 _ rfl;have V:VD f4 w' g'.prot (.int .i64) (.i (bl x n:Int)) u0:=V;have Y:VD f4 w' g'.prot .bool (.b (bsB x n)) u1:=Y;have hs:vs.size=2:=hs
  congr 2
  refine Array.ext (by rw[hs];rfl) fun i h1 h2=>?_
  have h2:i<2:=h2;have hi:i=0\/i=1:=by omega
  rcases hi with rfl | rfl
  ·rw[n3 h1] at U;injection U with U
   rw[U];cases V;rfl
  ·rw[n3 h1] at O;injection O with O
   rw[O];cases Y;rfl
theorem adN{w:World}{x:D}{u:Value}{B:Option Nat}(hO:dg w 3 [.int .i64] x.rows u B)(hl:x.rows.length<=40000) :
  Calls f4 163 #[u] w fun e w'=>∃v' Z,e=.returned v'/\Below w.heap.size w w'/\dg w' 3 [.int .i64] x.rows v' Z/\∀b,Z=some b->w.heap.size<=b:=by
 have Y:JK.2 [⟨sd (.sl 3),[x]⟩]=some (⟨.one (.c (.own (0,0) true 3)),[.l x.rows]⟩,leI x 1000000000):=by kernel_rfl
 rw[bb (show (x:Int)<=1000000000 by omega)] at Y;have s:=(Gs _ _ Y).n rfl;refine (s.2 w (Rd B) #[u] ⟨rfl,fun j t O=>?_⟩ (Ic hO)).mono ?_
 ·match j,O with
  | 0,O =>
   injection O with O
   subst O;exact⟨u,rfl,abM hO⟩
 ·rintro e w' ⟨v,g',rfl,V⟩;obtain⟨row,J,hv⟩:=V.val;rw[JY] at J;injection J with J
  subst J;rcases hv with⟨h0,_,A,rfl⟩ | ⟨cap,arr,E,rfl,k1,⟨k2,rfl,_⟩,k3,k4,k5,k6,k7,k8,k9,k10⟩
  ·exact⟨_,none,rfl,V.below,.inl ⟨rfl,h0,A,rfl⟩,fun b U=>by cases U⟩
  ·refine⟨_,some (g'.ρ (0,0)),rfl,V.below,.inr ⟨_,cap,arr,rfl,rfl,k1,k2,k5,k6,fun i j s hi hs=>?_⟩,fun b U=>by injection U with U;omega⟩;obtain⟨u',q1,q2⟩:=k10 i j s hi hs
   match j,hs with
   | 0,hs =>
    injection hs with hs
    subst hs;exact⟨u',q1,(q2.vd rfl).fv rfl⟩
theorem aaa{P:Program}{w:World}{e:TypeId}{k:Nat}{x:D}{u:Value}{B:Option Nat}(prot:Nat->Nat)(J:bk P e=some (jF k))(hO:dg w e (jF k) x.rows u B):∃n,VD P w (fun b=>if B=some b then n else prot b) (.sl e) x u:=by
 rcases hO with⟨_,O,A,rfl⟩ | ⟨b,cap,arr,rfl,rfl,hle,h63,hh,hs,hc⟩
 ·have e':Value.slice A 0 0=.slice A x.rows.length 0:=by rw[O];rfl
  rw[e'];exact⟨0,.sl e x A 0 _ (fun _ _=>.bool true) J (by rw[O];exact g8 _) (by omega) (fun i j hi=>by rw[O] at hi;simp at hi) (fun i j s hi=>by rw[O] at hi;simp at hi)⟩
 ·refine⟨arr.size,.sl e x (some ⟨b,0,none⟩) cap _ (fun i j=>.int .i64 (x i j).int) J hle h63 (fun i j hi V=>?_) (fun i j s hi V=>?_)⟩
  ·obtain⟨u',Y,Z⟩:=hc i j (.int .i64) hi (by rw[g6 V];simp);refine⟨b,0,rfl,?_,?_⟩
   ·rw[dx hh,i9,Y];exact congrArg some Z
   ·show 0+(i*(jF k).length+j)<if some b=some b then arr.size else prot b
    rw[j8 rfl];have:=(t7.1 Y).1;omega
  ·obtain⟨h1,U⟩:=g5.1 V;have U:S.int .i64=s:=by simpa using U
   subst U;exact .int .i64 _
theorem VJ{P:Program}{prot:Nat->Nat}{w w':World}{e:TypeId}{k:Nat}{y:D}{v:Value}{g':G}(V:bk P e=some (jF k))(Z:Res P prot w w' ⟨.one (.c (.own (0,0) true e)),[y]⟩ v g'):∃Y,dg w' e (jF k) y.rows v Y/\∀b,Y=some b->w.heap.size<=b:=by
 obtain⟨row,J,hv⟩:=Z.val;rw[V] at J;injection J with J;subst J;rcases hv with⟨h0,_,A,rfl⟩ | ⟨cap,arr,E,rfl,k1,⟨k2,rfl,_⟩,k3,k4,k5,k6,k7,k8,k9,k10⟩
 ·exact⟨none,.inl ⟨rfl,h0,A,rfl⟩,fun b O=>by cases O⟩
 ·refine⟨some (g'.ρ (0,0)),.inr ⟨_,cap,arr,rfl,rfl,k1,k2,k5,k6,fun i j s hi hs=>?_⟩,fun b O=>by injection O with O;omega⟩;obtain⟨u',q1,q2⟩:=k10 i j s hi hs;obtain⟨h1,U⟩:=g5.1 hs;have U:S.int .i64=s:=by simpa using U
  subst U;exact⟨u',q1,(q2.vd rfl).fv rfl⟩
theorem ahR{P:Program}{prot:Nat->Nat}{w:World}{q:b8}{O:Array Value}(h:ka P prot w [⟨ri,q⟩] O):O = #[.int .i64 (q 0).int]:=by
 refine ml h [.int .i64 (q 0).int] rfl fun j t u h1 V=>?_
 obtain⟨Y,J,U⟩:=h.2 j t h1;rw[V] at J;injection J with J;subst J
 match j,h1 with
 | 0,h1 =>
  injection h1 with h1;subst h1
  have:=tM (k:=.i64) (show VD P w prot (.int .i64) (q 0) u from U);rw[this];rfl
theorem afU{z:D}(h:(ai z).Pairwise (· < ·)){n:Int}(hn:bsB z n=false):(dt z.rows (bl z n) [.i n]).map (fun r=>(r 0).int)=VG (ai z) n:=by
 obtain⟨h1,Z,h3⟩:=Kn h n;have Y:∀y∈(ai z).take (bl z n),y<n:=fun y O=>by obtain⟨k,hk,rfl⟩:=n9 O;rw[s9] at hk;have:=cP z k (by rw[bR] at hk;omega);have a:=Z k (by omega);rw[J8];obtain⟨_,e⟩:=g5.1 this;rw[e];exact a
 have J:∀y∈(ai z).drop (bl z n),n<y:=fun y O=>by
  obtain⟨k,hk,rfl⟩:=n9 O;rw[t5,bR] at hk;have:=cP z (bl z n+k) (by omega);rw[J9];obtain⟨_,e⟩:=g5.1 this;rw[e];have a:=h3 (bl z n) (g8 _) (by omega);have a0:bI z (bl z n)≠n:=fun e=>by unfold bsB at hn;rw[fI (show bl z n<z.rows.length by omega),e,n8] at hn;cases hn
  rcases C4 k with hk0 | hk0
  ·subst hk0;show n<bI z (bl z n);omega
  ·have b:=Ka h (show bl z n<bl z n+k by omega) (show bl z n+k<z.rows.length by omega);show n<bI z (bl z n+k);omega
 have e:(dt z.rows (bl z n) [.i n]).map (fun r=>(r 0).int)=(ai z).take (bl z n)++n::(ai z).drop (bl z n):=by unfold dt ai;rw[u9,u5,M7,M8];rfl
 rw[e];refine RR ?_ (Lp h n) fun m=>?_
 ·rw[C1,G9];refine⟨h.sublist (List.take_sublist _ _),⟨fun a V=>J a V,h.sublist (List.drop_sublist _ _)⟩,fun a V b U=>?_⟩;have:=Y a V;rcases A2.1 U with rfl | U
  ·exact this
  ·have:=J b U;omega
 ·rw[sA,m7,A2];constructor
  ·rintro (h | h | h)
   ·exact .inr (K0 h)
   ·exact .inl h
   ·exact .inr (B7 h)
  ·rintro (h | h)
   ·exact .inr (.inl h)
   ·rw[<- F4 (bl z n) (ai z),m7] at h;rcases h with h | h
    ·exact .inl h
    ·exact .inr (.inr h)
theorem afy{z:D}(h:(ai z).Pairwise (· < ·)){n:Int}(hn:bsB z n=true):VG (ai z) n=ai z:=by
 unfold bsB at hn;simp only[a9,ltI,f7,p6] at hn;have J:n∈ai z:=by have h1:=cP z (bl z n) (by omega);rw[show (z (bl z n) 0).int=n from hn.2] at h1;exact w6 h1
 refine RR (Lp h n) h fun m=>?_
 rw[sA];constructor
 ·rintro (rfl | h)
  ·exact J
  ·exact h
 ·exact .inr
theorem Kt{w:World}{x:D}{u:Value}{B:Option Nat}(hO:dg w 3 [.int .i64] x.rows u B)(n:Int)(hz:(ai x).Pairwise (· < ·))(hl:x.rows.length<=40000) :
  Calls f4 79 #[u,.int .i64 n] w fun ex w'=>∃v' B',ex=.returned v'/\aI w w' B/\dg w' 3 [.int .i64] (bC x (.i n)).rows v' B'/\∀b,B'=some b->B=some b\/w.heap.size<=b:=by
 have U:=alS hO n hz hl;have HO:Hid (dg w 3 [.int .i64] x.rows u B):=hO;have Z:Hid ((ai x).Pairwise (· < ·)):=hz;clear hO hz;cases V:bsB x n with
 | true =>
  rw[V] at U;have HF:Hid (bsB x n=true):=V;clear V;go_enter Tryz.func79,Tryz.ntmps79
  go_wp2_with fail
  refine U.mono ?_;rintro e w' ⟨rfl,J⟩;go_wp2
  go_ret
  refine⟨u,B,rfl,.of_below B J,Gi (eF HO.out J) ?_,fun b J=>.inl J⟩;show ai x=ai (bC x (.i n));rw[eU Z.out];exact (afy Z.out HF.out).symm
 | false =>
  rw[V] at U;have HF:Hid (bsB x n=false):=V;have a7:=(Kn Z.out n).1;clear V;go_enter Tryz.func79,Tryz.ntmps79
  go_wp2_with fail
  refine U.mono ?_;rintro e w1 ⟨rfl,J⟩
  go_wp2_with fail
  refine (adN (eF HO.out J) hl).mono ?_;rintro e O ⟨v2,B2,rfl,a2,a1,a0⟩
  go_wp2_with fail
  have a3:(O.alloc (.cells #[.int .i64 n] 3)).heap[O.heap.size]?=some (.cells #[.int .i64 n] 3 (0,0)):=by letI:Low:=yO;exact fw O _
  have Y:Below O.heap.size O (O.alloc (.cells #[.int .i64 n] 3)):=(Below.refl _ O).alloc (g8 _) _;refine (ajY (eF a1 Y) [.i n] (bl x n) O.heap.size 1 _ _ (by omega) (by omega) a3 rfl (fun e=>?_)).mono ?_
  ·rcases a1 with⟨h0,_⟩ | ⟨b',cap,arr,h0,_,_,_,hh,_⟩
   ·rw[h0] at e;cases e
   ·rw[h0] at e;injection e with e
    have:=aT hh;omega
  rintro e w4 ⟨v4,B4,rfl,a5,a6,a4⟩;go_wp2
  go_ret
  have s1:=J.size;have s2:=a2.size;have s3:=Y.size;refine⟨v4,B4,rfl,(((aI.of_below B J).trans (.of_below none a2) (fun b h=>by cases h)).trans (.of_below none Y) (fun b h=>by cases h)).trans a5 (fun b h=>.inr (by have:=a0 b h;omega)),Gi a6 ?_,fun b h=>.inr ?_⟩
  ·show _=ai (bC x (.i n));rw[eU Z.out];exact afU Z.out HF.out
  ·rcases a4 b h with h | h
   ·have:=a0 b h;omega
   ·omega
def jQ:Ent:=(79,e2 (sd (.sl 3)) ri fun p q=>(⟨.tup [.agg [.any]],[bC (p 0) (q 0)]⟩,iR (p 0)&&leI (p 0) 40000))
theorem jd:aw f4 jQ:=bj fun p q h=>by
 have h:(iR (p 0)&&leI (p 0) 40000)=true:=h;simp only[a9,leI,f7] at h;obtain⟨h1,V⟩:=h;refine aQ.ofK rfl ⟨cN Tryz.func79 (by kernel_rfl) (by kernel_rfl),fun e x rest row J O Z w prot u B vs hO hB a0 U a1=>?_⟩;injection J with J hre
 injection J with J hp
 injection J with J
 injection J with J
 injection J with J
 injection J with J
 subst J hp hre;rw[JY] at O;injection O with O
 subst O;have Y:=ahR (U w (aI.refl w B));subst Y;have h1:iR x=true:=h1;have V:(x:Int)<=40000:=V;refine (Kt hO (q 0).int (Oe h1) (by omega)).mono ?_;rintro ex w' ⟨v',B',rfl,k1,k2,k3⟩;refine⟨v',B',rfl,k1,Gi k2 ?_,k3⟩;show ai (bC x (.i (q 0).int))=ai (bC x (q 0));rw[eU (Oe h1),eU (Oe h1)];rfl
theorem rT:bk f4 93=some (jF 4):=by kernel_rfl
def rd:Ent:=(78,e2 (sd (.sl 93)) ri fun p q=>(⟨.tup [.agg [.any]],[jg (p 0) (q 0)]⟩,true))
theorem uX:aw f4 rd:=bj fun p q h=>by
 refine aQ.ofK rfl ⟨cN Tryz.func78 (by kernel_rfl) (by kernel_rfl),fun e x rest row J U a1 w prot u B vs hO hB Z Y a2=>?_⟩;injection J with J hre
 injection J with J hp
 injection J with J
 injection J with J
 injection J with J
 injection J with J
 subst J hp hre;rw[rT] at U;injection U with U
 subst U;have a0:=ahR (Y w (aI.refl w B));subst a0;obtain⟨n,hn⟩:=aaa prot rT hO;have s:=(NB [⟨sd (.sl 93),[x]⟩,⟨ri,q⟩] ⟨.one (.c (.own (0,0) true 93)),[jg x (q 0)]⟩ (by kernel_rfl)).n rfl;refine (s.2 w (fun b=>if B=some b then n else prot b) #[u,.int .i64 (q 0).int] ⟨rfl,fun j t O=>?_⟩ fun b V=>?_).mono ?_
 ·match j,O with
  | 0,O =>
   injection O with O
   subst O;exact⟨u,rfl,hn⟩
  | 1,O =>
   injection O with O
   subst O;exact⟨_,rfl,.int .i64 _⟩
 ·rcases hO with⟨rfl,_⟩ | ⟨b',cap,arr,rfl,_,_,_,hh,_⟩
  ·rw[i7 (by simp)];exact Z b V
  ·have:=aT hh;rw[i7 (by intro h;injection h with h;omega)];exact Z b V
 ·rintro ex w' ⟨v,g',rfl,hr⟩;obtain⟨B',k1,k2⟩:=VJ rT hr;exact⟨v,B',rfl,.of_below B hr.below,k1,fun b V=>.inr (k2 b V)⟩
set_option maxRecDepth 4096
set_option maxHeartbeats 1000000
abbrev jD:=find [qf,eI]
abbrev jx:=[0,1,2,4,6,7,8,9,10,11,12,13,14,22,28,42,53,62,72,82,91]
def jN(N:Nat)(p q r:b8):b8->Out:=bc f4 jD N jx Tryz.f186 (.tup [.c (.d (.sl 41)),.c (.d (.bool))]) [⟨sd (.sl 41),p⟩,⟨ag ay,q⟩,⟨rb,r⟩] 0
def jK(N:Nat)(p q r:b8):b8->Out:=bc f4 jD N jx Tryz.f186 (.tup [.c (.d (.sl 41)),.c (.d (.bool))]) [⟨sd (.sl 41),p⟩,⟨ag ay,q⟩,⟨rb,r⟩] 2
def jL(N:Nat)(p q r:b8):b8->Out:=bc f4 jD N jx Tryz.f186 (.tup [.c (.d (.sl 41)),.c (.d (.bool))]) [⟨sd (.sl 41),p⟩,⟨ag ay,q⟩,⟨rb,r⟩] 4
def jG(N:Nat)(p q r:b8):b8->Out:=bc f4 jD N jx Tryz.f186 (.tup [.c (.d (.sl 41)),.c (.d (.bool))]) [⟨sd (.sl 41),p⟩,⟨ag ay,q⟩,⟨rb,r⟩] 6
theorem GQ(N:Nat)(p q r:b8)(O x1 x2 x3 Z x5 x6 x7 x8 U Y V:D):(jN N p q r) [O,x1,x2,x3,Z,x5,x6,x7,x8,U,Y,V] =
 bif ltI U.int O then nd (al U.int O.rows.length) ((let J:=ba (jK N p q r) N [O,x1,x2,x3,Z,x5,x6,x7,x8,U,.b (ltI U.int O),O.rows.getD U.int.toNat [] 0,Y,V]
  nd J.isSome (nd (J.code==4) (nx [J.pay 0,J.pay 1,J.pay 2,J.pay 3,J.pay 4,J.pay 5,J.pay 6,J.pay 7,J.pay 8,.i (w64 ((J.pay 9).int+1)),J.pay 12,J.pay 13]))))
 else ex 0 [O,x1,x2,x3,Z,x5,x6,x7,x8,U,Y,V]:=by kernel_rfl
theorem Ie(N:Nat)(p q r:b8)(O x1 x2 x3 x4 x5 x6 x7 x8 Y Z J U V:D):(jK N p q r) [O,x1,x2,x3,x4,x5,x6,x7,x8,Y,Z,J,U,V] =
 nd (al Y.int O.rows.length) (bif ltI J.int (O.rows.getD Y.int.toNat [] 1).int then nd (al J.int x8.rows.length) (nx [O,x1,x2,x3,x4,x5,x6,x7,.l (x8.rows.set J.int.toNat [.b true]),Y,Z,.i (w64 (J.int+1)),U,V])
 else ex 2 [O,x1,x2,x3,x4,x5,x6,x7,x8,Y,Z,J,U,V]):=by kernel_rfl
theorem HR(N:Nat)(p q r:b8)(Z x1 x2 V x4 x5 x6 x7 Y x9 J U O:D):(jL N p q r) [Z,x1,x2,V,x4,x5,x6,x7,Y,x9,J,U,O] =
 bif ltI J.int O.int then nd (al J.int Y.rows.length) (nx [Z,x1,x2,V,x4,x5,x6,x7,.l (Y.rows.set J.int.toNat [V]),x9,.i (w64 (J.int+1)),U,O])
 else ex 4 [Z,x1,x2,V,x4,x5,x6,x7,Y,x9,J,U,O]:=by kernel_rfl
theorem GJ(N:Nat)(p q r:b8)(x0 x1 x2 x3 x4 x5 x6 x7 V x9 Z O U J a0 Y:D):(jG N p q r) [x0,x1,x2,x3,x4,x5,x6,x7,V,x9,Z,O,U,J,a0,Y] =
 bif leI J.int 1000 then nd (al J.int V.rows.length) (bif (V.rows.getD J.int.toNat [] 0).bool then bif ltI U.int 0 then nd (al J.int V.rows.length) (bif !(V.rows.getD J.int.toNat [] 0).bool then bif leI 0 J.int then nd (bq (O.rows ++ [[J,J]])&&true) (nx [x0,x1,x2,x3,x4,x5,x6,x7,V,x9,Z,.l (O.rows ++ [[J,J]]),.i (-1),.i (w64 (J.int+1)),a0,Y])
 else nx [x0,x1,x2,x3,x4,x5,x6,x7,V,x9,Z,O,J,.i (w64 (J.int+1)),a0,Y]
 else nx [x0,x1,x2,x3,x4,x5,x6,x7,V,x9,Z,O,J,.i (w64 (J.int+1)),a0,Y])
 else nd (al J.int V.rows.length) (bif !(V.rows.getD J.int.toNat [] 0).bool then bif leI 0 U.int then nd (bq (O.rows ++ [[U,J]])&&true) (nx [x0,x1,x2,x3,x4,x5,x6,x7,V,x9,Z,.l (O.rows ++ [[U,J]]),.i (-1),.i (w64 (J.int+1)),a0,Y])
 else nx [x0,x1,x2,x3,x4,x5,x6,x7,V,x9,Z,O,U,.i (w64 (J.int+1)),a0,Y]
 else nx [x0,x1,x2,x3,x4,x5,x6,x7,V,x9,Z,O,U,.i (w64 (J.int+1)),a0,Y])
 else nd (al J.int V.rows.length) (bif !(V.rows.getD J.int.toNat [] 0).bool then bif leI 0 U.int then nd (bq (O.rows ++ [[U,J]])&&true) (nx [x0,x1,x2,x3,x4,x5,x6,x7,V,x9,Z,.l (O.rows ++ [[U,J]]),.i (-1),.i (w64 (J.int+1)),a0,Y])
 else nx [x0,x1,x2,x3,x4,x5,x6,x7,V,x9,Z,O,U,.i (w64 (J.int+1)),a0,Y]
 else nx [x0,x1,x2,x3,x4,x5,x6,x7,V,x9,Z,O,U,.i (w64 (J.int+1)),a0,Y]))
 else ex 6 [x0,x1,x2,x3,x4,x5,x6,x7,V,x9,Z,O,U,J,a0,Y]:=by kernel_rfl
theorem kH(N:Nat)(p q r:b8):aZ f4 jD N jx Tryz.f186 (.tup [.c (.d (.sl 41)),.c (.d (.bool))]) [⟨sd (.sl 41),p⟩,⟨ag ay,q⟩,⟨rb,r⟩]=some (bo,
 bif !(aV (p 0)) then some (1,[.l [],.b false])
 else bif !(ar (sub q 0 2)) then some (1,[.l [],.b false])
 else nd (leI 0 1001&&eqI 1001 1001&&leI 1001 4294967296&&true&&true) ((let J:=ba (jN N p q r) N [p 0,q 0,q 1,r 0,.i 0,.l [],.i 0,.b (!(ar (sub q 0 2))),.l (List.replicate 1001 [.b false]),.i 0,q 0,q 1]
  nd J.isSome (nd (J.code==2) ((let O:=ba (jL N p q r) N [J.pay 0,J.pay 1,J.pay 2,J.pay 3,J.pay 4,J.pay 5,J.pay 6,J.pay 7,J.pay 8,J.pay 9,J.pay 10,J.pay 10,J.pay 11]
  nd O.isSome (nd (O.code==6) ((let U:=ba (jG N p q r) N [O.pay 0,O.pay 1,O.pay 2,O.pay 3,O.pay 4,O.pay 5,O.pay 6,O.pay 7,O.pay 8,O.pay 9,O.pay 10,.l [],.i (-1),.i 0,O.pay 11,O.pay 12]
   nd U.isSome (nd (U.code==8) (bif ltI 16 (U.pay 11) then some (1,[.l [],.b false])
   else some (1,[U.pay 11,.b true])))))))))))):=by kernel_rfl
def inR(r:b8)(k:Nat):Bool:=leI (r 0).int (k:Int)&&ltI (k:Int) (r 1).int
def dz(C:Nat->D):List b8:=(List.range 1001).map fun k => [C k]
theorem oH(C:Nat->D):(dz C).length=1001:=by simp[dz]
theorem acY{C:Nat->D}{k:Nat}(h:k<1001):(dz C).getD k [] = [C k]:=by rw[aU (by rw[oH];exact h)];simp[dz]
theorem Qn{C:Nat->D}{t:Nat}(v:D):(dz C).set t [v]=dz (fun k=>bif k==t then v else C k):=by
 apply List.ext_getElem
 ·rw[List.length_set,oH,oH]
 ·intro i h1 J;rw[List.getElem_set];simp only[dz,G8,L1];by_cases e:t=i
  ·subst e;simp
  ·rw[i7 e,show (i==t)=false from by simp;omega];rfl
theorem abZ(v:D):List.replicate 1001 [v]=dz (fun _=>v):=by unfold dz;rw[List.map_const',H7]
theorem jI{C J:Nat->D}(h:∀k,C k=J k):dz C=dz J:=by have:C=J:=funext h;rw[this]
def Jd(d:D):Nat->D
 | 0=>d
 | m+1=>.i (d.int+((m+1:Nat):Int))
theorem DI(d:D):∀m,(Jd d m).int=d.int+(m:Int)
 | 0=>by show d.int=d.int+0;omega
 | m+1=>rfl
def jA(z:D)(i k:Nat):Bool:=(List.range i).any fun j=>inR (z.rows.getD j []) k
theorem acS(z:D)(i k:Nat):jA z (i+1) k=(jA z i k||inR (z.rows.getD i []) k):=by unfold jA;rw[List.range_succ,List.any_append];simp
def tS(C:Nat->Bool):Nat->List b8 × Int
 | 0=>([],-1)
 | k+1=>bif C k then (bif ltI (tS C k).2 0 then ((tS C k).1,(k:Int)) else tS C k) else bif leI 0 (tS C k).2 then ((tS C k).1 ++ [[.i (tS C k).2,.i (k:Int)]],-1) else tS C k
theorem afO(C:Nat->Bool):∀k,(tS C k).1.length<=k
 | 0=>g8 _
 | k+1=>by have:=afO C k;rw[tS];cases C k <;> cases ltI (tS C k).2 0 <;> cases leI 0 (tS C k).2 <;> simp <;> omega
theorem zW(o:List b8)(a b:D):iV (o ++ [[a,b]])=b.int:=by unfold iV;rw[i5];show (((o ++ [[a,b]]).getD (o.length+1 - 1) []) 1).int=_;rw[J5,qq];rfl
theorem NR{o:List b8}{k:Int}(h:o = []\/iV o<k)(hi:Int):Gg o k hi=o ++ [[.i k,.i hi]]:=by
 unfold Gg;rcases h with rfl | h
 ·rfl
 ·rw[show (iV o==k)=false from by simp;omega,C9,f5]
theorem Ql(o:List b8)(f k hi:Int):Gg (o ++ [[.i f,.i k]]) k hi=o ++ [[.i f,.i hi]]:=by unfold Gg;rw[zW,show ltI 0 ((o ++ [[D.i f,D.i k]]).length:Int)=true from w8 (by rw[i5];show (0:Int)<((o.length+1:Nat):Int);omega),show ((D.i k).int==k)=true from n8 k,v6,f8,i5];show (o ++ [[D.i f,D.i k]]).set (o.length+1 - 1) [((o ++ [[D.i f,D.i k]]).getD (o.length+1 - 1) []) 0,.i hi]=_;rw[J5,qq,List.set_append_right _ _ (g8 _),Nat.sub_self];rfl
theorem aeA(C:Nat->Bool):∀k,((tS C k).2 = -1/\kpR C k=(tS C k).1/\((tS C k).1 = []\/iV (tS C k).1<(k:Int)))\/(0<=(tS C k).2/\kpR C k=(tS C k).1 ++ [[.i (tS C k).2,.i (k:Int)]])
 | 0=>.inl ⟨rfl,rfl,.inl rfl⟩
 | k+1=>by
  have U:=aeA C k;rw[kpR,tS];generalize tS C k=S at *;obtain⟨o,f⟩:=S;dsimp only at U ⊢;rcases U with⟨rfl,J,O⟩ | ⟨h1,J⟩
  ·cases C k
   ·rw[f5,f5,Er (show (-1:Int)<0 by omega),f5];refine .inl ⟨rfl,J,?_⟩;rcases O with O | O
    ·exact .inl O
    ·exact .inr (show iV o<_ by omega)
   ·rw[f8,f8,gJ (show (-1:Int)<0 by omega),f8,J,NR O];exact .inr ⟨show (0:Int)<=(k:Int) by omega,rfl⟩
  ·cases C k
   ·rw[f5,f5,bb h1,f8];exact .inl ⟨rfl,J,.inr (by show iV (o ++ [[.i f,.i (k:Int)]])<_;rw[zW];show (k:Int)<_;omega)⟩
   ·rw[f8,f8,gh h1,f5,J,Ql];exact .inr ⟨h1,rfl⟩
theorem Rn{C J:Nat->Bool}:∀ {n},(∀k,k<n->C k=J k)->kpR C n=kpR J n
 | 0,_=>rfl
 | n+1,h=>by rw[kpR,kpR,Rn (fun k hk=>h k (by omega)),h n (by omega)]
def iP(z:D)(a:b8)(wi:D)(k:Nat):D:=bif inR a k then wi else .b (jA z z.rows.length k)
theorem mU{z:D}(h:aV z=true){j:Nat}(J:j<z.rows.length):0<=(z.rows.getD j [] 0).int/\(z.rows.getD j [] 0).int<(z.rows.getD j [] 1).int/\(z.rows.getD j [] 1).int<=1000:=by
 simp only[aV,a9,i6,m0] at h;have h1:=h.1 j J;cases j with
 | zero =>simp only[fH,ar,a9,f7] at h1;exact⟨h1.1,h1.2.1,h1.2.2⟩
 | succ j =>simp only[fH,ar,a9,f7] at h1;exact⟨h1.1.1,h1.1.2.1,h1.1.2.2⟩
theorem Ts{r:b8}(J:0<=(r 0).int)(h1:(r 0).int<(r 1).int)(O:(r 1).int<=1000)(k:Nat):inB (k:Int) (r 0).int (w64 ((r 1).int - 1))=inR r k:=by rw[br (by omega) (by omega)];unfold inB inR leI ltI;rw[p7];simp only[a9,f7];omega
theorem QT{z:D}{a:b8}{wi:D}(hz:aV z=true)(O:ar (sub a 0 2)=true)(k:Nat):Bh (.l [[.l [sub a 0 2],.l [[wi]],.l [[z]]]]) k=(iP z a wi k).bool:=by
 simp only[ar,a9,f7] at O;show (ZO z (sub a 0 2) wi (.i (k:Int))).bool=_;unfold ZO iP;rw[aE,Ts (r:=sub a 0 2) O.1 O.2.1 O.2.2];show (bif inR a k then wi else _).bool=_;have e:dK (fun Z=>oK (.l [[.l [[D.i (k:Int)]]]]) (sub Z 0 2)) z=jA z z.rows.length k:=by
  unfold dK jA;rw[p7];simp only[B8,m0];constructor
  ·rintro⟨j,J,h⟩;obtain⟨Y,U,V⟩:=mU hz J;exact⟨j,J,by rw[<- Ts Y U V];exact h⟩
  ·rintro⟨j,J,h⟩;obtain⟨Y,U,V⟩:=mU hz J;exact⟨j,J,by rw[<- Ts Y U V] at h;exact h⟩
 rw[e]
theorem aip{z:D}{a:b8}{wi:D}(hz:aV z=true)(Y:ar (sub a 0 2)=true):(tS (fun k=>(iP z a wi k).bool) 1001).1=(ng z a wi).rows:=by
 have O:=Y;simp only[ar,a9,f7] at O;have V:(a 1).int<=1000:=O.2.2;have J:(iP z a wi 1000).bool=false:=by unfold iP;rw[show inR a 1000=false from by unfold inR;rw[gh (show (a 1).int<=((1000:Nat):Int) from V),C9],f5];show jA z z.rows.length 1000=false;unfold jA;rw[F6];intro j hj;obtain⟨r1,r2,Z⟩:=mU hz (m0.1 hj);unfold inR;rw[gh (show (z j 1).int<=((1000:Nat):Int) from Z),C9];exact J4
 have h:=aeA (fun k=>(iP z a wi k).bool) 1001;have h0:=aeA (fun k=>(iP z a wi k).bool) 1000;have e1:tS (fun k=>(iP z a wi k).bool) 1001=bif leI 0 (tS (fun k=>(iP z a wi k).bool) 1000).2 then ((tS (fun k=>(iP z a wi k).bool) 1000).1 ++ [[.i (tS (fun k=>(iP z a wi k).bool) 1000).2,.i ((1000:Nat):Int)]],-1) else tS (fun k=>(iP z a wi k).bool) 1000:=by rw[tS,J,f5]
 have e2:(ng z a wi).rows=kpR (fun k=>(iP z a wi k).bool) 1000:=by show kpR (Bh (.l [[.l [sub a 0 2],.l [[wi]],.l [[z]]]])) 1000=_;exact Rn fun k _=>QT hz Y k
 rw[e1,e2];rcases h0 with⟨h1,U,_⟩ | ⟨h1,U⟩
 ·rw[h1,Er (show (-1:Int)<0 by omega),f5];exact U.symm
 ·rw[bb h1,f8];exact U.symm
theorem aiD(N:Nat)(hN:1001<N)(p q r:b8)(i lo n:Nat)(hi:i<(gd p 0).rows.length)(O:(gd ((gd p 0).rows.getD i []) 0).int=lo)(U:(gd ((gd p 0).rows.getD i []) 1).int=(lo:Int)+n)(Y:lo+n<=1000) :
  ba (jK N p q r) N [gd p 0,gd q 0,gd q 1,gd r 0,.i 0,.l [],.i 0,.b false,.l (dz fun k=>.b (jA (gd p 0) i k)),.i (i:Int),.b true,gd ((gd p 0).rows.getD i []) 0,gd q 0,gd q 1] =
  some (4,[gd p 0,gd q 0,gd q 1,gd r 0,.i 0,.l [],.i 0,.b false,.l (dz fun k=>.b (jA (gd p 0) (i+1) k)),.i (i:Int),.b true,Jd (gd ((gd p 0).rows.getD i []) 0) n,gd q 0,gd q 1]):=by
 obtain⟨row,J⟩:∃row,row=(gd p 0).rows.getD i []:=⟨_,rfl⟩;rw[<- J] at O U ⊢;have V:=bM (L:=jK N p q r) (fun m => [gd p 0,gd q 0,gd q 1,gd r 0,.i 0,.l [],.i 0,.b false,.l (dz fun k=>.b (jA (gd p 0) i k||(decide (lo<=k)&&decide (k<lo+m)))),.i (i:Int),.b true,Jd (gd row 0) m,gd q 0,gd q 1]) n 2 (fun m Z=>?_) ?_ (N:=N) (by omega)
 ·rw[show (dz fun k=>.b (jA (gd p 0) i k))=dz fun k=>.b (jA (gd p 0) i k||(decide (lo<=k)&&decide (k<lo+0))) from jI fun k=>by rw[show (decide (lo<=k)&&decide (k<lo+0))=false from by rw[Bool.and_eq_false_iff];simp;omega,K7]];rw[show (dz fun k=>.b (jA (gd p 0) (i+1) k))=dz fun k=>.b (jA (gd p 0) i k||(decide (lo<=k)&&decide (k<lo+n))) from jI fun k=>by
   rw[acS,<- J]
   congr 2
   unfold inR leI ltI;rw[O,U,p7];simp only[a9,f7];omega]
  exact V
 ·show jK N p q r [_,_,_,_,_,_,_,_,_,.i (i:Int),_,Jd (gd row 0) m,_,_]=_;rw[Ie];rw[aE,bn hi,g4,<- J,DI,O,U,gJ (show (lo:Int)+(m:Int)<(lo:Int)+(n:Int) by omega),f8,bp];rw[show (lo:Int)+(m:Int)=((lo+m:Nat):Int) from by omega,bn (by rw[oH];omega),g4,Qn,aF (show lo+m<1001 by omega) (by omega)];rw[show Jd (gd row 0) (m+1)=.i ((lo+m+1:Nat):Int) from congrArg D.i (show (gd row 0).int+((m+1:Nat):Int)=((lo+m+1:Nat):Int) by omega)];rw[show (dz fun k=>bif k==lo+m then .b true else .b (jA (gd p 0) i k||(decide (lo<=k)&&decide (k<lo+m))))=dz fun k=>.b (jA (gd p 0) i k||(decide (lo<=k)&&decide (k<lo+(m+1)))) from jI fun k=>by
   by_cases hk:k=lo+m
   ·subst hk;rw[n8,f8,show (decide (lo<=lo+m)&&decide (lo+m<lo+(m+1)))=true from by simp,K3]
   ·rw[show (k==lo+m)=false from by simpa using hk,f5]
    congr 2
    rw[p7];simp only[a9,f7];omega]
 ·show jK N p q r [_,_,_,_,_,_,_,_,_,.i (i:Int),_,Jd (gd row 0) n,_,_]=_;rw[Ie];rw[aE,bn hi,g4,<- J,DI,O,U,gh (show (lo:Int)+(n:Int)<=(lo:Int)+(n:Int) by omega),f5]
theorem ajT(N:Nat)(hN:1001<N)(p q r:b8)(hz:aV (gd p 0)=true)(hn:(gd p 0).rows.length<=16) :
  ba (jN N p q r) N [gd p 0,gd q 0,gd q 1,gd r 0,.i 0,.l [],.i 0,.b false,.l (dz fun k=>.b (jA (gd p 0) 0 k)),.i ((0:Nat):Int),gd q 0,gd q 1] =
  some (2,[gd p 0,gd q 0,gd q 1,gd r 0,.i 0,.l [],.i 0,.b false,.l (dz fun k=>.b (jA (gd p 0) (gd p 0).rows.length k)),.i ((gd p 0).rows.length:Int),gd q 0,gd q 1]):=by
 refine bM (L:=jN N p q r) (fun i => [gd p 0,gd q 0,gd q 1,gd r 0,.i 0,.l [],.i 0,.b false,.l (dz fun k=>.b (jA (gd p 0) i k)),.i (i:Int),gd q 0,gd q 1]) (gd p 0).rows.length 0 (fun i hi=>?_) ?_ (N:=N) (by omega)
 ·obtain⟨Y,Z,V⟩:=mU hz hi;obtain⟨lo,J⟩:∃lo:Nat,(gd ((gd p 0).rows.getD i []) 0).int=lo:=⟨(gd ((gd p 0).rows.getD i []) 0).int.toNat,by omega⟩;obtain⟨n,O⟩:∃n:Nat,(gd ((gd p 0).rows.getD i []) 1).int=(lo:Int)+n:=⟨((gd ((gd p 0).rows.getD i []) 1).int - lo).toNat,by omega⟩;have U:=aiD N hN p q r i lo n hi J O (by omega);show jN N p q r [_,_,_,_,_,_,_,_,_,.i (i:Int),_,_]=_;rw[GQ];rw[aE,cy hi,bn hi,g4,fI hi];dsimp only;rw[U];show some (0,[_,_,_,_,_,_,_,_,_,D.i (w64 ((i:Int)+1)),_,_])=_;rw[aF hi (by omega)];rfl
 ·show jN N p q r [_,_,_,_,_,_,_,_,_,.i ((gd p 0).rows.length:Int),_,_]=_;rw[GQ];rw[aE,bF]
theorem ajN(N:Nat)(hN:1001<N)(p q r:b8)(A M:Nat)(O:(q 0).int=A)(J:(q 1).int=(A:Int)+M)(V:A+M<=1000) :
  ba (jL N p q r) N [p 0,q 0,q 1,r 0,.i 0,.l [],.i 0,.b false,.l (dz fun k=>.b (jA (p 0) (p 0).rows.length k)),.i (p 0:Int),q 0,q 0,q 1] =
  some (6,[p 0,q 0,q 1,r 0,.i 0,.l [],.i 0,.b false,.l (dz (iP (p 0) q (r 0))),.i (p 0:Int),Jd (q 0) M,q 0,q 1]):=by
 have U:=bM (L:=jL N p q r) (fun m => [p 0,q 0,q 1,r 0,.i 0,.l [],.i 0,.b false,.l (dz fun k=>bif decide (A<=k)&&decide (k<A+m) then r 0 else .b (jA (p 0) (p 0).rows.length k)),.i (p 0:Int),Jd (q 0) m,q 0,q 1]) M 4 (fun m Y=>?_) ?_ (N:=N) (by omega)
 ·rw[show (dz fun k=>.b (jA (p 0) (p 0).rows.length k))=dz fun k=>bif decide (A<=k)&&decide (k<A+0) then r 0 else .b (jA (p 0) (p 0).rows.length k) from jI fun k=>by rw[show (decide (A<=k)&&decide (k<A+0))=false from by rw[Bool.and_eq_false_iff];simp;omega,f5]];rw[show dz (iP (p 0) q (r 0))=dz fun k=>bif decide (A<=k)&&decide (k<A+M) then r 0 else .b (jA (p 0) (p 0).rows.length k) from jI fun k=>by
   unfold iP inR leI ltI;rw[O,J]
   congr 1
   rw[p7];simp only[a9,f7];omega]
  exact U
 ·show jL N p q r [_,_,_,_,_,_,_,_,_,_,Jd (q 0) m,_,_]=_;rw[HR];rw[DI,O,J,gJ (show (A:Int)+(m:Int)<(A:Int)+(M:Int) by omega),f8,bp];rw[show (A:Int)+(m:Int)=((A+m:Nat):Int) from by omega,bn (by rw[oH];omega),g4,Qn,aF (show A+m<1001 by omega) (by omega)];rw[show Jd (q 0) (m+1)=.i ((A+m+1:Nat):Int) from congrArg D.i (show (q 0).int+((m+1:Nat):Int)=((A+m+1:Nat):Int) by omega)];rw[show (dz fun k=>bif k==A+m then r 0 else bif decide (A<=k)&&decide (k<A+m) then r 0 else .b (jA (p 0) (p 0).rows.length k))=dz fun k=>bif decide (A<=k)&&decide (k<A+(m+1)) then r 0 else .b (jA (p 0) (p 0).rows.length k) from jI fun k=>by
   by_cases hk:k=A+m
   ·subst hk;rw[n8,f8,show (decide (A<=A+m)&&decide (A+m<A+(m+1)))=true from by simp,f8]
   ·rw[show (k==A+m)=false from by simpa using hk,f5]
    congr 1
    rw[p7];simp only[a9,f7];omega]
 ·show jL N p q r [_,_,_,_,_,_,_,_,_,_,Jd (q 0) M,_,_]=_;rw[HR];rw[DI,O,J,gh (show (A:Int)+(M:Int)<=(A:Int)+(M:Int) by omega),f5]
theorem akb(N:Nat)(hN:1001<N)(p q r:b8)(m:D)(C:Nat->D) :
  ba (jG N p q r) N [p 0,q 0,q 1,r 0,.i 0,.l [],.i 0,.b false,.l (dz C),.i (p 0:Int),m,.l (tS (fun k=>(C k).bool) 0).1,.i (tS (fun k=>(C k).bool) 0).2,.i ((0:Nat):Int),q 0,q 1] =
  some (8,[p 0,q 0,q 1,r 0,.i 0,.l [],.i 0,.b false,.l (dz C),.i (p 0:Int),m,.l (tS (fun k=>(C k).bool) 1001).1,.i (tS (fun k=>(C k).bool) 1001).2,.i ((1001:Nat):Int),q 0,q 1]):=by
 refine bM (L:=jG N p q r) (fun k => [p 0,q 0,q 1,r 0,.i 0,.l [],.i 0,.b false,.l (dz C),.i (p 0:Int),m,.l (tS (fun k=>(C k).bool) k).1,.i (tS (fun k=>(C k).bool) k).2,.i (k:Int),q 0,q 1]) 1001 6 (fun k hk=>?_) ?_ (N:=N) (by omega)
 ·show jG N p q r [_,_,_,_,_,_,_,_,_,_,_,_,.i (tS (fun k=>(C k).bool) k).2,.i (k:Int),_,_]=_;rw[GJ];have V:=afO (fun k=>(C k).bool) k;have J:∀x,bq ((tS (fun k=>(C k).bool) k).1 ++ [x])=true:=fun x=>bL (by rw[i5];show _+1<=_;omega)
  have O:al (k:Int) (dz C).length=true:=bP (by rw[oH];omega);have U:=acY (C:=C) (show k<1001 by omega);rw[tS];generalize tS (fun k=>(C k).bool) k=S at *;obtain⟨o,f⟩:=S;have J:∀x,bq (o ++ [x])=true:=J;simp only[aE,bp,bb (show (k:Int)<=1000 by omega),f8,O,g4,U,aL,J,v6,aP,aF (show k<1001 by omega) (show 1001<=9223372036854775807 by omega)];cases (C k).bool
  ·rw[f5,f5,w5,f8];cases leI 0 f <;> rfl
  ·rw[f8,f8,l8,f5];cases ltI f 0 <;> rfl
 ·show jG N p q r [_,_,_,_,_,_,_,_,_,_,_,_,_,.i ((1001:Nat):Int),_,_]=_;rw[GJ];rw[aE,Er (show (1000:Int)<((1001:Nat):Int) by omega),f5]
theorem afp(N:Nat)(hN:1001<N)(p q r:b8)(hz:aV (p 0)=true)(O:ar (sub q 0 2)=true):aZ f4 jD N jx Tryz.f186 (.tup [.c (.d (.sl 41)),.c (.d (.bool))]) [⟨sd (.sl 41),p⟩,⟨ag ay,q⟩,⟨rb,r⟩]=some (bo,some (1,bX (p 0) q (r 0))):=by
 rw[kH];have U:bX (p 0) q (r 0) = [.l (bif !(ltI 16 (ng (p 0) q (r 0))) then (ng (p 0) q (r 0)).rows else[]),.b (!(ltI 16 (ng (p 0) q (r 0))))]:=by unfold bX iQ;rw[hz,O,s8,s8]
 rw[U,hz,O,l8,f5,f5];have hn:(p 0).rows.length<=16:=by simp only[aV,a9,leI,f7] at hz;omega
 have J:=O;simp only[ar,a9,f7] at J;obtain⟨a0,a1,a2⟩:0<=(q 0).int/\(q 0).int<(q 1).int/\(q 1).int<=1000:=⟨J.1,J.2.1,J.2.2⟩;obtain⟨A,hA⟩:∃A:Nat,(q 0).int=A:=⟨(q 0).int.toNat,by omega⟩;obtain⟨M,hM⟩:∃M:Nat,(q 1).int=(A:Int)+M:=⟨((q 1).int - A).toNat,by omega⟩;have Y:=ajT N hN p q r hz hn;rw[show (dz fun k=>.b (jA (p 0) 0 k))=List.replicate 1001 [.b false] from (abZ (.b false)).symm,show (((0:Nat):Int))=0 from rfl] at Y;have Z:=ajN N hN p q r A M hA hM (by omega);have V:=akb N hN p q r (Jd (q 0) M) (iP (p 0) q (r 0));have ht:=aip (wi:=r 0) hz O;rw[show (leI 0 1001&&eqI 1001 1001&&leI 1001 4294967296&&true&&true)=true from by kernel_rfl,aP];generalize dz (iP (p 0) q (r 0))=R4 at *;generalize (dz fun k=>D.b (jA (p 0) (p 0).rows.length k))=R1 at *;generalize List.replicate 1001 [D.b false]=R0 at *;rw[show (tS (fun k=>(iP (p 0) q (r 0) k).bool) 0).1 = [] from rfl,show (tS (fun k=>(iP (p 0) q (r 0) k).bool) 0).2 = -1 from rfl,show (((0:Nat):Int))=0 from rfl] at V;generalize tS (fun k=>(iP (p 0) q (r 0) k).bool) 1001=S6 at *;rw[Y];dsimp only[Out.pay,Out.code,Option.getD_some,Option.isSome_some];simp only[aL,aJ];rw[Z];dsimp only[Out.pay,Out.code,Option.getD_some,Option.isSome_some];simp only[aL,aJ];rw[V];dsimp only[Out.pay,Out.code,Option.getD_some,Option.isSome_some];simp only[aL,aJ,bp,ht];cases ltI 16 (ng (p 0) q (r 0)) <;> rfl
def Be:Ent:=(186,e3 (sd (.sl 41)) (ag ay) rb fun p q r=>(⟨.tup [.c (.d (.sl 41)),.c (.d (.bool))],sub (bX (p 0) q (r 0)) 0 2⟩,true))
theorem Ef:aw f4 Be:=em fun p q r h=>aq (N:=1002) (ks:=jx) (ap (fC ⟨rx,fC ⟨dy,fN⟩⟩)) Tryz.func186 fun hw=>by
 rw[kH];rw[<- kH 1002 p q r];rw[show sub (bX (p 0) q (r 0)) 0 2=bX (p 0) q (r 0) from rfl];cases hz:aV (p 0) with
 | false =>
  have J:bX (p 0) q (r 0) = [.l [],.b false]:=by unfold bX iQ;rw[hz];rfl
  rw[J,kH,hz];rfl
 | true =>
 cases O:ar (sub q 0 2) with
 | false =>
  have J:bX (p 0) q (r 0) = [.l [],.b false]:=by unfold bX iQ;rw[hz,O];rfl
  rw[J,kH,hz,O];rfl
 | true=>exact afp 1002 (by omega) p q r hz O
abbrev zj:=find [Be]
abbrev yL:=[0,1,3,4,5,6,7]
theorem Jf(N:Nat)(p q:b8):aZ f4 zj N yL Tryz.f63 (.tup [.c (.d (.sl 41)),.c (.d (.bool))]) [⟨sd (.sl 41),p⟩,⟨ag ay,q⟩]=some (bo,
 some (1,sub (bX (p 0) (sub q 0 2) (.b true)) 0 2)):=by kernel_rfl
def qX:Ent:=(63,e2 (sd (.sl 41)) (ag ay) fun p q=>(⟨.tup [.c (.d (.sl 41)),.c (.d (.bool))],sub (bX (p 0) q (.b true)) 0 2⟩,true))
theorem vk:aw f4 qX:=bj fun p q h=>aq (N:=0) (ks:=yL) (ap (fC ⟨Ef,fN⟩)) Tryz.func63 fun hw=>by rw[Jf];rfl
abbrev vH:=find [xz,DJ,yr,jQ]
abbrev wL:=[0,1,2,3,4,6,7,9,12,13,14,15,29]
def kO(N:Nat)(p q r:b8):b8->Out:=bc f4 vH N wL Tryz.f77 (.one (.c (.own (0,0) true 3))) [⟨ag aK,p⟩,⟨ag ay,q⟩,⟨rb,r⟩] 0
theorem Dy(N:Nat)(p q r:b8)(x0 x1 x2 x3 x4 x5 x6 x7 x8 x9 b3 Y a6 b1 b4 U O a1 J a3 a4 b0 a8 a2 V a7 a5 b2 Z a0:D):(kO N p q r) [x0,x1,x2,x3,x4,x5,x6,x7,x8,x9,b3,Y,a6,b1,b4,U,O,a1,J,a3,a4,b0,a8,a2,V,a7,a5,b2,Z,a0] =
 bif ltI J.int a1.int then nd (al J.int O.rows.length) (bif cz [(O.rows.getD J.int.toNat [] 1),(O.rows.getD J.int.toNat [] 2)] [Z,a0] then nd (leI V 1000000000) (bif (aA (aB V) (O.rows.getD J.int.toNat [] 0).int)==Y.bool then nd (iR U&&leI U 40000) (nx [x0,x1,x2,x3,x4,x5,x6,x7,x8,x9,b3,Y,a6,b1,b4,bC U (O.rows.getD J.int.toNat [] 0),O,a1,.i (w64 (J.int+1)),a3,a4,b0,a8,a2,V,a7,a5,b2,Z,a0])
 else nx [x0,x1,x2,x3,x4,x5,x6,x7,x8,x9,b3,Y,a6,b1,b4,U,O,a1,.i (w64 (J.int+1)),a3,a4,b0,a8,a2,V,a7,a5,b2,Z,a0])
 else nx [x0,x1,x2,x3,x4,x5,x6,x7,x8,x9,b3,Y,a6,b1,b4,U,O,a1,.i (w64 (J.int+1)),a3,a4,b0,a8,a2,V,a7,a5,b2,Z,a0])
 else ex 0 [x0,x1,x2,x3,x4,x5,x6,x7,x8,x9,b3,Y,a6,b1,b4,U,O,a1,J,a3,a4,b0,a8,a2,V,a7,a5,b2,Z,a0]:=by kernel_rfl
theorem Pk(N:Nat)(p q r:b8):aZ f4 vH N wL Tryz.f77 (.one (.c (.own (0,0) true 3))) [⟨ag aK,p⟩,⟨ag ay,q⟩,⟨rb,r⟩]=some (bo,
 (let J:=ba (kO N p q r) N [p 0,p 1,p 2,p 3,p 4,p 5,p 6,p 7,p 8,q 0,q 1,r 0,.i 0,.i 0,.l [],.l [],p 4,.i (p 4:Int),.i 0,p 0,p 1,p 2,p 3,p 4,p 5,p 6,p 7,p 8,q 0,q 1]
  nd J.isSome (nd (J.code==2) (some (1,[J.pay 15]))))):=by kernel_rfl
theorem ue{L:b8->Out}{N:Nat}{st:b8}{o:Out}(h:ba L N st=o)(J:b8)(e:J=st):ba L N J=o:=e▸h
def rv(p q:b8)(J:Bool)(r:b8):Bool:=cz [r 1,r 2] [q 0,q 1]&&(aA (aB (p 5)) (r 0).int==J)
def nv(p q:b8)(h:D):D:=cC (p 4) (rv p q h.bool) (p 4).rows.length
def Hs:Ent:=(77,e3 (ag aK) (ag ay) rb fun p q r=>(⟨.one (.c (.own (0,0) true 3)),[nv p q (r 0)]⟩,leI (p 4) 40000&&leI (p 5) 1000000000))
theorem Pi:aw f4 Hs:=em fun p q r h=>aq (N:=(p 4).rows.length+1) (ks:=wL) (ap (fC ⟨tD,fC ⟨AZ,fC ⟨ww,fC ⟨jd,fN⟩⟩⟩⟩)) Tryz.func77 fun hw=>by
 rw[Pk];have h:(leI (p 4) 40000&&leI (p 5) 1000000000)=true:=h;simp only[a9] at h;have O:(p 4:Int)<=40000:=j9 h.1;have e:=bM (L:=kO ((p 4).rows.length+1) p q r) (fun k => [p 0,p 1,p 2,p 3,p 4,p 5,p 6,p 7,p 8,q 0,q 1,r 0,.i 0,.i 0,.l [],cC (p 4) (rv p q (r 0).bool) k,p 4,.i (p 4:Int),.i (k:Int),p 0,p 1,p 2,p 3,p 4,p 5,p 6,p 7,p 8,q 0,q 1]) (p 4).rows.length 0 (fun k hk=>?_) ?_ (N:=(p 4).rows.length+1) (by omega)
 ·simp only[g9] at e;rw[show cC (p 4) (rv p q (r 0).bool) 0=.l [] from rfl] at e;rw[e];rfl
 ·show kO _ p q r [_,_,_,_,_,_,_,_,_,_,_,_,_,_,_,_,_,_,.i (k:Int),_,_,_,_,_,_,_,_,_,_,_]=_;rw[Dy];have J:=jy (p 4) (rv p q (r 0).bool) k (by omega);have hn:=fk (p 4) (rv p q (r 0).bool) k;simp only[aE,cy hk,bn hk,g4,aF hk (show (p 4).rows.length<=9223372036854775807 by omega),h.2,aP,ro J.1,bb (show (cC (p 4) (rv p q (r 0).bool) k:Int)<=40000 by omega),v6];rw[cC,rv];cases cz [p 4 k 1,p 4 k 2] [q 0,q 1] <;> cases aA (aB (p 5)) (p 4 k 0).int==(r 0).bool <;> rfl
 ·show kO _ p q r [_,_,_,_,_,_,_,_,_,_,_,_,_,_,_,_,_,_,.i (p 4:Int),_,_,_,_,_,_,_,_,_,_,_]=_;rw[Dy];simp only[aE,bF]
def jV(r x:b8):Bool:=(sub (cg [x 1,x 2] [r 0,r 1]) 0 3 2).bool
def mQ(p x:b8):Bool:=fV (p 5) (x 0).int
theorem UA(l w z:D)(M H:b8->Bool):∀k,(jW l w z M H k).1.rows.length<=l.rows.length/\(jW l w z M H k).2.1.rows.length<=w.rows.length+k
 | 0=>⟨g8 _,g8 _⟩
 | k+1=>by
  obtain⟨h1,U⟩:=UA l w z M H k;rw[jW];cases M (z.rows.getD k [])
  ·exact⟨h1,by show (jW l w z M H k).2.1.rows.length<=_;omega⟩
  ·cases H (z.rows.getD k [])
   ·have O:=Fy (jW l w z M H k).1 (gd (z.rows.getD k []) 0).int false;have J:=qz (jW l w z M H k).2.1 (gd (z.rows.getD k []) 0);exact⟨by show (iX _ _ _).rows.length<=_;omega,by show (bC _ _).rows.length<=_;omega⟩
   ·exact⟨h1,by show (jW l w z M H k).2.1.rows.length<=_;omega⟩
theorem cD{p:b8}(h:aY p=true):aR (p 4)=true/\(p 4).rows.length<=40/\(p 5).rows.length<=60/\(p 6).rows.length<=60/\fM (p 6)=true/\aN (p 3)=true/\aV (p 1)=true/\aV (p 2)=true:=by simp only[aY,a9,leI,f7] at h;obtain⟨_,h1,O,V,J,_,Z,Y,_,U,_⟩:=h;exact⟨J,((bU _).1 J).2.2,by omega,by omega,U,V,h1,O⟩
theorem dB{p:b8}(h:aY p=true):cv p=true:=by
 obtain⟨_,h4,h5,Z,_,U,h1,J⟩:=cD h;simp only[aY,ep,fG,a9,leI,f7,i6,m0] at h;obtain⟨_,_,_,_,_,_,_,_,h7,_,_,_,_,_,_,hw,_⟩:=h;simp only[aV,aN,a9,leI,f7] at h1 J U;have V:=h1.2;have Y:=J.2;have k3:=U.2;unfold cv;rw[bb (show (p 1:Int)<=1000000 by omega),bb (show (p 2:Int)<=1000000 by omega),bb (show (p 3:Int)<=1000000 by omega),bb (show (p 4:Int)<=1000000 by omega),bb (show (p 5:Int)<=1000000 by omega),bb (show (p 6:Int)<=1000000 by omega),bb (show (p 7:Int)<=1000000 by omega)];simp only[s8,i6,m0];intro k hk;have O:gf p k=true:=by
  have:=hw k hk;cases k with
  | zero=>simp only[eS,a9] at this;exact this.2
  | succ k=>simp only[eS,a9] at this;exact this.2.2
 simp only[gf,a9] at O;have:=tN O.1;exact bb (by omega)
theorem sb(p q r:b8):(cv (sub p 0 9)||(au (sub p 0 9) q (sub r 0 2))==1)=true:=by
 cases h:aY (sub p 0 9) with
 | true=>rw[dB h,L6]
 | false =>unfold au;rw[show sub (sub p 0 9) 0 9=sub p 0 9 from rfl,h];exact K3 _
theorem Fe{z:D}(h:fM z=true):(ai z).Pairwise (· < ·):=by
 simp only[fM,i6,m0] at h;have hs:∀k,k+1<z.rows.length->(gd (z.rows.getD k []) 0).int<(gd (z.rows.getD (k+1) []) 0).int:=fun k hk=>by have:=h (k+1) hk;simp only[ll,a9,leI,m6,y6] at this;omega
 have O:∀d i,i+d+1<z.rows.length->(gd (z.rows.getD i []) 0).int<(gd (z.rows.getD (i+d+1) []) 0).int:=fun d=>by
  induction d with
  | zero=>exact fun i hi=>hs i hi
  | succ d U=>exact fun i hi=>Int.lt_trans (U i (by omega)) (hs (i+d+1) hi)
 refine t9.2 fun i j hi J V=>?_
 rw[bR] at hi J;obtain⟨_,e1⟩:=g5.1 (cP z i hi);obtain⟨_,e2⟩:=g5.1 (cP z j J);rw[e1,e2];have:=O (j - i - 1) i (by omega)
 rwa [show i+(j - i - 1)+1=j from by omega] at this
theorem KU{p q r:b8}(h:(au (sub p 0 9) q (sub r 0 2) != 0)=false):aY (sub p 0 9)=true/\ar (sub r 0 2)=true:=by
 unfold au at h;rw[show sub (sub p 0 9) 0 9=sub p 0 9 from rfl,show sub (sub r 0 2) 0 2=sub r 0 2 from rfl] at h;revert h;cases aY (sub p 0 9)
 ·intro h;cases h
 ·cases inB (q 0).int 1 1000000
  ·intro h;cases h
  ·cases ar (sub r 0 2)
   ·intro h;cases h
   ·exact fun _=>⟨rfl,rfl⟩
def afG(p:b8)(q:D)(r:b8)(s:D × D × Bool):b8:= [p 0,.l (p 1).rows,sub (bX (p 2) (sub r 0 2) (.b true)) 0 2 0,.l (p 3).rows,s.1,dpS p 5,s.2.1,.l (p 7).rows,q]++(bif s.2.2 then[.l [],.i 5] else[fg (p 3) (sub r 0 2) true,.i 0])
def TO(p:b8)(q:D)(r:b8):b8:=
 bif au (sub p 0 9) [q] (sub r 0 2) != 0 then sub (cM (sub p 0 9) (au (sub p 0 9) [q] (sub r 0 2))) 0 9 ++ [.l [],.i (au (sub p 0 9) [q] (sub r 0 2))]
 else bif !(ax (p 1) (sub r 0 2)) then dpS p ++ [.l [],.i 4]
 else bif !(sub (bX (p 2) (sub r 0 2) (.b true)) 0 2 1).bool then dpS p ++ [.l [],.i 6]
 else afG p q r (jW (.l (p 4).rows) (.l (p 6).rows) (p 4) (jV r) (mQ p) (p 4).rows.length)
abbrev pb:=find [zQ,zP,gC,jn,yK,Hs,rd,jQ,ud,pu]
abbrev pR:=[0,1,2,3,5,6,7,8,9,10,11,12,13,14,16,22,37,47,55,56,57,58,76]
def gI(N:Nat)(p q r:b8):b8->Out:=bc f4 pb N pR Tryz.f13 (.tup [.agg zE,.c (.d (.sl 108)),.c (.d si)]) [⟨ag aK,p⟩,⟨ri,q⟩,⟨ag ay,r⟩] 0
theorem vj(N:Nat)(p q r:b8)(x0 x1 x2 x3 x4 x5 x6 x7 x8 x9 e0 a2 c1 c8 f1 a4 e9 f3 c7 a1 b1 c4 c3 Y O V J d3 b5 c9 b3 a6 c5 c0 a8 b4 e6 c6 d2 Z d1 g1 a0 d5 e7 a7 a5 b2 f2 f0 d4 a3 b0 U c2 b6:D):(gI N p q r) [x0,x1,x2,x3,x4,x5,x6,x7,x8,x9,e0,a2,c1,c8,f1,a4,e9,f3,c7,a1,b1,c4,c3,Y,O,V,J,d3,b5,c9,b3,a6,c5,c0,a8,b4,e6,c6,d2,Z,d1,g1,a0,d5,e7,a7,a5,b2,f2,f0,d4,a3,b0,U,c2,b6] =
 bif ltI J.int V.int then nd (al J.int O.rows.length) (nd (iR U&&leI U 40000) (nx [x0,x1,x2,x3,x4,x5,x6,x7,x8,x9,e0,a2,c1,c8,f1,a4,e9,f3,c7,a1,b1,c4,c3,Y,O,V,.i (w64 (J.int+1)),d3,b5,c9,b3,a6,c5,c0,a8,b4,e6,c6,d2,Z,d1,g1,a0,d5,e7,a7,a5,b2,f2,f0,d4,jg a3 (O.rows.getD J.int.toNat [] 0),b0,bC U (O.rows.getD J.int.toNat [] 0),c2,b6]))
 else ex 0 [x0,x1,x2,x3,x4,x5,x6,x7,x8,x9,e0,a2,c1,c8,f1,a4,e9,f3,c7,a1,b1,c4,c3,Y,O,V,J,d3,b5,c9,b3,a6,c5,c0,a8,b4,e6,c6,d2,Z,d1,g1,a0,d5,e7,a7,a5,b2,f2,f0,d4,a3,b0,U,c2,b6]:=by kernel_rfl
theorem Fw(N:Nat)(p q r:b8):aZ f4 pb N pR Tryz.f13 (.tup [.agg zE,.c (.d (.sl 108)),.c (.d si)]) [⟨ag aK,p⟩,⟨ri,q⟩,⟨ag ay,r⟩]=some (bo,
 nd (bE (sub p 0 9)) (bif (au (sub p 0 9) [q 0] (sub r 0 2)) != 0 then nd (cv (sub p 0 9)||(au (sub p 0 9) [q 0] (sub r 0 2))==1) (some (1,[sub (gt (sub p 0 9) (.i (au (sub p 0 9) [q 0] (sub r 0 2)))) 0 10 0,sub (gt (sub p 0 9) (.i (au (sub p 0 9) [q 0] (sub r 0 2)))) 0 10 1,sub (gt (sub p 0 9) (.i (au (sub p 0 9) [q 0] (sub r 0 2)))) 0 10 2,sub (gt (sub p 0 9) (.i (au (sub p 0 9) [q 0] (sub r 0 2)))) 0 10 3,sub (gt (sub p 0 9) (.i (au (sub p 0 9) [q 0] (sub r 0 2)))) 0 10 4,sub (gt (sub p 0 9) (.i (au (sub p 0 9) [q 0] (sub r 0 2)))) 0 10 5,sub (gt (sub p 0 9) (.i (au (sub p 0 9) [q 0] (sub r 0 2)))) 0 10 6,sub (gt (sub p 0 9) (.i (au (sub p 0 9) [q 0] (sub r 0 2)))) 0 10 7,sub (gt (sub p 0 9) (.i (au (sub p 0 9) [q 0] (sub r 0 2)))) 0 10 8,.l [],sub (gt (sub p 0 9) (.i (au (sub p 0 9) [q 0] (sub r 0 2)))) 0 10 9]))
 else nd (cv (sub p 0 9)) (bif !(ca (p 1) (sub r 0 2)) then some (1,[dpS p 0,dpS p 1,dpS p 2,dpS p 3,dpS p 4,dpS p 5,dpS p 6,dpS p 7,dpS p 8,.l [],.i 4])
 else bif !(sub (bX (p 2) (sub r 0 2) (.b true)) 0 2 1).bool then some (1,[dpS p 0,dpS p 1,dpS p 2,dpS p 3,dpS p 4,dpS p 5,dpS p 6,dpS p 7,dpS p 8,.l [],.i 6])
 else nd (leI (p 4) 40000&&leI (p 5) 1000000000) ((let J:=ba (gI N p q r) N [p 0,p 1,p 2,p 3,p 4,p 5,p 6,p 7,p 8,q 0,r 0,r 1,.i 0,.i 0,.i 0,.l [],.i 0,.i (au (sub p 0 9) [q 0] (sub r 0 2)),.b ((au (sub p 0 9) [q 0] (sub r 0 2)) != 0),.i 0,.b (!(ca (p 1) (sub r 0 2))),sub (bX (p 2) (sub r 0 2) (.b true)) 0 2 0,sub (bX (p 2) (sub r 0 2) (.b true)) 0 2 1,.b (!(sub (bX (p 2) (sub r 0 2) (.b true)) 0 2 1).bool),nv (sub p 0 9) (sub r 0 2) (.b false),.i (nv (sub p 0 9) (sub r 0 2) (.b false):Int),.i 0,p 0,p 1,p 2,p 3,p 4,p 5,p 6,p 7,p 8,r 0,r 1,.i 0,.l [],.l [],.l [],.l [],.l [],.l [],.l [],.i 0,dpS p 0,dpS p 1,sub (bX (p 2) (sub r 0 2) (.b true)) 0 2 0,dpS p 3,dpS p 4,dpS p 5,dpS p 6,dpS p 7,q 0]
  nd J.isSome (nd (J.code==2) (nd (leI (J.pay 51) 40000&&leI (J.pay 52) 1000000000) (bif ltI 0 (nv (sub J.pay 47 9) (sub J.pay 36 2) (.b true)) then some (1,[J.pay 47,J.pay 48,J.pay 49,J.pay 50,J.pay 51,J.pay 52,J.pay 53,J.pay 54,J.pay 55,.l [],.i 5])
  else some (1,[J.pay 47,J.pay 48,J.pay 49,J.pay 50,J.pay 51,J.pay 52,J.pay 53,J.pay 54,J.pay 55,ma (J.pay 50) (sub J.pay 36 2) (.b true),.i 0]))))))))):=by kernel_rfl
def OJ(p:b8)(q:D)(r:b8)(l w:D):b8:= [p 0,.l (p 1).rows,sub (bX (p 2) (sub r 0 2) (.b true)) 0 2 0,.l (p 3).rows,l,dpS p 5,w,.l (p 7).rows,q]
def ZY(p:b8)(q:D)(r:b8)(l w:D):b8:=OJ p q r l w++(bif ltI 0 (nv (OJ p q r l w) (sub r 0 2) (.b true)) then[.l [],.i 5] else[ma (.l (p 3).rows) (sub r 0 2) (.b true),.i 0])
def gn(p r:b8):D:=nv (sub p 0 9) (sub r 0 2) (.b false)
def Tb(p:b8)(q:D)(r:b8):b8:=
 bif au (sub p 0 9) [q] (sub r 0 2) != 0 then sub (gt (sub p 0 9) (.i (au (sub p 0 9) [q] (sub r 0 2)))) 0 9 ++ [.l [],sub (gt (sub p 0 9) (.i (au (sub p 0 9) [q] (sub r 0 2)))) 0 10 9]
 else bif !(ca (p 1) (sub r 0 2)) then dpS p ++ [.l [],.i 4]
 else bif !(sub (bX (p 2) (sub r 0 2) (.b true)) 0 2 1).bool then dpS p ++ [.l [],.i 6]
 else ZY p q r (oP (.l (p 4).rows) (gn p r) (gn p r).rows.length) (gr (.l (p 6).rows) (gn p r) (gn p r).rows.length)
def wN:Ent:=(13,e3 (ag aK) ri (ag ay) fun p q r=>(⟨.tup [.agg zE,.c (.d (.sl 108)),.c (.d si)],sub (Tb p (q 0) r) 0 11⟩,bE p))
theorem FX:aw f4 wN:=em fun p q r h=>aq (N:=(p 4).rows.length+1) (ks:=pR) (ap (fC ⟨BZ,fC ⟨CC,fC ⟨gi,fC ⟨iH,fC ⟨Jo,fC ⟨Pi,fC ⟨uX,fC ⟨jd,fC ⟨xV,fC ⟨mC,fN⟩⟩⟩⟩⟩⟩⟩⟩⟩⟩)) Tryz.func13 fun hw=>by
 rw[Fw];have h:bE (sub p 0 9)=true:=h;unfold Tb;rw[h,sb];cases hc:(au (sub p 0 9) [q 0] (sub r 0 2)) != 0 with
 | true =>rw[f8,f8,aP,aP];rfl
 | false =>
 obtain⟨hsh,a0⟩:=KU hc;rw[dB hsh];obtain⟨U,J,Y,V,O,_⟩:=cD hsh;have U:aR (.l (p 4).rows)=true:=U;have J:(p 4).rows.length<=40:=J;have Y:(p 5).rows.length<=60:=Y;have V:(p 6).rows.length<=60:=V;have O:(ai (.l (p 6).rows)).Pairwise (· < ·):=Fe (z:=p 6) O;rw[f5,f5,aP,aP];have Z:(au (sub p 0 9) [q 0] (sub r 0 2))=0:=by simpa using hc
 rw[Z];cases hh:ca (p 1) (sub r 0 2) with
 | false=>rfl
 | true =>
 rw[l8,f5,f5];cases ht:(sub (bX (p 2) (sub r 0 2) (.b true)) 0 2 1).bool with
 | false=>rfl
 | true =>
 rw[l8,f5,f5];have hq:(leI (p 4) 40000&&leI (p 5) 1000000000)=true:=by rw[bb (show (p 4:Int)<=40000 by omega),bb (show (p 5:Int)<=1000000000 by omega)];rfl
 have a3:(gn p r).rows.length<=40:=o8 (fk _ _ _) J;have e:=bM (L:=gI ((p 4).rows.length+1) p q r) (fun k => [p 0,p 1,p 2,p 3,p 4,p 5,p 6,p 7,p 8,q 0,r 0,r 1,.i 0,.i 0,.i 0,.l [],.i 0,.i 0,.b false,.i 0,.b (!(ca (p 1) (sub r 0 2))),sub (bX (p 2) (sub r 0 2) (.b true)) 0 2 0,sub (bX (p 2) (sub r 0 2) (.b true)) 0 2 1,.b (!(sub (bX (p 2) (sub r 0 2) (.b true)) 0 2 1).bool),(gn p r),.i (gn p r:Int),.i (k:Int),p 0,p 1,p 2,p 3,p 4,p 5,p 6,p 7,p 8,r 0,r 1,.i 0,.l [],.l [],.l [],.l [],.l [],.l [],.l [],.i 0,p 0,.l (p 1).rows,sub (bX (p 2) (sub r 0 2) (.b true)) 0 2 0,.l (p 3).rows,oP (.l (p 4).rows) (gn p r) k,dpS p 5,gr (.l (p 6).rows) (gn p r) k,.l (p 7).rows,q 0]) (gn p r).rows.length 0 (fun k hk=>?_) ?_ (N:=(p 4).rows.length+1) (Nat.lt_succ_of_le (fk _ _ _))
 ·simp only[g9,oP,gr] at e;rw[hh,ht,l8] at e;dsimp only at e ⊢;rw[hq,aP,ue e]
  case e=>rfl
  dsimp only[Out.pay,Out.code,Option.getD_some,Option.isSome_some];simp only[aL,aJ];have q1:=Ym (t:=gn p r) U (g8 _);have q2:(dpS p 5).rows.length<=(p 5).rows.length:=fX _ _ _;rw[bb (show (oP (.l (p 4).rows) (gn p r) (gn p r).rows.length:Int)<=40000 by omega),bb (show (dpS p 5:Int)<=1000000000 by omega),v6,aP];unfold ZY;generalize oP (.l (p 4).rows) (gn p r) (gn p r).rows.length=L;generalize gr (.l (p 6).rows) (gn p r) (gn p r).rows.length=W;show some (bo,bif ltI 0 (nv (OJ p (q 0) r L W) (sub r 0 2) (.b true)) then some (1,OJ p (q 0) r L W ++ [.l [],.i 5]) else some (1,OJ p (q 0) r L W ++ [ma (.l (p 3).rows) (sub r 0 2) (.b true),.i 0]))=_;cases ltI 0 (nv (OJ p (q 0) r L W) (sub r 0 2) (.b true)) <;> rfl
 ·show gI _ p q r [_,_,_,_,_,_,_,_,_,_,_,_,_,_,_,_,_,_,_,_,_,_,_,_,_,.i (gn p r:Int),.i (k:Int),_,_,_,_,_,_,_,_,_,_,_,_,_,_,_,_,_,_,_,_,_,_,_,_,_,_,_,_,_]=_;rw[vj];obtain⟨a1,_⟩:=oF (t:=gn p r) O k (by omega);have a2:=yc (.l (p 6).rows) (gn p r) k;have a2:_<=(p 6).rows.length+k:=a2;simp only[aE,cy hk,bn hk,g4,aP,aF hk (show (gn p r).rows.length<=9223372036854775807 by omega),ro a1,bb (show (gr (.l (p 6).rows) (gn p r) k:Int)<=40000 by omega),v6];rfl
 ·show gI _ p q r [_,_,_,_,_,_,_,_,_,_,_,_,_,_,_,_,_,_,_,_,_,_,_,_,_,.i (gn p r:Int),.i (gn p r:Int),_,_,_,_,_,_,_,_,_,_,_,_,_,_,_,_,_,_,_,_,_,_,_,_,_,_,_,_,_]=_;rw[vj];simp only[aE,bF]
abbrev vK:=find [MN,jQ,Xs]
abbrev wq:=[0,1,2,5,6,7,8,9,11,14,15,16,17,23,38]
def ku(N:Nat)(p q r:b8):b8->Out:=bc f4 vK N wq Tryz.f253 (.tup [.c (.own (0,0) true 3),.c (.own (0,1) true 3)]) [⟨sd (.sl 93),p⟩,⟨sd (.sl 3),q⟩,⟨ag cV,r⟩] 0
theorem DE(N:Nat)(p q r:b8)(x0 x1 x2 x3 x4 x5 x6 x7 x8 x9 U O Y J V Z a0 a1:D):(ku N p q r) [x0,x1,x2,x3,x4,x5,x6,x7,x8,x9,U,O,Y,J,V,Z,a0,a1] =
 bif ltI J.int Y.int then nd (al J.int O.rows.length) (bif !(cA [V,Z,a0,a1] (sub (O.rows.getD J.int.toNat []) 0 4)) then nx [x0,x1,x2,x3,x4,x5,x6,x7,x8,x9,U,O,Y,.i (w64 (J.int+1)),V,Z,a0,a1]
 else nd (iR x9&&leI x9 40000) (bif ltI (O.rows.getD J.int.toNat [] 0).int V.int then nd (iR U&&leI U 40000) (nx [x0,x1,x2,x3,x4,x5,x6,x7,x8,bC x9 (O.rows.getD J.int.toNat [] 0),bC U (O.rows.getD J.int.toNat [] 0),O,Y,.i (w64 (J.int+1)),V,Z,a0,a1])
 else bif aA x1 (O.rows.getD J.int.toNat [] 0).int then nd (iR U&&leI U 40000) (nx [x0,x1,x2,x3,x4,x5,x6,x7,x8,bC x9 (O.rows.getD J.int.toNat [] 0),bC U (O.rows.getD J.int.toNat [] 0),O,Y,.i (w64 (J.int+1)),V,Z,a0,a1])
 else nx [x0,x1,x2,x3,x4,x5,x6,x7,x8,bC x9 (O.rows.getD J.int.toNat [] 0),U,O,Y,.i (w64 (J.int+1)),V,Z,a0,a1]))
 else ex 0 [x0,x1,x2,x3,x4,x5,x6,x7,x8,x9,U,O,Y,J,V,Z,a0,a1]:=by kernel_rfl
theorem Pz(N:Nat)(p q r:b8):aZ f4 vK N wq Tryz.f253 (.tup [.c (.own (0,0) true 3),.c (.own (0,1) true 3)]) [⟨sd (.sl 93),p⟩,⟨sd (.sl 3),q⟩,⟨ag cV,r⟩]=some (bo,
 (let J:=ba (ku N p q r) N [p 0,q 0,r 0,r 1,r 2,r 3,.i 0,.l [],.l [],.l [],.l [],p 0,.i (p 0:Int),.i 0,r 0,r 1,r 2,r 3]
  nd J.isSome (nd (J.code==2) (some (1,sub J.pay 9 2))))):=by kernel_rfl
def Nk(x r:b8):Bool:=cA (sub x 0 4) (sub r 0 4)
def Ty(h:D)(x r:b8):Bool:=cA (sub x 0 4) (sub r 0 4)&&(ltI (r 0).int (x 0).int||aA h (r 0).int)
def clA(l:D)(x:b8):D:=cC l (Nk x) l.rows.length
def clW(l h:D)(x:b8):D:=cC l (Ty h x) l.rows.length
def Ih:Ent:=(253,e3 (sd (.sl 93)) (sd (.sl 3)) (ag cV) fun p q r=>(⟨.tup [.c (.own (0,0) true 3),.c (.own (0,1) true 3)],[clA (p 0) r,clW (p 0) (q 0) r]⟩,leI (p 0) 40000))
theorem Pa:aw f4 Ih:=em fun p q r h=>aq (N:=(p 0).rows.length+1) (ks:=wq) (ap (fC ⟨Kp,fC ⟨jd,fC ⟨Ap,fN⟩⟩⟩)) Tryz.func253 fun hw=>by
 rw[Pz];have h:leI (p 0) 40000=true:=h;have V:(p 0:Int)<=40000:=j9 h;have e:=bM (L:=ku ((p 0).rows.length+1) p q r) (fun k => [p 0,q 0,r 0,r 1,r 2,r 3,.i 0,.l [],.l [],cC (p 0) (Nk r) k,cC (p 0) (Ty (q 0) r) k,p 0,.i (p 0:Int),.i (k:Int),r 0,r 1,r 2,r 3]) (p 0).rows.length 0 (fun k hk=>?_) ?_ (N:=(p 0).rows.length+1) (by omega)
 ·simp only[g9] at e;rw[show cC (p 0) (Nk r) 0=.l [] from rfl,show cC (p 0) (Ty (q 0) r) 0=.l [] from rfl] at e;rw[e];rfl
 ·show ku _ p q r [_,_,_,_,_,_,_,_,_,_,_,_,_,.i (k:Int),_,_,_,_]=_;rw[DE];have O:=(jy (p 0) (Nk r) k (by omega)).1;have J:=(jy (p 0) (Ty (q 0) r) k (by omega)).1;have hn:=fk (p 0) (Nk r) k;have U:=fk (p 0) (Ty (q 0) r) k;simp only[aE,cy hk,bn hk,g4,aF hk (show (p 0).rows.length<=9223372036854775807 by omega),aP,ro O,ro J,bb (show (cC (p 0) (Nk r) k:Int)<=40000 by omega),bb (show (cC (p 0) (Ty (q 0) r) k:Int)<=40000 by omega),v6];rw[cC,cC,Nk,Ty,show sub r 0 4 = [r 0,r 1,r 2,r 3] from rfl];cases cA [r 0,r 1,r 2,r 3] (sub (p 0 k) 0 4) <;> cases ltI (p 0 k 0).int (r 0).int <;> cases aA (q 0) (p 0 k 0).int <;> rfl
 ·show ku _ p q r [_,_,_,_,_,_,_,_,_,_,_,_,.i (p 0:Int),.i (p 0:Int),_,_,_,_]=_;rw[DE];simp only[aE,bF]
abbrev CF:=find [Xs]
abbrev BT:=[0,1,2,3]
theorem LD(N:Nat)(p q:b8):aZ f4 CF N BT Tryz.f254 rb [⟨ag cV,p⟩,⟨.one (.c (.cptr [.sl 3] 0)),q⟩]=some (bo,
 ob (aA (((q 0).rows.getD 0 []) 0) (p 0).int)):=by kernel_rfl
def oe(p q:b8):Bool:=
 aA (((q 0).rows.getD 0 []) 0) (p 0).int
def Dq:Ent:=(254,e2 (ag cV) (.one (.c (.cptr [.sl 3] 0))) fun p q=>(⟨rb,[.b (oe p [q 0])]⟩,true))
theorem wS:aw f4 Dq:=bj fun p q h=>aq (N:=0) (ks:=BT) (ap (fC ⟨Ap,fN⟩)) Tryz.func254 fun hw=>by
 rw[LD]
 try simp only[dd,de,db]
 rfl
abbrev ZU:=find [Dq]
abbrev Zl:=[0,1,4,5,7,8,9,16]
def EL(N:Nat)(p q:b8):b8->Out:=bc f4 ZU N Zl Tryz.f234 ri [⟨sd (.sl 93),p⟩,⟨.one (.c (.fn 254 [.cptr [.sl 3] 0])),q⟩] 0
theorem aal(N:Nat)(p q:b8)(O U Y V J:D):(EL N p q) [O,U,Y,V,J] =
 bif ltI J.int V.int then nd (al J.int O.rows.length) (bif oe (sub (O.rows.getD J.int.toNat []) 0 4) [U.rows.getD 0 [] 0] then some (1,[J])
 else nx [O,U,Y,V,.i (w64 (J.int+1))])
 else ex 0 [O,U,Y,V,J]:=by kernel_rfl
theorem aev(N:Nat)(p q:b8):aZ f4 ZU N Zl Tryz.f234 ri [⟨sd (.sl 93),p⟩,⟨.one (.c (.fn 254 [.cptr [.sl 3] 0])),q⟩]=some (bo,
 (let J:=ba (EL N p q) N [p 0,q 0,.i 0,.i (p 0:Int),.i 0]
  nd J.isSome (bif J.code==1 then some (1,J.pay)
  else nd (J.code==2) (oi (-1))))):=by kernel_rfl
def Aq(c:D)(r:b8):Bool:=oe r [c.rows.getD 0 [] 0]
def alg:Ent:=(234,e2 (sd (.sl 93)) (.one (.c (.fn 254 [.cptr [.sl 3] 0]))) fun p q=>(⟨ri,[.i (ixF (fun k=>Aq (q 0) (sub ((p 0).rows.getD k []) 0 4)) 0 (p 0).rows.length)]⟩,true))
theorem aeB:aw f4 alg:=bj fun p q h=>aq (N:=(p 0).rows.length+1) (ks:=Zl) (ap (fC ⟨wS,fN⟩)) Tryz.func234 fun hw=>by
 rw[aev];have U:=dY (hw ⟨sd (.sl 93),p⟩ (by simp));have e:=fK (L:=EL ((p 0).rows.length+1) p q) (fun k => [p 0,q 0,.i 0,.i (p 0:Int),.i (k:Int)]) (p 0).rows.length (fun k=>Aq (q 0) (sub (p 0 k) 0 4)) [p 0,q 0,.i 0,.i (p 0:Int),.i (p 0:Int)] (fun k hk=>?_) ?_ (p 0).rows.length 0 ((p 0).rows.length+1) (by omega) (by omega)
 ·simp only[g9] at e;rw[e];have J:=fx (fun k=>Aq (q 0) (sub (p 0 k) 0 4)) (p 0).rows.length 0;cases O:decide (ixF (fun k=>Aq (q 0) (sub (p 0 k) 0 4)) 0 (p 0).rows.length>=0)
  ·rw[J O];rfl
  ·rfl
 ·show EL _ p q [_,_,_,_,.i (k:Int)]=_;rw[aal];simp only[aE,cy hk,bn hk,aF hk U,g4];unfold Aq;cases oe (sub (p 0 k) 0 4) [q 0 0 0] <;> rfl
 ·show EL _ p q [_,_,_,.i (p 0:Int),.i (p 0:Int)]=_;rw[aal];simp only[aE,bF]
abbrev GY:=find [sZ,mM,eI,AK]
abbrev GN:=[0,1,2,3,4,8,10]
theorem OP(N:Nat)(p q r s t:b8):aZ f4 GY N GN Tryz.f203 rb [⟨sd (.sl 93),p⟩,⟨sd (.sl 3),q⟩,⟨ri,r⟩,⟨ag ay,s⟩,⟨ri,t⟩]=some (bo,
 bif aR (p 0) then bif leI (q 0) 60 then bif inB (r 0).int 1 60 then bif ar (sub s 0 2) then ob (lL [t 0])
 else ob false
 else ob false
 else ob false
 else ob false):=by kernel_rfl
def bv(p q r s t:b8):Bool:=
 bif aR (p 0) then bif leI (q 0) 60 then bif inB (r 0).int 1 60 then bif ar (sub s 0 2) then lL [t 0]
 else false
 else false
 else false
 else false
def xL:Ent:=(203,e5 (sd (.sl 93)) (sd (.sl 3)) ri (ag ay) ri fun p q r s t=>(⟨rb,[.b (bv [p 0] [q 0] [r 0] s [t 0])]⟩,true))
theorem yZ:aw f4 xL:=aac fun p q r s t h=>aq (N:=0) (ks:=GN) (ap (fC ⟨tc,fC ⟨jo,fC ⟨dy,fC ⟨Ej,fN⟩⟩⟩⟩)) Tryz.func203 fun hw=>by
 rw[OP]
 try simp only[dd,de,db]
 rfl
abbrev Ba:=find [vO,yt]
abbrev Aw:=[0,1,3,4,5,6,11,19,4000005]
def mI(N:Nat)(p q:b8):b8->Out:=bc f4 Ba N Aw Tryz.f205 (.one (.c (.d (.sl 3)))) [⟨sd (.sl 93),p⟩,⟨ag cV,q⟩] 0
theorem Hd(N:Nat)(p q:b8)(J x1 x2 x3 x4 x5 x6 x7 O Z Y V U:D):(mI N p q) [J,x1,x2,x3,x4,x5,x6,x7,O,Z,Y,V,U] =
 bif ltI O.int J then nd (al O.int J.rows.length) (bif kF (sub (J.rows.getD O.int.toNat []) 0 4) [Z,Y,V,U] then nd (al O.int J.rows.length) (nd (leI x7 1000000000) (nx [J,x1,x2,x3,x4,x5,x6,bC x7 (J.rows.getD O.int.toNat [] 0),.i (w64 (O.int+1)),Z,Y,V,U]))
 else nx [J,x1,x2,x3,x4,x5,x6,x7,.i (w64 (O.int+1)),Z,Y,V,U])
 else ex 0 [J,x1,x2,x3,x4,x5,x6,x7,O,Z,Y,V,U]:=by kernel_rfl
theorem RX(N:Nat)(p q:b8):aZ f4 Ba N Aw Tryz.f205 (.one (.c (.d (.sl 3)))) [⟨sd (.sl 93),p⟩,⟨ag cV,q⟩]=some (bo,
 (let J:=ba (mI N p q) N [p 0,q 0,q 1,q 2,q 3,.i 0,.l [],.l [],.i 0,q 0,q 1,q 2,q 3]
  nd J.isSome (nd (J.code==2) (some (1,[J.pay 7]))))):=by kernel_rfl
def PK(x r:b8):Bool:=kF (sub r 0 4) (sub x 0 4)
def dN(l:D)(x:b8):D:=cC l (PK x) l.rows.length
def AG:Ent:=(205,e2 (sd (.sl 93)) (ag cV) fun p q=>(⟨.one (.c (.d (.sl 3))),[dN (p 0) q]⟩,leI (p 0) 40000))
theorem EB:aw f4 AG:=bj fun p q h=>aq (N:=(p 0).rows.length+1) (ks:=Aw) (ap (fC ⟨zv,fC ⟨xT,fN⟩⟩)) Tryz.func205 fun hw=>by
 rw[RX];have h:leI (p 0) 40000=true:=h;have J:(p 0:Int)<=40000:=j9 h;have e:=bM (L:=mI ((p 0).rows.length+1) p q) (fun k => [p 0,q 0,q 1,q 2,q 3,.i 0,.l [],cC (p 0) (PK q) k,.i (k:Int),q 0,q 1,q 2,q 3]) (p 0).rows.length 0 (fun k hk=>?_) ?_ (N:=(p 0).rows.length+1) (by omega)
 ·simp only[g9] at e;rw[show cC (p 0) (PK q) 0=.l [] from rfl] at e;rw[e];rfl
 ·show mI _ p q [_,_,_,_,_,_,_,_,.i (k:Int),_,_,_,_]=_;rw[Hd];have hn:=fk (p 0) (PK q) k;simp only[aE,cy hk,bn hk,g4,aF hk (show (p 0).rows.length<=9223372036854775807 by omega),aP,bb (show (cC (p 0) (PK q) k:Int)<=1000000000 by omega)];rw[cC,PK,show sub q 0 4 = [q 0,q 1,q 2,q 3] from rfl];cases kF (sub (p 0 k) 0 4) [q 0,q 1,q 2,q 3] <;> rfl
 ·show mI _ p q [_,_,_,_,_,_,_,_,.i (p 0:Int),_,_,_,_]=_;rw[Hd];simp only[aE,bF]
abbrev qQ:=find [xL,mT,AG,lQ]
abbrev rA:=[0,1,2,3,4,8,10,11,12,13,28,42,58]
def ik(N:Nat)(p q r s t:b8):b8->Out:=bc f4 qQ N rA Tryz.f204 (.one (.c (.d (.sl 3)))) [⟨sd (.sl 93),p⟩,⟨sd (.sl 3),q⟩,⟨ri,r⟩,⟨ag ay,s⟩,⟨ri,t⟩] 0
theorem wv(N:Nat)(p q r s t:b8)(x0 x1 Z x3 x4 x5 x6 x7 Y x9 O J U V:D):(ik N p q r s t) [x0,x1,Z,x3,x4,x5,x6,x7,Y,x9,O,J,U,V] =
 bif ltI J.int O then nd (al J.int O.rows.length) (bif ltI (O.rows.getD J.int.toNat [] 0).int Z.int then nd (al J.int O.rows.length) (nd (bq (Y.rows ++ [[O.rows.getD J.int.toNat [] 0]])&&true) (nx [x0,x1,Z,x3,x4,x5,x6,x7,.l (Y.rows ++ [[O.rows.getD J.int.toNat [] 0]]),x9,O,.i (w64 (J.int+1)),U,V]))
 else nd (al J.int O.rows.length) (bif aA x1 (O.rows.getD J.int.toNat [] 0).int then nd (al J.int O.rows.length) (nd (bq (Y.rows ++ [[O.rows.getD J.int.toNat [] 0]])&&true) (nx [x0,x1,Z,x3,x4,x5,x6,x7,.l (Y.rows ++ [[O.rows.getD J.int.toNat [] 0]]),x9,O,.i (w64 (J.int+1)),U,V]))
 else nx [x0,x1,Z,x3,x4,x5,x6,x7,Y,x9,O,.i (w64 (J.int+1)),U,V]))
 else ex 0 [x0,x1,Z,x3,x4,x5,x6,x7,Y,x9,O,J,U,V]:=by kernel_rfl
theorem Iz(N:Nat)(p q r s t:b8):aZ f4 qQ N rA Tryz.f204 (.one (.c (.d (.sl 3)))) [⟨sd (.sl 93),p⟩,⟨sd (.sl 3),q⟩,⟨ri,r⟩,⟨ag ay,s⟩,⟨ri,t⟩]=some (bo,
 bif !(bv [p 0] [q 0] [r 0] (sub s 0 2) [t 0]) then some (1,[.l []])
 else bif holds (p 0) (r 0) (sub s 0 2) (t 0) then some (1,[.l []])
 else nd (leI (p 0) 40000) ((let J:=ba (ik N p q r s t) N [p 0,q 0,r 0,s 0,s 1,t 0,.i 0,.l [],.l [],.b (holds (p 0) (r 0) (sub s 0 2) (t 0)),dN (p 0) [r 0,s 0,s 1,t 0],.i 0,s 0,s 1]
  nd J.isSome (nd (J.code==2) (some (1,[J.pay 8])))))):=by kernel_rfl
def nK(f:D)(n:Int)(h:D):Nat->List b8
 | 0 => []
 | k+1=>bif ltI (f.rows.getD k [] 0).int n||aA h (f.rows.getD k [] 0).int then nK f n h k ++ [[f.rows.getD k [] 0]] else nK f n h k
theorem Rl(f:D)(n:Int)(h:D):∀k,(nK f n h k).length<=k
 | 0=>g8 _
 | k+1=>by
  have:=Rl f n h k;rw[nK];cases ltI (f k 0).int n||aA h (f k 0).int
  ·show (nK f n h k).length<=_;omega
  ·show (nK f n h k ++ [[f k 0]]).length<=_;rw[i5];simp;omega
def pD(l h n:D)(a:b8)(m:D):D:=
 bif !(bv [l] [h] [n] (sub a 0 2) [m]) then .l []
 else bif holds l n (sub a 0 2) m then .l []
 else .l (nK (dN l [n,a 0,a 1,m]) n.int h (dN l [n,a 0,a 1,m]).rows.length)
theorem yf{l h n:D}{a:b8}{m:D}(e:bv [l] [h] [n] a [m]=true):l.rows.length<=40:=by
 have:aR l=true:=by
  unfold bv at e;cases hk:aR l with
  | true=>rfl
  | false=>rw[show gd [l] 0=l from rfl,hk] at e;exact e
 exact ((bU _).1 this).2.2
def zB:Ent:=(204,e5 (sd (.sl 93)) (sd (.sl 3)) ri (ag ay) ri fun p q r s t=>(⟨.one (.c (.d (.sl 3))),[pD (p 0) (q 0) (r 0) s (t 0)]⟩,true))
theorem IB:aw f4 zB:=aac fun p q r s t h=>aq (N:=(dN (p 0) [r 0,s 0,s 1,t 0]).rows.length+1) (ks:=rA) (ap (fC ⟨yZ,fC ⟨mc,fC ⟨EB,fC ⟨jJ,fN⟩⟩⟩⟩)) Tryz.func204 fun hw=>by
 rw[Iz];cases J:bv [p 0] [q 0] [r 0] (sub s 0 2) [t 0] with
 | false=>simp only[pD,J];rfl
 | true =>
  have Y:=yf J;cases O:holds (p 0) (r 0) (sub s 0 2) (t 0) with
  | true=>simp only[pD,J,O];rfl
  | false =>
   have V:=fk (p 0) (PK [r 0,s 0,s 1,t 0]) (p 0).rows.length;have V:(dN (p 0) [r 0,s 0,s 1,t 0]).rows.length<=40:=by show (cC _ _ _).rows.length<=_;omega
   have e:=bM (L:=ik ((dN (p 0) [r 0,s 0,s 1,t 0]).rows.length+1) p q r s t) (fun k => [p 0,q 0,r 0,s 0,s 1,t 0,.i 0,.l [],.l (nK (dN (p 0) [r 0,s 0,s 1,t 0]) (r 0).int (q 0) k),.b false,dN (p 0) [r 0,s 0,s 1,t 0],.i (k:Int),s 0,s 1]) (dN (p 0) [r 0,s 0,s 1,t 0]).rows.length 0 (fun k hk=>?_) ?_ (N:=(dN (p 0) [r 0,s 0,s 1,t 0]).rows.length+1) (by omega)
   ·simp only[g9] at e;rw[show nK (dN (p 0) [r 0,s 0,s 1,t 0]) (r 0).int (q 0) 0 = [] from rfl] at e;simp only[pD,J,O,l8,f5];rw[e,bb (show (p 0:Int)<=40000 by omega)];rfl
   ·show ik _ p q r s t [_,_,_,_,_,_,_,_,_,_,_,.i (k:Int),_,_]=_;rw[wv];have hn:=Rl (dN (p 0) [r 0,s 0,s 1,t 0]) (r 0).int (q 0) k;have U:∀y:b8,bq (nK (dN (p 0) [r 0,s 0,s 1,t 0]) (r 0).int (q 0) k ++ [y])=true:=fun y=>bL (by rw[i5];simp;omega)
    simp only[aE,bp,cy hk,bn hk,g4,aF hk (show (dN (p 0) [r 0,s 0,s 1,t 0]).rows.length<=9223372036854775807 by omega),aP,U,v6];rw[nK];cases ltI (dN (p 0) [r 0,s 0,s 1,t 0] k 0).int (r 0).int <;> cases aA (q 0) (dN (p 0) [r 0,s 0,s 1,t 0] k 0).int <;> rfl
   ·show ik _ p q r s t [_,_,_,_,_,_,_,_,_,_,_,.i (dN (p 0) [r 0,s 0,s 1,t 0]:Int),_,_]=_;rw[wv];simp only[aE,bF]
abbrev qR:=find []
theorem Fx:av f4 qR:=ap (fN)
abbrev qW:=[0,1,2,3,4,10]
def iq(N:Nat)(p:b8):b8->Out:=bc f4 qR N qW Tryz.f100 (.one (.c (.d (.sl 3)))) [⟨ag aK,p⟩] 0
theorem wK(N:Nat)(p:b8)(x0 x1 x2 x3 x4 x5 x6 x7 x8 x9 a1 U J a0 a4 Z a3 a5 O V a2 Y:D):(iq N p) [x0,x1,x2,x3,x4,x5,x6,x7,x8,x9,a1,U,J,a0,a4,Z,a3,a5,O,V,a2,Y] =
 bif ltI J.int O then nd (al J.int O.rows.length) (nd (bq (U.rows ++ [[O.rows.getD J.int.toNat [] 0]])&&true) (nx [x0,x1,x2,x3,x4,x5,x6,x7,x8,x9,a1,.l (U.rows ++ [[O.rows.getD J.int.toNat [] 0]]),.i (w64 (J.int+1)),a0,a4,Z,a3,a5,O,V,a2,Y]))
 else ex 0 [x0,x1,x2,x3,x4,x5,x6,x7,x8,x9,a1,U,J,a0,a4,Z,a3,a5,O,V,a2,Y]:=by kernel_rfl
theorem Jw(N:Nat)(p:b8):aZ f4 qR N qW Tryz.f100 (.one (.c (.d (.sl 3)))) [⟨ag aK,p⟩]=some (bo,
 (let J:=ba (iq N p) N [p 0,p 1,p 2,p 3,p 4,p 5,p 6,p 7,p 8,.i 0,.l [],.l [],.i 0,p 0,p 1,p 2,p 3,p 4,p 5,p 6,p 7,p 8]
  nd J.isSome (nd (J.code==2) (some (1,[J.pay 11]))))):=by kernel_rfl
def qT:Ent:=(100,e1 (ag aK) fun p=>(⟨.one (.c (.d (.sl 3))),[aB (p 5)]⟩,leI (p 5) 1000000000))
theorem uK:aw f4 qT:=ck fun p h=>aq (N:=(gd p 5).rows.length+1) (ks:=qW) Fx Tryz.func100 fun hw=>by
 rw[Jw];have h:leI ((gd p 5).rows.length:Int) 1000000000=true:=h;simp only[leI,f7] at h;have e:=bM (L:=iq ((gd p 5).rows.length+1) p) (fun k => [gd p 0,gd p 1,gd p 2,gd p 3,gd p 4,gd p 5,gd p 6,gd p 7,gd p 8,.i 0,.l [],.l (((gd p 5).rows.take k).map fun r => [gd r 0]),.i (k:Int),gd p 0,gd p 1,gd p 2,gd p 3,gd p 4,gd p 5,gd p 6,gd p 7,gd p 8]) (gd p 5).rows.length 0 (fun k hk=>?_) ?_ (N:=(gd p 5).rows.length+1) (by omega)
 ·simp only[g9,List.take_zero,H5,C3] at e;rw[e];rfl
 ·show iq _ p [_,_,_,_,_,_,_,_,_,_,_,.l (((gd p 5).rows.take k).map fun r => [gd r 0]),.i (k:Int),_,_,_,_,_,_,_,_,_]=_;rw[wK];have O:((gd p 5).rows.take (k+1)).map (fun r => [gd r 0])=((gd p 5).rows.take k).map (fun r => [gd r 0]) ++ [[gd ((gd p 5).rows.getD k []) 0]]:=by rw[List.take_succ_eq_append_getElem hk,u9,f9,g6 hk];rfl
  have J:bq (((gd p 5).rows.take k).map (fun r => [gd r 0]) ++ [[gd ((gd p 5).rows.getD k []) 0]])=true:=bL (by simp;omega);simp only[aE,bp,cy hk,bn hk,aF hk (show (gd p 5).rows.length<=9223372036854775807 from by omega),g4];rw[J,O];rfl
 ·show iq _ p [_,_,_,_,_,_,_,_,_,_,_,_,.i ((gd p 5).rows.length:Int),_,_,_,_,_,_,_,_,_]=_;rw[wK];simp only[aE,bF]
abbrev Mo:=find []
theorem Ow:av f4 Mo:=ap (fN)
abbrev Lw:=[0,2,3,4,6]
theorem TZ(N:Nat)(p:b8):aZ f4 Mo N Lw Tryz.f101 ri [⟨ri,p⟩]=some (bo,
 bif (p 0).int==2 then oi 5
 else bif (p 0).int==3 then oi 6
 else oi 0):=by kernel_rfl
def cG(p:b8):Int:=
 bif (p 0).int==2 then 5
 else bif (p 0).int==3 then 6
 else 0
def AU:Ent:=(101,e1 ri fun p=>(⟨ri,[.i (cG [p 0])]⟩,true))
theorem DL:aw f4 AU:=ck fun p h=>aq (N:=0) (ks:=Lw) Ow Tryz.func101 fun hw=>by
 rw[TZ]
 try simp only[dd,de,db]
 rfl
set_option maxRecDepth 100000
set_option maxHeartbeats 4000000
def lA(x c:D):D:=.l (eC (fun r=>Aq c (sub r 0 4)) x.rows)
def Qx:Ent:=(164,e2 (sd (.sl 93)) (.one (.c (.fn 254 [.cptr [.sl 3] 0]))) fun p q=>(⟨.tup [.agg [.any]],[lA (p 0) (q 0)]⟩,true))
theorem UB:aw f4 Qx:=bj fun p q h=>by
 refine aQ.ofK rfl ⟨cN Tryz.func164 (by kernel_rfl) (by kernel_rfl),fun e x rest row V a0 b1 w prot u B vs hO hB a6 a3 b3=>?_⟩;injection V with V hre
 injection V with V hp
 injection V with V
 injection V with V
 injection V with V
 injection V with V
 subst V hre;have hx:p 0=x:=by rw[hp];rfl
 rw[show bk f4 93=some (jF 4) from by kernel_rfl] at a0;injection a0 with a0
 subst a0;obtain⟨f0,a8,Y,b0,a4,a7⟩:∃f0,vs = #[f0]/\∃Y:Array Value,f0=.func (.func 254) #[] Y/\Y.size=1/\∀J,aI w J B->(∃z,Y[0]?=some z/\fU f4 J (g0 J.heap.size prot) J.heap.size [.sl 3] 0 (q 0 0 0) z):=by
  have hg:=fun J (hC:aI w J B)=>(a3 J hC).2 0 _ rfl
  obtain⟨f0,h1,Y,Z,h3,h4⟩:=hg w (aI.refl w B);refine⟨f0,ml (a3 w (aI.refl w B)) [f0] rfl fun j t u' U hu=>?_,Y,Z,h3,fun J hC=>?_⟩
  ·match j,U with
   | 0,_=>rw[h1] at hu;injection hu with hu;rw[<- hu];rfl
  ·obtain⟨f1,k1,fb,k2,k3,k4⟩:=hg J hC;rw[h1] at k1;injection k1 with k1;subst k1;rw[Z] at k2;injection k2 with _ _ k2;subst k2;exact k4 0 _ rfl
 subst a8 b0
 let C:b8->Bool:=fun r=>Aq (q 0) (sub r 0 4)
 have a2:∀(J:World) (a1:Nat->Nat),(∀b o,o<prot b->o<a1 b)->aI w J B->∃z,Y[0]?=some z/\fU f4 J (g0 J.heap.size a1) J.heap.size [.sl 3] 0 (q 0 0 0) z:=by intro J a1 hP hC;obtain⟨z,h1,b,o,Z,h3,h4⟩:=a7 J hC;refine⟨z,h1,b,o,Z,h3,fun j s hs=>?_⟩;obtain⟨u',k1,k2⟩:=h4 j s hs;exact⟨u',k1,k2.mono fun b o _ h1 Z=>⟨Z,hP b o h1⟩⟩
 have b2:Y.toList.length=1:=by simpa using a4
 have a5:=oQ hO 254 Y C (fun r=>rfl) (cN Tryz.func254) ?_ ?_
 ·show Calls _ _ #[u,.func (.func 254) #[] Y] w fun ex w'=>∃v' B',ex=.returned v'/\aI w w' B/\dg w' _ _ (eC C (p 0).rows) v' B'/\_
  rw[hx];exact a5
 ·-- the search
  have hs:=aeB [⟨sd (.sl 93),[x]⟩,⟨.one (.c (.fn 254 [.cptr [.sl 3] 0])),q⟩] ⟨ri,[.i (ixF (fun k=>C (x k)) 0 x.rows.length)]⟩ rfl;have hs:=(hs.n rfl).2 w (fun b=>if B=some b then x.rows.length*4 else prot b) #[u,.func (.func 254) #[] Y] ⟨rfl,fun j t U=>?_⟩ (fun b hb=>?_)
  ·refine hs.mono ?_;rintro ex w' ⟨v',g',rfl,hR⟩;have hv:VD f4 w' g'.prot (.int .i64) (.i (ixF (fun k=>C (x k)) 0 x.rows.length)) v':=hR.val;cases hv;exact⟨rfl,hR.below⟩
  ·match j,U with
   | 0,U =>
    injection U with U;subst U
    refine⟨u,rfl,?_⟩;have:=yv (P:=f4) (z:=x) (show bk f4 93=some (jF 4) from by kernel_rfl) hO;exact this.mono fun b o z h1 Z=>⟨Z,by
     change o<(if B=some b then x.rows.length*4 else 0) at h1;show o<(if B=some b then x.rows.length*4 else prot b)
     split at h1
     ·rw[j8 ‹_›];exact h1
     ·omega⟩
   | 1,U =>
    injection U with U;subst U
    refine⟨_,rfl,Y,rfl,a4,fun j c hc=>?_⟩
    match j,hc with
    | 0,hc =>
     injection hc with hc;subst hc
     exact a2 w _ (fun b o ho=>by show o<(if B=some b then x.rows.length*4 else prot b);rw[i7 (fun e=>by rw[hB b e] at ho;omega)];exact ho) (aI.refl w B)
  ·show (if B=some b then _ else prot b)=0;rw[i7 (fun e=>by have:=oI hO b e;omega)];exact a6 b hb
 ·intro J x0 x1 x2 x3 hC;have hs:=wS [⟨ag cV,[.i x0,.i x1,.i x2,.i x3]⟩,⟨.one (.c (.cptr [.sl 3] 0)),[q 0 0 0]⟩] ⟨rb,[.b (C [.i x0,.i x1,.i x2,.i x3])]⟩ rfl;have hs:=(hs.n rfl).2 J prot (#[.agg #[.int .i64 x0,.int .i64 x1,.int .i64 x2,.int .i64 x3]]++Y) ⟨by rw[A9,a4];rfl,fun j t U=>?_⟩ (fun b hb=>a6 b (o8 hC.size hb))
  ·refine hs.mono ?_;rintro ex w' ⟨v',g',rfl,hR⟩;have hv:VD f4 w' g'.prot .bool (.b (C [.i x0,.i x1,.i x2,.i x3])) v':=hR.val;cases hv;exact⟨rfl,hR.below⟩
  ·match j,U with
   | 0,U =>
    injection U with U;subst U
    refine⟨.agg #[.int .i64 x0,.int .i64 x1,.int .i64 x2,.int .i64 x3],r9 (xs:= #[Value.agg #[.int .i64 x0,.int .i64 x1,.int .i64 x2,.int .i64 x3]]) (i:=0) (by show 0<1;omega),#[.int .i64 x0,.int .i64 x1,.int .i64 x2,.int .i64 x3],rfl,rfl,fun j cc O=>?_⟩
    match j,O with
    | 0,O=>injection O with O;subst O;exact⟨_,rfl,.int .i64 (.i x0)⟩
    | 1,O=>injection O with O;subst O;exact⟨_,rfl,.int .i64 (.i x1)⟩
    | 2,O=>injection O with O;subst O;exact⟨_,rfl,.int .i64 (.i x2)⟩
    | 3,O=>injection O with O;subst O;exact⟨_,rfl,.int .i64 (.i x3)⟩
   | 1,U =>
    injection U with U;subst U
    obtain⟨z,h1,Z⟩:=a2 J prot (fun _ _ h=>h) hC;refine⟨z,?_,Z⟩;exact (A4 (xs:= #[Value.agg #[.int .i64 x0,.int .i64 x1,.int .i64 x2,.int .i64 x3]]) (i:=1) (by show 1<=1;omega)).trans h1
set_option maxRecDepth 4096
set_option maxHeartbeats 1000000
abbrev wc:=find []
theorem Oq:av f4 wc:=ap (fN)
abbrev wD:=[0,1,2,6,7,8,13,24]
def kW(N:Nat)(p q r:b8):b8->Out:=bc f4 wc N wD Tryz.f144 (.one (.c (.own (0,0) true 93))) [⟨sd (.sl 93),p⟩,⟨ri,q⟩,⟨rb,r⟩] 0
theorem Df(N:Nat)(p q r:b8)(J V Y Z U O:D):(kW N p q r) [J,V,Y,Z,U,O] =
 bif ltI O.int J then nd (al O.int J.rows.length) (bif ((J.rows.getD O.int.toNat [] 0).int==V.int)==Y.bool then nd (al O.int J.rows.length) (nd (bq (U.rows ++ [sub (J.rows.getD O.int.toNat []) 0 4])&&true) (nx [J,V,Y,Z,.l (U.rows ++ [sub (J.rows.getD O.int.toNat []) 0 4]),.i (w64 (O.int+1))]))
 else nx [J,V,Y,Z,U,.i (w64 (O.int+1))])
 else ex 0 [J,V,Y,Z,U,O]:=by kernel_rfl
theorem Pg(N:Nat)(p q r:b8):aZ f4 wc N wD Tryz.f144 (.one (.c (.own (0,0) true 93))) [⟨sd (.sl 93),p⟩,⟨ri,q⟩,⟨rb,r⟩]=some (bo,
 (let J:=ba (kW N p q r) N [p 0,q 0,r 0,.l [],.l [],.i 0]
  nd J.isSome (nd (J.code==2) (some (1,[J.pay 4]))))):=by kernel_rfl
def Hb:Ent:=(144,e3 (sd (.sl 93)) ri rb fun p q r=>(⟨.one (.c (.own (0,0) true 93)),[iX (p 0) (q 0).int (r 0).bool]⟩,leI (p 0) 1000000000))
theorem PO:aw f4 Hb:=em fun p q r h=>aq (N:=(p 0).rows.length+1) (ks:=wD) Oq Tryz.func144 fun hw=>by
 rw[Pg];have h:leI (p 0) 1000000000=true:=h;have hn:(p 0:Int)<=1000000000:=j9 h;have e:=bM (L:=kW ((p 0).rows.length+1) p q r) (fun k => [p 0,q 0,r 0,.l [],.l (kpL (fun k=>((p 0 k 0).int==(q 0).int)==(r 0).bool) (fun k=>sub (p 0 k) 0 4) k),.i (k:Int)]) (p 0).rows.length 0 (fun k hk=>?_) ?_ (N:=(p 0).rows.length+1) (by omega)
 ·simp only[g9] at e;rw[kpL] at e;rw[e];rfl
 ·show kW _ p q r [_,_,_,_,_,.i (k:Int)]=_;rw[Df];have J:=fX (fun k=>((p 0 k 0).int==(q 0).int)==(r 0).bool) (fun k=>sub (p 0 k) 0 4) k;simp only[aE,bp,cy hk,bn hk,g4,aF hk (by omega),bL (show (kpL (fun k=>((p 0 k 0).int==(q 0).int)==(r 0).bool) (fun k=>sub (p 0 k) 0 4) k ++ [sub (p 0 k) 0 4]).length<=4294967296 by rw[i5];show _+1<=_;omega)];simp only[kpL];cases ((p 0 k 0).int==(q 0).int)==(r 0).bool <;> rfl
 ·show kW _ p q r [_,_,_,_,_,.i (p 0:Int)]=_;rw[Df];simp only[aE,bF]
set_option maxRecDepth 100000
set_option maxHeartbeats 4000000
theorem ajL{P:Program}{prot:Nat->Nat}{w:World}{q r:b8}{U:Array Value}(h:ka P prot w [⟨ri,q⟩,⟨rb,r⟩] U):U = #[.int .i64 (q 0).int,.bool (r 0).bool]:=by
 refine ml h [.int .i64 (q 0).int,.bool (r 0).bool] rfl fun j t u h1 V=>?_
 obtain⟨Y,J,O⟩:=h.2 j t h1;rw[V] at J;injection J with J;subst J
 match j,h1 with
 | 0,h1 =>
  injection h1 with h1;subst h1
  have:=tM (k:=.i64) (show VD P w prot (.int .i64) (q 0) u from O);rw[this];rfl
 | 1,h1 =>
  injection h1 with h1;subst h1
  have O:VD P w prot .bool (r 0) u:=O;cases O;rfl
def HU:Ent:=(144,e3 (sd (.sl 93)) ri rb fun p q r=>(⟨.tup [.agg [.any]],[iX (p 0) (q 0).int (r 0).bool]⟩,leI (p 0) 1000000000))
theorem Pu:aw f4 HU:=em fun p q r h=>by
 have h:leI (p 0) 1000000000=true:=h;refine aQ.ofK rfl ⟨cN Tryz.func144 (by kernel_rfl) (by kernel_rfl),fun e x rest row J U a1 w prot u B vs hO hB Z Y a2=>?_⟩;injection J with J hre
 injection J with J hp
 injection J with J
 injection J with J
 injection J with J
 injection J with J
 subst J hp hre;rw[rT] at U;injection U with U
 subst U;have a0:=ajL (Y w (aI.refl w B));subst a0;obtain⟨n,hn⟩:=aaa prot rT hO;have e0:Hb.2 [⟨sd (.sl 93),[x]⟩,⟨ri,q⟩,⟨rb,r⟩]=some (⟨.one (.c (.own (0,0) true 93)),[iX x (q 0).int (r 0).bool]⟩,leI x 1000000000):=by kernel_rfl
 have h:leI x 1000000000=true:=h;rw[h] at e0;have s:=(PO _ _ e0).n rfl;refine (s.2 w (fun b=>if B=some b then n else prot b) #[u,.int .i64 (q 0).int,.bool (r 0).bool] ⟨rfl,fun j t O=>?_⟩ fun b V=>?_).mono ?_
 ·match j,O with
  | 0,O =>
   injection O with O
   subst O;exact⟨u,rfl,hn⟩
  | 1,O =>
   injection O with O
   subst O;exact⟨_,rfl,.int .i64 _⟩
  | 2,O =>
   injection O with O
   subst O;exact⟨_,rfl,.bool _⟩
 ·rcases hO with⟨rfl,_⟩ | ⟨b',cap,arr,rfl,_,_,_,hh,_⟩
  ·rw[i7 (by simp)];exact Z b V
  ·have:=aT hh;rw[i7 (by intro h;injection h with h;omega)];exact Z b V
 ·rintro ex w' ⟨v,g',rfl,hr⟩;obtain⟨B',k1,k2⟩:=VJ rT hr;exact⟨v,B',rfl,.of_below B hr.below,k1,fun b V=>.inr (k2 b V)⟩
set_option maxRecDepth 4096
set_option maxHeartbeats 1000000
abbrev NS:=find [lM,uH,fQ,ya,mt,oA,Ih,Qx,pu]
abbrev KG:=[0,1,2,3,4,8,10,11,12,13,14,15,16,17,40,47,65,73]
def kS(N:Nat)(p q r s t:b8):List b8:= [[.i 0],[clA (p 0) [r 0,s 0,s 1,t 0]],[.l ((lA (.l (p 0).rows) (.l [[.l [[clA (p 0) [r 0,s 0,s 1,t 0]]]]])).rows ++ [[r 0,s 0,s 1,t 0]])],[clA (p 0) [r 0,s 0,s 1,t 0]],[.l ((lA (.l (p 0).rows) (.l [[.l [[clA (p 0) [r 0,s 0,s 1,t 0]]]]])).rows ++ [[r 0,s 0,s 1,t 0]])],[.l [[r 0,s 0,s 1,t 0]]],[r 0,s 0,s 1,t 0],[lA (.l (p 0).rows) (.l [[.l [[clA (p 0) [r 0,s 0,s 1,t 0]]]]])],p,q,r,s,t,[.i 0],[.b (!(cO [t 0]))],[.l (p 0).rows],[.b (bQ (p 0) (r 0) (sub s 0 2) (t 0))],[.i 0],[.i 0],[clW (p 0) (q 0) [r 0,s 0,s 1,t 0]],[.b (ltI 0 (clW (p 0) (q 0) [r 0,s 0,s 1,t 0]))],[lA (.l (p 0).rows) (.l [[.l [[clA (p 0) [r 0,s 0,s 1,t 0]]]]])],[.b ((lA (.l (p 0).rows) (.l [[.l [[clA (p 0) [r 0,s 0,s 1,t 0]]]]]):Int)==40)],[s 0,s 1],[r 0,s 0,s 1,t 0],[clA (p 0) [r 0,s 0,s 1,t 0]]]
theorem SZ(N:Nat)(p q r s t:b8):aZ f4 NS N KG Tryz.f213 (.tup [.c (.own (0,0) true 93),.c (.own (0,1) true 3),.c (.d si)]) [⟨sd (.sl 93),p⟩,⟨sd (.sl 3),q⟩,⟨ri,r⟩,⟨ag ay,s⟩,⟨ri,t⟩]=some (bo,
 bif !(aR (p 0)) then some (1,[.l [],.l [],.i 1])
 else bif ltI 60 (q 0) then some (1,[.l [],.l [],.i 1])
 else bif !(inB (r 0).int 1 60) then some (1,[.l [],.l [],.i 1])
 else bif !(ar (sub s 0 2)) then some (1,[.l [],.l [],.i 1])
 else bif !(cO [t 0]) then some (1,[.l [],.l [],.i 1])
 else nd (leI (p 0) 2000000) (bif bQ (p 0) (r 0) (sub s 0 2) (t 0) then some (1,[.l (p 0).rows,.l [],.i 0])
 else nd (leI (p 0) 40000) (bif ltI 0 (clW (p 0) (q 0) [r 0,s 0,s 1,t 0]) then some (1,[.l (p 0).rows,.l [],.i 2])
 else nd (leI (p 0) 2000000) (bif (lA (.l (p 0).rows) (.l [[.l [[clA (p 0) [r 0,s 0,s 1,t 0]]]]]):Int)==40 then some (1,[.l (p 0).rows,.l [],.i 3])
 else nd ((bq ((lA (.l (p 0).rows) (.l [[.l [[clA (p 0) [r 0,s 0,s 1,t 0]]]]])).rows ++ [[r 0,s 0,s 1,t 0]])&&true)&&true) (nd (((bq ((lA (.l (p 0).rows) (.l [[.l [[clA (p 0) [r 0,s 0,s 1,t 0]]]]])).rows ++ [[r 0,s 0,s 1,t 0]])&&true)&&true)&&(ec (kS N p q r s t) (kS N p q r s t))) (nd (((bq ((lA (.l (p 0).rows) (.l [[.l [[clA (p 0) [r 0,s 0,s 1,t 0]]]]])).rows ++ [[r 0,s 0,s 1,t 0]])&&true)&&true)&&(ec (kS N p q r s t) (kS N p q r s t))) (some (1,[.l ((lA (.l (p 0).rows) (.l [[.l [[clA (p 0) [r 0,s 0,s 1,t 0]]]]])).rows ++ [[r 0,s 0,s 1,t 0]]),clA (p 0) [r 0,s 0,s 1,t 0],.i 0])))))))):=by kernel_rfl
def bD(n:D)(a:b8)(m:D):b8:= [n,a 0,a 1,m]
def cf(l:D)(x:b8):D:=lA (.l l.rows) (.l [[.l [[clA l x]]]])
def cd(l h n:D)(a:b8)(m:D):b8:=
 bif !(bv [l] [h] [n] (sub a 0 2) [m]) then[.l [],.l [],.i 1]
 else bif bQ l n (sub a 0 2) m then[.l l.rows,.l [],.i 0]
 else bif ltI 0 (clW l h (bD n a m)) then[.l l.rows,.l [],.i 2]
 else bif (cf l (bD n a m):Int)==40 then[.l l.rows,.l [],.i 3]
 else[.l ((cf l (bD n a m)).rows ++ [bD n a m]),clA l (bD n a m),.i 0]
theorem kQ(l h n:D)(a:b8)(m:D):bv [l] [h] [n] a [m]=(aR l&&(leI h 60&&(inB n.int 1 60&&(ar (sub a 0 2)&&cO [m])))):=by unfold bv;show (bif aR l then bif leI h 60 then bif inB n.int 1 60 then bif ar (sub a 0 2) then cO [m] else false else false else false else false)=_;cases aR l <;> cases leI h 60 <;> cases inB n.int 1 60 <;> cases ar (sub a 0 2) <;> rfl
theorem aiO(a b:Int):ltI a b = !(leI b a):=by rw[p7];simp[ltI,leI]
theorem QE(C:b8->Bool):∀rows:List b8,(eC C rows).length<=rows.length:=fun rows=>by unfold eC;exact H2 _ _
def Kg:Ent:=(213,e5 (sd (.sl 93)) (sd (.sl 3)) ri (ag ay) ri fun p q r s t=>(⟨.tup [.c (.own (0,0) true 93),.c (.own (0,1) true 3),.c (.d si)],sub (cd (p 0) (q 0) (r 0) s (t 0)) 0 3⟩,true))
theorem Uh:aw f4 Kg:=aac fun p q r s t h=>aq (N:=0) (ks:=KG) (ap (fC ⟨kG,fC ⟨oE,fC ⟨eV,fC ⟨wO,fC ⟨mr,fC ⟨pH,fC ⟨Pa,fC ⟨UB,fC ⟨mC,fN⟩⟩⟩⟩⟩⟩⟩⟩⟩)) Tryz.func213 fun hw=>by
 rw[SZ];refine congrArg (fun x=>some (bo,x)) ?_;unfold cd;rw[kQ,show sub (sub s 0 2) 0 2=sub s 0 2 from rfl,aiO 60];cases h1:aR (p 0) with
 | false=>rfl
 | true =>
  have O:=((bU _).1 h1).2.2;cases leI (q 0) 60 with
  | false=>rfl
  | true =>
   cases inB (r 0).int 1 60 with
   | false=>rfl
   | true =>
    cases ar (sub s 0 2) with
    | false=>rfl
    | true =>
     cases cO [t 0] with
     | false=>rfl
     | true =>
      simp only[l8,v6,f5,bb (show (p 0:Int)<=2000000 by omega),bb (show (p 0:Int)<=40000 by omega),aP];cases bQ (p 0) (r 0) (sub s 0 2) (t 0) with
      | true=>rfl
      | false =>
       simp only[f5];rw[show ([r 0,s 0,s 1,t 0]:b8)=bD (r 0) s (t 0) from rfl];cases ltI 0 (clW (p 0) (q 0) (bD (r 0) s (t 0))) with
       | true=>rfl
       | false =>
        simp only[f5];rw[show lA (.l (p 0).rows) (.l [[.l [[clA (p 0) (bD (r 0) s (t 0))]]]])=cf (p 0) (bD (r 0) s (t 0)) from rfl];have hk:(cf (p 0) (bD (r 0) s (t 0))).rows.length<=(p 0).rows.length:=QE _ _;have J:bq ((cf (p 0) (bD (r 0) s (t 0))).rows ++ [bD (r 0) s (t 0)])=true:=bL (by rw[i5];simp;omega);cases (cf (p 0) (bD (r 0) s (t 0)):Int)==40 with
        | true=>rfl
        | false =>simp only[J,v6,di,aP,f5];rfl
theorem MC(a b:b8):cA a b=cA b a:=by
 have J:cz [a 1,a 2] [b 1,b 2]=cz [b 1,b 2] [a 1,a 2]:=by show (bif ltI (a 1).int (b 2).int then ltI (b 1).int (a 2).int else false)=(bif ltI (b 1).int (a 2).int then ltI (a 1).int (b 2).int else false);cases ltI (a 1).int (b 2).int <;> cases ltI (b 1).int (a 2).int <;> rfl
 unfold cA;rw[J,show ((a 0).int != (b 0).int)=((b 0).int != (a 0).int) from bne_comm];cases (b 0).int != (a 0).int <;> cases (a 3).int==2 <;> cases (b 3).int==2 <;> rfl
theorem DH{l:D}{C J:b8->Bool}(h:∀r∈l.rows,C r=J r):∀k,k<=l.rows.length->cC l C k=cC l J k
 | 0,_=>rfl
 | k+1,hk=>by rw[cC,cC,DH h k (by omega),h _ (by rw[aU (show k<l.rows.length by omega)];exact p9 _)]
theorem zT(l:D)(C:b8->Bool)(J:∀r,C (nrm r)=C r):∀k,k<=l.rows.length->cC (.l (l.rows.map nrm)) C k=cC l C k
 | 0,_=>rfl
 | k+1,hk=>by
  have O:(D.l (l.rows.map nrm)).rows.getD k []=nrm (l.rows.getD k []):=by rw[bp,aU (by rw[m9];omega),aU (show k<l.rows.length by omega),G8]
  rw[cC,cC,zT l C J k (by omega),O,J];rfl
theorem aiP{l:D}{x:b8}(O:aR l=true)(U:ar [x 1,x 2]=true):dN l x=clA l x:=by unfold dN clA;refine DH (fun r J=>?_) _ (g8 _);have h1:=((bU l).1 O).1 r J;simp only[jX,a9] at h1;unfold PK Nk;rw[EY (p:=sub r 0 4) (q:=sub x 0 4) h1.2.1 U];exact MC _ _
theorem cK(z:D)(m:Int):m∈ai z↔∃r∈z.rows,(r 0).int=m:=by simp[ai]
theorem Qt(f:D)(n:Int)(h:D):∀k,0<(nK f n h k).length↔∃j,j<k/\(ltI (f.rows.getD j [] 0).int n||aA h (f.rows.getD j [] 0).int)=true
 | 0=>by simp[nK]
 | k+1=>by
  have O:=Qt f n h k;rw[nK];cases J:ltI (f k 0).int n||aA h (f k 0).int with
  | true =>rw[f8];exact⟨fun _=>⟨k,by omega,J⟩,fun _=>by rw[i5];simp⟩
  | false =>
   rw[f5,O];constructor
   ·rintro⟨j,U,h1⟩;exact⟨j,by omega,h1⟩
   ·rintro⟨j,U,h1⟩;by_cases e:j=k
    ·rw[e,J] at h1;cases h1
    ·exact⟨j,by omega,h1⟩
theorem Xc(z:D):0<z.rows.length↔∃m,m∈ai z:=by
 rw[<- bR];constructor
 ·intro h;exact⟨(ai z)[0],p9 _⟩
 ·rintro⟨m,h⟩;exact List.length_pos_of_mem h
theorem BF(l:D)(x:b8)(m:Int):m∈ai (clA l x)↔∃r∈l.rows,cA x r=true/\(r 0).int=m:=by have:=(jy l (Nk x) l.rows.length (g8 _)).2 m;rw[C3] at this;exact this
theorem RU(l h:D)(x:b8)(m:Int):m∈ai (clW l h x)↔∃r∈l.rows,(cA x r&&(ltI (r 0).int (x 0).int||aA h (r 0).int))=true/\(r 0).int=m:=by have:=(jy l (Ty h x) l.rows.length (g8 _)).2 m;rw[C3] at this;exact this
theorem aho(l h:D)(x:b8):ltI 0 ((nK (clA l x) (gd x 0).int h (clA l x).rows.length).length:Int)=ltI 0 ((clW l h x).rows.length:Int):=by
 have e:0<(nK (clA l x) (gd x 0).int h (clA l x).rows.length).length↔0<(clW l h x).rows.length:=by
  rw[Qt,Xc];constructor
  ·rintro⟨j,J,Y⟩;have U:(gd ((clA l x).rows.getD j []) 0).int∈ai (clA l x):=(cK _ _).2 ⟨_,by rw[aU J];exact p9 _,rfl⟩;obtain⟨r,O,h1,V⟩:=(BF l x _).1 U;rw[<- V] at Y;exact⟨_,(RU l h x _).2 ⟨r,O,by rw[h1,Y];rfl,rfl⟩⟩
  ·rintro⟨m,U⟩;obtain⟨r,O,h1,V⟩:=(RU l h x m).1 U;simp only[a9] at h1;obtain⟨y,Z,h3⟩:=(cK _ _).1 ((BF l x _).2 ⟨r,O,h1.1,rfl⟩);obtain⟨j,J,rfl⟩:=n9 Z;refine⟨j,J,?_⟩;rw[aU J,h3];exact h1.2
 rw[p7];simp only[ltI,f7];omega
def ig(f l:D):Nat->D
 | 0=>.l l.rows
 | k+1=>iX (ig f l k) (f.rows.getD k [] 0).int false
theorem Gd(f l:D):∀k,k<=f.rows.length->(ig f l k).rows.map nrm=(l.rows.map nrm).filter fun r => !((f.rows.take k).any fun y=>(r 0).int==(y 0).int)
 | 0,_=>by show l.rows.map nrm=(l.rows.map nrm).filter _;exact (B5.2 fun r _=>by simp).symm
 | k+1,hk=>by
  rw[ig,rR,Gd f l k (by omega),H0,sS (show k<f.rows.length by omega)];refine D7 fun r _=>?_
  rw[List.any_append];generalize (f.rows.take k).any (fun y=>(r 0).int==(y 0).int)=b;simp only[List.any_cons,List.any_nil,K7];cases b <;> cases (r 0).int==(f.rows.getD k [] 0).int <;> rfl
theorem lK(l:D)(x:b8):(cf l x).rows=l.rows.filter fun r => !aA (clA l x) (r 0).int:=rfl
theorem UF(l:D)(x:b8):(cf l x).rows.map nrm=(ig (clA l x) l (clA l x).rows.length).rows.map nrm:=by
 rw[Gd _ _ _ (g8 _),C3,lK,F9];refine congrArg (List.map nrm) (D7 fun r _=>?_);show (!aA (clA l x) (r 0).int) = !((clA l x).rows.any fun y=>(r 0).int==(y 0).int);refine congrArg Bool.not ?_;rw[p7,gx,cK];simp only[B8,p6];constructor
 ·rintro⟨y,J,h⟩;exact⟨y,J,h.symm⟩
 ·rintro⟨y,J,h⟩;exact⟨y,J,h.symm⟩
theorem ajS{l:D}{x:b8}(V:aR l=true)(hx:jX x=true)(hn:((cf l x:Int)==40)=false):aR (.l ((cf l x).rows ++ [x]))=true:=by
 obtain⟨h1,Z,h3⟩:=(bU l).1 V;have a0:(cf l x).rows.length<=l.rows.length:=QE _ _;have hn:¬(cf l x:Int)=40:=by simpa using hn
 rw[lK] at *;refine (bU _).2 ⟨fun r J=>?_,C1.2 ⟨Z.filter _,I9 _ _,fun a Y b hb=>?_⟩,?_⟩
 ·rcases m7.1 J with J | J
  ·exact h1 r (t8.1 J).1
  ·rw[n4.1 J];exact hx
 ·rw[n4.1 hb];obtain⟨U,O⟩:=t8.1 Y;cases hc:cA x a with
  | false=>rfl
  | true =>have:aA (clA l x) (a 0).int=true:=(gx _ _).2 ((BF l x _).2 ⟨a,U,hc,rfl⟩);rw[this] at O;cases O
 ·rw[bp,i5];simp only[D3];omega
abbrev Ab:=find [xL,mT,zB,AG,HU]
abbrev AB:=[0,1,2,3,4,8,10,11,12,13,14,15,16,17,18,26,36,46,63,74,5012014]
def mu(N:Nat)(p q r s t:b8):b8->Out:=bc f4 Ab N AB Tryz.f99 (.tup [.c (.own (0,0) true 93),.c (.d (.sl 3)),.c (.d si)]) [⟨sd (.sl 93),p⟩,⟨sd (.sl 3),q⟩,⟨ri,r⟩,⟨ag ay,s⟩,⟨ri,t⟩] 0
theorem Hu(N:Nat)(p q r s t:b8)(x0 x1 x2 x3 x4 x5 x6 x7 x8 x9 a5 a0 Y a4 a7 J U O a3 Z a6 a2 a1 V:D):(mu N p q r s t) [x0,x1,x2,x3,x4,x5,x6,x7,x8,x9,a5,a0,Y,a4,a7,J,U,O,a3,Z,a6,a2,a1,V] =
 bif ltI O.int J then nd (al O.int J.rows.length) (nd (leI U 1000000000) (nx [x0,x1,x2,x3,x4,x5,x6,x7,x8,x9,a5,a0,Y,a4,a7,J,iX U (J.rows.getD O.int.toNat [] 0).int false,.i (w64 (O.int+1)),a3,Z,a6,a2,a1,V]))
 else ex 0 [x0,x1,x2,x3,x4,x5,x6,x7,x8,x9,a5,a0,Y,a4,a7,J,U,O,a3,Z,a6,a2,a1,V]:=by kernel_rfl
theorem TK(N:Nat)(p q r s t:b8):aZ f4 Ab N AB Tryz.f99 (.tup [.c (.own (0,0) true 93),.c (.d (.sl 3)),.c (.d si)]) [⟨sd (.sl 93),p⟩,⟨sd (.sl 3),q⟩,⟨ri,r⟩,⟨ag ay,s⟩,⟨ri,t⟩]=some (bo,
 bif !(bv [p 0] [q 0] [r 0] (sub s 0 2) [t 0]) then some (1,[.l [],.l [],.i 1])
 else nd (bq ([]++(p 0).rows)&&true) (bif holds (p 0) (r 0) (sub s 0 2) (t 0) then some (1,[.l ([]++(p 0).rows),.l [],.i 0])
 else bif ltI 0 (pD (p 0) (q 0) (r 0) (sub s 0 2) (t 0)) then some (1,[.l ([]++(p 0).rows),.l [],.i 2])
 else nd (leI (p 0) 40000) ((let J:=ba (mu N p q r s t) N [p 0,q 0,r 0,s 0,s 1,t 0,.i 0,.l [],.l [],.i 0,.l [],.b (!(bv [p 0] [q 0] [r 0] (sub s 0 2) [t 0])),.b (holds (p 0) (r 0) (sub s 0 2) (t 0)),.b (ltI 0 (pD (p 0) (q 0) (r 0) (sub s 0 2) (t 0))),.i 0,dN (p 0) [r 0,s 0,s 1,t 0],.l ([]++(p 0).rows),.i 0,s 0,s 1,r 0,s 0,s 1,t 0]
  nd J.isSome (nd (J.code==2) (bif (J.pay 16:Int)==40 then nd (bq ([]++(J.pay 0).rows)&&true) (some (1,[.l ([]++(J.pay 0).rows),J.pay 10,.i 3]))
  else nd (bq ((J.pay 16).rows ++ [sub J.pay 20 4])&&true) (some (1,[.l ((J.pay 16).rows ++ [sub J.pay 20 4]),J.pay 15,.i 0])))))))):=by kernel_rfl
def dI(l h n:D)(a:b8)(m:D):b8:=
 bif !(bv [l] [h] [n] (sub a 0 2) [m]) then[.l [],.l [],.i 1]
 else bif holds l n (sub a 0 2) m then[.l l.rows,.l [],.i 0]
 else bif ltI 0 (pD l h n (sub a 0 2) m) then[.l l.rows,.l [],.i 2]
 else bif (ig (dN l (bD n a m)) l (dN l (bD n a m)).rows.length:Int)==40 then[.l l.rows,.l [],.i 3]
 else[.l ((ig (dN l (bD n a m)) l (dN l (bD n a m)).rows.length).rows ++ [bD n a m]),dN l (bD n a m),.i 0]
theorem xW(f l:D):∀k,(ig f l k).rows.length<=l.rows.length
 | 0=>g8 _
 | k+1=>o8 (Fy (ig f l k) (f.rows.getD k [] 0).int false) (xW f l k)
def AR:Ent:=(99,e5 (sd (.sl 93)) (sd (.sl 3)) ri (ag ay) ri fun p q r s t=>(⟨.tup [.c (.own (0,0) true 93),.c (.d (.sl 3)),.c (.d si)],sub (dI (p 0) (q 0) (r 0) s (t 0)) 0 3⟩,true))
theorem DG:aw f4 AR:=aac fun p q r s t h=>aq (N:=(dN (p 0) (bD (r 0) s (t 0))).rows.length+1) (ks:=AB) (ap (fC ⟨yZ,fC ⟨mc,fC ⟨IB,fC ⟨EB,fC ⟨Pu,fN⟩⟩⟩⟩⟩)) Tryz.func99 fun hw=>by
 rw[TK];refine congrArg (fun x=>some (bo,x)) ?_;unfold dI;cases O:bv [p 0] [q 0] [r 0] (sub s 0 2) [t 0] with
 | false=>rfl
 | true =>
  have J:=yf O;simp only[l8,f5,C7,bb (show (p 0:Int)<=40000 by omega),bL (show (p 0).rows.length<=4294967296 by omega),v6,aP];cases hH:holds (p 0) (r 0) (sub s 0 2) (t 0) with
  | true=>rfl
  | false =>
   simp only[f5];cases V:ltI 0 (pD (p 0) (q 0) (r 0) (sub s 0 2) (t 0)) with
   | true=>rfl
   | false =>
    simp only[f5];rw[show ([r 0,s 0,s 1,t 0]:b8)=bD (r 0) s (t 0) from rfl];have Z:(dN (p 0) (bD (r 0) s (t 0))).rows.length<=40:=o8 (fk (p 0) (PK (bD (r 0) s (t 0))) (p 0).rows.length) J;generalize Y:dN (p 0) (bD (r 0) s (t 0))=F at *;have e:=bM (L:=mu (F.rows.length+1) p q r s t) (fun k => [p 0,q 0,r 0,s 0,s 1,t 0,.i 0,.l [],.l [],.i 0,.l [],.b false,.b false,.b false,.i 0,F,ig F (p 0) k,.i (k:Int),s 0,s 1,r 0,s 0,s 1,t 0]) F.rows.length 0 (fun k hk=>?_) ?_ (N:=F.rows.length+1) (by omega)
    ·simp only[g9] at e;rw[show ig F (p 0) 0=.l (p 0).rows from rfl] at e;rw[ue e]
     case e=>rfl
     have hk:=xW F (p 0) F.rows.length;show nd true (nd true (bif (ig F (p 0) F.rows.length:Int)==40 then nd (bq (p 0).rows&&true) (some (1,[.l (p 0).rows,.l [],.i 3])) else nd (bq ((ig F (p 0) F.rows.length).rows ++ [bD (r 0) s (t 0)])&&true) (some (1,[.l ((ig F (p 0) F.rows.length).rows ++ [bD (r 0) s (t 0)]),F,.i 0]))))=_;rw[bL (show (p 0).rows.length<=4294967296 by omega),bL (show ((ig F (p 0) F.rows.length).rows ++ [bD (r 0) s (t 0)]).length<=4294967296 by rw[i5];simp;omega)];cases (ig F (p 0) F.rows.length:Int)==40 <;> rfl
    ·show mu _ p q r s t [_,_,_,_,_,_,_,_,_,_,_,_,_,_,_,_,_,.i (k:Int),_,_,_,_,_,_]=_;rw[Hu];have U:=xW F (p 0) k;simp only[aE,cy hk,bn hk,g4,aF hk (show F.rows.length<=9223372036854775807 by omega),bb (show (ig F (p 0) k:Int)<=1000000000 by omega),aP];rfl
    ·show mu _ p q r s t [_,_,_,_,_,_,_,_,_,_,_,_,_,_,_,_,_,.i (F:Int),_,_,_,_,_,_]=_;rw[Hu];simp only[aE,bF]
theorem Ad{z tx:D}{a:b8}(hz:aR z=true)(U:ar a=true):holds z tx a (.i 1)=bQ z tx a (.i 1):=by
 unfold holds bQ;rw[hz,U,s8,s8,show cO [.i 1]=true from rfl,s8];unfold dK;refine QH fun k hk=>?_
 obtain⟨h1,J⟩:=Wk hz hk;show ld (z k) tx a (.i 1)=er (sub (z k) 0 4) [.l [[tx]]] [.l [[.i 1]]] [.l [sub a 0 2]];have e:er (sub (z k) 0 4) [.l [[tx]]] [.l [[.i 1]]] [.l [sub a 0 2]]=(bif (z k 0).int==tx.int then bif (z k 3).int==1 then bif leI (z k 1).int (a 0).int then leI (a 1).int (z k 2).int else false else bif (z k 3).int==2 then bif leI (z k 1).int (a 0).int then leI (a 1).int (z k 2).int else false else false else false):=rfl;rw[e];unfold ld ff;rw[show ar (sub a 0 2)=ar a from rfl,U,show ar (sub [z k 1,z k 2] 0 2)=ar [z k 1,z k 2] from rfl,h1];simp only[f8,aL,aJ,aE];have J:(bif (z k 3).int==1 then true else (z k 3).int==2)=true:=J;have V:leI 1 (z k 3).int=true:=by
  cases O:(z k 3).int==1
  ·rw[O,f5] at J;rw[eq_of_beq J];rfl
  ·rw[eq_of_beq O];rfl
 rw[V];cases O:(z k 3).int==1
 ·rw[O,f5] at J;rw[J];cases (z k 0).int==tx.int <;> cases leI (z k 1).int (a 0).int <;> cases leI (a 1).int (z k 2).int <;> rfl
 ·cases (z k 0).int==tx.int <;> cases (z k 3).int==2 <;> cases leI (z k 1).int (a 0).int <;> cases leI (a 1).int (z k 2).int <;> rfl
theorem Na{l h n m:D}{a:b8}(V:bv [l] [h] [n] (sub a 0 2) [m]=true)(hm:m=.i 2\/m=.i 1) :
  dI l h n a m 2=cd l h n a m 2/\dI l h n a m 1=cd l h n a m 1/\(dI l h n a m 0).rows.map nrm=(cd l h n a m 0).rows.map nrm:=by
 have J:=V;rw[kQ] at J;simp only[a9] at J;have O:aR l=true:=J.1;have U:ar (sub a 0 2)=true:=J.2.2.2.1;have Z:holds l n (sub a 0 2) m=bQ l n (sub a 0 2) m:=by
  rcases hm with rfl | rfl
  ·exact FH (tx:=n) O U
  ·exact Ad (tx:=n) O U
 have Y:dN l (bD n a m)=clA l (bD n a m):=aiP O U;have hw:ltI 0 (pD l h n (sub a 0 2) m)=(!holds l n (sub a 0 2) m&&ltI 0 (clW l h (bD n a m))):=by
  unfold pD;rw[show bv [l] [h] [n] (sub (sub a 0 2) 0 2) [m]=true from V,show sub (sub a 0 2) 0 2=sub a 0 2 from rfl];cases holds l n (sub a 0 2) m with
  | true=>rfl
  | false =>rw[l8,f5,f5,show ([n,sub a 0 2 0,sub a 0 2 1,m]:b8)=bD n a m from rfl,Y];exact aho l h (bD n a m)
 have hk:(ig (clA l (bD n a m)) l (clA l (bD n a m)).rows.length).rows.length=(cf l (bD n a m)).rows.length:=by have:=congrArg List.length (UF l (bD n a m));rw[m9,m9] at this;exact this.symm
 unfold dI cd;rw[V,hw,Y,hk,<- Z];cases holds l n (sub a 0 2) m with
 | true=>exact⟨rfl,rfl,rfl⟩
 | false =>
  cases ltI 0 (clW l h (bD n a m)) with
  | true=>exact⟨rfl,rfl,rfl⟩
  | false =>
   cases (cf l (bD n a m):Int)==40 with
   | true=>exact⟨rfl,rfl,rfl⟩
   | false =>refine⟨rfl,rfl,?_⟩;show ((ig (clA l (bD n a m)) l (clA l (bD n a m)).rows.length).rows ++ [bD n a m]).map nrm=((cf l (bD n a m)).rows ++ [bD n a m]).map nrm;rw[u9,u9,<- UF]
theorem agx{l h n m:D}{a:b8}(V:bv [l] [h] [n] (sub a 0 2) [m]=true):aR (cd l h n a m 0)=true:=by
 have O:=V;rw[kQ] at O;simp only[a9] at O;obtain⟨U,_,hn,Z,Y⟩:=O;have J:aR (.l l.rows)=true:=U;unfold cd;rw[V];cases bQ l n (sub a 0 2) m with
 | true=>exact J
 | false =>
  cases ltI 0 (clW l h (bD n a m)) with
  | true=>exact J
  | false =>
   cases hc:(cf l (bD n a m):Int)==40 with
   | true=>exact J
   | false =>refine ajS U ?_ hc;simp only[jX,a9];exact⟨hn,Z,Y⟩
abbrev nl(l:D):D:=.l (l.rows.map nrm)
theorem ux(l:D):aR (nl l)=aR l:=by
 rw[p7,bU,bU];constructor
 ·rintro⟨h1,J,O⟩;refine⟨fun r U=>h1 (nrm r) (N6 U),?_,by rw[bp,m9] at O;exact O⟩;have J:(l.rows.map nrm).Pairwise (fun a b=>cA b a=false):=J;rw[List.pairwise_map] at J;exact J
 ·rintro⟨h1,J,O⟩;refine⟨fun r U=>?_,?_,by rw[bp,m9];exact O⟩
  ·obtain⟨Y,V,rfl⟩:=y4.1 U;exact h1 Y V
  ·show (l.rows.map nrm).Pairwise (fun a b=>cA b a=false);rw[List.pairwise_map];exact J
theorem abo(l:D){k:Nat}(hk:k<l.rows.length):(nl l).rows.getD k []=nrm (l.rows.getD k []):=by rw[bp,aU (by rw[m9];exact hk),aU hk,G8]
theorem ake(l:D){C:b8->Bool}(J:∀r,C (nrm r)=C r):dK C (nl l)=dK C l:=by
 unfold dK;rw[bp,m9,p7];simp only[B8,m0];constructor
 ·rintro⟨k,hk,h⟩;refine⟨k,hk,?_⟩;have e:=abo l hk;rw[bp] at e;rw[e,J] at h;exact h
 ·rintro⟨k,hk,h⟩;refine⟨k,hk,?_⟩;have e:=abo l hk;rw[bp] at e;rw[e,J];exact h
theorem RO(l n:D)(a:b8)(m:D):bQ (nl l) n a m=bQ l n a m:=by unfold bQ;rw[ux,ake l (C:=fun r=>oO (.l [[.l [[n]],.l [[m]],.l [sub a 0 2]]]) (sub r 0 4)) fun r=>rfl]
theorem aeR(l:D)(x:b8):clA (nl l) x=clA l x:=by unfold clA;rw[show (nl l).rows.length=l.rows.length from m9 ..];exact zT l (Nk x) (fun r=>rfl) _ (g8 _)
theorem ama(l h:D)(x:b8):clW (nl l) h x=clW l h x:=by unfold clW;rw[show (nl l).rows.length=l.rows.length from m9 ..];exact zT l (Ty h x) (fun r=>rfl) _ (g8 _)
theorem abl(l:D)(x:b8):(cf (nl l) x).rows=(cf l x).rows.map nrm:=by rw[lK,lK,aeR,bp,F9];rfl
theorem afg(l h n:D)(a:b8)(m:D):bv [nl l] [h] [n] a [m]=bv [l] [h] [n] a [m]:=by rw[kQ,kQ,ux]
theorem ain(l h n:D)(a:b8)(m:D) :
  cd (nl l) h n a m 2=cd l h n a m 2/\cd (nl l) h n a m 1=cd l h n a m 1/\(cd (nl l) h n a m 0).rows.map nrm=(cd l h n a m 0).rows.map nrm:=by
 have hn:∀z:List b8,(z.map nrm).map nrm=z.map nrm:=fun z=>by rw[A7];rfl
 have hk:(cf (nl l) (bD n a m)).rows.length=(cf l (bD n a m)).rows.length:=by rw[abl,m9]
 unfold cd;rw[afg,RO,ama,aeR,hk];cases bv [l] [h] [n] (sub a 0 2) [m] with
 | false=>exact⟨rfl,rfl,rfl⟩
 | true =>
  cases bQ l n (sub a 0 2) m with
  | true=>exact⟨rfl,rfl,hn _⟩
  | false =>
   cases ltI 0 (clW l h (bD n a m)) with
   | true=>exact⟨rfl,rfl,hn _⟩
   | false =>
    cases (cf l (bD n a m):Int)==40 with
    | true=>exact⟨rfl,rfl,hn _⟩
    | false =>refine⟨rfl,rfl,?_⟩;show ((cf (nl l) (bD n a m)).rows ++ [bD n a m]).map nrm=((cf l (bD n a m)).rows ++ [bD n a m]).map nrm;rw[u9,u9,abl,hn]
theorem Tm{l l':D}(e:l.rows.map nrm=l'.rows.map nrm)(h n:D)(a:b8)(m:D) :
  cd l h n a m 2=cd l' h n a m 2/\cd l h n a m 1=cd l' h n a m 1/\(cd l h n a m 0).rows.map nrm=(cd l' h n a m 0).rows.map nrm:=by
 obtain⟨J,O,U⟩:=ain l h n a m;obtain⟨V,Y,Z⟩:=ain l' h n a m;have:nl l=nl l':=by unfold nl;rw[e]
 rw[this] at J O U;exact⟨J.symm.trans V,O.symm.trans Y,U.symm.trans Z⟩
theorem qH{l l':D}(e:l.rows.map nrm=l'.rows.map nrm):aR l=aR l':=by rw[<- ux l,<- ux l'];unfold nl;rw[e]
theorem Fr(l w z:D):∀k,(fp l w z k).1.rows.map nrm=(ig z l k).rows.map nrm/\(fp l w z k).2=gr w z k
 | 0=>⟨rfl,rfl⟩
 | k+1=>by
  obtain⟨h1,J⟩:=Fr l w z k;rw[fp,ig,gr];refine⟨?_,?_⟩
  ·show (iX (fp l w z k).1 (z k 0).int false).rows.map nrm=_;rw[rR,rR,h1]
  ·show bC (fp l w z k).2 (z k 0)=_;rw[J]
theorem Od{f l:D}(h:∀r∈l.rows,aA f (r 0).int=false):(ig f l f.rows.length).rows.map nrm=l.rows.map nrm:=by
 rw[Gd _ _ _ (g8 _),C3];refine B5.2 fun r V=>?_
 obtain⟨r0,O,rfl⟩:=y4.1 V;have:=h r0 O;cases Y:f.rows.any fun y=>(nrm r0 0).int==(y 0).int with
 | false=>rfl
 | true =>
  obtain⟨y,U,J⟩:=B8.1 Y;have J:(nrm r0 0).int=(y 0).int:=by simpa using J
  have J:(r0 0).int=(y 0).int:=J;rw[(gx f (r0 0).int).2 ((cK _ _).2 ⟨y,U,J.symm⟩)] at this;cases this
theorem Xv{x r:b8}(h:cA x r=true):(r 0).int≠(x 0).int:=by intro e;unfold cA at h;rw[show ((x 0).int != (r 0).int)=false from by rw[e];simp] at h;cases h
theorem Xj(l h n:D)(a:b8)(m:D):∀r∈(cd l h n a m 0).rows,aA (cd l h n a m 1) (r 0).int=false:=by
 have O:∀v,aA (.l []) v=false:=fun v=>rfl
 unfold cd;cases bv [l] [h] [n] (sub a 0 2) [m] with
 | false=>exact fun r J=>O _
 | true =>
  cases bQ l n (sub a 0 2) m with
  | true=>exact fun r J=>O _
  | false =>
   cases ltI 0 (clW l h (bD n a m)) with
   | true=>exact fun r J=>O _
   | false =>
    cases (cf l (bD n a m):Int)==40 with
    | true=>exact fun r J=>O _
    | false =>
     intro r J;have J:r∈(cf l (bD n a m)).rows ++ [bD n a m]:=J;show aA (clA l (bD n a m)) (r 0).int=false;rcases m7.1 J with J | J
     ·rw[lK] at J;have:=(t8.1 J).2;simpa using this
     ·rw[n4.1 J];cases V:aA (clA l (bD n a m)) (bD n a m 0).int with
      | false=>rfl
      | true =>obtain⟨y,_,h1,U⟩:=(BF l (bD n a m) _).1 ((gx _ _).1 V);exact absurd U (Xv h1)
abbrev qu:=find [fQ]
abbrev qn:=[0,1,2]
theorem yF(N:Nat)(p:b8):aZ f4 qu N qn Tryz.f107 rb [⟨ag ay,p⟩]=some (bo,
 ob (!(ar (sub p 0 2)))):=by kernel_rfl
def hU(p:b8):Bool:=
 !(ar (sub p 0 2))
def jZ:Ent:=(107,e1 (ag ay) fun p=>(⟨rb,[.b (hU p)]⟩,true))
theorem nN:aw f4 jZ:=ck fun p h=>aq (N:=0) (ks:=qn) (ap (fC ⟨eV,fN⟩)) Tryz.func107 fun hw=>by
 rw[yF]
 try simp only[dd,de,db]
 rfl
abbrev Sz:=find [jZ]
abbrev Ui:=[0,1,4,5,7,8,9,16]
def vm(N:Nat)(p q:b8):b8->Out:=bc f4 Sz N Ui Tryz.f207 ri [⟨sd (.sl 41),p⟩,⟨.one (.c (.fn 107 [])),q⟩] 0
theorem UW(N:Nat)(p q:b8)(O V Y U J:D):(vm N p q) [O,V,Y,U,J] =
 bif ltI J.int U.int then nd (al J.int O.rows.length) (bif hU (sub (O.rows.getD J.int.toNat []) 0 2) then some (1,[J])
 else nx [O,V,Y,U,.i (w64 (J.int+1))])
 else ex 0 [O,V,Y,U,J]:=by kernel_rfl
theorem aco(N:Nat)(p q:b8):aZ f4 Sz N Ui Tryz.f207 ri [⟨sd (.sl 41),p⟩,⟨.one (.c (.fn 107 [])),q⟩]=some (bo,
 (let J:=ba (vm N p q) N [p 0,q 0,.i 0,.i (p 0:Int),.i 0]
  nd J.isSome (bif J.code==1 then some (1,J.pay)
  else nd (J.code==2) (oi (-1))))):=by kernel_rfl
def iG(c:D)(r:b8):Bool:=hU r
def aak:Ent:=(207,e2 (sd (.sl 41)) (.one (.c (.fn 107 []))) fun p q=>(⟨ri,[.i (ixF (fun k=>iG (q 0) (sub ((p 0).rows.getD k []) 0 2)) 0 (p 0).rows.length)]⟩,true))
theorem adz:aw f4 aak:=bj fun p q h=>aq (N:=(p 0).rows.length+1) (ks:=Ui) (ap (fC ⟨nN,fN⟩)) Tryz.func207 fun hw=>by
 rw[aco];have U:=dY (hw ⟨sd (.sl 41),p⟩ (by simp));have e:=fK (L:=vm ((p 0).rows.length+1) p q) (fun k => [p 0,q 0,.i 0,.i (p 0:Int),.i (k:Int)]) (p 0).rows.length (fun k=>iG (q 0) (sub (p 0 k) 0 2)) [p 0,q 0,.i 0,.i (p 0:Int),.i (p 0:Int)] (fun k hk=>?_) ?_ (p 0).rows.length 0 ((p 0).rows.length+1) (by omega) (by omega)
 ·simp only[g9] at e;rw[e];have J:=fx (fun k=>iG (q 0) (sub (p 0 k) 0 2)) (p 0).rows.length 0;cases O:decide (ixF (fun k=>iG (q 0) (sub (p 0 k) 0 2)) 0 (p 0).rows.length>=0)
  ·rw[J O];rfl
  ·rfl
 ·show vm _ p q [_,_,_,_,.i (k:Int)]=_;rw[UW];simp only[aE,cy hk,bn hk,aF hk U,g4];unfold iG;cases hU (sub (p 0 k) 0 2)  <;> rfl
 ·show vm _ p q [_,_,_,.i (p 0:Int),.i (p 0:Int)]=_;rw[UW];simp only[aE,bF]
abbrev abH:=find [aak,jZ]
abbrev abc:=[0,1,4]
theorem adx(N:Nat)(p q:b8):aZ f4 abH N abc Tryz.f106 rb [⟨sd (.sl 41),p⟩,⟨.one (.c (.fn 107 [])),q⟩]=some (bo,
 ob (leI 0 (ixF (fun k=>iG (.l [[]]) (sub ((p 0).rows.getD k []) 0 2)) 0 (p 0).rows.length))):=by kernel_rfl
def abv:Ent:=(106,e2 (sd (.sl 41)) (.one (.c (.fn 107 []))) fun p q=>(⟨rb,[.b (dK (fun J=>iG (q 0) (sub J 0 2)) (p 0))]⟩,true))
theorem acd:aw f4 abv:=bj fun p q h=>aq (N:=0) (ks:=abc) (ap (fC ⟨adz,fC ⟨nN,fN⟩⟩)) Tryz.func106 fun hw=>by rw[adx];refine congrArg (fun x=>some (bo,ob x)) ?_;exact (iD (fun k=>iG (q 0) (sub (p 0 k) 0 2)) (p 0).rows.length 0).trans (by simp only[i9];rfl)
abbrev yV:=find [oA]
abbrev zF:=[0,1,2,3,4]
theorem Js(N:Nat)(p q r:b8):aZ f4 yV N zF Tryz.f210 rb [⟨ag ay,p⟩,⟨.one (.c (.cptr [si,.sl 41,.sl 41,.sl 108,.sl 93,.sl 75,.sl 3,.sl 3,si] 0)),q⟩,⟨.one (.c (.cptr [si] 0)),r⟩]=some (bo,
 ob (!(bQ (((q 0).rows.getD 0 []) 4) (((r 0).rows.getD 0 []) 0) (sub p 0 2) (.i 1)))):=by kernel_rfl
def lX(p q r:b8):Bool:=
 !(bQ (((q 0).rows.getD 0 []) 4) (((r 0).rows.getD 0 []) 0) (sub p 0 2) (.i 1))
def rC:Ent:=(210,e3 (ag ay) (.one (.c (.cptr [si,.sl 41,.sl 41,.sl 108,.sl 93,.sl 75,.sl 3,.sl 3,si] 0))) (.one (.c (.cptr [si] 0))) fun p q r=>(⟨rb,[.b (lX p [q 0] [r 0])]⟩,true))
theorem va:aw f4 rC:=em fun p q r h=>aq (N:=0) (ks:=zF) (ap (fC ⟨pH,fN⟩)) Tryz.func210 fun hw=>by
 rw[Js]
 try simp only[dd,de,db]
 rfl
abbrev RI:=find [rC]
abbrev TF:=[0,1,4,5,7,8,9,16]
def xk(N:Nat)(p q:b8):b8->Out:=bc f4 RI N TF Tryz.f207 ri [⟨sd (.sl 41),p⟩,⟨.one (.c (.fn 210 [.cptr [si,.sl 41,.sl 41,.sl 108,.sl 93,.sl 75,.sl 3,.sl 3,si] 0,.cptr [si] 0])),q⟩] 0
theorem Wu(N:Nat)(p q:b8)(O U Y V J:D):(xk N p q) [O,U,Y,V,J] =
 bif ltI J.int V.int then nd (al J.int O.rows.length) (bif lX (sub (O.rows.getD J.int.toNat []) 0 2) [U.rows.getD 0 [] 0] [(U.rows.getD 0 []).tail 0] then some (1,[J])
 else nx [O,U,Y,V,.i (w64 (J.int+1))])
 else ex 0 [O,U,Y,V,J]:=by kernel_rfl
theorem acf(N:Nat)(p q:b8):aZ f4 RI N TF Tryz.f207 ri [⟨sd (.sl 41),p⟩,⟨.one (.c (.fn 210 [.cptr [si,.sl 41,.sl 41,.sl 108,.sl 93,.sl 75,.sl 3,.sl 3,si] 0,.cptr [si] 0])),q⟩]=some (bo,
 (let J:=ba (xk N p q) N [p 0,q 0,.i 0,.i (p 0:Int),.i 0]
  nd J.isSome (bif J.code==1 then some (1,J.pay)
  else nd (J.code==2) (oi (-1))))):=by kernel_rfl
def kh(c:D)(r:b8):Bool:=lX r [c.rows.getD 0 [] 0] [(c.rows.getD 0 []).tail 0]
def aaN:Ent:=(207,e2 (sd (.sl 41)) (.one (.c (.fn 210 [.cptr [si,.sl 41,.sl 41,.sl 108,.sl 93,.sl 75,.sl 3,.sl 3,si] 0,.cptr [si] 0]))) fun p q=>(⟨ri,[.i (ixF (fun k=>kh (q 0) (sub ((p 0).rows.getD k []) 0 2)) 0 (p 0).rows.length)]⟩,true))
theorem acD:aw f4 aaN:=bj fun p q h=>aq (N:=(p 0).rows.length+1) (ks:=TF) (ap (fC ⟨va,fN⟩)) Tryz.func207 fun hw=>by
 rw[acf];have U:=dY (hw ⟨sd (.sl 41),p⟩ (by simp));have e:=fK (L:=xk ((p 0).rows.length+1) p q) (fun k => [p 0,q 0,.i 0,.i (p 0:Int),.i (k:Int)]) (p 0).rows.length (fun k=>kh (q 0) (sub (p 0 k) 0 2)) [p 0,q 0,.i 0,.i (p 0:Int),.i (p 0:Int)] (fun k hk=>?_) ?_ (p 0).rows.length 0 ((p 0).rows.length+1) (by omega) (by omega)
 ·simp only[g9] at e;rw[e];have J:=fx (fun k=>kh (q 0) (sub (p 0 k) 0 2)) (p 0).rows.length 0;cases O:decide (ixF (fun k=>kh (q 0) (sub (p 0 k) 0 2)) 0 (p 0).rows.length>=0)
  ·rw[J O];rfl
  ·rfl
 ·show xk _ p q [_,_,_,_,.i (k:Int)]=_;rw[Wu];simp only[aE,cy hk,bn hk,aF hk U,g4];unfold kh;cases lX (sub (p 0 k) 0 2) [q 0 0 0] [(q 0 0).tail 0] <;> rfl
 ·show xk _ p q [_,_,_,.i (p 0:Int),.i (p 0:Int)]=_;rw[Wu];simp only[aE,bF]
abbrev aah:=find [aaN,rC]
abbrev aau:=[0,1,4]
theorem act(N:Nat)(p q:b8):aZ f4 aah N aau Tryz.f106 rb [⟨sd (.sl 41),p⟩,⟨.one (.c (.fn 210 [.cptr [si,.sl 41,.sl 41,.sl 108,.sl 93,.sl 75,.sl 3,.sl 3,si] 0,.cptr [si] 0])),q⟩]=some (bo,
 ob (leI 0 (ixF (fun k=>kh (.l [[((q 0).rows.getD 0 []) 0,((q 0).rows.getD 0 []).tail 0]]) (sub ((p 0).rows.getD k []) 0 2)) 0 (p 0).rows.length))):=by kernel_rfl
def aan:Ent:=(106,e2 (sd (.sl 41)) (.one (.c (.fn 210 [.cptr [si,.sl 41,.sl 41,.sl 108,.sl 93,.sl 75,.sl 3,.sl 3,si] 0,.cptr [si] 0]))) fun p q=>(⟨rb,[.b (dK (fun J=>kh (q 0) (sub J 0 2)) (p 0))]⟩,true))
theorem acL:aw f4 aan:=bj fun p q h=>aq (N:=0) (ks:=aau) (ap (fC ⟨acD,fC ⟨va,fN⟩⟩)) Tryz.func106 fun hw=>by rw[act];refine congrArg (fun x=>some (bo,ob x)) ?_;exact (iD (fun k=>kh (q 0) (sub (p 0 k) 0 2)) (p 0).rows.length 0).trans (by simp only[i9];rfl)
abbrev yP:=find [Md,Te]
abbrev yX:=[0,1,2,3]
theorem IN(N:Nat)(p q:b8):aZ f4 yP N yX Tryz.f212 rb [⟨ag JR,p⟩,⟨.one (.c (.cptr [si,.sl 41,.sl 41,.sl 108,.sl 93,.sl 75,.sl 3,.sl 3,si] 0)),q⟩]=some (bo,
 ob (!(qa (sub ((q 0).rows.getD 0 []) 0 9) [p 0,.i (w64 ((p 0).int+1))]))):=by kernel_rfl
def mq(p q:b8):Bool:=
 !(qa (sub ((q 0).rows.getD 0 []) 0 9) [p 0,.i (w64 ((p 0).int+1))])
def ry:Ent:=(212,e2 (ag JR) (.one (.c (.cptr [si,.sl 41,.sl 41,.sl 108,.sl 93,.sl 75,.sl 3,.sl 3,si] 0))) fun p q=>(⟨rb,[.b (mq p [q 0])]⟩,true))
theorem uT:aw f4 ry:=bj fun p q h=>aq (N:=0) (ks:=yX) (ap (fC ⟨BU,fC ⟨PW,fN⟩⟩)) Tryz.func212 fun hw=>by
 rw[IN]
 try simp only[dd,de,db]
 rfl
abbrev Tt:=find [ry]
abbrev Tc:=[0,1,4,5,7,8,9,16]
def xo(N:Nat)(p q:b8):b8->Out:=bc f4 Tt N Tc Tryz.f252 ri [⟨sd (.sl 70),p⟩,⟨.one (.c (.fn 212 [.cptr [si,.sl 41,.sl 41,.sl 108,.sl 93,.sl 75,.sl 3,.sl 3,si] 0])),q⟩] 0
theorem Vu(N:Nat)(p q:b8)(O U Y V J:D):(xo N p q) [O,U,Y,V,J] =
 bif ltI J.int V.int then nd (al J.int O.rows.length) (bif mq (sub (O.rows.getD J.int.toNat []) 0 2) [U.rows.getD 0 [] 0] then some (1,[J])
 else nx [O,U,Y,V,.i (w64 (J.int+1))])
 else ex 0 [O,U,Y,V,J]:=by kernel_rfl
theorem acn(N:Nat)(p q:b8):aZ f4 Tt N Tc Tryz.f252 ri [⟨sd (.sl 70),p⟩,⟨.one (.c (.fn 212 [.cptr [si,.sl 41,.sl 41,.sl 108,.sl 93,.sl 75,.sl 3,.sl 3,si] 0])),q⟩]=some (bo,
 (let J:=ba (xo N p q) N [p 0,q 0,.i 0,.i (p 0:Int),.i 0]
  nd J.isSome (bif J.code==1 then some (1,J.pay)
  else nd (J.code==2) (oi (-1))))):=by kernel_rfl
def la(c:D)(r:b8):Bool:=mq r [c.rows.getD 0 [] 0]
def aas:Ent:=(252,e2 (sd (.sl 70)) (.one (.c (.fn 212 [.cptr [si,.sl 41,.sl 41,.sl 108,.sl 93,.sl 75,.sl 3,.sl 3,si] 0]))) fun p q=>(⟨ri,[.i (ixF (fun k=>la (q 0) (sub ((p 0).rows.getD k []) 0 2)) 0 (p 0).rows.length)]⟩,true))
theorem acE:aw f4 aas:=bj fun p q h=>aq (N:=(p 0).rows.length+1) (ks:=Tc) (ap (fC ⟨uT,fN⟩)) Tryz.func252 fun hw=>by
 rw[acn];have U:=dY (hw ⟨sd (.sl 70),p⟩ (by simp));have e:=fK (L:=xo ((p 0).rows.length+1) p q) (fun k => [p 0,q 0,.i 0,.i (p 0:Int),.i (k:Int)]) (p 0).rows.length (fun k=>la (q 0) (sub (p 0 k) 0 2)) [p 0,q 0,.i 0,.i (p 0:Int),.i (p 0:Int)] (fun k hk=>?_) ?_ (p 0).rows.length 0 ((p 0).rows.length+1) (by omega) (by omega)
 ·simp only[g9] at e;rw[e];have J:=fx (fun k=>la (q 0) (sub (p 0 k) 0 2)) (p 0).rows.length 0;cases O:decide (ixF (fun k=>la (q 0) (sub (p 0 k) 0 2)) 0 (p 0).rows.length>=0)
  ·rw[J O];rfl
  ·rfl
 ·show xo _ p q [_,_,_,_,.i (k:Int)]=_;rw[Vu];simp only[aE,cy hk,bn hk,aF hk U,g4];unfold la;cases mq (sub (p 0 k) 0 2) [q 0 0 0] <;> rfl
 ·show xo _ p q [_,_,_,.i (p 0:Int),.i (p 0:Int)]=_;rw[Vu];simp only[aE,bF]
abbrev aaH:=find [aas,ry]
abbrev aad:=[0,1,4]
theorem acJ(N:Nat)(p q:b8):aZ f4 aaH N aad Tryz.f211 rb [⟨sd (.sl 70),p⟩,⟨.one (.c (.fn 212 [.cptr [si,.sl 41,.sl 41,.sl 108,.sl 93,.sl 75,.sl 3,.sl 3,si] 0])),q⟩]=some (bo,
 ob (leI 0 (ixF (fun k=>la (.l [[((q 0).rows.getD 0 []) 0]]) (sub ((p 0).rows.getD k []) 0 2)) 0 (p 0).rows.length))):=by kernel_rfl
def abi:Ent:=(211,e2 (sd (.sl 70)) (.one (.c (.fn 212 [.cptr [si,.sl 41,.sl 41,.sl 108,.sl 93,.sl 75,.sl 3,.sl 3,si] 0]))) fun p q=>(⟨rb,[.b (dK (fun J=>la (q 0) (sub J 0 2)) (p 0))]⟩,true))
theorem acZ:aw f4 abi:=bj fun p q h=>aq (N:=0) (ks:=aad) (ap (fC ⟨acE,fC ⟨uT,fN⟩⟩)) Tryz.func211 fun hw=>by rw[acJ];refine congrArg (fun x=>some (bo,ob x)) ?_;exact (iD (fun k=>la (q 0) (sub (p 0 k) 0 2)) (p 0).rows.length 0).trans (by simp only[i9];rfl)
abbrev Hc:=find [Xs,aan,abi]
abbrev It:=[0,1,2,3,4,5,8,9,14,19,23]
theorem PA(N:Nat)(p q r s:b8):aZ f4 Hc N It Tryz.f111 ri [⟨ag aK,p⟩,⟨ri,q⟩,⟨sd (.sl 41),r⟩,⟨sd (.sl 70),s⟩]=some (bo,
 bif aA (p 7) (q 0).int then oi 2
 else bif aA (p 6) (q 0).int then oi 3
 else bif dK (fun J=>kh (.l [[.l [sub p 0 9],.l [[q 0]]]]) (sub J 0 2)) (r 0) then oi 7
 else bif dK (fun J=>la (.l [[.l [sub p 0 9]]]) (sub J 0 2)) (s 0) then oi 4
 else oi 0):=by kernel_rfl
def wG(p q r s:b8):Int:=
 bif aA (p 7) (q 0).int then 2
 else bif aA (p 6) (q 0).int then 3
 else bif dK (fun J=>kh (.l [[.l [sub p 0 9],.l [[q 0]]]]) (sub J 0 2)) (r 0) then 7
 else bif dK (fun J=>la (.l [[.l [sub p 0 9]]]) (sub J 0 2)) (s 0) then 4
 else 0
def Hj:Ent:=(111,e4 (ag aK) ri (sd (.sl 41)) (sd (.sl 70)) fun p q r s=>(⟨ri,[.i (wG p [q 0] [r 0] [s 0])]⟩,true))
theorem Po:aw f4 Hj:=wV fun p q r s h=>aq (N:=0) (ks:=It) (ap (fC ⟨Ap,fC ⟨acL,fC ⟨acZ,fN⟩⟩⟩)) Tryz.func111 fun hw=>by
 rw[PA]
 try simp only[dd,de,db]
 rfl
def jT(p:b8)(tx z:D):Bool:=(List.range z.rows.length).all fun k=>holds (p 4) tx (sub (z.rows.getD k []) 0 2) (.i 1)
def kM(p:b8)(z:D):Bool:=(List.range z.rows.length).all fun k=>pd p [z.rows.getD k [] 0,.i (w64 ((z.rows.getD k [] 0).int+1))]
theorem RT(n:Nat){C E:Nat->Bool}(h:∀k,k<n->C k = !E k):(List.range n).any C = !(List.range n).all E:=by
 rw[p7];simp only[B8,m0,m6,List.all_eq_false,D6];constructor
 ·rintro⟨k,hk,J⟩;rw[h k hk] at J;exact⟨k,hk,by simpa using J⟩
 ·rintro⟨k,hk,J⟩;exact⟨k,hk,by rw[h k hk,J];rfl⟩
theorem acT{p:b8}{tx z:D}(J:aR (p 4)=true)(hz:∀k,k<z.rows.length->ar (sub (z.rows.getD k []) 0 2)=true) :
  dK (fun O=>kh (.l [[.l [sub p 0 9],.l [[tx]]]]) (sub O 0 2)) z = !jT p tx z:=by
 unfold dK jT;refine RT _ fun k hk=>?_
 rw[Ad J (hz k hk)];rfl
theorem adf{p:b8}{z:D}(h1:aV (p 1)=true)(J:aV (p 2)=true)(hz:∀k,k<z.rows.length->ar [z.rows.getD k [] 0,.i (w64 ((z.rows.getD k [] 0).int+1))]=true) :
  dK (fun O=>la (.l [[.l [sub p 0 9]]]) (sub O 0 2)) z = !kM p z:=by
 unfold dK kM;refine RT _ fun k hk=>?_
 rw[RD h1 J (hz k hk)];rfl
abbrev dV(u:D)(k:Nat):b8:= [u.rows.getD k [] 0,.i (w64 ((u.rows.getD k [] 0).int+1))]
def cT(p:b8)(n u:D):Nat->D × D
 | 0=>(.l (p 4).rows,.l (p 6).rows)
 | k+1=>fp (dI (cT p n u k).1 (aB (p 5)) n (dV u k) (.i 2) 0) (cT p n u k).2 (dI (cT p n u k).1 (aB (p 5)) n (dV u k) (.i 2) 1) (dI (cT p n u k).1 (aB (p 5)) n (dV u k) (.i 2) 1).rows.length
def gN(p:b8)(n u:D)(k:Nat):D:=dI (cT p n u k).1 (aB (p 5)) n (dV u k) (.i 2) 2
def hS(h n:D)(v:b8):Nat->List b8 × Bool
 | 0=>([],false)
 | k+1=>bif !(hS h n v k).2&&ltI n.int (h.rows.getD k [] 0).int then ((hS h n v k).1 ++ [v] ++ [sub (h.rows.getD k []) 0 2],true) else ((hS h n v k).1 ++ [sub (h.rows.getD k []) 0 2],(hS h n v k).2)
def abF(h n:D)(v:b8):D:=bif !(hS h n v h.rows.length).2 then .l ((hS h n v h.rows.length).1 ++ [v]) else .l (hS h n v h.rows.length).1
def tq(p:b8)(n z u:D):Bool:=aY (sub p 0 9)&&(inB n.int 1 60&&(leI z 16&&aO u))
def tI(z:D):Bool:=(List.range z.rows.length).all fun k=>ar (sub (z.rows.getD k []) 0 2)
def Oo(p:b8)(u:D):Bool:=ltI 60 (w64 (w64 ((p 3:Int)+dD (p 3) (p 5) (p 5).rows.length)+bi (p 3) u))
def ajJ(p:b8)(n u:D):b8:=
 bif Oo p u then dpS p ++ [.i 6]
 else[dpS p 0,dpS p 1,dpS p 2,dpS p 3,(cT p n u u.rows.length).1,abF (dpS p 5) n [n,.l u.rows],(cT p n u u.rows.length).2,dpS p 7,dpS p 8,.i 0]
def prS(p:b8)(n z u:D):b8:=
 bif !(tq p n z u&&tI z) then dE ++ [.i 1]
 else bif aA (p 7) n.int then dpS p ++ [.i 2]
 else bif fV (p 5) n.int then dpS p ++ [.i 0]
 else bif aA (p 6) n.int then dpS p ++ [.i 3]
 else bif jT p n z then bif kM p u then
  match (List.range u.rows.length).find? (fun k=>(gN p n u k).int != 0) with
  | some k=>dpS p ++ [.i (cG [gN p n u k])]
  | none=>ajJ p n u
 else dpS p ++ [.i 4] else dpS p ++ [.i 7]
theorem Da(l h n:D)(a:b8)(m:D):(dI l h n a m 0).rows.length<=41/\(dI l h n a m 1).rows.length<=40:=by
 unfold dI;cases U:bv [l] [h] [n] (sub a 0 2) [m] with
 | false=>exact⟨y5 _,y5 _⟩
 | true =>
  have O:=yf U;cases holds l n (sub a 0 2) m with
  | true=>exact⟨by show l.rows.length<=41;omega,y5 _⟩
  | false =>
   cases ltI 0 (pD l h n (sub a 0 2) m) with
   | true=>exact⟨by show l.rows.length<=41;omega,y5 _⟩
   | false =>
    have J:(dN l (bD n a m)).rows.length<=40:=o8 (fk l (PK (bD n a m)) l.rows.length) O;have hk:=xW (dN l (bD n a m)) l (dN l (bD n a m)).rows.length;cases (ig (dN l (bD n a m)) l (dN l (bD n a m)).rows.length:Int)==40 with
    | true=>exact⟨by show l.rows.length<=41;omega,y5 _⟩
    | false =>refine⟨?_,J⟩;show ((ig (dN l (bD n a m)) l (dN l (bD n a m)).rows.length).rows ++ [bD n a m]).length<=41;rw[i5,D3];omega
theorem RB(p:b8)(n u:D)(J:(p 4).rows.length<=40):∀k,(cT p n u k).1.rows.length<=41/\(cT p n u k).2.rows.length<=(p 6).rows.length+40*k
 | 0=>⟨by show (p 4).rows.length<=41;omega,g8 _⟩
 | k+1=>by obtain⟨_,V⟩:=RB p n u J k;obtain⟨U,Y⟩:=Da (cT p n u k).1 (aB (p 5)) n (dV u k) (.i 2);obtain⟨O,Z⟩:=Bi (dI (cT p n u k).1 (aB (p 5)) n (dV u k) (.i 2) 0) (cT p n u k).2 (dI (cT p n u k).1 (aB (p 5)) n (dV u k) (.i 2) 1) (dI (cT p n u k).1 (aB (p 5)) n (dV u k) (.i 2) 1).rows.length;rw[cT];omega
theorem ZR(h n:D)(v:b8):∀k,(hS h n v k).1.length<=2*k
 | 0=>g8 _
 | k+1=>by have J:=ZR h n v k;rw[hS];cases !(hS h n v k).2&&ltI n.int (h k 0).int <;> simp <;> omega
theorem adJ{L:b8->Out}(st:Bool->Nat->b8)(n:Nat)(C:Nat->Bool)(j:Nat)(h1:∀k,k<n->L (st true k)=some (0,st (C k) (k+1)))(O:∀k,L (st false k)=some (j+2,st false k))(U:L (st true n)=some (j+2,st true n)) :
  ∀(m k N:Nat) (b:Bool),k+m=n->m<N->∃i,ba L N (st b k)=some (j+2,st (b&&(List.range' k m).all C) i):=by
 intro m
 induction m with
 | zero =>
  intro k N b hk hN;obtain⟨N,rfl⟩:∃J,N=J+1:=⟨N - 1,by omega⟩;obtain rfl:k=n:=by omega
  cases b with
  | true=>exact⟨k,kN (c:=j+1) U⟩
  | false=>exact⟨k,kN (c:=j+1) (O k)⟩
 | succ m V =>
  intro k N b hk hN;obtain⟨N,rfl⟩:∃J,N=J+1:=⟨N - 1,by omega⟩;cases b with
  | false=>exact⟨k,kN (c:=j+1) (O k)⟩
  | true =>rw[qk (h1 k (by omega)),M5,M6,s8];exact V (k+1) N (C k) (by omega) (by omega)
abbrev pyA(p q r s:b8)(b:Bool):b8:= [p 0,p 1,p 2,p 3,p 4,p 5,p 6,p 7,p 8,q 0,r 0,s 0,.i 0,.i 0,.i 0,.b b,p 0,p 1,p 2,p 3,p 4,p 5,p 6,p 7,p 8,.i 0,.l [],.l [],.l [],.l [],.l [],.l [],.l [],.i 0]
abbrev py0(p q r s:b8)(b:Bool)(i:D):b8:= [p 0,p 1,p 2,p 3,p 4,p 5,p 6,p 7,p 8,q 0,r 0,s 0,.i 0,.i 0,.i 0,.b b,i,p 0,p 1,p 2,p 3,p 4,p 5,p 6,p 7,p 8,.i 0,.l [],.l [],.l [],.l [],.l [],.l [],.l [],.i 0]
abbrev py3(p q r s:b8)(b:Bool)(i j:D):b8:= [p 0,p 1,p 2,p 3,p 4,p 5,p 6,p 7,p 8,q 0,r 0,s 0,.i 0,.i 0,.i 0,.b b,i,.b (!b),.i 0,j,p 0,p 1,p 2,p 3,p 4,p 5,p 6,p 7,p 8,.i 0,.l [],.l [],.l [],.l [],.l [],.l [],.l [],.i 0,dpS p 0,dpS p 1,dpS p 2,dpS p 3,dpS p 4,dpS p 5,dpS p 6,dpS p 7,dpS p 8]
abbrev py5(p q r s:b8)(b:Bool)(i j k:D):b8:= [p 0,p 1,p 2,p 3,p 4,p 5,p 6,p 7,p 8,q 0,r 0,s 0,.i 0,.i 0,.i 0,.b b,i,.b (!b),.i 0,j,k,p 0,p 1,p 2,p 3,p 4,p 5,p 6,p 7,p 8,.i 0,.l [],.l [],.l [],.l [],.l [],.l [],.l [],.i 0,dpS p 0,dpS p 1,dpS p 2,dpS p 3,dpS p 4,dpS p 5,dpS p 6,dpS p 7,dpS p 8]
abbrev py7(p q r s:b8)(b:Bool)(i j k m l w:D):b8:= [p 0,p 1,p 2,p 3,p 4,p 5,p 6,p 7,p 8,q 0,r 0,s 0,.i 0,.i 0,.i 0,.b b,i,.b (!b),.i 0,j,k,.i 0,m,p 0,p 1,p 2,p 3,p 4,p 5,p 6,p 7,p 8,.i 0,.l [],.l [],.l [],.l [],.l [],.l [],.l [],.i 0,dpS p 0,dpS p 1,dpS p 2,dpS p 3,dpS p 4,dpS p 5,dpS p 6,dpS p 7,dpS p 8,dpS p 0,dpS p 1,dpS p 2,dpS p 3,l,dpS p 5,w,dpS p 7,dpS p 8]
abbrev py9(p q r s:b8)(b:Bool)(i j k m l w:D)(h:List b8)(t:Bool)(c:D):b8:= [p 0,p 1,p 2,p 3,p 4,p 5,p 6,p 7,p 8,q 0,r 0,s 0,.i 0,.i 0,.i 0,.b b,i,.b (!b),.i 0,j,k,.i 0,m,.b (Oo p (s 0)),.l h,.b t,.l (s 0).rows,.i 0,c,p 0,p 1,p 2,p 3,p 4,p 5,p 6,p 7,p 8,.i 0,.l [],.l [],.l [],.l [],.l [],.l [],.l [],.i 0,dpS p 0,dpS p 1,dpS p 2,dpS p 3,dpS p 4,dpS p 5,dpS p 6,dpS p 7,dpS p 8,dpS p 0,dpS p 1,dpS p 2,dpS p 3,l,dpS p 5,w,dpS p 7,dpS p 8,q 0,.l (s 0).rows]
set_option maxHeartbeats 4000000
set_option maxHeartbeats 1000000
abbrev Yy:=find [oL,Kg,jQ,pu]
abbrev Zn:=[0,1,2,3,6,8,9,10,11,13,31,32,34,40,41,42,43]
abbrev d6:List Ce:=[.d si,.own (1000000,1) true 41,.own (1000000,2) true 41,.own (1000000,3) true 108,.own (1000000,4) true 93,.own (1000000,1000005) true 75,.own (1000000,6) true 3,.own (1000000,7) true 3,.d si]
def BK(N:Nat)(p q r s:b8):b8->Out:=SO f4 Yy N Zn Tryz.f112 (.tup [.agg [.any],.agg b9,.c (.d si)]) [⟨.tup [.agg d6],p⟩,⟨ri,q⟩,⟨ag ay,r⟩,⟨ri,s⟩] 1
theorem abu(N:Nat)(p q r s:b8)(x0 x1 x2 x3 x4 x5 x6 x7 x8 x9 a4 O V J a6 a0 a5 a7 a3 Z U a2 a1 Y a8:D):(BK N p q r s) [x0,x1,x2,x3,x4,x5,x6,x7,x8,x9,a4,O,V,J,a6,a0,a5,a7,a3,Z,U,a2,a1,Y,a8] =
 bif ltI J.int V.int then nd (al J.int O.rows.length) (nd (iR U&&leI U 40000) (nx [x0,x1,x2,x3,x4,x5,x6,x7,x8,x9,a4,O,V,.i (w64 (J.int+1)),a6,a0,a5,a7,a3,Z,bC U (O.rows.getD J.int.toNat [] 0),a2,a1,Y,a8]))
 else ex 1 [x0,x1,x2,x3,x4,x5,x6,x7,x8,x9,a4,O,V,J,a6,a0,a5,a7,a3,Z,U,a2,a1,Y,a8]:=by kernel_rfl
theorem afZ(N:Nat)(p q r s:b8):vh f4 Yy N Zn Tryz.f112 (.tup [.agg [.any],.agg b9,.c (.d si)]) [⟨.tup [.agg d6],p⟩,⟨ri,q⟩,⟨ag ay,r⟩,⟨ri,s⟩]=some (bo,
 nd (leI (p 5) 1000000000) (bif (sub (cd (p 4) (aB (p 5)) (q 0) (sub r 0 2) (s 0)) 0 3 2).int==2 then some (1,[.i 0,p 0,p 1,p 2,p 3,p 4,p 5,p 6,p 7,p 8,.i 5])
 else bif (sub (cd (p 4) (aB (p 5)) (q 0) (sub r 0 2) (s 0)) 0 3 2).int==3 then some (1,[.i 0,p 0,p 1,p 2,p 3,p 4,p 5,p 6,p 7,p 8,.i 6])
 else (let J:=ba (BK N p q r s) N [.i 0,q 0,r 0,r 1,s 0,.i 0,.i 0,sub (cd (p 4) (aB (p 5)) (q 0) (sub r 0 2) (s 0)) 0 3 0,sub (cd (p 4) (aB (p 5)) (q 0) (sub r 0 2) (s 0)) 0 3 1,sub (cd (p 4) (aB (p 5)) (q 0) (sub r 0 2) (s 0)) 0 3 2,sub (cd (p 4) (aB (p 5)) (q 0) (sub r 0 2) (s 0)) 0 3 2,sub (cd (p 4) (aB (p 5)) (q 0) (sub r 0 2) (s 0)) 0 3 1,.i (sub (cd (p 4) (aB (p 5)) (q 0) (sub r 0 2) (s 0)) 0 3 1:Int),.i 0,p 0,p 1,p 2,p 3,sub (cd (p 4) (aB (p 5)) (q 0) (sub r 0 2) (s 0)) 0 3 0,p 5,p 6,p 7,p 8,r 0,r 1]
  nd J.isSome (nd (J.code==3) (some (1,[.i 0,J.pay 14,J.pay 15,J.pay 16,J.pay 17,J.pay 18,J.pay 19,J.pay 20,J.pay 21,J.pay 22,.i 0])))))):=by kernel_rfl
abbrev um(p:b8)(n:D)(a:b8)(m:D):b8:=cd (p 4) (aB (p 5)) n (sub a 0 2) m
def OV(p:b8)(n:D)(a:b8)(m:D):b8:=
 bif (um p n a m 2).int==2 then[.i 0,p 0,p 1,p 2,p 3,p 4,p 5,p 6,p 7,p 8,.i 5]
 else bif (um p n a m 2).int==3 then[.i 0,p 0,p 1,p 2,p 3,p 4,p 5,p 6,p 7,p 8,.i 6]
 else[.i 0,p 0,p 1,p 2,p 3,um p n a m 0,p 5,gr (p 6) (um p n a m 1) (um p n a m 1).rows.length,p 7,p 8,.i 0]
theorem WQ(l h n:D)(a:b8)(m:D):(cd l h n a m 1).rows.length<=40:=by
 unfold cd;cases U:bv [l] [h] [n] (sub a 0 2) [m] with
 | false=>exact y5 _
 | true =>
  have O:=yf U;have J:(clA l (bD n a m)).rows.length<=40:=o8 (fk l (Nk (bD n a m)) l.rows.length) O;cases bQ l n (sub a 0 2) m with
  | true=>exact y5 _
  | false =>
   cases ltI 0 (clW l h (bD n a m)) with
   | true=>exact y5 _
   | false =>
    cases (cf l (bD n a m):Int)==40 with
    | true=>exact y5 _
    | false=>exact J
def Zr:Ent:=(112,e4 (.tup [.agg d6]) ri (ag ay) ri fun p q r s=>(⟨.tup [.agg [.any],.agg b9,.c (.d si)],sub (OV p (q 0) r (s 0)) 0 11⟩,iR (p 6)&&(leI (p 6) 10000&&leI (p 5) 1000000000)))
theorem Wz:aw f4 Zr:=wV fun p q r s h=>gu (N:=(um p (q 0) r (s 0) 1).rows.length+1) (ks:=Zn) (key:=bo) (ap (fC ⟨lP,fC ⟨Uh,fC ⟨jd,fC ⟨mC,fN⟩⟩⟩⟩)) (cN Tryz.func112) Tryz.func112 fun hw U=>by
 rw[afZ];have h:(iR (p 6)&&(leI (p 6) 10000&&leI (p 5) 1000000000))=true:=h;simp only[a9] at h;have J:=Oe h.1;have V:(p 6:Int)<=10000:=j9 h.2.1;refine congrArg (fun x=>some (bo,x)) ?_;unfold OV;rw[h.2.2,aP,show sub (cd (p 4) (aB (p 5)) (q 0) (sub r 0 2) (s 0)) 0 3 = [um p (q 0) r (s 0) 0,um p (q 0) r (s 0) 1,um p (q 0) r (s 0) 2] from rfl];have Y:(um p (q 0) r (s 0) 1).rows.length<=40:=WQ _ _ _ _ _;simp only[aL,aJ];change _=some (1,sub (bif (um p (q 0) r (s 0) 2).int==2 then _ else bif (um p (q 0) r (s 0) 2).int==3 then _ else _) 0 11);generalize um p (q 0) r (s 0)=A at *;cases (A 2).int==2 with
 | true=>rfl
 | false =>
  cases (A 2).int==3 with
  | true=>rfl
  | false =>
   simp only[f5];have e:=bM (L:=BK ((A 1).rows.length+1) p q r s) (fun k => [.i 0,q 0,r 0,r 1,s 0,.i 0,.i 0,A 0,A 1,A 2,A 2,A 1,.i (A 1:Int),.i (k:Int),p 0,p 1,p 2,p 3,A 0,p 5,gr (p 6) (A 1) k,p 7,p 8,r 0,r 1]) (A 1).rows.length 1 (fun k hk=>?_) ?_ (N:=(A 1).rows.length+1) (by omega)
   ·simp only[g9] at e;rw[show gr (p 6) (A 1) 0=p 6 from rfl] at e;rw[ue e]
    case e=>rfl
    rfl
   ·show BK _ p q r s [_,_,_,_,_,_,_,_,_,_,_,_,_,.i (k:Int),_,_,_,_,_,_,_,_,_,_,_]=_;rw[abu];obtain⟨O,_⟩:=oF (t:=A 1) J k (by omega);have Z:=yc (p 6) (A 1) k;simp only[aE,cy hk,bn hk,g4,aP,aF hk (show (A 1).rows.length<=9223372036854775807 by omega),ro O,bb (show (gr (p 6) (A 1) k:Int)<=40000 by omega),v6];rfl
   ·show BK _ p q r s [_,_,_,_,_,_,_,_,_,_,_,_,.i (A 1:Int),.i (A 1:Int),_,_,_,_,_,_,_,_,_,_,_]=_;rw[abu];simp only[aE,bF]
inductive Fld where
 | i (off:Nat)
 | b (off:Nat)
 | m (off:Nat) (F:b8->D->b8) (c:D->Nat)
def Fld.off:Fld->Nat
 | .i o=>o
 | .b o=>o
 | .m o _ _=>o
def akp(w:Nat):Fld->Prop
 | .i o=>o<w
 | .b o=>o<w
 | .m o F c=>o<w/\∀x q:D,0<=q.int->q.int+c x<=4611686018427387904->(F [x] q 0).int=q.int+c x
theorem akp.lt{w:Nat}{f:Fld}(h:akp w f):f.off<w:=by cases f <;> first | exact h | exact h.1
theorem sN(z:D)(n:Int):fV z n=true↔∃r∈z.rows,(gd r 0).int=n:=by
 unfold fV;rw[B8];constructor
 ·rintro⟨k,hk,h⟩;have hk:=m0.1 hk;exact⟨z.rows.getD k [],by rw[aU hk];exact p9 hk,by simpa using h⟩
 ·rintro⟨r,J,h⟩;obtain⟨k,hk,rfl⟩:=n9 J;exact⟨k,m0.2 hk,by rw[aU hk];simpa using h⟩
theorem afl(z:D)(n:Int):aA z n=true↔∃r∈z.rows,(gd r 0).int=n:=by
 unfold aA dK;rw[B8];constructor
 ·rintro⟨k,hk,h⟩;have hk:=m0.1 hk;exact⟨z.rows.getD k [],by rw[aU hk];exact p9 hk,by simpa using (p6.1 h).symm⟩
 ·rintro⟨r,J,h⟩;obtain⟨k,hk,rfl⟩:=n9 J;exact⟨k,m0.2 hk,by rw[aU hk];simpa using h.symm⟩
theorem lY(z:D)(n:Int):aA (aB z) n=fV z n:=by
 rw[p7,afl,sN];constructor
 ·rintro⟨r,J,h⟩;obtain⟨x,O,rfl⟩:=y4.1 J;exact⟨x,O,h⟩
 ·rintro⟨r,J,h⟩;exact⟨[r 0],y4.2 ⟨r,J,rfl⟩,h⟩
theorem fd(p:b8):ddS p 5=.l ((p 5).rows.map fun r => [r 0,.l (r 1).rows]):=by show D.l (kpL (fun _=>true) (fun k => [p 5 k 0,.l (p 5 k 1).rows]) (p 5).rows.length)=_;rw[sm (p 5).rows (fun _=>true) (fun r => [r 0,.l (r 1).rows]),B5.2 (fun _ _=>rfl)]
theorem Sj(p:b8)(n:Int):aA (aB (ddS p 5)) n=fV (p 5) n:=by
 rw[lY,fd,p7,sN,sN];constructor
 ·rintro⟨r,J,h⟩;obtain⟨x,O,rfl⟩:=y4.1 J;exact⟨x,O,h⟩
 ·rintro⟨r,J,h⟩;exact⟨[r 0,.l (r 1).rows],y4.2 ⟨r,J,rfl⟩,h⟩
theorem Cv{r x:b8}(O:ar (sub r 0 2)=true)(J:jX x=true):jV r x=cz [x 1,x 2] [r 0,r 1]:=by simp only[jX,a9] at J;unfold jV;rw[show sub (cg [x 1,x 2] [r 0,r 1]) 0 3 2=cg [x 1,x 2] [r 0,r 1] 2 from rfl,Tq];exact Mv J.2.1 O
theorem Gq{p q:b8}{h:Bool}{m:Int}:m∈ai (nv p q (.b h))↔∃r∈(p 4).rows,rv p q h r=true/\(r 0).int=m:=by
 have:=(jy (p 4) (rv p q h) (p 4).rows.length (g8 _)).2 m
 rwa [C3] at this
end Go.Proofs.YtpdfmcmnjikppaaGreat
namespace Go.Proofs.YtpdfmcmnjikppaaGreat.HH
open Go.RowKit Go.Lib Go.Proofs.YtpdfmcmnjikppaaGreat.H
set_option maxRecDepth 100000
set_option maxHeartbeats 4000000
abbrev zh:Value:=.agg #[.int .i64 0,.slice none 0 0]
theorem alU(w:World):(zeroValue 75).run f4 w=.ok zh w:=Tryz.zeroValue75 w
theorem info_held:(Tryz.prog.info? 75).map (fun i=>(i.zero,i.size,i.bytes))=some (some zh,2,32):=by kernel_rfl
theorem del_held(b off n c i j:Nat)(cs:List Value)(w:World)(hj:j=i+1)(hi:i<n)(c2:n<=c)(c0:c<=9223372036854775807)(a8:cs.length=n*2)(a1:∀j v,cs[j]?=some v->w.cell? ⟨b,off+j,none⟩=some v)
  (a2:∀j,j<n*2->w.frozen? ⟨b,off+j,none⟩=false) (h1:∀v∈cs,v.oneCell'=true) :
  Calls f4 140 #[.slice (some ⟨b,off,none⟩) n c,.int .i64 i,.int .i64 j] w fun e w' =>
   e=.returned (.slice (some ⟨b,off,none⟩) (n - 1) c)/\w'=(w.drew.setCells b (off+i*2) (cs.drop (j*2))).setCells b (off+(n - 1)*2) zh.cells.toList:=by
 obtain⟨i0,a7,c4,a6,c3⟩:=info_parts info_held;have V:∀j,j<n*2->(w.cell? ⟨b,off+j,none⟩).isSome=true:=fun j hj=>by rw[a1 j _ (g6 (by omega))];rfl
 have b0:Tryz.prog.follows .mixedOrders=true:=by kernel_rfl
 have c5:¬((i:Int)=(j:Int)):=by omega
 obtain⟨J,U⟩:∃J,J=cs.drop (j*2):=⟨_,rfl⟩;have a0:J.length=(n - j)*2:=by rw[U,t5,a8,N0]
 have a3:∀t u,J[t]?=some u->w.cell? ⟨b,off+j*2+t,none⟩=some u:=fun t u O=>by rw[U,y0] at O;rw[p8];exact a1 _ u O
 have s2:Hid (∀u∈J,u.oneCell'=true):=fun u O=>h1 u (by rw[U] at O;exact B7 O)
 obtain⟨A,hA,a5⟩:∃A:Addr,(if c=j then some (⟨b,off,none⟩:Addr) else some ⟨b,off+j*2,none⟩)=some A/\Hid (∀t u,J[t]?=some u->w.drew.cell? (A.add t)=some u):=by
  by_cases h:c=j
  ·refine⟨⟨b,off,none⟩,by simp[h],fun t u O=>?_⟩;have h0:J.length=0:=by rw[a0];omega
   rw[L2.1 h0] at O;simp at O
  ·refine⟨⟨b,off+j*2,none⟩,by simp[h],fun t u O=>?_⟩;rw[z8];exact a3 t u O
 have s1:Hid (J.length=(n - j)*2):=a0;have s3:Hid (∀t,t<J.length->(w.drew.cell? ⟨b,off+i*2+t,none⟩).isSome=true/\w.drew.frozen? ⟨b,off+i*2+t,none⟩=false):=fun t Y=>by rw[a0] at Y;rw[p8];exact⟨V _ (by omega),a2 _ (by omega)⟩
 obtain⟨W1,Z⟩:∃W1,W1=w.drew.setCells b (off+i*2) J:=⟨_,rfl⟩;have c1:∀ty cc,(Builtin.clear_ #[35] ty #[.slice (some ⟨b,off+(n - 1)*2,none⟩) 1 cc]).run f4 W1=.ok (.tuple #[]) (W1.setCells b (off+(n - 1)*2) zh.cells.toList):=fun ty cc=>by
  refine Ke W1 _ _ ty zh Tryz.underlying35 alU (fun u O=>?_) b _ cc (by decide) (fun t Y=>?_) (fun t Y=>?_)
  ·simp[Value.cells] at O;rcases O with rfl | rfl <;> rfl
  ·have Y:t<2:=Y;rw[Z];refine ir b _ _ _ (fun j hj=>?_) _ ?_
   ·rw[p8];exact V _ (by omega)
   ·rw[p8];exact V _ (by omega)
  ·have Y:t<2:=Y;rw[Z,D8,p8];exact a2 _ (by omega)
 have a4:Hid (W1=w.drew.setCells b (off+i*2) J):=Z;have e1:i+(n - j)=n - 1:=by omega
 have e2:n - (n - 1)=1:=by omega
 have b1:i<=c:=by omega
 have b2:j<=c:=by omega
 have b5:j<=n:=by omega
 have b6:i<=j:=by omega
 have b3:¬(c=n - 1):=by omega
 have b4:n - 1<=n:=by omega
 clear Z a1 a2 V a3 a0 hj;go_enter Tryz.func140,Tryz.ntmps140
 go_wp2_with fail
 go_region_law_o (refine step_append_room rfl (.tmp 22) (.tmp 25) 35 rfl 75 i0 2 Tryz.underlying35 a7 a6 b off i c (by simp[Act.eval,Act.put]) A (n - j) (c - j) J (by simp[Act.eval,Act.put]) s1.out a5.out s2.out (by omega) s3.out ?_;rw[<- a4.out,e1])
 go_wp2
 go_ret
 refine⟨rfl,?_⟩;rw[a4.out,U];rfl
theorem ins_shift(b off n c i k U J vc:Nat)(cs vs:List Value)(w:World)(hk:k=i+1)(hi:i<n)(c8:n+1<=c)(d1:c<=9223372036854775807)(b3:U≠b)
  (c7:cs.length=n*2) (a4:vs.length=2)
  (b4:∀j v,cs[j]?=some v->w.cell? ⟨b,off+j,none⟩=some v) (a0:∀j,j<(n+1)*2->(w.cell? ⟨b,off+j,none⟩).isSome=true) (a5:∀j,j<(n+1)*2->w.frozen? ⟨b,off+j,none⟩=false)
  (b2:∀j v,vs[j]?=some v->w.cell? ⟨U,J+j,none⟩=some v) (c1:∀v∈cs,v.oneCell'=true) (c5:∀v∈vs,v.oneCell'=true)
  (tA tB:TypeId) (kA kB:Nat) (a7:w.shape? U=some (tA,kA)) (a8:w.shape? b=some (tB,kB)) (c0:kB≠0) (a6:w.frozen? ⟨U,J,none⟩=false) (b5:w.frozen? ⟨U,kA,none⟩=false) :
  Calls f4 118 #[.slice (some ⟨b,off,none⟩) n c,.int .i64 i,.slice (some ⟨U,J,none⟩) 1 vc] w fun e w' =>
   e=.returned (.slice (some ⟨b,off,none⟩) (n+1) c)/\w'=(w.drew.setCells b (off+k*2) (cs.drop (i*2))).setCells b (off+i*2) vs:=by
 obtain⟨i0,c4,e9,c3,e7⟩:=info_parts info_held;have c9:Tryz.prog.follows .mixedOrders=true:=by kernel_rfl
 have hz2:¬((i:Int)=(n:Int)):=by omega
 have b0:(Tryz.prog.info? 75).map (·.size)=some 2:=by rw[c4];simp[c3]
 have a1:=Tryz.underlying35;have c6:∀lb cb,(callFunc 216 #[.slice (some ⟨U,J,none⟩) 1 vc,.slice (some ⟨b,off+k*2,none⟩) lb cb]).run f4 w=.ok (.value (.bool false)) w:=fun lb cb=>by
  rw[run_callFunc_extern Tryz.func216 (by kernel_rfl) (by kernel_rfl) (by kernel_rfl) (e:=Extern.SlicesOverlaps.overlaps #[35,35] #[4]) (by kernel_rfl),
   Lib.run_overlaps_apart w 35 4 75 a1 2 Tryz.sizeOf75 ⟨U,J,none⟩ ⟨b,off+k*2,none⟩ 1 vc lb cb b3 tA tB kA kB a7 a8 c0 a6 b5]
  rfl
 have Y:(cs.drop (i*2)).length=(n - i)*2:=by rw[t5,c7,N0]
 have a3:∀ty Z sc,(Builtin.copy_ #[35,35] ty #[.slice (some ⟨b,off+k*2,none⟩) (n+1 - k) Z,.slice (some ⟨b,off+i*2,none⟩) (n+1 - i) sc]).run f4 w.drew=.ok (goInt ((n - i:Nat):Int)) (w.drew.setCells b (off+k*2) (cs.drop (i*2))):=fun ty Z sc =>
  fy w.drew _ _ ty 75 2 b (off+k*2) (n - i) (n+1 - k) Z ⟨b,off+i*2,none⟩ (n+1 - i) sc (cs.drop (i*2)) a1 b0 (by simp only[G3];split <;> omega) Y
   (fun j v O=>by rw[z8,p8];exact b4 (i*2+j) v (by rwa [y0] at O))
   (fun j O=>by rw[Y] at O;rw[p8];exact a0 _ (by omega)) (fun j O=>by rw[Y] at O;rw[p8];exact a5 _ (by omega)) (fun v hv=>c1 v (B7 hv))
 obtain⟨W1,V⟩:∃W1,W1=w.drew.setCells b (off+k*2) (cs.drop (i*2)):=⟨_,rfl⟩;have a2:∀t,t<(n+1)*2->(W1.cell? ⟨b,off+t,none⟩).isSome=true:=fun t ht=>by rw[V];exact ir b _ _ _ (fun j O=>by rw[Y] at O;rw[p8];exact a0 _ (by omega)) _ (a0 t ht)
 have b6:∀(W:World),(∀x,W.cell? x=W1.cell? x)->(∀x,W.frozen? x=W1.frozen? x)->∀ty Z,(Builtin.copy_ #[35,35] ty #[.slice (some ⟨b,off+i*2,none⟩) (n+1 - i) Z,.slice (some ⟨U,J,none⟩) 1 vc]).run f4 W=.ok (goInt 1) (W.setCells b (off+i*2) vs):=fun W b1 c2 ty Z =>
  fy W _ _ ty 75 2 b (off+i*2) 1 (n+1 - i) Z ⟨U,J,none⟩ 1 vc vs a1 b0 (by simp only[G3];split <;> omega) (by rw[a4])
   (fun j v O=>by rw[z8,b1,V,E2 b _ _ _ _ (fun h _=>absurd h b3)];exact b2 j v O)
   (fun j O=>by rw[a4] at O;rw[b1,p8];exact a2 _ (by omega)) (fun j O=>by rw[a4] at O;rw[c2,V,D8,p8];exact a5 _ (by omega)) c5
 have hE:Hid (W1=w.drew.setCells b (off+k*2) (cs.drop (i*2))):=V;rw[<- V] at a3;have e6:IntKind.i64.wrap ((n:Int)+1)=((n+1:Nat):Int):=by rw[A3];omega
 have d5:IntKind.i64.wrap ((i:Int)+1)=(k:Int):=by rw[A3];omega
 have e0:¬((n:Int)+1 > (c:Int)):=by omega
 have f0:¬(c=k):=by omega
 have f1:¬(c=i):=by omega
 have hin:i<=n:=by omega
 have d4:(k:Int)<=(n:Int)+1:=by omega
 have d2:(i:Int)<=(n:Int)+1:=by omega
 have d3:i<=n+1:=by omega
 clear a0 a5 b4 b2 a2 V a7 a8 a6 b5 hk Y;go_enter Tryz.func118,Tryz.ntmps118
 go_wp2_with (simp only[c6])
 go_region_law_o (refine step_copy_runI rfl _ _ 35 35 rfl _ _ (by simp[Act.eval,Act.put]) (by simp[Act.eval,Act.put]) (a3 _ _ _) ?_)
 go_wp2_with (at_builtin;refine wpList_copy_runI _ rfl _ _ 35 35 rfl _ _ rfl rfl (b6 _ (fun _=>rfl) (fun _=>rfl) _ _) ?_)
 go_ret
 exact⟨rfl,by rw[hE.out]⟩
theorem ins_end(base:Option Addr)(n c U J vc:Nat)(w w1:World)(O:Value)(a1:n<=c)(a0:c<=9223372036854775807)(hb:base=none->c=0)(V:∀ty,(Builtin.append_ #[35,35] ty #[.slice base n c,.slice (some ⟨U,J,none⟩) 1 vc]).run f4 w=.ok O w1) :
  Calls f4 118 #[.slice base n c,.int .i64 n,.slice (some ⟨U,J,none⟩) 1 vc] w fun e w'=>e=.returned O/\w'=w1:=by
 have Y:Tryz.prog.follows .mixedOrders=true:=by kernel_rfl
 cases base with
 | none =>
  have Z:=hb rfl;subst Z;obtain rfl:n=0:=by omega
  go_enter Tryz.func118,Tryz.ntmps118
  go_wp2_with (at_builtin;refine Lib.wpList_append_run _ rfl _ _ _ _ rfl _ _ rfl rfl _ _ (V _) ?_)
  all_goals (go_ret;exact⟨rfl,rfl⟩)
 | some a =>
  obtain⟨ab,ao,a2⟩:=a;go_enter Tryz.func118,Tryz.ntmps118
  go_wp2_with (at_builtin;refine Lib.wpList_append_run _ rfl _ _ _ _ rfl _ _ rfl rfl _ _ (V _) ?_)
  all_goals (go_ret;exact⟨rfl,rfl⟩)
theorem ins_grow(b off n i k vb a0 vc:Nat)(cs U:List Value)(w:World)(hk:k=i+1)(hi:i<n)(c4:(n+1)*32<=140737488355328)
  (c1:cs.length=n*2) (a7:U.length=2)
  (a4:∀j v,cs[j]?=some v->w.cell? ⟨b,off+j,none⟩=some v)
  (b3:∀j v,U[j]?=some v->w.cell? ⟨vb,a0+j,none⟩=some v) (d5:∀v∈cs,v.oneCell'=true) (e6:∀v∈U,v.oneCell'=true) :
  Calls f4 118 #[.slice (some ⟨b,off,none⟩) n n,.int .i64 i,.slice (some ⟨vb,a0,none⟩) 1 vc] w fun e w' =>
   e=.returned (.slice (some ⟨w.heap.size,0,none⟩) (n+1) (grownCap w (n+1) n 75)) /\
   w'=(((w.alloc (.cells ((cs.take (i*2)).toArray++Builtin.zeroCells zh.cells (n+1 - i)++Builtin.zeroCells zh.cells (grownCap w (n+1) n 75 - (n+1))) 75)).drew.setCells w.heap.size (i*2) U).drew).setCells w.heap.size (k*2) (cs.drop (i*2)):=by
 obtain⟨i0,c0,c5,b2,b4⟩:=info_parts info_held;have f0:Tryz.prog.follows .mixedOrders=true:=by kernel_rfl
 have a5:=Tryz.underlying35;have u3:=Tryz.underlying3;have hz2:¬((i:Int)=(n:Int)):=by omega
 have b1:(Tryz.prog.info? 75).map (·.size)=some 2:=by rw[c0];simp[b2]
 have d3:b<w.heap.size:=block_lt_of_cell (a4 0 _ (g6 (by omega)));have c6:vb<w.heap.size:=block_lt_of_cell (b3 0 _ (g6 (by omega)));have b0:i+(n+1 - i)=n+1:=by omega
 have a8:(Builtin.firstCells i0.size i (.slice (some ⟨b,off,none⟩) i n)).run f4 w.drew=.ok (cs.take (i*2)).toArray w.drew:=by
  rw[b2];exact run_firstCells_some w.drew 2 i ⟨b,off,none⟩ i n (cs.take (i*2)) (by rw[s9];omega) (fun j v O=>by
   rw[z8];rw[s7] at O
   split at O
   ·exact a4 j v O
   ·cases O)
 have g3:IntKind.i64.wrap (((n+1:Nat):Int) - (i:Int))=((n+1 - i:Nat):Int):=by rw[A3];omega
 have a3:∀V,(Builtin.append_ #[35,3] V #[.slice (some ⟨b,off,none⟩) i n,.int .i64 ((n+1 - i:Nat):Int)]).run f4 w =
   .ok (.slice (some ⟨w.heap.size,0,none⟩) (n+1) (grownCap w (n+1) n 75)) (w.drew.alloc (.cells ((cs.take (i*2)).toArray++Builtin.zeroCells zh.cells (n+1 - i)++Builtin.zeroCells zh.cells (grownCap w (n+1) n 75 - (n+1))) 75)):=fun V=>by
  have h:=Lib.run_append_grow_zeros w 35 3 V 75 i0 zh .i64 .i64 a5 u3 c0 c5 (some ⟨b,off,none⟩) i n (cs.take (i*2)) a8 (n+1 - i) (by omega) (by omega) (by omega) (by omega) (by rw[b4];omega) (by rw[b4,b0];exact growslice_fits (by omega) c4);rw[b0] at h;exact h
 obtain⟨G,hG⟩:∃G,G=grownCap w (n+1) n 75:=⟨_,rfl⟩;obtain⟨J,a2⟩:∃J:Array Value,J=(cs.take (i*2)).toArray++Builtin.zeroCells zh.cells (n+1 - i)++Builtin.zeroCells zh.cells (G - (n+1)):=⟨_,rfl⟩;rw[<- hG] at a3 ⊢;rw[<- a2] at a3 ⊢;have d1:(n+1)*2<=J.size:=by rw[a2];simp[Builtin.zeroCells,Value.cells,c1];omega
 obtain⟨Y,Z⟩:∃Y,Y=w.drew.alloc (.cells J 75):=⟨_,rfl⟩;rw[<- Z] at a3;have hN:∀j,j<(n+1)*2->(Y.cell? ⟨w.heap.size,j,none⟩).isSome=true:=fun j O=>by rw[Z,N1 (w:=w.drew) J _ w.heap.size j rfl,n3 (by omega)];rfl
 have b6:∀j,Y.frozen? ⟨w.heap.size,j,none⟩=false:=fun j=>by rw[Z];exact L8 (w:=w.drew) J _ w.heap.size j rfl
 have d2:∀j v,w.cell? ⟨b,j,none⟩=some v->Y.cell? ⟨b,j,none⟩=some v:=fun j v h=>by rw[Z,F7 (w:=w.drew) _ b j d3];exact h
 have e0:∀j v,w.cell? ⟨vb,j,none⟩=some v->Y.cell? ⟨vb,j,none⟩=some v:=fun j v h=>by rw[Z,F7 (w:=w.drew) _ vb j c6];exact h
 have c3:∀(W:World),(∀x,W.cell? x=Y.cell? x)->(∀x,W.frozen? x=Y.frozen? x)->∀V dc,(Builtin.copy_ #[35,35] V #[.slice (some ⟨w.heap.size,i*2,none⟩) (n+1 - i) dc,.slice (some ⟨vb,a0,none⟩) 1 vc]).run f4 W=.ok (goInt 1) (W.setCells w.heap.size (i*2) U):=fun W a1 a6 V dc =>
  fy W _ _ V 75 2 w.heap.size (i*2) 1 (n+1 - i) dc ⟨vb,a0,none⟩ 1 vc U a5 b1 (by simp only[G3];split <;> omega) (by rw[a7])
   (fun j v O=>by rw[z8,a1];exact e0 _ v (b3 j v O))
   (fun j O=>by rw[a7] at O;rw[a1];exact hN _ (by omega)) (fun j O=>by rw[a6];exact b6 _) e6
 have h3:n+1<=G:=by rw[hG];exact grownCap_ge w _ _ _
 have f2:G<=9223372036854775807:=by have:=grownCap_le_maxLen w (n+1) n 75 (by unfold maxLen;omega);rw[<- hG] at this;unfold maxLen at this;omega
 have c9:b≠w.heap.size:=by omega
 have b5:(cs.drop (i*2)).length=(n - i)*2:=by rw[t5,c1,N0]
 have c2:∀(W:World),(∀x,W.cell? x=(Y.setCells w.heap.size (i*2) U).cell? x)->(∀x,W.frozen? x=(Y.setCells w.heap.size (i*2) U).frozen? x)->∀V dc sc,(Builtin.copy_ #[35,35] V #[.slice (some ⟨w.heap.size,k*2,none⟩) (n+1 - k) dc,.slice (some ⟨b,off+i*2,none⟩) (n - i) sc]).run f4 W=.ok (goInt ((n - i:Nat):Int)) (W.setCells w.heap.size (k*2) (cs.drop (i*2))):=fun W a1 a6 V dc sc =>
  fy W _ _ V 75 2 w.heap.size (k*2) (n - i) (n+1 - k) dc ⟨b,off+i*2,none⟩ (n - i) sc (cs.drop (i*2)) a5 b1 (by simp only[G3];split <;> omega) b5
   (fun j v O=>by rw[z8,a1,E2 _ _ _ _ _ (fun h _=>absurd h c9),p8];exact d2 _ v (a4 (i*2+j) v (by rwa [y0] at O)))
   (fun j O=>by rw[b5] at O;rw[a1];exact ir _ _ _ _ (fun t ht=>by rw[a7] at ht;exact hN _ (by omega)) _ (hN _ (by omega)))
   (fun j O=>by rw[a6,D8];exact b6 _) (fun v hv=>d5 v (B7 hv))
 subst Z;have c7:∀x,((w.alloc (.cells J 75)).drew).cell? x=(w.drew.alloc (.cells J 75)).cell? x:=fun x=>rfl
 have c8:∀x,((w.alloc (.cells J 75)).drew).frozen? x=(w.drew.alloc (.cells J 75)).frozen? x:=fun x=>rfl
 have d4:∀x,(((w.alloc (.cells J 75)).drew.setCells w.heap.size (i*2) U).drew).cell? x=((w.drew.alloc (.cells J 75)).setCells w.heap.size (i*2) U).cell? x:=fun x=>rfl
 have e7:∀x,(((w.alloc (.cells J 75)).drew.setCells w.heap.size (i*2) U).drew).frozen? x=((w.drew.alloc (.cells J 75)).setCells w.heap.size (i*2) U).frozen? x:=fun x=>rfl
 have h0:IntKind.i64.wrap ((n:Int)+1)=((n+1:Nat):Int):=by rw[A3];omega
 have g2:IntKind.i64.wrap ((i:Int)+1)=(k:Int):=by rw[A3];omega
 have h5:IntKind.i64.wrap ((n:Int)+1 - (i:Int))=((n+1 - i:Nat):Int):=by rw[A3];omega
 have g1:(n:Int)+1 - (i:Int)=((n+1 - i:Nat):Int):=by omega
 have h6:(n:Int)+1 > (n:Int):=by omega
 have h4:¬(n=i):=by omega
 have h7:¬(G=i):=by omega
 have h2:¬(G=k):=by omega
 have hin:i<=n:=by omega
 have f3:(i:Int)<=(n:Int):=by omega
 have f1:(k:Int)<=(n:Int)+1:=by omega
 have e9:(i:Int)<=(n:Int)+1:=by omega
 clear a8 a2 hG d1 b0 hk;go_enter Tryz.func118,Tryz.ntmps118
 go_wp2_with (first
  | (at_builtin;refine Lib.wpList_append_run _ rfl _ _ _ _ rfl _ _ rfl rfl _ _ (a3 _) ?_)
  | (at_builtin;refine wpList_copy_runI _ rfl _ _ 35 35 rfl _ _ rfl rfl (c3 _ c7 c8 _ _) ?_))
 go_region_law_o (refine step_copy_runI rfl _ _ 35 35 rfl (.slice (some ⟨w.heap.size,k*2,none⟩) (n+1 - k) (G - k)) (.slice (some ⟨b,off+i*2,none⟩) (n - i) (n - i)) (by simp[Act.eval,Act.put]) (by simp[Act.eval,Act.put]) (c2 _ d4 e7 3 (G - k) (n - i)) ?_)
 go_wp2
 go_ret
 exact⟨rfl,rfl⟩
end Go.Proofs.YtpdfmcmnjikppaaGreat.HH
namespace Go.Proofs.YtpdfmcmnjikppaaGreat
set_option maxRecDepth 100000
set_option maxHeartbeats 4000000
open Go.RowKit Go.Lib
def II(w:World)(n:Nat)(cs:List Value)(u:Value)(B:Option Nat):Prop:=cs.length=n*2/\(∀v∈cs,v.oneCell'=true)/\((B=none/\n=0/\∃A,u=.slice A 0 0) \/
 ∃(b cap:Nat) (J:Array Value),B=some b/\u=.slice (some ⟨b,0,none⟩) n cap/\n<=cap/\cap<=9223372036854775807/\w.heap[b]?=some (.cells J 75 (0,0))/\J.size=cap*2/\∀(k:Nat) v,cs[k]?=some v->J[k]?=some v)
theorem EN{w:World}{n m cap b:Nat}{cs:List Value}{J:Array Value}(Y:w.heap[b]?=some (.cells J 75 (0,0)))(hn:m=n)(hs:J.size=cap*2)(V:n<=cap)(U:cap<=9223372036854775807)
  (Z:∀(k:Nat) v,cs[k]?=some v->J[k]?=some v):((some b:Option Nat)=none/\n=0/\∃A,Value.slice (some ⟨b,0,none⟩) m cap=.slice A 0 0) \/
 ∃(b' O:Nat) (J:Array Value),some b=some b'/\Value.slice (some ⟨b,0,none⟩) m cap=.slice (some ⟨b',0,none⟩) n O/\n<=O/\O<=9223372036854775807/\w.heap[b']?=some (.cells J 75 (0,0))/\J.size=O*2/\∀(k:Nat) v,cs[k]?=some v->J[k]?=some v:=by
 subst hn;exact .inr ⟨b,cap,J,rfl,rfl,V,U,Y,hs,Z⟩
theorem ahS{w:World}{n c:Nat}{cs J:List Value}{base:Option Addr}{B:Option Nat}(hO:II w n cs (.slice base n c) B)(vb O vc:Nat)(hn:n<=1000000)(Y:J.length=2)(b2:∀v∈J,v.oneCell'=true)
  (hv:∀(k:Nat) v,J[k]?=some v->w.cell? ⟨vb,O+k,none⟩=some v) :
  ∃v' w1 B',(∀Z,(Builtin.append_ #[35,35] Z #[.slice base n c,.slice (some ⟨vb,O,none⟩) 1 vc]).run f4 w=.ok v' w1)/\aI w w1 B/\II w1 (n+1) (cs++J) v' B'/\∀b,B'=some b->B=some b\/w.heap.size<=b:=by
 obtain⟨a0,b5,hO⟩:=hO;have a7:(cs++J).length=(n+1)*2:=by rw[i5,a0,Y];omega
 have b1:∀v∈cs++J,v.oneCell'=true:=fun v hv=>(m7.1 hv).elim (b5 v) (b2 v)
 obtain⟨i0,a2,a6,V,a4⟩:=info_parts HH.info_held;have a1:J.length=1*i0.size:=by rw[V,Y]
 have U:∀(j:Nat) v,J[j]?=some v->w.cell? ((⟨vb,O,none⟩:Addr).add j)=some v:=fun j v hj=>by rw[z8];exact hv j v hj
 have b6:HH.zh.cells.size=2:=rfl
 -- a new block
 have a8:∀(old:Nat),(w.drew.alloc (.cells (cs.toArray++J.toArray++Builtin.zeroCells HH.zh.cells (grownCap w (n+1) old 75 - (n+1))) 75)).heap.size=w.heap.size+1 /\
   aI w (w.drew.alloc (.cells (cs.toArray++J.toArray++Builtin.zeroCells HH.zh.cells (grownCap w (n+1) old 75 - (n+1))) 75)) B /\
   II (w.drew.alloc (.cells (cs.toArray++J.toArray++Builtin.zeroCells HH.zh.cells (grownCap w (n+1) old 75 - (n+1))) 75)) (n+1) (cs++J) (.slice (some ⟨w.heap.size,0,none⟩) (n+1) (grownCap w (n+1) old 75)) (some w.heap.size):=by
  intro old;have a5:=grownCap_ge w (n+1) old 75;have b4:=grownCap_le_maxLen w (n+1) old 75 (by unfold maxLen;omega);refine⟨by simp[World.alloc],⟨rfl,rfl,rfl,by simp[World.alloc],fun k hk _=>Below.heap_alloc w.drew _ k hk⟩,⟨a7,b1,EN (by letI:Low:=yO;exact fw w.drew _) rfl ?_ (by simpa using a5) (by unfold maxLen at b4;omega) fun k v hk=>?_⟩⟩
  ·simp only[A9,z6,a0,Y,size_zeroCells,b6,C2,F0];omega
  ·have c0:=(g5.1 hk).1;rw[r9 (by simpa using c0)];simpa using hk
 rcases hO with⟨rfl,rfl,A,hA⟩ | ⟨b,cap,arr,rfl,hA,hle,h63,hh,hs,hc⟩
 ·injection hA with e0 e1 e2
  subst e0 e2;obtain rfl:cs = []:=t6 (by rw[a0]);obtain⟨_,q2,q3⟩:=a8 0;refine⟨_,_,some w.heap.size,fun Z=>?_,q2,q3,fun b hb=>.inr (by injection hb with hb;omega)⟩;cases base with
  | none =>have:=run_append_nil (P:=f4) w 35 Z 75 i0 HH.zh Tryz.underlying35 a2 a6 ⟨vb,O,none⟩ 1 vc J a1 U (by omega) (by omega) (by rw[a4];omega);rw[this];simp
  | some a =>have:=run_append_grow (P:=f4) w 35 Z 75 i0 HH.zh Tryz.underlying35 a2 a6 a 0 0 [] (by simp) (fun j v hj=>by simp at hj) ⟨vb,O,none⟩ 1 vc J a1 U (by omega) (by omega) (by rw[a4];exact growslice_fits (by omega) (by omega));rw[this]
 ·injection hA with e0 e1 e2
  subst e0 e2;by_cases a3:n+1<=c
  ·have b3:n*i0.size+J.length<=arr.size:=by rw[V,hs];rw[Y];omega
   have c3:=Y;have c2:=a0;refine⟨_,_,some b,fun Z=>run_append_room (P:=f4) w 35 Z 75 i0 Tryz.underlying35 a2 b n c arr hh ⟨vb,O,none⟩ 1 vc J a1 U b2 a3 b3,⟨rfl,rfl,rfl,by simp,fun k _ hk=>setRow_other w b k _ (fun e=>hk (by rw[e]))⟩,?_,fun b hb=>.inl hb⟩;refine⟨a7,b1,EN (setRow_heap w b arr _ _ _ hh) rfl ?_ (by simpa using a3) h63 fun k v hk=>?_⟩
   ·simp only[z6,i5,s9,t5,E6,c3,V];omega
   ·rw[w9] at hk;rw[F3,z7,w9,V];have c1:(arr.toList.take (n*2)).length=n*2:=by have e0:arr.toList.length=arr.size:=E6;rw[s9,e0,hs];omega
    rw[c1];rw[c2] at hk
    split at hk
    ·rename_i b0;rw[j8 b0,s7,j8 b0,M2];exact hc k v (by exact hk)
    ·rename_i a5;rw[i7 a5,v9 (g5.1 hk).1];exact hk
  ·obtain⟨_,q2,q3⟩:=a8 c;refine⟨_,_,some w.heap.size,fun Z=>?_,q2,q3,fun b hb=>.inr (by injection hb with hb;omega)⟩;exact run_append_grow (P:=f4) w 35 Z 75 i0 HH.zh Tryz.underlying35 a2 a6 ⟨b,0,none⟩ n c cs (by rw[a0,V]) (fun j v hj=>by rw[z8,i9,dx hh];exact hc j v hj) ⟨vb,O,none⟩ 1 vc J a1 U (by omega) (by omega) (by rw[a4];exact growslice_fits (by omega) (by omega))
theorem Mz{cs O:List Value}{n i:Nat}(U:cs.length=n*2)(Y:O.length=2)(hi:i<=n){k:Nat}{v:Value}(hk:(cs.take (i*2)++O++cs.drop (i*2))[k]?=some v) :
  (k<i*2/\cs[k]?=some v)\/(i*2<=k/\k<(i+1)*2/\O[k - i*2]?=some v)\/((i+1)*2<=k/\(cs.drop (i*2))[k - (i+1)*2]?=some v):=by
 have V:(cs.take (i*2)).length=i*2:=by rw[s9,U];omega
 rw[z7,w9,V] at hk
 split at hk
 ·rename_i J;rw[s7,j8 J] at hk;exact .inl ⟨J,hk⟩
 ·rename_i Z;rw[w9,Y] at hk
  split at hk
  ·exact .inr (.inl ⟨by omega,by omega,hk⟩)
  ·refine .inr (.inr ⟨by omega,?_⟩);rw[show k - (i+1)*2=k - i*2 - 2 from by omega];exact hk
theorem YU{w:World}{n i:Nat}{cs O:List Value}{u uv:Value}{B B2:Option Nat}(hO:II w n cs u B)(b6:II w 1 O uv B2)(hB:∀b,B=some b->B2=some b->False)(g2:n<=1000000)(h5:i<=n) :
  Calls f4 118 #[u,.int .i64 (i:Int),uv] w fun ex w'=>∃v' B',ex=.returned v'/\aI w w' B/\II w' (n+1) (cs.take (i*2)++O++cs.drop (i*2)) v' B'/\∀b,B'=some b->B=some b\/w.heap.size<=b:=by
 obtain⟨V,a0,c6⟩:=hO;have hO:II w n cs u B:=⟨V,a0,c6⟩;obtain⟨J,a7,b6⟩:=b6;have J:O.length=2:=J;rcases b6 with⟨_,h,_⟩ | ⟨vb,vc,varr,rfl,rfl,_,hvc63,hvh,_,hvc⟩
 ·omega
 have c0:∀(k:Nat) v,O[k]?=some v->w.cell? ⟨vb,0+k,none⟩=some v:=fun k v hk=>by rw[i9,dx hvh];exact hvc k v hk
 have f0:(cs.take (i*2)++O++cs.drop (i*2)).length=(n+1)*2:=by rw[i5,i5,s9,t5,V,J];omega
 have e7:∀v∈cs.take (i*2)++O++cs.drop (i*2),v.oneCell'=true:=fun v hv=>by
  rcases m7.1 hv with hv | hv
  ·rcases m7.1 hv with hv | hv
   ·exact a0 v (K0 hv)
   ·exact a7 v hv
  ·exact a0 v (B7 hv)
 by_cases b0:i=n
 ·have f2:cs.take (i*2)++O++cs.drop (i*2)=cs++O:=by rw[b0,<- V,C3,List.drop_length,B9]
  rw[f2];have c7:∃base c,u=.slice base n c/\n<=c/\c<=9223372036854775807/\(base=none->c=0):=by
   rcases c6 with⟨_,h0,A,rfl⟩ | ⟨b,cap,arr,rfl,rfl,a8,Y,_⟩
   ·exact⟨A,0,by rw[h0],by omega,by omega,fun _=>rfl⟩
   ·exact⟨_,cap,rfl,a8,Y,fun h=>by cases h⟩
  obtain⟨base,c,rfl,a8,Y,h4⟩:=c7;obtain⟨v',w1,B',k1,k2,k3,k4⟩:=ahS hO vb 0 vc g2 J a7 c0;rw[b0];refine (HH.ins_end base n c vb 0 vc w w1 v' a8 Y h4 k1).mono ?_;rintro ex w' ⟨rfl,rfl⟩;exact⟨_,B',rfl,k2,k3,k4⟩
 ·have e0:i<n:=by omega
  rcases c6 with⟨_,h0,_⟩ | ⟨b,cap,arr,rfl,rfl,a8,Y,hh,hs,hc⟩
  ·omega
  ·have g1:vb≠b:=by rintro rfl;exact hB _ rfl rfl
   have e9:∀(j:Nat) v,cs[j]?=some v->w.cell? ⟨b,0+j,none⟩=some v:=fun j v hj=>by rw[i9,dx hh];exact hc j v hj
   have f1:(cs.drop (i*2)).length=(n - i)*2:=by rw[t5,V];omega
   by_cases c8:n+1<=cap
   ·have:=HH.ins_shift b 0 n cap i (i+1) vb 0 vc cs O w rfl e0 c8 Y g1 V J e9
     (fun j hj=>by rw[i9,dx hh,n3 (by omega)];rfl) (fun j _=>gL hh _) c0 a0 a7 75 75 varr.size arr.size (by simp[World.shape?,hvh]) (by simp[World.shape?,hh]) (by omega) (gL hvh _) (gL hvh _)
    refine this.mono ?_;rintro ex w' ⟨rfl,rfl⟩;obtain⟨a6,a1,a2,a3,a4⟩:=bA b 75 (0,0) (cs.drop (i*2)) (0+(i+1)*2) w.drew arr hh (by rw[f1,hs];omega);obtain⟨f3,b1,b2,b3,b4⟩:=bA b 75 (0,0) O (0+i*2) _ a6 a1 (by rw[J,a2,hs];omega);obtain⟨c1,c2,c3,c4,c5⟩:=bu b (cs.drop (i*2)) (0+(i+1)*2) w.drew;obtain⟨d1,d2,d3,d4,d5⟩:=bu b O (0+i*2) (w.drew.setCells b (0+(i+1)*2) (cs.drop (i*2)));refine⟨_,some b,rfl,⟨d1.trans c1,d2.trans c2,d3.trans c3,C5 (d4.trans c4).symm,fun k _ hk=>(d5 k (fun e=>hk (by rw[e]))).trans (c5 k (fun e=>hk (by rw[e])))⟩,?_,fun b hb=>.inl hb⟩;refine⟨f0,e7,EN b1 rfl (by rw[b2,a2,hs]) (by omega) Y fun k v hk=>?_⟩;rcases Mz V J (by omega) hk with⟨q1,Z⟩ | ⟨q1,Z,q3⟩ | ⟨q1,Z⟩
    ·rw[b3 k (.inl (by omega)),a3 k (.inl (by omega))];exact hc k v Z
    ·have:=b4 _ v q3
     rwa [show 0+i*2+(k - i*2)=k from by omega] at this
    ·rw[b3 k (.inr (by rw[J];omega))];have:=a4 _ v Z
     rwa [show 0+(i+1)*2+(k - (i+1)*2)=k from by omega] at this
   ·obtain rfl:cap=n:=by omega
    have:=HH.ins_grow b 0 cap i (i+1) vb 0 vc cs O w rfl e0 (by omega) V J e9 c0 a0 a7;refine this.mono ?_;rintro ex w' ⟨rfl,rfl⟩;have h2:=grownCap_ge w (cap+1) cap 75;have c9:=grownCap_le_maxLen w (cap+1) cap 75 (by unfold maxLen;omega);obtain⟨G,hG⟩:∃G,G=grownCap w (cap+1) cap 75:=⟨_,rfl⟩;rw[<- hG] at h2 c9 ⊢;have g3:HH.zh.cells.size=2:=rfl;obtain⟨U,a5⟩:∃U:Array Value,U=(cs.take (i*2)).toArray++Builtin.zeroCells HH.zh.cells (cap+1 - i)++Builtin.zeroCells HH.zh.cells (G - (cap+1)):=⟨_,rfl⟩;have e6:(cs.take (i*2)).length=i*2:=by rw[s9,V];omega
    have b5:U.size=G*2:=by rw[a5];simp only[A9,z6,e6,size_zeroCells,g3];omega
    have h3:∀(k:Nat) v,k<i*2->cs[k]?=some v->U[k]?=some v:=fun k v hk hv=>by rw[a5,J2,r9 (by simp only[z6,e6];exact hk)];simp[s7,hk,hv]
    rw[<- a5];have hW:((w.alloc (.cells U 75)).drew).heap[w.heap.size]?=some (.cells U 75 (0,0)):=by letI:Low:=yO;exact fw w _
    obtain⟨a6,a1,a2,a3,a4⟩:=bA w.heap.size 75 (0,0) O (i*2) _ U hW (by rw[J,b5];omega);obtain⟨f3,b1,b2,b3,b4⟩:=bA w.heap.size 75 (0,0) (cs.drop (i*2)) ((i+1)*2) ((((w.alloc (.cells U 75)).drew).setCells w.heap.size (i*2) O).drew) a6 a1 (by rw[f1,a2,b5];omega);obtain⟨c1,c2,c3,c4,c5⟩:=bu w.heap.size O (i*2) ((w.alloc (.cells U 75)).drew);obtain⟨d1,d2,d3,d4,d5⟩:=bu w.heap.size (cs.drop (i*2)) ((i+1)*2) ((((w.alloc (.cells U 75)).drew).setCells w.heap.size (i*2) O).drew);refine⟨_,some w.heap.size,rfl,⟨d1.trans c1,d2.trans c2,d3.trans c3,?_,fun k hk _=>(d5 k (by omega)).trans ((c5 k (by omega)).trans (Below.heap_alloc w _ k hk))⟩,?_,fun b hb=>.inr (by injection hb with hb;omega)⟩
    ·refine o8 ?_ (C5 (d4.trans c4).symm);show w.heap.size<=(w.heap.push _).size;rw[Array.size_push];omega
    ·refine⟨f0,e7,EN b1 rfl (by rw[b2,a2,b5]) (by omega) (by unfold maxLen at c9;omega) fun k v hk=>?_⟩;rcases Mz V J (by omega) hk with⟨q1,Z⟩ | ⟨q1,Z,q3⟩ | ⟨q1,Z⟩
     ·rw[b3 k (.inl (by omega)),a3 k (.inl (by omega))];exact h3 k v q1 Z
     ·rw[b3 k (.inl (by omega))];have:=a4 _ v q3
      rwa [show i*2+(k - i*2)=k from by omega] at this
     ·have:=b4 _ v Z
      rwa [show (i+1)*2+(k - (i+1)*2)=k from by omega] at this
theorem Zp{w:World}{n i:Nat}{cs:List Value}{u:Value}{B:Option Nat}(Z:II w n cs u B)(hin:i<n) :
  Calls f4 140 #[u,.int .i64 (i:Int),.int .i64 ((i+1:Nat):Int)] w fun ex w'=>∃v' B',ex=.returned v'/\aI w w' B/\II w' (n - 1) (cs.take (i*2)++cs.drop ((i+1)*2)) v' B'/\∀b,B'=some b->B=some b\/w.heap.size<=b:=by
 obtain⟨O,J,Z⟩:=Z;rcases Z with⟨_,h0,_⟩ | ⟨b,cap,arr,rfl,rfl,hle,h63,hh,hs,hc⟩
 ·omega
 ·have:=HH.del_held b 0 n cap i (i+1) cs w rfl hin hle h63 O (fun j v hj=>by rw[i9,dx hh];exact hc j v hj) (fun j _=>gL hh _) J;refine this.mono ?_;rintro ex w' ⟨rfl,rfl⟩;have V:(cs.drop ((i+1)*2)).length=(n - (i+1))*2:=by rw[t5,O];omega
  obtain⟨a0,a1,a2,a3,a4⟩:=bA b 75 (0,0) (cs.drop ((i+1)*2)) (0+i*2) w.drew arr hh (by rw[V,hs];omega);have hz:HH.zh.cells.toList.length=2:=rfl;obtain⟨a8,b1,b2,b3,b4⟩:=bA b 75 (0,0) HH.zh.cells.toList (0+(n - 1)*2) _ a0 a1 (by rw[hz,a2,hs];omega);obtain⟨c1,c2,c3,c4,c5⟩:=bu b (cs.drop ((i+1)*2)) (0+i*2) w.drew;obtain⟨d1,d2,d3,d4,d5⟩:=bu b HH.zh.cells.toList (0+(n - 1)*2) (w.drew.setCells b (0+i*2) (cs.drop ((i+1)*2)));have U:(cs.take (i*2)).length=i*2:=by rw[s9,O];omega
  have Y:(cs.take (i*2)++cs.drop ((i+1)*2)).length=(n - 1)*2:=by rw[i5,U,V];omega
  have a7:∀v∈cs.take (i*2)++cs.drop ((i+1)*2),v.oneCell'=true:=fun v hv=>by
   rcases m7.1 hv with hv | hv
   ·exact J v (K0 hv)
   ·exact J v (B7 hv)
  refine⟨_,some b,rfl,⟨d1.trans c1,d2.trans c2,d3.trans c3,C5 (d4.trans c4).symm,fun k _ hk=>(d5 k (fun e=>hk (by rw[e]))).trans (c5 k (fun e=>hk (by rw[e])))⟩,?_,fun b hb=>.inl hb⟩;refine⟨Y,a7,EN b1 rfl (by rw[b2,a2,hs]) (by omega) h63 fun k v hk=>?_⟩;have a6:=(g5.1 hk).1;rw[Y] at a6;rw[b3 k (.inl (by omega))];rw[w9,U] at hk
  split at hk
  ·rename_i a5;rw[a3 k (.inl (by omega))];rw[s7,j8 a5] at hk;exact hc k v hk
  ·have:=a4 (k - i*2) v hk
   rwa [show 0+i*2+(k - i*2)=k from by omega] at this
theorem tE(m:Nat)(cs:List Value):∀a b:List Nat,kp m cs (a++b)=kp m cs a++kp m cs b
 | [],b=>rfl
 | k::a,b=>by rw[I8,kp,kp,tE m cs a b,z7]
theorem kI(m:Nat)(cs:List Value):∀(k a:Nat),kp m cs (List.range' a k)=(cs.drop (a*m)).take (k*m)
 | 0,a=>by rw[K2];rfl
 | k+1,a=>by rw[M5,kp,kI m cs k (a+1),C8 a m,show (k+1)*m=m+k*m from by rw[C8];omega,List.take_add,List.drop_drop]
theorem pI(l:List b8):∀(k a:Nat),a+k<=l.length->(List.range' a k).map (fun k=>l.getD k [])=(l.drop a).take k
 | 0,a,_=>rfl
 | k+1,a,h=>by
  have J:l.drop a=l[a]'(by omega)::l.drop (a+1):=H4 (by omega);rw[M5,u5,pI l k (a+1) (by omega),J,E4]
  congr 1
  rw[f9,g6 (show a<l.length by omega)];rfl
theorem Rz:bk f4 75=some [.int .i64,.sl 70]:=by kernel_rfl
theorem acp{n i:Nat}(h:i<=n):(List.range' 0 i ++ [n]++List.range' i (n - i)).Nodup:=by
 rw[J7,J7];refine⟨⟨L9,by simp,fun a J b O=>?_⟩,L9,fun a J b O=>?_⟩
 ·simp only[K8,n4] at J O;omega
 ·simp only[m7,K8,n4] at J O;omega
def jP(h:D)(i:Int)(v:D):D:=.l (h.rows.take i.toNat++v.rows++h.rows.drop i.toNat)
def abh:Ent:=(118,e3 (sd (.sl 75)) ri (sd (.sl 75)) fun p q r=>(⟨.tup [.agg [.any,.any,.any]],[jP (p 0) (q 0).int (r 0)]⟩,inB (q 0).int 0 (p 0:Int)&&leI (p 0) 1000000&&((r 0).rows.length==1)))
theorem acx:aw f4 abh:=em fun p q r h=>by
 have h:(inB (q 0).int 0 (p 0:Int)&&leI (p 0) 1000000&&((r 0).rows.length==1))=true:=h;simp only[a9] at h;obtain⟨⟨h1,Y⟩,V⟩:=h;have V:(r 0).rows.length=1:=by simpa using V
 have Y:(p 0:Int)<=1000000:=j9 Y;have h1:0<=(q 0).int/\(q 0).int<=(p 0:Int):=by simpa [inB,leI] using h1
 refine aQ.ofX rfl ⟨cN Tryz.func118 (by kernel_rfl) (by kernel_rfl),fun e x n z row J O=>?_⟩;injection J with J hre
 injection hre with he2 hre
 injection hre with he3 hre
 injection J with J hp
 injection J with J
 injection J with J
 injection J with J
 injection J with J
 injection he2 with he2 hq
 subst J hp hq he3;rw[Rz] at O;injection O with O
 subst O;change 0<=n.int/\n.int<=(x:Int) at h1;change (x:Int)<=1000000 at Y;obtain⟨i,hi⟩:∃i:Nat,n.int=(i:Int):=⟨n.int.toNat,by omega⟩;have hin:i<=x.rows.length:=by omega
 refine⟨List.range' 0 i ++ [x.rows.length]++List.range' i (x.rows.length - i),acp hin,fun k hk=>?_,?_,fun w u v B B2 cs cs2 Z hB hz=>?_⟩
 ·show k<(x.rows++(r 0).rows).length;rw[i5,V];simp only[m7,K8,n4] at hk;omega
 ·show x.rows.take n.int.toNat++(r 0).rows++x.rows.drop n.int.toNat=List.map (fun k=>(x.rows++(r 0).rows).getD k []) _;rw[hi,g4,u9,u9,pI _ _ _ (by rw[i5];omega),pI _ _ _ (by rw[i5];omega),N7,G4 hin,J0 hin,G4 (by rw[t5];exact g8 _),z9 (show (x.rows.drop i).length<=x.rows.length - i by rw[t5];exact g8 _)]
  congr 2
  obtain⟨y,hy⟩:=List.length_eq_one_iff.1 V;rw[hy];show[y] = [(x.rows ++ [y]).getD x.rows.length []];rw[f9,A5 (g8 _),Nat.sub_self];rfl
 ·rcases hz with⟨h,_⟩ | ⟨_,U⟩
  ·cases h
  ·have U:II w (r 0).rows.length cs2 v B2:=U;rw[V] at U;have a0:cs.length=x.rows.length*2:=Z.1;have a1:cs2.length=2:=by have:=U.1;omega
   rw[hi];refine (YU (show II w x.rows.length cs u B from Z) U hB (by omega) hin).mono ?_;rintro ex w' ⟨v',B',k1,k2,k3,k4⟩;refine⟨v',B',k1,k2,?_,k4⟩;have e1:(List.range' 0 i ++ [x.rows.length]++List.range' i (x.rows.length - i)).length=x.rows.length+1:=by simp only[i5,List.length_range',D3];omega
   have e2:kp 2 (cs++cs2) (List.range' 0 i ++ [x.rows.length]++List.range' i (x.rows.length - i))=cs.take (i*2)++cs2++cs.drop (i*2):=by
    rw[tE,tE,kI,kI,K2,N7,G4 (by omega),J0 (by omega),G4 (by rw[t5];omega),z9 (show (cs.drop (i*2)).length<=(x.rows.length - i)*2 by rw[t5];omega)]
    congr 2
    show ((cs++cs2).drop (x.rows.length*2)).take 2 ++ []=cs2;rw[B9,<- a0,List.drop_left,z9 (by omega)]
   rw[show ([.int .i64,.sl 70]:List S).length=2 from rfl,e1,e2];exact k3
def mH(h:D)(i:Int):D:=.l (h.rows.take i.toNat++h.rows.drop (i.toNat+1))
def aaS:Ent:=(140,e3 (sd (.sl 75)) ri ri fun p q r=>(⟨.tup [.agg [.any,.any,.any]],[mH (p 0) (q 0).int]⟩,leI 0 (q 0).int&&ltI (q 0).int (p 0:Int)&&((r 0).int==(q 0).int+1)))
theorem ach:aw f4 aaS:=em fun p q r h=>by
 have h:(leI 0 (q 0).int&&ltI (q 0).int (p 0:Int)&&((r 0).int==(q 0).int+1))=true:=h;simp only[a9] at h;obtain⟨⟨h1,V⟩,U⟩:=h;have U:(r 0).int=(q 0).int+1:=by simpa using U
 have h1:0<=(q 0).int:=j9 h1;have V:(q 0).int<(p 0:Int):=j9 V;refine aQ.ofX rfl ⟨cN Tryz.func140 (by kernel_rfl) (by kernel_rfl),fun e x n z row J O=>?_⟩;injection J with J hre
 injection hre with he2 hre
 injection hre with he3 hre
 injection J with J hp
 injection J with J
 injection J with J
 injection J with J
 injection J with J
 injection he2 with he2 hq
 subst J hp hq he3;rw[Rz] at O;injection O with O
 subst O;change 0<=n.int at h1;change n.int<(x:Int) at V;change (r 0).int=n.int+1 at U;obtain⟨i,hi⟩:∃i:Nat,n.int=(i:Int):=⟨n.int.toNat,by omega⟩;have hin:i<x.rows.length:=by omega
 refine⟨List.range' 0 i++List.range' (i+1) (x.rows.length - (i+1)),?_,fun k hk=>?_,?_,fun w u v B B2 cs cs2 Y hB hz=>?_⟩
 ·rw[J7];refine⟨L9,L9,fun a ha b hb=>?_⟩;simp only[K8] at ha hb;omega
 ·show k<(x.rows ++ []).length;rw[B9];simp only[m7,K8] at hk;omega
 ·show x.rows.take n.int.toNat++x.rows.drop (n.int.toNat+1)=List.map (fun k=>(x.rows ++ []).getD k []) _;rw[hi,g4,B9,u9,pI _ _ _ (by omega),pI _ _ _ (by omega),N7,z9 (show (x.rows.drop (i+1)).length<=x.rows.length - (i+1) by rw[t5];exact g8 _)]
 ·rcases hz with⟨_,hv,rfl⟩ | ⟨h,_⟩
  ·have a0:cs.length=x.rows.length*2:=Y.1;have hv:v=.int .i64 ((i+1:Nat):Int):=by rw[hv];show Value.int .i64 (r 0).int=_;rw[U,hi];rfl
   subst hv;rw[hi];refine (Zp (show II w x.rows.length cs u B from Y) hin).mono ?_;rintro ex w' ⟨v',B',Z,k2,k3,k4⟩;refine⟨v',B',Z,k2,?_,k4⟩;have e1:(List.range' 0 i++List.range' (i+1) (x.rows.length - (i+1))).length=x.rows.length - 1:=by simp only[i5,List.length_range'];omega
   have e2:kp 2 (cs ++ []) (List.range' 0 i++List.range' (i+1) (x.rows.length - (i+1)))=cs.take (i*2)++cs.drop ((i+1)*2):=by rw[B9,tE,kI,kI,K2,N7,z9 (show (cs.drop ((i+1)*2)).length<=(x.rows.length - (i+1))*2 by rw[t5];omega)]
   rw[show ([.int .i64,.sl 70]:List S).length=2 from rfl,e1,e2];exact k3
  ·cases h
set_option maxRecDepth 4096
set_option maxHeartbeats 1000000
def rM:Ent:=HT [37,99]
theorem AI:aw f4 rM:=rF _
abbrev nI:=find [lS,uH,abv,mX,gC,yr,Hj,Md,Zr,Uo,wz,oL,ahh,to,abh,pu,rM]
abbrev nD:=[0,1,2,3,4,8,9,10,11,12,13,36,42,56,78,80]
def dr(N:Nat)(p q r s:b8):b8->Out:=bc f4 nI N nD Tryz.f25 (.tup [.agg zE,.c (.d si)]) [⟨ag aK,p⟩,⟨ri,q⟩,⟨sd (.sl 41),r⟩,⟨sd (.sl 70),s⟩] 0
theorem lB(N:Nat)(p q r s:b8)(x0 x1 x2 x3 x4 x5 x6 x7 x8 x9 c9 O b6 c6 d3 a6 d2 d4 c5 J b0 c2 c1 a5 d5 c0 b1 c8 b4 c7 b2 a7 c3 b5 a8 b3 d1 c4 a3 Y a2 a4 Z V U a1 a0:D):(dr N p q r s) [x0,x1,x2,x3,x4,x5,x6,x7,x8,x9,c9,O,b6,c6,d3,a6,d2,d4,c5,J,b0,c2,c1,a5,d5,c0,b1,c8,b4,c7,b2,a7,c3,b5,a8,b3,d1,c4,a3,Y,a2,a4,Z,V,U,a1,a0] =
 bif ltI J.int O then bif c5.int==0 then nd (al J.int O.rows.length) (nd (iR U&&(leI U 10000&&leI V 1000000000)) (nx ([x0,x1,x2,x3,x4,x5,x6,x7,x8,x9,c9,O,b6,c6,d3,a6,d2,d4,sub (OV [a3,Y,a2,a4,Z,V,U,a1,a0] x9 [(O.rows.getD J.int.toNat [] 0),.i (w64 ((O.rows.getD J.int.toNat [] 0).int+1))] (.i 2)) 0 11 10,.i (w64 (J.int+1)),b0,c2,c1,a5,d5,c0,b1,c8,b4,c7,b2,a7,c3,b5,a8,b3,d1,c4]++sub (sub (OV [a3,Y,a2,a4,Z,V,U,a1,a0] x9 [(O.rows.getD J.int.toNat [] 0),.i (w64 ((O.rows.getD J.int.toNat [] 0).int+1))] (.i 2)) 0 11) 1 9)))
 else ex 0 [x0,x1,x2,x3,x4,x5,x6,x7,x8,x9,c9,O,b6,c6,d3,a6,d2,d4,c5,J,b0,c2,c1,a5,d5,c0,b1,c8,b4,c7,b2,a7,c3,b5,a8,b3,d1,c4,a3,Y,a2,a4,Z,V,U,a1,a0]
 else ex 0 [x0,x1,x2,x3,x4,x5,x6,x7,x8,x9,c9,O,b6,c6,d3,a6,d2,d4,c5,J,b0,c2,c1,a5,d5,c0,b1,c8,b4,c7,b2,a7,c3,b5,a8,b3,d1,c4,a3,Y,a2,a4,Z,V,U,a1,a0]:=by kernel_rfl
theorem Cs(N:Nat)(p q r s:b8):aZ f4 nI N nD Tryz.f25 (.tup [.agg zE,.c (.d si)]) [⟨ag aK,p⟩,⟨ri,q⟩,⟨sd (.sl 41),r⟩,⟨sd (.sl 70),s⟩]=some (bo,
 nd (bE (sub p 0 9)) (bif !(aY (sub p 0 9)) then some (1,[.i 0,.l [],.l [],.l [],.l [],.l [],.l [],.l [],.i 0,.i 1])
 else bif !(inB (q 0).int 1 60) then some (1,[.i 0,.l [],.l [],.l [],.l [],.l [],.l [],.l [],.i 0,.i 1])
 else bif ltI 16 (r 0) then some (1,[.i 0,.l [],.l [],.l [],.l [],.l [],.l [],.l [],.i 0,.i 1])
 else bif dK (fun O=>iG (.l [[]]) (sub O 0 2)) (r 0) then some (1,[.i 0,.l [],.l [],.l [],.l [],.l [],.l [],.l [],.i 0,.i 1])
 else bif !(aO (s 0)) then some (1,[.i 0,.l [],.l [],.l [],.l [],.l [],.l [],.l [],.i 0,.i 1])
 else nd (cv (sub p 0 9)) (nd (leI (p 5) 1000000000) (bif aA (aB (p 5)) (q 0).int then some (1,sub (dpS p) 0 9 ++ [.i 0])
 else (let J:=ba (dr N p q r s) N (sub p 0 9++([q 0,r 0,s 0,.i 0,.i 0,.i 0,.b (!(aO (s 0))),.i 0,.b (aA (aB (p 5)) (q 0).int),.i (wG (sub p 0 9) [q 0] [r 0] [s 0]),.i 0]++(sub p 0 9++([.i 0,.l [],.l [],.l [],.l [],.l [],.l [],.l [],.i 0]++sub (dpS p) 0 9))))
  nd J.isSome (nd (J.code==2) (bif (J.pay 18).int==0 then nd (leI (J.pay 23) 1000000000&&leI (J.pay 25) 1000000000) (bif ltI 60 (w64 ((ii (sub J.pay 20 9))+(bi (J.pay 23) (J.pay 11)))) then bif 6 != 0 then nd (cv (sub J.pay 20 9)) (some (1,sub (ddS (sub J.pay 20 9)) 0 9 ++ [.i 6]))
  else nd (leI (J.pay 43) 1000000000) (nd (iR (aB (J.pay 43))&&leI (aB (J.pay 43)) 40000) (nd (leI (J.pay 11) 2000000) (nd (inB (bl (aB (J.pay 43)) (J.pay 9).int:Int) 0 (J.pay 43:Int)&&leI (J.pay 43) 1000000&&([[J.pay 9,.l (J.pay 11).rows]].length==1)) (some (1,sub J.pay 38 5 ++ [jP (J.pay 43) (bl (aB (J.pay 43)) (J.pay 9).int:Int) (.l [[J.pay 9,.l (J.pay 11).rows]]),J.pay 44,J.pay 45,J.pay 46,.i 0])))))
  else bif (J.pay 18).int != 0 then nd (cv (sub J.pay 20 9)) (some (1,sub (ddS (sub J.pay 20 9)) 0 9 ++ [J.pay 18]))
  else nd (leI (J.pay 43) 1000000000) (nd (iR (aB (J.pay 43))&&leI (aB (J.pay 43)) 40000) (nd (leI (J.pay 11) 2000000) (nd (inB (bl (aB (J.pay 43)) (J.pay 9).int:Int) 0 (J.pay 43:Int)&&leI (J.pay 43) 1000000&&([[J.pay 9,.l (J.pay 11).rows]].length==1)) (some (1,sub J.pay 38 5 ++ [jP (J.pay 43) (bl (aB (J.pay 43)) (J.pay 9).int:Int) (.l [[J.pay 9,.l (J.pay 11).rows]]),J.pay 44,J.pay 45,J.pay 46,.i 0]))))))
  else bif (J.pay 18).int != 0 then nd (cv (sub J.pay 20 9)) (some (1,sub (ddS (sub J.pay 20 9)) 0 9 ++ [J.pay 18]))
  else nd (leI (J.pay 43) 1000000000) (nd (iR (aB (J.pay 43))&&leI (aB (J.pay 43)) 40000) (nd (leI (J.pay 11) 2000000) (nd (inB (bl (aB (J.pay 43)) (J.pay 9).int:Int) 0 (J.pay 43:Int)&&leI (J.pay 43) 1000000&&([[J.pay 9,.l (J.pay 11).rows]].length==1)) (some (1,sub J.pay 38 5 ++ [jP (J.pay 43) (bl (aB (J.pay 43)) (J.pay 9).int:Int) (.l [[J.pay 9,.l (J.pay 11).rows]]),J.pay 44,J.pay 45,J.pay 46,.i 0])))))))))))):=by kernel_rfl
def bK(p:b8)(n u:D)(c:D):Nat->D × D × D
 | 0=>(.l (p 4).rows,.l (p 6).rows,c)
 | k+1=>bif (bK p n u c k).2.2.int==0 then
   (bif (cd (bK p n u c k).1 (aB (dpS p 5)) n (dV u k) (.i 2) 2).int==2 then ((bK p n u c k).1,(bK p n u c k).2.1,.i 5)
   else bif (cd (bK p n u c k).1 (aB (dpS p 5)) n (dV u k) (.i 2) 2).int==3 then ((bK p n u c k).1,(bK p n u c k).2.1,.i 6)
   else (cd (bK p n u c k).1 (aB (dpS p 5)) n (dV u k) (.i 2) 0,gr (bK p n u c k).2.1 (cd (bK p n u c k).1 (aB (dpS p 5)) n (dV u k) (.i 2) 1) (cd (bK p n u c k).1 (aB (dpS p 5)) n (dV u k) (.i 2) 1).rows.length,.i 0))
  else bK p n u c k
theorem oW(p:b8)(n u c:D){k:Nat}(h:((bK p n u c k).2.2.int==0)=false):∀m,bK p n u c (k+m)=bK p n u c k
 | 0=>rfl
 | m+1=>by have J:=oW p n u c h m;rw[show k+(m+1)=(k+m)+1 from rfl,bK,J,h,f5]
theorem QQ(p:b8)(n u c:D)(O:(ai (.l (p 6).rows)).Pairwise (· < ·)):∀k,(ai (bK p n u c k).2.1).Pairwise (· < ·)/\(bK p n u c k).2.1.rows.length<=(p 6).rows.length+40*k
 | 0=>⟨O,g8 _⟩
 | k+1=>by
  obtain⟨J,Y⟩:=QQ p n u c O k;rw[bK];cases (bK p n u c k).2.2.int==0 with
  | false=>exact⟨J,by rw[f5];omega⟩
  | true =>
   have U:=WQ (bK p n u c k).1 (aB (dpS p 5)) n (dV u k) (.i 2);generalize cd (bK p n u c k).1 (aB (dpS p 5)) n (dV u k) (.i 2)=A at *;rw[f8];cases (A 2).int==2 with
   | true=>exact⟨J,by rw[f8];dsimp only;omega⟩
   | false =>
    cases (A 2).int==3 with
    | true=>exact⟨J,by rw[f5,f8];dsimp only;omega⟩
    | false =>rw[f5,f5];have V:=yc (bK p n u c k).2.1 (A 1) (A 1).rows.length;exact⟨(oF (t:=A 1) J _ (g8 _)).1,by dsimp only;omega⟩
def ph(p:b8)(n z u:D):D:=.i (wG (sub p 0 9) [n] [z] [u])
def adI(p:b8)(n u:D)(x:D × D × D):b8:=
 bif x.2.2.int==0 then bif ltI 60 (w64 (ii (sub p 0 9)+bi (p 3) u)) then dpS p ++ [.i 6]
  else[dpS p 0,dpS p 1,dpS p 2,dpS p 3,x.1,jP (dpS p 5) (bl (aB (dpS p 5)) n.int:Int) (.l [[n,.l u.rows]]),x.2.1,dpS p 7,dpS p 8,.i 0]
 else dpS p ++ [x.2.2]
def prI(p:b8)(n z u:D):b8:=
 bif !(aY (sub p 0 9)) then dE ++ [.i 1]
 else bif !(inB n.int 1 60) then dE ++ [.i 1]
 else bif ltI 16 z then dE ++ [.i 1]
 else bif dK (fun J=>iG (.l [[]]) (sub J 0 2)) z then dE ++ [.i 1]
 else bif !(aO u) then dE ++ [.i 1]
 else bif aA (aB (p 5)) n.int then dpS p ++ [.i 0]
 else adI p n u (bK p n u (ph p n z u) u.rows.length)
theorem adg{L:b8->Out}(st:Nat->b8)(n:Nat)(G:Nat->Bool)(j:Nat)(h1:∀k,k<n->G k=true->L (st k)=some (0,st (k+1)))(U:∀k,k<n->G k=false->L (st k)=some (j+2,st k))(V:L (st n)=some (j+2,st n)) :
  ∀(m k N:Nat),k+m=n->m<N->∃i,ba L N (st k)=some (j+2,st i)/\i<=n/\(i=n\/G i=false):=by
 intro m
 induction m with
 | zero =>
  intro k N hk hN;obtain⟨N,rfl⟩:∃J,N=J+1:=⟨N - 1,by omega⟩;obtain rfl:k=n:=by omega
  exact⟨k,kN (c:=j+1) V,g8 _,.inl rfl⟩
 | succ m Y =>
  intro k N hk hN;obtain⟨N,rfl⟩:∃J,N=J+1:=⟨N - 1,by omega⟩;cases O:G k with
  | false=>exact⟨k,kN (c:=j+1) (U k (by omega) O),by omega,.inr O⟩
  | true =>rw[qk (h1 k (by omega) O)];exact Y (k+1) N (by omega) (by omega)
abbrev qy(p q r s:b8)(c:D)(x:D × D × D):b8:= [p 0,p 1,p 2,p 3,p 4,p 5,p 6,p 7,p 8,q 0,r 0,s 0,.i 0,.i 0,.i 0,.b false,.i 0,.b false,x.2.2,c,p 0,p 1,p 2,p 3,p 4,p 5,p 6,p 7,p 8,.i 0,.l [],.l [],.l [],.l [],.l [],.l [],.l [],.i 0,dpS p 0,dpS p 1,dpS p 2,dpS p 3,x.1,dpS p 5,x.2.1,dpS p 7,dpS p 8]
theorem Yg{p:b8}(h:aY (sub p 0 9)=true):(ai (aB (dpS p 5))).Pairwise (· < ·):=by
 have e:ai (aB (dpS p 5))=(p 5).rows.map fun r=>(r 0).int:=by rw[fd];unfold ai aB;simp only[bp,A7];rfl
 rw[e];have hs:=h;simp only[aY,ep,fG,a9,i6,m0] at hs;have hw:∀k,k<(p 5).rows.length->eS (sub p 0 9) k=true:=by obtain⟨_,_,_,_,_,_,_,_,_,_,_,_,_,_,_,hw,_⟩:=hs;exact hw
 have J:∀k,k+1<(p 5).rows.length->(p 5 k 0).int<(p 5 (k+1) 0).int:=fun k hk=>by have:=hw (k+1) hk;simp only[eS,a9,leI,m6,y6] at this;have:=this.2.1;change ¬(p 5 (k+1) 0).int<=(p 5 k 0).int at this;omega
 have U:∀d i,i+d+1<(p 5).rows.length->(p 5 i 0).int<(p 5 (i+d+1) 0).int:=fun d=>by
  induction d with
  | zero=>exact fun i hi=>J i hi
  | succ d V=>exact fun i hi=>Int.lt_trans (V i (by omega)) (J (i+d+1) hi)
 refine t9.2 fun i j hi O Y=>?_
 rw[m9] at hi O;rw[G8,G8,<- aU hi,<- aU O];have:=U (j - i - 1) i (by omega)
 rwa [show i+(j - i - 1)+1=j from by omega] at this
def akk(p:b8)(J:Out):Out:=nd J.isSome (nd (J.code==2) (bif (J.pay 18).int==0 then nd (leI (J.pay 23) 1000000000&&leI (J.pay 25) 1000000000) (bif ltI 60 (w64 ((ii (sub J.pay 20 9))+(bi (J.pay 23) (J.pay 11)))) then bif 6 != 0 then nd (cv (sub J.pay 20 9)) (some (1,sub (ddS (sub J.pay 20 9)) 0 9 ++ [.i 6]))
  else nd (leI (J.pay 43) 1000000000) (nd (iR (aB (J.pay 43))&&leI (aB (J.pay 43)) 40000) (nd (leI (J.pay 11) 2000000) (nd (inB (bl (aB (J.pay 43)) (J.pay 9).int:Int) 0 (J.pay 43:Int)&&leI (J.pay 43) 1000000&&([[J.pay 9,.l (J.pay 11).rows]].length==1)) (some (1,sub J.pay 38 5 ++ [jP (J.pay 43) (bl (aB (J.pay 43)) (J.pay 9).int:Int) (.l [[J.pay 9,.l (J.pay 11).rows]]),J.pay 44,J.pay 45,J.pay 46,.i 0])))))
  else bif (J.pay 18).int != 0 then nd (cv (sub J.pay 20 9)) (some (1,sub (ddS (sub J.pay 20 9)) 0 9 ++ [J.pay 18]))
  else nd (leI (J.pay 43) 1000000000) (nd (iR (aB (J.pay 43))&&leI (aB (J.pay 43)) 40000) (nd (leI (J.pay 11) 2000000) (nd (inB (bl (aB (J.pay 43)) (J.pay 9).int:Int) 0 (J.pay 43:Int)&&leI (J.pay 43) 1000000&&([[J.pay 9,.l (J.pay 11).rows]].length==1)) (some (1,sub J.pay 38 5 ++ [jP (J.pay 43) (bl (aB (J.pay 43)) (J.pay 9).int:Int) (.l [[J.pay 9,.l (J.pay 11).rows]]),J.pay 44,J.pay 45,J.pay 46,.i 0]))))))
  else bif (J.pay 18).int != 0 then nd (cv (sub J.pay 20 9)) (some (1,sub (ddS (sub J.pay 20 9)) 0 9 ++ [J.pay 18]))
  else nd (leI (J.pay 43) 1000000000) (nd (iR (aB (J.pay 43))&&leI (aB (J.pay 43)) 40000) (nd (leI (J.pay 11) 2000000) (nd (inB (bl (aB (J.pay 43)) (J.pay 9).int:Int) 0 (J.pay 43:Int)&&leI (J.pay 43) 1000000&&([[J.pay 9,.l (J.pay 11).rows]].length==1)) (some (1,sub J.pay 38 5 ++ [jP (J.pay 43) (bl (aB (J.pay 43)) (J.pay 9).int:Int) (.l [[J.pay 9,.l (J.pay 11).rows]]),J.pay 44,J.pay 45,J.pay 46,.i 0])))))))
theorem aiq(p q r s:b8)(c:D)(x:D × D × D):akk p (some (2,qy p q r s c x))=(bif (x.2.2).int==0 then nd (leI (p 3) 1000000000&&leI (p 5) 1000000000) (bif ltI 60 (w64 ((ii (sub p 0 9))+(bi (p 3) (s 0)))) then bif 6 != 0 then nd (cv (sub p 0 9)) (some (1,sub (dpS p) 0 9 ++ [.i 6]))
  else nd (leI (dpS p 5) 1000000000) (nd (iR (aB (dpS p 5))&&leI (aB (dpS p 5)) 40000) (nd (leI (s 0) 2000000) (nd (inB (bl (aB (dpS p 5)) (q 0).int:Int) 0 (dpS p 5:Int)&&leI (dpS p 5) 1000000&&([[q 0,.l (s 0).rows]].length==1)) (some (1,sub (dpS p) 0 4 ++ [x.1,jP (dpS p 5) (bl (aB (dpS p 5)) (q 0).int:Int) (.l [[q 0,.l (s 0).rows]]),x.2.1,dpS p 7,dpS p 8,.i 0])))))
  else bif (x.2.2).int != 0 then nd (cv (sub p 0 9)) (some (1,sub (dpS p) 0 9 ++ [x.2.2]))
  else nd (leI (dpS p 5) 1000000000) (nd (iR (aB (dpS p 5))&&leI (aB (dpS p 5)) 40000) (nd (leI (s 0) 2000000) (nd (inB (bl (aB (dpS p 5)) (q 0).int:Int) 0 (dpS p 5:Int)&&leI (dpS p 5) 1000000&&([[q 0,.l (s 0).rows]].length==1)) (some (1,sub (dpS p) 0 4 ++ [x.1,jP (dpS p 5) (bl (aB (dpS p 5)) (q 0).int:Int) (.l [[q 0,.l (s 0).rows]]),x.2.1,dpS p 7,dpS p 8,.i 0]))))))
  else bif (x.2.2).int != 0 then nd (cv (sub p 0 9)) (some (1,sub (dpS p) 0 9 ++ [x.2.2]))
  else nd (leI (dpS p 5) 1000000000) (nd (iR (aB (dpS p 5))&&leI (aB (dpS p 5)) 40000) (nd (leI (s 0) 2000000) (nd (inB (bl (aB (dpS p 5)) (q 0).int:Int) 0 (dpS p 5:Int)&&leI (dpS p 5) 1000000&&([[q 0,.l (s 0).rows]].length==1)) (some (1,sub (dpS p) 0 4 ++ [x.1,jP (dpS p 5) (bl (aB (dpS p 5)) (q 0).int:Int) (.l [[q 0,.l (s 0).rows]]),x.2.1,dpS p 7,dpS p 8,.i 0])))))):=rfl
def vg:Ent:=(25,e4 (ag aK) ri (sd (.sl 41)) (sd (.sl 70)) fun p q r s=>(⟨.tup [.agg zE,.c (.d si)],sub (prI p (q 0) (r 0) (s 0)) 0 10⟩,bE p))
theorem CV:aw f4 vg:=wV fun p q r s h=>aq (N:=(s 0).rows.length+1) (ks:=nD) (ap (fC ⟨lc,fC ⟨oE,fC ⟨acd,fC ⟨lU,fC ⟨gi,fC ⟨ww,fC ⟨Po,fC ⟨BU,fC ⟨Wz,fC ⟨Rk,fC ⟨zD,fC ⟨lP,fC ⟨abt,fC ⟨xv,fC ⟨acx,fC ⟨mC,fC ⟨AI,fN⟩⟩⟩⟩⟩⟩⟩⟩⟩⟩⟩⟩⟩⟩⟩⟩⟩)) Tryz.func25 fun hw=>by
 rw[Cs];have a7:=dY (hw ⟨sd (.sl 70),s⟩ (by simp));have h:bE (sub p 0 9)=true:=h;refine congrArg (fun x=>some (bo,x)) ?_;change _=some (1,sub (prI p (q 0) (r 0) (s 0)) 0 10);unfold prI;rw[h,aP];cases hsh:aY (sub p 0 9) with
 | false=>rfl
 | true =>
 rw[l8,f5,f5];cases hin:inB (q 0).int 1 60 with
 | false=>rfl
 | true =>
 rw[l8,f5,f5];cases hz:ltI 16 (r 0) with
 | true=>rfl
 | false =>
 rw[f5,f5];cases b0:dK (fun rr=>iG (.l [[]]) (sub rr 0 2)) (r 0) with
 | true=>rfl
 | false =>
 rw[f5,f5];cases hwo:aO (s 0) with
 | false=>rfl
 | true =>
 obtain⟨_,b2,Y,a1,U,_⟩:=cD hsh;have Y:(p 5).rows.length<=60:=Y;have a1:(p 6).rows.length<=60:=a1;have U:(ai (.l (p 6).rows)).Pairwise (· < ·):=Fe (z:=p 6) U;have a8:=tN hwo;have h5:leI (p 5) 1000000000=true:=bb (by omega);have b3:(dpS p 5).rows.length<=60:=o8 (fX _ _ _) Y;have a0:leI (dpS p 5) 1000000000=true:=bb (by omega);rw[l8,f5,f5,dB hsh,h5,aP,aP];cases b1:aA (aB (p 5)) (q 0).int with
 | true=>rfl
 | false =>
 rw[f5,f5];generalize hN:(s 0).rows.length+1=N;obtain⟨i,O,a5,J⟩:=adg (L:=dr N p q r s) (st:=fun k=>qy p q r s (.i (k:Int)) (bK p (q 0) (s 0) (ph p (q 0) (r 0) (s 0)) k)) (s 0).rows.length (fun k=>(bK p (q 0) (s 0) (ph p (q 0) (r 0) (s 0)) k).2.2.int==0) 0 (fun k hk V=>by
  show dr _ p q r s [_,_,_,_,_,_,_,_,_,_,_,_,_,_,_,_,_,_,_,.i (k:Int),_,_,_,_,_,_,_,_,_,_,_,_,_,_,_,_,_,_,_,_,_,_,_,_,_,_,_]=_;rw[lB];obtain⟨m1,m2⟩:=QQ p (q 0) (s 0) (ph p (q 0) (r 0) (s 0)) U k;rw[bK];generalize bK p (q 0) (s 0) (ph p (q 0) (r 0) (s 0)) k=X at *;obtain⟨X1,X2,X3⟩:=X;dsimp only at V m1 m2 ⊢;simp only[aE,cy hk,bn hk,aF hk a7,g4,V,f8,a0,ro m1,bb (show (X2:Int)<=10000 by omega),v6,aP];unfold OV;rw[show ∀l w a,um [dpS p 0,dpS p 1,dpS p 2,dpS p 3,l,dpS p 5,w,dpS p 7,dpS p 8] (q 0) a (.i 2)=cd l (aB (dpS p 5)) (q 0) (sub a 0 2) (.i 2) from fun _ _ _=>rfl];rw[show cd X1 (aB (dpS p 5)) (q 0) (sub [s 0 k 0,.i (w64 ((s 0 k 0).int+1))] 0 2) (.i 2)=cd X1 (aB (dpS p 5)) (q 0) (dV (s 0) k) (.i 2) from rfl];generalize cd X1 (aB (dpS p 5)) (q 0) (dV (s 0) k) (.i 2)=AA;cases (AA 2).int==2 with
  | true=>rfl
  | false =>
   cases (AA 2).int==3 with
   | true=>rfl
   | false=>rfl) (fun k hk V=>by
  show dr _ p q r s [_,_,_,_,_,_,_,_,_,_,_,_,_,_,_,_,_,_,_,.i (k:Int),_,_,_,_,_,_,_,_,_,_,_,_,_,_,_,_,_,_,_,_,_,_,_,_,_,_,_]=_;rw[lB];generalize bK p (q 0) (s 0) (ph p (q 0) (r 0) (s 0)) k=X at *;obtain⟨X1,X2,X3⟩:=X;dsimp only at V ⊢;simp only[aE,cy hk,V,f5]) (by
  show dr _ p q r s [_,_,_,_,_,_,_,_,_,_,_,_,_,_,_,_,_,_,_,.i (s 0:Int),_,_,_,_,_,_,_,_,_,_,_,_,_,_,_,_,_,_,_,_,_,_,_,_,_,_,_]=_;rw[lB];simp only[aE,bF]) (s 0).rows.length 0 N (i9 _) (by omega)
 simp only[g9] at O;have O:ba (dr N p q r s) N (qy p q r s (.i 0) (.l (p 4).rows,.l (p 6).rows,ph p (q 0) (r 0) (s 0)))=_:=O;have ei:bK p (q 0) (s 0) (ph p (q 0) (r 0) (s 0)) i=bK p (q 0) (s 0) (ph p (q 0) (r 0) (s 0)) (s 0).rows.length:=by
  rcases J with J | J
  ·rw[J]
  ·obtain⟨m,hm⟩:=Nat.le.dest a5;rw[<- hm,oW p (q 0) (s 0) (ph p (q 0) (r 0) (s 0)) J m]
 rw[ei] at O;generalize bK p (q 0) (s 0) (ph p (q 0) (r 0) (s 0)) (s 0).rows.length=X at *;have a2:=Kn (z:=aB (dpS p 5)) (Yg hsh) (q 0).int;have Z:(aB (dpS p 5)).rows.length=(dpS p 5).rows.length:=m9 ..;have a3:(iR (aB (dpS p 5))&&leI (aB (dpS p 5)) 40000)=true:=by rw[ro (Yg hsh),s8,Z];exact bb (by omega)
 have a4:(inB (bl (aB (dpS p 5)) (q 0).int:Int) 0 (dpS p 5:Int)&&leI (dpS p 5) 1000000&&(([[q 0,D.l (s 0).rows]]:List b8).length==1))=true:=by rw[bb (show (dpS p 5:Int)<=1000000 by omega)];have h1:=a2.1;rw[Z] at h1;unfold inB;rw[w8 (show (bl (aB (dpS p 5)) (q 0).int:Int)>=0 by omega),w8 (show (bl (aB (dpS p 5)) (q 0).int:Int)<=(dpS p 5:Int) by omega)];rfl
 have a6:leI (s 0) 2000000=true:=bb (by omega);have h3:leI (p 3) 1000000000=true:=bb (by have h3:=(cD hsh).2.2.2.2.2.1;simp only[aN,a9,leI,f7] at h3;have h3:(p 3:Int)<=60:=h3.2;omega);change (let o0:=ba (dr N p q r s) N (qy p q r s (.i 0) (.l (p 4).rows,.l (p 6).rows,ph p (q 0) (r 0) (s 0)));akk p o0)=_;rw[O,aiq];unfold adI;obtain⟨X1,X2,X3⟩:=X;dsimp only;rw[h3,h5,dB hsh,a0,a3,a6,a4];simp only[aP,v6];simp only[show ((6:Int) != 0)=true from rfl,show ((6:Nat) != 0)=true from rfl,f8];simp only[show (X3.int != 0) = !(X3.int==0) from rfl];cases X3.int==0 with
 | true =>cases ltI 60 (w64 (ii (sub p 0 9)+bi (p 3) (s 0))) <;> rfl
 | false=>rfl
end Go.Proofs.YtpdfmcmnjikppaaGreat
end
