/-
 Texts of the proof,put together: part 6.
-/
import Derived.Test.YtpdfmcmnjikppaaGreatSI1
import Derived.Test.YtpdfmcmnjikppaaGreatSI2
import Derived.Test.YtpdfmcmnjikppaaGreatSI3
import Derived.Test.YtpdfmcmnjikppaaGreatSI4
import Derived.Test.YtpdfmcmnjikppaaGreatSI5
import Derived.Deep.Slices
import Derived.Deep.Fields
import Derived.OpenShut
set_option linter.unusedSimpArgs false
set_option linter.unusedVariables false
set_option linter.unusedSectionVars false
namespace Go.Proofs.YtpdfmcmnjikppaaGreat
set_option maxRecDepth 100000
set_option maxHeartbeats 4000000
open Go.RowKit Go.Lib
theorem VD.later {P:Program} {w w':World} {prot:Nat→Nat} {s:S} {x:D} {v:Value} (h:VD P w prot s x v) (hb:Below w.heap.size w w'):VD P w' prot s x v:=
 h.mono fun b o u ho hc=>⟨by rw [cell_of_heap (hb.block b (cell_size hc))]; exact hc,ho⟩
theorem okC_calls {W:World} {prot:Nat→Nat} {x:D} {v:Value} (hv:VD Tryz.prog W prot (.sl 108) x v) (hfr:∀ b,W.heap.size≤b→prot b=0) :
  Calls Tryz.prog 127 #[v] W fun e w'=>e=.returned (.bool (storeOk x))∧Below W.heap.size W w':=by
 have s:=(i_StoreOk_ok [⟨sd (.sl 108),[x]⟩] ⟨rb,[.b (storeOk x)]⟩ (by kernel_rfl)).n rfl
 refine (s.2 W prot #[v] ⟨rfl,fun j t hj=>?_⟩ hfr).mono ?_
 ·match j,hj with
  | 0,hj =>
   injection hj with hj
   subst hj
   exact ⟨v,rfl,hv⟩
 ·rintro e w' ⟨u,g',rfl,hr⟩
  have hv:VD Tryz.prog w' g'.prot .bool (.b (storeOk x)) u:=hr.val
  cases hv
  exact ⟨rfl,hr.below⟩
theorem conC_calls {W:World} {prot:Nat→Nat} {z u:D} {v0 v1:Value} {vb vc:Nat} (h0:VD Tryz.prog W prot (.sl 108) z v0) (h1:VD Tryz.prog W prot (.sl 108) u v1) (hfr:∀ b,W.heap.size≤b→prot b=0) (hp:prot vb=0) (hvc:2≤vc) (hv63:vc≤1000)
  (hh:W.heap[vb]?=some (.cells #[v0,v1] 33 (0,0))) (hl:z.rows.length≤60) (hl':u.rows.length≤60) :
  Calls Tryz.prog 223 #[.slice (some ⟨vb,0,none⟩) 2 vc] W fun e w'=>∃ v' B',e=.returned v'∧Below W.heap.size W w'∧OwnK w' 108 (rowN 2) (z.rows++u.rows) v' B'∧∀ b,B'=some b→W.heap.size≤b:=by
 have e0:i_ConcatCE.2 [⟨sd (.sl 33),[.l [[z],[u]]]⟩]=some (⟨.one (.c (.own (0,0) true 108)),[.l (z.rows++u.rows)]⟩,leI (z.rows.length:Int) 100000000&&leI (u.rows.length:Int) 100000000):=by kernel_rfl
 rw [leI_t (show (z.rows.length:Int)≤100000000 by omega),leI_t (show (u.rows.length:Int)≤100000000 by omega)] at e0
 have s:=(i_ConcatC_ok _ _ e0).n rfl
 have hvb:=lt_of_heap hh
 have hmono:∀ {x v},VD Tryz.prog W prot (.sl 108) x v→VD Tryz.prog W (fun b=>if b=vb then 2 else prot b) (.sl 108) x v:=fun h=>h.mono fun b o u ho hc=>⟨hc,by
  show o<if b=vb then 2 else prot b
  by_cases e:b=vb
  ·subst e; rw [hp] at ho; omega
  ·rw [if_neg e]; exact ho⟩
 refine (s.2 W (fun b=>if b=vb then 2 else prot b) #[.slice (some ⟨vb,0,none⟩) 2 vc] ⟨rfl,fun j t hj=>?_⟩ fun b hb=>by rw [if_neg (by omega)]; exact hfr b hb).mono ?_
 ·match j,hj with
  | 0,hj =>
   injection hj with hj
   subst hj
   refine ⟨_,rfl,.sl 33 (.l [[z],[u]]) (some ⟨vb,0,none⟩) vc [.sl 108] (fun i _=>if i=0 then v0 else v1) (by kernel_rfl) hvc (by omega) (fun i j hi hj=>?_) (fun i j s hi hj=>?_)⟩
   ·have hi:i<2:=hi
    have hj:j<1:=hj
    obtain rfl:j=0:=by omega
    refine ⟨vb,0,rfl,?_,?_⟩
    ·rw [cell_at hh]
     have hii:i=0∨i=1:=by omega
     rcases hii with rfl | rfl <;> rfl
    ·show 0+(i*1+0)<if vb=vb then 2 else prot vb
     rw [if_pos rfl]
     omega
   ·have hi:i<2:=hi
    match j,hj with
    | 0,hj =>
     injection hj with hj
     subst hj
     have hii:i=0∨i=1:=by omega
     rcases hii with rfl | rfl
     ·exact hmono h0
     ·exact hmono h1
 ·rintro e w' ⟨v,g',rfl,hr⟩
  obtain ⟨B',k1,k2⟩:=res_ownN row_cell2 hr
  exact ⟨v,B',rfl,hr.below,k1,k2⟩
theorem ownC_prs {w:World} {e:TypeId} {rows rows':List (List D)} {u:Value} {B:Option Nat} (h:OwnK w e (rowN 2) rows u B) (hn:rows.map pr=rows'.map pr):OwnK w e (rowN 2) rows' u B:=by
 have hl:rows.length=rows'.length:=by simpa using congrArg List.length hn
 rcases h with ⟨h1,h2,h3⟩ | ⟨b,cap,arr,h1,h2,h3,h4,h5,h6,h7⟩
 ·exact .inl ⟨h1,List.eq_nil_of_length_eq_zero (by rw [← hl,h2]; rfl),h3⟩
 ·refine .inr ⟨b,cap,arr,h1,by rw [← hl]; exact h2,by omega,h4,h5,h6,fun i j s hi hs=>?_⟩
  obtain ⟨k1,k2⟩:=List.getElem?_eq_some_iff.1 hs
  have k2:S.int .i64=s:=by simpa using k2
  subst k2
  have hj:j<2:=k1
  obtain ⟨u',q1,q2⟩:=h7 i j _ (by omega) hs
  refine ⟨u',q1,?_⟩
  have e1:(rows.map pr)[i]?=(rows'.map pr)[i]?:=by rw [hn]
  rw [List.getElem?_map,List.getElem?_map,List.getElem?_eq_getElem (by omega),List.getElem?_eq_getElem hi] at e1
  have e2:pr (rows.getD i [])=pr (rows'.getD i []):=by
   rw [getD_row (by omega),getD_row hi]
   simpa using e1
  have e3:(gd (rows.getD i []) 0).int=(gd (rows'.getD i []) 0).int:=congrArg Prod.fst e2
  have e4:(gd (rows.getD i []) 1).int=(gd (rows'.getD i []) 1).int:=congrArg Prod.snd e2
  have q2:u'=.int .i64 (gd (rows.getD i []) j).int:=q2
  show u'=.int .i64 (gd (rows'.getD i []) j).int
  have hjj:j=0∨j=1:=by omega
  rcases hjj with rfl | rfl
  ·rw [q2,e3]
  ·rw [q2,e4]
theorem ofOwn {w w':World} {prot:Nat→Nat} {rows:List (List D)} {v:Value} {B:Option Nat} (hO:OwnK w' 108 (rowN 2) rows v B) (hB:∀ b,B=some b→w.heap.size≤b) (hb:Below w.heap.size w w') (hfr:∀ b,w.heap.size≤b→prot b=0) (t:D) (tv:Value) (ht:VD Tryz.prog w' prot .bool t tv) :
  ∃ g',Res Tryz.prog prot w w' ⟨.tup [.c (.own (0,0) true 108),.c (.d (.bool))],[.l rows,t]⟩ (.tuple #[v,tv]) g':=by
 have hval:∀ g':G,(g'.prot=prot)→(∃ row,rowOf Tryz.prog 108=some row∧OwnV Tryz.prog w' g' w.heap.size (0,0) true 108 row rows v)→VT Tryz.prog w' g' w.heap.size ⟨.tup [.c (.own (0,0) true 108),.c (.d (.bool))],[.l rows,t]⟩ (.tuple #[v,tv]):=fun g' hg hv=>by
  refine ⟨#[v,tv],rfl,rfl,fun j x hj=>?_⟩
  match j,hj with
  | 0,hj =>
   injection hj with hj
   subst hj
   exact ⟨v,rfl,hv⟩
  | 1,hj =>
   injection hj with hj
   subst hj
   refine ⟨tv,rfl,?_⟩
   show VD Tryz.prog w' g'.prot .bool t tv
   rw [hg]
   exact ht
 rcases ownN_at hO with ⟨rfl,h0,A,rfl⟩ | ⟨b,cap,arr,rfl,rfl,hle,h63,hh,hs,hc⟩
 ·exact ⟨g0 0 prot,hb,hval _ rfl ⟨_,row_cell2,.inl ⟨h0,rfl,A,rfl⟩⟩,fun _ _=>rfl,fun b hb'=>⟨hfr b (Nat.le_trans hb.size hb'),rfl⟩⟩
 ·have hblk:=hB b rfl
  refine ⟨⟨prot,fun k=>if k=b then some (.inr (0,0)) else none,fun _=>0,fun _=>b,fun _=>rows.length,fun _=>2,fun _=>108,fun _ => [],fun _=>0,fun _=>False⟩,hb,hval _ rfl ⟨_,row_cell2,.inr ⟨cap,arr,108,rfl,hle,⟨h63,rfl,rfl⟩,hblk,if_pos rfl,hh,by simpa using hs,rfl,by simp,?_,?_⟩⟩,fun _ _=>rfl,fun k hk=>⟨hfr k (Nat.le_trans hb.size hk),?_⟩⟩
  ·show prot b=0
   exact hfr b hblk
  ·intro i j s hi hs
   obtain ⟨k1,k2⟩:=List.getElem?_eq_some_iff.1 hs
   have k2:S.int .i64=s:=by simpa using k2
   subst k2
   exact ⟨.int .i64 (gd (rows.getD i []) j).int,by simpa using hc i j hi k1,.of_vd (.int .i64 _) (.inr rfl)⟩
  ·have:=lt_of_heap hh
   exact if_neg (by omega)
theorem below_tr {w w1 w2:World} (h:Below w.heap.size w w1) (h2:Below w1.heap.size w1 w2):Below w.heap.size w w2:=
 ⟨h2.os.trans h.os,h2.tape.trans h.tape,h2.output.trans h.output,Nat.le_trans h.size h2.size,fun k hk=>(h2.block k (Nat.lt_of_lt_of_le hk h.size)).trans (h.block k hk)⟩
theorem below_ch {w w1 w2:World} {B:Option Nat} (h:Below w.heap.size w w1) (h2:Changed w1 w2 B) (hB:∀ b,B=some b→w.heap.size≤b):Below w.heap.size w w2:=
 ⟨h2.os.trans h.os,h2.tape.trans h.tape,h2.output.trans h.output,Nat.le_trans h.size h2.size,fun k hk=>(h2.other k (Nat.lt_of_lt_of_le hk h.size) (fun e=>by have:=hB k e; omega)).trans (h.block k hk)⟩
def i_StoreJoinE:Ent:=(132,e2 (sd (.sl 108)) (sd (.sl 108)) fun p q=>(⟨.tup [.c (.own (0,0) true 108),.c (.d (.bool))],sub (joinS (gd p 0) (gd q 0)) 0 2⟩,leI ((gd p 0).rows.length:Int) 1000000000&&leI ((gd q 0).rows.length:Int) 1000000000))
theorem i_StoreJoin_ok:EntOk Tryz.prog i_StoreJoinE:=e2_ok fun p q h=>by
 have h:(leI ((gd p 0).rows.length:Int) 1000000000&&leI ((gd q 0).rows.length:Int) 1000000000)=true:=h
 simp only [Bool.and_eq_true,leI,decide_eq_true_eq] at h
 obtain ⟨hpl,hql⟩:=h
 refine SoundFn.of rfl ⟨enters Tryz.func132 (by kernel_rfl) (by kernel_rfl),fun w prot vs hargs hfr=>?_⟩
 obtain ⟨v0,hu0,hv0⟩:=hargs.2 0 _ rfl
 obtain ⟨v1,hu1,hv1⟩:=hargs.2 1 _ rfl
 have hvs:vs = #[v0,v1]:=by
  refine args_at hargs [v0,v1] rfl fun j t u h1 h2=>?_
  match j,h1 with
  | 0,h1=>rw [h2] at hu0; injection hu0 with e; rw [e]; rfl
  | 1,h1=>rw [h2] at hu1; injection hu1 with e; rw [e]; rfl
 subst hvs
 clear hargs hu0 hu1
 have hv0:VD Tryz.prog w prot (.sl 108) (gd p 0) v0:=hv0
 have hv1:VD Tryz.prog w prot (.sl 108) (gd q 0) v1:=hv1
 generalize gd p 0=z at *
 generalize gd q 0=u at *
 rw [show sub (joinS z u) 0 2=joinS z u from rfl]
 obtain ⟨A0,c0,rfl,hz1,hz2,_⟩:=vd_cells hv0
 obtain ⟨A1,c1,rfl,hz3,hz4,_⟩:=vd_cells hv1
 have hnil:∀ w',Below w.heap.size w w'→∃ g',Res Tryz.prog prot w w' ⟨.tup [.c (.own (0,0) true 108),.c (.d (.bool))],[.l [],.b false]⟩ (.tuple #[.slice none 0 0,.bool false]) g':=fun w' hb =>
  ofOwn (rows:= []) (B:=none) (.inl ⟨rfl,rfl,none,rfl⟩) (fun b h=>by cases h) hb hfr (.b false) _ (.bool (.b false))
 have hok0:∀ W,Below w.heap.size w W→Calls Tryz.prog 127 #[.slice A0 z.rows.length c0] W fun e w'=>e=.returned (.bool (storeOk z))∧Below W.heap.size W w':=fun W hb=>okC_calls (hv0.later hb) fun b h=>hfr b (Nat.le_trans hb.size h)
 have hok1:∀ W,Below w.heap.size w W→Calls Tryz.prog 127 #[.slice A1 u.rows.length c1] W fun e w'=>e=.returned (.bool (storeOk u))∧Below W.heap.size W w':=fun W hb=>okC_calls (hv1.later hb) fun b h=>hfr b (Nat.le_trans hb.size h)
 obtain ⟨n,hn⟩:∃ n,n=z.rows.length:=⟨_,rfl⟩
 obtain ⟨m,hm⟩:∃ m,m=u.rows.length:=⟨_,rfl⟩
 rw [← hn] at hok0 hpl ⊢
 rw [← hm] at hok1 hql ⊢
 have hw:IntKind.i64.wrap ((n:Int)+(m:Int))=(n:Int)+(m:Int):=by rw [IntKind.wrap_i64]; omega
 have VZ:Hid (VD Tryz.prog w prot (.sl 108) z (.slice A0 n c0)):=by rw [hn]; exact hv0
 have VU:Hid (VD Tryz.prog w prot (.sl 108) u (.slice A1 m c1)):=by rw [hm]; exact hv1
 have HF:Hid (∀ b,w.heap.size≤b→prot b=0):=hfr
 have HNIL:Hid (∀ w',Below w.heap.size w w'→∃ g',Res Tryz.prog prot w w' ⟨.tup [.c (.own (0,0) true 108),.c (.d (.bool))],[.l [],.b false]⟩ (.tuple #[.slice none 0 0,.bool false]) g'):=hnil
 have HN:Hid (n=z.rows.length):=hn
 have HM:Hid (m=u.rows.length):=hm
 clear hv0 hv1 hfr hnil hn hm hz1 hz2 hz3 hz4
 by_cases hz:storeOk z=true
 ·rw [hz] at hok0
  by_cases hu:storeOk u=true
  ·rw [hu] at hok1
   have lz:=(store_sorted hz).len
   have lu:=(store_sorted hu).len
   rw [← HN.out] at lz
   rw [← HM.out] at lu
   have HZ:Hid (storeOk z=true):=hz
   have HU:Hid (storeOk u=true):=hu
   clear hz hu
   by_cases hb:(n:Int)+(m:Int) > 60
   ·have hj:joinS z u = [.l [],.b false]:=by
     unfold joinS joinOk
     rw [HZ.out,HU.out,← HN.out,← HM.out,leI_f (show (60:Int)<(n:Int)+(m:Int) by omega)]
     rfl
    rw [hj]
    clear hj
    go_enter Tryz.func132,Tryz.ntmps132
    go_wp2_with fail
    refine (hok0 _ (Below.refl _ _)).mono ?_
    rintro e w1 ⟨rfl,b1⟩
    go_wp2_with fail
    refine (hok1 _ b1).mono ?_
    rintro e w2 ⟨rfl,b2⟩
    go_wp2
    go_ret2
    obtain ⟨g',hg⟩:=HNIL.out w2 (below_tr b1 b2)
    exact ⟨_,g',rfl,hg⟩
   ·go_enter Tryz.func132,Tryz.ntmps132
    go_wp2_with fail
    refine (hok0 _ (Below.refl _ _)).mono ?_
    rintro e w1 ⟨rfl,b1⟩
    go_wp2_with fail
    refine (hok1 _ b1).mono ?_
    rintro e w2 ⟨rfl,b2⟩
    go_wp2_with fail
    have hA:Below w2.heap.size w2 (w2.alloc (.cells #[.slice A0 n c0,.slice A1 m c1] 33)):=(Below.refl _ w2).alloc (Nat.le_refl _) _
    have b12:=below_tr b1 b2
    have bA:=below_tr b12 hA
    have hhA:(w2.alloc (.cells #[.slice A0 n c0,.slice A1 m c1] 33)).heap[w2.heap.size]?=some (.cells #[.slice A0 n c0,.slice A1 m c1] 33 (0,0)):=by letI:Low:=noLow; exact heap_new w2 _
    refine (conC_calls (VZ.out.later bA) (VU.out.later bA) (fun b hb=>HF.out b (Nat.le_trans bA.size hb)) (HF.out _ b12.size) (by omega) (by omega) hhA (by rw [← HN.out]; exact lz) (by rw [← HM.out]; exact lu)).mono ?_
    rintro e w3 ⟨v',B',rfl,b3,hO3,hB3⟩
    go_wp2_with fail
    refine (sortC_calls (x:=.l (z.rows++u.rows)) hO3 (fun r hr=>?_) (by rw [rows_l,List.length_append,← HN.out,← HM.out]; omega)).mono ?_
    ·rcases List.mem_append.1 hr with h1 | h1
     ·exact (((storeOk_iff z).1 HZ.out).1 (pr r) (List.mem_map.2 ⟨r,h1,rfl⟩)).1
     ·exact (((storeOk_iff u).1 HU.out).1 (pr r) (List.mem_map.2 ⟨r,h1,rfl⟩)).1
    rintro e w4 ⟨rfl,rows',c4,hO4,hp4,hs4⟩
    have b03:=below_tr bA b3
    have hBw:∀ b,B'=some b→w.heap.size≤b:=fun b hb=>Nat.le_trans bA.size (hB3 b hb)
    have b04:=below_ch b03 c4 hBw
    obtain ⟨nn,hv4⟩:=vd_ownN (x:=.l rows') (fun _=>0) row_cell2 hO4
    have hfr4:∀ b,w4.heap.size≤b→(fun b=>if B'=some b then nn else 0) b=0:=fun b hb=>by
     rcases ownN_at hO4 with ⟨h0,_⟩ | ⟨b',_,_,h0,_,_,_,hh,_⟩
     ·rw [h0]; exact if_neg (by simp)
     ·have:=lt_of_heap hh
      rw [h0]
      exact if_neg (fun e=>by injection e with e; omega)
    have hj:=join_same HZ.out HU.out (by rw [← HN.out,← HM.out]; omega) hp4 hs4
    go_wp2_with fail
    refine (okC_calls (x:=.l rows') hv4 hfr4).mono ?_
    rintro e w5 ⟨rfl,b5⟩
    have b05:=below_tr b04 b5
    have HO5:Hid (OwnK w5 108 (rowN 2) rows' v' B'):=ownN_below hO4 b5
    have HJ:Hid (storeOk (.l rows')=joinOk z u∧(joinOk z u=true→rows'.map pr=prs (joinR z u u.rows.length))):=hj
    clear hj hO3 hO4 hv4 hfr4 c4 hp4 hs4
    cases hjo:storeOk (.l rows') with
    | false =>
     have HK:Hid (joinOk z u=false):=by rw [← HJ.out.1,hjo]; exact rfl
     clear hjo
     go_wp2
     go_ret2
     obtain ⟨g',hg⟩:=HNIL.out w5 b05
     refine ⟨_,g',rfl,?_⟩
     have e1:joinS z u = [.l [],.b false]:=by
      unfold joinS
      rw [HK.out]
      rfl
     rw [e1]
     exact hg
    | true =>
     have HK:Hid (joinOk z u=true):=by rw [← HJ.out.1,hjo]; exact rfl
     clear hjo
     go_wp2
     go_ret2
     obtain ⟨g',hg⟩:=ofOwn (rows:=(joinR z u u.rows.length).rows) (ownC_prs HO5.out (HJ.out.2 HK.out)) hBw b05 HF.out (.b true) _ (.bool (.b true))
     refine ⟨_,g',rfl,?_⟩
     have e1:joinS z u = [.l (joinR z u u.rows.length).rows,.b true]:=by
      unfold joinS
      rw [HK.out]
      rfl
     rw [e1]
     exact hg
  ·have hu:storeOk u=false:=by simpa using hu
   rw [hu] at hok1
   have hj:joinS z u = [.l [],.b false]:=by
    unfold joinS joinOk
    rw [hz,hu]
    rfl
   rw [hj]
   clear hj hz hu
   go_enter Tryz.func132,Tryz.ntmps132
   go_wp2_with fail
   refine (hok0 _ (Below.refl _ _)).mono ?_
   rintro e w1 ⟨rfl,b1⟩
   go_wp2_with fail
   refine (hok1 _ b1).mono ?_
   rintro e w2 ⟨rfl,b2⟩
   go_wp2
   go_ret2
   obtain ⟨g',hg⟩:=HNIL.out w2 (below_tr b1 b2)
   exact ⟨_,g',rfl,hg⟩
 ·have hz:storeOk z=false:=by simpa using hz
  rw [hz] at hok0
  have hj:joinS z u = [.l [],.b false]:=by
   unfold joinS joinOk
   rw [hz]
   rfl
  rw [hj]
  clear hj hz
  go_enter Tryz.func132,Tryz.ntmps132
  go_wp2_with fail
  refine (hok0 _ (Below.refl _ _)).mono ?_
  rintro e w1 ⟨rfl,b1⟩
  go_wp2
  go_ret2
  obtain ⟨g',hg⟩:=HNIL.out w1 b1
  exact ⟨_,g',rfl,hg⟩
end Go.Proofs.YtpdfmcmnjikppaaGreat
namespace Go.Proofs.YtpdfmcmnjikppaaGreat
set_option maxRecDepth 4096
set_option maxHeartbeats 1000000
abbrev s_ShardInstallT:FuncId→List T→Option (T × Bool):=find [s_l13RankE,s_StoreOkE,s_StoreCutE,s_l13RefusedE,s_l13CopyE,s_RangesHaveE,s_l10TouchE,s_RangesPlusE,s_StoreJoinE,s_l13NewE]
theorem s_ShardInstallT_ok:CallOk Tryz.prog s_ShardInstallT:=find_ok (fC ⟨s_l13Rank_ok,fC ⟨s_StoreOk_ok,fC ⟨s_StoreCut_ok,fC ⟨s_l13Refused_ok,fC ⟨s_l13Copy_ok,fC ⟨s_RangesHave_ok,fC ⟨s_l10Touch_ok,fC ⟨s_RangesPlus_ok,fC ⟨s_StoreJoin_ok,fC ⟨s_l13New_ok,fN⟩⟩⟩⟩⟩⟩⟩⟩⟩⟩)
abbrev s_ShardInstallK:List Nat:= [0,1,2,3,4,6,8,9,10,11,12,13,14,15,33,35,42,54,60,95]
theorem s_ShardInstall_ev (N:Nat) (p q r s:List D):evFn Tryz.prog s_ShardInstallT N s_ShardInstallK Tryz.f31 (.tup [.agg [.d si,.d (.sl 41),.d (.sl 41),.d (.sl 108),.d (.sl 93),.d (.sl 75),.d (.sl 3),.d (.sl 3),.d si],.c (.d si)]) [⟨ag rIShard,p⟩,⟨ri,q⟩,⟨ag rIRange,r⟩,⟨sd (.sl 108),s⟩]=some (bo,
 bif (s_l13RankF (sub p 0 9) [(gd q 0)] (sub r 0 2)) != 1 then bif !(storeOk (gd s 0)) then bif 1 != 0 then nd (dupOk (sub p 0 9)||1==1) (some (1,[gd (sub (refShard (sub p 0 9) 1) 0 9) 0,gd (sub (refShard (sub p 0 9) 1) 0 9) 1,gd (sub (refShard (sub p 0 9) 1) 0 9) 2,gd (sub (refShard (sub p 0 9) 1) 0 9) 3,gd (sub (refShard (sub p 0 9) 1) 0 9) 4,gd (sub (refShard (sub p 0 9) 1) 0 9) 5,gd (sub (refShard (sub p 0 9) 1) 0 9) 6,gd (sub (refShard (sub p 0 9) 1) 0 9) 7,gd (sub (refShard (sub p 0 9) 1) 0 9) 8,.i 1]))
 else nd (dupOk (sub p 0 9)) (bif (gd q 0).int==(gd p 8).int then bif rangesHave (gd p 1) (sub r 0 2) then some (1,[gd (sub (dupShard (sub p 0 9)) 0 9) 0,gd (sub (dupShard (sub p 0 9)) 0 9) 1,gd (sub (dupShard (sub p 0 9)) 0 9) 2,gd (sub (dupShard (sub p 0 9)) 0 9) 3,gd (sub (dupShard (sub p 0 9)) 0 9) 4,gd (sub (dupShard (sub p 0 9)) 0 9) 5,gd (sub (dupShard (sub p 0 9)) 0 9) 6,gd (sub (dupShard (sub p 0 9)) 0 9) 7,gd (sub (dupShard (sub p 0 9)) 0 9) 8,.i 0])
 else bif (gd q 0).int==(gd p 8).int then some (1,[gd (sub (dupShard (sub p 0 9)) 0 9) 0,gd (sub (dupShard (sub p 0 9)) 0 9) 1,gd (sub (dupShard (sub p 0 9)) 0 9) 2,gd (sub (dupShard (sub p 0 9)) 0 9) 3,gd (sub (dupShard (sub p 0 9)) 0 9) 4,gd (sub (dupShard (sub p 0 9)) 0 9) 5,gd (sub (dupShard (sub p 0 9)) 0 9) 6,gd (sub (dupShard (sub p 0 9)) 0 9) 7,gd (sub (dupShard (sub p 0 9)) 0 9) 8,.i 6])
 else bif touchB (gd p 1) (sub r 0 2) then some (1,[gd (sub (dupShard (sub p 0 9)) 0 9) 0,gd (sub (dupShard (sub p 0 9)) 0 9) 1,gd (sub (dupShard (sub p 0 9)) 0 9) 2,gd (sub (dupShard (sub p 0 9)) 0 9) 3,gd (sub (dupShard (sub p 0 9)) 0 9) 4,gd (sub (dupShard (sub p 0 9)) 0 9) 5,gd (sub (dupShard (sub p 0 9)) 0 9) 6,gd (sub (dupShard (sub p 0 9)) 0 9) 7,gd (sub (dupShard (sub p 0 9)) 0 9) 8,.i 4])
 else bif !(gd (sub (chgT (gd p 1) (sub r 0 2) (.b true)) 0 2) 1).bool then some (1,[gd (sub (dupShard (sub p 0 9)) 0 9) 0,gd (sub (dupShard (sub p 0 9)) 0 9) 1,gd (sub (dupShard (sub p 0 9)) 0 9) 2,gd (sub (dupShard (sub p 0 9)) 0 9) 3,gd (sub (dupShard (sub p 0 9)) 0 9) 4,gd (sub (dupShard (sub p 0 9)) 0 9) 5,gd (sub (dupShard (sub p 0 9)) 0 9) 6,gd (sub (dupShard (sub p 0 9)) 0 9) 7,gd q 0,.i 6])
 else bif !(gd (sub (joinS (gd p 3) (gd s 0)) 0 2) 1).bool then some (1,[gd (sub (dupShard (sub p 0 9)) 0 9) 0,gd (sub (dupShard (sub p 0 9)) 0 9) 1,gd (sub (dupShard (sub p 0 9)) 0 9) 2,gd (sub (dupShard (sub p 0 9)) 0 9) 3,gd (sub (dupShard (sub p 0 9)) 0 9) 4,gd (sub (dupShard (sub p 0 9)) 0 9) 5,gd (sub (dupShard (sub p 0 9)) 0 9) 6,gd (sub (dupShard (sub p 0 9)) 0 9) 7,gd q 0,.i 6])
 else nd (leI ((gd p 5).rows.length:Int) 1000000000) (bif ltI 60 (w64 (((gd (sub (joinS (gd p 3) (gd s 0)) 0 2) 0).rows.length:Int)+(newSum (gd p 3) (gd p 5) (gd p 5).rows.length))) then some (1,[gd (sub (dupShard (sub p 0 9)) 0 9) 0,gd (sub (dupShard (sub p 0 9)) 0 9) 1,gd (sub (dupShard (sub p 0 9)) 0 9) 2,gd (sub (dupShard (sub p 0 9)) 0 9) 3,gd (sub (dupShard (sub p 0 9)) 0 9) 4,gd (sub (dupShard (sub p 0 9)) 0 9) 5,gd (sub (dupShard (sub p 0 9)) 0 9) 6,gd (sub (dupShard (sub p 0 9)) 0 9) 7,gd q 0,.i 6])
 else some (1,[gd (sub (dupShard (sub p 0 9)) 0 9) 0,gd (sub (chgT (gd p 1) (sub r 0 2) (.b true)) 0 2) 0,gd (sub (dupShard (sub p 0 9)) 0 9) 2,gd (sub (joinS (gd p 3) (gd s 0)) 0 2) 0,gd (sub (dupShard (sub p 0 9)) 0 9) 4,gd (sub (dupShard (sub p 0 9)) 0 9) 5,gd (sub (dupShard (sub p 0 9)) 0 9) 6,gd (sub (dupShard (sub p 0 9)) 0 9) 7,gd q 0,.i 0]))
 else bif (gd q 0).int==(gd p 8).int then some (1,[gd (sub (dupShard (sub p 0 9)) 0 9) 0,gd (sub (dupShard (sub p 0 9)) 0 9) 1,gd (sub (dupShard (sub p 0 9)) 0 9) 2,gd (sub (dupShard (sub p 0 9)) 0 9) 3,gd (sub (dupShard (sub p 0 9)) 0 9) 4,gd (sub (dupShard (sub p 0 9)) 0 9) 5,gd (sub (dupShard (sub p 0 9)) 0 9) 6,gd (sub (dupShard (sub p 0 9)) 0 9) 7,gd (sub (dupShard (sub p 0 9)) 0 9) 8,.i 6])
 else bif touchB (gd p 1) (sub r 0 2) then some (1,[gd (sub (dupShard (sub p 0 9)) 0 9) 0,gd (sub (dupShard (sub p 0 9)) 0 9) 1,gd (sub (dupShard (sub p 0 9)) 0 9) 2,gd (sub (dupShard (sub p 0 9)) 0 9) 3,gd (sub (dupShard (sub p 0 9)) 0 9) 4,gd (sub (dupShard (sub p 0 9)) 0 9) 5,gd (sub (dupShard (sub p 0 9)) 0 9) 6,gd (sub (dupShard (sub p 0 9)) 0 9) 7,gd (sub (dupShard (sub p 0 9)) 0 9) 8,.i 4])
 else bif !(gd (sub (chgT (gd p 1) (sub r 0 2) (.b true)) 0 2) 1).bool then some (1,[gd (sub (dupShard (sub p 0 9)) 0 9) 0,gd (sub (dupShard (sub p 0 9)) 0 9) 1,gd (sub (dupShard (sub p 0 9)) 0 9) 2,gd (sub (dupShard (sub p 0 9)) 0 9) 3,gd (sub (dupShard (sub p 0 9)) 0 9) 4,gd (sub (dupShard (sub p 0 9)) 0 9) 5,gd (sub (dupShard (sub p 0 9)) 0 9) 6,gd (sub (dupShard (sub p 0 9)) 0 9) 7,gd q 0,.i 6])
 else bif !(gd (sub (joinS (gd p 3) (gd s 0)) 0 2) 1).bool then some (1,[gd (sub (dupShard (sub p 0 9)) 0 9) 0,gd (sub (dupShard (sub p 0 9)) 0 9) 1,gd (sub (dupShard (sub p 0 9)) 0 9) 2,gd (sub (dupShard (sub p 0 9)) 0 9) 3,gd (sub (dupShard (sub p 0 9)) 0 9) 4,gd (sub (dupShard (sub p 0 9)) 0 9) 5,gd (sub (dupShard (sub p 0 9)) 0 9) 6,gd (sub (dupShard (sub p 0 9)) 0 9) 7,gd q 0,.i 6])
 else nd (leI ((gd p 5).rows.length:Int) 1000000000) (bif ltI 60 (w64 (((gd (sub (joinS (gd p 3) (gd s 0)) 0 2) 0).rows.length:Int)+(newSum (gd p 3) (gd p 5) (gd p 5).rows.length))) then some (1,[gd (sub (dupShard (sub p 0 9)) 0 9) 0,gd (sub (dupShard (sub p 0 9)) 0 9) 1,gd (sub (dupShard (sub p 0 9)) 0 9) 2,gd (sub (dupShard (sub p 0 9)) 0 9) 3,gd (sub (dupShard (sub p 0 9)) 0 9) 4,gd (sub (dupShard (sub p 0 9)) 0 9) 5,gd (sub (dupShard (sub p 0 9)) 0 9) 6,gd (sub (dupShard (sub p 0 9)) 0 9) 7,gd q 0,.i 6])
 else some (1,[gd (sub (dupShard (sub p 0 9)) 0 9) 0,gd (sub (chgT (gd p 1) (sub r 0 2) (.b true)) 0 2) 0,gd (sub (dupShard (sub p 0 9)) 0 9) 2,gd (sub (joinS (gd p 3) (gd s 0)) 0 2) 0,gd (sub (dupShard (sub p 0 9)) 0 9) 4,gd (sub (dupShard (sub p 0 9)) 0 9) 5,gd (sub (dupShard (sub p 0 9)) 0 9) 6,gd (sub (dupShard (sub p 0 9)) 0 9) 7,gd q 0,.i 0])))
 else nd (leI ((gd s 0).rows.length:Int) 1000000000) (bif ltI 0 ((scanD (gd s 0) (sub r 0 2) false).rows.length:Int) then bif 1 != 0 then nd (dupOk (sub p 0 9)||1==1) (some (1,[gd (sub (refShard (sub p 0 9) 1) 0 9) 0,gd (sub (refShard (sub p 0 9) 1) 0 9) 1,gd (sub (refShard (sub p 0 9) 1) 0 9) 2,gd (sub (refShard (sub p 0 9) 1) 0 9) 3,gd (sub (refShard (sub p 0 9) 1) 0 9) 4,gd (sub (refShard (sub p 0 9) 1) 0 9) 5,gd (sub (refShard (sub p 0 9) 1) 0 9) 6,gd (sub (refShard (sub p 0 9) 1) 0 9) 7,gd (sub (refShard (sub p 0 9) 1) 0 9) 8,.i 1]))
 else nd (dupOk (sub p 0 9)) (bif (gd q 0).int==(gd p 8).int then bif rangesHave (gd p 1) (sub r 0 2) then some (1,[gd (sub (dupShard (sub p 0 9)) 0 9) 0,gd (sub (dupShard (sub p 0 9)) 0 9) 1,gd (sub (dupShard (sub p 0 9)) 0 9) 2,gd (sub (dupShard (sub p 0 9)) 0 9) 3,gd (sub (dupShard (sub p 0 9)) 0 9) 4,gd (sub (dupShard (sub p 0 9)) 0 9) 5,gd (sub (dupShard (sub p 0 9)) 0 9) 6,gd (sub (dupShard (sub p 0 9)) 0 9) 7,gd (sub (dupShard (sub p 0 9)) 0 9) 8,.i 0])
 else bif (gd q 0).int==(gd p 8).int then some (1,[gd (sub (dupShard (sub p 0 9)) 0 9) 0,gd (sub (dupShard (sub p 0 9)) 0 9) 1,gd (sub (dupShard (sub p 0 9)) 0 9) 2,gd (sub (dupShard (sub p 0 9)) 0 9) 3,gd (sub (dupShard (sub p 0 9)) 0 9) 4,gd (sub (dupShard (sub p 0 9)) 0 9) 5,gd (sub (dupShard (sub p 0 9)) 0 9) 6,gd (sub (dupShard (sub p 0 9)) 0 9) 7,gd (sub (dupShard (sub p 0 9)) 0 9) 8,.i 6])
 else bif touchB (gd p 1) (sub r 0 2) then some (1,[gd (sub (dupShard (sub p 0 9)) 0 9) 0,gd (sub (dupShard (sub p 0 9)) 0 9) 1,gd (sub (dupShard (sub p 0 9)) 0 9) 2,gd (sub (dupShard (sub p 0 9)) 0 9) 3,gd (sub (dupShard (sub p 0 9)) 0 9) 4,gd (sub (dupShard (sub p 0 9)) 0 9) 5,gd (sub (dupShard (sub p 0 9)) 0 9) 6,gd (sub (dupShard (sub p 0 9)) 0 9) 7,gd (sub (dupShard (sub p 0 9)) 0 9) 8,.i 4])
 else bif !(gd (sub (chgT (gd p 1) (sub r 0 2) (.b true)) 0 2) 1).bool then some (1,[gd (sub (dupShard (sub p 0 9)) 0 9) 0,gd (sub (dupShard (sub p 0 9)) 0 9) 1,gd (sub (dupShard (sub p 0 9)) 0 9) 2,gd (sub (dupShard (sub p 0 9)) 0 9) 3,gd (sub (dupShard (sub p 0 9)) 0 9) 4,gd (sub (dupShard (sub p 0 9)) 0 9) 5,gd (sub (dupShard (sub p 0 9)) 0 9) 6,gd (sub (dupShard (sub p 0 9)) 0 9) 7,gd q 0,.i 6])
 else bif !(gd (sub (joinS (gd p 3) (gd s 0)) 0 2) 1).bool then some (1,[gd (sub (dupShard (sub p 0 9)) 0 9) 0,gd (sub (dupShard (sub p 0 9)) 0 9) 1,gd (sub (dupShard (sub p 0 9)) 0 9) 2,gd (sub (dupShard (sub p 0 9)) 0 9) 3,gd (sub (dupShard (sub p 0 9)) 0 9) 4,gd (sub (dupShard (sub p 0 9)) 0 9) 5,gd (sub (dupShard (sub p 0 9)) 0 9) 6,gd (sub (dupShard (sub p 0 9)) 0 9) 7,gd q 0,.i 6])
 else nd (leI ((gd p 5).rows.length:Int) 1000000000) (bif ltI 60 (w64 (((gd (sub (joinS (gd p 3) (gd s 0)) 0 2) 0).rows.length:Int)+(newSum (gd p 3) (gd p 5) (gd p 5).rows.length))) then some (1,[gd (sub (dupShard (sub p 0 9)) 0 9) 0,gd (sub (dupShard (sub p 0 9)) 0 9) 1,gd (sub (dupShard (sub p 0 9)) 0 9) 2,gd (sub (dupShard (sub p 0 9)) 0 9) 3,gd (sub (dupShard (sub p 0 9)) 0 9) 4,gd (sub (dupShard (sub p 0 9)) 0 9) 5,gd (sub (dupShard (sub p 0 9)) 0 9) 6,gd (sub (dupShard (sub p 0 9)) 0 9) 7,gd q 0,.i 6])
 else some (1,[gd (sub (dupShard (sub p 0 9)) 0 9) 0,gd (sub (chgT (gd p 1) (sub r 0 2) (.b true)) 0 2) 0,gd (sub (dupShard (sub p 0 9)) 0 9) 2,gd (sub (joinS (gd p 3) (gd s 0)) 0 2) 0,gd (sub (dupShard (sub p 0 9)) 0 9) 4,gd (sub (dupShard (sub p 0 9)) 0 9) 5,gd (sub (dupShard (sub p 0 9)) 0 9) 6,gd (sub (dupShard (sub p 0 9)) 0 9) 7,gd q 0,.i 0]))
 else bif (gd q 0).int==(gd p 8).int then some (1,[gd (sub (dupShard (sub p 0 9)) 0 9) 0,gd (sub (dupShard (sub p 0 9)) 0 9) 1,gd (sub (dupShard (sub p 0 9)) 0 9) 2,gd (sub (dupShard (sub p 0 9)) 0 9) 3,gd (sub (dupShard (sub p 0 9)) 0 9) 4,gd (sub (dupShard (sub p 0 9)) 0 9) 5,gd (sub (dupShard (sub p 0 9)) 0 9) 6,gd (sub (dupShard (sub p 0 9)) 0 9) 7,gd (sub (dupShard (sub p 0 9)) 0 9) 8,.i 6])
 else bif touchB (gd p 1) (sub r 0 2) then some (1,[gd (sub (dupShard (sub p 0 9)) 0 9) 0,gd (sub (dupShard (sub p 0 9)) 0 9) 1,gd (sub (dupShard (sub p 0 9)) 0 9) 2,gd (sub (dupShard (sub p 0 9)) 0 9) 3,gd (sub (dupShard (sub p 0 9)) 0 9) 4,gd (sub (dupShard (sub p 0 9)) 0 9) 5,gd (sub (dupShard (sub p 0 9)) 0 9) 6,gd (sub (dupShard (sub p 0 9)) 0 9) 7,gd (sub (dupShard (sub p 0 9)) 0 9) 8,.i 4])
 else bif !(gd (sub (chgT (gd p 1) (sub r 0 2) (.b true)) 0 2) 1).bool then some (1,[gd (sub (dupShard (sub p 0 9)) 0 9) 0,gd (sub (dupShard (sub p 0 9)) 0 9) 1,gd (sub (dupShard (sub p 0 9)) 0 9) 2,gd (sub (dupShard (sub p 0 9)) 0 9) 3,gd (sub (dupShard (sub p 0 9)) 0 9) 4,gd (sub (dupShard (sub p 0 9)) 0 9) 5,gd (sub (dupShard (sub p 0 9)) 0 9) 6,gd (sub (dupShard (sub p 0 9)) 0 9) 7,gd q 0,.i 6])
 else bif !(gd (sub (joinS (gd p 3) (gd s 0)) 0 2) 1).bool then some (1,[gd (sub (dupShard (sub p 0 9)) 0 9) 0,gd (sub (dupShard (sub p 0 9)) 0 9) 1,gd (sub (dupShard (sub p 0 9)) 0 9) 2,gd (sub (dupShard (sub p 0 9)) 0 9) 3,gd (sub (dupShard (sub p 0 9)) 0 9) 4,gd (sub (dupShard (sub p 0 9)) 0 9) 5,gd (sub (dupShard (sub p 0 9)) 0 9) 6,gd (sub (dupShard (sub p 0 9)) 0 9) 7,gd q 0,.i 6])
 else nd (leI ((gd p 5).rows.length:Int) 1000000000) (bif ltI 60 (w64 (((gd (sub (joinS (gd p 3) (gd s 0)) 0 2) 0).rows.length:Int)+(newSum (gd p 3) (gd p 5) (gd p 5).rows.length))) then some (1,[gd (sub (dupShard (sub p 0 9)) 0 9) 0,gd (sub (dupShard (sub p 0 9)) 0 9) 1,gd (sub (dupShard (sub p 0 9)) 0 9) 2,gd (sub (dupShard (sub p 0 9)) 0 9) 3,gd (sub (dupShard (sub p 0 9)) 0 9) 4,gd (sub (dupShard (sub p 0 9)) 0 9) 5,gd (sub (dupShard (sub p 0 9)) 0 9) 6,gd (sub (dupShard (sub p 0 9)) 0 9) 7,gd q 0,.i 6])
 else some (1,[gd (sub (dupShard (sub p 0 9)) 0 9) 0,gd (sub (chgT (gd p 1) (sub r 0 2) (.b true)) 0 2) 0,gd (sub (dupShard (sub p 0 9)) 0 9) 2,gd (sub (joinS (gd p 3) (gd s 0)) 0 2) 0,gd (sub (dupShard (sub p 0 9)) 0 9) 4,gd (sub (dupShard (sub p 0 9)) 0 9) 5,gd (sub (dupShard (sub p 0 9)) 0 9) 6,gd (sub (dupShard (sub p 0 9)) 0 9) 7,gd q 0,.i 0])))
 else bif (s_l13RankF (sub p 0 9) [(gd q 0)] (sub r 0 2)) != 0 then nd (dupOk (sub p 0 9)||(s_l13RankF (sub p 0 9) [(gd q 0)] (sub r 0 2))==1) (some (1,[gd (sub (refShard (sub p 0 9) (s_l13RankF (sub p 0 9) [(gd q 0)] (sub r 0 2))) 0 9) 0,gd (sub (refShard (sub p 0 9) (s_l13RankF (sub p 0 9) [(gd q 0)] (sub r 0 2))) 0 9) 1,gd (sub (refShard (sub p 0 9) (s_l13RankF (sub p 0 9) [(gd q 0)] (sub r 0 2))) 0 9) 2,gd (sub (refShard (sub p 0 9) (s_l13RankF (sub p 0 9) [(gd q 0)] (sub r 0 2))) 0 9) 3,gd (sub (refShard (sub p 0 9) (s_l13RankF (sub p 0 9) [(gd q 0)] (sub r 0 2))) 0 9) 4,gd (sub (refShard (sub p 0 9) (s_l13RankF (sub p 0 9) [(gd q 0)] (sub r 0 2))) 0 9) 5,gd (sub (refShard (sub p 0 9) (s_l13RankF (sub p 0 9) [(gd q 0)] (sub r 0 2))) 0 9) 6,gd (sub (refShard (sub p 0 9) (s_l13RankF (sub p 0 9) [(gd q 0)] (sub r 0 2))) 0 9) 7,gd (sub (refShard (sub p 0 9) (s_l13RankF (sub p 0 9) [(gd q 0)] (sub r 0 2))) 0 9) 8,.i (s_l13RankF (sub p 0 9) [(gd q 0)] (sub r 0 2))]))
 else nd (dupOk (sub p 0 9)) (bif (gd q 0).int==(gd p 8).int then bif rangesHave (gd p 1) (sub r 0 2) then some (1,[gd (sub (dupShard (sub p 0 9)) 0 9) 0,gd (sub (dupShard (sub p 0 9)) 0 9) 1,gd (sub (dupShard (sub p 0 9)) 0 9) 2,gd (sub (dupShard (sub p 0 9)) 0 9) 3,gd (sub (dupShard (sub p 0 9)) 0 9) 4,gd (sub (dupShard (sub p 0 9)) 0 9) 5,gd (sub (dupShard (sub p 0 9)) 0 9) 6,gd (sub (dupShard (sub p 0 9)) 0 9) 7,gd (sub (dupShard (sub p 0 9)) 0 9) 8,.i 0])
 else bif (gd q 0).int==(gd p 8).int then some (1,[gd (sub (dupShard (sub p 0 9)) 0 9) 0,gd (sub (dupShard (sub p 0 9)) 0 9) 1,gd (sub (dupShard (sub p 0 9)) 0 9) 2,gd (sub (dupShard (sub p 0 9)) 0 9) 3,gd (sub (dupShard (sub p 0 9)) 0 9) 4,gd (sub (dupShard (sub p 0 9)) 0 9) 5,gd (sub (dupShard (sub p 0 9)) 0 9) 6,gd (sub (dupShard (sub p 0 9)) 0 9) 7,gd (sub (dupShard (sub p 0 9)) 0 9) 8,.i 6])
 else bif touchB (gd p 1) (sub r 0 2) then some (1,[gd (sub (dupShard (sub p 0 9)) 0 9) 0,gd (sub (dupShard (sub p 0 9)) 0 9) 1,gd (sub (dupShard (sub p 0 9)) 0 9) 2,gd (sub (dupShard (sub p 0 9)) 0 9) 3,gd (sub (dupShard (sub p 0 9)) 0 9) 4,gd (sub (dupShard (sub p 0 9)) 0 9) 5,gd (sub (dupShard (sub p 0 9)) 0 9) 6,gd (sub (dupShard (sub p 0 9)) 0 9) 7,gd (sub (dupShard (sub p 0 9)) 0 9) 8,.i 4])
 else bif !(gd (sub (chgT (gd p 1) (sub r 0 2) (.b true)) 0 2) 1).bool then some (1,[gd (sub (dupShard (sub p 0 9)) 0 9) 0,gd (sub (dupShard (sub p 0 9)) 0 9) 1,gd (sub (dupShard (sub p 0 9)) 0 9) 2,gd (sub (dupShard (sub p 0 9)) 0 9) 3,gd (sub (dupShard (sub p 0 9)) 0 9) 4,gd (sub (dupShard (sub p 0 9)) 0 9) 5,gd (sub (dupShard (sub p 0 9)) 0 9) 6,gd (sub (dupShard (sub p 0 9)) 0 9) 7,gd q 0,.i 6])
 else bif !(gd (sub (joinS (gd p 3) (gd s 0)) 0 2) 1).bool then some (1,[gd (sub (dupShard (sub p 0 9)) 0 9) 0,gd (sub (dupShard (sub p 0 9)) 0 9) 1,gd (sub (dupShard (sub p 0 9)) 0 9) 2,gd (sub (dupShard (sub p 0 9)) 0 9) 3,gd (sub (dupShard (sub p 0 9)) 0 9) 4,gd (sub (dupShard (sub p 0 9)) 0 9) 5,gd (sub (dupShard (sub p 0 9)) 0 9) 6,gd (sub (dupShard (sub p 0 9)) 0 9) 7,gd q 0,.i 6])
 else nd (leI ((gd p 5).rows.length:Int) 1000000000) (bif ltI 60 (w64 (((gd (sub (joinS (gd p 3) (gd s 0)) 0 2) 0).rows.length:Int)+(newSum (gd p 3) (gd p 5) (gd p 5).rows.length))) then some (1,[gd (sub (dupShard (sub p 0 9)) 0 9) 0,gd (sub (dupShard (sub p 0 9)) 0 9) 1,gd (sub (dupShard (sub p 0 9)) 0 9) 2,gd (sub (dupShard (sub p 0 9)) 0 9) 3,gd (sub (dupShard (sub p 0 9)) 0 9) 4,gd (sub (dupShard (sub p 0 9)) 0 9) 5,gd (sub (dupShard (sub p 0 9)) 0 9) 6,gd (sub (dupShard (sub p 0 9)) 0 9) 7,gd q 0,.i 6])
 else some (1,[gd (sub (dupShard (sub p 0 9)) 0 9) 0,gd (sub (chgT (gd p 1) (sub r 0 2) (.b true)) 0 2) 0,gd (sub (dupShard (sub p 0 9)) 0 9) 2,gd (sub (joinS (gd p 3) (gd s 0)) 0 2) 0,gd (sub (dupShard (sub p 0 9)) 0 9) 4,gd (sub (dupShard (sub p 0 9)) 0 9) 5,gd (sub (dupShard (sub p 0 9)) 0 9) 6,gd (sub (dupShard (sub p 0 9)) 0 9) 7,gd q 0,.i 0]))
 else bif (gd q 0).int==(gd p 8).int then some (1,[gd (sub (dupShard (sub p 0 9)) 0 9) 0,gd (sub (dupShard (sub p 0 9)) 0 9) 1,gd (sub (dupShard (sub p 0 9)) 0 9) 2,gd (sub (dupShard (sub p 0 9)) 0 9) 3,gd (sub (dupShard (sub p 0 9)) 0 9) 4,gd (sub (dupShard (sub p 0 9)) 0 9) 5,gd (sub (dupShard (sub p 0 9)) 0 9) 6,gd (sub (dupShard (sub p 0 9)) 0 9) 7,gd (sub (dupShard (sub p 0 9)) 0 9) 8,.i 6])
 else bif touchB (gd p 1) (sub r 0 2) then some (1,[gd (sub (dupShard (sub p 0 9)) 0 9) 0,gd (sub (dupShard (sub p 0 9)) 0 9) 1,gd (sub (dupShard (sub p 0 9)) 0 9) 2,gd (sub (dupShard (sub p 0 9)) 0 9) 3,gd (sub (dupShard (sub p 0 9)) 0 9) 4,gd (sub (dupShard (sub p 0 9)) 0 9) 5,gd (sub (dupShard (sub p 0 9)) 0 9) 6,gd (sub (dupShard (sub p 0 9)) 0 9) 7,gd (sub (dupShard (sub p 0 9)) 0 9) 8,.i 4])
 else bif !(gd (sub (chgT (gd p 1) (sub r 0 2) (.b true)) 0 2) 1).bool then some (1,[gd (sub (dupShard (sub p 0 9)) 0 9) 0,gd (sub (dupShard (sub p 0 9)) 0 9) 1,gd (sub (dupShard (sub p 0 9)) 0 9) 2,gd (sub (dupShard (sub p 0 9)) 0 9) 3,gd (sub (dupShard (sub p 0 9)) 0 9) 4,gd (sub (dupShard (sub p 0 9)) 0 9) 5,gd (sub (dupShard (sub p 0 9)) 0 9) 6,gd (sub (dupShard (sub p 0 9)) 0 9) 7,gd q 0,.i 6])
 else bif !(gd (sub (joinS (gd p 3) (gd s 0)) 0 2) 1).bool then some (1,[gd (sub (dupShard (sub p 0 9)) 0 9) 0,gd (sub (dupShard (sub p 0 9)) 0 9) 1,gd (sub (dupShard (sub p 0 9)) 0 9) 2,gd (sub (dupShard (sub p 0 9)) 0 9) 3,gd (sub (dupShard (sub p 0 9)) 0 9) 4,gd (sub (dupShard (sub p 0 9)) 0 9) 5,gd (sub (dupShard (sub p 0 9)) 0 9) 6,gd (sub (dupShard (sub p 0 9)) 0 9) 7,gd q 0,.i 6])
 else nd (leI ((gd p 5).rows.length:Int) 1000000000) (bif ltI 60 (w64 (((gd (sub (joinS (gd p 3) (gd s 0)) 0 2) 0).rows.length:Int)+(newSum (gd p 3) (gd p 5) (gd p 5).rows.length))) then some (1,[gd (sub (dupShard (sub p 0 9)) 0 9) 0,gd (sub (dupShard (sub p 0 9)) 0 9) 1,gd (sub (dupShard (sub p 0 9)) 0 9) 2,gd (sub (dupShard (sub p 0 9)) 0 9) 3,gd (sub (dupShard (sub p 0 9)) 0 9) 4,gd (sub (dupShard (sub p 0 9)) 0 9) 5,gd (sub (dupShard (sub p 0 9)) 0 9) 6,gd (sub (dupShard (sub p 0 9)) 0 9) 7,gd q 0,.i 6])
 else some (1,[gd (sub (dupShard (sub p 0 9)) 0 9) 0,gd (sub (chgT (gd p 1) (sub r 0 2) (.b true)) 0 2) 0,gd (sub (dupShard (sub p 0 9)) 0 9) 2,gd (sub (joinS (gd p 3) (gd s 0)) 0 2) 0,gd (sub (dupShard (sub p 0 9)) 0 9) 4,gd (sub (dupShard (sub p 0 9)) 0 9) 5,gd (sub (dupShard (sub p 0 9)) 0 9) 6,gd (sub (dupShard (sub p 0 9)) 0 9) 7,gd q 0,.i 0]))))
 else bif (s_l13RankF (sub p 0 9) [(gd q 0)] (sub r 0 2)) != 0 then nd (dupOk (sub p 0 9)||(s_l13RankF (sub p 0 9) [(gd q 0)] (sub r 0 2))==1) (some (1,[gd (sub (refShard (sub p 0 9) (s_l13RankF (sub p 0 9) [(gd q 0)] (sub r 0 2))) 0 9) 0,gd (sub (refShard (sub p 0 9) (s_l13RankF (sub p 0 9) [(gd q 0)] (sub r 0 2))) 0 9) 1,gd (sub (refShard (sub p 0 9) (s_l13RankF (sub p 0 9) [(gd q 0)] (sub r 0 2))) 0 9) 2,gd (sub (refShard (sub p 0 9) (s_l13RankF (sub p 0 9) [(gd q 0)] (sub r 0 2))) 0 9) 3,gd (sub (refShard (sub p 0 9) (s_l13RankF (sub p 0 9) [(gd q 0)] (sub r 0 2))) 0 9) 4,gd (sub (refShard (sub p 0 9) (s_l13RankF (sub p 0 9) [(gd q 0)] (sub r 0 2))) 0 9) 5,gd (sub (refShard (sub p 0 9) (s_l13RankF (sub p 0 9) [(gd q 0)] (sub r 0 2))) 0 9) 6,gd (sub (refShard (sub p 0 9) (s_l13RankF (sub p 0 9) [(gd q 0)] (sub r 0 2))) 0 9) 7,gd (sub (refShard (sub p 0 9) (s_l13RankF (sub p 0 9) [(gd q 0)] (sub r 0 2))) 0 9) 8,.i (s_l13RankF (sub p 0 9) [(gd q 0)] (sub r 0 2))]))
 else nd (dupOk (sub p 0 9)) (bif (gd q 0).int==(gd p 8).int then bif rangesHave (gd p 1) (sub r 0 2) then some (1,[gd (sub (dupShard (sub p 0 9)) 0 9) 0,gd (sub (dupShard (sub p 0 9)) 0 9) 1,gd (sub (dupShard (sub p 0 9)) 0 9) 2,gd (sub (dupShard (sub p 0 9)) 0 9) 3,gd (sub (dupShard (sub p 0 9)) 0 9) 4,gd (sub (dupShard (sub p 0 9)) 0 9) 5,gd (sub (dupShard (sub p 0 9)) 0 9) 6,gd (sub (dupShard (sub p 0 9)) 0 9) 7,gd (sub (dupShard (sub p 0 9)) 0 9) 8,.i 0])
 else bif (gd q 0).int==(gd p 8).int then some (1,[gd (sub (dupShard (sub p 0 9)) 0 9) 0,gd (sub (dupShard (sub p 0 9)) 0 9) 1,gd (sub (dupShard (sub p 0 9)) 0 9) 2,gd (sub (dupShard (sub p 0 9)) 0 9) 3,gd (sub (dupShard (sub p 0 9)) 0 9) 4,gd (sub (dupShard (sub p 0 9)) 0 9) 5,gd (sub (dupShard (sub p 0 9)) 0 9) 6,gd (sub (dupShard (sub p 0 9)) 0 9) 7,gd (sub (dupShard (sub p 0 9)) 0 9) 8,.i 6])
 else bif touchB (gd p 1) (sub r 0 2) then some (1,[gd (sub (dupShard (sub p 0 9)) 0 9) 0,gd (sub (dupShard (sub p 0 9)) 0 9) 1,gd (sub (dupShard (sub p 0 9)) 0 9) 2,gd (sub (dupShard (sub p 0 9)) 0 9) 3,gd (sub (dupShard (sub p 0 9)) 0 9) 4,gd (sub (dupShard (sub p 0 9)) 0 9) 5,gd (sub (dupShard (sub p 0 9)) 0 9) 6,gd (sub (dupShard (sub p 0 9)) 0 9) 7,gd (sub (dupShard (sub p 0 9)) 0 9) 8,.i 4])
 else bif !(gd (sub (chgT (gd p 1) (sub r 0 2) (.b true)) 0 2) 1).bool then some (1,[gd (sub (dupShard (sub p 0 9)) 0 9) 0,gd (sub (dupShard (sub p 0 9)) 0 9) 1,gd (sub (dupShard (sub p 0 9)) 0 9) 2,gd (sub (dupShard (sub p 0 9)) 0 9) 3,gd (sub (dupShard (sub p 0 9)) 0 9) 4,gd (sub (dupShard (sub p 0 9)) 0 9) 5,gd (sub (dupShard (sub p 0 9)) 0 9) 6,gd (sub (dupShard (sub p 0 9)) 0 9) 7,gd q 0,.i 6])
 else bif !(gd (sub (joinS (gd p 3) (gd s 0)) 0 2) 1).bool then some (1,[gd (sub (dupShard (sub p 0 9)) 0 9) 0,gd (sub (dupShard (sub p 0 9)) 0 9) 1,gd (sub (dupShard (sub p 0 9)) 0 9) 2,gd (sub (dupShard (sub p 0 9)) 0 9) 3,gd (sub (dupShard (sub p 0 9)) 0 9) 4,gd (sub (dupShard (sub p 0 9)) 0 9) 5,gd (sub (dupShard (sub p 0 9)) 0 9) 6,gd (sub (dupShard (sub p 0 9)) 0 9) 7,gd q 0,.i 6])
 else nd (leI ((gd p 5).rows.length:Int) 1000000000) (bif ltI 60 (w64 (((gd (sub (joinS (gd p 3) (gd s 0)) 0 2) 0).rows.length:Int)+(newSum (gd p 3) (gd p 5) (gd p 5).rows.length))) then some (1,[gd (sub (dupShard (sub p 0 9)) 0 9) 0,gd (sub (dupShard (sub p 0 9)) 0 9) 1,gd (sub (dupShard (sub p 0 9)) 0 9) 2,gd (sub (dupShard (sub p 0 9)) 0 9) 3,gd (sub (dupShard (sub p 0 9)) 0 9) 4,gd (sub (dupShard (sub p 0 9)) 0 9) 5,gd (sub (dupShard (sub p 0 9)) 0 9) 6,gd (sub (dupShard (sub p 0 9)) 0 9) 7,gd q 0,.i 6])
 else some (1,[gd (sub (dupShard (sub p 0 9)) 0 9) 0,gd (sub (chgT (gd p 1) (sub r 0 2) (.b true)) 0 2) 0,gd (sub (dupShard (sub p 0 9)) 0 9) 2,gd (sub (joinS (gd p 3) (gd s 0)) 0 2) 0,gd (sub (dupShard (sub p 0 9)) 0 9) 4,gd (sub (dupShard (sub p 0 9)) 0 9) 5,gd (sub (dupShard (sub p 0 9)) 0 9) 6,gd (sub (dupShard (sub p 0 9)) 0 9) 7,gd q 0,.i 0]))
 else bif (gd q 0).int==(gd p 8).int then some (1,[gd (sub (dupShard (sub p 0 9)) 0 9) 0,gd (sub (dupShard (sub p 0 9)) 0 9) 1,gd (sub (dupShard (sub p 0 9)) 0 9) 2,gd (sub (dupShard (sub p 0 9)) 0 9) 3,gd (sub (dupShard (sub p 0 9)) 0 9) 4,gd (sub (dupShard (sub p 0 9)) 0 9) 5,gd (sub (dupShard (sub p 0 9)) 0 9) 6,gd (sub (dupShard (sub p 0 9)) 0 9) 7,gd (sub (dupShard (sub p 0 9)) 0 9) 8,.i 6])
 else bif touchB (gd p 1) (sub r 0 2) then some (1,[gd (sub (dupShard (sub p 0 9)) 0 9) 0,gd (sub (dupShard (sub p 0 9)) 0 9) 1,gd (sub (dupShard (sub p 0 9)) 0 9) 2,gd (sub (dupShard (sub p 0 9)) 0 9) 3,gd (sub (dupShard (sub p 0 9)) 0 9) 4,gd (sub (dupShard (sub p 0 9)) 0 9) 5,gd (sub (dupShard (sub p 0 9)) 0 9) 6,gd (sub (dupShard (sub p 0 9)) 0 9) 7,gd (sub (dupShard (sub p 0 9)) 0 9) 8,.i 4])
 else bif !(gd (sub (chgT (gd p 1) (sub r 0 2) (.b true)) 0 2) 1).bool then some (1,[gd (sub (dupShard (sub p 0 9)) 0 9) 0,gd (sub (dupShard (sub p 0 9)) 0 9) 1,gd (sub (dupShard (sub p 0 9)) 0 9) 2,gd (sub (dupShard (sub p 0 9)) 0 9) 3,gd (sub (dupShard (sub p 0 9)) 0 9) 4,gd (sub (dupShard (sub p 0 9)) 0 9) 5,gd (sub (dupShard (sub p 0 9)) 0 9) 6,gd (sub (dupShard (sub p 0 9)) 0 9) 7,gd q 0,.i 6])
 else bif !(gd (sub (joinS (gd p 3) (gd s 0)) 0 2) 1).bool then some (1,[gd (sub (dupShard (sub p 0 9)) 0 9) 0,gd (sub (dupShard (sub p 0 9)) 0 9) 1,gd (sub (dupShard (sub p 0 9)) 0 9) 2,gd (sub (dupShard (sub p 0 9)) 0 9) 3,gd (sub (dupShard (sub p 0 9)) 0 9) 4,gd (sub (dupShard (sub p 0 9)) 0 9) 5,gd (sub (dupShard (sub p 0 9)) 0 9) 6,gd (sub (dupShard (sub p 0 9)) 0 9) 7,gd q 0,.i 6])
 else nd (leI ((gd p 5).rows.length:Int) 1000000000) (bif ltI 60 (w64 (((gd (sub (joinS (gd p 3) (gd s 0)) 0 2) 0).rows.length:Int)+(newSum (gd p 3) (gd p 5) (gd p 5).rows.length))) then some (1,[gd (sub (dupShard (sub p 0 9)) 0 9) 0,gd (sub (dupShard (sub p 0 9)) 0 9) 1,gd (sub (dupShard (sub p 0 9)) 0 9) 2,gd (sub (dupShard (sub p 0 9)) 0 9) 3,gd (sub (dupShard (sub p 0 9)) 0 9) 4,gd (sub (dupShard (sub p 0 9)) 0 9) 5,gd (sub (dupShard (sub p 0 9)) 0 9) 6,gd (sub (dupShard (sub p 0 9)) 0 9) 7,gd q 0,.i 6])
 else some (1,[gd (sub (dupShard (sub p 0 9)) 0 9) 0,gd (sub (chgT (gd p 1) (sub r 0 2) (.b true)) 0 2) 0,gd (sub (dupShard (sub p 0 9)) 0 9) 2,gd (sub (joinS (gd p 3) (gd s 0)) 0 2) 0,gd (sub (dupShard (sub p 0 9)) 0 9) 4,gd (sub (dupShard (sub p 0 9)) 0 9) 5,gd (sub (dupShard (sub p 0 9)) 0 9) 6,gd (sub (dupShard (sub p 0 9)) 0 9) 7,gd q 0,.i 0])))):=by kernel_rfl
theorem rank_cases (p:List D) (q:D) (r:List D):(s_l13RankF (sub p 0 9) [q] (sub r 0 2))=1∨((s_l13RankF (sub p 0 9) [q] (sub r 0 2))=2∧shardOk (sub p 0 9)=true∧rangeOk (sub r 0 2)=true)∨((s_l13RankF (sub p 0 9) [q] (sub r 0 2))=0∧shardOk (sub p 0 9)=true∧rangeOk (sub r 0 2)=true):=by
 unfold s_l13RankF
 rw [show sub (sub p 0 9) 0 9=sub p 0 9 from rfl,show sub (sub r 0 2) 0 2=sub r 0 2 from rfl]
 cases shardOk (sub p 0 9)
 ·exact .inl rfl
 ·cases inB (gd [q] 0).int 1 1000000
  ·exact .inl rfl
  ·cases rangeOk (sub r 0 2)
   ·exact .inl rfl
   ·cases ltI (gd [q] 0).int (gd (sub p 0 9) 8).int
    ·exact .inr (.inr ⟨rfl,rfl,rfl⟩)
    ·exact .inr (.inl ⟨rfl,rfl,rfl⟩)
def insR (p:List D) (q:D) (r:List D) (s:D):List D:=
 bif q.int==(gd p 8).int then bif haveAll (gd p 1) (sub r 0 2) then sub (dupShard (sub p 0 9)) 0 9 ++ [.i 0] else sub (dupShard (sub p 0 9)) 0 9 ++ [.i 6]
 else bif haveAnyB (gd p 1) (sub r 0 2) then sub (dupShard (sub p 0 9)) 0 9 ++ [.i 4]
 else bif !(gd (sub (chgT (gd p 1) (sub r 0 2) (.b true)) 0 2) 1).bool then [gd (sub (dupShard (sub p 0 9)) 0 9) 0,gd (sub (dupShard (sub p 0 9)) 0 9) 1,gd (sub (dupShard (sub p 0 9)) 0 9) 2,gd (sub (dupShard (sub p 0 9)) 0 9) 3,gd (sub (dupShard (sub p 0 9)) 0 9) 4,gd (sub (dupShard (sub p 0 9)) 0 9) 5,gd (sub (dupShard (sub p 0 9)) 0 9) 6,gd (sub (dupShard (sub p 0 9)) 0 9) 7,q] ++ [.i 6]
 else bif ltI 60 (w64 (roomOf p+(s.rows.length:Int))) then [gd (sub (dupShard (sub p 0 9)) 0 9) 0,gd (sub (dupShard (sub p 0 9)) 0 9) 1,gd (sub (dupShard (sub p 0 9)) 0 9) 2,gd (sub (dupShard (sub p 0 9)) 0 9) 3,gd (sub (dupShard (sub p 0 9)) 0 9) 4,gd (sub (dupShard (sub p 0 9)) 0 9) 5,gd (sub (dupShard (sub p 0 9)) 0 9) 6,gd (sub (dupShard (sub p 0 9)) 0 9) 7,q] ++ [.i 6]
 else [gd (sub (dupShard (sub p 0 9)) 0 9) 0,gd (sub (chgT (gd p 1) (sub r 0 2) (.b true)) 0 2) 0,gd (sub (dupShard (sub p 0 9)) 0 9) 2,gd (sub (joinS (gd p 3) s) 0 2) 0,gd (sub (dupShard (sub p 0 9)) 0 9) 4,gd (sub (dupShard (sub p 0 9)) 0 9) 5,gd (sub (dupShard (sub p 0 9)) 0 9) 6,gd (sub (dupShard (sub p 0 9)) 0 9) 7,q,.i 0]
def insD (p:List D) (q:D) (r:List D) (s:D):List D:=
 bif (!(storeOk s)||outS r s)||((s_l13RankF (sub p 0 9) [q] (sub r 0 2))==1) then noShard ++ [.i 1]
 else bif (s_l13RankF (sub p 0 9) [q] (sub r 0 2)) != 0 then sub (dupShard (sub p 0 9)) 0 9 ++ [.i (s_l13RankF (sub p 0 9) [q] (sub r 0 2))]
 else insR p q r s
def s_ShardInstallE:Ent:=(31,e4 (ag rIShard) ri (ag rIRange) (sd (.sl 108)) fun p q r s=>(⟨.tup [.agg [.d si,.d (.sl 41),.d (.sl 41),.d (.sl 108),.d (.sl 93),.d (.sl 75),.d (.sl 3),.d (.sl 3),.d si],.c (.d si)],sub (insD p (gd q 0) r (gd s 0)) 0 10⟩,true))
theorem s_ShardInstall_ok:EntOk Tryz.prog s_ShardInstallE:=e4_ok fun p q r s h=>evFn_sound (N:=0) (ks:=s_ShardInstallK) (key:=bo) s_ShardInstallT_ok (enters Tryz.func31) Tryz.func31 fun hw=>by
 rw [s_ShardInstall_ev]
 rw [show sub (insD p (gd q 0) r (gd s 0)) 0 10=sub (insD p (gd q 0) r (gd s 0)) 0 10 from rfl]
 unfold insD
 have hdup:shardOk (sub p 0 9)=true→dupOk (sub p 0 9)=true:=shard_dup
 rcases rank_cases p (gd q 0) r with hc | ⟨hc,hsh,hra⟩ | ⟨hc,hsh,hra⟩
 ·rw [hc]
  simp only [cond_true,cond_false,Bool.not_true,Bool.not_false,Bool.or_true,Bool.true_or,Bool.or_false,Bool.false_or,Bool.and_self,nd_true,show ((1:Int) != 1)=false from rfl,show ((1:Int) != 0)=true from rfl,show ((2:Int) != 0)=true from rfl,show ((2:Int) != 1)=true from rfl,show ((0:Int) != 0)=false from rfl,show ((0:Int) != 1)=true from rfl,show ((6:Int) != 0)=true from rfl,show ((4:Int) != 0)=true from rfl,show ((1:Int)==1)=true from rfl,show ((2:Int)==1)=false from rfl,show ((0:Int)==1)=false from rfl,show ((6:Int)==1)=false from rfl,show ((4:Int)==1)=false from rfl,show ((1:Nat) != 1)=false from rfl,show ((1:Nat) != 0)=true from rfl,show ((2:Nat) != 0)=true from rfl,show ((2:Nat) != 1)=true from rfl,show ((0:Nat) != 0)=false from rfl,show ((0:Nat) != 1)=true from rfl,show ((6:Nat) != 0)=true from rfl,show ((4:Nat) != 0)=true from rfl,show ((1:Nat)==1)=true from rfl,show ((2:Nat)==1)=false from rfl,show ((0:Nat)==1)=false from rfl,show ((6:Nat)==1)=false from rfl,show ((4:Nat)==1)=false from rfl]
  rfl
 ·rw [hc]
  simp only [cond_true,cond_false,Bool.not_true,Bool.not_false,Bool.or_true,Bool.true_or,Bool.or_false,Bool.false_or,Bool.and_self,nd_true,show ((1:Int) != 1)=false from rfl,show ((1:Int) != 0)=true from rfl,show ((2:Int) != 0)=true from rfl,show ((2:Int) != 1)=true from rfl,show ((0:Int) != 0)=false from rfl,show ((0:Int) != 1)=true from rfl,show ((6:Int) != 0)=true from rfl,show ((4:Int) != 0)=true from rfl,show ((1:Int)==1)=true from rfl,show ((2:Int)==1)=false from rfl,show ((0:Int)==1)=false from rfl,show ((6:Int)==1)=false from rfl,show ((4:Int)==1)=false from rfl,show ((1:Nat) != 1)=false from rfl,show ((1:Nat) != 0)=true from rfl,show ((2:Nat) != 0)=true from rfl,show ((2:Nat) != 1)=true from rfl,show ((0:Nat) != 0)=false from rfl,show ((0:Nat) != 1)=true from rfl,show ((6:Nat) != 0)=true from rfl,show ((4:Nat) != 0)=true from rfl,show ((1:Nat)==1)=true from rfl,show ((2:Nat)==1)=false from rfl,show ((0:Nat)==1)=false from rfl,show ((6:Nat)==1)=false from rfl,show ((4:Nat)==1)=false from rfl,hdup hsh]
  cases hz:storeOk (gd s 0) with
  | false =>
   simp only [cond_true,cond_false,Bool.not_true,Bool.not_false,Bool.or_true,Bool.true_or,Bool.or_false,Bool.false_or,Bool.and_self,nd_true,show ((1:Int) != 1)=false from rfl,show ((1:Int) != 0)=true from rfl,show ((2:Int) != 0)=true from rfl,show ((2:Int) != 1)=true from rfl,show ((0:Int) != 0)=false from rfl,show ((0:Int) != 1)=true from rfl,show ((6:Int) != 0)=true from rfl,show ((4:Int) != 0)=true from rfl,show ((1:Int)==1)=true from rfl,show ((2:Int)==1)=false from rfl,show ((0:Int)==1)=false from rfl,show ((6:Int)==1)=false from rfl,show ((4:Int)==1)=false from rfl,show ((1:Nat) != 1)=false from rfl,show ((1:Nat) != 0)=true from rfl,show ((2:Nat) != 0)=true from rfl,show ((2:Nat) != 1)=true from rfl,show ((0:Nat) != 0)=false from rfl,show ((0:Nat) != 1)=true from rfl,show ((6:Nat) != 0)=true from rfl,show ((4:Nat) != 0)=true from rfl,show ((1:Nat)==1)=true from rfl,show ((2:Nat)==1)=false from rfl,show ((0:Nat)==1)=false from rfl,show ((6:Nat)==1)=false from rfl,show ((4:Nat)==1)=false from rfl]
   rfl
  | true =>
   have ls:=(store_sorted hz).len
   rw [cut_out hz hra,leI_t (show ((gd s 0).rows.length:Int)≤1000000000 by omega)]
   cases outS r (gd s 0) <;> (simp only [cond_true,cond_false,Bool.not_true,Bool.not_false,Bool.or_true,Bool.true_or,Bool.or_false,Bool.false_or,Bool.and_self,nd_true,show ((1:Int) != 1)=false from rfl,show ((1:Int) != 0)=true from rfl,show ((2:Int) != 0)=true from rfl,show ((2:Int) != 1)=true from rfl,show ((0:Int) != 0)=false from rfl,show ((0:Int) != 1)=true from rfl,show ((6:Int) != 0)=true from rfl,show ((4:Int) != 0)=true from rfl,show ((1:Int)==1)=true from rfl,show ((2:Int)==1)=false from rfl,show ((0:Int)==1)=false from rfl,show ((6:Int)==1)=false from rfl,show ((4:Int)==1)=false from rfl,show ((1:Nat) != 1)=false from rfl,show ((1:Nat) != 0)=true from rfl,show ((2:Nat) != 0)=true from rfl,show ((2:Nat) != 1)=true from rfl,show ((0:Nat) != 0)=false from rfl,show ((0:Nat) != 1)=true from rfl,show ((6:Nat) != 0)=true from rfl,show ((4:Nat) != 0)=true from rfl,show ((1:Nat)==1)=true from rfl,show ((2:Nat)==1)=false from rfl,show ((0:Nat)==1)=false from rfl,show ((6:Nat)==1)=false from rfl,show ((4:Nat)==1)=false from rfl]; rfl)
 ·rw [hc]
  simp only [cond_true,cond_false,Bool.not_true,Bool.not_false,Bool.or_true,Bool.true_or,Bool.or_false,Bool.false_or,Bool.and_self,nd_true,show ((1:Int) != 1)=false from rfl,show ((1:Int) != 0)=true from rfl,show ((2:Int) != 0)=true from rfl,show ((2:Int) != 1)=true from rfl,show ((0:Int) != 0)=false from rfl,show ((0:Int) != 1)=true from rfl,show ((6:Int) != 0)=true from rfl,show ((4:Int) != 0)=true from rfl,show ((1:Int)==1)=true from rfl,show ((2:Int)==1)=false from rfl,show ((0:Int)==1)=false from rfl,show ((6:Int)==1)=false from rfl,show ((4:Int)==1)=false from rfl,show ((1:Nat) != 1)=false from rfl,show ((1:Nat) != 0)=true from rfl,show ((2:Nat) != 0)=true from rfl,show ((2:Nat) != 1)=true from rfl,show ((0:Nat) != 0)=false from rfl,show ((0:Nat) != 1)=true from rfl,show ((6:Nat) != 0)=true from rfl,show ((4:Nat) != 0)=true from rfl,show ((1:Nat)==1)=true from rfl,show ((2:Nat)==1)=false from rfl,show ((0:Nat)==1)=false from rfl,show ((6:Nat)==1)=false from rfl,show ((4:Nat)==1)=false from rfl,hdup hsh]
  cases hz:storeOk (gd s 0) with
  | false =>
   simp only [cond_true,cond_false,Bool.not_true,Bool.not_false,Bool.or_true,Bool.true_or,Bool.or_false,Bool.false_or,Bool.and_self,nd_true,show ((1:Int) != 1)=false from rfl,show ((1:Int) != 0)=true from rfl,show ((2:Int) != 0)=true from rfl,show ((2:Int) != 1)=true from rfl,show ((0:Int) != 0)=false from rfl,show ((0:Int) != 1)=true from rfl,show ((6:Int) != 0)=true from rfl,show ((4:Int) != 0)=true from rfl,show ((1:Int)==1)=true from rfl,show ((2:Int)==1)=false from rfl,show ((0:Int)==1)=false from rfl,show ((6:Int)==1)=false from rfl,show ((4:Int)==1)=false from rfl,show ((1:Nat) != 1)=false from rfl,show ((1:Nat) != 0)=true from rfl,show ((2:Nat) != 0)=true from rfl,show ((2:Nat) != 1)=true from rfl,show ((0:Nat) != 0)=false from rfl,show ((0:Nat) != 1)=true from rfl,show ((6:Nat) != 0)=true from rfl,show ((4:Nat) != 0)=true from rfl,show ((1:Nat)==1)=true from rfl,show ((2:Nat)==1)=false from rfl,show ((0:Nat)==1)=false from rfl,show ((6:Nat)==1)=false from rfl,show ((4:Nat)==1)=false from rfl]
   rfl
  | true =>
   have ls:=(store_sorted hz).len
   rw [cut_out hz hra,leI_t (show ((gd s 0).rows.length:Int)≤1000000000 by omega)]
   cases ho:outS r (gd s 0) with
   | true =>
    simp only [cond_true,cond_false,Bool.not_true,Bool.not_false,Bool.or_true,Bool.true_or,Bool.or_false,Bool.false_or,Bool.and_self,nd_true,show ((1:Int) != 1)=false from rfl,show ((1:Int) != 0)=true from rfl,show ((2:Int) != 0)=true from rfl,show ((2:Int) != 1)=true from rfl,show ((0:Int) != 0)=false from rfl,show ((0:Int) != 1)=true from rfl,show ((6:Int) != 0)=true from rfl,show ((4:Int) != 0)=true from rfl,show ((1:Int)==1)=true from rfl,show ((2:Int)==1)=false from rfl,show ((0:Int)==1)=false from rfl,show ((6:Int)==1)=false from rfl,show ((4:Int)==1)=false from rfl,show ((1:Nat) != 1)=false from rfl,show ((1:Nat) != 0)=true from rfl,show ((2:Nat) != 0)=true from rfl,show ((2:Nat) != 1)=true from rfl,show ((0:Nat) != 0)=false from rfl,show ((0:Nat) != 1)=true from rfl,show ((6:Nat) != 0)=true from rfl,show ((4:Nat) != 0)=true from rfl,show ((1:Nat)==1)=true from rfl,show ((2:Nat)==1)=false from rfl,show ((0:Nat)==1)=false from rfl,show ((6:Nat)==1)=false from rfl,show ((4:Nat)==1)=false from rfl]
    rfl
   | false =>
   obtain ⟨_,_,hl5,_,_,hst,hr1,_⟩:=shard_lens hsh
   have hr1:rangesOk (gd p 1)=true:=hr1
   have hl5:(gd p 5).rows.length≤60:=hl5
   have hh:rangesHave (gd p 1) (sub r 0 2)=haveAll (gd p 1) (sub r 0 2):=by
    unfold rangesHave
    rw [hr1,hra,Bool.true_and,Bool.true_and]
   unfold insR
   rw [hh,touch_same hr1 hra,leI_t (show ((gd p 5).rows.length:Int)≤1000000000 by omega)]
   simp only [cond_true,cond_false,Bool.not_true,Bool.not_false,Bool.or_true,Bool.true_or,Bool.or_false,Bool.false_or,Bool.and_self,nd_true,show ((1:Int) != 1)=false from rfl,show ((1:Int) != 0)=true from rfl,show ((2:Int) != 0)=true from rfl,show ((2:Int) != 1)=true from rfl,show ((0:Int) != 0)=false from rfl,show ((0:Int) != 1)=true from rfl,show ((6:Int) != 0)=true from rfl,show ((4:Int) != 0)=true from rfl,show ((1:Int)==1)=true from rfl,show ((2:Int)==1)=false from rfl,show ((0:Int)==1)=false from rfl,show ((6:Int)==1)=false from rfl,show ((4:Int)==1)=false from rfl,show ((1:Nat) != 1)=false from rfl,show ((1:Nat) != 0)=true from rfl,show ((2:Nat) != 0)=true from rfl,show ((2:Nat) != 1)=true from rfl,show ((0:Nat) != 0)=false from rfl,show ((0:Nat) != 1)=true from rfl,show ((6:Nat) != 0)=true from rfl,show ((4:Nat) != 0)=true from rfl,show ((1:Nat)==1)=true from rfl,show ((2:Nat)==1)=false from rfl,show ((0:Nat)==1)=false from rfl,show ((6:Nat)==1)=false from rfl,show ((4:Nat)==1)=false from rfl]
   cases (gd q 0).int==(gd p 8).int with
   | true =>
    cases haveAll (gd p 1) (sub r 0 2) <;> rfl
   | false =>
   simp only [cond_true,cond_false,Bool.not_true,Bool.not_false,Bool.or_true,Bool.true_or,Bool.or_false,Bool.false_or,Bool.and_self,nd_true,show ((1:Int) != 1)=false from rfl,show ((1:Int) != 0)=true from rfl,show ((2:Int) != 0)=true from rfl,show ((2:Int) != 1)=true from rfl,show ((0:Int) != 0)=false from rfl,show ((0:Int) != 1)=true from rfl,show ((6:Int) != 0)=true from rfl,show ((4:Int) != 0)=true from rfl,show ((1:Int)==1)=true from rfl,show ((2:Int)==1)=false from rfl,show ((0:Int)==1)=false from rfl,show ((6:Int)==1)=false from rfl,show ((4:Int)==1)=false from rfl,show ((1:Nat) != 1)=false from rfl,show ((1:Nat) != 0)=true from rfl,show ((2:Nat) != 0)=true from rfl,show ((2:Nat) != 1)=true from rfl,show ((0:Nat) != 0)=false from rfl,show ((0:Nat) != 1)=true from rfl,show ((6:Nat) != 0)=true from rfl,show ((4:Nat) != 0)=true from rfl,show ((1:Nat)==1)=true from rfl,show ((2:Nat)==1)=false from rfl,show ((0:Nat)==1)=false from rfl,show ((6:Nat)==1)=false from rfl,show ((4:Nat)==1)=false from rfl]
   cases hany:haveAnyB (gd p 1) (sub r 0 2) with
   | true=>rfl
   | false =>
   simp only [cond_true,cond_false,Bool.not_true,Bool.not_false,Bool.or_true,Bool.true_or,Bool.or_false,Bool.false_or,Bool.and_self,nd_true,show ((1:Int) != 1)=false from rfl,show ((1:Int) != 0)=true from rfl,show ((2:Int) != 0)=true from rfl,show ((2:Int) != 1)=true from rfl,show ((0:Int) != 0)=false from rfl,show ((0:Int) != 1)=true from rfl,show ((6:Int) != 0)=true from rfl,show ((4:Int) != 0)=true from rfl,show ((1:Int)==1)=true from rfl,show ((2:Int)==1)=false from rfl,show ((0:Int)==1)=false from rfl,show ((6:Int)==1)=false from rfl,show ((4:Int)==1)=false from rfl,show ((1:Nat) != 1)=false from rfl,show ((1:Nat) != 0)=true from rfl,show ((2:Nat) != 0)=true from rfl,show ((2:Nat) != 1)=true from rfl,show ((0:Nat) != 0)=false from rfl,show ((0:Nat) != 1)=true from rfl,show ((6:Nat) != 0)=true from rfl,show ((4:Nat) != 0)=true from rfl,show ((1:Nat)==1)=true from rfl,show ((2:Nat)==1)=false from rfl,show ((0:Nat)==1)=false from rfl,show ((6:Nat)==1)=false from rfl,show ((4:Nat)==1)=false from rfl]
   cases (gd (sub (chgT (gd p 1) (sub r 0 2) (.b true)) 0 2) 1).bool with
   | false=>rfl
   | true =>
   simp only [cond_true,cond_false,Bool.not_true,Bool.not_false,Bool.or_true,Bool.true_or,Bool.or_false,Bool.false_or,Bool.and_self,nd_true,show ((1:Int) != 1)=false from rfl,show ((1:Int) != 0)=true from rfl,show ((2:Int) != 0)=true from rfl,show ((2:Int) != 1)=true from rfl,show ((0:Int) != 0)=false from rfl,show ((0:Int) != 1)=true from rfl,show ((6:Int) != 0)=true from rfl,show ((4:Int) != 0)=true from rfl,show ((1:Int)==1)=true from rfl,show ((2:Int)==1)=false from rfl,show ((0:Int)==1)=false from rfl,show ((6:Int)==1)=false from rfl,show ((4:Int)==1)=false from rfl,show ((1:Nat) != 1)=false from rfl,show ((1:Nat) != 0)=true from rfl,show ((2:Nat) != 0)=true from rfl,show ((2:Nat) != 1)=true from rfl,show ((0:Nat) != 0)=false from rfl,show ((0:Nat) != 1)=true from rfl,show ((6:Nat) != 0)=true from rfl,show ((4:Nat) != 0)=true from rfl,show ((1:Nat)==1)=true from rfl,show ((2:Nat)==1)=false from rfl,show ((0:Nat)==1)=false from rfl,show ((6:Nat)==1)=false from rfl,show ((4:Nat)==1)=false from rfl]
   obtain ⟨f1,f2⟩:=full_same (p:=sub p 0 9) hsh hz hra ho hany
   have f1:(bif !(joinOk (gd p 3) (gd s 0)) then true else ltI 60 (w64 (((joinR (gd p 3) (gd s 0) (gd s 0).rows.length).rows.length:Int)+newSum (gd p 3) (gd p 5) (gd p 5).rows.length)))=ltI 60 (w64 (roomOf p+((gd s 0).rows.length:Int))):=f1
   rw [← f1,show (gd (sub (joinS (gd p 3) (gd s 0)) 0 2) 1).bool=joinOk (gd p 3) (gd s 0) from rfl]
   cases hj:joinOk (gd p 3) (gd s 0) with
   | false=>rfl
   | true =>
    have e1:(gd (sub (joinS (gd p 3) (gd s 0)) 0 2) 0).rows=(joinR (gd p 3) (gd s 0) (gd s 0).rows.length).rows:=by
     show (bif joinOk (gd p 3) (gd s 0) then (joinR (gd p 3) (gd s 0) (gd s 0).rows.length).rows else [])=_
     rw [hj]
     rfl
    simp only [cond_true,cond_false,Bool.not_true,Bool.not_false,Bool.or_true,Bool.true_or,Bool.or_false,Bool.false_or,Bool.and_self,nd_true,show ((1:Int) != 1)=false from rfl,show ((1:Int) != 0)=true from rfl,show ((2:Int) != 0)=true from rfl,show ((2:Int) != 1)=true from rfl,show ((0:Int) != 0)=false from rfl,show ((0:Int) != 1)=true from rfl,show ((6:Int) != 0)=true from rfl,show ((4:Int) != 0)=true from rfl,show ((1:Int)==1)=true from rfl,show ((2:Int)==1)=false from rfl,show ((0:Int)==1)=false from rfl,show ((6:Int)==1)=false from rfl,show ((4:Int)==1)=false from rfl,show ((1:Nat) != 1)=false from rfl,show ((1:Nat) != 0)=true from rfl,show ((2:Nat) != 0)=true from rfl,show ((2:Nat) != 1)=true from rfl,show ((0:Nat) != 0)=false from rfl,show ((0:Nat) != 1)=true from rfl,show ((6:Nat) != 0)=true from rfl,show ((4:Nat) != 0)=true from rfl,show ((1:Nat)==1)=true from rfl,show ((2:Nat)==1)=false from rfl,show ((0:Nat)==1)=false from rfl,show ((6:Nat)==1)=false from rfl,show ((4:Nat)==1)=false from rfl]
    rw [e1]
    cases ltI 60 (w64 (((joinR (gd p 3) (gd s 0) (gd s 0).rows.length).rows.length:Int)+newSum (gd p 3) (gd p 5) (gd p 5).rows.length)) <;> rfl
abbrev i_ShardInstallT:FuncId→List T→Option (T × Bool):=find [i_rankBadE,i_StoreOkE,cofSIE,i_haveAllE,i_copyShardE,i_haveAnyE,i_asItWasE,i_RangesPlusE,i_roomE,i_StoreJoinE,apartE]
theorem i_ShardInstallT_ok:CallOk Tryz.prog i_ShardInstallT:=find_ok (fC ⟨i_rankBad_ok,fC ⟨i_StoreOk_ok,fC ⟨cofSI_ok,fC ⟨i_haveAll_ok,fC ⟨i_copyShard_ok,fC ⟨i_haveAny_ok,fC ⟨i_asItWas_ok,fC ⟨i_RangesPlus_ok,fC ⟨i_room_ok,fC ⟨i_StoreJoin_ok,fC ⟨apart_ok,fN⟩⟩⟩⟩⟩⟩⟩⟩⟩⟩⟩)
abbrev i_ShardInstallK:List Nat:= [0,1,2,3,4,6,8,9,10,11,12,13,25,26,29,42,47,53,79]
theorem i_ShardInstall_ev (N:Nat) (p q r s:List D):evFn Tryz.prog i_ShardInstallT N i_ShardInstallK Tryz.f33 (.tup [.agg rDShard,.c (.d si)]) [⟨ag rIShard,p⟩,⟨ri,q⟩,⟨ag rIRange,r⟩,⟨sd (.sl 108),s⟩]=some (bo,
 nd (shardSmall (sub p 0 9)) (bif !(storeOk (gd s 0)) then bif 1 != 0 then bif 1 != 0 then nd (dupOk (sub p 0 9)||1==1) (some (1,sub (sub (asWas (sub p 0 9) (.i 1)) 0 10) 0 10))
 else nd (dupOk (sub p 0 9)) (bif !(gd (sub (chgT (gd p 1) (sub r 0 2) (.b true)) 0 2) 1).bool then some (1,[gd (sub (dupShard (sub p 0 9)) 0 9) 0,gd (sub (dupShard (sub p 0 9)) 0 9) 1,gd (sub (dupShard (sub p 0 9)) 0 9) 2,gd (sub (dupShard (sub p 0 9)) 0 9) 3,gd (sub (dupShard (sub p 0 9)) 0 9) 4,gd (sub (dupShard (sub p 0 9)) 0 9) 5,gd (sub (dupShard (sub p 0 9)) 0 9) 6,gd (sub (dupShard (sub p 0 9)) 0 9) 7,gd q 0,.i 6])
 else nd (leI ((gd p 3).rows.length:Int) 1000000000&&leI ((gd p 5).rows.length:Int) 1000000000) (bif ltI 60 (w64 ((roomOf (sub p 0 9))+((gd s 0).rows.length:Int))) then some (1,[gd (sub (dupShard (sub p 0 9)) 0 9) 0,gd (sub (dupShard (sub p 0 9)) 0 9) 1,gd (sub (dupShard (sub p 0 9)) 0 9) 2,gd (sub (dupShard (sub p 0 9)) 0 9) 3,gd (sub (dupShard (sub p 0 9)) 0 9) 4,gd (sub (dupShard (sub p 0 9)) 0 9) 5,gd (sub (dupShard (sub p 0 9)) 0 9) 6,gd (sub (dupShard (sub p 0 9)) 0 9) 7,gd q 0,.i 6])
 else nd (leI ((gd p 3).rows.length:Int) 1000000000&&leI ((gd s 0).rows.length:Int) 1000000000) (some (1,[gd (sub (dupShard (sub p 0 9)) 0 9) 0,gd (sub (chgT (gd p 1) (sub r 0 2) (.b true)) 0 2) 0,gd (sub (dupShard (sub p 0 9)) 0 9) 2,gd (sub (joinS (gd p 3) (gd s 0)) 0 2) 0,gd (sub (dupShard (sub p 0 9)) 0 9) 4,gd (sub (dupShard (sub p 0 9)) 0 9) 5,gd (sub (dupShard (sub p 0 9)) 0 9) 6,gd (sub (dupShard (sub p 0 9)) 0 9) 7,gd q 0,.i 0]))))
 else bif (gd q 0).int==(gd p 8).int then bif haveAll (gd p 1) (sub r 0 2) then nd (dupOk (sub p 0 9)) (some (1,[gd (sub (dupShard (sub p 0 9)) 0 9) 0,gd (sub (dupShard (sub p 0 9)) 0 9) 1,gd (sub (dupShard (sub p 0 9)) 0 9) 2,gd (sub (dupShard (sub p 0 9)) 0 9) 3,gd (sub (dupShard (sub p 0 9)) 0 9) 4,gd (sub (dupShard (sub p 0 9)) 0 9) 5,gd (sub (dupShard (sub p 0 9)) 0 9) 6,gd (sub (dupShard (sub p 0 9)) 0 9) 7,gd (sub (dupShard (sub p 0 9)) 0 9) 8,.i 0]))
 else bif (gd q 0).int==(gd p 8).int then bif 6 != 0 then nd (dupOk (sub p 0 9)||6==1) (some (1,sub (sub (asWas (sub p 0 9) (.i 6)) 0 10) 0 10))
 else nd (dupOk (sub p 0 9)) (bif !(gd (sub (chgT (gd p 1) (sub r 0 2) (.b true)) 0 2) 1).bool then some (1,[gd (sub (dupShard (sub p 0 9)) 0 9) 0,gd (sub (dupShard (sub p 0 9)) 0 9) 1,gd (sub (dupShard (sub p 0 9)) 0 9) 2,gd (sub (dupShard (sub p 0 9)) 0 9) 3,gd (sub (dupShard (sub p 0 9)) 0 9) 4,gd (sub (dupShard (sub p 0 9)) 0 9) 5,gd (sub (dupShard (sub p 0 9)) 0 9) 6,gd (sub (dupShard (sub p 0 9)) 0 9) 7,gd q 0,.i 6])
 else nd (leI ((gd p 3).rows.length:Int) 1000000000&&leI ((gd p 5).rows.length:Int) 1000000000) (bif ltI 60 (w64 ((roomOf (sub p 0 9))+((gd s 0).rows.length:Int))) then some (1,[gd (sub (dupShard (sub p 0 9)) 0 9) 0,gd (sub (dupShard (sub p 0 9)) 0 9) 1,gd (sub (dupShard (sub p 0 9)) 0 9) 2,gd (sub (dupShard (sub p 0 9)) 0 9) 3,gd (sub (dupShard (sub p 0 9)) 0 9) 4,gd (sub (dupShard (sub p 0 9)) 0 9) 5,gd (sub (dupShard (sub p 0 9)) 0 9) 6,gd (sub (dupShard (sub p 0 9)) 0 9) 7,gd q 0,.i 6])
 else nd (leI ((gd p 3).rows.length:Int) 1000000000&&leI ((gd s 0).rows.length:Int) 1000000000) (some (1,[gd (sub (dupShard (sub p 0 9)) 0 9) 0,gd (sub (chgT (gd p 1) (sub r 0 2) (.b true)) 0 2) 0,gd (sub (dupShard (sub p 0 9)) 0 9) 2,gd (sub (joinS (gd p 3) (gd s 0)) 0 2) 0,gd (sub (dupShard (sub p 0 9)) 0 9) 4,gd (sub (dupShard (sub p 0 9)) 0 9) 5,gd (sub (dupShard (sub p 0 9)) 0 9) 6,gd (sub (dupShard (sub p 0 9)) 0 9) 7,gd q 0,.i 0]))))
 else bif haveAnyB (gd p 1) (sub r 0 2) then bif 4 != 0 then nd (dupOk (sub p 0 9)||4==1) (some (1,sub (sub (asWas (sub p 0 9) (.i 4)) 0 10) 0 10))
 else nd (dupOk (sub p 0 9)) (bif !(gd (sub (chgT (gd p 1) (sub r 0 2) (.b true)) 0 2) 1).bool then some (1,[gd (sub (dupShard (sub p 0 9)) 0 9) 0,gd (sub (dupShard (sub p 0 9)) 0 9) 1,gd (sub (dupShard (sub p 0 9)) 0 9) 2,gd (sub (dupShard (sub p 0 9)) 0 9) 3,gd (sub (dupShard (sub p 0 9)) 0 9) 4,gd (sub (dupShard (sub p 0 9)) 0 9) 5,gd (sub (dupShard (sub p 0 9)) 0 9) 6,gd (sub (dupShard (sub p 0 9)) 0 9) 7,gd q 0,.i 6])
 else nd (leI ((gd p 3).rows.length:Int) 1000000000&&leI ((gd p 5).rows.length:Int) 1000000000) (bif ltI 60 (w64 ((roomOf (sub p 0 9))+((gd s 0).rows.length:Int))) then some (1,[gd (sub (dupShard (sub p 0 9)) 0 9) 0,gd (sub (dupShard (sub p 0 9)) 0 9) 1,gd (sub (dupShard (sub p 0 9)) 0 9) 2,gd (sub (dupShard (sub p 0 9)) 0 9) 3,gd (sub (dupShard (sub p 0 9)) 0 9) 4,gd (sub (dupShard (sub p 0 9)) 0 9) 5,gd (sub (dupShard (sub p 0 9)) 0 9) 6,gd (sub (dupShard (sub p 0 9)) 0 9) 7,gd q 0,.i 6])
 else nd (leI ((gd p 3).rows.length:Int) 1000000000&&leI ((gd s 0).rows.length:Int) 1000000000) (some (1,[gd (sub (dupShard (sub p 0 9)) 0 9) 0,gd (sub (chgT (gd p 1) (sub r 0 2) (.b true)) 0 2) 0,gd (sub (dupShard (sub p 0 9)) 0 9) 2,gd (sub (joinS (gd p 3) (gd s 0)) 0 2) 0,gd (sub (dupShard (sub p 0 9)) 0 9) 4,gd (sub (dupShard (sub p 0 9)) 0 9) 5,gd (sub (dupShard (sub p 0 9)) 0 9) 6,gd (sub (dupShard (sub p 0 9)) 0 9) 7,gd q 0,.i 0]))))
 else bif 1 != 0 then nd (dupOk (sub p 0 9)||1==1) (some (1,sub (sub (asWas (sub p 0 9) (.i 1)) 0 10) 0 10))
 else nd (dupOk (sub p 0 9)) (bif !(gd (sub (chgT (gd p 1) (sub r 0 2) (.b true)) 0 2) 1).bool then some (1,[gd (sub (dupShard (sub p 0 9)) 0 9) 0,gd (sub (dupShard (sub p 0 9)) 0 9) 1,gd (sub (dupShard (sub p 0 9)) 0 9) 2,gd (sub (dupShard (sub p 0 9)) 0 9) 3,gd (sub (dupShard (sub p 0 9)) 0 9) 4,gd (sub (dupShard (sub p 0 9)) 0 9) 5,gd (sub (dupShard (sub p 0 9)) 0 9) 6,gd (sub (dupShard (sub p 0 9)) 0 9) 7,gd q 0,.i 6])
 else nd (leI ((gd p 3).rows.length:Int) 1000000000&&leI ((gd p 5).rows.length:Int) 1000000000) (bif ltI 60 (w64 ((roomOf (sub p 0 9))+((gd s 0).rows.length:Int))) then some (1,[gd (sub (dupShard (sub p 0 9)) 0 9) 0,gd (sub (dupShard (sub p 0 9)) 0 9) 1,gd (sub (dupShard (sub p 0 9)) 0 9) 2,gd (sub (dupShard (sub p 0 9)) 0 9) 3,gd (sub (dupShard (sub p 0 9)) 0 9) 4,gd (sub (dupShard (sub p 0 9)) 0 9) 5,gd (sub (dupShard (sub p 0 9)) 0 9) 6,gd (sub (dupShard (sub p 0 9)) 0 9) 7,gd q 0,.i 6])
 else nd (leI ((gd p 3).rows.length:Int) 1000000000&&leI ((gd s 0).rows.length:Int) 1000000000) (some (1,[gd (sub (dupShard (sub p 0 9)) 0 9) 0,gd (sub (chgT (gd p 1) (sub r 0 2) (.b true)) 0 2) 0,gd (sub (dupShard (sub p 0 9)) 0 9) 2,gd (sub (joinS (gd p 3) (gd s 0)) 0 2) 0,gd (sub (dupShard (sub p 0 9)) 0 9) 4,gd (sub (dupShard (sub p 0 9)) 0 9) 5,gd (sub (dupShard (sub p 0 9)) 0 9) 6,gd (sub (dupShard (sub p 0 9)) 0 9) 7,gd q 0,.i 0]))))
 else bif (gd q 0).int==(gd p 8).int then bif 6 != 0 then nd (dupOk (sub p 0 9)||6==1) (some (1,sub (sub (asWas (sub p 0 9) (.i 6)) 0 10) 0 10))
 else nd (dupOk (sub p 0 9)) (bif !(gd (sub (chgT (gd p 1) (sub r 0 2) (.b true)) 0 2) 1).bool then some (1,[gd (sub (dupShard (sub p 0 9)) 0 9) 0,gd (sub (dupShard (sub p 0 9)) 0 9) 1,gd (sub (dupShard (sub p 0 9)) 0 9) 2,gd (sub (dupShard (sub p 0 9)) 0 9) 3,gd (sub (dupShard (sub p 0 9)) 0 9) 4,gd (sub (dupShard (sub p 0 9)) 0 9) 5,gd (sub (dupShard (sub p 0 9)) 0 9) 6,gd (sub (dupShard (sub p 0 9)) 0 9) 7,gd q 0,.i 6])
 else nd (leI ((gd p 3).rows.length:Int) 1000000000&&leI ((gd p 5).rows.length:Int) 1000000000) (bif ltI 60 (w64 ((roomOf (sub p 0 9))+((gd s 0).rows.length:Int))) then some (1,[gd (sub (dupShard (sub p 0 9)) 0 9) 0,gd (sub (dupShard (sub p 0 9)) 0 9) 1,gd (sub (dupShard (sub p 0 9)) 0 9) 2,gd (sub (dupShard (sub p 0 9)) 0 9) 3,gd (sub (dupShard (sub p 0 9)) 0 9) 4,gd (sub (dupShard (sub p 0 9)) 0 9) 5,gd (sub (dupShard (sub p 0 9)) 0 9) 6,gd (sub (dupShard (sub p 0 9)) 0 9) 7,gd q 0,.i 6])
 else nd (leI ((gd p 3).rows.length:Int) 1000000000&&leI ((gd s 0).rows.length:Int) 1000000000) (some (1,[gd (sub (dupShard (sub p 0 9)) 0 9) 0,gd (sub (chgT (gd p 1) (sub r 0 2) (.b true)) 0 2) 0,gd (sub (dupShard (sub p 0 9)) 0 9) 2,gd (sub (joinS (gd p 3) (gd s 0)) 0 2) 0,gd (sub (dupShard (sub p 0 9)) 0 9) 4,gd (sub (dupShard (sub p 0 9)) 0 9) 5,gd (sub (dupShard (sub p 0 9)) 0 9) 6,gd (sub (dupShard (sub p 0 9)) 0 9) 7,gd q 0,.i 0]))))
 else bif haveAnyB (gd p 1) (sub r 0 2) then bif 4 != 0 then nd (dupOk (sub p 0 9)||4==1) (some (1,sub (sub (asWas (sub p 0 9) (.i 4)) 0 10) 0 10))
 else nd (dupOk (sub p 0 9)) (bif !(gd (sub (chgT (gd p 1) (sub r 0 2) (.b true)) 0 2) 1).bool then some (1,[gd (sub (dupShard (sub p 0 9)) 0 9) 0,gd (sub (dupShard (sub p 0 9)) 0 9) 1,gd (sub (dupShard (sub p 0 9)) 0 9) 2,gd (sub (dupShard (sub p 0 9)) 0 9) 3,gd (sub (dupShard (sub p 0 9)) 0 9) 4,gd (sub (dupShard (sub p 0 9)) 0 9) 5,gd (sub (dupShard (sub p 0 9)) 0 9) 6,gd (sub (dupShard (sub p 0 9)) 0 9) 7,gd q 0,.i 6])
 else nd (leI ((gd p 3).rows.length:Int) 1000000000&&leI ((gd p 5).rows.length:Int) 1000000000) (bif ltI 60 (w64 ((roomOf (sub p 0 9))+((gd s 0).rows.length:Int))) then some (1,[gd (sub (dupShard (sub p 0 9)) 0 9) 0,gd (sub (dupShard (sub p 0 9)) 0 9) 1,gd (sub (dupShard (sub p 0 9)) 0 9) 2,gd (sub (dupShard (sub p 0 9)) 0 9) 3,gd (sub (dupShard (sub p 0 9)) 0 9) 4,gd (sub (dupShard (sub p 0 9)) 0 9) 5,gd (sub (dupShard (sub p 0 9)) 0 9) 6,gd (sub (dupShard (sub p 0 9)) 0 9) 7,gd q 0,.i 6])
 else nd (leI ((gd p 3).rows.length:Int) 1000000000&&leI ((gd s 0).rows.length:Int) 1000000000) (some (1,[gd (sub (dupShard (sub p 0 9)) 0 9) 0,gd (sub (chgT (gd p 1) (sub r 0 2) (.b true)) 0 2) 0,gd (sub (dupShard (sub p 0 9)) 0 9) 2,gd (sub (joinS (gd p 3) (gd s 0)) 0 2) 0,gd (sub (dupShard (sub p 0 9)) 0 9) 4,gd (sub (dupShard (sub p 0 9)) 0 9) 5,gd (sub (dupShard (sub p 0 9)) 0 9) 6,gd (sub (dupShard (sub p 0 9)) 0 9) 7,gd q 0,.i 0]))))
 else bif 1 != 0 then nd (dupOk (sub p 0 9)||1==1) (some (1,sub (sub (asWas (sub p 0 9) (.i 1)) 0 10) 0 10))
 else nd (dupOk (sub p 0 9)) (bif !(gd (sub (chgT (gd p 1) (sub r 0 2) (.b true)) 0 2) 1).bool then some (1,[gd (sub (dupShard (sub p 0 9)) 0 9) 0,gd (sub (dupShard (sub p 0 9)) 0 9) 1,gd (sub (dupShard (sub p 0 9)) 0 9) 2,gd (sub (dupShard (sub p 0 9)) 0 9) 3,gd (sub (dupShard (sub p 0 9)) 0 9) 4,gd (sub (dupShard (sub p 0 9)) 0 9) 5,gd (sub (dupShard (sub p 0 9)) 0 9) 6,gd (sub (dupShard (sub p 0 9)) 0 9) 7,gd q 0,.i 6])
 else nd (leI ((gd p 3).rows.length:Int) 1000000000&&leI ((gd p 5).rows.length:Int) 1000000000) (bif ltI 60 (w64 ((roomOf (sub p 0 9))+((gd s 0).rows.length:Int))) then some (1,[gd (sub (dupShard (sub p 0 9)) 0 9) 0,gd (sub (dupShard (sub p 0 9)) 0 9) 1,gd (sub (dupShard (sub p 0 9)) 0 9) 2,gd (sub (dupShard (sub p 0 9)) 0 9) 3,gd (sub (dupShard (sub p 0 9)) 0 9) 4,gd (sub (dupShard (sub p 0 9)) 0 9) 5,gd (sub (dupShard (sub p 0 9)) 0 9) 6,gd (sub (dupShard (sub p 0 9)) 0 9) 7,gd q 0,.i 6])
 else nd (leI ((gd p 3).rows.length:Int) 1000000000&&leI ((gd s 0).rows.length:Int) 1000000000) (some (1,[gd (sub (dupShard (sub p 0 9)) 0 9) 0,gd (sub (chgT (gd p 1) (sub r 0 2) (.b true)) 0 2) 0,gd (sub (dupShard (sub p 0 9)) 0 9) 2,gd (sub (joinS (gd p 3) (gd s 0)) 0 2) 0,gd (sub (dupShard (sub p 0 9)) 0 9) 4,gd (sub (dupShard (sub p 0 9)) 0 9) 5,gd (sub (dupShard (sub p 0 9)) 0 9) 6,gd (sub (dupShard (sub p 0 9)) 0 9) 7,gd q 0,.i 0]))))
 else bif anyS (fun rr=>ixfSIC (.l [[.l [sub r 0 2]]]) (sub rr 0 2)) (gd s 0) then bif 1 != 0 then bif 1 != 0 then nd (dupOk (sub p 0 9)||1==1) (some (1,sub (sub (asWas (sub p 0 9) (.i 1)) 0 10) 0 10))
 else nd (dupOk (sub p 0 9)) (bif !(gd (sub (chgT (gd p 1) (sub r 0 2) (.b true)) 0 2) 1).bool then some (1,[gd (sub (dupShard (sub p 0 9)) 0 9) 0,gd (sub (dupShard (sub p 0 9)) 0 9) 1,gd (sub (dupShard (sub p 0 9)) 0 9) 2,gd (sub (dupShard (sub p 0 9)) 0 9) 3,gd (sub (dupShard (sub p 0 9)) 0 9) 4,gd (sub (dupShard (sub p 0 9)) 0 9) 5,gd (sub (dupShard (sub p 0 9)) 0 9) 6,gd (sub (dupShard (sub p 0 9)) 0 9) 7,gd q 0,.i 6])
 else nd (leI ((gd p 3).rows.length:Int) 1000000000&&leI ((gd p 5).rows.length:Int) 1000000000) (bif ltI 60 (w64 ((roomOf (sub p 0 9))+((gd s 0).rows.length:Int))) then some (1,[gd (sub (dupShard (sub p 0 9)) 0 9) 0,gd (sub (dupShard (sub p 0 9)) 0 9) 1,gd (sub (dupShard (sub p 0 9)) 0 9) 2,gd (sub (dupShard (sub p 0 9)) 0 9) 3,gd (sub (dupShard (sub p 0 9)) 0 9) 4,gd (sub (dupShard (sub p 0 9)) 0 9) 5,gd (sub (dupShard (sub p 0 9)) 0 9) 6,gd (sub (dupShard (sub p 0 9)) 0 9) 7,gd q 0,.i 6])
 else nd (leI ((gd p 3).rows.length:Int) 1000000000&&leI ((gd s 0).rows.length:Int) 1000000000) (some (1,[gd (sub (dupShard (sub p 0 9)) 0 9) 0,gd (sub (chgT (gd p 1) (sub r 0 2) (.b true)) 0 2) 0,gd (sub (dupShard (sub p 0 9)) 0 9) 2,gd (sub (joinS (gd p 3) (gd s 0)) 0 2) 0,gd (sub (dupShard (sub p 0 9)) 0 9) 4,gd (sub (dupShard (sub p 0 9)) 0 9) 5,gd (sub (dupShard (sub p 0 9)) 0 9) 6,gd (sub (dupShard (sub p 0 9)) 0 9) 7,gd q 0,.i 0]))))
 else bif (gd q 0).int==(gd p 8).int then bif haveAll (gd p 1) (sub r 0 2) then nd (dupOk (sub p 0 9)) (some (1,[gd (sub (dupShard (sub p 0 9)) 0 9) 0,gd (sub (dupShard (sub p 0 9)) 0 9) 1,gd (sub (dupShard (sub p 0 9)) 0 9) 2,gd (sub (dupShard (sub p 0 9)) 0 9) 3,gd (sub (dupShard (sub p 0 9)) 0 9) 4,gd (sub (dupShard (sub p 0 9)) 0 9) 5,gd (sub (dupShard (sub p 0 9)) 0 9) 6,gd (sub (dupShard (sub p 0 9)) 0 9) 7,gd (sub (dupShard (sub p 0 9)) 0 9) 8,.i 0]))
 else bif (gd q 0).int==(gd p 8).int then bif 6 != 0 then nd (dupOk (sub p 0 9)||6==1) (some (1,sub (sub (asWas (sub p 0 9) (.i 6)) 0 10) 0 10))
 else nd (dupOk (sub p 0 9)) (bif !(gd (sub (chgT (gd p 1) (sub r 0 2) (.b true)) 0 2) 1).bool then some (1,[gd (sub (dupShard (sub p 0 9)) 0 9) 0,gd (sub (dupShard (sub p 0 9)) 0 9) 1,gd (sub (dupShard (sub p 0 9)) 0 9) 2,gd (sub (dupShard (sub p 0 9)) 0 9) 3,gd (sub (dupShard (sub p 0 9)) 0 9) 4,gd (sub (dupShard (sub p 0 9)) 0 9) 5,gd (sub (dupShard (sub p 0 9)) 0 9) 6,gd (sub (dupShard (sub p 0 9)) 0 9) 7,gd q 0,.i 6])
 else nd (leI ((gd p 3).rows.length:Int) 1000000000&&leI ((gd p 5).rows.length:Int) 1000000000) (bif ltI 60 (w64 ((roomOf (sub p 0 9))+((gd s 0).rows.length:Int))) then some (1,[gd (sub (dupShard (sub p 0 9)) 0 9) 0,gd (sub (dupShard (sub p 0 9)) 0 9) 1,gd (sub (dupShard (sub p 0 9)) 0 9) 2,gd (sub (dupShard (sub p 0 9)) 0 9) 3,gd (sub (dupShard (sub p 0 9)) 0 9) 4,gd (sub (dupShard (sub p 0 9)) 0 9) 5,gd (sub (dupShard (sub p 0 9)) 0 9) 6,gd (sub (dupShard (sub p 0 9)) 0 9) 7,gd q 0,.i 6])
 else nd (leI ((gd p 3).rows.length:Int) 1000000000&&leI ((gd s 0).rows.length:Int) 1000000000) (some (1,[gd (sub (dupShard (sub p 0 9)) 0 9) 0,gd (sub (chgT (gd p 1) (sub r 0 2) (.b true)) 0 2) 0,gd (sub (dupShard (sub p 0 9)) 0 9) 2,gd (sub (joinS (gd p 3) (gd s 0)) 0 2) 0,gd (sub (dupShard (sub p 0 9)) 0 9) 4,gd (sub (dupShard (sub p 0 9)) 0 9) 5,gd (sub (dupShard (sub p 0 9)) 0 9) 6,gd (sub (dupShard (sub p 0 9)) 0 9) 7,gd q 0,.i 0]))))
 else bif haveAnyB (gd p 1) (sub r 0 2) then bif 4 != 0 then nd (dupOk (sub p 0 9)||4==1) (some (1,sub (sub (asWas (sub p 0 9) (.i 4)) 0 10) 0 10))
 else nd (dupOk (sub p 0 9)) (bif !(gd (sub (chgT (gd p 1) (sub r 0 2) (.b true)) 0 2) 1).bool then some (1,[gd (sub (dupShard (sub p 0 9)) 0 9) 0,gd (sub (dupShard (sub p 0 9)) 0 9) 1,gd (sub (dupShard (sub p 0 9)) 0 9) 2,gd (sub (dupShard (sub p 0 9)) 0 9) 3,gd (sub (dupShard (sub p 0 9)) 0 9) 4,gd (sub (dupShard (sub p 0 9)) 0 9) 5,gd (sub (dupShard (sub p 0 9)) 0 9) 6,gd (sub (dupShard (sub p 0 9)) 0 9) 7,gd q 0,.i 6])
 else nd (leI ((gd p 3).rows.length:Int) 1000000000&&leI ((gd p 5).rows.length:Int) 1000000000) (bif ltI 60 (w64 ((roomOf (sub p 0 9))+((gd s 0).rows.length:Int))) then some (1,[gd (sub (dupShard (sub p 0 9)) 0 9) 0,gd (sub (dupShard (sub p 0 9)) 0 9) 1,gd (sub (dupShard (sub p 0 9)) 0 9) 2,gd (sub (dupShard (sub p 0 9)) 0 9) 3,gd (sub (dupShard (sub p 0 9)) 0 9) 4,gd (sub (dupShard (sub p 0 9)) 0 9) 5,gd (sub (dupShard (sub p 0 9)) 0 9) 6,gd (sub (dupShard (sub p 0 9)) 0 9) 7,gd q 0,.i 6])
 else nd (leI ((gd p 3).rows.length:Int) 1000000000&&leI ((gd s 0).rows.length:Int) 1000000000) (some (1,[gd (sub (dupShard (sub p 0 9)) 0 9) 0,gd (sub (chgT (gd p 1) (sub r 0 2) (.b true)) 0 2) 0,gd (sub (dupShard (sub p 0 9)) 0 9) 2,gd (sub (joinS (gd p 3) (gd s 0)) 0 2) 0,gd (sub (dupShard (sub p 0 9)) 0 9) 4,gd (sub (dupShard (sub p 0 9)) 0 9) 5,gd (sub (dupShard (sub p 0 9)) 0 9) 6,gd (sub (dupShard (sub p 0 9)) 0 9) 7,gd q 0,.i 0]))))
 else bif 1 != 0 then nd (dupOk (sub p 0 9)||1==1) (some (1,sub (sub (asWas (sub p 0 9) (.i 1)) 0 10) 0 10))
 else nd (dupOk (sub p 0 9)) (bif !(gd (sub (chgT (gd p 1) (sub r 0 2) (.b true)) 0 2) 1).bool then some (1,[gd (sub (dupShard (sub p 0 9)) 0 9) 0,gd (sub (dupShard (sub p 0 9)) 0 9) 1,gd (sub (dupShard (sub p 0 9)) 0 9) 2,gd (sub (dupShard (sub p 0 9)) 0 9) 3,gd (sub (dupShard (sub p 0 9)) 0 9) 4,gd (sub (dupShard (sub p 0 9)) 0 9) 5,gd (sub (dupShard (sub p 0 9)) 0 9) 6,gd (sub (dupShard (sub p 0 9)) 0 9) 7,gd q 0,.i 6])
 else nd (leI ((gd p 3).rows.length:Int) 1000000000&&leI ((gd p 5).rows.length:Int) 1000000000) (bif ltI 60 (w64 ((roomOf (sub p 0 9))+((gd s 0).rows.length:Int))) then some (1,[gd (sub (dupShard (sub p 0 9)) 0 9) 0,gd (sub (dupShard (sub p 0 9)) 0 9) 1,gd (sub (dupShard (sub p 0 9)) 0 9) 2,gd (sub (dupShard (sub p 0 9)) 0 9) 3,gd (sub (dupShard (sub p 0 9)) 0 9) 4,gd (sub (dupShard (sub p 0 9)) 0 9) 5,gd (sub (dupShard (sub p 0 9)) 0 9) 6,gd (sub (dupShard (sub p 0 9)) 0 9) 7,gd q 0,.i 6])
 else nd (leI ((gd p 3).rows.length:Int) 1000000000&&leI ((gd s 0).rows.length:Int) 1000000000) (some (1,[gd (sub (dupShard (sub p 0 9)) 0 9) 0,gd (sub (chgT (gd p 1) (sub r 0 2) (.b true)) 0 2) 0,gd (sub (dupShard (sub p 0 9)) 0 9) 2,gd (sub (joinS (gd p 3) (gd s 0)) 0 2) 0,gd (sub (dupShard (sub p 0 9)) 0 9) 4,gd (sub (dupShard (sub p 0 9)) 0 9) 5,gd (sub (dupShard (sub p 0 9)) 0 9) 6,gd (sub (dupShard (sub p 0 9)) 0 9) 7,gd q 0,.i 0]))))
 else bif (gd q 0).int==(gd p 8).int then bif 6 != 0 then nd (dupOk (sub p 0 9)||6==1) (some (1,sub (sub (asWas (sub p 0 9) (.i 6)) 0 10) 0 10))
 else nd (dupOk (sub p 0 9)) (bif !(gd (sub (chgT (gd p 1) (sub r 0 2) (.b true)) 0 2) 1).bool then some (1,[gd (sub (dupShard (sub p 0 9)) 0 9) 0,gd (sub (dupShard (sub p 0 9)) 0 9) 1,gd (sub (dupShard (sub p 0 9)) 0 9) 2,gd (sub (dupShard (sub p 0 9)) 0 9) 3,gd (sub (dupShard (sub p 0 9)) 0 9) 4,gd (sub (dupShard (sub p 0 9)) 0 9) 5,gd (sub (dupShard (sub p 0 9)) 0 9) 6,gd (sub (dupShard (sub p 0 9)) 0 9) 7,gd q 0,.i 6])
 else nd (leI ((gd p 3).rows.length:Int) 1000000000&&leI ((gd p 5).rows.length:Int) 1000000000) (bif ltI 60 (w64 ((roomOf (sub p 0 9))+((gd s 0).rows.length:Int))) then some (1,[gd (sub (dupShard (sub p 0 9)) 0 9) 0,gd (sub (dupShard (sub p 0 9)) 0 9) 1,gd (sub (dupShard (sub p 0 9)) 0 9) 2,gd (sub (dupShard (sub p 0 9)) 0 9) 3,gd (sub (dupShard (sub p 0 9)) 0 9) 4,gd (sub (dupShard (sub p 0 9)) 0 9) 5,gd (sub (dupShard (sub p 0 9)) 0 9) 6,gd (sub (dupShard (sub p 0 9)) 0 9) 7,gd q 0,.i 6])
 else nd (leI ((gd p 3).rows.length:Int) 1000000000&&leI ((gd s 0).rows.length:Int) 1000000000) (some (1,[gd (sub (dupShard (sub p 0 9)) 0 9) 0,gd (sub (chgT (gd p 1) (sub r 0 2) (.b true)) 0 2) 0,gd (sub (dupShard (sub p 0 9)) 0 9) 2,gd (sub (joinS (gd p 3) (gd s 0)) 0 2) 0,gd (sub (dupShard (sub p 0 9)) 0 9) 4,gd (sub (dupShard (sub p 0 9)) 0 9) 5,gd (sub (dupShard (sub p 0 9)) 0 9) 6,gd (sub (dupShard (sub p 0 9)) 0 9) 7,gd q 0,.i 0]))))
 else bif haveAnyB (gd p 1) (sub r 0 2) then bif 4 != 0 then nd (dupOk (sub p 0 9)||4==1) (some (1,sub (sub (asWas (sub p 0 9) (.i 4)) 0 10) 0 10))
 else nd (dupOk (sub p 0 9)) (bif !(gd (sub (chgT (gd p 1) (sub r 0 2) (.b true)) 0 2) 1).bool then some (1,[gd (sub (dupShard (sub p 0 9)) 0 9) 0,gd (sub (dupShard (sub p 0 9)) 0 9) 1,gd (sub (dupShard (sub p 0 9)) 0 9) 2,gd (sub (dupShard (sub p 0 9)) 0 9) 3,gd (sub (dupShard (sub p 0 9)) 0 9) 4,gd (sub (dupShard (sub p 0 9)) 0 9) 5,gd (sub (dupShard (sub p 0 9)) 0 9) 6,gd (sub (dupShard (sub p 0 9)) 0 9) 7,gd q 0,.i 6])
 else nd (leI ((gd p 3).rows.length:Int) 1000000000&&leI ((gd p 5).rows.length:Int) 1000000000) (bif ltI 60 (w64 ((roomOf (sub p 0 9))+((gd s 0).rows.length:Int))) then some (1,[gd (sub (dupShard (sub p 0 9)) 0 9) 0,gd (sub (dupShard (sub p 0 9)) 0 9) 1,gd (sub (dupShard (sub p 0 9)) 0 9) 2,gd (sub (dupShard (sub p 0 9)) 0 9) 3,gd (sub (dupShard (sub p 0 9)) 0 9) 4,gd (sub (dupShard (sub p 0 9)) 0 9) 5,gd (sub (dupShard (sub p 0 9)) 0 9) 6,gd (sub (dupShard (sub p 0 9)) 0 9) 7,gd q 0,.i 6])
 else nd (leI ((gd p 3).rows.length:Int) 1000000000&&leI ((gd s 0).rows.length:Int) 1000000000) (some (1,[gd (sub (dupShard (sub p 0 9)) 0 9) 0,gd (sub (chgT (gd p 1) (sub r 0 2) (.b true)) 0 2) 0,gd (sub (dupShard (sub p 0 9)) 0 9) 2,gd (sub (joinS (gd p 3) (gd s 0)) 0 2) 0,gd (sub (dupShard (sub p 0 9)) 0 9) 4,gd (sub (dupShard (sub p 0 9)) 0 9) 5,gd (sub (dupShard (sub p 0 9)) 0 9) 6,gd (sub (dupShard (sub p 0 9)) 0 9) 7,gd q 0,.i 0]))))
 else bif 1 != 0 then nd (dupOk (sub p 0 9)||1==1) (some (1,sub (sub (asWas (sub p 0 9) (.i 1)) 0 10) 0 10))
 else nd (dupOk (sub p 0 9)) (bif !(gd (sub (chgT (gd p 1) (sub r 0 2) (.b true)) 0 2) 1).bool then some (1,[gd (sub (dupShard (sub p 0 9)) 0 9) 0,gd (sub (dupShard (sub p 0 9)) 0 9) 1,gd (sub (dupShard (sub p 0 9)) 0 9) 2,gd (sub (dupShard (sub p 0 9)) 0 9) 3,gd (sub (dupShard (sub p 0 9)) 0 9) 4,gd (sub (dupShard (sub p 0 9)) 0 9) 5,gd (sub (dupShard (sub p 0 9)) 0 9) 6,gd (sub (dupShard (sub p 0 9)) 0 9) 7,gd q 0,.i 6])
 else nd (leI ((gd p 3).rows.length:Int) 1000000000&&leI ((gd p 5).rows.length:Int) 1000000000) (bif ltI 60 (w64 ((roomOf (sub p 0 9))+((gd s 0).rows.length:Int))) then some (1,[gd (sub (dupShard (sub p 0 9)) 0 9) 0,gd (sub (dupShard (sub p 0 9)) 0 9) 1,gd (sub (dupShard (sub p 0 9)) 0 9) 2,gd (sub (dupShard (sub p 0 9)) 0 9) 3,gd (sub (dupShard (sub p 0 9)) 0 9) 4,gd (sub (dupShard (sub p 0 9)) 0 9) 5,gd (sub (dupShard (sub p 0 9)) 0 9) 6,gd (sub (dupShard (sub p 0 9)) 0 9) 7,gd q 0,.i 6])
 else nd (leI ((gd p 3).rows.length:Int) 1000000000&&leI ((gd s 0).rows.length:Int) 1000000000) (some (1,[gd (sub (dupShard (sub p 0 9)) 0 9) 0,gd (sub (chgT (gd p 1) (sub r 0 2) (.b true)) 0 2) 0,gd (sub (dupShard (sub p 0 9)) 0 9) 2,gd (sub (joinS (gd p 3) (gd s 0)) 0 2) 0,gd (sub (dupShard (sub p 0 9)) 0 9) 4,gd (sub (dupShard (sub p 0 9)) 0 9) 5,gd (sub (dupShard (sub p 0 9)) 0 9) 6,gd (sub (dupShard (sub p 0 9)) 0 9) 7,gd q 0,.i 0]))))
 else bif (s_l13RankF (sub p 0 9) [(gd q 0)] (sub r 0 2)) != 0 then bif (s_l13RankF (sub p 0 9) [(gd q 0)] (sub r 0 2)) != 0 then nd (dupOk (sub p 0 9)||(s_l13RankF (sub p 0 9) [(gd q 0)] (sub r 0 2))==1) (some (1,sub (sub (asWas (sub p 0 9) (.i (s_l13RankF (sub p 0 9) [(gd q 0)] (sub r 0 2)))) 0 10) 0 10))
 else nd (dupOk (sub p 0 9)) (bif !(gd (sub (chgT (gd p 1) (sub r 0 2) (.b true)) 0 2) 1).bool then some (1,[gd (sub (dupShard (sub p 0 9)) 0 9) 0,gd (sub (dupShard (sub p 0 9)) 0 9) 1,gd (sub (dupShard (sub p 0 9)) 0 9) 2,gd (sub (dupShard (sub p 0 9)) 0 9) 3,gd (sub (dupShard (sub p 0 9)) 0 9) 4,gd (sub (dupShard (sub p 0 9)) 0 9) 5,gd (sub (dupShard (sub p 0 9)) 0 9) 6,gd (sub (dupShard (sub p 0 9)) 0 9) 7,gd q 0,.i 6])
 else nd (leI ((gd p 3).rows.length:Int) 1000000000&&leI ((gd p 5).rows.length:Int) 1000000000) (bif ltI 60 (w64 ((roomOf (sub p 0 9))+((gd s 0).rows.length:Int))) then some (1,[gd (sub (dupShard (sub p 0 9)) 0 9) 0,gd (sub (dupShard (sub p 0 9)) 0 9) 1,gd (sub (dupShard (sub p 0 9)) 0 9) 2,gd (sub (dupShard (sub p 0 9)) 0 9) 3,gd (sub (dupShard (sub p 0 9)) 0 9) 4,gd (sub (dupShard (sub p 0 9)) 0 9) 5,gd (sub (dupShard (sub p 0 9)) 0 9) 6,gd (sub (dupShard (sub p 0 9)) 0 9) 7,gd q 0,.i 6])
 else nd (leI ((gd p 3).rows.length:Int) 1000000000&&leI ((gd s 0).rows.length:Int) 1000000000) (some (1,[gd (sub (dupShard (sub p 0 9)) 0 9) 0,gd (sub (chgT (gd p 1) (sub r 0 2) (.b true)) 0 2) 0,gd (sub (dupShard (sub p 0 9)) 0 9) 2,gd (sub (joinS (gd p 3) (gd s 0)) 0 2) 0,gd (sub (dupShard (sub p 0 9)) 0 9) 4,gd (sub (dupShard (sub p 0 9)) 0 9) 5,gd (sub (dupShard (sub p 0 9)) 0 9) 6,gd (sub (dupShard (sub p 0 9)) 0 9) 7,gd q 0,.i 0]))))
 else bif (gd q 0).int==(gd p 8).int then bif haveAll (gd p 1) (sub r 0 2) then nd (dupOk (sub p 0 9)) (some (1,[gd (sub (dupShard (sub p 0 9)) 0 9) 0,gd (sub (dupShard (sub p 0 9)) 0 9) 1,gd (sub (dupShard (sub p 0 9)) 0 9) 2,gd (sub (dupShard (sub p 0 9)) 0 9) 3,gd (sub (dupShard (sub p 0 9)) 0 9) 4,gd (sub (dupShard (sub p 0 9)) 0 9) 5,gd (sub (dupShard (sub p 0 9)) 0 9) 6,gd (sub (dupShard (sub p 0 9)) 0 9) 7,gd (sub (dupShard (sub p 0 9)) 0 9) 8,.i 0]))
 else bif (gd q 0).int==(gd p 8).int then bif 6 != 0 then nd (dupOk (sub p 0 9)||6==1) (some (1,sub (sub (asWas (sub p 0 9) (.i 6)) 0 10) 0 10))
 else nd (dupOk (sub p 0 9)) (bif !(gd (sub (chgT (gd p 1) (sub r 0 2) (.b true)) 0 2) 1).bool then some (1,[gd (sub (dupShard (sub p 0 9)) 0 9) 0,gd (sub (dupShard (sub p 0 9)) 0 9) 1,gd (sub (dupShard (sub p 0 9)) 0 9) 2,gd (sub (dupShard (sub p 0 9)) 0 9) 3,gd (sub (dupShard (sub p 0 9)) 0 9) 4,gd (sub (dupShard (sub p 0 9)) 0 9) 5,gd (sub (dupShard (sub p 0 9)) 0 9) 6,gd (sub (dupShard (sub p 0 9)) 0 9) 7,gd q 0,.i 6])
 else nd (leI ((gd p 3).rows.length:Int) 1000000000&&leI ((gd p 5).rows.length:Int) 1000000000) (bif ltI 60 (w64 ((roomOf (sub p 0 9))+((gd s 0).rows.length:Int))) then some (1,[gd (sub (dupShard (sub p 0 9)) 0 9) 0,gd (sub (dupShard (sub p 0 9)) 0 9) 1,gd (sub (dupShard (sub p 0 9)) 0 9) 2,gd (sub (dupShard (sub p 0 9)) 0 9) 3,gd (sub (dupShard (sub p 0 9)) 0 9) 4,gd (sub (dupShard (sub p 0 9)) 0 9) 5,gd (sub (dupShard (sub p 0 9)) 0 9) 6,gd (sub (dupShard (sub p 0 9)) 0 9) 7,gd q 0,.i 6])
 else nd (leI ((gd p 3).rows.length:Int) 1000000000&&leI ((gd s 0).rows.length:Int) 1000000000) (some (1,[gd (sub (dupShard (sub p 0 9)) 0 9) 0,gd (sub (chgT (gd p 1) (sub r 0 2) (.b true)) 0 2) 0,gd (sub (dupShard (sub p 0 9)) 0 9) 2,gd (sub (joinS (gd p 3) (gd s 0)) 0 2) 0,gd (sub (dupShard (sub p 0 9)) 0 9) 4,gd (sub (dupShard (sub p 0 9)) 0 9) 5,gd (sub (dupShard (sub p 0 9)) 0 9) 6,gd (sub (dupShard (sub p 0 9)) 0 9) 7,gd q 0,.i 0]))))
 else bif haveAnyB (gd p 1) (sub r 0 2) then bif 4 != 0 then nd (dupOk (sub p 0 9)||4==1) (some (1,sub (sub (asWas (sub p 0 9) (.i 4)) 0 10) 0 10))
 else nd (dupOk (sub p 0 9)) (bif !(gd (sub (chgT (gd p 1) (sub r 0 2) (.b true)) 0 2) 1).bool then some (1,[gd (sub (dupShard (sub p 0 9)) 0 9) 0,gd (sub (dupShard (sub p 0 9)) 0 9) 1,gd (sub (dupShard (sub p 0 9)) 0 9) 2,gd (sub (dupShard (sub p 0 9)) 0 9) 3,gd (sub (dupShard (sub p 0 9)) 0 9) 4,gd (sub (dupShard (sub p 0 9)) 0 9) 5,gd (sub (dupShard (sub p 0 9)) 0 9) 6,gd (sub (dupShard (sub p 0 9)) 0 9) 7,gd q 0,.i 6])
 else nd (leI ((gd p 3).rows.length:Int) 1000000000&&leI ((gd p 5).rows.length:Int) 1000000000) (bif ltI 60 (w64 ((roomOf (sub p 0 9))+((gd s 0).rows.length:Int))) then some (1,[gd (sub (dupShard (sub p 0 9)) 0 9) 0,gd (sub (dupShard (sub p 0 9)) 0 9) 1,gd (sub (dupShard (sub p 0 9)) 0 9) 2,gd (sub (dupShard (sub p 0 9)) 0 9) 3,gd (sub (dupShard (sub p 0 9)) 0 9) 4,gd (sub (dupShard (sub p 0 9)) 0 9) 5,gd (sub (dupShard (sub p 0 9)) 0 9) 6,gd (sub (dupShard (sub p 0 9)) 0 9) 7,gd q 0,.i 6])
 else nd (leI ((gd p 3).rows.length:Int) 1000000000&&leI ((gd s 0).rows.length:Int) 1000000000) (some (1,[gd (sub (dupShard (sub p 0 9)) 0 9) 0,gd (sub (chgT (gd p 1) (sub r 0 2) (.b true)) 0 2) 0,gd (sub (dupShard (sub p 0 9)) 0 9) 2,gd (sub (joinS (gd p 3) (gd s 0)) 0 2) 0,gd (sub (dupShard (sub p 0 9)) 0 9) 4,gd (sub (dupShard (sub p 0 9)) 0 9) 5,gd (sub (dupShard (sub p 0 9)) 0 9) 6,gd (sub (dupShard (sub p 0 9)) 0 9) 7,gd q 0,.i 0]))))
 else bif (s_l13RankF (sub p 0 9) [(gd q 0)] (sub r 0 2)) != 0 then nd (dupOk (sub p 0 9)||(s_l13RankF (sub p 0 9) [(gd q 0)] (sub r 0 2))==1) (some (1,sub (sub (asWas (sub p 0 9) (.i (s_l13RankF (sub p 0 9) [(gd q 0)] (sub r 0 2)))) 0 10) 0 10))
 else nd (dupOk (sub p 0 9)) (bif !(gd (sub (chgT (gd p 1) (sub r 0 2) (.b true)) 0 2) 1).bool then some (1,[gd (sub (dupShard (sub p 0 9)) 0 9) 0,gd (sub (dupShard (sub p 0 9)) 0 9) 1,gd (sub (dupShard (sub p 0 9)) 0 9) 2,gd (sub (dupShard (sub p 0 9)) 0 9) 3,gd (sub (dupShard (sub p 0 9)) 0 9) 4,gd (sub (dupShard (sub p 0 9)) 0 9) 5,gd (sub (dupShard (sub p 0 9)) 0 9) 6,gd (sub (dupShard (sub p 0 9)) 0 9) 7,gd q 0,.i 6])
 else nd (leI ((gd p 3).rows.length:Int) 1000000000&&leI ((gd p 5).rows.length:Int) 1000000000) (bif ltI 60 (w64 ((roomOf (sub p 0 9))+((gd s 0).rows.length:Int))) then some (1,[gd (sub (dupShard (sub p 0 9)) 0 9) 0,gd (sub (dupShard (sub p 0 9)) 0 9) 1,gd (sub (dupShard (sub p 0 9)) 0 9) 2,gd (sub (dupShard (sub p 0 9)) 0 9) 3,gd (sub (dupShard (sub p 0 9)) 0 9) 4,gd (sub (dupShard (sub p 0 9)) 0 9) 5,gd (sub (dupShard (sub p 0 9)) 0 9) 6,gd (sub (dupShard (sub p 0 9)) 0 9) 7,gd q 0,.i 6])
 else nd (leI ((gd p 3).rows.length:Int) 1000000000&&leI ((gd s 0).rows.length:Int) 1000000000) (some (1,[gd (sub (dupShard (sub p 0 9)) 0 9) 0,gd (sub (chgT (gd p 1) (sub r 0 2) (.b true)) 0 2) 0,gd (sub (dupShard (sub p 0 9)) 0 9) 2,gd (sub (joinS (gd p 3) (gd s 0)) 0 2) 0,gd (sub (dupShard (sub p 0 9)) 0 9) 4,gd (sub (dupShard (sub p 0 9)) 0 9) 5,gd (sub (dupShard (sub p 0 9)) 0 9) 6,gd (sub (dupShard (sub p 0 9)) 0 9) 7,gd q 0,.i 0]))))
 else bif (gd q 0).int==(gd p 8).int then bif 6 != 0 then nd (dupOk (sub p 0 9)||6==1) (some (1,sub (sub (asWas (sub p 0 9) (.i 6)) 0 10) 0 10))
 else nd (dupOk (sub p 0 9)) (bif !(gd (sub (chgT (gd p 1) (sub r 0 2) (.b true)) 0 2) 1).bool then some (1,[gd (sub (dupShard (sub p 0 9)) 0 9) 0,gd (sub (dupShard (sub p 0 9)) 0 9) 1,gd (sub (dupShard (sub p 0 9)) 0 9) 2,gd (sub (dupShard (sub p 0 9)) 0 9) 3,gd (sub (dupShard (sub p 0 9)) 0 9) 4,gd (sub (dupShard (sub p 0 9)) 0 9) 5,gd (sub (dupShard (sub p 0 9)) 0 9) 6,gd (sub (dupShard (sub p 0 9)) 0 9) 7,gd q 0,.i 6])
 else nd (leI ((gd p 3).rows.length:Int) 1000000000&&leI ((gd p 5).rows.length:Int) 1000000000) (bif ltI 60 (w64 ((roomOf (sub p 0 9))+((gd s 0).rows.length:Int))) then some (1,[gd (sub (dupShard (sub p 0 9)) 0 9) 0,gd (sub (dupShard (sub p 0 9)) 0 9) 1,gd (sub (dupShard (sub p 0 9)) 0 9) 2,gd (sub (dupShard (sub p 0 9)) 0 9) 3,gd (sub (dupShard (sub p 0 9)) 0 9) 4,gd (sub (dupShard (sub p 0 9)) 0 9) 5,gd (sub (dupShard (sub p 0 9)) 0 9) 6,gd (sub (dupShard (sub p 0 9)) 0 9) 7,gd q 0,.i 6])
 else nd (leI ((gd p 3).rows.length:Int) 1000000000&&leI ((gd s 0).rows.length:Int) 1000000000) (some (1,[gd (sub (dupShard (sub p 0 9)) 0 9) 0,gd (sub (chgT (gd p 1) (sub r 0 2) (.b true)) 0 2) 0,gd (sub (dupShard (sub p 0 9)) 0 9) 2,gd (sub (joinS (gd p 3) (gd s 0)) 0 2) 0,gd (sub (dupShard (sub p 0 9)) 0 9) 4,gd (sub (dupShard (sub p 0 9)) 0 9) 5,gd (sub (dupShard (sub p 0 9)) 0 9) 6,gd (sub (dupShard (sub p 0 9)) 0 9) 7,gd q 0,.i 0]))))
 else bif haveAnyB (gd p 1) (sub r 0 2) then bif 4 != 0 then nd (dupOk (sub p 0 9)||4==1) (some (1,sub (sub (asWas (sub p 0 9) (.i 4)) 0 10) 0 10))
 else nd (dupOk (sub p 0 9)) (bif !(gd (sub (chgT (gd p 1) (sub r 0 2) (.b true)) 0 2) 1).bool then some (1,[gd (sub (dupShard (sub p 0 9)) 0 9) 0,gd (sub (dupShard (sub p 0 9)) 0 9) 1,gd (sub (dupShard (sub p 0 9)) 0 9) 2,gd (sub (dupShard (sub p 0 9)) 0 9) 3,gd (sub (dupShard (sub p 0 9)) 0 9) 4,gd (sub (dupShard (sub p 0 9)) 0 9) 5,gd (sub (dupShard (sub p 0 9)) 0 9) 6,gd (sub (dupShard (sub p 0 9)) 0 9) 7,gd q 0,.i 6])
 else nd (leI ((gd p 3).rows.length:Int) 1000000000&&leI ((gd p 5).rows.length:Int) 1000000000) (bif ltI 60 (w64 ((roomOf (sub p 0 9))+((gd s 0).rows.length:Int))) then some (1,[gd (sub (dupShard (sub p 0 9)) 0 9) 0,gd (sub (dupShard (sub p 0 9)) 0 9) 1,gd (sub (dupShard (sub p 0 9)) 0 9) 2,gd (sub (dupShard (sub p 0 9)) 0 9) 3,gd (sub (dupShard (sub p 0 9)) 0 9) 4,gd (sub (dupShard (sub p 0 9)) 0 9) 5,gd (sub (dupShard (sub p 0 9)) 0 9) 6,gd (sub (dupShard (sub p 0 9)) 0 9) 7,gd q 0,.i 6])
 else nd (leI ((gd p 3).rows.length:Int) 1000000000&&leI ((gd s 0).rows.length:Int) 1000000000) (some (1,[gd (sub (dupShard (sub p 0 9)) 0 9) 0,gd (sub (chgT (gd p 1) (sub r 0 2) (.b true)) 0 2) 0,gd (sub (dupShard (sub p 0 9)) 0 9) 2,gd (sub (joinS (gd p 3) (gd s 0)) 0 2) 0,gd (sub (dupShard (sub p 0 9)) 0 9) 4,gd (sub (dupShard (sub p 0 9)) 0 9) 5,gd (sub (dupShard (sub p 0 9)) 0 9) 6,gd (sub (dupShard (sub p 0 9)) 0 9) 7,gd q 0,.i 0]))))
 else bif (s_l13RankF (sub p 0 9) [(gd q 0)] (sub r 0 2)) != 0 then nd (dupOk (sub p 0 9)||(s_l13RankF (sub p 0 9) [(gd q 0)] (sub r 0 2))==1) (some (1,sub (sub (asWas (sub p 0 9) (.i (s_l13RankF (sub p 0 9) [(gd q 0)] (sub r 0 2)))) 0 10) 0 10))
 else nd (dupOk (sub p 0 9)) (bif !(gd (sub (chgT (gd p 1) (sub r 0 2) (.b true)) 0 2) 1).bool then some (1,[gd (sub (dupShard (sub p 0 9)) 0 9) 0,gd (sub (dupShard (sub p 0 9)) 0 9) 1,gd (sub (dupShard (sub p 0 9)) 0 9) 2,gd (sub (dupShard (sub p 0 9)) 0 9) 3,gd (sub (dupShard (sub p 0 9)) 0 9) 4,gd (sub (dupShard (sub p 0 9)) 0 9) 5,gd (sub (dupShard (sub p 0 9)) 0 9) 6,gd (sub (dupShard (sub p 0 9)) 0 9) 7,gd q 0,.i 6])
 else nd (leI ((gd p 3).rows.length:Int) 1000000000&&leI ((gd p 5).rows.length:Int) 1000000000) (bif ltI 60 (w64 ((roomOf (sub p 0 9))+((gd s 0).rows.length:Int))) then some (1,[gd (sub (dupShard (sub p 0 9)) 0 9) 0,gd (sub (dupShard (sub p 0 9)) 0 9) 1,gd (sub (dupShard (sub p 0 9)) 0 9) 2,gd (sub (dupShard (sub p 0 9)) 0 9) 3,gd (sub (dupShard (sub p 0 9)) 0 9) 4,gd (sub (dupShard (sub p 0 9)) 0 9) 5,gd (sub (dupShard (sub p 0 9)) 0 9) 6,gd (sub (dupShard (sub p 0 9)) 0 9) 7,gd q 0,.i 6])
 else nd (leI ((gd p 3).rows.length:Int) 1000000000&&leI ((gd s 0).rows.length:Int) 1000000000) (some (1,[gd (sub (dupShard (sub p 0 9)) 0 9) 0,gd (sub (chgT (gd p 1) (sub r 0 2) (.b true)) 0 2) 0,gd (sub (dupShard (sub p 0 9)) 0 9) 2,gd (sub (joinS (gd p 3) (gd s 0)) 0 2) 0,gd (sub (dupShard (sub p 0 9)) 0 9) 4,gd (sub (dupShard (sub p 0 9)) 0 9) 5,gd (sub (dupShard (sub p 0 9)) 0 9) 6,gd (sub (dupShard (sub p 0 9)) 0 9) 7,gd q 0,.i 0])))))):=by kernel_rfl
def i_ShardInstallE:Ent:=(33,e4 (ag rIShard) ri (ag rIRange) (sd (.sl 108)) fun p q r s=>(⟨.tup [.agg rDShard,.c (.d si)],sub (insD p (gd q 0) r (gd s 0)) 0 10⟩,shardSmall p))
theorem i_ShardInstall_ok:EntOk Tryz.prog i_ShardInstallE:=e4_ok fun p q r s h=>evFn_sound (N:=0) (ks:=i_ShardInstallK) (key:=bo) i_ShardInstallT_ok (enters Tryz.func33) Tryz.func33 fun hw=>by
 rw [i_ShardInstall_ev]
 have h:shardSmall (sub p 0 9)=true:=h
 have hdup:shardOk (sub p 0 9)=true→dupOk (sub p 0 9)=true:=shard_dup
 unfold insD
 rw [h,show (anyS (fun rr=>ixfSIC (.l [[.l [sub r 0 2]]]) (sub rr 0 2)) (gd s 0))=outS r (gd s 0) from rfl,show roomOf (sub p 0 9)=roomOf p from rfl]
 simp only [nd_true]
 cases hz:storeOk (gd s 0) with
 | false =>
  simp only [cond_true,cond_false,Bool.not_true,Bool.not_false,Bool.or_true,Bool.true_or,Bool.or_false,Bool.false_or,Bool.and_self,nd_true,show ((1:Int) != 1)=false from rfl,show ((1:Int) != 0)=true from rfl,show ((2:Int) != 0)=true from rfl,show ((2:Int) != 1)=true from rfl,show ((0:Int) != 0)=false from rfl,show ((0:Int) != 1)=true from rfl,show ((6:Int) != 0)=true from rfl,show ((4:Int) != 0)=true from rfl,show ((1:Int)==1)=true from rfl,show ((2:Int)==1)=false from rfl,show ((0:Int)==1)=false from rfl,show ((6:Int)==1)=false from rfl,show ((4:Int)==1)=false from rfl,show ((1:Nat) != 1)=false from rfl,show ((1:Nat) != 0)=true from rfl,show ((2:Nat) != 0)=true from rfl,show ((2:Nat) != 1)=true from rfl,show ((0:Nat) != 0)=false from rfl,show ((0:Nat) != 1)=true from rfl,show ((6:Nat) != 0)=true from rfl,show ((4:Nat) != 0)=true from rfl,show ((1:Nat)==1)=true from rfl,show ((2:Nat)==1)=false from rfl,show ((0:Nat)==1)=false from rfl,show ((6:Nat)==1)=false from rfl,show ((4:Nat)==1)=false from rfl]
  rfl
 | true =>
 have ls:=(store_sorted hz).len
 rw [leI_t (show ((gd s 0).rows.length:Int)≤1000000000 by omega)]
 cases ho:outS r (gd s 0) with
 | true =>
  simp only [cond_true,cond_false,Bool.not_true,Bool.not_false,Bool.or_true,Bool.true_or,Bool.or_false,Bool.false_or,Bool.and_self,nd_true,show ((1:Int) != 1)=false from rfl,show ((1:Int) != 0)=true from rfl,show ((2:Int) != 0)=true from rfl,show ((2:Int) != 1)=true from rfl,show ((0:Int) != 0)=false from rfl,show ((0:Int) != 1)=true from rfl,show ((6:Int) != 0)=true from rfl,show ((4:Int) != 0)=true from rfl,show ((1:Int)==1)=true from rfl,show ((2:Int)==1)=false from rfl,show ((0:Int)==1)=false from rfl,show ((6:Int)==1)=false from rfl,show ((4:Int)==1)=false from rfl,show ((1:Nat) != 1)=false from rfl,show ((1:Nat) != 0)=true from rfl,show ((2:Nat) != 0)=true from rfl,show ((2:Nat) != 1)=true from rfl,show ((0:Nat) != 0)=false from rfl,show ((0:Nat) != 1)=true from rfl,show ((6:Nat) != 0)=true from rfl,show ((4:Nat) != 0)=true from rfl,show ((1:Nat)==1)=true from rfl,show ((2:Nat)==1)=false from rfl,show ((0:Nat)==1)=false from rfl,show ((6:Nat)==1)=false from rfl,show ((4:Nat)==1)=false from rfl]
  rfl
 | false =>
 rcases rank_cases p (gd q 0) r with hc | ⟨hc,hsh,hra⟩ | ⟨hc,hsh,hra⟩
 ·rw [hc]
  simp only [cond_true,cond_false,Bool.not_true,Bool.not_false,Bool.or_true,Bool.true_or,Bool.or_false,Bool.false_or,Bool.and_self,nd_true,show ((1:Int) != 1)=false from rfl,show ((1:Int) != 0)=true from rfl,show ((2:Int) != 0)=true from rfl,show ((2:Int) != 1)=true from rfl,show ((0:Int) != 0)=false from rfl,show ((0:Int) != 1)=true from rfl,show ((6:Int) != 0)=true from rfl,show ((4:Int) != 0)=true from rfl,show ((1:Int)==1)=true from rfl,show ((2:Int)==1)=false from rfl,show ((0:Int)==1)=false from rfl,show ((6:Int)==1)=false from rfl,show ((4:Int)==1)=false from rfl,show ((1:Nat) != 1)=false from rfl,show ((1:Nat) != 0)=true from rfl,show ((2:Nat) != 0)=true from rfl,show ((2:Nat) != 1)=true from rfl,show ((0:Nat) != 0)=false from rfl,show ((0:Nat) != 1)=true from rfl,show ((6:Nat) != 0)=true from rfl,show ((4:Nat) != 0)=true from rfl,show ((1:Nat)==1)=true from rfl,show ((2:Nat)==1)=false from rfl,show ((0:Nat)==1)=false from rfl,show ((6:Nat)==1)=false from rfl,show ((4:Nat)==1)=false from rfl]
  rfl
 ·rw [hc]
  simp only [cond_true,cond_false,Bool.not_true,Bool.not_false,Bool.or_true,Bool.true_or,Bool.or_false,Bool.false_or,Bool.and_self,nd_true,show ((1:Int) != 1)=false from rfl,show ((1:Int) != 0)=true from rfl,show ((2:Int) != 0)=true from rfl,show ((2:Int) != 1)=true from rfl,show ((0:Int) != 0)=false from rfl,show ((0:Int) != 1)=true from rfl,show ((6:Int) != 0)=true from rfl,show ((4:Int) != 0)=true from rfl,show ((1:Int)==1)=true from rfl,show ((2:Int)==1)=false from rfl,show ((0:Int)==1)=false from rfl,show ((6:Int)==1)=false from rfl,show ((4:Int)==1)=false from rfl,show ((1:Nat) != 1)=false from rfl,show ((1:Nat) != 0)=true from rfl,show ((2:Nat) != 0)=true from rfl,show ((2:Nat) != 1)=true from rfl,show ((0:Nat) != 0)=false from rfl,show ((0:Nat) != 1)=true from rfl,show ((6:Nat) != 0)=true from rfl,show ((4:Nat) != 0)=true from rfl,show ((1:Nat)==1)=true from rfl,show ((2:Nat)==1)=false from rfl,show ((0:Nat)==1)=false from rfl,show ((6:Nat)==1)=false from rfl,show ((4:Nat)==1)=false from rfl,hdup hsh]
  rfl
 ·rw [hc]
  simp only [cond_true,cond_false,Bool.not_true,Bool.not_false,Bool.or_true,Bool.true_or,Bool.or_false,Bool.false_or,Bool.and_self,nd_true,show ((1:Int) != 1)=false from rfl,show ((1:Int) != 0)=true from rfl,show ((2:Int) != 0)=true from rfl,show ((2:Int) != 1)=true from rfl,show ((0:Int) != 0)=false from rfl,show ((0:Int) != 1)=true from rfl,show ((6:Int) != 0)=true from rfl,show ((4:Int) != 0)=true from rfl,show ((1:Int)==1)=true from rfl,show ((2:Int)==1)=false from rfl,show ((0:Int)==1)=false from rfl,show ((6:Int)==1)=false from rfl,show ((4:Int)==1)=false from rfl,show ((1:Nat) != 1)=false from rfl,show ((1:Nat) != 0)=true from rfl,show ((2:Nat) != 0)=true from rfl,show ((2:Nat) != 1)=true from rfl,show ((0:Nat) != 0)=false from rfl,show ((0:Nat) != 1)=true from rfl,show ((6:Nat) != 0)=true from rfl,show ((4:Nat) != 0)=true from rfl,show ((1:Nat)==1)=true from rfl,show ((2:Nat)==1)=false from rfl,show ((0:Nat)==1)=false from rfl,show ((6:Nat)==1)=false from rfl,show ((4:Nat)==1)=false from rfl,hdup hsh]
  obtain ⟨_,_,hl5,_,_,hst,hr1,_⟩:=shard_lens hsh
  have hl5:(gd p 5).rows.length≤60:=hl5
  have hl3:(gd p 3).rows.length≤60:=(store_sorted hst).len
  rw [leI_t (show ((gd p 5).rows.length:Int)≤1000000000 by omega),leI_t (show ((gd p 3).rows.length:Int)≤1000000000 by omega)]
  unfold insR
  simp only [cond_true,cond_false,Bool.not_true,Bool.not_false,Bool.or_true,Bool.true_or,Bool.or_false,Bool.false_or,Bool.and_self,nd_true,show ((1:Int) != 1)=false from rfl,show ((1:Int) != 0)=true from rfl,show ((2:Int) != 0)=true from rfl,show ((2:Int) != 1)=true from rfl,show ((0:Int) != 0)=false from rfl,show ((0:Int) != 1)=true from rfl,show ((6:Int) != 0)=true from rfl,show ((4:Int) != 0)=true from rfl,show ((1:Int)==1)=true from rfl,show ((2:Int)==1)=false from rfl,show ((0:Int)==1)=false from rfl,show ((6:Int)==1)=false from rfl,show ((4:Int)==1)=false from rfl,show ((1:Nat) != 1)=false from rfl,show ((1:Nat) != 0)=true from rfl,show ((2:Nat) != 0)=true from rfl,show ((2:Nat) != 1)=true from rfl,show ((0:Nat) != 0)=false from rfl,show ((0:Nat) != 1)=true from rfl,show ((6:Nat) != 0)=true from rfl,show ((4:Nat) != 0)=true from rfl,show ((1:Nat)==1)=true from rfl,show ((2:Nat)==1)=false from rfl,show ((0:Nat)==1)=false from rfl,show ((6:Nat)==1)=false from rfl,show ((4:Nat)==1)=false from rfl]
  cases (gd q 0).int==(gd p 8).int with
  | true =>
   cases haveAll (gd p 1) (sub r 0 2) <;> rfl
  | false =>
  simp only [cond_true,cond_false,Bool.not_true,Bool.not_false,Bool.or_true,Bool.true_or,Bool.or_false,Bool.false_or,Bool.and_self,nd_true,show ((1:Int) != 1)=false from rfl,show ((1:Int) != 0)=true from rfl,show ((2:Int) != 0)=true from rfl,show ((2:Int) != 1)=true from rfl,show ((0:Int) != 0)=false from rfl,show ((0:Int) != 1)=true from rfl,show ((6:Int) != 0)=true from rfl,show ((4:Int) != 0)=true from rfl,show ((1:Int)==1)=true from rfl,show ((2:Int)==1)=false from rfl,show ((0:Int)==1)=false from rfl,show ((6:Int)==1)=false from rfl,show ((4:Int)==1)=false from rfl,show ((1:Nat) != 1)=false from rfl,show ((1:Nat) != 0)=true from rfl,show ((2:Nat) != 0)=true from rfl,show ((2:Nat) != 1)=true from rfl,show ((0:Nat) != 0)=false from rfl,show ((0:Nat) != 1)=true from rfl,show ((6:Nat) != 0)=true from rfl,show ((4:Nat) != 0)=true from rfl,show ((1:Nat)==1)=true from rfl,show ((2:Nat)==1)=false from rfl,show ((0:Nat)==1)=false from rfl,show ((6:Nat)==1)=false from rfl,show ((4:Nat)==1)=false from rfl]
  cases haveAnyB (gd p 1) (sub r 0 2) with
  | true=>rfl
  | false =>
  simp only [cond_true,cond_false,Bool.not_true,Bool.not_false,Bool.or_true,Bool.true_or,Bool.or_false,Bool.false_or,Bool.and_self,nd_true,show ((1:Int) != 1)=false from rfl,show ((1:Int) != 0)=true from rfl,show ((2:Int) != 0)=true from rfl,show ((2:Int) != 1)=true from rfl,show ((0:Int) != 0)=false from rfl,show ((0:Int) != 1)=true from rfl,show ((6:Int) != 0)=true from rfl,show ((4:Int) != 0)=true from rfl,show ((1:Int)==1)=true from rfl,show ((2:Int)==1)=false from rfl,show ((0:Int)==1)=false from rfl,show ((6:Int)==1)=false from rfl,show ((4:Int)==1)=false from rfl,show ((1:Nat) != 1)=false from rfl,show ((1:Nat) != 0)=true from rfl,show ((2:Nat) != 0)=true from rfl,show ((2:Nat) != 1)=true from rfl,show ((0:Nat) != 0)=false from rfl,show ((0:Nat) != 1)=true from rfl,show ((6:Nat) != 0)=true from rfl,show ((4:Nat) != 0)=true from rfl,show ((1:Nat)==1)=true from rfl,show ((2:Nat)==1)=false from rfl,show ((0:Nat)==1)=false from rfl,show ((6:Nat)==1)=false from rfl,show ((4:Nat)==1)=false from rfl]
  cases (gd (sub (chgT (gd p 1) (sub r 0 2) (.b true)) 0 2) 1).bool with
  | false=>rfl
  | true =>
  simp only [cond_true,cond_false,Bool.not_true,Bool.not_false,Bool.or_true,Bool.true_or,Bool.or_false,Bool.false_or,Bool.and_self,nd_true,show ((1:Int) != 1)=false from rfl,show ((1:Int) != 0)=true from rfl,show ((2:Int) != 0)=true from rfl,show ((2:Int) != 1)=true from rfl,show ((0:Int) != 0)=false from rfl,show ((0:Int) != 1)=true from rfl,show ((6:Int) != 0)=true from rfl,show ((4:Int) != 0)=true from rfl,show ((1:Int)==1)=true from rfl,show ((2:Int)==1)=false from rfl,show ((0:Int)==1)=false from rfl,show ((6:Int)==1)=false from rfl,show ((4:Int)==1)=false from rfl,show ((1:Nat) != 1)=false from rfl,show ((1:Nat) != 0)=true from rfl,show ((2:Nat) != 0)=true from rfl,show ((2:Nat) != 1)=true from rfl,show ((0:Nat) != 0)=false from rfl,show ((0:Nat) != 1)=true from rfl,show ((6:Nat) != 0)=true from rfl,show ((4:Nat) != 0)=true from rfl,show ((1:Nat)==1)=true from rfl,show ((2:Nat)==1)=false from rfl,show ((0:Nat)==1)=false from rfl,show ((6:Nat)==1)=false from rfl,show ((4:Nat)==1)=false from rfl]
  cases ltI 60 (w64 (roomOf p+((gd s 0).rows.length:Int))) <;> rfl
end Go.Proofs.YtpdfmcmnjikppaaGreat
namespace Go.Proofs.YtpdfmcmnjikppaaGreat
def eM (s:Sh) (F:List D→D→T × Bool):List T→Option (T × Bool)
 | [v,⟨.one (.c (.d (.int .i64))),[kd]⟩]=>bif v.sh==s then some (F v.p kd) else none
 | _=>none
theorem eM_ok {P:Program} {f:FuncId} {s:Sh} {F:List D→D→T × Bool} (h:∀ p q,(F p q).2=true→SoundFn P f [⟨s,p⟩,.c (.d (.int .i64)) q] (F p q).1):EntOk P (f,eM s F):=by
 intro args r hr0
 have hr:eM s F args=some (r,true):=hr0
 clear hr0
 unfold eM at hr
 split at hr
 ·rename_i v kd
  cases hb:(v.sh==s) with
  | false=>rw [hb] at hr; cases hr
  | true =>
   rw [hb,cond_true,Option.some.injEq] at hr
   obtain ⟨sh,p⟩:=v
   have e:sh=s:=by simpa using hb
   subst e
   have:=h p kd
   rw [hr] at this
   exact this rfl
 ·cases hr
inductive Fld where
 | i (off:Nat)
 | b (off:Nat)
 | m (off:Nat) (F:List D→D→List D) (c:D→Nat)
def stF (w:Nat) (f:Fld) (r:List D) (k:D):List D × D:=
 match f with
 | .i off=>(setSub (sub r 0 w) off [k],.i (w64 (k.int+1)))
 | .b off=>(setSub (sub r 0 w) off [.b (k.int.tmod 3==0)],.i (w64 (k.int+1)))
 | .m off F _=>(setSub (sub r 0 w) off [gd (F [gd r off] k) 1],gd (F [gd r off] k) 0)
def rowF (w:Nat):List Fld→List D→D→List D × D
 | [],r,k=>(r,k)
 | f::fs,r,k=>rowF w fs (stF w f r k).1 (stF w f r k).2
def rnd (w:Nat) (i:Int):List Fld→List (List D)→D→(List (List D)→D→Out)→Out
 | [],rows,k,K=>K rows k
 | f::fs,rows,k,K=>nd (inRange i rows.length) (rnd w i fs (rows.set i.toNat (stF w f (rows.getD i.toNat []) k).1) (stF w f (rows.getD i.toNat []) k).2 K)
theorem getD_set_self {l:List (List D)} {i:Nat} {a:List D} (h:i<l.length):(l.set i a).getD i []=a:=by
 simp [List.getD_eq_getElem?_getD,h]
theorem rnd_eq {w i:Nat} {K:List (List D)→D→Out}:∀ {fs:List Fld} {rows:List (List D)} {k:D},i<rows.length→rnd w (i:Int) fs rows k K=K (rows.set i (rowF w fs (rows.getD i []) k).1) (rowF w fs (rows.getD i []) k).2
 | [],rows,k,h=>by
  simp only [rnd,rowF]
  congr 1
  rw [List.getD_eq_getElem?_getD,List.getElem?_eq_getElem h]
  simp
 | f::fs,rows,k,h=>by
  simp only [rnd,rowF,Int.toNat_natCast]
  rw [nd_ix h,rnd_eq (by simpa using h),getD_set_self h,List.set_set]
def mkTo (f:List D→D→List D × D) (rows:List (List D)) (k:D):Nat→List (List D) × D
 | 0=>(rows,k)
 | j+1=>((mkTo f rows k j).1.set j (f ((mkTo f rows k j).1.getD j []) (mkTo f rows k j).2).1,(f ((mkTo f rows k j).1.getD j []) (mkTo f rows k j).2).2)
theorem mkTo_len (f:List D→D→List D × D) (rows:List (List D)) (k:D):∀ j,(mkTo f rows k j).1.length=rows.length
 | 0=>rfl
 | j+1=>by simp [mkTo,mkTo_len f rows k j]
theorem mkTo_hi (f:List D→D→List D × D) (rows:List (List D)) (k:D):∀ j i,j≤i→(mkTo f rows k j).1.getD i []=rows.getD i []
 | 0,i,_=>rfl
 | j+1,i,h=>by
  rw [← mkTo_hi f rows k j i (by omega)]
  simp only [mkTo,List.getD_eq_getElem?_getD,List.getElem?_set]
  rw [if_neg (by omega)]
def mkZ (f:List D→D→List D × D) (z k:D):Nat→D
 | 0=>z
 | j+1=>.l (mkTo f z.rows k (j+1)).1
theorem mkZ_rows (f:List D→D→List D × D) (z k:D):∀ j,(mkZ f z k j).rows=(mkTo f z.rows k j).1
 | 0=>rfl
 | _+1=>rfl
def mkAll (f:List D→D→List D × D) (z k:D):List D:= [(mkTo f z.rows k z.rows.length).2,mkZ f z k z.rows.length]
theorem mk_loop {L:List D→Out} {w:Nat} {fs:List Fld} {x2:D} (h:∀ x0 x1 x3,L [x0,x1,x2,x3]=bif ltI x3.int (x0.rows.length:Int) then rnd w x3.int fs x0.rows x1 (fun rows k=>nx [.l rows,k,x2,.i (w64 (x3.int+1))]) else ex 0 [x0,x1,x2,x3]) {z k:D} (hl:z.rows.length≤9223372036854775807) :
  iter L (z.rows.length+1) [z,k,x2,.i 0]=some (2,[mkZ (rowF w fs) z k z.rows.length,(mkTo (rowF w fs) z.rows k z.rows.length).2,x2,.i (z.rows.length:Int)]):=by
 have e:=run_loop (L:=L) (fun j => [mkZ (rowF w fs) z k j,(mkTo (rowF w fs) z.rows k j).2,x2,.i (j:Int)]) z.rows.length 0 (fun j hj=>?_) ?_ (N:=z.rows.length+1) (by omega)
 ·simp only [Int.natCast_zero,Nat.zero_add] at e
  exact e
 ·have hlen:=mkTo_len (rowF w fs) z.rows k j
  rw [h]
  simp only [int_i,mkZ_rows,hlen,c_lt hj]
  rw [rnd_eq (by rw [hlen]; exact hj),w64_succ hj hl]
  rfl
 ·have hlen:=mkTo_len (rowF w fs) z.rows k z.rows.length
  rw [h]
  simp only [int_i,mkZ_rows,hlen,c_nlt]
theorem mk_sound {P:Program} {call:FuncId→List T→Option (T × Bool)} (hcall:CallOk P call) {ks:List Nat} {f:FuncId} {fn:Func} {e:TypeId} {p:List D} {q:D} {L:Nat→List D→D→List D→Out} {w:Nat} {fs:List Fld} (hen:∀ vs w,(callFunc f vs).run P w=.ok (.enter f vs) w) (hf:P.funcs[f]?=some fn)
  (hR:∀ N x0 x1 x2 x3,L N p q [x0,x1,x2,x3]=bif ltI x3.int (x0.rows.length:Int) then rnd w x3.int fs x0.rows x1 (fun rows k=>nx [.l rows,k,x2,.i (w64 (x3.int+1))]) else ex 0 [x0,x1,x2,x3])
  (hev:∀ N,evFnM P call N ks fn [⟨.one (.c (.d (.sl e))),p⟩,.c (.d (.int .i64)) q]=some (bo,(let o0:=iter (L N p q) N [gd p 0,q,.i 0,.i 0]; nd o0.isSome (nd (o0.code==2) (some (1,[gd o0.pay 1,gd o0.pay 0])))))) :
  SoundFn P f [⟨.one (.c (.d (.sl e))),p⟩,.c (.d (.int .i64)) q] ⟨shM,mkAll (rowF w fs) (gd p 0) q⟩:=by
 refine evFnM_sound (N:=(gd p 0).rows.length+1) (ks:=ks) (key:=bo) hcall hen hf fun hw=>?_
 have hl:(gd p 0).rows.length≤9223372036854775807:=by
  have hw:WD P (.sl e) (gd p 0):=hw
  cases hw with
  | sl _ _ _ _ h _=>exact h
 rw [hev,mk_loop (fun x0 x1 x3=>hR _ x0 x1 _ x3) hl]
 rfl
def Fld.off:Fld→Nat
 | .i o=>o
 | .b o=>o
 | .m o _ _=>o
def cF (r:List D):Fld→Nat
 | .i _=>1
 | .b _=>1
 | .m o _ c=>c (gd r o)
def cFs:List Fld→List D→Nat
 | [],_=>0
 | f::fs,r=>cF r f+cFs fs r
def FldOk (w:Nat):Fld→Prop
 | .i o=>o<w
 | .b o=>o<w
 | .m o F c=>o<w∧∀ x q:D,0≤q.int→q.int+c x≤4611686018427387904→(gd (F [x] q) 0).int=q.int+c x
def FldsOk (w:Nat):List Fld→Prop
 | []=>True
 | f::fs=>FldOk w f∧FldsOk w fs
def apartF:List Fld→Bool
 | []=>true
 | f::fs=>fs.all (fun g=>f.off != g.off)&&apartF fs
theorem FldOk.lt {w:Nat} {f:Fld} (h:FldOk w f):f.off<w:=by
 cases f <;> first | exact h | exact h.1
theorem gd_stF {w:Nat} {f:Fld} {r:List D} {k:D} {j:Nat} (h:f.off≠j) (hj:j<w):gd (stF w f r k).1 j=gd r j:=by
 have key:∀ (o:Nat) (d:D),o≠j→gd (setSub (sub r 0 w) o [d]) j=gd r j:=fun o d ho=>by
  show gd ((sub r 0 w).set o d) j=_
  have:gd ((sub r 0 w).set o d) j=gd (sub r 0 w) j:=by
   simp only [gd,List.getD_eq_getElem?_getD,List.getElem?_set,if_neg ho]
  rw [this,gd_sub _ _ _ _ hj,Nat.zero_add]
 cases f with
 | i o=>exact key o _ h
 | b o=>exact key o _ h
 | m o F c=>exact key o _ h
theorem cFs_congr {w:Nat} {r r':List D}:∀ {fs:List Fld},FldsOk w fs→(∀ f∈fs,gd r' f.off=gd r f.off)→cFs fs r'=cFs fs r
 | [],_,_=>rfl
 | f::fs,hok,h=>by
  have h1:cF r' f=cF r f:=by
   have:=h f (by simp)
   cases f with
   | i o=>rfl
   | b o=>rfl
   | m o F c=>show c (gd r' o)=c (gd r o); rw [show gd r' o=gd r o from this]
  simp only [cFs,h1,cFs_congr hok.2 fun g hg=>h g (by simp [hg])]
theorem FldsOk.mem {w:Nat}:∀ {fs:List Fld},FldsOk w fs→∀ f∈fs,FldOk w f
 | [],_,f,h=>by simp at h
 | g::fs,hok,f,h=>by
  rcases List.mem_cons.1 h with rfl | h
  ·exact hok.1
  ·exact hok.2.mem f h
theorem rowF_k {w:Nat}:∀ {fs:List Fld} {r:List D} {k:D},apartF fs=true→FldsOk w fs→0≤k.int→k.int+cFs fs r≤4611686018427387904→(rowF w fs r k).2.int=k.int+cFs fs r
 | [],r,k,_,_,_,_=>by simp [rowF,cFs]
 | f::fs,r,k,ha,hok,h0,h1=>by
  simp only [apartF,Bool.and_eq_true,List.all_eq_true] at ha
  simp only [cFs] at h1
  push_cast at h1
  have hc:cFs fs (stF w f r k).1=cFs fs r:=cFs_congr hok.2 fun g hg=>gd_stF (by simpa using ha.1 g hg) (hok.2.mem g hg).lt
  have hk:(stF w f r k).2.int=k.int+cF r f:=by
   cases f with
   | i o=>show w64 (k.int+1)=k.int+((1:Nat):Int); simp only [cF] at h1; rw [w64_id (by omega) (by omega)]; rfl
   | b o=>show w64 (k.int+1)=k.int+((1:Nat):Int); simp only [cF] at h1; rw [w64_id (by omega) (by omega)]; rfl
   | m o F c=>simp only [cF] at h1; exact hok.1.2 _ _ h0 (by omega)
  have:=rowF_k (r:=(stF w f r k).1) (k:=(stF w f r k).2) ha.2 hok.2 (by omega) (by rw [hc]; omega)
  simp only [rowF,cFs]
  push_cast
  omega
theorem total_take {f:List D→Nat} (rows:List (List D)):∀ j,j<rows.length→total f (rows.take (j+1))=total f (rows.take j)+f (rows.getD j []):=fun j hj=>by
 unfold total
 rw [List.take_add_one,List.map_append,List.sum_append,List.getElem?_eq_getElem hj]
 simp [List.getD_eq_getElem?_getD,hj]
theorem total_take_le {f:List D→Nat} (rows:List (List D)) (j:Nat):total f (rows.take j)≤total f rows:=by
 unfold total
 conv=>rhs; rw [← List.take_append_drop j rows]
 rw [List.map_append,List.sum_append]
 omega
theorem mkAll_k {w:Nat} {fs:List Fld} {x q:D} (ha:apartF fs=true) (hok:FldsOk w fs) (h0:0≤q.int) (h1:q.int+total (cFs fs) x.rows≤4611686018427387904):(gd (mkAll (rowF w fs) x q) 0).int=q.int+total (cFs fs) x.rows:=by
 have key:∀ j,j≤x.rows.length→(mkTo (rowF w fs) x.rows q j).2.int=q.int+total (cFs fs) (x.rows.take j):=by
  intro j
  induction j with
  | zero=>intro _; simp [mkTo,total]
  | succ j ih =>
   intro hj
   have ih:=ih (by omega)
   have ht:=total_take (f:=cFs fs) x.rows j (by omega)
   have hle:=total_take_le (f:=cFs fs) x.rows (j+1)
   simp only [mkTo]
   rw [mkTo_hi _ _ _ j j (Nat.le_refl _),rowF_k ha hok (by omega) (by omega),ih,ht]
   push_cast
   omega
 have:=key x.rows.length (Nat.le_refl _)
 rw [List.take_length] at this
 exact this
theorem bd_flat {fs:List Fld} {f:List D→List D} (h:∀ r,cFs fs (f r)≤16) (z:D):total (cFs fs) (D.l (z.rows.map fun r=>f r)).rows≤16*z.rows.length:=by
 show total (cFs fs) (z.rows.map fun r=>f r)≤_
 generalize z.rows=l
 induction l with
 | nil=>simp [total]
 | cons r l ih =>
  have:=h r
  simp only [total,List.map_cons,List.sum_cons,List.length_cons] at ih ⊢
  omega
theorem bd_deep {fs:List Fld} {f:List D→List D} {s:List D→Nat} (h:∀ r,cFs fs (f r)≤16+16*s r) (z:D):total (cFs fs) (D.l (z.rows.map fun r=>f r)).rows≤16*(z.rows.length+total s z.rows):=by
 show total (cFs fs) (z.rows.map fun r=>f r)≤_
 generalize z.rows=l
 induction l with
 | nil=>simp [total]
 | cons r l ih =>
  have:=h r
  simp only [total,List.map_cons,List.sum_cons,List.length_cons] at ih ⊢
  omega
end Go.Proofs.YtpdfmcmnjikppaaGreat
namespace Go.Proofs.YtpdfmcmnjikppaaGreat
set_option maxRecDepth 4096
set_option maxHeartbeats 1000000
abbrev mkIntST:FuncId→List T→Option (T × Bool):=find []
theorem mkIntST_ok:CallOk Tryz.prog mkIntST:=find_ok (fN)
abbrev mkIntSK:List Nat:= [0,1,4,5,9]
noncomputable def mkIntSL (N:Nat) (p:List D) (q:D):List D→Out:=loopOfM Tryz.prog mkIntST N mkIntSK Tryz.f86 [⟨sd (.sl 3),p⟩,.c (.d si) q] 0
def mkIntSf:List Fld:= [.i 0]
def mkIntS (p:List D) (q:D):List D:=mkAll (rowF 1 mkIntSf) (gd p 0) q
def ctIntS (z:D):Nat:=total (cFs mkIntSf) z.rows
theorem mkIntSR (N:Nat) (p:List D) (q x0 x1 x2 x3:D):mkIntSL N p q [x0,x1,x2,x3]=bif ltI x3.int (x0.rows.length:Int) then rnd 1 x3.int mkIntSf x0.rows x1 (fun rows k=>nx [.l rows,k,x2,.i (w64 (x3.int+1))]) else ex 0 [x0,x1,x2,x3]:=by kernel_rfl
theorem mkIntS_ev (N:Nat) (p:List D) (q:D):evFnM Tryz.prog mkIntST N mkIntSK Tryz.f86 [⟨sd (.sl 3),p⟩,.c (.d si) q]=some (bo,(let o0:=iter (mkIntSL N p q) N [gd p 0,q,.i 0,.i 0]; nd o0.isSome (nd (o0.code==2) (some (1,[gd o0.pay 1,gd o0.pay 0]))))):=by kernel_rfl
def mkIntSE:Ent:=(86,eM (sd (.sl 3)) fun p q=>(⟨shM,mkIntS p q⟩,true))
theorem mkIntS_ok:EntOk Tryz.prog mkIntSE:=eM_ok fun p q _=>mk_sound (L:=mkIntSL) (fs:=mkIntSf) (w:=1) (ks:=mkIntSK) mkIntST_ok (enters Tryz.func86) Tryz.func86 (fun N x0 x1 x2 x3=>mkIntSR N p q x0 x1 x2 x3) (fun N=>mkIntS_ev N p q)
theorem mkIntS_k {x q:D} (h0:0≤q.int) (h1:q.int+ctIntS x≤4611686018427387904):(gd (mkIntS [x] q) 0).int=q.int+ctIntS x:=mkAll_k (w:=1) (fs:=mkIntSf) (by decide) (by
 unfold mkIntSf
 exact ⟨(by decide:0<1),trivial⟩) h0 h1
theorem bdIntS (z:D):ctIntS (cpIntS z)≤16*sizeIntS z:=bd_flat (f:=fun r=>cpInt r) (fun r=>by show 1+0≤16; omega) z
abbrev mkRangeST:FuncId→List T→Option (T × Bool):=find []
theorem mkRangeST_ok:CallOk Tryz.prog mkRangeST:=find_ok (fN)
abbrev mkRangeSK:List Nat:= [0,1,4,5,9]
noncomputable def mkRangeSL (N:Nat) (p:List D) (q:D):List D→Out:=loopOfM Tryz.prog mkRangeST N mkRangeSK Tryz.f28 [⟨sd (.sl 41),p⟩,.c (.d si) q] 0
def mkRangeSf:List Fld:= [.i 0,.i 1]
def mkRangeS (p:List D) (q:D):List D:=mkAll (rowF 2 mkRangeSf) (gd p 0) q
def ctRangeS (z:D):Nat:=total (cFs mkRangeSf) z.rows
theorem mkRangeSR (N:Nat) (p:List D) (q x0 x1 x2 x3:D):mkRangeSL N p q [x0,x1,x2,x3]=bif ltI x3.int (x0.rows.length:Int) then rnd 2 x3.int mkRangeSf x0.rows x1 (fun rows k=>nx [.l rows,k,x2,.i (w64 (x3.int+1))]) else ex 0 [x0,x1,x2,x3]:=by kernel_rfl
theorem mkRangeS_ev (N:Nat) (p:List D) (q:D):evFnM Tryz.prog mkRangeST N mkRangeSK Tryz.f28 [⟨sd (.sl 41),p⟩,.c (.d si) q]=some (bo,(let o0:=iter (mkRangeSL N p q) N [gd p 0,q,.i 0,.i 0]; nd o0.isSome (nd (o0.code==2) (some (1,[gd o0.pay 1,gd o0.pay 0]))))):=by kernel_rfl
def mkRangeSE:Ent:=(28,eM (sd (.sl 41)) fun p q=>(⟨shM,mkRangeS p q⟩,true))
theorem mkRangeS_ok:EntOk Tryz.prog mkRangeSE:=eM_ok fun p q _=>mk_sound (L:=mkRangeSL) (fs:=mkRangeSf) (w:=2) (ks:=mkRangeSK) mkRangeST_ok (enters Tryz.func28) Tryz.func28 (fun N x0 x1 x2 x3=>mkRangeSR N p q x0 x1 x2 x3) (fun N=>mkRangeS_ev N p q)
theorem mkRangeS_k {x q:D} (h0:0≤q.int) (h1:q.int+ctRangeS x≤4611686018427387904):(gd (mkRangeS [x] q) 0).int=q.int+ctRangeS x:=mkAll_k (w:=2) (fs:=mkRangeSf) (by decide) (by
 unfold mkRangeSf
 exact ⟨(by decide:0<2),(by decide:1<2),trivial⟩) h0 h1
theorem bdRangeS (z:D):ctRangeS (cpRangeS z)≤16*sizeRangeS z:=bd_flat (f:=fun r=>cpRange (sub r 0 2)) (fun r=>by show 1+(1+(0))≤16; omega) z
abbrev mkCellST:FuncId→List T→Option (T × Bool):=find []
theorem mkCellST_ok:CallOk Tryz.prog mkCellST:=find_ok (fN)
abbrev mkCellSK:List Nat:= [0,1,4,5,9]
noncomputable def mkCellSL (N:Nat) (p:List D) (q:D):List D→Out:=loopOfM Tryz.prog mkCellST N mkCellSK Tryz.f17 [⟨sd (.sl 108),p⟩,.c (.d si) q] 0
def mkCellSf:List Fld:= [.i 0,.i 1]
def mkCellS (p:List D) (q:D):List D:=mkAll (rowF 2 mkCellSf) (gd p 0) q
def ctCellS (z:D):Nat:=total (cFs mkCellSf) z.rows
theorem mkCellSR (N:Nat) (p:List D) (q x0 x1 x2 x3:D):mkCellSL N p q [x0,x1,x2,x3]=bif ltI x3.int (x0.rows.length:Int) then rnd 2 x3.int mkCellSf x0.rows x1 (fun rows k=>nx [.l rows,k,x2,.i (w64 (x3.int+1))]) else ex 0 [x0,x1,x2,x3]:=by kernel_rfl
theorem mkCellS_ev (N:Nat) (p:List D) (q:D):evFnM Tryz.prog mkCellST N mkCellSK Tryz.f17 [⟨sd (.sl 108),p⟩,.c (.d si) q]=some (bo,(let o0:=iter (mkCellSL N p q) N [gd p 0,q,.i 0,.i 0]; nd o0.isSome (nd (o0.code==2) (some (1,[gd o0.pay 1,gd o0.pay 0]))))):=by kernel_rfl
def mkCellSE:Ent:=(17,eM (sd (.sl 108)) fun p q=>(⟨shM,mkCellS p q⟩,true))
theorem mkCellS_ok:EntOk Tryz.prog mkCellSE:=eM_ok fun p q _=>mk_sound (L:=mkCellSL) (fs:=mkCellSf) (w:=2) (ks:=mkCellSK) mkCellST_ok (enters Tryz.func17) Tryz.func17 (fun N x0 x1 x2 x3=>mkCellSR N p q x0 x1 x2 x3) (fun N=>mkCellS_ev N p q)
theorem mkCellS_k {x q:D} (h0:0≤q.int) (h1:q.int+ctCellS x≤4611686018427387904):(gd (mkCellS [x] q) 0).int=q.int+ctCellS x:=mkAll_k (w:=2) (fs:=mkCellSf) (by decide) (by
 unfold mkCellSf
 exact ⟨(by decide:0<2),(by decide:1<2),trivial⟩) h0 h1
theorem bdCellS (z:D):ctCellS (cpCellS z)≤16*sizeCellS z:=bd_flat (f:=fun r=>cpCell (sub r 0 2)) (fun r=>by show 1+(1+(0))≤16; omega) z
abbrev mkWriteST:FuncId→List T→Option (T × Bool):=find []
theorem mkWriteST_ok:CallOk Tryz.prog mkWriteST:=find_ok (fN)
abbrev mkWriteSK:List Nat:= [0,1,4,5,9]
noncomputable def mkWriteSL (N:Nat) (p:List D) (q:D):List D→Out:=loopOfM Tryz.prog mkWriteST N mkWriteSK Tryz.f29 [⟨sd (.sl 70),p⟩,.c (.d si) q] 0
def mkWriteSf:List Fld:= [.i 0,.i 1]
def mkWriteS (p:List D) (q:D):List D:=mkAll (rowF 2 mkWriteSf) (gd p 0) q
def ctWriteS (z:D):Nat:=total (cFs mkWriteSf) z.rows
theorem mkWriteSR (N:Nat) (p:List D) (q x0 x1 x2 x3:D):mkWriteSL N p q [x0,x1,x2,x3]=bif ltI x3.int (x0.rows.length:Int) then rnd 2 x3.int mkWriteSf x0.rows x1 (fun rows k=>nx [.l rows,k,x2,.i (w64 (x3.int+1))]) else ex 0 [x0,x1,x2,x3]:=by kernel_rfl
theorem mkWriteS_ev (N:Nat) (p:List D) (q:D):evFnM Tryz.prog mkWriteST N mkWriteSK Tryz.f29 [⟨sd (.sl 70),p⟩,.c (.d si) q]=some (bo,(let o0:=iter (mkWriteSL N p q) N [gd p 0,q,.i 0,.i 0]; nd o0.isSome (nd (o0.code==2) (some (1,[gd o0.pay 1,gd o0.pay 0]))))):=by kernel_rfl
def mkWriteSE:Ent:=(29,eM (sd (.sl 70)) fun p q=>(⟨shM,mkWriteS p q⟩,true))
theorem mkWriteS_ok:EntOk Tryz.prog mkWriteSE:=eM_ok fun p q _=>mk_sound (L:=mkWriteSL) (fs:=mkWriteSf) (w:=2) (ks:=mkWriteSK) mkWriteST_ok (enters Tryz.func29) Tryz.func29 (fun N x0 x1 x2 x3=>mkWriteSR N p q x0 x1 x2 x3) (fun N=>mkWriteS_ev N p q)
theorem mkWriteS_k {x q:D} (h0:0≤q.int) (h1:q.int+ctWriteS x≤4611686018427387904):(gd (mkWriteS [x] q) 0).int=q.int+ctWriteS x:=mkAll_k (w:=2) (fs:=mkWriteSf) (by decide) (by
 unfold mkWriteSf
 exact ⟨(by decide:0<2),(by decide:1<2),trivial⟩) h0 h1
theorem bdWriteS (z:D):ctWriteS (cpWriteS z)≤16*sizeWriteS z:=bd_flat (f:=fun r=>cpWrite (sub r 0 2)) (fun r=>by show 1+(1+(0))≤16; omega) z
abbrev mkLockST:FuncId→List T→Option (T × Bool):=find []
theorem mkLockST_ok:CallOk Tryz.prog mkLockST:=find_ok (fN)
abbrev mkLockSK:List Nat:= [0,1,4,5,9]
noncomputable def mkLockSL (N:Nat) (p:List D) (q:D):List D→Out:=loopOfM Tryz.prog mkLockST N mkLockSK Tryz.f84 [⟨sd (.sl 93),p⟩,.c (.d si) q] 0
def mkLockSf:List Fld:= [.i 0,.i 1,.i 2,.i 3]
def mkLockS (p:List D) (q:D):List D:=mkAll (rowF 4 mkLockSf) (gd p 0) q
def ctLockS (z:D):Nat:=total (cFs mkLockSf) z.rows
theorem mkLockSR (N:Nat) (p:List D) (q x0 x1 x2 x3:D):mkLockSL N p q [x0,x1,x2,x3]=bif ltI x3.int (x0.rows.length:Int) then rnd 4 x3.int mkLockSf x0.rows x1 (fun rows k=>nx [.l rows,k,x2,.i (w64 (x3.int+1))]) else ex 0 [x0,x1,x2,x3]:=by kernel_rfl
theorem mkLockS_ev (N:Nat) (p:List D) (q:D):evFnM Tryz.prog mkLockST N mkLockSK Tryz.f84 [⟨sd (.sl 93),p⟩,.c (.d si) q]=some (bo,(let o0:=iter (mkLockSL N p q) N [gd p 0,q,.i 0,.i 0]; nd o0.isSome (nd (o0.code==2) (some (1,[gd o0.pay 1,gd o0.pay 0]))))):=by kernel_rfl
def mkLockSE:Ent:=(84,eM (sd (.sl 93)) fun p q=>(⟨shM,mkLockS p q⟩,true))
theorem mkLockS_ok:EntOk Tryz.prog mkLockSE:=eM_ok fun p q _=>mk_sound (L:=mkLockSL) (fs:=mkLockSf) (w:=4) (ks:=mkLockSK) mkLockST_ok (enters Tryz.func84) Tryz.func84 (fun N x0 x1 x2 x3=>mkLockSR N p q x0 x1 x2 x3) (fun N=>mkLockS_ev N p q)
theorem mkLockS_k {x q:D} (h0:0≤q.int) (h1:q.int+ctLockS x≤4611686018427387904):(gd (mkLockS [x] q) 0).int=q.int+ctLockS x:=mkAll_k (w:=4) (fs:=mkLockSf) (by decide) (by
 unfold mkLockSf
 exact ⟨(by decide:0<4),(by decide:1<4),(by decide:2<4),(by decide:3<4),trivial⟩) h0 h1
theorem bdLockS (z:D):ctLockS (cpLockS z)≤16*sizeLockS z:=bd_flat (f:=fun r=>cpLock (sub r 0 4)) (fun r=>by show 1+(1+(1+(1+(0))))≤16; omega) z
abbrev mkHeldST:FuncId→List T→Option (T × Bool):=find [mkWriteSE]
theorem mkHeldST_ok:CallOk Tryz.prog mkHeldST:=find_ok (fC ⟨mkWriteS_ok,fN⟩)
abbrev mkHeldSK:List Nat:= [0,1,4,5,9]
noncomputable def mkHeldSL (N:Nat) (p:List D) (q:D):List D→Out:=loopOfM Tryz.prog mkHeldST N mkHeldSK Tryz.f85 [⟨sd (.sl 75),p⟩,.c (.d si) q] 0
def mkHeldSf:List Fld:= [.i 0,.m 1 mkWriteS ctWriteS]
def mkHeldS (p:List D) (q:D):List D:=mkAll (rowF 2 mkHeldSf) (gd p 0) q
def ctHeldS (z:D):Nat:=total (cFs mkHeldSf) z.rows
theorem mkHeldSR (N:Nat) (p:List D) (q x0 x1 x2 x3:D):mkHeldSL N p q [x0,x1,x2,x3]=bif ltI x3.int (x0.rows.length:Int) then rnd 2 x3.int mkHeldSf x0.rows x1 (fun rows k=>nx [.l rows,k,x2,.i (w64 (x3.int+1))]) else ex 0 [x0,x1,x2,x3]:=by kernel_rfl
theorem mkHeldS_ev (N:Nat) (p:List D) (q:D):evFnM Tryz.prog mkHeldST N mkHeldSK Tryz.f85 [⟨sd (.sl 75),p⟩,.c (.d si) q]=some (bo,(let o0:=iter (mkHeldSL N p q) N [gd p 0,q,.i 0,.i 0]; nd o0.isSome (nd (o0.code==2) (some (1,[gd o0.pay 1,gd o0.pay 0]))))):=by kernel_rfl
def mkHeldSE:Ent:=(85,eM (sd (.sl 75)) fun p q=>(⟨shM,mkHeldS p q⟩,true))
theorem mkHeldS_ok:EntOk Tryz.prog mkHeldSE:=eM_ok fun p q _=>mk_sound (L:=mkHeldSL) (fs:=mkHeldSf) (w:=2) (ks:=mkHeldSK) mkHeldST_ok (enters Tryz.func85) Tryz.func85 (fun N x0 x1 x2 x3=>mkHeldSR N p q x0 x1 x2 x3) (fun N=>mkHeldS_ev N p q)
theorem mkHeldS_k {x q:D} (h0:0≤q.int) (h1:q.int+ctHeldS x≤4611686018427387904):(gd (mkHeldS [x] q) 0).int=q.int+ctHeldS x:=mkAll_k (w:=2) (fs:=mkHeldSf) (by decide) (by
 unfold mkHeldSf
 exact ⟨(by decide:0<2),⟨by decide,fun x q h0 h1=>mkWriteS_k h0 h1⟩,trivial⟩) h0 h1
theorem bdHeldS (z:D):ctHeldS (cpHeldS z)≤16*sizeHeldS z:=bd_deep (f:=fun r=>cpHeld (sub r 0 2)) (s:=fun r=>sizeHeld (sub r 0 2)) (fun r=>by
 show 1+(ctWriteS (cpWriteS (gd r 1))+(0))≤16+16*(sizeWriteS (gd r 1))
 have:=bdWriteS (gd r 1)
 omega) z
end Go.Proofs.YtpdfmcmnjikppaaGreat
namespace Go.Proofs.YtpdfmcmnjikppaaGreat
set_option maxRecDepth 4096
set_option maxHeartbeats 1000000
abbrev mkShardT:FuncId→List T→Option (T × Bool):=find [mkRangeSE,mkCellSE,mkLockSE,mkHeldSE,mkIntSE]
theorem mkShardT_ok:CallOk Tryz.prog mkShardT:=find_ok (fC ⟨mkRangeS_ok,fC ⟨mkCellS_ok,fC ⟨mkLockS_ok,fC ⟨mkHeldS_ok,fC ⟨mkIntS_ok,fN⟩⟩⟩⟩⟩)
abbrev mkShardK:List Nat:= [0,1,2,4]
def mkShard (p:List D) (q:D):List D:=
 let r1:=mkRangeS ([gd p 1]) q
 let r2:=mkRangeS ([gd p 2]) (gd r1 0)
 let r3:=mkCellS ([gd p 3]) (gd r2 0)
 let r4:=mkLockS ([gd p 4]) (gd r3 0)
 let r5:=mkHeldS ([gd p 5]) (gd r4 0)
 let r6:=mkIntS ([gd p 6]) (gd r5 0)
 let r7:=mkIntS ([gd p 7]) (gd r6 0)
 [gd r7 0,gd p 0,.l (gd r1 1).rows,.l (gd r2 1).rows,.l (gd r3 1).rows,.l (gd r4 1).rows,.l (gd r5 1).rows,.l (gd r6 1).rows,.l (gd r7 1).rows,gd p 8]
def ctShard (p:List D):Nat:=ctRangeS (gd p 1)+(ctRangeS (gd p 2)+(ctCellS (gd p 3)+(ctLockS (gd p 4)+(ctHeldS (gd p 5)+(ctIntS (gd p 6)+(ctIntS (gd p 7)))))))
theorem mkShard_ev (p:List D) (q:D):evFnM Tryz.prog mkShardT 0 mkShardK Tryz.f16 [⟨ag rIShard,p⟩,.c (.d si) q]=some (bo,some (1,mkShard p q)):=by kernel_rfl
def mkShardE:Ent:=(16,eM (ag rIShard) fun p q=>(⟨shM,mkShard p q⟩,true))
theorem mkShard_ok:EntOk Tryz.prog mkShardE:=eM_ok fun p q _=>evFnM_sound (N:=0) (ks:=mkShardK) (key:=bo) mkShardT_ok (enters Tryz.func16) Tryz.func16 fun hw=>mkShard_ev p q
theorem mkShard_k {p:List D} {q:D} (h0:0≤q.int) (h1:q.int+ctShard p≤4611686018427387904):(gd (mkShard p q) 0).int=q.int+ctShard p:=by
 unfold ctShard at h1 ⊢
 have e1:=mkRangeS_k (x:=gd p 1) (q:=q) (by omega) (by omega)
 have e2:=mkRangeS_k (x:=gd p 2) (q:=gd (mkRangeS [gd p 1] q) 0) (by omega) (by omega)
 have e3:=mkCellS_k (x:=gd p 3) (q:=gd (mkRangeS [gd p 2] (gd (mkRangeS [gd p 1] q) 0)) 0) (by omega) (by omega)
 have e4:=mkLockS_k (x:=gd p 4) (q:=gd (mkCellS [gd p 3] (gd (mkRangeS [gd p 2] (gd (mkRangeS [gd p 1] q) 0)) 0)) 0) (by omega) (by omega)
 have e5:=mkHeldS_k (x:=gd p 5) (q:=gd (mkLockS [gd p 4] (gd (mkCellS [gd p 3] (gd (mkRangeS [gd p 2] (gd (mkRangeS [gd p 1] q) 0)) 0)) 0)) 0) (by omega) (by omega)
 have e6:=mkIntS_k (x:=gd p 6) (q:=gd (mkHeldS [gd p 5] (gd (mkLockS [gd p 4] (gd (mkCellS [gd p 3] (gd (mkRangeS [gd p 2] (gd (mkRangeS [gd p 1] q) 0)) 0)) 0)) 0)) 0) (by omega) (by omega)
 have e7:=mkIntS_k (x:=gd p 7) (q:=gd (mkIntS [gd p 6] (gd (mkHeldS [gd p 5] (gd (mkLockS [gd p 4] (gd (mkCellS [gd p 3] (gd (mkRangeS [gd p 2] (gd (mkRangeS [gd p 1] q) 0)) 0)) 0)) 0)) 0)) 0) (by omega) (by omega)
 show (gd (mkIntS [gd p 7] (gd (mkIntS [gd p 6] (gd (mkHeldS [gd p 5] (gd (mkLockS [gd p 4] (gd (mkCellS [gd p 3] (gd (mkRangeS [gd p 2] (gd (mkRangeS [gd p 1] q) 0)) 0)) 0)) 0)) 0)) 0)) 0).int=_
 omega
theorem bdShard (p:List D):ctShard (cpShard p)≤16*sizeShard p:=by
 have:=bdRangeS (gd p 1)
 have:=bdRangeS (gd p 2)
 have:=bdCellS (gd p 3)
 have:=bdLockS (gd p 4)
 have:=bdHeldS (gd p 5)
 have:=bdIntS (gd p 6)
 have:=bdIntS (gd p 7)
 show ctRangeS (cpRangeS (gd p 1))+(ctRangeS (cpRangeS (gd p 2))+(ctCellS (cpCellS (gd p 3))+(ctLockS (cpLockS (gd p 4))+(ctHeldS (cpHeldS (gd p 5))+(ctIntS (cpIntS (gd p 6))+(ctIntS (cpIntS (gd p 7))))))))≤16*(sizeRangeS (gd p 1)+(sizeRangeS (gd p 2)+(sizeCellS (gd p 3)+(sizeLockS (gd p 4)+(sizeHeldS (gd p 5)+(sizeIntS (gd p 6)+(sizeIntS (gd p 7))))))))
 omega
end Go.Proofs.YtpdfmcmnjikppaaGreat
namespace Go.Proofs.YtpdfmcmnjikppaaGreat
inductive Fh where
 | i (off:Nat)
 | b (off:Nat)
 | m (off:Nat) (G:D→D→D)
def hrnd (i:Int) (rows:List (List D)):List Fh→D→(D→Out)→Out
 | [],k,K=>K k
 | .i off::fs,k,K=>nd (inRange i rows.length) (bif (gd (rows.getD i.toNat []) off).int != k.int then oi (-1) else hrnd i rows fs (.i (w64 (k.int+1))) K)
 | .b off::fs,k,K=>nd (inRange i rows.length) (bif !((gd (rows.getD i.toNat []) off).bool==(k.int.tmod 3==0)) then oi (-1) else hrnd i rows fs (.i (w64 (k.int+1))) K)
 | .m off G::fs,k,K=>nd (inRange i rows.length) (bif ltI (G (gd (rows.getD i.toNat []) off) k).int 0 then oi (-1) else hrnd i rows fs (G (gd (rows.getD i.toNat []) off) k) K)
def hdRow (r:List D):List Fh→D→Option D
 | [],k=>some k
 | .i off::fs,k=>bif (gd r off).int != k.int then none else hdRow r fs (.i (w64 (k.int+1)))
 | .b off::fs,k=>bif !((gd r off).bool==(k.int.tmod 3==0)) then none else hdRow r fs (.i (w64 (k.int+1)))
 | .m off G::fs,k=>bif ltI (G (gd r off) k).int 0 then none else hdRow r fs (G (gd r off) k)
theorem hrnd_eq {i:Nat} {rows:List (List D)} {K:D→Out} (hi:i<rows.length):∀ {fs:List Fh} {k:D},hrnd (i:Int) rows fs k K=(match hdRow (rows.getD i []) fs k with | some k'=>K k' | none=>oi (-1))
 | [],k=>rfl
 | .i off::fs,k=>by
  simp only [hrnd,hdRow,Int.toNat_natCast,nd_ix hi]
  cases ((gd (rows.getD i []) off).int != k.int)
  ·simp only [cond_false]; exact hrnd_eq hi
  ·rfl
 | .b off::fs,k=>by
  simp only [hrnd,hdRow,Int.toNat_natCast,nd_ix hi]
  cases (!((gd (rows.getD i []) off).bool==(k.int.tmod 3==0)))
  ·simp only [cond_false]; exact hrnd_eq hi
  ·rfl
 | .m off G::fs,k=>by
  simp only [hrnd,hdRow,Int.toNat_natCast,nd_ix hi]
  cases (ltI (G (gd (rows.getD i []) off) k).int 0)
  ·simp only [cond_false]; exact hrnd_eq hi
  ·rfl
def hdTo (fs:List Fh) (rows:List (List D)) (q:D):Nat→D
 | 0=>q
 | j+1=>(hdRow (rows.getD j []) fs (hdTo fs rows q j)).getD D0
def hdC (fs:List Fh) (rows:List (List D)) (q:D) (j:Nat):Bool:=(hdRow (rows.getD j []) fs (hdTo fs rows q j)).isSome
def hdAll (fs:List Fh) (z q:D):D:=bif (List.range z.rows.length).all (hdC fs z.rows q) then hdTo fs z.rows q z.rows.length else .i (-1)
theorem hd_sound {P:Program} {call:FuncId→List T→Option (T × Bool)} (hcall:CallOk P call) {ks:List Nat} {f:FuncId} {fn:Func} {e:TypeId} {p q:List D} {L:Nat→List D→List D→List D→Out} {fs:List Fh} (hen:∀ vs w,(callFunc f vs).run P w=.ok (.enter f vs) w) (hf:P.funcs[f]?=some fn)
  (hR:∀ N x0 x1 x2 x3,L N p q [x0,x1,x2,x3]=bif ltI x3.int (x0.rows.length:Int) then hrnd x3.int x0.rows fs x1 (fun k=>nx [x0,k,x2,.i (w64 (x3.int+1))]) else ex 0 [x0,x1,x2,x3])
  (hev:∀ N,evFn P call N ks fn ri [⟨.one (.c (.d (.sl e))),p⟩,⟨ri,q⟩]=some (bo,(let o0:=iter (L N p q) N [gd p 0,gd q 0,.i 0,.i 0]; nd o0.isSome (bif o0.code==1 then some (1,o0.pay) else nd (o0.code==2) (some (1,[gd o0.pay 1])))))) :
  SoundFn P f [⟨.one (.c (.d (.sl e))),p⟩,⟨ri,q⟩] ⟨ri,[hdAll fs (gd p 0) (gd q 0)]⟩:=by
 refine evFn_sound (N:=(gd p 0).rows.length+1) (ks:=ks) (key:=bo) hcall hen hf fun hw=>?_
 have hl:(gd p 0).rows.length≤9223372036854775807:=by
  have hw:WD P (.sl e) (gd p 0):=hw ⟨.one (.c (.d (.sl e))),p⟩ (by simp)
  cases hw with
  | sl _ _ _ _ h _=>exact h
 rw [hev]
 have e:=for_loop (L:=L ((gd p 0).rows.length+1) p q) (fun j => [gd p 0,hdTo fs (gd p 0).rows (gd q 0) j,.i 0,.i (j:Int)]) (gd p 0).rows.length (hdC fs (gd p 0).rows (gd q 0)) [.i (-1)] 0 (fun j hj=>?_) ?_ (N:=(gd p 0).rows.length+1) (by omega)
 ·simp only [Int.natCast_zero,Nat.zero_add] at e
  rw [show hdTo fs (gd p 0).rows (gd q 0) 0=gd q 0 from rfl] at e
  rw [e]
  unfold hdAll
  cases (List.range (gd p 0).rows.length).all (hdC fs (gd p 0).rows (gd q 0)) <;> rfl
 ·rw [hR]
  simp only [int_i,c_lt hj]
  rw [hrnd_eq hj,w64_succ hj hl]
  unfold hdC
  simp only [hdTo]
  cases hdRow ((gd p 0).rows.getD j []) fs (hdTo fs (gd p 0).rows (gd q 0) j) <;> rfl
 ·rw [hR]
  simp only [int_i,c_nlt]
def Fh.off:Fh→Nat
 | .i o=>o
 | .b o=>o
 | .m o _=>o
def pairF:Fld→Fh→Prop
 | .i o,.i o'=>o=o'
 | .b o,.b o'=>o=o'
 | .m o F c,.m o' G=>o=o'∧∀ x q:D,0≤q.int→q.int+c x≤4611686018427387904→G (gd (F [x] q) 1) q=gd (F [x] q) 0
 | _,_=>False
def pairFs:List Fld→List Fh→Prop
 | [],[]=>True
 | f::fs,h::hs=>pairF f h∧pairFs fs hs
 | _,_=>False
theorem pairFs.offs:∀ {fs:List Fld} {hs:List Fh},pairFs fs hs→hs.map Fh.off=fs.map Fld.off
 | [],[],_=>rfl
 | f::fs,h::hs,hp=>by
  have h1:h.off=f.off:=by
   have:=hp.1
   cases f <;> cases h <;> first | exact this.symm | exact this.1.symm | exact this.elim
  simp only [List.map_cons,h1,pairFs.offs hp.2]
 | [],_::_,hp=>hp.elim
 | _::_,[],hp=>hp.elim
theorem gd_rowF {w:Nat}:∀ {fs:List Fld} {r:List D} {k:D} {j:Nat},(∀ f∈fs,f.off≠j)→j<w→gd (rowF w fs r k).1 j=gd r j
 | [],r,k,j,_,_=>rfl
 | f::fs,r,k,j,h,hj=>by
  rw [rowF,gd_rowF (fun g hg=>h g (by simp [hg])) hj,gd_stF (h f (by simp)) hj]
theorem stF_at {w:Nat} {r:List D} {k:D}:∀ {f:Fld},f.off<w→gd (stF w f r k).1 f.off=(match f with | .i _=>k | .b _=>.b (k.int.tmod 3==0) | .m o F _=>gd (F [gd r o] k) 1):=by
 have key:∀ (o:Nat) (d:D),o<w→gd (setSub (sub r 0 w) o [d]) o=d:=fun o d ho=>by
  show gd ((sub r 0 w).set o d) o=d
  simp [gd,List.getD_eq_getElem?_getD,List.getElem?_set,sub_length,ho]
 intro f hf
 cases f with
 | i o=>exact key o _ hf
 | b o=>exact key o _ hf
 | m o F c=>exact key o _ hf
theorem held_row {w:Nat}:∀ {fs:List Fld} {hs:List Fh} {r:List D} {k:D},pairFs fs hs→apartF fs=true→FldsOk w fs→0≤k.int→k.int+cFs fs r≤4611686018427387904→hdRow (rowF w fs r k).1 hs k=some (rowF w fs r k).2
 | [],[],r,k,_,_,_,_,_=>rfl
 | [],_::_,_,_,hp,_,_,_,_=>hp.elim
 | _::_,[],_,_,hp,_,_,_,_=>hp.elim
 | f::fs,h::hs,r,k,hp,ha,hok,h0,h1=>by
  simp only [apartF,Bool.and_eq_true,List.all_eq_true] at ha
  simp only [cFs] at h1
  push_cast at h1
  have hc:cFs fs (stF w f r k).1=cFs fs r:=cFs_congr hok.2 fun g hg=>gd_stF (by simpa using ha.1 g hg) (hok.2.mem g hg).lt
  have hk:(stF w f r k).2.int=k.int+cF r f:=by
   cases f with
   | i o=>show w64 (k.int+1)=k.int+((1:Nat):Int); simp only [cF] at h1; rw [w64_id (by omega) (by omega)]; rfl
   | b o=>show w64 (k.int+1)=k.int+((1:Nat):Int); simp only [cF] at h1; rw [w64_id (by omega) (by omega)]; rfl
   | m o F c=>simp only [cF] at h1; exact hok.1.2 _ _ h0 (by omega)
  have ih:=held_row (r:=(stF w f r k).1) (k:=(stF w f r k).2) hp.2 ha.2 hok.2 (by omega) (by rw [hc]; omega)
  have hg:gd (rowF w fs (stF w f r k).1 (stF w f r k).2).1 f.off=gd (stF w f r k).1 f.off:=gd_rowF (fun g hg e=>by have:=ha.1 g hg; rw [e] at this; simp at this) hok.1.lt
  rw [stF_at hok.1.lt] at hg
  simp only [rowF]
  have hp1:=hp.1
  cases f with
  | i o =>
   cases h with
   | i o' =>
    have e:o=o':=hp1
    subst e
    simp only [Fld.off] at hg
    simp only [hdRow,hg,bne_self_eq_false,cond_false]
    exact ih
   | _=>exact hp1.elim
  | b o =>
   cases h with
   | b o' =>
    have e:o=o':=hp1
    subst e
    simp only [Fld.off] at hg
    simp only [hdRow,hg,bool_b,beq_self_eq_true,Bool.not_true,cond_false]
    exact ih
   | _=>exact hp1.elim
  | m o F c =>
   cases h with
   | m o' G =>
    obtain ⟨e,hG⟩:=hp1
    subst e
    simp only [Fld.off] at hg
    simp only [cF] at h1 hk
    have e1:=hG (gd r o) k h0 (by omega)
    simp only [hdRow,hg,e1]
    rw [show (gd (F [gd r o] k) 0)=(stF w (.m o F c) r k).2 from rfl,ltI_f (by omega),cond_false]
    exact ih
   | _=>exact hp1.elim
theorem held_all {w:Nat} {fs:List Fld} {hs:List Fh} {x q:D} (hp:pairFs fs hs) (ha:apartF fs=true) (hok:FldsOk w fs) (h0:0≤q.int) (h1:q.int+total (cFs fs) x.rows≤4611686018427387904):hdAll hs (gd (mkAll (rowF w fs) x q) 1) q=gd (mkAll (rowF w fs) x q) 0:=by
 show hdAll hs (mkZ (rowF w fs) x q x.rows.length) q=(mkTo (rowF w fs) x.rows q x.rows.length).2
 have hk:∀ j,j≤x.rows.length→(mkTo (rowF w fs) x.rows q j).2.int=q.int+total (cFs fs) (x.rows.take j):=by
  intro j
  induction j with
  | zero=>intro _; simp [mkTo,total]
  | succ j ih =>
   intro hj
   have ih:=ih (by omega)
   have ht:=total_take (f:=cFs fs) x.rows j (by omega)
   have hle:=total_take_le (f:=cFs fs) x.rows (j+1)
   simp only [mkTo]
   rw [mkTo_hi _ _ _ j j (Nat.le_refl _),rowF_k ha hok (by omega) (by omega),ih,ht]
   push_cast
   omega
 have hlo:∀ n j,j<n→n≤x.rows.length→(mkTo (rowF w fs) x.rows q n).1.getD j []=(rowF w fs (x.rows.getD j []) (mkTo (rowF w fs) x.rows q j).2).1:=by
  intro n
  induction n with
  | zero=>intro j hj; omega
  | succ n ih =>
   intro j hj hn
   simp only [mkTo]
   by_cases e:j=n
   ·subst e
    rw [getD_set_self (by rw [mkTo_len]; omega),mkTo_hi _ _ _ j j (Nat.le_refl _)]
   ·rw [← ih j (by omega) (by omega)]
    simp only [List.getD_eq_getElem?_getD,List.getElem?_set]
    rw [if_neg (by omega)]
 have hrow:∀ j,j<x.rows.length→hdRow ((mkTo (rowF w fs) x.rows q x.rows.length).1.getD j []) hs (mkTo (rowF w fs) x.rows q j).2=some (mkTo (rowF w fs) x.rows q (j+1)).2:=by
  intro j hj
  have ht:=total_take (f:=cFs fs) x.rows j (by omega)
  have hle:=total_take_le (f:=cFs fs) x.rows (j+1)
  have hkj:=hk j (by omega)
  rw [hlo _ j hj (Nat.le_refl _),held_row hp ha hok (by omega) (by omega)]
  simp only [mkTo]
  rw [mkTo_hi _ _ _ j j (Nat.le_refl _)]
 have hto:∀ j,j≤x.rows.length→hdTo hs (mkTo (rowF w fs) x.rows q x.rows.length).1 q j=(mkTo (rowF w fs) x.rows q j).2:=by
  intro j
  induction j with
  | zero=>intro _; rfl
  | succ j ih =>
   intro hj
   simp only [hdTo]
   rw [ih (by omega),hrow j (by omega)]
   rfl
 unfold hdAll
 rw [mkZ_rows,mkTo_len]
 have hall:(List.range x.rows.length).all (hdC hs (mkTo (rowF w fs) x.rows q x.rows.length).1 q)=true:=by
  rw [List.all_eq_true]
  intro j hj
  have hj:=List.mem_range.1 hj
  unfold hdC
  rw [hto j (by omega),hrow j hj]
  rfl
 rw [hall,cond_true,hto _ (Nat.le_refl _)]
theorem hd_bif (b:Bool) (x:D):(bif b then oi (-1) else some (1,[x]))=(some (1,[bif b then .i (-1) else x]):Out):=by cases b <;> rfl
end Go.Proofs.YtpdfmcmnjikppaaGreat
namespace Go.Proofs.YtpdfmcmnjikppaaGreat
set_option maxRecDepth 4096
set_option maxHeartbeats 1000000
abbrev hdIntST:FuncId→List T→Option (T × Bool):=find []
theorem hdIntST_ok:CallOk Tryz.prog hdIntST:=find_ok (fN)
abbrev hdIntSK:List Nat:= [0,1,4,5,9,17]
noncomputable def hdIntSL (N:Nat) (p q:List D):List D→Out:=loopOf Tryz.prog hdIntST N hdIntSK Tryz.f90 ri [⟨sd (.sl 3),p⟩,⟨ri,q⟩] 0
def hdIntSf:List Fh:= [.i 0]
def hdIntS (x q:D):D:=hdAll hdIntSf x q
theorem hdIntSR (N:Nat) (p q:List D) (x0 x1 x2 x3:D):hdIntSL N p q [x0,x1,x2,x3]=bif ltI x3.int (x0.rows.length:Int) then hrnd x3.int x0.rows hdIntSf x1 (fun k=>nx [x0,k,x2,.i (w64 (x3.int+1))]) else ex 0 [x0,x1,x2,x3]:=by kernel_rfl
theorem hdIntS_ev (N:Nat) (p q:List D):evFn Tryz.prog hdIntST N hdIntSK Tryz.f90 ri [⟨sd (.sl 3),p⟩,⟨ri,q⟩]=some (bo,(let o0:=iter (hdIntSL N p q) N [gd p 0,gd q 0,.i 0,.i 0]; nd o0.isSome (bif o0.code==1 then some (1,o0.pay) else nd (o0.code==2) (some (1,[gd o0.pay 1]))))):=by kernel_rfl
def hdIntSE:Ent:=(90,e2 (sd (.sl 3)) ri fun p q=>(⟨ri,[hdIntS (gd p 0) (gd q 0)]⟩,true))
theorem hdIntS_ok:EntOk Tryz.prog hdIntSE:=e2_ok fun p q _=>hd_sound (L:=hdIntSL) (fs:=hdIntSf) (ks:=hdIntSK) hdIntST_ok (enters Tryz.func90) Tryz.func90 (fun N x0 x1 x2 x3=>hdIntSR N p q x0 x1 x2 x3) (fun N=>hdIntS_ev N p q)
theorem heldIntS {x q:D} (h0:0≤q.int) (h1:q.int+ctIntS x≤4611686018427387904):hdIntS (gd (mkIntS [x] q) 1) q=gd (mkIntS [x] q) 0:=held_all (w:=1) (fs:=mkIntSf) (hs:=hdIntSf) (by
 unfold mkIntSf hdIntSf
 exact ⟨(rfl:0=0),trivial⟩) (by decide) (by
 unfold mkIntSf
 exact ⟨(by decide:0<1),trivial⟩) h0 h1
abbrev hdRangeST:FuncId→List T→Option (T × Bool):=find []
theorem hdRangeST_ok:CallOk Tryz.prog hdRangeST:=find_ok (fN)
abbrev hdRangeSK:List Nat:= [0,1,4,5,9,18,27]
noncomputable def hdRangeSL (N:Nat) (p q:List D):List D→Out:=loopOf Tryz.prog hdRangeST N hdRangeSK Tryz.f87 ri [⟨sd (.sl 41),p⟩,⟨ri,q⟩] 0
def hdRangeSf:List Fh:= [.i 0,.i 1]
def hdRangeS (x q:D):D:=hdAll hdRangeSf x q
theorem hdRangeSR (N:Nat) (p q:List D) (x0 x1 x2 x3:D):hdRangeSL N p q [x0,x1,x2,x3]=bif ltI x3.int (x0.rows.length:Int) then hrnd x3.int x0.rows hdRangeSf x1 (fun k=>nx [x0,k,x2,.i (w64 (x3.int+1))]) else ex 0 [x0,x1,x2,x3]:=by kernel_rfl
theorem hdRangeS_ev (N:Nat) (p q:List D):evFn Tryz.prog hdRangeST N hdRangeSK Tryz.f87 ri [⟨sd (.sl 41),p⟩,⟨ri,q⟩]=some (bo,(let o0:=iter (hdRangeSL N p q) N [gd p 0,gd q 0,.i 0,.i 0]; nd o0.isSome (bif o0.code==1 then some (1,o0.pay) else nd (o0.code==2) (some (1,[gd o0.pay 1]))))):=by kernel_rfl
def hdRangeSE:Ent:=(87,e2 (sd (.sl 41)) ri fun p q=>(⟨ri,[hdRangeS (gd p 0) (gd q 0)]⟩,true))
theorem hdRangeS_ok:EntOk Tryz.prog hdRangeSE:=e2_ok fun p q _=>hd_sound (L:=hdRangeSL) (fs:=hdRangeSf) (ks:=hdRangeSK) hdRangeST_ok (enters Tryz.func87) Tryz.func87 (fun N x0 x1 x2 x3=>hdRangeSR N p q x0 x1 x2 x3) (fun N=>hdRangeS_ev N p q)
theorem heldRangeS {x q:D} (h0:0≤q.int) (h1:q.int+ctRangeS x≤4611686018427387904):hdRangeS (gd (mkRangeS [x] q) 1) q=gd (mkRangeS [x] q) 0:=held_all (w:=2) (fs:=mkRangeSf) (hs:=hdRangeSf) (by
 unfold mkRangeSf hdRangeSf
 exact ⟨(rfl:0=0),(rfl:1=1),trivial⟩) (by decide) (by
 unfold mkRangeSf
 exact ⟨(by decide:0<2),(by decide:1<2),trivial⟩) h0 h1
abbrev hdCellST:FuncId→List T→Option (T × Bool):=find []
theorem hdCellST_ok:CallOk Tryz.prog hdCellST:=find_ok (fN)
abbrev hdCellSK:List Nat:= [0,1,4,5,9,18,27]
noncomputable def hdCellSL (N:Nat) (p q:List D):List D→Out:=loopOf Tryz.prog hdCellST N hdCellSK Tryz.f19 ri [⟨sd (.sl 108),p⟩,⟨ri,q⟩] 0
def hdCellSf:List Fh:= [.i 0,.i 1]
def hdCellS (x q:D):D:=hdAll hdCellSf x q
theorem hdCellSR (N:Nat) (p q:List D) (x0 x1 x2 x3:D):hdCellSL N p q [x0,x1,x2,x3]=bif ltI x3.int (x0.rows.length:Int) then hrnd x3.int x0.rows hdCellSf x1 (fun k=>nx [x0,k,x2,.i (w64 (x3.int+1))]) else ex 0 [x0,x1,x2,x3]:=by kernel_rfl
theorem hdCellS_ev (N:Nat) (p q:List D):evFn Tryz.prog hdCellST N hdCellSK Tryz.f19 ri [⟨sd (.sl 108),p⟩,⟨ri,q⟩]=some (bo,(let o0:=iter (hdCellSL N p q) N [gd p 0,gd q 0,.i 0,.i 0]; nd o0.isSome (bif o0.code==1 then some (1,o0.pay) else nd (o0.code==2) (some (1,[gd o0.pay 1]))))):=by kernel_rfl
def hdCellSE:Ent:=(19,e2 (sd (.sl 108)) ri fun p q=>(⟨ri,[hdCellS (gd p 0) (gd q 0)]⟩,true))
theorem hdCellS_ok:EntOk Tryz.prog hdCellSE:=e2_ok fun p q _=>hd_sound (L:=hdCellSL) (fs:=hdCellSf) (ks:=hdCellSK) hdCellST_ok (enters Tryz.func19) Tryz.func19 (fun N x0 x1 x2 x3=>hdCellSR N p q x0 x1 x2 x3) (fun N=>hdCellS_ev N p q)
theorem heldCellS {x q:D} (h0:0≤q.int) (h1:q.int+ctCellS x≤4611686018427387904):hdCellS (gd (mkCellS [x] q) 1) q=gd (mkCellS [x] q) 0:=held_all (w:=2) (fs:=mkCellSf) (hs:=hdCellSf) (by
 unfold mkCellSf hdCellSf
 exact ⟨(rfl:0=0),(rfl:1=1),trivial⟩) (by decide) (by
 unfold mkCellSf
 exact ⟨(by decide:0<2),(by decide:1<2),trivial⟩) h0 h1
abbrev hdWriteST:FuncId→List T→Option (T × Bool):=find []
theorem hdWriteST_ok:CallOk Tryz.prog hdWriteST:=find_ok (fN)
abbrev hdWriteSK:List Nat:= [0,1,4,5,9,18,27]
noncomputable def hdWriteSL (N:Nat) (p q:List D):List D→Out:=loopOf Tryz.prog hdWriteST N hdWriteSK Tryz.f198 ri [⟨sd (.sl 70),p⟩,⟨ri,q⟩] 0
def hdWriteSf:List Fh:= [.i 0,.i 1]
def hdWriteS (x q:D):D:=hdAll hdWriteSf x q
theorem hdWriteSR (N:Nat) (p q:List D) (x0 x1 x2 x3:D):hdWriteSL N p q [x0,x1,x2,x3]=bif ltI x3.int (x0.rows.length:Int) then hrnd x3.int x0.rows hdWriteSf x1 (fun k=>nx [x0,k,x2,.i (w64 (x3.int+1))]) else ex 0 [x0,x1,x2,x3]:=by kernel_rfl
theorem hdWriteS_ev (N:Nat) (p q:List D):evFn Tryz.prog hdWriteST N hdWriteSK Tryz.f198 ri [⟨sd (.sl 70),p⟩,⟨ri,q⟩]=some (bo,(let o0:=iter (hdWriteSL N p q) N [gd p 0,gd q 0,.i 0,.i 0]; nd o0.isSome (bif o0.code==1 then some (1,o0.pay) else nd (o0.code==2) (some (1,[gd o0.pay 1]))))):=by kernel_rfl
def hdWriteSE:Ent:=(198,e2 (sd (.sl 70)) ri fun p q=>(⟨ri,[hdWriteS (gd p 0) (gd q 0)]⟩,true))
theorem hdWriteS_ok:EntOk Tryz.prog hdWriteSE:=e2_ok fun p q _=>hd_sound (L:=hdWriteSL) (fs:=hdWriteSf) (ks:=hdWriteSK) hdWriteST_ok (enters Tryz.func198) Tryz.func198 (fun N x0 x1 x2 x3=>hdWriteSR N p q x0 x1 x2 x3) (fun N=>hdWriteS_ev N p q)
theorem heldWriteS {x q:D} (h0:0≤q.int) (h1:q.int+ctWriteS x≤4611686018427387904):hdWriteS (gd (mkWriteS [x] q) 1) q=gd (mkWriteS [x] q) 0:=held_all (w:=2) (fs:=mkWriteSf) (hs:=hdWriteSf) (by
 unfold mkWriteSf hdWriteSf
 exact ⟨(rfl:0=0),(rfl:1=1),trivial⟩) (by decide) (by
 unfold mkWriteSf
 exact ⟨(by decide:0<2),(by decide:1<2),trivial⟩) h0 h1
abbrev hdLockST:FuncId→List T→Option (T × Bool):=find []
theorem hdLockST_ok:CallOk Tryz.prog hdLockST:=find_ok (fN)
abbrev hdLockSK:List Nat:= [0,1,4,5,9,18,27,36,45]
noncomputable def hdLockSL (N:Nat) (p q:List D):List D→Out:=loopOf Tryz.prog hdLockST N hdLockSK Tryz.f88 ri [⟨sd (.sl 93),p⟩,⟨ri,q⟩] 0
def hdLockSf:List Fh:= [.i 0,.i 1,.i 2,.i 3]
def hdLockS (x q:D):D:=hdAll hdLockSf x q
theorem hdLockSR (N:Nat) (p q:List D) (x0 x1 x2 x3:D):hdLockSL N p q [x0,x1,x2,x3]=bif ltI x3.int (x0.rows.length:Int) then hrnd x3.int x0.rows hdLockSf x1 (fun k=>nx [x0,k,x2,.i (w64 (x3.int+1))]) else ex 0 [x0,x1,x2,x3]:=by kernel_rfl
theorem hdLockS_ev (N:Nat) (p q:List D):evFn Tryz.prog hdLockST N hdLockSK Tryz.f88 ri [⟨sd (.sl 93),p⟩,⟨ri,q⟩]=some (bo,(let o0:=iter (hdLockSL N p q) N [gd p 0,gd q 0,.i 0,.i 0]; nd o0.isSome (bif o0.code==1 then some (1,o0.pay) else nd (o0.code==2) (some (1,[gd o0.pay 1]))))):=by kernel_rfl
def hdLockSE:Ent:=(88,e2 (sd (.sl 93)) ri fun p q=>(⟨ri,[hdLockS (gd p 0) (gd q 0)]⟩,true))
theorem hdLockS_ok:EntOk Tryz.prog hdLockSE:=e2_ok fun p q _=>hd_sound (L:=hdLockSL) (fs:=hdLockSf) (ks:=hdLockSK) hdLockST_ok (enters Tryz.func88) Tryz.func88 (fun N x0 x1 x2 x3=>hdLockSR N p q x0 x1 x2 x3) (fun N=>hdLockS_ev N p q)
theorem heldLockS {x q:D} (h0:0≤q.int) (h1:q.int+ctLockS x≤4611686018427387904):hdLockS (gd (mkLockS [x] q) 1) q=gd (mkLockS [x] q) 0:=held_all (w:=4) (fs:=mkLockSf) (hs:=hdLockSf) (by
 unfold mkLockSf hdLockSf
 exact ⟨(rfl:0=0),(rfl:1=1),(rfl:2=2),(rfl:3=3),trivial⟩) (by decide) (by
 unfold mkLockSf
 exact ⟨(by decide:0<4),(by decide:1<4),(by decide:2<4),(by decide:3<4),trivial⟩) h0 h1
abbrev hdHeldST:FuncId→List T→Option (T × Bool):=find [hdWriteSE]
theorem hdHeldST_ok:CallOk Tryz.prog hdHeldST:=find_ok (fC ⟨hdWriteS_ok,fN⟩)
abbrev hdHeldSK:List Nat:= [0,1,4,5,9,18,29]
noncomputable def hdHeldSL (N:Nat) (p q:List D):List D→Out:=loopOf Tryz.prog hdHeldST N hdHeldSK Tryz.f89 ri [⟨sd (.sl 75),p⟩,⟨ri,q⟩] 0
def hdHeldSf:List Fh:= [.i 0,.m 1 hdWriteS]
def hdHeldS (x q:D):D:=hdAll hdHeldSf x q
theorem hdHeldSR (N:Nat) (p q:List D) (x0 x1 x2 x3:D):hdHeldSL N p q [x0,x1,x2,x3]=bif ltI x3.int (x0.rows.length:Int) then hrnd x3.int x0.rows hdHeldSf x1 (fun k=>nx [x0,k,x2,.i (w64 (x3.int+1))]) else ex 0 [x0,x1,x2,x3]:=by kernel_rfl
theorem hdHeldS_ev (N:Nat) (p q:List D):evFn Tryz.prog hdHeldST N hdHeldSK Tryz.f89 ri [⟨sd (.sl 75),p⟩,⟨ri,q⟩]=some (bo,(let o0:=iter (hdHeldSL N p q) N [gd p 0,gd q 0,.i 0,.i 0]; nd o0.isSome (bif o0.code==1 then some (1,o0.pay) else nd (o0.code==2) (some (1,[gd o0.pay 1]))))):=by kernel_rfl
def hdHeldSE:Ent:=(89,e2 (sd (.sl 75)) ri fun p q=>(⟨ri,[hdHeldS (gd p 0) (gd q 0)]⟩,true))
theorem hdHeldS_ok:EntOk Tryz.prog hdHeldSE:=e2_ok fun p q _=>hd_sound (L:=hdHeldSL) (fs:=hdHeldSf) (ks:=hdHeldSK) hdHeldST_ok (enters Tryz.func89) Tryz.func89 (fun N x0 x1 x2 x3=>hdHeldSR N p q x0 x1 x2 x3) (fun N=>hdHeldS_ev N p q)
theorem heldHeldS {x q:D} (h0:0≤q.int) (h1:q.int+ctHeldS x≤4611686018427387904):hdHeldS (gd (mkHeldS [x] q) 1) q=gd (mkHeldS [x] q) 0:=held_all (w:=2) (fs:=mkHeldSf) (hs:=hdHeldSf) (by
 unfold mkHeldSf hdHeldSf
 exact ⟨(rfl:0=0),⟨rfl,fun x q h0 h1=>heldWriteS h0 h1⟩,trivial⟩) (by decide) (by
 unfold mkHeldSf
 exact ⟨(by decide:0<2),⟨by decide,fun x q h0 h1=>mkWriteS_k h0 h1⟩,trivial⟩) h0 h1
end Go.Proofs.YtpdfmcmnjikppaaGreat
namespace Go.Proofs.YtpdfmcmnjikppaaGreat
set_option maxRecDepth 4096
set_option maxHeartbeats 1000000
abbrev hdShardT:FuncId→List T→Option (T × Bool):=find [hdRangeSE,hdCellSE,hdLockSE,hdHeldSE,hdIntSE]
theorem hdShardT_ok:CallOk Tryz.prog hdShardT:=find_ok (fC ⟨hdRangeS_ok,fC ⟨hdCellS_ok,fC ⟨hdLockS_ok,fC ⟨hdHeldS_ok,fC ⟨hdIntS_ok,fN⟩⟩⟩⟩⟩)
abbrev hdShardK:List Nat:= [0,1,2,4,10,16,22,28,34,40,46]
def hdShard (p:List D) (q:D):D:=bif ltI (hdRangeS (gd p 1) q).int 0 then .i (-1) else bif ltI (hdRangeS (gd p 2) (hdRangeS (gd p 1) q)).int 0 then .i (-1) else bif ltI (hdCellS (gd p 3) (hdRangeS (gd p 2) (hdRangeS (gd p 1) q))).int 0 then .i (-1) else bif ltI (hdLockS (gd p 4) (hdCellS (gd p 3) (hdRangeS (gd p 2) (hdRangeS (gd p 1) q)))).int 0 then .i (-1) else bif ltI (hdHeldS (gd p 5) (hdLockS (gd p 4) (hdCellS (gd p 3) (hdRangeS (gd p 2) (hdRangeS (gd p 1) q))))).int 0 then .i (-1) else bif ltI (hdIntS (gd p 6) (hdHeldS (gd p 5) (hdLockS (gd p 4) (hdCellS (gd p 3) (hdRangeS (gd p 2) (hdRangeS (gd p 1) q)))))).int 0 then .i (-1) else bif ltI (hdIntS (gd p 7) (hdIntS (gd p 6) (hdHeldS (gd p 5) (hdLockS (gd p 4) (hdCellS (gd p 3) (hdRangeS (gd p 2) (hdRangeS (gd p 1) q))))))).int 0 then .i (-1) else (hdIntS (gd p 7) (hdIntS (gd p 6) (hdHeldS (gd p 5) (hdLockS (gd p 4) (hdCellS (gd p 3) (hdRangeS (gd p 2) (hdRangeS (gd p 1) q)))))))
theorem hdShard_ev (p q:List D):evFn Tryz.prog hdShardT 0 hdShardK Tryz.f18 ri [⟨ag rIShard,p⟩,⟨ri,q⟩]=some (bo,bif ltI (hdRangeS (gd p 1) (gd q 0)).int 0 then oi (-1) else bif ltI (hdRangeS (gd p 2) (hdRangeS (gd p 1) (gd q 0))).int 0 then oi (-1) else bif ltI (hdCellS (gd p 3) (hdRangeS (gd p 2) (hdRangeS (gd p 1) (gd q 0)))).int 0 then oi (-1) else bif ltI (hdLockS (gd p 4) (hdCellS (gd p 3) (hdRangeS (gd p 2) (hdRangeS (gd p 1) (gd q 0))))).int 0 then oi (-1) else bif ltI (hdHeldS (gd p 5) (hdLockS (gd p 4) (hdCellS (gd p 3) (hdRangeS (gd p 2) (hdRangeS (gd p 1) (gd q 0)))))).int 0 then oi (-1) else bif ltI (hdIntS (gd p 6) (hdHeldS (gd p 5) (hdLockS (gd p 4) (hdCellS (gd p 3) (hdRangeS (gd p 2) (hdRangeS (gd p 1) (gd q 0))))))).int 0 then oi (-1) else bif ltI (hdIntS (gd p 7) (hdIntS (gd p 6) (hdHeldS (gd p 5) (hdLockS (gd p 4) (hdCellS (gd p 3) (hdRangeS (gd p 2) (hdRangeS (gd p 1) (gd q 0)))))))).int 0 then oi (-1) else some (1,[(hdIntS (gd p 7) (hdIntS (gd p 6) (hdHeldS (gd p 5) (hdLockS (gd p 4) (hdCellS (gd p 3) (hdRangeS (gd p 2) (hdRangeS (gd p 1) (gd q 0))))))))])):=by kernel_rfl
def hdShardE:Ent:=(18,e2 (ag rIShard) ri fun p q=>(⟨ri,[hdShard p (gd q 0)]⟩,true))
theorem hdShard_ok:EntOk Tryz.prog hdShardE:=e2_ok fun p q _=>evFn_sound (N:=0) (ks:=hdShardK) (key:=bo) hdShardT_ok (enters Tryz.func18) Tryz.func18 fun hw=>by
 rw [hdShard_ev]
 unfold hdShard
 simp only [hd_bif]
theorem heldShard {p:List D} {q:D} (h0:0≤q.int) (h1:q.int+ctShard p≤4611686018427387904):hdShard (sub (mkShard p q) 1 9) q=gd (mkShard p q) 0:=by
 unfold ctShard at h1
 have e1:=mkRangeS_k (x:=gd p 1) (q:=q) (by omega) (by omega)
 have e2:=mkRangeS_k (x:=gd p 2) (q:=(gd (mkRangeS [gd p 1] q) 0)) (by omega) (by omega)
 have e3:=mkCellS_k (x:=gd p 3) (q:=(gd (mkRangeS [gd p 2] (gd (mkRangeS [gd p 1] q) 0)) 0)) (by omega) (by omega)
 have e4:=mkLockS_k (x:=gd p 4) (q:=(gd (mkCellS [gd p 3] (gd (mkRangeS [gd p 2] (gd (mkRangeS [gd p 1] q) 0)) 0)) 0)) (by omega) (by omega)
 have e5:=mkHeldS_k (x:=gd p 5) (q:=(gd (mkLockS [gd p 4] (gd (mkCellS [gd p 3] (gd (mkRangeS [gd p 2] (gd (mkRangeS [gd p 1] q) 0)) 0)) 0)) 0)) (by omega) (by omega)
 have e6:=mkIntS_k (x:=gd p 6) (q:=(gd (mkHeldS [gd p 5] (gd (mkLockS [gd p 4] (gd (mkCellS [gd p 3] (gd (mkRangeS [gd p 2] (gd (mkRangeS [gd p 1] q) 0)) 0)) 0)) 0)) 0)) (by omega) (by omega)
 have e7:=mkIntS_k (x:=gd p 7) (q:=(gd (mkIntS [gd p 6] (gd (mkHeldS [gd p 5] (gd (mkLockS [gd p 4] (gd (mkCellS [gd p 3] (gd (mkRangeS [gd p 2] (gd (mkRangeS [gd p 1] q) 0)) 0)) 0)) 0)) 0)) 0)) (by omega) (by omega)
 have f1:hdRangeS (.l (gd (mkRangeS [gd p 1] q) 1).rows) q=gd (mkRangeS [gd p 1] q) 0:=heldRangeS (by omega) (by omega)
 have f2:hdRangeS (.l (gd (mkRangeS [gd p 2] (gd (mkRangeS [gd p 1] q) 0)) 1).rows) (gd (mkRangeS [gd p 1] q) 0)=gd (mkRangeS [gd p 2] (gd (mkRangeS [gd p 1] q) 0)) 0:=heldRangeS (by omega) (by omega)
 have f3:hdCellS (.l (gd (mkCellS [gd p 3] (gd (mkRangeS [gd p 2] (gd (mkRangeS [gd p 1] q) 0)) 0)) 1).rows) (gd (mkRangeS [gd p 2] (gd (mkRangeS [gd p 1] q) 0)) 0)=gd (mkCellS [gd p 3] (gd (mkRangeS [gd p 2] (gd (mkRangeS [gd p 1] q) 0)) 0)) 0:=heldCellS (by omega) (by omega)
 have f4:hdLockS (.l (gd (mkLockS [gd p 4] (gd (mkCellS [gd p 3] (gd (mkRangeS [gd p 2] (gd (mkRangeS [gd p 1] q) 0)) 0)) 0)) 1).rows) (gd (mkCellS [gd p 3] (gd (mkRangeS [gd p 2] (gd (mkRangeS [gd p 1] q) 0)) 0)) 0)=gd (mkLockS [gd p 4] (gd (mkCellS [gd p 3] (gd (mkRangeS [gd p 2] (gd (mkRangeS [gd p 1] q) 0)) 0)) 0)) 0:=heldLockS (by omega) (by omega)
 have f5:hdHeldS (.l (gd (mkHeldS [gd p 5] (gd (mkLockS [gd p 4] (gd (mkCellS [gd p 3] (gd (mkRangeS [gd p 2] (gd (mkRangeS [gd p 1] q) 0)) 0)) 0)) 0)) 1).rows) (gd (mkLockS [gd p 4] (gd (mkCellS [gd p 3] (gd (mkRangeS [gd p 2] (gd (mkRangeS [gd p 1] q) 0)) 0)) 0)) 0)=gd (mkHeldS [gd p 5] (gd (mkLockS [gd p 4] (gd (mkCellS [gd p 3] (gd (mkRangeS [gd p 2] (gd (mkRangeS [gd p 1] q) 0)) 0)) 0)) 0)) 0:=heldHeldS (by omega) (by omega)
 have f6:hdIntS (.l (gd (mkIntS [gd p 6] (gd (mkHeldS [gd p 5] (gd (mkLockS [gd p 4] (gd (mkCellS [gd p 3] (gd (mkRangeS [gd p 2] (gd (mkRangeS [gd p 1] q) 0)) 0)) 0)) 0)) 0)) 1).rows) (gd (mkHeldS [gd p 5] (gd (mkLockS [gd p 4] (gd (mkCellS [gd p 3] (gd (mkRangeS [gd p 2] (gd (mkRangeS [gd p 1] q) 0)) 0)) 0)) 0)) 0)=gd (mkIntS [gd p 6] (gd (mkHeldS [gd p 5] (gd (mkLockS [gd p 4] (gd (mkCellS [gd p 3] (gd (mkRangeS [gd p 2] (gd (mkRangeS [gd p 1] q) 0)) 0)) 0)) 0)) 0)) 0:=heldIntS (by omega) (by omega)
 have f7:hdIntS (.l (gd (mkIntS [gd p 7] (gd (mkIntS [gd p 6] (gd (mkHeldS [gd p 5] (gd (mkLockS [gd p 4] (gd (mkCellS [gd p 3] (gd (mkRangeS [gd p 2] (gd (mkRangeS [gd p 1] q) 0)) 0)) 0)) 0)) 0)) 0)) 1).rows) (gd (mkIntS [gd p 6] (gd (mkHeldS [gd p 5] (gd (mkLockS [gd p 4] (gd (mkCellS [gd p 3] (gd (mkRangeS [gd p 2] (gd (mkRangeS [gd p 1] q) 0)) 0)) 0)) 0)) 0)) 0)=gd (mkIntS [gd p 7] (gd (mkIntS [gd p 6] (gd (mkHeldS [gd p 5] (gd (mkLockS [gd p 4] (gd (mkCellS [gd p 3] (gd (mkRangeS [gd p 2] (gd (mkRangeS [gd p 1] q) 0)) 0)) 0)) 0)) 0)) 0)) 0:=heldIntS (by omega) (by omega)
 show (bif ltI (hdRangeS (.l (gd (mkRangeS [gd p 1] q) 1).rows) q).int 0 then D.i (-1) else bif ltI (hdRangeS (.l (gd (mkRangeS [gd p 2] (gd (mkRangeS [gd p 1] q) 0)) 1).rows) (hdRangeS (.l (gd (mkRangeS [gd p 1] q) 1).rows) q)).int 0 then D.i (-1) else bif ltI (hdCellS (.l (gd (mkCellS [gd p 3] (gd (mkRangeS [gd p 2] (gd (mkRangeS [gd p 1] q) 0)) 0)) 1).rows) (hdRangeS (.l (gd (mkRangeS [gd p 2] (gd (mkRangeS [gd p 1] q) 0)) 1).rows) (hdRangeS (.l (gd (mkRangeS [gd p 1] q) 1).rows) q))).int 0 then D.i (-1) else bif ltI (hdLockS (.l (gd (mkLockS [gd p 4] (gd (mkCellS [gd p 3] (gd (mkRangeS [gd p 2] (gd (mkRangeS [gd p 1] q) 0)) 0)) 0)) 1).rows) (hdCellS (.l (gd (mkCellS [gd p 3] (gd (mkRangeS [gd p 2] (gd (mkRangeS [gd p 1] q) 0)) 0)) 1).rows) (hdRangeS (.l (gd (mkRangeS [gd p 2] (gd (mkRangeS [gd p 1] q) 0)) 1).rows) (hdRangeS (.l (gd (mkRangeS [gd p 1] q) 1).rows) q)))).int 0 then D.i (-1) else bif ltI (hdHeldS (.l (gd (mkHeldS [gd p 5] (gd (mkLockS [gd p 4] (gd (mkCellS [gd p 3] (gd (mkRangeS [gd p 2] (gd (mkRangeS [gd p 1] q) 0)) 0)) 0)) 0)) 1).rows) (hdLockS (.l (gd (mkLockS [gd p 4] (gd (mkCellS [gd p 3] (gd (mkRangeS [gd p 2] (gd (mkRangeS [gd p 1] q) 0)) 0)) 0)) 1).rows) (hdCellS (.l (gd (mkCellS [gd p 3] (gd (mkRangeS [gd p 2] (gd (mkRangeS [gd p 1] q) 0)) 0)) 1).rows) (hdRangeS (.l (gd (mkRangeS [gd p 2] (gd (mkRangeS [gd p 1] q) 0)) 1).rows) (hdRangeS (.l (gd (mkRangeS [gd p 1] q) 1).rows) q))))).int 0 then D.i (-1) else bif ltI (hdIntS (.l (gd (mkIntS [gd p 6] (gd (mkHeldS [gd p 5] (gd (mkLockS [gd p 4] (gd (mkCellS [gd p 3] (gd (mkRangeS [gd p 2] (gd (mkRangeS [gd p 1] q) 0)) 0)) 0)) 0)) 0)) 1).rows) (hdHeldS (.l (gd (mkHeldS [gd p 5] (gd (mkLockS [gd p 4] (gd (mkCellS [gd p 3] (gd (mkRangeS [gd p 2] (gd (mkRangeS [gd p 1] q) 0)) 0)) 0)) 0)) 1).rows) (hdLockS (.l (gd (mkLockS [gd p 4] (gd (mkCellS [gd p 3] (gd (mkRangeS [gd p 2] (gd (mkRangeS [gd p 1] q) 0)) 0)) 0)) 1).rows) (hdCellS (.l (gd (mkCellS [gd p 3] (gd (mkRangeS [gd p 2] (gd (mkRangeS [gd p 1] q) 0)) 0)) 1).rows) (hdRangeS (.l (gd (mkRangeS [gd p 2] (gd (mkRangeS [gd p 1] q) 0)) 1).rows) (hdRangeS (.l (gd (mkRangeS [gd p 1] q) 1).rows) q)))))).int 0 then D.i (-1) else bif ltI (hdIntS (.l (gd (mkIntS [gd p 7] (gd (mkIntS [gd p 6] (gd (mkHeldS [gd p 5] (gd (mkLockS [gd p 4] (gd (mkCellS [gd p 3] (gd (mkRangeS [gd p 2] (gd (mkRangeS [gd p 1] q) 0)) 0)) 0)) 0)) 0)) 0)) 1).rows) (hdIntS (.l (gd (mkIntS [gd p 6] (gd (mkHeldS [gd p 5] (gd (mkLockS [gd p 4] (gd (mkCellS [gd p 3] (gd (mkRangeS [gd p 2] (gd (mkRangeS [gd p 1] q) 0)) 0)) 0)) 0)) 0)) 1).rows) (hdHeldS (.l (gd (mkHeldS [gd p 5] (gd (mkLockS [gd p 4] (gd (mkCellS [gd p 3] (gd (mkRangeS [gd p 2] (gd (mkRangeS [gd p 1] q) 0)) 0)) 0)) 0)) 1).rows) (hdLockS (.l (gd (mkLockS [gd p 4] (gd (mkCellS [gd p 3] (gd (mkRangeS [gd p 2] (gd (mkRangeS [gd p 1] q) 0)) 0)) 0)) 1).rows) (hdCellS (.l (gd (mkCellS [gd p 3] (gd (mkRangeS [gd p 2] (gd (mkRangeS [gd p 1] q) 0)) 0)) 1).rows) (hdRangeS (.l (gd (mkRangeS [gd p 2] (gd (mkRangeS [gd p 1] q) 0)) 1).rows) (hdRangeS (.l (gd (mkRangeS [gd p 1] q) 1).rows) q))))))).int 0 then D.i (-1) else (hdIntS (.l (gd (mkIntS [gd p 7] (gd (mkIntS [gd p 6] (gd (mkHeldS [gd p 5] (gd (mkLockS [gd p 4] (gd (mkCellS [gd p 3] (gd (mkRangeS [gd p 2] (gd (mkRangeS [gd p 1] q) 0)) 0)) 0)) 0)) 0)) 0)) 1).rows) (hdIntS (.l (gd (mkIntS [gd p 6] (gd (mkHeldS [gd p 5] (gd (mkLockS [gd p 4] (gd (mkCellS [gd p 3] (gd (mkRangeS [gd p 2] (gd (mkRangeS [gd p 1] q) 0)) 0)) 0)) 0)) 0)) 1).rows) (hdHeldS (.l (gd (mkHeldS [gd p 5] (gd (mkLockS [gd p 4] (gd (mkCellS [gd p 3] (gd (mkRangeS [gd p 2] (gd (mkRangeS [gd p 1] q) 0)) 0)) 0)) 0)) 1).rows) (hdLockS (.l (gd (mkLockS [gd p 4] (gd (mkCellS [gd p 3] (gd (mkRangeS [gd p 2] (gd (mkRangeS [gd p 1] q) 0)) 0)) 0)) 1).rows) (hdCellS (.l (gd (mkCellS [gd p 3] (gd (mkRangeS [gd p 2] (gd (mkRangeS [gd p 1] q) 0)) 0)) 1).rows) (hdRangeS (.l (gd (mkRangeS [gd p 2] (gd (mkRangeS [gd p 1] q) 0)) 1).rows) (hdRangeS (.l (gd (mkRangeS [gd p 1] q) 1).rows) q))))))))=(gd (mkIntS [gd p 7] (gd (mkIntS [gd p 6] (gd (mkHeldS [gd p 5] (gd (mkLockS [gd p 4] (gd (mkCellS [gd p 3] (gd (mkRangeS [gd p 2] (gd (mkRangeS [gd p 1] q) 0)) 0)) 0)) 0)) 0)) 0)) 0)
 rw [f1,ltI_f (show 0≤_ by omega),cond_false,f2,ltI_f (show 0≤_ by omega),cond_false,f3,ltI_f (show 0≤_ by omega),cond_false,f4,ltI_f (show 0≤_ by omega),cond_false,f5,ltI_f (show 0≤_ by omega),cond_false,f6,ltI_f (show 0≤_ by omega),cond_false,f7,ltI_f (show 0≤_ by omega),cond_false]
end Go.Proofs.YtpdfmcmnjikppaaGreat
namespace Go.Proofs.YtpdfmcmnjikppaaGreat
open Go.RowKit Go.Lib
theorem dup_helds (p:List D):gd (sub (dupShard p) 0 9) 5=.l ((gd p 5).rows.map fun r => [gd r 0,.l (gd r 1).rows]):=by
 show D.l (kpL (fun _=>true) (fun k => [gd ((gd p 5).rows.getD k []) 0,.l (gd ((gd p 5).rows.getD k []) 1).rows]) (gd p 5).rows.length)=_
 rw [kpL_rows (gd p 5).rows (fun _=>true) (fun r => [gd r 0,.l (gd r 1).rows]),List.filter_eq_self.2 (fun _ _=>rfl)]
end Go.Proofs.YtpdfmcmnjikppaaGreat
namespace Go.Proofs.YtpdfmcmnjikppaaGreat
open Go.RowKit Go.Lib
theorem total_leS {f:List D→Nat} {c:Nat}:∀ {l:List (List D)},(∀ r∈l,f r≤c)→total f l≤c*l.length
 | [],_=>Nat.zero_le _
 | r::l,h=>by
  have h1:=h r (by simp)
  have h2:=total_leS (l:=l) fun x hx=>h x (by simp [hx])
  have e:total f (r::l)=f r+total f l:=by simp [total]
  rw [e,List.length_cons,Nat.mul_add]
  omega
theorem ctRange_n (x:D):ctRangeS x≤2*x.rows.length:=total_leS fun r _=>Nat.le_refl 2
theorem ctCell_n (x:D):ctCellS x≤2*x.rows.length:=total_leS fun r _=>Nat.le_refl 2
theorem ctLock_n (x:D):ctLockS x≤4*x.rows.length:=total_leS fun r _=>Nat.le_refl 4
theorem ctInt_n (x:D):ctIntS x≤1*x.rows.length:=total_leS fun r _=>Nat.le_refl 1
theorem ctWrite_n (x:D):ctWriteS x≤2*x.rows.length:=total_leS fun r _=>Nat.le_refl 2
theorem ctHeld_n (x:D) (h:∀ r∈x.rows,(gd r 1).rows.length≤60):ctHeldS x≤121*x.rows.length:=total_leS fun r hr=>by
 have h1:=ctWrite_n (gd r 1)
 have h2:=h r hr
 show 1+(ctWriteS (gd r 1)+0)≤121
 omega
theorem held_writes {p:List D} (h:shardOk p=true):∀ r∈(gd p 5).rows,(gd r 1).rows.length≤60:=by
 simp only [shardOk,shardSum,heldsOkS,Bool.and_eq_true,leI,decide_eq_true_eq,List.all_eq_true,List.mem_range] at h
 obtain ⟨_,_,_,_,_,_,_,_,h7,_,_,_,_,_,_,hw,_⟩:=h
 intro r hr
 obtain ⟨k,hk,rfl⟩:=List.getElem_of_mem hr
 have hr:heldRest p k=true:=by
  have:=hw k hk
  cases k with
  | zero=>simp only [heldAtS,Bool.and_eq_true] at this; exact this.2
  | succ k=>simp only [heldAtS,Bool.and_eq_true] at this; exact this.2.2
 simp only [heldRest,Bool.and_eq_true] at hr
 rw [← getD_row hk]
 exact writes_len hr.1
theorem dup_ct {p:List D} (h:shardOk p=true):(gd p 1).rows.length≤16∧(gd p 2).rows.length≤16∧(gd p 3).rows.length≤60∧(gd p 4).rows.length≤40∧ctHeldS (gd (sub (dupShard p) 0 9) 5)≤7260∧(gd p 6).rows.length≤60∧(gd p 7).rows.length≤60:=by
 obtain ⟨_,h4,h5,h6,_,h3,h1,h2⟩:=shard_lens h
 have hw:=held_writes h
 have h7:(gd p 7).rows.length≤60:=by
  simp only [shardOk,Bool.and_eq_true,leI,decide_eq_true_eq] at h
  have:=h.2.2.2.2.2.2.2.2.1
  omega
 simp only [rangesOk,storeOk,Bool.and_eq_true,leI,decide_eq_true_eq] at h1 h2 h3
 have k1:=h1.2
 have k2:=h2.2
 have k3:=h3.2
 refine ⟨by omega,by omega,by omega,h4,?_,h6,h7⟩
 rw [dup_helds]
 have:=ctHeld_n (.l ((gd p 5).rows.map fun r => [gd r 0,.l (gd r 1).rows])) (fun r hr=>by
  obtain ⟨x,hx,rfl⟩:=List.mem_map.1 hr
  exact hw x hx)
 have e:(D.l ((gd p 5).rows.map fun r => [gd r 0,.l (gd r 1).rows])).rows.length=(gd p 5).rows.length:=List.length_map ..
 rw [e] at this
 omega
theorem dupShard_ct {p:List D} (h:shardOk p=true):ctShard (sub (dupShard p) 0 9)≤20000:=by
 obtain ⟨h1,h2,h3,h4,h5,h6,h7⟩:=dup_ct h
 have c1:=ctRange_n (.l (gd p 1).rows)
 have c2:=ctRange_n (.l (gd p 2).rows)
 have c3:=ctCell_n (.l (gd p 3).rows)
 have c4:=ctLock_n (.l (gd p 4).rows)
 have c6:=ctInt_n (.l (gd p 6).rows)
 have c7:=ctInt_n (.l (gd p 7).rows)
 rw [rows_l] at c1 c2 c3 c4 c6 c7
 show ctRangeS (.l (gd p 1).rows)+(ctRangeS (.l (gd p 2).rows)+(ctCellS (.l (gd p 3).rows)+(ctLockS (.l (gd p 4).rows)+(ctHeldS (gd (sub (dupShard p) 0 9) 5)+(ctIntS (.l (gd p 6).rows)+ctIntS (.l (gd p 7).rows))))))≤20000
 omega
theorem chgT_len (z:D) (a:List D) (wi:D):(gd (sub (chgT z a wi) 0 2) 0).rows.length≤1000:=by
 show (bif chgOk z a wi then (chgRg z a wi).rows else []).length≤1000
 cases chgOk z a wi
 ·exact Nat.zero_le _
 ·exact kpR_len _ _
theorem shard_small {p:List D} (h:sizeShard p≤1048576):shardSmall (cpShard p)=true:=by
 unfold sizeShard sizeCellS sizeHeldS sizeIntS at h
 have l3:(gd (cpShard p) 3).rows.length=(gd p 3).rows.length:=mapD_len _ _
 have l5:(gd (cpShard p) 5).rows.length=(gd p 5).rows.length:=mapD_len _ _
 have l6:(gd (cpShard p) 6).rows.length=(gd p 6).rows.length:=mapD_len _ _
 have l7:(gd (cpShard p) 7).rows.length=(gd p 7).rows.length:=mapD_len _ _
 unfold shardSmall
 simp only [l3,l5,l6,l7,Bool.and_eq_true,leI,decide_eq_true_eq]
 omega
end Go.Proofs.YtpdfmcmnjikppaaGreat
namespace Go.Proofs.YtpdfmcmnjikppaaGreat
open Go.ChangeShapes Go.WideShapes Go.ChangeAt Go.RowKit Go.Deep
def prot0 (w:World) (b:Nat):Nat:=
 match w.heap[b]? with
 | some (.cells arr _ _)=>arr.size
 | _=>0
theorem prot0_cell {w:World} {b o:Nat} {u:Value} (h:w.cell? ⟨b,o,none⟩=some u):o<prot0 w b:=by
 unfold World.cell? at h
 simp only at h
 unfold prot0
 cases hb:w.heap[b]? with
 | none=>rw [hb] at h; cases h
 | some x =>
  rw [hb] at h
  cases x with
  | cells arr t f =>
   simp only at h ⊢
   exact (Array.getElem?_eq_some_iff.1 h).1
  | _=>simp at h
theorem prot0_fresh {w:World} {b:Nat} (h:w.heap.size≤b):prot0 w b=0:=by
 unfold prot0
 rw [Array.getElem?_eq_none h]
def coverB (P:Program) (row:List S) (fs:Array Field):Bool:=
 (List.range row.length).all fun j=>(List.range fs.size).any fun i=>match fs[i]? with
  | some f=>match rowOf P f.type with
   | some rf=>decide (f.offset≤j)&&decide (j<f.offset+rf.length)&&rf.length==P.cellsOf f.type&&rf[j - f.offset]?==row[j]?
   | none=>false
  | none=>false
def layB (P:Program):Nat→TypeId→Bool
 | 0,_=>false
 | n+1,T=>match P.underlying T,rowOf P T with
  | some (.int k),some row=>row == [.int k]
  | some .bool,some row=>row == [.bool]
  | some .string,some row=>row == [.str]
  | some (.slice e),some row=>row == [.sl e]&&(match rowOf P e with | some re=>P.cellsOf e==re.length && !re.isEmpty&&layB P n e | none=>false)
  | some (.struct fs),some row=>coverB P row fs&&P.cellsOf T==row.length&&fs.toList.all fun f=>layB P n f.type
  | _,_=>false
theorem choose_pay {Q:Nat→D→Prop} (n:Nat) (h:∀ i,i<n→∃ x,Q i x):∃ l:List D,l.length=n∧∀ i,i<n→Q i (gd l i):=by
 induction n with
 | zero=>exact ⟨[],rfl,fun i hi=>by omega⟩
 | succ n ih =>
  obtain ⟨l,hl,hq⟩:=ih (fun i hi=>h i (by omega))
  obtain ⟨x,hx⟩:=h n (by omega)
  refine ⟨l ++ [x],by simp [hl],fun i hi=>?_⟩
  by_cases hin:i<n
  ·have:gd (l ++ [x]) i=gd l i:=by
    simp only [gd,List.getD_eq_getElem?_getD]
    rw [List.getElem?_append_left (by omega)]
   rw [this]; exact hq i hin
  ·obtain rfl:i=n:=by omega
   have:gd (l ++ [x]) i=x:=by
    simp only [gd,List.getD_eq_getElem?_getD]
    rw [List.getElem?_append_right (by omega),hl]
    simp
   rw [this]; exact hx
theorem choose_rows {Q:Nat→List D→Prop} (n:Nat) (h:∀ i,i<n→∃ x,Q i x):∃ l:List (List D),l.length=n∧∀ i,i<n→Q i (l.getD i []):=by
 induction n with
 | zero=>exact ⟨[],rfl,fun i hi=>by omega⟩
 | succ n ih =>
  obtain ⟨l,hl,hq⟩:=ih (fun i hi=>h i (by omega))
  obtain ⟨x,hx⟩:=h n (by omega)
  refine ⟨l ++ [x],by simp [hl],fun i hi=>?_⟩
  by_cases hin:i<n
  ·rw [List.getD_eq_getElem?_getD,List.getElem?_append_left (by omega),← List.getD_eq_getElem?_getD]; exact hq i hin
  ·obtain rfl:i=n:=by omega
   rw [List.getD_eq_getElem?_getD,List.getElem?_append_right (by omega),hl]
   simpa using hx
theorem spot_none' {w:World} {a:Addr} {v:Value} (h:w.cell? a=some v):a=⟨a.block,a.off,none⟩:=by
 cases hs:a.spot with
 | none=>cases a; simp at hs; subst hs; rfl
 | some s =>
  unfold World.cell? at h
  rw [hs] at h
  simp at h
  split at h <;> simp at h
theorem add_mk' {b o i:Nat}:(⟨b,o,none⟩:Addr).add i=⟨b,o+i,none⟩:=by
 unfold Addr.add
 split
 ·rename_i h; rw [h]; rfl
 ·rfl
theorem trod_vd {H:Type} {enc:TypeId × Value→H} {P:Program} {W:World} {base:Nat} {spare:Nat→Bool} {held:Bool}:∀ (n:Nat) (T:TypeId) (row:List S),layB P n T=true→rowOf P T=some row →
  ∀ (fuel:Nat) (cs:List Value) (y:DataW H × List MemPlace),DataW.trod enc P W base spare held fuel T cs=some y →
  ∃ p:List D,cs.length=row.length∧∀ j s,row[j]?=some s→∃ u,cs[j]?=some u∧VD P W (prot0 W) s (gd p j) u
 | 0,T,row,hl,_,_,_,_,_=>by cases hl
 | n+1,T,row,hl,hrow,fuel,cs,y,h=>by
  rw [layB,hrow] at hl
  split at hl
  ·rename_i k row' hu hr'
   injection hr' with hr'; subst hr'
   have hl:row = [.int k]:=by simpa using hl
   subst hl
   obtain ⟨a,e,_,_⟩:=DataW.trod_int hu h
   subst e
   refine ⟨[.i a],rfl,fun j s hs=>?_⟩
   match j,hs with
   | 0,hs=>injection hs with hs; subst hs; exact ⟨_,rfl,.int k (.i a)⟩
  ·rename_i row' hu hr'
   injection hr' with hr'; subst hr'
   have hl:row = [.bool]:=by simpa using hl
   subst hl
   obtain ⟨a,e,_⟩:=DataW.trod_bool hu h
   subst e
   refine ⟨[.b a],rfl,fun j s hs=>?_⟩
   match j,hs with
   | 0,hs=>injection hs with hs; subst hs; exact ⟨_,rfl,.bool (.b a)⟩
  ·rename_i row' hu hr'
   injection hr' with hr'; subst hr'
   have hl:row = [.str]:=by simpa using hl
   subst hl
   obtain ⟨a,e,_⟩:=DataW.trod_string hu h
   subst e
   refine ⟨[.s (byteList a)],rfl,fun j s hs=>?_⟩
   match j,hs with
   | 0,hs =>
    injection hs with hs; subst hs
    have:=VD.str (P:=P) (w:=W) (prot:=prot0 W) (.s (byteList a))
    rw [str_s,bsv_byteList] at this
    exact ⟨_,rfl,this⟩
  ·rename_i e row' hu hr'
   injection hr' with hr'; subst hr'
   simp only [Bool.and_eq_true] at hl
   obtain ⟨hl0,hl⟩:=hl
   have hl0:row = [.sl e]:=by simpa using hl0
   subst hl0
   split at hl
   ·rename_i re hre
    simp only [Bool.and_eq_true,beq_iff_eq,Bool.not_eq_true'] at hl
    obtain ⟨⟨hc,hne⟩,hle⟩:=hl
    have hpos:0<re.length:=by cases re with | nil=>cases hne | cons=>simp
    rcases open_slice hu h with ⟨rfl,_⟩ | ⟨a,len,cap,m,nn,Dd,Pl,rfl,hb,hlc,hm,hmm,hx,hi⟩
    ·refine ⟨[.l []],rfl,fun j s hs=>?_⟩
     match j,hs with
     | 0,hs=>injection hs with hs; subst hs; exact ⟨_,rfl,.sl e (.l []) none 0 re (fun _ _=>undef) hre (Nat.zero_le _) (by omega) (fun i j hi=>absurd hi (Nat.not_lt_zero _)) (fun i j s hi=>absurd hi (Nat.not_lt_zero _))⟩
    ·have hlm:len≤m:=by rw [hmm]; split <;> omega
     have ha:0<len→a=⟨a.block,a.off,none⟩:=by
      intro h0
      obtain ⟨cs0,hc0,_⟩:=hi 0 (by omega)
      rw [hc] at hc0
      obtain ⟨_,hcl0,hat0⟩:=World.cells?_some hc0
      have h00:=hat0 0 hpos
      rw [List.getElem?_eq_getElem (by omega)] at h00
      have:=spot_none' h00
      rw [Nat.zero_mul] at this
      simpa [Addr.add] using this
     have hq:∀ i,i<len→∃ p:List D,∀ j s,re[j]?=some s→∃ u,W.cell? ⟨a.block,a.off+(i*re.length+j),none⟩=some u∧VD P W (prot0 W) s (gd p j) u:=by
      intro i hil
      obtain ⟨cs',hcs,htr⟩:=hi i (by omega)
      rw [hc] at hcs
      obtain ⟨_,hcl,hat⟩:=World.cells?_some hcs
      obtain ⟨p,_,hp⟩:=trod_vd n e re hle hre nn cs' _ htr
      refine ⟨p,fun j s hs=>?_⟩
      obtain ⟨u,hu,hv⟩:=hp j s hs
      have hj:=(List.getElem?_eq_some_iff.1 hs).1
      have:=hat j hj
      rw [hu,ha (by omega),add_mk',add_mk'] at this
      refine ⟨u,?_,hv⟩
      rw [← this]; congr 2; omega
     obtain ⟨l,hll,hlq⟩:=choose_rows len hq
     refine ⟨[.l l],rfl,fun j s hs=>?_⟩
     match j,hs with
     | 0,hs =>
      injection hs with hs; subst hs
      refine ⟨_,rfl,?_⟩
      have hsl:=VD.sl (P:=P) (w:=W) (prot:=prot0 W) e (.l l) (some a) cap re (fun i j=>(W.cell? ⟨a.block,a.off+(i*re.length+j),none⟩).getD undef) hre (by rw [rows_l]; omega) (by unfold maxLen at hm; omega) ?_ ?_
      ·rw [rows_l,hll] at hsl; exact hsl
      ·intro i j hi hj
       rw [rows_l,hll] at hi
       obtain ⟨u,hu,_⟩:=hlq i hi j re[j] (List.getElem?_eq_getElem hj)
       refine ⟨a.block,a.off,by rw [← ha (by omega)],?_,prot0_cell hu⟩
       rw [hu]; rfl
      ·intro i j s hi hs
       rw [rows_l,hll] at hi
       obtain ⟨u,hu,hv⟩:=hlq i hi j s hs
       show VD P W (prot0 W) s (gd (l.getD i []) j) ((W.cell? ⟨a.block,a.off+(i*re.length+j),none⟩).getD undef)
       rw [hu]; exact hv
   ·cases hl
  ·rename_i fs row' hu hr'
   injection hr' with hr'; subst hr'
   simp only [Bool.and_eq_true,beq_iff_eq] at hl
   obtain ⟨⟨hcov,hct⟩,hall⟩:=hl
   obtain ⟨xs,nn,_,_,hlen,hlx,hg⟩:=DataW.trod_struct hu h
   rw [hct] at hlen
   have hq:∀ j,j<row.length→∃ d:D,∀ s,row[j]?=some s→∃ u,cs[j]?=some u∧VD P W (prot0 W) s d u:=by
    intro j hj
    unfold coverB at hcov
    rw [List.all_eq_true] at hcov
    have hcj:=hcov j (List.mem_range.2 hj)
    rw [List.any_eq_true] at hcj
    obtain ⟨i,hi,hci⟩:=hcj
    have hi:=List.mem_range.1 hi
    split at hci
    ·rename_i f hf
     split at hci
     ·rename_i rf hrf
      simp only [Bool.and_eq_true,decide_eq_true_eq,beq_iff_eq] at hci
      obtain ⟨⟨⟨k1,k2⟩,k3⟩,k4⟩:=hci
      have hlf:layB P n f.type=true:=by
       rw [List.all_eq_true] at hall
       exact hall f (by
        have:=Array.getElem?_eq_some_iff.1 hf
        obtain ⟨h1,h2⟩:=this
        rw [← h2]; simp)
      have htr:=hg i f hf
      rw [List.getElem?_eq_getElem (by rw [hlx]; exact hi)] at htr
      obtain ⟨p,hpl,hp⟩:=trod_vd n f.type rf hlf hrf nn _ _ htr
      refine ⟨gd p (j - f.offset),fun s hs=>?_⟩
      rw [hs] at k4
      obtain ⟨u,hu',hv⟩:=hp _ _ k4
      refine ⟨u,?_,hv⟩
      rw [List.getElem?_take_of_lt (by omega),List.getElem?_drop] at hu'
      rw [← hu']; congr 1; omega
     ·cases hci
    ·cases hci
   obtain ⟨p,_,hp⟩:=choose_pay row.length hq
   exact ⟨p,hlen,fun j s hs=>hp j (List.getElem?_eq_some_iff.1 hs).1 s hs⟩
  ·cases hl
theorem arg_agg {H:Type} {enc:TypeId × Value→H} {P:Program} {W:World} {base:Nat} {spare:Nat→Bool} {held:Bool} {r:Reach} {b0:Nat} {T:TypeId} {fs:Array Field} {row:List S} {v:Value} {d:DataW H} {ps:List MemPlace}
  (hs:P.underlying T=some (.struct fs)) (hrow:rowOf P T=some row) (hl:layB P 12 T=true) (hv:Value.okWide P W r b0 T v) (hy:DataW.Trod enc P W base spare held T v d ps) :
  ∃ p,VT P W (g0 W.heap.size (prot0 W)) W.heap.size ⟨.one (.agg (row.map .d)),p⟩ v:=by
 obtain ⟨cs,rfl,hsz⟩:=okWide_struct hs hv
 obtain ⟨fuel,hf⟩:=hy
 obtain ⟨p,hpl,hp⟩:=trod_vd 12 T row hl hrow fuel _ _ hf
 refine ⟨p,cs,rfl,?_,fun j c hc=>?_⟩
 ·have:cs.toList.length=row.length:=hpl
  simpa using this
 ·rw [List.getElem?_map] at hc
  cases hr:row[j]? with
  | none=>rw [hr] at hc; cases hc
  | some s =>
   rw [hr] at hc
   injection hc with hc
   subst hc
   obtain ⟨u,hu,hvd⟩:=hp j s hr
   have hu:cs.toList[j]?=some u:=hu
   exact ⟨u,by simpa using hu,hvd⟩
theorem arg_one {H:Type} {enc:TypeId × Value→H} {P:Program} {W:World} {base:Nat} {spare:Nat→Bool} {held:Bool} {T:TypeId} {s:S} {v:Value} {d:DataW H} {ps:List MemPlace}
  (hrow:rowOf P T=some [s]) (hl:layB P 12 T=true) (hv:v.cells.toList = [v]) (hy:DataW.Trod enc P W base spare held T v d ps) :
  ∃ p,VT P W (g0 W.heap.size (prot0 W)) W.heap.size ⟨.one (.c (.d s)),p⟩ v:=by
 obtain ⟨fuel,hf⟩:=hy
 rw [hv] at hf
 obtain ⟨p,_,hp⟩:=trod_vd 12 T [s] hl hrow fuel _ _ hf
 obtain ⟨u,hu,hvd⟩:=hp 0 s rfl
 injection hu with hu
 subst hu
 exact ⟨p,hvd⟩
theorem ev_walk {P:Program} {f:FuncId} {args:List T} {b:Bool} (h:SoundFn P f args ⟨rb,[.b b]⟩) {W:World} {vs:Array Value} (ha:ArgsV P (prot0 W) W args vs) :
  Calls P f vs W fun e W'=>e=.returned (.bool b)∧Below W.heap.size W W':=by
 refine ((h.n rfl).2 W (prot0 W) vs ha (fun b hb=>prot0_fresh hb)).mono fun e W' hx=>?_
 obtain ⟨v,g',rfl,hres⟩:=hx
 have hv:VD P W' g'.prot .bool (.b b) v:=hres.val
 cases hv
 exact ⟨rfl,hres.below⟩
end Go.Proofs.YtpdfmcmnjikppaaGreat
namespace Go.Proofs.YtpdfmcmnjikppaaGreat
set_option maxRecDepth 4096
set_option maxHeartbeats 1000000
abbrev l_ShardInstallT:FuncId→List T→Option (T × Bool):=find [szShardE,szCellSE,toSharddE,toRangeE,toCellSdE,s_ShardInstallE,i_ShardInstallE,eqShardE,eqCellSE,mkShardE,mkCellSE,hdShardE,apartE]
theorem l_ShardInstallT_ok:CallOk Tryz.prog l_ShardInstallT:=find_ok (fC ⟨szShard_ok,fC ⟨szCellS_ok,fC ⟨toShardd_ok,fC ⟨toRange_ok,fC ⟨toCellSd_ok,fC ⟨s_ShardInstall_ok,fC ⟨i_ShardInstall_ok,fC ⟨eqShard_ok,fC ⟨eqCellS_ok,fC ⟨mkShard_ok,fC ⟨mkCellS_ok,fC ⟨hdShard_ok,fC ⟨apart_ok,fN⟩⟩⟩⟩⟩⟩⟩⟩⟩⟩⟩⟩⟩)
abbrev l_ShardInstallK:List Nat:= [0,1,2,3,4,6,8,9,10,11,12,13,14,15,16,17,18,19,20,25,30,63,68,73,92,100,103,123,128,131]
def l_ShardInstall_evq0 (N:Nat) (p q r s:List D):List (List D):= [[gd (sub (insD (sub (cpShard (sub p 0 9)) 0 9) (gd q 0) (sub (cpRange (sub r 0 2)) 0 2) (cpCellS (gd s 0))) 0 10) 9],[.i 0],[gd (sub (insD (sub (cpShard (sub p 0 9)) 0 9) (gd q 0) (sub (cpRange (sub r 0 2)) 0 2) (cpCellS (gd s 0))) 0 10) 9],[gd (sub (insD (sub (cpShard (sub p 0 9)) 0 9) (gd q 0) (sub (cpRange (sub r 0 2)) 0 2) (cpCellS (gd s 0))) 0 10) 0,gd (sub (insD (sub (cpShard (sub p 0 9)) 0 9) (gd q 0) (sub (cpRange (sub r 0 2)) 0 2) (cpCellS (gd s 0))) 0 10) 1,gd (sub (insD (sub (cpShard (sub p 0 9)) 0 9) (gd q 0) (sub (cpRange (sub r 0 2)) 0 2) (cpCellS (gd s 0))) 0 10) 2,gd (sub (insD (sub (cpShard (sub p 0 9)) 0 9) (gd q 0) (sub (cpRange (sub r 0 2)) 0 2) (cpCellS (gd s 0))) 0 10) 3,gd (sub (insD (sub (cpShard (sub p 0 9)) 0 9) (gd q 0) (sub (cpRange (sub r 0 2)) 0 2) (cpCellS (gd s 0))) 0 10) 4,gd (sub (insD (sub (cpShard (sub p 0 9)) 0 9) (gd q 0) (sub (cpRange (sub r 0 2)) 0 2) (cpCellS (gd s 0))) 0 10) 5,gd (sub (insD (sub (cpShard (sub p 0 9)) 0 9) (gd q 0) (sub (cpRange (sub r 0 2)) 0 2) (cpCellS (gd s 0))) 0 10) 6,gd (sub (insD (sub (cpShard (sub p 0 9)) 0 9) (gd q 0) (sub (cpRange (sub r 0 2)) 0 2) (cpCellS (gd s 0))) 0 10) 7,gd (sub (insD (sub (cpShard (sub p 0 9)) 0 9) (gd q 0) (sub (cpRange (sub r 0 2)) 0 2) (cpCellS (gd s 0))) 0 10) 8],[gd (sub (insD (sub (cpShard (sub p 0 9)) 0 9) (gd q 0) (sub (cpRange (sub r 0 2)) 0 2) (cpCellS (gd s 0))) 0 10) 0,gd (sub (insD (sub (cpShard (sub p 0 9)) 0 9) (gd q 0) (sub (cpRange (sub r 0 2)) 0 2) (cpCellS (gd s 0))) 0 10) 1,gd (sub (insD (sub (cpShard (sub p 0 9)) 0 9) (gd q 0) (sub (cpRange (sub r 0 2)) 0 2) (cpCellS (gd s 0))) 0 10) 2,gd (sub (insD (sub (cpShard (sub p 0 9)) 0 9) (gd q 0) (sub (cpRange (sub r 0 2)) 0 2) (cpCellS (gd s 0))) 0 10) 3,gd (sub (insD (sub (cpShard (sub p 0 9)) 0 9) (gd q 0) (sub (cpRange (sub r 0 2)) 0 2) (cpCellS (gd s 0))) 0 10) 4,gd (sub (insD (sub (cpShard (sub p 0 9)) 0 9) (gd q 0) (sub (cpRange (sub r 0 2)) 0 2) (cpCellS (gd s 0))) 0 10) 5,gd (sub (insD (sub (cpShard (sub p 0 9)) 0 9) (gd q 0) (sub (cpRange (sub r 0 2)) 0 2) (cpCellS (gd s 0))) 0 10) 6,gd (sub (insD (sub (cpShard (sub p 0 9)) 0 9) (gd q 0) (sub (cpRange (sub r 0 2)) 0 2) (cpCellS (gd s 0))) 0 10) 7,gd (sub (insD (sub (cpShard (sub p 0 9)) 0 9) (gd q 0) (sub (cpRange (sub r 0 2)) 0 2) (cpCellS (gd s 0))) 0 10) 8,gd (sub (insD (sub (cpShard (sub p 0 9)) 0 9) (gd q 0) (sub (cpRange (sub r 0 2)) 0 2) (cpCellS (gd s 0))) 0 10) 9],[gd (sub (insD (sub (cpShard (sub p 0 9)) 0 9) (gd q 0) (sub (cpRange (sub r 0 2)) 0 2) (cpCellS (gd s 0))) 0 10) 0,gd (sub (insD (sub (cpShard (sub p 0 9)) 0 9) (gd q 0) (sub (cpRange (sub r 0 2)) 0 2) (cpCellS (gd s 0))) 0 10) 1,gd (sub (insD (sub (cpShard (sub p 0 9)) 0 9) (gd q 0) (sub (cpRange (sub r 0 2)) 0 2) (cpCellS (gd s 0))) 0 10) 2,gd (sub (insD (sub (cpShard (sub p 0 9)) 0 9) (gd q 0) (sub (cpRange (sub r 0 2)) 0 2) (cpCellS (gd s 0))) 0 10) 3,gd (sub (insD (sub (cpShard (sub p 0 9)) 0 9) (gd q 0) (sub (cpRange (sub r 0 2)) 0 2) (cpCellS (gd s 0))) 0 10) 4,gd (sub (insD (sub (cpShard (sub p 0 9)) 0 9) (gd q 0) (sub (cpRange (sub r 0 2)) 0 2) (cpCellS (gd s 0))) 0 10) 5,gd (sub (insD (sub (cpShard (sub p 0 9)) 0 9) (gd q 0) (sub (cpRange (sub r 0 2)) 0 2) (cpCellS (gd s 0))) 0 10) 6,gd (sub (insD (sub (cpShard (sub p 0 9)) 0 9) (gd q 0) (sub (cpRange (sub r 0 2)) 0 2) (cpCellS (gd s 0))) 0 10) 7,gd (sub (insD (sub (cpShard (sub p 0 9)) 0 9) (gd q 0) (sub (cpRange (sub r 0 2)) 0 2) (cpCellS (gd s 0))) 0 10) 8,gd (sub (insD (sub (cpShard (sub p 0 9)) 0 9) (gd q 0) (sub (cpRange (sub r 0 2)) 0 2) (cpCellS (gd s 0))) 0 10) 9],[cpCellS (gd s 0)],[gd (cpRange (sub r 0 2)) 0,gd (cpRange (sub r 0 2)) 1],[gd (cpShard (sub p 0 9)) 0,gd (cpShard (sub p 0 9)) 1,gd (cpShard (sub p 0 9)) 2,gd (cpShard (sub p 0 9)) 3,gd (cpShard (sub p 0 9)) 4,gd (cpShard (sub p 0 9)) 5,gd (cpShard (sub p 0 9)) 6,gd (cpShard (sub p 0 9)) 7,gd (cpShard (sub p 0 9)) 8],s,[gd r 0,gd r 1],q,[gd p 0,gd p 1,gd p 2,gd p 3,gd p 4,gd p 5,gd p 6,gd p 7,gd p 8],p,q,r,s,[.i 0],[.i 0],[.i 0],[.i (left (sizeCellS (gd s 0)) (left (sizeShard (sub p 0 9)) 1048576))],[.b (ltI (left (sizeShard (sub p 0 9)) 1048576) 0)],[.b (ltI (left (sizeCellS (gd s 0)) (left (sizeShard (sub p 0 9)) 1048576)) 0)],[gd p 0,gd p 1,gd p 2,gd p 3,gd p 4,gd p 5,gd p 6,gd p 7,gd p 8],[gd r 0,gd r 1],[gd (sub (insD (sub (cpShard (sub p 0 9)) 0 9) (gd q 0) (sub (cpRange (sub r 0 2)) 0 2) (cpCellS (gd s 0))) 0 10) 0,gd (sub (insD (sub (cpShard (sub p 0 9)) 0 9) (gd q 0) (sub (cpRange (sub r 0 2)) 0 2) (cpCellS (gd s 0))) 0 10) 1,gd (sub (insD (sub (cpShard (sub p 0 9)) 0 9) (gd q 0) (sub (cpRange (sub r 0 2)) 0 2) (cpCellS (gd s 0))) 0 10) 2,gd (sub (insD (sub (cpShard (sub p 0 9)) 0 9) (gd q 0) (sub (cpRange (sub r 0 2)) 0 2) (cpCellS (gd s 0))) 0 10) 3,gd (sub (insD (sub (cpShard (sub p 0 9)) 0 9) (gd q 0) (sub (cpRange (sub r 0 2)) 0 2) (cpCellS (gd s 0))) 0 10) 4,gd (sub (insD (sub (cpShard (sub p 0 9)) 0 9) (gd q 0) (sub (cpRange (sub r 0 2)) 0 2) (cpCellS (gd s 0))) 0 10) 5,gd (sub (insD (sub (cpShard (sub p 0 9)) 0 9) (gd q 0) (sub (cpRange (sub r 0 2)) 0 2) (cpCellS (gd s 0))) 0 10) 6,gd (sub (insD (sub (cpShard (sub p 0 9)) 0 9) (gd q 0) (sub (cpRange (sub r 0 2)) 0 2) (cpCellS (gd s 0))) 0 10) 7,gd (sub (insD (sub (cpShard (sub p 0 9)) 0 9) (gd q 0) (sub (cpRange (sub r 0 2)) 0 2) (cpCellS (gd s 0))) 0 10) 8]]
def l_ShardInstall_evq1 (N:Nat) (p q r s:List D):List (List D):= [[gd (sub (insD (sub (cpShard (sub p 0 9)) 0 9) (gd q 0) (sub (cpRange (sub r 0 2)) 0 2) (cpCellS (gd s 0))) 0 10) 9],[.i 0],[gd (sub (insD (sub (cpShard (sub p 0 9)) 0 9) (gd q 0) (sub (cpRange (sub r 0 2)) 0 2) (cpCellS (gd s 0))) 0 10) 9],[gd (sub (insD (sub (cpShard (sub p 0 9)) 0 9) (gd q 0) (sub (cpRange (sub r 0 2)) 0 2) (cpCellS (gd s 0))) 0 10) 0,gd (sub (insD (sub (cpShard (sub p 0 9)) 0 9) (gd q 0) (sub (cpRange (sub r 0 2)) 0 2) (cpCellS (gd s 0))) 0 10) 1,gd (sub (insD (sub (cpShard (sub p 0 9)) 0 9) (gd q 0) (sub (cpRange (sub r 0 2)) 0 2) (cpCellS (gd s 0))) 0 10) 2,gd (sub (insD (sub (cpShard (sub p 0 9)) 0 9) (gd q 0) (sub (cpRange (sub r 0 2)) 0 2) (cpCellS (gd s 0))) 0 10) 3,gd (sub (insD (sub (cpShard (sub p 0 9)) 0 9) (gd q 0) (sub (cpRange (sub r 0 2)) 0 2) (cpCellS (gd s 0))) 0 10) 4,gd (sub (insD (sub (cpShard (sub p 0 9)) 0 9) (gd q 0) (sub (cpRange (sub r 0 2)) 0 2) (cpCellS (gd s 0))) 0 10) 5,gd (sub (insD (sub (cpShard (sub p 0 9)) 0 9) (gd q 0) (sub (cpRange (sub r 0 2)) 0 2) (cpCellS (gd s 0))) 0 10) 6,gd (sub (insD (sub (cpShard (sub p 0 9)) 0 9) (gd q 0) (sub (cpRange (sub r 0 2)) 0 2) (cpCellS (gd s 0))) 0 10) 7,gd (sub (insD (sub (cpShard (sub p 0 9)) 0 9) (gd q 0) (sub (cpRange (sub r 0 2)) 0 2) (cpCellS (gd s 0))) 0 10) 8],[gd (sub (insD (sub (cpShard (sub p 0 9)) 0 9) (gd q 0) (sub (cpRange (sub r 0 2)) 0 2) (cpCellS (gd s 0))) 0 10) 0,gd (sub (insD (sub (cpShard (sub p 0 9)) 0 9) (gd q 0) (sub (cpRange (sub r 0 2)) 0 2) (cpCellS (gd s 0))) 0 10) 1,gd (sub (insD (sub (cpShard (sub p 0 9)) 0 9) (gd q 0) (sub (cpRange (sub r 0 2)) 0 2) (cpCellS (gd s 0))) 0 10) 2,gd (sub (insD (sub (cpShard (sub p 0 9)) 0 9) (gd q 0) (sub (cpRange (sub r 0 2)) 0 2) (cpCellS (gd s 0))) 0 10) 3,gd (sub (insD (sub (cpShard (sub p 0 9)) 0 9) (gd q 0) (sub (cpRange (sub r 0 2)) 0 2) (cpCellS (gd s 0))) 0 10) 4,gd (sub (insD (sub (cpShard (sub p 0 9)) 0 9) (gd q 0) (sub (cpRange (sub r 0 2)) 0 2) (cpCellS (gd s 0))) 0 10) 5,gd (sub (insD (sub (cpShard (sub p 0 9)) 0 9) (gd q 0) (sub (cpRange (sub r 0 2)) 0 2) (cpCellS (gd s 0))) 0 10) 6,gd (sub (insD (sub (cpShard (sub p 0 9)) 0 9) (gd q 0) (sub (cpRange (sub r 0 2)) 0 2) (cpCellS (gd s 0))) 0 10) 7,gd (sub (insD (sub (cpShard (sub p 0 9)) 0 9) (gd q 0) (sub (cpRange (sub r 0 2)) 0 2) (cpCellS (gd s 0))) 0 10) 8,gd (sub (insD (sub (cpShard (sub p 0 9)) 0 9) (gd q 0) (sub (cpRange (sub r 0 2)) 0 2) (cpCellS (gd s 0))) 0 10) 9],[gd (sub (insD (sub (cpShard (sub p 0 9)) 0 9) (gd q 0) (sub (cpRange (sub r 0 2)) 0 2) (cpCellS (gd s 0))) 0 10) 0,gd (sub (insD (sub (cpShard (sub p 0 9)) 0 9) (gd q 0) (sub (cpRange (sub r 0 2)) 0 2) (cpCellS (gd s 0))) 0 10) 1,gd (sub (insD (sub (cpShard (sub p 0 9)) 0 9) (gd q 0) (sub (cpRange (sub r 0 2)) 0 2) (cpCellS (gd s 0))) 0 10) 2,gd (sub (insD (sub (cpShard (sub p 0 9)) 0 9) (gd q 0) (sub (cpRange (sub r 0 2)) 0 2) (cpCellS (gd s 0))) 0 10) 3,gd (sub (insD (sub (cpShard (sub p 0 9)) 0 9) (gd q 0) (sub (cpRange (sub r 0 2)) 0 2) (cpCellS (gd s 0))) 0 10) 4,gd (sub (insD (sub (cpShard (sub p 0 9)) 0 9) (gd q 0) (sub (cpRange (sub r 0 2)) 0 2) (cpCellS (gd s 0))) 0 10) 5,gd (sub (insD (sub (cpShard (sub p 0 9)) 0 9) (gd q 0) (sub (cpRange (sub r 0 2)) 0 2) (cpCellS (gd s 0))) 0 10) 6,gd (sub (insD (sub (cpShard (sub p 0 9)) 0 9) (gd q 0) (sub (cpRange (sub r 0 2)) 0 2) (cpCellS (gd s 0))) 0 10) 7,gd (sub (insD (sub (cpShard (sub p 0 9)) 0 9) (gd q 0) (sub (cpRange (sub r 0 2)) 0 2) (cpCellS (gd s 0))) 0 10) 8,gd (sub (insD (sub (cpShard (sub p 0 9)) 0 9) (gd q 0) (sub (cpRange (sub r 0 2)) 0 2) (cpCellS (gd s 0))) 0 10) 9],[gd (cpRange (sub r 0 2)) 0,gd (cpRange (sub r 0 2)) 1],[cpCellS (gd s 0)],[gd r 0,gd r 1],q,[gd (cpShard (sub p 0 9)) 0,gd (cpShard (sub p 0 9)) 1,gd (cpShard (sub p 0 9)) 2,gd (cpShard (sub p 0 9)) 3,gd (cpShard (sub p 0 9)) 4,gd (cpShard (sub p 0 9)) 5,gd (cpShard (sub p 0 9)) 6,gd (cpShard (sub p 0 9)) 7,gd (cpShard (sub p 0 9)) 8],p,q,r,s,[.i 0],[.i 0],[.i 0],[.i (left (sizeCellS (gd s 0)) (left (sizeShard (sub p 0 9)) 1048576))],[.b (ltI (left (sizeShard (sub p 0 9)) 1048576) 0)],[.b (ltI (left (sizeCellS (gd s 0)) (left (sizeShard (sub p 0 9)) 1048576)) 0)],[.i 0],[gd (sub (insD (sub (cpShard (sub p 0 9)) 0 9) (gd q 0) (sub (cpRange (sub r 0 2)) 0 2) (cpCellS (gd s 0))) 0 10) 9],[.i 0],[cpCellS (gd s 0)],[gd p 0,gd p 1,gd p 2,gd p 3,gd p 4,gd p 5,gd p 6,gd p 7,gd p 8],[gd r 0,gd r 1],[gd (sub (insD (sub (cpShard (sub p 0 9)) 0 9) (gd q 0) (sub (cpRange (sub r 0 2)) 0 2) (cpCellS (gd s 0))) 0 10) 0,gd (sub (insD (sub (cpShard (sub p 0 9)) 0 9) (gd q 0) (sub (cpRange (sub r 0 2)) 0 2) (cpCellS (gd s 0))) 0 10) 1,gd (sub (insD (sub (cpShard (sub p 0 9)) 0 9) (gd q 0) (sub (cpRange (sub r 0 2)) 0 2) (cpCellS (gd s 0))) 0 10) 2,gd (sub (insD (sub (cpShard (sub p 0 9)) 0 9) (gd q 0) (sub (cpRange (sub r 0 2)) 0 2) (cpCellS (gd s 0))) 0 10) 3,gd (sub (insD (sub (cpShard (sub p 0 9)) 0 9) (gd q 0) (sub (cpRange (sub r 0 2)) 0 2) (cpCellS (gd s 0))) 0 10) 4,gd (sub (insD (sub (cpShard (sub p 0 9)) 0 9) (gd q 0) (sub (cpRange (sub r 0 2)) 0 2) (cpCellS (gd s 0))) 0 10) 5,gd (sub (insD (sub (cpShard (sub p 0 9)) 0 9) (gd q 0) (sub (cpRange (sub r 0 2)) 0 2) (cpCellS (gd s 0))) 0 10) 6,gd (sub (insD (sub (cpShard (sub p 0 9)) 0 9) (gd q 0) (sub (cpRange (sub r 0 2)) 0 2) (cpCellS (gd s 0))) 0 10) 7,gd (sub (insD (sub (cpShard (sub p 0 9)) 0 9) (gd q 0) (sub (cpRange (sub r 0 2)) 0 2) (cpCellS (gd s 0))) 0 10) 8],[gd (cpShard (sub p 0 9)) 0,gd (cpShard (sub p 0 9)) 1,gd (cpShard (sub p 0 9)) 2,gd (cpShard (sub p 0 9)) 3,gd (cpShard (sub p 0 9)) 4,gd (cpShard (sub p 0 9)) 5,gd (cpShard (sub p 0 9)) 6,gd (cpShard (sub p 0 9)) 7,gd (cpShard (sub p 0 9)) 8],[gd (sub (insD (sub (cpShard (sub p 0 9)) 0 9) (gd q 0) (sub (cpRange (sub r 0 2)) 0 2) (cpCellS (gd s 0))) 0 10) 0,gd (sub (insD (sub (cpShard (sub p 0 9)) 0 9) (gd q 0) (sub (cpRange (sub r 0 2)) 0 2) (cpCellS (gd s 0))) 0 10) 1,gd (sub (insD (sub (cpShard (sub p 0 9)) 0 9) (gd q 0) (sub (cpRange (sub r 0 2)) 0 2) (cpCellS (gd s 0))) 0 10) 2,gd (sub (insD (sub (cpShard (sub p 0 9)) 0 9) (gd q 0) (sub (cpRange (sub r 0 2)) 0 2) (cpCellS (gd s 0))) 0 10) 3,gd (sub (insD (sub (cpShard (sub p 0 9)) 0 9) (gd q 0) (sub (cpRange (sub r 0 2)) 0 2) (cpCellS (gd s 0))) 0 10) 4,gd (sub (insD (sub (cpShard (sub p 0 9)) 0 9) (gd q 0) (sub (cpRange (sub r 0 2)) 0 2) (cpCellS (gd s 0))) 0 10) 5,gd (sub (insD (sub (cpShard (sub p 0 9)) 0 9) (gd q 0) (sub (cpRange (sub r 0 2)) 0 2) (cpCellS (gd s 0))) 0 10) 6,gd (sub (insD (sub (cpShard (sub p 0 9)) 0 9) (gd q 0) (sub (cpRange (sub r 0 2)) 0 2) (cpCellS (gd s 0))) 0 10) 7,gd (sub (insD (sub (cpShard (sub p 0 9)) 0 9) (gd q 0) (sub (cpRange (sub r 0 2)) 0 2) (cpCellS (gd s 0))) 0 10) 8]]
def l_ShardInstall_evq2 (N:Nat) (p q r s:List D):List (List D):= [[gd (sub (insD (sub (cpShard (sub p 0 9)) 0 9) (gd q 0) (sub (cpRange (sub r 0 2)) 0 2) (cpCellS (gd s 0))) 0 10) 9],[.i 0],[gd (sub (insD (sub (cpShard (sub p 0 9)) 0 9) (gd q 0) (sub (cpRange (sub r 0 2)) 0 2) (cpCellS (gd s 0))) 0 10) 9],[gd (sub (insD (sub (cpShard (sub p 0 9)) 0 9) (gd q 0) (sub (cpRange (sub r 0 2)) 0 2) (cpCellS (gd s 0))) 0 10) 0,gd (sub (insD (sub (cpShard (sub p 0 9)) 0 9) (gd q 0) (sub (cpRange (sub r 0 2)) 0 2) (cpCellS (gd s 0))) 0 10) 1,gd (sub (insD (sub (cpShard (sub p 0 9)) 0 9) (gd q 0) (sub (cpRange (sub r 0 2)) 0 2) (cpCellS (gd s 0))) 0 10) 2,gd (sub (insD (sub (cpShard (sub p 0 9)) 0 9) (gd q 0) (sub (cpRange (sub r 0 2)) 0 2) (cpCellS (gd s 0))) 0 10) 3,gd (sub (insD (sub (cpShard (sub p 0 9)) 0 9) (gd q 0) (sub (cpRange (sub r 0 2)) 0 2) (cpCellS (gd s 0))) 0 10) 4,gd (sub (insD (sub (cpShard (sub p 0 9)) 0 9) (gd q 0) (sub (cpRange (sub r 0 2)) 0 2) (cpCellS (gd s 0))) 0 10) 5,gd (sub (insD (sub (cpShard (sub p 0 9)) 0 9) (gd q 0) (sub (cpRange (sub r 0 2)) 0 2) (cpCellS (gd s 0))) 0 10) 6,gd (sub (insD (sub (cpShard (sub p 0 9)) 0 9) (gd q 0) (sub (cpRange (sub r 0 2)) 0 2) (cpCellS (gd s 0))) 0 10) 7,gd (sub (insD (sub (cpShard (sub p 0 9)) 0 9) (gd q 0) (sub (cpRange (sub r 0 2)) 0 2) (cpCellS (gd s 0))) 0 10) 8],[gd (sub (insD (sub (cpShard (sub p 0 9)) 0 9) (gd q 0) (sub (cpRange (sub r 0 2)) 0 2) (cpCellS (gd s 0))) 0 10) 0,gd (sub (insD (sub (cpShard (sub p 0 9)) 0 9) (gd q 0) (sub (cpRange (sub r 0 2)) 0 2) (cpCellS (gd s 0))) 0 10) 1,gd (sub (insD (sub (cpShard (sub p 0 9)) 0 9) (gd q 0) (sub (cpRange (sub r 0 2)) 0 2) (cpCellS (gd s 0))) 0 10) 2,gd (sub (insD (sub (cpShard (sub p 0 9)) 0 9) (gd q 0) (sub (cpRange (sub r 0 2)) 0 2) (cpCellS (gd s 0))) 0 10) 3,gd (sub (insD (sub (cpShard (sub p 0 9)) 0 9) (gd q 0) (sub (cpRange (sub r 0 2)) 0 2) (cpCellS (gd s 0))) 0 10) 4,gd (sub (insD (sub (cpShard (sub p 0 9)) 0 9) (gd q 0) (sub (cpRange (sub r 0 2)) 0 2) (cpCellS (gd s 0))) 0 10) 5,gd (sub (insD (sub (cpShard (sub p 0 9)) 0 9) (gd q 0) (sub (cpRange (sub r 0 2)) 0 2) (cpCellS (gd s 0))) 0 10) 6,gd (sub (insD (sub (cpShard (sub p 0 9)) 0 9) (gd q 0) (sub (cpRange (sub r 0 2)) 0 2) (cpCellS (gd s 0))) 0 10) 7,gd (sub (insD (sub (cpShard (sub p 0 9)) 0 9) (gd q 0) (sub (cpRange (sub r 0 2)) 0 2) (cpCellS (gd s 0))) 0 10) 8,gd (sub (insD (sub (cpShard (sub p 0 9)) 0 9) (gd q 0) (sub (cpRange (sub r 0 2)) 0 2) (cpCellS (gd s 0))) 0 10) 9],[gd (sub (insD (sub (cpShard (sub p 0 9)) 0 9) (gd q 0) (sub (cpRange (sub r 0 2)) 0 2) (cpCellS (gd s 0))) 0 10) 0,gd (sub (insD (sub (cpShard (sub p 0 9)) 0 9) (gd q 0) (sub (cpRange (sub r 0 2)) 0 2) (cpCellS (gd s 0))) 0 10) 1,gd (sub (insD (sub (cpShard (sub p 0 9)) 0 9) (gd q 0) (sub (cpRange (sub r 0 2)) 0 2) (cpCellS (gd s 0))) 0 10) 2,gd (sub (insD (sub (cpShard (sub p 0 9)) 0 9) (gd q 0) (sub (cpRange (sub r 0 2)) 0 2) (cpCellS (gd s 0))) 0 10) 3,gd (sub (insD (sub (cpShard (sub p 0 9)) 0 9) (gd q 0) (sub (cpRange (sub r 0 2)) 0 2) (cpCellS (gd s 0))) 0 10) 4,gd (sub (insD (sub (cpShard (sub p 0 9)) 0 9) (gd q 0) (sub (cpRange (sub r 0 2)) 0 2) (cpCellS (gd s 0))) 0 10) 5,gd (sub (insD (sub (cpShard (sub p 0 9)) 0 9) (gd q 0) (sub (cpRange (sub r 0 2)) 0 2) (cpCellS (gd s 0))) 0 10) 6,gd (sub (insD (sub (cpShard (sub p 0 9)) 0 9) (gd q 0) (sub (cpRange (sub r 0 2)) 0 2) (cpCellS (gd s 0))) 0 10) 7,gd (sub (insD (sub (cpShard (sub p 0 9)) 0 9) (gd q 0) (sub (cpRange (sub r 0 2)) 0 2) (cpCellS (gd s 0))) 0 10) 8,gd (sub (insD (sub (cpShard (sub p 0 9)) 0 9) (gd q 0) (sub (cpRange (sub r 0 2)) 0 2) (cpCellS (gd s 0))) 0 10) 9],[cpCellS (gd s 0)],[gd (cpRange (sub r 0 2)) 0,gd (cpRange (sub r 0 2)) 1],[gd (cpShard (sub p 0 9)) 0,gd (cpShard (sub p 0 9)) 1,gd (cpShard (sub p 0 9)) 2,gd (cpShard (sub p 0 9)) 3,gd (cpShard (sub p 0 9)) 4,gd (cpShard (sub p 0 9)) 5,gd (cpShard (sub p 0 9)) 6,gd (cpShard (sub p 0 9)) 7,gd (cpShard (sub p 0 9)) 8],[gd s 0],[gd r 0,gd r 1],[gd q 0],[gd p 0,gd p 1,gd p 2,gd p 3,gd p 4,gd p 5,gd p 6,gd p 7,gd p 8],[gd p 0,gd p.tail 0,gd p.tail.tail 0,gd p.tail.tail.tail 0,gd p.tail.tail.tail.tail 0,gd p.tail.tail.tail.tail.tail 0,gd p.tail.tail.tail.tail.tail.tail 0,gd p.tail.tail.tail.tail.tail.tail.tail 0,gd p.tail.tail.tail.tail.tail.tail.tail.tail 0],[gd q 0],[gd r 0,gd r.tail 0],[gd s 0],[.i 0],[.i 0],[.i 0],[.i (left (sizeCellS (gd s 0)) (left (sizeShard (sub p 0 9)) 1048576))],[.b (ltI (left (sizeShard (sub p 0 9)) 1048576) 0)],[.b (ltI (left (sizeCellS (gd s 0)) (left (sizeShard (sub p 0 9)) 1048576)) 0)],[.i 0],[gd (sub (insD (sub (cpShard (sub p 0 9)) 0 9) (gd q 0) (sub (cpRange (sub r 0 2)) 0 2) (cpCellS (gd s 0))) 0 10) 9],[.i 0],[.l (gd (mkCellS [cpCellS (gd s 0)] (gd (mkShard (sub (cpShard (sub p 0 9)) 0 9) (.i 1)) 0)) 1).rows],[.i 0],[gd (sub (insD (sub (cpShard (sub p 0 9)) 0 9) (gd q 0) (sub (cpRange (sub r 0 2)) 0 2) (cpCellS (gd s 0))) 0 10) 9],[.b ((gd (sub (insD (sub (cpShard (sub p 0 9)) 0 9) (gd q 0) (sub (cpRange (sub r 0 2)) 0 2) (cpCellS (gd s 0))) 0 10) 9).int != (gd (sub (insD (sub (cpShard (sub p 0 9)) 0 9) (gd q 0) (sub (cpRange (sub r 0 2)) 0 2) (cpCellS (gd s 0))) 0 10) 9).int)],[.b (!(eqShard (sub (cpShard (sub p 0 9)) 0 9) (sub (cpShard (sub p 0 9)) 0 9)))],[.b (!(eqCellS (cpCellS (gd s 0)) (cpCellS (gd s 0))))],[gd (mkCellS [cpCellS (gd s 0)] (gd (mkShard (sub (cpShard (sub p 0 9)) 0 9) (.i 1)) 0)) 0],[.b ((gd (sub (insD (sub (cpShard (sub p 0 9)) 0 9) (gd q 0) (sub (cpRange (sub r 0 2)) 0 2) (cpCellS (gd s 0))) 0 10) 9).int != (gd (sub (insD (sub (cpShard (sub p 0 9)) 0 9) (gd q 0) (sub (cpRange (sub r 0 2)) 0 2) (cpCellS (gd s 0))) 0 10) 9).int)],[gd (mkShard (sub (sub (insD (sub (cpShard (sub p 0 9)) 0 9) (gd q 0) (sub (cpRange (sub r 0 2)) 0 2) (cpCellS (gd s 0))) 0 10) 0 9) (.i 1)) 0],[hdShard [gd (sub (insD (sub (cpShard (sub p 0 9)) 0 9) (gd q 0) (sub (cpRange (sub r 0 2)) 0 2) (cpCellS (gd s 0))) 0 10) 0,.l (gd (mkShard (sub (sub (insD (sub (cpShard (sub p 0 9)) 0 9) (gd q 0) (sub (cpRange (sub r 0 2)) 0 2) (cpCellS (gd s 0))) 0 10) 0 9) (.i 1)) 2).rows,.l (gd (mkShard (sub (sub (insD (sub (cpShard (sub p 0 9)) 0 9) (gd q 0) (sub (cpRange (sub r 0 2)) 0 2) (cpCellS (gd s 0))) 0 10) 0 9) (.i 1)) 3).rows,.l (gd (mkShard (sub (sub (insD (sub (cpShard (sub p 0 9)) 0 9) (gd q 0) (sub (cpRange (sub r 0 2)) 0 2) (cpCellS (gd s 0))) 0 10) 0 9) (.i 1)) 4).rows,.l (gd (mkShard (sub (sub (insD (sub (cpShard (sub p 0 9)) 0 9) (gd q 0) (sub (cpRange (sub r 0 2)) 0 2) (cpCellS (gd s 0))) 0 10) 0 9) (.i 1)) 5).rows,.l (gd (mkShard (sub (sub (insD (sub (cpShard (sub p 0 9)) 0 9) (gd q 0) (sub (cpRange (sub r 0 2)) 0 2) (cpCellS (gd s 0))) 0 10) 0 9) (.i 1)) 6).rows,.l (gd (mkShard (sub (sub (insD (sub (cpShard (sub p 0 9)) 0 9) (gd q 0) (sub (cpRange (sub r 0 2)) 0 2) (cpCellS (gd s 0))) 0 10) 0 9) (.i 1)) 7).rows,.l (gd (mkShard (sub (sub (insD (sub (cpShard (sub p 0 9)) 0 9) (gd q 0) (sub (cpRange (sub r 0 2)) 0 2) (cpCellS (gd s 0))) 0 10) 0 9) (.i 1)) 8).rows,gd (sub (insD (sub (cpShard (sub p 0 9)) 0 9) (gd q 0) (sub (cpRange (sub r 0 2)) 0 2) (cpCellS (gd s 0))) 0 10) 8] (.i 1)],[.b (ltI (hdShard [gd (sub (insD (sub (cpShard (sub p 0 9)) 0 9) (gd q 0) (sub (cpRange (sub r 0 2)) 0 2) (cpCellS (gd s 0))) 0 10) 0,.l (gd (mkShard (sub (sub (insD (sub (cpShard (sub p 0 9)) 0 9) (gd q 0) (sub (cpRange (sub r 0 2)) 0 2) (cpCellS (gd s 0))) 0 10) 0 9) (.i 1)) 2).rows,.l (gd (mkShard (sub (sub (insD (sub (cpShard (sub p 0 9)) 0 9) (gd q 0) (sub (cpRange (sub r 0 2)) 0 2) (cpCellS (gd s 0))) 0 10) 0 9) (.i 1)) 3).rows,.l (gd (mkShard (sub (sub (insD (sub (cpShard (sub p 0 9)) 0 9) (gd q 0) (sub (cpRange (sub r 0 2)) 0 2) (cpCellS (gd s 0))) 0 10) 0 9) (.i 1)) 4).rows,.l (gd (mkShard (sub (sub (insD (sub (cpShard (sub p 0 9)) 0 9) (gd q 0) (sub (cpRange (sub r 0 2)) 0 2) (cpCellS (gd s 0))) 0 10) 0 9) (.i 1)) 5).rows,.l (gd (mkShard (sub (sub (insD (sub (cpShard (sub p 0 9)) 0 9) (gd q 0) (sub (cpRange (sub r 0 2)) 0 2) (cpCellS (gd s 0))) 0 10) 0 9) (.i 1)) 6).rows,.l (gd (mkShard (sub (sub (insD (sub (cpShard (sub p 0 9)) 0 9) (gd q 0) (sub (cpRange (sub r 0 2)) 0 2) (cpCellS (gd s 0))) 0 10) 0 9) (.i 1)) 7).rows,.l (gd (mkShard (sub (sub (insD (sub (cpShard (sub p 0 9)) 0 9) (gd q 0) (sub (cpRange (sub r 0 2)) 0 2) (cpCellS (gd s 0))) 0 10) 0 9) (.i 1)) 8).rows,gd (sub (insD (sub (cpShard (sub p 0 9)) 0 9) (gd q 0) (sub (cpRange (sub r 0 2)) 0 2) (cpCellS (gd s 0))) 0 10) 8] (.i 1)).int 0)],[.b ((hdShard [gd (sub (insD (sub (cpShard (sub p 0 9)) 0 9) (gd q 0) (sub (cpRange (sub r 0 2)) 0 2) (cpCellS (gd s 0))) 0 10) 0,.l (gd (mkShard (sub (sub (insD (sub (cpShard (sub p 0 9)) 0 9) (gd q 0) (sub (cpRange (sub r 0 2)) 0 2) (cpCellS (gd s 0))) 0 10) 0 9) (.i 1)) 2).rows,.l (gd (mkShard (sub (sub (insD (sub (cpShard (sub p 0 9)) 0 9) (gd q 0) (sub (cpRange (sub r 0 2)) 0 2) (cpCellS (gd s 0))) 0 10) 0 9) (.i 1)) 3).rows,.l (gd (mkShard (sub (sub (insD (sub (cpShard (sub p 0 9)) 0 9) (gd q 0) (sub (cpRange (sub r 0 2)) 0 2) (cpCellS (gd s 0))) 0 10) 0 9) (.i 1)) 4).rows,.l (gd (mkShard (sub (sub (insD (sub (cpShard (sub p 0 9)) 0 9) (gd q 0) (sub (cpRange (sub r 0 2)) 0 2) (cpCellS (gd s 0))) 0 10) 0 9) (.i 1)) 5).rows,.l (gd (mkShard (sub (sub (insD (sub (cpShard (sub p 0 9)) 0 9) (gd q 0) (sub (cpRange (sub r 0 2)) 0 2) (cpCellS (gd s 0))) 0 10) 0 9) (.i 1)) 6).rows,.l (gd (mkShard (sub (sub (insD (sub (cpShard (sub p 0 9)) 0 9) (gd q 0) (sub (cpRange (sub r 0 2)) 0 2) (cpCellS (gd s 0))) 0 10) 0 9) (.i 1)) 7).rows,.l (gd (mkShard (sub (sub (insD (sub (cpShard (sub p 0 9)) 0 9) (gd q 0) (sub (cpRange (sub r 0 2)) 0 2) (cpCellS (gd s 0))) 0 10) 0 9) (.i 1)) 8).rows,gd (sub (insD (sub (cpShard (sub p 0 9)) 0 9) (gd q 0) (sub (cpRange (sub r 0 2)) 0 2) (cpCellS (gd s 0))) 0 10) 8] (.i 1)).int != (gd (mkShard (sub (sub (insD (sub (cpShard (sub p 0 9)) 0 9) (gd q 0) (sub (cpRange (sub r 0 2)) 0 2) (cpCellS (gd s 0))) 0 10) 0 9) (.i 1)) 0).int)],[gd p 0,gd p 1,gd p 2,gd p 3,gd p 4,gd p 5,gd p 6,gd p 7,gd p 8],[gd r 0,gd r 1],[gd (sub (insD (sub (cpShard (sub p 0 9)) 0 9) (gd q 0) (sub (cpRange (sub r 0 2)) 0 2) (cpCellS (gd s 0))) 0 10) 0,gd (sub (insD (sub (cpShard (sub p 0 9)) 0 9) (gd q 0) (sub (cpRange (sub r 0 2)) 0 2) (cpCellS (gd s 0))) 0 10) 1,gd (sub (insD (sub (cpShard (sub p 0 9)) 0 9) (gd q 0) (sub (cpRange (sub r 0 2)) 0 2) (cpCellS (gd s 0))) 0 10) 2,gd (sub (insD (sub (cpShard (sub p 0 9)) 0 9) (gd q 0) (sub (cpRange (sub r 0 2)) 0 2) (cpCellS (gd s 0))) 0 10) 3,gd (sub (insD (sub (cpShard (sub p 0 9)) 0 9) (gd q 0) (sub (cpRange (sub r 0 2)) 0 2) (cpCellS (gd s 0))) 0 10) 4,gd (sub (insD (sub (cpShard (sub p 0 9)) 0 9) (gd q 0) (sub (cpRange (sub r 0 2)) 0 2) (cpCellS (gd s 0))) 0 10) 5,gd (sub (insD (sub (cpShard (sub p 0 9)) 0 9) (gd q 0) (sub (cpRange (sub r 0 2)) 0 2) (cpCellS (gd s 0))) 0 10) 6,gd (sub (insD (sub (cpShard (sub p 0 9)) 0 9) (gd q 0) (sub (cpRange (sub r 0 2)) 0 2) (cpCellS (gd s 0))) 0 10) 7,gd (sub (insD (sub (cpShard (sub p 0 9)) 0 9) (gd q 0) (sub (cpRange (sub r 0 2)) 0 2) (cpCellS (gd s 0))) 0 10) 8],[gd (cpShard (sub p 0 9)) 0,.l (gd (mkShard (sub (cpShard (sub p 0 9)) 0 9) (.i 1)) 2).rows,.l (gd (mkShard (sub (cpShard (sub p 0 9)) 0 9) (.i 1)) 3).rows,.l (gd (mkShard (sub (cpShard (sub p 0 9)) 0 9) (.i 1)) 4).rows,.l (gd (mkShard (sub (cpShard (sub p 0 9)) 0 9) (.i 1)) 5).rows,.l (gd (mkShard (sub (cpShard (sub p 0 9)) 0 9) (.i 1)) 6).rows,.l (gd (mkShard (sub (cpShard (sub p 0 9)) 0 9) (.i 1)) 7).rows,.l (gd (mkShard (sub (cpShard (sub p 0 9)) 0 9) (.i 1)) 8).rows,gd (cpShard (sub p 0 9)) 8],[gd (sub (insD (sub (cpShard (sub p 0 9)) 0 9) (gd q 0) (sub (cpRange (sub r 0 2)) 0 2) (cpCellS (gd s 0))) 0 10) 0,.l (gd (mkShard (sub (sub (insD (sub (cpShard (sub p 0 9)) 0 9) (gd q 0) (sub (cpRange (sub r 0 2)) 0 2) (cpCellS (gd s 0))) 0 10) 0 9) (.i 1)) 2).rows,.l (gd (mkShard (sub (sub (insD (sub (cpShard (sub p 0 9)) 0 9) (gd q 0) (sub (cpRange (sub r 0 2)) 0 2) (cpCellS (gd s 0))) 0 10) 0 9) (.i 1)) 3).rows,.l (gd (mkShard (sub (sub (insD (sub (cpShard (sub p 0 9)) 0 9) (gd q 0) (sub (cpRange (sub r 0 2)) 0 2) (cpCellS (gd s 0))) 0 10) 0 9) (.i 1)) 4).rows,.l (gd (mkShard (sub (sub (insD (sub (cpShard (sub p 0 9)) 0 9) (gd q 0) (sub (cpRange (sub r 0 2)) 0 2) (cpCellS (gd s 0))) 0 10) 0 9) (.i 1)) 5).rows,.l (gd (mkShard (sub (sub (insD (sub (cpShard (sub p 0 9)) 0 9) (gd q 0) (sub (cpRange (sub r 0 2)) 0 2) (cpCellS (gd s 0))) 0 10) 0 9) (.i 1)) 6).rows,.l (gd (mkShard (sub (sub (insD (sub (cpShard (sub p 0 9)) 0 9) (gd q 0) (sub (cpRange (sub r 0 2)) 0 2) (cpCellS (gd s 0))) 0 10) 0 9) (.i 1)) 7).rows,.l (gd (mkShard (sub (sub (insD (sub (cpShard (sub p 0 9)) 0 9) (gd q 0) (sub (cpRange (sub r 0 2)) 0 2) (cpCellS (gd s 0))) 0 10) 0 9) (.i 1)) 8).rows,gd (sub (insD (sub (cpShard (sub p 0 9)) 0 9) (gd q 0) (sub (cpRange (sub r 0 2)) 0 2) (cpCellS (gd s 0))) 0 10) 8],[gd (sub (insD (sub (cpShard (sub p 0 9)) 0 9) (gd q 0) (sub (cpRange (sub r 0 2)) 0 2) (cpCellS (gd s 0))) 0 10) 0,gd (sub (insD (sub (cpShard (sub p 0 9)) 0 9) (gd q 0) (sub (cpRange (sub r 0 2)) 0 2) (cpCellS (gd s 0))) 0 10) 1,gd (sub (insD (sub (cpShard (sub p 0 9)) 0 9) (gd q 0) (sub (cpRange (sub r 0 2)) 0 2) (cpCellS (gd s 0))) 0 10) 2,gd (sub (insD (sub (cpShard (sub p 0 9)) 0 9) (gd q 0) (sub (cpRange (sub r 0 2)) 0 2) (cpCellS (gd s 0))) 0 10) 3,gd (sub (insD (sub (cpShard (sub p 0 9)) 0 9) (gd q 0) (sub (cpRange (sub r 0 2)) 0 2) (cpCellS (gd s 0))) 0 10) 4,gd (sub (insD (sub (cpShard (sub p 0 9)) 0 9) (gd q 0) (sub (cpRange (sub r 0 2)) 0 2) (cpCellS (gd s 0))) 0 10) 5,gd (sub (insD (sub (cpShard (sub p 0 9)) 0 9) (gd q 0) (sub (cpRange (sub r 0 2)) 0 2) (cpCellS (gd s 0))) 0 10) 6,gd (sub (insD (sub (cpShard (sub p 0 9)) 0 9) (gd q 0) (sub (cpRange (sub r 0 2)) 0 2) (cpCellS (gd s 0))) 0 10) 7,gd (sub (insD (sub (cpShard (sub p 0 9)) 0 9) (gd q 0) (sub (cpRange (sub r 0 2)) 0 2) (cpCellS (gd s 0))) 0 10) 8]]
theorem l_ShardInstall_ev (N:Nat) (p q r s:List D):evFn Tryz.prog l_ShardInstallT N l_ShardInstallK Tryz.f5 rb [⟨ag rLShard,p⟩,⟨ri,q⟩,⟨ag rLRange,r⟩,⟨sd (.sl 139),s⟩]=some (bo,
 nd (fair 1048576) (bif ltI (left (sizeShard (sub p 0 9)) 1048576) 0 then ob true
 else nd (fair (left (sizeShard (sub p 0 9)) 1048576)) (bif ltI (left (sizeCellS (gd s 0)) (left (sizeShard (sub p 0 9)) 1048576)) 0 then ob true
 else nd ((okShard (sub p 0 9))&&((okRange (sub r 0 2))&&((okCellS (gd s 0))&&true))) (ndN 10 (((okShard (sub p 0 9))&&((okRange (sub r 0 2))&&((okCellS (gd s 0))&&true)))&&(sameP (l_ShardInstall_evq0 N p q r s) (l_ShardInstall_evq0 N p q r s))) (nd (okShard (sub p 0 9)) (nd (okCellS (gd s 0)) (nd ((okRange (sub r 0 2))&&((shardSmall (sub (cpShard (sub p 0 9)) 0 9))&&true)) (ndN 6 (((okRange (sub r 0 2))&&((shardSmall (sub (cpShard (sub p 0 9)) 0 9))&&true))&&(sameP (l_ShardInstall_evq1 N p q r s) (l_ShardInstall_evq1 N p q r s))) (bif !(eqShard (sub (sub (insD (sub (cpShard (sub p 0 9)) 0 9) (gd q 0) (sub (cpRange (sub r 0 2)) 0 2) (cpCellS (gd s 0))) 0 10) 0 9) (sub (sub (insD (sub (cpShard (sub p 0 9)) 0 9) (gd q 0) (sub (cpRange (sub r 0 2)) 0 2) (cpCellS (gd s 0))) 0 10) 0 9)) then ob false
 else bif (gd (sub (insD (sub (cpShard (sub p 0 9)) 0 9) (gd q 0) (sub (cpRange (sub r 0 2)) 0 2) (cpCellS (gd s 0))) 0 10) 9).int != (gd (sub (insD (sub (cpShard (sub p 0 9)) 0 9) (gd q 0) (sub (cpRange (sub r 0 2)) 0 2) (cpCellS (gd s 0))) 0 10) 9).int then ob false
 else nd (okShard (sub p 0 9)) (bif !(eqShard (sub (cpShard (sub p 0 9)) 0 9) (sub (cpShard (sub p 0 9)) 0 9)) then ob false
 else nd (okCellS (gd s 0)) (bif !(eqCellS (cpCellS (gd s 0)) (cpCellS (gd s 0))) then ob false
 else bif ltI (gd (mkCellS [cpCellS (gd s 0)] (gd (mkShard (sub (cpShard (sub p 0 9)) 0 9) (.i 1)) 0)) 0).int 0 then ob false
 else bif !(eqShard (sub (sub (insD (sub (cpShard (sub p 0 9)) 0 9) (gd q 0) (sub (cpRange (sub r 0 2)) 0 2) (cpCellS (gd s 0))) 0 10) 0 9) (sub (sub (insD (sub (cpShard (sub p 0 9)) 0 9) (gd q 0) (sub (cpRange (sub r 0 2)) 0 2) (cpCellS (gd s 0))) 0 10) 0 9)) then ob false
 else bif (gd (sub (insD (sub (cpShard (sub p 0 9)) 0 9) (gd q 0) (sub (cpRange (sub r 0 2)) 0 2) (cpCellS (gd s 0))) 0 10) 9).int != (gd (sub (insD (sub (cpShard (sub p 0 9)) 0 9) (gd q 0) (sub (cpRange (sub r 0 2)) 0 2) (cpCellS (gd s 0))) 0 10) 9).int then ob false
 else bif ltI (hdShard [gd (sub (insD (sub (cpShard (sub p 0 9)) 0 9) (gd q 0) (sub (cpRange (sub r 0 2)) 0 2) (cpCellS (gd s 0))) 0 10) 0,.l (gd (mkShard (sub (sub (insD (sub (cpShard (sub p 0 9)) 0 9) (gd q 0) (sub (cpRange (sub r 0 2)) 0 2) (cpCellS (gd s 0))) 0 10) 0 9) (.i 1)) 2).rows,.l (gd (mkShard (sub (sub (insD (sub (cpShard (sub p 0 9)) 0 9) (gd q 0) (sub (cpRange (sub r 0 2)) 0 2) (cpCellS (gd s 0))) 0 10) 0 9) (.i 1)) 3).rows,.l (gd (mkShard (sub (sub (insD (sub (cpShard (sub p 0 9)) 0 9) (gd q 0) (sub (cpRange (sub r 0 2)) 0 2) (cpCellS (gd s 0))) 0 10) 0 9) (.i 1)) 4).rows,.l (gd (mkShard (sub (sub (insD (sub (cpShard (sub p 0 9)) 0 9) (gd q 0) (sub (cpRange (sub r 0 2)) 0 2) (cpCellS (gd s 0))) 0 10) 0 9) (.i 1)) 5).rows,.l (gd (mkShard (sub (sub (insD (sub (cpShard (sub p 0 9)) 0 9) (gd q 0) (sub (cpRange (sub r 0 2)) 0 2) (cpCellS (gd s 0))) 0 10) 0 9) (.i 1)) 6).rows,.l (gd (mkShard (sub (sub (insD (sub (cpShard (sub p 0 9)) 0 9) (gd q 0) (sub (cpRange (sub r 0 2)) 0 2) (cpCellS (gd s 0))) 0 10) 0 9) (.i 1)) 7).rows,.l (gd (mkShard (sub (sub (insD (sub (cpShard (sub p 0 9)) 0 9) (gd q 0) (sub (cpRange (sub r 0 2)) 0 2) (cpCellS (gd s 0))) 0 10) 0 9) (.i 1)) 8).rows,gd (sub (insD (sub (cpShard (sub p 0 9)) 0 9) (gd q 0) (sub (cpRange (sub r 0 2)) 0 2) (cpCellS (gd s 0))) 0 10) 8] (.i 1)).int 0 then ob false
 else bif (hdShard [gd (sub (insD (sub (cpShard (sub p 0 9)) 0 9) (gd q 0) (sub (cpRange (sub r 0 2)) 0 2) (cpCellS (gd s 0))) 0 10) 0,.l (gd (mkShard (sub (sub (insD (sub (cpShard (sub p 0 9)) 0 9) (gd q 0) (sub (cpRange (sub r 0 2)) 0 2) (cpCellS (gd s 0))) 0 10) 0 9) (.i 1)) 2).rows,.l (gd (mkShard (sub (sub (insD (sub (cpShard (sub p 0 9)) 0 9) (gd q 0) (sub (cpRange (sub r 0 2)) 0 2) (cpCellS (gd s 0))) 0 10) 0 9) (.i 1)) 3).rows,.l (gd (mkShard (sub (sub (insD (sub (cpShard (sub p 0 9)) 0 9) (gd q 0) (sub (cpRange (sub r 0 2)) 0 2) (cpCellS (gd s 0))) 0 10) 0 9) (.i 1)) 4).rows,.l (gd (mkShard (sub (sub (insD (sub (cpShard (sub p 0 9)) 0 9) (gd q 0) (sub (cpRange (sub r 0 2)) 0 2) (cpCellS (gd s 0))) 0 10) 0 9) (.i 1)) 5).rows,.l (gd (mkShard (sub (sub (insD (sub (cpShard (sub p 0 9)) 0 9) (gd q 0) (sub (cpRange (sub r 0 2)) 0 2) (cpCellS (gd s 0))) 0 10) 0 9) (.i 1)) 6).rows,.l (gd (mkShard (sub (sub (insD (sub (cpShard (sub p 0 9)) 0 9) (gd q 0) (sub (cpRange (sub r 0 2)) 0 2) (cpCellS (gd s 0))) 0 10) 0 9) (.i 1)) 7).rows,.l (gd (mkShard (sub (sub (insD (sub (cpShard (sub p 0 9)) 0 9) (gd q 0) (sub (cpRange (sub r 0 2)) 0 2) (cpCellS (gd s 0))) 0 10) 0 9) (.i 1)) 8).rows,gd (sub (insD (sub (cpShard (sub p 0 9)) 0 9) (gd q 0) (sub (cpRange (sub r 0 2)) 0 2) (cpCellS (gd s 0))) 0 10) 8] (.i 1)).int != (gd (mkShard (sub (sub (insD (sub (cpShard (sub p 0 9)) 0 9) (gd q 0) (sub (cpRange (sub r 0 2)) 0 2) (cpCellS (gd s 0))) 0 10) 0 9) (.i 1)) 0).int then ob false
 else nd ((okShard (sub p 0 9))&&((okRange (sub r 0 2))&&((okCellS (gd s 0))&&((shardSmall (sub (cpShard (sub p 0 9)) 0 9))&&true)))) (ndN 10 (((okShard (sub p 0 9))&&((okRange (sub r 0 2))&&((okCellS (gd s 0))&&((shardSmall (sub (cpShard (sub p 0 9)) 0 9))&&true))))&&(sameP (l_ShardInstall_evq2 N p q r s) (l_ShardInstall_evq2 N p q r s))) (bif !(eqShard (sub (sub (insD (sub (cpShard (sub p 0 9)) 0 9) (gd q 0) (sub (cpRange (sub r 0 2)) 0 2) (cpCellS (gd s 0))) 0 10) 0 9) (sub (sub (insD (sub (cpShard (sub p 0 9)) 0 9) (gd q 0) (sub (cpRange (sub r 0 2)) 0 2) (cpCellS (gd s 0))) 0 10) 0 9)) then ob false
 else bif (gd (sub (insD (sub (cpShard (sub p 0 9)) 0 9) (gd q 0) (sub (cpRange (sub r 0 2)) 0 2) (cpCellS (gd s 0))) 0 10) 9).int != (gd (sub (insD (sub (cpShard (sub p 0 9)) 0 9) (gd q 0) (sub (cpRange (sub r 0 2)) 0 2) (cpCellS (gd s 0))) 0 10) 9).int then ob false
 else bif ltI (hdShard [gd (sub (insD (sub (cpShard (sub p 0 9)) 0 9) (gd q 0) (sub (cpRange (sub r 0 2)) 0 2) (cpCellS (gd s 0))) 0 10) 0,.l (gd (mkShard (sub (sub (insD (sub (cpShard (sub p 0 9)) 0 9) (gd q 0) (sub (cpRange (sub r 0 2)) 0 2) (cpCellS (gd s 0))) 0 10) 0 9) (.i 1)) 2).rows,.l (gd (mkShard (sub (sub (insD (sub (cpShard (sub p 0 9)) 0 9) (gd q 0) (sub (cpRange (sub r 0 2)) 0 2) (cpCellS (gd s 0))) 0 10) 0 9) (.i 1)) 3).rows,.l (gd (mkShard (sub (sub (insD (sub (cpShard (sub p 0 9)) 0 9) (gd q 0) (sub (cpRange (sub r 0 2)) 0 2) (cpCellS (gd s 0))) 0 10) 0 9) (.i 1)) 4).rows,.l (gd (mkShard (sub (sub (insD (sub (cpShard (sub p 0 9)) 0 9) (gd q 0) (sub (cpRange (sub r 0 2)) 0 2) (cpCellS (gd s 0))) 0 10) 0 9) (.i 1)) 5).rows,.l (gd (mkShard (sub (sub (insD (sub (cpShard (sub p 0 9)) 0 9) (gd q 0) (sub (cpRange (sub r 0 2)) 0 2) (cpCellS (gd s 0))) 0 10) 0 9) (.i 1)) 6).rows,.l (gd (mkShard (sub (sub (insD (sub (cpShard (sub p 0 9)) 0 9) (gd q 0) (sub (cpRange (sub r 0 2)) 0 2) (cpCellS (gd s 0))) 0 10) 0 9) (.i 1)) 7).rows,.l (gd (mkShard (sub (sub (insD (sub (cpShard (sub p 0 9)) 0 9) (gd q 0) (sub (cpRange (sub r 0 2)) 0 2) (cpCellS (gd s 0))) 0 10) 0 9) (.i 1)) 8).rows,gd (sub (insD (sub (cpShard (sub p 0 9)) 0 9) (gd q 0) (sub (cpRange (sub r 0 2)) 0 2) (cpCellS (gd s 0))) 0 10) 8] (.i 1)).int 0 then ob false
 else bif (hdShard [gd (sub (insD (sub (cpShard (sub p 0 9)) 0 9) (gd q 0) (sub (cpRange (sub r 0 2)) 0 2) (cpCellS (gd s 0))) 0 10) 0,.l (gd (mkShard (sub (sub (insD (sub (cpShard (sub p 0 9)) 0 9) (gd q 0) (sub (cpRange (sub r 0 2)) 0 2) (cpCellS (gd s 0))) 0 10) 0 9) (.i 1)) 2).rows,.l (gd (mkShard (sub (sub (insD (sub (cpShard (sub p 0 9)) 0 9) (gd q 0) (sub (cpRange (sub r 0 2)) 0 2) (cpCellS (gd s 0))) 0 10) 0 9) (.i 1)) 3).rows,.l (gd (mkShard (sub (sub (insD (sub (cpShard (sub p 0 9)) 0 9) (gd q 0) (sub (cpRange (sub r 0 2)) 0 2) (cpCellS (gd s 0))) 0 10) 0 9) (.i 1)) 4).rows,.l (gd (mkShard (sub (sub (insD (sub (cpShard (sub p 0 9)) 0 9) (gd q 0) (sub (cpRange (sub r 0 2)) 0 2) (cpCellS (gd s 0))) 0 10) 0 9) (.i 1)) 5).rows,.l (gd (mkShard (sub (sub (insD (sub (cpShard (sub p 0 9)) 0 9) (gd q 0) (sub (cpRange (sub r 0 2)) 0 2) (cpCellS (gd s 0))) 0 10) 0 9) (.i 1)) 6).rows,.l (gd (mkShard (sub (sub (insD (sub (cpShard (sub p 0 9)) 0 9) (gd q 0) (sub (cpRange (sub r 0 2)) 0 2) (cpCellS (gd s 0))) 0 10) 0 9) (.i 1)) 7).rows,.l (gd (mkShard (sub (sub (insD (sub (cpShard (sub p 0 9)) 0 9) (gd q 0) (sub (cpRange (sub r 0 2)) 0 2) (cpCellS (gd s 0))) 0 10) 0 9) (.i 1)) 8).rows,gd (sub (insD (sub (cpShard (sub p 0 9)) 0 9) (gd q 0) (sub (cpRange (sub r 0 2)) 0 2) (cpCellS (gd s 0))) 0 10) 8] (.i 1)).int != (gd (mkShard (sub (sub (insD (sub (cpShard (sub p 0 9)) 0 9) (gd q 0) (sub (cpRange (sub r 0 2)) 0 2) (cpCellS (gd s 0))) 0 10) 0 9) (.i 1)) 0).int then ob false
 else ob true))))))))))))):=by kernel_rfl
theorem joinR_le (z u:D):∀ k,(joinR z u k).rows.length≤z.rows.length+k
 | 0=>Nat.le_refl _
 | k+1=>by
  have ih:=joinR_le z u k
  have hf:∀ (xs:List (Int × Int)) (t:Int),(lessK t xs).length+(moreK t xs).length≤xs.length:=fun xs t=>by
   induction xs with
   | nil=>exact Nat.le_refl _
   | cons a xs ih =>
    unfold lessK moreK at ih ⊢
    rw [List.filter_cons,List.filter_cons]
    rcases Int.lt_trichotomy a.1 t with h1 | h1 | h1
    ·simp [h1,show ¬ t<a.1 from by omega]; omega
    ·simp [h1]; omega
    ·simp [show ¬ a.1<t from by omega,show t<a.1 from h1]; omega
  have:=hf (prs (joinR z u k)) (gd (u.rows.getD k []) 0).int
  rw [prs_len] at this
  rw [joinR,prD_len]
  unfold putP
  rw [cond_true,List.length_append,List.length_append,List.length_singleton]
  omega
theorem joinS_len (z u:D):(gd (sub (joinS z u) 0 2) 0).rows.length≤60:=by
 show (bif joinOk z u then (joinR z u u.rows.length).rows else []).length≤60
 cases h:joinOk z u
 ·exact Nat.zero_le _
 ·rw [cond_true]
  have:=joinR_le z u u.rows.length
  simp only [joinOk,Bool.and_eq_true,leI,decide_eq_true_eq] at h
  have:=h.2.2.1
  omega
theorem ins_ct (p:List D) (q:D) (r:List D) (s:D):ctShard (sub (sub (insD p q r s) 0 10) 0 9)≤20000:=by
 unfold insD
 cases hb:(!(storeOk s)||outS r s)||(s_l13RankF (sub p 0 9) [q] (sub r 0 2)==1) with
 | true=>exact Nat.zero_le _
 | false =>
 rw [cond_false]
 rcases rank_cases p q r with hc | ⟨hc,hsh,hra⟩ | ⟨hc,hsh,hra⟩
 ·rw [hc,show ((1:Int)==1)=true from rfl,Bool.or_true] at hb
  cases hb
 ·rw [hc]
  exact dupShard_ct hsh
 ·rw [hc]
  have hd:=dupShard_ct hsh
  obtain ⟨h1,h2,h3,h4,h5,h6,h7⟩:=dup_ct hsh
  show ctShard (sub (sub (insR p q r s) 0 10) 0 9)≤20000
  unfold insR
  have hq:∀ x,ctShard (sub (sub ([gd (sub (dupShard (sub p 0 9)) 0 9) 0,gd (sub (dupShard (sub p 0 9)) 0 9) 1,gd (sub (dupShard (sub p 0 9)) 0 9) 2,gd (sub (dupShard (sub p 0 9)) 0 9) 3,gd (sub (dupShard (sub p 0 9)) 0 9) 4,gd (sub (dupShard (sub p 0 9)) 0 9) 5,gd (sub (dupShard (sub p 0 9)) 0 9) 6,gd (sub (dupShard (sub p 0 9)) 0 9) 7,q] ++ [x]) 0 10) 0 9)≤20000:=fun x=>hd
  cases q.int==(gd p 8).int with
  | true=>cases haveAll (gd p 1) (sub r 0 2) <;> exact hd
  | false =>
  cases haveAnyB (gd p 1) (sub r 0 2) with
  | true=>exact hd
  | false =>
  cases (gd (sub (chgT (gd p 1) (sub r 0 2) (.b true)) 0 2) 1).bool with
  | false=>exact hd
  | true =>
  cases ltI 60 (w64 (roomOf p+(s.rows.length:Int))) with
  | true=>exact hd
  | false =>
  have c1:=ctRange_n (gd (sub (chgT (gd p 1) (sub r 0 2) (.b true)) 0 2) 0)
  have c1':=chgT_len (gd p 1) (sub r 0 2) (.b true)
  have c2:=ctRange_n (.l (gd p 2).rows)
  have c3:=ctCell_n (gd (sub (joinS (gd p 3) s) 0 2) 0)
  have c3':=joinS_len (gd p 3) s
  have c4:=ctLock_n (.l (gd p 4).rows)
  have c6:=ctInt_n (.l (gd p 6).rows)
  have c7:=ctInt_n (.l (gd p 7).rows)
  rw [rows_l] at c2 c4 c6 c7
  have h2:(gd p 2).rows.length≤16:=h2
  have h4:(gd p 4).rows.length≤40:=h4
  have h6:(gd p 6).rows.length≤60:=h6
  have h7:(gd p 7).rows.length≤60:=h7
  show ctRangeS (gd (sub (chgT (gd p 1) (sub r 0 2) (.b true)) 0 2) 0)+(ctRangeS (.l (gd p 2).rows)+(ctCellS (gd (sub (joinS (gd p 3) s) 0 2) 0)+(ctLockS (.l (gd p 4).rows)+(ctHeldS (gd (sub (dupShard (sub p 0 9)) 0 9) 5)+(ctIntS (.l (gd p 6).rows)+ctIntS (.l (gd p 7).rows))))))≤20000
  omega
theorem held_shard {F:List D} (h1:ctShard (sub F 0 9)≤20000) :
  hdShard [gd F 0,.l (gd (mkShard (sub F 0 9) (.i 1)) 2).rows,.l (gd (mkShard (sub F 0 9) (.i 1)) 3).rows,.l (gd (mkShard (sub F 0 9) (.i 1)) 4).rows,.l (gd (mkShard (sub F 0 9) (.i 1)) 5).rows,.l (gd (mkShard (sub F 0 9) (.i 1)) 6).rows,.l (gd (mkShard (sub F 0 9) (.i 1)) 7).rows,.l (gd (mkShard (sub F 0 9) (.i 1)) 8).rows,gd F 8] (.i 1)=gd (mkShard (sub F 0 9) (.i 1)) 0∧ltI (gd (mkShard (sub F 0 9) (.i 1)) 0).int 0=false:=by
 have hc:(D.i 1).int+(ctShard (sub F 0 9):Nat)≤4611686018427387904:=by show (1:Int)+_≤_; omega
 have hm:=mkShard_k (p:=sub F 0 9) (q:=.i 1) (by decide) hc
 have hm:(gd (mkShard (sub F 0 9) (.i 1)) 0).int=1+(ctShard (sub F 0 9):Nat):=hm
 exact ⟨heldShard (p:=sub F 0 9) (q:=.i 1) (by decide) hc,ltI_f (by omega)⟩
def l_ShardInstallE:Ent:=(5,e4 (ag rLShard) ri (ag rLRange) (sd (.sl 139)) fun p q r s=>(⟨rb,[.b true]⟩,true))
theorem l_ShardInstall_ok:EntOk Tryz.prog l_ShardInstallE:=e4_ok fun p q r s h=>evFn_sound (N:=0) (ks:=l_ShardInstallK) (key:=bo) l_ShardInstallT_ok (enters Tryz.func5) Tryz.func5 fun hw=>by
 rw [l_ShardInstall_ev]
 rw [show fair 1048576=true from rfl]
 cases h0:ltI (left (sizeShard (sub p 0 9)) 1048576) 0
 ·obtain ⟨e0,l0⟩:=left_ge h0 (by omega)
  have l0:sizeShard (sub p 0 9)≤1048576:=by omega
  have hf:fair (left (sizeShard (sub p 0 9)) 1048576)=true:=by
   rw [e0]
   unfold fair
   rw [Bool.and_eq_true,decide_eq_true_eq,decide_eq_true_eq]
   omega
  rw [hf]
  cases h1:ltI (left (sizeCellS (gd s 0)) (left (sizeShard (sub p 0 9)) 1048576)) 0
  ·obtain ⟨e1,l1⟩:=left_ge h1 (by omega)
   have l1:sizeCellS (gd s 0)≤1048576:=by omega
   have hok:=okShard_of (m:=1048576) (by omega) l0
   have hokc:okCellS (gd s 0)=true:=okF (ok:=fun r=>okCell (sub r 0 2)) (m:=1048576) (by omega) l1 fun _=>rfl
   have hsm:shardSmall (sub (cpShard (sub p 0 9)) 0 9)=true:=shard_small l0
   have hmk:=mkShard_k (p:=sub (cpShard (sub p 0 9)) 0 9) (q:=.i 1) (by decide) (by
    have:=bdShard (sub p 0 9)
    have:ctShard (sub (cpShard (sub p 0 9)) 0 9)≤16*sizeShard (sub p 0 9):=this
    show (1:Int)+(ctShard (sub (cpShard (sub p 0 9)) 0 9):Nat)≤_
    omega)
   have hmk:(gd (mkShard (sub (cpShard (sub p 0 9)) 0 9) (.i 1)) 0).int=1+(ctShard (sub (cpShard (sub p 0 9)) 0 9):Nat):=hmk
   have hb1:ctShard (sub (cpShard (sub p 0 9)) 0 9)≤16*sizeShard (sub p 0 9):=bdShard (sub p 0 9)
   have hb2:=bdCellS (gd s 0)
   have hmc:=mkCellS_k (x:=cpCellS (gd s 0)) (q:=gd (mkShard (sub (cpShard (sub p 0 9)) 0 9) (.i 1)) 0) (by omega) (by omega)
   have hk0:ltI (gd (mkCellS [cpCellS (gd s 0)] (gd (mkShard (sub (cpShard (sub p 0 9)) 0 9) (.i 1)) 0)) 0).int 0=false:=ltI_f (by omega)
   have c1:=ins_ct (sub (cpShard (sub p 0 9)) 0 9) (gd q 0) (sub (cpRange (sub r 0 2)) 0 2) (cpCellS (gd s 0))
   rw [hok,hokc,hsm,hk0]
   simp only [sameP_self,show okRange (sub r 0 2)=true from rfl,Bool.and_self,ndN_true,nd_true]
   generalize sub (insD (sub (cpShard (sub p 0 9)) 0 9) (gd q 0) (sub (cpRange (sub r 0 2)) 0 2) (cpCellS (gd s 0))) 0 10=F at *
   obtain ⟨g1,g2⟩:=held_shard c1
   rw [g1,g2,eqShard_refl,eqShard_refl,eqCellS_refl]
   simp only [nd,cond_true,cond_false,beq_self_eq_true,bne_self_eq_false,Bool.not_true]
  ·rfl
 ·rfl
end Go.Proofs.YtpdfmcmnjikppaaGreat
