/-
 Texts of the proof,put together: part 5.
-/
import Derived.Test.YtpdfmcmnjikppaaGreatSI1
import Derived.Test.YtpdfmcmnjikppaaGreatSI2
import Derived.Test.YtpdfmcmnjikppaaGreatSI3
import Derived.Test.YtpdfmcmnjikppaaGreatSI4
import Derived.Test.YtpdfmcmnjikppaaGreatProg
import Derived.WalkKit
import Derived.ProofKit
import Derived.Shelf.RegionOpenPlain
import Derived.Deep.RegionLaw
import Derived.Deep.LoopGhost
import Derived.Lib.SliceRun
import Derived.Lib.AppendZerosOnto
import Derived.Lib.Hide
import Derived.OwnWalk
import Derived.Laws.IdiomCopy
import Derived.Shelf.Spec.SlicesInsert
import Derived.Shelf.SlSortCmp.NoneTotal
import Derived.Shelf.Spec.SlicesGrow
set_option linter.unusedSimpArgs false
set_option linter.unusedVariables false
set_option linter.unusedSectionVars false
namespace Go.Proofs.YtpdfmcmnjikppaaGreat
set_option maxRecDepth 100000
set_option maxHeartbeats 4000000
open Go.RowKit Go.Lib
def cellsW (k:Nat):List (List D)→List Value
 | [] => []
 | r::rs=>(List.range k).map (fun j=>.int .i64 (gd r j).int)++cellsW k rs
theorem cellsW_len (k:Nat):∀ rows,(cellsW k rows).length=rows.length*k
 | []=>by simp [cellsW]
 | r::rs=>by
  simp only [cellsW,List.length_append,List.length_map,List.length_range,cellsW_len k rs,List.length_cons,Nat.add_mul]
  omega
theorem cellsW_get (k:Nat):∀ (rows:List (List D)) (i j:Nat),i<rows.length→j<k→(cellsW k rows)[i*k+j]?=some (.int .i64 (gd (rows.getD i []) j).int)
 | [],i,j,h,_=>by simp at h
 | r::rs,0,j,_,hj=>by
  rw [cellsW,Nat.zero_mul,Nat.zero_add,List.getElem?_append_left (by simpa using hj)]
  simp [hj]
 | r::rs,i+1,j,h,hj=>by
  have:=cellsW_get k rs i j (by simpa using h) hj
  rw [cellsW,List.getElem?_append_right (by simp only [List.length_map,List.length_range,Nat.add_mul]; omega)]
  simp only [List.length_map,List.length_range]
  rw [show (i+1)*k+j - k=i*k+j from by rw [Nat.add_mul]; omega,this]
  rfl
theorem cellsW_all {k:Nat} {F:Nat→Value→Prop} {rows:List (List D)} (h:∀ i j,i<rows.length→j<k→F (i*k+j) (.int .i64 (gd (rows.getD i []) j).int)) {m:Nat} {v:Value} (hm:(cellsW k rows)[m]?=some v):F m v:=by
 have hlt:=(List.getElem?_eq_some_iff.1 hm).1
 rw [cellsW_len] at hlt
 have hk:0<k:=by
  rcases Nat.eq_zero_or_pos k with e | e
  ·subst e; simp at hlt
  ·exact e
 have hi:m / k<rows.length:=by rw [Nat.div_lt_iff_lt_mul hk]; exact hlt
 have hj:=Nat.mod_lt m hk
 have e:m / k*k+m % k=m:=by rw [Nat.mul_comm]; exact Nat.div_add_mod m k
 have h1:=cellsW_get k rows (m / k) (m % k) hi hj
 have h2:=h (m / k) (m % k) hi hj
 rw [e] at h1 h2
 rw [hm] at h1
 injection h1 with h1
 rw [h1]; exact h2
theorem cellsW_one (k:Nat) (rows:List (List D)):∀ v∈cellsW k rows,v.oneCell'=true:=fun v hv=>by
 obtain ⟨m,hm⟩:=List.getElem?_of_mem hv
 exact cellsW_all (F:=fun _ v=>v.oneCell'=true) (fun i j _ _=>rfl) hm
theorem vd_cellsW {P:Program} {w:World} {prot:Nat→Nat} {x:D} {v:Value} {e:TypeId} {k:Nat} (hrow:rowOf P e=some (List.replicate k (.int .i64))) (hk:0<k) (h:VD P w prot (.sl e) x v):∃ A c,v=.slice A x.rows.length c∧x.rows.length≤c∧c≤9223372036854775807 ∧
  (0<x.rows.length→∃ b o,A=some ⟨b,o,none⟩)∧∀ b o,A=some ⟨b,o,none⟩→∀ m v,(cellsW k x.rows)[m]?=some v→w.cell? ⟨b,o+m,none⟩=some v∧o+m<prot b:=by
 cases h with
 | sl e d A c row u hr h1 h2 h3 h4 =>
  rw [hrow] at hr
  injection hr with hr
  subst hr
  simp only [List.length_replicate] at h3 h4
  refine ⟨A,c,rfl,h1,h2,fun h0=>?_,fun b o hA m v hm=>?_⟩
  ·obtain ⟨b,o,hA,_⟩:=h3 0 0 h0 hk
   exact ⟨b,o,hA⟩
  ·subst hA
   refine cellsW_all (F:=fun m v=>w.cell? ⟨b,o+m,none⟩=some v∧o+m<prot b) (fun i j hi hj=>?_) hm
   obtain ⟨b',o',hA,hc,hp⟩:=h3 i j hi hj
   injection hA with hA
   injection hA with e1 e2 _
   subst e1; subst e2
   have hv:=h4 i j (.int .i64) hi (by simp [hj])
   generalize u i j=z at *
   cases hv
   exact ⟨hc,hp⟩
theorem res_cellsW {P:Program} {prot:Nat→Nat} {w w':World} {x:D} {v:Value} {e:TypeId} {k:Nat} (hrow:rowOf P e=some (List.replicate k (.int .i64))) (hfr:∀ b,w.heap.size≤b→prot b=0) (hb:Below w.heap.size w w') (ho:w'.ownsRow w.heap.size e k v x.rows.length (cellsW k x.rows)) :
  ∃ g',Res P prot w w' ⟨.one (.c (.own (0,0) true e)),[x]⟩ v g':=by
 obtain ⟨hl,⟨rfl,h0⟩ | ⟨blk,cap,cur,rfl,hblk,hh,hcap,hmax,hsz,htk⟩⟩:=ho
 ·exact ⟨g0 0 prot,hb,⟨_,hrow,.inl ⟨List.eq_nil_of_length_eq_zero h0,rfl,none,rfl⟩⟩,fun _ _=>rfl,fun b hb'=>⟨hfr b (Nat.le_trans hb.size hb'),rfl⟩⟩
 ·refine ⟨⟨prot,fun b=>if b=blk then some (.inr (0,0)) else none,fun _=>0,fun _=>blk,fun _=>x.rows.length,fun _=>k,fun _=>e,fun _ => [],fun _=>0,fun _=>False⟩,hb,⟨_,hrow,.inr ⟨cap,cur,e,rfl,hcap,⟨by unfold maxLen at hmax; omega,rfl,rfl⟩,hblk,if_pos rfl,hh,by simpa using hsz,rfl,by simp,?_,?_⟩⟩,fun _ _=>rfl,fun b hb'=>⟨hfr b (Nat.le_trans hb.size hb'),?_⟩⟩
  ·show prot blk=0
   exact hfr blk hblk
  ·intro i j s hi hs
   have hi:i<x.rows.length:=hi
   obtain ⟨hj,rfl⟩:j<k∧S.int .i64=s:=by
    obtain ⟨hj,h2⟩:=List.getElem?_eq_some_iff.1 hs
    exact ⟨by simpa using hj,by simpa using h2⟩
   have q:=cellsW_get k x.rows i j hi hj
   have hlt:i*k+j<x.rows.length*k:=by
    have:=(List.getElem?_eq_some_iff.1 q).1
    rw [cellsW_len] at this
    exact this
   rw [← htk,List.getElem?_take,if_pos hlt] at q
   exact ⟨.int .i64 (gd (x.rows.getD i []) j).int,by simpa using q,.of_vd (.int .i64 _) (.inr rfl)⟩
  ·have:=lt_of_heap hh
   exact if_neg (by omega)
theorem rowW_Range:rowOf Tryz.prog 41=some (List.replicate 2 (.int .i64)):=by kernel_rfl
abbrev zcW_Range:Value:=(.agg #[.int .i64 0,.int .i64 0])
theorem infoW_Range:(Tryz.prog.info? 41).map (fun i=>(i.zero,i.size,i.bytes))=some (some zcW_Range,2,16):=by kernel_rfl
theorem cloneW_Range (a:Addr) (n c:Nat) (news:List Value) (w:World) (hl:news.length=n*2) (hn:n≤2000000) (hc:∀ j u,news[j]?=some u→w.cell? (a.add j)=some u) (h1:∀ u∈news,u.oneCell'=true) :
  Calls Tryz.prog 179 #[.slice (some a) n c] w fun e w'=>∃ v',e=.returned v'∧w'.ownsRow w.heap.size 41 2 v' n news∧Below w.heap.size w w':=by
 obtain ⟨i0,hi0,hz0,hzs,hzb⟩:=info_parts infoW_Range
 have mixed:Tryz.prog.follows .mixedOrders=true:=by kernel_rfl
 have q22:∀ (w:World) (a:Option Addr) (n c n' c':Nat),(binOp .eql 32 (.slice a n c) (.slice none n' c')).run Tryz.prog w=.ok (.bool a.isNone) w:=fun w a n c n' c'=>Lib.run_eql_slice_nil w _ _ a n c n' c' Tryz.underlying32
 have A:Aside (∀ j u,news[j]?=some u→w.cell? (a.add j)=some u):=hc
 clear hc
 go_enter Tryz.func179,Tryz.ntmps179
 go_wp2_with (at_builtin; refine wpList_append_own _ rfl _ _ 32 rfl w.heap.size 41 i0 zcW_Range 2 16 Tryz.underlying32 hi0 hz0 hzs hzb rfl (by decide) _ _ _ rfl (World.ownsRow_made w #[] 0 (Nat.le_refl _) (Nat.zero_le _) (by simp)) a n c news rfl ?qc1 ?qc2 ?qc3 ?qc4 ?qc5 ?qc6 ?_)
 case qc1=>exact hl
 case qc2 =>
  intro j u hj
  exact Lib.cell?_alloc_some _ (A.out j u hj)
 case qc3=>exact h1
 case qc4=>rw [Nat.zero_add]; unfold maxLen; omega
 case qc5=>rw [Nat.zero_add]; omega
 case qc6=>simp
 intro v' w1 hown hgrow hnil
 go_wp2
 go_ret
 refine ⟨v',rfl,by simpa using hown,?_⟩
 exact ((Below.refl _ w).alloc (Nat.le_refl _) _).grown hgrow (by simp) (by intro k hk; simp [Value.ownBlock] at hk; omega)
theorem cloneWn_Range (n c:Nat) (w:World) :
  Calls Tryz.prog 179 #[.slice none n c] w fun e w'=>e=.returned (.slice none 0 0)∧w'=w:=by
 have mixed:Tryz.prog.follows .mixedOrders=true:=by kernel_rfl
 have q22:∀ (w:World) (a:Option Addr) (n c n' c':Nat),(binOp .eql 32 (.slice a n c) (.slice none n' c')).run Tryz.prog w=.ok (.bool a.isNone) w:=fun w a n c n' c'=>Lib.run_eql_slice_nil w _ _ a n c n' c' Tryz.underlying32
 go_enter Tryz.func179,Tryz.ntmps179
 go_wp2
 go_ret
 exact ⟨rfl,rfl⟩
def i_clonRangeE:Ent:=(179,e1 (sd (.sl 41)) fun p=>(⟨.one (.c (.own (0,0) true 41)),[.l (gd p 0).rows]⟩,leI ((gd p 0).rows.length:Int) 2000000))
theorem i_clonRange_ok:EntOk Tryz.prog i_clonRangeE:=e1_ok fun p h=>by
 have h:leI ((gd p 0).rows.length:Int) 2000000=true:=h
 simp only [leI,decide_eq_true_eq] at h
 refine SoundFn.of rfl ⟨enters Tryz.func179 (by kernel_rfl) (by kernel_rfl),fun w prot vs hargs hfr=>?_⟩
 obtain ⟨u,hu,hv⟩:=hargs.2 0 _ rfl
 have hvs:vs = #[u]:=by
  have hs:vs.size=1:=hargs.1
  refine Array.ext (by simpa using hs) fun i h1 h2=>?_
  have:i=0:=by omega
  subst this
  rw [Array.getElem?_eq_getElem h1] at hu
  injection hu
 subst hvs
 have hv:VD Tryz.prog w prot (.sl 41) (gd p 0) u:=hv
 generalize gd p 0=x at *
 obtain ⟨A,c,rfl,h1,h2,h3,h4⟩:=vd_cellsW rowW_Range (by decide) hv
 cases A with
 | none =>
  have h0:x.rows.length=0:=by
   rcases Nat.eq_zero_or_pos x.rows.length with h' | h'
   ·exact h'
   ·obtain ⟨b,o,hA⟩:=h3 h'
    cases hA
  have hx0:x.rows = []:=List.eq_nil_of_length_eq_zero h0
  refine (cloneWn_Range x.rows.length c w).mono ?_
  rintro ex w' ⟨rfl,rfl⟩
  obtain ⟨g',hg⟩:=res_cellsW (x:=x) (prot:=prot) (w:=w') (w':=w') rowW_Range hfr (Below.refl _ _) (v:=.slice none 0 0) ⟨cellsW_len _ _,.inl ⟨rfl,h0⟩⟩
  exact ⟨_,g',rfl,hg.below,hg.val,hg.prot,hg.fresh⟩
 | some ad =>
  refine (cloneW_Range ad x.rows.length c (cellsW 2 x.rows) w (cellsW_len _ _) (by omega) (fun j u hj=>?_) (cellsW_one _ _)).mono ?_
  ·have hpos:0<x.rows.length:=by
    have:=(List.getElem?_eq_some_iff.1 hj).1
    rw [cellsW_len] at this
    omega
   obtain ⟨b,o,hA⟩:=h3 hpos
   injection hA with hA
   subst hA
   rw [Addr.add_lit]
   exact (h4 b o rfl j u hj).1
  ·rintro ex w' ⟨v',rfl,hown,hbel⟩
   obtain ⟨g',hg⟩:=res_cellsW (x:=x) (prot:=prot) rowW_Range hfr hbel hown
   exact ⟨_,g',rfl,hg.below,hg.val,hg.prot,hg.fresh⟩
end Go.Proofs.YtpdfmcmnjikppaaGreat
namespace Go.Proofs.YtpdfmcmnjikppaaGreat
set_option maxRecDepth 100000
set_option maxHeartbeats 4000000
open Go.RowKit Go.Lib
theorem rowW_Lock:rowOf Tryz.prog 93=some (List.replicate 4 (.int .i64)):=by kernel_rfl
abbrev zcW_Lock:Value:=(.agg #[.int .i64 0,.int .i64 0,.int .i64 0,.int .i64 0])
theorem infoW_Lock:(Tryz.prog.info? 93).map (fun i=>(i.zero,i.size,i.bytes))=some (some zcW_Lock,4,32):=by kernel_rfl
theorem cloneW_Lock (a:Addr) (n c:Nat) (news:List Value) (w:World) (hl:news.length=n*4) (hn:n≤2000000) (hc:∀ j u,news[j]?=some u→w.cell? (a.add j)=some u) (h1:∀ u∈news,u.oneCell'=true) :
  Calls Tryz.prog 165 #[.slice (some a) n c] w fun e w'=>∃ v',e=.returned v'∧w'.ownsRow w.heap.size 93 4 v' n news∧Below w.heap.size w w':=by
 obtain ⟨i0,hi0,hz0,hzs,hzb⟩:=info_parts infoW_Lock
 have mixed:Tryz.prog.follows .mixedOrders=true:=by kernel_rfl
 have q22:∀ (w:World) (a:Option Addr) (n c n' c':Nat),(binOp .eql 34 (.slice a n c) (.slice none n' c')).run Tryz.prog w=.ok (.bool a.isNone) w:=fun w a n c n' c'=>Lib.run_eql_slice_nil w _ _ a n c n' c' Tryz.underlying34
 have A:Aside (∀ j u,news[j]?=some u→w.cell? (a.add j)=some u):=hc
 clear hc
 go_enter Tryz.func165,Tryz.ntmps165
 go_wp2_with (at_builtin; refine wpList_append_own _ rfl _ _ 34 rfl w.heap.size 93 i0 zcW_Lock 4 32 Tryz.underlying34 hi0 hz0 hzs hzb rfl (by decide) _ _ _ rfl (World.ownsRow_made w #[] 0 (Nat.le_refl _) (Nat.zero_le _) (by simp)) a n c news rfl ?qc1 ?qc2 ?qc3 ?qc4 ?qc5 ?qc6 ?_)
 case qc1=>exact hl
 case qc2 =>
  intro j u hj
  exact Lib.cell?_alloc_some _ (A.out j u hj)
 case qc3=>exact h1
 case qc4=>rw [Nat.zero_add]; unfold maxLen; omega
 case qc5=>rw [Nat.zero_add]; omega
 case qc6=>simp
 intro v' w1 hown hgrow hnil
 go_wp2
 go_ret
 refine ⟨v',rfl,by simpa using hown,?_⟩
 exact ((Below.refl _ w).alloc (Nat.le_refl _) _).grown hgrow (by simp) (by intro k hk; simp [Value.ownBlock] at hk; omega)
theorem cloneWn_Lock (n c:Nat) (w:World) :
  Calls Tryz.prog 165 #[.slice none n c] w fun e w'=>e=.returned (.slice none 0 0)∧w'=w:=by
 have mixed:Tryz.prog.follows .mixedOrders=true:=by kernel_rfl
 have q22:∀ (w:World) (a:Option Addr) (n c n' c':Nat),(binOp .eql 34 (.slice a n c) (.slice none n' c')).run Tryz.prog w=.ok (.bool a.isNone) w:=fun w a n c n' c'=>Lib.run_eql_slice_nil w _ _ a n c n' c' Tryz.underlying34
 go_enter Tryz.func165,Tryz.ntmps165
 go_wp2
 go_ret
 exact ⟨rfl,rfl⟩
def i_clonLockE:Ent:=(165,e1 (sd (.sl 93)) fun p=>(⟨.one (.c (.own (0,0) true 93)),[.l (gd p 0).rows]⟩,leI ((gd p 0).rows.length:Int) 2000000))
theorem i_clonLock_ok:EntOk Tryz.prog i_clonLockE:=e1_ok fun p h=>by
 have h:leI ((gd p 0).rows.length:Int) 2000000=true:=h
 simp only [leI,decide_eq_true_eq] at h
 refine SoundFn.of rfl ⟨enters Tryz.func165 (by kernel_rfl) (by kernel_rfl),fun w prot vs hargs hfr=>?_⟩
 obtain ⟨u,hu,hv⟩:=hargs.2 0 _ rfl
 have hvs:vs = #[u]:=by
  have hs:vs.size=1:=hargs.1
  refine Array.ext (by simpa using hs) fun i h1 h2=>?_
  have:i=0:=by omega
  subst this
  rw [Array.getElem?_eq_getElem h1] at hu
  injection hu
 subst hvs
 have hv:VD Tryz.prog w prot (.sl 93) (gd p 0) u:=hv
 generalize gd p 0=x at *
 obtain ⟨A,c,rfl,h1,h2,h3,h4⟩:=vd_cellsW rowW_Lock (by decide) hv
 cases A with
 | none =>
  have h0:x.rows.length=0:=by
   rcases Nat.eq_zero_or_pos x.rows.length with h' | h'
   ·exact h'
   ·obtain ⟨b,o,hA⟩:=h3 h'
    cases hA
  have hx0:x.rows = []:=List.eq_nil_of_length_eq_zero h0
  refine (cloneWn_Lock x.rows.length c w).mono ?_
  rintro ex w' ⟨rfl,rfl⟩
  obtain ⟨g',hg⟩:=res_cellsW (x:=x) (prot:=prot) (w:=w') (w':=w') rowW_Lock hfr (Below.refl _ _) (v:=.slice none 0 0) ⟨cellsW_len _ _,.inl ⟨rfl,h0⟩⟩
  exact ⟨_,g',rfl,hg.below,hg.val,hg.prot,hg.fresh⟩
 | some ad =>
  refine (cloneW_Lock ad x.rows.length c (cellsW 4 x.rows) w (cellsW_len _ _) (by omega) (fun j u hj=>?_) (cellsW_one _ _)).mono ?_
  ·have hpos:0<x.rows.length:=by
    have:=(List.getElem?_eq_some_iff.1 hj).1
    rw [cellsW_len] at this
    omega
   obtain ⟨b,o,hA⟩:=h3 hpos
   injection hA with hA
   subst hA
   rw [Addr.add_lit]
   exact (h4 b o rfl j u hj).1
  ·rintro ex w' ⟨v',rfl,hown,hbel⟩
   obtain ⟨g',hg⟩:=res_cellsW (x:=x) (prot:=prot) rowW_Lock hfr hbel hown
   exact ⟨_,g',rfl,hg.below,hg.val,hg.prot,hg.fresh⟩
theorem rowW_Write:rowOf Tryz.prog 70=some (List.replicate 2 (.int .i64)):=by kernel_rfl
abbrev zcW_Write:Value:=(.agg #[.int .i64 0,.int .i64 0])
theorem infoW_Write:(Tryz.prog.info? 70).map (fun i=>(i.zero,i.size,i.bytes))=some (some zcW_Write,2,16):=by kernel_rfl
theorem cloneW_Write (a:Addr) (n c:Nat) (news:List Value) (w:World) (hl:news.length=n*2) (hn:n≤2000000) (hc:∀ j u,news[j]?=some u→w.cell? (a.add j)=some u) (h1:∀ u∈news,u.oneCell'=true) :
  Calls Tryz.prog 119 #[.slice (some a) n c] w fun e w'=>∃ v',e=.returned v'∧w'.ownsRow w.heap.size 70 2 v' n news∧Below w.heap.size w w':=by
 obtain ⟨i0,hi0,hz0,hzs,hzb⟩:=info_parts infoW_Write
 have mixed:Tryz.prog.follows .mixedOrders=true:=by kernel_rfl
 have q22:∀ (w:World) (a:Option Addr) (n c n' c':Nat),(binOp .eql 54 (.slice a n c) (.slice none n' c')).run Tryz.prog w=.ok (.bool a.isNone) w:=fun w a n c n' c'=>Lib.run_eql_slice_nil w _ _ a n c n' c' Tryz.underlying54
 have A:Aside (∀ j u,news[j]?=some u→w.cell? (a.add j)=some u):=hc
 clear hc
 go_enter Tryz.func119,Tryz.ntmps119
 go_wp2_with (at_builtin; refine wpList_append_own _ rfl _ _ 54 rfl w.heap.size 70 i0 zcW_Write 2 16 Tryz.underlying54 hi0 hz0 hzs hzb rfl (by decide) _ _ _ rfl (World.ownsRow_made w #[] 0 (Nat.le_refl _) (Nat.zero_le _) (by simp)) a n c news rfl ?qc1 ?qc2 ?qc3 ?qc4 ?qc5 ?qc6 ?_)
 case qc1=>exact hl
 case qc2 =>
  intro j u hj
  exact Lib.cell?_alloc_some _ (A.out j u hj)
 case qc3=>exact h1
 case qc4=>rw [Nat.zero_add]; unfold maxLen; omega
 case qc5=>rw [Nat.zero_add]; omega
 case qc6=>simp
 intro v' w1 hown hgrow hnil
 go_wp2
 go_ret
 refine ⟨v',rfl,by simpa using hown,?_⟩
 exact ((Below.refl _ w).alloc (Nat.le_refl _) _).grown hgrow (by simp) (by intro k hk; simp [Value.ownBlock] at hk; omega)
theorem cloneWn_Write (n c:Nat) (w:World) :
  Calls Tryz.prog 119 #[.slice none n c] w fun e w'=>e=.returned (.slice none 0 0)∧w'=w:=by
 have mixed:Tryz.prog.follows .mixedOrders=true:=by kernel_rfl
 have q22:∀ (w:World) (a:Option Addr) (n c n' c':Nat),(binOp .eql 54 (.slice a n c) (.slice none n' c')).run Tryz.prog w=.ok (.bool a.isNone) w:=fun w a n c n' c'=>Lib.run_eql_slice_nil w _ _ a n c n' c' Tryz.underlying54
 go_enter Tryz.func119,Tryz.ntmps119
 go_wp2
 go_ret
 exact ⟨rfl,rfl⟩
def i_clonWriteE:Ent:=(119,e1 (sd (.sl 70)) fun p=>(⟨.one (.c (.own (0,0) true 70)),[.l (gd p 0).rows]⟩,leI ((gd p 0).rows.length:Int) 2000000))
theorem i_clonWrite_ok:EntOk Tryz.prog i_clonWriteE:=e1_ok fun p h=>by
 have h:leI ((gd p 0).rows.length:Int) 2000000=true:=h
 simp only [leI,decide_eq_true_eq] at h
 refine SoundFn.of rfl ⟨enters Tryz.func119 (by kernel_rfl) (by kernel_rfl),fun w prot vs hargs hfr=>?_⟩
 obtain ⟨u,hu,hv⟩:=hargs.2 0 _ rfl
 have hvs:vs = #[u]:=by
  have hs:vs.size=1:=hargs.1
  refine Array.ext (by simpa using hs) fun i h1 h2=>?_
  have:i=0:=by omega
  subst this
  rw [Array.getElem?_eq_getElem h1] at hu
  injection hu
 subst hvs
 have hv:VD Tryz.prog w prot (.sl 70) (gd p 0) u:=hv
 generalize gd p 0=x at *
 obtain ⟨A,c,rfl,h1,h2,h3,h4⟩:=vd_cellsW rowW_Write (by decide) hv
 cases A with
 | none =>
  have h0:x.rows.length=0:=by
   rcases Nat.eq_zero_or_pos x.rows.length with h' | h'
   ·exact h'
   ·obtain ⟨b,o,hA⟩:=h3 h'
    cases hA
  have hx0:x.rows = []:=List.eq_nil_of_length_eq_zero h0
  refine (cloneWn_Write x.rows.length c w).mono ?_
  rintro ex w' ⟨rfl,rfl⟩
  obtain ⟨g',hg⟩:=res_cellsW (x:=x) (prot:=prot) (w:=w') (w':=w') rowW_Write hfr (Below.refl _ _) (v:=.slice none 0 0) ⟨cellsW_len _ _,.inl ⟨rfl,h0⟩⟩
  exact ⟨_,g',rfl,hg.below,hg.val,hg.prot,hg.fresh⟩
 | some ad =>
  refine (cloneW_Write ad x.rows.length c (cellsW 2 x.rows) w (cellsW_len _ _) (by omega) (fun j u hj=>?_) (cellsW_one _ _)).mono ?_
  ·have hpos:0<x.rows.length:=by
    have:=(List.getElem?_eq_some_iff.1 hj).1
    rw [cellsW_len] at this
    omega
   obtain ⟨b,o,hA⟩:=h3 hpos
   injection hA with hA
   subst hA
   rw [Addr.add_lit]
   exact (h4 b o rfl j u hj).1
  ·rintro ex w' ⟨v',rfl,hown,hbel⟩
   obtain ⟨g',hg⟩:=res_cellsW (x:=x) (prot:=prot) rowW_Write hfr hbel hown
   exact ⟨_,g',rfl,hg.below,hg.val,hg.prot,hg.fresh⟩
end Go.Proofs.YtpdfmcmnjikppaaGreat
namespace Go.Proofs.YtpdfmcmnjikppaaGreat
set_option maxRecDepth 4096
set_option maxHeartbeats 1000000
structure SortedW (z:D):Prop where
 len:z.rows.length≤1000
 key:∀ k,k<z.rows.length→0≤keyAt z k∧keyAt z k≤999
 lt:∀ i j,i<j→j<z.rows.length→keyAt z i<keyAt z j
def cellsUp (z:D):Bool:=leI (z.rows.length:Int) 1000&&(List.range z.rows.length).all fun k=>inB (keyAt z k) 0 999&&(k==0||ltI (keyAt z (k - 1)) (keyAt z k))
theorem up_sorted {z:D} (h:cellsUp z=true):SortedW z:=by
 simp only [cellsUp,Bool.and_eq_true,List.all_eq_true,List.mem_range,leI,ltI,inB,decide_eq_true_eq,Bool.or_eq_true,beq_iff_eq] at h
 obtain ⟨hl,h⟩:=h
 refine ⟨by omega,fun k hk=>(h k hk).1,fun i j hij hj=>?_⟩
 obtain ⟨d,rfl⟩:∃ d,j=i+d+1:=⟨j - i - 1,by omega⟩
 have hs:∀ k,k+1<z.rows.length→keyAt z k<keyAt z (k+1):=fun k hk=>by
  rcases (h (k+1) hk).2 with h0 | h0
  ·omega
  ·simpa using h0
 clear hij
 induction d with
 | zero=>exact hs i hj
 | succ d ih=>exact Int.lt_trans (ih (by omega)) (hs (i+d+1) hj)
theorem sorted_up {z:D} (h:SortedW z):cellsUp z=true:=by
 simp only [cellsUp,Bool.and_eq_true,List.all_eq_true,List.mem_range,leI,ltI,inB,decide_eq_true_eq,Bool.or_eq_true,beq_iff_eq]
 refine ⟨by have:=h.len; omega,fun k hk=>⟨h.key k hk,?_⟩⟩
 rcases Nat.eq_zero_or_pos k with rfl | hk0
 ·exact .inl rfl
 ·exact .inr (h.lt (k - 1) k (by omega) hk)
end Go.Proofs.YtpdfmcmnjikppaaGreat
namespace Go.Proofs.YtpdfmcmnjikppaaGreat.H
open Go.RowKit Go.Lib
set_option maxRecDepth 100000
set_option maxHeartbeats 4000000
abbrev zc:Value:=.agg #[.int .i64 0,.int .i64 0]
theorem info_cell:(Tryz.prog.info? 108).map (fun i=>(i.zero,i.size,i.bytes))=some (some zc,2,16):=by kernel_rfl
end Go.Proofs.YtpdfmcmnjikppaaGreat.H
namespace Go.Proofs.YtpdfmcmnjikppaaGreat
set_option maxRecDepth 100000
set_option maxHeartbeats 4000000
open Go.RowKit Go.Lib
abbrev cellRow:List S:= [.int .i64,.int .i64]
theorem row_cell:rowOf Tryz.prog 108=some cellRow:=by kernel_rfl
def cellsV (rows:List (List D)):List Value:=rows.flatMap fun r => [.int .i64 (gd r 0).int,.int .i64 (gd r 1).int]
theorem cellsV_len:∀ rows,(cellsV rows).length=rows.length*2
 | []=>rfl
 | r::rs=>by
  have:=cellsV_len rs
  simp only [cellsV,List.flatMap_cons,List.length_append,List.length_cons,List.length_nil] at *
  omega
theorem cellsV_cons (r:List D) (rs:List (List D)):cellsV (r::rs)=.int .i64 (gd r 0).int::.int .i64 (gd r 1).int::cellsV rs:=rfl
theorem cellsV_get:∀ (rows:List (List D)) (i:Nat),i<rows.length→(cellsV rows)[i*2]?=some (.int .i64 (gd (rows.getD i []) 0).int)∧(cellsV rows)[i*2+1]?=some (.int .i64 (gd (rows.getD i []) 1).int)
 | [],i,h=>by simp at h
 | r::rs,0,_=>⟨rfl,rfl⟩
 | r::rs,i+1,h=>by
  have:=cellsV_get rs i (by simpa using h)
  rw [cellsV_cons,show (i+1)*2=i*2+1+1 from by omega]
  exact this
theorem cellsV_all {F:Nat→Value→Prop} {rows:List (List D)} (h:∀ i,i<rows.length→F (i*2) (.int .i64 (gd (rows.getD i []) 0).int)∧F (i*2+1) (.int .i64 (gd (rows.getD i []) 1).int)) {k:Nat} {v:Value} (hk:(cellsV rows)[k]?=some v):F k v:=by
 have hlt:=(List.getElem?_eq_some_iff.1 hk).1
 rw [cellsV_len] at hlt
 have hi:k / 2<rows.length:=by omega
 obtain ⟨h1,h2⟩:=cellsV_get rows (k / 2) hi
 obtain ⟨q1,q2⟩:=h (k / 2) hi
 rcases Nat.mod_two_eq_zero_or_one k with hm | hm
 ·have e:k / 2*2=k:=by omega
  rw [e] at h1 q1
  rw [hk] at h1; injection h1 with h1; rw [h1]; exact q1
 ·have e:k / 2*2+1=k:=by omega
  rw [e] at h2 q2
  rw [hk] at h2; injection h2 with h2; rw [h2]; exact q2
theorem cellsV_one (rows:List (List D)):∀ v∈cellsV rows,v.oneCell'=true:=fun v hv=>by
 obtain ⟨k,hk⟩:=List.getElem?_of_mem hv
 exact cellsV_all (F:=fun _ v=>v.oneCell'=true) (fun i _=>⟨rfl,rfl⟩) hk
theorem vd_cells {w:World} {prot:Nat→Nat} {x:D} {v:Value} (h:VD Tryz.prog w prot (.sl 108) x v):∃ A c,v=.slice A x.rows.length c∧x.rows.length≤c∧c≤9223372036854775807 ∧
  (0<x.rows.length→∃ b o,A=some ⟨b,o,none⟩)∧∀ b o,A=some ⟨b,o,none⟩→∀ k v,(cellsV x.rows)[k]?=some v→w.cell? ⟨b,o+k,none⟩=some v∧o+k<prot b:=by
 cases h with
 | sl e d A c row u hr h1 h2 h3 h4 =>
  rw [row_cell] at hr
  injection hr with hr
  subst hr
  refine ⟨A,c,rfl,h1,h2,fun h0=>?_,fun b o hA k v hk=>?_⟩
  ·obtain ⟨b,o,hA,_⟩:=h3 0 0 h0 (by decide)
   exact ⟨b,o,hA⟩
  ·subst hA
   have hb:∀ i j,i<x.rows.length→j<2→∃ v,w.cell? ⟨b,o+(i*2+j),none⟩=some v∧o+(i*2+j)<prot b∧v=.int .i64 (gd (x.rows.getD i []) j).int:=fun i j hi hj=>by
    obtain ⟨b',o',hA,hc,hp⟩:=h3 i j hi hj
    injection hA with hA
    injection hA with e1 e2 _
    subst e1; subst e2
    have hv:=h4 i j (.int .i64) hi (by match j,hj with | 0,_=>rfl | 1,_=>rfl)
    generalize u i j=z at *
    cases hv
    exact ⟨_,hc,hp,rfl⟩
   refine cellsV_all (F:=fun k v=>w.cell? ⟨b,o+k,none⟩=some v∧o+k<prot b) (fun i hi=>?_) hk
   obtain ⟨v0,q1,q2,rfl⟩:=hb i 0 hi (by decide)
   obtain ⟨v1,q3,q4,rfl⟩:=hb i 1 hi (by decide)
   exact ⟨⟨by simpa using q1,by simpa using q2⟩,q3,q4⟩
theorem clone_cell (a:Addr) (n c:Nat) (news:List Value) (w:World) (hl:news.length=n*2) (hn:n≤1000000) (hc:∀ j u,news[j]?=some u→w.cell? (a.add j)=some u) (h1:∀ u∈news,u.oneCell'=true) :
  Calls Tryz.prog 192 #[.slice (some a) n c] w fun e w'=>∃ v',e=.returned v'∧w'.ownsRow w.heap.size 108 2 v' n news∧Below w.heap.size w w':=by
 obtain ⟨i0,hi0,hz0,hzs,hzb⟩:=info_parts H.info_cell
 have mixed:Tryz.prog.follows .mixedOrders=true:=by kernel_rfl
 have q22:∀ (w:World) (a:Option Addr) (n c n' c':Nat),(binOp .eql 33 (.slice a n c) (.slice none n' c')).run Tryz.prog w=.ok (.bool a.isNone) w:=fun w a n c n' c'=>Lib.run_eql_slice_nil w _ _ a n c n' c' Tryz.underlying33
 have A:Aside (∀ j u,news[j]?=some u→w.cell? (a.add j)=some u):=hc
 clear hc
 go_enter Tryz.func192,Tryz.ntmps192
 go_wp2_with (at_builtin; refine wpList_append_own _ rfl _ _ 33 rfl w.heap.size 108 i0 H.zc 2 16 Tryz.underlying33 hi0 hz0 hzs hzb rfl (by decide) _ _ _ rfl (World.ownsRow_made w #[] 0 (Nat.le_refl _) (Nat.zero_le _) (by simp)) a n c news rfl ?qc1 ?qc2 ?qc3 ?qc4 ?qc5 ?qc6 ?_)
 case qc1=>exact hl
 case qc2 =>
  intro j u hj
  exact Lib.cell?_alloc_some _ (A.out j u hj)
 case qc3=>exact h1
 case qc4=>rw [Nat.zero_add]; unfold maxLen; omega
 case qc5=>rw [Nat.zero_add]; omega
 case qc6=>simp
 intro v' w1 hown hgrow hnil
 go_wp2
 go_ret
 refine ⟨v',rfl,by simpa using hown,?_⟩
 exact ((Below.refl _ w).alloc (Nat.le_refl _) _).grown hgrow (by simp) (by intro k hk; simp [Value.ownBlock] at hk; omega)
theorem clone_nil (n c:Nat) (w:World) :
  Calls Tryz.prog 192 #[.slice none n c] w fun e w'=>e=.returned (.slice none 0 0)∧w'=w:=by
 have mixed:Tryz.prog.follows .mixedOrders=true:=by kernel_rfl
 have q22:∀ (w:World) (a:Option Addr) (n c n' c':Nat),(binOp .eql 33 (.slice a n c) (.slice none n' c')).run Tryz.prog w=.ok (.bool a.isNone) w:=fun w a n c n' c'=>Lib.run_eql_slice_nil w _ _ a n c n' c' Tryz.underlying33
 go_enter Tryz.func192,Tryz.ntmps192
 go_wp2
 go_ret
 exact ⟨rfl,rfl⟩
theorem res_cells {prot:Nat→Nat} {w w':World} {x:D} {v:Value} (hfr:∀ b,w.heap.size≤b→prot b=0) (hb:Below w.heap.size w w') (ho:w'.ownsRow w.heap.size 108 2 v x.rows.length (cellsV x.rows)) :
  ∃ g',Res Tryz.prog prot w w' ⟨.one (.c (.own (0,0) true 108)),[x]⟩ v g':=by
 obtain ⟨hl,⟨rfl,h0⟩ | ⟨blk,cap,cur,rfl,hblk,hh,hcap,hmax,hsz,htk⟩⟩:=ho
 ·exact ⟨g0 0 prot,hb,⟨cellRow,row_cell,.inl ⟨List.eq_nil_of_length_eq_zero h0,rfl,none,rfl⟩⟩,fun _ _=>rfl,fun b hb'=>⟨hfr b (Nat.le_trans hb.size hb'),rfl⟩⟩
 ·refine ⟨⟨prot,fun b=>if b=blk then some (.inr (0,0)) else none,fun _=>0,fun _=>blk,fun _=>x.rows.length,fun _=>2,fun _=>108,fun _ => [],fun _=>0,fun _=>False⟩,hb,⟨cellRow,row_cell,.inr ⟨cap,cur,108,rfl,hcap,⟨by unfold maxLen at hmax; omega,rfl,rfl⟩,hblk,if_pos rfl,hh,hsz,rfl,rfl,?_,?_⟩⟩,fun _ _=>rfl,fun b hb'=>⟨hfr b (Nat.le_trans hb.size hb'),?_⟩⟩
  ·show prot blk=0
   exact hfr blk hblk
  ·intro i j s hi hs
   have hi:i<x.rows.length:=hi
   obtain ⟨q1,q2⟩:=cellsV_get x.rows i hi
   rw [← htk,List.getElem?_take,if_pos (by omega)] at q1 q2
   match j,hs with
   | 0,hs =>
    injection hs with hs
    subst hs
    exact ⟨.int .i64 (gd (x.rows.getD i []) 0).int,by simpa using q1,.of_vd (.int .i64 _) (.inr rfl)⟩
   | 1,hs =>
    injection hs with hs
    subst hs
    exact ⟨.int .i64 (gd (x.rows.getD i []) 1).int,by simpa using q2,.of_vd (.int .i64 _) (.inr rfl)⟩
  ·have:=lt_of_heap hh
   exact if_neg (by omega)
def i_clonCE:Ent:=(192,e1 (sd (.sl 108)) fun p=>(⟨.one (.c (.own (0,0) true 108)),[.l (gd p 0).rows]⟩,leI ((gd p 0).rows.length:Int) 1000000))
theorem i_clonC_ok:EntOk Tryz.prog i_clonCE:=e1_ok fun p h=>by
 have h:leI ((gd p 0).rows.length:Int) 1000000=true:=h
 simp only [leI,decide_eq_true_eq] at h
 refine SoundFn.of rfl ⟨enters Tryz.func192 (by kernel_rfl) (by kernel_rfl),fun w prot vs hargs hfr=>?_⟩
 obtain ⟨u,hu,hv⟩:=hargs.2 0 _ rfl
 have hvs:vs = #[u]:=by
  have hs:vs.size=1:=hargs.1
  refine Array.ext (by simpa using hs) fun i h1 h2=>?_
  have:i=0:=by omega
  subst this
  rw [Array.getElem?_eq_getElem h1] at hu
  injection hu
 subst hvs
 have hv:VD Tryz.prog w prot (.sl 108) (gd p 0) u:=hv
 generalize gd p 0=x at *
 obtain ⟨A,c,rfl,h1,h2,h3,h4⟩:=vd_cells hv
 cases A with
 | none =>
  have h0:x.rows.length=0:=by
   rcases Nat.eq_zero_or_pos x.rows.length with h' | h'
   ·exact h'
   ·obtain ⟨b,o,hA⟩:=h3 h'
    cases hA
  have hx0:x.rows = []:=List.eq_nil_of_length_eq_zero h0
  refine (clone_nil x.rows.length c w).mono ?_
  rintro ex w' ⟨rfl,rfl⟩
  obtain ⟨g',hg⟩:=res_cells (x:=x) (prot:=prot) (w:=w') (w':=w') hfr (Below.refl _ _) (v:=.slice none 0 0) ⟨cellsV_len _,.inl ⟨rfl,h0⟩⟩
  exact ⟨_,g',rfl,hg.below,hg.val,hg.prot,hg.fresh⟩
 | some ad =>
  refine (clone_cell ad x.rows.length c (cellsV x.rows) w (cellsV_len _) (by omega) (fun j u hj=>?_) (cellsV_one _)).mono ?_
  ·have hpos:0<x.rows.length:=by
    have:=(List.getElem?_eq_some_iff.1 hj).1
    rw [cellsV_len] at this
    omega
   obtain ⟨b,o,hA⟩:=h3 hpos
   injection hA with hA
   subst hA
   rw [Addr.add_lit]
   exact (h4 b o rfl j u hj).1
  ·rintro ex w' ⟨v',rfl,hown,hbel⟩
   obtain ⟨g',hg⟩:=res_cells (x:=x) (prot:=prot) hfr hbel hown
   exact ⟨_,g',rfl,hg.below,hg.val,hg.prot,hg.fresh⟩
theorem vd_int {P:Program} {w:World} {prot:Nat→Nat} {k:IntKind} {x:D} {v:Value} (h:VD P w prot (.int k) x v):v=.int k x.int:=by
 cases h; rfl
theorem args_at {P:Program} {prot:Nat→Nat} {w:World} {args:List T} {vs:Array Value} (h:ArgsV P prot w args vs) (us:List Value) (hl:us.length=args.length) (hu:∀ (j:Nat) t u,args[j]?=some t→vs[j]?=some u→us[j]?=some u):vs=us.toArray:=by
 refine Array.ext (by simp [h.1,hl]) fun i h1 h2=>?_
 have hi:i<args.length:=by rw [← h.1]; exact h1
 have:=hu i _ _ (List.getElem?_eq_getElem hi) (Array.getElem?_eq_getElem h1)
 rw [List.getElem?_eq_getElem (by omega)] at this
 simp only [Option.some.injEq] at this
 simpa using this.symm
theorem cell_at {w:World} {b:Nat} {arr:Array Value} {e:TypeId} {fz:Nat × Nat} (h:w.heap[b]?=some (.cells arr e fz)) (k:Nat):w.cell? ⟨b,k,none⟩=arr[k]?:=by
 simp [World.cell?,h]
theorem unfrozen {w:World} {b:Nat} {arr:Array Value} {e:TypeId} (h:w.heap[b]?=some (.cells arr e (0,0))) (k:Nat):w.frozen? ⟨b,k,none⟩=false:=by
 simp [World.frozen?,h]
end Go.Proofs.YtpdfmcmnjikppaaGreat
namespace Go.Proofs.YtpdfmcmnjikppaaGreat
set_option maxRecDepth 4096
set_option maxHeartbeats 1000000
abbrev s_l2CellsT:FuncId→List T→Option (T × Bool):=find []
theorem s_l2CellsT_ok:CallOk Tryz.prog s_l2CellsT:=find_ok (fN)
abbrev s_l2CellsK:List Nat:= [0,1,2,3,8,9,10,11,18,31,44,53,3000008]
noncomputable def s_l2CellsL0 (N:Nat) (p q r s:List D):List D→Out:=loopOf Tryz.prog s_l2CellsT N s_l2CellsK Tryz.f219 (.one (.c (.own (0,0) true 108))) [⟨sd (.sl 108),p⟩,⟨ri,q⟩,⟨ri,r⟩,⟨rb,s⟩] 0
theorem s_l2CellsR0 (N:Nat) (p q r s:List D) (x0 x1 x2 x3 x4 x5 x6 x7:D):(s_l2CellsL0 N p q r s) [x0,x1,x2,x3,x4,x5,x6,x7] =
 bif ltI x7.int (x0.rows.length:Int) then bif !x6.bool then nd (inRange x7.int x0.rows.length) (bif leI x1.int (gd (x0.rows.getD x7.int.toNat []) 0).int then nd (lenOk (x5.rows ++ [[x1,x2]])&&true) ((let r8:Out:=nx [x0,x1,x2,x3,x4,.l (x5.rows ++ [[x1,x2]]),.b true,x7,.b (ltI x7.int (x0.rows.length:Int)),.b (leI x1.int (gd (x0.rows.getD x7.int.toNat []) 0).int)]
  nd r8.isSome (nd (inRange (gd r8.pay 7).int (gd r8.pay 0).rows.length) (bif (gd ((gd r8.pay 0).rows.getD (gd r8.pay 7).int.toNat []) 0).int != (gd r8.pay 1).int then nd (inRange (gd r8.pay 7).int (gd r8.pay 0).rows.length) (nd (lenOk ((gd r8.pay 5).rows ++ [sub ((gd r8.pay 0).rows.getD (gd r8.pay 7).int.toNat []) 0 2])&&true) (nx [gd r8.pay 0,gd r8.pay 1,gd r8.pay 2,gd r8.pay 3,gd r8.pay 4,.l ((gd r8.pay 5).rows ++ [sub ((gd r8.pay 0).rows.getD (gd r8.pay 7).int.toNat []) 0 2]),gd r8.pay 6,.i (w64 ((gd r8.pay 7).int+1))]))
  else nx [gd r8.pay 0,gd r8.pay 1,gd r8.pay 2,gd r8.pay 3,gd r8.pay 4,gd r8.pay 5,gd r8.pay 6,.i (w64 ((gd r8.pay 7).int+1))]))))
 else nd (inRange x7.int x0.rows.length) (bif (gd (x0.rows.getD x7.int.toNat []) 0).int != x1.int then nd (inRange x7.int x0.rows.length) (nd (lenOk (x5.rows ++ [sub (x0.rows.getD x7.int.toNat []) 0 2])&&true) (nx [x0,x1,x2,x3,x4,.l (x5.rows ++ [sub (x0.rows.getD x7.int.toNat []) 0 2]),x6,.i (w64 (x7.int+1))]))
 else nx [x0,x1,x2,x3,x4,x5,x6,.i (w64 (x7.int+1))]))
 else nd (inRange x7.int x0.rows.length) (bif (gd (x0.rows.getD x7.int.toNat []) 0).int != x1.int then nd (inRange x7.int x0.rows.length) (nd (lenOk (x5.rows ++ [sub (x0.rows.getD x7.int.toNat []) 0 2])&&true) (nx [x0,x1,x2,x3,x4,.l (x5.rows ++ [sub (x0.rows.getD x7.int.toNat []) 0 2]),x6,.i (w64 (x7.int+1))]))
 else nx [x0,x1,x2,x3,x4,x5,x6,.i (w64 (x7.int+1))])
 else ex 0 [x0,x1,x2,x3,x4,x5,x6,x7]:=by kernel_rfl
theorem s_l2Cells_ev (N:Nat) (p q r s:List D):evFn Tryz.prog s_l2CellsT N s_l2CellsK Tryz.f219 (.one (.c (.own (0,0) true 108))) [⟨sd (.sl 108),p⟩,⟨ri,q⟩,⟨ri,r⟩,⟨rb,s⟩]=some (bo,
 (let o0:=iter (s_l2CellsL0 N p q r s) N [gd p 0,gd q 0,gd r 0,gd s 0,.l [],.l [],.b (!(gd s 0).bool),.i 0]
  nd o0.isSome (nd (o0.code==2) (bif !(gd o0.pay 6).bool then nd (lenOk ((gd o0.pay 5).rows ++ [sub o0.pay 1 2])&&true) (some (1,[.l ((gd o0.pay 5).rows ++ [sub o0.pay 1 2])]))
  else some (1,[gd o0.pay 5]))))):=by kernel_rfl
def stepL (k v:D) (st:List (List D) × Bool) (r:List D):List (List D) × Bool:=
 (bif (gd r 0).int != k.int then (bif !st.2&&leI k.int (gd r 0).int then st.1 ++ [[k,v]] else st.1) ++ [sub r 0 2] else (bif !st.2&&leI k.int (gd r 0).int then st.1 ++ [[k,v]] else st.1),st.2||leI k.int (gd r 0).int)
def accL (z k v:D) (keep:Bool) (n:Nat):List (List D) × Bool:=(z.rows.take n).foldl (stepL k v) ([],!keep)
theorem accL_succ (z k v:D) (keep:Bool) {n:Nat} (h:n<z.rows.length):accL z k v keep (n+1)=stepL k v (accL z k v keep n) (z.rows.getD n []):=by
 unfold accL
 rw [List.take_add_one,List.foldl_append,List.getElem?_eq_getElem h,List.getD_eq_getElem?_getD,List.getElem?_eq_getElem h]
 rfl
theorem accL_len (z k v:D) (keep:Bool):∀ n,n≤z.rows.length→(accL z k v keep n).1.length≤2*n
 | 0,_=>by simp [accL]
 | n+1,h=>by
  rw [accL_succ z k v keep (by omega)]
  have:=accL_len z k v keep n (by omega)
  unfold stepL
  generalize accL z k v keep n=A at *
  cases !A.2&&leI k.int (gd (z.rows.getD n []) 0).int <;> cases (gd (z.rows.getD n []) 0).int != k.int <;> simp <;> omega
def l2Raw (z k v:D) (keep:Bool):D:=.l (bif !(accL z k v keep z.rows.length).2 then (accL z k v keep z.rows.length).1 ++ [[k,v]] else (accL z k v keep z.rows.length).1)
def s_l2CellsE:Ent:=(219,e4 (sd (.sl 108)) ri ri rb fun p q r s=>(⟨.one (.c (.own (0,0) true 108)),[l2Raw (gd p 0) (gd q 0) (gd r 0) (gd s 0).bool]⟩,leI ((gd p 0).rows.length:Int) 1000000))
theorem s_l2Cells_ok:EntOk Tryz.prog s_l2CellsE:=e4_ok fun p q r s h=>evFn_sound (N:=(gd p 0).rows.length+1) (ks:=s_l2CellsK) (key:=bo) s_l2CellsT_ok (enters Tryz.func219) Tryz.func219 fun hw=>by
 rw [s_l2Cells_ev]
 have h:leI ((gd p 0).rows.length:Int) 1000000=true:=h
 simp only [leI,decide_eq_true_eq] at h
 have e:=run_loop (L:=s_l2CellsL0 ((gd p 0).rows.length+1) p q r s) (fun n => [gd p 0,gd q 0,gd r 0,gd s 0,.l [],.l (accL (gd p 0) (gd q 0) (gd r 0) (gd s 0).bool n).1,.b (accL (gd p 0) (gd q 0) (gd r 0) (gd s 0).bool n).2,.i (n:Int)]) (gd p 0).rows.length 0 (fun k hk=>?_) ?_ (N:=(gd p 0).rows.length+1) (by omega)
 ·simp only [Int.natCast_zero] at e
  rw [show (accL (gd p 0) (gd q 0) (gd r 0) (gd s 0).bool 0)=([],!(gd s 0).bool) from rfl] at e
  rw [e]
  have hA:=accL_len (gd p 0) (gd q 0) (gd r 0) (gd s 0).bool _ (Nat.le_refl _)
  simp only [nd,cond_true,cond_false,Option.isSome_some,Out.code,Out.pay,Option.getD_some,gd_cons_zero,gd_cons_succ,Nat.reduceBEq,Nat.reduceAdd,int_i,bool_b,str_s,rows_l,Bool.not_true,Bool.not_false,beq_self_eq_true]
  unfold l2Raw
  generalize accL (gd p 0) (gd q 0) (gd r 0) (gd s 0).bool (gd p 0).rows.length=A at *
  have hA2:lenOk (A.1 ++ [[gd q 0,gd r 0]])=true:=lenOk_t (by simp; omega)
  cases A.2
  ·change some (bo,bif lenOk (A.1 ++ [[gd q 0,gd r 0]])&&true then some (1,[D.l (A.1 ++ [[gd q 0,gd r 0]])]) else none)=_
   rw [hA2]
   rfl
  ·rfl
 ·show s_l2CellsL0 _ p q r s [_,_,_,_,_,_,_,.i (k:Int)]=_
  rw [s_l2CellsR0,accL_succ _ _ _ _ hk]
  have hA:=accL_len (gd p 0) (gd q 0) (gd r 0) (gd s 0).bool k (by omega)
  generalize accL (gd p 0) (gd q 0) (gd r 0) (gd s 0).bool k=A at *
  have hA1:∀ x,lenOk (A.1 ++ [x])=true:=fun x=>lenOk_t (by simp; omega)
  have hA2:∀ x y,lenOk (A.1 ++ [x] ++ [y])=true:=fun x y=>lenOk_t (by simp; omega)
  simp only [int_i,bool_b,rows_l,c_lt hk,nd_ix hk,w64_succ hk (show (gd p 0).rows.length≤9223372036854775807 from by omega),Int.toNat_natCast,stepL,hA1,Bool.and_true,nd_true]
  cases A.2 <;> cases leI (gd q 0).int (gd ((gd p 0).rows.getD k []) 0).int <;> cases hn:(gd ((gd p 0).rows.getD k []) 0).int != (gd q 0).int <;> simp only [nd,cond_true,cond_false,Option.isSome_some,Out.code,Out.pay,Option.getD_some,gd_cons_zero,gd_cons_succ,Nat.reduceBEq,Nat.reduceAdd,int_i,bool_b,str_s,rows_l,Bool.not_true,Bool.not_false,beq_self_eq_true,hA1,hA2,hn,inRange_nat hk,Int.toNat_natCast,Bool.and_true,Bool.and_false,Bool.false_and,Bool.true_and,Bool.or_true,Bool.or_false,Bool.true_or,Bool.false_or,w64_succ hk (show (gd p 0).rows.length≤9223372036854775807 from by omega)]
 ·show s_l2CellsL0 _ p q r s [_,_,_,_,_,_,_,.i ((gd p 0).rows.length:Int)]=_
  rw [s_l2CellsR0]
  simp only [int_i,c_nlt]
end Go.Proofs.YtpdfmcmnjikppaaGreat
namespace Go.Proofs.YtpdfmcmnjikppaaGreat
def pr (r:List D):Int × Int:=((gd r 0).int,(gd r 1).int)
def prs (z:D):List (Int × Int):=z.rows.map pr
def prD (xs:List (Int × Int)):D:=.l (xs.map fun a => [.i a.1,.i a.2])
theorem prs_prD (xs:List (Int × Int)):prs (prD xs)=xs:=by
 unfold prs prD
 show ((xs.map _).map pr)=xs
 rw [List.map_map]
 have:(pr ∘ fun a:Int × Int => [D.i a.1,D.i a.2])=id:=by funext a; rfl
 rw [this,List.map_id]
theorem prs_len (z:D):(prs z).length=z.rows.length:=by simp [prs]
theorem prD_len (xs:List (Int × Int)):(prD xs).rows.length=xs.length:=by simp [prD,D.rows]
theorem prs_at (z:D) (i:Nat) (h:i<z.rows.length):(prs z)[i]'(by rw [prs_len]; exact h)=(keyAt z i,(gd (z.rows.getD i []) 1).int):=by
 simp [prs,pr,keyAt,List.getD_eq_getElem?_getD,List.getElem?_eq_getElem h]
theorem pr_sub (r:List D):pr (sub r 0 2)=pr r:=rfl
def upL (xs:List (Int × Int)):Prop:=xs.Pairwise (fun a b=>a.1<b.1)∧∀ a∈xs,0≤a.1∧a.1≤999
theorem SortedW.upL {z:D} (h:SortedW z):upL (prs z):=by
 refine ⟨List.pairwise_iff_getElem.2 fun i j hi hj hij=>?_,fun a ha=>?_⟩
 ·have hi':i<z.rows.length:=by rwa [prs_len] at hi
  have hj':j<z.rows.length:=by rwa [prs_len] at hj
  rw [prs_at z i hi',prs_at z j hj']
  exact h.lt i j hij hj'
 ·obtain ⟨i,hi,rfl⟩:=List.mem_iff_getElem.1 ha
  have hi':i<z.rows.length:=by rwa [prs_len] at hi
  rw [prs_at z i hi']
  exact h.key i hi'
theorem up_len {xs:List (Int × Int)} (h:upL xs):xs.length≤1000:=by
 have hk:∀ i (hi:i<xs.length),(i:Int)≤(xs[i]).1:=by
  intro i
  induction i with
  | zero=>intro hi; exact (h.2 _ (List.getElem_mem hi)).1
  | succ i ih =>
   intro hi
   have h1:=ih (by omega)
   have h2:=List.pairwise_iff_getElem.1 h.1 i (i+1) (by omega) hi (by omega)
   omega
 rcases Nat.lt_or_ge 1000 xs.length with hlt | hge
 ·have h1:=hk 1000 hlt
  have h2:=(h.2 _ (List.getElem_mem hlt)).2
  omega
 ·exact hge
theorem sorted_of {z:D} (h:upL (prs z)):SortedW z:=by
 refine ⟨by rw [← prs_len]; exact up_len h,fun k hk=>?_,fun i j hij hj=>?_⟩
 ·have:=h.2 _ (List.getElem_mem (show k<(prs z).length from by rw [prs_len]; exact hk))
  rw [prs_at z k hk] at this
  exact this
 ·have:=List.pairwise_iff_getElem.1 h.1 i j (by rw [prs_len]; omega) (by rw [prs_len]; exact hj) hij
  rw [prs_at z i (by omega),prs_at z j hj] at this
  exact this
theorem up_iff {z:D}:cellsUp z=true↔upL (prs z):=⟨fun h=>(up_sorted h).upL,fun h=>sorted_up (sorted_of h)⟩
def lessK (k:Int) (xs:List (Int × Int)):List (Int × Int):=xs.filter fun a=>decide (a.1<k)
def moreK (k:Int) (xs:List (Int × Int)):List (Int × Int):=xs.filter fun a=>decide (k<a.1)
def putP (xs:List (Int × Int)) (k v:Int) (keep:Bool):List (Int × Int):=lessK k xs++(bif keep then [(k,v)] else [])++moreK k xs
theorem putP_up {xs:List (Int × Int)} (h:upL xs) {k:Int} (hk:0≤k∧k≤999) (v:Int) (keep:Bool):upL (putP xs k v keep):=by
 have hl:∀ a∈lessK k xs,a.1<k:=fun a ha=>by simpa using (List.mem_filter.1 ha).2
 have hm:∀ a∈moreK k xs,k<a.1:=fun a ha=>by simpa using (List.mem_filter.1 ha).2
 have pl:(lessK k xs).Pairwise (fun a b=>a.1<b.1):=h.1.filter _
 have pm:(moreK k xs).Pairwise (fun a b=>a.1<b.1):=h.1.filter _
 unfold putP
 refine ⟨?_,?_⟩
 ·refine List.pairwise_append.2 ⟨List.pairwise_append.2 ⟨pl,by cases keep <;> simp,fun a ha b hb=>?_⟩,pm,fun a ha b hb=>?_⟩
  ·cases keep with
   | true=>simp only [cond_true,List.mem_singleton] at hb; subst hb; exact hl a ha
   | false=>simp at hb
  ·rcases List.mem_append.1 ha with ha | ha
   ·have:=hl a ha; have:=hm b hb; omega
   ·cases keep with
    | true=>simp only [cond_true,List.mem_singleton] at ha; subst ha; exact hm b hb
    | false=>simp at ha
 ·intro a ha
  rcases List.mem_append.1 ha with ha | ha
  ·rcases List.mem_append.1 ha with ha | ha
   ·exact h.2 a (List.mem_filter.1 ha).1
   ·cases keep with
    | true=>simp only [cond_true,List.mem_singleton] at ha; subst ha; exact hk
    | false=>simp at ha
  ·exact h.2 a (List.mem_filter.1 ha).1
theorem more_all {xs:List (Int × Int)} {k:Int} (h:∀ a∈xs,k<a.1):moreK k xs=xs∧lessK k xs = []:=by
 refine ⟨List.filter_eq_self.2 fun a ha=>by simpa using h a ha,List.filter_eq_nil_iff.2 fun a ha=>?_⟩
 have:=h a ha
 simp; omega
theorem rise_split0 {xs:List (Int × Int)} (h:xs.Pairwise (fun a b=>a.1<b.1)) (k:Int):xs=lessK k xs++(xs.filter fun a=>a.1==k)++moreK k xs:=by
 induction xs with
 | nil=>rfl
 | cons a xs ih =>
  rw [List.pairwise_cons] at h
  have:=ih h.2
  unfold lessK moreK at *
  rw [List.filter_cons,List.filter_cons,List.filter_cons]
  rcases Int.lt_trichotomy a.1 k with hlt | he | hgt
  ·rw [if_pos (by simpa using hlt),if_neg (by simp; omega),if_neg (by simp; omega)]
   rw [List.cons_append,List.cons_append,← this]
  ·rw [if_neg (by simp; omega),if_pos (by simpa using he),if_neg (by simp; omega)]
   have hall:∀ b∈xs,k<b.1:=fun b hb=>by have:=h.1 b hb; omega
   obtain ⟨q1,q2⟩:=more_all hall
   unfold moreK at q1
   unfold lessK at q2
   rw [q1,q2,show (xs.filter fun a=>a.1==k) = [] from List.filter_eq_nil_iff.2 fun b hb=>by have:=hall b hb; simp; omega]
   rfl
  ·rw [if_neg (by simp; omega),if_neg (by simp; omega),if_pos (by simpa using hgt)]
   have hall:∀ b∈xs,k<b.1:=fun b hb=>by have:=h.1 b hb; omega
   obtain ⟨q1,q2⟩:=more_all hall
   unfold moreK at q1
   unfold lessK at q2
   rw [q1,q2,show (xs.filter fun a=>a.1==k) = [] from List.filter_eq_nil_iff.2 fun b hb=>by have:=hall b hb; simp; omega]
   rfl
theorem rise_split {xs:List (Int × Int)} (h:upL xs) (k:Int):xs=lessK k xs++(xs.filter fun a=>a.1==k)++moreK k xs:=rise_split0 h.1 k
theorem fold_t (k v:D):∀ (rs:List (List D)) (acc:List (List D)),rs.foldl (stepL k v) (acc,true)=(acc++(rs.filter fun r=>(gd r 0).int != k.int).map (fun r=>sub r 0 2),true)
 | [],acc=>by simp
 | r::rs,acc=>by
  rw [List.foldl_cons]
  have:stepL k v (acc,true) r=(bif (gd r 0).int != k.int then acc ++ [sub r 0 2] else acc,true):=rfl
  rw [this,fold_t k v rs,List.filter_cons]
  cases (gd r 0).int != k.int <;> simp
def fin (k v:D) (R:List (List D) × Bool):List (List D):=bif !R.2 then R.1 ++ [[k,v]] else R.1
theorem ne_map (k:Int) (rs:List (List D)):((rs.filter fun r=>(gd r 0).int != k).map fun r=>sub r 0 2).map pr=(rs.map pr).filter fun a=>a.1 != k:=by
 rw [List.map_map,List.filter_map]
 rfl
theorem ne_split {xs:List (Int × Int)} (h:upL xs) (k:Int):(xs.filter fun a=>a.1 != k)=lessK k xs++moreK k xs:=by
 have hs:=rise_split h k
 conv=>lhs; rw [hs]
 rw [List.filter_append,List.filter_append]
 have h1:(lessK k xs).filter (fun a=>a.1 != k)=lessK k xs:=List.filter_eq_self.2 fun a ha=>by
  have:a.1<k:=by simpa using (List.mem_filter.1 ha).2
  simp; omega
 have h2:(moreK k xs).filter (fun a=>a.1 != k)=moreK k xs:=List.filter_eq_self.2 fun a ha=>by
  have:k<a.1:=by simpa using (List.mem_filter.1 ha).2
  simp; omega
 have h3:((xs.filter fun a=>a.1==k).filter fun a=>a.1 != k) = []:=List.filter_eq_nil_iff.2 fun a ha=>by
  have:a.1=k:=by simpa using (List.mem_filter.1 ha).2
  simp; omega
 rw [h1,h2,h3,List.append_nil]
theorem fold_f (k v:D):∀ (rs:List (List D)) (acc:List (List D)),(rs.map pr).Pairwise (fun a b=>a.1<b.1)→(fin k v (rs.foldl (stepL k v) (acc,false))).map pr=acc.map pr++putP (rs.map pr) k.int v.int true
 | [],acc,_=>by simp [fin,putP,lessK,moreK,pr,gd_cons_zero,gd_cons_succ]
 | r::rs,acc,h=>by
  rw [List.foldl_cons]
  rw [List.map_cons,List.pairwise_cons] at h
  have hgt:∀ b∈rs.map pr,(gd r 0).int<b.1:=h.1
  rcases Int.lt_or_le (gd r 0).int k.int with hlt | hge
  ·have e1:stepL k v (acc,false) r=(acc ++ [sub r 0 2],false):=by
    unfold stepL
    simp only [leI_f hlt,Bool.and_false,cond_false,Bool.or_false]
    rw [show ((gd r 0).int != k.int)=true from by simp; omega]
    rfl
   rw [e1,fold_f k v rs _ h.2]
   unfold putP lessK moreK
   rw [List.map_cons,List.filter_cons,List.filter_cons,if_pos (show decide ((pr r).1<k.int)=true from decide_eq_true hlt),if_neg (show ¬ decide (k.int<(pr r).1)=true from fun h=>by have:=of_decide_eq_true h; have:k.int<(gd r 0).int:=this; omega)]
   simp only [List.map_append,List.map_cons,List.map_nil,pr_sub,List.append_assoc,List.cons_append,List.nil_append,cond_true]
  ·have hall:∀ b∈rs.map pr,k.int<b.1:=fun b hb=>by have:=hgt b hb; omega
   obtain ⟨q1,q2⟩:=more_all hall
   unfold lessK at q2
   unfold moreK at q1
   have hne:((rs.map pr).filter fun a=>a.1 != k.int)=rs.map pr:=List.filter_eq_self.2 fun a ha=>by have:=hall a ha; simp; omega
   unfold putP lessK moreK
   rw [List.map_cons,List.filter_cons,List.filter_cons,q1,q2,if_neg (show ¬ decide ((pr r).1<k.int)=true from fun h=>by have:=of_decide_eq_true h; have:(gd r 0).int<k.int:=this; omega)]
   rcases Int.lt_or_eq_of_le hge with hlt | he
   ·have e1:stepL k v (acc,false) r=(acc ++ [[k,v]] ++ [sub r 0 2],true):=by
     unfold stepL
     simp only [leI_t hge,Bool.not_false,Bool.and_true,cond_true,Bool.or_true]
     rw [show ((gd r 0).int != k.int)=true from by simp; omega]
     rfl
    rw [e1,fold_t,if_pos (show decide (k.int<(pr r).1)=true from decide_eq_true hlt)]
    show (acc ++ [[k,v]] ++ [sub r 0 2]++_).map pr=_
    rw [List.map_append,ne_map,hne]
    simp only [List.map_append,List.map_cons,List.map_nil,pr_sub,List.append_assoc,List.cons_append,List.nil_append,cond_true]
    rfl
   ·have e1:stepL k v (acc,false) r=(acc ++ [[k,v]],true):=by
     unfold stepL
     simp only [leI_t hge,Bool.not_false,Bool.and_true,cond_true,Bool.or_true]
     rw [show ((gd r 0).int != k.int)=false from by simp; omega]
     rfl
    rw [e1,fold_t,if_neg (show ¬ decide (k.int<(pr r).1)=true from fun h=>by have:=of_decide_eq_true h; have:k.int<(gd r 0).int:=this; omega)]
    show (acc ++ [[k,v]]++_).map pr=_
    rw [List.map_append,ne_map,hne]
    simp only [List.map_append,List.map_cons,List.map_nil,List.append_assoc,List.cons_append,List.nil_append,cond_true]
    rfl
theorem l2_law {z:D} (h:SortedW z) (k v:D) (keep:Bool):prs (l2Raw z k v keep)=putP (prs z) k.int v.int keep:=by
 have hu:=h.upL
 unfold l2Raw accL
 rw [List.take_length]
 cases keep with
 | true=>exact fold_f k v z.rows [] hu.1
 | false =>
  rw [show (!false)=true from rfl,fold_t]
  show ([]++_:List (List D)).map pr=_
  rw [List.nil_append,ne_map]
  change (prs z).filter _=_
  rw [ne_split hu]
  simp [putP]
theorem norm_own {P:Program} {f:FuncId} {args:List T} {e:TypeId} {y y':D} (hrow:rowOf P e=some cellRow) (hl:prs y=prs y') (h:SoundFn P f args ⟨.one (.c (.own (0,0) true e)),[y]⟩):SoundFn P f args ⟨.one (.c (.own (0,0) true e)),[y']⟩:=by
 have h:=h.n rfl
 refine SoundFn.of rfl ⟨h.1,fun w prot vs ha hf=>(h.2 w prot vs ha hf).mono ?_⟩
 rintro ex w' ⟨v,g',rfl,hR⟩
 have hlen:y.rows.length=y'.rows.length:=by rw [← prs_len,← prs_len,hl]
 refine ⟨v,g',rfl,hR.below,?_,hR.prot,hR.fresh⟩
 obtain ⟨row,hr,ho⟩:=hR.val
 rw [hrow] at hr; injection hr with hr; subst hr
 refine ⟨cellRow,hrow,?_⟩
 have ho:OwnV P w' g' w.heap.size (0,0) true e cellRow y.rows v:=ho
 show OwnV P w' g' w.heap.size (0,0) true e cellRow y'.rows v
 rcases ho with ⟨h0,h1,h2⟩ | ⟨cap,arr,E,h1,h2,h3,h4,h5,h6,h7,h8,h9,h10,h11⟩
 ·refine .inl ⟨List.eq_nil_of_length_eq_zero (by rw [← hlen,h0]; rfl),h1,h2⟩
 ·refine .inr ⟨cap,arr,E,by rw [← hlen]; exact h1,by rw [← hlen]; exact h2,h3,h4,h5,h6,h7,by rw [← hlen]; exact h8,h9,h10,fun i j s hi hs=>?_⟩
  rw [← hlen] at hi
  obtain ⟨u,k1,k2⟩:=h11 i j s hi hs
  refine ⟨u,k1,?_⟩
  have he:pr (y.rows.getD i [])=pr (y'.rows.getD i []):=by
   have h1:(prs y)[i]?=(prs y')[i]?:=by rw [hl]
   unfold prs at h1
   rw [List.getElem?_map,List.getElem?_map,List.getElem?_eq_getElem hi,List.getElem?_eq_getElem (by omega)] at h1
   rw [List.getD_eq_getElem?_getD,List.getD_eq_getElem?_getD,List.getElem?_eq_getElem hi,List.getElem?_eq_getElem (by omega)]
   simpa using h1
  unfold pr at he
  injection he with e0 e1
  match j,hs with
  | 0,hs =>
   injection hs with hs
   subst hs
   have:=vd_int (k:=.i64) k2
   rw [this,e0]
   exact .int .i64 _
  | 1,hs =>
   injection hs with hs
   subst hs
   have:=vd_int (k:=.i64) k2
   rw [this,e1]
   exact .int .i64 _
def s_l2CellsNE:Ent:=(219,e4 (sd (.sl 108)) ri ri rb fun p q r s=>(⟨.one (.c (.own (0,0) true 108)),[prD (putP (prs (gd p 0)) (gd q 0).int (gd r 0).int (gd s 0).bool)]⟩,cellsUp (gd p 0)))
theorem s_l2CellsN_ok:EntOk Tryz.prog s_l2CellsNE:=e4_ok fun p q r s h=>by
 have h:cellsUp (gd p 0)=true:=h
 have hz:=up_sorted h
 have hl:=hz.len
 refine norm_own row_cell ?_ (s_l2Cells_ok [⟨sd (.sl 108),p⟩,⟨ri,q⟩,⟨ri,r⟩,⟨rb,s⟩] ⟨.one (.c (.own (0,0) true 108)),[l2Raw (gd p 0) (gd q 0) (gd r 0) (gd s 0).bool]⟩ ?_)
 ·rw [l2_law hz,prs_prD]
 ·have:leI ((gd p 0).rows.length:Int) 1000000=true:=leI_t (by omega)
  simp only [s_l2CellsE,e4,beq_self_eq_true,Bool.and_self,cond_true,this]
end Go.Proofs.YtpdfmcmnjikppaaGreat
namespace Go.Proofs.YtpdfmcmnjikppaaGreat
set_option maxRecDepth 4096
set_option maxHeartbeats 1000000
end Go.Proofs.YtpdfmcmnjikppaaGreat
namespace Go.Proofs.YtpdfmcmnjikppaaGreat
theorem mapD_len (f:List D→List D) (z:D):(D.l (z.rows.map f)).rows.length=z.rows.length:=List.length_map ..
end Go.Proofs.YtpdfmcmnjikppaaGreat
namespace Go.Proofs.YtpdfmcmnjikppaaGreat
set_option maxRecDepth 4096
set_option maxHeartbeats 1000000
abbrev i_haveAny_1T:FuncId→List T→Option (T × Bool):=find [i_meetsE]
theorem i_haveAny_1T_ok:CallOk Tryz.prog i_haveAny_1T:=find_ok (fC ⟨i_meets_ok,fN⟩)
abbrev i_haveAny_1K:List Nat:= [0,1,2,3]
theorem i_haveAny_1_ev (N:Nat) (p q:List D):evFn Tryz.prog i_haveAny_1T N i_haveAny_1K Tryz.f222 rb [⟨ag rIRange,p⟩,⟨.one (.c (.cptr [si,si] 0)),q⟩]=some (bo,
 ob (i_meetsF (sub ((gd q 0).rows.getD 0 []) 0 2) (sub p 0 2))):=by kernel_rfl
def i_haveAny_1F (p q:List D):Bool:=
 i_meetsF (sub ((gd q 0).rows.getD 0 []) 0 2) (sub p 0 2)
def i_haveAny_1E:Ent:=(222,e2 (ag rIRange) (.one (.c (.cptr [si,si] 0))) fun p q=>(⟨rb,[.b (i_haveAny_1F p [gd q 0])]⟩,true))
theorem i_haveAny_1_ok:EntOk Tryz.prog i_haveAny_1E:=e2_ok fun p q h=>evFn_sound (N:=0) (ks:=i_haveAny_1K) (key:=bo) i_haveAny_1T_ok (enters Tryz.func222) Tryz.func222 fun hw=>by
 rw [i_haveAny_1_ev]
 try simp only [cond_ob,cond_oi,cond_os]
 rfl
abbrev ixfHAT:FuncId→List T→Option (T × Bool):=find [i_haveAny_1E]
theorem ixfHAT_ok:CallOk Tryz.prog ixfHAT:=find_ok (fC ⟨i_haveAny_1_ok,fN⟩)
abbrev ixfHAK:List Nat:= [0,1,4,5,7,8,9,16]
noncomputable def ixfHAL0 (N:Nat) (p q:List D):List D→Out:=loopOf Tryz.prog ixfHAT N ixfHAK Tryz.f207 ri [⟨sd (.sl 41),p⟩,⟨.one (.c (.fn 222 [.cptr [si,si] 0])),q⟩] 0
theorem ixfHAR0 (N:Nat) (p q:List D) (x0 x1 x2 x3 x4:D):(ixfHAL0 N p q) [x0,x1,x2,x3,x4] =
 bif ltI x4.int x3.int then nd (inRange x4.int x0.rows.length) (bif i_haveAny_1F (sub (x0.rows.getD x4.int.toNat []) 0 2) [gd (x1.rows.getD 0 []) 0] then some (1,[x4])
 else nx [x0,x1,x2,x3,.i (w64 (x4.int+1))])
 else ex 0 [x0,x1,x2,x3,x4]:=by kernel_rfl
theorem ixfHA_ev (N:Nat) (p q:List D):evFn Tryz.prog ixfHAT N ixfHAK Tryz.f207 ri [⟨sd (.sl 41),p⟩,⟨.one (.c (.fn 222 [.cptr [si,si] 0])),q⟩]=some (bo,
 (let o0:=iter (ixfHAL0 N p q) N [gd p 0,gd q 0,.i 0,.i ((gd p 0).rows.length:Int),.i 0]
  nd o0.isSome (bif o0.code==1 then some (1,o0.pay)
  else nd (o0.code==2) (oi (-1))))):=by kernel_rfl
def ixfHAC (c:D) (r:List D):Bool:=i_haveAny_1F r [gd (c.rows.getD 0 []) 0]
def ixfHAE:Ent:=(207,e2 (sd (.sl 41)) (.one (.c (.fn 222 [.cptr [si,si] 0]))) fun p q=>(⟨ri,[.i (ixF (fun k=>ixfHAC (gd q 0) (sub ((gd p 0).rows.getD k []) 0 2)) 0 (gd p 0).rows.length)]⟩,true))
theorem ixfHA_ok:EntOk Tryz.prog ixfHAE:=e2_ok fun p q h=>evFn_sound (N:=(gd p 0).rows.length+1) (ks:=ixfHAK) (key:=bo) ixfHAT_ok (enters Tryz.func207) Tryz.func207 fun hw=>by
 rw [ixfHA_ev]
 have hl:=wt_sl (hw ⟨sd (.sl 41),p⟩ (by simp))
 have e:=ix_loop (L:=ixfHAL0 ((gd p 0).rows.length+1) p q) (fun k => [gd p 0,gd q 0,.i 0,.i ((gd p 0).rows.length:Int),.i (k:Int)]) (gd p 0).rows.length (fun k=>ixfHAC (gd q 0) (sub ((gd p 0).rows.getD k []) 0 2)) [gd p 0,gd q 0,.i 0,.i ((gd p 0).rows.length:Int),.i ((gd p 0).rows.length:Int)] (fun k hk=>?_) ?_ (gd p 0).rows.length 0 ((gd p 0).rows.length+1) (by omega) (by omega)
 ·simp only [Int.natCast_zero] at e
  rw [e]
  have hno:=ixF_neg (fun k=>ixfHAC (gd q 0) (sub ((gd p 0).rows.getD k []) 0 2)) (gd p 0).rows.length 0
  cases hd:decide (ixF (fun k=>ixfHAC (gd q 0) (sub ((gd p 0).rows.getD k []) 0 2)) 0 (gd p 0).rows.length≥0)
  ·rw [hno hd]; rfl
  ·rfl
 ·show ixfHAL0 _ p q [_,_,_,_,.i (k:Int)]=_
  rw [ixfHAR0]
  simp only [int_i,c_lt hk,nd_ix hk,w64_succ hk hl,Int.toNat_natCast]
  unfold ixfHAC
  cases i_haveAny_1F (sub ((gd p 0).rows.getD k []) 0 2) [gd ((gd q 0).rows.getD 0 []) 0] <;> rfl
 ·show ixfHAL0 _ p q [_,_,_,.i ((gd p 0).rows.length:Int),.i ((gd p 0).rows.length:Int)]=_
  rw [ixfHAR0]
  simp only [int_i,c_nlt]
abbrev cofHAT:FuncId→List T→Option (T × Bool):=find [ixfHAE,i_haveAny_1E]
theorem cofHAT_ok:CallOk Tryz.prog cofHAT:=find_ok (fC ⟨ixfHA_ok,fC ⟨i_haveAny_1_ok,fN⟩⟩)
abbrev cofHAK:List Nat:= [0,1,4]
theorem cofHA_ev (N:Nat) (p q:List D):evFn Tryz.prog cofHAT N cofHAK Tryz.f106 rb [⟨sd (.sl 41),p⟩,⟨.one (.c (.fn 222 [.cptr [si,si] 0])),q⟩]=some (bo,
 ob (leI 0 (ixF (fun k=>ixfHAC (.l [[gd ((gd q 0).rows.getD 0 []) 0]]) (sub ((gd p 0).rows.getD k []) 0 2)) 0 (gd p 0).rows.length))):=by kernel_rfl
def cofHAE:Ent:=(106,e2 (sd (.sl 41)) (.one (.c (.fn 222 [.cptr [si,si] 0]))) fun p q=>(⟨rb,[.b (anyS (fun rr=>ixfHAC (gd q 0) (sub rr 0 2)) (gd p 0))]⟩,true))
theorem cofHA_ok:EntOk Tryz.prog cofHAE:=e2_ok fun p q h=>evFn_sound (N:=0) (ks:=cofHAK) (key:=bo) cofHAT_ok (enters Tryz.func106) Tryz.func106 fun hw=>by
 rw [cofHA_ev]
 refine congrArg (fun x=>some (bo,ob x)) ?_
 exact (ixF_any (fun k=>ixfHAC (gd q 0) (sub ((gd p 0).rows.getD k []) 0 2)) (gd p 0).rows.length 0).trans (by simp only [Nat.zero_add]; rfl)
abbrev i_haveAnyT:FuncId→List T→Option (T × Bool):=find [cofHAE]
theorem i_haveAnyT_ok:CallOk Tryz.prog i_haveAnyT:=find_ok (fC ⟨cofHA_ok,fN⟩)
abbrev i_haveAnyK:List Nat:= [0,1,3,4]
theorem i_haveAny_ev (N:Nat) (p q:List D):evFn Tryz.prog i_haveAnyT N i_haveAnyK Tryz.f131 rb [⟨sd (.sl 41),p⟩,⟨ag rIRange,q⟩]=some (bo,
 ob (anyS (fun rr=>ixfHAC (.l [[.l [sub q 0 2]]]) (sub rr 0 2)) (gd p 0))):=by kernel_rfl
def haveAnyB (z:D) (q:List D):Bool:=(List.range z.rows.length).any fun k=>i_meetsF q (sub (z.rows.getD k []) 0 2)
def i_haveAnyE:Ent:=(131,e2 (sd (.sl 41)) (ag rIRange) fun p q=>(⟨rb,[.b (haveAnyB (gd p 0) q)]⟩,true))
theorem i_haveAny_ok:EntOk Tryz.prog i_haveAnyE:=e2_ok fun p q h=>evFn_sound (N:=0) (ks:=i_haveAnyK) (key:=bo) i_haveAnyT_ok (enters Tryz.func131) Tryz.func131 fun hw=>by
 rw [i_haveAny_ev]
 rfl
abbrev s_l10TouchT:FuncId→List T→Option (T × Bool):=find [s_RangeMeetE]
theorem s_l10TouchT_ok:CallOk Tryz.prog s_l10TouchT:=find_ok (fC ⟨s_RangeMeet_ok,fN⟩)
abbrev s_l10TouchK:List Nat:= [0,1,3,4,5,7,11,23]
noncomputable def s_l10TouchL0 (N:Nat) (p q:List D):List D→Out:=loopOf Tryz.prog s_l10TouchT N s_l10TouchK Tryz.f124 rb [⟨sd (.sl 41),p⟩,⟨ag rIRange,q⟩] 0
theorem s_l10TouchR0 (N:Nat) (p q:List D) (x0 x1 x2 x3 x4 x5 x6 x7:D):(s_l10TouchL0 N p q) [x0,x1,x2,x3,x4,x5,x6,x7] =
 bif ltI x5.int (x0.rows.length:Int) then nd ((inRange x5.int x0.rows.length)&&true) (nd (((inRange x5.int x0.rows.length)&&true)&&(sameP [[gd (sub (meetR (sub (x0.rows.getD x5.int.toNat []) 0 2) [x6,x7]) 0 3) 2],[.i 0],[gd (sub (meetR (sub (x0.rows.getD x5.int.toNat []) 0 2) [x6,x7]) 0 3) 2],[gd (sub (meetR (sub (x0.rows.getD x5.int.toNat []) 0 2) [x6,x7]) 0 3) 0,gd (sub (meetR (sub (x0.rows.getD x5.int.toNat []) 0 2) [x6,x7]) 0 3) 1],[gd (sub (meetR (sub (x0.rows.getD x5.int.toNat []) 0 2) [x6,x7]) 0 3) 0,gd (sub (meetR (sub (x0.rows.getD x5.int.toNat []) 0 2) [x6,x7]) 0 3) 1,gd (sub (meetR (sub (x0.rows.getD x5.int.toNat []) 0 2) [x6,x7]) 0 3) 2],[gd (sub (meetR (sub (x0.rows.getD x5.int.toNat []) 0 2) [x6,x7]) 0 3) 0,gd (sub (meetR (sub (x0.rows.getD x5.int.toNat []) 0 2) [x6,x7]) 0 3) 1,gd (sub (meetR (sub (x0.rows.getD x5.int.toNat []) 0 2) [x6,x7]) 0 3) 2],[x6,x7],[gd (x0.rows.getD x5.int.toNat []) 0,gd (x0.rows.getD x5.int.toNat []) 1],[.l [[.l x0.rows,.i x5.int]]],[x5],[x0],[x0],[x1,x2],[x3],[x4],[x5],[.b (ltI x5.int (x0.rows.length:Int))],[x6,x7],[gd (sub (meetR (sub (x0.rows.getD x5.int.toNat []) 0 2) [x6,x7]) 0 3) 0,gd (sub (meetR (sub (x0.rows.getD x5.int.toNat []) 0 2) [x6,x7]) 0 3) 1]] [[gd (sub (meetR (sub (x0.rows.getD x5.int.toNat []) 0 2) [x6,x7]) 0 3) 2],[.i 0],[gd (sub (meetR (sub (x0.rows.getD x5.int.toNat []) 0 2) [x6,x7]) 0 3) 2],[gd (sub (meetR (sub (x0.rows.getD x5.int.toNat []) 0 2) [x6,x7]) 0 3) 0,gd (sub (meetR (sub (x0.rows.getD x5.int.toNat []) 0 2) [x6,x7]) 0 3) 1],[gd (sub (meetR (sub (x0.rows.getD x5.int.toNat []) 0 2) [x6,x7]) 0 3) 0,gd (sub (meetR (sub (x0.rows.getD x5.int.toNat []) 0 2) [x6,x7]) 0 3) 1,gd (sub (meetR (sub (x0.rows.getD x5.int.toNat []) 0 2) [x6,x7]) 0 3) 2],[gd (sub (meetR (sub (x0.rows.getD x5.int.toNat []) 0 2) [x6,x7]) 0 3) 0,gd (sub (meetR (sub (x0.rows.getD x5.int.toNat []) 0 2) [x6,x7]) 0 3) 1,gd (sub (meetR (sub (x0.rows.getD x5.int.toNat []) 0 2) [x6,x7]) 0 3) 2],[x6,x7],[gd (x0.rows.getD x5.int.toNat []) 0,gd (x0.rows.getD x5.int.toNat []) 1],[.l [[.l x0.rows,.i x5.int]]],[x5],[x0],[x0],[x1,x2],[x3],[x4],[x5],[.b (ltI x5.int (x0.rows.length:Int))],[x6,x7],[gd (sub (meetR (sub (x0.rows.getD x5.int.toNat []) 0 2) [x6,x7]) 0 3) 0,gd (sub (meetR (sub (x0.rows.getD x5.int.toNat []) 0 2) [x6,x7]) 0 3) 1]])) (nd (((inRange x5.int x0.rows.length)&&true)&&(sameP [[gd (sub (meetR (sub (x0.rows.getD x5.int.toNat []) 0 2) [x6,x7]) 0 3) 2],[.i 0],[gd (sub (meetR (sub (x0.rows.getD x5.int.toNat []) 0 2) [x6,x7]) 0 3) 2],[gd (sub (meetR (sub (x0.rows.getD x5.int.toNat []) 0 2) [x6,x7]) 0 3) 0,gd (sub (meetR (sub (x0.rows.getD x5.int.toNat []) 0 2) [x6,x7]) 0 3) 1],[gd (sub (meetR (sub (x0.rows.getD x5.int.toNat []) 0 2) [x6,x7]) 0 3) 0,gd (sub (meetR (sub (x0.rows.getD x5.int.toNat []) 0 2) [x6,x7]) 0 3) 1,gd (sub (meetR (sub (x0.rows.getD x5.int.toNat []) 0 2) [x6,x7]) 0 3) 2],[gd (sub (meetR (sub (x0.rows.getD x5.int.toNat []) 0 2) [x6,x7]) 0 3) 0,gd (sub (meetR (sub (x0.rows.getD x5.int.toNat []) 0 2) [x6,x7]) 0 3) 1,gd (sub (meetR (sub (x0.rows.getD x5.int.toNat []) 0 2) [x6,x7]) 0 3) 2],[x6,x7],[gd (x0.rows.getD x5.int.toNat []) 0,gd (x0.rows.getD x5.int.toNat []) 1],[.l [[.l x0.rows,.i x5.int]]],[x5],[x0],[x0],[x1,x2],[x3],[x4],[x5],[.b (ltI x5.int (x0.rows.length:Int))],[x6,x7],[gd (sub (meetR (sub (x0.rows.getD x5.int.toNat []) 0 2) [x6,x7]) 0 3) 0,gd (sub (meetR (sub (x0.rows.getD x5.int.toNat []) 0 2) [x6,x7]) 0 3) 1]] [[gd (sub (meetR (sub (x0.rows.getD x5.int.toNat []) 0 2) [x6,x7]) 0 3) 2],[.i 0],[gd (sub (meetR (sub (x0.rows.getD x5.int.toNat []) 0 2) [x6,x7]) 0 3) 2],[gd (sub (meetR (sub (x0.rows.getD x5.int.toNat []) 0 2) [x6,x7]) 0 3) 0,gd (sub (meetR (sub (x0.rows.getD x5.int.toNat []) 0 2) [x6,x7]) 0 3) 1],[gd (sub (meetR (sub (x0.rows.getD x5.int.toNat []) 0 2) [x6,x7]) 0 3) 0,gd (sub (meetR (sub (x0.rows.getD x5.int.toNat []) 0 2) [x6,x7]) 0 3) 1,gd (sub (meetR (sub (x0.rows.getD x5.int.toNat []) 0 2) [x6,x7]) 0 3) 2],[gd (sub (meetR (sub (x0.rows.getD x5.int.toNat []) 0 2) [x6,x7]) 0 3) 0,gd (sub (meetR (sub (x0.rows.getD x5.int.toNat []) 0 2) [x6,x7]) 0 3) 1,gd (sub (meetR (sub (x0.rows.getD x5.int.toNat []) 0 2) [x6,x7]) 0 3) 2],[x6,x7],[gd (x0.rows.getD x5.int.toNat []) 0,gd (x0.rows.getD x5.int.toNat []) 1],[.l [[.l x0.rows,.i x5.int]]],[x5],[x0],[x0],[x1,x2],[x3],[x4],[x5],[.b (ltI x5.int (x0.rows.length:Int))],[x6,x7],[gd (sub (meetR (sub (x0.rows.getD x5.int.toNat []) 0 2) [x6,x7]) 0 3) 0,gd (sub (meetR (sub (x0.rows.getD x5.int.toNat []) 0 2) [x6,x7]) 0 3) 1]])) (nd (((inRange x5.int x0.rows.length)&&true)&&(sameP [[gd (sub (meetR (sub (x0.rows.getD x5.int.toNat []) 0 2) [x6,x7]) 0 3) 2],[.i 0],[gd (sub (meetR (sub (x0.rows.getD x5.int.toNat []) 0 2) [x6,x7]) 0 3) 2],[gd (sub (meetR (sub (x0.rows.getD x5.int.toNat []) 0 2) [x6,x7]) 0 3) 0,gd (sub (meetR (sub (x0.rows.getD x5.int.toNat []) 0 2) [x6,x7]) 0 3) 1],[gd (sub (meetR (sub (x0.rows.getD x5.int.toNat []) 0 2) [x6,x7]) 0 3) 0,gd (sub (meetR (sub (x0.rows.getD x5.int.toNat []) 0 2) [x6,x7]) 0 3) 1,gd (sub (meetR (sub (x0.rows.getD x5.int.toNat []) 0 2) [x6,x7]) 0 3) 2],[gd (sub (meetR (sub (x0.rows.getD x5.int.toNat []) 0 2) [x6,x7]) 0 3) 0,gd (sub (meetR (sub (x0.rows.getD x5.int.toNat []) 0 2) [x6,x7]) 0 3) 1,gd (sub (meetR (sub (x0.rows.getD x5.int.toNat []) 0 2) [x6,x7]) 0 3) 2],[x6,x7],[gd (x0.rows.getD x5.int.toNat []) 0,gd (x0.rows.getD x5.int.toNat []) 1],[.l [[.l x0.rows,.i x5.int]]],[x5],[x0],[x0],[x1,x2],[x3],[x4],[x5],[.b (ltI x5.int (x0.rows.length:Int))],[x6,x7],[gd (sub (meetR (sub (x0.rows.getD x5.int.toNat []) 0 2) [x6,x7]) 0 3) 0,gd (sub (meetR (sub (x0.rows.getD x5.int.toNat []) 0 2) [x6,x7]) 0 3) 1]] [[gd (sub (meetR (sub (x0.rows.getD x5.int.toNat []) 0 2) [x6,x7]) 0 3) 2],[.i 0],[gd (sub (meetR (sub (x0.rows.getD x5.int.toNat []) 0 2) [x6,x7]) 0 3) 2],[gd (sub (meetR (sub (x0.rows.getD x5.int.toNat []) 0 2) [x6,x7]) 0 3) 0,gd (sub (meetR (sub (x0.rows.getD x5.int.toNat []) 0 2) [x6,x7]) 0 3) 1],[gd (sub (meetR (sub (x0.rows.getD x5.int.toNat []) 0 2) [x6,x7]) 0 3) 0,gd (sub (meetR (sub (x0.rows.getD x5.int.toNat []) 0 2) [x6,x7]) 0 3) 1,gd (sub (meetR (sub (x0.rows.getD x5.int.toNat []) 0 2) [x6,x7]) 0 3) 2],[gd (sub (meetR (sub (x0.rows.getD x5.int.toNat []) 0 2) [x6,x7]) 0 3) 0,gd (sub (meetR (sub (x0.rows.getD x5.int.toNat []) 0 2) [x6,x7]) 0 3) 1,gd (sub (meetR (sub (x0.rows.getD x5.int.toNat []) 0 2) [x6,x7]) 0 3) 2],[x6,x7],[gd (x0.rows.getD x5.int.toNat []) 0,gd (x0.rows.getD x5.int.toNat []) 1],[.l [[.l x0.rows,.i x5.int]]],[x5],[x0],[x0],[x1,x2],[x3],[x4],[x5],[.b (ltI x5.int (x0.rows.length:Int))],[x6,x7],[gd (sub (meetR (sub (x0.rows.getD x5.int.toNat []) 0 2) [x6,x7]) 0 3) 0,gd (sub (meetR (sub (x0.rows.getD x5.int.toNat []) 0 2) [x6,x7]) 0 3) 1]])) (nd (((inRange x5.int x0.rows.length)&&true)&&(sameP [[gd (sub (meetR (sub (x0.rows.getD x5.int.toNat []) 0 2) [x6,x7]) 0 3) 2],[.i 0],[gd (sub (meetR (sub (x0.rows.getD x5.int.toNat []) 0 2) [x6,x7]) 0 3) 2],[gd (sub (meetR (sub (x0.rows.getD x5.int.toNat []) 0 2) [x6,x7]) 0 3) 0,gd (sub (meetR (sub (x0.rows.getD x5.int.toNat []) 0 2) [x6,x7]) 0 3) 1],[gd (sub (meetR (sub (x0.rows.getD x5.int.toNat []) 0 2) [x6,x7]) 0 3) 0,gd (sub (meetR (sub (x0.rows.getD x5.int.toNat []) 0 2) [x6,x7]) 0 3) 1,gd (sub (meetR (sub (x0.rows.getD x5.int.toNat []) 0 2) [x6,x7]) 0 3) 2],[gd (sub (meetR (sub (x0.rows.getD x5.int.toNat []) 0 2) [x6,x7]) 0 3) 0,gd (sub (meetR (sub (x0.rows.getD x5.int.toNat []) 0 2) [x6,x7]) 0 3) 1,gd (sub (meetR (sub (x0.rows.getD x5.int.toNat []) 0 2) [x6,x7]) 0 3) 2],[x6,x7],[gd (x0.rows.getD x5.int.toNat []) 0,gd (x0.rows.getD x5.int.toNat []) 1],[.l [[.l x0.rows,.i x5.int]]],[x5],[x0],[x0],[x1,x2],[x3],[x4],[x5],[.b (ltI x5.int (x0.rows.length:Int))],[x6,x7],[gd (sub (meetR (sub (x0.rows.getD x5.int.toNat []) 0 2) [x6,x7]) 0 3) 0,gd (sub (meetR (sub (x0.rows.getD x5.int.toNat []) 0 2) [x6,x7]) 0 3) 1]] [[gd (sub (meetR (sub (x0.rows.getD x5.int.toNat []) 0 2) [x6,x7]) 0 3) 2],[.i 0],[gd (sub (meetR (sub (x0.rows.getD x5.int.toNat []) 0 2) [x6,x7]) 0 3) 2],[gd (sub (meetR (sub (x0.rows.getD x5.int.toNat []) 0 2) [x6,x7]) 0 3) 0,gd (sub (meetR (sub (x0.rows.getD x5.int.toNat []) 0 2) [x6,x7]) 0 3) 1],[gd (sub (meetR (sub (x0.rows.getD x5.int.toNat []) 0 2) [x6,x7]) 0 3) 0,gd (sub (meetR (sub (x0.rows.getD x5.int.toNat []) 0 2) [x6,x7]) 0 3) 1,gd (sub (meetR (sub (x0.rows.getD x5.int.toNat []) 0 2) [x6,x7]) 0 3) 2],[gd (sub (meetR (sub (x0.rows.getD x5.int.toNat []) 0 2) [x6,x7]) 0 3) 0,gd (sub (meetR (sub (x0.rows.getD x5.int.toNat []) 0 2) [x6,x7]) 0 3) 1,gd (sub (meetR (sub (x0.rows.getD x5.int.toNat []) 0 2) [x6,x7]) 0 3) 2],[x6,x7],[gd (x0.rows.getD x5.int.toNat []) 0,gd (x0.rows.getD x5.int.toNat []) 1],[.l [[.l x0.rows,.i x5.int]]],[x5],[x0],[x0],[x1,x2],[x3],[x4],[x5],[.b (ltI x5.int (x0.rows.length:Int))],[x6,x7],[gd (sub (meetR (sub (x0.rows.getD x5.int.toNat []) 0 2) [x6,x7]) 0 3) 0,gd (sub (meetR (sub (x0.rows.getD x5.int.toNat []) 0 2) [x6,x7]) 0 3) 1]])) (bif (gd (sub (meetR (sub (x0.rows.getD x5.int.toNat []) 0 2) [x6,x7]) 0 3) 2).bool then ob true
 else nx [x0,x1,x2,x3,x4,.i (w64 (x5.int+1)),x6,x7])))))
 else ex 0 [x0,x1,x2,x3,x4,x5,x6,x7]:=by kernel_rfl
theorem s_l10Touch_ev (N:Nat) (p q:List D):evFn Tryz.prog s_l10TouchT N s_l10TouchK Tryz.f124 rb [⟨sd (.sl 41),p⟩,⟨ag rIRange,q⟩]=some (bo,
 (let o0:=iter (s_l10TouchL0 N p q) N [gd p 0,gd q 0,gd q 1,.i 0,.i 0,.i 0,gd q 0,gd q 1]
  nd o0.isSome (bif o0.code==1 then some (1,o0.pay)
  else nd (o0.code==2) (ob false)))):=by kernel_rfl
def touchB (z:D) (q:List D):Bool:= !(List.range z.rows.length).all fun k => !meetB (sub (z.rows.getD k []) 0 2) q
def s_l10TouchE:Ent:=(124,e2 (sd (.sl 41)) (ag rIRange) fun p q=>(⟨rb,[.b (touchB (gd p 0) q)]⟩,true))
theorem s_l10Touch_ok:EntOk Tryz.prog s_l10TouchE:=e2_ok fun p q h=>evFn_sound (N:=(gd p 0).rows.length+1) (ks:=s_l10TouchK) (key:=bo) s_l10TouchT_ok (enters Tryz.func124) Tryz.func124 fun hw=>by
 rw [s_l10Touch_ev]
 have hl:=wt_sl (hw ⟨sd (.sl 41),p⟩ (by simp))
 have e:=for_loop (L:=s_l10TouchL0 ((gd p 0).rows.length+1) p q) (fun k => [gd p 0,gd q 0,gd q 1,.i 0,.i 0,.i (k:Int),gd q 0,gd q 1]) (gd p 0).rows.length (fun k => !meetB (sub ((gd p 0).rows.getD k []) 0 2) q) [.b true] 0 (fun k hk=>?_) ?_ (N:=(gd p 0).rows.length+1) (by omega)
 ·simp only [Int.natCast_zero] at e
  rw [e]
  unfold touchB
  cases (List.range (gd p 0).rows.length).all fun k => !meetB (sub ((gd p 0).rows.getD k []) 0 2) q <;> rfl
 ·show s_l10TouchL0 _ p q [_,_,_,_,_,.i (k:Int),_,_]=_
  rw [s_l10TouchR0]
  simp only [int_i,c_lt hk,Bool.and_true,nd_ix hk,sameP_self,w64_succ hk hl,Int.toNat_natCast]
  have hm:(gd (sub (meetR (sub ((gd p 0).rows.getD k []) 0 2) [gd q 0,gd q 1]) 0 3) 2).bool=meetB (sub ((gd p 0).rows.getD k []) 0 2) q:=meetR_2 _ _
  rw [hm]
  cases meetB (sub ((gd p 0).rows.getD k []) 0 2) q <;> rfl
 ·show s_l10TouchL0 _ p q [_,_,_,_,_,.i ((gd p 0).rows.length:Int),_,_]=_
  rw [s_l10TouchR0]
  simp only [int_i,c_nlt]
theorem meets_comm (p q:List D):i_meetsF p q=i_meetsF q p:=by
 unfold i_meetsF
 cases ltI (gd p 0).int (gd q 1).int <;> cases ltI (gd q 0).int (gd p 1).int <;> rfl
theorem touch_same {z:D} {q:List D} (hz:rangesOk z=true) (hq:rangeOk q=true):touchB z q=haveAnyB z q:=by
 unfold touchB haveAnyB
 rw [Bool.eq_iff_iff]
 simp only [Bool.not_eq_true',← Bool.not_eq_true,List.all_eq_true,List.any_eq_true,List.mem_range]
 have hm:∀ k,k<z.rows.length→meetB (sub (z.rows.getD k []) 0 2) q=i_meetsF q (sub (z.rows.getD k []) 0 2):=fun k hk=>by
  rw [meetB_of (ranges_at hz hk) hq,meets_comm]
 constructor
 ·intro h
  refine Classical.byContradiction fun hn=>h fun k hk hc=>hn ⟨k,hk,?_⟩
  rw [← hm k hk]; exact hc
 ·rintro ⟨k,hk,hc⟩ h
  refine h k hk ?_
  rw [hm k hk]; exact hc
end Go.Proofs.YtpdfmcmnjikppaaGreat
namespace Go.Proofs.YtpdfmcmnjikppaaGreat
set_option maxRecDepth 4096
set_option maxHeartbeats 1000000
structure CoordW (R O:D):Prop where
 len:R.rows.length≤60
 tx:∀ i,i<R.rows.length→(gd (R.rows.getD i []) 0).int=((i+1:Nat):Int)
 sh:∀ i,i<R.rows.length→sharesOk (gd (R.rows.getD i []) 4)=true
 ord:∀ k,k<O.rows.length→1≤vAt O k∧vAt O k≤(R.rows.length:Int)∧(gd (R.rows.getD (vAt O k - 1).toNat []) 3).int=3
 nodup:(numsOf O).Nodup
 all:cnt (isYes R) 0 R.rows.length=O.rows.length
end Go.Proofs.YtpdfmcmnjikppaaGreat
namespace Go.Proofs.YtpdfmcmnjikppaaGreat
set_option maxRecDepth 4096
set_option maxHeartbeats 1000000
abbrev shOf (R O:D) (k:Nat):D:=gd (R.rows.getD (vAt O k - 1).toNat []) 4
structure BefW (R O:D):Prop where
 ord:∀ k,k<O.rows.length→1≤vAt O k∧vAt O k≤(R.rows.length:Int)
 sh:∀ k,k<O.rows.length→sharesOk (shOf R O k)=true
 rl:R.rows.length≤60
 ol:O.rows.length≤60
end Go.Proofs.YtpdfmcmnjikppaaGreat
namespace Go.Proofs.YtpdfmcmnjikppaaGreat
set_option maxRecDepth 4096
set_option maxHeartbeats 1000000
def cellsOf (p:List D) (k:Nat):D:=gd ((gd p 9).rows.getD k []) 3
end Go.Proofs.YtpdfmcmnjikppaaGreat
namespace Go.Proofs.YtpdfmcmnjikppaaGreat
set_option maxRecDepth 4096
set_option maxHeartbeats 1000000
end Go.Proofs.YtpdfmcmnjikppaaGreat
namespace Go.Proofs.YtpdfmcmnjikppaaGreat
set_option maxRecDepth 4096
set_option maxHeartbeats 1000000
end Go.Proofs.YtpdfmcmnjikppaaGreat
namespace Go.Proofs.YtpdfmcmnjikppaaGreat
set_option maxRecDepth 100000
set_option maxHeartbeats 4000000
open Go.RowKit Go.Lib
end Go.Proofs.YtpdfmcmnjikppaaGreat
namespace Go.Proofs.YtpdfmcmnjikppaaGreat
set_option maxRecDepth 100000
set_option maxHeartbeats 4000000
open Go.RowKit Go.Lib
def keptR (C:List D→Bool) (rows:List (List D)):List (List D):=rows.filter fun r => !C r
structure KI (C:List D→Bool) (rows rj:List (List D)) (i j:Nat):Prop where
 len:rj.length=rows.length
 lt:i<j
 le:j≤rows.length
 num:i=(keptR C (rows.take j)).length
 done:rj.take i=keptR C (rows.take j)
 rest:∀ k,j≤k→rj.getD k []=rows.getD k []
theorem take_succ_getD {rows:List (List D)} {j:Nat} (h:j<rows.length):rows.take (j+1)=rows.take j ++ [rows.getD j []]:=by
 rw [List.take_add_one,List.getElem?_eq_getElem h,List.getD_eq_getElem?_getD,List.getElem?_eq_getElem h]
 rfl
theorem KI.keep {C:List D→Bool} {rows rj:List (List D)} {i j:Nat} (h:KI C rows rj i j) (hj:j<rows.length) (hc:C (rows.getD j [])=false):KI C rows (rj.set i (rows.getD j [])) (i+1) (j+1):=by
 have hk:keptR C (rows.take (j+1))=keptR C (rows.take j) ++ [rows.getD j []]:=by
  rw [take_succ_getD hj]
  unfold keptR
  rw [List.filter_append]
  congr 1
  simp only [List.filter_cons,hc,Bool.not_false,if_true,List.filter_nil]
 have hl:=h.len
 have hlt:=h.lt
 refine ⟨by simp [hl],by omega,by omega,by rw [hk,List.length_append,← h.num]; rfl,?_,fun k hk'=>?_⟩
 ·rw [hk,← h.done,take_succ_getD (by simp; omega)]
  congr 1
  ·rw [List.take_set_of_le (Nat.le_refl _)]
  ·rw [List.getD_eq_getElem?_getD,List.getElem?_set_self (by omega)]; rfl
 ·rw [List.getD_eq_getElem?_getD,List.getElem?_set_ne (by omega),← List.getD_eq_getElem?_getD]
  exact h.rest k (by omega)
theorem KI.skip {C:List D→Bool} {rows rj:List (List D)} {i j:Nat} (h:KI C rows rj i j) (hj:j<rows.length) (hc:C (rows.getD j [])=true):KI C rows rj i (j+1):=by
 have hk:keptR C (rows.take (j+1))=keptR C (rows.take j):=by
  rw [take_succ_getD hj]
  unfold keptR
  rw [List.filter_append]
  simp only [List.filter_cons,hc,Bool.not_true,Bool.false_eq_true,if_false,List.filter_nil,List.append_nil]
 have hlt:=h.lt
 exact ⟨h.len,by omega,by omega,by rw [hk]; exact h.num,by rw [hk]; exact h.done,fun k hk'=>h.rest k (by omega)⟩
theorem keptR_none {C:List D→Bool} {rows:List (List D)} (h:∀ k,k<rows.length→C (rows.getD k [])=false):keptR C rows=rows:=by
 unfold keptR
 rw [List.filter_eq_self]
 intro r hr
 obtain ⟨k,hk,rfl⟩:=List.getElem_of_mem hr
 have:=h k hk
 rw [List.getD_eq_getElem?_getD,List.getElem?_eq_getElem hk] at this
 simpa using this
theorem KI.start {C:List D→Bool} {rows:List (List D)} {k0:Nat} (h:k0<rows.length) (hn:∀ k,k<k0→C (rows.getD k [])=false) (hc:C (rows.getD k0 [])=true):KI C rows rows k0 (k0+1):=by
 have hkn:keptR C (rows.take k0)=rows.take k0:=keptR_none fun k hk=>by
  have hk:k<k0:=by have:=hk; simp at this; omega
  rw [List.getD_eq_getElem?_getD,List.getElem?_take,if_pos hk,← List.getD_eq_getElem?_getD]
  exact hn k hk
 have hk:keptR C (rows.take (k0+1))=rows.take k0:=by
  rw [take_succ_getD h]
  unfold keptR
  rw [List.filter_append]
  simp only [List.filter_cons,hc,Bool.not_true,Bool.false_eq_true,if_false,List.filter_nil,List.append_nil]
  exact hkn
 exact ⟨rfl,by omega,by omega,by rw [hk,List.length_take]; omega,hk.symm,fun _ _=>rfl⟩
end Go.Proofs.YtpdfmcmnjikppaaGreat
namespace Go.Proofs.YtpdfmcmnjikppaaGreat
set_option maxRecDepth 100000
set_option maxHeartbeats 4000000
open Go.RowKit Go.Lib
abbrev rowN (k:Nat):List S:=List.replicate k (.int .i64)
theorem ownN_mk {w:World} {e:TypeId} {k:Nat} {rows:List (List D)} {b cap:Nat} {arr:Array Value} (hh:w.heap[b]?=some (.cells arr e (0,0))) (hs:arr.size=cap*k) (hle:rows.length≤cap) (h63:cap≤9223372036854775807)
  (hc:∀ i j,i<rows.length→j<k→arr[i*k+j]?=some (.int .i64 (gd (rows.getD i []) j).int)):OwnK w e (rowN k) rows (.slice (some ⟨b,0,none⟩) rows.length cap) (some b):=
 .inr ⟨b,cap,arr,rfl,rfl,hle,h63,hh,by simpa using hs,fun i j s hi hj=>by
  obtain ⟨h1,h2⟩:=List.getElem?_eq_some_iff.1 hj
  have h1:j<k:=by simpa using h1
  have h2:S.int .i64=s:=by simpa using h2
  subst h2
  exact ⟨.int .i64 (gd (rows.getD i []) j).int,by simpa using hc i j hi h1,rfl⟩⟩
theorem ownN_at {w:World} {e:TypeId} {k:Nat} {rows:List (List D)} {u:Value} {B:Option Nat} (h:OwnK w e (rowN k) rows u B):(B=none∧rows = []∧∃ A,u=.slice A 0 0) ∨
  ∃ (b cap:Nat) (arr:Array Value),B=some b∧u=.slice (some ⟨b,0,none⟩) rows.length cap∧rows.length≤cap∧cap≤9223372036854775807∧w.heap[b]?=some (.cells arr e (0,0))∧arr.size=cap*k ∧
   ∀ i j,i<rows.length→j<k→arr[i*k+j]?=some (.int .i64 (gd (rows.getD i []) j).int):=by
 rcases h with h | ⟨b,cap,arr,h1,h2,h3,h4,h5,h6,h7⟩
 ·exact .inl h
 ·refine .inr ⟨b,cap,arr,h1,h2,h3,h4,h5,by simpa using h6,fun i j hi hj=>?_⟩
  obtain ⟨u,q1,q2⟩:=h7 i j (.int .i64) hi (by simp [hj])
  rw [show (rowN k).length=k from by simp] at q1
  rw [q1]
  exact congrArg some q2
theorem ownN_below {w w':World} {e:TypeId} {row:List S} {rows:List (List D)} {u:Value} {B:Option Nat} (h:OwnK w e row rows u B) (hb:Below w.heap.size w w'):OwnK w' e row rows u B:=by
 rcases h with h | ⟨b,cap,arr,h1,h2,h3,h4,h5,h6⟩
 ·exact .inl h
 ·exact .inr ⟨b,cap,arr,h1,h2,h3,h4,(hb.block b (lt_of_heap h5)).trans h5,h6⟩
end Go.Proofs.YtpdfmcmnjikppaaGreat
namespace Go.Proofs.YtpdfmcmnjikppaaGreat
set_option maxRecDepth 4096
set_option maxHeartbeats 1000000
end Go.Proofs.YtpdfmcmnjikppaaGreat
namespace Go.Proofs.YtpdfmcmnjikppaaGreat
set_option maxRecDepth 100000
set_option maxHeartbeats 4000000
open Go.RowKit Go.Lib
end Go.Proofs.YtpdfmcmnjikppaaGreat
namespace Go.Proofs.YtpdfmcmnjikppaaGreat
set_option maxRecDepth 4096
set_option maxHeartbeats 1000000
end Go.Proofs.YtpdfmcmnjikppaaGreat
namespace Go.Proofs.YtpdfmcmnjikppaaGreat
set_option maxRecDepth 4096
set_option maxHeartbeats 1000000
abbrev s_l13RankT:FuncId→List T→Option (T × Bool):=find [s_ShardOkE,s_l1InE,s_RangeOkE]
theorem s_l13RankT_ok:CallOk Tryz.prog s_l13RankT:=find_ok (fC ⟨s_ShardOk_ok,fC ⟨s_l1In_ok,fC ⟨s_RangeOk_ok,fN⟩⟩⟩)
abbrev s_l13RankK:List Nat:= [0,1,2,3,5,6,7,21]
theorem s_l13Rank_ev (N:Nat) (p q r:List D):evFn Tryz.prog s_l13RankT N s_l13RankK Tryz.f59 ri [⟨ag rIShard,p⟩,⟨ri,q⟩,⟨ag rIRange,r⟩]=some (bo,
 bif !(shardOk (sub p 0 9)) then oi 1
 else bif !(inB (gd q 0).int 1 1000000) then oi 1
 else bif !(rangeOk (sub r 0 2)) then oi 1
 else bif ltI (gd q 0).int (gd p 8).int then oi 2
 else oi 0):=by kernel_rfl
def s_l13RankF (p q r:List D):Int:=
 bif !(shardOk (sub p 0 9)) then 1
 else bif !(inB (gd q 0).int 1 1000000) then 1
 else bif !(rangeOk (sub r 0 2)) then 1
 else bif ltI (gd q 0).int (gd p 8).int then 2
 else 0
def s_l13RankE:Ent:=(59,e3 (ag rIShard) ri (ag rIRange) fun p q r=>(⟨ri,[.i (s_l13RankF p [gd q 0] r)]⟩,true))
theorem s_l13Rank_ok:EntOk Tryz.prog s_l13RankE:=e3_ok fun p q r h=>evFn_sound (N:=0) (ks:=s_l13RankK) (key:=bo) s_l13RankT_ok (enters Tryz.func59) Tryz.func59 fun hw=>by
 rw [s_l13Rank_ev]
 try simp only [cond_ob,cond_oi,cond_os]
 rfl
abbrev i_rankBadT:FuncId→List T→Option (T × Bool):=find [i_ShardOkE,i_fromE,i_RangeOkE]
theorem i_rankBadT_ok:CallOk Tryz.prog i_rankBadT:=find_ok (fC ⟨i_ShardOk_ok,fC ⟨i_from_ok,fC ⟨i_RangeOk_ok,fN⟩⟩⟩)
abbrev i_rankBadK:List Nat:= [0,1,2,3,5,6,7,21]
theorem i_rankBad_ev (N:Nat) (p q r:List D):evFn Tryz.prog i_rankBadT N i_rankBadK Tryz.f72 ri [⟨ag rIShard,p⟩,⟨ri,q⟩,⟨ag rIRange,r⟩]=some (bo,
 nd (shardSmall (sub p 0 9)) (bif !(shardOk (sub p 0 9)) then oi 1
 else bif !(inB (gd q 0).int 1 1000000) then oi 1
 else bif !(rangeOk (sub r 0 2)) then oi 1
 else bif ltI (gd q 0).int (gd p 8).int then oi 2
 else oi 0)):=by kernel_rfl
def i_rankBadE:Ent:=(72,e3 (ag rIShard) ri (ag rIRange) fun p q r=>(⟨ri,[.i (s_l13RankF p [(gd q 0)] r)]⟩,shardSmall p))
theorem i_rankBad_ok:EntOk Tryz.prog i_rankBadE:=e3_ok fun p q r h=>evFn_sound (N:=0) (ks:=i_rankBadK) (key:=bo) i_rankBadT_ok (enters Tryz.func72) Tryz.func72 fun hw=>by
 rw [i_rankBad_ev]
 have h:shardSmall (sub p 0 9)=true:=h
 rw [h]
 unfold s_l13RankF
 rw [show gd [gd q 0] 0=gd q 0 from rfl]
 cases shardOk (sub p 0 9) <;> cases inB (gd q 0).int 1 1000000 <;> cases rangeOk (sub r 0 2) <;> cases ltI (gd q 0).int (gd p 8).int <;> rfl
def kpL (C:Nat→Bool) (f:Nat→List D):Nat→List (List D)
 | 0 => []
 | k+1=>bif C k then kpL C f k ++ [f k] else kpL C f k
theorem kpL_len (C:Nat→Bool) (f:Nat→List D):∀ k,(kpL C f k).length≤k
 | 0=>Nat.le_refl _
 | k+1=>by
  have:=kpL_len C f k
  rw [kpL]
  cases C k <;> simp <;> omega
abbrev s_l11ScanT:FuncId→List T→Option (T × Bool):=find [s_StoreOkE,s_RangeOkE,s_l1InE]
theorem s_l11ScanT_ok:CallOk Tryz.prog s_l11ScanT:=find_ok (fC ⟨s_StoreOk_ok,fC ⟨s_RangeOk_ok,fC ⟨s_l1In_ok,fN⟩⟩⟩)
abbrev s_l11ScanK:List Nat:= [0,1,2,4,6,7,8,21,36]
noncomputable def s_l11ScanL0 (N:Nat) (p q r:List D):List D→Out:=loopOf Tryz.prog s_l11ScanT N s_l11ScanK Tryz.f189 (.one (.c (.d (.sl 108)))) [⟨sd (.sl 108),p⟩,⟨ag rIRange,q⟩,⟨rb,r⟩] 0
theorem s_l11ScanR0 (N:Nat) (p q r:List D) (x0 x1 x2 x3 x4 x5 x6 x7 x8 x9:D):(s_l11ScanL0 N p q r) [x0,x1,x2,x3,x4,x5,x6,x7,x8,x9] =
 bif ltI x7.int (x0.rows.length:Int) then bif storeOk x0 then bif rangeOk [x8,x9] then nd (inRange x7.int x0.rows.length) (bif (inB (gd (x0.rows.getD x7.int.toNat []) 0).int x8.int (w64 (x9.int - 1)))==x3.bool then nd (inRange x7.int x0.rows.length) (nd (lenOk (x6.rows ++ [sub (x0.rows.getD x7.int.toNat []) 0 2])&&true) (nx [x0,x1,x2,x3,x4,x5,.l (x6.rows ++ [sub (x0.rows.getD x7.int.toNat []) 0 2]),.i (w64 (x7.int+1)),x8,x9]))
 else nx [x0,x1,x2,x3,x4,x5,x6,.i (w64 (x7.int+1)),x8,x9])
 else ex 0 [x0,x1,x2,x3,x4,x5,x6,x7,x8,x9]
 else ex 0 [x0,x1,x2,x3,x4,x5,x6,x7,x8,x9]
 else ex 0 [x0,x1,x2,x3,x4,x5,x6,x7,x8,x9]:=by kernel_rfl
theorem s_l11Scan_ev (N:Nat) (p q r:List D):evFn Tryz.prog s_l11ScanT N s_l11ScanK Tryz.f189 (.one (.c (.d (.sl 108)))) [⟨sd (.sl 108),p⟩,⟨ag rIRange,q⟩,⟨rb,r⟩]=some (bo,
 (let o0:=iter (s_l11ScanL0 N p q r) N [gd p 0,gd q 0,gd q 1,gd r 0,.i 0,.l [],.l [],.i 0,gd q 0,gd q 1]
  nd o0.isSome (nd (o0.code==2) (some (1,[gd o0.pay 6]))))):=by kernel_rfl
def scanD (z:D) (a:List D) (inn:Bool):D:=.l (bif storeOk z&&rangeOk (sub a 0 2) then kpL (fun k=>(inB (gd (z.rows.getD k []) 0).int (gd a 0).int (w64 ((gd a 1).int - 1)))==inn) (fun k=>sub (z.rows.getD k []) 0 2) z.rows.length else [])
def s_l11ScanE:Ent:=(189,e3 (sd (.sl 108)) (ag rIRange) rb fun p q r=>(⟨.one (.c (.d (.sl 108))),[scanD (gd p 0) q (gd r 0).bool]⟩,leI ((gd p 0).rows.length:Int) 1000000000))
theorem s_l11Scan_ok:EntOk Tryz.prog s_l11ScanE:=e3_ok fun p q r h=>evFn_sound (N:=(gd p 0).rows.length+1) (ks:=s_l11ScanK) (key:=bo) s_l11ScanT_ok (enters Tryz.func189) Tryz.func189 fun hw=>by
 rw [s_l11Scan_ev]
 have h:leI ((gd p 0).rows.length:Int) 1000000000=true:=h
 have hn:((gd p 0).rows.length:Int)≤1000000000:=of_decide_eq_true h
 cases hs:storeOk (gd p 0)&&rangeOk (sub q 0 2) with
 | true =>
  obtain ⟨h1,h2⟩:=(Bool.and_eq_true _ _).mp hs
  have h2:rangeOk [gd q 0,gd q 1]=true:=h2
  have e:=run_loop (L:=s_l11ScanL0 ((gd p 0).rows.length+1) p q r) (fun k => [gd p 0,gd q 0,gd q 1,gd r 0,.i 0,.l [],.l (kpL (fun k=>(inB (gd ((gd p 0).rows.getD k []) 0).int (gd q 0).int (w64 ((gd q 1).int - 1)))==(gd r 0).bool) (fun k=>sub ((gd p 0).rows.getD k []) 0 2) k),.i (k:Int),gd q 0,gd q 1]) (gd p 0).rows.length 0 (fun k hk=>?_) ?_ (N:=(gd p 0).rows.length+1) (by omega)
  ·simp only [Int.natCast_zero] at e
   rw [kpL] at e
   rw [e]
   show some (bo,some (1,[D.l _]))=some (bo,some (1,[scanD (gd p 0) q (gd r 0).bool]))
   unfold scanD
   rw [hs]
   rfl
  ·show s_l11ScanL0 _ p q r [_,_,_,_,_,_,_,.i (k:Int),_,_]=_
   rw [s_l11ScanR0]
   have hlen:=kpL_len (fun k=>(inB (gd ((gd p 0).rows.getD k []) 0).int (gd q 0).int (w64 ((gd q 1).int - 1)))==(gd r 0).bool) (fun k=>sub ((gd p 0).rows.getD k []) 0 2) k
   simp only [int_i,rows_l,c_lt hk,h1,h2,cond_true,nd_ix hk,Int.toNat_natCast,w64_succ hk (show (gd p 0).rows.length≤9223372036854775807 by omega),lenOk_t (show (kpL (fun k=>(inB (gd ((gd p 0).rows.getD k []) 0).int (gd q 0).int (w64 ((gd q 1).int - 1)))==(gd r 0).bool) (fun k=>sub ((gd p 0).rows.getD k []) 0 2) k ++ [sub ((gd p 0).rows.getD k []) 0 2]).length≤4294967296 by rw [List.length_append]; show _+1≤_; omega)]
   simp only [kpL]
   cases (inB (gd ((gd p 0).rows.getD k []) 0).int (gd q 0).int (w64 ((gd q 1).int - 1)))==(gd r 0).bool <;> rfl
  ·show s_l11ScanL0 _ p q r [_,_,_,_,_,_,_,.i ((gd p 0).rows.length:Int),_,_]=_
   rw [s_l11ScanR0]
   simp only [int_i,c_nlt]
 | false =>
  have e:s_l11ScanL0 ((gd p 0).rows.length+1) p q r [gd p 0,gd q 0,gd q 1,gd r 0,.i 0,.l [],.l [],.i 0,gd q 0,gd q 1]=some (2,[gd p 0,gd q 0,gd q 1,gd r 0,.i 0,.l [],.l [],.i 0,gd q 0,gd q 1]):=by
   rw [s_l11ScanR0]
   have hs:(storeOk (gd p 0)&&rangeOk [gd q 0,gd q 1])=false:=hs
   cases hz:ltI (D.i 0).int ((gd p 0).rows.length:Int) with
   | false=>rfl
   | true =>
    cases h1:storeOk (gd p 0) with
    | false=>rfl
    | true =>
     rw [h1,Bool.true_and] at hs
     rw [hs]
     rfl
  rw [iter_ex (c:=1) e]
  show some (bo,some (1,[D.l []]))=some (bo,some (1,[scanD (gd p 0) q (gd r 0).bool]))
  unfold scanD
  rw [hs]
  rfl
end Go.Proofs.YtpdfmcmnjikppaaGreat
namespace Go.Proofs.YtpdfmcmnjikppaaGreat
set_option maxRecDepth 4096
set_option maxHeartbeats 1000000
end Go.Proofs.YtpdfmcmnjikppaaGreat
namespace Go.Proofs.YtpdfmcmnjikppaaGreat
set_option maxRecDepth 4096
set_option maxHeartbeats 1000000
end Go.Proofs.YtpdfmcmnjikppaaGreat
namespace Go.Proofs.YtpdfmcmnjikppaaGreat
open Go.RowKit Go.Lib
end Go.Proofs.YtpdfmcmnjikppaaGreat
namespace Go.Proofs.YtpdfmcmnjikppaaGreat
open Go.RowKit Go.Lib
theorem getD_row {l:List (List D)} {k:Nat} (h:k<l.length):l.getD k []=l[k]:=by simp [List.getD_eq_getElem?_getD,h]
theorem take_getD {l:List (List D)} {k:Nat} (h:k<l.length):l.take (k+1)=l.take k ++ [l.getD k []]:=by
 rw [List.take_add_one,List.getElem?_eq_getElem h,getD_row h]
 rfl
def lockOne (r:List D):Bool:=inB (gd r 0).int 1 60&&(rangeOk [gd r 1,gd r 2]&&i_isModeF [gd r 3])
theorem locksOk_iff (z:D):locksOk z=true↔(∀ r∈z.rows,lockOne r=true)∧z.rows.Pairwise (fun a b=>i_clashF b a=false)∧z.rows.length≤40:=by
 unfold locksOk
 simp only [Bool.and_eq_true,List.all_eq_true,List.mem_range,leI,decide_eq_true_eq]
 constructor
 ·rintro ⟨h,hl⟩
  refine ⟨fun r hr=>?_,List.pairwise_iff_getElem.2 fun i j hi hj hij=>?_,by omega⟩
  ·obtain ⟨k,hk,rfl⟩:=List.getElem_of_mem hr
   have:=h k hk
   rw [lockAt,getD_row hk] at this
   simp only [Bool.and_eq_true] at this
   simp only [lockOne,Bool.and_eq_true]
   exact ⟨this.1,this.2.1,this.2.2.1⟩
  ·have:=h j hj
   simp only [lockAt,Bool.and_eq_true,Bool.not_eq_true',List.any_eq_false,List.mem_range,Bool.not_eq_true] at this
   have:=this.2.2.2 i hij
   rwa [getD_row hj,getD_row hi] at this
 ·rintro ⟨h1,h2,h3⟩
  refine ⟨fun k hk=>?_,by omega⟩
  have a:=h1 _ (List.getElem_mem hk)
  simp only [lockOne,Bool.and_eq_true] at a
  simp only [lockAt,Bool.and_eq_true,Bool.not_eq_true',List.any_eq_false,List.mem_range,Bool.not_eq_true]
  rw [getD_row hk]
  refine ⟨a.1,a.2.1,a.2.2,fun j hj=>?_⟩
  rw [getD_row (by omega)]
  exact List.pairwise_iff_getElem.1 h2 j k (by omega) hk hj
theorem kpL_take (rows:List (List D)) (C:List D→Bool) (f:List D→List D):∀ k,k≤rows.length→kpL (fun k=>C (rows.getD k [])) (fun k=>f (rows.getD k [])) k=((rows.take k).filter C).map f
 | 0,_=>rfl
 | k+1,hk=>by
  rw [kpL,kpL_take rows C f k (by omega),take_getD (show k<rows.length by omega),List.filter_append,List.map_append]
  generalize rows.getD k []=r
  rw [List.filter_cons]
  cases C r <;> simp
theorem kpL_rows (rows:List (List D)) (C:List D→Bool) (f:List D→List D):kpL (fun k=>C (rows.getD k [])) (fun k=>f (rows.getD k [])) rows.length=(rows.filter C).map f:=by
 rw [kpL_take rows C f rows.length (Nat.le_refl _),List.take_length]
end Go.Proofs.YtpdfmcmnjikppaaGreat
namespace Go.Proofs.YtpdfmcmnjikppaaGreat
set_option maxRecDepth 4096
set_option maxHeartbeats 1000000
def deepE (ds:List Nat):Ent:=(deepId,fun args=>match args with
 | [t]=>bif ds.contains (gd t.p 0).int.toNat then some (T.none_,false) else none
 | _=>none)
theorem deepE_ok {P:Program} (ds:List Nat):EntOk P (deepE ds):=by
 intro args r h
 unfold deepE at h
 simp only at h
 split at h
 ·rename_i t
  cases hc:ds.contains (gd t.p 0).int.toNat <;> rw [hc] at h <;> cases h
 ·cases h
def apartE:Ent:=(apartId,fun _=>some (T.none_,false))
theorem apartE_ok {P:Program}:EntOk P apartE:=by
 intro args r h
 unfold apartE at h
 cases h
theorem apart_ok {P:Program}:EntOk P apartE:=apartE_ok
def rDHeld:List Ce:= [.d si,.own (0,1) true 70]
def rDShard:List Ce:= [.d si,.own (0,1) true 41,.own (0,2) true 41,.own (0,3) true 108,.own (0,4) true 93,.own (0,1000005) true 75,.own (0,6) true 3,.own (0,7) true 3,.d si]
noncomputable def toIntSdL (N:Nat) (p:List D):List D→Out:=loopOf Tryz.prog (find []) N [0,2,3,4,11] Tryz.f71 (.one (.c (.own (0,0) true 3))) [⟨sd (.sl 3),p⟩] 0
theorem toIntSd_rd (p:List D) (N:Nat) (z x2:D) (rows:List (List D)) (k:Int):toIntSdL N p [z,x2,.l rows,.i k]=bif decide (k<z.rows.length) then nd (inRange k z.rows.length) (nd (okInt (z.rows.getD k.toNat [])) (nd (inRange k rows.length) (nx [z,x2,.l (rows.set k.toNat (cpInt (z.rows.getD k.toNat []))),.i (w64 (k+1))]))) else ex 0 [z,x2,.l rows,.i k]:=by kernel_rfl
theorem toIntSd_ev (p:List D) (N:Nat):evFn Tryz.prog (find []) N [0,2,3,4,11] Tryz.f71 (.one (.c (.own (0,0) true 3))) [⟨sd (.sl 3),p⟩]=some (bo,nd (decide (0≤((gd p 0).rows.length:Int))&&decide (((gd p 0).rows.length:Int)=((gd p 0).rows.length:Int))&&decide (((gd p 0).rows.length:Int)≤4294967296)&&true&&true)
  (let o:=iter (toIntSdL N p) N [gd p 0,.l [],.l (List.replicate (gd p 0).rows.length [.i 0]),.i 0]
   nd o.isSome (nd (o.code==2) (some (1,[gd o.pay 2]))))):=by kernel_rfl
def toIntSdE:Ent:=(71,e1 (sd (.sl 3)) fun p=>(⟨.one (.c (.own (0,0) true 3)),[cpIntS (gd p 0)]⟩,okIntS (gd p 0)))
theorem toIntSd_ok:EntOk Tryz.prog toIntSdE:=e1_ok fun p h=>evFn_sound (N:=(gd p 0).rows.length+1) (ks:= [0,2,3,4,11]) (key:=bo) (find_ok (fN)) (enters Tryz.func71) Tryz.func71 fun hw=>by
 have h:okIntS (gd p 0)=true:=h
 simp only [okIntS,Bool.and_eq_true,decide_eq_true_eq,List.all_eq_true] at h
 rw [toIntSd_ev,fill_loop (ok:=fun r=>okInt r) (f:=fun r=>cpInt r) [.i 0] (wt_sl (hw ⟨sd (.sl 3),p⟩ (by simp))) h.2 (toIntSd_rd p _ _ _) (by omega)]
 rw [show decide (((gd p 0).rows.length:Int)≤4294967296)=true from decide_eq_true (by omega),show decide (0≤((gd p 0).rows.length:Int))=true from decide_eq_true (by omega),decide_eq_true (rfl:((gd p 0).rows.length:Int)=_)]
 rfl
noncomputable def toCellSdL (N:Nat) (p:List D):List D→Out:=loopOf Tryz.prog (find [toCellE]) N [0,2,3,4,11] Tryz.f32 (.one (.c (.own (0,0) true 108))) [⟨sd (.sl 139),p⟩] 0
theorem toCellSd_rd (p:List D) (N:Nat) (z x2:D) (rows:List (List D)) (k:Int):toCellSdL N p [z,x2,.l rows,.i k]=bif decide (k<z.rows.length) then nd (inRange k z.rows.length) (nd (okCell (sub (z.rows.getD k.toNat []) 0 2)) (nd (inRange k rows.length) (nx [z,x2,.l (rows.set k.toNat (cpCell (sub (z.rows.getD k.toNat []) 0 2))),.i (w64 (k+1))]))) else ex 0 [z,x2,.l rows,.i k]:=by kernel_rfl
theorem toCellSd_ev (p:List D) (N:Nat):evFn Tryz.prog (find [toCellE]) N [0,2,3,4,11] Tryz.f32 (.one (.c (.own (0,0) true 108))) [⟨sd (.sl 139),p⟩]=some (bo,nd (decide (0≤((gd p 0).rows.length:Int))&&decide (((gd p 0).rows.length:Int)=((gd p 0).rows.length:Int))&&decide (((gd p 0).rows.length:Int)≤4294967296)&&true&&true)
  (let o:=iter (toCellSdL N p) N [gd p 0,.l [],.l (List.replicate (gd p 0).rows.length [.i 0,.i 0]),.i 0]
   nd o.isSome (nd (o.code==2) (some (1,[gd o.pay 2]))))):=by kernel_rfl
def toCellSdE:Ent:=(32,e1 (sd (.sl 139)) fun p=>(⟨.one (.c (.own (0,0) true 108)),[cpCellS (gd p 0)]⟩,okCellS (gd p 0)))
theorem toCellSd_ok:EntOk Tryz.prog toCellSdE:=e1_ok fun p h=>evFn_sound (N:=(gd p 0).rows.length+1) (ks:= [0,2,3,4,11]) (key:=bo) (find_ok (fC ⟨toCell_ok,fN⟩)) (enters Tryz.func32) Tryz.func32 fun hw=>by
 have h:okCellS (gd p 0)=true:=h
 simp only [okCellS,Bool.and_eq_true,decide_eq_true_eq,List.all_eq_true] at h
 rw [toCellSd_ev,fill_loop (ok:=fun r=>okCell (sub r 0 2)) (f:=fun r=>cpCell (sub r 0 2)) [.i 0,.i 0] (wt_sl (hw ⟨sd (.sl 139),p⟩ (by simp))) h.2 (toCellSd_rd p _ _ _) (by omega)]
 rw [show decide (((gd p 0).rows.length:Int)≤4294967296)=true from decide_eq_true (by omega),show decide (0≤((gd p 0).rows.length:Int))=true from decide_eq_true (by omega),decide_eq_true (rfl:((gd p 0).rows.length:Int)=_)]
 rfl
noncomputable def toRangeSdL (N:Nat) (p:List D):List D→Out:=loopOf Tryz.prog (find [toRangeE]) N [0,2,3,4,11] Tryz.f23 (.one (.c (.own (0,0) true 41))) [⟨sd (.sl 30),p⟩] 0
theorem toRangeSd_rd (p:List D) (N:Nat) (z x2:D) (rows:List (List D)) (k:Int):toRangeSdL N p [z,x2,.l rows,.i k]=bif decide (k<z.rows.length) then nd (inRange k z.rows.length) (nd (okRange (sub (z.rows.getD k.toNat []) 0 2)) (nd (inRange k rows.length) (nx [z,x2,.l (rows.set k.toNat (cpRange (sub (z.rows.getD k.toNat []) 0 2))),.i (w64 (k+1))]))) else ex 0 [z,x2,.l rows,.i k]:=by kernel_rfl
theorem toRangeSd_ev (p:List D) (N:Nat):evFn Tryz.prog (find [toRangeE]) N [0,2,3,4,11] Tryz.f23 (.one (.c (.own (0,0) true 41))) [⟨sd (.sl 30),p⟩]=some (bo,nd (decide (0≤((gd p 0).rows.length:Int))&&decide (((gd p 0).rows.length:Int)=((gd p 0).rows.length:Int))&&decide (((gd p 0).rows.length:Int)≤4294967296)&&true&&true)
  (let o:=iter (toRangeSdL N p) N [gd p 0,.l [],.l (List.replicate (gd p 0).rows.length [.i 0,.i 0]),.i 0]
   nd o.isSome (nd (o.code==2) (some (1,[gd o.pay 2]))))):=by kernel_rfl
def toRangeSdE:Ent:=(23,e1 (sd (.sl 30)) fun p=>(⟨.one (.c (.own (0,0) true 41)),[cpRangeS (gd p 0)]⟩,okRangeS (gd p 0)))
theorem toRangeSd_ok:EntOk Tryz.prog toRangeSdE:=e1_ok fun p h=>evFn_sound (N:=(gd p 0).rows.length+1) (ks:= [0,2,3,4,11]) (key:=bo) (find_ok (fC ⟨toRange_ok,fN⟩)) (enters Tryz.func23) Tryz.func23 fun hw=>by
 have h:okRangeS (gd p 0)=true:=h
 simp only [okRangeS,Bool.and_eq_true,decide_eq_true_eq,List.all_eq_true] at h
 rw [toRangeSd_ev,fill_loop (ok:=fun r=>okRange (sub r 0 2)) (f:=fun r=>cpRange (sub r 0 2)) [.i 0,.i 0] (wt_sl (hw ⟨sd (.sl 30),p⟩ (by simp))) h.2 (toRangeSd_rd p _ _ _) (by omega)]
 rw [show decide (((gd p 0).rows.length:Int)≤4294967296)=true from decide_eq_true (by omega),show decide (0≤((gd p 0).rows.length:Int))=true from decide_eq_true (by omega),decide_eq_true (rfl:((gd p 0).rows.length:Int)=_)]
 rfl
noncomputable def toWriteSdL (N:Nat) (p:List D):List D→Out:=loopOf Tryz.prog (find [toWriteE]) N [0,2,3,4,11] Tryz.f24 (.one (.c (.own (0,0) true 70))) [⟨sd (.sl 124),p⟩] 0
theorem toWriteSd_rd (p:List D) (N:Nat) (z x2:D) (rows:List (List D)) (k:Int):toWriteSdL N p [z,x2,.l rows,.i k]=bif decide (k<z.rows.length) then nd (inRange k z.rows.length) (nd (okWrite (sub (z.rows.getD k.toNat []) 0 2)) (nd (inRange k rows.length) (nx [z,x2,.l (rows.set k.toNat (cpWrite (sub (z.rows.getD k.toNat []) 0 2))),.i (w64 (k+1))]))) else ex 0 [z,x2,.l rows,.i k]:=by kernel_rfl
theorem toWriteSd_ev (p:List D) (N:Nat):evFn Tryz.prog (find [toWriteE]) N [0,2,3,4,11] Tryz.f24 (.one (.c (.own (0,0) true 70))) [⟨sd (.sl 124),p⟩]=some (bo,nd (decide (0≤((gd p 0).rows.length:Int))&&decide (((gd p 0).rows.length:Int)=((gd p 0).rows.length:Int))&&decide (((gd p 0).rows.length:Int)≤4294967296)&&true&&true)
  (let o:=iter (toWriteSdL N p) N [gd p 0,.l [],.l (List.replicate (gd p 0).rows.length [.i 0,.i 0]),.i 0]
   nd o.isSome (nd (o.code==2) (some (1,[gd o.pay 2]))))):=by kernel_rfl
def toWriteSdE:Ent:=(24,e1 (sd (.sl 124)) fun p=>(⟨.one (.c (.own (0,0) true 70)),[cpWriteS (gd p 0)]⟩,okWriteS (gd p 0)))
theorem toWriteSd_ok:EntOk Tryz.prog toWriteSdE:=e1_ok fun p h=>evFn_sound (N:=(gd p 0).rows.length+1) (ks:= [0,2,3,4,11]) (key:=bo) (find_ok (fC ⟨toWrite_ok,fN⟩)) (enters Tryz.func24) Tryz.func24 fun hw=>by
 have h:okWriteS (gd p 0)=true:=h
 simp only [okWriteS,Bool.and_eq_true,decide_eq_true_eq,List.all_eq_true] at h
 rw [toWriteSd_ev,fill_loop (ok:=fun r=>okWrite (sub r 0 2)) (f:=fun r=>cpWrite (sub r 0 2)) [.i 0,.i 0] (wt_sl (hw ⟨sd (.sl 124),p⟩ (by simp))) h.2 (toWriteSd_rd p _ _ _) (by omega)]
 rw [show decide (((gd p 0).rows.length:Int)≤4294967296)=true from decide_eq_true (by omega),show decide (0≤((gd p 0).rows.length:Int))=true from decide_eq_true (by omega),decide_eq_true (rfl:((gd p 0).rows.length:Int)=_)]
 rfl
noncomputable def toLockSdL (N:Nat) (p:List D):List D→Out:=loopOf Tryz.prog (find [toLockE]) N [0,2,3,4,11] Tryz.f69 (.one (.c (.own (0,0) true 93))) [⟨sd (.sl 174),p⟩] 0
theorem toLockSd_rd (p:List D) (N:Nat) (z x2:D) (rows:List (List D)) (k:Int):toLockSdL N p [z,x2,.l rows,.i k]=bif decide (k<z.rows.length) then nd (inRange k z.rows.length) (nd (okLock (sub (z.rows.getD k.toNat []) 0 4)) (nd (inRange k rows.length) (nx [z,x2,.l (rows.set k.toNat (cpLock (sub (z.rows.getD k.toNat []) 0 4))),.i (w64 (k+1))]))) else ex 0 [z,x2,.l rows,.i k]:=by kernel_rfl
theorem toLockSd_ev (p:List D) (N:Nat):evFn Tryz.prog (find [toLockE]) N [0,2,3,4,11] Tryz.f69 (.one (.c (.own (0,0) true 93))) [⟨sd (.sl 174),p⟩]=some (bo,nd (decide (0≤((gd p 0).rows.length:Int))&&decide (((gd p 0).rows.length:Int)=((gd p 0).rows.length:Int))&&decide (((gd p 0).rows.length:Int)≤4294967296)&&true&&true)
  (let o:=iter (toLockSdL N p) N [gd p 0,.l [],.l (List.replicate (gd p 0).rows.length [.i 0,.i 0,.i 0,.i 0]),.i 0]
   nd o.isSome (nd (o.code==2) (some (1,[gd o.pay 2]))))):=by kernel_rfl
def toLockSdE:Ent:=(69,e1 (sd (.sl 174)) fun p=>(⟨.one (.c (.own (0,0) true 93)),[cpLockS (gd p 0)]⟩,okLockS (gd p 0)))
theorem toLockSd_ok:EntOk Tryz.prog toLockSdE:=e1_ok fun p h=>evFn_sound (N:=(gd p 0).rows.length+1) (ks:= [0,2,3,4,11]) (key:=bo) (find_ok (fC ⟨toLock_ok,fN⟩)) (enters Tryz.func69) Tryz.func69 fun hw=>by
 have h:okLockS (gd p 0)=true:=h
 simp only [okLockS,Bool.and_eq_true,decide_eq_true_eq,List.all_eq_true] at h
 rw [toLockSd_ev,fill_loop (ok:=fun r=>okLock (sub r 0 4)) (f:=fun r=>cpLock (sub r 0 4)) [.i 0,.i 0,.i 0,.i 0] (wt_sl (hw ⟨sd (.sl 174),p⟩ (by simp))) h.2 (toLockSd_rd p _ _ _) (by omega)]
 rw [show decide (((gd p 0).rows.length:Int)≤4294967296)=true from decide_eq_true (by omega),show decide (0≤((gd p 0).rows.length:Int))=true from decide_eq_true (by omega),decide_eq_true (rfl:((gd p 0).rows.length:Int)=_)]
 rfl
theorem toHeldd_ev (p:List D) (N:Nat):evFn Tryz.prog (find [toWriteSdE]) N [0,1,2,3] Tryz.f191 (.one (.agg rDHeld)) [⟨ag rLHeld,p⟩]=some (bo,nd (okWriteS (gd p 1)) (some (1,cpHeld p))):=by kernel_rfl
def toHelddE:Ent:=(191,e1 (ag rLHeld) fun p=>(⟨.one (.agg rDHeld),cpHeld p⟩,okHeld p))
theorem toHeldd_ok:EntOk Tryz.prog toHelddE:=e1_ok fun p h=>evFn_sound (N:=0) (ks:= [0,1,2,3]) (key:=bo) (find_ok (fC ⟨toWriteSd_ok,fN⟩)) (enters Tryz.func191) Tryz.func191 fun _=>by
 have h:okHeld p=true:=h
 simp only [okHeld,Bool.and_eq_true] at h
 rw [toHeldd_ev]
 simp only [nd,h,cond_true]
noncomputable def toHeldSdL (N:Nat) (p:List D):List D→Out:=loopOf Tryz.prog (find [toHelddE,deepE [7]]) N [0,2,3,4,11] Tryz.f70 (.one (.c (.own (0,1000000) true 75))) [⟨sd (.sl 170),p⟩] 0
theorem toHeldSd_rd (p:List D) (N:Nat) (z x2:D) (rows:List (List D)) (k:Int):toHeldSdL N p [z,x2,.l rows,.i k]=bif decide (k<z.rows.length) then nd (inRange k z.rows.length) (nd (okHeld (sub (z.rows.getD k.toNat []) 0 2)) (nd (inRange k rows.length) (nx [z,x2,.l (rows.set k.toNat (cpHeld (sub (z.rows.getD k.toNat []) 0 2))),.i (w64 (k+1))]))) else ex 0 [z,x2,.l rows,.i k]:=by kernel_rfl
theorem toHeldSd_ev (p:List D) (N:Nat):evFn Tryz.prog (find [toHelddE,deepE [7]]) N [0,2,3,4,11] Tryz.f70 (.one (.c (.own (0,1000000) true 75))) [⟨sd (.sl 170),p⟩]=some (bo,nd (decide (0≤((gd p 0).rows.length:Int))&&decide (((gd p 0).rows.length:Int)=((gd p 0).rows.length:Int))&&decide (((gd p 0).rows.length:Int)≤4294967296)&&true&&true)
  (let o:=iter (toHeldSdL N p) N [gd p 0,.l [],.l (List.replicate (gd p 0).rows.length [.i 0,.l []]),.i 0]
   nd o.isSome (nd (o.code==2) (some (1,[gd o.pay 2]))))):=by kernel_rfl
def toHeldSdE:Ent:=(70,e1 (sd (.sl 170)) fun p=>(⟨.one (.c (.own (0,1000000) true 75)),[cpHeldS (gd p 0)]⟩,okHeldS (gd p 0)))
theorem toHeldSd_ok:EntOk Tryz.prog toHeldSdE:=e1_ok fun p h=>evFn_sound (N:=(gd p 0).rows.length+1) (ks:= [0,2,3,4,11]) (key:=bo) (find_ok (fC ⟨toHeldd_ok,fC ⟨deepE_ok _,fN⟩⟩)) (enters Tryz.func70) Tryz.func70 fun hw=>by
 have h:okHeldS (gd p 0)=true:=h
 simp only [okHeldS,Bool.and_eq_true,decide_eq_true_eq,List.all_eq_true] at h
 rw [toHeldSd_ev,fill_loop (ok:=fun r=>okHeld (sub r 0 2)) (f:=fun r=>cpHeld (sub r 0 2)) [.i 0,.l []] (wt_sl (hw ⟨sd (.sl 170),p⟩ (by simp))) h.2 (toHeldSd_rd p _ _ _) (by omega)]
 rw [show decide (((gd p 0).rows.length:Int)≤4294967296)=true from decide_eq_true (by omega),show decide (0≤((gd p 0).rows.length:Int))=true from decide_eq_true (by omega),decide_eq_true (rfl:((gd p 0).rows.length:Int)=_)]
 rfl
theorem toShardd_ev (p:List D) (N:Nat):evFn Tryz.prog (find [toRangeSdE,toRangeSdE,toCellSdE,toLockSdE,toHeldSdE,toIntSdE,toIntSdE]) N [0,1,2,3] Tryz.f11 (.one (.agg rDShard)) [⟨ag rLShard,p⟩]=some (bo,nd (okRangeS (gd p 1)) (nd (okRangeS (gd p 2)) (nd (okCellS (gd p 3)) (nd (okLockS (gd p 4)) (nd (okHeldS (gd p 5)) (nd (okIntS (gd p 6)) (nd (okIntS (gd p 7)) (some (1,cpShard p))))))))):=by kernel_rfl
def toSharddE:Ent:=(11,e1 (ag rLShard) fun p=>(⟨.one (.agg rDShard),cpShard p⟩,okShard p))
theorem toShardd_ok:EntOk Tryz.prog toSharddE:=e1_ok fun p h=>evFn_sound (N:=0) (ks:= [0,1,2,3]) (key:=bo) (find_ok (fC ⟨toRangeSd_ok,fC ⟨toRangeSd_ok,fC ⟨toCellSd_ok,fC ⟨toLockSd_ok,fC ⟨toHeldSd_ok,fC ⟨toIntSd_ok,fC ⟨toIntSd_ok,fN⟩⟩⟩⟩⟩⟩⟩)) (enters Tryz.func11) Tryz.func11 fun _=>by
 have h:okShard p=true:=h
 simp only [okShard,Bool.and_eq_true] at h
 rw [toShardd_ev]
 simp only [nd,h,cond_true]
end Go.Proofs.YtpdfmcmnjikppaaGreat
namespace Go.Proofs.YtpdfmcmnjikppaaGreat
set_option maxRecDepth 4096
set_option maxHeartbeats 1000000
def i_copySharddE:Ent:=deepE [28,44]
theorem i_copyShardd_ok:EntOk Tryz.prog i_copySharddE:=deepE_ok _
abbrev i_copyShardT:FuncId→List T→Option (T × Bool):=find [i_clonRangeE,i_clonCE,i_clonLockE,i_clonE,i_clonWriteE,i_copySharddE]
theorem i_copyShardT_ok:CallOk Tryz.prog i_copyShardT:=find_ok (fC ⟨i_clonRange_ok,fC ⟨i_clonC_ok,fC ⟨i_clonLock_ok,fC ⟨i_clon_ok,fC ⟨i_clonWrite_ok,fC ⟨i_copyShardd_ok,fN⟩⟩⟩⟩⟩⟩)
abbrev i_copyShardK:List Nat:= [0,1,2,3,5,30,31,32,33]
noncomputable def i_copyShardL0 (N:Nat) (p:List D):List D→Out:=loopOf Tryz.prog i_copyShardT N i_copyShardK Tryz.f74 (.one (.agg rDShard)) [⟨ag rIShard,p⟩] 0
theorem i_copyShardR0 (N:Nat) (p:List D) (x0 x1 x2 x3 x4 x5 x6 x7 x8 x9 x10 x11 x12 x13 x14 x15 x16 x17 x18 x19 x20 x21 x22 x23 x24 x25 x26 x27 x28 x29 x30 x31 x32 x33 x34 x35 x36 x37 x38 x39 x40 x41:D):(i_copyShardL0 N p) [x0,x1,x2,x3,x4,x5,x6,x7,x8,x9,x10,x11,x12,x13,x14,x15,x16,x17,x18,x19,x20,x21,x22,x23,x24,x25,x26,x27,x28,x29,x30,x31,x32,x33,x34,x35,x36,x37,x38,x39,x40,x41] =
 bif ltI x14.int x13.int then nd (inRange x14.int x12.rows.length) (nd (leI ((gd (x12.rows.getD x14.int.toNat []) 1).rows.length:Int) 2000000) (nd (lenOk (x38.rows ++ [[gd (x12.rows.getD x14.int.toNat []) 0,.l (gd (x12.rows.getD x14.int.toNat []) 1).rows]])&&true) (nx [x0,x1,x2,x3,x4,x5,x6,x7,x8,x9,x10,x11,x12,x13,.i (w64 (x14.int+1)),x15,x16,x17,x18,x19,x20,x21,x22,x23,x24,x25,x26,x27,x28,x29,x30,x31,x32,x33,x34,x35,x36,x37,.l (x38.rows ++ [[gd (x12.rows.getD x14.int.toNat []) 0,.l (gd (x12.rows.getD x14.int.toNat []) 1).rows]]),x39,x40,x41])))
 else ex 0 [x0,x1,x2,x3,x4,x5,x6,x7,x8,x9,x10,x11,x12,x13,x14,x15,x16,x17,x18,x19,x20,x21,x22,x23,x24,x25,x26,x27,x28,x29,x30,x31,x32,x33,x34,x35,x36,x37,x38,x39,x40,x41]:=by kernel_rfl
theorem i_copyShard_ev (N:Nat) (p:List D):evFn Tryz.prog i_copyShardT N i_copyShardK Tryz.f74 (.one (.agg rDShard)) [⟨ag rIShard,p⟩]=some (bo,
 nd ((leI ((gd p 1).rows.length:Int) 2000000)&&((leI ((gd p 2).rows.length:Int) 2000000)&&((leI ((gd p 3).rows.length:Int) 1000000)&&((leI ((gd p 4).rows.length:Int) 2000000)&&((leI ((gd p 6).rows.length:Int) 1000000000)&&((leI ((gd p 7).rows.length:Int) 1000000000)&&true)))))) (nd (((leI ((gd p 1).rows.length:Int) 2000000)&&((leI ((gd p 2).rows.length:Int) 2000000)&&((leI ((gd p 3).rows.length:Int) 1000000)&&((leI ((gd p 4).rows.length:Int) 2000000)&&((leI ((gd p 6).rows.length:Int) 1000000000)&&((leI ((gd p 7).rows.length:Int) 1000000000)&&true))))))&&(sameP [[.i 0],[gd p 0,.l (gd p 1).rows,.l (gd p 2).rows,.l (gd p 3).rows,.l (gd p 4).rows,.l [],.l (gd p 6).rows,.l (gd p 7).rows,gd p 8],[.l (gd p 7).rows],[.l (gd p 6).rows],[.l (gd p 4).rows],[.l (gd p 3).rows],[.l (gd p 2).rows],[.l (gd p 1).rows],[gd p 8],[.i 0],[gd p 7],[.i 0],[gd p 6],[.i 0],[gd p 4],[.i 0],[gd p 3],[.i 0],[gd p 2],[.i 0],[gd p 1],[.i 0],[gd p 0],[.i 0],p,[.i 0],[.i 0],[gd p 0,gd p 1,gd p 2,gd p 3,gd p 4,gd p 5,gd p 6,gd p 7,gd p 8],[.i 0,.l [],.l [],.l [],.l [],.l [],.l [],.l [],.i 0],[gd p 0,.l (gd p 1).rows,.l (gd p 2).rows,.l (gd p 3).rows,.l (gd p 4).rows,.l [],.l (gd p 6).rows,.l (gd p 7).rows,gd p 8]] [[.i 0],[gd p 0,.l (gd p 1).rows,.l (gd p 2).rows,.l (gd p 3).rows,.l (gd p 4).rows,.l [],.l (gd p 6).rows,.l (gd p 7).rows,gd p 8],[.l (gd p 7).rows],[.l (gd p 6).rows],[.l (gd p 4).rows],[.l (gd p 3).rows],[.l (gd p 2).rows],[.l (gd p 1).rows],[gd p 8],[.i 0],[gd p 7],[.i 0],[gd p 6],[.i 0],[gd p 4],[.i 0],[gd p 3],[.i 0],[gd p 2],[.i 0],[gd p 1],[.i 0],[gd p 0],[.i 0],p,[.i 0],[.i 0],[gd p 0,gd p 1,gd p 2,gd p 3,gd p 4,gd p 5,gd p 6,gd p 7,gd p 8],[.i 0,.l [],.l [],.l [],.l [],.l [],.l [],.l [],.i 0],[gd p 0,.l (gd p 1).rows,.l (gd p 2).rows,.l (gd p 3).rows,.l (gd p 4).rows,.l [],.l (gd p 6).rows,.l (gd p 7).rows,gd p 8]])) (nd (((leI ((gd p 1).rows.length:Int) 2000000)&&((leI ((gd p 2).rows.length:Int) 2000000)&&((leI ((gd p 3).rows.length:Int) 1000000)&&((leI ((gd p 4).rows.length:Int) 2000000)&&((leI ((gd p 6).rows.length:Int) 1000000000)&&((leI ((gd p 7).rows.length:Int) 1000000000)&&true))))))&&(sameP [[.i 0],[gd p 0,.l (gd p 1).rows,.l (gd p 2).rows,.l (gd p 3).rows,.l (gd p 4).rows,.l [],.l (gd p 6).rows,.l (gd p 7).rows,gd p 8],[.l (gd p 7).rows],[.l (gd p 6).rows],[.l (gd p 4).rows],[.l (gd p 3).rows],[.l (gd p 2).rows],[.l (gd p 1).rows],[gd p 8],[.i 0],[gd p 7],[.i 0],[gd p 6],[.i 0],[gd p 4],[.i 0],[gd p 3],[.i 0],[gd p 2],[.i 0],[gd p 1],[.i 0],[gd p 0],[.i 0],p,[.i 0],[.i 0],[gd p 0,gd p 1,gd p 2,gd p 3,gd p 4,gd p 5,gd p 6,gd p 7,gd p 8],[.i 0,.l [],.l [],.l [],.l [],.l [],.l [],.l [],.i 0],[gd p 0,.l (gd p 1).rows,.l (gd p 2).rows,.l (gd p 3).rows,.l (gd p 4).rows,.l [],.l (gd p 6).rows,.l (gd p 7).rows,gd p 8]] [[.i 0],[gd p 0,.l (gd p 1).rows,.l (gd p 2).rows,.l (gd p 3).rows,.l (gd p 4).rows,.l [],.l (gd p 6).rows,.l (gd p 7).rows,gd p 8],[.l (gd p 7).rows],[.l (gd p 6).rows],[.l (gd p 4).rows],[.l (gd p 3).rows],[.l (gd p 2).rows],[.l (gd p 1).rows],[gd p 8],[.i 0],[gd p 7],[.i 0],[gd p 6],[.i 0],[gd p 4],[.i 0],[gd p 3],[.i 0],[gd p 2],[.i 0],[gd p 1],[.i 0],[gd p 0],[.i 0],p,[.i 0],[.i 0],[gd p 0,gd p 1,gd p 2,gd p 3,gd p 4,gd p 5,gd p 6,gd p 7,gd p 8],[.i 0,.l [],.l [],.l [],.l [],.l [],.l [],.l [],.i 0],[gd p 0,.l (gd p 1).rows,.l (gd p 2).rows,.l (gd p 3).rows,.l (gd p 4).rows,.l [],.l (gd p 6).rows,.l (gd p 7).rows,gd p 8]])) (nd (((leI ((gd p 1).rows.length:Int) 2000000)&&((leI ((gd p 2).rows.length:Int) 2000000)&&((leI ((gd p 3).rows.length:Int) 1000000)&&((leI ((gd p 4).rows.length:Int) 2000000)&&((leI ((gd p 6).rows.length:Int) 1000000000)&&((leI ((gd p 7).rows.length:Int) 1000000000)&&true))))))&&(sameP [[.i 0],[gd p 0,.l (gd p 1).rows,.l (gd p 2).rows,.l (gd p 3).rows,.l (gd p 4).rows,.l [],.l (gd p 6).rows,.l (gd p 7).rows,gd p 8],[.l (gd p 7).rows],[.l (gd p 6).rows],[.l (gd p 4).rows],[.l (gd p 3).rows],[.l (gd p 2).rows],[.l (gd p 1).rows],[gd p 8],[.i 0],[gd p 7],[.i 0],[gd p 6],[.i 0],[gd p 4],[.i 0],[gd p 3],[.i 0],[gd p 2],[.i 0],[gd p 1],[.i 0],[gd p 0],[.i 0],p,[.i 0],[.i 0],[gd p 0,gd p 1,gd p 2,gd p 3,gd p 4,gd p 5,gd p 6,gd p 7,gd p 8],[.i 0,.l [],.l [],.l [],.l [],.l [],.l [],.l [],.i 0],[gd p 0,.l (gd p 1).rows,.l (gd p 2).rows,.l (gd p 3).rows,.l (gd p 4).rows,.l [],.l (gd p 6).rows,.l (gd p 7).rows,gd p 8]] [[.i 0],[gd p 0,.l (gd p 1).rows,.l (gd p 2).rows,.l (gd p 3).rows,.l (gd p 4).rows,.l [],.l (gd p 6).rows,.l (gd p 7).rows,gd p 8],[.l (gd p 7).rows],[.l (gd p 6).rows],[.l (gd p 4).rows],[.l (gd p 3).rows],[.l (gd p 2).rows],[.l (gd p 1).rows],[gd p 8],[.i 0],[gd p 7],[.i 0],[gd p 6],[.i 0],[gd p 4],[.i 0],[gd p 3],[.i 0],[gd p 2],[.i 0],[gd p 1],[.i 0],[gd p 0],[.i 0],p,[.i 0],[.i 0],[gd p 0,gd p 1,gd p 2,gd p 3,gd p 4,gd p 5,gd p 6,gd p 7,gd p 8],[.i 0,.l [],.l [],.l [],.l [],.l [],.l [],.l [],.i 0],[gd p 0,.l (gd p 1).rows,.l (gd p 2).rows,.l (gd p 3).rows,.l (gd p 4).rows,.l [],.l (gd p 6).rows,.l (gd p 7).rows,gd p 8]])) (nd (((leI ((gd p 1).rows.length:Int) 2000000)&&((leI ((gd p 2).rows.length:Int) 2000000)&&((leI ((gd p 3).rows.length:Int) 1000000)&&((leI ((gd p 4).rows.length:Int) 2000000)&&((leI ((gd p 6).rows.length:Int) 1000000000)&&((leI ((gd p 7).rows.length:Int) 1000000000)&&true))))))&&(sameP [[.i 0],[gd p 0,.l (gd p 1).rows,.l (gd p 2).rows,.l (gd p 3).rows,.l (gd p 4).rows,.l [],.l (gd p 6).rows,.l (gd p 7).rows,gd p 8],[.l (gd p 7).rows],[.l (gd p 6).rows],[.l (gd p 4).rows],[.l (gd p 3).rows],[.l (gd p 2).rows],[.l (gd p 1).rows],[gd p 8],[.i 0],[gd p 7],[.i 0],[gd p 6],[.i 0],[gd p 4],[.i 0],[gd p 3],[.i 0],[gd p 2],[.i 0],[gd p 1],[.i 0],[gd p 0],[.i 0],p,[.i 0],[.i 0],[gd p 0,gd p 1,gd p 2,gd p 3,gd p 4,gd p 5,gd p 6,gd p 7,gd p 8],[.i 0,.l [],.l [],.l [],.l [],.l [],.l [],.l [],.i 0],[gd p 0,.l (gd p 1).rows,.l (gd p 2).rows,.l (gd p 3).rows,.l (gd p 4).rows,.l [],.l (gd p 6).rows,.l (gd p 7).rows,gd p 8]] [[.i 0],[gd p 0,.l (gd p 1).rows,.l (gd p 2).rows,.l (gd p 3).rows,.l (gd p 4).rows,.l [],.l (gd p 6).rows,.l (gd p 7).rows,gd p 8],[.l (gd p 7).rows],[.l (gd p 6).rows],[.l (gd p 4).rows],[.l (gd p 3).rows],[.l (gd p 2).rows],[.l (gd p 1).rows],[gd p 8],[.i 0],[gd p 7],[.i 0],[gd p 6],[.i 0],[gd p 4],[.i 0],[gd p 3],[.i 0],[gd p 2],[.i 0],[gd p 1],[.i 0],[gd p 0],[.i 0],p,[.i 0],[.i 0],[gd p 0,gd p 1,gd p 2,gd p 3,gd p 4,gd p 5,gd p 6,gd p 7,gd p 8],[.i 0,.l [],.l [],.l [],.l [],.l [],.l [],.l [],.i 0],[gd p 0,.l (gd p 1).rows,.l (gd p 2).rows,.l (gd p 3).rows,.l (gd p 4).rows,.l [],.l (gd p 6).rows,.l (gd p 7).rows,gd p 8]])) (nd (((leI ((gd p 1).rows.length:Int) 2000000)&&((leI ((gd p 2).rows.length:Int) 2000000)&&((leI ((gd p 3).rows.length:Int) 1000000)&&((leI ((gd p 4).rows.length:Int) 2000000)&&((leI ((gd p 6).rows.length:Int) 1000000000)&&((leI ((gd p 7).rows.length:Int) 1000000000)&&true))))))&&(sameP [[.i 0],[gd p 0,.l (gd p 1).rows,.l (gd p 2).rows,.l (gd p 3).rows,.l (gd p 4).rows,.l [],.l (gd p 6).rows,.l (gd p 7).rows,gd p 8],[.l (gd p 7).rows],[.l (gd p 6).rows],[.l (gd p 4).rows],[.l (gd p 3).rows],[.l (gd p 2).rows],[.l (gd p 1).rows],[gd p 8],[.i 0],[gd p 7],[.i 0],[gd p 6],[.i 0],[gd p 4],[.i 0],[gd p 3],[.i 0],[gd p 2],[.i 0],[gd p 1],[.i 0],[gd p 0],[.i 0],p,[.i 0],[.i 0],[gd p 0,gd p 1,gd p 2,gd p 3,gd p 4,gd p 5,gd p 6,gd p 7,gd p 8],[.i 0,.l [],.l [],.l [],.l [],.l [],.l [],.l [],.i 0],[gd p 0,.l (gd p 1).rows,.l (gd p 2).rows,.l (gd p 3).rows,.l (gd p 4).rows,.l [],.l (gd p 6).rows,.l (gd p 7).rows,gd p 8]] [[.i 0],[gd p 0,.l (gd p 1).rows,.l (gd p 2).rows,.l (gd p 3).rows,.l (gd p 4).rows,.l [],.l (gd p 6).rows,.l (gd p 7).rows,gd p 8],[.l (gd p 7).rows],[.l (gd p 6).rows],[.l (gd p 4).rows],[.l (gd p 3).rows],[.l (gd p 2).rows],[.l (gd p 1).rows],[gd p 8],[.i 0],[gd p 7],[.i 0],[gd p 6],[.i 0],[gd p 4],[.i 0],[gd p 3],[.i 0],[gd p 2],[.i 0],[gd p 1],[.i 0],[gd p 0],[.i 0],p,[.i 0],[.i 0],[gd p 0,gd p 1,gd p 2,gd p 3,gd p 4,gd p 5,gd p 6,gd p 7,gd p 8],[.i 0,.l [],.l [],.l [],.l [],.l [],.l [],.l [],.i 0],[gd p 0,.l (gd p 1).rows,.l (gd p 2).rows,.l (gd p 3).rows,.l (gd p 4).rows,.l [],.l (gd p 6).rows,.l (gd p 7).rows,gd p 8]])) (nd (((leI ((gd p 1).rows.length:Int) 2000000)&&((leI ((gd p 2).rows.length:Int) 2000000)&&((leI ((gd p 3).rows.length:Int) 1000000)&&((leI ((gd p 4).rows.length:Int) 2000000)&&((leI ((gd p 6).rows.length:Int) 1000000000)&&((leI ((gd p 7).rows.length:Int) 1000000000)&&true))))))&&(sameP [[.i 0],[gd p 0,.l (gd p 1).rows,.l (gd p 2).rows,.l (gd p 3).rows,.l (gd p 4).rows,.l [],.l (gd p 6).rows,.l (gd p 7).rows,gd p 8],[.l (gd p 7).rows],[.l (gd p 6).rows],[.l (gd p 4).rows],[.l (gd p 3).rows],[.l (gd p 2).rows],[.l (gd p 1).rows],[gd p 8],[.i 0],[gd p 7],[.i 0],[gd p 6],[.i 0],[gd p 4],[.i 0],[gd p 3],[.i 0],[gd p 2],[.i 0],[gd p 1],[.i 0],[gd p 0],[.i 0],p,[.i 0],[.i 0],[gd p 0,gd p 1,gd p 2,gd p 3,gd p 4,gd p 5,gd p 6,gd p 7,gd p 8],[.i 0,.l [],.l [],.l [],.l [],.l [],.l [],.l [],.i 0],[gd p 0,.l (gd p 1).rows,.l (gd p 2).rows,.l (gd p 3).rows,.l (gd p 4).rows,.l [],.l (gd p 6).rows,.l (gd p 7).rows,gd p 8]] [[.i 0],[gd p 0,.l (gd p 1).rows,.l (gd p 2).rows,.l (gd p 3).rows,.l (gd p 4).rows,.l [],.l (gd p 6).rows,.l (gd p 7).rows,gd p 8],[.l (gd p 7).rows],[.l (gd p 6).rows],[.l (gd p 4).rows],[.l (gd p 3).rows],[.l (gd p 2).rows],[.l (gd p 1).rows],[gd p 8],[.i 0],[gd p 7],[.i 0],[gd p 6],[.i 0],[gd p 4],[.i 0],[gd p 3],[.i 0],[gd p 2],[.i 0],[gd p 1],[.i 0],[gd p 0],[.i 0],p,[.i 0],[.i 0],[gd p 0,gd p 1,gd p 2,gd p 3,gd p 4,gd p 5,gd p 6,gd p 7,gd p 8],[.i 0,.l [],.l [],.l [],.l [],.l [],.l [],.l [],.i 0],[gd p 0,.l (gd p 1).rows,.l (gd p 2).rows,.l (gd p 3).rows,.l (gd p 4).rows,.l [],.l (gd p 6).rows,.l (gd p 7).rows,gd p 8]])) (nd (((leI ((gd p 1).rows.length:Int) 2000000)&&((leI ((gd p 2).rows.length:Int) 2000000)&&((leI ((gd p 3).rows.length:Int) 1000000)&&((leI ((gd p 4).rows.length:Int) 2000000)&&((leI ((gd p 6).rows.length:Int) 1000000000)&&((leI ((gd p 7).rows.length:Int) 1000000000)&&true))))))&&(sameP [[.i 0],[gd p 0,.l (gd p 1).rows,.l (gd p 2).rows,.l (gd p 3).rows,.l (gd p 4).rows,.l [],.l (gd p 6).rows,.l (gd p 7).rows,gd p 8],[.l (gd p 7).rows],[.l (gd p 6).rows],[.l (gd p 4).rows],[.l (gd p 3).rows],[.l (gd p 2).rows],[.l (gd p 1).rows],[gd p 8],[.i 0],[gd p 7],[.i 0],[gd p 6],[.i 0],[gd p 4],[.i 0],[gd p 3],[.i 0],[gd p 2],[.i 0],[gd p 1],[.i 0],[gd p 0],[.i 0],p,[.i 0],[.i 0],[gd p 0,gd p 1,gd p 2,gd p 3,gd p 4,gd p 5,gd p 6,gd p 7,gd p 8],[.i 0,.l [],.l [],.l [],.l [],.l [],.l [],.l [],.i 0],[gd p 0,.l (gd p 1).rows,.l (gd p 2).rows,.l (gd p 3).rows,.l (gd p 4).rows,.l [],.l (gd p 6).rows,.l (gd p 7).rows,gd p 8]] [[.i 0],[gd p 0,.l (gd p 1).rows,.l (gd p 2).rows,.l (gd p 3).rows,.l (gd p 4).rows,.l [],.l (gd p 6).rows,.l (gd p 7).rows,gd p 8],[.l (gd p 7).rows],[.l (gd p 6).rows],[.l (gd p 4).rows],[.l (gd p 3).rows],[.l (gd p 2).rows],[.l (gd p 1).rows],[gd p 8],[.i 0],[gd p 7],[.i 0],[gd p 6],[.i 0],[gd p 4],[.i 0],[gd p 3],[.i 0],[gd p 2],[.i 0],[gd p 1],[.i 0],[gd p 0],[.i 0],p,[.i 0],[.i 0],[gd p 0,gd p 1,gd p 2,gd p 3,gd p 4,gd p 5,gd p 6,gd p 7,gd p 8],[.i 0,.l [],.l [],.l [],.l [],.l [],.l [],.l [],.i 0],[gd p 0,.l (gd p 1).rows,.l (gd p 2).rows,.l (gd p 3).rows,.l (gd p 4).rows,.l [],.l (gd p 6).rows,.l (gd p 7).rows,gd p 8]])) ((let o0:=iter (i_copyShardL0 N p) N [gd p 0,gd p 1,gd p 2,gd p 3,gd p 4,gd p 5,gd p 6,gd p 7,gd p 8,.i 0,.i 0,.i 0,gd p 5,.i ((gd p 5).rows.length:Int),.i 0,gd p 0,gd p 1,gd p 2,gd p 3,gd p 4,gd p 5,gd p 6,gd p 7,gd p 8,.i 0,.l [],.l [],.l [],.l [],.l [],.l [],.l [],.i 0,gd p 0,.l (gd p 1).rows,.l (gd p 2).rows,.l (gd p 3).rows,.l (gd p 4).rows,.l [],.l (gd p 6).rows,.l (gd p 7).rows,gd p 8]
  nd o0.isSome (nd (o0.code==2) (some (1,sub o0.pay 33 9))))))))))))):=by kernel_rfl
def dupShard (p:List D):List D:= [gd p 0,.l (gd p 1).rows,.l (gd p 2).rows,.l (gd p 3).rows,.l (gd p 4).rows,.l (kpL (fun _=>true) (fun k => [gd ((gd p 5).rows.getD k []) 0,.l (gd ((gd p 5).rows.getD k []) 1).rows]) (gd p 5).rows.length),.l (gd p 6).rows,.l (gd p 7).rows,gd p 8]
def dupOk (p:List D):Bool:=leI ((gd p 1).rows.length:Int) 1000000&&(leI ((gd p 2).rows.length:Int) 1000000&&(leI ((gd p 3).rows.length:Int) 1000000&&(leI ((gd p 4).rows.length:Int) 1000000&&(leI ((gd p 5).rows.length:Int) 1000000&&(leI ((gd p 6).rows.length:Int) 1000000&&(leI ((gd p 7).rows.length:Int) 1000000&&(List.range (gd p 5).rows.length).all fun k=>leI ((gd ((gd p 5).rows.getD k []) 1).rows.length:Int) 1000000))))))
def i_copyShardE:Ent:=(74,e1 (ag rIShard) fun p=>(⟨.one (.agg rDShard),sub (dupShard p) 0 9⟩,dupOk p))
theorem i_copyShard_ok:EntOk Tryz.prog i_copyShardE:=e1_ok fun p h=>evFn_sound (N:=(gd p 5).rows.length+1) (ks:=i_copyShardK) (key:=bo) i_copyShardT_ok (enters Tryz.func74) Tryz.func74 fun hw=>by
 rw [i_copyShard_ev]
 have h:dupOk p=true:=h
 unfold dupOk at h
 simp only [Bool.and_eq_true] at h
 obtain ⟨h1,h2,h3,h4,h5,h6,h7,h8⟩:=h
 have hw:∀ k,k<(gd p 5).rows.length→leI ((gd ((gd p 5).rows.getD k []) 1).rows.length:Int) 1000000=true:=fun k hk=>List.all_eq_true.1 h8 k (List.mem_range.2 hk)
 simp only [leI,decide_eq_true_eq] at h1 h2 h3 h4 h5 h6 h7 hw
 have q1:leI ((gd p 1).rows.length:Int) 2000000=true:=leI_t (by omega)
 have q2:leI ((gd p 2).rows.length:Int) 2000000=true:=leI_t (by omega)
 have q3:leI ((gd p 3).rows.length:Int) 1000000=true:=leI_t (by omega)
 have q4:leI ((gd p 4).rows.length:Int) 2000000=true:=leI_t (by omega)
 have q6:leI ((gd p 6).rows.length:Int) 1000000000=true:=leI_t (by omega)
 have q7:leI ((gd p 7).rows.length:Int) 1000000000=true:=leI_t (by omega)
 simp only [q1,q2,q3,q4,q6,q7,Bool.and_true,Bool.and_self,sameP_self,nd_true]
 have e:=run_loop (L:=i_copyShardL0 ((gd p 5).rows.length+1) p) (fun k => [gd p 0,gd p 1,gd p 2,gd p 3,gd p 4,gd p 5,gd p 6,gd p 7,gd p 8,.i 0,.i 0,.i 0,gd p 5,.i ((gd p 5).rows.length:Int),.i (k:Int),gd p 0,gd p 1,gd p 2,gd p 3,gd p 4,gd p 5,gd p 6,gd p 7,gd p 8,.i 0,.l [],.l [],.l [],.l [],.l [],.l [],.l [],.i 0,gd p 0,.l (gd p 1).rows,.l (gd p 2).rows,.l (gd p 3).rows,.l (gd p 4).rows,.l (kpL (fun _=>true) (fun k => [gd ((gd p 5).rows.getD k []) 0,.l (gd ((gd p 5).rows.getD k []) 1).rows]) k),.l (gd p 6).rows,.l (gd p 7).rows,gd p 8]) (gd p 5).rows.length 0 (fun k hk=>?_) ?_ (N:=(gd p 5).rows.length+1) (by omega)
 ·simp only [Int.natCast_zero,show kpL (fun _=>true) (fun k => [gd ((gd p 5).rows.getD k []) 0,.l (gd ((gd p 5).rows.getD k []) 1).rows]) 0 = [] from rfl] at e
  rw [e]
  rfl
 ·show i_copyShardL0 _ p [_,_,_,_,_,_,_,_,_,_,_,_,_,_,.i (k:Int),_,_,_,_,_,_,_,_,_,_,_,_,_,_,_,_,_,_,_,_,_,_,_,_,_,_,_]=_
  rw [i_copyShardR0]
  have hk1:=hw k hk
  have hlen:=kpL_len (fun _=>true) (fun k => [gd ((gd p 5).rows.getD k []) 0,.l (gd ((gd p 5).rows.getD k []) 1).rows]) k
  have l1:leI ((gd ((gd p 5).rows.getD k []) 1).rows.length:Int) 2000000=true:=leI_t (by omega)
  have l2:lenOk (kpL (fun _=>true) (fun k => [gd ((gd p 5).rows.getD k []) 0,.l (gd ((gd p 5).rows.getD k []) 1).rows]) k ++ [[gd ((gd p 5).rows.getD k []) 0,D.l (gd ((gd p 5).rows.getD k []) 1).rows]])=true:=lenOk_t (by rw [List.length_append]; show _+1≤_; omega)
  simp only [int_i,rows_l,c_lt hk,nd_ix hk,Int.toNat_natCast,w64_succ hk (show (gd p 5).rows.length≤9223372036854775807 by omega),l1,l2,Bool.and_self,nd_true]
  rfl
 ·show i_copyShardL0 _ p [_,_,_,_,_,_,_,_,_,_,_,_,_,_,.i ((gd p 5).rows.length:Int),_,_,_,_,_,_,_,_,_,_,_,_,_,_,_,_,_,_,_,_,_,_,_,_,_,_,_]=_
  rw [i_copyShardR0]
  simp only [int_i,c_nlt]
abbrev s_l13CopyT:FuncId→List T→Option (T × Bool):=find []
theorem s_l13CopyT_ok:CallOk Tryz.prog s_l13CopyT:=find_ok (fN)
abbrev s_l13CopyK:List Nat:= [0,1,2,3,4,5,35]
noncomputable def s_l13CopyL0 (N:Nat) (p:List D):List D→Out:=loopOf Tryz.prog s_l13CopyT N s_l13CopyK Tryz.f61 (.one (.agg [.d si,.d (.sl 41),.d (.sl 41),.d (.sl 108),.d (.sl 93),.d (.sl 75),.d (.sl 3),.d (.sl 3),.d si])) [⟨ag rIShard,p⟩] 0
theorem s_l13CopyR0 (N:Nat) (p:List D) (x0 x1 x2 x3 x4 x5 x6 x7 x8 x9 x10 x11 x12 x13 x14 x15 x16 x17 x18 x19 x20 x21 x22 x23 x24 x25 x26 x27 x28 x29 x30 x31 x32 x33 x34 x35 x36 x37 x38 x39:D):(s_l13CopyL0 N p) [x0,x1,x2,x3,x4,x5,x6,x7,x8,x9,x10,x11,x12,x13,x14,x15,x16,x17,x18,x19,x20,x21,x22,x23,x24,x25,x26,x27,x28,x29,x30,x31,x32,x33,x34,x35,x36,x37,x38,x39] =
 bif ltI x12.int (x18.rows.length:Int) then nd (inRange x12.int x18.rows.length) (nd (lenOk ([]++(gd (x18.rows.getD x12.int.toNat []) 1).rows)&&true) (nd (lenOk (x36.rows ++ [[gd (x18.rows.getD x12.int.toNat []) 0,.l ([]++(gd (x18.rows.getD x12.int.toNat []) 1).rows)]])&&true) (nx [x0,x1,x2,x3,x4,x5,x6,x7,x8,x9,x10,x11,.i (w64 (x12.int+1)),x13,x14,x15,x16,x17,x18,x19,x20,x21,x22,x23,x24,x25,x26,x27,x28,x29,x30,x31,x32,x33,x34,x35,.l (x36.rows ++ [[gd (x18.rows.getD x12.int.toNat []) 0,.l ([]++(gd (x18.rows.getD x12.int.toNat []) 1).rows)]]),x37,x38,x39])))
 else ex 0 [x0,x1,x2,x3,x4,x5,x6,x7,x8,x9,x10,x11,x12,x13,x14,x15,x16,x17,x18,x19,x20,x21,x22,x23,x24,x25,x26,x27,x28,x29,x30,x31,x32,x33,x34,x35,x36,x37,x38,x39]:=by kernel_rfl
theorem s_l13Copy_ev (N:Nat) (p:List D):evFn Tryz.prog s_l13CopyT N s_l13CopyK Tryz.f61 (.one (.agg [.d si,.d (.sl 41),.d (.sl 41),.d (.sl 108),.d (.sl 93),.d (.sl 75),.d (.sl 3),.d (.sl 3),.d si])) [⟨ag rIShard,p⟩]=some (bo,
 nd (lenOk ([]++(gd p 1).rows)&&true) (nd (lenOk ([]++(gd p 2).rows)&&true) (nd (lenOk ([]++(gd p 3).rows)&&true) (nd (lenOk ([]++(gd p 4).rows)&&true) ((let o0:=iter (s_l13CopyL0 N p) N [gd p 0,gd p 1,gd p 2,gd p 3,gd p 4,gd p 5,gd p 6,gd p 7,gd p 8,.i 0,.i 0,.i 0,.i 0,gd p 0,gd p 1,gd p 2,gd p 3,gd p 4,gd p 5,gd p 6,gd p 7,gd p 8,.i 0,.l [],.l [],.l [],.l [],.l [],.l [],.l [],.i 0,gd p 0,.l ([]++(gd p 1).rows),.l ([]++(gd p 2).rows),.l ([]++(gd p 3).rows),.l ([]++(gd p 4).rows),.l [],.l [],.l [],gd p 8]
  nd o0.isSome (nd (o0.code==2) (nd (lenOk ([]++(gd o0.pay 19).rows)&&true) (nd (lenOk ([]++(gd o0.pay 20).rows)&&true) (some (1,[gd o0.pay 31,gd o0.pay 32,gd o0.pay 33,gd o0.pay 34,gd o0.pay 35,gd o0.pay 36,.l ([]++(gd o0.pay 19).rows),.l ([]++(gd o0.pay 20).rows),gd o0.pay 39]))))))))))):=by kernel_rfl
def s_l13CopyE:Ent:=(61,e1 (ag rIShard) fun p=>(⟨.one (.agg [.d si,.d (.sl 41),.d (.sl 41),.d (.sl 108),.d (.sl 93),.d (.sl 75),.d (.sl 3),.d (.sl 3),.d si]),sub (dupShard p) 0 9⟩,dupOk p))
theorem s_l13Copy_ok:EntOk Tryz.prog s_l13CopyE:=e1_ok fun p h=>evFn_sound (N:=(gd p 5).rows.length+1) (ks:=s_l13CopyK) (key:=bo) s_l13CopyT_ok (enters Tryz.func61) Tryz.func61 fun hw=>by
 rw [s_l13Copy_ev]
 have h:dupOk p=true:=h
 unfold dupOk at h
 simp only [Bool.and_eq_true] at h
 obtain ⟨h1,h2,h3,h4,h5,h6,h7,h8⟩:=h
 have hw:∀ k,k<(gd p 5).rows.length→leI ((gd ((gd p 5).rows.getD k []) 1).rows.length:Int) 1000000=true:=fun k hk=>List.all_eq_true.1 h8 k (List.mem_range.2 hk)
 simp only [leI,decide_eq_true_eq] at h1 h2 h3 h4 h5 h6 h7 hw
 have q1:lenOk (gd p 1).rows=true:=lenOk_t (by omega)
 have q2:lenOk (gd p 2).rows=true:=lenOk_t (by omega)
 have q3:lenOk (gd p 3).rows=true:=lenOk_t (by omega)
 have q4:lenOk (gd p 4).rows=true:=lenOk_t (by omega)
 have q6:lenOk (gd p 6).rows=true:=lenOk_t (by omega)
 have q7:lenOk (gd p 7).rows=true:=lenOk_t (by omega)
 simp only [q1,q2,q3,q4,List.nil_append,Bool.and_self,nd_true]
 have e:=run_loop (L:=s_l13CopyL0 ((gd p 5).rows.length+1) p) (fun k => [gd p 0,gd p 1,gd p 2,gd p 3,gd p 4,gd p 5,gd p 6,gd p 7,gd p 8,.i 0,.i 0,.i 0,.i (k:Int),gd p 0,gd p 1,gd p 2,gd p 3,gd p 4,gd p 5,gd p 6,gd p 7,gd p 8,.i 0,.l [],.l [],.l [],.l [],.l [],.l [],.l [],.i 0,gd p 0,.l ((gd p 1).rows),.l ((gd p 2).rows),.l ((gd p 3).rows),.l ((gd p 4).rows),.l (kpL (fun _=>true) (fun k => [gd ((gd p 5).rows.getD k []) 0,.l (gd ((gd p 5).rows.getD k []) 1).rows]) k),.l [],.l [],gd p 8]) (gd p 5).rows.length 0 (fun k hk=>?_) ?_ (N:=(gd p 5).rows.length+1) (by omega)
 ·simp only [Int.natCast_zero,show kpL (fun _=>true) (fun k => [gd ((gd p 5).rows.getD k []) 0,.l (gd ((gd p 5).rows.getD k []) 1).rows]) 0 = [] from rfl] at e
  rw [e]
  show some (bo,nd (lenOk ([]++(gd p 6).rows)&&true) (nd (lenOk ([]++(gd p 7).rows)&&true) (some (1,[gd p 0,.l (gd p 1).rows,.l (gd p 2).rows,.l (gd p 3).rows,.l (gd p 4).rows,.l (kpL (fun _=>true) (fun k => [gd ((gd p 5).rows.getD k []) 0,.l (gd ((gd p 5).rows.getD k []) 1).rows]) (gd p 5).rows.length),.l ([]++(gd p 6).rows),.l ([]++(gd p 7).rows),gd p 8]))))=_
  simp only [List.nil_append,q6,q7,Bool.and_self,nd_true]
  rfl
 ·show s_l13CopyL0 _ p [_,_,_,_,_,_,_,_,_,_,_,_,.i (k:Int),_,_,_,_,_,_,_,_,_,_,_,_,_,_,_,_,_,_,_,_,_,_,_,_,_,_,_]=_
  rw [s_l13CopyR0]
  have hk1:=hw k hk
  have hlen:=kpL_len (fun _=>true) (fun k => [gd ((gd p 5).rows.getD k []) 0,.l (gd ((gd p 5).rows.getD k []) 1).rows]) k
  have l1:lenOk (gd ((gd p 5).rows.getD k []) 1).rows=true:=lenOk_t (by omega)
  have l2:lenOk (kpL (fun _=>true) (fun k => [gd ((gd p 5).rows.getD k []) 0,.l (gd ((gd p 5).rows.getD k []) 1).rows]) k ++ [[gd ((gd p 5).rows.getD k []) 0,D.l (gd ((gd p 5).rows.getD k []) 1).rows]])=true:=lenOk_t (by rw [List.length_append]; show _+1≤_; omega)
  simp only [int_i,rows_l,c_lt hk,nd_ix hk,Int.toNat_natCast,w64_succ hk (show (gd p 5).rows.length≤9223372036854775807 by omega),List.nil_append,l1,l2,Bool.and_self,nd_true]
  rfl
 ·show s_l13CopyL0 _ p [_,_,_,_,_,_,_,_,_,_,_,_,.i ((gd p 5).rows.length:Int),_,_,_,_,_,_,_,_,_,_,_,_,_,_,_,_,_,_,_,_,_,_,_,_,_,_,_]=_
  rw [s_l13CopyR0]
  simp only [int_i,c_nlt]
end Go.Proofs.YtpdfmcmnjikppaaGreat
namespace Go.Proofs.YtpdfmcmnjikppaaGreat
set_option maxRecDepth 4096
set_option maxHeartbeats 1000000
abbrev s_l13RefusedT:FuncId→List T→Option (T × Bool):=find [s_l13CopyE]
theorem s_l13RefusedT_ok:CallOk Tryz.prog s_l13RefusedT:=find_ok (fC ⟨s_l13Copy_ok,fN⟩)
abbrev s_l13RefusedK:List Nat:= [0,1,2,4,6]
theorem s_l13Refused_ev (N:Nat) (p q:List D):evFn Tryz.prog s_l13RefusedT N s_l13RefusedK Tryz.f60 (.one (.agg [.d si,.d (.sl 41),.d (.sl 41),.d (.sl 108),.d (.sl 93),.d (.sl 75),.d (.sl 3),.d (.sl 3),.d si])) [⟨ag rIShard,p⟩,⟨ri,q⟩]=some (bo,
 bif (gd q 0).int==1 then some (1,[.i 0,.l [],.l [],.l [],.l [],.l [],.l [],.l [],.i 0])
 else nd (dupOk (sub p 0 9)) (some (1,sub (sub (dupShard (sub p 0 9)) 0 9) 0 9))):=by kernel_rfl
def noShard:List D:= [.i 0,.l [],.l [],.l [],.l [],.l [],.l [],.l [],.i 0]
def refShard (p:List D) (c:Int):List D:=bif c==1 then noShard else dupShard p
def s_l13RefusedE:Ent:=(60,e2 (ag rIShard) ri fun p q=>(⟨.one (.agg [.d si,.d (.sl 41),.d (.sl 41),.d (.sl 108),.d (.sl 93),.d (.sl 75),.d (.sl 3),.d (.sl 3),.d si]),sub (refShard p (gd q 0).int) 0 9⟩,dupOk p||(gd q 0).int==1))
theorem s_l13Refused_ok:EntOk Tryz.prog s_l13RefusedE:=e2_ok fun p q h=>evFn_sound (N:=0) (ks:=s_l13RefusedK) (key:=bo) s_l13RefusedT_ok (enters Tryz.func60) Tryz.func60 fun hw=>by
 rw [s_l13Refused_ev]
 have h:(dupOk p||(gd q 0).int==1)=true:=h
 cases hc:(gd q 0).int==1 with
 | true =>
  show some (bo,some (1,_))=some (bo,some (1,sub (refShard p (gd q 0).int) 0 9))
  unfold refShard
  rw [hc]
  rfl
 | false =>
  rw [hc,Bool.or_false] at h
  have h:dupOk (sub p 0 9)=true:=h
  rw [h]
  show some (bo,some (1,_))=some (bo,some (1,sub (refShard p (gd q 0).int) 0 9))
  unfold refShard
  rw [hc]
  rfl
def i_asItWasdE:Ent:=deepE [8]
theorem i_asItWasd_ok:EntOk Tryz.prog i_asItWasdE:=deepE_ok _
abbrev i_asItWasT:FuncId→List T→Option (T × Bool):=find [i_copyShardE,i_asItWasdE]
theorem i_asItWasT_ok:CallOk Tryz.prog i_asItWasT:=find_ok (fC ⟨i_copyShard_ok,fC ⟨i_asItWasd_ok,fN⟩⟩)
abbrev i_asItWasK:List Nat:= [0,1,2,4,5,7]
theorem i_asItWas_ev (N:Nat) (p q:List D):evFn Tryz.prog i_asItWasT N i_asItWasK Tryz.f73 (.tup [.agg rDShard,.c (.d si)]) [⟨ag rIShard,p⟩,⟨ri,q⟩]=some (bo,
 bif (gd q 0).int==1 then some (1,[.i 0,.l [],.l [],.l [],.l [],.l [],.l [],.l [],.i 0,.i 1])
 else nd (dupOk (sub p 0 9)) (some (1,[gd (sub (dupShard (sub p 0 9)) 0 9) 0,gd (sub (dupShard (sub p 0 9)) 0 9) 1,gd (sub (dupShard (sub p 0 9)) 0 9) 2,gd (sub (dupShard (sub p 0 9)) 0 9) 3,gd (sub (dupShard (sub p 0 9)) 0 9) 4,gd (sub (dupShard (sub p 0 9)) 0 9) 5,gd (sub (dupShard (sub p 0 9)) 0 9) 6,gd (sub (dupShard (sub p 0 9)) 0 9) 7,gd (sub (dupShard (sub p 0 9)) 0 9) 8,gd q 0]))):=by kernel_rfl
def asWas (p:List D) (c:D):List D:=bif c.int==1 then noShard ++ [.i 1] else dupShard p ++ [c]
def i_asItWasE:Ent:=(73,e2 (ag rIShard) ri fun p q=>(⟨.tup [.agg rDShard,.c (.d si)],sub (asWas p (gd q 0)) 0 10⟩,dupOk p||(gd q 0).int==1))
theorem i_asItWas_ok:EntOk Tryz.prog i_asItWasE:=e2_ok fun p q h=>evFn_sound (N:=0) (ks:=i_asItWasK) (key:=bo) i_asItWasT_ok (enters Tryz.func73) Tryz.func73 fun hw=>by
 rw [i_asItWas_ev]
 have h:(dupOk p||(gd q 0).int==1)=true:=h
 cases hc:(gd q 0).int==1 with
 | true =>
  show some (bo,some (1,_))=some (bo,some (1,sub (asWas p (gd q 0)) 0 10))
  unfold asWas
  rw [hc]
  rfl
 | false =>
  rw [hc,Bool.or_false] at h
  have h:dupOk (sub p 0 9)=true:=h
  rw [h]
  show some (bo,some (1,_))=some (bo,some (1,sub (asWas p (gd q 0)) 0 10))
  unfold asWas
  rw [hc]
  rfl
end Go.Proofs.YtpdfmcmnjikppaaGreat
namespace Go.Proofs.YtpdfmcmnjikppaaGreat
set_option maxRecDepth 4096
set_option maxHeartbeats 1000000
def ndN:Nat→Bool→Out→Out
 | 0,_,x=>x
 | n+1,c,x=>nd c (ndN n c x)
theorem ndN_true {x:Out}:∀ n,ndN n true x=x
 | 0=>rfl
 | n+1=>by rw [ndN,ndN_true n]; rfl
def lastHi (rs:List (List D)):Int:=(gd (rs.getD (rs.length - 1) []) 1).int
def addR (rs:List (List D)) (lo hi:Int):List (List D):=
 bif ltI 0 (rs.length:Int)&&(lastHi rs==lo) then rs.set (rs.length - 1) [gd (rs.getD (rs.length - 1) []) 0,.i hi] else rs ++ [[.i lo,.i hi]]
theorem getD_set_at {l:List (List D)} {i:Nat} {x:List D} (h:i<l.length):(l.set i x).getD i []=x:=by
 simp [List.getD_eq_getElem?_getD,List.getElem?_set,h]
theorem getD_app_at (l:List (List D)) (x:List D):(l ++ [x]).getD l.length []=x:=by
 simp [List.getD_eq_getElem?_getD]
theorem addR_len (rs:List (List D)) (lo hi:Int):(addR rs lo hi).length≤rs.length+1:=by
 unfold addR
 cases (ltI 0 (rs.length:Int)&&(lastHi rs==lo)) <;> simp
def kpR (C:Nat→Bool):Nat→List (List D)
 | 0 => []
 | k+1=>bif C k then addR (kpR C k) (k:Int) ((k:Int)+1) else kpR C k
theorem kpR_len (C:Nat→Bool):∀ k,(kpR C k).length≤k
 | 0=>Nat.le_refl _
 | k+1=>by
  have:=kpR_len C k
  have h2:=addR_len (kpR C k) (k:Int) ((k:Int)+1)
  rw [kpR]
  cases C k
  ·show (kpR C k).length≤_; omega
  ·show (addR _ _ _).length≤_; omega
structure PartsW (z:D):Prop where
 lo:∀ k,k<z.rows.length→(gd (z.rows.getD k []) 0).int=(endD z k).int
 lt:∀ k,k<z.rows.length→(endD z k).int<(endD z (k+1)).int
 n:z.rows.length≤16
 e:(endD z z.rows.length).int=1000
theorem PartsW.mono {z:D} (h:PartsW z):∀ m k,k+m≤z.rows.length→(endD z k).int≤(endD z (k+m)).int
 | 0,k,_=>Int.le_refl _
 | m+1,k,hk=>by
  have:=h.mono m k (by omega)
  have h2:=h.lt (k+m) (by omega)
  rw [show k+(m+1)=k+m+1 from by omega]
  omega
def addQ (rs:List (List D)) (lo hi:D):List (List D):=
 bif ltI 0 (rs.length:Int)&&(lastHi rs==lo.int) then rs.set (rs.length - 1) [gd (rs.getD (rs.length - 1) []) 0,hi] else rs ++ [[lo,hi]]
def SameI (a b:List (List D)):Prop:=a.length=b.length∧∀ i j,(gd (a.getD i []) j).int=(gd (b.getD i []) j).int
theorem SameI.add {a b:List (List D)} (h:SameI a b) (lo hi:D):SameI (addQ a lo hi) (addR b lo.int hi.int):=by
 unfold addQ addR
 have e:lastHi a=lastHi b:=by unfold lastHi; rw [h.1]; exact h.2 _ _
 rw [e,h.1]
 cases (ltI 0 (b.length:Int)&&(lastHi b==lo.int))
 ·refine ⟨by simp [h.1],fun i j=>?_⟩
  simp only [cond_false]
  by_cases hi':i<b.length
  ·have q1:(a ++ [[lo,hi]]).getD i []=a.getD i []:=by simp [List.getD_eq_getElem?_getD,List.getElem?_append_left (show i<a.length by rw [h.1]; exact hi')]
   have q2:(b ++ [[D.i lo.int,D.i hi.int]]).getD i []=b.getD i []:=by simp [List.getD_eq_getElem?_getD,List.getElem?_append_left hi']
   rw [q1,q2]; exact h.2 i j
  ·by_cases hi2:i=b.length
   ·subst hi2
    rw [getD_app_at,← h.1,getD_app_at]
    match j with
    | 0=>rfl
    | 1=>rfl
    | j+2=>rfl
   ·have q1:(a ++ [[lo,hi]]).getD i [] = []:=by rw [List.getD_eq_getElem?_getD,List.getElem?_eq_none (by have:=h.1; rw [List.length_append,this]; show b.length+1≤i; omega)]; rfl
    have q2:(b ++ [[D.i lo.int,D.i hi.int]]).getD i [] = []:=by rw [List.getD_eq_getElem?_getD,List.getElem?_eq_none (by simp; omega)]; rfl
    rw [q1,q2]
 ·refine ⟨by simp [h.1],fun i j=>?_⟩
  simp only [cond_true]
  by_cases hi':i=b.length - 1∧i<b.length
  ·obtain ⟨rfl,hlt⟩:=hi'
   rw [getD_set_at hlt,getD_set_at (by rw [h.1]; exact hlt)]
   match j with
   | 0=>exact h.2 _ _
   | 1=>rfl
   | j+2=>rfl
  ·have q:∀ (l:List (List D)) (y:List D),l.length=b.length→(l.set (b.length - 1) y).getD i []=l.getD i []:=fun l y hl=>by
    simp only [List.getD_eq_getElem?_getD,List.getElem?_set]
    split
    ·split
     ·exact absurd ⟨by omega,by omega⟩ hi'
     ·rw [List.getElem?_eq_none (by omega)]
    ·rfl
   rw [q a _ h.1,q b _ rfl]
   exact h.2 i j
end Go.Proofs.YtpdfmcmnjikppaaGreat
namespace Go.Proofs.YtpdfmcmnjikppaaGreat
set_option maxRecDepth 4096
set_option maxHeartbeats 1000000
end Go.Proofs.YtpdfmcmnjikppaaGreat
namespace Go.Proofs.YtpdfmcmnjikppaaGreat
set_option maxRecDepth 4096
set_option maxHeartbeats 1000000
abbrev i_changed_1_1T:FuncId→List T→Option (T × Bool):=find [i_RhasE]
theorem i_changed_1_1T_ok:CallOk Tryz.prog i_changed_1_1T:=find_ok (fC ⟨i_Rhas_ok,fN⟩)
abbrev i_changed_1_1K:List Nat:= [0,1,2,3]
theorem i_changed_1_1_ev (N:Nat) (p q:List D):evFn Tryz.prog i_changed_1_1T N i_changed_1_1K Tryz.f249 rb [⟨ag rIRange,p⟩,⟨.one (.c (.cptr [si] 0)),q⟩]=some (bo,
 ob (inB (gd ((gd q 0).rows.getD 0 []) 0).int (gd p 0).int (w64 ((gd p 1).int - 1)))):=by kernel_rfl
def i_changed_1_1F (p q:List D):Bool:=
 inB (gd ((gd q 0).rows.getD 0 []) 0).int (gd p 0).int (w64 ((gd p 1).int - 1))
def i_changed_1_1E:Ent:=(249,e2 (ag rIRange) (.one (.c (.cptr [si] 0))) fun p q=>(⟨rb,[.b (i_changed_1_1F p [gd q 0])]⟩,true))
theorem i_changed_1_1_ok:EntOk Tryz.prog i_changed_1_1E:=e2_ok fun p q h=>evFn_sound (N:=0) (ks:=i_changed_1_1K) (key:=bo) i_changed_1_1T_ok (enters Tryz.func249) Tryz.func249 fun hw=>by
 rw [i_changed_1_1_ev]
 try simp only [cond_ob,cond_oi,cond_os]
 rfl
abbrev ixfCGT:FuncId→List T→Option (T × Bool):=find [i_changed_1_1E]
theorem ixfCGT_ok:CallOk Tryz.prog ixfCGT:=find_ok (fC ⟨i_changed_1_1_ok,fN⟩)
abbrev ixfCGK:List Nat:= [0,1,4,5,7,8,9,16]
noncomputable def ixfCGL0 (N:Nat) (p q:List D):List D→Out:=loopOf Tryz.prog ixfCGT N ixfCGK Tryz.f207 ri [⟨sd (.sl 41),p⟩,⟨.one (.c (.fn 249 [.cptr [si] 0])),q⟩] 0
theorem ixfCGR0 (N:Nat) (p q:List D) (x0 x1 x2 x3 x4:D):(ixfCGL0 N p q) [x0,x1,x2,x3,x4] =
 bif ltI x4.int x3.int then nd (inRange x4.int x0.rows.length) (bif i_changed_1_1F (sub (x0.rows.getD x4.int.toNat []) 0 2) [gd (x1.rows.getD 0 []) 0] then some (1,[x4])
 else nx [x0,x1,x2,x3,.i (w64 (x4.int+1))])
 else ex 0 [x0,x1,x2,x3,x4]:=by kernel_rfl
theorem ixfCG_ev (N:Nat) (p q:List D):evFn Tryz.prog ixfCGT N ixfCGK Tryz.f207 ri [⟨sd (.sl 41),p⟩,⟨.one (.c (.fn 249 [.cptr [si] 0])),q⟩]=some (bo,
 (let o0:=iter (ixfCGL0 N p q) N [gd p 0,gd q 0,.i 0,.i ((gd p 0).rows.length:Int),.i 0]
  nd o0.isSome (bif o0.code==1 then some (1,o0.pay)
  else nd (o0.code==2) (oi (-1))))):=by kernel_rfl
def ixfCGC (c:D) (r:List D):Bool:=i_changed_1_1F r [gd (c.rows.getD 0 []) 0]
def ixfCGE:Ent:=(207,e2 (sd (.sl 41)) (.one (.c (.fn 249 [.cptr [si] 0]))) fun p q=>(⟨ri,[.i (ixF (fun k=>ixfCGC (gd q 0) (sub ((gd p 0).rows.getD k []) 0 2)) 0 (gd p 0).rows.length)]⟩,true))
theorem ixfCG_ok:EntOk Tryz.prog ixfCGE:=e2_ok fun p q h=>evFn_sound (N:=(gd p 0).rows.length+1) (ks:=ixfCGK) (key:=bo) ixfCGT_ok (enters Tryz.func207) Tryz.func207 fun hw=>by
 rw [ixfCG_ev]
 have hl:=wt_sl (hw ⟨sd (.sl 41),p⟩ (by simp))
 have e:=ix_loop (L:=ixfCGL0 ((gd p 0).rows.length+1) p q) (fun k => [gd p 0,gd q 0,.i 0,.i ((gd p 0).rows.length:Int),.i (k:Int)]) (gd p 0).rows.length (fun k=>ixfCGC (gd q 0) (sub ((gd p 0).rows.getD k []) 0 2)) [gd p 0,gd q 0,.i 0,.i ((gd p 0).rows.length:Int),.i ((gd p 0).rows.length:Int)] (fun k hk=>?_) ?_ (gd p 0).rows.length 0 ((gd p 0).rows.length+1) (by omega) (by omega)
 ·simp only [Int.natCast_zero] at e
  rw [e]
  have hno:=ixF_neg (fun k=>ixfCGC (gd q 0) (sub ((gd p 0).rows.getD k []) 0 2)) (gd p 0).rows.length 0
  cases hd:decide (ixF (fun k=>ixfCGC (gd q 0) (sub ((gd p 0).rows.getD k []) 0 2)) 0 (gd p 0).rows.length≥0)
  ·rw [hno hd]; rfl
  ·rfl
 ·show ixfCGL0 _ p q [_,_,_,_,.i (k:Int)]=_
  rw [ixfCGR0]
  simp only [int_i,c_lt hk,nd_ix hk,w64_succ hk hl,Int.toNat_natCast]
  unfold ixfCGC
  cases i_changed_1_1F (sub ((gd p 0).rows.getD k []) 0 2) [gd ((gd q 0).rows.getD 0 []) 0] <;> rfl
 ·show ixfCGL0 _ p q [_,_,_,.i ((gd p 0).rows.length:Int),.i ((gd p 0).rows.length:Int)]=_
  rw [ixfCGR0]
  simp only [int_i,c_nlt]
abbrev cofCGT:FuncId→List T→Option (T × Bool):=find [ixfCGE,i_changed_1_1E]
theorem cofCGT_ok:CallOk Tryz.prog cofCGT:=find_ok (fC ⟨ixfCG_ok,fC ⟨i_changed_1_1_ok,fN⟩⟩)
abbrev cofCGK:List Nat:= [0,1,4]
theorem cofCG_ev (N:Nat) (p q:List D):evFn Tryz.prog cofCGT N cofCGK Tryz.f106 rb [⟨sd (.sl 41),p⟩,⟨.one (.c (.fn 249 [.cptr [si] 0])),q⟩]=some (bo,
 ob (leI 0 (ixF (fun k=>ixfCGC (.l [[gd ((gd q 0).rows.getD 0 []) 0]]) (sub ((gd p 0).rows.getD k []) 0 2)) 0 (gd p 0).rows.length))):=by kernel_rfl
def cofCGE:Ent:=(106,e2 (sd (.sl 41)) (.one (.c (.fn 249 [.cptr [si] 0]))) fun p q=>(⟨rb,[.b (anyS (fun rr=>ixfCGC (gd q 0) (sub rr 0 2)) (gd p 0))]⟩,true))
theorem cofCG_ok:EntOk Tryz.prog cofCGE:=e2_ok fun p q h=>evFn_sound (N:=0) (ks:=cofCGK) (key:=bo) cofCGT_ok (enters Tryz.func106) Tryz.func106 fun hw=>by
 rw [cofCG_ev]
 refine congrArg (fun x=>some (bo,ob x)) ?_
 exact (ixF_any (fun k=>ixfCGC (gd q 0) (sub ((gd p 0).rows.getD k []) 0 2)) (gd p 0).rows.length 0).trans (by simp only [Nat.zero_add]; rfl)
abbrev i_changed_1T:FuncId→List T→Option (T × Bool):=find [i_RhasE,cofCGE]
theorem i_changed_1T_ok:CallOk Tryz.prog i_changed_1T:=find_ok (fC ⟨i_Rhas_ok,fC ⟨cofCG_ok,fN⟩⟩)
abbrev i_changed_1K:List Nat:= [0,1,2,3,4,5,8]
theorem i_changed_1_ev (N:Nat) (p q r s:List D):evFn Tryz.prog i_changed_1T N i_changed_1K Tryz.f248 rb [⟨ri,p⟩,⟨.one (.c (.cptr [si,si] 0)),q⟩,⟨.one (.c (.cptr [.bool] 0)),r⟩,⟨.one (.c (.cptr [.sl 41] 0)),s⟩]=some (bo,
 bif inB (gd p 0).int (gd ((gd q 0).rows.getD 0 []) 0).int (w64 ((gd ((gd q 0).rows.getD 0 []) 1).int - 1)) then some (1,[gd ((gd r 0).rows.getD 0 []) 0])
 else ob (anyS (fun rr=>ixfCGC (.l [[.l [[gd p 0]]]]) (sub rr 0 2)) (gd ((gd s 0).rows.getD 0 []) 0))):=by kernel_rfl
def chgD (z:D) (a:List D) (wi k:D):D:=bif inB k.int (gd a 0).int (w64 ((gd a 1).int - 1)) then wi else .b (anyS (fun rr=>ixfCGC (.l [[.l [[k]]]]) (sub rr 0 2)) z)
def i_changed_1E:Ent:=(248,e4 ri (.one (.c (.cptr [si,si] 0))) (.one (.c (.cptr [.bool] 0))) (.one (.c (.cptr [.sl 41] 0))) fun p q r s=>(⟨rb,[chgD (gd ((gd s 0).rows.getD 0 []) 0) ((gd q 0).rows.getD 0 []) (gd ((gd r 0).rows.getD 0 []) 0) (gd p 0)]⟩,true))
theorem i_changed_1_ok:EntOk Tryz.prog i_changed_1E:=e4_ok fun p q r s h=>evFn_sound (N:=0) (ks:=i_changed_1K) (key:=bo) i_changed_1T_ok (enters Tryz.func248) Tryz.func248 fun hw=>by
 rw [i_changed_1_ev]
 unfold chgD
 cases inB (gd p 0).int (gd ((gd q 0).rows.getD 0 []) 0).int (w64 ((gd ((gd q 0).rows.getD 0 []) 1).int - 1)) <;> rfl
abbrev rgchT:FuncId→List T→Option (T × Bool):=find [i_changed_1E]
theorem rgchT_ok:CallOk Tryz.prog rgchT:=find_ok (fC ⟨i_changed_1_ok,fN⟩)
abbrev rgchK:List Nat:= [0,2,3,4,5,7,8,19,24]
noncomputable def rgchL0 (N:Nat) (p:List D):List D→Out:=loopOf Tryz.prog rgchT N rgchK Tryz.f247 (.one (.c (.own (0,0) true 41))) [⟨.one (.c (.fn 248 [.cptr [si,si] 0,.cptr [.bool] 0,.cptr [.sl 41] 0])),p⟩] 0
theorem rgchR0 (N:Nat) (p:List D) (x0 x1 x2 x3:D):(rgchL0 N p) [x0,x1,x2,x3] =
 bif ltI x3.int 1000 then bif !(chgD (gd ((gd (x0.rows.getD 0 []).tail.tail 0).rows.getD 0 []) 0) ((gd (x0.rows.getD 0 []) 0).rows.getD 0 []) (gd ((gd (x0.rows.getD 0 []).tail 0).rows.getD 0 []) 0) x3).bool then nx [x0,x1,x2,.i (w64 (x3.int+1))]
 else bif ltI 0 (x2.rows.length:Int) then nd (inRange (w64 ((x2.rows.length:Int) - 1)) x2.rows.length) (bif (gd (x2.rows.getD (w64 ((x2.rows.length:Int) - 1)).toNat []) 1).int==x3.int then nd (inRange (w64 ((x2.rows.length:Int) - 1)) x2.rows.length) (nd (inRange (w64 ((x2.rows.length:Int) - 1)) x2.rows.length) (nx [x0,x1,.l (x2.rows.set (w64 ((x2.rows.length:Int) - 1)).toNat [gd (x2.rows.getD (w64 ((x2.rows.length:Int) - 1)).toNat []) 0,.i (w64 ((gd (x2.rows.getD (w64 ((x2.rows.length:Int) - 1)).toNat []) 1).int+1))]),.i (w64 (x3.int+1))]))
 else nd (lenOk (x2.rows ++ [[x3,.i (w64 (x3.int+1))]])&&true) (nx [x0,x1,.l (x2.rows ++ [[x3,.i (w64 (x3.int+1))]]),.i (w64 (x3.int+1))]))
 else nd (lenOk (x2.rows ++ [[x3,.i (w64 (x3.int+1))]])&&true) (nx [x0,x1,.l (x2.rows ++ [[x3,.i (w64 (x3.int+1))]]),.i (w64 (x3.int+1))])
 else ex 0 [x0,x1,x2,x3]:=by kernel_rfl
theorem rgch_ev (N:Nat) (p:List D):evFn Tryz.prog rgchT N rgchK Tryz.f247 (.one (.c (.own (0,0) true 41))) [⟨.one (.c (.fn 248 [.cptr [si,si] 0,.cptr [.bool] 0,.cptr [.sl 41] 0])),p⟩]=some (bo,
 (let o0:=iter (rgchL0 N p) N [gd p 0,.l [],.l [],.i 0]
  nd o0.isSome (nd (o0.code==2) (some (1,[gd o0.pay 2]))))):=by kernel_rfl
def chgB (c:D) (k:Nat):Bool:=(chgD (gd ((gd (c.rows.getD 0 []).tail.tail 0).rows.getD 0 []) 0) ((gd (c.rows.getD 0 []) 0).rows.getD 0 []) (gd ((gd (c.rows.getD 0 []).tail 0).rows.getD 0 []) 0) (.i (k:Int))).bool
def chgR (c:D):D:=.l (kpR (chgB c) 1000)
theorem chg_step {rs:List (List D)} {k:Nat} (hl:rs.length≤1000) (hk:k<1000) (a b:D) :
  (bif ltI 0 (rs.length:Int) then nd (inRange (w64 ((rs.length:Int) - 1)) rs.length) (bif (gd (rs.getD (w64 ((rs.length:Int) - 1)).toNat []) 1).int==(k:Int) then nd (inRange (w64 ((rs.length:Int) - 1)) rs.length) (nd (inRange (w64 ((rs.length:Int) - 1)) rs.length) (nx [a,b,.l (rs.set (w64 ((rs.length:Int) - 1)).toNat [gd (rs.getD (w64 ((rs.length:Int) - 1)).toNat []) 0,.i (w64 ((gd (rs.getD (w64 ((rs.length:Int) - 1)).toNat []) 1).int+1))]),.i (w64 ((k:Int)+1))]))
   else nd (lenOk (rs ++ [[.i (k:Int),.i (w64 ((k:Int)+1))]])&&true) (nx [a,b,.l (rs ++ [[.i (k:Int),.i (w64 ((k:Int)+1))]]),.i (w64 ((k:Int)+1))]))
  else nd (lenOk (rs ++ [[.i (k:Int),.i (w64 ((k:Int)+1))]])&&true) (nx [a,b,.l (rs ++ [[.i (k:Int),.i (w64 ((k:Int)+1))]]),.i (w64 ((k:Int)+1))]))
  = (nx [a,b,.l (addR rs (k:Int) ((k:Int)+1)),.i ((k+1:Nat):Int)]:Out):=by
 have hw:w64 ((k:Int)+1)=(k:Int)+1:=w64_id (by omega) (by omega)
 have hok:lenOk (rs ++ [[D.i (k:Int),D.i ((k:Int)+1)]])=true:=lenOk_t (by simp; omega)
 have ek:((k+1:Nat):Int)=(k:Int)+1:=by push_cast; rfl
 unfold addR lastHi
 rw [hw,hok,ek]
 cases hr:rs.length with
 | zero=>rfl
 | succ n =>
  have hn:n<n+1:=Nat.lt_succ_self n
  have e1:w64 (((n+1:Nat):Int) - 1)=(n:Int):=w64_pred (by omega)
  have e2:ltI 0 ((n+1:Nat):Int)=true:=ltI_t (by omega)
  simp only [e1,e2,inRange_nat hn,Int.toNat_natCast,nd_true,cond_true,Bool.true_and,Nat.add_sub_cancel]
  cases hc:((gd (rs.getD n []) 1).int==(k:Int)) with
  | false=>rfl
  | true =>
   have hc:(gd (rs.getD n []) 1).int=(k:Int):=by simpa using hc
   rw [hc,hw]
   rfl
def rgchE:Ent:=(247,e1 (.one (.c (.fn 248 [.cptr [si,si] 0,.cptr [.bool] 0,.cptr [.sl 41] 0]))) fun p=>(⟨.one (.c (.own (0,0) true 41)),[chgR (gd p 0)]⟩,true))
theorem rgch_ok:EntOk Tryz.prog rgchE:=e1_ok fun p h=>evFn_sound (N:=1001) (ks:=rgchK) (key:=bo) rgchT_ok (enters Tryz.func247) Tryz.func247 fun hw=>by
 rw [rgch_ev]
 have e:=run_loop (L:=rgchL0 1001 p) (fun k => [gd p 0,.l [],.l (kpR (chgB (gd p 0)) k),.i (k:Int)]) 1000 0 (fun k hk=>?_) ?_ (N:=1001) (by omega)
 ·simp only [Int.natCast_zero] at e
  rw [show kpR (chgB (gd p 0)) 0 = [] from rfl] at e
  rw [e]
  rfl
 ·show rgchL0 _ p [_,_,_,.i (k:Int)]=_
  rw [rgchR0]
  have hlen:=kpR_len (chgB (gd p 0)) k
  have hb:(chgD (gd ((gd ((gd p 0).rows.getD 0 []).tail.tail 0).rows.getD 0 []) 0) ((gd ((gd p 0).rows.getD 0 []) 0).rows.getD 0 []) (gd ((gd ((gd p 0).rows.getD 0 []).tail 0).rows.getD 0 []) 0) (.i (k:Int))).bool=chgB (gd p 0) k:=rfl
  rw [hb]
  simp only [int_i,rows_l,show ltI (k:Int) 1000=true from ltI_t (by omega),cond_true]
  cases hc:chgB (gd p 0) k
  ·have e2:kpR (chgB (gd p 0)) (k+1)=kpR (chgB (gd p 0)) k:=by rw [kpR]; simp only [hc,cond_false]
   rw [e2,w64_succ hk (by decide)]
   rfl
  ·have e2:kpR (chgB (gd p 0)) (k+1)=addR (kpR (chgB (gd p 0)) k) (k:Int) ((k:Int)+1):=by rw [kpR]; simp only [hc,cond_true]
   rw [e2]
   simp only [Bool.not_true,cond_false]
   exact chg_step (by omega) hk _ _
 ·show rgchL0 _ p [_,_,_,.i ((1000:Nat):Int)]=_
  rw [rgchR0]
  rfl
end Go.Proofs.YtpdfmcmnjikppaaGreat
namespace Go.Proofs.YtpdfmcmnjikppaaGreat
set_option maxRecDepth 4096
set_option maxHeartbeats 1000000
abbrev i_changedT:FuncId→List T→Option (T × Bool):=find [i_RangesOkE,i_RangeOkE,rgchE]
theorem i_changedT_ok:CallOk Tryz.prog i_changedT:=find_ok (fC ⟨i_RangesOk_ok,fC ⟨i_RangeOk_ok,fC ⟨rgch_ok,fN⟩⟩⟩)
abbrev i_changedK:List Nat:= [0,1,2,3,4,5,6,7,8,16,21]
theorem i_changed_ev (N:Nat) (p q r:List D):evFn Tryz.prog i_changedT N i_changedK Tryz.f193 (.tup [.c (.own (0,0) true 41),.c (.d (.bool))]) [⟨sd (.sl 41),p⟩,⟨ag rIRange,q⟩,⟨rb,r⟩]=some (bo,
 bif !(rangesOk (gd p 0)) then some (1,[.l [],.b false])
 else bif !(rangeOk (sub q 0 2)) then some (1,[.l [],.b false])
 else bif ltI 16 ((chgR (.l [[.l [sub q 0 2],.l [[gd r 0]],.l [[gd p 0]]]])).rows.length:Int) then some (1,[.l [],.b false])
 else some (1,[chgR (.l [[.l [sub q 0 2],.l [[gd r 0]],.l [[gd p 0]]]]),.b true])):=by kernel_rfl
def chgRg (z:D) (a:List D) (wi:D):D:=chgR (.l [[.l [sub a 0 2],.l [[wi]],.l [[z]]]])
def chgOk (z:D) (a:List D) (wi:D):Bool:=rangesOk z&&rangeOk (sub a 0 2) && !(ltI 16 ((chgRg z a wi).rows.length:Int))
def chgT (z:D) (a:List D) (wi:D):List D:= [.l (bif chgOk z a wi then (chgRg z a wi).rows else []),.b (chgOk z a wi)]
def i_changedE:Ent:=(193,e3 (sd (.sl 41)) (ag rIRange) rb fun p q r=>(⟨.tup [.c (.own (0,0) true 41),.c (.d (.bool))],sub (chgT (gd p 0) q (gd r 0)) 0 2⟩,true))
theorem i_changed_ok:EntOk Tryz.prog i_changedE:=e3_ok fun p q r h=>evFn_sound (N:=0) (ks:=i_changedK) (key:=bo) i_changedT_ok (enters Tryz.func193) Tryz.func193 fun hw=>by
 rw [i_changed_ev]
 show some (bo,_)=some (bo,some (1,chgT (gd p 0) q (gd r 0)))
 refine congrArg (fun x=>some (bo,x)) ?_
 unfold chgT chgOk
 rw [show chgR (.l [[.l [sub q 0 2],.l [[gd r 0]],.l [[gd p 0]]]])=chgRg (gd p 0) q (gd r 0) from rfl]
 cases rangesOk (gd p 0) <;> cases rangeOk (sub q 0 2) <;> cases ltI 16 ((chgRg (gd p 0) q (gd r 0)).rows.length:Int) <;> rfl
abbrev i_RangesPlusT:FuncId→List T→Option (T × Bool):=find [i_changedE]
theorem i_RangesPlusT_ok:CallOk Tryz.prog i_RangesPlusT:=find_ok (fC ⟨i_changed_ok,fN⟩)
abbrev i_RangesPlusK:List Nat:= [0,1,3,4,5]
theorem i_RangesPlus_ev (N:Nat) (p q:List D):evFn Tryz.prog i_RangesPlusT N i_RangesPlusK Tryz.f76 (.tup [.c (.own (0,0) true 41),.c (.d (.bool))]) [⟨sd (.sl 41),p⟩,⟨ag rIRange,q⟩]=some (bo,
 some (1,sub (chgT (gd p 0) (sub q 0 2) (.b true)) 0 2)):=by kernel_rfl
def i_RangesPlusE:Ent:=(76,e2 (sd (.sl 41)) (ag rIRange) fun p q=>(⟨.tup [.c (.own (0,0) true 41),.c (.d (.bool))],sub (chgT (gd p 0) q (.b true)) 0 2⟩,true))
theorem i_RangesPlus_ok:EntOk Tryz.prog i_RangesPlusE:=e2_ok fun p q h=>evFn_sound (N:=0) (ks:=i_RangesPlusK) (key:=bo) i_RangesPlusT_ok (enters Tryz.func76) Tryz.func76 fun hw=>by
 rw [i_RangesPlus_ev]
 rfl
end Go.Proofs.YtpdfmcmnjikppaaGreat
namespace Go.Proofs.YtpdfmcmnjikppaaGreat
set_option maxRecDepth 4096
set_option maxHeartbeats 1000000
end Go.Proofs.YtpdfmcmnjikppaaGreat
namespace Go.Proofs.YtpdfmcmnjikppaaGreat.HI
open Go.RowKit Go.Lib Go.Proofs.YtpdfmcmnjikppaaGreat.H
set_option maxRecDepth 100000
set_option maxHeartbeats 4000000
end Go.Proofs.YtpdfmcmnjikppaaGreat.HI
namespace Go.Proofs.YtpdfmcmnjikppaaGreat
set_option maxRecDepth 100000
set_option maxHeartbeats 4000000
open Go.RowKit Go.Lib
end Go.Proofs.YtpdfmcmnjikppaaGreat
namespace Go.Proofs.YtpdfmcmnjikppaaGreat
set_option maxRecDepth 100000
set_option maxHeartbeats 4000000
open Go.RowKit Go.Lib
theorem vd_ownN {P:Program} {w:World} {e:TypeId} {k:Nat} {x:D} {u:Value} {B:Option Nat} (prot:Nat→Nat) (hrow:rowOf P e=some (rowN k)) (hO:OwnK w e (rowN k) x.rows u B):∃ n,VD P w (fun b=>if B=some b then n else prot b) (.sl e) x u:=by
 rcases hO with ⟨_,h0,A,rfl⟩ | ⟨b,cap,arr,rfl,rfl,hle,h63,hh,hs,hc⟩
 ·have e':Value.slice A 0 0=.slice A x.rows.length 0:=by rw [h0]; rfl
  rw [e']
  exact ⟨0,.sl e x A 0 _ (fun _ _=>.bool true) hrow (by rw [h0]; exact Nat.le_refl _) (by omega) (fun i j hi=>by rw [h0] at hi; simp at hi) (fun i j s hi=>by rw [h0] at hi; simp at hi)⟩
 ·refine ⟨arr.size,.sl e x (some ⟨b,0,none⟩) cap _ (fun i j=>.int .i64 (gd (x.rows.getD i []) j).int) hrow hle h63 (fun i j hi hj=>?_) (fun i j s hi hj=>?_)⟩
  ·obtain ⟨u',k1,k2⟩:=hc i j (.int .i64) hi (by rw [List.getElem?_eq_getElem hj]; simp)
   refine ⟨b,0,rfl,?_,?_⟩
   ·rw [cell_at hh,Nat.zero_add,k1]
    exact congrArg some k2
   ·show 0+(i*(rowN k).length+j)<if some b=some b then arr.size else prot b
    rw [if_pos rfl]
    have:=(Array.getElem?_eq_some_iff.1 k1).1
    omega
  ·obtain ⟨h1,h2⟩:=List.getElem?_eq_some_iff.1 hj
   have h2:S.int .i64=s:=by simpa using h2
   subst h2
   exact .int .i64 _
theorem res_ownN {P:Program} {prot:Nat→Nat} {w w':World} {e:TypeId} {k:Nat} {y:D} {v:Value} {g':G} (hrow:rowOf P e=some (rowN k)) (hr:Res P prot w w' ⟨.one (.c (.own (0,0) true e)),[y]⟩ v g'):∃ B',OwnK w' e (rowN k) y.rows v B'∧∀ b,B'=some b→w.heap.size≤b:=by
 obtain ⟨row,hrow',hv⟩:=hr.val
 rw [hrow] at hrow'
 injection hrow' with hrow'
 subst hrow'
 rcases hv with ⟨h0,_,A,rfl⟩ | ⟨cap,arr,E,rfl,k1,⟨k2,rfl,_⟩,k3,k4,k5,k6,k7,k8,k9,k10⟩
 ·exact ⟨none,.inl ⟨rfl,h0,A,rfl⟩,fun b hb=>by cases hb⟩
 ·refine ⟨some (g'.ρ (0,0)),.inr ⟨_,cap,arr,rfl,rfl,k1,k2,k5,k6,fun i j s hi hs=>?_⟩,fun b hb=>by injection hb with hb; omega⟩
  obtain ⟨u',q1,q2⟩:=k10 i j s hi hs
  obtain ⟨h1,h2⟩:=List.getElem?_eq_some_iff.1 hs
  have h2:S.int .i64=s:=by simpa using h2
  subst h2
  exact ⟨u',q1,(q2.vd rfl).fv rfl⟩
end Go.Proofs.YtpdfmcmnjikppaaGreat
namespace Go.Proofs.YtpdfmcmnjikppaaGreat
set_option maxRecDepth 4096
set_option maxHeartbeats 1000000
abbrev s_l10TurnT:FuncId→List T→Option (T × Bool):=find [s_RangesOkE,s_RangeOkE]
theorem s_l10TurnT_ok:CallOk Tryz.prog s_l10TurnT:=find_ok (fC ⟨s_RangesOk_ok,fC ⟨s_RangeOk_ok,fN⟩⟩)
abbrev s_l10TurnK:List Nat:= [0,1,2,4,6,7,8,9,10,11,12,13,14,22,28,42,53,62,72,82,91]
noncomputable def s_l10TurnL0 (N:Nat) (p q r:List D):List D→Out:=loopOf Tryz.prog s_l10TurnT N s_l10TurnK Tryz.f186 (.tup [.c (.d (.sl 41)),.c (.d (.bool))]) [⟨sd (.sl 41),p⟩,⟨ag rIRange,q⟩,⟨rb,r⟩] 0
noncomputable def s_l10TurnL2 (N:Nat) (p q r:List D):List D→Out:=loopOf Tryz.prog s_l10TurnT N s_l10TurnK Tryz.f186 (.tup [.c (.d (.sl 41)),.c (.d (.bool))]) [⟨sd (.sl 41),p⟩,⟨ag rIRange,q⟩,⟨rb,r⟩] 2
noncomputable def s_l10TurnL4 (N:Nat) (p q r:List D):List D→Out:=loopOf Tryz.prog s_l10TurnT N s_l10TurnK Tryz.f186 (.tup [.c (.d (.sl 41)),.c (.d (.bool))]) [⟨sd (.sl 41),p⟩,⟨ag rIRange,q⟩,⟨rb,r⟩] 4
noncomputable def s_l10TurnL6 (N:Nat) (p q r:List D):List D→Out:=loopOf Tryz.prog s_l10TurnT N s_l10TurnK Tryz.f186 (.tup [.c (.d (.sl 41)),.c (.d (.bool))]) [⟨sd (.sl 41),p⟩,⟨ag rIRange,q⟩,⟨rb,r⟩] 6
theorem s_l10TurnR0 (N:Nat) (p q r:List D) (x0 x1 x2 x3 x4 x5 x6 x7 x8 x9 x10 x11:D):(s_l10TurnL0 N p q r) [x0,x1,x2,x3,x4,x5,x6,x7,x8,x9,x10,x11] =
 bif ltI x9.int (x0.rows.length:Int) then nd (inRange x9.int x0.rows.length) ((let o2:=iter (s_l10TurnL2 N p q r) N [x0,x1,x2,x3,x4,x5,x6,x7,x8,x9,.b (ltI x9.int (x0.rows.length:Int)),gd (x0.rows.getD x9.int.toNat []) 0,x10,x11]
  nd o2.isSome (nd (o2.code==4) (nx [gd o2.pay 0,gd o2.pay 1,gd o2.pay 2,gd o2.pay 3,gd o2.pay 4,gd o2.pay 5,gd o2.pay 6,gd o2.pay 7,gd o2.pay 8,.i (w64 ((gd o2.pay 9).int+1)),gd o2.pay 12,gd o2.pay 13]))))
 else ex 0 [x0,x1,x2,x3,x4,x5,x6,x7,x8,x9,x10,x11]:=by kernel_rfl
theorem s_l10TurnR2 (N:Nat) (p q r:List D) (x0 x1 x2 x3 x4 x5 x6 x7 x8 x9 x10 x11 x12 x13:D):(s_l10TurnL2 N p q r) [x0,x1,x2,x3,x4,x5,x6,x7,x8,x9,x10,x11,x12,x13] =
 nd (inRange x9.int x0.rows.length) (bif ltI x11.int (gd (x0.rows.getD x9.int.toNat []) 1).int then nd (inRange x11.int x8.rows.length) (nx [x0,x1,x2,x3,x4,x5,x6,x7,.l (x8.rows.set x11.int.toNat [.b true]),x9,x10,.i (w64 (x11.int+1)),x12,x13])
 else ex 2 [x0,x1,x2,x3,x4,x5,x6,x7,x8,x9,x10,x11,x12,x13]):=by kernel_rfl
theorem s_l10TurnR4 (N:Nat) (p q r:List D) (x0 x1 x2 x3 x4 x5 x6 x7 x8 x9 x10 x11 x12:D):(s_l10TurnL4 N p q r) [x0,x1,x2,x3,x4,x5,x6,x7,x8,x9,x10,x11,x12] =
 bif ltI x10.int x12.int then nd (inRange x10.int x8.rows.length) (nx [x0,x1,x2,x3,x4,x5,x6,x7,.l (x8.rows.set x10.int.toNat [x3]),x9,.i (w64 (x10.int+1)),x11,x12])
 else ex 4 [x0,x1,x2,x3,x4,x5,x6,x7,x8,x9,x10,x11,x12]:=by kernel_rfl
theorem s_l10TurnR6 (N:Nat) (p q r:List D) (x0 x1 x2 x3 x4 x5 x6 x7 x8 x9 x10 x11 x12 x13 x14 x15:D):(s_l10TurnL6 N p q r) [x0,x1,x2,x3,x4,x5,x6,x7,x8,x9,x10,x11,x12,x13,x14,x15] =
 bif leI x13.int 1000 then nd (inRange x13.int x8.rows.length) (bif (gd (x8.rows.getD x13.int.toNat []) 0).bool then bif ltI x12.int 0 then nd (inRange x13.int x8.rows.length) (bif !(gd (x8.rows.getD x13.int.toNat []) 0).bool then bif leI 0 x13.int then nd (lenOk (x11.rows ++ [[x13,x13]])&&true) (nx [x0,x1,x2,x3,x4,x5,x6,x7,x8,x9,x10,.l (x11.rows ++ [[x13,x13]]),.i (-1),.i (w64 (x13.int+1)),x14,x15])
 else nx [x0,x1,x2,x3,x4,x5,x6,x7,x8,x9,x10,x11,x13,.i (w64 (x13.int+1)),x14,x15]
 else nx [x0,x1,x2,x3,x4,x5,x6,x7,x8,x9,x10,x11,x13,.i (w64 (x13.int+1)),x14,x15])
 else nd (inRange x13.int x8.rows.length) (bif !(gd (x8.rows.getD x13.int.toNat []) 0).bool then bif leI 0 x12.int then nd (lenOk (x11.rows ++ [[x12,x13]])&&true) (nx [x0,x1,x2,x3,x4,x5,x6,x7,x8,x9,x10,.l (x11.rows ++ [[x12,x13]]),.i (-1),.i (w64 (x13.int+1)),x14,x15])
 else nx [x0,x1,x2,x3,x4,x5,x6,x7,x8,x9,x10,x11,x12,.i (w64 (x13.int+1)),x14,x15]
 else nx [x0,x1,x2,x3,x4,x5,x6,x7,x8,x9,x10,x11,x12,.i (w64 (x13.int+1)),x14,x15])
 else nd (inRange x13.int x8.rows.length) (bif !(gd (x8.rows.getD x13.int.toNat []) 0).bool then bif leI 0 x12.int then nd (lenOk (x11.rows ++ [[x12,x13]])&&true) (nx [x0,x1,x2,x3,x4,x5,x6,x7,x8,x9,x10,.l (x11.rows ++ [[x12,x13]]),.i (-1),.i (w64 (x13.int+1)),x14,x15])
 else nx [x0,x1,x2,x3,x4,x5,x6,x7,x8,x9,x10,x11,x12,.i (w64 (x13.int+1)),x14,x15]
 else nx [x0,x1,x2,x3,x4,x5,x6,x7,x8,x9,x10,x11,x12,.i (w64 (x13.int+1)),x14,x15]))
 else ex 6 [x0,x1,x2,x3,x4,x5,x6,x7,x8,x9,x10,x11,x12,x13,x14,x15]:=by kernel_rfl
theorem s_l10Turn_ev (N:Nat) (p q r:List D):evFn Tryz.prog s_l10TurnT N s_l10TurnK Tryz.f186 (.tup [.c (.d (.sl 41)),.c (.d (.bool))]) [⟨sd (.sl 41),p⟩,⟨ag rIRange,q⟩,⟨rb,r⟩]=some (bo,
 bif !(rangesOk (gd p 0)) then some (1,[.l [],.b false])
 else bif !(rangeOk (sub q 0 2)) then some (1,[.l [],.b false])
 else nd (leI 0 1001&&eqI 1001 1001&&leI 1001 4294967296&&true&&true) ((let o0:=iter (s_l10TurnL0 N p q r) N [gd p 0,gd q 0,gd q 1,gd r 0,.i 0,.l [],.i 0,.b (!(rangeOk (sub q 0 2))),.l (List.replicate 1001 [.b false]),.i 0,gd q 0,gd q 1]
  nd o0.isSome (nd (o0.code==2) ((let o4:=iter (s_l10TurnL4 N p q r) N [gd o0.pay 0,gd o0.pay 1,gd o0.pay 2,gd o0.pay 3,gd o0.pay 4,gd o0.pay 5,gd o0.pay 6,gd o0.pay 7,gd o0.pay 8,gd o0.pay 9,gd o0.pay 10,gd o0.pay 10,gd o0.pay 11]
  nd o4.isSome (nd (o4.code==6) ((let o6:=iter (s_l10TurnL6 N p q r) N [gd o4.pay 0,gd o4.pay 1,gd o4.pay 2,gd o4.pay 3,gd o4.pay 4,gd o4.pay 5,gd o4.pay 6,gd o4.pay 7,gd o4.pay 8,gd o4.pay 9,gd o4.pay 10,.l [],.i (-1),.i 0,gd o4.pay 11,gd o4.pay 12]
   nd o6.isSome (nd (o6.code==8) (bif ltI 16 ((gd o6.pay 11).rows.length:Int) then some (1,[.l [],.b false])
   else some (1,[gd o6.pay 11,.b true])))))))))))):=by kernel_rfl
def inR (r:List D) (k:Nat):Bool:=leI (gd r 0).int (k:Int)&&ltI (k:Int) (gd r 1).int
def rowsC (C:Nat→D):List (List D):=(List.range 1001).map fun k => [C k]
theorem rowsC_len (C:Nat→D):(rowsC C).length=1001:=by simp [rowsC]
theorem rowsC_get {C:Nat→D} {k:Nat} (h:k<1001):(rowsC C).getD k [] = [C k]:=by
 rw [getD_row (by rw [rowsC_len]; exact h)]
 simp [rowsC]
theorem rowsC_set {C:Nat→D} {t:Nat} (v:D):(rowsC C).set t [v]=rowsC (fun k=>bif k==t then v else C k):=by
 apply List.ext_getElem
 ·rw [List.length_set,rowsC_len,rowsC_len]
 ·intro i h1 h2
  rw [List.getElem_set]
  simp only [rowsC,List.getElem_map,List.getElem_range]
  by_cases e:t=i
  ·subst e; simp
  ·rw [if_neg e,show (i==t)=false from by simp; omega]; rfl
theorem rowsC_rep (v:D):List.replicate 1001 [v]=rowsC (fun _=>v):=by
 unfold rowsC
 rw [List.map_const',List.length_range]
theorem rowsC_congr {C C':Nat→D} (h:∀ k,C k=C' k):rowsC C=rowsC C':=by
 have:C=C':=funext h
 rw [this]
def cntD (d:D):Nat→D
 | 0=>d
 | m+1=>.i (d.int+((m+1:Nat):Int))
theorem cntD_int (d:D):∀ m,(cntD d m).int=d.int+(m:Int)
 | 0=>by show d.int=d.int+0; omega
 | m+1=>rfl
def anyR (z:D) (i k:Nat):Bool:=(List.range i).any fun j=>inR (z.rows.getD j []) k
theorem anyR_succ (z:D) (i k:Nat):anyR z (i+1) k=(anyR z i k||inR (z.rows.getD i []) k):=by
 unfold anyR
 rw [List.range_succ,List.any_append]
 simp
def tS (C:Nat→Bool):Nat→List (List D) × Int
 | 0=>([],-1)
 | k+1=>bif C k then (bif ltI (tS C k).2 0 then ((tS C k).1,(k:Int)) else tS C k) else bif leI 0 (tS C k).2 then ((tS C k).1 ++ [[.i (tS C k).2,.i (k:Int)]],-1) else tS C k
theorem tS_len (C:Nat→Bool):∀ k,(tS C k).1.length≤k
 | 0=>Nat.le_refl _
 | k+1=>by
  have:=tS_len C k
  rw [tS]
  cases C k <;> cases ltI (tS C k).2 0 <;> cases leI 0 (tS C k).2 <;> simp <;> omega
theorem lastHi_app (o:List (List D)) (a b:D):lastHi (o ++ [[a,b]])=b.int:=by
 unfold lastHi
 rw [List.length_append]
 show (gd ((o ++ [[a,b]]).getD (o.length+1 - 1) []) 1).int=_
 rw [Nat.add_sub_cancel,getD_app_at]
 rfl
theorem addR_new {o:List (List D)} {k:Int} (h:o = []∨lastHi o<k) (hi:Int):addR o k hi=o ++ [[.i k,.i hi]]:=by
 unfold addR
 rcases h with rfl | h
 ·rfl
 ·rw [show (lastHi o==k)=false from by simp; omega,Bool.and_false,cond_false]
theorem addR_more (o:List (List D)) (f k hi:Int):addR (o ++ [[.i f,.i k]]) k hi=o ++ [[.i f,.i hi]]:=by
 unfold addR
 rw [lastHi_app,show ltI 0 ((o ++ [[D.i f,D.i k]]).length:Int)=true from decide_eq_true (by rw [List.length_append]; show (0:Int)<((o.length+1:Nat):Int); omega),show ((D.i k).int==k)=true from beq_self_eq_true k,Bool.and_self,cond_true,List.length_append]
 show (o ++ [[D.i f,D.i k]]).set (o.length+1 - 1) [gd ((o ++ [[D.i f,D.i k]]).getD (o.length+1 - 1) []) 0,.i hi]=_
 rw [Nat.add_sub_cancel,getD_app_at,List.set_append_right _ _ (Nat.le_refl _),Nat.sub_self]
 rfl
theorem kp_tS (C:Nat→Bool):∀ k,((tS C k).2 = -1∧kpR C k=(tS C k).1∧((tS C k).1 = []∨lastHi (tS C k).1<(k:Int)))∨(0≤(tS C k).2∧kpR C k=(tS C k).1 ++ [[.i (tS C k).2,.i (k:Int)]])
 | 0=>.inl ⟨rfl,rfl,.inl rfl⟩
 | k+1=>by
  have ih:=kp_tS C k
  rw [kpR,tS]
  generalize tS C k=S at *
  obtain ⟨o,f⟩:=S
  dsimp only at ih ⊢
  rcases ih with ⟨rfl,h2,h3⟩ | ⟨h1,h2⟩
  ·cases C k
   ·rw [cond_false,cond_false,leI_f (show (-1:Int)<0 by omega),cond_false]
    refine .inl ⟨rfl,h2,?_⟩
    rcases h3 with h3 | h3
    ·exact .inl h3
    ·exact .inr (show lastHi o<_ by omega)
   ·rw [cond_true,cond_true,ltI_t (show (-1:Int)<0 by omega),cond_true,h2,addR_new h3]
    exact .inr ⟨show (0:Int)≤(k:Int) by omega,rfl⟩
  ·cases C k
   ·rw [cond_false,cond_false,leI_t h1,cond_true]
    exact .inl ⟨rfl,h2,.inr (by show lastHi (o ++ [[.i f,.i (k:Int)]])<_; rw [lastHi_app]; show (k:Int)<_; omega)⟩
   ·rw [cond_true,cond_true,ltI_f h1,cond_false,h2,addR_more]
    exact .inr ⟨h1,rfl⟩
theorem kpR_congr {C C':Nat→Bool}:∀ {n},(∀ k,k<n→C k=C' k)→kpR C n=kpR C' n
 | 0,_=>rfl
 | n+1,h=>by rw [kpR,kpR,kpR_congr (fun k hk=>h k (by omega)),h n (by omega)]
def turnC (z:D) (a:List D) (wi:D) (k:Nat):D:=bif inR a k then wi else .b (anyR z z.rows.length k)
theorem range_at {z:D} (h:rangesOk z=true) {j:Nat} (hj:j<z.rows.length):0≤(gd (z.rows.getD j []) 0).int∧(gd (z.rows.getD j []) 0).int<(gd (z.rows.getD j []) 1).int∧(gd (z.rows.getD j []) 1).int≤1000:=by
 simp only [rangesOk,Bool.and_eq_true,List.all_eq_true,List.mem_range] at h
 have h1:=h.1 j hj
 cases j with
 | zero =>
  simp only [rangesAt,rangeOk,Bool.and_eq_true,decide_eq_true_eq] at h1
  exact ⟨h1.1,h1.2.1,h1.2.2⟩
 | succ j =>
  simp only [rangesAt,rangeOk,Bool.and_eq_true,decide_eq_true_eq] at h1
  exact ⟨h1.1.1,h1.1.2.1,h1.1.2.2⟩
theorem has_inR {r:List D} (h0:0≤(gd r 0).int) (h1:(gd r 0).int<(gd r 1).int) (h2:(gd r 1).int≤1000) (k:Nat):inB (k:Int) (gd r 0).int (w64 ((gd r 1).int - 1))=inR r k:=by
 rw [w64_id (by omega) (by omega)]
 unfold inB inR leI ltI
 rw [Bool.eq_iff_iff]
 simp only [Bool.and_eq_true,decide_eq_true_eq]
 omega
theorem chgB_turn {z:D} {a:List D} {wi:D} (hz:rangesOk z=true) (ha:rangeOk (sub a 0 2)=true) (k:Nat):chgB (.l [[.l [sub a 0 2],.l [[wi]],.l [[z]]]]) k=(turnC z a wi k).bool:=by
 simp only [rangeOk,Bool.and_eq_true,decide_eq_true_eq] at ha
 show (chgD z (sub a 0 2) wi (.i (k:Int))).bool=_
 unfold chgD turnC
 rw [int_i,has_inR (r:=sub a 0 2) ha.1 ha.2.1 ha.2.2]
 show (bif inR a k then wi else _).bool=_
 have e:anyS (fun rr=>ixfCGC (.l [[.l [[D.i (k:Int)]]]]) (sub rr 0 2)) z=anyR z z.rows.length k:=by
  unfold anyS anyR
  rw [Bool.eq_iff_iff]
  simp only [List.any_eq_true,List.mem_range]
  constructor
  ·rintro ⟨j,hj,h⟩
   obtain ⟨r1,r2,r3⟩:=range_at hz hj
   exact ⟨j,hj,by rw [← has_inR r1 r2 r3]; exact h⟩
  ·rintro ⟨j,hj,h⟩
   obtain ⟨r1,r2,r3⟩:=range_at hz hj
   exact ⟨j,hj,by rw [← has_inR r1 r2 r3] at h; exact h⟩
 rw [e]
theorem turn_all {z:D} {a:List D} {wi:D} (hz:rangesOk z=true) (ha:rangeOk (sub a 0 2)=true):(tS (fun k=>(turnC z a wi k).bool) 1001).1=(chgRg z a wi).rows:=by
 have ha':=ha
 simp only [rangeOk,Bool.and_eq_true,decide_eq_true_eq] at ha'
 have ha2:(gd a 1).int≤1000:=ha'.2.2
 have hlast:(turnC z a wi 1000).bool=false:=by
  unfold turnC
  rw [show inR a 1000=false from by unfold inR; rw [ltI_f (show (gd a 1).int≤((1000:Nat):Int) from ha2),Bool.and_false],cond_false]
  show anyR z z.rows.length 1000=false
  unfold anyR
  rw [List.any_eq_false]
  intro j hj
  obtain ⟨r1,r2,r3⟩:=range_at hz (List.mem_range.1 hj)
  unfold inR
  rw [ltI_f (show (gd (z.rows.getD j []) 1).int≤((1000:Nat):Int) from r3),Bool.and_false]
  exact Bool.false_ne_true
 have h:=kp_tS (fun k=>(turnC z a wi k).bool) 1001
 have h0:=kp_tS (fun k=>(turnC z a wi k).bool) 1000
 have e1:tS (fun k=>(turnC z a wi k).bool) 1001=bif leI 0 (tS (fun k=>(turnC z a wi k).bool) 1000).2 then ((tS (fun k=>(turnC z a wi k).bool) 1000).1 ++ [[.i (tS (fun k=>(turnC z a wi k).bool) 1000).2,.i ((1000:Nat):Int)]],-1) else tS (fun k=>(turnC z a wi k).bool) 1000:=by
  rw [tS,hlast,cond_false]
 have e2:(chgRg z a wi).rows=kpR (fun k=>(turnC z a wi k).bool) 1000:=by
  show kpR (chgB (.l [[.l [sub a 0 2],.l [[wi]],.l [[z]]]])) 1000=_
  exact kpR_congr fun k _=>chgB_turn hz ha k
 rw [e1,e2]
 rcases h0 with ⟨h1,h2,_⟩ | ⟨h1,h2⟩
 ·rw [h1,leI_f (show (-1:Int)<0 by omega),cond_false]
  exact h2.symm
 ·rw [leI_t h1,cond_true]
  exact h2.symm
theorem turn_l2 (N:Nat) (hN:1001<N) (p q r:List D) (i lo n:Nat) (hi:i<(gd p 0).rows.length) (hlo:(gd ((gd p 0).rows.getD i []) 0).int=lo) (hnn:(gd ((gd p 0).rows.getD i []) 1).int=(lo:Int)+n) (hb:lo+n≤1000) :
  iter (s_l10TurnL2 N p q r) N [gd p 0,gd q 0,gd q 1,gd r 0,.i 0,.l [],.i 0,.b false,.l (rowsC fun k=>.b (anyR (gd p 0) i k)),.i (i:Int),.b true,gd ((gd p 0).rows.getD i []) 0,gd q 0,gd q 1] =
  some (4,[gd p 0,gd q 0,gd q 1,gd r 0,.i 0,.l [],.i 0,.b false,.l (rowsC fun k=>.b (anyR (gd p 0) (i+1) k)),.i (i:Int),.b true,cntD (gd ((gd p 0).rows.getD i []) 0) n,gd q 0,gd q 1]):=by
 obtain ⟨row,hrow⟩:∃ row,row=(gd p 0).rows.getD i []:=⟨_,rfl⟩
 rw [← hrow] at hlo hnn ⊢
 have x2:=run_loop (L:=s_l10TurnL2 N p q r) (fun m => [gd p 0,gd q 0,gd q 1,gd r 0,.i 0,.l [],.i 0,.b false,.l (rowsC fun k=>.b (anyR (gd p 0) i k||(decide (lo≤k)&&decide (k<lo+m)))),.i (i:Int),.b true,cntD (gd row 0) m,gd q 0,gd q 1]) n 2 (fun m hm=>?_) ?_ (N:=N) (by omega)
 ·rw [show (rowsC fun k=>.b (anyR (gd p 0) i k))=rowsC fun k=>.b (anyR (gd p 0) i k||(decide (lo≤k)&&decide (k<lo+0))) from rowsC_congr fun k=>by
   rw [show (decide (lo≤k)&&decide (k<lo+0))=false from by rw [Bool.and_eq_false_iff]; simp; omega,Bool.or_false]]
  rw [show (rowsC fun k=>.b (anyR (gd p 0) (i+1) k))=rowsC fun k=>.b (anyR (gd p 0) i k||(decide (lo≤k)&&decide (k<lo+n))) from rowsC_congr fun k=>by
   rw [anyR_succ,← hrow]
   congr 2
   unfold inR leI ltI
   rw [hlo,hnn,Bool.eq_iff_iff]
   simp only [Bool.and_eq_true,decide_eq_true_eq]
   omega]
  exact x2
 ·show s_l10TurnL2 N p q r [_,_,_,_,_,_,_,_,_,.i (i:Int),_,cntD (gd row 0) m,_,_]=_
  rw [s_l10TurnR2]
  rw [int_i,nd_ix hi,Int.toNat_natCast,← hrow,cntD_int,hlo,hnn,ltI_t (show (lo:Int)+(m:Int)<(lo:Int)+(n:Int) by omega),cond_true,rows_l]
  rw [show (lo:Int)+(m:Int)=((lo+m:Nat):Int) from by omega,nd_ix (by rw [rowsC_len]; omega),Int.toNat_natCast,rowsC_set,w64_succ (show lo+m<1001 by omega) (by omega)]
  rw [show cntD (gd row 0) (m+1)=.i ((lo+m+1:Nat):Int) from congrArg D.i (show (gd row 0).int+((m+1:Nat):Int)=((lo+m+1:Nat):Int) by omega)]
  rw [show (rowsC fun k=>bif k==lo+m then .b true else .b (anyR (gd p 0) i k||(decide (lo≤k)&&decide (k<lo+m))))=rowsC fun k=>.b (anyR (gd p 0) i k||(decide (lo≤k)&&decide (k<lo+(m+1)))) from rowsC_congr fun k=>by
   by_cases hk:k=lo+m
   ·subst hk
    rw [beq_self_eq_true,cond_true,show (decide (lo≤lo+m)&&decide (lo+m<lo+(m+1)))=true from by simp,Bool.or_true]
   ·rw [show (k==lo+m)=false from by simpa using hk,cond_false]
    congr 2
    rw [Bool.eq_iff_iff]
    simp only [Bool.and_eq_true,decide_eq_true_eq]
    omega]
 ·show s_l10TurnL2 N p q r [_,_,_,_,_,_,_,_,_,.i (i:Int),_,cntD (gd row 0) n,_,_]=_
  rw [s_l10TurnR2]
  rw [int_i,nd_ix hi,Int.toNat_natCast,← hrow,cntD_int,hlo,hnn,ltI_f (show (lo:Int)+(n:Int)≤(lo:Int)+(n:Int) by omega),cond_false]
theorem turn_l0 (N:Nat) (hN:1001<N) (p q r:List D) (hz:rangesOk (gd p 0)=true) (hn:(gd p 0).rows.length≤16) :
  iter (s_l10TurnL0 N p q r) N [gd p 0,gd q 0,gd q 1,gd r 0,.i 0,.l [],.i 0,.b false,.l (rowsC fun k=>.b (anyR (gd p 0) 0 k)),.i ((0:Nat):Int),gd q 0,gd q 1] =
  some (2,[gd p 0,gd q 0,gd q 1,gd r 0,.i 0,.l [],.i 0,.b false,.l (rowsC fun k=>.b (anyR (gd p 0) (gd p 0).rows.length k)),.i ((gd p 0).rows.length:Int),gd q 0,gd q 1]):=by
 refine run_loop (L:=s_l10TurnL0 N p q r) (fun i => [gd p 0,gd q 0,gd q 1,gd r 0,.i 0,.l [],.i 0,.b false,.l (rowsC fun k=>.b (anyR (gd p 0) i k)),.i (i:Int),gd q 0,gd q 1]) (gd p 0).rows.length 0 (fun i hi=>?_) ?_ (N:=N) (by omega)
 ·obtain ⟨r1,r2,r3⟩:=range_at hz hi
  obtain ⟨lo,hlo⟩:∃ lo:Nat,(gd ((gd p 0).rows.getD i []) 0).int=lo:=⟨(gd ((gd p 0).rows.getD i []) 0).int.toNat,by omega⟩
  obtain ⟨n,hnn⟩:∃ n:Nat,(gd ((gd p 0).rows.getD i []) 1).int=(lo:Int)+n:=⟨((gd ((gd p 0).rows.getD i []) 1).int - lo).toNat,by omega⟩
  have x2:=turn_l2 N hN p q r i lo n hi hlo hnn (by omega)
  show s_l10TurnL0 N p q r [_,_,_,_,_,_,_,_,_,.i (i:Int),_,_]=_
  rw [s_l10TurnR0]
  rw [int_i,c_lt hi,nd_ix hi,Int.toNat_natCast,ltI_nat hi]
  dsimp only
  rw [x2]
  show some (0,[_,_,_,_,_,_,_,_,_,D.i (w64 ((i:Int)+1)),_,_])=_
  rw [w64_succ hi (by omega)]
  rfl
 ·show s_l10TurnL0 N p q r [_,_,_,_,_,_,_,_,_,.i ((gd p 0).rows.length:Int),_,_]=_
  rw [s_l10TurnR0]
  rw [int_i,c_nlt]
theorem turn_l4 (N:Nat) (hN:1001<N) (p q r:List D) (A M:Nat) (hA:(gd q 0).int=A) (hM:(gd q 1).int=(A:Int)+M) (hAM:A+M≤1000) :
  iter (s_l10TurnL4 N p q r) N [gd p 0,gd q 0,gd q 1,gd r 0,.i 0,.l [],.i 0,.b false,.l (rowsC fun k=>.b (anyR (gd p 0) (gd p 0).rows.length k)),.i ((gd p 0).rows.length:Int),gd q 0,gd q 0,gd q 1] =
  some (6,[gd p 0,gd q 0,gd q 1,gd r 0,.i 0,.l [],.i 0,.b false,.l (rowsC (turnC (gd p 0) q (gd r 0))),.i ((gd p 0).rows.length:Int),cntD (gd q 0) M,gd q 0,gd q 1]):=by
 have x4:=run_loop (L:=s_l10TurnL4 N p q r) (fun m => [gd p 0,gd q 0,gd q 1,gd r 0,.i 0,.l [],.i 0,.b false,.l (rowsC fun k=>bif decide (A≤k)&&decide (k<A+m) then gd r 0 else .b (anyR (gd p 0) (gd p 0).rows.length k)),.i ((gd p 0).rows.length:Int),cntD (gd q 0) m,gd q 0,gd q 1]) M 4 (fun m hm=>?_) ?_ (N:=N) (by omega)
 ·rw [show (rowsC fun k=>.b (anyR (gd p 0) (gd p 0).rows.length k))=rowsC fun k=>bif decide (A≤k)&&decide (k<A+0) then gd r 0 else .b (anyR (gd p 0) (gd p 0).rows.length k) from rowsC_congr fun k=>by
   rw [show (decide (A≤k)&&decide (k<A+0))=false from by rw [Bool.and_eq_false_iff]; simp; omega,cond_false]]
  rw [show rowsC (turnC (gd p 0) q (gd r 0))=rowsC fun k=>bif decide (A≤k)&&decide (k<A+M) then gd r 0 else .b (anyR (gd p 0) (gd p 0).rows.length k) from rowsC_congr fun k=>by
   unfold turnC inR leI ltI
   rw [hA,hM]
   congr 1
   rw [Bool.eq_iff_iff]
   simp only [Bool.and_eq_true,decide_eq_true_eq]
   omega]
  exact x4
 ·show s_l10TurnL4 N p q r [_,_,_,_,_,_,_,_,_,_,cntD (gd q 0) m,_,_]=_
  rw [s_l10TurnR4]
  rw [cntD_int,hA,hM,ltI_t (show (A:Int)+(m:Int)<(A:Int)+(M:Int) by omega),cond_true,rows_l]
  rw [show (A:Int)+(m:Int)=((A+m:Nat):Int) from by omega,nd_ix (by rw [rowsC_len]; omega),Int.toNat_natCast,rowsC_set,w64_succ (show A+m<1001 by omega) (by omega)]
  rw [show cntD (gd q 0) (m+1)=.i ((A+m+1:Nat):Int) from congrArg D.i (show (gd q 0).int+((m+1:Nat):Int)=((A+m+1:Nat):Int) by omega)]
  rw [show (rowsC fun k=>bif k==A+m then gd r 0 else bif decide (A≤k)&&decide (k<A+m) then gd r 0 else .b (anyR (gd p 0) (gd p 0).rows.length k))=rowsC fun k=>bif decide (A≤k)&&decide (k<A+(m+1)) then gd r 0 else .b (anyR (gd p 0) (gd p 0).rows.length k) from rowsC_congr fun k=>by
   by_cases hk:k=A+m
   ·subst hk
    rw [beq_self_eq_true,cond_true,show (decide (A≤A+m)&&decide (A+m<A+(m+1)))=true from by simp,cond_true]
   ·rw [show (k==A+m)=false from by simpa using hk,cond_false]
    congr 1
    rw [Bool.eq_iff_iff]
    simp only [Bool.and_eq_true,decide_eq_true_eq]
    omega]
 ·show s_l10TurnL4 N p q r [_,_,_,_,_,_,_,_,_,_,cntD (gd q 0) M,_,_]=_
  rw [s_l10TurnR4]
  rw [cntD_int,hA,hM,ltI_f (show (A:Int)+(M:Int)≤(A:Int)+(M:Int) by omega),cond_false]
theorem turn_l6 (N:Nat) (hN:1001<N) (p q r:List D) (m:D) (C:Nat→D) :
  iter (s_l10TurnL6 N p q r) N [gd p 0,gd q 0,gd q 1,gd r 0,.i 0,.l [],.i 0,.b false,.l (rowsC C),.i ((gd p 0).rows.length:Int),m,.l (tS (fun k=>(C k).bool) 0).1,.i (tS (fun k=>(C k).bool) 0).2,.i ((0:Nat):Int),gd q 0,gd q 1] =
  some (8,[gd p 0,gd q 0,gd q 1,gd r 0,.i 0,.l [],.i 0,.b false,.l (rowsC C),.i ((gd p 0).rows.length:Int),m,.l (tS (fun k=>(C k).bool) 1001).1,.i (tS (fun k=>(C k).bool) 1001).2,.i ((1001:Nat):Int),gd q 0,gd q 1]):=by
 refine run_loop (L:=s_l10TurnL6 N p q r) (fun k => [gd p 0,gd q 0,gd q 1,gd r 0,.i 0,.l [],.i 0,.b false,.l (rowsC C),.i ((gd p 0).rows.length:Int),m,.l (tS (fun k=>(C k).bool) k).1,.i (tS (fun k=>(C k).bool) k).2,.i (k:Int),gd q 0,gd q 1]) 1001 6 (fun k hk=>?_) ?_ (N:=N) (by omega)
 ·show s_l10TurnL6 N p q r [_,_,_,_,_,_,_,_,_,_,_,_,.i (tS (fun k=>(C k).bool) k).2,.i (k:Int),_,_]=_
  rw [s_l10TurnR6]
  have hl:=tS_len (fun k=>(C k).bool) k
  have hlen:∀ x,lenOk ((tS (fun k=>(C k).bool) k).1 ++ [x])=true:=fun x=>lenOk_t (by rw [List.length_append]; show _+1≤_; omega)
  have hix:inRange (k:Int) (rowsC C).length=true:=inRange_nat (by rw [rowsC_len]; omega)
  have hg:=rowsC_get (C:=C) (show k<1001 by omega)
  rw [tS]
  generalize tS (fun k=>(C k).bool) k=S at *
  obtain ⟨o,f⟩:=S
  have hlen:∀ x,lenOk (o ++ [x])=true:=hlen
  simp only [int_i,rows_l,leI_t (show (k:Int)≤1000 by omega),cond_true,hix,Int.toNat_natCast,hg,gd_cons_zero,hlen,Bool.and_self,nd_true,w64_succ (show k<1001 by omega) (show 1001≤9223372036854775807 by omega)]
  cases (C k).bool
  ·rw [cond_false,cond_false,Bool.not_false,cond_true]
   cases leI 0 f <;> rfl
  ·rw [cond_true,cond_true,Bool.not_true,cond_false]
   cases ltI f 0 <;> rfl
 ·show s_l10TurnL6 N p q r [_,_,_,_,_,_,_,_,_,_,_,_,_,.i ((1001:Nat):Int),_,_]=_
  rw [s_l10TurnR6]
  rw [int_i,leI_f (show (1000:Int)<((1001:Nat):Int) by omega),cond_false]
theorem turn_run (N:Nat) (hN:1001<N) (p q r:List D) (hz:rangesOk (gd p 0)=true) (ha:rangeOk (sub q 0 2)=true):evFn Tryz.prog s_l10TurnT N s_l10TurnK Tryz.f186 (.tup [.c (.d (.sl 41)),.c (.d (.bool))]) [⟨sd (.sl 41),p⟩,⟨ag rIRange,q⟩,⟨rb,r⟩]=some (bo,some (1,chgT (gd p 0) q (gd r 0))):=by
 rw [s_l10Turn_ev]
 have hct:chgT (gd p 0) q (gd r 0) = [.l (bif !(ltI 16 ((chgRg (gd p 0) q (gd r 0)).rows.length:Int)) then (chgRg (gd p 0) q (gd r 0)).rows else []),.b (!(ltI 16 ((chgRg (gd p 0) q (gd r 0)).rows.length:Int)))]:=by
  unfold chgT chgOk
  rw [hz,ha,Bool.true_and,Bool.true_and]
 rw [hct,hz,ha,Bool.not_true,cond_false,cond_false]
 have hn:(gd p 0).rows.length≤16:=by
  simp only [rangesOk,Bool.and_eq_true,leI,decide_eq_true_eq] at hz
  omega
 have ha':=ha
 simp only [rangeOk,Bool.and_eq_true,decide_eq_true_eq] at ha'
 obtain ⟨a0,a1,a2⟩:0≤(gd q 0).int∧(gd q 0).int<(gd q 1).int∧(gd q 1).int≤1000:=⟨ha'.1,ha'.2.1,ha'.2.2⟩
 obtain ⟨A,hA⟩:∃ A:Nat,(gd q 0).int=A:=⟨(gd q 0).int.toNat,by omega⟩
 obtain ⟨M,hM⟩:∃ M:Nat,(gd q 1).int=(A:Int)+M:=⟨((gd q 1).int - A).toNat,by omega⟩
 have x1:=turn_l0 N hN p q r hz hn
 rw [show (rowsC fun k=>.b (anyR (gd p 0) 0 k))=List.replicate 1001 [.b false] from (rowsC_rep (.b false)).symm,show (((0:Nat):Int))=0 from rfl] at x1
 have x4:=turn_l4 N hN p q r A M hA hM (by omega)
 have x6:=turn_l6 N hN p q r (cntD (gd q 0) M) (turnC (gd p 0) q (gd r 0))
 have ht:=turn_all (wi:=gd r 0) hz ha
 rw [show (leI 0 1001&&eqI 1001 1001&&leI 1001 4294967296&&true&&true)=true from by kernel_rfl,nd_true]
 generalize rowsC (turnC (gd p 0) q (gd r 0))=R4 at *
 generalize (rowsC fun k=>D.b (anyR (gd p 0) (gd p 0).rows.length k))=R1 at *
 generalize List.replicate 1001 [D.b false]=R0 at *
 rw [show (tS (fun k=>(turnC (gd p 0) q (gd r 0) k).bool) 0).1 = [] from rfl,show (tS (fun k=>(turnC (gd p 0) q (gd r 0) k).bool) 0).2 = -1 from rfl,show (((0:Nat):Int))=0 from rfl] at x6
 generalize tS (fun k=>(turnC (gd p 0) q (gd r 0) k).bool) 1001=S6 at *
 rw [x1]
 dsimp only [Out.pay,Out.code,Option.getD_some,Option.isSome_some]
 simp only [gd_cons_zero,gd_cons_succ]
 rw [x4]
 dsimp only [Out.pay,Out.code,Option.getD_some,Option.isSome_some]
 simp only [gd_cons_zero,gd_cons_succ]
 rw [x6]
 dsimp only [Out.pay,Out.code,Option.getD_some,Option.isSome_some]
 simp only [gd_cons_zero,gd_cons_succ,rows_l,ht]
 cases ltI 16 ((chgRg (gd p 0) q (gd r 0)).rows.length:Int) <;> rfl
def s_l10TurnE:Ent:=(186,e3 (sd (.sl 41)) (ag rIRange) rb fun p q r=>(⟨.tup [.c (.d (.sl 41)),.c (.d (.bool))],sub (chgT (gd p 0) q (gd r 0)) 0 2⟩,true))
theorem s_l10Turn_ok:EntOk Tryz.prog s_l10TurnE:=e3_ok fun p q r h=>evFn_sound (N:=1002) (ks:=s_l10TurnK) (key:=bo) s_l10TurnT_ok (enters Tryz.func186) Tryz.func186 fun hw=>by
 rw [s_l10Turn_ev]
 rw [← s_l10Turn_ev 1002 p q r]
 rw [show sub (chgT (gd p 0) q (gd r 0)) 0 2=chgT (gd p 0) q (gd r 0) from rfl]
 cases hz:rangesOk (gd p 0) with
 | false =>
  have hct:chgT (gd p 0) q (gd r 0) = [.l [],.b false]:=by
   unfold chgT chgOk
   rw [hz]
   rfl
  rw [hct,s_l10Turn_ev,hz]
  rfl
 | true =>
 cases ha:rangeOk (sub q 0 2) with
 | false =>
  have hct:chgT (gd p 0) q (gd r 0) = [.l [],.b false]:=by
   unfold chgT chgOk
   rw [hz,ha]
   rfl
  rw [hct,s_l10Turn_ev,hz,ha]
  rfl
 | true=>exact turn_run 1002 (by omega) p q r hz ha
abbrev s_RangesPlusT:FuncId→List T→Option (T × Bool):=find [s_l10TurnE]
theorem s_RangesPlusT_ok:CallOk Tryz.prog s_RangesPlusT:=find_ok (fC ⟨s_l10Turn_ok,fN⟩)
abbrev s_RangesPlusK:List Nat:= [0,1,3,4,5,6,7]
theorem s_RangesPlus_ev (N:Nat) (p q:List D):evFn Tryz.prog s_RangesPlusT N s_RangesPlusK Tryz.f63 (.tup [.c (.d (.sl 41)),.c (.d (.bool))]) [⟨sd (.sl 41),p⟩,⟨ag rIRange,q⟩]=some (bo,
 some (1,sub (chgT (gd p 0) (sub q 0 2) (.b true)) 0 2)):=by kernel_rfl
def s_RangesPlusE:Ent:=(63,e2 (sd (.sl 41)) (ag rIRange) fun p q=>(⟨.tup [.c (.d (.sl 41)),.c (.d (.bool))],sub (chgT (gd p 0) q (.b true)) 0 2⟩,true))
theorem s_RangesPlus_ok:EntOk Tryz.prog s_RangesPlusE:=e2_ok fun p q h=>evFn_sound (N:=0) (ks:=s_RangesPlusK) (key:=bo) s_RangesPlusT_ok (enters Tryz.func63) Tryz.func63 fun hw=>by
 rw [s_RangesPlus_ev]
 rfl
end Go.Proofs.YtpdfmcmnjikppaaGreat
namespace Go.Proofs.YtpdfmcmnjikppaaGreat
set_option maxRecDepth 4096
set_option maxHeartbeats 1000000
theorem shard_lens {p:List D} (h:shardOk p=true):locksOk (gd p 4)=true∧(gd p 4).rows.length≤40∧(gd p 5).rows.length≤60∧(gd p 6).rows.length≤60∧ascOk (gd p 6)=true∧storeOk (gd p 3)=true∧rangesOk (gd p 1)=true∧rangesOk (gd p 2)=true:=by
 simp only [shardOk,Bool.and_eq_true,leI,decide_eq_true_eq] at h
 obtain ⟨_,h1,h2,h3,h4,_,h5,h6,_,h7,_⟩:=h
 exact ⟨h4,((locksOk_iff _).1 h4).2.2,by omega,by omega,h7,h3,h1,h2⟩
theorem shard_dup {p:List D} (h:shardOk p=true):dupOk p=true:=by
 obtain ⟨_,h4,h5,h6,_,h3,h1,h2⟩:=shard_lens h
 simp only [shardOk,shardSum,heldsOkS,Bool.and_eq_true,leI,decide_eq_true_eq,List.all_eq_true,List.mem_range] at h
 obtain ⟨_,_,_,_,_,_,_,_,h7,_,_,_,_,_,_,hw,_⟩:=h
 simp only [rangesOk,storeOk,Bool.and_eq_true,leI,decide_eq_true_eq] at h1 h2 h3
 have k1:=h1.2
 have k2:=h2.2
 have k3:=h3.2
 unfold dupOk
 rw [leI_t (show ((gd p 1).rows.length:Int)≤1000000 by omega),leI_t (show ((gd p 2).rows.length:Int)≤1000000 by omega),leI_t (show ((gd p 3).rows.length:Int)≤1000000 by omega),leI_t (show ((gd p 4).rows.length:Int)≤1000000 by omega),leI_t (show ((gd p 5).rows.length:Int)≤1000000 by omega),leI_t (show ((gd p 6).rows.length:Int)≤1000000 by omega),leI_t (show ((gd p 7).rows.length:Int)≤1000000 by omega)]
 simp only [Bool.true_and,List.all_eq_true,List.mem_range]
 intro k hk
 have hr:heldRest p k=true:=by
  have:=hw k hk
  cases k with
  | zero=>simp only [heldAtS,Bool.and_eq_true] at this; exact this.2
  | succ k=>simp only [heldAtS,Bool.and_eq_true] at this; exact this.2.2
 simp only [heldRest,Bool.and_eq_true] at hr
 have:=writes_len hr.1
 exact leI_t (by omega)
end Go.Proofs.YtpdfmcmnjikppaaGreat
namespace Go.Proofs.YtpdfmcmnjikppaaGreat
set_option maxRecDepth 4096
set_option maxHeartbeats 1000000
abbrev i_ShardInstall_1T:FuncId→List T→Option (T × Bool):=find [i_RhasE]
theorem i_ShardInstall_1T_ok:CallOk Tryz.prog i_ShardInstall_1T:=find_ok (fC ⟨i_Rhas_ok,fN⟩)
abbrev i_ShardInstall_1K:List Nat:= [0,1,2,3]
theorem i_ShardInstall_1_ev (N:Nat) (p q:List D):evFn Tryz.prog i_ShardInstall_1T N i_ShardInstall_1K Tryz.f129 rb [⟨ag rICell,p⟩,⟨.one (.c (.cptr [si,si] 0)),q⟩]=some (bo,
 ob (!(inB (gd p 0).int (gd ((gd q 0).rows.getD 0 []) 0).int (w64 ((gd ((gd q 0).rows.getD 0 []) 1).int - 1))))):=by kernel_rfl
def i_ShardInstall_1F (p q:List D):Bool:=
 !(inB (gd p 0).int (gd ((gd q 0).rows.getD 0 []) 0).int (w64 ((gd ((gd q 0).rows.getD 0 []) 1).int - 1)))
def i_ShardInstall_1E:Ent:=(129,e2 (ag rICell) (.one (.c (.cptr [si,si] 0))) fun p q=>(⟨rb,[.b (i_ShardInstall_1F p [gd q 0])]⟩,true))
theorem i_ShardInstall_1_ok:EntOk Tryz.prog i_ShardInstall_1E:=e2_ok fun p q h=>evFn_sound (N:=0) (ks:=i_ShardInstall_1K) (key:=bo) i_ShardInstall_1T_ok (enters Tryz.func129) Tryz.func129 fun hw=>by
 rw [i_ShardInstall_1_ev]
 try simp only [cond_ob,cond_oi,cond_os]
 rfl
abbrev ixfSIT:FuncId→List T→Option (T × Bool):=find [i_ShardInstall_1E]
theorem ixfSIT_ok:CallOk Tryz.prog ixfSIT:=find_ok (fC ⟨i_ShardInstall_1_ok,fN⟩)
abbrev ixfSIK:List Nat:= [0,1,4,5,7,8,9,16]
noncomputable def ixfSIL0 (N:Nat) (p q:List D):List D→Out:=loopOf Tryz.prog ixfSIT N ixfSIK Tryz.f221 ri [⟨sd (.sl 108),p⟩,⟨.one (.c (.fn 129 [.cptr [si,si] 0])),q⟩] 0
theorem ixfSIR0 (N:Nat) (p q:List D) (x0 x1 x2 x3 x4:D):(ixfSIL0 N p q) [x0,x1,x2,x3,x4] =
 bif ltI x4.int x3.int then nd (inRange x4.int x0.rows.length) (bif i_ShardInstall_1F (sub (x0.rows.getD x4.int.toNat []) 0 2) [gd (x1.rows.getD 0 []) 0] then some (1,[x4])
 else nx [x0,x1,x2,x3,.i (w64 (x4.int+1))])
 else ex 0 [x0,x1,x2,x3,x4]:=by kernel_rfl
theorem ixfSI_ev (N:Nat) (p q:List D):evFn Tryz.prog ixfSIT N ixfSIK Tryz.f221 ri [⟨sd (.sl 108),p⟩,⟨.one (.c (.fn 129 [.cptr [si,si] 0])),q⟩]=some (bo,
 (let o0:=iter (ixfSIL0 N p q) N [gd p 0,gd q 0,.i 0,.i ((gd p 0).rows.length:Int),.i 0]
  nd o0.isSome (bif o0.code==1 then some (1,o0.pay)
  else nd (o0.code==2) (oi (-1))))):=by kernel_rfl
def ixfSIC (c:D) (r:List D):Bool:=i_ShardInstall_1F r [gd (c.rows.getD 0 []) 0]
def ixfSIE:Ent:=(221,e2 (sd (.sl 108)) (.one (.c (.fn 129 [.cptr [si,si] 0]))) fun p q=>(⟨ri,[.i (ixF (fun k=>ixfSIC (gd q 0) (sub ((gd p 0).rows.getD k []) 0 2)) 0 (gd p 0).rows.length)]⟩,true))
theorem ixfSI_ok:EntOk Tryz.prog ixfSIE:=e2_ok fun p q h=>evFn_sound (N:=(gd p 0).rows.length+1) (ks:=ixfSIK) (key:=bo) ixfSIT_ok (enters Tryz.func221) Tryz.func221 fun hw=>by
 rw [ixfSI_ev]
 have hl:=wt_sl (hw ⟨sd (.sl 108),p⟩ (by simp))
 have e:=ix_loop (L:=ixfSIL0 ((gd p 0).rows.length+1) p q) (fun k => [gd p 0,gd q 0,.i 0,.i ((gd p 0).rows.length:Int),.i (k:Int)]) (gd p 0).rows.length (fun k=>ixfSIC (gd q 0) (sub ((gd p 0).rows.getD k []) 0 2)) [gd p 0,gd q 0,.i 0,.i ((gd p 0).rows.length:Int),.i ((gd p 0).rows.length:Int)] (fun k hk=>?_) ?_ (gd p 0).rows.length 0 ((gd p 0).rows.length+1) (by omega) (by omega)
 ·simp only [Int.natCast_zero] at e
  rw [e]
  have hno:=ixF_neg (fun k=>ixfSIC (gd q 0) (sub ((gd p 0).rows.getD k []) 0 2)) (gd p 0).rows.length 0
  cases hd:decide (ixF (fun k=>ixfSIC (gd q 0) (sub ((gd p 0).rows.getD k []) 0 2)) 0 (gd p 0).rows.length≥0)
  ·rw [hno hd]; rfl
  ·rfl
 ·show ixfSIL0 _ p q [_,_,_,_,.i (k:Int)]=_
  rw [ixfSIR0]
  simp only [int_i,c_lt hk,nd_ix hk,w64_succ hk hl,Int.toNat_natCast]
  unfold ixfSIC
  cases i_ShardInstall_1F (sub ((gd p 0).rows.getD k []) 0 2) [gd ((gd q 0).rows.getD 0 []) 0] <;> rfl
 ·show ixfSIL0 _ p q [_,_,_,.i ((gd p 0).rows.length:Int),.i ((gd p 0).rows.length:Int)]=_
  rw [ixfSIR0]
  simp only [int_i,c_nlt]
abbrev cofSIT:FuncId→List T→Option (T × Bool):=find [ixfSIE,i_ShardInstall_1E]
theorem cofSIT_ok:CallOk Tryz.prog cofSIT:=find_ok (fC ⟨ixfSI_ok,fC ⟨i_ShardInstall_1_ok,fN⟩⟩)
abbrev cofSIK:List Nat:= [0,1,4]
theorem cofSI_ev (N:Nat) (p q:List D):evFn Tryz.prog cofSIT N cofSIK Tryz.f128 rb [⟨sd (.sl 108),p⟩,⟨.one (.c (.fn 129 [.cptr [si,si] 0])),q⟩]=some (bo,
 ob (leI 0 (ixF (fun k=>ixfSIC (.l [[gd ((gd q 0).rows.getD 0 []) 0]]) (sub ((gd p 0).rows.getD k []) 0 2)) 0 (gd p 0).rows.length))):=by kernel_rfl
def cofSIE:Ent:=(128,e2 (sd (.sl 108)) (.one (.c (.fn 129 [.cptr [si,si] 0]))) fun p q=>(⟨rb,[.b (anyS (fun rr=>ixfSIC (gd q 0) (sub rr 0 2)) (gd p 0))]⟩,true))
theorem cofSI_ok:EntOk Tryz.prog cofSIE:=e2_ok fun p q h=>evFn_sound (N:=0) (ks:=cofSIK) (key:=bo) cofSIT_ok (enters Tryz.func128) Tryz.func128 fun hw=>by
 rw [cofSI_ev]
 refine congrArg (fun x=>some (bo,ob x)) ?_
 exact (ixF_any (fun k=>ixfSIC (gd q 0) (sub ((gd p 0).rows.getD k []) 0 2)) (gd p 0).rows.length 0).trans (by simp only [Nat.zero_add]; rfl)
abbrev s_StoreCutT:FuncId→List T→Option (T × Bool):=find [s_l11ScanE]
theorem s_StoreCutT_ok:CallOk Tryz.prog s_StoreCutT:=find_ok (fC ⟨s_l11Scan_ok,fN⟩)
abbrev s_StoreCutK:List Nat:= [0,1,3,4]
theorem s_StoreCut_ev (N:Nat) (p q:List D):evFn Tryz.prog s_StoreCutT N s_StoreCutK Tryz.f123 (.one (.c (.d (.sl 108)))) [⟨sd (.sl 108),p⟩,⟨ag rIRange,q⟩]=some (bo,
 nd (leI ((gd p 0).rows.length:Int) 1000000000) (some (1,[scanD (gd p 0) (sub q 0 2) false]))):=by kernel_rfl
def s_StoreCutE:Ent:=(123,e2 (sd (.sl 108)) (ag rIRange) fun p q=>(⟨.one (.c (.d (.sl 108))),[scanD (gd p 0) q false]⟩,leI ((gd p 0).rows.length:Int) 1000000000))
theorem s_StoreCut_ok:EntOk Tryz.prog s_StoreCutE:=e2_ok fun p q h=>evFn_sound (N:=0) (ks:=s_StoreCutK) (key:=bo) s_StoreCutT_ok (enters Tryz.func123) Tryz.func123 fun hw=>by
 rw [s_StoreCut_ev]
 have h:leI ((gd p 0).rows.length:Int) 1000000000=true:=h
 rw [h]
 rfl
abbrev s_StoreJoinT:FuncId→List T→Option (T × Bool):=find [s_StoreOkE,s_l11GetE,s_l2CellsNE]
theorem s_StoreJoinT_ok:CallOk Tryz.prog s_StoreJoinT:=find_ok (fC ⟨s_StoreOk_ok,fC ⟨s_l11Get_ok,fC ⟨s_l2CellsN_ok,fN⟩⟩⟩)
abbrev s_StoreJoinK:List Nat:= [0,1,4,5,6,7,23,31,41,4000006]
noncomputable def s_StoreJoinL0 (N:Nat) (p q:List D):List D→Out:=loopOf Tryz.prog s_StoreJoinT N s_StoreJoinK Tryz.f125 (.tup [.c (.d (.sl 108)),.c (.d (.bool))]) [⟨sd (.sl 108),p⟩,⟨sd (.sl 108),q⟩] 0
theorem s_StoreJoinR0 (N:Nat) (p q:List D) (x0 x1 x2 x3 x4 x5 x6:D):(s_StoreJoinL0 N p q) [x0,x1,x2,x3,x4,x5,x6] =
 bif ltI x6.int (x1.rows.length:Int) then nd (inRange x6.int x1.rows.length) (nd (storeOk x0) (bif leI 0 (valD x0 (gd (x1.rows.getD x6.int.toNat []) 0).int).int then some (1,[.l [],.b false])
 else nd (inRange x6.int x1.rows.length) (nd (inRange x6.int x1.rows.length) (nd (cellsUp x5) (nx [x0,x1,x2,x3,x4,prD (putP (prs x5) (gd (x1.rows.getD x6.int.toNat []) 0).int (gd (x1.rows.getD x6.int.toNat []) 1).int true),.i (w64 (x6.int+1))])))))
 else ex 0 [x0,x1,x2,x3,x4,x5,x6]:=by kernel_rfl
theorem s_StoreJoin_ev (N:Nat) (p q:List D):evFn Tryz.prog s_StoreJoinT N s_StoreJoinK Tryz.f125 (.tup [.c (.d (.sl 108)),.c (.d (.bool))]) [⟨sd (.sl 108),p⟩,⟨sd (.sl 108),q⟩]=some (bo,
 bif !(storeOk (gd p 0)) then some (1,[.l [],.b false])
 else bif !(storeOk (gd q 0)) then some (1,[.l [],.b false])
 else bif ltI 60 (w64 (((gd p 0).rows.length:Int)+((gd q 0).rows.length:Int))) then some (1,[.l [],.b false])
 else nd (lenOk ([]++(gd p 0).rows)&&true) ((let o0:=iter (s_StoreJoinL0 N p q) N [gd p 0,gd q 0,.l [],.i 0,.b (ltI 60 (w64 (((gd p 0).rows.length:Int)+((gd q 0).rows.length:Int)))),.l ([]++(gd p 0).rows),.i 0]
  nd o0.isSome (bif o0.code==1 then some (1,o0.pay)
  else nd (o0.code==2) (some (1,[gd o0.pay 5,.b true])))))):=by kernel_rfl
def joinR (z u:D):Nat→D
 | 0=>.l z.rows
 | k+1=>prD (putP (prs (joinR z u k)) (gd (u.rows.getD k []) 0).int (gd (u.rows.getD k []) 1).int true)
def joinHit (z u:D) (k:Nat):Bool:=leI 0 (valD z (gd (u.rows.getD k []) 0).int).int
def joinOk (z u:D):Bool:=storeOk z&&(storeOk u&&(leI ((z.rows.length:Int)+(u.rows.length:Int)) 60&&(List.range u.rows.length).all fun k => !joinHit z u k))
def joinS (z u:D):List D:= [.l (bif joinOk z u then (joinR z u u.rows.length).rows else []),.b (joinOk z u)]
theorem store_upL {z:D} (h:storeOk z=true):upL (prs z):=by
 have hs:=store_sorted h
 refine up_iff.1 (sorted_up ⟨by have:=hs.len; omega,hs.key,hs.lt⟩)
theorem keyJ_in {u:D} (h:storeOk u=true) {k:Nat} (hk:k<u.rows.length):0≤(gd (u.rows.getD k []) 0).int∧(gd (u.rows.getD k []) 0).int≤999:=(store_sorted h).key k hk
theorem joinR_up {z u:D} (hz:storeOk z=true) (hu:storeOk u=true):∀ k,k≤u.rows.length→upL (prs (joinR z u k))
 | 0,_=>store_upL (z:=z) hz
 | k+1,hk=>by
  rw [joinR,prs_prD]
  exact putP_up (joinR_up hz hu k (by omega)) (keyJ_in hu (by omega)) _ _
def s_StoreJoinE:Ent:=(125,e2 (sd (.sl 108)) (sd (.sl 108)) fun p q=>(⟨.tup [.c (.d (.sl 108)),.c (.d (.bool))],sub (joinS (gd p 0) (gd q 0)) 0 2⟩,true))
theorem s_StoreJoin_ok:EntOk Tryz.prog s_StoreJoinE:=e2_ok fun p q h=>evFn_sound (N:=(gd q 0).rows.length+1) (ks:=s_StoreJoinK) (key:=bo) s_StoreJoinT_ok (enters Tryz.func125) Tryz.func125 fun hw=>by
 rw [s_StoreJoin_ev]
 rw [show sub (joinS (gd p 0) (gd q 0)) 0 2=joinS (gd p 0) (gd q 0) from rfl]
 unfold joinS joinOk
 cases hz:storeOk (gd p 0) with
 | false=>rfl
 | true =>
 cases hu:storeOk (gd q 0) with
 | false=>rfl
 | true =>
 have lz:(gd p 0).rows.length≤60:=(store_sorted hz).len
 have lu:(gd q 0).rows.length≤60:=(store_sorted hu).len
 rw [Bool.not_true,cond_false,cond_false,w64_id (x:=((gd p 0).rows.length:Int)+((gd q 0).rows.length:Int)) (by omega) (by omega)]
 by_cases hb:((gd p 0).rows.length:Int)+((gd q 0).rows.length:Int)≤60
 ·rw [ltI_f hb,leI_t hb,cond_false,lenOk_t (by rw [List.nil_append]; omega),Bool.and_self,nd_true,Bool.true_and,Bool.true_and,Bool.true_and]
  have e:=for_loop (L:=s_StoreJoinL0 ((gd q 0).rows.length+1) p q) (fun k => [gd p 0,gd q 0,.l [],.i 0,.b false,joinR (gd p 0) (gd q 0) k,.i (k:Int)]) (gd q 0).rows.length (fun k => !joinHit (gd p 0) (gd q 0) k) [.l [],.b false] 0 (fun k hk=>?_) ?_ (N:=(gd q 0).rows.length+1) (by omega)
  ·simp only [Int.natCast_zero,joinR] at e
   rw [List.nil_append,e]
   cases (List.range (gd q 0).rows.length).all fun k => !joinHit (gd p 0) (gd q 0) k
   ·rfl
   ·show some (bo,some (1,[joinR (gd p 0) (gd q 0) (gd q 0).rows.length,.b true]))=some (bo,some (1,[.l (joinR (gd p 0) (gd q 0) (gd q 0).rows.length).rows,.b true]))
    cases (gd q 0).rows.length <;> rfl
  ·show s_StoreJoinL0 _ p q [_,_,_,_,_,_,.i (k:Int)]=_
   rw [s_StoreJoinR0]
   have hup:cellsUp (joinR (gd p 0) (gd q 0) k)=true:=up_iff.2 (joinR_up hz hu k (by omega))
   simp only [int_i,c_lt hk,nd_ix hk,Int.toNat_natCast,w64_succ hk (show (gd q 0).rows.length≤9223372036854775807 by omega),hz,hup,nd_true]
   unfold joinHit
   cases leI 0 (valD (gd p 0) (gd ((gd q 0).rows.getD k []) 0).int).int <;> rfl
  ·show s_StoreJoinL0 _ p q [_,_,_,_,_,_,.i ((gd q 0).rows.length:Int)]=_
   rw [s_StoreJoinR0]
   simp only [int_i,c_nlt]
 ·rw [ltI_t (show (60:Int)<((gd p 0).rows.length:Int)+((gd q 0).rows.length:Int) by omega),leI_f (show (60:Int)<((gd p 0).rows.length:Int)+((gd q 0).rows.length:Int) by omega)]
  rfl
end Go.Proofs.YtpdfmcmnjikppaaGreat
namespace Go.Proofs.YtpdfmcmnjikppaaGreat
open Go.RowKit Go.Lib
theorem storeOk_iff (z:D):storeOk z=true↔(∀ a∈prs z,(0≤a.1∧a.1≤999)∧(0≤a.2∧a.2≤1000000000))∧(prs z).Pairwise (fun a b=>a.1<b.1)∧z.rows.length≤60:=by
 have hat:∀ k (h:k<z.rows.length),(prs z)[k]'(by rw [prs_len]; exact h)=((gd (z.rows.getD k []) 0).int,(gd (z.rows.getD k []) 1).int):=fun k h=>prs_at z k h
 constructor
 ·intro h
  have hs:=store_sorted h
  refine ⟨fun a ha=>?_,List.pairwise_iff_getElem.2 fun i j hi hj hij=>?_,hs.len⟩
  ·obtain ⟨k,hk,rfl⟩:=List.getElem_of_mem ha
   rw [prs_len] at hk
   rw [hat k hk]
   refine ⟨hs.key k hk,?_⟩
   simp only [storeOk,Bool.and_eq_true,List.all_eq_true,List.mem_range] at h
   have:=h.1 k hk
   cases k with
   | zero=>simp only [storeAt,Bool.and_eq_true,inB,decide_eq_true_eq] at this; exact ⟨this.2.1,this.2.2⟩
   | succ k=>simp only [storeAt,Bool.and_eq_true,inB,decide_eq_true_eq] at this; exact ⟨this.2.1.1,this.2.1.2⟩
  ·rw [prs_len] at hi hj
   rw [hat i hi,hat j hj]
   exact hs.lt i j hij hj
 ·rintro ⟨h1,h2,h3⟩
  simp only [storeOk,Bool.and_eq_true,List.all_eq_true,List.mem_range,leI,decide_eq_true_eq]
  refine ⟨fun k hk=>?_,by omega⟩
  have a1:=h1 _ (List.getElem_mem (by rw [prs_len]; exact hk))
  rw [hat k hk] at a1
  cases k with
  | zero =>
   simp only [storeAt,Bool.and_eq_true,inB,decide_eq_true_eq]
   exact ⟨⟨a1.1.1,a1.1.2⟩,a1.2.1,a1.2.2⟩
  | succ k =>
   have a2:=List.pairwise_iff_getElem.1 h2 k (k+1) (by rw [prs_len]; omega) (by rw [prs_len]; exact hk) (by omega)
   rw [hat k (by omega),hat (k+1) hk] at a2
   simp only [storeAt,Bool.and_eq_true,inB,decide_eq_true_eq,leI,Bool.not_eq_true',decide_eq_false_iff_not]
   have a2:(gd (z.rows.getD k []) 0).int<(gd (z.rows.getD (k+1) []) 0).int:=a2
   exact ⟨⟨a1.1.1,a1.1.2⟩,⟨a1.2.1,a1.2.2⟩,by omega⟩
theorem bsB_iff {z:D} (h:storeOk z=true) (t:Int):bsB z t=true↔∃ a∈prs z,a.1=t:=by
 have hs:=store_sorted h
 constructor
 ·intro hb
  unfold bsB at hb
  simp only [Bool.and_eq_true,ltI,decide_eq_true_eq,beq_iff_eq] at hb
  have hlt:lowN z t<z.rows.length:=by omega
  exact ⟨_,List.getElem_mem (by rw [prs_len]; exact hlt),by rw [prs_at z _ hlt]; exact hb.2⟩
 ·rintro ⟨a,ha,e⟩
  obtain ⟨k,hk,rfl⟩:=List.getElem_of_mem ha
  rw [prs_len] at hk
  rw [prs_at z k hk] at e
  have e:keyAt z k=t:=e
  have hl:lowN z t=k:=lowN_eq (by omega) (fun j hj=>by have:=hs.lt j k hj hk; omega) (fun j h1 h2=>by
   rcases Nat.lt_or_ge k j with h3 | h3
   ·have:=hs.lt k j h3 h2; omega
   ·obtain rfl:j=k:=by omega
    omega)
  unfold bsB
  rw [hl,ltI_nat hk,e,beq_self_eq_true]
  rfl
theorem hit_iff {z u:D} (hz:storeOk z=true) {k:Nat}:joinHit z u k=true↔∃ a∈prs z,a.1=(gd (u.rows.getD k []) 0).int:=by
 rw [← bsB_iff hz]
 unfold joinHit valD
 cases hb:bsB z (gd (u.rows.getD k []) 0).int with
 | false=>exact ⟨fun h=>(by cases h),fun h=>(by cases h)⟩
 | true =>
  rw [cond_true]
  refine ⟨fun _=>rfl,fun _=>leI_t ?_⟩
  unfold bsB at hb
  simp only [Bool.and_eq_true,ltI,decide_eq_true_eq] at hb
  have hlt:lowN z (gd (u.rows.getD k []) 0).int<z.rows.length:=by omega
  have:=((storeOk_iff z).1 hz).1 _ (List.getElem_mem (by rw [prs_len]; exact hlt))
  rw [prs_at z _ hlt] at this
  exact this.2.1
theorem up_ext:∀ {a b:List (Int × Int)},a.Pairwise (fun x y=>x.1<y.1)→b.Pairwise (fun x y=>x.1<y.1)→(∀ x,x∈a↔x∈b)→a=b
 | [],[],_,_,_=>rfl
 | [],y::b,_,_,h=>absurd ((h y).2 (by simp)) (by simp)
 | x::a,[],_,_,h=>absurd ((h x).1 (by simp)) (by simp)
 | x::a,y::b,ha,hb,h=>by
  rw [List.pairwise_cons] at ha hb
  have hxy:x=y:=by
   have h1:=(h x).1 (by simp)
   have h2:=(h y).2 (by simp)
   rcases List.mem_cons.1 h1 with h1 | h1
   ·exact h1
   ·rcases List.mem_cons.1 h2 with h2 | h2
    ·exact h2.symm
    ·have a1:=hb.1 x h1
     have a2:=ha.1 y h2
     omega
  subst hxy
  rw [up_ext ha.2 hb.2 fun z=>?_]
  constructor
  ·intro hz
   rcases List.mem_cons.1 ((h z).1 (List.mem_cons_of_mem _ hz)) with h1 | h1
   ·have:=ha.1 z hz; rw [h1] at this; omega
   ·exact h1
  ·intro hz
   rcases List.mem_cons.1 ((h z).2 (List.mem_cons_of_mem _ hz)) with h1 | h1
   ·have:=hb.1 z hz; rw [h1] at this; omega
   ·exact h1
theorem putP_mem {xs:List (Int × Int)} {t v:Int} {m:Int × Int}:m∈putP xs t v true↔m=(t,v)∨(m∈xs∧m.1≠t):=by
 unfold putP lessK moreK
 rw [cond_true]
 simp only [List.mem_append,List.mem_filter,List.mem_singleton,decide_eq_true_eq]
 constructor
 ·rintro ((⟨h1,h2⟩ | h) | ⟨h1,h2⟩)
  ·exact .inr ⟨h1,by omega⟩
  ·exact .inl h
  ·exact .inr ⟨h1,by omega⟩
 ·rintro (h | ⟨h1,h2⟩)
  ·exact .inl (.inr h)
  ·rcases Int.lt_trichotomy m.1 t with h3 | h3 | h3
   ·exact .inl (.inl ⟨h1,h3⟩)
   ·exact absurd h3 h2
   ·exact .inr ⟨h1,h3⟩
theorem joinR_mem {z u:D} (hz:storeOk z=true) (hu:storeOk u=true) (hno:∀ k,k<u.rows.length→joinHit z u k=false):∀ k,k≤u.rows.length→∀ m,m∈prs (joinR z u k)↔m∈prs z∨m∈(prs u).take k
 | 0,_,m=>by
  show m∈prs z↔_
  simp
 | k+1,hk,m=>by
  have ih:=joinR_mem hz hu hno k (by omega)
  have hku:k<(prs u).length:=by rw [prs_len]; omega
  have et:(prs u).take (k+1)=(prs u).take k ++ [((gd (u.rows.getD k []) 0).int,(gd (u.rows.getD k []) 1).int)]:=by
   rw [List.take_add_one,List.getElem?_eq_getElem hku,prs_at u k (by omega)]
   rfl
  rw [joinR,prs_prD,putP_mem,ih,et,List.mem_append,List.mem_singleton]
  have hlt:∀ a∈(prs u).take k,a.1<(gd (u.rows.getD k []) 0).int:=fun a ha=>by
   have hp:=(((storeOk_iff u).1 hu).2.1).sublist (List.take_sublist (k+1) (prs u))
   rw [et,List.pairwise_append] at hp
   exact hp.2.2 a ha _ (List.mem_singleton.2 rfl)
  have hnz:∀ a∈prs z,a.1≠(gd (u.rows.getD k []) 0).int:=fun a ha e=>by
   have:=(hit_iff (u:=u) hz (k:=k)).2 ⟨a,ha,e⟩
   rw [hno k (by omega)] at this
   cases this
  constructor
  ·rintro (h | ⟨h | h,_⟩)
   ·exact .inr (.inr h)
   ·exact .inl h
   ·exact .inr (.inl h)
  ·rintro (h | h | h)
   ·exact .inr ⟨.inl h,hnz m h⟩
   ·exact .inr ⟨.inr h,by have:=hlt m h; omega⟩
   ·exact .inl h
theorem nodup_keys {l:List (Int × Int)} (h:l.Pairwise (fun a b=>a.1<b.1)):(l.map (·.1)).Nodup:=by
 rw [List.nodup_iff_pairwise_ne,List.pairwise_map]
 exact h.imp fun h=>by omega
theorem join_same {z u:D} {rows:List (List D)} (hz:storeOk z=true) (hu:storeOk u=true) (hl:z.rows.length+u.rows.length≤60) (hp:(rows.map pr).Perm ((z.rows++u.rows).map pr)) (hs:(rows.map pr).Pairwise (fun a b=>a.1≤b.1)) :
  storeOk (.l rows)=joinOk z u∧(joinOk z u=true→rows.map pr=prs (joinR z u u.rows.length)):=by
 obtain ⟨z1,z2,z3⟩:=(storeOk_iff z).1 hz
 obtain ⟨u1,u2,u3⟩:=(storeOk_iff u).1 hu
 have hap:(z.rows++u.rows).map pr=prs z++prs u:=List.map_append
 rw [hap] at hp
 have hlen:rows.length=z.rows.length+u.rows.length:=by
  have:=hp.length_eq
  rwa [List.length_append,List.length_map,prs_len,prs_len] at this
 have hok:joinOk z u=(List.range u.rows.length).all fun k => !joinHit z u k:=by
  unfold joinOk
  rw [hz,hu,leI_t (show (z.rows.length:Int)+(u.rows.length:Int)≤60 by omega)]
  rfl
 have hdis:joinOk z u=true↔∀ a∈prs z,∀ b∈prs u,a.1≠b.1:=by
  rw [hok,List.all_eq_true]
  constructor
  ·intro h a ha b hb e
   obtain ⟨k,hk,rfl⟩:=List.getElem_of_mem hb
   rw [prs_len] at hk
   have:=h k (List.mem_range.2 hk)
   rw [prs_at u k hk] at e
   have h2:=(hit_iff (u:=u) hz (k:=k)).2 ⟨a,ha,e⟩
   rw [h2] at this
   cases this
  ·intro h k hk
   have hk:=List.mem_range.1 hk
   rw [Bool.not_eq_true',← Bool.not_eq_true,hit_iff hz]
   rintro ⟨a,ha,e⟩
   exact h a ha _ (List.getElem_mem (by rw [prs_len]; exact hk)) (by rw [prs_at u k hk]; exact e)
 have hfwd:joinOk z u=true→(rows.map pr).Pairwise (fun a b=>a.1<b.1):=fun h=>by
  have hd:=hdis.1 h
  have hn:((rows.map pr).map (·.1)).Nodup:=by
   rw [(hp.map (·.1)).nodup_iff,List.map_append,List.nodup_append]
   refine ⟨nodup_keys z2,nodup_keys u2,fun a ha b hb e=>?_⟩
   obtain ⟨x,hx,rfl⟩:=List.mem_map.1 ha
   obtain ⟨y,hy,rfl⟩:=List.mem_map.1 hb
   exact hd x hx y hy e
  rw [List.nodup_iff_pairwise_ne,List.pairwise_map] at hn
  exact (hs.and hn).imp fun h=>by omega
 refine ⟨?_,fun h=>?_⟩
 ·rw [Bool.eq_iff_iff]
  constructor
  ·intro h
   obtain ⟨_,r2,_⟩:=(storeOk_iff (.l rows)).1 h
   have r2:(rows.map pr).Pairwise (fun a b=>a.1<b.1):=r2
   have hn:=nodup_keys r2
   rw [(hp.map (·.1)).nodup_iff,List.map_append,List.nodup_append] at hn
   exact hdis.2 fun a ha b hb e=>hn.2.2 _ (List.mem_map.2 ⟨a,ha,rfl⟩) _ (List.mem_map.2 ⟨b,hb,rfl⟩) e
  ·intro h
   refine (storeOk_iff (.l rows)).2 ⟨fun a ha=>?_,hfwd h,by show rows.length≤60; omega⟩
   have ha:a∈rows.map pr:=ha
   rcases List.mem_append.1 (hp.mem_iff.1 ha) with h1 | h1
   ·exact z1 a h1
   ·exact u1 a h1
 ·have hno:∀ k,k<u.rows.length→joinHit z u k=false:=fun k hk=>by
   rw [hok,List.all_eq_true] at h
   simpa using h k (List.mem_range.2 hk)
  refine up_ext (hfwd h) (joinR_up hz hu _ (Nat.le_refl _)).1 fun m=>?_
  rw [joinR_mem hz hu hno _ (Nat.le_refl _),hp.mem_iff,List.mem_append,List.take_of_length_le (by rw [prs_len]; exact Nat.le_refl _)]
end Go.Proofs.YtpdfmcmnjikppaaGreat
namespace Go.Proofs.YtpdfmcmnjikppaaGreat
open Go.RowKit Go.Lib
theorem haveD_none {z:D} {t:D}:∀ k,k≤z.rows.length→(∀ j,j<z.rows.length→¬ ((gd (z.rows.getD j []) 0).int≤t.int∧t.int<(gd (z.rows.getD j []) 1).int))→haveD z t k=t
 | 0,_,_=>rfl
 | k+1,hk,h=>by
  rw [haveD,haveD_none k (by omega) h]
  have:=h k (by omega)
  rw [show (leI (gd (z.rows.getD k []) 0).int t.int&&ltI t.int (gd (z.rows.getD k []) 1).int)=false from by
   rw [← Bool.not_eq_true,Bool.and_eq_true]
   simp only [leI,ltI,decide_eq_true_eq]
   exact this]
  rfl
theorem have_one {z:D} {t e:D} (h:haveAll z [t,e]=true) (he:t.int<e.int):∃ j,j<z.rows.length∧(gd (z.rows.getD j []) 0).int≤t.int∧t.int<(gd (z.rows.getD j []) 1).int:=by
 apply Classical.byContradiction
 intro hno
 have hn:=haveD_none (z:=z) (t:=t) z.rows.length (Nat.le_refl _) fun j hj hc=>hno ⟨j,hj,hc⟩
 have h:leI e.int (haveD z t z.rows.length).int=true:=h
 rw [hn,leI,decide_eq_true_eq] at h
 omega
def outS (r:List D) (s:D):Bool:=anyS (fun rr=>ixfSIC (.l [[.l [sub r 0 2]]]) (sub rr 0 2)) s
theorem outS_iff {r:List D} {s:D}:outS r s=true↔∃ x∈s.rows,inB (gd x 0).int (gd r 0).int (w64 ((gd r 1).int - 1))=false:=by
 unfold outS anyS
 rw [List.any_eq_true]
 constructor
 ·rintro ⟨k,hk,h⟩
  have hk:=List.mem_range.1 hk
  refine ⟨s.rows.getD k [],by rw [getD_row hk]; exact List.getElem_mem hk,?_⟩
  have h:(!inB (gd (s.rows.getD k []) 0).int (gd r 0).int (w64 ((gd r 1).int - 1)))=true:=h
  simpa using h
 ·rintro ⟨x,hx,h⟩
  obtain ⟨k,hk,rfl⟩:=List.getElem_of_mem hx
  refine ⟨k,List.mem_range.2 hk,?_⟩
  rw [← getD_row hk] at h
  show (!inB (gd (s.rows.getD k []) 0).int (gd r 0).int (w64 ((gd r 1).int - 1)))=true
  rw [h]
  rfl
theorem cut_out {r:List D} {s:D} (hs:storeOk s=true) (hr:rangeOk (sub r 0 2)=true):ltI 0 ((scanD s (sub r 0 2) false).rows.length:Int)=outS r s:=by
 have e:(scanD s (sub r 0 2) false).rows=(s.rows.filter fun x=>inB (gd x 0).int (gd r 0).int (w64 ((gd r 1).int - 1))==false).map fun x=>sub x 0 2:=by
  unfold scanD
  rw [hs,show rangeOk (sub (sub r 0 2) 0 2)=rangeOk (sub r 0 2) from rfl,hr,Bool.and_self,cond_true,rows_l]
  exact kpL_rows s.rows (fun x=>inB (gd x 0).int (gd r 0).int (w64 ((gd r 1).int - 1))==false) (fun x=>sub x 0 2)
 rw [e,List.length_map,Bool.eq_iff_iff,outS_iff]
 unfold ltI
 rw [decide_eq_true_eq]
 constructor
 ·intro h
  obtain ⟨x,hx⟩:=List.exists_mem_of_length_pos (l:=s.rows.filter fun x=>inB (gd x 0).int (gd r 0).int (w64 ((gd r 1).int - 1))==false) (by omega)
  exact ⟨x,(List.mem_filter.1 hx).1,by simpa using (List.mem_filter.1 hx).2⟩
 ·rintro ⟨x,hx,h⟩
  have:=List.length_pos_of_mem (List.mem_filter.2 ⟨hx,by rw [h]; rfl⟩:x∈s.rows.filter fun x=>inB (gd x 0).int (gd r 0).int (w64 ((gd r 1).int - 1))==false)
  omega
theorem no_hits {p r:List D} {s:D} (hp:shardOk p=true) (hs:storeOk s=true) (hr:rangeOk (sub r 0 2)=true) (hout:outS r s=false) (hany:haveAnyB (gd p 1) (sub r 0 2)=false):∀ k,k<s.rows.length→joinHit (gd p 3) s k=false:=by
 intro k hk
 obtain ⟨_,_,_,_,_,hst,_,_⟩:=shard_lens hp
 rw [← Bool.not_eq_true,hit_iff hst]
 rintro ⟨a,ha,e⟩
 obtain ⟨i,hi,rfl⟩:=List.getElem_of_mem ha
 rw [prs_len] at hi
 rw [prs_at _ i hi] at e
 have e:keyAt (gd p 3) i=(gd (s.rows.getD k []) 0).int:=e
 have hkey:=(store_sorted hst).key i hi
 -- the shard has the key
 simp only [shardOk,Bool.and_eq_true] at hp
 obtain ⟨_,_,_,_,_,_,_,_,_,_,_,_,hc,_⟩:=hp
 simp only [shardA,List.all_eq_true,List.mem_range] at hc
 have hc:=hc i hi
 simp only [shardC2,rangesHave,Bool.and_eq_true] at hc
 have hh:=hc.2.2
 have hw:w64 ((gd ((gd p 3).rows.getD i []) 0).int+1)=(gd ((gd p 3).rows.getD i []) 0).int+1:=by
  have:keyAt (gd p 3) i=(gd ((gd p 3).rows.getD i []) 0).int:=rfl
  exact w64_id (by omega) (by omega)
 obtain ⟨j,hj,h1,h2⟩:=have_one hh (by rw [int_i,hw]; omega)
 -- and it lies in the range
 have hin:inB (gd (s.rows.getD k []) 0).int (gd r 0).int (w64 ((gd r 1).int - 1))=true:=by
  rw [← Bool.not_eq_false]
  intro hf
  have:=outS_iff.2 ⟨s.rows.getD k [],by rw [getD_row hk]; exact List.getElem_mem hk,hf⟩
  rw [hout] at this
  cases this
 simp only [rangeOk,Bool.and_eq_true,decide_eq_true_eq] at hr
 obtain ⟨r0,r1,r2⟩:0≤(gd r 0).int∧(gd r 0).int<(gd r 1).int∧(gd r 1).int≤1000:=⟨hr.1,hr.2.1,hr.2.2⟩
 rw [w64_id (by omega) (by omega)] at hin
 simp only [inB,Bool.and_eq_true,decide_eq_true_eq] at hin
 have hk0:keyAt (gd p 3) i=(gd ((gd p 3).rows.getD i []) 0).int:=rfl
 have:haveAnyB (gd p 1) (sub r 0 2)=true:=by
  unfold haveAnyB
  rw [List.any_eq_true]
  refine ⟨j,List.mem_range.2 hj,?_⟩
  show (bif ltI (gd r 0).int (gd ((gd p 1).rows.getD j []) 1).int then ltI (gd ((gd p 1).rows.getD j []) 0).int (gd r 1).int else false)=true
  rw [ltI_t (show (gd r 0).int<(gd ((gd p 1).rows.getD j []) 1).int by omega),cond_true]
  exact ltI_t (by omega)
 rw [hany] at this
 cases this
theorem newSum_0 {p:List D} (h:shardOk p=true):0≤newSum (gd p 3) (gd p 5) (gd p 5).rows.length:=by
 obtain ⟨_,_,_,_,_,hst,_,_⟩:=shard_lens h
 simp only [shardOk,shardSum,heldsOkS,Bool.and_eq_true,leI,decide_eq_true_eq,List.all_eq_true,List.mem_range] at h
 obtain ⟨_,_,_,_,_,_,_,_,h7,_,_,_,_,_,_,hw,_⟩:=h
 have:∀ k,k≤(gd p 5).rows.length→0≤newSum (gd p 3) (gd p 5) k:=fun k=>by
  induction k with
  | zero=>exact fun _=>Int.le_refl _
  | succ k ih =>
   intro hk
   have h1:=ih (by omega)
   have hr:heldRest p k=true:=by
    have:=hw k (by omega)
    cases k with
    | zero=>simp only [heldAtS,Bool.and_eq_true] at this; exact this.2
    | succ k=>simp only [heldAtS,Bool.and_eq_true] at this; exact this.2.2
   simp only [heldRest,Bool.and_eq_true] at hr
   rw [newSum]
   have:0≤storeNew (gd p 3) (gd ((gd p 5).rows.getD k []) 1):=by
    unfold storeNew
    rw [hst,hr.1]
    exact Int.natCast_nonneg _
   omega
 exact this _ (Nat.le_refl _)
theorem putP_len {t v:Int}:∀ {xs:List (Int × Int)},(∀ a∈xs,a.1≠t)→(lessK t xs).length+(moreK t xs).length=xs.length
 | [],_=>rfl
 | a::xs,h=>by
  have ih:=putP_len (t:=t) (v:=v) (xs:=xs) fun b hb=>h b (by simp [hb])
  have ha:=h a (by simp)
  unfold lessK moreK at ih ⊢
  rw [List.filter_cons,List.filter_cons]
  rcases Int.lt_or_gt_of_ne ha with h1 | h1
  ·simp [h1,show ¬ t<a.1 from by omega]; omega
  ·simp [show ¬ a.1<t from by omega,show t<a.1 from h1]; omega
theorem joinR_len {z u:D} (hz:storeOk z=true) (hu:storeOk u=true) (hno:∀ k,k<u.rows.length→joinHit z u k=false):∀ k,k≤u.rows.length→(joinR z u k).rows.length=z.rows.length+k
 | 0,_=>rfl
 | k+1,hk=>by
  have ih:=joinR_len hz hu hno k (by omega)
  have hm:=joinR_mem hz hu hno k (by omega)
  have hku:k<(prs u).length:=by rw [prs_len]; omega
  have et:(prs u).take (k+1)=(prs u).take k ++ [((gd (u.rows.getD k []) 0).int,(gd (u.rows.getD k []) 1).int)]:=by
   rw [List.take_add_one,List.getElem?_eq_getElem hku,prs_at u k (by omega)]
   rfl
  have hne:∀ a∈prs (joinR z u k),a.1≠(gd (u.rows.getD k []) 0).int:=fun a ha e=>by
   rcases (hm a).1 ha with h | h
   ·have:=(hit_iff (u:=u) hz (k:=k)).2 ⟨a,h,e⟩
    rw [hno k (by omega)] at this
    cases this
   ·have hp:=(((storeOk_iff u).1 hu).2.1).sublist (List.take_sublist (k+1) (prs u))
    rw [et,List.pairwise_append] at hp
    have:=hp.2.2 a h _ (List.mem_singleton.2 rfl)
    omega
  have hl:=putP_len (t:=(gd (u.rows.getD k []) 0).int) (v:=0) hne
  rw [prs_len] at hl
  rw [joinR,prD_len]
  unfold putP
  rw [cond_true,List.length_append,List.length_append,List.length_singleton]
  omega
theorem full_same {p r:List D} {s:D} (hp:shardOk p=true) (hs:storeOk s=true) (hr:rangeOk (sub r 0 2)=true) (hout:outS r s=false) (hany:haveAnyB (gd p 1) (sub r 0 2)=false) :
  (bif !(joinOk (gd p 3) s) then true else ltI 60 (w64 (((joinR (gd p 3) s s.rows.length).rows.length:Int)+newSum (gd p 3) (gd p 5) (gd p 5).rows.length)))=ltI 60 (w64 (roomOf p+(s.rows.length:Int)))∧(ltI 60 (w64 (roomOf p+(s.rows.length:Int)))=false→joinOk (gd p 3) s=true):=by
 obtain ⟨_,_,h5,_,_,hst,_,_⟩:=shard_lens hp
 have hno:=no_hits hp hs hr hout hany
 have l3:=(store_sorted hst).len
 have ls:=(store_sorted hs).len
 have n0:=newSum_0 hp
 have n1:=(newSum_in (gd p 3) (gd p 5) (gd p 5).rows.length).2
 have hj:joinOk (gd p 3) s=leI (((gd p 3).rows.length:Int)+(s.rows.length:Int)) 60:=by
  unfold joinOk
  rw [hst,hs,Bool.true_and,Bool.true_and,show ((List.range s.rows.length).all fun k => !joinHit (gd p 3) s k)=true from List.all_eq_true.2 fun k hk=>by rw [hno k (List.mem_range.1 hk)]; rfl,Bool.and_true]
 have hjl:=joinR_len hst hs hno s.rows.length (Nat.le_refl _)
 unfold roomOf
 rw [hj,hjl,w64_id (x:=(((gd p 3).rows.length+s.rows.length:Nat):Int)+newSum (gd p 3) (gd p 5) (gd p 5).rows.length) (by omega) (by omega),w64_id (x:=((gd p 3).rows.length:Int)+newSum (gd p 3) (gd p 5) (gd p 5).rows.length+(s.rows.length:Int)) (by omega) (by omega)]
 by_cases hb:((gd p 3).rows.length:Int)+(s.rows.length:Int)≤60
 ·rw [leI_t hb,Bool.not_true,cond_false]
  refine ⟨?_,fun _=>rfl⟩
  congr 1
  omega
 ·rw [leI_f (show (60:Int)<((gd p 3).rows.length:Int)+(s.rows.length:Int) by omega),Bool.not_false,cond_true,ltI_t (show (60:Int)<((gd p 3).rows.length:Int)+newSum (gd p 3) (gd p 5) (gd p 5).rows.length+(s.rows.length:Int) by omega)]
  exact ⟨rfl,fun h=>(by cases h)⟩
end Go.Proofs.YtpdfmcmnjikppaaGreat
namespace Go.Proofs
open Go.Shelf
def Tryz.sortC_ren:Go.Shelf.Ren:=⟨fun | 6=>224 | 15=>236 | 14=>258 | 28=>268 | 29=>269 | 20=>277 | 21=>278 | 22=>279 | 23=>280 | 24=>281 | 25=>282 | 26=>283 | 27=>284 | 46=>293 | 47=>288 | 48=>289 | 49=>294 | 50=>295 | 57=>299 | n=>n,fun | 22=>33 | 24=>108 | 25=>194 | 3=>3 | 39=>187 | 0=>0 | 53=>228 | 55=>230 | 4=>4 | 46=>222 | 45=>221 | 50=>128 | 5=>5 | 9=>9 | 66=>240 | 70=>244 | 76=>249 | 77=>250 | n=>n,fun | n=>n⟩
theorem Tryz.sortC:Go.Proofs.SlLaysF0.n6 Tryz.prog Tryz.sortC_ren:={ mixed:=by kernel_rfl,f6:=⟨Tryz.f224.name,by decide,Tryz.func224.trans (congrArg some (by kernel_rfl))⟩,f14:=⟨Tryz.f258.name,by decide,Tryz.func258.trans (congrArg some (by kernel_rfl))⟩,f15:=Tryz.func236.trans (congrArg some (by kernel_rfl)),f20:=⟨Tryz.f277.name,by decide,Tryz.func277.trans (congrArg some (by kernel_rfl))⟩,f21:=⟨Tryz.f278.name,by decide,Tryz.func278.trans (congrArg some (by kernel_rfl))⟩,f22:=⟨Tryz.f279.name,by decide,Tryz.func279.trans (congrArg some (by kernel_rfl))⟩,f23:=⟨Tryz.f280.name,by decide,Tryz.func280.trans (congrArg some (by kernel_rfl))⟩,f24:=⟨Tryz.f281.name,by decide,Tryz.func281.trans (congrArg some (by kernel_rfl))⟩,f25:=⟨Tryz.f282.name,by decide,Tryz.func282.trans (congrArg some (by kernel_rfl))⟩,f26:=⟨Tryz.f283.name,by decide,Tryz.func283.trans (congrArg some (by kernel_rfl))⟩,f27:=⟨Tryz.f284.name,by decide,Tryz.func284.trans (congrArg some (by kernel_rfl))⟩,f28:=Tryz.func268.trans (congrArg some (by kernel_rfl)),f29:=Tryz.func269.trans (congrArg some (by kernel_rfl)),f46:=⟨Tryz.f293.name,by decide,Tryz.func293.trans (congrArg some (by kernel_rfl))⟩,f47:=Tryz.func288.trans (congrArg some (by kernel_rfl)),f48:=Tryz.func289.trans (congrArg some (by kernel_rfl)),f49:=⟨Tryz.f294.name,by decide,Tryz.func294.trans (congrArg some (by kernel_rfl))⟩,f50:=⟨Tryz.f295.name,by decide,Tryz.func295.trans (congrArg some (by kernel_rfl))⟩,f57:=⟨Tryz.f299.name,by decide,Tryz.func299.trans (congrArg some (by kernel_rfl))⟩,t0:=Tryz.underlying0,a0:=Tryz.isAgg0,z0:=Tryz.sizeOf0,v0:=Tryz.zeroValue0,t3:=Tryz.underlying3,a3:=Tryz.isAgg3,z3:=Tryz.sizeOf3,v3:=Tryz.zeroValue3,t4:=Tryz.underlying4,a4:=Tryz.isAgg4,z4:=Tryz.sizeOf4,v4:=Tryz.zeroValue4,t5:=Tryz.underlying5,a5:=Tryz.isAgg5,z5:=Tryz.sizeOf5,v5:=Tryz.zeroValue5,t9:=Tryz.underlying9,a9:=Tryz.isAgg9,z9:=Tryz.sizeOf9,v9:=Tryz.zeroValue9,t22:=Tryz.underlying33,a22:=Tryz.isAgg33,z22:=Tryz.sizeOf33,v22:=Tryz.zeroValue33,t25:=Tryz.underlying194,a25:=Tryz.isAgg194,z25:=Tryz.sizeOf194,v25:=Tryz.zeroValue194,t39:=Tryz.underlying187,a39:=Tryz.isAgg187,z39:=Tryz.sizeOf187,v39:=Tryz.zeroValue187,t45:=Tryz.underlying221,a45:=Tryz.isAgg221,z45:=Tryz.sizeOf221,v45:=Tryz.zeroValue221,t46:=Tryz.underlying222,a46:=Tryz.isAgg222,z46:=Tryz.sizeOf222,v46:=Tryz.zeroValue222,t50:=Tryz.underlying128,a50:=Tryz.isAgg128,z50:=Tryz.sizeOf128,v50:=Tryz.zeroValue128,t53:=Tryz.underlying228,a53:=Tryz.isAgg228,z53:=Tryz.sizeOf228,v53:=Tryz.zeroValue228,t55:=Tryz.underlying230,a55:=Tryz.isAgg230,z55:=Tryz.sizeOf230,v55:=Tryz.zeroValue230,t66:=Tryz.underlying240,a66:=Tryz.isAgg240,z66:=Tryz.sizeOf240,v66:=Tryz.zeroValue240,t70:=Tryz.underlying244,a70:=Tryz.isAgg244,z70:=Tryz.sizeOf244,v70:=Tryz.zeroValue244,t76:=Tryz.underlying249,a76:=Tryz.isAgg249,z76:=Tryz.sizeOf249,v76:=Tryz.zeroValue249,t77:=Tryz.underlying250,a77:=Tryz.isAgg250,z77:=Tryz.sizeOf250,v77:=Tryz.zeroValue250 }
end Go.Proofs
namespace Go.Proofs.YtpdfmcmnjikppaaGreat
set_option maxRecDepth 100000
set_option maxHeartbeats 4000000
open Go.RowKit Go.Lib Go.Sort Go.Shelf
abbrev KC:Type:={x:Int × Int // 0≤x.1∧x.1≤999}
instance:Inhabited KC:=⟨⟨(0,0),by decide⟩⟩
def encC (x:KC):List Value:= [.int .i64 x.1.1,.int .i64 x.1.2]
def cfC (x y:KC):Int:=x.1.1 - y.1.1
theorem ltC (x y:KC):ltOf cfC x y=decide (x.1.1<y.1.1):=by
 unfold ltOf cfC
 rw [Bool.eq_iff_iff,decide_eq_true_eq,decide_eq_true_eq]
 omega
theorem swoC:SWO (ltOf cfC) where
 irrefl x:=by rw [ltC]; simp
 trans x y z h1 h2:=by rw [ltC] at *; simp at *; omega
 ntrans x y z h1 h2:=by rw [ltC] at *; simp at *; omega
theorem cmpC (x y:KC) (W:World):Calls Tryz.prog 225 #[.agg #[.int .i64 x.1.1,.int .i64 x.1.2],.agg #[.int .i64 y.1.1,.int .i64 y.1.2]] W fun e w'=>e=.returned (.int .i64 (cfC x y))∧∃ q os',w'=grow (W.drewN q) os':=by
 obtain ⟨⟨k1,v1⟩,h1⟩:=x
 obtain ⟨⟨k2,v2⟩,h2⟩:=y
 have hw:IntKind.i64.wrap (k1 - k2)=k1 - k2:=by rw [IntKind.wrap_i64]; omega
 show Calls _ _ #[.agg #[.int .i64 k1,.int .i64 v1],.agg #[.int .i64 k2,.int .i64 v2]] W fun e w'=>e=.returned (.int .i64 (k1 - k2))∧_
 clear h1 h2
 go_enter Tryz.func225,Tryz.ntmps225
 go_wp2
 go_ret
 exact ⟨rfl,0,_,by rw [alloc_eq_grow,alloc_eq_grow,grow_grow]; rfl⟩
theorem cmpLaysC (blk off size:Nat) (w:World):CmpLays Tryz.prog 225 #[] encC 2 cfC blk off size w:=
 fun _ _ _ _ x y=>cmpC x y _
def toKC (r:List D):KC:=if h:0≤(gd r 0).int∧(gd r 0).int≤999 then ⟨((gd r 0).int,(gd r 1).int),h⟩ else default
theorem toKC_of {r:List D} (h:0≤(gd r 0).int∧(gd r 0).int≤999):(toKC r).1=((gd r 0).int,(gd r 1).int):=by
 unfold toKC
 rw [dif_pos h]
def ofKC (x:KC):List D:= [.i x.1.1,.i x.1.2]
theorem flat_at (d:Array KC) (i j:Nat) (hi:i<d.size) (hj:j<2):(flatK encC 2 d)[i*2+j]?=some (.int .i64 (if j=0 then d[i].1.1 else d[i].1.2)):=by
 unfold flatK
 have hlt:i*2+j<d.size*2:=by omega
 rw [Array.getElem?_map,Array.getElem?_range,if_pos hlt]
 have e1:(i*2+j) / 2=i:=by omega
 have e2:(i*2+j) % 2=j:=by omega
 simp only [Option.map_some,e1,e2,getElem!_pos d i hi]
 have hjj:j=0∨j=1:=by omega
 rcases hjj with rfl | rfl <;> rfl
theorem flat_size (d:Array KC):(flatK encC 2 d).size=d.size*2:=by simp [flatK]
theorem row_cell2:rowOf Tryz.prog 108=some (rowN 2):=row_cell
theorem sortC_calls {w:World} {x:D} {u:Value} {B:Option Nat} (hO:OwnK w 108 (rowN 2) x.rows u B) (hk:∀ r∈x.rows,0≤(gd r 0).int∧(gd r 0).int≤999) (hl:x.rows.length≤1000000) :
  Calls Tryz.prog 224 #[u,.func (.func 225) #[] #[]] w fun e w' =>
   e=.returned (.tuple #[])∧∃ rows',Changed w w' B∧OwnK w' 108 (rowN 2) rows' u B∧(rows'.map pr).Perm (x.rows.map pr)∧(rows'.map pr).Pairwise (fun a b=>a.1≤b.1):=by
 rcases ownN_at hO with ⟨rfl,h0,A,rfl⟩ | ⟨b,cap,arr,rfl,rfl,hle,h63,hh,hs,hc⟩
 ·have:=AnyF.slices_SortFunc_none Tryz.sortC A 0 (.func (.func 225) #[] #[]) w
  refine this.mono ?_
  rintro e w' ⟨rfl,rfl⟩
  exact ⟨rfl,[],.refl _ _,.inl ⟨rfl,rfl,A,rfl⟩,by rw [h0],List.Pairwise.nil⟩
 ·obtain ⟨d,hd⟩:∃ d:Array KC,d=(x.rows.map toKC).toArray:=⟨_,rfl⟩
  have hdl:d.size=x.rows.length:=by rw [hd]; simp
  have hdi:∀ i (h:i<x.rows.length),(d[i]'(by omega)).1=((gd (x.rows.getD i []) 0).int,(gd (x.rows.getD i []) 1).int):=fun i h=>by
   have e:d[i]'(by omega)=toKC (x.rows.getD i []):=by
    subst hd
    rw [getD_row h]
    simp
   rw [e,toKC_of (by rw [getD_row h]; exact hk _ (List.getElem_mem h))]
  have hH:HoldsK encC 2 w b 0 d:=fun j hj=>by
   rw [flat_size] at hj
   have hj2:j / 2<x.rows.length:=by omega
   have ej:j / 2*2+j % 2=j:=by omega
   have hm:=Nat.mod_lt j (show 0<2 by omega)
   have h1:=hc (j / 2) (j % 2) hj2 hm
   have h2:=flat_at d (j / 2) (j % 2) (by omega) hm
   rw [ej] at h1 h2
   refine ⟨?_,by rw [Nat.zero_add]; exact unfrozen hh _⟩
   rw [Nat.zero_add,cell_at hh,h1,getElem!_def,h2]
   have hmm:j % 2=0∨j % 2=1:=by omega
   rcases hmm with hm0 | hm0 <;> simp [hm0,hdi (j / 2) hj2]
  have:=AnyQ.slices_SortFunc Tryz.sortC 2 Tryz.isAgg108 Tryz.sizeOf108 encC (fun _=>rfl) (fun x v hv=>by simp [encC] at hv; rcases hv with rfl | rfl <;> rfl) cfC swoC 225 #[] b 0 cap d w (enters Tryz.func225) (cmpLaysC b 0 d.size w) hH (lt_of_heap hh) (by omega)
  rw [hdl] at this
  refine this.mono ?_
  rintro e w' ⟨rfl,d',n,os,hp,hsrt,rfl⟩
  refine ⟨rfl,d'.toList.map ofKC,?_⟩
  obtain ⟨p1,_,p3⟩:=hp
  have hds:d'.size=x.rows.length:=p1.trans hdl
  have hb:=lt_of_heap hh
  have q1:(sortWorldK encC 2 w b 0 n d' os).heap=w.heap.modify b (onCells (putCells id 0 (flatK encC 2 d')))++os:=rfl
  have q2:∀ k,k<w.heap.size→(sortWorldK encC 2 w b 0 n d' os).heap[k]?=if b=k then (w.heap[k]?).map (onCells (putCells id 0 (flatK encC 2 d'))) else w.heap[k]?:=fun k hk=>by
   rw [q1,Array.getElem?_append_left (by simpa using hk),Array.getElem?_modify]
  have hprd:(d'.toList.map ofKC).map pr=d'.toList.map (·.1):=by
   rw [List.map_map]
   rfl
  have hprx:x.rows.map pr=d.toList.map (·.1):=by
   apply List.ext_getElem
   ·simp [hdl]
   ·intro i h1 h2
    have hi:i<x.rows.length:=by simpa using h1
    rw [List.getElem_map,List.getElem_map]
    have:=hdi i hi
    rw [getD_row hi] at this
    show ((gd x.rows[i] 0).int,(gd x.rows[i] 1).int)=_
    simpa using this.symm
  have hfull:∀ a:Array KC,a.extract 0 a.size=a:=fun a=>by simp
  rw [hprd,hprx]
  refine ⟨⟨rfl,rfl,rfl,by rw [q1]; simp,fun k hk hne=>by rw [q2 k hk,if_neg (fun e=>hne (by rw [e]))]⟩,?_,?_,?_⟩
  ·have:=ownN_mk (w:=sortWorldK encC 2 w b 0 n d' os) (e:=108) (k:=2) (rows:=d'.toList.map ofKC) (b:=b) (cap:=cap) (arr:=putCells id 0 (flatK encC 2 d') arr) (by rw [q2 b hb,if_pos rfl,hh]; rfl) (by simp [putCells,hs]) (by simpa [hds] using hle) h63 (fun i j hi hj=>by
    have hi:i<d'.size:=by simpa using hi
    have hlt:i*2+j<arr.size:=by omega
    unfold putCells
    rw [Array.getElem?_mapIdx,Array.getElem?_eq_getElem hlt]
    have hin:0≤i*2+j∧i*2+j<0+(flatK encC 2 d').size:=by rw [flat_size]; omega
    simp only [Option.map_some,if_pos hin,Nat.sub_zero,id]
    rw [getElem!_def,flat_at d' i j hi hj]
    have hjj:j=0∨j=1:=by omega
    have eg:(d'.toList.map ofKC).getD i []=ofKC d'[i]:=by
     rw [getD_row (by simpa using hi)]
     simp
    rw [eg]
    rcases hjj with rfl | rfl <;> rfl)
   simpa [hds] using this
  ·have p3':(d'.extract 0 d'.size).toList.Perm (d.extract 0 d.size).toList:=by
    rw [p1,hdl]
    exact p3
   rw [hfull,hfull] at p3'
   exact p3'.map _
  ·rw [List.pairwise_map]
   refine List.pairwise_iff_getElem.2 fun i j hi hj hij=>?_
   have hi:i<d'.size:=by simpa using hi
   have hj:j<d'.size:=by simpa using hj
   have:=hsrt i j (Nat.zero_le _) hij (by omega)
   rw [getElem!_pos d' i hi,getElem!_pos d' j hj,ltC,decide_eq_false_iff_not] at this
   show (d'.toList[i]).1.1≤(d'.toList[j]).1.1
   simp only [Array.getElem_toList]
   omega
end Go.Proofs.YtpdfmcmnjikppaaGreat
namespace Go.Proofs
open Go.Shelf
def Tryz.growC_ren:Go.Shelf.Ren:=⟨fun | 4=>257 | n=>n,fun | 22=>33 | 25=>108 | 3=>3 | 4=>4 | 9=>9 | 20=>20 | 0=>0 | n=>n,fun | n=>n⟩
theorem Tryz.growC:Go.Proofs.Lays8.n4 Tryz.prog Tryz.growC_ren:={ mixed:=by kernel_rfl,f4:=⟨Tryz.f257.name,by decide,Tryz.func257.trans (congrArg some (by kernel_rfl))⟩,t0:=Tryz.underlying0,a0:=Tryz.isAgg0,z0:=Tryz.sizeOf0,v0:=Tryz.zeroValue0,t3:=Tryz.underlying3,a3:=Tryz.isAgg3,z3:=Tryz.sizeOf3,v3:=Tryz.zeroValue3,t4:=Tryz.underlying4,a4:=Tryz.isAgg4,z4:=Tryz.sizeOf4,v4:=Tryz.zeroValue4,t9:=Tryz.underlying9,a9:=Tryz.isAgg9,z9:=Tryz.sizeOf9,v9:=Tryz.zeroValue9,t20:=Tryz.underlying20,a20:=Tryz.isAgg20,z20:=Tryz.sizeOf20,v20:=Tryz.zeroValue20,t22:=Tryz.underlying33,a22:=Tryz.isAgg33,z22:=Tryz.sizeOf33,v22:=Tryz.zeroValue33 }
end Go.Proofs
namespace Go.Proofs.YtpdfmcmnjikppaaGreat
set_option maxRecDepth 100000
set_option maxHeartbeats 4000000
open Go.RowKit Go.Lib
def i_growCE:Ent:=(257,e2 (.one (.c (.own (0,0) true 108))) ri fun p q=>(⟨.one (.c (.own (0,0) true 108)),[.l []]⟩,leI 0 (gd q 0).int&&leI (gd q 0).int 1000000000))
theorem i_growC_ok:EntOk Tryz.prog i_growCE:=e2_ok fun p q h=>by
 have h:(leI 0 (gd q 0).int&&leI (gd q 0).int 1000000000)=true:=h
 simp only [Bool.and_eq_true,leI,decide_eq_true_eq] at h
 have hrow:rowOf Tryz.prog 108=some (List.replicate 2 (.int .i64)):=by kernel_rfl
 refine SoundFn.of rfl ⟨enters Tryz.func257 (by kernel_rfl) (by kernel_rfl),fun w prot vs hargs hfr=>?_⟩
 obtain ⟨u,hu,hv⟩:=hargs.2 0 _ rfl
 obtain ⟨u1,hu1,hv1⟩:=hargs.2 1 _ rfl
 have hvs:vs = #[u,u1]:=by
  have hs:vs.size=2:=hargs.1
  refine Array.ext (by simpa using hs) fun i h1 h2=>?_
  have:i=0∨i=1:=by omega
  rcases this with rfl | rfl
  ·rw [Array.getElem?_eq_getElem h1] at hu
   injection hu
  ·rw [Array.getElem?_eq_getElem h1] at hu1
   injection hu1
 subst hvs
 have hv1:VD Tryz.prog w prot (.int .i64) (gd q 0) u1:=hv1
 obtain ⟨row,_,hown⟩:=hv
 generalize gd q 0=y at *
 cases hv1
 rcases hown with ⟨_,_,A,rfl⟩ | ⟨_,_,_,_,_,_,_,ho,_⟩
 ·obtain ⟨n,hn⟩:∃ n:Nat,y.int=n:=⟨y.int.toNat,by omega⟩
  rw [hn]
  rcases Nat.eq_zero_or_pos n with rfl | hpos
  ·refine (Any8.slices_Grow_room Tryz.growC A 0 0 0 w (by omega) (by omega) (by omega) (by omega)).mono ?_
   rintro ex w' ⟨rfl,rfl⟩
   exact ⟨_,g0 0 prot,rfl,Below.refl _ _,⟨_,hrow,.inl ⟨rfl,rfl,A,rfl⟩⟩,fun _ _=>rfl,fun b hb'=>⟨hfr b hb',rfl⟩⟩
  ·obtain ⟨i0,hi0,hz0,hs0,hby⟩:=info_parts (P:=Tryz.prog) (e:=108) (z:=.agg #[.int .i64 0,.int .i64 0]) (size:=2) (bytes:=16) (by kernel_rfl)
   obtain ⟨z,hz⟩:∃ z,z=Value.agg #[.int .i64 0,.int .i64 0]:=⟨_,rfl⟩
   have hzc:z.cells.size=2:=by rw [hz]; rfl
   rw [← hz] at hz0
   refine (Any8.slices_Grow_grow Tryz.growC i0 z hi0 hz0 (by omega) A 0 0 n [] w (by omega) (by omega) (by rw [hby]; omega) (by omega) (by simp) (fun _=>rfl) (fun a _ j v hj=>by simp at hj)).mono ?_
   rintro ex w' ⟨rfl,rfl⟩
   have hge:=grownCap_ge w (0+n) 0 108
   have hcm:=grownCap_le_maxLen w (0+n) 0 108 (by unfold maxLen; omega)
   obtain ⟨g',hg⟩:=res_cellsW (k:=2) (x:=.l []) (prot:=prot) (w:=w) (w':=w.drew.alloc (.cells ((#[]:Array Value)++Builtin.zeroCells z.cells (0+n - 0)++Builtin.zeroCells z.cells (grownCap w (0+n) 0 108 - (0+n))) 108)) hrow hfr
    ⟨rfl,rfl,rfl,by simp,fun k hk=>Below.heap_alloc w.drew _ k hk⟩ (v:=.slice (some ⟨w.heap.size,0,none⟩) 0 (grownCap w (0+n) 0 108)) ⟨rfl,.inr ⟨w.heap.size,_,_,rfl,Nat.le_refl _,(by letI:Low:=noLow; exact heap_new w.drew _),Nat.zero_le _,hcm,(by simp only [Nat.zero_add] at hge; simp [size_zeroCells,hzc]; omega),rfl⟩⟩
   exact ⟨_,g',rfl,hg⟩
 ·cases ho
end Go.Proofs.YtpdfmcmnjikppaaGreat
namespace Go.Proofs.YtpdfmcmnjikppaaGreat
set_option maxRecDepth 4096
set_option maxHeartbeats 1000000
abbrev i_ConcatCT:FuncId→List T→Option (T × Bool):=find [i_growCE]
theorem i_ConcatCT_ok:CallOk Tryz.prog i_ConcatCT:=find_ok (fC ⟨i_growC_ok,fN⟩)
abbrev i_ConcatCK:List Nat:= [0,2,3,5,6,8,9,10,11,12,20,25,26,27,28]
noncomputable def i_ConcatCL0 (N:Nat) (p:List D):List D→Out:=loopOf Tryz.prog i_ConcatCT N i_ConcatCK Tryz.f223 (.one (.c (.own (0,0) true 108))) [⟨sd (.sl 33),p⟩] 0
noncomputable def i_ConcatCL2 (N:Nat) (p:List D):List D→Out:=loopOf Tryz.prog i_ConcatCT N i_ConcatCK Tryz.f223 (.one (.c (.own (0,0) true 108))) [⟨sd (.sl 33),p⟩] 2
theorem i_ConcatCR0 (N:Nat) (p:List D) (x0 x1 x2 x3 x4 x5:D):(i_ConcatCL0 N p) [x0,x1,x2,x3,x4,x5] =
 bif ltI x5.int x4.int then nd (inRange x5.int x3.rows.length) (bif ltI (w64 (x2.int+((gd (x3.rows.getD x5.int.toNat []) 0).rows.length:Int))) 0 then nd false (nd false (nx [x0,x1,.i (w64 (x2.int+((gd (x3.rows.getD x5.int.toNat []) 0).rows.length:Int))),x3,x4,.i (w64 (x5.int+1))]))
 else nx [x0,x1,.i (w64 (x2.int+((gd (x3.rows.getD x5.int.toNat []) 0).rows.length:Int))),x3,x4,.i (w64 (x5.int+1))])
 else ex 0 [x0,x1,x2,x3,x4,x5]:=by kernel_rfl
theorem i_ConcatCR2 (N:Nat) (p:List D) (x0 x1 x2 x3 x4 x5 x6 x7 x8 x9:D):(i_ConcatCL2 N p) [x0,x1,x2,x3,x4,x5,x6,x7,x8,x9] =
 bif ltI x9.int x8.int then nd (inRange x9.int x7.rows.length) (nd (lenOk (x6.rows++(gd (x7.rows.getD x9.int.toNat []) 0).rows)&&true) (nx [x0,x1,x2,x3,x4,x5,.l (x6.rows++(gd (x7.rows.getD x9.int.toNat []) 0).rows),x7,x8,.i (w64 (x9.int+1))]))
 else ex 2 [x0,x1,x2,x3,x4,x5,x6,x7,x8,x9]:=by kernel_rfl
theorem i_ConcatC_ev (N:Nat) (p:List D):evFn Tryz.prog i_ConcatCT N i_ConcatCK Tryz.f223 (.one (.c (.own (0,0) true 108))) [⟨sd (.sl 33),p⟩]=some (bo,
 (let o0:=iter (i_ConcatCL0 N p) N [gd p 0,.l [],.i 0,gd p 0,.i ((gd p 0).rows.length:Int),.i 0]
  nd o0.isSome (nd (o0.code==2) (nd (leI 0 (gd o0.pay 2).int&&leI (gd o0.pay 2).int 1000000000) ((let o2:=iter (i_ConcatCL2 N p) N [gd o0.pay 0,gd o0.pay 1,gd o0.pay 2,gd o0.pay 3,gd o0.pay 4,gd o0.pay 5,.l [],gd o0.pay 0,.i ((gd o0.pay 0).rows.length:Int),.i 0]
  nd o2.isSome (nd (o2.code==4) (some (1,[gd o2.pay 6]))))))))):=by kernel_rfl
def i_ConcatCE:Ent:=(223,e1 (sd (.sl 33)) fun p=>(⟨.one (.c (.own (0,0) true 108)),[concD (gd p 0)]⟩,concOk (gd p 0)))
theorem i_ConcatC_ok:EntOk Tryz.prog i_ConcatCE:=e1_ok fun p h=>evFn_sound (N:=3) (ks:=i_ConcatCK) (key:=bo) i_ConcatCT_ok (enters Tryz.func223) Tryz.func223 fun hw=>by
 rw [i_ConcatC_ev]
 have h:concOk (gd p 0)=true:=h
 unfold concOk at h
 simp only [Bool.and_eq_true,leI,decide_eq_true_eq,beq_iff_eq] at h
 obtain ⟨hl,h0,h1⟩:=h
 have hlen:∀ k,k<(gd p 0).rows.length→((gd ((gd p 0).rows.getD k []) 0).rows.length:Int)≤100000000:=fun k hk=>by
  have:k=0∨k=1:=by omega
  rcases this with rfl | rfl <;> assumption
 have s0:∀ (k:Nat) (s:Int),k<(gd p 0).rows.length→0≤s→s≤100000000→i_ConcatCL0 3 p [gd p 0,.l [],.i s,gd p 0,.i ((gd p 0).rows.length:Int),.i (k:Int)]=nx [gd p 0,.l [],.i (s+((gd ((gd p 0).rows.getD k []) 0).rows.length:Int)),gd p 0,.i ((gd p 0).rows.length:Int),.i ((k+1:Nat):Int)]:=fun k s hk hs1 hs2=>by
  have:=hlen k hk
  rw [i_ConcatCR0]
  simp only [int_i,c_lt hk,nd_ix hk,Int.toNat_natCast]
  rw [w64_id (by omega) (by omega),ltI_f (by omega),cond_false,w64_succ hk (by omega)]
 have s2:∀ (k:Nat) (x2 x3 x4 x5:D) (rs:List (List D)),k<(gd p 0).rows.length→rs.length≤100000000→i_ConcatCL2 3 p [gd p 0,.l [],x2,x3,x4,x5,.l rs,gd p 0,.i ((gd p 0).rows.length:Int),.i (k:Int)]=nx [gd p 0,.l [],x2,x3,x4,x5,.l (rs++(gd ((gd p 0).rows.getD k []) 0).rows),gd p 0,.i ((gd p 0).rows.length:Int),.i ((k+1:Nat):Int)]:=fun k x2 x3 x4 x5 rs hk hrs=>by
  have:=hlen k hk
  rw [i_ConcatCR2]
  simp only [int_i,rows_l,c_lt hk,nd_ix hk,Int.toNat_natCast]
  rw [lenOk_t (by rw [List.length_append]; omega),w64_succ hk (by omega)]
  rfl
 have e0:iter (i_ConcatCL0 3 p) 3 [gd p 0,.l [],.i 0,gd p 0,.i ((gd p 0).rows.length:Int),.i 0]=some (2,[gd p 0,.l [],.i (0+((gd ((gd p 0).rows.getD 0 []) 0).rows.length:Int)+((gd ((gd p 0).rows.getD 1 []) 0).rows.length:Int)),gd p 0,.i ((gd p 0).rows.length:Int),.i ((gd p 0).rows.length:Int)]):=by
  refine Eq.trans (iter_nx (n:=2) (s0 0 0 (by omega) (by omega) (by omega))) (Eq.trans (iter_nx (n:=1) (s0 1 _ (by omega) (by omega) (by omega))) ?_)
  have e:((1+1:Nat):Int)=((gd p 0).rows.length:Int):=by omega
  rw [e]
  refine iter_ex (c:=1) ?_
  rw [i_ConcatCR0]
  simp only [int_i,c_nlt]
 have e2:∀ (x2 x3 x4 x5:D),iter (i_ConcatCL2 3 p) 3 [gd p 0,.l [],x2,x3,x4,x5,.l [],gd p 0,.i ((gd p 0).rows.length:Int),.i 0]=some (4,[gd p 0,.l [],x2,x3,x4,x5,.l ([]++(gd ((gd p 0).rows.getD 0 []) 0).rows++(gd ((gd p 0).rows.getD 1 []) 0).rows),gd p 0,.i ((gd p 0).rows.length:Int),.i ((gd p 0).rows.length:Int)]):=fun x2 x3 x4 x5=>by
  refine Eq.trans (iter_nx (n:=2) (s2 0 x2 x3 x4 x5 [] (by omega) (by simp))) (Eq.trans (iter_nx (n:=1) (s2 1 x2 x3 x4 x5 _ (by omega) (by have:=hlen 0 (by omega); rw [List.nil_append]; omega))) ?_)
  have e:((1+1:Nat):Int)=((gd p 0).rows.length:Int):=by omega
  rw [e]
  refine iter_ex (c:=3) ?_
  rw [i_ConcatCR2]
  simp only [int_i,c_nlt]
 refine congrArg (fun x=>some (bo,x)) ?_
 simp only [e0,nd,cond_true,cond_false,Option.isSome_some,Out.code,Out.pay,Option.getD_some,gd_cons_zero,gd_cons_succ,Nat.reduceBEq,Nat.reduceAdd,int_i,bool_b,str_s,rows_l,Bool.not_true,Bool.not_false,beq_self_eq_true]
 rw [leI_t (by omega),leI_t (by omega)]
 simp only [e2,nd,cond_true,cond_false,Option.isSome_some,Out.code,Out.pay,Option.getD_some,gd_cons_zero,gd_cons_succ,Nat.reduceBEq,Nat.reduceAdd,int_i,bool_b,str_s,rows_l,Bool.not_true,Bool.not_false,beq_self_eq_true,Bool.and_self]
 rw [List.nil_append]
 rfl
end Go.Proofs.YtpdfmcmnjikppaaGreat
