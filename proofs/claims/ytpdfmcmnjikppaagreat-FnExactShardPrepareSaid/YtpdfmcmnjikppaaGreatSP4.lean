/-
 Texts of the proof,put together: part 4.
-/
import Derived.Test.YtpdfmcmnjikppaaGreatSP1
import Derived.Test.YtpdfmcmnjikppaaGreatSP2
import Derived.Test.YtpdfmcmnjikppaaGreatSP3
import Derived.Test.YtpdfmcmnjikppaaGreatProg
import Derived.WalkKit
import Derived.ProofKit
import Derived.Shelf.RegionOpenPlain
import Derived.Deep.RegionLaw
import Derived.Deep.LoopGhost
import Derived.Lib.SliceRun
import Derived.Lib.AppendZerosOnto
import Derived.Lib.Hide
import Derived.OwnWalk
import Derived.Laws.IdiomCopy
import Derived.Shelf.Spec.SlicesInsert
set_option linter.unusedSimpArgs false
set_option linter.unusedVariables false
set_option linter.unusedSectionVars false
namespace Go.Proofs.YtpdfmcmnjikppaaGreat
set_option maxRecDepth 100000
set_option maxHeartbeats 4000000
open Go.RowKit Go.Lib
def cellsW (k:Nat):List (List D)→List Value
 | [] => []
 | r::rs=>(List.range k).map (fun j=>.int .i64 (gd r j).int)++cellsW k rs
theorem cellsW_len (k:Nat):∀ rows,(cellsW k rows).length=rows.length*k
 | []=>by simp [cellsW]
 | r::rs=>by
  simp only [cellsW,List.length_append,List.length_map,List.length_range,cellsW_len k rs,List.length_cons,Nat.add_mul]
  omega
theorem cellsW_get (k:Nat):∀ (rows:List (List D)) (i j:Nat),i<rows.length→j<k→(cellsW k rows)[i*k+j]?=some (.int .i64 (gd (rows.getD i []) j).int)
 | [],i,j,h,_=>by simp at h
 | r::rs,0,j,_,hj=>by
  rw [cellsW,Nat.zero_mul,Nat.zero_add,List.getElem?_append_left (by simpa using hj)]
  simp [hj]
 | r::rs,i+1,j,h,hj=>by
  have:=cellsW_get k rs i j (by simpa using h) hj
  rw [cellsW,List.getElem?_append_right (by simp only [List.length_map,List.length_range,Nat.add_mul]; omega)]
  simp only [List.length_map,List.length_range]
  rw [show (i+1)*k+j - k=i*k+j from by rw [Nat.add_mul]; omega,this]
  rfl
theorem cellsW_all {k:Nat} {F:Nat→Value→Prop} {rows:List (List D)} (h:∀ i j,i<rows.length→j<k→F (i*k+j) (.int .i64 (gd (rows.getD i []) j).int)) {m:Nat} {v:Value} (hm:(cellsW k rows)[m]?=some v):F m v:=by
 have hlt:=(List.getElem?_eq_some_iff.1 hm).1
 rw [cellsW_len] at hlt
 have hk:0<k:=by
  rcases Nat.eq_zero_or_pos k with e | e
  ·subst e; simp at hlt
  ·exact e
 have hi:m / k<rows.length:=by rw [Nat.div_lt_iff_lt_mul hk]; exact hlt
 have hj:=Nat.mod_lt m hk
 have e:m / k*k+m % k=m:=by rw [Nat.mul_comm]; exact Nat.div_add_mod m k
 have h1:=cellsW_get k rows (m / k) (m % k) hi hj
 have h2:=h (m / k) (m % k) hi hj
 rw [e] at h1 h2
 rw [hm] at h1
 injection h1 with h1
 rw [h1]; exact h2
theorem cellsW_one (k:Nat) (rows:List (List D)):∀ v∈cellsW k rows,v.oneCell'=true:=fun v hv=>by
 obtain ⟨m,hm⟩:=List.getElem?_of_mem hv
 exact cellsW_all (F:=fun _ v=>v.oneCell'=true) (fun i j _ _=>rfl) hm
theorem vd_cellsW {P:Program} {w:World} {prot:Nat→Nat} {x:D} {v:Value} {e:TypeId} {k:Nat} (hrow:rowOf P e=some (List.replicate k (.int .i64))) (hk:0<k) (h:VD P w prot (.sl e) x v):∃ A c,v=.slice A x.rows.length c∧x.rows.length≤c∧c≤9223372036854775807 ∧
  (0<x.rows.length→∃ b o,A=some ⟨b,o,none⟩)∧∀ b o,A=some ⟨b,o,none⟩→∀ m v,(cellsW k x.rows)[m]?=some v→w.cell? ⟨b,o+m,none⟩=some v∧o+m<prot b:=by
 cases h with
 | sl e d A c row u hr h1 h2 h3 h4 =>
  rw [hrow] at hr
  injection hr with hr
  subst hr
  simp only [List.length_replicate] at h3 h4
  refine ⟨A,c,rfl,h1,h2,fun h0=>?_,fun b o hA m v hm=>?_⟩
  ·obtain ⟨b,o,hA,_⟩:=h3 0 0 h0 hk
   exact ⟨b,o,hA⟩
  ·subst hA
   refine cellsW_all (F:=fun m v=>w.cell? ⟨b,o+m,none⟩=some v∧o+m<prot b) (fun i j hi hj=>?_) hm
   obtain ⟨b',o',hA,hc,hp⟩:=h3 i j hi hj
   injection hA with hA
   injection hA with e1 e2 _
   subst e1; subst e2
   have hv:=h4 i j (.int .i64) hi (by simp [hj])
   generalize u i j=z at *
   cases hv
   exact ⟨hc,hp⟩
theorem res_cellsW {P:Program} {prot:Nat→Nat} {w w':World} {x:D} {v:Value} {e:TypeId} {k:Nat} (hrow:rowOf P e=some (List.replicate k (.int .i64))) (hfr:∀ b,w.heap.size≤b→prot b=0) (hb:Below w.heap.size w w') (ho:w'.ownsRow w.heap.size e k v x.rows.length (cellsW k x.rows)) :
  ∃ g',Res P prot w w' ⟨.one (.c (.own (0,0) true e)),[x]⟩ v g':=by
 obtain ⟨hl,⟨rfl,h0⟩ | ⟨blk,cap,cur,rfl,hblk,hh,hcap,hmax,hsz,htk⟩⟩:=ho
 ·exact ⟨g0 0 prot,hb,⟨_,hrow,.inl ⟨List.eq_nil_of_length_eq_zero h0,rfl,none,rfl⟩⟩,fun _ _=>rfl,fun b hb'=>⟨hfr b (Nat.le_trans hb.size hb'),rfl⟩⟩
 ·refine ⟨⟨prot,fun b=>if b=blk then some (.inr (0,0)) else none,fun _=>0,fun _=>blk,fun _=>x.rows.length,fun _=>k,fun _=>e,fun _ => [],fun _=>0,fun _=>False⟩,hb,⟨_,hrow,.inr ⟨cap,cur,e,rfl,hcap,⟨by unfold maxLen at hmax; omega,rfl,rfl⟩,hblk,if_pos rfl,hh,by simpa using hsz,rfl,by simp,?_,?_⟩⟩,fun _ _=>rfl,fun b hb'=>⟨hfr b (Nat.le_trans hb.size hb'),?_⟩⟩
  ·show prot blk=0
   exact hfr blk hblk
  ·intro i j s hi hs
   have hi:i<x.rows.length:=hi
   obtain ⟨hj,rfl⟩:j<k∧S.int .i64=s:=by
    obtain ⟨hj,h2⟩:=List.getElem?_eq_some_iff.1 hs
    exact ⟨by simpa using hj,by simpa using h2⟩
   have q:=cellsW_get k x.rows i j hi hj
   have hlt:i*k+j<x.rows.length*k:=by
    have:=(List.getElem?_eq_some_iff.1 q).1
    rw [cellsW_len] at this
    exact this
   rw [← htk,List.getElem?_take,if_pos hlt] at q
   exact ⟨.int .i64 (gd (x.rows.getD i []) j).int,by simpa using q,.of_vd (.int .i64 _) (.inr rfl)⟩
  ·have:=lt_of_heap hh
   exact if_neg (by omega)
theorem rowW_Range:rowOf Tryz.prog 41=some (List.replicate 2 (.int .i64)):=by kernel_rfl
abbrev zcW_Range:Value:=(.agg #[.int .i64 0,.int .i64 0])
theorem infoW_Range:(Tryz.prog.info? 41).map (fun i=>(i.zero,i.size,i.bytes))=some (some zcW_Range,2,16):=by kernel_rfl
theorem cloneW_Range (a:Addr) (n c:Nat) (news:List Value) (w:World) (hl:news.length=n*2) (hn:n≤2000000) (hc:∀ j u,news[j]?=some u→w.cell? (a.add j)=some u) (h1:∀ u∈news,u.oneCell'=true) :
  Calls Tryz.prog 179 #[.slice (some a) n c] w fun e w'=>∃ v',e=.returned v'∧w'.ownsRow w.heap.size 41 2 v' n news∧Below w.heap.size w w':=by
 obtain ⟨i0,hi0,hz0,hzs,hzb⟩:=info_parts infoW_Range
 have mixed:Tryz.prog.follows .mixedOrders=true:=by kernel_rfl
 have q22:∀ (w:World) (a:Option Addr) (n c n' c':Nat),(binOp .eql 32 (.slice a n c) (.slice none n' c')).run Tryz.prog w=.ok (.bool a.isNone) w:=fun w a n c n' c'=>Lib.run_eql_slice_nil w _ _ a n c n' c' Tryz.underlying32
 have A:Aside (∀ j u,news[j]?=some u→w.cell? (a.add j)=some u):=hc
 clear hc
 go_enter Tryz.func179,Tryz.ntmps179
 go_wp2_with (at_builtin; refine wpList_append_own _ rfl _ _ 32 rfl w.heap.size 41 i0 zcW_Range 2 16 Tryz.underlying32 hi0 hz0 hzs hzb rfl (by decide) _ _ _ rfl (World.ownsRow_made w #[] 0 (Nat.le_refl _) (Nat.zero_le _) (by simp)) a n c news rfl ?qc1 ?qc2 ?qc3 ?qc4 ?qc5 ?qc6 ?_)
 case qc1=>exact hl
 case qc2 =>
  intro j u hj
  exact Lib.cell?_alloc_some _ (A.out j u hj)
 case qc3=>exact h1
 case qc4=>rw [Nat.zero_add]; unfold maxLen; omega
 case qc5=>rw [Nat.zero_add]; omega
 case qc6=>simp
 intro v' w1 hown hgrow hnil
 go_wp2
 go_ret
 refine ⟨v',rfl,by simpa using hown,?_⟩
 exact ((Below.refl _ w).alloc (Nat.le_refl _) _).grown hgrow (by simp) (by intro k hk; simp [Value.ownBlock] at hk; omega)
theorem cloneWn_Range (n c:Nat) (w:World) :
  Calls Tryz.prog 179 #[.slice none n c] w fun e w'=>e=.returned (.slice none 0 0)∧w'=w:=by
 have mixed:Tryz.prog.follows .mixedOrders=true:=by kernel_rfl
 have q22:∀ (w:World) (a:Option Addr) (n c n' c':Nat),(binOp .eql 32 (.slice a n c) (.slice none n' c')).run Tryz.prog w=.ok (.bool a.isNone) w:=fun w a n c n' c'=>Lib.run_eql_slice_nil w _ _ a n c n' c' Tryz.underlying32
 go_enter Tryz.func179,Tryz.ntmps179
 go_wp2
 go_ret
 exact ⟨rfl,rfl⟩
def i_clonRangeE:Ent:=(179,e1 (sd (.sl 41)) fun p=>(⟨.one (.c (.own (0,0) true 41)),[.l (gd p 0).rows]⟩,leI ((gd p 0).rows.length:Int) 2000000))
theorem i_clonRange_ok:EntOk Tryz.prog i_clonRangeE:=e1_ok fun p h=>by
 have h:leI ((gd p 0).rows.length:Int) 2000000=true:=h
 simp only [leI,decide_eq_true_eq] at h
 refine SoundFn.of rfl ⟨enters Tryz.func179 (by kernel_rfl) (by kernel_rfl),fun w prot vs hargs hfr=>?_⟩
 obtain ⟨u,hu,hv⟩:=hargs.2 0 _ rfl
 have hvs:vs = #[u]:=by
  have hs:vs.size=1:=hargs.1
  refine Array.ext (by simpa using hs) fun i h1 h2=>?_
  have:i=0:=by omega
  subst this
  rw [Array.getElem?_eq_getElem h1] at hu
  injection hu
 subst hvs
 have hv:VD Tryz.prog w prot (.sl 41) (gd p 0) u:=hv
 generalize gd p 0=x at *
 obtain ⟨A,c,rfl,h1,h2,h3,h4⟩:=vd_cellsW rowW_Range (by decide) hv
 cases A with
 | none =>
  have h0:x.rows.length=0:=by
   rcases Nat.eq_zero_or_pos x.rows.length with h' | h'
   ·exact h'
   ·obtain ⟨b,o,hA⟩:=h3 h'
    cases hA
  have hx0:x.rows = []:=List.eq_nil_of_length_eq_zero h0
  refine (cloneWn_Range x.rows.length c w).mono ?_
  rintro ex w' ⟨rfl,rfl⟩
  obtain ⟨g',hg⟩:=res_cellsW (x:=x) (prot:=prot) (w:=w') (w':=w') rowW_Range hfr (Below.refl _ _) (v:=.slice none 0 0) ⟨cellsW_len _ _,.inl ⟨rfl,h0⟩⟩
  exact ⟨_,g',rfl,hg.below,hg.val,hg.prot,hg.fresh⟩
 | some ad =>
  refine (cloneW_Range ad x.rows.length c (cellsW 2 x.rows) w (cellsW_len _ _) (by omega) (fun j u hj=>?_) (cellsW_one _ _)).mono ?_
  ·have hpos:0<x.rows.length:=by
    have:=(List.getElem?_eq_some_iff.1 hj).1
    rw [cellsW_len] at this
    omega
   obtain ⟨b,o,hA⟩:=h3 hpos
   injection hA with hA
   subst hA
   rw [Addr.add_lit]
   exact (h4 b o rfl j u hj).1
  ·rintro ex w' ⟨v',rfl,hown,hbel⟩
   obtain ⟨g',hg⟩:=res_cellsW (x:=x) (prot:=prot) rowW_Range hfr hbel hown
   exact ⟨_,g',rfl,hg.below,hg.val,hg.prot,hg.fresh⟩
end Go.Proofs.YtpdfmcmnjikppaaGreat
namespace Go.Proofs.YtpdfmcmnjikppaaGreat
set_option maxRecDepth 100000
set_option maxHeartbeats 4000000
open Go.RowKit Go.Lib
theorem rowW_Lock:rowOf Tryz.prog 93=some (List.replicate 4 (.int .i64)):=by kernel_rfl
abbrev zcW_Lock:Value:=(.agg #[.int .i64 0,.int .i64 0,.int .i64 0,.int .i64 0])
theorem infoW_Lock:(Tryz.prog.info? 93).map (fun i=>(i.zero,i.size,i.bytes))=some (some zcW_Lock,4,32):=by kernel_rfl
theorem cloneW_Lock (a:Addr) (n c:Nat) (news:List Value) (w:World) (hl:news.length=n*4) (hn:n≤2000000) (hc:∀ j u,news[j]?=some u→w.cell? (a.add j)=some u) (h1:∀ u∈news,u.oneCell'=true) :
  Calls Tryz.prog 165 #[.slice (some a) n c] w fun e w'=>∃ v',e=.returned v'∧w'.ownsRow w.heap.size 93 4 v' n news∧Below w.heap.size w w':=by
 obtain ⟨i0,hi0,hz0,hzs,hzb⟩:=info_parts infoW_Lock
 have mixed:Tryz.prog.follows .mixedOrders=true:=by kernel_rfl
 have q22:∀ (w:World) (a:Option Addr) (n c n' c':Nat),(binOp .eql 34 (.slice a n c) (.slice none n' c')).run Tryz.prog w=.ok (.bool a.isNone) w:=fun w a n c n' c'=>Lib.run_eql_slice_nil w _ _ a n c n' c' Tryz.underlying34
 have A:Aside (∀ j u,news[j]?=some u→w.cell? (a.add j)=some u):=hc
 clear hc
 go_enter Tryz.func165,Tryz.ntmps165
 go_wp2_with (at_builtin; refine wpList_append_own _ rfl _ _ 34 rfl w.heap.size 93 i0 zcW_Lock 4 32 Tryz.underlying34 hi0 hz0 hzs hzb rfl (by decide) _ _ _ rfl (World.ownsRow_made w #[] 0 (Nat.le_refl _) (Nat.zero_le _) (by simp)) a n c news rfl ?qc1 ?qc2 ?qc3 ?qc4 ?qc5 ?qc6 ?_)
 case qc1=>exact hl
 case qc2 =>
  intro j u hj
  exact Lib.cell?_alloc_some _ (A.out j u hj)
 case qc3=>exact h1
 case qc4=>rw [Nat.zero_add]; unfold maxLen; omega
 case qc5=>rw [Nat.zero_add]; omega
 case qc6=>simp
 intro v' w1 hown hgrow hnil
 go_wp2
 go_ret
 refine ⟨v',rfl,by simpa using hown,?_⟩
 exact ((Below.refl _ w).alloc (Nat.le_refl _) _).grown hgrow (by simp) (by intro k hk; simp [Value.ownBlock] at hk; omega)
theorem cloneWn_Lock (n c:Nat) (w:World) :
  Calls Tryz.prog 165 #[.slice none n c] w fun e w'=>e=.returned (.slice none 0 0)∧w'=w:=by
 have mixed:Tryz.prog.follows .mixedOrders=true:=by kernel_rfl
 have q22:∀ (w:World) (a:Option Addr) (n c n' c':Nat),(binOp .eql 34 (.slice a n c) (.slice none n' c')).run Tryz.prog w=.ok (.bool a.isNone) w:=fun w a n c n' c'=>Lib.run_eql_slice_nil w _ _ a n c n' c' Tryz.underlying34
 go_enter Tryz.func165,Tryz.ntmps165
 go_wp2
 go_ret
 exact ⟨rfl,rfl⟩
def i_clonLockE:Ent:=(165,e1 (sd (.sl 93)) fun p=>(⟨.one (.c (.own (0,0) true 93)),[.l (gd p 0).rows]⟩,leI ((gd p 0).rows.length:Int) 2000000))
theorem i_clonLock_ok:EntOk Tryz.prog i_clonLockE:=e1_ok fun p h=>by
 have h:leI ((gd p 0).rows.length:Int) 2000000=true:=h
 simp only [leI,decide_eq_true_eq] at h
 refine SoundFn.of rfl ⟨enters Tryz.func165 (by kernel_rfl) (by kernel_rfl),fun w prot vs hargs hfr=>?_⟩
 obtain ⟨u,hu,hv⟩:=hargs.2 0 _ rfl
 have hvs:vs = #[u]:=by
  have hs:vs.size=1:=hargs.1
  refine Array.ext (by simpa using hs) fun i h1 h2=>?_
  have:i=0:=by omega
  subst this
  rw [Array.getElem?_eq_getElem h1] at hu
  injection hu
 subst hvs
 have hv:VD Tryz.prog w prot (.sl 93) (gd p 0) u:=hv
 generalize gd p 0=x at *
 obtain ⟨A,c,rfl,h1,h2,h3,h4⟩:=vd_cellsW rowW_Lock (by decide) hv
 cases A with
 | none =>
  have h0:x.rows.length=0:=by
   rcases Nat.eq_zero_or_pos x.rows.length with h' | h'
   ·exact h'
   ·obtain ⟨b,o,hA⟩:=h3 h'
    cases hA
  have hx0:x.rows = []:=List.eq_nil_of_length_eq_zero h0
  refine (cloneWn_Lock x.rows.length c w).mono ?_
  rintro ex w' ⟨rfl,rfl⟩
  obtain ⟨g',hg⟩:=res_cellsW (x:=x) (prot:=prot) (w:=w') (w':=w') rowW_Lock hfr (Below.refl _ _) (v:=.slice none 0 0) ⟨cellsW_len _ _,.inl ⟨rfl,h0⟩⟩
  exact ⟨_,g',rfl,hg.below,hg.val,hg.prot,hg.fresh⟩
 | some ad =>
  refine (cloneW_Lock ad x.rows.length c (cellsW 4 x.rows) w (cellsW_len _ _) (by omega) (fun j u hj=>?_) (cellsW_one _ _)).mono ?_
  ·have hpos:0<x.rows.length:=by
    have:=(List.getElem?_eq_some_iff.1 hj).1
    rw [cellsW_len] at this
    omega
   obtain ⟨b,o,hA⟩:=h3 hpos
   injection hA with hA
   subst hA
   rw [Addr.add_lit]
   exact (h4 b o rfl j u hj).1
  ·rintro ex w' ⟨v',rfl,hown,hbel⟩
   obtain ⟨g',hg⟩:=res_cellsW (x:=x) (prot:=prot) rowW_Lock hfr hbel hown
   exact ⟨_,g',rfl,hg.below,hg.val,hg.prot,hg.fresh⟩
theorem rowW_Write:rowOf Tryz.prog 70=some (List.replicate 2 (.int .i64)):=by kernel_rfl
abbrev zcW_Write:Value:=(.agg #[.int .i64 0,.int .i64 0])
theorem infoW_Write:(Tryz.prog.info? 70).map (fun i=>(i.zero,i.size,i.bytes))=some (some zcW_Write,2,16):=by kernel_rfl
theorem cloneW_Write (a:Addr) (n c:Nat) (news:List Value) (w:World) (hl:news.length=n*2) (hn:n≤2000000) (hc:∀ j u,news[j]?=some u→w.cell? (a.add j)=some u) (h1:∀ u∈news,u.oneCell'=true) :
  Calls Tryz.prog 119 #[.slice (some a) n c] w fun e w'=>∃ v',e=.returned v'∧w'.ownsRow w.heap.size 70 2 v' n news∧Below w.heap.size w w':=by
 obtain ⟨i0,hi0,hz0,hzs,hzb⟩:=info_parts infoW_Write
 have mixed:Tryz.prog.follows .mixedOrders=true:=by kernel_rfl
 have q22:∀ (w:World) (a:Option Addr) (n c n' c':Nat),(binOp .eql 54 (.slice a n c) (.slice none n' c')).run Tryz.prog w=.ok (.bool a.isNone) w:=fun w a n c n' c'=>Lib.run_eql_slice_nil w _ _ a n c n' c' Tryz.underlying54
 have A:Aside (∀ j u,news[j]?=some u→w.cell? (a.add j)=some u):=hc
 clear hc
 go_enter Tryz.func119,Tryz.ntmps119
 go_wp2_with (at_builtin; refine wpList_append_own _ rfl _ _ 54 rfl w.heap.size 70 i0 zcW_Write 2 16 Tryz.underlying54 hi0 hz0 hzs hzb rfl (by decide) _ _ _ rfl (World.ownsRow_made w #[] 0 (Nat.le_refl _) (Nat.zero_le _) (by simp)) a n c news rfl ?qc1 ?qc2 ?qc3 ?qc4 ?qc5 ?qc6 ?_)
 case qc1=>exact hl
 case qc2 =>
  intro j u hj
  exact Lib.cell?_alloc_some _ (A.out j u hj)
 case qc3=>exact h1
 case qc4=>rw [Nat.zero_add]; unfold maxLen; omega
 case qc5=>rw [Nat.zero_add]; omega
 case qc6=>simp
 intro v' w1 hown hgrow hnil
 go_wp2
 go_ret
 refine ⟨v',rfl,by simpa using hown,?_⟩
 exact ((Below.refl _ w).alloc (Nat.le_refl _) _).grown hgrow (by simp) (by intro k hk; simp [Value.ownBlock] at hk; omega)
theorem cloneWn_Write (n c:Nat) (w:World) :
  Calls Tryz.prog 119 #[.slice none n c] w fun e w'=>e=.returned (.slice none 0 0)∧w'=w:=by
 have mixed:Tryz.prog.follows .mixedOrders=true:=by kernel_rfl
 have q22:∀ (w:World) (a:Option Addr) (n c n' c':Nat),(binOp .eql 54 (.slice a n c) (.slice none n' c')).run Tryz.prog w=.ok (.bool a.isNone) w:=fun w a n c n' c'=>Lib.run_eql_slice_nil w _ _ a n c n' c' Tryz.underlying54
 go_enter Tryz.func119,Tryz.ntmps119
 go_wp2
 go_ret
 exact ⟨rfl,rfl⟩
def i_clonWriteE:Ent:=(119,e1 (sd (.sl 70)) fun p=>(⟨.one (.c (.own (0,0) true 70)),[.l (gd p 0).rows]⟩,leI ((gd p 0).rows.length:Int) 2000000))
theorem i_clonWrite_ok:EntOk Tryz.prog i_clonWriteE:=e1_ok fun p h=>by
 have h:leI ((gd p 0).rows.length:Int) 2000000=true:=h
 simp only [leI,decide_eq_true_eq] at h
 refine SoundFn.of rfl ⟨enters Tryz.func119 (by kernel_rfl) (by kernel_rfl),fun w prot vs hargs hfr=>?_⟩
 obtain ⟨u,hu,hv⟩:=hargs.2 0 _ rfl
 have hvs:vs = #[u]:=by
  have hs:vs.size=1:=hargs.1
  refine Array.ext (by simpa using hs) fun i h1 h2=>?_
  have:i=0:=by omega
  subst this
  rw [Array.getElem?_eq_getElem h1] at hu
  injection hu
 subst hvs
 have hv:VD Tryz.prog w prot (.sl 70) (gd p 0) u:=hv
 generalize gd p 0=x at *
 obtain ⟨A,c,rfl,h1,h2,h3,h4⟩:=vd_cellsW rowW_Write (by decide) hv
 cases A with
 | none =>
  have h0:x.rows.length=0:=by
   rcases Nat.eq_zero_or_pos x.rows.length with h' | h'
   ·exact h'
   ·obtain ⟨b,o,hA⟩:=h3 h'
    cases hA
  have hx0:x.rows = []:=List.eq_nil_of_length_eq_zero h0
  refine (cloneWn_Write x.rows.length c w).mono ?_
  rintro ex w' ⟨rfl,rfl⟩
  obtain ⟨g',hg⟩:=res_cellsW (x:=x) (prot:=prot) (w:=w') (w':=w') rowW_Write hfr (Below.refl _ _) (v:=.slice none 0 0) ⟨cellsW_len _ _,.inl ⟨rfl,h0⟩⟩
  exact ⟨_,g',rfl,hg.below,hg.val,hg.prot,hg.fresh⟩
 | some ad =>
  refine (cloneW_Write ad x.rows.length c (cellsW 2 x.rows) w (cellsW_len _ _) (by omega) (fun j u hj=>?_) (cellsW_one _ _)).mono ?_
  ·have hpos:0<x.rows.length:=by
    have:=(List.getElem?_eq_some_iff.1 hj).1
    rw [cellsW_len] at this
    omega
   obtain ⟨b,o,hA⟩:=h3 hpos
   injection hA with hA
   subst hA
   rw [Addr.add_lit]
   exact (h4 b o rfl j u hj).1
  ·rintro ex w' ⟨v',rfl,hown,hbel⟩
   obtain ⟨g',hg⟩:=res_cellsW (x:=x) (prot:=prot) rowW_Write hfr hbel hown
   exact ⟨_,g',rfl,hg.below,hg.val,hg.prot,hg.fresh⟩
end Go.Proofs.YtpdfmcmnjikppaaGreat
namespace Go.Proofs.YtpdfmcmnjikppaaGreat
set_option maxRecDepth 4096
def isYes (z:D) (k:Nat):Bool:=(gd (z.rows.getD k []) 3).int==3
theorem not_any {n:Nat} {C:Nat→Bool}:((List.range n).all fun k => !C k) = !(List.range n).any C:=by simp [List.all_eq_not_any_not]
end Go.Proofs.YtpdfmcmnjikppaaGreat
namespace Go.Proofs.YtpdfmcmnjikppaaGreat
set_option maxRecDepth 4096
end Go.Proofs.YtpdfmcmnjikppaaGreat
namespace Go.Proofs.YtpdfmcmnjikppaaGreat
theorem total_mem {size:List D→Nat}:∀ {rows:List (List D)} {r:List D},r∈rows→size r≤total size rows
 | a::l,r,h=>by
  have e:total size (a::l)=size a+total size l:=by simp [total]
  rcases List.mem_cons.1 h with rfl | h
  ·omega
  ·have:=total_mem (size:=size) h
   omega
theorem okS {ok:List D→Bool} {size:List D→Nat} {z:D} {m:Nat} (hm:m≤4294967296) (h:z.rows.length+total size z.rows≤m) (hr:∀ r,size r≤m→ok r=true):(decide (z.rows.length≤4294967296)&&z.rows.all fun r=>ok r)=true:=by
 simp only [Bool.and_eq_true,decide_eq_true_eq,List.all_eq_true]
 exact ⟨by omega,fun r hm=>hr r (Nat.le_trans (total_mem hm) (by omega))⟩
theorem okF {ok:List D→Bool} {z:D} {m:Nat} (hm:m≤4294967296) (h:z.rows.length≤m) (hr:∀ r,ok r=true):(decide (z.rows.length≤4294967296)&&z.rows.all fun r=>ok r)=true:=by
 simp only [Bool.and_eq_true,decide_eq_true_eq,List.all_eq_true]
 exact ⟨by omega,fun r _=>hr r⟩
theorem okIntS_of {z:D} {m:Nat} (hm:m≤4294967296) (h:sizeIntS z≤m):okIntS z=true:=okF hm h fun _=>rfl
theorem okCellS_of {z:D} {m:Nat} (hm:m≤4294967296) (h:sizeCellS z≤m):okCellS z=true:=okF (ok:=fun r=>okCell (sub r 0 2)) hm h fun _=>rfl
theorem okRangeS_of {z:D} {m:Nat} (hm:m≤4294967296) (h:sizeRangeS z≤m):okRangeS z=true:=okF (ok:=fun r=>okRange (sub r 0 2)) hm h fun _=>rfl
theorem okWriteS_of {z:D} {m:Nat} (hm:m≤4294967296) (h:sizeWriteS z≤m):okWriteS z=true:=okF (ok:=fun r=>okWrite (sub r 0 2)) hm h fun _=>rfl
theorem left_ge {s:Nat} {n:Int} (h:ltI (left s n) 0=false) (h0:0≤n):left s n=n - s∧(s:Int)≤n:=by
 unfold left at h ⊢
 split
 ·exact ⟨rfl,by assumption⟩
 ·rename_i hn
  rw [if_neg hn] at h
  cases h
end Go.Proofs.YtpdfmcmnjikppaaGreat
namespace Go.Proofs.YtpdfmcmnjikppaaGreat
set_option maxRecDepth 4096
theorem sz1 {a:Nat} {n:Int}:(bif ltI (left a n) 0 then oi (-1) else oi (left a n))=oi (left a n):=by
 unfold ltI left
 split
 ·rw [decide_eq_false (by omega)]; rfl
 ·rfl
theorem szN {b c:Nat} {m:Int}:nd (fair m) (bif ltI (left b m) 0 then oi (-1) else nd (fair (left b m)) (oi (left c (left b m))))=nd (fair m) (oi (left (b+c) m)):=by
 cases hm:fair m
 ·rfl
 ·simp only [nd,cond_true]
  by_cases h:left b m<0
  ·rw [ltI_t h,cond_true]
   have e:=left_left b c m
   rw [if_pos h] at e
   rw [← e]
  ·rw [ltI_f (by omega),cond_false,fair_left hm h,cond_true]
   have e:=left_left b c m
   rw [if_neg h] at e
   rw [← e]
end Go.Proofs.YtpdfmcmnjikppaaGreat
namespace Go.Proofs.YtpdfmcmnjikppaaGreat
set_option maxRecDepth 4096
def rLLock:List S:= [si,si,si,si]
def rILock:List S:= [si,si,si,si]
def cpLock (p:List D):List D:= [gd p 0,gd p 1,gd p 2,gd p 3]
def okLock (p:List D):Bool:=true
theorem toLock_ev (p:List D) (N:Nat):evFn Tryz.prog (find []) N [0,1,2,3] Tryz.f190 (ag rILock) [⟨ag rLLock,p⟩]=some (bo,some (1,cpLock p)):=by kernel_rfl
def toLockE:Ent:=(190,e1 (ag rLLock) fun p=>(⟨ag rILock,cpLock p⟩,okLock p))
theorem toLock_ok:EntOk Tryz.prog toLockE:=e1_ok fun p h=>evFn_sound (N:=0) (ks:= [0,1,2,3]) (key:=bo) (find_ok (fN)) (enters Tryz.func190) Tryz.func190 fun _=>by
 have h:okLock p=true:=h
 simp only [okLock,Bool.and_eq_true] at h
 rw [toLock_ev]
def eqLock (p q:List D):Bool:=((gd p 0).int==(gd q 0).int)&&(((gd p 1).int==(gd q 1).int)&&(((gd p 2).int==(gd q 2).int)&&(((gd p 3).int==(gd q 3).int)&&(true))))
theorem eqLock_ev (p q:List D) (N:Nat):evFn Tryz.prog (find []) N [0,1,2,3,4,9,14,19,24] Tryz.f196 rb [⟨ag rILock,p⟩,⟨ag rILock,q⟩]=some (bo,bif !((gd p 0).int==(gd q 0).int) then ob false else bif !((gd p 1).int==(gd q 1).int) then ob false else bif !((gd p 2).int==(gd q 2).int) then ob false else bif !((gd p 3).int==(gd q 3).int) then ob false else ob true):=by kernel_rfl
def eqLockE:Ent:=(196,e2 (ag rILock) (ag rILock) fun p q=>(⟨rb,[.b (eqLock p q)]⟩,true))
theorem eqLock_ok:EntOk Tryz.prog eqLockE:=e2_ok fun p q _=>evFn_sound (N:=0) (ks:= [0,1,2,3,4,9,14,19,24]) (key:=bo) (find_ok (fN)) (enters Tryz.func196) Tryz.func196 fun _=>by
 rw [eqLock_ev]
 simp only [ne_step]
 rfl
theorem eqLock_refl (p:List D):eqLock p p=true:=by
 simp [eqLock]
def cpLockS (z:D):D:=.l (z.rows.map fun r=>cpLock (sub r 0 4))
def okLockS (z:D):Bool:=decide (z.rows.length≤4294967296)&&z.rows.all fun r=>okLock (sub r 0 4)
def eqLockS:D→D→Bool:=alikeS (fun r s=>eqLock (sub r 0 4) (sub s 0 4))
noncomputable def eqLockSL (N:Nat) (p q:List D):List D→Out:=loopOf Tryz.prog (find [eqLockE]) N [0,1,4,5,10,14,26] Tryz.f80 rb [⟨sd (.sl 93),p⟩,⟨sd (.sl 93),q⟩] 0
theorem eqLockS_rd (p q:List D) (N:Nat) (z u x y:D) (k:Int):eqLockSL N p q [z,u,x,y,.i k]=bif decide (k<z.rows.length) then nd (inRange k z.rows.length) (nd (inRange k u.rows.length) (bif !(eqLock (sub (z.rows.getD k.toNat []) 0 4) (sub (u.rows.getD k.toNat []) 0 4)) then ob false else nx [z,u,x,y,.i (w64 (k+1))])) else ex 0 [z,u,x,y,.i k]:=by kernel_rfl
theorem eqLockS_ev (p q:List D) (N:Nat):evFn Tryz.prog (find [eqLockE]) N [0,1,4,5,10,14,26] Tryz.f80 rb [⟨sd (.sl 93),p⟩,⟨sd (.sl 93),q⟩]=some (bo,bif !(((gd p 0).rows.length:Int)==(gd q 0).rows.length) then ob false else
  (let o:=iter (eqLockSL N p q) N [gd p 0,gd q 0,D0,.b (!(((gd p 0).rows.length:Int)==(gd q 0).rows.length)),.i 0]
   nd o.isSome (bif o.code==1 then some (1,o.pay) else nd (o.code==2) (ob true)))):=by kernel_rfl
def eqLockSE:Ent:=(80,e2 (sd (.sl 93)) (sd (.sl 93)) fun p q=>(⟨rb,[.b (eqLockS (gd p 0) (gd q 0))]⟩,true))
theorem eqLockS_ok:EntOk Tryz.prog eqLockSE:=e2_ok fun p q _=>evFn_sound (N:=(gd p 0).rows.length+1) (ks:= [0,1,4,5,10,14,26]) (key:=bo) (find_ok (fC ⟨eqLock_ok,fN⟩)) (enters Tryz.func80) Tryz.func80 fun hw=>by
 rw [eqLockS_ev]
 by_cases hl:(gd p 0).rows.length=(gd q 0).rows.length
 ·rw [like_loop (E:=(fun r s=>eqLock (sub r 0 4) (sub s 0 4))) (wt_sl (hw ⟨sd (.sl 93),p⟩ (by simp))) hl (eqLockS_rd p q _ _ _ _ _) (by omega)]
  rw [show ((((gd p 0).rows.length:Int))==(gd q 0).rows.length)=true from beq_iff_eq.2 (by omega)]
  show some (bo,_)=some (bo,some (1,[D.b (alikeS (fun r s=>eqLock (sub r 0 4) (sub s 0 4)) (gd p 0) (gd q 0))]))
  cases alikeS (fun r s=>eqLock (sub r 0 4) (sub s 0 4)) (gd p 0) (gd q 0) <;> rfl
 ·rw [show ((((gd p 0).rows.length:Int))==(gd q 0).rows.length)=false from beq_eq_false_iff_ne.2 (by omega)]
  show some (bo,_)=some (bo,some (1,[D.b (alikeS (fun r s=>eqLock (sub r 0 4) (sub s 0 4)) (gd p 0) (gd q 0))]))
  rw [show alikeS (fun r s=>eqLock (sub r 0 4) (sub s 0 4)) (gd p 0) (gd q 0)=false from by simp [alikeS,hl]]
  rfl
theorem eqLockS_refl (z:D):eqLockS z z=true:=alikeS_refl (fun r=>by exact eqLock_refl _) z
def sizeLockS (z:D):Nat:=z.rows.length
theorem szLockS_ev (p q:List D) (N:Nat):evFn Tryz.prog (find []) N [0,1,4,10] Tryz.f56 ri [⟨sd (.sl 174),p⟩,⟨ri,q⟩]=some (bo,bif decide (w64 ((gd q 0).int - (gd p 0).rows.length)<0) then oi (-1) else oi (w64 ((gd q 0).int - (gd p 0).rows.length))):=by kernel_rfl
def szLockSE:Ent:=(56,e2 (sd (.sl 174)) ri fun p q=>(⟨ri,[.i (left (sizeLockS (gd p 0)) (gd q 0).int)]⟩,fair (gd q 0).int))
theorem szLockS_ok:EntOk Tryz.prog szLockSE:=e2_ok fun p q h=>evFn_sound (N:=(gd p 0).rows.length+1) (ks:= [0,1,4,10]) (key:=bo) (find_ok (fN)) (enters Tryz.func56) Tryz.func56 fun hw=>by
 have h:fair (gd q 0).int=true:=h
 have hl:=wt_sl (hw ⟨sd (.sl 174),p⟩ (by simp))
 have h2:0≤(gd q 0).int∧(gd q 0).int≤1048576:=by simpa [fair] using h
 rw [szLockS_ev,w64_id (by omega) (by omega)]
 rw [oi_if,left_sub]
 rfl
theorem okLockS_of {z:D} {m:Nat} (hm:m≤4294967296) (h:sizeLockS z≤m):okLockS z=true:=okF (ok:=fun r=>okLock (sub r 0 4)) hm h fun _=>rfl
def rLHeld:List S:= [si,.sl 124]
def rIHeld:List S:= [si,.sl 70]
def cpHeld (p:List D):List D:= [gd p 0,cpWriteS (gd p 1)]
def okHeld (p:List D):Bool:=okWriteS (gd p 1)
def eqHeld (p q:List D):Bool:=((gd p 0).int==(gd q 0).int)&&((eqWriteS (gd p 1) (gd q 1))&&(true))
theorem eqHeld_ev (p q:List D) (N:Nat):evFn Tryz.prog (find [eqWriteSE]) N [0,1,2,3,4,9,15] Tryz.f197 rb [⟨ag rIHeld,p⟩,⟨ag rIHeld,q⟩]=some (bo,bif !((gd p 0).int==(gd q 0).int) then ob false else bif !(eqWriteS (gd p 1) (gd q 1)) then ob false else ob true):=by kernel_rfl
def eqHeldE:Ent:=(197,e2 (ag rIHeld) (ag rIHeld) fun p q=>(⟨rb,[.b (eqHeld p q)]⟩,true))
theorem eqHeld_ok:EntOk Tryz.prog eqHeldE:=e2_ok fun p q _=>evFn_sound (N:=0) (ks:= [0,1,2,3,4,9,15]) (key:=bo) (find_ok (fC ⟨eqWriteS_ok,fN⟩)) (enters Tryz.func197) Tryz.func197 fun _=>by
 rw [eqHeld_ev]
 simp only [ne_step]
 rfl
theorem eqHeld_refl (p:List D):eqHeld p p=true:=by
 simp [eqHeld,eqWriteS_refl]
def sizeHeld (p:List D):Nat:=sizeWriteS (gd p 1)
theorem szHeld_ev (p q:List D) (N:Nat):evFn Tryz.prog (find [szWriteSE]) N [0,1,2,4,10] Tryz.f183 ri [⟨ag rLHeld,p⟩,⟨ri,q⟩]=some (bo,nd (fair (gd q 0).int) (bif ltI (left (sizeWriteS (gd p 1)) (gd q 0).int) 0 then oi (-1) else oi (left (sizeWriteS (gd p 1)) (gd q 0).int))):=by kernel_rfl
def szHeldE:Ent:=(183,e2 (ag rLHeld) ri fun p q=>(⟨ri,[.i (left (sizeHeld p) (gd q 0).int)]⟩,fair (gd q 0).int))
theorem szHeld_ok:EntOk Tryz.prog szHeldE:=e2_ok fun p q h=>evFn_sound (N:=0) (ks:= [0,1,2,4,10]) (key:=bo) (find_ok (fC ⟨szWriteS_ok,fN⟩)) (enters Tryz.func183) Tryz.func183 fun _=>by
 have h:fair (gd q 0).int=true:=h
 rw [szHeld_ev]
 simp only [sz1,szN]
 simp only [h,nd,cond_true]
 rfl
theorem okHeld_of {p:List D} {m:Nat} (hm:m≤4294967296) (h:sizeHeld p≤m):okHeld p=true:=by
 unfold sizeHeld at h
 simp only [okHeld,Bool.and_eq_true]
 exact okWriteS_of hm (show sizeWriteS (gd p 1)≤m from by omega)
def cpHeldS (z:D):D:=.l (z.rows.map fun r=>cpHeld (sub r 0 2))
def okHeldS (z:D):Bool:=decide (z.rows.length≤4294967296)&&z.rows.all fun r=>okHeld (sub r 0 2)
def eqHeldS:D→D→Bool:=alikeS (fun r s=>eqHeld (sub r 0 2) (sub s 0 2))
noncomputable def eqHeldSL (N:Nat) (p q:List D):List D→Out:=loopOf Tryz.prog (find [eqHeldE]) N [0,1,4,5,10,14,26] Tryz.f81 rb [⟨sd (.sl 75),p⟩,⟨sd (.sl 75),q⟩] 0
theorem eqHeldS_rd (p q:List D) (N:Nat) (z u x y:D) (k:Int):eqHeldSL N p q [z,u,x,y,.i k]=bif decide (k<z.rows.length) then nd (inRange k z.rows.length) (nd (inRange k u.rows.length) (bif !(eqHeld (sub (z.rows.getD k.toNat []) 0 2) (sub (u.rows.getD k.toNat []) 0 2)) then ob false else nx [z,u,x,y,.i (w64 (k+1))])) else ex 0 [z,u,x,y,.i k]:=by kernel_rfl
theorem eqHeldS_ev (p q:List D) (N:Nat):evFn Tryz.prog (find [eqHeldE]) N [0,1,4,5,10,14,26] Tryz.f81 rb [⟨sd (.sl 75),p⟩,⟨sd (.sl 75),q⟩]=some (bo,bif !(((gd p 0).rows.length:Int)==(gd q 0).rows.length) then ob false else
  (let o:=iter (eqHeldSL N p q) N [gd p 0,gd q 0,D0,.b (!(((gd p 0).rows.length:Int)==(gd q 0).rows.length)),.i 0]
   nd o.isSome (bif o.code==1 then some (1,o.pay) else nd (o.code==2) (ob true)))):=by kernel_rfl
def eqHeldSE:Ent:=(81,e2 (sd (.sl 75)) (sd (.sl 75)) fun p q=>(⟨rb,[.b (eqHeldS (gd p 0) (gd q 0))]⟩,true))
theorem eqHeldS_ok:EntOk Tryz.prog eqHeldSE:=e2_ok fun p q _=>evFn_sound (N:=(gd p 0).rows.length+1) (ks:= [0,1,4,5,10,14,26]) (key:=bo) (find_ok (fC ⟨eqHeld_ok,fN⟩)) (enters Tryz.func81) Tryz.func81 fun hw=>by
 rw [eqHeldS_ev]
 by_cases hl:(gd p 0).rows.length=(gd q 0).rows.length
 ·rw [like_loop (E:=(fun r s=>eqHeld (sub r 0 2) (sub s 0 2))) (wt_sl (hw ⟨sd (.sl 75),p⟩ (by simp))) hl (eqHeldS_rd p q _ _ _ _ _) (by omega)]
  rw [show ((((gd p 0).rows.length:Int))==(gd q 0).rows.length)=true from beq_iff_eq.2 (by omega)]
  show some (bo,_)=some (bo,some (1,[D.b (alikeS (fun r s=>eqHeld (sub r 0 2) (sub s 0 2)) (gd p 0) (gd q 0))]))
  cases alikeS (fun r s=>eqHeld (sub r 0 2) (sub s 0 2)) (gd p 0) (gd q 0) <;> rfl
 ·rw [show ((((gd p 0).rows.length:Int))==(gd q 0).rows.length)=false from beq_eq_false_iff_ne.2 (by omega)]
  show some (bo,_)=some (bo,some (1,[D.b (alikeS (fun r s=>eqHeld (sub r 0 2) (sub s 0 2)) (gd p 0) (gd q 0))]))
  rw [show alikeS (fun r s=>eqHeld (sub r 0 2) (sub s 0 2)) (gd p 0) (gd q 0)=false from by simp [alikeS,hl]]
  rfl
theorem eqHeldS_refl (z:D):eqHeldS z z=true:=alikeS_refl (fun r=>by exact eqHeld_refl _) z
def sizeHeldS (z:D):Nat:=z.rows.length+total (fun r=>sizeHeld (sub r 0 2)) z.rows
noncomputable def szHeldSL (N:Nat) (p q:List D):List D→Out:=loopOf Tryz.prog (find [szHeldE]) N [0,1,4,5,11,15,25] Tryz.f57 ri [⟨sd (.sl 170),p⟩,⟨ri,q⟩] 0
theorem szHeldS_rd (p q:List D) (N:Nat) (z x y:D) (n k:Int):szHeldSL N p q [z,.i n,x,y,.i k]=bif decide (k<z.rows.length) then nd (inRange k z.rows.length) (nd (fair n) (bif decide (left (sizeHeld (sub (z.rows.getD k.toNat []) 0 2)) n<0) then oi (-1) else nx [z,.i (left (sizeHeld (sub (z.rows.getD k.toNat []) 0 2)) n),x,y,.i (w64 (k+1))])) else ex 0 [z,.i n,x,y,.i k]:=by kernel_rfl
theorem szHeldS_ev (p q:List D) (N:Nat):evFn Tryz.prog (find [szHeldE]) N [0,1,4,5,11,15,25] Tryz.f57 ri [⟨sd (.sl 170),p⟩,⟨ri,q⟩]=some (bo,bif decide (w64 ((gd q 0).int - (gd p 0).rows.length)<0) then oi (-1) else
  (let o:=iter (szHeldSL N p q) N [gd p 0,.i (w64 ((gd q 0).int - (gd p 0).rows.length)),.i 0,.b (decide (w64 ((gd q 0).int - (gd p 0).rows.length)<0)),.i 0]
   nd o.isSome (bif o.code==1 then some (1,o.pay) else nd (o.code==2) (some (1,[gd o.pay 1]))))):=by kernel_rfl
def szHeldSE:Ent:=(57,e2 (sd (.sl 170)) ri fun p q=>(⟨ri,[.i (left (sizeHeldS (gd p 0)) (gd q 0).int)]⟩,fair (gd q 0).int))
theorem szHeldS_ok:EntOk Tryz.prog szHeldSE:=e2_ok fun p q h=>evFn_sound (N:=(gd p 0).rows.length+1) (ks:= [0,1,4,5,11,15,25]) (key:=bo) (find_ok (fC ⟨szHeld_ok,fN⟩)) (enters Tryz.func57) Tryz.func57 fun hw=>by
 have h:fair (gd q 0).int=true:=h
 have hl:=wt_sl (hw ⟨sd (.sl 170),p⟩ (by simp))
 have h2:0≤(gd q 0).int∧(gd q 0).int≤1048576:=by simpa [fair] using h
 rw [szHeldS_ev,w64_id (by omega) (by omega)]
 by_cases hn:(gd q 0).int - ((gd p 0).rows.length:Int)<0
 ·rw [decide_eq_true hn,cond_true]
  have e:left (sizeHeldS (gd p 0)) (gd q 0).int = -1:=if_neg (by simp only [sizeHeldS]; push_cast; omega)
  rw [e]
 ·rw [decide_eq_false hn,cond_false]
  have:=size_loop (size:=fun r=>sizeHeld (sub r 0 2)) hl (szHeldS_rd p q ((gd p 0).rows.length+1) (gd p 0) (.i 0) (.b false)) (gd p 0).rows.length 0 ((gd p 0).rows.length+1) ((gd q 0).int - ((gd p 0).rows.length:Int)) (by omega) (by omega) (by omega) (by omega)
  simp only [Int.natCast_zero,List.drop_zero] at this
  rw [this]
  by_cases hq:(total (fun r=>sizeHeld (sub r 0 2)) (gd p 0).rows:Int)≤(gd q 0).int - ((gd p 0).rows.length:Int)
  ·have e:left (sizeHeldS (gd p 0)) (gd q 0).int=(gd q 0).int - ((gd p 0).rows.length:Int) - (total (fun r=>sizeHeld (sub r 0 2)) (gd p 0).rows:Int):=by
    rw [left,if_pos (by simp only [sizeHeldS]; push_cast; omega)]
    simp only [sizeHeldS]; push_cast; omega
   rw [if_pos hq,e]
   rfl
  ·have e:left (sizeHeldS (gd p 0)) (gd q 0).int = -1:=if_neg (by simp only [sizeHeldS]; push_cast; omega)
   rw [if_neg hq,e]
   rfl
theorem okHeldS_of {z:D} {m:Nat} (hm:m≤4294967296) (h:sizeHeldS z≤m):okHeldS z=true:=okS (ok:=fun r=>okHeld (sub r 0 2)) (size:=fun r=>sizeHeld (sub r 0 2)) hm h fun _ h=>okHeld_of hm h
end Go.Proofs.YtpdfmcmnjikppaaGreat
namespace Go.Proofs.YtpdfmcmnjikppaaGreat
set_option maxRecDepth 4096
def rLShard:List S:= [si,.sl 30,.sl 30,.sl 139,.sl 174,.sl 170,.sl 3,.sl 3,si]
def rIShard:List S:= [si,.sl 41,.sl 41,.sl 108,.sl 93,.sl 75,.sl 3,.sl 3,si]
def cpShard (p:List D):List D:= [gd p 0,cpRangeS (gd p 1),cpRangeS (gd p 2),cpCellS (gd p 3),cpLockS (gd p 4),cpHeldS (gd p 5),cpIntS (gd p 6),cpIntS (gd p 7),gd p 8]
def okShard (p:List D):Bool:=okRangeS (gd p 1)&&(okRangeS (gd p 2)&&(okCellS (gd p 3)&&(okLockS (gd p 4)&&(okHeldS (gd p 5)&&(okIntS (gd p 6)&&(okIntS (gd p 7)))))))
def eqShard (p q:List D):Bool:=((gd p 0).int==(gd q 0).int)&&((eqRangeS (gd p 1) (gd q 1))&&((eqRangeS (gd p 2) (gd q 2))&&((eqCellS (gd p 3) (gd q 3))&&((eqLockS (gd p 4) (gd q 4))&&((eqHeldS (gd p 5) (gd q 5))&&((eqIntS (gd p 6) (gd q 6))&&((eqIntS (gd p 7) (gd q 7))&&(((gd p 8).int==(gd q 8).int)&&(true)))))))))
theorem eqShard_ev (p q:List D) (N:Nat):evFn Tryz.prog (find [eqRangeSE,eqRangeSE,eqCellSE,eqLockSE,eqHeldSE,eqIntSE,eqIntSE]) N [0,1,2,3,4,9,15,21,27,33,39,45,51,56] Tryz.f14 rb [⟨ag rIShard,p⟩,⟨ag rIShard,q⟩]=some (bo,bif !((gd p 0).int==(gd q 0).int) then ob false else bif !(eqRangeS (gd p 1) (gd q 1)) then ob false else bif !(eqRangeS (gd p 2) (gd q 2)) then ob false else bif !(eqCellS (gd p 3) (gd q 3)) then ob false else bif !(eqLockS (gd p 4) (gd q 4)) then ob false else bif !(eqHeldS (gd p 5) (gd q 5)) then ob false else bif !(eqIntS (gd p 6) (gd q 6)) then ob false else bif !(eqIntS (gd p 7) (gd q 7)) then ob false else bif !((gd p 8).int==(gd q 8).int) then ob false else ob true):=by kernel_rfl
def eqShardE:Ent:=(14,e2 (ag rIShard) (ag rIShard) fun p q=>(⟨rb,[.b (eqShard p q)]⟩,true))
theorem eqShard_ok:EntOk Tryz.prog eqShardE:=e2_ok fun p q _=>evFn_sound (N:=0) (ks:= [0,1,2,3,4,9,15,21,27,33,39,45,51,56]) (key:=bo) (find_ok (fC ⟨eqRangeS_ok,fC ⟨eqRangeS_ok,fC ⟨eqCellS_ok,fC ⟨eqLockS_ok,fC ⟨eqHeldS_ok,fC ⟨eqIntS_ok,fC ⟨eqIntS_ok,fN⟩⟩⟩⟩⟩⟩⟩)) (enters Tryz.func14) Tryz.func14 fun _=>by
 rw [eqShard_ev]
 simp only [ne_step]
 rfl
theorem eqShard_refl (p:List D):eqShard p p=true:=by
 simp [eqShard,eqRangeS_refl,eqRangeS_refl,eqCellS_refl,eqLockS_refl,eqHeldS_refl,eqIntS_refl,eqIntS_refl]
def sizeShard (p:List D):Nat:=sizeRangeS (gd p 1)+(sizeRangeS (gd p 2)+(sizeCellS (gd p 3)+(sizeLockS (gd p 4)+(sizeHeldS (gd p 5)+(sizeIntS (gd p 6)+(sizeIntS (gd p 7)))))))
theorem szShard_ev (p q:List D) (N:Nat):evFn Tryz.prog (find [szRangeSE,szRangeSE,szCellSE,szLockSE,szHeldSE,szIntSE,szIntSE]) N [0,1,2,4,10,16,22,28,34,40,46] Tryz.f9 ri [⟨ag rLShard,p⟩,⟨ri,q⟩]=some (bo,nd (fair (gd q 0).int) (bif ltI (left (sizeRangeS (gd p 1)) (gd q 0).int) 0 then oi (-1) else nd (fair (left (sizeRangeS (gd p 1)) (gd q 0).int)) (bif ltI (left (sizeRangeS (gd p 2)) (left (sizeRangeS (gd p 1)) (gd q 0).int)) 0 then oi (-1) else nd (fair (left (sizeRangeS (gd p 2)) (left (sizeRangeS (gd p 1)) (gd q 0).int))) (bif ltI (left (sizeCellS (gd p 3)) (left (sizeRangeS (gd p 2)) (left (sizeRangeS (gd p 1)) (gd q 0).int))) 0 then oi (-1) else nd (fair (left (sizeCellS (gd p 3)) (left (sizeRangeS (gd p 2)) (left (sizeRangeS (gd p 1)) (gd q 0).int)))) (bif ltI (left (sizeLockS (gd p 4)) (left (sizeCellS (gd p 3)) (left (sizeRangeS (gd p 2)) (left (sizeRangeS (gd p 1)) (gd q 0).int)))) 0 then oi (-1) else nd (fair (left (sizeLockS (gd p 4)) (left (sizeCellS (gd p 3)) (left (sizeRangeS (gd p 2)) (left (sizeRangeS (gd p 1)) (gd q 0).int))))) (bif ltI (left (sizeHeldS (gd p 5)) (left (sizeLockS (gd p 4)) (left (sizeCellS (gd p 3)) (left (sizeRangeS (gd p 2)) (left (sizeRangeS (gd p 1)) (gd q 0).int))))) 0 then oi (-1) else nd (fair (left (sizeHeldS (gd p 5)) (left (sizeLockS (gd p 4)) (left (sizeCellS (gd p 3)) (left (sizeRangeS (gd p 2)) (left (sizeRangeS (gd p 1)) (gd q 0).int)))))) (bif ltI (left (sizeIntS (gd p 6)) (left (sizeHeldS (gd p 5)) (left (sizeLockS (gd p 4)) (left (sizeCellS (gd p 3)) (left (sizeRangeS (gd p 2)) (left (sizeRangeS (gd p 1)) (gd q 0).int)))))) 0 then oi (-1) else nd (fair (left (sizeIntS (gd p 6)) (left (sizeHeldS (gd p 5)) (left (sizeLockS (gd p 4)) (left (sizeCellS (gd p 3)) (left (sizeRangeS (gd p 2)) (left (sizeRangeS (gd p 1)) (gd q 0).int))))))) (bif ltI (left (sizeIntS (gd p 7)) (left (sizeIntS (gd p 6)) (left (sizeHeldS (gd p 5)) (left (sizeLockS (gd p 4)) (left (sizeCellS (gd p 3)) (left (sizeRangeS (gd p 2)) (left (sizeRangeS (gd p 1)) (gd q 0).int))))))) 0 then oi (-1) else oi (left (sizeIntS (gd p 7)) (left (sizeIntS (gd p 6)) (left (sizeHeldS (gd p 5)) (left (sizeLockS (gd p 4)) (left (sizeCellS (gd p 3)) (left (sizeRangeS (gd p 2)) (left (sizeRangeS (gd p 1)) (gd q 0).int))))))))))))))):=by kernel_rfl
def szShardE:Ent:=(9,e2 (ag rLShard) ri fun p q=>(⟨ri,[.i (left (sizeShard p) (gd q 0).int)]⟩,fair (gd q 0).int))
theorem szShard_ok:EntOk Tryz.prog szShardE:=e2_ok fun p q h=>evFn_sound (N:=0) (ks:= [0,1,2,4,10,16,22,28,34,40,46]) (key:=bo) (find_ok (fC ⟨szRangeS_ok,fC ⟨szRangeS_ok,fC ⟨szCellS_ok,fC ⟨szLockS_ok,fC ⟨szHeldS_ok,fC ⟨szIntS_ok,fC ⟨szIntS_ok,fN⟩⟩⟩⟩⟩⟩⟩)) (enters Tryz.func9) Tryz.func9 fun _=>by
 have h:fair (gd q 0).int=true:=h
 rw [szShard_ev]
 simp only [sz1,szN]
 simp only [h,nd,cond_true]
 rfl
theorem okShard_of {p:List D} {m:Nat} (hm:m≤4294967296) (h:sizeShard p≤m):okShard p=true:=by
 unfold sizeShard at h
 simp only [okShard,Bool.and_eq_true]
 exact ⟨okRangeS_of hm (show sizeRangeS (gd p 1)≤m from by omega),okRangeS_of hm (show sizeRangeS (gd p 2)≤m from by omega),okCellS_of hm (show sizeCellS (gd p 3)≤m from by omega),okLockS_of hm (show sizeLockS (gd p 4)≤m from by omega),okHeldS_of hm (show sizeHeldS (gd p 5)≤m from by omega),okIntS_of hm (show sizeIntS (gd p 6)≤m from by omega),okIntS_of hm (show sizeIntS (gd p 7)≤m from by omega)⟩
end Go.Proofs.YtpdfmcmnjikppaaGreat
namespace Go.Proofs.YtpdfmcmnjikppaaGreat
set_option maxRecDepth 4096
end Go.Proofs.YtpdfmcmnjikppaaGreat
namespace Go.Proofs.YtpdfmcmnjikppaaGreat
set_option maxRecDepth 4096
end Go.Proofs.YtpdfmcmnjikppaaGreat
namespace Go.Proofs.YtpdfmcmnjikppaaGreat
set_option maxRecDepth 4096
end Go.Proofs.YtpdfmcmnjikppaaGreat
namespace Go.Proofs.YtpdfmcmnjikppaaGreat
set_option maxRecDepth 4096
abbrev i_isTxT:FuncId→List T→Option (T × Bool):=find [i_fromE]
theorem i_isTxT_ok:CallOk Tryz.prog i_isTxT:=find_ok (fC ⟨i_from_ok,fN⟩)
abbrev i_isTxK:List Nat:= [0,2]
theorem i_isTx_ev (N:Nat) (p:List D):evFn Tryz.prog i_isTxT N i_isTxK Tryz.f105 rb [⟨ri,p⟩]=some (bo,
 ob (inB (gd p 0).int 1 60)):=by kernel_rfl
def i_isTxE:Ent:=(105,e1 ri fun p=>(⟨rb,[.b (inB (gd p 0).int 1 60)]⟩,true))
theorem i_isTx_ok:EntOk Tryz.prog i_isTxE:=e1_ok fun p h=>evFn_sound (N:=0) (ks:=i_isTxK) (key:=bo) i_isTxT_ok (enters Tryz.func105) Tryz.func105 fun hw=>by
 rw [i_isTx_ev]
 skip
abbrev s_l12TxT:FuncId→List T→Option (T × Bool):=find [s_l1InE]
theorem s_l12TxT_ok:CallOk Tryz.prog s_l12TxT:=find_ok (fC ⟨s_l1In_ok,fN⟩)
abbrev s_l12TxK:List Nat:= [0,2]
theorem s_l12Tx_ev (N:Nat) (p:List D):evFn Tryz.prog s_l12TxT N s_l12TxK Tryz.f92 rb [⟨ri,p⟩]=some (bo,
 ob (inB (gd p 0).int 1 60)):=by kernel_rfl
def s_l12TxE:Ent:=(92,e1 ri fun p=>(⟨rb,[.b (inB (gd p 0).int 1 60)]⟩,true))
theorem s_l12Tx_ok:EntOk Tryz.prog s_l12TxE:=e1_ok fun p h=>evFn_sound (N:=0) (ks:=s_l12TxK) (key:=bo) s_l12TxT_ok (enters Tryz.func92) Tryz.func92 fun hw=>by
 rw [s_l12Tx_ev]
 skip
abbrev i_isModeT:FuncId→List T→Option (T × Bool):=find []
theorem i_isModeT_ok:CallOk Tryz.prog i_isModeT:=find_ok (fN)
abbrev i_isModeK:List Nat:= [0,2]
theorem i_isMode_ev (N:Nat) (p:List D):evFn Tryz.prog i_isModeT N i_isModeK Tryz.f176 rb [⟨ri,p⟩]=some (bo,
 bif (gd p 0).int==1 then ob true
 else ob ((gd p 0).int==2)):=by kernel_rfl
def i_isModeF (p:List D):Bool:=
 bif (gd p 0).int==1 then true
 else (gd p 0).int==2
def i_isModeE:Ent:=(176,e1 ri fun p=>(⟨rb,[.b (i_isModeF [gd p 0])]⟩,true))
theorem i_isMode_ok:EntOk Tryz.prog i_isModeE:=e1_ok fun p h=>evFn_sound (N:=0) (ks:=i_isModeK) (key:=bo) i_isModeT_ok (enters Tryz.func176) Tryz.func176 fun hw=>by
 rw [i_isMode_ev]
 try simp only [cond_ob,cond_oi,cond_os]
 rfl
abbrev s_l12ModeT:FuncId→List T→Option (T × Bool):=find []
theorem s_l12ModeT_ok:CallOk Tryz.prog s_l12ModeT:=find_ok (fN)
abbrev s_l12ModeK:List Nat:= [0,2]
theorem s_l12Mode_ev (N:Nat) (p:List D):evFn Tryz.prog s_l12ModeT N s_l12ModeK Tryz.f237 rb [⟨ri,p⟩]=some (bo,
 bif (gd p 0).int==1 then ob true
 else ob ((gd p 0).int==2)):=by kernel_rfl
def s_l12ModeF (p:List D):Bool:=
 bif (gd p 0).int==1 then true
 else (gd p 0).int==2
def s_l12ModeE:Ent:=(237,e1 ri fun p=>(⟨rb,[.b (s_l12ModeF [gd p 0])]⟩,true))
theorem s_l12Mode_ok:EntOk Tryz.prog s_l12ModeE:=e1_ok fun p h=>evFn_sound (N:=0) (ks:=s_l12ModeK) (key:=bo) s_l12ModeT_ok (enters Tryz.func237) Tryz.func237 fun hw=>by
 rw [s_l12Mode_ev]
 try simp only [cond_ob,cond_oi,cond_os]
 rfl
abbrev i_oneT:FuncId→List T→Option (T × Bool):=find []
theorem i_oneT_ok:CallOk Tryz.prog i_oneT:=find_ok (fN)
abbrev i_oneK:List Nat:= [0,2]
theorem i_one_ev (N:Nat) (p:List D):evFn Tryz.prog i_oneT N i_oneK Tryz.f113 (ag rIRange) [⟨ri,p⟩]=some (bo,
 some (1,[gd p 0,.i (w64 ((gd p 0).int+1))])):=by kernel_rfl
def i_oneE:Ent:=(113,e1 ri fun p=>(⟨ag rIRange,[(gd p 0),.i (w64 ((gd p 0).int+1))]⟩,true))
theorem i_one_ok:EntOk Tryz.prog i_oneE:=e1_ok fun p h=>evFn_sound (N:=0) (ks:=i_oneK) (key:=bo) i_oneT_ok (enters Tryz.func113) Tryz.func113 fun hw=>by
 rw [i_one_ev]
 skip
abbrev s_l10OneT:FuncId→List T→Option (T × Bool):=find []
theorem s_l10OneT_ok:CallOk Tryz.prog s_l10OneT:=find_ok (fN)
abbrev s_l10OneK:List Nat:= [0,2]
theorem s_l10One_ev (N:Nat) (p:List D):evFn Tryz.prog s_l10OneT N s_l10OneK Tryz.f98 (ag rIRange) [⟨ri,p⟩]=some (bo,
 some (1,[gd p 0,.i (w64 ((gd p 0).int+1))])):=by kernel_rfl
def s_l10OneE:Ent:=(98,e1 ri fun p=>(⟨ag rIRange,[(gd p 0),.i (w64 ((gd p 0).int+1))]⟩,true))
theorem s_l10One_ok:EntOk Tryz.prog s_l10OneE:=e1_ok fun p h=>evFn_sound (N:=0) (ks:=s_l10OneK) (key:=bo) s_l10OneT_ok (enters Tryz.func98) Tryz.func98 fun hw=>by
 rw [s_l10One_ev]
 skip
abbrev i_LkeysT:FuncId→List T→Option (T × Bool):=find []
theorem i_LkeysT_ok:CallOk Tryz.prog i_LkeysT:=find_ok (fN)
abbrev i_LkeysK:List Nat:= [0,1,2]
theorem i_Lkeys_ev (N:Nat) (p:List D):evFn Tryz.prog i_LkeysT N i_LkeysK Tryz.f160 (ag rIRange) [⟨ag rILock,p⟩]=some (bo,
 some (1,sub p 1 2)):=by kernel_rfl
def i_LkeysE:Ent:=(160,e1 (ag rILock) fun p=>(⟨ag rIRange,[(gd p 1),(gd p 2)]⟩,true))
theorem i_Lkeys_ok:EntOk Tryz.prog i_LkeysE:=e1_ok fun p h=>evFn_sound (N:=0) (ks:=i_LkeysK) (key:=bo) i_LkeysT_ok (enters Tryz.func160) Tryz.func160 fun hw=>by
 rw [i_Lkeys_ev]
 rfl
abbrev s_l12RangeT:FuncId→List T→Option (T × Bool):=find []
theorem s_l12RangeT_ok:CallOk Tryz.prog s_l12RangeT:=find_ok (fN)
abbrev s_l12RangeK:List Nat:= [0,1,2]
theorem s_l12Range_ev (N:Nat) (p:List D):evFn Tryz.prog s_l12RangeT N s_l12RangeK Tryz.f65 (ag rIRange) [⟨ag rILock,p⟩]=some (bo,
 some (1,sub p 1 2)):=by kernel_rfl
def s_l12RangeE:Ent:=(65,e1 (ag rILock) fun p=>(⟨ag rIRange,[(gd p 1),(gd p 2)]⟩,true))
theorem s_l12Range_ok:EntOk Tryz.prog s_l12RangeE:=e1_ok fun p h=>evFn_sound (N:=0) (ks:=s_l12RangeK) (key:=bo) s_l12RangeT_ok (enters Tryz.func65) Tryz.func65 fun hw=>by
 rw [s_l12Range_ev]
 rfl
abbrev i_meetsT:FuncId→List T→Option (T × Bool):=find []
theorem i_meetsT_ok:CallOk Tryz.prog i_meetsT:=find_ok (fN)
abbrev i_meetsK:List Nat:= [0,1,2,3,4]
theorem i_meets_ev (N:Nat) (p q:List D):evFn Tryz.prog i_meetsT N i_meetsK Tryz.f181 rb [⟨ag rIRange,p⟩,⟨ag rIRange,q⟩]=some (bo,
 bif ltI (gd p 0).int (gd q 1).int then ob (ltI (gd q 0).int (gd p 1).int)
 else ob false):=by kernel_rfl
def i_meetsF (p q:List D):Bool:=
 bif ltI (gd p 0).int (gd q 1).int then ltI (gd q 0).int (gd p 1).int
 else false
def i_meetsE:Ent:=(181,e2 (ag rIRange) (ag rIRange) fun p q=>(⟨rb,[.b (i_meetsF p q)]⟩,true))
theorem i_meets_ok:EntOk Tryz.prog i_meetsE:=e2_ok fun p q h=>evFn_sound (N:=0) (ks:=i_meetsK) (key:=bo) i_meetsT_ok (enters Tryz.func181) Tryz.func181 fun hw=>by
 rw [i_meets_ev]
 try simp only [cond_ob,cond_oi,cond_os]
 rfl
abbrev i_clashT:FuncId→List T→Option (T × Bool):=find [i_LkeysE,i_meetsE]
theorem i_clashT_ok:CallOk Tryz.prog i_clashT:=find_ok (fC ⟨i_Lkeys_ok,fC ⟨i_meets_ok,fN⟩⟩)
abbrev i_clashK:List Nat:= [0,1,2,3,4]
theorem i_clash_ev (N:Nat) (p q:List D):evFn Tryz.prog i_clashT N i_clashK Tryz.f231 rb [⟨ag rILock,p⟩,⟨ag rILock,q⟩]=some (bo,
 bif (gd p 0).int != (gd q 0).int then bif (gd p 3).int==2 then ob (i_meetsF [(gd p 1),(gd p 2)] [(gd q 1),(gd q 2)])
 else bif (gd q 3).int==2 then ob (i_meetsF [(gd p 1),(gd p 2)] [(gd q 1),(gd q 2)])
 else ob false
 else ob false):=by kernel_rfl
def i_clashF (p q:List D):Bool:=
 bif (gd p 0).int != (gd q 0).int then bif (gd p 3).int==2 then i_meetsF [(gd p 1),(gd p 2)] [(gd q 1),(gd q 2)]
 else bif (gd q 3).int==2 then i_meetsF [(gd p 1),(gd p 2)] [(gd q 1),(gd q 2)]
 else false
 else false
def i_clashE:Ent:=(231,e2 (ag rILock) (ag rILock) fun p q=>(⟨rb,[.b (i_clashF p q)]⟩,true))
theorem i_clash_ok:EntOk Tryz.prog i_clashE:=e2_ok fun p q h=>evFn_sound (N:=0) (ks:=i_clashK) (key:=bo) i_clashT_ok (enters Tryz.func231) Tryz.func231 fun hw=>by
 rw [i_clash_ev]
 try simp only [cond_ob,cond_oi,cond_os]
 rfl
abbrev s_l1MaxT:FuncId→List T→Option (T × Bool):=find []
theorem s_l1MaxT_ok:CallOk Tryz.prog s_l1MaxT:=find_ok (fN)
abbrev s_l1MaxK:List Nat:= [0,1,4,7]
theorem s_l1Max_ev (N:Nat) (p q:List D):evFn Tryz.prog s_l1MaxT N s_l1MaxK Tryz.f187 ri [⟨ri,p⟩,⟨ri,q⟩]=some (bo,
 bif ltI (gd q 0).int (gd p 0).int then some (1,[gd p 0])
 else some (1,[gd q 0])):=by kernel_rfl
def maxD (x y:D):D:=bif ltI y.int x.int then x else y
def minD (x y:D):D:=bif ltI x.int y.int then x else y
def s_l1MaxE:Ent:=(187,e2 ri ri fun p q=>(⟨ri,[maxD (gd p 0) (gd q 0)]⟩,true))
theorem s_l1Max_ok:EntOk Tryz.prog s_l1MaxE:=e2_ok fun p q h=>evFn_sound (N:=0) (ks:=s_l1MaxK) (key:=bo) s_l1MaxT_ok (enters Tryz.func187) Tryz.func187 fun hw=>by
 rw [s_l1Max_ev]
 show some (bo,bif ltI (gd q 0).int (gd p 0).int then some (1,[gd p 0]) else some (1,[gd q 0]))=some (bo,some (1,[bif ltI (gd q 0).int (gd p 0).int then gd p 0 else gd q 0]))
 cases ltI (gd q 0).int (gd p 0).int <;> rfl
abbrev s_l1MinT:FuncId→List T→Option (T × Bool):=find []
theorem s_l1MinT_ok:CallOk Tryz.prog s_l1MinT:=find_ok (fN)
abbrev s_l1MinK:List Nat:= [0,1,4,7]
theorem s_l1Min_ev (N:Nat) (p q:List D):evFn Tryz.prog s_l1MinT N s_l1MinK Tryz.f188 ri [⟨ri,p⟩,⟨ri,q⟩]=some (bo,
 bif ltI (gd p 0).int (gd q 0).int then some (1,[gd p 0])
 else some (1,[gd q 0])):=by kernel_rfl
def s_l1MinE:Ent:=(188,e2 ri ri fun p q=>(⟨ri,[minD (gd p 0) (gd q 0)]⟩,true))
theorem s_l1Min_ok:EntOk Tryz.prog s_l1MinE:=e2_ok fun p q h=>evFn_sound (N:=0) (ks:=s_l1MinK) (key:=bo) s_l1MinT_ok (enters Tryz.func188) Tryz.func188 fun hw=>by
 rw [s_l1Min_ev]
 show some (bo,bif ltI (gd p 0).int (gd q 0).int then some (1,[gd p 0]) else some (1,[gd q 0]))=some (bo,some (1,[bif ltI (gd p 0).int (gd q 0).int then gd p 0 else gd q 0]))
 cases ltI (gd p 0).int (gd q 0).int <;> rfl
abbrev s_RangeMeetT:FuncId→List T→Option (T × Bool):=find [s_l1MaxE,s_l1MinE,s_RangeOkE]
theorem s_RangeMeetT_ok:CallOk Tryz.prog s_RangeMeetT:=find_ok (fC ⟨s_l1Max_ok,fC ⟨s_l1Min_ok,fC ⟨s_RangeOk_ok,fN⟩⟩⟩)
abbrev s_RangeMeetK:List Nat:= [0,1,2,3,4,5,6,30]
theorem s_RangeMeet_ev (N:Nat) (p q:List D):evFn Tryz.prog s_RangeMeetT N s_RangeMeetK Tryz.f64 (.tup [.agg [.d si,.d si],.c (.d (.bool))]) [⟨ag rIRange,p⟩,⟨ag rIRange,q⟩]=some (bo,
 nd (sameP [[.i 0],[maxD (gd p 0) (gd q 0),minD (gd p 1) (gd q 1)],[minD (gd p 1) (gd q 1)],[maxD (gd p 0) (gd q 0)],[gd q 1],[.i 0],[gd p 1],[.i 0],[gd q 0],[.i 0],[gd p 0],[.i 0],p,q,[.i 0],[.i 0],[.i 0],[.i 0],[gd p 0,gd p 1],[gd q 0,gd q 1],[.i 0,.i 0],[maxD (gd p 0) (gd q 0),minD (gd p 1) (gd q 1)]] [[.i 0],[maxD (gd p 0) (gd q 0),minD (gd p 1) (gd q 1)],[minD (gd p 1) (gd q 1)],[maxD (gd p 0) (gd q 0)],[gd q 1],[.i 0],[gd p 1],[.i 0],[gd q 0],[.i 0],[gd p 0],[.i 0],p,q,[.i 0],[.i 0],[.i 0],[.i 0],[gd p 0,gd p 1],[gd q 0,gd q 1],[.i 0,.i 0],[maxD (gd p 0) (gd q 0),minD (gd p 1) (gd q 1)]]) (nd (sameP [[.i 0],[maxD (gd p 0) (gd q 0),minD (gd p 1) (gd q 1)],[minD (gd p 1) (gd q 1)],[maxD (gd p 0) (gd q 0)],[gd q 1],[.i 0],[gd p 1],[.i 0],[gd q 0],[.i 0],[gd p 0],[.i 0],p,q,[.i 0],[.i 0],[.i 0],[.i 0],[gd p 0,gd p 1],[gd q 0,gd q 1],[.i 0,.i 0],[maxD (gd p 0) (gd q 0),minD (gd p 1) (gd q 1)]] [[.i 0],[maxD (gd p 0) (gd q 0),minD (gd p 1) (gd q 1)],[minD (gd p 1) (gd q 1)],[maxD (gd p 0) (gd q 0)],[gd q 1],[.i 0],[gd p 1],[.i 0],[gd q 0],[.i 0],[gd p 0],[.i 0],p,q,[.i 0],[.i 0],[.i 0],[.i 0],[gd p 0,gd p 1],[gd q 0,gd q 1],[.i 0,.i 0],[maxD (gd p 0) (gd q 0),minD (gd p 1) (gd q 1)]]) (nd (sameP [[.i 0],[maxD (gd p 0) (gd q 0),minD (gd p 1) (gd q 1)],[minD (gd p 1) (gd q 1)],[maxD (gd p 0) (gd q 0)],[gd q 1],[.i 0],[gd p 1],[.i 0],[gd q 0],[.i 0],[gd p 0],[.i 0],p,q,[.i 0],[.i 0],[.i 0],[.i 0],[gd p 0,gd p 1],[gd q 0,gd q 1],[.i 0,.i 0],[maxD (gd p 0) (gd q 0),minD (gd p 1) (gd q 1)]] [[.i 0],[maxD (gd p 0) (gd q 0),minD (gd p 1) (gd q 1)],[minD (gd p 1) (gd q 1)],[maxD (gd p 0) (gd q 0)],[gd q 1],[.i 0],[gd p 1],[.i 0],[gd q 0],[.i 0],[gd p 0],[.i 0],p,q,[.i 0],[.i 0],[.i 0],[.i 0],[gd p 0,gd p 1],[gd q 0,gd q 1],[.i 0,.i 0],[maxD (gd p 0) (gd q 0),minD (gd p 1) (gd q 1)]]) (bif !(rangeOk (sub p 0 2)) then some (1,[.i 0,.i 0,.b false])
 else bif !(rangeOk (sub q 0 2)) then some (1,[.i 0,.i 0,.b false])
 else bif !(rangeOk [maxD (gd p 0) (gd q 0),minD (gd p 1) (gd q 1)]) then some (1,[.i 0,.i 0,.b false])
 else some (1,[maxD (gd p 0) (gd q 0),minD (gd p 1) (gd q 1),.b true]))))):=by kernel_rfl
def meetR (p q:List D):List D:=bif rangeOk p&&(rangeOk q&&rangeOk [maxD (gd p 0) (gd q 0),minD (gd p 1) (gd q 1)]) then [maxD (gd p 0) (gd q 0),minD (gd p 1) (gd q 1),.b true] else [.i 0,.i 0,.b false]
def meetB (p q:List D):Bool:=rangeOk p&&(rangeOk q&&rangeOk [maxD (gd p 0) (gd q 0),minD (gd p 1) (gd q 1)])
theorem meetR_2 (p q:List D):(gd (meetR p q) 2).bool=meetB p q:=by
 unfold meetR meetB
 cases rangeOk p&&(rangeOk q&&rangeOk [maxD (gd p 0) (gd q 0),minD (gd p 1) (gd q 1)]) <;> rfl
theorem bif_and (a b:Bool):(bif a then b else false)=(a&&b):=by cases a <;> rfl
theorem meetB_of {p q:List D} (hp:rangeOk p=true) (hq:rangeOk q=true):meetB p q=i_meetsF p q:=by
 unfold meetB i_meetsF
 rw [hp,hq,bif_and]
 simp only [rangeOk,Bool.and_eq_true,decide_eq_true_eq] at hp hq
 unfold rangeOk maxD minD ltI
 by_cases h1:(gd q 0).int<(gd p 0).int <;> by_cases h2:(gd p 1).int<(gd q 1).int <;> simp only [h1,h2,decide_true,decide_false,cond_true,cond_false,gd_cons_zero,gd_cons_succ] <;> rw [Bool.eq_iff_iff] <;> simp only [Bool.and_eq_true,decide_eq_true_eq,true_and] <;> omega
def s_RangeMeetE:Ent:=(64,e2 (ag rIRange) (ag rIRange) fun p q=>(⟨.tup [.agg [.d si,.d si],.c (.d (.bool))],sub (meetR p q) 0 3⟩,true))
theorem s_RangeMeet_ok:EntOk Tryz.prog s_RangeMeetE:=e2_ok fun p q h=>evFn_sound (N:=0) (ks:=s_RangeMeetK) (key:=bo) s_RangeMeetT_ok (enters Tryz.func64) Tryz.func64 fun hw=>by
 rw [s_RangeMeet_ev]
 simp only [sameP_self,nd_true]
 rw [show rangeOk (sub p 0 2)=rangeOk p from rfl,show rangeOk (sub q 0 2)=rangeOk q from rfl]
 unfold meetR
 cases rangeOk p <;> cases rangeOk q <;> try rfl
 cases rangeOk [maxD (gd p 0) (gd q 0),minD (gd p 1) (gd q 1)] <;> rfl
abbrev s_l12ClashT:FuncId→List T→Option (T × Bool):=find [s_l12RangeE,s_RangeMeetE]
theorem s_l12ClashT_ok:CallOk Tryz.prog s_l12ClashT:=find_ok (fC ⟨s_l12Range_ok,fC ⟨s_RangeMeet_ok,fN⟩⟩)
abbrev s_l12ClashK:List Nat:= [0,1,2,3,4,6]
theorem s_l12Clash_ev (N:Nat) (p q:List D):evFn Tryz.prog s_l12ClashT N s_l12ClashK Tryz.f238 rb [⟨ag rILock,p⟩,⟨ag rILock,q⟩]=some (bo,
 nd (sameP [[gd (meetR [(gd p 1),(gd p 2)] [(gd q 1),(gd q 2)]) 2],[.i 0],[gd (meetR [(gd p 1),(gd p 2)] [(gd q 1),(gd q 2)]) 2],[gd (meetR [(gd p 1),(gd p 2)] [(gd q 1),(gd q 2)]) 0,gd (meetR [(gd p 1),(gd p 2)] [(gd q 1),(gd q 2)]) 1],[gd (meetR [(gd p 1),(gd p 2)] [(gd q 1),(gd q 2)]) 0,gd (meetR [(gd p 1),(gd p 2)] [(gd q 1),(gd q 2)]) 1,gd (meetR [(gd p 1),(gd p 2)] [(gd q 1),(gd q 2)]) 2],[gd (meetR [(gd p 1),(gd p 2)] [(gd q 1),(gd q 2)]) 0,gd (meetR [(gd p 1),(gd p 2)] [(gd q 1),(gd q 2)]) 1,gd (meetR [(gd p 1),(gd p 2)] [(gd q 1),(gd q 2)]) 2],[(gd q 1),(gd q 2)],[(gd p 1),(gd p 2)],[gd q 0,gd q 1,gd q 2,gd q 3],[gd p 0,gd p 1,gd p 2,gd p 3],p,q,[.i 0],[.i 0],[.i 0],[gd p 0,gd p 1,gd p 2,gd p 3],[gd q 0,gd q 1,gd q 2,gd q 3],[gd (meetR [(gd p 1),(gd p 2)] [(gd q 1),(gd q 2)]) 0,gd (meetR [(gd p 1),(gd p 2)] [(gd q 1),(gd q 2)]) 1]] [[gd (meetR [(gd p 1),(gd p 2)] [(gd q 1),(gd q 2)]) 2],[.i 0],[gd (meetR [(gd p 1),(gd p 2)] [(gd q 1),(gd q 2)]) 2],[gd (meetR [(gd p 1),(gd p 2)] [(gd q 1),(gd q 2)]) 0,gd (meetR [(gd p 1),(gd p 2)] [(gd q 1),(gd q 2)]) 1],[gd (meetR [(gd p 1),(gd p 2)] [(gd q 1),(gd q 2)]) 0,gd (meetR [(gd p 1),(gd p 2)] [(gd q 1),(gd q 2)]) 1,gd (meetR [(gd p 1),(gd p 2)] [(gd q 1),(gd q 2)]) 2],[gd (meetR [(gd p 1),(gd p 2)] [(gd q 1),(gd q 2)]) 0,gd (meetR [(gd p 1),(gd p 2)] [(gd q 1),(gd q 2)]) 1,gd (meetR [(gd p 1),(gd p 2)] [(gd q 1),(gd q 2)]) 2],[(gd q 1),(gd q 2)],[(gd p 1),(gd p 2)],[gd q 0,gd q 1,gd q 2,gd q 3],[gd p 0,gd p 1,gd p 2,gd p 3],p,q,[.i 0],[.i 0],[.i 0],[gd p 0,gd p 1,gd p 2,gd p 3],[gd q 0,gd q 1,gd q 2,gd q 3],[gd (meetR [(gd p 1),(gd p 2)] [(gd q 1),(gd q 2)]) 0,gd (meetR [(gd p 1),(gd p 2)] [(gd q 1),(gd q 2)]) 1]]) (nd (sameP [[gd (meetR [(gd p 1),(gd p 2)] [(gd q 1),(gd q 2)]) 2],[.i 0],[gd (meetR [(gd p 1),(gd p 2)] [(gd q 1),(gd q 2)]) 2],[gd (meetR [(gd p 1),(gd p 2)] [(gd q 1),(gd q 2)]) 0,gd (meetR [(gd p 1),(gd p 2)] [(gd q 1),(gd q 2)]) 1],[gd (meetR [(gd p 1),(gd p 2)] [(gd q 1),(gd q 2)]) 0,gd (meetR [(gd p 1),(gd p 2)] [(gd q 1),(gd q 2)]) 1,gd (meetR [(gd p 1),(gd p 2)] [(gd q 1),(gd q 2)]) 2],[gd (meetR [(gd p 1),(gd p 2)] [(gd q 1),(gd q 2)]) 0,gd (meetR [(gd p 1),(gd p 2)] [(gd q 1),(gd q 2)]) 1,gd (meetR [(gd p 1),(gd p 2)] [(gd q 1),(gd q 2)]) 2],[(gd q 1),(gd q 2)],[(gd p 1),(gd p 2)],[gd q 0,gd q 1,gd q 2,gd q 3],[gd p 0,gd p 1,gd p 2,gd p 3],p,q,[.i 0],[.i 0],[.i 0],[gd p 0,gd p 1,gd p 2,gd p 3],[gd q 0,gd q 1,gd q 2,gd q 3],[gd (meetR [(gd p 1),(gd p 2)] [(gd q 1),(gd q 2)]) 0,gd (meetR [(gd p 1),(gd p 2)] [(gd q 1),(gd q 2)]) 1]] [[gd (meetR [(gd p 1),(gd p 2)] [(gd q 1),(gd q 2)]) 2],[.i 0],[gd (meetR [(gd p 1),(gd p 2)] [(gd q 1),(gd q 2)]) 2],[gd (meetR [(gd p 1),(gd p 2)] [(gd q 1),(gd q 2)]) 0,gd (meetR [(gd p 1),(gd p 2)] [(gd q 1),(gd q 2)]) 1],[gd (meetR [(gd p 1),(gd p 2)] [(gd q 1),(gd q 2)]) 0,gd (meetR [(gd p 1),(gd p 2)] [(gd q 1),(gd q 2)]) 1,gd (meetR [(gd p 1),(gd p 2)] [(gd q 1),(gd q 2)]) 2],[gd (meetR [(gd p 1),(gd p 2)] [(gd q 1),(gd q 2)]) 0,gd (meetR [(gd p 1),(gd p 2)] [(gd q 1),(gd q 2)]) 1,gd (meetR [(gd p 1),(gd p 2)] [(gd q 1),(gd q 2)]) 2],[(gd q 1),(gd q 2)],[(gd p 1),(gd p 2)],[gd q 0,gd q 1,gd q 2,gd q 3],[gd p 0,gd p 1,gd p 2,gd p 3],p,q,[.i 0],[.i 0],[.i 0],[gd p 0,gd p 1,gd p 2,gd p 3],[gd q 0,gd q 1,gd q 2,gd q 3],[gd (meetR [(gd p 1),(gd p 2)] [(gd q 1),(gd q 2)]) 0,gd (meetR [(gd p 1),(gd p 2)] [(gd q 1),(gd q 2)]) 1]]) (nd (sameP [[gd (meetR [(gd p 1),(gd p 2)] [(gd q 1),(gd q 2)]) 2],[.i 0],[gd (meetR [(gd p 1),(gd p 2)] [(gd q 1),(gd q 2)]) 2],[gd (meetR [(gd p 1),(gd p 2)] [(gd q 1),(gd q 2)]) 0,gd (meetR [(gd p 1),(gd p 2)] [(gd q 1),(gd q 2)]) 1],[gd (meetR [(gd p 1),(gd p 2)] [(gd q 1),(gd q 2)]) 0,gd (meetR [(gd p 1),(gd p 2)] [(gd q 1),(gd q 2)]) 1,gd (meetR [(gd p 1),(gd p 2)] [(gd q 1),(gd q 2)]) 2],[gd (meetR [(gd p 1),(gd p 2)] [(gd q 1),(gd q 2)]) 0,gd (meetR [(gd p 1),(gd p 2)] [(gd q 1),(gd q 2)]) 1,gd (meetR [(gd p 1),(gd p 2)] [(gd q 1),(gd q 2)]) 2],[(gd q 1),(gd q 2)],[(gd p 1),(gd p 2)],[gd q 0,gd q 1,gd q 2,gd q 3],[gd p 0,gd p 1,gd p 2,gd p 3],p,q,[.i 0],[.i 0],[.i 0],[gd p 0,gd p 1,gd p 2,gd p 3],[gd q 0,gd q 1,gd q 2,gd q 3],[gd (meetR [(gd p 1),(gd p 2)] [(gd q 1),(gd q 2)]) 0,gd (meetR [(gd p 1),(gd p 2)] [(gd q 1),(gd q 2)]) 1]] [[gd (meetR [(gd p 1),(gd p 2)] [(gd q 1),(gd q 2)]) 2],[.i 0],[gd (meetR [(gd p 1),(gd p 2)] [(gd q 1),(gd q 2)]) 2],[gd (meetR [(gd p 1),(gd p 2)] [(gd q 1),(gd q 2)]) 0,gd (meetR [(gd p 1),(gd p 2)] [(gd q 1),(gd q 2)]) 1],[gd (meetR [(gd p 1),(gd p 2)] [(gd q 1),(gd q 2)]) 0,gd (meetR [(gd p 1),(gd p 2)] [(gd q 1),(gd q 2)]) 1,gd (meetR [(gd p 1),(gd p 2)] [(gd q 1),(gd q 2)]) 2],[gd (meetR [(gd p 1),(gd p 2)] [(gd q 1),(gd q 2)]) 0,gd (meetR [(gd p 1),(gd p 2)] [(gd q 1),(gd q 2)]) 1,gd (meetR [(gd p 1),(gd p 2)] [(gd q 1),(gd q 2)]) 2],[(gd q 1),(gd q 2)],[(gd p 1),(gd p 2)],[gd q 0,gd q 1,gd q 2,gd q 3],[gd p 0,gd p 1,gd p 2,gd p 3],p,q,[.i 0],[.i 0],[.i 0],[gd p 0,gd p 1,gd p 2,gd p 3],[gd q 0,gd q 1,gd q 2,gd q 3],[gd (meetR [(gd p 1),(gd p 2)] [(gd q 1),(gd q 2)]) 0,gd (meetR [(gd p 1),(gd p 2)] [(gd q 1),(gd q 2)]) 1]]) (nd (sameP [[gd (meetR [(gd p 1),(gd p 2)] [(gd q 1),(gd q 2)]) 2],[.i 0],[gd (meetR [(gd p 1),(gd p 2)] [(gd q 1),(gd q 2)]) 2],[gd (meetR [(gd p 1),(gd p 2)] [(gd q 1),(gd q 2)]) 0,gd (meetR [(gd p 1),(gd p 2)] [(gd q 1),(gd q 2)]) 1],[gd (meetR [(gd p 1),(gd p 2)] [(gd q 1),(gd q 2)]) 0,gd (meetR [(gd p 1),(gd p 2)] [(gd q 1),(gd q 2)]) 1,gd (meetR [(gd p 1),(gd p 2)] [(gd q 1),(gd q 2)]) 2],[gd (meetR [(gd p 1),(gd p 2)] [(gd q 1),(gd q 2)]) 0,gd (meetR [(gd p 1),(gd p 2)] [(gd q 1),(gd q 2)]) 1,gd (meetR [(gd p 1),(gd p 2)] [(gd q 1),(gd q 2)]) 2],[(gd q 1),(gd q 2)],[(gd p 1),(gd p 2)],[gd q 0,gd q 1,gd q 2,gd q 3],[gd p 0,gd p 1,gd p 2,gd p 3],p,q,[.i 0],[.i 0],[.i 0],[gd p 0,gd p 1,gd p 2,gd p 3],[gd q 0,gd q 1,gd q 2,gd q 3],[gd (meetR [(gd p 1),(gd p 2)] [(gd q 1),(gd q 2)]) 0,gd (meetR [(gd p 1),(gd p 2)] [(gd q 1),(gd q 2)]) 1]] [[gd (meetR [(gd p 1),(gd p 2)] [(gd q 1),(gd q 2)]) 2],[.i 0],[gd (meetR [(gd p 1),(gd p 2)] [(gd q 1),(gd q 2)]) 2],[gd (meetR [(gd p 1),(gd p 2)] [(gd q 1),(gd q 2)]) 0,gd (meetR [(gd p 1),(gd p 2)] [(gd q 1),(gd q 2)]) 1],[gd (meetR [(gd p 1),(gd p 2)] [(gd q 1),(gd q 2)]) 0,gd (meetR [(gd p 1),(gd p 2)] [(gd q 1),(gd q 2)]) 1,gd (meetR [(gd p 1),(gd p 2)] [(gd q 1),(gd q 2)]) 2],[gd (meetR [(gd p 1),(gd p 2)] [(gd q 1),(gd q 2)]) 0,gd (meetR [(gd p 1),(gd p 2)] [(gd q 1),(gd q 2)]) 1,gd (meetR [(gd p 1),(gd p 2)] [(gd q 1),(gd q 2)]) 2],[(gd q 1),(gd q 2)],[(gd p 1),(gd p 2)],[gd q 0,gd q 1,gd q 2,gd q 3],[gd p 0,gd p 1,gd p 2,gd p 3],p,q,[.i 0],[.i 0],[.i 0],[gd p 0,gd p 1,gd p 2,gd p 3],[gd q 0,gd q 1,gd q 2,gd q 3],[gd (meetR [(gd p 1),(gd p 2)] [(gd q 1),(gd q 2)]) 0,gd (meetR [(gd p 1),(gd p 2)] [(gd q 1),(gd q 2)]) 1]]) (nd (sameP [[gd (meetR [(gd p 1),(gd p 2)] [(gd q 1),(gd q 2)]) 2],[.i 0],[gd (meetR [(gd p 1),(gd p 2)] [(gd q 1),(gd q 2)]) 2],[gd (meetR [(gd p 1),(gd p 2)] [(gd q 1),(gd q 2)]) 0,gd (meetR [(gd p 1),(gd p 2)] [(gd q 1),(gd q 2)]) 1],[gd (meetR [(gd p 1),(gd p 2)] [(gd q 1),(gd q 2)]) 0,gd (meetR [(gd p 1),(gd p 2)] [(gd q 1),(gd q 2)]) 1,gd (meetR [(gd p 1),(gd p 2)] [(gd q 1),(gd q 2)]) 2],[gd (meetR [(gd p 1),(gd p 2)] [(gd q 1),(gd q 2)]) 0,gd (meetR [(gd p 1),(gd p 2)] [(gd q 1),(gd q 2)]) 1,gd (meetR [(gd p 1),(gd p 2)] [(gd q 1),(gd q 2)]) 2],[(gd q 1),(gd q 2)],[(gd p 1),(gd p 2)],[gd q 0,gd q 1,gd q 2,gd q 3],[gd p 0,gd p 1,gd p 2,gd p 3],p,q,[.i 0],[.i 0],[.i 0],[gd p 0,gd p 1,gd p 2,gd p 3],[gd q 0,gd q 1,gd q 2,gd q 3],[gd (meetR [(gd p 1),(gd p 2)] [(gd q 1),(gd q 2)]) 0,gd (meetR [(gd p 1),(gd p 2)] [(gd q 1),(gd q 2)]) 1]] [[gd (meetR [(gd p 1),(gd p 2)] [(gd q 1),(gd q 2)]) 2],[.i 0],[gd (meetR [(gd p 1),(gd p 2)] [(gd q 1),(gd q 2)]) 2],[gd (meetR [(gd p 1),(gd p 2)] [(gd q 1),(gd q 2)]) 0,gd (meetR [(gd p 1),(gd p 2)] [(gd q 1),(gd q 2)]) 1],[gd (meetR [(gd p 1),(gd p 2)] [(gd q 1),(gd q 2)]) 0,gd (meetR [(gd p 1),(gd p 2)] [(gd q 1),(gd q 2)]) 1,gd (meetR [(gd p 1),(gd p 2)] [(gd q 1),(gd q 2)]) 2],[gd (meetR [(gd p 1),(gd p 2)] [(gd q 1),(gd q 2)]) 0,gd (meetR [(gd p 1),(gd p 2)] [(gd q 1),(gd q 2)]) 1,gd (meetR [(gd p 1),(gd p 2)] [(gd q 1),(gd q 2)]) 2],[(gd q 1),(gd q 2)],[(gd p 1),(gd p 2)],[gd q 0,gd q 1,gd q 2,gd q 3],[gd p 0,gd p 1,gd p 2,gd p 3],p,q,[.i 0],[.i 0],[.i 0],[gd p 0,gd p 1,gd p 2,gd p 3],[gd q 0,gd q 1,gd q 2,gd q 3],[gd (meetR [(gd p 1),(gd p 2)] [(gd q 1),(gd q 2)]) 0,gd (meetR [(gd p 1),(gd p 2)] [(gd q 1),(gd q 2)]) 1]]) (nd (sameP [[gd (meetR [(gd p 1),(gd p 2)] [(gd q 1),(gd q 2)]) 2],[.i 0],[gd (meetR [(gd p 1),(gd p 2)] [(gd q 1),(gd q 2)]) 2],[gd (meetR [(gd p 1),(gd p 2)] [(gd q 1),(gd q 2)]) 0,gd (meetR [(gd p 1),(gd p 2)] [(gd q 1),(gd q 2)]) 1],[gd (meetR [(gd p 1),(gd p 2)] [(gd q 1),(gd q 2)]) 0,gd (meetR [(gd p 1),(gd p 2)] [(gd q 1),(gd q 2)]) 1,gd (meetR [(gd p 1),(gd p 2)] [(gd q 1),(gd q 2)]) 2],[gd (meetR [(gd p 1),(gd p 2)] [(gd q 1),(gd q 2)]) 0,gd (meetR [(gd p 1),(gd p 2)] [(gd q 1),(gd q 2)]) 1,gd (meetR [(gd p 1),(gd p 2)] [(gd q 1),(gd q 2)]) 2],[(gd q 1),(gd q 2)],[(gd p 1),(gd p 2)],[gd q 0,gd q 1,gd q 2,gd q 3],[gd p 0,gd p 1,gd p 2,gd p 3],p,q,[.i 0],[.i 0],[.i 0],[gd p 0,gd p 1,gd p 2,gd p 3],[gd q 0,gd q 1,gd q 2,gd q 3],[gd (meetR [(gd p 1),(gd p 2)] [(gd q 1),(gd q 2)]) 0,gd (meetR [(gd p 1),(gd p 2)] [(gd q 1),(gd q 2)]) 1]] [[gd (meetR [(gd p 1),(gd p 2)] [(gd q 1),(gd q 2)]) 2],[.i 0],[gd (meetR [(gd p 1),(gd p 2)] [(gd q 1),(gd q 2)]) 2],[gd (meetR [(gd p 1),(gd p 2)] [(gd q 1),(gd q 2)]) 0,gd (meetR [(gd p 1),(gd p 2)] [(gd q 1),(gd q 2)]) 1],[gd (meetR [(gd p 1),(gd p 2)] [(gd q 1),(gd q 2)]) 0,gd (meetR [(gd p 1),(gd p 2)] [(gd q 1),(gd q 2)]) 1,gd (meetR [(gd p 1),(gd p 2)] [(gd q 1),(gd q 2)]) 2],[gd (meetR [(gd p 1),(gd p 2)] [(gd q 1),(gd q 2)]) 0,gd (meetR [(gd p 1),(gd p 2)] [(gd q 1),(gd q 2)]) 1,gd (meetR [(gd p 1),(gd p 2)] [(gd q 1),(gd q 2)]) 2],[(gd q 1),(gd q 2)],[(gd p 1),(gd p 2)],[gd q 0,gd q 1,gd q 2,gd q 3],[gd p 0,gd p 1,gd p 2,gd p 3],p,q,[.i 0],[.i 0],[.i 0],[gd p 0,gd p 1,gd p 2,gd p 3],[gd q 0,gd q 1,gd q 2,gd q 3],[gd (meetR [(gd p 1),(gd p 2)] [(gd q 1),(gd q 2)]) 0,gd (meetR [(gd p 1),(gd p 2)] [(gd q 1),(gd q 2)]) 1]]) (nd (sameP [[gd (meetR [(gd p 1),(gd p 2)] [(gd q 1),(gd q 2)]) 2],[.i 0],[gd (meetR [(gd p 1),(gd p 2)] [(gd q 1),(gd q 2)]) 2],[gd (meetR [(gd p 1),(gd p 2)] [(gd q 1),(gd q 2)]) 0,gd (meetR [(gd p 1),(gd p 2)] [(gd q 1),(gd q 2)]) 1],[gd (meetR [(gd p 1),(gd p 2)] [(gd q 1),(gd q 2)]) 0,gd (meetR [(gd p 1),(gd p 2)] [(gd q 1),(gd q 2)]) 1,gd (meetR [(gd p 1),(gd p 2)] [(gd q 1),(gd q 2)]) 2],[gd (meetR [(gd p 1),(gd p 2)] [(gd q 1),(gd q 2)]) 0,gd (meetR [(gd p 1),(gd p 2)] [(gd q 1),(gd q 2)]) 1,gd (meetR [(gd p 1),(gd p 2)] [(gd q 1),(gd q 2)]) 2],[(gd q 1),(gd q 2)],[(gd p 1),(gd p 2)],[gd q 0,gd q 1,gd q 2,gd q 3],[gd p 0,gd p 1,gd p 2,gd p 3],p,q,[.i 0],[.i 0],[.i 0],[gd p 0,gd p 1,gd p 2,gd p 3],[gd q 0,gd q 1,gd q 2,gd q 3],[gd (meetR [(gd p 1),(gd p 2)] [(gd q 1),(gd q 2)]) 0,gd (meetR [(gd p 1),(gd p 2)] [(gd q 1),(gd q 2)]) 1]] [[gd (meetR [(gd p 1),(gd p 2)] [(gd q 1),(gd q 2)]) 2],[.i 0],[gd (meetR [(gd p 1),(gd p 2)] [(gd q 1),(gd q 2)]) 2],[gd (meetR [(gd p 1),(gd p 2)] [(gd q 1),(gd q 2)]) 0,gd (meetR [(gd p 1),(gd p 2)] [(gd q 1),(gd q 2)]) 1],[gd (meetR [(gd p 1),(gd p 2)] [(gd q 1),(gd q 2)]) 0,gd (meetR [(gd p 1),(gd p 2)] [(gd q 1),(gd q 2)]) 1,gd (meetR [(gd p 1),(gd p 2)] [(gd q 1),(gd q 2)]) 2],[gd (meetR [(gd p 1),(gd p 2)] [(gd q 1),(gd q 2)]) 0,gd (meetR [(gd p 1),(gd p 2)] [(gd q 1),(gd q 2)]) 1,gd (meetR [(gd p 1),(gd p 2)] [(gd q 1),(gd q 2)]) 2],[(gd q 1),(gd q 2)],[(gd p 1),(gd p 2)],[gd q 0,gd q 1,gd q 2,gd q 3],[gd p 0,gd p 1,gd p 2,gd p 3],p,q,[.i 0],[.i 0],[.i 0],[gd p 0,gd p 1,gd p 2,gd p 3],[gd q 0,gd q 1,gd q 2,gd q 3],[gd (meetR [(gd p 1),(gd p 2)] [(gd q 1),(gd q 2)]) 0,gd (meetR [(gd p 1),(gd p 2)] [(gd q 1),(gd q 2)]) 1]]) (nd (sameP [[gd (meetR [(gd p 1),(gd p 2)] [(gd q 1),(gd q 2)]) 2],[.i 0],[gd (meetR [(gd p 1),(gd p 2)] [(gd q 1),(gd q 2)]) 2],[gd (meetR [(gd p 1),(gd p 2)] [(gd q 1),(gd q 2)]) 0,gd (meetR [(gd p 1),(gd p 2)] [(gd q 1),(gd q 2)]) 1],[gd (meetR [(gd p 1),(gd p 2)] [(gd q 1),(gd q 2)]) 0,gd (meetR [(gd p 1),(gd p 2)] [(gd q 1),(gd q 2)]) 1,gd (meetR [(gd p 1),(gd p 2)] [(gd q 1),(gd q 2)]) 2],[gd (meetR [(gd p 1),(gd p 2)] [(gd q 1),(gd q 2)]) 0,gd (meetR [(gd p 1),(gd p 2)] [(gd q 1),(gd q 2)]) 1,gd (meetR [(gd p 1),(gd p 2)] [(gd q 1),(gd q 2)]) 2],[(gd q 1),(gd q 2)],[(gd p 1),(gd p 2)],[gd q 0,gd q 1,gd q 2,gd q 3],[gd p 0,gd p 1,gd p 2,gd p 3],p,q,[.i 0],[.i 0],[.i 0],[gd p 0,gd p 1,gd p 2,gd p 3],[gd q 0,gd q 1,gd q 2,gd q 3],[gd (meetR [(gd p 1),(gd p 2)] [(gd q 1),(gd q 2)]) 0,gd (meetR [(gd p 1),(gd p 2)] [(gd q 1),(gd q 2)]) 1]] [[gd (meetR [(gd p 1),(gd p 2)] [(gd q 1),(gd q 2)]) 2],[.i 0],[gd (meetR [(gd p 1),(gd p 2)] [(gd q 1),(gd q 2)]) 2],[gd (meetR [(gd p 1),(gd p 2)] [(gd q 1),(gd q 2)]) 0,gd (meetR [(gd p 1),(gd p 2)] [(gd q 1),(gd q 2)]) 1],[gd (meetR [(gd p 1),(gd p 2)] [(gd q 1),(gd q 2)]) 0,gd (meetR [(gd p 1),(gd p 2)] [(gd q 1),(gd q 2)]) 1,gd (meetR [(gd p 1),(gd p 2)] [(gd q 1),(gd q 2)]) 2],[gd (meetR [(gd p 1),(gd p 2)] [(gd q 1),(gd q 2)]) 0,gd (meetR [(gd p 1),(gd p 2)] [(gd q 1),(gd q 2)]) 1,gd (meetR [(gd p 1),(gd p 2)] [(gd q 1),(gd q 2)]) 2],[(gd q 1),(gd q 2)],[(gd p 1),(gd p 2)],[gd q 0,gd q 1,gd q 2,gd q 3],[gd p 0,gd p 1,gd p 2,gd p 3],p,q,[.i 0],[.i 0],[.i 0],[gd p 0,gd p 1,gd p 2,gd p 3],[gd q 0,gd q 1,gd q 2,gd q 3],[gd (meetR [(gd p 1),(gd p 2)] [(gd q 1),(gd q 2)]) 0,gd (meetR [(gd p 1),(gd p 2)] [(gd q 1),(gd q 2)]) 1]]) (bif (gd (meetR [(gd p 1),(gd p 2)] [(gd q 1),(gd q 2)]) 2).bool then bif (gd p 0).int != (gd q 0).int then bif (gd p 3).int==2 then ob true
 else ob ((gd q 3).int==2)
 else ob false
 else ob false))))))))):=by kernel_rfl
def clashS (p q:List D):Bool:=meetB [gd p 1,gd p 2] [gd q 1,gd q 2]&&(!((gd p 0).int==(gd q 0).int)&&(((gd p 3).int==2)||((gd q 3).int==2)))
theorem clashS_of {p q:List D} (hp:rangeOk [gd p 1,gd p 2]=true) (hq:rangeOk [gd q 1,gd q 2]=true):clashS p q=i_clashF p q:=by
 unfold clashS i_clashF
 rw [meetB_of hp hq,bne_not]
 cases (gd p 0).int==(gd q 0).int <;> cases (gd p 3).int==2 <;> cases (gd q 3).int==2 <;> cases i_meetsF [gd p 1,gd p 2] [gd q 1,gd q 2] <;> rfl
def s_l12ClashE:Ent:=(238,e2 (ag rILock) (ag rILock) fun p q=>(⟨rb,[.b (clashS p q)]⟩,true))
theorem s_l12Clash_ok:EntOk Tryz.prog s_l12ClashE:=e2_ok fun p q h=>evFn_sound (N:=0) (ks:=s_l12ClashK) (key:=bo) s_l12ClashT_ok (enters Tryz.func238) Tryz.func238 fun hw=>by
 rw [s_l12Clash_ev]
 simp only [sameP_self,nd_true,meetR_2,bne_not]
 unfold clashS
 cases meetB [gd p 1,gd p 2] [gd q 1,gd q 2] <;> cases (gd p 0).int==(gd q 0).int <;> cases (gd p 3).int==2 <;> cases (gd q 3).int==2 <;> rfl
abbrev s_RangeInT:FuncId→List T→Option (T × Bool):=find [s_RangeOkE]
theorem s_RangeInT_ok:CallOk Tryz.prog s_RangeInT:=find_ok (fC ⟨s_RangeOk_ok,fN⟩)
abbrev s_RangeInK:List Nat:= [0,1,2,3,4]
theorem s_RangeIn_ev (N:Nat) (p q:List D):evFn Tryz.prog s_RangeInT N s_RangeInK Tryz.f202 rb [⟨ag rIRange,p⟩,⟨ag rIRange,q⟩]=some (bo,
 bif rangeOk (sub p 0 2) then bif rangeOk (sub q 0 2) then bif leI (gd q 0).int (gd p 0).int then ob (leI (gd p 1).int (gd q 1).int)
 else ob false
 else ob false
 else ob false):=by kernel_rfl
def s_RangeInF (p q:List D):Bool:=
 bif rangeOk (sub p 0 2) then bif rangeOk (sub q 0 2) then bif leI (gd q 0).int (gd p 0).int then leI (gd p 1).int (gd q 1).int
 else false
 else false
 else false
def s_RangeInE:Ent:=(202,e2 (ag rIRange) (ag rIRange) fun p q=>(⟨rb,[.b (s_RangeInF p q)]⟩,true))
theorem s_RangeIn_ok:EntOk Tryz.prog s_RangeInE:=e2_ok fun p q h=>evFn_sound (N:=0) (ks:=s_RangeInK) (key:=bo) s_RangeInT_ok (enters Tryz.func202) Tryz.func202 fun hw=>by
 rw [s_RangeIn_ev]
 try simp only [cond_ob,cond_oi,cond_os]
 rfl
theorem any_loop {L:List D→Out} (st:Nat→List D) (n:Nat) (C:Nat→Bool) (v:List D) (j:Nat) (h1:∀ k,k<n→L (st k)=some (bif C k then (1,v) else (0,st (k+1)))) (h2:L (st n)=some (j+2,st n)) {N:Nat} (hN:n<N) :
  iter L N (st 0)=some (bif (List.range n).any C then (1,v) else (j+2,st n)):=by
 have e:=for_loop st n (fun k => !C k) v j (fun k hk=>by rw [h1 k hk]; cases C k <;> rfl) h2 hN
 rw [e,not_any]
 cases (List.range n).any C <;> rfl
abbrev i_LocksOk_1T:FuncId→List T→Option (T × Bool):=find [i_clashE]
theorem i_LocksOk_1T_ok:CallOk Tryz.prog i_LocksOk_1T:=find_ok (fC ⟨i_clash_ok,fN⟩)
abbrev i_LocksOk_1K:List Nat:= [0,1,2,3]
theorem i_LocksOk_1_ev (N:Nat) (p q:List D):evFn Tryz.prog i_LocksOk_1T N i_LocksOk_1K Tryz.f230 rb [⟨ag rILock,p⟩,⟨.one (.c (.cptr [si,si,si,si] 0)),q⟩]=some (bo,
 ob (i_clashF (sub ((gd q 0).rows.getD 0 []) 0 4) (sub p 0 4))):=by kernel_rfl
def i_LocksOk_1F (p q:List D):Bool:=
 i_clashF (sub ((gd q 0).rows.getD 0 []) 0 4) (sub p 0 4)
def i_LocksOk_1E:Ent:=(230,e2 (ag rILock) (.one (.c (.cptr [si,si,si,si] 0))) fun p q=>(⟨rb,[.b (i_LocksOk_1F p [gd q 0])]⟩,true))
theorem i_LocksOk_1_ok:EntOk Tryz.prog i_LocksOk_1E:=e2_ok fun p q h=>evFn_sound (N:=0) (ks:=i_LocksOk_1K) (key:=bo) i_LocksOk_1T_ok (enters Tryz.func230) Tryz.func230 fun hw=>by
 rw [i_LocksOk_1_ev]
 try simp only [cond_ob,cond_oi,cond_os]
 rfl
abbrev i_LocksHold_1T:FuncId→List T→Option (T × Bool):=find []
theorem i_LocksHold_1T_ok:CallOk Tryz.prog i_LocksHold_1T:=find_ok (fN)
abbrev i_LocksHold_1K:List Nat:= [0,1,2,3,4,5]
theorem i_LocksHold_1_ev (N:Nat) (p q r s:List D):evFn Tryz.prog i_LocksHold_1T N i_LocksHold_1K Tryz.f177 rb [⟨ag rILock,p⟩,⟨.one (.c (.cptr [si] 0)),q⟩,⟨.one (.c (.cptr [si] 0)),r⟩,⟨.one (.c (.cptr [si,si] 0)),s⟩]=some (bo,
 bif (gd p 0).int==(gd ((gd q 0).rows.getD 0 []) 0).int then bif (gd p 3).int==(gd ((gd r 0).rows.getD 0 []) 0).int then bif leI (gd p 1).int (gd ((gd s 0).rows.getD 0 []) 0).int then ob (leI (gd ((gd s 0).rows.getD 0 []) 1).int (gd p 2).int)
 else ob false
 else bif (gd p 3).int==2 then bif leI (gd p 1).int (gd ((gd s 0).rows.getD 0 []) 0).int then ob (leI (gd ((gd s 0).rows.getD 0 []) 1).int (gd p 2).int)
 else ob false
 else ob false
 else ob false):=by kernel_rfl
def i_LocksHold_1F (p q r s:List D):Bool:=
 bif (gd p 0).int==(gd ((gd q 0).rows.getD 0 []) 0).int then bif (gd p 3).int==(gd ((gd r 0).rows.getD 0 []) 0).int then bif leI (gd p 1).int (gd ((gd s 0).rows.getD 0 []) 0).int then leI (gd ((gd s 0).rows.getD 0 []) 1).int (gd p 2).int
 else false
 else bif (gd p 3).int==2 then bif leI (gd p 1).int (gd ((gd s 0).rows.getD 0 []) 0).int then leI (gd ((gd s 0).rows.getD 0 []) 1).int (gd p 2).int
 else false
 else false
 else false
def i_LocksHold_1E:Ent:=(177,e4 (ag rILock) (.one (.c (.cptr [si] 0))) (.one (.c (.cptr [si] 0))) (.one (.c (.cptr [si,si] 0))) fun p q r s=>(⟨rb,[.b (i_LocksHold_1F p [gd q 0] [gd r 0] [gd s 0])]⟩,true))
theorem i_LocksHold_1_ok:EntOk Tryz.prog i_LocksHold_1E:=e4_ok fun p q r s h=>evFn_sound (N:=0) (ks:=i_LocksHold_1K) (key:=bo) i_LocksHold_1T_ok (enters Tryz.func177) Tryz.func177 fun hw=>by
 rw [i_LocksHold_1_ev]
 try simp only [cond_ob,cond_oi,cond_os]
 rfl
end Go.Proofs.YtpdfmcmnjikppaaGreat
namespace Go.Proofs.YtpdfmcmnjikppaaGreat
set_option maxRecDepth 4096
abbrev ixfLOT:FuncId→List T→Option (T × Bool):=find [i_LocksOk_1E]
theorem ixfLOT_ok:CallOk Tryz.prog ixfLOT:=find_ok (fC ⟨i_LocksOk_1_ok,fN⟩)
abbrev ixfLOK:List Nat:= [0,1,4,5,7,8,9,16]
noncomputable def ixfLOL0 (N:Nat) (p q:List D):List D→Out:=loopOf Tryz.prog ixfLOT N ixfLOK Tryz.f234 ri [⟨sd (.sl 93),p⟩,⟨.one (.c (.fn 230 [.cptr [si,si,si,si] 0])),q⟩] 0
theorem ixfLOR0 (N:Nat) (p q:List D) (x0 x1 x2 x3 x4:D):(ixfLOL0 N p q) [x0,x1,x2,x3,x4] =
 bif ltI x4.int x3.int then nd (inRange x4.int x0.rows.length) (bif i_LocksOk_1F (sub (x0.rows.getD x4.int.toNat []) 0 4) [(gd (x1.rows.getD 0 []) 0)] then some (1,[x4])
 else nx [x0,x1,x2,x3,.i (w64 (x4.int+1))])
 else ex 0 [x0,x1,x2,x3,x4]:=by kernel_rfl
theorem ixfLO_ev (N:Nat) (p q:List D):evFn Tryz.prog ixfLOT N ixfLOK Tryz.f234 ri [⟨sd (.sl 93),p⟩,⟨.one (.c (.fn 230 [.cptr [si,si,si,si] 0])),q⟩]=some (bo,
 (let o0:=iter (ixfLOL0 N p q) N [gd p 0,gd q 0,.i 0,.i ((gd p 0).rows.length:Int),.i 0]
  nd o0.isSome (bif o0.code==1 then some (1,o0.pay)
  else nd (o0.code==2) (oi (-1))))):=by kernel_rfl
def ixfLOC (c:D) (r:List D):Bool:=i_LocksOk_1F r [gd (c.rows.getD 0 []) 0]
def ixfLOE:Ent:=(234,e2 (sd (.sl 93)) (.one (.c (.fn 230 [.cptr [si,si,si,si] 0]))) fun p q=>(⟨ri,[.i (ixF (fun k=>ixfLOC (gd q 0) (sub ((gd p 0).rows.getD k []) 0 4)) 0 (gd p 0).rows.length)]⟩,true))
theorem ixfLO_ok:EntOk Tryz.prog ixfLOE:=e2_ok fun p q h=>evFn_sound (N:=(gd p 0).rows.length+1) (ks:=ixfLOK) (key:=bo) ixfLOT_ok (enters Tryz.func234) Tryz.func234 fun hw=>by
 rw [ixfLO_ev]
 have hl:=wt_sl (hw ⟨sd (.sl 93),p⟩ (by simp))
 have e:=ix_loop (L:=ixfLOL0 ((gd p 0).rows.length+1) p q) (fun k => [gd p 0,gd q 0,.i 0,.i ((gd p 0).rows.length:Int),.i (k:Int)]) (gd p 0).rows.length (fun k=>ixfLOC (gd q 0) (sub ((gd p 0).rows.getD k []) 0 4)) [gd p 0,gd q 0,.i 0,.i ((gd p 0).rows.length:Int),.i ((gd p 0).rows.length:Int)] (fun k hk=>?_) ?_ (gd p 0).rows.length 0 ((gd p 0).rows.length+1) (by omega) (by omega)
 ·simp only [Int.natCast_zero] at e
  rw [e]
  have hno:=ixF_neg (fun k=>ixfLOC (gd q 0) (sub ((gd p 0).rows.getD k []) 0 4)) (gd p 0).rows.length 0
  cases hd:decide (ixF (fun k=>ixfLOC (gd q 0) (sub ((gd p 0).rows.getD k []) 0 4)) 0 (gd p 0).rows.length≥0)
  ·rw [hno hd]; rfl
  ·rfl
 ·show ixfLOL0 _ p q [_,_,_,_,.i (k:Int)]=_
  rw [ixfLOR0]
  simp only [int_i,c_lt hk,nd_ix hk,w64_succ hk hl,Int.toNat_natCast]
  unfold ixfLOC
  cases i_LocksOk_1F (sub ((gd p 0).rows.getD k []) 0 4) [gd ((gd q 0).rows.getD 0 []) 0] <;> rfl
 ·show ixfLOL0 _ p q [_,_,_,.i ((gd p 0).rows.length:Int),.i ((gd p 0).rows.length:Int)]=_
  rw [ixfLOR0]
  simp only [int_i,c_nlt]
abbrev cofLOT:FuncId→List T→Option (T × Bool):=find [ixfLOE,i_LocksOk_1E]
theorem cofLOT_ok:CallOk Tryz.prog cofLOT:=find_ok (fC ⟨ixfLO_ok,fC ⟨i_LocksOk_1_ok,fN⟩⟩)
abbrev cofLOK:List Nat:= [0,1,4]
theorem cofLO_ev (N:Nat) (p q:List D):evFn Tryz.prog cofLOT N cofLOK Tryz.f158 rb [⟨sd (.sl 93),p⟩,⟨.one (.c (.fn 230 [.cptr [si,si,si,si] 0])),q⟩]=some (bo,
 ob (leI 0 (ixF (fun k=>ixfLOC (.l [[gd ((gd q 0).rows.getD 0 []) 0]]) (sub ((gd p 0).rows.getD k []) 0 4)) 0 (gd p 0).rows.length))):=by kernel_rfl
def cofLOE:Ent:=(158,e2 (sd (.sl 93)) (.one (.c (.fn 230 [.cptr [si,si,si,si] 0]))) fun p q=>(⟨rb,[.b (anyS (fun rr=>ixfLOC (gd q 0) (sub rr 0 4)) (gd p 0))]⟩,true))
theorem cofLO_ok:EntOk Tryz.prog cofLOE:=e2_ok fun p q h=>evFn_sound (N:=0) (ks:=cofLOK) (key:=bo) cofLOT_ok (enters Tryz.func158) Tryz.func158 fun hw=>by
 rw [cofLO_ev]
 refine congrArg (fun x=>some (bo,ob x)) ?_
 exact (ixF_any (fun k=>ixfLOC (gd q 0) (sub ((gd p 0).rows.getD k []) 0 4)) (gd p 0).rows.length 0).trans (by simp only [Nat.zero_add]; rfl)
abbrev ixfLHT:FuncId→List T→Option (T × Bool):=find [i_LocksHold_1E]
theorem ixfLHT_ok:CallOk Tryz.prog ixfLHT:=find_ok (fC ⟨i_LocksHold_1_ok,fN⟩)
abbrev ixfLHK:List Nat:= [0,1,4,5,7,8,9,16]
noncomputable def ixfLHL0 (N:Nat) (p q:List D):List D→Out:=loopOf Tryz.prog ixfLHT N ixfLHK Tryz.f234 ri [⟨sd (.sl 93),p⟩,⟨.one (.c (.fn 177 [.cptr [si] 0,.cptr [si] 0,.cptr [si,si] 0])),q⟩] 0
theorem ixfLHR0 (N:Nat) (p q:List D) (x0 x1 x2 x3 x4:D):(ixfLHL0 N p q) [x0,x1,x2,x3,x4] =
 bif ltI x4.int x3.int then nd (inRange x4.int x0.rows.length) (bif i_LocksHold_1F (sub (x0.rows.getD x4.int.toNat []) 0 4) [(gd (x1.rows.getD 0 []) 0)] [(gd (x1.rows.getD 0 []).tail 0)] [(gd (x1.rows.getD 0 []).tail.tail 0)] then some (1,[x4])
 else nx [x0,x1,x2,x3,.i (w64 (x4.int+1))])
 else ex 0 [x0,x1,x2,x3,x4]:=by kernel_rfl
theorem ixfLH_ev (N:Nat) (p q:List D):evFn Tryz.prog ixfLHT N ixfLHK Tryz.f234 ri [⟨sd (.sl 93),p⟩,⟨.one (.c (.fn 177 [.cptr [si] 0,.cptr [si] 0,.cptr [si,si] 0])),q⟩]=some (bo,
 (let o0:=iter (ixfLHL0 N p q) N [gd p 0,gd q 0,.i 0,.i ((gd p 0).rows.length:Int),.i 0]
  nd o0.isSome (bif o0.code==1 then some (1,o0.pay)
  else nd (o0.code==2) (oi (-1))))):=by kernel_rfl
def ixfLHC (c:D) (r:List D):Bool:=i_LocksHold_1F r [gd (c.rows.getD 0 []) 0] [gd (c.rows.getD 0 []).tail 0] [gd (c.rows.getD 0 []).tail.tail 0]
def ixfLHE:Ent:=(234,e2 (sd (.sl 93)) (.one (.c (.fn 177 [.cptr [si] 0,.cptr [si] 0,.cptr [si,si] 0]))) fun p q=>(⟨ri,[.i (ixF (fun k=>ixfLHC (gd q 0) (sub ((gd p 0).rows.getD k []) 0 4)) 0 (gd p 0).rows.length)]⟩,true))
theorem ixfLH_ok:EntOk Tryz.prog ixfLHE:=e2_ok fun p q h=>evFn_sound (N:=(gd p 0).rows.length+1) (ks:=ixfLHK) (key:=bo) ixfLHT_ok (enters Tryz.func234) Tryz.func234 fun hw=>by
 rw [ixfLH_ev]
 have hl:=wt_sl (hw ⟨sd (.sl 93),p⟩ (by simp))
 have e:=ix_loop (L:=ixfLHL0 ((gd p 0).rows.length+1) p q) (fun k => [gd p 0,gd q 0,.i 0,.i ((gd p 0).rows.length:Int),.i (k:Int)]) (gd p 0).rows.length (fun k=>ixfLHC (gd q 0) (sub ((gd p 0).rows.getD k []) 0 4)) [gd p 0,gd q 0,.i 0,.i ((gd p 0).rows.length:Int),.i ((gd p 0).rows.length:Int)] (fun k hk=>?_) ?_ (gd p 0).rows.length 0 ((gd p 0).rows.length+1) (by omega) (by omega)
 ·simp only [Int.natCast_zero] at e
  rw [e]
  have hno:=ixF_neg (fun k=>ixfLHC (gd q 0) (sub ((gd p 0).rows.getD k []) 0 4)) (gd p 0).rows.length 0
  cases hd:decide (ixF (fun k=>ixfLHC (gd q 0) (sub ((gd p 0).rows.getD k []) 0 4)) 0 (gd p 0).rows.length≥0)
  ·rw [hno hd]; rfl
  ·rfl
 ·show ixfLHL0 _ p q [_,_,_,_,.i (k:Int)]=_
  rw [ixfLHR0]
  simp only [int_i,c_lt hk,nd_ix hk,w64_succ hk hl,Int.toNat_natCast]
  unfold ixfLHC
  cases i_LocksHold_1F (sub ((gd p 0).rows.getD k []) 0 4) [gd ((gd q 0).rows.getD 0 []) 0] [gd ((gd q 0).rows.getD 0 []).tail 0] [gd ((gd q 0).rows.getD 0 []).tail.tail 0] <;> rfl
 ·show ixfLHL0 _ p q [_,_,_,.i ((gd p 0).rows.length:Int),.i ((gd p 0).rows.length:Int)]=_
  rw [ixfLHR0]
  simp only [int_i,c_nlt]
abbrev cofLHT:FuncId→List T→Option (T × Bool):=find [ixfLHE,i_LocksHold_1E]
theorem cofLHT_ok:CallOk Tryz.prog cofLHT:=find_ok (fC ⟨ixfLH_ok,fC ⟨i_LocksHold_1_ok,fN⟩⟩)
abbrev cofLHK:List Nat:= [0,1,4]
theorem cofLH_ev (N:Nat) (p q:List D):evFn Tryz.prog cofLHT N cofLHK Tryz.f158 rb [⟨sd (.sl 93),p⟩,⟨.one (.c (.fn 177 [.cptr [si] 0,.cptr [si] 0,.cptr [si,si] 0])),q⟩]=some (bo,
 ob (leI 0 (ixF (fun k=>ixfLHC (.l [[gd ((gd q 0).rows.getD 0 []) 0,gd ((gd q 0).rows.getD 0 []).tail 0,gd ((gd q 0).rows.getD 0 []).tail.tail 0]]) (sub ((gd p 0).rows.getD k []) 0 4)) 0 (gd p 0).rows.length))):=by kernel_rfl
def cofLHE:Ent:=(158,e2 (sd (.sl 93)) (.one (.c (.fn 177 [.cptr [si] 0,.cptr [si] 0,.cptr [si,si] 0]))) fun p q=>(⟨rb,[.b (anyS (fun rr=>ixfLHC (gd q 0) (sub rr 0 4)) (gd p 0))]⟩,true))
theorem cofLH_ok:EntOk Tryz.prog cofLHE:=e2_ok fun p q h=>evFn_sound (N:=0) (ks:=cofLHK) (key:=bo) cofLHT_ok (enters Tryz.func158) Tryz.func158 fun hw=>by
 rw [cofLH_ev]
 refine congrArg (fun x=>some (bo,ob x)) ?_
 exact (ixF_any (fun k=>ixfLHC (gd q 0) (sub ((gd p 0).rows.getD k []) 0 4)) (gd p 0).rows.length 0).trans (by simp only [Nat.zero_add]; rfl)
end Go.Proofs.YtpdfmcmnjikppaaGreat
namespace Go.Proofs.YtpdfmcmnjikppaaGreat
set_option maxRecDepth 4096
abbrev i_RangesOkT:FuncId→List T→Option (T × Bool):=find [i_RangeOkE]
theorem i_RangesOkT_ok:CallOk Tryz.prog i_RangesOkT:=find_ok (fC ⟨i_RangeOk_ok,fN⟩)
abbrev i_RangesOkK:List Nat:= [0,2,3,4,5,6,7,8,29]
noncomputable def i_RangesOkL0 (N:Nat) (p:List D):List D→Out:=loopOf Tryz.prog i_RangesOkT N i_RangesOkK Tryz.f150 rb [⟨sd (.sl 41),p⟩] 0
theorem i_RangesOkR0 (N:Nat) (p:List D) (x0 x1 x2 x3 x4:D):(i_RangesOkL0 N p) [x0,x1,x2,x3,x4] =
 bif ltI x4.int x3.int then nd (inRange x4.int x2.rows.length) (bif !(rangeOk (sub (x2.rows.getD x4.int.toNat []) 0 2)) then ob false
 else bif ltI 0 x4.int then nd (inRange (w64 (x4.int - 1)) x0.rows.length) (bif ltI (gd (x2.rows.getD x4.int.toNat []) 0).int (gd (x0.rows.getD (w64 (x4.int - 1)).toNat []) 1).int then ob false
 else nx [x0,x1,x2,x3,.i (w64 (x4.int+1))])
 else nx [x0,x1,x2,x3,.i (w64 (x4.int+1))])
 else ex 0 [x0,x1,x2,x3,x4]:=by kernel_rfl
theorem i_RangesOk_ev (N:Nat) (p:List D):evFn Tryz.prog i_RangesOkT N i_RangesOkK Tryz.f150 rb [⟨sd (.sl 41),p⟩]=some (bo,
 (let o0:=iter (i_RangesOkL0 N p) N [gd p 0,.i 0,gd p 0,.i ((gd p 0).rows.length:Int),.i 0]
  nd o0.isSome (bif o0.code==1 then some (1,o0.pay)
  else nd (o0.code==2) (ob (leI ((gd o0.pay 0).rows.length:Int) 16))))):=by kernel_rfl
def rangesAt (z:D):Nat→Bool
 | 0=>rangeOk (sub (z.rows.getD 0 []) 0 2)
 | k+1=>rangeOk (sub (z.rows.getD (k+1) []) 0 2) && !ltI (gd (z.rows.getD (k+1) []) 0).int (gd (z.rows.getD k []) 1).int
def rangesOk (z:D):Bool:=(List.range z.rows.length).all (rangesAt z)&&leI (z.rows.length:Int) 16
def i_RangesOkE:Ent:=(150,e1 (sd (.sl 41)) fun p=>(⟨rb,[.b (rangesOk (gd p 0))]⟩,true))
theorem i_RangesOk_ok:EntOk Tryz.prog i_RangesOkE:=e1_ok fun p h=>evFn_sound (N:=(gd p 0).rows.length+1) (ks:=i_RangesOkK) (key:=bo) i_RangesOkT_ok (enters Tryz.func150) Tryz.func150 fun hw=>by
 rw [i_RangesOk_ev]
 have hl:=wt_sl (hw ⟨sd (.sl 41),p⟩ (by simp))
 have e:=for_loop (L:=i_RangesOkL0 ((gd p 0).rows.length+1) p) (fun k => [(gd p 0),.i 0,(gd p 0),.i ((gd p 0).rows.length:Int),.i (k:Int)]) (gd p 0).rows.length (rangesAt (gd p 0)) [.b false] 0 (fun k hk=>?_) ?_ (N:=((gd p 0).rows.length+1)) (by omega)
 ·simp only [Int.natCast_zero] at e
  rw [e]
  unfold rangesOk
  cases (List.range (gd p 0).rows.length).all (rangesAt (gd p 0)) <;> rfl
 ·cases k with
  | zero =>
   show i_RangesOkL0 _ p [_,_,_,_,.i ((0:Nat):Int)]=_
   rw [i_RangesOkR0]
   simp only [int_i,c_lt hk,nd_ix hk,w64_succ hk hl,Int.toNat_natCast,bne_not,ltI_00,rangesAt]
   cases rangeOk (sub ((gd p 0).rows.getD 0 []) 0 2) <;> rfl
  | succ k =>
   show i_RangesOkL0 _ p [_,_,_,_,.i ((k+1:Nat):Int)]=_
   rw [i_RangesOkR0]
   simp only [int_i,c_lt hk,nd_ix hk,w64_succ hk hl,Int.toNat_natCast,bne_not,ltI_0s,w64_pred (show k+1≤9223372036854775807 from by omega),nd_ix (Nat.lt_of_succ_lt hk),rangesAt]
   cases rangeOk (sub ((gd p 0).rows.getD (k+1) []) 0 2) <;> cases ltI (gd ((gd p 0).rows.getD (k+1) []) 0).int (gd ((gd p 0).rows.getD k []) 1).int <;> rfl
 ·show i_RangesOkL0 _ p [_,_,_,.i ((gd p 0).rows.length:Int),.i ((gd p 0).rows.length:Int)]=_
  rw [i_RangesOkR0]
  simp only [int_i,c_nlt]
abbrev s_RangesOkT:FuncId→List T→Option (T × Bool):=find [s_RangeOkE]
theorem s_RangesOkT_ok:CallOk Tryz.prog s_RangesOkT:=find_ok (fC ⟨s_RangeOk_ok,fN⟩)
abbrev s_RangesOkK:List Nat:= [0,2,3,6,10,36]
noncomputable def s_RangesOkL0 (N:Nat) (p:List D):List D→Out:=loopOf Tryz.prog s_RangesOkT N s_RangesOkK Tryz.f185 rb [⟨sd (.sl 41),p⟩] 0
theorem s_RangesOkR0 (N:Nat) (p:List D) (x0 x1 x2 x3:D):(s_RangesOkL0 N p) [x0,x1,x2,x3] =
 bif ltI x3.int (x0.rows.length:Int) then nd (inRange x3.int x0.rows.length) (bif !(rangeOk (sub (x0.rows.getD x3.int.toNat []) 0 2)) then ob false
 else bif ltI 0 x3.int then nd (inRange x3.int x0.rows.length) (nd (inRange (w64 (x3.int - 1)) x0.rows.length) (bif ltI (gd (x0.rows.getD x3.int.toNat []) 0).int (gd (x0.rows.getD (w64 (x3.int - 1)).toNat []) 1).int then ob false
 else nx [x0,x1,x2,.i (w64 (x3.int+1))]))
 else nx [x0,x1,x2,.i (w64 (x3.int+1))])
 else ex 0 [x0,x1,x2,x3]:=by kernel_rfl
theorem s_RangesOk_ev (N:Nat) (p:List D):evFn Tryz.prog s_RangesOkT N s_RangesOkK Tryz.f185 rb [⟨sd (.sl 41),p⟩]=some (bo,
 bif ltI 16 ((gd p 0).rows.length:Int) then ob false
 else (let o0:=iter (s_RangesOkL0 N p) N [gd p 0,.i 0,.b (ltI 16 ((gd p 0).rows.length:Int)),.i 0]
  nd o0.isSome (bif o0.code==1 then some (1,o0.pay)
  else nd (o0.code==2) (ob true)))):=by kernel_rfl
def s_RangesOkE:Ent:=(185,e1 (sd (.sl 41)) fun p=>(⟨rb,[.b (rangesOk (gd p 0))]⟩,true))
theorem s_RangesOk_ok:EntOk Tryz.prog s_RangesOkE:=e1_ok fun p h=>evFn_sound (N:=(gd p 0).rows.length+1) (ks:=s_RangesOkK) (key:=bo) s_RangesOkT_ok (enters Tryz.func185) Tryz.func185 fun hw=>by
 rw [s_RangesOk_ev]
 have hl:=wt_sl (hw ⟨sd (.sl 41),p⟩ (by simp))
 unfold rangesOk
 by_cases hb:(gd p 0).rows.length≤16
 ·rw [ltI_f (show ((gd p 0).rows.length:Int)≤16 from by omega),leI_t (show ((gd p 0).rows.length:Int)≤16 from by omega),cond_false]
  have e:=for_loop (L:=s_RangesOkL0 ((gd p 0).rows.length+1) p) (fun k => [(gd p 0),.i 0,.b false,.i (k:Int)]) (gd p 0).rows.length (rangesAt (gd p 0)) [.b false] 0 (fun k hk=>?_) ?_ (N:=((gd p 0).rows.length+1)) (by omega)
  ·simp only [Int.natCast_zero] at e
   rw [e]
   cases (List.range (gd p 0).rows.length).all (rangesAt (gd p 0)) <;> rfl
  ·cases k with
   | zero =>
    show s_RangesOkL0 _ p [_,_,_,.i ((0:Nat):Int)]=_
    rw [s_RangesOkR0]
    simp only [int_i,c_lt hk,nd_ix hk,w64_succ hk hl,Int.toNat_natCast,bne_not,ltI_00,rangesAt]
    cases rangeOk (sub ((gd p 0).rows.getD 0 []) 0 2) <;> rfl
   | succ k =>
    show s_RangesOkL0 _ p [_,_,_,.i ((k+1:Nat):Int)]=_
    rw [s_RangesOkR0]
    simp only [int_i,c_lt hk,nd_ix hk,w64_succ hk hl,Int.toNat_natCast,bne_not,ltI_0s,w64_pred (show k+1≤9223372036854775807 from by omega),nd_ix (Nat.lt_of_succ_lt hk),rangesAt]
    cases rangeOk (sub ((gd p 0).rows.getD (k+1) []) 0 2) <;> cases ltI (gd ((gd p 0).rows.getD (k+1) []) 0).int (gd ((gd p 0).rows.getD k []) 1).int <;> rfl
  ·show s_RangesOkL0 _ p [_,_,_,.i ((gd p 0).rows.length:Int)]=_
   rw [s_RangesOkR0]
   simp only [int_i,c_nlt]
 ·rw [ltI_t (show (16:Int)<((gd p 0).rows.length:Int) from by omega),leI_f (show (16:Int)<((gd p 0).rows.length:Int) from by omega),Bool.and_false]
  rfl
abbrev i_StoreOkT:FuncId→List T→Option (T × Bool):=find [i_isKeyE,i_isWholeE]
theorem i_StoreOkT_ok:CallOk Tryz.prog i_StoreOkT:=find_ok (fC ⟨i_isKey_ok,fC ⟨i_isWhole_ok,fN⟩⟩)
abbrev i_StoreOkK:List Nat:= [0,2,3,4,5,6,7,8,36]
noncomputable def i_StoreOkL0 (N:Nat) (p:List D):List D→Out:=loopOf Tryz.prog i_StoreOkT N i_StoreOkK Tryz.f127 rb [⟨sd (.sl 108),p⟩] 0
theorem i_StoreOkR0 (N:Nat) (p:List D) (x0 x1 x2 x3 x4:D):(i_StoreOkL0 N p) [x0,x1,x2,x3,x4] =
 bif ltI x4.int x3.int then nd (inRange x4.int x2.rows.length) (bif !(inB (gd (x2.rows.getD x4.int.toNat []) 0).int (0) (999)) then ob false
 else bif !(inB (gd (x2.rows.getD x4.int.toNat []) 1).int (0) (1000000000)) then ob false
 else bif ltI 0 x4.int then nd (inRange (w64 (x4.int - 1)) x0.rows.length) (bif leI (gd (x2.rows.getD x4.int.toNat []) 0).int (gd (x0.rows.getD (w64 (x4.int - 1)).toNat []) 0).int then ob false
 else nx [x0,x1,x2,x3,.i (w64 (x4.int+1))])
 else nx [x0,x1,x2,x3,.i (w64 (x4.int+1))])
 else ex 0 [x0,x1,x2,x3,x4]:=by kernel_rfl
theorem i_StoreOk_ev (N:Nat) (p:List D):evFn Tryz.prog i_StoreOkT N i_StoreOkK Tryz.f127 rb [⟨sd (.sl 108),p⟩]=some (bo,
 (let o0:=iter (i_StoreOkL0 N p) N [gd p 0,.i 0,gd p 0,.i ((gd p 0).rows.length:Int),.i 0]
  nd o0.isSome (bif o0.code==1 then some (1,o0.pay)
  else nd (o0.code==2) (ob (leI ((gd o0.pay 0).rows.length:Int) 60))))):=by kernel_rfl
def storeAt (z:D):Nat→Bool
 | 0=>inB (gd (z.rows.getD 0 []) 0).int 0 999&&inB (gd (z.rows.getD 0 []) 1).int 0 1000000000
 | k+1=>inB (gd (z.rows.getD (k+1) []) 0).int 0 999&&(inB (gd (z.rows.getD (k+1) []) 1).int 0 1000000000 && !leI (gd (z.rows.getD (k+1) []) 0).int (gd (z.rows.getD k []) 0).int)
def storeOk (z:D):Bool:=(List.range z.rows.length).all (storeAt z)&&leI (z.rows.length:Int) 60
def i_StoreOkE:Ent:=(127,e1 (sd (.sl 108)) fun p=>(⟨rb,[.b (storeOk (gd p 0))]⟩,true))
theorem i_StoreOk_ok:EntOk Tryz.prog i_StoreOkE:=e1_ok fun p h=>evFn_sound (N:=(gd p 0).rows.length+1) (ks:=i_StoreOkK) (key:=bo) i_StoreOkT_ok (enters Tryz.func127) Tryz.func127 fun hw=>by
 rw [i_StoreOk_ev]
 have hl:=wt_sl (hw ⟨sd (.sl 108),p⟩ (by simp))
 have e:=for_loop (L:=i_StoreOkL0 ((gd p 0).rows.length+1) p) (fun k => [(gd p 0),.i 0,(gd p 0),.i ((gd p 0).rows.length:Int),.i (k:Int)]) (gd p 0).rows.length (storeAt (gd p 0)) [.b false] 0 (fun k hk=>?_) ?_ (N:=((gd p 0).rows.length+1)) (by omega)
 ·simp only [Int.natCast_zero] at e
  rw [e]
  unfold storeOk
  cases (List.range (gd p 0).rows.length).all (storeAt (gd p 0)) <;> rfl
 ·cases k with
  | zero =>
   show i_StoreOkL0 _ p [_,_,_,_,.i ((0:Nat):Int)]=_
   rw [i_StoreOkR0]
   simp only [int_i,c_lt hk,nd_ix hk,w64_succ hk hl,Int.toNat_natCast,bne_not,ltI_00,storeAt]
   cases inB (gd ((gd p 0).rows.getD 0 []) 0).int 0 999 <;> cases inB (gd ((gd p 0).rows.getD 0 []) 1).int 0 1000000000 <;> rfl
  | succ k =>
   show i_StoreOkL0 _ p [_,_,_,_,.i ((k+1:Nat):Int)]=_
   rw [i_StoreOkR0]
   simp only [int_i,c_lt hk,nd_ix hk,w64_succ hk hl,Int.toNat_natCast,bne_not,ltI_0s,w64_pred (show k+1≤9223372036854775807 from by omega),nd_ix (Nat.lt_of_succ_lt hk),storeAt]
   cases inB (gd ((gd p 0).rows.getD (k+1) []) 0).int 0 999 <;> cases inB (gd ((gd p 0).rows.getD (k+1) []) 1).int 0 1000000000 <;> cases leI (gd ((gd p 0).rows.getD (k+1) []) 0).int (gd ((gd p 0).rows.getD k []) 0).int <;> rfl
 ·show i_StoreOkL0 _ p [_,_,_,.i ((gd p 0).rows.length:Int),.i ((gd p 0).rows.length:Int)]=_
  rw [i_StoreOkR0]
  simp only [int_i,c_nlt]
abbrev s_StoreOkT:FuncId→List T→Option (T × Bool):=find [s_l10KeyE,s_l1WholeE]
theorem s_StoreOkT_ok:CallOk Tryz.prog s_StoreOkT:=find_ok (fC ⟨s_l10Key_ok,fC ⟨s_l1Whole_ok,fN⟩⟩)
abbrev s_StoreOkK:List Nat:= [0,2,3,6,10,46]
noncomputable def s_StoreOkL0 (N:Nat) (p:List D):List D→Out:=loopOf Tryz.prog s_StoreOkT N s_StoreOkK Tryz.f122 rb [⟨sd (.sl 108),p⟩] 0
theorem s_StoreOkR0 (N:Nat) (p:List D) (x0 x1 x2 x3:D):(s_StoreOkL0 N p) [x0,x1,x2,x3] =
 bif ltI x3.int (x0.rows.length:Int) then nd (inRange x3.int x0.rows.length) (bif !(inB (gd (x0.rows.getD x3.int.toNat []) 0).int (0) (999)) then ob false
 else nd (inRange x3.int x0.rows.length) (bif !(inB (gd (x0.rows.getD x3.int.toNat []) 1).int (0) (1000000000)) then ob false
 else bif ltI 0 x3.int then nd (inRange (w64 (x3.int - 1)) x0.rows.length) (nd (inRange x3.int x0.rows.length) (bif leI (gd (x0.rows.getD x3.int.toNat []) 0).int (gd (x0.rows.getD (w64 (x3.int - 1)).toNat []) 0).int then ob false
 else nx [x0,x1,x2,.i (w64 (x3.int+1))]))
 else nx [x0,x1,x2,.i (w64 (x3.int+1))]))
 else ex 0 [x0,x1,x2,x3]:=by kernel_rfl
theorem s_StoreOk_ev (N:Nat) (p:List D):evFn Tryz.prog s_StoreOkT N s_StoreOkK Tryz.f122 rb [⟨sd (.sl 108),p⟩]=some (bo,
 bif ltI 60 ((gd p 0).rows.length:Int) then ob false
 else (let o0:=iter (s_StoreOkL0 N p) N [gd p 0,.i 0,.b (ltI 60 ((gd p 0).rows.length:Int)),.i 0]
  nd o0.isSome (bif o0.code==1 then some (1,o0.pay)
  else nd (o0.code==2) (ob true)))):=by kernel_rfl
def s_StoreOkE:Ent:=(122,e1 (sd (.sl 108)) fun p=>(⟨rb,[.b (storeOk (gd p 0))]⟩,true))
theorem s_StoreOk_ok:EntOk Tryz.prog s_StoreOkE:=e1_ok fun p h=>evFn_sound (N:=(gd p 0).rows.length+1) (ks:=s_StoreOkK) (key:=bo) s_StoreOkT_ok (enters Tryz.func122) Tryz.func122 fun hw=>by
 rw [s_StoreOk_ev]
 have hl:=wt_sl (hw ⟨sd (.sl 108),p⟩ (by simp))
 unfold storeOk
 by_cases hb:(gd p 0).rows.length≤60
 ·rw [ltI_f (show ((gd p 0).rows.length:Int)≤60 from by omega),leI_t (show ((gd p 0).rows.length:Int)≤60 from by omega),cond_false]
  have e:=for_loop (L:=s_StoreOkL0 ((gd p 0).rows.length+1) p) (fun k => [(gd p 0),.i 0,.b false,.i (k:Int)]) (gd p 0).rows.length (storeAt (gd p 0)) [.b false] 0 (fun k hk=>?_) ?_ (N:=((gd p 0).rows.length+1)) (by omega)
  ·simp only [Int.natCast_zero] at e
   rw [e]
   cases (List.range (gd p 0).rows.length).all (storeAt (gd p 0)) <;> rfl
  ·cases k with
   | zero =>
    show s_StoreOkL0 _ p [_,_,_,.i ((0:Nat):Int)]=_
    rw [s_StoreOkR0]
    simp only [int_i,c_lt hk,nd_ix hk,w64_succ hk hl,Int.toNat_natCast,bne_not,ltI_00,storeAt]
    cases inB (gd ((gd p 0).rows.getD 0 []) 0).int 0 999 <;> cases inB (gd ((gd p 0).rows.getD 0 []) 1).int 0 1000000000 <;> rfl
   | succ k =>
    show s_StoreOkL0 _ p [_,_,_,.i ((k+1:Nat):Int)]=_
    rw [s_StoreOkR0]
    simp only [int_i,c_lt hk,nd_ix hk,w64_succ hk hl,Int.toNat_natCast,bne_not,ltI_0s,w64_pred (show k+1≤9223372036854775807 from by omega),nd_ix (Nat.lt_of_succ_lt hk),storeAt]
    cases inB (gd ((gd p 0).rows.getD (k+1) []) 0).int 0 999 <;> cases inB (gd ((gd p 0).rows.getD (k+1) []) 1).int 0 1000000000 <;> cases leI (gd ((gd p 0).rows.getD (k+1) []) 0).int (gd ((gd p 0).rows.getD k []) 0).int <;> rfl
  ·show s_StoreOkL0 _ p [_,_,_,.i ((gd p 0).rows.length:Int)]=_
   rw [s_StoreOkR0]
   simp only [int_i,c_nlt]
 ·rw [ltI_t (show (60:Int)<((gd p 0).rows.length:Int) from by omega),leI_f (show (60:Int)<((gd p 0).rows.length:Int) from by omega),Bool.and_false]
  rfl
abbrev i_ascendingT:FuncId→List T→Option (T × Bool):=find [i_isTxE]
theorem i_ascendingT_ok:CallOk Tryz.prog i_ascendingT:=find_ok (fC ⟨i_isTx_ok,fN⟩)
abbrev i_ascendingK:List Nat:= [0,2,3,4,5,6,7,8,27]
noncomputable def i_ascendingL0 (N:Nat) (p:List D):List D→Out:=loopOf Tryz.prog i_ascendingT N i_ascendingK Tryz.f153 rb [⟨sd (.sl 3),p⟩] 0
theorem i_ascendingR0 (N:Nat) (p:List D) (x0 x1 x2 x3 x4:D):(i_ascendingL0 N p) [x0,x1,x2,x3,x4] =
 bif ltI x4.int x3.int then nd (inRange x4.int x2.rows.length) (bif !(inB (gd (x2.rows.getD x4.int.toNat []) 0).int 1 60) then ob false
 else bif ltI 0 x4.int then nd (inRange (w64 (x4.int - 1)) x0.rows.length) (bif leI (gd (x2.rows.getD x4.int.toNat []) 0).int (gd (x0.rows.getD (w64 (x4.int - 1)).toNat []) 0).int then ob false
 else nx [x0,x1,x2,x3,.i (w64 (x4.int+1))])
 else nx [x0,x1,x2,x3,.i (w64 (x4.int+1))])
 else ex 0 [x0,x1,x2,x3,x4]:=by kernel_rfl
theorem i_ascending_ev (N:Nat) (p:List D):evFn Tryz.prog i_ascendingT N i_ascendingK Tryz.f153 rb [⟨sd (.sl 3),p⟩]=some (bo,
 (let o0:=iter (i_ascendingL0 N p) N [gd p 0,.i 0,gd p 0,.i ((gd p 0).rows.length:Int),.i 0]
  nd o0.isSome (bif o0.code==1 then some (1,o0.pay)
  else nd (o0.code==2) (ob true)))):=by kernel_rfl
def ascAt (z:D):Nat→Bool
 | 0=>inB (gd (z.rows.getD 0 []) 0).int 1 60
 | k+1=>inB (gd (z.rows.getD (k+1) []) 0).int 1 60 && !leI (gd (z.rows.getD (k+1) []) 0).int (gd (z.rows.getD k []) 0).int
def ascOk (z:D):Bool:=(List.range z.rows.length).all (ascAt z)
def i_ascendingE:Ent:=(153,e1 (sd (.sl 3)) fun p=>(⟨rb,[.b (ascOk (gd p 0))]⟩,true))
theorem i_ascending_ok:EntOk Tryz.prog i_ascendingE:=e1_ok fun p h=>evFn_sound (N:=(gd p 0).rows.length+1) (ks:=i_ascendingK) (key:=bo) i_ascendingT_ok (enters Tryz.func153) Tryz.func153 fun hw=>by
 rw [i_ascending_ev]
 have hl:=wt_sl (hw ⟨sd (.sl 3),p⟩ (by simp))
 have e:=for_loop (L:=i_ascendingL0 ((gd p 0).rows.length+1) p) (fun k => [(gd p 0),.i 0,(gd p 0),.i ((gd p 0).rows.length:Int),.i (k:Int)]) (gd p 0).rows.length (ascAt (gd p 0)) [.b false] 0 (fun k hk=>?_) ?_ (N:=((gd p 0).rows.length+1)) (by omega)
 ·simp only [Int.natCast_zero] at e
  rw [e]
  unfold ascOk
  cases (List.range (gd p 0).rows.length).all (ascAt (gd p 0)) <;> rfl
 ·cases k with
  | zero =>
   show i_ascendingL0 _ p [_,_,_,_,.i ((0:Nat):Int)]=_
   rw [i_ascendingR0]
   simp only [int_i,c_lt hk,nd_ix hk,w64_succ hk hl,Int.toNat_natCast,bne_not,ltI_00,ascAt]
   cases inB (gd ((gd p 0).rows.getD 0 []) 0).int 1 60 <;> rfl
  | succ k =>
   show i_ascendingL0 _ p [_,_,_,_,.i ((k+1:Nat):Int)]=_
   rw [i_ascendingR0]
   simp only [int_i,c_lt hk,nd_ix hk,w64_succ hk hl,Int.toNat_natCast,bne_not,ltI_0s,w64_pred (show k+1≤9223372036854775807 from by omega),nd_ix (Nat.lt_of_succ_lt hk),ascAt]
   cases inB (gd ((gd p 0).rows.getD (k+1) []) 0).int 1 60 <;> cases leI (gd ((gd p 0).rows.getD (k+1) []) 0).int (gd ((gd p 0).rows.getD k []) 0).int <;> rfl
 ·show i_ascendingL0 _ p [_,_,_,.i ((gd p 0).rows.length:Int),.i ((gd p 0).rows.length:Int)]=_
  rw [i_ascendingR0]
  simp only [int_i,c_nlt]
abbrev s_l13TxsT:FuncId→List T→Option (T × Bool):=find [s_l12TxE]
theorem s_l13TxsT_ok:CallOk Tryz.prog s_l13TxsT:=find_ok (fC ⟨s_l12Tx_ok,fN⟩)
abbrev s_l13TxsK:List Nat:= [0,2,3,7,31]
noncomputable def s_l13TxsL0 (N:Nat) (p:List D):List D→Out:=loopOf Tryz.prog s_l13TxsT N s_l13TxsK Tryz.f199 rb [⟨sd (.sl 3),p⟩] 0
theorem s_l13TxsR0 (N:Nat) (p:List D) (x0 x1 x2:D):(s_l13TxsL0 N p) [x0,x1,x2] =
 bif ltI x2.int (x0.rows.length:Int) then nd (inRange x2.int x0.rows.length) (bif !(inB (gd (x0.rows.getD x2.int.toNat []) 0).int 1 60) then ob false
 else bif ltI 0 x2.int then nd (inRange (w64 (x2.int - 1)) x0.rows.length) (nd (inRange x2.int x0.rows.length) (bif leI (gd (x0.rows.getD x2.int.toNat []) 0).int (gd (x0.rows.getD (w64 (x2.int - 1)).toNat []) 0).int then ob false
 else nx [x0,x1,.i (w64 (x2.int+1))]))
 else nx [x0,x1,.i (w64 (x2.int+1))])
 else ex 0 [x0,x1,x2]:=by kernel_rfl
theorem s_l13Txs_ev (N:Nat) (p:List D):evFn Tryz.prog s_l13TxsT N s_l13TxsK Tryz.f199 rb [⟨sd (.sl 3),p⟩]=some (bo,
 (let o0:=iter (s_l13TxsL0 N p) N [gd p 0,.i 0,.i 0]
  nd o0.isSome (bif o0.code==1 then some (1,o0.pay)
  else nd (o0.code==2) (ob true)))):=by kernel_rfl
def s_l13TxsE:Ent:=(199,e1 (sd (.sl 3)) fun p=>(⟨rb,[.b (ascOk (gd p 0))]⟩,true))
theorem s_l13Txs_ok:EntOk Tryz.prog s_l13TxsE:=e1_ok fun p h=>evFn_sound (N:=(gd p 0).rows.length+1) (ks:=s_l13TxsK) (key:=bo) s_l13TxsT_ok (enters Tryz.func199) Tryz.func199 fun hw=>by
 rw [s_l13Txs_ev]
 have hl:=wt_sl (hw ⟨sd (.sl 3),p⟩ (by simp))
 have e:=for_loop (L:=s_l13TxsL0 ((gd p 0).rows.length+1) p) (fun k => [(gd p 0),.i 0,.i (k:Int)]) (gd p 0).rows.length (ascAt (gd p 0)) [.b false] 0 (fun k hk=>?_) ?_ (N:=((gd p 0).rows.length+1)) (by omega)
 ·simp only [Int.natCast_zero] at e
  rw [e]
  unfold ascOk
  cases (List.range (gd p 0).rows.length).all (ascAt (gd p 0)) <;> rfl
 ·cases k with
  | zero =>
   show s_l13TxsL0 _ p [_,_,.i ((0:Nat):Int)]=_
   rw [s_l13TxsR0]
   simp only [int_i,c_lt hk,nd_ix hk,w64_succ hk hl,Int.toNat_natCast,bne_not,ltI_00,ascAt]
   cases inB (gd ((gd p 0).rows.getD 0 []) 0).int 1 60 <;> rfl
  | succ k =>
   show s_l13TxsL0 _ p [_,_,.i ((k+1:Nat):Int)]=_
   rw [s_l13TxsR0]
   simp only [int_i,c_lt hk,nd_ix hk,w64_succ hk hl,Int.toNat_natCast,bne_not,ltI_0s,w64_pred (show k+1≤9223372036854775807 from by omega),nd_ix (Nat.lt_of_succ_lt hk),ascAt]
   cases inB (gd ((gd p 0).rows.getD (k+1) []) 0).int 1 60 <;> cases leI (gd ((gd p 0).rows.getD (k+1) []) 0).int (gd ((gd p 0).rows.getD k []) 0).int <;> rfl
 ·show s_l13TxsL0 _ p [_,_,.i ((gd p 0).rows.length:Int)]=_
  rw [s_l13TxsR0]
  simp only [int_i,c_nlt]
end Go.Proofs.YtpdfmcmnjikppaaGreat
namespace Go.Proofs.YtpdfmcmnjikppaaGreat
set_option maxRecDepth 4096
def endD (z:D):Nat→D
 | 0=>.i 0
 | k+1=>gd (z.rows.getD k []) 1
abbrev i_LocksOkT:FuncId→List T→Option (T × Bool):=find [i_isTxE,i_LkeysE,i_RangeOkE,i_isModeE,cofLOE]
theorem i_LocksOkT_ok:CallOk Tryz.prog i_LocksOkT:=find_ok (fC ⟨i_isTx_ok,fC ⟨i_Lkeys_ok,fC ⟨i_RangeOk_ok,fC ⟨i_isMode_ok,fC ⟨cofLO_ok,fN⟩⟩⟩⟩⟩)
abbrev i_LocksOkK:List Nat:= [0,2,3,4,5,6,7,8,34]
noncomputable def i_LocksOkL0 (N:Nat) (p:List D):List D→Out:=loopOf Tryz.prog i_LocksOkT N i_LocksOkK Tryz.f151 rb [⟨sd (.sl 93),p⟩] 0
theorem i_LocksOkR0 (N:Nat) (p:List D) (x0 x1 x2 x3 x4:D):(i_LocksOkL0 N p) [x0,x1,x2,x3,x4] =
 bif ltI x4.int x3.int then nd (inRange x4.int x2.rows.length) (bif !(inB (gd (x2.rows.getD x4.int.toNat []) 0).int 1 60) then ob false
 else bif !(rangeOk [(gd (x2.rows.getD x4.int.toNat []) 1),(gd (x2.rows.getD x4.int.toNat []) 2)]) then ob false
 else bif !(i_isModeF [(gd (x2.rows.getD x4.int.toNat []) 3)]) then ob false
 else nd (leI 0 0&&leI 0 x4.int&&leI x4.int (x0.rows.length:Int)) (bif anyS (fun r=>ixfLOC (.l [[.l [sub (x2.rows.getD x4.int.toNat []) 0 4]]]) (sub r 0 4)) (.l (x0.rows.take x4.int.toNat)) then ob false
 else nx [x0,x1,x2,x3,.i (w64 (x4.int+1))]))
 else ex 0 [x0,x1,x2,x3,x4]:=by kernel_rfl
theorem i_LocksOk_ev (N:Nat) (p:List D):evFn Tryz.prog i_LocksOkT N i_LocksOkK Tryz.f151 rb [⟨sd (.sl 93),p⟩]=some (bo,
 (let o0:=iter (i_LocksOkL0 N p) N [gd p 0,.i 0,gd p 0,.i ((gd p 0).rows.length:Int),.i 0]
  nd o0.isSome (bif o0.code==1 then some (1,o0.pay)
  else nd (o0.code==2) (ob (leI ((gd o0.pay 0).rows.length:Int) 40))))):=by kernel_rfl
def lockAt (z:D) (k:Nat):Bool:=inB (gd (z.rows.getD k []) 0).int 1 60&&(rangeOk [gd (z.rows.getD k []) 1,gd (z.rows.getD k []) 2]&&(i_isModeF [gd (z.rows.getD k []) 3] && !(List.range k).any fun j=>i_clashF (z.rows.getD k []) (z.rows.getD j [])))
def locksOk (z:D):Bool:=(List.range z.rows.length).all (lockAt z)&&leI (z.rows.length:Int) 40
def i_LocksOkE:Ent:=(151,e1 (sd (.sl 93)) fun p=>(⟨rb,[.b (locksOk (gd p 0))]⟩,true))
theorem i_LocksOk_ok:EntOk Tryz.prog i_LocksOkE:=e1_ok fun p h=>evFn_sound (N:=(gd p 0).rows.length+1) (ks:=i_LocksOkK) (key:=bo) i_LocksOkT_ok (enters Tryz.func151) Tryz.func151 fun hw=>by
 rw [i_LocksOk_ev]
 have hl:=wt_sl (hw ⟨sd (.sl 93),p⟩ (by simp))
 have e:=for_loop (L:=i_LocksOkL0 ((gd p 0).rows.length+1) p) (fun k => [gd p 0,.i 0,gd p 0,.i ((gd p 0).rows.length:Int),.i (k:Int)]) (gd p 0).rows.length (lockAt (gd p 0)) [.b false] 0 (fun k hk=>?_) ?_ (N:=(gd p 0).rows.length+1) (by omega)
 ·simp only [Int.natCast_zero] at e
  rw [e]
  unfold locksOk
  cases (List.range (gd p 0).rows.length).all (lockAt (gd p 0)) <;> rfl
 ·show i_LocksOkL0 _ p [_,_,_,_,.i (k:Int)]=_
  rw [i_LocksOkR0]
  simp only [int_i,c_lt hk,nd_ix hk,w64_succ hk hl,Int.toNat_natCast,nd_take (Nat.le_of_lt hk),anyS_take (Nat.le_of_lt hk),lockAt]
  rw [show ((List.range k).any fun j=>ixfLOC (.l [[.l [sub ((gd p 0).rows.getD k []) 0 4]]]) (sub ((gd p 0).rows.getD j []) 0 4))=(List.range k).any fun j=>i_clashF ((gd p 0).rows.getD k []) ((gd p 0).rows.getD j []) from rfl]
  cases inB (gd ((gd p 0).rows.getD k []) 0).int 1 60 <;> cases rangeOk [gd ((gd p 0).rows.getD k []) 1,gd ((gd p 0).rows.getD k []) 2] <;> cases i_isModeF [gd ((gd p 0).rows.getD k []) 3] <;> cases (List.range k).any fun j=>i_clashF ((gd p 0).rows.getD k []) ((gd p 0).rows.getD j []) <;> rfl
 ·show i_LocksOkL0 _ p [_,_,_,.i ((gd p 0).rows.length:Int),.i ((gd p 0).rows.length:Int)]=_
  rw [i_LocksOkR0]
  simp only [int_i,c_nlt]
abbrev s_LocksOkT:FuncId→List T→Option (T × Bool):=find [s_l12TxE,s_l12RangeE,s_RangeOkE,s_l12ModeE,s_l12ClashE]
theorem s_LocksOkT_ok:CallOk Tryz.prog s_LocksOkT:=find_ok (fC ⟨s_l12Tx_ok,fC ⟨s_l12Range_ok,fC ⟨s_RangeOk_ok,fC ⟨s_l12Mode_ok,fC ⟨s_l12Clash_ok,fN⟩⟩⟩⟩⟩)
abbrev s_LocksOkK:List Nat:= [0,2,3,4,7,11,38,41,52]
noncomputable def s_LocksOkL0 (N:Nat) (p:List D):List D→Out:=loopOf Tryz.prog s_LocksOkT N s_LocksOkK Tryz.f167 rb [⟨sd (.sl 93),p⟩] 0
noncomputable def s_LocksOkL2 (N:Nat) (p:List D):List D→Out:=loopOf Tryz.prog s_LocksOkT N s_LocksOkK Tryz.f167 rb [⟨sd (.sl 93),p⟩] 2
theorem s_LocksOkR0 (N:Nat) (p:List D) (x0 x1 x2 x3:D):(s_LocksOkL0 N p) [x0,x1,x2,x3] =
 bif ltI x3.int (x0.rows.length:Int) then nd (inRange x3.int x0.rows.length) (bif !(inB (gd (x0.rows.getD x3.int.toNat []) 0).int 1 60) then ob false
 else nd (inRange x3.int x0.rows.length) (bif !(rangeOk [(gd (x0.rows.getD x3.int.toNat []) 1),(gd (x0.rows.getD x3.int.toNat []) 2)]) then ob false
 else nd (inRange x3.int x0.rows.length) (bif !(s_l12ModeF [(gd (x0.rows.getD x3.int.toNat []) 3)]) then ob false
 else (let o2:=iter (s_LocksOkL2 N p) N [x0,x1,x2,x3,.b (ltI x3.int (x0.rows.length:Int)),.b (!(s_l12ModeF [(gd (x0.rows.getD x3.int.toNat []) 3)])),.i 0]
  nd o2.isSome (bif o2.code==1 then some (1,o2.pay)
  else nd (o2.code==4) (nx [gd o2.pay 0,gd o2.pay 1,gd o2.pay 2,.i (w64 ((gd o2.pay 3).int+1))]))))))
 else ex 0 [x0,x1,x2,x3]:=by kernel_rfl
theorem s_LocksOkR2 (N:Nat) (p:List D) (x0 x1 x2 x3 x4 x5 x6:D):(s_LocksOkL2 N p) [x0,x1,x2,x3,x4,x5,x6] =
 bif ltI x6.int x3.int then nd (inRange x3.int x0.rows.length) (nd (inRange x6.int x0.rows.length) (bif clashS (sub (x0.rows.getD x3.int.toNat []) 0 4) (sub (x0.rows.getD x6.int.toNat []) 0 4) then ob false
 else nx [x0,x1,x2,x3,x4,x5,.i (w64 (x6.int+1))]))
 else ex 2 [x0,x1,x2,x3,x4,x5,x6]:=by kernel_rfl
theorem s_LocksOk_ev (N:Nat) (p:List D):evFn Tryz.prog s_LocksOkT N s_LocksOkK Tryz.f167 rb [⟨sd (.sl 93),p⟩]=some (bo,
 bif ltI 40 ((gd p 0).rows.length:Int) then ob false
 else (let o0:=iter (s_LocksOkL0 N p) N [gd p 0,.i 0,.b (ltI 40 ((gd p 0).rows.length:Int)),.i 0]
  nd o0.isSome (bif o0.code==1 then some (1,o0.pay)
  else nd (o0.code==2) (ob true)))):=by kernel_rfl
def lockAtS (z:D) (k:Nat):Bool:=inB (gd (z.rows.getD k []) 0).int 1 60&&(rangeOk [gd (z.rows.getD k []) 1,gd (z.rows.getD k []) 2]&&(i_isModeF [gd (z.rows.getD k []) 3]&&(List.range k).all fun j => !clashS (z.rows.getD k []) (z.rows.getD j [])))
theorem locks_same (z:D) (n:Nat):(List.range n).all (lockAtS z)=(List.range n).all (lockAt z):=by
 rw [Bool.eq_iff_iff]
 simp only [List.all_eq_true,List.mem_range]
 have hr:∀ {k},(lockAtS z k=true∨lockAt z k=true)→rangeOk [gd (z.rows.getD k []) 1,gd (z.rows.getD k []) 2]=true:=fun h=>by
  rcases h with h | h
  ·simp only [lockAtS,Bool.and_eq_true] at h; exact h.2.1
  ·simp only [lockAt,Bool.and_eq_true] at h; exact h.2.1
 constructor
 ·intro h k hk
  have a:=h k hk
  have ra:=hr (.inl a)
  simp only [lockAtS,Bool.and_eq_true,List.all_eq_true,List.mem_range,Bool.not_eq_true'] at a
  simp only [lockAt,Bool.and_eq_true,Bool.not_eq_true',List.any_eq_false,List.mem_range,Bool.not_eq_true]
  refine ⟨a.1,a.2.1,a.2.2.1,fun j hj=>?_⟩
  rw [← clashS_of ra (hr (.inl (h j (by omega))))]
  exact a.2.2.2 j hj
 ·intro h k hk
  have a:=h k hk
  have ra:=hr (.inr a)
  simp only [lockAt,Bool.and_eq_true,Bool.not_eq_true',List.any_eq_false,List.mem_range,Bool.not_eq_true] at a
  simp only [lockAtS,Bool.and_eq_true,List.all_eq_true,List.mem_range,Bool.not_eq_true']
  refine ⟨a.1,a.2.1,a.2.2.1,fun j hj=>?_⟩
  rw [clashS_of ra (hr (.inr (h j (by omega))))]
  exact a.2.2.2 j hj
def s_LocksOkE:Ent:=(167,e1 (sd (.sl 93)) fun p=>(⟨rb,[.b (locksOk (gd p 0))]⟩,true))
theorem s_LocksOk_ok:EntOk Tryz.prog s_LocksOkE:=e1_ok fun p h=>evFn_sound (N:=(gd p 0).rows.length+1) (ks:=s_LocksOkK) (key:=bo) s_LocksOkT_ok (enters Tryz.func167) Tryz.func167 fun hw=>by
 rw [s_LocksOk_ev]
 have hl:=wt_sl (hw ⟨sd (.sl 93),p⟩ (by simp))
 unfold locksOk
 rw [← locks_same]
 by_cases hb:(gd p 0).rows.length≤40
 ·rw [ltI_f (show ((gd p 0).rows.length:Int)≤40 from by omega),leI_t (show ((gd p 0).rows.length:Int)≤40 from by omega),cond_false]
  have e:=for_loop (L:=s_LocksOkL0 ((gd p 0).rows.length+1) p) (fun k => [gd p 0,.i 0,.b false,.i (k:Int)]) (gd p 0).rows.length (lockAtS (gd p 0)) [.b false] 0 (fun k hk=>?_) ?_ (N:=(gd p 0).rows.length+1) (by omega)
  ·simp only [Int.natCast_zero] at e
   rw [e]
   cases (List.range (gd p 0).rows.length).all (lockAtS (gd p 0)) <;> rfl
  ·show s_LocksOkL0 _ p [_,_,_,.i (k:Int)]=_
   rw [s_LocksOkR0]
   simp only [int_i,ltI_nat hk,cond_true,nd_ix hk,Int.toNat_natCast,lockAtS,show s_l12ModeF [gd ((gd p 0).rows.getD k []) 3]=i_isModeF [gd ((gd p 0).rows.getD k []) 3] from rfl]
   cases inB (gd ((gd p 0).rows.getD k []) 0).int 1 60
   ·rfl
   cases rangeOk [gd ((gd p 0).rows.getD k []) 1,gd ((gd p 0).rows.getD k []) 2]
   ·rfl
   cases i_isModeF [gd ((gd p 0).rows.getD k []) 3]
   ·rfl
   have e2:=for_loop (L:=s_LocksOkL2 ((gd p 0).rows.length+1) p) (fun j => [gd p 0,.i 0,.b false,.i (k:Int),.b true,.b false,.i (j:Int)]) k (fun j => !clashS ((gd p 0).rows.getD k []) ((gd p 0).rows.getD j [])) [.b false] 2 (fun j hj=>?_) ?_ (N:=(gd p 0).rows.length+1) (by omega)
   ·simp only [Int.natCast_zero] at e2
    simp only [Bool.not_true,cond_false,e2,Bool.true_and]
    cases (List.range k).all fun j => !clashS ((gd p 0).rows.getD k []) ((gd p 0).rows.getD j [])
    ·rfl
    ·simp only [nd,cond_true,cond_false,Option.isSome_some,Out.code,Out.pay,Option.getD_some,gd_cons_zero,gd_cons_succ,Nat.reduceBEq,Nat.reduceAdd,int_i,bool_b,str_s,rows_l,Bool.not_true,Bool.not_false,beq_self_eq_true,w64_succ hk hl]
   ·show s_LocksOkL2 _ p [_,_,_,.i (k:Int),_,_,.i (j:Int)]=_
    rw [s_LocksOkR2]
    simp only [int_i,c_lt hj,nd_ix hk,nd_ix (Nat.lt_trans hj hk),w64_succ hj (show k≤9223372036854775807 from by omega),Int.toNat_natCast]
    rw [show clashS (sub ((gd p 0).rows.getD k []) 0 4) (sub ((gd p 0).rows.getD j []) 0 4)=clashS ((gd p 0).rows.getD k []) ((gd p 0).rows.getD j []) from rfl]
    cases clashS ((gd p 0).rows.getD k []) ((gd p 0).rows.getD j []) <;> rfl
   ·show s_LocksOkL2 _ p [_,_,_,.i (k:Int),_,_,.i (k:Int)]=_
    rw [s_LocksOkR2]
    simp only [int_i,c_nlt]
  ·show s_LocksOkL0 _ p [_,_,_,.i ((gd p 0).rows.length:Int)]=_
   rw [s_LocksOkR0]
   simp only [int_i,c_nlt]
 ·rw [ltI_t (show (40:Int)<((gd p 0).rows.length:Int) from by omega),leI_f (show (40:Int)<((gd p 0).rows.length:Int) from by omega),Bool.and_false]
  rfl
abbrev i_haveAllT:FuncId→List T→Option (T × Bool):=find []
theorem i_haveAllT_ok:CallOk Tryz.prog i_haveAllT:=find_ok (fN)
abbrev i_haveAllK:List Nat:= [0,1,3,4,5,7,10,11,12,13,25]
noncomputable def i_haveAllL0 (N:Nat) (p q:List D):List D→Out:=loopOf Tryz.prog i_haveAllT N i_haveAllK Tryz.f75 rb [⟨sd (.sl 41),p⟩,⟨ag rIRange,q⟩] 0
theorem i_haveAllR0 (N:Nat) (p q:List D) (x0 x1 x2 x3 x4 x5 x6 x7 x8 x9 x10:D):(i_haveAllL0 N p q) [x0,x1,x2,x3,x4,x5,x6,x7,x8,x9,x10] =
 bif ltI x8.int x7.int then nd (inRange x8.int x6.rows.length) (bif leI (gd (x6.rows.getD x8.int.toNat []) 0).int x5.int then bif ltI x5.int (gd (x6.rows.getD x8.int.toNat []) 1).int then nx [x0,x1,x2,x3,x4,gd (x6.rows.getD x8.int.toNat []) 1,x6,x7,.i (w64 (x8.int+1)),x9,x10]
 else nx [x0,x1,x2,x3,x4,x5,x6,x7,.i (w64 (x8.int+1)),x9,x10]
 else nx [x0,x1,x2,x3,x4,x5,x6,x7,.i (w64 (x8.int+1)),x9,x10])
 else ex 0 [x0,x1,x2,x3,x4,x5,x6,x7,x8,x9,x10]:=by kernel_rfl
theorem i_haveAll_ev (N:Nat) (p q:List D):evFn Tryz.prog i_haveAllT N i_haveAllK Tryz.f75 rb [⟨sd (.sl 41),p⟩,⟨ag rIRange,q⟩]=some (bo,
 (let o0:=iter (i_haveAllL0 N p q) N [gd p 0,gd q 0,gd q 1,.i 0,.i 0,gd q 0,gd p 0,.i ((gd p 0).rows.length:Int),.i 0,gd q 0,gd q 1]
  nd o0.isSome (nd (o0.code==2) (ob (leI (gd o0.pay 10).int (gd o0.pay 5).int))))):=by kernel_rfl
def haveD (z:D) (a:D):Nat→D
 | 0=>a
 | k+1=>bif leI (gd (z.rows.getD k []) 0).int (haveD z a k).int&&ltI (haveD z a k).int (gd (z.rows.getD k []) 1).int then gd (z.rows.getD k []) 1 else haveD z a k
def haveAll (z:D) (q:List D):Bool:=leI (gd q 1).int (haveD z (gd q 0) z.rows.length).int
theorem run_loop {L:List D→Out} (st:Nat→List D) (n:Nat) (j:Nat) (h1:∀ k,k<n→L (st k)=some (0,st (k+1))) (h2:L (st n)=some (j+2,st n)) {N:Nat} (hN:n<N) :
  iter L N (st 0)=some (j+2,st n):=by
 have e:=for_loop (L:=L) st n (fun _=>true) [] j (fun k hk=>h1 k hk) h2 hN
 rw [e,show (List.range n).all (fun _=>true)=true from by simp]; rfl
def i_haveAllE:Ent:=(75,e2 (sd (.sl 41)) (ag rIRange) fun p q=>(⟨rb,[.b (haveAll (gd p 0) q)]⟩,true))
theorem i_haveAll_ok:EntOk Tryz.prog i_haveAllE:=e2_ok fun p q h=>evFn_sound (N:=(gd p 0).rows.length+1) (ks:=i_haveAllK) (key:=bo) i_haveAllT_ok (enters Tryz.func75) Tryz.func75 fun hw=>by
 rw [i_haveAll_ev]
 have hl:=wt_sl (hw ⟨sd (.sl 41),p⟩ (by simp))
 have e:=run_loop (L:=i_haveAllL0 ((gd p 0).rows.length+1) p q) (fun k => [gd p 0,gd q 0,gd q 1,.i 0,.i 0,haveD (gd p 0) (gd q 0) k,gd p 0,.i ((gd p 0).rows.length:Int),.i (k:Int),gd q 0,gd q 1]) (gd p 0).rows.length 0 (fun k hk=>?_) ?_ (N:=(gd p 0).rows.length+1) (by omega)
 ·simp only [Int.natCast_zero] at e
  rw [show haveD (gd p 0) (gd q 0) 0=gd q 0 from rfl] at e
  rw [e]
  rfl
 ·show i_haveAllL0 _ p q [_,_,_,_,_,_,_,_,.i (k:Int),_,_]=_
  rw [i_haveAllR0]
  simp only [int_i,c_lt hk,nd_ix hk,w64_succ hk hl,Int.toNat_natCast,haveD]
  cases leI (gd ((gd p 0).rows.getD k []) 0).int (haveD (gd p 0) (gd q 0) k).int <;> cases ltI (haveD (gd p 0) (gd q 0) k).int (gd ((gd p 0).rows.getD k []) 1).int <;> rfl
 ·show i_haveAllL0 _ p q [_,_,_,_,_,_,_,.i ((gd p 0).rows.length:Int),.i ((gd p 0).rows.length:Int),_,_]=_
  rw [i_haveAllR0]
  simp only [int_i,c_nlt]
abbrev s_RangesHaveT:FuncId→List T→Option (T × Bool):=find [s_RangesOkE,s_RangeOkE]
theorem s_RangesHaveT_ok:CallOk Tryz.prog s_RangesHaveT:=find_ok (fC ⟨s_RangesOk_ok,fC ⟨s_RangeOk_ok,fN⟩⟩)
abbrev s_RangesHaveK:List Nat:= [0,1,3,4,5,6,14,20,38]
noncomputable def s_RangesHaveL0 (N:Nat) (p q:List D):List D→Out:=loopOf Tryz.prog s_RangesHaveT N s_RangesHaveK Tryz.f62 rb [⟨sd (.sl 41),p⟩,⟨ag rIRange,q⟩] 0
theorem s_RangesHaveR0 (N:Nat) (p q:List D) (x0 x1 x2 x3 x4 x5 x6 x7 x8 x9:D):(s_RangesHaveL0 N p q) [x0,x1,x2,x3,x4,x5,x6,x7,x8,x9] =
 bif ltI x7.int (x0.rows.length:Int) then nd (inRange x7.int x0.rows.length) (bif leI (gd (x0.rows.getD x7.int.toNat []) 0).int x6.int then nd (inRange x7.int x0.rows.length) (bif ltI x6.int (gd (x0.rows.getD x7.int.toNat []) 1).int then nd (inRange x7.int x0.rows.length) (nx [x0,x1,x2,x3,x4,x5,gd (x0.rows.getD x7.int.toNat []) 1,.i (w64 (x7.int+1)),x8,x9])
 else nx [x0,x1,x2,x3,x4,x5,x6,.i (w64 (x7.int+1)),x8,x9])
 else nx [x0,x1,x2,x3,x4,x5,x6,.i (w64 (x7.int+1)),x8,x9])
 else ex 0 [x0,x1,x2,x3,x4,x5,x6,x7,x8,x9]:=by kernel_rfl
theorem s_RangesHave_ev (N:Nat) (p q:List D):evFn Tryz.prog s_RangesHaveT N s_RangesHaveK Tryz.f62 rb [⟨sd (.sl 41),p⟩,⟨ag rIRange,q⟩]=some (bo,
 bif !(rangesOk (gd p 0)) then ob false
 else bif !(rangeOk (sub q 0 2)) then ob false
 else (let o0:=iter (s_RangesHaveL0 N p q) N [gd p 0,gd q 0,gd q 1,.i 0,.i 0,.b (!(rangeOk (sub q 0 2))),gd q 0,.i 0,gd q 0,gd q 1]
  nd o0.isSome (nd (o0.code==2) (ob (leI (gd o0.pay 9).int (gd o0.pay 6).int))))):=by kernel_rfl
def rangesHave (z:D) (q:List D):Bool:=rangesOk z&&(rangeOk q&&haveAll z q)
def s_RangesHaveE:Ent:=(62,e2 (sd (.sl 41)) (ag rIRange) fun p q=>(⟨rb,[.b (rangesHave (gd p 0) q)]⟩,true))
theorem s_RangesHave_ok:EntOk Tryz.prog s_RangesHaveE:=e2_ok fun p q h=>evFn_sound (N:=(gd p 0).rows.length+1) (ks:=s_RangesHaveK) (key:=bo) s_RangesHaveT_ok (enters Tryz.func62) Tryz.func62 fun hw=>by
 rw [s_RangesHave_ev]
 have hl:=wt_sl (hw ⟨sd (.sl 41),p⟩ (by simp))
 unfold rangesHave
 rw [show rangeOk (sub q 0 2)=rangeOk q from rfl]
 cases rangesOk (gd p 0)
 ·rfl
 cases rangeOk q
 ·rfl
 have e:=run_loop (L:=s_RangesHaveL0 ((gd p 0).rows.length+1) p q) (fun k => [gd p 0,gd q 0,gd q 1,.i 0,.i 0,.b false,haveD (gd p 0) (gd q 0) k,.i (k:Int),gd q 0,gd q 1]) (gd p 0).rows.length 0 (fun k hk=>?_) ?_ (N:=(gd p 0).rows.length+1) (by omega)
 ·simp only [Int.natCast_zero] at e
  rw [show haveD (gd p 0) (gd q 0) 0=gd q 0 from rfl] at e
  simp only [Bool.not_true,cond_false,e]
  rfl
 ·show s_RangesHaveL0 _ p q [_,_,_,_,_,_,_,.i (k:Int),_,_]=_
  rw [s_RangesHaveR0]
  simp only [int_i,c_lt hk,nd_ix hk,w64_succ hk hl,Int.toNat_natCast,haveD]
  cases leI (gd ((gd p 0).rows.getD k []) 0).int (haveD (gd p 0) (gd q 0) k).int <;> cases ltI (haveD (gd p 0) (gd q 0) k).int (gd ((gd p 0).rows.getD k []) 1).int <;> rfl
 ·show s_RangesHaveL0 _ p q [_,_,_,_,_,_,_,.i ((gd p 0).rows.length:Int),_,_]=_
  rw [s_RangesHaveR0]
  simp only [int_i,c_nlt]
end Go.Proofs.YtpdfmcmnjikppaaGreat
namespace Go.Proofs.YtpdfmcmnjikppaaGreat
set_option maxRecDepth 4096
def still (a b c d:Int) (n:Nat):Bool:=(a==0)&&((b==0)&&((c==0)&&((d==0)&&((n:Int)==0))))
end Go.Proofs.YtpdfmcmnjikppaaGreat
namespace Go.Proofs.YtpdfmcmnjikppaaGreat
set_option maxRecDepth 4096
set_option maxHeartbeats 1000000
abbrev i_LocksHoldT:FuncId→List T→Option (T × Bool):=find [i_LocksOkE,i_RangeOkE,i_isModeE,cofLHE]
theorem i_LocksHoldT_ok:CallOk Tryz.prog i_LocksHoldT:=find_ok (fC ⟨i_LocksOk_ok,fC ⟨i_RangeOk_ok,fC ⟨i_isMode_ok,fC ⟨cofLH_ok,fN⟩⟩⟩⟩)
abbrev i_LocksHoldK:List Nat:= [0,1,2,3,5,6,7,8]
theorem i_LocksHold_ev (N:Nat) (p q r s:List D):evFn Tryz.prog i_LocksHoldT N i_LocksHoldK Tryz.f50 rb [⟨sd (.sl 93),p⟩,⟨ri,q⟩,⟨ag rIRange,r⟩,⟨ri,s⟩]=some (bo,
 bif locksOk (gd p 0) then bif rangeOk (sub r 0 2) then bif i_isModeF [(gd s 0)] then ob (anyS (fun rr=>ixfLHC (.l [[.l [[gd q 0]],.l [[gd s 0]],.l [sub r 0 2]]]) (sub rr 0 4)) (gd p 0))
 else ob false
 else ob false
 else ob false):=by kernel_rfl
def locksHold (z tx:D) (a:List D) (mode:D):Bool:=locksOk z&&(rangeOk a&&(i_isModeF [mode]&&anyS (fun r=>ixfLHC (.l [[.l [[tx]],.l [[mode]],.l [sub a 0 2]]]) (sub r 0 4)) z))
def i_LocksHoldE:Ent:=(50,e4 (sd (.sl 93)) ri (ag rIRange) ri fun p q r s=>(⟨rb,[.b (locksHold (gd p 0) (gd q 0) r (gd s 0))]⟩,true))
theorem i_LocksHold_ok:EntOk Tryz.prog i_LocksHoldE:=e4_ok fun p q r s h=>evFn_sound (N:=0) (ks:=i_LocksHoldK) (key:=bo) i_LocksHoldT_ok (enters Tryz.func50) Tryz.func50 fun hw=>by
 rw [i_LocksHold_ev]
 rw [show rangeOk (sub r 0 2)=rangeOk r from rfl]
 unfold locksHold
 cases locksOk (gd p 0) <;> try rfl
 cases rangeOk r <;> try rfl
 cases i_isModeF [gd s 0] <;> rfl
abbrev s_l12HoldsT:FuncId→List T→Option (T × Bool):=find [s_l12RangeE,s_RangeInE]
theorem s_l12HoldsT_ok:CallOk Tryz.prog s_l12HoldsT:=find_ok (fC ⟨s_l12Range_ok,fC ⟨s_RangeIn_ok,fN⟩⟩)
abbrev s_l12HoldsK:List Nat:= [0,1,2,3,6,8,9,13,40]
noncomputable def s_l12HoldsL0 (N:Nat) (p q r s:List D):List D→Out:=loopOf Tryz.prog s_l12HoldsT N s_l12HoldsK Tryz.f96 rb [⟨sd (.sl 93),p⟩,⟨ri,q⟩,⟨ag rIRange,r⟩,⟨ri,s⟩] 0
theorem s_l12HoldsR0 (N:Nat) (p q r s:List D) (x0 x1 x2 x3 x4 x5 x6 x7 x8 x9:D):(s_l12HoldsL0 N p q r s) [x0,x1,x2,x3,x4,x5,x6,x7,x8,x9] =
 bif ltI x7.int (x0.rows.length:Int) then nd (inRange x7.int x0.rows.length) (bif (gd (x0.rows.getD x7.int.toNat []) 0).int==x1.int then nd (inRange x7.int x0.rows.length) (bif s_RangeInF [x8,x9] [(gd (x0.rows.getD x7.int.toNat []) 1),(gd (x0.rows.getD x7.int.toNat []) 2)] then nd (inRange x7.int x0.rows.length) (bif leI x4.int (gd (x0.rows.getD x7.int.toNat []) 3).int then ob true
 else nx [x0,x1,x2,x3,x4,x5,x6,.i (w64 (x7.int+1)),x8,x9])
 else nx [x0,x1,x2,x3,x4,x5,x6,.i (w64 (x7.int+1)),x8,x9])
 else nx [x0,x1,x2,x3,x4,x5,x6,.i (w64 (x7.int+1)),x8,x9])
 else ex 0 [x0,x1,x2,x3,x4,x5,x6,x7,x8,x9]:=by kernel_rfl
theorem s_l12Holds_ev (N:Nat) (p q r s:List D):evFn Tryz.prog s_l12HoldsT N s_l12HoldsK Tryz.f96 rb [⟨sd (.sl 93),p⟩,⟨ri,q⟩,⟨ag rIRange,r⟩,⟨ri,s⟩]=some (bo,
 (let o0:=iter (s_l12HoldsL0 N p q r s) N [gd p 0,gd q 0,gd r 0,gd r 1,gd s 0,.i 0,.i 0,.i 0,gd r 0,gd r 1]
  nd o0.isSome (bif o0.code==1 then some (1,o0.pay)
  else nd (o0.code==2) (ob false)))):=by kernel_rfl
def holdS (r:List D) (tx:D) (a:List D) (mode:D):Bool:=((gd r 0).int==tx.int)&&(s_RangeInF a [gd r 1,gd r 2]&&leI mode.int (gd r 3).int)
def holds (z tx:D) (a:List D) (mode:D):Bool:=(List.range z.rows.length).any fun k=>holdS (z.rows.getD k []) tx a mode
theorem lock_row {z:D} (h:locksOk z=true) {k:Nat} (hk:k<z.rows.length):rangeOk [gd (z.rows.getD k []) 1,gd (z.rows.getD k []) 2]=true∧i_isModeF [gd (z.rows.getD k []) 3]=true:=by
 simp only [locksOk,Bool.and_eq_true,List.all_eq_true,List.mem_range] at h
 have:=h.1 k hk
 simp only [lockAt,Bool.and_eq_true] at this
 exact ⟨this.2.1,this.2.2.1⟩
theorem any_congr {n:Nat} {C C':Nat→Bool} (h:∀ k,k<n→C k=C' k):(List.range n).any C=(List.range n).any C':=by
 rw [Bool.eq_iff_iff]
 simp only [List.any_eq_true,List.mem_range]
 exact ⟨fun ⟨k,hk,hc⟩=>⟨k,hk,by rw [← h k hk]; exact hc⟩,fun ⟨k,hk,hc⟩=>⟨k,hk,by rw [h k hk]; exact hc⟩⟩
theorem all_congr {n:Nat} {C C':Nat→Bool} (h:∀ k,k<n→C k=C' k):(List.range n).all C=(List.range n).all C':=by
 rw [Bool.eq_iff_iff]
 simp only [List.all_eq_true,List.mem_range]
 exact ⟨fun hc k hk=>by rw [← h k hk]; exact hc k hk,fun hc k hk=>by rw [h k hk]; exact hc k hk⟩
theorem hold_same {z tx:D} {a:List D} (hz:locksOk z=true) (ha:rangeOk a=true):holds z tx a (.i 2)=locksHold z tx a (.i 2):=by
 unfold holds locksHold
 rw [hz,ha,Bool.true_and,Bool.true_and,show i_isModeF [.i 2]=true from rfl,Bool.true_and]
 unfold anyS
 refine any_congr fun k hk=>?_
 obtain ⟨h1,h2⟩:=lock_row hz hk
 show holdS (z.rows.getD k []) tx a (.i 2)=i_LocksHold_1F (sub (z.rows.getD k []) 0 4) [.l [[tx]]] [.l [[.i 2]]] [.l [sub a 0 2]]
 have e:i_LocksHold_1F (sub (z.rows.getD k []) 0 4) [.l [[tx]]] [.l [[.i 2]]] [.l [sub a 0 2]]=(bif (gd (z.rows.getD k []) 0).int==tx.int then bif (gd (z.rows.getD k []) 3).int==2 then bif leI (gd (z.rows.getD k []) 1).int (gd a 0).int then leI (gd a 1).int (gd (z.rows.getD k []) 2).int else false else bif (gd (z.rows.getD k []) 3).int==2 then bif leI (gd (z.rows.getD k []) 1).int (gd a 0).int then leI (gd a 1).int (gd (z.rows.getD k []) 2).int else false else false else false):=rfl
 rw [e]
 unfold holdS s_RangeInF
 rw [show rangeOk (sub a 0 2)=rangeOk a from rfl,ha,show rangeOk (sub [gd (z.rows.getD k []) 1,gd (z.rows.getD k []) 2] 0 2)=rangeOk [gd (z.rows.getD k []) 1,gd (z.rows.getD k []) 2] from rfl,h1]
 simp only [cond_true,gd_cons_zero,gd_cons_succ,int_i]
 have hm:leI 2 (gd (z.rows.getD k []) 3).int=((gd (z.rows.getD k []) 3).int==2):=by
  have h2:(bif (gd (z.rows.getD k []) 3).int==1 then true else (gd (z.rows.getD k []) 3).int==2)=true:=h2
  cases h3:(gd (z.rows.getD k []) 3).int==1
  ·rw [h3,cond_false] at h2
   rw [h2,eq_of_beq h2]; rfl
  ·rw [eq_of_beq h3]; rfl
 rw [hm]
 cases (gd (z.rows.getD k []) 0).int==tx.int <;> cases (gd (z.rows.getD k []) 3).int==2 <;> cases leI (gd (z.rows.getD k []) 1).int (gd a 0).int <;> cases leI (gd a 1).int (gd (z.rows.getD k []) 2).int <;> rfl
def s_l12HoldsE:Ent:=(96,e4 (sd (.sl 93)) ri (ag rIRange) ri fun p q r s=>(⟨rb,[.b (holds (gd p 0) (gd q 0) r (gd s 0))]⟩,true))
theorem s_l12Holds_ok:EntOk Tryz.prog s_l12HoldsE:=e4_ok fun p q r s h=>evFn_sound (N:=(gd p 0).rows.length+1) (ks:=s_l12HoldsK) (key:=bo) s_l12HoldsT_ok (enters Tryz.func96) Tryz.func96 fun hw=>by
 rw [s_l12Holds_ev]
 have hl:=wt_sl (hw ⟨sd (.sl 93),p⟩ (by simp))
 have e:=any_loop (L:=s_l12HoldsL0 ((gd p 0).rows.length+1) p q r s) (fun k => [gd p 0,gd q 0,gd r 0,gd r 1,gd s 0,.i 0,.i 0,.i (k:Int),gd r 0,gd r 1]) (gd p 0).rows.length (fun k=>holdS ((gd p 0).rows.getD k []) (gd q 0) r (gd s 0)) [.b true] 0 (fun k hk=>?_) ?_ (N:=(gd p 0).rows.length+1) (by omega)
 ·simp only [Int.natCast_zero] at e
  rw [e]
  unfold holds
  cases (List.range (gd p 0).rows.length).any (fun k=>holdS ((gd p 0).rows.getD k []) (gd q 0) r (gd s 0)) <;> rfl
 ·show s_l12HoldsL0 _ p q r s [_,_,_,_,_,_,_,.i (k:Int),_,_]=_
  rw [s_l12HoldsR0]
  simp only [int_i,c_lt hk,nd_ix hk,w64_succ hk hl,Int.toNat_natCast]
  rw [show s_RangeInF [gd r 0,gd r 1] [gd ((gd p 0).rows.getD k []) 1,gd ((gd p 0).rows.getD k []) 2]=s_RangeInF r [gd ((gd p 0).rows.getD k []) 1,gd ((gd p 0).rows.getD k []) 2] from rfl]
  unfold holdS
  cases (gd ((gd p 0).rows.getD k []) 0).int==(gd q 0).int <;> cases s_RangeInF r [gd ((gd p 0).rows.getD k []) 1,gd ((gd p 0).rows.getD k []) 2] <;> cases leI (gd s 0).int (gd ((gd p 0).rows.getD k []) 3).int <;> rfl
 ·show s_l12HoldsL0 _ p q r s [_,_,_,_,_,_,_,.i ((gd p 0).rows.length:Int),_,_]=_
  rw [s_l12HoldsR0]
  simp only [int_i,c_nlt]
abbrev i_txsOfT:FuncId→List T→Option (T × Bool):=find []
theorem i_txsOfT_ok:CallOk Tryz.prog i_txsOfT:=find_ok (fN)
abbrev i_txsOfK:List Nat:= [0,2,3,5,7,8,9,10]
noncomputable def i_txsOfL0 (N:Nat) (p:List D):List D→Out:=loopOf Tryz.prog i_txsOfT N i_txsOfK Tryz.f117 (.one (.c (.own (0,0) true 3))) [⟨sd (.sl 75),p⟩] 0
theorem i_txsOfR0 (N:Nat) (p:List D) (x0 x1 x2 x3 x4 x5:D):(i_txsOfL0 N p) [x0,x1,x2,x3,x4,x5] =
 bif ltI x5.int x4.int then nd (inRange x5.int x3.rows.length) (nd (lenOk (x2.rows ++ [[gd (x3.rows.getD x5.int.toNat []) 0]])&&true) (nx [x0,x1,.l (x2.rows ++ [[gd (x3.rows.getD x5.int.toNat []) 0]]),x3,x4,.i (w64 (x5.int+1))]))
 else ex 0 [x0,x1,x2,x3,x4,x5]:=by kernel_rfl
theorem i_txsOf_ev (N:Nat) (p:List D):evFn Tryz.prog i_txsOfT N i_txsOfK Tryz.f117 (.one (.c (.own (0,0) true 3))) [⟨sd (.sl 75),p⟩]=some (bo,
 (let o0:=iter (i_txsOfL0 N p) N [gd p 0,.l [],.l [],gd p 0,.i ((gd p 0).rows.length:Int),.i 0]
  nd o0.isSome (nd (o0.code==2) (some (1,[gd o0.pay 2]))))):=by kernel_rfl
def txsD (z:D):D:=.l (z.rows.map fun r => [gd r 0])
def i_txsOfE:Ent:=(117,e1 (sd (.sl 75)) fun p=>(⟨.one (.c (.own (0,0) true 3)),[txsD (gd p 0)]⟩,leI ((gd p 0).rows.length:Int) 1000000000))
theorem i_txsOf_ok:EntOk Tryz.prog i_txsOfE:=e1_ok fun p h=>evFn_sound (N:=(gd p 0).rows.length+1) (ks:=i_txsOfK) (key:=bo) i_txsOfT_ok (enters Tryz.func117) Tryz.func117 fun hw=>by
 rw [i_txsOf_ev]
 have h:leI ((gd p 0).rows.length:Int) 1000000000=true:=h
 simp only [leI,decide_eq_true_eq] at h
 have e:=run_loop (L:=i_txsOfL0 ((gd p 0).rows.length+1) p) (fun k => [gd p 0,.l [],.l (((gd p 0).rows.take k).map fun r => [gd r 0]),gd p 0,.i ((gd p 0).rows.length:Int),.i (k:Int)]) (gd p 0).rows.length 0 (fun k hk=>?_) ?_ (N:=(gd p 0).rows.length+1) (by omega)
 ·simp only [Int.natCast_zero,List.take_zero,List.map_nil,List.take_length] at e
  rw [e]
  rfl
 ·show i_txsOfL0 _ p [_,_,.l (((gd p 0).rows.take k).map fun r => [gd r 0]),_,_,.i (k:Int)]=_
  rw [i_txsOfR0]
  have ht:((gd p 0).rows.take (k+1)).map (fun r => [gd r 0])=((gd p 0).rows.take k).map (fun r => [gd r 0]) ++ [[gd ((gd p 0).rows.getD k []) 0]]:=by
   rw [List.take_succ_eq_append_getElem hk,List.map_append,List.getD_eq_getElem?_getD,List.getElem?_eq_getElem hk]
   rfl
  have hd:lenOk (((gd p 0).rows.take k).map (fun r => [gd r 0]) ++ [[gd ((gd p 0).rows.getD k []) 0]])=true:=lenOk_t (by simp; omega)
  simp only [int_i,rows_l,c_lt hk,nd_ix hk,w64_succ hk (show (gd p 0).rows.length≤9223372036854775807 from by omega),Int.toNat_natCast]
  rw [hd,ht]
  rfl
 ·show i_txsOfL0 _ p [_,_,_,_,.i ((gd p 0).rows.length:Int),.i ((gd p 0).rows.length:Int)]=_
  rw [i_txsOfR0]
  simp only [int_i,c_nlt]
abbrev i_heldsOk_1T:FuncId→List T→Option (T × Bool):=find [i_oneE,i_LocksHoldE]
theorem i_heldsOk_1T_ok:CallOk Tryz.prog i_heldsOk_1T:=find_ok (fC ⟨i_one_ok,fC ⟨i_LocksHold_ok,fN⟩⟩)
abbrev i_heldsOk_1K:List Nat:= [0,1,2,3,4]
theorem i_heldsOk_1_ev (N:Nat) (p q r:List D):evFn Tryz.prog i_heldsOk_1T N i_heldsOk_1K Tryz.f232 rb [⟨ag rIWrite,p⟩,⟨.one (.c (.cptr [si,.sl 41,.sl 41,.sl 108,.sl 93,.sl 75,.sl 3,.sl 3,si] 0)),q⟩,⟨.one (.c (.cptr [si,.sl 70] 0)),r⟩]=some (bo,
 ob (!(locksHold (gd ((gd q 0).rows.getD 0 []) 4) (gd ((gd r 0).rows.getD 0 []) 0) [(gd p 0),.i (w64 ((gd p 0).int+1))] (.i 2)))):=by kernel_rfl
def i_heldsOk_1F (p q r:List D):Bool:=
 !(locksHold (gd ((gd q 0).rows.getD 0 []) 4) (gd ((gd r 0).rows.getD 0 []) 0) [(gd p 0),.i (w64 ((gd p 0).int+1))] (.i 2))
def i_heldsOk_1E:Ent:=(232,e3 (ag rIWrite) (.one (.c (.cptr [si,.sl 41,.sl 41,.sl 108,.sl 93,.sl 75,.sl 3,.sl 3,si] 0))) (.one (.c (.cptr [si,.sl 70] 0))) fun p q r=>(⟨rb,[.b (i_heldsOk_1F p [gd q 0] [gd r 0])]⟩,true))
theorem i_heldsOk_1_ok:EntOk Tryz.prog i_heldsOk_1E:=e3_ok fun p q r h=>evFn_sound (N:=0) (ks:=i_heldsOk_1K) (key:=bo) i_heldsOk_1T_ok (enters Tryz.func232) Tryz.func232 fun hw=>by
 rw [i_heldsOk_1_ev]
 try simp only [cond_ob,cond_oi,cond_os]
 rfl
abbrev ixfHOT:FuncId→List T→Option (T × Bool):=find [i_heldsOk_1E]
theorem ixfHOT_ok:CallOk Tryz.prog ixfHOT:=find_ok (fC ⟨i_heldsOk_1_ok,fN⟩)
abbrev ixfHOK:List Nat:= [0,1,4,5,7,8,9,16]
noncomputable def ixfHOL0 (N:Nat) (p q:List D):List D→Out:=loopOf Tryz.prog ixfHOT N ixfHOK Tryz.f252 ri [⟨sd (.sl 70),p⟩,⟨.one (.c (.fn 232 [.cptr [si,.sl 41,.sl 41,.sl 108,.sl 93,.sl 75,.sl 3,.sl 3,si] 0,.cptr [si,.sl 70] 0])),q⟩] 0
theorem ixfHOR0 (N:Nat) (p q:List D) (x0 x1 x2 x3 x4:D):(ixfHOL0 N p q) [x0,x1,x2,x3,x4] =
 bif ltI x4.int x3.int then nd (inRange x4.int x0.rows.length) (bif i_heldsOk_1F (sub (x0.rows.getD x4.int.toNat []) 0 2) [gd (x1.rows.getD 0 []) 0] [gd (x1.rows.getD 0 []).tail 0] then some (1,[x4])
 else nx [x0,x1,x2,x3,.i (w64 (x4.int+1))])
 else ex 0 [x0,x1,x2,x3,x4]:=by kernel_rfl
theorem ixfHO_ev (N:Nat) (p q:List D):evFn Tryz.prog ixfHOT N ixfHOK Tryz.f252 ri [⟨sd (.sl 70),p⟩,⟨.one (.c (.fn 232 [.cptr [si,.sl 41,.sl 41,.sl 108,.sl 93,.sl 75,.sl 3,.sl 3,si] 0,.cptr [si,.sl 70] 0])),q⟩]=some (bo,
 (let o0:=iter (ixfHOL0 N p q) N [gd p 0,gd q 0,.i 0,.i ((gd p 0).rows.length:Int),.i 0]
  nd o0.isSome (bif o0.code==1 then some (1,o0.pay)
  else nd (o0.code==2) (oi (-1))))):=by kernel_rfl
def ixfHOC (c:D) (r:List D):Bool:=i_heldsOk_1F r [gd (c.rows.getD 0 []) 0] [gd (c.rows.getD 0 []).tail 0]
def ixfHOE:Ent:=(252,e2 (sd (.sl 70)) (.one (.c (.fn 232 [.cptr [si,.sl 41,.sl 41,.sl 108,.sl 93,.sl 75,.sl 3,.sl 3,si] 0,.cptr [si,.sl 70] 0]))) fun p q=>(⟨ri,[.i (ixF (fun k=>ixfHOC (gd q 0) (sub ((gd p 0).rows.getD k []) 0 2)) 0 (gd p 0).rows.length)]⟩,true))
theorem ixfHO_ok:EntOk Tryz.prog ixfHOE:=e2_ok fun p q h=>evFn_sound (N:=(gd p 0).rows.length+1) (ks:=ixfHOK) (key:=bo) ixfHOT_ok (enters Tryz.func252) Tryz.func252 fun hw=>by
 rw [ixfHO_ev]
 have hl:=wt_sl (hw ⟨sd (.sl 70),p⟩ (by simp))
 have e:=ix_loop (L:=ixfHOL0 ((gd p 0).rows.length+1) p q) (fun k => [gd p 0,gd q 0,.i 0,.i ((gd p 0).rows.length:Int),.i (k:Int)]) (gd p 0).rows.length (fun k=>ixfHOC (gd q 0) (sub ((gd p 0).rows.getD k []) 0 2)) [gd p 0,gd q 0,.i 0,.i ((gd p 0).rows.length:Int),.i ((gd p 0).rows.length:Int)] (fun k hk=>?_) ?_ (gd p 0).rows.length 0 ((gd p 0).rows.length+1) (by omega) (by omega)
 ·simp only [Int.natCast_zero] at e
  rw [e]
  have hno:=ixF_neg (fun k=>ixfHOC (gd q 0) (sub ((gd p 0).rows.getD k []) 0 2)) (gd p 0).rows.length 0
  cases hd:decide (ixF (fun k=>ixfHOC (gd q 0) (sub ((gd p 0).rows.getD k []) 0 2)) 0 (gd p 0).rows.length≥0)
  ·rw [hno hd]; rfl
  ·rfl
 ·show ixfHOL0 _ p q [_,_,_,_,.i (k:Int)]=_
  rw [ixfHOR0]
  simp only [int_i,c_lt hk,nd_ix hk,w64_succ hk hl,Int.toNat_natCast]
  unfold ixfHOC
  cases i_heldsOk_1F (sub ((gd p 0).rows.getD k []) 0 2) [gd ((gd q 0).rows.getD 0 []) 0] [gd ((gd q 0).rows.getD 0 []).tail 0] <;> rfl
 ·show ixfHOL0 _ p q [_,_,_,.i ((gd p 0).rows.length:Int),.i ((gd p 0).rows.length:Int)]=_
  rw [ixfHOR0]
  simp only [int_i,c_nlt]
abbrev cofHOT:FuncId→List T→Option (T × Bool):=find [ixfHOE,i_heldsOk_1E]
theorem cofHOT_ok:CallOk Tryz.prog cofHOT:=find_ok (fC ⟨ixfHO_ok,fC ⟨i_heldsOk_1_ok,fN⟩⟩)
abbrev cofHOK:List Nat:= [0,1,4]
theorem cofHO_ev (N:Nat) (p q:List D):evFn Tryz.prog cofHOT N cofHOK Tryz.f211 rb [⟨sd (.sl 70),p⟩,⟨.one (.c (.fn 232 [.cptr [si,.sl 41,.sl 41,.sl 108,.sl 93,.sl 75,.sl 3,.sl 3,si] 0,.cptr [si,.sl 70] 0])),q⟩]=some (bo,
 ob (leI 0 (ixF (fun k=>ixfHOC (.l [[gd ((gd q 0).rows.getD 0 []) 0,gd ((gd q 0).rows.getD 0 []).tail 0]]) (sub ((gd p 0).rows.getD k []) 0 2)) 0 (gd p 0).rows.length))):=by kernel_rfl
def cofHOE:Ent:=(211,e2 (sd (.sl 70)) (.one (.c (.fn 232 [.cptr [si,.sl 41,.sl 41,.sl 108,.sl 93,.sl 75,.sl 3,.sl 3,si] 0,.cptr [si,.sl 70] 0]))) fun p q=>(⟨rb,[.b (anyS (fun rr=>ixfHOC (gd q 0) (sub rr 0 2)) (gd p 0))]⟩,true))
theorem cofHO_ok:EntOk Tryz.prog cofHOE:=e2_ok fun p q h=>evFn_sound (N:=0) (ks:=cofHOK) (key:=bo) cofHOT_ok (enters Tryz.func211) Tryz.func211 fun hw=>by
 rw [cofHO_ev]
 refine congrArg (fun x=>some (bo,ob x)) ?_
 exact (ixF_any (fun k=>ixfHOC (gd q 0) (sub ((gd p 0).rows.getD k []) 0 2)) (gd p 0).rows.length 0).trans (by simp only [Nat.zero_add]; rfl)
abbrev i_heldsOkT:FuncId→List T→Option (T × Bool):=find [i_WritesOkE,cofHOE,i_txsOfE,i_ascendingE]
theorem i_heldsOkT_ok:CallOk Tryz.prog i_heldsOkT:=find_ok (fC ⟨i_WritesOk_ok,fC ⟨cofHO_ok,fC ⟨i_txsOf_ok,fC ⟨i_ascending_ok,fN⟩⟩⟩⟩)
abbrev i_heldsOkK:List Nat:= [0,1,2,4,6,7,8,9,21]
noncomputable def i_heldsOkL0 (N:Nat) (p:List D):List D→Out:=loopOf Tryz.prog i_heldsOkT N i_heldsOkK Tryz.f152 rb [⟨ag rIShard,p⟩] 0
theorem i_heldsOkR0 (N:Nat) (p:List D) (x0 x1 x2 x3 x4 x5 x6 x7 x8 x9 x10 x11 x12 x13 x14 x15 x16 x17 x18 x19 x20 x21 x22:D):(i_heldsOkL0 N p) [x0,x1,x2,x3,x4,x5,x6,x7,x8,x9,x10,x11,x12,x13,x14,x15,x16,x17,x18,x19,x20,x21,x22] =
 bif ltI x13.int x12.int then nd (inRange x13.int x11.rows.length) (bif !(writesOk (gd (x11.rows.getD x13.int.toNat []) 1)) then ob false
 else bif anyS (fun rr=>ixfHOC (.l [[.l [[x14,x15,x16,x17,x18,x19,x20,x21,x22]],.l [sub (x11.rows.getD x13.int.toNat []) 0 2]]]) (sub rr 0 2)) (gd (x11.rows.getD x13.int.toNat []) 1) then ob false
 else nx [x0,x1,x2,x3,x4,x5,x6,x7,x8,x9,x10,x11,x12,.i (w64 (x13.int+1)),x14,x15,x16,x17,x18,x19,x20,x21,x22])
 else ex 0 [x0,x1,x2,x3,x4,x5,x6,x7,x8,x9,x10,x11,x12,x13,x14,x15,x16,x17,x18,x19,x20,x21,x22]:=by kernel_rfl
theorem i_heldsOk_ev (N:Nat) (p:List D):evFn Tryz.prog i_heldsOkT N i_heldsOkK Tryz.f152 rb [⟨ag rIShard,p⟩]=some (bo,
 (let o0:=iter (i_heldsOkL0 N p) N [gd p 0,gd p 1,gd p 2,gd p 3,gd p 4,gd p 5,gd p 6,gd p 7,gd p 8,.i 0,.i 0,gd p 5,.i ((gd p 5).rows.length:Int),.i 0,gd p 0,gd p 1,gd p 2,gd p 3,gd p 4,gd p 5,gd p 6,gd p 7,gd p 8]
  nd o0.isSome (bif o0.code==1 then some (1,o0.pay)
  else nd (o0.code==2) (nd (leI ((gd o0.pay 19).rows.length:Int) 1000000000) (ob (ascOk (txsD (gd o0.pay 19)))))))):=by kernel_rfl
def oneAt (w:List D):List D:= [gd w 0,.i (w64 ((gd w 0).int+1))]
def heldAt (p:List D) (k:Nat):Bool:=writesOk (gd ((gd p 5).rows.getD k []) 1)&&(List.range (gd ((gd p 5).rows.getD k []) 1).rows.length).all fun j=>locksHold (gd p 4) (gd ((gd p 5).rows.getD k []) 0) (oneAt ((gd ((gd p 5).rows.getD k []) 1).rows.getD j [])) (.i 2)
def heldsOk (p:List D):Bool:=(List.range (gd p 5).rows.length).all (heldAt p)&&ascOk (txsD (gd p 5))
def i_heldsOkE:Ent:=(152,e1 (ag rIShard) fun p=>(⟨rb,[.b (heldsOk p)]⟩,leI ((gd p 5).rows.length:Int) 1000000000))
theorem i_heldsOk_ok:EntOk Tryz.prog i_heldsOkE:=e1_ok fun p h=>evFn_sound (N:=(gd p 5).rows.length+1) (ks:=i_heldsOkK) (key:=bo) i_heldsOkT_ok (enters Tryz.func152) Tryz.func152 fun hw=>by
 rw [i_heldsOk_ev]
 have h:leI ((gd p 5).rows.length:Int) 1000000000=true:=h
 have h':=h
 simp only [leI,decide_eq_true_eq] at h'
 have e:=for_loop (L:=i_heldsOkL0 ((gd p 5).rows.length+1) p) (fun k => [gd p 0,gd p 1,gd p 2,gd p 3,gd p 4,gd p 5,gd p 6,gd p 7,gd p 8,.i 0,.i 0,gd p 5,.i ((gd p 5).rows.length:Int),.i (k:Int),gd p 0,gd p 1,gd p 2,gd p 3,gd p 4,gd p 5,gd p 6,gd p 7,gd p 8]) (gd p 5).rows.length (heldAt p) [.b false] 0 (fun k hk=>?_) ?_ (N:=(gd p 5).rows.length+1) (by omega)
 ·simp only [Int.natCast_zero] at e
  rw [e]
  unfold heldsOk
  cases (List.range (gd p 5).rows.length).all (heldAt p)
  ·rfl
  ·simp only [nd,cond_true,cond_false,Option.isSome_some,Out.code,Out.pay,Option.getD_some,gd_cons_zero,gd_cons_succ,Nat.reduceBEq,Nat.reduceAdd,int_i,bool_b,str_s,rows_l,Bool.not_true,Bool.not_false,beq_self_eq_true,h]
   rfl
 ·show i_heldsOkL0 _ p [_,_,_,_,_,_,_,_,_,_,_,_,_,.i (k:Int),_,_,_,_,_,_,_,_,_]=_
  rw [i_heldsOkR0]
  simp only [int_i,c_lt hk,nd_ix hk,w64_succ hk (show (gd p 5).rows.length≤9223372036854775807 from by omega),Int.toNat_natCast]
  have ea:(!anyS (fun r=>ixfHOC (.l [[.l [[gd p 0,gd p 1,gd p 2,gd p 3,gd p 4,gd p 5,gd p 6,gd p 7,gd p 8]],.l [sub ((gd p 5).rows.getD k []) 0 2]]]) (sub r 0 2)) (gd ((gd p 5).rows.getD k []) 1))=(List.range (gd ((gd p 5).rows.getD k []) 1).rows.length).all fun j=>locksHold (gd p 4) (gd ((gd p 5).rows.getD k []) 0) (oneAt ((gd ((gd p 5).rows.getD k []) 1).rows.getD j [])) (.i 2):=by
   unfold anyS
   rw [← not_any]
   refine all_congr fun j _=>?_
   show (!(!locksHold (gd p 4) (gd ((gd p 5).rows.getD k []) 0) (oneAt ((gd ((gd p 5).rows.getD k []) 1).rows.getD j [])) (.i 2)))=_
   rw [Bool.not_not]
  unfold heldAt
  rw [← ea]
  cases writesOk (gd ((gd p 5).rows.getD k []) 1) <;> cases anyS (fun r=>ixfHOC (.l [[.l [[gd p 0,gd p 1,gd p 2,gd p 3,gd p 4,gd p 5,gd p 6,gd p 7,gd p 8]],.l [sub ((gd p 5).rows.getD k []) 0 2]]]) (sub r 0 2)) (gd ((gd p 5).rows.getD k []) 1) <;> rfl
 ·show i_heldsOkL0 _ p [_,_,_,_,_,_,_,_,_,_,_,_,.i ((gd p 5).rows.length:Int),.i ((gd p 5).rows.length:Int),_,_,_,_,_,_,_,_,_]=_
  rw [i_heldsOkR0]
  simp only [int_i,c_nlt]
abbrev s_l13HeldsOkT:FuncId→List T→Option (T × Bool):=find [s_l12TxE,s_WritesOkE,s_l10OneE,s_l12HoldsE,s_l12HasE]
theorem s_l13HeldsOkT_ok:CallOk Tryz.prog s_l13HeldsOkT:=find_ok (fC ⟨s_l12Tx_ok,fC ⟨s_WritesOk_ok,fC ⟨s_l10One_ok,fC ⟨s_l12Holds_ok,fC ⟨s_l12Has_ok,fN⟩⟩⟩⟩⟩)
abbrev s_l13HeldsOkK:List Nat:= [0,1,2,3,4,5,10,43,48,63,75]
noncomputable def s_l13HeldsOkL0 (N:Nat) (p:List D):List D→Out:=loopOf Tryz.prog s_l13HeldsOkT N s_l13HeldsOkK Tryz.f200 rb [⟨ag rIShard,p⟩] 0
noncomputable def s_l13HeldsOkL2 (N:Nat) (p:List D):List D→Out:=loopOf Tryz.prog s_l13HeldsOkT N s_l13HeldsOkK Tryz.f200 rb [⟨ag rIShard,p⟩] 2
theorem s_l13HeldsOkR0 (N:Nat) (p:List D) (x0 x1 x2 x3 x4 x5 x6 x7 x8 x9 x10 x11 x12 x13 x14 x15 x16 x17 x18 x19 x20:D):(s_l13HeldsOkL0 N p) [x0,x1,x2,x3,x4,x5,x6,x7,x8,x9,x10,x11,x12,x13,x14,x15,x16,x17,x18,x19,x20] =
 bif ltI x11.int (x17.rows.length:Int) then nd (inRange x11.int x17.rows.length) (bif !(inB (gd (x17.rows.getD x11.int.toNat []) 0).int 1 60) then ob false
 else bif ltI 0 x11.int then nd (inRange (w64 (x11.int - 1)) x17.rows.length) (bif leI (gd (x17.rows.getD x11.int.toNat []) 0).int (gd (x17.rows.getD (w64 (x11.int - 1)).toNat []) 0).int then ob false
 else bif !(writesOk (gd (x17.rows.getD x11.int.toNat []) 1)) then ob false
 else (let o2:=iter (s_l13HeldsOkL2 N p) N [x0,x1,x2,x3,x4,x5,x6,x7,x8,x9,x10,x11,.b (ltI x11.int (x17.rows.length:Int)),.i 0,.b (!(writesOk (gd (x17.rows.getD x11.int.toNat []) 1))),.i 0,x12,x13,x14,x15,x16,x17,x18,x19,x20,gd (x17.rows.getD x11.int.toNat []) 0,gd (x17.rows.getD x11.int.toNat []) 1]
  nd o2.isSome (bif o2.code==1 then some (1,o2.pay)
  else nd (o2.code==4) (bif hasInt (gd o2.pay 22) (gd o2.pay 25).int then ob false
  else bif hasInt (gd o2.pay 23) (gd o2.pay 25).int then ob false
  else nx [gd o2.pay 0,gd o2.pay 1,gd o2.pay 2,gd o2.pay 3,gd o2.pay 4,gd o2.pay 5,gd o2.pay 6,gd o2.pay 7,gd o2.pay 8,gd o2.pay 9,gd o2.pay 10,.i (w64 ((gd o2.pay 11).int+1)),gd o2.pay 16,gd o2.pay 17,gd o2.pay 18,gd o2.pay 19,gd o2.pay 20,gd o2.pay 21,gd o2.pay 22,gd o2.pay 23,gd o2.pay 24]))))
 else bif !(writesOk (gd (x17.rows.getD x11.int.toNat []) 1)) then ob false
 else (let o2:=iter (s_l13HeldsOkL2 N p) N [x0,x1,x2,x3,x4,x5,x6,x7,x8,x9,x10,x11,.b (ltI x11.int (x17.rows.length:Int)),.i 0,.b (!(writesOk (gd (x17.rows.getD x11.int.toNat []) 1))),.i 0,x12,x13,x14,x15,x16,x17,x18,x19,x20,gd (x17.rows.getD x11.int.toNat []) 0,gd (x17.rows.getD x11.int.toNat []) 1]
  nd o2.isSome (bif o2.code==1 then some (1,o2.pay)
  else nd (o2.code==4) (bif hasInt (gd o2.pay 22) (gd o2.pay 25).int then ob false
  else bif hasInt (gd o2.pay 23) (gd o2.pay 25).int then ob false
  else nx [gd o2.pay 0,gd o2.pay 1,gd o2.pay 2,gd o2.pay 3,gd o2.pay 4,gd o2.pay 5,gd o2.pay 6,gd o2.pay 7,gd o2.pay 8,gd o2.pay 9,gd o2.pay 10,.i (w64 ((gd o2.pay 11).int+1)),gd o2.pay 16,gd o2.pay 17,gd o2.pay 18,gd o2.pay 19,gd o2.pay 20,gd o2.pay 21,gd o2.pay 22,gd o2.pay 23,gd o2.pay 24]))))
 else ex 0 [x0,x1,x2,x3,x4,x5,x6,x7,x8,x9,x10,x11,x12,x13,x14,x15,x16,x17,x18,x19,x20]:=by kernel_rfl
theorem s_l13HeldsOkR2 (N:Nat) (p:List D) (x0 x1 x2 x3 x4 x5 x6 x7 x8 x9 x10 x11 x12 x13 x14 x15 x16 x17 x18 x19 x20 x21 x22 x23 x24 x25 x26:D):(s_l13HeldsOkL2 N p) [x0,x1,x2,x3,x4,x5,x6,x7,x8,x9,x10,x11,x12,x13,x14,x15,x16,x17,x18,x19,x20,x21,x22,x23,x24,x25,x26] =
 bif ltI x15.int (x26.rows.length:Int) then nd (inRange x15.int x26.rows.length) (bif !(holds x20 x25 [(gd (x26.rows.getD x15.int.toNat []) 0),.i (w64 ((gd (x26.rows.getD x15.int.toNat []) 0).int+1))] (.i 2)) then ob false
 else nx [x0,x1,x2,x3,x4,x5,x6,x7,x8,x9,x10,x11,x12,x13,x14,.i (w64 (x15.int+1)),x16,x17,x18,x19,x20,x21,x22,x23,x24,x25,x26])
 else ex 2 [x0,x1,x2,x3,x4,x5,x6,x7,x8,x9,x10,x11,x12,x13,x14,x15,x16,x17,x18,x19,x20,x21,x22,x23,x24,x25,x26]:=by kernel_rfl
theorem s_l13HeldsOk_ev (N:Nat) (p:List D):evFn Tryz.prog s_l13HeldsOkT N s_l13HeldsOkK Tryz.f200 rb [⟨ag rIShard,p⟩]=some (bo,
 (let o0:=iter (s_l13HeldsOkL0 N p) N [gd p 0,gd p 1,gd p 2,gd p 3,gd p 4,gd p 5,gd p 6,gd p 7,gd p 8,.i 0,.i 0,.i 0,gd p 0,gd p 1,gd p 2,gd p 3,gd p 4,gd p 5,gd p 6,gd p 7,gd p 8]
  nd o0.isSome (bif o0.code==1 then some (1,o0.pay)
  else nd (o0.code==2) (ob true)))):=by kernel_rfl
def heldRest (p:List D) (k:Nat):Bool:=writesOk (gd ((gd p 5).rows.getD k []) 1)&&((List.range (gd ((gd p 5).rows.getD k []) 1).rows.length).all (fun j=>holds (gd p 4) (gd ((gd p 5).rows.getD k []) 0) (oneAt ((gd ((gd p 5).rows.getD k []) 1).rows.getD j [])) (.i 2))&&(!hasInt (gd p 6) (gd ((gd p 5).rows.getD k []) 0).int && !hasInt (gd p 7) (gd ((gd p 5).rows.getD k []) 0).int))
def heldAtS (p:List D):Nat→Bool
 | 0=>inB (gd ((gd p 5).rows.getD 0 []) 0).int 1 60&&heldRest p 0
 | k+1=>inB (gd ((gd p 5).rows.getD (k+1) []) 0).int 1 60&&(!leI (gd ((gd p 5).rows.getD (k+1) []) 0).int (gd ((gd p 5).rows.getD k []) 0).int&&heldRest p (k+1))
def heldsOkS (p:List D):Bool:=(List.range (gd p 5).rows.length).all (heldAtS p)
theorem writes_len {z:D} (h:writesOk z=true):z.rows.length≤60:=by
 simp only [writesOk,Bool.and_eq_true,decide_eq_true_eq] at h
 omega
theorem heldsU (p:List D) (N:Nat) (hN:61≤N) (x12 x14:D) (k:Nat) (hwo:writesOk (gd ((gd p 5).rows.getD k []) 1)=true) :
  iter (s_l13HeldsOkL2 N p) N [gd p 0,gd p 1,gd p 2,gd p 3,gd p 4,gd p 5,gd p 6,gd p 7,gd p 8,.i 0,.i 0,.i (k:Int),x12,.i 0,x14,.i 0,gd p 0,gd p 1,gd p 2,gd p 3,gd p 4,gd p 5,gd p 6,gd p 7,gd p 8,gd ((gd p 5).rows.getD k []) 0,gd ((gd p 5).rows.getD k []) 1] =
  some (bif (List.range (gd ((gd p 5).rows.getD k []) 1).rows.length).all (fun j=>holds (gd p 4) (gd ((gd p 5).rows.getD k []) 0) (oneAt ((gd ((gd p 5).rows.getD k []) 1).rows.getD j [])) (.i 2)) then (4,[gd p 0,gd p 1,gd p 2,gd p 3,gd p 4,gd p 5,gd p 6,gd p 7,gd p 8,.i 0,.i 0,.i (k:Int),x12,.i 0,x14,.i ((gd ((gd p 5).rows.getD k []) 1).rows.length:Int),gd p 0,gd p 1,gd p 2,gd p 3,gd p 4,gd p 5,gd p 6,gd p 7,gd p 8,gd ((gd p 5).rows.getD k []) 0,gd ((gd p 5).rows.getD k []) 1]) else (1,[.b false])):=by
 have hlw:=writes_len hwo
 have e:=for_loop (L:=s_l13HeldsOkL2 N p) (fun j => [gd p 0,gd p 1,gd p 2,gd p 3,gd p 4,gd p 5,gd p 6,gd p 7,gd p 8,.i 0,.i 0,.i (k:Int),x12,.i 0,x14,.i (j:Int),gd p 0,gd p 1,gd p 2,gd p 3,gd p 4,gd p 5,gd p 6,gd p 7,gd p 8,gd ((gd p 5).rows.getD k []) 0,gd ((gd p 5).rows.getD k []) 1]) (gd ((gd p 5).rows.getD k []) 1).rows.length (fun j=>holds (gd p 4) (gd ((gd p 5).rows.getD k []) 0) (oneAt ((gd ((gd p 5).rows.getD k []) 1).rows.getD j [])) (.i 2)) [.b false] 2 (fun j hj=>?_) ?_ (N:=N) (by omega)
 ·simp only [Int.natCast_zero] at e
  exact e
 ·show s_l13HeldsOkL2 N p [_,_,_,_,_,_,_,_,_,_,_,_,_,_,_,.i (j:Int),_,_,_,_,_,_,_,_,_,_,_]=_
  rw [s_l13HeldsOkR2]
  simp only [int_i,c_lt hj,nd_ix hj,w64_succ hj (show (gd ((gd p 5).rows.getD k []) 1).rows.length≤9223372036854775807 from by omega),Int.toNat_natCast]
  rw [show holds (gd p 4) (gd ((gd p 5).rows.getD k []) 0) [gd ((gd ((gd p 5).rows.getD k []) 1).rows.getD j []) 0,.i (w64 ((gd ((gd ((gd p 5).rows.getD k []) 1).rows.getD j []) 0).int+1))] (.i 2)=holds (gd p 4) (gd ((gd p 5).rows.getD k []) 0) (oneAt ((gd ((gd p 5).rows.getD k []) 1).rows.getD j [])) (.i 2) from rfl]
  cases holds (gd p 4) (gd ((gd p 5).rows.getD k []) 0) (oneAt ((gd ((gd p 5).rows.getD k []) 1).rows.getD j [])) (.i 2) <;> rfl
 ·show s_l13HeldsOkL2 N p [_,_,_,_,_,_,_,_,_,_,_,_,_,_,_,.i ((gd ((gd p 5).rows.getD k []) 1).rows.length:Int),_,_,_,_,_,_,_,_,_,_,_]=_
  rw [s_l13HeldsOkR2]
  simp only [int_i,c_nlt]
def s_l13HeldsOkE:Ent:=(200,e1 (ag rIShard) fun p=>(⟨rb,[.b (heldsOkS p)]⟩,true))
theorem s_l13HeldsOk_ok:EntOk Tryz.prog s_l13HeldsOkE:=e1_ok fun p h=>evFn_sound (N:=(gd p 5).rows.length+61) (ks:=s_l13HeldsOkK) (key:=bo) s_l13HeldsOkT_ok (enters Tryz.func200) Tryz.func200 fun hw=>by
 rw [s_l13HeldsOk_ev]
 have hl:=wt_at (hw ⟨ag rIShard,p⟩ (by simp)) (j:=5) rfl
 have e:=for_loop (L:=s_l13HeldsOkL0 ((gd p 5).rows.length+61) p) (fun k => [gd p 0,gd p 1,gd p 2,gd p 3,gd p 4,gd p 5,gd p 6,gd p 7,gd p 8,.i 0,.i 0,.i (k:Int),gd p 0,gd p 1,gd p 2,gd p 3,gd p 4,gd p 5,gd p 6,gd p 7,gd p 8]) (gd p 5).rows.length (heldAtS p) [.b false] 0 (fun k hk=>?_) ?_ (N:=(gd p 5).rows.length+61) (by omega)
 ·simp only [Int.natCast_zero] at e
  rw [e]
  unfold heldsOkS
  cases (List.range (gd p 5).rows.length).all (heldAtS p) <;> rfl
 ·cases k with
  | zero =>
   show s_l13HeldsOkL0 _ p [_,_,_,_,_,_,_,_,_,_,_,.i ((0:Nat):Int),_,_,_,_,_,_,_,_,_]=_
   rw [s_l13HeldsOkR0]
   simp only [int_i,ltI_nat hk,cond_true,nd_ix hk,Int.toNat_natCast,ltI_00,cond_false,heldAtS,heldRest]
   cases inB (gd ((gd p 5).rows.getD 0 []) 0).int 1 60 <;> try rfl
   cases hwo:writesOk (gd ((gd p 5).rows.getD 0 []) 1) <;> try rfl
   simp only [Bool.not_true,cond_false,heldsU p _ (show 61≤(gd p 5).rows.length+61 from by omega) _ _ 0 hwo]
   cases (List.range (gd ((gd p 5).rows.getD 0 []) 1).rows.length).all (fun j=>holds (gd p 4) (gd ((gd p 5).rows.getD 0 []) 0) (oneAt ((gd ((gd p 5).rows.getD 0 []) 1).rows.getD j [])) (.i 2)) <;> try rfl
   simp only [nd,cond_true,cond_false,Option.isSome_some,Out.code,Out.pay,Option.getD_some,gd_cons_zero,gd_cons_succ,Nat.reduceBEq,Nat.reduceAdd,int_i,bool_b,str_s,rows_l,Bool.not_true,Bool.not_false,beq_self_eq_true,w64_succ hk hl]
   cases hasInt (gd p 6) (gd ((gd p 5).rows.getD 0 []) 0).int <;> cases hasInt (gd p 7) (gd ((gd p 5).rows.getD 0 []) 0).int <;> rfl
  | succ k =>
   show s_l13HeldsOkL0 _ p [_,_,_,_,_,_,_,_,_,_,_,.i ((k+1:Nat):Int),_,_,_,_,_,_,_,_,_]=_
   rw [s_l13HeldsOkR0]
   simp only [int_i,ltI_nat hk,cond_true,nd_ix hk,Int.toNat_natCast,ltI_0s,w64_pred (show k+1≤9223372036854775807 from by omega),nd_ix (Nat.lt_of_succ_lt hk),heldAtS,heldRest]
   cases inB (gd ((gd p 5).rows.getD (k+1) []) 0).int 1 60 <;> try rfl
   cases leI (gd ((gd p 5).rows.getD (k+1) []) 0).int (gd ((gd p 5).rows.getD k []) 0).int <;> try rfl
   cases hwo:writesOk (gd ((gd p 5).rows.getD (k+1) []) 1) <;> try rfl
   simp only [Bool.not_true,cond_false,heldsU p _ (show 61≤(gd p 5).rows.length+61 from by omega) _ _ (k+1) hwo]
   cases (List.range (gd ((gd p 5).rows.getD (k+1) []) 1).rows.length).all (fun j=>holds (gd p 4) (gd ((gd p 5).rows.getD (k+1) []) 0) (oneAt ((gd ((gd p 5).rows.getD (k+1) []) 1).rows.getD j [])) (.i 2)) <;> try rfl
   simp only [nd,cond_true,cond_false,Option.isSome_some,Out.code,Out.pay,Option.getD_some,gd_cons_zero,gd_cons_succ,Nat.reduceBEq,Nat.reduceAdd,int_i,bool_b,str_s,rows_l,Bool.not_true,Bool.not_false,beq_self_eq_true,w64_succ hk hl]
   cases hasInt (gd p 6) (gd ((gd p 5).rows.getD (k+1) []) 0).int <;> cases hasInt (gd p 7) (gd ((gd p 5).rows.getD (k+1) []) 0).int <;> rfl
 ·show s_l13HeldsOkL0 _ p [_,_,_,_,_,_,_,_,_,_,_,.i ((gd p 5).rows.length:Int),_,_,_,_,_,_,_,_,_]=_
  rw [s_l13HeldsOkR0]
  simp only [int_i,c_nlt]
end Go.Proofs.YtpdfmcmnjikppaaGreat
namespace Go.Proofs.YtpdfmcmnjikppaaGreat
set_option maxRecDepth 4096
set_option maxHeartbeats 1000000
abbrev i_cellFor_1T:FuncId→List T→Option (T × Bool):=find []
theorem i_cellFor_1T_ok:CallOk Tryz.prog i_cellFor_1T:=find_ok (fN)
abbrev i_cellFor_1K:List Nat:= [0,1,2,4]
theorem i_cellFor_1_ev (N:Nat) (p q:List D):evFn Tryz.prog i_cellFor_1T N i_cellFor_1K Tryz.f274 ri [⟨ag rICell,p⟩,⟨ri,q⟩]=some (bo,
 oi (w64 ((gd p 0).int - (gd q 0).int))):=by kernel_rfl
def i_cellFor_1E:Ent:=(274,e2 (ag rICell) ri fun p q=>(⟨ri,[.i (w64 ((gd p 0).int - (gd q 0).int))]⟩,true))
theorem i_cellFor_1_ok:EntOk Tryz.prog i_cellFor_1E:=e2_ok fun p q h=>evFn_sound (N:=0) (ks:=i_cellFor_1K) (key:=bo) i_cellFor_1T_ok (enters Tryz.func274) Tryz.func274 fun hw=>by
 rw [i_cellFor_1_ev]
 skip
abbrev bsCT:FuncId→List T→Option (T × Bool):=find [i_cellFor_1E]
theorem bsCT_ok:CallOk Tryz.prog bsCT:=find_ok (fC ⟨i_cellFor_1_ok,fN⟩)
abbrev bsCK:List Nat:= [0,1,2,6,7,8,9,10,11,17,31]
noncomputable def bsCL0 (N:Nat) (p q r:List D):List D→Out:=loopOf Tryz.prog bsCT N bsCK Tryz.f273 (.tup [.c (.d si),.c (.d (.bool))]) [⟨sd (.sl 108),p⟩,⟨ri,q⟩,⟨.one (.c (.fn 274 [])),r⟩] 0
theorem bsCR0 (N:Nat) (p q r:List D) (x0 x1 x2 x3 x4 x5 x6 x7:D):(bsCL0 N p q r) [x0,x1,x2,x3,x4,x5,x6,x7] =
 bif ltI x6.int x7.int then nd (leI 0 1) (nd (inRange (w64 ((IntKind.u64.wrap (w64 (x6.int+x7.int))).fdiv (2 ^ (min 1 64)))) x0.rows.length) (bif ltI (w64 ((gd (x0.rows.getD (w64 ((IntKind.u64.wrap (w64 (x6.int+x7.int))).fdiv (2 ^ (min 1 64)))).toNat []) 0).int - x1.int)) 0 then nx [x0,x1,x2,x3,x4,x5,.i (w64 ((w64 ((IntKind.u64.wrap (w64 (x6.int+x7.int))).fdiv (2 ^ (min 1 64))))+1)),x7]
 else nx [x0,x1,x2,x3,x4,x5,x6,.i (w64 ((IntKind.u64.wrap (w64 (x6.int+x7.int))).fdiv (2 ^ (min 1 64))))]))
 else ex 0 [x0,x1,x2,x3,x4,x5,x6,x7]:=by kernel_rfl
noncomputable def bsCs0 (N:Nat) (p q r:List D):Out:=let o0:=iter (bsCL0 N p q r) N [gd p 0,gd q 0,gd r 0,.i 0,.i 0,.i ((gd p 0).rows.length:Int),.i 0,.i ((gd p 0).rows.length:Int)]; nd o0.isSome (nd (o0.code==2) (bif ltI (gd o0.pay 6).int (gd o0.pay 5).int then nd (inRange (gd o0.pay 6).int (gd o0.pay 0).rows.length) (some (1,[gd o0.pay 6,.b ((w64 ((gd ((gd o0.pay 0).rows.getD (gd o0.pay 6).int.toNat []) 0).int - (gd o0.pay 1).int))==0)])) else some (1,[gd o0.pay 6,.b false])))
theorem bsC_ev (N:Nat) (p q r:List D):evFn Tryz.prog bsCT N bsCK Tryz.f273 (.tup [.c (.d si),.c (.d (.bool))]) [⟨sd (.sl 108),p⟩,⟨ri,q⟩,⟨.one (.c (.fn 274 [])),r⟩]=some (bo,(bsCs0 N p q r)):=by kernel_rfl
def keyAt (z:D) (k:Nat):Int:=(gd (z.rows.getD k []) 0).int
def lowN (z:D) (t:Int):Nat:=cnt (fun k=>ltI (keyAt z k) t) 0 z.rows.length
def bsB (z:D) (t:Int):Bool:=ltI (lowN z t:Int) (z.rows.length:Int)&&(keyAt z (lowN z t)==t)
theorem cnt_add (C:Nat→Bool):∀ b k a,cnt C k (a+b)=cnt C k a+cnt C (k+a) b
 | 0,k,a=>rfl
 | b+1,k,a=>by
  rw [← Nat.add_assoc,cnt_succ,cnt_succ,cnt_add C b k a,Nat.add_assoc,Nat.add_assoc]
theorem cnt_yes {C:Nat→Bool}:∀ m k,(∀ j,j<m→C (k+j)=true)→cnt C k m=m
 | 0,_,_=>rfl
 | m+1,k,h=>by rw [cnt_succ,cnt_yes m k (fun j hj=>h j (by omega)),h m (by omega)]; rfl
theorem cnt_no {C:Nat→Bool}:∀ m k,(∀ j,j<m→C (k+j)=false)→cnt C k m=0
 | 0,_,_=>rfl
 | m+1,k,h=>by rw [cnt_succ,cnt_no m k (fun j hj=>h j (by omega)),h m (by omega)]; rfl
theorem lowN_eq {z:D} {t:Int} {i:Nat} (hi:i≤z.rows.length) (h1:∀ k,k<i→keyAt z k<t) (h2:∀ k,i≤k→k<z.rows.length→t≤keyAt z k):lowN z t=i:=by
 unfold lowN
 obtain ⟨m,hm⟩:∃ m,z.rows.length=i+m:=⟨z.rows.length - i,by omega⟩
 rw [hm,cnt_add,cnt_yes i 0 (fun j hj=>by rw [Nat.zero_add]; exact ltI_t (h1 j hj)),cnt_no m (0+i) (fun j hj=>by rw [Nat.zero_add]; exact ltI_f (h2 (i+j) (by omega) (by omega)))]
 omega
structure Sorted (z:D):Prop where
 len:z.rows.length≤60
 key:∀ k,k<z.rows.length→0≤keyAt z k∧keyAt z k≤999
 lt:∀ i j,i<j→j<z.rows.length→keyAt z i<keyAt z j
theorem store_sorted {z:D} (h:storeOk z=true):Sorted z:=by
 simp only [storeOk,Bool.and_eq_true,List.all_eq_true,List.mem_range,leI,decide_eq_true_eq] at h
 obtain ⟨h,hl⟩:=h
 refine ⟨by omega,fun k hk=>?_,fun i j hij hj=>?_⟩
 ·have:=h k hk
  cases k with
  | zero=>simp only [storeAt,Bool.and_eq_true,inB,decide_eq_true_eq] at this; exact ⟨this.1.1,this.1.2⟩
  | succ k=>simp only [storeAt,Bool.and_eq_true,inB,decide_eq_true_eq] at this; exact ⟨this.1.1,this.1.2⟩
 ·obtain ⟨d,rfl⟩:∃ d,j=i+d+1:=⟨j - i - 1,by omega⟩
  have hs:∀ k,k+1<z.rows.length→keyAt z k<keyAt z (k+1):=fun k hk=>by
   have:=h (k+1) hk
   simp only [storeAt,Bool.and_eq_true,leI,Bool.not_eq_true',decide_eq_false_iff_not] at this
   unfold keyAt
   omega
  clear hij
  induction d with
  | zero=>exact hs i hj
  | succ d ih=>exact Int.lt_trans (ih (by omega)) (hs (i+d+1) hj)
theorem u64_id {x:Int} (h:0≤x) (h':x≤9223372036854775807):IntKind.u64.wrap x=x:=by
 simp only [IntKind.wrap,IntKind.signed,IntKind.bits]
 simp
 omega
theorem half {i j:Nat} (h:i+j≤1000):w64 ((IntKind.u64.wrap (w64 ((i:Int)+(j:Int)))).fdiv (2 ^ (min 1 64)))=(((i+j) / 2:Nat):Int):=by
 rw [w64_id (x:=(i:Int)+j) (by omega) (by omega),u64_id (by omega) (by omega),show ((2:Int) ^ (min 1 64))=((2:Nat):Int) from rfl,show ((i:Int)+(j:Int))=((i+j:Nat):Int) from by omega,← Int.ofNat_fdiv,w64_id (by omega) (by omega)]
theorem bs_loop (p q r:List D) (N:Nat) (hz:Sorted (gd p 0)) (ht:inB (gd q 0).int 0 999=true):∀ (d i j M:Nat),j=i+d→j≤(gd p 0).rows.length→d<M→(∀ k,k<i→keyAt (gd p 0) k<(gd q 0).int)→(∀ k,j≤k→k<(gd p 0).rows.length→(gd q 0).int≤keyAt (gd p 0) k) →
  iter (bsCL0 N p q r) M [gd p 0,gd q 0,gd r 0,.i 0,.i 0,.i ((gd p 0).rows.length:Int),.i (i:Int),.i (j:Int)]=some (2,[gd p 0,gd q 0,gd r 0,.i 0,.i 0,.i ((gd p 0).rows.length:Int),.i (lowN (gd p 0) (gd q 0).int:Int),.i (lowN (gd p 0) (gd q 0).int:Int)]):=by
 intro d
 induction d using Nat.strongRecOn with
 | _ d ih =>
 intro i j M hj hn hM h1 h2
 have hlen:=hz.len
 simp only [inB,Bool.and_eq_true,decide_eq_true_eq] at ht
 obtain ⟨M,rfl⟩:∃ M',M=M'+1:=⟨M - 1,by omega⟩
 rw [iter,bsCR0]
 simp only [int_i]
 by_cases hd:d=0
 ·subst hd
  obtain rfl:j=i:=by omega
  rw [c_nlt,lowN_eq hn h1 h2]
  rfl
 ·rw [c_lt (show i<j from by omega)]
  have hh:(i+j) / 2<(gd p 0).rows.length:=by omega
  simp only [half (show i+j≤1000 from by omega),nd_ix hh,Int.toNat_natCast,show leI 0 1=true from rfl,nd_true]
  have hk:=hz.key _ hh
  rw [show (gd ((gd p 0).rows.getD ((i+j) / 2) []) 0).int=keyAt (gd p 0) ((i+j) / 2) from rfl,w64_id (x:=keyAt (gd p 0) ((i+j) / 2) - (gd q 0).int) (by omega) (by omega)]
  by_cases hc:keyAt (gd p 0) ((i+j) / 2)<(gd q 0).int
  ·rw [ltI_t (show keyAt (gd p 0) ((i+j) / 2) - (gd q 0).int<0 from by omega),cond_true]
   simp only [w64_succ hh (show (gd p 0).rows.length≤9223372036854775807 from by omega)]
   exact ih (j - ((i+j) / 2+1)) (by omega) ((i+j) / 2+1) j M (by omega) hn (by omega) (fun k hk'=>by
    rcases Nat.lt_or_ge k ((i+j) / 2) with h | h
    ·have:=hz.lt k _ h hh; omega
    ·obtain rfl:k=(i+j) / 2:=by omega
     exact hc) h2
  ·rw [ltI_f (show 0≤keyAt (gd p 0) ((i+j) / 2) - (gd q 0).int from by omega),cond_false]
   exact ih ((i+j) / 2 - i) (by omega) i ((i+j) / 2) M (by omega) (by omega) (by omega) h1 (fun k hk1 hk2=>by
    rcases Nat.lt_or_ge ((i+j) / 2) k with h | h
    ·have:=hz.lt _ k h hk2; omega
    ·obtain rfl:k=(i+j) / 2:=by omega
     omega)
def bsCE:Ent:=(273,e3 (sd (.sl 108)) ri (.one (.c (.fn 274 []))) fun p q r=>(⟨.tup [.c (.d si),.c (.d (.bool))],[.i (lowN (gd p 0) (gd q 0).int:Int),.b (bsB (gd p 0) (gd q 0).int)]⟩,storeOk (gd p 0)&&inB (gd q 0).int 0 999))
theorem bsC_ok:EntOk Tryz.prog bsCE:=e3_ok fun p q r h=>evFn_sound (N:=61) (ks:=bsCK) (key:=bo) bsCT_ok (enters Tryz.func273) Tryz.func273 fun hw=>by
 rw [bsC_ev]
 have h:(storeOk (gd p 0)&&inB (gd q 0).int 0 999)=true:=h
 simp only [Bool.and_eq_true] at h
 have hz:=store_sorted h.1
 have hlen:=hz.len
 have e:=bs_loop p q r 61 hz h.2 (gd p 0).rows.length 0 (gd p 0).rows.length 61 (by omega) (Nat.le_refl _) (by omega) (fun k hk=>absurd hk (Nat.not_lt_zero _)) (fun k h1 h2=>absurd h2 (by omega))
 simp only [Int.natCast_zero] at e
 unfold bsCs0
 rw [e]
 simp only [nd,cond_true,cond_false,Option.isSome_some,Out.code,Out.pay,Option.getD_some,gd_cons_zero,gd_cons_succ,Nat.reduceBEq,Nat.reduceAdd,int_i,bool_b,str_s,rows_l,Bool.not_true,Bool.not_false,beq_self_eq_true]
 unfold bsB
 have ht:=h.2
 simp only [inB,Bool.and_eq_true,decide_eq_true_eq] at ht
 by_cases hb:lowN (gd p 0) (gd q 0).int<(gd p 0).rows.length
 ·have hk:=hz.key _ hb
  rw [ltI_nat hb,inRange_nat hb,Int.toNat_natCast,show (gd ((gd p 0).rows.getD (lowN (gd p 0) (gd q 0).int) []) 0).int=keyAt (gd p 0) (lowN (gd p 0) (gd q 0).int) from rfl,w64_id (x:=keyAt (gd p 0) (lowN (gd p 0) (gd q 0).int) - (gd q 0).int) (by omega) (by omega)]
  rw [show (keyAt (gd p 0) (lowN (gd p 0) (gd q 0).int) - (gd q 0).int==0)=(keyAt (gd p 0) (lowN (gd p 0) (gd q 0).int)==(gd q 0).int) from by
   rw [Bool.eq_iff_iff]; simp only [beq_iff_eq]; omega]
  rfl
 ·rw [ltI_f (show ((gd p 0).rows.length:Int)≤(lowN (gd p 0) (gd q 0).int:Int) from by omega)]
  rfl
abbrev i_cellForT:FuncId→List T→Option (T × Bool):=find [bsCE]
theorem i_cellForT_ok:CallOk Tryz.prog i_cellForT:=find_ok (fC ⟨bsC_ok,fN⟩)
abbrev i_cellForK:List Nat:= [0,1,4,5]
theorem i_cellFor_ev (N:Nat) (p q:List D):evFn Tryz.prog i_cellForT N i_cellForK Tryz.f244 (.tup [.c (.d si),.c (.d (.bool))]) [⟨sd (.sl 108),p⟩,⟨ri,q⟩]=some (bo,
 nd (storeOk (gd p 0)&&inB (gd q 0).int 0 999) (some (1,[.i (lowN (gd p 0) (gd q 0).int:Int),.b (bsB (gd p 0) (gd q 0).int)]))):=by kernel_rfl
def i_cellForE:Ent:=(244,e2 (sd (.sl 108)) ri fun p q=>(⟨.tup [.c (.d si),.c (.d (.bool))],[.i (lowN (gd p 0) (gd q 0).int:Int),.b (bsB (gd p 0) (gd q 0).int)]⟩,storeOk (gd p 0)&&inB (gd q 0).int 0 999))
theorem i_cellFor_ok:EntOk Tryz.prog i_cellForE:=e2_ok fun p q h=>evFn_sound (N:=0) (ks:=i_cellForK) (key:=bo) i_cellForT_ok (enters Tryz.func244) Tryz.func244 fun hw=>by
 rw [i_cellFor_ev]
 have h:(storeOk (gd p 0)&&inB (gd q 0).int 0 999)=true:=h
 rw [h,nd_true]
abbrev i_valueOfT:FuncId→List T→Option (T × Bool):=find [i_cellForE]
theorem i_valueOfT_ok:CallOk Tryz.prog i_valueOfT:=find_ok (fC ⟨i_cellFor_ok,fN⟩)
abbrev i_valueOfK:List Nat:= [0,1,4,5,6,14]
theorem i_valueOf_ev (N:Nat) (p q:List D):evFn Tryz.prog i_valueOfT N i_valueOfK Tryz.f175 ri [⟨sd (.sl 108),p⟩,⟨ri,q⟩]=some (bo,
 nd (storeOk (gd p 0)&&inB (gd q 0).int 0 999) (bif !(bsB (gd p 0) (gd q 0).int) then oi (-1)
 else nd (inRange (lowN (gd p 0) (gd q 0).int:Int) (gd p 0).rows.length) (some (1,[gd ((gd p 0).rows.getD (lowN (gd p 0) (gd q 0).int:Int).toNat []) 1])))):=by kernel_rfl
def valD (z:D) (t:Int):D:=bif bsB z t then gd (z.rows.getD (lowN z t) []) 1 else .i (-1)
def i_valueOfE:Ent:=(175,e2 (sd (.sl 108)) ri fun p q=>(⟨ri,[valD (gd p 0) (gd q 0).int]⟩,storeOk (gd p 0)&&inB (gd q 0).int 0 999))
theorem i_valueOf_ok:EntOk Tryz.prog i_valueOfE:=e2_ok fun p q h=>evFn_sound (N:=0) (ks:=i_valueOfK) (key:=bo) i_valueOfT_ok (enters Tryz.func175) Tryz.func175 fun hw=>by
 rw [i_valueOf_ev]
 have h:(storeOk (gd p 0)&&inB (gd q 0).int 0 999)=true:=h
 rw [h,nd_true]
 unfold valD
 cases hb:bsB (gd p 0) (gd q 0).int
 ·rfl
 ·have hb':=hb
  simp only [bsB,Bool.and_eq_true,ltI,decide_eq_true_eq] at hb'
  rw [inRange_nat (show lowN (gd p 0) (gd q 0).int<(gd p 0).rows.length from by omega)]
  rfl
abbrev s_l11GetT:FuncId→List T→Option (T × Bool):=find []
theorem s_l11GetT_ok:CallOk Tryz.prog s_l11GetT:=find_ok (fN)
abbrev s_l11GetK:List Nat:= [0,1,4,5,9,18]
noncomputable def s_l11GetL0 (N:Nat) (p q:List D):List D→Out:=loopOf Tryz.prog s_l11GetT N s_l11GetK Tryz.f206 ri [⟨sd (.sl 108),p⟩,⟨ri,q⟩] 0
theorem s_l11GetR0 (N:Nat) (p q:List D) (x0 x1 x2 x3:D):(s_l11GetL0 N p q) [x0,x1,x2,x3] =
 bif ltI x3.int (x0.rows.length:Int) then nd (inRange x3.int x0.rows.length) (bif (gd (x0.rows.getD x3.int.toNat []) 0).int==x1.int then nd (inRange x3.int x0.rows.length) (some (1,[gd (x0.rows.getD x3.int.toNat []) 1]))
 else nx [x0,x1,x2,.i (w64 (x3.int+1))])
 else ex 0 [x0,x1,x2,x3]:=by kernel_rfl
theorem s_l11Get_ev (N:Nat) (p q:List D):evFn Tryz.prog s_l11GetT N s_l11GetK Tryz.f206 ri [⟨sd (.sl 108),p⟩,⟨ri,q⟩]=some (bo,
 (let o0:=iter (s_l11GetL0 N p q) N [gd p 0,gd q 0,.i 0,.i 0]
  nd o0.isSome (bif o0.code==1 then some (1,o0.pay)
  else nd (o0.code==2) (oi (-1))))):=by kernel_rfl
theorem scan_at {ex:Nat→Option (Nat × List D)} {o:Nat × List D}:∀ (m k i:Nat),i<m→ex (k+i)=some o→(∀ j,j<i→ex (k+j)=none)→scan ex k m=some o
 | 0,_,_,h,_,_=>absurd h (Nat.not_lt_zero _)
 | m+1,k,0,_,h,_=>by rw [scan,show ex k=some o from h]
 | m+1,k,i+1,hi,h,hn=>by
  rw [scan,show ex k=none from hn 0 (by omega)]
  exact scan_at m (k+1) i (by omega) (by rw [show k+1+i=k+(i+1) from by omega]; exact h) fun j hj=>by rw [show k+1+j=k+(j+1) from by omega]; exact hn (j+1) (by omega)
theorem scan_no {ex:Nat→Option (Nat × List D)}:∀ (m k:Nat),(∀ j,j<m→ex (k+j)=none)→scan ex k m=none
 | 0,_,_=>rfl
 | m+1,k,h=>by
  rw [scan,show ex k=none from h 0 (by omega)]
  exact scan_no m (k+1) fun j hj=>by rw [show k+1+j=k+(j+1) from by omega]; exact h (j+1) (by omega)
def s_l11GetE:Ent:=(206,e2 (sd (.sl 108)) ri fun p q=>(⟨ri,[valD (gd p 0) (gd q 0).int]⟩,storeOk (gd p 0)))
theorem s_l11Get_ok:EntOk Tryz.prog s_l11GetE:=e2_ok fun p q h=>evFn_sound (N:=61) (ks:=s_l11GetK) (key:=bo) s_l11GetT_ok (enters Tryz.func206) Tryz.func206 fun hw=>by
 rw [s_l11Get_ev]
 have h:storeOk (gd p 0)=true:=h
 have hz:=store_sorted h
 have hlen:=hz.len
 have e:=iter_scan (step:=s_l11GetL0 61 p q) (fun k => [gd p 0,gd q 0,.i 0,.i (k:Int)]) (fun k=>bif keyAt (gd p 0) k==(gd q 0).int then some (1,[gd ((gd p 0).rows.getD k []) 1]) else none) (2,[gd p 0,gd q 0,.i 0,.i ((gd p 0).rows.length:Int)]) (n:=(gd p 0).rows.length) (fun k hk=>?_) (fun k o h=>?_) ?_ (by simp) (gd p 0).rows.length 0 61 (by omega) (by omega)
 ·simp only [Int.natCast_zero] at e
  rw [e]
  unfold valD
  cases hb:bsB (gd p 0) (gd q 0).int
  ·rw [scan_no _ _ fun j hj=>?_]
   ·rfl
   ·rw [Nat.zero_add]
    cases hk:keyAt (gd p 0) j==(gd q 0).int
    ·rfl
    ·have hk:=eq_of_beq hk
     have hl:lowN (gd p 0) (gd q 0).int=j:=lowN_eq (by omega) (fun k hkj=>by have:=hz.lt k j hkj hj; omega) (fun k h1 h2=>by
      rcases Nat.lt_or_ge j k with h | h
      ·have:=hz.lt j k h h2; omega
      ·obtain rfl:k=j:=by omega
       omega)
     unfold bsB at hb
     rw [hl,ltI_nat hj,hk,beq_self_eq_true] at hb
     cases hb
  ·simp only [bsB,Bool.and_eq_true,ltI,decide_eq_true_eq] at hb
   have hlt:lowN (gd p 0) (gd q 0).int<(gd p 0).rows.length:=by omega
   rw [scan_at _ _ (lowN (gd p 0) (gd q 0).int) hlt (by rw [Nat.zero_add,hb.2]; rfl) fun j hj=>?_]
   ·rfl
   ·rw [Nat.zero_add,show (keyAt (gd p 0) j==(gd q 0).int)=false from beq_eq_false_iff_ne.2 (by
     have:=hz.lt j _ hj hlt
     have:=eq_of_beq hb.2
     omega)]
    rfl
 ·show s_l11GetL0 _ p q [_,_,_,.i (k:Int)]=_
  rw [s_l11GetR0]
  simp only [int_i,c_lt hk,nd_ix hk,w64_succ hk (show (gd p 0).rows.length≤9223372036854775807 from by omega),Int.toNat_natCast]
  rw [show (gd ((gd p 0).rows.getD k []) 0).int=keyAt (gd p 0) k from rfl]
  cases keyAt (gd p 0) k==(gd q 0).int <;> rfl
 ·cases hc:keyAt (gd p 0) k==(gd q 0).int
  ·rw [hc] at h; cases h
  ·rw [hc,cond_true] at h
   injection h with h
   rw [← h]; simp
 ·show s_l11GetL0 _ p q [_,_,_,.i ((gd p 0).rows.length:Int)]=_
  rw [s_l11GetR0]
  simp only [int_i,c_nlt]
end Go.Proofs.YtpdfmcmnjikppaaGreat
namespace Go.Proofs.YtpdfmcmnjikppaaGreat
set_option maxRecDepth 4096
set_option maxHeartbeats 1000000
structure SortedW (z:D):Prop where
 len:z.rows.length≤1000
 key:∀ k,k<z.rows.length→0≤keyAt z k∧keyAt z k≤999
 lt:∀ i j,i<j→j<z.rows.length→keyAt z i<keyAt z j
theorem halfW {i j:Nat} (h:i+j≤100000):w64 ((IntKind.u64.wrap (w64 ((i:Int)+(j:Int)))).fdiv (2 ^ (min 1 64)))=(((i+j) / 2:Nat):Int):=by
 rw [w64_id (x:=(i:Int)+j) (by omega) (by omega),u64_id (by omega) (by omega),show ((2:Int) ^ (min 1 64))=((2:Nat):Int) from rfl,show ((i:Int)+(j:Int))=((i+j:Nat):Int) from by omega,← Int.ofNat_fdiv,w64_id (by omega) (by omega)]
end Go.Proofs.YtpdfmcmnjikppaaGreat
namespace Go.Proofs.YtpdfmcmnjikppaaGreat.H
open Go.RowKit Go.Lib
set_option maxRecDepth 100000
set_option maxHeartbeats 4000000
theorem run_copy2 {P:Program} (w:World) (dT sT ty elem k:TypeId) (b o n dLen dCap:Nat) (a:Addr) (sLen sCap:Nat) (cs:List Value)
  (hu:P.underlying dT=some (.slice elem)) (hs:(P.info? elem).map (·.size)=some k) (hn:n=Nat.min sLen dLen) (hl:cs.length=n*k)
  (hsrc:∀ j v,cs[j]?=some v→w.cell? (a.add j)=some v) (hc:∀ j,j<cs.length→(w.cell? ⟨b,o+j,none⟩).isSome=true) (hf:∀ j,j<cs.length→w.frozen? ⟨b,o+j,none⟩=false) (h1:∀ v∈cs,v.oneCell'=true) :
  (Builtin.copy_ #[dT,sT] ty #[.slice (some ⟨b,o,none⟩) dLen dCap,.slice (some a) sLen sCap]).run P w=.ok (goInt n) (w.setCells b o cs):=by
 have hld:=run_loadCells_list (P:=P) w a cs hsrc
 have hst:=run_storeCells_cells (P:=P) b o cs 0 w (by simpa using hc) (by simpa using hf) h1
 cases hq:P.info? elem with
 | none=>simp [hq] at hs
 | some i =>
  have hi:i.size=k:=by simpa [hq] using hs
  rw [hl] at hld
  simp [Builtin.copy_,run_underlying hu,Builtin.lenOf,Builtin.firstCells,sizeOf,typeInfo,hq,hi,← hn,hld,hst]
theorem isSome_set (b:Nat) (vs:List Value) (o:Nat) (w:World) (h:∀ j,j<vs.length→(w.cell? ⟨b,o+j,none⟩).isSome=true) (k:Nat) (hk:(w.cell? ⟨b,k,none⟩).isSome=true):((w.setCells b o vs).cell? ⟨b,k,none⟩).isSome=true:=by
 by_cases hin:o≤k∧k<o+vs.length
 ·obtain ⟨j,rfl⟩:∃ j,k=o+j:=⟨k - o,by omega⟩
  rw [World.cell?_setCells_in b vs o w h j (by omega)]; rfl
 ·rw [World.cell?_setCells_out b _ _ _ _ (fun _ _=>by show k<o∨_≤k; omega)]
  exact hk
abbrev zc:Value:=.agg #[.int .i64 0,.int .i64 0]
theorem info_cell:(Tryz.prog.info? 108).map (fun i=>(i.zero,i.size,i.bytes))=some (some zc,2,16):=by kernel_rfl
theorem ins_shift (b off n c i k vb voff vc:Nat) (cs vs:List Value) (w:World) (hk:k=i+1) (hi:i<n) (hroom:n+1≤c) (hc63:c≤9223372036854775807) (hvb:vb≠b)
  (hcl:cs.length=n*2) (hvl:vs.length=2)
  (hcs:∀ j v,cs[j]?=some v→w.cell? ⟨b,off+j,none⟩=some v) (hsp:∀ j,j<(n+1)*2→(w.cell? ⟨b,off+j,none⟩).isSome=true) (hfz:∀ j,j<(n+1)*2→w.frozen? ⟨b,off+j,none⟩=false)
  (hvs:∀ j v,vs[j]?=some v→w.cell? ⟨vb,voff+j,none⟩=some v) (h1c:∀ v∈cs,v.oneCell'=true) (h1v:∀ v∈vs,v.oneCell'=true)
  (tA tB:TypeId) (kA kB:Nat) (hsa:w.shape? vb=some (tA,kA)) (hsb:w.shape? b=some (tB,kB)) (hkB:kB≠0) (hfa:w.frozen? ⟨vb,voff,none⟩=false) (hfe:w.frozen? ⟨vb,kA,none⟩=false) :
  Calls Tryz.prog 286 #[.slice (some ⟨b,off,none⟩) n c,.int .i64 i,.slice (some ⟨vb,voff,none⟩) 1 vc] w fun e w' =>
   e=.returned (.slice (some ⟨b,off,none⟩) (n+1) c)∧w'=(w.drew.setCells b (off+k*2) (cs.drop (i*2))).setCells b (off+i*2) vs:=by
 obtain ⟨i0,hi0,hz0,hzs,hzb⟩:=info_parts info_cell
 have mixed:Tryz.prog.follows .mixedOrders=true:=by kernel_rfl
 have hz2:¬ ((i:Int)=(n:Int)):=by omega
 have hsz:(Tryz.prog.info? 108).map (·.size)=some 2:=by rw [hi0]; simp [hzs]
 have u41:=Tryz.underlying33
 have hov:∀ lb cb,(callFunc 296 #[.slice (some ⟨vb,voff,none⟩) 1 vc,.slice (some ⟨b,off+k*2,none⟩) lb cb]).run Tryz.prog w=.ok (.value (.bool false)) w:=fun lb cb=>by
  rw [run_callFunc_extern Tryz.func296 (by kernel_rfl) (by kernel_rfl) (by kernel_rfl) (e:=Extern.SlicesOverlaps.overlaps #[33,33] #[4]) (by kernel_rfl),
   Lib.run_overlaps_apart w 33 4 108 u41 2 Tryz.sizeOf108 ⟨vb,voff,none⟩ ⟨b,off+k*2,none⟩ 1 vc lb cb hvb tA tB kA kB hsa hsb hkB hfa hfe]
  rfl
 have hdl:(cs.drop (i*2)).length=(n - i)*2:=by rw [List.length_drop,hcl,Nat.sub_mul]
 have hcp1:∀ ty dc sc,(Builtin.copy_ #[33,33] ty #[.slice (some ⟨b,off+k*2,none⟩) (n+1 - k) dc,.slice (some ⟨b,off+i*2,none⟩) (n+1 - i) sc]).run Tryz.prog w.drew=.ok (goInt ((n - i:Nat):Int)) (w.drew.setCells b (off+k*2) (cs.drop (i*2))):=fun ty dc sc =>
  run_copy2 w.drew _ _ ty 108 2 b (off+k*2) (n - i) (n+1 - k) dc ⟨b,off+i*2,none⟩ (n+1 - i) sc (cs.drop (i*2)) u41 hsz (by simp only [Nat.min_def]; split <;> omega) hdl
   (fun j v hj=>by rw [Addr.add_lit,Nat.add_assoc]; exact hcs (i*2+j) v (by rwa [List.getElem?_drop] at hj))
   (fun j hj=>by rw [hdl] at hj; rw [Nat.add_assoc]; exact hsp _ (by omega)) (fun j hj=>by rw [hdl] at hj; rw [Nat.add_assoc]; exact hfz _ (by omega)) (fun v hv=>h1c v (List.mem_of_mem_drop hv))
 obtain ⟨W1,hW1⟩:∃ W1,W1=w.drew.setCells b (off+k*2) (cs.drop (i*2)):=⟨_,rfl⟩
 have hsp1:∀ t,t<(n+1)*2→(W1.cell? ⟨b,off+t,none⟩).isSome=true:=fun t ht=>by
  rw [hW1]
  exact isSome_set b _ _ _ (fun j hj=>by rw [hdl] at hj; rw [Nat.add_assoc]; exact hsp _ (by omega)) _ (hsp t ht)
 have hcp2:∀ (W:World),(∀ x,W.cell? x=W1.cell? x)→(∀ x,W.frozen? x=W1.frozen? x)→∀ ty dc,(Builtin.copy_ #[33,33] ty #[.slice (some ⟨b,off+i*2,none⟩) (n+1 - i) dc,.slice (some ⟨vb,voff,none⟩) 1 vc]).run Tryz.prog W=.ok (goInt 1) (W.setCells b (off+i*2) vs):=fun W hWc hWf ty dc =>
  run_copy2 W _ _ ty 108 2 b (off+i*2) 1 (n+1 - i) dc ⟨vb,voff,none⟩ 1 vc vs u41 hsz (by simp only [Nat.min_def]; split <;> omega) (by rw [hvl])
   (fun j v hj=>by
    rw [Addr.add_lit,hWc,hW1,World.cell?_setCells_out b _ _ _ _ (fun h _=>absurd h hvb)]
    exact hvs j v hj)
   (fun j hj=>by rw [hvl] at hj; rw [hWc,Nat.add_assoc]; exact hsp1 _ (by omega)) (fun j hj=>by rw [hvl] at hj; rw [hWf,hW1,World.frozen?_setCells,Nat.add_assoc]; exact hfz _ (by omega)) h1v
 have hE:Hid (W1=w.drew.setCells b (off+k*2) (cs.drop (i*2))):=hW1
 rw [← hW1] at hcp1
 have hw1:IntKind.i64.wrap ((n:Int)+1)=((n+1:Nat):Int):=by rw [IntKind.wrap_i64]; omega
 have hw2:IntKind.i64.wrap ((i:Int)+1)=(k:Int):=by rw [IntKind.wrap_i64]; omega
 have hnc:¬ ((n:Int)+1 > (c:Int)):=by omega
 have hb2:¬ (c=k):=by omega
 have hb4:¬ (c=i):=by omega
 have hin:i≤n:=by omega
 have hkn:(k:Int)≤(n:Int)+1:=by omega
 have hin2:(i:Int)≤(n:Int)+1:=by omega
 have hin1:i≤n+1:=by omega
 clear hsp hfz hcs hvs hsp1 hW1 hsa hsb hfa hfe hk hdl
 go_enter Tryz.func286,Tryz.ntmps286
 go_wp2_with (simp only [hov])
 go_region_law_o (refine step_copy_runI rfl _ _ 33 33 rfl _ _ (by simp [Act.eval,Act.put]) (by simp [Act.eval,Act.put]) (hcp1 _ _ _) ?_)
 go_wp2_with (at_builtin; refine wpList_copy_runI _ rfl _ _ 33 33 rfl _ _ rfl rfl (hcp2 _ (fun _=>rfl) (fun _=>rfl) _ _) ?_)
 go_ret
 exact ⟨rfl,by rw [hE.out]⟩
theorem ins_end (base:Option Addr) (n c vb voff vc:Nat) (w w1:World) (v':Value) (hnc:n≤c) (hc63:c≤9223372036854775807) (hb:base=none→c=0) (hr:∀ ty,(Builtin.append_ #[33,33] ty #[.slice base n c,.slice (some ⟨vb,voff,none⟩) 1 vc]).run Tryz.prog w=.ok v' w1) :
  Calls Tryz.prog 286 #[.slice base n c,.int .i64 n,.slice (some ⟨vb,voff,none⟩) 1 vc] w fun e w'=>e=.returned v'∧w'=w1:=by
 have mixed:Tryz.prog.follows .mixedOrders=true:=by kernel_rfl
 cases base with
 | none =>
  have h0:=hb rfl
  subst h0
  obtain rfl:n=0:=by omega
  go_enter Tryz.func286,Tryz.ntmps286
  go_wp2_with (at_builtin; refine Lib.wpList_append_run _ rfl _ _ _ _ rfl _ _ rfl rfl _ _ (hr _) ?_)
  all_goals (go_ret; exact ⟨rfl,rfl⟩)
 | some a =>
  obtain ⟨ab,ao,asp⟩:=a
  go_enter Tryz.func286,Tryz.ntmps286
  go_wp2_with (at_builtin; refine Lib.wpList_append_run _ rfl _ _ _ _ rfl _ _ rfl rfl _ _ (hr _) ?_)
  all_goals (go_ret; exact ⟨rfl,rfl⟩)
theorem ins_grow (b off n i k vb voff vc:Nat) (cs vs:List Value) (w:World) (hk:k=i+1) (hi:i<n) (hbig:(n+1)*16≤140737488355328)
  (hcl:cs.length=n*2) (hvl:vs.length=2)
  (hcs:∀ j v,cs[j]?=some v→w.cell? ⟨b,off+j,none⟩=some v)
  (hvs:∀ j v,vs[j]?=some v→w.cell? ⟨vb,voff+j,none⟩=some v) (h1c:∀ v∈cs,v.oneCell'=true) (h1v:∀ v∈vs,v.oneCell'=true) :
  Calls Tryz.prog 286 #[.slice (some ⟨b,off,none⟩) n n,.int .i64 i,.slice (some ⟨vb,voff,none⟩) 1 vc] w fun e w' =>
   e=.returned (.slice (some ⟨w.heap.size,0,none⟩) (n+1) (grownCap w (n+1) n 108)) ∧
   w'=(((w.alloc (.cells ((cs.take (i*2)).toArray++Builtin.zeroCells zc.cells (n+1 - i)++Builtin.zeroCells zc.cells (grownCap w (n+1) n 108 - (n+1))) 108)).drew.setCells w.heap.size (i*2) vs).drew).setCells w.heap.size (k*2) (cs.drop (i*2)):=by
 obtain ⟨i0,hi0,hz0,hzs,hzb⟩:=info_parts info_cell
 have mixed:Tryz.prog.follows .mixedOrders=true:=by kernel_rfl
 have u41:=Tryz.underlying33
 have u3:=Tryz.underlying3
 have hz2:¬ ((i:Int)=(n:Int)):=by omega
 have hsz:(Tryz.prog.info? 108).map (·.size)=some 2:=by rw [hi0]; simp [hzs]
 have hbw:b<w.heap.size:=block_lt_of_cell (hcs 0 _ (List.getElem?_eq_getElem (by omega)))
 have hvw:vb<w.heap.size:=block_lt_of_cell (hvs 0 _ (List.getElem?_eq_getElem (by omega)))
 have hik:i+(n+1 - i)=n+1:=by omega
 have hold:(Builtin.firstCells i0.size i (.slice (some ⟨b,off,none⟩) i n)).run Tryz.prog w.drew=.ok (cs.take (i*2)).toArray w.drew:=by
  rw [hzs]
  exact run_firstCells_some w.drew 2 i ⟨b,off,none⟩ i n (cs.take (i*2)) (by rw [List.length_take]; omega) (fun j v hj=>by
   rw [Addr.add_lit]
   rw [List.getElem?_take] at hj
   split at hj
   ·exact hcs j v hj
   ·cases hj)
 have hkk:IntKind.i64.wrap (((n+1:Nat):Int) - (i:Int))=((n+1 - i:Nat):Int):=by rw [IntKind.wrap_i64]; omega
 have hrz:∀ ty,(Builtin.append_ #[33,3] ty #[.slice (some ⟨b,off,none⟩) i n,.int .i64 ((n+1 - i:Nat):Int)]).run Tryz.prog w =
   .ok (.slice (some ⟨w.heap.size,0,none⟩) (n+1) (grownCap w (n+1) n 108)) (w.drew.alloc (.cells ((cs.take (i*2)).toArray++Builtin.zeroCells zc.cells (n+1 - i)++Builtin.zeroCells zc.cells (grownCap w (n+1) n 108 - (n+1))) 108)):=fun ty=>by
  have h:=Lib.run_append_grow_zeros w 33 3 ty 108 i0 zc .i64 .i64 u41 u3 hi0 hz0 (some ⟨b,off,none⟩) i n (cs.take (i*2)) hold (n+1 - i) (by omega) (by omega) (by omega) (by omega) (by rw [hzb]; omega) (by rw [hzb,hik]; exact growslice_fits (by omega) hbig)
  rw [hik] at h
  exact h
 obtain ⟨G,hG⟩:∃ G,G=grownCap w (n+1) n 108:=⟨_,rfl⟩
 obtain ⟨ROW,hROW⟩:∃ ROW:Array Value,ROW=(cs.take (i*2)).toArray++Builtin.zeroCells zc.cells (n+1 - i)++Builtin.zeroCells zc.cells (G - (n+1)):=⟨_,rfl⟩
 rw [← hG] at hrz ⊢
 rw [← hROW] at hrz ⊢
 have hRl:(n+1)*2≤ROW.size:=by
  rw [hROW]
  simp [Builtin.zeroCells,Value.cells,hcl]
  omega
 obtain ⟨W1,hW1⟩:∃ W1,W1=w.drew.alloc (.cells ROW 108):=⟨_,rfl⟩
 rw [← hW1] at hrz
 have hN:∀ j,j<(n+1)*2→(W1.cell? ⟨w.heap.size,j,none⟩).isSome=true:=fun j hj=>by
  rw [hW1,World.cell?_alloc_at (w:=w.drew) ROW _ w.heap.size j rfl,Array.getElem?_eq_getElem (by omega)]; rfl
 have hNf:∀ j,W1.frozen? ⟨w.heap.size,j,none⟩=false:=fun j=>by rw [hW1]; exact World.frozen?_alloc_at (w:=w.drew) ROW _ w.heap.size j rfl
 have hOb:∀ j v,w.cell? ⟨b,j,none⟩=some v→W1.cell? ⟨b,j,none⟩=some v:=fun j v h=>by rw [hW1,World.cell?_alloc_past (w:=w.drew) _ b j hbw]; exact h
 have hOv:∀ j v,w.cell? ⟨vb,j,none⟩=some v→W1.cell? ⟨vb,j,none⟩=some v:=fun j v h=>by rw [hW1,World.cell?_alloc_past (w:=w.drew) _ vb j hvw]; exact h
 have hcpA:∀ (W:World),(∀ x,W.cell? x=W1.cell? x)→(∀ x,W.frozen? x=W1.frozen? x)→∀ ty dc,(Builtin.copy_ #[33,33] ty #[.slice (some ⟨w.heap.size,i*2,none⟩) (n+1 - i) dc,.slice (some ⟨vb,voff,none⟩) 1 vc]).run Tryz.prog W=.ok (goInt 1) (W.setCells w.heap.size (i*2) vs):=fun W hWc hWf ty dc =>
  run_copy2 W _ _ ty 108 2 w.heap.size (i*2) 1 (n+1 - i) dc ⟨vb,voff,none⟩ 1 vc vs u41 hsz (by simp only [Nat.min_def]; split <;> omega) (by rw [hvl])
   (fun j v hj=>by rw [Addr.add_lit,hWc]; exact hOv _ v (hvs j v hj))
   (fun j hj=>by rw [hvl] at hj; rw [hWc]; exact hN _ (by omega)) (fun j hj=>by rw [hWf]; exact hNf _) h1v
 have hGn:n+1≤G:=by rw [hG]; exact grownCap_ge w _ _ _
 have hG63:G≤9223372036854775807:=by
  have:=grownCap_le_maxLen w (n+1) n 108 (by unfold maxLen; omega)
  rw [← hG] at this
  unfold maxLen at this
  omega
 have hbN:b≠w.heap.size:=by omega
 have hdl:(cs.drop (i*2)).length=(n - i)*2:=by rw [List.length_drop,hcl,Nat.sub_mul]
 have hcpB:∀ (W:World),(∀ x,W.cell? x=(W1.setCells w.heap.size (i*2) vs).cell? x)→(∀ x,W.frozen? x=(W1.setCells w.heap.size (i*2) vs).frozen? x)→∀ ty dc sc,(Builtin.copy_ #[33,33] ty #[.slice (some ⟨w.heap.size,k*2,none⟩) (n+1 - k) dc,.slice (some ⟨b,off+i*2,none⟩) (n - i) sc]).run Tryz.prog W=.ok (goInt ((n - i:Nat):Int)) (W.setCells w.heap.size (k*2) (cs.drop (i*2))):=fun W hWc hWf ty dc sc =>
  run_copy2 W _ _ ty 108 2 w.heap.size (k*2) (n - i) (n+1 - k) dc ⟨b,off+i*2,none⟩ (n - i) sc (cs.drop (i*2)) u41 hsz (by simp only [Nat.min_def]; split <;> omega) hdl
   (fun j v hj=>by
    rw [Addr.add_lit,hWc,World.cell?_setCells_out _ _ _ _ _ (fun h _=>absurd h hbN),Nat.add_assoc]
    exact hOb _ v (hcs (i*2+j) v (by rwa [List.getElem?_drop] at hj)))
   (fun j hj=>by rw [hdl] at hj; rw [hWc]; exact isSome_set _ _ _ _ (fun t ht=>by rw [hvl] at ht; exact hN _ (by omega)) _ (hN _ (by omega)))
   (fun j hj=>by rw [hWf,World.frozen?_setCells]; exact hNf _) (fun v hv=>h1c v (List.mem_of_mem_drop hv))
 subst hW1
 have hE1:∀ x,((w.alloc (.cells ROW 108)).drew).cell? x=(w.drew.alloc (.cells ROW 108)).cell? x:=fun x=>rfl
 have hE2:∀ x,((w.alloc (.cells ROW 108)).drew).frozen? x=(w.drew.alloc (.cells ROW 108)).frozen? x:=fun x=>rfl
 have hF1:∀ x,(((w.alloc (.cells ROW 108)).drew.setCells w.heap.size (i*2) vs).drew).cell? x=((w.drew.alloc (.cells ROW 108)).setCells w.heap.size (i*2) vs).cell? x:=fun x=>rfl
 have hF2:∀ x,(((w.alloc (.cells ROW 108)).drew.setCells w.heap.size (i*2) vs).drew).frozen? x=((w.drew.alloc (.cells ROW 108)).setCells w.heap.size (i*2) vs).frozen? x:=fun x=>rfl
 have hw1:IntKind.i64.wrap ((n:Int)+1)=((n+1:Nat):Int):=by rw [IntKind.wrap_i64]; omega
 have hw2:IntKind.i64.wrap ((i:Int)+1)=(k:Int):=by rw [IntKind.wrap_i64]; omega
 have hw3:IntKind.i64.wrap ((n:Int)+1 - (i:Int))=((n+1 - i:Nat):Int):=by rw [IntKind.wrap_i64]; omega
 have hw4:(n:Int)+1 - (i:Int)=((n+1 - i:Nat):Int):=by omega
 have hgt:(n:Int)+1 > (n:Int):=by omega
 have hci:¬ (n=i):=by omega
 have hGi:¬ (G=i):=by omega
 have hGk:¬ (G=k):=by omega
 have hin:i≤n:=by omega
 have hinZ:(i:Int)≤(n:Int):=by omega
 have hknZ:(k:Int)≤(n:Int)+1:=by omega
 have hinZ1:(i:Int)≤(n:Int)+1:=by omega
 clear hold hROW hG hRl hik hk
 go_enter Tryz.func286,Tryz.ntmps286
 go_wp2_with (first
  | (at_builtin; refine Lib.wpList_append_run _ rfl _ _ _ _ rfl _ _ rfl rfl _ _ (hrz _) ?_)
  | (at_builtin; refine wpList_copy_runI _ rfl _ _ 33 33 rfl _ _ rfl rfl (hcpA _ hE1 hE2 _ _) ?_))
 go_region_law_o (refine step_copy_runI rfl _ _ 33 33 rfl (.slice (some ⟨w.heap.size,k*2,none⟩) (n+1 - k) (G - k)) (.slice (some ⟨b,off+i*2,none⟩) (n - i) (n - i)) (by simp [Act.eval,Act.put]) (by simp [Act.eval,Act.put]) (hcpB _ hF1 hF2 3 (G - k) (n - i)) ?_)
 go_wp2
 go_ret
 exact ⟨rfl,rfl⟩
end Go.Proofs.YtpdfmcmnjikppaaGreat.H
namespace Go.Proofs.YtpdfmcmnjikppaaGreat
set_option maxRecDepth 100000
set_option maxHeartbeats 4000000
open Go.RowKit Go.Lib
theorem setCells_heap (b:Nat) (e:TypeId) (fz:Nat × Nat):∀ (vs:List Value) (o:Nat) (w:World) (arr:Array Value),w.heap[b]?=some (.cells arr e fz)→o+vs.length≤arr.size →
  ∃ arr':Array Value,(w.setCells b o vs).heap[b]?=some (.cells arr' e fz)∧arr'.size=arr.size∧(∀ k,k<o∨o+vs.length≤k→arr'[k]?=arr[k]?)∧(∀ j v,vs[j]?=some v→arr'[o+j]?=some v)
 | [],o,w,arr,h,_=>⟨arr,h,rfl,fun _ _=>rfl,fun j v hj=>by simp at hj⟩
 | v::r,o,w,arr,h,hl=>by
  have hl':o+(r.length+1)≤arr.size:=hl
  have h1:(w.setCell ⟨b,o,none⟩ v).heap[b]?=some (.cells (arr.setIfInBounds o v) e fz):=by
   simp [World.setCell,Array.getElem?_modify,h]
  obtain ⟨arr',k1,k2,k3,k4⟩:=setCells_heap b e fz r (o+1) _ _ h1 (by simp; omega)
  refine ⟨arr',k1,by rw [k2]; simp,fun k hk=>?_,fun j u hj=>?_⟩
  ·have hk:k<o∨o+(r.length+1)≤k:=hk
   rw [k3 k (by omega),Array.getElem?_setIfInBounds,if_neg (by omega)]
  ·cases j with
   | zero =>
    simp only [List.getElem?_cons_zero,Option.some.injEq] at hj
    subst hj
    rw [Nat.add_zero,k3 o (.inl (by omega)),Array.getElem?_setIfInBounds,if_pos rfl,if_pos (by omega)]
   | succ j =>
    have:=k4 j u (by simpa using hj)
    rwa [show o+(j+1)=o+1+j from by omega]
theorem setCells_else (b:Nat):∀ (vs:List Value) (o:Nat) (w:World),(w.setCells b o vs).os=w.os∧(w.setCells b o vs).tape=w.tape∧(w.setCells b o vs).output=w.output∧(w.setCells b o vs).heap.size=w.heap.size∧∀ k,k≠b→(w.setCells b o vs).heap[k]?=w.heap[k]?
 | [],o,w=>⟨rfl,rfl,rfl,rfl,fun _ _=>rfl⟩
 | v::r,o,w=>by
  obtain ⟨h1,h2,h3,h4,h5⟩:=setCells_else b r (o+1) (w.setCell ⟨b,o,none⟩ v)
  refine ⟨h1,h2,h3,h4.trans (by simp [World.setCell]),fun k hk=>(h5 k hk).trans ?_⟩
  simp only [World.setCell,Array.getElem?_modify]
  rw [if_neg (by simpa using Ne.symm hk)]
abbrev cellRow:List S:= [.int .i64,.int .i64]
theorem row_cell:rowOf Tryz.prog 108=some cellRow:=by kernel_rfl
def cellsV (rows:List (List D)):List Value:=rows.flatMap fun r => [.int .i64 (gd r 0).int,.int .i64 (gd r 1).int]
theorem cellsV_len:∀ rows,(cellsV rows).length=rows.length*2
 | []=>rfl
 | r::rs=>by
  have:=cellsV_len rs
  simp only [cellsV,List.flatMap_cons,List.length_append,List.length_cons,List.length_nil] at *
  omega
theorem cellsV_cons (r:List D) (rs:List (List D)):cellsV (r::rs)=.int .i64 (gd r 0).int::.int .i64 (gd r 1).int::cellsV rs:=rfl
theorem cellsV_get:∀ (rows:List (List D)) (i:Nat),i<rows.length→(cellsV rows)[i*2]?=some (.int .i64 (gd (rows.getD i []) 0).int)∧(cellsV rows)[i*2+1]?=some (.int .i64 (gd (rows.getD i []) 1).int)
 | [],i,h=>by simp at h
 | r::rs,0,_=>⟨rfl,rfl⟩
 | r::rs,i+1,h=>by
  have:=cellsV_get rs i (by simpa using h)
  rw [cellsV_cons,show (i+1)*2=i*2+1+1 from by omega]
  exact this
theorem cellsV_all {F:Nat→Value→Prop} {rows:List (List D)} (h:∀ i,i<rows.length→F (i*2) (.int .i64 (gd (rows.getD i []) 0).int)∧F (i*2+1) (.int .i64 (gd (rows.getD i []) 1).int)) {k:Nat} {v:Value} (hk:(cellsV rows)[k]?=some v):F k v:=by
 have hlt:=(List.getElem?_eq_some_iff.1 hk).1
 rw [cellsV_len] at hlt
 have hi:k / 2<rows.length:=by omega
 obtain ⟨h1,h2⟩:=cellsV_get rows (k / 2) hi
 obtain ⟨q1,q2⟩:=h (k / 2) hi
 rcases Nat.mod_two_eq_zero_or_one k with hm | hm
 ·have e:k / 2*2=k:=by omega
  rw [e] at h1 q1
  rw [hk] at h1; injection h1 with h1; rw [h1]; exact q1
 ·have e:k / 2*2+1=k:=by omega
  rw [e] at h2 q2
  rw [hk] at h2; injection h2 with h2; rw [h2]; exact q2
theorem cellsV_one (rows:List (List D)):∀ v∈cellsV rows,v.oneCell'=true:=fun v hv=>by
 obtain ⟨k,hk⟩:=List.getElem?_of_mem hv
 exact cellsV_all (F:=fun _ v=>v.oneCell'=true) (fun i _=>⟨rfl,rfl⟩) hk
theorem vd_cells {w:World} {prot:Nat→Nat} {x:D} {v:Value} (h:VD Tryz.prog w prot (.sl 108) x v):∃ A c,v=.slice A x.rows.length c∧x.rows.length≤c∧c≤9223372036854775807 ∧
  (0<x.rows.length→∃ b o,A=some ⟨b,o,none⟩)∧∀ b o,A=some ⟨b,o,none⟩→∀ k v,(cellsV x.rows)[k]?=some v→w.cell? ⟨b,o+k,none⟩=some v∧o+k<prot b:=by
 cases h with
 | sl e d A c row u hr h1 h2 h3 h4 =>
  rw [row_cell] at hr
  injection hr with hr
  subst hr
  refine ⟨A,c,rfl,h1,h2,fun h0=>?_,fun b o hA k v hk=>?_⟩
  ·obtain ⟨b,o,hA,_⟩:=h3 0 0 h0 (by decide)
   exact ⟨b,o,hA⟩
  ·subst hA
   have hb:∀ i j,i<x.rows.length→j<2→∃ v,w.cell? ⟨b,o+(i*2+j),none⟩=some v∧o+(i*2+j)<prot b∧v=.int .i64 (gd (x.rows.getD i []) j).int:=fun i j hi hj=>by
    obtain ⟨b',o',hA,hc,hp⟩:=h3 i j hi hj
    injection hA with hA
    injection hA with e1 e2 _
    subst e1; subst e2
    have hv:=h4 i j (.int .i64) hi (by match j,hj with | 0,_=>rfl | 1,_=>rfl)
    generalize u i j=z at *
    cases hv
    exact ⟨_,hc,hp,rfl⟩
   refine cellsV_all (F:=fun k v=>w.cell? ⟨b,o+k,none⟩=some v∧o+k<prot b) (fun i hi=>?_) hk
   obtain ⟨v0,q1,q2,rfl⟩:=hb i 0 hi (by decide)
   obtain ⟨v1,q3,q4,rfl⟩:=hb i 1 hi (by decide)
   exact ⟨⟨by simpa using q1,by simpa using q2⟩,q3,q4⟩
theorem clone_cell (a:Addr) (n c:Nat) (news:List Value) (w:World) (hl:news.length=n*2) (hn:n≤1000000) (hc:∀ j u,news[j]?=some u→w.cell? (a.add j)=some u) (h1:∀ u∈news,u.oneCell'=true) :
  Calls Tryz.prog 192 #[.slice (some a) n c] w fun e w'=>∃ v',e=.returned v'∧w'.ownsRow w.heap.size 108 2 v' n news∧Below w.heap.size w w':=by
 obtain ⟨i0,hi0,hz0,hzs,hzb⟩:=info_parts H.info_cell
 have mixed:Tryz.prog.follows .mixedOrders=true:=by kernel_rfl
 have q22:∀ (w:World) (a:Option Addr) (n c n' c':Nat),(binOp .eql 33 (.slice a n c) (.slice none n' c')).run Tryz.prog w=.ok (.bool a.isNone) w:=fun w a n c n' c'=>Lib.run_eql_slice_nil w _ _ a n c n' c' Tryz.underlying33
 have A:Aside (∀ j u,news[j]?=some u→w.cell? (a.add j)=some u):=hc
 clear hc
 go_enter Tryz.func192,Tryz.ntmps192
 go_wp2_with (at_builtin; refine wpList_append_own _ rfl _ _ 33 rfl w.heap.size 108 i0 H.zc 2 16 Tryz.underlying33 hi0 hz0 hzs hzb rfl (by decide) _ _ _ rfl (World.ownsRow_made w #[] 0 (Nat.le_refl _) (Nat.zero_le _) (by simp)) a n c news rfl ?qc1 ?qc2 ?qc3 ?qc4 ?qc5 ?qc6 ?_)
 case qc1=>exact hl
 case qc2 =>
  intro j u hj
  exact Lib.cell?_alloc_some _ (A.out j u hj)
 case qc3=>exact h1
 case qc4=>rw [Nat.zero_add]; unfold maxLen; omega
 case qc5=>rw [Nat.zero_add]; omega
 case qc6=>simp
 intro v' w1 hown hgrow hnil
 go_wp2
 go_ret
 refine ⟨v',rfl,by simpa using hown,?_⟩
 exact ((Below.refl _ w).alloc (Nat.le_refl _) _).grown hgrow (by simp) (by intro k hk; simp [Value.ownBlock] at hk; omega)
theorem clone_nil (n c:Nat) (w:World) :
  Calls Tryz.prog 192 #[.slice none n c] w fun e w'=>e=.returned (.slice none 0 0)∧w'=w:=by
 have mixed:Tryz.prog.follows .mixedOrders=true:=by kernel_rfl
 have q22:∀ (w:World) (a:Option Addr) (n c n' c':Nat),(binOp .eql 33 (.slice a n c) (.slice none n' c')).run Tryz.prog w=.ok (.bool a.isNone) w:=fun w a n c n' c'=>Lib.run_eql_slice_nil w _ _ a n c n' c' Tryz.underlying33
 go_enter Tryz.func192,Tryz.ntmps192
 go_wp2
 go_ret
 exact ⟨rfl,rfl⟩
theorem res_cells {prot:Nat→Nat} {w w':World} {x:D} {v:Value} (hfr:∀ b,w.heap.size≤b→prot b=0) (hb:Below w.heap.size w w') (ho:w'.ownsRow w.heap.size 108 2 v x.rows.length (cellsV x.rows)) :
  ∃ g',Res Tryz.prog prot w w' ⟨.one (.c (.own (0,0) true 108)),[x]⟩ v g':=by
 obtain ⟨hl,⟨rfl,h0⟩ | ⟨blk,cap,cur,rfl,hblk,hh,hcap,hmax,hsz,htk⟩⟩:=ho
 ·exact ⟨g0 0 prot,hb,⟨cellRow,row_cell,.inl ⟨List.eq_nil_of_length_eq_zero h0,rfl,none,rfl⟩⟩,fun _ _=>rfl,fun b hb'=>⟨hfr b (Nat.le_trans hb.size hb'),rfl⟩⟩
 ·refine ⟨⟨prot,fun b=>if b=blk then some (.inr (0,0)) else none,fun _=>0,fun _=>blk,fun _=>x.rows.length,fun _=>2,fun _=>108,fun _ => [],fun _=>0,fun _=>False⟩,hb,⟨cellRow,row_cell,.inr ⟨cap,cur,108,rfl,hcap,⟨by unfold maxLen at hmax; omega,rfl,rfl⟩,hblk,if_pos rfl,hh,hsz,rfl,rfl,?_,?_⟩⟩,fun _ _=>rfl,fun b hb'=>⟨hfr b (Nat.le_trans hb.size hb'),?_⟩⟩
  ·show prot blk=0
   exact hfr blk hblk
  ·intro i j s hi hs
   have hi:i<x.rows.length:=hi
   obtain ⟨q1,q2⟩:=cellsV_get x.rows i hi
   rw [← htk,List.getElem?_take,if_pos (by omega)] at q1 q2
   match j,hs with
   | 0,hs =>
    injection hs with hs
    subst hs
    exact ⟨.int .i64 (gd (x.rows.getD i []) 0).int,by simpa using q1,.of_vd (.int .i64 _) (.inr rfl)⟩
   | 1,hs =>
    injection hs with hs
    subst hs
    exact ⟨.int .i64 (gd (x.rows.getD i []) 1).int,by simpa using q2,.of_vd (.int .i64 _) (.inr rfl)⟩
  ·have:=lt_of_heap hh
   exact if_neg (by omega)
def i_clonCE:Ent:=(192,e1 (sd (.sl 108)) fun p=>(⟨.one (.c (.own (0,0) true 108)),[.l (gd p 0).rows]⟩,leI ((gd p 0).rows.length:Int) 1000000))
theorem i_clonC_ok:EntOk Tryz.prog i_clonCE:=e1_ok fun p h=>by
 have h:leI ((gd p 0).rows.length:Int) 1000000=true:=h
 simp only [leI,decide_eq_true_eq] at h
 refine SoundFn.of rfl ⟨enters Tryz.func192 (by kernel_rfl) (by kernel_rfl),fun w prot vs hargs hfr=>?_⟩
 obtain ⟨u,hu,hv⟩:=hargs.2 0 _ rfl
 have hvs:vs = #[u]:=by
  have hs:vs.size=1:=hargs.1
  refine Array.ext (by simpa using hs) fun i h1 h2=>?_
  have:i=0:=by omega
  subst this
  rw [Array.getElem?_eq_getElem h1] at hu
  injection hu
 subst hvs
 have hv:VD Tryz.prog w prot (.sl 108) (gd p 0) u:=hv
 generalize gd p 0=x at *
 obtain ⟨A,c,rfl,h1,h2,h3,h4⟩:=vd_cells hv
 cases A with
 | none =>
  have h0:x.rows.length=0:=by
   rcases Nat.eq_zero_or_pos x.rows.length with h' | h'
   ·exact h'
   ·obtain ⟨b,o,hA⟩:=h3 h'
    cases hA
  have hx0:x.rows = []:=List.eq_nil_of_length_eq_zero h0
  refine (clone_nil x.rows.length c w).mono ?_
  rintro ex w' ⟨rfl,rfl⟩
  obtain ⟨g',hg⟩:=res_cells (x:=x) (prot:=prot) (w:=w') (w':=w') hfr (Below.refl _ _) (v:=.slice none 0 0) ⟨cellsV_len _,.inl ⟨rfl,h0⟩⟩
  exact ⟨_,g',rfl,hg.below,hg.val,hg.prot,hg.fresh⟩
 | some ad =>
  refine (clone_cell ad x.rows.length c (cellsV x.rows) w (cellsV_len _) (by omega) (fun j u hj=>?_) (cellsV_one _)).mono ?_
  ·have hpos:0<x.rows.length:=by
    have:=(List.getElem?_eq_some_iff.1 hj).1
    rw [cellsV_len] at this
    omega
   obtain ⟨b,o,hA⟩:=h3 hpos
   injection hA with hA
   subst hA
   rw [Addr.add_lit]
   exact (h4 b o rfl j u hj).1
  ·rintro ex w' ⟨v',rfl,hown,hbel⟩
   obtain ⟨g',hg⟩:=res_cells (x:=x) (prot:=prot) hfr hbel hown
   exact ⟨_,g',rfl,hg.below,hg.val,hg.prot,hg.fresh⟩
theorem vd_int {P:Program} {w:World} {prot:Nat→Nat} {k:IntKind} {x:D} {v:Value} (h:VD P w prot (.int k) x v):v=.int k x.int:=by
 cases h; rfl
theorem args_at {P:Program} {prot:Nat→Nat} {w:World} {args:List T} {vs:Array Value} (h:ArgsV P prot w args vs) (us:List Value) (hl:us.length=args.length) (hu:∀ (j:Nat) t u,args[j]?=some t→vs[j]?=some u→us[j]?=some u):vs=us.toArray:=by
 refine Array.ext (by simp [h.1,hl]) fun i h1 h2=>?_
 have hi:i<args.length:=by rw [← h.1]; exact h1
 have:=hu i _ _ (List.getElem?_eq_getElem hi) (Array.getElem?_eq_getElem h1)
 rw [List.getElem?_eq_getElem (by omega)] at this
 simp only [Option.some.injEq] at this
 simpa using this.symm
theorem cell_at {w:World} {b:Nat} {arr:Array Value} {e:TypeId} {fz:Nat × Nat} (h:w.heap[b]?=some (.cells arr e fz)) (k:Nat):w.cell? ⟨b,k,none⟩=arr[k]?:=by
 simp [World.cell?,h]
theorem unfrozen {w:World} {b:Nat} {arr:Array Value} {e:TypeId} (h:w.heap[b]?=some (.cells arr e (0,0))) (k:Nat):w.frozen? ⟨b,k,none⟩=false:=by
 simp [World.frozen?,h]
def insRows (rows:List (List D)) (i:Nat) (r:List D):List (List D):=rows.take i++r::rows.drop i
end Go.Proofs.YtpdfmcmnjikppaaGreat
namespace Go.Proofs.YtpdfmcmnjikppaaGreat
set_option maxRecDepth 4096
set_option maxHeartbeats 1000000
end Go.Proofs.YtpdfmcmnjikppaaGreat
namespace Go.Proofs.YtpdfmcmnjikppaaGreat
def pr (r:List D):Int × Int:=((gd r 0).int,(gd r 1).int)
def fin (k v:D) (R:List (List D) × Bool):List (List D):=bif !R.2 then R.1 ++ [[k,v]] else R.1
end Go.Proofs.YtpdfmcmnjikppaaGreat
namespace Go.Proofs.YtpdfmcmnjikppaaGreat
set_option maxRecDepth 4096
set_option maxHeartbeats 1000000
end Go.Proofs.YtpdfmcmnjikppaaGreat
namespace Go.Proofs.YtpdfmcmnjikppaaGreat
set_option maxRecDepth 4096
set_option maxHeartbeats 1000000
abbrev i_StoreNewT:FuncId→List T→Option (T × Bool):=find [i_StoreOkE,i_WritesOkE,i_valueOfE]
theorem i_StoreNewT_ok:CallOk Tryz.prog i_StoreNewT:=find_ok (fC ⟨i_StoreOk_ok,fC ⟨i_WritesOk_ok,fC ⟨i_valueOf_ok,fN⟩⟩⟩)
abbrev i_StoreNewK:List Nat:= [0,1,4,5,7,15,16,17,18,19,31]
noncomputable def i_StoreNewL0 (N:Nat) (p q:List D):List D→Out:=loopOf Tryz.prog i_StoreNewT N i_StoreNewK Tryz.f115 ri [⟨sd (.sl 108),p⟩,⟨sd (.sl 70),q⟩] 0
theorem i_StoreNewR0 (N:Nat) (p q:List D) (x0 x1 x2 x3 x4 x5 x6 x7:D):(i_StoreNewL0 N p q) [x0,x1,x2,x3,x4,x5,x6,x7] =
 bif ltI x7.int x6.int then nd (inRange x7.int x5.rows.length) (bif (gd (x5.rows.getD x7.int.toNat []) 1).int != (-1) then nd (storeOk x0&&inB (gd (x5.rows.getD x7.int.toNat []) 0).int 0 999) (bif ltI (valD x0 (gd (x5.rows.getD x7.int.toNat []) 0).int).int 0 then nx [x0,x1,x2,x3,.i (w64 (x4.int+1)),x5,x6,.i (w64 (x7.int+1))]
 else nx [x0,x1,x2,x3,x4,x5,x6,.i (w64 (x7.int+1))])
 else nx [x0,x1,x2,x3,x4,x5,x6,.i (w64 (x7.int+1))])
 else ex 0 [x0,x1,x2,x3,x4,x5,x6,x7]:=by kernel_rfl
theorem i_StoreNew_ev (N:Nat) (p q:List D):evFn Tryz.prog i_StoreNewT N i_StoreNewK Tryz.f115 ri [⟨sd (.sl 108),p⟩,⟨sd (.sl 70),q⟩]=some (bo,
 bif !(storeOk (gd p 0)) then oi (-1)
 else bif !(writesOk (gd q 0)) then oi (-1)
 else (let o0:=iter (i_StoreNewL0 N p q) N [gd p 0,gd q 0,.i 0,.b (!(writesOk (gd q 0))),.i 0,gd q 0,.i ((gd q 0).rows.length:Int),.i 0]
  nd o0.isSome (nd (o0.code==2) (some (1,[gd o0.pay 4]))))):=by kernel_rfl
def newAt (z w:D) (k:Nat):Bool:=leI 0 (gd (w.rows.getD k []) 1).int&&ltI (valD z (gd (w.rows.getD k []) 0).int).int 0
def storeNew (z w:D):Int:=bif storeOk z then bif writesOk w then (cnt (newAt z w) 0 w.rows.length:Int) else -1 else -1
theorem write_at {w:D} (h:writesOk w=true) {k:Nat} (hk:k<w.rows.length):w.rows.length≤60∧inB (gd (w.rows.getD k []) 0).int 0 999=true∧((gd (w.rows.getD k []) 1).int != (-1))=leI 0 (gd (w.rows.getD k []) 1).int:=by
 simp only [writesOk,Bool.and_eq_true,List.all_eq_true,List.mem_range,decide_eq_true_eq] at h
 obtain ⟨hl,h⟩:=h
 have:=h k hk
 simp only [writeAt,Bool.and_eq_true] at this
 refine ⟨by omega,this.1,?_⟩
 have h2:=this.2.1
 simp only [inB,Bool.and_eq_true,decide_eq_true_eq] at h2
 rw [Bool.eq_iff_iff]
 simp only [bne_iff_ne,ne_eq,leI,decide_eq_true_eq]
 omega
theorem writes_len60 {w:D} (h:writesOk w=true):w.rows.length≤60:=by
 simp only [writesOk,Bool.and_eq_true,decide_eq_true_eq] at h
 omega
theorem new_step (z w:D) (k:Nat) (h:k<1000):(cnt (newAt z w) 0 (k+1):Int)=bif newAt z w k then w64 ((cnt (newAt z w) 0 k:Int)+1) else (cnt (newAt z w) 0 k:Int):=by
 have:=cnt_le (newAt z w) k 0
 rw [cnt_succ,Nat.zero_add]
 cases newAt z w k
 ·rfl
 ·rw [cond_true,cond_true,w64_id (by omega) (by omega)]; omega
def i_StoreNewE:Ent:=(115,e2 (sd (.sl 108)) (sd (.sl 70)) fun p q=>(⟨ri,[.i (storeNew (gd p 0) (gd q 0))]⟩,true))
theorem i_StoreNew_ok:EntOk Tryz.prog i_StoreNewE:=e2_ok fun p q h=>evFn_sound (N:=61) (ks:=i_StoreNewK) (key:=bo) i_StoreNewT_ok (enters Tryz.func115) Tryz.func115 fun hw=>by
 rw [i_StoreNew_ev]
 unfold storeNew
 cases hz:storeOk (gd p 0)
 ·rfl
 cases hw:writesOk (gd q 0)
 ·rfl
 have hlen:=writes_len60 hw
 simp only [Bool.not_true,cond_false,cond_true]
 have e:=run_loop (L:=i_StoreNewL0 61 p q) (fun k => [gd p 0,gd q 0,.i 0,.b false,.i (cnt (newAt (gd p 0) (gd q 0)) 0 k:Int),gd q 0,.i ((gd q 0).rows.length:Int),.i (k:Int)]) (gd q 0).rows.length 0 (fun k hk=>?_) ?_ (N:=61) (by omega)
 ·simp only [Int.natCast_zero,cnt_zero] at e
  rw [e]
  rfl
 ·show i_StoreNewL0 _ p q [_,_,_,_,_,_,_,.i (k:Int)]=_
  rw [i_StoreNewR0]
  obtain ⟨_,hk2,hk3⟩:=write_at hw hk
  simp only [int_i,c_lt hk,nd_ix hk,w64_succ hk (show (gd q 0).rows.length≤9223372036854775807 from by omega),Int.toNat_natCast]
  rw [hz,hk2,hk3,new_step _ _ _ (show k<1000 from by omega)]
  unfold newAt
  cases leI 0 (gd ((gd q 0).rows.getD k []) 1).int <;> cases ltI (valD (gd p 0) (gd ((gd q 0).rows.getD k []) 0).int).int 0 <;> rfl
 ·show i_StoreNewL0 _ p q [_,_,_,_,_,_,.i ((gd q 0).rows.length:Int),.i ((gd q 0).rows.length:Int)]=_
  rw [i_StoreNewR0]
  simp only [int_i,c_nlt]
abbrev s_StoreNewT:FuncId→List T→Option (T × Bool):=find [s_StoreOkE,s_WritesOkE,s_l11GetE]
theorem s_StoreNewT_ok:CallOk Tryz.prog s_StoreNewT:=find_ok (fC ⟨s_StoreOk_ok,fC ⟨s_WritesOk_ok,fC ⟨s_l11Get_ok,fN⟩⟩⟩)
abbrev s_StoreNewK:List Nat:= [0,1,4,5,6,14,18,36]
noncomputable def s_StoreNewL0 (N:Nat) (p q:List D):List D→Out:=loopOf Tryz.prog s_StoreNewT N s_StoreNewK Tryz.f103 ri [⟨sd (.sl 108),p⟩,⟨sd (.sl 70),q⟩] 0
theorem s_StoreNewR0 (N:Nat) (p q:List D) (x0 x1 x2 x3 x4 x5:D):(s_StoreNewL0 N p q) [x0,x1,x2,x3,x4,x5] =
 bif ltI x5.int (x1.rows.length:Int) then nd (inRange x5.int x1.rows.length) (bif leI 0 (gd (x1.rows.getD x5.int.toNat []) 1).int then nd (inRange x5.int x1.rows.length) (nd (storeOk x0) (bif ltI (valD x0 (gd (x1.rows.getD x5.int.toNat []) 0).int).int 0 then nx [x0,x1,x2,x3,.i (w64 (x4.int+1)),.i (w64 (x5.int+1))]
 else nx [x0,x1,x2,x3,x4,.i (w64 (x5.int+1))]))
 else nx [x0,x1,x2,x3,x4,.i (w64 (x5.int+1))])
 else ex 0 [x0,x1,x2,x3,x4,x5]:=by kernel_rfl
theorem s_StoreNew_ev (N:Nat) (p q:List D):evFn Tryz.prog s_StoreNewT N s_StoreNewK Tryz.f103 ri [⟨sd (.sl 108),p⟩,⟨sd (.sl 70),q⟩]=some (bo,
 bif !(storeOk (gd p 0)) then oi (-1)
 else bif !(writesOk (gd q 0)) then oi (-1)
 else (let o0:=iter (s_StoreNewL0 N p q) N [gd p 0,gd q 0,.i 0,.b (!(writesOk (gd q 0))),.i 0,.i 0]
  nd o0.isSome (nd (o0.code==2) (some (1,[gd o0.pay 4]))))):=by kernel_rfl
def s_StoreNewE:Ent:=(103,e2 (sd (.sl 108)) (sd (.sl 70)) fun p q=>(⟨ri,[.i (storeNew (gd p 0) (gd q 0))]⟩,true))
theorem s_StoreNew_ok:EntOk Tryz.prog s_StoreNewE:=e2_ok fun p q h=>evFn_sound (N:=61) (ks:=s_StoreNewK) (key:=bo) s_StoreNewT_ok (enters Tryz.func103) Tryz.func103 fun hw=>by
 rw [s_StoreNew_ev]
 unfold storeNew
 cases hz:storeOk (gd p 0)
 ·rfl
 cases hw:writesOk (gd q 0)
 ·rfl
 have hlen:=writes_len60 hw
 simp only [Bool.not_true,cond_false,cond_true]
 have e:=run_loop (L:=s_StoreNewL0 61 p q) (fun k => [gd p 0,gd q 0,.i 0,.b false,.i (cnt (newAt (gd p 0) (gd q 0)) 0 k:Int),.i (k:Int)]) (gd q 0).rows.length 0 (fun k hk=>?_) ?_ (N:=61) (by omega)
 ·simp only [Int.natCast_zero,cnt_zero] at e
  rw [e]
  rfl
 ·show s_StoreNewL0 _ p q [_,_,_,_,_,.i (k:Int)]=_
  rw [s_StoreNewR0]
  simp only [int_i,c_lt hk,nd_ix hk,w64_succ hk (show (gd q 0).rows.length≤9223372036854775807 from by omega),Int.toNat_natCast]
  rw [hz,nd_true,new_step _ _ _ (show k<1000 from by omega)]
  unfold newAt
  cases leI 0 (gd ((gd q 0).rows.getD k []) 1).int <;> cases ltI (valD (gd p 0) (gd ((gd q 0).rows.getD k []) 0).int).int 0 <;> rfl
 ·show s_StoreNewL0 _ p q [_,_,_,_,_,.i ((gd q 0).rows.length:Int)]=_
  rw [s_StoreNewR0]
  simp only [int_i,c_nlt]
end Go.Proofs.YtpdfmcmnjikppaaGreat
namespace Go.Proofs.YtpdfmcmnjikppaaGreat
set_option maxRecDepth 4096
set_option maxHeartbeats 1000000
abbrev i_roomT:FuncId→List T→Option (T × Bool):=find [i_StoreNewE]
theorem i_roomT_ok:CallOk Tryz.prog i_roomT:=find_ok (fC ⟨i_StoreNew_ok,fN⟩)
abbrev i_roomK:List Nat:= [0,1,2,3,5,10,11,12,13]
noncomputable def i_roomL0 (N:Nat) (p:List D):List D→Out:=loopOf Tryz.prog i_roomT N i_roomK Tryz.f114 ri [⟨ag rIShard,p⟩] 0
theorem i_roomR0 (N:Nat) (p:List D) (x0 x1 x2 x3 x4 x5 x6 x7 x8 x9 x10 x11 x12 x13 x14 x15 x16 x17 x18 x19 x20 x21 x22 x23:D):(i_roomL0 N p) [x0,x1,x2,x3,x4,x5,x6,x7,x8,x9,x10,x11,x12,x13,x14,x15,x16,x17,x18,x19,x20,x21,x22,x23] =
 bif ltI x14.int x13.int then nd (inRange x14.int x12.rows.length) (nx [x0,x1,x2,x3,x4,x5,x6,x7,x8,x9,x10,.i (w64 (x11.int+(storeNew x18 (gd (x12.rows.getD x14.int.toNat []) 1)))),x12,x13,.i (w64 (x14.int+1)),x15,x16,x17,x18,x19,x20,x21,x22,x23])
 else ex 0 [x0,x1,x2,x3,x4,x5,x6,x7,x8,x9,x10,x11,x12,x13,x14,x15,x16,x17,x18,x19,x20,x21,x22,x23]:=by kernel_rfl
theorem i_room_ev (N:Nat) (p:List D):evFn Tryz.prog i_roomT N i_roomK Tryz.f114 ri [⟨ag rIShard,p⟩]=some (bo,
 (let o0:=iter (i_roomL0 N p) N [gd p 0,gd p 1,gd p 2,gd p 3,gd p 4,gd p 5,gd p 6,gd p 7,gd p 8,.i 0,.i 0,.i ((gd p 3).rows.length:Int),gd p 5,.i ((gd p 5).rows.length:Int),.i 0,gd p 0,gd p 1,gd p 2,gd p 3,gd p 4,gd p 5,gd p 6,gd p 7,gd p 8]
  nd o0.isSome (nd (o0.code==2) (some (1,[gd o0.pay 11]))))):=by kernel_rfl
def newSum (c hs:D):Nat→Int
 | 0=>0
 | k+1=>newSum c hs k+storeNew c (gd (hs.rows.getD k []) 1)
def roomOf (p:List D):Int:=((gd p 3).rows.length:Int)+newSum (gd p 3) (gd p 5) (gd p 5).rows.length
theorem storeNew_in (c w:D) : -1≤storeNew c w∧storeNew c w≤60:=by
 unfold storeNew
 cases storeOk c
 ·simp only [cond_false]; omega
 cases h:writesOk w
 ·simp only [cond_true,cond_false]; omega
 have h1:=writes_len60 h
 have h2:=cnt_le (newAt c w) w.rows.length 0
 simp only [cond_true]
 omega
theorem newSum_in (c hs:D):∀ k:Nat,-(k:Int)≤newSum c hs k∧newSum c hs k≤60*(k:Int)
 | 0=>⟨by simp only [newSum]; omega,by simp only [newSum]; omega⟩
 | k+1=>by
  have h1:=newSum_in c hs k
  have h2:=storeNew_in c (gd (hs.rows.getD k []) 1)
  simp only [newSum]
  omega
def i_roomE:Ent:=(114,e1 (ag rIShard) fun p=>(⟨ri,[.i (roomOf p)]⟩,leI ((gd p 3).rows.length:Int) 1000000000&&leI ((gd p 5).rows.length:Int) 1000000000))
theorem i_room_ok:EntOk Tryz.prog i_roomE:=e1_ok fun p h=>evFn_sound (N:=(gd p 5).rows.length+1) (ks:=i_roomK) (key:=bo) i_roomT_ok (enters Tryz.func114) Tryz.func114 fun hw=>by
 rw [i_room_ev]
 have h:(leI ((gd p 3).rows.length:Int) 1000000000&&leI ((gd p 5).rows.length:Int) 1000000000)=true:=h
 simp only [Bool.and_eq_true,leI,decide_eq_true_eq] at h
 have e:=run_loop (L:=i_roomL0 ((gd p 5).rows.length+1) p) (fun k => [gd p 0,gd p 1,gd p 2,gd p 3,gd p 4,gd p 5,gd p 6,gd p 7,gd p 8,.i 0,.i 0,.i (((gd p 3).rows.length:Int)+newSum (gd p 3) (gd p 5) k),gd p 5,.i ((gd p 5).rows.length:Int),.i (k:Int),gd p 0,gd p 1,gd p 2,gd p 3,gd p 4,gd p 5,gd p 6,gd p 7,gd p 8]) (gd p 5).rows.length 0 (fun k hk=>?_) ?_ (N:=(gd p 5).rows.length+1) (by omega)
 ·simp only [Int.natCast_zero,newSum,Int.add_zero] at e
  rw [e]
  rfl
 ·show i_roomL0 _ p [_,_,_,_,_,_,_,_,_,_,_,_,_,_,.i (k:Int),_,_,_,_,_,_,_,_,_]=_
  rw [i_roomR0]
  have h1:=newSum_in (gd p 3) (gd p 5) k
  have h2:=storeNew_in (gd p 3) (gd ((gd p 5).rows.getD k []) 1)
  simp only [int_i,c_lt hk,nd_ix hk,w64_succ hk (show (gd p 5).rows.length≤9223372036854775807 from by omega),Int.toNat_natCast]
  rw [w64_id (by omega) (by omega),Int.add_assoc]
  rfl
 ·show i_roomL0 _ p [_,_,_,_,_,_,_,_,_,_,_,_,_,.i ((gd p 5).rows.length:Int),.i ((gd p 5).rows.length:Int),_,_,_,_,_,_,_,_,_]=_
  rw [i_roomR0]
  simp only [int_i,c_nlt]
abbrev s_l13NewT:FuncId→List T→Option (T × Bool):=find [s_StoreNewE]
theorem s_l13NewT_ok:CallOk Tryz.prog s_l13NewT:=find_ok (fC ⟨s_StoreNew_ok,fN⟩)
abbrev s_l13NewK:List Nat:= [0,1,2,3,4,9]
noncomputable def s_l13NewL0 (N:Nat) (p:List D):List D→Out:=loopOf Tryz.prog s_l13NewT N s_l13NewK Tryz.f102 ri [⟨ag rIShard,p⟩] 0
theorem s_l13NewR0 (N:Nat) (p:List D) (x0 x1 x2 x3 x4 x5 x6 x7 x8 x9 x10 x11 x12 x13 x14 x15 x16 x17 x18 x19 x20 x21:D):(s_l13NewL0 N p) [x0,x1,x2,x3,x4,x5,x6,x7,x8,x9,x10,x11,x12,x13,x14,x15,x16,x17,x18,x19,x20,x21] =
 bif ltI x12.int (x18.rows.length:Int) then nd (inRange x12.int x18.rows.length) (nx [x0,x1,x2,x3,x4,x5,x6,x7,x8,x9,x10,.i (w64 (x11.int+(storeNew x16 (gd (x18.rows.getD x12.int.toNat []) 1)))),.i (w64 (x12.int+1)),x13,x14,x15,x16,x17,x18,x19,x20,x21])
 else ex 0 [x0,x1,x2,x3,x4,x5,x6,x7,x8,x9,x10,x11,x12,x13,x14,x15,x16,x17,x18,x19,x20,x21]:=by kernel_rfl
theorem s_l13New_ev (N:Nat) (p:List D):evFn Tryz.prog s_l13NewT N s_l13NewK Tryz.f102 ri [⟨ag rIShard,p⟩]=some (bo,
 (let o0:=iter (s_l13NewL0 N p) N [gd p 0,gd p 1,gd p 2,gd p 3,gd p 4,gd p 5,gd p 6,gd p 7,gd p 8,.i 0,.i 0,.i 0,.i 0,gd p 0,gd p 1,gd p 2,gd p 3,gd p 4,gd p 5,gd p 6,gd p 7,gd p 8]
  nd o0.isSome (nd (o0.code==2) (some (1,[gd o0.pay 11]))))):=by kernel_rfl
def s_l13NewE:Ent:=(102,e1 (ag rIShard) fun p=>(⟨ri,[.i (newSum (gd p 3) (gd p 5) (gd p 5).rows.length)]⟩,leI ((gd p 5).rows.length:Int) 1000000000))
theorem s_l13New_ok:EntOk Tryz.prog s_l13NewE:=e1_ok fun p h=>evFn_sound (N:=(gd p 5).rows.length+1) (ks:=s_l13NewK) (key:=bo) s_l13NewT_ok (enters Tryz.func102) Tryz.func102 fun hw=>by
 rw [s_l13New_ev]
 have h:leI ((gd p 5).rows.length:Int) 1000000000=true:=h
 simp only [leI,decide_eq_true_eq] at h
 have e:=run_loop (L:=s_l13NewL0 ((gd p 5).rows.length+1) p) (fun k => [gd p 0,gd p 1,gd p 2,gd p 3,gd p 4,gd p 5,gd p 6,gd p 7,gd p 8,.i 0,.i 0,.i (newSum (gd p 3) (gd p 5) k),.i (k:Int),gd p 0,gd p 1,gd p 2,gd p 3,gd p 4,gd p 5,gd p 6,gd p 7,gd p 8]) (gd p 5).rows.length 0 (fun k hk=>?_) ?_ (N:=(gd p 5).rows.length+1) (by omega)
 ·simp only [Int.natCast_zero,newSum] at e
  rw [e]
  rfl
 ·show s_l13NewL0 _ p [_,_,_,_,_,_,_,_,_,_,_,_,.i (k:Int),_,_,_,_,_,_,_,_,_]=_
  rw [s_l13NewR0]
  have h1:=newSum_in (gd p 3) (gd p 5) k
  have h2:=storeNew_in (gd p 3) (gd ((gd p 5).rows.getD k []) 1)
  simp only [int_i,c_lt hk,nd_ix hk,w64_succ hk (show (gd p 5).rows.length≤9223372036854775807 from by omega),Int.toNat_natCast]
  rw [w64_id (by omega) (by omega)]
  rfl
 ·show s_l13NewL0 _ p [_,_,_,_,_,_,_,_,_,_,_,_,.i ((gd p 5).rows.length:Int),_,_,_,_,_,_,_,_,_]=_
  rw [s_l13NewR0]
  simp only [int_i,c_nlt]
end Go.Proofs.YtpdfmcmnjikppaaGreat
namespace Go.Proofs.YtpdfmcmnjikppaaGreat
set_option maxRecDepth 4096
set_option maxHeartbeats 1000000
abbrev i_ShardOk_1T:FuncId→List T→Option (T × Bool):=find [i_haveAllE]
theorem i_ShardOk_1T_ok:CallOk Tryz.prog i_ShardOk_1T:=find_ok (fC ⟨i_haveAll_ok,fN⟩)
abbrev i_ShardOk_1K:List Nat:= [0,1,2,3]
theorem i_ShardOk_1_ev (N:Nat) (p q:List D):evFn Tryz.prog i_ShardOk_1T N i_ShardOk_1K Tryz.f155 rb [⟨ag rIRange,p⟩,⟨.one (.c (.cptr [si,.sl 41,.sl 41,.sl 108,.sl 93,.sl 75,.sl 3,.sl 3,si] 0)),q⟩]=some (bo,
 ob (!(haveAll (gd ((gd q 0).rows.getD 0 []) 1) (sub p 0 2)))):=by kernel_rfl
def i_ShardOk_1F (p q:List D):Bool:=
 !(haveAll (gd ((gd q 0).rows.getD 0 []) 1) (sub p 0 2))
def i_ShardOk_1E:Ent:=(155,e2 (ag rIRange) (.one (.c (.cptr [si,.sl 41,.sl 41,.sl 108,.sl 93,.sl 75,.sl 3,.sl 3,si] 0))) fun p q=>(⟨rb,[.b (i_ShardOk_1F p [gd q 0])]⟩,true))
theorem i_ShardOk_1_ok:EntOk Tryz.prog i_ShardOk_1E:=e2_ok fun p q h=>evFn_sound (N:=0) (ks:=i_ShardOk_1K) (key:=bo) i_ShardOk_1T_ok (enters Tryz.func155) Tryz.func155 fun hw=>by
 rw [i_ShardOk_1_ev]
 try simp only [cond_ob,cond_oi,cond_os]
 rfl
abbrev i_ShardOk_2T:FuncId→List T→Option (T × Bool):=find [i_oneE,i_haveAllE]
theorem i_ShardOk_2T_ok:CallOk Tryz.prog i_ShardOk_2T:=find_ok (fC ⟨i_one_ok,fC ⟨i_haveAll_ok,fN⟩⟩)
abbrev i_ShardOk_2K:List Nat:= [0,1,2,3]
theorem i_ShardOk_2_ev (N:Nat) (p q:List D):evFn Tryz.prog i_ShardOk_2T N i_ShardOk_2K Tryz.f156 rb [⟨ag rICell,p⟩,⟨.one (.c (.cptr [si,.sl 41,.sl 41,.sl 108,.sl 93,.sl 75,.sl 3,.sl 3,si] 0)),q⟩]=some (bo,
 ob (!(haveAll (gd ((gd q 0).rows.getD 0 []) 1) [(gd p 0),.i (w64 ((gd p 0).int+1))]))):=by kernel_rfl
def i_ShardOk_2F (p q:List D):Bool:=
 !(haveAll (gd ((gd q 0).rows.getD 0 []) 1) [(gd p 0),.i (w64 ((gd p 0).int+1))])
def i_ShardOk_2E:Ent:=(156,e2 (ag rICell) (.one (.c (.cptr [si,.sl 41,.sl 41,.sl 108,.sl 93,.sl 75,.sl 3,.sl 3,si] 0))) fun p q=>(⟨rb,[.b (i_ShardOk_2F p [gd q 0])]⟩,true))
theorem i_ShardOk_2_ok:EntOk Tryz.prog i_ShardOk_2E:=e2_ok fun p q h=>evFn_sound (N:=0) (ks:=i_ShardOk_2K) (key:=bo) i_ShardOk_2T_ok (enters Tryz.func156) Tryz.func156 fun hw=>by
 rw [i_ShardOk_2_ev]
 try simp only [cond_ob,cond_oi,cond_os]
 rfl
abbrev i_ShardOk_3T:FuncId→List T→Option (T × Bool):=find [i_LkeysE,i_haveAllE,coIE]
theorem i_ShardOk_3T_ok:CallOk Tryz.prog i_ShardOk_3T:=find_ok (fC ⟨i_Lkeys_ok,fC ⟨i_haveAll_ok,fC ⟨coI_ok,fN⟩⟩⟩)
abbrev i_ShardOk_3K:List Nat:= [0,1,2,3,4]
theorem i_ShardOk_3_ev (N:Nat) (p q r:List D):evFn Tryz.prog i_ShardOk_3T N i_ShardOk_3K Tryz.f159 rb [⟨ag rILock,p⟩,⟨.one (.c (.cptr [si,.sl 41,.sl 41,.sl 108,.sl 93,.sl 75,.sl 3,.sl 3,si] 0)),q⟩,⟨.one (.c (.cptr [.sl 3] 0)),r⟩]=some (bo,
 bif !(haveAll (gd ((gd q 0).rows.getD 0 []) 1) [(gd p 1),(gd p 2)]) then ob true
 else ob (hasInt (gd ((gd r 0).rows.getD 0 []) 0) (gd p 0).int)):=by kernel_rfl
def i_ShardOk_3F (p q r:List D):Bool:=
 bif !(haveAll (gd ((gd q 0).rows.getD 0 []) 1) [(gd p 1),(gd p 2)]) then true
 else hasInt (gd ((gd r 0).rows.getD 0 []) 0) (gd p 0).int
def i_ShardOk_3E:Ent:=(159,e3 (ag rILock) (.one (.c (.cptr [si,.sl 41,.sl 41,.sl 108,.sl 93,.sl 75,.sl 3,.sl 3,si] 0))) (.one (.c (.cptr [.sl 3] 0))) fun p q r=>(⟨rb,[.b (i_ShardOk_3F p [gd q 0] [gd r 0])]⟩,true))
theorem i_ShardOk_3_ok:EntOk Tryz.prog i_ShardOk_3E:=e3_ok fun p q r h=>evFn_sound (N:=0) (ks:=i_ShardOk_3K) (key:=bo) i_ShardOk_3T_ok (enters Tryz.func159) Tryz.func159 fun hw=>by
 rw [i_ShardOk_3_ev]
 try simp only [cond_ob,cond_oi,cond_os]
 rfl
abbrev ixfSFT:FuncId→List T→Option (T × Bool):=find [i_ShardOk_1E]
theorem ixfSFT_ok:CallOk Tryz.prog ixfSFT:=find_ok (fC ⟨i_ShardOk_1_ok,fN⟩)
abbrev ixfSFK:List Nat:= [0,1,4,5,7,8,9,16]
noncomputable def ixfSFL0 (N:Nat) (p q:List D):List D→Out:=loopOf Tryz.prog ixfSFT N ixfSFK Tryz.f207 ri [⟨sd (.sl 41),p⟩,⟨.one (.c (.fn 155 [.cptr [si,.sl 41,.sl 41,.sl 108,.sl 93,.sl 75,.sl 3,.sl 3,si] 0])),q⟩] 0
theorem ixfSFR0 (N:Nat) (p q:List D) (x0 x1 x2 x3 x4:D):(ixfSFL0 N p q) [x0,x1,x2,x3,x4] =
 bif ltI x4.int x3.int then nd (inRange x4.int x0.rows.length) (bif i_ShardOk_1F (sub (x0.rows.getD x4.int.toNat []) 0 2) [gd (x1.rows.getD 0 []) 0] then some (1,[x4])
 else nx [x0,x1,x2,x3,.i (w64 (x4.int+1))])
 else ex 0 [x0,x1,x2,x3,x4]:=by kernel_rfl
theorem ixfSF_ev (N:Nat) (p q:List D):evFn Tryz.prog ixfSFT N ixfSFK Tryz.f207 ri [⟨sd (.sl 41),p⟩,⟨.one (.c (.fn 155 [.cptr [si,.sl 41,.sl 41,.sl 108,.sl 93,.sl 75,.sl 3,.sl 3,si] 0])),q⟩]=some (bo,
 (let o0:=iter (ixfSFL0 N p q) N [gd p 0,gd q 0,.i 0,.i ((gd p 0).rows.length:Int),.i 0]
  nd o0.isSome (bif o0.code==1 then some (1,o0.pay)
  else nd (o0.code==2) (oi (-1))))):=by kernel_rfl
def ixfSFC (c:D) (r:List D):Bool:=i_ShardOk_1F r [gd (c.rows.getD 0 []) 0]
def ixfSFE:Ent:=(207,e2 (sd (.sl 41)) (.one (.c (.fn 155 [.cptr [si,.sl 41,.sl 41,.sl 108,.sl 93,.sl 75,.sl 3,.sl 3,si] 0]))) fun p q=>(⟨ri,[.i (ixF (fun k=>ixfSFC (gd q 0) (sub ((gd p 0).rows.getD k []) 0 2)) 0 (gd p 0).rows.length)]⟩,true))
theorem ixfSF_ok:EntOk Tryz.prog ixfSFE:=e2_ok fun p q h=>evFn_sound (N:=(gd p 0).rows.length+1) (ks:=ixfSFK) (key:=bo) ixfSFT_ok (enters Tryz.func207) Tryz.func207 fun hw=>by
 rw [ixfSF_ev]
 have hl:=wt_sl (hw ⟨sd (.sl 41),p⟩ (by simp))
 have e:=ix_loop (L:=ixfSFL0 ((gd p 0).rows.length+1) p q) (fun k => [gd p 0,gd q 0,.i 0,.i ((gd p 0).rows.length:Int),.i (k:Int)]) (gd p 0).rows.length (fun k=>ixfSFC (gd q 0) (sub ((gd p 0).rows.getD k []) 0 2)) [gd p 0,gd q 0,.i 0,.i ((gd p 0).rows.length:Int),.i ((gd p 0).rows.length:Int)] (fun k hk=>?_) ?_ (gd p 0).rows.length 0 ((gd p 0).rows.length+1) (by omega) (by omega)
 ·simp only [Int.natCast_zero] at e
  rw [e]
  have hno:=ixF_neg (fun k=>ixfSFC (gd q 0) (sub ((gd p 0).rows.getD k []) 0 2)) (gd p 0).rows.length 0
  cases hd:decide (ixF (fun k=>ixfSFC (gd q 0) (sub ((gd p 0).rows.getD k []) 0 2)) 0 (gd p 0).rows.length≥0)
  ·rw [hno hd]; rfl
  ·rfl
 ·show ixfSFL0 _ p q [_,_,_,_,.i (k:Int)]=_
  rw [ixfSFR0]
  simp only [int_i,c_lt hk,nd_ix hk,w64_succ hk hl,Int.toNat_natCast]
  unfold ixfSFC
  cases i_ShardOk_1F (sub ((gd p 0).rows.getD k []) 0 2) [gd ((gd q 0).rows.getD 0 []) 0] <;> rfl
 ·show ixfSFL0 _ p q [_,_,_,.i ((gd p 0).rows.length:Int),.i ((gd p 0).rows.length:Int)]=_
  rw [ixfSFR0]
  simp only [int_i,c_nlt]
abbrev cofSFT:FuncId→List T→Option (T × Bool):=find [ixfSFE,i_ShardOk_1E]
theorem cofSFT_ok:CallOk Tryz.prog cofSFT:=find_ok (fC ⟨ixfSF_ok,fC ⟨i_ShardOk_1_ok,fN⟩⟩)
abbrev cofSFK:List Nat:= [0,1,4]
theorem cofSF_ev (N:Nat) (p q:List D):evFn Tryz.prog cofSFT N cofSFK Tryz.f106 rb [⟨sd (.sl 41),p⟩,⟨.one (.c (.fn 155 [.cptr [si,.sl 41,.sl 41,.sl 108,.sl 93,.sl 75,.sl 3,.sl 3,si] 0])),q⟩]=some (bo,
 ob (leI 0 (ixF (fun k=>ixfSFC (.l [[gd ((gd q 0).rows.getD 0 []) 0]]) (sub ((gd p 0).rows.getD k []) 0 2)) 0 (gd p 0).rows.length))):=by kernel_rfl
def cofSFE:Ent:=(106,e2 (sd (.sl 41)) (.one (.c (.fn 155 [.cptr [si,.sl 41,.sl 41,.sl 108,.sl 93,.sl 75,.sl 3,.sl 3,si] 0]))) fun p q=>(⟨rb,[.b (anyS (fun rr=>ixfSFC (gd q 0) (sub rr 0 2)) (gd p 0))]⟩,true))
theorem cofSF_ok:EntOk Tryz.prog cofSFE:=e2_ok fun p q h=>evFn_sound (N:=0) (ks:=cofSFK) (key:=bo) cofSFT_ok (enters Tryz.func106) Tryz.func106 fun hw=>by
 rw [cofSF_ev]
 refine congrArg (fun x=>some (bo,ob x)) ?_
 exact (ixF_any (fun k=>ixfSFC (gd q 0) (sub ((gd p 0).rows.getD k []) 0 2)) (gd p 0).rows.length 0).trans (by simp only [Nat.zero_add]; rfl)
abbrev ixfSCT:FuncId→List T→Option (T × Bool):=find [i_ShardOk_2E]
theorem ixfSCT_ok:CallOk Tryz.prog ixfSCT:=find_ok (fC ⟨i_ShardOk_2_ok,fN⟩)
abbrev ixfSCK:List Nat:= [0,1,4,5,7,8,9,16]
noncomputable def ixfSCL0 (N:Nat) (p q:List D):List D→Out:=loopOf Tryz.prog ixfSCT N ixfSCK Tryz.f221 ri [⟨sd (.sl 108),p⟩,⟨.one (.c (.fn 156 [.cptr [si,.sl 41,.sl 41,.sl 108,.sl 93,.sl 75,.sl 3,.sl 3,si] 0])),q⟩] 0
theorem ixfSCR0 (N:Nat) (p q:List D) (x0 x1 x2 x3 x4:D):(ixfSCL0 N p q) [x0,x1,x2,x3,x4] =
 bif ltI x4.int x3.int then nd (inRange x4.int x0.rows.length) (bif i_ShardOk_2F (sub (x0.rows.getD x4.int.toNat []) 0 2) [gd (x1.rows.getD 0 []) 0] then some (1,[x4])
 else nx [x0,x1,x2,x3,.i (w64 (x4.int+1))])
 else ex 0 [x0,x1,x2,x3,x4]:=by kernel_rfl
theorem ixfSC_ev (N:Nat) (p q:List D):evFn Tryz.prog ixfSCT N ixfSCK Tryz.f221 ri [⟨sd (.sl 108),p⟩,⟨.one (.c (.fn 156 [.cptr [si,.sl 41,.sl 41,.sl 108,.sl 93,.sl 75,.sl 3,.sl 3,si] 0])),q⟩]=some (bo,
 (let o0:=iter (ixfSCL0 N p q) N [gd p 0,gd q 0,.i 0,.i ((gd p 0).rows.length:Int),.i 0]
  nd o0.isSome (bif o0.code==1 then some (1,o0.pay)
  else nd (o0.code==2) (oi (-1))))):=by kernel_rfl
def ixfSCC (c:D) (r:List D):Bool:=i_ShardOk_2F r [gd (c.rows.getD 0 []) 0]
def ixfSCE:Ent:=(221,e2 (sd (.sl 108)) (.one (.c (.fn 156 [.cptr [si,.sl 41,.sl 41,.sl 108,.sl 93,.sl 75,.sl 3,.sl 3,si] 0]))) fun p q=>(⟨ri,[.i (ixF (fun k=>ixfSCC (gd q 0) (sub ((gd p 0).rows.getD k []) 0 2)) 0 (gd p 0).rows.length)]⟩,true))
theorem ixfSC_ok:EntOk Tryz.prog ixfSCE:=e2_ok fun p q h=>evFn_sound (N:=(gd p 0).rows.length+1) (ks:=ixfSCK) (key:=bo) ixfSCT_ok (enters Tryz.func221) Tryz.func221 fun hw=>by
 rw [ixfSC_ev]
 have hl:=wt_sl (hw ⟨sd (.sl 108),p⟩ (by simp))
 have e:=ix_loop (L:=ixfSCL0 ((gd p 0).rows.length+1) p q) (fun k => [gd p 0,gd q 0,.i 0,.i ((gd p 0).rows.length:Int),.i (k:Int)]) (gd p 0).rows.length (fun k=>ixfSCC (gd q 0) (sub ((gd p 0).rows.getD k []) 0 2)) [gd p 0,gd q 0,.i 0,.i ((gd p 0).rows.length:Int),.i ((gd p 0).rows.length:Int)] (fun k hk=>?_) ?_ (gd p 0).rows.length 0 ((gd p 0).rows.length+1) (by omega) (by omega)
 ·simp only [Int.natCast_zero] at e
  rw [e]
  have hno:=ixF_neg (fun k=>ixfSCC (gd q 0) (sub ((gd p 0).rows.getD k []) 0 2)) (gd p 0).rows.length 0
  cases hd:decide (ixF (fun k=>ixfSCC (gd q 0) (sub ((gd p 0).rows.getD k []) 0 2)) 0 (gd p 0).rows.length≥0)
  ·rw [hno hd]; rfl
  ·rfl
 ·show ixfSCL0 _ p q [_,_,_,_,.i (k:Int)]=_
  rw [ixfSCR0]
  simp only [int_i,c_lt hk,nd_ix hk,w64_succ hk hl,Int.toNat_natCast]
  unfold ixfSCC
  cases i_ShardOk_2F (sub ((gd p 0).rows.getD k []) 0 2) [gd ((gd q 0).rows.getD 0 []) 0] <;> rfl
 ·show ixfSCL0 _ p q [_,_,_,.i ((gd p 0).rows.length:Int),.i ((gd p 0).rows.length:Int)]=_
  rw [ixfSCR0]
  simp only [int_i,c_nlt]
abbrev cofSCT:FuncId→List T→Option (T × Bool):=find [ixfSCE,i_ShardOk_2E]
theorem cofSCT_ok:CallOk Tryz.prog cofSCT:=find_ok (fC ⟨ixfSC_ok,fC ⟨i_ShardOk_2_ok,fN⟩⟩)
abbrev cofSCK:List Nat:= [0,1,4]
theorem cofSC_ev (N:Nat) (p q:List D):evFn Tryz.prog cofSCT N cofSCK Tryz.f128 rb [⟨sd (.sl 108),p⟩,⟨.one (.c (.fn 156 [.cptr [si,.sl 41,.sl 41,.sl 108,.sl 93,.sl 75,.sl 3,.sl 3,si] 0])),q⟩]=some (bo,
 ob (leI 0 (ixF (fun k=>ixfSCC (.l [[gd ((gd q 0).rows.getD 0 []) 0]]) (sub ((gd p 0).rows.getD k []) 0 2)) 0 (gd p 0).rows.length))):=by kernel_rfl
def cofSCE:Ent:=(128,e2 (sd (.sl 108)) (.one (.c (.fn 156 [.cptr [si,.sl 41,.sl 41,.sl 108,.sl 93,.sl 75,.sl 3,.sl 3,si] 0]))) fun p q=>(⟨rb,[.b (anyS (fun rr=>ixfSCC (gd q 0) (sub rr 0 2)) (gd p 0))]⟩,true))
theorem cofSC_ok:EntOk Tryz.prog cofSCE:=e2_ok fun p q h=>evFn_sound (N:=0) (ks:=cofSCK) (key:=bo) cofSCT_ok (enters Tryz.func128) Tryz.func128 fun hw=>by
 rw [cofSC_ev]
 refine congrArg (fun x=>some (bo,ob x)) ?_
 exact (ixF_any (fun k=>ixfSCC (gd q 0) (sub ((gd p 0).rows.getD k []) 0 2)) (gd p 0).rows.length 0).trans (by simp only [Nat.zero_add]; rfl)
abbrev ixfSLT:FuncId→List T→Option (T × Bool):=find [i_ShardOk_3E]
theorem ixfSLT_ok:CallOk Tryz.prog ixfSLT:=find_ok (fC ⟨i_ShardOk_3_ok,fN⟩)
abbrev ixfSLK:List Nat:= [0,1,4,5,7,8,9,16]
noncomputable def ixfSLL0 (N:Nat) (p q:List D):List D→Out:=loopOf Tryz.prog ixfSLT N ixfSLK Tryz.f234 ri [⟨sd (.sl 93),p⟩,⟨.one (.c (.fn 159 [.cptr [si,.sl 41,.sl 41,.sl 108,.sl 93,.sl 75,.sl 3,.sl 3,si] 0,.cptr [.sl 3] 0])),q⟩] 0
theorem ixfSLR0 (N:Nat) (p q:List D) (x0 x1 x2 x3 x4:D):(ixfSLL0 N p q) [x0,x1,x2,x3,x4] =
 bif ltI x4.int x3.int then nd (inRange x4.int x0.rows.length) (bif i_ShardOk_3F (sub (x0.rows.getD x4.int.toNat []) 0 4) [gd (x1.rows.getD 0 []) 0] [gd (x1.rows.getD 0 []).tail 0] then some (1,[x4])
 else nx [x0,x1,x2,x3,.i (w64 (x4.int+1))])
 else ex 0 [x0,x1,x2,x3,x4]:=by kernel_rfl
theorem ixfSL_ev (N:Nat) (p q:List D):evFn Tryz.prog ixfSLT N ixfSLK Tryz.f234 ri [⟨sd (.sl 93),p⟩,⟨.one (.c (.fn 159 [.cptr [si,.sl 41,.sl 41,.sl 108,.sl 93,.sl 75,.sl 3,.sl 3,si] 0,.cptr [.sl 3] 0])),q⟩]=some (bo,
 (let o0:=iter (ixfSLL0 N p q) N [gd p 0,gd q 0,.i 0,.i ((gd p 0).rows.length:Int),.i 0]
  nd o0.isSome (bif o0.code==1 then some (1,o0.pay)
  else nd (o0.code==2) (oi (-1))))):=by kernel_rfl
def ixfSLC (c:D) (r:List D):Bool:=i_ShardOk_3F r [gd (c.rows.getD 0 []) 0] [gd (c.rows.getD 0 []).tail 0]
def ixfSLE:Ent:=(234,e2 (sd (.sl 93)) (.one (.c (.fn 159 [.cptr [si,.sl 41,.sl 41,.sl 108,.sl 93,.sl 75,.sl 3,.sl 3,si] 0,.cptr [.sl 3] 0]))) fun p q=>(⟨ri,[.i (ixF (fun k=>ixfSLC (gd q 0) (sub ((gd p 0).rows.getD k []) 0 4)) 0 (gd p 0).rows.length)]⟩,true))
theorem ixfSL_ok:EntOk Tryz.prog ixfSLE:=e2_ok fun p q h=>evFn_sound (N:=(gd p 0).rows.length+1) (ks:=ixfSLK) (key:=bo) ixfSLT_ok (enters Tryz.func234) Tryz.func234 fun hw=>by
 rw [ixfSL_ev]
 have hl:=wt_sl (hw ⟨sd (.sl 93),p⟩ (by simp))
 have e:=ix_loop (L:=ixfSLL0 ((gd p 0).rows.length+1) p q) (fun k => [gd p 0,gd q 0,.i 0,.i ((gd p 0).rows.length:Int),.i (k:Int)]) (gd p 0).rows.length (fun k=>ixfSLC (gd q 0) (sub ((gd p 0).rows.getD k []) 0 4)) [gd p 0,gd q 0,.i 0,.i ((gd p 0).rows.length:Int),.i ((gd p 0).rows.length:Int)] (fun k hk=>?_) ?_ (gd p 0).rows.length 0 ((gd p 0).rows.length+1) (by omega) (by omega)
 ·simp only [Int.natCast_zero] at e
  rw [e]
  have hno:=ixF_neg (fun k=>ixfSLC (gd q 0) (sub ((gd p 0).rows.getD k []) 0 4)) (gd p 0).rows.length 0
  cases hd:decide (ixF (fun k=>ixfSLC (gd q 0) (sub ((gd p 0).rows.getD k []) 0 4)) 0 (gd p 0).rows.length≥0)
  ·rw [hno hd]; rfl
  ·rfl
 ·show ixfSLL0 _ p q [_,_,_,_,.i (k:Int)]=_
  rw [ixfSLR0]
  simp only [int_i,c_lt hk,nd_ix hk,w64_succ hk hl,Int.toNat_natCast]
  unfold ixfSLC
  cases i_ShardOk_3F (sub ((gd p 0).rows.getD k []) 0 4) [gd ((gd q 0).rows.getD 0 []) 0] [gd ((gd q 0).rows.getD 0 []).tail 0] <;> rfl
 ·show ixfSLL0 _ p q [_,_,_,.i ((gd p 0).rows.length:Int),.i ((gd p 0).rows.length:Int)]=_
  rw [ixfSLR0]
  simp only [int_i,c_nlt]
abbrev cofSLT:FuncId→List T→Option (T × Bool):=find [ixfSLE,i_ShardOk_3E]
theorem cofSLT_ok:CallOk Tryz.prog cofSLT:=find_ok (fC ⟨ixfSL_ok,fC ⟨i_ShardOk_3_ok,fN⟩⟩)
abbrev cofSLK:List Nat:= [0,1,4]
theorem cofSL_ev (N:Nat) (p q:List D):evFn Tryz.prog cofSLT N cofSLK Tryz.f158 rb [⟨sd (.sl 93),p⟩,⟨.one (.c (.fn 159 [.cptr [si,.sl 41,.sl 41,.sl 108,.sl 93,.sl 75,.sl 3,.sl 3,si] 0,.cptr [.sl 3] 0])),q⟩]=some (bo,
 ob (leI 0 (ixF (fun k=>ixfSLC (.l [[gd ((gd q 0).rows.getD 0 []) 0,gd ((gd q 0).rows.getD 0 []).tail 0]]) (sub ((gd p 0).rows.getD k []) 0 4)) 0 (gd p 0).rows.length))):=by kernel_rfl
def cofSLE:Ent:=(158,e2 (sd (.sl 93)) (.one (.c (.fn 159 [.cptr [si,.sl 41,.sl 41,.sl 108,.sl 93,.sl 75,.sl 3,.sl 3,si] 0,.cptr [.sl 3] 0]))) fun p q=>(⟨rb,[.b (anyS (fun rr=>ixfSLC (gd q 0) (sub rr 0 4)) (gd p 0))]⟩,true))
theorem cofSL_ok:EntOk Tryz.prog cofSLE:=e2_ok fun p q h=>evFn_sound (N:=0) (ks:=cofSLK) (key:=bo) cofSLT_ok (enters Tryz.func158) Tryz.func158 fun hw=>by
 rw [cofSL_ev]
 refine congrArg (fun x=>some (bo,ob x)) ?_
 exact (ixF_any (fun k=>ixfSLC (gd q 0) (sub ((gd p 0).rows.getD k []) 0 4)) (gd p 0).rows.length 0).trans (by simp only [Nat.zero_add]; rfl)
end Go.Proofs.YtpdfmcmnjikppaaGreat
namespace Go.Proofs.YtpdfmcmnjikppaaGreat
set_option maxRecDepth 4096
set_option maxHeartbeats 1000000
end Go.Proofs.YtpdfmcmnjikppaaGreat
