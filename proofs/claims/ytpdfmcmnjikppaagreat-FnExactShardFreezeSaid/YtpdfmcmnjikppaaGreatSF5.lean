/-
 Texts of the proof,put together: part 5.
-/
import Derived.Test.YtpdfmcmnjikppaaGreatSF1
import Derived.Test.YtpdfmcmnjikppaaGreatSF2
import Derived.Test.YtpdfmcmnjikppaaGreatSF3
import Derived.Test.YtpdfmcmnjikppaaGreatSF4
import Derived.Test.YtpdfmcmnjikppaaGreatProg
import Derived.WalkKit
import Derived.ProofKit
import Derived.Shelf.RegionOpenPlain
import Derived.Deep.RegionLaw
import Derived.Deep.LoopGhost
import Derived.Lib.SliceRun
import Derived.Lib.AppendZerosOnto
import Derived.Lib.Hide
import Derived.OwnWalk
import Derived.Laws.IdiomCopy
import Derived.Shelf.Spec.SlicesInsert
set_option linter.unusedSimpArgs false
set_option linter.unusedVariables false
set_option linter.unusedSectionVars false
namespace Go.Proofs.YtpdfmcmnjikppaaGreat
set_option maxRecDepth 100000
set_option maxHeartbeats 4000000
open Go.RowKit Go.Lib
def cellsW (k:Nat):List (List D)→List Value
 | [] => []
 | r::rs=>(List.range k).map (fun j=>.int .i64 (gd r j).int)++cellsW k rs
theorem cellsW_len (k:Nat):∀ rows,(cellsW k rows).length=rows.length*k
 | []=>by simp [cellsW]
 | r::rs=>by
  simp only [cellsW,List.length_append,List.length_map,List.length_range,cellsW_len k rs,List.length_cons,Nat.add_mul]
  omega
theorem cellsW_get (k:Nat):∀ (rows:List (List D)) (i j:Nat),i<rows.length→j<k→(cellsW k rows)[i*k+j]?=some (.int .i64 (gd (rows.getD i []) j).int)
 | [],i,j,h,_=>by simp at h
 | r::rs,0,j,_,hj=>by
  rw [cellsW,Nat.zero_mul,Nat.zero_add,List.getElem?_append_left (by simpa using hj)]
  simp [hj]
 | r::rs,i+1,j,h,hj=>by
  have:=cellsW_get k rs i j (by simpa using h) hj
  rw [cellsW,List.getElem?_append_right (by simp only [List.length_map,List.length_range,Nat.add_mul]; omega)]
  simp only [List.length_map,List.length_range]
  rw [show (i+1)*k+j - k=i*k+j from by rw [Nat.add_mul]; omega,this]
  rfl
theorem cellsW_all {k:Nat} {F:Nat→Value→Prop} {rows:List (List D)} (h:∀ i j,i<rows.length→j<k→F (i*k+j) (.int .i64 (gd (rows.getD i []) j).int)) {m:Nat} {v:Value} (hm:(cellsW k rows)[m]?=some v):F m v:=by
 have hlt:=(List.getElem?_eq_some_iff.1 hm).1
 rw [cellsW_len] at hlt
 have hk:0<k:=by
  rcases Nat.eq_zero_or_pos k with e | e
  ·subst e; simp at hlt
  ·exact e
 have hi:m / k<rows.length:=by rw [Nat.div_lt_iff_lt_mul hk]; exact hlt
 have hj:=Nat.mod_lt m hk
 have e:m / k*k+m % k=m:=by rw [Nat.mul_comm]; exact Nat.div_add_mod m k
 have h1:=cellsW_get k rows (m / k) (m % k) hi hj
 have h2:=h (m / k) (m % k) hi hj
 rw [e] at h1 h2
 rw [hm] at h1
 injection h1 with h1
 rw [h1]; exact h2
theorem cellsW_one (k:Nat) (rows:List (List D)):∀ v∈cellsW k rows,v.oneCell'=true:=fun v hv=>by
 obtain ⟨m,hm⟩:=List.getElem?_of_mem hv
 exact cellsW_all (F:=fun _ v=>v.oneCell'=true) (fun i j _ _=>rfl) hm
theorem vd_cellsW {P:Program} {w:World} {prot:Nat→Nat} {x:D} {v:Value} {e:TypeId} {k:Nat} (hrow:rowOf P e=some (List.replicate k (.int .i64))) (hk:0<k) (h:VD P w prot (.sl e) x v):∃ A c,v=.slice A x.rows.length c∧x.rows.length≤c∧c≤9223372036854775807 ∧
  (0<x.rows.length→∃ b o,A=some ⟨b,o,none⟩)∧∀ b o,A=some ⟨b,o,none⟩→∀ m v,(cellsW k x.rows)[m]?=some v→w.cell? ⟨b,o+m,none⟩=some v∧o+m<prot b:=by
 cases h with
 | sl e d A c row u hr h1 h2 h3 h4 =>
  rw [hrow] at hr
  injection hr with hr
  subst hr
  simp only [List.length_replicate] at h3 h4
  refine ⟨A,c,rfl,h1,h2,fun h0=>?_,fun b o hA m v hm=>?_⟩
  ·obtain ⟨b,o,hA,_⟩:=h3 0 0 h0 hk
   exact ⟨b,o,hA⟩
  ·subst hA
   refine cellsW_all (F:=fun m v=>w.cell? ⟨b,o+m,none⟩=some v∧o+m<prot b) (fun i j hi hj=>?_) hm
   obtain ⟨b',o',hA,hc,hp⟩:=h3 i j hi hj
   injection hA with hA
   injection hA with e1 e2 _
   subst e1; subst e2
   have hv:=h4 i j (.int .i64) hi (by simp [hj])
   generalize u i j=z at *
   cases hv
   exact ⟨hc,hp⟩
theorem res_cellsW {P:Program} {prot:Nat→Nat} {w w':World} {x:D} {v:Value} {e:TypeId} {k:Nat} (hrow:rowOf P e=some (List.replicate k (.int .i64))) (hfr:∀ b,w.heap.size≤b→prot b=0) (hb:Below w.heap.size w w') (ho:w'.ownsRow w.heap.size e k v x.rows.length (cellsW k x.rows)) :
  ∃ g',Res P prot w w' ⟨.one (.c (.own (0,0) true e)),[x]⟩ v g':=by
 obtain ⟨hl,⟨rfl,h0⟩ | ⟨blk,cap,cur,rfl,hblk,hh,hcap,hmax,hsz,htk⟩⟩:=ho
 ·exact ⟨g0 0 prot,hb,⟨_,hrow,.inl ⟨List.eq_nil_of_length_eq_zero h0,rfl,none,rfl⟩⟩,fun _ _=>rfl,fun b hb'=>⟨hfr b (Nat.le_trans hb.size hb'),rfl⟩⟩
 ·refine ⟨⟨prot,fun b=>if b=blk then some (.inr (0,0)) else none,fun _=>0,fun _=>blk,fun _=>x.rows.length,fun _=>k,fun _=>e,fun _ => [],fun _=>0,fun _=>False⟩,hb,⟨_,hrow,.inr ⟨cap,cur,e,rfl,hcap,⟨by unfold maxLen at hmax; omega,rfl,rfl⟩,hblk,if_pos rfl,hh,by simpa using hsz,rfl,by simp,?_,?_⟩⟩,fun _ _=>rfl,fun b hb'=>⟨hfr b (Nat.le_trans hb.size hb'),?_⟩⟩
  ·show prot blk=0
   exact hfr blk hblk
  ·intro i j s hi hs
   have hi:i<x.rows.length:=hi
   obtain ⟨hj,rfl⟩:j<k∧S.int .i64=s:=by
    obtain ⟨hj,h2⟩:=List.getElem?_eq_some_iff.1 hs
    exact ⟨by simpa using hj,by simpa using h2⟩
   have q:=cellsW_get k x.rows i j hi hj
   have hlt:i*k+j<x.rows.length*k:=by
    have:=(List.getElem?_eq_some_iff.1 q).1
    rw [cellsW_len] at this
    exact this
   rw [← htk,List.getElem?_take,if_pos hlt] at q
   exact ⟨.int .i64 (gd (x.rows.getD i []) j).int,by simpa using q,.of_vd (.int .i64 _) (.inr rfl)⟩
  ·have:=lt_of_heap hh
   exact if_neg (by omega)
theorem rowW_Range:rowOf Tryz.prog 41=some (List.replicate 2 (.int .i64)):=by kernel_rfl
abbrev zcW_Range:Value:=(.agg #[.int .i64 0,.int .i64 0])
theorem infoW_Range:(Tryz.prog.info? 41).map (fun i=>(i.zero,i.size,i.bytes))=some (some zcW_Range,2,16):=by kernel_rfl
theorem cloneW_Range (a:Addr) (n c:Nat) (news:List Value) (w:World) (hl:news.length=n*2) (hn:n≤2000000) (hc:∀ j u,news[j]?=some u→w.cell? (a.add j)=some u) (h1:∀ u∈news,u.oneCell'=true) :
  Calls Tryz.prog 179 #[.slice (some a) n c] w fun e w'=>∃ v',e=.returned v'∧w'.ownsRow w.heap.size 41 2 v' n news∧Below w.heap.size w w':=by
 obtain ⟨i0,hi0,hz0,hzs,hzb⟩:=info_parts infoW_Range
 have mixed:Tryz.prog.follows .mixedOrders=true:=by kernel_rfl
 have q22:∀ (w:World) (a:Option Addr) (n c n' c':Nat),(binOp .eql 32 (.slice a n c) (.slice none n' c')).run Tryz.prog w=.ok (.bool a.isNone) w:=fun w a n c n' c'=>Lib.run_eql_slice_nil w _ _ a n c n' c' Tryz.underlying32
 have A:Aside (∀ j u,news[j]?=some u→w.cell? (a.add j)=some u):=hc
 clear hc
 go_enter Tryz.func179,Tryz.ntmps179
 go_wp2_with (at_builtin; refine wpList_append_own _ rfl _ _ 32 rfl w.heap.size 41 i0 zcW_Range 2 16 Tryz.underlying32 hi0 hz0 hzs hzb rfl (by decide) _ _ _ rfl (World.ownsRow_made w #[] 0 (Nat.le_refl _) (Nat.zero_le _) (by simp)) a n c news rfl ?qc1 ?qc2 ?qc3 ?qc4 ?qc5 ?qc6 ?_)
 case qc1=>exact hl
 case qc2 =>
  intro j u hj
  exact Lib.cell?_alloc_some _ (A.out j u hj)
 case qc3=>exact h1
 case qc4=>rw [Nat.zero_add]; unfold maxLen; omega
 case qc5=>rw [Nat.zero_add]; omega
 case qc6=>simp
 intro v' w1 hown hgrow hnil
 go_wp2
 go_ret
 refine ⟨v',rfl,by simpa using hown,?_⟩
 exact ((Below.refl _ w).alloc (Nat.le_refl _) _).grown hgrow (by simp) (by intro k hk; simp [Value.ownBlock] at hk; omega)
theorem cloneWn_Range (n c:Nat) (w:World) :
  Calls Tryz.prog 179 #[.slice none n c] w fun e w'=>e=.returned (.slice none 0 0)∧w'=w:=by
 have mixed:Tryz.prog.follows .mixedOrders=true:=by kernel_rfl
 have q22:∀ (w:World) (a:Option Addr) (n c n' c':Nat),(binOp .eql 32 (.slice a n c) (.slice none n' c')).run Tryz.prog w=.ok (.bool a.isNone) w:=fun w a n c n' c'=>Lib.run_eql_slice_nil w _ _ a n c n' c' Tryz.underlying32
 go_enter Tryz.func179,Tryz.ntmps179
 go_wp2
 go_ret
 exact ⟨rfl,rfl⟩
def i_clonRangeE:Ent:=(179,e1 (sd (.sl 41)) fun p=>(⟨.one (.c (.own (0,0) true 41)),[.l (gd p 0).rows]⟩,leI ((gd p 0).rows.length:Int) 2000000))
theorem i_clonRange_ok:EntOk Tryz.prog i_clonRangeE:=e1_ok fun p h=>by
 have h:leI ((gd p 0).rows.length:Int) 2000000=true:=h
 simp only [leI,decide_eq_true_eq] at h
 refine SoundFn.of rfl ⟨enters Tryz.func179 (by kernel_rfl) (by kernel_rfl),fun w prot vs hargs hfr=>?_⟩
 obtain ⟨u,hu,hv⟩:=hargs.2 0 _ rfl
 have hvs:vs = #[u]:=by
  have hs:vs.size=1:=hargs.1
  refine Array.ext (by simpa using hs) fun i h1 h2=>?_
  have:i=0:=by omega
  subst this
  rw [Array.getElem?_eq_getElem h1] at hu
  injection hu
 subst hvs
 have hv:VD Tryz.prog w prot (.sl 41) (gd p 0) u:=hv
 generalize gd p 0=x at *
 obtain ⟨A,c,rfl,h1,h2,h3,h4⟩:=vd_cellsW rowW_Range (by decide) hv
 cases A with
 | none =>
  have h0:x.rows.length=0:=by
   rcases Nat.eq_zero_or_pos x.rows.length with h' | h'
   ·exact h'
   ·obtain ⟨b,o,hA⟩:=h3 h'
    cases hA
  have hx0:x.rows = []:=List.eq_nil_of_length_eq_zero h0
  refine (cloneWn_Range x.rows.length c w).mono ?_
  rintro ex w' ⟨rfl,rfl⟩
  obtain ⟨g',hg⟩:=res_cellsW (x:=x) (prot:=prot) (w:=w') (w':=w') rowW_Range hfr (Below.refl _ _) (v:=.slice none 0 0) ⟨cellsW_len _ _,.inl ⟨rfl,h0⟩⟩
  exact ⟨_,g',rfl,hg.below,hg.val,hg.prot,hg.fresh⟩
 | some ad =>
  refine (cloneW_Range ad x.rows.length c (cellsW 2 x.rows) w (cellsW_len _ _) (by omega) (fun j u hj=>?_) (cellsW_one _ _)).mono ?_
  ·have hpos:0<x.rows.length:=by
    have:=(List.getElem?_eq_some_iff.1 hj).1
    rw [cellsW_len] at this
    omega
   obtain ⟨b,o,hA⟩:=h3 hpos
   injection hA with hA
   subst hA
   rw [Addr.add_lit]
   exact (h4 b o rfl j u hj).1
  ·rintro ex w' ⟨v',rfl,hown,hbel⟩
   obtain ⟨g',hg⟩:=res_cellsW (x:=x) (prot:=prot) rowW_Range hfr hbel hown
   exact ⟨_,g',rfl,hg.below,hg.val,hg.prot,hg.fresh⟩
end Go.Proofs.YtpdfmcmnjikppaaGreat
namespace Go.Proofs.YtpdfmcmnjikppaaGreat
set_option maxRecDepth 100000
set_option maxHeartbeats 4000000
open Go.RowKit Go.Lib
theorem rowW_Lock:rowOf Tryz.prog 93=some (List.replicate 4 (.int .i64)):=by kernel_rfl
abbrev zcW_Lock:Value:=(.agg #[.int .i64 0,.int .i64 0,.int .i64 0,.int .i64 0])
theorem infoW_Lock:(Tryz.prog.info? 93).map (fun i=>(i.zero,i.size,i.bytes))=some (some zcW_Lock,4,32):=by kernel_rfl
theorem cloneW_Lock (a:Addr) (n c:Nat) (news:List Value) (w:World) (hl:news.length=n*4) (hn:n≤2000000) (hc:∀ j u,news[j]?=some u→w.cell? (a.add j)=some u) (h1:∀ u∈news,u.oneCell'=true) :
  Calls Tryz.prog 165 #[.slice (some a) n c] w fun e w'=>∃ v',e=.returned v'∧w'.ownsRow w.heap.size 93 4 v' n news∧Below w.heap.size w w':=by
 obtain ⟨i0,hi0,hz0,hzs,hzb⟩:=info_parts infoW_Lock
 have mixed:Tryz.prog.follows .mixedOrders=true:=by kernel_rfl
 have q22:∀ (w:World) (a:Option Addr) (n c n' c':Nat),(binOp .eql 34 (.slice a n c) (.slice none n' c')).run Tryz.prog w=.ok (.bool a.isNone) w:=fun w a n c n' c'=>Lib.run_eql_slice_nil w _ _ a n c n' c' Tryz.underlying34
 have A:Aside (∀ j u,news[j]?=some u→w.cell? (a.add j)=some u):=hc
 clear hc
 go_enter Tryz.func165,Tryz.ntmps165
 go_wp2_with (at_builtin; refine wpList_append_own _ rfl _ _ 34 rfl w.heap.size 93 i0 zcW_Lock 4 32 Tryz.underlying34 hi0 hz0 hzs hzb rfl (by decide) _ _ _ rfl (World.ownsRow_made w #[] 0 (Nat.le_refl _) (Nat.zero_le _) (by simp)) a n c news rfl ?qc1 ?qc2 ?qc3 ?qc4 ?qc5 ?qc6 ?_)
 case qc1=>exact hl
 case qc2 =>
  intro j u hj
  exact Lib.cell?_alloc_some _ (A.out j u hj)
 case qc3=>exact h1
 case qc4=>rw [Nat.zero_add]; unfold maxLen; omega
 case qc5=>rw [Nat.zero_add]; omega
 case qc6=>simp
 intro v' w1 hown hgrow hnil
 go_wp2
 go_ret
 refine ⟨v',rfl,by simpa using hown,?_⟩
 exact ((Below.refl _ w).alloc (Nat.le_refl _) _).grown hgrow (by simp) (by intro k hk; simp [Value.ownBlock] at hk; omega)
theorem cloneWn_Lock (n c:Nat) (w:World) :
  Calls Tryz.prog 165 #[.slice none n c] w fun e w'=>e=.returned (.slice none 0 0)∧w'=w:=by
 have mixed:Tryz.prog.follows .mixedOrders=true:=by kernel_rfl
 have q22:∀ (w:World) (a:Option Addr) (n c n' c':Nat),(binOp .eql 34 (.slice a n c) (.slice none n' c')).run Tryz.prog w=.ok (.bool a.isNone) w:=fun w a n c n' c'=>Lib.run_eql_slice_nil w _ _ a n c n' c' Tryz.underlying34
 go_enter Tryz.func165,Tryz.ntmps165
 go_wp2
 go_ret
 exact ⟨rfl,rfl⟩
def i_clonLockE:Ent:=(165,e1 (sd (.sl 93)) fun p=>(⟨.one (.c (.own (0,0) true 93)),[.l (gd p 0).rows]⟩,leI ((gd p 0).rows.length:Int) 2000000))
theorem i_clonLock_ok:EntOk Tryz.prog i_clonLockE:=e1_ok fun p h=>by
 have h:leI ((gd p 0).rows.length:Int) 2000000=true:=h
 simp only [leI,decide_eq_true_eq] at h
 refine SoundFn.of rfl ⟨enters Tryz.func165 (by kernel_rfl) (by kernel_rfl),fun w prot vs hargs hfr=>?_⟩
 obtain ⟨u,hu,hv⟩:=hargs.2 0 _ rfl
 have hvs:vs = #[u]:=by
  have hs:vs.size=1:=hargs.1
  refine Array.ext (by simpa using hs) fun i h1 h2=>?_
  have:i=0:=by omega
  subst this
  rw [Array.getElem?_eq_getElem h1] at hu
  injection hu
 subst hvs
 have hv:VD Tryz.prog w prot (.sl 93) (gd p 0) u:=hv
 generalize gd p 0=x at *
 obtain ⟨A,c,rfl,h1,h2,h3,h4⟩:=vd_cellsW rowW_Lock (by decide) hv
 cases A with
 | none =>
  have h0:x.rows.length=0:=by
   rcases Nat.eq_zero_or_pos x.rows.length with h' | h'
   ·exact h'
   ·obtain ⟨b,o,hA⟩:=h3 h'
    cases hA
  have hx0:x.rows = []:=List.eq_nil_of_length_eq_zero h0
  refine (cloneWn_Lock x.rows.length c w).mono ?_
  rintro ex w' ⟨rfl,rfl⟩
  obtain ⟨g',hg⟩:=res_cellsW (x:=x) (prot:=prot) (w:=w') (w':=w') rowW_Lock hfr (Below.refl _ _) (v:=.slice none 0 0) ⟨cellsW_len _ _,.inl ⟨rfl,h0⟩⟩
  exact ⟨_,g',rfl,hg.below,hg.val,hg.prot,hg.fresh⟩
 | some ad =>
  refine (cloneW_Lock ad x.rows.length c (cellsW 4 x.rows) w (cellsW_len _ _) (by omega) (fun j u hj=>?_) (cellsW_one _ _)).mono ?_
  ·have hpos:0<x.rows.length:=by
    have:=(List.getElem?_eq_some_iff.1 hj).1
    rw [cellsW_len] at this
    omega
   obtain ⟨b,o,hA⟩:=h3 hpos
   injection hA with hA
   subst hA
   rw [Addr.add_lit]
   exact (h4 b o rfl j u hj).1
  ·rintro ex w' ⟨v',rfl,hown,hbel⟩
   obtain ⟨g',hg⟩:=res_cellsW (x:=x) (prot:=prot) rowW_Lock hfr hbel hown
   exact ⟨_,g',rfl,hg.below,hg.val,hg.prot,hg.fresh⟩
theorem rowW_Write:rowOf Tryz.prog 70=some (List.replicate 2 (.int .i64)):=by kernel_rfl
abbrev zcW_Write:Value:=(.agg #[.int .i64 0,.int .i64 0])
theorem infoW_Write:(Tryz.prog.info? 70).map (fun i=>(i.zero,i.size,i.bytes))=some (some zcW_Write,2,16):=by kernel_rfl
theorem cloneW_Write (a:Addr) (n c:Nat) (news:List Value) (w:World) (hl:news.length=n*2) (hn:n≤2000000) (hc:∀ j u,news[j]?=some u→w.cell? (a.add j)=some u) (h1:∀ u∈news,u.oneCell'=true) :
  Calls Tryz.prog 119 #[.slice (some a) n c] w fun e w'=>∃ v',e=.returned v'∧w'.ownsRow w.heap.size 70 2 v' n news∧Below w.heap.size w w':=by
 obtain ⟨i0,hi0,hz0,hzs,hzb⟩:=info_parts infoW_Write
 have mixed:Tryz.prog.follows .mixedOrders=true:=by kernel_rfl
 have q22:∀ (w:World) (a:Option Addr) (n c n' c':Nat),(binOp .eql 54 (.slice a n c) (.slice none n' c')).run Tryz.prog w=.ok (.bool a.isNone) w:=fun w a n c n' c'=>Lib.run_eql_slice_nil w _ _ a n c n' c' Tryz.underlying54
 have A:Aside (∀ j u,news[j]?=some u→w.cell? (a.add j)=some u):=hc
 clear hc
 go_enter Tryz.func119,Tryz.ntmps119
 go_wp2_with (at_builtin; refine wpList_append_own _ rfl _ _ 54 rfl w.heap.size 70 i0 zcW_Write 2 16 Tryz.underlying54 hi0 hz0 hzs hzb rfl (by decide) _ _ _ rfl (World.ownsRow_made w #[] 0 (Nat.le_refl _) (Nat.zero_le _) (by simp)) a n c news rfl ?qc1 ?qc2 ?qc3 ?qc4 ?qc5 ?qc6 ?_)
 case qc1=>exact hl
 case qc2 =>
  intro j u hj
  exact Lib.cell?_alloc_some _ (A.out j u hj)
 case qc3=>exact h1
 case qc4=>rw [Nat.zero_add]; unfold maxLen; omega
 case qc5=>rw [Nat.zero_add]; omega
 case qc6=>simp
 intro v' w1 hown hgrow hnil
 go_wp2
 go_ret
 refine ⟨v',rfl,by simpa using hown,?_⟩
 exact ((Below.refl _ w).alloc (Nat.le_refl _) _).grown hgrow (by simp) (by intro k hk; simp [Value.ownBlock] at hk; omega)
theorem cloneWn_Write (n c:Nat) (w:World) :
  Calls Tryz.prog 119 #[.slice none n c] w fun e w'=>e=.returned (.slice none 0 0)∧w'=w:=by
 have mixed:Tryz.prog.follows .mixedOrders=true:=by kernel_rfl
 have q22:∀ (w:World) (a:Option Addr) (n c n' c':Nat),(binOp .eql 54 (.slice a n c) (.slice none n' c')).run Tryz.prog w=.ok (.bool a.isNone) w:=fun w a n c n' c'=>Lib.run_eql_slice_nil w _ _ a n c n' c' Tryz.underlying54
 go_enter Tryz.func119,Tryz.ntmps119
 go_wp2
 go_ret
 exact ⟨rfl,rfl⟩
def i_clonWriteE:Ent:=(119,e1 (sd (.sl 70)) fun p=>(⟨.one (.c (.own (0,0) true 70)),[.l (gd p 0).rows]⟩,leI ((gd p 0).rows.length:Int) 2000000))
theorem i_clonWrite_ok:EntOk Tryz.prog i_clonWriteE:=e1_ok fun p h=>by
 have h:leI ((gd p 0).rows.length:Int) 2000000=true:=h
 simp only [leI,decide_eq_true_eq] at h
 refine SoundFn.of rfl ⟨enters Tryz.func119 (by kernel_rfl) (by kernel_rfl),fun w prot vs hargs hfr=>?_⟩
 obtain ⟨u,hu,hv⟩:=hargs.2 0 _ rfl
 have hvs:vs = #[u]:=by
  have hs:vs.size=1:=hargs.1
  refine Array.ext (by simpa using hs) fun i h1 h2=>?_
  have:i=0:=by omega
  subst this
  rw [Array.getElem?_eq_getElem h1] at hu
  injection hu
 subst hvs
 have hv:VD Tryz.prog w prot (.sl 70) (gd p 0) u:=hv
 generalize gd p 0=x at *
 obtain ⟨A,c,rfl,h1,h2,h3,h4⟩:=vd_cellsW rowW_Write (by decide) hv
 cases A with
 | none =>
  have h0:x.rows.length=0:=by
   rcases Nat.eq_zero_or_pos x.rows.length with h' | h'
   ·exact h'
   ·obtain ⟨b,o,hA⟩:=h3 h'
    cases hA
  have hx0:x.rows = []:=List.eq_nil_of_length_eq_zero h0
  refine (cloneWn_Write x.rows.length c w).mono ?_
  rintro ex w' ⟨rfl,rfl⟩
  obtain ⟨g',hg⟩:=res_cellsW (x:=x) (prot:=prot) (w:=w') (w':=w') rowW_Write hfr (Below.refl _ _) (v:=.slice none 0 0) ⟨cellsW_len _ _,.inl ⟨rfl,h0⟩⟩
  exact ⟨_,g',rfl,hg.below,hg.val,hg.prot,hg.fresh⟩
 | some ad =>
  refine (cloneW_Write ad x.rows.length c (cellsW 2 x.rows) w (cellsW_len _ _) (by omega) (fun j u hj=>?_) (cellsW_one _ _)).mono ?_
  ·have hpos:0<x.rows.length:=by
    have:=(List.getElem?_eq_some_iff.1 hj).1
    rw [cellsW_len] at this
    omega
   obtain ⟨b,o,hA⟩:=h3 hpos
   injection hA with hA
   subst hA
   rw [Addr.add_lit]
   exact (h4 b o rfl j u hj).1
  ·rintro ex w' ⟨v',rfl,hown,hbel⟩
   obtain ⟨g',hg⟩:=res_cellsW (x:=x) (prot:=prot) rowW_Write hfr hbel hown
   exact ⟨_,g',rfl,hg.below,hg.val,hg.prot,hg.fresh⟩
end Go.Proofs.YtpdfmcmnjikppaaGreat
namespace Go.Proofs.YtpdfmcmnjikppaaGreat
set_option maxRecDepth 4096
set_option maxHeartbeats 1000000
structure SortedW (z:D):Prop where
 len:z.rows.length≤1000
 key:∀ k,k<z.rows.length→0≤keyAt z k∧keyAt z k≤999
 lt:∀ i j,i<j→j<z.rows.length→keyAt z i<keyAt z j
theorem halfW {i j:Nat} (h:i+j≤100000):w64 ((IntKind.u64.wrap (w64 ((i:Int)+(j:Int)))).fdiv (2 ^ (min 1 64)))=(((i+j) / 2:Nat):Int):=by
 rw [w64_id (x:=(i:Int)+j) (by omega) (by omega),u64_id (by omega) (by omega),show ((2:Int) ^ (min 1 64))=((2:Nat):Int) from rfl,show ((i:Int)+(j:Int))=((i+j:Nat):Int) from by omega,← Int.ofNat_fdiv,w64_id (by omega) (by omega)]
end Go.Proofs.YtpdfmcmnjikppaaGreat
namespace Go.Proofs.YtpdfmcmnjikppaaGreat.H
open Go.RowKit Go.Lib
set_option maxRecDepth 100000
set_option maxHeartbeats 4000000
theorem run_copy2 {P:Program} (w:World) (dT sT ty elem k:TypeId) (b o n dLen dCap:Nat) (a:Addr) (sLen sCap:Nat) (cs:List Value)
  (hu:P.underlying dT=some (.slice elem)) (hs:(P.info? elem).map (·.size)=some k) (hn:n=Nat.min sLen dLen) (hl:cs.length=n*k)
  (hsrc:∀ j v,cs[j]?=some v→w.cell? (a.add j)=some v) (hc:∀ j,j<cs.length→(w.cell? ⟨b,o+j,none⟩).isSome=true) (hf:∀ j,j<cs.length→w.frozen? ⟨b,o+j,none⟩=false) (h1:∀ v∈cs,v.oneCell'=true) :
  (Builtin.copy_ #[dT,sT] ty #[.slice (some ⟨b,o,none⟩) dLen dCap,.slice (some a) sLen sCap]).run P w=.ok (goInt n) (w.setCells b o cs):=by
 have hld:=run_loadCells_list (P:=P) w a cs hsrc
 have hst:=run_storeCells_cells (P:=P) b o cs 0 w (by simpa using hc) (by simpa using hf) h1
 cases hq:P.info? elem with
 | none=>simp [hq] at hs
 | some i =>
  have hi:i.size=k:=by simpa [hq] using hs
  rw [hl] at hld
  simp [Builtin.copy_,run_underlying hu,Builtin.lenOf,Builtin.firstCells,sizeOf,typeInfo,hq,hi,← hn,hld,hst]
theorem isSome_set (b:Nat) (vs:List Value) (o:Nat) (w:World) (h:∀ j,j<vs.length→(w.cell? ⟨b,o+j,none⟩).isSome=true) (k:Nat) (hk:(w.cell? ⟨b,k,none⟩).isSome=true):((w.setCells b o vs).cell? ⟨b,k,none⟩).isSome=true:=by
 by_cases hin:o≤k∧k<o+vs.length
 ·obtain ⟨j,rfl⟩:∃ j,k=o+j:=⟨k - o,by omega⟩
  rw [World.cell?_setCells_in b vs o w h j (by omega)]; rfl
 ·rw [World.cell?_setCells_out b _ _ _ _ (fun _ _=>by show k<o∨_≤k; omega)]
  exact hk
abbrev zc:Value:=.agg #[.int .i64 0,.int .i64 0]
theorem info_cell:(Tryz.prog.info? 108).map (fun i=>(i.zero,i.size,i.bytes))=some (some zc,2,16):=by kernel_rfl
theorem ins_shift (b off n c i k vb voff vc:Nat) (cs vs:List Value) (w:World) (hk:k=i+1) (hi:i<n) (hroom:n+1≤c) (hc63:c≤9223372036854775807) (hvb:vb≠b)
  (hcl:cs.length=n*2) (hvl:vs.length=2)
  (hcs:∀ j v,cs[j]?=some v→w.cell? ⟨b,off+j,none⟩=some v) (hsp:∀ j,j<(n+1)*2→(w.cell? ⟨b,off+j,none⟩).isSome=true) (hfz:∀ j,j<(n+1)*2→w.frozen? ⟨b,off+j,none⟩=false)
  (hvs:∀ j v,vs[j]?=some v→w.cell? ⟨vb,voff+j,none⟩=some v) (h1c:∀ v∈cs,v.oneCell'=true) (h1v:∀ v∈vs,v.oneCell'=true)
  (tA tB:TypeId) (kA kB:Nat) (hsa:w.shape? vb=some (tA,kA)) (hsb:w.shape? b=some (tB,kB)) (hkB:kB≠0) (hfa:w.frozen? ⟨vb,voff,none⟩=false) (hfe:w.frozen? ⟨vb,kA,none⟩=false) :
  Calls Tryz.prog 286 #[.slice (some ⟨b,off,none⟩) n c,.int .i64 i,.slice (some ⟨vb,voff,none⟩) 1 vc] w fun e w' =>
   e=.returned (.slice (some ⟨b,off,none⟩) (n+1) c)∧w'=(w.drew.setCells b (off+k*2) (cs.drop (i*2))).setCells b (off+i*2) vs:=by
 obtain ⟨i0,hi0,hz0,hzs,hzb⟩:=info_parts info_cell
 have mixed:Tryz.prog.follows .mixedOrders=true:=by kernel_rfl
 have hz2:¬ ((i:Int)=(n:Int)):=by omega
 have hsz:(Tryz.prog.info? 108).map (·.size)=some 2:=by rw [hi0]; simp [hzs]
 have u41:=Tryz.underlying33
 have hov:∀ lb cb,(callFunc 296 #[.slice (some ⟨vb,voff,none⟩) 1 vc,.slice (some ⟨b,off+k*2,none⟩) lb cb]).run Tryz.prog w=.ok (.value (.bool false)) w:=fun lb cb=>by
  rw [run_callFunc_extern Tryz.func296 (by kernel_rfl) (by kernel_rfl) (by kernel_rfl) (e:=Extern.SlicesOverlaps.overlaps #[33,33] #[4]) (by kernel_rfl),
   Lib.run_overlaps_apart w 33 4 108 u41 2 Tryz.sizeOf108 ⟨vb,voff,none⟩ ⟨b,off+k*2,none⟩ 1 vc lb cb hvb tA tB kA kB hsa hsb hkB hfa hfe]
  rfl
 have hdl:(cs.drop (i*2)).length=(n - i)*2:=by rw [List.length_drop,hcl,Nat.sub_mul]
 have hcp1:∀ ty dc sc,(Builtin.copy_ #[33,33] ty #[.slice (some ⟨b,off+k*2,none⟩) (n+1 - k) dc,.slice (some ⟨b,off+i*2,none⟩) (n+1 - i) sc]).run Tryz.prog w.drew=.ok (goInt ((n - i:Nat):Int)) (w.drew.setCells b (off+k*2) (cs.drop (i*2))):=fun ty dc sc =>
  run_copy2 w.drew _ _ ty 108 2 b (off+k*2) (n - i) (n+1 - k) dc ⟨b,off+i*2,none⟩ (n+1 - i) sc (cs.drop (i*2)) u41 hsz (by simp only [Nat.min_def]; split <;> omega) hdl
   (fun j v hj=>by rw [Addr.add_lit,Nat.add_assoc]; exact hcs (i*2+j) v (by rwa [List.getElem?_drop] at hj))
   (fun j hj=>by rw [hdl] at hj; rw [Nat.add_assoc]; exact hsp _ (by omega)) (fun j hj=>by rw [hdl] at hj; rw [Nat.add_assoc]; exact hfz _ (by omega)) (fun v hv=>h1c v (List.mem_of_mem_drop hv))
 obtain ⟨W1,hW1⟩:∃ W1,W1=w.drew.setCells b (off+k*2) (cs.drop (i*2)):=⟨_,rfl⟩
 have hsp1:∀ t,t<(n+1)*2→(W1.cell? ⟨b,off+t,none⟩).isSome=true:=fun t ht=>by
  rw [hW1]
  exact isSome_set b _ _ _ (fun j hj=>by rw [hdl] at hj; rw [Nat.add_assoc]; exact hsp _ (by omega)) _ (hsp t ht)
 have hcp2:∀ (W:World),(∀ x,W.cell? x=W1.cell? x)→(∀ x,W.frozen? x=W1.frozen? x)→∀ ty dc,(Builtin.copy_ #[33,33] ty #[.slice (some ⟨b,off+i*2,none⟩) (n+1 - i) dc,.slice (some ⟨vb,voff,none⟩) 1 vc]).run Tryz.prog W=.ok (goInt 1) (W.setCells b (off+i*2) vs):=fun W hWc hWf ty dc =>
  run_copy2 W _ _ ty 108 2 b (off+i*2) 1 (n+1 - i) dc ⟨vb,voff,none⟩ 1 vc vs u41 hsz (by simp only [Nat.min_def]; split <;> omega) (by rw [hvl])
   (fun j v hj=>by
    rw [Addr.add_lit,hWc,hW1,World.cell?_setCells_out b _ _ _ _ (fun h _=>absurd h hvb)]
    exact hvs j v hj)
   (fun j hj=>by rw [hvl] at hj; rw [hWc,Nat.add_assoc]; exact hsp1 _ (by omega)) (fun j hj=>by rw [hvl] at hj; rw [hWf,hW1,World.frozen?_setCells,Nat.add_assoc]; exact hfz _ (by omega)) h1v
 have hE:Hid (W1=w.drew.setCells b (off+k*2) (cs.drop (i*2))):=hW1
 rw [← hW1] at hcp1
 have hw1:IntKind.i64.wrap ((n:Int)+1)=((n+1:Nat):Int):=by rw [IntKind.wrap_i64]; omega
 have hw2:IntKind.i64.wrap ((i:Int)+1)=(k:Int):=by rw [IntKind.wrap_i64]; omega
 have hnc:¬ ((n:Int)+1 > (c:Int)):=by omega
 have hb2:¬ (c=k):=by omega
 have hb4:¬ (c=i):=by omega
 have hin:i≤n:=by omega
 have hkn:(k:Int)≤(n:Int)+1:=by omega
 have hin2:(i:Int)≤(n:Int)+1:=by omega
 have hin1:i≤n+1:=by omega
 clear hsp hfz hcs hvs hsp1 hW1 hsa hsb hfa hfe hk hdl
 go_enter Tryz.func286,Tryz.ntmps286
 go_wp2_with (simp only [hov])
 go_region_law_o (refine step_copy_runI rfl _ _ 33 33 rfl _ _ (by simp [Act.eval,Act.put]) (by simp [Act.eval,Act.put]) (hcp1 _ _ _) ?_)
 go_wp2_with (at_builtin; refine wpList_copy_runI _ rfl _ _ 33 33 rfl _ _ rfl rfl (hcp2 _ (fun _=>rfl) (fun _=>rfl) _ _) ?_)
 go_ret
 exact ⟨rfl,by rw [hE.out]⟩
theorem ins_end (base:Option Addr) (n c vb voff vc:Nat) (w w1:World) (v':Value) (hnc:n≤c) (hc63:c≤9223372036854775807) (hb:base=none→c=0) (hr:∀ ty,(Builtin.append_ #[33,33] ty #[.slice base n c,.slice (some ⟨vb,voff,none⟩) 1 vc]).run Tryz.prog w=.ok v' w1) :
  Calls Tryz.prog 286 #[.slice base n c,.int .i64 n,.slice (some ⟨vb,voff,none⟩) 1 vc] w fun e w'=>e=.returned v'∧w'=w1:=by
 have mixed:Tryz.prog.follows .mixedOrders=true:=by kernel_rfl
 cases base with
 | none =>
  have h0:=hb rfl
  subst h0
  obtain rfl:n=0:=by omega
  go_enter Tryz.func286,Tryz.ntmps286
  go_wp2_with (at_builtin; refine Lib.wpList_append_run _ rfl _ _ _ _ rfl _ _ rfl rfl _ _ (hr _) ?_)
  all_goals (go_ret; exact ⟨rfl,rfl⟩)
 | some a =>
  obtain ⟨ab,ao,asp⟩:=a
  go_enter Tryz.func286,Tryz.ntmps286
  go_wp2_with (at_builtin; refine Lib.wpList_append_run _ rfl _ _ _ _ rfl _ _ rfl rfl _ _ (hr _) ?_)
  all_goals (go_ret; exact ⟨rfl,rfl⟩)
theorem ins_grow (b off n i k vb voff vc:Nat) (cs vs:List Value) (w:World) (hk:k=i+1) (hi:i<n) (hbig:(n+1)*16≤140737488355328)
  (hcl:cs.length=n*2) (hvl:vs.length=2)
  (hcs:∀ j v,cs[j]?=some v→w.cell? ⟨b,off+j,none⟩=some v)
  (hvs:∀ j v,vs[j]?=some v→w.cell? ⟨vb,voff+j,none⟩=some v) (h1c:∀ v∈cs,v.oneCell'=true) (h1v:∀ v∈vs,v.oneCell'=true) :
  Calls Tryz.prog 286 #[.slice (some ⟨b,off,none⟩) n n,.int .i64 i,.slice (some ⟨vb,voff,none⟩) 1 vc] w fun e w' =>
   e=.returned (.slice (some ⟨w.heap.size,0,none⟩) (n+1) (grownCap w (n+1) n 108)) ∧
   w'=(((w.alloc (.cells ((cs.take (i*2)).toArray++Builtin.zeroCells zc.cells (n+1 - i)++Builtin.zeroCells zc.cells (grownCap w (n+1) n 108 - (n+1))) 108)).drew.setCells w.heap.size (i*2) vs).drew).setCells w.heap.size (k*2) (cs.drop (i*2)):=by
 obtain ⟨i0,hi0,hz0,hzs,hzb⟩:=info_parts info_cell
 have mixed:Tryz.prog.follows .mixedOrders=true:=by kernel_rfl
 have u41:=Tryz.underlying33
 have u3:=Tryz.underlying3
 have hz2:¬ ((i:Int)=(n:Int)):=by omega
 have hsz:(Tryz.prog.info? 108).map (·.size)=some 2:=by rw [hi0]; simp [hzs]
 have hbw:b<w.heap.size:=block_lt_of_cell (hcs 0 _ (List.getElem?_eq_getElem (by omega)))
 have hvw:vb<w.heap.size:=block_lt_of_cell (hvs 0 _ (List.getElem?_eq_getElem (by omega)))
 have hik:i+(n+1 - i)=n+1:=by omega
 have hold:(Builtin.firstCells i0.size i (.slice (some ⟨b,off,none⟩) i n)).run Tryz.prog w.drew=.ok (cs.take (i*2)).toArray w.drew:=by
  rw [hzs]
  exact run_firstCells_some w.drew 2 i ⟨b,off,none⟩ i n (cs.take (i*2)) (by rw [List.length_take]; omega) (fun j v hj=>by
   rw [Addr.add_lit]
   rw [List.getElem?_take] at hj
   split at hj
   ·exact hcs j v hj
   ·cases hj)
 have hkk:IntKind.i64.wrap (((n+1:Nat):Int) - (i:Int))=((n+1 - i:Nat):Int):=by rw [IntKind.wrap_i64]; omega
 have hrz:∀ ty,(Builtin.append_ #[33,3] ty #[.slice (some ⟨b,off,none⟩) i n,.int .i64 ((n+1 - i:Nat):Int)]).run Tryz.prog w =
   .ok (.slice (some ⟨w.heap.size,0,none⟩) (n+1) (grownCap w (n+1) n 108)) (w.drew.alloc (.cells ((cs.take (i*2)).toArray++Builtin.zeroCells zc.cells (n+1 - i)++Builtin.zeroCells zc.cells (grownCap w (n+1) n 108 - (n+1))) 108)):=fun ty=>by
  have h:=Lib.run_append_grow_zeros w 33 3 ty 108 i0 zc .i64 .i64 u41 u3 hi0 hz0 (some ⟨b,off,none⟩) i n (cs.take (i*2)) hold (n+1 - i) (by omega) (by omega) (by omega) (by omega) (by rw [hzb]; omega) (by rw [hzb,hik]; exact growslice_fits (by omega) hbig)
  rw [hik] at h
  exact h
 obtain ⟨G,hG⟩:∃ G,G=grownCap w (n+1) n 108:=⟨_,rfl⟩
 obtain ⟨ROW,hROW⟩:∃ ROW:Array Value,ROW=(cs.take (i*2)).toArray++Builtin.zeroCells zc.cells (n+1 - i)++Builtin.zeroCells zc.cells (G - (n+1)):=⟨_,rfl⟩
 rw [← hG] at hrz ⊢
 rw [← hROW] at hrz ⊢
 have hRl:(n+1)*2≤ROW.size:=by
  rw [hROW]
  simp [Builtin.zeroCells,Value.cells,hcl]
  omega
 obtain ⟨W1,hW1⟩:∃ W1,W1=w.drew.alloc (.cells ROW 108):=⟨_,rfl⟩
 rw [← hW1] at hrz
 have hN:∀ j,j<(n+1)*2→(W1.cell? ⟨w.heap.size,j,none⟩).isSome=true:=fun j hj=>by
  rw [hW1,World.cell?_alloc_at (w:=w.drew) ROW _ w.heap.size j rfl,Array.getElem?_eq_getElem (by omega)]; rfl
 have hNf:∀ j,W1.frozen? ⟨w.heap.size,j,none⟩=false:=fun j=>by rw [hW1]; exact World.frozen?_alloc_at (w:=w.drew) ROW _ w.heap.size j rfl
 have hOb:∀ j v,w.cell? ⟨b,j,none⟩=some v→W1.cell? ⟨b,j,none⟩=some v:=fun j v h=>by rw [hW1,World.cell?_alloc_past (w:=w.drew) _ b j hbw]; exact h
 have hOv:∀ j v,w.cell? ⟨vb,j,none⟩=some v→W1.cell? ⟨vb,j,none⟩=some v:=fun j v h=>by rw [hW1,World.cell?_alloc_past (w:=w.drew) _ vb j hvw]; exact h
 have hcpA:∀ (W:World),(∀ x,W.cell? x=W1.cell? x)→(∀ x,W.frozen? x=W1.frozen? x)→∀ ty dc,(Builtin.copy_ #[33,33] ty #[.slice (some ⟨w.heap.size,i*2,none⟩) (n+1 - i) dc,.slice (some ⟨vb,voff,none⟩) 1 vc]).run Tryz.prog W=.ok (goInt 1) (W.setCells w.heap.size (i*2) vs):=fun W hWc hWf ty dc =>
  run_copy2 W _ _ ty 108 2 w.heap.size (i*2) 1 (n+1 - i) dc ⟨vb,voff,none⟩ 1 vc vs u41 hsz (by simp only [Nat.min_def]; split <;> omega) (by rw [hvl])
   (fun j v hj=>by rw [Addr.add_lit,hWc]; exact hOv _ v (hvs j v hj))
   (fun j hj=>by rw [hvl] at hj; rw [hWc]; exact hN _ (by omega)) (fun j hj=>by rw [hWf]; exact hNf _) h1v
 have hGn:n+1≤G:=by rw [hG]; exact grownCap_ge w _ _ _
 have hG63:G≤9223372036854775807:=by
  have:=grownCap_le_maxLen w (n+1) n 108 (by unfold maxLen; omega)
  rw [← hG] at this
  unfold maxLen at this
  omega
 have hbN:b≠w.heap.size:=by omega
 have hdl:(cs.drop (i*2)).length=(n - i)*2:=by rw [List.length_drop,hcl,Nat.sub_mul]
 have hcpB:∀ (W:World),(∀ x,W.cell? x=(W1.setCells w.heap.size (i*2) vs).cell? x)→(∀ x,W.frozen? x=(W1.setCells w.heap.size (i*2) vs).frozen? x)→∀ ty dc sc,(Builtin.copy_ #[33,33] ty #[.slice (some ⟨w.heap.size,k*2,none⟩) (n+1 - k) dc,.slice (some ⟨b,off+i*2,none⟩) (n - i) sc]).run Tryz.prog W=.ok (goInt ((n - i:Nat):Int)) (W.setCells w.heap.size (k*2) (cs.drop (i*2))):=fun W hWc hWf ty dc sc =>
  run_copy2 W _ _ ty 108 2 w.heap.size (k*2) (n - i) (n+1 - k) dc ⟨b,off+i*2,none⟩ (n - i) sc (cs.drop (i*2)) u41 hsz (by simp only [Nat.min_def]; split <;> omega) hdl
   (fun j v hj=>by
    rw [Addr.add_lit,hWc,World.cell?_setCells_out _ _ _ _ _ (fun h _=>absurd h hbN),Nat.add_assoc]
    exact hOb _ v (hcs (i*2+j) v (by rwa [List.getElem?_drop] at hj)))
   (fun j hj=>by rw [hdl] at hj; rw [hWc]; exact isSome_set _ _ _ _ (fun t ht=>by rw [hvl] at ht; exact hN _ (by omega)) _ (hN _ (by omega)))
   (fun j hj=>by rw [hWf,World.frozen?_setCells]; exact hNf _) (fun v hv=>h1c v (List.mem_of_mem_drop hv))
 subst hW1
 have hE1:∀ x,((w.alloc (.cells ROW 108)).drew).cell? x=(w.drew.alloc (.cells ROW 108)).cell? x:=fun x=>rfl
 have hE2:∀ x,((w.alloc (.cells ROW 108)).drew).frozen? x=(w.drew.alloc (.cells ROW 108)).frozen? x:=fun x=>rfl
 have hF1:∀ x,(((w.alloc (.cells ROW 108)).drew.setCells w.heap.size (i*2) vs).drew).cell? x=((w.drew.alloc (.cells ROW 108)).setCells w.heap.size (i*2) vs).cell? x:=fun x=>rfl
 have hF2:∀ x,(((w.alloc (.cells ROW 108)).drew.setCells w.heap.size (i*2) vs).drew).frozen? x=((w.drew.alloc (.cells ROW 108)).setCells w.heap.size (i*2) vs).frozen? x:=fun x=>rfl
 have hw1:IntKind.i64.wrap ((n:Int)+1)=((n+1:Nat):Int):=by rw [IntKind.wrap_i64]; omega
 have hw2:IntKind.i64.wrap ((i:Int)+1)=(k:Int):=by rw [IntKind.wrap_i64]; omega
 have hw3:IntKind.i64.wrap ((n:Int)+1 - (i:Int))=((n+1 - i:Nat):Int):=by rw [IntKind.wrap_i64]; omega
 have hw4:(n:Int)+1 - (i:Int)=((n+1 - i:Nat):Int):=by omega
 have hgt:(n:Int)+1 > (n:Int):=by omega
 have hci:¬ (n=i):=by omega
 have hGi:¬ (G=i):=by omega
 have hGk:¬ (G=k):=by omega
 have hin:i≤n:=by omega
 have hinZ:(i:Int)≤(n:Int):=by omega
 have hknZ:(k:Int)≤(n:Int)+1:=by omega
 have hinZ1:(i:Int)≤(n:Int)+1:=by omega
 clear hold hROW hG hRl hik hk
 go_enter Tryz.func286,Tryz.ntmps286
 go_wp2_with (first
  | (at_builtin; refine Lib.wpList_append_run _ rfl _ _ _ _ rfl _ _ rfl rfl _ _ (hrz _) ?_)
  | (at_builtin; refine wpList_copy_runI _ rfl _ _ 33 33 rfl _ _ rfl rfl (hcpA _ hE1 hE2 _ _) ?_))
 go_region_law_o (refine step_copy_runI rfl _ _ 33 33 rfl (.slice (some ⟨w.heap.size,k*2,none⟩) (n+1 - k) (G - k)) (.slice (some ⟨b,off+i*2,none⟩) (n - i) (n - i)) (by simp [Act.eval,Act.put]) (by simp [Act.eval,Act.put]) (hcpB _ hF1 hF2 3 (G - k) (n - i)) ?_)
 go_wp2
 go_ret
 exact ⟨rfl,rfl⟩
end Go.Proofs.YtpdfmcmnjikppaaGreat.H
namespace Go.Proofs.YtpdfmcmnjikppaaGreat
set_option maxRecDepth 100000
set_option maxHeartbeats 4000000
open Go.RowKit Go.Lib
theorem setCells_heap (b:Nat) (e:TypeId) (fz:Nat × Nat):∀ (vs:List Value) (o:Nat) (w:World) (arr:Array Value),w.heap[b]?=some (.cells arr e fz)→o+vs.length≤arr.size →
  ∃ arr':Array Value,(w.setCells b o vs).heap[b]?=some (.cells arr' e fz)∧arr'.size=arr.size∧(∀ k,k<o∨o+vs.length≤k→arr'[k]?=arr[k]?)∧(∀ j v,vs[j]?=some v→arr'[o+j]?=some v)
 | [],o,w,arr,h,_=>⟨arr,h,rfl,fun _ _=>rfl,fun j v hj=>by simp at hj⟩
 | v::r,o,w,arr,h,hl=>by
  have hl':o+(r.length+1)≤arr.size:=hl
  have h1:(w.setCell ⟨b,o,none⟩ v).heap[b]?=some (.cells (arr.setIfInBounds o v) e fz):=by
   simp [World.setCell,Array.getElem?_modify,h]
  obtain ⟨arr',k1,k2,k3,k4⟩:=setCells_heap b e fz r (o+1) _ _ h1 (by simp; omega)
  refine ⟨arr',k1,by rw [k2]; simp,fun k hk=>?_,fun j u hj=>?_⟩
  ·have hk:k<o∨o+(r.length+1)≤k:=hk
   rw [k3 k (by omega),Array.getElem?_setIfInBounds,if_neg (by omega)]
  ·cases j with
   | zero =>
    simp only [List.getElem?_cons_zero,Option.some.injEq] at hj
    subst hj
    rw [Nat.add_zero,k3 o (.inl (by omega)),Array.getElem?_setIfInBounds,if_pos rfl,if_pos (by omega)]
   | succ j =>
    have:=k4 j u (by simpa using hj)
    rwa [show o+(j+1)=o+1+j from by omega]
theorem setCells_else (b:Nat):∀ (vs:List Value) (o:Nat) (w:World),(w.setCells b o vs).os=w.os∧(w.setCells b o vs).tape=w.tape∧(w.setCells b o vs).output=w.output∧(w.setCells b o vs).heap.size=w.heap.size∧∀ k,k≠b→(w.setCells b o vs).heap[k]?=w.heap[k]?
 | [],o,w=>⟨rfl,rfl,rfl,rfl,fun _ _=>rfl⟩
 | v::r,o,w=>by
  obtain ⟨h1,h2,h3,h4,h5⟩:=setCells_else b r (o+1) (w.setCell ⟨b,o,none⟩ v)
  refine ⟨h1,h2,h3,h4.trans (by simp [World.setCell]),fun k hk=>(h5 k hk).trans ?_⟩
  simp only [World.setCell,Array.getElem?_modify]
  rw [if_neg (by simpa using Ne.symm hk)]
abbrev cellRow:List S:= [.int .i64,.int .i64]
theorem row_cell:rowOf Tryz.prog 108=some cellRow:=by kernel_rfl
def cellsV (rows:List (List D)):List Value:=rows.flatMap fun r => [.int .i64 (gd r 0).int,.int .i64 (gd r 1).int]
theorem cellsV_len:∀ rows,(cellsV rows).length=rows.length*2
 | []=>rfl
 | r::rs=>by
  have:=cellsV_len rs
  simp only [cellsV,List.flatMap_cons,List.length_append,List.length_cons,List.length_nil] at *
  omega
theorem cellsV_cons (r:List D) (rs:List (List D)):cellsV (r::rs)=.int .i64 (gd r 0).int::.int .i64 (gd r 1).int::cellsV rs:=rfl
theorem cellsV_get:∀ (rows:List (List D)) (i:Nat),i<rows.length→(cellsV rows)[i*2]?=some (.int .i64 (gd (rows.getD i []) 0).int)∧(cellsV rows)[i*2+1]?=some (.int .i64 (gd (rows.getD i []) 1).int)
 | [],i,h=>by simp at h
 | r::rs,0,_=>⟨rfl,rfl⟩
 | r::rs,i+1,h=>by
  have:=cellsV_get rs i (by simpa using h)
  rw [cellsV_cons,show (i+1)*2=i*2+1+1 from by omega]
  exact this
theorem cellsV_all {F:Nat→Value→Prop} {rows:List (List D)} (h:∀ i,i<rows.length→F (i*2) (.int .i64 (gd (rows.getD i []) 0).int)∧F (i*2+1) (.int .i64 (gd (rows.getD i []) 1).int)) {k:Nat} {v:Value} (hk:(cellsV rows)[k]?=some v):F k v:=by
 have hlt:=(List.getElem?_eq_some_iff.1 hk).1
 rw [cellsV_len] at hlt
 have hi:k / 2<rows.length:=by omega
 obtain ⟨h1,h2⟩:=cellsV_get rows (k / 2) hi
 obtain ⟨q1,q2⟩:=h (k / 2) hi
 rcases Nat.mod_two_eq_zero_or_one k with hm | hm
 ·have e:k / 2*2=k:=by omega
  rw [e] at h1 q1
  rw [hk] at h1; injection h1 with h1; rw [h1]; exact q1
 ·have e:k / 2*2+1=k:=by omega
  rw [e] at h2 q2
  rw [hk] at h2; injection h2 with h2; rw [h2]; exact q2
theorem cellsV_one (rows:List (List D)):∀ v∈cellsV rows,v.oneCell'=true:=fun v hv=>by
 obtain ⟨k,hk⟩:=List.getElem?_of_mem hv
 exact cellsV_all (F:=fun _ v=>v.oneCell'=true) (fun i _=>⟨rfl,rfl⟩) hk
theorem vd_cells {w:World} {prot:Nat→Nat} {x:D} {v:Value} (h:VD Tryz.prog w prot (.sl 108) x v):∃ A c,v=.slice A x.rows.length c∧x.rows.length≤c∧c≤9223372036854775807 ∧
  (0<x.rows.length→∃ b o,A=some ⟨b,o,none⟩)∧∀ b o,A=some ⟨b,o,none⟩→∀ k v,(cellsV x.rows)[k]?=some v→w.cell? ⟨b,o+k,none⟩=some v∧o+k<prot b:=by
 cases h with
 | sl e d A c row u hr h1 h2 h3 h4 =>
  rw [row_cell] at hr
  injection hr with hr
  subst hr
  refine ⟨A,c,rfl,h1,h2,fun h0=>?_,fun b o hA k v hk=>?_⟩
  ·obtain ⟨b,o,hA,_⟩:=h3 0 0 h0 (by decide)
   exact ⟨b,o,hA⟩
  ·subst hA
   have hb:∀ i j,i<x.rows.length→j<2→∃ v,w.cell? ⟨b,o+(i*2+j),none⟩=some v∧o+(i*2+j)<prot b∧v=.int .i64 (gd (x.rows.getD i []) j).int:=fun i j hi hj=>by
    obtain ⟨b',o',hA,hc,hp⟩:=h3 i j hi hj
    injection hA with hA
    injection hA with e1 e2 _
    subst e1; subst e2
    have hv:=h4 i j (.int .i64) hi (by match j,hj with | 0,_=>rfl | 1,_=>rfl)
    generalize u i j=z at *
    cases hv
    exact ⟨_,hc,hp,rfl⟩
   refine cellsV_all (F:=fun k v=>w.cell? ⟨b,o+k,none⟩=some v∧o+k<prot b) (fun i hi=>?_) hk
   obtain ⟨v0,q1,q2,rfl⟩:=hb i 0 hi (by decide)
   obtain ⟨v1,q3,q4,rfl⟩:=hb i 1 hi (by decide)
   exact ⟨⟨by simpa using q1,by simpa using q2⟩,q3,q4⟩
theorem clone_cell (a:Addr) (n c:Nat) (news:List Value) (w:World) (hl:news.length=n*2) (hn:n≤1000000) (hc:∀ j u,news[j]?=some u→w.cell? (a.add j)=some u) (h1:∀ u∈news,u.oneCell'=true) :
  Calls Tryz.prog 192 #[.slice (some a) n c] w fun e w'=>∃ v',e=.returned v'∧w'.ownsRow w.heap.size 108 2 v' n news∧Below w.heap.size w w':=by
 obtain ⟨i0,hi0,hz0,hzs,hzb⟩:=info_parts H.info_cell
 have mixed:Tryz.prog.follows .mixedOrders=true:=by kernel_rfl
 have q22:∀ (w:World) (a:Option Addr) (n c n' c':Nat),(binOp .eql 33 (.slice a n c) (.slice none n' c')).run Tryz.prog w=.ok (.bool a.isNone) w:=fun w a n c n' c'=>Lib.run_eql_slice_nil w _ _ a n c n' c' Tryz.underlying33
 have A:Aside (∀ j u,news[j]?=some u→w.cell? (a.add j)=some u):=hc
 clear hc
 go_enter Tryz.func192,Tryz.ntmps192
 go_wp2_with (at_builtin; refine wpList_append_own _ rfl _ _ 33 rfl w.heap.size 108 i0 H.zc 2 16 Tryz.underlying33 hi0 hz0 hzs hzb rfl (by decide) _ _ _ rfl (World.ownsRow_made w #[] 0 (Nat.le_refl _) (Nat.zero_le _) (by simp)) a n c news rfl ?qc1 ?qc2 ?qc3 ?qc4 ?qc5 ?qc6 ?_)
 case qc1=>exact hl
 case qc2 =>
  intro j u hj
  exact Lib.cell?_alloc_some _ (A.out j u hj)
 case qc3=>exact h1
 case qc4=>rw [Nat.zero_add]; unfold maxLen; omega
 case qc5=>rw [Nat.zero_add]; omega
 case qc6=>simp
 intro v' w1 hown hgrow hnil
 go_wp2
 go_ret
 refine ⟨v',rfl,by simpa using hown,?_⟩
 exact ((Below.refl _ w).alloc (Nat.le_refl _) _).grown hgrow (by simp) (by intro k hk; simp [Value.ownBlock] at hk; omega)
theorem clone_nil (n c:Nat) (w:World) :
  Calls Tryz.prog 192 #[.slice none n c] w fun e w'=>e=.returned (.slice none 0 0)∧w'=w:=by
 have mixed:Tryz.prog.follows .mixedOrders=true:=by kernel_rfl
 have q22:∀ (w:World) (a:Option Addr) (n c n' c':Nat),(binOp .eql 33 (.slice a n c) (.slice none n' c')).run Tryz.prog w=.ok (.bool a.isNone) w:=fun w a n c n' c'=>Lib.run_eql_slice_nil w _ _ a n c n' c' Tryz.underlying33
 go_enter Tryz.func192,Tryz.ntmps192
 go_wp2
 go_ret
 exact ⟨rfl,rfl⟩
theorem res_cells {prot:Nat→Nat} {w w':World} {x:D} {v:Value} (hfr:∀ b,w.heap.size≤b→prot b=0) (hb:Below w.heap.size w w') (ho:w'.ownsRow w.heap.size 108 2 v x.rows.length (cellsV x.rows)) :
  ∃ g',Res Tryz.prog prot w w' ⟨.one (.c (.own (0,0) true 108)),[x]⟩ v g':=by
 obtain ⟨hl,⟨rfl,h0⟩ | ⟨blk,cap,cur,rfl,hblk,hh,hcap,hmax,hsz,htk⟩⟩:=ho
 ·exact ⟨g0 0 prot,hb,⟨cellRow,row_cell,.inl ⟨List.eq_nil_of_length_eq_zero h0,rfl,none,rfl⟩⟩,fun _ _=>rfl,fun b hb'=>⟨hfr b (Nat.le_trans hb.size hb'),rfl⟩⟩
 ·refine ⟨⟨prot,fun b=>if b=blk then some (.inr (0,0)) else none,fun _=>0,fun _=>blk,fun _=>x.rows.length,fun _=>2,fun _=>108,fun _ => [],fun _=>0,fun _=>False⟩,hb,⟨cellRow,row_cell,.inr ⟨cap,cur,108,rfl,hcap,⟨by unfold maxLen at hmax; omega,rfl,rfl⟩,hblk,if_pos rfl,hh,hsz,rfl,rfl,?_,?_⟩⟩,fun _ _=>rfl,fun b hb'=>⟨hfr b (Nat.le_trans hb.size hb'),?_⟩⟩
  ·show prot blk=0
   exact hfr blk hblk
  ·intro i j s hi hs
   have hi:i<x.rows.length:=hi
   obtain ⟨q1,q2⟩:=cellsV_get x.rows i hi
   rw [← htk,List.getElem?_take,if_pos (by omega)] at q1 q2
   match j,hs with
   | 0,hs =>
    injection hs with hs
    subst hs
    exact ⟨.int .i64 (gd (x.rows.getD i []) 0).int,by simpa using q1,.of_vd (.int .i64 _) (.inr rfl)⟩
   | 1,hs =>
    injection hs with hs
    subst hs
    exact ⟨.int .i64 (gd (x.rows.getD i []) 1).int,by simpa using q2,.of_vd (.int .i64 _) (.inr rfl)⟩
  ·have:=lt_of_heap hh
   exact if_neg (by omega)
def i_clonCE:Ent:=(192,e1 (sd (.sl 108)) fun p=>(⟨.one (.c (.own (0,0) true 108)),[.l (gd p 0).rows]⟩,leI ((gd p 0).rows.length:Int) 1000000))
theorem i_clonC_ok:EntOk Tryz.prog i_clonCE:=e1_ok fun p h=>by
 have h:leI ((gd p 0).rows.length:Int) 1000000=true:=h
 simp only [leI,decide_eq_true_eq] at h
 refine SoundFn.of rfl ⟨enters Tryz.func192 (by kernel_rfl) (by kernel_rfl),fun w prot vs hargs hfr=>?_⟩
 obtain ⟨u,hu,hv⟩:=hargs.2 0 _ rfl
 have hvs:vs = #[u]:=by
  have hs:vs.size=1:=hargs.1
  refine Array.ext (by simpa using hs) fun i h1 h2=>?_
  have:i=0:=by omega
  subst this
  rw [Array.getElem?_eq_getElem h1] at hu
  injection hu
 subst hvs
 have hv:VD Tryz.prog w prot (.sl 108) (gd p 0) u:=hv
 generalize gd p 0=x at *
 obtain ⟨A,c,rfl,h1,h2,h3,h4⟩:=vd_cells hv
 cases A with
 | none =>
  have h0:x.rows.length=0:=by
   rcases Nat.eq_zero_or_pos x.rows.length with h' | h'
   ·exact h'
   ·obtain ⟨b,o,hA⟩:=h3 h'
    cases hA
  have hx0:x.rows = []:=List.eq_nil_of_length_eq_zero h0
  refine (clone_nil x.rows.length c w).mono ?_
  rintro ex w' ⟨rfl,rfl⟩
  obtain ⟨g',hg⟩:=res_cells (x:=x) (prot:=prot) (w:=w') (w':=w') hfr (Below.refl _ _) (v:=.slice none 0 0) ⟨cellsV_len _,.inl ⟨rfl,h0⟩⟩
  exact ⟨_,g',rfl,hg.below,hg.val,hg.prot,hg.fresh⟩
 | some ad =>
  refine (clone_cell ad x.rows.length c (cellsV x.rows) w (cellsV_len _) (by omega) (fun j u hj=>?_) (cellsV_one _)).mono ?_
  ·have hpos:0<x.rows.length:=by
    have:=(List.getElem?_eq_some_iff.1 hj).1
    rw [cellsV_len] at this
    omega
   obtain ⟨b,o,hA⟩:=h3 hpos
   injection hA with hA
   subst hA
   rw [Addr.add_lit]
   exact (h4 b o rfl j u hj).1
  ·rintro ex w' ⟨v',rfl,hown,hbel⟩
   obtain ⟨g',hg⟩:=res_cells (x:=x) (prot:=prot) hfr hbel hown
   exact ⟨_,g',rfl,hg.below,hg.val,hg.prot,hg.fresh⟩
theorem vd_int {P:Program} {w:World} {prot:Nat→Nat} {k:IntKind} {x:D} {v:Value} (h:VD P w prot (.int k) x v):v=.int k x.int:=by
 cases h; rfl
theorem args_at {P:Program} {prot:Nat→Nat} {w:World} {args:List T} {vs:Array Value} (h:ArgsV P prot w args vs) (us:List Value) (hl:us.length=args.length) (hu:∀ (j:Nat) t u,args[j]?=some t→vs[j]?=some u→us[j]?=some u):vs=us.toArray:=by
 refine Array.ext (by simp [h.1,hl]) fun i h1 h2=>?_
 have hi:i<args.length:=by rw [← h.1]; exact h1
 have:=hu i _ _ (List.getElem?_eq_getElem hi) (Array.getElem?_eq_getElem h1)
 rw [List.getElem?_eq_getElem (by omega)] at this
 simp only [Option.some.injEq] at this
 simpa using this.symm
theorem cell_at {w:World} {b:Nat} {arr:Array Value} {e:TypeId} {fz:Nat × Nat} (h:w.heap[b]?=some (.cells arr e fz)) (k:Nat):w.cell? ⟨b,k,none⟩=arr[k]?:=by
 simp [World.cell?,h]
theorem unfrozen {w:World} {b:Nat} {arr:Array Value} {e:TypeId} (h:w.heap[b]?=some (.cells arr e (0,0))) (k:Nat):w.frozen? ⟨b,k,none⟩=false:=by
 simp [World.frozen?,h]
def insRows (rows:List (List D)) (i:Nat) (r:List D):List (List D):=rows.take i++r::rows.drop i
end Go.Proofs.YtpdfmcmnjikppaaGreat
namespace Go.Proofs.YtpdfmcmnjikppaaGreat
set_option maxRecDepth 4096
set_option maxHeartbeats 1000000
end Go.Proofs.YtpdfmcmnjikppaaGreat
namespace Go.Proofs.YtpdfmcmnjikppaaGreat
def pr (r:List D):Int × Int:=((gd r 0).int,(gd r 1).int)
def fin (k v:D) (R:List (List D) × Bool):List (List D):=bif !R.2 then R.1 ++ [[k,v]] else R.1
end Go.Proofs.YtpdfmcmnjikppaaGreat
namespace Go.Proofs.YtpdfmcmnjikppaaGreat
set_option maxRecDepth 4096
set_option maxHeartbeats 1000000
end Go.Proofs.YtpdfmcmnjikppaaGreat
namespace Go.Proofs.YtpdfmcmnjikppaaGreat
theorem mapD_len (f:List D→List D) (z:D):(D.l (z.rows.map f)).rows.length=z.rows.length:=List.length_map ..
end Go.Proofs.YtpdfmcmnjikppaaGreat
namespace Go.Proofs.YtpdfmcmnjikppaaGreat
set_option maxRecDepth 4096
set_option maxHeartbeats 1000000
end Go.Proofs.YtpdfmcmnjikppaaGreat
namespace Go.Proofs.YtpdfmcmnjikppaaGreat
set_option maxRecDepth 4096
set_option maxHeartbeats 1000000
structure CoordW (R O:D):Prop where
 len:R.rows.length≤60
 tx:∀ i,i<R.rows.length→(gd (R.rows.getD i []) 0).int=((i+1:Nat):Int)
 sh:∀ i,i<R.rows.length→sharesOk (gd (R.rows.getD i []) 4)=true
 ord:∀ k,k<O.rows.length→1≤vAt O k∧vAt O k≤(R.rows.length:Int)∧(gd (R.rows.getD (vAt O k - 1).toNat []) 3).int=3
 nodup:(numsOf O).Nodup
 all:cnt (isYes R) 0 R.rows.length=O.rows.length
end Go.Proofs.YtpdfmcmnjikppaaGreat
namespace Go.Proofs.YtpdfmcmnjikppaaGreat
set_option maxRecDepth 4096
set_option maxHeartbeats 1000000
abbrev shOf (R O:D) (k:Nat):D:=gd (R.rows.getD (vAt O k - 1).toNat []) 4
structure BefW (R O:D):Prop where
 ord:∀ k,k<O.rows.length→1≤vAt O k∧vAt O k≤(R.rows.length:Int)
 sh:∀ k,k<O.rows.length→sharesOk (shOf R O k)=true
 rl:R.rows.length≤60
 ol:O.rows.length≤60
end Go.Proofs.YtpdfmcmnjikppaaGreat
namespace Go.Proofs.YtpdfmcmnjikppaaGreat
set_option maxRecDepth 4096
set_option maxHeartbeats 1000000
def cellsOf (p:List D) (k:Nat):D:=gd ((gd p 9).rows.getD k []) 3
end Go.Proofs.YtpdfmcmnjikppaaGreat
namespace Go.Proofs.YtpdfmcmnjikppaaGreat
set_option maxRecDepth 4096
set_option maxHeartbeats 1000000
end Go.Proofs.YtpdfmcmnjikppaaGreat
namespace Go.Proofs.YtpdfmcmnjikppaaGreat
set_option maxRecDepth 4096
set_option maxHeartbeats 1000000
end Go.Proofs.YtpdfmcmnjikppaaGreat
namespace Go.Proofs.YtpdfmcmnjikppaaGreat
set_option maxRecDepth 100000
set_option maxHeartbeats 4000000
open Go.RowKit Go.Lib
def protK (B:Option Nat) (n:Nat):Nat→Nat:=fun b=>if B=some b then n else 0
theorem ownK_vd {P:Program} {w:World} {e:TypeId} {row:List S} {z:D} {u:Value} {B:Option Nat} (hrow:rowOf P e=some row) (h:OwnK w e row z.rows u B):VD P w (protK B (z.rows.length*row.length)) (.sl e) z u:=by
 rcases h with ⟨rfl,h0,A,rfl⟩ | ⟨b,cap,arr,rfl,rfl,h2,h3,h4,h5,h6⟩
 ·have:=VD.sl (P:=P) (w:=w) (prot:=protK none (z.rows.length*row.length)) e z A 0 row (fun _ _=>undef) hrow (by rw [h0]; simp) (by omega) (by rw [h0]; intro i j hi; simp at hi) (by rw [h0]; intro i j s hi; simp at hi)
  rwa [show z.rows.length=0 from by rw [h0]; rfl] at this
 ·refine VD.sl e z _ cap row (fun i j=>arr[i*row.length+j]?.getD undef) hrow h2 h3 (fun i j hi hj=>?_) (fun i j s hi hs=>?_)
  ·obtain ⟨v,k1,k2⟩:=h6 i j _ hi (List.getElem?_eq_getElem hj)
   refine ⟨b,0,rfl,?_,?_⟩
   ·rw [k1,Nat.zero_add,cell_at h4]; exact k1
   ·show _<(if some b=some b then _ else _)
    rw [if_pos rfl,Nat.zero_add]
    have:i*row.length+row.length≤z.rows.length*row.length:=by
     rw [← Nat.succ_mul]; exact Nat.mul_le_mul_right _ hi
    omega
  ·obtain ⟨v,k1,k2⟩:=h6 i j s hi hs
   simp only [k1]
   exact k2.vd
theorem ownK_size {w:World} {e:TypeId} {row:List S} {rows:List (List D)} {v:Value} {B:Option Nat} (h:OwnK w e row rows v B):∀ b,B=some b→b<w.heap.size:=by
 rcases h with ⟨rfl,_⟩ | ⟨b,cap,arr,rfl,_,_,_,h4,_⟩
 ·intro b hb; cases hb
 ·intro b' hb
  injection hb with hb
  subst hb
  exact lt_of_heap h4
end Go.Proofs.YtpdfmcmnjikppaaGreat
namespace Go.Proofs.YtpdfmcmnjikppaaGreat
set_option maxRecDepth 100000
set_option maxHeartbeats 4000000
open Go.RowKit Go.Lib
def keptR (C:List D→Bool) (rows:List (List D)):List (List D):=rows.filter fun r => !C r
structure KI (C:List D→Bool) (rows rj:List (List D)) (i j:Nat):Prop where
 len:rj.length=rows.length
 lt:i<j
 le:j≤rows.length
 num:i=(keptR C (rows.take j)).length
 done:rj.take i=keptR C (rows.take j)
 rest:∀ k,j≤k→rj.getD k []=rows.getD k []
theorem take_succ_getD {rows:List (List D)} {j:Nat} (h:j<rows.length):rows.take (j+1)=rows.take j ++ [rows.getD j []]:=by
 rw [List.take_add_one,List.getElem?_eq_getElem h,List.getD_eq_getElem?_getD,List.getElem?_eq_getElem h]
 rfl
theorem KI.keep {C:List D→Bool} {rows rj:List (List D)} {i j:Nat} (h:KI C rows rj i j) (hj:j<rows.length) (hc:C (rows.getD j [])=false):KI C rows (rj.set i (rows.getD j [])) (i+1) (j+1):=by
 have hk:keptR C (rows.take (j+1))=keptR C (rows.take j) ++ [rows.getD j []]:=by
  rw [take_succ_getD hj]
  unfold keptR
  rw [List.filter_append]
  congr 1
  simp only [List.filter_cons,hc,Bool.not_false,if_true,List.filter_nil]
 have hl:=h.len
 have hlt:=h.lt
 refine ⟨by simp [hl],by omega,by omega,by rw [hk,List.length_append,← h.num]; rfl,?_,fun k hk'=>?_⟩
 ·rw [hk,← h.done,take_succ_getD (by simp; omega)]
  congr 1
  ·rw [List.take_set_of_le (Nat.le_refl _)]
  ·rw [List.getD_eq_getElem?_getD,List.getElem?_set_self (by omega)]; rfl
 ·rw [List.getD_eq_getElem?_getD,List.getElem?_set_ne (by omega),← List.getD_eq_getElem?_getD]
  exact h.rest k (by omega)
theorem KI.skip {C:List D→Bool} {rows rj:List (List D)} {i j:Nat} (h:KI C rows rj i j) (hj:j<rows.length) (hc:C (rows.getD j [])=true):KI C rows rj i (j+1):=by
 have hk:keptR C (rows.take (j+1))=keptR C (rows.take j):=by
  rw [take_succ_getD hj]
  unfold keptR
  rw [List.filter_append]
  simp only [List.filter_cons,hc,Bool.not_true,Bool.false_eq_true,if_false,List.filter_nil,List.append_nil]
 have hlt:=h.lt
 exact ⟨h.len,by omega,by omega,by rw [hk]; exact h.num,by rw [hk]; exact h.done,fun k hk'=>h.rest k (by omega)⟩
theorem keptR_none {C:List D→Bool} {rows:List (List D)} (h:∀ k,k<rows.length→C (rows.getD k [])=false):keptR C rows=rows:=by
 unfold keptR
 rw [List.filter_eq_self]
 intro r hr
 obtain ⟨k,hk,rfl⟩:=List.getElem_of_mem hr
 have:=h k hk
 rw [List.getD_eq_getElem?_getD,List.getElem?_eq_getElem hk] at this
 simpa using this
theorem KI.start {C:List D→Bool} {rows:List (List D)} {k0:Nat} (h:k0<rows.length) (hn:∀ k,k<k0→C (rows.getD k [])=false) (hc:C (rows.getD k0 [])=true):KI C rows rows k0 (k0+1):=by
 have hkn:keptR C (rows.take k0)=rows.take k0:=keptR_none fun k hk=>by
  have hk:k<k0:=by have:=hk; simp at this; omega
  rw [List.getD_eq_getElem?_getD,List.getElem?_take,if_pos hk,← List.getD_eq_getElem?_getD]
  exact hn k hk
 have hk:keptR C (rows.take (k0+1))=rows.take k0:=by
  rw [take_succ_getD h]
  unfold keptR
  rw [List.filter_append]
  simp only [List.filter_cons,hc,Bool.not_true,Bool.false_eq_true,if_false,List.filter_nil,List.append_nil]
  exact hkn
 exact ⟨rfl,by omega,by omega,by rw [hk,List.length_take]; omega,hk.symm,fun _ _=>rfl⟩
theorem ixF_spec (C:Nat→Bool):∀ (n i:Nat),(ixF C i n = -1∧∀ k,k<n→C (i+k)=false)∨∃ k,k<n∧ixF C i n=((i+k:Nat):Int)∧C (i+k)=true∧∀ k',k'<k→C (i+k')=false
 | 0,i=>.inl ⟨rfl,fun k hk=>absurd hk (Nat.not_lt_zero _)⟩
 | n+1,i=>by
  cases h:C i with
  | true=>exact .inr ⟨0,by omega,by simp [ixF,h],h,fun k hk=>absurd hk (Nat.not_lt_zero _)⟩
  | false =>
   rcases ixF_spec C n (i+1) with ⟨e,ha⟩ | ⟨k,hk,e,ht,ha⟩
   ·refine .inl ⟨by simp [ixF,h,e],fun k hk=>?_⟩
    cases k with
    | zero=>exact h
    | succ k=>have:=ha k (by omega); rwa [show i+1+k=i+(k+1) from by omega] at this
   ·refine .inr ⟨k+1,by omega,by simp only [ixF,h]; rw [show i+(k+1)=i+1+k from by omega]; exact e,by rwa [show i+(k+1)=i+1+k from by omega],fun k' hk'=>?_⟩
    cases k' with
    | zero=>exact h
    | succ k'=>have:=ha k' (by omega); rwa [show i+1+k'=i+(k'+1) from by omega] at this
theorem run_clear3 {P:Program} (w:World) (t e ty:TypeId) (z:Value) (ht:P.underlying t=some (.slice e)) (hv:∀ w,(zeroValue e).run P w=.ok z w) (h1:∀ u∈z.cells.toList,u.oneCell'=true) (b o n c:Nat) (hn:0<n) (hs:0<z.cells.size)
  (hc:∀ j,j<n*z.cells.size→(w.cell? ⟨b,o+j,none⟩).isSome=true) (hf:∀ j,j<n*z.cells.size→w.frozen? ⟨b,o+j,none⟩=false) :
  (Builtin.clear_ #[t] ty #[.slice (some ⟨b,o,none⟩) n c]).run P w=.ok (.tuple #[]) (w.setCells b o (Builtin.zeroCells z.cells n).toList):=by
 have hsz:(Builtin.zeroCells z.cells n).toList.length=n*z.cells.size:=by simp [size_zeroCells]
 have hst:=run_storeCells_cells (P:=P) b o (Builtin.zeroCells z.cells n).toList 0 w (by rw [hsz]; simpa using hc) (by rw [hsz]; simpa using hf) (fun u hu=>by
  obtain ⟨j,hj,rfl⟩:=List.getElem_of_mem hu
  rw [hsz] at hj
  have:(Builtin.zeroCells z.cells n).toList[j]'(by rw [hsz]; exact hj)=z.cells[j % z.cells.size]'(Nat.mod_lt _ hs):=by
   have h2:j % z.cells.size<z.cells.size:=Nat.mod_lt j hs
   simp only [Builtin.zeroCells,Array.toList_map,Array.toList_range,List.getElem_map,List.getElem_range]
   exact getElem!_pos z.cells _ h2
  rw [this]
  exact h1 _ (by simp))
 obtain ⟨m,rfl⟩:∃ m,n=m+1:=⟨n - 1,by omega⟩
 simp only [Nat.add_zero] at hst
 simp [Builtin.clear_,run_underlying ht,hv,hst]
end Go.Proofs.YtpdfmcmnjikppaaGreat
namespace Go.Proofs.YtpdfmcmnjikppaaGreat
set_option maxRecDepth 100000
set_option maxHeartbeats 4000000
open Go.RowKit Go.Lib
abbrev rowN (k:Nat):List S:=List.replicate k (.int .i64)
abbrev cellsR (k:Nat) (r:List D):List Value:=(List.range k).map fun j=>.int .i64 (gd r j).int
theorem cellsR_get {k j:Nat} (r:List D) (h:j<k):(cellsR k r)[j]?=some (.int .i64 (gd r j).int):=by simp [cellsR,h]
theorem ownN_mk {w:World} {e:TypeId} {k:Nat} {rows:List (List D)} {b cap:Nat} {arr:Array Value} (hh:w.heap[b]?=some (.cells arr e (0,0))) (hs:arr.size=cap*k) (hle:rows.length≤cap) (h63:cap≤9223372036854775807)
  (hc:∀ i j,i<rows.length→j<k→arr[i*k+j]?=some (.int .i64 (gd (rows.getD i []) j).int)):OwnK w e (rowN k) rows (.slice (some ⟨b,0,none⟩) rows.length cap) (some b):=
 .inr ⟨b,cap,arr,rfl,rfl,hle,h63,hh,by simpa using hs,fun i j s hi hj=>by
  obtain ⟨h1,h2⟩:=List.getElem?_eq_some_iff.1 hj
  have h1:j<k:=by simpa using h1
  have h2:S.int .i64=s:=by simpa using h2
  subst h2
  exact ⟨.int .i64 (gd (rows.getD i []) j).int,by simpa using hc i j hi h1,rfl⟩⟩
theorem ownN_at {w:World} {e:TypeId} {k:Nat} {rows:List (List D)} {u:Value} {B:Option Nat} (h:OwnK w e (rowN k) rows u B):(B=none∧rows = []∧∃ A,u=.slice A 0 0) ∨
  ∃ (b cap:Nat) (arr:Array Value),B=some b∧u=.slice (some ⟨b,0,none⟩) rows.length cap∧rows.length≤cap∧cap≤9223372036854775807∧w.heap[b]?=some (.cells arr e (0,0))∧arr.size=cap*k ∧
   ∀ i j,i<rows.length→j<k→arr[i*k+j]?=some (.int .i64 (gd (rows.getD i []) j).int):=by
 rcases h with h | ⟨b,cap,arr,h1,h2,h3,h4,h5,h6,h7⟩
 ·exact .inl h
 ·refine .inr ⟨b,cap,arr,h1,h2,h3,h4,h5,by simpa using h6,fun i j hi hj=>?_⟩
  obtain ⟨u,q1,q2⟩:=h7 i j (.int .i64) hi (by simp [hj])
  rw [show (rowN k).length=k from by simp] at q1
  rw [q1]
  exact congrArg some q2
theorem ownN_cell {w:World} {e:TypeId} {k:Nat} {rows:List (List D)} {u:Value} {b:Nat} (h:OwnK w e (rowN k) rows u (some b)) {i j:Nat} (hi:i<rows.length) (hj:j<k) :
  w.cell? ⟨b,i*k+j,none⟩=some (.int .i64 (gd (rows.getD i []) j).int)∧w.frozen? ⟨b,i*k+j,none⟩=false:=by
 rcases ownN_at h with ⟨h0,_⟩ | ⟨b',cap,arr,hb,_,hle,_,hh,hs,hc⟩
 ·cases h0
 ·injection hb with hb
  subst hb
  exact ⟨by rw [cell_at hh]; exact hc i j hi hj,unfrozen hh _⟩
theorem ownN_set {w w2:World} {e:TypeId} {k:Nat} {rj:List (List D)} {b cap n i:Nat} (h:OwnK w e (rowN k) rj (.slice (some ⟨b,0,none⟩) n cap) (some b)) (hn:rj.length=n) (hi:i<n) (hbb:w2.heap[b]?=w.heap[b]?) (r:List D) :
  OwnK (w2.setCells b (i*k) (cellsR k r)) e (rowN k) (rj.set i r) (.slice (some ⟨b,0,none⟩) n cap) (some b):=by
 rcases ownN_at h with ⟨h0,_⟩ | ⟨b',cap',arr,hb,hu,hle,h63,hh,hs,hc⟩
 ·cases h0
 ·injection hb with hb
  subst hb
  injection hu with _ hu1 hu2
  subst hu2
  have hrl:(cellsR k r).length=k:=by simp
  have hik:i*k+k≤cap*k:=by
   have:=Nat.mul_le_mul_right k (show i+1≤cap by omega)
   rwa [Nat.add_mul,Nat.one_mul] at this
  obtain ⟨arr',a1,a2,a3,a4⟩:=setCells_heap b e (0,0) (cellsR k r) (i*k) w2 arr (hbb.trans hh) (by rw [hs,hrl]; exact hik)
  have hl:(rj.set i r).length=n:=by simp [hn]
  have:=ownN_mk (rows:=rj.set i r) a1 (by rw [a2,hs]) (by omega) h63 (fun m j hm hj=>by
   rw [hl] at hm
   have hset:(rj.set i r).getD m []=if i=m then r else rj.getD m []:=by
    rw [List.getD_eq_getElem?_getD,List.getElem?_set]
    by_cases e:i=m
    ·subst e; simp [hn,hi]
    ·simp [e,List.getD_eq_getElem?_getD]
   rw [hset]
   by_cases e:i=m
   ·subst e
    rw [if_pos rfl]
    exact a4 j _ (cellsR_get r hj)
   ·rw [if_neg e,a3 _ (by
     rw [hrl]
     rcases Nat.lt_or_gt_of_ne e with h | h
     ·right
      have:=Nat.mul_le_mul_right k (show i+1≤m from h)
      rw [Nat.add_mul,Nat.one_mul] at this
      omega
     ·left
      have:=Nat.mul_le_mul_right k (show m+1≤i from h)
      rw [Nat.add_mul,Nat.one_mul] at this
      omega)]
    exact hc m j (by omega) hj)
  rwa [hl] at this
theorem ownN_below {w w':World} {e:TypeId} {row:List S} {rows:List (List D)} {u:Value} {B:Option Nat} (h:OwnK w e row rows u B) (hb:Below w.heap.size w w'):OwnK w' e row rows u B:=by
 rcases h with h | ⟨b,cap,arr,h1,h2,h3,h4,h5,h6⟩
 ·exact .inl h
 ·exact .inr ⟨b,cap,arr,h1,h2,h3,h4,(hb.block b (lt_of_heap h5)).trans h5,h6⟩
abbrev zcN_Lock:Value:=(.agg #[.int .i64 0,.int .i64 0,.int .i64 0,.int .i64 0])
theorem zcN_Lock_run:∀ w,(zeroValue 93).run Tryz.prog w=.ok zcN_Lock w:=fun w=>Tryz.zeroValue93 w
theorem delfLock_calls {w:World} {rows:List (List D)} {u:Value} {B:Option Nat} (hO:OwnK w 93 (rowN 4) rows u B) (F:FuncId) (fa:Array Value) (C:List D→Bool) (hC:∀ r,C r=C [.i (gd r 0).int,.i (gd r 1).int,.i (gd r 2).int,.i (gd r 3).int])
  (hen:∀ vs w,(callFunc F vs).run Tryz.prog w=.ok (.enter F vs) w)
  (hix:Calls Tryz.prog 234 #[u,.func (.func F) #[] fa] w fun ex w'=>ex=.returned (.int .i64 (ixF (fun k=>C (rows.getD k [])) 0 rows.length))∧Below w.heap.size w w')
  (hdel:∀ (w'':World) (x0 x1 x2 x3:Int),Changed w w'' B→Calls Tryz.prog F (#[.agg #[.int .i64 x0,.int .i64 x1,.int .i64 x2,.int .i64 x3]]++fa) w'' fun ex w'=>ex=.returned (.bool (C [.i x0,.i x1,.i x2,.i x3]))∧Below w''.heap.size w'' w') :
  Calls Tryz.prog 164 #[u,.func (.func F) #[] fa] w fun ex w'=>∃ v' B',ex=.returned v'∧Changed w w' B∧OwnK w' 93 (rowN 4) (keptR C rows) v' B'∧∀ b,B'=some b→B=some b∨w.heap.size≤b:=by
 by_cases hno:ixF (fun k=>C (rows.getD k [])) 0 rows.length = -1
 ·rw [hno] at hix
  have hall:keptR C rows=rows:=by
   rcases ixF_spec (fun k=>C (rows.getD k [])) rows.length 0 with ⟨_,h⟩ | ⟨k,_,h,_⟩
   ·exact keptR_none fun k hk=>by have:=h k hk; rwa [Nat.zero_add] at this
   ·rw [hno] at h; omega
  rw [hall]
  have HO:Hid _:=hO
  clear hO hdel hall
  go_enter Tryz.func164,Tryz.ntmps164
  go_wp2_with fail
  refine hix.mono ?_
  rintro e w' ⟨rfl,hb⟩
  go_wp2_with fail
  go_ret
  exact ⟨u,B,rfl,Changed.of_below B hb,ownN_below HO.out hb,fun b hb=>.inl hb⟩
 ·obtain ⟨k0,hk0,hk0l,hkn,hkk⟩:∃ k0:Nat,ixF (fun k=>C (rows.getD k [])) 0 rows.length=(k0:Int)∧k0<rows.length∧(∀ k,k<k0→C (rows.getD k [])=false)∧C (rows.getD k0 [])=true:=by
   rcases ixF_spec (fun k=>C (rows.getD k [])) rows.length 0 with ⟨h,_⟩ | ⟨k,h1,h2,h3,h4⟩
   ·exact absurd h hno
   ·simp only [Nat.zero_add] at h2 h3 h4
    exact ⟨k,h2,h1,h4,h3⟩
  rw [hk0] at hix
  obtain ⟨b,cap,arr,rfl,rfl,hle,h63,hh,hs,hc⟩:∃ (b cap:Nat) (arr:Array Value),B=some b∧u=.slice (some ⟨b,0,none⟩) rows.length cap∧rows.length≤cap∧cap≤9223372036854775807∧w.heap[b]?=some (.cells arr 93 (0,0))∧arr.size=cap*4 ∧
    ∀ i j,i<rows.length→j<4→arr[i*4+j]?=some (.int .i64 (gd (rows.getD i []) j).int):=by
   rcases ownN_at hO with ⟨_,h0,_⟩ | h
   ·rw [h0] at hk0l; simp at hk0l
   ·exact h
  have HO:Hid _:=hO
  have HDEL:Hid _:=hdel
  have hne1:((k0:Int) == -1)=false:=beq_eq_false_iff_ne.2 (by omega)
  have HST:Hid (KI C rows rows k0 (k0+1)):=KI.start hk0l hkn hkk
  have hbw:b<w.heap.size:=lt_of_heap hh
  clear hO hdel hh hs hc hkn hkk hno hk0
  go_enter Tryz.func164,Tryz.ntmps164
  go_wp2_with fail
  refine hix.mono ?_
  rintro e w' ⟨rfl,hb⟩
  have HB0:Hid _:=hb
  clear hb
  go_wp2_with fail
  go_loopw [5,6] (fun s5 s6 wr=>∃ (i j:Nat) (rj:List (List D)),s5=.int .i64 i∧s6=.int .i64 j∧Hid (Changed w wr (some b))∧Hid (OwnK wr 93 (rowN 4) rj (.slice (some ⟨b,0,none⟩) rows.length cap) (some b))∧Hid (KI C rows rj i j)) (fun _ s6 _=>rows.length - (intOf s6).toNat)
  case atStart=>exact ⟨k0,k0+1,rows,rfl,by go_num,Changed.of_below _ HB0.out,ownN_below HO.out HB0.out,HST.out⟩
  case round =>
   obtain ⟨i,j,rj,rfl,rfl,HC,HOW,HK⟩:=hrel
   have hij:=HK.out.lt
   have hjl:=HK.out.le
   have hrl:=HK.out.len
   by_cases hlt:j<rows.length
   ·have hrow:(rj.getD j [])=rows.getD j []:=HK.out.rest j (Nat.le_refl _)
    obtain ⟨cj0,_⟩:=ownN_cell HOW.out (i:=j) (j:=0) (by omega) (by omega)
    obtain ⟨ci0,fi0⟩:=ownN_cell HOW.out (i:=i) (j:=0) (by omega) (by omega)
    obtain ⟨cj1,_⟩:=ownN_cell HOW.out (i:=j) (j:=1) (by omega) (by omega)
    obtain ⟨ci1,fi1⟩:=ownN_cell HOW.out (i:=i) (j:=1) (by omega) (by omega)
    obtain ⟨cj2,_⟩:=ownN_cell HOW.out (i:=j) (j:=2) (by omega) (by omega)
    obtain ⟨ci2,fi2⟩:=ownN_cell HOW.out (i:=i) (j:=2) (by omega) (by omega)
    obtain ⟨cj3,_⟩:=ownN_cell HOW.out (i:=j) (j:=3) (by omega) (by omega)
    obtain ⟨ci3,fi3⟩:=ownN_cell HOW.out (i:=i) (j:=3) (by omega) (by omega)
    simp only [Nat.add_zero] at cj0 ci0 fi0
    have hbr:b<wr.heap.size:=by have:=HC.out.size; omega
    rw [hrow] at cj0 cj1 cj2 cj3
    have hcall:=fun (x:World) (hx:Below wr.heap.size wr x)=>HDEL.out x (gd (rows.getD j []) 0).int (gd (rows.getD j []) 1).int (gd (rows.getD j []) 2).int (gd (rows.getD j []) 3).int (HC.out.trans (Changed.of_below _ hx) (fun b hb=>.inl hb))
    rw [← hC] at hcall
    generalize hx0:(gd (rows.getD j []) 0).int=x0 at *
    generalize (gd (rj.getD i []) 0).int=o0 at *
    have HX0:Hid _:=hx0
    generalize hx1:(gd (rows.getD j []) 1).int=x1 at *
    generalize (gd (rj.getD i []) 1).int=o1 at *
    have HX1:Hid _:=hx1
    generalize hx2:(gd (rows.getD j []) 2).int=x2 at *
    generalize (gd (rj.getD i []) 2).int=o2 at *
    have HX2:Hid _:=hx2
    generalize hx3:(gd (rows.getD j []) 3).int=x3 at *
    generalize (gd (rj.getD i []) 3).int=o3 at *
    have HX3:Hid _:=hx3
    have HCALL:Hid _:=hcall
    clear hx0 hx1 hx2 hx3 hcall hrow
    cases hq:C (rows.getD j []) with
    | false =>
     have HQ:Hid _:=hq
     rw [hq] at HCALL
     clear hq
     go_wp2_with fail
     refine (HCALL.out _ ((Below.refl _ _).alloc (Nat.le_refl _) _)).mono ?_
     rintro e w2 ⟨rfl,hb2⟩
     have hsz2:=hb2.size
     have hnew:w2.heap[wr.heap.size]?=some (.cells #[.int .i64 x0,.int .i64 x1,.int .i64 x2,.int .i64 x3] 93 (0,0)):=(hb2.block wr.heap.size (by simp)).trans (by letI:Low:=noLow; exact heap_new wr _)
     have ex0:w2.cell? ⟨wr.heap.size,0,none⟩=some (.int .i64 x0):=by rw [cell_at hnew]; rfl
     have ex1:w2.cell? ⟨wr.heap.size,1,none⟩=some (.int .i64 x1):=by rw [cell_at hnew]; rfl
     have ex2:w2.cell? ⟨wr.heap.size,2,none⟩=some (.int .i64 x2):=by rw [cell_at hnew]; rfl
     have ex3:w2.cell? ⟨wr.heap.size,3,none⟩=some (.int .i64 x3):=by rw [cell_at hnew]; rfl
     clear hnew
     have hbb:w2.heap[b]?=wr.heap[b]?:=(hb2.block b (by simp; omega)).trans (Below.heap_alloc wr _ b hbr)
     have ei0:w2.cell? ⟨b,i*4,none⟩=some (.int .i64 o0):=(cell_of_heap hbb _).trans ci0
     have ef0:w2.frozen? ⟨b,i*4,none⟩=false:=by rw [← fi0]; unfold World.frozen?; simp only; rw [hbb]
     have ei1:w2.cell? ⟨b,i*4+1,none⟩=some (.int .i64 o1):=(cell_of_heap hbb _).trans ci1
     have ef1:w2.frozen? ⟨b,i*4+1,none⟩=false:=by rw [← fi1]; unfold World.frozen?; simp only; rw [hbb]
     have ei2:w2.cell? ⟨b,i*4+2,none⟩=some (.int .i64 o2):=(cell_of_heap hbb _).trans ci2
     have ef2:w2.frozen? ⟨b,i*4+2,none⟩=false:=by rw [← fi2]; unfold World.frozen?; simp only; rw [hbb]
     have ei3:w2.cell? ⟨b,i*4+3,none⟩=some (.int .i64 o3):=(cell_of_heap hbb _).trans ci3
     have ef3:w2.frozen? ⟨b,i*4+3,none⟩=false:=by rw [← fi3]; unfold World.frozen?; simp only; rw [hbb]
     have HB2:Hid _:=hb2
     have HBB:Hid _:=hbb
     clear hb2 hbb ci0 fi0 cj0 ci1 fi1 cj1 ci2 fi2 cj2 ci3 fi3 cj3
     go_wp2_with fail
     have hA:Below wr.heap.size wr w2:=((Below.refl _ _).alloc (Nat.le_refl _) _).trans (HB2.out.mono (by simp))
     have hrow2 : [Value.int .i64 x0,.int .i64 x1,.int .i64 x2,.int .i64 x3]=cellsR 4 (rows.getD j []):=by
      rw [← HX0.out,← HX1.out,← HX2.out,← HX3.out]; rfl
     obtain ⟨d1,d2,d3,d4,d5⟩:=setCells_else b [Value.int .i64 x0,.int .i64 x1,.int .i64 x2,.int .i64 x3] (i*4) w2
     refine ⟨⟨i+1,j+1,rj.set i (rows.getD j []),by go_num,by go_num,(show Hid _ from ?_),(show Hid _ from ?_),HK.out.keep hlt HQ.out⟩,by simp [intOf]; omega⟩
     ·exact (HC.out.trans (Changed.of_below _ hA) (fun b hb=>.inl hb)).trans ⟨d1,d2,d3,Nat.le_of_eq d4.symm,fun k hk hne=>d5 k (fun e=>hne (by rw [e]))⟩ (fun b hb=>.inl hb)
     ·have:=ownN_set (i:=i) HOW.out hrl (by omega) HBB.out (rows.getD j [])
      rw [← hrow2] at this
      exact this
    | true =>
     have HQ:Hid _:=hq
     rw [hq] at HCALL
     clear hq ci0 fi0 ci1 fi1 ci2 fi2 ci3 fi3
     go_wp2_with fail
     refine (HCALL.out _ ((Below.refl _ _).alloc (Nat.le_refl _) _)).mono ?_
     rintro e w2 ⟨rfl,hb2⟩
     have HB2:Hid _:=hb2
     clear hb2 cj0 cj1 cj2 cj3
     go_wp2_with fail
     have hA:Below wr.heap.size wr w2:=((Below.refl _ _).alloc (Nat.le_refl _) _).trans (HB2.out.mono (by simp))
     exact ⟨⟨i,j+1,rj,rfl,by go_num,HC.out.trans (Changed.of_below _ hA) (fun b hb=>.inl hb),ownN_below HOW.out hA,HK.out.skip hlt HQ.out⟩,by simp [intOf]; omega⟩
   ·obtain rfl:j=rows.length:=by omega
    have hcells:∀ k,k<rows.length*4→(wr.cell? ⟨b,k,none⟩).isSome=true∧wr.frozen? ⟨b,k,none⟩=false:=fun k hk=>by
     obtain ⟨q1,q2⟩:=ownN_cell HOW.out (i:=k / 4) (j:=k % 4) (by omega) (by omega)
     rw [show k / 4*4+k % 4=k from by omega] at q1 q2
     exact ⟨by rw [q1]; rfl,q2⟩
    have hzs:zcN_Lock.cells.size=4:=rfl
    have hcl:∀ ty,(Builtin.clear_ #[34] ty #[.slice (some ⟨b,i*4,none⟩) (rows.length - i) (cap - i)]).run Tryz.prog wr=.ok (.tuple #[]) (wr.setCells b (i*4) (Builtin.zeroCells zcN_Lock.cells (rows.length - i)).toList):=fun ty =>
     run_clear3 wr _ _ ty zcN_Lock Tryz.underlying34 zcN_Lock_run (fun u hu=>by simp [Value.cells] at hu; subst hu; rfl) b (i*4) _ _ (by omega) (by decide)
      (fun k hk=>(hcells (i*4+k) (by rw [hzs] at hk; omega)).1) (fun k hk=>(hcells (i*4+k) (by rw [hzs] at hk; omega)).2)
    have HCL:Hid _:=hcl
    have b1:i≤cap:=by omega
    have b2:i≤rows.length:=by omega
    have b3:¬ (cap=i):=by omega
    clear hcells hzs
    go_wp2
    go_ret
    have hfin:keptR C rows=rj.take i:=by
     have:=HK.out.done
     rw [List.take_of_length_le (Nat.le_refl _)] at this
     exact this.symm
    rw [hfin]
    obtain ⟨d1,d2,d3,d4,d5⟩:=setCells_else b (Builtin.zeroCells zcN_Lock.cells (rows.length - i)).toList (i*4) wr
    refine ⟨_,some b,rfl,HC.out.trans ⟨d1,d2,d3,Nat.le_of_eq d4.symm,fun k hk hne=>d5 k (fun e=>hne (by rw [e]))⟩ (fun b hb=>.inl hb),?_,fun b hb=>.inl hb⟩
    rcases ownN_at HOW.out with ⟨h0,_⟩ | ⟨b',cap',arr',hb,hu,hle',h63',hh',hs',hc'⟩
    ·cases h0
    ·injection hb with hb
     subst hb
     injection hu with _ _ hu2
     subst hu2
     obtain ⟨arr2,a1,a2,a3,a4⟩:=setCells_heap b 93 (0,0) (Builtin.zeroCells zcN_Lock.cells (rows.length - i)).toList (i*4) wr arr' hh' (by
      have:(Builtin.zeroCells zcN_Lock.cells (rows.length - i)).toList.length=(rows.length - i)*4:=by simp [size_zeroCells,show zcN_Lock.cells.size=4 from rfl]
      rw [this,hs']; omega)
     have hl:(rj.take i).length=i:=by rw [List.length_take]; omega
     have:=ownN_mk (rows:=rj.take i) a1 (by rw [a2,hs']) (by omega) h63' (fun k m hk hm=>by
      rw [hl] at hk
      rw [List.getD_eq_getElem?_getD,List.getElem?_take,if_pos hk,← List.getD_eq_getElem?_getD]
      rw [a3 _ (.inl (by omega))]
      exact hc' k m (by omega) hm)
     rwa [hl] at this
abbrev zcN_Cell:Value:=(.agg #[.int .i64 0,.int .i64 0])
theorem zcN_Cell_run:∀ w,(zeroValue 108).run Tryz.prog w=.ok zcN_Cell w:=fun w=>Tryz.zeroValue108 w
theorem delfCell_calls {w:World} {rows:List (List D)} {u:Value} {B:Option Nat} (hO:OwnK w 108 (rowN 2) rows u B) (F:FuncId) (fa:Array Value) (C:List D→Bool) (hC:∀ r,C r=C [.i (gd r 0).int,.i (gd r 1).int])
  (hen:∀ vs w,(callFunc F vs).run Tryz.prog w=.ok (.enter F vs) w)
  (hix:Calls Tryz.prog 221 #[u,.func (.func F) #[] fa] w fun ex w'=>ex=.returned (.int .i64 (ixF (fun k=>C (rows.getD k [])) 0 rows.length))∧Below w.heap.size w w')
  (hdel:∀ (w'':World) (x0 x1:Int),Changed w w'' B→Calls Tryz.prog F (#[.agg #[.int .i64 x0,.int .i64 x1]]++fa) w'' fun ex w'=>ex=.returned (.bool (C [.i x0,.i x1]))∧Below w''.heap.size w'' w') :
  Calls Tryz.prog 245 #[u,.func (.func F) #[] fa] w fun ex w'=>∃ v' B',ex=.returned v'∧Changed w w' B∧OwnK w' 108 (rowN 2) (keptR C rows) v' B'∧∀ b,B'=some b→B=some b∨w.heap.size≤b:=by
 by_cases hno:ixF (fun k=>C (rows.getD k [])) 0 rows.length = -1
 ·rw [hno] at hix
  have hall:keptR C rows=rows:=by
   rcases ixF_spec (fun k=>C (rows.getD k [])) rows.length 0 with ⟨_,h⟩ | ⟨k,_,h,_⟩
   ·exact keptR_none fun k hk=>by have:=h k hk; rwa [Nat.zero_add] at this
   ·rw [hno] at h; omega
  rw [hall]
  have HO:Hid _:=hO
  clear hO hdel hall
  go_enter Tryz.func245,Tryz.ntmps245
  go_wp2_with fail
  refine hix.mono ?_
  rintro e w' ⟨rfl,hb⟩
  go_wp2_with fail
  go_ret
  exact ⟨u,B,rfl,Changed.of_below B hb,ownN_below HO.out hb,fun b hb=>.inl hb⟩
 ·obtain ⟨k0,hk0,hk0l,hkn,hkk⟩:∃ k0:Nat,ixF (fun k=>C (rows.getD k [])) 0 rows.length=(k0:Int)∧k0<rows.length∧(∀ k,k<k0→C (rows.getD k [])=false)∧C (rows.getD k0 [])=true:=by
   rcases ixF_spec (fun k=>C (rows.getD k [])) rows.length 0 with ⟨h,_⟩ | ⟨k,h1,h2,h3,h4⟩
   ·exact absurd h hno
   ·simp only [Nat.zero_add] at h2 h3 h4
    exact ⟨k,h2,h1,h4,h3⟩
  rw [hk0] at hix
  obtain ⟨b,cap,arr,rfl,rfl,hle,h63,hh,hs,hc⟩:∃ (b cap:Nat) (arr:Array Value),B=some b∧u=.slice (some ⟨b,0,none⟩) rows.length cap∧rows.length≤cap∧cap≤9223372036854775807∧w.heap[b]?=some (.cells arr 108 (0,0))∧arr.size=cap*2 ∧
    ∀ i j,i<rows.length→j<2→arr[i*2+j]?=some (.int .i64 (gd (rows.getD i []) j).int):=by
   rcases ownN_at hO with ⟨_,h0,_⟩ | h
   ·rw [h0] at hk0l; simp at hk0l
   ·exact h
  have HO:Hid _:=hO
  have HDEL:Hid _:=hdel
  have hne1:((k0:Int) == -1)=false:=beq_eq_false_iff_ne.2 (by omega)
  have HST:Hid (KI C rows rows k0 (k0+1)):=KI.start hk0l hkn hkk
  have hbw:b<w.heap.size:=lt_of_heap hh
  clear hO hdel hh hs hc hkn hkk hno hk0
  go_enter Tryz.func245,Tryz.ntmps245
  go_wp2_with fail
  refine hix.mono ?_
  rintro e w' ⟨rfl,hb⟩
  have HB0:Hid _:=hb
  clear hb
  go_wp2_with fail
  go_loopw [5,6] (fun s5 s6 wr=>∃ (i j:Nat) (rj:List (List D)),s5=.int .i64 i∧s6=.int .i64 j∧Hid (Changed w wr (some b))∧Hid (OwnK wr 108 (rowN 2) rj (.slice (some ⟨b,0,none⟩) rows.length cap) (some b))∧Hid (KI C rows rj i j)) (fun _ s6 _=>rows.length - (intOf s6).toNat)
  case atStart=>exact ⟨k0,k0+1,rows,rfl,by go_num,Changed.of_below _ HB0.out,ownN_below HO.out HB0.out,HST.out⟩
  case round =>
   obtain ⟨i,j,rj,rfl,rfl,HC,HOW,HK⟩:=hrel
   have hij:=HK.out.lt
   have hjl:=HK.out.le
   have hrl:=HK.out.len
   by_cases hlt:j<rows.length
   ·have hrow:(rj.getD j [])=rows.getD j []:=HK.out.rest j (Nat.le_refl _)
    obtain ⟨cj0,_⟩:=ownN_cell HOW.out (i:=j) (j:=0) (by omega) (by omega)
    obtain ⟨ci0,fi0⟩:=ownN_cell HOW.out (i:=i) (j:=0) (by omega) (by omega)
    obtain ⟨cj1,_⟩:=ownN_cell HOW.out (i:=j) (j:=1) (by omega) (by omega)
    obtain ⟨ci1,fi1⟩:=ownN_cell HOW.out (i:=i) (j:=1) (by omega) (by omega)
    simp only [Nat.add_zero] at cj0 ci0 fi0
    have hbr:b<wr.heap.size:=by have:=HC.out.size; omega
    rw [hrow] at cj0 cj1
    have hcall:=fun (x:World) (hx:Below wr.heap.size wr x)=>HDEL.out x (gd (rows.getD j []) 0).int (gd (rows.getD j []) 1).int (HC.out.trans (Changed.of_below _ hx) (fun b hb=>.inl hb))
    rw [← hC] at hcall
    generalize hx0:(gd (rows.getD j []) 0).int=x0 at *
    generalize (gd (rj.getD i []) 0).int=o0 at *
    have HX0:Hid _:=hx0
    generalize hx1:(gd (rows.getD j []) 1).int=x1 at *
    generalize (gd (rj.getD i []) 1).int=o1 at *
    have HX1:Hid _:=hx1
    have HCALL:Hid _:=hcall
    clear hx0 hx1 hcall hrow
    cases hq:C (rows.getD j []) with
    | false =>
     have HQ:Hid _:=hq
     rw [hq] at HCALL
     clear hq
     go_wp2_with fail
     refine (HCALL.out _ ((Below.refl _ _).alloc (Nat.le_refl _) _)).mono ?_
     rintro e w2 ⟨rfl,hb2⟩
     have hsz2:=hb2.size
     have hnew:w2.heap[wr.heap.size]?=some (.cells #[.int .i64 x0,.int .i64 x1] 108 (0,0)):=(hb2.block wr.heap.size (by simp)).trans (by letI:Low:=noLow; exact heap_new wr _)
     have ex0:w2.cell? ⟨wr.heap.size,0,none⟩=some (.int .i64 x0):=by rw [cell_at hnew]; rfl
     have ex1:w2.cell? ⟨wr.heap.size,1,none⟩=some (.int .i64 x1):=by rw [cell_at hnew]; rfl
     clear hnew
     have hbb:w2.heap[b]?=wr.heap[b]?:=(hb2.block b (by simp; omega)).trans (Below.heap_alloc wr _ b hbr)
     have ei0:w2.cell? ⟨b,i*2,none⟩=some (.int .i64 o0):=(cell_of_heap hbb _).trans ci0
     have ef0:w2.frozen? ⟨b,i*2,none⟩=false:=by rw [← fi0]; unfold World.frozen?; simp only; rw [hbb]
     have ei1:w2.cell? ⟨b,i*2+1,none⟩=some (.int .i64 o1):=(cell_of_heap hbb _).trans ci1
     have ef1:w2.frozen? ⟨b,i*2+1,none⟩=false:=by rw [← fi1]; unfold World.frozen?; simp only; rw [hbb]
     have HB2:Hid _:=hb2
     have HBB:Hid _:=hbb
     clear hb2 hbb ci0 fi0 cj0 ci1 fi1 cj1
     go_wp2_with fail
     have hA:Below wr.heap.size wr w2:=((Below.refl _ _).alloc (Nat.le_refl _) _).trans (HB2.out.mono (by simp))
     have hrow2 : [Value.int .i64 x0,.int .i64 x1]=cellsR 2 (rows.getD j []):=by
      rw [← HX0.out,← HX1.out]; rfl
     obtain ⟨d1,d2,d3,d4,d5⟩:=setCells_else b [Value.int .i64 x0,.int .i64 x1] (i*2) w2
     refine ⟨⟨i+1,j+1,rj.set i (rows.getD j []),by go_num,by go_num,(show Hid _ from ?_),(show Hid _ from ?_),HK.out.keep hlt HQ.out⟩,by simp [intOf]; omega⟩
     ·exact (HC.out.trans (Changed.of_below _ hA) (fun b hb=>.inl hb)).trans ⟨d1,d2,d3,Nat.le_of_eq d4.symm,fun k hk hne=>d5 k (fun e=>hne (by rw [e]))⟩ (fun b hb=>.inl hb)
     ·have:=ownN_set (i:=i) HOW.out hrl (by omega) HBB.out (rows.getD j [])
      rw [← hrow2] at this
      exact this
    | true =>
     have HQ:Hid _:=hq
     rw [hq] at HCALL
     clear hq ci0 fi0 ci1 fi1
     go_wp2_with fail
     refine (HCALL.out _ ((Below.refl _ _).alloc (Nat.le_refl _) _)).mono ?_
     rintro e w2 ⟨rfl,hb2⟩
     have HB2:Hid _:=hb2
     clear hb2 cj0 cj1
     go_wp2_with fail
     have hA:Below wr.heap.size wr w2:=((Below.refl _ _).alloc (Nat.le_refl _) _).trans (HB2.out.mono (by simp))
     exact ⟨⟨i,j+1,rj,rfl,by go_num,HC.out.trans (Changed.of_below _ hA) (fun b hb=>.inl hb),ownN_below HOW.out hA,HK.out.skip hlt HQ.out⟩,by simp [intOf]; omega⟩
   ·obtain rfl:j=rows.length:=by omega
    have hcells:∀ k,k<rows.length*2→(wr.cell? ⟨b,k,none⟩).isSome=true∧wr.frozen? ⟨b,k,none⟩=false:=fun k hk=>by
     obtain ⟨q1,q2⟩:=ownN_cell HOW.out (i:=k / 2) (j:=k % 2) (by omega) (by omega)
     rw [show k / 2*2+k % 2=k from by omega] at q1 q2
     exact ⟨by rw [q1]; rfl,q2⟩
    have hzs:zcN_Cell.cells.size=2:=rfl
    have hcl:∀ ty,(Builtin.clear_ #[33] ty #[.slice (some ⟨b,i*2,none⟩) (rows.length - i) (cap - i)]).run Tryz.prog wr=.ok (.tuple #[]) (wr.setCells b (i*2) (Builtin.zeroCells zcN_Cell.cells (rows.length - i)).toList):=fun ty =>
     run_clear3 wr _ _ ty zcN_Cell Tryz.underlying33 zcN_Cell_run (fun u hu=>by simp [Value.cells] at hu; subst hu; rfl) b (i*2) _ _ (by omega) (by decide)
      (fun k hk=>(hcells (i*2+k) (by rw [hzs] at hk; omega)).1) (fun k hk=>(hcells (i*2+k) (by rw [hzs] at hk; omega)).2)
    have HCL:Hid _:=hcl
    have b1:i≤cap:=by omega
    have b2:i≤rows.length:=by omega
    have b3:¬ (cap=i):=by omega
    clear hcells hzs
    go_wp2
    go_ret
    have hfin:keptR C rows=rj.take i:=by
     have:=HK.out.done
     rw [List.take_of_length_le (Nat.le_refl _)] at this
     exact this.symm
    rw [hfin]
    obtain ⟨d1,d2,d3,d4,d5⟩:=setCells_else b (Builtin.zeroCells zcN_Cell.cells (rows.length - i)).toList (i*2) wr
    refine ⟨_,some b,rfl,HC.out.trans ⟨d1,d2,d3,Nat.le_of_eq d4.symm,fun k hk hne=>d5 k (fun e=>hne (by rw [e]))⟩ (fun b hb=>.inl hb),?_,fun b hb=>.inl hb⟩
    rcases ownN_at HOW.out with ⟨h0,_⟩ | ⟨b',cap',arr',hb,hu,hle',h63',hh',hs',hc'⟩
    ·cases h0
    ·injection hb with hb
     subst hb
     injection hu with _ _ hu2
     subst hu2
     obtain ⟨arr2,a1,a2,a3,a4⟩:=setCells_heap b 108 (0,0) (Builtin.zeroCells zcN_Cell.cells (rows.length - i)).toList (i*2) wr arr' hh' (by
      have:(Builtin.zeroCells zcN_Cell.cells (rows.length - i)).toList.length=(rows.length - i)*2:=by simp [size_zeroCells,show zcN_Cell.cells.size=2 from rfl]
      rw [this,hs']; omega)
     have hl:(rj.take i).length=i:=by rw [List.length_take]; omega
     have:=ownN_mk (rows:=rj.take i) a1 (by rw [a2,hs']) (by omega) h63' (fun k m hk hm=>by
      rw [hl] at hk
      rw [List.getD_eq_getElem?_getD,List.getElem?_take,if_pos hk,← List.getD_eq_getElem?_getD]
      rw [a3 _ (.inl (by omega))]
      exact hc' k m (by omega) hm)
     rwa [hl] at this
end Go.Proofs.YtpdfmcmnjikppaaGreat
namespace Go.Proofs.YtpdfmcmnjikppaaGreat
set_option maxRecDepth 4096
set_option maxHeartbeats 1000000
abbrev i_within_1T:FuncId→List T→Option (T × Bool):=find [i_RhasE]
theorem i_within_1T_ok:CallOk Tryz.prog i_within_1T:=find_ok (fC ⟨i_Rhas_ok,fN⟩)
abbrev i_within_1K:List Nat:= [0,1,2,3,4]
theorem i_within_1_ev (N:Nat) (p q r:List D):evFn Tryz.prog i_within_1T N i_within_1K Tryz.f246 rb [⟨ag rICell,p⟩,⟨.one (.c (.cptr [si,si] 0)),q⟩,⟨.one (.c (.cptr [.bool] 0)),r⟩]=some (bo,
 ob (!((inB (gd p 0).int (gd ((gd q 0).rows.getD 0 []) 0).int (w64 ((gd ((gd q 0).rows.getD 0 []) 1).int - 1)))==(gd ((gd r 0).rows.getD 0 []) 0).bool))):=by kernel_rfl
def i_within_1F (p q r:List D):Bool:=
 !((inB (gd p 0).int (gd ((gd q 0).rows.getD 0 []) 0).int (w64 ((gd ((gd q 0).rows.getD 0 []) 1).int - 1)))==(gd ((gd r 0).rows.getD 0 []) 0).bool)
def i_within_1E:Ent:=(246,e3 (ag rICell) (.one (.c (.cptr [si,si] 0))) (.one (.c (.cptr [.bool] 0))) fun p q r=>(⟨rb,[.b (i_within_1F p [gd q 0] [gd r 0])]⟩,true))
theorem i_within_1_ok:EntOk Tryz.prog i_within_1E:=e3_ok fun p q r h=>evFn_sound (N:=0) (ks:=i_within_1K) (key:=bo) i_within_1T_ok (enters Tryz.func246) Tryz.func246 fun hw=>by
 rw [i_within_1_ev]
 try simp only [cond_ob,cond_oi,cond_os]
 rfl
abbrev ixfWIT:FuncId→List T→Option (T × Bool):=find [i_within_1E]
theorem ixfWIT_ok:CallOk Tryz.prog ixfWIT:=find_ok (fC ⟨i_within_1_ok,fN⟩)
abbrev ixfWIK:List Nat:= [0,1,4,5,7,8,9,16]
noncomputable def ixfWIL0 (N:Nat) (p q:List D):List D→Out:=loopOf Tryz.prog ixfWIT N ixfWIK Tryz.f221 ri [⟨sd (.sl 108),p⟩,⟨.one (.c (.fn 246 [.cptr [si,si] 0,.cptr [.bool] 0])),q⟩] 0
theorem ixfWIR0 (N:Nat) (p q:List D) (x0 x1 x2 x3 x4:D):(ixfWIL0 N p q) [x0,x1,x2,x3,x4] =
 bif ltI x4.int x3.int then nd (inRange x4.int x0.rows.length) (bif i_within_1F (sub (x0.rows.getD x4.int.toNat []) 0 2) [gd (x1.rows.getD 0 []) 0] [gd (x1.rows.getD 0 []).tail 0] then some (1,[x4])
 else nx [x0,x1,x2,x3,.i (w64 (x4.int+1))])
 else ex 0 [x0,x1,x2,x3,x4]:=by kernel_rfl
theorem ixfWI_ev (N:Nat) (p q:List D):evFn Tryz.prog ixfWIT N ixfWIK Tryz.f221 ri [⟨sd (.sl 108),p⟩,⟨.one (.c (.fn 246 [.cptr [si,si] 0,.cptr [.bool] 0])),q⟩]=some (bo,
 (let o0:=iter (ixfWIL0 N p q) N [gd p 0,gd q 0,.i 0,.i ((gd p 0).rows.length:Int),.i 0]
  nd o0.isSome (bif o0.code==1 then some (1,o0.pay)
  else nd (o0.code==2) (oi (-1))))):=by kernel_rfl
def ixfWIC (c:D) (r:List D):Bool:=i_within_1F r [gd (c.rows.getD 0 []) 0] [gd (c.rows.getD 0 []).tail 0]
def ixfWIE:Ent:=(221,e2 (sd (.sl 108)) (.one (.c (.fn 246 [.cptr [si,si] 0,.cptr [.bool] 0]))) fun p q=>(⟨ri,[.i (ixF (fun k=>ixfWIC (gd q 0) (sub ((gd p 0).rows.getD k []) 0 2)) 0 (gd p 0).rows.length)]⟩,true))
theorem ixfWI_ok:EntOk Tryz.prog ixfWIE:=e2_ok fun p q h=>evFn_sound (N:=(gd p 0).rows.length+1) (ks:=ixfWIK) (key:=bo) ixfWIT_ok (enters Tryz.func221) Tryz.func221 fun hw=>by
 rw [ixfWI_ev]
 have hl:=wt_sl (hw ⟨sd (.sl 108),p⟩ (by simp))
 have e:=ix_loop (L:=ixfWIL0 ((gd p 0).rows.length+1) p q) (fun k => [gd p 0,gd q 0,.i 0,.i ((gd p 0).rows.length:Int),.i (k:Int)]) (gd p 0).rows.length (fun k=>ixfWIC (gd q 0) (sub ((gd p 0).rows.getD k []) 0 2)) [gd p 0,gd q 0,.i 0,.i ((gd p 0).rows.length:Int),.i ((gd p 0).rows.length:Int)] (fun k hk=>?_) ?_ (gd p 0).rows.length 0 ((gd p 0).rows.length+1) (by omega) (by omega)
 ·simp only [Int.natCast_zero] at e
  rw [e]
  have hno:=ixF_neg (fun k=>ixfWIC (gd q 0) (sub ((gd p 0).rows.getD k []) 0 2)) (gd p 0).rows.length 0
  cases hd:decide (ixF (fun k=>ixfWIC (gd q 0) (sub ((gd p 0).rows.getD k []) 0 2)) 0 (gd p 0).rows.length≥0)
  ·rw [hno hd]; rfl
  ·rfl
 ·show ixfWIL0 _ p q [_,_,_,_,.i (k:Int)]=_
  rw [ixfWIR0]
  simp only [int_i,c_lt hk,nd_ix hk,w64_succ hk hl,Int.toNat_natCast]
  change (bif ixfWIC (gd q 0) (sub ((gd p 0).rows.getD k []) 0 2) then some (1,[.i (k:Int)]) else nx [gd p 0,gd q 0,.i 0,.i ((gd p 0).rows.length:Int),.i ((k+1:Nat):Int)])=_
  cases ixfWIC (gd q 0) (sub ((gd p 0).rows.getD k []) 0 2) <;> rfl
 ·show ixfWIL0 _ p q [_,_,_,.i ((gd p 0).rows.length:Int),.i ((gd p 0).rows.length:Int)]=_
  rw [ixfWIR0]
  simp only [int_i,c_nlt]
abbrev i_LocksDrop_1T:FuncId→List T→Option (T × Bool):=find []
theorem i_LocksDrop_1T_ok:CallOk Tryz.prog i_LocksDrop_1T:=find_ok (fN)
abbrev i_LocksDrop_1K:List Nat:= [0,1,2,3]
theorem i_LocksDrop_1_ev (N:Nat) (p q:List D):evFn Tryz.prog i_LocksDrop_1T N i_LocksDrop_1K Tryz.f194 rb [⟨ag rILock,p⟩,⟨.one (.c (.cptr [si] 0)),q⟩]=some (bo,
 ob ((gd p 0).int==(gd ((gd q 0).rows.getD 0 []) 0).int)):=by kernel_rfl
def i_LocksDrop_1F (p q:List D):Bool:=
 (gd p 0).int==(gd ((gd q 0).rows.getD 0 []) 0).int
def i_LocksDrop_1E:Ent:=(194,e2 (ag rILock) (.one (.c (.cptr [si] 0))) fun p q=>(⟨rb,[.b (i_LocksDrop_1F p [gd q 0])]⟩,true))
theorem i_LocksDrop_1_ok:EntOk Tryz.prog i_LocksDrop_1E:=e2_ok fun p q h=>evFn_sound (N:=0) (ks:=i_LocksDrop_1K) (key:=bo) i_LocksDrop_1T_ok (enters Tryz.func194) Tryz.func194 fun hw=>by
 rw [i_LocksDrop_1_ev]
 try simp only [cond_ob,cond_oi,cond_os]
 rfl
abbrev ixfLDT:FuncId→List T→Option (T × Bool):=find [i_LocksDrop_1E]
theorem ixfLDT_ok:CallOk Tryz.prog ixfLDT:=find_ok (fC ⟨i_LocksDrop_1_ok,fN⟩)
abbrev ixfLDK:List Nat:= [0,1,4,5,7,8,9,16]
noncomputable def ixfLDL0 (N:Nat) (p q:List D):List D→Out:=loopOf Tryz.prog ixfLDT N ixfLDK Tryz.f234 ri [⟨sd (.sl 93),p⟩,⟨.one (.c (.fn 194 [.cptr [si] 0])),q⟩] 0
theorem ixfLDR0 (N:Nat) (p q:List D) (x0 x1 x2 x3 x4:D):(ixfLDL0 N p q) [x0,x1,x2,x3,x4] =
 bif ltI x4.int x3.int then nd (inRange x4.int x0.rows.length) (bif i_LocksDrop_1F (sub (x0.rows.getD x4.int.toNat []) 0 4) [gd (x1.rows.getD 0 []) 0] then some (1,[x4])
 else nx [x0,x1,x2,x3,.i (w64 (x4.int+1))])
 else ex 0 [x0,x1,x2,x3,x4]:=by kernel_rfl
theorem ixfLD_ev (N:Nat) (p q:List D):evFn Tryz.prog ixfLDT N ixfLDK Tryz.f234 ri [⟨sd (.sl 93),p⟩,⟨.one (.c (.fn 194 [.cptr [si] 0])),q⟩]=some (bo,
 (let o0:=iter (ixfLDL0 N p q) N [gd p 0,gd q 0,.i 0,.i ((gd p 0).rows.length:Int),.i 0]
  nd o0.isSome (bif o0.code==1 then some (1,o0.pay)
  else nd (o0.code==2) (oi (-1))))):=by kernel_rfl
def ixfLDC (c:D) (r:List D):Bool:=i_LocksDrop_1F r [gd (c.rows.getD 0 []) 0]
def ixfLDE:Ent:=(234,e2 (sd (.sl 93)) (.one (.c (.fn 194 [.cptr [si] 0]))) fun p q=>(⟨ri,[.i (ixF (fun k=>ixfLDC (gd q 0) (sub ((gd p 0).rows.getD k []) 0 4)) 0 (gd p 0).rows.length)]⟩,true))
theorem ixfLD_ok:EntOk Tryz.prog ixfLDE:=e2_ok fun p q h=>evFn_sound (N:=(gd p 0).rows.length+1) (ks:=ixfLDK) (key:=bo) ixfLDT_ok (enters Tryz.func234) Tryz.func234 fun hw=>by
 rw [ixfLD_ev]
 have hl:=wt_sl (hw ⟨sd (.sl 93),p⟩ (by simp))
 have e:=ix_loop (L:=ixfLDL0 ((gd p 0).rows.length+1) p q) (fun k => [gd p 0,gd q 0,.i 0,.i ((gd p 0).rows.length:Int),.i (k:Int)]) (gd p 0).rows.length (fun k=>ixfLDC (gd q 0) (sub ((gd p 0).rows.getD k []) 0 4)) [gd p 0,gd q 0,.i 0,.i ((gd p 0).rows.length:Int),.i ((gd p 0).rows.length:Int)] (fun k hk=>?_) ?_ (gd p 0).rows.length 0 ((gd p 0).rows.length+1) (by omega) (by omega)
 ·simp only [Int.natCast_zero] at e
  rw [e]
  have hno:=ixF_neg (fun k=>ixfLDC (gd q 0) (sub ((gd p 0).rows.getD k []) 0 4)) (gd p 0).rows.length 0
  cases hd:decide (ixF (fun k=>ixfLDC (gd q 0) (sub ((gd p 0).rows.getD k []) 0 4)) 0 (gd p 0).rows.length≥0)
  ·rw [hno hd]; rfl
  ·rfl
 ·show ixfLDL0 _ p q [_,_,_,_,.i (k:Int)]=_
  rw [ixfLDR0]
  simp only [int_i,c_lt hk,nd_ix hk,w64_succ hk hl,Int.toNat_natCast]
  unfold ixfLDC
  cases i_LocksDrop_1F (sub ((gd p 0).rows.getD k []) 0 4) [gd ((gd q 0).rows.getD 0 []) 0] <;> rfl
 ·show ixfLDL0 _ p q [_,_,_,.i ((gd p 0).rows.length:Int),.i ((gd p 0).rows.length:Int)]=_
  rw [ixfLDR0]
  simp only [int_i,c_nlt]
end Go.Proofs.YtpdfmcmnjikppaaGreat
namespace Go.Proofs.YtpdfmcmnjikppaaGreat
set_option maxRecDepth 100000
set_option maxHeartbeats 4000000
open Go.RowKit Go.Lib
def keptWI (x c:D):D:=.l (keptR (fun r=>ixfWIC c (sub r 0 2)) x.rows)
def i_delfWIE:Ent:=(245,e2 (sd (.sl 108)) (.one (.c (.fn 246 [.cptr [si,si] 0,.cptr [.bool] 0]))) fun p q=>(⟨.tup [.agg [.any]],[keptWI (gd p 0) (gd q 0)]⟩,true))
theorem i_delfWI_ok:EntOk Tryz.prog i_delfWIE:=e2_ok fun p q h=>by
 refine SoundFn.ofK rfl ⟨enters Tryz.func245 (by kernel_rfl) (by kernel_rfl),fun e x rest row he hrow hflat w prot u B vs hO hB hfr hargs hko=>?_⟩
 injection he with he hre
 injection he with he hp
 injection he with he
 injection he with he
 injection he with he
 injection he with he
 subst he hre
 have hx:gd p 0=x:=by rw [hp]; rfl
 rw [show rowOf Tryz.prog 108=some (rowN 2) from by kernel_rfl] at hrow
 injection hrow with hrow
 subst hrow
 obtain ⟨f0,hf0,fa,hfe,hfs,hfc⟩:∃ f0,vs = #[f0]∧∃ fa:Array Value,f0=.func (.func 246) #[] fa∧fa.size=2∧∀ w'',Changed w w'' B→(∃ z,fa[0]?=some z∧CptrV Tryz.prog w'' (g0 w''.heap.size prot) w''.heap.size [si,si] 0 (gd ((gd q 0).rows.getD 0 []) 0) z)∧(∃ z,fa[1]?=some z∧CptrV Tryz.prog w'' (g0 w''.heap.size prot) w''.heap.size [.bool] 0 (gd ((gd q 0).rows.getD 0 []).tail 0) z):=by
  have hg:=fun w'' (hC:Changed w w'' B)=>(hargs w'' hC).2 0 _ rfl
  obtain ⟨f0,h1,fa,h2,h3,h4⟩:=hg w (Changed.refl w B)
  refine ⟨f0,args_at (hargs w (Changed.refl w B)) [f0] rfl fun j t u' hj hu=>?_,fa,h2,h3,fun w'' hC=>?_⟩
  ·match j,hj with
   | 0,_=>rw [h1] at hu; injection hu with hu; rw [← hu]; rfl
  ·obtain ⟨f1,k1,fb,k2,k3,k4⟩:=hg w'' hC
   rw [h1] at k1; injection k1 with k1
   subst k1
   rw [h2] at k2
   injection k2 with _ _ k2
   subst k2
   exact ⟨by exact k4 0 _ rfl,by rw [gd_tail]; exact k4 1 _ rfl⟩
 subst hf0 hfe
 let C:List D→Bool:=fun r=>ixfWIC (gd q 0) (sub r 0 2)
 have hcap0:∀ w'' prot',Changed w w'' B→∃ z,fa[0]?=some z∧CptrV Tryz.prog w'' (g0 w''.heap.size prot') w''.heap.size [si,si] 0 (gd ((gd q 0).rows.getD 0 []) 0) z:=by
  intro w'' prot' hC
  obtain ⟨z,h1,b,o,h2,h3,h4⟩:=(hfc w'' hC).1
  refine ⟨z,h1,b,o,h2,h3,fun j s hs=>?_⟩
  obtain ⟨u',k1,k2⟩:=h4 j s hs
  have hsi:s=si:=by
   match j,hs with
   | 0,hs=>injection hs with hs; exact hs.symm
   | 1,hs=>injection hs with hs; exact hs.symm
  subst hsi
  exact ⟨u',k1,by cases k2; exact .int _ _⟩
 have hcap1:∀ w'' prot',Changed w w'' B→∃ z,fa[1]?=some z∧CptrV Tryz.prog w'' (g0 w''.heap.size prot') w''.heap.size [.bool] 0 (gd ((gd q 0).rows.getD 0 []).tail 0) z:=by
  intro w'' prot' hC
  obtain ⟨z,h1,b,o,h2,h3,h4⟩:=(hfc w'' hC).2
  refine ⟨z,h1,b,o,h2,h3,fun j s hs=>?_⟩
  obtain ⟨u',k1,k2⟩:=h4 j s hs
  have hsi:s=.bool:=by
   match j,hs with
   | 0,hs=>injection hs with hs; exact hs.symm
  subst hsi
  exact ⟨u',k1,by cases k2; exact .bool _⟩
 have hfa:fa.toList.length=2:=by simpa using hfs
 have hmain:=delfCell_calls hO 246 fa C (fun r=>rfl) (enters Tryz.func246) ?_ ?_
 ·show Calls _ _ #[u,.func (.func 246) #[] fa] w fun ex w'=>∃ v' B',ex=.returned v'∧Changed w w' B∧OwnK w' _ _ (keptR C (gd p 0).rows) v' B'∧_
  rw [hx]
  exact hmain
 ·-- the search
  have hs:=ixfWI_ok [⟨sd (.sl 108),[x]⟩,⟨.one (.c (.fn 246 [.cptr [si,si] 0,.cptr [.bool] 0])),q⟩] ⟨ri,[.i (ixF (fun k=>C (x.rows.getD k [])) 0 x.rows.length)]⟩ rfl
  have hs:=(hs.n rfl).2 w (fun b=>if B=some b then x.rows.length*2 else prot b) #[u,.func (.func 246) #[] fa] ⟨rfl,fun j t hj=>?_⟩ (fun b hb=>?_)
  ·refine hs.mono ?_
   rintro ex w' ⟨v',g',rfl,hR⟩
   have hv:VD Tryz.prog w' g'.prot (.int .i64) (.i (ixF (fun k=>C (x.rows.getD k [])) 0 x.rows.length)) v':=hR.val
   cases hv
   exact ⟨rfl,hR.below⟩
  ·match j,hj with
   | 0,hj =>
    injection hj with hj; subst hj
    refine ⟨u,rfl,?_⟩
    have:=ownK_vd (P:=Tryz.prog) (z:=x) (show rowOf Tryz.prog 108=some (rowN 2) from by kernel_rfl) hO
    exact this.mono fun b o z h1 h2=>⟨h2,by
     change o<(if B=some b then x.rows.length*2 else 0) at h1
     show o<(if B=some b then x.rows.length*2 else prot b)
     split at h1
     ·rw [if_pos ‹_›]; exact h1
     ·omega⟩
   | 1,hj =>
    injection hj with hj; subst hj
    refine ⟨_,rfl,fa,rfl,hfs,fun j c hc=>?_⟩
    match j,hc with
    | 0,hc =>
     injection hc with hc; subst hc
     exact hcap0 w _ (Changed.refl w B)
    | 1,hc =>
     injection hc with hc; subst hc
     exact by rw [show gd ((gd q 0).rows.getD 0 []) 1=gd ((gd q 0).rows.getD 0 []).tail 0 from by rw [gd_tail]]; exact hcap1 w _ (Changed.refl w B)
  ·show (if B=some b then _ else prot b)=0
   rw [if_neg (fun e=>by have:=ownK_size hO b e; omega)]
   exact hfr b hb
 ·intro w'' x0 x1 hC
  have hs:=i_within_1_ok [⟨ag rICell,[.i x0,.i x1]⟩,⟨.one (.c (.cptr [si,si] 0)),[gd ((gd q 0).rows.getD 0 []) 0]⟩,⟨.one (.c (.cptr [.bool] 0)),[gd ((gd q 0).rows.getD 0 []).tail 0]⟩] ⟨rb,[.b (C [.i x0,.i x1])]⟩ rfl
  have hs:=(hs.n rfl).2 w'' (fun _=>0) (#[.agg #[.int .i64 x0,.int .i64 x1]]++fa) ⟨by rw [Array.size_append,hfs]; rfl,fun j t hj=>?_⟩ (fun b hb=>rfl)
  ·refine hs.mono ?_
   rintro ex w' ⟨v',g',rfl,hR⟩
   have hv:VD Tryz.prog w' g'.prot .bool (.b (C [.i x0,.i x1])) v':=hR.val
   cases hv
   exact ⟨rfl,hR.below⟩
  ·match j,hj with
   | 0,hj =>
    injection hj with hj; subst hj
    refine ⟨.agg #[.int .i64 x0,.int .i64 x1],Array.getElem?_append_left (xs:= #[Value.agg #[.int .i64 x0,.int .i64 x1]]) (i:=0) (by show 0<1; omega),#[.int .i64 x0,.int .i64 x1],rfl,rfl,fun j cc hcc=>?_⟩
    match j,hcc with
    | 0,hcc=>injection hcc with hcc; subst hcc; exact ⟨_,rfl,.int .i64 (.i x0)⟩
    | 1,hcc=>injection hcc with hcc; subst hcc; exact ⟨_,rfl,.int .i64 (.i x1)⟩
   | 1,hj =>
    injection hj with hj; subst hj
    obtain ⟨z,h1,h2⟩:=hcap0 w'' (fun _=>0) hC
    refine ⟨z,?_,h2⟩
    exact (Array.getElem?_append_right (xs:= #[Value.agg #[.int .i64 x0,.int .i64 x1]]) (i:=1) (by show 1≤1; omega)).trans h1
   | 2,hj =>
    injection hj with hj; subst hj
    obtain ⟨z,h1,h2⟩:=hcap1 w'' (fun _=>0) hC
    refine ⟨z,?_,h2⟩
    exact (Array.getElem?_append_right (xs:= #[Value.agg #[.int .i64 x0,.int .i64 x1]]) (i:=2) (by show 1≤2; omega)).trans h1
def keptLD (x c:D):D:=.l (keptR (fun r=>ixfLDC c (sub r 0 4)) x.rows)
def i_delfLDE:Ent:=(164,e2 (sd (.sl 93)) (.one (.c (.fn 194 [.cptr [si] 0]))) fun p q=>(⟨.tup [.agg [.any]],[keptLD (gd p 0) (gd q 0)]⟩,true))
theorem i_delfLD_ok:EntOk Tryz.prog i_delfLDE:=e2_ok fun p q h=>by
 refine SoundFn.ofK rfl ⟨enters Tryz.func164 (by kernel_rfl) (by kernel_rfl),fun e x rest row he hrow hflat w prot u B vs hO hB hfr hargs hko=>?_⟩
 injection he with he hre
 injection he with he hp
 injection he with he
 injection he with he
 injection he with he
 injection he with he
 subst he hre
 have hx:gd p 0=x:=by rw [hp]; rfl
 rw [show rowOf Tryz.prog 93=some (rowN 4) from by kernel_rfl] at hrow
 injection hrow with hrow
 subst hrow
 obtain ⟨f0,hf0,fa,hfe,hfs,hfc⟩:∃ f0,vs = #[f0]∧∃ fa:Array Value,f0=.func (.func 194) #[] fa∧fa.size=1∧∀ w'',Changed w w'' B→(∃ z,fa[0]?=some z∧CptrV Tryz.prog w'' (g0 w''.heap.size prot) w''.heap.size [si] 0 (gd ((gd q 0).rows.getD 0 []) 0) z):=by
  have hg:=fun w'' (hC:Changed w w'' B)=>(hargs w'' hC).2 0 _ rfl
  obtain ⟨f0,h1,fa,h2,h3,h4⟩:=hg w (Changed.refl w B)
  refine ⟨f0,args_at (hargs w (Changed.refl w B)) [f0] rfl fun j t u' hj hu=>?_,fa,h2,h3,fun w'' hC=>?_⟩
  ·match j,hj with
   | 0,_=>rw [h1] at hu; injection hu with hu; rw [← hu]; rfl
  ·obtain ⟨f1,k1,fb,k2,k3,k4⟩:=hg w'' hC
   rw [h1] at k1; injection k1 with k1
   subst k1
   rw [h2] at k2
   injection k2 with _ _ k2
   subst k2
   exact k4 0 _ rfl
 subst hf0 hfe
 let C:List D→Bool:=fun r=>ixfLDC (gd q 0) (sub r 0 4)
 have hcap0:∀ w'' prot',Changed w w'' B→∃ z,fa[0]?=some z∧CptrV Tryz.prog w'' (g0 w''.heap.size prot') w''.heap.size [si] 0 (gd ((gd q 0).rows.getD 0 []) 0) z:=by
  intro w'' prot' hC
  obtain ⟨z,h1,b,o,h2,h3,h4⟩:=hfc w'' hC
  refine ⟨z,h1,b,o,h2,h3,fun j s hs=>?_⟩
  obtain ⟨u',k1,k2⟩:=h4 j s hs
  have hsi:s=si:=by
   match j,hs with
   | 0,hs=>injection hs with hs; exact hs.symm
  subst hsi
  exact ⟨u',k1,by cases k2; exact .int _ _⟩
 have hfa:fa.toList.length=1:=by simpa using hfs
 have hmain:=delfLock_calls hO 194 fa C (fun r=>rfl) (enters Tryz.func194) ?_ ?_
 ·show Calls _ _ #[u,.func (.func 194) #[] fa] w fun ex w'=>∃ v' B',ex=.returned v'∧Changed w w' B∧OwnK w' _ _ (keptR C (gd p 0).rows) v' B'∧_
  rw [hx]
  exact hmain
 ·-- the search
  have hs:=ixfLD_ok [⟨sd (.sl 93),[x]⟩,⟨.one (.c (.fn 194 [.cptr [si] 0])),q⟩] ⟨ri,[.i (ixF (fun k=>C (x.rows.getD k [])) 0 x.rows.length)]⟩ rfl
  have hs:=(hs.n rfl).2 w (fun b=>if B=some b then x.rows.length*4 else prot b) #[u,.func (.func 194) #[] fa] ⟨rfl,fun j t hj=>?_⟩ (fun b hb=>?_)
  ·refine hs.mono ?_
   rintro ex w' ⟨v',g',rfl,hR⟩
   have hv:VD Tryz.prog w' g'.prot (.int .i64) (.i (ixF (fun k=>C (x.rows.getD k [])) 0 x.rows.length)) v':=hR.val
   cases hv
   exact ⟨rfl,hR.below⟩
  ·match j,hj with
   | 0,hj =>
    injection hj with hj; subst hj
    refine ⟨u,rfl,?_⟩
    have:=ownK_vd (P:=Tryz.prog) (z:=x) (show rowOf Tryz.prog 93=some (rowN 4) from by kernel_rfl) hO
    exact this.mono fun b o z h1 h2=>⟨h2,by
     change o<(if B=some b then x.rows.length*4 else 0) at h1
     show o<(if B=some b then x.rows.length*4 else prot b)
     split at h1
     ·rw [if_pos ‹_›]; exact h1
     ·omega⟩
   | 1,hj =>
    injection hj with hj; subst hj
    refine ⟨_,rfl,fa,rfl,hfs,fun j c hc=>?_⟩
    match j,hc with
    | 0,hc =>
     injection hc with hc; subst hc
     exact hcap0 w _ (Changed.refl w B)
  ·show (if B=some b then _ else prot b)=0
   rw [if_neg (fun e=>by have:=ownK_size hO b e; omega)]
   exact hfr b hb
 ·intro w'' x0 x1 x2 x3 hC
  have hs:=i_LocksDrop_1_ok [⟨ag rILock,[.i x0,.i x1,.i x2,.i x3]⟩,⟨.one (.c (.cptr [si] 0)),[gd ((gd q 0).rows.getD 0 []) 0]⟩] ⟨rb,[.b (C [.i x0,.i x1,.i x2,.i x3])]⟩ rfl
  have hs:=(hs.n rfl).2 w'' (fun _=>0) (#[.agg #[.int .i64 x0,.int .i64 x1,.int .i64 x2,.int .i64 x3]]++fa) ⟨by rw [Array.size_append,hfs]; rfl,fun j t hj=>?_⟩ (fun b hb=>rfl)
  ·refine hs.mono ?_
   rintro ex w' ⟨v',g',rfl,hR⟩
   have hv:VD Tryz.prog w' g'.prot .bool (.b (C [.i x0,.i x1,.i x2,.i x3])) v':=hR.val
   cases hv
   exact ⟨rfl,hR.below⟩
  ·match j,hj with
   | 0,hj =>
    injection hj with hj; subst hj
    refine ⟨.agg #[.int .i64 x0,.int .i64 x1,.int .i64 x2,.int .i64 x3],Array.getElem?_append_left (xs:= #[Value.agg #[.int .i64 x0,.int .i64 x1,.int .i64 x2,.int .i64 x3]]) (i:=0) (by show 0<1; omega),#[.int .i64 x0,.int .i64 x1,.int .i64 x2,.int .i64 x3],rfl,rfl,fun j cc hcc=>?_⟩
    match j,hcc with
    | 0,hcc=>injection hcc with hcc; subst hcc; exact ⟨_,rfl,.int .i64 (.i x0)⟩
    | 1,hcc=>injection hcc with hcc; subst hcc; exact ⟨_,rfl,.int .i64 (.i x1)⟩
    | 2,hcc=>injection hcc with hcc; subst hcc; exact ⟨_,rfl,.int .i64 (.i x2)⟩
    | 3,hcc=>injection hcc with hcc; subst hcc; exact ⟨_,rfl,.int .i64 (.i x3)⟩
   | 1,hj =>
    injection hj with hj; subst hj
    obtain ⟨z,h1,h2⟩:=hcap0 w'' (fun _=>0) hC
    refine ⟨z,?_,h2⟩
    exact (Array.getElem?_append_right (xs:= #[Value.agg #[.int .i64 x0,.int .i64 x1,.int .i64 x2,.int .i64 x3]]) (i:=1) (by show 1≤1; omega)).trans h1
end Go.Proofs.YtpdfmcmnjikppaaGreat
namespace Go.Proofs.YtpdfmcmnjikppaaGreat
set_option maxRecDepth 4096
set_option maxHeartbeats 1000000
abbrev i_withinT:FuncId→List T→Option (T × Bool):=find [i_StoreOkE,i_RangeOkE,i_clonCE,i_delfWIE]
theorem i_withinT_ok:CallOk Tryz.prog i_withinT:=find_ok (fC ⟨i_StoreOk_ok,fC ⟨i_RangeOk_ok,fC ⟨i_clonC_ok,fC ⟨i_delfWI_ok,fN⟩⟩⟩⟩)
abbrev i_withinK:List Nat:= [0,1,2,4,5,6,14]
theorem i_within_ev (N:Nat) (p q r:List D):evFn Tryz.prog i_withinT N i_withinK Tryz.f178 (.one (.c (.own (0,0) true 108))) [⟨sd (.sl 108),p⟩,⟨ag rIRange,q⟩,⟨rb,r⟩]=some (bo,
 bif !(storeOk (gd p 0)) then some (1,[.l []])
 else bif !(rangeOk (sub q 0 2)) then some (1,[.l []])
 else nd (leI ((gd p 0).rows.length:Int) 1000000) (some (1,[keptWI (.l (gd p 0).rows) (.l [[.l [sub q 0 2],.l [[gd r 0]]]])]))):=by kernel_rfl
def withinD (z:D) (a:List D) (inn:D):D:=bif storeOk z&&rangeOk (sub a 0 2) then keptWI (.l z.rows) (.l [[.l [sub a 0 2],.l [[inn]]]]) else .l []
def i_withinE:Ent:=(178,e3 (sd (.sl 108)) (ag rIRange) rb fun p q r=>(⟨.one (.c (.own (0,0) true 108)),[withinD (gd p 0) q (gd r 0)]⟩,true))
theorem i_within_ok:EntOk Tryz.prog i_withinE:=e3_ok fun p q r h=>evFn_sound (N:=0) (ks:=i_withinK) (key:=bo) i_withinT_ok (enters Tryz.func178) Tryz.func178 fun hw=>by
 rw [i_within_ev]
 refine congrArg (fun x=>some (bo,x)) ?_
 show _=some (1,[withinD (gd p 0) q (gd r 0)])
 unfold withinD
 cases h1:storeOk (gd p 0) with
 | false=>rfl
 | true =>
  cases rangeOk (sub q 0 2) with
  | false=>rfl
  | true =>
   rw [show leI ((gd p 0).rows.length:Int) 1000000=true from leI_t (by have h2:((gd p 0).rows.length:Int)≤60:=of_decide_eq_true ((Bool.and_eq_true _ _).mp h1).2; omega)]
   rfl
abbrev i_StoreScanT:FuncId→List T→Option (T × Bool):=find [i_withinE]
theorem i_StoreScanT_ok:CallOk Tryz.prog i_StoreScanT:=find_ok (fC ⟨i_within_ok,fN⟩)
abbrev i_StoreScanK:List Nat:= [0,1,3,4]
theorem i_StoreScan_ev (N:Nat) (p q:List D):evFn Tryz.prog i_StoreScanT N i_StoreScanK Tryz.f51 (.one (.c (.own (0,0) true 108))) [⟨sd (.sl 108),p⟩,⟨ag rIRange,q⟩]=some (bo,
 some (1,[withinD (gd p 0) (sub q 0 2) (.b true)])):=by kernel_rfl
def i_StoreScanE:Ent:=(51,e2 (sd (.sl 108)) (ag rIRange) fun p q=>(⟨.one (.c (.own (0,0) true 108)),[withinD (gd p 0) q (.b true)]⟩,true))
theorem i_StoreScan_ok:EntOk Tryz.prog i_StoreScanE:=e2_ok fun p q h=>evFn_sound (N:=0) (ks:=i_StoreScanK) (key:=bo) i_StoreScanT_ok (enters Tryz.func51) Tryz.func51 fun hw=>by
 rw [i_StoreScan_ev]
 rfl
abbrev i_LocksDropT:FuncId→List T→Option (T × Bool):=find [i_LocksOkE,i_clonLockE,i_delfLDE]
theorem i_LocksDropT_ok:CallOk Tryz.prog i_LocksDropT:=find_ok (fC ⟨i_LocksOk_ok,fC ⟨i_clonLock_ok,fC ⟨i_delfLD_ok,fN⟩⟩⟩)
abbrev i_LocksDropK:List Nat:= [0,1,3,4,7]
theorem i_LocksDrop_ev (N:Nat) (p q:List D):evFn Tryz.prog i_LocksDropT N i_LocksDropK Tryz.f78 (.one (.c (.own (0,0) true 93))) [⟨sd (.sl 93),p⟩,⟨ri,q⟩]=some (bo,
 bif !(locksOk (gd p 0)) then some (1,[.l []])
 else nd (leI ((gd p 0).rows.length:Int) 2000000) (some (1,[keptLD (.l (gd p 0).rows) (.l [[.l [[gd q 0]]]])]))):=by kernel_rfl
def dropD (z n:D):D:=bif locksOk z then keptLD (.l z.rows) (.l [[.l [[n]]]]) else .l []
def i_LocksDropE:Ent:=(78,e2 (sd (.sl 93)) ri fun p q=>(⟨.one (.c (.own (0,0) true 93)),[dropD (gd p 0) (gd q 0)]⟩,true))
theorem i_LocksDrop_ok:EntOk Tryz.prog i_LocksDropE:=e2_ok fun p q h=>evFn_sound (N:=0) (ks:=i_LocksDropK) (key:=bo) i_LocksDropT_ok (enters Tryz.func78) Tryz.func78 fun hw=>by
 rw [i_LocksDrop_ev]
 refine congrArg (fun x=>some (bo,x)) ?_
 show _=some (1,[dropD (gd p 0) (gd q 0)])
 unfold dropD
 cases h1:locksOk (gd p 0) with
 | false=>rfl
 | true =>
  rw [show leI ((gd p 0).rows.length:Int) 2000000=true from leI_t (by have h2:((gd p 0).rows.length:Int)≤40:=of_decide_eq_true ((Bool.and_eq_true _ _).mp h1).2; omega)]
  rfl
end Go.Proofs.YtpdfmcmnjikppaaGreat
namespace Go.Proofs.YtpdfmcmnjikppaaGreat
set_option maxRecDepth 4096
set_option maxHeartbeats 1000000
abbrev s_l13RankT:FuncId→List T→Option (T × Bool):=find [s_ShardOkE,s_l1InE,s_RangeOkE]
theorem s_l13RankT_ok:CallOk Tryz.prog s_l13RankT:=find_ok (fC ⟨s_ShardOk_ok,fC ⟨s_l1In_ok,fC ⟨s_RangeOk_ok,fN⟩⟩⟩)
abbrev s_l13RankK:List Nat:= [0,1,2,3,5,6,7,21]
theorem s_l13Rank_ev (N:Nat) (p q r:List D):evFn Tryz.prog s_l13RankT N s_l13RankK Tryz.f59 ri [⟨ag rIShard,p⟩,⟨ri,q⟩,⟨ag rIRange,r⟩]=some (bo,
 bif !(shardOk (sub p 0 9)) then oi 1
 else bif !(inB (gd q 0).int 1 1000000) then oi 1
 else bif !(rangeOk (sub r 0 2)) then oi 1
 else bif ltI (gd q 0).int (gd p 8).int then oi 2
 else oi 0):=by kernel_rfl
def s_l13RankF (p q r:List D):Int:=
 bif !(shardOk (sub p 0 9)) then 1
 else bif !(inB (gd q 0).int 1 1000000) then 1
 else bif !(rangeOk (sub r 0 2)) then 1
 else bif ltI (gd q 0).int (gd p 8).int then 2
 else 0
def s_l13RankE:Ent:=(59,e3 (ag rIShard) ri (ag rIRange) fun p q r=>(⟨ri,[.i (s_l13RankF p [gd q 0] r)]⟩,true))
theorem s_l13Rank_ok:EntOk Tryz.prog s_l13RankE:=e3_ok fun p q r h=>evFn_sound (N:=0) (ks:=s_l13RankK) (key:=bo) s_l13RankT_ok (enters Tryz.func59) Tryz.func59 fun hw=>by
 rw [s_l13Rank_ev]
 try simp only [cond_ob,cond_oi,cond_os]
 rfl
abbrev i_rankBadT:FuncId→List T→Option (T × Bool):=find [i_ShardOkE,i_fromE,i_RangeOkE]
theorem i_rankBadT_ok:CallOk Tryz.prog i_rankBadT:=find_ok (fC ⟨i_ShardOk_ok,fC ⟨i_from_ok,fC ⟨i_RangeOk_ok,fN⟩⟩⟩)
abbrev i_rankBadK:List Nat:= [0,1,2,3,5,6,7,21]
theorem i_rankBad_ev (N:Nat) (p q r:List D):evFn Tryz.prog i_rankBadT N i_rankBadK Tryz.f72 ri [⟨ag rIShard,p⟩,⟨ri,q⟩,⟨ag rIRange,r⟩]=some (bo,
 nd (shardSmall (sub p 0 9)) (bif !(shardOk (sub p 0 9)) then oi 1
 else bif !(inB (gd q 0).int 1 1000000) then oi 1
 else bif !(rangeOk (sub r 0 2)) then oi 1
 else bif ltI (gd q 0).int (gd p 8).int then oi 2
 else oi 0)):=by kernel_rfl
def i_rankBadE:Ent:=(72,e3 (ag rIShard) ri (ag rIRange) fun p q r=>(⟨ri,[.i (s_l13RankF p [(gd q 0)] r)]⟩,shardSmall p))
theorem i_rankBad_ok:EntOk Tryz.prog i_rankBadE:=e3_ok fun p q r h=>evFn_sound (N:=0) (ks:=i_rankBadK) (key:=bo) i_rankBadT_ok (enters Tryz.func72) Tryz.func72 fun hw=>by
 rw [i_rankBad_ev]
 have h:shardSmall (sub p 0 9)=true:=h
 rw [h]
 unfold s_l13RankF
 rw [show gd [gd q 0] 0=gd q 0 from rfl]
 cases shardOk (sub p 0 9) <;> cases inB (gd q 0).int 1 1000000 <;> cases rangeOk (sub r 0 2) <;> cases ltI (gd q 0).int (gd p 8).int <;> rfl
abbrev i_isHeldT:FuncId→List T→Option (T × Bool):=find [i_txsOfE,coIE]
theorem i_isHeldT_ok:CallOk Tryz.prog i_isHeldT:=find_ok (fC ⟨i_txsOf_ok,fC ⟨coI_ok,fN⟩⟩)
abbrev i_isHeldK:List Nat:= [0,1,2,4]
theorem i_isHeld_ev (N:Nat) (p q:List D):evFn Tryz.prog i_isHeldT N i_isHeldK Tryz.f110 rb [⟨ag rIShard,p⟩,⟨ri,q⟩]=some (bo,
 nd (leI ((gd p 5).rows.length:Int) 1000000000) (ob (hasInt (txsD (gd p 5)) (gd q 0).int))):=by kernel_rfl
def i_isHeldE:Ent:=(110,e2 (ag rIShard) ri fun p q=>(⟨rb,[.b (hasInt (txsD (gd p 5)) (gd q 0).int)]⟩,leI ((gd p 5).rows.length:Int) 1000000000))
theorem i_isHeld_ok:EntOk Tryz.prog i_isHeldE:=e2_ok fun p q h=>evFn_sound (N:=0) (ks:=i_isHeldK) (key:=bo) i_isHeldT_ok (enters Tryz.func110) Tryz.func110 fun hw=>by
 rw [i_isHeld_ev]
 have h:leI ((gd p 5).rows.length:Int) 1000000000=true:=h
 rw [h]
 rfl
abbrev s_l13HeldT:FuncId→List T→Option (T × Bool):=find []
theorem s_l13HeldT_ok:CallOk Tryz.prog s_l13HeldT:=find_ok (fN)
abbrev s_l13HeldK:List Nat:= [0,1,2,4,5,10,20]
noncomputable def s_l13HeldL0 (N:Nat) (p q:List D):List D→Out:=loopOf Tryz.prog s_l13HeldT N s_l13HeldK Tryz.f66 rb [⟨ag rIShard,p⟩,⟨ri,q⟩] 0
theorem s_l13HeldR0 (N:Nat) (p q:List D) (x0 x1 x2 x3 x4 x5 x6 x7 x8 x9 x10 x11 x12 x13 x14 x15 x16 x17 x18 x19 x20 x21:D):(s_l13HeldL0 N p q) [x0,x1,x2,x3,x4,x5,x6,x7,x8,x9,x10,x11,x12,x13,x14,x15,x16,x17,x18,x19,x20,x21] =
 bif ltI x12.int (x18.rows.length:Int) then nd (inRange x12.int x18.rows.length) (bif (gd (x18.rows.getD x12.int.toNat []) 0).int==x9.int then ob true
 else nx [x0,x1,x2,x3,x4,x5,x6,x7,x8,x9,x10,x11,.i (w64 (x12.int+1)),x13,x14,x15,x16,x17,x18,x19,x20,x21])
 else ex 0 [x0,x1,x2,x3,x4,x5,x6,x7,x8,x9,x10,x11,x12,x13,x14,x15,x16,x17,x18,x19,x20,x21]:=by kernel_rfl
theorem s_l13Held_ev (N:Nat) (p q:List D):evFn Tryz.prog s_l13HeldT N s_l13HeldK Tryz.f66 rb [⟨ag rIShard,p⟩,⟨ri,q⟩]=some (bo,
 (let o0:=iter (s_l13HeldL0 N p q) N [gd p 0,gd p 1,gd p 2,gd p 3,gd p 4,gd p 5,gd p 6,gd p 7,gd p 8,gd q 0,.i 0,.i 0,.i 0,gd p 0,gd p 1,gd p 2,gd p 3,gd p 4,gd p 5,gd p 6,gd p 7,gd p 8]
  nd o0.isSome (bif o0.code==1 then some (1,o0.pay)
  else nd (o0.code==2) (ob false)))):=by kernel_rfl
def hasTx (z:D) (n:Int):Bool:=(List.range z.rows.length).any fun k=>(gd (z.rows.getD k []) 0).int==n
def s_l13HeldE:Ent:=(66,e2 (ag rIShard) ri fun p q=>(⟨rb,[.b (hasTx (gd p 5) (gd q 0).int)]⟩,leI ((gd p 5).rows.length:Int) 1000000000))
theorem s_l13Held_ok:EntOk Tryz.prog s_l13HeldE:=e2_ok fun p q h=>evFn_sound (N:=(gd p 5).rows.length+1) (ks:=s_l13HeldK) (key:=bo) s_l13HeldT_ok (enters Tryz.func66) Tryz.func66 fun hw=>by
 rw [s_l13Held_ev]
 have h:leI ((gd p 5).rows.length:Int) 1000000000=true:=h
 have hn:((gd p 5).rows.length:Int)≤1000000000:=of_decide_eq_true h
 have e:=any_loop (L:=s_l13HeldL0 ((gd p 5).rows.length+1) p q) (fun k => [gd p 0,gd p 1,gd p 2,gd p 3,gd p 4,gd p 5,gd p 6,gd p 7,gd p 8,gd q 0,.i 0,.i 0,.i (k:Int),gd p 0,gd p 1,gd p 2,gd p 3,gd p 4,gd p 5,gd p 6,gd p 7,gd p 8]) (gd p 5).rows.length (fun k=>(gd ((gd p 5).rows.getD k []) 0).int==(gd q 0).int) [.b true] 0 (fun k hk=>?_) ?_ (N:=(gd p 5).rows.length+1) (by omega)
 ·simp only [Int.natCast_zero] at e
  rw [e]
  show some (bo,_)=some (bo,some (1,[D.b (hasTx (gd p 5) (gd q 0).int)]))
  unfold hasTx
  cases (List.range (gd p 5).rows.length).any fun k=>(gd ((gd p 5).rows.getD k []) 0).int==(gd q 0).int <;> rfl
 ·show s_l13HeldL0 _ p q [_,_,_,_,_,_,_,_,_,_,_,_,.i (k:Int),_,_,_,_,_,_,_,_,_]=_
  rw [s_l13HeldR0]
  simp only [int_i,c_lt hk,nd_ix hk,w64_succ hk (show (gd p 5).rows.length≤9223372036854775807 by omega),Int.toNat_natCast]
  cases (gd ((gd p 5).rows.getD k []) 0).int==(gd q 0).int <;> rfl
 ·show s_l13HeldL0 _ p q [_,_,_,_,_,_,_,_,_,_,_,_,.i ((gd p 5).rows.length:Int),_,_,_,_,_,_,_,_,_]=_
  rw [s_l13HeldR0]
  simp only [int_i,c_nlt]
abbrev s_l12KeepT:FuncId→List T→Option (T × Bool):=find []
theorem s_l12KeepT_ok:CallOk Tryz.prog s_l12KeepT:=find_ok (fN)
abbrev s_l12KeepK:List Nat:= [0,1,2,6,7,8,13,24]
noncomputable def s_l12KeepL0 (N:Nat) (p q r:List D):List D→Out:=loopOf Tryz.prog s_l12KeepT N s_l12KeepK Tryz.f144 (.one (.c (.d (.sl 93)))) [⟨sd (.sl 93),p⟩,⟨ri,q⟩,⟨rb,r⟩] 0
theorem s_l12KeepR0 (N:Nat) (p q r:List D) (x0 x1 x2 x3 x4 x5:D):(s_l12KeepL0 N p q r) [x0,x1,x2,x3,x4,x5] =
 bif ltI x5.int (x0.rows.length:Int) then nd (inRange x5.int x0.rows.length) (bif ((gd (x0.rows.getD x5.int.toNat []) 0).int==x1.int)==x2.bool then nd (inRange x5.int x0.rows.length) (nd (lenOk (x4.rows ++ [sub (x0.rows.getD x5.int.toNat []) 0 4])&&true) (nx [x0,x1,x2,x3,.l (x4.rows ++ [sub (x0.rows.getD x5.int.toNat []) 0 4]),.i (w64 (x5.int+1))]))
 else nx [x0,x1,x2,x3,x4,.i (w64 (x5.int+1))])
 else ex 0 [x0,x1,x2,x3,x4,x5]:=by kernel_rfl
theorem s_l12Keep_ev (N:Nat) (p q r:List D):evFn Tryz.prog s_l12KeepT N s_l12KeepK Tryz.f144 (.one (.c (.d (.sl 93)))) [⟨sd (.sl 93),p⟩,⟨ri,q⟩,⟨rb,r⟩]=some (bo,
 (let o0:=iter (s_l12KeepL0 N p q r) N [gd p 0,gd q 0,gd r 0,.l [],.l [],.i 0]
  nd o0.isSome (nd (o0.code==2) (some (1,[gd o0.pay 4]))))):=by kernel_rfl
def kpL (C:Nat→Bool) (f:Nat→List D):Nat→List (List D)
 | 0 => []
 | k+1=>bif C k then kpL C f k ++ [f k] else kpL C f k
theorem kpL_len (C:Nat→Bool) (f:Nat→List D):∀ k,(kpL C f k).length≤k
 | 0=>Nat.le_refl _
 | k+1=>by
  have:=kpL_len C f k
  rw [kpL]
  cases C k <;> simp <;> omega
def keepD (z:D) (n:Int) (own:Bool):D:=.l (kpL (fun k=>((gd (z.rows.getD k []) 0).int==n)==own) (fun k=>sub (z.rows.getD k []) 0 4) z.rows.length)
def s_l12KeepE:Ent:=(144,e3 (sd (.sl 93)) ri rb fun p q r=>(⟨.one (.c (.d (.sl 93))),[keepD (gd p 0) (gd q 0).int (gd r 0).bool]⟩,leI ((gd p 0).rows.length:Int) 1000000000))
theorem s_l12Keep_ok:EntOk Tryz.prog s_l12KeepE:=e3_ok fun p q r h=>evFn_sound (N:=(gd p 0).rows.length+1) (ks:=s_l12KeepK) (key:=bo) s_l12KeepT_ok (enters Tryz.func144) Tryz.func144 fun hw=>by
 rw [s_l12Keep_ev]
 have h:leI ((gd p 0).rows.length:Int) 1000000000=true:=h
 have hn:((gd p 0).rows.length:Int)≤1000000000:=of_decide_eq_true h
 have e:=run_loop (L:=s_l12KeepL0 ((gd p 0).rows.length+1) p q r) (fun k => [gd p 0,gd q 0,gd r 0,.l [],.l (kpL (fun k=>((gd ((gd p 0).rows.getD k []) 0).int==(gd q 0).int)==(gd r 0).bool) (fun k=>sub ((gd p 0).rows.getD k []) 0 4) k),.i (k:Int)]) (gd p 0).rows.length 0 (fun k hk=>?_) ?_ (N:=(gd p 0).rows.length+1) (by omega)
 ·simp only [Int.natCast_zero] at e
  rw [kpL] at e
  rw [e]
  rfl
 ·show s_l12KeepL0 _ p q r [_,_,_,_,_,.i (k:Int)]=_
  rw [s_l12KeepR0]
  have hlen:=kpL_len (fun k=>((gd ((gd p 0).rows.getD k []) 0).int==(gd q 0).int)==(gd r 0).bool) (fun k=>sub ((gd p 0).rows.getD k []) 0 4) k
  simp only [int_i,rows_l,c_lt hk,nd_ix hk,Int.toNat_natCast,w64_succ hk (by omega),lenOk_t (show (kpL (fun k=>((gd ((gd p 0).rows.getD k []) 0).int==(gd q 0).int)==(gd r 0).bool) (fun k=>sub ((gd p 0).rows.getD k []) 0 4) k ++ [sub ((gd p 0).rows.getD k []) 0 4]).length≤4294967296 by rw [List.length_append]; show _+1≤_; omega)]
  simp only [kpL]
  cases ((gd ((gd p 0).rows.getD k []) 0).int==(gd q 0).int)==(gd r 0).bool <;> rfl
 ·show s_l12KeepL0 _ p q r [_,_,_,_,_,.i ((gd p 0).rows.length:Int)]=_
  rw [s_l12KeepR0]
  simp only [int_i,c_nlt]
abbrev s_l11ScanT:FuncId→List T→Option (T × Bool):=find [s_StoreOkE,s_RangeOkE,s_l1InE]
theorem s_l11ScanT_ok:CallOk Tryz.prog s_l11ScanT:=find_ok (fC ⟨s_StoreOk_ok,fC ⟨s_RangeOk_ok,fC ⟨s_l1In_ok,fN⟩⟩⟩)
abbrev s_l11ScanK:List Nat:= [0,1,2,4,6,7,8,21,36]
noncomputable def s_l11ScanL0 (N:Nat) (p q r:List D):List D→Out:=loopOf Tryz.prog s_l11ScanT N s_l11ScanK Tryz.f189 (.one (.c (.d (.sl 108)))) [⟨sd (.sl 108),p⟩,⟨ag rIRange,q⟩,⟨rb,r⟩] 0
theorem s_l11ScanR0 (N:Nat) (p q r:List D) (x0 x1 x2 x3 x4 x5 x6 x7 x8 x9:D):(s_l11ScanL0 N p q r) [x0,x1,x2,x3,x4,x5,x6,x7,x8,x9] =
 bif ltI x7.int (x0.rows.length:Int) then bif storeOk x0 then bif rangeOk [x8,x9] then nd (inRange x7.int x0.rows.length) (bif (inB (gd (x0.rows.getD x7.int.toNat []) 0).int x8.int (w64 (x9.int - 1)))==x3.bool then nd (inRange x7.int x0.rows.length) (nd (lenOk (x6.rows ++ [sub (x0.rows.getD x7.int.toNat []) 0 2])&&true) (nx [x0,x1,x2,x3,x4,x5,.l (x6.rows ++ [sub (x0.rows.getD x7.int.toNat []) 0 2]),.i (w64 (x7.int+1)),x8,x9]))
 else nx [x0,x1,x2,x3,x4,x5,x6,.i (w64 (x7.int+1)),x8,x9])
 else ex 0 [x0,x1,x2,x3,x4,x5,x6,x7,x8,x9]
 else ex 0 [x0,x1,x2,x3,x4,x5,x6,x7,x8,x9]
 else ex 0 [x0,x1,x2,x3,x4,x5,x6,x7,x8,x9]:=by kernel_rfl
theorem s_l11Scan_ev (N:Nat) (p q r:List D):evFn Tryz.prog s_l11ScanT N s_l11ScanK Tryz.f189 (.one (.c (.d (.sl 108)))) [⟨sd (.sl 108),p⟩,⟨ag rIRange,q⟩,⟨rb,r⟩]=some (bo,
 (let o0:=iter (s_l11ScanL0 N p q r) N [gd p 0,gd q 0,gd q 1,gd r 0,.i 0,.l [],.l [],.i 0,gd q 0,gd q 1]
  nd o0.isSome (nd (o0.code==2) (some (1,[gd o0.pay 6]))))):=by kernel_rfl
def scanD (z:D) (a:List D) (inn:Bool):D:=.l (bif storeOk z&&rangeOk (sub a 0 2) then kpL (fun k=>(inB (gd (z.rows.getD k []) 0).int (gd a 0).int (w64 ((gd a 1).int - 1)))==inn) (fun k=>sub (z.rows.getD k []) 0 2) z.rows.length else [])
def s_l11ScanE:Ent:=(189,e3 (sd (.sl 108)) (ag rIRange) rb fun p q r=>(⟨.one (.c (.d (.sl 108))),[scanD (gd p 0) q (gd r 0).bool]⟩,leI ((gd p 0).rows.length:Int) 1000000000))
theorem s_l11Scan_ok:EntOk Tryz.prog s_l11ScanE:=e3_ok fun p q r h=>evFn_sound (N:=(gd p 0).rows.length+1) (ks:=s_l11ScanK) (key:=bo) s_l11ScanT_ok (enters Tryz.func189) Tryz.func189 fun hw=>by
 rw [s_l11Scan_ev]
 have h:leI ((gd p 0).rows.length:Int) 1000000000=true:=h
 have hn:((gd p 0).rows.length:Int)≤1000000000:=of_decide_eq_true h
 cases hs:storeOk (gd p 0)&&rangeOk (sub q 0 2) with
 | true =>
  obtain ⟨h1,h2⟩:=(Bool.and_eq_true _ _).mp hs
  have h2:rangeOk [gd q 0,gd q 1]=true:=h2
  have e:=run_loop (L:=s_l11ScanL0 ((gd p 0).rows.length+1) p q r) (fun k => [gd p 0,gd q 0,gd q 1,gd r 0,.i 0,.l [],.l (kpL (fun k=>(inB (gd ((gd p 0).rows.getD k []) 0).int (gd q 0).int (w64 ((gd q 1).int - 1)))==(gd r 0).bool) (fun k=>sub ((gd p 0).rows.getD k []) 0 2) k),.i (k:Int),gd q 0,gd q 1]) (gd p 0).rows.length 0 (fun k hk=>?_) ?_ (N:=(gd p 0).rows.length+1) (by omega)
  ·simp only [Int.natCast_zero] at e
   rw [kpL] at e
   rw [e]
   show some (bo,some (1,[D.l _]))=some (bo,some (1,[scanD (gd p 0) q (gd r 0).bool]))
   unfold scanD
   rw [hs]
   rfl
  ·show s_l11ScanL0 _ p q r [_,_,_,_,_,_,_,.i (k:Int),_,_]=_
   rw [s_l11ScanR0]
   have hlen:=kpL_len (fun k=>(inB (gd ((gd p 0).rows.getD k []) 0).int (gd q 0).int (w64 ((gd q 1).int - 1)))==(gd r 0).bool) (fun k=>sub ((gd p 0).rows.getD k []) 0 2) k
   simp only [int_i,rows_l,c_lt hk,h1,h2,cond_true,nd_ix hk,Int.toNat_natCast,w64_succ hk (show (gd p 0).rows.length≤9223372036854775807 by omega),lenOk_t (show (kpL (fun k=>(inB (gd ((gd p 0).rows.getD k []) 0).int (gd q 0).int (w64 ((gd q 1).int - 1)))==(gd r 0).bool) (fun k=>sub ((gd p 0).rows.getD k []) 0 2) k ++ [sub ((gd p 0).rows.getD k []) 0 2]).length≤4294967296 by rw [List.length_append]; show _+1≤_; omega)]
   simp only [kpL]
   cases (inB (gd ((gd p 0).rows.getD k []) 0).int (gd q 0).int (w64 ((gd q 1).int - 1)))==(gd r 0).bool <;> rfl
  ·show s_l11ScanL0 _ p q r [_,_,_,_,_,_,_,.i ((gd p 0).rows.length:Int),_,_]=_
   rw [s_l11ScanR0]
   simp only [int_i,c_nlt]
 | false =>
  have e:s_l11ScanL0 ((gd p 0).rows.length+1) p q r [gd p 0,gd q 0,gd q 1,gd r 0,.i 0,.l [],.l [],.i 0,gd q 0,gd q 1]=some (2,[gd p 0,gd q 0,gd q 1,gd r 0,.i 0,.l [],.l [],.i 0,gd q 0,gd q 1]):=by
   rw [s_l11ScanR0]
   have hs:(storeOk (gd p 0)&&rangeOk [gd q 0,gd q 1])=false:=hs
   cases hz:ltI (D.i 0).int ((gd p 0).rows.length:Int) with
   | false=>rfl
   | true =>
    cases h1:storeOk (gd p 0) with
    | false=>rfl
    | true =>
     rw [h1,Bool.true_and] at hs
     rw [hs]
     rfl
  rw [iter_ex (c:=1) e]
  show some (bo,some (1,[D.l []]))=some (bo,some (1,[scanD (gd p 0) q (gd r 0).bool]))
  unfold scanD
  rw [hs]
  rfl
abbrev s_StoreScanT:FuncId→List T→Option (T × Bool):=find [s_l11ScanE]
theorem s_StoreScanT_ok:CallOk Tryz.prog s_StoreScanT:=find_ok (fC ⟨s_l11Scan_ok,fN⟩)
abbrev s_StoreScanK:List Nat:= [0,1,3,4]
theorem s_StoreScan_ev (N:Nat) (p q:List D):evFn Tryz.prog s_StoreScanT N s_StoreScanK Tryz.f68 (.one (.c (.d (.sl 108)))) [⟨sd (.sl 108),p⟩,⟨ag rIRange,q⟩]=some (bo,
 nd (leI ((gd p 0).rows.length:Int) 1000000000) (some (1,[scanD (gd p 0) (sub q 0 2) true]))):=by kernel_rfl
def s_StoreScanE:Ent:=(68,e2 (sd (.sl 108)) (ag rIRange) fun p q=>(⟨.one (.c (.d (.sl 108))),[scanD (gd p 0) q true]⟩,leI ((gd p 0).rows.length:Int) 1000000000))
theorem s_StoreScan_ok:EntOk Tryz.prog s_StoreScanE:=e2_ok fun p q h=>evFn_sound (N:=0) (ks:=s_StoreScanK) (key:=bo) s_StoreScanT_ok (enters Tryz.func68) Tryz.func68 fun hw=>by
 rw [s_StoreScan_ev]
 have h:leI ((gd p 0).rows.length:Int) 1000000000=true:=h
 rw [h]
 rfl
end Go.Proofs.YtpdfmcmnjikppaaGreat
namespace Go.Proofs.YtpdfmcmnjikppaaGreat
set_option maxRecDepth 4096
set_option maxHeartbeats 1000000
abbrev s_l12PutT:FuncId→List T→Option (T × Bool):=find []
theorem s_l12PutT_ok:CallOk Tryz.prog s_l12PutT:=find_ok (fN)
abbrev s_l12PutK:List Nat:= [0,1,4,5,6,7,12,24,34,43,3000002,3000008]
noncomputable def s_l12PutL0 (N:Nat) (p q:List D):List D→Out:=loopOf Tryz.prog s_l12PutT N s_l12PutK Tryz.f146 (.one (.c (.d (.sl 3)))) [⟨sd (.sl 3),p⟩,⟨ri,q⟩] 0
theorem s_l12PutR0 (N:Nat) (p q:List D) (x0 x1 x2 x3 x4 x5:D):(s_l12PutL0 N p q) [x0,x1,x2,x3,x4,x5] =
 bif ltI x5.int (x0.rows.length:Int) then bif !x4.bool then nd (inRange x5.int x0.rows.length) (bif leI x1.int (gd (x0.rows.getD x5.int.toNat []) 0).int then nd (lenOk (x3.rows ++ [[x1]])&&true) ((let r8:Out:=nx [x0,x1,x2,.l (x3.rows ++ [[x1]]),.b true,x5,.b (ltI x5.int (x0.rows.length:Int)),.b (leI x1.int (gd (x0.rows.getD x5.int.toNat []) 0).int)]
  nd r8.isSome (nd (inRange (gd r8.pay 5).int (gd r8.pay 0).rows.length) (bif (gd ((gd r8.pay 0).rows.getD (gd r8.pay 5).int.toNat []) 0).int != (gd r8.pay 1).int then nd (inRange (gd r8.pay 5).int (gd r8.pay 0).rows.length) (nd (lenOk ((gd r8.pay 3).rows ++ [[gd ((gd r8.pay 0).rows.getD (gd r8.pay 5).int.toNat []) 0]])&&true) (nx [gd r8.pay 0,gd r8.pay 1,gd r8.pay 2,.l ((gd r8.pay 3).rows ++ [[gd ((gd r8.pay 0).rows.getD (gd r8.pay 5).int.toNat []) 0]]),gd r8.pay 4,.i (w64 ((gd r8.pay 5).int+1))]))
  else nx [gd r8.pay 0,gd r8.pay 1,gd r8.pay 2,gd r8.pay 3,gd r8.pay 4,.i (w64 ((gd r8.pay 5).int+1))]))))
 else nd (inRange x5.int x0.rows.length) (bif (gd (x0.rows.getD x5.int.toNat []) 0).int != x1.int then nd (inRange x5.int x0.rows.length) (nd (lenOk (x3.rows ++ [[gd (x0.rows.getD x5.int.toNat []) 0]])&&true) (nx [x0,x1,x2,.l (x3.rows ++ [[gd (x0.rows.getD x5.int.toNat []) 0]]),x4,.i (w64 (x5.int+1))]))
 else nx [x0,x1,x2,x3,x4,.i (w64 (x5.int+1))]))
 else nd (inRange x5.int x0.rows.length) (bif (gd (x0.rows.getD x5.int.toNat []) 0).int != x1.int then nd (inRange x5.int x0.rows.length) (nd (lenOk (x3.rows ++ [[gd (x0.rows.getD x5.int.toNat []) 0]])&&true) (nx [x0,x1,x2,.l (x3.rows ++ [[gd (x0.rows.getD x5.int.toNat []) 0]]),x4,.i (w64 (x5.int+1))]))
 else nx [x0,x1,x2,x3,x4,.i (w64 (x5.int+1))])
 else ex 0 [x0,x1,x2,x3,x4,x5]:=by kernel_rfl
theorem s_l12Put_ev (N:Nat) (p q:List D):evFn Tryz.prog s_l12PutT N s_l12PutK Tryz.f146 (.one (.c (.d (.sl 3)))) [⟨sd (.sl 3),p⟩,⟨ri,q⟩]=some (bo,
 (let r2:Out:=nx [gd p 0,gd q 0,.l [],.l [],.b false]
  nd r2.isSome ((let o0:=iter (s_l12PutL0 N p q) N [gd r2.pay 0,gd r2.pay 1,gd r2.pay 2,gd r2.pay 3,gd r2.pay 4,.i 0]
  nd o0.isSome (nd (o0.code==2) (bif !(gd o0.pay 4).bool then nd (lenOk ((gd o0.pay 3).rows ++ [[gd o0.pay 1]])&&true) (some (1,[.l ((gd o0.pay 3).rows ++ [[gd o0.pay 1]])]))
  else some (1,[gd o0.pay 3]))))))):=by kernel_rfl
def putS (z n:D):Nat→List (List D) × Bool
 | 0=>([],false)
 | k+1 =>
  (bif (gd (z.rows.getD k []) 0).int != n.int then (bif !(putS z n k).2&&leI n.int (gd (z.rows.getD k []) 0).int then (putS z n k).1 ++ [[n]] else (putS z n k).1) ++ [[gd (z.rows.getD k []) 0]] else (bif !(putS z n k).2&&leI n.int (gd (z.rows.getD k []) 0).int then (putS z n k).1 ++ [[n]] else (putS z n k).1),(putS z n k).2||leI n.int (gd (z.rows.getD k []) 0).int)
theorem putS_len (z n:D):∀ k,(putS z n k).1.length≤2*k
 | 0=>Nat.le_refl _
 | k+1=>by
  have:=putS_len z n k
  rw [putS]
  cases (gd (z.rows.getD k []) 0).int != n.int <;> cases (putS z n k).2 <;> cases leI n.int (gd (z.rows.getD k []) 0).int <;> simp <;> omega
def putIntD (z n:D):D:=.l (bif (putS z n z.rows.length).2 then (putS z n z.rows.length).1 else (putS z n z.rows.length).1 ++ [[n]])
def s_l12PutE:Ent:=(146,e2 (sd (.sl 3)) ri fun p q=>(⟨.one (.c (.d (.sl 3))),[putIntD (gd p 0) (gd q 0)]⟩,leI ((gd p 0).rows.length:Int) 1000000000))
theorem s_l12Put_ok:EntOk Tryz.prog s_l12PutE:=e2_ok fun p q h=>evFn_sound (N:=(gd p 0).rows.length+1) (ks:=s_l12PutK) (key:=bo) s_l12PutT_ok (enters Tryz.func146) Tryz.func146 fun hw=>by
 rw [s_l12Put_ev]
 have h:leI ((gd p 0).rows.length:Int) 1000000000=true:=h
 have hn:((gd p 0).rows.length:Int)≤1000000000:=of_decide_eq_true h
 have e:=run_loop (L:=s_l12PutL0 ((gd p 0).rows.length+1) p q) (fun k => [gd p 0,gd q 0,.l [],.l (putS (gd p 0) (gd q 0) k).1,.b (putS (gd p 0) (gd q 0) k).2,.i (k:Int)]) (gd p 0).rows.length 0 (fun k hk=>?_) ?_ (N:=(gd p 0).rows.length+1) (by omega)
 ·simp only [Int.natCast_zero] at e
  rw [show (putS (gd p 0) (gd q 0) 0).1 = [] from rfl,show (putS (gd p 0) (gd q 0) 0).2=false from rfl] at e
  show some (bo,nd true (nd (iter (s_l12PutL0 ((gd p 0).rows.length+1) p q) ((gd p 0).rows.length+1) [gd p 0,gd q 0,.l [],.l [],.b false,.i 0]).isSome (nd ((iter (s_l12PutL0 ((gd p 0).rows.length+1) p q) ((gd p 0).rows.length+1) [gd p 0,gd q 0,.l [],.l [],.b false,.i 0]).code==2) (bif !(gd (iter (s_l12PutL0 ((gd p 0).rows.length+1) p q) ((gd p 0).rows.length+1) [gd p 0,gd q 0,.l [],.l [],.b false,.i 0]).pay 4).bool then nd (lenOk ((gd (iter (s_l12PutL0 ((gd p 0).rows.length+1) p q) ((gd p 0).rows.length+1) [gd p 0,gd q 0,.l [],.l [],.b false,.i 0]).pay 3).rows ++ [[gd (iter (s_l12PutL0 ((gd p 0).rows.length+1) p q) ((gd p 0).rows.length+1) [gd p 0,gd q 0,.l [],.l [],.b false,.i 0]).pay 1]])&&true) (some (1,[.l ((gd (iter (s_l12PutL0 ((gd p 0).rows.length+1) p q) ((gd p 0).rows.length+1) [gd p 0,gd q 0,.l [],.l [],.b false,.i 0]).pay 3).rows ++ [[gd (iter (s_l12PutL0 ((gd p 0).rows.length+1) p q) ((gd p 0).rows.length+1) [gd p 0,gd q 0,.l [],.l [],.b false,.i 0]).pay 1]])])) else some (1,[gd (iter (s_l12PutL0 ((gd p 0).rows.length+1) p q) ((gd p 0).rows.length+1) [gd p 0,gd q 0,.l [],.l [],.b false,.i 0]).pay 3])))))=_
  rw [e]
  have hlen:=putS_len (gd p 0) (gd q 0) (gd p 0).rows.length
  show some (bo,bif !(putS (gd p 0) (gd q 0) (gd p 0).rows.length).2 then nd (lenOk ((putS (gd p 0) (gd q 0) (gd p 0).rows.length).1 ++ [[gd q 0]])&&true) (some (1,[.l ((putS (gd p 0) (gd q 0) (gd p 0).rows.length).1 ++ [[gd q 0]])])) else some (1,[.l (putS (gd p 0) (gd q 0) (gd p 0).rows.length).1]))=some (bo,some (1,[putIntD (gd p 0) (gd q 0)]))
  rw [lenOk_t (by rw [List.length_append]; show _+1≤_; omega)]
  unfold putIntD
  cases (putS (gd p 0) (gd q 0) (gd p 0).rows.length).2 <;> rfl
 ·show s_l12PutL0 _ p q [_,_,_,_,_,.i (k:Int)]=_
  rw [s_l12PutR0]
  have hlen:=putS_len (gd p 0) (gd q 0) k
  have l1:lenOk ((putS (gd p 0) (gd q 0) k).1 ++ [[gd q 0]])=true:=lenOk_t (by rw [List.length_append]; show _+1≤_; omega)
  have l2:lenOk ((putS (gd p 0) (gd q 0) k).1 ++ [[gd ((gd p 0).rows.getD k []) 0]])=true:=lenOk_t (by rw [List.length_append]; show _+1≤_; omega)
  have l3:lenOk ((putS (gd p 0) (gd q 0) k).1 ++ [[gd q 0]] ++ [[gd ((gd p 0).rows.getD k []) 0]])=true:=lenOk_t (by rw [List.length_append,List.length_append]; show _+1+1≤_; omega)
  have hin:=inRange_nat hk
  have hw:=w64_succ hk (show (gd p 0).rows.length≤9223372036854775807 by omega)
  have g0:∀ (a b c d e f g h:D),gd [a,b,c,d,e,f,g,h] 0=a:=fun _ _ _ _ _ _ _ _=>rfl
  simp only [int_i,rows_l,bool_b,c_lt hk,nd_ix hk,Int.toNat_natCast,hw,l1,l2]
  rw [putS]
  cases hp:(putS (gd p 0) (gd q 0) k).2 with
  | true =>
   cases hd:(gd ((gd p 0).rows.getD k []) 0).int != (gd q 0).int <;> rfl
  | false =>
   cases hle:leI (gd q 0).int (gd ((gd p 0).rows.getD k []) 0).int with
   | false=>cases hd:(gd ((gd p 0).rows.getD k []) 0).int != (gd q 0).int <;> rfl
   | true =>
    show nd (inRange (k:Int) (gd p 0).rows.length) (bif (gd ((gd p 0).rows.getD (k:Int).toNat []) 0).int != (gd q 0).int then nd (inRange (k:Int) (gd p 0).rows.length) (nd (lenOk ((putS (gd p 0) (gd q 0) k).1 ++ [[gd q 0]] ++ [[gd ((gd p 0).rows.getD (k:Int).toNat []) 0]])&&true) (nx [gd p 0,gd q 0,.l [],.l ((putS (gd p 0) (gd q 0) k).1 ++ [[gd q 0]] ++ [[gd ((gd p 0).rows.getD (k:Int).toNat []) 0]]),.b true,.i (w64 ((k:Int)+1))])) else nx [gd p 0,gd q 0,.l [],.l ((putS (gd p 0) (gd q 0) k).1 ++ [[gd q 0]]),.b true,.i (w64 ((k:Int)+1))])=_
    simp only [nd_ix hk,Int.toNat_natCast,hw,l3]
    cases hd:(gd ((gd p 0).rows.getD k []) 0).int != (gd q 0).int <;> rfl
 ·show s_l12PutL0 _ p q [_,_,_,_,_,.i ((gd p 0).rows.length:Int)]=_
  rw [s_l12PutR0]
  simp only [int_i,c_nlt]
end Go.Proofs.YtpdfmcmnjikppaaGreat
namespace Go.Proofs.YtpdfmcmnjikppaaGreat
set_option maxRecDepth 4096
set_option maxHeartbeats 1000000
abbrev s_l13WoundT:FuncId→List T→Option (T × Bool):=find [s_l12KeepE,s_l12PutE]
theorem s_l13WoundT_ok:CallOk Tryz.prog s_l13WoundT:=find_ok (fC ⟨s_l12Keep_ok,fC ⟨s_l12Put_ok,fN⟩⟩)
abbrev s_l13WoundK:List Nat:= [0,1,2,4,5,9]
noncomputable def s_l13WoundL0 (N:Nat) (p q:List D):List D→Out:=loopOf Tryz.prog s_l13WoundT N s_l13WoundK Tryz.f67 (.one (.agg [.d si,.d (.sl 41),.d (.sl 41),.d (.sl 108),.d (.sl 93),.d (.sl 75),.d (.sl 3),.d (.sl 3),.d si])) [⟨ag rIShard,p⟩,⟨sd (.sl 3),q⟩] 0
theorem s_l13WoundR0 (N:Nat) (p q:List D) (x0 x1 x2 x3 x4 x5 x6 x7 x8 x9 x10 x11 x12 x13 x14 x15 x16 x17 x18 x19 x20 x21 x22 x23 x24 x25 x26 x27 x28 x29 x30:D):(s_l13WoundL0 N p q) [x0,x1,x2,x3,x4,x5,x6,x7,x8,x9,x10,x11,x12,x13,x14,x15,x16,x17,x18,x19,x20,x21,x22,x23,x24,x25,x26,x27,x28,x29,x30] =
 bif ltI x12.int (x9.rows.length:Int) then nd (inRange x12.int x9.rows.length) (nd (leI (x17.rows.length:Int) 1000000000) (nd (inRange x12.int x9.rows.length) (nd (leI (x19.rows.length:Int) 1000000000) (nx [x0,x1,x2,x3,x4,x5,x6,x7,x8,x9,x10,x11,.i (w64 (x12.int+1)),x13,x14,x15,x16,keepD x17 (gd (x9.rows.getD x12.int.toNat []) 0).int false,x18,putIntD x19 (gd (x9.rows.getD x12.int.toNat []) 0),x20,x21,x22,x23,x24,x25,x26,x27,x28,x29,x30]))))
 else ex 0 [x0,x1,x2,x3,x4,x5,x6,x7,x8,x9,x10,x11,x12,x13,x14,x15,x16,x17,x18,x19,x20,x21,x22,x23,x24,x25,x26,x27,x28,x29,x30]:=by kernel_rfl
theorem s_l13Wound_ev (N:Nat) (p q:List D):evFn Tryz.prog s_l13WoundT N s_l13WoundK Tryz.f67 (.one (.agg [.d si,.d (.sl 41),.d (.sl 41),.d (.sl 108),.d (.sl 93),.d (.sl 75),.d (.sl 3),.d (.sl 3),.d si])) [⟨ag rIShard,p⟩,⟨sd (.sl 3),q⟩]=some (bo,
 (let o0:=iter (s_l13WoundL0 N p q) N [gd p 0,gd p 1,gd p 2,gd p 3,gd p 4,gd p 5,gd p 6,gd p 7,gd p 8,gd q 0,.i 0,.i 0,.i 0,gd p 0,gd p 1,gd p 2,gd p 3,gd p 4,gd p 5,gd p 6,gd p 7,gd p 8,.i 0,.l [],.l [],.l [],.l [],.l [],.l [],.l [],.i 0]
  nd o0.isSome (nd (o0.code==2) (some (1,sub o0.pay 13 9))))):=by kernel_rfl
theorem putS_len1 (z n:D):∀ k,(putS z n k).1.length≤k+(putS z n k).2.toNat
 | 0=>Nat.le_refl _
 | k+1=>by
  have:=putS_len1 z n k
  rw [putS]
  revert this
  cases (gd (z.rows.getD k []) 0).int != n.int <;> cases (putS z n k).2 <;> cases leI n.int (gd (z.rows.getD k []) 0).int <;> simp <;> omega
theorem putIntD_len (z n:D):(putIntD z n).rows.length≤z.rows.length+1:=by
 have:=putS_len1 z n z.rows.length
 unfold putIntD
 revert this
 cases (putS z n z.rows.length).2 <;> simp [rows_l] <;> omega
theorem keepD_len (z:D) (n:Int) (own:Bool):(keepD z n own).rows.length≤z.rows.length:=kpL_len _ _ _
def woundS (l w z:D):Nat→D × D
 | 0=>(l,w)
 | k+1=>(keepD (woundS l w z k).1 (gd (z.rows.getD k []) 0).int false,putIntD (woundS l w z k).2 (gd (z.rows.getD k []) 0))
theorem woundS_len (l w z:D):∀ k,(woundS l w z k).1.rows.length≤l.rows.length∧(woundS l w z k).2.rows.length≤w.rows.length+k
 | 0=>⟨Nat.le_refl _,Nat.le_refl _⟩
 | k+1=>by
  obtain ⟨h1,h2⟩:=woundS_len l w z k
  have a1:=keepD_len (woundS l w z k).1 (gd (z.rows.getD k []) 0).int false
  have a2:=putIntD_len (woundS l w z k).2 (gd (z.rows.getD k []) 0)
  rw [woundS]
  exact ⟨by show (keepD _ _ _).rows.length≤_; omega,by show (putIntD _ _).rows.length≤_; omega⟩
def woundD (p:List D) (z:D):List D:= [gd p 0,gd p 1,gd p 2,gd p 3,(woundS (gd p 4) (gd p 6) z z.rows.length).1,gd p 5,(woundS (gd p 4) (gd p 6) z z.rows.length).2,gd p 7,gd p 8]
def s_l13WoundE:Ent:=(67,e2 (ag rIShard) (sd (.sl 3)) fun p q=>(⟨.one (.agg [.d si,.d (.sl 41),.d (.sl 41),.d (.sl 108),.d (.sl 93),.d (.sl 75),.d (.sl 3),.d (.sl 3),.d si]),sub (woundD p (gd q 0)) 0 9⟩,leI ((gd p 4).rows.length:Int) 100000000&&(leI ((gd p 6).rows.length:Int) 100000000&&leI ((gd q 0).rows.length:Int) 100000000)))
theorem s_l13Wound_ok:EntOk Tryz.prog s_l13WoundE:=e2_ok fun p q h=>evFn_sound (N:=(gd q 0).rows.length+1) (ks:=s_l13WoundK) (key:=bo) s_l13WoundT_ok (enters Tryz.func67) Tryz.func67 fun hw=>by
 rw [s_l13Wound_ev]
 have h:(leI ((gd p 4).rows.length:Int) 100000000&&(leI ((gd p 6).rows.length:Int) 100000000&&leI ((gd q 0).rows.length:Int) 100000000))=true:=h
 simp only [Bool.and_eq_true,leI,decide_eq_true_eq] at h
 obtain ⟨h1,h2,h3⟩:=h
 have e:=run_loop (L:=s_l13WoundL0 ((gd q 0).rows.length+1) p q) (fun k => [gd p 0,gd p 1,gd p 2,gd p 3,gd p 4,gd p 5,gd p 6,gd p 7,gd p 8,gd q 0,.i 0,.i 0,.i (k:Int),gd p 0,gd p 1,gd p 2,gd p 3,(woundS (gd p 4) (gd p 6) (gd q 0) k).1,gd p 5,(woundS (gd p 4) (gd p 6) (gd q 0) k).2,gd p 7,gd p 8,.i 0,.l [],.l [],.l [],.l [],.l [],.l [],.l [],.i 0]) (gd q 0).rows.length 0 (fun k hk=>?_) ?_ (N:=(gd q 0).rows.length+1) (by omega)
 ·simp only [Int.natCast_zero] at e
  rw [show (woundS (gd p 4) (gd p 6) (gd q 0) 0).1=gd p 4 from rfl,show (woundS (gd p 4) (gd p 6) (gd q 0) 0).2=gd p 6 from rfl] at e
  rw [e]
  rfl
 ·show s_l13WoundL0 _ p q [_,_,_,_,_,_,_,_,_,_,_,_,.i (k:Int),_,_,_,_,_,_,_,_,_,_,_,_,_,_,_,_,_,_]=_
  rw [s_l13WoundR0]
  obtain ⟨l1,l2⟩:=woundS_len (gd p 4) (gd p 6) (gd q 0) k
  have o1:leI ((woundS (gd p 4) (gd p 6) (gd q 0) k).1.rows.length:Int) 1000000000=true:=leI_t (by omega)
  have o2:leI ((woundS (gd p 4) (gd p 6) (gd q 0) k).2.rows.length:Int) 1000000000=true:=leI_t (by omega)
  simp only [int_i,c_lt hk,nd_ix hk,Int.toNat_natCast,w64_succ hk (show (gd q 0).rows.length≤9223372036854775807 by omega),o1,o2,nd_true]
  rfl
 ·show s_l13WoundL0 _ p q [_,_,_,_,_,_,_,_,_,_,_,_,.i ((gd q 0).rows.length:Int),_,_,_,_,_,_,_,_,_,_,_,_,_,_,_,_,_,_]=_
  rw [s_l13WoundR0]
  simp only [int_i,c_nlt]
end Go.Proofs.YtpdfmcmnjikppaaGreat
namespace Go.Proofs.YtpdfmcmnjikppaaGreat
open Go.RowKit Go.Lib
def insL (l:List Int) (n:Int):List Int:=l.filter (fun x=>decide (x<n))++n::l.filter (fun x=>decide (n<x))
theorem mem_insL {l:List Int} {n m:Int}:m∈insL l n↔m=n∨m∈l:=by
 simp only [insL,List.mem_append,List.mem_filter,List.mem_cons,decide_eq_true_eq]
 constructor
 ·rintro (h | h | h)
  ·exact .inr h.1
  ·exact .inl h
  ·exact .inr h.1
 ·rintro (h | h)
  ·exact .inr (.inl h)
  ·rcases Int.lt_trichotomy m n with h1 | h1 | h1
   ·exact .inl ⟨h,h1⟩
   ·exact .inr (.inl h1)
   ·exact .inr (.inr ⟨h,h1⟩)
theorem asc_insL {l:List Int} (h:l.Pairwise (· < ·)) (n:Int):(insL l n).Pairwise (· < ·):=by
 unfold insL
 rw [List.pairwise_append,List.pairwise_cons]
 refine ⟨h.filter _,⟨fun a ha=>?_,h.filter _⟩,fun a ha b hb=>?_⟩
 ·simpa using (List.mem_filter.1 ha).2
 ·have h1:a<n:=by simpa using (List.mem_filter.1 ha).2
  rcases List.mem_cons.1 hb with rfl | hb
  ·exact h1
  ·have h2:n<b:=by simpa using (List.mem_filter.1 hb).2
   omega
theorem asc_ext:∀ {a b:List Int},a.Pairwise (· < ·)→b.Pairwise (· < ·)→(∀ x,x∈a↔x∈b)→a=b
 | [],[],_,_,_=>rfl
 | [],y::b,_,_,h=>absurd ((h y).2 (by simp)) (by simp)
 | x::a,[],_,_,h=>absurd ((h x).1 (by simp)) (by simp)
 | x::a,y::b,ha,hb,h=>by
  rw [List.pairwise_cons] at ha hb
  have hxy:x=y:=by
   have h1:=(h x).1 (by simp)
   have h2:=(h y).2 (by simp)
   rcases List.mem_cons.1 h1 with h1 | h1
   ·exact h1
   ·rcases List.mem_cons.1 h2 with h2 | h2
    ·exact h2.symm
    ·have a1:=hb.1 x h1
     have a2:=ha.1 y h2
     omega
  subst hxy
  rw [asc_ext ha.2 hb.2 fun z=>?_]
  constructor
  ·intro hz
   rcases List.mem_cons.1 ((h z).1 (List.mem_cons_of_mem _ hz)) with h1 | h1
   ·have:=ha.1 z hz; omega
   ·exact h1
  ·intro hz
   rcases List.mem_cons.1 ((h z).2 (List.mem_cons_of_mem _ hz)) with h1 | h1
   ·have:=hb.1 z hz; omega
   ·exact h1
theorem take_succ' {l:List Int} {k:Nat} {x:Int} (h:l[k]?=some x):l.take (k+1)=l.take k ++ [x]:=by
 rw [List.take_add_one,h]
 rfl
theorem putS_nums {z n:D} (hz:(numsOf z).Pairwise (· < ·)):∀ k,k≤z.rows.length →
  (putS z n k).1.map (fun r=>(gd r 0).int)=((numsOf z).take k).filter (fun x=>decide (x<n.int))++((bif (putS z n k).2 then [n.int] else [])++((numsOf z).take k).filter (fun x=>decide (n.int<x))) ∧
  (putS z n k).2=((numsOf z).take k).any (fun x=>decide (n.int≤x))
 | 0,_=>⟨rfl,rfl⟩
 | k+1,hk=>by
  obtain ⟨h1,h2⟩:=putS_nums (n:=n) hz k (by omega)
  have hx:=numsOf_at z k (by omega)
  have ht:=take_succ' hx
  have hlt:∀ y∈(numsOf z).take k,y<(gd (z.rows.getD k []) 0).int:=by
   have hp:=hz.sublist (List.take_sublist (k+1) (numsOf z))
   rw [ht,List.pairwise_append] at hp
   exact fun y hy=>hp.2.2 y hy _ (by simp)
  rw [putS,ht]
  generalize gd (z.rows.getD k []) 0=d at *
  obtain ⟨S,hS⟩:∃ S,S=putS z n k:=⟨_,rfl⟩
  rw [← hS] at h1 h2 ⊢
  obtain ⟨rows,fl⟩:=S
  generalize (numsOf z).take k=t at *
  have h1:rows.map (fun r=>(gd r 0).int)=t.filter (fun x=>decide (x<n.int))++((bif fl then [n.int] else [])++t.filter (fun x=>decide (n.int<x))):=h1
  have h2:fl=t.any (fun x=>decide (n.int≤x)):=h2
  show (bif d.int != n.int then (bif !fl&&leI n.int d.int then rows ++ [[n]] else rows) ++ [[d]] else (bif !fl&&leI n.int d.int then rows ++ [[n]] else rows)).map (fun r=>(gd r 0).int)=(t ++ [d.int]).filter _++((bif fl||leI n.int d.int then [n.int] else [])++(t ++ [d.int]).filter _)∧(fl||leI n.int d.int)=(t ++ [d.int]).any _
  have hno:d.int≤n.int→fl=false∧t.filter (fun x=>decide (n.int<x)) = []:=fun hd=>by
   refine ⟨?_,?_⟩
   ·rw [h2,List.any_eq_false]
    intro y hy
    have:=hlt y hy
    simp; omega
   ·rw [List.filter_eq_nil_iff]
    intro y hy
    have:=hlt y hy
    simp; omega
  have hz1:fl=false→t.filter (fun x=>decide (n.int<x)) = []:=fun hf=>by
   rw [List.filter_eq_nil_iff]
   intro y hy
   rw [hf] at h2
   have:=List.any_eq_false.1 h2.symm y hy
   simp at this ⊢; omega
  refine ⟨?_,?_⟩
  ·rcases Int.lt_trichotomy d.int n.int with hd | hd | hd
   ·obtain ⟨rfl,hf⟩:=hno (by omega)
    rw [hf] at h1
    have b1:(d.int != n.int)=true:=by simp; omega
    rw [b1,leI_f hd]
    simp [gd_cons_zero,List.map_append,List.filter_append,hf,hd,h1,show ¬ n.int<d.int from by omega]
   ·obtain ⟨rfl,hf⟩:=hno (by omega)
    rw [hf] at h1
    have b1:(d.int != n.int)=false:=by simp [hd]
    rw [b1,leI_t (show n.int≤d.int by omega)]
    simp [gd_cons_zero,List.map_append,List.filter_append,hf,h1,hd]
   ·have b1:(d.int != n.int)=true:=by simp; omega
    rw [b1,leI_t (show n.int≤d.int by omega)]
    cases fl with
    | false =>
     have hf:=hz1 rfl
     rw [hf] at h1
     simp [gd_cons_zero,List.map_append,List.filter_append,hf,h1,hd,show ¬ d.int<n.int from by omega]
    | true=>simp [gd_cons_zero,List.map_append,List.filter_append,h1,hd,show ¬ d.int<n.int from by omega]
  ·rw [List.any_append,← h2]
   simp [leI]
theorem putIntD_nums {z n:D} (hz:(numsOf z).Pairwise (· < ·)):numsOf (putIntD z n)=insL (numsOf z) n.int:=by
 obtain ⟨h1,h2⟩:=putS_nums (n:=n) hz z.rows.length (Nat.le_refl _)
 rw [List.take_of_length_le (by rw [numsOf_len]; exact Nat.le_refl _)] at h1 h2
 unfold putIntD insL
 revert h1 h2
 cases hf:(putS z n z.rows.length).2 with
 | true =>
  intro h1 h2
  show (putS z n z.rows.length).1.map _=_
  rw [h1]; rfl
 | false =>
  intro h1 h2
  have hz1:(numsOf z).filter (fun x=>decide (n.int<x)) = []:=by
   rw [List.filter_eq_nil_iff]
   intro y hy
   have:=List.any_eq_false.1 h2.symm y hy
   simp at this ⊢; omega
  show ((putS z n z.rows.length).1 ++ [[n]]).map _=_
  rw [List.map_append,h1,hz1]
  simp [gd_cons_zero]
theorem asc_put {z n:D} (hz:(numsOf z).Pairwise (· < ·)):(numsOf (putIntD z n)).Pairwise (· < ·):=by
 rw [putIntD_nums hz]; exact asc_insL hz _
def ascB (z:D):Bool:=decide ((numsOf z).Pairwise (· < ·))
theorem ascB_t {z:D} (h:(numsOf z).Pairwise (· < ·)):ascB z=true:=decide_eq_true h
theorem asc_of {z:D} (h:ascB z=true):(numsOf z).Pairwise (· < ·):=of_decide_eq_true h
theorem eqIntS_nums {x y:D} (h:numsOf x=numsOf y):eqIntS x y=true:=by
 have hl:x.rows.length=y.rows.length:=by rw [← numsOf_len,h,numsOf_len]
 unfold eqIntS alikeS
 rw [hl,beq_self_eq_true,Bool.true_and,List.all_eq_true]
 intro k hk
 have hk:=List.mem_range.1 hk
 have h1:=numsOf_at x k (by omega)
 have h2:=numsOf_at y k hk
 rw [h,h2] at h1
 injection h1 with h1
 show ((gd (x.rows.getD k []) 0).int==(gd (y.rows.getD k []) 0).int)=true
 rw [h1,beq_self_eq_true]
end Go.Proofs.YtpdfmcmnjikppaaGreat
namespace Go.Proofs.YtpdfmcmnjikppaaGreat
open Go.RowKit Go.Lib
theorem getD_row {l:List (List D)} {k:Nat} (h:k<l.length):l.getD k []=l[k]:=by simp [List.getD_eq_getElem?_getD,h]
theorem take_getD {l:List (List D)} {k:Nat} (h:k<l.length):l.take (k+1)=l.take k ++ [l.getD k []]:=by
 rw [List.take_add_one,List.getElem?_eq_getElem h,getD_row h]
 rfl
def lockOne (r:List D):Bool:=inB (gd r 0).int 1 60&&(rangeOk [gd r 1,gd r 2]&&i_isModeF [gd r 3])
theorem locksOk_iff (z:D):locksOk z=true↔(∀ r∈z.rows,lockOne r=true)∧z.rows.Pairwise (fun a b=>i_clashF b a=false)∧z.rows.length≤40:=by
 unfold locksOk
 simp only [Bool.and_eq_true,List.all_eq_true,List.mem_range,leI,decide_eq_true_eq]
 constructor
 ·rintro ⟨h,hl⟩
  refine ⟨fun r hr=>?_,List.pairwise_iff_getElem.2 fun i j hi hj hij=>?_,by omega⟩
  ·obtain ⟨k,hk,rfl⟩:=List.getElem_of_mem hr
   have:=h k hk
   rw [lockAt,getD_row hk] at this
   simp only [Bool.and_eq_true] at this
   simp only [lockOne,Bool.and_eq_true]
   exact ⟨this.1,this.2.1,this.2.2.1⟩
  ·have:=h j hj
   simp only [lockAt,Bool.and_eq_true,Bool.not_eq_true',List.any_eq_false,List.mem_range,Bool.not_eq_true] at this
   have:=this.2.2.2 i hij
   rwa [getD_row hj,getD_row hi] at this
 ·rintro ⟨h1,h2,h3⟩
  refine ⟨fun k hk=>?_,by omega⟩
  have a:=h1 _ (List.getElem_mem hk)
  simp only [lockOne,Bool.and_eq_true] at a
  simp only [lockAt,Bool.and_eq_true,Bool.not_eq_true',List.any_eq_false,List.mem_range,Bool.not_eq_true]
  rw [getD_row hk]
  refine ⟨a.1,a.2.1,a.2.2,fun j hj=>?_⟩
  rw [getD_row (by omega)]
  exact List.pairwise_iff_getElem.1 h2 j k (by omega) hk hj
theorem locksOk_filter {z:D} (h:locksOk z=true) (C:List D→Bool):locksOk (.l (z.rows.filter C))=true:=by
 obtain ⟨h1,h2,h3⟩:=(locksOk_iff z).1 h
 refine (locksOk_iff _).2 ⟨fun r hr=>h1 r (List.mem_filter.1 hr).1,h2.filter _,?_⟩
 have:=List.length_filter_le C z.rows
 show (z.rows.filter C).length≤40
 omega
theorem dropD_rows {z n:D} (h:locksOk z=true):(dropD z n).rows=z.rows.filter fun r => !((gd r 0).int==n.int):=by
 unfold dropD
 rw [h]
 rfl
theorem dropD_ok {z n:D} (h:locksOk z=true):locksOk (dropD z n)=true:=by
 have:dropD z n=.l (z.rows.filter fun r => !((gd r 0).int==n.int)):=by
  unfold dropD
  rw [h]
  rfl
 rw [this]
 exact locksOk_filter h _
theorem kpL_take (rows:List (List D)) (C:List D→Bool) (f:List D→List D):∀ k,k≤rows.length→kpL (fun k=>C (rows.getD k [])) (fun k=>f (rows.getD k [])) k=((rows.take k).filter C).map f
 | 0,_=>rfl
 | k+1,hk=>by
  rw [kpL,kpL_take rows C f k (by omega),take_getD (show k<rows.length by omega),List.filter_append,List.map_append]
  generalize rows.getD k []=r
  rw [List.filter_cons]
  cases C r <;> simp
theorem kpL_rows (rows:List (List D)) (C:List D→Bool) (f:List D→List D):kpL (fun k=>C (rows.getD k [])) (fun k=>f (rows.getD k [])) rows.length=(rows.filter C).map f:=by
 rw [kpL_take rows C f rows.length (Nat.le_refl _),List.take_length]
abbrev nrm (r:List D):List D:=sub r 0 4
theorem keepD_nrm (z:D) (n:Int):(keepD z n false).rows.map nrm=(z.rows.map nrm).filter fun r => !((gd r 0).int==n):=by
 unfold keepD
 rw [rows_l,kpL_rows z.rows (fun r=>((gd r 0).int==n)==false) (fun r=>sub r 0 4),List.map_map,List.filter_map]
 have e1:(nrm ∘ fun r=>sub r 0 4)=nrm:=rfl
 have e2:((fun r => !((gd r 0).int==n)) ∘ nrm)=fun r=>(((gd r 0).int==n)==false):=by
  funext r
  show (!((gd r 0).int==n))=(((gd r 0).int==n)==false)
  cases (gd r 0).int==n <;> rfl
 rw [e1,e2]
theorem eqLockS_nrm {x y:D} (h:x.rows.map nrm=y.rows.map nrm):eqLockS x y=true:=by
 have hl:x.rows.length=y.rows.length:=by
  have:=congrArg List.length h
  simpa using this
 unfold eqLockS alikeS
 rw [hl,beq_self_eq_true,Bool.true_and,List.all_eq_true]
 intro k hk
 have hk:=List.mem_range.1 hk
 have e:nrm (x.rows.getD k [])=nrm (y.rows.getD k []):=by
  have h1:(x.rows.map nrm)[k]?=(y.rows.map nrm)[k]?:=by rw [h]
  rw [List.getElem?_map,List.getElem?_map,List.getElem?_eq_getElem (by omega),List.getElem?_eq_getElem hk] at h1
  rw [getD_row (by omega),getD_row hk]
  simpa using h1
 show eqLock (nrm (x.rows.getD k [])) (nrm (y.rows.getD k []))=true
 rw [e]
 exact eqLock_refl _
def dropsS (l t:D):Nat→D
 | 0=>l
 | k+1=>dropD (dropsS l t k) (gd (t.rows.getD k []) 0)
theorem dropsS_rows {l t:D} (h:locksOk l=true):∀ k,k≤t.rows.length→(dropsS l t k).rows=l.rows.filter (fun r => !((numsOf t).take k).contains (gd r 0).int)∧locksOk (dropsS l t k)=true
 | 0,_=>⟨(List.filter_eq_self.2 fun r _=>rfl).symm,h⟩
 | k+1,hk=>by
  obtain ⟨h1,h2⟩:=dropsS_rows (t:=t) h k (by omega)
  refine ⟨?_,dropD_ok h2⟩
  rw [dropsS,dropD_rows h2,h1,List.filter_filter,take_succ' (numsOf_at t k (by omega))]
  refine List.filter_congr fun r _=>?_
  simp only [List.contains_eq_mem,List.mem_append,List.mem_singleton,← Bool.not_or,← Bool.decide_or]
  congr 1
  rw [Bool.eq_iff_iff]
  simp [or_comm]
theorem dropsS_len {l t:D} (h:locksOk l=true) {k:Nat} (hk:k≤t.rows.length):(dropsS l t k).rows.length≤40:=((locksOk_iff _).1 (dropsS_rows h k hk).2).2.2
def putsS (w t:D):Nat→D
 | 0=>w
 | k+1=>putIntD (putsS w t k) (gd (t.rows.getD k []) 0)
theorem putsS_mem {w t:D} (hw:(numsOf w).Pairwise (· < ·)):∀ k,k≤t.rows.length→(numsOf (putsS w t k)).Pairwise (· < ·)∧∀ m,m∈numsOf (putsS w t k)↔m∈numsOf w∨m∈(numsOf t).take k
 | 0,_=>⟨hw,fun m=>by simp [putsS]⟩
 | k+1,hk=>by
  obtain ⟨h1,h2⟩:=putsS_mem (t:=t) hw k (by omega)
  refine ⟨asc_put h1,fun m=>?_⟩
  rw [putsS,putIntD_nums h1,mem_insL,h2,take_succ' (numsOf_at t k (by omega))]
  simp only [List.mem_append,List.mem_singleton]
  constructor
  ·rintro (h | h | h)
   ·exact .inr (.inr h)
   ·exact .inl h
   ·exact .inr (.inl h)
  ·rintro (h | h | h)
   ·exact .inr (.inl h)
   ·exact .inr (.inr h)
   ·exact .inl h
theorem putsS_len (w t:D):∀ k,(putsS w t k).rows.length≤w.rows.length+k
 | 0=>Nat.le_refl _
 | k+1=>by
  have h1:=putsS_len w t k
  have h2:=putIntD_len (putsS w t k) (gd (t.rows.getD k []) 0)
  show (putIntD _ _).rows.length≤_
  omega
def touchS (l:D) (C:List D→Bool):Nat→D
 | 0=>.l []
 | k+1=>bif C (l.rows.getD k []) then putIntD (touchS l C k) (gd (l.rows.getD k []) 0) else touchS l C k
theorem touchS_mem (l:D) (C:List D→Bool):∀ k,k≤l.rows.length→(numsOf (touchS l C k)).Pairwise (· < ·)∧∀ m,m∈numsOf (touchS l C k)↔∃ r∈l.rows.take k,C r=true∧(gd r 0).int=m
 | 0,_=>⟨List.Pairwise.nil,fun m=>by simp [touchS,numsOf,D.rows]⟩
 | k+1,hk=>by
  obtain ⟨h1,h2⟩:=touchS_mem l C k (by omega)
  rw [take_getD (show k<l.rows.length by omega),touchS]
  generalize l.rows.getD k []=r
  cases hc:C r with
  | false =>
   refine ⟨h1,fun m=>?_⟩
   rw [cond_false,h2]
   constructor
   ·rintro ⟨x,hx,h⟩; exact ⟨x,by simp [hx],h⟩
   ·rintro ⟨x,hx,h,e⟩
    rcases List.mem_append.1 hx with hx | hx
    ·exact ⟨x,hx,h,e⟩
    ·rw [List.mem_singleton.1 hx,hc] at h; cases h
  | true =>
   refine ⟨asc_put h1,fun m=>?_⟩
   rw [cond_true,putIntD_nums h1,mem_insL,h2]
   constructor
   ·rintro (h | ⟨x,hx,h⟩)
    ·exact ⟨r,by simp,hc,h.symm⟩
    ·exact ⟨x,by simp [hx],h⟩
   ·rintro ⟨x,hx,h,e⟩
    rcases List.mem_append.1 hx with hx | hx
    ·exact .inr ⟨x,hx,h,e⟩
    ·rw [List.mem_singleton.1 hx] at e; exact .inl e.symm
theorem touchS_len (l:D) (C:List D→Bool):∀ k,(touchS l C k).rows.length≤k
 | 0=>Nat.le_refl _
 | k+1=>by
  have h1:=touchS_len l C k
  have h2:=putIntD_len (touchS l C k) (gd (l.rows.getD k []) 0)
  rw [touchS]
  cases C (l.rows.getD k [])
  ·show (touchS l C k).rows.length≤_; omega
  ·show (putIntD _ _).rows.length≤_; omega
def wndS (l w z:D) (M H:List D→Bool):Nat→D × D × Bool
 | 0=>(l,w,false)
 | k+1=>bif !(M (z.rows.getD k [])) then wndS l w z M H k else bif H (z.rows.getD k []) then ((wndS l w z M H k).1,(wndS l w z M H k).2.1,true) else
  (keepD (wndS l w z M H k).1 (gd (z.rows.getD k []) 0).int false,putIntD (wndS l w z M H k).2.1 (gd (z.rows.getD k []) 0),(wndS l w z M H k).2.2)
theorem wndS_mem {l w z:D} {M H:List D→Bool} (hw:(numsOf w).Pairwise (· < ·)):∀ k,k≤z.rows.length →
  ∃ ids:List Int,(∀ m,m∈ids↔∃ r∈z.rows.take k,(M r && !H r)=true∧(gd r 0).int=m)∧(wndS l w z M H k).1.rows.map nrm=(l.rows.map nrm).filter (fun r => !ids.contains (gd r 0).int) ∧
   (numsOf (wndS l w z M H k).2.1).Pairwise (· < ·)∧(∀ m,m∈numsOf (wndS l w z M H k).2.1↔m∈numsOf w∨m∈ids)∧((wndS l w z M H k).2.2=true↔∃ r∈z.rows.take k,(M r&&H r)=true)
 | 0,_=>⟨[],fun m=>by simp,(List.filter_eq_self.2 fun r _=>rfl).symm,hw,fun m=>by simp [wndS],by simp [wndS]⟩
 | k+1,hk=>by
  obtain ⟨ids,h1,h2,h3,h4,h5⟩:=wndS_mem (l:=l) (z:=z) (M:=M) (H:=H) hw k (by omega)
  rw [take_getD (show k<z.rows.length by omega),wndS]
  generalize z.rows.getD k []=r
  have hold:∀ Q:List D→Prop,¬ Q r→((∃ x∈z.rows.take k ++ [r],Q x)↔∃ x∈z.rows.take k,Q x):=fun Q hq=>by
   constructor
   ·rintro ⟨x,hx,h⟩
    rcases List.mem_append.1 hx with hx | hx
    ·exact ⟨x,hx,h⟩
    ·rw [List.mem_singleton.1 hx] at h; exact absurd h hq
   ·rintro ⟨x,hx,h⟩; exact ⟨x,by simp [hx],h⟩
  cases hm:M r with
  | false =>
   rw [Bool.not_false,cond_true]
   exact ⟨ids,fun m=>(h1 m).trans (hold (fun x=>(M x && !H x)=true∧(gd x 0).int=m) (by simp [hm])).symm,h2,h3,h4,h5.trans (hold (fun x=>(M x&&H x)=true) (by simp [hm])).symm⟩
  | true =>
   rw [Bool.not_true,cond_false]
   cases hh:H r with
   | true =>
    rw [cond_true]
    exact ⟨ids,fun m=>(h1 m).trans (hold (fun x=>(M x && !H x)=true∧(gd x 0).int=m) (by simp [hm,hh])).symm,h2,h3,h4,⟨fun _=>⟨r,by simp,by rw [hm,hh]; rfl⟩,fun _=>rfl⟩⟩
   | false =>
    rw [cond_false]
    refine ⟨ids ++ [(gd r 0).int],fun m=>?_,?_,asc_put h3,fun m=>?_,h5.trans (hold (fun x=>(M x&&H x)=true) (by simp [hh])).symm⟩
    ·rw [List.mem_append,h1,List.mem_singleton]
     constructor
     ·rintro (⟨x,hx,h⟩ | h)
      ·exact ⟨x,by simp [hx],h⟩
      ·exact ⟨r,by simp,by rw [hm,hh]; rfl,h.symm⟩
     ·rintro ⟨x,hx,h,e⟩
      rcases List.mem_append.1 hx with hx | hx
      ·exact .inl ⟨x,hx,h,e⟩
      ·rw [List.mem_singleton.1 hx] at e; exact .inr e.symm
    ·rw [keepD_nrm,h2,List.filter_filter]
     refine List.filter_congr fun x _=>?_
     simp only [List.contains_eq_mem,List.mem_append,List.mem_singleton,← Bool.not_or,← Bool.decide_or]
     congr 1
     rw [Bool.eq_iff_iff]
     simp [or_comm]
    ·rw [putIntD_nums h3,mem_insL,h4,List.mem_append,List.mem_singleton]
     constructor
     ·rintro (h | h | h)
      ·exact .inr (.inr h)
      ·exact .inl h
      ·exact .inr (.inl h)
     ·rintro (h | h | h)
      ·exact .inr (.inl h)
      ·exact .inr (.inr h)
      ·exact .inl h
end Go.Proofs.YtpdfmcmnjikppaaGreat
namespace Go.Proofs.YtpdfmcmnjikppaaGreat
set_option maxRecDepth 4096
set_option maxHeartbeats 1000000
def deepE (ds:List Nat):Ent:=(deepId,fun args=>match args with
 | [t]=>bif ds.contains (gd t.p 0).int.toNat then some (T.none_,false) else none
 | _=>none)
theorem deepE_ok {P:Program} (ds:List Nat):EntOk P (deepE ds):=by
 intro args r h
 unfold deepE at h
 simp only at h
 split at h
 ·rename_i t
  cases hc:ds.contains (gd t.p 0).int.toNat <;> rw [hc] at h <;> cases h
 ·cases h
def apartE:Ent:=(apartId,fun _=>some (T.none_,false))
theorem apartE_ok {P:Program}:EntOk P apartE:=by
 intro args r h
 unfold apartE at h
 cases h
theorem apart_ok {P:Program}:EntOk P apartE:=apartE_ok
def rDHeld:List Ce:= [.d si,.own (0,1) true 70]
def rDShard:List Ce:= [.d si,.own (0,1) true 41,.own (0,2) true 41,.own (0,3) true 108,.own (0,4) true 93,.own (0,1000005) true 75,.own (0,6) true 3,.own (0,7) true 3,.d si]
noncomputable def toIntSdL (N:Nat) (p:List D):List D→Out:=loopOf Tryz.prog (find []) N [0,2,3,4,11] Tryz.f71 (.one (.c (.own (0,0) true 3))) [⟨sd (.sl 3),p⟩] 0
theorem toIntSd_rd (p:List D) (N:Nat) (z x2:D) (rows:List (List D)) (k:Int):toIntSdL N p [z,x2,.l rows,.i k]=bif decide (k<z.rows.length) then nd (inRange k z.rows.length) (nd (okInt (z.rows.getD k.toNat [])) (nd (inRange k rows.length) (nx [z,x2,.l (rows.set k.toNat (cpInt (z.rows.getD k.toNat []))),.i (w64 (k+1))]))) else ex 0 [z,x2,.l rows,.i k]:=by kernel_rfl
theorem toIntSd_ev (p:List D) (N:Nat):evFn Tryz.prog (find []) N [0,2,3,4,11] Tryz.f71 (.one (.c (.own (0,0) true 3))) [⟨sd (.sl 3),p⟩]=some (bo,nd (decide (0≤((gd p 0).rows.length:Int))&&decide (((gd p 0).rows.length:Int)=((gd p 0).rows.length:Int))&&decide (((gd p 0).rows.length:Int)≤4294967296)&&true&&true)
  (let o:=iter (toIntSdL N p) N [gd p 0,.l [],.l (List.replicate (gd p 0).rows.length [.i 0]),.i 0]
   nd o.isSome (nd (o.code==2) (some (1,[gd o.pay 2]))))):=by kernel_rfl
def toIntSdE:Ent:=(71,e1 (sd (.sl 3)) fun p=>(⟨.one (.c (.own (0,0) true 3)),[cpIntS (gd p 0)]⟩,okIntS (gd p 0)))
theorem toIntSd_ok:EntOk Tryz.prog toIntSdE:=e1_ok fun p h=>evFn_sound (N:=(gd p 0).rows.length+1) (ks:= [0,2,3,4,11]) (key:=bo) (find_ok (fN)) (enters Tryz.func71) Tryz.func71 fun hw=>by
 have h:okIntS (gd p 0)=true:=h
 simp only [okIntS,Bool.and_eq_true,decide_eq_true_eq,List.all_eq_true] at h
 rw [toIntSd_ev,fill_loop (ok:=fun r=>okInt r) (f:=fun r=>cpInt r) [.i 0] (wt_sl (hw ⟨sd (.sl 3),p⟩ (by simp))) h.2 (toIntSd_rd p _ _ _) (by omega)]
 rw [show decide (((gd p 0).rows.length:Int)≤4294967296)=true from decide_eq_true (by omega),show decide (0≤((gd p 0).rows.length:Int))=true from decide_eq_true (by omega),decide_eq_true (rfl:((gd p 0).rows.length:Int)=_)]
 rfl
noncomputable def toCellSdL (N:Nat) (p:List D):List D→Out:=loopOf Tryz.prog (find [toCellE]) N [0,2,3,4,11] Tryz.f32 (.one (.c (.own (0,0) true 108))) [⟨sd (.sl 139),p⟩] 0
theorem toCellSd_rd (p:List D) (N:Nat) (z x2:D) (rows:List (List D)) (k:Int):toCellSdL N p [z,x2,.l rows,.i k]=bif decide (k<z.rows.length) then nd (inRange k z.rows.length) (nd (okCell (sub (z.rows.getD k.toNat []) 0 2)) (nd (inRange k rows.length) (nx [z,x2,.l (rows.set k.toNat (cpCell (sub (z.rows.getD k.toNat []) 0 2))),.i (w64 (k+1))]))) else ex 0 [z,x2,.l rows,.i k]:=by kernel_rfl
theorem toCellSd_ev (p:List D) (N:Nat):evFn Tryz.prog (find [toCellE]) N [0,2,3,4,11] Tryz.f32 (.one (.c (.own (0,0) true 108))) [⟨sd (.sl 139),p⟩]=some (bo,nd (decide (0≤((gd p 0).rows.length:Int))&&decide (((gd p 0).rows.length:Int)=((gd p 0).rows.length:Int))&&decide (((gd p 0).rows.length:Int)≤4294967296)&&true&&true)
  (let o:=iter (toCellSdL N p) N [gd p 0,.l [],.l (List.replicate (gd p 0).rows.length [.i 0,.i 0]),.i 0]
   nd o.isSome (nd (o.code==2) (some (1,[gd o.pay 2]))))):=by kernel_rfl
def toCellSdE:Ent:=(32,e1 (sd (.sl 139)) fun p=>(⟨.one (.c (.own (0,0) true 108)),[cpCellS (gd p 0)]⟩,okCellS (gd p 0)))
theorem toCellSd_ok:EntOk Tryz.prog toCellSdE:=e1_ok fun p h=>evFn_sound (N:=(gd p 0).rows.length+1) (ks:= [0,2,3,4,11]) (key:=bo) (find_ok (fC ⟨toCell_ok,fN⟩)) (enters Tryz.func32) Tryz.func32 fun hw=>by
 have h:okCellS (gd p 0)=true:=h
 simp only [okCellS,Bool.and_eq_true,decide_eq_true_eq,List.all_eq_true] at h
 rw [toCellSd_ev,fill_loop (ok:=fun r=>okCell (sub r 0 2)) (f:=fun r=>cpCell (sub r 0 2)) [.i 0,.i 0] (wt_sl (hw ⟨sd (.sl 139),p⟩ (by simp))) h.2 (toCellSd_rd p _ _ _) (by omega)]
 rw [show decide (((gd p 0).rows.length:Int)≤4294967296)=true from decide_eq_true (by omega),show decide (0≤((gd p 0).rows.length:Int))=true from decide_eq_true (by omega),decide_eq_true (rfl:((gd p 0).rows.length:Int)=_)]
 rfl
noncomputable def toRangeSdL (N:Nat) (p:List D):List D→Out:=loopOf Tryz.prog (find [toRangeE]) N [0,2,3,4,11] Tryz.f23 (.one (.c (.own (0,0) true 41))) [⟨sd (.sl 30),p⟩] 0
theorem toRangeSd_rd (p:List D) (N:Nat) (z x2:D) (rows:List (List D)) (k:Int):toRangeSdL N p [z,x2,.l rows,.i k]=bif decide (k<z.rows.length) then nd (inRange k z.rows.length) (nd (okRange (sub (z.rows.getD k.toNat []) 0 2)) (nd (inRange k rows.length) (nx [z,x2,.l (rows.set k.toNat (cpRange (sub (z.rows.getD k.toNat []) 0 2))),.i (w64 (k+1))]))) else ex 0 [z,x2,.l rows,.i k]:=by kernel_rfl
theorem toRangeSd_ev (p:List D) (N:Nat):evFn Tryz.prog (find [toRangeE]) N [0,2,3,4,11] Tryz.f23 (.one (.c (.own (0,0) true 41))) [⟨sd (.sl 30),p⟩]=some (bo,nd (decide (0≤((gd p 0).rows.length:Int))&&decide (((gd p 0).rows.length:Int)=((gd p 0).rows.length:Int))&&decide (((gd p 0).rows.length:Int)≤4294967296)&&true&&true)
  (let o:=iter (toRangeSdL N p) N [gd p 0,.l [],.l (List.replicate (gd p 0).rows.length [.i 0,.i 0]),.i 0]
   nd o.isSome (nd (o.code==2) (some (1,[gd o.pay 2]))))):=by kernel_rfl
def toRangeSdE:Ent:=(23,e1 (sd (.sl 30)) fun p=>(⟨.one (.c (.own (0,0) true 41)),[cpRangeS (gd p 0)]⟩,okRangeS (gd p 0)))
theorem toRangeSd_ok:EntOk Tryz.prog toRangeSdE:=e1_ok fun p h=>evFn_sound (N:=(gd p 0).rows.length+1) (ks:= [0,2,3,4,11]) (key:=bo) (find_ok (fC ⟨toRange_ok,fN⟩)) (enters Tryz.func23) Tryz.func23 fun hw=>by
 have h:okRangeS (gd p 0)=true:=h
 simp only [okRangeS,Bool.and_eq_true,decide_eq_true_eq,List.all_eq_true] at h
 rw [toRangeSd_ev,fill_loop (ok:=fun r=>okRange (sub r 0 2)) (f:=fun r=>cpRange (sub r 0 2)) [.i 0,.i 0] (wt_sl (hw ⟨sd (.sl 30),p⟩ (by simp))) h.2 (toRangeSd_rd p _ _ _) (by omega)]
 rw [show decide (((gd p 0).rows.length:Int)≤4294967296)=true from decide_eq_true (by omega),show decide (0≤((gd p 0).rows.length:Int))=true from decide_eq_true (by omega),decide_eq_true (rfl:((gd p 0).rows.length:Int)=_)]
 rfl
noncomputable def toWriteSdL (N:Nat) (p:List D):List D→Out:=loopOf Tryz.prog (find [toWriteE]) N [0,2,3,4,11] Tryz.f24 (.one (.c (.own (0,0) true 70))) [⟨sd (.sl 124),p⟩] 0
theorem toWriteSd_rd (p:List D) (N:Nat) (z x2:D) (rows:List (List D)) (k:Int):toWriteSdL N p [z,x2,.l rows,.i k]=bif decide (k<z.rows.length) then nd (inRange k z.rows.length) (nd (okWrite (sub (z.rows.getD k.toNat []) 0 2)) (nd (inRange k rows.length) (nx [z,x2,.l (rows.set k.toNat (cpWrite (sub (z.rows.getD k.toNat []) 0 2))),.i (w64 (k+1))]))) else ex 0 [z,x2,.l rows,.i k]:=by kernel_rfl
theorem toWriteSd_ev (p:List D) (N:Nat):evFn Tryz.prog (find [toWriteE]) N [0,2,3,4,11] Tryz.f24 (.one (.c (.own (0,0) true 70))) [⟨sd (.sl 124),p⟩]=some (bo,nd (decide (0≤((gd p 0).rows.length:Int))&&decide (((gd p 0).rows.length:Int)=((gd p 0).rows.length:Int))&&decide (((gd p 0).rows.length:Int)≤4294967296)&&true&&true)
  (let o:=iter (toWriteSdL N p) N [gd p 0,.l [],.l (List.replicate (gd p 0).rows.length [.i 0,.i 0]),.i 0]
   nd o.isSome (nd (o.code==2) (some (1,[gd o.pay 2]))))):=by kernel_rfl
def toWriteSdE:Ent:=(24,e1 (sd (.sl 124)) fun p=>(⟨.one (.c (.own (0,0) true 70)),[cpWriteS (gd p 0)]⟩,okWriteS (gd p 0)))
theorem toWriteSd_ok:EntOk Tryz.prog toWriteSdE:=e1_ok fun p h=>evFn_sound (N:=(gd p 0).rows.length+1) (ks:= [0,2,3,4,11]) (key:=bo) (find_ok (fC ⟨toWrite_ok,fN⟩)) (enters Tryz.func24) Tryz.func24 fun hw=>by
 have h:okWriteS (gd p 0)=true:=h
 simp only [okWriteS,Bool.and_eq_true,decide_eq_true_eq,List.all_eq_true] at h
 rw [toWriteSd_ev,fill_loop (ok:=fun r=>okWrite (sub r 0 2)) (f:=fun r=>cpWrite (sub r 0 2)) [.i 0,.i 0] (wt_sl (hw ⟨sd (.sl 124),p⟩ (by simp))) h.2 (toWriteSd_rd p _ _ _) (by omega)]
 rw [show decide (((gd p 0).rows.length:Int)≤4294967296)=true from decide_eq_true (by omega),show decide (0≤((gd p 0).rows.length:Int))=true from decide_eq_true (by omega),decide_eq_true (rfl:((gd p 0).rows.length:Int)=_)]
 rfl
noncomputable def toLockSdL (N:Nat) (p:List D):List D→Out:=loopOf Tryz.prog (find [toLockE]) N [0,2,3,4,11] Tryz.f69 (.one (.c (.own (0,0) true 93))) [⟨sd (.sl 174),p⟩] 0
theorem toLockSd_rd (p:List D) (N:Nat) (z x2:D) (rows:List (List D)) (k:Int):toLockSdL N p [z,x2,.l rows,.i k]=bif decide (k<z.rows.length) then nd (inRange k z.rows.length) (nd (okLock (sub (z.rows.getD k.toNat []) 0 4)) (nd (inRange k rows.length) (nx [z,x2,.l (rows.set k.toNat (cpLock (sub (z.rows.getD k.toNat []) 0 4))),.i (w64 (k+1))]))) else ex 0 [z,x2,.l rows,.i k]:=by kernel_rfl
theorem toLockSd_ev (p:List D) (N:Nat):evFn Tryz.prog (find [toLockE]) N [0,2,3,4,11] Tryz.f69 (.one (.c (.own (0,0) true 93))) [⟨sd (.sl 174),p⟩]=some (bo,nd (decide (0≤((gd p 0).rows.length:Int))&&decide (((gd p 0).rows.length:Int)=((gd p 0).rows.length:Int))&&decide (((gd p 0).rows.length:Int)≤4294967296)&&true&&true)
  (let o:=iter (toLockSdL N p) N [gd p 0,.l [],.l (List.replicate (gd p 0).rows.length [.i 0,.i 0,.i 0,.i 0]),.i 0]
   nd o.isSome (nd (o.code==2) (some (1,[gd o.pay 2]))))):=by kernel_rfl
def toLockSdE:Ent:=(69,e1 (sd (.sl 174)) fun p=>(⟨.one (.c (.own (0,0) true 93)),[cpLockS (gd p 0)]⟩,okLockS (gd p 0)))
theorem toLockSd_ok:EntOk Tryz.prog toLockSdE:=e1_ok fun p h=>evFn_sound (N:=(gd p 0).rows.length+1) (ks:= [0,2,3,4,11]) (key:=bo) (find_ok (fC ⟨toLock_ok,fN⟩)) (enters Tryz.func69) Tryz.func69 fun hw=>by
 have h:okLockS (gd p 0)=true:=h
 simp only [okLockS,Bool.and_eq_true,decide_eq_true_eq,List.all_eq_true] at h
 rw [toLockSd_ev,fill_loop (ok:=fun r=>okLock (sub r 0 4)) (f:=fun r=>cpLock (sub r 0 4)) [.i 0,.i 0,.i 0,.i 0] (wt_sl (hw ⟨sd (.sl 174),p⟩ (by simp))) h.2 (toLockSd_rd p _ _ _) (by omega)]
 rw [show decide (((gd p 0).rows.length:Int)≤4294967296)=true from decide_eq_true (by omega),show decide (0≤((gd p 0).rows.length:Int))=true from decide_eq_true (by omega),decide_eq_true (rfl:((gd p 0).rows.length:Int)=_)]
 rfl
theorem toHeldd_ev (p:List D) (N:Nat):evFn Tryz.prog (find [toWriteSdE]) N [0,1,2,3] Tryz.f191 (.one (.agg rDHeld)) [⟨ag rLHeld,p⟩]=some (bo,nd (okWriteS (gd p 1)) (some (1,cpHeld p))):=by kernel_rfl
def toHelddE:Ent:=(191,e1 (ag rLHeld) fun p=>(⟨.one (.agg rDHeld),cpHeld p⟩,okHeld p))
theorem toHeldd_ok:EntOk Tryz.prog toHelddE:=e1_ok fun p h=>evFn_sound (N:=0) (ks:= [0,1,2,3]) (key:=bo) (find_ok (fC ⟨toWriteSd_ok,fN⟩)) (enters Tryz.func191) Tryz.func191 fun _=>by
 have h:okHeld p=true:=h
 simp only [okHeld,Bool.and_eq_true] at h
 rw [toHeldd_ev]
 simp only [nd,h,cond_true]
noncomputable def toHeldSdL (N:Nat) (p:List D):List D→Out:=loopOf Tryz.prog (find [toHelddE,deepE [7]]) N [0,2,3,4,11] Tryz.f70 (.one (.c (.own (0,1000000) true 75))) [⟨sd (.sl 170),p⟩] 0
theorem toHeldSd_rd (p:List D) (N:Nat) (z x2:D) (rows:List (List D)) (k:Int):toHeldSdL N p [z,x2,.l rows,.i k]=bif decide (k<z.rows.length) then nd (inRange k z.rows.length) (nd (okHeld (sub (z.rows.getD k.toNat []) 0 2)) (nd (inRange k rows.length) (nx [z,x2,.l (rows.set k.toNat (cpHeld (sub (z.rows.getD k.toNat []) 0 2))),.i (w64 (k+1))]))) else ex 0 [z,x2,.l rows,.i k]:=by kernel_rfl
theorem toHeldSd_ev (p:List D) (N:Nat):evFn Tryz.prog (find [toHelddE,deepE [7]]) N [0,2,3,4,11] Tryz.f70 (.one (.c (.own (0,1000000) true 75))) [⟨sd (.sl 170),p⟩]=some (bo,nd (decide (0≤((gd p 0).rows.length:Int))&&decide (((gd p 0).rows.length:Int)=((gd p 0).rows.length:Int))&&decide (((gd p 0).rows.length:Int)≤4294967296)&&true&&true)
  (let o:=iter (toHeldSdL N p) N [gd p 0,.l [],.l (List.replicate (gd p 0).rows.length [.i 0,.l []]),.i 0]
   nd o.isSome (nd (o.code==2) (some (1,[gd o.pay 2]))))):=by kernel_rfl
def toHeldSdE:Ent:=(70,e1 (sd (.sl 170)) fun p=>(⟨.one (.c (.own (0,1000000) true 75)),[cpHeldS (gd p 0)]⟩,okHeldS (gd p 0)))
theorem toHeldSd_ok:EntOk Tryz.prog toHeldSdE:=e1_ok fun p h=>evFn_sound (N:=(gd p 0).rows.length+1) (ks:= [0,2,3,4,11]) (key:=bo) (find_ok (fC ⟨toHeldd_ok,fC ⟨deepE_ok _,fN⟩⟩)) (enters Tryz.func70) Tryz.func70 fun hw=>by
 have h:okHeldS (gd p 0)=true:=h
 simp only [okHeldS,Bool.and_eq_true,decide_eq_true_eq,List.all_eq_true] at h
 rw [toHeldSd_ev,fill_loop (ok:=fun r=>okHeld (sub r 0 2)) (f:=fun r=>cpHeld (sub r 0 2)) [.i 0,.l []] (wt_sl (hw ⟨sd (.sl 170),p⟩ (by simp))) h.2 (toHeldSd_rd p _ _ _) (by omega)]
 rw [show decide (((gd p 0).rows.length:Int)≤4294967296)=true from decide_eq_true (by omega),show decide (0≤((gd p 0).rows.length:Int))=true from decide_eq_true (by omega),decide_eq_true (rfl:((gd p 0).rows.length:Int)=_)]
 rfl
theorem toShardd_ev (p:List D) (N:Nat):evFn Tryz.prog (find [toRangeSdE,toRangeSdE,toCellSdE,toLockSdE,toHeldSdE,toIntSdE,toIntSdE]) N [0,1,2,3] Tryz.f11 (.one (.agg rDShard)) [⟨ag rLShard,p⟩]=some (bo,nd (okRangeS (gd p 1)) (nd (okRangeS (gd p 2)) (nd (okCellS (gd p 3)) (nd (okLockS (gd p 4)) (nd (okHeldS (gd p 5)) (nd (okIntS (gd p 6)) (nd (okIntS (gd p 7)) (some (1,cpShard p))))))))):=by kernel_rfl
def toSharddE:Ent:=(11,e1 (ag rLShard) fun p=>(⟨.one (.agg rDShard),cpShard p⟩,okShard p))
theorem toShardd_ok:EntOk Tryz.prog toSharddE:=e1_ok fun p h=>evFn_sound (N:=0) (ks:= [0,1,2,3]) (key:=bo) (find_ok (fC ⟨toRangeSd_ok,fC ⟨toRangeSd_ok,fC ⟨toCellSd_ok,fC ⟨toLockSd_ok,fC ⟨toHeldSd_ok,fC ⟨toIntSd_ok,fC ⟨toIntSd_ok,fN⟩⟩⟩⟩⟩⟩⟩)) (enters Tryz.func11) Tryz.func11 fun _=>by
 have h:okShard p=true:=h
 simp only [okShard,Bool.and_eq_true] at h
 rw [toShardd_ev]
 simp only [nd,h,cond_true]
end Go.Proofs.YtpdfmcmnjikppaaGreat
namespace Go.Proofs.YtpdfmcmnjikppaaGreat
set_option maxRecDepth 4096
set_option maxHeartbeats 1000000
def i_copySharddE:Ent:=deepE [28,44]
theorem i_copyShardd_ok:EntOk Tryz.prog i_copySharddE:=deepE_ok _
abbrev i_copyShardT:FuncId→List T→Option (T × Bool):=find [i_clonRangeE,i_clonCE,i_clonLockE,i_clonE,i_clonWriteE,i_copySharddE]
theorem i_copyShardT_ok:CallOk Tryz.prog i_copyShardT:=find_ok (fC ⟨i_clonRange_ok,fC ⟨i_clonC_ok,fC ⟨i_clonLock_ok,fC ⟨i_clon_ok,fC ⟨i_clonWrite_ok,fC ⟨i_copyShardd_ok,fN⟩⟩⟩⟩⟩⟩)
abbrev i_copyShardK:List Nat:= [0,1,2,3,5,30,31,32,33]
noncomputable def i_copyShardL0 (N:Nat) (p:List D):List D→Out:=loopOf Tryz.prog i_copyShardT N i_copyShardK Tryz.f74 (.one (.agg rDShard)) [⟨ag rIShard,p⟩] 0
theorem i_copyShardR0 (N:Nat) (p:List D) (x0 x1 x2 x3 x4 x5 x6 x7 x8 x9 x10 x11 x12 x13 x14 x15 x16 x17 x18 x19 x20 x21 x22 x23 x24 x25 x26 x27 x28 x29 x30 x31 x32 x33 x34 x35 x36 x37 x38 x39 x40 x41:D):(i_copyShardL0 N p) [x0,x1,x2,x3,x4,x5,x6,x7,x8,x9,x10,x11,x12,x13,x14,x15,x16,x17,x18,x19,x20,x21,x22,x23,x24,x25,x26,x27,x28,x29,x30,x31,x32,x33,x34,x35,x36,x37,x38,x39,x40,x41] =
 bif ltI x14.int x13.int then nd (inRange x14.int x12.rows.length) (nd (leI ((gd (x12.rows.getD x14.int.toNat []) 1).rows.length:Int) 2000000) (nd (lenOk (x38.rows ++ [[gd (x12.rows.getD x14.int.toNat []) 0,.l (gd (x12.rows.getD x14.int.toNat []) 1).rows]])&&true) (nx [x0,x1,x2,x3,x4,x5,x6,x7,x8,x9,x10,x11,x12,x13,.i (w64 (x14.int+1)),x15,x16,x17,x18,x19,x20,x21,x22,x23,x24,x25,x26,x27,x28,x29,x30,x31,x32,x33,x34,x35,x36,x37,.l (x38.rows ++ [[gd (x12.rows.getD x14.int.toNat []) 0,.l (gd (x12.rows.getD x14.int.toNat []) 1).rows]]),x39,x40,x41])))
 else ex 0 [x0,x1,x2,x3,x4,x5,x6,x7,x8,x9,x10,x11,x12,x13,x14,x15,x16,x17,x18,x19,x20,x21,x22,x23,x24,x25,x26,x27,x28,x29,x30,x31,x32,x33,x34,x35,x36,x37,x38,x39,x40,x41]:=by kernel_rfl
theorem i_copyShard_ev (N:Nat) (p:List D):evFn Tryz.prog i_copyShardT N i_copyShardK Tryz.f74 (.one (.agg rDShard)) [⟨ag rIShard,p⟩]=some (bo,
 nd ((leI ((gd p 1).rows.length:Int) 2000000)&&((leI ((gd p 2).rows.length:Int) 2000000)&&((leI ((gd p 3).rows.length:Int) 1000000)&&((leI ((gd p 4).rows.length:Int) 2000000)&&((leI ((gd p 6).rows.length:Int) 1000000000)&&((leI ((gd p 7).rows.length:Int) 1000000000)&&true)))))) (nd (((leI ((gd p 1).rows.length:Int) 2000000)&&((leI ((gd p 2).rows.length:Int) 2000000)&&((leI ((gd p 3).rows.length:Int) 1000000)&&((leI ((gd p 4).rows.length:Int) 2000000)&&((leI ((gd p 6).rows.length:Int) 1000000000)&&((leI ((gd p 7).rows.length:Int) 1000000000)&&true))))))&&(sameP [[.i 0],[gd p 0,.l (gd p 1).rows,.l (gd p 2).rows,.l (gd p 3).rows,.l (gd p 4).rows,.l [],.l (gd p 6).rows,.l (gd p 7).rows,gd p 8],[.l (gd p 7).rows],[.l (gd p 6).rows],[.l (gd p 4).rows],[.l (gd p 3).rows],[.l (gd p 2).rows],[.l (gd p 1).rows],[gd p 8],[.i 0],[gd p 7],[.i 0],[gd p 6],[.i 0],[gd p 4],[.i 0],[gd p 3],[.i 0],[gd p 2],[.i 0],[gd p 1],[.i 0],[gd p 0],[.i 0],p,[.i 0],[.i 0],[gd p 0,gd p 1,gd p 2,gd p 3,gd p 4,gd p 5,gd p 6,gd p 7,gd p 8],[.i 0,.l [],.l [],.l [],.l [],.l [],.l [],.l [],.i 0],[gd p 0,.l (gd p 1).rows,.l (gd p 2).rows,.l (gd p 3).rows,.l (gd p 4).rows,.l [],.l (gd p 6).rows,.l (gd p 7).rows,gd p 8]] [[.i 0],[gd p 0,.l (gd p 1).rows,.l (gd p 2).rows,.l (gd p 3).rows,.l (gd p 4).rows,.l [],.l (gd p 6).rows,.l (gd p 7).rows,gd p 8],[.l (gd p 7).rows],[.l (gd p 6).rows],[.l (gd p 4).rows],[.l (gd p 3).rows],[.l (gd p 2).rows],[.l (gd p 1).rows],[gd p 8],[.i 0],[gd p 7],[.i 0],[gd p 6],[.i 0],[gd p 4],[.i 0],[gd p 3],[.i 0],[gd p 2],[.i 0],[gd p 1],[.i 0],[gd p 0],[.i 0],p,[.i 0],[.i 0],[gd p 0,gd p 1,gd p 2,gd p 3,gd p 4,gd p 5,gd p 6,gd p 7,gd p 8],[.i 0,.l [],.l [],.l [],.l [],.l [],.l [],.l [],.i 0],[gd p 0,.l (gd p 1).rows,.l (gd p 2).rows,.l (gd p 3).rows,.l (gd p 4).rows,.l [],.l (gd p 6).rows,.l (gd p 7).rows,gd p 8]])) (nd (((leI ((gd p 1).rows.length:Int) 2000000)&&((leI ((gd p 2).rows.length:Int) 2000000)&&((leI ((gd p 3).rows.length:Int) 1000000)&&((leI ((gd p 4).rows.length:Int) 2000000)&&((leI ((gd p 6).rows.length:Int) 1000000000)&&((leI ((gd p 7).rows.length:Int) 1000000000)&&true))))))&&(sameP [[.i 0],[gd p 0,.l (gd p 1).rows,.l (gd p 2).rows,.l (gd p 3).rows,.l (gd p 4).rows,.l [],.l (gd p 6).rows,.l (gd p 7).rows,gd p 8],[.l (gd p 7).rows],[.l (gd p 6).rows],[.l (gd p 4).rows],[.l (gd p 3).rows],[.l (gd p 2).rows],[.l (gd p 1).rows],[gd p 8],[.i 0],[gd p 7],[.i 0],[gd p 6],[.i 0],[gd p 4],[.i 0],[gd p 3],[.i 0],[gd p 2],[.i 0],[gd p 1],[.i 0],[gd p 0],[.i 0],p,[.i 0],[.i 0],[gd p 0,gd p 1,gd p 2,gd p 3,gd p 4,gd p 5,gd p 6,gd p 7,gd p 8],[.i 0,.l [],.l [],.l [],.l [],.l [],.l [],.l [],.i 0],[gd p 0,.l (gd p 1).rows,.l (gd p 2).rows,.l (gd p 3).rows,.l (gd p 4).rows,.l [],.l (gd p 6).rows,.l (gd p 7).rows,gd p 8]] [[.i 0],[gd p 0,.l (gd p 1).rows,.l (gd p 2).rows,.l (gd p 3).rows,.l (gd p 4).rows,.l [],.l (gd p 6).rows,.l (gd p 7).rows,gd p 8],[.l (gd p 7).rows],[.l (gd p 6).rows],[.l (gd p 4).rows],[.l (gd p 3).rows],[.l (gd p 2).rows],[.l (gd p 1).rows],[gd p 8],[.i 0],[gd p 7],[.i 0],[gd p 6],[.i 0],[gd p 4],[.i 0],[gd p 3],[.i 0],[gd p 2],[.i 0],[gd p 1],[.i 0],[gd p 0],[.i 0],p,[.i 0],[.i 0],[gd p 0,gd p 1,gd p 2,gd p 3,gd p 4,gd p 5,gd p 6,gd p 7,gd p 8],[.i 0,.l [],.l [],.l [],.l [],.l [],.l [],.l [],.i 0],[gd p 0,.l (gd p 1).rows,.l (gd p 2).rows,.l (gd p 3).rows,.l (gd p 4).rows,.l [],.l (gd p 6).rows,.l (gd p 7).rows,gd p 8]])) (nd (((leI ((gd p 1).rows.length:Int) 2000000)&&((leI ((gd p 2).rows.length:Int) 2000000)&&((leI ((gd p 3).rows.length:Int) 1000000)&&((leI ((gd p 4).rows.length:Int) 2000000)&&((leI ((gd p 6).rows.length:Int) 1000000000)&&((leI ((gd p 7).rows.length:Int) 1000000000)&&true))))))&&(sameP [[.i 0],[gd p 0,.l (gd p 1).rows,.l (gd p 2).rows,.l (gd p 3).rows,.l (gd p 4).rows,.l [],.l (gd p 6).rows,.l (gd p 7).rows,gd p 8],[.l (gd p 7).rows],[.l (gd p 6).rows],[.l (gd p 4).rows],[.l (gd p 3).rows],[.l (gd p 2).rows],[.l (gd p 1).rows],[gd p 8],[.i 0],[gd p 7],[.i 0],[gd p 6],[.i 0],[gd p 4],[.i 0],[gd p 3],[.i 0],[gd p 2],[.i 0],[gd p 1],[.i 0],[gd p 0],[.i 0],p,[.i 0],[.i 0],[gd p 0,gd p 1,gd p 2,gd p 3,gd p 4,gd p 5,gd p 6,gd p 7,gd p 8],[.i 0,.l [],.l [],.l [],.l [],.l [],.l [],.l [],.i 0],[gd p 0,.l (gd p 1).rows,.l (gd p 2).rows,.l (gd p 3).rows,.l (gd p 4).rows,.l [],.l (gd p 6).rows,.l (gd p 7).rows,gd p 8]] [[.i 0],[gd p 0,.l (gd p 1).rows,.l (gd p 2).rows,.l (gd p 3).rows,.l (gd p 4).rows,.l [],.l (gd p 6).rows,.l (gd p 7).rows,gd p 8],[.l (gd p 7).rows],[.l (gd p 6).rows],[.l (gd p 4).rows],[.l (gd p 3).rows],[.l (gd p 2).rows],[.l (gd p 1).rows],[gd p 8],[.i 0],[gd p 7],[.i 0],[gd p 6],[.i 0],[gd p 4],[.i 0],[gd p 3],[.i 0],[gd p 2],[.i 0],[gd p 1],[.i 0],[gd p 0],[.i 0],p,[.i 0],[.i 0],[gd p 0,gd p 1,gd p 2,gd p 3,gd p 4,gd p 5,gd p 6,gd p 7,gd p 8],[.i 0,.l [],.l [],.l [],.l [],.l [],.l [],.l [],.i 0],[gd p 0,.l (gd p 1).rows,.l (gd p 2).rows,.l (gd p 3).rows,.l (gd p 4).rows,.l [],.l (gd p 6).rows,.l (gd p 7).rows,gd p 8]])) (nd (((leI ((gd p 1).rows.length:Int) 2000000)&&((leI ((gd p 2).rows.length:Int) 2000000)&&((leI ((gd p 3).rows.length:Int) 1000000)&&((leI ((gd p 4).rows.length:Int) 2000000)&&((leI ((gd p 6).rows.length:Int) 1000000000)&&((leI ((gd p 7).rows.length:Int) 1000000000)&&true))))))&&(sameP [[.i 0],[gd p 0,.l (gd p 1).rows,.l (gd p 2).rows,.l (gd p 3).rows,.l (gd p 4).rows,.l [],.l (gd p 6).rows,.l (gd p 7).rows,gd p 8],[.l (gd p 7).rows],[.l (gd p 6).rows],[.l (gd p 4).rows],[.l (gd p 3).rows],[.l (gd p 2).rows],[.l (gd p 1).rows],[gd p 8],[.i 0],[gd p 7],[.i 0],[gd p 6],[.i 0],[gd p 4],[.i 0],[gd p 3],[.i 0],[gd p 2],[.i 0],[gd p 1],[.i 0],[gd p 0],[.i 0],p,[.i 0],[.i 0],[gd p 0,gd p 1,gd p 2,gd p 3,gd p 4,gd p 5,gd p 6,gd p 7,gd p 8],[.i 0,.l [],.l [],.l [],.l [],.l [],.l [],.l [],.i 0],[gd p 0,.l (gd p 1).rows,.l (gd p 2).rows,.l (gd p 3).rows,.l (gd p 4).rows,.l [],.l (gd p 6).rows,.l (gd p 7).rows,gd p 8]] [[.i 0],[gd p 0,.l (gd p 1).rows,.l (gd p 2).rows,.l (gd p 3).rows,.l (gd p 4).rows,.l [],.l (gd p 6).rows,.l (gd p 7).rows,gd p 8],[.l (gd p 7).rows],[.l (gd p 6).rows],[.l (gd p 4).rows],[.l (gd p 3).rows],[.l (gd p 2).rows],[.l (gd p 1).rows],[gd p 8],[.i 0],[gd p 7],[.i 0],[gd p 6],[.i 0],[gd p 4],[.i 0],[gd p 3],[.i 0],[gd p 2],[.i 0],[gd p 1],[.i 0],[gd p 0],[.i 0],p,[.i 0],[.i 0],[gd p 0,gd p 1,gd p 2,gd p 3,gd p 4,gd p 5,gd p 6,gd p 7,gd p 8],[.i 0,.l [],.l [],.l [],.l [],.l [],.l [],.l [],.i 0],[gd p 0,.l (gd p 1).rows,.l (gd p 2).rows,.l (gd p 3).rows,.l (gd p 4).rows,.l [],.l (gd p 6).rows,.l (gd p 7).rows,gd p 8]])) (nd (((leI ((gd p 1).rows.length:Int) 2000000)&&((leI ((gd p 2).rows.length:Int) 2000000)&&((leI ((gd p 3).rows.length:Int) 1000000)&&((leI ((gd p 4).rows.length:Int) 2000000)&&((leI ((gd p 6).rows.length:Int) 1000000000)&&((leI ((gd p 7).rows.length:Int) 1000000000)&&true))))))&&(sameP [[.i 0],[gd p 0,.l (gd p 1).rows,.l (gd p 2).rows,.l (gd p 3).rows,.l (gd p 4).rows,.l [],.l (gd p 6).rows,.l (gd p 7).rows,gd p 8],[.l (gd p 7).rows],[.l (gd p 6).rows],[.l (gd p 4).rows],[.l (gd p 3).rows],[.l (gd p 2).rows],[.l (gd p 1).rows],[gd p 8],[.i 0],[gd p 7],[.i 0],[gd p 6],[.i 0],[gd p 4],[.i 0],[gd p 3],[.i 0],[gd p 2],[.i 0],[gd p 1],[.i 0],[gd p 0],[.i 0],p,[.i 0],[.i 0],[gd p 0,gd p 1,gd p 2,gd p 3,gd p 4,gd p 5,gd p 6,gd p 7,gd p 8],[.i 0,.l [],.l [],.l [],.l [],.l [],.l [],.l [],.i 0],[gd p 0,.l (gd p 1).rows,.l (gd p 2).rows,.l (gd p 3).rows,.l (gd p 4).rows,.l [],.l (gd p 6).rows,.l (gd p 7).rows,gd p 8]] [[.i 0],[gd p 0,.l (gd p 1).rows,.l (gd p 2).rows,.l (gd p 3).rows,.l (gd p 4).rows,.l [],.l (gd p 6).rows,.l (gd p 7).rows,gd p 8],[.l (gd p 7).rows],[.l (gd p 6).rows],[.l (gd p 4).rows],[.l (gd p 3).rows],[.l (gd p 2).rows],[.l (gd p 1).rows],[gd p 8],[.i 0],[gd p 7],[.i 0],[gd p 6],[.i 0],[gd p 4],[.i 0],[gd p 3],[.i 0],[gd p 2],[.i 0],[gd p 1],[.i 0],[gd p 0],[.i 0],p,[.i 0],[.i 0],[gd p 0,gd p 1,gd p 2,gd p 3,gd p 4,gd p 5,gd p 6,gd p 7,gd p 8],[.i 0,.l [],.l [],.l [],.l [],.l [],.l [],.l [],.i 0],[gd p 0,.l (gd p 1).rows,.l (gd p 2).rows,.l (gd p 3).rows,.l (gd p 4).rows,.l [],.l (gd p 6).rows,.l (gd p 7).rows,gd p 8]])) (nd (((leI ((gd p 1).rows.length:Int) 2000000)&&((leI ((gd p 2).rows.length:Int) 2000000)&&((leI ((gd p 3).rows.length:Int) 1000000)&&((leI ((gd p 4).rows.length:Int) 2000000)&&((leI ((gd p 6).rows.length:Int) 1000000000)&&((leI ((gd p 7).rows.length:Int) 1000000000)&&true))))))&&(sameP [[.i 0],[gd p 0,.l (gd p 1).rows,.l (gd p 2).rows,.l (gd p 3).rows,.l (gd p 4).rows,.l [],.l (gd p 6).rows,.l (gd p 7).rows,gd p 8],[.l (gd p 7).rows],[.l (gd p 6).rows],[.l (gd p 4).rows],[.l (gd p 3).rows],[.l (gd p 2).rows],[.l (gd p 1).rows],[gd p 8],[.i 0],[gd p 7],[.i 0],[gd p 6],[.i 0],[gd p 4],[.i 0],[gd p 3],[.i 0],[gd p 2],[.i 0],[gd p 1],[.i 0],[gd p 0],[.i 0],p,[.i 0],[.i 0],[gd p 0,gd p 1,gd p 2,gd p 3,gd p 4,gd p 5,gd p 6,gd p 7,gd p 8],[.i 0,.l [],.l [],.l [],.l [],.l [],.l [],.l [],.i 0],[gd p 0,.l (gd p 1).rows,.l (gd p 2).rows,.l (gd p 3).rows,.l (gd p 4).rows,.l [],.l (gd p 6).rows,.l (gd p 7).rows,gd p 8]] [[.i 0],[gd p 0,.l (gd p 1).rows,.l (gd p 2).rows,.l (gd p 3).rows,.l (gd p 4).rows,.l [],.l (gd p 6).rows,.l (gd p 7).rows,gd p 8],[.l (gd p 7).rows],[.l (gd p 6).rows],[.l (gd p 4).rows],[.l (gd p 3).rows],[.l (gd p 2).rows],[.l (gd p 1).rows],[gd p 8],[.i 0],[gd p 7],[.i 0],[gd p 6],[.i 0],[gd p 4],[.i 0],[gd p 3],[.i 0],[gd p 2],[.i 0],[gd p 1],[.i 0],[gd p 0],[.i 0],p,[.i 0],[.i 0],[gd p 0,gd p 1,gd p 2,gd p 3,gd p 4,gd p 5,gd p 6,gd p 7,gd p 8],[.i 0,.l [],.l [],.l [],.l [],.l [],.l [],.l [],.i 0],[gd p 0,.l (gd p 1).rows,.l (gd p 2).rows,.l (gd p 3).rows,.l (gd p 4).rows,.l [],.l (gd p 6).rows,.l (gd p 7).rows,gd p 8]])) (nd (((leI ((gd p 1).rows.length:Int) 2000000)&&((leI ((gd p 2).rows.length:Int) 2000000)&&((leI ((gd p 3).rows.length:Int) 1000000)&&((leI ((gd p 4).rows.length:Int) 2000000)&&((leI ((gd p 6).rows.length:Int) 1000000000)&&((leI ((gd p 7).rows.length:Int) 1000000000)&&true))))))&&(sameP [[.i 0],[gd p 0,.l (gd p 1).rows,.l (gd p 2).rows,.l (gd p 3).rows,.l (gd p 4).rows,.l [],.l (gd p 6).rows,.l (gd p 7).rows,gd p 8],[.l (gd p 7).rows],[.l (gd p 6).rows],[.l (gd p 4).rows],[.l (gd p 3).rows],[.l (gd p 2).rows],[.l (gd p 1).rows],[gd p 8],[.i 0],[gd p 7],[.i 0],[gd p 6],[.i 0],[gd p 4],[.i 0],[gd p 3],[.i 0],[gd p 2],[.i 0],[gd p 1],[.i 0],[gd p 0],[.i 0],p,[.i 0],[.i 0],[gd p 0,gd p 1,gd p 2,gd p 3,gd p 4,gd p 5,gd p 6,gd p 7,gd p 8],[.i 0,.l [],.l [],.l [],.l [],.l [],.l [],.l [],.i 0],[gd p 0,.l (gd p 1).rows,.l (gd p 2).rows,.l (gd p 3).rows,.l (gd p 4).rows,.l [],.l (gd p 6).rows,.l (gd p 7).rows,gd p 8]] [[.i 0],[gd p 0,.l (gd p 1).rows,.l (gd p 2).rows,.l (gd p 3).rows,.l (gd p 4).rows,.l [],.l (gd p 6).rows,.l (gd p 7).rows,gd p 8],[.l (gd p 7).rows],[.l (gd p 6).rows],[.l (gd p 4).rows],[.l (gd p 3).rows],[.l (gd p 2).rows],[.l (gd p 1).rows],[gd p 8],[.i 0],[gd p 7],[.i 0],[gd p 6],[.i 0],[gd p 4],[.i 0],[gd p 3],[.i 0],[gd p 2],[.i 0],[gd p 1],[.i 0],[gd p 0],[.i 0],p,[.i 0],[.i 0],[gd p 0,gd p 1,gd p 2,gd p 3,gd p 4,gd p 5,gd p 6,gd p 7,gd p 8],[.i 0,.l [],.l [],.l [],.l [],.l [],.l [],.l [],.i 0],[gd p 0,.l (gd p 1).rows,.l (gd p 2).rows,.l (gd p 3).rows,.l (gd p 4).rows,.l [],.l (gd p 6).rows,.l (gd p 7).rows,gd p 8]])) ((let o0:=iter (i_copyShardL0 N p) N [gd p 0,gd p 1,gd p 2,gd p 3,gd p 4,gd p 5,gd p 6,gd p 7,gd p 8,.i 0,.i 0,.i 0,gd p 5,.i ((gd p 5).rows.length:Int),.i 0,gd p 0,gd p 1,gd p 2,gd p 3,gd p 4,gd p 5,gd p 6,gd p 7,gd p 8,.i 0,.l [],.l [],.l [],.l [],.l [],.l [],.l [],.i 0,gd p 0,.l (gd p 1).rows,.l (gd p 2).rows,.l (gd p 3).rows,.l (gd p 4).rows,.l [],.l (gd p 6).rows,.l (gd p 7).rows,gd p 8]
  nd o0.isSome (nd (o0.code==2) (some (1,sub o0.pay 33 9))))))))))))):=by kernel_rfl
def dupShard (p:List D):List D:= [gd p 0,.l (gd p 1).rows,.l (gd p 2).rows,.l (gd p 3).rows,.l (gd p 4).rows,.l (kpL (fun _=>true) (fun k => [gd ((gd p 5).rows.getD k []) 0,.l (gd ((gd p 5).rows.getD k []) 1).rows]) (gd p 5).rows.length),.l (gd p 6).rows,.l (gd p 7).rows,gd p 8]
def dupOk (p:List D):Bool:=leI ((gd p 1).rows.length:Int) 1000000&&(leI ((gd p 2).rows.length:Int) 1000000&&(leI ((gd p 3).rows.length:Int) 1000000&&(leI ((gd p 4).rows.length:Int) 1000000&&(leI ((gd p 5).rows.length:Int) 1000000&&(leI ((gd p 6).rows.length:Int) 1000000&&(leI ((gd p 7).rows.length:Int) 1000000&&(List.range (gd p 5).rows.length).all fun k=>leI ((gd ((gd p 5).rows.getD k []) 1).rows.length:Int) 1000000))))))
def i_copyShardE:Ent:=(74,e1 (ag rIShard) fun p=>(⟨.one (.agg rDShard),sub (dupShard p) 0 9⟩,dupOk p))
theorem i_copyShard_ok:EntOk Tryz.prog i_copyShardE:=e1_ok fun p h=>evFn_sound (N:=(gd p 5).rows.length+1) (ks:=i_copyShardK) (key:=bo) i_copyShardT_ok (enters Tryz.func74) Tryz.func74 fun hw=>by
 rw [i_copyShard_ev]
 have h:dupOk p=true:=h
 unfold dupOk at h
 simp only [Bool.and_eq_true] at h
 obtain ⟨h1,h2,h3,h4,h5,h6,h7,h8⟩:=h
 have hw:∀ k,k<(gd p 5).rows.length→leI ((gd ((gd p 5).rows.getD k []) 1).rows.length:Int) 1000000=true:=fun k hk=>List.all_eq_true.1 h8 k (List.mem_range.2 hk)
 simp only [leI,decide_eq_true_eq] at h1 h2 h3 h4 h5 h6 h7 hw
 have q1:leI ((gd p 1).rows.length:Int) 2000000=true:=leI_t (by omega)
 have q2:leI ((gd p 2).rows.length:Int) 2000000=true:=leI_t (by omega)
 have q3:leI ((gd p 3).rows.length:Int) 1000000=true:=leI_t (by omega)
 have q4:leI ((gd p 4).rows.length:Int) 2000000=true:=leI_t (by omega)
 have q6:leI ((gd p 6).rows.length:Int) 1000000000=true:=leI_t (by omega)
 have q7:leI ((gd p 7).rows.length:Int) 1000000000=true:=leI_t (by omega)
 simp only [q1,q2,q3,q4,q6,q7,Bool.and_true,Bool.and_self,sameP_self,nd_true]
 have e:=run_loop (L:=i_copyShardL0 ((gd p 5).rows.length+1) p) (fun k => [gd p 0,gd p 1,gd p 2,gd p 3,gd p 4,gd p 5,gd p 6,gd p 7,gd p 8,.i 0,.i 0,.i 0,gd p 5,.i ((gd p 5).rows.length:Int),.i (k:Int),gd p 0,gd p 1,gd p 2,gd p 3,gd p 4,gd p 5,gd p 6,gd p 7,gd p 8,.i 0,.l [],.l [],.l [],.l [],.l [],.l [],.l [],.i 0,gd p 0,.l (gd p 1).rows,.l (gd p 2).rows,.l (gd p 3).rows,.l (gd p 4).rows,.l (kpL (fun _=>true) (fun k => [gd ((gd p 5).rows.getD k []) 0,.l (gd ((gd p 5).rows.getD k []) 1).rows]) k),.l (gd p 6).rows,.l (gd p 7).rows,gd p 8]) (gd p 5).rows.length 0 (fun k hk=>?_) ?_ (N:=(gd p 5).rows.length+1) (by omega)
 ·simp only [Int.natCast_zero,show kpL (fun _=>true) (fun k => [gd ((gd p 5).rows.getD k []) 0,.l (gd ((gd p 5).rows.getD k []) 1).rows]) 0 = [] from rfl] at e
  rw [e]
  rfl
 ·show i_copyShardL0 _ p [_,_,_,_,_,_,_,_,_,_,_,_,_,_,.i (k:Int),_,_,_,_,_,_,_,_,_,_,_,_,_,_,_,_,_,_,_,_,_,_,_,_,_,_,_]=_
  rw [i_copyShardR0]
  have hk1:=hw k hk
  have hlen:=kpL_len (fun _=>true) (fun k => [gd ((gd p 5).rows.getD k []) 0,.l (gd ((gd p 5).rows.getD k []) 1).rows]) k
  have l1:leI ((gd ((gd p 5).rows.getD k []) 1).rows.length:Int) 2000000=true:=leI_t (by omega)
  have l2:lenOk (kpL (fun _=>true) (fun k => [gd ((gd p 5).rows.getD k []) 0,.l (gd ((gd p 5).rows.getD k []) 1).rows]) k ++ [[gd ((gd p 5).rows.getD k []) 0,D.l (gd ((gd p 5).rows.getD k []) 1).rows]])=true:=lenOk_t (by rw [List.length_append]; show _+1≤_; omega)
  simp only [int_i,rows_l,c_lt hk,nd_ix hk,Int.toNat_natCast,w64_succ hk (show (gd p 5).rows.length≤9223372036854775807 by omega),l1,l2,Bool.and_self,nd_true]
  rfl
 ·show i_copyShardL0 _ p [_,_,_,_,_,_,_,_,_,_,_,_,_,_,.i ((gd p 5).rows.length:Int),_,_,_,_,_,_,_,_,_,_,_,_,_,_,_,_,_,_,_,_,_,_,_,_,_,_,_]=_
  rw [i_copyShardR0]
  simp only [int_i,c_nlt]
abbrev s_l13CopyT:FuncId→List T→Option (T × Bool):=find []
theorem s_l13CopyT_ok:CallOk Tryz.prog s_l13CopyT:=find_ok (fN)
abbrev s_l13CopyK:List Nat:= [0,1,2,3,4,5,35]
noncomputable def s_l13CopyL0 (N:Nat) (p:List D):List D→Out:=loopOf Tryz.prog s_l13CopyT N s_l13CopyK Tryz.f61 (.one (.agg [.d si,.d (.sl 41),.d (.sl 41),.d (.sl 108),.d (.sl 93),.d (.sl 75),.d (.sl 3),.d (.sl 3),.d si])) [⟨ag rIShard,p⟩] 0
theorem s_l13CopyR0 (N:Nat) (p:List D) (x0 x1 x2 x3 x4 x5 x6 x7 x8 x9 x10 x11 x12 x13 x14 x15 x16 x17 x18 x19 x20 x21 x22 x23 x24 x25 x26 x27 x28 x29 x30 x31 x32 x33 x34 x35 x36 x37 x38 x39:D):(s_l13CopyL0 N p) [x0,x1,x2,x3,x4,x5,x6,x7,x8,x9,x10,x11,x12,x13,x14,x15,x16,x17,x18,x19,x20,x21,x22,x23,x24,x25,x26,x27,x28,x29,x30,x31,x32,x33,x34,x35,x36,x37,x38,x39] =
 bif ltI x12.int (x18.rows.length:Int) then nd (inRange x12.int x18.rows.length) (nd (lenOk ([]++(gd (x18.rows.getD x12.int.toNat []) 1).rows)&&true) (nd (lenOk (x36.rows ++ [[gd (x18.rows.getD x12.int.toNat []) 0,.l ([]++(gd (x18.rows.getD x12.int.toNat []) 1).rows)]])&&true) (nx [x0,x1,x2,x3,x4,x5,x6,x7,x8,x9,x10,x11,.i (w64 (x12.int+1)),x13,x14,x15,x16,x17,x18,x19,x20,x21,x22,x23,x24,x25,x26,x27,x28,x29,x30,x31,x32,x33,x34,x35,.l (x36.rows ++ [[gd (x18.rows.getD x12.int.toNat []) 0,.l ([]++(gd (x18.rows.getD x12.int.toNat []) 1).rows)]]),x37,x38,x39])))
 else ex 0 [x0,x1,x2,x3,x4,x5,x6,x7,x8,x9,x10,x11,x12,x13,x14,x15,x16,x17,x18,x19,x20,x21,x22,x23,x24,x25,x26,x27,x28,x29,x30,x31,x32,x33,x34,x35,x36,x37,x38,x39]:=by kernel_rfl
theorem s_l13Copy_ev (N:Nat) (p:List D):evFn Tryz.prog s_l13CopyT N s_l13CopyK Tryz.f61 (.one (.agg [.d si,.d (.sl 41),.d (.sl 41),.d (.sl 108),.d (.sl 93),.d (.sl 75),.d (.sl 3),.d (.sl 3),.d si])) [⟨ag rIShard,p⟩]=some (bo,
 nd (lenOk ([]++(gd p 1).rows)&&true) (nd (lenOk ([]++(gd p 2).rows)&&true) (nd (lenOk ([]++(gd p 3).rows)&&true) (nd (lenOk ([]++(gd p 4).rows)&&true) ((let o0:=iter (s_l13CopyL0 N p) N [gd p 0,gd p 1,gd p 2,gd p 3,gd p 4,gd p 5,gd p 6,gd p 7,gd p 8,.i 0,.i 0,.i 0,.i 0,gd p 0,gd p 1,gd p 2,gd p 3,gd p 4,gd p 5,gd p 6,gd p 7,gd p 8,.i 0,.l [],.l [],.l [],.l [],.l [],.l [],.l [],.i 0,gd p 0,.l ([]++(gd p 1).rows),.l ([]++(gd p 2).rows),.l ([]++(gd p 3).rows),.l ([]++(gd p 4).rows),.l [],.l [],.l [],gd p 8]
  nd o0.isSome (nd (o0.code==2) (nd (lenOk ([]++(gd o0.pay 19).rows)&&true) (nd (lenOk ([]++(gd o0.pay 20).rows)&&true) (some (1,[gd o0.pay 31,gd o0.pay 32,gd o0.pay 33,gd o0.pay 34,gd o0.pay 35,gd o0.pay 36,.l ([]++(gd o0.pay 19).rows),.l ([]++(gd o0.pay 20).rows),gd o0.pay 39]))))))))))):=by kernel_rfl
def s_l13CopyE:Ent:=(61,e1 (ag rIShard) fun p=>(⟨.one (.agg [.d si,.d (.sl 41),.d (.sl 41),.d (.sl 108),.d (.sl 93),.d (.sl 75),.d (.sl 3),.d (.sl 3),.d si]),sub (dupShard p) 0 9⟩,dupOk p))
theorem s_l13Copy_ok:EntOk Tryz.prog s_l13CopyE:=e1_ok fun p h=>evFn_sound (N:=(gd p 5).rows.length+1) (ks:=s_l13CopyK) (key:=bo) s_l13CopyT_ok (enters Tryz.func61) Tryz.func61 fun hw=>by
 rw [s_l13Copy_ev]
 have h:dupOk p=true:=h
 unfold dupOk at h
 simp only [Bool.and_eq_true] at h
 obtain ⟨h1,h2,h3,h4,h5,h6,h7,h8⟩:=h
 have hw:∀ k,k<(gd p 5).rows.length→leI ((gd ((gd p 5).rows.getD k []) 1).rows.length:Int) 1000000=true:=fun k hk=>List.all_eq_true.1 h8 k (List.mem_range.2 hk)
 simp only [leI,decide_eq_true_eq] at h1 h2 h3 h4 h5 h6 h7 hw
 have q1:lenOk (gd p 1).rows=true:=lenOk_t (by omega)
 have q2:lenOk (gd p 2).rows=true:=lenOk_t (by omega)
 have q3:lenOk (gd p 3).rows=true:=lenOk_t (by omega)
 have q4:lenOk (gd p 4).rows=true:=lenOk_t (by omega)
 have q6:lenOk (gd p 6).rows=true:=lenOk_t (by omega)
 have q7:lenOk (gd p 7).rows=true:=lenOk_t (by omega)
 simp only [q1,q2,q3,q4,List.nil_append,Bool.and_self,nd_true]
 have e:=run_loop (L:=s_l13CopyL0 ((gd p 5).rows.length+1) p) (fun k => [gd p 0,gd p 1,gd p 2,gd p 3,gd p 4,gd p 5,gd p 6,gd p 7,gd p 8,.i 0,.i 0,.i 0,.i (k:Int),gd p 0,gd p 1,gd p 2,gd p 3,gd p 4,gd p 5,gd p 6,gd p 7,gd p 8,.i 0,.l [],.l [],.l [],.l [],.l [],.l [],.l [],.i 0,gd p 0,.l ((gd p 1).rows),.l ((gd p 2).rows),.l ((gd p 3).rows),.l ((gd p 4).rows),.l (kpL (fun _=>true) (fun k => [gd ((gd p 5).rows.getD k []) 0,.l (gd ((gd p 5).rows.getD k []) 1).rows]) k),.l [],.l [],gd p 8]) (gd p 5).rows.length 0 (fun k hk=>?_) ?_ (N:=(gd p 5).rows.length+1) (by omega)
 ·simp only [Int.natCast_zero,show kpL (fun _=>true) (fun k => [gd ((gd p 5).rows.getD k []) 0,.l (gd ((gd p 5).rows.getD k []) 1).rows]) 0 = [] from rfl] at e
  rw [e]
  show some (bo,nd (lenOk ([]++(gd p 6).rows)&&true) (nd (lenOk ([]++(gd p 7).rows)&&true) (some (1,[gd p 0,.l (gd p 1).rows,.l (gd p 2).rows,.l (gd p 3).rows,.l (gd p 4).rows,.l (kpL (fun _=>true) (fun k => [gd ((gd p 5).rows.getD k []) 0,.l (gd ((gd p 5).rows.getD k []) 1).rows]) (gd p 5).rows.length),.l ([]++(gd p 6).rows),.l ([]++(gd p 7).rows),gd p 8]))))=_
  simp only [List.nil_append,q6,q7,Bool.and_self,nd_true]
  rfl
 ·show s_l13CopyL0 _ p [_,_,_,_,_,_,_,_,_,_,_,_,.i (k:Int),_,_,_,_,_,_,_,_,_,_,_,_,_,_,_,_,_,_,_,_,_,_,_,_,_,_,_]=_
  rw [s_l13CopyR0]
  have hk1:=hw k hk
  have hlen:=kpL_len (fun _=>true) (fun k => [gd ((gd p 5).rows.getD k []) 0,.l (gd ((gd p 5).rows.getD k []) 1).rows]) k
  have l1:lenOk (gd ((gd p 5).rows.getD k []) 1).rows=true:=lenOk_t (by omega)
  have l2:lenOk (kpL (fun _=>true) (fun k => [gd ((gd p 5).rows.getD k []) 0,.l (gd ((gd p 5).rows.getD k []) 1).rows]) k ++ [[gd ((gd p 5).rows.getD k []) 0,D.l (gd ((gd p 5).rows.getD k []) 1).rows]])=true:=lenOk_t (by rw [List.length_append]; show _+1≤_; omega)
  simp only [int_i,rows_l,c_lt hk,nd_ix hk,Int.toNat_natCast,w64_succ hk (show (gd p 5).rows.length≤9223372036854775807 by omega),List.nil_append,l1,l2,Bool.and_self,nd_true]
  rfl
 ·show s_l13CopyL0 _ p [_,_,_,_,_,_,_,_,_,_,_,_,.i ((gd p 5).rows.length:Int),_,_,_,_,_,_,_,_,_,_,_,_,_,_,_,_,_,_,_,_,_,_,_,_,_,_,_]=_
  rw [s_l13CopyR0]
  simp only [int_i,c_nlt]
end Go.Proofs.YtpdfmcmnjikppaaGreat
namespace Go.Proofs.YtpdfmcmnjikppaaGreat
set_option maxRecDepth 4096
set_option maxHeartbeats 1000000
abbrev s_l13RefusedT:FuncId→List T→Option (T × Bool):=find [s_l13CopyE]
theorem s_l13RefusedT_ok:CallOk Tryz.prog s_l13RefusedT:=find_ok (fC ⟨s_l13Copy_ok,fN⟩)
abbrev s_l13RefusedK:List Nat:= [0,1,2,4,6]
theorem s_l13Refused_ev (N:Nat) (p q:List D):evFn Tryz.prog s_l13RefusedT N s_l13RefusedK Tryz.f60 (.one (.agg [.d si,.d (.sl 41),.d (.sl 41),.d (.sl 108),.d (.sl 93),.d (.sl 75),.d (.sl 3),.d (.sl 3),.d si])) [⟨ag rIShard,p⟩,⟨ri,q⟩]=some (bo,
 bif (gd q 0).int==1 then some (1,[.i 0,.l [],.l [],.l [],.l [],.l [],.l [],.l [],.i 0])
 else nd (dupOk (sub p 0 9)) (some (1,sub (sub (dupShard (sub p 0 9)) 0 9) 0 9))):=by kernel_rfl
def noShard:List D:= [.i 0,.l [],.l [],.l [],.l [],.l [],.l [],.l [],.i 0]
def refShard (p:List D) (c:Int):List D:=bif c==1 then noShard else dupShard p
def s_l13RefusedE:Ent:=(60,e2 (ag rIShard) ri fun p q=>(⟨.one (.agg [.d si,.d (.sl 41),.d (.sl 41),.d (.sl 108),.d (.sl 93),.d (.sl 75),.d (.sl 3),.d (.sl 3),.d si]),sub (refShard p (gd q 0).int) 0 9⟩,dupOk p||(gd q 0).int==1))
theorem s_l13Refused_ok:EntOk Tryz.prog s_l13RefusedE:=e2_ok fun p q h=>evFn_sound (N:=0) (ks:=s_l13RefusedK) (key:=bo) s_l13RefusedT_ok (enters Tryz.func60) Tryz.func60 fun hw=>by
 rw [s_l13Refused_ev]
 have h:(dupOk p||(gd q 0).int==1)=true:=h
 cases hc:(gd q 0).int==1 with
 | true =>
  show some (bo,some (1,_))=some (bo,some (1,sub (refShard p (gd q 0).int) 0 9))
  unfold refShard
  rw [hc]
  rfl
 | false =>
  rw [hc,Bool.or_false] at h
  have h:dupOk (sub p 0 9)=true:=h
  rw [h]
  show some (bo,some (1,_))=some (bo,some (1,sub (refShard p (gd q 0).int) 0 9))
  unfold refShard
  rw [hc]
  rfl
def i_asItWasdE:Ent:=deepE [8]
theorem i_asItWasd_ok:EntOk Tryz.prog i_asItWasdE:=deepE_ok _
abbrev i_asItWasT:FuncId→List T→Option (T × Bool):=find [i_copyShardE,i_asItWasdE]
theorem i_asItWasT_ok:CallOk Tryz.prog i_asItWasT:=find_ok (fC ⟨i_copyShard_ok,fC ⟨i_asItWasd_ok,fN⟩⟩)
abbrev i_asItWasK:List Nat:= [0,1,2,4,5,7]
theorem i_asItWas_ev (N:Nat) (p q:List D):evFn Tryz.prog i_asItWasT N i_asItWasK Tryz.f73 (.tup [.agg rDShard,.c (.d si)]) [⟨ag rIShard,p⟩,⟨ri,q⟩]=some (bo,
 bif (gd q 0).int==1 then some (1,[.i 0,.l [],.l [],.l [],.l [],.l [],.l [],.l [],.i 0,.i 1])
 else nd (dupOk (sub p 0 9)) (some (1,[gd (sub (dupShard (sub p 0 9)) 0 9) 0,gd (sub (dupShard (sub p 0 9)) 0 9) 1,gd (sub (dupShard (sub p 0 9)) 0 9) 2,gd (sub (dupShard (sub p 0 9)) 0 9) 3,gd (sub (dupShard (sub p 0 9)) 0 9) 4,gd (sub (dupShard (sub p 0 9)) 0 9) 5,gd (sub (dupShard (sub p 0 9)) 0 9) 6,gd (sub (dupShard (sub p 0 9)) 0 9) 7,gd (sub (dupShard (sub p 0 9)) 0 9) 8,gd q 0]))):=by kernel_rfl
def asWas (p:List D) (c:D):List D:=bif c.int==1 then noShard ++ [.i 1] else dupShard p ++ [c]
def i_asItWasE:Ent:=(73,e2 (ag rIShard) ri fun p q=>(⟨.tup [.agg rDShard,.c (.d si)],sub (asWas p (gd q 0)) 0 10⟩,dupOk p||(gd q 0).int==1))
theorem i_asItWas_ok:EntOk Tryz.prog i_asItWasE:=e2_ok fun p q h=>evFn_sound (N:=0) (ks:=i_asItWasK) (key:=bo) i_asItWasT_ok (enters Tryz.func73) Tryz.func73 fun hw=>by
 rw [i_asItWas_ev]
 have h:(dupOk p||(gd q 0).int==1)=true:=h
 cases hc:(gd q 0).int==1 with
 | true =>
  show some (bo,some (1,_))=some (bo,some (1,sub (asWas p (gd q 0)) 0 10))
  unfold asWas
  rw [hc]
  rfl
 | false =>
  rw [hc,Bool.or_false] at h
  have h:dupOk (sub p 0 9)=true:=h
  rw [h]
  show some (bo,some (1,_))=some (bo,some (1,sub (asWas p (gd q 0)) 0 10))
  unfold asWas
  rw [hc]
  rfl
end Go.Proofs.YtpdfmcmnjikppaaGreat
namespace Go.Proofs.YtpdfmcmnjikppaaGreat
set_option maxRecDepth 4096
set_option maxHeartbeats 1000000
def ndN:Nat→Bool→Out→Out
 | 0,_,x=>x
 | n+1,c,x=>nd c (ndN n c x)
theorem ndN_true {x:Out}:∀ n,ndN n true x=x
 | 0=>rfl
 | n+1=>by rw [ndN,ndN_true n]; rfl
def lastHi (rs:List (List D)):Int:=(gd (rs.getD (rs.length - 1) []) 1).int
def addR (rs:List (List D)) (lo hi:Int):List (List D):=
 bif ltI 0 (rs.length:Int)&&(lastHi rs==lo) then rs.set (rs.length - 1) [gd (rs.getD (rs.length - 1) []) 0,.i hi] else rs ++ [[.i lo,.i hi]]
theorem getD_set_at {l:List (List D)} {i:Nat} {x:List D} (h:i<l.length):(l.set i x).getD i []=x:=by
 simp [List.getD_eq_getElem?_getD,List.getElem?_set,h]
theorem getD_app_at (l:List (List D)) (x:List D):(l ++ [x]).getD l.length []=x:=by
 simp [List.getD_eq_getElem?_getD]
theorem addR_len (rs:List (List D)) (lo hi:Int):(addR rs lo hi).length≤rs.length+1:=by
 unfold addR
 cases (ltI 0 (rs.length:Int)&&(lastHi rs==lo)) <;> simp
def kpR (C:Nat→Bool):Nat→List (List D)
 | 0 => []
 | k+1=>bif C k then addR (kpR C k) (k:Int) ((k:Int)+1) else kpR C k
theorem kpR_len (C:Nat→Bool):∀ k,(kpR C k).length≤k
 | 0=>Nat.le_refl _
 | k+1=>by
  have:=kpR_len C k
  have h2:=addR_len (kpR C k) (k:Int) ((k:Int)+1)
  rw [kpR]
  cases C k
  ·show (kpR C k).length≤_; omega
  ·show (addR _ _ _).length≤_; omega
structure PartsW (z:D):Prop where
 lo:∀ k,k<z.rows.length→(gd (z.rows.getD k []) 0).int=(endD z k).int
 lt:∀ k,k<z.rows.length→(endD z k).int<(endD z (k+1)).int
 n:z.rows.length≤16
 e:(endD z z.rows.length).int=1000
theorem PartsW.mono {z:D} (h:PartsW z):∀ m k,k+m≤z.rows.length→(endD z k).int≤(endD z (k+m)).int
 | 0,k,_=>Int.le_refl _
 | m+1,k,hk=>by
  have:=h.mono m k (by omega)
  have h2:=h.lt (k+m) (by omega)
  rw [show k+(m+1)=k+m+1 from by omega]
  omega
def addQ (rs:List (List D)) (lo hi:D):List (List D):=
 bif ltI 0 (rs.length:Int)&&(lastHi rs==lo.int) then rs.set (rs.length - 1) [gd (rs.getD (rs.length - 1) []) 0,hi] else rs ++ [[lo,hi]]
def SameI (a b:List (List D)):Prop:=a.length=b.length∧∀ i j,(gd (a.getD i []) j).int=(gd (b.getD i []) j).int
theorem SameI.add {a b:List (List D)} (h:SameI a b) (lo hi:D):SameI (addQ a lo hi) (addR b lo.int hi.int):=by
 unfold addQ addR
 have e:lastHi a=lastHi b:=by unfold lastHi; rw [h.1]; exact h.2 _ _
 rw [e,h.1]
 cases (ltI 0 (b.length:Int)&&(lastHi b==lo.int))
 ·refine ⟨by simp [h.1],fun i j=>?_⟩
  simp only [cond_false]
  by_cases hi':i<b.length
  ·have q1:(a ++ [[lo,hi]]).getD i []=a.getD i []:=by simp [List.getD_eq_getElem?_getD,List.getElem?_append_left (show i<a.length by rw [h.1]; exact hi')]
   have q2:(b ++ [[D.i lo.int,D.i hi.int]]).getD i []=b.getD i []:=by simp [List.getD_eq_getElem?_getD,List.getElem?_append_left hi']
   rw [q1,q2]; exact h.2 i j
  ·by_cases hi2:i=b.length
   ·subst hi2
    rw [getD_app_at,← h.1,getD_app_at]
    match j with
    | 0=>rfl
    | 1=>rfl
    | j+2=>rfl
   ·have q1:(a ++ [[lo,hi]]).getD i [] = []:=by rw [List.getD_eq_getElem?_getD,List.getElem?_eq_none (by have:=h.1; rw [List.length_append,this]; show b.length+1≤i; omega)]; rfl
    have q2:(b ++ [[D.i lo.int,D.i hi.int]]).getD i [] = []:=by rw [List.getD_eq_getElem?_getD,List.getElem?_eq_none (by simp; omega)]; rfl
    rw [q1,q2]
 ·refine ⟨by simp [h.1],fun i j=>?_⟩
  simp only [cond_true]
  by_cases hi':i=b.length - 1∧i<b.length
  ·obtain ⟨rfl,hlt⟩:=hi'
   rw [getD_set_at hlt,getD_set_at (by rw [h.1]; exact hlt)]
   match j with
   | 0=>exact h.2 _ _
   | 1=>rfl
   | j+2=>rfl
  ·have q:∀ (l:List (List D)) (y:List D),l.length=b.length→(l.set (b.length - 1) y).getD i []=l.getD i []:=fun l y hl=>by
    simp only [List.getD_eq_getElem?_getD,List.getElem?_set]
    split
    ·split
     ·exact absurd ⟨by omega,by omega⟩ hi'
     ·rw [List.getElem?_eq_none (by omega)]
    ·rfl
   rw [q a _ h.1,q b _ rfl]
   exact h.2 i j
end Go.Proofs.YtpdfmcmnjikppaaGreat
namespace Go.Proofs.YtpdfmcmnjikppaaGreat
set_option maxRecDepth 4096
set_option maxHeartbeats 1000000
end Go.Proofs.YtpdfmcmnjikppaaGreat
namespace Go.Proofs.YtpdfmcmnjikppaaGreat
set_option maxRecDepth 4096
set_option maxHeartbeats 1000000
abbrev i_changed_1_1T:FuncId→List T→Option (T × Bool):=find [i_RhasE]
theorem i_changed_1_1T_ok:CallOk Tryz.prog i_changed_1_1T:=find_ok (fC ⟨i_Rhas_ok,fN⟩)
abbrev i_changed_1_1K:List Nat:= [0,1,2,3]
theorem i_changed_1_1_ev (N:Nat) (p q:List D):evFn Tryz.prog i_changed_1_1T N i_changed_1_1K Tryz.f249 rb [⟨ag rIRange,p⟩,⟨.one (.c (.cptr [si] 0)),q⟩]=some (bo,
 ob (inB (gd ((gd q 0).rows.getD 0 []) 0).int (gd p 0).int (w64 ((gd p 1).int - 1)))):=by kernel_rfl
def i_changed_1_1F (p q:List D):Bool:=
 inB (gd ((gd q 0).rows.getD 0 []) 0).int (gd p 0).int (w64 ((gd p 1).int - 1))
def i_changed_1_1E:Ent:=(249,e2 (ag rIRange) (.one (.c (.cptr [si] 0))) fun p q=>(⟨rb,[.b (i_changed_1_1F p [gd q 0])]⟩,true))
theorem i_changed_1_1_ok:EntOk Tryz.prog i_changed_1_1E:=e2_ok fun p q h=>evFn_sound (N:=0) (ks:=i_changed_1_1K) (key:=bo) i_changed_1_1T_ok (enters Tryz.func249) Tryz.func249 fun hw=>by
 rw [i_changed_1_1_ev]
 try simp only [cond_ob,cond_oi,cond_os]
 rfl
abbrev ixfCGT:FuncId→List T→Option (T × Bool):=find [i_changed_1_1E]
theorem ixfCGT_ok:CallOk Tryz.prog ixfCGT:=find_ok (fC ⟨i_changed_1_1_ok,fN⟩)
abbrev ixfCGK:List Nat:= [0,1,4,5,7,8,9,16]
noncomputable def ixfCGL0 (N:Nat) (p q:List D):List D→Out:=loopOf Tryz.prog ixfCGT N ixfCGK Tryz.f207 ri [⟨sd (.sl 41),p⟩,⟨.one (.c (.fn 249 [.cptr [si] 0])),q⟩] 0
theorem ixfCGR0 (N:Nat) (p q:List D) (x0 x1 x2 x3 x4:D):(ixfCGL0 N p q) [x0,x1,x2,x3,x4] =
 bif ltI x4.int x3.int then nd (inRange x4.int x0.rows.length) (bif i_changed_1_1F (sub (x0.rows.getD x4.int.toNat []) 0 2) [gd (x1.rows.getD 0 []) 0] then some (1,[x4])
 else nx [x0,x1,x2,x3,.i (w64 (x4.int+1))])
 else ex 0 [x0,x1,x2,x3,x4]:=by kernel_rfl
theorem ixfCG_ev (N:Nat) (p q:List D):evFn Tryz.prog ixfCGT N ixfCGK Tryz.f207 ri [⟨sd (.sl 41),p⟩,⟨.one (.c (.fn 249 [.cptr [si] 0])),q⟩]=some (bo,
 (let o0:=iter (ixfCGL0 N p q) N [gd p 0,gd q 0,.i 0,.i ((gd p 0).rows.length:Int),.i 0]
  nd o0.isSome (bif o0.code==1 then some (1,o0.pay)
  else nd (o0.code==2) (oi (-1))))):=by kernel_rfl
def ixfCGC (c:D) (r:List D):Bool:=i_changed_1_1F r [gd (c.rows.getD 0 []) 0]
def ixfCGE:Ent:=(207,e2 (sd (.sl 41)) (.one (.c (.fn 249 [.cptr [si] 0]))) fun p q=>(⟨ri,[.i (ixF (fun k=>ixfCGC (gd q 0) (sub ((gd p 0).rows.getD k []) 0 2)) 0 (gd p 0).rows.length)]⟩,true))
theorem ixfCG_ok:EntOk Tryz.prog ixfCGE:=e2_ok fun p q h=>evFn_sound (N:=(gd p 0).rows.length+1) (ks:=ixfCGK) (key:=bo) ixfCGT_ok (enters Tryz.func207) Tryz.func207 fun hw=>by
 rw [ixfCG_ev]
 have hl:=wt_sl (hw ⟨sd (.sl 41),p⟩ (by simp))
 have e:=ix_loop (L:=ixfCGL0 ((gd p 0).rows.length+1) p q) (fun k => [gd p 0,gd q 0,.i 0,.i ((gd p 0).rows.length:Int),.i (k:Int)]) (gd p 0).rows.length (fun k=>ixfCGC (gd q 0) (sub ((gd p 0).rows.getD k []) 0 2)) [gd p 0,gd q 0,.i 0,.i ((gd p 0).rows.length:Int),.i ((gd p 0).rows.length:Int)] (fun k hk=>?_) ?_ (gd p 0).rows.length 0 ((gd p 0).rows.length+1) (by omega) (by omega)
 ·simp only [Int.natCast_zero] at e
  rw [e]
  have hno:=ixF_neg (fun k=>ixfCGC (gd q 0) (sub ((gd p 0).rows.getD k []) 0 2)) (gd p 0).rows.length 0
  cases hd:decide (ixF (fun k=>ixfCGC (gd q 0) (sub ((gd p 0).rows.getD k []) 0 2)) 0 (gd p 0).rows.length≥0)
  ·rw [hno hd]; rfl
  ·rfl
 ·show ixfCGL0 _ p q [_,_,_,_,.i (k:Int)]=_
  rw [ixfCGR0]
  simp only [int_i,c_lt hk,nd_ix hk,w64_succ hk hl,Int.toNat_natCast]
  unfold ixfCGC
  cases i_changed_1_1F (sub ((gd p 0).rows.getD k []) 0 2) [gd ((gd q 0).rows.getD 0 []) 0] <;> rfl
 ·show ixfCGL0 _ p q [_,_,_,.i ((gd p 0).rows.length:Int),.i ((gd p 0).rows.length:Int)]=_
  rw [ixfCGR0]
  simp only [int_i,c_nlt]
abbrev cofCGT:FuncId→List T→Option (T × Bool):=find [ixfCGE,i_changed_1_1E]
theorem cofCGT_ok:CallOk Tryz.prog cofCGT:=find_ok (fC ⟨ixfCG_ok,fC ⟨i_changed_1_1_ok,fN⟩⟩)
abbrev cofCGK:List Nat:= [0,1,4]
theorem cofCG_ev (N:Nat) (p q:List D):evFn Tryz.prog cofCGT N cofCGK Tryz.f106 rb [⟨sd (.sl 41),p⟩,⟨.one (.c (.fn 249 [.cptr [si] 0])),q⟩]=some (bo,
 ob (leI 0 (ixF (fun k=>ixfCGC (.l [[gd ((gd q 0).rows.getD 0 []) 0]]) (sub ((gd p 0).rows.getD k []) 0 2)) 0 (gd p 0).rows.length))):=by kernel_rfl
def cofCGE:Ent:=(106,e2 (sd (.sl 41)) (.one (.c (.fn 249 [.cptr [si] 0]))) fun p q=>(⟨rb,[.b (anyS (fun rr=>ixfCGC (gd q 0) (sub rr 0 2)) (gd p 0))]⟩,true))
theorem cofCG_ok:EntOk Tryz.prog cofCGE:=e2_ok fun p q h=>evFn_sound (N:=0) (ks:=cofCGK) (key:=bo) cofCGT_ok (enters Tryz.func106) Tryz.func106 fun hw=>by
 rw [cofCG_ev]
 refine congrArg (fun x=>some (bo,ob x)) ?_
 exact (ixF_any (fun k=>ixfCGC (gd q 0) (sub ((gd p 0).rows.getD k []) 0 2)) (gd p 0).rows.length 0).trans (by simp only [Nat.zero_add]; rfl)
abbrev i_changed_1T:FuncId→List T→Option (T × Bool):=find [i_RhasE,cofCGE]
theorem i_changed_1T_ok:CallOk Tryz.prog i_changed_1T:=find_ok (fC ⟨i_Rhas_ok,fC ⟨cofCG_ok,fN⟩⟩)
abbrev i_changed_1K:List Nat:= [0,1,2,3,4,5,8]
theorem i_changed_1_ev (N:Nat) (p q r s:List D):evFn Tryz.prog i_changed_1T N i_changed_1K Tryz.f248 rb [⟨ri,p⟩,⟨.one (.c (.cptr [si,si] 0)),q⟩,⟨.one (.c (.cptr [.bool] 0)),r⟩,⟨.one (.c (.cptr [.sl 41] 0)),s⟩]=some (bo,
 bif inB (gd p 0).int (gd ((gd q 0).rows.getD 0 []) 0).int (w64 ((gd ((gd q 0).rows.getD 0 []) 1).int - 1)) then some (1,[gd ((gd r 0).rows.getD 0 []) 0])
 else ob (anyS (fun rr=>ixfCGC (.l [[.l [[gd p 0]]]]) (sub rr 0 2)) (gd ((gd s 0).rows.getD 0 []) 0))):=by kernel_rfl
def chgD (z:D) (a:List D) (wi k:D):D:=bif inB k.int (gd a 0).int (w64 ((gd a 1).int - 1)) then wi else .b (anyS (fun rr=>ixfCGC (.l [[.l [[k]]]]) (sub rr 0 2)) z)
def i_changed_1E:Ent:=(248,e4 ri (.one (.c (.cptr [si,si] 0))) (.one (.c (.cptr [.bool] 0))) (.one (.c (.cptr [.sl 41] 0))) fun p q r s=>(⟨rb,[chgD (gd ((gd s 0).rows.getD 0 []) 0) ((gd q 0).rows.getD 0 []) (gd ((gd r 0).rows.getD 0 []) 0) (gd p 0)]⟩,true))
theorem i_changed_1_ok:EntOk Tryz.prog i_changed_1E:=e4_ok fun p q r s h=>evFn_sound (N:=0) (ks:=i_changed_1K) (key:=bo) i_changed_1T_ok (enters Tryz.func248) Tryz.func248 fun hw=>by
 rw [i_changed_1_ev]
 unfold chgD
 cases inB (gd p 0).int (gd ((gd q 0).rows.getD 0 []) 0).int (w64 ((gd ((gd q 0).rows.getD 0 []) 1).int - 1)) <;> rfl
abbrev rgchT:FuncId→List T→Option (T × Bool):=find [i_changed_1E]
theorem rgchT_ok:CallOk Tryz.prog rgchT:=find_ok (fC ⟨i_changed_1_ok,fN⟩)
abbrev rgchK:List Nat:= [0,2,3,4,5,7,8,19,24]
noncomputable def rgchL0 (N:Nat) (p:List D):List D→Out:=loopOf Tryz.prog rgchT N rgchK Tryz.f247 (.one (.c (.own (0,0) true 41))) [⟨.one (.c (.fn 248 [.cptr [si,si] 0,.cptr [.bool] 0,.cptr [.sl 41] 0])),p⟩] 0
theorem rgchR0 (N:Nat) (p:List D) (x0 x1 x2 x3:D):(rgchL0 N p) [x0,x1,x2,x3] =
 bif ltI x3.int 1000 then bif !(chgD (gd ((gd (x0.rows.getD 0 []).tail.tail 0).rows.getD 0 []) 0) ((gd (x0.rows.getD 0 []) 0).rows.getD 0 []) (gd ((gd (x0.rows.getD 0 []).tail 0).rows.getD 0 []) 0) x3).bool then nx [x0,x1,x2,.i (w64 (x3.int+1))]
 else bif ltI 0 (x2.rows.length:Int) then nd (inRange (w64 ((x2.rows.length:Int) - 1)) x2.rows.length) (bif (gd (x2.rows.getD (w64 ((x2.rows.length:Int) - 1)).toNat []) 1).int==x3.int then nd (inRange (w64 ((x2.rows.length:Int) - 1)) x2.rows.length) (nd (inRange (w64 ((x2.rows.length:Int) - 1)) x2.rows.length) (nx [x0,x1,.l (x2.rows.set (w64 ((x2.rows.length:Int) - 1)).toNat [gd (x2.rows.getD (w64 ((x2.rows.length:Int) - 1)).toNat []) 0,.i (w64 ((gd (x2.rows.getD (w64 ((x2.rows.length:Int) - 1)).toNat []) 1).int+1))]),.i (w64 (x3.int+1))]))
 else nd (lenOk (x2.rows ++ [[x3,.i (w64 (x3.int+1))]])&&true) (nx [x0,x1,.l (x2.rows ++ [[x3,.i (w64 (x3.int+1))]]),.i (w64 (x3.int+1))]))
 else nd (lenOk (x2.rows ++ [[x3,.i (w64 (x3.int+1))]])&&true) (nx [x0,x1,.l (x2.rows ++ [[x3,.i (w64 (x3.int+1))]]),.i (w64 (x3.int+1))])
 else ex 0 [x0,x1,x2,x3]:=by kernel_rfl
theorem rgch_ev (N:Nat) (p:List D):evFn Tryz.prog rgchT N rgchK Tryz.f247 (.one (.c (.own (0,0) true 41))) [⟨.one (.c (.fn 248 [.cptr [si,si] 0,.cptr [.bool] 0,.cptr [.sl 41] 0])),p⟩]=some (bo,
 (let o0:=iter (rgchL0 N p) N [gd p 0,.l [],.l [],.i 0]
  nd o0.isSome (nd (o0.code==2) (some (1,[gd o0.pay 2]))))):=by kernel_rfl
def chgB (c:D) (k:Nat):Bool:=(chgD (gd ((gd (c.rows.getD 0 []).tail.tail 0).rows.getD 0 []) 0) ((gd (c.rows.getD 0 []) 0).rows.getD 0 []) (gd ((gd (c.rows.getD 0 []).tail 0).rows.getD 0 []) 0) (.i (k:Int))).bool
def chgR (c:D):D:=.l (kpR (chgB c) 1000)
theorem chg_step {rs:List (List D)} {k:Nat} (hl:rs.length≤1000) (hk:k<1000) (a b:D) :
  (bif ltI 0 (rs.length:Int) then nd (inRange (w64 ((rs.length:Int) - 1)) rs.length) (bif (gd (rs.getD (w64 ((rs.length:Int) - 1)).toNat []) 1).int==(k:Int) then nd (inRange (w64 ((rs.length:Int) - 1)) rs.length) (nd (inRange (w64 ((rs.length:Int) - 1)) rs.length) (nx [a,b,.l (rs.set (w64 ((rs.length:Int) - 1)).toNat [gd (rs.getD (w64 ((rs.length:Int) - 1)).toNat []) 0,.i (w64 ((gd (rs.getD (w64 ((rs.length:Int) - 1)).toNat []) 1).int+1))]),.i (w64 ((k:Int)+1))]))
   else nd (lenOk (rs ++ [[.i (k:Int),.i (w64 ((k:Int)+1))]])&&true) (nx [a,b,.l (rs ++ [[.i (k:Int),.i (w64 ((k:Int)+1))]]),.i (w64 ((k:Int)+1))]))
  else nd (lenOk (rs ++ [[.i (k:Int),.i (w64 ((k:Int)+1))]])&&true) (nx [a,b,.l (rs ++ [[.i (k:Int),.i (w64 ((k:Int)+1))]]),.i (w64 ((k:Int)+1))]))
  = (nx [a,b,.l (addR rs (k:Int) ((k:Int)+1)),.i ((k+1:Nat):Int)]:Out):=by
 have hw:w64 ((k:Int)+1)=(k:Int)+1:=w64_id (by omega) (by omega)
 have hok:lenOk (rs ++ [[D.i (k:Int),D.i ((k:Int)+1)]])=true:=lenOk_t (by simp; omega)
 have ek:((k+1:Nat):Int)=(k:Int)+1:=by push_cast; rfl
 unfold addR lastHi
 rw [hw,hok,ek]
 cases hr:rs.length with
 | zero=>rfl
 | succ n =>
  have hn:n<n+1:=Nat.lt_succ_self n
  have e1:w64 (((n+1:Nat):Int) - 1)=(n:Int):=w64_pred (by omega)
  have e2:ltI 0 ((n+1:Nat):Int)=true:=ltI_t (by omega)
  simp only [e1,e2,inRange_nat hn,Int.toNat_natCast,nd_true,cond_true,Bool.true_and,Nat.add_sub_cancel]
  cases hc:((gd (rs.getD n []) 1).int==(k:Int)) with
  | false=>rfl
  | true =>
   have hc:(gd (rs.getD n []) 1).int=(k:Int):=by simpa using hc
   rw [hc,hw]
   rfl
def rgchE:Ent:=(247,e1 (.one (.c (.fn 248 [.cptr [si,si] 0,.cptr [.bool] 0,.cptr [.sl 41] 0]))) fun p=>(⟨.one (.c (.own (0,0) true 41)),[chgR (gd p 0)]⟩,true))
theorem rgch_ok:EntOk Tryz.prog rgchE:=e1_ok fun p h=>evFn_sound (N:=1001) (ks:=rgchK) (key:=bo) rgchT_ok (enters Tryz.func247) Tryz.func247 fun hw=>by
 rw [rgch_ev]
 have e:=run_loop (L:=rgchL0 1001 p) (fun k => [gd p 0,.l [],.l (kpR (chgB (gd p 0)) k),.i (k:Int)]) 1000 0 (fun k hk=>?_) ?_ (N:=1001) (by omega)
 ·simp only [Int.natCast_zero] at e
  rw [show kpR (chgB (gd p 0)) 0 = [] from rfl] at e
  rw [e]
  rfl
 ·show rgchL0 _ p [_,_,_,.i (k:Int)]=_
  rw [rgchR0]
  have hlen:=kpR_len (chgB (gd p 0)) k
  have hb:(chgD (gd ((gd ((gd p 0).rows.getD 0 []).tail.tail 0).rows.getD 0 []) 0) ((gd ((gd p 0).rows.getD 0 []) 0).rows.getD 0 []) (gd ((gd ((gd p 0).rows.getD 0 []).tail 0).rows.getD 0 []) 0) (.i (k:Int))).bool=chgB (gd p 0) k:=rfl
  rw [hb]
  simp only [int_i,rows_l,show ltI (k:Int) 1000=true from ltI_t (by omega),cond_true]
  cases hc:chgB (gd p 0) k
  ·have e2:kpR (chgB (gd p 0)) (k+1)=kpR (chgB (gd p 0)) k:=by rw [kpR]; simp only [hc,cond_false]
   rw [e2,w64_succ hk (by decide)]
   rfl
  ·have e2:kpR (chgB (gd p 0)) (k+1)=addR (kpR (chgB (gd p 0)) k) (k:Int) ((k:Int)+1):=by rw [kpR]; simp only [hc,cond_true]
   rw [e2]
   simp only [Bool.not_true,cond_false]
   exact chg_step (by omega) hk _ _
 ·show rgchL0 _ p [_,_,_,.i ((1000:Nat):Int)]=_
  rw [rgchR0]
  rfl
end Go.Proofs.YtpdfmcmnjikppaaGreat
namespace Go.Proofs.YtpdfmcmnjikppaaGreat
set_option maxRecDepth 4096
set_option maxHeartbeats 1000000
abbrev i_changedT:FuncId→List T→Option (T × Bool):=find [i_RangesOkE,i_RangeOkE,rgchE]
theorem i_changedT_ok:CallOk Tryz.prog i_changedT:=find_ok (fC ⟨i_RangesOk_ok,fC ⟨i_RangeOk_ok,fC ⟨rgch_ok,fN⟩⟩⟩)
abbrev i_changedK:List Nat:= [0,1,2,3,4,5,6,7,8,16,21]
theorem i_changed_ev (N:Nat) (p q r:List D):evFn Tryz.prog i_changedT N i_changedK Tryz.f193 (.tup [.c (.own (0,0) true 41),.c (.d (.bool))]) [⟨sd (.sl 41),p⟩,⟨ag rIRange,q⟩,⟨rb,r⟩]=some (bo,
 bif !(rangesOk (gd p 0)) then some (1,[.l [],.b false])
 else bif !(rangeOk (sub q 0 2)) then some (1,[.l [],.b false])
 else bif ltI 16 ((chgR (.l [[.l [sub q 0 2],.l [[gd r 0]],.l [[gd p 0]]]])).rows.length:Int) then some (1,[.l [],.b false])
 else some (1,[chgR (.l [[.l [sub q 0 2],.l [[gd r 0]],.l [[gd p 0]]]]),.b true])):=by kernel_rfl
def chgRg (z:D) (a:List D) (wi:D):D:=chgR (.l [[.l [sub a 0 2],.l [[wi]],.l [[z]]]])
def chgOk (z:D) (a:List D) (wi:D):Bool:=rangesOk z&&rangeOk (sub a 0 2) && !(ltI 16 ((chgRg z a wi).rows.length:Int))
def chgT (z:D) (a:List D) (wi:D):List D:= [.l (bif chgOk z a wi then (chgRg z a wi).rows else []),.b (chgOk z a wi)]
def i_changedE:Ent:=(193,e3 (sd (.sl 41)) (ag rIRange) rb fun p q r=>(⟨.tup [.c (.own (0,0) true 41),.c (.d (.bool))],sub (chgT (gd p 0) q (gd r 0)) 0 2⟩,true))
theorem i_changed_ok:EntOk Tryz.prog i_changedE:=e3_ok fun p q r h=>evFn_sound (N:=0) (ks:=i_changedK) (key:=bo) i_changedT_ok (enters Tryz.func193) Tryz.func193 fun hw=>by
 rw [i_changed_ev]
 show some (bo,_)=some (bo,some (1,chgT (gd p 0) q (gd r 0)))
 refine congrArg (fun x=>some (bo,x)) ?_
 unfold chgT chgOk
 rw [show chgR (.l [[.l [sub q 0 2],.l [[gd r 0]],.l [[gd p 0]]]])=chgRg (gd p 0) q (gd r 0) from rfl]
 cases rangesOk (gd p 0) <;> cases rangeOk (sub q 0 2) <;> cases ltI 16 ((chgRg (gd p 0) q (gd r 0)).rows.length:Int) <;> rfl
abbrev i_RangesPlusT:FuncId→List T→Option (T × Bool):=find [i_changedE]
theorem i_RangesPlusT_ok:CallOk Tryz.prog i_RangesPlusT:=find_ok (fC ⟨i_changed_ok,fN⟩)
abbrev i_RangesPlusK:List Nat:= [0,1,3,4,5]
theorem i_RangesPlus_ev (N:Nat) (p q:List D):evFn Tryz.prog i_RangesPlusT N i_RangesPlusK Tryz.f76 (.tup [.c (.own (0,0) true 41),.c (.d (.bool))]) [⟨sd (.sl 41),p⟩,⟨ag rIRange,q⟩]=some (bo,
 some (1,sub (chgT (gd p 0) (sub q 0 2) (.b true)) 0 2)):=by kernel_rfl
def i_RangesPlusE:Ent:=(76,e2 (sd (.sl 41)) (ag rIRange) fun p q=>(⟨.tup [.c (.own (0,0) true 41),.c (.d (.bool))],sub (chgT (gd p 0) q (.b true)) 0 2⟩,true))
theorem i_RangesPlus_ok:EntOk Tryz.prog i_RangesPlusE:=e2_ok fun p q h=>evFn_sound (N:=0) (ks:=i_RangesPlusK) (key:=bo) i_RangesPlusT_ok (enters Tryz.func76) Tryz.func76 fun hw=>by
 rw [i_RangesPlus_ev]
 rfl
end Go.Proofs.YtpdfmcmnjikppaaGreat
namespace Go.Proofs.YtpdfmcmnjikppaaGreat
set_option maxRecDepth 4096
set_option maxHeartbeats 1000000
abbrev i_cmpnanT:FuncId→List T→Option (T × Bool):=find []
theorem i_cmpnanT_ok:CallOk Tryz.prog i_cmpnanT:=find_ok (fN)
abbrev i_cmpnanK:List Nat:= [0,2]
theorem i_cmpnan_ev (N:Nat) (p:List D):evFn Tryz.prog i_cmpnanT N i_cmpnanK Tryz.f255 rb [⟨ri,p⟩]=some (bo,
 ob ((gd p 0).int != (gd p 0).int)):=by kernel_rfl
def i_cmpnanE:Ent:=(255,e1 ri fun p=>(⟨rb,[.b false]⟩,true))
theorem i_cmpnan_ok:EntOk Tryz.prog i_cmpnanE:=e1_ok fun p h=>evFn_sound (N:=0) (ks:=i_cmpnanK) (key:=bo) i_cmpnanT_ok (enters Tryz.func255) Tryz.func255 fun hw=>by
 rw [i_cmpnan_ev]
 rw [show ((gd p 0).int != (gd p 0).int)=false from bne_self_eq_false _]
abbrev i_slnanT:FuncId→List T→Option (T × Bool):=find []
theorem i_slnanT_ok:CallOk Tryz.prog i_slnanT:=find_ok (fN)
abbrev i_slnanK:List Nat:= [0,2]
theorem i_slnan_ev (N:Nat) (p:List D):evFn Tryz.prog i_slnanT N i_slnanK Tryz.f215 rb [⟨ri,p⟩]=some (bo,
 ob ((gd p 0).int != (gd p 0).int)):=by kernel_rfl
def i_slnanE:Ent:=(215,e1 ri fun p=>(⟨rb,[.b false]⟩,true))
theorem i_slnan_ok:EntOk Tryz.prog i_slnanE:=e1_ok fun p h=>evFn_sound (N:=0) (ks:=i_slnanK) (key:=bo) i_slnanT_ok (enters Tryz.func215) Tryz.func215 fun hw=>by
 rw [i_slnan_ev]
 rw [show ((gd p 0).int != (gd p 0).int)=false from bne_self_eq_false _]
abbrev i_cmplessT:FuncId→List T→Option (T × Bool):=find [i_cmpnanE]
theorem i_cmplessT_ok:CallOk Tryz.prog i_cmplessT:=find_ok (fC ⟨i_cmpnan_ok,fN⟩)
abbrev i_cmplessK:List Nat:= [0,1,4]
theorem i_cmpless_ev (N:Nat) (p q:List D):evFn Tryz.prog i_cmplessT N i_cmplessK Tryz.f214 rb [⟨ri,p⟩,⟨ri,q⟩]=some (bo,
 bif false then bif !false then ob true
 else ob (ltI (gd p 0).int (gd q 0).int)
 else ob (ltI (gd p 0).int (gd q 0).int)):=by kernel_rfl
def i_cmplessE:Ent:=(214,e2 ri ri fun p q=>(⟨rb,[.b (ltI (gd p 0).int (gd q 0).int)]⟩,true))
theorem i_cmpless_ok:EntOk Tryz.prog i_cmplessE:=e2_ok fun p q h=>evFn_sound (N:=0) (ks:=i_cmplessK) (key:=bo) i_cmplessT_ok (enters Tryz.func214) Tryz.func214 fun hw=>by
 rw [i_cmpless_ev]
 rfl
abbrev i_bsT:FuncId→List T→Option (T × Bool):=find [i_cmplessE,i_slnanE]
theorem i_bsT_ok:CallOk Tryz.prog i_bsT:=find_ok (fC ⟨i_cmpless_ok,fC ⟨i_slnan_ok,fN⟩⟩)
abbrev i_bsK:List Nat:= [0,1,4,5,6,7,8,9,15,27]
noncomputable def i_bsL0 (N:Nat) (p q:List D):List D→Out:=loopOf Tryz.prog i_bsT N i_bsK Tryz.f116 (.tup [.c (.d si),.c (.d (.bool))]) [⟨sd (.sl 3),p⟩,⟨ri,q⟩] 0
theorem i_bsR0 (N:Nat) (p q:List D) (x0 x1 x2 x3 x4 x5 x6:D):(i_bsL0 N p q) [x0,x1,x2,x3,x4,x5,x6] =
 bif ltI x5.int x6.int then nd (leI 0 1) (nd (inRange (w64 ((IntKind.u64.wrap (w64 (x5.int+x6.int))).fdiv (2 ^ (min 1 64)))) x0.rows.length) (bif ltI (gd (x0.rows.getD (w64 ((IntKind.u64.wrap (w64 (x5.int+x6.int))).fdiv (2 ^ (min 1 64)))).toNat []) 0).int x1.int then nx [x0,x1,x2,x3,x4,.i (w64 ((w64 ((IntKind.u64.wrap (w64 (x5.int+x6.int))).fdiv (2 ^ (min 1 64))))+1)),x6]
 else nx [x0,x1,x2,x3,x4,x5,.i (w64 ((IntKind.u64.wrap (w64 (x5.int+x6.int))).fdiv (2 ^ (min 1 64))))]))
 else ex 0 [x0,x1,x2,x3,x4,x5,x6]:=by kernel_rfl
noncomputable def i_bss0 (N:Nat) (p q:List D) (o0:Out):Out:=nd (inRange (gd o0.pay 5).int (gd o0.pay 0).rows.length) (bif false then some (1,[gd o0.pay 5,.b false]) else some (1,[gd o0.pay 5,.b false]))
noncomputable def i_bss1 (N:Nat) (p q:List D) (o0:Out):Out:=bif (gd ((gd o0.pay 0).rows.getD (gd o0.pay 5).int.toNat []) 0).int==(gd o0.pay 1).int then some (1,[gd o0.pay 5,.b true]) else (i_bss0 N p q o0)
noncomputable def i_bss2 (N:Nat) (p q:List D) (o0:Out):Out:=bif ltI (gd o0.pay 5).int (gd o0.pay 4).int then nd (inRange (gd o0.pay 5).int (gd o0.pay 0).rows.length) (i_bss1 N p q o0) else some (1,[gd o0.pay 5,.b false])
noncomputable def i_bss3 (N:Nat) (p q:List D):Out:=let o0:Out:=iter (i_bsL0 N p q) N [gd p 0,gd q 0,.i 0,.i 0,.i ((gd p 0).rows.length:Int),.i 0,.i ((gd p 0).rows.length:Int)]; nd o0.isSome (nd (o0.code==2) (i_bss2 N p q o0))
theorem i_bs_ev (N:Nat) (p q:List D):evFn Tryz.prog i_bsT N i_bsK Tryz.f116 (.tup [.c (.d si),.c (.d (.bool))]) [⟨sd (.sl 3),p⟩,⟨ri,q⟩]=some (bo,(i_bss3 N p q)):=by kernel_rfl
theorem asc_key {z:D} (h:(numsOf z).Pairwise (· < ·)) {i j:Nat} (hij:i<j) (hj:j<z.rows.length):keyAt z i<keyAt z j:=by
 have h1:=numsOf_at z i (by omega)
 have h2:=numsOf_at z j hj
 obtain ⟨l1,e1⟩:=List.getElem?_eq_some_iff.1 h1
 obtain ⟨l2,e2⟩:=List.getElem?_eq_some_iff.1 h2
 have:=List.pairwise_iff_getElem.1 h i j l1 l2 hij
 rwa [e1,e2] at this
theorem low_ex {z:D} (h:(numsOf z).Pairwise (· < ·)) (t:Int):∀ m,m≤z.rows.length→∃ i,i≤m∧(∀ k,k<i→keyAt z k<t)∧∀ k,i≤k→k<m→t≤keyAt z k
 | 0,_=>⟨0,Nat.le_refl _,fun k hk=>absurd hk (Nat.not_lt_zero _),fun k _ hk=>absurd hk (Nat.not_lt_zero _)⟩
 | m+1,hm=>by
  obtain ⟨i,h1,h2,h3⟩:=low_ex h t m (by omega)
  by_cases hi:i<m
  ·refine ⟨i,by omega,h2,fun k hk1 hk2=>?_⟩
   rcases Nat.lt_or_ge k m with h4 | h4
   ·exact h3 k hk1 h4
   ·obtain rfl:k=m:=by omega
    have a1:=h3 i (Nat.le_refl _) hi
    have a2:=asc_key h hi (show k<z.rows.length by omega)
    omega
  ·obtain rfl:i=m:=by omega
   by_cases hc:keyAt z i<t
   ·refine ⟨i+1,Nat.le_refl _,fun k hk=>?_,fun k hk1 hk2=>by omega⟩
    rcases Nat.lt_or_ge k i with h4 | h4
    ·exact h2 k h4
    ·obtain rfl:k=i:=by omega
     exact hc
   ·refine ⟨i,by omega,h2,fun k hk1 hk2=>?_⟩
    obtain rfl:k=i:=by omega
    omega
theorem low_at {z:D} (h:(numsOf z).Pairwise (· < ·)) (t:Int):lowN z t≤z.rows.length∧(∀ k,k<lowN z t→keyAt z k<t)∧∀ k,lowN z t≤k→k<z.rows.length→t≤keyAt z k:=by
 obtain ⟨i,h1,h2,h3⟩:=low_ex h t _ (Nat.le_refl _)
 rw [lowN_eq h1 h2 h3]
 exact ⟨h1,h2,h3⟩
theorem i_bs_loop (p q:List D) (N:Nat) (hz:(numsOf (gd p 0)).Pairwise (· < ·)) (hlen:(gd p 0).rows.length≤40000):∀ (d i j M:Nat),j=i+d→j≤(gd p 0).rows.length→d<M→(∀ k,k<i→keyAt (gd p 0) k<(gd q 0).int)→(∀ k,j≤k→k<(gd p 0).rows.length→(gd q 0).int≤keyAt (gd p 0) k) →
  iter (i_bsL0 N p q) M [gd p 0,gd q 0,.i 0,.i 0,.i ((gd p 0).rows.length:Int),.i (i:Int),.i (j:Int)]=some (2,[gd p 0,gd q 0,.i 0,.i 0,.i ((gd p 0).rows.length:Int),.i (lowN (gd p 0) (gd q 0).int:Int),.i (lowN (gd p 0) (gd q 0).int:Int)]):=by
 intro d
 induction d using Nat.strongRecOn with
 | _ d ih =>
 intro i j M hj hn hM h1 h2
 obtain ⟨M,rfl⟩:∃ M',M=M'+1:=⟨M - 1,by omega⟩
 rw [iter,i_bsR0]
 simp only [int_i]
 by_cases hd:d=0
 ·subst hd
  obtain rfl:j=i:=by omega
  rw [c_nlt,lowN_eq hn h1 h2]
  rfl
 ·rw [c_lt (show i<j from by omega)]
  have hh:(i+j) / 2<(gd p 0).rows.length:=by omega
  simp only [halfW (show i+j≤100000 from by omega),nd_ix hh,Int.toNat_natCast,show leI 0 1=true from rfl,nd_true]
  rw [show (gd ((gd p 0).rows.getD ((i+j) / 2) []) 0).int=keyAt (gd p 0) ((i+j) / 2) from rfl]
  by_cases hc:keyAt (gd p 0) ((i+j) / 2)<(gd q 0).int
  ·rw [ltI_t hc,cond_true]
   simp only [w64_succ hh (show (gd p 0).rows.length≤9223372036854775807 from by omega)]
   exact ih (j - ((i+j) / 2+1)) (by omega) ((i+j) / 2+1) j M (by omega) hn (by omega) (fun k hk'=>by
    rcases Nat.lt_or_ge k ((i+j) / 2) with h | h
    ·have:=asc_key hz h hh; omega
    ·obtain rfl:k=(i+j) / 2:=by omega
     exact hc) h2
  ·rw [ltI_f (show (gd q 0).int≤keyAt (gd p 0) ((i+j) / 2) from by omega),cond_false]
   exact ih ((i+j) / 2 - i) (by omega) i ((i+j) / 2) M (by omega) (by omega) (by omega) h1 (fun k hk1 hk2=>by
    rcases Nat.lt_or_ge ((i+j) / 2) k with h | h
    ·have:=asc_key hz h hk2; omega
    ·obtain rfl:k=(i+j) / 2:=by omega
     omega)
def i_bsE:Ent:=(116,e2 (sd (.sl 3)) ri fun p q=>(⟨.tup [.c (.d si),.c (.d (.bool))],[.i (lowN (gd p 0) (gd q 0).int:Int),.b (bsB (gd p 0) (gd q 0).int)]⟩,ascB (gd p 0)&&leI ((gd p 0).rows.length:Int) 40000))
theorem i_bs_ok:EntOk Tryz.prog i_bsE:=e2_ok fun p q h=>evFn_sound (N:=(gd p 0).rows.length+1) (ks:=i_bsK) (key:=bo) i_bsT_ok (enters Tryz.func116) Tryz.func116 fun hw=>by
 rw [i_bs_ev]
 have h:(ascB (gd p 0)&&leI ((gd p 0).rows.length:Int) 40000)=true:=h
 simp only [Bool.and_eq_true,leI,decide_eq_true_eq] at h
 have hz:=asc_of h.1
 have hlen:(gd p 0).rows.length≤40000:=by have:=h.2; omega
 have e:=i_bs_loop p q ((gd p 0).rows.length+1) hz hlen (gd p 0).rows.length 0 (gd p 0).rows.length ((gd p 0).rows.length+1) (by omega) (Nat.le_refl _) (by omega) (fun k hk=>absurd hk (Nat.not_lt_zero _)) (fun k h1 h2=>absurd h2 (by omega))
 simp only [Int.natCast_zero] at e
 unfold i_bss3
 rw [e]
 show some (bo,bif ltI (lowN (gd p 0) (gd q 0).int:Int) ((gd p 0).rows.length:Int) then nd (inRange (lowN (gd p 0) (gd q 0).int:Int) (gd p 0).rows.length) (bif keyAt (gd p 0) (Int.toNat (lowN (gd p 0) (gd q 0).int:Int))==(gd q 0).int then some (1,[.i (lowN (gd p 0) (gd q 0).int:Int),.b true]) else nd (inRange (lowN (gd p 0) (gd q 0).int:Int) (gd p 0).rows.length) (some (1,[.i (lowN (gd p 0) (gd q 0).int:Int),.b false]))) else some (1,[.i (lowN (gd p 0) (gd q 0).int:Int),.b false]))=_
 rw [Int.toNat_natCast]
 unfold bsB
 by_cases hb:lowN (gd p 0) (gd q 0).int<(gd p 0).rows.length
 ·rw [ltI_nat hb,inRange_nat hb]
  cases keyAt (gd p 0) (lowN (gd p 0) (gd q 0).int)==(gd q 0).int <;> rfl
 ·rw [ltI_f (show ((gd p 0).rows.length:Int)≤(lowN (gd p 0) (gd q 0).int:Int) from by omega)]
  rfl
end Go.Proofs.YtpdfmcmnjikppaaGreat
