/-
 Texts of the proof,put together: part 7.
-/
import Derived.Test.YthbbbhpjkgpdcaaGreatOR1
import Derived.Test.YthbbbhpjkgpdcaaGreatOR2
import Derived.Test.YthbbbhpjkgpdcaaGreatOR3
import Derived.Test.YthbbbhpjkgpdcaaGreatOR4
import Derived.Test.YthbbbhpjkgpdcaaGreatOR5
import Derived.Test.YthbbbhpjkgpdcaaGreatOR6
import Derived.Deep.Slices
import Derived.Deep.Fields
import Derived.OpenShut
import Derived.Deep.RegionHeld3
import Derived.Deep.RegionWith
set_option linter.unusedSimpArgs false
set_option linter.unusedVariables false
set_option linter.unusedSectionVars false
namespace Go.Proofs.YthbbbhpjkgpdcaaGreat
open Go.ChangeShapes Go.WideShapes Go.ChangeAt Go.RowKit Go.Deep
def prot0 (w:World) (b:Nat):Nat:=
 match w.heap[b]? with
 | some (.cells arr _ _)=>arr.size
 | _=>0
theorem prot0_cell {w:World} {b o:Nat} {u:Value} (h:w.cell? ⟨b,o,none⟩=some u):o<prot0 w b:=by
 unfold World.cell? at h
 simp only at h
 unfold prot0
 cases hb:w.heap[b]? with
 | none=>rw [hb] at h; cases h
 | some x =>
  rw [hb] at h
  cases x with
  | cells arr t f =>
   simp only at h ⊢
   exact (Array.getElem?_eq_some_iff.1 h).1
  | _=>simp at h
theorem prot0_fresh {w:World} {b:Nat} (h:w.heap.size≤b):prot0 w b=0:=by
 unfold prot0
 rw [Array.getElem?_eq_none h]
def coverB (P:Program) (row:List S) (fs:Array Field):Bool:=
 (List.range row.length).all fun j=>(List.range fs.size).any fun i=>match fs[i]? with
  | some f=>match rowOf P f.type with
   | some rf=>decide (f.offset≤j)&&decide (j<f.offset+rf.length)&&rf.length==P.cellsOf f.type&&rf[j - f.offset]?==row[j]?
   | none=>false
  | none=>false
def layB (P:Program):Nat→TypeId→Bool
 | 0,_=>false
 | n+1,T=>match P.underlying T,rowOf P T with
  | some (.int k),some row=>row == [.int k]
  | some .bool,some row=>row == [.bool]
  | some .string,some row=>row == [.str]
  | some (.slice e),some row=>row == [.sl e]&&(match rowOf P e with | some re=>P.cellsOf e==re.length && !re.isEmpty&&layB P n e | none=>false)
  | some (.struct fs),some row=>coverB P row fs&&P.cellsOf T==row.length&&fs.toList.all fun f=>layB P n f.type
  | _,_=>false
theorem choose_pay {Q:Nat→D→Prop} (n:Nat) (h:∀ i,i<n→∃ x,Q i x):∃ l:List D,l.length=n∧∀ i,i<n→Q i (gd l i):=by
 induction n with
 | zero=>exact ⟨[],rfl,fun i hi=>by omega⟩
 | succ n ih =>
  obtain ⟨l,hl,hq⟩:=ih (fun i hi=>h i (by omega))
  obtain ⟨x,hx⟩:=h n (by omega)
  refine ⟨l ++ [x],by simp [hl],fun i hi=>?_⟩
  by_cases hin:i<n
  ·have:gd (l ++ [x]) i=gd l i:=by
    simp only [gd,List.getD_eq_getElem?_getD]
    rw [List.getElem?_append_left (by omega)]
   rw [this]; exact hq i hin
  ·obtain rfl:i=n:=by omega
   have:gd (l ++ [x]) i=x:=by
    simp only [gd,List.getD_eq_getElem?_getD]
    rw [List.getElem?_append_right (by omega),hl]
    simp
   rw [this]; exact hx
theorem choose_rows {Q:Nat→List D→Prop} (n:Nat) (h:∀ i,i<n→∃ x,Q i x):∃ l:List (List D),l.length=n∧∀ i,i<n→Q i (l.getD i []):=by
 induction n with
 | zero=>exact ⟨[],rfl,fun i hi=>by omega⟩
 | succ n ih =>
  obtain ⟨l,hl,hq⟩:=ih (fun i hi=>h i (by omega))
  obtain ⟨x,hx⟩:=h n (by omega)
  refine ⟨l ++ [x],by simp [hl],fun i hi=>?_⟩
  by_cases hin:i<n
  ·rw [List.getD_eq_getElem?_getD,List.getElem?_append_left (by omega),← List.getD_eq_getElem?_getD]; exact hq i hin
  ·obtain rfl:i=n:=by omega
   rw [List.getD_eq_getElem?_getD,List.getElem?_append_right (by omega),hl]
   simpa using hx
theorem spot_none' {w:World} {a:Addr} {v:Value} (h:w.cell? a=some v):a=⟨a.block,a.off,none⟩:=by
 cases hs:a.spot with
 | none=>cases a; simp at hs; subst hs; rfl
 | some s =>
  unfold World.cell? at h
  rw [hs] at h
  simp at h
  split at h <;> simp at h
theorem add_mk' {b o i:Nat}:(⟨b,o,none⟩:Addr).add i=⟨b,o+i,none⟩:=by
 unfold Addr.add
 split
 ·rename_i h; rw [h]; rfl
 ·rfl
theorem trod_vd {H:Type} {enc:TypeId × Value→H} {P:Program} {W:World} {base:Nat} {spare:Nat→Bool} {held:Bool}:∀ (n:Nat) (T:TypeId) (row:List S),layB P n T=true→rowOf P T=some row →
  ∀ (fuel:Nat) (cs:List Value) (y:DataW H × List MemPlace),DataW.trod enc P W base spare held fuel T cs=some y →
  ∃ p:List D,cs.length=row.length∧∀ j s,row[j]?=some s→∃ u,cs[j]?=some u∧VD P W (prot0 W) s (gd p j) u
 | 0,T,row,hl,_,_,_,_,_=>by cases hl
 | n+1,T,row,hl,hrow,fuel,cs,y,h=>by
  rw [layB,hrow] at hl
  split at hl
  ·rename_i k row' hu hr'
   injection hr' with hr'; subst hr'
   have hl:row = [.int k]:=by simpa using hl
   subst hl
   obtain ⟨a,e,_,_⟩:=DataW.trod_int hu h
   subst e
   refine ⟨[.i a],rfl,fun j s hs=>?_⟩
   match j,hs with
   | 0,hs=>injection hs with hs; subst hs; exact ⟨_,rfl,.int k (.i a)⟩
  ·rename_i row' hu hr'
   injection hr' with hr'; subst hr'
   have hl:row = [.bool]:=by simpa using hl
   subst hl
   obtain ⟨a,e,_⟩:=DataW.trod_bool hu h
   subst e
   refine ⟨[.b a],rfl,fun j s hs=>?_⟩
   match j,hs with
   | 0,hs=>injection hs with hs; subst hs; exact ⟨_,rfl,.bool (.b a)⟩
  ·rename_i row' hu hr'
   injection hr' with hr'; subst hr'
   have hl:row = [.str]:=by simpa using hl
   subst hl
   obtain ⟨a,e,_⟩:=DataW.trod_string hu h
   subst e
   refine ⟨[.s (byteList a)],rfl,fun j s hs=>?_⟩
   match j,hs with
   | 0,hs =>
    injection hs with hs; subst hs
    have:=VD.str (P:=P) (w:=W) (prot:=prot0 W) (.s (byteList a))
    rw [str_s,bsv_byteList] at this
    exact ⟨_,rfl,this⟩
  ·rename_i e row' hu hr'
   injection hr' with hr'; subst hr'
   simp only [Bool.and_eq_true] at hl
   obtain ⟨hl0,hl⟩:=hl
   have hl0:row = [.sl e]:=by simpa using hl0
   subst hl0
   split at hl
   ·rename_i re hre
    simp only [Bool.and_eq_true,beq_iff_eq,Bool.not_eq_true'] at hl
    obtain ⟨⟨hc,hne⟩,hle⟩:=hl
    have hpos:0<re.length:=by cases re with | nil=>cases hne | cons=>simp
    rcases open_slice hu h with ⟨rfl,_⟩ | ⟨a,len,cap,m,nn,Dd,Pl,rfl,hb,hlc,hm,hmm,hx,hi⟩
    ·refine ⟨[.l []],rfl,fun j s hs=>?_⟩
     match j,hs with
     | 0,hs=>injection hs with hs; subst hs; exact ⟨_,rfl,.sl e (.l []) none 0 re (fun _ _=>undef) hre (Nat.zero_le _) (by omega) (fun i j hi=>absurd hi (Nat.not_lt_zero _)) (fun i j s hi=>absurd hi (Nat.not_lt_zero _))⟩
    ·have hlm:len≤m:=by rw [hmm]; split <;> omega
     have ha:0<len→a=⟨a.block,a.off,none⟩:=by
      intro h0
      obtain ⟨cs0,hc0,_⟩:=hi 0 (by omega)
      rw [hc] at hc0
      obtain ⟨_,hcl0,hat0⟩:=World.cells?_some hc0
      have h00:=hat0 0 hpos
      rw [List.getElem?_eq_getElem (by omega)] at h00
      have:=spot_none' h00
      rw [Nat.zero_mul] at this
      simpa [Addr.add] using this
     have hq:∀ i,i<len→∃ p:List D,∀ j s,re[j]?=some s→∃ u,W.cell? ⟨a.block,a.off+(i*re.length+j),none⟩=some u∧VD P W (prot0 W) s (gd p j) u:=by
      intro i hil
      obtain ⟨cs',hcs,htr⟩:=hi i (by omega)
      rw [hc] at hcs
      obtain ⟨_,hcl,hat⟩:=World.cells?_some hcs
      obtain ⟨p,_,hp⟩:=trod_vd n e re hle hre nn cs' _ htr
      refine ⟨p,fun j s hs=>?_⟩
      obtain ⟨u,hu,hv⟩:=hp j s hs
      have hj:=(List.getElem?_eq_some_iff.1 hs).1
      have:=hat j hj
      rw [hu,ha (by omega),add_mk',add_mk'] at this
      refine ⟨u,?_,hv⟩
      rw [← this]; congr 2; omega
     obtain ⟨l,hll,hlq⟩:=choose_rows len hq
     refine ⟨[.l l],rfl,fun j s hs=>?_⟩
     match j,hs with
     | 0,hs =>
      injection hs with hs; subst hs
      refine ⟨_,rfl,?_⟩
      have hsl:=VD.sl (P:=P) (w:=W) (prot:=prot0 W) e (.l l) (some a) cap re (fun i j=>(W.cell? ⟨a.block,a.off+(i*re.length+j),none⟩).getD undef) hre (by rw [rows_l]; omega) (by unfold maxLen at hm; omega) ?_ ?_
      ·rw [rows_l,hll] at hsl; exact hsl
      ·intro i j hi hj
       rw [rows_l,hll] at hi
       obtain ⟨u,hu,_⟩:=hlq i hi j re[j] (List.getElem?_eq_getElem hj)
       refine ⟨a.block,a.off,by rw [← ha (by omega)],?_,prot0_cell hu⟩
       rw [hu]; rfl
      ·intro i j s hi hs
       rw [rows_l,hll] at hi
       obtain ⟨u,hu,hv⟩:=hlq i hi j s hs
       show VD P W (prot0 W) s (gd (l.getD i []) j) ((W.cell? ⟨a.block,a.off+(i*re.length+j),none⟩).getD undef)
       rw [hu]; exact hv
   ·cases hl
  ·rename_i fs row' hu hr'
   injection hr' with hr'; subst hr'
   simp only [Bool.and_eq_true,beq_iff_eq] at hl
   obtain ⟨⟨hcov,hct⟩,hall⟩:=hl
   obtain ⟨xs,nn,_,_,hlen,hlx,hg⟩:=DataW.trod_struct hu h
   rw [hct] at hlen
   have hq:∀ j,j<row.length→∃ d:D,∀ s,row[j]?=some s→∃ u,cs[j]?=some u∧VD P W (prot0 W) s d u:=by
    intro j hj
    unfold coverB at hcov
    rw [List.all_eq_true] at hcov
    have hcj:=hcov j (List.mem_range.2 hj)
    rw [List.any_eq_true] at hcj
    obtain ⟨i,hi,hci⟩:=hcj
    have hi:=List.mem_range.1 hi
    split at hci
    ·rename_i f hf
     split at hci
     ·rename_i rf hrf
      simp only [Bool.and_eq_true,decide_eq_true_eq,beq_iff_eq] at hci
      obtain ⟨⟨⟨k1,k2⟩,k3⟩,k4⟩:=hci
      have hlf:layB P n f.type=true:=by
       rw [List.all_eq_true] at hall
       exact hall f (by
        have:=Array.getElem?_eq_some_iff.1 hf
        obtain ⟨h1,h2⟩:=this
        rw [← h2]; simp)
      have htr:=hg i f hf
      rw [List.getElem?_eq_getElem (by rw [hlx]; exact hi)] at htr
      obtain ⟨p,hpl,hp⟩:=trod_vd n f.type rf hlf hrf nn _ _ htr
      refine ⟨gd p (j - f.offset),fun s hs=>?_⟩
      rw [hs] at k4
      obtain ⟨u,hu',hv⟩:=hp _ _ k4
      refine ⟨u,?_,hv⟩
      rw [List.getElem?_take_of_lt (by omega),List.getElem?_drop] at hu'
      rw [← hu']; congr 1; omega
     ·cases hci
    ·cases hci
   obtain ⟨p,_,hp⟩:=choose_pay row.length hq
   exact ⟨p,hlen,fun j s hs=>hp j (List.getElem?_eq_some_iff.1 hs).1 s hs⟩
  ·cases hl
theorem arg_agg {H:Type} {enc:TypeId × Value→H} {P:Program} {W:World} {base:Nat} {spare:Nat→Bool} {held:Bool} {r:Reach} {b0:Nat} {T:TypeId} {fs:Array Field} {row:List S} {v:Value} {d:DataW H} {ps:List MemPlace}
  (hs:P.underlying T=some (.struct fs)) (hrow:rowOf P T=some row) (hl:layB P 12 T=true) (hv:Value.okWide P W r b0 T v) (hy:DataW.Trod enc P W base spare held T v d ps) :
  ∃ p,VT P W (g0 W.heap.size (prot0 W)) W.heap.size ⟨.one (.agg (row.map .d)),p⟩ v:=by
 obtain ⟨cs,rfl,hsz⟩:=okWide_struct hs hv
 obtain ⟨fuel,hf⟩:=hy
 obtain ⟨p,hpl,hp⟩:=trod_vd 12 T row hl hrow fuel _ _ hf
 refine ⟨p,cs,rfl,?_,fun j c hc=>?_⟩
 ·have:cs.toList.length=row.length:=hpl
  simpa using this
 ·rw [List.getElem?_map] at hc
  cases hr:row[j]? with
  | none=>rw [hr] at hc; cases hc
  | some s =>
   rw [hr] at hc
   injection hc with hc
   subst hc
   obtain ⟨u,hu,hvd⟩:=hp j s hr
   have hu:cs.toList[j]?=some u:=hu
   exact ⟨u,by simpa using hu,hvd⟩
theorem args_1 {P:Program} {W:World} {t:T} {v:Value} (h:VT P W (g0 W.heap.size (prot0 W)) W.heap.size t v):ArgsV P (prot0 W) W [t] #[v]:=⟨rfl,fun j t' hj=>by
 match j,hj with
 | 0,hj=>injection hj with hj; subst hj; exact ⟨v,rfl,h⟩⟩
theorem args_2 {P:Program} {W:World} {t t1:T} {v v1:Value} (h:VT P W (g0 W.heap.size (prot0 W)) W.heap.size t v) (h1:VT P W (g0 W.heap.size (prot0 W)) W.heap.size t1 v1):ArgsV P (prot0 W) W [t,t1] #[v,v1]:=⟨rfl,fun j t' hj=>by
 match j,hj with
 | 0,hj=>injection hj with hj; subst hj; exact ⟨v,rfl,h⟩
 | 1,hj=>injection hj with hj; subst hj; exact ⟨v1,rfl,h1⟩⟩
theorem args_3 {P:Program} {W:World} {t t1 t2:T} {v v1 v2:Value} (h:VT P W (g0 W.heap.size (prot0 W)) W.heap.size t v) (h1:VT P W (g0 W.heap.size (prot0 W)) W.heap.size t1 v1) (h2:VT P W (g0 W.heap.size (prot0 W)) W.heap.size t2 v2):ArgsV P (prot0 W) W [t,t1,t2] #[v,v1,v2]:=⟨rfl,fun j t' hj=>by
 match j,hj with
 | 0,hj=>injection hj with hj; subst hj; exact ⟨v,rfl,h⟩
 | 1,hj=>injection hj with hj; subst hj; exact ⟨v1,rfl,h1⟩
 | 2,hj=>injection hj with hj; subst hj; exact ⟨v2,rfl,h2⟩⟩
theorem ev_walk {P:Program} {f:FuncId} {args:List T} {b:Bool} (h:SoundFn P f args ⟨rb,[.b b]⟩) {W:World} {vs:Array Value} (ha:ArgsV P (prot0 W) W args vs) :
  Calls P f vs W fun e W'=>e=.returned (.bool b)∧Below W.heap.size W W':=by
 refine ((h.n rfl).2 W (prot0 W) vs ha (fun b hb=>prot0_fresh hb)).mono fun e W' hx=>?_
 obtain ⟨v,g',rfl,hres⟩:=hx
 have hv:VD P W' g'.prot .bool (.b b) v:=hres.val
 cases hv
 exact ⟨rfl,hres.below⟩
end Go.Proofs.YthbbbhpjkgpdcaaGreat
namespace Go.Proofs.YthbbbhpjkgpdcaaGreat
set_option maxRecDepth 100000
set_option maxHeartbeats 100000000
open Go.RowKit Go.Lib
theorem tkU {P:Program} {md:Region.Mode} {ops:Array Oper} {Q:Exit→Act→World→Prop} {S:World→Prop} (i d:Nat) {oi:Oper} {fuel:Nat} {listed:Array Bool} {a:Act} {w:World} (hi:ops[i]?=some oi) (hS:S w)
  (hb:(Region.noSelect ops&&(Region.free md ops listed i&&((Region.ready md ops listed).contains i&&(oi.dst==some d && !(Region.wanted oi (yielded ops a.tmps))))))=true)
  (hQ:∀ v c a w,Q (.panic c) (a.put (some d) v) w→Q (.panic c) a w)
  (h:wpAnyH P md ops Q S fuel (listed.setIfInBounds i true) (a.put (some d) undef) w):wpAnyH P md ops Q S (fuel+1) listed a w:=by
 simp only [Bool.and_eq_true,beq_iff_eq,Bool.not_eq_true'] at hb
 obtain ⟨h1,h2,h3,h4,h5⟩:=hb
 refine wpAnyH_take (i:=i) (v:=undef) hi h1 h2 h3 (by rw [h4]; exact hQ undef) (Or.inr ⟨h5,rfl⟩) hS ?_
 rw [h4]
 exact h
theorem tkW {P:Program} {md:Region.Mode} {ops:Array Oper} {Q:Exit→Act→World→Prop} {S:World→Prop} (i d:Nat) {oi:Oper} {v:Value} {fuel:Nat} {listed:Array Bool} {a:Act} {w:World} (hi:ops[i]?=some oi) (hS:S w)
  (hb:(Region.noSelect ops&&(Region.free md ops listed i&&((Region.ready md ops listed).contains i&&(oi.dst==some d&&Region.wanted oi (yielded ops a.tmps)))))=true)
  (hQ:∀ v c a w,Q (.panic c) (a.put (some d) v) w→Q (.panic c) a w)
  (hv:∀ w,S w→(execOp a.eval oi).run P w=.ok (.value v) w)
  (h:wpAnyH P md ops Q S fuel (listed.setIfInBounds i true) (a.put (some d) v) w):wpAnyH P md ops Q S (fuel+1) listed a w:=by
 simp only [Bool.and_eq_true,beq_iff_eq] at hb
 obtain ⟨h1,h2,h3,h4,h5⟩:=hb
 refine wpAnyH_take (i:=i) (v:=v) hi h1 h2 h3 (by rw [h4]; exact hQ v) (Or.inl ⟨h5,hv⟩) hS ?_
 rw [h4]
 exact h
abbrev nfC (k:Nat):Int:=bAt [70,86,79,67,78,110,99,114,65] k
theorem numOf_c (w:World) (b:Nat) (k:Nat) (hk:k<9) :
  Calls Tryz.prog 128 #[.pointer (some ⟨b,0,none⟩),.int .u8 (nfC k)] w fun e w'=>e=.returned (.pointer (some ⟨b,k+1,none⟩))∧w'=w:=by
 have hkk:k=0∨k=1∨k=2∨k=3∨k=4∨k=5∨k=6∨k=7∨k=8:=by omega
 rcases hkk with rfl | rfl | rfl | rfl | rfl | rfl | rfl | rfl | rfl
 all_goals
  simp only [show nfC 0=70 from rfl,show nfC 1=86 from rfl,show nfC 2=79 from rfl,show nfC 3=67 from rfl,show nfC 4=78 from rfl,show nfC 5=110 from rfl,show nfC 6=99 from rfl,show nfC 7=114 from rfl,show nfC 8=65 from rfl]
  go_enter Tryz.func128,Tryz.ntmps128
  go_wp2
  go_ret
  exact ⟨rfl,rfl⟩
theorem ev_str {P:Program} {f:FuncId} {args:List T} {l:List UInt8} (h:SoundFn P f args ⟨sd .str,[.s l]⟩) {W:World} {vs:Array Value} (ha:ArgsV P (prot0 W) W args vs) :
  Calls P f vs W fun e W'=>e=.returned (.string (bs l))∧Below W.heap.size W W':=by
 refine ((h.n rfl).2 W (prot0 W) vs ha (fun b hb=>prot0_fresh hb)).mono fun e W' hx=>?_
 obtain ⟨v,g',rfl,hres⟩:=hx
 have hv:VD P W' g'.prot .str (.s l) v:=hres.val
 cases hv
 exact ⟨rfl,hres.below⟩
theorem ev_int {P:Program} {f:FuncId} {args:List T} {n:Int} (h:SoundFn P f args ⟨ri,[.i n]⟩) {W:World} {vs:Array Value} (ha:ArgsV P (prot0 W) W args vs) :
  Calls P f vs W fun e W'=>e=.returned (.int .i64 n)∧Below W.heap.size W W':=by
 refine ((h.n rfl).2 W (prot0 W) vs ha (fun b hb=>prot0_fresh hb)).mono fun e W' hx=>?_
 obtain ⟨v,g',rfl,hres⟩:=hx
 have hv:VD P W' g'.prot si (.i n) v:=hres.val
 cases hv
 exact ⟨rfl,hres.below⟩
theorem vt_int {P:Program} {W:World} (k:IntKind) (n:Int):VT P W (g0 W.heap.size (prot0 W)) W.heap.size ⟨sd (.int k),[.i n]⟩ (.int k n):=VD.int k (.i n)
theorem vt_str {P:Program} {W:World} (l:List UInt8):VT P W (g0 W.heap.size (prot0 W)) W.heap.size ⟨sd .str,[.s l]⟩ (.string (bs l)):=VD.str (.s l)
theorem fields_c (W:World) (n:Int):Calls Tryz.prog 84 #[.int .i64 n] W fun e W'=>e=.returned (.string (bs (fieldsF n)))∧Below W.heap.size W W':=
 ev_str (i_fields_ok [⟨ri,[.i n]⟩] _ (by kernel_rfl)) (args_1 (vt_int _ _))
theorem has_c (W:World) (l:List UInt8) (c:Int) (hl:leI (l.length:Int) 100=true):Calls Tryz.prog 83 #[.string (bs l),.int .u8 c] W fun e W'=>e=.returned (.bool (hasB l c))∧Below W.heap.size W W':=by
 have h:i_hasE.2 [⟨sd .str,[.s l]⟩,⟨sd (.int .u8),[.i c]⟩]=some (⟨rb,[.b (hasB l c)]⟩,leI (l.length:Int) 100):=by kernel_rfl
 rw [hl] at h
 exact ev_walk (i_has_ok _ _ h) (args_2 (vt_str l) (vt_int .u8 c))
theorem fieldOk_c (W:World) (c n:Int):Calls Tryz.prog 129 #[.int .u8 c,.int .i64 n] W fun e W'=>e=.returned (.bool (fieldOkB c n))∧Below W.heap.size W W':=
 ev_walk (i_fieldOk_ok [⟨sd (.int .u8),[.i c]⟩,⟨ri,[.i n]⟩] _ (by kernel_rfl)) (args_2 (vt_int .u8 c) (vt_int .i64 n))
theorem from_c (W:World) (a b c:Int):Calls Tryz.prog 85 #[.int .i64 a,.int .i64 b,.int .i64 c] W fun e W'=>e=.returned (.bool (inB a b c))∧Below W.heap.size W W':=
 ev_walk (i_from_ok [⟨ri,[.i a]⟩,⟨ri,[.i b]⟩,⟨ri,[.i c]⟩] _ (by kernel_rfl)) (args_3 (vt_int _ a) (vt_int _ b) (vt_int _ c))
theorem cmdOk_c (W:World) (a b c:Int):Calls Tryz.prog 130 #[.agg #[.int .i64 a,.int .i64 b,.int .i64 c]] W fun e W'=>e=.returned (.bool (cmdOk [.i a,.i b,.i c]))∧Below W.heap.size W W':=
 ev_walk (i_CmdOk_ok [⟨ag rICmd,[.i a,.i b,.i c]⟩] _ (by kernel_rfl)) (args_1 ⟨_,rfl,rfl,fun j x hj=>by
  match j,hj with
  | 0,hj=>injection hj with hj; subst hj; exact ⟨_,rfl,VD.int .i64 (.i a)⟩
  | 1,hj=>injection hj with hj; subst hj; exact ⟨_,rfl,VD.int .i64 (.i b)⟩
  | 2,hj=>injection hj with hj; subst hj; exact ⟨_,rfl,VD.int .i64 (.i c)⟩⟩)
structure LogV (W:World) (a:Int) (x y z:D) (u v t:Value):Prop where
 hu:VD Tryz.prog W (prot0 W) (.sl 148) x u
 hv:VD Tryz.prog W (prot0 W) (.sl 69) y v
 ht:VD Tryz.prog W (prot0 W) (.sl 78) z t
theorem VD.toP {P:Program} {w w':World} {prot:Nat→Nat} {s:S} {x:D} {v:Value} (h:VD P w prot s x v) (hb:Below w.heap.size w w'):VD P w' (prot0 w') s x v:=
 h.mono fun b o u ho hc=>by
  have hc':w'.cell? ⟨b,o,none⟩=some u:=by rw [cell_of_heap (hb.block b (cell_size hc))]; exact hc
  exact ⟨hc',prot0_cell hc'⟩
theorem log_args {W:World} {a:Int} {x y z:D} {u v t:Value} (h:LogV W a x y z u v t):ArgsV Tryz.prog (prot0 W) W [⟨ag rILog,[.i a,x,y,z]⟩] #[.agg #[.int .i64 a,u,v,t]]:=
 args_1 ⟨_,rfl,rfl,fun j c hj=>by
  match j,hj with
  | 0,hj=>injection hj with hj; subst hj; exact ⟨_,rfl,VD.int .i64 (.i a)⟩
  | 1,hj=>injection hj with hj; subst hj; exact ⟨_,rfl,h.hu⟩
  | 2,hj=>injection hj with hj; subst hj; exact ⟨_,rfl,h.hv⟩
  | 3,hj=>injection hj with hj; subst hj; exact ⟨_,rfl,h.ht⟩⟩
theorem logOk_c {W:World} {a:Int} {x y z:D} {u v t:Value} (h:LogV W a x y z u v t):Calls Tryz.prog 131 #[.agg #[.int .i64 a,u,v,t]] W fun e W'=>e=.returned (.bool (logOk [.i a,x,y,z]))∧Below W.heap.size W W':=
 ev_walk (i_LogOk_ok [⟨ag rILog,[.i a,x,y,z]⟩] _ (by kernel_rfl)) (log_args h)
theorem logZ_c {W:World} {a:Int} {x y z:D} {u v t:Value} (h:LogV W a x y z u v t):Calls Tryz.prog 126 #[.agg #[.int .i64 a,u,v,t]] W fun e W'=>e=.returned (.bool (sameLg [.i a,x,y,z] [.i 0,.l [],.l [],.l []]))∧Below W.heap.size W W':=
 ev_walk (i_isLogZero_ok [⟨ag rILog,[.i a,x,y,z]⟩] _ (by kernel_rfl)) (log_args h)
theorem end_c {W:World} {a:Int} {x y z:D} {u v t:Value} (h:LogV W a x y z u v t):Calls Tryz.prog 45 #[.agg #[.int .i64 a,u,v,t]] W fun e W'=>e=.returned (.int .i64 (endL [.i a,x,y,z]))∧Below W.heap.size W W':=
 ev_int (i_end_ok [⟨ag rILog,[.i a,x,y,z]⟩] _ (by kernel_rfl)) (log_args h)
def fieldT (l:List UInt8) (p:List D) (k:Nat):Bool:=bif hasB l (nfC k) then fieldOkB (nfC k) (gd p (k+1)).int else (gd p (k+1)).int==0
def fitsI (p:List D):Bool:= !(fieldsF (gd p 0).int == [])&&((List.range 9).all (fieldT (fieldsF (gd p 0).int) p)&&((bif hasB (fieldsF (gd p 0).int) 120 then cmdOk (sub p 10 3) else eqRow [si,si,si] (sub p 10 3) [.i 0,.i 0,.i 0])&&(bif hasB (fieldsF (gd p 0).int) 76 then logOk (sub p 13 4)&&(inB (gd p 4).int (gd p 13).int (endL (sub p 13 4))&&leI (gd p 5).int (gd p 2).int) else sameLg (sub p 13 4) [.i 0,.l [],.l [],.l []])))
theorem below_drew {n:Nat} {w w':World} (h:Below n w w'):Below n w w'.drew:=⟨h.os,h.tape,h.output,h.size,h.block⟩
theorem alloc_sz (w:World) (o:Obj):(w.alloc o).heap.size=w.heap.size+1:=Array.size_push _
theorem msgFits_c {w:World} (a0 a1 a2 a3 a4 a5 a6 a7 a8 a9 a10 a11 a12 a13:Int) {x y z:D} {u v t:Value} (h:LogV w a13 x y z u v t) :
  Calls Tryz.prog 82 #[.agg #[.int .i64 a0,.int .i64 a1,.int .i64 a2,.int .i64 a3,.int .i64 a4,.int .i64 a5,.int .i64 a6,.int .i64 a7,.int .i64 a8,.int .i64 a9,.int .i64 a10,.int .i64 a11,.int .i64 a12,.int .i64 a13,u,v,t]] w fun e w'=>e=.returned (.bool (fitsI [.i a0,.i a1,.i a2,.i a3,.i a4,.i a5,.i a6,.i a7,.i a8,.i a9,.i a10,.i a11,.i a12,.i a13,x,y,z]))∧Below w.heap.size w w':=by
 obtain ⟨l,hl⟩:∃ l,l=fieldsF a0:=⟨_,rfl⟩
 have hlen:=fieldsF_len a0
 have hfc:=fun W=>fields_c W a0
 rw [← hl] at hlen hfc
 have FIT:Hid (fitsI [.i a0,.i a1,.i a2,.i a3,.i a4,.i a5,.i a6,.i a7,.i a8,.i a9,.i a10,.i a11,.i a12,.i a13,x,y,z]=(!l.isEmpty&&((List.range 9).all (fieldT l [.i a0,.i a1,.i a2,.i a3,.i a4,.i a5,.i a6,.i a7,.i a8,.i a9,.i a10,.i a11,.i a12,.i a13,x,y,z])&&((bif hasB l 120 then cmdOk [.i a10,.i a11,.i a12] else eqRow [si,si,si] [.i a10,.i a11,.i a12] [.i 0,.i 0,.i 0])&&(bif hasB l 76 then logOk [.i a13,x,y,z]&&(inB a4 a13 (endL [.i a13,x,y,z])&&leI a5 a2) else sameLg [.i a13,x,y,z] [.i 0,.l [],.l [],.l []]))))):=by
  rw [show l.isEmpty=(fieldsF a0 == []) from by rw [hl]; cases fieldsF a0 <;> rfl,hl]
  exact rfl
 have H:∀ W,Below w.heap.size w W→LogV W a13 x y z u v t:=fun W hb=>⟨h.hu.toP hb,h.hv.toP hb,h.ht.toP hb⟩
 have HH:Hid (∀ W,Below w.heap.size w W→LogV W a13 x y z u v t):=H
 have HASC:∀ W c,Calls Tryz.prog 83 #[.string (bs l),.int .u8 c] W fun e W'=>e=.returned (.bool (hasB l c))∧Below W.heap.size W W':=fun W c=>has_c W l c hlen
 clear h H hl hlen
 go_enter Tryz.func82,Tryz.ntmps82
 go_wp2_with fail
 obtain ⟨W0,hW0⟩:∃ W0,W0=w.alloc (.cells #[.int .i64 a0,.int .i64 a1,.int .i64 a2,.int .i64 a3,.int .i64 a4,.int .i64 a5,.int .i64 a6,.int .i64 a7,.int .i64 a8,.int .i64 a9,.int .i64 a10,.int .i64 a11,.int .i64 a12,.int .i64 a13,u,v,t] 54):=⟨_,rfl⟩
 have B0:Hid (Below w.heap.size w W0):=by rw [hW0]; exact (Below.refl _ _).alloc (Nat.le_refl _) _
 have hC0:∀ o,W0.cell? ⟨w.heap.size,o,none⟩=(#[.int .i64 a0,.int .i64 a1,.int .i64 a2,.int .i64 a3,.int .i64 a4,.int .i64 a5,.int .i64 a6,.int .i64 a7,.int .i64 a8,.int .i64 a9,.int .i64 a10,.int .i64 a11,.int .i64 a12,.int .i64 a13,u,v,t]:Array Value)[o]?:=fun o=>by rw [hW0]; exact World.cell?_alloc_at (w:=w) _ _ w.heap.size o rfl
 have hsz:w.heap.size<W0.heap.size:=by rw [hW0,alloc_sz]; exact Nat.lt_succ_self _
 rw [← hW0]
 clear hW0
 refine (hfc _).mono ?_
 rintro e w1 ⟨rfl,b1⟩
 have B1:Hid (Below W0.heap.size W0 w1):=b1
 cases hE:l.isEmpty with
 | true =>
  have FIT2:Hid (fitsI [.i a0,.i a1,.i a2,.i a3,.i a4,.i a5,.i a6,.i a7,.i a8,.i a9,.i a10,.i a11,.i a12,.i a13,x,y,z]=false):=by rw [Hid] at FIT; rw [FIT,hE]; rfl
  go_wp2
  go_ret
  exact ⟨by rw [FIT2.out]; rfl,B0.out.trans (B1.out.mono B0.out.size)⟩
 | false =>
 have FIT2:Hid (fitsI [.i a0,.i a1,.i a2,.i a3,.i a4,.i a5,.i a6,.i a7,.i a8,.i a9,.i a10,.i a11,.i a12,.i a13,x,y,z]=((List.range 9).all (fieldT l [.i a0,.i a1,.i a2,.i a3,.i a4,.i a5,.i a6,.i a7,.i a8,.i a9,.i a10,.i a11,.i a12,.i a13,x,y,z])&&((bif hasB l 120 then cmdOk [.i a10,.i a11,.i a12] else eqRow [si,si,si] [.i a10,.i a11,.i a12] [.i 0,.i 0,.i 0])&&(bif hasB l 76 then logOk [.i a13,x,y,z]&&(inB a4 a13 (endL [.i a13,x,y,z])&&leI a5 a2) else sameLg [.i a13,x,y,z] [.i 0,.l [],.l [],.l []])))):=by rw [Hid] at FIT; rw [FIT,hE]; rfl
 clear FIT b1
 go_wp2_with fail
 go_loopw [11] (fun i wr=>∃ k:Nat,k≤9∧i=.int .i64 (k:Int)∧Hid (Below W0.heap.size W0 wr)∧Hid ((List.range k).all (fieldT l [.i a0,.i a1,.i a2,.i a3,.i a4,.i a5,.i a6,.i a7,.i a8,.i a9,.i a10,.i a11,.i a12,.i a13,x,y,z])=true)) (fun i _=>9 - (RowKit.intOf i).toNat)
 case atStart=>exact ⟨0,by omega,rfl,B1,rfl⟩
 case round =>
  obtain ⟨k,hk9,rfl,hb,hall⟩:=hrel
  have HB:Hid (Below w.heap.size w wr):=B0.out.trans (hb.out.mono B0.out.size)
  have hc:=(bcell hb.out).1
  by_cases hk:k<9
  ·obtain ⟨N,hN⟩:∃ N,N=(gd [.i a0,.i a1,.i a2,.i a3,.i a4,.i a5,.i a6,.i a7,.i a8,.i a9,.i a10,.i a11,.i a12,.i a13,x,y,z] (k+1)).int:=⟨_,rfl⟩
   have hld:wr.cell? ⟨w.heap.size,k+1,none⟩=some (.int .i64 N):=by
    rw [hc _ _ hsz,hC0,hN]
    have hkk:k=0∨k=1∨k=2∨k=3∨k=4∨k=5∨k=6∨k=7∨k=8:=by omega
    rcases hkk with rfl | rfl | rfl | rfl | rfl | rfl | rfl | rfl | rfl <;> rfl
   have NO:Hid ((List.range 9).all (fieldT l [.i a0,.i a1,.i a2,.i a3,.i a4,.i a5,.i a6,.i a7,.i a8,.i a9,.i a10,.i a11,.i a12,.i a13,x,y,z])=true→fieldT l [.i a0,.i a1,.i a2,.i a3,.i a4,.i a5,.i a6,.i a7,.i a8,.i a9,.i a10,.i a11,.i a12,.i a13,x,y,z] k=true):=fun h=>List.all_eq_true.1 h k (List.mem_range.2 hk)
   have TT:Hid (fieldT l [.i a0,.i a1,.i a2,.i a3,.i a4,.i a5,.i a6,.i a7,.i a8,.i a9,.i a10,.i a11,.i a12,.i a13,x,y,z] k=(bif hasB l (nfC k) then fieldOkB (nfC k) N else N==0)):=by rw [hN]; exact rfl
   have NX:Hid (fieldT l [.i a0,.i a1,.i a2,.i a3,.i a4,.i a5,.i a6,.i a7,.i a8,.i a9,.i a10,.i a11,.i a12,.i a13,x,y,z] k=true→(List.range (k+1)).all (fieldT l [.i a0,.i a1,.i a2,.i a3,.i a4,.i a5,.i a6,.i a7,.i a8,.i a9,.i a10,.i a11,.i a12,.i a13,x,y,z])=true):=fun h=>by
    rw [List.range_succ,List.all_append,hall.out]
    simpa using h
   have NF:Hid (fieldT l [.i a0,.i a1,.i a2,.i a3,.i a4,.i a5,.i a6,.i a7,.i a8,.i a9,.i a10,.i a11,.i a12,.i a13,x,y,z] k=false→fitsI [.i a0,.i a1,.i a2,.i a3,.i a4,.i a5,.i a6,.i a7,.i a8,.i a9,.i a10,.i a11,.i a12,.i a13,x,y,z]=false):=fun h=>by
    rw [FIT2.out]
    cases hq:(List.range 9).all (fieldT l [.i a0,.i a1,.i a2,.i a3,.i a4,.i a5,.i a6,.i a7,.i a8,.i a9,.i a10,.i a11,.i a12,.i a13,x,y,z]) with
    | false=>rfl
    | true=>have:=NO.out hq; rw [h] at this; cases this
   clear hc hN
   go_wp2_with fail
   refine (numOf_c _ _ k hk).mono ?_
   rintro e w2 ⟨rfl,rfl⟩
   go_wp2_with fail
   refine (HASC _ _).mono ?_
   rintro e w3 ⟨rfl,b3⟩
   have HB3:Hid (Below w.heap.size w w3):=HB.out.trans (b3.mono HB.out.size)
   have HW3:Hid (Below W0.heap.size W0 w3):=hb.out.trans (b3.mono hb.out.size)
   clear hld b3
   cases hh:hasB l (nfC k) with
   | true =>
    go_wp2_with fail
    refine (fieldOk_c _ _ _).mono ?_
    rintro e w4 ⟨rfl,b4⟩
    have HB4:Hid (Below w.heap.size w w4):=HB3.out.trans (b4.mono HB3.out.size)
    have HW4:Hid (Below W0.heap.size W0 w4):=HW3.out.trans (b4.mono HW3.out.size)
    clear b4
    cases hf:fieldOkB (nfC k) N with
    | true =>
     have NX2:Hid ((List.range (k+1)).all (fieldT l [.i a0,.i a1,.i a2,.i a3,.i a4,.i a5,.i a6,.i a7,.i a8,.i a9,.i a10,.i a11,.i a12,.i a13,x,y,z])=true):=NX.out (by rw [TT.out,hh,hf]; rfl)
     go_wp2_with fail
     refine (HASC _ _).mono ?_
     rintro e w5 ⟨rfl,b5⟩
     have HW5:Hid (Below W0.heap.size W0 w5):=HW4.out.trans (b5.mono HW4.out.size)
     clear b5
     rw [hh]
     go_wp2_with fail
     go_roundw
     case rel=>exact ⟨k+1,by omega,by go_num,HW5,NX2⟩
     case measure=>simp [RowKit.intOf]; omega
    | false =>
     have NF2:Hid (fitsI [.i a0,.i a1,.i a2,.i a3,.i a4,.i a5,.i a6,.i a7,.i a8,.i a9,.i a10,.i a11,.i a12,.i a13,x,y,z]=false):=NF.out (by rw [TT.out,hh,hf]; rfl)
     go_wp2_with fail
     go_ret
     exact ⟨by rw [NF2.out]; rfl,HB4.out⟩
   | false =>
    go_wp2_with fail
    refine (HASC _ _).mono ?_
    rintro e w5 ⟨rfl,b5⟩
    have HB5:Hid (Below w.heap.size w w5):=HB3.out.trans (b5.mono HB3.out.size)
    have HW5:Hid (Below W0.heap.size W0 w5):=HW3.out.trans (b5.mono HW3.out.size)
    clear b5
    rw [hh]
    by_cases h0:N=0
    ·have NX2:Hid ((List.range (k+1)).all (fieldT l [.i a0,.i a1,.i a2,.i a3,.i a4,.i a5,.i a6,.i a7,.i a8,.i a9,.i a10,.i a11,.i a12,.i a13,x,y,z])=true):=NX.out (by rw [TT.out,hh,h0]; rfl)
     subst h0
     go_wp2_with fail
     go_roundw
     case rel=>exact ⟨k+1,by omega,by go_num,HW5,NX2⟩
     case measure=>simp [RowKit.intOf]; omega
    ·have h0:(N==0)=false:=beq_eq_false_iff_ne.2 h0
     have NF2:Hid (fitsI [.i a0,.i a1,.i a2,.i a3,.i a4,.i a5,.i a6,.i a7,.i a8,.i a9,.i a10,.i a11,.i a12,.i a13,x,y,z]=false):=NF.out (by rw [TT.out,hh,h0]; rfl)
     go_wp2_with fail
     go_ret
     exact ⟨by rw [NF2.out]; rfl,HB5.out⟩
  ·obtain rfl:k=9:=by omega
   have FIT3:Hid (fitsI [.i a0,.i a1,.i a2,.i a3,.i a4,.i a5,.i a6,.i a7,.i a8,.i a9,.i a10,.i a11,.i a12,.i a13,x,y,z]=((bif hasB l 120 then cmdOk [.i a10,.i a11,.i a12] else eqRow [si,si,si] [.i a10,.i a11,.i a12] [.i 0,.i 0,.i 0])&&(bif hasB l 76 then logOk [.i a13,x,y,z]&&(inB a4 a13 (endL [.i a13,x,y,z])&&leI a5 a2) else sameLg [.i a13,x,y,z] [.i 0,.l [],.l [],.l []]))):=by rw [FIT2.out,hall.out,Bool.true_and]; exact rfl
   have HW:Hid (Below W0.heap.size W0 wr):=hb
   clear FIT2 hc hk hb
   go_wp2_with fail
   refine (HASC _ 120).mono ?_
   rintro e w3 ⟨rfl,b3⟩
   have HB3:Hid (Below w.heap.size w w3):=HB.out.trans (b3.mono HB.out.size)
   have HW3:Hid (Below W0.heap.size W0 w3):=HW.out.trans (b3.mono HW.out.size)
   have hc3:=(bcell HW3.out).1
   clear b3
   cases hx:hasB l 120 with
   | true =>
    go_wp2_with fail
    refine (cmdOk_c _ _ _ _).mono ?_
    rintro e w4 ⟨rfl,b4⟩
    have HB4:Hid (Below w.heap.size w w4):=HB3.out.trans (b4.mono HB3.out.size)
    have HW4:Hid (Below W0.heap.size W0 w4):=HW3.out.trans (b4.mono HW3.out.size)
    clear b4 hc3
    cases hcm:cmdOk [.i a10,.i a11,.i a12] with
    | false =>
     go_wp2_with fail
     go_ret
     exact ⟨by rw [FIT3.out,hx,hcm]; rfl,HB4.out⟩
    | true =>
     have FIT4:Hid (fitsI [.i a0,.i a1,.i a2,.i a3,.i a4,.i a5,.i a6,.i a7,.i a8,.i a9,.i a10,.i a11,.i a12,.i a13,x,y,z]=(bif hasB l 76 then logOk [.i a13,x,y,z]&&(inB a4 a13 (endL [.i a13,x,y,z])&&leI a5 a2) else sameLg [.i a13,x,y,z] [.i 0,.l [],.l [],.l []])):=by rw [FIT3.out,hx,hcm,cond_true,Bool.true_and]; exact rfl
     go_wp2_with fail
     refine (HASC _ 120).mono ?_
     rintro e w5 ⟨rfl,b5⟩
     have HB5:Hid (Below w.heap.size w w5):=HB4.out.trans (b5.mono HB4.out.size)
     have HW5:Hid (Below W0.heap.size W0 w5):=HW4.out.trans (b5.mono HW4.out.size)
     clear b5
     rw [hx]
     go_wp2_with fail
     refine (HASC _ 76).mono ?_
     rintro e wa ⟨rfl,ba⟩
     have HBa:Hid (Below w.heap.size w wa):=HB5.out.trans (ba.mono HB5.out.size)
     have HWa:Hid (Below W0.heap.size W0 wa):=HW5.out.trans (ba.mono HW5.out.size)
     have hca:=(bcell HWa.out).1
     clear ba
     cases h76:hasB l 76 with
     | false =>
      go_wp2_with fail
      refine (logZ_c (HH.out _ HBa.out)).mono ?_
      rintro e wb ⟨rfl,bb⟩
      go_wp2_with fail
      go_ret
      exact ⟨by rw [FIT4.out,h76]; rfl,HBa.out.trans (bb.mono HBa.out.size)⟩
     | true =>
      have KP:∀ w',Below w.heap.size w w'→Below W0.heap.size W0 w'→Below w.heap.size w w'∧Below W0.heap.size W0 w'∧w'.cell? ⟨w.heap.size,2,none⟩=some (.int .i64 a2)∧w'.cell? ⟨w.heap.size,4,none⟩=some (.int .i64 a4)∧w'.cell? ⟨w.heap.size,5,none⟩=some (.int .i64 a5)∧w'.cell? ⟨w.heap.size,13,none⟩=some (.int .i64 a13)∧w'.cell? ⟨w.heap.size,14,none⟩=some u∧w'.cell? ⟨w.heap.size,15,none⟩=some v∧w'.cell? ⟨w.heap.size,16,none⟩=some t:=fun w' h1 h2=>by
       have hc:=(bcell h2).1
       refine ⟨h1,h2,?_,?_,?_,?_,?_,?_,?_⟩ <;> (rw [hc _ _ hsz,hC0]; rfl)
      have HE:∀ W,Below w.heap.size w W→Calls Tryz.prog 45 #[(Value.agg #[.int .i64 a13,u,v,t])] W fun e W'=>e=.returned (.int .i64 (endL [.i a13,x,y,z]))∧Below W.heap.size W W':=fun W hb=>end_c (HH.out W hb)
      cases hlo:logOk [.i a13,x,y,z] with
      | false =>
       have HL:∀ W,Below w.heap.size w W→Calls Tryz.prog 131 #[(Value.agg #[.int .i64 a13,u,v,t])] W fun e W'=>e=.returned (.bool false)∧Below W.heap.size W W':=fun W hb=>by
        have:=logOk_c (HH.out W hb)
        rw [hlo] at this
        exact this
       clear hca
       go_wp2_with fail
       refine wp_region_held_drew (S:=fun w'=>Below w.heap.size w w'∧Below W0.heap.size W0 w'∧w'.cell? ⟨w.heap.size,2,none⟩=some (.int .i64 a2)∧w'.cell? ⟨w.heap.size,4,none⟩=some (.int .i64 a4)∧w'.cell? ⟨w.heap.size,5,none⟩=some (.int .i64 a5)∧w'.cell? ⟨w.heap.size,13,none⟩=some (.int .i64 a13)∧w'.cell? ⟨w.heap.size,14,none⟩=some u∧w'.cell? ⟨w.heap.size,15,none⟩=some v∧w'.cell? ⟨w.heap.size,16,none⟩=some t) (by kernel_rfl) (KP _ (below_drew HBa.out) (below_drew HWa.out)) (fun hHeld=>?_)
       refine tkW 0 67 (v:=?_) rfl hHeld (by kernel_rfl) (fun _ _ _ _ h=>h) ?_ ?_
       case refine_2=>(intro w' hS; (try dsimp only at hS); go_simp; try with_reducible rfl)
       try simp only [Act.put,List.setIfInBounds_toArray,List.set_cons_zero,List.set_cons_succ]
       refine tkW 1 68 (v:=?_) rfl hHeld (by kernel_rfl) (fun _ _ _ _ h=>h) ?_ ?_
       case refine_2=>(intro w' hS; (try dsimp only at hS); go_simp; try with_reducible rfl)
       try simp only [Act.put,List.setIfInBounds_toArray,List.set_cons_zero,List.set_cons_succ]
       refine wpAnyH_ready (rs:= [2]) (by kernel_rfl) (by simp) ?_
       refine AllReadyH.cons rfl (fun K hK=>?_) AllReadyH.nil
       rw [if_pos (by rfl)]
       go_simp
       refine (HL _ hHeld.1).mono ?_
       rintro e wz1 ⟨rfl,bz1⟩
       try dsimp only at hHeld
       have G1:Below w.heap.size w wz1:=Below.trans hHeld.1 (Below.mono bz1 (Below.size hHeld.1))
       have F1:Below W0.heap.size W0 wz1:=Below.trans hHeld.2.1 (Below.mono bz1 (Below.size hHeld.2.1))
       clear bz1 hHeld
       refine hK.out _ _ (KP _ G1 F1) (fun hHeld=>?_)
       clear hK K
       try simp only [Act.put,List.setIfInBounds_toArray,List.set_cons_zero,List.set_cons_succ]
       refine tkW 3 70 (v:=?_) rfl hHeld (by kernel_rfl) (fun _ _ _ _ h=>h) ?_ ?_
       case refine_2=>(intro w' hS; (try dsimp only at hS); go_simp; try with_reducible rfl)
       try simp only [Act.put,List.setIfInBounds_toArray,List.set_cons_zero,List.set_cons_succ]
       refine tkU 4 71 rfl hHeld (by kernel_rfl) (fun _ _ _ _ h=>h) ?_
       try simp only [Act.put,List.setIfInBounds_toArray,List.set_cons_zero,List.set_cons_succ]
       refine tkU 5 72 rfl hHeld (by kernel_rfl) (fun _ _ _ _ h=>h) ?_
       try simp only [Act.put,List.setIfInBounds_toArray,List.set_cons_zero,List.set_cons_succ]
       refine tkU 6 73 rfl hHeld (by kernel_rfl) (fun _ _ _ _ h=>h) ?_
       try simp only [Act.put,List.setIfInBounds_toArray,List.set_cons_zero,List.set_cons_succ]
       refine tkU 7 74 rfl hHeld (by kernel_rfl) (fun _ _ _ _ h=>h) ?_
       try simp only [Act.put,List.setIfInBounds_toArray,List.set_cons_zero,List.set_cons_succ]
       refine tkU 8 75 rfl hHeld (by kernel_rfl) (fun _ _ _ _ h=>h) ?_
       try simp only [Act.put,List.setIfInBounds_toArray,List.set_cons_zero,List.set_cons_succ]
       refine tkU 9 76 rfl hHeld (by kernel_rfl) (fun _ _ _ _ h=>h) ?_
       try simp only [Act.put,List.setIfInBounds_toArray,List.set_cons_zero,List.set_cons_succ]
       refine tkU 10 77 rfl hHeld (by kernel_rfl) (fun _ _ _ _ h=>h) ?_
       try simp only [Act.put,List.setIfInBounds_toArray,List.set_cons_zero,List.set_cons_succ]
       refine tkU 11 78 rfl hHeld (by kernel_rfl) (fun _ _ _ _ h=>h) ?_
       try simp only [Act.put,List.setIfInBounds_toArray,List.set_cons_zero,List.set_cons_succ]
       refine tkU 12 79 rfl hHeld (by kernel_rfl) (fun _ _ _ _ h=>h) ?_
       try simp only [Act.put,List.setIfInBounds_toArray,List.set_cons_zero,List.set_cons_succ]
       refine tkW 13 80 (v:=?_) rfl hHeld (by kernel_rfl) (fun _ _ _ _ h=>h) ?_ ?_
       case refine_2=>(intro w' hS; (try dsimp only at hS); go_simp; try with_reducible rfl)
       try simp only [Act.put,List.setIfInBounds_toArray,List.set_cons_zero,List.set_cons_succ]
       refine tkW 14 81 (v:=?_) rfl hHeld (by kernel_rfl) (fun _ _ _ _ h=>h) ?_ ?_
       case refine_2=>(intro w' hS; (try dsimp only at hS); go_simp; try with_reducible rfl)
       try simp only [Act.put,List.setIfInBounds_toArray,List.set_cons_zero,List.set_cons_succ]
       refine tkU 15 82 rfl hHeld (by kernel_rfl) (fun _ _ _ _ h=>h) ?_
       try simp only [Act.put,List.setIfInBounds_toArray,List.set_cons_zero,List.set_cons_succ]
       refine tkU 16 83 rfl hHeld (by kernel_rfl) (fun _ _ _ _ h=>h) ?_
       try simp only [Act.put,List.setIfInBounds_toArray,List.set_cons_zero,List.set_cons_succ]
       refine tkU 17 84 rfl hHeld (by kernel_rfl) (fun _ _ _ _ h=>h) ?_
       try simp only [Act.put,List.setIfInBounds_toArray,List.set_cons_zero,List.set_cons_succ]
       refine tkU 18 85 rfl hHeld (by kernel_rfl) (fun _ _ _ _ h=>h) ?_
       try simp only [Act.put,List.setIfInBounds_toArray,List.set_cons_zero,List.set_cons_succ]
       refine tkU 19 86 rfl hHeld (by kernel_rfl) (fun _ _ _ _ h=>h) ?_
       try simp only [Act.put,List.setIfInBounds_toArray,List.set_cons_zero,List.set_cons_succ]
       refine tkW 20 87 (v:=?_) rfl hHeld (by kernel_rfl) (fun _ _ _ _ h=>h) ?_ ?_
       case refine_2=>(intro w' hS; (try dsimp only at hS); go_simp; try with_reducible rfl)
       try simp only [Act.put,List.setIfInBounds_toArray,List.set_cons_zero,List.set_cons_succ]
       refine tkW 21 2 (v:=?_) rfl hHeld (by kernel_rfl) (fun _ _ _ _ h=>h) ?_ ?_
       case refine_2=>(intro w' hS; (try dsimp only at hS); go_simp; try with_reducible rfl)
       try simp only [Act.put,List.setIfInBounds_toArray,List.set_cons_zero,List.set_cons_succ]
       refine wpAnyH_done (by kernel_rfl) ?_ _
       go_wp2
       go_ret
       refine ⟨?_,G1⟩
       rw [FIT4.out,h76,hlo]
       first | rfl | (go_simp; done) | (simp [Act.eval]; done) | trace_state
      | true =>
       have HL:∀ W,Below w.heap.size w W→Calls Tryz.prog 131 #[(Value.agg #[.int .i64 a13,u,v,t])] W fun e W'=>e=.returned (.bool true)∧Below W.heap.size W W':=fun W hb=>by
        have:=logOk_c (HH.out W hb)
        rw [hlo] at this
        exact this
       clear hca
       cases hfr:inB a4 a13 (endL [.i a13,x,y,z]) with
       | false =>
        have HF:∀ W,Calls Tryz.prog 85 #[.int .i64 a4,.int .i64 a13,.int .i64 (endL [.i a13,x,y,z])] W fun e W'=>e=.returned (.bool false)∧Below W.heap.size W W':=fun W=>by
         have:=from_c W a4 a13 (endL [.i a13,x,y,z])
         rw [hfr] at this
         exact this
        go_wp2_with fail
        refine wp_region_held_drew (S:=fun w'=>Below w.heap.size w w'∧Below W0.heap.size W0 w'∧w'.cell? ⟨w.heap.size,2,none⟩=some (.int .i64 a2)∧w'.cell? ⟨w.heap.size,4,none⟩=some (.int .i64 a4)∧w'.cell? ⟨w.heap.size,5,none⟩=some (.int .i64 a5)∧w'.cell? ⟨w.heap.size,13,none⟩=some (.int .i64 a13)∧w'.cell? ⟨w.heap.size,14,none⟩=some u∧w'.cell? ⟨w.heap.size,15,none⟩=some v∧w'.cell? ⟨w.heap.size,16,none⟩=some t) (by kernel_rfl) (KP _ (below_drew HBa.out) (below_drew HWa.out)) (fun hHeld=>?_)
        refine tkW 0 67 (v:=?_) rfl hHeld (by kernel_rfl) (fun _ _ _ _ h=>h) ?_ ?_
        case refine_2=>(intro w' hS; (try dsimp only at hS); go_simp; try with_reducible rfl)
        try simp only [Act.put,List.setIfInBounds_toArray,List.set_cons_zero,List.set_cons_succ]
        refine tkW 1 68 (v:=?_) rfl hHeld (by kernel_rfl) (fun _ _ _ _ h=>h) ?_ ?_
        case refine_2=>(intro w' hS; (try dsimp only at hS); go_simp; try with_reducible rfl)
        try simp only [Act.put,List.setIfInBounds_toArray,List.set_cons_zero,List.set_cons_succ]
        refine wpAnyH_ready (rs:= [2]) (by kernel_rfl) (by simp) ?_
        refine AllReadyH.cons rfl (fun K hK=>?_) AllReadyH.nil
        rw [if_pos (by rfl)]
        go_simp
        refine (HL _ hHeld.1).mono ?_
        rintro e wz1 ⟨rfl,bz1⟩
        try dsimp only at hHeld
        have G1:Below w.heap.size w wz1:=Below.trans hHeld.1 (Below.mono bz1 (Below.size hHeld.1))
        have F1:Below W0.heap.size W0 wz1:=Below.trans hHeld.2.1 (Below.mono bz1 (Below.size hHeld.2.1))
        clear bz1 hHeld
        refine hK.out _ _ (KP _ G1 F1) (fun hHeld=>?_)
        clear hK K
        try simp only [Act.put,List.setIfInBounds_toArray,List.set_cons_zero,List.set_cons_succ]
        refine tkW 3 70 (v:=?_) rfl hHeld (by kernel_rfl) (fun _ _ _ _ h=>h) ?_ ?_
        case refine_2=>(intro w' hS; (try dsimp only at hS); go_simp; try with_reducible rfl)
        try simp only [Act.put,List.setIfInBounds_toArray,List.set_cons_zero,List.set_cons_succ]
        refine tkW 4 71 (v:=?_) rfl hHeld (by kernel_rfl) (fun _ _ _ _ h=>h) ?_ ?_
        case refine_2=>(intro w' hS; (try dsimp only at hS); go_simp; try with_reducible rfl)
        try simp only [Act.put,List.setIfInBounds_toArray,List.set_cons_zero,List.set_cons_succ]
        refine tkW 5 72 (v:=?_) rfl hHeld (by kernel_rfl) (fun _ _ _ _ h=>h) ?_ ?_
        case refine_2=>(intro w' hS; (try dsimp only at hS); go_simp; try with_reducible rfl)
        try simp only [Act.put,List.setIfInBounds_toArray,List.set_cons_zero,List.set_cons_succ]
        refine tkW 6 73 (v:=?_) rfl hHeld (by kernel_rfl) (fun _ _ _ _ h=>h) ?_ ?_
        case refine_2=>(intro w' hS; (try dsimp only at hS); go_simp; try with_reducible rfl)
        try simp only [Act.put,List.setIfInBounds_toArray,List.set_cons_zero,List.set_cons_succ]
        refine tkW 7 74 (v:=?_) rfl hHeld (by kernel_rfl) (fun _ _ _ _ h=>h) ?_ ?_
        case refine_2=>(intro w' hS; (try dsimp only at hS); go_simp; try with_reducible rfl)
        try simp only [Act.put,List.setIfInBounds_toArray,List.set_cons_zero,List.set_cons_succ]
        refine tkW 8 75 (v:=?_) rfl hHeld (by kernel_rfl) (fun _ _ _ _ h=>h) ?_ ?_
        case refine_2=>(intro w' hS; (try dsimp only at hS); go_simp; try with_reducible rfl)
        try simp only [Act.put,List.setIfInBounds_toArray,List.set_cons_zero,List.set_cons_succ]
        refine tkW 9 76 (v:=?_) rfl hHeld (by kernel_rfl) (fun _ _ _ _ h=>h) ?_ ?_
        case refine_2=>(intro w' hS; (try dsimp only at hS); go_simp; try with_reducible rfl)
        try simp only [Act.put,List.setIfInBounds_toArray,List.set_cons_zero,List.set_cons_succ]
        refine tkW 10 77 (v:=?_) rfl hHeld (by kernel_rfl) (fun _ _ _ _ h=>h) ?_ ?_
        case refine_2=>(intro w' hS; (try dsimp only at hS); go_simp; try with_reducible rfl)
        try simp only [Act.put,List.setIfInBounds_toArray,List.set_cons_zero,List.set_cons_succ]
        refine wpAnyH_ready (rs:= [11]) (by kernel_rfl) (by simp) ?_
        refine AllReadyH.cons rfl (fun K hK=>?_) AllReadyH.nil
        rw [if_pos (by rfl)]
        go_simp
        refine (HE _ hHeld.1).mono ?_
        rintro e wz2 ⟨rfl,bz2⟩
        try dsimp only at hHeld
        have G2:Below w.heap.size w wz2:=Below.trans hHeld.1 (Below.mono bz2 (Below.size hHeld.1))
        have F2:Below W0.heap.size W0 wz2:=Below.trans hHeld.2.1 (Below.mono bz2 (Below.size hHeld.2.1))
        clear bz2 hHeld
        refine hK.out _ _ (KP _ G2 F2) (fun hHeld=>?_)
        clear hK K
        try simp only [Act.put,List.setIfInBounds_toArray,List.set_cons_zero,List.set_cons_succ]
        refine wpAnyH_ready (rs:= [12]) (by kernel_rfl) (by simp) ?_
        refine AllReadyH.cons rfl (fun K hK=>?_) AllReadyH.nil
        rw [if_pos (by rfl)]
        go_simp
        refine (HF _).mono ?_
        rintro e wz3 ⟨rfl,bz3⟩
        try dsimp only at hHeld
        have G3:Below w.heap.size w wz3:=Below.trans hHeld.1 (Below.mono bz3 (Below.size hHeld.1))
        have F3:Below W0.heap.size W0 wz3:=Below.trans hHeld.2.1 (Below.mono bz3 (Below.size hHeld.2.1))
        clear bz3 hHeld
        refine hK.out _ _ (KP _ G3 F3) (fun hHeld=>?_)
        clear hK K
        try simp only [Act.put,List.setIfInBounds_toArray,List.set_cons_zero,List.set_cons_succ]
        refine tkW 13 80 (v:=?_) rfl hHeld (by kernel_rfl) (fun _ _ _ _ h=>h) ?_ ?_
        case refine_2=>(intro w' hS; (try dsimp only at hS); go_simp; try with_reducible rfl)
        try simp only [Act.put,List.setIfInBounds_toArray,List.set_cons_zero,List.set_cons_succ]
        refine tkW 14 81 (v:=?_) rfl hHeld (by kernel_rfl) (fun _ _ _ _ h=>h) ?_ ?_
        case refine_2=>(intro w' hS; (try dsimp only at hS); go_simp; try with_reducible rfl)
        try simp only [Act.put,List.setIfInBounds_toArray,List.set_cons_zero,List.set_cons_succ]
        refine tkU 15 82 rfl hHeld (by kernel_rfl) (fun _ _ _ _ h=>h) ?_
        try simp only [Act.put,List.setIfInBounds_toArray,List.set_cons_zero,List.set_cons_succ]
        refine tkU 16 83 rfl hHeld (by kernel_rfl) (fun _ _ _ _ h=>h) ?_
        try simp only [Act.put,List.setIfInBounds_toArray,List.set_cons_zero,List.set_cons_succ]
        refine tkU 17 84 rfl hHeld (by kernel_rfl) (fun _ _ _ _ h=>h) ?_
        try simp only [Act.put,List.setIfInBounds_toArray,List.set_cons_zero,List.set_cons_succ]
        refine tkU 18 85 rfl hHeld (by kernel_rfl) (fun _ _ _ _ h=>h) ?_
        try simp only [Act.put,List.setIfInBounds_toArray,List.set_cons_zero,List.set_cons_succ]
        refine tkU 19 86 rfl hHeld (by kernel_rfl) (fun _ _ _ _ h=>h) ?_
        try simp only [Act.put,List.setIfInBounds_toArray,List.set_cons_zero,List.set_cons_succ]
        refine tkW 20 87 (v:=?_) rfl hHeld (by kernel_rfl) (fun _ _ _ _ h=>h) ?_ ?_
        case refine_2=>(intro w' hS; (try dsimp only at hS); go_simp; try with_reducible rfl)
        try simp only [Act.put,List.setIfInBounds_toArray,List.set_cons_zero,List.set_cons_succ]
        refine tkW 21 2 (v:=?_) rfl hHeld (by kernel_rfl) (fun _ _ _ _ h=>h) ?_ ?_
        case refine_2=>(intro w' hS; (try dsimp only at hS); go_simp; try with_reducible rfl)
        try simp only [Act.put,List.setIfInBounds_toArray,List.set_cons_zero,List.set_cons_succ]
        refine wpAnyH_done (by kernel_rfl) ?_ _
        go_wp2
        go_ret
        exact ⟨by rw [FIT4.out,h76,hlo,hfr]; rfl,G3⟩
       | true =>
        have HF:∀ W,Calls Tryz.prog 85 #[.int .i64 a4,.int .i64 a13,.int .i64 (endL [.i a13,x,y,z])] W fun e W'=>e=.returned (.bool true)∧Below W.heap.size W W':=fun W=>by
         have:=from_c W a4 a13 (endL [.i a13,x,y,z])
         rw [hfr] at this
         exact this
        go_wp2_with fail
        refine wp_region_held_drew (S:=fun w'=>Below w.heap.size w w'∧Below W0.heap.size W0 w'∧w'.cell? ⟨w.heap.size,2,none⟩=some (.int .i64 a2)∧w'.cell? ⟨w.heap.size,4,none⟩=some (.int .i64 a4)∧w'.cell? ⟨w.heap.size,5,none⟩=some (.int .i64 a5)∧w'.cell? ⟨w.heap.size,13,none⟩=some (.int .i64 a13)∧w'.cell? ⟨w.heap.size,14,none⟩=some u∧w'.cell? ⟨w.heap.size,15,none⟩=some v∧w'.cell? ⟨w.heap.size,16,none⟩=some t) (by kernel_rfl) (KP _ (below_drew HBa.out) (below_drew HWa.out)) (fun hHeld=>?_)
        refine tkW 0 67 (v:=?_) rfl hHeld (by kernel_rfl) (fun _ _ _ _ h=>h) ?_ ?_
        case refine_2=>(intro w' hS; (try dsimp only at hS); go_simp; try with_reducible rfl)
        try simp only [Act.put,List.setIfInBounds_toArray,List.set_cons_zero,List.set_cons_succ]
        refine tkW 1 68 (v:=?_) rfl hHeld (by kernel_rfl) (fun _ _ _ _ h=>h) ?_ ?_
        case refine_2=>(intro w' hS; (try dsimp only at hS); go_simp; try with_reducible rfl)
        try simp only [Act.put,List.setIfInBounds_toArray,List.set_cons_zero,List.set_cons_succ]
        refine wpAnyH_ready (rs:= [2]) (by kernel_rfl) (by simp) ?_
        refine AllReadyH.cons rfl (fun K hK=>?_) AllReadyH.nil
        rw [if_pos (by rfl)]
        go_simp
        refine (HL _ hHeld.1).mono ?_
        rintro e wz1 ⟨rfl,bz1⟩
        try dsimp only at hHeld
        have G1:Below w.heap.size w wz1:=Below.trans hHeld.1 (Below.mono bz1 (Below.size hHeld.1))
        have F1:Below W0.heap.size W0 wz1:=Below.trans hHeld.2.1 (Below.mono bz1 (Below.size hHeld.2.1))
        clear bz1 hHeld
        refine hK.out _ _ (KP _ G1 F1) (fun hHeld=>?_)
        clear hK K
        try simp only [Act.put,List.setIfInBounds_toArray,List.set_cons_zero,List.set_cons_succ]
        refine tkW 3 70 (v:=?_) rfl hHeld (by kernel_rfl) (fun _ _ _ _ h=>h) ?_ ?_
        case refine_2=>(intro w' hS; (try dsimp only at hS); go_simp; try with_reducible rfl)
        try simp only [Act.put,List.setIfInBounds_toArray,List.set_cons_zero,List.set_cons_succ]
        refine tkW 4 71 (v:=?_) rfl hHeld (by kernel_rfl) (fun _ _ _ _ h=>h) ?_ ?_
        case refine_2=>(intro w' hS; (try dsimp only at hS); go_simp; try with_reducible rfl)
        try simp only [Act.put,List.setIfInBounds_toArray,List.set_cons_zero,List.set_cons_succ]
        refine tkW 5 72 (v:=?_) rfl hHeld (by kernel_rfl) (fun _ _ _ _ h=>h) ?_ ?_
        case refine_2=>(intro w' hS; (try dsimp only at hS); go_simp; try with_reducible rfl)
        try simp only [Act.put,List.setIfInBounds_toArray,List.set_cons_zero,List.set_cons_succ]
        refine tkW 6 73 (v:=?_) rfl hHeld (by kernel_rfl) (fun _ _ _ _ h=>h) ?_ ?_
        case refine_2=>(intro w' hS; (try dsimp only at hS); go_simp; try with_reducible rfl)
        try simp only [Act.put,List.setIfInBounds_toArray,List.set_cons_zero,List.set_cons_succ]
        refine tkW 7 74 (v:=?_) rfl hHeld (by kernel_rfl) (fun _ _ _ _ h=>h) ?_ ?_
        case refine_2=>(intro w' hS; (try dsimp only at hS); go_simp; try with_reducible rfl)
        try simp only [Act.put,List.setIfInBounds_toArray,List.set_cons_zero,List.set_cons_succ]
        refine tkW 8 75 (v:=?_) rfl hHeld (by kernel_rfl) (fun _ _ _ _ h=>h) ?_ ?_
        case refine_2=>(intro w' hS; (try dsimp only at hS); go_simp; try with_reducible rfl)
        try simp only [Act.put,List.setIfInBounds_toArray,List.set_cons_zero,List.set_cons_succ]
        refine tkW 9 76 (v:=?_) rfl hHeld (by kernel_rfl) (fun _ _ _ _ h=>h) ?_ ?_
        case refine_2=>(intro w' hS; (try dsimp only at hS); go_simp; try with_reducible rfl)
        try simp only [Act.put,List.setIfInBounds_toArray,List.set_cons_zero,List.set_cons_succ]
        refine tkW 10 77 (v:=?_) rfl hHeld (by kernel_rfl) (fun _ _ _ _ h=>h) ?_ ?_
        case refine_2=>(intro w' hS; (try dsimp only at hS); go_simp; try with_reducible rfl)
        try simp only [Act.put,List.setIfInBounds_toArray,List.set_cons_zero,List.set_cons_succ]
        refine wpAnyH_ready (rs:= [11]) (by kernel_rfl) (by simp) ?_
        refine AllReadyH.cons rfl (fun K hK=>?_) AllReadyH.nil
        rw [if_pos (by rfl)]
        go_simp
        refine (HE _ hHeld.1).mono ?_
        rintro e wz2 ⟨rfl,bz2⟩
        try dsimp only at hHeld
        have G2:Below w.heap.size w wz2:=Below.trans hHeld.1 (Below.mono bz2 (Below.size hHeld.1))
        have F2:Below W0.heap.size W0 wz2:=Below.trans hHeld.2.1 (Below.mono bz2 (Below.size hHeld.2.1))
        clear bz2 hHeld
        refine hK.out _ _ (KP _ G2 F2) (fun hHeld=>?_)
        clear hK K
        try simp only [Act.put,List.setIfInBounds_toArray,List.set_cons_zero,List.set_cons_succ]
        refine wpAnyH_ready (rs:= [12]) (by kernel_rfl) (by simp) ?_
        refine AllReadyH.cons rfl (fun K hK=>?_) AllReadyH.nil
        rw [if_pos (by rfl)]
        go_simp
        refine (HF _).mono ?_
        rintro e wz3 ⟨rfl,bz3⟩
        try dsimp only at hHeld
        have G3:Below w.heap.size w wz3:=Below.trans hHeld.1 (Below.mono bz3 (Below.size hHeld.1))
        have F3:Below W0.heap.size W0 wz3:=Below.trans hHeld.2.1 (Below.mono bz3 (Below.size hHeld.2.1))
        clear bz3 hHeld
        refine hK.out _ _ (KP _ G3 F3) (fun hHeld=>?_)
        clear hK K
        try simp only [Act.put,List.setIfInBounds_toArray,List.set_cons_zero,List.set_cons_succ]
        refine tkW 13 80 (v:=?_) rfl hHeld (by kernel_rfl) (fun _ _ _ _ h=>h) ?_ ?_
        case refine_2=>(intro w' hS; (try dsimp only at hS); go_simp; try with_reducible rfl)
        try simp only [Act.put,List.setIfInBounds_toArray,List.set_cons_zero,List.set_cons_succ]
        refine tkW 14 81 (v:=?_) rfl hHeld (by kernel_rfl) (fun _ _ _ _ h=>h) ?_ ?_
        case refine_2=>(intro w' hS; (try dsimp only at hS); go_simp; try with_reducible rfl)
        try simp only [Act.put,List.setIfInBounds_toArray,List.set_cons_zero,List.set_cons_succ]
        refine tkW 15 82 (v:=?_) rfl hHeld (by kernel_rfl) (fun _ _ _ _ h=>h) ?_ ?_
        case refine_2=>(intro w' hS; (try dsimp only at hS); go_simp; try with_reducible rfl)
        try simp only [Act.put,List.setIfInBounds_toArray,List.set_cons_zero,List.set_cons_succ]
        refine tkW 16 83 (v:=?_) rfl hHeld (by kernel_rfl) (fun _ _ _ _ h=>h) ?_ ?_
        case refine_2=>(intro w' hS; (try dsimp only at hS); go_simp; try with_reducible rfl)
        try simp only [Act.put,List.setIfInBounds_toArray,List.set_cons_zero,List.set_cons_succ]
        refine tkW 17 84 (v:=?_) rfl hHeld (by kernel_rfl) (fun _ _ _ _ h=>h) ?_ ?_
        case refine_2=>(intro w' hS; (try dsimp only at hS); go_simp; try with_reducible rfl)
        try simp only [Act.put,List.setIfInBounds_toArray,List.set_cons_zero,List.set_cons_succ]
        refine tkW 18 85 (v:=?_) rfl hHeld (by kernel_rfl) (fun _ _ _ _ h=>h) ?_ ?_
        case refine_2=>(intro w' hS; (try dsimp only at hS); go_simp; try with_reducible rfl)
        try simp only [Act.put,List.setIfInBounds_toArray,List.set_cons_zero,List.set_cons_succ]
        refine tkW 19 86 (v:=?_) rfl hHeld (by kernel_rfl) (fun _ _ _ _ h=>h) ?_ ?_
        case refine_2=>(intro w' hS; (try dsimp only at hS); go_simp; try with_reducible rfl)
        try simp only [Act.put,List.setIfInBounds_toArray,List.set_cons_zero,List.set_cons_succ]
        refine tkW 20 87 (v:=?_) rfl hHeld (by kernel_rfl) (fun _ _ _ _ h=>h) ?_ ?_
        case refine_2=>(intro w' hS; (try dsimp only at hS); go_simp; try with_reducible rfl)
        try simp only [Act.put,List.setIfInBounds_toArray,List.set_cons_zero,List.set_cons_succ]
        refine tkW 21 2 (v:=?_) rfl hHeld (by kernel_rfl) (fun _ _ _ _ h=>h) ?_ ?_
        case refine_2=>(intro w' hS; (try dsimp only at hS); go_simp; try with_reducible rfl)
        try simp only [Act.put,List.setIfInBounds_toArray,List.set_cons_zero,List.set_cons_succ]
        refine wpAnyH_done (by kernel_rfl) ?_ _
        go_wp2
        go_ret
        exact ⟨by rw [FIT4.out,h76,hlo,hfr]; rfl,G3⟩
   | false =>
    go_wp2_with fail
    refine (HASC _ 120).mono ?_
    rintro e w4 ⟨rfl,b4⟩
    have HB4:Hid (Below w.heap.size w w4):=HB3.out.trans (b4.mono HB3.out.size)
    have HW4:Hid (Below W0.heap.size W0 w4):=HW3.out.trans (b4.mono HW3.out.size)
    have hc4:=(bcell HW4.out).1
    clear b4 hc3
    rw [hx]
    by_cases hz:a10=0∧a11=0∧a12=0
    ·obtain ⟨rfl,rfl,rfl⟩:=hz
     have FIT4:Hid (fitsI [.i a0,.i a1,.i a2,.i a3,.i a4,.i a5,.i a6,.i a7,.i a8,.i a9,.i 0,.i 0,.i 0,.i a13,x,y,z]=(bif hasB l 76 then logOk [.i a13,x,y,z]&&(inB a4 a13 (endL [.i a13,x,y,z])&&leI a5 a2) else sameLg [.i a13,x,y,z] [.i 0,.l [],.l [],.l []])):=by rw [FIT3.out,hx,cond_false,show eqRow [si,si,si] [.i 0,.i 0,.i 0] [.i 0,.i 0,.i 0]=true from rfl,Bool.true_and]; exact rfl
     go_wp2_with fail
     refine (HASC _ 76).mono ?_
     rintro e wa ⟨rfl,ba⟩
     have HBa:Hid (Below w.heap.size w wa):=HB4.out.trans (ba.mono HB4.out.size)
     have HWa:Hid (Below W0.heap.size W0 wa):=HW4.out.trans (ba.mono HW4.out.size)
     have hca:=(bcell HWa.out).1
     clear ba
     cases h76:hasB l 76 with
     | false =>
      go_wp2_with fail
      refine (logZ_c (HH.out _ HBa.out)).mono ?_
      rintro e wb ⟨rfl,bb⟩
      go_wp2_with fail
      go_ret
      exact ⟨by rw [FIT4.out,h76]; rfl,HBa.out.trans (bb.mono HBa.out.size)⟩
     | true =>
      have KP:∀ w',Below w.heap.size w w'→Below W0.heap.size W0 w'→Below w.heap.size w w'∧Below W0.heap.size W0 w'∧w'.cell? ⟨w.heap.size,2,none⟩=some (.int .i64 a2)∧w'.cell? ⟨w.heap.size,4,none⟩=some (.int .i64 a4)∧w'.cell? ⟨w.heap.size,5,none⟩=some (.int .i64 a5)∧w'.cell? ⟨w.heap.size,13,none⟩=some (.int .i64 a13)∧w'.cell? ⟨w.heap.size,14,none⟩=some u∧w'.cell? ⟨w.heap.size,15,none⟩=some v∧w'.cell? ⟨w.heap.size,16,none⟩=some t:=fun w' h1 h2=>by
       have hc:=(bcell h2).1
       refine ⟨h1,h2,?_,?_,?_,?_,?_,?_,?_⟩ <;> (rw [hc _ _ hsz,hC0]; rfl)
      have HE:∀ W,Below w.heap.size w W→Calls Tryz.prog 45 #[(Value.agg #[.int .i64 a13,u,v,t])] W fun e W'=>e=.returned (.int .i64 (endL [.i a13,x,y,z]))∧Below W.heap.size W W':=fun W hb=>end_c (HH.out W hb)
      cases hlo:logOk [.i a13,x,y,z] with
      | false =>
       have HL:∀ W,Below w.heap.size w W→Calls Tryz.prog 131 #[(Value.agg #[.int .i64 a13,u,v,t])] W fun e W'=>e=.returned (.bool false)∧Below W.heap.size W W':=fun W hb=>by
        have:=logOk_c (HH.out W hb)
        rw [hlo] at this
        exact this
       clear hca
       go_wp2_with fail
       refine wp_region_held_drew (S:=fun w'=>Below w.heap.size w w'∧Below W0.heap.size W0 w'∧w'.cell? ⟨w.heap.size,2,none⟩=some (.int .i64 a2)∧w'.cell? ⟨w.heap.size,4,none⟩=some (.int .i64 a4)∧w'.cell? ⟨w.heap.size,5,none⟩=some (.int .i64 a5)∧w'.cell? ⟨w.heap.size,13,none⟩=some (.int .i64 a13)∧w'.cell? ⟨w.heap.size,14,none⟩=some u∧w'.cell? ⟨w.heap.size,15,none⟩=some v∧w'.cell? ⟨w.heap.size,16,none⟩=some t) (by kernel_rfl) (KP _ (below_drew HBa.out) (below_drew HWa.out)) (fun hHeld=>?_)
       refine tkW 0 67 (v:=?_) rfl hHeld (by kernel_rfl) (fun _ _ _ _ h=>h) ?_ ?_
       case refine_2=>(intro w' hS; (try dsimp only at hS); go_simp; try with_reducible rfl)
       try simp only [Act.put,List.setIfInBounds_toArray,List.set_cons_zero,List.set_cons_succ]
       refine tkW 1 68 (v:=?_) rfl hHeld (by kernel_rfl) (fun _ _ _ _ h=>h) ?_ ?_
       case refine_2=>(intro w' hS; (try dsimp only at hS); go_simp; try with_reducible rfl)
       try simp only [Act.put,List.setIfInBounds_toArray,List.set_cons_zero,List.set_cons_succ]
       refine wpAnyH_ready (rs:= [2]) (by kernel_rfl) (by simp) ?_
       refine AllReadyH.cons rfl (fun K hK=>?_) AllReadyH.nil
       rw [if_pos (by rfl)]
       go_simp
       refine (HL _ hHeld.1).mono ?_
       rintro e wz1 ⟨rfl,bz1⟩
       try dsimp only at hHeld
       have G1:Below w.heap.size w wz1:=Below.trans hHeld.1 (Below.mono bz1 (Below.size hHeld.1))
       have F1:Below W0.heap.size W0 wz1:=Below.trans hHeld.2.1 (Below.mono bz1 (Below.size hHeld.2.1))
       clear bz1 hHeld
       refine hK.out _ _ (KP _ G1 F1) (fun hHeld=>?_)
       clear hK K
       try simp only [Act.put,List.setIfInBounds_toArray,List.set_cons_zero,List.set_cons_succ]
       refine tkW 3 70 (v:=?_) rfl hHeld (by kernel_rfl) (fun _ _ _ _ h=>h) ?_ ?_
       case refine_2=>(intro w' hS; (try dsimp only at hS); go_simp; try with_reducible rfl)
       try simp only [Act.put,List.setIfInBounds_toArray,List.set_cons_zero,List.set_cons_succ]
       refine tkU 4 71 rfl hHeld (by kernel_rfl) (fun _ _ _ _ h=>h) ?_
       try simp only [Act.put,List.setIfInBounds_toArray,List.set_cons_zero,List.set_cons_succ]
       refine tkU 5 72 rfl hHeld (by kernel_rfl) (fun _ _ _ _ h=>h) ?_
       try simp only [Act.put,List.setIfInBounds_toArray,List.set_cons_zero,List.set_cons_succ]
       refine tkU 6 73 rfl hHeld (by kernel_rfl) (fun _ _ _ _ h=>h) ?_
       try simp only [Act.put,List.setIfInBounds_toArray,List.set_cons_zero,List.set_cons_succ]
       refine tkU 7 74 rfl hHeld (by kernel_rfl) (fun _ _ _ _ h=>h) ?_
       try simp only [Act.put,List.setIfInBounds_toArray,List.set_cons_zero,List.set_cons_succ]
       refine tkU 8 75 rfl hHeld (by kernel_rfl) (fun _ _ _ _ h=>h) ?_
       try simp only [Act.put,List.setIfInBounds_toArray,List.set_cons_zero,List.set_cons_succ]
       refine tkU 9 76 rfl hHeld (by kernel_rfl) (fun _ _ _ _ h=>h) ?_
       try simp only [Act.put,List.setIfInBounds_toArray,List.set_cons_zero,List.set_cons_succ]
       refine tkU 10 77 rfl hHeld (by kernel_rfl) (fun _ _ _ _ h=>h) ?_
       try simp only [Act.put,List.setIfInBounds_toArray,List.set_cons_zero,List.set_cons_succ]
       refine tkU 11 78 rfl hHeld (by kernel_rfl) (fun _ _ _ _ h=>h) ?_
       try simp only [Act.put,List.setIfInBounds_toArray,List.set_cons_zero,List.set_cons_succ]
       refine tkU 12 79 rfl hHeld (by kernel_rfl) (fun _ _ _ _ h=>h) ?_
       try simp only [Act.put,List.setIfInBounds_toArray,List.set_cons_zero,List.set_cons_succ]
       refine tkW 13 80 (v:=?_) rfl hHeld (by kernel_rfl) (fun _ _ _ _ h=>h) ?_ ?_
       case refine_2=>(intro w' hS; (try dsimp only at hS); go_simp; try with_reducible rfl)
       try simp only [Act.put,List.setIfInBounds_toArray,List.set_cons_zero,List.set_cons_succ]
       refine tkW 14 81 (v:=?_) rfl hHeld (by kernel_rfl) (fun _ _ _ _ h=>h) ?_ ?_
       case refine_2=>(intro w' hS; (try dsimp only at hS); go_simp; try with_reducible rfl)
       try simp only [Act.put,List.setIfInBounds_toArray,List.set_cons_zero,List.set_cons_succ]
       refine tkU 15 82 rfl hHeld (by kernel_rfl) (fun _ _ _ _ h=>h) ?_
       try simp only [Act.put,List.setIfInBounds_toArray,List.set_cons_zero,List.set_cons_succ]
       refine tkU 16 83 rfl hHeld (by kernel_rfl) (fun _ _ _ _ h=>h) ?_
       try simp only [Act.put,List.setIfInBounds_toArray,List.set_cons_zero,List.set_cons_succ]
       refine tkU 17 84 rfl hHeld (by kernel_rfl) (fun _ _ _ _ h=>h) ?_
       try simp only [Act.put,List.setIfInBounds_toArray,List.set_cons_zero,List.set_cons_succ]
       refine tkU 18 85 rfl hHeld (by kernel_rfl) (fun _ _ _ _ h=>h) ?_
       try simp only [Act.put,List.setIfInBounds_toArray,List.set_cons_zero,List.set_cons_succ]
       refine tkU 19 86 rfl hHeld (by kernel_rfl) (fun _ _ _ _ h=>h) ?_
       try simp only [Act.put,List.setIfInBounds_toArray,List.set_cons_zero,List.set_cons_succ]
       refine tkW 20 87 (v:=?_) rfl hHeld (by kernel_rfl) (fun _ _ _ _ h=>h) ?_ ?_
       case refine_2=>(intro w' hS; (try dsimp only at hS); go_simp; try with_reducible rfl)
       try simp only [Act.put,List.setIfInBounds_toArray,List.set_cons_zero,List.set_cons_succ]
       refine tkW 21 2 (v:=?_) rfl hHeld (by kernel_rfl) (fun _ _ _ _ h=>h) ?_ ?_
       case refine_2=>(intro w' hS; (try dsimp only at hS); go_simp; try with_reducible rfl)
       try simp only [Act.put,List.setIfInBounds_toArray,List.set_cons_zero,List.set_cons_succ]
       refine wpAnyH_done (by kernel_rfl) ?_ _
       go_wp2
       go_ret
       refine ⟨?_,G1⟩
       rw [FIT4.out,h76,hlo]
       first | rfl | (go_simp; done) | (simp [Act.eval]; done) | trace_state
      | true =>
       have HL:∀ W,Below w.heap.size w W→Calls Tryz.prog 131 #[(Value.agg #[.int .i64 a13,u,v,t])] W fun e W'=>e=.returned (.bool true)∧Below W.heap.size W W':=fun W hb=>by
        have:=logOk_c (HH.out W hb)
        rw [hlo] at this
        exact this
       clear hca
       cases hfr:inB a4 a13 (endL [.i a13,x,y,z]) with
       | false =>
        have HF:∀ W,Calls Tryz.prog 85 #[.int .i64 a4,.int .i64 a13,.int .i64 (endL [.i a13,x,y,z])] W fun e W'=>e=.returned (.bool false)∧Below W.heap.size W W':=fun W=>by
         have:=from_c W a4 a13 (endL [.i a13,x,y,z])
         rw [hfr] at this
         exact this
        go_wp2_with fail
        refine wp_region_held_drew (S:=fun w'=>Below w.heap.size w w'∧Below W0.heap.size W0 w'∧w'.cell? ⟨w.heap.size,2,none⟩=some (.int .i64 a2)∧w'.cell? ⟨w.heap.size,4,none⟩=some (.int .i64 a4)∧w'.cell? ⟨w.heap.size,5,none⟩=some (.int .i64 a5)∧w'.cell? ⟨w.heap.size,13,none⟩=some (.int .i64 a13)∧w'.cell? ⟨w.heap.size,14,none⟩=some u∧w'.cell? ⟨w.heap.size,15,none⟩=some v∧w'.cell? ⟨w.heap.size,16,none⟩=some t) (by kernel_rfl) (KP _ (below_drew HBa.out) (below_drew HWa.out)) (fun hHeld=>?_)
        refine tkW 0 67 (v:=?_) rfl hHeld (by kernel_rfl) (fun _ _ _ _ h=>h) ?_ ?_
        case refine_2=>(intro w' hS; (try dsimp only at hS); go_simp; try with_reducible rfl)
        try simp only [Act.put,List.setIfInBounds_toArray,List.set_cons_zero,List.set_cons_succ]
        refine tkW 1 68 (v:=?_) rfl hHeld (by kernel_rfl) (fun _ _ _ _ h=>h) ?_ ?_
        case refine_2=>(intro w' hS; (try dsimp only at hS); go_simp; try with_reducible rfl)
        try simp only [Act.put,List.setIfInBounds_toArray,List.set_cons_zero,List.set_cons_succ]
        refine wpAnyH_ready (rs:= [2]) (by kernel_rfl) (by simp) ?_
        refine AllReadyH.cons rfl (fun K hK=>?_) AllReadyH.nil
        rw [if_pos (by rfl)]
        go_simp
        refine (HL _ hHeld.1).mono ?_
        rintro e wz1 ⟨rfl,bz1⟩
        try dsimp only at hHeld
        have G1:Below w.heap.size w wz1:=Below.trans hHeld.1 (Below.mono bz1 (Below.size hHeld.1))
        have F1:Below W0.heap.size W0 wz1:=Below.trans hHeld.2.1 (Below.mono bz1 (Below.size hHeld.2.1))
        clear bz1 hHeld
        refine hK.out _ _ (KP _ G1 F1) (fun hHeld=>?_)
        clear hK K
        try simp only [Act.put,List.setIfInBounds_toArray,List.set_cons_zero,List.set_cons_succ]
        refine tkW 3 70 (v:=?_) rfl hHeld (by kernel_rfl) (fun _ _ _ _ h=>h) ?_ ?_
        case refine_2=>(intro w' hS; (try dsimp only at hS); go_simp; try with_reducible rfl)
        try simp only [Act.put,List.setIfInBounds_toArray,List.set_cons_zero,List.set_cons_succ]
        refine tkW 4 71 (v:=?_) rfl hHeld (by kernel_rfl) (fun _ _ _ _ h=>h) ?_ ?_
        case refine_2=>(intro w' hS; (try dsimp only at hS); go_simp; try with_reducible rfl)
        try simp only [Act.put,List.setIfInBounds_toArray,List.set_cons_zero,List.set_cons_succ]
        refine tkW 5 72 (v:=?_) rfl hHeld (by kernel_rfl) (fun _ _ _ _ h=>h) ?_ ?_
        case refine_2=>(intro w' hS; (try dsimp only at hS); go_simp; try with_reducible rfl)
        try simp only [Act.put,List.setIfInBounds_toArray,List.set_cons_zero,List.set_cons_succ]
        refine tkW 6 73 (v:=?_) rfl hHeld (by kernel_rfl) (fun _ _ _ _ h=>h) ?_ ?_
        case refine_2=>(intro w' hS; (try dsimp only at hS); go_simp; try with_reducible rfl)
        try simp only [Act.put,List.setIfInBounds_toArray,List.set_cons_zero,List.set_cons_succ]
        refine tkW 7 74 (v:=?_) rfl hHeld (by kernel_rfl) (fun _ _ _ _ h=>h) ?_ ?_
        case refine_2=>(intro w' hS; (try dsimp only at hS); go_simp; try with_reducible rfl)
        try simp only [Act.put,List.setIfInBounds_toArray,List.set_cons_zero,List.set_cons_succ]
        refine tkW 8 75 (v:=?_) rfl hHeld (by kernel_rfl) (fun _ _ _ _ h=>h) ?_ ?_
        case refine_2=>(intro w' hS; (try dsimp only at hS); go_simp; try with_reducible rfl)
        try simp only [Act.put,List.setIfInBounds_toArray,List.set_cons_zero,List.set_cons_succ]
        refine tkW 9 76 (v:=?_) rfl hHeld (by kernel_rfl) (fun _ _ _ _ h=>h) ?_ ?_
        case refine_2=>(intro w' hS; (try dsimp only at hS); go_simp; try with_reducible rfl)
        try simp only [Act.put,List.setIfInBounds_toArray,List.set_cons_zero,List.set_cons_succ]
        refine tkW 10 77 (v:=?_) rfl hHeld (by kernel_rfl) (fun _ _ _ _ h=>h) ?_ ?_
        case refine_2=>(intro w' hS; (try dsimp only at hS); go_simp; try with_reducible rfl)
        try simp only [Act.put,List.setIfInBounds_toArray,List.set_cons_zero,List.set_cons_succ]
        refine wpAnyH_ready (rs:= [11]) (by kernel_rfl) (by simp) ?_
        refine AllReadyH.cons rfl (fun K hK=>?_) AllReadyH.nil
        rw [if_pos (by rfl)]
        go_simp
        refine (HE _ hHeld.1).mono ?_
        rintro e wz2 ⟨rfl,bz2⟩
        try dsimp only at hHeld
        have G2:Below w.heap.size w wz2:=Below.trans hHeld.1 (Below.mono bz2 (Below.size hHeld.1))
        have F2:Below W0.heap.size W0 wz2:=Below.trans hHeld.2.1 (Below.mono bz2 (Below.size hHeld.2.1))
        clear bz2 hHeld
        refine hK.out _ _ (KP _ G2 F2) (fun hHeld=>?_)
        clear hK K
        try simp only [Act.put,List.setIfInBounds_toArray,List.set_cons_zero,List.set_cons_succ]
        refine wpAnyH_ready (rs:= [12]) (by kernel_rfl) (by simp) ?_
        refine AllReadyH.cons rfl (fun K hK=>?_) AllReadyH.nil
        rw [if_pos (by rfl)]
        go_simp
        refine (HF _).mono ?_
        rintro e wz3 ⟨rfl,bz3⟩
        try dsimp only at hHeld
        have G3:Below w.heap.size w wz3:=Below.trans hHeld.1 (Below.mono bz3 (Below.size hHeld.1))
        have F3:Below W0.heap.size W0 wz3:=Below.trans hHeld.2.1 (Below.mono bz3 (Below.size hHeld.2.1))
        clear bz3 hHeld
        refine hK.out _ _ (KP _ G3 F3) (fun hHeld=>?_)
        clear hK K
        try simp only [Act.put,List.setIfInBounds_toArray,List.set_cons_zero,List.set_cons_succ]
        refine tkW 13 80 (v:=?_) rfl hHeld (by kernel_rfl) (fun _ _ _ _ h=>h) ?_ ?_
        case refine_2=>(intro w' hS; (try dsimp only at hS); go_simp; try with_reducible rfl)
        try simp only [Act.put,List.setIfInBounds_toArray,List.set_cons_zero,List.set_cons_succ]
        refine tkW 14 81 (v:=?_) rfl hHeld (by kernel_rfl) (fun _ _ _ _ h=>h) ?_ ?_
        case refine_2=>(intro w' hS; (try dsimp only at hS); go_simp; try with_reducible rfl)
        try simp only [Act.put,List.setIfInBounds_toArray,List.set_cons_zero,List.set_cons_succ]
        refine tkU 15 82 rfl hHeld (by kernel_rfl) (fun _ _ _ _ h=>h) ?_
        try simp only [Act.put,List.setIfInBounds_toArray,List.set_cons_zero,List.set_cons_succ]
        refine tkU 16 83 rfl hHeld (by kernel_rfl) (fun _ _ _ _ h=>h) ?_
        try simp only [Act.put,List.setIfInBounds_toArray,List.set_cons_zero,List.set_cons_succ]
        refine tkU 17 84 rfl hHeld (by kernel_rfl) (fun _ _ _ _ h=>h) ?_
        try simp only [Act.put,List.setIfInBounds_toArray,List.set_cons_zero,List.set_cons_succ]
        refine tkU 18 85 rfl hHeld (by kernel_rfl) (fun _ _ _ _ h=>h) ?_
        try simp only [Act.put,List.setIfInBounds_toArray,List.set_cons_zero,List.set_cons_succ]
        refine tkU 19 86 rfl hHeld (by kernel_rfl) (fun _ _ _ _ h=>h) ?_
        try simp only [Act.put,List.setIfInBounds_toArray,List.set_cons_zero,List.set_cons_succ]
        refine tkW 20 87 (v:=?_) rfl hHeld (by kernel_rfl) (fun _ _ _ _ h=>h) ?_ ?_
        case refine_2=>(intro w' hS; (try dsimp only at hS); go_simp; try with_reducible rfl)
        try simp only [Act.put,List.setIfInBounds_toArray,List.set_cons_zero,List.set_cons_succ]
        refine tkW 21 2 (v:=?_) rfl hHeld (by kernel_rfl) (fun _ _ _ _ h=>h) ?_ ?_
        case refine_2=>(intro w' hS; (try dsimp only at hS); go_simp; try with_reducible rfl)
        try simp only [Act.put,List.setIfInBounds_toArray,List.set_cons_zero,List.set_cons_succ]
        refine wpAnyH_done (by kernel_rfl) ?_ _
        go_wp2
        go_ret
        exact ⟨by rw [FIT4.out,h76,hlo,hfr]; rfl,G3⟩
       | true =>
        have HF:∀ W,Calls Tryz.prog 85 #[.int .i64 a4,.int .i64 a13,.int .i64 (endL [.i a13,x,y,z])] W fun e W'=>e=.returned (.bool true)∧Below W.heap.size W W':=fun W=>by
         have:=from_c W a4 a13 (endL [.i a13,x,y,z])
         rw [hfr] at this
         exact this
        go_wp2_with fail
        refine wp_region_held_drew (S:=fun w'=>Below w.heap.size w w'∧Below W0.heap.size W0 w'∧w'.cell? ⟨w.heap.size,2,none⟩=some (.int .i64 a2)∧w'.cell? ⟨w.heap.size,4,none⟩=some (.int .i64 a4)∧w'.cell? ⟨w.heap.size,5,none⟩=some (.int .i64 a5)∧w'.cell? ⟨w.heap.size,13,none⟩=some (.int .i64 a13)∧w'.cell? ⟨w.heap.size,14,none⟩=some u∧w'.cell? ⟨w.heap.size,15,none⟩=some v∧w'.cell? ⟨w.heap.size,16,none⟩=some t) (by kernel_rfl) (KP _ (below_drew HBa.out) (below_drew HWa.out)) (fun hHeld=>?_)
        refine tkW 0 67 (v:=?_) rfl hHeld (by kernel_rfl) (fun _ _ _ _ h=>h) ?_ ?_
        case refine_2=>(intro w' hS; (try dsimp only at hS); go_simp; try with_reducible rfl)
        try simp only [Act.put,List.setIfInBounds_toArray,List.set_cons_zero,List.set_cons_succ]
        refine tkW 1 68 (v:=?_) rfl hHeld (by kernel_rfl) (fun _ _ _ _ h=>h) ?_ ?_
        case refine_2=>(intro w' hS; (try dsimp only at hS); go_simp; try with_reducible rfl)
        try simp only [Act.put,List.setIfInBounds_toArray,List.set_cons_zero,List.set_cons_succ]
        refine wpAnyH_ready (rs:= [2]) (by kernel_rfl) (by simp) ?_
        refine AllReadyH.cons rfl (fun K hK=>?_) AllReadyH.nil
        rw [if_pos (by rfl)]
        go_simp
        refine (HL _ hHeld.1).mono ?_
        rintro e wz1 ⟨rfl,bz1⟩
        try dsimp only at hHeld
        have G1:Below w.heap.size w wz1:=Below.trans hHeld.1 (Below.mono bz1 (Below.size hHeld.1))
        have F1:Below W0.heap.size W0 wz1:=Below.trans hHeld.2.1 (Below.mono bz1 (Below.size hHeld.2.1))
        clear bz1 hHeld
        refine hK.out _ _ (KP _ G1 F1) (fun hHeld=>?_)
        clear hK K
        try simp only [Act.put,List.setIfInBounds_toArray,List.set_cons_zero,List.set_cons_succ]
        refine tkW 3 70 (v:=?_) rfl hHeld (by kernel_rfl) (fun _ _ _ _ h=>h) ?_ ?_
        case refine_2=>(intro w' hS; (try dsimp only at hS); go_simp; try with_reducible rfl)
        try simp only [Act.put,List.setIfInBounds_toArray,List.set_cons_zero,List.set_cons_succ]
        refine tkW 4 71 (v:=?_) rfl hHeld (by kernel_rfl) (fun _ _ _ _ h=>h) ?_ ?_
        case refine_2=>(intro w' hS; (try dsimp only at hS); go_simp; try with_reducible rfl)
        try simp only [Act.put,List.setIfInBounds_toArray,List.set_cons_zero,List.set_cons_succ]
        refine tkW 5 72 (v:=?_) rfl hHeld (by kernel_rfl) (fun _ _ _ _ h=>h) ?_ ?_
        case refine_2=>(intro w' hS; (try dsimp only at hS); go_simp; try with_reducible rfl)
        try simp only [Act.put,List.setIfInBounds_toArray,List.set_cons_zero,List.set_cons_succ]
        refine tkW 6 73 (v:=?_) rfl hHeld (by kernel_rfl) (fun _ _ _ _ h=>h) ?_ ?_
        case refine_2=>(intro w' hS; (try dsimp only at hS); go_simp; try with_reducible rfl)
        try simp only [Act.put,List.setIfInBounds_toArray,List.set_cons_zero,List.set_cons_succ]
        refine tkW 7 74 (v:=?_) rfl hHeld (by kernel_rfl) (fun _ _ _ _ h=>h) ?_ ?_
        case refine_2=>(intro w' hS; (try dsimp only at hS); go_simp; try with_reducible rfl)
        try simp only [Act.put,List.setIfInBounds_toArray,List.set_cons_zero,List.set_cons_succ]
        refine tkW 8 75 (v:=?_) rfl hHeld (by kernel_rfl) (fun _ _ _ _ h=>h) ?_ ?_
        case refine_2=>(intro w' hS; (try dsimp only at hS); go_simp; try with_reducible rfl)
        try simp only [Act.put,List.setIfInBounds_toArray,List.set_cons_zero,List.set_cons_succ]
        refine tkW 9 76 (v:=?_) rfl hHeld (by kernel_rfl) (fun _ _ _ _ h=>h) ?_ ?_
        case refine_2=>(intro w' hS; (try dsimp only at hS); go_simp; try with_reducible rfl)
        try simp only [Act.put,List.setIfInBounds_toArray,List.set_cons_zero,List.set_cons_succ]
        refine tkW 10 77 (v:=?_) rfl hHeld (by kernel_rfl) (fun _ _ _ _ h=>h) ?_ ?_
        case refine_2=>(intro w' hS; (try dsimp only at hS); go_simp; try with_reducible rfl)
        try simp only [Act.put,List.setIfInBounds_toArray,List.set_cons_zero,List.set_cons_succ]
        refine wpAnyH_ready (rs:= [11]) (by kernel_rfl) (by simp) ?_
        refine AllReadyH.cons rfl (fun K hK=>?_) AllReadyH.nil
        rw [if_pos (by rfl)]
        go_simp
        refine (HE _ hHeld.1).mono ?_
        rintro e wz2 ⟨rfl,bz2⟩
        try dsimp only at hHeld
        have G2:Below w.heap.size w wz2:=Below.trans hHeld.1 (Below.mono bz2 (Below.size hHeld.1))
        have F2:Below W0.heap.size W0 wz2:=Below.trans hHeld.2.1 (Below.mono bz2 (Below.size hHeld.2.1))
        clear bz2 hHeld
        refine hK.out _ _ (KP _ G2 F2) (fun hHeld=>?_)
        clear hK K
        try simp only [Act.put,List.setIfInBounds_toArray,List.set_cons_zero,List.set_cons_succ]
        refine wpAnyH_ready (rs:= [12]) (by kernel_rfl) (by simp) ?_
        refine AllReadyH.cons rfl (fun K hK=>?_) AllReadyH.nil
        rw [if_pos (by rfl)]
        go_simp
        refine (HF _).mono ?_
        rintro e wz3 ⟨rfl,bz3⟩
        try dsimp only at hHeld
        have G3:Below w.heap.size w wz3:=Below.trans hHeld.1 (Below.mono bz3 (Below.size hHeld.1))
        have F3:Below W0.heap.size W0 wz3:=Below.trans hHeld.2.1 (Below.mono bz3 (Below.size hHeld.2.1))
        clear bz3 hHeld
        refine hK.out _ _ (KP _ G3 F3) (fun hHeld=>?_)
        clear hK K
        try simp only [Act.put,List.setIfInBounds_toArray,List.set_cons_zero,List.set_cons_succ]
        refine tkW 13 80 (v:=?_) rfl hHeld (by kernel_rfl) (fun _ _ _ _ h=>h) ?_ ?_
        case refine_2=>(intro w' hS; (try dsimp only at hS); go_simp; try with_reducible rfl)
        try simp only [Act.put,List.setIfInBounds_toArray,List.set_cons_zero,List.set_cons_succ]
        refine tkW 14 81 (v:=?_) rfl hHeld (by kernel_rfl) (fun _ _ _ _ h=>h) ?_ ?_
        case refine_2=>(intro w' hS; (try dsimp only at hS); go_simp; try with_reducible rfl)
        try simp only [Act.put,List.setIfInBounds_toArray,List.set_cons_zero,List.set_cons_succ]
        refine tkW 15 82 (v:=?_) rfl hHeld (by kernel_rfl) (fun _ _ _ _ h=>h) ?_ ?_
        case refine_2=>(intro w' hS; (try dsimp only at hS); go_simp; try with_reducible rfl)
        try simp only [Act.put,List.setIfInBounds_toArray,List.set_cons_zero,List.set_cons_succ]
        refine tkW 16 83 (v:=?_) rfl hHeld (by kernel_rfl) (fun _ _ _ _ h=>h) ?_ ?_
        case refine_2=>(intro w' hS; (try dsimp only at hS); go_simp; try with_reducible rfl)
        try simp only [Act.put,List.setIfInBounds_toArray,List.set_cons_zero,List.set_cons_succ]
        refine tkW 17 84 (v:=?_) rfl hHeld (by kernel_rfl) (fun _ _ _ _ h=>h) ?_ ?_
        case refine_2=>(intro w' hS; (try dsimp only at hS); go_simp; try with_reducible rfl)
        try simp only [Act.put,List.setIfInBounds_toArray,List.set_cons_zero,List.set_cons_succ]
        refine tkW 18 85 (v:=?_) rfl hHeld (by kernel_rfl) (fun _ _ _ _ h=>h) ?_ ?_
        case refine_2=>(intro w' hS; (try dsimp only at hS); go_simp; try with_reducible rfl)
        try simp only [Act.put,List.setIfInBounds_toArray,List.set_cons_zero,List.set_cons_succ]
        refine tkW 19 86 (v:=?_) rfl hHeld (by kernel_rfl) (fun _ _ _ _ h=>h) ?_ ?_
        case refine_2=>(intro w' hS; (try dsimp only at hS); go_simp; try with_reducible rfl)
        try simp only [Act.put,List.setIfInBounds_toArray,List.set_cons_zero,List.set_cons_succ]
        refine tkW 20 87 (v:=?_) rfl hHeld (by kernel_rfl) (fun _ _ _ _ h=>h) ?_ ?_
        case refine_2=>(intro w' hS; (try dsimp only at hS); go_simp; try with_reducible rfl)
        try simp only [Act.put,List.setIfInBounds_toArray,List.set_cons_zero,List.set_cons_succ]
        refine tkW 21 2 (v:=?_) rfl hHeld (by kernel_rfl) (fun _ _ _ _ h=>h) ?_ ?_
        case refine_2=>(intro w' hS; (try dsimp only at hS); go_simp; try with_reducible rfl)
        try simp only [Act.put,List.setIfInBounds_toArray,List.set_cons_zero,List.set_cons_succ]
        refine wpAnyH_done (by kernel_rfl) ?_ _
        go_wp2
        go_ret
        exact ⟨by rw [FIT4.out,h76,hlo,hfr]; rfl,G3⟩
    ·have FIT4:Hid (fitsI [.i a0,.i a1,.i a2,.i a3,.i a4,.i a5,.i a6,.i a7,.i a8,.i a9,.i a10,.i a11,.i a12,.i a13,x,y,z]=false):=by
      rw [FIT3.out,hx,cond_false,show eqRow [si,si,si] [.i a10,.i a11,.i a12] [.i 0,.i 0,.i 0]=false from ?_]
      ·rfl
      ·cases hq:eqRow [si,si,si] [.i a10,.i a11,.i a12] [.i 0,.i 0,.i 0] with
       | false=>rfl
       | true =>
        refine absurd ?_ hz
        simpa [eqRow,gd,D.int] using hq
     go_wp2_with fail
     all_goals first
      | (go_ret; exact ⟨by rw [FIT4.out]; rfl,HB4.out⟩)
      | (exfalso; simp_all; done)
theorem fitsI_ints (p:List D):fitsI [.i (gd p 0).int,.i (gd p 1).int,.i (gd p 2).int,.i (gd p 3).int,.i (gd p 4).int,.i (gd p 5).int,.i (gd p 6).int,.i (gd p 7).int,.i (gd p 8).int,.i (gd p 9).int,.i (gd p 10).int,.i (gd p 11).int,.i (gd p 12).int,.i (gd p 13).int,gd p 14,gd p 15,gd p 16]=fitsI p:=by kernel_rfl
def i_MsgFitsE:Ent:=(82,e1 (ag rIMsg) fun p=>(⟨rb,[.b (fitsI p)]⟩,true))
theorem i_MsgFits_ok:EntOk Tryz.prog i_MsgFitsE:=e1_ok fun p h=>by
 refine SoundFn.of rfl ⟨enters Tryz.func82 (by kernel_rfl) (by kernel_rfl),fun w prot vs hargs hfr=>?_⟩
 obtain ⟨v0,hv0,cs,rfl,hsz,hc⟩:=hargs.2 0 _ rfl
 have hsz:cs.size=17:=hsz
 have hvs:vs = #[.agg cs]:=args_at hargs [.agg cs] rfl fun j t u h1 h2=>by
  match j,h1 with
  | 0,h1=>rw [h2] at hv0; injection hv0 with e; rw [e]; rfl
 subst hvs
 have hi:∀ j,j<14→cs[j]?=some (.int .i64 (gd p j).int):=fun j hj=>by
  have hx:(rIMsg.map Ce.d)[j]?=some (.d si):=by
   have hjj:j=0∨j=1∨j=2∨j=3∨j=4∨j=5∨j=6∨j=7∨j=8∨j=9∨j=10∨j=11∨j=12∨j=13:=by omega
   rcases hjj with rfl | rfl | rfl | rfl | rfl | rfl | rfl | rfl | rfl | rfl | rfl | rfl | rfl | rfl <;> rfl
  obtain ⟨u,k1,k2⟩:=hc j _ hx
  have k2:VD Tryz.prog w prot si (gd p j) u:=k2
  rw [k1,vd_int k2]
 obtain ⟨u,hu1,hu2⟩:=hc 14 _ rfl
 obtain ⟨v,hv1,hv2⟩:=hc 15 _ rfl
 obtain ⟨t,ht1,ht2⟩:=hc 16 _ rfl
 have hcs:cs = #[.int .i64 (gd p 0).int,.int .i64 (gd p 1).int,.int .i64 (gd p 2).int,.int .i64 (gd p 3).int,.int .i64 (gd p 4).int,.int .i64 (gd p 5).int,.int .i64 (gd p 6).int,.int .i64 (gd p 7).int,.int .i64 (gd p 8).int,.int .i64 (gd p 9).int,.int .i64 (gd p 10).int,.int .i64 (gd p 11).int,.int .i64 (gd p 12).int,.int .i64 (gd p 13).int,u,v,t]:=by
  refine Array.ext (by rw [hsz]; rfl) fun i h1 h2=>?_
  have e:cs[i]?=(#[.int .i64 (gd p 0).int,.int .i64 (gd p 1).int,.int .i64 (gd p 2).int,.int .i64 (gd p 3).int,.int .i64 (gd p 4).int,.int .i64 (gd p 5).int,.int .i64 (gd p 6).int,.int .i64 (gd p 7).int,.int .i64 (gd p 8).int,.int .i64 (gd p 9).int,.int .i64 (gd p 10).int,.int .i64 (gd p 11).int,.int .i64 (gd p 12).int,.int .i64 (gd p 13).int,u,v,t]:Array Value)[i]?:=by
   have hii:i<14∨i=14∨i=15∨i=16:=by omega
   rcases hii with hj | rfl | rfl | rfl
   ·rw [hi i hj]
    have hjj:i=0∨i=1∨i=2∨i=3∨i=4∨i=5∨i=6∨i=7∨i=8∨i=9∨i=10∨i=11∨i=12∨i=13:=by omega
    rcases hjj with rfl | rfl | rfl | rfl | rfl | rfl | rfl | rfl | rfl | rfl | rfl | rfl | rfl | rfl <;> rfl
   ·exact hu1
   ·exact hv1
   ·exact ht1
  rw [Array.getElem?_eq_getElem h1,Array.getElem?_eq_getElem h2] at e
  injection e
 rw [hcs]
 have hL:LogV w (gd p 13).int (gd p 14) (gd p 15) (gd p 16) u v t:=⟨VD.toP (show VD Tryz.prog w prot _ (gd p 14) u from hu2) (Below.refl _ _),VD.toP (show VD Tryz.prog w prot _ (gd p 15) v from hv2) (Below.refl _ _),VD.toP (show VD Tryz.prog w prot _ (gd p 16) t from ht2) (Below.refl _ _)⟩
 refine (msgFits_c _ _ _ _ _ _ _ _ _ _ _ _ _ _ hL).mono ?_
 rintro e w' ⟨rfl,hb⟩
 rw [fitsI_ints]
 exact ⟨_,g0 0 prot,rfl,hb,VD.bool (.b (fitsI p)),fun _ _=>rfl,fun b hb'=>⟨hfr b (Nat.le_trans hb.size hb'),rfl⟩⟩
end Go.Proofs.YthbbbhpjkgpdcaaGreat
namespace Go.Proofs.YthbbbhpjkgpdcaaGreat
set_option maxRecDepth 4096
set_option maxHeartbeats 1000000
abbrev i_OnRequest_1_1T:FuncId→List T→Option (T × Bool):=find []
theorem i_OnRequest_1_1T_ok:CallOk Tryz.prog i_OnRequest_1_1T:=find_ok (fN)
abbrev i_OnRequest_1_1K:List Nat:= [0,1,2,3]
theorem i_OnRequest_1_1_ev (N:Nat) (p q:List D):evFn Tryz.prog i_OnRequest_1_1T N i_OnRequest_1_1K Tryz.f41 rb [⟨ag rIEntry,p⟩,⟨.one (.c (.cptr [si,si,si,si,si,si,si,si,si,si,si,si,si,si,.sl 148,.sl 69,.sl 78] 0)),q⟩]=some (bo,
 bif (gd p 0).int==(gd ((gd q 0).rows.getD 0 []) 7).int then ob ((gd p 1).int==(gd ((gd q 0).rows.getD 0 []) 8).int)
 else ob false):=by kernel_rfl
def rqF (e m:List D):Bool:=(gd e 0).int==(gd m 7).int&&(gd e 1).int==(gd m 8).int
def i_OnRequest_1_1E:Ent:=(41,e2 (ag rIEntry) (.one (.c (.cptr [si,si,si,si,si,si,si,si,si,si,si,si,si,si,.sl 148,.sl 69,.sl 78] 0))) fun p q=>(⟨rb,[.b (rqF p ((gd q 0).rows.getD 0 []))]⟩,true))
theorem i_OnRequest_1_1_ok:EntOk Tryz.prog i_OnRequest_1_1E:=e2_ok fun p q h=>evFn_sound (N:=0) (ks:=i_OnRequest_1_1K) (key:=bo) i_OnRequest_1_1T_ok (enters Tryz.func41) Tryz.func41 fun hw=>by
 rw [i_OnRequest_1_1_ev]
 unfold rqF
 cases (gd p 0).int==(gd ((gd q 0).rows.getD 0 []) 7).int <;> rfl
abbrev ixfRQT:FuncId→List T→Option (T × Bool):=find [i_OnRequest_1_1E]
theorem ixfRQT_ok:CallOk Tryz.prog ixfRQT:=find_ok (fC ⟨i_OnRequest_1_1_ok,fN⟩)
abbrev ixfRQK:List Nat:= [0,1,4,5,7,8,9,16]
noncomputable def ixfRQL0 (N:Nat) (p q:List D):List D→Out:=loopOf Tryz.prog ixfRQT N ixfRQK Tryz.f90 ri [⟨sd (.sl 78),p⟩,⟨.one (.c (.fn 41 [.cptr [si,si,si,si,si,si,si,si,si,si,si,si,si,si,.sl 148,.sl 69,.sl 78] 0])),q⟩] 0
theorem ixfRQR0 (N:Nat) (p q:List D) (x0 x1 x2 x3 x4:D):(ixfRQL0 N p q) [x0,x1,x2,x3,x4] =
 bif ltI x4.int x3.int then nd (inRange x4.int x0.rows.length) (bif rqF (sub (x0.rows.getD x4.int.toNat []) 0 5) ((gd (x1.rows.getD 0 []) 0).rows.getD 0 []) then some (1,[x4])
 else nx [x0,x1,x2,x3,.i (w64 (x4.int+1))])
 else ex 0 [x0,x1,x2,x3,x4]:=by kernel_rfl
theorem ixfRQ_ev (N:Nat) (p q:List D):evFn Tryz.prog ixfRQT N ixfRQK Tryz.f90 ri [⟨sd (.sl 78),p⟩,⟨.one (.c (.fn 41 [.cptr [si,si,si,si,si,si,si,si,si,si,si,si,si,si,.sl 148,.sl 69,.sl 78] 0])),q⟩]=some (bo,
 (let o0:=iter (ixfRQL0 N p q) N [gd p 0,gd q 0,.i 0,.i ((gd p 0).rows.length:Int),.i 0]
  nd o0.isSome (bif o0.code==1 then some (1,o0.pay)
  else nd (o0.code==2) (oi (-1))))):=by kernel_rfl
def ixfRQC (c:D) (r:List D):Bool:=rqF r ((gd (c.rows.getD 0 []) 0).rows.getD 0 [])
def ixfRQE:Ent:=(90,e2 (sd (.sl 78)) (.one (.c (.fn 41 [.cptr [si,si,si,si,si,si,si,si,si,si,si,si,si,si,.sl 148,.sl 69,.sl 78] 0]))) fun p q=>(⟨ri,[.i (ixF (fun k=>ixfRQC (gd q 0) (sub ((gd p 0).rows.getD k []) 0 5)) 0 (gd p 0).rows.length)]⟩,true))
theorem ixfRQ_ok:EntOk Tryz.prog ixfRQE:=e2_ok fun p q h=>evFn_sound (N:=(gd p 0).rows.length+1) (ks:=ixfRQK) (key:=bo) ixfRQT_ok (enters Tryz.func90) Tryz.func90 fun hw=>by
 rw [ixfRQ_ev]
 have hl:=wt_sl (hw ⟨sd (.sl 78),p⟩ (by simp))
 have e:=ix_loop (L:=ixfRQL0 ((gd p 0).rows.length+1) p q) (fun k => [gd p 0,gd q 0,.i 0,.i ((gd p 0).rows.length:Int),.i (k:Int)]) (gd p 0).rows.length (fun k=>ixfRQC (gd q 0) (sub ((gd p 0).rows.getD k []) 0 5)) [gd p 0,gd q 0,.i 0,.i ((gd p 0).rows.length:Int),.i ((gd p 0).rows.length:Int)] (fun k hk=>?_) ?_ (gd p 0).rows.length 0 ((gd p 0).rows.length+1) (by omega) (by omega)
 ·simp only [Int.natCast_zero] at e
  rw [e]
  have hno:=ixF_neg (fun k=>ixfRQC (gd q 0) (sub ((gd p 0).rows.getD k []) 0 5)) (gd p 0).rows.length 0
  cases hd:decide (ixF (fun k=>ixfRQC (gd q 0) (sub ((gd p 0).rows.getD k []) 0 5)) 0 (gd p 0).rows.length≥0)
  ·rw [hno hd]; rfl
  ·rfl
 ·show ixfRQL0 _ p q [_,_,_,_,.i (k:Int)]=_
  rw [ixfRQR0]
  simp only [int_i,c_lt hk,nd_ix hk,w64_succ hk hl,Int.toNat_natCast]
  unfold ixfRQC
  cases rqF (sub ((gd p 0).rows.getD k []) 0 5) ((gd ((gd q 0).rows.getD 0 []) 0).rows.getD 0 []) <;> rfl
 ·show ixfRQL0 _ p q [_,_,_,.i ((gd p 0).rows.length:Int),.i ((gd p 0).rows.length:Int)]=_
  rw [ixfRQR0]
  simp only [int_i,c_nlt]
abbrev cofRQT:FuncId→List T→Option (T × Bool):=find [ixfRQE,i_OnRequest_1_1E]
theorem cofRQT_ok:CallOk Tryz.prog cofRQT:=find_ok (fC ⟨ixfRQ_ok,fC ⟨i_OnRequest_1_1_ok,fN⟩⟩)
abbrev cofRQK:List Nat:= [0,1,4]
theorem cofRQ_ev (N:Nat) (p q:List D):evFn Tryz.prog cofRQT N cofRQK Tryz.f40 rb [⟨sd (.sl 78),p⟩,⟨.one (.c (.fn 41 [.cptr [si,si,si,si,si,si,si,si,si,si,si,si,si,si,.sl 148,.sl 69,.sl 78] 0])),q⟩]=some (bo,
 ob (leI 0 (ixF (fun k=>ixfRQC (.l [[gd ((gd q 0).rows.getD 0 []) 0]]) (sub ((gd p 0).rows.getD k []) 0 5)) 0 (gd p 0).rows.length))):=by kernel_rfl
def cofRQE:Ent:=(40,e2 (sd (.sl 78)) (.one (.c (.fn 41 [.cptr [si,si,si,si,si,si,si,si,si,si,si,si,si,si,.sl 148,.sl 69,.sl 78] 0]))) fun p q=>(⟨rb,[.b (anyS (fun rr=>ixfRQC (gd q 0) (sub rr 0 5)) (gd p 0))]⟩,true))
theorem cofRQ_ok:EntOk Tryz.prog cofRQE:=e2_ok fun p q h=>evFn_sound (N:=0) (ks:=cofRQK) (key:=bo) cofRQT_ok (enters Tryz.func40) Tryz.func40 fun hw=>by
 rw [cofRQ_ev]
 refine congrArg (fun x=>some (bo,ob x)) ?_
 exact (ixF_any (fun k=>ixfRQC (gd q 0) (sub ((gd p 0).rows.getD k []) 0 5)) (gd p 0).rows.length 0).trans (by simp only [Nat.zero_add]; rfl)
abbrev i_OnRequest_1T:FuncId→List T→Option (T × Bool):=find [i_isPrimaryE,i_imageE,i_SeatOfE,i_sendE,cofRQE,i_kputE,i_endE,i_prepareE,i_sendAllE,i_answerE,apartE]
theorem i_OnRequest_1T_ok:CallOk Tryz.prog i_OnRequest_1T:=find_ok (fC ⟨i_isPrimary_ok,fC ⟨i_image_ok,fC ⟨i_SeatOf_ok,fC ⟨i_send_ok,fC ⟨cofRQ_ok,fC ⟨i_kput_ok,fC ⟨i_end_ok,fC ⟨i_prepare_ok,fC ⟨i_sendAll_ok,fC ⟨i_answer_ok,fC ⟨apart_ok,fN⟩⟩⟩⟩⟩⟩⟩⟩⟩⟩⟩)
abbrev i_OnRequest_1K:List Nat:= [0,1,3,4,5,6,7,18,43,89,100,117]
def i_OnRequest_1c0 (p:List D):List D:=imageL (sub (sub (isPrimP (sub p 0 14)) 0 16) 7 4) (gd (sub (isPrimP (sub p 0 14)) 0 16) 6).int
def i_OnRequest_1c1 (p q:List D):List D:=kputP (sub (sub (isPrimP (sub p 0 14)) 0 16) 1 14) [gd ((gd q 0).rows.getD 0 []) 7,gd ((gd q 0).rows.getD 0 []) 8,gd ((gd q 0).rows.getD 0 []) 10,gd ((gd q 0).rows.getD 0 []) 11,gd ((gd q 0).rows.getD 0 []) 12]
def i_OnRequest_1c2 (p q:List D):List D:=seatOf (sub (sub (i_OnRequest_1c0 p) 0 2) 0 2) (gd ((gd q 0).rows.getD 0 []) 7).int
def i_OnRequest_1c3 (p q:List D):List D:=prepP (sub (sub (i_OnRequest_1c1 p q) 0 16) 1 14) (.i (endL (sub (sub (i_OnRequest_1c1 p q) 0 16) 7 4))) [gd ((gd q 0).rows.getD 0 []) 7,gd ((gd q 0).rows.getD 0 []) 8,gd ((gd q 0).rows.getD 0 []) 10,gd ((gd q 0).rows.getD 0 []) 11,gd ((gd q 0).rows.getD 0 []) 12]
def i_OnRequest_1c4 (p q:List D):List D:=sendAllP (sub (sub (i_OnRequest_1c3 p q) 0 32) 1 14) (sub (sub (i_OnRequest_1c3 p q) 0 32) 15 17)
def i_OnRequest_1c5 (p q:List D):List D:=sendP (sub (sub (isPrimP (sub p 0 14)) 0 16) 1 14) (.i (-1)) [.i 12,.i 0,gd (sub (isPrimP (sub p 0 14)) 0 16) 4,.i 0,.i 0,.i 0,.i 0,gd ((gd q 0).rows.getD 0 []) 7,gd ((gd q 0).rows.getD 0 []) 8,gd (sub (i_OnRequest_1c2 p q) 0 4) 2,.i 0,.i 0,.i 0,.i 0,.l [],.l [],.l []]
def i_OnRequest_1c6 (p q:List D):List D:=answerP [gd (sub (i_OnRequest_1c4 p q) 0 15) 1,gd (sub (i_OnRequest_1c4 p q) 0 15) 2,gd (sub (i_OnRequest_1c4 p q) 0 15) 3,gd (sub (i_OnRequest_1c4 p q) 0 15) 4,gd (sub (i_OnRequest_1c4 p q) 0 15) 5,.i (endL (sub (sub (i_OnRequest_1c4 p q) 0 15) 7 4)),gd (sub (i_OnRequest_1c4 p q) 0 15) 7,gd (sub (i_OnRequest_1c4 p q) 0 15) 8,gd (sub (i_OnRequest_1c4 p q) 0 15) 9,gd (sub (i_OnRequest_1c4 p q) 0 15) 10,gd (sub (i_OnRequest_1c4 p q) 0 15) 11,gd (sub (i_OnRequest_1c4 p q) 0 15) 12,gd (sub (i_OnRequest_1c4 p q) 0 15) 13,gd (sub (i_OnRequest_1c4 p q) 0 15) 14] (gd (sub (i_OnRequest_1c4 p q) 0 15) 6).int (endL (sub (sub (i_OnRequest_1c4 p q) 0 15) 7 4))
def i_OnRequest_1_evq0 (N:Nat) (p q:List D):List (List D):= [[gd (sub (i_OnRequest_1c2 p q) 0 4) 3],[.i 0],[gd (sub (i_OnRequest_1c2 p q) 0 4) 3],sub (sub (i_OnRequest_1c2 p q) 0 4) 0 3,sub (sub (i_OnRequest_1c2 p q) 0 4) 0 4,sub (sub (i_OnRequest_1c2 p q) 0 4) 0 4,[gd (sub (i_OnRequest_1c0 p) 0 2) 0,gd (sub (i_OnRequest_1c0 p) 0 2) 1],[gd ((gd q 0).rows.getD 0 []) 7],[gd q 0],[gd (sub (isPrimP (sub p 0 14)) 0 16) 6],[.i 0],[.i 0],[.i 0],[.i 0],sub (sub (isPrimP (sub p 0 14)) 0 16) 7 4,[.i 0],[.i 0],[.i 0],[.i 0],[.i 0],q,[.b (!(gd (sub (isPrimP (sub p 0 14)) 0 16) 15).bool)],sub (sub (isPrimP (sub p 0 14)) 0 16) 1 14,sub (sub (i_OnRequest_1c2 p q) 0 4) 0 3]
theorem i_OnRequest_1_ev (N:Nat) (p q:List D):evFnP Tryz.prog i_OnRequest_1T N i_OnRequest_1K Tryz.f35 (.tup [.agg [.any],.agg [.d si,.d si,.d si,.d si,.d si,.d si,.d si,.own (0,7) true 148,.own (0,8) true 69,.own (0,9) true 78,.own (0,1000010) true 132,.d si,.d si,.own (0,1000013) true 74]]) [⟨.tup [.agg [.d si,.d si,.d si,.d si,.d si,.d si,.d si,.own (1000000,7) true 148,.own (1000000,8) true 69,.own (1000000,9) true 78,.own (1000000,1000010) true 132,.d si,.d si,.own (1000000,1000013) true 74]],p⟩,⟨.one (.c (.cptr [si,si,si,si,si,si,si,si,si,si,si,si,si,si,.sl 148,.sl 69,.sl 78] 0)),q⟩]=some (bo,
 bif (gd p 2).int != 1 then some (1,[.i 0,gd p 0,gd p 1,gd p 2,gd p 3,gd p 4,gd p 5,gd p 6,gd p 7,gd p 8,gd p 9,gd p 10,gd p 11,gd p 12,gd p 13])
 else nd ((gd p 1).int != 0) (bif !(gd (sub (isPrimP (sub p 0 14)) 0 16) 15).bool then some (1,[.i 0,gd (sub (isPrimP (sub p 0 14)) 0 16) 1,gd (sub (isPrimP (sub p 0 14)) 0 16) 2,gd (sub (isPrimP (sub p 0 14)) 0 16) 3,gd (sub (isPrimP (sub p 0 14)) 0 16) 4,gd (sub (isPrimP (sub p 0 14)) 0 16) 5,gd (sub (isPrimP (sub p 0 14)) 0 16) 6,gd (sub (isPrimP (sub p 0 14)) 0 16) 7,gd (sub (isPrimP (sub p 0 14)) 0 16) 8,gd (sub (isPrimP (sub p 0 14)) 0 16) 9,gd (sub (isPrimP (sub p 0 14)) 0 16) 10,gd (sub (isPrimP (sub p 0 14)) 0 16) 11,gd (sub (isPrimP (sub p 0 14)) 0 16) 12,gd (sub (isPrimP (sub p 0 14)) 0 16) 13,gd (sub (isPrimP (sub p 0 14)) 0 16) 14])
 else nd ((hasN (sub (sub (isPrimP (sub p 0 14)) 0 16) 7 4) (gd (sub (isPrimP (sub p 0 14)) 0 16) 6))&&((inB (gd ((gd q 0).rows.getD 0 []) 7).int 0 1000000000)&&true)) (ndN 6 (((hasN (sub (sub (isPrimP (sub p 0 14)) 0 16) 7 4) (gd (sub (isPrimP (sub p 0 14)) 0 16) 6))&&((inB (gd ((gd q 0).rows.getD 0 []) 7).int 0 1000000000)&&true))&&(sameP (i_OnRequest_1_evq0 N p q) (i_OnRequest_1_evq0 N p q))) (bif (gd (sub (i_OnRequest_1c2 p q) 0 4) 3).bool then bif (gd (sub (i_OnRequest_1c2 p q) 0 4) 1).int==(gd ((gd q 0).rows.getD 0 []) 8).int then nd (msgSm [.i 12,.i 0,gd (sub (isPrimP (sub p 0 14)) 0 16) 4,.i 0,.i 0,.i 0,.i 0,gd ((gd q 0).rows.getD 0 []) 7,gd ((gd q 0).rows.getD 0 []) 8,gd (sub (i_OnRequest_1c2 p q) 0 4) 2,.i 0,.i 0,.i 0,.i 0,.l [],.l [],.l []]&&leI ((gd (sub (isPrimP (sub p 0 14)) 0 16) 14).rows.length:Int) 1000000) (some (1,[.i 0,gd (sub (i_OnRequest_1c5 p q) 0 15) 1,gd (sub (i_OnRequest_1c5 p q) 0 15) 2,gd (sub (i_OnRequest_1c5 p q) 0 15) 3,gd (sub (i_OnRequest_1c5 p q) 0 15) 4,gd (sub (i_OnRequest_1c5 p q) 0 15) 5,gd (sub (i_OnRequest_1c5 p q) 0 15) 6,gd (sub (i_OnRequest_1c5 p q) 0 15) 7,gd (sub (i_OnRequest_1c5 p q) 0 15) 8,gd (sub (i_OnRequest_1c5 p q) 0 15) 9,gd (sub (i_OnRequest_1c5 p q) 0 15) 10,gd (sub (i_OnRequest_1c5 p q) 0 15) 11,gd (sub (i_OnRequest_1c5 p q) 0 15) 12,gd (sub (i_OnRequest_1c5 p q) 0 15) 13,gd (sub (i_OnRequest_1c5 p q) 0 15) 14]))
 else nd (leI 0 (w64 ((gd (sub (isPrimP (sub p 0 14)) 0 16) 6).int - (gd (sub (isPrimP (sub p 0 14)) 0 16) 7).int))&&leI (w64 ((gd (sub (isPrimP (sub p 0 14)) 0 16) 6).int - (gd (sub (isPrimP (sub p 0 14)) 0 16) 7).int)) ((gd (sub (isPrimP (sub p 0 14)) 0 16) 10).rows.length:Int)) (bif (gd (sub (i_OnRequest_1c2 p q) 0 4) 3).bool then bif ltI (gd ((gd q 0).rows.getD 0 []) 8).int (gd (sub (i_OnRequest_1c2 p q) 0 4) 1).int then some (1,[.i 0,gd (sub (isPrimP (sub p 0 14)) 0 16) 1,gd (sub (isPrimP (sub p 0 14)) 0 16) 2,gd (sub (isPrimP (sub p 0 14)) 0 16) 3,gd (sub (isPrimP (sub p 0 14)) 0 16) 4,gd (sub (isPrimP (sub p 0 14)) 0 16) 5,gd (sub (isPrimP (sub p 0 14)) 0 16) 6,gd (sub (isPrimP (sub p 0 14)) 0 16) 7,gd (sub (isPrimP (sub p 0 14)) 0 16) 8,gd (sub (isPrimP (sub p 0 14)) 0 16) 9,gd (sub (isPrimP (sub p 0 14)) 0 16) 10,gd (sub (isPrimP (sub p 0 14)) 0 16) 11,gd (sub (isPrimP (sub p 0 14)) 0 16) 12,gd (sub (isPrimP (sub p 0 14)) 0 16) 13,gd (sub (isPrimP (sub p 0 14)) 0 16) 14])
 else bif anyS (fun rr=>ixfRQC (.l [[gd q 0]]) (sub rr 0 5)) (.l ((gd (sub (isPrimP (sub p 0 14)) 0 16) 10).rows.drop (w64 ((gd (sub (isPrimP (sub p 0 14)) 0 16) 6).int - (gd (sub (isPrimP (sub p 0 14)) 0 16) 7).int)).toNat)) then some (1,[.i 0,gd (sub (isPrimP (sub p 0 14)) 0 16) 1,gd (sub (isPrimP (sub p 0 14)) 0 16) 2,gd (sub (isPrimP (sub p 0 14)) 0 16) 3,gd (sub (isPrimP (sub p 0 14)) 0 16) 4,gd (sub (isPrimP (sub p 0 14)) 0 16) 5,gd (sub (isPrimP (sub p 0 14)) 0 16) 6,gd (sub (isPrimP (sub p 0 14)) 0 16) 7,gd (sub (isPrimP (sub p 0 14)) 0 16) 8,gd (sub (isPrimP (sub p 0 14)) 0 16) 9,gd (sub (isPrimP (sub p 0 14)) 0 16) 10,gd (sub (isPrimP (sub p 0 14)) 0 16) 11,gd (sub (isPrimP (sub p 0 14)) 0 16) 12,gd (sub (isPrimP (sub p 0 14)) 0 16) 13,gd (sub (isPrimP (sub p 0 14)) 0 16) 14])
 else bif !(gd (sub (i_OnRequest_1c1 p q) 0 16) 15).bool then some (1,[.i 0,gd (sub (i_OnRequest_1c1 p q) 0 16) 1,gd (sub (i_OnRequest_1c1 p q) 0 16) 2,gd (sub (i_OnRequest_1c1 p q) 0 16) 3,gd (sub (i_OnRequest_1c1 p q) 0 16) 4,gd (sub (i_OnRequest_1c1 p q) 0 16) 5,gd (sub (i_OnRequest_1c1 p q) 0 16) 6,gd (sub (i_OnRequest_1c1 p q) 0 16) 7,gd (sub (i_OnRequest_1c1 p q) 0 16) 8,gd (sub (i_OnRequest_1c1 p q) 0 16) 9,gd (sub (i_OnRequest_1c1 p q) 0 16) 10,gd (sub (i_OnRequest_1c1 p q) 0 16) 11,gd (sub (i_OnRequest_1c1 p q) 0 16) 12,gd (sub (i_OnRequest_1c1 p q) 0 16) 13,gd (sub (i_OnRequest_1c1 p q) 0 16) 14])
 else nd (msgSm (sub (sub (i_OnRequest_1c3 p q) 0 32) 15 17)&&(leI ((gd (sub (i_OnRequest_1c3 p q) 0 32) 14).rows.length:Int) 1000&&inB (gd (sub (i_OnRequest_1c3 p q) 0 32) 2).int 0 5)) (bif (gd (sub (i_OnRequest_1c4 p q) 0 15) 2).int==1 then nd (hasN (sub [gd (sub (i_OnRequest_1c4 p q) 0 15) 1,gd (sub (i_OnRequest_1c4 p q) 0 15) 2,gd (sub (i_OnRequest_1c4 p q) 0 15) 3,gd (sub (i_OnRequest_1c4 p q) 0 15) 4,gd (sub (i_OnRequest_1c4 p q) 0 15) 5,.i (endL (sub (sub (i_OnRequest_1c4 p q) 0 15) 7 4)),gd (sub (i_OnRequest_1c4 p q) 0 15) 7,gd (sub (i_OnRequest_1c4 p q) 0 15) 8,gd (sub (i_OnRequest_1c4 p q) 0 15) 9,gd (sub (i_OnRequest_1c4 p q) 0 15) 10,gd (sub (i_OnRequest_1c4 p q) 0 15) 11,gd (sub (i_OnRequest_1c4 p q) 0 15) 12,gd (sub (i_OnRequest_1c4 p q) 0 15) 13,gd (sub (i_OnRequest_1c4 p q) 0 15) 14] 6 4) (gd (sub (i_OnRequest_1c4 p q) 0 15) 6)&&(hasN (sub [gd (sub (i_OnRequest_1c4 p q) 0 15) 1,gd (sub (i_OnRequest_1c4 p q) 0 15) 2,gd (sub (i_OnRequest_1c4 p q) 0 15) 3,gd (sub (i_OnRequest_1c4 p q) 0 15) 4,gd (sub (i_OnRequest_1c4 p q) 0 15) 5,.i (endL (sub (sub (i_OnRequest_1c4 p q) 0 15) 7 4)),gd (sub (i_OnRequest_1c4 p q) 0 15) 7,gd (sub (i_OnRequest_1c4 p q) 0 15) 8,gd (sub (i_OnRequest_1c4 p q) 0 15) 9,gd (sub (i_OnRequest_1c4 p q) 0 15) 10,gd (sub (i_OnRequest_1c4 p q) 0 15) 11,gd (sub (i_OnRequest_1c4 p q) 0 15) 12,gd (sub (i_OnRequest_1c4 p q) 0 15) 13,gd (sub (i_OnRequest_1c4 p q) 0 15) 14] 6 4) (.i (endL (sub (sub (i_OnRequest_1c4 p q) 0 15) 7 4)))&&leI ((gd (sub (i_OnRequest_1c4 p q) 0 15) 14).rows.length:Int) 1000)) (some (1,[.i 0,gd (sub (i_OnRequest_1c6 p q) 0 15) 1,gd (sub (i_OnRequest_1c6 p q) 0 15) 2,gd (sub (i_OnRequest_1c6 p q) 0 15) 3,gd (sub (i_OnRequest_1c6 p q) 0 15) 4,gd (sub (i_OnRequest_1c6 p q) 0 15) 5,gd (sub (i_OnRequest_1c6 p q) 0 15) 6,gd (sub (i_OnRequest_1c6 p q) 0 15) 7,gd (sub (i_OnRequest_1c6 p q) 0 15) 8,gd (sub (i_OnRequest_1c6 p q) 0 15) 9,gd (sub (i_OnRequest_1c6 p q) 0 15) 10,gd (sub (i_OnRequest_1c6 p q) 0 15) 11,gd (sub (i_OnRequest_1c6 p q) 0 15) 12,gd (sub (i_OnRequest_1c6 p q) 0 15) 13,gd (sub (i_OnRequest_1c6 p q) 0 15) 14]))
 else some (1,[.i 0,gd (sub (i_OnRequest_1c4 p q) 0 15) 1,gd (sub (i_OnRequest_1c4 p q) 0 15) 2,gd (sub (i_OnRequest_1c4 p q) 0 15) 3,gd (sub (i_OnRequest_1c4 p q) 0 15) 4,gd (sub (i_OnRequest_1c4 p q) 0 15) 5,gd (sub (i_OnRequest_1c4 p q) 0 15) 6,gd (sub (i_OnRequest_1c4 p q) 0 15) 7,gd (sub (i_OnRequest_1c4 p q) 0 15) 8,gd (sub (i_OnRequest_1c4 p q) 0 15) 9,gd (sub (i_OnRequest_1c4 p q) 0 15) 10,gd (sub (i_OnRequest_1c4 p q) 0 15) 11,gd (sub (i_OnRequest_1c4 p q) 0 15) 12,gd (sub (i_OnRequest_1c4 p q) 0 15) 13,gd (sub (i_OnRequest_1c4 p q) 0 15) 14]))
 else bif anyS (fun rr=>ixfRQC (.l [[gd q 0]]) (sub rr 0 5)) (.l ((gd (sub (isPrimP (sub p 0 14)) 0 16) 10).rows.drop (w64 ((gd (sub (isPrimP (sub p 0 14)) 0 16) 6).int - (gd (sub (isPrimP (sub p 0 14)) 0 16) 7).int)).toNat)) then some (1,[.i 0,gd (sub (isPrimP (sub p 0 14)) 0 16) 1,gd (sub (isPrimP (sub p 0 14)) 0 16) 2,gd (sub (isPrimP (sub p 0 14)) 0 16) 3,gd (sub (isPrimP (sub p 0 14)) 0 16) 4,gd (sub (isPrimP (sub p 0 14)) 0 16) 5,gd (sub (isPrimP (sub p 0 14)) 0 16) 6,gd (sub (isPrimP (sub p 0 14)) 0 16) 7,gd (sub (isPrimP (sub p 0 14)) 0 16) 8,gd (sub (isPrimP (sub p 0 14)) 0 16) 9,gd (sub (isPrimP (sub p 0 14)) 0 16) 10,gd (sub (isPrimP (sub p 0 14)) 0 16) 11,gd (sub (isPrimP (sub p 0 14)) 0 16) 12,gd (sub (isPrimP (sub p 0 14)) 0 16) 13,gd (sub (isPrimP (sub p 0 14)) 0 16) 14])
 else bif !(gd (sub (i_OnRequest_1c1 p q) 0 16) 15).bool then some (1,[.i 0,gd (sub (i_OnRequest_1c1 p q) 0 16) 1,gd (sub (i_OnRequest_1c1 p q) 0 16) 2,gd (sub (i_OnRequest_1c1 p q) 0 16) 3,gd (sub (i_OnRequest_1c1 p q) 0 16) 4,gd (sub (i_OnRequest_1c1 p q) 0 16) 5,gd (sub (i_OnRequest_1c1 p q) 0 16) 6,gd (sub (i_OnRequest_1c1 p q) 0 16) 7,gd (sub (i_OnRequest_1c1 p q) 0 16) 8,gd (sub (i_OnRequest_1c1 p q) 0 16) 9,gd (sub (i_OnRequest_1c1 p q) 0 16) 10,gd (sub (i_OnRequest_1c1 p q) 0 16) 11,gd (sub (i_OnRequest_1c1 p q) 0 16) 12,gd (sub (i_OnRequest_1c1 p q) 0 16) 13,gd (sub (i_OnRequest_1c1 p q) 0 16) 14])
 else nd (msgSm (sub (sub (i_OnRequest_1c3 p q) 0 32) 15 17)&&(leI ((gd (sub (i_OnRequest_1c3 p q) 0 32) 14).rows.length:Int) 1000&&inB (gd (sub (i_OnRequest_1c3 p q) 0 32) 2).int 0 5)) (bif (gd (sub (i_OnRequest_1c4 p q) 0 15) 2).int==1 then nd (hasN (sub [gd (sub (i_OnRequest_1c4 p q) 0 15) 1,gd (sub (i_OnRequest_1c4 p q) 0 15) 2,gd (sub (i_OnRequest_1c4 p q) 0 15) 3,gd (sub (i_OnRequest_1c4 p q) 0 15) 4,gd (sub (i_OnRequest_1c4 p q) 0 15) 5,.i (endL (sub (sub (i_OnRequest_1c4 p q) 0 15) 7 4)),gd (sub (i_OnRequest_1c4 p q) 0 15) 7,gd (sub (i_OnRequest_1c4 p q) 0 15) 8,gd (sub (i_OnRequest_1c4 p q) 0 15) 9,gd (sub (i_OnRequest_1c4 p q) 0 15) 10,gd (sub (i_OnRequest_1c4 p q) 0 15) 11,gd (sub (i_OnRequest_1c4 p q) 0 15) 12,gd (sub (i_OnRequest_1c4 p q) 0 15) 13,gd (sub (i_OnRequest_1c4 p q) 0 15) 14] 6 4) (gd (sub (i_OnRequest_1c4 p q) 0 15) 6)&&(hasN (sub [gd (sub (i_OnRequest_1c4 p q) 0 15) 1,gd (sub (i_OnRequest_1c4 p q) 0 15) 2,gd (sub (i_OnRequest_1c4 p q) 0 15) 3,gd (sub (i_OnRequest_1c4 p q) 0 15) 4,gd (sub (i_OnRequest_1c4 p q) 0 15) 5,.i (endL (sub (sub (i_OnRequest_1c4 p q) 0 15) 7 4)),gd (sub (i_OnRequest_1c4 p q) 0 15) 7,gd (sub (i_OnRequest_1c4 p q) 0 15) 8,gd (sub (i_OnRequest_1c4 p q) 0 15) 9,gd (sub (i_OnRequest_1c4 p q) 0 15) 10,gd (sub (i_OnRequest_1c4 p q) 0 15) 11,gd (sub (i_OnRequest_1c4 p q) 0 15) 12,gd (sub (i_OnRequest_1c4 p q) 0 15) 13,gd (sub (i_OnRequest_1c4 p q) 0 15) 14] 6 4) (.i (endL (sub (sub (i_OnRequest_1c4 p q) 0 15) 7 4)))&&leI ((gd (sub (i_OnRequest_1c4 p q) 0 15) 14).rows.length:Int) 1000)) (some (1,[.i 0,gd (sub (i_OnRequest_1c6 p q) 0 15) 1,gd (sub (i_OnRequest_1c6 p q) 0 15) 2,gd (sub (i_OnRequest_1c6 p q) 0 15) 3,gd (sub (i_OnRequest_1c6 p q) 0 15) 4,gd (sub (i_OnRequest_1c6 p q) 0 15) 5,gd (sub (i_OnRequest_1c6 p q) 0 15) 6,gd (sub (i_OnRequest_1c6 p q) 0 15) 7,gd (sub (i_OnRequest_1c6 p q) 0 15) 8,gd (sub (i_OnRequest_1c6 p q) 0 15) 9,gd (sub (i_OnRequest_1c6 p q) 0 15) 10,gd (sub (i_OnRequest_1c6 p q) 0 15) 11,gd (sub (i_OnRequest_1c6 p q) 0 15) 12,gd (sub (i_OnRequest_1c6 p q) 0 15) 13,gd (sub (i_OnRequest_1c6 p q) 0 15) 14]))
 else some (1,[.i 0,gd (sub (i_OnRequest_1c4 p q) 0 15) 1,gd (sub (i_OnRequest_1c4 p q) 0 15) 2,gd (sub (i_OnRequest_1c4 p q) 0 15) 3,gd (sub (i_OnRequest_1c4 p q) 0 15) 4,gd (sub (i_OnRequest_1c4 p q) 0 15) 5,gd (sub (i_OnRequest_1c4 p q) 0 15) 6,gd (sub (i_OnRequest_1c4 p q) 0 15) 7,gd (sub (i_OnRequest_1c4 p q) 0 15) 8,gd (sub (i_OnRequest_1c4 p q) 0 15) 9,gd (sub (i_OnRequest_1c4 p q) 0 15) 10,gd (sub (i_OnRequest_1c4 p q) 0 15) 11,gd (sub (i_OnRequest_1c4 p q) 0 15) 12,gd (sub (i_OnRequest_1c4 p q) 0 15) 13,gd (sub (i_OnRequest_1c4 p q) 0 15) 14])))
 else nd (leI 0 (w64 ((gd (sub (isPrimP (sub p 0 14)) 0 16) 6).int - (gd (sub (isPrimP (sub p 0 14)) 0 16) 7).int))&&leI (w64 ((gd (sub (isPrimP (sub p 0 14)) 0 16) 6).int - (gd (sub (isPrimP (sub p 0 14)) 0 16) 7).int)) ((gd (sub (isPrimP (sub p 0 14)) 0 16) 10).rows.length:Int)) (bif (gd (sub (i_OnRequest_1c2 p q) 0 4) 3).bool then bif ltI (gd ((gd q 0).rows.getD 0 []) 8).int (gd (sub (i_OnRequest_1c2 p q) 0 4) 1).int then some (1,[.i 0,gd (sub (isPrimP (sub p 0 14)) 0 16) 1,gd (sub (isPrimP (sub p 0 14)) 0 16) 2,gd (sub (isPrimP (sub p 0 14)) 0 16) 3,gd (sub (isPrimP (sub p 0 14)) 0 16) 4,gd (sub (isPrimP (sub p 0 14)) 0 16) 5,gd (sub (isPrimP (sub p 0 14)) 0 16) 6,gd (sub (isPrimP (sub p 0 14)) 0 16) 7,gd (sub (isPrimP (sub p 0 14)) 0 16) 8,gd (sub (isPrimP (sub p 0 14)) 0 16) 9,gd (sub (isPrimP (sub p 0 14)) 0 16) 10,gd (sub (isPrimP (sub p 0 14)) 0 16) 11,gd (sub (isPrimP (sub p 0 14)) 0 16) 12,gd (sub (isPrimP (sub p 0 14)) 0 16) 13,gd (sub (isPrimP (sub p 0 14)) 0 16) 14])
 else bif anyS (fun rr=>ixfRQC (.l [[gd q 0]]) (sub rr 0 5)) (.l ((gd (sub (isPrimP (sub p 0 14)) 0 16) 10).rows.drop (w64 ((gd (sub (isPrimP (sub p 0 14)) 0 16) 6).int - (gd (sub (isPrimP (sub p 0 14)) 0 16) 7).int)).toNat)) then some (1,[.i 0,gd (sub (isPrimP (sub p 0 14)) 0 16) 1,gd (sub (isPrimP (sub p 0 14)) 0 16) 2,gd (sub (isPrimP (sub p 0 14)) 0 16) 3,gd (sub (isPrimP (sub p 0 14)) 0 16) 4,gd (sub (isPrimP (sub p 0 14)) 0 16) 5,gd (sub (isPrimP (sub p 0 14)) 0 16) 6,gd (sub (isPrimP (sub p 0 14)) 0 16) 7,gd (sub (isPrimP (sub p 0 14)) 0 16) 8,gd (sub (isPrimP (sub p 0 14)) 0 16) 9,gd (sub (isPrimP (sub p 0 14)) 0 16) 10,gd (sub (isPrimP (sub p 0 14)) 0 16) 11,gd (sub (isPrimP (sub p 0 14)) 0 16) 12,gd (sub (isPrimP (sub p 0 14)) 0 16) 13,gd (sub (isPrimP (sub p 0 14)) 0 16) 14])
 else bif !(gd (sub (i_OnRequest_1c1 p q) 0 16) 15).bool then some (1,[.i 0,gd (sub (i_OnRequest_1c1 p q) 0 16) 1,gd (sub (i_OnRequest_1c1 p q) 0 16) 2,gd (sub (i_OnRequest_1c1 p q) 0 16) 3,gd (sub (i_OnRequest_1c1 p q) 0 16) 4,gd (sub (i_OnRequest_1c1 p q) 0 16) 5,gd (sub (i_OnRequest_1c1 p q) 0 16) 6,gd (sub (i_OnRequest_1c1 p q) 0 16) 7,gd (sub (i_OnRequest_1c1 p q) 0 16) 8,gd (sub (i_OnRequest_1c1 p q) 0 16) 9,gd (sub (i_OnRequest_1c1 p q) 0 16) 10,gd (sub (i_OnRequest_1c1 p q) 0 16) 11,gd (sub (i_OnRequest_1c1 p q) 0 16) 12,gd (sub (i_OnRequest_1c1 p q) 0 16) 13,gd (sub (i_OnRequest_1c1 p q) 0 16) 14])
 else nd (msgSm (sub (sub (i_OnRequest_1c3 p q) 0 32) 15 17)&&(leI ((gd (sub (i_OnRequest_1c3 p q) 0 32) 14).rows.length:Int) 1000&&inB (gd (sub (i_OnRequest_1c3 p q) 0 32) 2).int 0 5)) (bif (gd (sub (i_OnRequest_1c4 p q) 0 15) 2).int==1 then nd (hasN (sub [gd (sub (i_OnRequest_1c4 p q) 0 15) 1,gd (sub (i_OnRequest_1c4 p q) 0 15) 2,gd (sub (i_OnRequest_1c4 p q) 0 15) 3,gd (sub (i_OnRequest_1c4 p q) 0 15) 4,gd (sub (i_OnRequest_1c4 p q) 0 15) 5,.i (endL (sub (sub (i_OnRequest_1c4 p q) 0 15) 7 4)),gd (sub (i_OnRequest_1c4 p q) 0 15) 7,gd (sub (i_OnRequest_1c4 p q) 0 15) 8,gd (sub (i_OnRequest_1c4 p q) 0 15) 9,gd (sub (i_OnRequest_1c4 p q) 0 15) 10,gd (sub (i_OnRequest_1c4 p q) 0 15) 11,gd (sub (i_OnRequest_1c4 p q) 0 15) 12,gd (sub (i_OnRequest_1c4 p q) 0 15) 13,gd (sub (i_OnRequest_1c4 p q) 0 15) 14] 6 4) (gd (sub (i_OnRequest_1c4 p q) 0 15) 6)&&(hasN (sub [gd (sub (i_OnRequest_1c4 p q) 0 15) 1,gd (sub (i_OnRequest_1c4 p q) 0 15) 2,gd (sub (i_OnRequest_1c4 p q) 0 15) 3,gd (sub (i_OnRequest_1c4 p q) 0 15) 4,gd (sub (i_OnRequest_1c4 p q) 0 15) 5,.i (endL (sub (sub (i_OnRequest_1c4 p q) 0 15) 7 4)),gd (sub (i_OnRequest_1c4 p q) 0 15) 7,gd (sub (i_OnRequest_1c4 p q) 0 15) 8,gd (sub (i_OnRequest_1c4 p q) 0 15) 9,gd (sub (i_OnRequest_1c4 p q) 0 15) 10,gd (sub (i_OnRequest_1c4 p q) 0 15) 11,gd (sub (i_OnRequest_1c4 p q) 0 15) 12,gd (sub (i_OnRequest_1c4 p q) 0 15) 13,gd (sub (i_OnRequest_1c4 p q) 0 15) 14] 6 4) (.i (endL (sub (sub (i_OnRequest_1c4 p q) 0 15) 7 4)))&&leI ((gd (sub (i_OnRequest_1c4 p q) 0 15) 14).rows.length:Int) 1000)) (some (1,[.i 0,gd (sub (i_OnRequest_1c6 p q) 0 15) 1,gd (sub (i_OnRequest_1c6 p q) 0 15) 2,gd (sub (i_OnRequest_1c6 p q) 0 15) 3,gd (sub (i_OnRequest_1c6 p q) 0 15) 4,gd (sub (i_OnRequest_1c6 p q) 0 15) 5,gd (sub (i_OnRequest_1c6 p q) 0 15) 6,gd (sub (i_OnRequest_1c6 p q) 0 15) 7,gd (sub (i_OnRequest_1c6 p q) 0 15) 8,gd (sub (i_OnRequest_1c6 p q) 0 15) 9,gd (sub (i_OnRequest_1c6 p q) 0 15) 10,gd (sub (i_OnRequest_1c6 p q) 0 15) 11,gd (sub (i_OnRequest_1c6 p q) 0 15) 12,gd (sub (i_OnRequest_1c6 p q) 0 15) 13,gd (sub (i_OnRequest_1c6 p q) 0 15) 14]))
 else some (1,[.i 0,gd (sub (i_OnRequest_1c4 p q) 0 15) 1,gd (sub (i_OnRequest_1c4 p q) 0 15) 2,gd (sub (i_OnRequest_1c4 p q) 0 15) 3,gd (sub (i_OnRequest_1c4 p q) 0 15) 4,gd (sub (i_OnRequest_1c4 p q) 0 15) 5,gd (sub (i_OnRequest_1c4 p q) 0 15) 6,gd (sub (i_OnRequest_1c4 p q) 0 15) 7,gd (sub (i_OnRequest_1c4 p q) 0 15) 8,gd (sub (i_OnRequest_1c4 p q) 0 15) 9,gd (sub (i_OnRequest_1c4 p q) 0 15) 10,gd (sub (i_OnRequest_1c4 p q) 0 15) 11,gd (sub (i_OnRequest_1c4 p q) 0 15) 12,gd (sub (i_OnRequest_1c4 p q) 0 15) 13,gd (sub (i_OnRequest_1c4 p q) 0 15) 14]))
 else bif anyS (fun rr=>ixfRQC (.l [[gd q 0]]) (sub rr 0 5)) (.l ((gd (sub (isPrimP (sub p 0 14)) 0 16) 10).rows.drop (w64 ((gd (sub (isPrimP (sub p 0 14)) 0 16) 6).int - (gd (sub (isPrimP (sub p 0 14)) 0 16) 7).int)).toNat)) then some (1,[.i 0,gd (sub (isPrimP (sub p 0 14)) 0 16) 1,gd (sub (isPrimP (sub p 0 14)) 0 16) 2,gd (sub (isPrimP (sub p 0 14)) 0 16) 3,gd (sub (isPrimP (sub p 0 14)) 0 16) 4,gd (sub (isPrimP (sub p 0 14)) 0 16) 5,gd (sub (isPrimP (sub p 0 14)) 0 16) 6,gd (sub (isPrimP (sub p 0 14)) 0 16) 7,gd (sub (isPrimP (sub p 0 14)) 0 16) 8,gd (sub (isPrimP (sub p 0 14)) 0 16) 9,gd (sub (isPrimP (sub p 0 14)) 0 16) 10,gd (sub (isPrimP (sub p 0 14)) 0 16) 11,gd (sub (isPrimP (sub p 0 14)) 0 16) 12,gd (sub (isPrimP (sub p 0 14)) 0 16) 13,gd (sub (isPrimP (sub p 0 14)) 0 16) 14])
 else bif !(gd (sub (i_OnRequest_1c1 p q) 0 16) 15).bool then some (1,[.i 0,gd (sub (i_OnRequest_1c1 p q) 0 16) 1,gd (sub (i_OnRequest_1c1 p q) 0 16) 2,gd (sub (i_OnRequest_1c1 p q) 0 16) 3,gd (sub (i_OnRequest_1c1 p q) 0 16) 4,gd (sub (i_OnRequest_1c1 p q) 0 16) 5,gd (sub (i_OnRequest_1c1 p q) 0 16) 6,gd (sub (i_OnRequest_1c1 p q) 0 16) 7,gd (sub (i_OnRequest_1c1 p q) 0 16) 8,gd (sub (i_OnRequest_1c1 p q) 0 16) 9,gd (sub (i_OnRequest_1c1 p q) 0 16) 10,gd (sub (i_OnRequest_1c1 p q) 0 16) 11,gd (sub (i_OnRequest_1c1 p q) 0 16) 12,gd (sub (i_OnRequest_1c1 p q) 0 16) 13,gd (sub (i_OnRequest_1c1 p q) 0 16) 14])
 else nd (msgSm (sub (sub (i_OnRequest_1c3 p q) 0 32) 15 17)&&(leI ((gd (sub (i_OnRequest_1c3 p q) 0 32) 14).rows.length:Int) 1000&&inB (gd (sub (i_OnRequest_1c3 p q) 0 32) 2).int 0 5)) (bif (gd (sub (i_OnRequest_1c4 p q) 0 15) 2).int==1 then nd (hasN (sub [gd (sub (i_OnRequest_1c4 p q) 0 15) 1,gd (sub (i_OnRequest_1c4 p q) 0 15) 2,gd (sub (i_OnRequest_1c4 p q) 0 15) 3,gd (sub (i_OnRequest_1c4 p q) 0 15) 4,gd (sub (i_OnRequest_1c4 p q) 0 15) 5,.i (endL (sub (sub (i_OnRequest_1c4 p q) 0 15) 7 4)),gd (sub (i_OnRequest_1c4 p q) 0 15) 7,gd (sub (i_OnRequest_1c4 p q) 0 15) 8,gd (sub (i_OnRequest_1c4 p q) 0 15) 9,gd (sub (i_OnRequest_1c4 p q) 0 15) 10,gd (sub (i_OnRequest_1c4 p q) 0 15) 11,gd (sub (i_OnRequest_1c4 p q) 0 15) 12,gd (sub (i_OnRequest_1c4 p q) 0 15) 13,gd (sub (i_OnRequest_1c4 p q) 0 15) 14] 6 4) (gd (sub (i_OnRequest_1c4 p q) 0 15) 6)&&(hasN (sub [gd (sub (i_OnRequest_1c4 p q) 0 15) 1,gd (sub (i_OnRequest_1c4 p q) 0 15) 2,gd (sub (i_OnRequest_1c4 p q) 0 15) 3,gd (sub (i_OnRequest_1c4 p q) 0 15) 4,gd (sub (i_OnRequest_1c4 p q) 0 15) 5,.i (endL (sub (sub (i_OnRequest_1c4 p q) 0 15) 7 4)),gd (sub (i_OnRequest_1c4 p q) 0 15) 7,gd (sub (i_OnRequest_1c4 p q) 0 15) 8,gd (sub (i_OnRequest_1c4 p q) 0 15) 9,gd (sub (i_OnRequest_1c4 p q) 0 15) 10,gd (sub (i_OnRequest_1c4 p q) 0 15) 11,gd (sub (i_OnRequest_1c4 p q) 0 15) 12,gd (sub (i_OnRequest_1c4 p q) 0 15) 13,gd (sub (i_OnRequest_1c4 p q) 0 15) 14] 6 4) (.i (endL (sub (sub (i_OnRequest_1c4 p q) 0 15) 7 4)))&&leI ((gd (sub (i_OnRequest_1c4 p q) 0 15) 14).rows.length:Int) 1000)) (some (1,[.i 0,gd (sub (i_OnRequest_1c6 p q) 0 15) 1,gd (sub (i_OnRequest_1c6 p q) 0 15) 2,gd (sub (i_OnRequest_1c6 p q) 0 15) 3,gd (sub (i_OnRequest_1c6 p q) 0 15) 4,gd (sub (i_OnRequest_1c6 p q) 0 15) 5,gd (sub (i_OnRequest_1c6 p q) 0 15) 6,gd (sub (i_OnRequest_1c6 p q) 0 15) 7,gd (sub (i_OnRequest_1c6 p q) 0 15) 8,gd (sub (i_OnRequest_1c6 p q) 0 15) 9,gd (sub (i_OnRequest_1c6 p q) 0 15) 10,gd (sub (i_OnRequest_1c6 p q) 0 15) 11,gd (sub (i_OnRequest_1c6 p q) 0 15) 12,gd (sub (i_OnRequest_1c6 p q) 0 15) 13,gd (sub (i_OnRequest_1c6 p q) 0 15) 14]))
 else some (1,[.i 0,gd (sub (i_OnRequest_1c4 p q) 0 15) 1,gd (sub (i_OnRequest_1c4 p q) 0 15) 2,gd (sub (i_OnRequest_1c4 p q) 0 15) 3,gd (sub (i_OnRequest_1c4 p q) 0 15) 4,gd (sub (i_OnRequest_1c4 p q) 0 15) 5,gd (sub (i_OnRequest_1c4 p q) 0 15) 6,gd (sub (i_OnRequest_1c4 p q) 0 15) 7,gd (sub (i_OnRequest_1c4 p q) 0 15) 8,gd (sub (i_OnRequest_1c4 p q) 0 15) 9,gd (sub (i_OnRequest_1c4 p q) 0 15) 10,gd (sub (i_OnRequest_1c4 p q) 0 15) 11,gd (sub (i_OnRequest_1c4 p q) 0 15) 12,gd (sub (i_OnRequest_1c4 p q) 0 15) 13,gd (sub (i_OnRequest_1c4 p q) 0 15) 14]))))))):=by kernel_rfl
def rqIm (p:List D):List D:=imageL (sub p 6 4) (gd p 5).int
def rqSeat (p m:List D):List D:=seatOf (rqIm p) (gd m 7).int
def rqE (m:List D):List D:= [gd m 7,gd m 8,gd m 10,gd m 11,gd m 12]
def rqLate (p:List D):D:=.l ((gd p 9).rows.drop ((gd p 5).int - (gd p 6).int).toNat)
def rqSame (p m:List D):Bool:=(gd (rqSeat p m) 3).bool&&(gd (rqSeat p m) 1).int==(gd m 8).int
def rqOld (p m:List D):Bool:=(gd (rqSeat p m) 3).bool&&ltI (gd m 8).int (gd (rqSeat p m) 1).int
def rqAny (p m:List D):Bool:=anyS (fun rr=>rqF (sub rr 0 5) m) (rqLate p)
def rqReply (p m:List D):List D:= [.i 12,.i 0,gd p 3,.i 0,.i 0,.i 0,.i 0,gd m 7,gd m 8,gd (rqSeat p m) 2,.i 0,.i 0,.i 0,.i 0,.l [],.l [],.l []]
def rqK (p:List D):List D:= [.i 0,gd p 0,gd p 1,gd p 2,gd p 3,gd p 4,gd p 5,gd p 6,gd p 7,gd p 8,gd p 9,gd p 10,gd p 11,gd p 12,gd p 13]
def rqP1 (p m:List D):List D:= [gd p 0,gd p 1,gd p 2,gd p 3,gd p 4,gd p 5,gd (putL p (rqE m)) 0,gd (putL p (rqE m)) 1,gd (putL p (rqE m)) 2,gd (putL p (rqE m)) 3,gd p 10,gd p 11,gd p 12,gd p 13]
def rqEnd (p m:List D):Int:=endL (sub (putL p (rqE m)) 0 4)
def rqP2 (p m:List D):List D:=sendAllP (rqP1 p m) (prepM (rqP1 p m) (.i (rqEnd p m)) (rqE m))
def rqP3 (p m:List D):List D:=answerP [gd p 0,gd p 1,gd p 2,gd p 3,gd p 4,.i (rqEnd p m),gd (putL p (rqE m)) 0,gd (putL p (rqE m)) 1,gd (putL p (rqE m)) 2,gd (putL p (rqE m)) 3,gd p 10,gd p 11,gd p 12,gd (rqP2 p m) 14] (gd p 5).int (rqEnd p m)
def onReqP (p m:List D):List D:=
 bif (gd p 2).int != 1 then rqK p
 else bif !((gd p 0).int==((gd p 3).int.tmod (gd p 1).int)) then rqK p
 else bif rqSame p m then sendP p (.i (-1)) (rqReply p m)
 else bif rqOld p m then rqK p
 else bif rqAny p m then rqK p
 else bif !(gd (putL p (rqE m)) 4).bool then rqK p
 else bif (gd p 1).int==1 then rqP3 p m else rqP2 p m
theorem put_true {l e:List D} (h:(gd (logPut l e) 4).bool=true):logOk l=true∧logPut l e = [gd l 0,.l (gd l 1).rows,.l (gd l 2).rows,.l ((gd l 3).rows ++ [sub e 0 5]),.b true]∧logOk (sub (logPut l e) 0 4)=true∧endL (sub (logPut l e) 0 4)=endL l+1:=by
 unfold logPut at h ⊢
 cases hl:logOk l with
 | false=>rw [hl] at h; cases h
 | true =>
 rw [hl,cond_true] at h
 cases hc:entryOk e&&(!(((gd l 3).rows.length:Int)==60) && !(endL l==1000000000)) with
 | false=>rw [hc] at h; cases h
 | true =>
 simp only [Bool.and_eq_true,Bool.not_eq_true',beq_eq_false_iff_ne,ne_eq] at hc
 obtain ⟨he,h60,hend⟩:=hc
 obtain ⟨b0,b1,im,hlen,en,e1⟩:=log_d hl
 have hw:endL [gd l 0,.l (gd l 1).rows,.l (gd l 2).rows,.l ((gd l 3).rows ++ [sub e 0 5])]=endL l+1:=by
  show w64 ((gd l 0).int+(((gd l 3).rows ++ [sub e 0 5]).length:Int))=_
  rw [List.length_append,List.length_singleton,w64_id (by omega) (by omega),en]
  push_cast
  omega
 refine ⟨rfl,rfl,?_,hw⟩
 show logOk [gd l 0,.l (gd l 1).rows,.l (gd l 2).rows,.l ((gd l 3).rows ++ [sub e 0 5])]=true
 simp only [logOk,Bool.and_eq_true] at hl
 unfold logOk
 simp only [Bool.and_eq_true]
 refine ⟨hl.1,im,leI_t (by show (((gd l 3).rows ++ [sub e 0 5]).length:Int)≤60; rw [List.length_append,List.length_singleton]; omega),?_,?_⟩
 ·have hents:=hl.2.2.2.1
  simp only [entsOk,List.all_eq_true,List.mem_range] at hents ⊢
  intro k hk
  have hk:k<((gd l 3).rows ++ [sub e 0 5]).length:=hk
  show entryOk (sub (((gd l 3).rows ++ [sub e 0 5]).getD k []) 0 5)=true
  rw [List.length_append,List.length_singleton] at hk
  by_cases hk2:k<(gd l 3).rows.length
  ·rw [List.getD_eq_getElem?_getD,List.getElem?_append_left hk2,← List.getD_eq_getElem?_getD]
   exact hents k hk2
  ·obtain rfl:k=(gd l 3).rows.length:=by omega
   rw [List.getD_eq_getElem?_getD,List.getElem?_append_right (Nat.le_refl _),Nat.sub_self]
   exact he
 ·have hw':w64 ((gd [gd l 0,.l (gd l 1).rows,.l (gd l 2).rows,.l ((gd l 3).rows ++ [sub e 0 5])] 0).int+((gd [gd l 0,.l (gd l 1).rows,.l (gd l 2).rows,.l ((gd l 3).rows ++ [sub e 0 5])] 3).rows.length:Int))=endL l+1:=hw
  rw [hw']
  simp only [inB,Bool.and_eq_true,decide_eq_true_eq]
  omega
theorem putL_true {p e:List D} (hn:hasN (sub p 6 4) (gd p 5)=true) (h:(gd (putL p e) 4).bool=true):hasN (sub (putL p e) 0 4) (gd p 5)=true∧hasN (sub (putL p e) 0 4) (.i (endL (sub (putL p e) 0 4)))=true∧gd (putL p e) 4=.b true:=by
 have hb:∃ l,putL p e=logPut l (sub e 0 5)∧(gd l 0).int≤(gd p 5).int∧(gd p 5).int≤endL l:=by
  simp only [hasN,inB,Bool.and_eq_true,decide_eq_true_eq] at hn
  obtain ⟨hlo,h1,h2⟩:=hn
  have hlo:logOk (sub p 6 4)=true:=hlo
  obtain ⟨b0,b1,im,hlen,en,e1⟩:=log_d hlo
  have h2:(gd p 5).int≤endL (sub p 6 4):=h2
  cases hf:((gd p 9).rows.length:Int)==60 with
  | false=>exact ⟨sub p 6 4,by unfold putL; rw [hf]; rfl,h1,h2⟩
  | true =>
   refine ⟨sub (logFold (sub p 6 4) (gd p 5)) 0 4,by unfold putL; rw [hf]; rfl,?_⟩
   have hn':hasN (sub p 6 4) (gd p 5)=true:=by
    simp only [hasN,inB,Bool.and_eq_true,decide_eq_true_eq]
    exact ⟨hlo,h1,h2⟩
   unfold logFold
   rw [hn',cond_true]
   have h1:(gd p 6).int≤(gd p 5).int:=h1
   have en:endL (sub p 6 4)=(gd p 6).int+((gd p 9).rows.length:Int):=en
   have hlen:(gd p 9).rows.length≤60:=hlen
   have b0:0≤(gd p 6).int:=b0
   refine ⟨Int.le_refl _,?_⟩
   show (gd p 5).int≤w64 ((gd p 5).int+(((gd p 9).rows.drop ((gd p 5).int - (gd p 6).int).toNat).length:Int))
   rw [List.length_drop,w64_id (by omega) (by omega)]
   omega
 obtain ⟨l,hl,h1,h2⟩:=hb
 rw [hl] at h ⊢
 obtain ⟨hlo,hp,hlo2,hen⟩:=put_true h
 refine ⟨?_,?_,by rw [hp]; rfl⟩
 ·unfold hasN
  rw [show logOk (sub (sub (logPut l (sub e 0 5)) 0 4) 0 4)=true from hlo2,Bool.true_and,show endL (sub (sub (logPut l (sub e 0 5)) 0 4) 0 4)=endL l+1 from hen]
  have hb:(gd (sub (logPut l (sub e 0 5)) 0 4) 0).int=(gd l 0).int:=by rw [hp]; rfl
  rw [hb]
  simp only [inB,Bool.and_eq_true,decide_eq_true_eq]
  omega
 ·obtain ⟨_,_,_,_,en2,_⟩:=log_d hlo2
  unfold hasN
  rw [show logOk (sub (sub (logPut l (sub e 0 5)) 0 4) 0 4)=true from hlo2,Bool.true_and,show endL (sub (sub (logPut l (sub e 0 5)) 0 4) 0 4)=endL (sub (logPut l (sub e 0 5)) 0 4) from rfl,int_i]
  simp only [inB,Bool.and_eq_true,decide_eq_true_eq]
  omega
def i_OnRequest_1E:Ent:=(35,e2 (.tup [.agg [.d si,.d si,.d si,.d si,.d si,.d si,.d si,.own (1000000,7) true 148,.own (1000000,8) true 69,.own (1000000,9) true 78,.own (1000000,1000010) true 132,.d si,.d si,.own (1000000,1000013) true 74]]) (.one (.c (.cptr [si,si,si,si,si,si,si,si,si,si,si,si,si,si,.sl 148,.sl 69,.sl 78] 0))) fun p q=>(⟨.tup [.agg [.any],.agg [.d si,.d si,.d si,.d si,.d si,.d si,.d si,.own (0,7) true 148,.own (0,8) true 69,.own (0,9) true 78,.own (0,1000010) true 132,.d si,.d si,.own (0,1000013) true 74]],sub (onReqP p ((gd q 0).rows.getD 0 [])) 0 15⟩,repOk (sub p 0 13)&&(leI ((gd p 13).rows.length:Int) 100&&inB (gd ((gd q 0).rows.getD 0 []) 7).int 0 1000000000)))
theorem i_OnRequest_1_ok:EntOk Tryz.prog i_OnRequest_1E:=e2_ok fun p q h=>evFnP_sound (N:=0) (ks:=i_OnRequest_1K) (key:=bo) i_OnRequest_1T_ok (enters Tryz.func35) Tryz.func35 fun hw hw'=>by
 rw [i_OnRequest_1_ev]
 have h:(repOk (sub p 0 13)&&(leI ((gd p 13).rows.length:Int) 100&&inB (gd ((gd q 0).rows.getD 0 []) 7).int 0 1000000000))=true:=h
 simp only [Bool.and_eq_true] at h
 obtain ⟨hr,ho,hcl⟩:=h
 have ho100:((gd p 13).rows.length:Int)≤100:=of_decide_eq_true ho
 simp only [repOk,Bool.and_eq_true] at hr
 have hof:isOfN (gd p 1).int=true:=hr.1
 have hN:hasN (sub p 6 4) (gd p 5)=true:=hr.2.2.2.2.2.2.1
 have h1:((gd p 1).int != 0)=true:=by
  simp only [isOfN,Bool.or_eq_true,beq_iff_eq] at hof
  exact bne_iff_ne.2 (by omega)
 have h5:inB (gd p 1).int 0 5=true:=by
  simp only [isOfN,Bool.or_eq_true,beq_iff_eq] at hof
  simp only [inB,Bool.and_eq_true,decide_eq_true_eq]
  omega
 obtain ⟨hlo,kk,hkk,hkl,hw⟩:=has_d hN
 have hkl:kk≤(gd p 9).rows.length:=hkl
 have hw:w64 ((gd p 5).int - (gd p 6).int)=(kk:Int):=hw
 have hkk:(gd p 5).int - (gd p 6).int=(kk:Int):=hkk
 unfold onReqP
 cases hmode:(gd p 2).int != 1 with
 | true=>rfl
 | false =>
 rw [h1,nd_true,show (gd (sub (isPrimP (sub p 0 14)) 0 16) 15).bool=((gd p 0).int==((gd p 3).int.tmod (gd p 1).int)) from rfl]
 cases (gd p 0).int==((gd p 3).int.tmod (gd p 1).int) with
 | false=>rfl
 | true =>
 have hN':hasN (sub (sub (isPrimP (sub p 0 14)) 0 16) 7 4) (gd (sub (isPrimP (sub p 0 14)) 0 16) 6)=true:=hN
 simp only [hN',hcl,Bool.and_self,sameP_self,ndN_true,nd_true,Bool.not_true,cond_false]
 have hc2:i_OnRequest_1c2 p q=rqSeat p ((gd q 0).rows.getD 0 []):=rfl
 have g3:gd (sub (i_OnRequest_1c2 p q) 0 4) 3=gd (rqSeat p ((gd q 0).rows.getD 0 [])) 3:=rfl
 have g1:gd (sub (i_OnRequest_1c2 p q) 0 4) 1=gd (rqSeat p ((gd q 0).rows.getD 0 [])) 1:=rfl
 have hw':w64 ((gd (sub (isPrimP (sub p 0 14)) 0 16) 6).int - (gd (sub (isPrimP (sub p 0 14)) 0 16) 7).int)=(kk:Int):=hw
 have hl9:(gd (sub (isPrimP (sub p 0 14)) 0 16) 10).rows=(gd p 9).rows:=rfl
 have hany:anyS (fun rr=>ixfRQC (.l [[gd q 0]]) (sub rr 0 5)) (.l ((gd p 9).rows.drop kk))=rqAny p ((gd q 0).rows.getD 0 []):=by
  unfold rqAny rqLate
  rw [hkk,Int.toNat_natCast]
  rfl
 have hms:∀ a b c d:D,msgSm [.i 12,.i 0,a,.i 0,.i 0,.i 0,.i 0,b,c,d,.i 0,.i 0,.i 0,.i 0,.l [],.l [],.l []]=true:=fun _ _ _ _=>rfl
 have ho14:leI ((gd (sub (isPrimP (sub p 0 14)) 0 16) 14).rows.length:Int) 1000000=true:=leI_t (by show ((gd p 13).rows.length:Int)≤1000000; omega)
 simp only [g3,g1,hw',hl9,hms,ho14,Int.toNat_natCast,leI_0,leI_t (show (kk:Int)≤((gd p 9).rows.length:Int) by omega),hany,Bool.and_self,nd_true]
 have hkp:i_OnRequest_1c1 p q=kputP p (rqE ((gd q 0).rows.getD 0 [])):=rfl
 cases hput:(gd (putL p (rqE ((gd q 0).rows.getD 0 []))) 4).bool with
 | false =>
  have hk1:i_OnRequest_1c1 p q = [.i 0,gd p 0,gd p 1,gd p 2,gd p 3,gd p 4,gd p 5,gd p 6,gd p 7,gd p 8,gd p 9,gd p 10,gd p 11,gd p 12,gd p 13,gd (putL p (rqE ((gd q 0).rows.getD 0 []))) 4]:=by
   rw [hkp]
   unfold kputP
   rw [hput]
   rfl
  simp only [hk1,sub,Nat.reduceAdd,gd_cons_zero,gd_cons_succ,hput,Bool.not_false,cond_true]
  unfold rqSame rqOld
  cases (gd (rqSeat p ((gd q 0).rows.getD 0 [])) 3).bool <;> cases (gd (rqSeat p ((gd q 0).rows.getD 0 [])) 1).int==(gd ((gd q 0).rows.getD 0 []) 8).int <;> cases ltI (gd ((gd q 0).rows.getD 0 []) 8).int (gd (rqSeat p ((gd q 0).rows.getD 0 [])) 1).int <;> cases rqAny p ((gd q 0).rows.getD 0 []) <;> rfl
 | true =>
  obtain ⟨n1,n2,n3⟩:=putL_true hN hput
  have hk1:i_OnRequest_1c1 p q = [.i 0,gd p 0,gd p 1,gd p 2,gd p 3,gd p 4,gd p 5,gd (putL p (rqE ((gd q 0).rows.getD 0 []))) 0,gd (putL p (rqE ((gd q 0).rows.getD 0 []))) 1,gd (putL p (rqE ((gd q 0).rows.getD 0 []))) 2,gd (putL p (rqE ((gd q 0).rows.getD 0 []))) 3,gd p 10,gd p 11,gd p 12,gd p 13,gd (putL p (rqE ((gd q 0).rows.getD 0 []))) 4]:=by
   rw [hkp]
   unfold kputP
   rw [hput]
   rfl
  have hc3:i_OnRequest_1c3 p q = [.i 0,gd p 0,gd p 1,gd p 2,gd p 3,gd p 4,gd p 5,gd (putL p (rqE ((gd q 0).rows.getD 0 []))) 0,gd (putL p (rqE ((gd q 0).rows.getD 0 []))) 1,gd (putL p (rqE ((gd q 0).rows.getD 0 []))) 2,gd (putL p (rqE ((gd q 0).rows.getD 0 []))) 3,gd p 10,gd p 11,gd p 12,gd p 13]++prepM (rqP1 p ((gd q 0).rows.getD 0 [])) (.i (rqEnd p ((gd q 0).rows.getD 0 []))) (rqE ((gd q 0).rows.getD 0 [])):=by
   unfold i_OnRequest_1c3
   rw [hk1]
   rfl
  have hc4:i_OnRequest_1c4 p q = [.i 0,gd p 0,gd p 1,gd p 2,gd p 3,gd p 4,gd p 5,gd (putL p (rqE ((gd q 0).rows.getD 0 []))) 0,gd (putL p (rqE ((gd q 0).rows.getD 0 []))) 1,gd (putL p (rqE ((gd q 0).rows.getD 0 []))) 2,gd (putL p (rqE ((gd q 0).rows.getD 0 []))) 3,gd p 10,gd p 11,gd p 12,gd (rqP2 p ((gd q 0).rows.getD 0 [])) 14]:=by
   unfold i_OnRequest_1c4
   rw [hc3]
   rfl
  have hc6:i_OnRequest_1c6 p q=rqP3 p ((gd q 0).rows.getD 0 []):=by
   unfold i_OnRequest_1c6
   rw [hc4]
   rfl
  have hm3:msgSm (sub (sub (i_OnRequest_1c3 p q) 0 32) 15 17)=true:=by rw [hc3]; rfl
  have h314:gd (sub (i_OnRequest_1c3 p q) 0 32) 14=gd p 13:=by rw [hc3]; rfl
  have h32:gd (sub (i_OnRequest_1c3 p q) 0 32) 2=gd p 1:=by rw [hc3]; rfl
  have hlen:leI ((gd (rqP2 p ((gd q 0).rows.getD 0 [])) 14).rows.length:Int) 1000=true:=by
   refine leI_t ?_
   show ((allD (gd p 13) (gd p 0).int (prepM (rqP1 p ((gd q 0).rows.getD 0 [])) (.i (rqEnd p ((gd q 0).rows.getD 0 []))) (rqE ((gd q 0).rows.getD 0 []))) (gd p 1).int.toNat).rows.length:Int)≤1000
   rw [allD_rows,List.length_append]
   have:=allO_len (gd p 0).int (prepM (rqP1 p ((gd q 0).rows.getD 0 [])) (.i (rqEnd p ((gd q 0).rows.getD 0 []))) (rqE ((gd q 0).rows.getD 0 []))) (gd p 1).int.toNat
   simp only [inB,Bool.and_eq_true,decide_eq_true_eq] at h5
   omega
  have n1':hasN [gd (putL p (rqE ((gd q 0).rows.getD 0 []))) 0,gd (putL p (rqE ((gd q 0).rows.getD 0 []))) 1,gd (putL p (rqE ((gd q 0).rows.getD 0 []))) 2,gd (putL p (rqE ((gd q 0).rows.getD 0 []))) 3] (gd p 5)=true:=n1
  have n2':hasN [gd (putL p (rqE ((gd q 0).rows.getD 0 []))) 0,gd (putL p (rqE ((gd q 0).rows.getD 0 []))) 1,gd (putL p (rqE ((gd q 0).rows.getD 0 []))) 2,gd (putL p (rqE ((gd q 0).rows.getD 0 []))) 3] (.i (endL [gd (putL p (rqE ((gd q 0).rows.getD 0 []))) 0,gd (putL p (rqE ((gd q 0).rows.getD 0 []))) 1,gd (putL p (rqE ((gd q 0).rows.getD 0 []))) 2,gd (putL p (rqE ((gd q 0).rows.getD 0 []))) 3]))=true:=n2
  simp only [hm3,h314,h32,h5,leI_t (show ((gd p 13).rows.length:Int)≤1000 by omega),Bool.and_self,nd_true]
  simp only [hk1,hc4,hc6,sub,Nat.reduceAdd,gd_cons_zero,gd_cons_succ,hput,n1',n2',hlen,Bool.not_true,cond_false,Bool.and_self,nd_true]
  unfold rqSame rqOld
  cases (gd (rqSeat p ((gd q 0).rows.getD 0 [])) 3).bool <;> cases (gd (rqSeat p ((gd q 0).rows.getD 0 [])) 1).int==(gd ((gd q 0).rows.getD 0 []) 8).int <;> cases ltI (gd ((gd q 0).rows.getD 0 []) 8).int (gd (rqSeat p ((gd q 0).rows.getD 0 [])) 1).int <;> cases rqAny p ((gd q 0).rows.getD 0 []) <;> cases (gd p 1).int==1 <;> rfl
def i_hearsdE:Ent:=deepE [8,9,15,18]
theorem i_hearsd_ok:EntOk Tryz.prog i_hearsdE:=deepE_ok _
abbrev i_hearsT:FuncId→List T→Option (T × Bool):=find [i_ReplicaOkE,i_copyReplicaE,i_MsgFitsE,i_fieldsE,i_hasE,i_fromE,i_OnRequest_1E,apartE,i_hearsdE]
theorem i_hearsT_ok:CallOk Tryz.prog i_hearsT:=find_ok (fC ⟨i_ReplicaOk_ok,fC ⟨i_copyReplica_ok,fC ⟨i_MsgFits_ok,fC ⟨i_fields_ok,fC ⟨i_has_ok,fC ⟨i_from_ok,fC ⟨i_OnRequest_1_ok,fC ⟨apart_ok,fC ⟨i_hearsd_ok,fN⟩⟩⟩⟩⟩⟩⟩⟩⟩)
abbrev i_hearsK:List Nat:= [0,1,2,3,4,5,8,9,10,11,14,33,47,3000004,3000005,3000006]
def i_hears_evq0 (N:Nat) (p q r s:List D) (r6:Out):List (List D):= [[gd (onReqP (sub r6.pay 83 14) ((gd ((gd r6.pay 31).rows.getD 0 []) 0).rows.getD 0 [])) 14],[gd (onReqP (sub r6.pay 83 14) ((gd ((gd r6.pay 31).rows.getD 0 []) 0).rows.getD 0 [])) 14],[.i 0],[gd r6.pay 37],[gd r6.pay 37],sub (onReqP (sub r6.pay 83 14) ((gd ((gd r6.pay 31).rows.getD 0 []) 0).rows.getD 0 [])) 1 13,[.i 0],[gd r6.pay 37],[gd r6.pay 37],sub r6.pay 0 13,sub r6.pay 13 17,[gd r6.pay 30],[gd r6.pay 31],[gd r6.pay 32],[gd r6.pay 33],[gd r6.pay 34],[gd r6.pay 36],[gd r6.pay 37],[gd r6.pay 38],[gd r6.pay 39],[gd r6.pay 38],sub r6.pay 40 13,sub r6.pay 53 17,sub (onReqP (sub r6.pay 83 14) ((gd ((gd r6.pay 31).rows.getD 0 []) 0).rows.getD 0 [])) 1 13,sub (onReqP (sub r6.pay 83 14) ((gd ((gd r6.pay 31).rows.getD 0 []) 0).rows.getD 0 [])) 1 14]
def i_hears_evq1 (N:Nat) (p q r s:List D) (r6:Out):List (List D):= [[gd r6.pay 96],[gd r6.pay 96],[.i 0],[gd r6.pay 37],[gd r6.pay 37],sub r6.pay 83 13,[.i 0],[gd r6.pay 37],[gd r6.pay 37],sub r6.pay 0 13,sub r6.pay 13 17,[gd r6.pay 30],[gd r6.pay 31],[gd r6.pay 32],[gd r6.pay 33],[gd r6.pay 34],[gd r6.pay 36],[gd r6.pay 37],[gd r6.pay 38],[gd r6.pay 39],[gd r6.pay 38],sub r6.pay 40 13,sub r6.pay 53 17,sub r6.pay 83 13,sub r6.pay 83 14]
def i_hears_evq2 (N:Nat) (p q r s:List D) (r5:Out):List (List D):= [[gd (onReqP (sub r5.pay 83 14) ((gd ((gd r5.pay 31).rows.getD 0 []) 0).rows.getD 0 [])) 14],[gd (onReqP (sub r5.pay 83 14) ((gd ((gd r5.pay 31).rows.getD 0 []) 0).rows.getD 0 [])) 14],[.i 0],[gd r5.pay 37],[gd r5.pay 37],sub (onReqP (sub r5.pay 83 14) ((gd ((gd r5.pay 31).rows.getD 0 []) 0).rows.getD 0 [])) 1 13,[.i 0],[gd r5.pay 37],[gd r5.pay 37],sub r5.pay 0 13,sub r5.pay 13 17,[gd r5.pay 30],[gd r5.pay 31],[gd r5.pay 32],[gd r5.pay 33],[gd r5.pay 34],[gd r5.pay 36],[gd r5.pay 37],[gd r5.pay 38],[gd r5.pay 39],[gd r5.pay 38],sub r5.pay 40 13,sub r5.pay 53 17,sub (onReqP (sub r5.pay 83 14) ((gd ((gd r5.pay 31).rows.getD 0 []) 0).rows.getD 0 [])) 1 13,sub (onReqP (sub r5.pay 83 14) ((gd ((gd r5.pay 31).rows.getD 0 []) 0).rows.getD 0 [])) 1 14]
def i_hears_evq3 (N:Nat) (p q r s:List D) (r5:Out):List (List D):= [[gd r5.pay 96],[gd r5.pay 96],[.i 0],[gd r5.pay 37],[gd r5.pay 37],sub r5.pay 83 13,[.i 0],[gd r5.pay 37],[gd r5.pay 37],sub r5.pay 0 13,sub r5.pay 13 17,[gd r5.pay 30],[gd r5.pay 31],[gd r5.pay 32],[gd r5.pay 33],[gd r5.pay 34],[gd r5.pay 36],[gd r5.pay 37],[gd r5.pay 38],[gd r5.pay 39],[gd r5.pay 38],sub r5.pay 40 13,sub r5.pay 53 17,sub r5.pay 83 13,sub r5.pay 83 14]
theorem i_hears_ev (N:Nat) (p q r s:List D):evFn Tryz.prog i_hearsT N i_hearsK Tryz.f34 (.tup [.agg [.d si,.d si,.d si,.d si,.d si,.d si,.d si,.own (0,7) true 148,.own (0,8) true 69,.own (0,9) true 78,.own (0,1000010) true 132,.d si,.d si],.c (.own (0,1000000) true 74)]) [⟨ag rIReplica,p⟩,⟨ag rIMsg,q⟩,⟨ri,r⟩,⟨.one (.c (.fn 35 [.cptr [si,si,si,si,si,si,si,si,si,si,si,si,si,si,.sl 148,.sl 69,.sl 78] 0])),s⟩]=some (bo,
 bif !(repOk (sub p 0 13)) then some (1,[.i 0,.i 0,.i 0,.i 0,.i 0,.i 0,.i 0,.l [],.l [],.l [],.l [],.i 0,.i 0,.l []])
 else nd (leI ((gd p 7).rows.length:Int) 1000000&&(leI ((gd p 8).rows.length:Int) 1000000&&leI ((gd p 9).rows.length:Int) 1000000)&&vsmS (gd p 10)) ((let r4:Out:=(bif fitsI (sub q 0 17) then nx [gd p 0,gd p 1,gd p 2,gd p 3,gd p 4,gd p 5,gd p 6,gd p 7,gd p 8,gd p 9,gd p 10,gd p 11,gd p 12,gd q 0,gd q 1,gd q 2,gd q 3,gd q 4,gd q 5,gd q 6,gd q 7,gd q 8,gd q 9,gd q 10,gd q 11,gd q 12,gd q 13,gd q 14,gd q 15,gd q 16,gd r 0,gd s 0,.i 0,.i 0,.i 0,.l [],.b (!(repOk (sub p 0 13))),.i 0,.b ((gd q 0).int==(gd r 0).int),gd p 0,gd p 1,gd p 2,gd p 3,gd p 4,gd p 5,gd p 6,gd p 7,gd p 8,gd p 9,gd p 10,gd p 11,gd p 12,gd q 0,gd q 1,gd q 2,gd q 3,gd q 4,gd q 5,gd q 6,gd q 7,gd q 8,gd q 9,gd q 10,gd q 11,gd q 12,gd q 13,gd q 14,gd q 15,gd q 16,.i 0,.i 0,.i 0,.i 0,.i 0,.i 0,.i 0,.l [],.l [],.l [],.l [],.i 0,.i 0,gd (sub (copyRp (sub p 0 13)) 0 13) 0,gd (sub (copyRp (sub p 0 13)) 0 13) 1,gd (sub (copyRp (sub p 0 13)) 0 13) 2,gd (sub (copyRp (sub p 0 13)) 0 13) 3,gd (sub (copyRp (sub p 0 13)) 0 13) 4,gd (sub (copyRp (sub p 0 13)) 0 13) 5,gd (sub (copyRp (sub p 0 13)) 0 13) 6,gd (sub (copyRp (sub p 0 13)) 0 13) 7,gd (sub (copyRp (sub p 0 13)) 0 13) 8,gd (sub (copyRp (sub p 0 13)) 0 13) 9,gd (sub (copyRp (sub p 0 13)) 0 13) 10,gd (sub (copyRp (sub p 0 13)) 0 13) 11,gd (sub (copyRp (sub p 0 13)) 0 13) 12,.l []]
  else nx [gd p 0,gd p 1,gd p 2,gd p 3,gd p 4,gd p 5,gd p 6,gd p 7,gd p 8,gd p 9,gd p 10,gd p 11,gd p 12,gd q 0,gd q 1,gd q 2,gd q 3,gd q 4,gd q 5,gd q 6,gd q 7,gd q 8,gd q 9,gd q 10,gd q 11,gd q 12,gd q 13,gd q 14,gd q 15,gd q 16,gd r 0,gd s 0,.i 0,.i 0,.i 0,.l [],.b (!(repOk (sub p 0 13))),.i 0,.b false,gd p 0,gd p 1,gd p 2,gd p 3,gd p 4,gd p 5,gd p 6,gd p 7,gd p 8,gd p 9,gd p 10,gd p 11,gd p 12,gd q 0,gd q 1,gd q 2,gd q 3,gd q 4,gd q 5,gd q 6,gd q 7,gd q 8,gd q 9,gd q 10,gd q 11,gd q 12,gd q 13,gd q 14,gd q 15,gd q 16,.i 0,.i 0,.i 0,.i 0,.i 0,.i 0,.i 0,.l [],.l [],.l [],.l [],.i 0,.i 0,gd (sub (copyRp (sub p 0 13)) 0 13) 0,gd (sub (copyRp (sub p 0 13)) 0 13) 1,gd (sub (copyRp (sub p 0 13)) 0 13) 2,gd (sub (copyRp (sub p 0 13)) 0 13) 3,gd (sub (copyRp (sub p 0 13)) 0 13) 4,gd (sub (copyRp (sub p 0 13)) 0 13) 5,gd (sub (copyRp (sub p 0 13)) 0 13) 6,gd (sub (copyRp (sub p 0 13)) 0 13) 7,gd (sub (copyRp (sub p 0 13)) 0 13) 8,gd (sub (copyRp (sub p 0 13)) 0 13) 9,gd (sub (copyRp (sub p 0 13)) 0 13) 10,gd (sub (copyRp (sub p 0 13)) 0 13) 11,gd (sub (copyRp (sub p 0 13)) 0 13) 12,.l []]);
  nd r4.isSome ((let r5:Out:=(bif (gd r4.pay 38).bool then nd (leI ((fieldsF (gd r4.pay 30).int).length:Int) 100) (nx [gd r4.pay 0,gd r4.pay 1,gd r4.pay 2,gd r4.pay 3,gd r4.pay 4,gd r4.pay 5,gd r4.pay 6,gd r4.pay 7,gd r4.pay 8,gd r4.pay 9,gd r4.pay 10,gd r4.pay 11,gd r4.pay 12,gd r4.pay 13,gd r4.pay 14,gd r4.pay 15,gd r4.pay 16,gd r4.pay 17,gd r4.pay 18,gd r4.pay 19,gd r4.pay 20,gd r4.pay 21,gd r4.pay 22,gd r4.pay 23,gd r4.pay 24,gd r4.pay 25,gd r4.pay 26,gd r4.pay 27,gd r4.pay 28,gd r4.pay 29,gd r4.pay 30,gd r4.pay 31,gd r4.pay 32,gd r4.pay 33,gd r4.pay 34,gd r4.pay 35,gd r4.pay 36,gd r4.pay 37,gd r4.pay 38,.b (hasB (fieldsF (gd r4.pay 30).int) 70),gd r4.pay 39,gd r4.pay 40,gd r4.pay 41,gd r4.pay 42,gd r4.pay 43,gd r4.pay 44,gd r4.pay 45,gd r4.pay 46,gd r4.pay 47,gd r4.pay 48,gd r4.pay 49,gd r4.pay 50,gd r4.pay 51,gd r4.pay 52,gd r4.pay 53,gd r4.pay 54,gd r4.pay 55,gd r4.pay 56,gd r4.pay 57,gd r4.pay 58,gd r4.pay 59,gd r4.pay 60,gd r4.pay 61,gd r4.pay 62,gd r4.pay 63,gd r4.pay 64,gd r4.pay 65,gd r4.pay 66,gd r4.pay 67,gd r4.pay 68,gd r4.pay 69,gd r4.pay 70,gd r4.pay 71,gd r4.pay 72,gd r4.pay 73,gd r4.pay 74,gd r4.pay 75,gd r4.pay 76,gd r4.pay 77,gd r4.pay 78,gd r4.pay 79,gd r4.pay 80,gd r4.pay 81,gd r4.pay 82,gd r4.pay 83,gd r4.pay 84,gd r4.pay 85,gd r4.pay 86,gd r4.pay 87,gd r4.pay 88,gd r4.pay 89,gd r4.pay 90,gd r4.pay 91,gd r4.pay 92,gd r4.pay 93,gd r4.pay 94,gd r4.pay 95])
  else nx [gd r4.pay 0,gd r4.pay 1,gd r4.pay 2,gd r4.pay 3,gd r4.pay 4,gd r4.pay 5,gd r4.pay 6,gd r4.pay 7,gd r4.pay 8,gd r4.pay 9,gd r4.pay 10,gd r4.pay 11,gd r4.pay 12,gd r4.pay 13,gd r4.pay 14,gd r4.pay 15,gd r4.pay 16,gd r4.pay 17,gd r4.pay 18,gd r4.pay 19,gd r4.pay 20,gd r4.pay 21,gd r4.pay 22,gd r4.pay 23,gd r4.pay 24,gd r4.pay 25,gd r4.pay 26,gd r4.pay 27,gd r4.pay 28,gd r4.pay 29,gd r4.pay 30,gd r4.pay 31,gd r4.pay 32,gd r4.pay 33,gd r4.pay 34,gd r4.pay 35,gd r4.pay 36,gd r4.pay 37,gd r4.pay 38,.b false,gd r4.pay 39,gd r4.pay 40,gd r4.pay 41,gd r4.pay 42,gd r4.pay 43,gd r4.pay 44,gd r4.pay 45,gd r4.pay 46,gd r4.pay 47,gd r4.pay 48,gd r4.pay 49,gd r4.pay 50,gd r4.pay 51,gd r4.pay 52,gd r4.pay 53,gd r4.pay 54,gd r4.pay 55,gd r4.pay 56,gd r4.pay 57,gd r4.pay 58,gd r4.pay 59,gd r4.pay 60,gd r4.pay 61,gd r4.pay 62,gd r4.pay 63,gd r4.pay 64,gd r4.pay 65,gd r4.pay 66,gd r4.pay 67,gd r4.pay 68,gd r4.pay 69,gd r4.pay 70,gd r4.pay 71,gd r4.pay 72,gd r4.pay 73,gd r4.pay 74,gd r4.pay 75,gd r4.pay 76,gd r4.pay 77,gd r4.pay 78,gd r4.pay 79,gd r4.pay 80,gd r4.pay 81,gd r4.pay 82,gd r4.pay 83,gd r4.pay 84,gd r4.pay 85,gd r4.pay 86,gd r4.pay 87,gd r4.pay 88,gd r4.pay 89,gd r4.pay 90,gd r4.pay 91,gd r4.pay 92,gd r4.pay 93,gd r4.pay 94,gd r4.pay 95]);
  nd r5.isSome (bif (gd r5.pay 39).bool then (let r6:Out:=(bif inB (gd r5.pay 54).int 0 (w64 ((gd r5.pay 41).int - 1)) then nx [gd r5.pay 0,gd r5.pay 1,gd r5.pay 2,gd r5.pay 3,gd r5.pay 4,gd r5.pay 5,gd r5.pay 6,gd r5.pay 7,gd r5.pay 8,gd r5.pay 9,gd r5.pay 10,gd r5.pay 11,gd r5.pay 12,gd r5.pay 13,gd r5.pay 14,gd r5.pay 15,gd r5.pay 16,gd r5.pay 17,gd r5.pay 18,gd r5.pay 19,gd r5.pay 20,gd r5.pay 21,gd r5.pay 22,gd r5.pay 23,gd r5.pay 24,gd r5.pay 25,gd r5.pay 26,gd r5.pay 27,gd r5.pay 28,gd r5.pay 29,gd r5.pay 30,gd r5.pay 31,gd r5.pay 32,gd r5.pay 33,gd r5.pay 34,gd r5.pay 35,gd r5.pay 36,gd r5.pay 37,.b ((gd r5.pay 54).int != (gd r5.pay 40).int),gd r5.pay 39,gd r5.pay 40,gd r5.pay 41,gd r5.pay 42,gd r5.pay 43,gd r5.pay 44,gd r5.pay 45,gd r5.pay 46,gd r5.pay 47,gd r5.pay 48,gd r5.pay 49,gd r5.pay 50,gd r5.pay 51,gd r5.pay 52,gd r5.pay 53,gd r5.pay 54,gd r5.pay 55,gd r5.pay 56,gd r5.pay 57,gd r5.pay 58,gd r5.pay 59,gd r5.pay 60,gd r5.pay 61,gd r5.pay 62,gd r5.pay 63,gd r5.pay 64,gd r5.pay 65,gd r5.pay 66,gd r5.pay 67,gd r5.pay 68,gd r5.pay 69,gd r5.pay 70,gd r5.pay 71,gd r5.pay 72,gd r5.pay 73,gd r5.pay 74,gd r5.pay 75,gd r5.pay 76,gd r5.pay 77,gd r5.pay 78,gd r5.pay 79,gd r5.pay 80,gd r5.pay 81,gd r5.pay 82,gd r5.pay 83,gd r5.pay 84,gd r5.pay 85,gd r5.pay 86,gd r5.pay 87,gd r5.pay 88,gd r5.pay 89,gd r5.pay 90,gd r5.pay 91,gd r5.pay 92,gd r5.pay 93,gd r5.pay 94,gd r5.pay 95,gd r5.pay 96]
   else nx [gd r5.pay 0,gd r5.pay 1,gd r5.pay 2,gd r5.pay 3,gd r5.pay 4,gd r5.pay 5,gd r5.pay 6,gd r5.pay 7,gd r5.pay 8,gd r5.pay 9,gd r5.pay 10,gd r5.pay 11,gd r5.pay 12,gd r5.pay 13,gd r5.pay 14,gd r5.pay 15,gd r5.pay 16,gd r5.pay 17,gd r5.pay 18,gd r5.pay 19,gd r5.pay 20,gd r5.pay 21,gd r5.pay 22,gd r5.pay 23,gd r5.pay 24,gd r5.pay 25,gd r5.pay 26,gd r5.pay 27,gd r5.pay 28,gd r5.pay 29,gd r5.pay 30,gd r5.pay 31,gd r5.pay 32,gd r5.pay 33,gd r5.pay 34,gd r5.pay 35,gd r5.pay 36,gd r5.pay 37,.b false,gd r5.pay 39,gd r5.pay 40,gd r5.pay 41,gd r5.pay 42,gd r5.pay 43,gd r5.pay 44,gd r5.pay 45,gd r5.pay 46,gd r5.pay 47,gd r5.pay 48,gd r5.pay 49,gd r5.pay 50,gd r5.pay 51,gd r5.pay 52,gd r5.pay 53,gd r5.pay 54,gd r5.pay 55,gd r5.pay 56,gd r5.pay 57,gd r5.pay 58,gd r5.pay 59,gd r5.pay 60,gd r5.pay 61,gd r5.pay 62,gd r5.pay 63,gd r5.pay 64,gd r5.pay 65,gd r5.pay 66,gd r5.pay 67,gd r5.pay 68,gd r5.pay 69,gd r5.pay 70,gd r5.pay 71,gd r5.pay 72,gd r5.pay 73,gd r5.pay 74,gd r5.pay 75,gd r5.pay 76,gd r5.pay 77,gd r5.pay 78,gd r5.pay 79,gd r5.pay 80,gd r5.pay 81,gd r5.pay 82,gd r5.pay 83,gd r5.pay 84,gd r5.pay 85,gd r5.pay 86,gd r5.pay 87,gd r5.pay 88,gd r5.pay 89,gd r5.pay 90,gd r5.pay 91,gd r5.pay 92,gd r5.pay 93,gd r5.pay 94,gd r5.pay 95,gd r5.pay 96]);
   nd r6.isSome (bif (gd r6.pay 38).bool then nd (repOk (sub (sub r6.pay 83 14) 0 13)&&(leI ((gd r6.pay 96).rows.length:Int) 100&&inB (gd ((gd ((gd r6.pay 31).rows.getD 0 []) 0).rows.getD 0 []) 7).int 0 1000000000)) (ndN 4 (sameP (i_hears_evq0 N p q r s r6) (i_hears_evq0 N p q r s r6)) (some (1,sub (onReqP (sub r6.pay 83 14) ((gd ((gd r6.pay 31).rows.getD 0 []) 0).rows.getD 0 [])) 1 14)))
   else ndN 4 (sameP (i_hears_evq1 N p q r s r6) (i_hears_evq1 N p q r s r6)) (some (1,sub r6.pay 83 14))))
  else bif (gd r5.pay 38).bool then nd (repOk (sub (sub r5.pay 83 14) 0 13)&&(leI ((gd r5.pay 96).rows.length:Int) 100&&inB (gd ((gd ((gd r5.pay 31).rows.getD 0 []) 0).rows.getD 0 []) 7).int 0 1000000000)) (ndN 4 (sameP (i_hears_evq2 N p q r s r5) (i_hears_evq2 N p q r s r5)) (some (1,sub (onReqP (sub r5.pay 83 14) ((gd ((gd r5.pay 31).rows.getD 0 []) 0).rows.getD 0 [])) 1 14)))
  else ndN 4 (sameP (i_hears_evq3 N p q r s r5) (i_hears_evq3 N p q r s r5)) (some (1,sub r5.pay 83 14)))))))):=by kernel_rfl
def kp0 (p:List D):List D:= [gd p 0,gd p 1,gd p 2,gd p 3,gd p 4,gd p 5,gd p 6,.l (gd p 7).rows,.l (gd p 8).rows,.l (gd p 9).rows,.l (cpVs (gd p 10)),gd p 11,gd p 12,.l []]
def hearsF (p m x:List D):List D:=
 bif !repOk p then [.i 0,.i 0,.i 0,.i 0,.i 0,.i 0,.i 0,.l [],.l [],.l [],.l [],.i 0,.i 0,.l []]
 else bif fitsI m&&(gd m 0).int==1 then sub (onReqP (kp0 p) x) 1 14
 else kp0 p
theorem cpVs_row (z:D) {k:Nat} (h:k<z.rows.length):sub ((cpVs z).getD k []) 0 10=cpV (sub (z.rows.getD k []) 0 10):=by
 unfold cpVs
 rw [List.getD_eq_getElem?_getD,List.getElem?_map,List.getElem?_eq_getElem h,List.getD_eq_getElem?_getD,List.getElem?_eq_getElem h]
 rfl
theorem rep_copy (p:List D):repOk (sub (kp0 p) 0 13)=repOk p:=by
 unfold repOk
 have hv:votesOk (.l (cpVs (gd p 10))) (gd p 1).int=votesOk (gd p 10) (gd p 1).int:=by
  unfold votesOk
  rw [rows_l,show (cpVs (gd p 10)).length=(gd p 10).rows.length from List.length_map _]
  rw [Bool.eq_iff_iff]
  simp only [List.all_eq_true,List.mem_range]
  constructor
  ·intro h k hk
   have:=h k hk
   rw [cpVs_row _ hk] at this
   exact this
  ·intro h k hk
   rw [cpVs_row _ hk]
   exact h k hk
 have hl:((cpVs (gd p 10)).length:Int)=((gd p 10).rows.length:Int):=by rw [show (cpVs (gd p 10)).length=(gd p 10).rows.length from List.length_map _]
 have hm:repMode (sub (kp0 p) 0 13)=repMode p:=by
  unfold repMode
  show (bif (gd p 2).int==1 then _ else bif (gd p 2).int==2 then _ else bif (gd p 2).int==0||(gd p 2).int==3 then (gd p 3).int==0&&((gd p 4).int==0&&((gd p 5).int==0&&(sameLg (sub p 6 4) [.i 0,.l [],.l [],.l []]&&((gd p 2).int==3||((cpVs (gd p 10)).length:Int)==0)))) else false)=_
  rw [hl]
  rfl
 show (isOfN (gd p 1).int&&(inB (gd p 0).int 0 (w64 ((gd p 1).int - 1))&&(inB (gd p 3).int 0 1000000000&&(inB (gd p 4).int 0 1000000000&&(inB (gd p 11).int 0 1000000000&&(inB (gd p 12).int 0 1000000000&&(hasN (sub p 6 4) (gd p 5)&&(leI ((cpVs (gd p 10)).length:Int) 20&&(votesOk (.l (cpVs (gd p 10))) (gd p 1).int&&repMode (sub (kp0 p) 0 13))))))))))=_
 rw [hl,hv,hm]
theorem fits_client {m:List D} (h:fitsI m=true) (hk:(gd m 0).int=1):inB (gd m 7).int 0 1000000000=true:=by
 unfold fitsI at h
 rw [hk] at h
 simp only [Bool.and_eq_true,List.all_eq_true,List.mem_range] at h
 exact h.2.1 6 (by omega)
def i_hearsE:Ent:=(34,e4 (ag rIReplica) (ag rIMsg) ri (.one (.c (.fn 35 [.cptr [si,si,si,si,si,si,si,si,si,si,si,si,si,si,.sl 148,.sl 69,.sl 78] 0]))) fun p q r s=>(⟨.tup [.agg [.d si,.d si,.d si,.d si,.d si,.d si,.d si,.own (0,7) true 148,.own (0,8) true 69,.own (0,9) true 78,.own (0,1000010) true 132,.d si,.d si],.c (.own (0,1000000) true 74)],sub (hearsF p q ((gd ((gd s 0).rows.getD 0 []) 0).rows.getD 0 [])) 0 14⟩,(gd r 0).int==1&&(gd ((gd ((gd s 0).rows.getD 0 []) 0).rows.getD 0 []) 7).int==(gd q 7).int))
theorem i_hears_ok:EntOk Tryz.prog i_hearsE:=e4_ok fun p q r s h=>evFn_sound (N:=0) (ks:=i_hearsK) (key:=bo) i_hearsT_ok (enters Tryz.func34) Tryz.func34 fun hw=>by
 rw [i_hears_ev]
 have h:((gd r 0).int==1&&(gd ((gd ((gd s 0).rows.getD 0 []) 0).rows.getD 0 []) 7).int==(gd q 7).int)=true:=h
 simp only [Bool.and_eq_true,beq_iff_eq] at h
 obtain ⟨hr1,hx7⟩:=h
 rw [show repOk (sub p 0 13)=repOk p from rfl,show fitsI (sub q 0 17)=fitsI q from by kernel_rfl]
 unfold hearsF
 cases hr:repOk p with
 | false=>rfl
 | true =>
 have hs:=rep_small hr
 rw [hs]
 cases hf:fitsI q with
 | false =>
  simp only [nd,cond_true,cond_false,Option.isSome_some,Out.code,Out.pay,Option.getD_some,gd_cons_zero,gd_cons_succ,Nat.reduceBEq,Nat.reduceAdd,int_i,bool_b,str_s,rows_l,Bool.not_true,Bool.not_false,beq_self_eq_true,nd_true,sameP_self,ndN_true,Bool.false_and]
  rfl
 | true =>
 rw [hr1]
 cases hk:(gd q 0).int==1 with
 | false =>
  simp only [nd,cond_true,cond_false,Option.isSome_some,Out.code,Out.pay,Option.getD_some,gd_cons_zero,gd_cons_succ,Nat.reduceBEq,Nat.reduceAdd,int_i,bool_b,str_s,rows_l,Bool.not_true,Bool.not_false,beq_self_eq_true,nd_true,sameP_self,ndN_true,Bool.and_false]
  rfl
 | true =>
 have hcl:=fits_client hf (eq_of_beq hk)
 rw [← hx7] at hcl
 have hF:hasB (fieldsF 1) 70=false:=rfl
 have hL:leI ((fieldsF 1).length:Int) 100=true:=rfl
 have hok:(repOk (sub (kp0 p) 0 13)&&(leI ((gd (kp0 p) 13).rows.length:Int) 100&&inB (gd ((gd ((gd s 0).rows.getD 0 []) 0).rows.getD 0 []) 7).int 0 1000000000))=true:=by
  rw [rep_copy,hr,hcl]
  rfl
 simp only [nd,cond_true,cond_false,Option.isSome_some,Out.code,Out.pay,Option.getD_some,gd_cons_zero,gd_cons_succ,Nat.reduceBEq,Nat.reduceAdd,int_i,bool_b,str_s,rows_l,Bool.not_true,Bool.not_false,beq_self_eq_true,hF,hL,hr1,nd_true,sameP_self,ndN_true,Bool.and_self]
 change some (bo,bif (repOk (sub (kp0 p) 0 13)&&(leI ((gd (kp0 p) 13).rows.length:Int) 100&&inB (gd ((gd ((gd s 0).rows.getD 0 []) 0).rows.getD 0 []) 7).int 0 1000000000)) then _ else none)=_
 rw [hok]
 rfl
def i_OnRequestdE:Ent:=deepE [4,5]
theorem i_OnRequestd_ok:EntOk Tryz.prog i_OnRequestdE:=deepE_ok _
abbrev i_OnRequestT:FuncId→List T→Option (T × Bool):=find [i_hearsE,apartE,i_OnRequestdE]
theorem i_OnRequestT_ok:CallOk Tryz.prog i_OnRequestT:=find_ok (fC ⟨i_hears_ok,fC ⟨apart_ok,fC ⟨i_OnRequestd_ok,fN⟩⟩⟩)
abbrev i_OnRequestK:List Nat:= [0,1,2,3,4,5]
theorem i_OnRequest_ev (N:Nat) (p q:List D):evFn Tryz.prog i_OnRequestT N i_OnRequestK Tryz.f9 (.tup [.agg [.d si,.d si,.d si,.d si,.d si,.d si,.d si,.own (0,7) true 148,.own (0,8) true 69,.own (0,9) true 78,.own (0,1000010) true 132,.d si,.d si],.c (.own (0,1000000) true 74)]) [⟨ag rIReplica,p⟩,⟨ag rIMsg,q⟩]=some (bo,
 nd (1==1&&(gd ((gd ([[.l [sub q 0 17]]].getD 0 []) 0).rows.getD 0 []) 7).int==(gd (sub q 0 17) 7).int) (some (1,sub (hearsF (sub p 0 13) (sub q 0 17) ((gd ([[.l [sub q 0 17]]].getD 0 []) 0).rows.getD 0 [])) 0 14))):=by kernel_rfl
def onReqI (p m:List D):List D:=hearsF (sub p 0 13) (sub m 0 17) (sub m 0 17)
def i_OnRequestE:Ent:=(9,e2 (ag rIReplica) (ag rIMsg) fun p q=>(⟨.tup [.agg [.d si,.d si,.d si,.d si,.d si,.d si,.d si,.own (0,7) true 148,.own (0,8) true 69,.own (0,9) true 78,.own (0,1000010) true 132,.d si,.d si],.c (.own (0,1000000) true 74)],sub (onReqI p q) 0 14⟩,true))
theorem i_OnRequest_ok:EntOk Tryz.prog i_OnRequestE:=e2_ok fun p q h=>evFn_sound (N:=0) (ks:=i_OnRequestK) (key:=bo) i_OnRequestT_ok (enters Tryz.func9) Tryz.func9 fun hw=>by
 rw [i_OnRequest_ev]
 have h7:((gd ((gd ([[D.l [sub q 0 17]]].getD 0 []) 0).rows.getD 0 []) 7).int==(gd (sub q 0 17) 7).int)=true:=beq_self_eq_true _
 rw [h7]
 rfl
end Go.Proofs.YthbbbhpjkgpdcaaGreat
namespace Go.Proofs.YthbbbhpjkgpdcaaGreat
set_option maxRecDepth 4096
set_option maxHeartbeats 1000000
abbrev s_l6HearsT:FuncId→List T→Option (T × Bool):=find [s_ReplicaOkE,s_MsgFitsE]
theorem s_l6HearsT_ok:CallOk Tryz.prog s_l6HearsT:=find_ok (fC ⟨s_ReplicaOk_ok,fC ⟨s_MsgFits_ok,fN⟩⟩)
abbrev s_l6HearsK:List Nat:= [0,1,2,3,4,6,20]
theorem s_l6Hears_ev (N:Nat) (p q r:List D):evFn Tryz.prog s_l6HearsT N s_l6HearsK Tryz.f21 rb [⟨ag rIReplica,p⟩,⟨ag rIMsg,q⟩,⟨ri,r⟩]=some (bo,
 bif !(repOk (sub p 0 13)) then ob false
 else bif !(fitsS (sub q 0 17)) then ob false
 else bif (gd q 0).int != (gd r 0).int then ob false
 else bif (gd r 0).int==1 then ob true
 else bif ltI (gd q 1).int (gd p 1).int then ob ((gd q 1).int != (gd p 0).int)
 else ob false):=by kernel_rfl
def hearsB (p m:List D) (k:Int):Bool:=repOk p&&(fitsS m&&((gd m 0).int==k&&(k==1||(ltI (gd m 1).int (gd p 1).int&&(gd m 1).int != (gd p 0).int))))
def s_l6HearsE:Ent:=(21,e3 (ag rIReplica) (ag rIMsg) ri fun p q r=>(⟨rb,[.b (hearsB p q (gd r 0).int)]⟩,true))
theorem s_l6Hears_ok:EntOk Tryz.prog s_l6HearsE:=e3_ok fun p q r h=>evFn_sound (N:=0) (ks:=s_l6HearsK) (key:=bo) s_l6HearsT_ok (enters Tryz.func21) Tryz.func21 fun hw=>by
 rw [s_l6Hears_ev]
 rw [show repOk (sub p 0 13)=repOk p from rfl,show fitsS (sub q 0 17)=fitsS q from by kernel_rfl,bne_not]
 unfold hearsB
 cases repOk p <;> cases fitsS q <;> cases (gd q 0).int==(gd r 0).int <;> cases (gd r 0).int==1 <;> cases ltI (gd q 1).int (gd p 1).int <;> rfl
abbrev s_CommittedT:FuncId→List T→Option (T × Bool):=find [s_ReplicaOkE,s_LogImageE]
theorem s_CommittedT_ok:CallOk Tryz.prog s_CommittedT:=find_ok (fC ⟨s_ReplicaOk_ok,fC ⟨s_LogImage_ok,fN⟩⟩)
abbrev s_CommittedK:List Nat:= [0,1,2,3,7]
theorem s_Committed_ev (N:Nat) (p:List D):evFn Tryz.prog s_CommittedT N s_CommittedK Tryz.f24 (.one (.agg [.d (.sl 148),.d (.sl 69)])) [⟨ag rIReplica,p⟩]=some (bo,
 bif !(repOk (sub p 0 13)) then some (1,[.l [],.l []])
 else some (1,sub (sub (logIm (sub p 6 4) (gd p 5)) 0 3) 0 2)):=by kernel_rfl
def commS (p:List D):List D:=bif repOk p then rqIm p else [.l [],.l []]
def s_CommittedE:Ent:=(24,e1 (ag rIReplica) fun p=>(⟨.one (.agg [.d (.sl 148),.d (.sl 69)]),sub (commS p) 0 2⟩,true))
theorem s_Committed_ok:EntOk Tryz.prog s_CommittedE:=e1_ok fun p h=>evFn_sound (N:=0) (ks:=s_CommittedK) (key:=bo) s_CommittedT_ok (enters Tryz.func24) Tryz.func24 fun hw=>by
 rw [s_Committed_ev]
 rw [show repOk (sub p 0 13)=repOk p from rfl]
 unfold commS
 cases hr:repOk p with
 | false=>rfl
 | true =>
 simp only [repOk,Bool.and_eq_true] at hr
 have hN:hasN (sub p 6 4) (gd p 5)=true:=hr.2.2.2.2.2.2.1
 unfold logIm
 rw [hN]
 rfl
abbrev s_l6PutT:FuncId→List T→Option (T × Bool):=find [s_LogFoldE,s_LogPutE]
theorem s_l6PutT_ok:CallOk Tryz.prog s_l6PutT:=find_ok (fC ⟨s_LogFold_ok,fC ⟨s_LogPut_ok,fN⟩⟩)
abbrev s_l6PutK:List Nat:= [0,1,2,3,4,5,6,12]
theorem s_l6Put_ev (N:Nat) (p q:List D):evFn Tryz.prog s_l6PutT N s_l6PutK Tryz.f26 (.tup [.agg [.d si,.d (.sl 148),.d (.sl 69),.d (.sl 78)],.c (.d .bool)]) [⟨ag rIReplica,p⟩,⟨ag rIEntry,q⟩]=some (bo,
 bif ((gd p 9).rows.length:Int)==60 then some (1,sub (sub (logPut (sub (sub (logFold (sub p 6 4) (gd p 5)) 0 5) 0 4) (sub q 0 5)) 0 5) 0 5)
 else some (1,sub (sub (logPut (sub p 6 4) (sub q 0 5)) 0 5) 0 5)):=by kernel_rfl
def s_l6PutE:Ent:=(26,e2 (ag rIReplica) (ag rIEntry) fun p q=>(⟨.tup [.agg [.d si,.d (.sl 148),.d (.sl 69),.d (.sl 78)],.c (.d .bool)],sub (putL p q) 0 5⟩,true))
theorem s_l6Put_ok:EntOk Tryz.prog s_l6PutE:=e2_ok fun p q h=>evFn_sound (N:=0) (ks:=s_l6PutK) (key:=bo) s_l6PutT_ok (enters Tryz.func26) Tryz.func26 fun hw=>by
 rw [s_l6Put_ev]
 unfold putL
 cases ((gd p 9).rows.length:Int)==60 <;> rfl
abbrev s_l6PrepareT:FuncId→List T→Option (T × Bool):=find [s_LogAtE]
theorem s_l6PrepareT_ok:CallOk Tryz.prog s_l6PrepareT:=find_ok (fC ⟨s_LogAt_ok,fN⟩)
abbrev s_l6PrepareK:List Nat:= [0,1,2,4,5]
theorem s_l6Prepare_ev (N:Nat) (p q:List D):evFn Tryz.prog s_l6PrepareT N s_l6PrepareK Tryz.f28 (.one (.agg [.d si,.d si,.d si,.d si,.d si,.d si,.d si,.d si,.d si,.d si,.d si,.d si,.d si,.d si,.d (.sl 148),.d (.sl 69),.d (.sl 78)])) [⟨ag rIReplica,p⟩,⟨ri,q⟩]=some (bo,
 some (1,[.i 2,gd p 0,gd p 3,gd q 0,gd p 5,.i 0,.i 0,gd (sub (logAt (sub p 6 4) (gd q 0).int) 0 6) 0,gd (sub (logAt (sub p 6 4) (gd q 0).int) 0 6) 1,.i 0,gd (sub (logAt (sub p 6 4) (gd q 0).int) 0 6) 2,gd (sub (logAt (sub p 6 4) (gd q 0).int) 0 6) 3,gd (sub (logAt (sub p 6 4) (gd q 0).int) 0 6) 4,.i 0,.l [],.l [],.l []])):=by kernel_rfl
def s_l6PrepareE:Ent:=(28,e2 (ag rIReplica) ri fun p q=>(⟨.one (.agg [.d si,.d si,.d si,.d si,.d si,.d si,.d si,.d si,.d si,.d si,.d si,.d si,.d si,.d si,.d (.sl 148),.d (.sl 69),.d (.sl 78)]),sub (prepM p (gd q 0) (logAt (sub p 6 4) (gd q 0).int)) 0 17⟩,true))
theorem s_l6Prepare_ok:EntOk Tryz.prog s_l6PrepareE:=e2_ok fun p q h=>evFn_sound (N:=0) (ks:=s_l6PrepareK) (key:=bo) s_l6PrepareT_ok (enters Tryz.func28) Tryz.func28 fun hw=>by
 rw [s_l6Prepare_ev]
 rfl
abbrev s_l6AllT:FuncId→List T→Option (T × Bool):=find [s_l3CopyE]
theorem s_l6AllT_ok:CallOk Tryz.prog s_l6AllT:=find_ok (fC ⟨s_l3Copy_ok,fN⟩)
abbrev s_l6AllK:List Nat:= [0,1,2,3,4,5,6,7,12,18]
noncomputable def s_l6AllL0 (N:Nat) (p q:List D):List D→Out:=loopOf Tryz.prog s_l6AllT N s_l6AllK Tryz.f27 (.one (.c (.d (.sl 74)))) [⟨ag rIReplica,p⟩,⟨ag rIMsg,q⟩] 0
theorem s_l6AllR0 (N:Nat) (p q:List D) (x0 x1 x2 x3 x4 x5 x6 x7 x8 x9 x10 x11 x12 x13 x14 x15 x16 x17 x18 x19 x20 x21 x22 x23 x24 x25 x26 x27 x28 x29 x30 x31 x32 x33 x34 x35 x36 x37 x38 x39 x40 x41 x42 x43 x44 x45 x46 x47 x48 x49 x50 x51 x52 x53 x54 x55 x56 x57 x58 x59 x60 x61 x62 x63 x64:D):(s_l6AllL0 N p q) [x0,x1,x2,x3,x4,x5,x6,x7,x8,x9,x10,x11,x12,x13,x14,x15,x16,x17,x18,x19,x20,x21,x22,x23,x24,x25,x26,x27,x28,x29,x30,x31,x32,x33,x34,x35,x36,x37,x38,x39,x40,x41,x42,x43,x44,x45,x46,x47,x48,x49,x50,x51,x52,x53,x54,x55,x56,x57,x58,x59,x60,x61,x62,x63,x64] =
 bif ltI x34.int x36.int then bif x34.int != x35.int then nd (leI (x62.rows.length:Int) 1000000&&(leI (x63.rows.length:Int) 1000000&&leI (x64.rows.length:Int) 1000000)) (nd (lenOk (x33.rows ++ [[x34,x48,x49,x50,x51,x52,x53,x54,x55,x56,x57,x58,x59,x60,gd (sub (copyLg [x61,x62,x63,x64]) 0 4) 0,gd (sub (copyLg [x61,x62,x63,x64]) 0 4) 1,gd (sub (copyLg [x61,x62,x63,x64]) 0 4) 2,gd (sub (copyLg [x61,x62,x63,x64]) 0 4) 3]])&&true) (nx [x0,x1,x2,x3,x4,x5,x6,x7,x8,x9,x10,x11,x12,x13,x14,x15,x16,x17,x18,x19,x20,x21,x22,x23,x24,x25,x26,x27,x28,x29,x30,x31,x32,.l (x33.rows ++ [[x34,x48,x49,x50,x51,x52,x53,x54,x55,x56,x57,x58,x59,x60,gd (sub (copyLg [x61,x62,x63,x64]) 0 4) 0,gd (sub (copyLg [x61,x62,x63,x64]) 0 4) 1,gd (sub (copyLg [x61,x62,x63,x64]) 0 4) 2,gd (sub (copyLg [x61,x62,x63,x64]) 0 4) 3]]),.i (w64 (x34.int+1)),x35,x36,x37,x38,x39,x40,x41,x42,x43,x44,x45,x46,x47,x48,x49,x50,x51,x52,x53,x54,x55,x56,x57,x58,x59,x60,x61,x62,x63,x64]))
 else nx [x0,x1,x2,x3,x4,x5,x6,x7,x8,x9,x10,x11,x12,x13,x14,x15,x16,x17,x18,x19,x20,x21,x22,x23,x24,x25,x26,x27,x28,x29,x30,x31,x32,x33,.i (w64 (x34.int+1)),x35,x36,x37,x38,x39,x40,x41,x42,x43,x44,x45,x46,x47,x48,x49,x50,x51,x52,x53,x54,x55,x56,x57,x58,x59,x60,x61,x62,x63,x64]
 else ex 0 [x0,x1,x2,x3,x4,x5,x6,x7,x8,x9,x10,x11,x12,x13,x14,x15,x16,x17,x18,x19,x20,x21,x22,x23,x24,x25,x26,x27,x28,x29,x30,x31,x32,x33,x34,x35,x36,x37,x38,x39,x40,x41,x42,x43,x44,x45,x46,x47,x48,x49,x50,x51,x52,x53,x54,x55,x56,x57,x58,x59,x60,x61,x62,x63,x64]:=by kernel_rfl
theorem s_l6All_ev (N:Nat) (p q:List D):evFn Tryz.prog s_l6AllT N s_l6AllK Tryz.f27 (.one (.c (.d (.sl 74)))) [⟨ag rIReplica,p⟩,⟨ag rIMsg,q⟩]=some (bo,
 (let o0:=iter (s_l6AllL0 N p q) N [gd p 0,gd p 1,gd p 2,gd p 3,gd p 4,gd p 5,gd p 6,gd p 7,gd p 8,gd p 9,gd p 10,gd p 11,gd p 12,gd q 0,gd q 1,gd q 2,gd q 3,gd q 4,gd q 5,gd q 6,gd q 7,gd q 8,gd q 9,gd q 10,gd q 11,gd q 12,gd q 13,gd q 14,gd q 15,gd q 16,.i 0,.i 0,.l [],.l [],.i 0,gd p 0,gd p 1,gd p 2,gd p 3,gd p 4,gd p 5,gd p 6,gd p 7,gd p 8,gd p 9,gd p 10,gd p 11,gd p 12,gd q 0,gd q 1,gd q 2,gd q 3,gd q 4,gd q 5,gd q 6,gd q 7,gd q 8,gd q 9,gd q 10,gd q 11,gd q 12,gd q 13,gd q 14,gd q 15,gd q 16]
  nd o0.isSome (nd (o0.code==2) (some (1,[gd o0.pay 33]))))):=by kernel_rfl
def s_l6AllE:Ent:=(27,e2 (ag rIReplica) (ag rIMsg) fun p q=>(⟨.one (.c (.d (.sl 74))),[.l (allO (gd p 0).int q (gd p 1).int.toNat)]⟩,msgSm q&&inB (gd p 1).int 0 5))
theorem s_l6All_ok:EntOk Tryz.prog s_l6AllE:=e2_ok fun p q h=>evFn_sound (N:=6) (ks:=s_l6AllK) (key:=bo) s_l6AllT_ok (enters Tryz.func27) Tryz.func27 fun hw=>by
 rw [s_l6All_ev]
 have h:(msgSm q&&inB (gd p 1).int 0 5)=true:=h
 simp only [Bool.and_eq_true,inB,decide_eq_true_eq] at h
 obtain ⟨h1,h3,h4⟩:=h
 have h1':(leI ((gd q 14).rows.length:Int) 1000000&&(leI ((gd q 15).rows.length:Int) 1000000&&leI ((gd q 16).rows.length:Int) 1000000))=true:=h1
 obtain ⟨n,hn⟩:∃ n:Nat,(gd p 1).int=n:=⟨(gd p 1).int.toNat,by omega⟩
 have e:=run_loop (L:=s_l6AllL0 6 p q) (fun k => [gd p 0,gd p 1,gd p 2,gd p 3,gd p 4,gd p 5,gd p 6,gd p 7,gd p 8,gd p 9,gd p 10,gd p 11,gd p 12,gd q 0,gd q 1,gd q 2,gd q 3,gd q 4,gd q 5,gd q 6,gd q 7,gd q 8,gd q 9,gd q 10,gd q 11,gd q 12,gd q 13,gd q 14,gd q 15,gd q 16,.i 0,.i 0,.l [],.l (allO (gd p 0).int q k),.i (k:Int),gd p 0,gd p 1,gd p 2,gd p 3,gd p 4,gd p 5,gd p 6,gd p 7,gd p 8,gd p 9,gd p 10,gd p 11,gd p 12,gd q 0,gd q 1,gd q 2,gd q 3,gd q 4,gd q 5,gd q 6,gd q 7,gd q 8,gd q 9,gd q 10,gd q 11,gd q 12,gd q 13,gd q 14,gd q 15,gd q 16]) n 0 (fun k hk=>?_) ?_ (N:=6) (by omega)
 ·simp only [Int.natCast_zero] at e
  rw [show allO (gd p 0).int q 0 = [] from rfl] at e
  rw [e,hn,Int.toNat_natCast]
  rfl
 ·show s_l6AllL0 _ p q [_,_,_,_,_,_,_,_,_,_,_,_,_,_,_,_,_,_,_,_,_,_,_,_,_,_,_,_,_,_,_,_,_,_,.i (k:Int),_,_,_,_,_,_,_,_,_,_,_,_,_,_,_,_,_,_,_,_,_,_,_,_,_,_,_,_,_,_]=_
  rw [s_l6AllR0,allO]
  have hl:=allO_len (gd p 0).int q k
  have ho:∀ x,lenOk (allO (gd p 0).int q k ++ [x])=true:=fun x=>lenOk_t (by simp; omega)
  simp only [int_i,rows_l,hn,c_lt hk,h1',ho,w64_succ hk (show n≤9223372036854775807 by omega),Bool.and_self,nd_true]
  cases (k:Int) != (gd p 0).int with
  | false=>rw [cond_false,cond_false,List.append_nil]
  | true=>rfl
 ·show s_l6AllL0 _ p q [_,_,_,_,_,_,_,_,_,_,_,_,_,_,_,_,_,_,_,_,_,_,_,_,_,_,_,_,_,_,_,_,_,_,.i (n:Int),_,_,_,_,_,_,_,_,_,_,_,_,_,_,_,_,_,_,_,_,_,_,_,_,_,_,_,_,_,_]=_
  rw [s_l6AllR0]
  simp only [int_i,hn,c_nlt]
abbrev s_l6AnswersT:FuncId→List T→Option (T × Bool):=find [s_LogImageE,s_LogAtE,s_RunEntryE,s_SeatOfE]
theorem s_l6AnswersT_ok:CallOk Tryz.prog s_l6AnswersT:=find_ok (fC ⟨s_LogImage_ok,fC ⟨s_LogAt_ok,fC ⟨s_RunEntry_ok,fC ⟨s_SeatOf_ok,fN⟩⟩⟩⟩)
abbrev s_l6AnswersK:List Nat:= [0,1,2,3,6,7,8,9,11,12,14,15,16,17,23,42,76]
noncomputable def s_l6AnswersL0 (N:Nat) (p q r:List D):List D→Out:=loopOf Tryz.prog s_l6AnswersT N s_l6AnswersK Tryz.f30 (.one (.c (.d (.sl 74)))) [⟨ag rIReplica,p⟩,⟨ri,q⟩,⟨ri,r⟩] 0
def s_l6Answersc0 (x18 x25 x26 x27 x28:D):List D:=sub (logIm [x25,x26,x27,x28] (.i (w64 (x18.int - 1)))) 0 3
def s_l6Answersc1 (x18 x25 x26 x27 x28:D):List D:=seatOf (sub (s_l6Answersc0 x18 x25 x26 x27 x28) 0 2) (gd (sub (logAt [x25,x26,x27,x28] x18.int) 0 6) 0).int
def s_l6Answersc2 (x18 x25 x26 x27 x28:D):List D:=runEntry (sub (s_l6Answersc0 x18 x25 x26 x27 x28) 0 2) (sub (sub (logAt [x25,x26,x27,x28] x18.int) 0 6) 0 5)
theorem s_l6AnswersR0 (N:Nat) (p q r:List D) (x0 x1 x2 x3 x4 x5 x6 x7 x8 x9 x10 x11 x12 x13 x14 x15 x16 x17 x18 x19 x20 x21 x22 x23 x24 x25 x26 x27 x28 x29 x30 x31:D):(s_l6AnswersL0 N p q r) [x0,x1,x2,x3,x4,x5,x6,x7,x8,x9,x10,x11,x12,x13,x14,x15,x16,x17,x18,x19,x20,x21,x22,x23,x24,x25,x26,x27,x28,x29,x30,x31] =
 bif leI x18.int x14.int then bif !(gd (sub (logAt [x25,x26,x27,x28] x18.int) 0 6) 5).bool then nx [x0,x1,x2,x3,x4,x5,x6,x7,x8,x9,x10,x11,x12,x13,x14,x15,x16,x17,.i (w64 (x18.int+1)),x19,x20,x21,x22,x23,x24,x25,x26,x27,x28,x29,x30,x31]
 else bif (gd (sub (s_l6Answersc2 x18 x25 x26 x27 x28) 0 4) 3).int==0 then nd (lenOk (x17.rows ++ [[.i (-1),.i 12,.i 0,x22,.i 0,.i 0,.i 0,.i 0,gd (sub (logAt [x25,x26,x27,x28] x18.int) 0 6) 0,gd (sub (logAt [x25,x26,x27,x28] x18.int) 0 6) 1,gd (sub (s_l6Answersc2 x18 x25 x26 x27 x28) 0 4) 2,.i 0,.i 0,.i 0,.i 0,.l [],.l [],.l []]])&&true) (nx [x0,x1,x2,x3,x4,x5,x6,x7,x8,x9,x10,x11,x12,x13,x14,x15,x16,.l (x17.rows ++ [[.i (-1),.i 12,.i 0,x22,.i 0,.i 0,.i 0,.i 0,gd (sub (logAt [x25,x26,x27,x28] x18.int) 0 6) 0,gd (sub (logAt [x25,x26,x27,x28] x18.int) 0 6) 1,gd (sub (s_l6Answersc2 x18 x25 x26 x27 x28) 0 4) 2,.i 0,.i 0,.i 0,.i 0,.l [],.l [],.l []]]),.i (w64 (x18.int+1)),x19,x20,x21,x22,x23,x24,x25,x26,x27,x28,x29,x30,x31])
 else bif (gd (sub (s_l6Answersc2 x18 x25 x26 x27 x28) 0 4) 3).int==3 then nd (lenOk (x17.rows ++ [[.i (-1),.i 12,.i 0,x22,.i 0,.i 0,.i 0,.i 0,gd (sub (logAt [x25,x26,x27,x28] x18.int) 0 6) 0,gd (sub (logAt [x25,x26,x27,x28] x18.int) 0 6) 1,gd (sub (s_l6Answersc2 x18 x25 x26 x27 x28) 0 4) 2,.i 0,.i 0,.i 0,.i 0,.l [],.l [],.l []]])&&true) (nx [x0,x1,x2,x3,x4,x5,x6,x7,x8,x9,x10,x11,x12,x13,x14,x15,x16,.l (x17.rows ++ [[.i (-1),.i 12,.i 0,x22,.i 0,.i 0,.i 0,.i 0,gd (sub (logAt [x25,x26,x27,x28] x18.int) 0 6) 0,gd (sub (logAt [x25,x26,x27,x28] x18.int) 0 6) 1,gd (sub (s_l6Answersc2 x18 x25 x26 x27 x28) 0 4) 2,.i 0,.i 0,.i 0,.i 0,.l [],.l [],.l []]]),.i (w64 (x18.int+1)),x19,x20,x21,x22,x23,x24,x25,x26,x27,x28,x29,x30,x31])
 else bif (gd (sub (s_l6Answersc2 x18 x25 x26 x27 x28) 0 4) 3).int==2 then bif (gd (sub (s_l6Answersc1 x18 x25 x26 x27 x28) 0 4) 3).bool then bif (gd (sub (s_l6Answersc1 x18 x25 x26 x27 x28) 0 4) 1).int==(gd (sub (logAt [x25,x26,x27,x28] x18.int) 0 6) 1).int then nd (lenOk (x17.rows ++ [[.i (-1),.i 12,.i 0,x22,.i 0,.i 0,.i 0,.i 0,gd (sub (logAt [x25,x26,x27,x28] x18.int) 0 6) 0,gd (sub (logAt [x25,x26,x27,x28] x18.int) 0 6) 1,gd (sub (s_l6Answersc2 x18 x25 x26 x27 x28) 0 4) 2,.i 0,.i 0,.i 0,.i 0,.l [],.l [],.l []]])&&true) (nx [x0,x1,x2,x3,x4,x5,x6,x7,x8,x9,x10,x11,x12,x13,x14,x15,x16,.l (x17.rows ++ [[.i (-1),.i 12,.i 0,x22,.i 0,.i 0,.i 0,.i 0,gd (sub (logAt [x25,x26,x27,x28] x18.int) 0 6) 0,gd (sub (logAt [x25,x26,x27,x28] x18.int) 0 6) 1,gd (sub (s_l6Answersc2 x18 x25 x26 x27 x28) 0 4) 2,.i 0,.i 0,.i 0,.i 0,.l [],.l [],.l []]]),.i (w64 (x18.int+1)),x19,x20,x21,x22,x23,x24,x25,x26,x27,x28,x29,x30,x31])
 else nx [x0,x1,x2,x3,x4,x5,x6,x7,x8,x9,x10,x11,x12,x13,x14,x15,x16,x17,.i (w64 (x18.int+1)),x19,x20,x21,x22,x23,x24,x25,x26,x27,x28,x29,x30,x31]
 else nx [x0,x1,x2,x3,x4,x5,x6,x7,x8,x9,x10,x11,x12,x13,x14,x15,x16,x17,.i (w64 (x18.int+1)),x19,x20,x21,x22,x23,x24,x25,x26,x27,x28,x29,x30,x31]
 else nx [x0,x1,x2,x3,x4,x5,x6,x7,x8,x9,x10,x11,x12,x13,x14,x15,x16,x17,.i (w64 (x18.int+1)),x19,x20,x21,x22,x23,x24,x25,x26,x27,x28,x29,x30,x31]
 else ex 0 [x0,x1,x2,x3,x4,x5,x6,x7,x8,x9,x10,x11,x12,x13,x14,x15,x16,x17,x18,x19,x20,x21,x22,x23,x24,x25,x26,x27,x28,x29,x30,x31]:=by kernel_rfl
theorem s_l6Answers_ev (N:Nat) (p q r:List D):evFn Tryz.prog s_l6AnswersT N s_l6AnswersK Tryz.f30 (.one (.c (.d (.sl 74)))) [⟨ag rIReplica,p⟩,⟨ri,q⟩,⟨ri,r⟩]=some (bo,
 (let o0:=iter (s_l6AnswersL0 N p q r) N [gd p 0,gd p 1,gd p 2,gd p 3,gd p 4,gd p 5,gd p 6,gd p 7,gd p 8,gd p 9,gd p 10,gd p 11,gd p 12,gd q 0,gd r 0,.i 0,.l [],.l [],.i (w64 ((gd q 0).int+1)),gd p 0,gd p 1,gd p 2,gd p 3,gd p 4,gd p 5,gd p 6,gd p 7,gd p 8,gd p 9,gd p 10,gd p 11,gd p 12]
  nd o0.isSome (nd (o0.code==2) (some (1,[gd o0.pay 17]))))):=by kernel_rfl
theorem at_req {p:List D} {n:Int} (h:logOk p=true) (hn:inB n ((gd p 0).int+1) (endL p)=true):inB (gd (logAt p n) 1).int 1 1000000000=true∧gd (logAt p n) 5=.b true:=by
 unfold logAt
 rw [h,hn,Bool.and_self,cond_true]
 have hd:=log_d h
 obtain ⟨_,_,_,hl,en,_⟩:=hd
 simp only [logOk,Bool.and_eq_true] at h
 have he:=h.2.2.2.1
 simp only [entsOk,List.all_eq_true,List.mem_range] at he
 simp only [inB,Bool.and_eq_true,decide_eq_true_eq] at hn
 have:=he (n - (gd p 0).int - 1).toNat (by omega)
 simp only [entryOk,Bool.and_eq_true] at this
 exact ⟨this.2.1,rfl⟩
theorem no_seat {p:List D} {c:Int} (h:(gd (seatOf p c) 3).bool=false):(gd (seatOf p c) 1).int=0:=by
 unfold seatOf at h ⊢
 cases hc:imOk p&&bsB (gd p 1) c with
 | false=>rfl
 | true=>rw [hc] at h; cases h
def s_l6AnswersE:Ent:=(30,e3 (ag rIReplica) ri ri fun p q r=>(⟨.one (.c (.d (.sl 74))),[.l (ansO p (gd q 0).int ((gd r 0).int - (gd q 0).int).toNat)]⟩,hasN (sub p 6 4) (gd q 0)&&hasN (sub p 6 4) (gd r 0)))
theorem s_l6Answers_ok:EntOk Tryz.prog s_l6AnswersE:=e3_ok fun p q r h=>evFn_sound (N:=62) (ks:=s_l6AnswersK) (key:=bo) s_l6AnswersT_ok (enters Tryz.func30) Tryz.func30 fun hw=>by
 rw [s_l6Answers_ev]
 have h:(hasN (sub p 6 4) (gd q 0)&&hasN (sub p 6 4) (gd r 0))=true:=h
 simp only [Bool.and_eq_true] at h
 obtain ⟨ha,hb⟩:=h
 obtain ⟨hlo,_⟩:=has_d ha
 have hd:=log_d hlo
 obtain ⟨b0,b1,_,hl,en,e1⟩:=hd
 have ha':=ha
 have hb':=hb
 simp only [hasN,inB,Bool.and_eq_true,decide_eq_true_eq] at ha' hb'
 have hb0:(gd (sub p 6 4) 0).int=(gd p 6).int:=rfl
 have hen:endL (sub (sub p 6 4) 0 4)=endL (sub p 6 4):=rfl
 have hll:(gd (sub p 6 4) 3).rows.length≤60:=hl
 rw [hen] at ha' hb'
 obtain ⟨n,hn⟩:∃ n,n=((gd r 0).int - (gd q 0).int).toNat:=⟨_,rfl⟩
 have e:=run_loop (L:=s_l6AnswersL0 62 p q r) (fun k => [gd p 0,gd p 1,gd p 2,gd p 3,gd p 4,gd p 5,gd p 6,gd p 7,gd p 8,gd p 9,gd p 10,gd p 11,gd p 12,gd q 0,gd r 0,.i 0,.l [],.l (ansO p (gd q 0).int k),.i ((gd q 0).int+1+(k:Int)),gd p 0,gd p 1,gd p 2,gd p 3,gd p 4,gd p 5,gd p 6,gd p 7,gd p 8,gd p 9,gd p 10,gd p 11,gd p 12]) n 0 (fun k hk=>?_) ?_ (N:=62) (by omega)
 ·simp only [Int.natCast_zero,Int.add_zero] at e
  rw [show ansO p (gd q 0).int 0 = [] from rfl] at e
  rw [w64_id (x:=(gd q 0).int+1) (by omega) (by omega),e,← hn]
  rfl
 ·show s_l6AnswersL0 _ p q r [_,_,_,_,_,_,_,_,_,_,_,_,_,_,_,_,_,_,.i ((gd q 0).int+1+(k:Int)),_,_,_,_,_,_,_,_,_,_,_,_,_]=_
  rw [s_l6AnswersR0,ansO]
  have hlen:=ansO_len p (gd q 0).int k
  have ho:∀ x,lenOk (ansO p (gd q 0).int k ++ [x])=true:=fun x=>lenOk_t (by simp; omega)
  obtain ⟨m,hm⟩:∃ m,m=(gd q 0).int+1+(k:Int):=⟨_,rfl⟩
  rw [show (gd q 0).int+1+((k+1:Nat):Int)=m+1 from by omega,← hm]
  have hw:w64 (m - 1)=m - 1:=w64_id (by omega) (by omega)
  have hw1:w64 (m+1)=m+1:=w64_id (by omega) (by omega)
  have hh:hasN [gd p 6,gd p 7,gd p 8,gd p 9] (.i (m - 1))=true:=by
   show hasN (sub p 6 4) (.i (m - 1))=true
   unfold hasN
   rw [show logOk (sub (sub p 6 4) 0 4)=true from hlo,Bool.true_and,hen,int_i]
   simp only [inB,Bool.and_eq_true,decide_eq_true_eq]
   omega
  have hin:inB m ((gd (sub p 6 4) 0).int+1) (endL (sub p 6 4))=true:=by simp only [inB,Bool.and_eq_true,decide_eq_true_eq]; omega
  obtain ⟨hq1,hq5⟩:=at_req (p:=sub p 6 4) hlo hin
  have hc0:sub (s_l6Answersc0 (.i m) (gd p 6) (gd p 7) (gd p 8) (gd p 9)) 0 2=ansI p m:=by
   unfold s_l6Answersc0 logIm
   rw [int_i,hw,hh]
   rfl
  have hE:sub (logAt [gd p 6,gd p 7,gd p 8,gd p 9] m) 0 6=sub (ansE p m) 0 6:=rfl
  have hc1:s_l6Answersc1 (.i m) (gd p 6) (gd p 7) (gd p 8) (gd p 9)=seatOf (ansI p m) (gd (ansE p m) 0).int:=by
   unfold s_l6Answersc1
   rw [hc0]
   rfl
  have hc2:s_l6Answersc2 (.i m) (gd p 6) (gd p 7) (gd p 8) (gd p 9)=ansR p m:=by
   unfold s_l6Answersc2
   rw [hc0]
   rfl
  have g0:gd (sub (ansE p m) 0 6) 0=gd (ansE p m) 0:=rfl
  have g1:gd (sub (ansE p m) 0 6) 1=gd (ansE p m) 1:=rfl
  have g5:gd (sub (ansE p m) 0 6) 5=.b true:=hq5
  have g2:gd (sub (ansR p m) 0 4) 2=gd (ansR p m) 2:=rfl
  have g3:gd (sub (ansR p m) 0 4) 3=gd (ansR p m) 3:=rfl
  have g4:∀ c,gd (sub (seatOf (ansI p m) c) 0 4) 1=gd (seatOf (ansI p m) c) 1:=fun _=>rfl
  have g6:∀ c,gd (sub (seatOf (ansI p m) c) 0 4) 3=gd (seatOf (ansI p m) c) 3:=fun _=>rfl
  simp only [int_i,rows_l,bool_b,hw1,hc1,hc2,hE,g0,g1,g2,g3,g4,g5,g6,ho,leI_t (show m≤(gd r 0).int by omega),Bool.not_true,cond_true,cond_false,Bool.and_self,nd_true]
  have hq1:inB (gd (ansE p m) 1).int 1 1000000000=true:=hq1
  simp only [inB,Bool.and_eq_true,decide_eq_true_eq] at hq1
  have hns:(gd (seatOf (ansI p m) (gd (ansE p m) 0).int) 3).bool=false→((gd (seatOf (ansI p m) (gd (ansE p m) 0).int) 1).int==(gd (ansE p m) 1).int)=false:=fun h=>by
   rw [no_seat h]
   exact beq_eq_false_iff_ne.2 (by omega)
  unfold ansC ansRow
  cases h3:(gd (seatOf (ansI p m) (gd (ansE p m) 0).int) 3).bool with
  | false =>
   rw [hns h3]
   cases (gd (ansR p m) 3).int==0 <;> cases (gd (ansR p m) 3).int==3 <;> cases (gd (ansR p m) 3).int==2 <;> simp only [cond_true,cond_false,Bool.or_true,Bool.true_or,Bool.or_false,Bool.false_or,Bool.and_false,Bool.false_and,Bool.true_and,Bool.and_true,List.append_nil] <;> rfl
  | true =>
   cases (gd (ansR p m) 3).int==0 <;> cases (gd (ansR p m) 3).int==3 <;> cases (gd (ansR p m) 3).int==2 <;> cases (gd (seatOf (ansI p m) (gd (ansE p m) 0).int) 1).int==(gd (ansE p m) 1).int <;> simp only [cond_true,cond_false,Bool.or_true,Bool.true_or,Bool.or_false,Bool.false_or,Bool.and_false,Bool.false_and,Bool.true_and,Bool.and_true,Bool.and_self,List.append_nil] <;> rfl
 ·show s_l6AnswersL0 _ p q r [_,_,_,_,_,_,_,_,_,_,_,_,_,_,_,_,_,_,.i ((gd q 0).int+1+(n:Int)),_,_,_,_,_,_,_,_,_,_,_,_,_]=_
  rw [s_l6AnswersR0]
  simp only [int_i,leI_f (show (gd r 0).int<(gd q 0).int+1+(n:Int) by omega),cond_false]
abbrev s_OnRequestT:FuncId→List T→Option (T × Bool):=find [s_l6SameE,s_l6HearsE,s_l6LeadsE,s_CommittedE,s_SeatOfE,s_LogFromE,s_l6PutE,s_LogEndE,s_l6PrepareE,s_l6AllE,s_l6AnswersE]
theorem s_OnRequestT_ok:CallOk Tryz.prog s_OnRequestT:=find_ok (fC ⟨s_l6Same_ok,fC ⟨s_l6Hears_ok,fC ⟨s_l6Leads_ok,fC ⟨s_Committed_ok,fC ⟨s_SeatOf_ok,fC ⟨s_LogFrom_ok,fC ⟨s_l6Put_ok,fC ⟨s_LogEnd_ok,fC ⟨s_l6Prepare_ok,fC ⟨s_l6All_ok,fC ⟨s_l6Answers_ok,fN⟩⟩⟩⟩⟩⟩⟩⟩⟩⟩⟩)
abbrev s_OnRequestK:List Nat:= [0,1,2,3,4,5,6,7,8,9,10,12,13,14,31,49,75,95,121,136,3000005]
noncomputable def s_OnRequestL0 (N:Nat) (p q:List D):List D→Out:=loopOf Tryz.prog s_OnRequestT N s_OnRequestK Tryz.f6 (.tup [.agg [.d si,.d si,.d si,.d si,.d si,.d si,.d si,.d (.sl 148),.d (.sl 69),.d (.sl 78),.d (.sl 132),.d si,.d si],.c (.d (.sl 74))]) [⟨ag rIReplica,p⟩,⟨ag rIMsg,q⟩] 0
theorem s_OnRequestR0 (N:Nat) (p q:List D) (x0 x1 x2 x3 x4 x5 x6 x7 x8 x9 x10 x11 x12 x13 x14 x15 x16 x17 x18 x19 x20 x21 x22 x23 x24 x25 x26 x27 x28 x29 x30 x31 x32 x33 x34 x35 x36 x37 x38 x39 x40 x41 x42 x43 x44 x45 x46 x47 x48 x49 x50 x51 x52 x53 x54 x55 x56 x57 x58 x59 x60 x61 x62 x63 x64 x65 x66 x67 x68 x69 x70 x71 x72 x73 x74 x75 x76 x77 x78 x79 x80 x81 x82 x83 x84 x85 x86 x87 x88 x89 x90 x91 x92 x93 x94 x95 x96 x97 x98 x99 x100:D):(s_OnRequestL0 N p q) [x0,x1,x2,x3,x4,x5,x6,x7,x8,x9,x10,x11,x12,x13,x14,x15,x16,x17,x18,x19,x20,x21,x22,x23,x24,x25,x26,x27,x28,x29,x30,x31,x32,x33,x34,x35,x36,x37,x38,x39,x40,x41,x42,x43,x44,x45,x46,x47,x48,x49,x50,x51,x52,x53,x54,x55,x56,x57,x58,x59,x60,x61,x62,x63,x64,x65,x66,x67,x68,x69,x70,x71,x72,x73,x74,x75,x76,x77,x78,x79,x80,x81,x82,x83,x84,x85,x86,x87,x88,x89,x90,x91,x92,x93,x94,x95,x96,x97,x98,x99,x100] =
 bif ltI x41.int (x40.rows.length:Int) then nd (inRange x41.int x40.rows.length) (bif (gd (x40.rows.getD x41.int.toNat []) 0).int==x62.int then nd (inRange x41.int x40.rows.length) (bif (gd (x40.rows.getD x41.int.toNat []) 1).int==x63.int then some (1,[x85,x86,x87,x88,x89,x90,x91,x92,x93,x94,x95,x96,x97,x35])
 else nx [x0,x1,x2,x3,x4,x5,x6,x7,x8,x9,x10,x11,x12,x13,x14,x15,x16,x17,x18,x19,x20,x21,x22,x23,x24,x25,x26,x27,x28,x29,x30,x31,x32,x33,x34,x35,x36,x37,x38,x39,x40,.i (w64 (x41.int+1)),x42,x43,x44,x45,x46,x47,x48,x49,x50,x51,x52,x53,x54,x55,x56,x57,x58,x59,x60,x61,x62,x63,x64,x65,x66,x67,x68,x69,x70,x71,x72,x73,x74,x75,x76,x77,x78,x79,x80,x81,x82,x83,x84,x85,x86,x87,x88,x89,x90,x91,x92,x93,x94,x95,x96,x97,x98,x99,x100])
 else nx [x0,x1,x2,x3,x4,x5,x6,x7,x8,x9,x10,x11,x12,x13,x14,x15,x16,x17,x18,x19,x20,x21,x22,x23,x24,x25,x26,x27,x28,x29,x30,x31,x32,x33,x34,x35,x36,x37,x38,x39,x40,.i (w64 (x41.int+1)),x42,x43,x44,x45,x46,x47,x48,x49,x50,x51,x52,x53,x54,x55,x56,x57,x58,x59,x60,x61,x62,x63,x64,x65,x66,x67,x68,x69,x70,x71,x72,x73,x74,x75,x76,x77,x78,x79,x80,x81,x82,x83,x84,x85,x86,x87,x88,x89,x90,x91,x92,x93,x94,x95,x96,x97,x98,x99,x100])
 else ex 0 [x0,x1,x2,x3,x4,x5,x6,x7,x8,x9,x10,x11,x12,x13,x14,x15,x16,x17,x18,x19,x20,x21,x22,x23,x24,x25,x26,x27,x28,x29,x30,x31,x32,x33,x34,x35,x36,x37,x38,x39,x40,x41,x42,x43,x44,x45,x46,x47,x48,x49,x50,x51,x52,x53,x54,x55,x56,x57,x58,x59,x60,x61,x62,x63,x64,x65,x66,x67,x68,x69,x70,x71,x72,x73,x74,x75,x76,x77,x78,x79,x80,x81,x82,x83,x84,x85,x86,x87,x88,x89,x90,x91,x92,x93,x94,x95,x96,x97,x98,x99,x100]:=by kernel_rfl
def s_OnRequestc0 (p q:List D):List D:=sub (seatOf (sub (commS (sub p 0 13)) 0 2) (gd q 7).int) 0 4
noncomputable def s_OnRequests0 (N:Nat) (p q:List D):Out:=bif (gd (s_OnRequestc0 p q) 3).bool then nx [gd p 0,gd p 1,gd p 2,gd p 3,gd p 4,gd p 5,gd p 6,gd p 7,gd p 8,gd p 9,gd p 10,gd p 11,gd p 12,gd q 0,gd q 1,gd q 2,gd q 3,gd q 4,gd q 5,gd q 6,gd q 7,gd q 8,gd q 9,gd q 10,gd q 11,gd q 12,gd q 13,gd q 14,gd q 15,gd q 16,.i 0,.i 0,.i 0,.l [],.i 0,.l [],.b (!(primOf (gd p 3).int (gd p 1).int==(gd p 0).int)),.i 0,gd (s_OnRequestc0 p q) 3,.b ((gd (s_OnRequestc0 p q) 1).int==(gd q 8).int),gd p 0,gd p 1,gd p 2,gd p 3,gd p 4,gd p 5,gd p 6,gd p 7,gd p 8,gd p 9,gd p 10,gd p 11,gd p 12,gd q 0,gd q 1,gd q 2,gd q 3,gd q 4,gd q 5,gd q 6,gd q 7,gd q 8,gd q 9,gd q 10,gd q 11,gd q 12,gd q 13,gd q 14,gd q 15,gd q 16,.i 0,.i 0,.i 0,.i 0,.i 0,.i 0,.i 0,.l [],.l [],.l [],.l [],.i 0,.i 0,gd (sub (sameR (sub p 0 13)) 0 13) 0,gd (sub (sameR (sub p 0 13)) 0 13) 1,gd (sub (sameR (sub p 0 13)) 0 13) 2,gd (sub (sameR (sub p 0 13)) 0 13) 3,gd (sub (sameR (sub p 0 13)) 0 13) 4,gd (sub (sameR (sub p 0 13)) 0 13) 5,gd (sub (sameR (sub p 0 13)) 0 13) 6,gd (sub (sameR (sub p 0 13)) 0 13) 7,gd (sub (sameR (sub p 0 13)) 0 13) 8,gd (sub (sameR (sub p 0 13)) 0 13) 9,gd (sub (sameR (sub p 0 13)) 0 13) 10,gd (sub (sameR (sub p 0 13)) 0 13) 11,gd (sub (sameR (sub p 0 13)) 0 13) 12,gd (s_OnRequestc0 p q) 0,gd (s_OnRequestc0 p q) 1,gd (s_OnRequestc0 p q) 2] else nx [gd p 0,gd p 1,gd p 2,gd p 3,gd p 4,gd p 5,gd p 6,gd p 7,gd p 8,gd p 9,gd p 10,gd p 11,gd p 12,gd q 0,gd q 1,gd q 2,gd q 3,gd q 4,gd q 5,gd q 6,gd q 7,gd q 8,gd q 9,gd q 10,gd q 11,gd q 12,gd q 13,gd q 14,gd q 15,gd q 16,.i 0,.i 0,.i 0,.l [],.i 0,.l [],.b (!(primOf (gd p 3).int (gd p 1).int==(gd p 0).int)),.i 0,gd (s_OnRequestc0 p q) 3,.b false,gd p 0,gd p 1,gd p 2,gd p 3,gd p 4,gd p 5,gd p 6,gd p 7,gd p 8,gd p 9,gd p 10,gd p 11,gd p 12,gd q 0,gd q 1,gd q 2,gd q 3,gd q 4,gd q 5,gd q 6,gd q 7,gd q 8,gd q 9,gd q 10,gd q 11,gd q 12,gd q 13,gd q 14,gd q 15,gd q 16,.i 0,.i 0,.i 0,.i 0,.i 0,.i 0,.i 0,.l [],.l [],.l [],.l [],.i 0,.i 0,gd (sub (sameR (sub p 0 13)) 0 13) 0,gd (sub (sameR (sub p 0 13)) 0 13) 1,gd (sub (sameR (sub p 0 13)) 0 13) 2,gd (sub (sameR (sub p 0 13)) 0 13) 3,gd (sub (sameR (sub p 0 13)) 0 13) 4,gd (sub (sameR (sub p 0 13)) 0 13) 5,gd (sub (sameR (sub p 0 13)) 0 13) 6,gd (sub (sameR (sub p 0 13)) 0 13) 7,gd (sub (sameR (sub p 0 13)) 0 13) 8,gd (sub (sameR (sub p 0 13)) 0 13) 9,gd (sub (sameR (sub p 0 13)) 0 13) 10,gd (sub (sameR (sub p 0 13)) 0 13) 11,gd (sub (sameR (sub p 0 13)) 0 13) 12,gd (s_OnRequestc0 p q) 0,gd (s_OnRequestc0 p q) 1,gd (s_OnRequestc0 p q) 2]
def s_OnRequestq0 (N:Nat) (p q:List D) (r5:Out):List (List D):= [[.l ((gd r5.pay 35).rows ++ [[.i (-1),.i 12,.i 0,gd r5.pay 43,.i 0,.i 0,.i 0,.i 0,gd r5.pay 60,gd r5.pay 61,gd r5.pay 98,.i 0,.i 0,.i 0,.i 0,.l [],.l [],.l []]])],[.l ((gd r5.pay 35).rows ++ [[.i (-1),.i 12,.i 0,gd r5.pay 43,.i 0,.i 0,.i 0,.i 0,gd r5.pay 60,gd r5.pay 61,gd r5.pay 98,.i 0,.i 0,.i 0,.i 0,.l [],.l [],.l []]])],[.l [[.i (-1),.i 12,.i 0,gd r5.pay 43,.i 0,.i 0,.i 0,.i 0,gd r5.pay 60,gd r5.pay 61,gd r5.pay 98,.i 0,.i 0,.i 0,.i 0,.l [],.l [],.l []]]],[.i (-1),.i 12,.i 0,gd r5.pay 43,.i 0,.i 0,.i 0,.i 0,gd r5.pay 60,gd r5.pay 61,gd r5.pay 98,.i 0,.i 0,.i 0,.i 0,.l [],.l [],.l []],[.i 12,.i 0,gd r5.pay 43,.i 0,.i 0,.i 0,.i 0,gd r5.pay 60,gd r5.pay 61,gd r5.pay 98,.i 0,.i 0,.i 0,.i 0,.l [],.l [],.l []],sub r5.pay 83 13,[gd r5.pay 98],[.i 0],[gd r5.pay 61],[.i 0],[gd r5.pay 60],[.i 0],[gd r5.pay 43],[.i 0],[gd r5.pay 35],sub r5.pay 0 13,sub r5.pay 13 17,[gd r5.pay 30],[gd r5.pay 31],[gd r5.pay 32],[gd r5.pay 34],[gd r5.pay 35],[gd r5.pay 36],[gd r5.pay 37],[gd r5.pay 38],[gd r5.pay 39],sub r5.pay 40 13,sub r5.pay 53 17,sub r5.pay 83 13,sub r5.pay 83 13,sub r5.pay 96 3]
noncomputable def s_OnRequests1 (N:Nat) (p q:List D) (r5:Out):Out:=nd (((lenOk ((gd r5.pay 35).rows ++ [[.i (-1),.i 12,.i 0,gd r5.pay 43,.i 0,.i 0,.i 0,.i 0,gd r5.pay 60,gd r5.pay 61,gd r5.pay 98,.i 0,.i 0,.i 0,.i 0,.l [],.l [],.l []]])&&true)&&true)&&(sameP (s_OnRequestq0 N p q r5) (s_OnRequestq0 N p q r5))) (some (1,[gd r5.pay 83,gd r5.pay 84,gd r5.pay 85,gd r5.pay 86,gd r5.pay 87,gd r5.pay 88,gd r5.pay 89,gd r5.pay 90,gd r5.pay 91,gd r5.pay 92,gd r5.pay 93,gd r5.pay 94,gd r5.pay 95,.l ((gd r5.pay 35).rows ++ [[.i (-1),.i 12,.i 0,gd r5.pay 43,.i 0,.i 0,.i 0,.i 0,gd r5.pay 60,gd r5.pay 61,gd r5.pay 98,.i 0,.i 0,.i 0,.i 0,.l [],.l [],.l []]])]))
noncomputable def s_OnRequests2 (N:Nat) (p q:List D) (r5:Out):Out:=nd (((lenOk ((gd r5.pay 35).rows ++ [[.i (-1),.i 12,.i 0,gd r5.pay 43,.i 0,.i 0,.i 0,.i 0,gd r5.pay 60,gd r5.pay 61,gd r5.pay 98,.i 0,.i 0,.i 0,.i 0,.l [],.l [],.l []]])&&true)&&true)&&(sameP (s_OnRequestq0 N p q r5) (s_OnRequestq0 N p q r5))) (s_OnRequests1 N p q r5)
noncomputable def s_OnRequests3 (N:Nat) (p q:List D) (r5:Out):Out:=nd (((lenOk ((gd r5.pay 35).rows ++ [[.i (-1),.i 12,.i 0,gd r5.pay 43,.i 0,.i 0,.i 0,.i 0,gd r5.pay 60,gd r5.pay 61,gd r5.pay 98,.i 0,.i 0,.i 0,.i 0,.l [],.l [],.l []]])&&true)&&true)&&(sameP (s_OnRequestq0 N p q r5) (s_OnRequestq0 N p q r5))) (s_OnRequests2 N p q r5)
noncomputable def s_OnRequests4 (N:Nat) (p q:List D) (r5:Out):Out:=nd (((lenOk ((gd r5.pay 35).rows ++ [[.i (-1),.i 12,.i 0,gd r5.pay 43,.i 0,.i 0,.i 0,.i 0,gd r5.pay 60,gd r5.pay 61,gd r5.pay 98,.i 0,.i 0,.i 0,.i 0,.l [],.l [],.l []]])&&true)&&true)&&(sameP (s_OnRequestq0 N p q r5) (s_OnRequestq0 N p q r5))) (s_OnRequests3 N p q r5)
noncomputable def s_OnRequests5 (N:Nat) (p q:List D) (r5:Out):Out:=nd ((lenOk ((gd r5.pay 35).rows ++ [[.i (-1),.i 12,.i 0,gd r5.pay 43,.i 0,.i 0,.i 0,.i 0,gd r5.pay 60,gd r5.pay 61,gd r5.pay 98,.i 0,.i 0,.i 0,.i 0,.l [],.l [],.l []]])&&true)&&true) (s_OnRequests4 N p q r5)
def s_OnRequestc1 (o0:Out):List D:=putL (sub o0.pay 42 13) [gd o0.pay 62,gd o0.pay 63,gd o0.pay 65,gd o0.pay 66,gd o0.pay 67]
def s_OnRequestc2 (o0:Out):List D:=prepM [gd o0.pay 85,gd o0.pay 86,gd o0.pay 87,gd o0.pay 88,gd o0.pay 89,gd o0.pay 90,gd (s_OnRequestc1 o0) 0,gd (s_OnRequestc1 o0) 1,gd (s_OnRequestc1 o0) 2,gd (s_OnRequestc1 o0) 3,gd o0.pay 95,gd o0.pay 96,gd o0.pay 97] (.i (logEnd (sub (s_OnRequestc1 o0) 0 4))) (logAt (sub [gd o0.pay 85,gd o0.pay 86,gd o0.pay 87,gd o0.pay 88,gd o0.pay 89,gd o0.pay 90,gd (s_OnRequestc1 o0) 0,gd (s_OnRequestc1 o0) 1,gd (s_OnRequestc1 o0) 2,gd (s_OnRequestc1 o0) 3,gd o0.pay 95,gd o0.pay 96,gd o0.pay 97] 6 4) (logEnd (sub (s_OnRequestc1 o0) 0 4)))
noncomputable def s_OnRequests6 (N:Nat) (p q:List D) (o0:Out):Out:=nd (lenOk (((gd o0.pay 35).rows++(allO (gd o0.pay 85).int (sub (s_OnRequestc2 o0) 0 17) (gd o0.pay 86).int.toNat))++(ansO [gd o0.pay 85,gd o0.pay 86,gd o0.pay 87,gd o0.pay 88,gd o0.pay 89,.i (logEnd (sub (s_OnRequestc1 o0) 0 4)),gd (s_OnRequestc1 o0) 0,gd (s_OnRequestc1 o0) 1,gd (s_OnRequestc1 o0) 2,gd (s_OnRequestc1 o0) 3,gd o0.pay 95,gd o0.pay 96,gd o0.pay 97] (gd o0.pay 47).int ((logEnd (sub (s_OnRequestc1 o0) 0 4)) - (gd o0.pay 47).int).toNat))&&true) (some (1,[gd o0.pay 85,gd o0.pay 86,gd o0.pay 87,gd o0.pay 88,gd o0.pay 89,.i (logEnd (sub (s_OnRequestc1 o0) 0 4)),gd (s_OnRequestc1 o0) 0,gd (s_OnRequestc1 o0) 1,gd (s_OnRequestc1 o0) 2,gd (s_OnRequestc1 o0) 3,gd o0.pay 95,gd o0.pay 96,gd o0.pay 97,.l (((gd o0.pay 35).rows++(allO (gd o0.pay 85).int (sub (s_OnRequestc2 o0) 0 17) (gd o0.pay 86).int.toNat))++(ansO [gd o0.pay 85,gd o0.pay 86,gd o0.pay 87,gd o0.pay 88,gd o0.pay 89,.i (logEnd (sub (s_OnRequestc1 o0) 0 4)),gd (s_OnRequestc1 o0) 0,gd (s_OnRequestc1 o0) 1,gd (s_OnRequestc1 o0) 2,gd (s_OnRequestc1 o0) 3,gd o0.pay 95,gd o0.pay 96,gd o0.pay 97] (gd o0.pay 47).int ((logEnd (sub (s_OnRequestc1 o0) 0 4)) - (gd o0.pay 47).int).toNat))]))
def s_OnRequestc3 (o0:Out):List D:=putL (sub o0.pay 42 13) [gd o0.pay 62,gd o0.pay 63,gd o0.pay 65,gd o0.pay 66,gd o0.pay 67]
noncomputable def s_OnRequests7 (N:Nat) (p q:List D) (o0:Out):Out:=nd (hasN (sub [gd o0.pay 85,gd o0.pay 86,gd o0.pay 87,gd o0.pay 88,gd o0.pay 89,.i (logEnd (sub (s_OnRequestc3 o0) 0 4)),gd (s_OnRequestc3 o0) 0,gd (s_OnRequestc3 o0) 1,gd (s_OnRequestc3 o0) 2,gd (s_OnRequestc3 o0) 3,gd o0.pay 95,gd o0.pay 96,gd o0.pay 97] 6 4) (gd o0.pay 47)&&hasN (sub [gd o0.pay 85,gd o0.pay 86,gd o0.pay 87,gd o0.pay 88,gd o0.pay 89,.i (logEnd (sub (s_OnRequestc3 o0) 0 4)),gd (s_OnRequestc3 o0) 0,gd (s_OnRequestc3 o0) 1,gd (s_OnRequestc3 o0) 2,gd (s_OnRequestc3 o0) 3,gd o0.pay 95,gd o0.pay 96,gd o0.pay 97] 6 4) (.i (logEnd (sub (s_OnRequestc3 o0) 0 4)))) (s_OnRequests6 N p q o0)
def s_OnRequestc4 (o0:Out):List D:=putL (sub o0.pay 42 13) [gd o0.pay 62,gd o0.pay 63,gd o0.pay 65,gd o0.pay 66,gd o0.pay 67]
noncomputable def s_OnRequests8 (N:Nat) (p q:List D) (o0:Out):Out:=bif (gd o0.pay 43).int==1 then (s_OnRequests7 N p q o0) else some (1,[gd o0.pay 85,gd o0.pay 86,gd o0.pay 87,gd o0.pay 88,gd o0.pay 89,gd o0.pay 90,gd (s_OnRequestc4 o0) 0,gd (s_OnRequestc4 o0) 1,gd (s_OnRequestc4 o0) 2,gd (s_OnRequestc4 o0) 3,gd o0.pay 95,gd o0.pay 96,gd o0.pay 97,.l ((gd o0.pay 35).rows++(allO (gd o0.pay 85).int (sub (prepM [gd o0.pay 85,gd o0.pay 86,gd o0.pay 87,gd o0.pay 88,gd o0.pay 89,gd o0.pay 90,gd (s_OnRequestc4 o0) 0,gd (s_OnRequestc4 o0) 1,gd (s_OnRequestc4 o0) 2,gd (s_OnRequestc4 o0) 3,gd o0.pay 95,gd o0.pay 96,gd o0.pay 97] (.i (logEnd (sub (s_OnRequestc4 o0) 0 4))) (logAt (sub [gd o0.pay 85,gd o0.pay 86,gd o0.pay 87,gd o0.pay 88,gd o0.pay 89,gd o0.pay 90,gd (s_OnRequestc4 o0) 0,gd (s_OnRequestc4 o0) 1,gd (s_OnRequestc4 o0) 2,gd (s_OnRequestc4 o0) 3,gd o0.pay 95,gd o0.pay 96,gd o0.pay 97] 6 4) (logEnd (sub (s_OnRequestc4 o0) 0 4)))) 0 17) (gd o0.pay 86).int.toNat))])
def s_OnRequestc5 (o0:Out):List D:=putL (sub o0.pay 42 13) [gd o0.pay 62,gd o0.pay 63,gd o0.pay 65,gd o0.pay 66,gd o0.pay 67]
noncomputable def s_OnRequests9 (N:Nat) (p q:List D) (o0:Out):Out:=nd (lenOk ((gd o0.pay 35).rows++(allO (gd o0.pay 85).int (sub (prepM [gd o0.pay 85,gd o0.pay 86,gd o0.pay 87,gd o0.pay 88,gd o0.pay 89,gd o0.pay 90,gd (s_OnRequestc5 o0) 0,gd (s_OnRequestc5 o0) 1,gd (s_OnRequestc5 o0) 2,gd (s_OnRequestc5 o0) 3,gd o0.pay 95,gd o0.pay 96,gd o0.pay 97] (.i (logEnd (sub (s_OnRequestc5 o0) 0 4))) (logAt (sub [gd o0.pay 85,gd o0.pay 86,gd o0.pay 87,gd o0.pay 88,gd o0.pay 89,gd o0.pay 90,gd (s_OnRequestc5 o0) 0,gd (s_OnRequestc5 o0) 1,gd (s_OnRequestc5 o0) 2,gd (s_OnRequestc5 o0) 3,gd o0.pay 95,gd o0.pay 96,gd o0.pay 97] 6 4) (logEnd (sub (s_OnRequestc5 o0) 0 4)))) 0 17) (gd o0.pay 86).int.toNat))&&true) (s_OnRequests8 N p q o0)
def s_OnRequestc6 (o0:Out):List D:=putL (sub o0.pay 42 13) [gd o0.pay 62,gd o0.pay 63,gd o0.pay 65,gd o0.pay 66,gd o0.pay 67]
noncomputable def s_OnRequests10 (N:Nat) (p q:List D) (o0:Out):Out:=nd (msgSm (sub (prepM [gd o0.pay 85,gd o0.pay 86,gd o0.pay 87,gd o0.pay 88,gd o0.pay 89,gd o0.pay 90,gd (s_OnRequestc6 o0) 0,gd (s_OnRequestc6 o0) 1,gd (s_OnRequestc6 o0) 2,gd (s_OnRequestc6 o0) 3,gd o0.pay 95,gd o0.pay 96,gd o0.pay 97] (.i (logEnd (sub (s_OnRequestc6 o0) 0 4))) (logAt (sub [gd o0.pay 85,gd o0.pay 86,gd o0.pay 87,gd o0.pay 88,gd o0.pay 89,gd o0.pay 90,gd (s_OnRequestc6 o0) 0,gd (s_OnRequestc6 o0) 1,gd (s_OnRequestc6 o0) 2,gd (s_OnRequestc6 o0) 3,gd o0.pay 95,gd o0.pay 96,gd o0.pay 97] 6 4) (logEnd (sub (s_OnRequestc6 o0) 0 4)))) 0 17)&&inB (gd o0.pay 86).int 0 5) (s_OnRequests9 N p q o0)
noncomputable def s_OnRequests11 (N:Nat) (p q:List D) (o0:Out):Out:=bif !(gd (putL (sub o0.pay 42 13) [gd o0.pay 62,gd o0.pay 63,gd o0.pay 65,gd o0.pay 66,gd o0.pay 67]) 4).bool then some (1,[gd o0.pay 85,gd o0.pay 86,gd o0.pay 87,gd o0.pay 88,gd o0.pay 89,gd o0.pay 90,gd o0.pay 91,gd o0.pay 92,gd o0.pay 93,gd o0.pay 94,gd o0.pay 95,gd o0.pay 96,gd o0.pay 97,gd o0.pay 35]) else (s_OnRequests10 N p q o0)
noncomputable def s_OnRequests12 (N:Nat) (p q:List D) (o0:Out):Out:=bif ltI (gd o0.pay 63).int (gd o0.pay 99).int then some (1,[gd o0.pay 85,gd o0.pay 86,gd o0.pay 87,gd o0.pay 88,gd o0.pay 89,gd o0.pay 90,gd o0.pay 91,gd o0.pay 92,gd o0.pay 93,gd o0.pay 94,gd o0.pay 95,gd o0.pay 96,gd o0.pay 97,gd o0.pay 35]) else (s_OnRequests11 N p q o0)
noncomputable def s_OnRequests13 (N:Nat) (p q:List D) (o0:Out):Out:=nd (o0.code==2) (bif (gd o0.pay 38).bool then (s_OnRequests12 N p q o0) else (s_OnRequests11 N p q o0))
noncomputable def s_OnRequests14 (N:Nat) (p q:List D) (r5:Out):Out:=let o0:Out:=iter (s_OnRequestL0 N p q) N [gd r5.pay 0,gd r5.pay 1,gd r5.pay 2,gd r5.pay 3,gd r5.pay 4,gd r5.pay 5,gd r5.pay 6,gd r5.pay 7,gd r5.pay 8,gd r5.pay 9,gd r5.pay 10,gd r5.pay 11,gd r5.pay 12,gd r5.pay 13,gd r5.pay 14,gd r5.pay 15,gd r5.pay 16,gd r5.pay 17,gd r5.pay 18,gd r5.pay 19,gd r5.pay 20,gd r5.pay 21,gd r5.pay 22,gd r5.pay 23,gd r5.pay 24,gd r5.pay 25,gd r5.pay 26,gd r5.pay 27,gd r5.pay 28,gd r5.pay 29,gd r5.pay 30,gd r5.pay 31,gd r5.pay 32,gd r5.pay 33,gd r5.pay 34,gd r5.pay 35,gd r5.pay 36,gd r5.pay 37,gd r5.pay 38,gd r5.pay 39,(bif hasN (sub r5.pay 46 4) (gd r5.pay 45) then .l ((gd r5.pay 49).rows.drop ((gd r5.pay 45).int - (gd r5.pay 46).int).toNat) else .l []),.i 0,gd r5.pay 40,gd r5.pay 41,gd r5.pay 42,gd r5.pay 43,gd r5.pay 44,gd r5.pay 45,gd r5.pay 46,gd r5.pay 47,gd r5.pay 48,gd r5.pay 49,gd r5.pay 50,gd r5.pay 51,gd r5.pay 52,gd r5.pay 53,gd r5.pay 54,gd r5.pay 55,gd r5.pay 56,gd r5.pay 57,gd r5.pay 58,gd r5.pay 59,gd r5.pay 60,gd r5.pay 61,gd r5.pay 62,gd r5.pay 63,gd r5.pay 64,gd r5.pay 65,gd r5.pay 66,gd r5.pay 67,gd r5.pay 68,gd r5.pay 69,gd r5.pay 70,gd r5.pay 71,gd r5.pay 72,gd r5.pay 73,gd r5.pay 74,gd r5.pay 75,gd r5.pay 76,gd r5.pay 77,gd r5.pay 78,gd r5.pay 79,gd r5.pay 80,gd r5.pay 81,gd r5.pay 82,gd r5.pay 83,gd r5.pay 84,gd r5.pay 85,gd r5.pay 86,gd r5.pay 87,gd r5.pay 88,gd r5.pay 89,gd r5.pay 90,gd r5.pay 91,gd r5.pay 92,gd r5.pay 93,gd r5.pay 94,gd r5.pay 95,gd r5.pay 96,gd r5.pay 97,gd r5.pay 98]; nd o0.isSome (bif o0.code==1 then some (1,o0.pay) else (s_OnRequests13 N p q o0))
noncomputable def s_OnRequests15 (N:Nat) (p q:List D):Out:=let r5:Out:=(s_OnRequests0 N p q); nd r5.isSome (bif (gd r5.pay 39).bool then (s_OnRequests5 N p q r5) else (s_OnRequests14 N p q r5))
def s_OnRequestc7 (p q:List D):List D:=sub (seatOf (sub (commS (sub p 0 13)) 0 2) (gd q 7).int) 0 4
def s_OnRequestq1 (N:Nat) (p q:List D):List (List D):= [[gd (s_OnRequestc7 p q) 3],[.i 0],[gd (s_OnRequestc7 p q) 3],sub (s_OnRequestc7 p q) 0 3,sub (s_OnRequestc7 p q) 0 4,sub (s_OnRequestc7 p q) 0 4,[gd (commS (sub p 0 13)) 0,gd (commS (sub p 0 13)) 1],[gd q 7],[.i 0],sub p 0 13,p,q,[.i 0],[.i 0],[.i 0],[.l []],[.i 0],[.l []],[.b (!(primOf (gd p 3).int (gd p 1).int==(gd p 0).int))],sub p 0 13,sub q 0 17,[.i 0,.i 0,.i 0,.i 0,.i 0,.i 0,.i 0,.l [],.l [],.l [],.l [],.i 0,.i 0],sub (sub (sameR (sub p 0 13)) 0 13) 0 13,sub (s_OnRequestc7 p q) 0 3]
noncomputable def s_OnRequests16 (N:Nat) (p q:List D):Out:=nd (sameP (s_OnRequestq1 N p q) (s_OnRequestq1 N p q)) (s_OnRequests15 N p q)
def s_OnRequestc8 (p q:List D):List D:=sub (seatOf (sub (commS (sub p 0 13)) 0 2) (gd q 7).int) 0 4
def s_OnRequestq2 (N:Nat) (p q:List D):List (List D):= [[gd (s_OnRequestc8 p q) 3],[.i 0],[gd (s_OnRequestc8 p q) 3],sub (s_OnRequestc8 p q) 0 3,sub (s_OnRequestc8 p q) 0 4,sub (s_OnRequestc8 p q) 0 4,[gd (commS (sub p 0 13)) 0,gd (commS (sub p 0 13)) 1],[gd q 7],[.i 0],sub p 0 13,p,q,[.i 0],[.i 0],[.i 0],[.l []],[.i 0],[.l []],[.b (!(primOf (gd p 3).int (gd p 1).int==(gd p 0).int))],sub p 0 13,sub q 0 17,[.i 0,.i 0,.i 0,.i 0,.i 0,.i 0,.i 0,.l [],.l [],.l [],.l [],.i 0,.i 0],sub (sub (sameR (sub p 0 13)) 0 13) 0 13,sub (s_OnRequestc8 p q) 0 3]
noncomputable def s_OnRequests17 (N:Nat) (p q:List D):Out:=nd (sameP (s_OnRequestq2 N p q) (s_OnRequestq2 N p q)) (s_OnRequests16 N p q)
def s_OnRequestc9 (p q:List D):List D:=sub (seatOf (sub (commS (sub p 0 13)) 0 2) (gd q 7).int) 0 4
def s_OnRequestq3 (N:Nat) (p q:List D):List (List D):= [[gd (s_OnRequestc9 p q) 3],[.i 0],[gd (s_OnRequestc9 p q) 3],sub (s_OnRequestc9 p q) 0 3,sub (s_OnRequestc9 p q) 0 4,sub (s_OnRequestc9 p q) 0 4,[gd (commS (sub p 0 13)) 0,gd (commS (sub p 0 13)) 1],[gd q 7],[.i 0],sub p 0 13,p,q,[.i 0],[.i 0],[.i 0],[.l []],[.i 0],[.l []],[.b (!(primOf (gd p 3).int (gd p 1).int==(gd p 0).int))],sub p 0 13,sub q 0 17,[.i 0,.i 0,.i 0,.i 0,.i 0,.i 0,.i 0,.l [],.l [],.l [],.l [],.i 0,.i 0],sub (sub (sameR (sub p 0 13)) 0 13) 0 13,sub (s_OnRequestc9 p q) 0 3]
noncomputable def s_OnRequests18 (N:Nat) (p q:List D):Out:=nd (sameP (s_OnRequestq3 N p q) (s_OnRequestq3 N p q)) (s_OnRequests17 N p q)
def s_OnRequestc10 (p q:List D):List D:=sub (seatOf (sub (commS (sub p 0 13)) 0 2) (gd q 7).int) 0 4
def s_OnRequestq4 (N:Nat) (p q:List D):List (List D):= [[gd (s_OnRequestc10 p q) 3],[.i 0],[gd (s_OnRequestc10 p q) 3],sub (s_OnRequestc10 p q) 0 3,sub (s_OnRequestc10 p q) 0 4,sub (s_OnRequestc10 p q) 0 4,[gd (commS (sub p 0 13)) 0,gd (commS (sub p 0 13)) 1],[gd q 7],[.i 0],sub p 0 13,p,q,[.i 0],[.i 0],[.i 0],[.l []],[.i 0],[.l []],[.b (!(primOf (gd p 3).int (gd p 1).int==(gd p 0).int))],sub p 0 13,sub q 0 17,[.i 0,.i 0,.i 0,.i 0,.i 0,.i 0,.i 0,.l [],.l [],.l [],.l [],.i 0,.i 0],sub (sub (sameR (sub p 0 13)) 0 13) 0 13,sub (s_OnRequestc10 p q) 0 3]
noncomputable def s_OnRequests19 (N:Nat) (p q:List D):Out:=nd (sameP (s_OnRequestq4 N p q) (s_OnRequestq4 N p q)) (s_OnRequests18 N p q)
def s_OnRequestc11 (p q:List D):List D:=sub (seatOf (sub (commS (sub p 0 13)) 0 2) (gd q 7).int) 0 4
def s_OnRequestq5 (N:Nat) (p q:List D):List (List D):= [[gd (s_OnRequestc11 p q) 3],[.i 0],[gd (s_OnRequestc11 p q) 3],sub (s_OnRequestc11 p q) 0 3,sub (s_OnRequestc11 p q) 0 4,sub (s_OnRequestc11 p q) 0 4,[gd (commS (sub p 0 13)) 0,gd (commS (sub p 0 13)) 1],[gd q 7],[.i 0],sub p 0 13,p,q,[.i 0],[.i 0],[.i 0],[.l []],[.i 0],[.l []],[.b (!(primOf (gd p 3).int (gd p 1).int==(gd p 0).int))],sub p 0 13,sub q 0 17,[.i 0,.i 0,.i 0,.i 0,.i 0,.i 0,.i 0,.l [],.l [],.l [],.l [],.i 0,.i 0],sub (sub (sameR (sub p 0 13)) 0 13) 0 13,sub (s_OnRequestc11 p q) 0 3]
noncomputable def s_OnRequests20 (N:Nat) (p q:List D):Out:=nd (sameP (s_OnRequestq5 N p q) (s_OnRequestq5 N p q)) (s_OnRequests19 N p q)
def s_OnRequestc12 (p q:List D):List D:=sub (seatOf (sub (commS (sub p 0 13)) 0 2) (gd q 7).int) 0 4
def s_OnRequestq6 (N:Nat) (p q:List D):List (List D):= [[gd (s_OnRequestc12 p q) 3],[.i 0],[gd (s_OnRequestc12 p q) 3],sub (s_OnRequestc12 p q) 0 3,sub (s_OnRequestc12 p q) 0 4,sub (s_OnRequestc12 p q) 0 4,[gd (commS (sub p 0 13)) 0,gd (commS (sub p 0 13)) 1],[gd q 7],[.i 0],sub p 0 13,p,q,[.i 0],[.i 0],[.i 0],[.l []],[.i 0],[.l []],[.b (!(primOf (gd p 3).int (gd p 1).int==(gd p 0).int))],sub p 0 13,sub q 0 17,[.i 0,.i 0,.i 0,.i 0,.i 0,.i 0,.i 0,.l [],.l [],.l [],.l [],.i 0,.i 0],sub (sub (sameR (sub p 0 13)) 0 13) 0 13,sub (s_OnRequestc12 p q) 0 3]
noncomputable def s_OnRequests21 (N:Nat) (p q:List D):Out:=nd (sameP (s_OnRequestq6 N p q) (s_OnRequestq6 N p q)) (s_OnRequests20 N p q)
noncomputable def s_OnRequests22 (N:Nat) (p q:List D):Out:=bif !(primOf (gd p 3).int (gd p 1).int==(gd p 0).int) then some (1,[gd (sub (sameR (sub p 0 13)) 0 13) 0,gd (sub (sameR (sub p 0 13)) 0 13) 1,gd (sub (sameR (sub p 0 13)) 0 13) 2,gd (sub (sameR (sub p 0 13)) 0 13) 3,gd (sub (sameR (sub p 0 13)) 0 13) 4,gd (sub (sameR (sub p 0 13)) 0 13) 5,gd (sub (sameR (sub p 0 13)) 0 13) 6,gd (sub (sameR (sub p 0 13)) 0 13) 7,gd (sub (sameR (sub p 0 13)) 0 13) 8,gd (sub (sameR (sub p 0 13)) 0 13) 9,gd (sub (sameR (sub p 0 13)) 0 13) 10,gd (sub (sameR (sub p 0 13)) 0 13) 11,gd (sub (sameR (sub p 0 13)) 0 13) 12,.l []]) else (s_OnRequests21 N p q)
noncomputable def s_OnRequests23 (N:Nat) (p q:List D):Out:=bif (gd p 2).int != 1 then some (1,[gd (sub (sameR (sub p 0 13)) 0 13) 0,gd (sub (sameR (sub p 0 13)) 0 13) 1,gd (sub (sameR (sub p 0 13)) 0 13) 2,gd (sub (sameR (sub p 0 13)) 0 13) 3,gd (sub (sameR (sub p 0 13)) 0 13) 4,gd (sub (sameR (sub p 0 13)) 0 13) 5,gd (sub (sameR (sub p 0 13)) 0 13) 6,gd (sub (sameR (sub p 0 13)) 0 13) 7,gd (sub (sameR (sub p 0 13)) 0 13) 8,gd (sub (sameR (sub p 0 13)) 0 13) 9,gd (sub (sameR (sub p 0 13)) 0 13) 10,gd (sub (sameR (sub p 0 13)) 0 13) 11,gd (sub (sameR (sub p 0 13)) 0 13) 12,.l []]) else (s_OnRequests22 N p q)
noncomputable def s_OnRequests24 (N:Nat) (p q:List D):Out:=bif !(hearsB (sub p 0 13) (sub q 0 17) 1) then some (1,[gd (sub (sameR (sub p 0 13)) 0 13) 0,gd (sub (sameR (sub p 0 13)) 0 13) 1,gd (sub (sameR (sub p 0 13)) 0 13) 2,gd (sub (sameR (sub p 0 13)) 0 13) 3,gd (sub (sameR (sub p 0 13)) 0 13) 4,gd (sub (sameR (sub p 0 13)) 0 13) 5,gd (sub (sameR (sub p 0 13)) 0 13) 6,gd (sub (sameR (sub p 0 13)) 0 13) 7,gd (sub (sameR (sub p 0 13)) 0 13) 8,gd (sub (sameR (sub p 0 13)) 0 13) 9,gd (sub (sameR (sub p 0 13)) 0 13) 10,gd (sub (sameR (sub p 0 13)) 0 13) 11,gd (sub (sameR (sub p 0 13)) 0 13) 12,.l []]) else (s_OnRequests23 N p q)
theorem s_OnRequest_ev (N:Nat) (p q:List D):evFn Tryz.prog s_OnRequestT N s_OnRequestK Tryz.f6 (.tup [.agg [.d si,.d si,.d si,.d si,.d si,.d si,.d si,.d (.sl 148),.d (.sl 69),.d (.sl 78),.d (.sl 132),.d si,.d si],.c (.d (.sl 74))]) [⟨ag rIReplica,p⟩,⟨ag rIMsg,q⟩]=some (bo,(s_OnRequests24 N p q)):=by kernel_rfl
theorem fits_same (m:List D):(fitsS m&&(gd m 0).int==1)=(fitsI m&&(gd m 0).int==1):=by
 by_cases h:(gd m 0).int=1
 ·unfold fitsS fitsI
  rw [h,show hasS 1 = [67,82,100] from rfl,show fieldsF 1 = [99,114,120] from rfl]
  rw [show hasB [67,82,100] 102=false from rfl,show hasB [67,82,100] 82=true from rfl,show hasB [67,82,100] 65=false from rfl,show hasB [67,82,100] 118=false from rfl,show hasB [67,82,100] 111=false from rfl,show hasB [67,82,100] 99=false from rfl,show hasB [67,82,100] 110=false from rfl,show hasB [67,82,100] 107=false from rfl,show hasB [67,82,100] 67=true from rfl,show hasB [67,82,100] 100=true from rfl,show hasB [67,82,100] 108=false from rfl]
  rw [show hasB [99,114,120] 120=true from rfl,show hasB [99,114,120] 76=false from rfl]
  have h9:(List.range 9).all (fieldT [99,114,120] m)=(((gd m 1).int==0)&&(((gd m 2).int==0)&&(((gd m 3).int==0)&&(((gd m 4).int==0)&&(((gd m 5).int==0)&&(((gd m 6).int==0)&&((inB (gd m 7).int 0 1000000000)&&((inB (gd m 8).int 1 1000000000)&&(((gd m 9).int==0)&&true))))))))):=rfl
  rw [h9]
  unfold numOk
  simp only [cond_true,cond_false,Bool.and_true]
  by_cases h2:(gd m 2).int=0
  ·by_cases h5:(gd m 5).int=0
   ·rw [h2,h5,show ltI 0 0=false from rfl]
    cases (gd m 1).int==0 <;> cases (gd m 3).int==0 <;> cases (gd m 4).int==0 <;> cases (gd m 6).int==0 <;> cases inB (gd m 7).int 0 1000000000 <;> cases inB (gd m 8).int 1 1000000000 <;> cases (gd m 9).int==0 <;> rfl
   ·rw [show ((gd m 5).int==0)=false from beq_eq_false_iff_ne.2 h5]
    simp only [Bool.false_and,Bool.and_false]
  ·rw [show ((gd m 2).int==0)=false from beq_eq_false_iff_ne.2 h2]
   simp only [Bool.false_and,Bool.and_false]
 ·rw [show ((gd m 0).int==1)=false from beq_eq_false_iff_ne.2 h,Bool.and_false,Bool.and_false]
theorem any_all (z:D) (m:List D):((List.range z.rows.length).all fun k => !rqF (sub (z.rows.getD k []) 0 5) m) = !anyS (fun rr=>rqF (sub rr 0 5) m) z:=by
 have hS:∀ C:List D→Bool,anyS C z=(List.range z.rows.length).any fun j=>C (z.rows.getD j []):=fun C=>by
  have h:=anyS_take (C:=C) (z:=z) (k:=z.rows.length) (Nat.le_refl _)
  rw [List.take_length] at h
  exact h
 rw [hS,List.not_any_eq_all_not]
theorem ansO_congr {p p':List D} (h:sub p 6 4=sub p' 6 4) (h3:gd p 3=gd p' 3) (a:Int):∀ k,ansO p a k=ansO p' a k
 | 0=>rfl
 | k+1=>by
  rw [ansO,ansO,ansO_congr h h3 a k]
  unfold ansC ansRow ansR ansI ansE
  rw [h,h3]
theorem allD_l (r:List (List D)) (me:Int) (m:List D):∀ k,allD (.l r) me m k=.l (r++allO me m k)
 | 0=>by rw [allD,allO,List.append_nil]
 | k+1=>by
  rw [allD,allO,allD_l r me m k,rows_l]
  cases (k:Int) != me with
  | false=>rw [cond_false,cond_false,List.append_nil]
  | true=>rw [cond_true,cond_true,List.append_assoc]
theorem ansD_l (r:List (List D)) (p:List D) (a:Int):∀ k,ansD (.l r) p a k=.l (r++ansO p a k)
 | 0=>by rw [ansD,ansO,List.append_nil]
 | k+1=>by
  rw [ansD,ansO,ansD_l r p a k,rows_l]
  cases ansC p (a+1+(k:Int)) with
  | false=>rw [cond_false,cond_false,List.append_nil]
  | true=>rw [cond_true,cond_true,List.append_assoc]
theorem at_end {l e:List D} (h:(gd (logPut l e) 4).bool=true):logAt (sub (logPut l e) 0 4) (endL (sub (logPut l e) 0 4)) = [gd e 0,gd e 1,gd e 2,gd e 3,gd e 4,.b true]:=by
 obtain ⟨hlo,hp,hlo2,hen⟩:=put_true h
 obtain ⟨b0,b1,im,hlen,en,e1⟩:=log_d hlo
 unfold logAt
 rw [hlo2,hen]
 have hb:(gd (sub (logPut l e) 0 4) 0).int=(gd l 0).int:=by rw [hp]; rfl
 have hin:inB (endL l+1) ((gd (sub (logPut l e) 0 4) 0).int+1) (endL l+1)=true:=by
  rw [hb]
  simp only [inB,Bool.and_eq_true,decide_eq_true_eq]
  omega
 rw [hin,Bool.and_self,cond_true]
 have hE:entAt (sub (logPut l e) 0 4) (endL l+1)=sub e 0 5:=by
  unfold entAt
  rw [hb,show gd (sub (logPut l e) 0 4) 3=.l ((gd l 3).rows ++ [sub e 0 5]) from by rw [hp]; rfl,rows_l,show (endL l+1 - (gd l 0).int - 1).toNat=(gd l 3).rows.length from by omega,getD_mid (gd l 3).rows (sub e 0 5) []]
 rw [hE]
 rfl
theorem runS_l {p p':List D} (h0:(gd p 0).rows=(gd p' 0).rows) (h1:(gd p 1).rows=(gd p' 1).rows) (z:D):∀ k,runS p z k=runS p' z k
 | 0=>by rw [runS,runS,h0,h1]
 | k+1=>by rw [runS,runS,runS_l h0 h1 z k]
theorem imageL_l (p:List D) (n:Int):imageL (sub (kp0 p) 6 4) n=imageL (sub p 6 4) n:=by
 unfold imageL runAll
 rw [runS_l (p:=sub (sub (kp0 p) 6 4) 1 2) (p':=sub (sub p 6 4) 1 2) rfl rfl]
 rfl
theorem rqSeat_l (p q:List D):rqSeat (kp0 p) q=rqSeat p q:=by
 unfold rqSeat rqIm
 rw [imageL_l]
 rfl
theorem logFold_l (p:List D) (n:D):logFold (sub (kp0 p) 6 4) n=logFold (sub p 6 4) n:=by
 unfold logFold
 rw [imageL_l]
 rfl
theorem putL_l (p e:List D):putL (kp0 p) e=putL p e:=by
 unfold putL
 rw [logFold_l]
 show logPut (bif ((gd p 9).rows.length:Int)==60 then sub (logFold (sub p 6 4) (gd p 5)) 0 4 else sub (kp0 p) 6 4) (sub e 0 5)=_
 cases ((gd p 9).rows.length:Int)==60 with
 | true=>rfl
 | false=>rfl
def rq5 (p q:List D) (w b:D):List D:= [gd p 0,gd p 1,gd p 2,gd p 3,gd p 4,gd p 5,gd p 6,gd p 7,gd p 8,gd p 9,gd p 10,gd p 11,gd p 12,gd q 0,gd q 1,gd q 2,gd q 3,gd q 4,gd q 5,gd q 6,gd q 7,gd q 8,gd q 9,gd q 10,gd q 11,gd q 12,gd q 13,gd q 14,gd q 15,gd q 16,.i 0,.i 0,.i 0,.l [],.i 0,.l [],w,.i 0,gd (rqSeat p q) 3,b,gd p 0,gd p 1,gd p 2,gd p 3,gd p 4,gd p 5,gd p 6,gd p 7,gd p 8,gd p 9,gd p 10,gd p 11,gd p 12,gd q 0,gd q 1,gd q 2,gd q 3,gd q 4,gd q 5,gd q 6,gd q 7,gd q 8,gd q 9,gd q 10,gd q 11,gd q 12,gd q 13,gd q 14,gd q 15,gd q 16,.i 0,.i 0,.i 0,.i 0,.i 0,.i 0,.i 0,.l [],.l [],.l [],.l [],.i 0,.i 0,gd p 0,gd p 1,gd p 2,gd p 3,gd p 4,gd p 5,gd p 6,.l (gd p 7).rows,.l (gd p 8).rows,.l (gd p 9).rows,.l (cpVs (gd p 10)),gd p 11,gd p 12,gd (rqSeat p q) 0,gd (rqSeat p q) 1,gd (rqSeat p q) 2]
def rq6 (p q:List D) (w z k:D):List D:= [gd p 0,gd p 1,gd p 2,gd p 3,gd p 4,gd p 5,gd p 6,gd p 7,gd p 8,gd p 9,gd p 10,gd p 11,gd p 12,gd q 0,gd q 1,gd q 2,gd q 3,gd q 4,gd q 5,gd q 6,gd q 7,gd q 8,gd q 9,gd q 10,gd q 11,gd q 12,gd q 13,gd q 14,gd q 15,gd q 16,.i 0,.i 0,.i 0,.l [],.i 0,.l [],w,.i 0,gd (rqSeat p q) 3,.b false,z,k,gd p 0,gd p 1,gd p 2,gd p 3,gd p 4,gd p 5,gd p 6,gd p 7,gd p 8,gd p 9,gd p 10,gd p 11,gd p 12,gd q 0,gd q 1,gd q 2,gd q 3,gd q 4,gd q 5,gd q 6,gd q 7,gd q 8,gd q 9,gd q 10,gd q 11,gd q 12,gd q 13,gd q 14,gd q 15,gd q 16,.i 0,.i 0,.i 0,.i 0,.i 0,.i 0,.i 0,.l [],.l [],.l [],.l [],.i 0,.i 0,gd p 0,gd p 1,gd p 2,gd p 3,gd p 4,gd p 5,gd p 6,.l (gd p 7).rows,.l (gd p 8).rows,.l (gd p 9).rows,.l (cpVs (gd p 10)),gd p 11,gd p 12,gd (rqSeat p q) 0,gd (rqSeat p q) 1,gd (rqSeat p q) 2]
theorem zOR0 (N:Nat) (p q:List D) (h:repOk p=true):s_OnRequests0 N p q=nx (rq5 p q (.b (!(primOf (gd p 3).int (gd p 1).int==(gd p 0).int))) (.b (rqSame p q))):=by
 have hsm:sub (sameR (sub p 0 13)) 0 13 = [gd p 0,gd p 1,gd p 2,gd p 3,gd p 4,gd p 5,gd p 6,.l (gd p 7).rows,.l (gd p 8).rows,.l (gd p 9).rows,.l (cpVs (gd p 10)),gd p 11,gd p 12]:=by
  unfold sameR
  rw [show repOk (sub p 0 13)=true from h]
  rfl
 have hc0:s_OnRequestc0 p q=sub (rqSeat p q) 0 4:=by
  unfold s_OnRequestc0 commS
  rw [show repOk (sub p 0 13)=true from h]
  rfl
 unfold s_OnRequests0
 rw [hsm,hc0,show gd (sub (rqSeat p q) 0 4) 3=gd (rqSeat p q) 3 from rfl]
 unfold rqSame
 cases (gd (rqSeat p q) 3).bool <;> rfl
theorem zOR15 {N:Nat} {p q:List D} {w:D} {b:Bool} (h:s_OnRequests0 N p q=nx (rq5 p q w (.b b))):s_OnRequests15 N p q=bif b then s_OnRequests5 N p q (nx (rq5 p q w (.b true))) else s_OnRequests14 N p q (nx (rq5 p q w (.b false))):=by
 unfold s_OnRequests15
 rw [h]
 cases b
 ·kernel_rfl
 ·kernel_rfl
theorem zOR5 (N:Nat) (p q:List D) (r5:Out) (h:(gd r5.pay 35).rows = []):s_OnRequests5 N p q r5=some (1,[gd r5.pay 83,gd r5.pay 84,gd r5.pay 85,gd r5.pay 86,gd r5.pay 87,gd r5.pay 88,gd r5.pay 89,gd r5.pay 90,gd r5.pay 91,gd r5.pay 92,gd r5.pay 93,gd r5.pay 94,gd r5.pay 95,.l ([] ++ [[.i (-1),.i 12,.i 0,gd r5.pay 43,.i 0,.i 0,.i 0,.i 0,gd r5.pay 60,gd r5.pay 61,gd r5.pay 98,.i 0,.i 0,.i 0,.i 0,.l [],.l [],.l []]])]):=by
 have hl:∀ x:List D,lenOk ([] ++ [x])=true:=fun x=>lenOk_t (by simp)
 unfold s_OnRequests5 s_OnRequests4 s_OnRequests3 s_OnRequests2 s_OnRequests1
 simp only [sameP_self,h,hl,Bool.and_true,nd_true]
theorem zOR13 (N:Nat) (p q:List D) (w z k:D):s_OnRequests13 N p q (some (2,rq6 p q w z k))=bif rqOld p q then some (1,kp0 p) else bif !(gd (putL p (rqE q)) 4).bool then some (1,kp0 p) else s_OnRequests10 N p q (some (2,rq6 p q w z k)):=by
 have h11:s_OnRequests11 N p q (some (2,rq6 p q w z k))=bif !(gd (putL p (rqE q)) 4).bool then some (1,kp0 p) else s_OnRequests10 N p q (some (2,rq6 p q w z k)):=by kernel_rfl
 have h13:s_OnRequests13 N p q (some (2,rq6 p q w z k))=bif (gd (rqSeat p q) 3).bool then (bif ltI (gd q 8).int (gd (rqSeat p q) 1).int then some (1,kp0 p) else s_OnRequests11 N p q (some (2,rq6 p q w z k))) else s_OnRequests11 N p q (some (2,rq6 p q w z k)):=by kernel_rfl
 rw [h13,h11]
 unfold rqOld
 cases (gd (rqSeat p q) 3).bool <;> rfl
theorem zOR8 (N:Nat) (p q:List D) (w z k:D) (hN:hasN (sub p 6 4) (gd p 5)=true) (hb:(gd (putL p (rqE q)) 4).bool=true) (h5:inB (gd p 1).int 0 5=true) :
  s_OnRequests10 N p q (some (2,rq6 p q w z k))=some (1,sub (bif (gd p 1).int==1 then rqP3 (kp0 p) q else rqP2 (kp0 p) q) 1 14):=by
 obtain ⟨n1,n2,n3⟩:=putL_true hN hb
 obtain ⟨hlo,_⟩:=has_d n1
 have hd:=log_d hlo
 have hat:logAt (sub (putL p (rqE q)) 0 4) (endL (sub (putL p (rqE q)) 0 4)) = [gd (rqE q) 0,gd (rqE q) 1,gd (rqE q) 2,gd (rqE q) 3,gd (rqE q) 4,.b true]:=at_end (l:=(bif ((gd p 9).rows.length:Int)==60 then sub (logFold (sub p 6 4) (gd p 5)) 0 4 else sub p 6 4)) (e:=sub (rqE q) 0 5) hb
 have hend:logEnd (sub (putL p (rqE q)) 0 4)=endL (sub (putL p (rqE q)) 0 4):=by
  unfold logEnd
  rw [show logOk (sub (sub (putL p (rqE q)) 0 4) 0 4)=true from hlo]
  rfl
 have hE:rqEnd (kp0 p) q=endL (sub (putL p (rqE q)) 0 4):=by unfold rqEnd; rw [putL_l]
 have hP1:rqP1 (kp0 p) q = [gd p 0,gd p 1,gd p 2,gd p 3,gd p 4,gd p 5,gd (putL p (rqE q)) 0,gd (putL p (rqE q)) 1,gd (putL p (rqE q)) 2,gd (putL p (rqE q)) 3,.l (cpVs (gd p 10)),gd p 11,gd p 12,.l []]:=by unfold rqP1; rw [putL_l]; rfl
 have hM:∀ c:List D,c=putL p (rqE q)→sub (prepM [gd p 0,gd p 1,gd p 2,gd p 3,gd p 4,gd p 5,gd c 0,gd c 1,gd c 2,gd c 3,.l (cpVs (gd p 10)),gd p 11,gd p 12] (.i (logEnd (sub c 0 4))) (logAt (sub [gd p 0,gd p 1,gd p 2,gd p 3,gd p 4,gd p 5,gd c 0,gd c 1,gd c 2,gd c 3,.l (cpVs (gd p 10)),gd p 11,gd p 12] 6 4) (logEnd (sub c 0 4)))) 0 17=prepM (rqP1 (kp0 p) q) (.i (rqEnd (kp0 p) q)) (rqE q):=fun c hc=>by
  subst hc
  rw [show sub [gd p 0,gd p 1,gd p 2,gd p 3,gd p 4,gd p 5,gd (putL p (rqE q)) 0,gd (putL p (rqE q)) 1,gd (putL p (rqE q)) 2,gd (putL p (rqE q)) 3,.l (cpVs (gd p 10)),gd p 11,gd p 12] 6 4=sub (putL p (rqE q)) 0 4 from rfl,hend,hat,hE,hP1]
  rfl
 have hlen:=allO_len (gd p 0).int (prepM (rqP1 (kp0 p) q) (.i (rqEnd (kp0 p) q)) (rqE q)) (gd p 1).int.toNat
 have h5':=h5
 simp only [inB,Bool.and_eq_true,decide_eq_true_eq] at h5'
 have h10:s_OnRequests10 N p q (some (2,rq6 p q w z k))=nd (msgSm (sub (prepM [gd p 0,gd p 1,gd p 2,gd p 3,gd p 4,gd p 5,gd (putL p (rqE q)) 0,gd (putL p (rqE q)) 1,gd (putL p (rqE q)) 2,gd (putL p (rqE q)) 3,.l (cpVs (gd p 10)),gd p 11,gd p 12] (.i (logEnd (sub (putL p (rqE q)) 0 4))) (logAt (sub [gd p 0,gd p 1,gd p 2,gd p 3,gd p 4,gd p 5,gd (putL p (rqE q)) 0,gd (putL p (rqE q)) 1,gd (putL p (rqE q)) 2,gd (putL p (rqE q)) 3,.l (cpVs (gd p 10)),gd p 11,gd p 12] 6 4) (logEnd (sub (putL p (rqE q)) 0 4)))) 0 17)&&inB (gd p 1).int 0 5) (nd (lenOk ([]++(allO (gd p 0).int (sub (prepM [gd p 0,gd p 1,gd p 2,gd p 3,gd p 4,gd p 5,gd (putL p (rqE q)) 0,gd (putL p (rqE q)) 1,gd (putL p (rqE q)) 2,gd (putL p (rqE q)) 3,.l (cpVs (gd p 10)),gd p 11,gd p 12] (.i (logEnd (sub (putL p (rqE q)) 0 4))) (logAt (sub [gd p 0,gd p 1,gd p 2,gd p 3,gd p 4,gd p 5,gd (putL p (rqE q)) 0,gd (putL p (rqE q)) 1,gd (putL p (rqE q)) 2,gd (putL p (rqE q)) 3,.l (cpVs (gd p 10)),gd p 11,gd p 12] 6 4) (logEnd (sub (putL p (rqE q)) 0 4)))) 0 17) (gd p 1).int.toNat))&&true)
   (bif (gd p 1).int==1 then nd (hasN (sub (putL p (rqE q)) 0 4) (gd p 5)&&hasN (sub (putL p (rqE q)) 0 4) (.i (logEnd (sub (putL p (rqE q)) 0 4)))) (s_OnRequests6 N p q (some (2,rq6 p q w z k)))
   else some (1,[gd p 0,gd p 1,gd p 2,gd p 3,gd p 4,gd p 5,gd (putL p (rqE q)) 0,gd (putL p (rqE q)) 1,gd (putL p (rqE q)) 2,gd (putL p (rqE q)) 3,.l (cpVs (gd p 10)),gd p 11,gd p 12,.l ([]++(allO (gd p 0).int (sub (prepM [gd p 0,gd p 1,gd p 2,gd p 3,gd p 4,gd p 5,gd (putL p (rqE q)) 0,gd (putL p (rqE q)) 1,gd (putL p (rqE q)) 2,gd (putL p (rqE q)) 3,.l (cpVs (gd p 10)),gd p 11,gd p 12] (.i (logEnd (sub (putL p (rqE q)) 0 4))) (logAt (sub [gd p 0,gd p 1,gd p 2,gd p 3,gd p 4,gd p 5,gd (putL p (rqE q)) 0,gd (putL p (rqE q)) 1,gd (putL p (rqE q)) 2,gd (putL p (rqE q)) 3,.l (cpVs (gd p 10)),gd p 11,gd p 12] 6 4) (logEnd (sub (putL p (rqE q)) 0 4)))) 0 17) (gd p 1).int.toNat))]))):=by kernel_rfl
 rw [h10,hM _ rfl,h5,show msgSm (prepM (rqP1 (kp0 p) q) (.i (rqEnd (kp0 p) q)) (rqE q))=true from rfl,List.nil_append,lenOk_t (by omega)]
 have h14:gd (rqP2 (kp0 p) q) 14=.l (allO (gd p 0).int (prepM (rqP1 (kp0 p) q) (.i (rqEnd (kp0 p) q)) (rqE q)) (gd p 1).int.toNat):=by
  show allD (.l []) (gd p 0).int (prepM (rqP1 (kp0 p) q) (.i (rqEnd (kp0 p) q)) (rqE q)) (gd p 1).int.toNat=_
  rw [allD_l,List.nil_append]
 have h2:rqP2 (kp0 p) q = [.i 0,gd p 0,gd p 1,gd p 2,gd p 3,gd p 4,gd p 5,gd (putL p (rqE q)) 0,gd (putL p (rqE q)) 1,gd (putL p (rqE q)) 2,gd (putL p (rqE q)) 3,.l (cpVs (gd p 10)),gd p 11,gd p 12,gd (rqP2 (kp0 p) q) 14]:=by
  unfold rqP2
  rw [hP1]
  rfl
 cases (gd p 1).int==1 with
 | false =>
  rw [cond_false,cond_false,h2,h14]
  rfl
 | true =>
  have h6:s_OnRequests6 N p q (some (2,rq6 p q w z k))=nd (lenOk (([]++(allO (gd p 0).int (sub (prepM [gd p 0,gd p 1,gd p 2,gd p 3,gd p 4,gd p 5,gd (putL p (rqE q)) 0,gd (putL p (rqE q)) 1,gd (putL p (rqE q)) 2,gd (putL p (rqE q)) 3,.l (cpVs (gd p 10)),gd p 11,gd p 12] (.i (logEnd (sub (putL p (rqE q)) 0 4))) (logAt (sub [gd p 0,gd p 1,gd p 2,gd p 3,gd p 4,gd p 5,gd (putL p (rqE q)) 0,gd (putL p (rqE q)) 1,gd (putL p (rqE q)) 2,gd (putL p (rqE q)) 3,.l (cpVs (gd p 10)),gd p 11,gd p 12] 6 4) (logEnd (sub (putL p (rqE q)) 0 4)))) 0 17) (gd p 1).int.toNat))++ansO [gd p 0,gd p 1,gd p 2,gd p 3,gd p 4,.i (logEnd (sub (putL p (rqE q)) 0 4)),gd (putL p (rqE q)) 0,gd (putL p (rqE q)) 1,gd (putL p (rqE q)) 2,gd (putL p (rqE q)) 3,.l (cpVs (gd p 10)),gd p 11,gd p 12] (gd p 5).int ((logEnd (sub (putL p (rqE q)) 0 4)) - (gd p 5).int).toNat)&&true)
    (some (1,[gd p 0,gd p 1,gd p 2,gd p 3,gd p 4,.i (logEnd (sub (putL p (rqE q)) 0 4)),gd (putL p (rqE q)) 0,gd (putL p (rqE q)) 1,gd (putL p (rqE q)) 2,gd (putL p (rqE q)) 3,.l (cpVs (gd p 10)),gd p 11,gd p 12,.l (([]++(allO (gd p 0).int (sub (prepM [gd p 0,gd p 1,gd p 2,gd p 3,gd p 4,gd p 5,gd (putL p (rqE q)) 0,gd (putL p (rqE q)) 1,gd (putL p (rqE q)) 2,gd (putL p (rqE q)) 3,.l (cpVs (gd p 10)),gd p 11,gd p 12] (.i (logEnd (sub (putL p (rqE q)) 0 4))) (logAt (sub [gd p 0,gd p 1,gd p 2,gd p 3,gd p 4,gd p 5,gd (putL p (rqE q)) 0,gd (putL p (rqE q)) 1,gd (putL p (rqE q)) 2,gd (putL p (rqE q)) 3,.l (cpVs (gd p 10)),gd p 11,gd p 12] 6 4) (logEnd (sub (putL p (rqE q)) 0 4)))) 0 17) (gd p 1).int.toNat))++ansO [gd p 0,gd p 1,gd p 2,gd p 3,gd p 4,.i (logEnd (sub (putL p (rqE q)) 0 4)),gd (putL p (rqE q)) 0,gd (putL p (rqE q)) 1,gd (putL p (rqE q)) 2,gd (putL p (rqE q)) 3,.l (cpVs (gd p 10)),gd p 11,gd p 12] (gd p 5).int ((logEnd (sub (putL p (rqE q)) 0 4)) - (gd p 5).int).toNat)])):=by kernel_rfl
  rw [cond_true,cond_true,hend,n1,n2,h6,hM _ rfl,List.nil_append,hend]
  have hlen2:=ansO_len [gd p 0,gd p 1,gd p 2,gd p 3,gd p 4,.i (endL (sub (putL p (rqE q)) 0 4)),gd (putL p (rqE q)) 0,gd (putL p (rqE q)) 1,gd (putL p (rqE q)) 2,gd (putL p (rqE q)) 3,.l (cpVs (gd p 10)),gd p 11,gd p 12] (gd p 5).int (endL (sub (putL p (rqE q)) 0 4) - (gd p 5).int).toNat
  obtain ⟨b0,b1,_,hl,en,_⟩:=hd
  have n1':=n1
  simp only [hasN,inB,Bool.and_eq_true,decide_eq_true_eq] at n1'
  have n1a:=n1'.2.1
  have n1b:(gd p 5).int≤endL (sub (putL p (rqE q)) 0 4):=n1'.2.2
  have en:endL (sub (putL p (rqE q)) 0 4)=(gd (sub (putL p (rqE q)) 0 4) 0).int+((gd (sub (putL p (rqE q)) 0 4) 3).rows.length:Int):=en
  have hl:(gd (sub (putL p (rqE q)) 0 4) 3).rows.length≤60:=hl
  rw [lenOk_t (by rw [List.length_append]; omega)]
  have h3:rqP3 (kp0 p) q = [.i 0,gd p 0,gd p 1,gd p 2,gd p 3,gd p 4,.i (endL (sub (putL p (rqE q)) 0 4)),gd (putL p (rqE q)) 0,gd (putL p (rqE q)) 1,gd (putL p (rqE q)) 2,gd (putL p (rqE q)) 3,.l (cpVs (gd p 10)),gd p 11,gd p 12,ansD (gd (rqP2 (kp0 p) q) 14) [gd p 0,gd p 1,gd p 2,gd p 3,gd p 4,.i (endL (sub (putL p (rqE q)) 0 4)),gd (putL p (rqE q)) 0,gd (putL p (rqE q)) 1,gd (putL p (rqE q)) 2,gd (putL p (rqE q)) 3,.l (cpVs (gd p 10)),gd p 11,gd p 12,gd (rqP2 (kp0 p) q) 14] (gd p 5).int (endL (sub (putL p (rqE q)) 0 4) - (gd p 5).int).toNat]:=by
   unfold rqP3
   rw [hE,putL_l]
   rfl
  rw [h3,h14,ansD_l,ansO_congr (p:= [gd p 0,gd p 1,gd p 2,gd p 3,gd p 4,.i (endL (sub (putL p (rqE q)) 0 4)),gd (putL p (rqE q)) 0,gd (putL p (rqE q)) 1,gd (putL p (rqE q)) 2,gd (putL p (rqE q)) 3,.l (cpVs (gd p 10)),gd p 11,gd p 12,.l (allO (gd p 0).int (prepM (rqP1 (kp0 p) q) (.i (rqEnd (kp0 p) q)) (rqE q)) (gd p 1).int.toNat)]) (p':= [gd p 0,gd p 1,gd p 2,gd p 3,gd p 4,.i (endL (sub (putL p (rqE q)) 0 4)),gd (putL p (rqE q)) 0,gd (putL p (rqE q)) 1,gd (putL p (rqE q)) 2,gd (putL p (rqE q)) 3,.l (cpVs (gd p 10)),gd p 11,gd p 12]) rfl rfl]
  rfl
theorem zOR14 (p q:List D) (w:D) (hN:hasN (sub p 6 4) (gd p 5)=true):s_OnRequests14 61 p q (nx (rq5 p q w (.b false)))=bif rqAny p q then some (1,kp0 p) else s_OnRequests13 61 p q (some (2,rq6 p q w (rqLate p) (.i ((rqLate p).rows.length:Int)))):=by
 have hlen:(rqLate p).rows.length≤60:=by
  obtain ⟨hlo,_⟩:=has_d hN
  obtain ⟨_,_,_,hl,_,_⟩:=log_d hlo
  have hl:(gd p 9).rows.length≤60:=hl
  show ((gd p 9).rows.drop _).length≤60
  rw [List.length_drop]
  omega
 have e:iter (s_OnRequestL0 61 p q) 61 (rq6 p q w (rqLate p) (.i 0))=some (bif (List.range (rqLate p).rows.length).all (fun k => !rqF (sub ((rqLate p).rows.getD k []) 0 5) q) then (2,rq6 p q w (rqLate p) (.i ((rqLate p).rows.length:Int))) else (1,kp0 p)):=by
  refine for_loop (L:=s_OnRequestL0 61 p q) (fun k=>rq6 p q w (rqLate p) (.i (k:Int))) (rqLate p).rows.length _ (kp0 p) 0 (fun k hk=>?_) ?_ (by omega)
  ·show s_OnRequestL0 61 p q [gd p 0,gd p 1,gd p 2,gd p 3,gd p 4,gd p 5,gd p 6,gd p 7,gd p 8,gd p 9,gd p 10,gd p 11,gd p 12,gd q 0,gd q 1,gd q 2,gd q 3,gd q 4,gd q 5,gd q 6,gd q 7,gd q 8,gd q 9,gd q 10,gd q 11,gd q 12,gd q 13,gd q 14,gd q 15,gd q 16,.i 0,.i 0,.i 0,.l [],.i 0,.l [],w,.i 0,gd (rqSeat p q) 3,.b false,rqLate p,.i (k:Int),gd p 0,gd p 1,gd p 2,gd p 3,gd p 4,gd p 5,gd p 6,gd p 7,gd p 8,gd p 9,gd p 10,gd p 11,gd p 12,gd q 0,gd q 1,gd q 2,gd q 3,gd q 4,gd q 5,gd q 6,gd q 7,gd q 8,gd q 9,gd q 10,gd q 11,gd q 12,gd q 13,gd q 14,gd q 15,gd q 16,.i 0,.i 0,.i 0,.i 0,.i 0,.i 0,.i 0,.l [],.l [],.l [],.l [],.i 0,.i 0,gd p 0,gd p 1,gd p 2,gd p 3,gd p 4,gd p 5,gd p 6,.l (gd p 7).rows,.l (gd p 8).rows,.l (gd p 9).rows,.l (cpVs (gd p 10)),gd p 11,gd p 12,gd (rqSeat p q) 0,gd (rqSeat p q) 1,gd (rqSeat p q) 2]=_
   rw [s_OnRequestR0]
   have hw:w64 ((k:Int)+1)=((k+1:Nat):Int):=by rw [w64_id (by omega) (by omega)]; rfl
   have hin:inRange (k:Int) (rqLate p).rows.length=true:=by
    unfold inRange
    simp only [Bool.and_eq_true,decide_eq_true_eq]
    omega
   simp only [int_i,ltI_t (show (k:Int)<((rqLate p).rows.length:Int) by omega),cond_true,hin,nd_true,hw,Int.toNat_natCast]
   unfold rqF
   rw [show (gd (sub ((rqLate p).rows.getD k []) 0 5) 0)=gd ((rqLate p).rows.getD k []) 0 from rfl,show (gd (sub ((rqLate p).rows.getD k []) 0 5) 1)=gd ((rqLate p).rows.getD k []) 1 from rfl]
   cases (gd ((rqLate p).rows.getD k []) 0).int==(gd q 7).int with
   | false=>rfl
   | true =>
    cases (gd ((rqLate p).rows.getD k []) 1).int==(gd q 8).int with
    | false=>rfl
    | true=>rfl
  ·show s_OnRequestL0 61 p q [gd p 0,gd p 1,gd p 2,gd p 3,gd p 4,gd p 5,gd p 6,gd p 7,gd p 8,gd p 9,gd p 10,gd p 11,gd p 12,gd q 0,gd q 1,gd q 2,gd q 3,gd q 4,gd q 5,gd q 6,gd q 7,gd q 8,gd q 9,gd q 10,gd q 11,gd q 12,gd q 13,gd q 14,gd q 15,gd q 16,.i 0,.i 0,.i 0,.l [],.i 0,.l [],w,.i 0,gd (rqSeat p q) 3,.b false,rqLate p,.i ((rqLate p).rows.length:Int),gd p 0,gd p 1,gd p 2,gd p 3,gd p 4,gd p 5,gd p 6,gd p 7,gd p 8,gd p 9,gd p 10,gd p 11,gd p 12,gd q 0,gd q 1,gd q 2,gd q 3,gd q 4,gd q 5,gd q 6,gd q 7,gd q 8,gd q 9,gd q 10,gd q 11,gd q 12,gd q 13,gd q 14,gd q 15,gd q 16,.i 0,.i 0,.i 0,.i 0,.i 0,.i 0,.i 0,.l [],.l [],.l [],.l [],.i 0,.i 0,gd p 0,gd p 1,gd p 2,gd p 3,gd p 4,gd p 5,gd p 6,.l (gd p 7).rows,.l (gd p 8).rows,.l (gd p 9).rows,.l (cpVs (gd p 10)),gd p 11,gd p 12,gd (rqSeat p q) 0,gd (rqSeat p q) 1,gd (rqSeat p q) 2]=_
   rw [s_OnRequestR0]
   simp only [int_i,ltI_f (Int.le_refl _),cond_false]
   rfl
 have h14:s_OnRequests14 61 p q (nx (rq5 p q w (.b false)))=(let o0:Out:=iter (s_OnRequestL0 61 p q) 61 (rq6 p q w (bif hasN (sub p 6 4) (gd p 5) then rqLate p else .l []) (.i 0)); nd o0.isSome (bif o0.code==1 then some (1,o0.pay) else s_OnRequests13 61 p q o0)):=by kernel_rfl
 rw [h14,hN,cond_true,e]
 rw [any_all]
 unfold rqAny
 cases anyS (fun rr=>rqF (sub rr 0 5) q) (rqLate p) <;> rfl
def s_OnRequestE:Ent:=(6,e2 (ag rIReplica) (ag rIMsg) fun p q=>(⟨.tup [.agg [.d si,.d si,.d si,.d si,.d si,.d si,.d si,.d (.sl 148),.d (.sl 69),.d (.sl 78),.d (.sl 132),.d si,.d si],.c (.d (.sl 74))],sub (onReqI p q) 0 14⟩,true))
theorem s_OnRequest_ok:EntOk Tryz.prog s_OnRequestE:=e2_ok fun p q h=>evFn_sound (N:=61) (ks:=s_OnRequestK) (key:=bo) s_OnRequestT_ok (enters Tryz.func6) Tryz.func6 fun hw=>by
 rw [s_OnRequest_ev]
 unfold s_OnRequests24
 rw [show hearsB (sub p 0 13) (sub q 0 17) 1=hearsB p q 1 from by kernel_rfl,show onReqI p q=hearsF p q q from by kernel_rfl]
 unfold hearsF
 cases hr:repOk p with
 | false =>
  have hsm:sameR (sub p 0 13) = [.i 0,.i 0,.i 0,.i 0,.i 0,.i 0,.i 0,.l [],.l [],.l [],.l [],.i 0,.i 0]:=by
   unfold sameR
   rw [show repOk (sub p 0 13)=false from hr]
   rfl
  rw [hsm,show hearsB p q 1=false from by unfold hearsB; rw [hr]; rfl]
  rfl
 | true =>
 have hsm:sub (sameR (sub p 0 13)) 0 13 = [gd p 0,gd p 1,gd p 2,gd p 3,gd p 4,gd p 5,gd p 6,.l (gd p 7).rows,.l (gd p 8).rows,.l (gd p 9).rows,.l (cpVs (gd p 10)),gd p 11,gd p 12]:=by
  unfold sameR
  rw [show repOk (sub p 0 13)=true from hr]
  rfl
 have hB:hearsB p q 1=(fitsI q&&(gd q 0).int==1):=by
  rw [← fits_same]
  unfold hearsB
  rw [hr]
  cases fitsS q <;> cases (gd q 0).int==1 <;> rfl
 rw [hB]
 have hr2:=hr
 simp only [repOk,Bool.and_eq_true] at hr2
 have hof:isOfN (gd p 1).int=true:=hr2.1
 have hvw:inB (gd p 3).int 0 1000000000=true:=hr2.2.2.1
 have hN:hasN (sub p 6 4) (gd p 5)=true:=hr2.2.2.2.2.2.2.1
 have hpr:primOf (gd p 3).int (gd p 1).int=(gd p 3).int.tmod (gd p 1).int:=by unfold primOf; rw [hvw,hof]; rfl
 cases hfk:fitsI q&&(gd q 0).int==1 with
 | false =>
  rw [hsm]
  rfl
 | true =>
 have hP:onReqP (kp0 p) q=bif (gd p 2).int != 1 then rqK (kp0 p) else bif !((gd p 0).int==((gd p 3).int.tmod (gd p 1).int)) then rqK (kp0 p) else bif rqSame p q then sendP (kp0 p) (.i (-1)) (rqReply (kp0 p) q) else bif rqOld p q then rqK (kp0 p) else bif rqAny p q then rqK (kp0 p) else bif !(gd (putL p (rqE q)) 4).bool then rqK (kp0 p) else bif (gd p 1).int==1 then rqP3 (kp0 p) q else rqP2 (kp0 p) q:=by
  unfold onReqP rqSame rqOld
  rw [rqSeat_l,putL_l]
  rfl
 rw [hP,show ((gd p 0).int==((gd p 3).int.tmod (gd p 1).int))=(((gd p 3).int.tmod (gd p 1).int)==(gd p 0).int) from Bool.eq_iff_iff.2 (by simp only [beq_iff_eq]; exact eq_comm)]
 unfold s_OnRequests23
 cases (gd p 2).int != 1 with
 | true =>
  rw [hsm]
  rfl
 | false =>
 rw [cond_false,cond_false]
 unfold s_OnRequests22
 rw [hpr]
 cases ((gd p 3).int.tmod (gd p 1).int)==(gd p 0).int with
 | false =>
  rw [hsm]
  rfl
 | true =>
 rw [Bool.not_true,cond_false,cond_false]
 unfold s_OnRequests21 s_OnRequests20 s_OnRequests19 s_OnRequests18 s_OnRequests17 s_OnRequests16
 rw [sameP_self,nd_true,sameP_self,nd_true,sameP_self,nd_true,sameP_self,nd_true,sameP_self,nd_true,sameP_self,nd_true]
 have h0:=zOR0 61 p q hr
 generalize D.b (!(primOf (gd p 3).int (gd p 1).int==(gd p 0).int))=w at h0
 rw [zOR15 h0]
 have h5:inB (gd p 1).int 0 5=true:=by
  simp only [isOfN,Bool.or_eq_true,beq_iff_eq] at hof
  simp only [inB,Bool.and_eq_true,decide_eq_true_eq]
  omega
 cases rqSame p q with
 | true =>
  have e5:=zOR5 61 p q (nx (rq5 p q w (.b true))) rfl
  rw [cond_true,cond_true,e5]
  unfold rqReply
  rw [rqSeat_l]
  rfl
 | false =>
  rw [cond_false,cond_false,zOR14 _ _ _ hN,zOR13]
  cases rqAny p q with
  | true=>cases rqOld p q <;> rfl
  | false =>
  rw [cond_false]
  cases rqOld p q with
  | true=>rfl
  | false =>
  rw [cond_false]
  cases hb:(gd (putL p (rqE q)) 4).bool with
  | false=>rfl
  | true =>
  rw [Bool.not_true,cond_false,zOR8 _ _ _ _ _ _ hN hb h5]
  cases (gd p 1).int==1 <;> rfl
end Go.Proofs.YthbbbhpjkgpdcaaGreat
namespace Go.Proofs.YthbbbhpjkgpdcaaGreat
def eM (s:Sh) (F:List D→D→T × Bool):List T→Option (T × Bool)
 | [v,⟨.one (.c (.d (.int .i64))),[kd]⟩]=>bif v.sh==s then some (F v.p kd) else none
 | _=>none
theorem eM_ok {P:Program} {f:FuncId} {s:Sh} {F:List D→D→T × Bool} (h:∀ p q,(F p q).2=true→SoundFn P f [⟨s,p⟩,.c (.d (.int .i64)) q] (F p q).1):EntOk P (f,eM s F):=by
 intro args r hr0
 have hr:eM s F args=some (r,true):=hr0
 clear hr0
 unfold eM at hr
 split at hr
 ·rename_i v kd
  cases hb:(v.sh==s) with
  | false=>rw [hb] at hr; cases hr
  | true =>
   rw [hb,cond_true,Option.some.injEq] at hr
   obtain ⟨sh,p⟩:=v
   have e:sh=s:=by simpa using hb
   subst e
   have:=h p kd
   rw [hr] at this
   exact this rfl
 ·cases hr
inductive Fld where
 | i (off:Nat)
 | b (off:Nat)
 | m (off:Nat) (F:List D→D→List D) (c:D→Nat)
def stF (w:Nat) (f:Fld) (r:List D) (k:D):List D × D:=
 match f with
 | .i off=>(setSub (sub r 0 w) off [k],.i (w64 (k.int+1)))
 | .b off=>(setSub (sub r 0 w) off [.b (k.int.tmod 3==0)],.i (w64 (k.int+1)))
 | .m off F _=>(setSub (sub r 0 w) off [gd (F [gd r off] k) 1],gd (F [gd r off] k) 0)
def rowF (w:Nat):List Fld→List D→D→List D × D
 | [],r,k=>(r,k)
 | f::fs,r,k=>rowF w fs (stF w f r k).1 (stF w f r k).2
def rnd (w:Nat) (i:Int):List Fld→List (List D)→D→(List (List D)→D→Out)→Out
 | [],rows,k,K=>K rows k
 | f::fs,rows,k,K=>nd (inRange i rows.length) (rnd w i fs (rows.set i.toNat (stF w f (rows.getD i.toNat []) k).1) (stF w f (rows.getD i.toNat []) k).2 K)
theorem getD_set_self {l:List (List D)} {i:Nat} {a:List D} (h:i<l.length):(l.set i a).getD i []=a:=by
 simp [List.getD_eq_getElem?_getD,h]
theorem rnd_eq {w i:Nat} {K:List (List D)→D→Out}:∀ {fs:List Fld} {rows:List (List D)} {k:D},i<rows.length→rnd w (i:Int) fs rows k K=K (rows.set i (rowF w fs (rows.getD i []) k).1) (rowF w fs (rows.getD i []) k).2
 | [],rows,k,h=>by
  simp only [rnd,rowF]
  congr 1
  rw [List.getD_eq_getElem?_getD,List.getElem?_eq_getElem h]
  simp
 | f::fs,rows,k,h=>by
  simp only [rnd,rowF,Int.toNat_natCast]
  rw [nd_ix h,rnd_eq (by simpa using h),getD_set_self h,List.set_set]
def mkTo (f:List D→D→List D × D) (rows:List (List D)) (k:D):Nat→List (List D) × D
 | 0=>(rows,k)
 | j+1=>((mkTo f rows k j).1.set j (f ((mkTo f rows k j).1.getD j []) (mkTo f rows k j).2).1,(f ((mkTo f rows k j).1.getD j []) (mkTo f rows k j).2).2)
theorem mkTo_len (f:List D→D→List D × D) (rows:List (List D)) (k:D):∀ j,(mkTo f rows k j).1.length=rows.length
 | 0=>rfl
 | j+1=>by simp [mkTo,mkTo_len f rows k j]
theorem mkTo_hi (f:List D→D→List D × D) (rows:List (List D)) (k:D):∀ j i,j≤i→(mkTo f rows k j).1.getD i []=rows.getD i []
 | 0,i,_=>rfl
 | j+1,i,h=>by
  rw [← mkTo_hi f rows k j i (by omega)]
  simp only [mkTo,List.getD_eq_getElem?_getD,List.getElem?_set]
  rw [if_neg (by omega)]
def mkZ (f:List D→D→List D × D) (z k:D):Nat→D
 | 0=>z
 | j+1=>.l (mkTo f z.rows k (j+1)).1
theorem mkZ_rows (f:List D→D→List D × D) (z k:D):∀ j,(mkZ f z k j).rows=(mkTo f z.rows k j).1
 | 0=>rfl
 | _+1=>rfl
def mkAll (f:List D→D→List D × D) (z k:D):List D:= [(mkTo f z.rows k z.rows.length).2,mkZ f z k z.rows.length]
theorem mk_loop {L:List D→Out} {w:Nat} {fs:List Fld} {x2:D} (h:∀ x0 x1 x3,L [x0,x1,x2,x3]=bif ltI x3.int (x0.rows.length:Int) then rnd w x3.int fs x0.rows x1 (fun rows k=>nx [.l rows,k,x2,.i (w64 (x3.int+1))]) else ex 0 [x0,x1,x2,x3]) {z k:D} (hl:z.rows.length≤9223372036854775807) :
  iter L (z.rows.length+1) [z,k,x2,.i 0]=some (2,[mkZ (rowF w fs) z k z.rows.length,(mkTo (rowF w fs) z.rows k z.rows.length).2,x2,.i (z.rows.length:Int)]):=by
 have e:=run_loop (L:=L) (fun j => [mkZ (rowF w fs) z k j,(mkTo (rowF w fs) z.rows k j).2,x2,.i (j:Int)]) z.rows.length 0 (fun j hj=>?_) ?_ (N:=z.rows.length+1) (by omega)
 ·simp only [Int.natCast_zero,Nat.zero_add] at e
  exact e
 ·have hlen:=mkTo_len (rowF w fs) z.rows k j
  rw [h]
  simp only [int_i,mkZ_rows,hlen,c_lt hj]
  rw [rnd_eq (by rw [hlen]; exact hj),w64_succ hj hl]
  rfl
 ·have hlen:=mkTo_len (rowF w fs) z.rows k z.rows.length
  rw [h]
  simp only [int_i,mkZ_rows,hlen,c_nlt]
theorem mk_sound {P:Program} {call:FuncId→List T→Option (T × Bool)} (hcall:CallOk P call) {ks:List Nat} {f:FuncId} {fn:Func} {e:TypeId} {p:List D} {q:D} {L:Nat→List D→D→List D→Out} {w:Nat} {fs:List Fld} (hen:∀ vs w,(callFunc f vs).run P w=.ok (.enter f vs) w) (hf:P.funcs[f]?=some fn)
  (hR:∀ N x0 x1 x2 x3,L N p q [x0,x1,x2,x3]=bif ltI x3.int (x0.rows.length:Int) then rnd w x3.int fs x0.rows x1 (fun rows k=>nx [.l rows,k,x2,.i (w64 (x3.int+1))]) else ex 0 [x0,x1,x2,x3])
  (hev:∀ N,evFnM P call N ks fn [⟨.one (.c (.d (.sl e))),p⟩,.c (.d (.int .i64)) q]=some (bo,(let o0:=iter (L N p q) N [gd p 0,q,.i 0,.i 0]; nd o0.isSome (nd (o0.code==2) (some (1,[gd o0.pay 1,gd o0.pay 0])))))) :
  SoundFn P f [⟨.one (.c (.d (.sl e))),p⟩,.c (.d (.int .i64)) q] ⟨shM,mkAll (rowF w fs) (gd p 0) q⟩:=by
 refine evFnM_sound (N:=(gd p 0).rows.length+1) (ks:=ks) (key:=bo) hcall hen hf fun hw=>?_
 have hl:(gd p 0).rows.length≤9223372036854775807:=by
  have hw:WD P (.sl e) (gd p 0):=hw
  cases hw with
  | sl _ _ _ _ h _=>exact h
 rw [hev,mk_loop (fun x0 x1 x3=>hR _ x0 x1 _ x3) hl]
 rfl
def Fld.off:Fld→Nat
 | .i o=>o
 | .b o=>o
 | .m o _ _=>o
def cF (r:List D):Fld→Nat
 | .i _=>1
 | .b _=>1
 | .m o _ c=>c (gd r o)
def cFs:List Fld→List D→Nat
 | [],_=>0
 | f::fs,r=>cF r f+cFs fs r
def FldOk (w:Nat):Fld→Prop
 | .i o=>o<w
 | .b o=>o<w
 | .m o F c=>o<w∧∀ x q:D,0≤q.int→q.int+c x≤4611686018427387904→(gd (F [x] q) 0).int=q.int+c x
def FldsOk (w:Nat):List Fld→Prop
 | []=>True
 | f::fs=>FldOk w f∧FldsOk w fs
def apartF:List Fld→Bool
 | []=>true
 | f::fs=>fs.all (fun g=>f.off != g.off)&&apartF fs
theorem FldOk.lt {w:Nat} {f:Fld} (h:FldOk w f):f.off<w:=by
 cases f <;> first | exact h | exact h.1
theorem gd_stF {w:Nat} {f:Fld} {r:List D} {k:D} {j:Nat} (h:f.off≠j) (hj:j<w):gd (stF w f r k).1 j=gd r j:=by
 have key:∀ (o:Nat) (d:D),o≠j→gd (setSub (sub r 0 w) o [d]) j=gd r j:=fun o d ho=>by
  show gd ((sub r 0 w).set o d) j=_
  have:gd ((sub r 0 w).set o d) j=gd (sub r 0 w) j:=by
   simp only [gd,List.getD_eq_getElem?_getD,List.getElem?_set,if_neg ho]
  rw [this,gd_sub _ _ _ _ hj,Nat.zero_add]
 cases f with
 | i o=>exact key o _ h
 | b o=>exact key o _ h
 | m o F c=>exact key o _ h
theorem cFs_congr {w:Nat} {r r':List D}:∀ {fs:List Fld},FldsOk w fs→(∀ f∈fs,gd r' f.off=gd r f.off)→cFs fs r'=cFs fs r
 | [],_,_=>rfl
 | f::fs,hok,h=>by
  have h1:cF r' f=cF r f:=by
   have:=h f (by simp)
   cases f with
   | i o=>rfl
   | b o=>rfl
   | m o F c=>show c (gd r' o)=c (gd r o); rw [show gd r' o=gd r o from this]
  simp only [cFs,h1,cFs_congr hok.2 fun g hg=>h g (by simp [hg])]
theorem FldsOk.mem {w:Nat}:∀ {fs:List Fld},FldsOk w fs→∀ f∈fs,FldOk w f
 | [],_,f,h=>by simp at h
 | g::fs,hok,f,h=>by
  rcases List.mem_cons.1 h with rfl | h
  ·exact hok.1
  ·exact hok.2.mem f h
theorem rowF_k {w:Nat}:∀ {fs:List Fld} {r:List D} {k:D},apartF fs=true→FldsOk w fs→0≤k.int→k.int+cFs fs r≤4611686018427387904→(rowF w fs r k).2.int=k.int+cFs fs r
 | [],r,k,_,_,_,_=>by simp [rowF,cFs]
 | f::fs,r,k,ha,hok,h0,h1=>by
  simp only [apartF,Bool.and_eq_true,List.all_eq_true] at ha
  simp only [cFs] at h1
  push_cast at h1
  have hc:cFs fs (stF w f r k).1=cFs fs r:=cFs_congr hok.2 fun g hg=>gd_stF (by simpa using ha.1 g hg) (hok.2.mem g hg).lt
  have hk:(stF w f r k).2.int=k.int+cF r f:=by
   cases f with
   | i o=>show w64 (k.int+1)=k.int+((1:Nat):Int); simp only [cF] at h1; rw [w64_id (by omega) (by omega)]; rfl
   | b o=>show w64 (k.int+1)=k.int+((1:Nat):Int); simp only [cF] at h1; rw [w64_id (by omega) (by omega)]; rfl
   | m o F c=>simp only [cF] at h1; exact hok.1.2 _ _ h0 (by omega)
  have:=rowF_k (r:=(stF w f r k).1) (k:=(stF w f r k).2) ha.2 hok.2 (by omega) (by rw [hc]; omega)
  simp only [rowF,cFs]
  push_cast
  omega
theorem total_take {f:List D→Nat} (rows:List (List D)):∀ j,j<rows.length→total f (rows.take (j+1))=total f (rows.take j)+f (rows.getD j []):=fun j hj=>by
 unfold total
 rw [List.take_add_one,List.map_append,List.sum_append,List.getElem?_eq_getElem hj]
 simp [List.getD_eq_getElem?_getD,hj]
theorem total_take_le {f:List D→Nat} (rows:List (List D)) (j:Nat):total f (rows.take j)≤total f rows:=by
 unfold total
 conv=>rhs; rw [← List.take_append_drop j rows]
 rw [List.map_append,List.sum_append]
 omega
theorem mkAll_k {w:Nat} {fs:List Fld} {x q:D} (ha:apartF fs=true) (hok:FldsOk w fs) (h0:0≤q.int) (h1:q.int+total (cFs fs) x.rows≤4611686018427387904):(gd (mkAll (rowF w fs) x q) 0).int=q.int+total (cFs fs) x.rows:=by
 have key:∀ j,j≤x.rows.length→(mkTo (rowF w fs) x.rows q j).2.int=q.int+total (cFs fs) (x.rows.take j):=by
  intro j
  induction j with
  | zero=>intro _; simp [mkTo,total]
  | succ j ih =>
   intro hj
   have ih:=ih (by omega)
   have ht:=total_take (f:=cFs fs) x.rows j (by omega)
   have hle:=total_take_le (f:=cFs fs) x.rows (j+1)
   simp only [mkTo]
   rw [mkTo_hi _ _ _ j j (Nat.le_refl _),rowF_k ha hok (by omega) (by omega),ih,ht]
   push_cast
   omega
 have:=key x.rows.length (Nat.le_refl _)
 rw [List.take_length] at this
 exact this
theorem bd_flat {fs:List Fld} {f:List D→List D} (h:∀ r,cFs fs (f r)≤16) (z:D):total (cFs fs) (D.l (z.rows.map fun r=>f r)).rows≤16*z.rows.length:=by
 show total (cFs fs) (z.rows.map fun r=>f r)≤_
 generalize z.rows=l
 induction l with
 | nil=>simp [total]
 | cons r l ih =>
  have:=h r
  simp only [total,List.map_cons,List.sum_cons,List.length_cons] at ih ⊢
  omega
theorem bd_deep {fs:List Fld} {f:List D→List D} {s:List D→Nat} (h:∀ r,cFs fs (f r)≤16+16*s r) (z:D):total (cFs fs) (D.l (z.rows.map fun r=>f r)).rows≤16*(z.rows.length+total s z.rows):=by
 show total (cFs fs) (z.rows.map fun r=>f r)≤_
 generalize z.rows=l
 induction l with
 | nil=>simp [total]
 | cons r l ih =>
  have:=h r
  simp only [total,List.map_cons,List.sum_cons,List.length_cons] at ih ⊢
  omega
end Go.Proofs.YthbbbhpjkgpdcaaGreat
namespace Go.Proofs.YthbbbhpjkgpdcaaGreat
set_option maxRecDepth 4096
set_option maxHeartbeats 1000000
abbrev mkCellST:FuncId→List T→Option (T × Bool):=find []
theorem mkCellST_ok:CallOk Tryz.prog mkCellST:=find_ok (fN)
abbrev mkCellSK:List Nat:= [0,1,4,5,9]
noncomputable def mkCellSL (N:Nat) (p:List D) (q:D):List D→Out:=loopOfM Tryz.prog mkCellST N mkCellSK Tryz.f53 [⟨sd (.sl 148),p⟩,.c (.d si) q] 0
def mkCellSf:List Fld:= [.i 0,.i 1]
def mkCellS (p:List D) (q:D):List D:=mkAll (rowF 2 mkCellSf) (gd p 0) q
def ctCellS (z:D):Nat:=total (cFs mkCellSf) z.rows
theorem mkCellSR (N:Nat) (p:List D) (q x0 x1 x2 x3:D):mkCellSL N p q [x0,x1,x2,x3]=bif ltI x3.int (x0.rows.length:Int) then rnd 2 x3.int mkCellSf x0.rows x1 (fun rows k=>nx [.l rows,k,x2,.i (w64 (x3.int+1))]) else ex 0 [x0,x1,x2,x3]:=by kernel_rfl
theorem mkCellS_ev (N:Nat) (p:List D) (q:D):evFnM Tryz.prog mkCellST N mkCellSK Tryz.f53 [⟨sd (.sl 148),p⟩,.c (.d si) q]=some (bo,(let o0:=iter (mkCellSL N p q) N [gd p 0,q,.i 0,.i 0]; nd o0.isSome (nd (o0.code==2) (some (1,[gd o0.pay 1,gd o0.pay 0]))))):=by kernel_rfl
def mkCellSE:Ent:=(53,eM (sd (.sl 148)) fun p q=>(⟨shM,mkCellS p q⟩,true))
theorem mkCellS_ok:EntOk Tryz.prog mkCellSE:=eM_ok fun p q _=>mk_sound (L:=mkCellSL) (fs:=mkCellSf) (w:=2) (ks:=mkCellSK) mkCellST_ok (enters Tryz.func53) Tryz.func53 (fun N x0 x1 x2 x3=>mkCellSR N p q x0 x1 x2 x3) (fun N=>mkCellS_ev N p q)
theorem mkCellS_k {x q:D} (h0:0≤q.int) (h1:q.int+ctCellS x≤4611686018427387904):(gd (mkCellS [x] q) 0).int=q.int+ctCellS x:=mkAll_k (w:=2) (fs:=mkCellSf) (by decide) (by
 unfold mkCellSf
 exact ⟨(by decide:0<2),(by decide:1<2),trivial⟩) h0 h1
theorem bdCellS (z:D):ctCellS (cpCellS z)≤16*sizeCellS z:=bd_flat (f:=fun r=>cpCell (sub r 0 2)) (fun r=>by show 1+(1+(0))≤16; omega) z
end Go.Proofs.YthbbbhpjkgpdcaaGreat
