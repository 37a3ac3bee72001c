/-
 Texts of the proof,put together: part 2.
-/
import Derived.Test.YthbbbhpjkgpdcaaGreatOR1
import Derived.Great.FillDense
import Derived.IntWalk
import Derived.Laws.OwnMore
set_option linter.unusedSimpArgs false
set_option linter.unusedVariables false
set_option linter.unusedSectionVars false
namespace Go.Proofs.YthbbbhpjkgpdcaaGreat
open Go.RowKit
section
variable [Low] {P:Program} {w w':World} {g g':G} {base:Nat} {σ:St} {a:Act}
theorem getD_put (a:Act) (d i:Nat) (v:Value) (hd:d<a.tmps.size):(a.put (some d) v).tmps.getD i undef=if i=d then v else a.tmps.getD i undef:=by
 simp only [Act.put,Array.getD_eq_getD_getElem?,Array.getElem?_setIfInBounds]
 by_cases e:i=d
 ·subst e; simp [hd]
 ·rw [if_neg (by omega),if_neg e]
theorem put_size (a:Act) (d:Option Nat) (v:Value):(a.put d v).tmps.size=a.tmps.size:=by
 cases d <;> simp [Act.put]
theorem put_defers (a:Act) (d:Option Nat) (v:Value):(a.put d v).defers=a.defers:=by
 cases d <;> rfl
theorem Rel.put (hr:Rel P w g base σ a) {dst:Option Nat} (hd:∀ d,dst=some d→d<a.tmps.size) {t:T} {v:Value} (hv:VT P w g base t v):Rel P w g base (σ.put dst t) (a.put dst v):=by
 cases dst with
 | none=>exact hr
 | some d =>
  refine ⟨fun i=>?_,hr.box,hr.fresh,hr.base_le,⟨hr.defers.1,by rw [put_size]; exact hr.defers.2⟩,hr.low,hr.mine⟩
  rw [getD_put a d i v (hd d rfl)]
  show VT P w g base (bif i==d then t else look2 i σ.e σ.r) _
  by_cases e:i=d
  ·rw [if_pos e,show (i==d)=true from by simpa using e]; exact hv
  ·rw [if_neg e,show (i==d)=false from by simpa using e]; exact hr.env i
theorem Rel.ext {d₀:Nat} (hr:Rel P w g base σ a) (hd₀:d₀<a.tmps.size) (h:Ext (some d₀) g g' w w') (hf:∀ b,w'.heap.size≤b→g'.prot b=0∧g'.owner b=none) (hbox:∀ id cs ds,hlook id σ.h=some (cs,ds)→id≠d₀) :
  Rel P w' g' base (σ.wipe d₀) a:=by
 have hk:Kept P base g g' w w' (wipeC d₀):=fun c x v hv=>h.vc hr.base_le hv
 refine ⟨fun i=>hr.envMap hk rfl i,fun id cs ds hl=>hr.boxMap hk hl fun cs ds hq=>?_,hf,Nat.le_trans hr.base_le h.size,hr.defers,h.low hr (hr.ne hd₀),h.mine hr (hr.ne hd₀)⟩
 obtain ⟨k1,k2,k3,kl,arr,E,k4,k5⟩:=hr.box id cs ds hq
 have hlt:=lt_of_heap k4
 exact ⟨h.θ id (by intro e; injection e with e; exact hbox id cs ds hq e),h.owner _ hlt,h.prot _ hlt,h.heap _ hlt⟩
def newBox (g:G) (d nb:Nat):G:={ g with owner:=fun b=>if b=nb then some (.inl d) else g.owner b,θ:=fun id=>if id=d then nb else g.θ id,len:=fun t=>if t.1=d then 0 else g.len t }
def resetG (g:G) (d:Nat):G:={ g with len:=fun t=>if t.1=d then 0 else g.len t }
theorem ext_reset (g:G) (d:Nat) (w:World):Ext (some d) g (resetG g d) w w:=
 ⟨Nat.le_refl _,fun _ _=>rfl,fun t h=>⟨rfl,if_neg (fun e=>h (by rw [e])),rfl,rfl⟩,fun _ _=>rfl,fun _ _=>rfl,fun _ _=>rfl,fun _ _=>⟨rfl,rfl⟩,rfl,fun _ _ _ h=>.inr h⟩
def newRowG (g:G) (t:Tok) (e:TypeId) (nb n k:Nat) (p:Nat):G:=
 { prot:=fun b=>if b=nb then p else g.prot b,owner:=fun b=>if b=nb then some (.inr t) else g.owner b,θ:=g.θ,ρ:=fun u=>if u=t then nb else g.ρ u,len:=fun u=>if u=t then n else g.len u,wid:=fun u=>if u=t then k else g.wid u,ety:=fun u=>if u=t then e else g.ety u,path:=g.path,need:=g.need,old:=g.old }
theorem ext_box (d:Nat) (o:Obj):Ext (some d) g (newBox g d w.heap.size) w (w.alloc o):=by
 refine ⟨by simp,fun id h=>?_,fun t h=>⟨rfl,if_neg (fun e=>h (by rw [e])),rfl,rfl⟩,fun b h=>rfl,fun b h=>?_,fun b h=>Below.heap_alloc w o b h,fun _ _=>⟨rfl,rfl⟩,rfl,fun b t _ h=>?_⟩
 ·show (if id=d then _ else _)=_
  rw [if_neg (fun e=>h (by rw [e]))]
 ·show (if b=w.heap.size then _ else _)=_
  rw [if_neg (by omega)]
 ·change (if b=w.heap.size then _ else _)=_ at h
  split at h
  ·cases h
  ·exact .inr h
theorem ext_row (t:Tok) (e:TypeId) (n k p:Nat) (o:Obj):Ext (some t.1) g (newRowG g t e w.heap.size n k p) w (w.alloc o):=by
 refine ⟨by simp,fun id h=>rfl,fun u h=>?_,fun b h=>?_,fun b h=>?_,fun b h=>Below.heap_alloc w o b h,fun _ _=>⟨rfl,rfl⟩,rfl,fun b u _ h=>?_⟩
 rotate_right
 ·change (if b=w.heap.size then _ else _)=_ at h
  split at h
  ·injection h with h; injection h with h; exact .inl (by rw [h])
  ·exact .inr h
 ·have:u≠t:=fun e=>h (by rw [e])
  exact ⟨if_neg this,if_neg this,if_neg this,if_neg this⟩
 ·show (if b=w.heap.size then _ else _)=_
  rw [if_neg (by omega)]
 ·show (if b=w.heap.size then _ else _)=_
  rw [if_neg (by omega)]
theorem hlook_hput (i:Nat) (v:List Ce × List D):∀ (h:Boxes) (j:Nat),hlook j (hput i v h)=if j=i then some v else hlook j h
 | [],j=>by
  by_cases e:j=i
  ·subst e; simp [hput,hlook]
  ·rw [if_neg e]; simp only [hput,hlook]; rw [show (j==i)=false from by simpa using e]; rfl
 | (k,u)::r,j=>by
  unfold hput
  by_cases hk:i=k
  ·subst hk
   simp only [beq_self_eq_true,cond_true,hlook]
   by_cases e:j=i
   ·subst e; simp
   ·rw [if_neg e,show (j==i)=false from by simpa using e]; rfl
  ·rw [show (i==k)=false from by simpa using hk,cond_false]
   simp only [hlook]
   rw [hlook_hput i v r j]
   by_cases e:j=k
   ·subst e
    simp [Ne.symm hk]
   ·rw [show (j==k)=false from by simpa using e]; simp
theorem hlook_map_ne (f:Ce→Ce) (σ:St) (i:Nat):hlook i (σ.map f).h=(hlook i σ.h).map fun q=>(q.1.map f,q.2):=hlook_map (List.map f) σ.h i
theorem Rel.wipeBox {d₀:Nat} (hr:Rel P w g base σ a) (hd₀:d₀<a.tmps.size) (h:Ext (some d₀) g g' w w') (hf:∀ b,w'.heap.size≤b→g'.prot b=0∧g'.owner b=none) {cs:List Ce} {ds:List D}
  (hb:BoxV P w' g' base d₀ cs ds):Rel P w' g' base ⟨(σ.wipe d₀).r,(σ.wipe d₀).e,hput d₀ (cs,ds) (σ.wipe d₀).h⟩ a:=by
 have hk:Kept P base g g' w w' (wipeC d₀):=fun c x v hv=>h.vc hr.base_le hv
 refine ⟨fun i=>hr.envMap hk rfl i,fun id cs' ds' hl=>?_,hf,Nat.le_trans hr.base_le h.size,hr.defers,h.low hr (hr.ne hd₀),h.mine hr (hr.ne hd₀)⟩
 rw [hlook_hput] at hl
 by_cases e:id=d₀
 ·rw [if_pos e] at hl
  injection hl with hl
  injection hl with h1 h2
  subst h1; subst h2; subst e
  exact hb
 ·rw [if_neg e] at hl
  refine hr.boxMap hk hl fun cs ds hq=>?_
  obtain ⟨k1,k2,k3,kl,arr,E,k4,k5⟩:=hr.box id cs ds hq
  have hlt:=lt_of_heap k4
  exact ⟨h.θ id (by intro e'; injection e' with e'; exact e e'),h.owner _ hlt,h.prot _ hlt,h.heap _ hlt⟩
theorem Rel.wipeRow {d₀:Nat} (hr:Rel P w g base σ a) (hd₀:d₀<a.tmps.size) (h:Ext (some d₀) g g' w w') (hθ:g'.θ=g.θ) (hf:∀ b,w'.heap.size≤b→g'.prot b=0∧g'.owner b=none):Rel P w' g' base (σ.wipe d₀) a:=by
 have hk:Kept P base g g' w w' (wipeC d₀):=fun c x v hv=>h.vc hr.base_le hv
 refine ⟨fun i=>hr.envMap hk rfl i,fun id cs ds hl=>hr.boxMap hk hl fun cs ds hq=>?_,hf,Nat.le_trans hr.base_le h.size,hr.defers,h.low hr (hr.ne hd₀),h.mine hr (hr.ne hd₀)⟩
 obtain ⟨k1,k2,k3,kl,arr,E,k4,k5⟩:=hr.box id cs ds hq
 have hlt:=lt_of_heap k4
 exact ⟨by rw [hθ],h.owner _ hlt,h.prot _ hlt,h.heap _ hlt⟩
theorem heap_new (w:World) (o:Obj):(w.alloc o).heap[w.heap.size]?=some o:=by
 show (w.heap.push o)[w.heap.size]?=_
 simp
theorem fresh_box (hr:Rel P w g base σ a) (d:Nat) (o:Obj):∀ b,(w.alloc o).heap.size≤b→(newBox g d w.heap.size).prot b=0∧(newBox g d w.heap.size).owner b=none:=by
 intro b hb
 have hb':w.heap.size+1≤b:=by simpa using hb
 have:=hr.fresh b (by omega)
 exact ⟨this.1,by show (if b=w.heap.size then _ else _)=_; rw [if_neg (by omega)]; exact this.2⟩
theorem fresh_row (hr:Rel P w g base σ a) (t:Tok) (e:TypeId) (n k p:Nat) (o:Obj):∀ b,(w.alloc o).heap.size≤b→(newRowG g t e w.heap.size n k p).prot b=0∧(newRowG g t e w.heap.size n k p).owner b=none:=by
 intro b hb
 have hb':w.heap.size+1≤b:=by simpa using hb
 have:=hr.fresh b (by omega)
 exact ⟨by show (if b=w.heap.size then _ else _)=_; rw [if_neg (by omega)]; exact this.1,by show (if b=w.heap.size then _ else _)=_; rw [if_neg (by omega)]; exact this.2⟩
theorem run_newRow (e:TypeId) (cs:Array Value):(newRow e cs).run P w=.ok ⟨w.heap.size,0,none⟩ (w.alloc (.cells cs e)):=by
 simp [newRow,newObj,Sem.run]
def Does (P:Program) (base:Nat) (σ':St) (o:Oper) (a:Act) (w:World):Prop:=
 ∃ z w' g',((execOp a.eval o).run P w=.ok (.value z) w'∨((execOp a.eval o).run P w=.ok .skip w'∧z=undef))∧Rel P w' g' base σ' (a.put o.dst z)∧Below base w w'
def DoesC (P:Program) (base:Nat) (σ':St) (o:Oper) (a:Act) (w:World):Prop:=
 ∃ z w' g',((execOp a.eval o).run P w=.ok (.value z) w'∨((execOp a.eval o).run P w=.ok .skip w'∧z=undef))∧Rel P w' g' base σ' (a.put o.dst z)∧Below base w w'∧Below w.heap.size w w'
theorem DoesC.does {P:Program} {base:Nat} {σ':St} {o:Oper} {a:Act} {w:World} (h:DoesC P base σ' o a w):Does P base σ' o a w:=by
 obtain ⟨z,w',g',h1,h2,h3,_⟩:=h
 exact ⟨z,w',g',h1,h2,h3⟩
theorem evPure_ok (hr:Rel P w g base σ a) {o:Oper} {σ':St} (hd:∀ d,o.dst=some d→d<a.tmps.size) (h:evPure P σ o=some (σ',true)):Does P base σ' o a w:=by
 unfold evPure at h
 split at h
 ·rename_i v ok hq
  simp only [Option.some.injEq,Prod.mk.injEq] at h
  obtain ⟨rfl,rfl⟩:=h
  obtain ⟨z,h1,h2⟩:=evQ_ok hr hq
  have h1:=h1 w (.inl (Below.refl _ _))
  exact ⟨z,w,g,.inl h1,hr.put hd h2,Below.refl _ _⟩
 ·cases h
theorem cells_length {v:T} {cs:List Ce} {ds:List D} (h:v.cells=some (cs,ds)):ds.length=cs.length:=by
 obtain ⟨sh,p⟩:=v
 unfold T.cells at h
 simp only at h
 split at h
 ·rename_i x
  cases hx:(x==Ce.any) with
  | true=>rw [hx] at h; cases h
  | false=>rw [hx] at h; simp only [cond_false,Option.some.injEq,Prod.mk.injEq] at h; obtain ⟨rfl,rfl⟩:=h; rfl
 ·rename_i xs
  cases hx:xs.contains Ce.any with
  | true=>rw [hx] at h; cases h
  | false=>rw [hx] at h; simp only [cond_false,Option.some.injEq,Prod.mk.injEq] at h; obtain ⟨rfl,rfl⟩:=h; exact sub_length _ _ _
 ·cases h
theorem cells_ok {v:T} {u:Value} {cs:List Ce} {ds:List D} (h:v.cells=some (cs,ds)) (hv:VT P w g base v u):VCs P w g base cs ds u.cells∧(∀ c∈cs,c≠.any):=by
 obtain ⟨sh,p⟩:=v
 cases sh with
 | tup xs=>cases h
 | one x=>cases x with
  | c x =>
   simp only [T.cells] at h
   cases hx:(x==Ce.any) with
   | true=>rw [hx] at h; cases h
   | false =>
    rw [hx] at h
    simp only [cond_false,Option.some.injEq,Prod.mk.injEq] at h
    obtain ⟨rfl,rfl⟩:=h
    have hv:VC P w g base x (gd p 0) u:=hv
    have hx:x≠.any:=by simpa using hx
    have hf:=hv.flat hx
    have hc:u.cells = #[u]:=by cases u <;> simp_all [flatV,Value.cells]
    refine ⟨⟨by rw [hc]; rfl,fun j c hj=>?_⟩,by simpa using hx⟩
    cases j with
    | succ j=>simp at hj
    | zero =>
     simp only [List.getElem?_cons_zero,Option.some.injEq] at hj
     subst hj
     exact ⟨u,by rw [hc]; rfl,hv⟩
  | agg xs =>
   simp only [T.cells] at h
   cases hx:xs.contains Ce.any with
   | true=>rw [hx] at h; cases h
   | false =>
    rw [hx] at h
    simp only [cond_false,Option.some.injEq,Prod.mk.injEq] at h
    obtain ⟨rfl,rfl⟩:=h
    obtain ⟨arr,rfl,h1,h2⟩:=hv
    refine ⟨⟨h1,fun j c hj=>?_⟩,fun c hc e=>?_⟩
    ·obtain ⟨z,k1,k2⟩:=h2 j c hj
     exact ⟨z,k1,by rw [gd_sub _ _ _ _ (List.getElem?_eq_some_iff.1 hj).1,Nat.zero_add]; exact k2⟩
    ·subst e
     have:=List.contains_iff_mem.2 hc
     rw [this] at hx
     cases hx
theorem evBox_ok (hr:Rel P w g base σ a) {o:Oper} {σ':St} {d:Nat} {t:TypeId} {x:Operand} (ho:o.op=.box t x) (hdst:o.dst=some d) (hd:∀ d,o.dst=some d→d<a.tmps.size) (h:evBox σ d x=some (σ',true)):DoesC P base σ' o a w:=by
 unfold evBox at h
 have hE:=ext_box (g:=g) (w:=w) d (.cells (a.eval x).cells t)
 have hF:=fresh_box hr d (.cells (a.eval x).cells t)
 have hk:Kept P base g _ w _ (wipeC d):=fun c x v hv=>hE.vc hr.base_le hv
 cases hc:(opd (σ.wipe d) x).cells with
 | none=>rw [hc] at h; cases h
 | some q =>
  obtain ⟨cs,ds⟩:=q
  rw [hc] at h
  simp only [Option.some.injEq,Prod.mk.injEq,and_true] at h
  subst h
  have hr0:Rel P (w.alloc (.cells (a.eval x).cells t)) (newBox g d w.heap.size) base ⟨(σ.wipe d).r,(σ.wipe d).e,[]⟩ a:=
   ⟨fun i=>hr.envMap hk rfl i,fun id cs ds hl=>by simp [hlook] at hl,hF,Nat.le_trans hr.base_le hE.size,hr.defers,hE.low hr (hr.ne (hd d hdst)),hE.mine hr (hr.ne (hd d hdst))⟩
  have hox:VT P (w.alloc (.cells (a.eval x).cells t)) (newBox g d w.heap.size) base (opd (σ.wipe d) x) (a.eval x):=by
   have:=opd_ok hr0 x
   exact this
  obtain ⟨hcs,_⟩:=cells_ok hc hox
  have hbox:BoxV P (w.alloc (.cells (a.eval x).cells t)) (newBox g d w.heap.size) base d cs ds:=by
   have hθ:(newBox g d w.heap.size).θ d=w.heap.size:=if_pos rfl
   refine ⟨by rw [hθ]; exact hr.base_le,by rw [hθ]; exact if_pos rfl,by rw [hθ]; exact (hr.fresh _ (Nat.le_refl _)).1,cells_length hc,(a.eval x).cells,t,by rw [hθ]; exact heap_new w _,hcs⟩
  have hrel:=hr.wipeBox (hd d hdst) hE hF hbox
  refine ⟨.pointer (some ⟨w.heap.size,0,none⟩),_,_,.inl ?_,hrel.put hd (t:=.c (.ptr d 0) D0) ?_ |> fun h=>by rw [hdst] at h ⊢; exact h,(Below.refl _ _).alloc hr.base_le _,(Below.refl _ _).alloc (Nat.le_refl _) _⟩
  ·simp only [execOp,ho,Instr.box,newVar,Sem.run_bind,run_newRow,Result.andThen_ok,Sem.run_pure]
  ·show Value.pointer _=Value.pointer (some ⟨(newBox g d w.heap.size).θ d,0,none⟩)
   rw [show (newBox g d w.heap.size).θ d=w.heap.size from if_pos rfl]
theorem zero_get:∀ {row:List S} {vs:List Value},zeroMatch P row vs=true→vs.length=row.length∧∀ (j:Nat) (s:S),row[j]?=some s→∃ u,vs[j]?=some u∧(∀ (w:World) (prot:Nat→Nat),VD P w prot s (zeroD s) u)∧(∀ e,s=.sl e→u=.slice none 0 0∧∃ r,rowOf P e=some r)
 | [],[],_=>⟨rfl,fun j s h=>by simp at h⟩
 | [],_::_,h=>by simp [zeroMatch] at h
 | s::r,[],h=>by cases s <;> simp [zeroMatch] at h
 | s::r,v::vs,h=>by
  have key:zeroMatch P r vs=true∧(∀ (w:World) (prot:Nat→Nat),VD P w prot s (zeroD s) v)∧(∀ e,s=.sl e→v=.slice none 0 0∧∃ r,rowOf P e=some r):=by
   cases s with
   | int k =>
    cases v <;> simp only [zeroMatch,Bool.and_eq_true,beq_iff_eq,reduceCtorEq,Bool.false_eq_true] at h
    obtain ⟨⟨rfl,rfl⟩,h⟩:=h
    exact ⟨h,fun w prot=>VD.int _ (.i 0),fun e he=>by cases he⟩
   | bool =>
    cases v <;> simp only [zeroMatch,Bool.and_eq_true,beq_iff_eq,reduceCtorEq,Bool.false_eq_true,Bool.not_eq_true'] at h
    obtain ⟨rfl,h⟩:=h
    exact ⟨h,fun w prot=>VD.bool (.b false),fun e he=>by cases he⟩
   | str =>
    cases v <;> simp only [zeroMatch,Bool.and_eq_true,beq_iff_eq,reduceCtorEq,Bool.false_eq_true] at h
    rename_i b
    obtain ⟨h0,h⟩:=h
    have hb:b=bsv []:=by
     have:b.data.toList = []:=by simpa using h0
     rw [← bsv_byteList b]
     unfold byteList
     rw [this]
    subst hb
    exact ⟨h,fun w prot=>VD.str (.s []),fun e he=>by cases he⟩
   | sl e =>
    cases v with
    | slice A n c =>
     cases A with
     | some A=>simp [zeroMatch] at h
     | none =>
      cases n with
      | succ n=>simp [zeroMatch] at h
      | zero =>
       cases c with
       | succ c=>simp [zeroMatch] at h
       | zero =>
        simp only [zeroMatch,Bool.and_eq_true] at h
        obtain ⟨h0,h⟩:=h
        obtain ⟨row',hr⟩:=Option.isSome_iff_exists.1 h0
        refine ⟨h,fun w prot=>?_,fun e' he=>by cases he; exact ⟨rfl,row',hr⟩⟩
        exact VD.sl e (.l []) none 0 row' (fun _ _=>undef) hr (by simp [D.rows]) (by omega) (fun i j hi=>by simp [D.rows] at hi) (fun i j s hi=>by simp [D.rows] at hi)
    | _=>simp [zeroMatch] at h
   | opq=>cases v <;> simp [zeroMatch] at h
  obtain ⟨h1,h2,h3⟩:=key
  obtain ⟨k1,k2⟩:=zero_get h1
  refine ⟨by simp [k1],fun j s' hj=>?_⟩
  cases j with
  | zero =>
   simp only [List.getElem?_cons_zero,Option.some.injEq] at hj
   subst hj
   exact ⟨v,rfl,h2,h3⟩
  | succ j=>exact k2 j s' (by simpa using hj)
theorem zero_no:∀ {row:List S} {vs:List Value},zeroMatch P row vs=true→∀ j:Nat,row[j]?≠some .opq
 | [],_,_,j=>by simp
 | s::r,[],h,j=>by cases s <;> simp [zeroMatch] at h
 | s::r,v::vs,h,j=>by
  have key:zeroMatch P r vs=true∧s≠.opq:=by
   cases s <;> cases v <;> simp_all [zeroMatch]
   all_goals (rename_i A n c; cases A <;> cases n <;> cases c <;> simp_all [zeroMatch])
  cases j with
  | zero=>simpa using key.2
  | succ j=>simpa using zero_no key.1 j
theorem zeroC_get (f:S→Nat) (d:Nat):∀ (row:List S) (i j:Nat) c,(zeroC f d i row)[j]?=some c→∃ s,row[j]?=some s∧((∃ e n,s=.sl e∧c=.own (d,n) true e)∨c=.d s)
 | [],i,j,c,h=>by simp [zeroC] at h
 | s::r,i,j,c,h=>by
  cases j with
  | zero =>
   simp only [zeroC,List.getElem?_cons_zero,Option.some.injEq] at h
   subst h
   refine ⟨s,rfl,?_⟩
   cases s with
   | sl e=>exact .inl ⟨e,_,rfl,rfl⟩
   | _=>exact .inr rfl
  | succ j =>
   obtain ⟨s',h1,h2⟩:=zeroC_get f d r (i+1) j c (by simpa [zeroC] using h)
   exact ⟨s',by simpa using h1,h2⟩
theorem zeroC_length (f:S→Nat) (d:Nat):∀ (row:List S) (i:Nat),(zeroC f d i row).length=row.length
 | [],_=>rfl
 | s::r,i=>by
  rw [zeroC,List.length_cons,List.length_cons,zeroC_length f d r (i+1)]
theorem gd_map_zero (row:List S) (j:Nat) (s:S) (h:row[j]?=some s):gd (row.map zeroD) j=zeroD s:=by
 simp [gd,List.getD_eq_getElem?_getD,List.getElem?_map,h]
theorem zero_vcs {f:S→Nat} {row:List S} {vs:Array Value} (h:zeroMatch P row vs.toList=true) (d i:Nat) (h0:∀ i,g.len (d,i)=0):VCs P w g base (zeroC f d i row) (row.map zeroD) vs:=by
 obtain ⟨h1,h2⟩:=zero_get h
 refine ⟨by rw [zeroC_length]; simpa using h1,fun j c hj=>?_⟩
 obtain ⟨s,hs,hc⟩:=zeroC_get f d row i j c hj
 obtain ⟨u,hu,hv,hsl⟩:=h2 j s hs
 refine ⟨u,by simpa using hu,?_⟩
 rw [gd_map_zero row j s hs]
 rcases hc with ⟨e,_,rfl,rfl⟩ | rfl
 ·obtain ⟨rfl,r,hr⟩:=hsl e rfl
  exact ⟨r,hr,.inl ⟨rfl,h0 _,none,rfl⟩⟩
 ·exact hv w g.prot
theorem zeroOk_ok {t:TypeId} {row:List S} (h:zeroOk P t row=true):∃ i v,P.info? t=some i∧i.zero=some v∧zeroMatch P row v.cells.toList=true:=by
 unfold zeroOk at h
 split at h
 ·rename_i i hi
  split at h
  ·rename_i v hv
   exact ⟨i,v,hi,hv,h⟩
  ·cases h
 ·cases h
theorem run_zero {t:TypeId} {i:TypeInfo} {v:Value} (hi:P.info? t=some i) (hz:i.zero=some v) (w:World):(zeroValue t).run P w=.ok v w:=by
 simp [zeroValue,typeInfo,program,hi,hz,Sem.run]
def DoesB (P:Program) (base:Nat) (σ':St) (o:Oper) (a:Act) (w:World):Prop:=
 ∃ z w' g',(execOp a.eval o).run P w=.ok (.value z) w'∧Rel P w' g' base σ' (a.put o.dst z)∧Below base w w'∧Below w.heap.size w w'∧z=.pointer (some ⟨w.heap.size,0,none⟩)
theorem evAlloc_okB (hr:Rel P w g base σ a) {o:Oper} {σ':St} {d:Nat} {b:Bool} {t:TypeId} (ho:o.op=.alloc t) (hdst:o.dst=some d) (hd:∀ d,o.dst=some d→d<a.tmps.size) (h:evAlloc P σ d b t=some (σ',true)):DoesB P base σ' o a w:=by
 unfold evAlloc at h
 split at h
 ·rename_i row hrow
  cases hz:zeroOk P t row with
  | false=>rw [hz] at h; cases h
  | true =>
   rw [hz] at h
   simp only [Bool.not_true,cond_false,Option.some.injEq,Prod.mk.injEq,and_true] at h
   subst h
   obtain ⟨ti,v,hi,hv,hm⟩:=zeroOk_ok hz
   have hE:=ext_box (g:=g) (w:=w) d (.cells v.cells t)
   have hF:=fresh_box hr d (.cells v.cells t)
   have hθ:(newBox g d w.heap.size).θ d=w.heap.size:=if_pos rfl
   have hbox:BoxV P (w.alloc (.cells v.cells t)) (newBox g d w.heap.size) base d (zeroC (dzero P b) d 0 row) (row.map zeroD):=
    ⟨by rw [hθ]; exact hr.base_le,by rw [hθ]; exact if_pos rfl,by rw [hθ]; exact (hr.fresh _ (Nat.le_refl _)).1,by simp [zeroC_length],v.cells,t,by rw [hθ]; exact heap_new w _,zero_vcs hm d 0 (fun i=>if_pos rfl)⟩
   have hrel:=hr.wipeBox (hd d hdst) hE hF hbox
   refine ⟨.pointer (some ⟨w.heap.size,0,none⟩),_,_,?_,hrel.put hd (t:=.c (.ptr d 0) D0) ?_ |> fun h=>by rw [hdst] at h ⊢; exact h,(Below.refl _ _).alloc hr.base_le _,(Below.refl _ _).alloc (Nat.le_refl _) _,rfl⟩
   ·simp only [execOp,ho,Instr.alloc,newVar,Sem.run_bind,run_zero hi hv,run_newRow,Result.andThen_ok,Sem.run_pure]
   ·show Value.pointer _=Value.pointer (some ⟨(newBox g d w.heap.size).θ d,0,none⟩)
    rw [hθ]
 ·cases h
theorem evAlloc_ok (hr:Rel P w g base σ a) {o:Oper} {σ':St} {d:Nat} {b:Bool} {t:TypeId} (ho:o.op=.alloc t) (hdst:o.dst=some d) (hd:∀ d,o.dst=some d→d<a.tmps.size) (h:evAlloc P σ d b t=some (σ',true)):Does P base σ' o a w:=by
 obtain ⟨z,w',g',h1,h2,h3,_⟩:=evAlloc_okB hr ho hdst hd h
 exact ⟨z,w',g',.inl h1,h2,h3⟩
theorem evNil_ok (hr:Rel P w g base σ a) {o:Oper} {σ':St} {d:Nat} (ho:o.op=.assign (.const (.slice none 0 0))) (hdst:o.dst=some d) (hd:∀ d,o.dst=some d→d<a.tmps.size) {ix:Nat} (h:evNil P σ d ix o.type=some (σ',true)):DoesC P base σ' o a w:=by
 unfold evNil at h
 split at h
 ·rename_i e he
  cases hz:(rowOf P e).isSome with
  | false=>rw [hz] at h; cases h
  | true =>
   rw [hz] at h
   simp only [cond_true,Option.some.injEq,Prod.mk.injEq,and_true] at h
   subst h
   obtain ⟨row,hrow⟩:=Option.isSome_iff_exists.1 hz
   have hrel:=hr.wipeRow (hd d hdst) (ext_reset g d w) rfl hr.fresh
   refine ⟨.slice none 0 0,w,resetG g d,.inl (by simp [execOp,ho,Act.eval]),hrel.put hd (t:=.c (.own (d,ix) true e) (.l [])) ?_ |> fun h=>by rw [hdst] at h ⊢; exact h,Below.refl _ _,Below.refl _ _⟩
   exact ⟨row,hrow,.inl ⟨rfl,if_pos rfl,none,rfl⟩⟩
 ·cases h
end
end Go.Proofs.YthbbbhpjkgpdcaaGreat
namespace Go.Proofs.YthbbbhpjkgpdcaaGreat
open Go.RowKit
section
variable [Low] {P:Program} {w w':World} {g g':G} {base:Nat} {σ:St} {a:Act}
def sealG (g:G) (ts:List Tok):G:=
 { g with prot:=fun b=>match g.owner b with | some (.inr t)=>if ts.contains t=true then (if g.ρ t=b then max (g.prot b) (g.len t*g.wid t) else if deepT t=true then max (g.prot b) (g.need b) else g.prot b) else g.prot b | _=>g.prot b }
theorem seal_le (g:G) (ts:List Tok) (b:Nat):g.prot b≤(sealG g ts).prot b:=by
 show _≤(match g.owner b with | some (.inr t)=>if ts.contains t=true then (if g.ρ t=b then max (g.prot b) (g.len t*g.wid t) else if deepT t=true then max (g.prot b) (g.need b) else g.prot b) else g.prot b | _=>g.prot b)
 split
 ·split
  ·split
   ·exact Nat.le_max_left _ _
   ·split
    ·exact Nat.le_max_left _ _
    ·exact Nat.le_refl _
  ·exact Nat.le_refl _
 ·exact Nat.le_refl _
theorem seal_deep {ts:List Tok} {t:Tok} {b:Nat} (ho:g.owner b=some (.inr t)) (hne:b≠g.ρ t) (hd:deepT t=true) (hc:ts.contains t=true):g.need b≤(sealG g ts).prot b:=by
 show _≤(match g.owner b with | some (.inr t)=>if ts.contains t=true then (if g.ρ t=b then max (g.prot b) (g.len t*g.wid t) else if deepT t=true then max (g.prot b) (g.need b) else g.prot b) else g.prot b | _=>g.prot b)
 rw [ho]
 simp only [hc,if_true,if_neg (Ne.symm hne),hd]
 exact Nat.le_max_right _ _
theorem seal_else {ts:List Tok} {t:Tok} {b:Nat} (ho:g.owner b=some (.inr t)) (hc:ts.contains t=false):(sealG g ts).prot b=g.prot b:=by
 show (match g.owner b with | some (.inr t)=>if ts.contains t=true then (if g.ρ t=b then max (g.prot b) (g.len t*g.wid t) else if deepT t=true then max (g.prot b) (g.need b) else g.prot b) else g.prot b | _=>g.prot b)=_
 rw [ho]
 show (if ts.contains t=true then _ else _)=_
 rw [hc,if_neg (by simp)]
theorem seal_at {ts:List Tok} {t:Tok} (ho:g.owner (g.ρ t)=some (.inr t)):(sealG g ts).prot (g.ρ t)=if ts.contains t=true then max (g.prot (g.ρ t)) (g.len t*g.wid t) else g.prot (g.ρ t):=by
 show (match g.owner (g.ρ t) with | some (.inr u)=>if ts.contains u=true then (if g.ρ u=g.ρ t then max (g.prot (g.ρ t)) (g.len u*g.wid u) else if deepT u=true then max (g.prot (g.ρ t)) (g.need (g.ρ t)) else g.prot (g.ρ t)) else g.prot (g.ρ t) | _=>g.prot (g.ρ t))=_
 rw [ho]
 simp
theorem seal_box {ts:List Tok} {b id:Nat} (ho:g.owner b=some (.inl id)):(sealG g ts).prot b=g.prot b:=by
 show (match g.owner b with | some (.inr t)=>if ts.contains t=true then (if g.ρ t=b then max (g.prot b) (g.len t*g.wid t) else if deepT t=true then max (g.prot b) (g.need b) else g.prot b) else g.prot b | _=>g.prot b)=_
 rw [ho]
theorem seal_none {ts:List Tok} {b:Nat} (ho:g.owner b=none):(sealG g ts).prot b=g.prot b:=by
 show (match g.owner b with | some (.inr t)=>if ts.contains t=true then (if g.ρ t=b then max (g.prot b) (g.len t*g.wid t) else if deepT t=true then max (g.prot b) (g.need b) else g.prot b) else g.prot b | _=>g.prot b)=_
 rw [ho]
theorem seal_vd {ts:List Tok} {s:S} {x:D} {v:Value} (h:VD P w g.prot s x v):VD P w (sealG g ts).prot s x v:=
 h.mono fun b o u ho hc=>⟨hc,Nat.lt_of_lt_of_le ho (seal_le g ts b)⟩
theorem seal_cell {ts:List Tok} {t:Tok} {xm:Bool} {i j:Nat} {s:S} {d:D} {u:Value} (h:CellV P base w g t xm i j s d u):CellV P base w (sealG g ts) t (xm && !ts.contains t) i j s d u:=by
 cases hc:ts.contains t with
 | false =>
  rw [show (xm && !false)=xm from by cases xm <;> rfl]
  refine h.mono rfl (fun b o z h1 h2=>⟨h2,Nat.lt_of_lt_of_le h1 (seal_le g ts b)⟩) (fun _ b o h0 ho hne hb=>⟨hb,h0,ho,hne,rfl,rfl,fun e=>by rw [seal_else ho hc]; exact e⟩)
 | true =>
  rw [show (xm && !true)=false from by cases xm <;> rfl]
  unfold CellV at h ⊢
  rw [Bool.and_false,if_neg (by simp)]
  split at h
  ·rename_i hd
   exact TR.vd h fun b π n hl=>by rw [← hl.2.2.2.2.1]; exact seal_deep hl.2.1 hl.2.2.1 (by cases hdt:deepT t <;> simp_all) hc
  ·exact seal_vd h
theorem seal_own {ts:List Tok} {t:Tok} {xm:Bool} {e:TypeId} {row:List S} {rows:List (List D)} {v:Value} (h:OwnV P w g base t xm e row rows v):OwnV P w (sealG g ts) base t (xm && !ts.contains t) e row rows v:=by
 rcases h with h | ⟨cap,arr,E,h1,h2,h3,h4,h5,h6,h7,h8,h9,h10,h11⟩
 ·exact .inl h
 ·refine .inr ⟨cap,arr,E,h1,h2,h3,h4,h5,h6,h7,h8,h9,?_,fun i j s hi hs=>?_⟩
  ·show (sealG g ts).prot (g.ρ t)=if (xm && !ts.contains t)=true then 0 else g.len t*g.wid t
   rw [seal_at h5,h10]
   cases hc:ts.contains t <;> cases xm <;> simp
  ·obtain ⟨u,k1,k2⟩:=h11 i j s hi hs
   exact ⟨u,k1,seal_cell k2⟩
theorem kept_seal (g:G) (ts:List Tok) (w:World):Kept P base g (sealG g ts) w w (sealC ts):=by
 intro c x v hv
 cases c with
 | any=>trivial
 | d s=>exact seal_vd hv
 | kb b=>exact hv
 | own t xm e =>
  obtain ⟨row,hr,hv⟩:=hv
  exact ⟨row,hr,seal_own hv⟩
 | ptr id off=>exact hv
 | eptr tk e off =>
  cases tk with
  | none =>
   obtain ⟨row,b,o,h1,h2,h3,h4⟩:=hv
   refine ⟨row,b,o,h1,h2,h3,fun j s hs=>?_⟩
   obtain ⟨u,k1,k2,k3⟩:=h4 j s hs
   exact ⟨u,k1,Nat.lt_of_lt_of_le k2 (seal_le g ts b),seal_vd k3⟩
  | some t =>
   obtain ⟨row,h1,h2,h3,u,h4⟩:=hv
   change VC P w (sealG g ts) base (.eptr (bif ts.contains t then none else some t) e off) x v
   cases hc:ts.contains t with
   | false =>
    have:=seal_own (ts:=ts) h4
    rw [hc] at this
    exact ⟨row,h1,h2,h3,u,this⟩
   | true =>
    rcases h4 with ⟨h0,_⟩ | ⟨cap,arr,E,k1,k2,k3,k4,k5,k6,k7,k8,k9,k10,k11⟩
    ·rw [h0] at h3; simp at h3
    ·refine ⟨row,g.ρ t,0,h1,by rw [Nat.zero_add]; exact h2,h3,fun j s hs=>?_⟩
     obtain ⟨u',j1,j2⟩:=k11 _ j s h3 hs
     refine ⟨u',by simp only [World.cell?,k6,Nat.zero_add]; exact j1,?_,by have:=seal_cell (ts:=ts) j2; rw [hc] at this; exact this.vd'⟩
     rw [seal_at k5,hc,if_pos rfl,Nat.zero_add]
     have hj:=(List.getElem?_eq_some_iff.1 hs).1
     have:eIx x*row.length+row.length≤(eRows x).length*row.length:=by
      rw [← Nat.succ_mul]; exact Nat.mul_le_mul_right _ h3
     rw [k8] at this
     rw [← k9]
     exact Nat.lt_of_lt_of_le (by omega) (Nat.le_max_right _ _)
 | inn t e off ei =>
  change VC P w (sealG g ts) base (bif ts.contains t then .any else .inn t e off ei) x v
  cases hc:ts.contains t with
  | true=>trivial
  | false =>
   refine inn_mono hv rfl (fun o _ ho=>ho) (fun hu=>?_)
   have:=seal_own (ts:=ts) hu
   rw [hc] at this
   exact this
 | cptr cells off =>
  obtain ⟨b,o,h1,h2,h3⟩:=hv
  refine ⟨b,o,h1,h2,fun j s hs=>?_⟩
  obtain ⟨u,k1,k2⟩:=h3 j s hs
  exact ⟨u,k1,seal_vd k2⟩
 | fn f caps =>
  obtain ⟨arr,h1,h2,h3⟩:=hv
  refine ⟨arr,h1,h2,fun j c hc=>?_⟩
  obtain ⟨u,hu,hcap⟩:=h3 j c hc
  refine ⟨u,hu,?_⟩
  cases c with
  | d s=>exact seal_vd hcap
  | ptr id off=>exact hcap
  | cptr cells off =>
   obtain ⟨b,o,h1,h2,h3⟩:=hcap
   refine ⟨b,o,h1,h2,fun j s hs=>?_⟩
   obtain ⟨u,k1,k2⟩:=h3 j s hs
   exact ⟨u,k1,seal_vd k2⟩
theorem Rel.seal (hr:Rel P w g base σ a) (ts:List Tok):Rel P w (sealG g ts) base (σ.seal ts) a:=by
 have hk:Kept P base g (sealG g ts) w w (sealC ts):=kept_seal g ts w
 refine ⟨fun i=>hr.envMap hk rfl i,fun id cs ds hl=>hr.boxMap hk hl fun cs ds hq=>?_,fun b hb=>?_,hr.base_le,hr.defers,⟨hr.low.1,fun b hb=>?_,hr.low.2.2⟩,hr.mine⟩
 ·obtain ⟨k1,k2,k3,kl,arr,E,k4,k5⟩:=hr.box id cs ds hq
  exact ⟨rfl,rfl,seal_box k2,rfl⟩
 ·have:=hr.fresh b hb
  exact ⟨by rw [seal_none this.2]; exact this.1,this.2⟩
 ·have:=hr.low.2.1 b hb
  exact ⟨this.1,by rw [seal_none this.1]; exact this.2.1,this.2.2⟩
theorem toD_ok {ts:List Tok} {c:Ce} {s:S} {x:D} {v:Value} (hv:VC P w g base c x v) (hs:c.toS=some s) (ht:∀ t xm e,c=.own t xm e→ts.contains t=true):VD P w (sealG g ts).prot s (c.toD x) v:=by
 cases c with
 | d s' =>
  simp only [Ce.toS,Option.some.injEq] at hs
  subst hs
  exact seal_vd hv
 | kb b =>
  simp only [Ce.toS,Option.some.injEq] at hs
  subst hs
  have hv:v=.bool b:=hv
  subst hv
  exact VD.bool (.b b)
 | own t xm e =>
  simp only [Ce.toS,Option.some.injEq] at hs
  subst hs
  obtain ⟨row,hr,hv⟩:=hv
  refine own_vd hr hv (seal_le g ts) (fun hne=>?_) (fun hdt b hb1 hb2=>?_)
  rotate_left
  ·exact seal_deep hb1 hb2 (by cases hdt':deepT t <;> simp_all) (ht t xm e rfl)
  rcases hv with ⟨h0,_⟩ | ⟨cap,arr,E,h1,h2,h3,h4,h5,rest⟩
  ·exact absurd h0 hne
  ·rw [seal_at h5,ht t xm e rfl,if_pos rfl]
   exact Nat.le_max_right _ _
 | _=>cases hs
theorem allS_get:∀ {cs:List Ce} {ss:List S},allS cs=some ss→ss.length=cs.length∧∀ (j:Nat) s,ss[j]?=some s→∃ c,cs[j]?=some c∧c.toS=some s
 | [],ss,h=>by
  simp only [allS,Option.some.injEq] at h
  subst h
  exact ⟨rfl,fun j s h=>by simp at h⟩
 | c::cs,ss,h=>by
  unfold allS at h
  split at h
  ·rename_i d ds h1 h2
   injection h with h
   subst h
   obtain ⟨k1,k2⟩:=allS_get h2
   refine ⟨by simp [k1],fun j s hj=>?_⟩
   cases j with
   | zero =>
    simp only [List.getElem?_cons_zero,Option.some.injEq] at hj
    subst hj
    exact ⟨c,rfl,h1⟩
   | succ j=>exact k2 j s (by simpa using hj)
  ·cases h
theorem toDs_get:∀ (cs:List Ce) (ds:List D) (j:Nat) c,cs[j]?=some c→gd (toDs cs ds) j=c.toD (gd ds j)
 | [],ds,j,c,h=>by simp at h
 | c0::cs,ds,0,c,h=>by
  simp only [List.getElem?_cons_zero,Option.some.injEq] at h
  subst h; rfl
 | c0::cs,ds,j+1,c,h=>by
  rw [toDs,gd_cons_succ,toDs_get cs ds.tail j c (by simpa using h),gd_tail]
theorem mem_toks:∀ {cs:List Ce} {t:Tok} {xm:Bool} {e:TypeId},Ce.own t xm e∈cs→t∈toks cs
 | [],_,_,_,h=>by simp at h
 | c::cs,t,xm,e,h=>by
  rcases List.mem_cons.1 h with h | h
  ·subst h; simp [toks]
  ·have:=mem_toks h
   cases c <;> simp [toks,this]
theorem row_ok {ts:List Tok} {cs:List Ce} {ds:List D} {ss:List S} {arr:Array Value} (hv:VCs P w g base cs ds arr) (hs:allS cs=some ss) (ht:∀ t∈toks cs,ts.contains t=true) :
  arr.size=ss.length∧∀ (j:Nat) s,ss[j]?=some s→∃ u,arr[j]?=some u∧VD P w (sealG g ts).prot s (gd (toDs cs ds) j) u:=by
 obtain ⟨h1,h2⟩:=allS_get hs
 refine ⟨by rw [hv.1,h1],fun j s hj=>?_⟩
 obtain ⟨c,hc,hcs⟩:=h2 j s hj
 obtain ⟨u,hu,hvc⟩:=hv.2 j c hc
 refine ⟨u,hu,?_⟩
 rw [toDs_get cs ds j c hc]
 exact toD_ok hvc hcs fun t xm e he=>ht t (mem_toks (he▸List.mem_of_getElem? hc))
theorem aD_ok {ts:List Tok} {c:Ce} {s:S} {x:D} {v:Value} (hv:VC P w g base c x v) (hs:c.aS=some s) (ht:∀ t∈toksA [c],ts.contains t=true):VD P w (sealG g ts).prot s (c.aD x) v:=by
 cases c with
 | inn t e off ei =>
  simp only [Ce.aS,Option.some.injEq] at hs
  subst hs
  have hc:=ht t (by simp [toksA])
  obtain ⟨row,h1,⟨u,h5⟩,⟨h0,h2,h3,h4,arr,E,h6,h7,h8⟩ | ⟨h0,h2,h3⟩⟩:=hv
  rotate_left
  ·subst h2
   show VD P w (sealG g ts).prot (.sl ei) (innD off x) v
   unfold innD
   rw [show Nat.ble viewOff off=true from Nat.ble_eq_true_of_le h0,cond_true]
   refine h3.mono fun b o z ho hz=>⟨hz,?_⟩
   by_cases hb:b=g.ρ t
   ·subst hb
    rw [if_pos rfl] at ho
    rcases h5 with ⟨hr,_⟩ | ⟨_,arr,E,_,_,_,_,k5,k6,_,k8,k9,_⟩
    ·rw [hr] at ho; simp at ho
    ·rw [seal_at k5,hc,if_pos rfl,← k8,← k9]
     exact Nat.lt_of_lt_of_le ho (Nat.le_max_right _ _)
   ·rw [if_neg hb] at ho; omega
  have hof:innD off x=gd ((eRows x).getD (eIx x) []) off:=by
   unfold innD
   rw [show Nat.ble viewOff off=false from by cases hq:Nat.ble viewOff off with | false=>rfl | true=>have:=Nat.le_of_ble_eq_true hq; omega,cond_false]
   rfl
  show VD P w (sealG g ts).prot (.sl ei) (innD off x) v
  rw [hof]
  rcases h5 with ⟨h0,_⟩ | ⟨cap,arr',E',k1,k2,k3,k4,k5,k6,k7,k8,k9,k10,k11⟩
  ·rw [h0] at h4; simp at h4
  ·rw [k6] at h6
   injection h6 with h6
   injection h6 with h6
   subst h6
   obtain ⟨z,z1,z2⟩:=k11 _ off _ h4 h2
   rw [h7] at z1
   injection z1 with z1
   subst z1
   exact TR.vd (z2.tr h3) fun b π n hl=>by rw [← hl.2.2.2.2.1]; exact seal_deep hl.2.1 hl.2.2.1 h3 hc
 | d s'=>exact toD_ok hv hs (fun t xm e h=>by cases h)
 | kb b=>exact toD_ok hv hs (fun t xm e h=>by cases h)
 | own t xm e=>exact toD_ok hv hs (fun t' xm' e' h=>by cases h; exact ht t (by simp [toksA]))
 | _=>cases hs
theorem aSs_get:∀ {cs:List Ce} {ss:List S},aSs cs=some ss→ss.length=cs.length∧∀ (j:Nat) s,ss[j]?=some s→∃ c,cs[j]?=some c∧c.aS=some s
 | [],ss,h=>by
  simp only [aSs,Option.some.injEq] at h
  subst h
  exact ⟨rfl,fun j s h=>by simp at h⟩
 | c::cs,ss,h=>by
  unfold aSs at h
  split at h
  ·rename_i d ds h1 h2
   injection h with h
   subst h
   obtain ⟨k1,k2⟩:=aSs_get h2
   refine ⟨by simp [k1],fun j s hj=>?_⟩
   cases j with
   | zero =>
    simp only [List.getElem?_cons_zero,Option.some.injEq] at hj
    subst hj
    exact ⟨c,rfl,h1⟩
   | succ j=>exact k2 j s (by simpa using hj)
  ·cases h
theorem aDs_get:∀ (cs:List Ce) (ds:List D) (j:Nat) c,cs[j]?=some c→gd (aDs cs ds) j=c.aD (gd ds j)
 | [],ds,j,c,h=>by simp at h
 | c0::cs,ds,0,c,h=>by
  simp only [List.getElem?_cons_zero,Option.some.injEq] at h
  subst h; rfl
 | c0::cs,ds,j+1,c,h=>by
  rw [aDs,gd_cons_succ,aDs_get cs ds.tail j c (by simpa using h),gd_tail]
theorem mem_toksA:∀ {cs:List Ce} {c:Ce} {t:Tok},c∈cs→t∈toksA [c]→t∈toksA cs
 | [],_,_,h,_=>by simp at h
 | c::cs,c',t,h,ht=>by
  rcases List.mem_cons.1 h with h | h
  ·subst h
   cases c' <;> simp [toksA] at ht ⊢
   ·exact .inl ht
   ·exact .inl ht
  ·have:=mem_toksA h ht
   cases c <;> simp [toksA,this]
theorem row_okA {ts:List Tok} {cs:List Ce} {ds:List D} {ss:List S} {arr:Array Value} (hv:VCs P w g base cs ds arr) (hs:aSs cs=some ss) (ht:∀ t∈toksA cs,ts.contains t=true) :
  arr.size=ss.length∧∀ (j:Nat) s,ss[j]?=some s→∃ u,arr[j]?=some u∧VD P w (sealG g ts).prot s (gd (aDs cs ds) j) u:=by
 obtain ⟨h1,h2⟩:=aSs_get hs
 refine ⟨by rw [hv.1,h1],fun j s hj=>?_⟩
 obtain ⟨c,hc,hcs⟩:=h2 j s hj
 obtain ⟨u,hu,hvc⟩:=hv.2 j c hc
 refine ⟨u,hu,?_⟩
 rw [aDs_get cs ds j c hc]
 exact aD_ok hvc hcs fun t he=>ht t (mem_toksA (List.mem_of_getElem? hc) he)
theorem litRows_ok (hr:Rel P w g base σ a) {row:List S} {ts:List Tok}:∀ {parts:List (Nat × Operand)} {k:Nat} {rows:List (List D)} {ts':List Tok},litRows σ row parts k=some (rows,ts')→(∀ t∈ts',ts.contains t=true) →
  ∃ vs:List Value,parts.map (fun p=>(p.1,a.eval p.2))=(vs.zipIdx k).map (fun x=>(x.2,x.1))∧vs.length=parts.length∧rows.length=parts.length∧(∀ v∈vs,v.cells.size=row.length) ∧
   ∀ (i:Nat) v (j:Nat) s,vs[i]?=some v→row[j]?=some s→∃ u,v.cells[j]?=some u∧VD P w (sealG g ts).prot s (gd (rows.getD i []) j) u
 | [],k,rows,ts',h,_=>by
  simp only [litRows,Option.some.injEq,Prod.mk.injEq] at h
  obtain ⟨rfl,rfl⟩:=h
  exact ⟨[],rfl,rfl,rfl,fun v hv=>by simp at hv,fun i v j s hi=>by simp at hi⟩
 | (i,x)::r,k,rows,ts',h,ht=>by
  unfold litRows at h
  cases hik:(i==k) with
  | false=>rw [hik] at h; cases h
  | true =>
   rw [hik,cond_true] at h
   have hik:i=k:=by simpa using hik
   subst hik
   split at h
   ·rename_i cs ds rows0 ts0 h1 h2
    cases hss:(allS cs==some row) with
    | false=>rw [hss] at h; cases h
    | true =>
     rw [hss] at h
     have hss:allS cs=some row:=by simpa using hss
     simp only [cond_true,Option.some.injEq,Prod.mk.injEq] at h
     obtain ⟨rfl,rfl⟩:=h
     obtain ⟨vs,k1,k2,k3,k4,k5⟩:=litRows_ok hr h2 (fun t hh=>ht t (List.mem_append.2 (.inr hh)))
     obtain ⟨hcs,_⟩:=cells_ok h1 (opd_ok hr x)
     obtain ⟨m1,m2⟩:=row_ok hcs hss (fun t hh=>ht t (List.mem_append.2 (.inl hh)))
     refine ⟨a.eval x::vs,by simp [k1],by simp [k2],by simp [k3],fun v hv=>?_,fun i v j s hi hs=>?_⟩
     ·rcases List.mem_cons.1 hv with rfl | hv
      ·exact m1
      ·exact k4 v hv
     ·cases i with
      | zero =>
       simp only [List.getElem?_cons_zero,Option.some.injEq] at hi
       subst hi
       exact m2 j s hs
      | succ i=>exact k5 i v j s (by simpa using hi) hs
   ·cases h
theorem VD.ext {d:Option Nat} (h:Ext d g g' w w') {s:S} {x:D} {v:Value} (hv:VD P w g.prot s x v):VD P w' g'.prot s x v:=h.vd hv
theorem newRow_own {w:World} (hr:Rel P w g base σ a) {d:Nat} (hd₀:d<a.tmps.size) {e:TypeId} {row:List S} {rows:List (List D)} {arr:Array Value} (hrow:rowOf P e=some row) (hsz:arr.size=rows.length*row.length) {ix:Nat}
  (hle:rows.length≤9223372036854775807) (hv:∀ (i j:Nat) s,i<rows.length→row[j]?=some s→∃ u,arr[i*row.length+j]?=some u∧CellV P base (w.alloc (.cells arr e)) (newRowG g (d,ix) e w.heap.size rows.length row.length 0) (d,ix) true i j s (gd (rows.getD i []) j) u) :
  Rel P (w.alloc (.cells arr e)) (newRowG g (d,ix) e w.heap.size rows.length row.length 0) base (σ.wipe d) a ∧
  VT P (w.alloc (.cells arr e)) (newRowG g (d,ix) e w.heap.size rows.length row.length 0) base (.c (.own (d,ix) true e) (.l rows)) (.slice (some ⟨w.heap.size,0,none⟩) rows.length rows.length):=by
 have hE:=ext_row (g:=g) (w:=w) (d,ix) e rows.length row.length 0 (.cells arr e)
 refine ⟨hr.wipeRow hd₀ hE rfl (fresh_row hr _ _ _ _ _ _),row,hrow,?_⟩
 have e1:(newRowG g (d,ix) e w.heap.size rows.length row.length 0).ρ (d,ix)=w.heap.size:=if_pos rfl
 have e2:(newRowG g (d,ix) e w.heap.size rows.length row.length 0).len (d,ix)=rows.length:=if_pos rfl
 have e3:(newRowG g (d,ix) e w.heap.size rows.length row.length 0).wid (d,ix)=row.length:=if_pos rfl
 have e4:(newRowG g (d,ix) e w.heap.size rows.length row.length 0).prot w.heap.size=0:=if_pos rfl
 have e5:(newRowG g (d,ix) e w.heap.size rows.length row.length 0).owner w.heap.size=some (.inr (d,ix)):=if_pos rfl
 have e6:(newRowG g (d,ix) e w.heap.size rows.length row.length 0).ety (d,ix)=e:=if_pos rfl
 refine .inr ⟨rows.length,arr,e,by rw [e1]; rfl,Nat.le_refl _,⟨hle,rfl,e6.symm⟩,by rw [e1]; exact hr.base_le,by rw [e1]; exact e5,by rw [e1]; exact heap_new w _,hsz,e2.symm,e3.symm,by rw [e1]; exact e4,fun i j s hi hs=>?_⟩
 exact hv i j s hi hs
theorem newRow_cell {w:World} {d:Nat} {e:TypeId} {rows:List (List D)} {row:List S} {arr:Array Value} {ix i j:Nat} {s:S} {x:D} {u:Value} (h:VD P w g.prot s x u) (hd:deepT (d,ix)=false∨s.flat=true∨x.rows = []∧∃ A e',s=.sl e'∧(rowOf P e').isSome=true∧u=.slice A 0 0) :
  CellV P base (w.alloc (.cells arr e)) (newRowG g (d,ix) e w.heap.size rows.length row.length 0) (d,ix) true i j s x u:=by
 have hE:=ext_row (g:=g) (w:=w) (d,ix) e rows.length row.length 0 (.cells arr e)
 rcases hd with hd | hd | ⟨h0,A,e',rfl,hr,rfl⟩
 ·exact .of_vd (hE.vd h) (.inl (by rw [hd]; rfl))
 ·exact .of_vd (hE.vd h) (.inr hd)
 ·unfold CellV
  split
  ·exact .nil _ _ _ _ hr h0
  ·exact hE.vd h
theorem evBuildSlice_ok (hr:Rel P w g base σ a) {o:Oper} {σ':St} {d n:Nat} {t:TypeId} {parts:Array (Nat × Operand)} (ho:o.op=.buildSlice t n parts) (hdst:o.dst=some d) (hd:∀ d,o.dst=some d→d<a.tmps.size)
  (h:evBuildSlice P σ d t n parts.toList=some (σ',true)):DoesC P base σ' o a w:=by
 unfold evBuildSlice at h
 split at h
 ·rename_i e he
  split at h
  ·rename_i row hrow
   cases hc:(parts.toList.length==n&&decide (n*row.length≤16777216)&&zeroOk P e row) with
   | false=>rw [hc] at h; cases h
   | true =>
    rw [hc,cond_true] at h
    simp only [Bool.and_eq_true,beq_iff_eq,decide_eq_true_eq] at hc
    obtain ⟨⟨hn,hsmall⟩,hz⟩:=hc
    split at h
    ·rename_i rows ts hlit
     simp only [Option.some.injEq,Prod.mk.injEq,and_true] at h
     subst h
     obtain ⟨vs,k1,k2,k3,k4,k5⟩:=litRows_ok (ts:=ts) hr hlit (fun t ht=>List.contains_iff_mem.2 ht)
     obtain ⟨ti,v0,hi,hv0,hm⟩:=zeroOk_ok hz
     have hpos:=rowOf_pos hrow
     have hsz:=rowOf_size hrow
     have hti:ti.size=row.length:=by
      have:=hsz
      unfold tSize at this
      rw [hi] at this
      injection this
     let arr:Array Value:=(vs.flatMap fun v=>v.cells.toList).toArray
     have harr:arr.size=rows.length*row.length:=by
      have:∀ l:List Value,(∀ v∈l,v.cells.size=row.length)→(l.flatMap fun v=>v.cells.toList).length=l.length*row.length:=by
       intro l hl
       induction l with
       | nil=>simp
       | cons x l ih =>
        rw [List.flatMap_cons,List.length_append,ih (fun v hv=>hl v (by simp [hv])),List.length_cons,Nat.succ_mul]
        have:=hl x (by simp)
        simp [this]; omega
      show (vs.flatMap fun v=>v.cells.toList).toArray.size=_
      rw [List.size_toArray,this vs k4,k2,k3]
     have hcell:∀ (i j:Nat) s,i<rows.length→row[j]?=some s→∃ u,arr[i*row.length+j]?=some u∧VD P w (sealG g ts).prot s (gd (rows.getD i []) j) u:=by
      intro i j s hi hs
      have hj:=(List.getElem?_eq_some_iff.1 hs).1
      have hvi:vs[i]?=some (vs[i]'(by omega)):=List.getElem?_eq_getElem (by omega)
      obtain ⟨u,h1,h2⟩:=k5 i _ j s hvi hs
      refine ⟨u,?_,h2⟩
      show (vs.flatMap fun v=>v.cells.toList).toArray[i*row.length+j]?=_
      rw [List.getElem?_toArray,Great.flat_get hpos vs k4]
      have q1:(i*row.length+j) / row.length=i:=by
       rw [Nat.mul_comm,Nat.mul_add_div hpos,Nat.div_eq_of_lt hj,Nat.add_zero]
      have q2:(i*row.length+j) % row.length=j:=by
       rw [Nat.mul_comm,Nat.mul_add_mod,Nat.mod_eq_of_lt hj]
      rw [q1,q2,hvi]
      exact h1
     have hrs:=hr.seal ts
     obtain ⟨r1,r2⟩:=newRow_own (d:=d) hrs (hd d hdst) hrow harr (by have:rows.length*1≤rows.length*row.length:=Nat.mul_le_mul_left _ hpos; rw [k3,hn] at this; rw [k3,hn]; omega) (ix:=0) (fun i j s hi hs=>by obtain ⟨u,k1,k2⟩:=hcell i j s hi hs; exact ⟨u,k1,newRow_cell k2 (.inl rfl)⟩)
     have hlen:rows.length=n:=by rw [k3]; exact hn
     rw [hlen] at r1 r2
     have hfill:Instr.fill (fun i=>some (i*row.length,row.length)) ((Array.range (n*row.length)).map ((if n*row.length=0 then #[] else v0.cells)[· % (if n*row.length=0 then #[] else v0.cells).size]!)) (parts.map fun p=>(p.1,a.eval p.2)).toList=some arr:=by
      rw [Array.toList_map,k1]
      exact Great.fill_whole hpos vs _ k4 (by rw [k2,← hn]; simp)
     refine ⟨.slice (some ⟨w.heap.size,0,none⟩) n n,_,_,.inl ?_,r1.put hd (t:=.c (.own (d,0) true e) (.l rows)) r2 |> fun h=>by rw [hdst] at h ⊢; exact h,(Below.refl _ _).alloc hr.base_le _,(Below.refl _ _).alloc (Nat.le_refl _) _⟩
     simp only [execOp,ho,Instr.buildSlice,Sem.run_bind,run_underlying (tElem_und he),run_size hsz,Result.andThen_ok]
     rw [if_neg (by omega)]
     by_cases h0:n*row.length=0
     ·rw [if_pos h0] at hfill ⊢
      simp only [Sem.run_bind,Sem.run_pure,Result.andThen_ok]
      simp only [h0,if_true] at hfill
      rw [show n*row.length=0 from h0] at *
      rw [hfill]
      simp only [Sem.run_bind,run_newRow,Result.andThen_ok,Sem.run_pure]
     ·simp only [if_neg h0] at hfill ⊢
      simp only [Sem.run_bind,run_zero hi hv0,Sem.run_pure,Result.andThen_ok]
      rw [hfill]
      simp only [Sem.run_bind,run_newRow,Result.andThen_ok,Sem.run_pure]
    ·cases h
  ·cases h
 ·cases h
end
end Go.Proofs.YthbbbhpjkgpdcaaGreat
namespace Go.Proofs.YthbbbhpjkgpdcaaGreat
open Go.RowKit
section
variable [Low] {P:Program} {w w':World} {g g':G} {base:Nat} {σ:St} {a:Act}
theorem bytesOk_ok {e:TypeId} (h:bytesOk P e=true):∃ i,P.info? e=some i∧i.bytes≤16384:=by
 unfold bytesOk at h
 split at h
 ·rename_i i hi
  exact ⟨i,hi,by simpa using h⟩
 ·cases h
theorem evMakeSlice_ok (hr:Rel P w g base σ a) {o:Oper} {σ':St} {d:Nat} {t:TypeId} {x y:Operand} (ho:o.op=.makeSlice t x y) (hdst:o.dst=some d) (hd:∀ d,o.dst=some d→d<a.tmps.size)
  {ix:Nat} (h:evMakeSlice P σ d ix t x y=some (σ',true)):DoesC P base σ' o a w:=by
 unfold evMakeSlice at h
 split at h
 ·rename_i e he
  split at h
  ·rename_i row n m hrow hn hm
   simp only [Option.some.injEq,Prod.mk.injEq,Bool.and_eq_true,decide_eq_true_eq] at h
   obtain ⟨rfl,⟨⟨⟨h0,rfl⟩,h1⟩,hz⟩,hby⟩:=h
   obtain ⟨k1,hx⟩:=int_ok hn (opd_ok hr x)
   obtain ⟨k2,hy⟩:=int_ok hm (opd_ok hr y)
   obtain ⟨ti,v0,hi,hv0,hmz⟩:=zeroOk_ok hz
   obtain ⟨ti',hi',hb⟩:=bytesOk_ok hby
   rw [hi] at hi'; injection hi' with hi'; subst hi'
   have hsz:=rowOf_size hrow
   have hpos:=rowOf_pos hrow
   obtain ⟨hz1,hz2⟩:=zero_get hmz
   let zero:Array Value:=if n.toNat*row.length=0 then #[] else v0.cells
   let arr:Array Value:=(Array.range (n.toNat*row.length)).map (zero[· % zero.size]!)
   have harr:arr.size=(List.replicate n.toNat (row.map zeroD)).length*row.length:=by simp [arr]
   have hcell:∀ (i j:Nat) s,i<(List.replicate n.toNat (row.map zeroD)).length→row[j]?=some s→∃ u,arr[i*row.length+j]?=some u∧CellV P base (w.alloc (.cells arr e)) (newRowG g (d,ix) e w.heap.size (List.replicate n.toNat (row.map zeroD)).length row.length 0) (d,ix) true i j s (gd ((List.replicate n.toNat (row.map zeroD)).getD i []) j) u:=by
    intro i j s hi' hs
    have hj:=(List.getElem?_eq_some_iff.1 hs).1
    have hi2:i<n.toNat:=by simpa using hi'
    obtain ⟨u,hu,hv,hvn⟩:=hz2 j s hs
    have hlt:i*row.length+j<n.toNat*row.length:=by
     have:(i+1)*row.length≤n.toNat*row.length:=Nat.mul_le_mul_right _ hi2
     rw [Nat.succ_mul] at this
     omega
    have hzero:zero=v0.cells:=by show (if _ then _ else _)=_; rw [if_neg (by omega)]
    have hzs:zero.size=row.length:=by rw [hzero]; simpa using hz1
    refine ⟨u,?_,?_⟩
    ·show ((Array.range (n.toNat*row.length)).map (zero[· % zero.size]!))[i*row.length+j]?=_
     rw [Array.getElem?_map,Array.getElem?_range,if_pos hlt,Option.map_some,hzs]
     rw [Nat.mul_comm,Nat.mul_add_mod,Nat.mod_eq_of_lt hj,hzero]
     have:v0.cells[j]?=some u:=by simpa using hu
     rw [getElem!_def,this]
    ·have e:(List.replicate n.toNat (row.map zeroD)).getD i []=row.map zeroD:=by
      rw [List.getD_eq_getElem?_getD,List.getElem?_replicate,if_pos hi2]; rfl
     rw [e,gd_map_zero row j s hs]
     refine newRow_cell (hv w g.prot) ?_
     cases s with
     | sl e' =>
      obtain ⟨rfl,r,hr'⟩:=hvn e' rfl
      exact .inr (.inr ⟨rfl,none,e',rfl,by rw [hr']; rfl,rfl⟩)
     | opq=>exact absurd hs (zero_no hmz j)
     | _=>exact .inr (.inl rfl)
   obtain ⟨r1,r2⟩:=newRow_own (d:=d) hr (hd d hdst) hrow harr (by simp; omega) hcell
   have hlen:(List.replicate n.toNat (row.map zeroD)).length=n.toNat:=by simp
   rw [hlen] at r1 r2
   refine ⟨.slice (some ⟨w.heap.size,0,none⟩) n.toNat n.toNat,_,_,.inl ?_,r1.put hd (t:=.c (.own (d,ix) true e) (.l _)) r2 |> fun h=>by rw [hdst] at h ⊢; exact h,(Below.refl _ _).alloc hr.base_le _,(Below.refl _ _).alloc (Nat.le_refl _) _⟩
   have hw:IntKind.i64.wrap n=n:=IntWalk.i64_in _ (by omega)
   have hbn:(ti.bytes:Int)*n≤16384*4294967296:=by
    have h2:ti.bytes*n.toNat≤16384*4294967296:=Nat.mul_le_mul hb (by omega)
    have:((ti.bytes*n.toNat:Nat):Int)≤((16384*4294967296:Nat):Int):=by exact_mod_cast h2
    rw [Int.natCast_mul,Int.toNat_of_nonneg h0] at this
    exact this
   have hlarge:¬ (n<0∨(ti.bytes:Int)*n > 2 ^ 48):=by
    have:(16384*4294967296:Int)≤2 ^ 48:=by decide
    omega
   simp only [execOp,ho,hx,hy,Instr.makeSlice,Sem.run_bind,run_underlying (tElem_und he),Result.andThen_ok,asInt,asIntOf,Sem.run_pure,typeInfo,program,Sem.run,hi,hw]
   rw [if_neg (by simp; omega)]
   have hroom:(askRoom (n.toNat*ti.bytes)).run P w=.ok () w:=by
    unfold askRoom; split <;> simp [mark,Sem.run]
   simp only [Sem.run_bind,hroom,Result.andThen_ok,run_size hsz]
   by_cases hz0:n.toNat*row.length=0
   ·rw [if_pos hz0]
    have:zero = #[]:=if_pos hz0
    simp only [Sem.run_bind,Sem.run_pure,Result.andThen_ok]
    rw [← this]
    simp only [Sem.run_bind,run_newRow,Result.andThen_ok,Sem.run_pure]
    rfl
   ·rw [if_neg hz0]
    have:zero=v0.cells:=if_neg hz0
    simp only [Sem.run_bind,run_zero hi hv0,Sem.run_pure,Result.andThen_ok]
    rw [← this]
    simp only [Sem.run_bind,run_newRow,Result.andThen_ok,Sem.run_pure]
    rfl
  ·cases h
 ·cases h
theorem setSub_get {α:Type}:∀ (xs l:List α) (o k:Nat),(setSub l o xs)[k]?=if o≤k∧k<o+xs.length∧k<l.length then xs[k - o]? else l[k]?
 | [],l,o,k=>by rw [setSub,if_neg (by simp; omega)]
 | x::xs,l,o,k=>by
  rw [setSub,setSub_get xs (l.set o x) (o+1) k]
  simp only [List.length_set,List.length_cons]
  by_cases hk:o=k
  ·subst hk
   rw [if_neg (by omega)]
   by_cases hl:o<l.length
   ·rw [if_pos ⟨Nat.le_refl _,by omega,hl⟩]
    simp [hl]
   ·rw [if_neg (by omega),List.getElem?_eq_none (by simp; omega),List.getElem?_eq_none (by omega)]
  ·by_cases hin:o+1≤k∧k<o+1+xs.length∧k<l.length
   ·rw [if_pos hin,if_pos (by omega)]
    rw [show k - o=(k - (o+1))+1 from by omega,List.getElem?_cons_succ]
   ·rw [if_neg hin,if_neg (by omega),List.getElem?_set_ne hk]
theorem setSub_length {α:Type}:∀ (xs l:List α) (o:Nat),(setSub l o xs).length=l.length
 | [],l,o=>rfl
 | x::xs,l,o=>by rw [setSub,setSub_length xs,List.length_set]
theorem gd_setSub (xs l:List D) (o k:Nat) (hl:k<l.length):gd (setSub l o xs) k=if o≤k∧k<o+xs.length then gd xs (k - o) else gd l k:=by
 unfold gd
 rw [List.getD_eq_getElem?_getD,setSub_get]
 split
 ·rename_i h; rw [if_pos ⟨h.1,h.2.1⟩,List.getD_eq_getElem?_getD]
 ·rename_i h; rw [if_neg (fun h'=>h ⟨h'.1,h'.2,hl⟩),List.getD_eq_getElem?_getD]
theorem vcs_setSub {cs cs':List Ce} {ds ds':List D} {arr arr' us:Array Value} {off:Nat} (hv:VCs P w g base cs ds arr) (hu:VCs P w g base cs' ds' us) (hle:off+cs'.length≤cs.length) (hds:ds.length=cs.length) (hds':ds'.length=cs'.length)
  (hsz:arr'.size=arr.size) (harr:∀ k,k<arr.size→arr'[k]?=if off≤k∧k<off+us.size then us[k - off]? else arr[k]?):VCs P w g base (setSub cs off cs') (setSub ds off ds') arr':=by
 refine ⟨by rw [hsz,hv.1,setSub_length],fun j c hj=>?_⟩
 have hjl:j<cs.length:=by
  have:=(List.getElem?_eq_some_iff.1 hj).1
  rwa [setSub_length] at this
 rw [setSub_get] at hj
 rw [harr j (by rw [hv.1]; exact hjl),gd_setSub _ _ _ _ (by rw [hds]; exact hjl)]
 by_cases hin:off≤j∧j<off+cs'.length
 ·rw [if_pos ⟨hin.1,hin.2,hjl⟩] at hj
  rw [if_pos (by rw [hu.1]; exact hin),if_pos (by rw [hds']; exact hin)]
  exact hu.2 _ c hj
 ·rw [if_neg (fun h=>hin ⟨h.1,h.2.1⟩)] at hj
  rw [if_neg (by rw [hu.1]; exact hin),if_neg (by rw [hds']; exact hin)]
  exact hv.2 _ c hj
theorem run_places {w:World}:∀ (fs:List Field),(∀ f∈fs,(tSize P f.type).isSome=true)→(fs.mapM fun f=>(do pure (f.offset,← sizeOf f.type):Sem (Nat × Nat))).run P w=.ok (fs.map fun f=>(f.offset,(tSize P f.type).getD 0)) w
 | [],_=>by simp
 | f::fs,h=>by
  obtain ⟨n,hn⟩:=Option.isSome_iff_exists.1 (h f (by simp))
  have ih:=run_places (w:=w) fs (fun f hf=>h f (by simp [hf]))
  simp only [List.mapM_cons,Sem.run_bind,run_size hn,Result.andThen_ok,Sem.run_pure,ih,List.map_cons,hn,Option.getD_some]
theorem litCells_ok (hr:Rel P w g base σ a) {t:TypeId} {fs:Array Field} (hu:P.underlying t=some (.struct fs)):∀ {parts:List (Nat × Operand)} {cs cs':List Ce} {ds ds':List D} {arr:Array Value},
  litCells P t σ parts (cs,ds)=some (cs',ds')→VCs P w g base cs ds arr→ds.length=cs.length →
  ∃ arr',Instr.fill ((fs.map fun f=>(f.offset,(tSize P f.type).getD 0))[·]?) arr (parts.map fun p=>(p.1,a.eval p.2))=some arr'∧VCs P w g base cs' ds' arr'
 | [],cs,cs',ds,ds',arr,h,hv,_=>by
  simp only [litCells,Option.some.injEq,Prod.mk.injEq] at h
  obtain ⟨rfl,rfl⟩:=h
  exact ⟨arr,rfl,hv⟩
 | (i,x)::r,cs,cs',ds,ds',arr,h,hv,hl=>by
  unfold litCells at h
  split at h
  ·rename_i off ft cs1 ds1 hf hc
   cases hsz:(tSize P ft==some cs1.length&&Nat.ble (off+cs1.length) cs.length) with
   | false=>rw [hsz] at h; cases h
   | true =>
    rw [hsz,cond_true] at h
    simp only [Bool.and_eq_true,beq_iff_eq] at hsz
    obtain ⟨hsz,hle⟩:=hsz
    have hle:off+cs1.length≤cs.length:=Nat.le_of_ble_eq_true hle
    obtain ⟨fs',f,hu',hfi,rfl,rfl⟩:=tField_ok hf
    rw [hu] at hu'; injection hu' with hu'; injection hu' with hu'; subst hu'
    obtain ⟨hx,_⟩:=cells_ok hc (opd_ok hr x)
    obtain ⟨g1,g2⟩:=Great.foldl_set f.offset (a.eval x).cells.toList 0 arr
    let arr1:=((a.eval x).cells.toList.zipIdx 0).foldl (fun cs (x:Value × Nat)=>cs.setIfInBounds (f.offset+x.2) x.1) arr
    have hv1:VCs P w g base (setSub cs f.offset cs1) (setSub ds f.offset ds1) arr1:=by
     refine vcs_setSub hv hx hle hl (cells_length hc) g1 fun k hk=>?_
     rw [g2 k]
     simp only [Nat.add_zero,Array.length_toList]
     by_cases hin:f.offset≤k∧k<f.offset+(a.eval x).cells.size
     ·rw [if_pos ⟨hin.1,hin.2,hk⟩,if_pos hin]; simp
     ·rw [if_neg (fun h=>hin ⟨h.1,h.2.1⟩),if_neg hin]
    obtain ⟨arr',k1,k2⟩:=litCells_ok hr hu h hv1 (by rw [setSub_length,setSub_length]; exact hl)
    refine ⟨arr',?_,k2⟩
    simp only [List.map_cons]
    unfold Instr.fill
    have hpl:(fs.map fun f=>(f.offset,(tSize P f.type).getD 0))[i]?=some (f.offset,cs1.length):=by
     rw [Array.getElem?_map,hfi]
     simp [hsz]
    simp only [hpl]
    rw [if_neg (by simp only [hx.1]; simp; rw [hv.1]; exact hle)]
    rw [← k1]
    congr 1
    rw [← Array.foldl_toList,Array.toList_zipIdx]
  ·cases h
theorem evBuild_ok (hr:Rel P w g base σ a) {o:Oper} {σ':St} {d:Nat} {b:Bool} {t:TypeId} {parts:Array (Nat × Operand)} (ho:o.op=.build t parts) (hdst:o.dst=some d) (hd:∀ d,o.dst=some d→d<a.tmps.size)
  (h:evBuild P σ d b t parts.toList=some (σ',true)):DoesC P base σ' o a w:=by
 unfold evBuild at h
 split at h
 ·rename_i row hrow
  split at h
  ·rename_i cs ds hl
   cases hz:(zeroOk P t row&&fieldsOk P t) with
   | false=>rw [hz] at h; cases h
   | true =>
    rw [hz] at h
    simp only [Bool.not_true,cond_false,Option.some.injEq,Prod.mk.injEq,and_true] at h
    subst h
    simp only [Bool.and_eq_true] at hz
    obtain ⟨hz,hfo⟩:=hz
    obtain ⟨ti,v0,hi,hv0,hmz⟩:=zeroOk_ok hz
    obtain ⟨fs,hu,hfs⟩:∃ fs,P.underlying t=some (.struct fs)∧∀ f∈fs.toList,(tSize P f.type).isSome=true:=by
     unfold fieldsOk at hfo
     split at hfo
     ·rename_i fs hu
      exact ⟨fs,hu,fun f hf=>List.all_eq_true.1 hfo f hf⟩
     ·cases hfo
    have hrel:=hr.wipeRow (hd d hdst) (ext_reset g d w) rfl hr.fresh
    obtain ⟨arr',k1,k2⟩:=litCells_ok hrel hu hl (zero_vcs hmz d 0 (fun i=>if_pos rfl)) (by simp [zeroC_length])
    refine ⟨.agg arr',w,resetG g d,.inl ?_,hrel.put hd (t:=⟨.one (.agg cs),ds⟩) ⟨arr',rfl,k2⟩ |> fun h=>by rw [hdst] at h ⊢; exact h,Below.refl _ _,Below.refl _ _⟩
    have hmap:(fs.mapM fun f=>(do pure (f.offset,← sizeOf f.type):Sem (Nat × Nat))).run P w=.ok (fs.map fun f=>(f.offset,(tSize P f.type).getD 0)) w:=by
     rw [Array.mapM_eq_mapM_toList]
     simp only [map_eq_pure_bind,Sem.run_bind,run_places fs.toList hfs,Result.andThen_ok,Sem.run_pure]
     congr 1
     rw [← Array.toList_map,Array.toArray_toList]
    simp only [execOp,ho,Instr.build,Sem.run_bind,run_zero hi hv0,run_underlying hu,Result.andThen_ok]
    rw [hmap]
    simp only [Result.andThen_ok]
    rw [Array.toList_map,k1]
    simp only [Sem.run_pure]
    rfl
  ·cases h
 ·cases h
end
end Go.Proofs.YthbbbhpjkgpdcaaGreat
namespace Go.Proofs.YthbbbhpjkgpdcaaGreat
open Go.RowKit
section
variable [Low] {P:Program} {w w':World} {g g':G} {base:Nat} {σ:St} {a:Act}
theorem Sh1.map_id' (s:Sh1):s.map (fun c=>c)=s:=by
 cases s <;> simp [Sh1.map]
theorem Sh.map_id' (s:Sh):s.map (fun c=>c)=s:=by
 cases s with
 | one x=>simp [Sh.map,Sh1.map_id']
 | tup xs =>
  simp only [Sh.map]
  congr 1
  induction xs with
  | nil=>rfl
  | cons x xs ih=>simp only [List.map_cons,Sh1.map_id',ih]
theorem Kept.vt' (h:Kept P base g g' w w' (fun c=>c)) {t:T} {v:Value} (hv:VT P w g base t v):VT P w' g' base t v:=by
 have:=h.vt hv
 rwa [Sh.map_id'] at this
theorem Kept.vcs' (h:Kept P base g g' w w' (fun c=>c)) {cs:List Ce} {p:List D} {arr:Array Value} (hv:VCs P w g base cs p arr):VCs P w' g' base cs p arr:=by
 have:=h.vcs hv
 rwa [List.map_id'] at this
theorem kept_block {nb:Nat} (hb:∀ b,b≠nb→w'.heap[b]?=w.heap[b]?) (hp:g.prot nb=0) (ho:∀ t,g.owner nb≠some (.inr t)) (hold:∀ b,g.old b→b≠nb):Kept P base g g w w' (fun c=>c):=by
 have hvd:∀ {s:S} {x:D} {v:Value},VD P w g.prot s x v→VD P w' g.prot s x v:=fun h =>
  h.mono fun b o u h1 h2=>⟨(cell_of_heap (hb b (by rintro rfl; omega)) o).trans h2,h1⟩
 have hown:∀ {t:Tok} {xm:Bool} {e:TypeId} {row:List S} {rows:List (List D)} {v:Value},OwnV P w g base t xm e row rows v→OwnV P w' g base t xm e row rows v:=by
  intro t xm e row rows v h
  rcases h with h | ⟨cap,arr,E,h1,h2,h3,h4,h5,h6,h7,h8,h9,h10,h11⟩
  ·exact .inl h
  ·refine .inr ⟨cap,arr,E,h1,h2,h3,h4,h5,by rw [hb _ (by intro e; rw [e] at h5; exact ho t h5)]; exact h6,h7,h8,h9,h10,fun i j s hi hs=>?_⟩
   obtain ⟨u,k1,k2⟩:=h11 i j s hi hs
   exact ⟨u,k1,k2.mono rfl (fun b o z h1 h2=>⟨(cell_of_heap (hb b (by rintro rfl; omega)) o).trans h2,h1⟩) (fun _ b o h0 ho' hne hbb=>⟨by rw [hb b (by rintro rfl; exact ho t ho')]; exact hbb,h0,ho',hne,rfl,rfl,fun e=>e⟩)⟩
 have hcptr:∀ {cells:List S} {off:Nat} {x:D} {v:Value},CptrV P w g base cells off x v→CptrV P w' g base cells off x v:=by
  rintro cells off x v ⟨b,o,h1,h2,h3⟩
  refine ⟨b,o,h1,h2,fun j s hs=>?_⟩
  obtain ⟨u,k1,k2⟩:=h3 j s hs
  exact ⟨u,(cell_of_heap (hb b (hold b h2)) _).trans k1,hvd k2⟩
 intro c x v hv
 cases c with
 | any=>trivial
 | d s=>exact hvd hv
 | kb b=>exact hv
 | own t xm e=>obtain ⟨row,hr,hv⟩:=hv; exact ⟨row,hr,hown hv⟩
 | ptr id off=>exact hv
 | eptr tk e off =>
  cases tk with
  | none =>
   obtain ⟨row,b,o,h1,h2,h3,h4⟩:=hv
   refine ⟨row,b,o,h1,h2,h3,fun j s hs=>?_⟩
   obtain ⟨u,k1,k2,k3⟩:=h4 j s hs
   exact ⟨u,(cell_of_heap (hb b (by rintro rfl; omega)) _).trans k1,k2,hvd k3⟩
  | some t=>obtain ⟨row,h1,h2,h3,u,h4⟩:=hv; exact ⟨row,h1,h2,h3,u,hown h4⟩
 | inn t e off ei=>exact inn_mono hv rfl (fun o h5 h6=>by rw [hb _ (by intro e; rw [e] at h5; exact ho t h5)]; exact h6) hown
 | cptr cells off=>exact hcptr hv
 | fn f caps =>
  obtain ⟨arr,h1,h2,h3⟩:=hv
  refine ⟨arr,h1,h2,fun j c hc=>?_⟩
  obtain ⟨u,hu,hcap⟩:=h3 j c hc
  refine ⟨u,hu,?_⟩
  cases c with
  | d s=>exact hvd hcap
  | ptr id off=>exact hcap
  | cptr cells off=>exact hcptr hcap
theorem oneCell_of_flat {v:Value} (h:flatV v=true):v.oneCell'=true:=by
 cases v <;> simp_all [flatV,Value.oneCell']
theorem vcs_oneCell {cs:List Ce} {ds:List D} {arr:Array Value} (h:VCs P w g base cs ds arr) (hn:∀ c∈cs,c≠.any):∀ v∈arr.toList,v.oneCell'=true:=by
 intro v hv
 obtain ⟨j,hj⟩:=List.getElem?_of_mem hv
 have hjl:j<cs.length:=by rw [← h.1]; simpa using (List.getElem?_eq_some_iff.1 hj).1
 obtain ⟨u,h1,h2⟩:=h.2 j _ (List.getElem?_eq_getElem hjl)
 have:v=u:=by
  have h3:arr[j]?=some v:=by simpa using hj
  rw [h1] at h3; injection h3 with h3; exact h3.symm
 subst this
 exact oneCell_of_flat (h2.flat (hn _ (List.getElem_mem hjl)))
def over (arr:Array Value) (o:Nat) (vs:List Value):Array Value:=(arr.toList.take o++vs++arr.toList.drop (o+vs.length)).toArray
theorem over_get (arr:Array Value) (o:Nat) (vs:List Value) (h:o+vs.length≤arr.size) (k:Nat):(over arr o vs)[k]?=if o≤k∧k<o+vs.length then vs[k - o]? else arr[k]?:=by
 unfold over
 rw [List.getElem?_toArray]
 have hl:(arr.toList.take o).length=o:=by simp; omega
 by_cases h1:k<o
 ·rw [if_neg (by omega),List.append_assoc,List.getElem?_append_left (by omega),List.getElem?_take,if_pos h1]; simp
 ·by_cases h2:k<o+vs.length
  ·rw [if_pos ⟨by omega,h2⟩,List.append_assoc,List.getElem?_append_right (by omega),hl,List.getElem?_append_left (by omega)]
  ·rw [if_neg (by omega),List.getElem?_append_right (by simp; omega)]
   simp only [List.length_append,hl,List.getElem?_drop]
   rw [show o+vs.length+(k - (o+vs.length))=k from by omega]
   simp
theorem over_size (arr:Array Value) (o:Nat) (vs:List Value) (h:o+vs.length≤arr.size):(over arr o vs).size=arr.size:=by
 unfold over
 simp only [List.size_toArray,List.length_append,List.length_take,List.length_drop,Array.length_toList]
 omega
theorem run_storeAt {t n b o:Nat} {u:Value} {arr:Array Value} {E:TypeId} (hn:tSize P t=some n) (hu:u.cells.size=n) (hh:w.heap[b]?=some (.cells arr E (0,0))) (hle:o+n≤arr.size) (h1:∀ v∈u.cells.toList,v.oneCell'=true) :
  (Instr.storeAt t (.pointer (some ⟨b,o,none⟩)) u).run P w=.ok () (w.setRow b (over arr o u.cells.toList)):=by
 simp only [Instr.storeAt,Instr.sureAddr,storeVar,Sem.run_bind,Sem.run_pure,Result.andThen_ok,run_size hn]
 rw [if_neg (by simp [hu])]
 have:=run_storeCells_at P b o E u.cells.toList 0 arr w hh (by simp [hu]; omega) h1
 simp only [Nat.add_zero] at this
 exact this
def DoesS (P:Program) (base:Nat) (σ':St) (o:Oper) (p:Operand) (a:Act) (w:World):Prop:=
 ∃ z w' g',((execOp a.eval o).run P w=.ok (.value z) w'∨((execOp a.eval o).run P w=.ok .skip w'∧z=undef))∧Rel P w' g' base σ' (a.put o.dst z)∧Below base w w' ∧
  ∀ B,(∀ b o,a.eval p=.pointer (some ⟨b,o,none⟩)→B≤b)→Below B w w'
theorem DoesS.does {o:Oper} {σ':St} {p:Operand} (h:DoesS P base σ' o p a w):Does P base σ' o a w:=by
 obtain ⟨z,w',g',h1,h2,h3,_⟩:=h
 exact ⟨z,w',g',h1,h2,h3⟩
theorem evStore_ptr (hr:Rel P w g base σ a) {o:Oper} {t n id off:Nat} {x p:Operand} {cs cs':List Ce} {ds ds':List D} {pp:List D} (ho:o.op=.store t p x) (hd:∀ d,o.dst=some d→d<a.tmps.size) (hn:tSize P t=some n)
  (hc:(opdT P σ t x).cells=some (cs,ds)) (hl:cs.length=n) (hp:(opd σ p)=⟨.one (.c (.ptr id off)),pp⟩) (hb:hlook id σ.h=some (cs',ds')) (hle:off+n≤cs'.length) :
  DoesS P base (St.put ⟨σ.r,σ.e,hput id (setSub cs' off cs,setSub ds' off ds) σ.h⟩ o.dst .none_) o p a w:=by
 have hpv:=opd_ok hr p
 rw [hp] at hpv
 have hpv:a.eval p=.pointer (some ⟨g.θ id,off,none⟩):=hpv
 obtain ⟨hx,hany⟩:=cells_ok hc (opdT_ok hr t x)
 obtain ⟨k1,k2,k3,kl,arr,E,k4,k5⟩:=hr.box id cs' ds' hb
 have hlen:(a.eval x).cells.toList.length=n:=by simp [hx.1,hl]
 have hfit:off+(a.eval x).cells.toList.length≤arr.size:=by rw [hlen,k5.1]; exact hle
 have hrun:=run_storeAt (P:=P) (w:=w) (b:=g.θ id) (o:=off) hn (by rw [hx.1,hl]) k4 (by rw [k5.1]; exact hle) (vcs_oneCell hx hany)
 have hoth:∀ b,b≠g.θ id→(w.setRow (g.θ id) (over arr off (a.eval x).cells.toList)).heap[b]?=w.heap[b]?:=fun b hb=>setRow_other w (g.θ id) b _ hb
 have hk:Kept P base g g w (w.setRow (g.θ id) (over arr off (a.eval x).cells.toList)) (fun c=>c):=kept_block hoth k3 (by intro t e; rw [k2] at e; cases e) (fun b hb=>hr.oldNe hb k2)
 have hsz:(w.setRow (g.θ id) (over arr off (a.eval x).cells.toList)).heap.size=w.heap.size:=by simp [World.setRow]
 have hrel:Rel P (w.setRow (g.θ id) (over arr off (a.eval x).cells.toList)) g base ⟨σ.r,σ.e,hput id (setSub cs' off cs,setSub ds' off ds) σ.h⟩ a:=by
  refine ⟨fun i=>hk.vt' (hr.env i),fun id' cs1 ds1 h1=>?_,by rw [hsz]; exact hr.fresh,by rw [hsz]; exact hr.base_le,hr.defers,hr.lowIn (fun b hb=>hoth b (hr.oldNe hb k2)) (Nat.le_of_eq hsz.symm) (fun b t arr e _ ho' _ hb _=>⟨arr,(hoth b (by intro e'; rw [e',k2] at ho'; cases ho')).trans hb,rfl⟩),hr.mine⟩
  rw [hlook_hput] at h1
  by_cases e:id'=id
  ·subst e
   rw [if_pos rfl] at h1
   injection h1 with h1
   injection h1 with e1 e2
   subst e1; subst e2
   refine ⟨k1,k2,k3,by rw [setSub_length,setSub_length]; exact kl,_,E,setRow_heap w _ arr _ E _ k4,?_⟩
   exact vcs_setSub (hk.vcs' k5) (hk.vcs' hx) (by rw [hl]; exact hle) kl (cells_length hc) (over_size _ _ _ hfit) (fun k hk'=>by
    rw [over_get _ _ _ hfit]
    simp)
  ·rw [if_neg e] at h1
   obtain ⟨j1,j2,j3,jl,arr',E',j4,j5⟩:=hr.box id' cs1 ds1 h1
   refine ⟨j1,j2,j3,jl,arr',E',by rw [hoth _ (by intro e'; rw [e'] at j2; rw [k2] at j2; injection j2 with j2; injection j2 with j2; exact e j2.symm)]; exact j4,hk.vcs' j5⟩
 refine ⟨undef,_,g,.inr ⟨?_,rfl⟩,hrel.put hd (t:=.none_) ⟨#[],rfl,rfl,fun j x h=>by simp at h⟩,⟨rfl,rfl,rfl,by rw [hsz]; exact Nat.le_refl _,fun k hk'=>hoth k (by omega)⟩,fun B hB=>⟨rfl,rfl,rfl,by rw [hsz]; exact Nat.le_refl _,fun k hk'=>hoth k (by have:=hB _ _ hpv; omega)⟩⟩
 simp only [execOp,ho,hpv,Sem.run_bind,hrun,Result.andThen_ok,Sem.run_pure]
theorem kept_drop {t:Tok} (hcell:∀ b o u,o<g.prot b→w.cell? ⟨b,o,none⟩=some u→w'.cell? ⟨b,o,none⟩=some u∧o<g'.prot b)
  (hblk:∀ b t',t'≠t→g.owner b=some (.inr t')→b<w.heap.size→w'.heap[b]?=w.heap[b]?∧g'.owner b=g.owner b∧g'.prot b=g.prot b)
  (htok:∀ t',t'≠t→g'.ρ t'=g.ρ t'∧g'.len t'=g.len t'∧g'.wid t'=g.wid t'∧g'.ety t'=g.ety t') (hθ:g'.θ=g.θ) (hlow:∀ b,g.old b→w'.heap[b]?=w.heap[b]?) (hlab:∀ b t',t'≠t→g.owner b=some (.inr t')→b<w.heap.size→g'.path b=g.path b∧g'.need b=g.need b:=by exact fun _ _ _ _ _=>⟨rfl,rfl⟩) (hold:g'.old=g.old:=by rfl):Kept P base g g' w w' (dropC t):=by
 have hvd:∀ {s:S} {x:D} {v:Value},VD P w g.prot s x v→VD P w' g'.prot s x v:=fun h=>h.mono hcell
 have hown:∀ {t':Tok} {xm:Bool} {e:TypeId} {row:List S} {rows:List (List D)} {v:Value},t'≠t→OwnV P w g base t' xm e row rows v→OwnV P w' g' base t' xm e row rows v:=by
  intro t' xm e row rows v ht h
  obtain ⟨e1,e2,e3,e4⟩:=htok t' ht
  rcases h with ⟨h0,h1,h2⟩ | ⟨cap,arr,E,h1,h2,h3,h4,h5,h6,h7,h8,h9,h10,h11⟩
  ·exact .inl ⟨h0,by rw [e2]; exact h1,h2⟩
  ·obtain ⟨q1,q2,q3⟩:=hblk _ t' ht h5 (lt_of_heap h6)
   refine .inr ⟨cap,arr,E,by rw [e1]; exact h1,h2,by rw [e4]; exact h3,by rw [e1]; exact h4,by rw [e1,q2]; exact h5,by rw [e1,q1]; exact h6,h7,by rw [e2]; exact h8,by rw [e3]; exact h9,by rw [e1,e2,e3,q3]; exact h10,fun i j s hi hs=>?_⟩
   obtain ⟨u,k1,k2⟩:=h11 i j s hi hs
   exact ⟨u,k1,k2.mono rfl hcell (fun _ b o h0 ho hne hb=>by
    have hlt:=lt_of_heap hb
    obtain ⟨z1,z2,z3⟩:=hblk b t' ht ho hlt
    obtain ⟨z4,z5⟩:=hlab b t' ht ho hlt
    exact ⟨z1.trans hb,h0,z2.trans ho,by rw [e1]; exact hne,z4,z5,fun e=>z3.trans e⟩)⟩
 have hcptr:∀ {cells:List S} {off:Nat} {x:D} {v:Value},CptrV P w g base cells off x v→CptrV P w' g' base cells off x v:=by
  rintro cells off x v ⟨b,o,h1,h2,h3⟩
  refine ⟨b,o,h1,by rw [hold]; exact h2,fun j s hs=>?_⟩
  obtain ⟨u,k1,k2⟩:=h3 j s hs
  exact ⟨u,(cell_of_heap (hlow b h2) _).trans k1,hvd k2⟩
 intro c x v hv
 cases c with
 | any=>trivial
 | d s=>exact hvd hv
 | kb b=>exact hv
 | own t' xm e =>
  obtain ⟨row,hr,hv⟩:=hv
  change VC P w' g' base (bif t'==t then (bif xm then .any else .d (.sl e)) else .own t' xm e) x v
  by_cases ht:t'=t
  ·rw [show (t'==t)=true from by simpa using ht,cond_true]
   cases xm with
   | true=>trivial
   | false=>exact hvd (own_vd' hr hv)
  ·rw [show (t'==t)=false from by simpa using ht,cond_false]
   exact ⟨row,hr,hown ht hv⟩
 | ptr id off=>show v=_; rw [hθ]; exact hv
 | eptr tk e off =>
  cases tk with
  | none =>
   obtain ⟨row,b,o,h1,h2,h3,h4⟩:=hv
   refine ⟨row,b,o,h1,h2,h3,fun j s hs=>?_⟩
   obtain ⟨u,k1,k2,k3⟩:=h4 j s hs
   obtain ⟨q1,q2⟩:=hcell b _ u k2 k1
   exact ⟨u,q1,q2,hvd k3⟩
  | some t' =>
   change VC P w' g' base (bif t'==t then .any else .eptr (some t') e off) x v
   by_cases ht:t'=t
   ·rw [show (t'==t)=true from by simpa using ht]; trivial
   ·rw [show (t'==t)=false from by simpa using ht,cond_false]
    obtain ⟨row,h1,h2,h3,u,h4⟩:=hv
    exact ⟨row,h1,by rw [(htok t' ht).1]; exact h2,h3,u,hown ht h4⟩
 | inn t' e off ei =>
  change VC P w' g' base (bif t'==t then .any else .inn t' e off ei) x v
  by_cases ht:t'=t
  ·rw [show (t'==t)=true from by simpa using ht]; trivial
  ·rw [show (t'==t)=false from by simpa using ht,cond_false]
   exact inn_mono hv (htok t' ht).1 (fun o h5 h6=>(hblk _ t' ht h5 (lt_of_heap h6)).1.trans h6) (fun hu=>hown ht hu)
 | cptr cells off=>exact hcptr hv
 | fn f caps =>
  obtain ⟨arr,h1,h2,h3⟩:=hv
  refine ⟨arr,h1,h2,fun j c hc=>?_⟩
  obtain ⟨u,hu,hcap⟩:=h3 j c hc
  refine ⟨u,hu,?_⟩
  cases c with
  | d s=>exact hvd hcap
  | ptr id off=>show u=_; rw [hθ]; exact hcap
  | cptr cells off=>exact hcptr hcap
theorem Rel.drop (hr:Rel P w g base σ a) {t:Tok} (hk:Kept P base g g' w w' (dropC t)) (hθ:g'.θ=g.θ)
  (hbox:∀ b id,g.owner b=some (.inl id)→b<w.heap.size→w'.heap[b]?=w.heap[b]?∧g'.owner b=g.owner b∧g'.prot b=g.prot b)
  (hf:∀ b,w'.heap.size≤b→g'.prot b=0∧g'.owner b=none) (hsz:w.heap.size≤w'.heap.size) (hlow:∀ b,g.old b→g'.owner b=g.owner b∧g'.prot b=g.prot b∧w'.heap[b]?=w.heap[b]?) (hold:g'.old=g.old:=by rfl) (hpn:∀ t',t'.1=1000001→g'.ρ t'=g.ρ t'∧g'.len t'=g.len t'∧∀ b,g.owner b=some (.inr t')→b<w.heap.size→g'.owner b=some (.inr t')∧w'.heap[b]?=w.heap[b]?)
  (hmn:∀ b t',t'.1=1000001→g'.owner b=some (.inr t')→g.owner b=some (.inr t')∧g'.path b=g.path b∧g'.need b=g.need b):Rel P w' g' base (σ.map (dropC t)) a:=by
 refine ⟨fun i=>hr.envMap hk rfl i,fun id cs ds hl=>hr.boxMap hk hl fun cs ds hq=>?_,hf,Nat.le_trans hr.base_le hsz,hr.defers,⟨⟨hold.trans hr.low.1.1,by rw [hθ]; exact hr.low.1.2⟩,fun b hb=>by
  rw [hold] at hb
  obtain ⟨k1,k2,k3,k4⟩:=hr.low.2.1 b hb
  obtain ⟨q1,q2,q3⟩:=hlow b hb
  exact ⟨q1.trans k1,q2.trans k2,q3.trans k3,Nat.lt_of_lt_of_le k4 hsz⟩,fun t x hx=>by
  obtain ⟨k1,k2,k3,k4⟩:=hr.low.2.2 t x hx
  obtain ⟨q1,q2,q3⟩:=hpn t k1
  refine ⟨k1,q1.trans k2,q2.trans k3,fun h0=>?_⟩
  obtain ⟨m1,arr,m2,m3⟩:=k4 h0
  obtain ⟨z1,z2⟩:=q3 _ m1 (lt_of_heap m2)
  exact ⟨z1,arr,z2.trans m2,m3⟩⟩,fun b t' ht' ho=>by
  obtain ⟨z1,z2,z3⟩:=hmn b t' ht' ho
  rw [z2,z3]
  exact hr.mine b t' ht' z1⟩
 obtain ⟨k1,k2,k3,kl,arr,E,k4,k5⟩:=hr.box id cs ds hq
 obtain ⟨q1,q2,q3⟩:=hbox _ id k2 (lt_of_heap k4)
 exact ⟨by rw [hθ],q2,q3,q1⟩
end
end Go.Proofs.YthbbbhpjkgpdcaaGreat
namespace Go.Proofs.YthbbbhpjkgpdcaaGreat
open Go.RowKit
section
variable [Low] {P:Program} {w w':World} {g g':G} {base:Nat} {σ:St} {a:Act}
def moveG (g:G) (t s:Tok) (f:List (Nat × Nat)→List (Nat × Nat)) (top:Option (List (Nat × Nat))):G:=
 { g with owner:=fun b=>if g.owner b=some (.inr t) then (if b=g.ρ t then (if top.isSome=true then some (.inr s) else some (.inr t)) else some (.inr s)) else g.owner b,path:=fun b=>if g.owner b=some (.inr t) then (if b=g.ρ t then top.getD [] else f (g.path b)) else g.path b,need:=fun b=>if g.owner b=some (.inr t)∧b=g.ρ t then g.len t*g.wid t else g.need b }
theorem unpin {t t':Tok} (ht:t.1≠1000001) (h:t'.1=1000001):t'≠t:=fun e=>ht (by rw [← e]; exact h)
theorem move_else {t s:Tok} {f:List (Nat × Nat)→List (Nat × Nat)} {top:Option (List (Nat × Nat))} {b:Nat} (h:g.owner b≠some (.inr t)):(moveG g t s f top).owner b=g.owner b∧(moveG g t s f top).path b=g.path b∧(moveG g t s f top).need b=g.need b:=
 ⟨if_neg h,if_neg h,if_neg (fun e=>h e.1)⟩
theorem move_kept (hr:Rel P w g base σ a) {t s:Tok} (hpt:t.1≠1000001) (hps:s.1≠1000001) {f:List (Nat × Nat)→List (Nat × Nat)} {top:Option (List (Nat × Nat))}:Kept P base g (moveG g t s f top) w w (dropC t)∧Rel P w (moveG g t s f top) base (σ.map (dropC t)) a:=by
 have hne:∀ {b:Nat} {t':Tok},t'≠t→g.owner b=some (.inr t')→g.owner b≠some (.inr t):=fun ht ho e=>by
  rw [ho] at e; injection e with e; injection e with e; exact ht e
 have hk:Kept P base g (moveG g t s f top) w w (dropC t):=
  kept_drop (fun b o u h1 h2=>⟨h2,h1⟩) (fun b t' ht' ho _=>⟨rfl,(move_else (hne ht' ho)).1,rfl⟩) (fun _ _=>⟨rfl,rfl,rfl,rfl⟩) rfl (fun _ _=>rfl) (fun b t' ht' ho _=>(move_else (hne ht' ho)).2)
 refine ⟨hk,hr.drop hk rfl (fun b id ho _=>⟨rfl,(move_else (by rw [ho]; simp)).1,rfl⟩) (fun b hb=>?_) (Nat.le_refl _) (fun b hb=>⟨(move_else (by rw [(hr.low.2.1 b hb).1]; simp)).1,rfl,rfl⟩) rfl (fun t' ht'=>⟨rfl,rfl,fun b ho _=>⟨(move_else (hne (unpin hpt ht') ho)).1.trans ho,rfl⟩⟩) (fun b t' ht' ho=>?_)⟩
 rotate_right
 ·by_cases hot:g.owner b=some (.inr t)
  ·exfalso
   change (if g.owner b=some (.inr t) then _ else _)=_ at ho
   rw [if_pos hot] at ho
   have hs:t'=t∨t'=s:=by
    split at ho
    ·split at ho
     ·injection ho with ho; injection ho with ho; exact .inr ho.symm
     ·injection ho with ho; injection ho with ho; exact .inl ho.symm
    ·injection ho with ho; injection ho with ho; exact .inr ho.symm
   rcases hs with rfl | rfl
   ·exact hpt ht'
   ·exact hps ht'
  ·obtain ⟨z1,z2,z3⟩:=move_else (s:=s) (f:=f) (top:=top) hot
   exact ⟨z1.symm.trans ho,z2,z3⟩
 have:=hr.fresh b hb
 exact ⟨this.1,by rw [(move_else (by rw [this.2]; simp)).1]; exact this.2⟩
theorem drop_swap (t t':Tok) (σ:St):((σ.map (dropC t)).map (dropC t')).map (dropC t)=(σ.map (dropC t')).map (dropC t):=by
 have hc:∀ c,dropC t (dropC t' (dropC t c))=dropC t (dropC t' c):=by
  intro c
  cases c with
  | own t1 x e=>cases x <;> cases h:(t1==t) <;> cases h':(t1==t') <;> simp [dropC,h,h']
  | eptr tk e off=>cases tk with
   | none=>rfl
   | some t1=>cases h:(t1==t) <;> cases h':(t1==t') <;> simp [dropC,h,h']
  | inn t1 e off ei=>cases h:(t1==t) <;> cases h':(t1==t') <;> simp [dropC,h,h']
  | _=>rfl
 have h1:∀ x:Sh1,((x.map (dropC t)).map (dropC t')).map (dropC t)=(x.map (dropC t')).map (dropC t):=by
  intro x
  cases x with
  | c x=>simp [Sh1.map,hc]
  | agg xs=>simp only [Sh1.map,List.map_map]; congr 1; exact List.map_congr_left fun c _=>hc c
 have h2:∀ x:Sh,((x.map (dropC t)).map (dropC t')).map (dropC t)=(x.map (dropC t')).map (dropC t):=by
  intro x
  cases x with
  | one x=>simp only [Sh.map,h1]
  | tup xs=>simp only [Sh.map,List.map_map]; congr 1; exact List.map_congr_left fun c _=>h1 c
 simp only [St.map,List.map_map]
 congr 1
 ·exact List.map_congr_left fun p _=>by simp only [Function.comp,h2]
 ·exact List.map_congr_left fun p _=>by simp only [Function.comp,h2]
 ·exact List.map_congr_left fun p _=>by
   simp only [Function.comp,List.map_map]
   congr 2
   exact List.map_congr_left fun c _=>hc c
theorem rho_drop (hr:Rel P w g base σ a) (t:Tok) (ht:t.1≠1000001) (nb:Nat):Rel P w { g with ρ:=fun u=>if u=t then nb else g.ρ u } base (σ.map (dropC t)) a:=
 hr.drop (kept_drop (fun b o u h1 h2=>⟨h2,h1⟩) (fun b t' _ _ _=>⟨rfl,rfl,rfl⟩) (fun t' ht'=>⟨if_neg ht',rfl,rfl,rfl⟩) rfl (fun _ _=>rfl)) rfl (fun _ _ _ _=>⟨rfl,rfl,rfl⟩) hr.fresh (Nat.le_refl _) (fun _ _=>⟨rfl,rfl,rfl⟩) rfl (fun t' ht'=>⟨if_neg (unpin ht ht'),rfl,fun b ho _=>⟨ho,rfl⟩⟩) (fun _ _ _ ho=>⟨ho,rfl,rfl⟩)
theorem move_own (hr:Rel P w g base σ a) {t s t':Tok} (hpt:t.1≠1000001) (hps:s.1≠1000001) {f:List (Nat × Nat)→List (Nat × Nat)} {top:Option (List (Nat × Nat))} (ht:t'≠t) {xm:Bool} {e:TypeId} {row:List S} {rows:List (List D)} {v:Value} (hrow:rowOf P e=some row) (h:OwnV P w g base t' xm e row rows v):OwnV P w (moveG g t s f top) base t' xm e row rows v:=by
 have:=(move_kept (s:=s) (f:=f) (top:=top) (t:=t) hr hpt hps).1 (.own t' xm e) (.l rows) v ⟨row,hrow,h⟩
 change VC P w _ base (bif t'==t then (bif xm then .any else .d (.sl e)) else .own t' xm e) _ _ at this
 rw [show (t'==t)=false from by simpa using ht,cond_false] at this
 obtain ⟨row',h1,h2⟩:=this
 rw [hrow] at h1; injection h1 with h1; subst h1
 exact h2
theorem move_tr {t s:Tok} {f:List (Nat × Nat)→List (Nat × Nat)} {top:Option (List (Nat × Nat))} (hts:s≠t) {π:List (Nat × Nat)} (hπ:π ≠ []) {s':S} {x:D} {v:Value} (h:TR P w (labOf base g s) π s' x v):TR P w (labOf base (moveG g t s f top) s) π s' x v:=
 TR.mono (fun π=>π) (fun _ _ _=>rfl) h (fun b π n o _ hl ho=>⟨ho,by
  obtain ⟨l0,l1,l2,l3,l4,l5⟩:=hl
  have:=move_else (g:=g) (t:=t) (s:=s) (f:=f) (top:=top) (b:=b) (by rw [l1]; intro e; injection e with e; injection e with e; exact hts e)
  exact ⟨l0,this.1.trans l1,l2,this.2.1.trans l3,this.2.2.trans l4,l5⟩⟩) hπ
theorem move_top {t s:Tok} {π:List (Nat × Nat)} {e:TypeId} {row:List S} {x:D} {v:Value} (hrow:rowOf P e=some row) (h:OwnV P w g base t true e row x.rows v) (hd:deepT t=true∨row.all S.flat=true) (hs:∀ b,g.owner b=some (.inr t)→b≠g.ρ s) :
  TR P w (labOf base (moveG g t s (fun q=>π++q) (some π)) s) π (.sl e) x v:=by
 rcases h with ⟨h0,_,A,rfl⟩ | ⟨cap,arr,E,rfl,h2,⟨h3,rfl,h3'⟩,h4,h5,h6,h7,h8,h9,h10,h11⟩
 ·exact .nil _ _ _ _ (by rw [hrow]; rfl) h0
 ·refine .sl _ E x _ cap row arr (fun i j=>arr[i*row.length+j]?.getD undef) hrow h2 h3 ⟨h4,?_,hs _ h5,?_,?_,?_⟩ h6 h7 (fun i j hi hj=>?_) (fun i j s' hi hs'=>?_)
  ·show (if g.owner (g.ρ t)=some (.inr t) then _ else _)=_
   rw [if_pos h5,if_pos rfl]; rfl
  ·show (if g.owner (g.ρ t)=some (.inr t) then _ else _)=_
   rw [if_pos h5,if_pos rfl]; rfl
  ·show (if g.owner (g.ρ t)=some (.inr t)∧g.ρ t=g.ρ t then _ else _)=_
   rw [if_pos ⟨h5,rfl⟩,h8,h9]
  ·rw [show (moveG g t s (fun q=>π++q) (some π)).prot=g.prot from rfl,h10]; rfl
  ·obtain ⟨u,k1,_⟩:=h11 i j _ hi (List.getElem?_eq_getElem hj)
   rw [k1]; rfl
  ·obtain ⟨u,k1,k2⟩:=h11 i j s' hi hs'
   simp only [k1]
   change TR P w _ _ s' _ u
   cases hdt:deepT t with
   | true =>
    refine TR.mono (fun q=>π++q) (fun q x _=>(List.append_assoc _ _ _).symm) (k2.tr hdt) (fun b q n o _ hl ho=>⟨ho,?_⟩) (by simp)
    obtain ⟨l0,l1,l2,l3,l4,l5⟩:=hl
    refine ⟨l0,?_,hs _ l1,?_,?_,l5⟩
    ·show (if g.owner b=some (.inr t) then _ else _)=_
     rw [if_pos l1,if_neg l2]
    ·show (if g.owner b=some (.inr t) then _ else _)=_
     rw [if_pos l1,if_neg l2,l3]
    ·show (if g.owner b=some (.inr t)∧b=g.ρ t then _ else _)=_
     rw [if_neg (fun e=>l2 e.2)]; exact l4
   | false =>
    rcases hd with hd | hd
    ·rw [hdt] at hd; cases hd
    ·exact TR.of_flat (k2.vd hdt) (List.all_eq_true.1 hd s' (List.mem_of_getElem? hs'))
theorem moveCells_ok {s:Tok} {i:Nat}:∀ {cs:List Ce} {ds:List D} {us:List Value} {j0:Nat} {g:G} {σ:St},Rel P w g base σ a→(∀ (k:Nat) c,cs[k]?=some c→∃ u,us[k]?=some u∧VC P w g base c (gd ds k) u)→cs.all (deepOk P)=true→nodupB (toks cs)=true→(toks cs).contains s=false→(toks cs = []∨s.1≠1000001) →
  (∀ b t,t≠s→g.owner b=some (.inr t)→b≠g.ρ s)→∃ g',Rel P w g' base (dropTs (toks cs) σ) a∧(g'.ρ=g.ρ∧g'.len=g.len∧g'.wid=g.wid∧g'.ety=g.ety∧g'.θ=g.θ∧g'.prot=g.prot) ∧
   ((∀ b t,t≠s→g'.owner b=some (.inr t)→b≠g'.ρ s)∧∀ b,g.owner b=some (.inr s)→g'.owner b=some (.inr s)) ∧
   (∀ {π:List (Nat × Nat)} {s':S} {x:D} {v:Value},π ≠ []→TR P w (labOf base g s) π s' x v→TR P w (labOf base g' s) π s' x v) ∧
   (∀ {t:Tok} {xm:Bool} {e:TypeId} {row:List S} {rows:List (List D)} {v:Value},(toks cs).contains t=false→rowOf P e=some row→OwnV P w g base t xm e row rows v→OwnV P w g' base t xm e row rows v) ∧
   ∀ (k:Nat) c s',cs[k]?=some c→c.toS=some s'→∃ u,us[k]?=some u∧TR P w (labOf base g' s) [(i,j0+k)] s' (gd (toDs cs ds) k) u
 | [],ds,us,j0,g,σ,hr,hv,hd,hn,hs,hps,hρ=>⟨g,hr,⟨rfl,rfl,rfl,rfl,rfl,rfl⟩,⟨hρ,fun _ h=>h⟩,fun _ h=>h,fun _ _ h=>h,fun k c s' h=>by simp at h⟩
 | c0::cs,ds,us,j0,g,σ,hr,hv,hd,hn,hs,hps,hρ=>by
  simp only [List.all_cons,Bool.and_eq_true] at hd
  obtain ⟨u0,hu0,hv0⟩:=hv 0 c0 rfl
  have hus:∀ k,us[k+1]?=us.tail[k]?:=fun k=>by cases us <;> simp
  have plain:toks (c0::cs)=toks cs→(∀ s',c0.toS=some s'→∃ u,us[0]?=some u∧∀ g':G,TR P w (labOf base g' s) [(i,j0)] s' (c0.toD (gd ds 0)) u)→∃ g',Rel P w g' base (dropTs (toks (c0::cs)) σ) a∧(g'.ρ=g.ρ∧g'.len=g.len∧g'.wid=g.wid∧g'.ety=g.ety∧g'.θ=g.θ∧g'.prot=g.prot) ∧
   ((∀ b t,t≠s→g'.owner b=some (.inr t)→b≠g'.ρ s)∧∀ b,g.owner b=some (.inr s)→g'.owner b=some (.inr s)) ∧
   (∀ {π:List (Nat × Nat)} {s':S} {x:D} {v:Value},π ≠ []→TR P w (labOf base g s) π s' x v→TR P w (labOf base g' s) π s' x v) ∧
   (∀ {t:Tok} {xm:Bool} {e:TypeId} {row:List S} {rows:List (List D)} {v:Value},(toks (c0::cs)).contains t=false→rowOf P e=some row→OwnV P w g base t xm e row rows v→OwnV P w g' base t xm e row rows v) ∧
   ∀ (k:Nat) c s',(c0::cs)[k]?=some c→c.toS=some s'→∃ u,us[k]?=some u∧TR P w (labOf base g' s) [(i,j0+k)] s' (gd (toDs (c0::cs) ds) k) u:=by
   intro ht h0
   rw [ht] at hn hs hps ⊢
   obtain ⟨g',k1,k2,k3,k4,k5,k6⟩:=moveCells_ok (i:=i) (us:=us.tail) (ds:=ds.tail) (j0:=j0+1) hr (fun k c hc=>by
    obtain ⟨u,h1,h2⟩:=hv (k+1) c (by simpa using hc)
    exact ⟨u,by rw [← hus]; exact h1,by rw [gd_tail]; exact h2⟩) hd.2 hn hs hps hρ
   refine ⟨g',k1,k2,k3,k4,k5,fun k c s' hc hcs=>?_⟩
   cases k with
   | zero =>
    simp only [List.getElem?_cons_zero,Option.some.injEq] at hc
    subst hc
    obtain ⟨u,h1,h2⟩:=h0 s' hcs
    exact ⟨u,h1,h2 g'⟩
   | succ k =>
    obtain ⟨u,h1,h2⟩:=k6 k c s' (by simpa using hc) hcs
    refine ⟨u,by rw [hus]; exact h1,?_⟩
    rw [toDs,gd_cons_succ,show j0+(k+1)=j0+1+k from by omega]
    exact h2
  cases c0 with
  | d s0 =>
   refine plain rfl fun s' hs'=>⟨u0,hu0,fun g'=>?_⟩
   simp only [Ce.toS,Option.some.injEq] at hs'
   subst hs'
   exact TR.of_flat (prot:=g.prot) hv0 (by simpa [deepOk] using hd.1)
  | kb b =>
   refine plain rfl fun s' hs'=>⟨u0,hu0,fun g'=>?_⟩
   simp only [Ce.toS,Option.some.injEq] at hs'
   subst hs'
   have hv0:u0=.bool b:=hv0
   subst hv0
   exact TR.bool _ (.b b)
  | own t xm e =>
   cases xm with
   | false=>simp [deepOk] at hd
   | true =>
    simp only [toks,nodupB,Bool.and_eq_true,Bool.not_eq_true',List.contains_cons,Bool.or_eq_false_iff] at hn hs
    have hst:s≠t:=by simpa using hs.1
    obtain ⟨row,hrow,hown⟩:=hv0
    have hdd:deepT t=true∨row.all S.flat=true:=by
     have:=hd.1
     simp only [deepOk,flatRow,hrow,Bool.or_eq_true,Bool.and_eq_true] at this
     exact this.2
    have hpt:t.1≠1000001:=by
     have:=hd.1
     simp only [deepOk,Bool.and_eq_true,bne_iff_ne,ne_eq] at this
     exact this.1
    have hps:s.1≠1000001:=by
     rcases hps with h | h
     ·simp [toks] at h
     ·exact h
    have hr1:=(move_kept (t:=t) (s:=s) (f:=fun q => [(i,j0)]++q) (top:=some [(i,j0)]) hr hpt hps).2
    obtain ⟨g',k1,k2,k3,k4,k5,k6⟩:=moveCells_ok (i:=i) (us:=us.tail) (ds:=ds.tail) (j0:=j0+1) hr1 (fun k c hc=>by
     obtain ⟨u,h1,h2⟩:=hv (k+1) c (by simpa using hc)
     refine ⟨u,by rw [← hus]; exact h1,?_⟩
     rw [gd_tail]
     have hck:=List.all_eq_true.1 hd.2 c (List.mem_of_getElem? hc)
     cases c with
     | d s1=>exact h2
     | kb b=>exact h2
     | own t1 x1 e1 =>
      obtain ⟨row1,q1,q2⟩:=h2
      refine ⟨row1,q1,move_own hr hpt hps (fun e=>?_) q1 q2⟩
      subst e
      have:=mem_toks (List.mem_of_getElem? hc)
      have h3:=List.contains_iff_mem.2 this
      rw [hn.1] at h3
      cases h3
     | _=>simp [deepOk] at hck) hd.2 hn.2 hs.2 (.inr hps) (fun b t' ht' ho=>by
      refine hρ b t' ht' ?_
      change (if g.owner b=some (.inr t) then _ else _)=_ at ho
      split at ho
      ·exfalso
       split at ho
       ·simp only [Option.isSome_some,if_true] at ho
        injection ho with ho; injection ho with ho; exact ht' ho.symm
       ·injection ho with ho; injection ho with ho; exact ht' ho.symm
      ·exact ho)
    have htop:=move_top (s:=s) (π:= [(i,j0)]) hrow hown hdd (fun b ho=>hρ b t (Ne.symm hst) ho)
    refine ⟨g',k1,k2,⟨k3.1,fun b hb=>k3.2 b (by
     show (if g.owner b=some (.inr t) then _ else _)=_
     rw [if_neg (by rw [hb]; intro e; injection e with e; injection e with e; exact hst e)]
     exact hb)⟩,fun hπ h=>k4 hπ (move_tr hst hπ h),fun {t2 xm e2 row2 rows2 v2} ht2 hr2 h=>?_,fun k c s' hc hcs=>?_⟩
    ·simp only [toks,List.contains_cons,Bool.or_eq_false_iff] at ht2
     exact k5 ht2.2 hr2 (move_own hr hpt hps (by simpa using ht2.1) hr2 h)
    ·cases k with
     | zero =>
      simp only [List.getElem?_cons_zero,Option.some.injEq] at hc
      subst hc
      simp only [Ce.toS,Option.some.injEq] at hcs
      subst hcs
      exact ⟨u0,hu0,k4 (by simp) htop⟩
     | succ k =>
      obtain ⟨u,h1,h2⟩:=k6 k c s' (by simpa using hc) hcs
      refine ⟨u,by rw [hus]; exact h1,?_⟩
      rw [toDs,gd_cons_succ,show j0+(k+1)=j0+1+k from by omega]
      exact h2
  | _=>simp [deepOk] at hd
theorem slice_cells {x:T} {tk:Option Tok} {e:TypeId} {rows:List (List D)} {v:Value} (h:x.slice=some (tk,e,rows)) (hx:VT P w g base x v) :
  ∃ A c row,v=.slice A rows.length c∧rowOf P e=some row∧∀ (i j:Nat) s,i<rows.length→row[j]?=some s→∃ b o z,A=some ⟨b,o,none⟩∧w.cell? ⟨b,o+(i*row.length+j),none⟩=some z∧(deepO tk=false→VD P w g.prot s (gd (rows.getD i []) j) z)∧(∀ t,tk=some t→CellV P base w g t true i j s (gd (rows.getD i []) j) z):=by
 obtain ⟨A,c,rfl,h1,h2,row,hr,hv⟩:=slice_ok h hx
 refine ⟨A,c,row,rfl,hr,fun i j s hi hs=>?_⟩
 cases tk with
 | none =>
  obtain ⟨b,o,z,k1,k2,_,k4⟩:=hv i j s hi hs
  exact ⟨b,o,z,k1,k2,fun _=>k4,fun t e=>by cases e⟩
 | some t =>
  rcases hv with ⟨h0,_⟩ | ⟨cap,arr,E,k1,k2,k3,k4,k5,k6,k7,k8,k9,k10,k11⟩
  ·rw [h0] at hi; simp at hi
  ·injection k1 with k1 _ _
   obtain ⟨z,j1,j2⟩:=k11 i j s hi hs
   refine ⟨_,_,z,k1,?_,fun hd=>j2.vd hd,fun t e=>by injection e with e; subst e; exact j2⟩
   simp only [World.cell?,k6,Nat.zero_add]
   exact j1
theorem run_append_zero {tt e n:Nat} {A A':Option Addr} {sLen cap c:Nat} (ht:P.underlying tt=some (.slice e)) (hn:tSize P e=some n) (hle:sLen≤cap) (ty:TypeId) :
  (Builtin.append_ #[tt,tt] ty #[.slice A sLen cap,.slice A' 0 c]).run P w=.ok (.slice A sLen cap) w:=by
 have hf:(Builtin.firstCells n 0 (.slice A' 0 c)).run P w=.ok #[] w:=by
  cases A' with
  | none=>simp [Builtin.firstCells]
  | some x=>simp [Builtin.firstCells,loadCells,loadCellsFrom]
 unfold Builtin.append_
 simp only [List.getElem?_toArray,List.getElem?_cons_zero,List.getElem?_cons_succ,Sem.run_bind,run_underlying ht,Result.andThen_ok,run_size hn,Sem.run_pure,Builtin.lenOf,Nat.add_zero]
 simp only [Bool.false_eq_true,if_false,Sem.run_bind,Sem.run_pure,Result.andThen_ok,Builtin.lenOf,Nat.add_zero,if_pos hle,Bool.not_false,if_true,hf]
 cases A with
 | none=>simp
 | some x=>simp [storeCells]
theorem append_ok (hr:Rel P w g base σ a) {tt e:TypeId} {row:List S} (ht:tElem P tt=some e) (hrow:rowOf P e=some row) (hz:zeroOk P e row=true) (hby:bytesOk P e=true) {t:Tok} {b₁:Bool} {rows rows':List (List D)} {u v:Value}
  (hx:OwnV P w g base t b₁ e row rows u) (hy:∃ A c,v=.slice A rows'.length c∧∀ (i j:Nat) s,i<rows'.length→row[j]?=some s→∃ b o z,A=some ⟨b,o,none⟩∧w.cell? ⟨b,o+(i*row.length+j),none⟩=some z∧CellV P base w g t b₁ (rows.length+i) j s (gd (rows'.getD i []) j) z)
  (hlen:(rows++rows').length≤4294967296) (ty:TypeId) (hpt:t.1≠1000001) :
  ∃ v' w' g',(Builtin.append_ #[tt,tt] ty #[u,v]).run P w=.ok v' w'∧Rel P w' g' base (σ.map (dropC t)) a∧OwnV P w' g' base t b₁ e row (rows++rows') v'∧Below base w w':=by
 generalize hbb:b₁=b at *
 obtain ⟨A,c,rfl,hy⟩:=hy
 have hsz:=rowOf_size hrow
 have hpos:=rowOf_pos hrow
 have hu:=tElem_und ht
 rw [List.length_append] at hlen
 by_cases hm:rows'.length=0
 ·have hnil:rows' = []:=List.eq_nil_of_length_eq_zero hm
  subst hnil
  have hk:Kept P base g g w w (dropC t):=kept_drop (fun b o u h1 h2=>⟨h2,h1⟩) (fun b t' _ _ _=>⟨rfl,rfl,rfl⟩) (fun _ _=>⟨rfl,rfl,rfl,rfl⟩) rfl (fun _ _=>rfl)
  have hrel:Rel P w g base (σ.map (dropC t)) a:=hr.drop hk rfl (fun _ _ _ _=>⟨rfl,rfl,rfl⟩) hr.fresh (Nat.le_refl _) (fun _ _=>⟨rfl,rfl,rfl⟩) rfl (fun _ _=>⟨rfl,rfl,fun _ ho _=>⟨ho,rfl⟩⟩) (fun _ _ _ ho=>⟨ho,rfl,rfl⟩)
  rw [List.append_nil]
  rcases hx with ⟨h0,h1,A0,rfl⟩ | ⟨cap,arr,E,rfl,h2,rest⟩
  ·exact ⟨_,w,g,run_append_zero hu hsz (Nat.le_refl _) ty,hrel,.inl ⟨h0,h1,A0,rfl⟩,Below.refl _ _⟩
  ·exact ⟨_,w,g,run_append_zero hu hsz h2 ty,hrel,.inr ⟨cap,arr,E,rfl,h2,rest⟩,Below.refl _ _⟩
 ·obtain ⟨ti,v0,hi,hv0,hmz⟩:=zeroOk_ok hz
  obtain ⟨ti',hi',hb⟩:=bytesOk_ok hby
  rw [hi] at hi'; injection hi' with hi'; subst hi'
  have hti:ti.size=row.length:=by
   have:=hsz
   unfold tSize at this
   rw [hi] at this
   injection this
  obtain ⟨hz1,_⟩:=zero_get hmz
  have hz1:v0.cells.size=row.length:=by simpa using hz1
  obtain ⟨b0,o0,_,hA,_⟩:=hy 0 0 _ (by omega) (List.getElem?_eq_getElem hpos)
  subst hA
  have hsrc:∀ (i j:Nat) s,i<rows'.length→row[j]?=some s→∃ z,w.cell? ⟨b0,o0+(i*row.length+j),none⟩=some z∧CellV P base w g t b (rows.length+i) j s (gd (rows'.getD i []) j) z:=fun i j s h1 h2=>by
   obtain ⟨b,o,z,k1,k2,k3⟩:=hy i j s h1 h2
   injection k1 with k1
   injection k1 with e1 e2 _
   subst e1; subst e2
   exact ⟨z,k2,k3⟩
  let news:List Value:=List.ofFn (n:=rows'.length*row.length) fun j=>(w.cell? ⟨b0,o0+j.1,none⟩).getD undef
  have hnl:news.length=rows'.length*row.length:=by simp [news]
  have hng:∀ j,j<rows'.length*row.length→∃ z,news[j]?=some z∧w.cell? ⟨b0,o0+j,none⟩=some z∧z.oneCell'=true:=fun j hj=>by
   have hjk:j % row.length<row.length:=Nat.mod_lt _ hpos
   obtain ⟨z,k1,k2⟩:=hsrc (j / row.length) (j % row.length) _ ((Nat.div_lt_iff_lt_mul hpos).2 hj) (List.getElem?_eq_getElem hjk)
   have e:j / row.length*row.length+j % row.length=j:=by rw [Nat.mul_comm]; exact Nat.div_add_mod j row.length
   rw [e] at k1
   refine ⟨z,?_,k1,oneCell_of_flat k2.flat⟩
   rw [List.getElem?_eq_getElem (by rw [hnl]; exact hj)]
   simp [news,k1]
  have hnews:∀ j z,news[j]?=some z→w.cell? ((⟨b0,o0,none⟩:Addr).add j)=some z:=fun j z hj=>by
   have hjl:=(List.getElem?_eq_some_iff.1 hj).1
   obtain ⟨z',h1,h2,_⟩:=hng j (by rw [← hnl]; exact hjl)
   rw [hj] at h1; injection h1 with h1; subst h1
   rw [addr_add]; exact h2
  have hone:∀ z∈news,z.oneCell'=true:=fun z hz=>by
   obtain ⟨j,hj⟩:=List.getElem?_of_mem hz
   have hjl:=(List.getElem?_eq_some_iff.1 hj).1
   obtain ⟨z',h1,_,h3⟩:=hng j (by rw [← hnl]; exact hjl)
   rw [hj] at h1; injection h1 with h1; subst h1
   exact h3
  have hnv:∀ (i j:Nat) s,i<rows'.length→row[j]?=some s→∃ z,news[i*row.length+j]?=some z∧CellV P base w g t b (rows.length+i) j s (gd (rows'.getD i []) j) z:=fun i j s h1 h2=>by
   obtain ⟨z,k1,k2⟩:=hsrc i j s h1 h2
   have hj:=(List.getElem?_eq_some_iff.1 h2).1
   have hlt:i*row.length+j<rows'.length*row.length:=by
    have:(i+1)*row.length≤rows'.length*row.length:=Nat.mul_le_mul_right _ h1
    rw [Nat.succ_mul] at this; omega
   obtain ⟨z',q1,q2,_⟩:=hng _ hlt
   rw [k1] at q2; injection q2 with q2; subst q2
   exact ⟨z,q1,k2⟩
  have hgetD:∀ i,i<rows.length+rows'.length→(rows++rows').getD i []=if i<rows.length then rows.getD i [] else rows'.getD (i - rows.length) []:=fun i hi=>by
   rw [List.getD_eq_getElem?_getD,List.getElem?_append]
   split
   ·rw [List.getD_eq_getElem?_getD]
   ·rw [List.getD_eq_getElem?_getD]
  have hbytes:(rows.length+rows'.length)*ti.bytes≤140737488355328:=by
   have:=Nat.mul_le_mul hlen hb
   omega
  -- a new block
  have grow:∀ (olds:List Value) (old:Nat),olds.length=rows.length*row.length→(∀ (i j:Nat) s,i<rows.length→row[j]?=some s→∃ z,olds[i*row.length+j]?=some z∧CellV P base w g t b i j s (gd (rows.getD i []) j) z) →
    (Builtin.append_ #[tt,tt] ty #[u,.slice (some ⟨b0,o0,none⟩) rows'.length c]).run P w=.ok (.slice (some ⟨w.heap.size,0,none⟩) (rows.length+rows'.length) (grownCap w (rows.length+rows'.length) old e))
     (w.drew.alloc (.cells (olds.toArray++news.toArray++Builtin.zeroCells v0.cells (grownCap w (rows.length+rows'.length) old e - (rows.length+rows'.length))) e)) →
    ∃ v' w' g',(Builtin.append_ #[tt,tt] ty #[u,.slice (some ⟨b0,o0,none⟩) rows'.length c]).run P w=.ok v' w'∧Rel P w' g' base (σ.map (dropC t)) a∧OwnV P w' g' base t b e row (rows++rows') v'∧Below base w w':=by
   intro olds old hol hov hrun
   have hge:=grownCap_ge w (rows.length+rows'.length) old e
   have hcm:=grownCap_le_maxLen w (rows.length+rows'.length) old e (by unfold maxLen; omega)
   unfold maxLen at hcm
   let arr:Array Value:=olds.toArray++news.toArray++Builtin.zeroCells v0.cells (grownCap w (rows.length+rows'.length) old e - (rows.length+rows'.length))
   let g':G:={ prot:=fun x=>if x=w.heap.size then (if b then 0 else (rows.length+rows'.length)*row.length) else g.prot x,owner:=fun x=>if x=w.heap.size then some (.inr t) else g.owner x,θ:=g.θ, ρ:=fun u=>if u=t then w.heap.size else g.ρ u,len:=fun u=>if u=t then rows.length+rows'.length else g.len u,wid:=fun u=>if u=t then row.length else g.wid u,ety:=fun u=>if u=t then e else g.ety u,path:=g.path,need:=g.need,old:=g.old }
   have hheap:∀ x,x<w.heap.size→(w.drew.alloc (.cells arr e)).heap[x]?=w.heap[x]?:=fun x hx=>Below.heap_alloc w.drew _ x hx
   have hw'sz:(w.drew.alloc (.cells arr e)).heap.size=w.heap.size+1:=by simp
   have hcellk:∀ x o z,o<g.prot x→w.cell? ⟨x,o,none⟩=some z→(w.drew.alloc (.cells arr e)).cell? ⟨x,o,none⟩=some z∧o<g'.prot x:=fun x o z h1 h2=>by
    have hlt:=cell_size h2
    exact ⟨(cell_of_heap (hheap x hlt) o).trans h2,by show o<(if x=w.heap.size then _ else _); rw [if_neg (by omega)]; exact h1⟩
   have hck:∀ {i j:Nat} {s:S} {x:D} {z:Value},CellV P base w g t b i j s x z→CellV P base (w.drew.alloc (.cells arr e)) g' t b i j s x z:=fun h =>
    h.mono rfl hcellk (fun _ x o h0 ho hne hb=>by
     have hlt:=lt_of_heap hb
     exact ⟨(hheap x hlt).trans hb,h0,by show (if x=w.heap.size then _ else _)=_; rw [if_neg (by omega)]; exact ho,by show x≠(if t=t then w.heap.size else _); rw [if_pos rfl]; omega,rfl,rfl,fun e=>by show (if x=w.heap.size then _ else _)=_; rw [if_neg (by omega)]; exact e⟩)
   have hk:Kept P base g g' w (w.drew.alloc (.cells arr e)) (dropC t):=by
    refine kept_drop hcellk (fun x t' _ _ hx=>⟨hheap x hx,?_,?_⟩) (fun t' ht'=>⟨if_neg ht',if_neg ht',if_neg ht',if_neg ht'⟩) rfl (fun x hx=>hheap x (hr.low.2.1 x hx).2.2.2)
    ·show (if x=w.heap.size then _ else _)=_; rw [if_neg (by omega)]
    ·show (if x=w.heap.size then _ else _)=_; rw [if_neg (by omega)]
   have hrel:Rel P (w.drew.alloc (.cells arr e)) g' base (σ.map (dropC t)) a:=by
    refine hr.drop hk rfl (fun x id _ hx=>⟨hheap x hx,?_,?_⟩) (fun x hx=>?_) (by rw [hw'sz]; omega) (fun x hx=>by
     have:=(hr.low.2.1 x hx).2.2.2
     exact ⟨by show (if x=w.heap.size then _ else _)=_; rw [if_neg (by omega)],by show (if x=w.heap.size then _ else _)=_; rw [if_neg (by omega)],hheap x this⟩) rfl (fun t' ht'=>⟨if_neg (unpin hpt ht'),if_neg (unpin hpt ht'),fun x ho hx=>⟨by show (if x=w.heap.size then _ else _)=_; rw [if_neg (by omega)]; exact ho,hheap x hx⟩⟩) (fun x t' ht' ho=>by
     change (if x=w.heap.size then _ else _)=_ at ho
     split at ho
     ·injection ho with ho; injection ho with ho; exact absurd ho.symm (unpin hpt ht')
     ·exact ⟨ho,rfl,rfl⟩)
    ·show (if x=w.heap.size then _ else _)=_; rw [if_neg (by omega)]
    ·show (if x=w.heap.size then _ else _)=_; rw [if_neg (by omega)]
    ·rw [hw'sz] at hx
     have:=hr.fresh x (by omega)
     exact ⟨by show (if x=w.heap.size then _ else _)=_; rw [if_neg (by omega)]; exact this.1,by show (if x=w.heap.size then _ else _)=_; rw [if_neg (by omega)]; exact this.2⟩
   refine ⟨_,_,g',hrun,hrel,.inr ⟨_,arr,e,?_,by rw [List.length_append]; exact hge,⟨hcm,rfl,(if_pos rfl:g'.ety t=e).symm⟩,?_,?_,?_,?_,?_,(if_pos rfl:g'.wid t=row.length).symm,?_,?_⟩,?_⟩
   ·rw [List.length_append,show g'.ρ t=w.heap.size from if_pos rfl]
   ·rw [show g'.ρ t=w.heap.size from if_pos rfl]; exact hr.base_le
   ·rw [show g'.ρ t=w.heap.size from if_pos rfl]; exact if_pos rfl
   ·rw [show g'.ρ t=w.heap.size from if_pos rfl]; exact heap_new w.drew _
   ·show (olds.toArray++news.toArray++Builtin.zeroCells v0.cells _).size=_
    simp only [Array.size_append,List.size_toArray,size_zeroCells,hol,hnl,hz1,← Nat.add_mul]
    congr 1; omega
   ·rw [List.length_append]; exact (if_pos rfl:g'.len t=_).symm
   ·rw [show g'.ρ t=w.heap.size from if_pos rfl,show g'.len t=rows.length+rows'.length from if_pos rfl,show g'.wid t=row.length from if_pos rfl]
    exact if_pos rfl
   ·intro i j s hi hs
    rw [List.length_append] at hi
    have hj:=(List.getElem?_eq_some_iff.1 hs).1
    rw [hgetD i hi]
    by_cases h1:i<rows.length
    ·rw [if_pos h1]
     obtain ⟨z,q1,q2⟩:=hov i j s h1 hs
     refine ⟨z,?_,hck q2⟩
     have hlt:=(List.getElem?_eq_some_iff.1 q1).1
     show (olds.toArray++news.toArray++_)[i*row.length+j]?=_
     rw [Array.append_assoc,Array.getElem?_append_left (by simpa using hlt)]
     simpa using q1
    ·rw [if_neg h1]
     obtain ⟨z,q1,q2⟩:=hnv (i - rows.length) j s (by omega) hs
     refine ⟨z,?_,by have:=hck q2; rwa [show rows.length+(i - rows.length)=i from by omega] at this⟩
     have hlt:=(List.getElem?_eq_some_iff.1 q1).1
     have e1:i*row.length+j=rows.length*row.length+((i - rows.length)*row.length+j):=by
      rw [← Nat.add_assoc,← Nat.add_mul]; congr 2; omega
     show (olds.toArray++news.toArray++_)[i*row.length+j]?=_
     rw [Array.getElem?_append_left (by simp [hol]; omega),Array.getElem?_append_right (by simp [hol]; omega)]
     simp only [List.size_toArray,hol,e1,Nat.add_sub_cancel_left]
     simpa using q1
   ·exact ⟨rfl,rfl,rfl,by rw [hw'sz]; omega,fun x hx=>hheap x (Nat.lt_of_lt_of_le hx hr.base_le)⟩
  rcases hx with ⟨h0,h1,A0,rfl⟩ | ⟨cap,arr,E,rfl,h2,⟨h3,rfl,h3'⟩,h4,h5,h6,h7,h8,h9,h10,h11⟩
  ·subst h0
   simp only [List.length_nil,Nat.zero_add] at grow hlen hbytes ⊢
   refine grow [] 0 (by simp) (fun i j s hi=>by simp at hi) ?_
   cases A0 with
   | none =>
    have:=run_append_nil (P:=P) w tt ty e ti v0 hu hi hv0 ⟨b0,o0,none⟩ rows'.length c news (by rw [hnl,hti]) hnews (by omega) (by omega) (by omega)
    simpa using this
   | some ad =>
    have:=run_append_grow (P:=P) w tt ty e ti v0 hu hi hv0 ad 0 0 [] (by simp) (fun j v h=>by simp at h) ⟨b0,o0,none⟩ rows'.length c news (by rw [hnl,hti]) hnews (by omega) (by omega) (by simpa using growslice_fits (by omega) hbytes)
    simpa using this
  ·by_cases hroom:rows.length+rows'.length≤cap
   ·have hfit:rows.length*row.length+news.length≤arr.size:=by
     rw [hnl,h7,← Nat.add_mul]; exact Nat.mul_le_mul_right _ hroom
    have hrun:=run_append_room (P:=P) w tt ty E ti hu hi (g.ρ t) rows.length cap arr h6 ⟨b0,o0,none⟩ rows'.length c news (by rw [hnl,hti]) hnews hone hroom (by rw [hti]; exact hfit)
    rw [hti] at hrun
    change _=Result.ok _ (w.setRow (g.ρ t) (over arr (rows.length*row.length) news)) at hrun
    let g':G:={ g with prot:=fun x=>if x=g.ρ t then (if b then 0 else (rows.length+rows'.length)*row.length) else g.prot x,len:=fun u=>if u=t then rows.length+rows'.length else g.len u }
    have hoth:∀ x,x≠g.ρ t→(w.setRow (g.ρ t) (over arr (rows.length*row.length) news)).heap[x]?=w.heap[x]?:=fun x hx=>setRow_other w (g.ρ t) x _ hx
    have hself:(w.setRow (g.ρ t) (over arr (rows.length*row.length) news)).heap[g.ρ t]?=some (.cells (over arr (rows.length*row.length) news) E (0,0)):=setRow_heap w _ arr _ E _ h6
    have hws:(w.setRow (g.ρ t) (over arr (rows.length*row.length) news)).heap.size=w.heap.size:=by simp [World.setRow]
    have hcellk:∀ x o z,o<g.prot x→w.cell? ⟨x,o,none⟩=some z→(w.setRow (g.ρ t) (over arr (rows.length*row.length) news)).cell? ⟨x,o,none⟩=some z∧o<g'.prot x:=fun x o z q1 q2=>by
     by_cases hx:x=g.ρ t
     ·subst hx
      rw [h10] at q1
      cases b with
      | true=>simp at q1
      | false =>
       simp only [Bool.false_eq_true,if_false] at q1
       rw [← h8,← h9] at q1
       refine ⟨?_,?_⟩
       ·simp only [World.cell?,hself,Option.isSome_none,Bool.false_eq_true,if_false]
        rw [over_get _ _ _ hfit,if_neg (by omega)]
        simp only [World.cell?,h6,Option.isSome_none,Bool.false_eq_true,if_false] at q2
        exact q2
       ·show o<(if g.ρ t=g.ρ t then _ else _)
        rw [if_pos rfl]
        simp only [Bool.false_eq_true,if_false,Nat.add_mul]
        omega
     ·exact ⟨(cell_of_heap (hoth x hx) o).trans q2,by show o<(if x=g.ρ t then _ else _); rw [if_neg hx]; exact q1⟩
    have hck:∀ {i j:Nat} {s:S} {x:D} {z:Value},CellV P base w g t b i j s x z→CellV P base (w.setRow (g.ρ t) (over arr (rows.length*row.length) news)) g' t b i j s x z:=fun h =>
     h.mono rfl hcellk (fun _ x o h0 ho hne hb=>⟨(hoth x hne).trans hb,h0,ho,hne,rfl,rfl,fun e=>by show (if x=g.ρ t then _ else _)=_; rw [if_neg hne]; exact e⟩)
    have hk:Kept P base g g' w (w.setRow (g.ρ t) (over arr (rows.length*row.length) news)) (dropC t):=by
     refine kept_drop hcellk (fun x t' ht' ho hx=>?_) (fun t' ht'=>⟨rfl,if_neg ht',rfl,rfl⟩) rfl (fun x hx=>hoth x (hr.oldNe hx h5))
     have hne:x≠g.ρ t:=by intro e; rw [e,h5] at ho; injection ho with ho; injection ho with ho; exact ht' ho.symm
     exact ⟨hoth x hne,rfl,if_neg hne⟩
    have hrel:Rel P (w.setRow (g.ρ t) (over arr (rows.length*row.length) news)) g' base (σ.map (dropC t)) a:=by
     refine hr.drop hk rfl (fun x id ho hx=>?_) (fun x hx=>?_) (by rw [hws]; exact Nat.le_refl _) (fun x hx=>⟨rfl,if_neg (hr.oldNe hx h5),hoth x (hr.oldNe hx h5)⟩) rfl (fun t' ht'=>⟨rfl,if_neg (unpin hpt ht'),fun x ho hx=>⟨ho,hoth x (by intro e; rw [e,h5] at ho; injection ho with ho; injection ho with ho; exact unpin hpt ht' ho.symm)⟩⟩) (fun _ _ _ ho=>⟨ho,rfl,rfl⟩)
     ·have hne:x≠g.ρ t:=by intro e; rw [e,h5] at ho; injection ho with ho; cases ho
      exact ⟨hoth x hne,rfl,if_neg hne⟩
     ·rw [hws] at hx
      have hlt:=lt_of_heap h6
      have:=hr.fresh x hx
      exact ⟨by show (if x=g.ρ t then _ else _)=_; rw [if_neg (by omega)]; exact this.1,this.2⟩
    refine ⟨_,_,g',hrun,hrel,.inr ⟨cap,_,E,by rw [List.length_append],by rw [List.length_append]; exact hroom,⟨h3,rfl,h3'⟩,h4,h5,hself,by rw [over_size _ _ _ hfit]; exact h7,by rw [List.length_append]; exact (if_pos rfl:g'.len t=_).symm,h9,?_,?_⟩,?_⟩
    ·rw [show g'.len t=rows.length+rows'.length from if_pos rfl,show g'.wid t=row.length from h9.symm]
     exact if_pos rfl
    ·intro i j s hi' hs
     rw [List.length_append] at hi'
     have hj:=(List.getElem?_eq_some_iff.1 hs).1
     rw [hgetD i hi',over_get _ _ _ hfit]
     by_cases q:i<rows.length
     ·rw [if_pos q]
      obtain ⟨z,q1,q2⟩:=h11 i j s q hs
      have:(i+1)*row.length≤rows.length*row.length:=Nat.mul_le_mul_right _ q
      rw [Nat.succ_mul] at this
      exact ⟨z,by rw [if_neg (by omega)]; exact q1,hck q2⟩
     ·rw [if_neg q]
      obtain ⟨z,q1,q2⟩:=hnv (i - rows.length) j s (by omega) hs
      have e1:i*row.length+j=rows.length*row.length+((i - rows.length)*row.length+j):=by
       rw [← Nat.add_assoc,← Nat.add_mul]; congr 2; omega
      have hlt:=(List.getElem?_eq_some_iff.1 q1).1
      refine ⟨z,?_,by have:=hck q2; rwa [show rows.length+(i - rows.length)=i from by omega] at this⟩
      rw [if_pos (by omega),e1,Nat.add_sub_cancel_left]
      exact q1
    ·exact ⟨rfl,rfl,rfl,by rw [hws]; exact Nat.le_refl _,fun x hx=>hoth x (by omega)⟩
   ·have hol:(arr.toList.take (rows.length*row.length)).length=rows.length*row.length:=by
     have e1:arr.toList.length=cap*row.length:=by simpa using h7
     rw [List.length_take,e1]
     exact Nat.min_eq_left (Nat.mul_le_mul_right _ h2)
    refine grow (arr.toList.take (rows.length*row.length)) cap hol (fun i j s hi' hs=>?_) ?_
    ·obtain ⟨z,q1,q2⟩:=h11 i j s hi' hs
     have hj:=(List.getElem?_eq_some_iff.1 hs).1
     have:(i+1)*row.length≤rows.length*row.length:=Nat.mul_le_mul_right _ hi'
     rw [Nat.succ_mul] at this
     exact ⟨z,by rw [List.getElem?_take,if_pos (by omega)]; simpa using q1,q2⟩
    ·exact run_append_grow (P:=P) w tt ty E ti v0 hu hi hv0 ⟨g.ρ t,0,none⟩ rows.length cap (arr.toList.take (rows.length*row.length)) (by rw [hol,hti]) (fun j z hj=>by
      rw [List.getElem?_take] at hj
      split at hj
      ·rw [addr_add]
       simp only [World.cell?,h6,Nat.zero_add]
       simpa using hj
      ·cases hj) ⟨b0,o0,none⟩ rows'.length c news (by rw [hnl,hti]) hnews (by omega) (by omega) (growslice_fits (by omega) hbytes)
theorem evAppend_ok (hr:Rel P w g base σ a) {o:Oper} {σ':St} {d:Nat} {tt:TypeId} {x y:Operand} (ho:o.op=.call { callee:=.builtin .append,args:= #[x,y],argTypes:= #[tt,tt] }) (hdst:o.dst=some d) (hd:∀ d,o.dst=some d→d<a.tmps.size)
  (h:evAppend P σ d tt x y=some (σ',true)):Does P base σ' o a w:=by
 unfold evAppend at h
 split at h
 ·rename_i t b e tk e' rows' hsh hy
  cases hc:(e==e'&&tElem P tt==some e&&rowZero P e&&(bif deepT t&&b then deepO tk&&tk != some t else !deepO tk)&&t.1 != 1000001&&tk.all (fun t'=>t'.1 != 1000001)) with
  | false=>rw [hc] at h; cases h
  | true =>
   rw [hc,cond_true] at h
   simp only [Option.some.injEq,Prod.mk.injEq,Bool.and_eq_true,decide_eq_true_eq] at h
   obtain ⟨rfl,hlen,hby⟩:=h
   simp only [Bool.and_eq_true,beq_iff_eq] at hc
   obtain ⟨⟨⟨⟨⟨rfl,ht⟩,hz⟩,hdp⟩,hpt⟩,hptk⟩:=hc
   have hpt:t.1≠1000001:=by simpa using hpt
   unfold rowZero at hz
   cases hrow:rowOf P e with
   | none=>rw [hrow] at hz; cases hz
   | some row =>
    rw [hrow] at hz
    simp only at hz
    have hxv:=opd_ok hr x
    have hxv:VC P w g base (.own t b e) (gd (opd σ x).p 0) (a.eval x):=by
     generalize opd σ x=q at *
     obtain ⟨sh,p⟩:=q
     simp only at hsh
     subst hsh
     exact hxv
    obtain ⟨row',hrow',hown⟩:=hxv
    rw [hrow] at hrow'; injection hrow' with hrow'; subst hrow'
    obtain ⟨A,c,row',hyv,hrow',hyc⟩:=slice_cells hy (opd_ok hr y)
    rw [hrow] at hrow'; injection hrow' with hrow'; subst hrow'
    cases hdb:(deepT t&&b) with
    | false =>
     rw [hdb,cond_false] at hdp; rw [cond_false]
     obtain ⟨v',w',g',k1,k2,k3,k4⟩:=append_ok hr ht hrow hz hby hown ⟨A,c,hyv,fun i j s hi hs=>by
      obtain ⟨b0,o0,z,q1,q2,q3,_⟩:=hyc i j s hi hs
      exact ⟨b0,o0,z,q1,q2,.of_vd (q3 (by simpa using hdp)) (.inl hdb)⟩⟩ hlen o.type hpt
     refine ⟨v',w',g',.inl ?_,k2.put hd (t:=.c (.own t b e) (.l _)) ⟨row,hrow,k3⟩ |> fun h=>by rw [hdst] at h ⊢; exact h,k4⟩
     simp only [execOp,ho,resolve,invoke,builtin,Sem.run_bind,Sem.run_pure,Result.andThen_ok,List.map_toArray,List.map_cons,List.map_nil,k1]
    | true =>
     rw [hdb,cond_true] at hdp; rw [cond_true]
     simp only [Bool.and_eq_true] at hdp hdb
     obtain ⟨hdt,rfl⟩:=hdb
     cases tk with
     | none=>simp [deepO] at hdp
     | some t' =>
      have hne:t≠t':=by have:=hdp.2; simp at this; exact fun e=>this e.symm
      have hdt':deepT t'=true:=hdp.1
      let n0:=(gd (opd σ x).p 0).rows.length
      let fm:List (Nat × Nat)→List (Nat × Nat):=fun π=>match π with
       | [] => []
       | (i,j)::r=>(n0+i,j)::r
      have main:∀ {g₀:G} {σ₀:St},Rel P w g₀ base σ₀ a→OwnV P w g₀ base t true e row (gd (opd σ x).p 0).rows (a.eval x)→(∀ b₂,g₀.owner b₂=some (.inr t')→w.heap.size≤b₂∨b₂≠g₀.ρ t)→(∀ b₂,g₀.owner b₂=g.owner b₂∧g₀.path b₂=g.path b₂∧g₀.need b₂=g.need b₂∧g₀.prot b₂=g.prot b₂)→g₀.ρ t'=g.ρ t' →
        ∃ v' w' g',(Builtin.append_ #[tt,tt] o.type #[a.eval x,a.eval y]).run P w=.ok v' w'∧Rel P w' g' base ((σ₀.map (dropC t')).map (dropC t)) a∧OwnV P w' g' base t true e row ((gd (opd σ x).p 0).rows++rows') v'∧Below base w w':=by
       intro g₀ σ₀ hr₀ hown₀ hρt hsame hρ'
       have hpt':t'.1≠1000001:=by simpa using hptk
       obtain ⟨hk1,hr1⟩:=move_kept (t:=t') (s:=t) (f:=fm) (top:=none) hr₀ hpt' hpt
       have hown1:=move_own (s:=t) (f:=fm) (top:=none) hr₀ hpt' hpt hne hrow hown₀
       refine append_ok hr1 ht hrow hz hby hown1 ⟨A,c,hyv,fun i j s hi hs=>?_⟩ hlen o.type hpt
       obtain ⟨b0,o0,z,q1,q2,_,q3⟩:=hyc i j s hi hs
       refine ⟨b0,o0,z,q1,q2,.of_tr ?_ hdt⟩
       have:=TR.mono fm (fun π x hπ=>by cases π with | nil=>exact absurd rfl hπ | cons p r=>rfl) ((q3 t' rfl).tr hdt') (w':=w) (lab':=labOf base (moveG g₀ t' t fm none) t) (fun b₂ π n o₂ hπ hl ho₂=>⟨ho₂,by
        obtain ⟨l0,l1,l2,l3,l4,l5⟩:=hl
        obtain ⟨m1,m2,m3,m4⟩:=hsame b₂
        have l1':g₀.owner b₂=some (.inr t'):=m1.trans l1
        have l2':b₂≠g₀.ρ t':=by rw [hρ']; exact l2
        refine ⟨l0,?_,(hρt b₂ l1').resolve_left (by have:=lt_of_heap ho₂; omega),?_,?_,m4.trans l5⟩
        ·show (if g₀.owner b₂=some (.inr t') then _ else _)=_
         rw [if_pos l1',if_neg l2']
        ·show (if g₀.owner b₂=some (.inr t') then _ else _)=_
         rw [if_pos l1',if_neg l2',m2,l3]
        ·show (if g₀.owner b₂=some (.inr t')∧b₂=g₀.ρ t' then _ else _)=_
         rw [if_neg (fun e=>l2' e.2),m3]; exact l4⟩) (by simp)
       exact this
      have fin:∀ {v':Value} {w':World} {g':G},(Builtin.append_ #[tt,tt] o.type #[a.eval x,a.eval y]).run P w=.ok v' w'→Rel P w' g' base ((σ.map (dropC t')).map (dropC t)) a→OwnV P w' g' base t true e row ((gd (opd σ x).p 0).rows++rows') v'→Below base w w'→Does P base (((dropTs (some t').toList σ).map (dropC t)).put (some d) (.c (.own t true e) (.l ((gd (opd σ x).p 0).rows++rows')))) o a w:=by
       intro v' w' g' k1 k2 k3 k4
       refine ⟨v',w',g',.inl ?_,k2.put hd (t:=.c (.own t true e) (.l _)) ⟨row,hrow,k3⟩ |> fun h=>by rw [hdst] at h ⊢; exact h,k4⟩
       simp only [execOp,ho,resolve,invoke,builtin,Sem.run_bind,Sem.run_pure,Result.andThen_ok,List.map_toArray,List.map_cons,List.map_nil,k1]
      rcases hown with hown' | hown'
      ·obtain ⟨v',w',g',k1,k2,k3,k4⟩:=main (rho_drop hr t hpt w.heap.size) (.inl ⟨hown'.1,hown'.2.1,hown'.2.2⟩) (fun b₂ _=>by
        show _∨b₂≠(if t=t then w.heap.size else _)
        rw [if_pos rfl]; omega) (fun _=>⟨rfl,rfl,rfl,rfl⟩) (if_neg (Ne.symm hne))
       refine fin k1 ?_ k3 k4
       have e1:((σ.map (dropC t)).map (dropC t')).map (dropC t)=(σ.map (dropC t')).map (dropC t):=drop_swap t t' σ
       rw [e1] at k2
       exact k2
      ·obtain ⟨v',w',g',k1,k2,k3,k4⟩:=main hr (.inr hown') (fun b₂ ho₂=>.inr fun e=>by
        obtain ⟨cap,arr,E,h1,h2,h3,h4,h5,rest⟩:=hown'
        rw [e,h5] at ho₂; injection ho₂ with ho₂; injection ho₂ with ho₂; exact hne ho₂) (fun _=>⟨rfl,rfl,rfl,rfl⟩) rfl
       exact fin k1 k2 k3 k4
 ·cases h
theorem setDs_get (s:Tok) (rows:List (List D)):∀ (cs:List Ce) (ds:List D) (j:Nat) c,cs[j]?=some c→gd (setDs s rows cs ds) j=setD s rows c (gd ds j)
 | [],ds,j,c,h=>by simp at h
 | c0::cs,ds,0,c,h=>by
  simp only [List.getElem?_cons_zero,Option.some.injEq] at h
  subst h; rfl
 | c0::cs,ds,j+1,c,h=>by
  rw [setDs,gd_cons_succ,setDs_get s rows cs ds.tail j c (by simpa using h),gd_tail]
theorem setDs_length (s:Tok) (rows:List (List D)):∀ (cs:List Ce) (ds:List D),(setDs s rows cs ds).length=cs.length
 | [],_=>rfl
 | c::cs,ds=>by simp [setDs,setDs_length s rows cs ds.tail]
theorem map_get {α β:Type} {f:α→β} {l:List α} {j:Nat} {c:β} (h:(l.map f)[j]?=some c):∃ c0,l[j]?=some c0∧f c0=c:=by
 rw [List.getElem?_map] at h
 cases hq:l[j]? with
 | none=>rw [hq] at h; cases h
 | some c0=>rw [hq] at h; injection h with h; exact ⟨c0,rfl,h⟩
theorem hlook_map3 (F:List Ce→List Ce) (G:List Ce→List D→List D):∀ (h:Boxes) (i:Nat),hlook i (h.map fun p=>(p.1,F p.2.1,G p.2.1 p.2.2))=(hlook i h).map fun q=>(F q.1,G q.1 q.2)
 | [],i=>by simp [hlook]
 | (j,v)::e,i=>by
  simp only [List.map_cons,hlook]
  rw [hlook_map3 F G e i]
  cases i==j <;> rfl
theorem evStore_core {gs:G} {σs:St} (hr:Rel P w gs base σs a) {o:Oper} {t n off:Nat} {e:TypeId} {x p:Operand} {cs:List Ce} {ds:List D} {pp:List D} {tok:Tok} {row ss:List S} {u0:Value} (ho:o.op=.store t p x) (hd:∀ d,o.dst=some d→d<a.tmps.size) (hn:tSize P t=some n)
  (hx1:(a.eval x).cells.size=cs.length) (hone:∀ v∈(a.eval x).cells.toList,v.oneCell'=true) (hl:cs.length=n) (hpe:a.eval p=.pointer (some ⟨gs.ρ tok,eIx (gd pp 0)*row.length+off,none⟩)) (hix':eIx (gd pp 0)<(eRows (gd pp 0)).length) (hown:OwnV P w gs base tok true e row (eRows (gd pp 0)) u0)
  (hrow:rowOf P e=some row) (hnew:∀ (k:Nat) s,ss[k]?=some s→∃ u,(a.eval x).cells[k]?=some u∧CellV P base w gs tok true (eIx (gd pp 0)) (off+k) s (gd (toDs cs ds) k) u) (hfit:(row.drop off).take n=ss) (hn1:1≤n) (hofs:off+n≤row.length) :
  DoesS P base (St.put (σs.setRows tok ((eRows (gd pp 0)).set (eIx (gd pp 0)) (setSub (sub ((eRows (gd pp 0)).getD (eIx (gd pp 0)) []) 0 row.length) off (toDs cs ds)))) o.dst .none_) o p a w:=by
 generalize hrows:eRows (gd pp 0)=rows at *
 generalize eIx (gd pp 0)=i at *
 rcases hown with ⟨h0,_⟩ | ⟨cap,arr,E,h1,h2,⟨h3,hE,h3'⟩,h4,h5,h6,h7,h8,h9,h10,h11⟩
 ·rw [h0] at hix'; simp at hix'
 ·subst hE
  have hul:(a.eval x).cells.toList.length=n:=by simp [hx1,hl]
  have hkk:i*row.length+row.length≤rows.length*row.length:=by
   rw [← Nat.succ_mul]; exact Nat.mul_le_mul_right _ hix'
  have hcap:rows.length*row.length≤cap*row.length:=Nat.mul_le_mul_right _ h2
  have hfit':i*row.length+off+n≤arr.size:=by rw [h7]; omega
  have hfl:i*row.length+off+(a.eval x).cells.toList.length≤arr.size:=by rw [hul]; exact hfit'
  have hrun:=run_storeAt (P:=P) (w:=w) (b:=gs.ρ tok) (o:=i*row.length+off) hn (by rw [hx1,hl]) h6 hfit' hone
  generalize hvs:(a.eval x).cells.toList=vs at *
  have hoth:∀ b,b≠gs.ρ tok→(w.setRow (gs.ρ tok) (over arr (i*row.length+off) vs)).heap[b]?=w.heap[b]?:=fun b hb=>setRow_other w (gs.ρ tok) b _ hb
  have hself:(w.setRow (gs.ρ tok) (over arr (i*row.length+off) vs)).heap[gs.ρ tok]?=some (.cells (over arr (i*row.length+off) vs) E (0,0)):=setRow_heap w _ arr _ E _ h6
  have hsz:(w.setRow (gs.ρ tok) (over arr (i*row.length+off) vs)).heap.size=w.heap.size:=by simp [World.setRow]
  have hp0:gs.prot (gs.ρ tok)=0:=by rw [h10]; rfl
  have hvd:∀ {s:S} {x:D} {v:Value},VD P w gs.prot s x v→VD P (w.setRow (gs.ρ tok) (over arr (i*row.length+off) vs)) gs.prot s x v:=fun h =>
   h.mono fun b o u q1 q2=>⟨(cell_of_heap (hoth b (by rintro rfl; rw [hp0] at q1; omega)) o).trans q2,q1⟩
  have hck:∀ {t':Tok} {xm:Bool} {i' j:Nat} {s:S} {d:D} {z:Value},CellV P base w gs t' xm i' j s d z→CellV P base (w.setRow (gs.ρ tok) (over arr (i*row.length+off) vs)) gs t' xm i' j s d z:=fun {t' xm i' j s d z} h =>
   h.mono rfl (fun b o u q1 q2=>⟨(cell_of_heap (hoth b (by rintro rfl; rw [hp0] at q1; omega)) o).trans q2,q1⟩) (fun _ b o h0 ho' hne hb=>by
    have hne':b≠gs.ρ tok:=by
     by_cases ht:t'=tok
     ·subst ht; exact hne
     ·intro e; rw [e,h5] at ho'; injection ho' with ho'; injection ho' with ho'; exact ht ho'.symm
    exact ⟨(hoth b hne').trans hb,h0,ho',hne,rfl,rfl,fun e=>e⟩)
  generalize hnr:setSub (sub (rows.getD i []) 0 row.length) off (toDs cs ds)=nr
  have hdl:(toDs cs ds).length=n:=by
   have:∀ (cs:List Ce) (ds:List D),(toDs cs ds).length=cs.length:=by
    intro cs
    induction cs with
    | nil=>intro ds; rfl
    | cons c cs ih=>intro ds; simp [toDs,ih]
   rw [this,hl]
  have hnrg:∀ j,j<row.length→gd nr j=if off≤j∧j<off+n then gd (toDs cs ds) (j - off) else gd (rows.getD i []) j:=fun j hj=>by
   rw [← hnr,gd_setSub _ _ _ _ (by rw [sub_length]; exact hj),hdl,gd_sub _ _ _ _ hj,Nat.zero_add]
  have hlen':(rows.set i nr).length=rows.length:=by simp
  have hcells:∀ (i' j:Nat) s,i'<rows.length→row[j]?=some s→∃ u,(over arr (i*row.length+off) vs)[i'*row.length+j]?=some u∧CellV P base (w.setRow (gs.ρ tok) (over arr (i*row.length+off) vs)) gs tok true i' j s (gd ((rows.set i nr).getD i' []) j) u:=by
   intro i' j s hi' hs
   have hj:=(List.getElem?_eq_some_iff.1 hs).1
   rw [over_get _ _ _ hfl,hul]
   have hset:(rows.set i nr).getD i' []=if i=i' then nr else rows.getD i' []:=by
    rw [List.getD_eq_getElem?_getD,List.getElem?_set]
    by_cases e:i=i'
    ·subst e; simp [hi']
    ·simp [e,List.getD_eq_getElem?_getD]
   rw [hset]
   by_cases hin:i*row.length+off≤i'*row.length+j∧i'*row.length+j<i*row.length+off+n
   ·have hii:i=i':=by
     rcases Nat.lt_trichotomy i i' with h | h | h
     ·exfalso
      have:(i+1)*row.length≤i'*row.length:=Nat.mul_le_mul_right _ h
      rw [Nat.succ_mul] at this
      omega
     ·exact h
     ·exfalso
      have:(i'+1)*row.length≤i*row.length:=Nat.mul_le_mul_right _ h
      rw [Nat.succ_mul] at this
      omega
    subst hii
    rw [if_pos hin,if_pos rfl,hnrg j hj,if_pos (by omega)]
    have hsj:ss[j - off]?=some s:=by
     rw [← hfit,List.getElem?_take,if_pos (by omega),List.getElem?_drop,show off+(j - off)=j from by omega]
     exact hs
    obtain ⟨u,q1,q2⟩:=hnew _ s hsj
    rw [show off+(j - off)=j from by omega] at q2
    refine ⟨u,?_,hck q2⟩
    rw [show i*row.length+j - (i*row.length+off)=j - off from by omega,← hvs]
    simpa using q1
   ·rw [if_neg hin]
    obtain ⟨u,q1,q2⟩:=h11 i' j s hi' hs
    refine ⟨u,q1,?_⟩
    by_cases hii:i=i'
    ·subst hii
     rw [if_pos rfl,hnrg j hj,if_neg (by omega)]
     exact hck q2
    ·rw [if_neg hii]
     exact hck q2
  have hownt:∀ {xm:Bool} {e':TypeId} {row':List S} {rowsT:List (List D)} {v:Value},rowOf P e'=some row'→OwnV P w gs base tok xm e' row' rowsT v→rowsT.length=(rows.set i nr).length∧OwnV P (w.setRow (gs.ρ tok) (over arr (i*row.length+off) vs)) gs base tok xm e' row' (rows.set i nr) v:=by
   intro xm e' row' rowsT v hr' h
   rcases h with ⟨_,h,_⟩ | ⟨cap',arr',E',k1,k2,⟨k3,kE,k3'⟩,k4,k5,k6,k7,k8,k9,k10,k11⟩
   ·omega
   ·have ee:e'=E:=by rw [k3',h3']
    subst ee
    rw [hrow] at hr'; injection hr' with hr'; subst hr'
    rw [h6] at k6
    injection k6 with k6
    injection k6 with q1 q2 q3
    subst q1
    have hll:rowsT.length=(rows.set i nr).length:=by rw [hlen',k8,h8]
    refine ⟨hll,.inr ⟨cap',_,e',by rw [k1,hll],by rw [← hll]; exact k2,⟨k3,rfl,k3'⟩,k4,k5,by rw [hself,q2,kE],by rw [over_size _ _ _ hfl]; exact k7,by rw [← hll]; exact k8,k9,k10,fun i' j s hi' hs=>?_⟩⟩
    have hlt:i'<rows.length:=by rw [← hlen']; exact hi'
    obtain ⟨z,z1,z2⟩:=hcells i' j s hlt hs
    cases xm with
    | true=>exact ⟨z,z1,z2⟩
    | false =>
     have hlen0:gs.len tok*gs.wid tok=0:=by
      have:=k10
      rw [hp0] at this
      simp only [Bool.false_eq_true,if_false] at this
      exact this.symm
     have h1:0<gs.len tok:=by rw [← h8]; omega
     have h2:0<gs.wid tok:=by rw [← h9]; have:=(List.getElem?_eq_some_iff.1 hs).1; omega
     have:=Nat.mul_pos h1 h2
     omega
  have hownu:∀ {t':Tok} {xm:Bool} {e':TypeId} {row':List S} {rowsT:List (List D)} {v:Value},t'≠tok→OwnV P w gs base t' xm e' row' rowsT v→OwnV P (w.setRow (gs.ρ tok) (over arr (i*row.length+off) vs)) gs base t' xm e' row' rowsT v:=by
   intro t' xm e' row' rowsT v ht h
   rcases h with h | ⟨cap',arr',E',k1,k2,k3,k4,k5,k6,k7,k8,k9,k10,k11⟩
   ·exact .inl h
   ·refine .inr ⟨cap',arr',E',k1,k2,k3,k4,k5,by rw [hoth _ (by intro e; rw [e,h5] at k5; injection k5 with k5; injection k5 with k5; exact ht k5.symm)]; exact k6,k7,k8,k9,k10,fun i' j s hi' hs=>?_⟩
    obtain ⟨u,q1,q2⟩:=k11 i' j s hi' hs
    exact ⟨u,q1,hck q2⟩
  have hcptr:∀ {cells:List S} {off':Nat} {x:D} {v:Value},CptrV P w gs base cells off' x v→CptrV P (w.setRow (gs.ρ tok) (over arr (i*row.length+off) vs)) gs base cells off' x v:=by
   rintro cells off' x v ⟨b,o,q1,q2,q3⟩
   refine ⟨b,o,q1,q2,fun j s hs=>?_⟩
   obtain ⟨u,z1,z2⟩:=q3 j s hs
   exact ⟨u,(cell_of_heap (hoth b (hr.oldNe q2 h5)) _).trans z1,hvd z2⟩
  have hkc:∀ c x v,VC P w gs base c x v→VC P (w.setRow (gs.ρ tok) (over arr (i*row.length+off) vs)) gs base (innC (· == tok) c) (setD tok (rows.set i nr) c x) v:=by
   intro c x v hv
   cases c with
   | any=>trivial
   | d s=>exact hvd hv
   | kb b=>exact hv
   | own t' xm e' =>
    obtain ⟨row',hr',hv⟩:=hv
    refine ⟨row',hr',?_⟩
    show OwnV P _ gs base t' xm e' row' (bif t'==tok then D.l (rows.set i nr) else x).rows v
    by_cases ht:t'=tok
    ·subst ht
     rw [show (t'==t')=true from by simp]
     exact (hownt hr' hv).2
    ·rw [show (t'==tok)=false from by simpa using ht]
     exact hownu ht hv
   | ptr id off'=>exact hv
   | eptr tk e' off' =>
    cases tk with
    | none =>
     obtain ⟨row',b,o,q1,q2,q3,q4⟩:=hv
     refine ⟨row',b,o,q1,q2,q3,fun j s hs=>?_⟩
     obtain ⟨u,z1,z2,z3⟩:=q4 j s hs
     exact ⟨u,(cell_of_heap (hoth b (by rintro rfl; rw [hp0] at z2; omega)) _).trans z1,z2,hvd z3⟩
    | some t' =>
     obtain ⟨row',hr',q2,q3,u,q4⟩:=hv
     refine ⟨row',hr',?_⟩
     show v=.pointer (some ⟨gs.ρ t',eIx (bif t'==tok then D.l [[.l (rows.set i nr),gd (x.rows.getD 0 []) 1]] else x)*row'.length+off',none⟩)∧eIx (bif t'==tok then D.l [[.l (rows.set i nr),gd (x.rows.getD 0 []) 1]] else x)<(eRows (bif t'==tok then D.l [[.l (rows.set i nr),gd (x.rows.getD 0 []) 1]] else x)).length∧∃ u,OwnV P _ gs base t' true e' row' (eRows (bif t'==tok then D.l [[.l (rows.set i nr),gd (x.rows.getD 0 []) 1]] else x)) u
     by_cases ht:t'=tok
     ·subst ht
      rw [show (t'==t')=true from by simp,cond_true]
      obtain ⟨z1,z2⟩:=hownt hr' q4
      exact ⟨q2,by show eIx x<(rows.set i nr).length; rw [← z1]; exact q3,u,z2⟩
     ·rw [show (t'==tok)=false from by simpa using ht,cond_false]
      exact ⟨q2,q3,u,hownu ht q4⟩
   | inn t' e' off' ei' =>
    show VC P _ gs base (bif t'==tok then .any else .inn t' e' off' ei') x v
    by_cases ht:t'=tok
    ·rw [show (t'==tok)=true from by simpa using ht]; trivial
    ·rw [show (t'==tok)=false from by simpa using ht,cond_false]
     exact inn_mono hv rfl (fun o h5' h6'=>(hoth _ (by intro e; rw [e,h5] at h5'; injection h5' with h5'; injection h5' with h5'; exact ht h5'.symm)).trans h6') (fun hu=>hownu ht hu)
   | cptr cells off'=>exact hcptr hv
   | fn f caps =>
    obtain ⟨arr',q1,q2,q3⟩:=hv
    refine ⟨arr',q1,q2,fun j c hc=>?_⟩
    obtain ⟨u,hu,hcap⟩:=q3 j c hc
    refine ⟨u,hu,?_⟩
    cases c with
    | d s=>exact hvd hcap
    | ptr id off=>exact hcap
    | cptr cells off=>exact hcptr hcap
  have hvcs:∀ {cs:List Ce} {ds:List D} {arr':Array Value},VCs P w gs base cs ds arr'→VCs P (w.setRow (gs.ρ tok) (over arr (i*row.length+off) vs)) gs base (cs.map (innC (· == tok))) (setDs tok (rows.set i nr) cs ds) arr':=by
   intro cs ds arr' h
   refine ⟨by rw [List.length_map]; exact h.1,fun j c hj=>?_⟩
   obtain ⟨c0,hj0,rfl⟩:=map_get hj
   obtain ⟨u,q1,q2⟩:=h.2 j c0 hj0
   exact ⟨u,q1,by rw [setDs_get _ _ _ _ j c0 hj0]; exact hkc c0 _ _ q2⟩
  have hvt:∀ {q:T} {v:Value},VT P w gs base q v→VT P (w.setRow (gs.ρ tok) (over arr (i*row.length+off) vs)) gs base (setT tok (rows.set i nr) q) v:=by
   intro q v hv
   obtain ⟨sh,pq⟩:=q
   cases sh with
   | tup xs=>trivial
   | one xx=>cases xx with
    | c xx =>
     show VC P _ gs base (innC (· == tok) xx) (gd (setDs tok (rows.set i nr) [xx] pq) 0) v
     rw [setDs_get _ _ _ _ 0 xx rfl]
     exact hkc xx _ _ hv
    | agg xs =>
     obtain ⟨arr',rfl,hh⟩:=hv
     exact ⟨arr',rfl,hvcs hh⟩
  have hrel:Rel P (w.setRow (gs.ρ tok) (over arr (i*row.length+off) vs)) gs base (σs.setRows tok (rows.set i nr)) a:=by
   refine ⟨fun j=>?_,fun id cs1 ds1 hq=>?_,by rw [hsz]; exact hr.fresh,by rw [hsz]; exact hr.base_le,hr.defers,hr.lowIn (fun b hb=>hoth b (hr.oldNe hb h5)) (Nat.le_of_eq hsz.symm) (fun b t' arr1 e1 _ ho' hbr hb1 _=>by
    by_cases hbt:b=gs.ρ tok
    ·subst hbt
     rw [h6] at hb1
     injection hb1 with hb1
     injection hb1 with hb1
     subst hb1
     rename_i hE9 _ _
     exact ⟨_,by rw [hself,hE9],over_size _ _ _ hfl⟩
    ·exact ⟨arr1,(hoth b hbt).trans hb1,rfl⟩),hr.mine⟩
   ·have e1:=look2_map (setT tok (rows.set i nr)) rfl σs.e j σs.r
    show VT P _ gs base (look2 j (σs.e.map _) (σs.r.map _)) _
    rw [e1]
    exact hvt (hr.env j)
   ·have e1:=hlook_map3 (List.map (innC (· == tok))) (setDs tok (rows.set i nr)) σs.h id
    change hlook id (σs.setRows tok (rows.set i nr)).h=_ at e1
    rw [hq] at e1
    cases hq2:hlook id σs.h with
    | none=>rw [hq2] at e1; cases e1
    | some q =>
     obtain ⟨cs0,ds0⟩:=q
     rw [hq2] at e1
     injection e1 with e1
     injection e1 with e2 e3
     subst e2; subst e3
     obtain ⟨j1,j2,j3,jl,arr',E',j4,j5⟩:=hr.box id _ _ hq2
     exact ⟨j1,j2,j3,by rw [setDs_length,List.length_map],arr',E',by rw [hoth _ (by intro e'; rw [e',h5] at j2; injection j2 with j2; cases j2)]; exact j4,hvcs j5⟩
  refine ⟨undef,_,gs,.inr ⟨?_,rfl⟩,hrel.put hd (t:=.none_) ⟨#[],rfl,rfl,fun j x h=>by simp at h⟩,⟨rfl,rfl,rfl,by rw [hsz]; exact Nat.le_refl _,fun k hk'=>hoth k (by omega)⟩,fun B hB=>⟨rfl,rfl,rfl,by rw [hsz]; exact Nat.le_refl _,fun k hk'=>hoth k (by have:=hB _ _ hpe; omega)⟩⟩
  simp only [execOp,ho,hpe,Sem.run_bind,hrun,Result.andThen_ok,Sem.run_pure]
theorem evStore_row (hr0:Rel P w g base σ a) {o:Oper} {t n off:Nat} {e:TypeId} {x p:Operand} {cs:List Ce} {ds:List D} {pp:List D} {tok:Tok} {row ss:List S} (ho:o.op=.store t p x) (hd:∀ d,o.dst=some d→d<a.tmps.size) (hn:tSize P t=some n)
  (hc:(opdT P σ t x).cells=some (cs,ds)) (hl:cs.length=n) (hp:(opd σ p)=⟨.one (.c (.eptr (some tok) e off)),pp⟩) (hrow:rowOf P e=some row) (hss:allS cs=some ss) (hfit:(row.drop off).take n=ss) (htok:(toks cs).contains tok=false) (hn1:1≤n) (hofs:off+n≤row.length) (hdp:(!deepT tok||(cs.all (deepOk P)&&nodupB (toks cs)&&(tok.1 != 1000001||(toks cs).isEmpty)))=true) :
  DoesS P base (St.put ((bif deepT tok then dropTs (toks cs) σ else σ.seal (toks cs)).setRows tok ((eRows (gd pp 0)).set (eIx (gd pp 0)) (setSub (sub ((eRows (gd pp 0)).getD (eIx (gd pp 0)) []) 0 row.length) off (toDs cs ds)))) o.dst .none_) o p a w:=by
 have hpv:=opd_ok hr0 p
 rw [hp] at hpv
 obtain ⟨hx,hany⟩:=cells_ok hc (opdT_ok hr0 t x)
 obtain ⟨row',hrow',hpe,hix,u0,hown0⟩:=hpv
 rw [hrow] at hrow'; injection hrow' with hrow'; subst hrow'
 cases hdt:deepT tok with
 | false =>
  rw [cond_false]
  have hrow1:=row_ok (ts:=toks cs) hx hss (fun t h=>List.contains_iff_mem.2 h)
  have hr:=hr0.seal (toks cs)
  have hown:=seal_own (ts:=toks cs) hown0
  rw [htok] at hown
  simp only [Bool.not_false,Bool.and_self] at hown
  exact evStore_core hr ho hd hn hx.1 (vcs_oneCell hx hany) hl hpe hix hown hrow (fun k s hs=>by
   obtain ⟨u,q1,q2⟩:=hrow1.2 k s hs
   exact ⟨u,q1,.of_vd q2 (.inl (by rw [hdt]; rfl))⟩) hfit hn1 hofs
 | true =>
  rw [cond_true]
  rw [hdt] at hdp
  simp only [Bool.not_true,Bool.false_or,Bool.and_eq_true] at hdp
  have htop:g.owner (g.ρ tok)=some (.inr tok):=by
   rcases hown0 with ⟨h0,_⟩ | ⟨cap,arr,E,h1,h2,h3,h4,h5,rest⟩
   ·change eIx (gd pp 0)<(eRows (gd pp 0)).length at hix
    rw [h0] at hix; simp at hix
   ·exact h5
  obtain ⟨gs,r1,⟨e1,e2,e3,e4,e5,e6⟩,r2,r3,r4,r5⟩:=moveCells_ok (s:=tok) (i:=eIx (gd pp 0)) (cs:=cs) (ds:=ds) (us:=(a.eval x).cells.toList) (j0:=off) hr0 (fun k c hk=>by
   obtain ⟨u,q1,q2⟩:=hx.2 k c hk
   exact ⟨u,by simpa using q1,q2⟩) hdp.1.1 hdp.1.2 htok (by
    have h9:=hdp.2
    rw [Bool.or_eq_true] at h9
    rcases h9 with h9 | h9
    ·exact .inr (by simpa using h9)
    ·exact .inl (by simpa using h9)) (fun b t ht ho' e=>by rw [e,htop] at ho'; injection ho' with ho'; injection ho' with ho'; exact ht ho'.symm)
  refine evStore_core r1 ho hd hn hx.1 (vcs_oneCell hx hany) hl (by rw [e1]; exact hpe) hix (r4 htok hrow hown0) hrow (fun k s hs=>?_) hfit hn1 hofs
  obtain ⟨hq1,hq2⟩:=allS_get hss
  obtain ⟨c,hc1,hc2⟩:=hq2 k s hs
  obtain ⟨u,q1,q2⟩:=r5 k c s hc1 hc2
  exact ⟨u,by simpa using q1,.of_tr q2 hdt⟩
theorem evStore_okS (hr:Rel P w g base σ a) {o:Oper} {σ':St} {t:TypeId} {p x:Operand} (ho:o.op=.store t p x) (hd:∀ d,o.dst=some d→d<a.tmps.size) (h:evStore P σ o.dst t p x=some (σ',true)):DoesS P base σ' o p a w:=by
 unfold evStore at h
 split at h
 ·rename_i n cs ds hn hc
  cases hl:(cs.length==n) with
  | false=>rw [hl] at h; cases h
  | true =>
   rw [hl,cond_true] at h
   have hl:cs.length=n:=by simpa using hl
   split at h
   ·rename_i id off hsh
    split at h
    ·rename_i cs' ds' hb
     cases hle:Nat.ble (off+n) cs'.length with
     | false=>rw [hle] at h; cases h
     | true =>
      rw [hle] at h
      simp only [cond_true,Option.some.injEq,Prod.mk.injEq,and_true] at h
      subst h
      exact evStore_ptr hr ho hd hn hc hl (pp:=(opd σ p).p) (by rw [← hsh]) hb (Nat.le_of_ble_eq_true hle)
    ·cases h
   ·rename_i tok e off hsh
    split at h
    ·rename_i row ss hrow hss
     cases hq:((row.drop off).take n==ss && !(toks cs).contains tok&&Nat.ble 1 n&&Nat.ble (off+n) row.length&&(!deepT tok||(cs.all (deepOk P)&&nodupB (toks cs)&&(tok.1 != 1000001||(toks cs).isEmpty)))) with
     | false=>rw [hq] at h; cases h
     | true =>
      rw [hq] at h
      simp only [cond_true,Option.some.injEq,Prod.mk.injEq,and_true] at h
      subst h
      rw [Bool.and_eq_true] at hq
      obtain ⟨hq,q5⟩:=hq
      simp only [Bool.and_eq_true,beq_iff_eq,Bool.not_eq_true'] at hq
      obtain ⟨⟨⟨q1,q2⟩,q3⟩,q4⟩:=hq
      exact evStore_row hr ho hd hn hc hl (pp:=(opd σ p).p) (by rw [← hsh]) hrow hss q1 q2 (Nat.le_of_ble_eq_true q3) (Nat.le_of_ble_eq_true q4) q5
    ·cases h
   ·cases h
 ·cases h
theorem evStore_ok (hr:Rel P w g base σ a) {o:Oper} {σ':St} {t:TypeId} {p x:Operand} (ho:o.op=.store t p x) (hd:∀ d,o.dst=some d→d<a.tmps.size) (h:evStore P σ o.dst t p x=some (σ',true)):Does P base σ' o a w:=(evStore_okS hr ho hd h).does
theorem evBuildSliceD_ok (hr:Rel P w g base σ a) {o:Oper} {σ':St} {d n:Nat} {t:TypeId} {parts:Array (Nat × Operand)} (ho:o.op=.buildSlice t n parts) (hdst:o.dst=some d) (hd:∀ d,o.dst=some d→d<a.tmps.size)
  (h:evBuildSliceD P σ d t n parts.toList=some (σ',true)):DoesC P base σ' o a w:=by
 unfold evBuildSliceD at h
 split at h
 ·rename_i e he hps
  split at h
  ·rename_i row hrow
   cases hq:(n==0&&zeroOk P e row) with
   | false=>rw [hq] at h; cases h
   | true =>
    rw [hq] at h
    simp only [cond_true,Option.some.injEq,Prod.mk.injEq,and_true] at h
    subst h
    simp only [Bool.and_eq_true,beq_iff_eq] at hq
    obtain ⟨rfl,hz⟩:=hq
    have hsz:=rowOf_size hrow
    have hp0:parts = #[]:=by cases parts; simp_all
    subst hp0
    have hE:=ext_row (g:=g) (w:=w) (d,1000000) e 0 row.length 0 (.cells #[] e)
    have r1:Rel P (w.alloc (.cells #[] e)) (newRowG g (d,1000000) e w.heap.size 0 row.length 0) base (σ.wipe d) a:=hr.wipeRow (hd d hdst) hE rfl (fresh_row hr _ _ _ _ _ _)
    have o3:(newRowG g (d,1000000) e w.heap.size 0 row.length 0).len (d,1000000)=0:=if_pos rfl
    have hval:VT P (w.alloc (.cells #[] e)) (newRowG g (d,1000000) e w.heap.size 0 row.length 0) base (.c (.own (d,1000000) true e) (.l [])) (.slice (some ⟨w.heap.size,0,none⟩) 0 0):=⟨row,hrow,.inl ⟨rfl,o3,_,rfl⟩⟩
    refine ⟨.slice (some ⟨w.heap.size,0,none⟩) 0 0,_,_,.inl ?_,r1.put hd (t:=.c (.own (d,1000000) true e) (.l [])) hval |> fun h=>by rw [hdst] at h ⊢; exact h,(Below.refl _ _).alloc hr.base_le _,(Below.refl _ _).alloc (Nat.le_refl _) _⟩
    simp only [execOp,ho,Instr.buildSlice,Sem.run_bind,run_underlying (tElem_und he),run_size hsz,Result.andThen_ok]
    rw [if_neg (by omega)]
    simp [Instr.fill,run_newRow,Sem.run_bind,Sem.run_pure,Result.andThen_ok]
    congr 2
    exact Array.eq_empty_of_size_eq_zero (by simp)
  ·cases h
 ·rename_i e i x he hps
  split at h
  ·rename_i row cs ds hrow hc
   cases hq:(n==1&&i==0&&allS cs==some row&&Nat.ble row.length 16777216&&zeroOk P e row&&cs.all (deepOk P)&&nodupB (toks cs) && !(toks cs).contains (d,1000000)) with
   | false=>rw [hq] at h; cases h
   | true =>
    rw [hq] at h
    simp only [cond_true,Option.some.injEq,Prod.mk.injEq,and_true] at h
    subst h
    simp only [Bool.and_eq_true,beq_iff_eq,Bool.not_eq_true'] at hq
    obtain ⟨⟨⟨⟨⟨⟨⟨rfl,rfl⟩,hS⟩,hbl⟩,hz⟩,hdo⟩,hnd⟩,hct⟩:=hq
    have hbl:=Nat.le_of_ble_eq_true hbl
    obtain ⟨ti,v0,hi,hv0,hm⟩:=zeroOk_ok hz
    have hpos:=rowOf_pos hrow
    have hsz:=rowOf_size hrow
    have hti:ti.size=row.length:=by
     have:=hsz
     unfold tSize at this
     rw [hi] at this
     injection this
    have hE:=ext_row (g:=g) (w:=w) (d,1000000) e 1 row.length 0 (.cells (a.eval x).cells e)
    have r1:Rel P (w.alloc (.cells (a.eval x).cells e)) (newRowG g (d,1000000) e w.heap.size 1 row.length 0) base (σ.wipe d) a:=hr.wipeRow (hd d hdst) hE rfl (fresh_row hr _ _ _ _ _ _)
    obtain ⟨hx,hany⟩:=cells_ok hc (opd_ok r1 x)
    obtain ⟨hq1,hq2⟩:=allS_get hS
    have harr:(a.eval x).cells.size=row.length:=by rw [hx.1]; exact hq1.symm
    have o1:(newRowG g (d,1000000) e w.heap.size 1 row.length 0).owner w.heap.size=some (.inr (d,1000000)):=if_pos rfl
    have o2:(newRowG g (d,1000000) e w.heap.size 1 row.length 0).ρ (d,1000000)=w.heap.size:=if_pos rfl
    have o3:(newRowG g (d,1000000) e w.heap.size 1 row.length 0).len (d,1000000)=1:=if_pos rfl
    have o4:(newRowG g (d,1000000) e w.heap.size 1 row.length 0).wid (d,1000000)=row.length:=if_pos rfl
    have o5:(newRowG g (d,1000000) e w.heap.size 1 row.length 0).prot w.heap.size=0:=if_pos rfl
    have o6:(newRowG g (d,1000000) e w.heap.size 1 row.length 0).ety (d,1000000)=e:=if_pos rfl
    obtain ⟨gs,r2,⟨e1,e2,e3,e4,e5,e6⟩,r3,r4,r5,r6⟩:=moveCells_ok (s:=(d,1000000)) (i:=0) (cs:=cs) (ds:=ds) (us:=(a.eval x).cells.toList) (j0:=0) r1 (fun k c hk=>by
     obtain ⟨u,q1,q2⟩:=hx.2 k c hk
     exact ⟨u,by simpa using q1,q2⟩) hdo hnd hct (.inr (Nat.ne_of_lt (Nat.lt_of_lt_of_le (hd d hdst) (Nat.le_trans hr.defers.2 (by decide))))) (fun b t ht ho' e'=>by
     rw [o2] at e'
     subst e'
     rw [o1] at ho'
     injection ho' with ho'
     injection ho' with ho'
     exact ht ho'.symm)
    have hval:VT P (w.alloc (.cells (a.eval x).cells e)) gs base (.c (.own (d,1000000) true e) (.l [toDs cs ds])) (.slice (some ⟨w.heap.size,0,none⟩) 1 1):=by
     refine ⟨row,hrow,.inr ⟨1,(a.eval x).cells,e,by rw [e1,o2]; rfl,Nat.le_refl _,⟨by decide,rfl,by rw [e4,o6]⟩,by rw [e1,o2]; exact hr.base_le,by rw [e1,o2]; exact r3.2 _ o1,by rw [e1,o2]; exact heap_new w _,by rw [harr,Nat.one_mul],by rw [e2,o3]; rfl,by rw [e3,o4],by rw [e1,o2,e6,o5]; rfl,fun i j s hi hs=>?_⟩⟩
     have hi:i<1:=hi
     have hi:i=0:=by omega
     subst hi
     obtain ⟨c,hc1,hc2⟩:=hq2 j s hs
     obtain ⟨u,q1,q2⟩:=r6 j c s hc1 hc2
     refine ⟨u,by rw [Nat.zero_mul,Nat.zero_add]; simpa using q1,.of_tr ?_ rfl⟩
     rw [Nat.zero_add] at q2
     exact q2
    have hfill:Instr.fill (fun i=>some (i*row.length,row.length)) ((Array.range (1*row.length)).map ((if 1*row.length=0 then #[] else v0.cells)[· % (if 1*row.length=0 then #[] else v0.cells).size]!)) (parts.map fun p=>(p.1,a.eval p.2)).toList=some (a.eval x).cells:=by
     rw [Array.toList_map,hps]
     have:=Great.fill_whole hpos [a.eval x] ((Array.range (1*row.length)).map ((if 1*row.length=0 then #[] else v0.cells)[· % (if 1*row.length=0 then #[] else v0.cells).size]!)) (fun v hv=>by simp only [List.mem_singleton] at hv; subst hv; exact harr) (by simp)
     simpa using this
    refine ⟨.slice (some ⟨w.heap.size,0,none⟩) 1 1,_,gs,.inl ?_,r2.put hd (t:=.c (.own (d,1000000) true e) (.l [toDs cs ds])) hval |> fun h=>by rw [hdst] at h ⊢; exact h,(Below.refl _ _).alloc hr.base_le _,(Below.refl _ _).alloc (Nat.le_refl _) _⟩
    simp only [execOp,ho,Instr.buildSlice,Sem.run_bind,run_underlying (tElem_und he),run_size hsz,Result.andThen_ok]
    rw [if_neg (by omega)]
    have h0:¬ 1*row.length=0:=by omega
    simp only [if_neg h0] at hfill ⊢
    simp only [Sem.run_bind,run_zero hi hv0,Sem.run_pure,Result.andThen_ok]
    rw [hfill]
    simp only [Sem.run_bind,run_newRow,Result.andThen_ok,Sem.run_pure]
  ·cases h
 ·cases h
end
end Go.Proofs.YthbbbhpjkgpdcaaGreat
