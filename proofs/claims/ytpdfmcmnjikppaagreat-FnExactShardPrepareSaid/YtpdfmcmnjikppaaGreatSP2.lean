/-
 Texts of the proof,put together: part 2.
-/
import Derived.Test.YtpdfmcmnjikppaaGreatSP1
set_option linter.unusedSimpArgs false
set_option linter.unusedVariables false
set_option linter.unusedSectionVars false
namespace Go.Proofs.YtpdfmcmnjikppaaGreat
open Go.RowKit
section
variable [Low] {P:Program} {w w':World} {g g':G} {base:Nat} {σ:St} {a:Act}
def moveG (g:G) (t s:Tok) (f:List (Nat × Nat)→List (Nat × Nat)) (top:Option (List (Nat × Nat))):G:=
 { g with owner:=fun b=>if g.owner b=some (.inr t) then (if b=g.ρ t then (if top.isSome=true then some (.inr s) else some (.inr t)) else some (.inr s)) else g.owner b,path:=fun b=>if g.owner b=some (.inr t) then (if b=g.ρ t then top.getD [] else f (g.path b)) else g.path b,need:=fun b=>if g.owner b=some (.inr t)∧b=g.ρ t then g.len t*g.wid t else g.need b }
theorem unpin {t t':Tok} (ht:t.1≠1000001) (h:t'.1=1000001):t'≠t:=fun e=>ht (by rw [← e]; exact h)
theorem move_else {t s:Tok} {f:List (Nat × Nat)→List (Nat × Nat)} {top:Option (List (Nat × Nat))} {b:Nat} (h:g.owner b≠some (.inr t)):(moveG g t s f top).owner b=g.owner b∧(moveG g t s f top).path b=g.path b∧(moveG g t s f top).need b=g.need b:=
 ⟨if_neg h,if_neg h,if_neg (fun e=>h e.1)⟩
theorem move_kept (hr:Rel P w g base σ a) {t s:Tok} (hpt:t.1≠1000001) (hps:s.1≠1000001) {f:List (Nat × Nat)→List (Nat × Nat)} {top:Option (List (Nat × Nat))}:Kept P base g (moveG g t s f top) w w (dropC t)∧Rel P w (moveG g t s f top) base (σ.map (dropC t)) a:=by
 have hne:∀ {b:Nat} {t':Tok},t'≠t→g.owner b=some (.inr t')→g.owner b≠some (.inr t):=fun ht ho e=>by
  rw [ho] at e; injection e with e; injection e with e; exact ht e
 have hk:Kept P base g (moveG g t s f top) w w (dropC t):=
  kept_drop (fun b o u h1 h2=>⟨h2,h1⟩) (fun b t' ht' ho _=>⟨rfl,(move_else (hne ht' ho)).1,rfl⟩) (fun _ _=>⟨rfl,rfl,rfl,rfl⟩) rfl (fun _ _=>rfl) (fun b t' ht' ho _=>(move_else (hne ht' ho)).2)
 refine ⟨hk,hr.drop hk rfl (fun b id ho _=>⟨rfl,(move_else (by rw [ho]; simp)).1,rfl⟩) (fun b hb=>?_) (Nat.le_refl _) (fun b hb=>⟨(move_else (by rw [(hr.low.2.1 b hb).1]; simp)).1,rfl,rfl⟩) rfl (fun t' ht'=>⟨rfl,rfl,fun b ho _=>⟨(move_else (hne (unpin hpt ht') ho)).1.trans ho,rfl⟩⟩) (fun b t' ht' ho=>?_)⟩
 rotate_right
 ·by_cases hot:g.owner b=some (.inr t)
  ·exfalso
   change (if g.owner b=some (.inr t) then _ else _)=_ at ho
   rw [if_pos hot] at ho
   have hs:t'=t∨t'=s:=by
    split at ho
    ·split at ho
     ·injection ho with ho; injection ho with ho; exact .inr ho.symm
     ·injection ho with ho; injection ho with ho; exact .inl ho.symm
    ·injection ho with ho; injection ho with ho; exact .inr ho.symm
   rcases hs with rfl | rfl
   ·exact hpt ht'
   ·exact hps ht'
  ·obtain ⟨z1,z2,z3⟩:=move_else (s:=s) (f:=f) (top:=top) hot
   exact ⟨z1.symm.trans ho,z2,z3⟩
 have:=hr.fresh b hb
 exact ⟨this.1,by rw [(move_else (by rw [this.2]; simp)).1]; exact this.2⟩
theorem drop_swap (t t':Tok) (σ:St):((σ.map (dropC t)).map (dropC t')).map (dropC t)=(σ.map (dropC t')).map (dropC t):=by
 have hc:∀ c,dropC t (dropC t' (dropC t c))=dropC t (dropC t' c):=by
  intro c
  cases c with
  | own t1 x e=>cases x <;> cases h:(t1==t) <;> cases h':(t1==t') <;> simp [dropC,h,h']
  | eptr tk e off=>cases tk with
   | none=>rfl
   | some t1=>cases h:(t1==t) <;> cases h':(t1==t') <;> simp [dropC,h,h']
  | inn t1 e off ei=>cases h:(t1==t) <;> cases h':(t1==t') <;> simp [dropC,h,h']
  | _=>rfl
 have h1:∀ x:Sh1,((x.map (dropC t)).map (dropC t')).map (dropC t)=(x.map (dropC t')).map (dropC t):=by
  intro x
  cases x with
  | c x=>simp [Sh1.map,hc]
  | agg xs=>simp only [Sh1.map,List.map_map]; congr 1; exact List.map_congr_left fun c _=>hc c
 have h2:∀ x:Sh,((x.map (dropC t)).map (dropC t')).map (dropC t)=(x.map (dropC t')).map (dropC t):=by
  intro x
  cases x with
  | one x=>simp only [Sh.map,h1]
  | tup xs=>simp only [Sh.map,List.map_map]; congr 1; exact List.map_congr_left fun c _=>h1 c
 simp only [St.map,List.map_map]
 congr 1
 ·exact List.map_congr_left fun p _=>by simp only [Function.comp,h2]
 ·exact List.map_congr_left fun p _=>by simp only [Function.comp,h2]
 ·exact List.map_congr_left fun p _=>by
   simp only [Function.comp,List.map_map]
   congr 2
   exact List.map_congr_left fun c _=>hc c
theorem rho_drop (hr:Rel P w g base σ a) (t:Tok) (ht:t.1≠1000001) (nb:Nat):Rel P w { g with ρ:=fun u=>if u=t then nb else g.ρ u } base (σ.map (dropC t)) a:=
 hr.drop (kept_drop (fun b o u h1 h2=>⟨h2,h1⟩) (fun b t' _ _ _=>⟨rfl,rfl,rfl⟩) (fun t' ht'=>⟨if_neg ht',rfl,rfl,rfl⟩) rfl (fun _ _=>rfl)) rfl (fun _ _ _ _=>⟨rfl,rfl,rfl⟩) hr.fresh (Nat.le_refl _) (fun _ _=>⟨rfl,rfl,rfl⟩) rfl (fun t' ht'=>⟨if_neg (unpin ht ht'),rfl,fun b ho _=>⟨ho,rfl⟩⟩) (fun _ _ _ ho=>⟨ho,rfl,rfl⟩)
theorem move_own (hr:Rel P w g base σ a) {t s t':Tok} (hpt:t.1≠1000001) (hps:s.1≠1000001) {f:List (Nat × Nat)→List (Nat × Nat)} {top:Option (List (Nat × Nat))} (ht:t'≠t) {xm:Bool} {e:TypeId} {row:List S} {rows:List (List D)} {v:Value} (hrow:rowOf P e=some row) (h:OwnV P w g base t' xm e row rows v):OwnV P w (moveG g t s f top) base t' xm e row rows v:=by
 have:=(move_kept (s:=s) (f:=f) (top:=top) (t:=t) hr hpt hps).1 (.own t' xm e) (.l rows) v ⟨row,hrow,h⟩
 change VC P w _ base (bif t'==t then (bif xm then .any else .d (.sl e)) else .own t' xm e) _ _ at this
 rw [show (t'==t)=false from by simpa using ht,cond_false] at this
 obtain ⟨row',h1,h2⟩:=this
 rw [hrow] at h1; injection h1 with h1; subst h1
 exact h2
theorem move_tr {t s:Tok} {f:List (Nat × Nat)→List (Nat × Nat)} {top:Option (List (Nat × Nat))} (hts:s≠t) {π:List (Nat × Nat)} (hπ:π ≠ []) {s':S} {x:D} {v:Value} (h:TR P w (labOf base g s) π s' x v):TR P w (labOf base (moveG g t s f top) s) π s' x v:=
 TR.mono (fun π=>π) (fun _ _ _=>rfl) h (fun b π n o _ hl ho=>⟨ho,by
  obtain ⟨l0,l1,l2,l3,l4,l5⟩:=hl
  have:=move_else (g:=g) (t:=t) (s:=s) (f:=f) (top:=top) (b:=b) (by rw [l1]; intro e; injection e with e; injection e with e; exact hts e)
  exact ⟨l0,this.1.trans l1,l2,this.2.1.trans l3,this.2.2.trans l4,l5⟩⟩) hπ
theorem move_top {t s:Tok} {π:List (Nat × Nat)} {e:TypeId} {row:List S} {x:D} {v:Value} (hrow:rowOf P e=some row) (h:OwnV P w g base t true e row x.rows v) (hd:deepT t=true∨row.all S.flat=true) (hs:∀ b,g.owner b=some (.inr t)→b≠g.ρ s) :
  TR P w (labOf base (moveG g t s (fun q=>π++q) (some π)) s) π (.sl e) x v:=by
 rcases h with ⟨h0,_,A,rfl⟩ | ⟨cap,arr,E,rfl,h2,⟨h3,rfl,h3'⟩,h4,h5,h6,h7,h8,h9,h10,h11⟩
 ·exact .nil _ _ _ _ (by rw [hrow]; rfl) h0
 ·refine .sl _ E x _ cap row arr (fun i j=>arr[i*row.length+j]?.getD undef) hrow h2 h3 ⟨h4,?_,hs _ h5,?_,?_,?_⟩ h6 h7 (fun i j hi hj=>?_) (fun i j s' hi hs'=>?_)
  ·show (if g.owner (g.ρ t)=some (.inr t) then _ else _)=_
   rw [if_pos h5,if_pos rfl]; rfl
  ·show (if g.owner (g.ρ t)=some (.inr t) then _ else _)=_
   rw [if_pos h5,if_pos rfl]; rfl
  ·show (if g.owner (g.ρ t)=some (.inr t)∧g.ρ t=g.ρ t then _ else _)=_
   rw [if_pos ⟨h5,rfl⟩,h8,h9]
  ·rw [show (moveG g t s (fun q=>π++q) (some π)).prot=g.prot from rfl,h10]; rfl
  ·obtain ⟨u,k1,_⟩:=h11 i j _ hi (List.getElem?_eq_getElem hj)
   rw [k1]; rfl
  ·obtain ⟨u,k1,k2⟩:=h11 i j s' hi hs'
   simp only [k1]
   change TR P w _ _ s' _ u
   cases hdt:deepT t with
   | true =>
    refine TR.mono (fun q=>π++q) (fun q x _=>(List.append_assoc _ _ _).symm) (k2.tr hdt) (fun b q n o _ hl ho=>⟨ho,?_⟩) (by simp)
    obtain ⟨l0,l1,l2,l3,l4,l5⟩:=hl
    refine ⟨l0,?_,hs _ l1,?_,?_,l5⟩
    ·show (if g.owner b=some (.inr t) then _ else _)=_
     rw [if_pos l1,if_neg l2]
    ·show (if g.owner b=some (.inr t) then _ else _)=_
     rw [if_pos l1,if_neg l2,l3]
    ·show (if g.owner b=some (.inr t)∧b=g.ρ t then _ else _)=_
     rw [if_neg (fun e=>l2 e.2)]; exact l4
   | false =>
    rcases hd with hd | hd
    ·rw [hdt] at hd; cases hd
    ·exact TR.of_flat (k2.vd hdt) (List.all_eq_true.1 hd s' (List.mem_of_getElem? hs'))
theorem moveCells_ok {s:Tok} {i:Nat}:∀ {cs:List Ce} {ds:List D} {us:List Value} {j0:Nat} {g:G} {σ:St},Rel P w g base σ a→(∀ (k:Nat) c,cs[k]?=some c→∃ u,us[k]?=some u∧VC P w g base c (gd ds k) u)→cs.all (deepOk P)=true→nodupB (toks cs)=true→(toks cs).contains s=false→(toks cs = []∨s.1≠1000001) →
  (∀ b t,t≠s→g.owner b=some (.inr t)→b≠g.ρ s)→∃ g',Rel P w g' base (dropTs (toks cs) σ) a∧(g'.ρ=g.ρ∧g'.len=g.len∧g'.wid=g.wid∧g'.ety=g.ety∧g'.θ=g.θ∧g'.prot=g.prot) ∧
   ((∀ b t,t≠s→g'.owner b=some (.inr t)→b≠g'.ρ s)∧∀ b,g.owner b=some (.inr s)→g'.owner b=some (.inr s)) ∧
   (∀ {π:List (Nat × Nat)} {s':S} {x:D} {v:Value},π ≠ []→TR P w (labOf base g s) π s' x v→TR P w (labOf base g' s) π s' x v) ∧
   (∀ {t:Tok} {xm:Bool} {e:TypeId} {row:List S} {rows:List (List D)} {v:Value},(toks cs).contains t=false→rowOf P e=some row→OwnV P w g base t xm e row rows v→OwnV P w g' base t xm e row rows v) ∧
   ∀ (k:Nat) c s',cs[k]?=some c→c.toS=some s'→∃ u,us[k]?=some u∧TR P w (labOf base g' s) [(i,j0+k)] s' (gd (toDs cs ds) k) u
 | [],ds,us,j0,g,σ,hr,hv,hd,hn,hs,hps,hρ=>⟨g,hr,⟨rfl,rfl,rfl,rfl,rfl,rfl⟩,⟨hρ,fun _ h=>h⟩,fun _ h=>h,fun _ _ h=>h,fun k c s' h=>by simp at h⟩
 | c0::cs,ds,us,j0,g,σ,hr,hv,hd,hn,hs,hps,hρ=>by
  simp only [List.all_cons,Bool.and_eq_true] at hd
  obtain ⟨u0,hu0,hv0⟩:=hv 0 c0 rfl
  have hus:∀ k,us[k+1]?=us.tail[k]?:=fun k=>by cases us <;> simp
  have plain:toks (c0::cs)=toks cs→(∀ s',c0.toS=some s'→∃ u,us[0]?=some u∧∀ g':G,TR P w (labOf base g' s) [(i,j0)] s' (c0.toD (gd ds 0)) u)→∃ g',Rel P w g' base (dropTs (toks (c0::cs)) σ) a∧(g'.ρ=g.ρ∧g'.len=g.len∧g'.wid=g.wid∧g'.ety=g.ety∧g'.θ=g.θ∧g'.prot=g.prot) ∧
   ((∀ b t,t≠s→g'.owner b=some (.inr t)→b≠g'.ρ s)∧∀ b,g.owner b=some (.inr s)→g'.owner b=some (.inr s)) ∧
   (∀ {π:List (Nat × Nat)} {s':S} {x:D} {v:Value},π ≠ []→TR P w (labOf base g s) π s' x v→TR P w (labOf base g' s) π s' x v) ∧
   (∀ {t:Tok} {xm:Bool} {e:TypeId} {row:List S} {rows:List (List D)} {v:Value},(toks (c0::cs)).contains t=false→rowOf P e=some row→OwnV P w g base t xm e row rows v→OwnV P w g' base t xm e row rows v) ∧
   ∀ (k:Nat) c s',(c0::cs)[k]?=some c→c.toS=some s'→∃ u,us[k]?=some u∧TR P w (labOf base g' s) [(i,j0+k)] s' (gd (toDs (c0::cs) ds) k) u:=by
   intro ht h0
   rw [ht] at hn hs hps ⊢
   obtain ⟨g',k1,k2,k3,k4,k5,k6⟩:=moveCells_ok (i:=i) (us:=us.tail) (ds:=ds.tail) (j0:=j0+1) hr (fun k c hc=>by
    obtain ⟨u,h1,h2⟩:=hv (k+1) c (by simpa using hc)
    exact ⟨u,by rw [← hus]; exact h1,by rw [gd_tail]; exact h2⟩) hd.2 hn hs hps hρ
   refine ⟨g',k1,k2,k3,k4,k5,fun k c s' hc hcs=>?_⟩
   cases k with
   | zero =>
    simp only [List.getElem?_cons_zero,Option.some.injEq] at hc
    subst hc
    obtain ⟨u,h1,h2⟩:=h0 s' hcs
    exact ⟨u,h1,h2 g'⟩
   | succ k =>
    obtain ⟨u,h1,h2⟩:=k6 k c s' (by simpa using hc) hcs
    refine ⟨u,by rw [hus]; exact h1,?_⟩
    rw [toDs,gd_cons_succ,show j0+(k+1)=j0+1+k from by omega]
    exact h2
  cases c0 with
  | d s0 =>
   refine plain rfl fun s' hs'=>⟨u0,hu0,fun g'=>?_⟩
   simp only [Ce.toS,Option.some.injEq] at hs'
   subst hs'
   exact TR.of_flat (prot:=g.prot) hv0 (by simpa [deepOk] using hd.1)
  | kb b =>
   refine plain rfl fun s' hs'=>⟨u0,hu0,fun g'=>?_⟩
   simp only [Ce.toS,Option.some.injEq] at hs'
   subst hs'
   have hv0:u0=.bool b:=hv0
   subst hv0
   exact TR.bool _ (.b b)
  | own t xm e =>
   cases xm with
   | false=>simp [deepOk] at hd
   | true =>
    simp only [toks,nodupB,Bool.and_eq_true,Bool.not_eq_true',List.contains_cons,Bool.or_eq_false_iff] at hn hs
    have hst:s≠t:=by simpa using hs.1
    obtain ⟨row,hrow,hown⟩:=hv0
    have hdd:deepT t=true∨row.all S.flat=true:=by
     have:=hd.1
     simp only [deepOk,flatRow,hrow,Bool.or_eq_true,Bool.and_eq_true] at this
     exact this.2
    have hpt:t.1≠1000001:=by
     have:=hd.1
     simp only [deepOk,Bool.and_eq_true,bne_iff_ne,ne_eq] at this
     exact this.1
    have hps:s.1≠1000001:=by
     rcases hps with h | h
     ·simp [toks] at h
     ·exact h
    have hr1:=(move_kept (t:=t) (s:=s) (f:=fun q => [(i,j0)]++q) (top:=some [(i,j0)]) hr hpt hps).2
    obtain ⟨g',k1,k2,k3,k4,k5,k6⟩:=moveCells_ok (i:=i) (us:=us.tail) (ds:=ds.tail) (j0:=j0+1) hr1 (fun k c hc=>by
     obtain ⟨u,h1,h2⟩:=hv (k+1) c (by simpa using hc)
     refine ⟨u,by rw [← hus]; exact h1,?_⟩
     rw [gd_tail]
     have hck:=List.all_eq_true.1 hd.2 c (List.mem_of_getElem? hc)
     cases c with
     | d s1=>exact h2
     | kb b=>exact h2
     | own t1 x1 e1 =>
      obtain ⟨row1,q1,q2⟩:=h2
      refine ⟨row1,q1,move_own hr hpt hps (fun e=>?_) q1 q2⟩
      subst e
      have:=mem_toks (List.mem_of_getElem? hc)
      have h3:=List.contains_iff_mem.2 this
      rw [hn.1] at h3
      cases h3
     | _=>simp [deepOk] at hck) hd.2 hn.2 hs.2 (.inr hps) (fun b t' ht' ho=>by
      refine hρ b t' ht' ?_
      change (if g.owner b=some (.inr t) then _ else _)=_ at ho
      split at ho
      ·exfalso
       split at ho
       ·simp only [Option.isSome_some,if_true] at ho
        injection ho with ho; injection ho with ho; exact ht' ho.symm
       ·injection ho with ho; injection ho with ho; exact ht' ho.symm
      ·exact ho)
    have htop:=move_top (s:=s) (π:= [(i,j0)]) hrow hown hdd (fun b ho=>hρ b t (Ne.symm hst) ho)
    refine ⟨g',k1,k2,⟨k3.1,fun b hb=>k3.2 b (by
     show (if g.owner b=some (.inr t) then _ else _)=_
     rw [if_neg (by rw [hb]; intro e; injection e with e; injection e with e; exact hst e)]
     exact hb)⟩,fun hπ h=>k4 hπ (move_tr hst hπ h),fun {t2 xm e2 row2 rows2 v2} ht2 hr2 h=>?_,fun k c s' hc hcs=>?_⟩
    ·simp only [toks,List.contains_cons,Bool.or_eq_false_iff] at ht2
     exact k5 ht2.2 hr2 (move_own hr hpt hps (by simpa using ht2.1) hr2 h)
    ·cases k with
     | zero =>
      simp only [List.getElem?_cons_zero,Option.some.injEq] at hc
      subst hc
      simp only [Ce.toS,Option.some.injEq] at hcs
      subst hcs
      exact ⟨u0,hu0,k4 (by simp) htop⟩
     | succ k =>
      obtain ⟨u,h1,h2⟩:=k6 k c s' (by simpa using hc) hcs
      refine ⟨u,by rw [hus]; exact h1,?_⟩
      rw [toDs,gd_cons_succ,show j0+(k+1)=j0+1+k from by omega]
      exact h2
  | _=>simp [deepOk] at hd
theorem slice_cells {x:T} {tk:Option Tok} {e:TypeId} {rows:List (List D)} {v:Value} (h:x.slice=some (tk,e,rows)) (hx:VT P w g base x v) :
  ∃ A c row,v=.slice A rows.length c∧rowOf P e=some row∧∀ (i j:Nat) s,i<rows.length→row[j]?=some s→∃ b o z,A=some ⟨b,o,none⟩∧w.cell? ⟨b,o+(i*row.length+j),none⟩=some z∧(deepO tk=false→VD P w g.prot s (gd (rows.getD i []) j) z)∧(∀ t,tk=some t→CellV P base w g t true i j s (gd (rows.getD i []) j) z):=by
 obtain ⟨A,c,rfl,h1,h2,row,hr,hv⟩:=slice_ok h hx
 refine ⟨A,c,row,rfl,hr,fun i j s hi hs=>?_⟩
 cases tk with
 | none =>
  obtain ⟨b,o,z,k1,k2,_,k4⟩:=hv i j s hi hs
  exact ⟨b,o,z,k1,k2,fun _=>k4,fun t e=>by cases e⟩
 | some t =>
  rcases hv with ⟨h0,_⟩ | ⟨cap,arr,E,k1,k2,k3,k4,k5,k6,k7,k8,k9,k10,k11⟩
  ·rw [h0] at hi; simp at hi
  ·injection k1 with k1 _ _
   obtain ⟨z,j1,j2⟩:=k11 i j s hi hs
   refine ⟨_,_,z,k1,?_,fun hd=>j2.vd hd,fun t e=>by injection e with e; subst e; exact j2⟩
   simp only [World.cell?,k6,Nat.zero_add]
   exact j1
theorem run_append_zero {tt e n:Nat} {A A':Option Addr} {sLen cap c:Nat} (ht:P.underlying tt=some (.slice e)) (hn:tSize P e=some n) (hle:sLen≤cap) (ty:TypeId) :
  (Builtin.append_ #[tt,tt] ty #[.slice A sLen cap,.slice A' 0 c]).run P w=.ok (.slice A sLen cap) w:=by
 have hf:(Builtin.firstCells n 0 (.slice A' 0 c)).run P w=.ok #[] w:=by
  cases A' with
  | none=>simp [Builtin.firstCells]
  | some x=>simp [Builtin.firstCells,loadCells,loadCellsFrom]
 unfold Builtin.append_
 simp only [List.getElem?_toArray,List.getElem?_cons_zero,List.getElem?_cons_succ,Sem.run_bind,run_underlying ht,Result.andThen_ok,run_size hn,Sem.run_pure,Builtin.lenOf,Nat.add_zero]
 simp only [Bool.false_eq_true,if_false,Sem.run_bind,Sem.run_pure,Result.andThen_ok,Builtin.lenOf,Nat.add_zero,if_pos hle,Bool.not_false,if_true,hf]
 cases A with
 | none=>simp
 | some x=>simp [storeCells]
theorem append_ok (hr:Rel P w g base σ a) {tt e:TypeId} {row:List S} (ht:tElem P tt=some e) (hrow:rowOf P e=some row) (hz:zeroOk P e row=true) (hby:bytesOk P e=true) {t:Tok} {b₁:Bool} {rows rows':List (List D)} {u v:Value}
  (hx:OwnV P w g base t b₁ e row rows u) (hy:∃ A c,v=.slice A rows'.length c∧∀ (i j:Nat) s,i<rows'.length→row[j]?=some s→∃ b o z,A=some ⟨b,o,none⟩∧w.cell? ⟨b,o+(i*row.length+j),none⟩=some z∧CellV P base w g t b₁ (rows.length+i) j s (gd (rows'.getD i []) j) z)
  (hlen:(rows++rows').length≤4294967296) (ty:TypeId) (hpt:t.1≠1000001) :
  ∃ v' w' g',(Builtin.append_ #[tt,tt] ty #[u,v]).run P w=.ok v' w'∧Rel P w' g' base (σ.map (dropC t)) a∧OwnV P w' g' base t b₁ e row (rows++rows') v'∧Below base w w':=by
 generalize hbb:b₁=b at *
 obtain ⟨A,c,rfl,hy⟩:=hy
 have hsz:=rowOf_size hrow
 have hpos:=rowOf_pos hrow
 have hu:=tElem_und ht
 rw [List.length_append] at hlen
 by_cases hm:rows'.length=0
 ·have hnil:rows' = []:=List.eq_nil_of_length_eq_zero hm
  subst hnil
  have hk:Kept P base g g w w (dropC t):=kept_drop (fun b o u h1 h2=>⟨h2,h1⟩) (fun b t' _ _ _=>⟨rfl,rfl,rfl⟩) (fun _ _=>⟨rfl,rfl,rfl,rfl⟩) rfl (fun _ _=>rfl)
  have hrel:Rel P w g base (σ.map (dropC t)) a:=hr.drop hk rfl (fun _ _ _ _=>⟨rfl,rfl,rfl⟩) hr.fresh (Nat.le_refl _) (fun _ _=>⟨rfl,rfl,rfl⟩) rfl (fun _ _=>⟨rfl,rfl,fun _ ho _=>⟨ho,rfl⟩⟩) (fun _ _ _ ho=>⟨ho,rfl,rfl⟩)
  rw [List.append_nil]
  rcases hx with ⟨h0,h1,A0,rfl⟩ | ⟨cap,arr,E,rfl,h2,rest⟩
  ·exact ⟨_,w,g,run_append_zero hu hsz (Nat.le_refl _) ty,hrel,.inl ⟨h0,h1,A0,rfl⟩,Below.refl _ _⟩
  ·exact ⟨_,w,g,run_append_zero hu hsz h2 ty,hrel,.inr ⟨cap,arr,E,rfl,h2,rest⟩,Below.refl _ _⟩
 ·obtain ⟨ti,v0,hi,hv0,hmz⟩:=zeroOk_ok hz
  obtain ⟨ti',hi',hb⟩:=bytesOk_ok hby
  rw [hi] at hi'; injection hi' with hi'; subst hi'
  have hti:ti.size=row.length:=by
   have:=hsz
   unfold tSize at this
   rw [hi] at this
   injection this
  obtain ⟨hz1,_⟩:=zero_get hmz
  have hz1:v0.cells.size=row.length:=by simpa using hz1
  obtain ⟨b0,o0,_,hA,_⟩:=hy 0 0 _ (by omega) (List.getElem?_eq_getElem hpos)
  subst hA
  have hsrc:∀ (i j:Nat) s,i<rows'.length→row[j]?=some s→∃ z,w.cell? ⟨b0,o0+(i*row.length+j),none⟩=some z∧CellV P base w g t b (rows.length+i) j s (gd (rows'.getD i []) j) z:=fun i j s h1 h2=>by
   obtain ⟨b,o,z,k1,k2,k3⟩:=hy i j s h1 h2
   injection k1 with k1
   injection k1 with e1 e2 _
   subst e1; subst e2
   exact ⟨z,k2,k3⟩
  let news:List Value:=List.ofFn (n:=rows'.length*row.length) fun j=>(w.cell? ⟨b0,o0+j.1,none⟩).getD undef
  have hnl:news.length=rows'.length*row.length:=by simp [news]
  have hng:∀ j,j<rows'.length*row.length→∃ z,news[j]?=some z∧w.cell? ⟨b0,o0+j,none⟩=some z∧z.oneCell'=true:=fun j hj=>by
   have hjk:j % row.length<row.length:=Nat.mod_lt _ hpos
   obtain ⟨z,k1,k2⟩:=hsrc (j / row.length) (j % row.length) _ ((Nat.div_lt_iff_lt_mul hpos).2 hj) (List.getElem?_eq_getElem hjk)
   have e:j / row.length*row.length+j % row.length=j:=by rw [Nat.mul_comm]; exact Nat.div_add_mod j row.length
   rw [e] at k1
   refine ⟨z,?_,k1,oneCell_of_flat k2.flat⟩
   rw [List.getElem?_eq_getElem (by rw [hnl]; exact hj)]
   simp [news,k1]
  have hnews:∀ j z,news[j]?=some z→w.cell? ((⟨b0,o0,none⟩:Addr).add j)=some z:=fun j z hj=>by
   have hjl:=(List.getElem?_eq_some_iff.1 hj).1
   obtain ⟨z',h1,h2,_⟩:=hng j (by rw [← hnl]; exact hjl)
   rw [hj] at h1; injection h1 with h1; subst h1
   rw [addr_add]; exact h2
  have hone:∀ z∈news,z.oneCell'=true:=fun z hz=>by
   obtain ⟨j,hj⟩:=List.getElem?_of_mem hz
   have hjl:=(List.getElem?_eq_some_iff.1 hj).1
   obtain ⟨z',h1,_,h3⟩:=hng j (by rw [← hnl]; exact hjl)
   rw [hj] at h1; injection h1 with h1; subst h1
   exact h3
  have hnv:∀ (i j:Nat) s,i<rows'.length→row[j]?=some s→∃ z,news[i*row.length+j]?=some z∧CellV P base w g t b (rows.length+i) j s (gd (rows'.getD i []) j) z:=fun i j s h1 h2=>by
   obtain ⟨z,k1,k2⟩:=hsrc i j s h1 h2
   have hj:=(List.getElem?_eq_some_iff.1 h2).1
   have hlt:i*row.length+j<rows'.length*row.length:=by
    have:(i+1)*row.length≤rows'.length*row.length:=Nat.mul_le_mul_right _ h1
    rw [Nat.succ_mul] at this; omega
   obtain ⟨z',q1,q2,_⟩:=hng _ hlt
   rw [k1] at q2; injection q2 with q2; subst q2
   exact ⟨z,q1,k2⟩
  have hgetD:∀ i,i<rows.length+rows'.length→(rows++rows').getD i []=if i<rows.length then rows.getD i [] else rows'.getD (i - rows.length) []:=fun i hi=>by
   rw [List.getD_eq_getElem?_getD,List.getElem?_append]
   split
   ·rw [List.getD_eq_getElem?_getD]
   ·rw [List.getD_eq_getElem?_getD]
  have hbytes:(rows.length+rows'.length)*ti.bytes≤140737488355328:=by
   have:=Nat.mul_le_mul hlen hb
   omega
  -- a new block
  have grow:∀ (olds:List Value) (old:Nat),olds.length=rows.length*row.length→(∀ (i j:Nat) s,i<rows.length→row[j]?=some s→∃ z,olds[i*row.length+j]?=some z∧CellV P base w g t b i j s (gd (rows.getD i []) j) z) →
    (Builtin.append_ #[tt,tt] ty #[u,.slice (some ⟨b0,o0,none⟩) rows'.length c]).run P w=.ok (.slice (some ⟨w.heap.size,0,none⟩) (rows.length+rows'.length) (grownCap w (rows.length+rows'.length) old e))
     (w.drew.alloc (.cells (olds.toArray++news.toArray++Builtin.zeroCells v0.cells (grownCap w (rows.length+rows'.length) old e - (rows.length+rows'.length))) e)) →
    ∃ v' w' g',(Builtin.append_ #[tt,tt] ty #[u,.slice (some ⟨b0,o0,none⟩) rows'.length c]).run P w=.ok v' w'∧Rel P w' g' base (σ.map (dropC t)) a∧OwnV P w' g' base t b e row (rows++rows') v'∧Below base w w':=by
   intro olds old hol hov hrun
   have hge:=grownCap_ge w (rows.length+rows'.length) old e
   have hcm:=grownCap_le_maxLen w (rows.length+rows'.length) old e (by unfold maxLen; omega)
   unfold maxLen at hcm
   let arr:Array Value:=olds.toArray++news.toArray++Builtin.zeroCells v0.cells (grownCap w (rows.length+rows'.length) old e - (rows.length+rows'.length))
   let g':G:={ prot:=fun x=>if x=w.heap.size then (if b then 0 else (rows.length+rows'.length)*row.length) else g.prot x,owner:=fun x=>if x=w.heap.size then some (.inr t) else g.owner x,θ:=g.θ, ρ:=fun u=>if u=t then w.heap.size else g.ρ u,len:=fun u=>if u=t then rows.length+rows'.length else g.len u,wid:=fun u=>if u=t then row.length else g.wid u,ety:=fun u=>if u=t then e else g.ety u,path:=g.path,need:=g.need,old:=g.old }
   have hheap:∀ x,x<w.heap.size→(w.drew.alloc (.cells arr e)).heap[x]?=w.heap[x]?:=fun x hx=>Below.heap_alloc w.drew _ x hx
   have hw'sz:(w.drew.alloc (.cells arr e)).heap.size=w.heap.size+1:=by simp
   have hcellk:∀ x o z,o<g.prot x→w.cell? ⟨x,o,none⟩=some z→(w.drew.alloc (.cells arr e)).cell? ⟨x,o,none⟩=some z∧o<g'.prot x:=fun x o z h1 h2=>by
    have hlt:=cell_size h2
    exact ⟨(cell_of_heap (hheap x hlt) o).trans h2,by show o<(if x=w.heap.size then _ else _); rw [if_neg (by omega)]; exact h1⟩
   have hck:∀ {i j:Nat} {s:S} {x:D} {z:Value},CellV P base w g t b i j s x z→CellV P base (w.drew.alloc (.cells arr e)) g' t b i j s x z:=fun h =>
    h.mono rfl hcellk (fun _ x o h0 ho hne hb=>by
     have hlt:=lt_of_heap hb
     exact ⟨(hheap x hlt).trans hb,h0,by show (if x=w.heap.size then _ else _)=_; rw [if_neg (by omega)]; exact ho,by show x≠(if t=t then w.heap.size else _); rw [if_pos rfl]; omega,rfl,rfl,fun e=>by show (if x=w.heap.size then _ else _)=_; rw [if_neg (by omega)]; exact e⟩)
   have hk:Kept P base g g' w (w.drew.alloc (.cells arr e)) (dropC t):=by
    refine kept_drop hcellk (fun x t' _ _ hx=>⟨hheap x hx,?_,?_⟩) (fun t' ht'=>⟨if_neg ht',if_neg ht',if_neg ht',if_neg ht'⟩) rfl (fun x hx=>hheap x (hr.low.2.1 x hx).2.2.2)
    ·show (if x=w.heap.size then _ else _)=_; rw [if_neg (by omega)]
    ·show (if x=w.heap.size then _ else _)=_; rw [if_neg (by omega)]
   have hrel:Rel P (w.drew.alloc (.cells arr e)) g' base (σ.map (dropC t)) a:=by
    refine hr.drop hk rfl (fun x id _ hx=>⟨hheap x hx,?_,?_⟩) (fun x hx=>?_) (by rw [hw'sz]; omega) (fun x hx=>by
     have:=(hr.low.2.1 x hx).2.2.2
     exact ⟨by show (if x=w.heap.size then _ else _)=_; rw [if_neg (by omega)],by show (if x=w.heap.size then _ else _)=_; rw [if_neg (by omega)],hheap x this⟩) rfl (fun t' ht'=>⟨if_neg (unpin hpt ht'),if_neg (unpin hpt ht'),fun x ho hx=>⟨by show (if x=w.heap.size then _ else _)=_; rw [if_neg (by omega)]; exact ho,hheap x hx⟩⟩) (fun x t' ht' ho=>by
     change (if x=w.heap.size then _ else _)=_ at ho
     split at ho
     ·injection ho with ho; injection ho with ho; exact absurd ho.symm (unpin hpt ht')
     ·exact ⟨ho,rfl,rfl⟩)
    ·show (if x=w.heap.size then _ else _)=_; rw [if_neg (by omega)]
    ·show (if x=w.heap.size then _ else _)=_; rw [if_neg (by omega)]
    ·rw [hw'sz] at hx
     have:=hr.fresh x (by omega)
     exact ⟨by show (if x=w.heap.size then _ else _)=_; rw [if_neg (by omega)]; exact this.1,by show (if x=w.heap.size then _ else _)=_; rw [if_neg (by omega)]; exact this.2⟩
   refine ⟨_,_,g',hrun,hrel,.inr ⟨_,arr,e,?_,by rw [List.length_append]; exact hge,⟨hcm,rfl,(if_pos rfl:g'.ety t=e).symm⟩,?_,?_,?_,?_,?_,(if_pos rfl:g'.wid t=row.length).symm,?_,?_⟩,?_⟩
   ·rw [List.length_append,show g'.ρ t=w.heap.size from if_pos rfl]
   ·rw [show g'.ρ t=w.heap.size from if_pos rfl]; exact hr.base_le
   ·rw [show g'.ρ t=w.heap.size from if_pos rfl]; exact if_pos rfl
   ·rw [show g'.ρ t=w.heap.size from if_pos rfl]; exact heap_new w.drew _
   ·show (olds.toArray++news.toArray++Builtin.zeroCells v0.cells _).size=_
    simp only [Array.size_append,List.size_toArray,size_zeroCells,hol,hnl,hz1,← Nat.add_mul]
    congr 1; omega
   ·rw [List.length_append]; exact (if_pos rfl:g'.len t=_).symm
   ·rw [show g'.ρ t=w.heap.size from if_pos rfl,show g'.len t=rows.length+rows'.length from if_pos rfl,show g'.wid t=row.length from if_pos rfl]
    exact if_pos rfl
   ·intro i j s hi hs
    rw [List.length_append] at hi
    have hj:=(List.getElem?_eq_some_iff.1 hs).1
    rw [hgetD i hi]
    by_cases h1:i<rows.length
    ·rw [if_pos h1]
     obtain ⟨z,q1,q2⟩:=hov i j s h1 hs
     refine ⟨z,?_,hck q2⟩
     have hlt:=(List.getElem?_eq_some_iff.1 q1).1
     show (olds.toArray++news.toArray++_)[i*row.length+j]?=_
     rw [Array.append_assoc,Array.getElem?_append_left (by simpa using hlt)]
     simpa using q1
    ·rw [if_neg h1]
     obtain ⟨z,q1,q2⟩:=hnv (i - rows.length) j s (by omega) hs
     refine ⟨z,?_,by have:=hck q2; rwa [show rows.length+(i - rows.length)=i from by omega] at this⟩
     have hlt:=(List.getElem?_eq_some_iff.1 q1).1
     have e1:i*row.length+j=rows.length*row.length+((i - rows.length)*row.length+j):=by
      rw [← Nat.add_assoc,← Nat.add_mul]; congr 2; omega
     show (olds.toArray++news.toArray++_)[i*row.length+j]?=_
     rw [Array.getElem?_append_left (by simp [hol]; omega),Array.getElem?_append_right (by simp [hol]; omega)]
     simp only [List.size_toArray,hol,e1,Nat.add_sub_cancel_left]
     simpa using q1
   ·exact ⟨rfl,rfl,rfl,by rw [hw'sz]; omega,fun x hx=>hheap x (Nat.lt_of_lt_of_le hx hr.base_le)⟩
  rcases hx with ⟨h0,h1,A0,rfl⟩ | ⟨cap,arr,E,rfl,h2,⟨h3,rfl,h3'⟩,h4,h5,h6,h7,h8,h9,h10,h11⟩
  ·subst h0
   simp only [List.length_nil,Nat.zero_add] at grow hlen hbytes ⊢
   refine grow [] 0 (by simp) (fun i j s hi=>by simp at hi) ?_
   cases A0 with
   | none =>
    have:=run_append_nil (P:=P) w tt ty e ti v0 hu hi hv0 ⟨b0,o0,none⟩ rows'.length c news (by rw [hnl,hti]) hnews (by omega) (by omega) (by omega)
    simpa using this
   | some ad =>
    have:=run_append_grow (P:=P) w tt ty e ti v0 hu hi hv0 ad 0 0 [] (by simp) (fun j v h=>by simp at h) ⟨b0,o0,none⟩ rows'.length c news (by rw [hnl,hti]) hnews (by omega) (by omega) (by simpa using growslice_fits (by omega) hbytes)
    simpa using this
  ·by_cases hroom:rows.length+rows'.length≤cap
   ·have hfit:rows.length*row.length+news.length≤arr.size:=by
     rw [hnl,h7,← Nat.add_mul]; exact Nat.mul_le_mul_right _ hroom
    have hrun:=run_append_room (P:=P) w tt ty E ti hu hi (g.ρ t) rows.length cap arr h6 ⟨b0,o0,none⟩ rows'.length c news (by rw [hnl,hti]) hnews hone hroom (by rw [hti]; exact hfit)
    rw [hti] at hrun
    change _=Result.ok _ (w.setRow (g.ρ t) (over arr (rows.length*row.length) news)) at hrun
    let g':G:={ g with prot:=fun x=>if x=g.ρ t then (if b then 0 else (rows.length+rows'.length)*row.length) else g.prot x,len:=fun u=>if u=t then rows.length+rows'.length else g.len u }
    have hoth:∀ x,x≠g.ρ t→(w.setRow (g.ρ t) (over arr (rows.length*row.length) news)).heap[x]?=w.heap[x]?:=fun x hx=>setRow_other w (g.ρ t) x _ hx
    have hself:(w.setRow (g.ρ t) (over arr (rows.length*row.length) news)).heap[g.ρ t]?=some (.cells (over arr (rows.length*row.length) news) E (0,0)):=setRow_heap w _ arr _ E _ h6
    have hws:(w.setRow (g.ρ t) (over arr (rows.length*row.length) news)).heap.size=w.heap.size:=by simp [World.setRow]
    have hcellk:∀ x o z,o<g.prot x→w.cell? ⟨x,o,none⟩=some z→(w.setRow (g.ρ t) (over arr (rows.length*row.length) news)).cell? ⟨x,o,none⟩=some z∧o<g'.prot x:=fun x o z q1 q2=>by
     by_cases hx:x=g.ρ t
     ·subst hx
      rw [h10] at q1
      cases b with
      | true=>simp at q1
      | false =>
       simp only [Bool.false_eq_true,if_false] at q1
       rw [← h8,← h9] at q1
       refine ⟨?_,?_⟩
       ·simp only [World.cell?,hself,Option.isSome_none,Bool.false_eq_true,if_false]
        rw [over_get _ _ _ hfit,if_neg (by omega)]
        simp only [World.cell?,h6,Option.isSome_none,Bool.false_eq_true,if_false] at q2
        exact q2
       ·show o<(if g.ρ t=g.ρ t then _ else _)
        rw [if_pos rfl]
        simp only [Bool.false_eq_true,if_false,Nat.add_mul]
        omega
     ·exact ⟨(cell_of_heap (hoth x hx) o).trans q2,by show o<(if x=g.ρ t then _ else _); rw [if_neg hx]; exact q1⟩
    have hck:∀ {i j:Nat} {s:S} {x:D} {z:Value},CellV P base w g t b i j s x z→CellV P base (w.setRow (g.ρ t) (over arr (rows.length*row.length) news)) g' t b i j s x z:=fun h =>
     h.mono rfl hcellk (fun _ x o h0 ho hne hb=>⟨(hoth x hne).trans hb,h0,ho,hne,rfl,rfl,fun e=>by show (if x=g.ρ t then _ else _)=_; rw [if_neg hne]; exact e⟩)
    have hk:Kept P base g g' w (w.setRow (g.ρ t) (over arr (rows.length*row.length) news)) (dropC t):=by
     refine kept_drop hcellk (fun x t' ht' ho hx=>?_) (fun t' ht'=>⟨rfl,if_neg ht',rfl,rfl⟩) rfl (fun x hx=>hoth x (hr.oldNe hx h5))
     have hne:x≠g.ρ t:=by intro e; rw [e,h5] at ho; injection ho with ho; injection ho with ho; exact ht' ho.symm
     exact ⟨hoth x hne,rfl,if_neg hne⟩
    have hrel:Rel P (w.setRow (g.ρ t) (over arr (rows.length*row.length) news)) g' base (σ.map (dropC t)) a:=by
     refine hr.drop hk rfl (fun x id ho hx=>?_) (fun x hx=>?_) (by rw [hws]; exact Nat.le_refl _) (fun x hx=>⟨rfl,if_neg (hr.oldNe hx h5),hoth x (hr.oldNe hx h5)⟩) rfl (fun t' ht'=>⟨rfl,if_neg (unpin hpt ht'),fun x ho hx=>⟨ho,hoth x (by intro e; rw [e,h5] at ho; injection ho with ho; injection ho with ho; exact unpin hpt ht' ho.symm)⟩⟩) (fun _ _ _ ho=>⟨ho,rfl,rfl⟩)
     ·have hne:x≠g.ρ t:=by intro e; rw [e,h5] at ho; injection ho with ho; cases ho
      exact ⟨hoth x hne,rfl,if_neg hne⟩
     ·rw [hws] at hx
      have hlt:=lt_of_heap h6
      have:=hr.fresh x hx
      exact ⟨by show (if x=g.ρ t then _ else _)=_; rw [if_neg (by omega)]; exact this.1,this.2⟩
    refine ⟨_,_,g',hrun,hrel,.inr ⟨cap,_,E,by rw [List.length_append],by rw [List.length_append]; exact hroom,⟨h3,rfl,h3'⟩,h4,h5,hself,by rw [over_size _ _ _ hfit]; exact h7,by rw [List.length_append]; exact (if_pos rfl:g'.len t=_).symm,h9,?_,?_⟩,?_⟩
    ·rw [show g'.len t=rows.length+rows'.length from if_pos rfl,show g'.wid t=row.length from h9.symm]
     exact if_pos rfl
    ·intro i j s hi' hs
     rw [List.length_append] at hi'
     have hj:=(List.getElem?_eq_some_iff.1 hs).1
     rw [hgetD i hi',over_get _ _ _ hfit]
     by_cases q:i<rows.length
     ·rw [if_pos q]
      obtain ⟨z,q1,q2⟩:=h11 i j s q hs
      have:(i+1)*row.length≤rows.length*row.length:=Nat.mul_le_mul_right _ q
      rw [Nat.succ_mul] at this
      exact ⟨z,by rw [if_neg (by omega)]; exact q1,hck q2⟩
     ·rw [if_neg q]
      obtain ⟨z,q1,q2⟩:=hnv (i - rows.length) j s (by omega) hs
      have e1:i*row.length+j=rows.length*row.length+((i - rows.length)*row.length+j):=by
       rw [← Nat.add_assoc,← Nat.add_mul]; congr 2; omega
      have hlt:=(List.getElem?_eq_some_iff.1 q1).1
      refine ⟨z,?_,by have:=hck q2; rwa [show rows.length+(i - rows.length)=i from by omega] at this⟩
      rw [if_pos (by omega),e1,Nat.add_sub_cancel_left]
      exact q1
    ·exact ⟨rfl,rfl,rfl,by rw [hws]; exact Nat.le_refl _,fun x hx=>hoth x (by omega)⟩
   ·have hol:(arr.toList.take (rows.length*row.length)).length=rows.length*row.length:=by
     have e1:arr.toList.length=cap*row.length:=by simpa using h7
     rw [List.length_take,e1]
     exact Nat.min_eq_left (Nat.mul_le_mul_right _ h2)
    refine grow (arr.toList.take (rows.length*row.length)) cap hol (fun i j s hi' hs=>?_) ?_
    ·obtain ⟨z,q1,q2⟩:=h11 i j s hi' hs
     have hj:=(List.getElem?_eq_some_iff.1 hs).1
     have:(i+1)*row.length≤rows.length*row.length:=Nat.mul_le_mul_right _ hi'
     rw [Nat.succ_mul] at this
     exact ⟨z,by rw [List.getElem?_take,if_pos (by omega)]; simpa using q1,q2⟩
    ·exact run_append_grow (P:=P) w tt ty E ti v0 hu hi hv0 ⟨g.ρ t,0,none⟩ rows.length cap (arr.toList.take (rows.length*row.length)) (by rw [hol,hti]) (fun j z hj=>by
      rw [List.getElem?_take] at hj
      split at hj
      ·rw [addr_add]
       simp only [World.cell?,h6,Nat.zero_add]
       simpa using hj
      ·cases hj) ⟨b0,o0,none⟩ rows'.length c news (by rw [hnl,hti]) hnews (by omega) (by omega) (growslice_fits (by omega) hbytes)
theorem evAppend_ok (hr:Rel P w g base σ a) {o:Oper} {σ':St} {d:Nat} {tt:TypeId} {x y:Operand} (ho:o.op=.call { callee:=.builtin .append,args:= #[x,y],argTypes:= #[tt,tt] }) (hdst:o.dst=some d) (hd:∀ d,o.dst=some d→d<a.tmps.size)
  (h:evAppend P σ d tt x y=some (σ',true)):Does P base σ' o a w:=by
 unfold evAppend at h
 split at h
 ·rename_i t b e tk e' rows' hsh hy
  cases hc:(e==e'&&tElem P tt==some e&&rowZero P e&&(bif deepT t&&b then deepO tk&&tk != some t else !deepO tk)&&t.1 != 1000001&&tk.all (fun t'=>t'.1 != 1000001)) with
  | false=>rw [hc] at h; cases h
  | true =>
   rw [hc,cond_true] at h
   simp only [Option.some.injEq,Prod.mk.injEq,Bool.and_eq_true,decide_eq_true_eq] at h
   obtain ⟨rfl,hlen,hby⟩:=h
   simp only [Bool.and_eq_true,beq_iff_eq] at hc
   obtain ⟨⟨⟨⟨⟨rfl,ht⟩,hz⟩,hdp⟩,hpt⟩,hptk⟩:=hc
   have hpt:t.1≠1000001:=by simpa using hpt
   unfold rowZero at hz
   cases hrow:rowOf P e with
   | none=>rw [hrow] at hz; cases hz
   | some row =>
    rw [hrow] at hz
    simp only at hz
    have hxv:=opd_ok hr x
    have hxv:VC P w g base (.own t b e) (gd (opd σ x).p 0) (a.eval x):=by
     generalize opd σ x=q at *
     obtain ⟨sh,p⟩:=q
     simp only at hsh
     subst hsh
     exact hxv
    obtain ⟨row',hrow',hown⟩:=hxv
    rw [hrow] at hrow'; injection hrow' with hrow'; subst hrow'
    obtain ⟨A,c,row',hyv,hrow',hyc⟩:=slice_cells hy (opd_ok hr y)
    rw [hrow] at hrow'; injection hrow' with hrow'; subst hrow'
    cases hdb:(deepT t&&b) with
    | false =>
     rw [hdb,cond_false] at hdp; rw [cond_false]
     obtain ⟨v',w',g',k1,k2,k3,k4⟩:=append_ok hr ht hrow hz hby hown ⟨A,c,hyv,fun i j s hi hs=>by
      obtain ⟨b0,o0,z,q1,q2,q3,_⟩:=hyc i j s hi hs
      exact ⟨b0,o0,z,q1,q2,.of_vd (q3 (by simpa using hdp)) (.inl hdb)⟩⟩ hlen o.type hpt
     refine ⟨v',w',g',.inl ?_,k2.put hd (t:=.c (.own t b e) (.l _)) ⟨row,hrow,k3⟩ |> fun h=>by rw [hdst] at h ⊢; exact h,k4⟩
     simp only [execOp,ho,resolve,invoke,builtin,Sem.run_bind,Sem.run_pure,Result.andThen_ok,List.map_toArray,List.map_cons,List.map_nil,k1]
    | true =>
     rw [hdb,cond_true] at hdp; rw [cond_true]
     simp only [Bool.and_eq_true] at hdp hdb
     obtain ⟨hdt,rfl⟩:=hdb
     cases tk with
     | none=>simp [deepO] at hdp
     | some t' =>
      have hne:t≠t':=by have:=hdp.2; simp at this; exact fun e=>this e.symm
      have hdt':deepT t'=true:=hdp.1
      let n0:=(gd (opd σ x).p 0).rows.length
      let fm:List (Nat × Nat)→List (Nat × Nat):=fun π=>match π with
       | [] => []
       | (i,j)::r=>(n0+i,j)::r
      have main:∀ {g₀:G} {σ₀:St},Rel P w g₀ base σ₀ a→OwnV P w g₀ base t true e row (gd (opd σ x).p 0).rows (a.eval x)→(∀ b₂,g₀.owner b₂=some (.inr t')→w.heap.size≤b₂∨b₂≠g₀.ρ t)→(∀ b₂,g₀.owner b₂=g.owner b₂∧g₀.path b₂=g.path b₂∧g₀.need b₂=g.need b₂∧g₀.prot b₂=g.prot b₂)→g₀.ρ t'=g.ρ t' →
        ∃ v' w' g',(Builtin.append_ #[tt,tt] o.type #[a.eval x,a.eval y]).run P w=.ok v' w'∧Rel P w' g' base ((σ₀.map (dropC t')).map (dropC t)) a∧OwnV P w' g' base t true e row ((gd (opd σ x).p 0).rows++rows') v'∧Below base w w':=by
       intro g₀ σ₀ hr₀ hown₀ hρt hsame hρ'
       have hpt':t'.1≠1000001:=by simpa using hptk
       obtain ⟨hk1,hr1⟩:=move_kept (t:=t') (s:=t) (f:=fm) (top:=none) hr₀ hpt' hpt
       have hown1:=move_own (s:=t) (f:=fm) (top:=none) hr₀ hpt' hpt hne hrow hown₀
       refine append_ok hr1 ht hrow hz hby hown1 ⟨A,c,hyv,fun i j s hi hs=>?_⟩ hlen o.type hpt
       obtain ⟨b0,o0,z,q1,q2,_,q3⟩:=hyc i j s hi hs
       refine ⟨b0,o0,z,q1,q2,.of_tr ?_ hdt⟩
       have:=TR.mono fm (fun π x hπ=>by cases π with | nil=>exact absurd rfl hπ | cons p r=>rfl) ((q3 t' rfl).tr hdt') (w':=w) (lab':=labOf base (moveG g₀ t' t fm none) t) (fun b₂ π n o₂ hπ hl ho₂=>⟨ho₂,by
        obtain ⟨l0,l1,l2,l3,l4,l5⟩:=hl
        obtain ⟨m1,m2,m3,m4⟩:=hsame b₂
        have l1':g₀.owner b₂=some (.inr t'):=m1.trans l1
        have l2':b₂≠g₀.ρ t':=by rw [hρ']; exact l2
        refine ⟨l0,?_,(hρt b₂ l1').resolve_left (by have:=lt_of_heap ho₂; omega),?_,?_,m4.trans l5⟩
        ·show (if g₀.owner b₂=some (.inr t') then _ else _)=_
         rw [if_pos l1',if_neg l2']
        ·show (if g₀.owner b₂=some (.inr t') then _ else _)=_
         rw [if_pos l1',if_neg l2',m2,l3]
        ·show (if g₀.owner b₂=some (.inr t')∧b₂=g₀.ρ t' then _ else _)=_
         rw [if_neg (fun e=>l2' e.2),m3]; exact l4⟩) (by simp)
       exact this
      have fin:∀ {v':Value} {w':World} {g':G},(Builtin.append_ #[tt,tt] o.type #[a.eval x,a.eval y]).run P w=.ok v' w'→Rel P w' g' base ((σ.map (dropC t')).map (dropC t)) a→OwnV P w' g' base t true e row ((gd (opd σ x).p 0).rows++rows') v'→Below base w w'→Does P base (((dropTs (some t').toList σ).map (dropC t)).put (some d) (.c (.own t true e) (.l ((gd (opd σ x).p 0).rows++rows')))) o a w:=by
       intro v' w' g' k1 k2 k3 k4
       refine ⟨v',w',g',.inl ?_,k2.put hd (t:=.c (.own t true e) (.l _)) ⟨row,hrow,k3⟩ |> fun h=>by rw [hdst] at h ⊢; exact h,k4⟩
       simp only [execOp,ho,resolve,invoke,builtin,Sem.run_bind,Sem.run_pure,Result.andThen_ok,List.map_toArray,List.map_cons,List.map_nil,k1]
      rcases hown with hown' | hown'
      ·obtain ⟨v',w',g',k1,k2,k3,k4⟩:=main (rho_drop hr t hpt w.heap.size) (.inl ⟨hown'.1,hown'.2.1,hown'.2.2⟩) (fun b₂ _=>by
        show _∨b₂≠(if t=t then w.heap.size else _)
        rw [if_pos rfl]; omega) (fun _=>⟨rfl,rfl,rfl,rfl⟩) (if_neg (Ne.symm hne))
       refine fin k1 ?_ k3 k4
       have e1:((σ.map (dropC t)).map (dropC t')).map (dropC t)=(σ.map (dropC t')).map (dropC t):=drop_swap t t' σ
       rw [e1] at k2
       exact k2
      ·obtain ⟨v',w',g',k1,k2,k3,k4⟩:=main hr (.inr hown') (fun b₂ ho₂=>.inr fun e=>by
        obtain ⟨cap,arr,E,h1,h2,h3,h4,h5,rest⟩:=hown'
        rw [e,h5] at ho₂; injection ho₂ with ho₂; injection ho₂ with ho₂; exact hne ho₂) (fun _=>⟨rfl,rfl,rfl,rfl⟩) rfl
       exact fin k1 k2 k3 k4
 ·cases h
theorem setDs_get (s:Tok) (rows:List (List D)):∀ (cs:List Ce) (ds:List D) (j:Nat) c,cs[j]?=some c→gd (setDs s rows cs ds) j=setD s rows c (gd ds j)
 | [],ds,j,c,h=>by simp at h
 | c0::cs,ds,0,c,h=>by
  simp only [List.getElem?_cons_zero,Option.some.injEq] at h
  subst h; rfl
 | c0::cs,ds,j+1,c,h=>by
  rw [setDs,gd_cons_succ,setDs_get s rows cs ds.tail j c (by simpa using h),gd_tail]
theorem setDs_length (s:Tok) (rows:List (List D)):∀ (cs:List Ce) (ds:List D),(setDs s rows cs ds).length=cs.length
 | [],_=>rfl
 | c::cs,ds=>by simp [setDs,setDs_length s rows cs ds.tail]
theorem map_get {α β:Type} {f:α→β} {l:List α} {j:Nat} {c:β} (h:(l.map f)[j]?=some c):∃ c0,l[j]?=some c0∧f c0=c:=by
 rw [List.getElem?_map] at h
 cases hq:l[j]? with
 | none=>rw [hq] at h; cases h
 | some c0=>rw [hq] at h; injection h with h; exact ⟨c0,rfl,h⟩
theorem hlook_map3 (F:List Ce→List Ce) (G:List Ce→List D→List D):∀ (h:Boxes) (i:Nat),hlook i (h.map fun p=>(p.1,F p.2.1,G p.2.1 p.2.2))=(hlook i h).map fun q=>(F q.1,G q.1 q.2)
 | [],i=>by simp [hlook]
 | (j,v)::e,i=>by
  simp only [List.map_cons,hlook]
  rw [hlook_map3 F G e i]
  cases i==j <;> rfl
theorem evStore_core {gs:G} {σs:St} (hr:Rel P w gs base σs a) {o:Oper} {t n off:Nat} {e:TypeId} {x p:Operand} {cs:List Ce} {ds:List D} {pp:List D} {tok:Tok} {row ss:List S} {u0:Value} (ho:o.op=.store t p x) (hd:∀ d,o.dst=some d→d<a.tmps.size) (hn:tSize P t=some n)
  (hx1:(a.eval x).cells.size=cs.length) (hone:∀ v∈(a.eval x).cells.toList,v.oneCell'=true) (hl:cs.length=n) (hpe:a.eval p=.pointer (some ⟨gs.ρ tok,eIx (gd pp 0)*row.length+off,none⟩)) (hix':eIx (gd pp 0)<(eRows (gd pp 0)).length) (hown:OwnV P w gs base tok true e row (eRows (gd pp 0)) u0)
  (hrow:rowOf P e=some row) (hnew:∀ (k:Nat) s,ss[k]?=some s→∃ u,(a.eval x).cells[k]?=some u∧CellV P base w gs tok true (eIx (gd pp 0)) (off+k) s (gd (toDs cs ds) k) u) (hfit:(row.drop off).take n=ss) (hn1:1≤n) (hofs:off+n≤row.length) :
  DoesS P base (St.put (σs.setRows tok ((eRows (gd pp 0)).set (eIx (gd pp 0)) (setSub (sub ((eRows (gd pp 0)).getD (eIx (gd pp 0)) []) 0 row.length) off (toDs cs ds)))) o.dst .none_) o p a w:=by
 generalize hrows:eRows (gd pp 0)=rows at *
 generalize eIx (gd pp 0)=i at *
 rcases hown with ⟨h0,_⟩ | ⟨cap,arr,E,h1,h2,⟨h3,hE,h3'⟩,h4,h5,h6,h7,h8,h9,h10,h11⟩
 ·rw [h0] at hix'; simp at hix'
 ·subst hE
  have hul:(a.eval x).cells.toList.length=n:=by simp [hx1,hl]
  have hkk:i*row.length+row.length≤rows.length*row.length:=by
   rw [← Nat.succ_mul]; exact Nat.mul_le_mul_right _ hix'
  have hcap:rows.length*row.length≤cap*row.length:=Nat.mul_le_mul_right _ h2
  have hfit':i*row.length+off+n≤arr.size:=by rw [h7]; omega
  have hfl:i*row.length+off+(a.eval x).cells.toList.length≤arr.size:=by rw [hul]; exact hfit'
  have hrun:=run_storeAt (P:=P) (w:=w) (b:=gs.ρ tok) (o:=i*row.length+off) hn (by rw [hx1,hl]) h6 hfit' hone
  generalize hvs:(a.eval x).cells.toList=vs at *
  have hoth:∀ b,b≠gs.ρ tok→(w.setRow (gs.ρ tok) (over arr (i*row.length+off) vs)).heap[b]?=w.heap[b]?:=fun b hb=>setRow_other w (gs.ρ tok) b _ hb
  have hself:(w.setRow (gs.ρ tok) (over arr (i*row.length+off) vs)).heap[gs.ρ tok]?=some (.cells (over arr (i*row.length+off) vs) E (0,0)):=setRow_heap w _ arr _ E _ h6
  have hsz:(w.setRow (gs.ρ tok) (over arr (i*row.length+off) vs)).heap.size=w.heap.size:=by simp [World.setRow]
  have hp0:gs.prot (gs.ρ tok)=0:=by rw [h10]; rfl
  have hvd:∀ {s:S} {x:D} {v:Value},VD P w gs.prot s x v→VD P (w.setRow (gs.ρ tok) (over arr (i*row.length+off) vs)) gs.prot s x v:=fun h =>
   h.mono fun b o u q1 q2=>⟨(cell_of_heap (hoth b (by rintro rfl; rw [hp0] at q1; omega)) o).trans q2,q1⟩
  have hck:∀ {t':Tok} {xm:Bool} {i' j:Nat} {s:S} {d:D} {z:Value},CellV P base w gs t' xm i' j s d z→CellV P base (w.setRow (gs.ρ tok) (over arr (i*row.length+off) vs)) gs t' xm i' j s d z:=fun {t' xm i' j s d z} h =>
   h.mono rfl (fun b o u q1 q2=>⟨(cell_of_heap (hoth b (by rintro rfl; rw [hp0] at q1; omega)) o).trans q2,q1⟩) (fun _ b o h0 ho' hne hb=>by
    have hne':b≠gs.ρ tok:=by
     by_cases ht:t'=tok
     ·subst ht; exact hne
     ·intro e; rw [e,h5] at ho'; injection ho' with ho'; injection ho' with ho'; exact ht ho'.symm
    exact ⟨(hoth b hne').trans hb,h0,ho',hne,rfl,rfl,fun e=>e⟩)
  generalize hnr:setSub (sub (rows.getD i []) 0 row.length) off (toDs cs ds)=nr
  have hdl:(toDs cs ds).length=n:=by
   have:∀ (cs:List Ce) (ds:List D),(toDs cs ds).length=cs.length:=by
    intro cs
    induction cs with
    | nil=>intro ds; rfl
    | cons c cs ih=>intro ds; simp [toDs,ih]
   rw [this,hl]
  have hnrg:∀ j,j<row.length→gd nr j=if off≤j∧j<off+n then gd (toDs cs ds) (j - off) else gd (rows.getD i []) j:=fun j hj=>by
   rw [← hnr,gd_setSub _ _ _ _ (by rw [sub_length]; exact hj),hdl,gd_sub _ _ _ _ hj,Nat.zero_add]
  have hlen':(rows.set i nr).length=rows.length:=by simp
  have hcells:∀ (i' j:Nat) s,i'<rows.length→row[j]?=some s→∃ u,(over arr (i*row.length+off) vs)[i'*row.length+j]?=some u∧CellV P base (w.setRow (gs.ρ tok) (over arr (i*row.length+off) vs)) gs tok true i' j s (gd ((rows.set i nr).getD i' []) j) u:=by
   intro i' j s hi' hs
   have hj:=(List.getElem?_eq_some_iff.1 hs).1
   rw [over_get _ _ _ hfl,hul]
   have hset:(rows.set i nr).getD i' []=if i=i' then nr else rows.getD i' []:=by
    rw [List.getD_eq_getElem?_getD,List.getElem?_set]
    by_cases e:i=i'
    ·subst e; simp [hi']
    ·simp [e,List.getD_eq_getElem?_getD]
   rw [hset]
   by_cases hin:i*row.length+off≤i'*row.length+j∧i'*row.length+j<i*row.length+off+n
   ·have hii:i=i':=by
     rcases Nat.lt_trichotomy i i' with h | h | h
     ·exfalso
      have:(i+1)*row.length≤i'*row.length:=Nat.mul_le_mul_right _ h
      rw [Nat.succ_mul] at this
      omega
     ·exact h
     ·exfalso
      have:(i'+1)*row.length≤i*row.length:=Nat.mul_le_mul_right _ h
      rw [Nat.succ_mul] at this
      omega
    subst hii
    rw [if_pos hin,if_pos rfl,hnrg j hj,if_pos (by omega)]
    have hsj:ss[j - off]?=some s:=by
     rw [← hfit,List.getElem?_take,if_pos (by omega),List.getElem?_drop,show off+(j - off)=j from by omega]
     exact hs
    obtain ⟨u,q1,q2⟩:=hnew _ s hsj
    rw [show off+(j - off)=j from by omega] at q2
    refine ⟨u,?_,hck q2⟩
    rw [show i*row.length+j - (i*row.length+off)=j - off from by omega,← hvs]
    simpa using q1
   ·rw [if_neg hin]
    obtain ⟨u,q1,q2⟩:=h11 i' j s hi' hs
    refine ⟨u,q1,?_⟩
    by_cases hii:i=i'
    ·subst hii
     rw [if_pos rfl,hnrg j hj,if_neg (by omega)]
     exact hck q2
    ·rw [if_neg hii]
     exact hck q2
  have hownt:∀ {xm:Bool} {e':TypeId} {row':List S} {rowsT:List (List D)} {v:Value},rowOf P e'=some row'→OwnV P w gs base tok xm e' row' rowsT v→rowsT.length=(rows.set i nr).length∧OwnV P (w.setRow (gs.ρ tok) (over arr (i*row.length+off) vs)) gs base tok xm e' row' (rows.set i nr) v:=by
   intro xm e' row' rowsT v hr' h
   rcases h with ⟨_,h,_⟩ | ⟨cap',arr',E',k1,k2,⟨k3,kE,k3'⟩,k4,k5,k6,k7,k8,k9,k10,k11⟩
   ·omega
   ·have ee:e'=E:=by rw [k3',h3']
    subst ee
    rw [hrow] at hr'; injection hr' with hr'; subst hr'
    rw [h6] at k6
    injection k6 with k6
    injection k6 with q1 q2 q3
    subst q1
    have hll:rowsT.length=(rows.set i nr).length:=by rw [hlen',k8,h8]
    refine ⟨hll,.inr ⟨cap',_,e',by rw [k1,hll],by rw [← hll]; exact k2,⟨k3,rfl,k3'⟩,k4,k5,by rw [hself,q2,kE],by rw [over_size _ _ _ hfl]; exact k7,by rw [← hll]; exact k8,k9,k10,fun i' j s hi' hs=>?_⟩⟩
    have hlt:i'<rows.length:=by rw [← hlen']; exact hi'
    obtain ⟨z,z1,z2⟩:=hcells i' j s hlt hs
    cases xm with
    | true=>exact ⟨z,z1,z2⟩
    | false =>
     have hlen0:gs.len tok*gs.wid tok=0:=by
      have:=k10
      rw [hp0] at this
      simp only [Bool.false_eq_true,if_false] at this
      exact this.symm
     have h1:0<gs.len tok:=by rw [← h8]; omega
     have h2:0<gs.wid tok:=by rw [← h9]; have:=(List.getElem?_eq_some_iff.1 hs).1; omega
     have:=Nat.mul_pos h1 h2
     omega
  have hownu:∀ {t':Tok} {xm:Bool} {e':TypeId} {row':List S} {rowsT:List (List D)} {v:Value},t'≠tok→OwnV P w gs base t' xm e' row' rowsT v→OwnV P (w.setRow (gs.ρ tok) (over arr (i*row.length+off) vs)) gs base t' xm e' row' rowsT v:=by
   intro t' xm e' row' rowsT v ht h
   rcases h with h | ⟨cap',arr',E',k1,k2,k3,k4,k5,k6,k7,k8,k9,k10,k11⟩
   ·exact .inl h
   ·refine .inr ⟨cap',arr',E',k1,k2,k3,k4,k5,by rw [hoth _ (by intro e; rw [e,h5] at k5; injection k5 with k5; injection k5 with k5; exact ht k5.symm)]; exact k6,k7,k8,k9,k10,fun i' j s hi' hs=>?_⟩
    obtain ⟨u,q1,q2⟩:=k11 i' j s hi' hs
    exact ⟨u,q1,hck q2⟩
  have hcptr:∀ {cells:List S} {off':Nat} {x:D} {v:Value},CptrV P w gs base cells off' x v→CptrV P (w.setRow (gs.ρ tok) (over arr (i*row.length+off) vs)) gs base cells off' x v:=by
   rintro cells off' x v ⟨b,o,q1,q2,q3⟩
   refine ⟨b,o,q1,q2,fun j s hs=>?_⟩
   obtain ⟨u,z1,z2⟩:=q3 j s hs
   exact ⟨u,(cell_of_heap (hoth b (hr.oldNe q2 h5)) _).trans z1,hvd z2⟩
  have hkc:∀ c x v,VC P w gs base c x v→VC P (w.setRow (gs.ρ tok) (over arr (i*row.length+off) vs)) gs base (innC (· == tok) c) (setD tok (rows.set i nr) c x) v:=by
   intro c x v hv
   cases c with
   | any=>trivial
   | d s=>exact hvd hv
   | kb b=>exact hv
   | own t' xm e' =>
    obtain ⟨row',hr',hv⟩:=hv
    refine ⟨row',hr',?_⟩
    show OwnV P _ gs base t' xm e' row' (bif t'==tok then D.l (rows.set i nr) else x).rows v
    by_cases ht:t'=tok
    ·subst ht
     rw [show (t'==t')=true from by simp]
     exact (hownt hr' hv).2
    ·rw [show (t'==tok)=false from by simpa using ht]
     exact hownu ht hv
   | ptr id off'=>exact hv
   | eptr tk e' off' =>
    cases tk with
    | none =>
     obtain ⟨row',b,o,q1,q2,q3,q4⟩:=hv
     refine ⟨row',b,o,q1,q2,q3,fun j s hs=>?_⟩
     obtain ⟨u,z1,z2,z3⟩:=q4 j s hs
     exact ⟨u,(cell_of_heap (hoth b (by rintro rfl; rw [hp0] at z2; omega)) _).trans z1,z2,hvd z3⟩
    | some t' =>
     obtain ⟨row',hr',q2,q3,u,q4⟩:=hv
     refine ⟨row',hr',?_⟩
     show v=.pointer (some ⟨gs.ρ t',eIx (bif t'==tok then D.l [[.l (rows.set i nr),gd (x.rows.getD 0 []) 1]] else x)*row'.length+off',none⟩)∧eIx (bif t'==tok then D.l [[.l (rows.set i nr),gd (x.rows.getD 0 []) 1]] else x)<(eRows (bif t'==tok then D.l [[.l (rows.set i nr),gd (x.rows.getD 0 []) 1]] else x)).length∧∃ u,OwnV P _ gs base t' true e' row' (eRows (bif t'==tok then D.l [[.l (rows.set i nr),gd (x.rows.getD 0 []) 1]] else x)) u
     by_cases ht:t'=tok
     ·subst ht
      rw [show (t'==t')=true from by simp,cond_true]
      obtain ⟨z1,z2⟩:=hownt hr' q4
      exact ⟨q2,by show eIx x<(rows.set i nr).length; rw [← z1]; exact q3,u,z2⟩
     ·rw [show (t'==tok)=false from by simpa using ht,cond_false]
      exact ⟨q2,q3,u,hownu ht q4⟩
   | inn t' e' off' ei' =>
    show VC P _ gs base (bif t'==tok then .any else .inn t' e' off' ei') x v
    by_cases ht:t'=tok
    ·rw [show (t'==tok)=true from by simpa using ht]; trivial
    ·rw [show (t'==tok)=false from by simpa using ht,cond_false]
     exact inn_mono hv rfl (fun o h5' h6'=>(hoth _ (by intro e; rw [e,h5] at h5'; injection h5' with h5'; injection h5' with h5'; exact ht h5'.symm)).trans h6') (fun hu=>hownu ht hu)
   | cptr cells off'=>exact hcptr hv
   | fn f caps =>
    obtain ⟨arr',q1,q2,q3⟩:=hv
    refine ⟨arr',q1,q2,fun j c hc=>?_⟩
    obtain ⟨u,hu,hcap⟩:=q3 j c hc
    refine ⟨u,hu,?_⟩
    cases c with
    | d s=>exact hvd hcap
    | ptr id off=>exact hcap
    | cptr cells off=>exact hcptr hcap
  have hvcs:∀ {cs:List Ce} {ds:List D} {arr':Array Value},VCs P w gs base cs ds arr'→VCs P (w.setRow (gs.ρ tok) (over arr (i*row.length+off) vs)) gs base (cs.map (innC (· == tok))) (setDs tok (rows.set i nr) cs ds) arr':=by
   intro cs ds arr' h
   refine ⟨by rw [List.length_map]; exact h.1,fun j c hj=>?_⟩
   obtain ⟨c0,hj0,rfl⟩:=map_get hj
   obtain ⟨u,q1,q2⟩:=h.2 j c0 hj0
   exact ⟨u,q1,by rw [setDs_get _ _ _ _ j c0 hj0]; exact hkc c0 _ _ q2⟩
  have hvt:∀ {q:T} {v:Value},VT P w gs base q v→VT P (w.setRow (gs.ρ tok) (over arr (i*row.length+off) vs)) gs base (setT tok (rows.set i nr) q) v:=by
   intro q v hv
   obtain ⟨sh,pq⟩:=q
   cases sh with
   | tup xs=>trivial
   | one xx=>cases xx with
    | c xx =>
     show VC P _ gs base (innC (· == tok) xx) (gd (setDs tok (rows.set i nr) [xx] pq) 0) v
     rw [setDs_get _ _ _ _ 0 xx rfl]
     exact hkc xx _ _ hv
    | agg xs =>
     obtain ⟨arr',rfl,hh⟩:=hv
     exact ⟨arr',rfl,hvcs hh⟩
  have hrel:Rel P (w.setRow (gs.ρ tok) (over arr (i*row.length+off) vs)) gs base (σs.setRows tok (rows.set i nr)) a:=by
   refine ⟨fun j=>?_,fun id cs1 ds1 hq=>?_,by rw [hsz]; exact hr.fresh,by rw [hsz]; exact hr.base_le,hr.defers,hr.lowIn (fun b hb=>hoth b (hr.oldNe hb h5)) (Nat.le_of_eq hsz.symm) (fun b t' arr1 e1 _ ho' hbr hb1 _=>by
    by_cases hbt:b=gs.ρ tok
    ·subst hbt
     rw [h6] at hb1
     injection hb1 with hb1
     injection hb1 with hb1
     subst hb1
     rename_i hE9 _ _
     exact ⟨_,by rw [hself,hE9],over_size _ _ _ hfl⟩
    ·exact ⟨arr1,(hoth b hbt).trans hb1,rfl⟩),hr.mine⟩
   ·have e1:=look2_map (setT tok (rows.set i nr)) rfl σs.e j σs.r
    show VT P _ gs base (look2 j (σs.e.map _) (σs.r.map _)) _
    rw [e1]
    exact hvt (hr.env j)
   ·have e1:=hlook_map3 (List.map (innC (· == tok))) (setDs tok (rows.set i nr)) σs.h id
    change hlook id (σs.setRows tok (rows.set i nr)).h=_ at e1
    rw [hq] at e1
    cases hq2:hlook id σs.h with
    | none=>rw [hq2] at e1; cases e1
    | some q =>
     obtain ⟨cs0,ds0⟩:=q
     rw [hq2] at e1
     injection e1 with e1
     injection e1 with e2 e3
     subst e2; subst e3
     obtain ⟨j1,j2,j3,jl,arr',E',j4,j5⟩:=hr.box id _ _ hq2
     exact ⟨j1,j2,j3,by rw [setDs_length,List.length_map],arr',E',by rw [hoth _ (by intro e'; rw [e',h5] at j2; injection j2 with j2; cases j2)]; exact j4,hvcs j5⟩
  refine ⟨undef,_,gs,.inr ⟨?_,rfl⟩,hrel.put hd (t:=.none_) ⟨#[],rfl,rfl,fun j x h=>by simp at h⟩,⟨rfl,rfl,rfl,by rw [hsz]; exact Nat.le_refl _,fun k hk'=>hoth k (by omega)⟩,fun B hB=>⟨rfl,rfl,rfl,by rw [hsz]; exact Nat.le_refl _,fun k hk'=>hoth k (by have:=hB _ _ hpe; omega)⟩⟩
  simp only [execOp,ho,hpe,Sem.run_bind,hrun,Result.andThen_ok,Sem.run_pure]
theorem evStore_row (hr0:Rel P w g base σ a) {o:Oper} {t n off:Nat} {e:TypeId} {x p:Operand} {cs:List Ce} {ds:List D} {pp:List D} {tok:Tok} {row ss:List S} (ho:o.op=.store t p x) (hd:∀ d,o.dst=some d→d<a.tmps.size) (hn:tSize P t=some n)
  (hc:(opd σ x).cells=some (cs,ds)) (hl:cs.length=n) (hp:(opd σ p)=⟨.one (.c (.eptr (some tok) e off)),pp⟩) (hrow:rowOf P e=some row) (hss:allS cs=some ss) (hfit:(row.drop off).take n=ss) (htok:(toks cs).contains tok=false) (hn1:1≤n) (hofs:off+n≤row.length) (hdp:(!deepT tok||(cs.all (deepOk P)&&nodupB (toks cs)&&(tok.1 != 1000001||(toks cs).isEmpty)))=true) :
  DoesS P base (St.put ((bif deepT tok then dropTs (toks cs) σ else σ.seal (toks cs)).setRows tok ((eRows (gd pp 0)).set (eIx (gd pp 0)) (setSub (sub ((eRows (gd pp 0)).getD (eIx (gd pp 0)) []) 0 row.length) off (toDs cs ds)))) o.dst .none_) o p a w:=by
 have hpv:=opd_ok hr0 p
 rw [hp] at hpv
 obtain ⟨hx,hany⟩:=cells_ok hc (opd_ok hr0 x)
 obtain ⟨row',hrow',hpe,hix,u0,hown0⟩:=hpv
 rw [hrow] at hrow'; injection hrow' with hrow'; subst hrow'
 cases hdt:deepT tok with
 | false =>
  rw [cond_false]
  have hrow1:=row_ok (ts:=toks cs) hx hss (fun t h=>List.contains_iff_mem.2 h)
  have hr:=hr0.seal (toks cs)
  have hown:=seal_own (ts:=toks cs) hown0
  rw [htok] at hown
  simp only [Bool.not_false,Bool.and_self] at hown
  exact evStore_core hr ho hd hn hx.1 (vcs_oneCell hx hany) hl hpe hix hown hrow (fun k s hs=>by
   obtain ⟨u,q1,q2⟩:=hrow1.2 k s hs
   exact ⟨u,q1,.of_vd q2 (.inl (by rw [hdt]; rfl))⟩) hfit hn1 hofs
 | true =>
  rw [cond_true]
  rw [hdt] at hdp
  simp only [Bool.not_true,Bool.false_or,Bool.and_eq_true] at hdp
  have htop:g.owner (g.ρ tok)=some (.inr tok):=by
   rcases hown0 with ⟨h0,_⟩ | ⟨cap,arr,E,h1,h2,h3,h4,h5,rest⟩
   ·change eIx (gd pp 0)<(eRows (gd pp 0)).length at hix
    rw [h0] at hix; simp at hix
   ·exact h5
  obtain ⟨gs,r1,⟨e1,e2,e3,e4,e5,e6⟩,r2,r3,r4,r5⟩:=moveCells_ok (s:=tok) (i:=eIx (gd pp 0)) (cs:=cs) (ds:=ds) (us:=(a.eval x).cells.toList) (j0:=off) hr0 (fun k c hk=>by
   obtain ⟨u,q1,q2⟩:=hx.2 k c hk
   exact ⟨u,by simpa using q1,q2⟩) hdp.1.1 hdp.1.2 htok (by
    have h9:=hdp.2
    rw [Bool.or_eq_true] at h9
    rcases h9 with h9 | h9
    ·exact .inr (by simpa using h9)
    ·exact .inl (by simpa using h9)) (fun b t ht ho' e=>by rw [e,htop] at ho'; injection ho' with ho'; injection ho' with ho'; exact ht ho'.symm)
  refine evStore_core r1 ho hd hn hx.1 (vcs_oneCell hx hany) hl (by rw [e1]; exact hpe) hix (r4 htok hrow hown0) hrow (fun k s hs=>?_) hfit hn1 hofs
  obtain ⟨hq1,hq2⟩:=allS_get hss
  obtain ⟨c,hc1,hc2⟩:=hq2 k s hs
  obtain ⟨u,q1,q2⟩:=r5 k c s hc1 hc2
  exact ⟨u,by simpa using q1,.of_tr q2 hdt⟩
theorem evStore_okS (hr:Rel P w g base σ a) {o:Oper} {σ':St} {t:TypeId} {p x:Operand} (ho:o.op=.store t p x) (hd:∀ d,o.dst=some d→d<a.tmps.size) (h:evStore P σ o.dst t p x=some (σ',true)):DoesS P base σ' o p a w:=by
 unfold evStore at h
 split at h
 ·rename_i n cs ds hn hc
  cases hl:(cs.length==n) with
  | false=>rw [hl] at h; cases h
  | true =>
   rw [hl,cond_true] at h
   have hl:cs.length=n:=by simpa using hl
   split at h
   ·rename_i id off hsh
    split at h
    ·rename_i cs' ds' hb
     cases hle:Nat.ble (off+n) cs'.length with
     | false=>rw [hle] at h; cases h
     | true =>
      rw [hle] at h
      simp only [cond_true,Option.some.injEq,Prod.mk.injEq,and_true] at h
      subst h
      exact evStore_ptr hr ho hd hn hc hl (pp:=(opd σ p).p) (by rw [← hsh]) hb (Nat.le_of_ble_eq_true hle)
    ·cases h
   ·rename_i tok e off hsh
    split at h
    ·rename_i row ss hrow hss
     cases hq:((row.drop off).take n==ss && !(toks cs).contains tok&&Nat.ble 1 n&&Nat.ble (off+n) row.length&&(!deepT tok||(cs.all (deepOk P)&&nodupB (toks cs)&&(tok.1 != 1000001||(toks cs).isEmpty)))) with
     | false=>rw [hq] at h; cases h
     | true =>
      rw [hq] at h
      simp only [cond_true,Option.some.injEq,Prod.mk.injEq,and_true] at h
      subst h
      rw [Bool.and_eq_true] at hq
      obtain ⟨hq,q5⟩:=hq
      simp only [Bool.and_eq_true,beq_iff_eq,Bool.not_eq_true'] at hq
      obtain ⟨⟨⟨q1,q2⟩,q3⟩,q4⟩:=hq
      exact evStore_row hr ho hd hn hc hl (pp:=(opd σ p).p) (by rw [← hsh]) hrow hss q1 q2 (Nat.le_of_ble_eq_true q3) (Nat.le_of_ble_eq_true q4) q5
    ·cases h
   ·cases h
 ·cases h
theorem evStore_ok (hr:Rel P w g base σ a) {o:Oper} {σ':St} {t:TypeId} {p x:Operand} (ho:o.op=.store t p x) (hd:∀ d,o.dst=some d→d<a.tmps.size) (h:evStore P σ o.dst t p x=some (σ',true)):Does P base σ' o a w:=(evStore_okS hr ho hd h).does
theorem evBuildSliceD_ok (hr:Rel P w g base σ a) {o:Oper} {σ':St} {d n:Nat} {t:TypeId} {parts:Array (Nat × Operand)} (ho:o.op=.buildSlice t n parts) (hdst:o.dst=some d) (hd:∀ d,o.dst=some d→d<a.tmps.size)
  (h:evBuildSliceD P σ d t n parts.toList=some (σ',true)):DoesC P base σ' o a w:=by
 unfold evBuildSliceD at h
 split at h
 ·rename_i e i x he hps
  split at h
  ·rename_i row cs ds hrow hc
   cases hq:(n==1&&i==0&&allS cs==some row&&Nat.ble row.length 16777216&&zeroOk P e row&&cs.all (deepOk P)&&nodupB (toks cs) && !(toks cs).contains (d,1000000)) with
   | false=>rw [hq] at h; cases h
   | true =>
    rw [hq] at h
    simp only [cond_true,Option.some.injEq,Prod.mk.injEq,and_true] at h
    subst h
    simp only [Bool.and_eq_true,beq_iff_eq,Bool.not_eq_true'] at hq
    obtain ⟨⟨⟨⟨⟨⟨⟨rfl,rfl⟩,hS⟩,hbl⟩,hz⟩,hdo⟩,hnd⟩,hct⟩:=hq
    have hbl:=Nat.le_of_ble_eq_true hbl
    obtain ⟨ti,v0,hi,hv0,hm⟩:=zeroOk_ok hz
    have hpos:=rowOf_pos hrow
    have hsz:=rowOf_size hrow
    have hti:ti.size=row.length:=by
     have:=hsz
     unfold tSize at this
     rw [hi] at this
     injection this
    have hE:=ext_row (g:=g) (w:=w) (d,1000000) e 1 row.length 0 (.cells (a.eval x).cells e)
    have r1:Rel P (w.alloc (.cells (a.eval x).cells e)) (newRowG g (d,1000000) e w.heap.size 1 row.length 0) base (σ.wipe d) a:=hr.wipeRow (hd d hdst) hE rfl (fresh_row hr _ _ _ _ _ _)
    obtain ⟨hx,hany⟩:=cells_ok hc (opd_ok r1 x)
    obtain ⟨hq1,hq2⟩:=allS_get hS
    have harr:(a.eval x).cells.size=row.length:=by rw [hx.1]; exact hq1.symm
    have o1:(newRowG g (d,1000000) e w.heap.size 1 row.length 0).owner w.heap.size=some (.inr (d,1000000)):=if_pos rfl
    have o2:(newRowG g (d,1000000) e w.heap.size 1 row.length 0).ρ (d,1000000)=w.heap.size:=if_pos rfl
    have o3:(newRowG g (d,1000000) e w.heap.size 1 row.length 0).len (d,1000000)=1:=if_pos rfl
    have o4:(newRowG g (d,1000000) e w.heap.size 1 row.length 0).wid (d,1000000)=row.length:=if_pos rfl
    have o5:(newRowG g (d,1000000) e w.heap.size 1 row.length 0).prot w.heap.size=0:=if_pos rfl
    have o6:(newRowG g (d,1000000) e w.heap.size 1 row.length 0).ety (d,1000000)=e:=if_pos rfl
    obtain ⟨gs,r2,⟨e1,e2,e3,e4,e5,e6⟩,r3,r4,r5,r6⟩:=moveCells_ok (s:=(d,1000000)) (i:=0) (cs:=cs) (ds:=ds) (us:=(a.eval x).cells.toList) (j0:=0) r1 (fun k c hk=>by
     obtain ⟨u,q1,q2⟩:=hx.2 k c hk
     exact ⟨u,by simpa using q1,q2⟩) hdo hnd hct (.inr (Nat.ne_of_lt (Nat.lt_of_lt_of_le (hd d hdst) (Nat.le_trans hr.defers.2 (by decide))))) (fun b t ht ho' e'=>by
     rw [o2] at e'
     subst e'
     rw [o1] at ho'
     injection ho' with ho'
     injection ho' with ho'
     exact ht ho'.symm)
    have hval:VT P (w.alloc (.cells (a.eval x).cells e)) gs base (.c (.own (d,1000000) true e) (.l [toDs cs ds])) (.slice (some ⟨w.heap.size,0,none⟩) 1 1):=by
     refine ⟨row,hrow,.inr ⟨1,(a.eval x).cells,e,by rw [e1,o2]; rfl,Nat.le_refl _,⟨by decide,rfl,by rw [e4,o6]⟩,by rw [e1,o2]; exact hr.base_le,by rw [e1,o2]; exact r3.2 _ o1,by rw [e1,o2]; exact heap_new w _,by rw [harr,Nat.one_mul],by rw [e2,o3]; rfl,by rw [e3,o4],by rw [e1,o2,e6,o5]; rfl,fun i j s hi hs=>?_⟩⟩
     have hi:i<1:=hi
     have hi:i=0:=by omega
     subst hi
     obtain ⟨c,hc1,hc2⟩:=hq2 j s hs
     obtain ⟨u,q1,q2⟩:=r6 j c s hc1 hc2
     refine ⟨u,by rw [Nat.zero_mul,Nat.zero_add]; simpa using q1,.of_tr ?_ rfl⟩
     rw [Nat.zero_add] at q2
     exact q2
    have hfill:Instr.fill (fun i=>some (i*row.length,row.length)) ((Array.range (1*row.length)).map ((if 1*row.length=0 then #[] else v0.cells)[· % (if 1*row.length=0 then #[] else v0.cells).size]!)) (parts.map fun p=>(p.1,a.eval p.2)).toList=some (a.eval x).cells:=by
     rw [Array.toList_map,hps]
     have:=Great.fill_whole hpos [a.eval x] ((Array.range (1*row.length)).map ((if 1*row.length=0 then #[] else v0.cells)[· % (if 1*row.length=0 then #[] else v0.cells).size]!)) (fun v hv=>by simp only [List.mem_singleton] at hv; subst hv; exact harr) (by simp)
     simpa using this
    refine ⟨.slice (some ⟨w.heap.size,0,none⟩) 1 1,_,gs,.inl ?_,r2.put hd (t:=.c (.own (d,1000000) true e) (.l [toDs cs ds])) hval |> fun h=>by rw [hdst] at h ⊢; exact h,(Below.refl _ _).alloc hr.base_le _,(Below.refl _ _).alloc (Nat.le_refl _) _⟩
    simp only [execOp,ho,Instr.buildSlice,Sem.run_bind,run_underlying (tElem_und he),run_size hsz,Result.andThen_ok]
    rw [if_neg (by omega)]
    have h0:¬ 1*row.length=0:=by omega
    simp only [if_neg h0] at hfill ⊢
    simp only [Sem.run_bind,run_zero hi hv0,Sem.run_pure,Result.andThen_ok]
    rw [hfill]
    simp only [Sem.run_bind,run_newRow,Result.andThen_ok,Sem.run_pure]
  ·cases h
 ·cases h
end
end Go.Proofs.YtpdfmcmnjikppaaGreat
namespace Go.Proofs.YtpdfmcmnjikppaaGreat
open Go.RowKit
def g0 (n:Nat) (prot:Nat→Nat):G:=⟨prot,fun _=>none,fun _=>0,fun _=>0,fun _=>0,fun _=>0,fun _=>0,fun _ => [],fun _=>0,fun b=>b<n⟩
structure Res (P:Program) (prot:Nat→Nat) (w w':World) (r:T) (v:Value) (g':G):Prop where
 below:Below w.heap.size w w'
 val:VT P w' g' w.heap.size r v
 prot:∀ b,b<w.heap.size→g'.prot b=prot b
 fresh:∀ b,w'.heap.size≤b→g'.prot b=0∧g'.owner b=none
def ArgsV (P:Program) (prot:Nat→Nat) (w:World) (args:List T) (vs:Array Value):Prop:=
 vs.size=args.length∧∀ (j:Nat) t,args[j]?=some t→∃ u,vs[j]?=some u∧VT P w (g0 w.heap.size prot) w.heap.size t u
def wRet (sh:Sh) (v:Value):Value:=
 match sh with
 | .tup [.c _]=>.tuple #[]
 | _=>v
structure Writ (b:Nat) (e:TypeId) (arr:Array Value) (rows:List (List D)) (w w':World):Prop where
 below:Below 0 w w'
 other:∀ k,k<w.heap.size→k≠b→w'.heap[k]?=w.heap[k]?
 row:∃ arr',w'.heap[b]?=some (.cells arr' e (0,0))∧arr'.size=arr.size∧∀ i,i<rows.length→arr'[i]?=some (.int .i64 (gd (rows.getD i []) 0).int)
def SoundW (P:Program) (f:FuncId) (args:List T) (r:T):Prop:=
 (∀ vs w,(callFunc f vs).run P w=.ok (.enter f vs) w) ∧
 ∀ (e:TypeId) (x:D),args = [.c (.d (.sl e)) x]→rowOf P e=some [.int .i64] →
  (x.rows = []→(gd r.p 0).rows = []∧∀ (A:Option Addr) (w:World),Calls P f #[.slice A 0 0] w fun ex w'=>ex=.returned (wRet r.sh (.slice A 0 0))∧Below w.heap.size w w') ∧
  ∀ (w:World) (b cap:Nat) (arr:Array Value),w.heap[b]?=some (.cells arr e (0,0))→arr.size=cap→x.rows.length≤cap→cap≤9223372036854775807→(∀ i,i<x.rows.length→arr[i]?=some (.int .i64 (gd (x.rows.getD i []) 0).int)) →
   (gd r.p 0).rows.length≤x.rows.length∧((∃ c,r.sh=.tup [.c c])→(gd r.p 0).rows.length=x.rows.length) ∧
   Calls P f #[.slice (some ⟨b,0,none⟩) x.rows.length cap] w fun ex w'=>ex=.returned (wRet r.sh (.slice (some ⟨b,0,none⟩) (gd r.p 0).rows.length cap))∧Writ b e arr (gd r.p 0).rows w w'
def FV:S→D→Value→Prop
 | .int k,d,v=>v=.int k d.int
 | .bool,d,v=>v=.bool d.bool
 | .str,d,v=>v=.string (bsv d.str)
 | .sl _,_,_=>False
theorem FV.vd {P:Program} {w:World} {prot:Nat→Nat} {s:S} {d:D} {v:Value} (h:FV s d v):VD P w prot s d v:=by
 cases s with
 | int k=>cases h; exact .int k d
 | bool=>cases h; exact .bool d
 | str=>cases h; exact .str d
 | sl e=>cases h
theorem VD.fv {P:Program} {w:World} {prot:Nat→Nat} {s:S} {d:D} {v:Value} (h:VD P w prot s d v) (hs:s.flat=true):FV s d v:=by
 cases h with
 | int k d=>rfl
 | bool d=>rfl
 | str d=>rfl
 | sl=>simp [S.flat] at hs
def OwnK (w:World) (e:TypeId) (row:List S) (rows:List (List D)) (v:Value) (B:Option Nat):Prop:=
 (B=none∧rows = []∧∃ A,v=.slice A 0 0) ∨
 ∃ (b cap:Nat) (arr:Array Value),B=some b∧v=.slice (some ⟨b,0,none⟩) rows.length cap∧rows.length≤cap∧cap≤9223372036854775807∧w.heap[b]?=some (.cells arr e (0,0))∧arr.size=cap*row.length ∧
  ∀ i j s,i<rows.length→row[j]?=some s→∃ u,arr[i*row.length+j]?=some u∧FV s (gd (rows.getD i []) j) u
structure Changed (w w':World) (B:Option Nat):Prop where
 os:w'.os=w.os
 tape:w'.tape=w.tape
 output:w'.output=w.output
 size:w.heap.size≤w'.heap.size
 other:∀ k,k<w.heap.size→B≠some k→w'.heap[k]?=w.heap[k]?
theorem Changed.refl (w:World) (B:Option Nat):Changed w w B:=⟨rfl,rfl,rfl,Nat.le_refl _,fun _ _ _=>rfl⟩
theorem Changed.trans {w w' w'':World} {B B':Option Nat} (h:Changed w w' B) (h':Changed w' w'' B') (hb:∀ b,B'=some b→B=some b∨w.heap.size≤b):Changed w w'' B:=
 ⟨h'.os.trans h.os,h'.tape.trans h.tape,h'.output.trans h.output,Nat.le_trans h.size h'.size,fun k hk hne=>by
  rw [h'.other k (Nat.lt_of_lt_of_le hk h.size) (fun e=>by rcases hb k e with h1 | h1 <;> first | exact hne h1 | omega)]
  exact h.other k hk hne⟩
theorem Changed.of_below {w w':World} (B:Option Nat) (h:Below w.heap.size w w'):Changed w w' B:=⟨h.os,h.tape,h.output,h.size,fun k hk _=>h.block k hk⟩
def SoundK (P:Program) (f:FuncId) (args:List T) (r:T):Prop:=
 (∀ vs w,(callFunc f vs).run P w=.ok (.enter f vs) w) ∧
 ∀ (e:TypeId) (x:D) (rest:List T) (row:List S),args=.c (.d (.sl e)) x::rest→rowOf P e=some row→row.all S.flat=true →
  ∀ (w:World) (prot:Nat→Nat) (u:Value) (B:Option Nat) (vs:Array Value),OwnK w e row x.rows u B→(∀ b,B=some b→prot b=0)→(∀ b,w.heap.size≤b→prot b=0) →
   (∀ w'',Changed w w'' B→ArgsV P prot w'' rest vs) →
   (r.sh.isKo=true→∀ (j:Nat) A n cap,vs[j]?=some (.slice A n cap)→0<n→∃ b arr E,A=some ⟨b,0,none⟩∧w.heap[b]?=some (.cells arr E (0,0))) →
   Calls P f (#[u]++vs) w fun ex w'=>∃ v' B',ex=.returned v'∧Changed w w' B∧OwnK w' e row (gd r.p 0).rows v' B'∧∀ b,B'=some b→B=some b∨w.heap.size≤b
def OwnX (w:World) (e:TypeId) (m n:Nat) (cs:List Value) (u:Value) (B:Option Nat):Prop:=cs.length=n*m∧(∀ v∈cs,v.oneCell'=true)∧((B=none∧n=0∧∃ A,u=.slice A 0 0) ∨
 ∃ (b cap:Nat) (arr:Array Value),B=some b∧u=.slice (some ⟨b,0,none⟩) n cap∧n≤cap∧cap≤9223372036854775807∧w.heap[b]?=some (.cells arr e (0,0))∧arr.size=cap*m∧∀ (k:Nat) v,cs[k]?=some v→arr[k]?=some v)
def pickCs (m:Nat) (cs:List Value):List Nat→List Value
 | [] => []
 | k::sel=>(cs.drop (k*m)).take m++pickCs m cs sel
def zRows (z:T):List (List D):=
 match z.sh with
 | .one (.c (.d (.sl _)))=>(gd z.p 0).rows
 | _ => []
def SoundX (P:Program) (f:FuncId) (args:List T) (r:T):Prop:=
 (∀ vs w,(callFunc f vs).run P w=.ok (.enter f vs) w) ∧
 ∀ (e:TypeId) (x n:D) (z:T) (row:List S),args = [.c (.d (.sl e)) x,.c (.d (.int .i64)) n,z]→rowOf P e=some row →
  ∃ sel:List Nat,sel.Nodup∧(∀ k∈sel,k<(x.rows++zRows z).length)∧(gd r.p 0).rows=sel.map (fun k=>(x.rows++zRows z).getD k []) ∧
  ∀ (w:World) (u v:Value) (B B2:Option Nat) (cs cs2:List Value),OwnX w e row.length x.rows.length cs u B→(∀ b,B=some b→B2=some b→False) →
   ((z.sh=.one (.c (.d (.int .i64)))∧v=.int .i64 (gd z.p 0).int∧cs2 = [])∨(z.sh=.one (.c (.d (.sl e)))∧OwnX w e row.length (zRows z).length cs2 v B2)) →
   Calls P f #[u,.int .i64 n.int,v] w fun ex w'=>∃ v' B',ex=.returned v'∧Changed w w' B∧OwnX w' e row.length sel.length (pickCs row.length (cs++cs2) sel) v' B'∧∀ b,B'=some b→B=some b∨w.heap.size≤b
structure ChangedL (w w':World) (lab:Nat→List (Nat × Nat)→Nat→Prop):Prop where
 os:w'.os=w.os
 tape:w'.tape=w.tape
 output:w'.output=w.output
 size:w.heap.size≤w'.heap.size
 other:∀ k,k<w.heap.size→(∀ π n,¬ lab k π n)→w'.heap[k]?=w.heap[k]?
def TRs (P:Program) (w:World) (lab:Nat→List (Nat × Nat)→Nat→Prop) (ss:List S) (ds:List D) (us:Array Value):Prop:=
 us.size=ss.length∧∀ (j:Nat) s,ss[j]?=some s→∃ z,us[j]?=some z∧TR P w lab [(0,j)] s (gd ds j) z
def SoundM (P:Program) (f:FuncId) (args:List T) (r:T):Prop:=
 (∀ vs w,(callFunc f vs).run P w=.ok (.enter f vs) w) ∧
 ∀ (q:T) (kd:D) (ss:List S),args = [q,.c (.d (.int .i64)) kd] →
  ∀ (w:World) (lab:Nat→List (Nat × Nat)→Nat→Prop) (u:Value) (us:Array Value),((∃ s d,q=.c (.d s) d∧ss = [s]∧us = #[u])∨(∃ ds,q=⟨.one (.agg (ss.map .d)),ds⟩∧u=.agg us))→TRs P w lab ss q.p us →
   (∀ b π π' n n',lab b π n→lab b π' n'→π=π'∧n=n') →
   Calls P f #[u,.int .i64 kd.int] w fun ex w'=>ex=.returned (.int .i64 (gd r.p 0).int)∧ChangedL w w' lab∧TRs P w' lab ss r.p.tail us
structure StartP (P:Program) (w:World) (g:G) (b:Nat) (cs:List Ce) (ds:List D) (args:List T) (vs:Array Value):Prop where
 box:g.θ 1000000=b
 owner:g.owner b=some (.inl 1000000)
 prot:g.prot b=0
 cells:∃ arr E,w.heap[b]?=some (.cells arr E (0,0))∧VCs P w g 0 cs ds arr
 fresh:∀ k,w.heap.size≤k→g.prot k=0∧g.owner k=none
 old:∀ k,g.old k→g.owner k=none∧k<w.heap.size
 size:vs.size=args.length
 args:∀ (j:Nat) t,args[j]?=some t→∃ u,vs[j]?=some u∧VT P w g 0 t u
structure EndP (P:Program) (w w':World) (g g':G) (b:Nat) (cs:List Ce) (res:List Sh1) (p:List D) (v:Value):Prop where
 os:w'.os=w.os
 tape:w'.tape=w.tape
 output:w'.output=w.output
 size:w.heap.size≤w'.heap.size
 old:∀ k,g.old k→w'.heap[k]?=w.heap[k]?∧g'.prot k=g.prot k∧g'.owner k=none
 fresh:∀ k,w'.heap.size≤k→g'.prot k=0∧g'.owner k=none
 boxo:g'.prot b=0∧∀ t,g'.owner b≠some (.inr t)
 cells:∃ arr E,w'.heap[b]?=some (.cells arr E (0,0))∧VCs P w' g' 0 cs (sub p 1 cs.length) arr
 res:VT P w' g' 0 ⟨tupOf res,sub p (1+cs.length) (res.flatMap Sh1.ces).length⟩ v
def SoundP (P:Program) (f:FuncId) (args:List T) (r:T):Prop:=
 (∀ vs w,(callFunc f vs).run P w=.ok (.enter f vs) w) ∧
 ∀ (cs1:List Ce) (ds1:List D) (rest:List T) (cs2:List Ce) (res:List Sh1),args=⟨.tup [.agg cs1],ds1⟩::rest→r.sh=.tup (.agg [.any]::.agg cs2::res) →
  ∀ (w:World) (g:G) (b:Nat) (vs:Array Value),StartP P w g b cs1 ds1 rest vs →
   Calls P f (#[.pointer (some ⟨b,0,none⟩)]++vs) w fun e w'=>∃ v g',e=.returned v∧EndP P w w' g g' b cs2 res r.p v
def SoundFn (P:Program) (f:FuncId) (args:List T) (r:T):Prop:=if r.sh.isM then SoundM P f args r else if r.sh.isK then SoundK P f args r else if r.sh.isP then SoundP P f args r else if r.sh.isX then SoundX P f args r else if r.sh.isW then SoundW P f args r else
 (∀ vs w,(callFunc f vs).run P w=.ok (.enter f vs) w) ∧
 ∀ (w:World) (prot:Nat→Nat) (vs:Array Value),ArgsV P prot w args vs→(∀ b,w.heap.size≤b→prot b=0) →
  Calls P f vs w fun e w'=>∃ v g',e=.returned v∧Res P prot w w' r v g'
theorem isK_W {sh:Sh} (h:sh.isW=false):sh.isK=false:=by
 unfold Sh.isK
 split
 ·simp [Sh.isW] at h
 ·rfl
theorem isM_W {sh:Sh} (h:sh.isW=false):sh.isM=false:=by
 unfold Sh.isM
 split
 ·simp [Sh.isW] at h
 ·rfl
theorem isP_W {sh:Sh} (h:sh.isW=false):sh.isP=false:=by
 unfold Sh.isP
 split
 ·simp [Sh.isW] at h
 ·rfl
theorem isX_W {sh:Sh} (h:sh.isW=false):sh.isX=false:=by
 unfold Sh.isX
 split
 ·simp [Sh.isW] at h
 ·rfl
theorem isX_o {sh:Sh} (h:sh.isX=true):sh.isM=false∧sh.isK=false∧sh.isP=false:=by
 unfold Sh.isX at h
 split at h
 ·exact ⟨rfl,rfl,by unfold Sh.isP; split <;> simp_all⟩
 ·cases h
theorem isM_K {sh:Sh} (h:sh.isK=true):sh.isM=false:=by
 unfold Sh.isK at h
 split at h
 ·rfl
 ·cases h
theorem isM_P {sh:Sh} (h:sh.isP=true):sh.isM=false:=by
 unfold Sh.isP at h
 split at h
 ·rfl
 ·cases h
theorem isK_P {sh:Sh} (h:sh.isP=true):sh.isK=false:=by
 unfold Sh.isP at h
 split at h
 ·rfl
 ·cases h
theorem SoundFn.n {P:Program} {f:FuncId} {args:List T} {r:T} (h:SoundFn P f args r) (hw:r.sh.isW=false):(∀ vs w,(callFunc f vs).run P w=.ok (.enter f vs) w) ∧
 ∀ (w:World) (prot:Nat→Nat) (vs:Array Value),ArgsV P prot w args vs→(∀ b,w.heap.size≤b→prot b=0) →
  Calls P f vs w fun e w'=>∃ v g',e=.returned v∧Res P prot w w' r v g':=by
 unfold SoundFn at h
 rw [isM_W hw,isK_W hw,isP_W hw,isX_W hw,hw] at h
 exact h
theorem SoundFn.w {P:Program} {f:FuncId} {args:List T} {r:T} (h:SoundFn P f args r) (hw:r.sh.isW=true) (hk:r.sh.isK=false) (hm:r.sh.isM=false) (hp:r.sh.isP=false) (hx:r.sh.isX=false):SoundW P f args r:=by
 unfold SoundFn at h
 rw [hm,hk,hp,hx,hw] at h
 exact h
theorem SoundFn.k {P:Program} {f:FuncId} {args:List T} {r:T} (h:SoundFn P f args r) (hk:r.sh.isK=true):SoundK P f args r:=by
 unfold SoundFn at h
 rw [isM_K hk,hk] at h
 exact h
theorem SoundFn.m {P:Program} {f:FuncId} {args:List T} {r:T} (h:SoundFn P f args r) (hm:r.sh.isM=true):SoundM P f args r:=by
 unfold SoundFn at h
 rw [hm] at h
 exact h
theorem SoundFn.p {P:Program} {f:FuncId} {args:List T} {r:T} (h:SoundFn P f args r) (hp:r.sh.isP=true):SoundP P f args r:=by
 unfold SoundFn at h
 rw [isM_P hp,isK_P hp,hp] at h
 exact h
theorem SoundFn.x {P:Program} {f:FuncId} {args:List T} {r:T} (h:SoundFn P f args r) (hx:r.sh.isX=true):SoundX P f args r:=by
 unfold SoundFn at h
 rw [(isX_o hx).1,(isX_o hx).2.1,(isX_o hx).2.2,hx] at h
 exact h
theorem SoundFn.ofX {P:Program} {f:FuncId} {args:List T} {r:T} (hx:r.sh.isX=true) (h:SoundX P f args r):SoundFn P f args r:=by
 unfold SoundFn
 rw [(isX_o hx).1,(isX_o hx).2.1,(isX_o hx).2.2,hx]
 exact h
theorem SoundFn.ofM {P:Program} {f:FuncId} {args:List T} {r:T} (hm:r.sh.isM=true) (h:SoundM P f args r):SoundFn P f args r:=by
 unfold SoundFn
 rw [hm]
 exact h
theorem SoundFn.ofP {P:Program} {f:FuncId} {args:List T} {r:T} (hp:r.sh.isP=true) (h:SoundP P f args r):SoundFn P f args r:=by
 unfold SoundFn
 rw [isM_P hp,isK_P hp,hp]
 exact h
theorem SoundFn.ofW {P:Program} {f:FuncId} {args:List T} {r:T} (hw:r.sh.isW=true) (h:SoundW P f args r) (hk:r.sh.isK=false:=by rfl) (hm:r.sh.isM=false:=by rfl) (hp:r.sh.isP=false:=by rfl) (hx:r.sh.isX=false:=by rfl):SoundFn P f args r:=by
 unfold SoundFn
 rw [hm,hk,hp,hx,hw]
 exact h
theorem SoundFn.ofK {P:Program} {f:FuncId} {args:List T} {r:T} (hk:r.sh.isK=true) (h:SoundK P f args r):SoundFn P f args r:=by
 unfold SoundFn
 rw [isM_K hk,hk]
 exact h
theorem SoundFn.of {P:Program} {f:FuncId} {args:List T} {r:T} (hw:r.sh.isW=false) (h:(∀ vs w,(callFunc f vs).run P w=.ok (.enter f vs) w) ∧
 ∀ (w:World) (prot:Nat→Nat) (vs:Array Value),ArgsV P prot w args vs→(∀ b,w.heap.size≤b→prot b=0) →
  Calls P f vs w fun e w'=>∃ v g',e=.returned v∧Res P prot w w' r v g'):SoundFn P f args r:=by
 unfold SoundFn
 rw [isM_W hw,isK_W hw,isP_W hw,isX_W hw,hw]
 exact h
def CallOk (P:Program) (call:FuncId→List T→Option (T × Bool)):Prop:=∀ f args r,call f args=some (r,true)→SoundFn P f args r
section
variable [Low] {P:Program} {w w':World} {g g':G} {base:Nat} {σ:St} {a:Act}
theorem capArg_ok (hr:Rel P w g base σ a) {ts:List Tok} {c c':Cap} {x x':D} {u:Value} (h:capArg σ c x=some (c',x')) (hv:CapV P w g base c x u) (ht:∀ t∈capToks σ [c],ts.contains t=true) :
  CapV P w (g0 w.heap.size (sealG g ts).prot) w.heap.size c' x' u:=by
 cases c with
 | d s =>
  simp only [capArg,Option.some.injEq,Prod.mk.injEq] at h
  obtain ⟨rfl,rfl⟩:=h
  exact seal_vd hv
 | cptr cells off =>
  simp only [capArg,Option.some.injEq,Prod.mk.injEq] at h
  obtain ⟨rfl,rfl⟩:=h
  obtain ⟨b,o,h1,h2,h3⟩:=hv
  refine ⟨b,o,h1,(hr.low.2.1 b h2).2.2.2,fun j s hs=>?_⟩
  obtain ⟨v,k1,k2⟩:=h3 j s hs
  exact ⟨v,k1,seal_vd k2⟩
 | ptr id off =>
  simp only [capArg] at h
  split at h
  ·rename_i cs ds hl
   split at h
   ·rename_i ss hss
    simp only [Option.some.injEq,Prod.mk.injEq] at h
    obtain ⟨rfl,rfl⟩:=h
    obtain ⟨k1,k2,k3,kl,arr,E,k4,k5⟩:=hr.box id cs ds hl
    have hv:u=.pointer (some ⟨g.θ id,off,none⟩):=hv
    subst hv
    have hrow:=row_ok (ts:=ts) k5 hss (fun t h=>ht t (by simp [capToks,hl,h]))
    refine ⟨g.θ id,0,by rw [Nat.zero_add],lt_of_heap k4,fun j s hs=>?_⟩
    obtain ⟨v,q1,q2⟩:=hrow.2 j s hs
    exact ⟨v,by simp only [World.cell?,k4,Nat.zero_add]; exact q1,q2⟩
   ·cases h
  ·cases h
theorem capToks_mem {σ:St}:∀ {caps:List Cap} {j:Nat} {c:Cap},caps[j]?=some c→∀ t∈capToks σ [c],t∈capToks σ caps
 | [],j,c,h,t,ht=>by simp at h
 | c0::cs,0,c,h,t,ht=>by
  simp only [List.getElem?_cons_zero,Option.some.injEq] at h
  subst h
  cases c0 <;> simp [capToks] at ht ⊢
  exact .inl ht
 | c0::cs,j+1,c,h,t,ht=>by
  have:=capToks_mem (caps:=cs) (j:=j) (by simpa using h) t ht
  cases c0 <;> simp [capToks,this]
theorem capArgs_ok (hr:Rel P w g base σ a) {ts:List Tok}:∀ {caps caps':List Cap} {ds ds':List D},capArgs σ caps ds=some (caps',ds')→(∀ t∈capToks σ caps,ts.contains t=true) →
  caps'.length=caps.length∧∀ (j:Nat) c',caps'[j]?=some c'→∃ c,caps[j]?=some c∧∀ u,CapV P w g base c (gd ds j) u→CapV P w (g0 w.heap.size (sealG g ts).prot) w.heap.size c' (gd ds' j) u
 | [],caps',ds,ds',h,_=>by
  simp only [capArgs,Option.some.injEq,Prod.mk.injEq] at h
  obtain ⟨rfl,rfl⟩:=h
  exact ⟨rfl,fun j c h=>by simp at h⟩
 | c::cs,caps',ds,ds',h,ht=>by
  unfold capArgs at h
  split at h
  ·rename_i d x ds1 xs h1 h2
   simp only [Option.some.injEq,Prod.mk.injEq] at h
   obtain ⟨rfl,rfl⟩:=h
   have ht1:∀ t∈capToks σ [c],ts.contains t=true:=fun t h=>ht t (capToks_mem (caps:=c::cs) (j:=0) rfl t h)
   have ht2:∀ t∈capToks σ cs,ts.contains t=true:=fun t h=>ht t (by cases c <;> simp [capToks,h])
   obtain ⟨k1,k2⟩:=capArgs_ok hr h2 ht2
   refine ⟨by simp [k1],fun j c' hj=>?_⟩
   cases j with
   | zero =>
    simp only [List.getElem?_cons_zero,Option.some.injEq] at hj
    subst hj
    exact ⟨c,rfl,fun u hu=>capArg_ok hr h1 hu ht1⟩
   | succ j =>
    obtain ⟨c0,q1,q2⟩:=k2 j c' (by simpa using hj)
    refine ⟨c0,by simpa using q1,fun u hu=>?_⟩
    rw [gd_cons_succ]
    exact q2 u (by rw [gd_tail]; exact hu)
  ·cases h
theorem arg_ok (hr:Rel P w g base σ a) {ts:List Tok} {v v':T} {u:Value} (h:arg P σ v=some v') (hv:VT P w g base v u) (ht:∀ t∈argToks σ v,ts.contains t=true):VT P w (g0 w.heap.size (sealG g ts).prot) w.heap.size v' u:=by
 obtain ⟨sh,p⟩:=v
 cases sh with
 | tup xs=>cases h
 | one x=>cases x with
  | agg xs =>
   unfold arg at h
   simp only at h
   split at h
   ·rename_i ss hss
    injection h with h; subst h
    obtain ⟨arr,rfl,hvc⟩:=hv
    obtain ⟨k1,k2⟩:=row_okA (ts:=ts) hvc hss ht
    refine ⟨arr,rfl,by simp [k1],fun j c hj=>?_⟩
    rw [List.getElem?_map] at hj
    cases hs:ss[j]? with
    | none=>rw [hs] at hj; cases hj
    | some s =>
     rw [hs] at hj; injection hj with hj; subst hj
     obtain ⟨z,q1,q2⟩:=k2 j s hs
     exact ⟨z,q1,q2⟩
   ·cases h
  | c x =>
   cases x with
   | fn f caps =>
    unfold arg at h
    simp only at h
    split at h
    ·rename_i cs ds hc
     injection h with h; subst h
     obtain ⟨k1,k2⟩:=capArgs_ok hr hc ht
     obtain ⟨arr,rfl,h2,h3⟩:=hv
     refine ⟨arr,rfl,by rw [h2,k1],fun j c hj=>?_⟩
     obtain ⟨c0,q1,q2⟩:=k2 j c hj
     obtain ⟨z,z1,z2⟩:=h3 j c0 q1
     exact ⟨z,z1,q2 z z2⟩
    ·cases h
   | cptr cells off =>
    simp only [arg,Option.some.injEq] at h
    subst h
    exact capArg_ok hr (c:=.cptr cells off) (x:=gd p 0) rfl hv (fun t h=>by simp [capToks] at h)
   | ptr id off =>
    unfold arg at h
    simp only at h
    split at h
    ·rename_i c d hc
     injection h with h; subst h
     have:=capArg_ok hr (ts:=ts) hc (u:=u) hv ht
     have hcc:∃ ss o',c=.cptr ss o':=by
      simp only [capArg] at hc
      split at hc
      ·split at hc
       ·simp only [Option.some.injEq,Prod.mk.injEq] at hc; exact ⟨_,_,hc.1.symm⟩
       ·cases hc
      ·cases hc
     obtain ⟨ss,o',rfl⟩:=hcc
     exact this
    ·cases h
   | eptr tk e off =>
    unfold arg at h
    simp only at h
    split at h
    ·rename_i row hrow
     cases hdo:deepO tk with
     | true=>rw [hdo] at h; cases h
     | false =>
     rw [hdo,cond_false] at h
     injection h with h; subst h
     have key:∃ b o,u=.pointer (some ⟨b,o+off,none⟩)∧∀ (j:Nat) s,row[j]?=some s→∃ z,w.cell? ⟨b,o+j,none⟩=some z∧VD P w g.prot s (gd ((eRows (gd p 0)).getD (eIx (gd p 0)) []) j) z:=by
      cases tk with
      | none =>
       obtain ⟨row',b,o,k1,k2,k3,k4⟩:=hv
       rw [hrow] at k1; injection k1 with k1; subst k1
       exact ⟨b,o+eIx (gd p 0)*row.length,by rw [k2,Nat.add_assoc],fun j s hs=>by obtain ⟨z,j1,_,j3⟩:=k4 j s hs; exact ⟨z,by rw [Nat.add_assoc]; exact j1,j3⟩⟩
      | some t =>
       obtain ⟨row',k1,k2,k3,v0,k4⟩:=hv
       rw [hrow] at k1; injection k1 with k1; subst k1
       refine ⟨g.ρ t,eIx (gd p 0)*row.length,k2,fun j s hs=>?_⟩
       rcases k4 with ⟨h0,_⟩ | ⟨cap,arr,E,h1,h2,h3,h4,h5,h6,h7,h8,h9,h10,h11⟩
       ·rw [h0] at k3; simp at k3
       ·obtain ⟨z,hz1,hz2⟩:=h11 _ j s k3 hs
        exact ⟨z,by simp only [World.cell?,h6]; exact hz1,hz2.vd hdo⟩
     obtain ⟨b,o,rfl,hk⟩:=key
     obtain ⟨z0,hz0,_⟩:=hk 0 _ (List.getElem?_eq_getElem (rowOf_pos hrow))
     refine ⟨b,o,rfl,cell_size hz0,fun j s hs=>?_⟩
     obtain ⟨z,q1,q2⟩:=hk j s hs
     refine ⟨z,q1,?_⟩
     have hj:=(List.getElem?_eq_some_iff.1 hs).1
     show VD P w (sealG g ts).prot s (gd (sub ((eRows (gd p 0)).getD (eIx (gd p 0)) []) 0 row.length) j) z
     rw [gd_sub _ _ _ _ hj,Nat.zero_add]
     exact seal_vd q2
    ·cases h
   | any=>cases h
   | d s =>
    simp only [arg,Ce.aS,Ce.toS,Option.some.injEq] at h
    subst h
    exact aD_ok (base:=base) (c:=.d s) (s:=s) (x:=gd p 0) hv rfl ht
   | kb b =>
    simp only [arg,Ce.aS,Ce.toS,Option.some.injEq] at h
    subst h
    exact aD_ok (base:=base) (c:=.kb b) (s:=.bool) (x:=gd p 0) hv rfl ht
   | own t xm e =>
    simp only [arg,Ce.aS,Ce.toS,Option.some.injEq] at h
    subst h
    exact aD_ok (base:=base) (c:=.own t xm e) (s:=.sl e) (x:=gd p 0) hv rfl ht
   | inn t e off ei =>
    simp only [arg,Ce.aS,Option.some.injEq] at h
    subst h
    exact aD_ok (base:=base) (c:=.inn t e off ei) (s:=.sl ei) (x:=gd p 0) hv rfl ht
theorem evArgsN_ok (hr:Rel P w g base σ a) {ts:List Tok}:∀ {xs:List Operand} {tys:List TypeId} {vs:List T},evArgsN P σ xs tys=some vs→(∀ t∈(xs.map (opd σ)).flatMap (argToks σ),ts.contains t=true) →
  vs.length=xs.length∧∀ (j:Nat) v,vs[j]?=some v→∃ x,xs[j]?=some x∧VT P w (g0 w.heap.size (sealG g ts).prot) w.heap.size v (a.eval x)
 | [],tys,vs,h,_=>by
  simp only [evArgsN,Option.some.injEq] at h
  subst h
  exact ⟨rfl,fun j v h=>by simp at h⟩
 | x::xs,tys,vs,h,ht=>by
  simp only [evArgsN] at h
  split at h
  ·rename_i d ds h1 h2
   injection h with h; subst h
   obtain ⟨k1,k2⟩:=evArgsN_ok hr h2 (fun t h=>ht t (by simp only [List.map_cons,List.flatMap_cons,List.mem_append]; exact .inr h))
   refine ⟨by simp [k1],fun j v hj=>?_⟩
   cases j with
   | zero =>
    simp only [List.getElem?_cons_zero,Option.some.injEq] at hj
    subst hj
    refine ⟨x,rfl,?_⟩
    unfold argN at h1
    split at h1
    ·rename_i t hn
     injection h1 with h1
     subst h1
     unfold nilT at hn
     split at hn
     ·rename_i t0
      split at hn
      ·rename_i e he
       cases hro:rowOf P e with
       | none=>rw [hro] at hn; cases hn
       | some row =>
        rw [hro] at hn
        injection hn with hn
        subst hn
        exact ⟨row,hro,.inl ⟨rfl,rfl,none,rfl⟩⟩
      ·cases hn
     ·cases hn
    ·exact arg_ok hr h1 (opd_ok hr x) (fun t h=>ht t (by simp only [List.map_cons,List.flatMap_cons,List.mem_append]; exact .inl h))
   | succ j =>
    obtain ⟨y,q1,q2⟩:=k2 j v (by simpa using hj)
    exact ⟨y,by simpa using q1,q2⟩
  ·cases h
theorem capTs_get:∀ (cs:List Cap) (ds:List D) (j:Nat),(capTs cs ds)[j]?=(cs[j]?).map fun c=>T.c c.ce (gd ds j)
 | [],ds,j=>by simp [capTs]
 | c::cs,ds,0=>by simp [capTs]
 | c::cs,ds,j+1=>by
  simp only [capTs,List.getElem?_cons_succ,capTs_get cs ds.tail j,gd_tail]
theorem capTs_length:∀ (cs:List Cap) (ds:List D),(capTs cs ds).length=cs.length
 | [],_=>rfl
 | c::cs,ds=>by simp [capTs,capTs_length cs ds.tail]
theorem vs_mem {f:Ce→Ce} {g g':G} {base base':Nat} {sh:Sh} {p:List D} {v:Value} (h:∀ c∈sh.ces,∀ x v,VC P w g base c x v→VC P w g' base' (f c) x v) (hv:VS P w g base sh p v):VS P w g' base' (sh.map f) p v:=by
 have h1:∀ {x:Sh1} {p:List D} {v:Value},(∀ c∈x.ces,∀ x v,VC P w g base c x v→VC P w g' base' (f c) x v)→V1 P w g base x p v→V1 P w g' base' (x.map f) p v:=by
  intro x p v hx hv
  cases x with
  | c c=>exact hx c (by simp [Sh1.ces]) _ _ hv
  | agg xs =>
   obtain ⟨arr,rfl,k1,k2⟩:=hv
   refine ⟨arr,rfl,by rw [List.length_map]; exact k1,fun j c hj=>?_⟩
   rw [List.getElem?_map] at hj
   cases hs:xs[j]? with
   | none=>rw [hs] at hj; cases hj
   | some c0 =>
    rw [hs] at hj; injection hj with hj; subst hj
    obtain ⟨u,q1,q2⟩:=k2 j c0 hs
    exact ⟨u,q1,hx c0 (List.mem_of_getElem? hs) _ _ q2⟩
 cases sh with
 | one x=>exact h1 h hv
 | tup xs =>
  obtain ⟨vs,rfl,k1,k2⟩:=hv
  refine ⟨vs,rfl,by rw [List.length_map]; exact k1,fun j x hj=>?_⟩
  rw [List.getElem?_map] at hj
  cases hs:xs[j]? with
  | none=>rw [hs] at hj; cases hj
  | some x0 =>
   rw [hs] at hj; injection hj with hj; subst hj
   obtain ⟨u,q1,q2⟩:=k2 j x0 hs
   refine ⟨u,q1,?_⟩
   rw [offs_map,Sh1.size_map]
   exact h1 (fun c hc=>h c (List.mem_flatMap.2 ⟨x0,List.mem_of_getElem? hs,hc⟩)) q2
def Goes (P:Program) (base:Nat) (σ':St) (o:Oper) (a:Act) (w:World):Prop:=
 ∀ (K:Act→World→Prop) (Q:Exit→Act→World→Prop),(∀ z w' g',Rel P w' g' base σ' (a.put o.dst z)→Below base w w'→K (a.put o.dst z) w')→o.wp P a w K Q
theorem Does.goes {o:Oper} {σ':St} (h:Does P base σ' o a w):Goes P base σ' o a w:=by
 intro K Q hK
 obtain ⟨z,w',g',h1 | ⟨h1,rfl⟩,h2,h3⟩:=h
 ·unfold Oper.wp; rw [h1]; exact hK z w' g' h2 h3
 ·unfold Oper.wp; rw [h1]; exact hK undef w' g' h2 h3
theorem prim_mem {sh:Sh} (h:sh.prim=true):∀ c∈sh.ces,c.prim=true:=by
 have h1:∀ {x:Sh1},x.prim=true→∀ c∈x.ces,c.prim=true:=by
  intro x hx c hc
  cases x with
  | c c0=>simp only [Sh1.ces,List.mem_singleton] at hc; subst hc; exact hx
  | agg xs=>exact List.all_eq_true.1 hx c hc
 intro c hc
 cases sh with
 | one x=>exact h1 h c hc
 | tup xs =>
  obtain ⟨x,hx,hc⟩:=List.mem_flatMap.1 hc
  exact h1 (List.all_eq_true.1 h x hx) c hc
theorem apart_mem {call:FuncId→List T→Option (T × Bool)} {sh:Sh} (h:apart P call sh=true):∀ c∈sh.ces,(c.prim||apartC P c)=true:=by
 intro c hc
 unfold apart at h
 rw [Bool.or_eq_true] at h
 rcases h with h | h
 ·rw [prim_mem h c hc]; rfl
 ·rw [Bool.and_eq_true] at h
  rw [List.all_eq_true.1 h.2 c hc,Bool.or_true]
theorem DoesC.goes {o:Oper} {σ':St} (h:DoesC P base σ' o a w):Goes P base σ' o a w:=h.does.goes
def GoesB (P:Program) (base:Nat) (σ':St) (o:Oper) (a:Act) (w:World):Prop:=
 ∀ (K:Act→World→Prop) (Q:Exit→Act→World→Prop),(∀ z w' g',Rel P w' g' base σ' (a.put o.dst z)→Below base w w'→Below w.heap.size w w'→K (a.put o.dst z) w')→o.wp P a w K Q
theorem GoesB.goes {o:Oper} {σ':St} (h:GoesB P base σ' o a w):Goes P base σ' o a w:=fun K Q hK=>h K Q fun z w' g' h1 h2 _=>hK z w' g' h1 h2
theorem evCall_ok (hr:Rel P w g base σ a) {call:FuncId→List T→Option (T × Bool)} (hcall:CallOk P call) {o:Oper} {σ':St} {d:Nat} {f:Operand} {xs:Array Operand} {ts0:Array TypeId} (ho:o.op=.call { callee:=.value f,args:=xs,argTypes:=ts0 }) (hdst:o.dst=some d) (hd:∀ d,o.dst=some d→d<a.tmps.size)
  {tys:List TypeId} (h:evCall P call σ d f xs.toList tys=some (σ',true)):GoesB P base σ' o a w:=by
 unfold evCall at h
 split at h
 ·rename_i fid caps hsh
  split at h
  ·rename_i vs cs ds hvs hcs
   split at h
   ·rename_i r ok hcl
    cases hres:r.sh.ces.all resC with
    | false=>rw [hres,Bool.and_false] at h; cases h
    | true =>
     cases hisw:r.sh.isW with
     | true=>rw [hisw] at h; cases h
     | false =>
      rw [hres,hisw,show (!false&&true)=true from rfl,cond_true] at h
      simp only [Option.some.injEq,Prod.mk.injEq] at h
      obtain ⟨rfl,rfl⟩:=h
      let ts:List Tok:=(xs.toList.map (opd σ)).flatMap (argToks σ)++capToks σ caps
      obtain ⟨k1,k2⟩:=evArgsN_ok (ts:=ts) hr hvs (fun t h=>List.contains_iff_mem.2 (List.mem_append.2 (.inl h)))
      obtain ⟨q1,q2⟩:=capArgs_ok (ts:=ts) hr hcs (fun t h=>List.contains_iff_mem.2 (List.mem_append.2 (.inr h)))
      have hfv:=opd_ok hr f
      have hfv:VC P w g base (.fn fid caps) (gd (opd σ f).p 0) (a.eval f):=by
       generalize opd σ f=q at *
       obtain ⟨sh,p⟩:=q
       simp only at hsh
       subst hsh
       exact hfv
      obtain ⟨carr,hfe,hcl1,hcl2⟩:=hfv
      obtain ⟨hen,hcalls⟩:=(hcall _ _ _ hcl).n hisw
      have hxs:xs.toList.length=xs.size:=by simp
      have hargs:ArgsV P (sealG g ts).prot w (vs++capTs cs ds) (xs.map a.eval++carr):=by
       refine ⟨by simp [k1,capTs_length,q1,hcl1],fun j t hj=>?_⟩
       rw [List.getElem?_append] at hj
       split at hj
       ·rename_i hlt
        obtain ⟨x,hx,hxv⟩:=k2 j t hj
        refine ⟨a.eval x,?_,hxv⟩
        rw [Array.getElem?_append_left (by simp; omega),Array.getElem?_map]
        have:xs[j]?=some x:=by simpa using hx
        rw [this]; rfl
       ·rename_i hge
        rw [capTs_get] at hj
        cases hc:cs[j - vs.length]? with
        | none=>rw [hc] at hj; cases hj
        | some c =>
         rw [hc] at hj; injection hj with hj; subst hj
         obtain ⟨c0,m1,m2⟩:=q2 _ c hc
         obtain ⟨u,m3,m4⟩:=hcl2 _ c0 m1
         refine ⟨u,?_,?_⟩
         ·rw [Array.getElem?_append_right (by simp; omega)]
          simp only [Array.size_map,← k1.symm]
          rw [show xs.size=vs.length from by rw [k1]; simp]
          exact m3
         ·have:=m2 u m4
          cases c <;> exact this
      have hfr:∀ b,w.heap.size≤b→(sealG g ts).prot b=0:=fun b hb=>((hr.seal ts).fresh b hb).1
      intro K Q hK
      unfold Oper.wp
      have hrun:(execOp a.eval o).run P w=.ok (.enter fid (xs.map a.eval++carr)) w:=by
       simp only [execOp,ho,resolve,hfe,Deferred.ofValue,Sem.run_bind,Sem.run_pure,Result.andThen_ok,invoke]
       simpa using hen (xs.map a.eval++carr) w
      rw [hrun]
      refine (hcalls w _ _ hargs hfr).mono ?_
      rintro e w' ⟨v,g',rfl,hR⟩
      let ts':List Tok:=bif apart P call r.sh then [] else ts
      let gs:=sealG g ts'
      have hrs:Rel P w gs base (σ.seal ts') a:=hr.seal ts'
      let g2:G:={ prot:=fun b=>if b<w.heap.size then gs.prot b else g'.prot b, owner:=fun b=>if b<w.heap.size then gs.owner b else match g'.owner b with | some (.inr t)=>some (.inr (d,t.2)) | _=>none, θ:=gs.θ,ρ:=fun t=>if t.1=d then g'.ρ (0,t.2) else gs.ρ t,len:=fun t=>if t.1=d then g'.len (0,t.2) else gs.len t, wid:=fun t=>if t.1=d then g'.wid (0,t.2) else gs.wid t,ety:=fun t=>if t.1=d then g'.ety (0,t.2) else gs.ety t, path:=fun b=>if b<w.heap.size then gs.path b else g'.path b,need:=fun b=>if b<w.heap.size then gs.need b else g'.need b,old:=gs.old }
      have hE:Ext (some d) gs g2 w w':=by
       refine ⟨hR.below.size,fun id h=>rfl,fun t h=>?_,fun b h=>if_pos h,fun b h=>if_pos h,fun b h=>hR.below.block b h,fun b h=>⟨if_pos h,if_pos h⟩,rfl,fun b t hge h=>?_⟩
       rotate_right
       ·change (if b<w.heap.size then _ else match g'.owner b with | some (Sum.inr t)=>some (Sum.inr (d,t.2)) | _=>none)=_ at h
        rw [if_neg (by omega)] at h
        split at h
        ·injection h with h; injection h with h; exact .inl (by rw [← h])
        ·cases h
       have:t.1≠d:=fun e=>h (by rw [e])
       exact ⟨if_neg this,if_neg this,if_neg this,if_neg this⟩
      have hF:∀ b,w'.heap.size≤b→g2.prot b=0∧g2.owner b=none:=fun b hb=>by
       have hge:=hR.below.size
       have:=hR.fresh b hb
       refine ⟨by show (if b<w.heap.size then _ else _)=_; rw [if_neg (by omega)]; exact this.1,?_⟩
       show (if b<w.heap.size then _ else match g'.owner b with | some (Sum.inr t)=>some (Sum.inr (d,t.2)) | _=>none)=_
       rw [if_neg (by omega),this.2]
      have hrel:=hrs.wipeRow (hd d hdst) hE rfl hF
      have hval:VT P w' g2 base ⟨r.sh.map (retokC d),r.p⟩ v:=by
       refine vs_mem (fun c hc x u hcv=>?_) hR.val
       have hcr:=List.all_eq_true.1 hres c hc
       have hprot:apart P call r.sh=false→∀ b o z,o<g'.prot b→w'.cell? ⟨b,o,none⟩=some z→w'.cell? ⟨b,o,none⟩=some z∧o<g2.prot b:=fun hp b o z h1 h2=>by
        refine ⟨h2,?_⟩
        show o<(if b<w.heap.size then gs.prot b else g'.prot b)
        split
        ·rename_i hlt
         have e:gs=sealG g ts:=by show sealG g (bif apart P call r.sh then [] else ts)=_; rw [hp]; rfl
         rw [e,← hR.prot b hlt]; exact h1
        ·exact h1
       cases c with
       | d s =>
        show VD P w' g2.prot s x u
        have hcv:VD P w' g'.prot s x u:=hcv
        cases hp:apart P call r.sh with
        | false=>exact hcv.mono (hprot hp)
        | true =>
         have:=apart_mem hp _ hc
         cases hcv with
         | int k y=>exact .int k _
         | bool y=>exact .bool _
         | str y=>exact .str _
         | sl=>simp [Ce.prim,apartC,S.flat] at this
       | own t xm e =>
        obtain ⟨t1,ix⟩:=t
        have ht0:t1=0:=by simpa [resC] using hcr
        subst ht0
        obtain ⟨row,hrow,hown⟩:=hcv
        refine ⟨row,hrow,?_⟩
        have e1:g2.ρ (d,ix)=g'.ρ (0,ix):=if_pos rfl
        have e2:g2.len (d,ix)=g'.len (0,ix):=if_pos rfl
        have e3:g2.wid (d,ix)=g'.wid (0,ix):=if_pos rfl
        have e4:g2.ety (d,ix)=g'.ety (0,ix):=if_pos rfl
        rcases hown with ⟨h0,h1,h2⟩ | ⟨cap,arr,E,h1,h2,h3,h4,h5,h6,h7,h8,h9,h10,h11⟩
        ·exact .inl ⟨h0,by show g2.len (d,ix)=0; rw [e2]; exact h1,h2⟩
        ·have hge:¬ g'.ρ (0,ix)<w.heap.size:=by omega
         refine .inr ⟨cap,arr,E,by show u=.slice (some ⟨g2.ρ (d,ix),0,none⟩) _ _; rw [e1]; exact h1,h2,by show _∧_∧e=g2.ety (d,ix); rw [e4]; exact h3,by show base≤g2.ρ (d,ix); rw [e1]; exact Nat.le_trans hr.base_le h4,?_,by show w'.heap[g2.ρ (d,ix)]?=_; rw [e1]; exact h6,h7,by show _=g2.len (d,ix); rw [e2]; exact h8,by show _=g2.wid (d,ix); rw [e3]; exact h9,?_,fun i j s hi hs=>?_⟩
         ·show g2.owner (g2.ρ (d,ix))=some (.inr (d,ix))
          rw [e1]
          show (if g'.ρ (0,ix)<w.heap.size then _ else match g'.owner (g'.ρ (0,ix)) with | some (Sum.inr t)=>some (Sum.inr (d,t.2)) | _=>none)=_
          rw [if_neg hge,h5]
         ·show g2.prot (g2.ρ (d,ix))=if xm then 0 else g2.len (d,ix)*g2.wid (d,ix)
          rw [e1,e2,e3]
          show (if g'.ρ (0,ix)<w.heap.size then _ else g'.prot (g'.ρ (0,ix)))=_
          rw [if_neg hge,h10]
         ·obtain ⟨z,z1,z2⟩:=h11 i j s hi hs
          refine ⟨z,z1,?_⟩
          have hdt:(deepT (d,ix)&&xm)=(deepT (0,ix)&&xm):=rfl
          cases hdp:(deepT (0,ix)&&xm) with
          | true =>
           unfold CellV at z2 ⊢
           rw [if_pos hdp] at z2
           rw [if_pos (hdt.trans hdp)]
           refine TR.mono (fun π=>π) (fun _ _ _=>rfl) z2 (fun b π n o _ hl ho=>⟨ho,?_⟩) (by simp)
           obtain ⟨l0,l1,l2,l3,l4,l5⟩:=hl
           have hge:¬ b<w.heap.size:=by omega
           refine ⟨Nat.le_trans hr.base_le l0,?_,by rw [e1]; exact l2,?_,?_,?_⟩
           ·show (if b<w.heap.size then _ else match g'.owner b with | some (Sum.inr t)=>some (Sum.inr (d,t.2)) | _=>none)=_
            rw [if_neg hge,l1]
           ·exact (if_neg hge).trans l3
           ·exact (if_neg hge).trans l4
           ·exact (if_neg hge).trans l5
          | false =>
           have z2:VD P w' g'.prot s (gd (x.rows.getD i []) j) z:=by unfold CellV at z2; rwa [if_neg (by rw [hdp]; simp)] at z2
           refine .of_vd ?_ (.inl (hdt.trans hdp))
           cases hp:apart P call r.sh with
           | false=>exact z2.mono (hprot hp)
           | true =>
            have:=apart_mem hp _ hc
            simp only [Ce.prim,Bool.false_or,apartC,hdp,flatRow,hrow] at this
            have:=List.all_eq_true.1 this s (List.mem_of_getElem? hs)
            exact (TR.of_flat (lab:=fun _ _ _=>True) (π:= []) z2 this).vd_flat this
       | _=>simp [resC] at hcr
      have hb:Below base w w':=hR.below.mono hr.base_le
      have:=hK v w' g2 (by
       have:=hrel.put hd (dst:=o.dst) (t:=⟨r.sh.map (retokC d),r.p⟩) hval
       rw [hdst] at this ⊢
       exact this) hb hR.below
      exact this
   ·cases h
  ·cases h
 ·cases h
theorem noW_ok {call:FuncId→List T→Option (T × Bool)} (h:CallOk P call):CallOk P (noW call):=by
 intro f args r hc
 unfold noW at hc
 split at hc
 ·rename_i r' ok he
  cases hw:r'.sh.isW with
  | true=>rw [hw] at hc; cases hc
  | false =>
   rw [hw,cond_false] at hc
   simp only [Option.some.injEq,Prod.mk.injEq] at hc
   obtain ⟨rfl,rfl⟩:=hc
   exact h _ _ _ he
 ·cases hc
theorem noW_not {call:FuncId→List T→Option (T × Bool)} {f:FuncId} {args:List T} {r:T} {ok:Bool} (hc:noW call f args=some (r,ok)):r.sh.isW=false:=by
 unfold noW at hc
 split at hc
 ·rename_i r' ok he
  cases hw:r'.sh.isW with
  | true=>rw [hw] at hc; cases hc
  | false =>
   rw [hw,cond_false] at hc
   simp only [Option.some.injEq,Prod.mk.injEq] at hc
   obtain ⟨rfl,rfl⟩:=hc
   exact hw
 ·cases hc
theorem writ_rel (hr:Rel P w g base σ a) {t:Tok} {e:TypeId} {rows rows':List (List D)} {u:Value} (hown:OwnV P w g base t true e [.int .i64] rows u) {cap:Nat} {arr:Array Value}
  (hu:u=.slice (some ⟨g.ρ t,0,none⟩) rows.length cap) (hcap:rows.length≤cap) (hc63:cap≤9223372036854775807) (hety:e=g.ety t) (hbase:base≤g.ρ t) (howner:g.owner (g.ρ t)=some (.inr t)) (hh:w.heap[g.ρ t]?=some (.cells arr e (0,0))) (hsz:arr.size=cap) (hwid:1=g.wid t) (hp0:g.prot (g.ρ t)=0)
  (hle:rows'.length≤rows.length) (hw:Writ (g.ρ t) e arr rows' w w') (hrow:rowOf P e=some [.int .i64]) (hpt:t.1≠1000001) :
  ∃ g',Rel P w' g' base (σ.map (dropC t)) a∧VT P w' g' base (.c (.own t true e) (.l rows')) (.slice (some ⟨g.ρ t,0,none⟩) rows'.length cap)∧Below base w w':=by
 obtain ⟨hbel,hoth,arr',hh',hsz',hcells⟩:=hw
 let g':G:={ g with len:=fun u=>if u=t then rows'.length else g.len u }
 have hcell:∀ b o u,o<g.prot b→w.cell? ⟨b,o,none⟩=some u→w'.cell? ⟨b,o,none⟩=some u∧o<g'.prot b:=fun b o u h1 h2=>by
  have hne:b≠g.ρ t:=by rintro rfl; omega
  exact ⟨(cell_of_heap (hoth b (cell_size h2) hne) o).trans h2,h1⟩
 have hk:Kept P base g g' w w' (dropC t):=by
  refine kept_drop hcell (fun b t' ht' ho hb=>?_) (fun t' ht'=>⟨rfl,if_neg ht',rfl,rfl⟩) rfl (fun b hb=>hoth b (hr.low.2.1 b hb).2.2.2 (hr.oldNe hb howner))
  have hne:b≠g.ρ t:=by intro e; rw [e,howner] at ho; injection ho with ho; injection ho with ho; exact ht' ho.symm
  exact ⟨hoth b hb hne,rfl,rfl⟩
 have hrel:Rel P w' g' base (σ.map (dropC t)) a:=by
  refine hr.drop hk rfl (fun b id ho hb=>?_) (fun b hb=>?_) hbel.size (fun b hb=>⟨rfl,rfl,hoth b (hr.low.2.1 b hb).2.2.2 (hr.oldNe hb howner)⟩) rfl (fun t' ht'=>⟨rfl,if_neg (unpin hpt ht'),fun b ho hb=>⟨ho,hoth b hb (by intro e; rw [e,howner] at ho; injection ho with ho; injection ho with ho; exact unpin hpt ht' ho.symm)⟩⟩) (fun _ _ _ ho=>⟨ho,rfl,rfl⟩)
  ·have hne:b≠g.ρ t:=by intro e; rw [e,howner] at ho; injection ho with ho; cases ho
   exact ⟨hoth b hb hne,rfl,rfl⟩
  ·exact hr.fresh b (Nat.le_trans hbel.size hb)
 refine ⟨g',hrel,⟨[.int .i64],hrow,.inr ⟨cap,arr',e,rfl,by show rows'.length≤cap; omega,⟨hc63,rfl,hety⟩,hbase,howner,hh',by rw [hsz',hsz]; simp,by show rows'.length=if t=t then _ else _; rw [if_pos rfl],hwid,hp0,?_⟩⟩,?_⟩
 ·intro i j s hi hs
  have hi':i<rows'.length:=hi
  match j,hs with
  | 0,hs =>
   injection hs with hs
   subst hs
   have:=hcells i hi'
   exact ⟨.int .i64 (gd (rows'.getD i []) 0).int,by simpa using this,.of_vd (.int .i64 _) (.inr rfl)⟩
 ·exact ⟨hbel.os,hbel.tape,hbel.output,hbel.size,fun k hk'=>hoth k (Nat.lt_of_lt_of_le hk' hr.base_le) (by omega)⟩
theorem setRows_rel (hr:Rel P w g base σ a) {t:Tok} {rows':List (List D)} (hcell:∀ b o u,o<g.prot b→w.cell? ⟨b,o,none⟩=some u→w'.cell? ⟨b,o,none⟩=some u)
  (hblk:∀ b t',t'≠t→g.owner b=some (.inr t')→b<w.heap.size→w'.heap[b]?=w.heap[b]?) (hbox:∀ b id,g.owner b=some (.inl id)→b<w.heap.size→w'.heap[b]?=w.heap[b]?)
  (hlow:∀ b,g.old b→w'.heap[b]?=w.heap[b]?) (hsz:w.heap.size≤w'.heap.size)
  (hownt:∀ {xm:Bool} {e':TypeId} {row':List S} {rowsT:List (List D)} {v:Value},rowOf P e'=some row'→OwnV P w g base t xm e' row' rowsT v→rowsT.length=rows'.length∧OwnV P w' g base t xm e' row' rows' v) (hpn:∀ b t arr e,t.1=1000001→g.owner b=some (.inr t)→b=g.ρ t→w.heap[b]?=some (.cells arr e (0,0))→0<arr.size→∃ arr',w'.heap[b]?=some (.cells arr' e (0,0))∧arr'.size=arr.size):Rel P w' g base (σ.setRows t rows') a:=by
 have hvd:∀ {s:S} {x:D} {v:Value},VD P w g.prot s x v→VD P w' g.prot s x v:=fun h=>h.mono fun b o u q1 q2=>⟨hcell b o u q1 q2,q1⟩
 have hownu:∀ {t':Tok} {xm:Bool} {e':TypeId} {row':List S} {rowsT:List (List D)} {v:Value},t'≠t→OwnV P w g base t' xm e' row' rowsT v→OwnV P w' g base t' xm e' row' rowsT v:=by
  intro t' xm e' row' rowsT v ht h
  rcases h with h | ⟨cap',arr',E',k1,k2,k3,k4,k5,k6,k7,k8,k9,k10,k11⟩
  ·exact .inl h
  ·refine .inr ⟨cap',arr',E',k1,k2,k3,k4,k5,by rw [hblk _ t' ht k5 (lt_of_heap k6)]; exact k6,k7,k8,k9,k10,fun i' j s hi' hs=>?_⟩
   obtain ⟨u,q1,q2⟩:=k11 i' j s hi' hs
   exact ⟨u,q1,q2.mono rfl (fun b o u z1 z2=>⟨hcell b o u z1 z2,z1⟩) (fun _ b o h0 ho' hne hb=>⟨(hblk b t' ht ho' (lt_of_heap hb)).trans hb,h0,ho',hne,rfl,rfl,fun e=>e⟩)⟩
 have hcptr:∀ {cells:List S} {off':Nat} {x:D} {v:Value},CptrV P w g base cells off' x v→CptrV P w' g base cells off' x v:=by
  rintro cells off' x v ⟨b,o,q1,q2,q3⟩
  refine ⟨b,o,q1,q2,fun j s hs=>?_⟩
  obtain ⟨u,z1,z2⟩:=q3 j s hs
  exact ⟨u,(cell_of_heap (hlow b q2) _).trans z1,hvd z2⟩
 have hkc:∀ c x v,VC P w g base c x v→VC P w' g base (innC (· == t) c) (setD t rows' c x) v:=by
  intro c x v hv
  cases c with
  | any=>trivial
  | d s=>exact hvd hv
  | kb b=>exact hv
  | own t' xm e' =>
   obtain ⟨row',hr',hv⟩:=hv
   refine ⟨row',hr',?_⟩
   show OwnV P _ g base t' xm e' row' (bif t'==t then D.l rows' else x).rows v
   by_cases ht:t'=t
   ·subst ht
    rw [show (t'==t')=true from by simp]
    exact (hownt hr' hv).2
   ·rw [show (t'==t)=false from by simpa using ht]
    exact hownu ht hv
  | ptr id off'=>exact hv
  | eptr tk e' off' =>
   cases tk with
   | none =>
    obtain ⟨row',b,o,q1,q2,q3,q4⟩:=hv
    refine ⟨row',b,o,q1,q2,q3,fun j s hs=>?_⟩
    obtain ⟨u,z1,z2,z3⟩:=q4 j s hs
    exact ⟨u,hcell _ _ _ z2 z1,z2,hvd z3⟩
   | some t' =>
    obtain ⟨row',hr',q2,q3,u,q4⟩:=hv
    refine ⟨row',hr',?_⟩
    show v=.pointer (some ⟨g.ρ t',eIx (bif t'==t then D.l [[.l rows',gd (x.rows.getD 0 []) 1]] else x)*row'.length+off',none⟩)∧eIx (bif t'==t then D.l [[.l rows',gd (x.rows.getD 0 []) 1]] else x)<(eRows (bif t'==t then D.l [[.l rows',gd (x.rows.getD 0 []) 1]] else x)).length∧∃ u,OwnV P _ g base t' true e' row' (eRows (bif t'==t then D.l [[.l rows',gd (x.rows.getD 0 []) 1]] else x)) u
    by_cases ht:t'=t
    ·subst ht
     rw [show (t'==t')=true from by simp,cond_true]
     obtain ⟨z1,z2⟩:=hownt hr' q4
     exact ⟨q2,by show eIx x<rows'.length; rw [← z1]; exact q3,u,z2⟩
    ·rw [show (t'==t)=false from by simpa using ht,cond_false]
     exact ⟨q2,q3,u,hownu ht q4⟩
  | inn t' e' off' ei' =>
   show VC P _ g base (bif t'==t then .any else .inn t' e' off' ei') x v
   by_cases ht:t'=t
   ·rw [show (t'==t)=true from by simpa using ht]; trivial
   ·rw [show (t'==t)=false from by simpa using ht,cond_false]
    exact inn_mono hv rfl (fun o h5' h6'=>(hblk _ t' ht h5' (lt_of_heap h6')).trans h6') (fun hu=>hownu ht hu)
  | cptr cells off'=>exact hcptr hv
  | fn f caps =>
   obtain ⟨arr',q1,q2,q3⟩:=hv
   refine ⟨arr',q1,q2,fun j c hc=>?_⟩
   obtain ⟨u,hu,hcap⟩:=q3 j c hc
   refine ⟨u,hu,?_⟩
   cases c with
   | d s=>exact hvd hcap
   | ptr id off=>exact hcap
   | cptr cells off=>exact hcptr hcap
 have hvcs:∀ {cs:List Ce} {ds:List D} {arr':Array Value},VCs P w g base cs ds arr'→VCs P w' g base (cs.map (innC (· == t))) (setDs t rows' cs ds) arr':=by
  intro cs ds arr' h
  refine ⟨by rw [List.length_map]; exact h.1,fun j c hj=>?_⟩
  obtain ⟨c0,hj0,rfl⟩:=map_get hj
  obtain ⟨u,q1,q2⟩:=h.2 j c0 hj0
  exact ⟨u,q1,by rw [setDs_get _ _ _ _ j c0 hj0]; exact hkc c0 _ _ q2⟩
 have hvt:∀ {q:T} {v:Value},VT P w g base q v→VT P w' g base (setT t rows' q) v:=by
  intro q v hv
  obtain ⟨sh,pq⟩:=q
  cases sh with
  | tup xs=>trivial
  | one xx=>cases xx with
   | c xx =>
    show VC P _ g base (innC (· == t) xx) (gd (setDs t rows' [xx] pq) 0) v
    rw [setDs_get _ _ _ _ 0 xx rfl]
    exact hkc xx _ _ hv
   | agg xs =>
    obtain ⟨arr',rfl,hh⟩:=hv
    exact ⟨arr',rfl,hvcs hh⟩
 refine ⟨fun j=>?_,fun id cs1 ds1 hq=>?_,fun b hb=>hr.fresh b (Nat.le_trans hsz hb),Nat.le_trans hr.base_le hsz,hr.defers,hr.lowIn hlow hsz hpn,hr.mine⟩
 ·have e1:=look2_map (setT t rows') rfl σ.e j σ.r
  show VT P _ g base (look2 j (σ.e.map _) (σ.r.map _)) _
  rw [e1]
  exact hvt (hr.env j)
 ·have e1:=hlook_map3 (List.map (innC (· == t))) (setDs t rows') σ.h id
  change hlook id (σ.setRows t rows').h=_ at e1
  rw [hq] at e1
  cases hq2:hlook id σ.h with
  | none=>rw [hq2] at e1; cases e1
  | some q =>
   obtain ⟨cs0,ds0⟩:=q
   rw [hq2] at e1
   injection e1 with e1
   injection e1 with e2 e3
   subst e2; subst e3
   obtain ⟨j1,j2,j3,jl,arr',E',j4,j5⟩:=hr.box id _ _ hq2
   exact ⟨j1,j2,j3,by rw [setDs_length,List.length_map],arr',E',by rw [hbox _ id j2 (lt_of_heap j4)]; exact j4,hvcs j5⟩
theorem evW0_ok (hr:Rel P w g base σ a) {call:FuncId→List T→Option (T × Bool)} (hcall:CallOk P call) {o:Oper} {σ':St} {f:Operand} {xs:Array Operand} {ts0:Array TypeId} (ho:o.op=.call { callee:=.value f,args:=xs,argTypes:=ts0 }) (hd:∀ d,o.dst=some d→d<a.tmps.size)
  (h:evW0 P call σ o.dst f xs.toList=some (σ',true)):Goes P base σ' o a w:=by
 unfold evW0 at h
 split at h
 ·rename_i fid i hsh hxs
  split at h
  ·rename_i t e hsi
   split at h
   ·rename_i r ok hcl
    cases hq:(rowOf P e==some [.int .i64]&&t.1 != 1000001) with
    | false=>rw [hq] at h; cases h
    | true =>
     rw [hq,cond_true] at h
     rw [Bool.and_eq_true] at hq
     have hpt:t.1≠1000001:=by simpa using hq.2
     have hrow:rowOf P e=some [.int .i64]:=by simpa using hq.1
     have hxs':xs = #[.tmp i]:=by cases xs; simp_all
     subst hxs'
     have hfv:=opd_ok hr f
     have hfv:VC P w g base (.fn fid []) (gd (opd σ f).p 0) (a.eval f):=by
      generalize opd σ f=q at *
      obtain ⟨sh,p⟩:=q
      simp only at hsh
      subst hsh
      exact hfv
     obtain ⟨carr,hfe,hcl1,_⟩:=hfv
     have hc0:carr = #[]:=by simpa using hcl1
     subst hc0
     have hiv:=opd_ok hr (.tmp i)
     have hiv:VC P w g base (.own t true e) (gd (opd σ (.tmp i)).p 0) (a.eval (.tmp i)):=by
      generalize opd σ (.tmp i)=q at *
      obtain ⟨sh,p⟩:=q
      simp only at hsi
      subst hsi
      exact hiv
     obtain ⟨row',hrow',hown⟩:=hiv
     rw [hrow] at hrow'; injection hrow' with hrow'; subst hrow'
     generalize hx:gd (opd σ (.tmp i)).p 0=x at *
     have hisw:r.sh.isW=true∧r.sh.isK=false∧r.sh.isM=false∧r.sh.isP=false∧r.sh.isX=false∧ok=true:=by
      split at h
      ·rename_i c hrs
       simp only [Option.some.injEq,Prod.mk.injEq] at h
       exact ⟨by rw [hrs]; rfl,by rw [hrs]; rfl,by rw [hrs]; rfl,by rw [hrs]; rfl,by rw [hrs]; rfl,h.2⟩
      ·rename_i hrs
       simp only [Option.some.injEq,Prod.mk.injEq] at h
       exact ⟨by rw [hrs]; rfl,by rw [hrs]; rfl,by rw [hrs]; rfl,by rw [hrs]; rfl,by rw [hrs]; rfl,h.2⟩
      ·cases h
     obtain ⟨hisw,hisk,hism,hisp,hisx,hok⟩:=hisw
     subst hok
     obtain ⟨hen,hcalls⟩:=(hcall _ _ _ hcl).w hisw hisk hism hisp hisx
     obtain ⟨hC0,hC⟩:=hcalls e x rfl hrow
     have hgd:∀ {w' g'} {v:Value},VT P w' g' base (.c (.own t true e) (.l (gd r.p 0).rows)) v→VT P w' g' base (.c (.own t true e) (gd r.p 0)) v:=fun {w' g' v} h=>h
     intro K Q hK
     unfold Oper.wp
     have hrun:(execOp a.eval o).run P w=.ok (.enter fid #[a.eval (.tmp i)]) w:=by
      simp only [execOp,ho,resolve,hfe,Deferred.ofValue,Sem.run_bind,Sem.run_pure,Result.andThen_ok,invoke]
      simpa using hen #[a.eval (.tmp i)] w
     rw [hrun]
     rcases hown with ⟨h0,h1,A,hv⟩ | ⟨cap,arr,E,k1,k2,⟨k3,rfl,k3'⟩,k4,k5,k6,k7,k8,k9,k10,k11⟩
     ·obtain ⟨hr0,hcc⟩:=hC0 h0
      rw [hv]
      refine (hcc A w).mono ?_
      rintro ex w' ⟨rfl,hbel⟩
      have hoth:∀ k,k<w.heap.size→w'.heap[k]?=w.heap[k]?:=fun k hk=>hbel.block k hk
      split at h
      ·rename_i c hrs
       simp only [Option.some.injEq,Prod.mk.injEq] at h
       obtain ⟨rfl,_⟩:=h
       have hrel:Rel P w' g base (σ.setRows t (gd r.p 0).rows) a:=setRows_rel hr (fun b o u q1 q2=>(cell_of_heap (hoth b (cell_size q2)) o).trans q2) (fun b _ _ _ hb=>hoth b hb) (fun b _ _ hb=>hoth b hb) (fun b hb=>hoth b (hr.low.2.1 b hb).2.2.2) hbel.size (fun {xm e' row' rowsT v} hr' ho'=>by
        rw [hr0]
        rcases ho' with ⟨q0,q1,q2⟩ | ⟨cap',arr',E',q1,q2,q3,q4,q5,q6,q7,q8,q9,q10,q11⟩
        ·exact ⟨by rw [q0],.inl ⟨rfl,q1,q2⟩⟩
        ·have hz:rowsT.length=0:=by omega
         refine ⟨hz,.inr ⟨cap',arr',E',by rw [q1,hz]; rfl,Nat.zero_le _,q3,q4,q5,by rw [hoth _ (lt_of_heap q6)]; exact q6,q7,by rw [← q8,hz]; rfl,q9,q10,fun i' j s hi' _=>by simp at hi'⟩⟩) (fun b t' arr1 e1 _ _ _ hb _=>⟨arr1,(hoth b (lt_of_heap hb)).trans hb,rfl⟩)
       rw [hrs]
       exact hK _ w' g (hrel.put hd (dst:=o.dst) (t:=.none_) (v:=.tuple #[]) ⟨#[],rfl,rfl,fun j x h=>by simp at h⟩) (hbel.mono hr.base_le)
      ·rename_i hrs
       simp only [Option.some.injEq,Prod.mk.injEq] at h
       obtain ⟨rfl,_⟩:=h
       have hk:Kept P base g g w w' (dropC t):=kept_drop (fun b o u q1 q2=>⟨(cell_of_heap (hoth b (cell_size q2)) o).trans q2,q1⟩) (fun b t' _ _ hb=>⟨hoth b hb,rfl,rfl⟩) (fun _ _=>⟨rfl,rfl,rfl,rfl⟩) rfl (fun b hb=>hoth b (hr.low.2.1 b hb).2.2.2)
       have hrel:Rel P w' g base (σ.map (dropC t)) a:=hr.drop hk rfl (fun b _ _ hb=>⟨hoth b hb,rfl,rfl⟩) (fun b hb=>hr.fresh b (Nat.le_trans hbel.size hb)) hbel.size (fun b hb=>⟨rfl,rfl,hoth b (hr.low.2.1 b hb).2.2.2⟩) rfl (fun t' _=>⟨rfl,rfl,fun b ho hb=>⟨ho,hoth b hb⟩⟩) (fun _ _ _ ho=>⟨ho,rfl,rfl⟩)
       rw [hrs]
       exact hK _ w' g (hrel.put hd (dst:=o.dst) (hgd (v:=.slice A 0 0) ⟨_,hrow,.inl ⟨hr0,h1,A,rfl⟩⟩)) (hbel.mono hr.base_le)
      ·cases h
     ·have hnum:∀ i,i<x.rows.length→arr[i]?=some (.int .i64 (gd (x.rows.getD i []) 0).int):=fun i hi=>by
       obtain ⟨u,q1,q2⟩:=k11 i 0 (.int .i64) hi rfl
       have q2:=q2.vd_flat rfl
       cases q2
       simpa using q1
      have hcs:arr.size=cap:=by rw [k7]; simp
      obtain ⟨hle,hsame,hcc⟩:=hC w (g.ρ t) cap arr k6 hcs k2 k3 hnum
      rw [k1]
      refine hcc.mono ?_
      rintro ex w' ⟨rfl,hW⟩
      split at h
      ·rename_i c hrs
       simp only [Option.some.injEq,Prod.mk.injEq] at h
       obtain ⟨rfl,_⟩:=h
       have hsame:=hsame ⟨c,hrs⟩
       obtain ⟨hbel,hoth,arr',hh',hsz',hcells⟩:=hW
       have hp0:g.prot (g.ρ t)=0:=by simpa using k10
       have hrel:Rel P w' g base (σ.setRows t (gd r.p 0).rows) a:=setRows_rel hr (fun b o u q1 q2=>(cell_of_heap (hoth b (cell_size q2) (by rintro rfl; omega)) o).trans q2)
        (fun b t' ht' ho' hb=>hoth b hb (by intro e; rw [e,k5] at ho'; injection ho' with ho'; injection ho' with ho'; exact ht' ho'.symm))
        (fun b id ho' hb=>hoth b hb (by intro e; rw [e,k5] at ho'; injection ho' with ho'; cases ho'))
        (fun b hb=>hoth b (hr.low.2.1 b hb).2.2.2 (hr.oldNe hb k5)) hbel.size (fun {xm e' row' rowsT v} hr' ho'=>by
        rcases ho' with ⟨q0,q1,q2⟩ | ⟨cap',arr1,E',q1,q2,⟨q3,qE,q3'⟩,q4,q5,q6,q7,q8,q9,q10,q11⟩
        ·have hz:(gd r.p 0).rows = []:=List.eq_nil_of_length_eq_zero (by omega)
         rw [hz]
         exact ⟨by rw [q0],.inl ⟨rfl,q1,q2⟩⟩
        ·have ee:e'=E:=by rw [q3',k3']
         subst ee
         rw [hrow] at hr'; injection hr' with hr'; subst hr'
         rw [k6] at q6
         injection q6 with q6
         injection q6 with z1 z2 z3
         subst z1
         have hll:rowsT.length=(gd r.p 0).rows.length:=by omega
         refine ⟨hll,.inr ⟨cap',arr',e',by rw [q1,hll],by omega,⟨q3,rfl,q3'⟩,q4,q5,hh',by rw [hsz']; exact q7,by omega,q9,q10,fun i' j s hi' hs=>?_⟩⟩
         match j,hs with
         | 0,hs =>
          injection hs with hs
          subst hs
          exact ⟨_,by simpa using hcells i' hi',.of_vd (.int .i64 _) (.inr rfl)⟩) (fun b t' arr1 e1 hp1 ho1 hb1 hb _=>by
        have hne:b≠g.ρ t:=by intro e; rw [e,k5] at ho1; injection ho1 with ho1; injection ho1 with ho1; exact unpin hpt hp1 ho1.symm
        exact ⟨arr1,(hoth b (lt_of_heap hb) hne).trans hb,rfl⟩)
       rw [hrs]
       exact hK _ w' g (hrel.put hd (dst:=o.dst) (t:=.none_) (v:=.tuple #[]) ⟨#[],rfl,rfl,fun j x h=>by simp at h⟩) ⟨hbel.os,hbel.tape,hbel.output,hbel.size,fun k hk'=>hoth k (Nat.lt_of_lt_of_le hk' hr.base_le) (by omega)⟩
      ·rename_i hrs
       simp only [Option.some.injEq,Prod.mk.injEq] at h
       obtain ⟨rfl,_⟩:=h
       obtain ⟨g',q1,q2,q3⟩:=writ_rel hr (.inr ⟨cap,arr,E,k1,k2,⟨k3,rfl,k3'⟩,k4,k5,k6,k7,k8,k9,k10,k11⟩) k1 k2 k3 k3' k4 k5 k6 hcs (by simpa using k9) (by simpa using k10) hle hW hrow hpt
       rw [hrs]
       exact hK _ w' g' (q1.put hd (dst:=o.dst) (hgd q2)) q3
      ·cases h
   ·cases h
  ·cases h
 ·cases h
theorem evK_ok (hr:Rel P w g base σ a) {call:FuncId→List T→Option (T × Bool)} (hcall:CallOk P call) {o:Oper} {σ':St} {f:Operand} {xs:Array Operand} {ts0:Array TypeId} {tys:List TypeId} (ho:o.op=.call { callee:=.value f,args:=xs,argTypes:=ts0 }) (hd:∀ d,o.dst=some d→d<a.tmps.size)
  (h:evK P call σ o.dst f xs.toList tys=some (σ',true)):Goes P base σ' o a w:=by
 unfold evK at h
 split at h
 ·rename_i fid i ys hsh hxs
  split at h
  ·rename_i t e hsi
   split at h
   ·rename_i vs row hvs hrow
    split at h
    ·rename_i r ok hcl
     cases hq:(r.sh.isK&&row.all S.flat && !((ys.map (opd (σ.map (dropC t)))).flatMap (argToks (σ.map (dropC t)))).contains t&&(!r.sh.isKo||(ys.map (opd (σ.map (dropC t)))).all fun q=>q.sh.ownOr)&&t.1 != 1000001) with
     | false=>rw [hq] at h; cases h
     | true =>
      rw [hq,cond_true] at h
      simp only [Option.some.injEq,Prod.mk.injEq] at h
      obtain ⟨rfl,rfl⟩:=h
      rw [Bool.and_eq_true,Bool.and_eq_true,Bool.and_eq_true,Bool.and_eq_true] at hq
      obtain ⟨⟨⟨⟨hisk,hflat⟩,hts⟩,hko⟩,hpt⟩:=hq
      have hpt:t.1≠1000001:=by simpa using hpt
      let ts:List Tok:=(ys.map (opd (σ.map (dropC t)))).flatMap (argToks (σ.map (dropC t)))
      have hts:ts.contains t=false:=by
       cases h0:ts.contains t with
       | false=>rfl
       | true =>
        have hts:(!ts.contains t)=true:=hts
        rw [h0] at hts
        cases hts
      have hfv:=opd_ok hr f
      have hfv:VC P w g base (.fn fid []) (gd (opd σ f).p 0) (a.eval f):=by
       generalize opd σ f=q at *
       obtain ⟨sh,p⟩:=q
       simp only at hsh
       subst hsh
       exact hfv
      obtain ⟨carr,hfe,hcl1,_⟩:=hfv
      have hc0:carr = #[]:=by simpa using hcl1
      subst hc0
      have hiv:=opd_ok hr (.tmp i)
      have hiv:VC P w g base (.own t true e) (gd (opd σ (.tmp i)).p 0) (a.eval (.tmp i)):=by
       generalize opd σ (.tmp i)=q at *
       obtain ⟨sh,p⟩:=q
       simp only at hsi
       subst hsi
       exact hiv
      obtain ⟨row',hrow',hown⟩:=hiv
      rw [hrow] at hrow'; injection hrow' with hrow'; subst hrow'
      generalize hx:gd (opd σ (.tmp i)).p 0=x at *
      obtain ⟨hen,hcalls⟩:=(hcall _ _ _ hcl).k hisk
      -- the block of the row
      obtain ⟨B,hB,hBlk⟩:∃ B,OwnK w e row x.rows (a.eval (.tmp i)) B∧∀ b,B=some b→b=g.ρ t∧base≤b∧g.owner b=some (.inr t)∧g.prot b=0∧b<w.heap.size:=by
       rcases hown with ⟨h0,h1,A,hv⟩ | ⟨cap,arr,E,k1,k2,⟨k3,rfl,k3'⟩,k4,k5,k6,k7,k8,k9,k10,k11⟩
       ·exact ⟨none,.inl ⟨rfl,h0,A,hv⟩,fun b hb=>by cases hb⟩
       ·refine ⟨some (g.ρ t),.inr ⟨g.ρ t,cap,arr,rfl,k1,k2,k3,k6,k7,fun i j s hi hs=>?_⟩,fun b hb=>?_⟩
        ·obtain ⟨u,q1,q2⟩:=k11 i j s hi hs
         have hsf:=List.all_eq_true.1 hflat s (List.mem_of_getElem? hs)
         exact ⟨u,q1,(q2.vd_flat hsf).fv hsf⟩
        ·injection hb with hb
         subst hb
         exact ⟨rfl,k4,k5,by simpa using k10,lt_of_heap k6⟩
      -- what is left of the state,in each world that differs in this block alone
      have hdrop:∀ {w'':World} {g'':G},Changed w w'' B→(∀ b,b<w.heap.size→g''.prot b=g.prot b∧g''.owner b=g.owner b)→(∀ t',t'≠t→g''.ρ t'=g.ρ t'∧g''.len t'=g.len t'∧g''.wid t'=g.wid t'∧g''.ety t'=g.ety t')→g''.θ=g.θ→(∀ b,w''.heap.size≤b→g''.prot b=0∧g''.owner b=none)→(∀ b,g''.path b=g.path b∧g''.need b=g.need b)→g''.old=g.old→(∀ b t',t'≠t→g''.owner b=some (.inr t')→g.owner b=some (.inr t')) →
        Rel P w'' g'' base (σ.map (dropC t)) a:=by
       intro w'' g'' hC hg1 hg2 hg3 hg4 hg5 hg6 hg7
       have hne:∀ b,B=some b→g.owner b=some (.inr t):=fun b hb=>(hBlk b hb).2.2.1
       have hk:Kept P base g g'' w w'' (dropC t):=by
        refine kept_drop (fun b o u h1 h2=>?_) (fun b t' ht' ho' hb=>⟨hC.other b hb (fun e=>?_),(hg1 b hb).2,(hg1 b hb).1⟩) (fun t' ht'=>hg2 t' ht') hg3 (fun b hb=>hC.other b (hr.low.2.1 b hb).2.2.2 (fun e=>?_)) (fun b _ _ _ _=>hg5 b) hg6
        ·have hb:=cell_size h2
         refine ⟨(cell_of_heap (hC.other b hb (fun e=>?_)) o).trans h2,by rw [(hg1 b hb).1]; exact h1⟩
         have:=(hBlk b e).2.2.2.1
         omega
        ·have:=hne b e
         rw [this] at ho'
         injection ho' with ho'
         injection ho' with ho'
         exact ht' ho'.symm
        ·exact hr.oldNe hb (hne b e) rfl
       refine hr.drop hk hg3 (fun b id ho' hb=>⟨hC.other b hb (fun e=>?_),(hg1 b hb).2,(hg1 b hb).1⟩) hg4 hC.size (fun b hb=>⟨(hg1 b (hr.low.2.1 b hb).2.2.2).2,(hg1 b (hr.low.2.1 b hb).2.2.2).1,hC.other b (hr.low.2.1 b hb).2.2.2 (fun e=>hr.oldNe hb (hne b e) rfl)⟩) hg6 (fun t' ht'=>⟨(hg2 t' (unpin hpt ht')).1,(hg2 t' (unpin hpt ht')).2.1,fun b ho hb=>⟨by rw [(hg1 b hb).2]; exact ho,hC.other b hb (fun e=>by have:=hne b e; rw [this] at ho; injection ho with ho; injection ho with ho; exact unpin hpt ht' ho.symm)⟩⟩) (fun b t' ht' ho=>⟨hg7 b t' (unpin hpt ht') ho,(hg5 b).1,(hg5 b).2⟩)
       have:=hne b e
       rw [this] at ho'
       injection ho' with ho'
       cases ho'
      have hylen:ys.length+1=xs.size:=by
       have:=congrArg List.length hxs
       simpa using this.symm
      have hstay:∀ {w'':World},Changed w w'' B→Rel P w'' g base (σ.map (dropC t)) a:=fun hC=>hdrop hC (fun _ _=>⟨rfl,rfl⟩) (fun _ _=>⟨rfl,rfl,rfl,rfl⟩) rfl (fun b hb=>hr.fresh b (Nat.le_trans hC.size hb)) (fun _=>⟨rfl,rfl⟩) rfl (fun _ _ _ h=>h)
      have hargs:∀ w'',Changed w w'' B→ArgsV P (sealG g ts).prot w'' vs (ys.map a.eval).toArray:=by
       intro w'' hC
       obtain ⟨k1,k2⟩:=evArgsN_ok (ts:=ts) (hstay hC) hvs (fun t h=>List.contains_iff_mem.2 h)
       refine ⟨by simp [k1],fun j v hj=>?_⟩
       obtain ⟨y,q1,q2⟩:=k2 j v hj
       exact ⟨a.eval y,by simp [q1],q2⟩
      have hp0:∀ b,B=some b→(sealG g ts).prot b=0:=fun b hb=>by
       obtain ⟨_,_,q3,q4,_⟩:=hBlk b hb
       rw [seal_else q3 hts]
       exact q4
      have hfr:∀ b,w.heap.size≤b→(sealG g ts).prot b=0:=fun b hb=>((hr.seal ts).fresh b hb).1
      have hown1:r.sh.isKo=true→∀ (j:Nat) A n cap,(ys.map a.eval).toArray[j]?=some (.slice A n cap)→0<n→∃ b arr E,A=some ⟨b,0,none⟩∧w.heap[b]?=some (.cells arr E (0,0)):=by
       intro hk0 j A n cap hj hn
       rw [hk0] at hko
       have hall:=List.all_eq_true.1 (show (ys.map (opd (σ.map (dropC t)))).all (fun q=>q.sh.ownOr)=true from hko)
       simp only [List.getElem?_toArray,List.getElem?_map] at hj
       cases hy:ys[j]? with
       | none=>rw [hy] at hj; cases hj
       | some y =>
        rw [hy] at hj
        simp only [Option.map_some,Option.some.injEq] at hj
        have h1:=hall _ (List.mem_map.2 ⟨y,List.mem_of_getElem? hy,rfl⟩)
        have h2:=opd_ok (hstay (Changed.refl w B)) y
        rw [hj] at h2
        generalize opd (σ.map (dropC t)) y=q at *
        obtain ⟨sh,p⟩:=q
        unfold Sh.ownOr at h1
        split at h1
        ·rename_i t1 x1 e1 he1
         simp only at he1
         subst he1
         obtain ⟨row1,_,ho⟩:=h2
         rcases ho with ⟨_,_,A1,hv⟩ | ⟨cap1,arr1,E1,k1,k2,k3,k4,k5,k6,_⟩
         ·injection hv with _ hv; omega
         ·injection k1 with k1
          exact ⟨_,arr1,E1,k1,k6⟩
        ·rename_i k1 he1
         simp only at he1
         subst he1
         have h2:VD P w g.prot (.int k1) (gd p 0) (.slice A n cap):=h2
         cases h2
        ·cases h1
      have hev:xs.map a.eval = #[a.eval (.tmp i)]++(ys.map a.eval).toArray:=by
       apply Array.ext'
       simp [hxs]
      intro K Q hK
      unfold Oper.wp
      have hrun:(execOp a.eval o).run P w=.ok (.enter fid (#[a.eval (.tmp i)]++(ys.map a.eval).toArray)) w:=by
       simp only [execOp,ho,resolve,hfe,Deferred.ofValue,Sem.run_bind,Sem.run_pure,Result.andThen_ok,invoke]
       rw [← hev]
       simpa using hen (xs.map a.eval) w
      rw [hrun]
      refine (hcalls e x vs row rfl hrow hflat w _ _ B _ hB hp0 hfr hargs hown1).mono ?_
      rintro ex w' ⟨v',B',rfl,hC,hO,hB'⟩
      let b':Nat:=B'.getD 0
      let g2:G:={ prot:=fun b=>if B'=some b then 0 else g.prot b,owner:=fun b=>if B'=some b then some (.inr t) else g.owner b,θ:=g.θ,ρ:=fun u=>if u=t then b' else g.ρ u, len:=fun u=>if u=t then (gd r.p 0).rows.length else g.len u,wid:=fun u=>if u=t then row.length else g.wid u,ety:=fun u=>if u=t then e else g.ety u,path:=g.path,need:=g.need,old:=g.old }
      have hbb:∀ b,B'=some b→b<w'.heap.size:=fun b hb=>by
       rcases hO with ⟨h0,_⟩ | ⟨b1,cap,arr,q1,q2,q3,q4,q5,q6,q7⟩
       ·rw [h0] at hb; cases hb
       ·rw [q1] at hb; injection hb with hb; subst hb; exact lt_of_heap q5
      have hrel:Rel P w' g2 base (σ.map (dropC t)) a:=by
       refine hdrop hC (fun b hb=>?_) (fun t' ht'=>⟨if_neg ht',if_neg ht',if_neg ht',if_neg ht'⟩) rfl (fun b hb=>?_) (fun _=>⟨rfl,rfl⟩) rfl (fun b t' ht' h=>by
        change (if _ then _ else _)=_ at h
        split at h
        ·injection h with h; injection h with h; exact absurd h.symm ht'
        ·exact h)
       ·by_cases hbe:B'=some b
        ·rcases hB' b hbe with h1 | h1
         ·obtain ⟨_,_,q3,q4,_⟩:=hBlk b h1
          exact ⟨by show (if _ then _ else _)=_; rw [if_pos hbe,q4],by show (if _ then _ else _)=_; rw [if_pos hbe,q3]⟩
         ·omega
        ·exact ⟨if_neg hbe,if_neg hbe⟩
       ·have hbe:B'≠some b:=fun e=>by have:=hbb b e; omega
        obtain ⟨q1,q2⟩:=hr.fresh b (Nat.le_trans hC.size hb)
        exact ⟨by show (if _ then _ else _)=_; rw [if_neg hbe,q1],by show (if _ then _ else _)=_; rw [if_neg hbe,q2]⟩
      have hval:VT P w' g2 base (.c (.own t true e) (gd r.p 0)) v':=by
       refine ⟨row,hrow,?_⟩
       show OwnV P w' g2 base t true e row (gd r.p 0).rows v'
       rcases hO with ⟨h0,h1,A,hv⟩ | ⟨b1,cap,arr,q1,q2,q3,q4,q5,q6,q7⟩
       ·exact .inl ⟨h1,by show (if t=t then _ else _)=0; rw [if_pos rfl,h1]; rfl,A,hv⟩
       ·have e1:g2.ρ t=b1:=by show (if t=t then B'.getD 0 else _)=_; rw [if_pos rfl,q1]; rfl
        refine .inr ⟨cap,arr,e,by rw [e1]; exact q2,q3,⟨q4,rfl,(if_pos rfl).symm⟩,?_,?_,by rw [e1]; exact q5,q6,(if_pos rfl).symm,(if_pos rfl).symm,?_,fun i j s hi hs=>?_⟩
        ·rw [e1]
         rcases hB' b1 q1 with h1 | h1
         ·exact (hBlk b1 h1).2.1
         ·exact Nat.le_trans hr.base_le h1
        ·rw [e1]
         exact if_pos q1
        ·rw [e1]
         show (if B'=some b1 then 0 else _)=_
         rw [if_pos q1]
         rfl
        ·obtain ⟨u,z1,z2⟩:=q7 i j s hi hs
         exact ⟨u,z1,.of_vd z2.vd (.inr (List.all_eq_true.1 hflat s (List.mem_of_getElem? hs)))⟩
      exact hK _ w' g2 (hrel.put hd (dst:=o.dst) hval) ⟨hC.os,hC.tape,hC.output,hC.size,fun k hk=>hC.other k (Nat.lt_of_lt_of_le hk hr.base_le) (fun e=>by have:=(hBlk k e).2.1; omega)⟩
    ·cases h
   ·cases h
  ·cases h
 ·cases h
theorem nodup_at:∀ {cs:List Ce} {j j':Nat} {t:Tok} {x x':Bool} {e e':TypeId},nodupB (toks cs)=true→cs[j]?=some (.own t x e)→cs[j']?=some (.own t x' e')→j=j'
 | [],j,j',_,_,_,_,_,_,h,_=>by simp at h
 | c::cs,0,0,_,_,_,_,_,_,_,_=>rfl
 | c::cs,0,j'+1,t,x,x',e,e',hn,h,h'=>by
  simp only [List.getElem?_cons_zero,Option.some.injEq] at h
  subst h
  simp only [toks,nodupB,Bool.and_eq_true,Bool.not_eq_true'] at hn
  have:=List.contains_iff_mem.2 (mem_toks (List.mem_of_getElem? (show cs[j']?=some (.own t x' e') by simpa using h')))
  rw [hn.1] at this
  cases this
 | c::cs,j+1,0,t,x,x',e,e',hn,h,h'=>by
  simp only [List.getElem?_cons_zero,Option.some.injEq] at h'
  subst h'
  simp only [toks,nodupB,Bool.and_eq_true,Bool.not_eq_true'] at hn
  have:=List.contains_iff_mem.2 (mem_toks (List.mem_of_getElem? (show cs[j]?=some (.own t x e) by simpa using h)))
  rw [hn.1] at this
  cases this
 | c::cs,j+1,j'+1,t,x,x',e,e',hn,h,h'=>by
  have hn':nodupB (toks cs)=true:=by
   cases c <;> first | exact hn | (simp only [toks,nodupB,Bool.and_eq_true] at hn; exact hn.2)
  rw [nodup_at hn' (show cs[j]?=some (.own t x e) by simpa using h) (show cs[j']?=some (.own t x' e') by simpa using h')]
theorem newOf_some:∀ {cs:List Ce} {ds:List D} {t:Tok} {rows:List (List D)},newOf cs ds t=some rows→∃ (j:Nat) (x:Bool) (e:TypeId),cs[j]?=some (.own t x e)∧rows=(gd ds j).rows
 | [],ds,t,rows,h=>by cases h
 | c::cs,ds,t,rows,h=>by
  have rest:newOf cs ds.tail t=some rows→∃ (j:Nat) (x:Bool) (e:TypeId),(c::cs)[j]?=some (.own t x e)∧rows=(gd ds j).rows:=fun h=>by
   obtain ⟨j,x,e,h1,h2⟩:=newOf_some h
   exact ⟨j+1,x,e,by simpa using h1,by rw [h2,gd_tail]⟩
  cases c with
  | own t' x e =>
   simp only [newOf] at h
   cases ht:(t==t') with
   | true =>
    rw [ht,cond_true] at h
    injection h with h
    have ht:t=t':=by simpa using ht
    subst ht
    exact ⟨0,x,e,rfl,h.symm⟩
   | false=>rw [ht] at h; exact rest h
  | _=>exact rest h
theorem newOf_none:∀ {cs:List Ce} {ds:List D} {t:Tok},newOf cs ds t=none→∀ (j:Nat) (x:Bool) (e:TypeId),cs[j]?≠some (.own t x e)
 | [],ds,t,_,j,x,e=>by simp
 | c::cs,ds,t,h,j,x,e=>by
  have rest:newOf cs ds.tail t=none→(∀ x e,c≠.own t x e)→(c::cs)[j]?≠some (.own t x e):=fun h hc=>by
   cases j with
   | zero=>simp only [List.getElem?_cons_zero,ne_eq,Option.some.injEq]; exact hc x e
   | succ j=>simpa using newOf_none h j x e
  cases c with
  | own t' x' e' =>
   simp only [newOf] at h
   cases ht:(t==t') with
   | true=>rw [ht] at h; cases h
   | false =>
    rw [ht] at h
    have ht:t≠t':=by simpa using ht
    exact rest h fun x e he=>by injection he with he; exact ht he.symm
  | _=>exact rest h fun x e he=>by cases he
theorem setNs_get (f:Tok→Option (List (List D))):∀ (cs:List Ce) (ds:List D) (j:Nat) c,cs[j]?=some c→gd (setNs f cs ds) j=setN f c (gd ds j)
 | [],ds,j,c,h=>by simp at h
 | c0::cs,ds,0,c,h=>by
  simp only [List.getElem?_cons_zero,Option.some.injEq] at h
  subst h; rfl
 | c0::cs,ds,j+1,c,h=>by
  rw [setNs,gd_cons_succ,setNs_get f cs ds.tail j c (by simpa using h),gd_tail]
theorem setNs_length (f:Tok→Option (List (List D))):∀ (cs:List Ce) (ds:List D),(setNs f cs ds).length=cs.length
 | [],_=>rfl
 | c::cs,ds=>by simp [setNs,setNs_length f cs ds.tail]
theorem setAll_rel (hr:Rel P w g base σ a) {f:Tok→Option (List (List D))} (hcell:∀ b o u,o<g.prot b→w.cell? ⟨b,o,none⟩=some u→w'.cell? ⟨b,o,none⟩=some u)
  (hblk:∀ b t',f t'=none→g.owner b=some (.inr t')→b<w.heap.size→w'.heap[b]?=w.heap[b]?) (hbox:∀ b id,g.owner b=some (.inl id)→b<w.heap.size→w'.heap[b]?=w.heap[b]?)
  (hlow:∀ b,g.old b→w'.heap[b]?=w.heap[b]?) (hsz:w.heap.size≤w'.heap.size)
  (hownt:∀ {t:Tok} {rows':List (List D)} {xm:Bool} {e':TypeId} {row':List S} {rowsT:List (List D)} {v:Value},f t=some rows'→rowOf P e'=some row'→OwnV P w g base t xm e' row' rowsT v→rowsT.length=rows'.length∧OwnV P w' g base t xm e' row' rows' v) (hpn:∀ b t arr e,t.1=1000001→g.owner b=some (.inr t)→b=g.ρ t→w.heap[b]?=some (.cells arr e (0,0))→0<arr.size→∃ arr',w'.heap[b]?=some (.cells arr' e (0,0))∧arr'.size=arr.size):Rel P w' g base (σ.setAll f) a:=by
 have hvd:∀ {s:S} {x:D} {v:Value},VD P w g.prot s x v→VD P w' g.prot s x v:=fun h=>h.mono fun b o u q1 q2=>⟨hcell b o u q1 q2,q1⟩
 have hownu:∀ {t':Tok} {xm:Bool} {e':TypeId} {row':List S} {rowsT:List (List D)} {v:Value},f t'=none→OwnV P w g base t' xm e' row' rowsT v→OwnV P w' g base t' xm e' row' rowsT v:=by
  intro t' xm e' row' rowsT v ht h
  rcases h with h | ⟨cap',arr',E',k1,k2,k3,k4,k5,k6,k7,k8,k9,k10,k11⟩
  ·exact .inl h
  ·refine .inr ⟨cap',arr',E',k1,k2,k3,k4,k5,by rw [hblk _ t' ht k5 (lt_of_heap k6)]; exact k6,k7,k8,k9,k10,fun i' j s hi' hs=>?_⟩
   obtain ⟨u,q1,q2⟩:=k11 i' j s hi' hs
   exact ⟨u,q1,q2.mono rfl (fun b o u z1 z2=>⟨hcell b o u z1 z2,z1⟩) (fun _ b o h0 ho' hne hb=>⟨(hblk b t' ht ho' (lt_of_heap hb)).trans hb,h0,ho',hne,rfl,rfl,fun e=>e⟩)⟩
 have hcptr:∀ {cells:List S} {off':Nat} {x:D} {v:Value},CptrV P w g base cells off' x v→CptrV P w' g base cells off' x v:=by
  rintro cells off' x v ⟨b,o,q1,q2,q3⟩
  refine ⟨b,o,q1,q2,fun j s hs=>?_⟩
  obtain ⟨u,z1,z2⟩:=q3 j s hs
  exact ⟨u,(cell_of_heap (hlow b q2) _).trans z1,hvd z2⟩
 have hkc:∀ c x v,VC P w g base c x v→VC P w' g base (innC (fun t=>(f t).isSome) c) (setN f c x) v:=by
  intro c x v hv
  cases c with
  | any=>trivial
  | d s=>exact hvd hv
  | kb b=>exact hv
  | own t' xm e' =>
   obtain ⟨row',hr',hv⟩:=hv
   refine ⟨row',hr',?_⟩
   show OwnV P _ g base t' xm e' row' (match f t' with | some rows=>D.l rows | none=>x).rows v
   cases hf:f t' with
   | some rows'=>exact (hownt hf hr' hv).2
   | none=>exact hownu hf hv
  | ptr id off'=>exact hv
  | eptr tk e' off' =>
   cases tk with
   | none =>
    obtain ⟨row',b,o,q1,q2,q3,q4⟩:=hv
    refine ⟨row',b,o,q1,q2,q3,fun j s hs=>?_⟩
    obtain ⟨u,z1,z2,z3⟩:=q4 j s hs
    exact ⟨u,hcell _ _ _ z2 z1,z2,hvd z3⟩
   | some t' =>
    obtain ⟨row',hr',q2,q3,u,q4⟩:=hv
    refine ⟨row',hr',?_⟩
    show v=.pointer (some ⟨g.ρ t',eIx (match f t' with | some rows=>D.l [[.l rows,gd (x.rows.getD 0 []) 1]] | none=>x)*row'.length+off',none⟩)∧eIx (match f t' with | some rows=>D.l [[.l rows,gd (x.rows.getD 0 []) 1]] | none=>x)<(eRows (match f t' with | some rows=>D.l [[.l rows,gd (x.rows.getD 0 []) 1]] | none=>x)).length∧∃ u,OwnV P _ g base t' true e' row' (eRows (match f t' with | some rows=>D.l [[.l rows,gd (x.rows.getD 0 []) 1]] | none=>x)) u
    cases hf:f t' with
    | some rows' =>
     obtain ⟨z1,z2⟩:=hownt hf hr' q4
     exact ⟨q2,by show eIx x<rows'.length; rw [← z1]; exact q3,u,z2⟩
    | none=>exact ⟨q2,q3,u,hownu hf q4⟩
  | inn t' e' off' ei' =>
   show VC P _ g base (bif (f t').isSome then .any else .inn t' e' off' ei') x v
   cases hf:f t' with
   | some rows'=>trivial
   | none=>exact inn_mono hv rfl (fun o h5' h6'=>(hblk _ t' hf h5' (lt_of_heap h6')).trans h6') (fun hu=>hownu hf hu)
  | cptr cells off'=>exact hcptr hv
  | fn f caps =>
   obtain ⟨arr',q1,q2,q3⟩:=hv
   refine ⟨arr',q1,q2,fun j c hc=>?_⟩
   obtain ⟨u,hu,hcap⟩:=q3 j c hc
   refine ⟨u,hu,?_⟩
   cases c with
   | d s=>exact hvd hcap
   | ptr id off=>exact hcap
   | cptr cells off=>exact hcptr hcap
 have hvcs:∀ {cs:List Ce} {ds:List D} {arr':Array Value},VCs P w g base cs ds arr'→VCs P w' g base (cs.map (innC (fun t=>(f t).isSome))) (setNs f cs ds) arr':=by
  intro cs ds arr' h
  refine ⟨by rw [List.length_map]; exact h.1,fun j c hj=>?_⟩
  obtain ⟨c0,hj0,rfl⟩:=map_get hj
  obtain ⟨u,q1,q2⟩:=h.2 j c0 hj0
  exact ⟨u,q1,by rw [setNs_get _ _ _ j c0 hj0]; exact hkc c0 _ _ q2⟩
 have hvt:∀ {q:T} {v:Value},VT P w g base q v→VT P w' g base (setTN f q) v:=by
  intro q v hv
  obtain ⟨sh,pq⟩:=q
  cases sh with
  | tup xs=>trivial
  | one xx=>cases xx with
   | c xx =>
    show VC P _ g base (innC (fun t=>(f t).isSome) xx) (gd (setNs f [xx] pq) 0) v
    rw [setNs_get _ _ _ 0 xx rfl]
    exact hkc xx _ _ hv
   | agg xs =>
    obtain ⟨arr',rfl,hh⟩:=hv
    exact ⟨arr',rfl,hvcs hh⟩
 refine ⟨fun j=>?_,fun id cs1 ds1 hq=>?_,fun b hb=>hr.fresh b (Nat.le_trans hsz hb),Nat.le_trans hr.base_le hsz,hr.defers,hr.lowIn hlow hsz hpn,hr.mine⟩
 ·have e1:=look2_map (setTN f) rfl σ.e j σ.r
  show VT P _ g base (look2 j (σ.e.map _) (σ.r.map _)) _
  rw [e1]
  exact hvt (hr.env j)
 ·have e1:=hlook_map3 (List.map (innC (fun t=>(f t).isSome))) (setNs f) σ.h id
  change hlook id (σ.setAll f).h=_ at e1
  rw [hq] at e1
  cases hq2:hlook id σ.h with
  | none=>rw [hq2] at e1; cases e1
  | some q =>
   obtain ⟨cs0,ds0⟩:=q
   rw [hq2] at e1
   injection e1 with e1
   injection e1 with e2 e3
   subst e2; subst e3
   obtain ⟨j1,j2,j3,jl,arr',E',j4,j5⟩:=hr.box id _ _ hq2
   exact ⟨j1,j2,j3,by rw [setNs_length,List.length_map],arr',E',by rw [hbox _ id j2 (lt_of_heap j4)]; exact j4,hvcs j5⟩
def labC (base:Nat) (g:G) (cs:List Ce) (us:Array Value) (b:Nat) (π:List (Nat × Nat)) (n:Nat):Prop:=
 ∃ (j:Nat) (t:Tok) (e:TypeId),cs[j]?=some (.own t true e)∧base≤b∧g.owner b=some (.inr t)∧g.prot b=0 ∧
  ((b=g.ρ t∧π = [(0,j)]∧n=g.len t*g.wid t∧∃ m cap,us[j]?=some (.slice (some ⟨b,0,none⟩) m cap)∧0<cap)∨(b≠g.ρ t∧deepT t=true∧g.path b ≠ []∧π=(0,j)::g.path b∧n=g.need b))
theorem labC_fun {cs:List Ce} {us:Array Value} (hn:nodupB (toks cs)=true) {b:Nat} {π π':List (Nat × Nat)} {n n':Nat} (h:labC base g cs us b π n) (h':labC base g cs us b π' n'):π=π'∧n=n':=by
 obtain ⟨j,t,e,h1,_,h2,_,h3⟩:=h
 obtain ⟨j',t',e',h1',_,h2',_,h3'⟩:=h'
 rw [h2] at h2'
 injection h2' with h2'
 injection h2' with h2'
 subst h2'
 obtain rfl:=nodup_at hn h1 h1'
 rcases h3 with ⟨k1,k2,k3,_⟩ | ⟨k1,k2,_,k3,k4⟩ <;> rcases h3' with ⟨k1',k2',k3',_⟩ | ⟨k1',k2',_,k3',k4'⟩
 ·exact ⟨k2.trans k2'.symm,k3.trans k3'.symm⟩
 ·exact absurd k1 k1'
 ·exact absurd k1' k1
 ·exact ⟨k3.trans k3'.symm,k4.trans k4'.symm⟩
theorem labC_to {cs:List Ce} {us:Array Value} {j:Nat} {t:Tok} {e:TypeId} {x:D} {z:Value} (hj:cs[j]?=some (.own t true e)) (hd:markOk P (.own t true e)=true) (hz:us[j]?=some z) (h:VC P w g base (.own t true e) x z):TR P w (labC base g cs us) [(0,j)] (.sl e) x z:=by
 obtain ⟨row,hrow,h⟩:=h
 rcases h with ⟨h0,_,A,rfl⟩ | ⟨cap,arr,E,rfl,h2,⟨h3,rfl,h3'⟩,h4,h5,h6,h7,h8,h9,h10,h11⟩
 ·exact .nil _ _ _ _ (by rw [hrow]; rfl) h0
 ·have hp:g.prot (g.ρ t)=0:=by rw [h10]; rfl
  by_cases hc0:cap=0
  ·subst hc0
   have h00:x.rows = []:=List.eq_nil_of_length_eq_zero (by omega)
   rw [h00]
   exact .nil _ _ _ _ (by rw [hrow]; rfl) h00
  ·refine .sl _ E x _ cap row arr (fun i j=>arr[i*row.length+j]?.getD undef) hrow h2 h3 ⟨j,t,E,hj,h4,h5,hp,.inl ⟨rfl,rfl,by rw [h8,h9],_,cap,hz,by omega⟩⟩ h6 h7 (fun i j hi hj=>?_) (fun i j' s' hi hs'=>?_)
   ·obtain ⟨u,k1,_⟩:=h11 i j _ hi (List.getElem?_eq_getElem hj)
    rw [k1]; rfl
   ·obtain ⟨u,k1,k2⟩:=h11 i j' s' hi hs'
    simp only [k1]
    change TR P w _ _ s' _ u
    cases hdt:deepT t with
    | true =>
     refine TR.mono (fun q=>(0,j)::q) (fun q x _=>rfl) (k2.tr hdt) (fun b q n o hq hl ho=>⟨ho,?_⟩) (by simp)
     obtain ⟨l0,l1,l2,l3,l4,l5⟩:=hl
     exact ⟨j,t,E,hj,l0,l1,l5,.inr ⟨l2,hdt,by rw [l3]; exact hq,by rw [l3],l4.symm⟩⟩
    | false =>
     have hf:row.all S.flat=true:=by
      simp only [markOk,hdt,Bool.false_or,flatRow,hrow] at hd
      exact hd
     exact TR.of_flat (k2.vd hdt) (List.all_eq_true.1 hf s' (List.mem_of_getElem? hs'))
theorem evM_ok (hr:Rel P w g base σ a) {call:FuncId→List T→Option (T × Bool)} (hcall:CallOk P call) {o:Oper} {σ':St} {f:Operand} {xs:Array Operand} {ts0:Array TypeId} (ho:o.op=.call { callee:=.value f,args:=xs,argTypes:=ts0 }) (hd:∀ d,o.dst=some d→d<a.tmps.size)
  (h:evM P call σ o.dst f xs.toList=some (σ',true)):Goes P base σ' o a w:=by
 unfold evM at h
 split at h
 ·rename_i fid x k hsh hxs
  split at h
  ·rename_i cs ds0 q hcells hksh harg
   split at h
   ·rename_i r ok hcl
    cases hq:(r.sh.isM&&cs.all (markOk P)&&nodupB (toks cs)) with
    | false=>rw [hq] at h; cases h
    | true =>
     rw [hq,cond_true] at h
     simp only [Option.some.injEq,Prod.mk.injEq] at h
     obtain ⟨rfl,rfl⟩:=h
     simp only [Bool.and_eq_true] at hq
     obtain ⟨⟨hism,hdeep⟩,hnd⟩:=hq
     have hxs':xs = #[x,k]:=by cases xs; simp_all
     subst hxs'
     have hfv:=opd_ok hr f
     have hfv:VC P w g base (.fn fid []) (gd (opd σ f).p 0) (a.eval f):=by
      generalize opd σ f=q at *
      obtain ⟨sh,p⟩:=q
      simp only at hsh
      subst hsh
      exact hfv
     obtain ⟨carr,hfe,hcl1,_⟩:=hfv
     have hc0:carr = #[]:=by simpa using hcl1
     subst hc0
     have hkv:=opd_ok hr k
     have hkv:a.eval k=.int .i64 (gd (opd σ k).p 0).int:=by
      generalize opd σ k=q at *
      obtain ⟨sh,p⟩:=q
      simp only at hksh
      subst hksh
      have hkv:VD P w g.prot (.int .i64) (gd p 0) (a.eval k):=hkv
      show a.eval k=.int .i64 (gd p 0).int
      generalize gd p 0=d at *
      generalize a.eval k=vk at *
      cases hkv
      rfl
     have hxv:=opd_ok hr x
     obtain ⟨hvcs,hany⟩:=cells_ok hcells hxv
     obtain ⟨hen,hcalls⟩:=(hcall _ _ _ hcl).m hism
     -- the argument as cells
     obtain ⟨ss,hss,hqp,hform⟩:∃ ss,allS cs=some ss∧(∀ (j:Nat) c,cs[j]?=some c→gd q.p j=c.toD (gd ds0 j))∧((∃ s d,q=.c (.d s) d∧ss = [s]∧(a.eval x).cells = #[a.eval x])∨(∃ ds,q=⟨.one (.agg (ss.map .d)),ds⟩∧a.eval x=.agg (a.eval x).cells)):=by
      generalize opd σ x=X at *
      obtain ⟨sh,p⟩:=X
      cases sh with
      | tup _=>cases hcells
      | one xx=>cases xx with
       | agg ys =>
        unfold T.cells at hcells
        simp only at hcells
        cases hca:ys.contains Ce.any with
        | true=>rw [hca] at hcells; cases hcells
        | false =>
         rw [hca] at hcells
         simp only [cond_false,Option.some.injEq,Prod.mk.injEq] at hcells
         obtain ⟨rfl,rfl⟩:=hcells
         unfold margT at harg
         simp only at harg
         split at harg
         ·rename_i ss hss
          injection harg with harg
          subst harg
          refine ⟨ss,hss,fun j c hj=>?_,.inr ⟨_,rfl,?_⟩⟩
          ·rw [toDs_get ys p j c hj,gd_sub _ _ _ _ (List.getElem?_eq_some_iff.1 hj).1,Nat.zero_add]
          ·obtain ⟨arr,he,_⟩:=hxv
           rw [he]; rfl
         ·cases harg
       | c y =>
        unfold T.cells at hcells
        simp only at hcells
        cases hca:(y==Ce.any) with
        | true=>rw [hca] at hcells; cases hcells
        | false =>
         rw [hca] at hcells
         simp only [cond_false,Option.some.injEq,Prod.mk.injEq] at hcells
         obtain ⟨rfl,rfl⟩:=hcells
         have hy:markOk P y=true:=by simpa using hdeep
         have hfl:flatV (a.eval x)=true:=VC.flat hxv (by intro e; subst e; simp [markOk] at hy)
         have hce:(a.eval x).cells = #[a.eval x]:=by
          revert hfl
          cases a.eval x <;> simp [flatV,Value.cells]
         have key:∀ s,y.toS=some s→q=.c (.d s) (y.toD (gd p 0))→∃ ss,allS [y]=some ss∧(∀ (j:Nat) c,[y][j]?=some c→gd q.p j=c.toD (gd [gd p 0] j))∧((∃ s d,q=.c (.d s) d∧ss = [s]∧(a.eval x).cells = #[a.eval x])∨(∃ ds,q=⟨.one (.agg (ss.map .d)),ds⟩∧a.eval x=.agg (a.eval x).cells)):=by
          intro s hs hq
          refine ⟨[s],by simp [allS,hs],fun j c hj=>?_,.inl ⟨s,_,hq,rfl,hce⟩⟩
          cases j with
          | zero =>
           simp only [List.getElem?_cons_zero,Option.some.injEq] at hj
           subst hj
           rw [hq]; rfl
          | succ j=>simp at hj
         cases y with
         | d s =>
          simp only [margT,Ce.toS,Option.some.injEq] at harg
          exact key s rfl harg.symm
         | kb b =>
          simp only [margT,Ce.toS,Option.some.injEq] at harg
          exact key .bool rfl harg.symm
         | own t xm e =>
          simp only [margT,Ce.toS,Option.some.injEq] at harg
          exact key (.sl e) rfl harg.symm
         | _=>simp [markOk] at hy
     obtain ⟨hsl,hsg⟩:=allS_get hss
     let us:=(a.eval x).cells
     let lab:=labC base g cs us
     have hTR:TRs P w lab ss q.p us:=by
      refine ⟨by rw [show us.size=cs.length from hvcs.1,hsl],fun j s hs=>?_⟩
      obtain ⟨c,hc,hcs⟩:=hsg j s hs
      obtain ⟨z,hz,hzv⟩:=hvcs.2 j c hc
      refine ⟨z,hz,?_⟩
      rw [hqp j c hc]
      have hck:=List.all_eq_true.1 hdeep c (List.mem_of_getElem? hc)
      cases c with
      | d s0 =>
       simp only [Ce.toS,Option.some.injEq] at hcs
       subst hcs
       exact TR.of_flat (prot:=g.prot) hzv (by simpa [markOk] using hck)
      | kb b =>
       simp only [Ce.toS,Option.some.injEq] at hcs
       subst hcs
       have hzv:z=.bool b:=hzv
       subst hzv
       exact TR.bool _ (.b b)
      | own t xm e =>
       simp only [Ce.toS,Option.some.injEq] at hcs
       subst hcs
       cases xm with
       | true=>exact labC_to hc hck hz hzv
       | false=>simp [markOk] at hck
      | _=>simp [markOk] at hck
     intro K Q hK
     unfold Oper.wp
     have hrun:(execOp a.eval o).run P w=.ok (.enter fid #[a.eval x,.int .i64 (gd (opd σ k).p 0).int]) w:=by
      simp only [execOp,ho,resolve,hfe,Deferred.ofValue,Sem.run_bind,Sem.run_pure,Result.andThen_ok,invoke]
      simpa [hkv] using hen #[a.eval x,.int .i64 (gd (opd σ k).p 0).int] w
     rw [hrun]
     refine (hcalls q _ ss rfl w lab (a.eval x) us hform hTR (fun b π π' n n' h h'=>labC_fun hnd h h')).mono ?_
     rintro ex w' ⟨rfl,hC,hT'⟩
     have hlb:∀ {b:Nat} {t:Tok},g.owner b=some (.inr t)→newOf cs r.p.tail t=none→∀ π n,¬ lab b π n:=by
      rintro b t ho' hnone π n ⟨j,t1,e1,h1,_,h2,_⟩
      rw [ho'] at h2; injection h2 with h2; injection h2 with h2
      subst h2
      exact newOf_none hnone j true e1 h1
     have hnol:∀ {b:Nat},(∀ t,g.owner b≠some (.inr t))→∀ π n,¬ lab b π n:=by
      rintro b hb π n ⟨j,t1,e1,h1,_,h2,_⟩
      exact hb t1 h2
     have hrel:Rel P w' g base (σ.setAll (newOf cs r.p.tail)) a:=by
      refine setAll_rel hr (fun b o u h1 h2=>(cell_of_heap (hC.other b (cell_size h2) ?_) o).trans h2) (fun b t' hn' ho' hb=>hC.other b hb (hlb ho' hn')) (fun b id ho' hb=>hC.other b hb (hnol fun t e=>by rw [ho'] at e; cases e))
       (fun b hb=>hC.other b (hr.low.2.1 b hb).2.2.2 (hnol fun t e=>by rw [(hr.low.2.1 b hb).1] at e; cases e)) hC.size ?_ ?_
      ·rintro π n ⟨j,t1,e1,_,_,_,h4,_⟩
       omega
      ·intro t rows' xm e' row' rowsT v hf hr' hown'
       obtain ⟨j,x0,e,hj,rfl⟩:=newOf_some hf
       have hck:=List.all_eq_true.1 hdeep _ (List.mem_of_getElem? hj)
       have hx0:x0=true:=by cases x0 <;> simp [markOk] at hck ⊢
       subst hx0
       obtain ⟨z,hz,hzv⟩:=hvcs.2 j _ hj
       obtain ⟨row,hrow,hzo⟩:=hzv
       obtain ⟨s,hs⟩:∃ s,ss[j]?=some s:=⟨_,List.getElem?_eq_getElem (by rw [hsl]; exact (List.getElem?_eq_some_iff.1 hj).1)⟩
       obtain ⟨c,hc,hcs⟩:=hsg j s hs
       rw [hj] at hc; injection hc with hc; subst hc
       simp only [Ce.toS,Option.some.injEq] at hcs
       subst hcs
       obtain ⟨z',hz',hT⟩:=hT'.2 j _ hs
       rw [show us[j]?=some z from hz] at hz'
       injection hz' with hz'
       subst hz'
       -- how long the row is
       have hzl:∃ A cap,z=.slice A (g.len t) cap∧(gd ds0 j).rows.length=g.len t:=by
        rcases hzo with ⟨h0,h1,A,hv⟩ | ⟨cap,arr,E,h1,h2,h3,h4,h5,h6,h7,h8,_⟩
        ·exact ⟨A,0,by rw [h1]; exact hv,by rw [h0,h1]; rfl⟩
        ·exact ⟨_,cap,by rw [← h8]; exact h1,h8⟩
       obtain ⟨A0,cap0,hzA,hzlen⟩:=hzl
       have hnl:(gd r.p.tail j).rows.length=g.len t:=by
        generalize gd r.p.tail j=y at *
        clear hz
        revert hzA
        generalize z=zz at *
        cases hT with
        | nil _ _ _ _ hr h=>intro hzA; injection hzA with _ hzA; rw [h]; exact hzA
        | sl=>intro hzA; injection hzA
       have hown1:=hown'
       rcases hown' with ⟨h0,h1,A,hv⟩ | ⟨cap',arr',E',k1,k2,⟨k3,kE,k3'⟩,k4,k5,k6,k7,k8,k9,k10,k11⟩
       ·refine ⟨by rw [h0,hnl,h1]; rfl,.inl ⟨List.eq_nil_of_length_eq_zero (by rw [hnl,h1]),h1,A,hv⟩⟩
       ·refine ⟨by rw [hnl,k8],?_⟩
        -- the block that it lies in
        by_cases hlab:∃ π n,lab (g.ρ t) π n
        ·obtain ⟨π,n,j1,t1,e1,m1,m2,m3,m4,m5⟩:=hlab
         rw [k5] at m3; injection m3 with m3; injection m3 with m3
         subst m3
         obtain rfl:=nodup_at hnd hj m1
         rcases m5 with ⟨_,_,_,m,capz,hzz,hcz⟩ | ⟨m5,_⟩
         ·rw [show us[j]?=some z from hz] at hzz
          injection hzz with hzz
          obtain ⟨b2,row2,arr2,u2,q1,q2,q3,q4,q5,q6,q7,q8,hb2⟩:∃ (b2:Nat) (row2:List S) (arr2:Array Value) (u2:Nat→Nat→Value),rowOf P e=some row2∧(gd r.p.tail j).rows.length≤capz∧capz≤9223372036854775807∧True∧w'.heap[b2]?=some (.cells arr2 e (0,0))∧arr2.size=capz*row2.length ∧
            (∀ i j',i<(gd r.p.tail j).rows.length→j'<row2.length→arr2[i*row2.length+j']?=some (u2 i j'))∧(∀ i j' s,i<(gd r.p.tail j).rows.length→row2[j']?=some s→TR P w' lab ([(0,j)] ++ [(i,j')]) s (gd ((gd r.p.tail j).rows.getD i []) j') (u2 i j'))∧b2=g.ρ t:=by
           generalize gd r.p.tail j=y at *
           clear hz hzo
           revert hzz
           generalize z=zz at *
           cases hT with
           | nil=>intro hzz; injection hzz with _ _ hzz; omega
           | sl _ _ _ b2 cap2 row2 arr2 u2 q1 q2 q3 q4 q5 q6 q7 q8 =>
            intro hzz
            injection hzz with hz1 hz2 hz3
            injection hz1 with hz1
            injection hz1 with hz1 _ _
            subst hz3
            exact ⟨b2,row2,arr2,u2,q1,q2,q3,trivial,q5,q6,q7,q8,hz1⟩
          subst hb2
          ·
           rw [hrow] at q1; injection q1 with q1; subst q1
           have hEe:e'=e:=by
            rcases hzo with ⟨_,_,A9,hv9⟩ | ⟨cap9,arr9,E9,p1,p2,⟨p3,pE,p3'⟩,_⟩
            ·rw [hzz] at hv9; injection hv9 with _ _ hv9; omega
            ·rw [k3',← p3']
           subst hEe
           rw [hrow] at hr'; injection hr' with hr'; subst hr'
           have hcap:capz=cap':=by
            rcases hzo with ⟨_,_,A9,hv9⟩ | ⟨cap9,arr9,E9,p1,p2,⟨p3,pE,p3'⟩,p4,p5,p6,p7,p8,p9,p10,p11⟩
            ·rw [hzz] at hv9; injection hv9 with _ _ hv9; omega
            ·rw [hzz] at p1; injection p1 with _ _ p1
             rw [p6] at k6
             injection k6 with k6
             injection k6 with k6
             subst k6
             rw [p7] at k7
             rw [p1]
             exact Nat.eq_of_mul_eq_mul_right (rowOf_pos hrow) k7
           subst hcap
           refine .inr ⟨capz,arr2,e',by rw [k1,k8,hnl],by rw [hnl,← k8]; exact k2,⟨k3,rfl,k3'⟩,k4,k5,q5,q6,hnl,k9,k10,fun i j3 s3 hi hs3=>?_⟩
           have hj3:=(List.getElem?_eq_some_iff.1 hs3).1
           refine ⟨u2 i j3,q7 i j3 hi hj3,?_⟩
           have hq8:=q8 i j3 s3 hi hs3
           cases hdx:(deepT t&&xm) with
           | true =>
            unfold CellV
            rw [if_pos hdx]
            have hdt:deepT t=true:=by cases hdt:deepT t <;> simp_all
            refine TR.monoQ (fun π=>∃ r,π=(0,j)::r∧r ≠ []) (fun π x ⟨r,hr,hne⟩=>⟨r ++ [x],by rw [hr]; rfl,by simp⟩) List.tail (fun π x ⟨r,hr,hne⟩=>by rw [hr]; rfl) hq8 (fun b π n o ⟨rr,hπ,hne⟩ hl hbb=>⟨hbb,?_⟩) ⟨[(i,j3)],rfl,by simp⟩
            obtain ⟨j4,t4,e4,n1,n2,n3,n4,n5⟩:=hl
            rcases n5 with ⟨n5,n6,_⟩ | ⟨n5,n6,n7,n8,n9⟩
            ·rw [hπ] at n6; injection n6 with _ n6; exact absurd n6 hne
            ·rw [hπ] at n8
             injection n8 with n8 n10
             injection n8 with _ n8
             subst n8
             rw [hj] at n1; injection n1 with n1; injection n1 with n1 _ _
             subst n1
             rw [hπ]
             exact ⟨n2,n3,n5,n10.symm,n9.symm,n4⟩
           | false =>
            cases hxm:xm with
            | false =>
             rw [hxm] at k10
             have hp0:g.prot (g.ρ t)=0:=m4
             rw [hp0] at k10
             simp only [Bool.false_eq_true,if_false] at k10
             have hl0:0<g.len t:=by rw [← hnl]; omega
             have hw0:0<g.wid t:=by rw [← k9]; omega
             have:=Nat.mul_pos hl0 hw0
             omega
            | true =>
             rw [hxm,Bool.and_true] at hdx
             refine .of_vd (TR.vd_flat hq8 ?_) (.inl (by rw [hdx]; rfl))
             simp only [markOk,hdx,Bool.false_or,flatRow,hrow] at hck
             exact List.all_eq_true.1 hck s3 (List.mem_of_getElem? hs3)
         ·exact absurd rfl m5
        ·have hsame:=hC.other _ (lt_of_heap k6) (fun π n hl=>hlab ⟨π,n,hl⟩)
         have hl0:g.len t=0:=by
          rcases hzo with ⟨_,h1,_⟩ | ⟨cap9,arr9,E9,p1,p2,⟨p3,pE,p3'⟩,p4,p5,p6,p7,p8,p9,p10,p11⟩
          ·exact h1
          ·by_cases hcc:cap9=0
           ·omega
           ·exact absurd ⟨_,_,j,t,e,hj,p4,p5,by rw [p10]; rfl,.inl ⟨rfl,rfl,rfl,_,cap9,by rw [show us[j]?=some z from hz,p1],by omega⟩⟩ hlab
         have hz0:(gd r.p.tail j).rows = []:=List.eq_nil_of_length_eq_zero (by rw [hnl,hl0])
         refine .inr ⟨cap',arr',E',by rw [k1,k8,hnl],by rw [hnl,← k8]; exact k2,⟨k3,kE,k3'⟩,k4,k5,by rw [hsame]; exact k6,k7,hnl,k9,k10,fun i j3 s3 hi _=>by rw [hz0] at hi; simp at hi⟩
      ·intro b t arr e1 _ ho' hbt hb h0
       by_cases hlab:∃ π n,lab b π n
       ·obtain ⟨π,n,j,t1,e,hj,_,m3,_,m5⟩:=hlab
        rw [ho'] at m3; injection m3 with m3; injection m3 with m3
        subst m3
        rcases m5 with ⟨_,_,_,m,capz,hzz,hcz⟩ | ⟨m5,_⟩
        ·have hck:=List.all_eq_true.1 hdeep _ (List.mem_of_getElem? hj)
         obtain ⟨z,hz,row,hrow,hzo⟩:=hvcs.2 j _ hj
         rw [show (a.eval x).cells[j]?=some (.slice (some ⟨b,0,none⟩) m capz) from hzz] at hz
         injection hz with hz
         obtain ⟨s,hs⟩:∃ s,ss[j]?=some s:=⟨_,List.getElem?_eq_getElem (by rw [hsl]; exact (List.getElem?_eq_some_iff.1 hj).1)⟩
         obtain ⟨c,hc,hcs⟩:=hsg j s hs
         rw [hj] at hc; injection hc with hc; subst hc
         simp only [Ce.toS,Option.some.injEq] at hcs
         subst hcs
         obtain ⟨z',hz',hT⟩:=hT'.2 j _ hs
         rw [show us[j]?=some (.slice (some ⟨b,0,none⟩) m capz) from hzz] at hz'
         injection hz' with hz'
         obtain ⟨row2,arr2,q1,q5,q6⟩:∃ (row2:List S) (arr2:Array Value),rowOf P e=some row2∧w'.heap[b]?=some (.cells arr2 e (0,0))∧arr2.size=capz*row2.length:=by
          generalize gd r.p.tail j=y at *
          clear hz
          cases hT with
          | nil=>injection hz' with _ _ hz'; omega
          | sl _ _ _ b2 cap2 row2 arr2 u2 q1 q2 q3 q4 q5 q6 q7 q8 =>
           injection hz' with hz1 hz2 hz3
           injection hz1 with hz1
           injection hz1 with hz1 _ _
           subst hz3
           subst hz1
           exact ⟨row2,arr2,q1,q5,q6⟩
         rw [hrow] at q1; injection q1 with q1; subst q1
         rcases hzo with ⟨_,_,A9,hv9⟩ | ⟨cap9,arr9,E9,p1,p2,p3,p4,p5,p6,p7,_⟩
         ·rw [← hz] at hv9; injection hv9 with _ _ hv9; omega
         ·rw [← hbt,hb] at p6
          injection p6 with p6
          injection p6 with p6 p6e
          subst p6
          rw [← hz] at p1; injection p1 with _ _ p1
          exact ⟨arr2,by rw [q5,p6e,p3.2.1],by rw [q6,p7,p1]⟩
        ·exact absurd hbt m5
       ·exact ⟨arr,(hC.other _ (lt_of_heap hb) (fun π n hl=>hlab ⟨π,n,hl⟩)).trans hb,rfl⟩
     exact hK _ w' g (hrel.put hd (dst:=o.dst) (t:=.c (.d (.int .i64)) (gd r.p 0)) (v:=.int .i64 (gd r.p 0).int) (VD.int .i64 _)) ⟨hC.os,hC.tape,hC.output,hC.size,fun b hb=>hC.other b (Nat.lt_of_lt_of_le hb hr.base_le) (by rintro π n ⟨j,t1,e1,_,h2,_⟩; omega)⟩
   ·cases h
  ·cases h
 ·cases h
theorem evMi_ok (hr:Rel P w g base σ a) {call:FuncId→List T→Option (T × Bool)} (hcall:CallOk P call) {o:Oper} {σ':St} {f:Operand} {xs:Array Operand} {ts0:Array TypeId} (ho:o.op=.call { callee:=.value f,args:=xs,argTypes:=ts0 }) (hd:∀ d,o.dst=some d→d<a.tmps.size)
  (h:evMi P call σ o.dst f xs.toList=some (σ',true)):Goes P base σ' o a w:=by
 unfold evMi at h
 split at h
 ·rename_i fid x k hsh hxs
  split at h
  ·rename_i t e off ei hxsh hksh
   split at h
   ·rename_i row r ok hrow hcl
    cases hism:r.sh.isM with
    | false=>rw [hism] at h; cases h
    | true =>
     rw [hism,cond_true] at h
     simp only [Option.some.injEq,Prod.mk.injEq] at h
     obtain ⟨rfl,rfl⟩:=h
     have hxs':xs = #[x,k]:=by cases xs; simp_all
     subst hxs'
     have hfv:=opd_ok hr f
     have hfv:VC P w g base (.fn fid []) (gd (opd σ f).p 0) (a.eval f):=by
      generalize opd σ f=q at *
      obtain ⟨sh,p⟩:=q
      simp only at hsh
      subst hsh
      exact hfv
     obtain ⟨carr,hfe,hcl1,_⟩:=hfv
     have hc0:carr = #[]:=by simpa using hcl1
     subst hc0
     have hkv:=opd_ok hr k
     have hkv:a.eval k=.int .i64 (gd (opd σ k).p 0).int:=by
      generalize opd σ k=q at *
      obtain ⟨sh,p⟩:=q
      simp only at hksh
      subst hksh
      have hkv:VD P w g.prot (.int .i64) (gd p 0) (a.eval k):=hkv
      show a.eval k=.int .i64 (gd p 0).int
      generalize gd p 0=d at *
      generalize a.eval k=vk at *
      cases hkv
      rfl
     have hxv:=opd_ok hr x
     have hxv:VC P w g base (.inn t e off ei) (gd (opd σ x).p 0) (a.eval x):=by
      generalize opd σ x=q at *
      obtain ⟨sh,p⟩:=q
      simp only at hxsh
      subst hxsh
      exact hxv
     generalize gd (opd σ x).p 0=X at *
     obtain ⟨row',h1,h2,h3,h4,⟨u,h5⟩,arr0,E0,h6,h7,h8⟩:=hxv
     rw [hrow] at h1; injection h1 with h1; subst h1
     have hX0:(X.rows.getD 0 [])=X.rows.getD 0 []:=rfl
     change eIx X<(eRows X).length at h4
     have hofs:=(List.getElem?_eq_some_iff.1 h2).1
     rcases h5 with ⟨h0,_⟩ | ⟨cap,arr,E,k1,k2,⟨k3,kE,k3'⟩,k4,k5,k6,k7,k8,k9,k10,k11⟩
     ·rw [h0] at h4; simp at h4
     ·rw [k6] at h6
      injection h6 with h6
      injection h6 with h6
      subst h6
      have hp0:g.prot (g.ρ t)=0:=by rw [k10]; rfl
      obtain ⟨z0,z1,z2⟩:=k11 _ off _ h4 h2
      rw [h7] at z1
      injection z1 with z1
      subst z1
      have hT0:=z2.tr h3
      let lab:Nat→List (Nat × Nat)→Nat→Prop:=fun b π n=>base≤b∧g.owner b=some (.inr t)∧b≠g.ρ t∧g.prot b=0∧g.need b=n∧∃ q,g.path b=(eIx X,off)::q∧π=(0,0)::q
      have hTR:TRs P w lab [.sl ei] [innD off X] #[a.eval x]:=by
       refine ⟨rfl,fun j s hs=>?_⟩
       cases j with
       | succ j=>simp at hs
       | zero =>
        simp only [List.getElem?_cons_zero,Option.some.injEq] at hs
        subst hs
        refine ⟨a.eval x,rfl,?_⟩
        refine TR.monoQ (fun π=>∃ q,π=(eIx X,off)::q) (fun π y ⟨q,hq⟩=>⟨q ++ [y],by rw [hq]; rfl⟩) (fun π=>(0,0)::π.tail) (fun π y ⟨q,hq⟩=>by rw [hq]; rfl) hT0 (fun b π n o ⟨q,hq⟩ hl hb=>⟨hb,?_⟩) ⟨[],rfl⟩
        obtain ⟨l0,l1,l2,l3,l4,l5⟩:=hl
        exact ⟨l0,l1,l2,l5,l4,q,by rw [l3,hq],by rw [hq]; rfl⟩
      obtain ⟨hen,hcalls⟩:=(hcall _ _ _ hcl).m hism
      intro K Q hK
      unfold Oper.wp
      have hrun:(execOp a.eval o).run P w=.ok (.enter fid #[a.eval x,.int .i64 (gd (opd σ k).p 0).int]) w:=by
       simp only [execOp,ho,resolve,hfe,Deferred.ofValue,Sem.run_bind,Sem.run_pure,Result.andThen_ok,invoke]
       simpa [hkv] using hen #[a.eval x,.int .i64 (gd (opd σ k).p 0).int] w
      rw [hrun]
      refine (hcalls _ _ [.sl ei] rfl w lab (a.eval x) #[a.eval x] (.inl ⟨.sl ei,_,rfl,rfl,rfl⟩) hTR (fun b π π' n n' hl hl'=>by
       obtain ⟨_,_,_,_,l5,q,l6,l7⟩:=hl
       obtain ⟨_,_,_,_,l5',q',l6',l7'⟩:=hl'
       rw [l6] at l6'; injection l6' with _ l6'
       exact ⟨by rw [l7,l7',l6'],by rw [← l5,← l5']⟩)).mono ?_
      rintro ex w' ⟨rfl,hC,hT'⟩
      obtain ⟨zz,hz1,hT1⟩:=hT'.2 0 (.sl ei) rfl
      rw [gd_tail] at hT1
      have hz1:zz=a.eval x:=by simpa using hz1.symm
      subst hz1
      have hnlab:∀ {b:Nat},¬ (g.owner b=some (.inr t)∧b≠g.ρ t)→∀ π n,¬ lab b π n:=fun hb π n hl=>hb ⟨hl.2.1,hl.2.2.1⟩
      have hroot:w'.heap[g.ρ t]?=w.heap[g.ρ t]?:=hC.other _ (lt_of_heap k6) (hnlab fun h=>h.2 rfl)
      have hvd:∀ b o z,o<g.prot b→w.cell? ⟨b,o,none⟩=some z→w'.cell? ⟨b,o,none⟩=some z:=fun b o z q1 q2 =>
       (cell_of_heap (hC.other b (cell_size q2) (fun π n hl=>by have:=hl.2.2.2.1; omega)) o).trans q2
      generalize hnr:setSub (sub ((eRows X).getD (eIx X) []) 0 row.length) off [gd r.p 1]=nr
      have hnrg:∀ j,j<row.length→gd nr j=if j=off then gd r.p 1 else gd ((eRows X).getD (eIx X) []) j:=fun j hj=>by
       rw [← hnr,gd_setSub _ _ _ _ (by rw [sub_length]; exact hj),gd_sub _ _ _ _ hj,Nat.zero_add]
       by_cases hjo:j=off
       ·subst hjo
        rw [if_pos ⟨Nat.le_refl _,by simp⟩,if_pos rfl,Nat.sub_self]; rfl
       ·rw [if_neg hjo,if_neg (by simp only [List.length_cons,List.length_nil]; omega)]
      have hlen':((eRows X).set (eIx X) nr).length=(eRows X).length:=by simp
      have hset:∀ i',i'<(eRows X).length→((eRows X).set (eIx X) nr).getD i' []=if eIx X=i' then nr else (eRows X).getD i' []:=fun i' hi'=>by
       rw [List.getD_eq_getElem?_getD,List.getElem?_set]
       by_cases e:eIx X=i'
       ·subst e; simp [hi']
       ·simp [e,List.getD_eq_getElem?_getD]
      have hcells:∀ (i' j:Nat) s,i'<(eRows X).length→row[j]?=some s→∃ u,arr[i'*row.length+j]?=some u∧CellV P base w' g t true i' j s (gd (((eRows X).set (eIx X) nr).getD i' []) j) u:=by
       intro i' j s hi' hs
       have hj:=(List.getElem?_eq_some_iff.1 hs).1
       obtain ⟨u0,q1,q2⟩:=k11 i' j s hi' hs
       refine ⟨u0,q1,?_⟩
       rw [hset i' hi']
       by_cases hij:i'=eIx X∧j=off
       ·obtain ⟨rfl,rfl⟩:=hij
        rw [if_pos rfl,hnrg _ hj,if_pos rfl]
        rw [h2] at hs; injection hs with hs; subst hs
        rw [h7] at q1; injection q1 with q1; subst q1
        refine .of_tr ?_ h3
        refine TR.monoQ (fun π=>∃ q,π=(0,0)::q) (fun π y ⟨q,hq⟩=>⟨q ++ [y],by rw [hq]; rfl⟩) (fun π=>(eIx X,j)::π.tail) (fun π y ⟨q,hq⟩=>by rw [hq]; rfl) hT1 (fun b π n o ⟨q,hq⟩ hl hb=>⟨hb,?_⟩) ⟨[],rfl⟩
        obtain ⟨l0,l1,l2,l3,l4,q',l5,l6⟩:=hl
        rw [hq] at l6; injection l6 with _ l6
        refine ⟨l0,l1,l2,by rw [l5,hq,l6]; rfl,l4,l3⟩
       ·have hsame:gd (if eIx X=i' then nr else (eRows X).getD i' []) j=gd ((eRows X).getD i' []) j:=by
         by_cases e:eIx X=i'
         ·subst e
          rw [if_pos rfl,hnrg _ hj,if_neg (fun e=>hij ⟨rfl,e⟩)]
         ·rw [if_neg e]
        rw [hsame]
        refine .of_tr ?_ h3
        refine TR.monoQ (fun π=>∃ q,π=(i',j)::q) (fun π y ⟨q,hq⟩=>⟨q ++ [y],by rw [hq]; rfl⟩) (fun π=>π) (fun π y _=>rfl) (q2.tr h3) (fun b π n o ⟨q,hq⟩ hl hb=>⟨?_,hl⟩) ⟨[],rfl⟩
        refine (hC.other b (lt_of_heap hb) (fun π' n' hl'=>?_)).trans hb
        obtain ⟨_,_,_,_,_,q',l6,_⟩:=hl'
        have:=hl.2.2.2.1
        rw [l6,hq] at this
        injection this with this _
        injection this with t1 t2
        exact hij ⟨t1.symm,t2.symm⟩
      have hrel:Rel P w' g base (σ.setRows t ((eRows X).set (eIx X) nr)) a:=by
       refine setRows_rel hr hvd (fun b t' ht' ho' hb=>hC.other b hb (hnlab fun h=>by rw [ho'] at h; have:=h.1; injection this with this; injection this with this; exact ht' this))
        (fun b id ho' hb=>hC.other b hb (hnlab fun h=>by rw [ho'] at h; cases h.1)) (fun b hb=>hC.other b (hr.low.2.1 b hb).2.2.2 (hnlab fun h=>by rw [(hr.low.2.1 b hb).1] at h; cases h.1)) hC.size ?_ ?_
       ·intro xm e' row' rowsT v hr' hw'
        rcases hw' with ⟨_,h,_⟩ | ⟨cap',arr',E',m1,m2,⟨m3,mE,m3'⟩,m4,m5,m6,m7,m8,m9,m10,m11⟩
        ·exfalso; omega
        ·have ee:e'=e:=by rw [m3',k3']
         subst ee
         rw [hrow] at hr'; injection hr' with hr'; subst hr'
         rw [k6] at m6
         injection m6 with m6
         injection m6 with q1 q2 q3
         subst q1
         have hll:rowsT.length=((eRows X).set (eIx X) nr).length:=by rw [hlen',m8,k8]
         refine ⟨hll,.inr ⟨cap',_,E',by rw [m1,hll],by rw [← hll]; exact m2,⟨m3,mE,m3'⟩,m4,m5,by rw [hroot,k6,q2],m7,by rw [← hll]; exact m8,m9,m10,fun i' j s hi' hs=>?_⟩⟩
         obtain ⟨z,z1,z2⟩:=hcells i' j s (by rw [← hlen']; exact hi') hs
         cases xm with
         | true=>exact ⟨z,z1,z2⟩
         | false =>
          rw [hp0] at m10
          simp only [Bool.false_eq_true,if_false] at m10
          have hl0:0<g.len t:=by omega
          have hw0:0<g.wid t:=by rw [← k9]; omega
          have:=Nat.mul_pos hl0 hw0
          omega
       ·intro b t1 arr1 e1 _ ho1 hb1 hb2 _
        refine ⟨arr1,(hC.other b (lt_of_heap hb2) (hnlab fun h=>?_)).trans hb2,rfl⟩
        rw [ho1] at h
        have h9:=h.1
        injection h9 with h9; injection h9 with h9
        subst h9
        exact h.2 hb1
      rw [← hnr] at hrel
      exact hK _ w' g (hrel.put hd (dst:=o.dst) (t:=.c (.d (.int .i64)) (gd r.p 0)) (v:=.int .i64 (gd r.p 0).int) (VD.int .i64 _)) ⟨hC.os,hC.tape,hC.output,hC.size,fun b hb=>hC.other b (Nat.lt_of_lt_of_le hb hr.base_le) (by rintro π n ⟨l0,_⟩; omega)⟩
   ·cases h
  ·cases h
 ·cases h
def fwd (pairs:List (Tok × Tok)) (t:Tok):Option Tok:=(pairs.find? (·.1==t)).map (·.2)
def inv (pairs:List (Tok × Tok)) (t:Tok):Tok:=((pairs.find? (·.2==t)).map (·.1)).getD t
theorem find_nodup {f:Tok × Tok→Tok}:∀ {pairs:List (Tok × Tok)} {q:Tok × Tok},nodupB (pairs.map f)=true→q∈pairs→pairs.find? (fun r=>f r==f q)=some q
 | [],q,_,h=>by simp at h
 | r::rs,q,hn,h=>by
  simp only [List.map_cons,nodupB,Bool.and_eq_true] at hn
  rw [List.find?_cons]
  rcases List.mem_cons.1 h with e | e
  ·subst e; simp
  ·have hne:(f r==f q)=false:=by
    cases hq:f r==f q with
    | false=>rfl
    | true =>
     have hq:f r=f q:=by simpa using hq
     have:(rs.map f).contains (f r)=true:=List.contains_iff_mem.2 (List.mem_map.2 ⟨q,e,hq.symm⟩)
     rw [this] at hn
     exact absurd hn.1 (by decide)
   rw [hne]
   exact find_nodup hn.2 e
theorem given_append:∀ {a b c d:List Ce},a.length=c.length→given (a++b) (c++d)=given a c++given b d
 | [],b,[],d,_=>by simp [given]
 | x::a,b,y::c,d,h=>by
  have ih:=given_append (a:=a) (b:=b) (c:=c) (d:=d) (by simpa using h)
  cases x <;> cases y <;> simp [given,ih]
theorem given_get:∀ {cs rs:List Ce} {j:Nat} {t t':Tok} {x x':Bool} {e e':TypeId},cs[j]?=some (.own t x e)→rs[j]?=some (.own t' x' e')→(t,t')∈given cs rs
 | [],rs,j,_,_,_,_,_,_,h,_=>by simp at h
 | c::cs,[],j,_,_,_,_,_,_,_,h=>by simp at h
 | c::cs,r::rs,0,t,t',x,x',e,e',h,h'=>by
  simp only [List.getElem?_cons_zero,Option.some.injEq] at h h'
  subst h; subst h'
  simp [given]
 | c::cs,r::rs,j+1,t,t',x,x',e,e',h,h'=>by
  have:=given_get (cs:=cs) (rs:=rs) (j:=j) (by simpa using h) (by simpa using h')
  cases c <;> cases r <;> simp [given,this]
def giveG (g:G) (pairs:List (Tok × Tok)):G:=
 { prot:=g.prot,owner:=fun b=>match g.owner b with | some (.inr t)=>(fwd pairs t).map .inr | _=>none, θ:=g.θ,ρ:=fun t=>g.ρ (inv pairs t),len:=fun t=>g.len (inv pairs t),wid:=fun t=>g.wid (inv pairs t),ety:=fun t=>g.ety (inv pairs t),path:=g.path,need:=g.need,old:=g.old }
theorem give_own {pairs:List (Tok × Tok)} (h1:nodupB (pairs.map (·.1))=true) (h2:nodupB (pairs.map (·.2))=true) {base':Nat} (hbase:base'≤base) {t t':Tok} (hm:(t,t')∈pairs) {xm:Bool} {e:TypeId} (hdx:(deepT t'&&xm)=(deepT t&&xm))
  {x:D} {v:Value} (hv:VC P w g base (.own t xm e) x v):VC P w (giveG g pairs) base' (.own t' xm e) x v:=by
 have ei:inv pairs t'=t:=by
  have:=find_nodup (f:=(·.2)) h2 hm
  simp only at this
  simp [inv,this]
 have ef:fwd pairs t=some t':=by
  have:=find_nodup (f:=(·.1)) h1 hm
  simp only at this
  simp [fwd,this]
 obtain ⟨row,hrow,hown⟩:=hv
 refine ⟨row,hrow,?_⟩
 rcases hown with ⟨k0,k1,k2⟩ | ⟨cap,arr,E,k1,k2,k3,k4,k5,k6,k7,k8,k9,k10,k11⟩
 ·exact .inl ⟨k0,by show g.len (inv pairs t')=0; rw [ei]; exact k1,k2⟩
 ·refine .inr ⟨cap,arr,E,by show v=.slice (some ⟨g.ρ (inv pairs t'),0,none⟩) _ _; rw [ei]; exact k1,k2,by show _∧_∧e=g.ety (inv pairs t'); rw [ei]; exact k3,by show base'≤g.ρ (inv pairs t'); rw [ei]; exact Nat.le_trans hbase k4,?_,by show w.heap[g.ρ (inv pairs t')]?=_; rw [ei]; exact k6,k7,by show _=g.len (inv pairs t'); rw [ei]; exact k8,by show _=g.wid (inv pairs t'); rw [ei]; exact k9,?_,fun i j s hi hs=>?_⟩
  ·show (match g.owner (g.ρ (inv pairs t')) with | some (Sum.inr t)=>(fwd pairs t).map Sum.inr | _=>none)=some (.inr t')
   rw [ei,k5]
   simp [ef]
  ·show g.prot (g.ρ (inv pairs t'))=if xm then 0 else g.len (inv pairs t')*g.wid (inv pairs t')
   rw [ei]; exact k10
  ·obtain ⟨z,z1,z2⟩:=k11 i j s hi hs
   refine ⟨z,z1,z2.mono hdx (fun b o u h1 h2=>⟨h2,h1⟩) (fun _ b o h0 ho hne hb=>⟨hb,Nat.le_trans hbase h0,?_,?_,rfl,rfl,fun e=>e⟩)⟩
   ·show (match g.owner b with | some (Sum.inr t)=>(fwd pairs t).map Sum.inr | _=>none)=some (.inr t')
    rw [ho]
    simp [ef]
   ·show b≠g.ρ (inv pairs t')
    rw [ei]; exact hne
theorem canon_get:∀ {cs cs1:List Ce} {k:Nat},canonCs k cs=some cs1→cs1.length=cs.length∧∀ (j:Nat) c1,cs1[j]?=some c1→∃ c,cs[j]?=some c∧canonC (k+j) c=some c1
 | [],cs1,k,h=>by
  simp only [canonCs,Option.some.injEq] at h
  subst h
  exact ⟨rfl,fun j c h=>by simp at h⟩
 | c::cs,cs1,k,h=>by
  unfold canonCs at h
  split at h
  ·rename_i d ds h1 h2
   injection h with h
   subst h
   obtain ⟨k1,k2⟩:=canon_get h2
   refine ⟨by simp [k1],fun j c1 hj=>?_⟩
   cases j with
   | zero =>
    simp only [List.getElem?_cons_zero,Option.some.injEq] at hj
    subst hj
    exact ⟨c,rfl,h1⟩
   | succ j =>
    obtain ⟨c0,q1,q2⟩:=k2 j c1 (by simpa using hj)
    exact ⟨c0,by simpa using q1,by rw [show k+(j+1)=k+1+j from by omega]; exact q2⟩
  ·cases h
theorem canon_given:∀ {cs cs1:List Ce} {k:Nat},canonCs k cs=some cs1→(given cs cs1).map (·.1)=xtoks cs∧(given cs cs1).map (·.2)=xtoks cs1
 | [],cs1,k,h=>by
  simp only [canonCs,Option.some.injEq] at h
  subst h
  exact ⟨rfl,rfl⟩
 | c::cs,cs1,k,h=>by
  unfold canonCs at h
  split at h
  ·rename_i d ds h1 h2
   injection h with h
   subst h
   obtain ⟨k1,k2⟩:=canon_given h2
   cases c with
   | own t x e =>
    cases x with
    | true =>
     simp only [canonC,Option.some.injEq] at h1
     subst h1
     exact ⟨by simp [given,xtoks,k1],by simp [given,xtoks,k2]⟩
    | false =>
     simp only [canonC,Option.some.injEq] at h1
     subst h1
     exact ⟨by simp [given,xtoks,k1],by simp [given,xtoks,k2]⟩
   | d s =>
    simp only [canonC,Option.some.injEq] at h1
    subst h1
    exact ⟨by simp [given,xtoks,k1],by simp [given,xtoks,k2]⟩
   | kb b =>
    simp only [canonC,Option.some.injEq] at h1
    subst h1
    exact ⟨by simp [given,xtoks,k1],by simp [given,xtoks,k2]⟩
   | _=>simp [canonC] at h1
  ·cases h
theorem backC_own {c c2 c':Ce} (h:backC c c2=some c'):(∃ t t' e,c=.own t true e∧c2=.own t' true e∧c'=.own t true e∧t'.1=0∧deepT t=deepT t')∨(∃ s,c2=.d s∧c'=.d s):=by
 unfold backC at h
 split at h
 ·rename_i t e t' e'
  cases hq:(t'.1==0&&e==e'&&deepT t==deepT t') with
  | false=>rw [hq] at h; cases h
  | true =>
   rw [hq,cond_true] at h
   injection h with h
   subst h
   simp only [Bool.and_eq_true,beq_iff_eq] at hq
   obtain ⟨⟨q1,rfl⟩,q3⟩:=hq
   exact .inl ⟨t,t',e,rfl,rfl,rfl,q1,q3⟩
 ·rename_i s
  injection h with h
  exact .inr ⟨s,rfl,h.symm⟩
 ·cases h
theorem back_get:∀ {cs cs2 cs':List Ce},backCs cs cs2=some cs'→cs'.length=cs.length∧cs2.length=cs.length∧∀ (j:Nat) c',cs'[j]?=some c'→∃ c c2,cs[j]?=some c∧cs2[j]?=some c2∧backC c c2=some c'
 | [],[],cs',h=>by
  simp only [backCs,Option.some.injEq] at h
  subst h
  exact ⟨rfl,rfl,fun j c h=>by simp at h⟩
 | [],_::_,cs',h=>by simp [backCs] at h
 | _::_,[],cs',h=>by simp [backCs] at h
 | c::cs,c2::cs2,cs',h=>by
  unfold backCs at h
  split at h
  ·rename_i d ds h1 h2
   injection h with h
   subst h
   obtain ⟨k1,k2,k3⟩:=back_get h2
   refine ⟨by simp [k1],by simp [k2],fun j c' hj=>?_⟩
   cases j with
   | zero =>
    simp only [List.getElem?_cons_zero,Option.some.injEq] at hj
    subst hj
    exact ⟨c,c2,rfl,rfl,h1⟩
   | succ j =>
    obtain ⟨c0,c3,q1,q2,q3⟩:=k3 j c' (by simpa using hj)
    exact ⟨c0,c3,by simpa using q1,by simpa using q2,q3⟩
  ·cases h
theorem back_given:∀ {cs cs2 cs':List Ce},backCs cs cs2=some cs'→(given cs2 cs').map (·.1)=xtoks cs2∧(given cs2 cs').map (·.2)=xtoks cs'
 | [],[],cs',h=>by
  simp only [backCs,Option.some.injEq] at h
  subst h
  exact ⟨rfl,rfl⟩
 | [],_::_,cs',h=>by simp [backCs] at h
 | _::_,[],cs',h=>by simp [backCs] at h
 | c::cs,c2::cs2,cs',h=>by
  unfold backCs at h
  split at h
  ·rename_i d ds h1 h2
   injection h with h
   subst h
   obtain ⟨k1,k2⟩:=back_given h2
   rcases backC_own h1 with ⟨t,t',e,rfl,rfl,rfl,_⟩ | ⟨s,rfl,rfl⟩
   ·exact ⟨by simp [given,xtoks,k1],by simp [given,xtoks,k2]⟩
   ·exact ⟨by simp [given,xtoks,k1],by simp [given,xtoks,k2]⟩
  ·cases h
theorem mem_xtoks:∀ {cs:List Ce} {t:Tok} {e:TypeId},Ce.own t true e∈cs→t∈xtoks cs
 | [],_,_,h=>by simp at h
 | c::cs,t,e,h=>by
  rcases List.mem_cons.1 h with h | h
  ·subst h; simp [xtoks]
  ·have:=mem_xtoks h
   cases c with
   | own t' x e'=>cases x <;> simp [xtoks,this]
   | _=>simp [xtoks,this]
theorem of_xtoks:∀ {cs:List Ce} {t:Tok},t∈xtoks cs→∃ (j:Nat) (e:TypeId),cs[j]?=some (.own t true e)
 | [],_,h=>by simp [xtoks] at h
 | c::cs,t,h=>by
  have rest:t∈xtoks cs→∃ (j:Nat) (e:TypeId),(c::cs)[j]?=some (.own t true e):=fun h=>by
   obtain ⟨j,e,h⟩:=of_xtoks h
   exact ⟨j+1,e,by simpa using h⟩
  cases c with
  | own t' x e' =>
   cases x with
   | true =>
    simp only [xtoks,List.mem_cons] at h
    rcases h with rfl | h
    ·exact ⟨0,e',rfl⟩
    ·exact rest h
   | false=>exact rest h
  | _=>exact rest h
def dropsC:List Tok→Ce→Ce
 | [],c=>c
 | t::ts,c=>dropsC ts (dropC t c)
theorem dropsC_id:∀ {ts:List Tok} {c:Ce},(∀ t,dropC t c=c)→dropsC ts c=c
 | [],c,_=>rfl
 | t::ts,c,h=>by rw [dropsC,h t]; exact dropsC_id h
theorem dropsC_own:∀ {ts:List Tok} {t:Tok} {x:Bool} {e:TypeId},dropsC ts (.own t x e)=(bif ts.contains t then (bif x then .any else .d (.sl e)) else .own t x e)
 | [],t,x,e=>rfl
 | u::ts,t,x,e=>by
  show dropsC ts (bif t==u then (bif x then .any else .d (.sl e)) else .own t x e)=_
  rw [List.contains_cons]
  cases hq:(t==u) with
  | true =>
   simp only [Bool.true_or,cond_true]
   cases x <;> exact dropsC_id (fun _=>rfl)
  | false=>rw [Bool.false_or,cond_false]; exact dropsC_own
theorem dropsC_eptr:∀ {ts:List Tok} {t:Tok} {e:TypeId} {off:Nat},dropsC ts (.eptr (some t) e off)=(bif ts.contains t then .any else .eptr (some t) e off)
 | [],t,e,off=>rfl
 | u::ts,t,e,off=>by
  show dropsC ts (bif t==u then .any else .eptr (some t) e off)=_
  rw [List.contains_cons]
  cases hq:(t==u) with
  | true=>simp only [Bool.true_or,cond_true]; exact dropsC_id (fun _=>rfl)
  | false=>rw [Bool.false_or,cond_false]; exact dropsC_eptr
theorem dropsC_inn:∀ {ts:List Tok} {t:Tok} {e:TypeId} {off:Nat} {ei:TypeId},dropsC ts (.inn t e off ei)=(bif ts.contains t then .any else .inn t e off ei)
 | [],t,e,off,ei=>rfl
 | u::ts,t,e,off,ei=>by
  show dropsC ts (bif t==u then .any else .inn t e off ei)=_
  rw [List.contains_cons]
  cases hq:(t==u) with
  | true=>simp only [Bool.true_or,cond_true]; exact dropsC_id (fun _=>rfl)
  | false=>rw [Bool.false_or,cond_false]; exact dropsC_inn
theorem Sh1.map_comp (f f':Ce→Ce) (s:Sh1):(s.map f).map f'=s.map (fun c=>f' (f c)):=by
 cases s <;> simp [Sh1.map]
theorem Sh.map_comp (f f':Ce→Ce) (s:Sh):(s.map f).map f'=s.map (fun c=>f' (f c)):=by
 cases s with
 | one x=>simp [Sh.map,Sh1.map_comp]
 | tup xs =>
  simp only [Sh.map,List.map_map]
  congr 1
  exact List.map_congr_left fun x _=>Sh1.map_comp f f' x
theorem St.map_comp (f f':Ce→Ce) (σ:St):(σ.map f).map f'=σ.map (fun c=>f' (f c)):=by
 simp only [St.map,List.map_map]
 congr 1
 ·exact List.map_congr_left fun p _=>by simp only [Function.comp,Sh.map_comp]
 ·exact List.map_congr_left fun p _=>by simp only [Function.comp,Sh.map_comp]
 ·exact List.map_congr_left fun p _=>by simp [Function.comp]
theorem dropTs_map:∀ (ts:List Tok) (σ:St),dropTs ts σ=σ.map (dropsC ts)
 | [],σ=>by
  show σ=σ.map (fun c=>c)
  obtain ⟨r,e,h⟩:=σ
  simp [St.map,Sh.map_id']
 | t::ts,σ=>by
  rw [dropTs,dropTs_map ts,St.map_comp]; rfl
theorem argP_ok (hr:Rel P w g base σ a) {ts:List Tok} {v v':T} {u:Value} (h:arg P σ v=some v') (hv:VT P w g base v u) (hp:noPtr v=true) (ht:∀ t∈argToks σ v,ts.contains t=true) {gc:G} {b':Nat} (hg:gc.prot=(sealG g ts).prot) (ho:∀ b,g.old b→gc.old b):VT P w gc b' v' u:=by
 obtain ⟨sh,p⟩:=v
 cases sh with
 | tup xs=>cases h
 | one x=>cases x with
  | agg xs =>
   unfold arg at h
   simp only at h
   split at h
   ·rename_i ss hss
    injection h with h; subst h
    obtain ⟨arr,rfl,hvc⟩:=hv
    obtain ⟨k1,k2⟩:=row_okA (ts:=ts) hvc hss ht
    refine ⟨arr,rfl,by simp [k1],fun j c hj=>?_⟩
    obtain ⟨s,hs,rfl⟩:=map_get hj
    obtain ⟨z,q1,q2⟩:=k2 j s hs
    exact ⟨z,q1,by show VD P w gc.prot _ _ _; rw [hg]; exact q2⟩
   ·cases h
  | c x =>
   have fin:∀ {s:S},x.aS=some s→(∀ t∈toksA [x],ts.contains t=true)→VC P w g base x (gd p 0) u→VT P w gc b' (.c (.d s) (x.aD (gd p 0))) u:=fun hs ht hv=>by
    show VD P w gc.prot _ _ _
    rw [hg]
    exact aD_ok hv hs ht
   cases x with
   | fn f caps =>
    unfold arg at h
    simp only at h
    split at h
    ·rename_i cs ds hc
     injection h with h; subst h
     obtain ⟨arr,rfl,h2,h3⟩:=hv
     have key:∀ {caps caps':List Cap} {ds ds':List D},capArgs σ caps ds=some (caps',ds')→caps.all (fun | .ptr _ _=>false | _=>true)=true→caps'.length=caps.length ∧
       ∀ (j:Nat) c',caps'[j]?=some c'→∃ c,caps[j]?=some c∧∀ u,CapV P w g base c (gd ds j) u→CapV P w gc b' c' (gd ds' j) u:=by
      intro caps
      induction caps with
      | nil =>
       intro caps' ds ds' h _
       simp only [capArgs,Option.some.injEq,Prod.mk.injEq] at h
       obtain ⟨rfl,rfl⟩:=h
       exact ⟨rfl,fun j c h=>by simp at h⟩
      | cons c cs ih =>
       intro caps' ds ds' h hn
       rw [List.all_cons,Bool.and_eq_true] at hn
       unfold capArgs at h
       split at h
       ·rename_i d x ds1 xs h1 h2
        simp only [Option.some.injEq,Prod.mk.injEq] at h
        obtain ⟨rfl,rfl⟩:=h
        obtain ⟨k1,k2⟩:=ih h2 hn.2
        refine ⟨by simp [k1],fun j c' hj=>?_⟩
        cases j with
        | zero =>
         simp only [List.getElem?_cons_zero,Option.some.injEq] at hj
         subst hj
         refine ⟨c,rfl,fun u hu=>?_⟩
         cases c with
         | d s =>
          simp only [capArg,Option.some.injEq,Prod.mk.injEq] at h1
          obtain ⟨rfl,rfl⟩:=h1
          show VD P w gc.prot _ _ _
          rw [hg]
          exact seal_vd hu
         | cptr cells off =>
          simp only [capArg,Option.some.injEq,Prod.mk.injEq] at h1
          obtain ⟨rfl,rfl⟩:=h1
          obtain ⟨b,o,q1,q2,q3⟩:=hu
          refine ⟨b,o,q1,ho b q2,fun j s hs=>?_⟩
          obtain ⟨z,z1,z2⟩:=q3 j s hs
          exact ⟨z,z1,by rw [hg]; exact seal_vd z2⟩
         | ptr id off=>simp at hn
        | succ j =>
         obtain ⟨c0,q1,q2⟩:=k2 j c' (by simpa using hj)
         refine ⟨c0,by simpa using q1,fun u hu=>?_⟩
         rw [gd_cons_succ]
         exact q2 u (by rw [gd_tail]; exact hu)
       ·cases h
     obtain ⟨k1,k2⟩:=key hc hp
     refine ⟨arr,rfl,by rw [h2,k1],fun j c hj=>?_⟩
     obtain ⟨c0,q1,q2⟩:=k2 j c hj
     obtain ⟨z,z1,z2⟩:=h3 j c0 q1
     exact ⟨z,z1,q2 z z2⟩
    ·cases h
   | cptr cells off =>
    simp only [arg,Option.some.injEq] at h
    subst h
    obtain ⟨b,o,q1,q2,q3⟩:=hv
    refine ⟨b,o,q1,ho b q2,fun j s hs=>?_⟩
    obtain ⟨z,z1,z2⟩:=q3 j s hs
    exact ⟨z,z1,by rw [hg]; exact seal_vd z2⟩
   | ptr id off=>cases hp
   | eptr tk e off=>cases hp
   | any=>cases h
   | d s =>
    simp only [arg,Ce.aS,Ce.toS,Option.some.injEq] at h
    subst h
    exact fin rfl ht hv
   | kb b =>
    simp only [arg,Ce.aS,Ce.toS,Option.some.injEq] at h
    subst h
    exact fin rfl ht hv
   | own t xm e =>
    simp only [arg,Ce.aS,Ce.toS,Option.some.injEq] at h
    subst h
    exact fin rfl ht hv
   | inn t e off ei =>
    simp only [arg,Ce.aS,Option.some.injEq] at h
    subst h
    exact fin rfl ht hv
theorem argsP_ok (hr:Rel P w g base σ a) {ts:List Tok} {gc:G} {b':Nat} (hg:gc.prot=(sealG g ts).prot) (ho:∀ b,g.old b→gc.old b):∀ {xs:List Operand} {vs:List T},evArgs P σ (xs.map (opd σ))=some vs→xs.all (fun y=>noPtr (opd σ y))=true→(∀ t∈(xs.map (opd σ)).flatMap (argToks σ),ts.contains t=true) →
  vs.length=xs.length∧∀ (j:Nat) v,vs[j]?=some v→∃ x,xs[j]?=some x∧VT P w gc b' v (a.eval x)
 | [],vs,h,_,_=>by
  simp only [List.map_nil,evArgs,Option.some.injEq] at h
  subst h
  exact ⟨rfl,fun j v h=>by simp at h⟩
 | x::xs,vs,h,hn,ht=>by
  simp only [List.map_cons,evArgs] at h
  rw [List.all_cons,Bool.and_eq_true] at hn
  split at h
  ·rename_i d ds h1 h2
   injection h with h; subst h
   obtain ⟨k1,k2⟩:=argsP_ok hr hg ho h2 hn.2 (fun t h=>ht t (by simp only [List.map_cons,List.flatMap_cons,List.mem_append]; exact .inr h))
   refine ⟨by simp [k1],fun j v hj=>?_⟩
   cases j with
   | zero =>
    simp only [List.getElem?_cons_zero,Option.some.injEq] at hj
    subst hj
    exact ⟨x,rfl,argP_ok hr h1 (opd_ok hr x) hn.1 (fun t h=>ht t (by simp only [List.map_cons,List.flatMap_cons,List.mem_append]; exact .inl h)) hg ho⟩
   | succ j =>
    obtain ⟨y,q1,q2⟩:=k2 j v (by simpa using hj)
    exact ⟨y,by simpa using q1,q2⟩
  ·cases h
theorem fwd_none {pairs:List (Tok × Tok)} {t:Tok} (h:t ∉ pairs.map (·.1)):fwd pairs t=none:=by
 unfold fwd
 rw [List.find?_eq_none.2]
 ·rfl
 ·intro q hq he
  exact h (List.mem_map.2 ⟨q,hq,by simpa using he⟩)
theorem fwd_mem {pairs:List (Tok × Tok)} (h1:nodupB (pairs.map (·.1))=true) {t t':Tok} (hm:(t,t')∈pairs):fwd pairs t=some t':=by
 have:=find_nodup (f:=(·.1)) h1 hm
 simp only at this
 simp [fwd,this]
theorem inv_mem {pairs:List (Tok × Tok)} (h2:nodupB (pairs.map (·.2))=true) {t t':Tok} (hm:(t,t')∈pairs):inv pairs t'=t:=by
 have:=find_nodup (f:=(·.2)) h2 hm
 simp only at this
 simp [inv,this]
noncomputable def lentG (n:Nat) (g:G) (base bx:Nat) (pairs:List (Tok × Tok)):G:=
 let ow:Nat→Option (Nat ⊕ Tok):=fun k=>if k=bx then some (.inl 1000000) else match g.owner k with
  | some (.inr t)=>if g.prot k=0∧base≤k then (fwd pairs t).map Sum.inr else none
  | _=>none
 { prot:=g.prot,owner:=ow,θ:=fun _=>bx,ρ:=fun t=>g.ρ (inv pairs t),len:=fun t=>g.len (inv pairs t),wid:=fun t=>g.wid (inv pairs t),ety:=fun t=>g.ety (inv pairs t),path:=g.path,need:=g.need, old:=fun k=>k<n∧ow k=none }
theorem lent_own {n bx:Nat} {pairs:List (Tok × Tok)} (h1:nodupB (pairs.map (·.1))=true) (h2:nodupB (pairs.map (·.2))=true) (hbx:∀ t,g.owner bx≠some (.inr t)) {t t':Tok} (hm:(t,t')∈pairs) {e:TypeId} (hdx:deepT t'=deepT t)
  {x:D} {v:Value} (hv:VC P w g base (.own t true e) x v):VC P w (lentG n g base bx pairs) 0 (.own t' true e) x v:=by
 have ei:=inv_mem h2 hm
 have ef:=fwd_mem h1 hm
 obtain ⟨row,hrow,hown⟩:=hv
 refine ⟨row,hrow,?_⟩
 rcases hown with ⟨k0,k1,k2⟩ | ⟨cap,arr,E,k1,k2,k3,k4,k5,k6,k7,k8,k9,k10,k11⟩
 ·exact .inl ⟨k0,by show g.len (inv pairs t')=0; rw [ei]; exact k1,k2⟩
 ·have hp0:g.prot (g.ρ t)=0:=by rw [k10]; rfl
  have how:∀ b,g.owner b=some (.inr t)→g.prot b=0→base≤b→(lentG n g base bx pairs).owner b=some (.inr t'):=fun b q1 q2 q3=>by
   show (if b=bx then _ else match g.owner b with | some (.inr t)=>if g.prot b=0∧base≤b then (fwd pairs t).map Sum.inr else none | _=>none)=_
   rw [if_neg (by intro e; rw [e] at q1; exact hbx t q1),q1]
   simp [q2,q3,ef]
  refine .inr ⟨cap,arr,E,by show v=.slice (some ⟨g.ρ (inv pairs t'),0,none⟩) _ _; rw [ei]; exact k1,k2,by show _∧_∧e=g.ety (inv pairs t'); rw [ei]; exact k3,Nat.zero_le _,?_,by show w.heap[g.ρ (inv pairs t')]?=_; rw [ei]; exact k6,k7,by show _=g.len (inv pairs t'); rw [ei]; exact k8,by show _=g.wid (inv pairs t'); rw [ei]; exact k9,?_,fun i j s hi hs=>?_⟩
  ·show (lentG n g base bx pairs).owner (g.ρ (inv pairs t'))=_
   rw [ei]
   exact how _ k5 hp0 k4
  ·show g.prot (g.ρ (inv pairs t'))=if true then 0 else _
   rw [ei]; exact k10
  ·obtain ⟨z,z1,z2⟩:=k11 i j s hi hs
   refine ⟨z,z1,?_⟩
   unfold CellV at z2 ⊢
   rw [hdx]
   split at z2
   ·rename_i hd
    rw [if_pos hd]
    refine TR.mono (fun π=>π) (fun _ _ _=>rfl) z2 (fun b π n' o _ hl ho=>⟨ho,?_⟩) (by simp)
    obtain ⟨l0,l1,l2,l3,l4,l5⟩:=hl
    exact ⟨Nat.zero_le _,how b l1 l5 l0,by show b≠g.ρ (inv pairs t'); rw [ei]; exact l2,l3,l4,l5⟩
   ·rename_i hd
    rw [if_neg hd]
    exact z2
noncomputable def backG (g gs g':G) (old:Nat→Prop) (bx id d:Nat) (pairs:List (Tok × Tok)):G:=by
 classical exact
 { prot:=g'.prot,owner:=fun k=>if k=bx then some (.inl id) else if old k then gs.owner k else match g'.owner k with | some (.inr t)=>some (.inr ((fwd pairs t).getD (d,t.2))) | _=>none,θ:=gs.θ,ρ:=fun t=>if t∈pairs.map (·.2) then g'.ρ (inv pairs t) else if t.1=d then g'.ρ (0,t.2) else gs.ρ t,len:=fun t=>if t∈pairs.map (·.2) then g'.len (inv pairs t) else if t.1=d then g'.len (0,t.2) else gs.len t,wid:=fun t=>if t∈pairs.map (·.2) then g'.wid (inv pairs t) else if t.1=d then g'.wid (0,t.2) else gs.wid t,ety:=fun t=>if t∈pairs.map (·.2) then g'.ety (inv pairs t) else if t.1=d then g'.ety (0,t.2) else gs.ety t,path:=fun k=>if old k then gs.path k else g'.path k,need:=fun k=>if old k then gs.need k else g'.need k,old:=gs.old }
theorem back_own {gl gs:G} {old:Nat→Prop} {bx id d:Nat} {pairs:List (Tok × Tok)} (hold:∀ k,old k→g'.owner k=none) (hbx:∀ t,g'.owner bx≠some (.inr t)) (hb:∀ k,¬ old k→base≤k) {u t:Tok}
  (hρ:(backG gl gs g' old bx id d pairs).ρ t=g'.ρ u∧(backG gl gs g' old bx id d pairs).len t=g'.len u∧(backG gl gs g' old bx id d pairs).wid t=g'.wid u∧(backG gl gs g' old bx id d pairs).ety t=g'.ety u) (hf:(fwd pairs u).getD (d,u.2)=t)
  {xm:Bool} {e:TypeId} (hdx:deepT t=deepT u) {x:D} {v:Value} (hv:VC P w g' 0 (.own u xm e) x v):VC P w (backG gl gs g' old bx id d pairs) base (.own t xm e) x v:=by
 obtain ⟨row,hrow,hown⟩:=hv
 obtain ⟨e1,e2,e3,e4⟩:=hρ
 have how:∀ k,g'.owner k=some (.inr u)→¬ old k∧(backG gl gs g' old bx id d pairs).owner k=some (.inr t):=fun k hk=>by
  have hno:¬ old k:=fun h=>by rw [hold k h] at hk; cases hk
  refine ⟨hno,?_⟩
  have hne:k≠bx:=by intro e; rw [e] at hk; exact hbx u hk
  simp only [backG,if_neg hne,if_neg hno,hk,hf]
 refine ⟨row,hrow,?_⟩
 rcases hown with ⟨k0,k1,k2⟩ | ⟨cap,arr,E,k1,k2,k3,k4,k5,k6,k7,k8,k9,k10,k11⟩
 ·exact .inl ⟨k0,by rw [e2]; exact k1,k2⟩
 ·refine .inr ⟨cap,arr,E,by rw [e1]; exact k1,k2,by rw [e4]; exact k3,by rw [e1]; exact hb _ (how _ k5).1,by rw [e1]; exact (how _ k5).2,by rw [e1]; exact k6,k7,by rw [e2]; exact k8,by rw [e3]; exact k9,by rw [e1,e2,e3]; exact k10,fun i j s hi hs=>?_⟩
  obtain ⟨z,z1,z2⟩:=k11 i j s hi hs
  refine ⟨z,z1,?_⟩
  unfold CellV at z2 ⊢
  rw [hdx]
  split at z2
  ·rename_i hd
   rw [if_pos hd]
   refine TR.mono (fun π=>π) (fun _ _ _=>rfl) z2 (fun b π n' o _ hl ho=>⟨ho,?_⟩) (by simp)
   obtain ⟨l0,l1,l2,l3,l4,l5⟩:=hl
   obtain ⟨m1,m2⟩:=how b l1
   exact ⟨hb _ m1,m2,by rw [e1]; exact l2,by simp only [backG,if_neg m1]; exact l3,by simp only [backG,if_neg m1]; exact l4,l5⟩
  ·rename_i hd
   rw [if_neg hd]
   exact z2
theorem evP_ok (hr:Rel P w g base σ a) {call:FuncId→List T→Option (T × Bool)} (hcall:CallOk P call) {o:Oper} {σ':St} {d:Nat} {f:Operand} {xs:Array Operand} {ts0:Array TypeId} (ho:o.op=.call { callee:=.value f,args:=xs,argTypes:=ts0 }) (hdst:o.dst=some d) (hd:∀ d,o.dst=some d→d<a.tmps.size)
  (h:evP P call σ d f xs.toList=some (σ',true)):Goes P base σ' o a w:=by
 unfold evP at h
 split at h
 rotate_left
 ·cases h
 rename_i fid caps x ys hsh hxs
 split at h
 rotate_left
 ·cases h
 rename_i id hxsh
 split at h
 rotate_left
 ·cases h
 rename_i cs ds hbx
 split at h
 rotate_left
 ·cases h
 rename_i cs1 vs qs es hcan hvs hcs
 split at h
 rotate_left
 ·cases h
 rename_i r ok hcl
 split at h
 rotate_left
 ·cases h
 rename_i cs2 res hrsh
 split at h
 rotate_left
 ·cases h
 rename_i cs' hback
 simp only at h
 generalize hts:(ys.map (opd σ)).flatMap (argToks σ)++capToks σ caps=ts at h
 cases hq:(id != d&&nodupB (xtoks cs)&&nodupB (xtoks cs')&&(xtoks cs).all (fun t=>t.1 != d&&t.1 != 1000001 && !ts.contains t)&&nodupB (xtoks cs2)&&(toks (res.flatMap Sh1.ces)).all (fun t => !(xtoks cs2).contains t)&&(res.flatMap Sh1.ces).all resC&&noPtr (opd σ f)&&ys.all (fun y=>noPtr (opd σ y))&&nodupB (xtoks cs1)&&Nat.ble cs.length 1000000) with
 | false=>rw [hq] at h; cases h
 | true =>
  rw [hq,cond_true] at h
  simp only [Option.some.injEq,Prod.mk.injEq] at h
  obtain ⟨rfl,rfl⟩:=h
  simp only [Bool.and_eq_true,bne_iff_ne,ne_eq] at hq
  obtain ⟨⟨⟨⟨⟨⟨⟨⟨⟨⟨hidd,hn1⟩,hn1'⟩,hxall⟩,hn2⟩,hres0⟩,hresC⟩,hnf⟩,hny⟩,hnc⟩,hcl6⟩:=hq
  have hcl6:cs.length≤1000000:=Nat.le_of_ble_eq_true hcl6
  have hxt:∀ t∈xtoks cs,t.1≠d∧t.1≠1000001∧ts.contains t=false:=fun t ht=>by
   have:=List.all_eq_true.1 hxall t ht
   simpa [and_assoc] using this
  have hdlt:=hd d hdst
  have hd6:d<1000000:=Nat.lt_of_lt_of_le hdlt hr.defers.2
  have hxs':xs=(x::ys).toArray:=by cases xs; simp_all
  -- the box
  have hxv:a.eval x=.pointer (some ⟨g.θ id,0,none⟩):=by
   have hxv:=opd_ok hr x
   generalize opd σ x=q at *
   obtain ⟨sh,p⟩:=q
   simp only at hxsh
   subst hxsh
   exact hxv
  obtain ⟨b1,b2,b3,b4,arr,E,b5,b6⟩:=hr.box id cs ds hbx
  have hbsz:=lt_of_heap b5
  -- the callee's ghost
  let gs:=sealG g ts
  have hrs:Rel P w gs base (σ.seal ts) a:=hr.seal ts
  obtain ⟨cg1,cg2⟩:=canon_given hcan
  generalize hpairs:given cs cs1=pairs at *
  have hp1:nodupB (pairs.map (·.1))=true:=by rw [cg1]; exact hn1
  have hp2:nodupB (pairs.map (·.2))=true:=by rw [cg2]; exact hnc
  let gc:=lentG w.heap.size gs base (g.θ id) pairs
  have hgold:∀ k,gc.owner k=none→k≠g.θ id:=fun k h e=>by
   subst e
   have:gc.owner (g.θ id)=some (.inl 1000000):=if_pos rfl
   rw [this] at h; cases h
  have hgnone:∀ k,k≠g.θ id→(∀ t,gs.owner k=some (.inr t)→t∈xtoks cs→gs.prot k=0→base≤k→False)→gc.owner k=none:=fun k hne hk=>by
   show (if k=g.θ id then _ else match gs.owner k with | some (.inr t)=>if gs.prot k=0∧base≤k then (fwd pairs t).map Sum.inr else none | _=>none)=none
   rw [if_neg hne]
   split
   ·rename_i t hot
    split
    ·rename_i hpb
     rw [fwd_none (by rw [cg1]; exact fun hm=>hk t hot hm hpb.1 hpb.2)]
     rfl
    ·rfl
   ·rfl
  have hbo:∀ t,gs.owner (g.θ id)≠some (.inr t):=fun t e=>by
   have e:g.owner (g.θ id)=some (.inr t):=e
   rw [b2] at e; cases e
  have hgo:∀ b,g.old b→gc.old b:=fun b hb=>by
   obtain ⟨q1,q2,q3,q4⟩:=hr.low.2.1 b hb
   exact ⟨q4,hgnone b (hr.oldNe hb b2) (fun t ht=>by have ht:g.owner b=some (.inr t):=ht; rw [q1] at ht; cases ht)⟩
  -- what is handed over
  have hcells:VCs P w gc 0 cs1 (toDs cs ds) arr:=by
   obtain ⟨k1,k2⟩:=canon_get hcan
   refine ⟨by rw [b6.1,k1],fun j c1 hj=>?_⟩
   obtain ⟨c,hc,hcc⟩:=k2 j c1 hj
   obtain ⟨u,hu,hv⟩:=b6.2 j c hc
   refine ⟨u,hu,?_⟩
   rw [toDs_get cs ds j c hc]
   cases c with
   | d s =>
    simp only [canonC,Option.some.injEq] at hcc
    subst hcc
    exact seal_vd (ts:=ts) hv
   | kb b =>
    simp only [canonC,Option.some.injEq] at hcc
    subst hcc
    have hv:u=.bool b:=hv
    subst hv
    exact VD.bool (.b b)
   | own t xm e =>
    cases xm with
    | false =>
     simp only [canonC,Option.some.injEq] at hcc
     subst hcc
     obtain ⟨row,hrow,hv⟩:=hv
     exact seal_vd (ts:=ts) (own_vd' hrow hv)
    | true =>
     simp only [canonC,Option.some.injEq] at hcc
     subst hcc
     have hmt:=mem_xtoks (List.mem_of_getElem? hc)
     have hv':=kept_seal (base:=base) g ts w _ _ _ hv
     change VC P w gs base (.own t (true && !ts.contains t) e) _ _ at hv'
     rw [(hxt t hmt).2.2] at hv'
     refine lent_own hp1 hp2 hbo (by rw [← hpairs]; exact given_get hc hj) ?_ hv'
     show Nat.ble 1000000 (bif deepT t then 1000000+(0+j) else 0+j)=deepT t
     cases hdt:deepT t with
     | true=>rw [cond_true]; simp
     | false =>
      rw [cond_false]
      have hjl:0+j<1000000:=by
       have:=(List.getElem?_eq_some_iff.1 hc).1
       omega
      cases hbl:Nat.ble 1000000 (0+j) with
      | false=>rfl
      | true =>
       have:=Nat.le_of_ble_eq_true hbl
       omega
   | _=>simp [canonC] at hcc
  have hfv:=opd_ok hr f
  have hfv:VC P w g base (.fn fid caps) (gd (opd σ f).p 0) (a.eval f):=by
   generalize opd σ f=q at *
   obtain ⟨sh,p⟩:=q
   simp only at hsh
   subst hsh
   exact hfv
  have hfa:arg P σ (opd σ f)=some (.c (.fn fid qs) (.l [es])):=by
   generalize opd σ f=q at *
   obtain ⟨sh,p⟩:=q
   simp only at hsh
   subst hsh
   unfold arg
   simp only at hcs ⊢
   rw [hcs]
  have hts1:∀ t∈(ys.map (opd σ)).flatMap (argToks σ),ts.contains t=true:=fun t ht=>List.contains_iff_mem.2 (by rw [← hts]; exact List.mem_append.2 (.inl ht))
  have hts2:∀ t∈argToks σ (opd σ f),ts.contains t=true:=fun t ht=>List.contains_iff_mem.2 (by
   rw [← hts]
   refine List.mem_append.2 (.inr ?_)
   unfold argToks at ht
   rw [hsh] at ht
   exact ht)
  have hfc:=argP_ok (gc:=gc) (b':=0) hr hfa (opd_ok hr f) hnf hts2 rfl hgo
  obtain ⟨carr,hfe,hcl1,hcl2⟩:VC P w gc 0 (.fn fid qs) (.l [es]) (a.eval f):=hfc
  obtain ⟨k1,k2⟩:=argsP_ok (gc:=gc) (b':=0) hr rfl hgo hvs hny hts1
  have hstart:StartP P w gc (g.θ id) cs1 (toDs cs ds) (vs++capTs qs es) ((ys.map a.eval).toArray++carr):=by
   refine ⟨rfl,if_pos rfl,(show (sealG g ts).prot (g.θ id)=0 by rw [seal_box b2]; exact b3),⟨arr,E,b5,hcells⟩,fun k hk=>?_,fun k hk=>⟨hk.2,hk.1⟩,by simp [k1,capTs_length,hcl1],fun j t hj=>?_⟩
   ·obtain ⟨q1,q2⟩:=hrs.fresh k hk
    exact ⟨q1,hgnone k (by omega) (fun t ht=>by rw [q2] at ht; cases ht)⟩
   ·rw [List.getElem?_append] at hj
    split at hj
    ·rename_i hlt
     obtain ⟨y,hy,hyv⟩:=k2 j t hj
     refine ⟨a.eval y,?_,hyv⟩
     rw [Array.getElem?_append_left (by simp; omega)]
     simp [hy]
    ·rename_i hge
     rw [capTs_get] at hj
     cases hc:qs[j - vs.length]? with
     | none=>rw [hc] at hj; cases hj
     | some c =>
      rw [hc] at hj; injection hj with hj; subst hj
      obtain ⟨u,m3,m4⟩:=hcl2 _ c hc
      refine ⟨u,?_,?_⟩
      ·rw [Array.getElem?_append_right (by simp; omega)]
       simp only [List.size_toArray,List.length_map,← k1]
       exact m3
      ·have m4:CapV P w gc 0 c (gd es (j - vs.length)) u:=m4
       cases c <;> exact m4
  have hisp:r.sh.isP=true:=by rw [hrsh]; rfl
  obtain ⟨hen,hcalls⟩:=(hcall _ _ _ hcl).p hisp
  intro K Q hK
  unfold Oper.wp
  have hrun:(execOp a.eval o).run P w=.ok (.enter fid (#[.pointer (some ⟨g.θ id,0,none⟩)]++((ys.map a.eval).toArray++carr))) w:=by
   simp only [execOp,ho,resolve,hfe,Deferred.ofValue,Sem.run_bind,Sem.run_pure,Result.andThen_ok,invoke]
   have e:xs.map a.eval++carr = #[.pointer (some ⟨g.θ id,0,none⟩)]++((ys.map a.eval).toArray++carr):=by
    subst hxs'
    rw [← Array.append_assoc]
    congr 1
    simp [hxv]
   simpa [e] using hen (xs.map a.eval++carr) w
  rw [hrun]
  refine (hcalls cs1 (toDs cs ds) (vs++capTs qs es) cs2 res rfl hrsh w gc (g.θ id) _ hstart).mono ?_
  rintro ex w' ⟨v,g',rfl,hE⟩
  obtain ⟨bg1,bg2⟩:=back_given hback
  obtain ⟨bl1,bl2,bl3⟩:=back_get hback
  generalize hpairs2:given cs2 cs'=pairs2 at *
  have hq1:nodupB (pairs2.map (·.1))=true:=by rw [bg1]; exact hn2
  have hq2:nodupB (pairs2.map (·.2))=true:=by rw [bg2]; exact hn1'
  let g2:=backG g gs g' gc.old (g.θ id) id d pairs2
  have hxsub:∀ t∈xtoks cs',t∈xtoks cs:=fun t ht=>by
   obtain ⟨j,e,hj⟩:=of_xtoks ht
   obtain ⟨c,c2,q1,q2,q3⟩:=bl3 j _ hj
   rcases backC_own q3 with ⟨t1,t',e1,rfl,rfl,h3,_⟩ | ⟨s,_,h3⟩
   ·injection h3 with h3 _ h4
    subst h3
    exact mem_xtoks (List.mem_of_getElem? q1)
   ·cases h3
  have hprot:∀ k,gc.old k→g'.prot k=gs.prot k:=fun k hk=>(hE.old k hk).2.1
  -- blocks that are not the callee's
  have holdk:∀ k,k<w.heap.size→k≠g.θ id→(∀ t,g.owner k=some (.inr t)→t∈xtoks cs→gs.prot k=0→base≤k→False)→gc.old k:=fun k h1 h2 h3=>⟨h1,hgnone k h2 h3⟩
  have hvdk:∀ b o u,o<gs.prot b→w.cell? ⟨b,o,none⟩=some u→gc.old b:=fun b o u h1 h2=>by
   refine holdk b (cell_size h2) (fun e=>?_) (fun t _ _ hp _=>by omega)
   subst e
   have:gs.prot (g.θ id)=0:=by show (sealG g ts).prot _=_; rw [seal_box b2]; exact b3
   omega
  have hcellk:∀ b o u,o<gs.prot b→w.cell? ⟨b,o,none⟩=some u→w'.cell? ⟨b,o,none⟩=some u∧o<g2.prot b:=fun b o u h1 h2=>by
   have hk:=hvdk b o u h1 h2
   exact ⟨(cell_of_heap (hE.old b hk).1 o).trans h2,by show o<g'.prot b; rw [hprot b hk]; exact h1⟩
  have hvd:∀ {s:S} {x:D} {v:Value},VD P w gs.prot s x v→VD P w' g2.prot s x v:=fun h=>h.mono hcellk
  have htokk:∀ t,t ∉ xtoks cs→t.1≠d→g2.ρ t=gs.ρ t∧g2.len t=gs.len t∧g2.wid t=gs.wid t∧g2.ety t=gs.ety t:=fun t h1 h2=>by
   have h3:t ∉ pairs2.map (·.2):=by rw [bg2]; exact fun h=>h1 (hxsub t h)
   simp only [g2,backG,if_neg h3,if_neg h2,and_self]
  have hblk:∀ b t,t ∉ xtoks cs→g.owner b=some (.inr t)→b<w.heap.size→w'.heap[b]?=w.heap[b]?∧g2.owner b=some (.inr t)∧g2.path b=gs.path b∧g2.need b=gs.need b∧g2.prot b=gs.prot b:=fun b t h1 h2 h3=>by
   have hne:b≠g.θ id:=fun e=>by rw [e,b2] at h2; cases h2
   have hk:=holdk b h3 hne (fun t' ht' hm _ _=>by rw [h2] at ht'; injection ht' with ht'; injection ht' with ht'; subst ht'; exact h1 hm)
   refine ⟨(hE.old b hk).1,?_,if_pos hk,if_pos hk,hprot b hk⟩
   simp only [g2,backG,if_neg hne,if_pos hk]
   exact h2
  have hown:∀ {t:Tok} {xm:Bool} {e:TypeId} {row:List S} {rows:List (List D)} {v:Value},t ∉ xtoks cs→t.1≠d→OwnV P w gs base t xm e row rows v→OwnV P w' g2 base t xm e row rows v:=by
   intro t xm e row rows v ht1 ht2 h
   obtain ⟨e1,e2,e3,e4⟩:=htokk t ht1 ht2
   rcases h with ⟨h0,h1,h2⟩ | ⟨cap,arr,E,h1,h2,h3,h4,h5,h6,h7,h8,h9,h10,h11⟩
   ·exact .inl ⟨h0,by rw [e2]; exact h1,h2⟩
   ·obtain ⟨m1,m2,m3,m4,m5⟩:=hblk _ t ht1 h5 (lt_of_heap h6)
    refine .inr ⟨cap,arr,E,by rw [e1]; exact h1,h2,by rw [e4]; exact h3,by rw [e1]; exact h4,by rw [e1]; exact m2,by rw [e1,m1]; exact h6,h7,by rw [e2]; exact h8,by rw [e3]; exact h9,by rw [e1,e2,e3,m5]; exact h10,fun i j s hi hs=>?_⟩
    obtain ⟨u,q1,q2⟩:=h11 i j s hi hs
    exact ⟨u,q1,q2.mono rfl hcellk (fun _ b o h0 ho' hne hb=>by
     obtain ⟨z1,z2,z3,z4,z5⟩:=hblk b t ht1 ho' (lt_of_heap hb)
     exact ⟨z1.trans hb,h0,z2,by rw [e1]; exact hne,z3,z4,fun e=>z5.trans e⟩)⟩
  have hcptr:∀ {cells:List S} {off:Nat} {x:D} {v:Value},CptrV P w gs base cells off x v→CptrV P w' g2 base cells off x v:=by
   rintro cells off x v ⟨b,o,h1,h2,h3⟩
   refine ⟨b,o,h1,h2,fun j s hs=>?_⟩
   obtain ⟨u,z1,z2⟩:=h3 j s hs
   exact ⟨u,(cell_of_heap (hE.old b (hgo b h2)).1 _).trans z1,hvd z2⟩
  have hk:Kept P base gs g2 w w' (fun c=>wipeC d (dropsC (xtoks cs) c)):=by
   intro c x v hv
   show VC P w' g2 base (wipeC d (dropsC (xtoks cs) c)) x v
   cases c with
   | any=>rw [dropsC_id (fun _=>rfl)]; trivial
   | d s=>rw [dropsC_id (fun _=>rfl)]; exact hvd hv
   | kb b=>rw [dropsC_id (fun _=>rfl)]; exact hv
   | own t xm e =>
    obtain ⟨row,hrow,hv⟩:=hv
    rw [dropsC_own]
    by_cases ht:t∈xtoks cs
    ·rw [show (xtoks cs).contains t=true from List.contains_iff_mem.2 ht,cond_true]
     cases xm with
     | true=>trivial
     | false=>exact hvd (own_vd' hrow hv)
    ·rw [show (xtoks cs).contains t=false from by simpa using ht,cond_false]
     show VC P w' g2 base (bif t.1==d then (bif xm then .any else .d (.sl e)) else .own t xm e) x v
     by_cases htd:t.1=d
     ·rw [show (t.1==d)=true from by simpa using htd,cond_true]
      cases xm with
      | true=>trivial
      | false=>exact hvd (own_vd' hrow hv)
     ·rw [show (t.1==d)=false from by simpa using htd,cond_false]
      exact ⟨row,hrow,hown ht htd hv⟩
   | ptr id' off =>
    rw [dropsC_id (fun _=>rfl)]
    show VC P w' g2 base (bif id'==d then .any else .ptr id' off) x v
    cases (id'==d) with
    | true=>trivial
    | false=>exact hv
   | eptr tk e off =>
    cases tk with
    | none =>
     rw [dropsC_id (fun _=>rfl)]
     obtain ⟨row,b,o,h1,h2,h3,h4⟩:=hv
     refine ⟨row,b,o,h1,h2,h3,fun j s hs=>?_⟩
     obtain ⟨u,q1,q2,q3⟩:=h4 j s hs
     obtain ⟨z1,z2⟩:=hcellk b _ u q2 q1
     exact ⟨u,z1,z2,hvd q3⟩
    | some t =>
     obtain ⟨row,h1,h2,h3,u,h4⟩:=hv
     rw [dropsC_eptr]
     by_cases ht:t∈xtoks cs
     ·rw [show (xtoks cs).contains t=true from List.contains_iff_mem.2 ht,cond_true]; trivial
     ·rw [show (xtoks cs).contains t=false from by simpa using ht,cond_false]
      show VC P w' g2 base (bif t.1==d then .any else .eptr (some t) e off) x v
      by_cases htd:t.1=d
      ·rw [show (t.1==d)=true from by simpa using htd,cond_true]; trivial
      ·rw [show (t.1==d)=false from by simpa using htd,cond_false]
       exact ⟨row,h1,by rw [(htokk t ht htd).1]; exact h2,h3,u,hown ht htd h4⟩
   | inn t e off ei =>
    rw [dropsC_inn]
    by_cases ht:t∈xtoks cs
    ·rw [show (xtoks cs).contains t=true from List.contains_iff_mem.2 ht,cond_true]; trivial
    ·rw [show (xtoks cs).contains t=false from by simpa using ht,cond_false]
     show VC P w' g2 base (bif t.1==d then .any else .inn t e off ei) x v
     by_cases htd:t.1=d
     ·rw [show (t.1==d)=true from by simpa using htd,cond_true]; trivial
     ·rw [show (t.1==d)=false from by simpa using htd,cond_false]
      exact inn_mono hv (htokk t ht htd).1 (fun o h5 h6=>(hblk _ t ht h5 (lt_of_heap h6)).1.trans h6) (fun hu=>hown ht htd hu)
   | cptr cells off=>rw [dropsC_id (fun _=>rfl)]; exact hcptr hv
   | fn f caps =>
    rw [dropsC_id (fun _=>rfl)]
    show VC P w' g2 base (bif caps.all (fun | .ptr id _=>id != d | _=>true) then .fn f caps else .any) x v
    generalize caps.all _=q
    cases q with
    | false=>trivial
    | true =>
     obtain ⟨arr,h1,h2,h3⟩:=hv
     refine ⟨arr,h1,h2,fun j c hc=>?_⟩
     obtain ⟨u,hu,hcap⟩:=h3 j c hc
     refine ⟨u,hu,?_⟩
     cases c with
     | d s=>exact hvd hcap
     | ptr id off=>exact hcap
     | cptr cells off=>exact hcptr hcap
  have hbge:∀ k,¬ gc.old k→base≤k:=fun k hk=>by
   refine Nat.le_of_not_lt fun hlt=>hk ?_
   have:=hr.base_le
   exact holdk k (by omega) (by omega) (fun t _ _ _ h=>by omega)
  -- the callee's cells,under the caller's names
  obtain ⟨arr',E',e1,e2⟩:=hE.cells
  have hnew:VCs P w' g2 base cs' (sub r.p 1 cs'.length) arr':=by
   refine ⟨by rw [e2.1,bl2,bl1],fun j c' hj=>?_⟩
   obtain ⟨c,c2,q1,q2,q3⟩:=bl3 j c' hj
   obtain ⟨u,hu,hv⟩:=e2.2 j c2 q2
   refine ⟨u,hu,?_⟩
   rw [bl1,← bl2]
   rcases backC_own q3 with ⟨t,t',e,rfl,rfl,rfl,h0,hdt⟩ | ⟨s,rfl,rfl⟩
   ·have hm:(t',t)∈pairs2:=by rw [← hpairs2]; exact given_get q2 hj
    have hmem:t∈pairs2.map (·.2):=List.mem_map.2 ⟨_,hm,rfl⟩
    have hi:=inv_mem hq2 hm
    refine back_own (fun k hk=>(hE.old k hk).2.2) hE.boxo.2 hbge (u:=t') ⟨?_,?_,?_,?_⟩ (by rw [fwd_mem hq1 hm]; rfl) hdt hv
    ·simp only [backG,if_pos hmem,hi]
    ·simp only [backG,if_pos hmem,hi]
    ·simp only [backG,if_pos hmem,hi]
    ·simp only [backG,if_pos hmem,hi]
   ·exact hv
  have hval:VT P w' g2 base ⟨(tupOf res).map (retokC d),sub r.p (1+cs2.length) (res.flatMap Sh1.ces).length⟩ v:=by
   refine vs_mem (fun c hc x u hcv=>?_) hE.res
   have hces:(tupOf res).ces=res.flatMap Sh1.ces:=by
    cases res with
    | nil=>rfl
    | cons y ys=>cases ys <;> simp [tupOf,Sh.ces]
   rw [hces] at hc
   have hcr:=List.all_eq_true.1 hresC c hc
   cases c with
   | d s=>exact hcv
   | own t xm e =>
    obtain ⟨t1,ix⟩:=t
    have ht0:t1=0:=by simpa [resC] using hcr
    subst ht0
    have hnm:((0,ix):Tok) ∉ xtoks cs2:=by
     have:=List.all_eq_true.1 hres0 (0,ix) (mem_toks hc)
     simpa using this
    have hdn:((d,ix):Tok) ∉ pairs2.map (·.2):=by rw [bg2]; exact fun h=>(hxt _ (hxsub _ h)).1 rfl
    show VC P w' g2 base (.own (d,ix) xm e) x u
    refine back_own (gl:=g) (gs:=gs) (old:=gc.old) (bx:=g.θ id) (id:=id) (d:=d) (pairs:=pairs2) (t:=(d,ix)) (fun k hk=>(hE.old k hk).2.2) hE.boxo.2 hbge (u:=(0,ix)) ⟨?_,?_,?_,?_⟩ (by rw [fwd_none (by rw [bg1]; exact hnm)]; rfl) rfl hcv
    ·simp only [backG,if_neg hdn,if_true]
    ·simp only [backG,if_neg hdn,if_true]
    ·simp only [backG,if_neg hdn,if_true]
    ·simp only [backG,if_neg hdn,if_true]
   | _=>simp [resC] at hcr
  -- the state behind
  have hτ:(dropTs (xtoks cs) (σ.seal ts)).wipe d=(σ.seal ts).map (fun c=>wipeC d (dropsC (xtoks cs) c)):=by
   rw [dropTs_map]
   exact St.map_comp _ _ _
  have hbx':hlook id (σ.seal ts).h=some (cs.map (sealC ts),ds):=by
   have:=hlook_map (List.map (sealC ts)) σ.h id
   rw [hbx] at this
   exact this
  have hrel:Rel P w' g2 base ⟨((σ.seal ts).map (fun c=>wipeC d (dropsC (xtoks cs) c))).r,((σ.seal ts).map (fun c=>wipeC d (dropsC (xtoks cs) c))).e,hput id (cs',sub r.p 1 cs'.length) ((σ.seal ts).map (fun c=>wipeC d (dropsC (xtoks cs) c))).h⟩ a:=by
   refine ⟨fun i=>hrs.envMap hk (by rw [dropsC_id (fun _=>rfl)]; rfl) i,fun id' cs9 ds9 hl=>?_,fun b hb=>?_,Nat.le_trans hr.base_le hE.size,hr.defers,⟨⟨hr.low.1.1,hr.low.1.2⟩,fun b hb=>?_,fun t x hx=>?_⟩,fun b t ht ho'=>?_⟩
   rotate_right
   ·have hne:b≠g.θ id:=fun h=>by
     subst h
     have:g2.owner (g.θ id)=some (.inl id):=if_pos rfl
     rw [this] at ho'
     cases ho'
    by_cases hko:gc.old b
    ·have h1:g2.owner b=gs.owner b:=by simp only [g2,backG,if_neg hne,if_pos hko]
     have h2:g2.path b=gs.path b:=if_pos hko
     have h3:g2.need b=gs.need b:=if_pos hko
     rw [h2,h3]
     exact hrs.mine b t ht (by rw [← h1]; exact ho')
    ·exfalso
     simp only [g2,backG,if_neg hne,if_neg hko] at ho'
     split at ho'
     ·rename_i u hu
      injection ho' with ho'
      injection ho' with ho'
      cases hf:fwd pairs2 u with
      | none =>
       rw [hf] at ho'
       have ho':(d,u.2)=t:=ho'
       rw [← ho'] at ht
       have ht:d=1000001:=ht
       omega
      | some t2 =>
       rw [hf] at ho'
       have ho':t2=t:=ho'
       subst ho'
       have hm:t2∈pairs2.map (·.2):=by
        unfold fwd at hf
        cases hq:pairs2.find? (·.1==u) with
        | none=>rw [hq] at hf; cases hf
        | some q =>
         rw [hq] at hf
         injection hf with hf
         exact List.mem_map.2 ⟨q,List.mem_of_find?_eq_some hq,hf⟩
       rw [bg2] at hm
       exact (hxt _ (hxsub _ hm)).2.1 ht
     ·cases ho'
   ·rw [hlook_hput] at hl
    by_cases e:id'=id
    ·subst e
     rw [if_pos rfl] at hl
     injection hl with hl
     injection hl with l1 l2
     subst l1; subst l2
     exact ⟨b1,if_pos rfl,hE.boxo.1,sub_length _ _ _,arr',E',e1,hnew⟩
    ·rw [if_neg e] at hl
     refine hrs.boxMap hk hl fun cs8 ds8 h8=>?_
     obtain ⟨j1,j2,j3,j4,arr8,E8,j5,j6⟩:=hrs.box id' cs8 ds8 h8
     have j2:g.owner (g.θ id')=some (.inl id'):=j2
     have hne:g.θ id'≠g.θ id:=fun h=>by rw [h,b2] at j2; injection j2 with j2; injection j2 with j2; exact e j2.symm
     have hko:=holdk (g.θ id') (lt_of_heap j5) hne (fun t ht=>by rw [j2] at ht; cases ht)
     refine ⟨rfl,?_,hprot _ hko,(hE.old _ hko).1⟩
     exact (if_neg hne).trans (if_pos hko)
   ·have hge:=hE.size
    obtain ⟨q1,q2⟩:=hE.fresh b hb
    refine ⟨q1,?_⟩
    have hno:¬ gc.old b:=fun h=>by have:=h.1; omega
    simp only [g2,backG,if_neg hno,q2]
    rw [if_neg (by omega)]
   ·have hb:g.old b:=hb
    obtain ⟨q1,q2,q3,q4⟩:=hrs.low.2.1 b hb
    have hko:=hgo b hb
    refine ⟨?_,(hprot b hko).trans q2,(hE.old b hko).1.trans q3,Nat.lt_of_lt_of_le q4 hE.size⟩
    simp only [g2,backG,if_neg (hr.oldNe hb b2),if_pos hko]
    exact q1
   ·obtain ⟨q1,q2,q3,q4⟩:=hrs.low.2.2 t x hx
    have ht1:t ∉ xtoks cs:=fun h=>(hxt t h).2.1 q1
    have ht2:t.1≠d:=by omega
    obtain ⟨m1,m2,_⟩:=htokk t ht1 ht2
    refine ⟨q1,m1.trans q2,m2.trans q3,fun h0=>?_⟩
    obtain ⟨z1,arr9,z2,z3⟩:=q4 h0
    obtain ⟨y1,y2,_⟩:=hblk _ t ht1 z1 (lt_of_heap z2)
    exact ⟨y2,arr9,y1.trans z2,z3⟩
  have hbel:Below base w w':=⟨hE.os,hE.tape,hE.output,hE.size,fun k hk=>by
   have:=hr.base_le
   exact (hE.old k (holdk k (by omega) (by omega) (fun t _ _ _ h=>by omega))).1⟩
  have:=hK v w' g2 (by
   have:=hrel.put hd (dst:=o.dst) (t:=⟨(tupOf res).map (retokC d),sub r.p (1+cs2.length) (res.flatMap Sh1.ces).length⟩) hval
   rw [hdst] at this
   rw [hτ]
   rw [hdst]
   exact this) hbel
  exact this
theorem pickCs_get {m:Nat} {cs:List Value}:∀ {sel:List Nat},(∀ k∈sel,(k+1)*m≤cs.length)→∀ (i j k:Nat),sel[i]?=some k→j<m→(pickCs m cs sel)[i*m+j]?=cs[k*m+j]?
 | [],_,i,j,k,h,_=>by simp at h
 | k0::sel,h,i,j,k,hi,hj=>by
  have h1:=h k0 (by simp)
  rw [Nat.succ_mul] at h1
  have hl:((cs.drop (k0*m)).take m).length=m:=by rw [List.length_take,List.length_drop]; omega
  rw [pickCs]
  cases i with
  | zero =>
   simp only [List.getElem?_cons_zero,Option.some.injEq] at hi
   subst hi
   rw [Nat.zero_mul,Nat.zero_add,List.getElem?_append_left (by omega),List.getElem?_take_of_lt hj,List.getElem?_drop]
  | succ i =>
   have e1:(i+1)*m+j=m+(i*m+j):=by rw [Nat.succ_mul]; omega
   rw [e1,List.getElem?_append_right (by omega),hl,Nat.add_sub_cancel_left]
   exact pickCs_get (fun k hk=>h k (List.mem_cons_of_mem _ hk)) i j k (by simpa using hi) hj
theorem own_ownX {t:Tok} {e:TypeId} {row:List S} {rows:List (List D)} {u:Value} (hrow:rowOf P e=some row) (h:OwnV P w g base t true e row rows u) :
  ∃ cs B,OwnX w e row.length rows.length cs u B∧(∀ b,B=some b→b=g.ρ t∧base≤b∧g.owner b=some (.inr t)∧g.prot b=0∧b<w.heap.size)∧(B=none→rows = []) ∧
   ∀ i j s,i<rows.length→row[j]?=some s→∃ z,cs[i*row.length+j]?=some z∧CellV P base w g t true i j s (gd (rows.getD i []) j) z:=by
 rcases h with ⟨h0,h1,A,hv⟩ | ⟨cap,arr,E,k1,k2,⟨k3,rfl,k3'⟩,k4,k5,k6,k7,k8,k9,k10,k11⟩
 ·subst h0
  exact ⟨[],none,⟨by simp,by simp,.inl ⟨rfl,rfl,A,hv⟩⟩,(fun b hb=>by cases hb),fun _=>rfl,fun i j s hi _=>by simp at hi⟩
 ·have hpos:=rowOf_pos hrow
  have hle:rows.length*row.length≤arr.size:=by rw [k7]; exact Nat.mul_le_mul_right _ k2
  have hget:∀ i j s,i<rows.length→row[j]?=some s→∃ z,(arr.toList.take (rows.length*row.length))[i*row.length+j]?=some z∧CellV P base w g t true i j s (gd (rows.getD i []) j) z:=fun i j s hi hs=>by
   obtain ⟨z,q1,q2⟩:=k11 i j s hi hs
   have hj:=(List.getElem?_eq_some_iff.1 hs).1
   have:(i+1)*row.length≤rows.length*row.length:=Nat.mul_le_mul_right _ hi
   rw [Nat.succ_mul] at this
   exact ⟨z,by rw [List.getElem?_take,if_pos (by omega)]; simpa using q1,q2⟩
  refine ⟨arr.toList.take (rows.length*row.length),some (g.ρ t),⟨?_,fun v hv=>?_,.inr ⟨_,cap,arr,rfl,k1,k2,k3,k6,k7,fun k v hk=>?_⟩⟩,(fun b hb=>by injection hb with hb; subst hb; exact ⟨rfl,k4,k5,by simpa using k10,lt_of_heap k6⟩),(fun hb=>by cases hb),hget⟩
  ·rw [List.length_take,Array.length_toList]; exact Nat.min_eq_left hle
  ·obtain ⟨k,hk⟩:=List.getElem?_of_mem hv
   have hkl:=(List.getElem?_eq_some_iff.1 hk).1
   rw [List.length_take] at hkl
   have hjk:k % row.length<row.length:=Nat.mod_lt _ hpos
   obtain ⟨z,q1,q2⟩:=hget (k / row.length) (k % row.length) _ ((Nat.div_lt_iff_lt_mul hpos).2 (by omega)) (List.getElem?_eq_getElem hjk)
   have e:k / row.length*row.length+k % row.length=k:=by rw [Nat.mul_comm]; exact Nat.div_add_mod k row.length
   rw [e,hk] at q1
   injection q1 with q1
   subst q1
   exact oneCell_of_flat q2.flat
  ·rw [List.getElem?_take] at hk
   split at hk
   ·simpa using hk
   ·cases hk
def pickP (sel:List Nat):List (Nat × Nat)→List (Nat × Nat)
 | [] => []
 | (a,j)::r=>(sel.idxOf a,j)::r
theorem pick_rel (hr:Rel P w g base σ a) {t:Tok} {e:TypeId} {row:List S} {rows:List (List D)} {cs:List Value} {sel:List Nat} {B B':Option Nat} {v':Value}
  (hd:deepT t=true) (hpt:t.1≠1000001) (hrow:rowOf P e=some row) (hB:∀ b,B=some b→b=g.ρ t∧base≤b∧g.owner b=some (.inr t)∧g.prot b=0∧b<w.heap.size)
  (hcells:∀ i j s,i<rows.length→row[j]?=some s→∃ z,cs[i*row.length+j]?=some z∧TR P w (labOf base g t) [(i,j)] s (gd (rows.getD i []) j) z)
  (hsel:sel.Nodup) (hlt:∀ k∈sel,k<rows.length) (hlen:cs.length=rows.length*row.length)
  (hC:Changed w w' B) (hO:OwnX w' e row.length sel.length (pickCs row.length cs sel) v' B') (hB':∀ b,B'=some b→B=some b∨w.heap.size≤b) :
  ∃ g',Rel P w' g' base (σ.map (dropC t)) a∧OwnV P w' g' base t true e row (sel.map fun k=>rows.getD k []) v'∧Below base w w':=by
 have hne:∀ b,B=some b→g.owner b=some (.inr t):=fun b hb=>(hB b hb).2.2.1
 let g':G:={ prot:=fun b=>if B'=some b then 0 else g.prot b,owner:=fun b=>if B'=some b then some (.inr t) else g.owner b,θ:=g.θ,ρ:=fun u=>if u=t then B'.getD (g.ρ t) else g.ρ u, len:=fun u=>if u=t then sel.length else g.len u,wid:=fun u=>if u=t then row.length else g.wid u,ety:=fun u=>if u=t then e else g.ety u, path:=fun b=>if g.owner b=some (.inr t) then pickP sel (g.path b) else g.path b,need:=g.need,old:=g.old }
 have hbb:∀ b,B'=some b→b<w'.heap.size:=fun b hb=>by
  rcases hO.2.2 with ⟨h0,_⟩ | ⟨b1,cap,arr,q1,q2,q3,q4,q5,q6,q7⟩
  ·rw [h0] at hb; cases hb
  ·rw [q1] at hb; injection hb with hb; subst hb; exact lt_of_heap q5
 have hg1:∀ b,b<w.heap.size→g'.prot b=g.prot b∧g'.owner b=g.owner b:=fun b hb=>by
  by_cases hbe:B'=some b
  ·rcases hB' b hbe with h1 | h1
   ·obtain ⟨_,_,q3,q4,_⟩:=hB b h1
    exact ⟨by show (if _ then _ else _)=_; rw [if_pos hbe,q4],by show (if _ then _ else _)=_; rw [if_pos hbe,q3]⟩
   ·omega
  ·exact ⟨if_neg hbe,if_neg hbe⟩
 have hg4:∀ b,w'.heap.size≤b→g'.prot b=0∧g'.owner b=none:=fun b hb=>by
  have hbe:B'≠some b:=fun e=>by have:=hbb b e; omega
  obtain ⟨q1,q2⟩:=hr.fresh b (Nat.le_trans hC.size hb)
  exact ⟨by show (if _ then _ else _)=_; rw [if_neg hbe,q1],by show (if _ then _ else _)=_; rw [if_neg hbe,q2]⟩
 have hpath:∀ b t',t'≠t→g.owner b=some (.inr t')→g'.path b=g.path b:=fun b t' ht' ho=>if_neg (by rw [ho]; intro e; injection e with e; injection e with e; exact ht' e)
 have hk:Kept P base g g' w w' (dropC t):=by
  refine kept_drop (fun b o u h1 h2=>?_) (fun b t' ht' ho' hb=>⟨hC.other b hb (fun e=>?_),(hg1 b hb).2,(hg1 b hb).1⟩) (fun t' ht'=>⟨if_neg ht',if_neg ht',if_neg ht',if_neg ht'⟩) rfl (fun b hb=>hC.other b (hr.low.2.1 b hb).2.2.2 (fun e=>?_)) (fun b t' ht' ho _=>⟨hpath b t' ht' ho,rfl⟩) rfl
  ·have hb:=cell_size h2
   refine ⟨(cell_of_heap (hC.other b hb (fun e=>?_)) o).trans h2,by rw [(hg1 b hb).1]; exact h1⟩
   have:=(hB b e).2.2.2.1
   omega
  ·have:=hne b e
   rw [this] at ho'
   injection ho' with ho'
   injection ho' with ho'
   exact ht' ho'.symm
  ·exact hr.oldNe hb (hne b e) rfl
 have hrel:Rel P w' g' base (σ.map (dropC t)) a:=by
  refine hr.drop hk rfl (fun b id ho' hb=>⟨hC.other b hb (fun e=>?_),(hg1 b hb).2,(hg1 b hb).1⟩) hg4 hC.size (fun b hb=>⟨(hg1 b (hr.low.2.1 b hb).2.2.2).2,(hg1 b (hr.low.2.1 b hb).2.2.2).1,hC.other b (hr.low.2.1 b hb).2.2.2 (fun e=>hr.oldNe hb (hne b e) rfl)⟩) rfl (fun t' ht'=>⟨if_neg (unpin hpt ht'),if_neg (unpin hpt ht'),fun b ho hb=>⟨by rw [(hg1 b hb).2]; exact ho,hC.other b hb (fun e=>by have:=hne b e; rw [this] at ho; injection ho with ho; injection ho with ho; exact unpin hpt ht' ho.symm)⟩⟩) (fun b t' ht' ho=>?_)
  ·have:=hne b e
   rw [this] at ho'
   injection ho' with ho'
   cases ho'
  ·change (if _ then _ else _)=_ at ho
   split at ho
   ·injection ho with ho; injection ho with ho; exact absurd ho.symm (unpin hpt ht')
   ·exact ⟨ho,hpath b t' (unpin hpt ht') ho,rfl⟩
 refine ⟨g',hrel,?_,⟨hC.os,hC.tape,hC.output,hC.size,fun k hk=>hC.other k (Nat.lt_of_lt_of_le hk hr.base_le) (fun e=>by have:=(hB k e).2.1; omega)⟩⟩
 rcases hO.2.2 with ⟨h0,h1,A,hv⟩ | ⟨b1,cap,arr,q1,q2,q3,q4,q5,q6,q7⟩
 ·have:sel = []:=List.eq_nil_of_length_eq_zero h1
  subst this
  exact .inl ⟨rfl,if_pos rfl,A,hv⟩
 ·have e1:g'.ρ t=b1:=by show (if t=t then B'.getD _ else _)=_; rw [if_pos rfl,q1]; rfl
  refine .inr ⟨cap,arr,e,by rw [e1,List.length_map]; exact q2,by rw [List.length_map]; exact q3,⟨q4,rfl,(if_pos rfl).symm⟩,?_,?_,by rw [e1]; exact q5,q6,by rw [List.length_map]; exact (if_pos rfl).symm,(if_pos rfl).symm,?_,fun i j s hi hs=>?_⟩
  ·rw [e1]
   rcases hB' b1 q1 with h1 | h1
   ·exact (hB b1 h1).2.1
   ·exact Nat.le_trans hr.base_le h1
  ·rw [e1]
   exact if_pos q1
  ·rw [e1]
   show (if B'=some b1 then 0 else _)=_
   rw [if_pos q1]
   rfl
  ·rw [List.length_map] at hi
   have hj:=(List.getElem?_eq_some_iff.1 hs).1
   have hsi:sel[i]?=some sel[i]:=List.getElem?_eq_getElem hi
   have hmem:sel[i]∈sel:=List.getElem_mem hi
   have hkl:=hlt _ hmem
   obtain ⟨z,z1,z2⟩:=hcells _ j s hkl hs
   refine ⟨z,q7 _ _ ?_,.of_tr ?_ hd⟩
   ·rw [pickCs_get (fun k hk=>by rw [hlen]; exact Nat.mul_le_mul_right _ (hlt k hk)) i j _ hsi hj]
    exact z1
   ·have e2:(sel.map fun k=>rows.getD k []).getD i []=rows.getD sel[i] []:=by
     rw [List.getD_eq_getElem?_getD,List.getElem?_map,hsi]; rfl
    rw [e2]
    have:=TR.mono (pickP sel) (fun π x hπ=>by cases π with | nil=>exact absurd rfl hπ | cons p r=>rfl) z2 (w':=w') (lab':=labOf base g' t) (fun b π n o hπ hl ho=>by
     obtain ⟨l0,l1,l2,l3,l4,l5⟩:=hl
     have hblt:=lt_of_heap ho
     refine ⟨(hC.other b hblt (fun e=>l2 (hB b e).1)).trans ho,l0,(hg1 b hblt).2.trans l1,?_,?_,l4,(hg1 b hblt).1.trans l5⟩
     ·rw [e1]
      rintro rfl
      rcases hB' b q1 with h1 | h1
      ·exact l2 (hB b h1).1
      ·omega
     ·show (if g.owner b=some (.inr t) then _ else _)=_
      rw [if_pos l1,l3]) (by simp)
    rw [show pickP sel [(sel[i],j)] = [(i,j)] from by
     show [(sel.idxOf sel[i],j)]=_
     rw [hsel.idxOf_getElem]] at this
    exact this
theorem evX_ok (hr:Rel P w g base σ a) {call:FuncId→List T→Option (T × Bool)} (hcall:CallOk P call) {o:Oper} {σ':St} {f:Operand} {xs:Array Operand} {ts0:Array TypeId} (ho:o.op=.call { callee:=.value f,args:=xs,argTypes:=ts0 }) (hd:∀ d,o.dst=some d→d<a.tmps.size)
  (h:evX call σ o.dst f xs.toList=some (σ',true)):Goes P base σ' o a w:=by
 unfold evX at h
 split at h
 ·rename_i fid i y z hsh hxs
  have hxs':xs = #[.tmp i,y,z]:=by cases xs; simp_all
  subst hxs'
  have hfv:=opd_ok hr f
  have hfv:VC P w g base (.fn fid []) (gd (opd σ f).p 0) (a.eval f):=by
   generalize opd σ f=q at *
   obtain ⟨sh,p⟩:=q
   simp only at hsh
   subst hsh
   exact hfv
  obtain ⟨carr,hfe,hcl1,_⟩:=hfv
  have hc0:carr = #[]:=by simpa using hcl1
  subst hc0
  split at h
  ·rename_i t e hsi hsy
   have hiv:=opd_ok hr (.tmp i)
   have hiv:VC P w g base (.own t true e) (gd (opd σ (.tmp i)).p 0) (a.eval (.tmp i)):=by
    generalize opd σ (.tmp i)=q at *
    obtain ⟨sh,p⟩:=q
    simp only at hsi
    subst hsi
    exact hiv
   obtain ⟨row,hrow,hown⟩:=hiv
   have hyv:=opd_ok hr y
   have hyv:a.eval y=.int .i64 (gd (opd σ y).p 0).int:=by
    generalize opd σ y=q at *
    obtain ⟨sh,p⟩:=q
    simp only at hsy
    subst hsy
    have hyv:VD P w g.prot (.int .i64) (gd p 0) (a.eval y):=hyv
    generalize a.eval y=uy at *
    cases hyv
    rfl
   -- behind the call
   have fin:∀ {r:T} {q:T},SoundX P fid [.c (.d (.sl e)) (gd (opd σ (.tmp i)).p 0),.c (.d (.int .i64)) (gd (opd σ y).p 0),q] r→deepT t=true→t.1≠1000001 →
     ∀ {g₁:G} {σ₁:St} {cs2:List Value} {B2:Option Nat},Rel P w g₁ base σ₁ a→OwnV P w g₁ base t true e row (gd (opd σ (.tmp i)).p 0).rows (a.eval (.tmp i)) →
     ((q.sh=.one (.c (.d (.int .i64)))∧a.eval z=.int .i64 (gd q.p 0).int∧cs2 = [])∨(q.sh=.one (.c (.d (.sl e)))∧OwnX w e row.length (zRows q).length cs2 (a.eval z) B2)) →
     cs2.length=(zRows q).length*row.length→(∀ b,g₁.owner b=some (.inr t)→B2=some b→False) →
     (∀ i' j s,i'<(zRows q).length→row[j]?=some s→∃ u,cs2[i'*row.length+j]?=some u∧TR P w (labOf base g₁ t) [((gd (opd σ (.tmp i)).p 0).rows.length+i',j)] s (gd ((zRows q).getD i' []) j) u) →
     Goes P base ((σ₁.map (dropC t)).put o.dst (.c (.own t true e) (gd r.p 0))) o a w:=by
    intro r q hS hdt hpt g₁ σ₁ cs2 B2 hr₁ hown₁ hz hcs2 hBB hz2
    obtain ⟨hen,hX⟩:=hS
    obtain ⟨sel,s1,s2,s3,s4⟩:=hX e _ _ q row rfl hrow
    obtain ⟨cs,B,k1,k2,k3,k4⟩:=own_ownX hrow hown₁
    intro K Q hK
    unfold Oper.wp
    have hrun:(execOp a.eval o).run P w=.ok (.enter fid #[a.eval (.tmp i),.int .i64 (gd (opd σ y).p 0).int,a.eval z]) w:=by
     simp only [execOp,ho,resolve,hfe,Deferred.ofValue,Sem.run_bind,Sem.run_pure,Result.andThen_ok,invoke]
     rw [← hyv]
     simpa using hen _ w
    rw [hrun]
    refine (s4 w _ _ B B2 cs cs2 k1 (fun b h1 h2=>hBB b (k2 b h1).2.2.1 h2) hz).mono ?_
    rintro ex w' ⟨v',B',rfl,hC,hO,hB'⟩
    have hcl:cs.length=(gd (opd σ (.tmp i)).p 0).rows.length*row.length:=k1.1
    obtain ⟨g',q1,q2,q3⟩:=pick_rel (rows:=(gd (opd σ (.tmp i)).p 0).rows++zRows q) (cs:=cs++cs2) hr₁ hdt hpt hrow k2 (fun i' j s hi hs=>by
     rw [List.length_append] at hi
     have hj:=(List.getElem?_eq_some_iff.1 hs).1
     by_cases h1:i'<(gd (opd σ (.tmp i)).p 0).rows.length
     ·obtain ⟨u,z1,z2⟩:=k4 i' j s h1 hs
      have hlt:=(List.getElem?_eq_some_iff.1 z1).1
      refine ⟨u,by rw [List.getElem?_append_left hlt]; exact z1,?_⟩
      rw [List.getD_eq_getElem?_getD,List.getElem?_append_left h1,← List.getD_eq_getElem?_getD]
      exact z2.tr hdt
     ·obtain ⟨u,z1,z2⟩:=hz2 (i' - (gd (opd σ (.tmp i)).p 0).rows.length) j s (by omega) hs
      have e0:(gd (opd σ (.tmp i)).p 0).rows.length+(i' - (gd (opd σ (.tmp i)).p 0).rows.length)=i':=by omega
      have e1:i'*row.length+j=(gd (opd σ (.tmp i)).p 0).rows.length*row.length+((i' - (gd (opd σ (.tmp i)).p 0).rows.length)*row.length+j):=by
       rw [← Nat.add_assoc,← Nat.add_mul,e0]
      refine ⟨u,by rw [e1,List.getElem?_append_right (by omega),hcl,Nat.add_sub_cancel_left]; exact z1,?_⟩
      rw [List.getD_eq_getElem?_getD,List.getElem?_append_right (by omega),← List.getD_eq_getElem?_getD]
      rw [e0] at z2
      exact z2) s1 s2 (by rw [List.length_append,List.length_append,hcl,hcs2,Nat.add_mul]) hC hO hB'
    exact hK _ w' g' (q1.put hd (dst:=o.dst) (t:=.c (.own t true e) (gd r.p 0)) ⟨row,hrow,by
     show OwnV P w' g' base t true e row (gd r.p 0).rows v'
     rw [s3]; exact q2⟩) q3
   split at h
   ·rename_i hsz
    split at h
    ·rename_i r ok hcl
     cases hq:(r.sh.isX&&deepT t&&t.1 != 1000001) with
     | false=>rw [hq] at h; cases h
     | true =>
      rw [hq,cond_true] at h
      simp only [Option.some.injEq,Prod.mk.injEq] at h
      obtain ⟨rfl,rfl⟩:=h
      simp only [Bool.and_eq_true] at hq
      obtain ⟨⟨hx,hdt⟩,hpt⟩:=hq
      have hzv:=opd_ok hr z
      have hzv:a.eval z=.int .i64 (gd (opd σ z).p 0).int:=by
       generalize opd σ z=q at *
       obtain ⟨sh,p⟩:=q
       simp only at hsz
       subst hsz
       have hzv:VD P w g.prot (.int .i64) (gd p 0) (a.eval z):=hzv
       generalize a.eval z=uz at *
       cases hzv
       rfl
      exact fin ((hcall _ _ _ hcl).x hx) hdt (by simpa using hpt) (cs2:= []) (B2:=none) hr hown (.inl ⟨rfl,hzv,rfl⟩) (by simp [zRows]) (fun b _ h=>by cases h) (fun i' j s hi _=>by simp [zRows] at hi)
    ·cases h
   ·rename_i t2 e2 hsz
    split at h
    ·rename_i r ok hcl
     cases hq:(r.sh.isX&&e==e2&&deepT t&&deepT t2&&t2 != t&&t.1 != 1000001&&t2.1 != 1000001) with
     | false=>rw [hq] at h; cases h
     | true =>
      rw [hq,cond_true] at h
      simp only [Option.some.injEq,Prod.mk.injEq] at h
      obtain ⟨rfl,rfl⟩:=h
      simp only [Bool.and_eq_true] at hq
      obtain ⟨⟨⟨⟨⟨⟨hx,hee⟩,hdt⟩,hdt2⟩,hne⟩,hpt⟩,hpt2⟩:=hq
      have hee:e=e2:=by simpa using hee
      subst hee
      have hne:t≠t2:=Ne.symm (show t2≠t by simpa using hne)
      have hpt:t.1≠1000001:=by simpa using hpt
      have hpt2:t2.1≠1000001:=by simpa using hpt2
      have hzv:=opd_ok hr z
      have hzv:VC P w g base (.own t2 true e) (gd (opd σ z).p 0) (a.eval z):=by
       generalize opd σ z=q at *
       obtain ⟨sh,p⟩:=q
       simp only at hsz
       subst hsz
       exact hzv
      obtain ⟨row',hrow',hown2⟩:=hzv
      rw [hrow] at hrow'; injection hrow' with hrow'; subst hrow'
      obtain ⟨cs2,B2,k1,k2,k3,k4⟩:=own_ownX hrow hown2
      have hS:=(hcall _ _ _ hcl).x hx
      let n0:=(gd (opd σ (.tmp i)).p 0).rows.length
      let fm:List (Nat × Nat)→List (Nat × Nat):=fun π=>match π with
       | [] => []
       | (i,j)::r=>(n0+i,j)::r
      have main:∀ {g₀:G} {σ₀:St},Rel P w g₀ base σ₀ a→OwnV P w g₀ base t true e row (gd (opd σ (.tmp i)).p 0).rows (a.eval (.tmp i))→(∀ b₂,g₀.owner b₂=some (.inr t2)→w.heap.size≤b₂∨b₂≠g₀.ρ t)→(∀ b₂,g₀.owner b₂=g.owner b₂∧g₀.path b₂=g.path b₂∧g₀.need b₂=g.need b₂∧g₀.prot b₂=g.prot b₂)→g₀.ρ t2=g.ρ t2 →
        Goes P base (((σ₀.map (dropC t2)).map (dropC t)).put o.dst (.c (.own t true e) (gd r.p 0))) o a w:=by
       intro g₀ σ₀ hr₀ hown₀ hρt hsame hρ'
       obtain ⟨hk1,hr1⟩:=move_kept (t:=t2) (s:=t) (f:=fm) (top:=none) hr₀ hpt2 hpt
       have hown1:=move_own (s:=t) (f:=fm) (top:=none) hr₀ hpt2 hpt hne hrow hown₀
       refine fin hS hdt hpt (cs2:=cs2) (B2:=B2) hr1 hown1 (.inr ⟨rfl,k1⟩) k1.1 (fun b hb h2=>?_) (fun i' j s hi hs=>?_)
       ·obtain ⟨q1,q2,q3,q4,q5⟩:=k2 b h2
        have hob:g₀.owner b=some (.inr t2):=(hsame b).1.trans q3
        change (if g₀.owner b=some (.inr t2) then _ else _)=_ at hb
        rw [if_pos hob,if_pos (by rw [hρ']; exact q1)] at hb
        simp only [Option.isSome_none,Bool.false_eq_true,if_false] at hb
        injection hb with hb; injection hb with hb
        exact hne hb.symm
       ·obtain ⟨u,z1,z2⟩:=k4 i' j s hi hs
        refine ⟨u,z1,?_⟩
        have:=TR.mono fm (fun π x hπ=>by cases π with | nil=>exact absurd rfl hπ | cons p r=>rfl) (z2.tr hdt2) (w':=w) (lab':=labOf base (moveG g₀ t2 t fm none) t) (fun b₂ π n o₂ hπ hl ho₂=>⟨ho₂,by
         obtain ⟨l0,l1,l2,l3,l4,l5⟩:=hl
         obtain ⟨m1,m2,m3,m4⟩:=hsame b₂
         have l1':g₀.owner b₂=some (.inr t2):=m1.trans l1
         have l2':b₂≠g₀.ρ t2:=by rw [hρ']; exact l2
         refine ⟨l0,?_,(hρt b₂ l1').resolve_left (by have:=lt_of_heap ho₂; omega),?_,?_,m4.trans l5⟩
         ·show (if g₀.owner b₂=some (.inr t2) then _ else _)=_
          rw [if_pos l1',if_neg l2']
         ·show (if g₀.owner b₂=some (.inr t2) then _ else _)=_
          rw [if_pos l1',if_neg l2',m2,l3]
         ·show (if g₀.owner b₂=some (.inr t2)∧b₂=g₀.ρ t2 then _ else _)=_
          rw [if_neg (fun e=>l2' e.2),m3]; exact l4⟩) (by simp)
        exact this
      rcases hown with hown' | hown'
      ·have k:=main (rho_drop hr t hpt w.heap.size) (.inl ⟨hown'.1,hown'.2.1,hown'.2.2⟩) (fun b₂ _=>by
        show _∨b₂≠(if t=t then w.heap.size else _)
        rw [if_pos rfl]; omega) (fun _=>⟨rfl,rfl,rfl,rfl⟩) (if_neg (Ne.symm hne))
       have e1:((σ.map (dropC t)).map (dropC t2)).map (dropC t)=(σ.map (dropC t2)).map (dropC t):=drop_swap t t2 σ
       rw [e1] at k
       exact k
      ·exact main hr (.inr hown') (fun b₂ ho₂=>.inr fun e=>by
        obtain ⟨cap,arr,E,h1,h2,h3,h4,h5,rest⟩:=hown'
        rw [e,h5] at ho₂; injection ho₂ with ho₂; injection ho₂ with ho₂; exact hne ho₂) (fun _=>⟨rfl,rfl,rfl,rfl⟩) rfl
    ·cases h
   ·cases h
  ·cases h
 ·cases h
theorem evW_ok (hr:Rel P w g base σ a) {call:FuncId→List T→Option (T × Bool)} (hcall:CallOk P call) {o:Oper} {σ':St} {f:Operand} {xs:Array Operand} {ts0:Array TypeId} {tys:List TypeId} (ho:o.op=.call { callee:=.value f,args:=xs,argTypes:=ts0 }) (hd:∀ d,o.dst=some d→d<a.tmps.size)
  (h:evW P call σ o.dst f xs.toList tys=some (σ',true)):Goes P base σ' o a w:=by
 unfold evW at h
 split at h
 ·rename_i r he
  injection h with h
  subst h
  exact evW0_ok hr hcall ho hd he
 ·split at h
  ·rename_i r he
   injection h with h
   subst h
   exact evK_ok hr hcall ho hd he
  ·split at h
   ·rename_i r he
    injection h with h
    subst h
    exact evMi_ok hr hcall ho hd he
   ·split at h
    ·rename_i r he
     injection h with h
     subst h
     exact evX_ok hr hcall ho hd he
    ·exact evM_ok hr hcall ho hd h
end
end Go.Proofs.YtpdfmcmnjikppaaGreat
