/-
 Texts of the proof,put together: part 3.
-/
import Derived.Test.YtpdfmcmnjikppaaGreatPR1
import Derived.Test.YtpdfmcmnjikppaaGreatPR2
import Derived.Deep.LoopGhost
set_option linter.unusedSimpArgs false
set_option linter.unusedVariables false
set_option linter.unusedSectionVars false
namespace Go.Proofs.YtpdfmcmnjikppaaGreat
abbrev n5:=@Nat.zero_le
abbrev A8:=@List.mem_map
abbrev C5:=@Array.mem_of_getElem?
abbrev C6:=@List.filter_cons
abbrev F0:=@List.nil_append
abbrev H1:=@List.mem_of_find?_eq_some
abbrev I9:=@List.getElem?_take_of_lt
abbrev J8:=@Bool.or_true
abbrev M1:=@Bool.true_or
abbrev N8:=@List.mem_cons_of_mem
end Go.Proofs.YtpdfmcmnjikppaaGreat
namespace Go.Proofs.YtpdfmcmnjikppaaGreat
open Go.RowKit
def g0(n:Nat)(prot:Nat->Nat):G:=⟨prot,fun _=>none,fun _=>0,fun _=>0,fun _=>0,fun _=>0,fun _=>0,fun _ => [],fun _=>0,fun b=>b<n⟩
structure Res(P:Program)(prot:Nat->Nat)(w w':World)(r:T)(v:Value)(g':G):Prop where
 below:Below w.heap.size w w'
 val:VT P w' g' w.heap.size r v
 prot:∀b,b<w.heap.size->g'.prot b=prot b
 fresh:∀b,w'.heap.size<=b->g'.prot b=0/\g'.owner b=none
def lq(P:Program)(prot:Nat->Nat)(w:World)(args:List T)(y:Array Value):Prop:=
 y.size=args.length/\∀(j:Nat) t,args[j]?=some t->∃u,y[j]?=some u/\VT P w (g0 w.heap.size prot) w.heap.size t u
def amB(sh:Sh)(v:Value):Value:=
 match sh with
 | .tup [.c _]=>.tuple #[]
 | _=>v
structure alF(b:Nat)(e:TypeId)(arr:Array Value)(rows:List b8)(w w':World):Prop where
 below:Below 0 w w'
 other:∀k,k<w.heap.size->k≠b->w'.heap[k]?=w.heap[k]?
 row:∃arr',w'.heap[b]?=some (.cells arr' e (0,0))/\arr'.size=arr.size/\∀i,i<rows.length->arr'[i]?=some (.int .i64 (gd (rows.getD i []) 0).int)
def Zu(P:Program)(f:FuncId)(args:List T)(r:T):Prop:=
 (∀J w,(callFunc f J).run P w=.ok (.enter f J) w) /\
 ∀(e:TypeId) (x:D),args = [.c (.d (.sl e)) x]->br P e=some [.int .i64] ->
  (x.rows = []->(gd r.p 0).rows = []/\∀(A:Option Addr) (w:World),Calls P f #[.slice A 0 0] w fun ex w'=>ex=.returned (amB r.sh (.slice A 0 0))/\Below w.heap.size w w') /\
  ∀(w:World) (b cap:Nat) (y:Array Value),w.heap[b]?=some (.cells y e (0,0))->y.size=cap->x.rows.length<=cap->cap<=9223372036854775807->(∀i,i<x.rows.length->y[i]?=some (.int .i64 (gd (x.rows.getD i []) 0).int)) ->
   (gd r.p 0).rows.length<=x.rows.length/\((∃c,r.sh=.tup [.c c])->(gd r.p 0).rows.length=x.rows.length) /\
   Calls P f #[.slice (some ⟨b,0,none⟩) x.rows.length cap] w fun ex w'=>ex=.returned (amB r.sh (.slice (some ⟨b,0,none⟩) (gd r.p 0).rows.length cap))/\alF b e y (gd r.p 0).rows w w'
def FV:S->D->Value->Prop
 | .int k,d,v=>v=.int k d.int
 | .bool,d,v=>v=.bool d.bool
 | .str,d,v=>v=.string (bsv d.str)
 | .sl _,_,_=>False
 | .opq,_,_=>False
theorem FV.vd{P:Program}{w:World}{prot:Nat->Nat}{s:S}{d:D}{v:Value}(h:FV s d v):VD P w prot s d v:=by
 cases s with
 | int k=>cases h;exact .int k d
 | bool=>cases h;exact .bool d
 | str=>cases h;exact .str d
 | sl e=>cases h
 | opq=>cases h
theorem VD.fv{P:Program}{w:World}{prot:Nat->Nat}{s:S}{d:D}{v:Value}(h:VD P w prot s d v)(y:s.flat=true):FV s d v:=by
 cases h with
 | int k d=>rfl
 | bool d=>rfl
 | str d=>rfl
 | sl=>simp[S.flat] at y
 | opq=>simp[S.flat] at y
def eh(w:World)(e:TypeId)(row:List S)(rows:List b8)(v:Value)(B:Option Nat):Prop:=
 (B=none/\rows = []/\∃A,v=.slice A 0 0) \/
 ∃(b cap:Nat) (y:Array Value),B=some b/\v=.slice (some ⟨b,0,none⟩) rows.length cap/\rows.length<=cap/\cap<=9223372036854775807/\w.heap[b]?=some (.cells y e (0,0))/\y.size=cap*row.length /\
  ∀i j s,i<rows.length->row[j]?=some s->∃u,y[i*row.length+j]?=some u/\FV s (gd (rows.getD i []) j) u
structure aM(w w':World)(B:Option Nat):Prop where
 os:w'.os=w.os
 tape:w'.tape=w.tape
 output:w'.output=w.output
 size:w.heap.size<=w'.heap.size
 other:∀k,k<w.heap.size->B≠some k->w'.heap[k]?=w.heap[k]?
theorem aM.refl(w:World)(B:Option Nat):aM w w B:=⟨rfl,rfl,rfl,i8 _,fun _ _ _=>rfl⟩
theorem aM.trans{w w' M:World}{B O:Option Nat}(h:aM w w' B)(y:aM w' M O)(U:∀b,O=some b->B=some b\/w.heap.size<=b):aM w M B:=
 ⟨y.os.trans h.os,y.tape.trans h.tape,y.output.trans h.output,m8 h.size y.size,fun k hk J=>by rw[y.other k (B0 hk h.size) (fun e=>by rcases U k e with h1 | h1 <;> first | exact J h1 | omega)];exact h.other k hk J⟩
theorem aM.of_below{w w':World}(B:Option Nat)(h:Below w.heap.size w w'):aM w w' B:=⟨h.os,h.tape,h.output,h.size,fun k hk _=>h.block k hk⟩
def aaq(P:Program)(f:FuncId)(args:List T)(r:T):Prop:=
 (∀y w,(callFunc f y).run P w=.ok (.enter f y) w) /\
 ∀(e:TypeId) (x:D) (rest:List T) (row:List S),args=.c (.d (.sl e)) x::rest->br P e=some row->row.all S.flat=true ->
  ∀(w:World) (prot:Nat->Nat) (u:Value) (B:Option Nat) (y:Array Value),eh w e row x.rows u B->(∀b,B=some b->prot b=0)->(∀b,w.heap.size<=b->prot b=0) ->
   (∀J,aM w J B->lq P prot J rest y) ->
   (r.sh.isKo=true->∀(j:Nat) A n cap,y[j]?=some (.slice A n cap)->0<n->∃b U E,A=some ⟨b,0,none⟩/\w.heap[b]?=some (.cells U E (0,0))) ->
   Calls P f (#[u]++y) w fun ex w'=>∃O M,ex=.returned O/\aM w w' B/\eh w' e row (gd r.p 0).rows O M/\∀b,M=some b->B=some b\/w.heap.size<=b
def adT(w:World)(e:TypeId)(m n:Nat)(cs:List Value)(u:Value)(B:Option Nat):Prop:=cs.length=n*m/\(∀v∈cs,v.oneCell'=true)/\((B=none/\n=0/\∃A,u=.slice A 0 0) \/
 ∃(b cap:Nat) (y:Array Value),B=some b/\u=.slice (some ⟨b,0,none⟩) n cap/\n<=cap/\cap<=9223372036854775807/\w.heap[b]?=some (.cells y e (0,0))/\y.size=cap*m/\∀(k:Nat) v,cs[k]?=some v->y[k]?=some v)
def lG(m:Nat)(cs:List Value):List Nat->List Value
 | [] => []
 | k::sel=>(cs.drop (k*m)).take m++lG m cs sel
def Aw(z:T):List b8:=
 match z.sh with
 | .one (.c (.d (.sl _)))=>(gd z.p 0).rows
 | _ => []
def Ue(P:Program)(f:FuncId)(args:List T)(r:T):Prop:=
 (∀O w,(callFunc f O).run P w=.ok (.enter f O) w) /\
 ∀(e:TypeId) (x n:D) (z:T) (row:List S),args = [.c (.d (.sl e)) x,.c (.d (.int .i64)) n,z]->br P e=some row ->
  ∃y:List Nat,y.Nodup/\(∀k∈y,k<(x.rows++Aw z).length)/\(gd r.p 0).rows=y.map (fun k=>(x.rows++Aw z).getD k []) /\
  ∀(w:World) (u v:Value) (B B2:Option Nat) (cs cs2:List Value),adT w e row.length x.rows.length cs u B->(∀b,B=some b->B2=some b->False) ->
   ((z.sh=.one (.c (.d (.int .i64)))/\v=.int .i64 (gd z.p 0).int/\cs2 = [])\/(z.sh=.one (.c (.d (.sl e)))/\adT w e row.length (Aw z).length cs2 v B2)) ->
   Calls P f #[u,.int .i64 n.int,v] w fun ex w'=>∃M J,ex=.returned M/\aM w w' B/\adT w' e row.length y.length (lG row.length (cs++cs2) y) M J/\∀b,J=some b->B=some b\/w.heap.size<=b
def ZN(P:Program)(f:FuncId)(args:List T)(r:T):Prop:=
 (∀M w,(callFunc f M).run P w=.ok (.enter f M) w) /\
 (∀cs:List Ce,r.sh=.tup [.agg (.any::.any::.any::.any::cs)]->∀(w:World) (prot:Nat->Nat) (M:Array Value),lq P prot w args M->(∀b,w.heap.size<=b->prot b=0) ->
  Calls P f M w fun e w'=>∃(b:Nat) (y:Nat->Nat),e=.returned (.pointer (some ⟨b,0,none⟩))/\Below w.heap.size w w'/\w.heap.size<=b/\(∀k,k<w.heap.size->y k=prot k)/\y b=0/\(∀k,w'.heap.size<=k->y k=0) /\
   ∃J E,w'.heap[b]?=some (.cells J E (0,0))/\J.size=cs.length/\∀(j:Nat) s,cs[j]?=some (.d s)->∃u,J[j]?=some u/\VD P w' y s (gd r.p j) u) /\
 ∀cs:List Ce,r.sh=.tup [.agg (.kb false::.any::.any::.any::cs)]->∀(w:World) (prot:Nat->Nat) (M:Array Value),lq P prot w args M->(∀b,w.heap.size<=b->prot b=0) ->
  Calls P f M w fun e w'=>∃(us:Array Value) (y:Nat->Nat),e=.returned (.agg us)/\Below w.heap.size w w'/\(∀k,k<w.heap.size->y k=prot k)/\(∀k,w'.heap.size<=k->y k=0)/\us.size=cs.length /\
   ∀(j:Nat) c,cs[j]?=some c->∃u,us[j]?=some u/\((∃s,c=.d s/\VD P w' y s (gd r.p j) u)\/(c=.any/\∃J,M[0]?=some (.agg J)/\J[j]?=some u))
structure aiI(w w':World)(lab:Nat->List (Nat × Nat)->Nat->Prop):Prop where
 os:w'.os=w.os
 tape:w'.tape=w.tape
 output:w'.output=w.output
 size:w.heap.size<=w'.heap.size
 other:∀k,k<w.heap.size->(∀π n,¬lab k π n)->w'.heap[k]?=w.heap[k]?
def TRs(P:Program)(w:World)(lab:Nat->List (Nat × Nat)->Nat->Prop)(y:List S)(ds:b8)(us:Array Value):Prop:=
 us.size=y.length/\∀(j:Nat) s,y[j]?=some s->∃z,us[j]?=some z/\TR P w lab [(0,j)] s (gd ds j) z
def ahC(P:Program)(f:FuncId)(args:List T)(r:T):Prop:=
 (∀U w,(callFunc f U).run P w=.ok (.enter f U) w) /\
 ∀(q:T) (O:D) (y:List S),args = [q,.c (.d (.int .i64)) O] ->
  ∀(w:World) (lab:Nat->List (Nat × Nat)->Nat->Prop) (u:Value) (us:Array Value),((∃s d,q=.c (.d s) d/\y = [s]/\us = #[u])\/(∃ds,q=⟨.one (.agg (y.map .d)),ds⟩/\u=.agg us))->TRs P w lab y q.p us ->
   (∀b π J n M,lab b π n->lab b J M->π=J/\n=M) ->
   Calls P f #[u,.int .i64 O.int] w fun ex w'=>ex=.returned (.int .i64 (gd r.p 0).int)/\aiI w w' lab/\TRs P w' lab y r.p.tail us
structure agn(P:Program)(w:World)(g:G)(b:Nat)(cs:List Ce)(ds:b8)(args:List T)(vs:Array Value):Prop where
 box:g.θ 1000000=b
 owner:g.owner b=some (.inl 1000000)
 prot:g.prot b=0
 cells:∃arr E,w.heap[b]?=some (.cells arr E (0,0))/\VCs P w g 0 cs ds arr
 fresh:∀k,w.heap.size<=k->g.prot k=0/\g.owner k=none
 old:∀k,g.old k->g.owner k=none/\k<w.heap.size
 size:vs.size=args.length
 args:∀(j:Nat) t,args[j]?=some t->∃u,vs[j]?=some u/\VT P w g 0 t u
structure amz(P:Program)(w w':World)(g g':G)(b:Nat)(cs:List Ce)(res:List Sh1)(p:b8)(v:Value):Prop where
 os:w'.os=w.os
 tape:w'.tape=w.tape
 output:w'.output=w.output
 size:w.heap.size<=w'.heap.size
 old:∀k,g.old k->w'.heap[k]?=w.heap[k]?/\g'.prot k=g.prot k/\g'.owner k=none
 fresh:∀k,w'.heap.size<=k->g'.prot k=0/\g'.owner k=none
 boxo:g'.prot b=0/\∀t,g'.owner b≠some (.inr t)
 cells:∃arr E,w'.heap[b]?=some (.cells arr E (0,0))/\VCs P w' g' 0 cs (sub p 1 cs.length) arr
 res:VT P w' g' 0 ⟨PB res,sub p (1+cs.length) (res.flatMap Sh1.ces).length⟩ v
def Zs(P:Program)(f:FuncId)(args:List T)(r:T):Prop:=
 (∀y w,(callFunc f y).run P w=.ok (.enter f y) w) /\
 ∀(M:List Ce) (J:b8) (rest:List T) (cs2:List Ce) (res:List Sh1),args=⟨.tup [.agg M],J⟩::rest->r.sh=.tup (.agg [.any]::.agg cs2::res) ->
  ∀(w:World) (g:G) (b:Nat) (y:Array Value),agn P w g b M J rest y ->
   Calls P f (#[.pointer (some ⟨b,0,none⟩)]++y) w fun e w'=>∃v g',e=.returned v/\amz P w w' g g' b cs2 res r.p v
def aJ(P:Program)(f:FuncId)(args:List T)(r:T):Prop:=if r.sh.isM then ahC P f args r else if r.sh.isK then aaq P f args r else if r.sh.isP then Zs P f args r else if r.sh.isX then Ue P f args r else if r.sh.isN then ZN P f args r else if r.sh.isW then Zu P f args r else
 (∀y w,(callFunc f y).run P w=.ok (.enter f y) w) /\
 ∀(w:World) (prot:Nat->Nat) (y:Array Value),lq P prot w args y->(∀b,w.heap.size<=b->prot b=0) ->
  Calls P f y w fun e w'=>∃v g',e=.returned v/\Res P prot w w' r v g'
theorem agM{sh:Sh}(h:sh.isW=false):sh.isK=false:=by
 unfold Sh.isK
 split
 ·simp[Sh.isW] at h
 ·rfl
theorem akZ{sh:Sh}(h:sh.isW=false):sh.isM=false:=by
 unfold Sh.isM
 split
 ·simp[Sh.isW] at h
 ·rfl
theorem akV{sh:Sh}(h:sh.isW=false):sh.isP=false:=by
 unfold Sh.isP
 split
 ·simp[Sh.isW] at h
 ·rfl
theorem abC{sh:Sh}(h:sh.isW=false):sh.isX=false:=by
 unfold Sh.isX
 split
 ·simp[Sh.isW] at h
 ·rfl
theorem alb{sh:Sh}(h:sh.isW=false):sh.isN=false:=by
 unfold Sh.isN
 split
 ·simp[Sh.isW] at h
 ·simp[Sh.isW] at h
 ·rfl
theorem JS{sh:Sh}(h:sh.isN=true):sh.isM=false/\sh.isK=false/\sh.isP=false/\sh.isX=false:=by
 unfold Sh.isN at h
 split at h
 ·exact⟨rfl,rfl,by unfold Sh.isP;split <;> simp_all,rfl⟩
 ·exact⟨rfl,rfl,by unfold Sh.isP;split <;> simp_all,rfl⟩
 ·cases h
theorem RF{sh:Sh}(h:sh.isX=true):sh.isM=false/\sh.isK=false/\sh.isP=false:=by
 unfold Sh.isX at h
 split at h
 ·exact⟨rfl,rfl,by unfold Sh.isP;split <;> simp_all⟩
 ·cases h
theorem akE{sh:Sh}(h:sh.isK=true):sh.isM=false:=by
 unfold Sh.isK at h
 split at h
 ·rfl
 ·cases h
theorem akI{sh:Sh}(h:sh.isP=true):sh.isM=false:=by
 unfold Sh.isP at h
 split at h
 ·rfl
 ·cases h
theorem akM{sh:Sh}(h:sh.isP=true):sh.isK=false:=by
 unfold Sh.isP at h
 split at h
 ·rfl
 ·cases h
theorem aJ.n{P:Program}{f:FuncId}{args:List T}{r:T}(h:aJ P f args r)(hw:r.sh.isW=false):(∀y w,(callFunc f y).run P w=.ok (.enter f y) w) /\
 ∀(w:World) (prot:Nat->Nat) (y:Array Value),lq P prot w args y->(∀b,w.heap.size<=b->prot b=0) ->
  Calls P f y w fun e w'=>∃v g',e=.returned v/\Res P prot w w' r v g':=by
 unfold aJ at h;rw[akZ hw,agM hw,akV hw,abC hw,alb hw,hw] at h;exact h
theorem aJ.w{P:Program}{f:FuncId}{args:List T}{r:T}(h:aJ P f args r)(hw:r.sh.isW=true)(hk:r.sh.isK=false)(hm:r.sh.isM=false)(y:r.sh.isP=false)(M:r.sh.isX=false)(J:r.sh.isN=false):Zu P f args r:=by unfold aJ at h;rw[hm,hk,y,M,J,hw] at h;exact h
theorem aJ.k{P:Program}{f:FuncId}{args:List T}{r:T}(h:aJ P f args r)(hk:r.sh.isK=true):aaq P f args r:=by unfold aJ at h;rw[akE hk,hk] at h;exact h
theorem aJ.m{P:Program}{f:FuncId}{args:List T}{r:T}(h:aJ P f args r)(hm:r.sh.isM=true):ahC P f args r:=by unfold aJ at h;rw[hm] at h;exact h
theorem aJ.p{P:Program}{f:FuncId}{args:List T}{r:T}(h:aJ P f args r)(y:r.sh.isP=true):Zs P f args r:=by unfold aJ at h;rw[akI y,akM y,y] at h;exact h
theorem aJ.x{P:Program}{f:FuncId}{args:List T}{r:T}(h:aJ P f args r)(y:r.sh.isX=true):Ue P f args r:=by unfold aJ at h;rw[(RF y).1,(RF y).2.1,(RF y).2.2,y] at h;exact h
theorem aJ.ofX{P:Program}{f:FuncId}{args:List T}{r:T}(y:r.sh.isX=true)(h:Ue P f args r):aJ P f args r:=by unfold aJ;rw[(RF y).1,(RF y).2.1,(RF y).2.2,y];exact h
theorem aJ.nw{P:Program}{f:FuncId}{args:List T}{r:T}(h:aJ P f args r)(y:r.sh.isN=true):ZN P f args r:=by unfold aJ at h;rw[(JS y).1,(JS y).2.1,(JS y).2.2.1,(JS y).2.2.2,y] at h;exact h
theorem aJ.ofN{P:Program}{f:FuncId}{args:List T}{r:T}(y:r.sh.isN=true)(h:ZN P f args r):aJ P f args r:=by unfold aJ;rw[(JS y).1,(JS y).2.1,(JS y).2.2.1,(JS y).2.2.2,y];exact h
theorem aJ.ofP{P:Program}{f:FuncId}{args:List T}{r:T}(y:r.sh.isP=true)(h:Zs P f args r):aJ P f args r:=by unfold aJ;rw[akI y,akM y,y];exact h
theorem aJ.ofW{P:Program}{f:FuncId}{args:List T}{r:T}(hw:r.sh.isW=true)(h:Zu P f args r)(hk:r.sh.isK=false:=by rfl)(hm:r.sh.isM=false:=by rfl)(y:r.sh.isP=false:=by rfl)(M:r.sh.isX=false:=by rfl)(J:r.sh.isN=false:=by rfl):aJ P f args r:=by unfold aJ;rw[hm,hk,y,M,J,hw];exact h
theorem aJ.ofK{P:Program}{f:FuncId}{args:List T}{r:T}(hk:r.sh.isK=true)(h:aaq P f args r):aJ P f args r:=by unfold aJ;rw[akE hk,hk];exact h
theorem aJ.of{P:Program}{f:FuncId}{args:List T}{r:T}(hw:r.sh.isW=false)(h:(∀y w,(callFunc f y).run P w=.ok (.enter f y) w) /\
 ∀(w:World) (prot:Nat->Nat) (y:Array Value),lq P prot w args y->(∀b,w.heap.size<=b->prot b=0) ->
  Calls P f y w fun e w'=>∃v g',e=.returned v/\Res P prot w w' r v g'):aJ P f args r:=by
 unfold aJ;rw[akZ hw,agM hw,akV hw,abC hw,alb hw,hw];exact h
def av(P:Program)(call:FuncId->List T->Option (T × Bool)):Prop:=∀f args r,call f args=some (r,true)->aJ P f args r
section
variable [Low] {P:Program} {w w':World} {g g':G} {base:Nat} {σ:St} {a:Act}
theorem HA(V:Rel P w g base σ a){ts:List Tok}{c O:Cap}{x U:D}{u:Value}(h:wa σ c x=some (O,U))(hv:Ks P w g base c x u)(ht:∀t∈fI σ [c],ts.contains t=true) :
  Ks P w (g0 w.heap.size (bF g ts).prot) w.heap.size O U u:=by
 cases c with
 | d s =>simp only[wa,b7,j8] at h;obtain⟨rfl,rfl⟩:=h;exact iu hv
 | cptr cells off =>simp only[wa,b7,j8] at h;obtain⟨rfl,rfl⟩:=h;obtain⟨b,o,h1,h2,h3⟩:=hv;refine⟨b,o,h1,(V.low.2.1 b h2).2.2.2,fun j s y=>?_⟩;obtain⟨v,M,Y⟩:=h3 j s y;exact⟨v,M,iu Y⟩
 | ptr id off =>
  simp only[wa] at h
  split at h
  ·rename_i cs ds hl
   split at h
   ·rename_i ss W;simp only[b7,j8] at h;obtain⟨rfl,rfl⟩:=h;obtain⟨M,Y,k3,kl,a0,E,Z,k5⟩:=V.box id cs ds hl;have hv:u=.pointer (some ⟨g.θ id,off,none⟩):=hv;subst hv;have J:=aam (ts:=ts) k5 W (fun t h=>ht t (by simp[fI,hl,h]));refine⟨g.θ id,0,by rw[m0],aP Z,fun j s y=>?_⟩;obtain⟨v,q1,q2⟩:=J.2 j s y;exact⟨v,by simp only[World.cell?,Z,m0];exact q1,q2⟩
   ·cases h
  ·cases h
theorem Iv{σ:St}:∀ {caps:List Cap} {j:Nat} {c:Cap},caps[j]?=some c->∀t∈fI σ [c],t∈fI σ caps
 | [],j,c,h,t,ht=>by simp at h
 | c0::cs,0,c,h,t,ht=>by simp only[p9,b7] at h;subst h;cases c0 <;> simp[fI] at ht ⊢;exact .inl ht
 | c0::cs,j+1,c,h,t,ht=>by have:=Iv (caps:=cs) (j:=j) (by simpa using h) t ht;cases c0 <;> simp[fI,this]
theorem Dn(W:Rel P w g base σ a){ts:List Tok}:∀ {caps y:List Cap} {ds J:b8},nI σ caps ds=some (y,J)->(∀t∈fI σ caps,ts.contains t=true) ->
  y.length=caps.length/\∀(j:Nat) M,y[j]?=some M->∃c,caps[j]?=some c/\∀u,Ks P w g base c (gd ds j) u->Ks P w (g0 w.heap.size (bF g ts).prot) w.heap.size M (gd J j) u
 | [],y,ds,J,h,_=>by simp only[nI,b7,j8] at h;obtain⟨rfl,rfl⟩:=h;exact⟨rfl,fun j c h=>by simp at h⟩
 | c::cs,y,ds,J,h,ht=>by
  unfold nI at h
  split at h
  ·rename_i d x a0 xs h1 h2;simp only[b7,j8] at h;obtain⟨rfl,rfl⟩:=h;have V:∀t∈fI σ [c],ts.contains t=true:=fun t h=>ht t (Iv (caps:=c::cs) (j:=0) rfl t h)
   have Y:∀t∈fI σ cs,ts.contains t=true:=fun t h=>ht t (by cases c <;> simp[fI,h])
   obtain⟨Z,k2⟩:=Dn W h2 Y;refine⟨by simp[Z],fun j M U=>?_⟩;cases j with
   | zero =>simp only[p9,b7] at U;subst U;exact⟨c,rfl,fun u O=>HA W h1 O V⟩
   | succ j =>obtain⟨c0,q1,q2⟩:=k2 j M (by simpa using U);refine⟨c0,by simpa using q1,fun u O=>?_⟩;rw[ap];exact q2 u (by rw[fq];exact O)
  ·cases h
theorem ald(hr:Rel P w g base σ a){ts:List Tok}{v v':T}{u:Value}(h:arg P σ v=some v')(hv:VT P w g base v u)(O:∀t∈fJ σ v,ts.contains t=true):VT P w (g0 w.heap.size (bF g ts).prot) w.heap.size v' u:=by
 obtain⟨sh,p⟩:=v;cases sh with
 | tup xs=>cases h
 | one x=>cases x with
  | agg xs =>
   unfold arg at h;simp only at h
   split at h
   ·rename_i ss a6;injection h with h;subst h
    obtain⟨W,rfl,a1⟩:=hv;obtain⟨y,U⟩:=acd (ts:=ts) a1 a6 O;refine⟨W,rfl,by simp[y],fun j c J=>?_⟩;rw[w9] at J;cases M:ss[j]? with
    | none=>rw[M] at J;cases J
    | some s =>
     rw[M] at J;injection J with J;subst J
     obtain⟨z,Z,q2⟩:=U j s M;exact⟨z,Z,q2⟩
   ·cases h
  | c x =>
   cases x with
   | fn f caps =>
    unfold arg at h;simp only at h
    split at h
    ·rename_i cs ds hc;injection h with h;subst h
     obtain⟨y,U⟩:=Dn hr hc O;obtain⟨W,rfl,h2,h3⟩:=hv;refine⟨W,rfl,by rw[h2,y],fun j c J=>?_⟩;obtain⟨c0,Z,q2⟩:=U j c J;obtain⟨z,z1,z2⟩:=h3 j c0 Z;exact⟨z,z1,q2 z z2⟩
    ·cases h
   | cptr cells off =>simp only[arg,b7] at h;subst h;exact HA hr (c:=.cptr cells off) (x:=gd p 0) rfl hv (fun t h=>by simp[fI] at h)
   | ptr id off =>
    unfold arg at h;simp only at h
    split at h
    ·rename_i c d hc;injection h with h;subst h
     have:=HA hr (ts:=ts) hc (u:=u) hv O;have a3:∃ss o',c=.cptr ss o':=by
      simp only[wa] at hc
      split at hc
      ·split at hc
       ·simp only[b7,j8] at hc;exact⟨_,_,hc.1.symm⟩
       ·cases hc
      ·cases hc
     obtain⟨ss,o',rfl⟩:=a3;exact this
    ·cases h
   | eptr tk e off =>
    unfold arg at h;simp only at h
    split at h
    ·rename_i row V;cases Y:Bj tk with
     | true=>rw[Y] at h;cases h
     | false =>
     rw[Y,f9] at h;injection h with h;subst h
     have key:∃b o,u=.pointer (some ⟨b,o+off,none⟩)/\∀(j:Nat) s,row[j]?=some s->∃z,w.cell? ⟨b,o+j,none⟩=some z/\VD P w g.prot s (gd ((eK (gd p 0)).getD (eIx (gd p 0)) []) j) z:=by
      cases tk with
      | none =>obtain⟨a0,b,o,y,U,k3,k4⟩:=hv;rw[V] at y;injection y with y;subst y;exact⟨b,o+eIx (gd p 0)*row.length,by rw[U,u4],fun j s M=>by obtain⟨z,j1,_,j3⟩:=k4 j s M;exact⟨z,by rw[u4];exact j1,j3⟩⟩
      | some t =>
       obtain⟨a0,y,U,k3,v0,k4⟩:=hv;rw[V] at y;injection y with y;subst y;refine⟨g.ρ t,eIx (gd p 0)*row.length,U,fun j s M=>?_⟩;rcases k4 with⟨h0,_⟩ | ⟨cap,W,E,h1,h2,h3,h4,h5,h6,h7,h8,h9,h10,h11⟩
       ·rw[h0] at k3;simp at k3
       ·obtain⟨z,a4,a5⟩:=h11 _ j s k3 M;exact⟨z,by simp only[World.cell?,h6];exact a4,a5.vd Y⟩
     obtain⟨b,o,rfl,hk⟩:=key;obtain⟨z0,a2,_⟩:=hk 0 _ (g9 (mZ V));refine⟨b,o,rfl,dW a2,fun j s M=>?_⟩;obtain⟨z,Z,q2⟩:=hk j s M;refine⟨z,Z,?_⟩;have J:=(g7.1 M).1;show VD P w (bF g ts).prot s (gd (sub ((eK (gd p 0)).getD (eIx (gd p 0)) []) 0 row.length) j) z;rw[fY _ _ _ _ J,m0];exact iu q2
    ·cases h
   | any=>cases h
   | d s =>simp only[arg,Ce.aS,Ce.toS,b7] at h;subst h;exact Rz (base:=base) (c:=.d s) (s:=s) (x:=gd p 0) hv rfl O
   | kb b =>simp only[arg,Ce.aS,Ce.toS,b7] at h;subst h;exact Rz (base:=base) (c:=.kb b) (s:=.bool) (x:=gd p 0) hv rfl O
   | own t xm e =>simp only[arg,Ce.aS,Ce.toS,b7] at h;subst h;exact Rz (base:=base) (c:=.own t xm e) (s:=.sl e) (x:=gd p 0) hv rfl O
   | inn t e off ei =>simp only[arg,Ce.aS,b7] at h;subst h;exact Rz (base:=base) (c:=.inn t e off ei) (s:=.sl ei) (x:=gd p 0) hv rfl O
theorem rd(V:Rel P w g base σ a){ts:List Tok}{nd:Bool}:∀ {xs:List Operand} {U:List TypeId} {O:List T},rT P σ nd xs U=some O->(∀t∈(xs.map (opd σ)).flatMap (fJ σ),ts.contains t=true) ->
  O.length=xs.length/\∀(j:Nat) v,O[j]?=some v->∃x,xs[j]?=some x/\VT P w (g0 w.heap.size (bF g ts).prot) w.heap.size v (a.eval x)
 | [],U,O,h,_=>by simp only[rT,b7] at h;subst h;exact⟨rfl,fun j v h=>by simp at h⟩
 | x::xs,U,O,h,ht=>by
  simp only[rT] at h
  split at h
  ·rename_i d ds h1 Z;injection h with h;subst h
   obtain⟨Y,k2⟩:=rd V Z (fun t h=>ht t (by simp only[w8,G5,n3];exact .inr h));refine⟨by simp[Y],fun j v W=>?_⟩;cases j with
   | zero =>
    simp only[p9,b7] at W;subst W;refine⟨x,rfl,?_⟩;unfold amr at h1
    split at h1
    ·rename_i t J;injection h1 with h1
     subst h1;unfold ajM at J
     split at J
     ·rename_i t0
      split at J
      ·rename_i e he;cases M:br P e with
       | none=>rw[M] at J;cases J
       | some row =>
        rw[M] at J;injection J with J
        subst J;cases nd with
        | false=>exact⟨row,M,.inl ⟨rfl,rfl,none,rfl⟩⟩
        | true=>exact aiL M
      ·cases J
     ·cases J
    ·exact ald V h1 (dO V x) (fun t h=>ht t (by simp only[w8,G5,n3];exact .inl h))
   | succ j =>obtain⟨y,q1,q2⟩:=k2 j v (by simpa using W);exact⟨y,by simpa using q1,q2⟩
  ·cases h
theorem Is:∀(cs:List Cap) (ds:b8) (j:Nat),(wO cs ds)[j]?=(cs[j]?).map fun c=>T.c c.ce (gd ds j)
 | [],ds,j=>by simp[wO]
 | c::cs,ds,0=>by simp[wO]
 | c::cs,ds,j+1=>by simp only[wO,J0,Is cs ds.tail j,fq]
theorem uO:∀(cs:List Cap) (ds:b8),(wO cs ds).length=cs.length
 | [],_=>rfl
 | c::cs,ds=>by simp[wO,uO cs ds.tail]
theorem agr{f:Ce->Ce}{g g':G}{base J:Nat}{sh:Sh}{p:b8}{v:Value}(h:∀c∈sh.ces,∀x v,VC P w g base c x v->VC P w g' J (f c) x v)(hv:VS P w g base sh p v):VS P w g' J (sh.map f) p v:=by
 have h1:∀ {x:Sh1} {p:b8} {v:Value},(∀c∈x.ces,∀x v,VC P w g base c x v->VC P w g' J (f c) x v)->V1 P w g base x p v->V1 P w g' J (x.map f) p v:=by
  intro x p v Z hv;cases x with
  | c c=>exact Z c (by simp[Sh1.ces]) _ _ hv
  | agg xs =>
   obtain⟨a0,rfl,O,U⟩:=hv;refine⟨a0,rfl,by rw[r9];exact O,fun j c y=>?_⟩;rw[w9] at y;cases M:xs[j]? with
   | none=>rw[M] at y;cases y
   | some c0 =>
    rw[M] at y;injection y with y;subst y
    obtain⟨u,V,W⟩:=U j c0 M;exact⟨u,V,Z c0 (A2 M) _ _ W⟩
 cases sh with
 | one x=>exact h1 h hv
 | tup xs =>
  obtain⟨vs,rfl,O,U⟩:=hv;refine⟨vs,rfl,by rw[r9];exact O,fun j x y=>?_⟩;rw[w9] at y;cases M:xs[j]? with
  | none=>rw[M] at y;cases y
  | some Y =>
   rw[M] at y;injection y with y;subst y
   obtain⟨u,V,W⟩:=U j Y M;refine⟨u,V,?_⟩;rw[OU,Sh1.size_map];exact h1 (fun c hc=>h c (List.mem_flatMap.2 ⟨Y,A2 M,hc⟩)) W
def BT(P:Program)(base:Nat)(y:St)(o:Oper)(a:Act)(w:World):Prop:=
 ∀(K:Act->World->Prop) (Q:Exit->Act->World->Prop),(∀z w' g',Rel P w' g' base y (a.put o.dst z)->Below base w w'->K (a.put o.dst z) w')->o.wp P a w K Q
theorem Vl.goes{o:Oper}{y:St}(h:Vl P base y o a w):BT P base y o a w:=by
 intro K Q M;obtain⟨z,w',g',h1 | ⟨h1,rfl⟩,J,O⟩:=h
 ·unfold Oper.wp;rw[h1];exact M z w' g' J O
 ·unfold Oper.wp;rw[h1];exact M undef w' g' J O
theorem agX{sh:Sh}(h:sh.prim=true):∀c∈sh.ces,c.prim=true:=by
 have h1:∀ {x:Sh1},x.prim=true->∀c∈x.ces,c.prim=true:=by
  intro x y c hc;cases x with
  | c J=>simp only[Sh1.ces,y5] at hc;subst hc;exact y
  | agg xs=>exact i9.1 y c hc
 intro c hc;cases sh with
 | one x=>exact h1 h c hc
 | tup xs =>obtain⟨x,y,hc⟩:=List.mem_flatMap.1 hc;exact h1 (i9.1 h x y) c hc
theorem SX{call:FuncId->List T->Option (T × Bool)}{sh:Sh}(h:apart P call sh=true):∀c∈sh.ces,(c.prim||VE P c)=true:=by
 intro c hc;unfold apart at h;rw[B6] at h;rcases h with h | h
 ·rw[agX h c hc];rfl
 ·rw[a9] at h;rw[i9.1 h.2 c hc,J8]
theorem yA.goes{o:Oper}{y:St}(h:yA P base y o a w):BT P base y o a w:=h.does.goes
def ahV(P:Program)(base:Nat)(y:St)(o:Oper)(a:Act)(w:World):Prop:=
 ∀(K:Act->World->Prop) (Q:Exit->Act->World->Prop),(∀z w' g',Rel P w' g' base y (a.put o.dst z)->Below base w w'->Below w.heap.size w w'->K (a.put o.dst z) w')->o.wp P a w K Q
theorem ahV.goes{o:Oper}{y:St}(h:ahV P base y o a w):BT P base y o a w:=fun K Q M=>h K Q fun z w' g' h1 J _=>M z w' g' h1 J
theorem Sa(W:Rel P w g base σ a){call:FuncId->List T->Option (T × Bool)}(b0:av P call){o:Oper}{b5:St}{d:Nat}{f:Operand}{xs:Array Operand}{d4:Array TypeId}(ho:o.op=.call { callee:=.value f,args:=xs,argTypes:=d4 })(a5:o.dst=some d)(hd:∀d,o.dst=some d->d<a.tmps.size)
  {c9:List TypeId} (h:Zi P call σ d f xs.toList c9=some (b5,true)):ahV P base b5 o a w:=by
 unfold Zi at h
 split at h
 ·rename_i b4 caps hsh
  split at h
  ·rename_i vs cs ds c8 d6
   split at h
   ·rename_i r ok d8;cases a1:r.sh.ces.all Wg with
    | false=>rw[a1,E4] at h;cases h
    | true =>
     cases a0:r.sh.isW with
     | true=>rw[a0] at h;cases h
     | false =>
      rw[a1,a0,show (!false&&true)=true from rfl,g6] at h;simp only[b7,j8] at h;obtain⟨rfl,rfl⟩:=h
      let ts:List Tok:=(xs.toList.map (opd σ)).flatMap (fJ σ)++fI σ caps
      obtain⟨k1,k2⟩:=rd (ts:=ts) W c8 (fun t h=>A3.2 (n3.2 (.inl h)));obtain⟨q1,q2⟩:=Dn (ts:=ts) W d6 (fun t h=>A3.2 (n3.2 (.inr h)));have a8:=dO W f;have a8:VC P w g base (.fn b4 caps) (gd (opd σ f).p 0) (a.eval f):=by generalize opd σ f=q at *;obtain⟨sh,p⟩:=q;simp only at hsh;subst hsh;exact a8
      obtain⟨a2,d7,c6,c1⟩:=a8;obtain⟨d5,a6⟩:=(b0 _ _ _ d8).n a0;have e0:xs.toList.length=xs.size:=by simp
      have b1:lq P (bF g ts).prot w (vs++wO cs ds) (xs.map a.eval++a2):=by
       refine⟨by simp[k1,uO,q1,c6],fun j t O=>?_⟩;rw[A5] at O
       split at O
       ·rename_i b3;obtain⟨x,hx,c7⟩:=k2 j t O;refine⟨a.eval x,?_,c7⟩;rw[v5 (by simp;omega),H4];have:xs[j]?=some x:=by simpa using hx
        rw[this];rfl
       ·rename_i M;rw[Is] at O;cases hc:cs[j - vs.length]? with
        | none=>rw[hc] at O;cases O
        | some c =>
         rw[hc] at O;injection O with O;subst O
         obtain⟨c0,m1,m2⟩:=q2 _ c hc;obtain⟨u,m3,m4⟩:=c1 _ c0 m1;refine⟨u,?_,?_⟩
         ·rw[D7 (by simp;omega)];simp only[Array.size_map,<- k1.symm];rw[show xs.size=vs.length from by rw[k1];simp];exact m3
         ·have:=m2 u m4;cases c <;> exact this
      have d2:∀b,w.heap.size<=b->(bF g ts).prot b=0:=fun b hb=>((W.seal ts).fresh b hb).1
      intro K Q hK;unfold Oper.wp;have c2:(execOp a.eval o).run P w=.ok (.enter b4 (xs.map a.eval++a2)) w:=by simp only[execOp,ho,resolve,d7,Deferred.ofValue,l8,m9,i5,invoke];simpa using d5 (xs.map a.eval++a2) w
      rw[c2];refine (a6 w _ _ b1 d2).mono ?_;rintro e w' ⟨v,g',rfl,Z⟩
      let a4:List Tok:=bif apart P call r.sh then[] else ts
      let gs:=bF g a4
      have d3:Rel P w gs base (σ.seal a4) a:=W.seal a4
      let J:G:={ prot:=fun b=>if b<w.heap.size then gs.prot b else g'.prot b, owner:=fun b=>if b<w.heap.size then gs.owner b else match g'.owner b with | some (.inr t)=>some (.inr (d,t.2)) | _=>none, θ:=gs.θ,ρ:=fun t=>if t.1=d then g'.ρ (0,t.2) else gs.ρ t,len:=fun t=>if t.1=d then g'.len (0,t.2) else gs.len t, wid:=fun t=>if t.1=d then g'.wid (0,t.2) else gs.wid t,ety:=fun t=>if t.1=d then g'.ety (0,t.2) else gs.ety t, path:=fun b=>if b<w.heap.size then gs.path b else g'.path b,need:=fun b=>if b<w.heap.size then gs.need b else g'.need b,old:=gs.old }
      have hE:Ext (some d) gs J w w':=by
       refine⟨Z.below.size,fun id h=>rfl,fun t h=>?_,fun b h=>m6 h,fun b h=>m6 h,fun b h=>Z.below.block b h,fun b h=>⟨m6 h,m6 h⟩,rfl,fun b t M h=>?_⟩
       rotate_right
       ·change (if b<w.heap.size then _ else match g'.owner b with | some (Sum.inr t)=>some (Sum.inr (d,t.2)) | _=>none)=_ at h;rw[j7 (by omega)] at h
        split at h
        ·injection h with h;injection h with h;exact .inl (by rw[<- h])
        ·cases h
       have:t.1≠d:=fun e=>h (by rw[e])
       exact⟨j7 this,j7 this,j7 this,j7 this⟩
      have hF:∀b,w'.heap.size<=b->J.prot b=0/\J.owner b=none:=fun b hb=>by have M:=Z.below.size;have:=Z.fresh b hb;refine⟨by show (if b<w.heap.size then _ else _)=_;rw[j7 (by omega)];exact this.1,?_⟩;show (if b<w.heap.size then _ else match g'.owner b with | some (Sum.inr t)=>some (Sum.inr (d,t.2)) | _=>none)=_;rw[j7 (by omega),this.2]
      have c5:=d3.wipeRow (hd d a5) hE rfl hF;have c4:VT P w' J base ⟨r.sh.map (HJ d),r.p⟩ v:=by
       refine agr (fun c hc x u Y=>?_) Z.val;have b6:=i9.1 a1 c hc;have a3:apart P call r.sh=false->∀b o z,o<g'.prot b->w'.cell? ⟨b,o,none⟩=some z->w'.cell? ⟨b,o,none⟩=some z/\o<J.prot b:=fun hp b o z h1 h2=>by
        refine⟨h2,?_⟩;show o<(if b<w.heap.size then gs.prot b else g'.prot b)
        split
        ·rename_i b3;have e:gs=bF g ts:=by show bF g (bif apart P call r.sh then[] else ts)=_;rw[hp];rfl
         rw[e,<- Z.prot b b3];exact h1
        ·exact h1
       cases c with
       | d s =>
        show VD P w' J.prot s x u;have Y:VD P w' g'.prot s x u:=Y;cases hp:apart P call r.sh with
        | false=>exact Y.mono (a3 hp)
        | true =>
         have:=SX hp _ hc;cases Y with
         | int k y=>exact .int k _
         | bool y=>exact .bool _
         | str y=>exact .str _
         | opq y h=>exact .opq _ h
         | sl=>simp[Ce.prim,VE,S.flat] at this
       | own t xm e =>
        obtain⟨t1,ix⟩:=t;have d1:t1=0:=by simpa [Wg] using b6
        subst d1;obtain⟨row,a7,c3⟩:=Y;refine⟨row,a7,?_⟩;have e1:J.ρ (d,ix)=g'.ρ (0,ix):=m6 rfl;have e2:J.len (d,ix)=g'.len (0,ix):=m6 rfl;have e3:J.wid (d,ix)=g'.wid (0,ix):=m6 rfl;have e4:J.ety (d,ix)=g'.ety (0,ix):=m6 rfl;rcases c3 with⟨h0,h1,h2⟩ | ⟨cap,arr,E,h1,h2,h3,h4,h5,h6,h7,h8,h9,h10,h11⟩
        ·exact .inl ⟨h0,by show J.len (d,ix)=0;rw[e2];exact h1,h2⟩
        ·have M:¬g'.ρ (0,ix)<w.heap.size:=by omega
         refine .inr ⟨cap,arr,E,by show u=.slice (some ⟨J.ρ (d,ix),0,none⟩) _ _;rw[e1];exact h1,h2,by show _/\_/\e=J.ety (d,ix);rw[e4];exact h3,by show base<=J.ρ (d,ix);rw[e1];exact m8 W.base_le h4,?_,by show w'.heap[J.ρ (d,ix)]?=_;rw[e1];exact h6,h7,by show _=J.len (d,ix);rw[e2];exact h8,by show _=J.wid (d,ix);rw[e3];exact h9,?_,fun i j s hi hs=>?_⟩
         ·show J.owner (J.ρ (d,ix))=some (.inr (d,ix));rw[e1];show (if g'.ρ (0,ix)<w.heap.size then _ else match g'.owner (g'.ρ (0,ix)) with | some (Sum.inr t)=>some (Sum.inr (d,t.2)) | _=>none)=_;rw[j7 M,h5]
         ·show J.prot (J.ρ (d,ix))=if xm then 0 else J.len (d,ix)*J.wid (d,ix)
          rw[e1,e2,e3];show (if g'.ρ (0,ix)<w.heap.size then _ else g'.prot (g'.ρ (0,ix)))=_;rw[j7 M,h10]
         ·obtain⟨z,z1,V⟩:=h11 i j s hi hs;refine⟨z,z1,?_⟩;have b2:(bq (d,ix)&&xm)=(bq (0,ix)&&xm):=rfl;cases U:(bq (0,ix)&&xm) with
          | true =>
           unfold cL at V ⊢;rw[m6 U] at V;rw[m6 (b2.trans U)];refine TR.mono (fun π=>π) (fun _ _ _=>rfl) V (fun b π n o _ hl ho=>⟨ho,?_⟩) (by simp);obtain⟨l0,l1,l2,l3,l4,l5⟩:=hl;have M:¬b<w.heap.size:=by omega
           refine⟨m8 W.base_le l0,?_,by rw[e1];exact l2,?_,?_,?_⟩
           ·show (if b<w.heap.size then _ else match g'.owner b with | some (Sum.inr t)=>some (Sum.inr (d,t.2)) | _=>none)=_;rw[j7 M,l1]
           ·exact (j7 M).trans l3
           ·exact (j7 M).trans l4
           ·exact (j7 M).trans l5
          | false =>
           have V:VD P w' g'.prot s (gd (x.rows.getD i []) j) z:=by unfold cL at V;rwa [j7 (by rw[U];simp)] at V
           refine .of_vd ?_ (.inl (b2.trans U));cases hp:apart P call r.sh with
           | false=>exact V.mono (a3 hp)
           | true =>have:=SX hp _ hc;simp only[Ce.prim,G7,VE,U,EB,a7] at this;have:=i9.1 this s (A2 hs);exact (TR.of_flat (lab:=fun _ _ _=>True) (π:= []) V this).vd_flat this
       | _=>simp[Wg] at b6
      have hb:Below base w w':=Z.below.mono W.base_le;have:=hK v w' J (by have:=c5.put hd (dst:=o.dst) (t:=⟨r.sh.map (HJ d),r.p⟩) c4;rw[a5] at this ⊢;exact this) hb Z.below;exact this
   ·cases h
  ·cases h
 ·cases h
theorem aiO{call:FuncId->List T->Option (T × Bool)}(h:av P call):av P (noW call):=by
 intro f args r hc;unfold noW at hc
 split at hc
 ·rename_i y ok J;cases hw:y.sh.isW with
  | true=>rw[hw] at hc;cases hc
  | false =>rw[hw,f9] at hc;simp only[b7,j8] at hc;obtain⟨rfl,rfl⟩:=hc;exact h _ _ _ J
 ·cases hc
theorem acL{call:FuncId->List T->Option (T × Bool)}{f:FuncId}{args:List T}{r:T}{ok:Bool}(hc:noW call f args=some (r,ok)):r.sh.isW=false:=by
 unfold noW at hc
 split at hc
 ·rename_i y ok J;cases hw:y.sh.isW with
  | true=>rw[hw] at hc;cases hc
  | false =>rw[hw,f9] at hc;simp only[b7,j8] at hc;obtain⟨rfl,rfl⟩:=hc;exact hw
 ·cases hc
theorem ahx(Z:Rel P w g base σ a){t:Tok}{e:TypeId}{rows y:List b8}{u:Value}(c1:dX P w g base t true e [.int .i64] rows u){cap:Nat}{a0:Array Value}
  (hu:u=.slice (some ⟨g.ρ t,0,none⟩) rows.length cap) (c2:rows.length<=cap) (a7:cap<=9223372036854775807) (b1:e=g.ety t) (a2:base<=g.ρ t) (M:g.owner (g.ρ t)=some (.inr t)) (hh:w.heap[g.ρ t]?=some (.cells a0 e (0,0))) (b5:a0.size=cap) (a5:1=g.wid t) (b6:g.prot (g.ρ t)=0)
  (c3:y.length<=rows.length) (hw:alF (g.ρ t) e a0 y w w') (b2:br P e=some [.int .i64]) (a4:t.1≠1000001) :
  ∃g',Rel P w' g' base (σ.map (bv t)) a/\VT P w' g' base (.c (.own t true e) (.l y)) (.slice (some ⟨g.ρ t,0,none⟩) y.length cap)/\Below base w w':=by
 obtain⟨V,O,b0,c0,a6,a1⟩:=hw
 let g':G:={ g with len:=fun u=>if u=t then y.length else g.len u }
 have a3:∀b o u,o<g.prot b->w.cell? ⟨b,o,none⟩=some u->w'.cell? ⟨b,o,none⟩=some u/\o<g'.prot b:=fun b o u h1 h2=>by
  have Y:b≠g.ρ t:=by rintro rfl;omega
  exact⟨(bg (O b (dW h2) Y) o).trans h2,h1⟩
 have hk:jr P base g g' w w' (bv t):=by
  refine jN a3 (fun b t' W J U=>?_) (fun t' W=>⟨rfl,j7 W,rfl,rfl⟩) rfl (fun b U=>O b (Z.low.2.1 b U).2.2.2 (Z.oldNe U M));have Y:b≠g.ρ t:=by intro e;rw[e,M] at J;injection J with J;injection J with J;exact W J.symm
  exact⟨O b U Y,rfl,rfl⟩
 have a8:Rel P w' g' base (σ.map (bv t)) a:=by
  refine Z.drop hk rfl (fun b id J U=>?_) (fun b U=>?_) V.size (fun b U=>⟨rfl,rfl,O b (Z.low.2.1 b U).2.2.2 (Z.oldNe U M)⟩) rfl (fun t' W=>⟨rfl,j7 (lH a4 W),fun b J U=>⟨J,O b U (by intro e;rw[e,M] at J;injection J with J;injection J with J;exact lH a4 W J.symm)⟩⟩) (fun _ _ _ J=>⟨J,rfl,rfl⟩)
  ·have Y:b≠g.ρ t:=by intro e;rw[e,M] at J;injection J with J;cases J
   exact⟨O b U Y,rfl,rfl⟩
  ·exact Z.fresh b (m8 V.size U)
 refine⟨g',a8,⟨[.int .i64],b2,.inr ⟨cap,b0,e,rfl,by show y.length<=cap;omega,⟨a7,rfl,b1⟩,a2,M,c0,by rw[a6,b5];simp,by show y.length=if t=t then _ else _;rw[m6 rfl],a5,b6,?_⟩⟩,?_⟩
 ·intro i j s hi hs;have b4:i<y.length:=hi
  match j,hs with
  | 0,hs =>
   injection hs with hs
   subst hs;have:=a1 i b4;exact⟨.int .i64 (gd (y.getD i []) 0).int,by simpa using this,.of_vd (.int .i64 _) (.inr rfl)⟩
 ·exact⟨V.os,V.tape,V.output,V.size,fun k b3=>O k (B0 b3 Z.base_le) (by omega)⟩
theorem JC(hr:Rel P w g base σ a){t:Tok}{y:List b8}(a0:∀b o u,o<g.prot b->w.cell? ⟨b,o,none⟩=some u->w'.cell? ⟨b,o,none⟩=some u)
  (a4:∀b J,J≠t->g.owner b=some (.inr J)->b<w.heap.size->w'.heap[b]?=w.heap[b]?) (c2:∀b id,g.owner b=some (.inl id)->b<w.heap.size->w'.heap[b]?=w.heap[b]?)
  (a8:∀b,g.old b->w'.heap[b]?=w.heap[b]?) (b0:w.heap.size<=w'.heap.size)
  (a6:∀ {xm:Bool} {Z:TypeId} {M:List S} {V:List b8} {v:Value},br P Z=some M->dX P w g base t xm Z M V v->V.length=y.length/\dX P w' g base t xm Z M y v) (c8:∀b t b1 e,t.1=1000001->g.owner b=some (.inr t)->b=g.ρ t->w.heap[b]?=some (.cells b1 e (0,0))->0<b1.size->∃O,w'.heap[b]?=some (.cells O e (0,0))/\O.size=b1.size):Rel P w' g base (σ.setRows t y) a:=by
 have a5:∀ {s:S} {x:D} {v:Value},VD P w g.prot s x v->VD P w' g.prot s x v:=fun h=>h.mono fun b o u q1 Y=>⟨a0 b o u q1 Y,q1⟩
 have a1:∀ {J:Tok} {xm:Bool} {Z:TypeId} {M:List S} {V:List b8} {v:Value},J≠t->dX P w g base J xm Z M V v->dX P w' g base J xm Z M V v:=by
  intro J xm Z M V v W h;rcases h with h | ⟨cap',O,E',k1,k2,k3,k4,k5,k6,k7,k8,k9,k10,k11⟩
  ·exact .inl h
  ·refine .inr ⟨cap',O,E',k1,k2,k3,k4,k5,by rw[a4 _ J W k5 (aP k6)];exact k6,k7,k8,k9,k10,fun i' j s c5 hs=>?_⟩;obtain⟨u,q1,Y⟩:=k11 i' j s c5 hs;exact⟨u,q1,Y.mono rfl (fun b o u z1 z2=>⟨a0 b o u z1 z2,z1⟩) (fun _ b o h0 c1 c3 hb=>⟨(a4 b J W c1 (aP hb)).trans hb,h0,c1,c3,rfl,rfl,fun e=>e⟩)⟩
 have a7:∀ {cells:List S} {U:Nat} {x:D} {v:Value},iV P w g base cells U x v->iV P w' g base cells U x v:=by rintro cells U x v ⟨b,o,q1,Y,q3⟩;refine⟨b,o,q1,Y,fun j s hs=>?_⟩;obtain⟨u,z1,z2⟩:=q3 j s hs;exact⟨u,(bg (a8 b Y) _).trans z1,a5 z2⟩
 have b5:∀c x v,VC P w g base c x v->VC P w' g base (MY (· == t) c) (akz t y c x) v:=by
  intro c x v hv;cases c with
  | any=>trivial
  | d s=>exact a5 hv
  | kb b=>exact hv
  | own J xm Z =>
   obtain⟨M,a2,hv⟩:=hv;refine⟨M,a2,?_⟩;show dX P _ g base J xm Z M (bif J==t then D.l y else x).rows v;by_cases W:J=t
   ·subst W;rw[show (J==J)=true from by simp];exact (a6 a2 hv).2
   ·rw[show (J==t)=false from by simpa using W];exact a1 W hv
  | ptr id U=>exact hv
  | eptr tk Z U =>
   cases tk with
   | none =>obtain⟨M,b,o,q1,Y,q3,q4⟩:=hv;refine⟨M,b,o,q1,Y,q3,fun j s hs=>?_⟩;obtain⟨u,z1,z2,z3⟩:=q4 j s hs;exact⟨u,a0 _ _ _ z2 z1,z2,a5 z3⟩
   | some J =>
    obtain⟨M,a2,Y,q3,u,q4⟩:=hv;refine⟨M,a2,?_⟩;show v=.pointer (some ⟨g.ρ J,eIx (bif J==t then D.l [[.l y,gd (x.rows.getD 0 []) 1]] else x)*M.length+U,none⟩)/\eIx (bif J==t then D.l [[.l y,gd (x.rows.getD 0 []) 1]] else x)<(eK (bif J==t then D.l [[.l y,gd (x.rows.getD 0 []) 1]] else x)).length/\∃u,dX P _ g base J true Z M (eK (bif J==t then D.l [[.l y,gd (x.rows.getD 0 []) 1]] else x)) u;by_cases W:J=t
    ·subst W;rw[show (J==J)=true from by simp,g6];obtain⟨z1,z2⟩:=a6 a2 q4;exact⟨Y,by show eIx x<y.length;rw[<- z1];exact q3,u,z2⟩
    ·rw[show (J==t)=false from by simpa using W,f9];exact⟨Y,q3,u,a1 W q4⟩
  | inn J Z U c7 =>
   show VC P _ g base (bif J==t then .any else .inn J Z U c7) x v;by_cases W:J=t
   ·rw[show (J==t)=true from by simpa using W];trivial
   ·rw[show (J==t)=false from by simpa using W,f9];exact oG hv rfl (fun o c4 b6=>(a4 _ J W c4 (aP b6)).trans b6) (fun hu=>a1 W hu)
  | cptr cells U=>exact a7 hv
  | fn f caps =>
   obtain⟨O,q1,Y,q3⟩:=hv;refine⟨O,q1,Y,fun j c hc=>?_⟩;obtain⟨u,hu,a3⟩:=q3 j c hc;refine⟨u,hu,?_⟩;cases c with
   | d s=>exact a5 a3
   | ptr id off=>exact a3
   | cptr cells off=>exact a7 a3
 have b2:∀ {cs:List Ce} {ds:b8} {O:Array Value},VCs P w g base cs ds O->VCs P w' g base (cs.map (MY (· == t))) (rD t y cs ds) O:=by intro cs ds O h;refine⟨by rw[r9];exact h.1,fun j c hj=>?_⟩;obtain⟨c0,b4,rfl⟩:=Tp hj;obtain⟨u,q1,Y⟩:=h.2 j c0 b4;exact⟨u,q1,by rw[uD _ _ _ _ j c0 b4];exact b5 c0 _ _ Y⟩
 have c6:∀ {q:T} {v:Value},VT P w g base q v->VT P w' g base (aeZ t y q) v:=by
  intro q v hv;obtain⟨sh,pq⟩:=q;cases sh with
  | tup xs=>trivial
  | one xx=>cases xx with
   | c xx =>show VC P _ g base (MY (· == t) xx) (gd (rD t y [xx] pq) 0) v;rw[uD _ _ _ _ 0 xx rfl];exact b5 xx _ _ hv
   | agg xs =>obtain⟨O,rfl,hh⟩:=hv;exact⟨O,rfl,b2 hh⟩
 refine⟨fun j=>?_,fun id d3 d2 hq=>?_,fun b hb=>hr.fresh b (m8 b0 hb),m8 hr.base_le b0,hr.defers,hr.lowIn a8 b0 c8,hr.mine⟩
 ·have e1:=tR (aeZ t y) rfl σ.e j σ.r;show VT P _ g base (cz j (σ.e.map _) (σ.r.map _)) _;rw[e1];exact c6 (hr.env j)
 ·have e1:=CO (List.map (MY (· == t))) (rD t y) σ.h id;change bS id (σ.setRows t y).h=_ at e1;rw[hq] at e1;cases b3:bS id σ.h with
  | none=>rw[b3] at e1;cases e1
  | some q =>obtain⟨d1,c9⟩:=q;rw[b3] at e1;injection e1 with e1;injection e1 with e2 e3;subst e2;subst e3;obtain⟨j1,j2,j3,jl,O,E',j4,j5⟩:=hr.box id _ _ b3;exact⟨j1,j2,j3,by rw[uT,r9],O,E',by rw[c2 _ id j2 (aP j4)];exact j4,b2 j5⟩
theorem ajE(Y:Rel P w g base σ a){call:FuncId->List T->Option (T × Bool)}(b5:av P call){o:Oper}{c5:St}{f:Operand}{xs:Array Operand}{f3:Array TypeId}(ho:o.op=.call { callee:=.value f,args:=xs,argTypes:=f3 })(hd:∀d,o.dst=some d->d<a.tmps.size)
  (h:afT P call σ o.dst f xs.toList=some (c5,true)):BT P base c5 o a w:=by
 unfold afT at h
 split at h
 ·rename_i c3 i hsh h4
  split at h
  ·rename_i t e c1
   split at h
   ·rename_i r ok h2;cases hq:(br P e==some [.int .i64]&&t.1 != 1000001) with
    | false=>rw[hq] at h;cases h
    | true =>
     rw[hq,g6] at h;rw[a9] at hq;have c6:t.1≠1000001:=by simpa using hq.2
     have a0:br P e=some [.int .i64]:=by simpa using hq.1
     have d3:xs = #[.tmp i]:=by cases xs;simp_all
     subst d3;have b2:=dO Y f;have b2:VC P w g base (.fn c3 []) (gd (opd σ f).p 0) (a.eval f):=by generalize opd σ f=q at *;obtain⟨sh,p⟩:=q;simp only at hsh;subst hsh;exact b2
     obtain⟨d7,g2,d5,_⟩:=b2;have e7:d7 = #[]:=by simpa using d5
     subst e7;have b3:=dO Y (.tmp i);have b3:VC P w g base (.own t true e) (gd (opd σ (.tmp i)).p 0) (a.eval (.tmp i)):=by generalize opd σ (.tmp i)=q at *;obtain⟨sh,p⟩:=q;simp only at c1;subst c1;exact b3
     obtain⟨b4,Z,d1⟩:=b3;rw[a0] at Z;injection Z with Z;subst Z;generalize hx:gd (opd σ (.tmp i)).p 0=x at *;have a4:r.sh.isW=true/\r.sh.isK=false/\r.sh.isM=false/\r.sh.isP=false/\r.sh.isX=false/\r.sh.isN=false/\ok=true:=by
      split at h
      ·rename_i c J;simp only[b7,j8] at h;exact⟨by rw[J];rfl,by rw[J];rfl,by rw[J];rfl,by rw[J];rfl,by rw[J];rfl,by rw[J];rfl,h.2⟩
      ·rename_i J;simp only[b7,j8] at h;exact⟨by rw[J];rfl,by rw[J];rfl,by rw[J];rfl,by rw[J];rfl,by rw[J];rfl,by rw[J];rfl,h.2⟩
      ·cases h
     obtain⟨a4,c8,d6,c7,e0,d4,f0⟩:=a4;subst f0;obtain⟨g1,b0⟩:=(b5 _ _ _ h2).w a4 c8 d6 c7 e0 d4;obtain⟨f2,hC⟩:=b0 e x rfl a0;have b6:∀ {w' g'} {v:Value},VT P w' g' base (.c (.own t true e) (.l (gd r.p 0).rows)) v->VT P w' g' base (.c (.own t true e) (gd r.p 0)) v:=fun {w' g' v} h=>h
     intro K Q hK;unfold Oper.wp;have c9:(execOp a.eval o).run P w=.ok (.enter c3 #[a.eval (.tmp i)]) w:=by simp only[execOp,ho,resolve,g2,Deferred.ofValue,l8,m9,i5,invoke];simpa using g1 #[a.eval (.tmp i)] w
     rw[c9];rcases d1 with⟨h0,h1,A,hv⟩ | ⟨cap,arr,E,k1,k2,⟨k3,rfl,k3'⟩,k4,k5,k6,k7,k8,k9,k10,k11⟩
     ·obtain⟨c0,b1⟩:=f2 h0;rw[hv];refine (b1 A w).mono ?_;rintro ex w' ⟨rfl,O⟩;have y:∀k,k<w.heap.size->w'.heap[k]?=w.heap[k]?:=fun k hk=>O.block k hk
      split at h
      ·rename_i c J;simp only[b7,j8] at h;obtain⟨rfl,_⟩:=h;have a1:Rel P w' g base (σ.setRows t (gd r.p 0).rows) a:=JC Y (fun b o u W V=>(bg (y b (dW V)) o).trans V) (fun b _ _ _ M=>y b M) (fun b _ _ M=>y b M) (fun b M=>y b (Y.low.2.1 b M).2.2.2) O.size (fun {xm e' b4 rowsT v} hr' U=>by
        rw[c0];rcases U with⟨q0,W,V⟩ | ⟨cap',a5,E',W,V,q3,q4,q5,q6,q7,q8,q9,q10,q11⟩
        ·exact⟨by rw[q0],.inl ⟨rfl,W,V⟩⟩
        ·have hz:rowsT.length=0:=by omega
         refine⟨hz,.inr ⟨cap',a5,E',by rw[W,hz];rfl,n5 _,q3,q4,q5,by rw[y _ (aP q6)];exact q6,q7,by rw[<- q8,hz];rfl,q9,q10,fun i' j s a7 _=>by simp at a7⟩⟩) (fun b t' a3 e1 _ _ _ M _=>⟨a3,(y b (aP M)).trans M,rfl⟩)
       rw[J];exact hK _ w' g (a1.put hd (dst:=o.dst) (t:=.none_) (v:=.tuple #[]) ⟨#[],rfl,rfl,fun j x h=>by simp at h⟩) (O.mono Y.base_le)
      ·rename_i J;simp only[b7,j8] at h;obtain⟨rfl,_⟩:=h;have hk:jr P base g g w w' (bv t):=jN (fun b o u W V=>⟨(bg (y b (dW V)) o).trans V,W⟩) (fun b t' _ _ M=>⟨y b M,rfl,rfl⟩) (fun _ _=>⟨rfl,rfl,rfl,rfl⟩) rfl (fun b M=>y b (Y.low.2.1 b M).2.2.2);have a1:Rel P w' g base (σ.map (bv t)) a:=Y.drop hk rfl (fun b _ _ M=>⟨y b M,rfl,rfl⟩) (fun b M=>Y.fresh b (m8 O.size M)) O.size (fun b M=>⟨rfl,rfl,y b (Y.low.2.1 b M).2.2.2⟩) rfl (fun t' _=>⟨rfl,rfl,fun b ho M=>⟨ho,y b M⟩⟩) (fun _ _ _ ho=>⟨ho,rfl,rfl⟩);rw[J];exact hK _ w' g (a1.put hd (dst:=o.dst) (b6 (v:=.slice A 0 0) ⟨_,a0,.inl ⟨c0,h1,A,rfl⟩⟩)) (O.mono Y.base_le)
      ·cases h
     ·have d8:∀i,i<x.rows.length->arr[i]?=some (.int .i64 (gd (x.rows.getD i []) 0).int):=fun i hi=>by obtain⟨u,W,V⟩:=k11 i 0 (.int .i64) hi rfl;have V:=V.vd_flat rfl;cases V;simpa using W
      have c4:arr.size=cap:=by rw[k7];simp
      obtain⟨h3,a6,b1⟩:=hC w (g.ρ t) cap arr k6 c4 k2 k3 d8;rw[k1];refine b1.mono ?_;rintro ex w' ⟨rfl,hW⟩
      split at h
      ·rename_i c J;simp only[b7,j8] at h;obtain⟨rfl,_⟩:=h;have a6:=a6 ⟨c,J⟩;obtain⟨O,y,a5,g3,d2,a8⟩:=hW;have h5:g.prot (g.ρ t)=0:=by simpa using k10
       have a1:Rel P w' g base (σ.setRows t (gd r.p 0).rows) a:=JC Y (fun b o u W V=>(bg (y b (dW V) (by rintro rfl;omega)) o).trans V)
        (fun b t' e9 U M=>y b M (by intro e;rw[e,k5] at U;injection U with U;injection U with U;exact e9 U.symm))
        (fun b id U M=>y b M (by intro e;rw[e,k5] at U;injection U with U;cases U))
        (fun b M=>y b (Y.low.2.1 b M).2.2.2 (Y.oldNe M k5)) O.size (fun {xm e' b4 rowsT v} hr' U=>by
        rcases U with⟨q0,W,V⟩ | ⟨cap',a3,E',W,V,⟨q3,qE,q3'⟩,q4,q5,q6,q7,q8,q9,q10,q11⟩
        ·have hz:(gd r.p 0).rows = []:=v7 (by omega);rw[hz];exact⟨by rw[q0],.inl ⟨rfl,W,V⟩⟩
        ·have ee:e'=E:=by rw[q3',k3']
         subst ee;rw[a0] at hr';injection hr' with hr';subst hr'
         rw[k6] at q6;injection q6 with q6
         injection q6 with z1 z2 z3
         subst z1;have c2:rowsT.length=(gd r.p 0).rows.length:=by omega
         refine⟨c2,.inr ⟨cap',a5,e',by rw[W,c2],by omega,⟨q3,rfl,q3'⟩,q4,q5,g3,by rw[d2];exact q7,by omega,q9,q10,fun i' j s a7 hs=>?_⟩⟩
         match j,hs with
         | 0,hs =>
          injection hs with hs
          subst hs;exact⟨_,by simpa using a8 i' a7,.of_vd (.int .i64 _) (.inr rfl)⟩) (fun b t' a3 e1 f1 a2 h6 M _=>by
        have e6:b≠g.ρ t:=by intro e;rw[e,k5] at a2;injection a2 with a2;injection a2 with a2;exact lH c6 f1 a2.symm
        exact⟨a3,(y b (aP M) e6).trans M,rfl⟩)
       rw[J];exact hK _ w' g (a1.put hd (dst:=o.dst) (t:=.none_) (v:=.tuple #[]) ⟨#[],rfl,rfl,fun j x h=>by simp at h⟩) ⟨O.os,O.tape,O.output,O.size,fun k e8=>y k (B0 e8 Y.base_le) (by omega)⟩
      ·rename_i J;simp only[b7,j8] at h;obtain⟨rfl,_⟩:=h;obtain⟨g',W,V,q3⟩:=ahx Y (.inr ⟨cap,arr,E,k1,k2,⟨k3,rfl,k3'⟩,k4,k5,k6,k7,k8,k9,k10,k11⟩) k1 k2 k3 k3' k4 k5 k6 c4 (by simpa using k9) (by simpa using k10) h3 hW a0 c6;rw[J];exact hK _ w' g' (W.put hd (dst:=o.dst) (b6 V)) q3
      ·cases h
   ·cases h
  ·cases h
 ·cases h
theorem als(Z:Rel P w g base σ a){call:FuncId->List T->Option (T × Bool)}(c3:av P call){o:Oper}{d4:St}{f:Operand}{xs:Array Operand}{h6:Array TypeId}{g1:List TypeId}(ho:o.op=.call { callee:=.value f,args:=xs,argTypes:=h6 })(hd:∀d,o.dst=some d->d<a.tmps.size)
  (h:evK P call σ o.dst f xs.toList g1=some (d4,true)):BT P base d4 o a w:=by
 unfold evK at h
 split at h
 ·rename_i d1 i ys hsh c8
  split at h
  ·rename_i t e c6
   split at h
   ·rename_i vs row f3 b2
    split at h
    ·rename_i r ok i0;cases hq:(r.sh.isK&&row.all S.flat && !((ys.map (opd (σ.map (bv t)))).flatMap (fJ (σ.map (bv t)))).contains t&&(!r.sh.isKo||(ys.map (opd (σ.map (bv t)))).all fun q=>q.sh.ownOr)&&t.1 != 1000001) with
     | false=>rw[hq] at h;cases h
     | true =>
      rw[hq,g6] at h;simp only[b7,j8] at h;obtain⟨rfl,rfl⟩:=h;rw[a9,a9,a9,a9] at hq;obtain⟨⟨⟨⟨d6,a7⟩,a5⟩,d5⟩,a6⟩:=hq;have a6:t.1≠1000001:=by simpa using a6
      let ts:List Tok:=(ys.map (opd (σ.map (bv t)))).flatMap (fJ (σ.map (bv t)))
      have a5:ts.contains t=false:=by
       cases h0:ts.contains t with
       | false=>rfl
       | true =>have a5:(!ts.contains t)=true:=a5;rw[h0] at a5;cases a5
      have b6:=dO Z f;have b6:VC P w g base (.fn d1 []) (gd (opd σ f).p 0) (a.eval f):=by generalize opd σ f=q at *;obtain⟨sh,p⟩:=q;simp only at hsh;subst hsh;exact b6
      obtain⟨e9,h9,e7,_⟩:=b6;have f0:e9 = #[]:=by simpa using e7
      subst f0;have c1:=dO Z (.tmp i);have c1:VC P w g base (.own t true e) (gd (opd σ (.tmp i)).p 0) (a.eval (.tmp i)):=by generalize opd σ (.tmp i)=q at *;obtain⟨sh,p⟩:=q;simp only at c6;subst c6;exact c1
      obtain⟨i3,a3,d8⟩:=c1;rw[b2] at a3;injection a3 with a3;subst a3;generalize hx:gd (opd σ (.tmp i)).p 0=x at *;obtain⟨h7,b5⟩:=(c3 _ _ _ i0).k d6
      -- the block of the row
      obtain⟨B,hB,a0⟩:∃B,eh w e row x.rows (a.eval (.tmp i)) B/\∀b,B=some b->b=g.ρ t/\base<=b/\g.owner b=some (.inr t)/\g.prot b=0/\b<w.heap.size:=by
       rcases d8 with⟨h0,h1,A,hv⟩ | ⟨cap,a4,E,k1,k2,⟨k3,rfl,k3'⟩,k4,k5,k6,k7,k8,k9,k10,k11⟩
       ·exact⟨none,.inl ⟨rfl,h0,A,hv⟩,fun b J=>by cases J⟩
       ·refine⟨some (g.ρ t),.inr ⟨g.ρ t,cap,a4,rfl,k1,k2,k3,k6,k7,fun i j s hi hs=>?_⟩,fun b J=>?_⟩
        ·obtain⟨u,q1,q2⟩:=k11 i j s hi hs;have d3:=i9.1 a7 s (A2 hs);exact⟨u,q1,(q2.vd_flat d3).fv d3⟩
        ·injection J with J
         subst J;exact⟨rfl,k4,k5,by simpa using k10,aP k6⟩
      -- what is left of the state,in each world that differs in this block Om
      have b4:∀ {W:World} {O:G},aM w W B->(∀b,b<w.heap.size->O.prot b=g.prot b/\O.owner b=g.owner b)->(∀U,U≠t->O.ρ U=g.ρ U/\O.len U=g.len U/\O.wid U=g.wid U/\O.ety U=g.ety U)->O.θ=g.θ->(∀b,W.heap.size<=b->O.prot b=0/\O.owner b=none)->(∀b,O.path b=g.path b/\O.need b=g.need b)->O.old=g.old->(∀b U,U≠t->O.owner b=some (.inr U)->g.owner b=some (.inr U)) ->
        Rel P W O base (σ.map (bv t)) a:=by
       intro W O V a1 c0 c9 h3 c2 c7 f1;have a8:∀b,B=some b->g.owner b=some (.inr t):=fun b J=>(a0 b J).2.2.1
       have hk:jr P base g O w W (bv t):=by
        refine jN (fun b o u h1 h2=>?_) (fun b U M Y J=>⟨V.other b J (fun e=>?_),(a1 b J).2,(a1 b J).1⟩) (fun U M=>c0 U M) c9 (fun b J=>V.other b (Z.low.2.1 b J).2.2.2 (fun e=>?_)) (fun b _ _ _ _=>c2 b) c7
        ·have J:=dW h2;refine⟨(bg (V.other b J (fun e=>?_)) o).trans h2,by rw[(a1 b J).1];exact h1⟩;have:=(a0 b e).2.2.2.1;omega
        ·have:=a8 b e;rw[this] at Y;injection Y with Y
         injection Y with Y
         exact M Y.symm
        ·exact Z.oldNe J (a8 b e) rfl
       refine Z.drop hk c9 (fun b id Y J=>⟨V.other b J (fun e=>?_),(a1 b J).2,(a1 b J).1⟩) h3 V.size (fun b J=>⟨(a1 b (Z.low.2.1 b J).2.2.2).2,(a1 b (Z.low.2.1 b J).2.2.2).1,V.other b (Z.low.2.1 b J).2.2.2 (fun e=>Z.oldNe J (a8 b e) rfl)⟩) c7 (fun U M=>⟨(c0 U (lH a6 M)).1,(c0 U (lH a6 M)).2.1,fun b ho J=>⟨by rw[(a1 b J).2];exact ho,V.other b J (fun e=>by have:=a8 b e;rw[this] at ho;injection ho with ho;injection ho with ho;exact lH a6 M ho.symm)⟩⟩) (fun b U M ho=>⟨f1 b U (lH a6 M) ho,(c2 b).1,(c2 b).2⟩);have:=a8 b e;rw[this] at Y;injection Y with Y
       cases Y
      have i1:ys.length+1=xs.size:=by have:=congrArg List.length c8;simpa using this.symm
      have b3:∀ {W:World},aM w W B->Rel P W g base (σ.map (bv t)) a:=fun V=>b4 V (fun _ _=>⟨rfl,rfl⟩) (fun _ _=>⟨rfl,rfl,rfl,rfl⟩) rfl (fun b J=>Z.fresh b (m8 V.size J)) (fun _=>⟨rfl,rfl⟩) rfl (fun _ _ _ h=>h)
      have c4:∀W,aM w W B->lq P (bF g ts).prot W vs (ys.map a.eval).toArray:=by intro W V;obtain⟨k1,k2⟩:=rd (ts:=ts) (b3 V) f3 (fun t h=>A3.2 h);refine⟨by simp[k1],fun j v hj=>?_⟩;obtain⟨y,q1,q2⟩:=k2 j v hj;exact⟨a.eval y,by simp[q1],q2⟩
      have h8:∀b,B=some b->(bF g ts).prot b=0:=fun b J=>by obtain⟨_,_,q3,q4,_⟩:=a0 b J;rw[SE q3 a5];exact q4
      have g3:∀b,w.heap.size<=b->(bF g ts).prot b=0:=fun b J=>((Z.seal ts).fresh b J).1
      have c5:r.sh.isKo=true->∀(j:Nat) A n cap,(ys.map a.eval).toArray[j]?=some (.slice A n cap)->0<n->∃b a4 E,A=some ⟨b,0,none⟩/\w.heap[b]?=some (.cells a4 E (0,0)):=by
       intro h5 j A n cap hj hn;rw[h5] at d5;have e8:=i9.1 (show (ys.map (opd (σ.map (bv t)))).all (fun q=>q.sh.ownOr)=true from d5);simp only[G6,w9] at hj;cases hy:ys[j]? with
       | none=>rw[hy] at hj;cases hj
       | some y =>
        rw[hy] at hj;simp only[C7,b7] at hj;have h1:=e8 _ (A8.2 ⟨y,A2 hy,rfl⟩);have h2:=dO (b3 (aM.refl w B)) y;rw[hj] at h2;generalize opd (σ.map (bv t)) y=q at *;obtain⟨sh,p⟩:=q;unfold Sh.ownOr at h1
        split at h1
        ·rename_i t1 x1 e1 b0;simp only at b0;subst b0;obtain⟨i2,_,ho⟩:=h2;rcases ho with⟨_,_,A1,hv⟩ | ⟨cap1,arr1,E1,k1,k2,k3,k4,k5,k6,_⟩
         ·injection hv with _ hv;omega
         ·injection k1 with k1
          exact⟨_,arr1,E1,k1,k6⟩
        ·rename_i k1 b0;simp only at b0;subst b0;have h2:VD P w g.prot (.int k1) (gd p 0) (.slice A n cap):=h2;cases h2
        ·cases h1
      have h4:xs.map a.eval = #[a.eval (.tmp i)]++(ys.map a.eval).toArray:=by apply Array.ext';simp[c8]
      intro K Q hK;unfold Oper.wp;have d7:(execOp a.eval o).run P w=.ok (.enter d1 (#[a.eval (.tmp i)]++(ys.map a.eval).toArray)) w:=by simp only[execOp,ho,resolve,h9,Deferred.ofValue,l8,m9,i5,invoke];rw[<- h4];simpa using h7 (xs.map a.eval) w
      rw[d7];refine (b5 e x vs row rfl b2 a7 w _ _ B _ hB h8 g3 c4 c5).mono ?_;rintro ex w' ⟨v',B',rfl,V,hO,d2⟩
      let b':Nat:=B'.getD 0
      let g2:G:={ prot:=fun b=>if B'=some b then 0 else g.prot b,owner:=fun b=>if B'=some b then some (.inr t) else g.owner b,θ:=g.θ,ρ:=fun u=>if u=t then b' else g.ρ u, len:=fun u=>if u=t then (gd r.p 0).rows.length else g.len u,wid:=fun u=>if u=t then row.length else g.wid u,ety:=fun u=>if u=t then e else g.ety u,path:=g.path,need:=g.need,old:=g.old }
      have f2:∀b,B'=some b->b<w'.heap.size:=fun b J=>by
       rcases hO with⟨h0,_⟩ | ⟨b1,cap,a4,q1,q2,q3,q4,q5,q6,q7⟩
       ·rw[h0] at J;cases J
       ·rw[q1] at J;injection J with J;subst J;exact aP q5
      have e6:Rel P w' g2 base (σ.map (bv t)) a:=by
       refine b4 V (fun b J=>?_) (fun U M=>⟨j7 M,j7 M,j7 M,j7 M⟩) rfl (fun b J=>?_) (fun _=>⟨rfl,rfl⟩) rfl (fun b U M h=>by
        change (if _ then _ else _)=_ at h
        split at h
        ·injection h with h;injection h with h;exact absurd h.symm M
        ·exact h)
       ·by_cases a2:B'=some b
        ·rcases d2 b a2 with h1 | h1
         ·obtain⟨_,_,q3,q4,_⟩:=a0 b h1;exact⟨by show (if _ then _ else _)=_;rw[m6 a2,q4],by show (if _ then _ else _)=_;rw[m6 a2,q3]⟩
         ·omega
        ·exact⟨j7 a2,j7 a2⟩
       ·have a2:B'≠some b:=fun e=>by have:=f2 b e;omega
        obtain⟨q1,q2⟩:=Z.fresh b (m8 V.size J);exact⟨by show (if _ then _ else _)=_;rw[j7 a2,q1],by show (if _ then _ else _)=_;rw[j7 a2,q2]⟩
      have e0:VT P w' g2 base (.c (.own t true e) (gd r.p 0)) v':=by
       refine⟨row,b2,?_⟩;show dX P w' g2 base t true e row (gd r.p 0).rows v';rcases hO with⟨h0,h1,A,hv⟩ | ⟨b1,cap,a4,q1,q2,q3,q4,q5,q6,q7⟩
       ·exact .inl ⟨h1,by show (if t=t then _ else _)=0;rw[m6 rfl,h1];rfl,A,hv⟩
       ·have e1:g2.ρ t=b1:=by show (if t=t then B'.getD 0 else _)=_;rw[m6 rfl,q1];rfl
        refine .inr ⟨cap,a4,e,by rw[e1];exact q2,q3,⟨q4,rfl,(m6 rfl).symm⟩,?_,?_,by rw[e1];exact q5,q6,(m6 rfl).symm,(m6 rfl).symm,?_,fun i j s hi hs=>?_⟩
        ·rw[e1];rcases d2 b1 q1 with h1 | h1
         ·exact (a0 b1 h1).2.1
         ·exact m8 Z.base_le h1
        ·rw[e1];exact m6 q1
        ·rw[e1];show (if B'=some b1 then 0 else _)=_;rw[m6 q1];rfl
        ·obtain⟨u,z1,z2⟩:=q7 i j s hi hs;exact⟨u,z1,.of_vd z2.vd (.inr (i9.1 a7 s (A2 hs)))⟩
      exact hK _ w' g2 (e6.put hd (dst:=o.dst) e0) ⟨V.os,V.tape,V.output,V.size,fun k hk=>V.other k (B0 hk Z.base_le) (fun e=>by have:=(a0 k e).2.1;omega)⟩
    ·cases h
   ·cases h
  ·cases h
 ·cases h
theorem alE(V:Rel P w g base σ a){call:FuncId->List T->Option (T × Bool)}(M:av P call){o:Oper}{y:St}{f:Operand}{xs:Array Operand}{J:Array TypeId}(U:o.op=.call { callee:=.value f,args:=xs,argTypes:=J })(O:∀d,o.dst=some d->d<a.tmps.size)
  (h:evM P call σ o.dst f xs.toList=some (y,true)):BT P base y o a w:=by
 simp[evM] at h
theorem aku(V:Rel P w g base σ a){call:FuncId->List T->Option (T × Bool)}(M:av P call){o:Oper}{y:St}{f:Operand}{xs:Array Operand}{J:Array TypeId}(U:o.op=.call { callee:=.value f,args:=xs,argTypes:=J })(O:∀d,o.dst=some d->d<a.tmps.size)
  (h:ako P call σ o.dst f xs.toList=some (y,true)):BT P base y o a w:=by
 simp[ako] at h
def fwd(pairs:List (Tok × Tok))(t:Tok):Option Tok:=(pairs.find? (·.1==t)).map (·.2)
def inv(pairs:List (Tok × Tok))(t:Tok):Tok:=((pairs.find? (·.2==t)).map (·.1)).getD t
theorem qw{f:Tok × Tok->Tok}:∀ {pairs:List (Tok × Tok)} {q:Tok × Tok},cM (pairs.map f)=true->q∈pairs->pairs.find? (fun r=>f r==f q)=some q
 | [],q,_,h=>by simp at h
 | r::rs,q,hn,h=>by
  simp only[w8,cM,a9] at hn;rw[List.find?_cons];rcases B5.1 h with e | e
  ·subst e;simp
  ·have J:(f r==f q)=false:=by
    cases y:f r==f q with
    | false=>rfl
    | true =>
     have y:f r=f q:=by simpa using y
     have:(rs.map f).contains (f r)=true:=A3.2 (A8.2 ⟨q,e,y.symm⟩);rw[this] at hn;exact absurd hn.1 (by decide)
   rw[J];exact qw hn.2 e
theorem EX:∀ {a b c d:List Ce},a.length=c.length->eg (a++b) (c++d)=eg a c++eg b d
 | [],b,[],d,_=>by simp[eg]
 | x::a,b,y::c,d,h=>by have J:=EX (a:=a) (b:=b) (c:=c) (d:=d) (by simpa using h);cases x <;> cases y <;> simp[eg,J]
theorem zM:∀ {cs rs:List Ce} {j:Nat} {t y:Tok} {x M:Bool} {e J:TypeId},cs[j]?=some (.own t x e)->rs[j]?=some (.own y M J)->(t,y)∈eg cs rs
 | [],rs,j,_,_,_,_,_,_,h,_=>by simp at h
 | c::cs,[],j,_,_,_,_,_,_,_,h=>by simp at h
 | c::cs,r::rs,0,t,y,x,M,e,J,h,h'=>by simp only[p9,b7] at h h';subst h;subst h';simp[eg]
 | c::cs,r::rs,j+1,t,y,x,M,e,J,h,h'=>by have:=zM (cs:=cs) (rs:=rs) (j:=j) (by simpa using h) (by simpa using h');cases c <;> cases r <;> simp[eg,this]
def Je(g:G)(pairs:List (Tok × Tok)):G:=
 { prot:=g.prot,owner:=fun b=>match g.owner b with | some (.inr t)=>(fwd pairs t).map .inr | _=>none, θ:=g.θ,ρ:=fun t=>g.ρ (inv pairs t),len:=fun t=>g.len (inv pairs t),wid:=fun t=>g.wid (inv pairs t),ety:=fun t=>g.ety (inv pairs t),path:=g.path,need:=g.need,old:=g.old }
theorem aiA{pairs:List (Tok × Tok)}(h1:cM (pairs.map (·.1))=true)(Y:cM (pairs.map (·.2))=true){M:Nat}(O:M<=base){t y:Tok}(hm:(t,y)∈pairs){U:Bool}{e:TypeId}(a2:(bq y&&U)=(bq t&&U))
  {x:D} {v:Value} (hv:VC P w g base (.own t U e) x v):VC P w (Je g pairs) M (.own y U e) x v:=by
 have J:inv pairs y=t:=by have:=qw (f:=(·.2)) Y hm;simp only at this;simp[inv,this]
 have ef:fwd pairs t=some y:=by have:=qw (f:=(·.1)) h1 hm;simp only at this;simp[fwd,this]
 obtain⟨row,a0,W⟩:=hv;refine⟨row,a0,?_⟩;rcases W with⟨k0,V,Z⟩ | ⟨cap,arr,E,V,Z,k3,k4,k5,k6,k7,k8,k9,k10,k11⟩
 ·exact .inl ⟨k0,by show g.len (inv pairs y)=0;rw[J];exact V,Z⟩
 ·refine .inr ⟨cap,arr,E,by show v=.slice (some ⟨g.ρ (inv pairs y),0,none⟩) _ _;rw[J];exact V,Z,by show _/\_/\e=g.ety (inv pairs y);rw[J];exact k3,by show M<=g.ρ (inv pairs y);rw[J];exact m8 O k4,?_,by show w.heap[g.ρ (inv pairs y)]?=_;rw[J];exact k6,k7,by show _=g.len (inv pairs y);rw[J];exact k8,by show _=g.wid (inv pairs y);rw[J];exact k9,?_,fun i j s hi hs=>?_⟩
  ·show (match g.owner (g.ρ (inv pairs y)) with | some (Sum.inr t)=>(fwd pairs t).map Sum.inr | _=>none)=some (.inr y);rw[J,k5];simp[ef]
  ·show g.prot (g.ρ (inv pairs y))=if U then 0 else g.len (inv pairs y)*g.wid (inv pairs y)
   rw[J];exact k10
  ·obtain⟨z,z1,z2⟩:=k11 i j s hi hs;refine⟨z,z1,z2.mono a2 (fun b o u h1 Y=>⟨Y,h1⟩) (fun _ b o h0 ho a1 hb=>⟨hb,m8 O h0,?_,?_,rfl,rfl,fun e=>e⟩)⟩
   ·show (match g.owner b with | some (Sum.inr t)=>(fwd pairs t).map Sum.inr | _=>none)=some (.inr y);rw[ho];simp[ef]
   ·show b≠g.ρ (inv pairs y);rw[J];exact a1
theorem Sf:∀ {cs y:List Ce} {k:Nat},su k cs=some y->y.length=cs.length/\∀(j:Nat) J,y[j]?=some J->∃c,cs[j]?=some c/\oZ (k+j) c=some J
 | [],y,k,h=>by simp only[su,b7] at h;subst h;exact⟨rfl,fun j c h=>by simp at h⟩
 | c::cs,y,k,h=>by
  unfold su at h
  split at h
  ·rename_i d ds h1 W;injection h with h
   subst h;obtain⟨O,U⟩:=Sf W;refine⟨by simp[O],fun j J M=>?_⟩;cases j with
   | zero =>simp only[p9,b7] at M;subst M;exact⟨c,rfl,h1⟩
   | succ j =>obtain⟨V,Y,Z⟩:=U j J (by simpa using M);exact⟨V,by simpa using Y,by rw[show k+(j+1)=k+1+j from by omega];exact Z⟩
  ·cases h
theorem IV:∀ {cs y:List Ce} {k:Nat},su k cs=some y->(eg cs y).map (·.1)=cj cs/\(eg cs y).map (·.2)=cj y
 | [],y,k,h=>by simp only[su,b7] at h;subst h;exact⟨rfl,rfl⟩
 | c::cs,y,k,h=>by
  unfold su at h
  split at h
  ·rename_i d ds h1 O;injection h with h
   subst h;obtain⟨J,M⟩:=IV O;cases c with
   | own t x e =>
    cases x with
    | true =>simp only[oZ,b7] at h1;subst h1;exact⟨by simp[eg,cj,J],by simp[eg,cj,M]⟩
    | false =>simp only[oZ,b7] at h1;subst h1;exact⟨by simp[eg,cj,J],by simp[eg,cj,M]⟩
   | d s =>simp only[oZ,b7] at h1;subst h1;exact⟨by simp[eg,cj,J],by simp[eg,cj,M]⟩
   | kb b =>simp only[oZ,b7] at h1;subst h1;exact⟨by simp[eg,cj,J],by simp[eg,cj,M]⟩
   | _=>simp[oZ] at h1
  ·cases h
theorem Ii{c M O:Ce}(h:abM c M=some O):(∃t y e,c=.own t true e/\M=.own y true e/\O=.own t true e/\y.1=0/\bq t=bq y)\/(∃s,M=.d s/\O=.d s):=by
 unfold abM at h
 split at h
 ·rename_i t e y V;cases J:(y.1==0&&e==V&&bq t==bq y) with
  | false=>rw[J] at h;cases h
  | true =>
   rw[J,g6] at h;injection h with h
   subst h;simp only[a9,u7] at J;obtain⟨⟨U,rfl⟩,W⟩:=J;exact .inl ⟨t,y,e,rfl,rfl,rfl,U,W⟩
 ·rename_i s;injection h with h
  exact .inr ⟨s,rfl,h.symm⟩
 ·cases h
theorem Xr:∀ {cs cs2 y:List Ce},oY cs cs2=some y->y.length=cs.length/\cs2.length=cs.length/\∀(j:Nat) M,y[j]?=some M->∃c J,cs[j]?=some c/\cs2[j]?=some J/\abM c J=some M
 | [],[],y,h=>by simp only[oY,b7] at h;subst h;exact⟨rfl,rfl,fun j c h=>by simp at h⟩
 | [],_::_,y,h=>by simp[oY] at h
 | _::_,[],y,h=>by simp[oY] at h
 | c::cs,J::cs2,y,h=>by
  unfold oY at h
  split at h
  ·rename_i d ds h1 V;injection h with h
   subst h;obtain⟨U,Y,Z⟩:=Xr V;refine⟨by simp[U],by simp[Y],fun j M O=>?_⟩;cases j with
   | zero =>simp only[p9,b7] at O;subst O;exact⟨c,J,rfl,rfl,h1⟩
   | succ j =>obtain⟨c0,W,q1,q2,q3⟩:=Z j M (by simpa using O);exact⟨c0,W,by simpa using q1,by simpa using q2,q3⟩
  ·cases h
theorem Oo:∀ {cs cs2 y:List Ce},oY cs cs2=some y->(eg cs2 y).map (·.1)=cj cs2/\(eg cs2 y).map (·.2)=cj y
 | [],[],y,h=>by simp only[oY,b7] at h;subst h;exact⟨rfl,rfl⟩
 | [],_::_,y,h=>by simp[oY] at h
 | _::_,[],y,h=>by simp[oY] at h
 | c::cs,c2::cs2,y,h=>by
  unfold oY at h
  split at h
  ·rename_i d ds h1 O;injection h with h
   subst h;obtain⟨J,M⟩:=Oo O;rcases Ii h1 with⟨t,U,e,rfl,rfl,rfl,_⟩ | ⟨s,rfl,rfl⟩
   ·exact⟨by simp[eg,cj,J],by simp[eg,cj,M]⟩
   ·exact⟨by simp[eg,cj,J],by simp[eg,cj,M]⟩
  ·cases h
theorem GU:∀ {cs:List Ce} {t:Tok} {e:TypeId},Ce.own t true e∈cs->t∈cj cs
 | [],_,_,h=>by simp at h
 | c::cs,t,e,h=>by
  rcases B5.1 h with h | h
  ·subst h;simp[cj]
  ·have:=GU h;cases c with
   | own y x J=>cases x <;> simp[cj,this]
   | _=>simp[cj,this]
theorem XY:∀ {cs:List Ce} {t:Tok},t∈cj cs->∃(j:Nat) (e:TypeId),cs[j]?=some (.own t true e)
 | [],_,h=>by simp[cj] at h
 | c::cs,t,h=>by
  have rest:t∈cj cs->∃(j:Nat) (e:TypeId),(c::cs)[j]?=some (.own t true e):=fun h=>by obtain⟨j,e,h⟩:=XY h;exact⟨j+1,e,by simpa using h⟩
  cases c with
  | own J x y =>
   cases x with
   | true =>
    simp only[cj,B5] at h;rcases h with rfl | h
    ·exact⟨0,y,rfl⟩
    ·exact rest h
   | false=>exact rest h
  | _=>exact rest h
def jU:List Tok->Ce->Ce
 | [],c=>c
 | t::ts,c=>jU ts (bv t c)
theorem gp:∀ {ts:List Tok} {c:Ce},(∀t,bv t c=c)->jU ts c=c
 | [],c,_=>rfl
 | t::ts,c,h=>by rw[jU,h t];exact gp h
theorem NU:∀ {ts:List Tok} {t:Tok} {x:Bool} {e:TypeId},jU ts (.own t x e)=(bif ts.contains t then (bif x then .any else .d (.sl e)) else .own t x e)
 | [],t,x,e=>rfl
 | u::ts,t,x,e=>by
  show jU ts (bif t==u then (bif x then .any else .d (.sl e)) else .own t x e)=_;rw[J6];cases y:(t==u) with
  | true =>simp only[M1,g6];cases x <;> exact gp (fun _=>rfl)
  | false=>rw[G7,f9];exact NU
theorem Jn:∀ {ts:List Tok} {t:Tok} {e:TypeId} {off:Nat},jU ts (.eptr (some t) e off)=(bif ts.contains t then .any else .eptr (some t) e off)
 | [],t,e,off=>rfl
 | u::ts,t,e,off=>by
  show jU ts (bif t==u then .any else .eptr (some t) e off)=_;rw[J6];cases y:(t==u) with
  | true=>simp only[M1,g6];exact gp (fun _=>rfl)
  | false=>rw[G7,f9];exact Jn
theorem NX:∀ {ts:List Tok} {t:Tok} {e:TypeId} {off:Nat} {y:TypeId},jU ts (.inn t e off y)=(bif ts.contains t then .any else .inn t e off y)
 | [],t,e,off,y=>rfl
 | u::ts,t,e,off,y=>by
  show jU ts (bif t==u then .any else .inn t e off y)=_;rw[J6];cases J:(t==u) with
  | true=>simp only[M1,g6];exact gp (fun _=>rfl)
  | false=>rw[G7,f9];exact NX
theorem Sh1.map_comp(f y:Ce->Ce)(s:Sh1):(s.map f).map y=s.map (fun c=>y (f c)):=by cases s <;> simp[Sh1.map]
theorem Sh.map_comp(f y:Ce->Ce)(s:Sh):(s.map f).map y=s.map (fun c=>y (f c)):=by
 cases s with
 | one x=>simp[Sh.map,Sh1.map_comp]
 | tup xs =>
  simp only[Sh.map,D6]
  congr 1
  exact D4 fun x _=>Sh1.map_comp f y x
theorem St.map_comp(f y:Ce->Ce)(σ:St):(σ.map f).map y=σ.map (fun c=>y (f c)):=by
 simp only[St.map,D6]
 congr 1
 ·exact D4 fun p _=>by simp only[Function.comp,Sh.map_comp]
 ·exact D4 fun p _=>by simp only[Function.comp,Sh.map_comp]
 ·exact D4 fun p _=>by simp[Function.comp]
theorem Pc:∀(ts:List Tok) (σ:St),oM ts σ=σ.map (jU ts)
 | [],σ=>by show σ=σ.map (fun c=>c);obtain⟨r,e,h⟩:=σ;simp[St.map,Sh.map_id']
 | t::ts,σ=>by rw[oM,Pc ts,St.map_comp];rfl
theorem abV(hr:Rel P w g base σ a){ts:List Tok}{v v':T}{u:Value}(h:arg P σ v=some v')(hv:VT P w g base v u)(hp:RA v=true)(O:∀t∈fJ σ v,ts.contains t=true){gc:G}{b':Nat}(Z:gc.prot=(bF g ts).prot)(ho:∀b,g.old b->gc.old b):VT P w gc b' v' u:=by
 obtain⟨sh,p⟩:=v;cases sh with
 | tup xs=>cases h
 | one x=>cases x with
  | agg xs =>
   unfold arg at h;simp only at h
   split at h
   ·rename_i ss a2;injection h with h;subst h
    obtain⟨a0,rfl,a1⟩:=hv;obtain⟨Y,k2⟩:=acd (ts:=ts) a1 a2 O;refine⟨a0,rfl,by simp[Y],fun j c V=>?_⟩;obtain⟨s,U,rfl⟩:=Tp V;obtain⟨z,J,M⟩:=k2 j s U;exact⟨z,J,by show VD P w gc.prot _ _ _;rw[Z];exact M⟩
   ·cases h
  | c x =>
   have fin:∀ {s:S},x.aS=some s->(∀t∈ry [x],ts.contains t=true)->VC P w g base x (gd p 0) u->VT P w gc b' (.c (.d s) (x.aD (gd p 0))) u:=fun U O hv=>by show VD P w gc.prot _ _ _;rw[Z];exact Rz hv U O
   cases x with
   | fn f caps =>
    unfold arg at h;simp only at h
    split at h
    ·rename_i cs ds hc;injection h with h;subst h
     obtain⟨a0,rfl,h2,h3⟩:=hv;have key:∀ {caps y:List Cap} {ds W:b8},nI σ caps ds=some (y,W)->caps.all (fun | .ptr _ _=>false | _=>true)=true->y.length=caps.length /\
       ∀(j:Nat) c',y[j]?=some c'->∃c,caps[j]?=some c/\∀u,Ks P w g base c (gd ds j) u->Ks P w gc b' c' (gd W j) u:=by
      intro caps
      induction caps with
      | nil =>intro y ds W h _;simp only[nI,b7,j8] at h;obtain⟨rfl,rfl⟩:=h;exact⟨rfl,fun j c h=>by simp at h⟩
      | cons c cs ih =>
       intro y ds W h hn;rw[N4,a9] at hn;unfold nI at h
       split at h
       ·rename_i d x a3 xs h1 h2;simp only[b7,j8] at h;obtain⟨rfl,rfl⟩:=h;obtain⟨Y,k2⟩:=ih h2 hn.2;refine⟨by simp[Y],fun j c' V=>?_⟩;cases j with
        | zero =>
         simp only[p9,b7] at V;subst V;refine⟨c,rfl,fun u hu=>?_⟩;cases c with
         | d s =>simp only[wa,b7,j8] at h1;obtain⟨rfl,rfl⟩:=h1;show VD P w gc.prot _ _ _;rw[Z];exact iu hu
         | cptr cells off =>simp only[wa,b7,j8] at h1;obtain⟨rfl,rfl⟩:=h1;obtain⟨b,o,J,M,q3⟩:=hu;refine⟨b,o,J,ho b M,fun j s U=>?_⟩;obtain⟨z,z1,z2⟩:=q3 j s U;exact⟨z,z1,by rw[Z];exact iu z2⟩
         | ptr id off=>simp at hn
        | succ j =>obtain⟨c0,J,M⟩:=k2 j c' (by simpa using V);refine⟨c0,by simpa using J,fun u hu=>?_⟩;rw[ap];exact M u (by rw[fq];exact hu)
       ·cases h
     obtain⟨Y,k2⟩:=key hc hp;refine⟨a0,rfl,by rw[h2,Y],fun j c V=>?_⟩;obtain⟨c0,J,M⟩:=k2 j c V;obtain⟨z,z1,z2⟩:=h3 j c0 J;exact⟨z,z1,M z z2⟩
    ·cases h
   | cptr cells off =>simp only[arg,b7] at h;subst h;obtain⟨b,o,J,M,q3⟩:=hv;refine⟨b,o,J,ho b M,fun j s U=>?_⟩;obtain⟨z,z1,z2⟩:=q3 j s U;exact⟨z,z1,by rw[Z];exact iu z2⟩
   | ptr id off=>cases hp
   | eptr tk e off=>cases hp
   | any=>cases h
   | d s =>simp only[arg,Ce.aS,Ce.toS,b7] at h;subst h;exact fin rfl O hv
   | kb b =>simp only[arg,Ce.aS,Ce.toS,b7] at h;subst h;exact fin rfl O hv
   | own t xm e =>simp only[arg,Ce.aS,Ce.toS,b7] at h;subst h;exact fin rfl O hv
   | inn t e off ei =>simp only[arg,Ce.aS,b7] at h;subst h;exact fin rfl O hv
theorem Wi(M:Rel P w g base σ a){ts:List Tok}{gc:G}{b':Nat}(V:gc.prot=(bF g ts).prot)(U:∀b,g.old b->gc.old b):∀ {xs:List Operand} {J:List T},Pn P σ (xs.map (opd σ))=some J->xs.all (fun y=>RA (opd σ y))=true->(∀t∈(xs.map (opd σ)).flatMap (fJ σ),ts.contains t=true) ->
  J.length=xs.length/\∀(j:Nat) v,J[j]?=some v->∃x,xs[j]?=some x/\VT P w gc b' v (a.eval x)
 | [],J,h,_,_=>by simp only[I2,Pn,b7] at h;subst h;exact⟨rfl,fun j v h=>by simp at h⟩
 | x::xs,J,h,hn,ht=>by
  simp only[w8,Pn] at h;rw[N4,a9] at hn
  split at h
  ·rename_i d ds h1 Y;injection h with h;subst h
   obtain⟨W,Z⟩:=Wi M V U Y hn.2 (fun t h=>ht t (by simp only[w8,G5,n3];exact .inr h));refine⟨by simp[W],fun j v O=>?_⟩;cases j with
   | zero =>simp only[p9,b7] at O;subst O;exact⟨x,rfl,abV M h1 (dO M x) hn.1 (fun t h=>ht t (by simp only[w8,G5,n3];exact .inl h)) V U⟩
   | succ j =>obtain⟨y,q1,q2⟩:=Z j v (by simpa using O);exact⟨y,by simpa using q1,q2⟩
  ·cases h
theorem Yr{pairs:List (Tok × Tok)}{t:Tok}(h:t ∉ pairs.map (·.1)):fwd pairs t=none:=by
 unfold fwd;rw[List.find?_eq_none.2]
 ·rfl
 ·intro q J y;exact h (A8.2 ⟨q,J,by simpa using y⟩)
theorem abW{pairs:List (Tok × Tok)}(h1:cM (pairs.map (·.1))=true){t y:Tok}(hm:(t,y)∈pairs):fwd pairs t=some y:=by have:=qw (f:=(·.1)) h1 hm;simp only at this;simp[fwd,this]
theorem aca{pairs:List (Tok × Tok)}(J:cM (pairs.map (·.2))=true){t y:Tok}(hm:(t,y)∈pairs):inv pairs y=t:=by have:=qw (f:=(·.2)) J hm;simp only at this;simp[inv,this]
noncomputable def abx(n:Nat)(g:G)(base bx:Nat)(pairs:List (Tok × Tok)):G:=
 let y:Nat->Option (Nat ⊕ Tok):=fun k=>if k=bx then some (.inl 1000000) else match g.owner k with
  | some (.inr t)=>if g.prot k=0/\base<=k then (fwd pairs t).map Sum.inr else none
  | _=>none
 { prot:=g.prot,owner:=y,θ:=fun _=>bx,ρ:=fun t=>g.ρ (inv pairs t),len:=fun t=>g.len (inv pairs t),wid:=fun t=>g.wid (inv pairs t),ety:=fun t=>g.ety (inv pairs t),path:=g.path,need:=g.need, old:=fun k=>k<n/\y k=none }
theorem ahL{n bx:Nat}{pairs:List (Tok × Tok)}(h1:cM (pairs.map (·.1))=true)(h2:cM (pairs.map (·.2))=true)(a2:∀t,g.owner bx≠some (.inr t)){t y:Tok}(hm:(t,y)∈pairs){e:TypeId}(a1:bq y=bq t)
  {x:D} {v:Value} (hv:VC P w g base (.own t true e) x v):VC P w (abx n g base bx pairs) 0 (.own y true e) x v:=by
 have J:=aca h2 hm;have ef:=abW h1 hm;obtain⟨row,a0,W⟩:=hv;refine⟨row,a0,?_⟩;rcases W with⟨k0,V,Z⟩ | ⟨cap,arr,E,V,Z,k3,k4,k5,k6,k7,k8,k9,k10,k11⟩
 ·exact .inl ⟨k0,by show g.len (inv pairs y)=0;rw[J];exact V,Z⟩
 ·have a3:g.prot (g.ρ t)=0:=by rw[k10];rfl
  have O:∀b,g.owner b=some (.inr t)->g.prot b=0->base<=b->(abx n g base bx pairs).owner b=some (.inr y):=fun b Y q2 q3=>by show (if b=bx then _ else match g.owner b with | some (.inr t)=>if g.prot b=0/\base<=b then (fwd pairs t).map Sum.inr else none | _=>none)=_;rw[j7 (by intro e;rw[e] at Y;exact a2 t Y),Y];simp[q2,q3,ef]
  refine .inr ⟨cap,arr,E,by show v=.slice (some ⟨g.ρ (inv pairs y),0,none⟩) _ _;rw[J];exact V,Z,by show _/\_/\e=g.ety (inv pairs y);rw[J];exact k3,n5 _,?_,by show w.heap[g.ρ (inv pairs y)]?=_;rw[J];exact k6,k7,by show _=g.len (inv pairs y);rw[J];exact k8,by show _=g.wid (inv pairs y);rw[J];exact k9,?_,fun i j s hi hs=>?_⟩
  ·show (abx n g base bx pairs).owner (g.ρ (inv pairs y))=_;rw[J];exact O _ k5 a3 k4
  ·show g.prot (g.ρ (inv pairs y))=if true then 0 else _
   rw[J];exact k10
  ·obtain⟨z,z1,M⟩:=k11 i j s hi hs;refine⟨z,z1,?_⟩;unfold cL at M ⊢;rw[a1]
   split at M
   ·rename_i U;rw[m6 U];refine TR.mono (fun π=>π) (fun _ _ _=>rfl) M (fun b π n' o _ hl ho=>⟨ho,?_⟩) (by simp);obtain⟨l0,l1,l2,l3,l4,l5⟩:=hl;exact⟨n5 _,O b l1 l5 l0,by show b≠g.ρ (inv pairs y);rw[J];exact l2,l3,l4,l5⟩
   ·rename_i U;rw[j7 U];exact M
noncomputable def jb(g gs g':G)(old:Nat->Prop)(bx id d:Nat)(pairs:List (Tok × Tok)):G:=by
 classical exact
 { prot:=g'.prot,owner:=fun k=>if k=bx then some (.inl id) else if old k then gs.owner k else match g'.owner k with | some (.inr t)=>some (.inr ((fwd pairs t).getD (d,t.2))) | _=>none,θ:=gs.θ,ρ:=fun t=>if t∈pairs.map (·.2) then g'.ρ (inv pairs t) else if t.1=d then g'.ρ (0,t.2) else gs.ρ t,len:=fun t=>if t∈pairs.map (·.2) then g'.len (inv pairs t) else if t.1=d then g'.len (0,t.2) else gs.len t,wid:=fun t=>if t∈pairs.map (·.2) then g'.wid (inv pairs t) else if t.1=d then g'.wid (0,t.2) else gs.wid t,ety:=fun t=>if t∈pairs.map (·.2) then g'.ety (inv pairs t) else if t.1=d then g'.ety (0,t.2) else gs.ety t,path:=fun k=>if old k then gs.path k else g'.path k,need:=fun k=>if old k then gs.need k else g'.need k,old:=gs.old }
theorem VU{gl gs:G}{old:Nat->Prop}{bx id d:Nat}{pairs:List (Tok × Tok)}(a0:∀k,old k->g'.owner k=none)(a3:∀t,g'.owner bx≠some (.inr t))(hb:∀k,¬old k->base<=k){u t:Tok}
  (a4:(jb gl gs g' old bx id d pairs).ρ t=g'.ρ u/\(jb gl gs g' old bx id d pairs).len t=g'.len u/\(jb gl gs g' old bx id d pairs).wid t=g'.wid u/\(jb gl gs g' old bx id d pairs).ety t=g'.ety u) (hf:(fwd pairs u).getD (d,u.2)=t)
  {xm:Bool} {e:TypeId} (a2:bq t=bq u) {x:D} {v:Value} (hv:VC P w g' 0 (.own u xm e) x v):VC P w (jb gl gs g' old bx id d pairs) base (.own t xm e) x v:=by
 obtain⟨row,V,Y⟩:=hv;obtain⟨e1,e2,e3,e4⟩:=a4;have y:∀k,g'.owner k=some (.inr u)->¬old k/\(jb gl gs g' old bx id d pairs).owner k=some (.inr t):=fun k hk=>by
  have M:¬old k:=fun h=>by rw[a0 k h] at hk;cases hk
  refine⟨M,?_⟩;have a1:k≠bx:=by intro e;rw[e] at hk;exact a3 u hk
  simp only[jb,j7 a1,j7 M,hk,hf]
 refine⟨row,V,?_⟩;rcases Y with⟨k0,Z,U⟩ | ⟨cap,arr,E,Z,U,k3,k4,k5,k6,k7,k8,k9,k10,k11⟩
 ·exact .inl ⟨k0,by rw[e2];exact Z,U⟩
 ·refine .inr ⟨cap,arr,E,by rw[e1];exact Z,U,by rw[e4];exact k3,by rw[e1];exact hb _ (y _ k5).1,by rw[e1];exact (y _ k5).2,by rw[e1];exact k6,k7,by rw[e2];exact k8,by rw[e3];exact k9,by rw[e1,e2,e3];exact k10,fun i j s hi hs=>?_⟩;obtain⟨z,z1,J⟩:=k11 i j s hi hs;refine⟨z,z1,?_⟩;unfold cL at J ⊢;rw[a2]
  split at J
  ·rename_i W;rw[m6 W];refine TR.mono (fun π=>π) (fun _ _ _=>rfl) J (fun b π n' o _ hl ho=>⟨ho,?_⟩) (by simp);obtain⟨l0,l1,l2,l3,l4,l5⟩:=hl;obtain⟨O,m2⟩:=y b l1;exact⟨hb _ O,m2,by rw[e1];exact l2,by simp only[jb,j7 O];exact l3,by simp only[jb,j7 O];exact l4,l5⟩
  ·rename_i W;rw[j7 W];exact J
theorem aly(hr:Rel P w g base σ a){call:FuncId->List T->Option (T × Bool)}(k6:av P call){o:Oper}{o1:St}{d:Nat}{f:Operand}{xs:Array Operand}{r7:Array TypeId}(ho:o.op=.call { callee:=.value f,args:=xs,argTypes:=r7 })(d4:o.dst=some d)(hd:∀d,o.dst=some d->d<a.tmps.size)
  (h:evP P call σ d f xs.toList=some (o1,true)):BT P base o1 o a w:=by
 unfold evP at h
 split at h
 rotate_left
 ·cases h
 rename_i e6 caps x ys hsh w2
 split at h
 rotate_left
 ·cases h
 rename_i id i2
 split at h
 rotate_left
 ·cases h
 rename_i cs ds l3
 split at h
 rotate_left
 ·cases h
 rename_i d3 vs qs es i1 q8 l6
 split at h
 rotate_left
 ·cases h
 rename_i r ok u0
 split at h
 rotate_left
 ·cases h
 rename_i cs2 res i3
 split at h
 rotate_left
 ·cases h
 rename_i a7 d8;simp only at h;generalize n0:(ys.map (opd σ)).flatMap (fJ σ)++fI σ caps=ts at h;cases hq:(id != d&&cM (cj cs)&&cM (cj a7)&&(cj cs).all (fun t=>t.1 != d&&t.1 != 1000001 && !ts.contains t)&&cM (cj cs2)&&(toks (res.flatMap Sh1.ces)).all (fun t => !(cj cs2).contains t)&&(res.flatMap Sh1.ces).all Wg&&RA (opd σ f)&&ys.all (fun y=>RA (opd σ y))&&cM (cj d3)&&Nat.ble cs.length 1000000) with
 | false=>rw[hq] at h;cases h
 | true =>
  rw[hq,g6] at h;simp only[b7,j8] at h;obtain⟨rfl,rfl⟩:=h;simp only[a9,I8,ne_eq] at hq;obtain⟨⟨⟨⟨⟨⟨⟨⟨⟨⟨u6,q6⟩,p4⟩,k8⟩,t6⟩,k7⟩,k5⟩,r4⟩,r6⟩,s5⟩,k0⟩:=hq;have k0:cs.length<=1000000:=y9 k0;have e0:∀t∈cj cs,t.1≠d/\t.1≠1000001/\ts.contains t=false:=fun t J=>by have:=i9.1 k8 t J;simpa [and_assoc] using this
  have q0:=hd d d4;have v3:d<1000000:=B0 q0 hr.defers.2;have p5:xs=(x::ys).toArray:=by cases xs;simp_all
  -- the box
  have f3:a.eval x=.pointer (some ⟨g.θ id,0,none⟩):=by have f3:=dO hr x;generalize opd σ x=q at *;obtain⟨sh,p⟩:=q;simp only at i2;subst i2;exact f3
  obtain⟨b1,b2,b3,b4,c6,E,b5,b6⟩:=hr.box id cs ds l3;have u3:=aP b5
  -- the callee's ghost
  let gs:=bF g ts
  have c4:Rel P w gs base (σ.seal ts) a:=hr.seal ts;obtain⟨l5,r8⟩:=IV i1;generalize k4:eg cs d3=pairs at *;have t3:cM (pairs.map (·.1))=true:=by rw[l5];exact q6
  have s3:cM (pairs.map (·.2))=true:=by rw[r8];exact s5
  let gc:=abx w.heap.size gs base (g.θ id) pairs
  have u1:∀k,gc.owner k=none->k≠g.θ id:=fun k h e=>by subst e;have:gc.owner (g.θ id)=some (.inl 1000000):=m6 rfl;rw[this] at h;cases h
  have a8:∀k,k≠g.θ id->(∀t,gs.owner k=some (.inr t)->t∈cj cs->gs.prot k=0->base<=k->False)->gc.owner k=none:=fun k a0 hk=>by
   show (if k=g.θ id then _ else match gs.owner k with | some (.inr t)=>if gs.prot k=0/\base<=k then (fwd pairs t).map Sum.inr else none | _=>none)=none;rw[j7 a0]
   split
   ·rename_i t t4
    split
    ·rename_i k9;rw[Yr (by rw[l5];exact fun hm=>hk t t4 hm k9.1 k9.2)];rfl
    ·rfl
   ·rfl
  have r3:∀t,gs.owner (g.θ id)≠some (.inr t):=fun t e=>by have e:g.owner (g.θ id)=some (.inr t):=e;rw[b2] at e;cases e
  have e8:∀b,g.old b->gc.old b:=fun b hb=>by obtain⟨q1,q2,q3,q4⟩:=hr.low.2.1 b hb;exact⟨q4,a8 b (hr.oldNe hb b2) (fun t J=>by have J:g.owner b=some (.inr t):=J;rw[q1] at J;cases J)⟩
  -- what is handed iR
  have f2:VCs P w gc 0 d3 (oy cs ds) c6:=by
   obtain⟨k1,k2⟩:=Sf i1;refine⟨by rw[b6.1,k1],fun j c1 hj=>?_⟩;obtain⟨c,hc,a4⟩:=k2 j c1 hj;obtain⟨u,hu,hv⟩:=b6.2 j c hc;refine⟨u,hu,?_⟩;rw[MG cs ds j c hc];cases c with
   | d s =>simp only[oZ,b7] at a4;subst a4;exact iu (ts:=ts) hv
   | kb b =>simp only[oZ,b7] at a4;subst a4;have hv:u=.bool b:=hv;subst hv;exact VD.bool (.b b)
   | own t xm e =>
    cases xm with
    | false =>simp only[oZ,b7] at a4;subst a4;obtain⟨row,c3,hv⟩:=hv;exact iu (ts:=ts) (py c3 hv)
    | true =>
     simp only[oZ,b7] at a4;subst a4;have s4:=GU (A2 hc);have i0:=zS (base:=base) g ts w _ _ _ hv;change VC P w gs base (.own t (true && !ts.contains t) e) _ _ at i0;rw[(e0 t s4).2.2] at i0;refine ahL t3 s3 r3 (by rw[<- k4];exact zM hc hj) ?_ i0;show Nat.ble 1000000 (bif bq t then 1000000+(0+j) else 0+j)=bq t;cases l9:bq t with
     | true=>rw[g6];simp
     | false =>
      rw[f9];have v2:0+j<1000000:=by have:=(g7.1 hc).1;omega
      cases s1:Nat.ble 1000000 (0+j) with
      | false=>rfl
      | true =>have:=y9 s1;omega
   | _=>simp[oZ] at a4
  have n2:=dO hr f;have n2:VC P w g base (.fn e6 caps) (gd (opd σ f).p 0) (a.eval f):=by generalize opd σ f=q at *;obtain⟨sh,p⟩:=q;simp only at hsh;subst hsh;exact n2
  have q5:arg P σ (opd σ f)=some (.c (.fn e6 qs) (.l [es])):=by generalize opd σ f=q at *;obtain⟨sh,p⟩:=q;simp only at hsh;subst hsh;unfold arg;simp only at l6 ⊢;rw[l6]
  have o7:∀t∈(ys.map (opd σ)).flatMap (fJ σ),ts.contains t=true:=fun t J=>A3.2 (by rw[<- n0];exact n3.2 (.inl J))
  have o3:∀t∈fJ σ (opd σ f),ts.contains t=true:=fun t J=>A3.2 (by rw[<- n0];refine n3.2 (.inr ?_);unfold fJ at J;rw[hsh] at J;exact J)
  have q7:=abV (gc:=gc) (b':=0) hr q5 (dO hr f) r4 o3 rfl e8;obtain⟨b0,t7,p0,o5⟩:VC P w gc 0 (.fn e6 qs) (.l [es]) (a.eval f):=q7;obtain⟨k1,k2⟩:=Wi (gc:=gc) (b':=0) hr rfl e8 q8 r6 o7;have k3:agn P w gc (g.θ id) d3 (oy cs ds) (vs++wO qs es) ((ys.map a.eval).toArray++b0):=by
   refine⟨rfl,m6 rfl,(show (bF g ts).prot (g.θ id)=0 by rw[FY b2];exact b3),⟨c6,E,b5,f2⟩,fun k hk=>?_,fun k hk=>⟨hk.2,hk.1⟩,by simp[k1,uO,p0],fun j t hj=>?_⟩
   ·obtain⟨q1,q2⟩:=c4.fresh k hk;exact⟨q1,a8 k (by omega) (fun t J=>by rw[q2] at J;cases J)⟩
   ·rw[A5] at hj
    split at hj
    ·rename_i r2;obtain⟨y,hy,s2⟩:=k2 j t hj;refine⟨a.eval y,?_,s2⟩;rw[v5 (by simp;omega)];simp[hy]
    ·rename_i s8;rw[Is] at hj;cases hc:qs[j - vs.length]? with
     | none=>rw[hc] at hj;cases hj
     | some c =>
      rw[hc] at hj;injection hj with hj;subst hj
      obtain⟨u,m3,m4⟩:=o5 _ c hc;refine⟨u,?_,?_⟩
      ·rw[D7 (by simp;omega)];simp only[B8,r9,<- k1];exact m3
      ·have m4:Ks P w gc 0 c (gd es (j - vs.length)) u:=m4;cases c <;> exact m4
  have o4:r.sh.isP=true:=by rw[i3];rfl
  obtain⟨t5,g3⟩:=(k6 _ _ _ u0).p o4;intro K Q hK;unfold Oper.wp;have p3:(execOp a.eval o).run P w=.ok (.enter e6 (#[.pointer (some ⟨g.θ id,0,none⟩)]++((ys.map a.eval).toArray++b0))) w:=by
   simp only[execOp,ho,resolve,t7,Deferred.ofValue,l8,m9,i5,invoke];have e:xs.map a.eval++b0 = #[.pointer (some ⟨g.θ id,0,none⟩)]++((ys.map a.eval).toArray++b0):=by
    subst p5;rw[<- J7]
    congr 1
    simp[f3]
   simpa [e] using t5 (xs.map a.eval++b0) w
  rw[p3];refine (g3 d3 (oy cs ds) (vs++wO qs es) cs2 res rfl i3 w gc (g.θ id) _ k3).mono ?_;rintro ex w' ⟨v,g',rfl,Y⟩;obtain⟨l0,e7⟩:=Oo d8;obtain⟨n1,o0,l4⟩:=Xr d8;generalize f0:eg cs2 a7=M at *;have t0:cM (M.map (·.1))=true:=by rw[l0];exact t6
  have s0:cM (M.map (·.2))=true:=by rw[e7];exact p4
  let O:=jb g gs g' gc.old (g.θ id) id d M
  have d2:∀t∈cj a7,t∈cj cs:=fun t J=>by
   obtain⟨j,e,hj⟩:=XY J;obtain⟨c,c2,q1,q2,q3⟩:=l4 j _ hj;rcases Ii q3 with⟨t1,t',e1,rfl,rfl,W,_⟩ | ⟨s,_,W⟩
   ·injection W with W _ h4
    subst W;exact GU (A2 q1)
   ·cases W
  have a6:∀k,gc.old k->g'.prot k=gs.prot k:=fun k hk=>(Y.old k hk).2.1
  -- blocks that are not the callee's
  have a3:∀k,k<w.heap.size->k≠g.θ id->(∀t,g.owner k=some (.inr t)->t∈cj cs->gs.prot k=0->base<=k->False)->gc.old k:=fun k h1 V W=>⟨h1,a8 k V W⟩
  have p2:∀b o u,o<gs.prot b->w.cell? ⟨b,o,none⟩=some u->gc.old b:=fun b o u h1 V=>by
   refine a3 b (dW V) (fun e=>?_) (fun t _ _ hp _=>by omega);subst e;have:gs.prot (g.θ id)=0:=by show (bF g ts).prot _=_;rw[FY b2];exact b3
   omega
  have c0:∀b o u,o<gs.prot b->w.cell? ⟨b,o,none⟩=some u->w'.cell? ⟨b,o,none⟩=some u/\o<O.prot b:=fun b o u h1 V=>by have hk:=p2 b o u h1 V;exact⟨(bg (Y.old b hk).1 o).trans V,by show o<g'.prot b;rw[a6 b hk];exact h1⟩
  have c7:∀ {s:S} {x:D} {v:Value},VD P w gs.prot s x v->VD P w' O.prot s x v:=fun h=>h.mono c0
  have a5:∀t,t ∉ cj cs->t.1≠d->O.ρ t=gs.ρ t/\O.len t=gs.len t/\O.wid t=gs.wid t/\O.ety t=gs.ety t:=fun t h1 V=>by
   have W:t ∉ M.map (·.2):=by rw[e7];exact fun h=>h1 (d2 t h)
   simp only[O,jb,j7 W,j7 V,and_self]
  have d1:∀b t,t ∉ cj cs->g.owner b=some (.inr t)->b<w.heap.size->w'.heap[b]?=w.heap[b]?/\O.owner b=some (.inr t)/\O.path b=gs.path b/\O.need b=gs.need b/\O.prot b=gs.prot b:=fun b t h1 V W=>by
   have a0:b≠g.θ id:=fun e=>by rw[e,b2] at V;cases V
   have hk:=a3 b W a0 (fun t' c5 hm _ _=>by rw[V] at c5;injection c5 with c5;injection c5 with c5;subst c5;exact h1 hm);refine⟨(Y.old b hk).1,?_,m6 hk,m6 hk,a6 b hk⟩;simp only[O,jb,j7 a0,m6 hk];exact V
  have d6:∀ {t:Tok} {xm:Bool} {e:TypeId} {row:List S} {rows:List b8} {v:Value},t ∉ cj cs->t.1≠d->dX P w gs base t xm e row rows v->dX P w' O base t xm e row rows v:=by
   intro t xm e row rows v c8 g1 h;obtain⟨e1,e2,e3,e4⟩:=a5 t c8 g1;rcases h with⟨h0,h1,V⟩ | ⟨cap,c6,E,h1,V,W,h4,h5,h6,h7,h8,h9,h10,h11⟩
   ·exact .inl ⟨h0,by rw[e2];exact h1,V⟩
   ·obtain⟨m1,m2,m3,m4,m5⟩:=d1 _ t c8 h5 (aP h6);refine .inr ⟨cap,c6,E,by rw[e1];exact h1,V,by rw[e4];exact W,by rw[e1];exact h4,by rw[e1];exact m2,by rw[e1,m1];exact h6,h7,by rw[e2];exact h8,by rw[e3];exact h9,by rw[e1,e2,e3,m5];exact h10,fun i j s hi hs=>?_⟩;obtain⟨u,q1,q2⟩:=h11 i j s hi hs;exact⟨u,q1,q2.mono rfl c0 (fun _ b o h0 U a0 hb=>by obtain⟨z1,z2,z3,z4,z5⟩:=d1 b t c8 U (aP hb);exact⟨z1.trans hb,h0,z2,by rw[e1];exact a0,z3,z4,fun e=>z5.trans e⟩)⟩
  have e9:∀ {cells:List S} {off:Nat} {x:D} {v:Value},iV P w gs base cells off x v->iV P w' O base cells off x v:=by rintro cells off x v ⟨b,o,h1,V,W⟩;refine⟨b,o,h1,V,fun j s hs=>?_⟩;obtain⟨u,z1,z2⟩:=W j s hs;exact⟨u,(bg (Y.old b (e8 b V)).1 _).trans z1,c7 z2⟩
  have hk:jr P base gs O w w' (fun c=>fL d (jU (cj cs) c)):=by
   intro c x v hv;show VC P w' O base (fL d (jU (cj cs) c)) x v;cases c with
   | any=>rw[gp (fun _=>rfl)];trivial
   | d s=>rw[gp (fun _=>rfl)];exact c7 hv
   | kb b=>rw[gp (fun _=>rfl)];exact hv
   | own t xm e =>
    obtain⟨row,c3,hv⟩:=hv;rw[NU];by_cases J:t∈cj cs
    ·rw[show (cj cs).contains t=true from A3.2 J,g6];cases xm with
     | true=>trivial
     | false=>exact c7 (py c3 hv)
    ·rw[show (cj cs).contains t=false from by simpa using J,f9];show VC P w' O base (bif t.1==d then (bif xm then .any else .d (.sl e)) else .own t xm e) x v;by_cases Z:t.1=d
     ·rw[show (t.1==d)=true from by simpa using Z,g6];cases xm with
      | true=>trivial
      | false=>exact c7 (py c3 hv)
     ·rw[show (t.1==d)=false from by simpa using Z,f9];exact⟨row,c3,d6 J Z hv⟩
   | ptr a2 off =>
    rw[gp (fun _=>rfl)];show VC P w' O base (bif a2==d then .any else .ptr a2 off) x v;cases (a2==d) with
    | true=>trivial
    | false=>exact hv
   | eptr tk e off =>
    cases tk with
    | none =>rw[gp (fun _=>rfl)];obtain⟨row,b,o,h1,V,W,h4⟩:=hv;refine⟨row,b,o,h1,V,W,fun j s hs=>?_⟩;obtain⟨u,q1,q2,q3⟩:=h4 j s hs;obtain⟨z1,z2⟩:=c0 b _ u q2 q1;exact⟨u,z1,z2,c7 q3⟩
    | some t =>
     obtain⟨row,h1,V,W,u,h4⟩:=hv;rw[Jn];by_cases J:t∈cj cs
     ·rw[show (cj cs).contains t=true from A3.2 J,g6];trivial
     ·rw[show (cj cs).contains t=false from by simpa using J,f9];show VC P w' O base (bif t.1==d then .any else .eptr (some t) e off) x v;by_cases Z:t.1=d
      ·rw[show (t.1==d)=true from by simpa using Z,g6];trivial
      ·rw[show (t.1==d)=false from by simpa using Z,f9];exact⟨row,h1,by rw[(a5 t J Z).1];exact V,W,u,d6 J Z h4⟩
   | inn t e off ei =>
    rw[NX];by_cases J:t∈cj cs
    ·rw[show (cj cs).contains t=true from A3.2 J,g6];trivial
    ·rw[show (cj cs).contains t=false from by simpa using J,f9];show VC P w' O base (bif t.1==d then .any else .inn t e off ei) x v;by_cases Z:t.1=d
     ·rw[show (t.1==d)=true from by simpa using Z,g6];trivial
     ·rw[show (t.1==d)=false from by simpa using Z,f9];exact oG hv (a5 t J Z).1 (fun o h5 h6=>(d1 _ t J h5 (aP h6)).1.trans h6) (fun hu=>d6 J Z hu)
   | cptr cells off=>rw[gp (fun _=>rfl)];exact e9 hv
   | fn f caps =>
    rw[gp (fun _=>rfl)];show VC P w' O base (bif caps.all (fun | .ptr id _=>id != d | _=>true) then .fn f caps else .any) x v;generalize caps.all _=q;cases q with
    | false=>trivial
    | true =>
     obtain⟨c6,h1,V,W⟩:=hv;refine⟨c6,h1,V,fun j c hc=>?_⟩;obtain⟨u,hu,d5⟩:=W j c hc;refine⟨u,hu,?_⟩;cases c with
     | d s=>exact c7 d5
     | ptr id off=>exact d5
     | cptr cells off=>exact e9 d5
  have i4:∀k,¬gc.old k->base<=k:=fun k hk=>by
   refine Nat.le_of_not_lt fun r2=>hk ?_
   have:=hr.base_le;exact a3 k (by omega) (by omega) (fun t _ _ _ h=>by omega)
  -- the callee's cells,under the caller's names
  obtain⟨f1,E',e1,e2⟩:=Y.cells;have p7:VCs P w' O base a7 (sub r.p 1 a7.length) f1:=by
   refine⟨by rw[e2.1,o0,n1],fun j c' hj=>?_⟩;obtain⟨c,c2,q1,q2,q3⟩:=l4 j c' hj;obtain⟨u,hu,hv⟩:=e2.2 j c2 q2;refine⟨u,hu,?_⟩;rw[n1,<- o0];rcases Ii q3 with⟨t,t',e,rfl,rfl,rfl,h0,l9⟩ | ⟨s,rfl,rfl⟩
   ·have hm:(t',t)∈M:=by rw[<- f0];exact zM q2 hj
    have c9:t∈M.map (·.2):=A8.2 ⟨_,hm,rfl⟩;have hi:=aca s0 hm;refine VU (fun k hk=>(Y.old k hk).2.2) Y.boxo.2 i4 (u:=t') ⟨?_,?_,?_,?_⟩ (by rw[abW t0 hm];rfl) l9 hv
    ·simp only[jb,m6 c9,hi]
    ·simp only[jb,m6 c9,hi]
    ·simp only[jb,m6 c9,hi]
    ·simp only[jb,m6 c9,hi]
   ·exact hv
  have p6:VT P w' O base ⟨(PB res).map (HJ d),sub r.p (1+cs2.length) (res.flatMap Sh1.ces).length⟩ v:=by
   refine agr (fun c hc x u l7=>?_) Y.res;have o9:(PB res).ces=res.flatMap Sh1.ces:=by
    cases res with
    | nil=>rfl
    | cons y ys=>cases ys <;> simp[PB,Sh.ces]
   rw[o9] at hc;have o2:=i9.1 k5 c hc;cases c with
   | d s=>exact l7
   | own t xm e =>
    obtain⟨t1,ix⟩:=t;have s6:t1=0:=by simpa [Wg] using o2
    subst s6;have q9:((0,ix):Tok) ∉ cj cs2:=by have:=i9.1 k7 (0,ix) (Du hc);simpa using this
    have d7:((d,ix):Tok) ∉ M.map (·.2):=by rw[e7];exact fun h=>(e0 _ (d2 _ h)).1 rfl
    show VC P w' O base (.own (d,ix) xm e) x u;refine VU (gl:=g) (gs:=gs) (old:=gc.old) (bx:=g.θ id) (id:=id) (d:=d) (pairs:=M) (t:=(d,ix)) (fun k hk=>(Y.old k hk).2.2) Y.boxo.2 i4 (u:=(0,ix)) ⟨?_,?_,?_,?_⟩ (by rw[Yr (by rw[l0];exact q9)];rfl) rfl l7
    ·simp only[jb,j7 d7,if_true]
    ·simp only[jb,j7 d7,if_true]
    ·simp only[jb,j7 d7,if_true]
    ·simp only[jb,j7 d7,if_true]
   | _=>simp[Wg] at o2
  -- the state behind
  have s7:(oM (cj cs) (σ.seal ts)).wipe d=(σ.seal ts).map (fun c=>fL d (jU (cj cs) c)):=by rw[Pc];exact St.map_comp _ _ _
  have v0:bS id (σ.seal ts).h=some (cs.map (fG ts),ds):=by have:=zP (List.map (fG ts)) σ.h id;rw[l3] at this;exact this
  have p8:Rel P w' O base ⟨((σ.seal ts).map (fun c=>fL d (jU (cj cs) c))).r,((σ.seal ts).map (fun c=>fL d (jU (cj cs) c))).e,rx id (a7,sub r.p 1 a7.length) ((σ.seal ts).map (fun c=>fL d (jU (cj cs) c))).h⟩ a:=by
   refine⟨fun i=>c4.envMap hk (by rw[gp (fun _=>rfl)];rfl) i,fun a2 w3 v4 hl=>?_,fun b hb=>?_,m8 hr.base_le Y.size,hr.defers,⟨⟨hr.low.1.1,hr.low.1.2⟩,fun b hb=>?_,fun t x hx=>?_⟩,fun b t J U=>?_⟩
   rotate_right
   ·have a0:b≠g.θ id:=fun h=>by subst h;have:O.owner (g.θ id)=some (.inl id):=m6 rfl;rw[this] at U;cases U
    by_cases a1:gc.old b
    ·have h1:O.owner b=gs.owner b:=by simp only[O,jb,j7 a0,m6 a1]
     have V:O.path b=gs.path b:=m6 a1;have W:O.need b=gs.need b:=m6 a1;rw[V,W];exact c4.mine b t J (by rw[<- h1];exact U)
    ·exfalso
     simp only[O,jb,j7 a0,j7 a1] at U
     split at U
     ·rename_i u hu;injection U with U
      injection U with U
      cases hf:fwd M u with
      | none =>rw[hf] at U;have U:(d,u.2)=t:=U;rw[<- U] at J;have J:d=1000001:=J;omega
      | some t2 =>
       rw[hf] at U;have U:t2=t:=U;subst U;have hm:t2∈M.map (·.2):=by
        unfold fwd at hf;cases hq:M.find? (·.1==u) with
        | none=>rw[hq] at hf;cases hf
        | some q =>
         rw[hq] at hf;injection hf with hf
         exact A8.2 ⟨q,H1 hq,hf⟩
       rw[e7] at hm;exact (e0 _ (d2 _ hm)).2.1 J
     ·cases U
   ·rw[qA] at hl;by_cases e:a2=id
    ·subst e;rw[m6 rfl] at hl;injection hl with hl
     injection hl with l1 l2
     subst l1;subst l2;exact⟨b1,m6 rfl,Y.boxo.1,fB _ _ _,f1,E',e1,p7⟩
    ·rw[j7 e] at hl;refine c4.boxMap hk hl fun t8 r5 h8=>?_
     obtain⟨j1,j2,j3,j4,u2,E8,j5,j6⟩:=c4.box a2 t8 r5 h8;have j2:g.owner (g.θ a2)=some (.inl a2):=j2;have a0:g.θ a2≠g.θ id:=fun h=>by rw[h,b2] at j2;injection j2 with j2;injection j2 with j2;exact e j2.symm
     have a1:=a3 (g.θ a2) (aP j5) a0 (fun t J=>by rw[j2] at J;cases J);refine⟨rfl,?_,a6 _ a1,(Y.old _ a1).1⟩;exact (j7 a0).trans (m6 a1)
   ·have s8:=Y.size;obtain⟨q1,q2⟩:=Y.fresh b hb;refine⟨q1,?_⟩;have r1:¬gc.old b:=fun h=>by have:=h.1;omega
    simp only[O,jb,j7 r1,q2];rw[j7 (by omega)]
   ·have hb:g.old b:=hb;obtain⟨q1,q2,q3,q4⟩:=c4.low.2.1 b hb;have a1:=e8 b hb;refine⟨?_,(a6 b a1).trans q2,(Y.old b a1).1.trans q3,B0 q4 Y.size⟩;simp only[O,jb,j7 (hr.oldNe hb b2),m6 a1];exact q1
   ·obtain⟨q1,q2,q3,q4⟩:=c4.low.2.2 t x hx;have c8:t ∉ cj cs:=fun h=>(e0 t h).2.1 q1
    have g1:t.1≠d:=by omega
    obtain⟨m1,m2,_⟩:=a5 t c8 g1;refine⟨q1,m1.trans q2,m2.trans q3,fun h0=>?_⟩;obtain⟨z1,p1,z2,z3⟩:=q4 h0;obtain⟨y1,y2,_⟩:=d1 _ t c8 z1 (aP z2);exact⟨y2,p1,y1.trans z2,z3⟩
  have o6:Below base w w':=⟨Y.os,Y.tape,Y.output,Y.size,fun k hk=>by have:=hr.base_le;exact (Y.old k (a3 k (by omega) (by omega) (fun t _ _ _ h=>by omega))).1⟩;have:=hK v w' O (by have:=p8.put hd (dst:=o.dst) (t:=⟨(PB res).map (HJ d),sub r.p (1+cs2.length) (res.flatMap Sh1.ces).length⟩) p6;rw[d4] at this;rw[s7];rw[d4];exact this) o6;exact this
theorem PV{m:Nat}{cs:List Value}:∀ {y:List Nat},(∀k∈y,(k+1)*m<=cs.length)->∀(i j k:Nat),y[i]?=some k->j<m->(lG m cs y)[i*m+j]?=cs[k*m+j]?
 | [],_,i,j,k,h,_=>by simp at h
 | k0::y,h,i,j,k,hi,hj=>by
  have h1:=h k0 (by simp);rw[E3] at h1;have hl:((cs.drop (k0*m)).take m).length=m:=by rw[w5,v9];omega
  rw[lG];cases i with
  | zero =>simp only[p9,b7] at hi;subst hi;rw[K4,m0,z9 (by omega),I9 hj,A6]
  | succ i =>
   have e1:(i+1)*m+j=m+(i*m+j):=by rw[E3];omega
   rw[e1,C3 (by omega),hl,J1];exact PV (fun k hk=>h k (N8 _ hk)) i j k (by simpa using hi) hj
theorem YF{t:Tok}{e:TypeId}{row:List S}{rows:List b8}{u:Value}(U:br P e=some row)(h:dX P w g base t true e row rows u) :
  ∃cs B,adT w e row.length rows.length cs u B/\(∀b,B=some b->b=g.ρ t/\base<=b/\g.owner b=some (.inr t)/\g.prot b=0/\b<w.heap.size)/\(B=none->rows = []) /\
   ∀i j s,i<rows.length->row[j]?=some s->∃z,cs[i*row.length+j]?=some z/\cL P base w g t true i j s (gd (rows.getD i []) j) z:=by
 rcases h with⟨h0,h1,A,hv⟩ | ⟨cap,arr,E,k1,k2,⟨k3,rfl,k3'⟩,k4,k5,k6,k7,k8,k9,k10,k11⟩
 ·subst h0;exact⟨[],none,⟨by simp,by simp,.inl ⟨rfl,rfl,A,hv⟩⟩,(fun b y=>by cases y),fun _=>rfl,fun i j s hi _=>by simp at hi⟩
 ·have M:=mZ U;have a0:rows.length*row.length<=arr.size:=by rw[k7];exact z7 _ k2
  have O:∀i j s,i<rows.length->row[j]?=some s->∃z,(arr.toList.take (rows.length*row.length))[i*row.length+j]?=some z/\cL P base w g t true i j s (gd (rows.getD i []) j) z:=fun i j s hi Y=>by obtain⟨z,J,V⟩:=k11 i j s hi Y;have hj:=(g7.1 Y).1;have:(i+1)*row.length<=rows.length*row.length:=z7 _ hi;rw[E3] at this;exact⟨z,by rw[u9,m6 (by omega)];simpa using J,V⟩
  refine⟨arr.toList.take (rows.length*row.length),some (g.ρ t),⟨?_,fun v hv=>?_,.inr ⟨_,cap,arr,rfl,k1,k2,k3,k6,k7,fun k v hk=>?_⟩⟩,(fun b y=>by injection y with y;subst y;exact⟨rfl,k4,k5,by simpa using k10,aP k6⟩),(fun y=>by cases y),O⟩
  ·rw[w5,F7];exact Nat.min_eq_left a0
  ·obtain⟨k,hk⟩:=F9 hv;have W:=(g7.1 hk).1;rw[w5] at W;have Z:k % row.length<row.length:=Nat.mod_lt _ M;obtain⟨z,J,V⟩:=O (k / row.length) (k % row.length) _ ((M7 M).2 (by omega)) (g9 Z);have e:k / row.length*row.length+k % row.length=k:=by rw[L8];exact Nat.div_add_mod k row.length
   rw[e,hk] at J;injection J with J
   subst J;exact pj V.flat
  ·rw[u9] at hk
   split at hk
   ·simpa using hk
   ·cases hk
def aiv(y:List Nat):List (Nat × Nat)->List (Nat × Nat)
 | [] => []
 | (a,j)::r=>(y.idxOf a,j)::r
theorem ahu(hr:Rel P w g base σ a){t:Tok}{e:TypeId}{row:List S}{rows:List b8}{cs:List Value}{J:List Nat}{B B':Option Nat}{v':Value}
  (hd:bq t=true) (a1:t.1≠1000001) (c1:br P e=some row) (hB:∀b,B=some b->b=g.ρ t/\base<=b/\g.owner b=some (.inr t)/\g.prot b=0/\b<w.heap.size)
  (a4:∀i j s,i<rows.length->row[j]?=some s->∃z,cs[i*row.length+j]?=some z/\TR P w (mC base g t) [(i,j)] s (gd (rows.getD i []) j) z)
  (b3:J.Nodup) (a8:∀k∈J,k<rows.length) (b0:cs.length=rows.length*row.length)
  (W:aM w w' B) (hO:adT w' e row.length J.length (lG row.length cs J) v' B') (a5:∀b,B'=some b->B=some b\/w.heap.size<=b) :
  ∃g',Rel P w' g' base (σ.map (bv t)) a/\dX P w' g' base t true e row (J.map fun k=>rows.getD k []) v'/\Below base w w':=by
 have a0:∀b,B=some b->g.owner b=some (.inr t):=fun b y=>(hB b y).2.2.1
 let g':G:={ prot:=fun b=>if B'=some b then 0 else g.prot b,owner:=fun b=>if B'=some b then some (.inr t) else g.owner b,θ:=g.θ,ρ:=fun u=>if u=t then B'.getD (g.ρ t) else g.ρ u, len:=fun u=>if u=t then J.length else g.len u,wid:=fun u=>if u=t then row.length else g.wid u,ety:=fun u=>if u=t then e else g.ety u, path:=fun b=>if g.owner b=some (.inr t) then aiv J (g.path b) else g.path b,need:=g.need,old:=g.old }
 have b5:∀b,B'=some b->b<w'.heap.size:=fun b y=>by
  rcases hO.2.2 with⟨h0,_⟩ | ⟨b1,cap,arr,q1,q2,q3,q4,q5,q6,q7⟩
  ·rw[h0] at y;cases y
  ·rw[q1] at y;injection y with y;subst y;exact aP q5
 have V:∀b,b<w.heap.size->g'.prot b=g.prot b/\g'.owner b=g.owner b:=fun b y=>by
  by_cases Y:B'=some b
  ·rcases a5 b Y with h1 | h1
   ·obtain⟨_,_,q3,q4,_⟩:=hB b h1;exact⟨by show (if _ then _ else _)=_;rw[m6 Y,q4],by show (if _ then _ else _)=_;rw[m6 Y,q3]⟩
   ·omega
  ·exact⟨j7 Y,j7 Y⟩
 have c0:∀b,w'.heap.size<=b->g'.prot b=0/\g'.owner b=none:=fun b y=>by
  have Y:B'≠some b:=fun e=>by have:=b5 b e;omega
  obtain⟨q1,q2⟩:=hr.fresh b (m8 W.size y);exact⟨by show (if _ then _ else _)=_;rw[j7 Y,q1],by show (if _ then _ else _)=_;rw[j7 Y,q2]⟩
 have a3:∀b Z,Z≠t->g.owner b=some (.inr Z)->g'.path b=g.path b:=fun b Z M O=>j7 (by rw[O];intro e;injection e with e;injection e with e;exact M e)
 have hk:jr P base g g' w w' (bv t):=by
  refine jN (fun b o u h1 h2=>?_) (fun b Z M U y=>⟨W.other b y (fun e=>?_),(V b y).2,(V b y).1⟩) (fun Z M=>⟨j7 M,j7 M,j7 M,j7 M⟩) rfl (fun b y=>W.other b (hr.low.2.1 b y).2.2.2 (fun e=>?_)) (fun b Z M O _=>⟨a3 b Z M O,rfl⟩) rfl
  ·have y:=dW h2;refine⟨(bg (W.other b y (fun e=>?_)) o).trans h2,by rw[(V b y).1];exact h1⟩;have:=(hB b e).2.2.2.1;omega
  ·have:=a0 b e;rw[this] at U;injection U with U
   injection U with U
   exact M U.symm
  ·exact hr.oldNe y (a0 b e) rfl
 have b2:Rel P w' g' base (σ.map (bv t)) a:=by
  refine hr.drop hk rfl (fun b id U y=>⟨W.other b y (fun e=>?_),(V b y).2,(V b y).1⟩) c0 W.size (fun b y=>⟨(V b (hr.low.2.1 b y).2.2.2).2,(V b (hr.low.2.1 b y).2.2.2).1,W.other b (hr.low.2.1 b y).2.2.2 (fun e=>hr.oldNe y (a0 b e) rfl)⟩) rfl (fun Z M=>⟨j7 (lH a1 M),j7 (lH a1 M),fun b O y=>⟨by rw[(V b y).2];exact O,W.other b y (fun e=>by have:=a0 b e;rw[this] at O;injection O with O;injection O with O;exact lH a1 M O.symm)⟩⟩) (fun b Z M O=>?_)
  ·have:=a0 b e;rw[this] at U;injection U with U
   cases U
  ·change (if _ then _ else _)=_ at O
   split at O
   ·injection O with O;injection O with O;exact absurd O.symm (lH a1 M)
   ·exact⟨O,a3 b Z (lH a1 M) O,rfl⟩
 refine⟨g',b2,?_,⟨W.os,W.tape,W.output,W.size,fun k hk=>W.other k (B0 hk hr.base_le) (fun e=>by have:=(hB k e).2.1;omega)⟩⟩;rcases hO.2.2 with⟨h0,h1,A,hv⟩ | ⟨b1,cap,arr,q1,q2,q3,q4,q5,q6,q7⟩
 ·have:J = []:=v7 h1;subst this;exact .inl ⟨rfl,m6 rfl,A,hv⟩
 ·have e1:g'.ρ t=b1:=by show (if t=t then B'.getD _ else _)=_;rw[m6 rfl,q1];rfl
  refine .inr ⟨cap,arr,e,by rw[e1,r9];exact q2,by rw[r9];exact q3,⟨q4,rfl,(m6 rfl).symm⟩,?_,?_,by rw[e1];exact q5,q6,by rw[r9];exact (m6 rfl).symm,(m6 rfl).symm,?_,fun i j s hi hs=>?_⟩
  ·rw[e1];rcases a5 b1 q1 with h1 | h1
   ·exact (hB b1 h1).2.1
   ·exact m8 hr.base_le h1
  ·rw[e1];exact m6 q1
  ·rw[e1];show (if B'=some b1 then 0 else _)=_;rw[m6 q1];rfl
  ·rw[r9] at hi;have hj:=(g7.1 hs).1;have a6:J[i]?=some J[i]:=g9 hi;have b4:J[i]∈J:=v6 hi;have b6:=a8 _ b4;obtain⟨z,z1,z2⟩:=a4 _ j s b6 hs;refine⟨z,q7 _ _ ?_,.of_tr ?_ hd⟩
   ·rw[PV (fun k hk=>by rw[b0];exact z7 _ (a8 k hk)) i j _ a6 hj];exact z1
   ·have e2:(J.map fun k=>rows.getD k []).getD i []=rows.getD J[i] []:=by rw[g4,w9,a6];rfl
    rw[e2];have:=TR.mono (aiv J) (fun π x a7=>by cases π with | nil=>exact absurd rfl a7 | cons p r=>rfl) z2 (w':=w') (lab':=mC base g' t) (fun b π n o a7 hl O=>by
     obtain⟨l0,l1,l2,l3,l4,l5⟩:=hl;have a2:=aP O;refine⟨(W.other b a2 (fun e=>l2 (hB b e).1)).trans O,l0,(V b a2).2.trans l1,?_,?_,l4,(V b a2).1.trans l5⟩
     ·rw[e1];rintro rfl;rcases a5 b q1 with h1 | h1
      ·exact l2 (hB b h1).1
      ·omega
     ·show (if g.owner b=some (.inr t) then _ else _)=_;rw[m6 l1,l3]) (by simp)
    rw[show aiv J [(J[i],j)] = [(i,j)] from by show[(J.idxOf J[i],j)]=_;rw[b3.idxOf_getElem]] at this;exact this
theorem alI(hr:Rel P w g base σ a){call:FuncId->List T->Option (T × Bool)}(b2:av P call){o:Oper}{d5:St}{f:Operand}{xs:Array Operand}{f3:Array TypeId}(ho:o.op=.call { callee:=.value f,args:=xs,argTypes:=f3 })(hd:∀d,o.dst=some d->d<a.tmps.size)
  (h:evX call σ o.dst f xs.toList=some (d5,true)):BT P base d5 o a w:=by
 unfold evX at h
 split at h
 ·rename_i c5 i y z hsh i3;have e9:xs = #[.tmp i,y,z]:=by cases xs;simp_all
  subst e9;have c4:=dO hr f;have c4:VC P w g base (.fn c5 []) (gd (opd σ f).p 0) (a.eval f):=by generalize opd σ f=q at *;obtain⟨sh,p⟩:=q;simp only at hsh;subst hsh;exact c4
  obtain⟨e7,h7,e6,_⟩:=c4;have g1:e7 = #[]:=by simpa using e6
  subst g1
  split at h
  ·rename_i t e d2 d4;have c6:=dO hr (.tmp i);have c6:VC P w g base (.own t true e) (gd (opd σ (.tmp i)).p 0) (a.eval (.tmp i)):=by generalize opd σ (.tmp i)=q at *;obtain⟨sh,p⟩:=q;simp only at d2;subst d2;exact c6
   obtain⟨row,W,c2⟩:=c6;have b0:=dO hr y;have b0:a.eval y=.int .i64 (gd (opd σ y).p 0).int:=by generalize opd σ y=q at *;obtain⟨sh,p⟩:=q;simp only at d4;subst d4;have b0:VD P w g.prot (.int .i64) (gd p 0) (a.eval y):=b0;generalize a.eval y=uy at *;cases b0;rfl
   -- behind the call
   have fin:∀ {r:T} {q:T},Ue P c5 [.c (.d (.sl e)) (gd (opd σ (.tmp i)).p 0),.c (.d (.int .i64)) (gd (opd σ y).p 0),q] r->bq t=true->t.1≠1000001 ->
     ∀ {a1:G} {a6:St} {cs2:List Value} {B2:Option Nat},Rel P w a1 base a6 a->dX P w a1 base t true e row (gd (opd σ (.tmp i)).p 0).rows (a.eval (.tmp i)) ->
     ((q.sh=.one (.c (.d (.int .i64)))/\a.eval z=.int .i64 (gd q.p 0).int/\cs2 = [])\/(q.sh=.one (.c (.d (.sl e)))/\adT w e row.length (Aw q).length cs2 (a.eval z) B2)) ->
     cs2.length=(Aw q).length*row.length->(∀b,a1.owner b=some (.inr t)->B2=some b->False) ->
     (∀Y j s,Y<(Aw q).length->row[j]?=some s->∃u,cs2[Y*row.length+j]?=some u/\TR P w (mC base a1 t) [((gd (opd σ (.tmp i)).p 0).rows.length+Y,j)] s (gd ((Aw q).getD Y []) j) u) ->
     BT P base ((a6.map (bv t)).put o.dst (.c (.own t true e) (gd r.p 0))) o a w:=by
    intro r q hS a3 V a1 a6 cs2 B2 d1 b4 hz d7 h6 g2;obtain⟨g3,hX⟩:=hS;obtain⟨i1,s1,s2,s3,s4⟩:=hX e _ _ q row rfl W;obtain⟨cs,B,k1,k2,k3,k4⟩:=YF W b4;intro K Q hK;unfold Oper.wp;have e8:(execOp a.eval o).run P w=.ok (.enter c5 #[a.eval (.tmp i),.int .i64 (gd (opd σ y).p 0).int,a.eval z]) w:=by simp only[execOp,ho,resolve,h7,Deferred.ofValue,l8,m9,i5,invoke];rw[<- b0];simpa using g3 _ w
    rw[e8];refine (s4 w _ _ B B2 cs cs2 k1 (fun b h1 h2=>h6 b (k2 b h1).2.2.1 h2) hz).mono ?_;rintro ex w' ⟨v',B',rfl,hC,hO,h0⟩;have a4:cs.length=(gd (opd σ (.tmp i)).p 0).rows.length*row.length:=k1.1;obtain⟨g',q1,q2,q3⟩:=ahu (rows:=(gd (opd σ (.tmp i)).p 0).rows++Aw q) (cs:=cs++cs2) d1 a3 V W k2 (fun Y j s hi hs=>by
     rw[i6] at hi;have hj:=(g7.1 hs).1;by_cases h1:Y<(gd (opd σ (.tmp i)).p 0).rows.length
     ·obtain⟨u,z1,z2⟩:=k4 Y j s h1 hs;have f1:=(g7.1 z1).1;refine⟨u,by rw[z9 f1];exact z1,?_⟩;rw[g4,z9 h1,<- g4];exact z2.tr a3
     ·obtain⟨u,z1,z2⟩:=g2 (Y - (gd (opd σ (.tmp i)).p 0).rows.length) j s (by omega) hs;have e0:(gd (opd σ (.tmp i)).p 0).rows.length+(Y - (gd (opd σ (.tmp i)).p 0).rows.length)=Y:=by omega
      have e1:Y*row.length+j=(gd (opd σ (.tmp i)).p 0).rows.length*row.length+((Y - (gd (opd σ (.tmp i)).p 0).rows.length)*row.length+j):=by rw[<- u4,<- F6,e0]
      refine⟨u,by rw[e1,C3 (by omega),a4,J1];exact z1,?_⟩;rw[g4,C3 (by omega),<- g4];rw[e0] at z2;exact z2) s1 s2 (by rw[i6,i6,a4,d7,F6]) hC hO h0
    exact hK _ w' g' (q1.put hd (dst:=o.dst) (t:=.c (.own t true e) (gd r.p 0)) ⟨row,W,by show dX P w' g' base t true e row (gd r.p 0).rows v';rw[s3];exact q2⟩) q3
   split at h
   ·rename_i a8
    split at h
    ·rename_i r ok a4;cases hq:(r.sh.isX&&bq t&&t.1 != 1000001) with
     | false=>rw[hq] at h;cases h
     | true =>
      rw[hq,g6] at h;simp only[b7,j8] at h;obtain⟨rfl,rfl⟩:=h;simp only[a9] at hq;obtain⟨⟨hx,a3⟩,V⟩:=hq;have Z:=dO hr z;have Z:a.eval z=.int .i64 (gd (opd σ z).p 0).int:=by generalize opd σ z=q at *;obtain⟨sh,p⟩:=q;simp only at a8;subst a8;have Z:VD P w g.prot (.int .i64) (gd p 0) (a.eval z):=Z;generalize a.eval z=uz at *;cases Z;rfl
      exact fin ((b2 _ _ _ a4).x hx) a3 (by simpa using V) (cs2:= []) (B2:=none) hr c2 (.inl ⟨rfl,Z,rfl⟩) (by simp[Aw]) (fun b _ h=>by cases h) (fun Y j s hi _=>by simp[Aw] at hi)
    ·cases h
   ·rename_i O e2 a8
    split at h
    ·rename_i r ok a4;cases hq:(r.sh.isX&&e==e2&&bq t&&bq O&&O != t&&t.1 != 1000001&&O.1 != 1000001) with
     | false=>rw[hq] at h;cases h
     | true =>
      rw[hq,g6] at h;simp only[b7,j8] at h;obtain⟨rfl,rfl⟩:=h;simp only[a9] at hq;obtain⟨⟨⟨⟨⟨⟨hx,c1⟩,a3⟩,d6⟩,a2⟩,V⟩,a5⟩:=hq;have c1:e=e2:=by simpa using c1
      subst c1;have a2:t≠O:=Ne.symm (show O≠t by simpa using a2);have V:t.1≠1000001:=by simpa using V
      have a5:O.1≠1000001:=by simpa using a5
      have Z:=dO hr z;have Z:VC P w g base (.own O true e) (gd (opd σ z).p 0) (a.eval z):=by generalize opd σ z=q at *;obtain⟨sh,p⟩:=q;simp only at a8;subst a8;exact Z
      obtain⟨h8,a0,c8⟩:=Z;rw[W] at a0;injection a0 with a0;subst a0;obtain⟨cs2,B2,k1,k2,k3,k4⟩:=YF W c8;have hS:=(b2 _ _ _ a4).x hx
      let n0:=(gd (opd σ (.tmp i)).p 0).rows.length
      let fm:List (Nat × Nat)->List (Nat × Nat):=fun π=>match π with
       | [] => []
       | (i,j)::r=>(n0+i,j)::r
      have c0:∀ {M:G} {a7:St},Rel P w M base a7 a->dX P w M base t true e row (gd (opd σ (.tmp i)).p 0).rows (a.eval (.tmp i))->(∀J,M.owner J=some (.inr O)->w.heap.size<=J\/J≠M.ρ t)->(∀J,M.owner J=g.owner J/\M.path J=g.path J/\M.need J=g.need J/\M.prot J=g.prot J)->M.ρ O=g.ρ O ->
        BT P base (((a7.map (bv O)).map (bv t)).put o.dst (.c (.own t true e) (gd r.p 0))) o a w:=by
       intro M a7 b3 b5 d8 b1 b6;obtain⟨i2,f0⟩:=zB (t:=O) (s:=t) (f:=fm) (top:=none) b3 a5 V;have c9:=EG (s:=t) (f:=fm) (top:=none) b3 a5 V a2 W b5;refine fin hS a3 V (cs2:=cs2) (B2:=B2) f0 c9 (.inr ⟨rfl,k1⟩) k1.1 (fun b hb h2=>?_) (fun Y j s hi hs=>?_)
       ·obtain⟨q1,q2,q3,q4,q5⟩:=k2 b h2;have f2:M.owner b=some (.inr O):=(b1 b).1.trans q3;change (if M.owner b=some (.inr O) then _ else _)=_ at hb;rw[m6 f2,m6 (by rw[b6];exact q1)] at hb;simp only[L1,y4,if_false] at hb;injection hb with hb;injection hb with hb;exact a2 hb.symm
       ·obtain⟨u,z1,z2⟩:=k4 Y j s hi hs;refine⟨u,z1,?_⟩;have:=TR.mono fm (fun π x d3=>by cases π with | nil=>exact absurd rfl d3 | cons p r=>rfl) (z2.tr d6) (w':=w) (lab':=mC base (wL M O t fm none) t) (fun J π n h9 d3 hl U=>⟨U,by
         obtain⟨l0,l1,l2,l3,l4,l5⟩:=hl;obtain⟨m1,m2,m3,m4⟩:=b1 J;have c3:M.owner J=some (.inr O):=m1.trans l1;have c7:J≠M.ρ O:=by rw[b6];exact l2
         refine⟨l0,?_,(d8 J c3).resolve_left (by have:=aP U;omega),?_,?_,m4.trans l5⟩
         ·show (if M.owner J=some (.inr O) then _ else _)=_;rw[m6 c3,j7 c7]
         ·show (if M.owner J=some (.inr O) then _ else _)=_;rw[m6 c3,j7 c7,m2,l3]
         ·show (if M.owner J=some (.inr O)/\J=M.ρ O then _ else _)=_;rw[j7 (fun e=>c7 e.2),m3];exact l4⟩) (by simp)
        exact this
      rcases c2 with hown' | hown'
      ·have k:=c0 (Xt hr t V w.heap.size) (.inl ⟨hown'.1,hown'.2.1,hown'.2.2⟩) (fun J _=>by show _\/J≠(if t=t then w.heap.size else _);rw[m6 rfl];omega) (fun _=>⟨rfl,rfl,rfl,rfl⟩) (j7 (Ne.symm a2));have e1:((σ.map (bv t)).map (bv O)).map (bv t)=(σ.map (bv O)).map (bv t):=RL t O σ;rw[e1] at k;exact k
      ·exact c0 hr (.inr hown') (fun J U=>.inr fun e=>by obtain⟨cap,i0,E,h1,h2,h3,h4,h5,rest⟩:=hown';rw[e,h5] at U;injection U with U;injection U with U;exact a2 U) (fun _=>⟨rfl,rfl,rfl,rfl⟩) rfl
    ·cases h
   ·cases h
  ·cases h
 ·cases h
theorem aiU(Y:Rel P w g base σ a){call:FuncId->List T->Option (T × Bool)}(a3:av P call){o:Oper}{a7:St}{d:Nat}{f:Operand}{xs:Array Operand}{d4:Array TypeId}{c8:List TypeId}(ho:o.op=.call { callee:=.value f,args:=xs,argTypes:=d4 })(Z:o.dst=some d)(hd:∀d,o.dst=some d->d<a.tmps.size)
  (h:Yy P call σ d f xs.toList c8=some (a7,true)):BT P base a7 o a w:=by
 unfold Yy at h
 split at h
 ·rename_i a6 hsh
  split at h
  ·rename_i vs c7
   split at h
   ·rename_i r ok d7
    split at h
    ·rename_i cs a5;cases O:(cs.all Ce.isD) with
     | false=>rw[O] at h;cases h
     | true =>
      rw[O,g6] at h;simp only[b7,j8] at h;obtain⟨rfl,rfl⟩:=h
      let ts:List Tok:=(xs.toList.map (opd σ)).flatMap (fJ σ)
      obtain⟨k1,k2⟩:=rd (ts:=ts) Y c7 (fun t h=>A3.2 h);have a2:=dO Y f;have a2:VC P w g base (.fn a6 []) (gd (opd σ f).p 0) (a.eval f):=by generalize opd σ f=q at *;obtain⟨sh,p⟩:=q;simp only at hsh;subst hsh;exact a2
      obtain⟨b5,d6,b4,_⟩:=a2;have b6:b5 = #[]:=by simpa using b4
      subst b6;have hS:=(a3 _ _ _ d7).nw (by rw[a5];rfl);obtain⟨d5,a1,_⟩:=hS;have a4:lq P (bF g ts).prot w vs (xs.map a.eval):=by
       refine⟨by simp[k1],fun j t hj=>?_⟩;obtain⟨x,hx,c4⟩:=k2 j t hj;refine⟨a.eval x,?_,c4⟩;rw[H4];have:xs[j]?=some x:=by simpa using hx
       rw[this];rfl
      have d3:∀b,w.heap.size<=b->(bF g ts).prot b=0:=fun b hb=>((Y.seal ts).fresh b hb).1
      intro K Q hK;unfold Oper.wp;have b1:(execOp a.eval o).run P w=.ok (.enter a6 (xs.map a.eval)) w:=by simp only[execOp,ho,resolve,d6,Deferred.ofValue,l8,m9,i5,invoke];simpa using d5 (xs.map a.eval) w
      rw[b1];refine (a1 cs a5 w _ _ a4 d3).mono ?_;rintro e w' ⟨y,V,rfl,M,d1,d2,c2,c1,c6,E,hh,c3,a0⟩;have c5:d<a.tmps.size:=hd d Z;have a8:=Y.seal ts
      let J:G:={ prot:=fun b=>if b<w.heap.size then (bF g ts).prot b else V b,owner:=fun b=>if b<w.heap.size then (bF g ts).owner b else if b=y then some (.inl d) else none, θ:=fun id=>if id=d then y else (bF g ts).θ id,ρ:=(bF g ts).ρ,len:=(bF g ts).len,wid:=(bF g ts).wid,ety:=(bF g ts).ety,path:=(bF g ts).path,need:=(bF g ts).need,old:=(bF g ts).old }
      have e0:y<w'.heap.size:=aP hh;have hE:Ext (some d) (bF g ts) J w w':=by
       refine⟨M.size,fun id h=>j7 (fun e=>h (by rw[e])),fun t _=>⟨rfl,rfl,rfl,rfl⟩,fun b h=>m6 h,fun b h=>m6 h,fun b h=>M.block b h,fun b h=>⟨rfl,rfl⟩,rfl,fun b t d8 h=>?_⟩;change (if b<w.heap.size then _ else if b=y then some (Sum.inl d) else none)=_ at h;rw[j7 (by omega)] at h
       split at h <;> cases h
      have hF:∀b,w'.heap.size<=b->J.prot b=0/\J.owner b=none:=fun b hb=>by have:=M.size;refine⟨by show (if b<w.heap.size then _ else _)=_;rw[j7 (by omega)];exact c1 b hb,?_⟩;show (if b<w.heap.size then _ else if b=y then some (Sum.inl d) else none)=_;rw[j7 (by omega),j7 (by omega)]
      have U:∀b,J.prot b=V b:=fun b=>by
       show (if b<w.heap.size then _ else _)=_
       split
       ·rename_i h;exact (d2 b h).symm
       ·rfl
      have b2:afi P w' J base d cs (sub r.p 0 cs.length):=by
       have W:J.θ d=y:=m6 rfl;refine⟨by rw[W];exact m8 Y.base_le d1,?_,by rw[W,U];exact c2,fB _ _ _,c6,E,by rw[W];exact hh,c3,fun j c hc=>?_⟩
       ·rw[W];show (if y<w.heap.size then _ else if y=y then some (Sum.inl d) else none)=_;rw[j7 (by omega),m6 rfl]
       ·have c0:=(g7.1 hc).1;have c9:=i9.1 O c (A2 hc);cases c with
        | d s =>obtain⟨u,u1,u2⟩:=a0 j s hc;refine⟨u,u1,?_⟩;rw[fY _ _ _ _ c0,m0];show VD P w' J.prot s _ u;exact u2.mono fun b o z h1 h2=>⟨h2,by rw[U];exact h1⟩
        | _=>cases c9
      have b3:=a8.wipeBox c5 hE hF b2;have:=b3.put hd (dst:=o.dst) (t:=.c (.ptr d 0) D0) (v:=.pointer (some ⟨y,0,none⟩)) (by show Value.pointer _=Value.pointer (some ⟨J.θ d,0,none⟩);rw[show J.θ d=y from m6 rfl]);exact hK _ w' J (by rw[Z] at this ⊢;exact this) (M.mono Y.base_le)
    ·cases h
   ·cases h
  ·cases h
 ·cases h
theorem acr:∀ {cs az:List Ce} {p q:b8},az.length=cs.length->(Gr cs az).length=cs.length/\∀(j:Nat) c,(Gr cs az)[j]?=some c->∃y a,cs[j]?=some y/\az[j]?=some a/\((y=.any/\c=a/\gd (Ql cs p q) j=gd q j)\/(y≠.any/\c=y/\gd (Ql cs p q) j=gd p j))
 | [],[],p,q,_=>⟨rfl,fun j c h=>by simp[Gr] at h⟩
 | [],_::_,p,q,h=>by simp at h
 | _::_,[],p,q,h=>by simp at h
 | y::cs,a::az,p,q,h=>by
  obtain⟨W,Y⟩:=acr (cs:=cs) (az:=az) (p:=p.tail) (q:=q.tail) (by simpa using h);by_cases hc:y=.any
  ·subst hc;refine⟨by simp[Gr,W],fun j c M=>?_⟩;cases j with
   | zero =>
    have:a=c:=by simpa [Gr] using M
    exact⟨.any,a,rfl,rfl,.inl ⟨rfl,this.symm,rfl⟩⟩
   | succ j =>obtain⟨V,U,h1,O,J⟩:=Y j c (by simpa [Gr] using M);refine⟨V,U,by simpa using h1,by simpa using O,?_⟩;rw[fq,fq] at J;exact J
  ·have e1:Gr (y::cs) (a::az)=y::Gr cs az:=by cases y <;> first | (exact absurd rfl hc) | rfl
   have e2:Ql (y::cs) p q=gd p 0::Ql cs p.tail q.tail:=by cases y <;> first | (exact absurd rfl hc) | rfl
   rw[e1,e2];refine⟨by simp[W],fun j c M=>?_⟩;cases j with
   | zero =>
    have:y=c:=by simpa using M
    exact⟨y,a,rfl,rfl,.inr ⟨hc,this.symm,rfl⟩⟩
   | succ j =>obtain⟨V,U,h1,O,J⟩:=Y j c (by simpa using M);refine⟨V,U,by simpa using h1,by simpa using O,?_⟩;rw[fq,fq] at J;exact J
theorem alt(hr:Rel P w g base σ a){call:FuncId->List T->Option (T × Bool)}(a3:av P call){o:Oper}{a8:St}{d:Nat}{f:Operand}{xs:Array Operand}{d1:Array TypeId}{c7:List TypeId}(ho:o.op=.call { callee:=.value f,args:=xs,argTypes:=d1 })(O:o.dst=some d)(hd:∀d,o.dst=some d->d<a.tmps.size)
  (h:evT P call σ d f xs.toList c7=some (a8,true)):BT P base a8 o a w:=by
 unfold evT at h
 split at h
 ·rename_i a7 x xr hsh c1
  split at h
  ·rename_i vs c6
   split at h
   ·rename_i r ok d6
    split at h
    ·rename_i cs az a6 d4;cases hq:(cs.all Ce.thr&&az.length==cs.length) with
     | false=>rw[hq] at h;cases h
     | true =>
      rw[hq,g6] at h;simp only[b7,j8] at h;obtain⟨rfl,rfl⟩:=h;simp only[a9,u7] at hq;obtain⟨d8,b1⟩:=hq
      let ts:List Tok:=(xs.toList.map (opd σ)).flatMap (fJ σ)
      obtain⟨k1,k2⟩:=rd (ts:=ts) hr c6 (fun t h=>A3.2 h);have Z:=dO hr f;have Z:VC P w g base (.fn a7 []) (gd (opd σ f).p 0) (a.eval f):=by generalize opd σ f=q at *;obtain⟨sh,p⟩:=q;simp only at hsh;subst hsh;exact Z
      obtain⟨b6,d5,b4,_⟩:=Z;have c2:b6 = #[]:=by simpa using b4
      subst c2;have hS:=(a3 _ _ _ d6).nw (by rw[a6];rfl);obtain⟨d2,_,Y⟩:=hS;have a4:lq P (bF g ts).prot w vs (xs.map a.eval):=by
       refine⟨by simp[k1],fun j t hj=>?_⟩;obtain⟨x,hx,U⟩:=k2 j t hj;refine⟨a.eval x,?_,U⟩;rw[H4];have:xs[j]?=some x:=by simpa using hx
       rw[this];rfl
      have c9:∀b,w.heap.size<=b->(bF g ts).prot b=0:=fun b hb=>((hr.seal ts).fresh b hb).1
      intro K Q hK;unfold Oper.wp;have b2:(execOp a.eval o).run P w=.ok (.enter a7 (xs.map a.eval)) w:=by simp only[execOp,ho,resolve,d5,Deferred.ofValue,l8,m9,i5,invoke];simpa using d2 (xs.map a.eval) w
      rw[b2];refine (Y cs a6 w _ _ a4 c9).mono ?_;rintro e w' ⟨us,J,rfl,y,c8,c3,c4,W⟩;have c5:d<a.tmps.size:=hd d O;have b0:=hr.seal ts
      let M:G:={ prot:=fun b=>if b<w.heap.size then (bF g ts).prot b else J b,owner:=fun b=>if b<w.heap.size then (bF g ts).owner b else none, θ:=(bF g ts).θ,ρ:=(bF g ts).ρ,len:=(bF g ts).len,wid:=(bF g ts).wid,ety:=(bF g ts).ety,path:=(bF g ts).path,need:=(bF g ts).need,old:=(bF g ts).old }
      have hE:Ext (some d) (bF g ts) M w w':=by refine⟨y.size,fun id h=>rfl,fun t _=>⟨rfl,rfl,rfl,rfl⟩,fun b h=>m6 h,fun b h=>m6 h,fun b h=>y.block b h,fun b h=>⟨rfl,rfl⟩,rfl,fun b t d7 h=>?_⟩;change (if b<w.heap.size then _ else none)=_ at h;rw[j7 (by omega)] at h;cases h
      have hF:∀b,w'.heap.size<=b->M.prot b=0/\M.owner b=none:=fun b hb=>by have:=y.size;refine⟨by show (if b<w.heap.size then _ else _)=_;rw[j7 (by omega)];exact c3 b hb,?_⟩;show (if b<w.heap.size then _ else none)=_;rw[j7 (by omega)]
      have a2:∀b,M.prot b=J b:=fun b=>by
       show (if b<w.heap.size then _ else _)=_
       split
       ·rename_i h;exact (c8 b h).symm
       ·rfl
      have a1:=b0.wipeRow c5 hE rfl hF;have U:=dO a1 x;have a5:(opd ((σ.seal ts).wipe d) x).sh=.one (.agg az):=d4;show K _ _;change ∀z w' g',Rel P w' g' base (St.put ((σ.seal ts).wipe d) (some d) ⟨.one (.agg (Gr cs az)),Ql cs r.p (opd ((σ.seal ts).wipe d) x).p⟩) (a.put o.dst z)->_ at hK;generalize opd (((σ.seal ts).wipe d)) x=q at *;obtain⟨e0,qp⟩:=q;simp only at a5;subst a5;obtain⟨V,d3,b5⟩:∃V,a.eval x=.agg V/\VCs P w' M base az qp V:=U;obtain⟨t1,t2⟩:=acr (cs:=cs) (az:=az) (p:=r.p) (q:=qp) b1;have b3:VT P w' M base ⟨.one (.agg (Gr cs az)),Ql cs r.p qp⟩ (.agg us):=by
       refine⟨us,rfl,by rw[c4,t1],fun j c hc=>?_⟩;obtain⟨c0,a0,m1,m2,m3⟩:=t2 j c hc;obtain⟨u,n1,n2⟩:=W j c0 m1;refine⟨u,n1,?_⟩;rcases m3 with⟨e1,e2,e3⟩ | ⟨e1,e2,e3⟩
       ·subst e1;subst e2;rw[e3];rcases n2 with⟨s,hs,_⟩ | ⟨_,arr',z1,z2⟩
        ·cases hs
        ·have z3:(xs.map a.eval)[0]?=some (a.eval x):=by
          rw[H4];have:xs[0]?=some x:=by
           have:xs.toList[0]?=some x:=by rw[c1];rfl
           simpa using this
          rw[this];rfl
         rw[z3,d3] at z1;injection z1 with z1
         injection z1 with z1
         subst z1;obtain⟨u',y1,y2⟩:=b5.2 j c m2;rw[z2] at y1;injection y1 with y1
         subst y1;exact y2
       ·subst e2;rw[e3];rcases n2 with⟨s,hs,hv⟩ | ⟨hs,_⟩
        ·subst hs;show VD P w' M.prot s _ u;rw[show M.prot=J from funext a2];exact hv
        ·exact absurd hs e1
      have:=hK (.agg us) w' M (by have:=a1.put hd (dst:=o.dst) (t:=⟨.one (.agg (Gr cs az)),Ql cs r.p qp⟩) b3;rw[O] at this ⊢;exact this) (y.mono hr.base_le);exact this
    ·cases h
   ·cases h
  ·cases h
 ·cases h
theorem alr(U:Rel P w g base σ a){call:FuncId->List T->Option (T × Bool)}(y:av P call){o:Oper}{V:St}{f:Operand}{xs:Array Operand}{Y:Array TypeId}{W:List TypeId}(O:o.op=.call { callee:=.value f,args:=xs,argTypes:=Y })(M:∀d,o.dst=some d->d<a.tmps.size)
  (h:evW P call σ o.dst f xs.toList W=some (V,true)):BT P base V o a w:=by
 unfold evW at h
 split at h
 ·rename_i r J;injection h with h
  subst h;exact ajE U y O M J
 ·split at h
  ·rename_i r J;injection h with h
   subst h;exact als U y O M J
  ·split at h
   ·rename_i r J;injection h with h
    subst h;exact aku U y O M J
   ·split at h
    ·rename_i r J;injection h with h
     subst h;exact alI U y O M J
    ·exact alE U y O M h
end
section
variable [Low] {P:Program} {w w':World} {g g':G} {base:Nat} {σ:St} {a:Act}
theorem od{c:Bool}{x y:R}{key:Option Dom}{out:Nat × b8}(h:sv c x y=some (key,some out)):(c=true->∃k,x=some (k,some out))/\(c=false->∃k,y=some (k,some out)):=by
 unfold sv at h
 split at h
 ·split at h
  ·simp only[b7,j8] at h;obtain⟨_,h⟩:=h;cases c with
   | true=>exact⟨fun _=>⟨_,by rw[g6] at h;rw[h]⟩,fun h=>by cases h⟩
   | false=>exact⟨fun h=>(by cases h),fun _=>⟨_,by rw[f9] at h;rw[h]⟩⟩
  ·cases h
 ·cases h
theorem eM{c:Bool}{x:R}{key:Option Dom}{out:Nat × b8}(h:iE c x=some (key,some out)):c=true/\x=some (key,some out):=by
 unfold iE at h
 split at h
 ·simp only[b7,j8] at h;obtain⟨rfl,h⟩:=h;cases c with
  | true=>rw[g6] at h;subst h;exact⟨rfl,rfl⟩
  | false=>cases h
 ·cases h
theorem uc(M:Rel P w g base σ a){call:FuncId->List T->Option (T × Bool)}(O:av P call){o:Oper}{Y:St}(J:∀d,o.dst=some d->d<a.tmps.size)(h:Io P call σ o=some (Y,true)):BT P base Y o a w:=by
 obtain⟨dst,op,ty,a1,after,guard⟩:=o;unfold Io at h;simp only at h
 split at h
 ·exact (Zl M rfl rfl J h).goes
 ·exact (Yf M rfl rfl J h).goes
 ·exact (NA M rfl rfl J h).goes
 ·rename_i t n a0 d;cases W:sO call d with
  | false=>rw[W,f9] at h;exact (wx M rfl rfl J h).goes
  | true=>rw[W,g6] at h;exact (tZ M rfl rfl J h).goes
 ·exact (yX M rfl rfl J h).goes
 ·exact (ZA M rfl J h).goes
 ·exact (Yw M rfl rfl J h).goes
 ·rename_i xs ts d
  split at h
  ·rename_i x y t Z h1 h2;cases V:(t==Z) with
   | false=>rw[V] at h;cases h
   | true =>
    rw[V,g6] at h;have V:t=Z:=by simpa using V
    subst V;have e1:xs = #[x,y]:=by cases xs;simp_all
    have e2:ts = #[t,t]:=by cases ts;simp_all
    subst e1;subst e2;exact (Yp M rfl rfl J h).goes
  ·cases h
 ·rename_i f xs ts d
  split at h
  ·rename_i r U;injection h with h
   subst h;exact alr M O rfl J U
  ·split at h
   ·rename_i r U;injection h with h
    subst h;exact (Sa M O rfl rfl J U).goes
   ·split at h
    ·rename_i r U;injection h with h
     subst h;exact aiU M O rfl rfl J U
    ·split at h
     ·rename_i r U;injection h with h
      subst h;exact alt M O rfl rfl J U
     ·exact aly M O rfl rfl J h
 ·simp at h
 ·simp at h
 ·exact (aed M J h).goes
theorem aaX{ops:Array Oper}{tm:Array Value}{j t:Nat}(h:(ops[j]?).bind (·.dst)=some t)(y:t<tm.size):yielded ops tm j=match tm.getD t undef with | .bool b=>some b | _=>none:=by unfold yielded;rw[h];simp only[Option.bind_some,n8 y,A7,z6];cases tm[t] <;> rfl
theorem abU{prot:Nat->Nat}{x:D}{v:Value}(h:VD P w prot .bool x v):v=.bool x.bool:=by cases h;rfl
theorem zW(W:Rel P w g base σ a){ops:Array Oper}(M:∀o∈ops.toList,∀d,o.dst=some d->d<a.tmps.size){o:Oper} :
  match Mx ops σ o with
  | .yes=>Region.wanted o (yielded ops a.tmps)=true
  | .no=>Region.wanted o (yielded ops a.tmps)=false
  | .ask t g b=>t<a.tmps.size/\a.tmps.getD t undef=.bool g/\Region.wanted o (yielded ops a.tmps)=(g==b)
  | .bad=>True:=by
 unfold Mx Region.wanted;cases hg:o.guard with
 | none=>rfl
 | some q =>
  obtain⟨j,b⟩:=q;simp only;cases y:(ops[j]?).bind (·.dst) with
  | none=>trivial
  | some t =>
   simp only;have O:t<a.tmps.size:=by
    cases J:ops[j]? with
    | none=>rw[J] at y;cases y
    | some Y=>rw[J] at y;exact M Y (by simpa using C5 J) t y
   have U:=aaX (tm:=a.tmps) y O;have hv:=W.env t;rw[U];generalize cz t σ.e σ.r=v at *;obtain⟨sh,p⟩:=v;cases sh with
   | tup xs =>
    cases xs with
    | nil =>
     obtain⟨Z,h1,V,_⟩:=hv;have:Z = #[]:=by simpa using V
     subst this;simp only[h1];rfl
    | cons x xs=>trivial
   | one x=>cases x with
    | agg xs=>trivial
    | c x=>cases x with
     | kb c =>have hv:a.tmps.getD t undef=.bool c:=hv;simp only[hv];cases c <;> cases b <;> rfl
     | d s=>cases s with
      | bool =>have hv:VD P w g.prot .bool (gd p 0) (a.tmps.getD t undef):=hv;have hv:=abU hv;exact⟨O,hv,by rw[hv];cases (gd p 0).bool <;> cases b <;> rfl⟩
      | _=>trivial
     | _=>trivial
theorem PA{call:FuncId->List T->Option (T × Bool)}(U:av P call){ops:Array Oper}{k:St->R}{out:Nat × b8}{n:Nat}{Q:Exit->Act->World->Prop}{w0:World}
  (hk:∀O w' g' a' a3,k O=some (a3,some out)->Rel P w' g' base O a'->a'.tmps.size=n->Below base w0 w'->Q .normal a' w') :
  ∀(rest:List Oper) (σ:St) (w:World) (g:G) (a:Act) (key:Option Dom),(∀o∈rest,∀d,o.dst=some d->d<n)->(∀o∈ops.toList,∀d,o.dst=some d->d<n) ->
   wN P call ops rest σ k=some (key,some out)->Rel P w g base σ a->a.tmps.size=n->Below base w0 w->wpList P ops Q rest a w
 | [],σ,w,g,a,key,_,_,h,M,hn,hb=>hk σ w g a key h M hn hb
 | o::rest,σ,w,g,a,key,hrest,hops,h,M,hn,hb=>by
  have ih:=PA U (ops:=ops) (Q:=Q) (w0:=w0) hk rest;have J:∀d,o.dst=some d->d<a.tmps.size:=fun d J=>by rw[hn];exact hrest o (by simp) d J
  have a1:∀o∈ops.toList,∀d,o.dst=some d->d<a.tmps.size:=fun o W d J=>by rw[hn];exact hops o W d J
  -- the operation runs
  have yes:∀ {σ:St} {key:Option Dom},Rel P w g base σ a->II P call σ o (fun O=>wN P call ops rest O k)=some (key,some out)->o.wp P a w (wpList P ops Q rest) Q:=by
   intro σ key M h;unfold II at h
   split at h
   ·rename_i O ok he;obtain⟨a4,a0⟩:=eM h;subst a4;exact uc M U J he _ _ fun z w' g' y a5=>ih O w' g' _ key (fun o W=>hrest o (by simp[W])) hops a0 y (by rw[de];exact hn) (hb.trans a5)
   ·cases h
  -- it is passed iR
  have no:∀ {σ:St} {key:Option Dom},Rel P w g base σ a->wN P call ops rest (σ.put o.dst .none_) k=some (key,some out)->wpList P ops Q rest (a.put o.dst undef) w:=by intro σ key M h;exact ih _ w g _ key (fun o W=>hrest o (by simp[W])) hops h (M.put J (t:=.none_) ⟨#[],rfl,rfl,fun j x h=>by simp at h⟩) (by rw[de];exact hn) hb
  have hw:=zW M a1 (o:=o);unfold wN aaj sw at h;unfold wpList;cases hq:Mx ops σ o with
  | yes =>rw[hq] at h hw;simp only at h hw;rw[m6 hw];exact .inl (yes M h)
  | no =>rw[hq] at h hw;simp only at h hw;rw[j7 (by simp[hw])];exact no M h
  | ask t Z b =>
   rw[hq] at h hw;simp only at h hw;obtain⟨ht,hv,hw⟩:=hw;obtain⟨h1,Y⟩:=od h;have a2:∀c:Bool,Z=c->Rel P w g base (σ.put (some t) (.c (.kb c) D0)) a:=fun c hc=>by
    have:=M.put (dst:=some t) (fun d J=>by injection J with J;subst J;exact ht) (t:=.c (.kb c) D0) (v:=.bool Z) (by rw[hc];exact rfl);have e:a.put (some t) (.bool Z)=a:=by
     rw[<- hv];obtain⟨tm,df⟩:=a;simp only[Act.put]
     congr 1
     refine Array.ext_getElem? fun i=>?_
     rw[F3]
     split
     ·rename_i e;subst e;have V:t<tm.size:=ht
      first
       | exact (n8 V).symm
       | (rw[m6 V,A7,n8 V];rfl)
     ·rfl
    rwa [e] at this
   cases Z with
   | true =>
    obtain⟨k',h1⟩:=h1 rfl;have y:=a2 true rfl;cases b with
    | true =>rw[m6 (by rw[hw];rfl)];exact .inl (yes y h1)
    | false =>rw[j7 (by rw[hw];decide)];exact no y h1
   | false =>
    obtain⟨k',Y⟩:=Y rfl;have y:=a2 false rfl;cases b with
    | true =>rw[j7 (by rw[hw];decide)];exact no y Y
    | false =>rw[m6 (by rw[hw];rfl)];exact .inl (yes y Y)
  | bad=>rw[hq] at h;cases h
theorem qg(i:Nat)(v:T):∀(e:Env) (j:Nat),dL j (Df i v e)=if j=i then v else dL j e
 | [],j=>by
  by_cases h:j=i
  ·subst h;simp[Df,dL]
  ·simp only[Df,dL];rw[j7 h,show (j==i)=false from by simpa using h];rfl
 | (k,u)::e,j=>by
  unfold Df;by_cases hk:i=k
  ·subst hk;simp only[s9,g6,dL];by_cases h:j=i
   ·subst h;simp
   ·rw[j7 h,show (j==i)=false from by simpa using h];rfl
  ·rw[show (i==k)=false from by simpa using hk,f9];simp only[dL];rw[qg i v e j];by_cases h:j=k
   ·subst h;simp only[s9,g6];rw[j7 (fun e=>hk e.symm)]
   ·rw[show (j==k)=false from by simpa using h];rfl
theorem qR(i:Nat):∀(e:Env) (j:Nat),dL j (Nv i e)=if j=i then .any else dL j e
 | [],j=>by simp[Nv,dL]
 | (k,u)::e,j=>by
  unfold Nv;by_cases hk:i=k
  ·subst hk;simp only[s9,g6,dL];rw[qR i e j];by_cases h:j=i
   ·subst h;simp
   ·rw[j7 h,j7 h,show (j==i)=false from by simpa using h];rfl
  ·rw[show (i==k)=false from by simpa using hk,f9];simp only[dL];rw[qR i e j];by_cases h:j=k
   ·subst h;simp only[s9,g6];rw[j7 (fun e=>hk e.symm)]
   ·rw[show (j==k)=false from by simpa using h];rfl
theorem yw(ks:List Nat)(e:Env)(j:Nat):∀(r:Env),dL j (pB ks e r)=cz j e r\/dL j (pB ks e r)=.any
 | []=>.inl rfl
 | (i,v)::r=>by
  unfold pB cz;by_cases h:j=i
  ·subst h;cases ks.contains j with
   | true=>rw[g6,qg,m6 rfl];simp
   | false=>rw[f9,qR,m6 rfl];exact .inr rfl
  ·rw[show (j==i)=false from by simpa using h,f9];cases ks.contains i with
   | true=>rw[g6,qg,j7 h];exact yw ks e j r
   | false=>rw[f9,qR,j7 h];exact yw ks e j r
theorem adD{σ:St}(h:σ.r = [])(i:Nat):(σ.toData1 i).r = []:=by
 unfold St.toData1
 split
 ·show List.map _ σ.r = [];rw[h];rfl
 ·exact h
theorem PQ{σ:St}(h:σ.r = []):∀y:List Nat,(σ.toData y).r = []
 | []=>h
 | i::y=>adD (PQ h y) i
theorem Rel.toData1(U:Rel P w g base σ a)(W:σ.r = [])(i:Nat):∃g',Rel P w g' base (σ.toData1 i) a:=by
 unfold St.toData1
 split
 ·rename_i t x e hsh;have J:=U.seal [t];refine⟨bF g [t],fun j=>?_,J.box,J.fresh,J.base_le,J.defers,J.low,J.mine⟩;have M:(σ.map (fG [t])).r = []:=by show List.map _ σ.r = [];rw[W];rfl
  have y:=J.env j;change VT P w _ base (cz j (σ.map (fG [t])).e (σ.map (fG [t])).r) _ at y;rw[M] at y;show VT P w _ base (cz j (Df i _ (σ.map (fG [t])).e) (σ.map (fG [t])).r) _;rw[M];change VT P w _ base (dL j (σ.map (fG [t])).e) _ at y;show VT P w _ base (dL j (Df i _ (σ.map (fG [t])).e)) _;rw[qg];by_cases O:j=i
  ·subst O;rw[m6 rfl];have e1:dL j (σ.map (fG [t])).e=⟨(dL j σ.e).sh.map (fG [t]),(dL j σ.e).p⟩:=OG (fun V=>(⟨V.sh.map (fG [t]),V.p⟩:T)) (by simp[Sh.map,Sh1.map,fG]) σ.e j;rw[e1,hsh] at y;have y:VC P w (bF g [t]) base (.own t (x && !([t]:List Tok).contains t) e) (gd (dL j σ.e).p 0) (a.tmps.getD j undef):=y;have Z:(x && !([t]:List Tok).contains t)=false:=by simp
   rw[Z] at y;obtain⟨row,h1,Y⟩:=y;exact py h1 Y
  ·rw[j7 O];exact y
 ·exact⟨g,U⟩
theorem Rel.toData(M:Rel P w g base σ a)(J:σ.r = []):∀y:List Nat,∃g',Rel P w g' base (σ.toData y) a
 | []=>⟨g,M⟩
 | i::y=>by obtain⟨O,h1⟩:=Rel.toData M J y;exact h1.toData1 (PQ J y) i
def qL(g:G)(s s':Tok):G:=
 { g with owner:=fun b=>if g.owner b=some (.inr s) then some (.inr s') else if g.owner b=some (.inr s') then none else g.owner b,ρ:=fun u=>if u=s' then g.ρ s else g.ρ u,len:=fun u=>if u=s' then g.len s else g.len u,wid:=fun u=>if u=s' then g.wid s else g.wid u,ety:=fun u=>if u=s' then g.ety s else g.ety u }
theorem GB{s s' t:Tok}(J:t≠s)(y:t≠s'){b:Nat}(h:g.owner b=some (.inr t)):(qL g s s').owner b=some (.inr t):=by show (if g.owner b=some (.inr s) then _ else if g.owner b=some (.inr s') then _ else _)=_;rw[j7 (by rw[h];intro e;injection e with e;injection e with e;exact J e),j7 (by rw[h];intro e;injection e with e;injection e with e;exact y e),h]
theorem Lp{s s' t:Tok}(U:t≠s)(y:t≠s'){V:Bool}{e:TypeId}{row:List S}{rows:List b8}{v:Value}(h:dX P w g base t V e row rows v):dX P w (qL g s s') base t V e row rows v:=by
 have e1:(qL g s s').ρ t=g.ρ t:=j7 y;have e2:(qL g s s').len t=g.len t:=j7 y;have e3:(qL g s s').wid t=g.wid t:=j7 y;have e4:(qL g s s').ety t=g.ety t:=j7 y;rcases h with⟨M,h1,J⟩ | ⟨cap,arr,E,h1,J,h3,h4,h5,h6,h7,h8,h9,h10,h11⟩
 ·exact .inl ⟨M,by rw[e2];exact h1,J⟩
 ·refine .inr ⟨cap,arr,E,by rw[e1];exact h1,J,by rw[e4];exact h3,by rw[e1];exact h4,by rw[e1];exact GB U y h5,by rw[e1];exact h6,h7,by rw[e2];exact h8,by rw[e3];exact h9,by rw[e1,e2,e3];exact h10,fun i j z hi hz=>?_⟩;obtain⟨u,W,k2⟩:=h11 i j z hi hz;exact⟨u,W,k2.mono rfl (fun b o z h1 J=>⟨J,h1⟩) (fun _ b o M Y O Z=>⟨Z,M,GB U y Y,by rw[e1];exact O,rfl,rfl,id⟩)⟩
theorem Gb{s s':Tok}(J:s≠s')(W:bq s'=bq s){V:Bool}{e:TypeId}{row:List S}{rows:List b8}{v:Value}(h:dX P w g base s V e row rows v):dX P w (qL g s s') base s' V e row rows v:=by
 have e1:(qL g s s').ρ s'=g.ρ s:=m6 rfl;have e2:(qL g s s').len s'=g.len s:=m6 rfl;have e3:(qL g s s').wid s'=g.wid s:=m6 rfl;have e4:(qL g s s').ety s'=g.ety s:=m6 rfl;have O:∀ {b:Nat},g.owner b=some (.inr s)->(qL g s s').owner b=some (.inr s'):=fun h=>m6 h
 rcases h with⟨M,h1,y⟩ | ⟨cap,arr,E,h1,y,h3,h4,h5,h6,h7,h8,h9,h10,h11⟩
 ·exact .inl ⟨M,by rw[e2];exact h1,y⟩
 ·refine .inr ⟨cap,arr,E,by rw[e1];exact h1,y,by rw[e4];exact h3,by rw[e1];exact h4,by rw[e1];exact O h5,by rw[e1];exact h6,h7,by rw[e2];exact h8,by rw[e3];exact h9,by rw[e1,e2,e3];exact h10,fun i j z hi hz=>?_⟩;obtain⟨u,Y,k2⟩:=h11 i j z hi hz;exact⟨u,Y,k2.mono (by rw[W]) (fun b o z h1 y=>⟨y,h1⟩) (fun _ b o M U J Z=>⟨Z,M,O U,by rw[e1];exact J,rfl,rfl,id⟩)⟩
theorem ahG{s s':Tok}(W:s≠s')(Z:bq s'=bq s):jr P base g (qL g s s') w w (ajK s s'):=by
 intro c x v hv;cases c with
 | own t xm e =>
  obtain⟨row,hr,hv⟩:=hv;change VC P w _ base (bif t==s then .own s' xm e else bif t==s' then (bif xm then .any else .d (.sl e)) else .own t xm e) x v;by_cases M:t=s
  ·subst M;rw[show (t==t)=true from by simp,g6];exact⟨row,hr,Gb W Z hv⟩
  ·rw[show (t==s)=false from by simpa using M,f9];by_cases y:t=s'
   ·rw[show (t==s')=true from by simpa using y,g6];cases xm with
    | true=>trivial
    | false=>show VD P w g.prot (.sl e) x v;exact py hr hv
   ·rw[show (t==s')=false from by simpa using y,f9];exact⟨row,hr,Lp M y hv⟩
 | eptr tk e off =>
  cases tk with
  | none=>exact hv
  | some t =>
   change VC P w _ base (bif t==s then .eptr (some s') e off else bif t==s' then .any else .eptr (some t) e off) x v;obtain⟨row,h1,J,O,u,Y⟩:=hv;by_cases M:t=s
   ·subst M;rw[show (t==t)=true from by simp,g6];exact⟨row,h1,by rw[show (qL g t s').ρ s'=g.ρ t from m6 rfl];exact J,O,u,Gb W Z Y⟩
   ·rw[show (t==s)=false from by simpa using M,f9];by_cases y:t=s'
    ·rw[show (t==s')=true from by simpa using y];trivial
    ·rw[show (t==s')=false from by simpa using y,f9];exact⟨row,h1,by rw[show (qL g s s').ρ t=g.ρ t from j7 y];exact J,O,u,Lp M y Y⟩
 | inn t e off ei =>
  change VC P w _ base (bif t==s then .inn s' e off ei else bif t==s' then .any else .inn t e off ei) x v;by_cases M:t=s
  ·subst M;rw[show (t==t)=true from by simp,g6];obtain⟨row,h1,⟨u,h5⟩,⟨V,J,O,Y,U,E,h6,h7⟩ | ⟨V,J,O⟩⟩:=hv
   ·exact⟨row,h1,⟨u,Gb W Z h5⟩,.inl ⟨V,J,by rw[Z];exact O,Y,U,E,by rw[show (qL g t s').ρ s'=g.ρ t from m6 rfl];exact h6,h7⟩⟩
   ·exact⟨row,h1,⟨u,Gb W Z h5⟩,.inr ⟨V,J,by rw[show (qL g t s').ρ s'=g.ρ t from m6 rfl];exact O⟩⟩
  ·rw[show (t==s)=false from by simpa using M,f9];by_cases y:t=s'
   ·rw[show (t==s')=true from by simpa using y];trivial
   ·rw[show (t==s')=false from by simpa using y,f9];obtain⟨row,h1,⟨u,h5⟩,⟨V,J,O,Y,U,E,h6,h7⟩ | ⟨V,J,O⟩⟩:=hv
    ·exact⟨row,h1,⟨u,Lp M y h5⟩,.inl ⟨V,J,O,Y,U,E,by rw[show (qL g s s').ρ t=g.ρ t from j7 y];exact h6,h7⟩⟩
    ·exact⟨row,h1,⟨u,Lp M y h5⟩,.inr ⟨V,J,by rw[show (qL g s s').ρ t=g.ρ t from j7 y];exact O⟩⟩
 | fn f caps =>obtain⟨U,h1,J,O⟩:=hv;refine⟨U,h1,J,fun j c hc=>?_⟩;obtain⟨u,hu,a0⟩:=O j c hc;refine⟨u,hu,?_⟩;cases c <;> exact a0
 | _=>exact hv
theorem Rel.renTo(M:Rel P w g base σ a){s s':Tok}(a0:s≠s')(hp:s.1≠1000001)(W:s'.1≠1000001)(hd:bq s'=bq s):∃g',Rel P w g' base (σ.map (ajK s s')) a:=by
 have hk:=ahG (P:=P) (w:=w) (g:=g) (base:=base) a0 hd;have V:∀ {b:Nat},(∀t,g.owner b≠some (.inr t))->(qL g s s').owner b=g.owner b:=fun h=>by show (if _ then _ else if _ then _ else _)=_;rw[j7 (h s),j7 (h s')]
 refine⟨qL g s s',fun j=>M.envMap hk rfl j,fun id cs ds hl=>M.boxMap hk hl fun cs ds hq=>?_,fun b Z=>?_,M.base_le,M.defers,⟨M.low.1,fun b Z=>?_,fun t y hy=>?_⟩,fun b t ht J=>?_⟩
 ·obtain⟨O,U,_⟩:=M.box id cs ds hq;exact⟨rfl,V (fun t=>by rw[U];simp),rfl,rfl⟩
 ·obtain⟨O,U⟩:=M.fresh b Z;exact⟨O,by rw[V (fun t=>by rw[U];simp)];exact U⟩
 ·obtain⟨O,U,q3,q4⟩:=M.low.2.1 b Z;exact⟨by rw[V (fun t=>by rw[O];simp)];exact O,U,q3,q4⟩
 ·obtain⟨O,U,q3,q4⟩:=M.low.2.2 t y hy;have t1:t≠s:=fun e=>hp (by rw[<- e];exact O)
  have Y:t≠s':=fun e=>W (by rw[<- e];exact O)
  refine⟨O,(j7 Y:(qL g s s').ρ t=g.ρ t).trans U,(j7 Y:(qL g s s').len t=g.len t).trans q3,fun h0=>?_⟩;obtain⟨m1,m2⟩:=q4 h0;exact⟨GB t1 Y m1,m2⟩
 ·have t1:t≠s':=fun e=>W (by rw[<- e];exact ht)
  change (if g.owner b=some (.inr s) then some (Sum.inr s') else if g.owner b=some (.inr s') then none else g.owner b)=_ at J
  split at J
  ·injection J with J;injection J with J;exact absurd J.symm t1
  ·split at J
   ·cases J
   ·exact M.mine b t ht J
theorem Rel.rename1(y:Rel P w g base σ a)(i:Nat):∃g',Rel P w g' base (σ.rename1 i) a:=by
 unfold St.rename1
 split
 ·rename_i s x e hsh;cases M:(s != zd i s&&s.1 != 1000001&&Nat.blt i 1000000) with
  | false=>exact⟨g,y⟩
  | true =>
   rw[g6];simp only[a9] at M;obtain⟨⟨h1,W⟩,Y⟩:=M;have O:s≠zd i s:=by simpa using h1
   have V:s.1≠1000001:=by simpa using W
   have hi:i<1000000:=y9 Y;have U:bq (zd i s)=bq s:=by unfold zd bq;cases h:Nat.ble 1000000 s.2 <;> rfl
   have J:(zd i s).1≠1000001:=by show i≠1000001;omega
   exact y.renTo O V J U
 ·exact⟨g,y⟩
theorem Rel.renames(J:Rel P w g base σ a):∀y:List Nat,∃g',Rel P w g' base (σ.renames y) a
 | []=>⟨g,J⟩
 | i::y=>by obtain⟨M,h1⟩:=Rel.renames J y;exact h1.rename1 i
theorem aem{σ:St}(h:σ.r = [])(i:Nat):(σ.rename1 i).r = []:=by
 unfold St.rename1
 split
 ·rename_i s x e _;cases (s != zd i s&&s.1 != 1000001&&Nat.blt i 1000000) with
  | false=>exact h
  | true=>show List.map _ σ.r = [];rw[h];rfl
 ·exact h
theorem RU{σ:St}(h:σ.r = []):∀y:List Nat,(σ.renames y).r = []
 | []=>h
 | i::y=>aem (RU h y) i
theorem Rel.seal1(y:Rel P w g base σ a)(i:Nat):∃g',Rel P w g' base (σ.seal1 i) a:=by
 unfold St.seal1
 split
 ·rename_i s e _;exact⟨_,y.seal [s]⟩
 ·exact⟨g,y⟩
theorem Rel.seals(J:Rel P w g base σ a):∀y:List Nat,∃g',Rel P w g' base (σ.seals y) a
 | []=>⟨g,J⟩
 | i::y=>by obtain⟨M,h1⟩:=Rel.seals J y;exact h1.seal1 i
theorem akt{σ:St}(h:σ.r = [])(i:Nat):(σ.seal1 i).r = []:=by
 unfold St.seal1
 split
 ·show List.map _ σ.r = [];rw[h];rfl
 ·exact h
theorem abP{σ:St}(h:σ.r = []):∀y:List Nat,(σ.seals y).r = []
 | []=>h
 | i::y=>akt (abP h y) i
theorem Rel.renBox(t:Nat):∀(cs:List Ce) (k:Nat) {σ:St} {g:G},Rel P w g base σ a->∃g',Rel P w g' base (renBox t k cs σ) a
 | [],k,σ,g,hr=>⟨g,hr⟩
 | c::cs,k,σ,g,hr=>by
  have key:∃y J,Go.Proofs.YtpdfmcmnjikppaaGreat.renBox t k (c::cs) σ=Go.Proofs.YtpdfmcmnjikppaaGreat.renBox t (k+1) cs y/\Rel P w J base y a:=by
   cases c with
   | own s x e =>
    cases M:(s != pa t k s&&s.1 != 1000001&&Nat.blt t 1000000&&bq (pa t k s)==bq s) with
    | false=>exact⟨σ,g,by show Go.Proofs.YtpdfmcmnjikppaaGreat.renBox t (k+1) cs (bif (s != pa t k s&&s.1 != 1000001&&Nat.blt t 1000000&&bq (pa t k s)==bq s) then _ else _)=_;rw[M];rfl,hr⟩
    | true =>have O:=M;simp only[a9] at M;obtain⟨⟨⟨h1,U⟩,V⟩,Y⟩:=M;have hi:t<1000000:=y9 V;obtain⟨J,W⟩:=hr.renTo (s:=s) (s':=pa t k s) (by simpa using h1) (by simpa using U) (by show t≠1000001;omega) (by simpa using Y);exact⟨_,J,by show Go.Proofs.YtpdfmcmnjikppaaGreat.renBox t (k+1) cs (bif (s != pa t k s&&s.1 != 1000001&&Nat.blt t 1000000&&bq (pa t k s)==bq s) then _ else _)=_;rw[O];rfl,W⟩
   | _=>exact⟨σ,g,rfl,hr⟩
  obtain⟨y,J,e,h1⟩:=key;rw[e];exact Rel.renBox t cs (k+1) h1
theorem Rel.renBox1(y:Rel P w g base σ a)(t:Nat):∃g',Rel P w g' base (σ.renBox1 t) a:=by
 unfold St.renBox1
 split
 ·exact Rel.renBox t _ 0 y
 ·exact⟨g,y⟩
theorem Rel.renBoxes(J:Rel P w g base σ a):∀y:List Nat,∃g',Rel P w g' base (σ.renBoxes y) a
 | []=>⟨g,J⟩
 | i::y=>by obtain⟨M,h1⟩:=Rel.renBoxes J y;exact h1.renBox1 i
theorem Wb(t:Nat):∀(cs:List Ce) (k:Nat) {σ:St},σ.r = []->(renBox t k cs σ).r = []
 | [],k,σ,h=>h
 | c::cs,k,σ,h=>by
  have key:∃y:St,renBox t k (c::cs) σ=renBox t (k+1) cs y/\y.r = []:=by
   cases c with
   | own s x e =>
    refine⟨_,rfl,?_⟩;cases (s != pa t k s&&s.1 != 1000001&&Nat.blt t 1000000&&bq (pa t k s)==bq s) with
    | false=>exact h
    | true=>show List.map _ σ.r = [];rw[h];rfl
   | _=>exact⟨σ,rfl,h⟩
  obtain⟨y,e,h1⟩:=key;rw[e];exact Wb t cs (k+1) h1
theorem BG{σ:St}(h:σ.r = []):∀y:List Nat,(σ.renBoxes y).r = []
 | []=>h
 | i::y=>by
  show (St.renBox1 i (σ.renBoxes y)).r = [];unfold St.renBox1
  split
  ·exact Wb i _ 0 (BG h y)
  ·exact BG h y
theorem Ol(σ:St)(ks:List Nat):(σ.settle ks).r = []:=BG (abP (RU (PQ rfl _) _) _) _
theorem Rel.settle(y:Rel P w g base σ a)(ks:List Nat):∃g',Rel P w g' base (σ.settle ks) a:=by
 have M:∃g',Rel P w g' base (St.toData (Lk ks) ⟨[],pB ks σ.e σ.r,σ.h⟩) a:=by
  refine Rel.toData (g:=g) (σ:=⟨[],pB ks σ.e σ.r,σ.h⟩) ?_ rfl _;refine⟨fun i=>?_,y.box,y.fresh,y.base_le,y.defers,y.low,y.mine⟩;show VT P w g base (dL i (pB ks σ.e σ.r)) _;rcases yw ks σ.e i σ.r with h | h
  ·rw[h];exact y.env i
  ·rw[h];trivial
 obtain⟨V,h1⟩:=M;obtain⟨U,J⟩:=h1.renames (Uh ks);obtain⟨W,O⟩:=J.seals (Ls ks);exact O.renBoxes _
theorem Gc(j:Nat):∀(ds:List Nat) (e:Env),dL j (jw ds e)=dL j e\/dL j (jw ds e)=.any
 | [],_=>.inl rfl
 | i::ds,e=>by
  unfold jw;rw[qR];by_cases h:j=i
  ·rw[m6 h];exact .inr rfl
  ·rw[j7 h];exact Gc j ds e
theorem nC(j:Nat)(ds:List Nat)(e:Env):∀(r:Env),cz j (jw ds e) r=cz j e r\/cz j (jw ds e) r=.any
 | []=>Gc j ds e
 | (i,v)::r=>by
  unfold cz;cases (j==i) with
  | true=>exact .inl rfl
  | false=>exact nC j ds e r
theorem NM(i:Nat)(v:T)(e:Env)(j:Nat):∀(r:Env),cz j (Df i v e) r=cz j e r\/(j=i/\cz j (Df i v e) r=v)
 | []=>by
  show dL j (Df i v e)=dL j e\/_;rw[qg];by_cases h:j=i
  ·rw[m6 h];exact .inr ⟨h,by show dL j (Df i v e)=v;rw[qg,m6 h]⟩
  ·rw[j7 h];exact .inl rfl
 | (k,u)::r=>by
  unfold cz;cases (j==k) with
  | true=>exact .inl rfl
  | false=>exact NM i v e j r
theorem Rel.learn(y:Rel P w g base σ a){ks:List Nat}{c:Operand}{b:Bool}(hc:a.eval c=.bool b):Rel P w g base (σ.learn ks c b) a:=by
 unfold St.learn
 split
 ·rename_i i;cases ks.contains (9000000+i) with
  | false=>exact y
  | true =>
   refine⟨fun j=>?_,y.box,y.fresh,y.base_le,y.defers,y.low,y.mine⟩;show VT P w g base (cz j (Df i _ σ.e) σ.r) _;rcases NM i (.c (.kb b) D0) σ.e j σ.r with h | ⟨h1,h2⟩
   ·rw[h];exact y.env j
   ·rw[h2];subst h1;exact hc
 ·exact y
theorem Rel.shed(y:Rel P w g base σ a)(ks:List Nat)(c:Code):Rel P w g base (σ.shed ks c) a:=by
 unfold St.shed;cases acZ c with
 | false=>exact y
 | true =>
  refine⟨fun i=>?_,y.box,y.fresh,y.base_le,y.defers,y.low,y.mine⟩;show VT P w g base (cz i (jw (pI ks) σ.e) σ.r) _;rcases nC i (pI ks) σ.e σ.r with h | h
  ·rw[h];exact y.env i
  ·rw[h];trivial
theorem Bi(e:Env)(j:Nat):∀(dom:List Nat),dL j (qb dom e)=dL j e\/dL j (qb dom e)=.any
 | []=>.inr rfl
 | i::dom=>by
  show dL j ((i,dL i e)::qb dom e)=_\/dL j ((i,dL i e)::qb dom e)=_;simp only[dL];by_cases h:j=i
  ·subst h;left;simp only[s9,g6]
  ·rw[show (j==i)=false from by simpa using h];simp only[f9];exact Bi e j dom
theorem pN(q:Nat->Bool)(i:Nat):∀(h:ul),bS i (h.filter fun p=>q p.1)=if q i=true then bS i h else none
 | []=>by simp[bS]
 | (j,v)::h=>by
  rw[C6];by_cases y:q j=true
  ·rw[m6 y];simp only[bS];rw[pN q i h];by_cases e:i=j
   ·subst e;simp[y]
   ·rw[show (i==j)=false from by simpa using e];rfl
  ·rw[j7 y,pN q i h];by_cases e:i=j
   ·subst e;rw[j7 y,j7 y]
   ·simp only[bS];rw[show (i==j)=false from by simpa using e];rfl
theorem Rel.restrictD(y:Rel P w g base σ a)(J:σ.r = [])(d:Dom):Rel P w g base (restrictD d σ) a:=by
 refine⟨fun i=>?_,fun id cs ds h=>?_,y.fresh,y.base_le,y.defers,y.low,y.mine⟩
 ·show VT P w g base (dL i (qb _ σ.e)) _;rcases Bi σ.e i (d.1.map (·.1)) with h | h
  ·rw[h];have:=y.env i;rw[J] at this;exact this
  ·rw[h];trivial
 ·have e:=pN (fun i=>(d.2.map (·.1)).contains i) id σ.h;change bS id (Go.Proofs.YtpdfmcmnjikppaaGreat.restrictD d σ).h=_ at e;rw[h] at e
  split at e
  ·exact y.box id cs ds e.symm
  ·cases e
theorem yO(σ:St)(j:Nat):∀(dom:List Nat),dL j (dom.map fun i=>(i,cz i σ.e σ.r))=cz j σ.e σ.r\/dL j (dom.map fun i=>(i,cz i σ.e σ.r))=.any
 | []=>.inr rfl
 | i::dom=>by
  simp only[w8,dL];by_cases h:j=i
  ·subst h;left;simp only[s9,g6]
  ·rw[show (j==i)=false from by simpa using h];simp only[f9];exact yO σ j dom
theorem Rel.restrict(J:Rel P w g base σ a)(y:St):Rel P w g base (y.restrict σ) a:=by
 refine⟨fun i=>?_,fun id cs ds h=>?_,J.fresh,J.base_le,J.defers,J.low,J.mine⟩
 ·show VT P w g base (dL i ((y.e.map (·.1)).map fun i=>(i,cz i σ.e σ.r))) _;rcases yO σ i (y.e.map (·.1)) with h | h
  ·rw[h];exact J.env i
  ·rw[h];trivial
 ·have e:=pN (fun i=>(y.h.map (·.1)).contains i) id σ.h;change bS id (y.restrict σ).h=_ at e;rw[h] at e
  split at e
  ·exact J.box id cs ds e.symm
  ·cases e
theorem Rv{p q:b8}:∀(n o y:Nat),(∀j,j<n->gd p (o+j)=gd q (y+j))->sub p o n=sub q y n
 | 0,_,_,_=>rfl
 | n+1,o,y,h=>by rw[sub,sub,show gd p o=gd q y from by simpa using h 0 (by omega),Rv n (o+1) (y+1) (fun j J=>by have:=h (j+1) (by omega);rw[show o+1+j=o+(j+1) from by omega,show y+1+j=y+(j+1) from by omega];exact this)]
theorem acw:∀(xs:List Sh1) (j:Nat) x,xs[j]?=some x->tg xs j+x.size<=xs.foldr (fun s n=>s.size+n) 0
 | [],j,x,h=>by simp at h
 | y::xs,0,x,h=>by simp only[p9,b7] at h;subst h;simp[tg]
 | y::xs,j+1,x,h=>by have:=acw xs j x (by simpa using h);simp only[tg,F5,O1] at this ⊢;omega
theorem SU{cs:List Ce}{p q:b8}{y:Array Value}(h:∀j,j<cs.length->gd p j=gd q j)(hv:VCs P w g base cs p y):VCs P w g base cs q y:=by refine⟨hv.1,fun j c J=>?_⟩;obtain⟨u,h1,M⟩:=hv.2 j c J;exact⟨u,h1,by rw[<- h j (g7.1 J).1];exact M⟩
theorem oH{x:Sh1}{p q:b8}{v:Value}(h:∀j,j<x.size->gd p j=gd q j)(hv:V1 P w g base x p v):V1 P w g base x q v:=by
 cases x with
 | c x=>show VC P w g base x (gd q 0) v;rw[<- h 0 (by simp[Sh1.size])];exact hv
 | agg xs=>obtain⟨y,h1,J⟩:=hv;exact⟨y,h1,SU h J⟩
theorem aik{s:Sh}{p q:b8}{v:Value}(h:∀j,j<s.size->gd p j=gd q j)(hv:VS P w g base s p v):VS P w g base s q v:=by
 cases s with
 | one x=>exact oH h hv
 | tup xs =>obtain⟨V,h1,M,O⟩:=hv;refine⟨V,h1,M,fun j x y=>?_⟩;obtain⟨u,J,U⟩:=O j x y;refine⟨u,J,?_⟩;have W:=acw xs j x y;rw[<- Rv x.size (tg xs j) (tg xs j) (fun i hi=>h _ (by simp only[Sh.size];omega))];exact U
def oz(e:Env):b8:=e.flatMap fun p=>sub p.2.p 0 p.2.sh.size
def AQ(h:ul):b8:=h.flatMap fun p=>sub p.2.2 0 p.2.1.length
theorem agA(y xs post:b8)(j:Nat)(h:j<xs.length):gd (y++xs++post) (y.length+j)=gd xs j:=by unfold gd;rw[g4,g4,z9 (by simp;omega),C3 (by omega)];simp
theorem afN:∀(e:Env) (y post:b8),(mkE (e.map fun p=>(p.1,p.2.sh)) (y++oz e++post) y.length).2=y.length+(oz e).length /\
  ∀i v,VT P w g base (dL i e) v->VT P w g base (dL i (mkE (e.map fun p=>(p.1,p.2.sh)) (y++oz e++post) y.length).1) v
 | [],y,post=>⟨by simp[mkE,oz],fun i v h=>h⟩
 | (k,t)::e,y,post=>by
  have M:(sub t.p 0 t.sh.size).length=t.sh.size:=fB _ _ _;have W:y++oz ((k,t)::e)++post=(y++sub t.p 0 t.sh.size)++oz e++post:=by simp[oz,C0]
  obtain⟨O,U⟩:=afN e (y++sub t.p 0 t.sh.size) post;have hl:(y++sub t.p 0 t.sh.size).length=y.length+t.sh.size:=by rw[i6,M]
  rw[hl,<- W] at O U;have V:(oz ((k,t)::e)).length=t.sh.size+(oz e).length:=by simp[oz,M]
  refine⟨?_,fun i v h=>?_⟩
  ·simp only[w8,mkE];rw[O,V];omega
  ·simp only[w8,mkE,dL];unfold dL at h;by_cases hi:i=k
   ·subst hi;simp only[s9,g6] at h ⊢;refine aik (fun j J=>?_) h;have J:j<t.sh.size:=J;have e1:y++oz ((i,t)::e)++post=y++sub t.p 0 t.sh.size++(oz e++post):=by simp[oz,C0]
    show gd t.p j=gd (sub (y++oz ((i,t)::e)++post) y.length t.sh.size) j;rw[fY _ _ _ _ J,e1,agA _ _ _ _ (by rw[M];exact J),fY _ _ _ _ J,m0]
   ·rw[show (i==k)=false from by simpa using hi,f9] at h ⊢;exact U i v h
theorem ahE:∀(h:ul) (y post:b8) (i:Nat) cs ds,bS i (mkH (h.map fun p=>(p.1,p.2.1)) (y++AQ h++post) y.length)=some (cs,ds)->∃J,bS i h=some (cs,J)/\ds.length=cs.length/\∀j,j<cs.length->gd J j=gd ds j
 | [],y,post,i,cs,ds,h=>by simp[mkH,bS] at h
 | (k,c,d)::r,y,post,i,cs,ds,h=>by
  have O:(sub d 0 c.length).length=c.length:=fB _ _ _;have U:y++AQ ((k,c,d)::r)++post=(y++sub d 0 c.length)++AQ r++post:=by simp[AQ,C0]
  simp only[w8,mkH,bS] at h ⊢;by_cases hi:i=k
  ·subst hi;simp only[s9,g6,b7,j8] at h ⊢;obtain⟨rfl,rfl⟩:=h;refine⟨d,⟨rfl,rfl⟩,fB _ _ _,fun j M=>?_⟩;have e1:y++AQ ((i,c,d)::r)++post=y++sub d 0 c.length++(AQ r++post):=by simp[AQ,C0]
   rw[fY _ _ _ _ M,e1,agA _ _ _ _ (by rw[O];exact M),fY _ _ _ _ M,m0]
  ·rw[show (i==k)=false from by simpa using hi,f9] at h ⊢;rw[U,show y.length+c.length=(y++sub d 0 c.length).length from by rw[i6,O]] at h;exact ahE r _ post i cs ds h
theorem Rel.mkSt(y:Rel P w g base σ a)(O:σ.r = []):Rel P w g base (mkSt σ.dom σ.flat) a:=by
 have e1:=afN (P:=P) (w:=w) (g:=g) (base:=base) σ.e [] (AQ σ.h);simp only[F0,z8,m0] at e1;refine⟨fun i=>?_,fun id cs ds h=>?_,y.fresh,y.base_le,y.defers,y.low,y.mine⟩
 ·refine e1.2 i _ ?_;have:=y.env i;rw[O] at this;exact this
 ·have h:bS id (mkH (σ.h.map fun p=>(p.1,p.2.1)) (oz σ.e++AQ σ.h) (mkE (σ.e.map fun p=>(p.1,p.2.sh)) (oz σ.e++AQ σ.h) 0).2)=some (cs,ds):=h;rw[e1.1] at h;have:=ahE σ.h (oz σ.e) [] id cs ds (by rw[D9];exact h);obtain⟨J,h1,V,W⟩:=this;obtain⟨U,Y,Z,kl,M,E,k4,k5⟩:=y.box id cs J h1;exact⟨U,Y,Z,V,M,E,k4,SU W k5⟩
end
end Go.Proofs.YtpdfmcmnjikppaaGreat
