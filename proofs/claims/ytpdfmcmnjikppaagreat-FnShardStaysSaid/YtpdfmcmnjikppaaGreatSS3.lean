/-
 Texts of the proof,put together: part 3.
-/
import Derived.Test.YtpdfmcmnjikppaaGreatSS1
import Derived.Test.YtpdfmcmnjikppaaGreatSS2
import Derived.Deep.LoopGhost
set_option linter.unusedSimpArgs false
set_option linter.unusedVariables false
set_option linter.unusedSectionVars false
namespace Go.Proofs.YtpdfmcmnjikppaaGreat
abbrev y4:=@List.mem_map
abbrev y5:=@Nat.zero_le
abbrev A8:=@Array.mem_of_getElem?
abbrev B0:=@List.filter_cons
abbrev C7:=@List.nil_append
abbrev G0:=@List.mem_of_find?_eq_some
abbrev I4:=@List.getElem?_take_of_lt
abbrev K3:=@Bool.or_true
abbrev L6:=@Bool.true_or
abbrev M9:=@List.mem_cons_of_mem
end Go.Proofs.YtpdfmcmnjikppaaGreat
namespace Go.Proofs.YtpdfmcmnjikppaaGreat
open Go.RowKit
def g0(n:Nat)(prot:Nat->Nat):G:=⟨prot,fun _=>none,fun _=>0,fun _=>0,fun _=>0,fun _=>0,fun _=>0,fun _ => [],fun _=>0,fun b=>b<n⟩
structure Res(P:Program)(prot:Nat->Nat)(w w':World)(r:T)(v:Value)(g':G):Prop where
 below:Below w.heap.size w w'
 val:VT P w' g' w.heap.size r v
 prot:∀b,b<w.heap.size->g'.prot b=prot b
 fresh:∀b,w'.heap.size<=b->g'.prot b=0/\g'.owner b=none
def ka(P:Program)(prot:Nat->Nat)(w:World)(args:List T)(J:Array Value):Prop:=
 J.size=args.length/\∀(j:Nat) t,args[j]?=some t->∃u,J[j]?=some u/\VT P w (g0 w.heap.size prot) w.heap.size t u
def amP(sh:Sh)(v:Value):Value:=
 match sh with
 | .tup [.c _]=>.tuple #[]
 | _=>v
structure alB(b:Nat)(e:TypeId)(arr:Array Value)(rows:List b8)(w w':World):Prop where
 below:Below 0 w w'
 other:∀k,k<w.heap.size->k≠b->w'.heap[k]?=w.heap[k]?
 row:∃arr',w'.heap[b]?=some (.cells arr' e (0,0))/\arr'.size=arr.size/\∀i,i<rows.length->arr'[i]?=some (.int .i64 (rows.getD i [] 0).int)
def Yd(P:Program)(f:FuncId)(args:List T)(r:T):Prop:=
 (∀O w,(callFunc f O).run P w=.ok (.enter f O) w) /\
 ∀(e:TypeId) (x:D),args = [.c (.d (.sl e)) x]->bk P e=some [.int .i64] ->
  (x.rows = []->(r.p 0).rows = []/\∀(A:Option Addr) (w:World),Calls P f #[.slice A 0 0] w fun ex w'=>ex=.returned (amP r.sh (.slice A 0 0))/\Below w.heap.size w w') /\
  ∀(w:World) (b cap:Nat) (J:Array Value),w.heap[b]?=some (.cells J e (0,0))->J.size=cap->x.rows.length<=cap->cap<=9223372036854775807->(∀i,i<x.rows.length->J[i]?=some (.int .i64 (x.rows.getD i [] 0).int)) ->
   (r.p 0).rows.length<=x.rows.length/\((∃c,r.sh=.tup [.c c])->(r.p 0).rows.length=x.rows.length) /\
   Calls P f #[.slice (some ⟨b,0,none⟩) x.rows.length cap] w fun ex w'=>ex=.returned (amP r.sh (.slice (some ⟨b,0,none⟩) (r.p 0).rows.length cap))/\alB b e J (r.p 0).rows w w'
def FV:S->D->Value->Prop
 | .int k,d,v=>v=.int k d.int
 | .bool,d,v=>v=.bool d.bool
 | .str,d,v=>v=.string (bsv d.str)
 | .sl _,_,_=>False
 | .opq,_,_=>False
theorem FV.vd{P:Program}{w:World}{prot:Nat->Nat}{s:S}{d:D}{v:Value}(h:FV s d v):VD P w prot s d v:=by
 cases s with
 | int k=>cases h;exact .int k d
 | bool=>cases h;exact .bool d
 | str=>cases h;exact .str d
 | sl e=>cases h
 | opq=>cases h
theorem VD.fv{P:Program}{w:World}{prot:Nat->Nat}{s:S}{d:D}{v:Value}(h:VD P w prot s d v)(hs:s.flat=true):FV s d v:=by
 cases h with
 | int k d=>rfl
 | bool d=>rfl
 | str d=>rfl
 | sl=>simp[S.flat] at hs
 | opq=>simp[S.flat] at hs
def dg(w:World)(e:TypeId)(row:List S)(rows:List b8)(v:Value)(B:Option Nat):Prop:=
 (B=none/\rows = []/\∃A,v=.slice A 0 0) \/
 ∃(b cap:Nat) (J:Array Value),B=some b/\v=.slice (some ⟨b,0,none⟩) rows.length cap/\rows.length<=cap/\cap<=9223372036854775807/\w.heap[b]?=some (.cells J e (0,0))/\J.size=cap*row.length /\
  ∀i j s,i<rows.length->row[j]?=some s->∃u,J[i*row.length+j]?=some u/\FV s (rows.getD i [] j) u
structure aI(w w':World)(B:Option Nat):Prop where
 os:w'.os=w.os
 tape:w'.tape=w.tape
 output:w'.output=w.output
 size:w.heap.size<=w'.heap.size
 other:∀k,k<w.heap.size->B≠some k->w'.heap[k]?=w.heap[k]?
theorem aI.refl(w:World)(B:Option Nat):aI w w B:=⟨rfl,rfl,rfl,g8 _,fun _ _ _=>rfl⟩
theorem aI.trans{w w' U:World}{B V:Option Nat}(h:aI w w' B)(J:aI w' U V)(Y:∀b,V=some b->B=some b\/w.heap.size<=b):aI w U B:=
 ⟨J.os.trans h.os,J.tape.trans h.tape,J.output.trans h.output,o8 h.size J.size,fun k hk O=>by rw[J.other k (y8 hk h.size) (fun e=>by rcases Y k e with h1 | h1 <;> first | exact O h1 | omega)];exact h.other k hk O⟩
theorem aI.of_below{w w':World}(B:Option Nat)(h:Below w.heap.size w w'):aI w w' B:=⟨h.os,h.tape,h.output,h.size,fun k hk _=>h.block k hk⟩
def Zc(P:Program)(f:FuncId)(args:List T)(r:T):Prop:=
 (∀J w,(callFunc f J).run P w=.ok (.enter f J) w) /\
 ∀(e:TypeId) (x:D) (rest:List T) (row:List S),args=.c (.d (.sl e)) x::rest->bk P e=some row->row.all S.flat=true ->
  ∀(w:World) (prot:Nat->Nat) (u:Value) (B:Option Nat) (J:Array Value),dg w e row x.rows u B->(∀b,B=some b->prot b=0)->(∀b,w.heap.size<=b->prot b=0) ->
   (∀O,aI w O B->ka P prot O rest J) ->
   (r.sh.isKo=true->∀(j:Nat) A n cap,J[j]?=some (.slice A n cap)->0<n->∃b Y E,A=some ⟨b,0,none⟩/\w.heap[b]?=some (.cells Y E (0,0))) ->
   Calls P f (#[u]++J) w fun ex w'=>∃V U,ex=.returned V/\aI w w' B/\dg w' e row (r.p 0).rows V U/\∀b,U=some b->B=some b\/w.heap.size<=b
def acI(w:World)(e:TypeId)(m n:Nat)(cs:List Value)(u:Value)(B:Option Nat):Prop:=cs.length=n*m/\(∀v∈cs,v.oneCell'=true)/\((B=none/\n=0/\∃A,u=.slice A 0 0) \/
 ∃(b cap:Nat) (J:Array Value),B=some b/\u=.slice (some ⟨b,0,none⟩) n cap/\n<=cap/\cap<=9223372036854775807/\w.heap[b]?=some (.cells J e (0,0))/\J.size=cap*m/\∀(k:Nat) v,cs[k]?=some v->J[k]?=some v)
def kp(m:Nat)(cs:List Value):List Nat->List Value
 | [] => []
 | k::sel=>(cs.drop (k*m)).take m++kp m cs sel
def yR(z:T):List b8:=
 match z.sh with
 | .one (.c (.d (.sl _)))=>(z.p 0).rows
 | _ => []
def SF(P:Program)(f:FuncId)(args:List T)(r:T):Prop:=
 (∀V w,(callFunc f V).run P w=.ok (.enter f V) w) /\
 ∀(e:TypeId) (x n:D) (z:T) (row:List S),args = [.c (.d (.sl e)) x,.c (.d (.int .i64)) n,z]->bk P e=some row ->
  ∃J:List Nat,J.Nodup/\(∀k∈J,k<(x.rows++yR z).length)/\(r.p 0).rows=J.map (fun k=>(x.rows++yR z).getD k []) /\
  ∀(w:World) (u v:Value) (B B2:Option Nat) (cs cs2:List Value),acI w e row.length x.rows.length cs u B->(∀b,B=some b->B2=some b->False) ->
   ((z.sh=.one (.c (.d (.int .i64)))/\v=.int .i64 (z.p 0).int/\cs2 = [])\/(z.sh=.one (.c (.d (.sl e)))/\acI w e row.length (yR z).length cs2 v B2)) ->
   Calls P f #[u,.int .i64 n.int,v] w fun ex w'=>∃U O,ex=.returned U/\aI w w' B/\acI w' e row.length J.length (kp row.length (cs++cs2) J) U O/\∀b,O=some b->B=some b\/w.heap.size<=b
def Yw(P:Program)(f:FuncId)(args:List T)(r:T):Prop:=
 (∀U w,(callFunc f U).run P w=.ok (.enter f U) w) /\
 (∀cs:List Ce,r.sh=.tup [.agg (.any::.any::.any::.any::cs)]->∀(w:World) (prot:Nat->Nat) (U:Array Value),ka P prot w args U->(∀b,w.heap.size<=b->prot b=0) ->
  Calls P f U w fun e w'=>∃(b:Nat) (J:Nat->Nat),e=.returned (.pointer (some ⟨b,0,none⟩))/\Below w.heap.size w w'/\w.heap.size<=b/\(∀k,k<w.heap.size->J k=prot k)/\J b=0/\(∀k,w'.heap.size<=k->J k=0) /\
   ∃O E,w'.heap[b]?=some (.cells O E (0,0))/\O.size=cs.length/\∀(j:Nat) s,cs[j]?=some (.d s)->∃u,O[j]?=some u/\VD P w' J s (r.p j) u) /\
 ∀cs:List Ce,r.sh=.tup [.agg (.kb false::.any::.any::.any::cs)]->∀(w:World) (prot:Nat->Nat) (U:Array Value),ka P prot w args U->(∀b,w.heap.size<=b->prot b=0) ->
  Calls P f U w fun e w'=>∃(us:Array Value) (J:Nat->Nat),e=.returned (.agg us)/\Below w.heap.size w w'/\(∀k,k<w.heap.size->J k=prot k)/\(∀k,w'.heap.size<=k->J k=0)/\us.size=cs.length /\
   ∀(j:Nat) c,cs[j]?=some c->∃u,us[j]?=some u/\((∃s,c=.d s/\VD P w' J s (r.p j) u)\/(c=.any/\∃O,U[0]?=some (.agg O)/\O[j]?=some u))
structure ahT(w w':World)(lab:Nat->List (Nat × Nat)->Nat->Prop):Prop where
 os:w'.os=w.os
 tape:w'.tape=w.tape
 output:w'.output=w.output
 size:w.heap.size<=w'.heap.size
 other:∀k,k<w.heap.size->(∀π n,¬lab k π n)->w'.heap[k]?=w.heap[k]?
def TRs(P:Program)(w:World)(lab:Nat->List (Nat × Nat)->Nat->Prop)(J:List S)(ds:b8)(us:Array Value):Prop:=
 us.size=J.length/\∀(j:Nat) s,J[j]?=some s->∃z,us[j]?=some z/\TR P w lab [(0,j)] s (ds j) z
def agM(P:Program)(f:FuncId)(args:List T)(r:T):Prop:=
 (∀Y w,(callFunc f Y).run P w=.ok (.enter f Y) w) /\
 ∀(q:T) (V:D) (J:List S),args = [q,.c (.d (.int .i64)) V] ->
  ∀(w:World) (lab:Nat->List (Nat × Nat)->Nat->Prop) (u:Value) (us:Array Value),((∃s d,q=.c (.d s) d/\J = [s]/\us = #[u])\/(∃ds,q=⟨.one (.agg (J.map .d)),ds⟩/\u=.agg us))->TRs P w lab J q.p us ->
   (∀b π O n U,lab b π n->lab b O U->π=O/\n=U) ->
   Calls P f #[u,.int .i64 V.int] w fun ex w'=>ex=.returned (.int .i64 (r.p 0).int)/\ahT w w' lab/\TRs P w' lab J r.p.tail us
structure afo(P:Program)(w:World)(g:G)(b:Nat)(cs:List Ce)(ds:b8)(args:List T)(vs:Array Value):Prop where
 box:g.θ 1000000=b
 owner:g.owner b=some (.inl 1000000)
 prot:g.prot b=0
 cells:∃arr E,w.heap[b]?=some (.cells arr E (0,0))/\VCs P w g 0 cs ds arr
 fresh:∀k,w.heap.size<=k->g.prot k=0/\g.owner k=none
 old:∀k,g.old k->g.owner k=none/\k<w.heap.size
 size:vs.size=args.length
 args:∀(j:Nat) t,args[j]?=some t->∃u,vs[j]?=some u/\VT P w g 0 t u
structure amM(P:Program)(w w':World)(g g':G)(b:Nat)(cs:List Ce)(res:List Sh1)(p:b8)(v:Value):Prop where
 os:w'.os=w.os
 tape:w'.tape=w.tape
 output:w'.output=w.output
 size:w.heap.size<=w'.heap.size
 old:∀k,g.old k->w'.heap[k]?=w.heap[k]?/\g'.prot k=g.prot k/\g'.owner k=none
 fresh:∀k,w'.heap.size<=k->g'.prot k=0/\g'.owner k=none
 boxo:g'.prot b=0/\∀t,g'.owner b≠some (.inr t)
 cells:∃arr E,w'.heap[b]?=some (.cells arr E (0,0))/\VCs P w' g' 0 cs (sub p 1 cs.length) arr
 res:VT P w' g' 0 ⟨NX res,sub p (1+cs.length) (res.flatMap Sh1.ces).length⟩ v
def Yb(P:Program)(f:FuncId)(args:List T)(r:T):Prop:=
 (∀J w,(callFunc f J).run P w=.ok (.enter f J) w) /\
 ∀(U:List Ce) (O:b8) (rest:List T) (cs2:List Ce) (res:List Sh1),args=⟨.tup [.agg U],O⟩::rest->r.sh=.tup (.agg [.any]::.agg cs2::res) ->
  ∀(w:World) (g:G) (b:Nat) (J:Array Value),afo P w g b U O rest J ->
   Calls P f (#[.pointer (some ⟨b,0,none⟩)]++J) w fun e w'=>∃v g',e=.returned v/\amM P w w' g g' b cs2 res r.p v
def aQ(P:Program)(f:FuncId)(args:List T)(r:T):Prop:=if r.sh.isM then agM P f args r else if r.sh.isK then Zc P f args r else if r.sh.isP then Yb P f args r else if r.sh.isX then SF P f args r else if r.sh.isN then Yw P f args r else if r.sh.isW then Yd P f args r else
 (∀J w,(callFunc f J).run P w=.ok (.enter f J) w) /\
 ∀(w:World) (prot:Nat->Nat) (J:Array Value),ka P prot w args J->(∀b,w.heap.size<=b->prot b=0) ->
  Calls P f J w fun e w'=>∃v g',e=.returned v/\Res P prot w w' r v g'
theorem afR{sh:Sh}(h:sh.isW=false):sh.isK=false:=by
 unfold Sh.isK
 split
 ·simp[Sh.isW] at h
 ·rfl
theorem akN{sh:Sh}(h:sh.isW=false):sh.isM=false:=by
 unfold Sh.isM
 split
 ·simp[Sh.isW] at h
 ·rfl
theorem akG{sh:Sh}(h:sh.isW=false):sh.isP=false:=by
 unfold Sh.isP
 split
 ·simp[Sh.isW] at h
 ·rfl
theorem aao{sh:Sh}(h:sh.isW=false):sh.isX=false:=by
 unfold Sh.isX
 split
 ·simp[Sh.isW] at h
 ·rfl
theorem akR{sh:Sh}(h:sh.isW=false):sh.isN=false:=by
 unfold Sh.isN
 split
 ·simp[Sh.isW] at h
 ·simp[Sh.isW] at h
 ·rfl
theorem Io{sh:Sh}(h:sh.isN=true):sh.isM=false/\sh.isK=false/\sh.isP=false/\sh.isX=false:=by
 unfold Sh.isN at h
 split at h
 ·exact⟨rfl,rfl,by unfold Sh.isP;split <;> simp_all,rfl⟩
 ·exact⟨rfl,rfl,by unfold Sh.isP;split <;> simp_all,rfl⟩
 ·cases h
theorem PY{sh:Sh}(h:sh.isX=true):sh.isM=false/\sh.isK=false/\sh.isP=false:=by
 unfold Sh.isX at h
 split at h
 ·exact⟨rfl,rfl,by unfold Sh.isP;split <;> simp_all⟩
 ·cases h
theorem aki{sh:Sh}(h:sh.isK=true):sh.isM=false:=by
 unfold Sh.isK at h
 split at h
 ·rfl
 ·cases h
theorem ako{sh:Sh}(h:sh.isP=true):sh.isM=false:=by
 unfold Sh.isP at h
 split at h
 ·rfl
 ·cases h
theorem akt{sh:Sh}(h:sh.isP=true):sh.isK=false:=by
 unfold Sh.isP at h
 split at h
 ·rfl
 ·cases h
theorem aQ.n{P:Program}{f:FuncId}{args:List T}{r:T}(h:aQ P f args r)(hw:r.sh.isW=false):(∀J w,(callFunc f J).run P w=.ok (.enter f J) w) /\
 ∀(w:World) (prot:Nat->Nat) (J:Array Value),ka P prot w args J->(∀b,w.heap.size<=b->prot b=0) ->
  Calls P f J w fun e w'=>∃v g',e=.returned v/\Res P prot w w' r v g':=by
 unfold aQ at h;rw[akN hw,afR hw,akG hw,aao hw,akR hw,hw] at h;exact h
theorem aQ.w{P:Program}{f:FuncId}{args:List T}{r:T}(h:aQ P f args r)(hw:r.sh.isW=true)(hk:r.sh.isK=false)(J:r.sh.isM=false)(O:r.sh.isP=false)(U:r.sh.isX=false)(hn:r.sh.isN=false):Yd P f args r:=by unfold aQ at h;rw[J,hk,O,U,hn,hw] at h;exact h
theorem aQ.k{P:Program}{f:FuncId}{args:List T}{r:T}(h:aQ P f args r)(hk:r.sh.isK=true):Zc P f args r:=by unfold aQ at h;rw[aki hk,hk] at h;exact h
theorem aQ.m{P:Program}{f:FuncId}{args:List T}{r:T}(h:aQ P f args r)(J:r.sh.isM=true):agM P f args r:=by unfold aQ at h;rw[J] at h;exact h
theorem aQ.p{P:Program}{f:FuncId}{args:List T}{r:T}(h:aQ P f args r)(J:r.sh.isP=true):Yb P f args r:=by unfold aQ at h;rw[ako J,akt J,J] at h;exact h
theorem aQ.x{P:Program}{f:FuncId}{args:List T}{r:T}(h:aQ P f args r)(J:r.sh.isX=true):SF P f args r:=by unfold aQ at h;rw[(PY J).1,(PY J).2.1,(PY J).2.2,J] at h;exact h
theorem aQ.ofX{P:Program}{f:FuncId}{args:List T}{r:T}(J:r.sh.isX=true)(h:SF P f args r):aQ P f args r:=by unfold aQ;rw[(PY J).1,(PY J).2.1,(PY J).2.2,J];exact h
theorem aQ.nw{P:Program}{f:FuncId}{args:List T}{r:T}(h:aQ P f args r)(hn:r.sh.isN=true):Yw P f args r:=by unfold aQ at h;rw[(Io hn).1,(Io hn).2.1,(Io hn).2.2.1,(Io hn).2.2.2,hn] at h;exact h
theorem aQ.ofN{P:Program}{f:FuncId}{args:List T}{r:T}(hn:r.sh.isN=true)(h:Yw P f args r):aQ P f args r:=by unfold aQ;rw[(Io hn).1,(Io hn).2.1,(Io hn).2.2.1,(Io hn).2.2.2,hn];exact h
theorem aQ.ofP{P:Program}{f:FuncId}{args:List T}{r:T}(J:r.sh.isP=true)(h:Yb P f args r):aQ P f args r:=by unfold aQ;rw[ako J,akt J,J];exact h
theorem aQ.ofW{P:Program}{f:FuncId}{args:List T}{r:T}(hw:r.sh.isW=true)(h:Yd P f args r)(hk:r.sh.isK=false:=by rfl)(J:r.sh.isM=false:=by rfl)(O:r.sh.isP=false:=by rfl)(U:r.sh.isX=false:=by rfl)(hn:r.sh.isN=false:=by rfl):aQ P f args r:=by unfold aQ;rw[J,hk,O,U,hn,hw];exact h
theorem aQ.ofK{P:Program}{f:FuncId}{args:List T}{r:T}(hk:r.sh.isK=true)(h:Zc P f args r):aQ P f args r:=by unfold aQ;rw[aki hk,hk];exact h
theorem aQ.of{P:Program}{f:FuncId}{args:List T}{r:T}(hw:r.sh.isW=false)(h:(∀J w,(callFunc f J).run P w=.ok (.enter f J) w) /\
 ∀(w:World) (prot:Nat->Nat) (J:Array Value),ka P prot w args J->(∀b,w.heap.size<=b->prot b=0) ->
  Calls P f J w fun e w'=>∃v g',e=.returned v/\Res P prot w w' r v g'):aQ P f args r:=by
 unfold aQ;rw[akN hw,afR hw,akG hw,aao hw,akR hw,hw];exact h
def av(P:Program)(call:FuncId->List T->Option (T × Bool)):Prop:=∀f args r,call f args=some (r,true)->aQ P f args r
section
variable [Low] {P:Program} {w w':World} {g g':G} {base:Nat} {σ:St} {a:Act}
theorem FP(Z:Rel P w g base σ a){ts:List Tok}{c U:Cap}{x V:D}{u:Value}(h:uF σ c x=some (U,V))(hv:IK P w g base c x u)(ht:∀t∈eQ σ [c],ts.contains t=true) :
  IK P w (g0 w.heap.size (bB g ts).prot) w.heap.size U V u:=by
 cases c with
 | d s =>simp only[uF,b7,i8] at h;obtain⟨rfl,rfl⟩:=h;exact gA hv
 | cptr cells off =>simp only[uF,b7,i8] at h;obtain⟨rfl,rfl⟩:=h;obtain⟨b,o,h1,h2,h3⟩:=hv;refine⟨b,o,h1,(Z.low.2.1 b h2).2.2.2,fun j s hs=>?_⟩;obtain⟨v,O,k2⟩:=h3 j s hs;exact⟨v,O,gA k2⟩
 | ptr id off =>
  simp only[uF] at h
  split at h
  ·rename_i cs ds Y
   split at h
   ·rename_i ss a0;simp only[b7,i8] at h;obtain⟨rfl,rfl⟩:=h;obtain⟨O,k2,k3,kl,a1,E,k4,k5⟩:=Z.box id cs ds Y;have hv:u=.pointer (some ⟨g.θ id,off,none⟩):=hv;subst hv;have J:=YY (ts:=ts) k5 a0 (fun t h=>ht t (by simp[eQ,Y,h]));refine⟨g.θ id,0,by rw[i9],aT k4,fun j s hs=>?_⟩;obtain⟨v,q1,q2⟩:=J.2 j s hs;exact⟨v,by simp only[World.cell?,k4,i9];exact q1,q2⟩
   ·cases h
  ·cases h
theorem GH{σ:St}:∀ {caps:List Cap} {j:Nat} {c:Cap},caps[j]?=some c->∀t∈eQ σ [c],t∈eQ σ caps
 | [],j,c,h,t,ht=>by simp at h
 | c0::cs,0,c,h,t,ht=>by simp only[n5,b7] at h;subst h;cases c0 <;> simp[eQ] at ht ⊢;exact .inl ht
 | c0::cs,j+1,c,h,t,ht=>by have:=GH (caps:=cs) (j:=j) (by simpa using h) t ht;cases c0 <;> simp[eQ,this]
theorem BE(hr:Rel P w g base σ a){ts:List Tok}:∀ {caps J:List Cap} {ds O:b8},mh σ caps ds=some (J,O)->(∀t∈eQ σ caps,ts.contains t=true) ->
  J.length=caps.length/\∀(j:Nat) U,J[j]?=some U->∃c,caps[j]?=some c/\∀u,IK P w g base c (ds j) u->IK P w (g0 w.heap.size (bB g ts).prot) w.heap.size U (O j) u
 | [],J,ds,O,h,_=>by simp only[mh,b7,i8] at h;obtain⟨rfl,rfl⟩:=h;exact⟨rfl,fun j c h=>by simp at h⟩
 | c::cs,J,ds,O,h,ht=>by
  unfold mh at h
  split at h
  ·rename_i d x a1 xs h1 h2;simp only[b7,i8] at h;obtain⟨rfl,rfl⟩:=h;have Z:∀t∈eQ σ [c],ts.contains t=true:=fun t h=>ht t (GH (caps:=c::cs) (j:=0) rfl t h)
   have a0:∀t∈eQ σ cs,ts.contains t=true:=fun t h=>ht t (by cases c <;> simp[eQ,h])
   obtain⟨k1,k2⟩:=BE hr h2 a0;refine⟨by simp[k1],fun j U Y=>?_⟩;cases j with
   | zero =>simp only[n5,b7] at Y;subst Y;exact⟨c,rfl,fun u V=>FP hr h1 V Z⟩
   | succ j =>obtain⟨c0,q1,q2⟩:=k2 j U (by simpa using Y);refine⟨c0,by simpa using q1,fun u V=>?_⟩;rw[aJ];exact q2 u (by rw[dG];exact V)
  ·cases h
theorem akV(hr:Rel P w g base σ a){ts:List Tok}{v v':T}{u:Value}(h:arg P σ v=some v')(hv:VT P w g base v u)(V:∀t∈eR σ v,ts.contains t=true):VT P w (g0 w.heap.size (bB g ts).prot) w.heap.size v' u:=by
 obtain⟨sh,p⟩:=v;cases sh with
 | tup xs=>cases h
 | one x=>cases x with
  | agg xs =>
   unfold arg at h;simp only at h
   split at h
   ·rename_i ss a7;injection h with h;subst h
    obtain⟨a0,rfl,a3⟩:=hv;obtain⟨J,Y⟩:=aaR (ts:=ts) a3 a7 V;refine⟨a0,rfl,by simp[J],fun j c O=>?_⟩;rw[u6] at O;cases hs:ss[j]? with
    | none=>rw[hs] at O;cases O
    | some s =>
     rw[hs] at O;injection O with O;subst O
     obtain⟨z,q1,q2⟩:=Y j s hs;exact⟨z,q1,q2⟩
   ·cases h
  | c x =>
   cases x with
   | fn f caps =>
    unfold arg at h;simp only at h
    split at h
    ·rename_i cs ds U;injection h with h;subst h
     obtain⟨J,Y⟩:=BE hr U V;obtain⟨a0,rfl,h2,h3⟩:=hv;refine⟨a0,rfl,by rw[h2,J],fun j c O=>?_⟩;obtain⟨c0,q1,q2⟩:=Y j c O;obtain⟨z,z1,z2⟩:=h3 j c0 q1;exact⟨z,z1,q2 z z2⟩
    ·cases h
   | cptr cells off =>simp only[arg,b7] at h;subst h;exact FP hr (c:=.cptr cells off) (x:=p 0) rfl hv (fun t h=>by simp[eQ] at h)
   | ptr id off =>
    unfold arg at h;simp only at h
    split at h
    ·rename_i c d U;injection h with h;subst h
     have:=FP hr (ts:=ts) U (u:=u) hv V;have a5:∃ss o',c=.cptr ss o':=by
      simp only[uF] at U
      split at U
      ·split at U
       ·simp only[b7,i8] at U;exact⟨_,_,U.1.symm⟩
       ·cases U
      ·cases U
     obtain⟨ss,o',rfl⟩:=a5;exact this
    ·cases h
   | eptr tk e off =>
    unfold arg at h;simp only at h
    split at h
    ·rename_i row Z;cases a1:zz tk with
     | true=>rw[a1] at h;cases h
     | false =>
     rw[a1,f5] at h;injection h with h;subst h
     have key:∃b o,u=.pointer (some ⟨b,o+off,none⟩)/\∀(j:Nat) s,row[j]?=some s->∃z,w.cell? ⟨b,o+j,none⟩=some z/\VD P w g.prot s (((dJ (p 0)).getD (eIx (p 0)) []) j) z:=by
      cases tk with
      | none =>obtain⟨a2,b,o,J,Y,k3,k4⟩:=hv;rw[Z] at J;injection J with J;subst J;exact⟨b,o+eIx (p 0)*row.length,by rw[Y,p8],fun j s hs=>by obtain⟨z,j1,_,j3⟩:=k4 j s hs;exact⟨z,by rw[p8];exact j1,j3⟩⟩
      | some t =>
       obtain⟨a2,J,Y,k3,v0,k4⟩:=hv;rw[Z] at J;injection J with J;subst J;refine⟨g.ρ t,eIx (p 0)*row.length,Y,fun j s hs=>?_⟩;rcases k4 with⟨h0,_⟩ | ⟨cap,a0,E,h1,h2,h3,h4,h5,h6,h7,h8,h9,h10,h11⟩
       ·rw[h0] at k3;simp at k3
       ·obtain⟨z,a6,hz2⟩:=h11 _ j s k3 hs;exact⟨z,by simp only[World.cell?,h6];exact a6,hz2.vd a1⟩
     obtain⟨b,o,rfl,hk⟩:=key;obtain⟨z0,a4,_⟩:=hk 0 _ (g6 (lI Z));refine⟨b,o,rfl,dn a4,fun j s hs=>?_⟩;obtain⟨z,q1,q2⟩:=hk j s hs;refine⟨z,q1,?_⟩;have O:=(g5.1 hs).1;show VD P w (bB g ts).prot s (sub ((dJ (p 0)).getD (eIx (p 0)) []) 0 row.length j) z;rw[fq _ _ _ _ O,i9];exact gA q2
    ·cases h
   | any=>cases h
   | d s =>simp only[arg,Ce.aS,Ce.toS,b7] at h;subst h;exact PS (base:=base) (c:=.d s) (s:=s) (x:=p 0) hv rfl V
   | kb b =>simp only[arg,Ce.aS,Ce.toS,b7] at h;subst h;exact PS (base:=base) (c:=.kb b) (s:=.bool) (x:=p 0) hv rfl V
   | own t xm e =>simp only[arg,Ce.aS,Ce.toS,b7] at h;subst h;exact PS (base:=base) (c:=.own t xm e) (s:=.sl e) (x:=p 0) hv rfl V
   | inn t e off ei =>simp only[arg,Ce.aS,b7] at h;subst h;exact PS (base:=base) (c:=.inn t e off ei) (s:=.sl ei) (x:=p 0) hv rfl V
theorem pF(V:Rel P w g base σ a){ts:List Tok}{nd:Bool}:∀ {xs:List Operand} {U:List TypeId} {O:List T},qm P σ nd xs U=some O->(∀t∈(xs.map (opd σ)).flatMap (eR σ),ts.contains t=true) ->
  O.length=xs.length/\∀(j:Nat) v,O[j]?=some v->∃x,xs[j]?=some x/\VT P w (g0 w.heap.size (bB g ts).prot) w.heap.size v (a.eval x)
 | [],U,O,h,_=>by simp only[qm,b7] at h;subst h;exact⟨rfl,fun j v h=>by simp at h⟩
 | x::xs,U,O,h,ht=>by
  simp only[qm] at h
  split at h
  ·rename_i d ds h1 h2;injection h with h;subst h
   obtain⟨Z,k2⟩:=pF V h2 (fun t h=>ht t (by simp only[u5,F2,m7];exact .inr h));refine⟨by simp[Z],fun j v Y=>?_⟩;cases j with
   | zero =>
    simp only[n5,b7] at Y;subst Y;refine⟨x,rfl,?_⟩;unfold amv at h1
    split at h1
    ·rename_i t hn;injection h1 with h1
     subst h1;unfold ajm at hn
     split at hn
     ·rename_i t0
      split at hn
      ·rename_i e he;cases J:bk P e with
       | none=>rw[J] at hn;cases hn
       | some row =>
        rw[J] at hn;injection hn with hn
        subst hn;cases nd with
        | false=>exact⟨row,J,.inl ⟨rfl,rfl,none,rfl⟩⟩
        | true=>exact ahX J
      ·cases hn
     ·cases hn
    ·exact akV V h1 (cZ V x) (fun t h=>ht t (by simp only[u5,F2,m7];exact .inl h))
   | succ j =>obtain⟨y,q1,q2⟩:=k2 j v (by simpa using Y);exact⟨y,by simpa using q1,q2⟩
  ·cases h
theorem GC:∀(cs:List Cap) (ds:b8) (j:Nat),(vf cs ds)[j]?=(cs[j]?).map fun c=>T.c c.ce (ds j)
 | [],ds,j=>by simp[vf]
 | c::cs,ds,0=>by simp[vf]
 | c::cs,ds,j+1=>by simp only[vf,I5,GC cs ds.tail j,dG]
theorem td:∀(cs:List Cap) (ds:b8),(vf cs ds).length=cs.length
 | [],_=>rfl
 | c::cs,ds=>by simp[vf,td cs ds.tail]
theorem aft{f:Ce->Ce}{g g':G}{base O:Nat}{sh:Sh}{p:b8}{v:Value}(h:∀c∈sh.ces,∀x v,VC P w g base c x v->VC P w g' O (f c) x v)(hv:VS P w g base sh p v):VS P w g' O (sh.map f) p v:=by
 have h1:∀ {x:Sh1} {p:b8} {v:Value},(∀c∈x.ces,∀x v,VC P w g base c x v->VC P w g' O (f c) x v)->V1 P w g base x p v->V1 P w g' O (x.map f) p v:=by
  intro x p v hx hv;cases x with
  | c c=>exact hx c (by simp[Sh1.ces]) _ _ hv
  | agg xs =>
   obtain⟨a0,rfl,U,V⟩:=hv;refine⟨a0,rfl,by rw[m9];exact U,fun j c J=>?_⟩;rw[u6] at J;cases hs:xs[j]? with
   | none=>rw[hs] at J;cases J
   | some c0 =>
    rw[hs] at J;injection J with J;subst J
    obtain⟨u,Y,Z⟩:=V j c0 hs;exact⟨u,Y,hx c0 (w6 hs) _ _ Z⟩
 cases sh with
 | one x=>exact h1 h hv
 | tup xs =>
  obtain⟨vs,rfl,U,V⟩:=hv;refine⟨vs,rfl,by rw[m9];exact U,fun j x J=>?_⟩;rw[u6] at J;cases hs:xs[j]? with
  | none=>rw[hs] at J;cases J
  | some x0 =>
   rw[hs] at J;injection J with J;subst J
   obtain⟨u,Y,Z⟩:=V j x0 hs;refine⟨u,Y,?_⟩;rw[Np,Sh1.size_map];exact h1 (fun c hc=>h c (List.mem_flatMap.2 ⟨x0,w6 hs,hc⟩)) Z
def Ak(P:Program)(base:Nat)(J:St)(o:Oper)(a:Act)(w:World):Prop:=
 ∀(K:Act->World->Prop) (Q:Exit->Act->World->Prop),(∀z w' g',Rel P w' g' base J (a.put o.dst z)->Below base w w'->K (a.put o.dst z) w')->o.wp P a w K Q
theorem TS.goes{o:Oper}{J:St}(h:TS P base J o a w):Ak P base J o a w:=by
 intro K Q U;obtain⟨z,w',g',h1 | ⟨h1,rfl⟩,O,V⟩:=h
 ·unfold Oper.wp;rw[h1];exact U z w' g' O V
 ·unfold Oper.wp;rw[h1];exact U undef w' g' O V
theorem aga{sh:Sh}(h:sh.prim=true):∀c∈sh.ces,c.prim=true:=by
 have h1:∀ {x:Sh1},x.prim=true->∀c∈x.ces,c.prim=true:=by
  intro x O c J;cases x with
  | c U=>simp only[Sh1.ces,n4] at J;subst J;exact O
  | agg xs=>exact i6.1 O c J
 intro c J;cases sh with
 | one x=>exact h1 h c J
 | tup xs =>obtain⟨x,O,J⟩:=List.mem_flatMap.1 J;exact h1 (i6.1 h x O) c J
theorem Ru{call:FuncId->List T->Option (T × Bool)}{sh:Sh}(h:apart P call sh=true):∀c∈sh.ces,(c.prim||Uk P c)=true:=by
 intro c J;unfold apart at h;rw[y9] at h;rcases h with h | h
 ·rw[aga h c J];rfl
 ·rw[a9] at h;rw[i6.1 h.2 c J,K3]
theorem wU.goes{o:Oper}{J:St}(h:wU P base J o a w):Ak P base J o a w:=h.does.goes
def ahe(P:Program)(base:Nat)(J:St)(o:Oper)(a:Act)(w:World):Prop:=
 ∀(K:Act->World->Prop) (Q:Exit->Act->World->Prop),(∀z w' g',Rel P w' g' base J (a.put o.dst z)->Below base w w'->Below w.heap.size w w'->K (a.put o.dst z) w')->o.wp P a w K Q
theorem ahe.goes{o:Oper}{J:St}(h:ahe P base J o a w):Ak P base J o a w:=fun K Q U=>h K Q fun z w' g' h1 O _=>U z w' g' h1 O
theorem Qw(Z:Rel P w g base σ a){call:FuncId->List T->Option (T × Bool)}(b1:av P call){o:Oper}{b6:St}{d:Nat}{f:Operand}{xs:Array Operand}{d5:Array TypeId}(ho:o.op=.call { callee:=.value f,args:=xs,argTypes:=d5 })(a6:o.dst=some d)(hd:∀d,o.dst=some d->d<a.tmps.size)
  {d1:List TypeId} (h:XQ P call σ d f xs.toList d1=some (b6,true)):ahe P base b6 o a w:=by
 unfold XQ at h
 split at h
 ·rename_i b5 caps hsh
  split at h
  ·rename_i vs cs ds c9 e6
   split at h
   ·rename_i r ok e9;cases a2:r.sh.ces.all UG with
    | false=>rw[a2,C9] at h;cases h
    | true =>
     cases a1:r.sh.isW with
     | true=>rw[a1] at h;cases h
     | false =>
      rw[a2,a1,show (!false&&true)=true from rfl,f8] at h;simp only[b7,i8] at h;obtain⟨rfl,rfl⟩:=h
      let ts:List Tok:=(xs.toList.map (opd σ)).flatMap (eR σ)++eQ σ caps
      obtain⟨k1,k2⟩:=pF (ts:=ts) Z c9 (fun t h=>u7.2 (m7.2 (.inl h)));obtain⟨q1,q2⟩:=BE (ts:=ts) Z e6 (fun t h=>u7.2 (m7.2 (.inr h)));have b0:=cZ Z f;have b0:VC P w g base (.fn b5 caps) ((opd σ f).p 0) (a.eval f):=by generalize opd σ f=q at *;obtain⟨sh,p⟩:=q;simp only at hsh;subst hsh;exact b0
      obtain⟨a3,e7,c7,c2⟩:=b0;obtain⟨e0,a7⟩:=(b1 _ _ _ e9).n a1;have f0:xs.toList.length=xs.size:=by simp
      have b2:ka P (bB g ts).prot w (vs++vf cs ds) (xs.map a.eval++a3):=by
       refine⟨by simp[k1,td,q1,c7],fun j t U=>?_⟩;rw[w9] at U
       split at U
       ·rename_i b4;obtain⟨x,hx,c8⟩:=k2 j t U;refine⟨a.eval x,?_,c8⟩;rw[r9 (by simp;omega),G2];have:xs[j]?=some x:=by simpa using hx
        rw[this];rfl
       ·rename_i O;rw[GC] at U;cases hc:cs[j - vs.length]? with
        | none=>rw[hc] at U;cases U
        | some c =>
         rw[hc] at U;injection U with U;subst U
         obtain⟨c0,m1,m2⟩:=q2 _ c hc;obtain⟨u,m3,m4⟩:=c2 _ c0 m1;refine⟨u,?_,?_⟩
         ·rw[A4 (by simp;omega)];simp only[Array.size_map,<- k1.symm];rw[show xs.size=vs.length from by rw[k1];simp];exact m3
         ·have:=m2 u m4;cases c <;> exact this
      have d3:∀b,w.heap.size<=b->(bB g ts).prot b=0:=fun b hb=>((Z.seal ts).fresh b hb).1
      intro K Q hK;unfold Oper.wp;have c3:(execOp a.eval o).run P w=.ok (.enter b5 (xs.map a.eval++a3)) w:=by simp only[execOp,ho,resolve,e7,Deferred.ofValue,j7,m8,g7,invoke];simpa using e0 (xs.map a.eval++a3) w
      rw[c3];refine (a7 w _ _ b2 d3).mono ?_;rintro e w' ⟨v,g',rfl,hR⟩
      let a5:List Tok:=bif apart P call r.sh then[] else ts
      let gs:=bB g a5
      have d4:Rel P w gs base (σ.seal a5) a:=Z.seal a5
      let J:G:={ prot:=fun b=>if b<w.heap.size then gs.prot b else g'.prot b, owner:=fun b=>if b<w.heap.size then gs.owner b else match g'.owner b with | some (.inr t)=>some (.inr (d,t.2)) | _=>none, θ:=gs.θ,ρ:=fun t=>if t.1=d then g'.ρ (0,t.2) else gs.ρ t,len:=fun t=>if t.1=d then g'.len (0,t.2) else gs.len t, wid:=fun t=>if t.1=d then g'.wid (0,t.2) else gs.wid t,ety:=fun t=>if t.1=d then g'.ety (0,t.2) else gs.ety t, path:=fun b=>if b<w.heap.size then gs.path b else g'.path b,need:=fun b=>if b<w.heap.size then gs.need b else g'.need b,old:=gs.old }
      have hE:Ext (some d) gs J w w':=by
       refine⟨hR.below.size,fun id h=>rfl,fun t h=>?_,fun b h=>j8 h,fun b h=>j8 h,fun b h=>hR.below.block b h,fun b h=>⟨j8 h,j8 h⟩,rfl,fun b t O h=>?_⟩
       rotate_right
       ·change (if b<w.heap.size then _ else match g'.owner b with | some (Sum.inr t)=>some (Sum.inr (d,t.2)) | _=>none)=_ at h;rw[i7 (by omega)] at h
        split at h
        ·injection h with h;injection h with h;exact .inl (by rw[<- h])
        ·cases h
       have:t.1≠d:=fun e=>h (by rw[e])
       exact⟨i7 this,i7 this,i7 this,i7 this⟩
      have hF:∀b,w'.heap.size<=b->J.prot b=0/\J.owner b=none:=fun b hb=>by have O:=hR.below.size;have:=hR.fresh b hb;refine⟨by show (if b<w.heap.size then _ else _)=_;rw[i7 (by omega)];exact this.1,?_⟩;show (if b<w.heap.size then _ else match g'.owner b with | some (Sum.inr t)=>some (Sum.inr (d,t.2)) | _=>none)=_;rw[i7 (by omega),this.2]
      have c6:=d4.wipeRow (hd d a6) hE rfl hF;have c5:VT P w' J base ⟨r.sh.map (FW d),r.p⟩ v:=by
       refine aft (fun c hc x u a0=>?_) hR.val;have c1:=i6.1 a2 c hc;have a4:apart P call r.sh=false->∀b o z,o<g'.prot b->w'.cell? ⟨b,o,none⟩=some z->w'.cell? ⟨b,o,none⟩=some z/\o<J.prot b:=fun hp b o z h1 h2=>by
        refine⟨h2,?_⟩;show o<(if b<w.heap.size then gs.prot b else g'.prot b)
        split
        ·rename_i b4;have e:gs=bB g ts:=by show bB g (bif apart P call r.sh then[] else ts)=_;rw[hp];rfl
         rw[e,<- hR.prot b b4];exact h1
        ·exact h1
       cases c with
       | d s =>
        show VD P w' J.prot s x u;have a0:VD P w' g'.prot s x u:=a0;cases hp:apart P call r.sh with
        | false=>exact a0.mono (a4 hp)
        | true =>
         have:=Ru hp _ hc;cases a0 with
         | int k y=>exact .int k _
         | bool y=>exact .bool _
         | str y=>exact .str _
         | opq y h=>exact .opq _ h
         | sl=>simp[Ce.prim,Uk,S.flat] at this
       | own t xm e =>
        obtain⟨t1,ix⟩:=t;have d2:t1=0:=by simpa [UG] using c1
        subst d2;obtain⟨row,a8,c4⟩:=a0;refine⟨row,a8,?_⟩;have e1:J.ρ (d,ix)=g'.ρ (0,ix):=j8 rfl;have e2:J.len (d,ix)=g'.len (0,ix):=j8 rfl;have e3:J.wid (d,ix)=g'.wid (0,ix):=j8 rfl;have e4:J.ety (d,ix)=g'.ety (0,ix):=j8 rfl;rcases c4 with⟨h0,h1,h2⟩ | ⟨cap,arr,E,h1,h2,h3,h4,h5,h6,h7,h8,h9,h10,h11⟩
        ·exact .inl ⟨h0,by show J.len (d,ix)=0;rw[e2];exact h1,h2⟩
        ·have O:¬g'.ρ (0,ix)<w.heap.size:=by omega
         refine .inr ⟨cap,arr,E,by show u=.slice (some ⟨J.ρ (d,ix),0,none⟩) _ _;rw[e1];exact h1,h2,by show _/\_/\e=J.ety (d,ix);rw[e4];exact h3,by show base<=J.ρ (d,ix);rw[e1];exact o8 Z.base_le h4,?_,by show w'.heap[J.ρ (d,ix)]?=_;rw[e1];exact h6,h7,by show _=J.len (d,ix);rw[e2];exact h8,by show _=J.wid (d,ix);rw[e3];exact h9,?_,fun i j s hi hs=>?_⟩
         ·show J.owner (J.ρ (d,ix))=some (.inr (d,ix));rw[e1];show (if g'.ρ (0,ix)<w.heap.size then _ else match g'.owner (g'.ρ (0,ix)) with | some (Sum.inr t)=>some (Sum.inr (d,t.2)) | _=>none)=_;rw[i7 O,h5]
         ·show J.prot (J.ρ (d,ix))=if xm then 0 else J.len (d,ix)*J.wid (d,ix)
          rw[e1,e2,e3];show (if g'.ρ (0,ix)<w.heap.size then _ else g'.prot (g'.ρ (0,ix)))=_;rw[i7 O,h10]
         ·obtain⟨z,z1,Y⟩:=h11 i j s hi hs;refine⟨z,z1,?_⟩;have b3:(bm (d,ix)&&xm)=(bm (0,ix)&&xm):=rfl;cases V:(bm (0,ix)&&xm) with
          | true =>
           unfold ci at Y ⊢;rw[j8 V] at Y;rw[j8 (b3.trans V)];refine TR.mono (fun π=>π) (fun _ _ _=>rfl) Y (fun b π n o _ hl ho=>⟨ho,?_⟩) (by simp);obtain⟨l0,l1,l2,l3,l4,l5⟩:=hl;have O:¬b<w.heap.size:=by omega
           refine⟨o8 Z.base_le l0,?_,by rw[e1];exact l2,?_,?_,?_⟩
           ·show (if b<w.heap.size then _ else match g'.owner b with | some (Sum.inr t)=>some (Sum.inr (d,t.2)) | _=>none)=_;rw[i7 O,l1]
           ·exact (i7 O).trans l3
           ·exact (i7 O).trans l4
           ·exact (i7 O).trans l5
          | false =>
           have Y:VD P w' g'.prot s (x i j) z:=by unfold ci at Y;rwa [i7 (by rw[V];simp)] at Y
           refine .of_vd ?_ (.inl (b3.trans V));cases hp:apart P call r.sh with
           | false=>exact Y.mono (a4 hp)
           | true =>have:=Ru hp _ hc;simp only[Ce.prim,F5,Uk,V,CQ,a8] at this;have:=i6.1 this s (w6 hs);exact (TR.of_flat (lab:=fun _ _ _=>True) (π:= []) Y this).vd_flat this
       | _=>simp[UG] at c1
      have hb:Below base w w':=hR.below.mono Z.base_le;have:=hK v w' J (by have:=c6.put hd (dst:=o.dst) (t:=⟨r.sh.map (FW d),r.p⟩) c5;rw[a6] at this ⊢;exact this) hb hR.below;exact this
   ·cases h
  ·cases h
 ·cases h
theorem aia{call:FuncId->List T->Option (T × Bool)}(h:av P call):av P (noW call):=by
 intro f args r J;unfold noW at J
 split at J
 ·rename_i O ok U;cases hw:O.sh.isW with
  | true=>rw[hw] at J;cases J
  | false =>rw[hw,f5] at J;simp only[b7,i8] at J;obtain⟨rfl,rfl⟩:=J;exact h _ _ _ U
 ·cases J
theorem abA{call:FuncId->List T->Option (T × Bool)}{f:FuncId}{args:List T}{r:T}{ok:Bool}(J:noW call f args=some (r,ok)):r.sh.isW=false:=by
 unfold noW at J
 split at J
 ·rename_i O ok U;cases hw:O.sh.isW with
  | true=>rw[hw] at J;cases J
  | false =>rw[hw,f5] at J;simp only[b7,i8] at J;obtain⟨rfl,rfl⟩:=J;exact hw
 ·cases J
theorem agI(hr:Rel P w g base σ a){t:Tok}{e:TypeId}{rows J:List b8}{u:Value}(c3:dp P w g base t true e [.int .i64] rows u){cap:Nat}{a2:Array Value}
  (hu:u=.slice (some ⟨g.ρ t,0,none⟩) rows.length cap) (c4:rows.length<=cap) (b0:cap<=9223372036854775807) (b3:e=g.ety t) (a4:base<=g.ρ t) (U:g.owner (g.ρ t)=some (.inr t)) (hh:w.heap[g.ρ t]?=some (.cells a2 e (0,0))) (c0:a2.size=cap) (a7:1=g.wid t) (c1:g.prot (g.ρ t)=0)
  (c5:J.length<=rows.length) (hw:alB (g.ρ t) e a2 J w w') (b4:bk P e=some [.int .i64]) (a6:t.1≠1000001) :
  ∃g',Rel P w' g' base (σ.map (bt t)) a/\VT P w' g' base (.c (.own t true e) (.l J)) (.slice (some ⟨g.ρ t,0,none⟩) J.length cap)/\Below base w w':=by
 obtain⟨Z,V,b2,c2,a8,a3⟩:=hw
 let g':G:={ g with len:=fun u=>if u=t then J.length else g.len u }
 have a5:∀b o u,o<g.prot b->w.cell? ⟨b,o,none⟩=some u->w'.cell? ⟨b,o,none⟩=some u/\o<g'.prot b:=fun b o u h1 h2=>by
  have a1:b≠g.ρ t:=by rintro rfl;omega
  exact⟨(bd (V b (dn h2) a1) o).trans h2,h1⟩
 have hk:iu P base g g' w w' (bt t):=by
  refine iJ a5 (fun b t' a0 O Y=>?_) (fun t' a0=>⟨rfl,i7 a0,rfl,rfl⟩) rfl (fun b Y=>V b (hr.low.2.1 b Y).2.2.2 (hr.oldNe Y U));have a1:b≠g.ρ t:=by intro e;rw[e,U] at O;injection O with O;injection O with O;exact a0 O.symm
  exact⟨V b Y a1,rfl,rfl⟩
 have b1:Rel P w' g' base (σ.map (bt t)) a:=by
  refine hr.drop hk rfl (fun b id O Y=>?_) (fun b Y=>?_) Z.size (fun b Y=>⟨rfl,rfl,V b (hr.low.2.1 b Y).2.2.2 (hr.oldNe Y U)⟩) rfl (fun t' a0=>⟨rfl,i7 (kq a6 a0),fun b O Y=>⟨O,V b Y (by intro e;rw[e,U] at O;injection O with O;injection O with O;exact kq a6 a0 O.symm)⟩⟩) (fun _ _ _ O=>⟨O,rfl,rfl⟩)
  ·have a1:b≠g.ρ t:=by intro e;rw[e,U] at O;injection O with O;cases O
   exact⟨V b Y a1,rfl,rfl⟩
  ·exact hr.fresh b (o8 Z.size Y)
 refine⟨g',b1,⟨[.int .i64],b4,.inr ⟨cap,b2,e,rfl,by show J.length<=cap;omega,⟨b0,rfl,b3⟩,a4,U,c2,by rw[a8,c0];simp,by show J.length=if t=t then _ else _;rw[j8 rfl],a7,c1,?_⟩⟩,?_⟩
 ·intro i j s hi hs;have b6:i<J.length:=hi
  match j,hs with
  | 0,hs =>
   injection hs with hs
   subst hs;have:=a3 i b6;exact⟨.int .i64 (J.getD i [] 0).int,by simpa using this,.of_vd (.int .i64 _) (.inr rfl)⟩
 ·exact⟨Z.os,Z.tape,Z.output,Z.size,fun k b5=>V k (y8 b5 hr.base_le) (by omega)⟩
theorem Ib(hr:Rel P w g base σ a){t:Tok}{J:List b8}(a0:∀b o u,o<g.prot b->w.cell? ⟨b,o,none⟩=some u->w'.cell? ⟨b,o,none⟩=some u)
  (a4:∀b O,O≠t->g.owner b=some (.inr O)->b<w.heap.size->w'.heap[b]?=w.heap[b]?) (c2:∀b id,g.owner b=some (.inl id)->b<w.heap.size->w'.heap[b]?=w.heap[b]?)
  (a8:∀b,g.old b->w'.heap[b]?=w.heap[b]?) (b0:w.heap.size<=w'.heap.size)
  (a6:∀ {xm:Bool} {e':TypeId} {U:List S} {Z:List b8} {v:Value},bk P e'=some U->dp P w g base t xm e' U Z v->Z.length=J.length/\dp P w' g base t xm e' U J v) (c8:∀b t b1 e,t.1=1000001->g.owner b=some (.inr t)->b=g.ρ t->w.heap[b]?=some (.cells b1 e (0,0))->0<b1.size->∃V,w'.heap[b]?=some (.cells V e (0,0))/\V.size=b1.size):Rel P w' g base (σ.setRows t J) a:=by
 have a5:∀ {s:S} {x:D} {v:Value},VD P w g.prot s x v->VD P w' g.prot s x v:=fun h=>h.mono fun b o u q1 q2=>⟨a0 b o u q1 q2,q1⟩
 have a1:∀ {O:Tok} {xm:Bool} {e':TypeId} {U:List S} {Z:List b8} {v:Value},O≠t->dp P w g base O xm e' U Z v->dp P w' g base O xm e' U Z v:=by
  intro O xm e' U Z v ht h;rcases h with h | ⟨cap',V,E',k1,k2,k3,k4,k5,k6,k7,k8,k9,k10,k11⟩
  ·exact .inl h
  ·refine .inr ⟨cap',V,E',k1,k2,k3,k4,k5,by rw[a4 _ O ht k5 (aT k6)];exact k6,k7,k8,k9,k10,fun i' j s c5 hs=>?_⟩;obtain⟨u,q1,q2⟩:=k11 i' j s c5 hs;exact⟨u,q1,q2.mono rfl (fun b o u z1 z2=>⟨a0 b o u z1 z2,z1⟩) (fun _ b o h0 c1 c3 hb=>⟨(a4 b O ht c1 (aT hb)).trans hb,h0,c1,c3,rfl,rfl,fun e=>e⟩)⟩
 have a7:∀ {cells:List S} {Y:Nat} {x:D} {v:Value},fU P w g base cells Y x v->fU P w' g base cells Y x v:=by rintro cells Y x v ⟨b,o,q1,q2,q3⟩;refine⟨b,o,q1,q2,fun j s hs=>?_⟩;obtain⟨u,z1,z2⟩:=q3 j s hs;exact⟨u,(bd (a8 b q2) _).trans z1,a5 z2⟩
 have b5:∀c x v,VC P w g base c x v->VC P w' g base (Lt (· == t) c) (aka t J c x) v:=by
  intro c x v hv;cases c with
  | any=>trivial
  | d s=>exact a5 hv
  | kb b=>exact hv
  | own O xm e' =>
   obtain⟨U,a2,hv⟩:=hv;refine⟨U,a2,?_⟩;show dp P _ g base O xm e' U (bif O==t then D.l J else x).rows v;by_cases ht:O=t
   ·subst ht;rw[show (O==O)=true from by simp];exact (a6 a2 hv).2
   ·rw[show (O==t)=false from by simpa using ht];exact a1 ht hv
  | ptr id Y=>exact hv
  | eptr tk e' Y =>
   cases tk with
   | none =>obtain⟨U,b,o,q1,q2,q3,q4⟩:=hv;refine⟨U,b,o,q1,q2,q3,fun j s hs=>?_⟩;obtain⟨u,z1,z2,z3⟩:=q4 j s hs;exact⟨u,a0 _ _ _ z2 z1,z2,a5 z3⟩
   | some O =>
    obtain⟨U,a2,q2,q3,u,q4⟩:=hv;refine⟨U,a2,?_⟩;show v=.pointer (some ⟨g.ρ O,eIx (bif O==t then D.l [[.l J,x 0 1]] else x)*U.length+Y,none⟩)/\eIx (bif O==t then D.l [[.l J,x 0 1]] else x)<(dJ (bif O==t then D.l [[.l J,x 0 1]] else x)).length/\∃u,dp P _ g base O true e' U (dJ (bif O==t then D.l [[.l J,x 0 1]] else x)) u;by_cases ht:O=t
    ·subst ht;rw[show (O==O)=true from by simp,f8];obtain⟨z1,z2⟩:=a6 a2 q4;exact⟨q2,by show eIx x<J.length;rw[<- z1];exact q3,u,z2⟩
    ·rw[show (O==t)=false from by simpa using ht,f5];exact⟨q2,q3,u,a1 ht q4⟩
  | inn O e' Y c7 =>
   show VC P _ g base (bif O==t then .any else .inn O e' Y c7) x v;by_cases ht:O=t
   ·rw[show (O==t)=true from by simpa using ht];trivial
   ·rw[show (O==t)=false from by simpa using ht,f5];exact mZ hv rfl (fun o c4 b6=>(a4 _ O ht c4 (aT b6)).trans b6) (fun hu=>a1 ht hu)
  | cptr cells Y=>exact a7 hv
  | fn f caps =>
   obtain⟨V,q1,q2,q3⟩:=hv;refine⟨V,q1,q2,fun j c hc=>?_⟩;obtain⟨u,hu,a3⟩:=q3 j c hc;refine⟨u,hu,?_⟩;cases c with
   | d s=>exact a5 a3
   | ptr id off=>exact a3
   | cptr cells off=>exact a7 a3
 have b2:∀ {cs:List Ce} {ds:b8} {V:Array Value},VCs P w g base cs ds V->VCs P w' g base (cs.map (Lt (· == t))) (qb t J cs ds) V:=by intro cs ds V h;refine⟨by rw[m9];exact h.1,fun j c hj=>?_⟩;obtain⟨c0,b4,rfl⟩:=RM hj;obtain⟨u,q1,q2⟩:=h.2 j c0 b4;exact⟨u,q1,by rw[sO _ _ _ _ j c0 b4];exact b5 c0 _ _ q2⟩
 have c6:∀ {q:T} {v:Value},VT P w g base q v->VT P w' g base (adV t J q) v:=by
  intro q v hv;obtain⟨sh,pq⟩:=q;cases sh with
  | tup xs=>trivial
  | one xx=>cases xx with
   | c xx =>show VC P _ g base (Lt (· == t) xx) (qb t J [xx] pq 0) v;rw[sO _ _ _ _ 0 xx rfl];exact b5 xx _ _ hv
   | agg xs =>obtain⟨V,rfl,hh⟩:=hv;exact⟨V,rfl,b2 hh⟩
 refine⟨fun j=>?_,fun id d3 d2 hq=>?_,fun b hb=>hr.fresh b (o8 b0 hb),o8 hr.base_le b0,hr.defers,hr.lowIn a8 b0 c8,hr.mine⟩
 ·have e1:=sg (adV t J) rfl σ.e j σ.r;show VT P _ g base (bZ j (σ.e.map _) (σ.r.map _)) _;rw[e1];exact c6 (hr.env j)
 ·have e1:=Bd (List.map (Lt (· == t))) (qb t J) σ.h id;change bH id (σ.setRows t J).h=_ at e1;rw[hq] at e1;cases b3:bH id σ.h with
  | none=>rw[b3] at e1;cases e1
  | some q =>obtain⟨d1,c9⟩:=q;rw[b3] at e1;injection e1 with e1;injection e1 with e2 e3;subst e2;subst e3;obtain⟨j1,j2,j3,jl,V,E',j4,j5⟩:=hr.box id _ _ b3;exact⟨j1,j2,j3,by rw[tl,m9],V,E',by rw[c2 _ id j2 (aT j4)];exact j4,b2 j5⟩
theorem ajf(hr:Rel P w g base σ a){call:FuncId->List T->Option (T × Bool)}(b6:av P call){o:Oper}{c6:St}{f:Operand}{xs:Array Operand}{h3:Array TypeId}(ho:o.op=.call { callee:=.value f,args:=xs,argTypes:=h3 })(hd:∀d,o.dst=some d->d<a.tmps.size)
  (h:aeQ P call σ o.dst f xs.toList=some (c6,true)):Ak P base c6 o a w:=by
 unfold aeQ at h
 split at h
 ·rename_i c4 i hsh h9
  split at h
  ·rename_i t e c2
   split at h
   ·rename_i r ok h7;cases hq:(bk P e==some [.int .i64]&&t.1 != 1000001) with
    | false=>rw[hq] at h;cases h
    | true =>
     rw[hq,f8] at h;rw[a9] at hq;have c7:t.1≠1000001:=by simpa using hq.2
     have a1:bk P e=some [.int .i64]:=by simpa using hq.1
     have d4:xs = #[.tmp i]:=by cases xs;simp_all
     subst d4;have b3:=cZ hr f;have b3:VC P w g base (.fn c4 []) ((opd σ f).p 0) (a.eval f):=by generalize opd σ f=q at *;obtain⟨sh,p⟩:=q;simp only at hsh;subst hsh;exact b3
     obtain⟨e7,h5,e0,_⟩:=b3;have f2:e7 = #[]:=by simpa using e0
     subst f2;have b4:=cZ hr (.tmp i);have b4:VC P w g base (.own t true e) ((opd σ (.tmp i)).p 0) (a.eval (.tmp i)):=by generalize opd σ (.tmp i)=q at *;obtain⟨sh,p⟩:=q;simp only at c2;subst c2;exact b4
     obtain⟨b5,a0,d2⟩:=b4;rw[a1] at a0;injection a0 with a0;subst a0;generalize hx:(opd σ (.tmp i)).p 0=x at *;have a5:r.sh.isW=true/\r.sh.isK=false/\r.sh.isM=false/\r.sh.isP=false/\r.sh.isX=false/\r.sh.isN=false/\ok=true:=by
      split at h
      ·rename_i c O;simp only[b7,i8] at h;exact⟨by rw[O];rfl,by rw[O];rfl,by rw[O];rfl,by rw[O];rfl,by rw[O];rfl,by rw[O];rfl,h.2⟩
      ·rename_i O;simp only[b7,i8] at h;exact⟨by rw[O];rfl,by rw[O];rfl,by rw[O];rfl,by rw[O];rfl,by rw[O];rfl,by rw[O];rfl,h.2⟩
      ·cases h
     obtain⟨a5,c9,e6,c8,f0,d5,g2⟩:=a5;subst g2;obtain⟨h4,b1⟩:=(b6 _ _ _ h7).w a5 c9 e6 c8 f0 d5;obtain⟨h2,hC⟩:=b1 e x rfl a1;have c0:∀ {w' g'} {v:Value},VT P w' g' base (.c (.own t true e) (.l (r.p 0).rows)) v->VT P w' g' base (.c (.own t true e) (r.p 0)) v:=fun {w' g' v} h=>h
     intro K Q hK;unfold Oper.wp;have d1:(execOp a.eval o).run P w=.ok (.enter c4 #[a.eval (.tmp i)]) w:=by simp only[execOp,ho,resolve,h5,Deferred.ofValue,j7,m8,g7,invoke];simpa using h4 #[a.eval (.tmp i)] w
     rw[d1];rcases d2 with⟨h0,h1,A,hv⟩ | ⟨cap,arr,E,k1,k2,⟨k3,rfl,k3'⟩,k4,k5,k6,k7,k8,k9,k10,k11⟩
     ·obtain⟨c1,b2⟩:=h2 h0;rw[hv];refine (b2 A w).mono ?_;rintro ex w' ⟨rfl,V⟩;have J:∀k,k<w.heap.size->w'.heap[k]?=w.heap[k]?:=fun k hk=>V.block k hk
      split at h
      ·rename_i c O;simp only[b7,i8] at h;obtain⟨rfl,_⟩:=h;have a2:Rel P w' g base (σ.setRows t (r.p 0).rows) a:=Ib hr (fun b o u q1 Z=>(bd (J b (dn Z)) o).trans Z) (fun b _ _ _ U=>J b U) (fun b _ _ U=>J b U) (fun b U=>J b (hr.low.2.1 b U).2.2.2) V.size (fun {xm e' b5 rowsT v} hr' Y=>by
        rw[c1];rcases Y with⟨q0,q1,Z⟩ | ⟨cap',a6,E',q1,Z,q3,q4,q5,q6,q7,q8,q9,q10,q11⟩
        ·exact⟨by rw[q0],.inl ⟨rfl,q1,Z⟩⟩
        ·have hz:rowsT.length=0:=by omega
         refine⟨hz,.inr ⟨cap',a6,E',by rw[q1,hz];rfl,y5 _,q3,q4,q5,by rw[J _ (aT q6)];exact q6,q7,by rw[<- q8,hz];rfl,q9,q10,fun i' j s a8 _=>by simp at a8⟩⟩) (fun b t' a4 e1 _ _ _ U _=>⟨a4,(J b (aT U)).trans U,rfl⟩)
       rw[O];exact hK _ w' g (a2.put hd (dst:=o.dst) (t:=.none_) (v:=.tuple #[]) ⟨#[],rfl,rfl,fun j x h=>by simp at h⟩) (V.mono hr.base_le)
      ·rename_i O;simp only[b7,i8] at h;obtain⟨rfl,_⟩:=h;have hk:iu P base g g w w' (bt t):=iJ (fun b o u q1 Z=>⟨(bd (J b (dn Z)) o).trans Z,q1⟩) (fun b t' _ _ U=>⟨J b U,rfl,rfl⟩) (fun _ _=>⟨rfl,rfl,rfl,rfl⟩) rfl (fun b U=>J b (hr.low.2.1 b U).2.2.2);have a2:Rel P w' g base (σ.map (bt t)) a:=hr.drop hk rfl (fun b _ _ U=>⟨J b U,rfl,rfl⟩) (fun b U=>hr.fresh b (o8 V.size U)) V.size (fun b U=>⟨rfl,rfl,J b (hr.low.2.1 b U).2.2.2⟩) rfl (fun t' _=>⟨rfl,rfl,fun b ho U=>⟨ho,J b U⟩⟩) (fun _ _ _ ho=>⟨ho,rfl,rfl⟩);rw[O];exact hK _ w' g (a2.put hd (dst:=o.dst) (c0 (v:=.slice A 0 0) ⟨_,a1,.inl ⟨c1,h1,A,rfl⟩⟩)) (V.mono hr.base_le)
      ·cases h
     ·have e9:∀i,i<x.rows.length->arr[i]?=some (.int .i64 (x i 0).int):=fun i hi=>by obtain⟨u,q1,Z⟩:=k11 i 0 (.int .i64) hi rfl;have Z:=Z.vd_flat rfl;cases Z;simpa using q1
      have c5:arr.size=cap:=by rw[k7];simp
      obtain⟨h8,a7,b2⟩:=hC w (g.ρ t) cap arr k6 c5 k2 k3 e9;rw[k1];refine b2.mono ?_;rintro ex w' ⟨rfl,hW⟩
      split at h
      ·rename_i c O;simp only[b7,i8] at h;obtain⟨rfl,_⟩:=h;have a7:=a7 ⟨c,O⟩;obtain⟨V,J,a6,h6,d3,b0⟩:=hW;have i0:g.prot (g.ρ t)=0:=by simpa using k10
       have a2:Rel P w' g base (σ.setRows t (r.p 0).rows) a:=Ib hr (fun b o u q1 Z=>(bd (J b (dn Z) (by rintro rfl;omega)) o).trans Z)
        (fun b t' g1 Y U=>J b U (by intro e;rw[e,k5] at Y;injection Y with Y;injection Y with Y;exact g1 Y.symm))
        (fun b id Y U=>J b U (by intro e;rw[e,k5] at Y;injection Y with Y;cases Y))
        (fun b U=>J b (hr.low.2.1 b U).2.2.2 (hr.oldNe U k5)) V.size (fun {xm e' b5 rowsT v} hr' Y=>by
        rcases Y with⟨q0,q1,Z⟩ | ⟨cap',a4,E',q1,Z,⟨q3,qE,q3'⟩,q4,q5,q6,q7,q8,q9,q10,q11⟩
        ·have hz:(r.p 0).rows = []:=t6 (by omega);rw[hz];exact⟨by rw[q0],.inl ⟨rfl,q1,Z⟩⟩
        ·have ee:e'=E:=by rw[q3',k3']
         subst ee;rw[a1] at hr';injection hr' with hr';subst hr'
         rw[k6] at q6;injection q6 with q6
         injection q6 with z1 z2 z3
         subst z1;have c3:rowsT.length=(r.p 0).rows.length:=by omega
         refine⟨c3,.inr ⟨cap',a6,e',by rw[q1,c3],by omega,⟨q3,rfl,q3'⟩,q4,q5,h6,by rw[d3];exact q7,by omega,q9,q10,fun i' j s a8 hs=>?_⟩⟩
         match j,hs with
         | 0,hs =>
          injection hs with hs
          subst hs;exact⟨_,by simpa using b0 i' a8,.of_vd (.int .i64 _) (.inr rfl)⟩) (fun b t' a4 e1 g3 a3 i1 U _=>by
        have f1:b≠g.ρ t:=by intro e;rw[e,k5] at a3;injection a3 with a3;injection a3 with a3;exact kq c7 g3 a3.symm
        exact⟨a4,(J b (aT U) f1).trans U,rfl⟩)
       rw[O];exact hK _ w' g (a2.put hd (dst:=o.dst) (t:=.none_) (v:=.tuple #[]) ⟨#[],rfl,rfl,fun j x h=>by simp at h⟩) ⟨V.os,V.tape,V.output,V.size,fun k f3=>J k (y8 f3 hr.base_le) (by omega)⟩
      ·rename_i O;simp only[b7,i8] at h;obtain⟨rfl,_⟩:=h;obtain⟨g',q1,Z,q3⟩:=agI hr (.inr ⟨cap,arr,E,k1,k2,⟨k3,rfl,k3'⟩,k4,k5,k6,k7,k8,k9,k10,k11⟩) k1 k2 k3 k3' k4 k5 k6 c5 (by simpa using k9) (by simpa using k10) h8 hW a1 c7;rw[O];exact hK _ w' g' (q1.put hd (dst:=o.dst) (c0 Z)) q3
      ·cases h
   ·cases h
  ·cases h
 ·cases h
theorem alm(hr:Rel P w g base σ a){call:FuncId->List T->Option (T × Bool)}(c4:av P call){o:Oper}{d5:St}{f:Operand}{xs:Array Operand}{i1:Array TypeId}{h6:List TypeId}(ho:o.op=.call { callee:=.value f,args:=xs,argTypes:=i1 })(hd:∀d,o.dst=some d->d<a.tmps.size)
  (h:evK P call σ o.dst f xs.toList h6=some (d5,true)):Ak P base d5 o a w:=by
 unfold evK at h
 split at h
 ·rename_i d2 i ys hsh c9
  split at h
  ·rename_i t e c7
   split at h
   ·rename_i vs row h5 b3
    split at h
    ·rename_i r ok k0;cases hq:(r.sh.isK&&row.all S.flat && !((ys.map (opd (σ.map (bt t)))).flatMap (eR (σ.map (bt t)))).contains t&&(!r.sh.isKo||(ys.map (opd (σ.map (bt t)))).all fun q=>q.sh.ownOr)&&t.1 != 1000001) with
     | false=>rw[hq] at h;cases h
     | true =>
      rw[hq,f8] at h;simp only[b7,i8] at h;obtain⟨rfl,rfl⟩:=h;rw[a9,a9,a9,a9] at hq;obtain⟨⟨⟨⟨e6,a8⟩,a6⟩,e0⟩,a7⟩:=hq;have a7:t.1≠1000001:=by simpa using a7
      let ts:List Tok:=(ys.map (opd (σ.map (bt t)))).flatMap (eR (σ.map (bt t)))
      have a6:ts.contains t=false:=by
       cases h0:ts.contains t with
       | false=>rfl
       | true =>have a6:(!ts.contains t)=true:=a6;rw[h0] at a6;cases a6
      have c0:=cZ hr f;have c0:VC P w g base (.fn d2 []) ((opd σ f).p 0) (a.eval f):=by generalize opd σ f=q at *;obtain⟨sh,p⟩:=q;simp only at hsh;subst hsh;exact c0
      obtain⟨g1,i4,f2,_⟩:=c0;have g3:g1 = #[]:=by simpa using f2
      subst g3;have c2:=cZ hr (.tmp i);have c2:VC P w g base (.own t true e) ((opd σ (.tmp i)).p 0) (a.eval (.tmp i)):=by generalize opd σ (.tmp i)=q at *;obtain⟨sh,p⟩:=q;simp only at c7;subst c7;exact c2
      obtain⟨l2,a4,e9⟩:=c2;rw[b3] at a4;injection a4 with a4;subst a4;generalize hx:(opd σ (.tmp i)).p 0=x at *;obtain⟨i2,b6⟩:=(c4 _ _ _ k0).k e6
      -- the block of the row
      obtain⟨B,hB,a1⟩:∃B,dg w e row x.rows (a.eval (.tmp i)) B/\∀b,B=some b->b=g.ρ t/\base<=b/\g.owner b=some (.inr t)/\g.prot b=0/\b<w.heap.size:=by
       rcases e9 with⟨h0,h1,A,hv⟩ | ⟨cap,a5,E,k1,k2,⟨k3,rfl,k3'⟩,k4,k5,k6,k7,k8,k9,k10,k11⟩
       ·exact⟨none,.inl ⟨rfl,h0,A,hv⟩,fun b J=>by cases J⟩
       ·refine⟨some (g.ρ t),.inr ⟨g.ρ t,cap,a5,rfl,k1,k2,k3,k6,k7,fun i j s hi hs=>?_⟩,fun b J=>?_⟩
        ·obtain⟨u,q1,q2⟩:=k11 i j s hi hs;have d4:=i6.1 a8 s (w6 hs);exact⟨u,q1,(q2.vd_flat d4).fv d4⟩
        ·injection J with J
         subst J;exact⟨rfl,k4,k5,by simpa using k10,aT k6⟩
      -- what is left of the state,in each world that differs in this block MK
      have b5:∀ {Z:World} {U:G},aI w Z B->(∀b,b<w.heap.size->U.prot b=g.prot b/\U.owner b=g.owner b)->(∀V,V≠t->U.ρ V=g.ρ V/\U.len V=g.len V/\U.wid V=g.wid V/\U.ety V=g.ety V)->U.θ=g.θ->(∀b,Z.heap.size<=b->U.prot b=0/\U.owner b=none)->(∀b,U.path b=g.path b/\U.need b=g.need b)->U.old=g.old->(∀b V,V≠t->U.owner b=some (.inr V)->g.owner b=some (.inr V)) ->
        Rel P Z U base (σ.map (bt t)) a:=by
       intro Z U Y a2 c1 d1 h8 c3 c8 h3;have b0:∀b,B=some b->g.owner b=some (.inr t):=fun b J=>(a1 b J).2.2.1
       have hk:iu P base g U w Z (bt t):=by
        refine iJ (fun b o u h1 h2=>?_) (fun b V O a0 J=>⟨Y.other b J (fun e=>?_),(a2 b J).2,(a2 b J).1⟩) (fun V O=>c1 V O) d1 (fun b J=>Y.other b (hr.low.2.1 b J).2.2.2 (fun e=>?_)) (fun b _ _ _ _=>c3 b) c8
        ·have J:=dn h2;refine⟨(bd (Y.other b J (fun e=>?_)) o).trans h2,by rw[(a2 b J).1];exact h1⟩;have:=(a1 b e).2.2.2.1;omega
        ·have:=b0 b e;rw[this] at a0;injection a0 with a0
         injection a0 with a0
         exact O a0.symm
        ·exact hr.oldNe J (b0 b e) rfl
       refine hr.drop hk d1 (fun b id a0 J=>⟨Y.other b J (fun e=>?_),(a2 b J).2,(a2 b J).1⟩) h8 Y.size (fun b J=>⟨(a2 b (hr.low.2.1 b J).2.2.2).2,(a2 b (hr.low.2.1 b J).2.2.2).1,Y.other b (hr.low.2.1 b J).2.2.2 (fun e=>hr.oldNe J (b0 b e) rfl)⟩) c8 (fun V O=>⟨(c1 V (kq a7 O)).1,(c1 V (kq a7 O)).2.1,fun b ho J=>⟨by rw[(a2 b J).2];exact ho,Y.other b J (fun e=>by have:=b0 b e;rw[this] at ho;injection ho with ho;injection ho with ho;exact kq a7 O ho.symm)⟩⟩) (fun b V O ho=>⟨h3 b V (kq a7 O) ho,(c3 b).1,(c3 b).2⟩);have:=b0 b e;rw[this] at a0;injection a0 with a0
       cases a0
      have l0:ys.length+1=xs.size:=by have:=congrArg List.length c9;simpa using this.symm
      have b4:∀ {Z:World},aI w Z B->Rel P Z g base (σ.map (bt t)) a:=fun Y=>b5 Y (fun _ _=>⟨rfl,rfl⟩) (fun _ _=>⟨rfl,rfl,rfl,rfl⟩) rfl (fun b J=>hr.fresh b (o8 Y.size J)) (fun _=>⟨rfl,rfl⟩) rfl (fun _ _ _ h=>h)
      have c5:∀Z,aI w Z B->ka P (bB g ts).prot Z vs (ys.map a.eval).toArray:=by intro Z Y;obtain⟨k1,k2⟩:=pF (ts:=ts) (b4 Y) h5 (fun t h=>u7.2 h);refine⟨by simp[k1],fun j v hj=>?_⟩;obtain⟨y,q1,q2⟩:=k2 j v hj;exact⟨a.eval y,by simp[q1],q2⟩
      have i3:∀b,B=some b->(bB g ts).prot b=0:=fun b J=>by obtain⟨_,_,q3,q4,_⟩:=a1 b J;rw[Rb q3 a6];exact q4
      have h7:∀b,w.heap.size<=b->(bB g ts).prot b=0:=fun b J=>((hr.seal ts).fresh b J).1
      have c6:r.sh.isKo=true->∀(j:Nat) A n cap,(ys.map a.eval).toArray[j]?=some (.slice A n cap)->0<n->∃b a5 E,A=some ⟨b,0,none⟩/\w.heap[b]?=some (.cells a5 E (0,0)):=by
       intro i0 j A n cap hj hn;rw[i0] at e0;have f3:=i6.1 (show (ys.map (opd (σ.map (bt t)))).all (fun q=>q.sh.ownOr)=true from e0);simp only[F3,u6] at hj;cases hy:ys[j]? with
       | none=>rw[hy] at hj;cases hj
       | some y =>
        rw[hy] at hj;simp only[B1,b7] at hj;have h1:=f3 _ (y4.2 ⟨y,w6 hy,rfl⟩);have h2:=cZ (b4 (aI.refl w B)) y;rw[hj] at h2;generalize opd (σ.map (bt t)) y=q at *;obtain⟨sh,p⟩:=q;unfold Sh.ownOr at h1
        split at h1
        ·rename_i t1 x1 e1 b2;simp only at b2;subst b2;obtain⟨l1,_,ho⟩:=h2;rcases ho with⟨_,_,A1,hv⟩ | ⟨cap1,arr1,E1,k1,k2,k3,k4,k5,k6,_⟩
         ·injection hv with _ hv;omega
         ·injection k1 with k1
          exact⟨_,arr1,E1,k1,k6⟩
        ·rename_i k1 b2;simp only at b2;subst b2;have h2:VD P w g.prot (.int k1) (p 0) (.slice A n cap):=h2;cases h2
        ·cases h1
      have h9:xs.map a.eval = #[a.eval (.tmp i)]++(ys.map a.eval).toArray:=by apply Array.ext';simp[c9]
      intro K Q hK;unfold Oper.wp;have e7:(execOp a.eval o).run P w=.ok (.enter d2 (#[a.eval (.tmp i)]++(ys.map a.eval).toArray)) w:=by simp only[execOp,ho,resolve,i4,Deferred.ofValue,j7,m8,g7,invoke];rw[<- h9];simpa using i2 (xs.map a.eval) w
      rw[e7];refine (b6 e x vs row rfl b3 a8 w _ _ B _ hB i3 h7 c5 c6).mono ?_;rintro ex w' ⟨v',B',rfl,Y,hO,d3⟩
      let b':Nat:=B'.getD 0
      let g2:G:={ prot:=fun b=>if B'=some b then 0 else g.prot b,owner:=fun b=>if B'=some b then some (.inr t) else g.owner b,θ:=g.θ,ρ:=fun u=>if u=t then b' else g.ρ u, len:=fun u=>if u=t then (r.p 0).rows.length else g.len u,wid:=fun u=>if u=t then row.length else g.wid u,ety:=fun u=>if u=t then e else g.ety u,path:=g.path,need:=g.need,old:=g.old }
      have h4:∀b,B'=some b->b<w'.heap.size:=fun b J=>by
       rcases hO with⟨h0,_⟩ | ⟨b1,cap,a5,q1,q2,q3,q4,q5,q6,q7⟩
       ·rw[h0] at J;cases J
       ·rw[q1] at J;injection J with J;subst J;exact aT q5
      have f1:Rel P w' g2 base (σ.map (bt t)) a:=by
       refine b5 Y (fun b J=>?_) (fun V O=>⟨i7 O,i7 O,i7 O,i7 O⟩) rfl (fun b J=>?_) (fun _=>⟨rfl,rfl⟩) rfl (fun b V O h=>by
        change (if _ then _ else _)=_ at h
        split at h
        ·injection h with h;injection h with h;exact absurd h.symm O
        ·exact h)
       ·by_cases a3:B'=some b
        ·rcases d3 b a3 with h1 | h1
         ·obtain⟨_,_,q3,q4,_⟩:=a1 b h1;exact⟨by show (if _ then _ else _)=_;rw[j8 a3,q4],by show (if _ then _ else _)=_;rw[j8 a3,q3]⟩
         ·omega
        ·exact⟨i7 a3,i7 a3⟩
       ·have a3:B'≠some b:=fun e=>by have:=h4 b e;omega
        obtain⟨q1,q2⟩:=hr.fresh b (o8 Y.size J);exact⟨by show (if _ then _ else _)=_;rw[i7 a3,q1],by show (if _ then _ else _)=_;rw[i7 a3,q2]⟩
      have f0:VT P w' g2 base (.c (.own t true e) (r.p 0)) v':=by
       refine⟨row,b3,?_⟩;show dp P w' g2 base t true e row (r.p 0).rows v';rcases hO with⟨h0,h1,A,hv⟩ | ⟨b1,cap,a5,q1,q2,q3,q4,q5,q6,q7⟩
       ·exact .inl ⟨h1,by show (if t=t then _ else _)=0;rw[j8 rfl,h1];rfl,A,hv⟩
       ·have e1:g2.ρ t=b1:=by show (if t=t then B'.getD 0 else _)=_;rw[j8 rfl,q1];rfl
        refine .inr ⟨cap,a5,e,by rw[e1];exact q2,q3,⟨q4,rfl,(j8 rfl).symm⟩,?_,?_,by rw[e1];exact q5,q6,(j8 rfl).symm,(j8 rfl).symm,?_,fun i j s hi hs=>?_⟩
        ·rw[e1];rcases d3 b1 q1 with h1 | h1
         ·exact (a1 b1 h1).2.1
         ·exact o8 hr.base_le h1
        ·rw[e1];exact j8 q1
        ·rw[e1];show (if B'=some b1 then 0 else _)=_;rw[j8 q1];rfl
        ·obtain⟨u,z1,z2⟩:=q7 i j s hi hs;exact⟨u,z1,.of_vd z2.vd (.inr (i6.1 a8 s (w6 hs)))⟩
      exact hK _ w' g2 (f1.put hd (dst:=o.dst) f0) ⟨Y.os,Y.tape,Y.output,Y.size,fun k hk=>Y.other k (y8 hk hr.base_le) (fun e=>by have:=(a1 k e).2.1;omega)⟩
    ·cases h
   ·cases h
  ·cases h
 ·cases h
theorem alz(Z:Rel P w g base σ a){call:FuncId->List T->Option (T × Bool)}(U:av P call){o:Oper}{J:St}{f:Operand}{xs:Array Operand}{O:Array TypeId}(Y:o.op=.call { callee:=.value f,args:=xs,argTypes:=O })(V:∀d,o.dst=some d->d<a.tmps.size)
  (h:evM P call σ o.dst f xs.toList=some (J,true)):Ak P base J o a w:=by
 simp[evM] at h
theorem ajW(Z:Rel P w g base σ a){call:FuncId->List T->Option (T × Bool)}(U:av P call){o:Oper}{J:St}{f:Operand}{xs:Array Operand}{O:Array TypeId}(Y:o.op=.call { callee:=.value f,args:=xs,argTypes:=O })(V:∀d,o.dst=some d->d<a.tmps.size)
  (h:ajO P call σ o.dst f xs.toList=some (J,true)):Ak P base J o a w:=by
 simp[ajO] at h
def fwd(pairs:List (Tok × Tok))(t:Tok):Option Tok:=(pairs.find? (·.1==t)).map (·.2)
def inv(pairs:List (Tok × Tok))(t:Tok):Tok:=((pairs.find? (·.2==t)).map (·.1)).getD t
theorem oU{f:Tok × Tok->Tok}:∀ {pairs:List (Tok × Tok)} {q:Tok × Tok},cj (pairs.map f)=true->q∈pairs->pairs.find? (fun r=>f r==f q)=some q
 | [],q,_,h=>by simp at h
 | r::rs,q,hn,h=>by
  simp only[u5,cj,a9] at hn;rw[List.find?_cons];rcases A2.1 h with e | e
  ·subst e;simp
  ·have O:(f r==f q)=false:=by
    cases J:f r==f q with
    | false=>rfl
    | true =>
     have J:f r=f q:=by simpa using J
     have:(rs.map f).contains (f r)=true:=u7.2 (y4.2 ⟨q,e,J.symm⟩);rw[this] at hn;exact absurd hn.1 (by decide)
   rw[O];exact oU hn.2 e
theorem Dp:∀ {a b c d:List Ce},a.length=c.length->dv (a++b) (c++d)=dv a c++dv b d
 | [],b,[],d,_=>by simp[dv]
 | x::a,b,y::c,d,h=>by have J:=Dp (a:=a) (b:=b) (c:=c) (d:=d) (by simpa using h);cases x <;> cases y <;> simp[dv,J]
theorem yi:∀ {cs rs:List Ce} {j:Nat} {t J:Tok} {x U:Bool} {e O:TypeId},cs[j]?=some (.own t x e)->rs[j]?=some (.own J U O)->(t,J)∈dv cs rs
 | [],rs,j,_,_,_,_,_,_,h,_=>by simp at h
 | c::cs,[],j,_,_,_,_,_,_,_,h=>by simp at h
 | c::cs,r::rs,0,t,J,x,U,e,O,h,h'=>by simp only[n5,b7] at h h';subst h;subst h';simp[dv]
 | c::cs,r::rs,j+1,t,J,x,U,e,O,h,h'=>by have:=yi (cs:=cs) (rs:=rs) (j:=j) (by simpa using h) (by simpa using h');cases c <;> cases r <;> simp[dv,this]
def Hq(g:G)(pairs:List (Tok × Tok)):G:=
 { prot:=g.prot,owner:=fun b=>match g.owner b with | some (.inr t)=>(fwd pairs t).map .inr | _=>none, θ:=g.θ,ρ:=fun t=>g.ρ (inv pairs t),len:=fun t=>g.len (inv pairs t),wid:=fun t=>g.wid (inv pairs t),ety:=fun t=>g.ety (inv pairs t),path:=g.path,need:=g.need,old:=g.old }
theorem ahJ{pairs:List (Tok × Tok)}(h1:cj (pairs.map (·.1))=true)(h2:cj (pairs.map (·.2))=true){U:Nat}(V:U<=base){t J:Tok}(hm:(t,J)∈pairs){Y:Bool}{e:TypeId}(a3:(bm J&&Y)=(bm t&&Y))
  {x:D} {v:Value} (hv:VC P w g base (.own t Y e) x v):VC P w (Hq g pairs) U (.own J Y e) x v:=by
 have O:inv pairs J=t:=by have:=oU (f:=(·.2)) h2 hm;simp only at this;simp[inv,this]
 have ef:fwd pairs t=some J:=by have:=oU (f:=(·.1)) h1 hm;simp only at this;simp[fwd,this]
 obtain⟨row,a1,a0⟩:=hv;refine⟨row,a1,?_⟩;rcases a0 with⟨k0,Z,k2⟩ | ⟨cap,arr,E,Z,k2,k3,k4,k5,k6,k7,k8,k9,k10,k11⟩
 ·exact .inl ⟨k0,by show g.len (inv pairs J)=0;rw[O];exact Z,k2⟩
 ·refine .inr ⟨cap,arr,E,by show v=.slice (some ⟨g.ρ (inv pairs J),0,none⟩) _ _;rw[O];exact Z,k2,by show _/\_/\e=g.ety (inv pairs J);rw[O];exact k3,by show U<=g.ρ (inv pairs J);rw[O];exact o8 V k4,?_,by show w.heap[g.ρ (inv pairs J)]?=_;rw[O];exact k6,k7,by show _=g.len (inv pairs J);rw[O];exact k8,by show _=g.wid (inv pairs J);rw[O];exact k9,?_,fun i j s hi hs=>?_⟩
  ·show (match g.owner (g.ρ (inv pairs J)) with | some (Sum.inr t)=>(fwd pairs t).map Sum.inr | _=>none)=some (.inr J);rw[O,k5];simp[ef]
  ·show g.prot (g.ρ (inv pairs J))=if Y then 0 else g.len (inv pairs J)*g.wid (inv pairs J)
   rw[O];exact k10
  ·obtain⟨z,z1,z2⟩:=k11 i j s hi hs;refine⟨z,z1,z2.mono a3 (fun b o u h1 h2=>⟨h2,h1⟩) (fun _ b o h0 ho a2 hb=>⟨hb,o8 V h0,?_,?_,rfl,rfl,fun e=>e⟩)⟩
   ·show (match g.owner b with | some (Sum.inr t)=>(fwd pairs t).map Sum.inr | _=>none)=some (.inr J);rw[ho];simp[ef]
   ·show b≠g.ρ (inv pairs J);rw[O];exact a2
theorem QD:∀ {cs J:List Ce} {k:Nat},qD k cs=some J->J.length=cs.length/\∀(j:Nat) O,J[j]?=some O->∃c,cs[j]?=some c/\ny (k+j) c=some O
 | [],J,k,h=>by simp only[qD,b7] at h;subst h;exact⟨rfl,fun j c h=>by simp at h⟩
 | c::cs,J,k,h=>by
  unfold qD at h
  split at h
  ·rename_i d ds h1 h2;injection h with h
   subst h;obtain⟨V,Y⟩:=QD h2;refine⟨by simp[V],fun j O U=>?_⟩;cases j with
   | zero =>simp only[n5,b7] at U;subst U;exact⟨c,rfl,h1⟩
   | succ j =>obtain⟨Z,q1,q2⟩:=Y j O (by simpa using U);exact⟨Z,by simpa using q1,by rw[show k+(j+1)=k+1+j from by omega];exact q2⟩
  ·cases h
theorem Hi:∀ {cs J:List Ce} {k:Nat},qD k cs=some J->(dv cs J).map (·.1)=bS cs/\(dv cs J).map (·.2)=bS J
 | [],J,k,h=>by simp only[qD,b7] at h;subst h;exact⟨rfl,rfl⟩
 | c::cs,J,k,h=>by
  unfold qD at h
  split at h
  ·rename_i d ds h1 V;injection h with h
   subst h;obtain⟨O,U⟩:=Hi V;cases c with
   | own t x e =>
    cases x with
    | true =>simp only[ny,b7] at h1;subst h1;exact⟨by simp[dv,bS,O],by simp[dv,bS,U]⟩
    | false =>simp only[ny,b7] at h1;subst h1;exact⟨by simp[dv,bS,O],by simp[dv,bS,U]⟩
   | d s =>simp only[ny,b7] at h1;subst h1;exact⟨by simp[dv,bS,O],by simp[dv,bS,U]⟩
   | kb b =>simp only[ny,b7] at h1;subst h1;exact⟨by simp[dv,bS,O],by simp[dv,bS,U]⟩
   | _=>simp[ny] at h1
  ·cases h
theorem Gt{c U V:Ce}(h:aaA c U=some V):(∃t J e,c=.own t true e/\U=.own J true e/\V=.own t true e/\J.1=0/\bm t=bm J)\/(∃s,U=.d s/\V=.d s):=by
 unfold aaA at h
 split at h
 ·rename_i t e J Z;cases O:(J.1==0&&e==Z&&bm t==bm J) with
  | false=>rw[O] at h;cases h
  | true =>
   rw[O,f8] at h;injection h with h
   subst h;simp only[a9,p6] at O;obtain⟨⟨Y,rfl⟩,q3⟩:=O;exact .inl ⟨t,J,e,rfl,rfl,rfl,Y,q3⟩
 ·rename_i s;injection h with h
  exact .inr ⟨s,rfl,h.symm⟩
 ·cases h
theorem VW:∀ {cs cs2 J:List Ce},nu cs cs2=some J->J.length=cs.length/\cs2.length=cs.length/\∀(j:Nat) U,J[j]?=some U->∃c O,cs[j]?=some c/\cs2[j]?=some O/\aaA c O=some U
 | [],[],J,h=>by simp only[nu,b7] at h;subst h;exact⟨rfl,rfl,fun j c h=>by simp at h⟩
 | [],_::_,J,h=>by simp[nu] at h
 | _::_,[],J,h=>by simp[nu] at h
 | c::cs,O::cs2,J,h=>by
  unfold nu at h
  split at h
  ·rename_i d ds h1 Z;injection h with h
   subst h;obtain⟨Y,k2,k3⟩:=VW Z;refine⟨by simp[Y],by simp[k2],fun j U V=>?_⟩;cases j with
   | zero =>simp only[n5,b7] at V;subst V;exact⟨c,O,rfl,rfl,h1⟩
   | succ j =>obtain⟨c0,c3,q1,q2,q3⟩:=k3 j U (by simpa using V);exact⟨c0,c3,by simpa using q1,by simpa using q2,q3⟩
  ·cases h
theorem MM:∀ {cs cs2 J:List Ce},nu cs cs2=some J->(dv cs2 J).map (·.1)=bS cs2/\(dv cs2 J).map (·.2)=bS J
 | [],[],J,h=>by simp only[nu,b7] at h;subst h;exact⟨rfl,rfl⟩
 | [],_::_,J,h=>by simp[nu] at h
 | _::_,[],J,h=>by simp[nu] at h
 | c::cs,c2::cs2,J,h=>by
  unfold nu at h
  split at h
  ·rename_i d ds h1 V;injection h with h
   subst h;obtain⟨O,U⟩:=MM V;rcases Gt h1 with⟨t,Y,e,rfl,rfl,rfl,_⟩ | ⟨s,rfl,rfl⟩
   ·exact⟨by simp[dv,bS,O],by simp[dv,bS,U]⟩
   ·exact⟨by simp[dv,bS,O],by simp[dv,bS,U]⟩
  ·cases h
theorem Fi:∀ {cs:List Ce} {t:Tok} {e:TypeId},Ce.own t true e∈cs->t∈bS cs
 | [],_,_,h=>by simp at h
 | c::cs,t,e,h=>by
  rcases A2.1 h with h | h
  ·subst h;simp[bS]
  ·have:=Fi h;cases c with
   | own J x O=>cases x <;> simp[bS,this]
   | _=>simp[bS,this]
theorem WE:∀ {cs:List Ce} {t:Tok},t∈bS cs->∃(j:Nat) (e:TypeId),cs[j]?=some (.own t true e)
 | [],_,h=>by simp[bS] at h
 | c::cs,t,h=>by
  have rest:t∈bS cs->∃(j:Nat) (e:TypeId),(c::cs)[j]?=some (.own t true e):=fun h=>by obtain⟨j,e,h⟩:=WE h;exact⟨j+1,e,by simpa using h⟩
  cases c with
  | own O x J =>
   cases x with
   | true =>
    simp only[bS,A2] at h;rcases h with rfl | h
    ·exact⟨0,J,rfl⟩
    ·exact rest h
   | false=>exact rest h
  | _=>exact rest h
def iS:List Tok->Ce->Ce
 | [],c=>c
 | t::ts,c=>iS ts (bt t c)
theorem fD:∀ {ts:List Tok} {c:Ce},(∀t,bt t c=c)->iS ts c=c
 | [],c,_=>rfl
 | t::ts,c,h=>by rw[iS,h t];exact fD h
theorem Mt:∀ {ts:List Tok} {t:Tok} {x:Bool} {e:TypeId},iS ts (.own t x e)=(bif ts.contains t then (bif x then .any else .d (.sl e)) else .own t x e)
 | [],t,x,e=>rfl
 | u::ts,t,x,e=>by
  show iS ts (bif t==u then (bif x then .any else .d (.sl e)) else .own t x e)=_;rw[J1];cases J:(t==u) with
  | true =>simp only[L6,f8];cases x <;> exact fD (fun _=>rfl)
  | false=>rw[F5,f5];exact Mt
theorem HA:∀ {ts:List Tok} {t:Tok} {e:TypeId} {off:Nat},iS ts (.eptr (some t) e off)=(bif ts.contains t then .any else .eptr (some t) e off)
 | [],t,e,off=>rfl
 | u::ts,t,e,off=>by
  show iS ts (bif t==u then .any else .eptr (some t) e off)=_;rw[J1];cases J:(t==u) with
  | true=>simp only[L6,f8];exact fD (fun _=>rfl)
  | false=>rw[F5,f5];exact HA
theorem Mx:∀ {ts:List Tok} {t:Tok} {e:TypeId} {off:Nat} {J:TypeId},iS ts (.inn t e off J)=(bif ts.contains t then .any else .inn t e off J)
 | [],t,e,off,J=>rfl
 | u::ts,t,e,off,J=>by
  show iS ts (bif t==u then .any else .inn t e off J)=_;rw[J1];cases O:(t==u) with
  | true=>simp only[L6,f8];exact fD (fun _=>rfl)
  | false=>rw[F5,f5];exact Mx
theorem Sh1.map_comp(f J:Ce->Ce)(s:Sh1):(s.map f).map J=s.map (fun c=>J (f c)):=by cases s <;> simp[Sh1.map]
theorem Sh.map_comp(f J:Ce->Ce)(s:Sh):(s.map f).map J=s.map (fun c=>J (f c)):=by
 cases s with
 | one x=>simp[Sh.map,Sh1.map_comp]
 | tup xs =>
  simp only[Sh.map,A7]
  congr 1
  exact B3 fun x _=>Sh1.map_comp f J x
theorem St.map_comp(f J:Ce->Ce)(σ:St):(σ.map f).map J=σ.map (fun c=>J (f c)):=by
 simp only[St.map,A7]
 congr 1
 ·exact B3 fun p _=>by simp only[Function.comp,Sh.map_comp]
 ·exact B3 fun p _=>by simp only[Function.comp,Sh.map_comp]
 ·exact B3 fun p _=>by simp[Function.comp]
theorem Nz:∀(ts:List Tok) (σ:St),ni ts σ=σ.map (iS ts)
 | [],σ=>by show σ=σ.map (fun c=>c);obtain⟨r,e,h⟩:=σ;simp[St.map,Sh.map_id']
 | t::ts,σ=>by rw[ni,Nz ts,St.map_comp];rfl
theorem aaJ(hr:Rel P w g base σ a){ts:List Tok}{v v':T}{u:Value}(h:arg P σ v=some v')(hv:VT P w g base v u)(hp:PT v=true)(V:∀t∈eR σ v,ts.contains t=true){gc:G}{b':Nat}(hg:gc.prot=(bB g ts).prot)(ho:∀b,g.old b->gc.old b):VT P w gc b' v' u:=by
 obtain⟨sh,p⟩:=v;cases sh with
 | tup xs=>cases h
 | one x=>cases x with
  | agg xs =>
   unfold arg at h;simp only at h
   split at h
   ·rename_i ss a2;injection h with h;subst h
    obtain⟨a0,rfl,a1⟩:=hv;obtain⟨k1,k2⟩:=aaR (ts:=ts) a1 a2 V;refine⟨a0,rfl,by simp[k1],fun j c Y=>?_⟩;obtain⟨s,hs,rfl⟩:=RM Y;obtain⟨z,O,U⟩:=k2 j s hs;exact⟨z,O,by show VD P w gc.prot _ _ _;rw[hg];exact U⟩
   ·cases h
  | c x =>
   have fin:∀ {s:S},x.aS=some s->(∀t∈pU [x],ts.contains t=true)->VC P w g base x (p 0) u->VT P w gc b' (.c (.d s) (x.aD (p 0))) u:=fun hs V hv=>by show VD P w gc.prot _ _ _;rw[hg];exact PS hv hs V
   cases x with
   | fn f caps =>
    unfold arg at h;simp only at h
    split at h
    ·rename_i cs ds hc;injection h with h;subst h
     obtain⟨a0,rfl,h2,h3⟩:=hv;have key:∀ {caps J:List Cap} {ds Z:b8},mh σ caps ds=some (J,Z)->caps.all (fun | .ptr _ _=>false | _=>true)=true->J.length=caps.length /\
       ∀(j:Nat) c',J[j]?=some c'->∃c,caps[j]?=some c/\∀u,IK P w g base c (ds j) u->IK P w gc b' c' (Z j) u:=by
      intro caps
      induction caps with
      | nil =>intro J ds Z h _;simp only[mh,b7,i8] at h;obtain⟨rfl,rfl⟩:=h;exact⟨rfl,fun j c h=>by simp at h⟩
      | cons c cs ih =>
       intro J ds Z h hn;rw[M6,a9] at hn;unfold mh at h
       split at h
       ·rename_i d x a3 xs h1 h2;simp only[b7,i8] at h;obtain⟨rfl,rfl⟩:=h;obtain⟨k1,k2⟩:=ih h2 hn.2;refine⟨by simp[k1],fun j c' Y=>?_⟩;cases j with
        | zero =>
         simp only[n5,b7] at Y;subst Y;refine⟨c,rfl,fun u hu=>?_⟩;cases c with
         | d s =>simp only[uF,b7,i8] at h1;obtain⟨rfl,rfl⟩:=h1;show VD P w gc.prot _ _ _;rw[hg];exact gA hu
         | cptr cells off =>simp only[uF,b7,i8] at h1;obtain⟨rfl,rfl⟩:=h1;obtain⟨b,o,O,U,q3⟩:=hu;refine⟨b,o,O,ho b U,fun j s hs=>?_⟩;obtain⟨z,z1,z2⟩:=q3 j s hs;exact⟨z,z1,by rw[hg];exact gA z2⟩
         | ptr id off=>simp at hn
        | succ j =>obtain⟨c0,O,U⟩:=k2 j c' (by simpa using Y);refine⟨c0,by simpa using O,fun u hu=>?_⟩;rw[aJ];exact U u (by rw[dG];exact hu)
       ·cases h
     obtain⟨k1,k2⟩:=key hc hp;refine⟨a0,rfl,by rw[h2,k1],fun j c Y=>?_⟩;obtain⟨c0,O,U⟩:=k2 j c Y;obtain⟨z,z1,z2⟩:=h3 j c0 O;exact⟨z,z1,U z z2⟩
    ·cases h
   | cptr cells off =>simp only[arg,b7] at h;subst h;obtain⟨b,o,O,U,q3⟩:=hv;refine⟨b,o,O,ho b U,fun j s hs=>?_⟩;obtain⟨z,z1,z2⟩:=q3 j s hs;exact⟨z,z1,by rw[hg];exact gA z2⟩
   | ptr id off=>cases hp
   | eptr tk e off=>cases hp
   | any=>cases h
   | d s =>simp only[arg,Ce.aS,Ce.toS,b7] at h;subst h;exact fin rfl V hv
   | kb b =>simp only[arg,Ce.aS,Ce.toS,b7] at h;subst h;exact fin rfl V hv
   | own t xm e =>simp only[arg,Ce.aS,Ce.toS,b7] at h;subst h;exact fin rfl V hv
   | inn t e off ei =>simp only[arg,Ce.aS,b7] at h;subst h;exact fin rfl V hv
theorem UI(O:Rel P w g base σ a){ts:List Tok}{gc:G}{b':Nat}(Y:gc.prot=(bB g ts).prot)(V:∀b,g.old b->gc.old b):∀ {xs:List Operand} {J:List T},NJ P σ (xs.map (opd σ))=some J->xs.all (fun y=>PT (opd σ y))=true->(∀t∈(xs.map (opd σ)).flatMap (eR σ),ts.contains t=true) ->
  J.length=xs.length/\∀(j:Nat) v,J[j]?=some v->∃x,xs[j]?=some x/\VT P w gc b' v (a.eval x)
 | [],J,h,_,_=>by simp only[H5,NJ,b7] at h;subst h;exact⟨rfl,fun j v h=>by simp at h⟩
 | x::xs,J,h,hn,ht=>by
  simp only[u5,NJ] at h;rw[M6,a9] at hn
  split at h
  ·rename_i d ds h1 h2;injection h with h;subst h
   obtain⟨Z,k2⟩:=UI O Y V h2 hn.2 (fun t h=>ht t (by simp only[u5,F2,m7];exact .inr h));refine⟨by simp[Z],fun j v U=>?_⟩;cases j with
   | zero =>simp only[n5,b7] at U;subst U;exact⟨x,rfl,aaJ O h1 (cZ O x) hn.1 (fun t h=>ht t (by simp only[u5,F2,m7];exact .inl h)) Y V⟩
   | succ j =>obtain⟨y,q1,q2⟩:=k2 j v (by simpa using U);exact⟨y,by simpa using q1,q2⟩
  ·cases h
theorem WY{pairs:List (Tok × Tok)}{t:Tok}(h:t ∉ pairs.map (·.1)):fwd pairs t=none:=by
 unfold fwd;rw[List.find?_eq_none.2]
 ·rfl
 ·intro q O J;exact h (y4.2 ⟨q,O,by simpa using J⟩)
theorem aaK{pairs:List (Tok × Tok)}(h1:cj (pairs.map (·.1))=true){t J:Tok}(O:(t,J)∈pairs):fwd pairs t=some J:=by have:=oU (f:=(·.1)) h1 O;simp only at this;simp[fwd,this]
theorem aaP{pairs:List (Tok × Tok)}(U:cj (pairs.map (·.2))=true){t J:Tok}(O:(t,J)∈pairs):inv pairs J=t:=by have:=oU (f:=(·.2)) U O;simp only at this;simp[inv,this]
noncomputable def aaj(n:Nat)(g:G)(base bx:Nat)(pairs:List (Tok × Tok)):G:=
 let J:Nat->Option (Nat ⊕ Tok):=fun k=>if k=bx then some (.inl 1000000) else match g.owner k with
  | some (.inr t)=>if g.prot k=0/\base<=k then (fwd pairs t).map Sum.inr else none
  | _=>none
 { prot:=g.prot,owner:=J,θ:=fun _=>bx,ρ:=fun t=>g.ρ (inv pairs t),len:=fun t=>g.len (inv pairs t),wid:=fun t=>g.wid (inv pairs t),ety:=fun t=>g.ety (inv pairs t),path:=g.path,need:=g.need, old:=fun k=>k<n/\J k=none }
theorem agW{n bx:Nat}{pairs:List (Tok × Tok)}(h1:cj (pairs.map (·.1))=true)(h2:cj (pairs.map (·.2))=true)(a3:∀t,g.owner bx≠some (.inr t)){t J:Tok}(hm:(t,J)∈pairs){e:TypeId}(a2:bm J=bm t)
  {x:D} {v:Value} (hv:VC P w g base (.own t true e) x v):VC P w (aaj n g base bx pairs) 0 (.own J true e) x v:=by
 have O:=aaP h2 hm;have ef:=aaK h1 hm;obtain⟨row,a1,a0⟩:=hv;refine⟨row,a1,?_⟩;rcases a0 with⟨k0,Z,k2⟩ | ⟨cap,arr,E,Z,k2,k3,k4,k5,k6,k7,k8,k9,k10,k11⟩
 ·exact .inl ⟨k0,by show g.len (inv pairs J)=0;rw[O];exact Z,k2⟩
 ·have a4:g.prot (g.ρ t)=0:=by rw[k10];rfl
  have V:∀b,g.owner b=some (.inr t)->g.prot b=0->base<=b->(aaj n g base bx pairs).owner b=some (.inr J):=fun b q1 q2 q3=>by show (if b=bx then _ else match g.owner b with | some (.inr t)=>if g.prot b=0/\base<=b then (fwd pairs t).map Sum.inr else none | _=>none)=_;rw[i7 (by intro e;rw[e] at q1;exact a3 t q1),q1];simp[q2,q3,ef]
  refine .inr ⟨cap,arr,E,by show v=.slice (some ⟨g.ρ (inv pairs J),0,none⟩) _ _;rw[O];exact Z,k2,by show _/\_/\e=g.ety (inv pairs J);rw[O];exact k3,y5 _,?_,by show w.heap[g.ρ (inv pairs J)]?=_;rw[O];exact k6,k7,by show _=g.len (inv pairs J);rw[O];exact k8,by show _=g.wid (inv pairs J);rw[O];exact k9,?_,fun i j s hi hs=>?_⟩
  ·show (aaj n g base bx pairs).owner (g.ρ (inv pairs J))=_;rw[O];exact V _ k5 a4 k4
  ·show g.prot (g.ρ (inv pairs J))=if true then 0 else _
   rw[O];exact k10
  ·obtain⟨z,z1,U⟩:=k11 i j s hi hs;refine⟨z,z1,?_⟩;unfold ci at U ⊢;rw[a2]
   split at U
   ·rename_i Y;rw[j8 Y];refine TR.mono (fun π=>π) (fun _ _ _=>rfl) U (fun b π n' o _ hl ho=>⟨ho,?_⟩) (by simp);obtain⟨l0,l1,l2,l3,l4,l5⟩:=hl;exact⟨y5 _,V b l1 l5 l0,by show b≠g.ρ (inv pairs J);rw[O];exact l2,l3,l4,l5⟩
   ·rename_i Y;rw[i7 Y];exact U
noncomputable def ic(g gs g':G)(old:Nat->Prop)(bx id d:Nat)(pairs:List (Tok × Tok)):G:=by
 classical exact
 { prot:=g'.prot,owner:=fun k=>if k=bx then some (.inl id) else if old k then gs.owner k else match g'.owner k with | some (.inr t)=>some (.inr ((fwd pairs t).getD (d,t.2))) | _=>none,θ:=gs.θ,ρ:=fun t=>if t∈pairs.map (·.2) then g'.ρ (inv pairs t) else if t.1=d then g'.ρ (0,t.2) else gs.ρ t,len:=fun t=>if t∈pairs.map (·.2) then g'.len (inv pairs t) else if t.1=d then g'.len (0,t.2) else gs.len t,wid:=fun t=>if t∈pairs.map (·.2) then g'.wid (inv pairs t) else if t.1=d then g'.wid (0,t.2) else gs.wid t,ety:=fun t=>if t∈pairs.map (·.2) then g'.ety (inv pairs t) else if t.1=d then g'.ety (0,t.2) else gs.ety t,path:=fun k=>if old k then gs.path k else g'.path k,need:=fun k=>if old k then gs.need k else g'.need k,old:=gs.old }
theorem Uu{gl gs:G}{old:Nat->Prop}{bx id d:Nat}{pairs:List (Tok × Tok)}(a1:∀k,old k->g'.owner k=none)(a4:∀t,g'.owner bx≠some (.inr t))(hb:∀k,¬old k->base<=k){u t:Tok}
  (a5:(ic gl gs g' old bx id d pairs).ρ t=g'.ρ u/\(ic gl gs g' old bx id d pairs).len t=g'.len u/\(ic gl gs g' old bx id d pairs).wid t=g'.wid u/\(ic gl gs g' old bx id d pairs).ety t=g'.ety u) (hf:(fwd pairs u).getD (d,u.2)=t)
  {xm:Bool} {e:TypeId} (a3:bm t=bm u) {x:D} {v:Value} (hv:VC P w g' 0 (.own u xm e) x v):VC P w (ic gl gs g' old bx id d pairs) base (.own t xm e) x v:=by
 obtain⟨row,Z,a0⟩:=hv;obtain⟨e1,e2,e3,e4⟩:=a5;have J:∀k,g'.owner k=some (.inr u)->¬old k/\(ic gl gs g' old bx id d pairs).owner k=some (.inr t):=fun k hk=>by
  have U:¬old k:=fun h=>by rw[a1 k h] at hk;cases hk
  refine⟨U,?_⟩;have a2:k≠bx:=by intro e;rw[e] at hk;exact a4 u hk
  simp only[ic,i7 a2,i7 U,hk,hf]
 refine⟨row,Z,?_⟩;rcases a0 with⟨k0,k1,Y⟩ | ⟨cap,arr,E,k1,Y,k3,k4,k5,k6,k7,k8,k9,k10,k11⟩
 ·exact .inl ⟨k0,by rw[e2];exact k1,Y⟩
 ·refine .inr ⟨cap,arr,E,by rw[e1];exact k1,Y,by rw[e4];exact k3,by rw[e1];exact hb _ (J _ k5).1,by rw[e1];exact (J _ k5).2,by rw[e1];exact k6,k7,by rw[e2];exact k8,by rw[e3];exact k9,by rw[e1,e2,e3];exact k10,fun i j s hi hs=>?_⟩;obtain⟨z,z1,O⟩:=k11 i j s hi hs;refine⟨z,z1,?_⟩;unfold ci at O ⊢;rw[a3]
  split at O
  ·rename_i hd;rw[j8 hd];refine TR.mono (fun π=>π) (fun _ _ _=>rfl) O (fun b π n' o _ hl ho=>⟨ho,?_⟩) (by simp);obtain⟨l0,l1,l2,l3,l4,l5⟩:=hl;obtain⟨V,m2⟩:=J b l1;exact⟨hb _ V,m2,by rw[e1];exact l2,by simp only[ic,i7 V];exact l3,by simp only[ic,i7 V];exact l4,l5⟩
  ·rename_i hd;rw[i7 hd];exact O
theorem alt(hr:Rel P w g base σ a){call:FuncId->List T->Option (T × Bool)}(l3:av P call){o:Oper}{o6:St}{d:Nat}{f:Operand}{xs:Array Operand}{s6:Array TypeId}(ho:o.op=.call { callee:=.value f,args:=xs,argTypes:=s6 })(d5:o.dst=some d)(hd:∀d,o.dst=some d->d<a.tmps.size)
  (h:evP P call σ d f xs.toList=some (o6,true)):Ak P base o6 o a w:=by
 unfold evP at h
 split at h
 rotate_left
 ·cases h
 rename_i f1 caps x ys hsh hxs
 split at h
 rotate_left
 ·cases h
 rename_i id k4
 split at h
 rotate_left
 ·cases h
 rename_i cs ds l9
 split at h
 rotate_left
 ·cases h
 rename_i d4 vs qs es k3 r7 n2
 split at h
 rotate_left
 ·cases h
 rename_i r ok x4
 split at h
 rotate_left
 ·cases h
 rename_i cs2 res k5
 split at h
 rotate_left
 ·cases h
 rename_i a8 e9;simp only at h;generalize o2:(ys.map (opd σ)).flatMap (eR σ)++eQ σ caps=ts at h;cases hq:(id != d&&cj (bS cs)&&cj (bS a8)&&(bS cs).all (fun t=>t.1 != d&&t.1 != 1000001 && !ts.contains t)&&cj (bS cs2)&&(toks (res.flatMap Sh1.ces)).all (fun t => !(bS cs2).contains t)&&(res.flatMap Sh1.ces).all UG&&PT (opd σ f)&&ys.all (fun y=>PT (opd σ y))&&cj (bS d4)&&Nat.ble cs.length 1000000) with
 | false=>rw[hq] at h;cases h
 | true =>
  rw[hq,f8] at h;simp only[b7,i8] at h;obtain⟨rfl,rfl⟩:=h;simp only[a9,D1,ne_eq] at hq;obtain⟨⟨⟨⟨⟨⟨⟨⟨⟨⟨x8,r5⟩,q7⟩,l5⟩,x1⟩,l4⟩,l0⟩,s3⟩,s5⟩,u3⟩,k7⟩:=hq;have k7:cs.length<=1000000:=v5 k7;have f0:∀t∈bS cs,t.1≠d/\t.1≠1000001/\ts.contains t=false:=fun t J=>by have:=i6.1 l5 t J;simpa [and_assoc] using this
  have r3:=hd d d5;have hd6:d<1000000:=y8 r3 hr.defers.2;have q8:xs=(x::ys).toArray:=by cases xs;simp_all
  -- the box
  have i2:a.eval x=.pointer (some ⟨g.θ id,0,none⟩):=by have i2:=cZ hr x;generalize opd σ x=q at *;obtain⟨sh,p⟩:=q;simp only at k4;subst k4;exact i2
  obtain⟨b1,b2,b3,b4,c7,E,b5,b6⟩:=hr.box id cs ds l9;have x7:=aT b5
  -- the callee's ghost
  let gs:=bB g ts
  have c5:Rel P w gs base (σ.seal ts) a:=hr.seal ts;obtain⟨n1,t0⟩:=Hi k3;generalize k9:dv cs d4=pairs at *;have w2:cj (pairs.map (·.1))=true:=by rw[n1];exact r5
  have u1:cj (pairs.map (·.2))=true:=by rw[t0];exact u3
  let gc:=aaj w.heap.size gs base (g.θ id) pairs
  have x5:∀k,gc.owner k=none->k≠g.θ id:=fun k h e=>by subst e;have:gc.owner (g.θ id)=some (.inl 1000000):=j8 rfl;rw[this] at h;cases h
  have b0:∀k,k≠g.θ id->(∀t,gs.owner k=some (.inr t)->t∈bS cs->gs.prot k=0->base<=k->False)->gc.owner k=none:=fun k a1 hk=>by
   show (if k=g.θ id then _ else match gs.owner k with | some (.inr t)=>if gs.prot k=0/\base<=k then (fwd pairs t).map Sum.inr else none | _=>none)=none;rw[i7 a1]
   split
   ·rename_i t w4
    split
    ·rename_i l6;rw[WY (by rw[n1];exact fun hm=>hk t w4 hm l6.1 l6.2)];rfl
    ·rfl
   ·rfl
  have s2:∀t,gs.owner (g.θ id)≠some (.inr t):=fun t e=>by have e:g.owner (g.θ id)=some (.inr t):=e;rw[b2] at e;cases e
  have f3:∀b,g.old b->gc.old b:=fun b hb=>by obtain⟨q1,q2,q3,q4⟩:=hr.low.2.1 b hb;exact⟨q4,b0 b (hr.oldNe hb b2) (fun t J=>by have J:g.owner b=some (.inr t):=J;rw[q1] at J;cases J)⟩
  -- what is handed gZ
  have i1:VCs P w gc 0 d4 (mR cs ds) c7:=by
   obtain⟨k1,k2⟩:=QD k3;refine⟨by rw[b6.1,k1],fun j c1 hj=>?_⟩;obtain⟨c,hc,a5⟩:=k2 j c1 hj;obtain⟨u,hu,hv⟩:=b6.2 j c hc;refine⟨u,hu,?_⟩;rw[Lb cs ds j c hc];cases c with
   | d s =>simp only[ny,b7] at a5;subst a5;exact gA (ts:=ts) hv
   | kb b =>simp only[ny,b7] at a5;subst a5;have hv:u=.bool b:=hv;subst hv;exact VD.bool (.b b)
   | own t xm e =>
    cases xm with
    | false =>simp only[ny,b7] at a5;subst a5;obtain⟨row,c4,hv⟩:=hv;exact gA (ts:=ts) (nO c4 hv)
    | true =>
     simp only[ny,b7] at a5;subst a5;have u2:=Fi (w6 hc);have k0:=ym (base:=base) g ts w _ _ _ hv;change VC P w gs base (.own t (true && !ts.contains t) e) _ _ at k0;rw[(f0 t u2).2.2] at k0;refine agW w2 u1 s2 (by rw[<- k9];exact yi hc hj) ?_ k0;show Nat.ble 1000000 (bif bm t then 1000000+(0+j) else 0+j)=bm t;cases o1:bm t with
     | true=>rw[f8];simp
     | false =>
      rw[f5];have z0:0+j<1000000:=by have:=(g5.1 hc).1;omega
      cases t4:Nat.ble 1000000 (0+j) with
      | false=>rfl
      | true =>have:=v5 t4;omega
   | _=>simp[ny] at a5
  have o4:=cZ hr f;have o4:VC P w g base (.fn f1 caps) ((opd σ f).p 0) (a.eval f):=by generalize opd σ f=q at *;obtain⟨sh,p⟩:=q;simp only at hsh;subst hsh;exact o4
  have r4:arg P σ (opd σ f)=some (.c (.fn f1 qs) (.l [es])):=by generalize opd σ f=q at *;obtain⟨sh,p⟩:=q;simp only at hsh;subst hsh;unfold arg;simp only at n2 ⊢;rw[n2]
  have p3:∀t∈(ys.map (opd σ)).flatMap (eR σ),ts.contains t=true:=fun t J=>u7.2 (by rw[<- o2];exact m7.2 (.inl J))
  have o9:∀t∈eR σ (opd σ f),ts.contains t=true:=fun t J=>u7.2 (by rw[<- o2];refine m7.2 (.inr ?_);unfold eR at J;rw[hsh] at J;exact J)
  have r6:=aaJ (gc:=gc) (b':=0) hr r4 (cZ hr f) s3 o9 rfl f3;obtain⟨c0,x2,p5,p1⟩:VC P w gc 0 (.fn f1 qs) (.l [es]) (a.eval f):=r6;obtain⟨k1,k2⟩:=UI (gc:=gc) (b':=0) hr rfl f3 r7 s5 p3;have k8:afo P w gc (g.θ id) d4 (mR cs ds) (vs++vf qs es) ((ys.map a.eval).toArray++c0):=by
   refine⟨rfl,j8 rfl,(show (bB g ts).prot (g.θ id)=0 by rw[Es b2];exact b3),⟨c7,E,b5,i1⟩,fun k hk=>?_,fun k hk=>⟨hk.2,hk.1⟩,by simp[k1,td,p5],fun j t hj=>?_⟩
   ·obtain⟨q1,q2⟩:=c5.fresh k hk;exact⟨q1,b0 k (by omega) (fun t J=>by rw[q2] at J;cases J)⟩
   ·rw[w9] at hj
    split at hj
    ·rename_i s1;obtain⟨y,hy,u0⟩:=k2 j t hj;refine⟨a.eval y,?_,u0⟩;rw[r9 (by simp;omega)];simp[hy]
    ·rename_i v3;rw[GC] at hj;cases hc:qs[j - vs.length]? with
     | none=>rw[hc] at hj;cases hj
     | some c =>
      rw[hc] at hj;injection hj with hj;subst hj
      obtain⟨u,m3,m4⟩:=p1 _ c hc;refine⟨u,?_,?_⟩
      ·rw[A4 (by simp;omega)];simp only[z6,m9,<- k1];exact m3
      ·have m4:IK P w gc 0 c (es (j - vs.length)) u:=m4;cases c <;> exact m4
  have p0:r.sh.isP=true:=by rw[k5];rfl
  obtain⟨x0,i4⟩:=(l3 _ _ _ x4).p p0;intro K Q hK;unfold Oper.wp;have q6:(execOp a.eval o).run P w=.ok (.enter f1 (#[.pointer (some ⟨g.θ id,0,none⟩)]++((ys.map a.eval).toArray++c0))) w:=by
   simp only[execOp,ho,resolve,x2,Deferred.ofValue,j7,m8,g7,invoke];have e:xs.map a.eval++c0 = #[.pointer (some ⟨g.θ id,0,none⟩)]++((ys.map a.eval).toArray++c0):=by
    subst q8;rw[<- J2]
    congr 1
    simp[i2]
   simpa [e] using x0 (xs.map a.eval++c0) w
  rw[q6];refine (i4 d4 (mR cs ds) (vs++vf qs es) cs2 res rfl k5 w gc (g.θ id) _ k8).mono ?_;rintro ex w' ⟨v,g',rfl,hE⟩;obtain⟨l7,f2⟩:=MM e9;obtain⟨o3,o5,n0⟩:=VW e9;generalize g3:dv cs2 a8=O at *;have v4:cj (O.map (·.1))=true:=by rw[l7];exact x1
  have t3:cj (O.map (·.2))=true:=by rw[f2];exact q7
  let U:=ic g gs g' gc.old (g.θ id) id d O
  have d3:∀t∈bS a8,t∈bS cs:=fun t J=>by
   obtain⟨j,e,hj⟩:=WE J;obtain⟨c,c2,q1,q2,q3⟩:=n0 j _ hj;rcases Gt q3 with⟨t1,t',e1,rfl,rfl,Z,_⟩ | ⟨s,_,Z⟩
   ·injection Z with Z _ h4
    subst Z;exact Fi (w6 q1)
   ·cases Z
  have a7:∀k,gc.old k->g'.prot k=gs.prot k:=fun k hk=>(hE.old k hk).2.1
  -- blocks that are not the callee's
  have a4:∀k,k<w.heap.size->k≠g.θ id->(∀t,g.owner k=some (.inr t)->t∈bS cs->gs.prot k=0->base<=k->False)->gc.old k:=fun k h1 Y Z=>⟨h1,b0 k Y Z⟩
  have q5:∀b o u,o<gs.prot b->w.cell? ⟨b,o,none⟩=some u->gc.old b:=fun b o u h1 Y=>by
   refine a4 b (dn Y) (fun e=>?_) (fun t _ _ hp _=>by omega);subst e;have:gs.prot (g.θ id)=0:=by show (bB g ts).prot _=_;rw[Es b2];exact b3
   omega
  have c3:∀b o u,o<gs.prot b->w.cell? ⟨b,o,none⟩=some u->w'.cell? ⟨b,o,none⟩=some u/\o<U.prot b:=fun b o u h1 Y=>by have hk:=q5 b o u h1 Y;exact⟨(bd (hE.old b hk).1 o).trans Y,by show o<g'.prot b;rw[a7 b hk];exact h1⟩
  have c8:∀ {s:S} {x:D} {v:Value},VD P w gs.prot s x v->VD P w' U.prot s x v:=fun h=>h.mono c3
  have a6:∀t,t ∉ bS cs->t.1≠d->U.ρ t=gs.ρ t/\U.len t=gs.len t/\U.wid t=gs.wid t/\U.ety t=gs.ety t:=fun t h1 Y=>by
   have Z:t ∉ O.map (·.2):=by rw[f2];exact fun h=>h1 (d3 t h)
   simp only[U,ic,i7 Z,i7 Y,and_self]
  have d2:∀b t,t ∉ bS cs->g.owner b=some (.inr t)->b<w.heap.size->w'.heap[b]?=w.heap[b]?/\U.owner b=some (.inr t)/\U.path b=gs.path b/\U.need b=gs.need b/\U.prot b=gs.prot b:=fun b t h1 Y Z=>by
   have a1:b≠g.θ id:=fun e=>by rw[e,b2] at Y;cases Y
   have hk:=a4 b Z a1 (fun t' c6 hm _ _=>by rw[Y] at c6;injection c6 with c6;injection c6 with c6;subst c6;exact h1 hm);refine⟨(hE.old b hk).1,?_,j8 hk,j8 hk,a7 b hk⟩;simp only[U,ic,i7 a1,j8 hk];exact Y
  have e6:∀ {t:Tok} {xm:Bool} {e:TypeId} {row:List S} {rows:List b8} {v:Value},t ∉ bS cs->t.1≠d->dp P w gs base t xm e row rows v->dp P w' U base t xm e row rows v:=by
   intro t xm e row rows v c9 i3 h;obtain⟨e1,e2,e3,e4⟩:=a6 t c9 i3;rcases h with⟨h0,h1,Y⟩ | ⟨cap,c7,E,h1,Y,Z,h4,h5,h6,h7,h8,h9,h10,h11⟩
   ·exact .inl ⟨h0,by rw[e2];exact h1,Y⟩
   ·obtain⟨m1,m2,m3,m4,m5⟩:=d2 _ t c9 h5 (aT h6);refine .inr ⟨cap,c7,E,by rw[e1];exact h1,Y,by rw[e4];exact Z,by rw[e1];exact h4,by rw[e1];exact m2,by rw[e1,m1];exact h6,h7,by rw[e2];exact h8,by rw[e3];exact h9,by rw[e1,e2,e3,m5];exact h10,fun i j s hi hs=>?_⟩;obtain⟨u,q1,q2⟩:=h11 i j s hi hs;exact⟨u,q1,q2.mono rfl c3 (fun _ b o h0 V a1 hb=>by obtain⟨z1,z2,z3,z4,z5⟩:=d2 b t c9 V (aT hb);exact⟨z1.trans hb,h0,z2,by rw[e1];exact a1,z3,z4,fun e=>z5.trans e⟩)⟩
  have g1:∀ {cells:List S} {off:Nat} {x:D} {v:Value},fU P w gs base cells off x v->fU P w' U base cells off x v:=by rintro cells off x v ⟨b,o,h1,Y,Z⟩;refine⟨b,o,h1,Y,fun j s hs=>?_⟩;obtain⟨u,z1,z2⟩:=Z j s hs;exact⟨u,(bd (hE.old b (f3 b Y)).1 _).trans z1,c8 z2⟩
  have hk:iu P base gs U w w' (fun c=>eW d (iS (bS cs) c)):=by
   intro c x v hv;show VC P w' U base (eW d (iS (bS cs) c)) x v;cases c with
   | any=>rw[fD (fun _=>rfl)];trivial
   | d s=>rw[fD (fun _=>rfl)];exact c8 hv
   | kb b=>rw[fD (fun _=>rfl)];exact hv
   | own t xm e =>
    obtain⟨row,c4,hv⟩:=hv;rw[Mt];by_cases J:t∈bS cs
    ·rw[show (bS cs).contains t=true from u7.2 J,f8];cases xm with
     | true=>trivial
     | false=>exact c8 (nO c4 hv)
    ·rw[show (bS cs).contains t=false from by simpa using J,f5];show VC P w' U base (bif t.1==d then (bif xm then .any else .d (.sl e)) else .own t xm e) x v;by_cases a0:t.1=d
     ·rw[show (t.1==d)=true from by simpa using a0,f8];cases xm with
      | true=>trivial
      | false=>exact c8 (nO c4 hv)
     ·rw[show (t.1==d)=false from by simpa using a0,f5];exact⟨row,c4,e6 J a0 hv⟩
   | ptr a3 off =>
    rw[fD (fun _=>rfl)];show VC P w' U base (bif a3==d then .any else .ptr a3 off) x v;cases (a3==d) with
    | true=>trivial
    | false=>exact hv
   | eptr tk e off =>
    cases tk with
    | none =>rw[fD (fun _=>rfl)];obtain⟨row,b,o,h1,Y,Z,h4⟩:=hv;refine⟨row,b,o,h1,Y,Z,fun j s hs=>?_⟩;obtain⟨u,q1,q2,q3⟩:=h4 j s hs;obtain⟨z1,z2⟩:=c3 b _ u q2 q1;exact⟨u,z1,z2,c8 q3⟩
    | some t =>
     obtain⟨row,h1,Y,Z,u,h4⟩:=hv;rw[HA];by_cases J:t∈bS cs
     ·rw[show (bS cs).contains t=true from u7.2 J,f8];trivial
     ·rw[show (bS cs).contains t=false from by simpa using J,f5];show VC P w' U base (bif t.1==d then .any else .eptr (some t) e off) x v;by_cases a0:t.1=d
      ·rw[show (t.1==d)=true from by simpa using a0,f8];trivial
      ·rw[show (t.1==d)=false from by simpa using a0,f5];exact⟨row,h1,by rw[(a6 t J a0).1];exact Y,Z,u,e6 J a0 h4⟩
   | inn t e off ei =>
    rw[Mx];by_cases J:t∈bS cs
    ·rw[show (bS cs).contains t=true from u7.2 J,f8];trivial
    ·rw[show (bS cs).contains t=false from by simpa using J,f5];show VC P w' U base (bif t.1==d then .any else .inn t e off ei) x v;by_cases a0:t.1=d
     ·rw[show (t.1==d)=true from by simpa using a0,f8];trivial
     ·rw[show (t.1==d)=false from by simpa using a0,f5];exact mZ hv (a6 t J a0).1 (fun o h5 h6=>(d2 _ t J h5 (aT h6)).1.trans h6) (fun hu=>e6 J a0 hu)
   | cptr cells off=>rw[fD (fun _=>rfl)];exact g1 hv
   | fn f caps =>
    rw[fD (fun _=>rfl)];show VC P w' U base (bif caps.all (fun | .ptr id _=>id != d | _=>true) then .fn f caps else .any) x v;generalize caps.all _=q;cases q with
    | false=>trivial
    | true =>
     obtain⟨c7,h1,Y,Z⟩:=hv;refine⟨c7,h1,Y,fun j c hc=>?_⟩;obtain⟨u,hu,e0⟩:=Z j c hc;refine⟨u,hu,?_⟩;cases c with
     | d s=>exact c8 e0
     | ptr id off=>exact e0
     | cptr cells off=>exact g1 e0
  have k6:∀k,¬gc.old k->base<=k:=fun k hk=>by
   refine Nat.le_of_not_lt fun s1=>hk ?_
   have:=hr.base_le;exact a4 k (by omega) (by omega) (fun t _ _ _ h=>by omega)
  -- the callee's cells,under the caller's names
  obtain⟨i0,E',e1,e2⟩:=hE.cells;have r1:VCs P w' U base a8 (sub r.p 1 a8.length) i0:=by
   refine⟨by rw[e2.1,o5,o3],fun j c' hj=>?_⟩;obtain⟨c,c2,q1,q2,q3⟩:=n0 j c' hj;obtain⟨u,hu,hv⟩:=e2.2 j c2 q2;refine⟨u,hu,?_⟩;rw[o3,<- o5];rcases Gt q3 with⟨t,t',e,rfl,rfl,rfl,h0,o1⟩ | ⟨s,rfl,rfl⟩
   ·have hm:(t',t)∈O:=by rw[<- g3];exact yi q2 hj
    have d1:t∈O.map (·.2):=y4.2 ⟨_,hm,rfl⟩;have hi:=aaP t3 hm;refine Uu (fun k hk=>(hE.old k hk).2.2) hE.boxo.2 k6 (u:=t') ⟨?_,?_,?_,?_⟩ (by rw[aaK v4 hm];rfl) o1 hv
    ·simp only[ic,j8 d1,hi]
    ·simp only[ic,j8 d1,hi]
    ·simp only[ic,j8 d1,hi]
    ·simp only[ic,j8 d1,hi]
   ·exact hv
  have q9:VT P w' U base ⟨(NX res).map (FW d),sub r.p (1+cs2.length) (res.flatMap Sh1.ces).length⟩ v:=by
   refine aft (fun c hc x u o0=>?_) hE.res;have p4:(NX res).ces=res.flatMap Sh1.ces:=by
    cases res with
    | nil=>rfl
    | cons y ys=>cases ys <;> simp[NX,Sh.ces]
   rw[p4] at hc;have o7:=i6.1 l0 c hc;cases c with
   | d s=>exact o0
   | own t xm e =>
    obtain⟨t1,ix⟩:=t;have v0:t1=0:=by simpa [UG] using o7
    subst v0;have r8:((0,ix):Tok) ∉ bS cs2:=by have:=i6.1 l4 (0,ix) (BL hc);simpa using this
    have e7:((d,ix):Tok) ∉ O.map (·.2):=by rw[f2];exact fun h=>(f0 _ (d3 _ h)).1 rfl
    show VC P w' U base (.own (d,ix) xm e) x u;refine Uu (gl:=g) (gs:=gs) (old:=gc.old) (bx:=g.θ id) (id:=id) (d:=d) (pairs:=O) (t:=(d,ix)) (fun k hk=>(hE.old k hk).2.2) hE.boxo.2 k6 (u:=(0,ix)) ⟨?_,?_,?_,?_⟩ (by rw[WY (by rw[l7];exact r8)];rfl) rfl o0
    ·simp only[ic,i7 e7,if_true]
    ·simp only[ic,i7 e7,if_true]
    ·simp only[ic,i7 e7,if_true]
    ·simp only[ic,i7 e7,if_true]
   | _=>simp[UG] at o7
  -- the state behind
  have v2:(ni (bS cs) (σ.seal ts)).wipe d=(σ.seal ts).map (fun c=>eW d (iS (bS cs) c)):=by rw[Nz];exact St.map_comp _ _ _
  have x9:bH id (σ.seal ts).h=some (cs.map (eO ts),ds):=by have:=yk (List.map (eO ts)) σ.h id;rw[l9] at this;exact this
  have r2:Rel P w' U base ⟨((σ.seal ts).map (fun c=>eW d (iS (bS cs) c))).r,((σ.seal ts).map (fun c=>eW d (iS (bS cs) c))).e,rU id (a8,sub r.p 1 a8.length) ((σ.seal ts).map (fun c=>eW d (iS (bS cs) c))).h⟩ a:=by
   refine⟨fun i=>c5.envMap hk (by rw[fD (fun _=>rfl)];rfl) i,fun a3 cs9 ds9 hl=>?_,fun b hb=>?_,o8 hr.base_le hE.size,hr.defers,⟨⟨hr.low.1.1,hr.low.1.2⟩,fun b hb=>?_,fun t x hx=>?_⟩,fun b t J V=>?_⟩
   rotate_right
   ·have a1:b≠g.θ id:=fun h=>by subst h;have:U.owner (g.θ id)=some (.inl id):=j8 rfl;rw[this] at V;cases V
    by_cases a2:gc.old b
    ·have h1:U.owner b=gs.owner b:=by simp only[U,ic,i7 a1,j8 a2]
     have Y:U.path b=gs.path b:=j8 a2;have Z:U.need b=gs.need b:=j8 a2;rw[Y,Z];exact c5.mine b t J (by rw[<- h1];exact V)
    ·exfalso
     simp only[U,ic,i7 a1,i7 a2] at V
     split at V
     ·rename_i u hu;injection V with V
      injection V with V
      cases hf:fwd O u with
      | none =>rw[hf] at V;have V:(d,u.2)=t:=V;rw[<- V] at J;have J:d=1000001:=J;omega
      | some t2 =>
       rw[hf] at V;have V:t2=t:=V;subst V;have hm:t2∈O.map (·.2):=by
        unfold fwd at hf;cases hq:O.find? (·.1==u) with
        | none=>rw[hq] at hf;cases hf
        | some q =>
         rw[hq] at hf;injection hf with hf
         exact y4.2 ⟨q,G0 hq,hf⟩
       rw[f2] at hm;exact (f0 _ (d3 _ hm)).2.1 J
     ·cases V
   ·rw[oX] at hl;by_cases e:a3=id
    ·subst e;rw[j8 rfl] at hl;injection hl with hl
     injection hl with l1 l2
     subst l1;subst l2;exact⟨b1,j8 rfl,hE.boxo.1,eH _ _ _,i0,E',e1,r1⟩
    ·rw[i7 e] at hl;refine c5.boxMap hk hl fun x3 s4 h8=>?_
     obtain⟨j1,j2,j3,j4,x6,E8,j5,j6⟩:=c5.box a3 x3 s4 h8;have j2:g.owner (g.θ a3)=some (.inl a3):=j2;have a1:g.θ a3≠g.θ id:=fun h=>by rw[h,b2] at j2;injection j2 with j2;injection j2 with j2;exact e j2.symm
     have a2:=a4 (g.θ a3) (aT j5) a1 (fun t J=>by rw[j2] at J;cases J);refine⟨rfl,?_,a7 _ a2,(hE.old _ a2).1⟩;exact (i7 a1).trans (j8 a2)
   ·have v3:=hE.size;obtain⟨q1,q2⟩:=hE.fresh b hb;refine⟨q1,?_⟩;have s0:¬gc.old b:=fun h=>by have:=h.1;omega
    simp only[U,ic,i7 s0,q2];rw[i7 (by omega)]
   ·have hb:g.old b:=hb;obtain⟨q1,q2,q3,q4⟩:=c5.low.2.1 b hb;have a2:=f3 b hb;refine⟨?_,(a7 b a2).trans q2,(hE.old b a2).1.trans q3,y8 q4 hE.size⟩;simp only[U,ic,i7 (hr.oldNe hb b2),j8 a2];exact q1
   ·obtain⟨q1,q2,q3,q4⟩:=c5.low.2.2 t x hx;have c9:t ∉ bS cs:=fun h=>(f0 t h).2.1 q1
    have i3:t.1≠d:=by omega
    obtain⟨m1,m2,_⟩:=a6 t c9 i3;refine⟨q1,m1.trans q2,m2.trans q3,fun h0=>?_⟩;obtain⟨z1,q0,z2,z3⟩:=q4 h0;obtain⟨y1,y2,_⟩:=d2 _ t c9 z1 (aT z2);exact⟨y2,q0,y1.trans z2,z3⟩
  have p2:Below base w w':=⟨hE.os,hE.tape,hE.output,hE.size,fun k hk=>by have:=hr.base_le;exact (hE.old k (a4 k (by omega) (by omega) (fun t _ _ _ h=>by omega))).1⟩;have:=hK v w' U (by have:=r2.put hd (dst:=o.dst) (t:=⟨(NX res).map (FW d),sub r.p (1+cs2.length) (res.flatMap Sh1.ces).length⟩) q9;rw[d5] at this;rw[v2];rw[d5];exact this) p2;exact this
theorem On{m:Nat}{cs:List Value}:∀ {J:List Nat},(∀k∈J,(k+1)*m<=cs.length)->∀(i j k:Nat),J[i]?=some k->j<m->(kp m cs J)[i*m+j]?=cs[k*m+j]?
 | [],_,i,j,k,h,_=>by simp at h
 | k0::J,h,i,j,k,hi,hj=>by
  have h1:=h k0 (by simp);rw[C8] at h1;have O:((cs.drop (k0*m)).take m).length=m:=by rw[s9,t5];omega
  rw[kp];cases i with
  | zero =>simp only[n5,b7] at hi;subst hi;rw[K2,i9,v9 (by omega),I4 hj,y0]
  | succ i =>
   have e1:(i+1)*m+j=m+(i*m+j):=by rw[C8];omega
   rw[e1,A5 (by omega),O,I6];exact On (fun k hk=>h k (M9 _ hk)) i j k (by simpa using hi) hj
theorem Xn{t:Tok}{e:TypeId}{row:List S}{rows:List b8}{u:Value}(Y:bk P e=some row)(h:dp P w g base t true e row rows u) :
  ∃cs B,acI w e row.length rows.length cs u B/\(∀b,B=some b->b=g.ρ t/\base<=b/\g.owner b=some (.inr t)/\g.prot b=0/\b<w.heap.size)/\(B=none->rows = []) /\
   ∀i j s,i<rows.length->row[j]?=some s->∃z,cs[i*row.length+j]?=some z/\ci P base w g t true i j s (rows.getD i [] j) z:=by
 rcases h with⟨h0,h1,A,hv⟩ | ⟨cap,arr,E,k1,k2,⟨k3,rfl,k3'⟩,k4,k5,k6,k7,k8,k9,k10,k11⟩
 ·subst h0;exact⟨[],none,⟨by simp,by simp,.inl ⟨rfl,rfl,A,hv⟩⟩,(fun b J=>by cases J),fun _=>rfl,fun i j s hi _=>by simp at hi⟩
 ·have U:=lI Y;have a2:rows.length*row.length<=arr.size:=by rw[k7];exact v7 _ k2
  have V:∀i j s,i<rows.length->row[j]?=some s->∃z,(arr.toList.take (rows.length*row.length))[i*row.length+j]?=some z/\ci P base w g t true i j s (rows.getD i [] j) z:=fun i j s hi hs=>by obtain⟨z,O,Z⟩:=k11 i j s hi hs;have hj:=(g5.1 hs).1;have:(i+1)*row.length<=rows.length*row.length:=v7 _ hi;rw[C8] at this;exact⟨z,by rw[s7,j8 (by omega)];simpa using O,Z⟩
  refine⟨arr.toList.take (rows.length*row.length),some (g.ρ t),⟨?_,fun v hv=>?_,.inr ⟨_,cap,arr,rfl,k1,k2,k3,k6,k7,fun k v hk=>?_⟩⟩,(fun b J=>by injection J with J;subst J;exact⟨rfl,k4,k5,by simpa using k10,aT k6⟩),(fun J=>by cases J),V⟩
  ·rw[s9,E6];exact Nat.min_eq_left a2
  ·obtain⟨k,hk⟩:=E7 hv;have a0:=(g5.1 hk).1;rw[s9] at a0;have a1:k % row.length<row.length:=Nat.mod_lt _ U;obtain⟨z,O,Z⟩:=V (k / row.length) (k % row.length) _ ((M0 U).2 (by omega)) (g6 a1);have e:k / row.length*row.length+k % row.length=k:=by rw[L4];exact Nat.div_add_mod k row.length
   rw[e,hk] at O;injection O with O
   subst O;exact nJ Z.flat
  ·rw[s7] at hk
   split at hk
   ·simpa using hk
   ·cases hk
def ahE(J:List Nat):List (Nat × Nat)->List (Nat × Nat)
 | [] => []
 | (a,j)::r=>(J.idxOf a,j)::r
theorem agE(hr:Rel P w g base σ a){t:Tok}{e:TypeId}{row:List S}{rows:List b8}{cs:List Value}{O:List Nat}{B B':Option Nat}{v':Value}
  (hd:bm t=true) (a2:t.1≠1000001) (c2:bk P e=some row) (hB:∀b,B=some b->b=g.ρ t/\base<=b/\g.owner b=some (.inr t)/\g.prot b=0/\b<w.heap.size)
  (a5:∀i j s,i<rows.length->row[j]?=some s->∃z,cs[i*row.length+j]?=some z/\TR P w (lj base g t) [(i,j)] s (rows.getD i [] j) z)
  (b4:O.Nodup) (b0:∀k∈O,k<rows.length) (b2:cs.length=rows.length*row.length)
  (hC:aI w w' B) (hO:acI w' e row.length O.length (kp row.length cs O) v' B') (a6:∀b,B'=some b->B=some b\/w.heap.size<=b) :
  ∃g',Rel P w' g' base (σ.map (bt t)) a/\dp P w' g' base t true e row (O.map fun k=>rows.getD k []) v'/\Below base w w':=by
 have a1:∀b,B=some b->g.owner b=some (.inr t):=fun b J=>(hB b J).2.2.1
 let g':G:={ prot:=fun b=>if B'=some b then 0 else g.prot b,owner:=fun b=>if B'=some b then some (.inr t) else g.owner b,θ:=g.θ,ρ:=fun u=>if u=t then B'.getD (g.ρ t) else g.ρ u, len:=fun u=>if u=t then O.length else g.len u,wid:=fun u=>if u=t then row.length else g.wid u,ety:=fun u=>if u=t then e else g.ety u, path:=fun b=>if g.owner b=some (.inr t) then ahE O (g.path b) else g.path b,need:=g.need,old:=g.old }
 have b6:∀b,B'=some b->b<w'.heap.size:=fun b J=>by
  rcases hO.2.2 with⟨h0,_⟩ | ⟨b1,cap,arr,q1,q2,q3,q4,q5,q6,q7⟩
  ·rw[h0] at J;cases J
  ·rw[q1] at J;injection J with J;subst J;exact aT q5
 have Z:∀b,b<w.heap.size->g'.prot b=g.prot b/\g'.owner b=g.owner b:=fun b J=>by
  by_cases a0:B'=some b
  ·rcases a6 b a0 with h1 | h1
   ·obtain⟨_,_,q3,q4,_⟩:=hB b h1;exact⟨by show (if _ then _ else _)=_;rw[j8 a0,q4],by show (if _ then _ else _)=_;rw[j8 a0,q3]⟩
   ·omega
  ·exact⟨i7 a0,i7 a0⟩
 have c1:∀b,w'.heap.size<=b->g'.prot b=0/\g'.owner b=none:=fun b J=>by
  have a0:B'≠some b:=fun e=>by have:=b6 b e;omega
  obtain⟨q1,q2⟩:=hr.fresh b (o8 hC.size J);exact⟨by show (if _ then _ else _)=_;rw[i7 a0,q1],by show (if _ then _ else _)=_;rw[i7 a0,q2]⟩
 have a4:∀b t',t'≠t->g.owner b=some (.inr t')->g'.path b=g.path b:=fun b t' U V=>i7 (by rw[V];intro e;injection e with e;injection e with e;exact U e)
 have hk:iu P base g g' w w' (bt t):=by
  refine iJ (fun b o u h1 h2=>?_) (fun b t' U Y J=>⟨hC.other b J (fun e=>?_),(Z b J).2,(Z b J).1⟩) (fun t' U=>⟨i7 U,i7 U,i7 U,i7 U⟩) rfl (fun b J=>hC.other b (hr.low.2.1 b J).2.2.2 (fun e=>?_)) (fun b t' U V _=>⟨a4 b t' U V,rfl⟩) rfl
  ·have J:=dn h2;refine⟨(bd (hC.other b J (fun e=>?_)) o).trans h2,by rw[(Z b J).1];exact h1⟩;have:=(hB b e).2.2.2.1;omega
  ·have:=a1 b e;rw[this] at Y;injection Y with Y
   injection Y with Y
   exact U Y.symm
  ·exact hr.oldNe J (a1 b e) rfl
 have b3:Rel P w' g' base (σ.map (bt t)) a:=by
  refine hr.drop hk rfl (fun b id Y J=>⟨hC.other b J (fun e=>?_),(Z b J).2,(Z b J).1⟩) c1 hC.size (fun b J=>⟨(Z b (hr.low.2.1 b J).2.2.2).2,(Z b (hr.low.2.1 b J).2.2.2).1,hC.other b (hr.low.2.1 b J).2.2.2 (fun e=>hr.oldNe J (a1 b e) rfl)⟩) rfl (fun t' U=>⟨i7 (kq a2 U),i7 (kq a2 U),fun b V J=>⟨by rw[(Z b J).2];exact V,hC.other b J (fun e=>by have:=a1 b e;rw[this] at V;injection V with V;injection V with V;exact kq a2 U V.symm)⟩⟩) (fun b t' U V=>?_)
  ·have:=a1 b e;rw[this] at Y;injection Y with Y
   cases Y
  ·change (if _ then _ else _)=_ at V
   split at V
   ·injection V with V;injection V with V;exact absurd V.symm (kq a2 U)
   ·exact⟨V,a4 b t' (kq a2 U) V,rfl⟩
 refine⟨g',b3,?_,⟨hC.os,hC.tape,hC.output,hC.size,fun k hk=>hC.other k (y8 hk hr.base_le) (fun e=>by have:=(hB k e).2.1;omega)⟩⟩;rcases hO.2.2 with⟨h0,h1,A,hv⟩ | ⟨b1,cap,arr,q1,q2,q3,q4,q5,q6,q7⟩
 ·have:O = []:=t6 h1;subst this;exact .inl ⟨rfl,j8 rfl,A,hv⟩
 ·have e1:g'.ρ t=b1:=by show (if t=t then B'.getD _ else _)=_;rw[j8 rfl,q1];rfl
  refine .inr ⟨cap,arr,e,by rw[e1,m9];exact q2,by rw[m9];exact q3,⟨q4,rfl,(j8 rfl).symm⟩,?_,?_,by rw[e1];exact q5,q6,by rw[m9];exact (j8 rfl).symm,(j8 rfl).symm,?_,fun i j s hi hs=>?_⟩
  ·rw[e1];rcases a6 b1 q1 with h1 | h1
   ·exact (hB b1 h1).2.1
   ·exact o8 hr.base_le h1
  ·rw[e1];exact j8 q1
  ·rw[e1];show (if B'=some b1 then 0 else _)=_;rw[j8 q1];rfl
  ·rw[m9] at hi;have hj:=(g5.1 hs).1;have a7:O[i]?=some O[i]:=g6 hi;have b5:O[i]∈O:=p9 hi;have c0:=b0 _ b5;obtain⟨z,z1,z2⟩:=a5 _ j s c0 hs;refine⟨z,q7 _ _ ?_,.of_tr ?_ hd⟩
   ·rw[On (fun k hk=>by rw[b2];exact v7 _ (b0 k hk)) i j _ a7 hj];exact z1
   ·have e2:(O.map fun k=>rows.getD k []).getD i []=rows.getD O[i] []:=by rw[f9,u6,a7];rfl
    rw[e2];have:=TR.mono (ahE O) (fun π x a8=>by cases π with | nil=>exact absurd rfl a8 | cons p r=>rfl) z2 (w':=w') (lab':=lj base g' t) (fun b π n o a8 hl V=>by
     obtain⟨l0,l1,l2,l3,l4,l5⟩:=hl;have a3:=aT V;refine⟨(hC.other b a3 (fun e=>l2 (hB b e).1)).trans V,l0,(Z b a3).2.trans l1,?_,?_,l4,(Z b a3).1.trans l5⟩
     ·rw[e1];rintro rfl;rcases a6 b q1 with h1 | h1
      ·exact l2 (hB b h1).1
      ·omega
     ·show (if g.owner b=some (.inr t) then _ else _)=_;rw[j8 l1,l3]) (by simp)
    rw[show ahE O [(O[i],j)] = [(i,j)] from by show[(O.idxOf O[i],j)]=_;rw[b4.idxOf_getElem]] at this;exact this
theorem alG(hr:Rel P w g base σ a){call:FuncId->List T->Option (T × Bool)}(b3:av P call){o:Oper}{e6:St}{f:Operand}{xs:Array Operand}{h6:Array TypeId}(ho:o.op=.call { callee:=.value f,args:=xs,argTypes:=h6 })(hd:∀d,o.dst=some d->d<a.tmps.size)
  (h:evX call σ o.dst f xs.toList=some (e6,true)):Ak P base e6 o a w:=by
 unfold evX at h
 split at h
 ·rename_i c6 i y z hsh k6;have g1:xs = #[.tmp i,y,z]:=by cases xs;simp_all
  subst g1;have c5:=cZ hr f;have c5:VC P w g base (.fn c6 []) ((opd σ f).p 0) (a.eval f):=by generalize opd σ f=q at *;obtain⟨sh,p⟩:=q;simp only at hsh;subst hsh;exact c5
  obtain⟨f2,i1,f1,_⟩:=c5;have h7:f2 = #[]:=by simpa using f1
  subst h7
  split at h
  ·rename_i t e d3 d5;have c7:=cZ hr (.tmp i);have c7:VC P w g base (.own t true e) ((opd σ (.tmp i)).p 0) (a.eval (.tmp i)):=by generalize opd σ (.tmp i)=q at *;obtain⟨sh,p⟩:=q;simp only at d3;subst d3;exact c7
   obtain⟨row,Z,c3⟩:=c7;have b1:=cZ hr y;have b1:a.eval y=.int .i64 ((opd σ y).p 0).int:=by generalize opd σ y=q at *;obtain⟨sh,p⟩:=q;simp only at d5;subst d5;have b1:VD P w g.prot (.int .i64) (p 0) (a.eval y):=b1;generalize a.eval y=uy at *;cases b1;rfl
   -- behind the call
   have fin:∀ {r:T} {q:T},SF P c6 [.c (.d (.sl e)) ((opd σ (.tmp i)).p 0),.c (.d (.int .i64)) ((opd σ y).p 0),q] r->bm t=true->t.1≠1000001 ->
     ∀ {a2:G} {a7:St} {cs2:List Value} {B2:Option Nat},Rel P w a2 base a7 a->dp P w a2 base t true e row ((opd σ (.tmp i)).p 0).rows (a.eval (.tmp i)) ->
     ((q.sh=.one (.c (.d (.int .i64)))/\a.eval z=.int .i64 (q.p 0).int/\cs2 = [])\/(q.sh=.one (.c (.d (.sl e)))/\acI w e row.length (yR q).length cs2 (a.eval z) B2)) ->
     cs2.length=(yR q).length*row.length->(∀b,a2.owner b=some (.inr t)->B2=some b->False) ->
     (∀i' j s,i'<(yR q).length->row[j]?=some s->∃u,cs2[i'*row.length+j]?=some u/\TR P w (lj base a2 t) [(((opd σ (.tmp i)).p 0).rows.length+i',j)] s (((yR q).getD i' []) j) u) ->
     Ak P base ((a7.map (bt t)).put o.dst (.c (.own t true e) (r.p 0))) o a w:=by
    intro r q hS a4 Y a2 a7 cs2 B2 d2 b5 hz e9 i0 hz2;obtain⟨h8,hX⟩:=hS;obtain⟨k0,s1,s2,s3,s4⟩:=hX e _ _ q row rfl Z;obtain⟨cs,B,k1,k2,k3,k4⟩:=Xn Z b5;intro K Q hK;unfold Oper.wp;have f3:(execOp a.eval o).run P w=.ok (.enter c6 #[a.eval (.tmp i),.int .i64 ((opd σ y).p 0).int,a.eval z]) w:=by simp only[execOp,ho,resolve,i1,Deferred.ofValue,j7,m8,g7,invoke];rw[<- b1];simpa using h8 _ w
    rw[f3];refine (s4 w _ _ B B2 cs cs2 k1 (fun b h1 h2=>i0 b (k2 b h1).2.2.1 h2) hz).mono ?_;rintro ex w' ⟨v',B',rfl,hC,hO,h9⟩;have a5:cs.length=((opd σ (.tmp i)).p 0).rows.length*row.length:=k1.1;obtain⟨g',q1,q2,q3⟩:=agE (rows:=((opd σ (.tmp i)).p 0).rows++yR q) (cs:=cs++cs2) d2 a4 Y Z k2 (fun i' j s hi hs=>by
     rw[i5] at hi;have hj:=(g5.1 hs).1;by_cases h1:i'<((opd σ (.tmp i)).p 0).rows.length
     ·obtain⟨u,z1,z2⟩:=k4 i' j s h1 hs;have g3:=(g5.1 z1).1;refine⟨u,by rw[v9 g3];exact z1,?_⟩;rw[f9,v9 h1,<- f9];exact z2.tr a4
     ·obtain⟨u,z1,z2⟩:=hz2 (i' - ((opd σ (.tmp i)).p 0).rows.length) j s (by omega) hs;have e0:((opd σ (.tmp i)).p 0).rows.length+(i' - ((opd σ (.tmp i)).p 0).rows.length)=i':=by omega
      have e1:i'*row.length+j=((opd σ (.tmp i)).p 0).rows.length*row.length+((i' - ((opd σ (.tmp i)).p 0).rows.length)*row.length+j):=by rw[<- p8,<- E5,e0]
      refine⟨u,by rw[e1,A5 (by omega),a5,I6];exact z1,?_⟩;rw[f9,A5 (by omega),<- f9];rw[e0] at z2;exact z2) s1 s2 (by rw[i5,i5,a5,e9,E5]) hC hO h9
    exact hK _ w' g' (q1.put hd (dst:=o.dst) (t:=.c (.own t true e) (r.p 0)) ⟨row,Z,by show dp P w' g' base t true e row (r.p 0).rows v';rw[s3];exact q2⟩) q3
   split at h
   ·rename_i b0
    split at h
    ·rename_i r ok a5;cases hq:(r.sh.isX&&bm t&&t.1 != 1000001) with
     | false=>rw[hq] at h;cases h
     | true =>
      rw[hq,f8] at h;simp only[b7,i8] at h;obtain⟨rfl,rfl⟩:=h;simp only[a9] at hq;obtain⟨⟨hx,a4⟩,Y⟩:=hq;have a0:=cZ hr z;have a0:a.eval z=.int .i64 ((opd σ z).p 0).int:=by generalize opd σ z=q at *;obtain⟨sh,p⟩:=q;simp only at b0;subst b0;have a0:VD P w g.prot (.int .i64) (p 0) (a.eval z):=a0;generalize a.eval z=uz at *;cases a0;rfl
      exact fin ((b3 _ _ _ a5).x hx) a4 (by simpa using Y) (cs2:= []) (B2:=none) hr c3 (.inl ⟨rfl,a0,rfl⟩) (by simp[yR]) (fun b _ h=>by cases h) (fun i' j s hi _=>by simp[yR] at hi)
    ·cases h
   ·rename_i U e2 b0
    split at h
    ·rename_i r ok a5;cases hq:(r.sh.isX&&e==e2&&bm t&&bm U&&U != t&&t.1 != 1000001&&U.1 != 1000001) with
     | false=>rw[hq] at h;cases h
     | true =>
      rw[hq,f8] at h;simp only[b7,i8] at h;obtain⟨rfl,rfl⟩:=h;simp only[a9] at hq;obtain⟨⟨⟨⟨⟨⟨hx,c2⟩,a4⟩,e7⟩,a3⟩,Y⟩,a6⟩:=hq;have c2:e=e2:=by simpa using c2
      subst c2;have a3:t≠U:=Ne.symm (show U≠t by simpa using a3);have Y:t.1≠1000001:=by simpa using Y
      have a6:U.1≠1000001:=by simpa using a6
      have a0:=cZ hr z;have a0:VC P w g base (.own U true e) ((opd σ z).p 0) (a.eval z):=by generalize opd σ z=q at *;obtain⟨sh,p⟩:=q;simp only at b0;subst b0;exact a0
      obtain⟨i2,a1,c9⟩:=a0;rw[Z] at a1;injection a1 with a1;subst a1;obtain⟨cs2,B2,k1,k2,k3,k4⟩:=Xn Z c9;have hS:=(b3 _ _ _ a5).x hx
      let n0:=((opd σ (.tmp i)).p 0).rows.length
      let fm:List (Nat × Nat)->List (Nat × Nat):=fun π=>match π with
       | [] => []
       | (i,j)::r=>(n0+i,j)::r
      have c1:∀ {O:G} {a8:St},Rel P w O base a8 a->dp P w O base t true e row ((opd σ (.tmp i)).p 0).rows (a.eval (.tmp i))->(∀J,O.owner J=some (.inr U)->w.heap.size<=J\/J≠O.ρ t)->(∀J,O.owner J=g.owner J/\O.path J=g.path J/\O.need J=g.need J/\O.prot J=g.prot J)->O.ρ U=g.ρ U ->
        Ak P base (((a8.map (bt U)).map (bt t)).put o.dst (.c (.own t true e) (r.p 0))) o a w:=by
       intro O a8 b4 b6 f0 b2 c0;obtain⟨k5,g2⟩:=xZ (t:=U) (s:=t) (f:=fm) (top:=none) b4 a6 Y;have d1:=CW (s:=t) (f:=fm) (top:=none) b4 a6 Y a3 Z b6;refine fin hS a4 Y (cs2:=cs2) (B2:=B2) g2 d1 (.inr ⟨rfl,k1⟩) k1.1 (fun b hb h2=>?_) (fun i' j s hi hs=>?_)
       ·obtain⟨q1,q2,q3,q4,q5⟩:=k2 b h2;have h0:O.owner b=some (.inr U):=(b2 b).1.trans q3;change (if O.owner b=some (.inr U) then _ else _)=_ at hb;rw[j8 h0,j8 (by rw[c0];exact q1)] at hb;simp only[K9,u4,if_false] at hb;injection hb with hb;injection hb with hb;exact a3 hb.symm
       ·obtain⟨u,z1,z2⟩:=k4 i' j s hi hs;refine⟨u,z1,?_⟩;have:=TR.mono fm (fun π x d4=>by cases π with | nil=>exact absurd rfl d4 | cons p r=>rfl) (z2.tr e7) (w':=w) (lab':=lj base (uZ O U t fm none) t) (fun J π n i3 d4 hl V=>⟨V,by
         obtain⟨l0,l1,l2,l3,l4,l5⟩:=hl;obtain⟨m1,m2,m3,m4⟩:=b2 J;have c4:O.owner J=some (.inr U):=m1.trans l1;have c8:J≠O.ρ U:=by rw[c0];exact l2
         refine⟨l0,?_,(f0 J c4).resolve_left (by have:=aT V;omega),?_,?_,m4.trans l5⟩
         ·show (if O.owner J=some (.inr U) then _ else _)=_;rw[j8 c4,i7 c8]
         ·show (if O.owner J=some (.inr U) then _ else _)=_;rw[j8 c4,i7 c8,m2,l3]
         ·show (if O.owner J=some (.inr U)/\J=O.ρ U then _ else _)=_;rw[i7 (fun e=>c8 e.2),m3];exact l4⟩) (by simp)
        exact this
      rcases c3 with hown' | hown'
      ·have k:=c1 (VX hr t Y w.heap.size) (.inl ⟨hown'.1,hown'.2.1,hown'.2.2⟩) (fun J _=>by show _\/J≠(if t=t then w.heap.size else _);rw[j8 rfl];omega) (fun _=>⟨rfl,rfl,rfl,rfl⟩) (i7 (Ne.symm a3));have e1:((σ.map (bt t)).map (bt U)).map (bt t)=(σ.map (bt U)).map (bt t):=Qe t U σ;rw[e1] at k;exact k
      ·exact c1 hr (.inr hown') (fun J V=>.inr fun e=>by obtain⟨cap,i4,E,h1,h2,h3,h4,h5,rest⟩:=hown';rw[e,h5] at V;injection V with V;injection V with V;exact a3 V) (fun _=>⟨rfl,rfl,rfl,rfl⟩) rfl
    ·cases h
   ·cases h
  ·cases h
 ·cases h
theorem aih(hr:Rel P w g base σ a){call:FuncId->List T->Option (T × Bool)}(a5:av P call){o:Oper}{b1:St}{d:Nat}{f:Operand}{xs:Array Operand}{e0:Array TypeId}{d1:List TypeId}(ho:o.op=.call { callee:=.value f,args:=xs,argTypes:=e0 })(a1:o.dst=some d)(hd:∀d,o.dst=some d->d<a.tmps.size)
  (h:Xg P call σ d f xs.toList d1=some (b1,true)):Ak P base b1 o a w:=by
 unfold Xg at h
 split at h
 ·rename_i a8 hsh
  split at h
  ·rename_i vs c9
   split at h
   ·rename_i r ok e9
    split at h
    ·rename_i cs a7;cases V:(cs.all Ce.isD) with
     | false=>rw[V] at h;cases h
     | true =>
      rw[V,f8] at h;simp only[b7,i8] at h;obtain⟨rfl,rfl⟩:=h
      let ts:List Tok:=(xs.toList.map (opd σ)).flatMap (eR σ)
      obtain⟨k1,k2⟩:=pF (ts:=ts) hr c9 (fun t h=>u7.2 h);have a4:=cZ hr f;have a4:VC P w g base (.fn a8 []) ((opd σ f).p 0) (a.eval f):=by generalize opd σ f=q at *;obtain⟨sh,p⟩:=q;simp only at hsh;subst hsh;exact a4
      obtain⟨c0,e7,b6,_⟩:=a4;have c1:c0 = #[]:=by simpa using b6
      subst c1;have hS:=(a5 _ _ _ e9).nw (by rw[a7];rfl);obtain⟨e6,a3,_⟩:=hS;have a6:ka P (bB g ts).prot w vs (xs.map a.eval):=by
       refine⟨by simp[k1],fun j t hj=>?_⟩;obtain⟨x,hx,c6⟩:=k2 j t hj;refine⟨a.eval x,?_,c6⟩;rw[G2];have:xs[j]?=some x:=by simpa using hx
       rw[this];rfl
      have d5:∀b,w.heap.size<=b->(bB g ts).prot b=0:=fun b hb=>((hr.seal ts).fresh b hb).1
      intro K Q hK;unfold Oper.wp;have b3:(execOp a.eval o).run P w=.ok (.enter a8 (xs.map a.eval)) w:=by simp only[execOp,ho,resolve,e7,Deferred.ofValue,j7,m8,g7,invoke];simpa using e6 (xs.map a.eval) w
      rw[b3];refine (a3 cs a7 w _ _ a6 d5).mono ?_;rintro e w' ⟨J,Z,rfl,U,d3,d4,c4,c3,c8,E,hh,c5,a2⟩;have c7:d<a.tmps.size:=hd d a1;have b2:=hr.seal ts
      let O:G:={ prot:=fun b=>if b<w.heap.size then (bB g ts).prot b else Z b,owner:=fun b=>if b<w.heap.size then (bB g ts).owner b else if b=J then some (.inl d) else none, θ:=fun id=>if id=d then J else (bB g ts).θ id,ρ:=(bB g ts).ρ,len:=(bB g ts).len,wid:=(bB g ts).wid,ety:=(bB g ts).ety,path:=(bB g ts).path,need:=(bB g ts).need,old:=(bB g ts).old }
      have f1:J<w'.heap.size:=aT hh;have hE:Ext (some d) (bB g ts) O w w':=by
       refine⟨U.size,fun id h=>i7 (fun e=>h (by rw[e])),fun t _=>⟨rfl,rfl,rfl,rfl⟩,fun b h=>j8 h,fun b h=>j8 h,fun b h=>U.block b h,fun b h=>⟨rfl,rfl⟩,rfl,fun b t f0 h=>?_⟩;change (if b<w.heap.size then _ else if b=J then some (Sum.inl d) else none)=_ at h;rw[i7 (by omega)] at h
       split at h <;> cases h
      have hF:∀b,w'.heap.size<=b->O.prot b=0/\O.owner b=none:=fun b hb=>by have:=U.size;refine⟨by show (if b<w.heap.size then _ else _)=_;rw[i7 (by omega)];exact c3 b hb,?_⟩;show (if b<w.heap.size then _ else if b=J then some (Sum.inl d) else none)=_;rw[i7 (by omega),i7 (by omega)]
      have Y:∀b,O.prot b=Z b:=fun b=>by
       show (if b<w.heap.size then _ else _)=_
       split
       ·rename_i h;exact (d4 b h).symm
       ·rfl
      have b4:aef P w' O base d cs (sub r.p 0 cs.length):=by
       have a0:O.θ d=J:=j8 rfl;refine⟨by rw[a0];exact o8 hr.base_le d3,?_,by rw[a0,Y];exact c4,eH _ _ _,c8,E,by rw[a0];exact hh,c5,fun j c hc=>?_⟩
       ·rw[a0];show (if J<w.heap.size then _ else if J=J then some (Sum.inl d) else none)=_;rw[i7 (by omega),j8 rfl]
       ·have c2:=(g5.1 hc).1;have d2:=i6.1 V c (w6 hc);cases c with
        | d s =>obtain⟨u,u1,u2⟩:=a2 j s hc;refine⟨u,u1,?_⟩;rw[fq _ _ _ _ c2,i9];show VD P w' O.prot s _ u;exact u2.mono fun b o z h1 h2=>⟨h2,by rw[Y];exact h1⟩
        | _=>cases d2
      have b5:=b2.wipeBox c7 hE hF b4;have:=b5.put hd (dst:=o.dst) (t:=.c (.ptr d 0) D0) (v:=.pointer (some ⟨J,0,none⟩)) (by show Value.pointer _=Value.pointer (some ⟨O.θ d,0,none⟩);rw[show O.θ d=J from j8 rfl]);exact hK _ w' O (by rw[a1] at this ⊢;exact this) (U.mono hr.base_le)
    ·cases h
   ·cases h
  ·cases h
 ·cases h
theorem abg:∀ {cs az:List Ce} {p q:b8},az.length=cs.length->(EI cs az).length=cs.length/\∀(j:Nat) c,(EI cs az)[j]?=some c->∃J a,cs[j]?=some J/\az[j]?=some a/\((J=.any/\c=a/\OH cs p q j=q j)\/(J≠.any/\c=J/\OH cs p q j=p j))
 | [],[],p,q,_=>⟨rfl,fun j c h=>by simp[EI] at h⟩
 | [],_::_,p,q,h=>by simp at h
 | _::_,[],p,q,h=>by simp at h
 | J::cs,a::az,p,q,h=>by
  obtain⟨k1,k2⟩:=abg (cs:=cs) (az:=az) (p:=p.tail) (q:=q.tail) (by simpa using h);by_cases V:J=.any
  ·subst V;refine⟨by simp[EI,k1],fun j c U=>?_⟩;cases j with
   | zero =>
    have:a=c:=by simpa [EI] using U
    exact⟨.any,a,rfl,rfl,.inl ⟨rfl,this.symm,rfl⟩⟩
   | succ j =>obtain⟨c1,Z,h1,Y,O⟩:=k2 j c (by simpa [EI] using U);refine⟨c1,Z,by simpa using h1,by simpa using Y,?_⟩;rw[dG,dG] at O;exact O
  ·have e1:EI (J::cs) (a::az)=J::EI cs az:=by cases J <;> first | (exact absurd rfl V) | rfl
   have e2:OH (J::cs) p q=p 0::OH cs p.tail q.tail:=by cases J <;> first | (exact absurd rfl V) | rfl
   rw[e1,e2];refine⟨by simp[k1],fun j c U=>?_⟩;cases j with
   | zero =>
    have:J=c:=by simpa using U
    exact⟨J,a,rfl,rfl,.inr ⟨V,this.symm,rfl⟩⟩
   | succ j =>obtain⟨c1,Z,h1,Y,O⟩:=k2 j c (by simpa using U);refine⟨c1,Z,by simpa using h1,by simpa using Y,?_⟩;rw[dG,dG] at O;exact O
theorem aln(hr:Rel P w g base σ a){call:FuncId->List T->Option (T × Bool)}(a6:av P call){o:Oper}{b2:St}{d:Nat}{f:Operand}{xs:Array Operand}{d4:Array TypeId}{d1:List TypeId}(ho:o.op=.call { callee:=.value f,args:=xs,argTypes:=d4 })(V:o.dst=some d)(hd:∀d,o.dst=some d->d<a.tmps.size)
  (h:evT P call σ d f xs.toList d1=some (b2,true)):Ak P base b2 o a w:=by
 unfold evT at h
 split at h
 ·rename_i b1 x xr hsh c4
  split at h
  ·rename_i vs c9
   split at h
   ·rename_i r ok e9
    split at h
    ·rename_i cs az b0 e6;cases hq:(cs.all Ce.thr&&az.length==cs.length) with
     | false=>rw[hq] at h;cases h
     | true =>
      rw[hq,f8] at h;simp only[b7,i8] at h;obtain⟨rfl,rfl⟩:=h;simp only[a9,p6] at hq;obtain⟨f1,b4⟩:=hq
      let ts:List Tok:=(xs.toList.map (opd σ)).flatMap (eR σ)
      obtain⟨k1,k2⟩:=pF (ts:=ts) hr c9 (fun t h=>u7.2 h);have a3:=cZ hr f;have a3:VC P w g base (.fn b1 []) ((opd σ f).p 0) (a.eval f):=by generalize opd σ f=q at *;obtain⟨sh,p⟩:=q;simp only at hsh;subst hsh;exact a3
      obtain⟨c3,e7,c1,_⟩:=a3;have c5:c3 = #[]:=by simpa using c1
      subst c5;have hS:=(a6 _ _ _ e9).nw (by rw[b0];rfl);obtain⟨d5,_,a2⟩:=hS;have a7:ka P (bB g ts).prot w vs (xs.map a.eval):=by
       refine⟨by simp[k1],fun j t hj=>?_⟩;obtain⟨x,hx,Y⟩:=k2 j t hj;refine⟨a.eval x,?_,Y⟩;rw[G2];have:xs[j]?=some x:=by simpa using hx
       rw[this];rfl
      have d3:∀b,w.heap.size<=b->(bB g ts).prot b=0:=fun b hb=>((hr.seal ts).fresh b hb).1
      intro K Q hK;unfold Oper.wp;have b5:(execOp a.eval o).run P w=.ok (.enter b1 (xs.map a.eval)) w:=by simp only[execOp,ho,resolve,e7,Deferred.ofValue,j7,m8,g7,invoke];simpa using d5 (xs.map a.eval) w
      rw[b5];refine (a2 cs b0 w _ _ a7 d3).mono ?_;rintro e w' ⟨us,O,rfl,J,d2,c6,c7,a1⟩;have c8:d<a.tmps.size:=hd d V;have b3:=hr.seal ts
      let U:G:={ prot:=fun b=>if b<w.heap.size then (bB g ts).prot b else O b,owner:=fun b=>if b<w.heap.size then (bB g ts).owner b else none, θ:=(bB g ts).θ,ρ:=(bB g ts).ρ,len:=(bB g ts).len,wid:=(bB g ts).wid,ety:=(bB g ts).ety,path:=(bB g ts).path,need:=(bB g ts).need,old:=(bB g ts).old }
      have hE:Ext (some d) (bB g ts) U w w':=by refine⟨J.size,fun id h=>rfl,fun t _=>⟨rfl,rfl,rfl,rfl⟩,fun b h=>j8 h,fun b h=>j8 h,fun b h=>J.block b h,fun b h=>⟨rfl,rfl⟩,rfl,fun b t f0 h=>?_⟩;change (if b<w.heap.size then _ else none)=_ at h;rw[i7 (by omega)] at h;cases h
      have hF:∀b,w'.heap.size<=b->U.prot b=0/\U.owner b=none:=fun b hb=>by have:=J.size;refine⟨by show (if b<w.heap.size then _ else _)=_;rw[i7 (by omega)];exact c6 b hb,?_⟩;show (if b<w.heap.size then _ else none)=_;rw[i7 (by omega)]
      have a5:∀b,U.prot b=O b:=fun b=>by
       show (if b<w.heap.size then _ else _)=_
       split
       ·rename_i h;exact (d2 b h).symm
       ·rfl
      have a4:=b3.wipeRow c8 hE rfl hF;have Y:=cZ a4 x;have a8:(opd ((σ.seal ts).wipe d) x).sh=.one (.agg az):=e6;show K _ _;change ∀z w' g',Rel P w' g' base (St.put ((σ.seal ts).wipe d) (some d) ⟨.one (.agg (EI cs az)),OH cs r.p (opd ((σ.seal ts).wipe d) x).p⟩) (a.put o.dst z)->_ at hK;generalize opd (((σ.seal ts).wipe d)) x=q at *;obtain⟨f2,qp⟩:=q;simp only at a8;subst a8;obtain⟨Z,e0,c2⟩:∃Z,a.eval x=.agg Z/\VCs P w' U base az qp Z:=Y;obtain⟨t1,t2⟩:=abg (cs:=cs) (az:=az) (p:=r.p) (q:=qp) b4;have b6:VT P w' U base ⟨.one (.agg (EI cs az)),OH cs r.p qp⟩ (.agg us):=by
       refine⟨us,rfl,by rw[c7,t1],fun j c hc=>?_⟩;obtain⟨c0,a0,m1,m2,m3⟩:=t2 j c hc;obtain⟨u,n1,n2⟩:=a1 j c0 m1;refine⟨u,n1,?_⟩;rcases m3 with⟨e1,e2,e3⟩ | ⟨e1,e2,e3⟩
       ·subst e1;subst e2;rw[e3];rcases n2 with⟨s,hs,_⟩ | ⟨_,arr',z1,z2⟩
        ·cases hs
        ·have z3:(xs.map a.eval)[0]?=some (a.eval x):=by
          rw[G2];have:xs[0]?=some x:=by
           have:xs.toList[0]?=some x:=by rw[c4];rfl
           simpa using this
          rw[this];rfl
         rw[z3,e0] at z1;injection z1 with z1
         injection z1 with z1
         subst z1;obtain⟨u',y1,y2⟩:=c2.2 j c m2;rw[z2] at y1;injection y1 with y1
         subst y1;exact y2
       ·subst e2;rw[e3];rcases n2 with⟨s,hs,hv⟩ | ⟨hs,_⟩
        ·subst hs;show VD P w' U.prot s _ u;rw[show U.prot=O from funext a5];exact hv
        ·exact absurd hs e1
      have:=hK (.agg us) w' U (by have:=a4.put hd (dst:=o.dst) (t:=⟨.one (.agg (EI cs az)),OH cs r.p qp⟩) b6;rw[V] at this ⊢;exact this) (J.mono hr.base_le);exact this
    ·cases h
   ·cases h
  ·cases h
 ·cases h
theorem alk(Y:Rel P w g base σ a){call:FuncId->List T->Option (T × Bool)}(J:av P call){o:Oper}{Z:St}{f:Operand}{xs:Array Operand}{a1:Array TypeId}{a0:List TypeId}(V:o.op=.call { callee:=.value f,args:=xs,argTypes:=a1 })(U:∀d,o.dst=some d->d<a.tmps.size)
  (h:evW P call σ o.dst f xs.toList a0=some (Z,true)):Ak P base Z o a w:=by
 unfold evW at h
 split at h
 ·rename_i r O;injection h with h
  subst h;exact ajf Y J V U O
 ·split at h
  ·rename_i r O;injection h with h
   subst h;exact alm Y J V U O
  ·split at h
   ·rename_i r O;injection h with h
    subst h;exact ajW Y J V U O
   ·split at h
    ·rename_i r O;injection h with h
     subst h;exact alG Y J V U O
    ·exact alz Y J V U h
end
section
variable [Low] {P:Program} {w w':World} {g g':G} {base:Nat} {σ:St} {a:Act}
theorem mF{c:Bool}{x y:R}{key:Option Dom}{out:Nat × b8}(h:pG c x y=some (key,some out)):(c=true->∃k,x=some (k,some out))/\(c=false->∃k,y=some (k,some out)):=by
 unfold pG at h
 split at h
 ·split at h
  ·simp only[b7,i8] at h;obtain⟨_,h⟩:=h;cases c with
   | true=>exact⟨fun _=>⟨_,by rw[f8] at h;rw[h]⟩,fun h=>by cases h⟩
   | false=>exact⟨fun h=>(by cases h),fun _=>⟨_,by rw[f5] at h;rw[h]⟩⟩
  ·cases h
 ·cases h
theorem dL{c:Bool}{x:R}{key:Option Dom}{out:Nat × b8}(h:gO c x=some (key,some out)):c=true/\x=some (key,some out):=by
 unfold gO at h
 split at h
 ·simp only[b7,i8] at h;obtain⟨rfl,h⟩:=h;cases c with
  | true=>rw[f8] at h;subst h;exact⟨rfl,rfl⟩
  | false=>cases h
 ·cases h
theorem sy(O:Rel P w g base σ a){call:FuncId->List T->Option (T × Bool)}(U:av P call){o:Oper}{a0:St}(J:∀d,o.dst=some d->d<a.tmps.size)(h:Gz P call σ o=some (a0,true)):Ak P base a0 o a w:=by
 obtain⟨dst,op,ty,a2,after,guard⟩:=o;unfold Gz at h;simp only at h
 split at h
 ·exact (XT O rfl rfl J h).goes
 ·exact (WK O rfl rfl J h).goes
 ·exact (Ma O rfl rfl J h).goes
 ·rename_i t n a1 d;cases Z:rh call d with
  | false=>rw[Z,f5] at h;exact (uP O rfl rfl J h).goes
  | true=>rw[Z,f8] at h;exact (sv O rfl rfl J h).goes
 ·exact (xq O rfl rfl J h).goes
 ·exact (Yj O rfl J h).goes
 ·exact (Xe O rfl rfl J h).goes
 ·rename_i xs ts d
  split at h
  ·rename_i x y t t' h1 h2;cases Y:(t==t') with
   | false=>rw[Y] at h;cases h
   | true =>
    rw[Y,f8] at h;have Y:t=t':=by simpa using Y
    subst Y;have e1:xs = #[x,y]:=by cases xs;simp_all
    have e2:ts = #[t,t]:=by cases ts;simp_all
    subst e1;subst e2;exact (WW O rfl rfl J h).goes
  ·cases h
 ·rename_i f xs ts d
  split at h
  ·rename_i r V;injection h with h
   subst h;exact alk O U rfl J V
  ·split at h
   ·rename_i r V;injection h with h
    subst h;exact (Qw O U rfl rfl J V).goes
   ·split at h
    ·rename_i r V;injection h with h
     subst h;exact aih O U rfl rfl J V
    ·split at h
     ·rename_i r V;injection h with h
      subst h;exact aln O U rfl rfl J V
     ·exact alt O U rfl rfl J h
 ·simp at h
 ·simp at h
 ·exact (acU O J h).goes
theorem ZL{ops:Array Oper}{tm:Array Value}{j t:Nat}(h:(ops[j]?).bind (·.dst)=some t)(hn:t<tm.size):yielded ops tm j=match tm.getD t undef with | .bool b=>some b | _=>none:=by unfold yielded;rw[h];simp only[Option.bind_some,n3 hn,y3,w3];cases tm[t] <;> rfl
theorem aaI{prot:Nat->Nat}{x:D}{v:Value}(h:VD P w prot .bool x v):v=.bool x.bool:=by cases h;rfl
theorem yq(hr:Rel P w g base σ a){ops:Array Oper}(U:∀o∈ops.toList,∀d,o.dst=some d->d<a.tmps.size){o:Oper} :
  match KR ops σ o with
  | .yes=>Region.wanted o (yielded ops a.tmps)=true
  | .no=>Region.wanted o (yielded ops a.tmps)=false
  | .ask t g b=>t<a.tmps.size/\a.tmps.getD t undef=.bool g/\Region.wanted o (yielded ops a.tmps)=(g==b)
  | .bad=>True:=by
 unfold KR Region.wanted;cases hg:o.guard with
 | none=>rfl
 | some q =>
  obtain⟨j,b⟩:=q;simp only;cases J:(ops[j]?).bind (·.dst) with
  | none=>trivial
  | some t =>
   simp only;have V:t<a.tmps.size:=by
    cases O:ops[j]? with
    | none=>rw[O] at J;cases J
    | some o'=>rw[O] at J;exact U o' (by simpa using A8 O) t J
   have Y:=ZL (tm:=a.tmps) J V;have hv:=hr.env t;rw[Y];generalize bZ t σ.e σ.r=v at *;obtain⟨sh,p⟩:=v;cases sh with
   | tup xs =>
    cases xs with
    | nil =>
     obtain⟨vs,h1,Z,_⟩:=hv;have:vs = #[]:=by simpa using Z
     subst this;simp only[h1];rfl
    | cons x xs=>trivial
   | one x=>cases x with
    | agg xs=>trivial
    | c x=>cases x with
     | kb c =>have hv:a.tmps.getD t undef=.bool c:=hv;simp only[hv];cases c <;> cases b <;> rfl
     | d s=>cases s with
      | bool =>have hv:VD P w g.prot .bool (p 0) (a.tmps.getD t undef):=hv;have hv:=aaI hv;exact⟨V,hv,by rw[hv];cases (p 0).bool <;> cases b <;> rfl⟩
      | _=>trivial
     | _=>trivial
theorem NW{call:FuncId->List T->Option (T × Bool)}(Y:av P call){ops:Array Oper}{k:St->R}{out:Nat × b8}{n:Nat}{Q:Exit->Act->World->Prop}{w0:World}
  (hk:∀V w' g' a' a3,k V=some (a3,some out)->Rel P w' g' base V a'->a'.tmps.size=n->Below base w0 w'->Q .normal a' w') :
  ∀(rest:List Oper) (σ:St) (w:World) (g:G) (a:Act) (key:Option Dom),(∀o∈rest,∀d,o.dst=some d->d<n)->(∀o∈ops.toList,∀d,o.dst=some d->d<n) ->
   ve P call ops rest σ k=some (key,some out)->Rel P w g base σ a->a.tmps.size=n->Below base w0 w->wpList P ops Q rest a w
 | [],σ,w,g,a,key,_,_,h,U,hn,hb=>hk σ w g a key h U hn hb
 | o::rest,σ,w,g,a,key,hrest,hops,h,U,hn,hb=>by
  have ih:=NW Y (ops:=ops) (Q:=Q) (w0:=w0) hk rest;have O:∀d,o.dst=some d->d<a.tmps.size:=fun d O=>by rw[hn];exact hrest o (by simp) d O
  have a1:∀o∈ops.toList,∀d,o.dst=some d->d<a.tmps.size:=fun o ho d O=>by rw[hn];exact hops o ho d O
  -- the operation runs
  have yes:∀ {σ:St} {key:Option Dom},Rel P w g base σ a->GU P call σ o (fun V=>ve P call ops rest V k)=some (key,some out)->o.wp P a w (wpList P ops Q rest) Q:=by
   intro σ key U h;unfold GU at h
   split at h
   ·rename_i V ok he;obtain⟨a4,a0⟩:=dL h;subst a4;exact sy U Y O he _ _ fun z w' g' J a5=>ih V w' g' _ key (fun o ho=>hrest o (by simp[ho])) hops a0 J (by rw[cI];exact hn) (hb.trans a5)
   ·cases h
  -- it is passed gZ
  have no:∀ {σ:St} {key:Option Dom},Rel P w g base σ a->ve P call ops rest (σ.put o.dst .none_) k=some (key,some out)->wpList P ops Q rest (a.put o.dst undef) w:=by intro σ key U h;exact ih _ w g _ key (fun o ho=>hrest o (by simp[ho])) hops h (U.put O (t:=.none_) ⟨#[],rfl,rfl,fun j x h=>by simp at h⟩) (by rw[cI];exact hn) hb
  have hw:=yq U a1 (o:=o);unfold ve YV qF at h;unfold wpList;cases hq:KR ops σ o with
  | yes =>rw[hq] at h hw;simp only at h hw;rw[j8 hw];exact .inl (yes U h)
  | no =>rw[hq] at h hw;simp only at h hw;rw[i7 (by simp[hw])];exact no U h
  | ask t gg b =>
   rw[hq] at h hw;simp only at h hw;obtain⟨ht,hv,hw⟩:=hw;obtain⟨h1,h2⟩:=mF h;have a2:∀c:Bool,gg=c->Rel P w g base (σ.put (some t) (.c (.kb c) D0)) a:=fun c hc=>by
    have:=U.put (dst:=some t) (fun d O=>by injection O with O;subst O;exact ht) (t:=.c (.kb c) D0) (v:=.bool gg) (by rw[hc];exact rfl);have e:a.put (some t) (.bool gg)=a:=by
     rw[<- hv];obtain⟨tm,df⟩:=a;simp only[Act.put]
     congr 1
     refine Array.ext_getElem? fun i=>?_
     rw[E0]
     split
     ·rename_i e;subst e;have Z:t<tm.size:=ht
      first
       | exact (n3 Z).symm
       | (rw[j8 Z,y3,n3 Z];rfl)
     ·rfl
    rwa [e] at this
   cases gg with
   | true =>
    obtain⟨k',h1⟩:=h1 rfl;have J:=a2 true rfl;cases b with
    | true =>rw[j8 (by rw[hw];rfl)];exact .inl (yes J h1)
    | false =>rw[i7 (by rw[hw];decide)];exact no J h1
   | false =>
    obtain⟨k',h2⟩:=h2 rfl;have J:=a2 false rfl;cases b with
    | true =>rw[i7 (by rw[hw];decide)];exact no J h2
    | false =>rw[j8 (by rw[hw];rfl)];exact .inl (yes J h2)
  | bad=>rw[hq] at h;cases h
theorem oG(i:Nat)(v:T):∀(e:Env) (j:Nat),cY j (Bu i v e)=if j=i then v else cY j e
 | [],j=>by
  by_cases h:j=i
  ·subst h;simp[Bu,cY]
  ·simp only[Bu,cY];rw[i7 h,show (j==i)=false from by simpa using h];rfl
 | (k,u)::e,j=>by
  unfold Bu;by_cases hk:i=k
  ·subst hk;simp only[n8,f8,cY];by_cases h:j=i
   ·subst h;simp
   ·rw[i7 h,show (j==i)=false from by simpa using h];rfl
  ·rw[show (i==k)=false from by simpa using hk,f5];simp only[cY];rw[oG i v e j];by_cases h:j=k
   ·subst h;simp only[n8,f8];rw[i7 (fun e=>hk e.symm)]
   ·rw[show (j==k)=false from by simpa using h];rfl
theorem py(i:Nat):∀(e:Env) (j:Nat),cY j (LS i e)=if j=i then .any else cY j e
 | [],j=>by simp[LS,cY]
 | (k,u)::e,j=>by
  unfold LS;by_cases hk:i=k
  ·subst hk;simp only[n8,f8,cY];rw[py i e j];by_cases h:j=i
   ·subst h;simp
   ·rw[i7 h,i7 h,show (j==i)=false from by simpa using h];rfl
  ·rw[show (i==k)=false from by simpa using hk,f5];simp only[cY];rw[py i e j];by_cases h:j=k
   ·subst h;simp only[n8,f8];rw[i7 (fun e=>hk e.symm)]
   ·rw[show (j==k)=false from by simpa using h];rfl
theorem wP(ks:List Nat)(e:Env)(j:Nat):∀(r:Env),cY j (nR ks e r)=bZ j e r\/cY j (nR ks e r)=.any
 | []=>.inl rfl
 | (i,v)::r=>by
  unfold nR bZ;by_cases h:j=i
  ·subst h;cases ks.contains j with
   | true=>rw[f8,oG,j8 rfl];simp
   | false=>rw[f5,py,j8 rfl];exact .inr rfl
  ·rw[show (j==i)=false from by simpa using h,f5];cases ks.contains i with
   | true=>rw[f8,oG,i7 h];exact wP ks e j r
   | false=>rw[f5,py,i7 h];exact wP ks e j r
theorem acq{σ:St}(h:σ.r = [])(i:Nat):(σ.toData1 i).r = []:=by
 unfold St.toData1
 split
 ·show List.map _ σ.r = [];rw[h];rfl
 ·exact h
theorem Oi{σ:St}(h:σ.r = []):∀J:List Nat,(σ.toData J).r = []
 | []=>h
 | i::J=>acq (Oi h J) i
theorem Rel.toData1(V:Rel P w g base σ a)(Z:σ.r = [])(i:Nat):∃g',Rel P w g' base (σ.toData1 i) a:=by
 unfold St.toData1
 split
 ·rename_i t x e hsh;have hs:=V.seal [t];refine⟨bB g [t],fun j=>?_,hs.box,hs.fresh,hs.base_le,hs.defers,hs.low,hs.mine⟩;have O:(σ.map (eO [t])).r = []:=by show List.map _ σ.r = [];rw[Z];rfl
  have J:=hs.env j;change VT P w _ base (bZ j (σ.map (eO [t])).e (σ.map (eO [t])).r) _ at J;rw[O] at J;show VT P w _ base (bZ j (Bu i _ (σ.map (eO [t])).e) (σ.map (eO [t])).r) _;rw[O];change VT P w _ base (cY j (σ.map (eO [t])).e) _ at J;show VT P w _ base (cY j (Bu i _ (σ.map (eO [t])).e)) _;rw[oG];by_cases U:j=i
  ·subst U;rw[j8 rfl];have e1:cY j (σ.map (eO [t])).e=⟨(cY j σ.e).sh.map (eO [t]),(cY j σ.e).p⟩:=Nb (fun Y=>(⟨Y.sh.map (eO [t]),Y.p⟩:T)) (by simp[Sh.map,Sh1.map,eO]) σ.e j;rw[e1,hsh] at J;have J:VC P w (bB g [t]) base (.own t (x && !([t]:List Tok).contains t) e) ((cY j σ.e).p 0) (a.tmps.getD j undef):=J;have hx:(x && !([t]:List Tok).contains t)=false:=by simp
   rw[hx] at J;obtain⟨row,h1,h2⟩:=J;exact nO h1 h2
  ·rw[i7 U];exact J
 ·exact⟨g,V⟩
theorem Rel.toData(U:Rel P w g base σ a)(O:σ.r = []):∀J:List Nat,∃g',Rel P w g' base (σ.toData J) a
 | []=>⟨g,U⟩
 | i::J=>by obtain⟨V,h1⟩:=Rel.toData U O J;exact h1.toData1 (Oi O J) i
def pk(g:G)(s s':Tok):G:=
 { g with owner:=fun b=>if g.owner b=some (.inr s) then some (.inr s') else if g.owner b=some (.inr s') then none else g.owner b,ρ:=fun u=>if u=s' then g.ρ s else g.ρ u,len:=fun u=>if u=s' then g.len s else g.len u,wid:=fun u=>if u=s' then g.wid s else g.wid u,ety:=fun u=>if u=s' then g.ety s else g.ety u }
theorem ER{s s' t:Tok}(hs:t≠s)(J:t≠s'){b:Nat}(h:g.owner b=some (.inr t)):(pk g s s').owner b=some (.inr t):=by show (if g.owner b=some (.inr s) then _ else if g.owner b=some (.inr s') then _ else _)=_;rw[i7 (by rw[h];intro e;injection e with e;injection e with e;exact hs e),i7 (by rw[h];intro e;injection e with e;injection e with e;exact J e),h]
theorem JI{s s' t:Tok}(hs:t≠s)(J:t≠s'){Y:Bool}{e:TypeId}{row:List S}{rows:List b8}{v:Value}(h:dp P w g base t Y e row rows v):dp P w (pk g s s') base t Y e row rows v:=by
 have e1:(pk g s s').ρ t=g.ρ t:=i7 J;have e2:(pk g s s').len t=g.len t:=i7 J;have e3:(pk g s s').wid t=g.wid t:=i7 J;have e4:(pk g s s').ety t=g.ety t:=i7 J;rcases h with⟨U,h1,O⟩ | ⟨cap,arr,E,h1,O,h3,h4,h5,h6,h7,h8,h9,h10,h11⟩
 ·exact .inl ⟨U,by rw[e2];exact h1,O⟩
 ·refine .inr ⟨cap,arr,E,by rw[e1];exact h1,O,by rw[e4];exact h3,by rw[e1];exact h4,by rw[e1];exact ER hs J h5,by rw[e1];exact h6,h7,by rw[e2];exact h8,by rw[e3];exact h9,by rw[e1,e2,e3];exact h10,fun i j z hi hz=>?_⟩;obtain⟨u,Z,k2⟩:=h11 i j z hi hz;exact⟨u,Z,k2.mono rfl (fun b o z h1 O=>⟨O,h1⟩) (fun _ b o U ho V hb=>⟨hb,U,ER hs J ho,by rw[e1];exact V,rfl,rfl,id⟩)⟩
theorem Ev{s s':Tok}(O:s≠s')(hd:bm s'=bm s){Z:Bool}{e:TypeId}{row:List S}{rows:List b8}{v:Value}(h:dp P w g base s Z e row rows v):dp P w (pk g s s') base s' Z e row rows v:=by
 have e1:(pk g s s').ρ s'=g.ρ s:=j8 rfl;have e2:(pk g s s').len s'=g.len s:=j8 rfl;have e3:(pk g s s').wid s'=g.wid s:=j8 rfl;have e4:(pk g s s').ety s'=g.ety s:=j8 rfl;have V:∀ {b:Nat},g.owner b=some (.inr s)->(pk g s s').owner b=some (.inr s'):=fun h=>j8 h
 rcases h with⟨U,h1,J⟩ | ⟨cap,arr,E,h1,J,h3,h4,h5,h6,h7,h8,h9,h10,h11⟩
 ·exact .inl ⟨U,by rw[e2];exact h1,J⟩
 ·refine .inr ⟨cap,arr,E,by rw[e1];exact h1,J,by rw[e4];exact h3,by rw[e1];exact h4,by rw[e1];exact V h5,by rw[e1];exact h6,h7,by rw[e2];exact h8,by rw[e3];exact h9,by rw[e1,e2,e3];exact h10,fun i j z hi hz=>?_⟩;obtain⟨u,k1,k2⟩:=h11 i j z hi hz;exact⟨u,k1,k2.mono (by rw[hd]) (fun b o z h1 J=>⟨J,h1⟩) (fun _ b o U Y O hb=>⟨hb,U,V Y,by rw[e1];exact O,rfl,rfl,id⟩)⟩
theorem agQ{s s':Tok}(a0:s≠s')(hd:bm s'=bm s):iu P base g (pk g s s') w w (ajk s s'):=by
 intro c x v hv;cases c with
 | own t xm e =>
  obtain⟨row,hr,hv⟩:=hv;change VC P w _ base (bif t==s then .own s' xm e else bif t==s' then (bif xm then .any else .d (.sl e)) else .own t xm e) x v;by_cases U:t=s
  ·subst U;rw[show (t==t)=true from by simp,f8];exact⟨row,hr,Ev a0 hd hv⟩
  ·rw[show (t==s)=false from by simpa using U,f5];by_cases J:t=s'
   ·rw[show (t==s')=true from by simpa using J,f8];cases xm with
    | true=>trivial
    | false=>show VD P w g.prot (.sl e) x v;exact nO hr hv
   ·rw[show (t==s')=false from by simpa using J,f5];exact⟨row,hr,JI U J hv⟩
 | eptr tk e off =>
  cases tk with
  | none=>exact hv
  | some t =>
   change VC P w _ base (bif t==s then .eptr (some s') e off else bif t==s' then .any else .eptr (some t) e off) x v;obtain⟨row,h1,O,V,u,h4⟩:=hv;by_cases U:t=s
   ·subst U;rw[show (t==t)=true from by simp,f8];exact⟨row,h1,by rw[show (pk g t s').ρ s'=g.ρ t from j8 rfl];exact O,V,u,Ev a0 hd h4⟩
   ·rw[show (t==s)=false from by simpa using U,f5];by_cases J:t=s'
    ·rw[show (t==s')=true from by simpa using J];trivial
    ·rw[show (t==s')=false from by simpa using J,f5];exact⟨row,h1,by rw[show (pk g s s').ρ t=g.ρ t from i7 J];exact O,V,u,JI U J h4⟩
 | inn t e off ei =>
  change VC P w _ base (bif t==s then .inn s' e off ei else bif t==s' then .any else .inn t e off ei) x v;by_cases U:t=s
  ·subst U;rw[show (t==t)=true from by simp,f8];obtain⟨row,h1,⟨u,h5⟩,⟨Z,O,V,h4,Y,E,h6,h7⟩ | ⟨Z,O,V⟩⟩:=hv
   ·exact⟨row,h1,⟨u,Ev a0 hd h5⟩,.inl ⟨Z,O,by rw[hd];exact V,h4,Y,E,by rw[show (pk g t s').ρ s'=g.ρ t from j8 rfl];exact h6,h7⟩⟩
   ·exact⟨row,h1,⟨u,Ev a0 hd h5⟩,.inr ⟨Z,O,by rw[show (pk g t s').ρ s'=g.ρ t from j8 rfl];exact V⟩⟩
  ·rw[show (t==s)=false from by simpa using U,f5];by_cases J:t=s'
   ·rw[show (t==s')=true from by simpa using J];trivial
   ·rw[show (t==s')=false from by simpa using J,f5];obtain⟨row,h1,⟨u,h5⟩,⟨Z,O,V,h4,Y,E,h6,h7⟩ | ⟨Z,O,V⟩⟩:=hv
    ·exact⟨row,h1,⟨u,JI U J h5⟩,.inl ⟨Z,O,V,h4,Y,E,by rw[show (pk g s s').ρ t=g.ρ t from i7 J];exact h6,h7⟩⟩
    ·exact⟨row,h1,⟨u,JI U J h5⟩,.inr ⟨Z,O,by rw[show (pk g s s').ρ t=g.ρ t from i7 J];exact V⟩⟩
 | fn f caps =>obtain⟨Y,h1,O,V⟩:=hv;refine⟨Y,h1,O,fun j c hc=>?_⟩;obtain⟨u,hu,a1⟩:=V j c hc;refine⟨u,hu,?_⟩;cases c <;> exact a1
 | _=>exact hv
theorem Rel.renTo(O:Rel P w g base σ a){s s':Tok}(a0:s≠s')(hp:s.1≠1000001)(Z:s'.1≠1000001)(hd:bm s'=bm s):∃g',Rel P w g' base (σ.map (ajk s s')) a:=by
 have hk:=agQ (P:=P) (w:=w) (g:=g) (base:=base) a0 hd;have Y:∀ {b:Nat},(∀t,g.owner b≠some (.inr t))->(pk g s s').owner b=g.owner b:=fun h=>by show (if _ then _ else if _ then _ else _)=_;rw[i7 (h s),i7 (h s')]
 refine⟨pk g s s',fun j=>O.envMap hk rfl j,fun id cs ds hl=>O.boxMap hk hl fun cs ds hq=>?_,fun b hb=>?_,O.base_le,O.defers,⟨O.low.1,fun b hb=>?_,fun t y hy=>?_⟩,fun b t ht J=>?_⟩
 ·obtain⟨U,V,_⟩:=O.box id cs ds hq;exact⟨rfl,Y (fun t=>by rw[V];simp),rfl,rfl⟩
 ·obtain⟨U,V⟩:=O.fresh b hb;exact⟨U,by rw[Y (fun t=>by rw[V];simp)];exact V⟩
 ·obtain⟨U,V,q3,q4⟩:=O.low.2.1 b hb;exact⟨by rw[Y (fun t=>by rw[U];simp)];exact U,V,q3,q4⟩
 ·obtain⟨U,V,q3,q4⟩:=O.low.2.2 t y hy;have t1:t≠s:=fun e=>hp (by rw[<- e];exact U)
  have t2:t≠s':=fun e=>Z (by rw[<- e];exact U)
  refine⟨U,(i7 t2:(pk g s s').ρ t=g.ρ t).trans V,(i7 t2:(pk g s s').len t=g.len t).trans q3,fun h0=>?_⟩;obtain⟨m1,m2⟩:=q4 h0;exact⟨ER t1 t2 m1,m2⟩
 ·have t1:t≠s':=fun e=>Z (by rw[<- e];exact ht)
  change (if g.owner b=some (.inr s) then some (Sum.inr s') else if g.owner b=some (.inr s') then none else g.owner b)=_ at J
  split at J
  ·injection J with J;injection J with J;exact absurd J.symm t1
  ·split at J
   ·cases J
   ·exact O.mine b t ht J
theorem Rel.rename1(J:Rel P w g base σ a)(i:Nat):∃g',Rel P w g' base (σ.rename1 i) a:=by
 unfold St.rename1
 split
 ·rename_i s x e hsh;cases U:(s != xB i s&&s.1 != 1000001&&Nat.blt i 1000000) with
  | false=>exact⟨g,J⟩
  | true =>
   rw[f8];simp only[a9] at U;obtain⟨⟨h1,h2⟩,h3⟩:=U;have V:s≠xB i s:=by simpa using h1
   have Z:s.1≠1000001:=by simpa using h2
   have hi:i<1000000:=v5 h3;have Y:bm (xB i s)=bm s:=by unfold xB bm;cases h:Nat.ble 1000000 s.2 <;> rfl
   have O:(xB i s).1≠1000001:=by show i≠1000001;omega
   exact J.renTo V Z O Y
 ·exact⟨g,J⟩
theorem Rel.renames(O:Rel P w g base σ a):∀J:List Nat,∃g',Rel P w g' base (σ.renames J) a
 | []=>⟨g,O⟩
 | i::J=>by obtain⟨U,h1⟩:=Rel.renames O J;exact h1.rename1 i
theorem ade{σ:St}(h:σ.r = [])(i:Nat):(σ.rename1 i).r = []:=by
 unfold St.rename1
 split
 ·rename_i s x e _;cases (s != xB i s&&s.1 != 1000001&&Nat.blt i 1000000) with
  | false=>exact h
  | true=>show List.map _ σ.r = [];rw[h];rfl
 ·exact h
theorem Qq{σ:St}(h:σ.r = []):∀J:List Nat,(σ.renames J).r = []
 | []=>h
 | i::J=>ade (Qq h J) i
theorem Rel.seal1(J:Rel P w g base σ a)(i:Nat):∃g',Rel P w g' base (σ.seal1 i) a:=by
 unfold St.seal1
 split
 ·rename_i s e _;exact⟨_,J.seal [s]⟩
 ·exact⟨g,J⟩
theorem Rel.seals(O:Rel P w g base σ a):∀J:List Nat,∃g',Rel P w g' base (σ.seals J) a
 | []=>⟨g,O⟩
 | i::J=>by obtain⟨U,h1⟩:=Rel.seals O J;exact h1.seal1 i
theorem ajV{σ:St}(h:σ.r = [])(i:Nat):(σ.seal1 i).r = []:=by
 unfold St.seal1
 split
 ·show List.map _ σ.r = [];rw[h];rfl
 ·exact h
theorem aaD{σ:St}(h:σ.r = []):∀J:List Nat,(σ.seals J).r = []
 | []=>h
 | i::J=>ajV (aaD h J) i
theorem Rel.renBox(t:Nat):∀(cs:List Ce) (k:Nat) {σ:St} {g:G},Rel P w g base σ a->∃g',Rel P w g' base (renBox t k cs σ) a
 | [],k,σ,g,hr=>⟨g,hr⟩
 | c::cs,k,σ,g,hr=>by
  have key:∃J O,Go.Proofs.YtpdfmcmnjikppaaGreat.renBox t k (c::cs) σ=Go.Proofs.YtpdfmcmnjikppaaGreat.renBox t (k+1) cs J/\Rel P w O base J a:=by
   cases c with
   | own s x e =>
    cases U:(s != nz t k s&&s.1 != 1000001&&Nat.blt t 1000000&&bm (nz t k s)==bm s) with
    | false=>exact⟨σ,g,by show Go.Proofs.YtpdfmcmnjikppaaGreat.renBox t (k+1) cs (bif (s != nz t k s&&s.1 != 1000001&&Nat.blt t 1000000&&bm (nz t k s)==bm s) then _ else _)=_;rw[U];rfl,hr⟩
    | true =>have V:=U;simp only[a9] at U;obtain⟨⟨⟨h1,Y⟩,Z⟩,h4⟩:=U;have hi:t<1000000:=v5 Z;obtain⟨O,hg⟩:=hr.renTo (s:=s) (s':=nz t k s) (by simpa using h1) (by simpa using Y) (by show t≠1000001;omega) (by simpa using h4);exact⟨_,O,by show Go.Proofs.YtpdfmcmnjikppaaGreat.renBox t (k+1) cs (bif (s != nz t k s&&s.1 != 1000001&&Nat.blt t 1000000&&bm (nz t k s)==bm s) then _ else _)=_;rw[V];rfl,hg⟩
   | _=>exact⟨σ,g,rfl,hr⟩
  obtain⟨J,O,e,h1⟩:=key;rw[e];exact Rel.renBox t cs (k+1) h1
theorem Rel.renBox1(J:Rel P w g base σ a)(t:Nat):∃g',Rel P w g' base (σ.renBox1 t) a:=by
 unfold St.renBox1
 split
 ·exact Rel.renBox t _ 0 J
 ·exact⟨g,J⟩
theorem Rel.renBoxes(O:Rel P w g base σ a):∀J:List Nat,∃g',Rel P w g' base (σ.renBoxes J) a
 | []=>⟨g,O⟩
 | i::J=>by obtain⟨U,h1⟩:=Rel.renBoxes O J;exact h1.renBox1 i
theorem UC(t:Nat):∀(cs:List Ce) (k:Nat) {σ:St},σ.r = []->(renBox t k cs σ).r = []
 | [],k,σ,h=>h
 | c::cs,k,σ,h=>by
  have key:∃J:St,renBox t k (c::cs) σ=renBox t (k+1) cs J/\J.r = []:=by
   cases c with
   | own s x e =>
    refine⟨_,rfl,?_⟩;cases (s != nz t k s&&s.1 != 1000001&&Nat.blt t 1000000&&bm (nz t k s)==bm s) with
    | false=>exact h
    | true=>show List.map _ σ.r = [];rw[h];rfl
   | _=>exact⟨σ,rfl,h⟩
  obtain⟨J,e,h1⟩:=key;rw[e];exact UC t cs (k+1) h1
theorem zZ{σ:St}(h:σ.r = []):∀J:List Nat,(σ.renBoxes J).r = []
 | []=>h
 | i::J=>by
  show (St.renBox1 i (σ.renBoxes J)).r = [];unfold St.renBox1
  split
  ·exact UC i _ 0 (zZ h J)
  ·exact zZ h J
theorem MJ(σ:St)(ks:List Nat):(σ.settle ks).r = []:=zZ (aaD (Qq (Oi rfl _) _) _) _
theorem Rel.settle(J:Rel P w g base σ a)(ks:List Nat):∃g',Rel P w g' base (σ.settle ks) a:=by
 have U:∃g',Rel P w g' base (St.toData (JC ks) ⟨[],nR ks σ.e σ.r,σ.h⟩) a:=by
  refine Rel.toData (g:=g) (σ:=⟨[],nR ks σ.e σ.r,σ.h⟩) ?_ rfl _;refine⟨fun i=>?_,J.box,J.fresh,J.base_le,J.defers,J.low,J.mine⟩;show VT P w g base (cY i (nR ks σ.e σ.r)) _;rcases wP ks σ.e i σ.r with h | h
  ·rw[h];exact J.env i
  ·rw[h];trivial
 obtain⟨Z,h1⟩:=U;obtain⟨Y,O⟩:=h1.renames (SI ks);obtain⟨g3,V⟩:=O.seals (JL ks);exact V.renBoxes _
theorem Ew(j:Nat):∀(ds:List Nat) (e:Env),cY j (iy ds e)=cY j e\/cY j (iy ds e)=.any
 | [],_=>.inl rfl
 | i::ds,e=>by
  unfold iy;rw[py];by_cases h:j=i
  ·rw[j8 h];exact .inr rfl
  ·rw[i7 h];exact Ew j ds e
theorem mb(j:Nat)(ds:List Nat)(e:Env):∀(r:Env),bZ j (iy ds e) r=bZ j e r\/bZ j (iy ds e) r=.any
 | []=>Ew j ds e
 | (i,v)::r=>by
  unfold bZ;cases (j==i) with
  | true=>exact .inl rfl
  | false=>exact mb j ds e r
theorem Mm(i:Nat)(v:T)(e:Env)(j:Nat):∀(r:Env),bZ j (Bu i v e) r=bZ j e r\/(j=i/\bZ j (Bu i v e) r=v)
 | []=>by
  show cY j (Bu i v e)=cY j e\/_;rw[oG];by_cases h:j=i
  ·rw[j8 h];exact .inr ⟨h,by show cY j (Bu i v e)=v;rw[oG,j8 h]⟩
  ·rw[i7 h];exact .inl rfl
 | (k,u)::r=>by
  unfold bZ;cases (j==k) with
  | true=>exact .inl rfl
  | false=>exact Mm i v e j r
theorem Rel.learn(J:Rel P w g base σ a){ks:List Nat}{c:Operand}{b:Bool}(O:a.eval c=.bool b):Rel P w g base (σ.learn ks c b) a:=by
 unfold St.learn
 split
 ·rename_i i;cases ks.contains (9000000+i) with
  | false=>exact J
  | true =>
   refine⟨fun j=>?_,J.box,J.fresh,J.base_le,J.defers,J.low,J.mine⟩;show VT P w g base (bZ j (Bu i _ σ.e) σ.r) _;rcases Mm i (.c (.kb b) D0) σ.e j σ.r with h | ⟨h1,h2⟩
   ·rw[h];exact J.env j
   ·rw[h2];subst h1;exact O
 ·exact J
theorem Rel.shed(J:Rel P w g base σ a)(ks:List Nat)(c:Code):Rel P w g base (σ.shed ks c) a:=by
 unfold St.shed;cases abR c with
 | false=>exact J
 | true =>
  refine⟨fun i=>?_,J.box,J.fresh,J.base_le,J.defers,J.low,J.mine⟩;show VT P w g base (bZ i (iy (nY ks) σ.e) σ.r) _;rcases mb i (nY ks) σ.e σ.r with h | h
  ·rw[h];exact J.env i
  ·rw[h];trivial
theorem zy(e:Env)(j:Nat):∀(dom:List Nat),cY j (oB dom e)=cY j e\/cY j (oB dom e)=.any
 | []=>.inr rfl
 | i::dom=>by
  show cY j ((i,cY i e)::oB dom e)=_\/cY j ((i,cY i e)::oB dom e)=_;simp only[cY];by_cases h:j=i
  ·subst h;left;simp only[n8,f8]
  ·rw[show (j==i)=false from by simpa using h];simp only[f5];exact zy e j dom
theorem od(q:Nat->Bool)(i:Nat):∀(h:sH),bH i (h.filter fun p=>q p.1)=if q i=true then bH i h else none
 | []=>by simp[bH]
 | (j,v)::h=>by
  rw[B0];by_cases J:q j=true
  ·rw[j8 J];simp only[bH];rw[od q i h];by_cases e:i=j
   ·subst e;simp[J]
   ·rw[show (i==j)=false from by simpa using e];rfl
  ·rw[i7 J,od q i h];by_cases e:i=j
   ·subst e;rw[i7 J,i7 J]
   ·simp only[bH];rw[show (i==j)=false from by simpa using e];rfl
theorem Rel.restrictD(J:Rel P w g base σ a)(O:σ.r = [])(d:Dom):Rel P w g base (restrictD d σ) a:=by
 refine⟨fun i=>?_,fun id cs ds h=>?_,J.fresh,J.base_le,J.defers,J.low,J.mine⟩
 ·show VT P w g base (cY i (oB _ σ.e)) _;rcases zy σ.e i (d.1.map (·.1)) with h | h
  ·rw[h];have:=J.env i;rw[O] at this;exact this
  ·rw[h];trivial
 ·have e:=od (fun i=>(d.2.map (·.1)).contains i) id σ.h;change bH id (Go.Proofs.YtpdfmcmnjikppaaGreat.restrictD d σ).h=_ at e;rw[h] at e
  split at e
  ·exact J.box id cs ds e.symm
  ·cases e
theorem xh(σ:St)(j:Nat):∀(dom:List Nat),cY j (dom.map fun i=>(i,bZ i σ.e σ.r))=bZ j σ.e σ.r\/cY j (dom.map fun i=>(i,bZ i σ.e σ.r))=.any
 | []=>.inr rfl
 | i::dom=>by
  simp only[u5,cY];by_cases h:j=i
  ·subst h;left;simp only[n8,f8]
  ·rw[show (j==i)=false from by simpa using h];simp only[f5];exact xh σ j dom
theorem Rel.restrict(O:Rel P w g base σ a)(J:St):Rel P w g base (J.restrict σ) a:=by
 refine⟨fun i=>?_,fun id cs ds h=>?_,O.fresh,O.base_le,O.defers,O.low,O.mine⟩
 ·show VT P w g base (cY i ((J.e.map (·.1)).map fun i=>(i,bZ i σ.e σ.r))) _;rcases xh σ i (J.e.map (·.1)) with h | h
  ·rw[h];exact O.env i
  ·rw[h];trivial
 ·have e:=od (fun i=>(J.h.map (·.1)).contains i) id σ.h;change bH id (J.restrict σ).h=_ at e;rw[h] at e
  split at e
  ·exact O.box id cs ds e.symm
  ·cases e
theorem PP{p q:b8}:∀(n o o':Nat),(∀j,j<n->p (o+j)=q (o'+j))->sub p o n=sub q o' n
 | 0,_,_,_=>rfl
 | n+1,o,o',h=>by rw[sub,sub,show p o=q o' from by simpa using h 0 (by omega),PP n (o+1) (o'+1) (fun j J=>by have:=h (j+1) (by omega);rw[show o+1+j=o+(j+1) from by omega,show o'+1+j=o'+(j+1) from by omega];exact this)]
theorem abj:∀(xs:List Sh1) (j:Nat) x,xs[j]?=some x->rD xs j+x.size<=xs.foldr (fun s n=>s.size+n) 0
 | [],j,x,h=>by simp at h
 | y::xs,0,x,h=>by simp only[n5,b7] at h;subst h;simp[rD]
 | y::xs,j+1,x,h=>by have:=abj xs j x (by simpa using h);simp only[rD,E4,N2] at this ⊢;omega
theorem Rr{cs:List Ce}{p q:b8}{J:Array Value}(h:∀j,j<cs.length->p j=q j)(hv:VCs P w g base cs p J):VCs P w g base cs q J:=by refine⟨hv.1,fun j c O=>?_⟩;obtain⟨u,h1,U⟩:=hv.2 j c O;exact⟨u,h1,by rw[<- h j (g5.1 O).1];exact U⟩
theorem na{x:Sh1}{p q:b8}{v:Value}(h:∀j,j<x.size->p j=q j)(hv:V1 P w g base x p v):V1 P w g base x q v:=by
 cases x with
 | c x=>show VC P w g base x (q 0) v;rw[<- h 0 (by simp[Sh1.size])];exact hv
 | agg xs=>obtain⟨J,h1,O⟩:=hv;exact⟨J,h1,Rr h O⟩
theorem ahs{s:Sh}{p q:b8}{v:Value}(h:∀j,j<s.size->p j=q j)(hv:VS P w g base s p v):VS P w g base s q v:=by
 cases s with
 | one x=>exact na h hv
 | tup xs =>obtain⟨Z,h1,U,V⟩:=hv;refine⟨Z,h1,U,fun j x J=>?_⟩;obtain⟨u,O,Y⟩:=V j x J;refine⟨u,O,?_⟩;have a0:=abj xs j x J;rw[<- PP x.size (rD xs j) (rD xs j) (fun i hi=>h _ (by simp only[Sh.size];omega))];exact Y
def mS(e:Env):b8:=e.flatMap fun p=>sub p.2.p 0 p.2.sh.size
def zn(h:sH):b8:=h.flatMap fun p=>sub p.2.2 0 p.2.1.length
theorem afB(J xs post:b8)(j:Nat)(h:j<xs.length):(J++xs++post) (J.length+j)=xs j:=by unfold gd;rw[f9,f9,v9 (by simp;omega),A5 (by omega)];simp
theorem aeK:∀(e:Env) (J post:b8),(mkE (e.map fun p=>(p.1,p.2.sh)) (J++mS e++post) J.length).2=J.length+(mS e).length /\
  ∀i v,VT P w g base (cY i e) v->VT P w g base (cY i (mkE (e.map fun p=>(p.1,p.2.sh)) (J++mS e++post) J.length).1) v
 | [],J,post=>⟨by simp[mkE,mS],fun i v h=>h⟩
 | (k,t)::e,J,post=>by
  have hs:(sub t.p 0 t.sh.size).length=t.sh.size:=eH _ _ _;have Z:J++mS ((k,t)::e)++post=(J++sub t.p 0 t.sh.size)++mS e++post:=by simp[mS,z7]
  obtain⟨U,V⟩:=aeK e (J++sub t.p 0 t.sh.size) post;have hl:(J++sub t.p 0 t.sh.size).length=J.length+t.sh.size:=by rw[i5,hs]
  rw[hl,<- Z] at U V;have Y:(mS ((k,t)::e)).length=t.sh.size+(mS e).length:=by simp[mS,hs]
  refine⟨?_,fun i v h=>?_⟩
  ·simp only[u5,mkE];rw[U,Y];omega
  ·simp only[u5,mkE,cY];unfold cY at h;by_cases hi:i=k
   ·subst hi;simp only[n8,f8] at h ⊢;refine ahs (fun j O=>?_) h;have O:j<t.sh.size:=O;have e1:J++mS ((i,t)::e)++post=J++sub t.p 0 t.sh.size++(mS e++post):=by simp[mS,z7]
    show t.p j=sub (J++mS ((i,t)::e)++post) J.length t.sh.size j;rw[fq _ _ _ _ O,e1,afB _ _ _ _ (by rw[hs];exact O),fq _ _ _ _ O,i9]
   ·rw[show (i==k)=false from by simpa using hi,f5] at h ⊢;exact V i v h
theorem agO:∀(h:sH) (J post:b8) (i:Nat) cs ds,bH i (mkH (h.map fun p=>(p.1,p.2.1)) (J++zn h++post) J.length)=some (cs,ds)->∃O,bH i h=some (cs,O)/\ds.length=cs.length/\∀j,j<cs.length->O j=ds j
 | [],J,post,i,cs,ds,h=>by simp[mkH,bH] at h
 | (k,c,d)::r,J,post,i,cs,ds,h=>by
  have hs:(sub d 0 c.length).length=c.length:=eH _ _ _;have V:J++zn ((k,c,d)::r)++post=(J++sub d 0 c.length)++zn r++post:=by simp[zn,z7]
  simp only[u5,mkH,bH] at h ⊢;by_cases hi:i=k
  ·subst hi;simp only[n8,f8,b7,i8] at h ⊢;obtain⟨rfl,rfl⟩:=h;refine⟨d,⟨rfl,rfl⟩,eH _ _ _,fun j U=>?_⟩;have e1:J++zn ((i,c,d)::r)++post=J++sub d 0 c.length++(zn r++post):=by simp[zn,z7]
   rw[fq _ _ _ _ U,e1,afB _ _ _ _ (by rw[hs];exact U),fq _ _ _ _ U,i9]
  ·rw[show (i==k)=false from by simpa using hi,f5] at h ⊢;rw[V,show J.length+c.length=(J++sub d 0 c.length).length from by rw[i5,hs]] at h;exact agO r _ post i cs ds h
theorem Rel.mkSt(J:Rel P w g base σ a)(V:σ.r = []):Rel P w g base (mkSt σ.dom σ.flat) a:=by
 have e1:=aeK (P:=P) (w:=w) (g:=g) (base:=base) σ.e [] (zn σ.h);simp only[C7,F0,i9] at e1;refine⟨fun i=>?_,fun id cs ds h=>?_,J.fresh,J.base_le,J.defers,J.low,J.mine⟩
 ·refine e1.2 i _ ?_;have:=J.env i;rw[V] at this;exact this
 ·have h:bH id (mkH (σ.h.map fun p=>(p.1,p.2.1)) (mS σ.e++zn σ.h) (mkE (σ.e.map fun p=>(p.1,p.2.sh)) (mS σ.e++zn σ.h) 0).2)=some (cs,ds):=h;rw[e1.1] at h;have:=agO σ.h (mS σ.e) [] id cs ds (by rw[B9];exact h);obtain⟨O,h1,Z,h3⟩:=this;obtain⟨Y,k2,k3,kl,U,E,k4,k5⟩:=J.box id cs O h1;exact⟨Y,k2,k3,Z,U,E,k4,Rr h3 k5⟩
end
end Go.Proofs.YtpdfmcmnjikppaaGreat
