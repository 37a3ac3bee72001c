/-
 Texts of the proof,put together: part 3.
-/
import Derived.Test.YthbbbhpjkgpdcaaGreatOR1
import Derived.Test.YthbbbhpjkgpdcaaGreatOR2
import Derived.Deep.LoopGhost
set_option linter.unusedSimpArgs false
set_option linter.unusedVariables false
set_option linter.unusedSectionVars false
namespace Go.Proofs.YthbbbhpjkgpdcaaGreat
open Go.RowKit
def g0 (n:Nat) (prot:Nat→Nat):G:=⟨prot,fun _=>none,fun _=>0,fun _=>0,fun _=>0,fun _=>0,fun _=>0,fun _ => [],fun _=>0,fun b=>b<n⟩
structure Res (P:Program) (prot:Nat→Nat) (w w':World) (r:T) (v:Value) (g':G):Prop where
 below:Below w.heap.size w w'
 val:VT P w' g' w.heap.size r v
 prot:∀ b,b<w.heap.size→g'.prot b=prot b
 fresh:∀ b,w'.heap.size≤b→g'.prot b=0∧g'.owner b=none
def ArgsV (P:Program) (prot:Nat→Nat) (w:World) (args:List T) (vs:Array Value):Prop:=
 vs.size=args.length∧∀ (j:Nat) t,args[j]?=some t→∃ u,vs[j]?=some u∧VT P w (g0 w.heap.size prot) w.heap.size t u
def wRet (sh:Sh) (v:Value):Value:=
 match sh with
 | .tup [.c _]=>.tuple #[]
 | _=>v
structure Writ (b:Nat) (e:TypeId) (arr:Array Value) (rows:List (List D)) (w w':World):Prop where
 below:Below 0 w w'
 other:∀ k,k<w.heap.size→k≠b→w'.heap[k]?=w.heap[k]?
 row:∃ arr',w'.heap[b]?=some (.cells arr' e (0,0))∧arr'.size=arr.size∧∀ i,i<rows.length→arr'[i]?=some (.int .i64 (gd (rows.getD i []) 0).int)
def SoundW (P:Program) (f:FuncId) (args:List T) (r:T):Prop:=
 (∀ vs w,(callFunc f vs).run P w=.ok (.enter f vs) w) ∧
 ∀ (e:TypeId) (x:D),args = [.c (.d (.sl e)) x]→rowOf P e=some [.int .i64] →
  (x.rows = []→(gd r.p 0).rows = []∧∀ (A:Option Addr) (w:World),Calls P f #[.slice A 0 0] w fun ex w'=>ex=.returned (wRet r.sh (.slice A 0 0))∧Below w.heap.size w w') ∧
  ∀ (w:World) (b cap:Nat) (arr:Array Value),w.heap[b]?=some (.cells arr e (0,0))→arr.size=cap→x.rows.length≤cap→cap≤9223372036854775807→(∀ i,i<x.rows.length→arr[i]?=some (.int .i64 (gd (x.rows.getD i []) 0).int)) →
   (gd r.p 0).rows.length≤x.rows.length∧((∃ c,r.sh=.tup [.c c])→(gd r.p 0).rows.length=x.rows.length) ∧
   Calls P f #[.slice (some ⟨b,0,none⟩) x.rows.length cap] w fun ex w'=>ex=.returned (wRet r.sh (.slice (some ⟨b,0,none⟩) (gd r.p 0).rows.length cap))∧Writ b e arr (gd r.p 0).rows w w'
def FV:S→D→Value→Prop
 | .int k,d,v=>v=.int k d.int
 | .bool,d,v=>v=.bool d.bool
 | .str,d,v=>v=.string (bsv d.str)
 | .sl _,_,_=>False
 | .opq,_,_=>False
theorem FV.vd {P:Program} {w:World} {prot:Nat→Nat} {s:S} {d:D} {v:Value} (h:FV s d v):VD P w prot s d v:=by
 cases s with
 | int k=>cases h; exact .int k d
 | bool=>cases h; exact .bool d
 | str=>cases h; exact .str d
 | sl e=>cases h
 | opq=>cases h
theorem VD.fv {P:Program} {w:World} {prot:Nat→Nat} {s:S} {d:D} {v:Value} (h:VD P w prot s d v) (hs:s.flat=true):FV s d v:=by
 cases h with
 | int k d=>rfl
 | bool d=>rfl
 | str d=>rfl
 | sl=>simp [S.flat] at hs
 | opq=>simp [S.flat] at hs
def OwnK (w:World) (e:TypeId) (row:List S) (rows:List (List D)) (v:Value) (B:Option Nat):Prop:=
 (B=none∧rows = []∧∃ A,v=.slice A 0 0) ∨
 ∃ (b cap:Nat) (arr:Array Value),B=some b∧v=.slice (some ⟨b,0,none⟩) rows.length cap∧rows.length≤cap∧cap≤9223372036854775807∧w.heap[b]?=some (.cells arr e (0,0))∧arr.size=cap*row.length ∧
  ∀ i j s,i<rows.length→row[j]?=some s→∃ u,arr[i*row.length+j]?=some u∧FV s (gd (rows.getD i []) j) u
structure Changed (w w':World) (B:Option Nat):Prop where
 os:w'.os=w.os
 tape:w'.tape=w.tape
 output:w'.output=w.output
 size:w.heap.size≤w'.heap.size
 other:∀ k,k<w.heap.size→B≠some k→w'.heap[k]?=w.heap[k]?
theorem Changed.refl (w:World) (B:Option Nat):Changed w w B:=⟨rfl,rfl,rfl,Nat.le_refl _,fun _ _ _=>rfl⟩
theorem Changed.trans {w w' w'':World} {B B':Option Nat} (h:Changed w w' B) (h':Changed w' w'' B') (hb:∀ b,B'=some b→B=some b∨w.heap.size≤b):Changed w w'' B:=
 ⟨h'.os.trans h.os,h'.tape.trans h.tape,h'.output.trans h.output,Nat.le_trans h.size h'.size,fun k hk hne=>by
  rw [h'.other k (Nat.lt_of_lt_of_le hk h.size) (fun e=>by rcases hb k e with h1 | h1 <;> first | exact hne h1 | omega)]
  exact h.other k hk hne⟩
def SoundK (P:Program) (f:FuncId) (args:List T) (r:T):Prop:=
 (∀ vs w,(callFunc f vs).run P w=.ok (.enter f vs) w) ∧
 ∀ (e:TypeId) (x:D) (rest:List T) (row:List S),args=.c (.d (.sl e)) x::rest→rowOf P e=some row→row.all S.flat=true →
  ∀ (w:World) (prot:Nat→Nat) (u:Value) (B:Option Nat) (vs:Array Value),OwnK w e row x.rows u B→(∀ b,B=some b→prot b=0)→(∀ b,w.heap.size≤b→prot b=0) →
   (∀ w'',Changed w w'' B→ArgsV P prot w'' rest vs) →
   (r.sh.isKo=true→∀ (j:Nat) A n cap,vs[j]?=some (.slice A n cap)→0<n→∃ b arr E,A=some ⟨b,0,none⟩∧w.heap[b]?=some (.cells arr E (0,0))) →
   Calls P f (#[u]++vs) w fun ex w'=>∃ v' B',ex=.returned v'∧Changed w w' B∧OwnK w' e row (gd r.p 0).rows v' B'∧∀ b,B'=some b→B=some b∨w.heap.size≤b
def OwnX (w:World) (e:TypeId) (m n:Nat) (cs:List Value) (u:Value) (B:Option Nat):Prop:=cs.length=n*m∧(∀ v∈cs,v.oneCell'=true)∧((B=none∧n=0∧∃ A,u=.slice A 0 0) ∨
 ∃ (b cap:Nat) (arr:Array Value),B=some b∧u=.slice (some ⟨b,0,none⟩) n cap∧n≤cap∧cap≤9223372036854775807∧w.heap[b]?=some (.cells arr e (0,0))∧arr.size=cap*m∧∀ (k:Nat) v,cs[k]?=some v→arr[k]?=some v)
def pickCs (m:Nat) (cs:List Value):List Nat→List Value
 | [] => []
 | k::sel=>(cs.drop (k*m)).take m++pickCs m cs sel
def zRows (z:T):List (List D):=
 match z.sh with
 | .one (.c (.d (.sl _)))=>(gd z.p 0).rows
 | _ => []
def SoundX (P:Program) (f:FuncId) (args:List T) (r:T):Prop:=
 (∀ vs w,(callFunc f vs).run P w=.ok (.enter f vs) w) ∧
 ∀ (e:TypeId) (x n:D) (z:T) (row:List S),args = [.c (.d (.sl e)) x,.c (.d (.int .i64)) n,z]→rowOf P e=some row →
  ∃ sel:List Nat,sel.Nodup∧(∀ k∈sel,k<(x.rows++zRows z).length)∧(gd r.p 0).rows=sel.map (fun k=>(x.rows++zRows z).getD k []) ∧
  ∀ (w:World) (u v:Value) (B B2:Option Nat) (cs cs2:List Value),OwnX w e row.length x.rows.length cs u B→(∀ b,B=some b→B2=some b→False) →
   ((z.sh=.one (.c (.d (.int .i64)))∧v=.int .i64 (gd z.p 0).int∧cs2 = [])∨(z.sh=.one (.c (.d (.sl e)))∧OwnX w e row.length (zRows z).length cs2 v B2)) →
   Calls P f #[u,.int .i64 n.int,v] w fun ex w'=>∃ v' B',ex=.returned v'∧Changed w w' B∧OwnX w' e row.length sel.length (pickCs row.length (cs++cs2) sel) v' B'∧∀ b,B'=some b→B=some b∨w.heap.size≤b
def SoundN (P:Program) (f:FuncId) (args:List T) (r:T):Prop:=
 (∀ vs w,(callFunc f vs).run P w=.ok (.enter f vs) w) ∧
 (∀ cs:List Ce,r.sh=.tup [.agg (.any::.any::.any::.any::cs)]→∀ (w:World) (prot:Nat→Nat) (vs:Array Value),ArgsV P prot w args vs→(∀ b,w.heap.size≤b→prot b=0) →
  Calls P f vs w fun e w'=>∃ (b:Nat) (prot':Nat→Nat),e=.returned (.pointer (some ⟨b,0,none⟩))∧Below w.heap.size w w'∧w.heap.size≤b∧(∀ k,k<w.heap.size→prot' k=prot k)∧prot' b=0∧(∀ k,w'.heap.size≤k→prot' k=0) ∧
   ∃ arr E,w'.heap[b]?=some (.cells arr E (0,0))∧arr.size=cs.length∧∀ (j:Nat) s,cs[j]?=some (.d s)→∃ u,arr[j]?=some u∧VD P w' prot' s (gd r.p j) u) ∧
 ∀ cs:List Ce,r.sh=.tup [.agg (.kb false::.any::.any::.any::cs)]→∀ (w:World) (prot:Nat→Nat) (vs:Array Value),ArgsV P prot w args vs→(∀ b,w.heap.size≤b→prot b=0) →
  Calls P f vs w fun e w'=>∃ (us:Array Value) (prot':Nat→Nat),e=.returned (.agg us)∧Below w.heap.size w w'∧(∀ k,k<w.heap.size→prot' k=prot k)∧(∀ k,w'.heap.size≤k→prot' k=0)∧us.size=cs.length ∧
   ∀ (j:Nat) c,cs[j]?=some c→∃ u,us[j]?=some u∧((∃ s,c=.d s∧VD P w' prot' s (gd r.p j) u)∨(c=.any∧∃ arr,vs[0]?=some (.agg arr)∧arr[j]?=some u))
structure ChangedL (w w':World) (lab:Nat→List (Nat × Nat)→Nat→Prop):Prop where
 os:w'.os=w.os
 tape:w'.tape=w.tape
 output:w'.output=w.output
 size:w.heap.size≤w'.heap.size
 other:∀ k,k<w.heap.size→(∀ π n,¬ lab k π n)→w'.heap[k]?=w.heap[k]?
def TRs (P:Program) (w:World) (lab:Nat→List (Nat × Nat)→Nat→Prop) (ss:List S) (ds:List D) (us:Array Value):Prop:=
 us.size=ss.length∧∀ (j:Nat) s,ss[j]?=some s→∃ z,us[j]?=some z∧TR P w lab [(0,j)] s (gd ds j) z
def SoundM (P:Program) (f:FuncId) (args:List T) (r:T):Prop:=
 (∀ vs w,(callFunc f vs).run P w=.ok (.enter f vs) w) ∧
 ∀ (q:T) (kd:D) (ss:List S),args = [q,.c (.d (.int .i64)) kd] →
  ∀ (w:World) (lab:Nat→List (Nat × Nat)→Nat→Prop) (u:Value) (us:Array Value),((∃ s d,q=.c (.d s) d∧ss = [s]∧us = #[u])∨(∃ ds,q=⟨.one (.agg (ss.map .d)),ds⟩∧u=.agg us))→TRs P w lab ss q.p us →
   (∀ b π π' n n',lab b π n→lab b π' n'→π=π'∧n=n') →
   Calls P f #[u,.int .i64 kd.int] w fun ex w'=>ex=.returned (.int .i64 (gd r.p 0).int)∧ChangedL w w' lab∧TRs P w' lab ss r.p.tail us
structure StartP (P:Program) (w:World) (g:G) (b:Nat) (cs:List Ce) (ds:List D) (args:List T) (vs:Array Value):Prop where
 box:g.θ 1000000=b
 owner:g.owner b=some (.inl 1000000)
 prot:g.prot b=0
 cells:∃ arr E,w.heap[b]?=some (.cells arr E (0,0))∧VCs P w g 0 cs ds arr
 fresh:∀ k,w.heap.size≤k→g.prot k=0∧g.owner k=none
 old:∀ k,g.old k→g.owner k=none∧k<w.heap.size
 size:vs.size=args.length
 args:∀ (j:Nat) t,args[j]?=some t→∃ u,vs[j]?=some u∧VT P w g 0 t u
structure EndP (P:Program) (w w':World) (g g':G) (b:Nat) (cs:List Ce) (res:List Sh1) (p:List D) (v:Value):Prop where
 os:w'.os=w.os
 tape:w'.tape=w.tape
 output:w'.output=w.output
 size:w.heap.size≤w'.heap.size
 old:∀ k,g.old k→w'.heap[k]?=w.heap[k]?∧g'.prot k=g.prot k∧g'.owner k=none
 fresh:∀ k,w'.heap.size≤k→g'.prot k=0∧g'.owner k=none
 boxo:g'.prot b=0∧∀ t,g'.owner b≠some (.inr t)
 cells:∃ arr E,w'.heap[b]?=some (.cells arr E (0,0))∧VCs P w' g' 0 cs (sub p 1 cs.length) arr
 res:VT P w' g' 0 ⟨tupOf res,sub p (1+cs.length) (res.flatMap Sh1.ces).length⟩ v
def SoundP (P:Program) (f:FuncId) (args:List T) (r:T):Prop:=
 (∀ vs w,(callFunc f vs).run P w=.ok (.enter f vs) w) ∧
 ∀ (cs1:List Ce) (ds1:List D) (rest:List T) (cs2:List Ce) (res:List Sh1),args=⟨.tup [.agg cs1],ds1⟩::rest→r.sh=.tup (.agg [.any]::.agg cs2::res) →
  ∀ (w:World) (g:G) (b:Nat) (vs:Array Value),StartP P w g b cs1 ds1 rest vs →
   Calls P f (#[.pointer (some ⟨b,0,none⟩)]++vs) w fun e w'=>∃ v g',e=.returned v∧EndP P w w' g g' b cs2 res r.p v
def SoundFn (P:Program) (f:FuncId) (args:List T) (r:T):Prop:=if r.sh.isM then SoundM P f args r else if r.sh.isK then SoundK P f args r else if r.sh.isP then SoundP P f args r else if r.sh.isX then SoundX P f args r else if r.sh.isN then SoundN P f args r else if r.sh.isW then SoundW P f args r else
 (∀ vs w,(callFunc f vs).run P w=.ok (.enter f vs) w) ∧
 ∀ (w:World) (prot:Nat→Nat) (vs:Array Value),ArgsV P prot w args vs→(∀ b,w.heap.size≤b→prot b=0) →
  Calls P f vs w fun e w'=>∃ v g',e=.returned v∧Res P prot w w' r v g'
theorem isK_W {sh:Sh} (h:sh.isW=false):sh.isK=false:=by
 unfold Sh.isK
 split
 ·simp [Sh.isW] at h
 ·rfl
theorem isM_W {sh:Sh} (h:sh.isW=false):sh.isM=false:=by
 unfold Sh.isM
 split
 ·simp [Sh.isW] at h
 ·rfl
theorem isP_W {sh:Sh} (h:sh.isW=false):sh.isP=false:=by
 unfold Sh.isP
 split
 ·simp [Sh.isW] at h
 ·rfl
theorem isX_W {sh:Sh} (h:sh.isW=false):sh.isX=false:=by
 unfold Sh.isX
 split
 ·simp [Sh.isW] at h
 ·rfl
theorem isN_W {sh:Sh} (h:sh.isW=false):sh.isN=false:=by
 unfold Sh.isN
 split
 ·simp [Sh.isW] at h
 ·simp [Sh.isW] at h
 ·rfl
theorem isN_o {sh:Sh} (h:sh.isN=true):sh.isM=false∧sh.isK=false∧sh.isP=false∧sh.isX=false:=by
 unfold Sh.isN at h
 split at h
 ·exact ⟨rfl,rfl,by unfold Sh.isP; split <;> simp_all,rfl⟩
 ·exact ⟨rfl,rfl,by unfold Sh.isP; split <;> simp_all,rfl⟩
 ·cases h
theorem isX_o {sh:Sh} (h:sh.isX=true):sh.isM=false∧sh.isK=false∧sh.isP=false:=by
 unfold Sh.isX at h
 split at h
 ·exact ⟨rfl,rfl,by unfold Sh.isP; split <;> simp_all⟩
 ·cases h
theorem isM_K {sh:Sh} (h:sh.isK=true):sh.isM=false:=by
 unfold Sh.isK at h
 split at h
 ·rfl
 ·cases h
theorem isM_P {sh:Sh} (h:sh.isP=true):sh.isM=false:=by
 unfold Sh.isP at h
 split at h
 ·rfl
 ·cases h
theorem isK_P {sh:Sh} (h:sh.isP=true):sh.isK=false:=by
 unfold Sh.isP at h
 split at h
 ·rfl
 ·cases h
theorem SoundFn.n {P:Program} {f:FuncId} {args:List T} {r:T} (h:SoundFn P f args r) (hw:r.sh.isW=false):(∀ vs w,(callFunc f vs).run P w=.ok (.enter f vs) w) ∧
 ∀ (w:World) (prot:Nat→Nat) (vs:Array Value),ArgsV P prot w args vs→(∀ b,w.heap.size≤b→prot b=0) →
  Calls P f vs w fun e w'=>∃ v g',e=.returned v∧Res P prot w w' r v g':=by
 unfold SoundFn at h
 rw [isM_W hw,isK_W hw,isP_W hw,isX_W hw,isN_W hw,hw] at h
 exact h
theorem SoundFn.w {P:Program} {f:FuncId} {args:List T} {r:T} (h:SoundFn P f args r) (hw:r.sh.isW=true) (hk:r.sh.isK=false) (hm:r.sh.isM=false) (hp:r.sh.isP=false) (hx:r.sh.isX=false) (hn:r.sh.isN=false):SoundW P f args r:=by
 unfold SoundFn at h
 rw [hm,hk,hp,hx,hn,hw] at h
 exact h
theorem SoundFn.k {P:Program} {f:FuncId} {args:List T} {r:T} (h:SoundFn P f args r) (hk:r.sh.isK=true):SoundK P f args r:=by
 unfold SoundFn at h
 rw [isM_K hk,hk] at h
 exact h
theorem SoundFn.m {P:Program} {f:FuncId} {args:List T} {r:T} (h:SoundFn P f args r) (hm:r.sh.isM=true):SoundM P f args r:=by
 unfold SoundFn at h
 rw [hm] at h
 exact h
theorem SoundFn.p {P:Program} {f:FuncId} {args:List T} {r:T} (h:SoundFn P f args r) (hp:r.sh.isP=true):SoundP P f args r:=by
 unfold SoundFn at h
 rw [isM_P hp,isK_P hp,hp] at h
 exact h
theorem SoundFn.x {P:Program} {f:FuncId} {args:List T} {r:T} (h:SoundFn P f args r) (hx:r.sh.isX=true):SoundX P f args r:=by
 unfold SoundFn at h
 rw [(isX_o hx).1,(isX_o hx).2.1,(isX_o hx).2.2,hx] at h
 exact h
theorem SoundFn.nw {P:Program} {f:FuncId} {args:List T} {r:T} (h:SoundFn P f args r) (hn:r.sh.isN=true):SoundN P f args r:=by
 unfold SoundFn at h
 rw [(isN_o hn).1,(isN_o hn).2.1,(isN_o hn).2.2.1,(isN_o hn).2.2.2,hn] at h
 exact h
theorem SoundFn.ofM {P:Program} {f:FuncId} {args:List T} {r:T} (hm:r.sh.isM=true) (h:SoundM P f args r):SoundFn P f args r:=by
 unfold SoundFn
 rw [hm]
 exact h
theorem SoundFn.ofP {P:Program} {f:FuncId} {args:List T} {r:T} (hp:r.sh.isP=true) (h:SoundP P f args r):SoundFn P f args r:=by
 unfold SoundFn
 rw [isM_P hp,isK_P hp,hp]
 exact h
theorem SoundFn.ofK {P:Program} {f:FuncId} {args:List T} {r:T} (hk:r.sh.isK=true) (h:SoundK P f args r):SoundFn P f args r:=by
 unfold SoundFn
 rw [isM_K hk,hk]
 exact h
theorem SoundFn.of {P:Program} {f:FuncId} {args:List T} {r:T} (hw:r.sh.isW=false) (h:(∀ vs w,(callFunc f vs).run P w=.ok (.enter f vs) w) ∧
 ∀ (w:World) (prot:Nat→Nat) (vs:Array Value),ArgsV P prot w args vs→(∀ b,w.heap.size≤b→prot b=0) →
  Calls P f vs w fun e w'=>∃ v g',e=.returned v∧Res P prot w w' r v g'):SoundFn P f args r:=by
 unfold SoundFn
 rw [isM_W hw,isK_W hw,isP_W hw,isX_W hw,isN_W hw,hw]
 exact h
def CallOk (P:Program) (call:FuncId→List T→Option (T × Bool)):Prop:=∀ f args r,call f args=some (r,true)→SoundFn P f args r
section
variable [Low] {P:Program} {w w':World} {g g':G} {base:Nat} {σ:St} {a:Act}
theorem capArg_ok (hr:Rel P w g base σ a) {ts:List Tok} {c c':Cap} {x x':D} {u:Value} (h:capArg σ c x=some (c',x')) (hv:CapV P w g base c x u) (ht:∀ t∈capToks σ [c],ts.contains t=true) :
  CapV P w (g0 w.heap.size (sealG g ts).prot) w.heap.size c' x' u:=by
 cases c with
 | d s =>
  simp only [capArg,Option.some.injEq,Prod.mk.injEq] at h
  obtain ⟨rfl,rfl⟩:=h
  exact seal_vd hv
 | cptr cells off =>
  simp only [capArg,Option.some.injEq,Prod.mk.injEq] at h
  obtain ⟨rfl,rfl⟩:=h
  obtain ⟨b,o,h1,h2,h3⟩:=hv
  refine ⟨b,o,h1,(hr.low.2.1 b h2).2.2.2,fun j s hs=>?_⟩
  obtain ⟨v,k1,k2⟩:=h3 j s hs
  exact ⟨v,k1,seal_vd k2⟩
 | ptr id off =>
  simp only [capArg] at h
  split at h
  ·rename_i cs ds hl
   split at h
   ·rename_i ss hss
    simp only [Option.some.injEq,Prod.mk.injEq] at h
    obtain ⟨rfl,rfl⟩:=h
    obtain ⟨k1,k2,k3,kl,arr,E,k4,k5⟩:=hr.box id cs ds hl
    have hv:u=.pointer (some ⟨g.θ id,off,none⟩):=hv
    subst hv
    have hrow:=row_ok (ts:=ts) k5 hss (fun t h=>ht t (by simp [capToks,hl,h]))
    refine ⟨g.θ id,0,by rw [Nat.zero_add],lt_of_heap k4,fun j s hs=>?_⟩
    obtain ⟨v,q1,q2⟩:=hrow.2 j s hs
    exact ⟨v,by simp only [World.cell?,k4,Nat.zero_add]; exact q1,q2⟩
   ·cases h
  ·cases h
theorem capToks_mem {σ:St}:∀ {caps:List Cap} {j:Nat} {c:Cap},caps[j]?=some c→∀ t∈capToks σ [c],t∈capToks σ caps
 | [],j,c,h,t,ht=>by simp at h
 | c0::cs,0,c,h,t,ht=>by
  simp only [List.getElem?_cons_zero,Option.some.injEq] at h
  subst h
  cases c0 <;> simp [capToks] at ht ⊢
  exact .inl ht
 | c0::cs,j+1,c,h,t,ht=>by
  have:=capToks_mem (caps:=cs) (j:=j) (by simpa using h) t ht
  cases c0 <;> simp [capToks,this]
theorem capArgs_ok (hr:Rel P w g base σ a) {ts:List Tok}:∀ {caps caps':List Cap} {ds ds':List D},capArgs σ caps ds=some (caps',ds')→(∀ t∈capToks σ caps,ts.contains t=true) →
  caps'.length=caps.length∧∀ (j:Nat) c',caps'[j]?=some c'→∃ c,caps[j]?=some c∧∀ u,CapV P w g base c (gd ds j) u→CapV P w (g0 w.heap.size (sealG g ts).prot) w.heap.size c' (gd ds' j) u
 | [],caps',ds,ds',h,_=>by
  simp only [capArgs,Option.some.injEq,Prod.mk.injEq] at h
  obtain ⟨rfl,rfl⟩:=h
  exact ⟨rfl,fun j c h=>by simp at h⟩
 | c::cs,caps',ds,ds',h,ht=>by
  unfold capArgs at h
  split at h
  ·rename_i d x ds1 xs h1 h2
   simp only [Option.some.injEq,Prod.mk.injEq] at h
   obtain ⟨rfl,rfl⟩:=h
   have ht1:∀ t∈capToks σ [c],ts.contains t=true:=fun t h=>ht t (capToks_mem (caps:=c::cs) (j:=0) rfl t h)
   have ht2:∀ t∈capToks σ cs,ts.contains t=true:=fun t h=>ht t (by cases c <;> simp [capToks,h])
   obtain ⟨k1,k2⟩:=capArgs_ok hr h2 ht2
   refine ⟨by simp [k1],fun j c' hj=>?_⟩
   cases j with
   | zero =>
    simp only [List.getElem?_cons_zero,Option.some.injEq] at hj
    subst hj
    exact ⟨c,rfl,fun u hu=>capArg_ok hr h1 hu ht1⟩
   | succ j =>
    obtain ⟨c0,q1,q2⟩:=k2 j c' (by simpa using hj)
    refine ⟨c0,by simpa using q1,fun u hu=>?_⟩
    rw [gd_cons_succ]
    exact q2 u (by rw [gd_tail]; exact hu)
  ·cases h
theorem arg_ok (hr:Rel P w g base σ a) {ts:List Tok} {v v':T} {u:Value} (h:arg P σ v=some v') (hv:VT P w g base v u) (ht:∀ t∈argToks σ v,ts.contains t=true):VT P w (g0 w.heap.size (sealG g ts).prot) w.heap.size v' u:=by
 obtain ⟨sh,p⟩:=v
 cases sh with
 | tup xs=>cases h
 | one x=>cases x with
  | agg xs =>
   unfold arg at h
   simp only at h
   split at h
   ·rename_i ss hss
    injection h with h; subst h
    obtain ⟨arr,rfl,hvc⟩:=hv
    obtain ⟨k1,k2⟩:=row_okA (ts:=ts) hvc hss ht
    refine ⟨arr,rfl,by simp [k1],fun j c hj=>?_⟩
    rw [List.getElem?_map] at hj
    cases hs:ss[j]? with
    | none=>rw [hs] at hj; cases hj
    | some s =>
     rw [hs] at hj; injection hj with hj; subst hj
     obtain ⟨z,q1,q2⟩:=k2 j s hs
     exact ⟨z,q1,q2⟩
   ·cases h
  | c x =>
   cases x with
   | fn f caps =>
    unfold arg at h
    simp only at h
    split at h
    ·rename_i cs ds hc
     injection h with h; subst h
     obtain ⟨k1,k2⟩:=capArgs_ok hr hc ht
     obtain ⟨arr,rfl,h2,h3⟩:=hv
     refine ⟨arr,rfl,by rw [h2,k1],fun j c hj=>?_⟩
     obtain ⟨c0,q1,q2⟩:=k2 j c hj
     obtain ⟨z,z1,z2⟩:=h3 j c0 q1
     exact ⟨z,z1,q2 z z2⟩
    ·cases h
   | cptr cells off =>
    simp only [arg,Option.some.injEq] at h
    subst h
    exact capArg_ok hr (c:=.cptr cells off) (x:=gd p 0) rfl hv (fun t h=>by simp [capToks] at h)
   | ptr id off =>
    unfold arg at h
    simp only at h
    split at h
    ·rename_i c d hc
     injection h with h; subst h
     have:=capArg_ok hr (ts:=ts) hc (u:=u) hv ht
     have hcc:∃ ss o',c=.cptr ss o':=by
      simp only [capArg] at hc
      split at hc
      ·split at hc
       ·simp only [Option.some.injEq,Prod.mk.injEq] at hc; exact ⟨_,_,hc.1.symm⟩
       ·cases hc
      ·cases hc
     obtain ⟨ss,o',rfl⟩:=hcc
     exact this
    ·cases h
   | eptr tk e off =>
    unfold arg at h
    simp only at h
    split at h
    ·rename_i row hrow
     cases hdo:deepO tk with
     | true=>rw [hdo] at h; cases h
     | false =>
     rw [hdo,cond_false] at h
     injection h with h; subst h
     have key:∃ b o,u=.pointer (some ⟨b,o+off,none⟩)∧∀ (j:Nat) s,row[j]?=some s→∃ z,w.cell? ⟨b,o+j,none⟩=some z∧VD P w g.prot s (gd ((eRows (gd p 0)).getD (eIx (gd p 0)) []) j) z:=by
      cases tk with
      | none =>
       obtain ⟨row',b,o,k1,k2,k3,k4⟩:=hv
       rw [hrow] at k1; injection k1 with k1; subst k1
       exact ⟨b,o+eIx (gd p 0)*row.length,by rw [k2,Nat.add_assoc],fun j s hs=>by obtain ⟨z,j1,_,j3⟩:=k4 j s hs; exact ⟨z,by rw [Nat.add_assoc]; exact j1,j3⟩⟩
      | some t =>
       obtain ⟨row',k1,k2,k3,v0,k4⟩:=hv
       rw [hrow] at k1; injection k1 with k1; subst k1
       refine ⟨g.ρ t,eIx (gd p 0)*row.length,k2,fun j s hs=>?_⟩
       rcases k4 with ⟨h0,_⟩ | ⟨cap,arr,E,h1,h2,h3,h4,h5,h6,h7,h8,h9,h10,h11⟩
       ·rw [h0] at k3; simp at k3
       ·obtain ⟨z,hz1,hz2⟩:=h11 _ j s k3 hs
        exact ⟨z,by simp only [World.cell?,h6]; exact hz1,hz2.vd hdo⟩
     obtain ⟨b,o,rfl,hk⟩:=key
     obtain ⟨z0,hz0,_⟩:=hk 0 _ (List.getElem?_eq_getElem (rowOf_pos hrow))
     refine ⟨b,o,rfl,cell_size hz0,fun j s hs=>?_⟩
     obtain ⟨z,q1,q2⟩:=hk j s hs
     refine ⟨z,q1,?_⟩
     have hj:=(List.getElem?_eq_some_iff.1 hs).1
     show VD P w (sealG g ts).prot s (gd (sub ((eRows (gd p 0)).getD (eIx (gd p 0)) []) 0 row.length) j) z
     rw [gd_sub _ _ _ _ hj,Nat.zero_add]
     exact seal_vd q2
    ·cases h
   | any=>cases h
   | d s =>
    simp only [arg,Ce.aS,Ce.toS,Option.some.injEq] at h
    subst h
    exact aD_ok (base:=base) (c:=.d s) (s:=s) (x:=gd p 0) hv rfl ht
   | kb b =>
    simp only [arg,Ce.aS,Ce.toS,Option.some.injEq] at h
    subst h
    exact aD_ok (base:=base) (c:=.kb b) (s:=.bool) (x:=gd p 0) hv rfl ht
   | own t xm e =>
    simp only [arg,Ce.aS,Ce.toS,Option.some.injEq] at h
    subst h
    exact aD_ok (base:=base) (c:=.own t xm e) (s:=.sl e) (x:=gd p 0) hv rfl ht
   | inn t e off ei =>
    simp only [arg,Ce.aS,Option.some.injEq] at h
    subst h
    exact aD_ok (base:=base) (c:=.inn t e off ei) (s:=.sl ei) (x:=gd p 0) hv rfl ht
theorem evArgsN_ok (hr:Rel P w g base σ a) {ts:List Tok} {nd:Bool}:∀ {xs:List Operand} {tys:List TypeId} {vs:List T},evArgsN P σ nd xs tys=some vs→(∀ t∈(xs.map (opd σ)).flatMap (argToks σ),ts.contains t=true) →
  vs.length=xs.length∧∀ (j:Nat) v,vs[j]?=some v→∃ x,xs[j]?=some x∧VT P w (g0 w.heap.size (sealG g ts).prot) w.heap.size v (a.eval x)
 | [],tys,vs,h,_=>by
  simp only [evArgsN,Option.some.injEq] at h
  subst h
  exact ⟨rfl,fun j v h=>by simp at h⟩
 | x::xs,tys,vs,h,ht=>by
  simp only [evArgsN] at h
  split at h
  ·rename_i d ds h1 h2
   injection h with h; subst h
   obtain ⟨k1,k2⟩:=evArgsN_ok hr h2 (fun t h=>ht t (by simp only [List.map_cons,List.flatMap_cons,List.mem_append]; exact .inr h))
   refine ⟨by simp [k1],fun j v hj=>?_⟩
   cases j with
   | zero =>
    simp only [List.getElem?_cons_zero,Option.some.injEq] at hj
    subst hj
    refine ⟨x,rfl,?_⟩
    unfold argN at h1
    split at h1
    ·rename_i t hn
     injection h1 with h1
     subst h1
     unfold nilT at hn
     split at hn
     ·rename_i t0
      split at hn
      ·rename_i e he
       cases hro:rowOf P e with
       | none=>rw [hro] at hn; cases hn
       | some row =>
        rw [hro] at hn
        injection hn with hn
        subst hn
        cases nd with
        | false=>exact ⟨row,hro,.inl ⟨rfl,rfl,none,rfl⟩⟩
        | true=>exact nil_vd hro
      ·cases hn
     ·cases hn
    ·exact arg_ok hr h1 (opd_ok hr x) (fun t h=>ht t (by simp only [List.map_cons,List.flatMap_cons,List.mem_append]; exact .inl h))
   | succ j =>
    obtain ⟨y,q1,q2⟩:=k2 j v (by simpa using hj)
    exact ⟨y,by simpa using q1,q2⟩
  ·cases h
theorem capTs_get:∀ (cs:List Cap) (ds:List D) (j:Nat),(capTs cs ds)[j]?=(cs[j]?).map fun c=>T.c c.ce (gd ds j)
 | [],ds,j=>by simp [capTs]
 | c::cs,ds,0=>by simp [capTs]
 | c::cs,ds,j+1=>by
  simp only [capTs,List.getElem?_cons_succ,capTs_get cs ds.tail j,gd_tail]
theorem capTs_length:∀ (cs:List Cap) (ds:List D),(capTs cs ds).length=cs.length
 | [],_=>rfl
 | c::cs,ds=>by simp [capTs,capTs_length cs ds.tail]
theorem vs_mem {f:Ce→Ce} {g g':G} {base base':Nat} {sh:Sh} {p:List D} {v:Value} (h:∀ c∈sh.ces,∀ x v,VC P w g base c x v→VC P w g' base' (f c) x v) (hv:VS P w g base sh p v):VS P w g' base' (sh.map f) p v:=by
 have h1:∀ {x:Sh1} {p:List D} {v:Value},(∀ c∈x.ces,∀ x v,VC P w g base c x v→VC P w g' base' (f c) x v)→V1 P w g base x p v→V1 P w g' base' (x.map f) p v:=by
  intro x p v hx hv
  cases x with
  | c c=>exact hx c (by simp [Sh1.ces]) _ _ hv
  | agg xs =>
   obtain ⟨arr,rfl,k1,k2⟩:=hv
   refine ⟨arr,rfl,by rw [List.length_map]; exact k1,fun j c hj=>?_⟩
   rw [List.getElem?_map] at hj
   cases hs:xs[j]? with
   | none=>rw [hs] at hj; cases hj
   | some c0 =>
    rw [hs] at hj; injection hj with hj; subst hj
    obtain ⟨u,q1,q2⟩:=k2 j c0 hs
    exact ⟨u,q1,hx c0 (List.mem_of_getElem? hs) _ _ q2⟩
 cases sh with
 | one x=>exact h1 h hv
 | tup xs =>
  obtain ⟨vs,rfl,k1,k2⟩:=hv
  refine ⟨vs,rfl,by rw [List.length_map]; exact k1,fun j x hj=>?_⟩
  rw [List.getElem?_map] at hj
  cases hs:xs[j]? with
  | none=>rw [hs] at hj; cases hj
  | some x0 =>
   rw [hs] at hj; injection hj with hj; subst hj
   obtain ⟨u,q1,q2⟩:=k2 j x0 hs
   refine ⟨u,q1,?_⟩
   rw [offs_map,Sh1.size_map]
   exact h1 (fun c hc=>h c (List.mem_flatMap.2 ⟨x0,List.mem_of_getElem? hs,hc⟩)) q2
def Goes (P:Program) (base:Nat) (σ':St) (o:Oper) (a:Act) (w:World):Prop:=
 ∀ (K:Act→World→Prop) (Q:Exit→Act→World→Prop),(∀ z w' g',Rel P w' g' base σ' (a.put o.dst z)→Below base w w'→K (a.put o.dst z) w')→o.wp P a w K Q
theorem Does.goes {o:Oper} {σ':St} (h:Does P base σ' o a w):Goes P base σ' o a w:=by
 intro K Q hK
 obtain ⟨z,w',g',h1 | ⟨h1,rfl⟩,h2,h3⟩:=h
 ·unfold Oper.wp; rw [h1]; exact hK z w' g' h2 h3
 ·unfold Oper.wp; rw [h1]; exact hK undef w' g' h2 h3
theorem prim_mem {sh:Sh} (h:sh.prim=true):∀ c∈sh.ces,c.prim=true:=by
 have h1:∀ {x:Sh1},x.prim=true→∀ c∈x.ces,c.prim=true:=by
  intro x hx c hc
  cases x with
  | c c0=>simp only [Sh1.ces,List.mem_singleton] at hc; subst hc; exact hx
  | agg xs=>exact List.all_eq_true.1 hx c hc
 intro c hc
 cases sh with
 | one x=>exact h1 h c hc
 | tup xs =>
  obtain ⟨x,hx,hc⟩:=List.mem_flatMap.1 hc
  exact h1 (List.all_eq_true.1 h x hx) c hc
theorem apart_mem {call:FuncId→List T→Option (T × Bool)} {sh:Sh} (h:apart P call sh=true):∀ c∈sh.ces,(c.prim||apartC P c)=true:=by
 intro c hc
 unfold apart at h
 rw [Bool.or_eq_true] at h
 rcases h with h | h
 ·rw [prim_mem h c hc]; rfl
 ·rw [Bool.and_eq_true] at h
  rw [List.all_eq_true.1 h.2 c hc,Bool.or_true]
theorem DoesC.goes {o:Oper} {σ':St} (h:DoesC P base σ' o a w):Goes P base σ' o a w:=h.does.goes
def GoesB (P:Program) (base:Nat) (σ':St) (o:Oper) (a:Act) (w:World):Prop:=
 ∀ (K:Act→World→Prop) (Q:Exit→Act→World→Prop),(∀ z w' g',Rel P w' g' base σ' (a.put o.dst z)→Below base w w'→Below w.heap.size w w'→K (a.put o.dst z) w')→o.wp P a w K Q
theorem GoesB.goes {o:Oper} {σ':St} (h:GoesB P base σ' o a w):Goes P base σ' o a w:=fun K Q hK=>h K Q fun z w' g' h1 h2 _=>hK z w' g' h1 h2
theorem evCall_ok (hr:Rel P w g base σ a) {call:FuncId→List T→Option (T × Bool)} (hcall:CallOk P call) {o:Oper} {σ':St} {d:Nat} {f:Operand} {xs:Array Operand} {ts0:Array TypeId} (ho:o.op=.call { callee:=.value f,args:=xs,argTypes:=ts0 }) (hdst:o.dst=some d) (hd:∀ d,o.dst=some d→d<a.tmps.size)
  {tys:List TypeId} (h:evCall P call σ d f xs.toList tys=some (σ',true)):GoesB P base σ' o a w:=by
 unfold evCall at h
 split at h
 ·rename_i fid caps hsh
  split at h
  ·rename_i vs cs ds hvs hcs
   split at h
   ·rename_i r ok hcl
    cases hres:r.sh.ces.all resC with
    | false=>rw [hres,Bool.and_false] at h; cases h
    | true =>
     cases hisw:r.sh.isW with
     | true=>rw [hisw] at h; cases h
     | false =>
      rw [hres,hisw,show (!false&&true)=true from rfl,cond_true] at h
      simp only [Option.some.injEq,Prod.mk.injEq] at h
      obtain ⟨rfl,rfl⟩:=h
      let ts:List Tok:=(xs.toList.map (opd σ)).flatMap (argToks σ)++capToks σ caps
      obtain ⟨k1,k2⟩:=evArgsN_ok (ts:=ts) hr hvs (fun t h=>List.contains_iff_mem.2 (List.mem_append.2 (.inl h)))
      obtain ⟨q1,q2⟩:=capArgs_ok (ts:=ts) hr hcs (fun t h=>List.contains_iff_mem.2 (List.mem_append.2 (.inr h)))
      have hfv:=opd_ok hr f
      have hfv:VC P w g base (.fn fid caps) (gd (opd σ f).p 0) (a.eval f):=by
       generalize opd σ f=q at *
       obtain ⟨sh,p⟩:=q
       simp only at hsh
       subst hsh
       exact hfv
      obtain ⟨carr,hfe,hcl1,hcl2⟩:=hfv
      obtain ⟨hen,hcalls⟩:=(hcall _ _ _ hcl).n hisw
      have hxs:xs.toList.length=xs.size:=by simp
      have hargs:ArgsV P (sealG g ts).prot w (vs++capTs cs ds) (xs.map a.eval++carr):=by
       refine ⟨by simp [k1,capTs_length,q1,hcl1],fun j t hj=>?_⟩
       rw [List.getElem?_append] at hj
       split at hj
       ·rename_i hlt
        obtain ⟨x,hx,hxv⟩:=k2 j t hj
        refine ⟨a.eval x,?_,hxv⟩
        rw [Array.getElem?_append_left (by simp; omega),Array.getElem?_map]
        have:xs[j]?=some x:=by simpa using hx
        rw [this]; rfl
       ·rename_i hge
        rw [capTs_get] at hj
        cases hc:cs[j - vs.length]? with
        | none=>rw [hc] at hj; cases hj
        | some c =>
         rw [hc] at hj; injection hj with hj; subst hj
         obtain ⟨c0,m1,m2⟩:=q2 _ c hc
         obtain ⟨u,m3,m4⟩:=hcl2 _ c0 m1
         refine ⟨u,?_,?_⟩
         ·rw [Array.getElem?_append_right (by simp; omega)]
          simp only [Array.size_map,← k1.symm]
          rw [show xs.size=vs.length from by rw [k1]; simp]
          exact m3
         ·have:=m2 u m4
          cases c <;> exact this
      have hfr:∀ b,w.heap.size≤b→(sealG g ts).prot b=0:=fun b hb=>((hr.seal ts).fresh b hb).1
      intro K Q hK
      unfold Oper.wp
      have hrun:(execOp a.eval o).run P w=.ok (.enter fid (xs.map a.eval++carr)) w:=by
       simp only [execOp,ho,resolve,hfe,Deferred.ofValue,Sem.run_bind,Sem.run_pure,Result.andThen_ok,invoke]
       simpa using hen (xs.map a.eval++carr) w
      rw [hrun]
      refine (hcalls w _ _ hargs hfr).mono ?_
      rintro e w' ⟨v,g',rfl,hR⟩
      let ts':List Tok:=bif apart P call r.sh then [] else ts
      let gs:=sealG g ts'
      have hrs:Rel P w gs base (σ.seal ts') a:=hr.seal ts'
      let g2:G:={ prot:=fun b=>if b<w.heap.size then gs.prot b else g'.prot b, owner:=fun b=>if b<w.heap.size then gs.owner b else match g'.owner b with | some (.inr t)=>some (.inr (d,t.2)) | _=>none, θ:=gs.θ,ρ:=fun t=>if t.1=d then g'.ρ (0,t.2) else gs.ρ t,len:=fun t=>if t.1=d then g'.len (0,t.2) else gs.len t, wid:=fun t=>if t.1=d then g'.wid (0,t.2) else gs.wid t,ety:=fun t=>if t.1=d then g'.ety (0,t.2) else gs.ety t, path:=fun b=>if b<w.heap.size then gs.path b else g'.path b,need:=fun b=>if b<w.heap.size then gs.need b else g'.need b,old:=gs.old }
      have hE:Ext (some d) gs g2 w w':=by
       refine ⟨hR.below.size,fun id h=>rfl,fun t h=>?_,fun b h=>if_pos h,fun b h=>if_pos h,fun b h=>hR.below.block b h,fun b h=>⟨if_pos h,if_pos h⟩,rfl,fun b t hge h=>?_⟩
       rotate_right
       ·change (if b<w.heap.size then _ else match g'.owner b with | some (Sum.inr t)=>some (Sum.inr (d,t.2)) | _=>none)=_ at h
        rw [if_neg (by omega)] at h
        split at h
        ·injection h with h; injection h with h; exact .inl (by rw [← h])
        ·cases h
       have:t.1≠d:=fun e=>h (by rw [e])
       exact ⟨if_neg this,if_neg this,if_neg this,if_neg this⟩
      have hF:∀ b,w'.heap.size≤b→g2.prot b=0∧g2.owner b=none:=fun b hb=>by
       have hge:=hR.below.size
       have:=hR.fresh b hb
       refine ⟨by show (if b<w.heap.size then _ else _)=_; rw [if_neg (by omega)]; exact this.1,?_⟩
       show (if b<w.heap.size then _ else match g'.owner b with | some (Sum.inr t)=>some (Sum.inr (d,t.2)) | _=>none)=_
       rw [if_neg (by omega),this.2]
      have hrel:=hrs.wipeRow (hd d hdst) hE rfl hF
      have hval:VT P w' g2 base ⟨r.sh.map (retokC d),r.p⟩ v:=by
       refine vs_mem (fun c hc x u hcv=>?_) hR.val
       have hcr:=List.all_eq_true.1 hres c hc
       have hprot:apart P call r.sh=false→∀ b o z,o<g'.prot b→w'.cell? ⟨b,o,none⟩=some z→w'.cell? ⟨b,o,none⟩=some z∧o<g2.prot b:=fun hp b o z h1 h2=>by
        refine ⟨h2,?_⟩
        show o<(if b<w.heap.size then gs.prot b else g'.prot b)
        split
        ·rename_i hlt
         have e:gs=sealG g ts:=by show sealG g (bif apart P call r.sh then [] else ts)=_; rw [hp]; rfl
         rw [e,← hR.prot b hlt]; exact h1
        ·exact h1
       cases c with
       | d s =>
        show VD P w' g2.prot s x u
        have hcv:VD P w' g'.prot s x u:=hcv
        cases hp:apart P call r.sh with
        | false=>exact hcv.mono (hprot hp)
        | true =>
         have:=apart_mem hp _ hc
         cases hcv with
         | int k y=>exact .int k _
         | bool y=>exact .bool _
         | str y=>exact .str _
         | opq y h=>exact .opq _ h
         | sl=>simp [Ce.prim,apartC,S.flat] at this
       | own t xm e =>
        obtain ⟨t1,ix⟩:=t
        have ht0:t1=0:=by simpa [resC] using hcr
        subst ht0
        obtain ⟨row,hrow,hown⟩:=hcv
        refine ⟨row,hrow,?_⟩
        have e1:g2.ρ (d,ix)=g'.ρ (0,ix):=if_pos rfl
        have e2:g2.len (d,ix)=g'.len (0,ix):=if_pos rfl
        have e3:g2.wid (d,ix)=g'.wid (0,ix):=if_pos rfl
        have e4:g2.ety (d,ix)=g'.ety (0,ix):=if_pos rfl
        rcases hown with ⟨h0,h1,h2⟩ | ⟨cap,arr,E,h1,h2,h3,h4,h5,h6,h7,h8,h9,h10,h11⟩
        ·exact .inl ⟨h0,by show g2.len (d,ix)=0; rw [e2]; exact h1,h2⟩
        ·have hge:¬ g'.ρ (0,ix)<w.heap.size:=by omega
         refine .inr ⟨cap,arr,E,by show u=.slice (some ⟨g2.ρ (d,ix),0,none⟩) _ _; rw [e1]; exact h1,h2,by show _∧_∧e=g2.ety (d,ix); rw [e4]; exact h3,by show base≤g2.ρ (d,ix); rw [e1]; exact Nat.le_trans hr.base_le h4,?_,by show w'.heap[g2.ρ (d,ix)]?=_; rw [e1]; exact h6,h7,by show _=g2.len (d,ix); rw [e2]; exact h8,by show _=g2.wid (d,ix); rw [e3]; exact h9,?_,fun i j s hi hs=>?_⟩
         ·show g2.owner (g2.ρ (d,ix))=some (.inr (d,ix))
          rw [e1]
          show (if g'.ρ (0,ix)<w.heap.size then _ else match g'.owner (g'.ρ (0,ix)) with | some (Sum.inr t)=>some (Sum.inr (d,t.2)) | _=>none)=_
          rw [if_neg hge,h5]
         ·show g2.prot (g2.ρ (d,ix))=if xm then 0 else g2.len (d,ix)*g2.wid (d,ix)
          rw [e1,e2,e3]
          show (if g'.ρ (0,ix)<w.heap.size then _ else g'.prot (g'.ρ (0,ix)))=_
          rw [if_neg hge,h10]
         ·obtain ⟨z,z1,z2⟩:=h11 i j s hi hs
          refine ⟨z,z1,?_⟩
          have hdt:(deepT (d,ix)&&xm)=(deepT (0,ix)&&xm):=rfl
          cases hdp:(deepT (0,ix)&&xm) with
          | true =>
           unfold CellV at z2 ⊢
           rw [if_pos hdp] at z2
           rw [if_pos (hdt.trans hdp)]
           refine TR.mono (fun π=>π) (fun _ _ _=>rfl) z2 (fun b π n o _ hl ho=>⟨ho,?_⟩) (by simp)
           obtain ⟨l0,l1,l2,l3,l4,l5⟩:=hl
           have hge:¬ b<w.heap.size:=by omega
           refine ⟨Nat.le_trans hr.base_le l0,?_,by rw [e1]; exact l2,?_,?_,?_⟩
           ·show (if b<w.heap.size then _ else match g'.owner b with | some (Sum.inr t)=>some (Sum.inr (d,t.2)) | _=>none)=_
            rw [if_neg hge,l1]
           ·exact (if_neg hge).trans l3
           ·exact (if_neg hge).trans l4
           ·exact (if_neg hge).trans l5
          | false =>
           have z2:VD P w' g'.prot s (gd (x.rows.getD i []) j) z:=by unfold CellV at z2; rwa [if_neg (by rw [hdp]; simp)] at z2
           refine .of_vd ?_ (.inl (hdt.trans hdp))
           cases hp:apart P call r.sh with
           | false=>exact z2.mono (hprot hp)
           | true =>
            have:=apart_mem hp _ hc
            simp only [Ce.prim,Bool.false_or,apartC,hdp,flatRow,hrow] at this
            have:=List.all_eq_true.1 this s (List.mem_of_getElem? hs)
            exact (TR.of_flat (lab:=fun _ _ _=>True) (π:= []) z2 this).vd_flat this
       | _=>simp [resC] at hcr
      have hb:Below base w w':=hR.below.mono hr.base_le
      have:=hK v w' g2 (by
       have:=hrel.put hd (dst:=o.dst) (t:=⟨r.sh.map (retokC d),r.p⟩) hval
       rw [hdst] at this ⊢
       exact this) hb hR.below
      exact this
   ·cases h
  ·cases h
 ·cases h
theorem noW_ok {call:FuncId→List T→Option (T × Bool)} (h:CallOk P call):CallOk P (noW call):=by
 intro f args r hc
 unfold noW at hc
 split at hc
 ·rename_i r' ok he
  cases hw:r'.sh.isW with
  | true=>rw [hw] at hc; cases hc
  | false =>
   rw [hw,cond_false] at hc
   simp only [Option.some.injEq,Prod.mk.injEq] at hc
   obtain ⟨rfl,rfl⟩:=hc
   exact h _ _ _ he
 ·cases hc
theorem noW_not {call:FuncId→List T→Option (T × Bool)} {f:FuncId} {args:List T} {r:T} {ok:Bool} (hc:noW call f args=some (r,ok)):r.sh.isW=false:=by
 unfold noW at hc
 split at hc
 ·rename_i r' ok he
  cases hw:r'.sh.isW with
  | true=>rw [hw] at hc; cases hc
  | false =>
   rw [hw,cond_false] at hc
   simp only [Option.some.injEq,Prod.mk.injEq] at hc
   obtain ⟨rfl,rfl⟩:=hc
   exact hw
 ·cases hc
theorem writ_rel (hr:Rel P w g base σ a) {t:Tok} {e:TypeId} {rows rows':List (List D)} {u:Value} (hown:OwnV P w g base t true e [.int .i64] rows u) {cap:Nat} {arr:Array Value}
  (hu:u=.slice (some ⟨g.ρ t,0,none⟩) rows.length cap) (hcap:rows.length≤cap) (hc63:cap≤9223372036854775807) (hety:e=g.ety t) (hbase:base≤g.ρ t) (howner:g.owner (g.ρ t)=some (.inr t)) (hh:w.heap[g.ρ t]?=some (.cells arr e (0,0))) (hsz:arr.size=cap) (hwid:1=g.wid t) (hp0:g.prot (g.ρ t)=0)
  (hle:rows'.length≤rows.length) (hw:Writ (g.ρ t) e arr rows' w w') (hrow:rowOf P e=some [.int .i64]) (hpt:t.1≠1000001) :
  ∃ g',Rel P w' g' base (σ.map (dropC t)) a∧VT P w' g' base (.c (.own t true e) (.l rows')) (.slice (some ⟨g.ρ t,0,none⟩) rows'.length cap)∧Below base w w':=by
 obtain ⟨hbel,hoth,arr',hh',hsz',hcells⟩:=hw
 let g':G:={ g with len:=fun u=>if u=t then rows'.length else g.len u }
 have hcell:∀ b o u,o<g.prot b→w.cell? ⟨b,o,none⟩=some u→w'.cell? ⟨b,o,none⟩=some u∧o<g'.prot b:=fun b o u h1 h2=>by
  have hne:b≠g.ρ t:=by rintro rfl; omega
  exact ⟨(cell_of_heap (hoth b (cell_size h2) hne) o).trans h2,h1⟩
 have hk:Kept P base g g' w w' (dropC t):=by
  refine kept_drop hcell (fun b t' ht' ho hb=>?_) (fun t' ht'=>⟨rfl,if_neg ht',rfl,rfl⟩) rfl (fun b hb=>hoth b (hr.low.2.1 b hb).2.2.2 (hr.oldNe hb howner))
  have hne:b≠g.ρ t:=by intro e; rw [e,howner] at ho; injection ho with ho; injection ho with ho; exact ht' ho.symm
  exact ⟨hoth b hb hne,rfl,rfl⟩
 have hrel:Rel P w' g' base (σ.map (dropC t)) a:=by
  refine hr.drop hk rfl (fun b id ho hb=>?_) (fun b hb=>?_) hbel.size (fun b hb=>⟨rfl,rfl,hoth b (hr.low.2.1 b hb).2.2.2 (hr.oldNe hb howner)⟩) rfl (fun t' ht'=>⟨rfl,if_neg (unpin hpt ht'),fun b ho hb=>⟨ho,hoth b hb (by intro e; rw [e,howner] at ho; injection ho with ho; injection ho with ho; exact unpin hpt ht' ho.symm)⟩⟩) (fun _ _ _ ho=>⟨ho,rfl,rfl⟩)
  ·have hne:b≠g.ρ t:=by intro e; rw [e,howner] at ho; injection ho with ho; cases ho
   exact ⟨hoth b hb hne,rfl,rfl⟩
  ·exact hr.fresh b (Nat.le_trans hbel.size hb)
 refine ⟨g',hrel,⟨[.int .i64],hrow,.inr ⟨cap,arr',e,rfl,by show rows'.length≤cap; omega,⟨hc63,rfl,hety⟩,hbase,howner,hh',by rw [hsz',hsz]; simp,by show rows'.length=if t=t then _ else _; rw [if_pos rfl],hwid,hp0,?_⟩⟩,?_⟩
 ·intro i j s hi hs
  have hi':i<rows'.length:=hi
  match j,hs with
  | 0,hs =>
   injection hs with hs
   subst hs
   have:=hcells i hi'
   exact ⟨.int .i64 (gd (rows'.getD i []) 0).int,by simpa using this,.of_vd (.int .i64 _) (.inr rfl)⟩
 ·exact ⟨hbel.os,hbel.tape,hbel.output,hbel.size,fun k hk'=>hoth k (Nat.lt_of_lt_of_le hk' hr.base_le) (by omega)⟩
theorem setRows_rel (hr:Rel P w g base σ a) {t:Tok} {rows':List (List D)} (hcell:∀ b o u,o<g.prot b→w.cell? ⟨b,o,none⟩=some u→w'.cell? ⟨b,o,none⟩=some u)
  (hblk:∀ b t',t'≠t→g.owner b=some (.inr t')→b<w.heap.size→w'.heap[b]?=w.heap[b]?) (hbox:∀ b id,g.owner b=some (.inl id)→b<w.heap.size→w'.heap[b]?=w.heap[b]?)
  (hlow:∀ b,g.old b→w'.heap[b]?=w.heap[b]?) (hsz:w.heap.size≤w'.heap.size)
  (hownt:∀ {xm:Bool} {e':TypeId} {row':List S} {rowsT:List (List D)} {v:Value},rowOf P e'=some row'→OwnV P w g base t xm e' row' rowsT v→rowsT.length=rows'.length∧OwnV P w' g base t xm e' row' rows' v) (hpn:∀ b t arr e,t.1=1000001→g.owner b=some (.inr t)→b=g.ρ t→w.heap[b]?=some (.cells arr e (0,0))→0<arr.size→∃ arr',w'.heap[b]?=some (.cells arr' e (0,0))∧arr'.size=arr.size):Rel P w' g base (σ.setRows t rows') a:=by
 have hvd:∀ {s:S} {x:D} {v:Value},VD P w g.prot s x v→VD P w' g.prot s x v:=fun h=>h.mono fun b o u q1 q2=>⟨hcell b o u q1 q2,q1⟩
 have hownu:∀ {t':Tok} {xm:Bool} {e':TypeId} {row':List S} {rowsT:List (List D)} {v:Value},t'≠t→OwnV P w g base t' xm e' row' rowsT v→OwnV P w' g base t' xm e' row' rowsT v:=by
  intro t' xm e' row' rowsT v ht h
  rcases h with h | ⟨cap',arr',E',k1,k2,k3,k4,k5,k6,k7,k8,k9,k10,k11⟩
  ·exact .inl h
  ·refine .inr ⟨cap',arr',E',k1,k2,k3,k4,k5,by rw [hblk _ t' ht k5 (lt_of_heap k6)]; exact k6,k7,k8,k9,k10,fun i' j s hi' hs=>?_⟩
   obtain ⟨u,q1,q2⟩:=k11 i' j s hi' hs
   exact ⟨u,q1,q2.mono rfl (fun b o u z1 z2=>⟨hcell b o u z1 z2,z1⟩) (fun _ b o h0 ho' hne hb=>⟨(hblk b t' ht ho' (lt_of_heap hb)).trans hb,h0,ho',hne,rfl,rfl,fun e=>e⟩)⟩
 have hcptr:∀ {cells:List S} {off':Nat} {x:D} {v:Value},CptrV P w g base cells off' x v→CptrV P w' g base cells off' x v:=by
  rintro cells off' x v ⟨b,o,q1,q2,q3⟩
  refine ⟨b,o,q1,q2,fun j s hs=>?_⟩
  obtain ⟨u,z1,z2⟩:=q3 j s hs
  exact ⟨u,(cell_of_heap (hlow b q2) _).trans z1,hvd z2⟩
 have hkc:∀ c x v,VC P w g base c x v→VC P w' g base (innC (· == t) c) (setD t rows' c x) v:=by
  intro c x v hv
  cases c with
  | any=>trivial
  | d s=>exact hvd hv
  | kb b=>exact hv
  | own t' xm e' =>
   obtain ⟨row',hr',hv⟩:=hv
   refine ⟨row',hr',?_⟩
   show OwnV P _ g base t' xm e' row' (bif t'==t then D.l rows' else x).rows v
   by_cases ht:t'=t
   ·subst ht
    rw [show (t'==t')=true from by simp]
    exact (hownt hr' hv).2
   ·rw [show (t'==t)=false from by simpa using ht]
    exact hownu ht hv
  | ptr id off'=>exact hv
  | eptr tk e' off' =>
   cases tk with
   | none =>
    obtain ⟨row',b,o,q1,q2,q3,q4⟩:=hv
    refine ⟨row',b,o,q1,q2,q3,fun j s hs=>?_⟩
    obtain ⟨u,z1,z2,z3⟩:=q4 j s hs
    exact ⟨u,hcell _ _ _ z2 z1,z2,hvd z3⟩
   | some t' =>
    obtain ⟨row',hr',q2,q3,u,q4⟩:=hv
    refine ⟨row',hr',?_⟩
    show v=.pointer (some ⟨g.ρ t',eIx (bif t'==t then D.l [[.l rows',gd (x.rows.getD 0 []) 1]] else x)*row'.length+off',none⟩)∧eIx (bif t'==t then D.l [[.l rows',gd (x.rows.getD 0 []) 1]] else x)<(eRows (bif t'==t then D.l [[.l rows',gd (x.rows.getD 0 []) 1]] else x)).length∧∃ u,OwnV P _ g base t' true e' row' (eRows (bif t'==t then D.l [[.l rows',gd (x.rows.getD 0 []) 1]] else x)) u
    by_cases ht:t'=t
    ·subst ht
     rw [show (t'==t')=true from by simp,cond_true]
     obtain ⟨z1,z2⟩:=hownt hr' q4
     exact ⟨q2,by show eIx x<rows'.length; rw [← z1]; exact q3,u,z2⟩
    ·rw [show (t'==t)=false from by simpa using ht,cond_false]
     exact ⟨q2,q3,u,hownu ht q4⟩
  | inn t' e' off' ei' =>
   show VC P _ g base (bif t'==t then .any else .inn t' e' off' ei') x v
   by_cases ht:t'=t
   ·rw [show (t'==t)=true from by simpa using ht]; trivial
   ·rw [show (t'==t)=false from by simpa using ht,cond_false]
    exact inn_mono hv rfl (fun o h5' h6'=>(hblk _ t' ht h5' (lt_of_heap h6')).trans h6') (fun hu=>hownu ht hu)
  | cptr cells off'=>exact hcptr hv
  | fn f caps =>
   obtain ⟨arr',q1,q2,q3⟩:=hv
   refine ⟨arr',q1,q2,fun j c hc=>?_⟩
   obtain ⟨u,hu,hcap⟩:=q3 j c hc
   refine ⟨u,hu,?_⟩
   cases c with
   | d s=>exact hvd hcap
   | ptr id off=>exact hcap
   | cptr cells off=>exact hcptr hcap
 have hvcs:∀ {cs:List Ce} {ds:List D} {arr':Array Value},VCs P w g base cs ds arr'→VCs P w' g base (cs.map (innC (· == t))) (setDs t rows' cs ds) arr':=by
  intro cs ds arr' h
  refine ⟨by rw [List.length_map]; exact h.1,fun j c hj=>?_⟩
  obtain ⟨c0,hj0,rfl⟩:=map_get hj
  obtain ⟨u,q1,q2⟩:=h.2 j c0 hj0
  exact ⟨u,q1,by rw [setDs_get _ _ _ _ j c0 hj0]; exact hkc c0 _ _ q2⟩
 have hvt:∀ {q:T} {v:Value},VT P w g base q v→VT P w' g base (setT t rows' q) v:=by
  intro q v hv
  obtain ⟨sh,pq⟩:=q
  cases sh with
  | tup xs=>trivial
  | one xx=>cases xx with
   | c xx =>
    show VC P _ g base (innC (· == t) xx) (gd (setDs t rows' [xx] pq) 0) v
    rw [setDs_get _ _ _ _ 0 xx rfl]
    exact hkc xx _ _ hv
   | agg xs =>
    obtain ⟨arr',rfl,hh⟩:=hv
    exact ⟨arr',rfl,hvcs hh⟩
 refine ⟨fun j=>?_,fun id cs1 ds1 hq=>?_,fun b hb=>hr.fresh b (Nat.le_trans hsz hb),Nat.le_trans hr.base_le hsz,hr.defers,hr.lowIn hlow hsz hpn,hr.mine⟩
 ·have e1:=look2_map (setT t rows') rfl σ.e j σ.r
  show VT P _ g base (look2 j (σ.e.map _) (σ.r.map _)) _
  rw [e1]
  exact hvt (hr.env j)
 ·have e1:=hlook_map3 (List.map (innC (· == t))) (setDs t rows') σ.h id
  change hlook id (σ.setRows t rows').h=_ at e1
  rw [hq] at e1
  cases hq2:hlook id σ.h with
  | none=>rw [hq2] at e1; cases e1
  | some q =>
   obtain ⟨cs0,ds0⟩:=q
   rw [hq2] at e1
   injection e1 with e1
   injection e1 with e2 e3
   subst e2; subst e3
   obtain ⟨j1,j2,j3,jl,arr',E',j4,j5⟩:=hr.box id _ _ hq2
   exact ⟨j1,j2,j3,by rw [setDs_length,List.length_map],arr',E',by rw [hbox _ id j2 (lt_of_heap j4)]; exact j4,hvcs j5⟩
theorem evW0_ok (hr:Rel P w g base σ a) {call:FuncId→List T→Option (T × Bool)} (hcall:CallOk P call) {o:Oper} {σ':St} {f:Operand} {xs:Array Operand} {ts0:Array TypeId} (ho:o.op=.call { callee:=.value f,args:=xs,argTypes:=ts0 }) (hd:∀ d,o.dst=some d→d<a.tmps.size)
  (h:evW0 P call σ o.dst f xs.toList=some (σ',true)):Goes P base σ' o a w:=by
 unfold evW0 at h
 split at h
 ·rename_i fid i hsh hxs
  split at h
  ·rename_i t e hsi
   split at h
   ·rename_i r ok hcl
    cases hq:(rowOf P e==some [.int .i64]&&t.1 != 1000001) with
    | false=>rw [hq] at h; cases h
    | true =>
     rw [hq,cond_true] at h
     rw [Bool.and_eq_true] at hq
     have hpt:t.1≠1000001:=by simpa using hq.2
     have hrow:rowOf P e=some [.int .i64]:=by simpa using hq.1
     have hxs':xs = #[.tmp i]:=by cases xs; simp_all
     subst hxs'
     have hfv:=opd_ok hr f
     have hfv:VC P w g base (.fn fid []) (gd (opd σ f).p 0) (a.eval f):=by
      generalize opd σ f=q at *
      obtain ⟨sh,p⟩:=q
      simp only at hsh
      subst hsh
      exact hfv
     obtain ⟨carr,hfe,hcl1,_⟩:=hfv
     have hc0:carr = #[]:=by simpa using hcl1
     subst hc0
     have hiv:=opd_ok hr (.tmp i)
     have hiv:VC P w g base (.own t true e) (gd (opd σ (.tmp i)).p 0) (a.eval (.tmp i)):=by
      generalize opd σ (.tmp i)=q at *
      obtain ⟨sh,p⟩:=q
      simp only at hsi
      subst hsi
      exact hiv
     obtain ⟨row',hrow',hown⟩:=hiv
     rw [hrow] at hrow'; injection hrow' with hrow'; subst hrow'
     generalize hx:gd (opd σ (.tmp i)).p 0=x at *
     have hisw:r.sh.isW=true∧r.sh.isK=false∧r.sh.isM=false∧r.sh.isP=false∧r.sh.isX=false∧r.sh.isN=false∧ok=true:=by
      split at h
      ·rename_i c hrs
       simp only [Option.some.injEq,Prod.mk.injEq] at h
       exact ⟨by rw [hrs]; rfl,by rw [hrs]; rfl,by rw [hrs]; rfl,by rw [hrs]; rfl,by rw [hrs]; rfl,by rw [hrs]; rfl,h.2⟩
      ·rename_i hrs
       simp only [Option.some.injEq,Prod.mk.injEq] at h
       exact ⟨by rw [hrs]; rfl,by rw [hrs]; rfl,by rw [hrs]; rfl,by rw [hrs]; rfl,by rw [hrs]; rfl,by rw [hrs]; rfl,h.2⟩
      ·cases h
     obtain ⟨hisw,hisk,hism,hisp,hisx,hisn,hok⟩:=hisw
     subst hok
     obtain ⟨hen,hcalls⟩:=(hcall _ _ _ hcl).w hisw hisk hism hisp hisx hisn
     obtain ⟨hC0,hC⟩:=hcalls e x rfl hrow
     have hgd:∀ {w' g'} {v:Value},VT P w' g' base (.c (.own t true e) (.l (gd r.p 0).rows)) v→VT P w' g' base (.c (.own t true e) (gd r.p 0)) v:=fun {w' g' v} h=>h
     intro K Q hK
     unfold Oper.wp
     have hrun:(execOp a.eval o).run P w=.ok (.enter fid #[a.eval (.tmp i)]) w:=by
      simp only [execOp,ho,resolve,hfe,Deferred.ofValue,Sem.run_bind,Sem.run_pure,Result.andThen_ok,invoke]
      simpa using hen #[a.eval (.tmp i)] w
     rw [hrun]
     rcases hown with ⟨h0,h1,A,hv⟩ | ⟨cap,arr,E,k1,k2,⟨k3,rfl,k3'⟩,k4,k5,k6,k7,k8,k9,k10,k11⟩
     ·obtain ⟨hr0,hcc⟩:=hC0 h0
      rw [hv]
      refine (hcc A w).mono ?_
      rintro ex w' ⟨rfl,hbel⟩
      have hoth:∀ k,k<w.heap.size→w'.heap[k]?=w.heap[k]?:=fun k hk=>hbel.block k hk
      split at h
      ·rename_i c hrs
       simp only [Option.some.injEq,Prod.mk.injEq] at h
       obtain ⟨rfl,_⟩:=h
       have hrel:Rel P w' g base (σ.setRows t (gd r.p 0).rows) a:=setRows_rel hr (fun b o u q1 q2=>(cell_of_heap (hoth b (cell_size q2)) o).trans q2) (fun b _ _ _ hb=>hoth b hb) (fun b _ _ hb=>hoth b hb) (fun b hb=>hoth b (hr.low.2.1 b hb).2.2.2) hbel.size (fun {xm e' row' rowsT v} hr' ho'=>by
        rw [hr0]
        rcases ho' with ⟨q0,q1,q2⟩ | ⟨cap',arr',E',q1,q2,q3,q4,q5,q6,q7,q8,q9,q10,q11⟩
        ·exact ⟨by rw [q0],.inl ⟨rfl,q1,q2⟩⟩
        ·have hz:rowsT.length=0:=by omega
         refine ⟨hz,.inr ⟨cap',arr',E',by rw [q1,hz]; rfl,Nat.zero_le _,q3,q4,q5,by rw [hoth _ (lt_of_heap q6)]; exact q6,q7,by rw [← q8,hz]; rfl,q9,q10,fun i' j s hi' _=>by simp at hi'⟩⟩) (fun b t' arr1 e1 _ _ _ hb _=>⟨arr1,(hoth b (lt_of_heap hb)).trans hb,rfl⟩)
       rw [hrs]
       exact hK _ w' g (hrel.put hd (dst:=o.dst) (t:=.none_) (v:=.tuple #[]) ⟨#[],rfl,rfl,fun j x h=>by simp at h⟩) (hbel.mono hr.base_le)
      ·rename_i hrs
       simp only [Option.some.injEq,Prod.mk.injEq] at h
       obtain ⟨rfl,_⟩:=h
       have hk:Kept P base g g w w' (dropC t):=kept_drop (fun b o u q1 q2=>⟨(cell_of_heap (hoth b (cell_size q2)) o).trans q2,q1⟩) (fun b t' _ _ hb=>⟨hoth b hb,rfl,rfl⟩) (fun _ _=>⟨rfl,rfl,rfl,rfl⟩) rfl (fun b hb=>hoth b (hr.low.2.1 b hb).2.2.2)
       have hrel:Rel P w' g base (σ.map (dropC t)) a:=hr.drop hk rfl (fun b _ _ hb=>⟨hoth b hb,rfl,rfl⟩) (fun b hb=>hr.fresh b (Nat.le_trans hbel.size hb)) hbel.size (fun b hb=>⟨rfl,rfl,hoth b (hr.low.2.1 b hb).2.2.2⟩) rfl (fun t' _=>⟨rfl,rfl,fun b ho hb=>⟨ho,hoth b hb⟩⟩) (fun _ _ _ ho=>⟨ho,rfl,rfl⟩)
       rw [hrs]
       exact hK _ w' g (hrel.put hd (dst:=o.dst) (hgd (v:=.slice A 0 0) ⟨_,hrow,.inl ⟨hr0,h1,A,rfl⟩⟩)) (hbel.mono hr.base_le)
      ·cases h
     ·have hnum:∀ i,i<x.rows.length→arr[i]?=some (.int .i64 (gd (x.rows.getD i []) 0).int):=fun i hi=>by
       obtain ⟨u,q1,q2⟩:=k11 i 0 (.int .i64) hi rfl
       have q2:=q2.vd_flat rfl
       cases q2
       simpa using q1
      have hcs:arr.size=cap:=by rw [k7]; simp
      obtain ⟨hle,hsame,hcc⟩:=hC w (g.ρ t) cap arr k6 hcs k2 k3 hnum
      rw [k1]
      refine hcc.mono ?_
      rintro ex w' ⟨rfl,hW⟩
      split at h
      ·rename_i c hrs
       simp only [Option.some.injEq,Prod.mk.injEq] at h
       obtain ⟨rfl,_⟩:=h
       have hsame:=hsame ⟨c,hrs⟩
       obtain ⟨hbel,hoth,arr',hh',hsz',hcells⟩:=hW
       have hp0:g.prot (g.ρ t)=0:=by simpa using k10
       have hrel:Rel P w' g base (σ.setRows t (gd r.p 0).rows) a:=setRows_rel hr (fun b o u q1 q2=>(cell_of_heap (hoth b (cell_size q2) (by rintro rfl; omega)) o).trans q2)
        (fun b t' ht' ho' hb=>hoth b hb (by intro e; rw [e,k5] at ho'; injection ho' with ho'; injection ho' with ho'; exact ht' ho'.symm))
        (fun b id ho' hb=>hoth b hb (by intro e; rw [e,k5] at ho'; injection ho' with ho'; cases ho'))
        (fun b hb=>hoth b (hr.low.2.1 b hb).2.2.2 (hr.oldNe hb k5)) hbel.size (fun {xm e' row' rowsT v} hr' ho'=>by
        rcases ho' with ⟨q0,q1,q2⟩ | ⟨cap',arr1,E',q1,q2,⟨q3,qE,q3'⟩,q4,q5,q6,q7,q8,q9,q10,q11⟩
        ·have hz:(gd r.p 0).rows = []:=List.eq_nil_of_length_eq_zero (by omega)
         rw [hz]
         exact ⟨by rw [q0],.inl ⟨rfl,q1,q2⟩⟩
        ·have ee:e'=E:=by rw [q3',k3']
         subst ee
         rw [hrow] at hr'; injection hr' with hr'; subst hr'
         rw [k6] at q6
         injection q6 with q6
         injection q6 with z1 z2 z3
         subst z1
         have hll:rowsT.length=(gd r.p 0).rows.length:=by omega
         refine ⟨hll,.inr ⟨cap',arr',e',by rw [q1,hll],by omega,⟨q3,rfl,q3'⟩,q4,q5,hh',by rw [hsz']; exact q7,by omega,q9,q10,fun i' j s hi' hs=>?_⟩⟩
         match j,hs with
         | 0,hs =>
          injection hs with hs
          subst hs
          exact ⟨_,by simpa using hcells i' hi',.of_vd (.int .i64 _) (.inr rfl)⟩) (fun b t' arr1 e1 hp1 ho1 hb1 hb _=>by
        have hne:b≠g.ρ t:=by intro e; rw [e,k5] at ho1; injection ho1 with ho1; injection ho1 with ho1; exact unpin hpt hp1 ho1.symm
        exact ⟨arr1,(hoth b (lt_of_heap hb) hne).trans hb,rfl⟩)
       rw [hrs]
       exact hK _ w' g (hrel.put hd (dst:=o.dst) (t:=.none_) (v:=.tuple #[]) ⟨#[],rfl,rfl,fun j x h=>by simp at h⟩) ⟨hbel.os,hbel.tape,hbel.output,hbel.size,fun k hk'=>hoth k (Nat.lt_of_lt_of_le hk' hr.base_le) (by omega)⟩
      ·rename_i hrs
       simp only [Option.some.injEq,Prod.mk.injEq] at h
       obtain ⟨rfl,_⟩:=h
       obtain ⟨g',q1,q2,q3⟩:=writ_rel hr (.inr ⟨cap,arr,E,k1,k2,⟨k3,rfl,k3'⟩,k4,k5,k6,k7,k8,k9,k10,k11⟩) k1 k2 k3 k3' k4 k5 k6 hcs (by simpa using k9) (by simpa using k10) hle hW hrow hpt
       rw [hrs]
       exact hK _ w' g' (q1.put hd (dst:=o.dst) (hgd q2)) q3
      ·cases h
   ·cases h
  ·cases h
 ·cases h
theorem evK_ok (hr:Rel P w g base σ a) {call:FuncId→List T→Option (T × Bool)} (hcall:CallOk P call) {o:Oper} {σ':St} {f:Operand} {xs:Array Operand} {ts0:Array TypeId} {tys:List TypeId} (ho:o.op=.call { callee:=.value f,args:=xs,argTypes:=ts0 }) (hd:∀ d,o.dst=some d→d<a.tmps.size)
  (h:evK P call σ o.dst f xs.toList tys=some (σ',true)):Goes P base σ' o a w:=by
 unfold evK at h
 split at h
 ·rename_i fid i ys hsh hxs
  split at h
  ·rename_i t e hsi
   split at h
   ·rename_i vs row hvs hrow
    split at h
    ·rename_i r ok hcl
     cases hq:(r.sh.isK&&row.all S.flat && !((ys.map (opd (σ.map (dropC t)))).flatMap (argToks (σ.map (dropC t)))).contains t&&(!r.sh.isKo||(ys.map (opd (σ.map (dropC t)))).all fun q=>q.sh.ownOr)&&t.1 != 1000001) with
     | false=>rw [hq] at h; cases h
     | true =>
      rw [hq,cond_true] at h
      simp only [Option.some.injEq,Prod.mk.injEq] at h
      obtain ⟨rfl,rfl⟩:=h
      rw [Bool.and_eq_true,Bool.and_eq_true,Bool.and_eq_true,Bool.and_eq_true] at hq
      obtain ⟨⟨⟨⟨hisk,hflat⟩,hts⟩,hko⟩,hpt⟩:=hq
      have hpt:t.1≠1000001:=by simpa using hpt
      let ts:List Tok:=(ys.map (opd (σ.map (dropC t)))).flatMap (argToks (σ.map (dropC t)))
      have hts:ts.contains t=false:=by
       cases h0:ts.contains t with
       | false=>rfl
       | true =>
        have hts:(!ts.contains t)=true:=hts
        rw [h0] at hts
        cases hts
      have hfv:=opd_ok hr f
      have hfv:VC P w g base (.fn fid []) (gd (opd σ f).p 0) (a.eval f):=by
       generalize opd σ f=q at *
       obtain ⟨sh,p⟩:=q
       simp only at hsh
       subst hsh
       exact hfv
      obtain ⟨carr,hfe,hcl1,_⟩:=hfv
      have hc0:carr = #[]:=by simpa using hcl1
      subst hc0
      have hiv:=opd_ok hr (.tmp i)
      have hiv:VC P w g base (.own t true e) (gd (opd σ (.tmp i)).p 0) (a.eval (.tmp i)):=by
       generalize opd σ (.tmp i)=q at *
       obtain ⟨sh,p⟩:=q
       simp only at hsi
       subst hsi
       exact hiv
      obtain ⟨row',hrow',hown⟩:=hiv
      rw [hrow] at hrow'; injection hrow' with hrow'; subst hrow'
      generalize hx:gd (opd σ (.tmp i)).p 0=x at *
      obtain ⟨hen,hcalls⟩:=(hcall _ _ _ hcl).k hisk
      -- the block of the row
      obtain ⟨B,hB,hBlk⟩:∃ B,OwnK w e row x.rows (a.eval (.tmp i)) B∧∀ b,B=some b→b=g.ρ t∧base≤b∧g.owner b=some (.inr t)∧g.prot b=0∧b<w.heap.size:=by
       rcases hown with ⟨h0,h1,A,hv⟩ | ⟨cap,arr,E,k1,k2,⟨k3,rfl,k3'⟩,k4,k5,k6,k7,k8,k9,k10,k11⟩
       ·exact ⟨none,.inl ⟨rfl,h0,A,hv⟩,fun b hb=>by cases hb⟩
       ·refine ⟨some (g.ρ t),.inr ⟨g.ρ t,cap,arr,rfl,k1,k2,k3,k6,k7,fun i j s hi hs=>?_⟩,fun b hb=>?_⟩
        ·obtain ⟨u,q1,q2⟩:=k11 i j s hi hs
         have hsf:=List.all_eq_true.1 hflat s (List.mem_of_getElem? hs)
         exact ⟨u,q1,(q2.vd_flat hsf).fv hsf⟩
        ·injection hb with hb
         subst hb
         exact ⟨rfl,k4,k5,by simpa using k10,lt_of_heap k6⟩
      -- what is left of the state,in each world that differs in this block alone
      have hdrop:∀ {w'':World} {g'':G},Changed w w'' B→(∀ b,b<w.heap.size→g''.prot b=g.prot b∧g''.owner b=g.owner b)→(∀ t',t'≠t→g''.ρ t'=g.ρ t'∧g''.len t'=g.len t'∧g''.wid t'=g.wid t'∧g''.ety t'=g.ety t')→g''.θ=g.θ→(∀ b,w''.heap.size≤b→g''.prot b=0∧g''.owner b=none)→(∀ b,g''.path b=g.path b∧g''.need b=g.need b)→g''.old=g.old→(∀ b t',t'≠t→g''.owner b=some (.inr t')→g.owner b=some (.inr t')) →
        Rel P w'' g'' base (σ.map (dropC t)) a:=by
       intro w'' g'' hC hg1 hg2 hg3 hg4 hg5 hg6 hg7
       have hne:∀ b,B=some b→g.owner b=some (.inr t):=fun b hb=>(hBlk b hb).2.2.1
       have hk:Kept P base g g'' w w'' (dropC t):=by
        refine kept_drop (fun b o u h1 h2=>?_) (fun b t' ht' ho' hb=>⟨hC.other b hb (fun e=>?_),(hg1 b hb).2,(hg1 b hb).1⟩) (fun t' ht'=>hg2 t' ht') hg3 (fun b hb=>hC.other b (hr.low.2.1 b hb).2.2.2 (fun e=>?_)) (fun b _ _ _ _=>hg5 b) hg6
        ·have hb:=cell_size h2
         refine ⟨(cell_of_heap (hC.other b hb (fun e=>?_)) o).trans h2,by rw [(hg1 b hb).1]; exact h1⟩
         have:=(hBlk b e).2.2.2.1
         omega
        ·have:=hne b e
         rw [this] at ho'
         injection ho' with ho'
         injection ho' with ho'
         exact ht' ho'.symm
        ·exact hr.oldNe hb (hne b e) rfl
       refine hr.drop hk hg3 (fun b id ho' hb=>⟨hC.other b hb (fun e=>?_),(hg1 b hb).2,(hg1 b hb).1⟩) hg4 hC.size (fun b hb=>⟨(hg1 b (hr.low.2.1 b hb).2.2.2).2,(hg1 b (hr.low.2.1 b hb).2.2.2).1,hC.other b (hr.low.2.1 b hb).2.2.2 (fun e=>hr.oldNe hb (hne b e) rfl)⟩) hg6 (fun t' ht'=>⟨(hg2 t' (unpin hpt ht')).1,(hg2 t' (unpin hpt ht')).2.1,fun b ho hb=>⟨by rw [(hg1 b hb).2]; exact ho,hC.other b hb (fun e=>by have:=hne b e; rw [this] at ho; injection ho with ho; injection ho with ho; exact unpin hpt ht' ho.symm)⟩⟩) (fun b t' ht' ho=>⟨hg7 b t' (unpin hpt ht') ho,(hg5 b).1,(hg5 b).2⟩)
       have:=hne b e
       rw [this] at ho'
       injection ho' with ho'
       cases ho'
      have hylen:ys.length+1=xs.size:=by
       have:=congrArg List.length hxs
       simpa using this.symm
      have hstay:∀ {w'':World},Changed w w'' B→Rel P w'' g base (σ.map (dropC t)) a:=fun hC=>hdrop hC (fun _ _=>⟨rfl,rfl⟩) (fun _ _=>⟨rfl,rfl,rfl,rfl⟩) rfl (fun b hb=>hr.fresh b (Nat.le_trans hC.size hb)) (fun _=>⟨rfl,rfl⟩) rfl (fun _ _ _ h=>h)
      have hargs:∀ w'',Changed w w'' B→ArgsV P (sealG g ts).prot w'' vs (ys.map a.eval).toArray:=by
       intro w'' hC
       obtain ⟨k1,k2⟩:=evArgsN_ok (ts:=ts) (hstay hC) hvs (fun t h=>List.contains_iff_mem.2 h)
       refine ⟨by simp [k1],fun j v hj=>?_⟩
       obtain ⟨y,q1,q2⟩:=k2 j v hj
       exact ⟨a.eval y,by simp [q1],q2⟩
      have hp0:∀ b,B=some b→(sealG g ts).prot b=0:=fun b hb=>by
       obtain ⟨_,_,q3,q4,_⟩:=hBlk b hb
       rw [seal_else q3 hts]
       exact q4
      have hfr:∀ b,w.heap.size≤b→(sealG g ts).prot b=0:=fun b hb=>((hr.seal ts).fresh b hb).1
      have hown1:r.sh.isKo=true→∀ (j:Nat) A n cap,(ys.map a.eval).toArray[j]?=some (.slice A n cap)→0<n→∃ b arr E,A=some ⟨b,0,none⟩∧w.heap[b]?=some (.cells arr E (0,0)):=by
       intro hk0 j A n cap hj hn
       rw [hk0] at hko
       have hall:=List.all_eq_true.1 (show (ys.map (opd (σ.map (dropC t)))).all (fun q=>q.sh.ownOr)=true from hko)
       simp only [List.getElem?_toArray,List.getElem?_map] at hj
       cases hy:ys[j]? with
       | none=>rw [hy] at hj; cases hj
       | some y =>
        rw [hy] at hj
        simp only [Option.map_some,Option.some.injEq] at hj
        have h1:=hall _ (List.mem_map.2 ⟨y,List.mem_of_getElem? hy,rfl⟩)
        have h2:=opd_ok (hstay (Changed.refl w B)) y
        rw [hj] at h2
        generalize opd (σ.map (dropC t)) y=q at *
        obtain ⟨sh,p⟩:=q
        unfold Sh.ownOr at h1
        split at h1
        ·rename_i t1 x1 e1 he1
         simp only at he1
         subst he1
         obtain ⟨row1,_,ho⟩:=h2
         rcases ho with ⟨_,_,A1,hv⟩ | ⟨cap1,arr1,E1,k1,k2,k3,k4,k5,k6,_⟩
         ·injection hv with _ hv; omega
         ·injection k1 with k1
          exact ⟨_,arr1,E1,k1,k6⟩
        ·rename_i k1 he1
         simp only at he1
         subst he1
         have h2:VD P w g.prot (.int k1) (gd p 0) (.slice A n cap):=h2
         cases h2
        ·cases h1
      have hev:xs.map a.eval = #[a.eval (.tmp i)]++(ys.map a.eval).toArray:=by
       apply Array.ext'
       simp [hxs]
      intro K Q hK
      unfold Oper.wp
      have hrun:(execOp a.eval o).run P w=.ok (.enter fid (#[a.eval (.tmp i)]++(ys.map a.eval).toArray)) w:=by
       simp only [execOp,ho,resolve,hfe,Deferred.ofValue,Sem.run_bind,Sem.run_pure,Result.andThen_ok,invoke]
       rw [← hev]
       simpa using hen (xs.map a.eval) w
      rw [hrun]
      refine (hcalls e x vs row rfl hrow hflat w _ _ B _ hB hp0 hfr hargs hown1).mono ?_
      rintro ex w' ⟨v',B',rfl,hC,hO,hB'⟩
      let b':Nat:=B'.getD 0
      let g2:G:={ prot:=fun b=>if B'=some b then 0 else g.prot b,owner:=fun b=>if B'=some b then some (.inr t) else g.owner b,θ:=g.θ,ρ:=fun u=>if u=t then b' else g.ρ u, len:=fun u=>if u=t then (gd r.p 0).rows.length else g.len u,wid:=fun u=>if u=t then row.length else g.wid u,ety:=fun u=>if u=t then e else g.ety u,path:=g.path,need:=g.need,old:=g.old }
      have hbb:∀ b,B'=some b→b<w'.heap.size:=fun b hb=>by
       rcases hO with ⟨h0,_⟩ | ⟨b1,cap,arr,q1,q2,q3,q4,q5,q6,q7⟩
       ·rw [h0] at hb; cases hb
       ·rw [q1] at hb; injection hb with hb; subst hb; exact lt_of_heap q5
      have hrel:Rel P w' g2 base (σ.map (dropC t)) a:=by
       refine hdrop hC (fun b hb=>?_) (fun t' ht'=>⟨if_neg ht',if_neg ht',if_neg ht',if_neg ht'⟩) rfl (fun b hb=>?_) (fun _=>⟨rfl,rfl⟩) rfl (fun b t' ht' h=>by
        change (if _ then _ else _)=_ at h
        split at h
        ·injection h with h; injection h with h; exact absurd h.symm ht'
        ·exact h)
       ·by_cases hbe:B'=some b
        ·rcases hB' b hbe with h1 | h1
         ·obtain ⟨_,_,q3,q4,_⟩:=hBlk b h1
          exact ⟨by show (if _ then _ else _)=_; rw [if_pos hbe,q4],by show (if _ then _ else _)=_; rw [if_pos hbe,q3]⟩
         ·omega
        ·exact ⟨if_neg hbe,if_neg hbe⟩
       ·have hbe:B'≠some b:=fun e=>by have:=hbb b e; omega
        obtain ⟨q1,q2⟩:=hr.fresh b (Nat.le_trans hC.size hb)
        exact ⟨by show (if _ then _ else _)=_; rw [if_neg hbe,q1],by show (if _ then _ else _)=_; rw [if_neg hbe,q2]⟩
      have hval:VT P w' g2 base (.c (.own t true e) (gd r.p 0)) v':=by
       refine ⟨row,hrow,?_⟩
       show OwnV P w' g2 base t true e row (gd r.p 0).rows v'
       rcases hO with ⟨h0,h1,A,hv⟩ | ⟨b1,cap,arr,q1,q2,q3,q4,q5,q6,q7⟩
       ·exact .inl ⟨h1,by show (if t=t then _ else _)=0; rw [if_pos rfl,h1]; rfl,A,hv⟩
       ·have e1:g2.ρ t=b1:=by show (if t=t then B'.getD 0 else _)=_; rw [if_pos rfl,q1]; rfl
        refine .inr ⟨cap,arr,e,by rw [e1]; exact q2,q3,⟨q4,rfl,(if_pos rfl).symm⟩,?_,?_,by rw [e1]; exact q5,q6,(if_pos rfl).symm,(if_pos rfl).symm,?_,fun i j s hi hs=>?_⟩
        ·rw [e1]
         rcases hB' b1 q1 with h1 | h1
         ·exact (hBlk b1 h1).2.1
         ·exact Nat.le_trans hr.base_le h1
        ·rw [e1]
         exact if_pos q1
        ·rw [e1]
         show (if B'=some b1 then 0 else _)=_
         rw [if_pos q1]
         rfl
        ·obtain ⟨u,z1,z2⟩:=q7 i j s hi hs
         exact ⟨u,z1,.of_vd z2.vd (.inr (List.all_eq_true.1 hflat s (List.mem_of_getElem? hs)))⟩
      exact hK _ w' g2 (hrel.put hd (dst:=o.dst) hval) ⟨hC.os,hC.tape,hC.output,hC.size,fun k hk=>hC.other k (Nat.lt_of_lt_of_le hk hr.base_le) (fun e=>by have:=(hBlk k e).2.1; omega)⟩
    ·cases h
   ·cases h
  ·cases h
 ·cases h
theorem nodup_at:∀ {cs:List Ce} {j j':Nat} {t:Tok} {x x':Bool} {e e':TypeId},nodupB (toks cs)=true→cs[j]?=some (.own t x e)→cs[j']?=some (.own t x' e')→j=j'
 | [],j,j',_,_,_,_,_,_,h,_=>by simp at h
 | c::cs,0,0,_,_,_,_,_,_,_,_=>rfl
 | c::cs,0,j'+1,t,x,x',e,e',hn,h,h'=>by
  simp only [List.getElem?_cons_zero,Option.some.injEq] at h
  subst h
  simp only [toks,nodupB,Bool.and_eq_true,Bool.not_eq_true'] at hn
  have:=List.contains_iff_mem.2 (mem_toks (List.mem_of_getElem? (show cs[j']?=some (.own t x' e') by simpa using h')))
  rw [hn.1] at this
  cases this
 | c::cs,j+1,0,t,x,x',e,e',hn,h,h'=>by
  simp only [List.getElem?_cons_zero,Option.some.injEq] at h'
  subst h'
  simp only [toks,nodupB,Bool.and_eq_true,Bool.not_eq_true'] at hn
  have:=List.contains_iff_mem.2 (mem_toks (List.mem_of_getElem? (show cs[j]?=some (.own t x e) by simpa using h)))
  rw [hn.1] at this
  cases this
 | c::cs,j+1,j'+1,t,x,x',e,e',hn,h,h'=>by
  have hn':nodupB (toks cs)=true:=by
   cases c <;> first | exact hn | (simp only [toks,nodupB,Bool.and_eq_true] at hn; exact hn.2)
  rw [nodup_at hn' (show cs[j]?=some (.own t x e) by simpa using h) (show cs[j']?=some (.own t x' e') by simpa using h')]
theorem newOf_some:∀ {cs:List Ce} {ds:List D} {t:Tok} {rows:List (List D)},newOf cs ds t=some rows→∃ (j:Nat) (x:Bool) (e:TypeId),cs[j]?=some (.own t x e)∧rows=(gd ds j).rows
 | [],ds,t,rows,h=>by cases h
 | c::cs,ds,t,rows,h=>by
  have rest:newOf cs ds.tail t=some rows→∃ (j:Nat) (x:Bool) (e:TypeId),(c::cs)[j]?=some (.own t x e)∧rows=(gd ds j).rows:=fun h=>by
   obtain ⟨j,x,e,h1,h2⟩:=newOf_some h
   exact ⟨j+1,x,e,by simpa using h1,by rw [h2,gd_tail]⟩
  cases c with
  | own t' x e =>
   simp only [newOf] at h
   cases ht:(t==t') with
   | true =>
    rw [ht,cond_true] at h
    injection h with h
    have ht:t=t':=by simpa using ht
    subst ht
    exact ⟨0,x,e,rfl,h.symm⟩
   | false=>rw [ht] at h; exact rest h
  | _=>exact rest h
theorem newOf_none:∀ {cs:List Ce} {ds:List D} {t:Tok},newOf cs ds t=none→∀ (j:Nat) (x:Bool) (e:TypeId),cs[j]?≠some (.own t x e)
 | [],ds,t,_,j,x,e=>by simp
 | c::cs,ds,t,h,j,x,e=>by
  have rest:newOf cs ds.tail t=none→(∀ x e,c≠.own t x e)→(c::cs)[j]?≠some (.own t x e):=fun h hc=>by
   cases j with
   | zero=>simp only [List.getElem?_cons_zero,ne_eq,Option.some.injEq]; exact hc x e
   | succ j=>simpa using newOf_none h j x e
  cases c with
  | own t' x' e' =>
   simp only [newOf] at h
   cases ht:(t==t') with
   | true=>rw [ht] at h; cases h
   | false =>
    rw [ht] at h
    have ht:t≠t':=by simpa using ht
    exact rest h fun x e he=>by injection he with he; exact ht he.symm
  | _=>exact rest h fun x e he=>by cases he
theorem setNs_get (f:Tok→Option (List (List D))):∀ (cs:List Ce) (ds:List D) (j:Nat) c,cs[j]?=some c→gd (setNs f cs ds) j=setN f c (gd ds j)
 | [],ds,j,c,h=>by simp at h
 | c0::cs,ds,0,c,h=>by
  simp only [List.getElem?_cons_zero,Option.some.injEq] at h
  subst h; rfl
 | c0::cs,ds,j+1,c,h=>by
  rw [setNs,gd_cons_succ,setNs_get f cs ds.tail j c (by simpa using h),gd_tail]
theorem setNs_length (f:Tok→Option (List (List D))):∀ (cs:List Ce) (ds:List D),(setNs f cs ds).length=cs.length
 | [],_=>rfl
 | c::cs,ds=>by simp [setNs,setNs_length f cs ds.tail]
theorem setAll_rel (hr:Rel P w g base σ a) {f:Tok→Option (List (List D))} (hcell:∀ b o u,o<g.prot b→w.cell? ⟨b,o,none⟩=some u→w'.cell? ⟨b,o,none⟩=some u)
  (hblk:∀ b t',f t'=none→g.owner b=some (.inr t')→b<w.heap.size→w'.heap[b]?=w.heap[b]?) (hbox:∀ b id,g.owner b=some (.inl id)→b<w.heap.size→w'.heap[b]?=w.heap[b]?)
  (hlow:∀ b,g.old b→w'.heap[b]?=w.heap[b]?) (hsz:w.heap.size≤w'.heap.size)
  (hownt:∀ {t:Tok} {rows':List (List D)} {xm:Bool} {e':TypeId} {row':List S} {rowsT:List (List D)} {v:Value},f t=some rows'→rowOf P e'=some row'→OwnV P w g base t xm e' row' rowsT v→rowsT.length=rows'.length∧OwnV P w' g base t xm e' row' rows' v) (hpn:∀ b t arr e,t.1=1000001→g.owner b=some (.inr t)→b=g.ρ t→w.heap[b]?=some (.cells arr e (0,0))→0<arr.size→∃ arr',w'.heap[b]?=some (.cells arr' e (0,0))∧arr'.size=arr.size):Rel P w' g base (σ.setAll f) a:=by
 have hvd:∀ {s:S} {x:D} {v:Value},VD P w g.prot s x v→VD P w' g.prot s x v:=fun h=>h.mono fun b o u q1 q2=>⟨hcell b o u q1 q2,q1⟩
 have hownu:∀ {t':Tok} {xm:Bool} {e':TypeId} {row':List S} {rowsT:List (List D)} {v:Value},f t'=none→OwnV P w g base t' xm e' row' rowsT v→OwnV P w' g base t' xm e' row' rowsT v:=by
  intro t' xm e' row' rowsT v ht h
  rcases h with h | ⟨cap',arr',E',k1,k2,k3,k4,k5,k6,k7,k8,k9,k10,k11⟩
  ·exact .inl h
  ·refine .inr ⟨cap',arr',E',k1,k2,k3,k4,k5,by rw [hblk _ t' ht k5 (lt_of_heap k6)]; exact k6,k7,k8,k9,k10,fun i' j s hi' hs=>?_⟩
   obtain ⟨u,q1,q2⟩:=k11 i' j s hi' hs
   exact ⟨u,q1,q2.mono rfl (fun b o u z1 z2=>⟨hcell b o u z1 z2,z1⟩) (fun _ b o h0 ho' hne hb=>⟨(hblk b t' ht ho' (lt_of_heap hb)).trans hb,h0,ho',hne,rfl,rfl,fun e=>e⟩)⟩
 have hcptr:∀ {cells:List S} {off':Nat} {x:D} {v:Value},CptrV P w g base cells off' x v→CptrV P w' g base cells off' x v:=by
  rintro cells off' x v ⟨b,o,q1,q2,q3⟩
  refine ⟨b,o,q1,q2,fun j s hs=>?_⟩
  obtain ⟨u,z1,z2⟩:=q3 j s hs
  exact ⟨u,(cell_of_heap (hlow b q2) _).trans z1,hvd z2⟩
 have hkc:∀ c x v,VC P w g base c x v→VC P w' g base (innC (fun t=>(f t).isSome) c) (setN f c x) v:=by
  intro c x v hv
  cases c with
  | any=>trivial
  | d s=>exact hvd hv
  | kb b=>exact hv
  | own t' xm e' =>
   obtain ⟨row',hr',hv⟩:=hv
   refine ⟨row',hr',?_⟩
   show OwnV P _ g base t' xm e' row' (match f t' with | some rows=>D.l rows | none=>x).rows v
   cases hf:f t' with
   | some rows'=>exact (hownt hf hr' hv).2
   | none=>exact hownu hf hv
  | ptr id off'=>exact hv
  | eptr tk e' off' =>
   cases tk with
   | none =>
    obtain ⟨row',b,o,q1,q2,q3,q4⟩:=hv
    refine ⟨row',b,o,q1,q2,q3,fun j s hs=>?_⟩
    obtain ⟨u,z1,z2,z3⟩:=q4 j s hs
    exact ⟨u,hcell _ _ _ z2 z1,z2,hvd z3⟩
   | some t' =>
    obtain ⟨row',hr',q2,q3,u,q4⟩:=hv
    refine ⟨row',hr',?_⟩
    show v=.pointer (some ⟨g.ρ t',eIx (match f t' with | some rows=>D.l [[.l rows,gd (x.rows.getD 0 []) 1]] | none=>x)*row'.length+off',none⟩)∧eIx (match f t' with | some rows=>D.l [[.l rows,gd (x.rows.getD 0 []) 1]] | none=>x)<(eRows (match f t' with | some rows=>D.l [[.l rows,gd (x.rows.getD 0 []) 1]] | none=>x)).length∧∃ u,OwnV P _ g base t' true e' row' (eRows (match f t' with | some rows=>D.l [[.l rows,gd (x.rows.getD 0 []) 1]] | none=>x)) u
    cases hf:f t' with
    | some rows' =>
     obtain ⟨z1,z2⟩:=hownt hf hr' q4
     exact ⟨q2,by show eIx x<rows'.length; rw [← z1]; exact q3,u,z2⟩
    | none=>exact ⟨q2,q3,u,hownu hf q4⟩
  | inn t' e' off' ei' =>
   show VC P _ g base (bif (f t').isSome then .any else .inn t' e' off' ei') x v
   cases hf:f t' with
   | some rows'=>trivial
   | none=>exact inn_mono hv rfl (fun o h5' h6'=>(hblk _ t' hf h5' (lt_of_heap h6')).trans h6') (fun hu=>hownu hf hu)
  | cptr cells off'=>exact hcptr hv
  | fn f caps =>
   obtain ⟨arr',q1,q2,q3⟩:=hv
   refine ⟨arr',q1,q2,fun j c hc=>?_⟩
   obtain ⟨u,hu,hcap⟩:=q3 j c hc
   refine ⟨u,hu,?_⟩
   cases c with
   | d s=>exact hvd hcap
   | ptr id off=>exact hcap
   | cptr cells off=>exact hcptr hcap
 have hvcs:∀ {cs:List Ce} {ds:List D} {arr':Array Value},VCs P w g base cs ds arr'→VCs P w' g base (cs.map (innC (fun t=>(f t).isSome))) (setNs f cs ds) arr':=by
  intro cs ds arr' h
  refine ⟨by rw [List.length_map]; exact h.1,fun j c hj=>?_⟩
  obtain ⟨c0,hj0,rfl⟩:=map_get hj
  obtain ⟨u,q1,q2⟩:=h.2 j c0 hj0
  exact ⟨u,q1,by rw [setNs_get _ _ _ j c0 hj0]; exact hkc c0 _ _ q2⟩
 have hvt:∀ {q:T} {v:Value},VT P w g base q v→VT P w' g base (setTN f q) v:=by
  intro q v hv
  obtain ⟨sh,pq⟩:=q
  cases sh with
  | tup xs=>trivial
  | one xx=>cases xx with
   | c xx =>
    show VC P _ g base (innC (fun t=>(f t).isSome) xx) (gd (setNs f [xx] pq) 0) v
    rw [setNs_get _ _ _ 0 xx rfl]
    exact hkc xx _ _ hv
   | agg xs =>
    obtain ⟨arr',rfl,hh⟩:=hv
    exact ⟨arr',rfl,hvcs hh⟩
 refine ⟨fun j=>?_,fun id cs1 ds1 hq=>?_,fun b hb=>hr.fresh b (Nat.le_trans hsz hb),Nat.le_trans hr.base_le hsz,hr.defers,hr.lowIn hlow hsz hpn,hr.mine⟩
 ·have e1:=look2_map (setTN f) rfl σ.e j σ.r
  show VT P _ g base (look2 j (σ.e.map _) (σ.r.map _)) _
  rw [e1]
  exact hvt (hr.env j)
 ·have e1:=hlook_map3 (List.map (innC (fun t=>(f t).isSome))) (setNs f) σ.h id
  change hlook id (σ.setAll f).h=_ at e1
  rw [hq] at e1
  cases hq2:hlook id σ.h with
  | none=>rw [hq2] at e1; cases e1
  | some q =>
   obtain ⟨cs0,ds0⟩:=q
   rw [hq2] at e1
   injection e1 with e1
   injection e1 with e2 e3
   subst e2; subst e3
   obtain ⟨j1,j2,j3,jl,arr',E',j4,j5⟩:=hr.box id _ _ hq2
   exact ⟨j1,j2,j3,by rw [setNs_length,List.length_map],arr',E',by rw [hbox _ id j2 (lt_of_heap j4)]; exact j4,hvcs j5⟩
def labC (base:Nat) (g:G) (cs:List Ce) (us:Array Value) (b:Nat) (π:List (Nat × Nat)) (n:Nat):Prop:=
 ∃ (j:Nat) (t:Tok) (e:TypeId),cs[j]?=some (.own t true e)∧base≤b∧g.owner b=some (.inr t)∧g.prot b=0 ∧
  ((b=g.ρ t∧π = [(0,j)]∧n=g.len t*g.wid t∧∃ m cap,us[j]?=some (.slice (some ⟨b,0,none⟩) m cap)∧0<cap)∨(b≠g.ρ t∧deepT t=true∧g.path b ≠ []∧π=(0,j)::g.path b∧n=g.need b))
theorem labC_fun {cs:List Ce} {us:Array Value} (hn:nodupB (toks cs)=true) {b:Nat} {π π':List (Nat × Nat)} {n n':Nat} (h:labC base g cs us b π n) (h':labC base g cs us b π' n'):π=π'∧n=n':=by
 obtain ⟨j,t,e,h1,_,h2,_,h3⟩:=h
 obtain ⟨j',t',e',h1',_,h2',_,h3'⟩:=h'
 rw [h2] at h2'
 injection h2' with h2'
 injection h2' with h2'
 subst h2'
 obtain rfl:=nodup_at hn h1 h1'
 rcases h3 with ⟨k1,k2,k3,_⟩ | ⟨k1,k2,_,k3,k4⟩ <;> rcases h3' with ⟨k1',k2',k3',_⟩ | ⟨k1',k2',_,k3',k4'⟩
 ·exact ⟨k2.trans k2'.symm,k3.trans k3'.symm⟩
 ·exact absurd k1 k1'
 ·exact absurd k1' k1
 ·exact ⟨k3.trans k3'.symm,k4.trans k4'.symm⟩
theorem labC_to {cs:List Ce} {us:Array Value} {j:Nat} {t:Tok} {e:TypeId} {x:D} {z:Value} (hj:cs[j]?=some (.own t true e)) (hd:markOk P (.own t true e)=true) (hz:us[j]?=some z) (h:VC P w g base (.own t true e) x z):TR P w (labC base g cs us) [(0,j)] (.sl e) x z:=by
 obtain ⟨row,hrow,h⟩:=h
 rcases h with ⟨h0,_,A,rfl⟩ | ⟨cap,arr,E,rfl,h2,⟨h3,rfl,h3'⟩,h4,h5,h6,h7,h8,h9,h10,h11⟩
 ·exact .nil _ _ _ _ (by rw [hrow]; rfl) h0
 ·have hp:g.prot (g.ρ t)=0:=by rw [h10]; rfl
  by_cases hc0:cap=0
  ·subst hc0
   have h00:x.rows = []:=List.eq_nil_of_length_eq_zero (by omega)
   rw [h00]
   exact .nil _ _ _ _ (by rw [hrow]; rfl) h00
  ·refine .sl _ E x _ cap row arr (fun i j=>arr[i*row.length+j]?.getD undef) hrow h2 h3 ⟨j,t,E,hj,h4,h5,hp,.inl ⟨rfl,rfl,by rw [h8,h9],_,cap,hz,by omega⟩⟩ h6 h7 (fun i j hi hj=>?_) (fun i j' s' hi hs'=>?_)
   ·obtain ⟨u,k1,_⟩:=h11 i j _ hi (List.getElem?_eq_getElem hj)
    rw [k1]; rfl
   ·obtain ⟨u,k1,k2⟩:=h11 i j' s' hi hs'
    simp only [k1]
    change TR P w _ _ s' _ u
    cases hdt:deepT t with
    | true =>
     refine TR.mono (fun q=>(0,j)::q) (fun q x _=>rfl) (k2.tr hdt) (fun b q n o hq hl ho=>⟨ho,?_⟩) (by simp)
     obtain ⟨l0,l1,l2,l3,l4,l5⟩:=hl
     exact ⟨j,t,E,hj,l0,l1,l5,.inr ⟨l2,hdt,by rw [l3]; exact hq,by rw [l3],l4.symm⟩⟩
    | false =>
     have hf:row.all S.flat=true:=by
      simp only [markOk,hdt,Bool.false_or,flatRow,hrow] at hd
      exact hd
     exact TR.of_flat (k2.vd hdt) (List.all_eq_true.1 hf s' (List.mem_of_getElem? hs'))
theorem evM_ok (hr:Rel P w g base σ a) {call:FuncId→List T→Option (T × Bool)} (hcall:CallOk P call) {o:Oper} {σ':St} {f:Operand} {xs:Array Operand} {ts0:Array TypeId} (ho:o.op=.call { callee:=.value f,args:=xs,argTypes:=ts0 }) (hd:∀ d,o.dst=some d→d<a.tmps.size)
  (h:evM P call σ o.dst f xs.toList=some (σ',true)):Goes P base σ' o a w:=by
 unfold evM at h
 split at h
 ·rename_i fid x k hsh hxs
  split at h
  ·rename_i cs ds0 q hcells hksh harg
   split at h
   ·rename_i r ok hcl
    cases hq:(r.sh.isM&&cs.all (markOk P)&&nodupB (toks cs)) with
    | false=>rw [hq] at h; cases h
    | true =>
     rw [hq,cond_true] at h
     simp only [Option.some.injEq,Prod.mk.injEq] at h
     obtain ⟨rfl,rfl⟩:=h
     simp only [Bool.and_eq_true] at hq
     obtain ⟨⟨hism,hdeep⟩,hnd⟩:=hq
     have hxs':xs = #[x,k]:=by cases xs; simp_all
     subst hxs'
     have hfv:=opd_ok hr f
     have hfv:VC P w g base (.fn fid []) (gd (opd σ f).p 0) (a.eval f):=by
      generalize opd σ f=q at *
      obtain ⟨sh,p⟩:=q
      simp only at hsh
      subst hsh
      exact hfv
     obtain ⟨carr,hfe,hcl1,_⟩:=hfv
     have hc0:carr = #[]:=by simpa using hcl1
     subst hc0
     have hkv:=opd_ok hr k
     have hkv:a.eval k=.int .i64 (gd (opd σ k).p 0).int:=by
      generalize opd σ k=q at *
      obtain ⟨sh,p⟩:=q
      simp only at hksh
      subst hksh
      have hkv:VD P w g.prot (.int .i64) (gd p 0) (a.eval k):=hkv
      show a.eval k=.int .i64 (gd p 0).int
      generalize gd p 0=d at *
      generalize a.eval k=vk at *
      cases hkv
      rfl
     have hxv:=opd_ok hr x
     obtain ⟨hvcs,hany⟩:=cells_ok hcells hxv
     obtain ⟨hen,hcalls⟩:=(hcall _ _ _ hcl).m hism
     -- the argument as cells
     obtain ⟨ss,hss,hqp,hform⟩:∃ ss,allS cs=some ss∧(∀ (j:Nat) c,cs[j]?=some c→gd q.p j=c.toD (gd ds0 j))∧((∃ s d,q=.c (.d s) d∧ss = [s]∧(a.eval x).cells = #[a.eval x])∨(∃ ds,q=⟨.one (.agg (ss.map .d)),ds⟩∧a.eval x=.agg (a.eval x).cells)):=by
      generalize opd σ x=X at *
      obtain ⟨sh,p⟩:=X
      cases sh with
      | tup _=>cases hcells
      | one xx=>cases xx with
       | agg ys =>
        unfold T.cells at hcells
        simp only at hcells
        cases hca:ys.contains Ce.any with
        | true=>rw [hca] at hcells; cases hcells
        | false =>
         rw [hca] at hcells
         simp only [cond_false,Option.some.injEq,Prod.mk.injEq] at hcells
         obtain ⟨rfl,rfl⟩:=hcells
         unfold margT at harg
         simp only at harg
         split at harg
         ·rename_i ss hss
          injection harg with harg
          subst harg
          refine ⟨ss,hss,fun j c hj=>?_,.inr ⟨_,rfl,?_⟩⟩
          ·rw [toDs_get ys p j c hj,gd_sub _ _ _ _ (List.getElem?_eq_some_iff.1 hj).1,Nat.zero_add]
          ·obtain ⟨arr,he,_⟩:=hxv
           rw [he]; rfl
         ·cases harg
       | c y =>
        unfold T.cells at hcells
        simp only at hcells
        cases hca:(y==Ce.any) with
        | true=>rw [hca] at hcells; cases hcells
        | false =>
         rw [hca] at hcells
         simp only [cond_false,Option.some.injEq,Prod.mk.injEq] at hcells
         obtain ⟨rfl,rfl⟩:=hcells
         have hy:markOk P y=true:=by simpa using hdeep
         have hfl:flatV (a.eval x)=true:=VC.flat hxv (by intro e; subst e; simp [markOk] at hy)
         have hce:(a.eval x).cells = #[a.eval x]:=by
          revert hfl
          cases a.eval x <;> simp [flatV,Value.cells]
         have key:∀ s,y.toS=some s→q=.c (.d s) (y.toD (gd p 0))→∃ ss,allS [y]=some ss∧(∀ (j:Nat) c,[y][j]?=some c→gd q.p j=c.toD (gd [gd p 0] j))∧((∃ s d,q=.c (.d s) d∧ss = [s]∧(a.eval x).cells = #[a.eval x])∨(∃ ds,q=⟨.one (.agg (ss.map .d)),ds⟩∧a.eval x=.agg (a.eval x).cells)):=by
          intro s hs hq
          refine ⟨[s],by simp [allS,hs],fun j c hj=>?_,.inl ⟨s,_,hq,rfl,hce⟩⟩
          cases j with
          | zero =>
           simp only [List.getElem?_cons_zero,Option.some.injEq] at hj
           subst hj
           rw [hq]; rfl
          | succ j=>simp at hj
         cases y with
         | d s =>
          simp only [margT,Ce.toS,Option.some.injEq] at harg
          exact key s rfl harg.symm
         | kb b =>
          simp only [margT,Ce.toS,Option.some.injEq] at harg
          exact key .bool rfl harg.symm
         | own t xm e =>
          simp only [margT,Ce.toS,Option.some.injEq] at harg
          exact key (.sl e) rfl harg.symm
         | _=>simp [markOk] at hy
     obtain ⟨hsl,hsg⟩:=allS_get hss
     let us:=(a.eval x).cells
     let lab:=labC base g cs us
     have hTR:TRs P w lab ss q.p us:=by
      refine ⟨by rw [show us.size=cs.length from hvcs.1,hsl],fun j s hs=>?_⟩
      obtain ⟨c,hc,hcs⟩:=hsg j s hs
      obtain ⟨z,hz,hzv⟩:=hvcs.2 j c hc
      refine ⟨z,hz,?_⟩
      rw [hqp j c hc]
      have hck:=List.all_eq_true.1 hdeep c (List.mem_of_getElem? hc)
      cases c with
      | d s0 =>
       simp only [Ce.toS,Option.some.injEq] at hcs
       subst hcs
       exact TR.of_flat (prot:=g.prot) hzv (by simpa [markOk] using hck)
      | kb b =>
       simp only [Ce.toS,Option.some.injEq] at hcs
       subst hcs
       have hzv:z=.bool b:=hzv
       subst hzv
       exact TR.bool _ (.b b)
      | own t xm e =>
       simp only [Ce.toS,Option.some.injEq] at hcs
       subst hcs
       cases xm with
       | true=>exact labC_to hc hck hz hzv
       | false=>simp [markOk] at hck
      | _=>simp [markOk] at hck
     intro K Q hK
     unfold Oper.wp
     have hrun:(execOp a.eval o).run P w=.ok (.enter fid #[a.eval x,.int .i64 (gd (opd σ k).p 0).int]) w:=by
      simp only [execOp,ho,resolve,hfe,Deferred.ofValue,Sem.run_bind,Sem.run_pure,Result.andThen_ok,invoke]
      simpa [hkv] using hen #[a.eval x,.int .i64 (gd (opd σ k).p 0).int] w
     rw [hrun]
     refine (hcalls q _ ss rfl w lab (a.eval x) us hform hTR (fun b π π' n n' h h'=>labC_fun hnd h h')).mono ?_
     rintro ex w' ⟨rfl,hC,hT'⟩
     have hlb:∀ {b:Nat} {t:Tok},g.owner b=some (.inr t)→newOf cs r.p.tail t=none→∀ π n,¬ lab b π n:=by
      rintro b t ho' hnone π n ⟨j,t1,e1,h1,_,h2,_⟩
      rw [ho'] at h2; injection h2 with h2; injection h2 with h2
      subst h2
      exact newOf_none hnone j true e1 h1
     have hnol:∀ {b:Nat},(∀ t,g.owner b≠some (.inr t))→∀ π n,¬ lab b π n:=by
      rintro b hb π n ⟨j,t1,e1,h1,_,h2,_⟩
      exact hb t1 h2
     have hrel:Rel P w' g base (σ.setAll (newOf cs r.p.tail)) a:=by
      refine setAll_rel hr (fun b o u h1 h2=>(cell_of_heap (hC.other b (cell_size h2) ?_) o).trans h2) (fun b t' hn' ho' hb=>hC.other b hb (hlb ho' hn')) (fun b id ho' hb=>hC.other b hb (hnol fun t e=>by rw [ho'] at e; cases e))
       (fun b hb=>hC.other b (hr.low.2.1 b hb).2.2.2 (hnol fun t e=>by rw [(hr.low.2.1 b hb).1] at e; cases e)) hC.size ?_ ?_
      ·rintro π n ⟨j,t1,e1,_,_,_,h4,_⟩
       omega
      ·intro t rows' xm e' row' rowsT v hf hr' hown'
       obtain ⟨j,x0,e,hj,rfl⟩:=newOf_some hf
       have hck:=List.all_eq_true.1 hdeep _ (List.mem_of_getElem? hj)
       have hx0:x0=true:=by cases x0 <;> simp [markOk] at hck ⊢
       subst hx0
       obtain ⟨z,hz,hzv⟩:=hvcs.2 j _ hj
       obtain ⟨row,hrow,hzo⟩:=hzv
       obtain ⟨s,hs⟩:∃ s,ss[j]?=some s:=⟨_,List.getElem?_eq_getElem (by rw [hsl]; exact (List.getElem?_eq_some_iff.1 hj).1)⟩
       obtain ⟨c,hc,hcs⟩:=hsg j s hs
       rw [hj] at hc; injection hc with hc; subst hc
       simp only [Ce.toS,Option.some.injEq] at hcs
       subst hcs
       obtain ⟨z',hz',hT⟩:=hT'.2 j _ hs
       rw [show us[j]?=some z from hz] at hz'
       injection hz' with hz'
       subst hz'
       -- how long the row is
       have hzl:∃ A cap,z=.slice A (g.len t) cap∧(gd ds0 j).rows.length=g.len t:=by
        rcases hzo with ⟨h0,h1,A,hv⟩ | ⟨cap,arr,E,h1,h2,h3,h4,h5,h6,h7,h8,_⟩
        ·exact ⟨A,0,by rw [h1]; exact hv,by rw [h0,h1]; rfl⟩
        ·exact ⟨_,cap,by rw [← h8]; exact h1,h8⟩
       obtain ⟨A0,cap0,hzA,hzlen⟩:=hzl
       have hnl:(gd r.p.tail j).rows.length=g.len t:=by
        generalize gd r.p.tail j=y at *
        clear hz
        revert hzA
        generalize z=zz at *
        cases hT with
        | nil _ _ _ _ hr h=>intro hzA; injection hzA with _ hzA; rw [h]; exact hzA
        | sl=>intro hzA; injection hzA
       have hown1:=hown'
       rcases hown' with ⟨h0,h1,A,hv⟩ | ⟨cap',arr',E',k1,k2,⟨k3,kE,k3'⟩,k4,k5,k6,k7,k8,k9,k10,k11⟩
       ·refine ⟨by rw [h0,hnl,h1]; rfl,.inl ⟨List.eq_nil_of_length_eq_zero (by rw [hnl,h1]),h1,A,hv⟩⟩
       ·refine ⟨by rw [hnl,k8],?_⟩
        -- the block that it lies in
        by_cases hlab:∃ π n,lab (g.ρ t) π n
        ·obtain ⟨π,n,j1,t1,e1,m1,m2,m3,m4,m5⟩:=hlab
         rw [k5] at m3; injection m3 with m3; injection m3 with m3
         subst m3
         obtain rfl:=nodup_at hnd hj m1
         rcases m5 with ⟨_,_,_,m,capz,hzz,hcz⟩ | ⟨m5,_⟩
         ·rw [show us[j]?=some z from hz] at hzz
          injection hzz with hzz
          obtain ⟨b2,row2,arr2,u2,q1,q2,q3,q4,q5,q6,q7,q8,hb2⟩:∃ (b2:Nat) (row2:List S) (arr2:Array Value) (u2:Nat→Nat→Value),rowOf P e=some row2∧(gd r.p.tail j).rows.length≤capz∧capz≤9223372036854775807∧True∧w'.heap[b2]?=some (.cells arr2 e (0,0))∧arr2.size=capz*row2.length ∧
            (∀ i j',i<(gd r.p.tail j).rows.length→j'<row2.length→arr2[i*row2.length+j']?=some (u2 i j'))∧(∀ i j' s,i<(gd r.p.tail j).rows.length→row2[j']?=some s→TR P w' lab ([(0,j)] ++ [(i,j')]) s (gd ((gd r.p.tail j).rows.getD i []) j') (u2 i j'))∧b2=g.ρ t:=by
           generalize gd r.p.tail j=y at *
           clear hz hzo
           revert hzz
           generalize z=zz at *
           cases hT with
           | nil=>intro hzz; injection hzz with _ _ hzz; omega
           | sl _ _ _ b2 cap2 row2 arr2 u2 q1 q2 q3 q4 q5 q6 q7 q8 =>
            intro hzz
            injection hzz with hz1 hz2 hz3
            injection hz1 with hz1
            injection hz1 with hz1 _ _
            subst hz3
            exact ⟨b2,row2,arr2,u2,q1,q2,q3,trivial,q5,q6,q7,q8,hz1⟩
          subst hb2
          ·
           rw [hrow] at q1; injection q1 with q1; subst q1
           have hEe:e'=e:=by
            rcases hzo with ⟨_,_,A9,hv9⟩ | ⟨cap9,arr9,E9,p1,p2,⟨p3,pE,p3'⟩,_⟩
            ·rw [hzz] at hv9; injection hv9 with _ _ hv9; omega
            ·rw [k3',← p3']
           subst hEe
           rw [hrow] at hr'; injection hr' with hr'; subst hr'
           have hcap:capz=cap':=by
            rcases hzo with ⟨_,_,A9,hv9⟩ | ⟨cap9,arr9,E9,p1,p2,⟨p3,pE,p3'⟩,p4,p5,p6,p7,p8,p9,p10,p11⟩
            ·rw [hzz] at hv9; injection hv9 with _ _ hv9; omega
            ·rw [hzz] at p1; injection p1 with _ _ p1
             rw [p6] at k6
             injection k6 with k6
             injection k6 with k6
             subst k6
             rw [p7] at k7
             rw [p1]
             exact Nat.eq_of_mul_eq_mul_right (rowOf_pos hrow) k7
           subst hcap
           refine .inr ⟨capz,arr2,e',by rw [k1,k8,hnl],by rw [hnl,← k8]; exact k2,⟨k3,rfl,k3'⟩,k4,k5,q5,q6,hnl,k9,k10,fun i j3 s3 hi hs3=>?_⟩
           have hj3:=(List.getElem?_eq_some_iff.1 hs3).1
           refine ⟨u2 i j3,q7 i j3 hi hj3,?_⟩
           have hq8:=q8 i j3 s3 hi hs3
           cases hdx:(deepT t&&xm) with
           | true =>
            unfold CellV
            rw [if_pos hdx]
            have hdt:deepT t=true:=by cases hdt:deepT t <;> simp_all
            refine TR.monoQ (fun π=>∃ r,π=(0,j)::r∧r ≠ []) (fun π x ⟨r,hr,hne⟩=>⟨r ++ [x],by rw [hr]; rfl,by simp⟩) List.tail (fun π x ⟨r,hr,hne⟩=>by rw [hr]; rfl) hq8 (fun b π n o ⟨rr,hπ,hne⟩ hl hbb=>⟨hbb,?_⟩) ⟨[(i,j3)],rfl,by simp⟩
            obtain ⟨j4,t4,e4,n1,n2,n3,n4,n5⟩:=hl
            rcases n5 with ⟨n5,n6,_⟩ | ⟨n5,n6,n7,n8,n9⟩
            ·rw [hπ] at n6; injection n6 with _ n6; exact absurd n6 hne
            ·rw [hπ] at n8
             injection n8 with n8 n10
             injection n8 with _ n8
             subst n8
             rw [hj] at n1; injection n1 with n1; injection n1 with n1 _ _
             subst n1
             rw [hπ]
             exact ⟨n2,n3,n5,n10.symm,n9.symm,n4⟩
           | false =>
            cases hxm:xm with
            | false =>
             rw [hxm] at k10
             have hp0:g.prot (g.ρ t)=0:=m4
             rw [hp0] at k10
             simp only [Bool.false_eq_true,if_false] at k10
             have hl0:0<g.len t:=by rw [← hnl]; omega
             have hw0:0<g.wid t:=by rw [← k9]; omega
             have:=Nat.mul_pos hl0 hw0
             omega
            | true =>
             rw [hxm,Bool.and_true] at hdx
             refine .of_vd (TR.vd_flat hq8 ?_) (.inl (by rw [hdx]; rfl))
             simp only [markOk,hdx,Bool.false_or,flatRow,hrow] at hck
             exact List.all_eq_true.1 hck s3 (List.mem_of_getElem? hs3)
         ·exact absurd rfl m5
        ·have hsame:=hC.other _ (lt_of_heap k6) (fun π n hl=>hlab ⟨π,n,hl⟩)
         have hl0:g.len t=0:=by
          rcases hzo with ⟨_,h1,_⟩ | ⟨cap9,arr9,E9,p1,p2,⟨p3,pE,p3'⟩,p4,p5,p6,p7,p8,p9,p10,p11⟩
          ·exact h1
          ·by_cases hcc:cap9=0
           ·omega
           ·exact absurd ⟨_,_,j,t,e,hj,p4,p5,by rw [p10]; rfl,.inl ⟨rfl,rfl,rfl,_,cap9,by rw [show us[j]?=some z from hz,p1],by omega⟩⟩ hlab
         have hz0:(gd r.p.tail j).rows = []:=List.eq_nil_of_length_eq_zero (by rw [hnl,hl0])
         refine .inr ⟨cap',arr',E',by rw [k1,k8,hnl],by rw [hnl,← k8]; exact k2,⟨k3,kE,k3'⟩,k4,k5,by rw [hsame]; exact k6,k7,hnl,k9,k10,fun i j3 s3 hi _=>by rw [hz0] at hi; simp at hi⟩
      ·intro b t arr e1 _ ho' hbt hb h0
       by_cases hlab:∃ π n,lab b π n
       ·obtain ⟨π,n,j,t1,e,hj,_,m3,_,m5⟩:=hlab
        rw [ho'] at m3; injection m3 with m3; injection m3 with m3
        subst m3
        rcases m5 with ⟨_,_,_,m,capz,hzz,hcz⟩ | ⟨m5,_⟩
        ·have hck:=List.all_eq_true.1 hdeep _ (List.mem_of_getElem? hj)
         obtain ⟨z,hz,row,hrow,hzo⟩:=hvcs.2 j _ hj
         rw [show (a.eval x).cells[j]?=some (.slice (some ⟨b,0,none⟩) m capz) from hzz] at hz
         injection hz with hz
         obtain ⟨s,hs⟩:∃ s,ss[j]?=some s:=⟨_,List.getElem?_eq_getElem (by rw [hsl]; exact (List.getElem?_eq_some_iff.1 hj).1)⟩
         obtain ⟨c,hc,hcs⟩:=hsg j s hs
         rw [hj] at hc; injection hc with hc; subst hc
         simp only [Ce.toS,Option.some.injEq] at hcs
         subst hcs
         obtain ⟨z',hz',hT⟩:=hT'.2 j _ hs
         rw [show us[j]?=some (.slice (some ⟨b,0,none⟩) m capz) from hzz] at hz'
         injection hz' with hz'
         obtain ⟨row2,arr2,q1,q5,q6⟩:∃ (row2:List S) (arr2:Array Value),rowOf P e=some row2∧w'.heap[b]?=some (.cells arr2 e (0,0))∧arr2.size=capz*row2.length:=by
          generalize gd r.p.tail j=y at *
          clear hz
          cases hT with
          | nil=>injection hz' with _ _ hz'; omega
          | sl _ _ _ b2 cap2 row2 arr2 u2 q1 q2 q3 q4 q5 q6 q7 q8 =>
           injection hz' with hz1 hz2 hz3
           injection hz1 with hz1
           injection hz1 with hz1 _ _
           subst hz3
           subst hz1
           exact ⟨row2,arr2,q1,q5,q6⟩
         rw [hrow] at q1; injection q1 with q1; subst q1
         rcases hzo with ⟨_,_,A9,hv9⟩ | ⟨cap9,arr9,E9,p1,p2,p3,p4,p5,p6,p7,_⟩
         ·rw [← hz] at hv9; injection hv9 with _ _ hv9; omega
         ·rw [← hbt,hb] at p6
          injection p6 with p6
          injection p6 with p6 p6e
          subst p6
          rw [← hz] at p1; injection p1 with _ _ p1
          exact ⟨arr2,by rw [q5,p6e,p3.2.1],by rw [q6,p7,p1]⟩
        ·exact absurd hbt m5
       ·exact ⟨arr,(hC.other _ (lt_of_heap hb) (fun π n hl=>hlab ⟨π,n,hl⟩)).trans hb,rfl⟩
     exact hK _ w' g (hrel.put hd (dst:=o.dst) (t:=.c (.d (.int .i64)) (gd r.p 0)) (v:=.int .i64 (gd r.p 0).int) (VD.int .i64 _)) ⟨hC.os,hC.tape,hC.output,hC.size,fun b hb=>hC.other b (Nat.lt_of_lt_of_le hb hr.base_le) (by rintro π n ⟨j,t1,e1,_,h2,_⟩; omega)⟩
   ·cases h
  ·cases h
 ·cases h
theorem evMi_ok (hr:Rel P w g base σ a) {call:FuncId→List T→Option (T × Bool)} (hcall:CallOk P call) {o:Oper} {σ':St} {f:Operand} {xs:Array Operand} {ts0:Array TypeId} (ho:o.op=.call { callee:=.value f,args:=xs,argTypes:=ts0 }) (hd:∀ d,o.dst=some d→d<a.tmps.size)
  (h:evMi P call σ o.dst f xs.toList=some (σ',true)):Goes P base σ' o a w:=by
 unfold evMi at h
 split at h
 ·rename_i fid x k hsh hxs
  split at h
  ·rename_i t e off ei hxsh hksh
   split at h
   ·rename_i row r ok hrow hcl
    cases hism0:(r.sh.isM&&Nat.blt off viewOff) with
    | false=>rw [hism0] at h; cases h
    | true =>
     rw [hism0,cond_true] at h
     rw [Bool.and_eq_true] at hism0
     obtain ⟨hism,hofB⟩:=hism0
     have hofV:off<viewOff:=Nat.le_of_ble_eq_true hofB
     simp only [Option.some.injEq,Prod.mk.injEq] at h
     obtain ⟨rfl,rfl⟩:=h
     have hxs':xs = #[x,k]:=by cases xs; simp_all
     subst hxs'
     have hfv:=opd_ok hr f
     have hfv:VC P w g base (.fn fid []) (gd (opd σ f).p 0) (a.eval f):=by
      generalize opd σ f=q at *
      obtain ⟨sh,p⟩:=q
      simp only at hsh
      subst hsh
      exact hfv
     obtain ⟨carr,hfe,hcl1,_⟩:=hfv
     have hc0:carr = #[]:=by simpa using hcl1
     subst hc0
     have hkv:=opd_ok hr k
     have hkv:a.eval k=.int .i64 (gd (opd σ k).p 0).int:=by
      generalize opd σ k=q at *
      obtain ⟨sh,p⟩:=q
      simp only at hksh
      subst hksh
      have hkv:VD P w g.prot (.int .i64) (gd p 0) (a.eval k):=hkv
      show a.eval k=.int .i64 (gd p 0).int
      generalize gd p 0=d at *
      generalize a.eval k=vk at *
      cases hkv
      rfl
     have hxv:=opd_ok hr x
     have hxv:VC P w g base (.inn t e off ei) (gd (opd σ x).p 0) (a.eval x):=by
      generalize opd σ x=q at *
      obtain ⟨sh,p⟩:=q
      simp only at hxsh
      subst hxsh
      exact hxv
     generalize gd (opd σ x).p 0=X at *
     obtain ⟨row',h1,⟨u,h5⟩,⟨h00,h2,h3,h4,arr0,E0,h6,h7,h8⟩ | ⟨h00,_⟩⟩:=hxv
     rotate_left
     ·exact absurd h00 (Nat.not_le_of_lt hofV)
     rw [hrow] at h1; injection h1 with h1; subst h1
     have hX0:(X.rows.getD 0 [])=X.rows.getD 0 []:=rfl
     change eIx X<(eRows X).length at h4
     have hofs:=(List.getElem?_eq_some_iff.1 h2).1
     rcases h5 with ⟨h0,_⟩ | ⟨cap,arr,E,k1,k2,⟨k3,kE,k3'⟩,k4,k5,k6,k7,k8,k9,k10,k11⟩
     ·rw [h0] at h4; simp at h4
     ·rw [k6] at h6
      injection h6 with h6
      injection h6 with h6
      subst h6
      have hp0:g.prot (g.ρ t)=0:=by rw [k10]; rfl
      obtain ⟨z0,z1,z2⟩:=k11 _ off _ h4 h2
      rw [h7] at z1
      injection z1 with z1
      subst z1
      have hT0:=z2.tr h3
      let lab:Nat→List (Nat × Nat)→Nat→Prop:=fun b π n=>base≤b∧g.owner b=some (.inr t)∧b≠g.ρ t∧g.prot b=0∧g.need b=n∧∃ q,g.path b=(eIx X,off)::q∧π=(0,0)::q
      have hofI:innD off X=gd ((eRows X).getD (eIx X) []) off:=by
       unfold innD
       rw [show Nat.ble viewOff off=false from by cases hq:Nat.ble viewOff off with | false=>rfl | true=>have:=Nat.le_of_ble_eq_true hq; omega,cond_false]
       rfl
      have hTR:TRs P w lab [.sl ei] [gd ((eRows X).getD (eIx X) []) off] #[a.eval x]:=by
       refine ⟨rfl,fun j s hs=>?_⟩
       cases j with
       | succ j=>simp at hs
       | zero =>
        simp only [List.getElem?_cons_zero,Option.some.injEq] at hs
        subst hs
        refine ⟨a.eval x,rfl,?_⟩
        refine TR.monoQ (fun π=>∃ q,π=(eIx X,off)::q) (fun π y ⟨q,hq⟩=>⟨q ++ [y],by rw [hq]; rfl⟩) (fun π=>(0,0)::π.tail) (fun π y ⟨q,hq⟩=>by rw [hq]; rfl) hT0 (fun b π n o ⟨q,hq⟩ hl hb=>⟨hb,?_⟩) ⟨[],rfl⟩
        obtain ⟨l0,l1,l2,l3,l4,l5⟩:=hl
        exact ⟨l0,l1,l2,l5,l4,q,by rw [l3,hq],by rw [hq]; rfl⟩
      obtain ⟨hen,hcalls⟩:=(hcall _ _ _ hcl).m hism
      intro K Q hK
      unfold Oper.wp
      have hrun:(execOp a.eval o).run P w=.ok (.enter fid #[a.eval x,.int .i64 (gd (opd σ k).p 0).int]) w:=by
       simp only [execOp,ho,resolve,hfe,Deferred.ofValue,Sem.run_bind,Sem.run_pure,Result.andThen_ok,invoke]
       simpa [hkv] using hen #[a.eval x,.int .i64 (gd (opd σ k).p 0).int] w
      rw [hrun]
      refine (hcalls _ _ [.sl ei] rfl w lab (a.eval x) #[a.eval x] (.inl ⟨.sl ei,_,rfl,rfl,rfl⟩) (by show TRs P w lab [.sl ei] [innD off X] _; rw [hofI]; exact hTR) (fun b π π' n n' hl hl'=>by
       obtain ⟨_,_,_,_,l5,q,l6,l7⟩:=hl
       obtain ⟨_,_,_,_,l5',q',l6',l7'⟩:=hl'
       rw [l6] at l6'; injection l6' with _ l6'
       exact ⟨by rw [l7,l7',l6'],by rw [← l5,← l5']⟩)).mono ?_
      rintro ex w' ⟨rfl,hC,hT'⟩
      obtain ⟨zz,hz1,hT1⟩:=hT'.2 0 (.sl ei) rfl
      rw [gd_tail] at hT1
      have hz1:zz=a.eval x:=by simpa using hz1.symm
      subst hz1
      have hnlab:∀ {b:Nat},¬ (g.owner b=some (.inr t)∧b≠g.ρ t)→∀ π n,¬ lab b π n:=fun hb π n hl=>hb ⟨hl.2.1,hl.2.2.1⟩
      have hroot:w'.heap[g.ρ t]?=w.heap[g.ρ t]?:=hC.other _ (lt_of_heap k6) (hnlab fun h=>h.2 rfl)
      have hvd:∀ b o z,o<g.prot b→w.cell? ⟨b,o,none⟩=some z→w'.cell? ⟨b,o,none⟩=some z:=fun b o z q1 q2 =>
       (cell_of_heap (hC.other b (cell_size q2) (fun π n hl=>by have:=hl.2.2.2.1; omega)) o).trans q2
      generalize hnr:setSub (sub ((eRows X).getD (eIx X) []) 0 row.length) off [gd r.p 1]=nr
      have hnrg:∀ j,j<row.length→gd nr j=if j=off then gd r.p 1 else gd ((eRows X).getD (eIx X) []) j:=fun j hj=>by
       rw [← hnr,gd_setSub _ _ _ _ (by rw [sub_length]; exact hj),gd_sub _ _ _ _ hj,Nat.zero_add]
       by_cases hjo:j=off
       ·subst hjo
        rw [if_pos ⟨Nat.le_refl _,by simp⟩,if_pos rfl,Nat.sub_self]; rfl
       ·rw [if_neg hjo,if_neg (by simp only [List.length_cons,List.length_nil]; omega)]
      have hlen':((eRows X).set (eIx X) nr).length=(eRows X).length:=by simp
      have hset:∀ i',i'<(eRows X).length→((eRows X).set (eIx X) nr).getD i' []=if eIx X=i' then nr else (eRows X).getD i' []:=fun i' hi'=>by
       rw [List.getD_eq_getElem?_getD,List.getElem?_set]
       by_cases e:eIx X=i'
       ·subst e; simp [hi']
       ·simp [e,List.getD_eq_getElem?_getD]
      have hcells:∀ (i' j:Nat) s,i'<(eRows X).length→row[j]?=some s→∃ u,arr[i'*row.length+j]?=some u∧CellV P base w' g t true i' j s (gd (((eRows X).set (eIx X) nr).getD i' []) j) u:=by
       intro i' j s hi' hs
       have hj:=(List.getElem?_eq_some_iff.1 hs).1
       obtain ⟨u0,q1,q2⟩:=k11 i' j s hi' hs
       refine ⟨u0,q1,?_⟩
       rw [hset i' hi']
       by_cases hij:i'=eIx X∧j=off
       ·obtain ⟨rfl,rfl⟩:=hij
        rw [if_pos rfl,hnrg _ hj,if_pos rfl]
        rw [h2] at hs; injection hs with hs; subst hs
        rw [h7] at q1; injection q1 with q1; subst q1
        refine .of_tr ?_ h3
        refine TR.monoQ (fun π=>∃ q,π=(0,0)::q) (fun π y ⟨q,hq⟩=>⟨q ++ [y],by rw [hq]; rfl⟩) (fun π=>(eIx X,j)::π.tail) (fun π y ⟨q,hq⟩=>by rw [hq]; rfl) hT1 (fun b π n o ⟨q,hq⟩ hl hb=>⟨hb,?_⟩) ⟨[],rfl⟩
        obtain ⟨l0,l1,l2,l3,l4,q',l5,l6⟩:=hl
        rw [hq] at l6; injection l6 with _ l6
        refine ⟨l0,l1,l2,by rw [l5,hq,l6]; rfl,l4,l3⟩
       ·have hsame:gd (if eIx X=i' then nr else (eRows X).getD i' []) j=gd ((eRows X).getD i' []) j:=by
         by_cases e:eIx X=i'
         ·subst e
          rw [if_pos rfl,hnrg _ hj,if_neg (fun e=>hij ⟨rfl,e⟩)]
         ·rw [if_neg e]
        rw [hsame]
        refine .of_tr ?_ h3
        refine TR.monoQ (fun π=>∃ q,π=(i',j)::q) (fun π y ⟨q,hq⟩=>⟨q ++ [y],by rw [hq]; rfl⟩) (fun π=>π) (fun π y _=>rfl) (q2.tr h3) (fun b π n o ⟨q,hq⟩ hl hb=>⟨?_,hl⟩) ⟨[],rfl⟩
        refine (hC.other b (lt_of_heap hb) (fun π' n' hl'=>?_)).trans hb
        obtain ⟨_,_,_,_,_,q',l6,_⟩:=hl'
        have:=hl.2.2.2.1
        rw [l6,hq] at this
        injection this with this _
        injection this with t1 t2
        exact hij ⟨t1.symm,t2.symm⟩
      have hrel:Rel P w' g base (σ.setRows t ((eRows X).set (eIx X) nr)) a:=by
       refine setRows_rel hr hvd (fun b t' ht' ho' hb=>hC.other b hb (hnlab fun h=>by rw [ho'] at h; have:=h.1; injection this with this; injection this with this; exact ht' this))
        (fun b id ho' hb=>hC.other b hb (hnlab fun h=>by rw [ho'] at h; cases h.1)) (fun b hb=>hC.other b (hr.low.2.1 b hb).2.2.2 (hnlab fun h=>by rw [(hr.low.2.1 b hb).1] at h; cases h.1)) hC.size ?_ ?_
       ·intro xm e' row' rowsT v hr' hw'
        rcases hw' with ⟨_,h,_⟩ | ⟨cap',arr',E',m1,m2,⟨m3,mE,m3'⟩,m4,m5,m6,m7,m8,m9,m10,m11⟩
        ·exfalso; omega
        ·have ee:e'=e:=by rw [m3',k3']
         subst ee
         rw [hrow] at hr'; injection hr' with hr'; subst hr'
         rw [k6] at m6
         injection m6 with m6
         injection m6 with q1 q2 q3
         subst q1
         have hll:rowsT.length=((eRows X).set (eIx X) nr).length:=by rw [hlen',m8,k8]
         refine ⟨hll,.inr ⟨cap',_,E',by rw [m1,hll],by rw [← hll]; exact m2,⟨m3,mE,m3'⟩,m4,m5,by rw [hroot,k6,q2],m7,by rw [← hll]; exact m8,m9,m10,fun i' j s hi' hs=>?_⟩⟩
         obtain ⟨z,z1,z2⟩:=hcells i' j s (by rw [← hlen']; exact hi') hs
         cases xm with
         | true=>exact ⟨z,z1,z2⟩
         | false =>
          rw [hp0] at m10
          simp only [Bool.false_eq_true,if_false] at m10
          have hl0:0<g.len t:=by omega
          have hw0:0<g.wid t:=by rw [← k9]; omega
          have:=Nat.mul_pos hl0 hw0
          omega
       ·intro b t1 arr1 e1 _ ho1 hb1 hb2 _
        refine ⟨arr1,(hC.other b (lt_of_heap hb2) (hnlab fun h=>?_)).trans hb2,rfl⟩
        rw [ho1] at h
        have h9:=h.1
        injection h9 with h9; injection h9 with h9
        subst h9
        exact h.2 hb1
      rw [← hnr] at hrel
      exact hK _ w' g (hrel.put hd (dst:=o.dst) (t:=.c (.d (.int .i64)) (gd r.p 0)) (v:=.int .i64 (gd r.p 0).int) (VD.int .i64 _)) ⟨hC.os,hC.tape,hC.output,hC.size,fun b hb=>hC.other b (Nat.lt_of_lt_of_le hb hr.base_le) (by rintro π n ⟨l0,_⟩; omega)⟩
   ·cases h
  ·cases h
 ·cases h
def fwd (pairs:List (Tok × Tok)) (t:Tok):Option Tok:=(pairs.find? (·.1==t)).map (·.2)
def inv (pairs:List (Tok × Tok)) (t:Tok):Tok:=((pairs.find? (·.2==t)).map (·.1)).getD t
theorem find_nodup {f:Tok × Tok→Tok}:∀ {pairs:List (Tok × Tok)} {q:Tok × Tok},nodupB (pairs.map f)=true→q∈pairs→pairs.find? (fun r=>f r==f q)=some q
 | [],q,_,h=>by simp at h
 | r::rs,q,hn,h=>by
  simp only [List.map_cons,nodupB,Bool.and_eq_true] at hn
  rw [List.find?_cons]
  rcases List.mem_cons.1 h with e | e
  ·subst e; simp
  ·have hne:(f r==f q)=false:=by
    cases hq:f r==f q with
    | false=>rfl
    | true =>
     have hq:f r=f q:=by simpa using hq
     have:(rs.map f).contains (f r)=true:=List.contains_iff_mem.2 (List.mem_map.2 ⟨q,e,hq.symm⟩)
     rw [this] at hn
     exact absurd hn.1 (by decide)
   rw [hne]
   exact find_nodup hn.2 e
theorem given_append:∀ {a b c d:List Ce},a.length=c.length→given (a++b) (c++d)=given a c++given b d
 | [],b,[],d,_=>by simp [given]
 | x::a,b,y::c,d,h=>by
  have ih:=given_append (a:=a) (b:=b) (c:=c) (d:=d) (by simpa using h)
  cases x <;> cases y <;> simp [given,ih]
theorem given_get:∀ {cs rs:List Ce} {j:Nat} {t t':Tok} {x x':Bool} {e e':TypeId},cs[j]?=some (.own t x e)→rs[j]?=some (.own t' x' e')→(t,t')∈given cs rs
 | [],rs,j,_,_,_,_,_,_,h,_=>by simp at h
 | c::cs,[],j,_,_,_,_,_,_,_,h=>by simp at h
 | c::cs,r::rs,0,t,t',x,x',e,e',h,h'=>by
  simp only [List.getElem?_cons_zero,Option.some.injEq] at h h'
  subst h; subst h'
  simp [given]
 | c::cs,r::rs,j+1,t,t',x,x',e,e',h,h'=>by
  have:=given_get (cs:=cs) (rs:=rs) (j:=j) (by simpa using h) (by simpa using h')
  cases c <;> cases r <;> simp [given,this]
def giveG (g:G) (pairs:List (Tok × Tok)):G:=
 { prot:=g.prot,owner:=fun b=>match g.owner b with | some (.inr t)=>(fwd pairs t).map .inr | _=>none, θ:=g.θ,ρ:=fun t=>g.ρ (inv pairs t),len:=fun t=>g.len (inv pairs t),wid:=fun t=>g.wid (inv pairs t),ety:=fun t=>g.ety (inv pairs t),path:=g.path,need:=g.need,old:=g.old }
theorem give_own {pairs:List (Tok × Tok)} (h1:nodupB (pairs.map (·.1))=true) (h2:nodupB (pairs.map (·.2))=true) {base':Nat} (hbase:base'≤base) {t t':Tok} (hm:(t,t')∈pairs) {xm:Bool} {e:TypeId} (hdx:(deepT t'&&xm)=(deepT t&&xm))
  {x:D} {v:Value} (hv:VC P w g base (.own t xm e) x v):VC P w (giveG g pairs) base' (.own t' xm e) x v:=by
 have ei:inv pairs t'=t:=by
  have:=find_nodup (f:=(·.2)) h2 hm
  simp only at this
  simp [inv,this]
 have ef:fwd pairs t=some t':=by
  have:=find_nodup (f:=(·.1)) h1 hm
  simp only at this
  simp [fwd,this]
 obtain ⟨row,hrow,hown⟩:=hv
 refine ⟨row,hrow,?_⟩
 rcases hown with ⟨k0,k1,k2⟩ | ⟨cap,arr,E,k1,k2,k3,k4,k5,k6,k7,k8,k9,k10,k11⟩
 ·exact .inl ⟨k0,by show g.len (inv pairs t')=0; rw [ei]; exact k1,k2⟩
 ·refine .inr ⟨cap,arr,E,by show v=.slice (some ⟨g.ρ (inv pairs t'),0,none⟩) _ _; rw [ei]; exact k1,k2,by show _∧_∧e=g.ety (inv pairs t'); rw [ei]; exact k3,by show base'≤g.ρ (inv pairs t'); rw [ei]; exact Nat.le_trans hbase k4,?_,by show w.heap[g.ρ (inv pairs t')]?=_; rw [ei]; exact k6,k7,by show _=g.len (inv pairs t'); rw [ei]; exact k8,by show _=g.wid (inv pairs t'); rw [ei]; exact k9,?_,fun i j s hi hs=>?_⟩
  ·show (match g.owner (g.ρ (inv pairs t')) with | some (Sum.inr t)=>(fwd pairs t).map Sum.inr | _=>none)=some (.inr t')
   rw [ei,k5]
   simp [ef]
  ·show g.prot (g.ρ (inv pairs t'))=if xm then 0 else g.len (inv pairs t')*g.wid (inv pairs t')
   rw [ei]; exact k10
  ·obtain ⟨z,z1,z2⟩:=k11 i j s hi hs
   refine ⟨z,z1,z2.mono hdx (fun b o u h1 h2=>⟨h2,h1⟩) (fun _ b o h0 ho hne hb=>⟨hb,Nat.le_trans hbase h0,?_,?_,rfl,rfl,fun e=>e⟩)⟩
   ·show (match g.owner b with | some (Sum.inr t)=>(fwd pairs t).map Sum.inr | _=>none)=some (.inr t')
    rw [ho]
    simp [ef]
   ·show b≠g.ρ (inv pairs t')
    rw [ei]; exact hne
theorem canon_get:∀ {cs cs1:List Ce} {k:Nat},canonCs k cs=some cs1→cs1.length=cs.length∧∀ (j:Nat) c1,cs1[j]?=some c1→∃ c,cs[j]?=some c∧canonC (k+j) c=some c1
 | [],cs1,k,h=>by
  simp only [canonCs,Option.some.injEq] at h
  subst h
  exact ⟨rfl,fun j c h=>by simp at h⟩
 | c::cs,cs1,k,h=>by
  unfold canonCs at h
  split at h
  ·rename_i d ds h1 h2
   injection h with h
   subst h
   obtain ⟨k1,k2⟩:=canon_get h2
   refine ⟨by simp [k1],fun j c1 hj=>?_⟩
   cases j with
   | zero =>
    simp only [List.getElem?_cons_zero,Option.some.injEq] at hj
    subst hj
    exact ⟨c,rfl,h1⟩
   | succ j =>
    obtain ⟨c0,q1,q2⟩:=k2 j c1 (by simpa using hj)
    exact ⟨c0,by simpa using q1,by rw [show k+(j+1)=k+1+j from by omega]; exact q2⟩
  ·cases h
theorem canon_given:∀ {cs cs1:List Ce} {k:Nat},canonCs k cs=some cs1→(given cs cs1).map (·.1)=xtoks cs∧(given cs cs1).map (·.2)=xtoks cs1
 | [],cs1,k,h=>by
  simp only [canonCs,Option.some.injEq] at h
  subst h
  exact ⟨rfl,rfl⟩
 | c::cs,cs1,k,h=>by
  unfold canonCs at h
  split at h
  ·rename_i d ds h1 h2
   injection h with h
   subst h
   obtain ⟨k1,k2⟩:=canon_given h2
   cases c with
   | own t x e =>
    cases x with
    | true =>
     simp only [canonC,Option.some.injEq] at h1
     subst h1
     exact ⟨by simp [given,xtoks,k1],by simp [given,xtoks,k2]⟩
    | false =>
     simp only [canonC,Option.some.injEq] at h1
     subst h1
     exact ⟨by simp [given,xtoks,k1],by simp [given,xtoks,k2]⟩
   | d s =>
    simp only [canonC,Option.some.injEq] at h1
    subst h1
    exact ⟨by simp [given,xtoks,k1],by simp [given,xtoks,k2]⟩
   | kb b =>
    simp only [canonC,Option.some.injEq] at h1
    subst h1
    exact ⟨by simp [given,xtoks,k1],by simp [given,xtoks,k2]⟩
   | _=>simp [canonC] at h1
  ·cases h
theorem backC_own {c c2 c':Ce} (h:backC c c2=some c'):(∃ t t' e,c=.own t true e∧c2=.own t' true e∧c'=.own t true e∧t'.1=0∧deepT t=deepT t')∨(∃ s,c2=.d s∧c'=.d s):=by
 unfold backC at h
 split at h
 ·rename_i t e t' e'
  cases hq:(t'.1==0&&e==e'&&deepT t==deepT t') with
  | false=>rw [hq] at h; cases h
  | true =>
   rw [hq,cond_true] at h
   injection h with h
   subst h
   simp only [Bool.and_eq_true,beq_iff_eq] at hq
   obtain ⟨⟨q1,rfl⟩,q3⟩:=hq
   exact .inl ⟨t,t',e,rfl,rfl,rfl,q1,q3⟩
 ·rename_i s
  injection h with h
  exact .inr ⟨s,rfl,h.symm⟩
 ·cases h
theorem back_get:∀ {cs cs2 cs':List Ce},backCs cs cs2=some cs'→cs'.length=cs.length∧cs2.length=cs.length∧∀ (j:Nat) c',cs'[j]?=some c'→∃ c c2,cs[j]?=some c∧cs2[j]?=some c2∧backC c c2=some c'
 | [],[],cs',h=>by
  simp only [backCs,Option.some.injEq] at h
  subst h
  exact ⟨rfl,rfl,fun j c h=>by simp at h⟩
 | [],_::_,cs',h=>by simp [backCs] at h
 | _::_,[],cs',h=>by simp [backCs] at h
 | c::cs,c2::cs2,cs',h=>by
  unfold backCs at h
  split at h
  ·rename_i d ds h1 h2
   injection h with h
   subst h
   obtain ⟨k1,k2,k3⟩:=back_get h2
   refine ⟨by simp [k1],by simp [k2],fun j c' hj=>?_⟩
   cases j with
   | zero =>
    simp only [List.getElem?_cons_zero,Option.some.injEq] at hj
    subst hj
    exact ⟨c,c2,rfl,rfl,h1⟩
   | succ j =>
    obtain ⟨c0,c3,q1,q2,q3⟩:=k3 j c' (by simpa using hj)
    exact ⟨c0,c3,by simpa using q1,by simpa using q2,q3⟩
  ·cases h
theorem back_given:∀ {cs cs2 cs':List Ce},backCs cs cs2=some cs'→(given cs2 cs').map (·.1)=xtoks cs2∧(given cs2 cs').map (·.2)=xtoks cs'
 | [],[],cs',h=>by
  simp only [backCs,Option.some.injEq] at h
  subst h
  exact ⟨rfl,rfl⟩
 | [],_::_,cs',h=>by simp [backCs] at h
 | _::_,[],cs',h=>by simp [backCs] at h
 | c::cs,c2::cs2,cs',h=>by
  unfold backCs at h
  split at h
  ·rename_i d ds h1 h2
   injection h with h
   subst h
   obtain ⟨k1,k2⟩:=back_given h2
   rcases backC_own h1 with ⟨t,t',e,rfl,rfl,rfl,_⟩ | ⟨s,rfl,rfl⟩
   ·exact ⟨by simp [given,xtoks,k1],by simp [given,xtoks,k2]⟩
   ·exact ⟨by simp [given,xtoks,k1],by simp [given,xtoks,k2]⟩
  ·cases h
theorem mem_xtoks:∀ {cs:List Ce} {t:Tok} {e:TypeId},Ce.own t true e∈cs→t∈xtoks cs
 | [],_,_,h=>by simp at h
 | c::cs,t,e,h=>by
  rcases List.mem_cons.1 h with h | h
  ·subst h; simp [xtoks]
  ·have:=mem_xtoks h
   cases c with
   | own t' x e'=>cases x <;> simp [xtoks,this]
   | _=>simp [xtoks,this]
theorem of_xtoks:∀ {cs:List Ce} {t:Tok},t∈xtoks cs→∃ (j:Nat) (e:TypeId),cs[j]?=some (.own t true e)
 | [],_,h=>by simp [xtoks] at h
 | c::cs,t,h=>by
  have rest:t∈xtoks cs→∃ (j:Nat) (e:TypeId),(c::cs)[j]?=some (.own t true e):=fun h=>by
   obtain ⟨j,e,h⟩:=of_xtoks h
   exact ⟨j+1,e,by simpa using h⟩
  cases c with
  | own t' x e' =>
   cases x with
   | true =>
    simp only [xtoks,List.mem_cons] at h
    rcases h with rfl | h
    ·exact ⟨0,e',rfl⟩
    ·exact rest h
   | false=>exact rest h
  | _=>exact rest h
def dropsC:List Tok→Ce→Ce
 | [],c=>c
 | t::ts,c=>dropsC ts (dropC t c)
theorem dropsC_id:∀ {ts:List Tok} {c:Ce},(∀ t,dropC t c=c)→dropsC ts c=c
 | [],c,_=>rfl
 | t::ts,c,h=>by rw [dropsC,h t]; exact dropsC_id h
theorem dropsC_own:∀ {ts:List Tok} {t:Tok} {x:Bool} {e:TypeId},dropsC ts (.own t x e)=(bif ts.contains t then (bif x then .any else .d (.sl e)) else .own t x e)
 | [],t,x,e=>rfl
 | u::ts,t,x,e=>by
  show dropsC ts (bif t==u then (bif x then .any else .d (.sl e)) else .own t x e)=_
  rw [List.contains_cons]
  cases hq:(t==u) with
  | true =>
   simp only [Bool.true_or,cond_true]
   cases x <;> exact dropsC_id (fun _=>rfl)
  | false=>rw [Bool.false_or,cond_false]; exact dropsC_own
theorem dropsC_eptr:∀ {ts:List Tok} {t:Tok} {e:TypeId} {off:Nat},dropsC ts (.eptr (some t) e off)=(bif ts.contains t then .any else .eptr (some t) e off)
 | [],t,e,off=>rfl
 | u::ts,t,e,off=>by
  show dropsC ts (bif t==u then .any else .eptr (some t) e off)=_
  rw [List.contains_cons]
  cases hq:(t==u) with
  | true=>simp only [Bool.true_or,cond_true]; exact dropsC_id (fun _=>rfl)
  | false=>rw [Bool.false_or,cond_false]; exact dropsC_eptr
theorem dropsC_inn:∀ {ts:List Tok} {t:Tok} {e:TypeId} {off:Nat} {ei:TypeId},dropsC ts (.inn t e off ei)=(bif ts.contains t then .any else .inn t e off ei)
 | [],t,e,off,ei=>rfl
 | u::ts,t,e,off,ei=>by
  show dropsC ts (bif t==u then .any else .inn t e off ei)=_
  rw [List.contains_cons]
  cases hq:(t==u) with
  | true=>simp only [Bool.true_or,cond_true]; exact dropsC_id (fun _=>rfl)
  | false=>rw [Bool.false_or,cond_false]; exact dropsC_inn
theorem Sh1.map_comp (f f':Ce→Ce) (s:Sh1):(s.map f).map f'=s.map (fun c=>f' (f c)):=by
 cases s <;> simp [Sh1.map]
theorem Sh.map_comp (f f':Ce→Ce) (s:Sh):(s.map f).map f'=s.map (fun c=>f' (f c)):=by
 cases s with
 | one x=>simp [Sh.map,Sh1.map_comp]
 | tup xs =>
  simp only [Sh.map,List.map_map]
  congr 1
  exact List.map_congr_left fun x _=>Sh1.map_comp f f' x
theorem St.map_comp (f f':Ce→Ce) (σ:St):(σ.map f).map f'=σ.map (fun c=>f' (f c)):=by
 simp only [St.map,List.map_map]
 congr 1
 ·exact List.map_congr_left fun p _=>by simp only [Function.comp,Sh.map_comp]
 ·exact List.map_congr_left fun p _=>by simp only [Function.comp,Sh.map_comp]
 ·exact List.map_congr_left fun p _=>by simp [Function.comp]
theorem dropTs_map:∀ (ts:List Tok) (σ:St),dropTs ts σ=σ.map (dropsC ts)
 | [],σ=>by
  show σ=σ.map (fun c=>c)
  obtain ⟨r,e,h⟩:=σ
  simp [St.map,Sh.map_id']
 | t::ts,σ=>by
  rw [dropTs,dropTs_map ts,St.map_comp]; rfl
theorem argP_ok (hr:Rel P w g base σ a) {ts:List Tok} {v v':T} {u:Value} (h:arg P σ v=some v') (hv:VT P w g base v u) (hp:noPtr v=true) (ht:∀ t∈argToks σ v,ts.contains t=true) {gc:G} {b':Nat} (hg:gc.prot=(sealG g ts).prot) (ho:∀ b,g.old b→gc.old b):VT P w gc b' v' u:=by
 obtain ⟨sh,p⟩:=v
 cases sh with
 | tup xs=>cases h
 | one x=>cases x with
  | agg xs =>
   unfold arg at h
   simp only at h
   split at h
   ·rename_i ss hss
    injection h with h; subst h
    obtain ⟨arr,rfl,hvc⟩:=hv
    obtain ⟨k1,k2⟩:=row_okA (ts:=ts) hvc hss ht
    refine ⟨arr,rfl,by simp [k1],fun j c hj=>?_⟩
    obtain ⟨s,hs,rfl⟩:=map_get hj
    obtain ⟨z,q1,q2⟩:=k2 j s hs
    exact ⟨z,q1,by show VD P w gc.prot _ _ _; rw [hg]; exact q2⟩
   ·cases h
  | c x =>
   have fin:∀ {s:S},x.aS=some s→(∀ t∈toksA [x],ts.contains t=true)→VC P w g base x (gd p 0) u→VT P w gc b' (.c (.d s) (x.aD (gd p 0))) u:=fun hs ht hv=>by
    show VD P w gc.prot _ _ _
    rw [hg]
    exact aD_ok hv hs ht
   cases x with
   | fn f caps =>
    unfold arg at h
    simp only at h
    split at h
    ·rename_i cs ds hc
     injection h with h; subst h
     obtain ⟨arr,rfl,h2,h3⟩:=hv
     have key:∀ {caps caps':List Cap} {ds ds':List D},capArgs σ caps ds=some (caps',ds')→caps.all (fun | .ptr _ _=>false | _=>true)=true→caps'.length=caps.length ∧
       ∀ (j:Nat) c',caps'[j]?=some c'→∃ c,caps[j]?=some c∧∀ u,CapV P w g base c (gd ds j) u→CapV P w gc b' c' (gd ds' j) u:=by
      intro caps
      induction caps with
      | nil =>
       intro caps' ds ds' h _
       simp only [capArgs,Option.some.injEq,Prod.mk.injEq] at h
       obtain ⟨rfl,rfl⟩:=h
       exact ⟨rfl,fun j c h=>by simp at h⟩
      | cons c cs ih =>
       intro caps' ds ds' h hn
       rw [List.all_cons,Bool.and_eq_true] at hn
       unfold capArgs at h
       split at h
       ·rename_i d x ds1 xs h1 h2
        simp only [Option.some.injEq,Prod.mk.injEq] at h
        obtain ⟨rfl,rfl⟩:=h
        obtain ⟨k1,k2⟩:=ih h2 hn.2
        refine ⟨by simp [k1],fun j c' hj=>?_⟩
        cases j with
        | zero =>
         simp only [List.getElem?_cons_zero,Option.some.injEq] at hj
         subst hj
         refine ⟨c,rfl,fun u hu=>?_⟩
         cases c with
         | d s =>
          simp only [capArg,Option.some.injEq,Prod.mk.injEq] at h1
          obtain ⟨rfl,rfl⟩:=h1
          show VD P w gc.prot _ _ _
          rw [hg]
          exact seal_vd hu
         | cptr cells off =>
          simp only [capArg,Option.some.injEq,Prod.mk.injEq] at h1
          obtain ⟨rfl,rfl⟩:=h1
          obtain ⟨b,o,q1,q2,q3⟩:=hu
          refine ⟨b,o,q1,ho b q2,fun j s hs=>?_⟩
          obtain ⟨z,z1,z2⟩:=q3 j s hs
          exact ⟨z,z1,by rw [hg]; exact seal_vd z2⟩
         | ptr id off=>simp at hn
        | succ j =>
         obtain ⟨c0,q1,q2⟩:=k2 j c' (by simpa using hj)
         refine ⟨c0,by simpa using q1,fun u hu=>?_⟩
         rw [gd_cons_succ]
         exact q2 u (by rw [gd_tail]; exact hu)
       ·cases h
     obtain ⟨k1,k2⟩:=key hc hp
     refine ⟨arr,rfl,by rw [h2,k1],fun j c hj=>?_⟩
     obtain ⟨c0,q1,q2⟩:=k2 j c hj
     obtain ⟨z,z1,z2⟩:=h3 j c0 q1
     exact ⟨z,z1,q2 z z2⟩
    ·cases h
   | cptr cells off =>
    simp only [arg,Option.some.injEq] at h
    subst h
    obtain ⟨b,o,q1,q2,q3⟩:=hv
    refine ⟨b,o,q1,ho b q2,fun j s hs=>?_⟩
    obtain ⟨z,z1,z2⟩:=q3 j s hs
    exact ⟨z,z1,by rw [hg]; exact seal_vd z2⟩
   | ptr id off=>cases hp
   | eptr tk e off=>cases hp
   | any=>cases h
   | d s =>
    simp only [arg,Ce.aS,Ce.toS,Option.some.injEq] at h
    subst h
    exact fin rfl ht hv
   | kb b =>
    simp only [arg,Ce.aS,Ce.toS,Option.some.injEq] at h
    subst h
    exact fin rfl ht hv
   | own t xm e =>
    simp only [arg,Ce.aS,Ce.toS,Option.some.injEq] at h
    subst h
    exact fin rfl ht hv
   | inn t e off ei =>
    simp only [arg,Ce.aS,Option.some.injEq] at h
    subst h
    exact fin rfl ht hv
theorem argsP_ok (hr:Rel P w g base σ a) {ts:List Tok} {gc:G} {b':Nat} (hg:gc.prot=(sealG g ts).prot) (ho:∀ b,g.old b→gc.old b):∀ {xs:List Operand} {vs:List T},evArgs P σ (xs.map (opd σ))=some vs→xs.all (fun y=>noPtr (opd σ y))=true→(∀ t∈(xs.map (opd σ)).flatMap (argToks σ),ts.contains t=true) →
  vs.length=xs.length∧∀ (j:Nat) v,vs[j]?=some v→∃ x,xs[j]?=some x∧VT P w gc b' v (a.eval x)
 | [],vs,h,_,_=>by
  simp only [List.map_nil,evArgs,Option.some.injEq] at h
  subst h
  exact ⟨rfl,fun j v h=>by simp at h⟩
 | x::xs,vs,h,hn,ht=>by
  simp only [List.map_cons,evArgs] at h
  rw [List.all_cons,Bool.and_eq_true] at hn
  split at h
  ·rename_i d ds h1 h2
   injection h with h; subst h
   obtain ⟨k1,k2⟩:=argsP_ok hr hg ho h2 hn.2 (fun t h=>ht t (by simp only [List.map_cons,List.flatMap_cons,List.mem_append]; exact .inr h))
   refine ⟨by simp [k1],fun j v hj=>?_⟩
   cases j with
   | zero =>
    simp only [List.getElem?_cons_zero,Option.some.injEq] at hj
    subst hj
    exact ⟨x,rfl,argP_ok hr h1 (opd_ok hr x) hn.1 (fun t h=>ht t (by simp only [List.map_cons,List.flatMap_cons,List.mem_append]; exact .inl h)) hg ho⟩
   | succ j =>
    obtain ⟨y,q1,q2⟩:=k2 j v (by simpa using hj)
    exact ⟨y,by simpa using q1,q2⟩
  ·cases h
theorem fwd_none {pairs:List (Tok × Tok)} {t:Tok} (h:t ∉ pairs.map (·.1)):fwd pairs t=none:=by
 unfold fwd
 rw [List.find?_eq_none.2]
 ·rfl
 ·intro q hq he
  exact h (List.mem_map.2 ⟨q,hq,by simpa using he⟩)
theorem fwd_mem {pairs:List (Tok × Tok)} (h1:nodupB (pairs.map (·.1))=true) {t t':Tok} (hm:(t,t')∈pairs):fwd pairs t=some t':=by
 have:=find_nodup (f:=(·.1)) h1 hm
 simp only at this
 simp [fwd,this]
theorem inv_mem {pairs:List (Tok × Tok)} (h2:nodupB (pairs.map (·.2))=true) {t t':Tok} (hm:(t,t')∈pairs):inv pairs t'=t:=by
 have:=find_nodup (f:=(·.2)) h2 hm
 simp only at this
 simp [inv,this]
noncomputable def lentG (n:Nat) (g:G) (base bx:Nat) (pairs:List (Tok × Tok)):G:=
 let ow:Nat→Option (Nat ⊕ Tok):=fun k=>if k=bx then some (.inl 1000000) else match g.owner k with
  | some (.inr t)=>if g.prot k=0∧base≤k then (fwd pairs t).map Sum.inr else none
  | _=>none
 { prot:=g.prot,owner:=ow,θ:=fun _=>bx,ρ:=fun t=>g.ρ (inv pairs t),len:=fun t=>g.len (inv pairs t),wid:=fun t=>g.wid (inv pairs t),ety:=fun t=>g.ety (inv pairs t),path:=g.path,need:=g.need, old:=fun k=>k<n∧ow k=none }
theorem lent_own {n bx:Nat} {pairs:List (Tok × Tok)} (h1:nodupB (pairs.map (·.1))=true) (h2:nodupB (pairs.map (·.2))=true) (hbx:∀ t,g.owner bx≠some (.inr t)) {t t':Tok} (hm:(t,t')∈pairs) {e:TypeId} (hdx:deepT t'=deepT t)
  {x:D} {v:Value} (hv:VC P w g base (.own t true e) x v):VC P w (lentG n g base bx pairs) 0 (.own t' true e) x v:=by
 have ei:=inv_mem h2 hm
 have ef:=fwd_mem h1 hm
 obtain ⟨row,hrow,hown⟩:=hv
 refine ⟨row,hrow,?_⟩
 rcases hown with ⟨k0,k1,k2⟩ | ⟨cap,arr,E,k1,k2,k3,k4,k5,k6,k7,k8,k9,k10,k11⟩
 ·exact .inl ⟨k0,by show g.len (inv pairs t')=0; rw [ei]; exact k1,k2⟩
 ·have hp0:g.prot (g.ρ t)=0:=by rw [k10]; rfl
  have how:∀ b,g.owner b=some (.inr t)→g.prot b=0→base≤b→(lentG n g base bx pairs).owner b=some (.inr t'):=fun b q1 q2 q3=>by
   show (if b=bx then _ else match g.owner b with | some (.inr t)=>if g.prot b=0∧base≤b then (fwd pairs t).map Sum.inr else none | _=>none)=_
   rw [if_neg (by intro e; rw [e] at q1; exact hbx t q1),q1]
   simp [q2,q3,ef]
  refine .inr ⟨cap,arr,E,by show v=.slice (some ⟨g.ρ (inv pairs t'),0,none⟩) _ _; rw [ei]; exact k1,k2,by show _∧_∧e=g.ety (inv pairs t'); rw [ei]; exact k3,Nat.zero_le _,?_,by show w.heap[g.ρ (inv pairs t')]?=_; rw [ei]; exact k6,k7,by show _=g.len (inv pairs t'); rw [ei]; exact k8,by show _=g.wid (inv pairs t'); rw [ei]; exact k9,?_,fun i j s hi hs=>?_⟩
  ·show (lentG n g base bx pairs).owner (g.ρ (inv pairs t'))=_
   rw [ei]
   exact how _ k5 hp0 k4
  ·show g.prot (g.ρ (inv pairs t'))=if true then 0 else _
   rw [ei]; exact k10
  ·obtain ⟨z,z1,z2⟩:=k11 i j s hi hs
   refine ⟨z,z1,?_⟩
   unfold CellV at z2 ⊢
   rw [hdx]
   split at z2
   ·rename_i hd
    rw [if_pos hd]
    refine TR.mono (fun π=>π) (fun _ _ _=>rfl) z2 (fun b π n' o _ hl ho=>⟨ho,?_⟩) (by simp)
    obtain ⟨l0,l1,l2,l3,l4,l5⟩:=hl
    exact ⟨Nat.zero_le _,how b l1 l5 l0,by show b≠g.ρ (inv pairs t'); rw [ei]; exact l2,l3,l4,l5⟩
   ·rename_i hd
    rw [if_neg hd]
    exact z2
noncomputable def backG (g gs g':G) (old:Nat→Prop) (bx id d:Nat) (pairs:List (Tok × Tok)):G:=by
 classical exact
 { prot:=g'.prot,owner:=fun k=>if k=bx then some (.inl id) else if old k then gs.owner k else match g'.owner k with | some (.inr t)=>some (.inr ((fwd pairs t).getD (d,t.2))) | _=>none,θ:=gs.θ,ρ:=fun t=>if t∈pairs.map (·.2) then g'.ρ (inv pairs t) else if t.1=d then g'.ρ (0,t.2) else gs.ρ t,len:=fun t=>if t∈pairs.map (·.2) then g'.len (inv pairs t) else if t.1=d then g'.len (0,t.2) else gs.len t,wid:=fun t=>if t∈pairs.map (·.2) then g'.wid (inv pairs t) else if t.1=d then g'.wid (0,t.2) else gs.wid t,ety:=fun t=>if t∈pairs.map (·.2) then g'.ety (inv pairs t) else if t.1=d then g'.ety (0,t.2) else gs.ety t,path:=fun k=>if old k then gs.path k else g'.path k,need:=fun k=>if old k then gs.need k else g'.need k,old:=gs.old }
theorem back_own {gl gs:G} {old:Nat→Prop} {bx id d:Nat} {pairs:List (Tok × Tok)} (hold:∀ k,old k→g'.owner k=none) (hbx:∀ t,g'.owner bx≠some (.inr t)) (hb:∀ k,¬ old k→base≤k) {u t:Tok}
  (hρ:(backG gl gs g' old bx id d pairs).ρ t=g'.ρ u∧(backG gl gs g' old bx id d pairs).len t=g'.len u∧(backG gl gs g' old bx id d pairs).wid t=g'.wid u∧(backG gl gs g' old bx id d pairs).ety t=g'.ety u) (hf:(fwd pairs u).getD (d,u.2)=t)
  {xm:Bool} {e:TypeId} (hdx:deepT t=deepT u) {x:D} {v:Value} (hv:VC P w g' 0 (.own u xm e) x v):VC P w (backG gl gs g' old bx id d pairs) base (.own t xm e) x v:=by
 obtain ⟨row,hrow,hown⟩:=hv
 obtain ⟨e1,e2,e3,e4⟩:=hρ
 have how:∀ k,g'.owner k=some (.inr u)→¬ old k∧(backG gl gs g' old bx id d pairs).owner k=some (.inr t):=fun k hk=>by
  have hno:¬ old k:=fun h=>by rw [hold k h] at hk; cases hk
  refine ⟨hno,?_⟩
  have hne:k≠bx:=by intro e; rw [e] at hk; exact hbx u hk
  simp only [backG,if_neg hne,if_neg hno,hk,hf]
 refine ⟨row,hrow,?_⟩
 rcases hown with ⟨k0,k1,k2⟩ | ⟨cap,arr,E,k1,k2,k3,k4,k5,k6,k7,k8,k9,k10,k11⟩
 ·exact .inl ⟨k0,by rw [e2]; exact k1,k2⟩
 ·refine .inr ⟨cap,arr,E,by rw [e1]; exact k1,k2,by rw [e4]; exact k3,by rw [e1]; exact hb _ (how _ k5).1,by rw [e1]; exact (how _ k5).2,by rw [e1]; exact k6,k7,by rw [e2]; exact k8,by rw [e3]; exact k9,by rw [e1,e2,e3]; exact k10,fun i j s hi hs=>?_⟩
  obtain ⟨z,z1,z2⟩:=k11 i j s hi hs
  refine ⟨z,z1,?_⟩
  unfold CellV at z2 ⊢
  rw [hdx]
  split at z2
  ·rename_i hd
   rw [if_pos hd]
   refine TR.mono (fun π=>π) (fun _ _ _=>rfl) z2 (fun b π n' o _ hl ho=>⟨ho,?_⟩) (by simp)
   obtain ⟨l0,l1,l2,l3,l4,l5⟩:=hl
   obtain ⟨m1,m2⟩:=how b l1
   exact ⟨hb _ m1,m2,by rw [e1]; exact l2,by simp only [backG,if_neg m1]; exact l3,by simp only [backG,if_neg m1]; exact l4,l5⟩
  ·rename_i hd
   rw [if_neg hd]
   exact z2
theorem evP_ok (hr:Rel P w g base σ a) {call:FuncId→List T→Option (T × Bool)} (hcall:CallOk P call) {o:Oper} {σ':St} {d:Nat} {f:Operand} {xs:Array Operand} {ts0:Array TypeId} (ho:o.op=.call { callee:=.value f,args:=xs,argTypes:=ts0 }) (hdst:o.dst=some d) (hd:∀ d,o.dst=some d→d<a.tmps.size)
  (h:evP P call σ d f xs.toList=some (σ',true)):Goes P base σ' o a w:=by
 unfold evP at h
 split at h
 rotate_left
 ·cases h
 rename_i fid caps x ys hsh hxs
 split at h
 rotate_left
 ·cases h
 rename_i id hxsh
 split at h
 rotate_left
 ·cases h
 rename_i cs ds hbx
 split at h
 rotate_left
 ·cases h
 rename_i cs1 vs qs es hcan hvs hcs
 split at h
 rotate_left
 ·cases h
 rename_i r ok hcl
 split at h
 rotate_left
 ·cases h
 rename_i cs2 res hrsh
 split at h
 rotate_left
 ·cases h
 rename_i cs' hback
 simp only at h
 generalize hts:(ys.map (opd σ)).flatMap (argToks σ)++capToks σ caps=ts at h
 cases hq:(id != d&&nodupB (xtoks cs)&&nodupB (xtoks cs')&&(xtoks cs).all (fun t=>t.1 != d&&t.1 != 1000001 && !ts.contains t)&&nodupB (xtoks cs2)&&(toks (res.flatMap Sh1.ces)).all (fun t => !(xtoks cs2).contains t)&&(res.flatMap Sh1.ces).all resC&&noPtr (opd σ f)&&ys.all (fun y=>noPtr (opd σ y))&&nodupB (xtoks cs1)&&Nat.ble cs.length 1000000) with
 | false=>rw [hq] at h; cases h
 | true =>
  rw [hq,cond_true] at h
  simp only [Option.some.injEq,Prod.mk.injEq] at h
  obtain ⟨rfl,rfl⟩:=h
  simp only [Bool.and_eq_true,bne_iff_ne,ne_eq] at hq
  obtain ⟨⟨⟨⟨⟨⟨⟨⟨⟨⟨hidd,hn1⟩,hn1'⟩,hxall⟩,hn2⟩,hres0⟩,hresC⟩,hnf⟩,hny⟩,hnc⟩,hcl6⟩:=hq
  have hcl6:cs.length≤1000000:=Nat.le_of_ble_eq_true hcl6
  have hxt:∀ t∈xtoks cs,t.1≠d∧t.1≠1000001∧ts.contains t=false:=fun t ht=>by
   have:=List.all_eq_true.1 hxall t ht
   simpa [and_assoc] using this
  have hdlt:=hd d hdst
  have hd6:d<1000000:=Nat.lt_of_lt_of_le hdlt hr.defers.2
  have hxs':xs=(x::ys).toArray:=by cases xs; simp_all
  -- the box
  have hxv:a.eval x=.pointer (some ⟨g.θ id,0,none⟩):=by
   have hxv:=opd_ok hr x
   generalize opd σ x=q at *
   obtain ⟨sh,p⟩:=q
   simp only at hxsh
   subst hxsh
   exact hxv
  obtain ⟨b1,b2,b3,b4,arr,E,b5,b6⟩:=hr.box id cs ds hbx
  have hbsz:=lt_of_heap b5
  -- the callee's ghost
  let gs:=sealG g ts
  have hrs:Rel P w gs base (σ.seal ts) a:=hr.seal ts
  obtain ⟨cg1,cg2⟩:=canon_given hcan
  generalize hpairs:given cs cs1=pairs at *
  have hp1:nodupB (pairs.map (·.1))=true:=by rw [cg1]; exact hn1
  have hp2:nodupB (pairs.map (·.2))=true:=by rw [cg2]; exact hnc
  let gc:=lentG w.heap.size gs base (g.θ id) pairs
  have hgold:∀ k,gc.owner k=none→k≠g.θ id:=fun k h e=>by
   subst e
   have:gc.owner (g.θ id)=some (.inl 1000000):=if_pos rfl
   rw [this] at h; cases h
  have hgnone:∀ k,k≠g.θ id→(∀ t,gs.owner k=some (.inr t)→t∈xtoks cs→gs.prot k=0→base≤k→False)→gc.owner k=none:=fun k hne hk=>by
   show (if k=g.θ id then _ else match gs.owner k with | some (.inr t)=>if gs.prot k=0∧base≤k then (fwd pairs t).map Sum.inr else none | _=>none)=none
   rw [if_neg hne]
   split
   ·rename_i t hot
    split
    ·rename_i hpb
     rw [fwd_none (by rw [cg1]; exact fun hm=>hk t hot hm hpb.1 hpb.2)]
     rfl
    ·rfl
   ·rfl
  have hbo:∀ t,gs.owner (g.θ id)≠some (.inr t):=fun t e=>by
   have e:g.owner (g.θ id)=some (.inr t):=e
   rw [b2] at e; cases e
  have hgo:∀ b,g.old b→gc.old b:=fun b hb=>by
   obtain ⟨q1,q2,q3,q4⟩:=hr.low.2.1 b hb
   exact ⟨q4,hgnone b (hr.oldNe hb b2) (fun t ht=>by have ht:g.owner b=some (.inr t):=ht; rw [q1] at ht; cases ht)⟩
  -- what is handed over
  have hcells:VCs P w gc 0 cs1 (toDs cs ds) arr:=by
   obtain ⟨k1,k2⟩:=canon_get hcan
   refine ⟨by rw [b6.1,k1],fun j c1 hj=>?_⟩
   obtain ⟨c,hc,hcc⟩:=k2 j c1 hj
   obtain ⟨u,hu,hv⟩:=b6.2 j c hc
   refine ⟨u,hu,?_⟩
   rw [toDs_get cs ds j c hc]
   cases c with
   | d s =>
    simp only [canonC,Option.some.injEq] at hcc
    subst hcc
    exact seal_vd (ts:=ts) hv
   | kb b =>
    simp only [canonC,Option.some.injEq] at hcc
    subst hcc
    have hv:u=.bool b:=hv
    subst hv
    exact VD.bool (.b b)
   | own t xm e =>
    cases xm with
    | false =>
     simp only [canonC,Option.some.injEq] at hcc
     subst hcc
     obtain ⟨row,hrow,hv⟩:=hv
     exact seal_vd (ts:=ts) (own_vd' hrow hv)
    | true =>
     simp only [canonC,Option.some.injEq] at hcc
     subst hcc
     have hmt:=mem_xtoks (List.mem_of_getElem? hc)
     have hv':=kept_seal (base:=base) g ts w _ _ _ hv
     change VC P w gs base (.own t (true && !ts.contains t) e) _ _ at hv'
     rw [(hxt t hmt).2.2] at hv'
     refine lent_own hp1 hp2 hbo (by rw [← hpairs]; exact given_get hc hj) ?_ hv'
     show Nat.ble 1000000 (bif deepT t then 1000000+(0+j) else 0+j)=deepT t
     cases hdt:deepT t with
     | true=>rw [cond_true]; simp
     | false =>
      rw [cond_false]
      have hjl:0+j<1000000:=by
       have:=(List.getElem?_eq_some_iff.1 hc).1
       omega
      cases hbl:Nat.ble 1000000 (0+j) with
      | false=>rfl
      | true =>
       have:=Nat.le_of_ble_eq_true hbl
       omega
   | _=>simp [canonC] at hcc
  have hfv:=opd_ok hr f
  have hfv:VC P w g base (.fn fid caps) (gd (opd σ f).p 0) (a.eval f):=by
   generalize opd σ f=q at *
   obtain ⟨sh,p⟩:=q
   simp only at hsh
   subst hsh
   exact hfv
  have hfa:arg P σ (opd σ f)=some (.c (.fn fid qs) (.l [es])):=by
   generalize opd σ f=q at *
   obtain ⟨sh,p⟩:=q
   simp only at hsh
   subst hsh
   unfold arg
   simp only at hcs ⊢
   rw [hcs]
  have hts1:∀ t∈(ys.map (opd σ)).flatMap (argToks σ),ts.contains t=true:=fun t ht=>List.contains_iff_mem.2 (by rw [← hts]; exact List.mem_append.2 (.inl ht))
  have hts2:∀ t∈argToks σ (opd σ f),ts.contains t=true:=fun t ht=>List.contains_iff_mem.2 (by
   rw [← hts]
   refine List.mem_append.2 (.inr ?_)
   unfold argToks at ht
   rw [hsh] at ht
   exact ht)
  have hfc:=argP_ok (gc:=gc) (b':=0) hr hfa (opd_ok hr f) hnf hts2 rfl hgo
  obtain ⟨carr,hfe,hcl1,hcl2⟩:VC P w gc 0 (.fn fid qs) (.l [es]) (a.eval f):=hfc
  obtain ⟨k1,k2⟩:=argsP_ok (gc:=gc) (b':=0) hr rfl hgo hvs hny hts1
  have hstart:StartP P w gc (g.θ id) cs1 (toDs cs ds) (vs++capTs qs es) ((ys.map a.eval).toArray++carr):=by
   refine ⟨rfl,if_pos rfl,(show (sealG g ts).prot (g.θ id)=0 by rw [seal_box b2]; exact b3),⟨arr,E,b5,hcells⟩,fun k hk=>?_,fun k hk=>⟨hk.2,hk.1⟩,by simp [k1,capTs_length,hcl1],fun j t hj=>?_⟩
   ·obtain ⟨q1,q2⟩:=hrs.fresh k hk
    exact ⟨q1,hgnone k (by omega) (fun t ht=>by rw [q2] at ht; cases ht)⟩
   ·rw [List.getElem?_append] at hj
    split at hj
    ·rename_i hlt
     obtain ⟨y,hy,hyv⟩:=k2 j t hj
     refine ⟨a.eval y,?_,hyv⟩
     rw [Array.getElem?_append_left (by simp; omega)]
     simp [hy]
    ·rename_i hge
     rw [capTs_get] at hj
     cases hc:qs[j - vs.length]? with
     | none=>rw [hc] at hj; cases hj
     | some c =>
      rw [hc] at hj; injection hj with hj; subst hj
      obtain ⟨u,m3,m4⟩:=hcl2 _ c hc
      refine ⟨u,?_,?_⟩
      ·rw [Array.getElem?_append_right (by simp; omega)]
       simp only [List.size_toArray,List.length_map,← k1]
       exact m3
      ·have m4:CapV P w gc 0 c (gd es (j - vs.length)) u:=m4
       cases c <;> exact m4
  have hisp:r.sh.isP=true:=by rw [hrsh]; rfl
  obtain ⟨hen,hcalls⟩:=(hcall _ _ _ hcl).p hisp
  intro K Q hK
  unfold Oper.wp
  have hrun:(execOp a.eval o).run P w=.ok (.enter fid (#[.pointer (some ⟨g.θ id,0,none⟩)]++((ys.map a.eval).toArray++carr))) w:=by
   simp only [execOp,ho,resolve,hfe,Deferred.ofValue,Sem.run_bind,Sem.run_pure,Result.andThen_ok,invoke]
   have e:xs.map a.eval++carr = #[.pointer (some ⟨g.θ id,0,none⟩)]++((ys.map a.eval).toArray++carr):=by
    subst hxs'
    rw [← Array.append_assoc]
    congr 1
    simp [hxv]
   simpa [e] using hen (xs.map a.eval++carr) w
  rw [hrun]
  refine (hcalls cs1 (toDs cs ds) (vs++capTs qs es) cs2 res rfl hrsh w gc (g.θ id) _ hstart).mono ?_
  rintro ex w' ⟨v,g',rfl,hE⟩
  obtain ⟨bg1,bg2⟩:=back_given hback
  obtain ⟨bl1,bl2,bl3⟩:=back_get hback
  generalize hpairs2:given cs2 cs'=pairs2 at *
  have hq1:nodupB (pairs2.map (·.1))=true:=by rw [bg1]; exact hn2
  have hq2:nodupB (pairs2.map (·.2))=true:=by rw [bg2]; exact hn1'
  let g2:=backG g gs g' gc.old (g.θ id) id d pairs2
  have hxsub:∀ t∈xtoks cs',t∈xtoks cs:=fun t ht=>by
   obtain ⟨j,e,hj⟩:=of_xtoks ht
   obtain ⟨c,c2,q1,q2,q3⟩:=bl3 j _ hj
   rcases backC_own q3 with ⟨t1,t',e1,rfl,rfl,h3,_⟩ | ⟨s,_,h3⟩
   ·injection h3 with h3 _ h4
    subst h3
    exact mem_xtoks (List.mem_of_getElem? q1)
   ·cases h3
  have hprot:∀ k,gc.old k→g'.prot k=gs.prot k:=fun k hk=>(hE.old k hk).2.1
  -- blocks that are not the callee's
  have holdk:∀ k,k<w.heap.size→k≠g.θ id→(∀ t,g.owner k=some (.inr t)→t∈xtoks cs→gs.prot k=0→base≤k→False)→gc.old k:=fun k h1 h2 h3=>⟨h1,hgnone k h2 h3⟩
  have hvdk:∀ b o u,o<gs.prot b→w.cell? ⟨b,o,none⟩=some u→gc.old b:=fun b o u h1 h2=>by
   refine holdk b (cell_size h2) (fun e=>?_) (fun t _ _ hp _=>by omega)
   subst e
   have:gs.prot (g.θ id)=0:=by show (sealG g ts).prot _=_; rw [seal_box b2]; exact b3
   omega
  have hcellk:∀ b o u,o<gs.prot b→w.cell? ⟨b,o,none⟩=some u→w'.cell? ⟨b,o,none⟩=some u∧o<g2.prot b:=fun b o u h1 h2=>by
   have hk:=hvdk b o u h1 h2
   exact ⟨(cell_of_heap (hE.old b hk).1 o).trans h2,by show o<g'.prot b; rw [hprot b hk]; exact h1⟩
  have hvd:∀ {s:S} {x:D} {v:Value},VD P w gs.prot s x v→VD P w' g2.prot s x v:=fun h=>h.mono hcellk
  have htokk:∀ t,t ∉ xtoks cs→t.1≠d→g2.ρ t=gs.ρ t∧g2.len t=gs.len t∧g2.wid t=gs.wid t∧g2.ety t=gs.ety t:=fun t h1 h2=>by
   have h3:t ∉ pairs2.map (·.2):=by rw [bg2]; exact fun h=>h1 (hxsub t h)
   simp only [g2,backG,if_neg h3,if_neg h2,and_self]
  have hblk:∀ b t,t ∉ xtoks cs→g.owner b=some (.inr t)→b<w.heap.size→w'.heap[b]?=w.heap[b]?∧g2.owner b=some (.inr t)∧g2.path b=gs.path b∧g2.need b=gs.need b∧g2.prot b=gs.prot b:=fun b t h1 h2 h3=>by
   have hne:b≠g.θ id:=fun e=>by rw [e,b2] at h2; cases h2
   have hk:=holdk b h3 hne (fun t' ht' hm _ _=>by rw [h2] at ht'; injection ht' with ht'; injection ht' with ht'; subst ht'; exact h1 hm)
   refine ⟨(hE.old b hk).1,?_,if_pos hk,if_pos hk,hprot b hk⟩
   simp only [g2,backG,if_neg hne,if_pos hk]
   exact h2
  have hown:∀ {t:Tok} {xm:Bool} {e:TypeId} {row:List S} {rows:List (List D)} {v:Value},t ∉ xtoks cs→t.1≠d→OwnV P w gs base t xm e row rows v→OwnV P w' g2 base t xm e row rows v:=by
   intro t xm e row rows v ht1 ht2 h
   obtain ⟨e1,e2,e3,e4⟩:=htokk t ht1 ht2
   rcases h with ⟨h0,h1,h2⟩ | ⟨cap,arr,E,h1,h2,h3,h4,h5,h6,h7,h8,h9,h10,h11⟩
   ·exact .inl ⟨h0,by rw [e2]; exact h1,h2⟩
   ·obtain ⟨m1,m2,m3,m4,m5⟩:=hblk _ t ht1 h5 (lt_of_heap h6)
    refine .inr ⟨cap,arr,E,by rw [e1]; exact h1,h2,by rw [e4]; exact h3,by rw [e1]; exact h4,by rw [e1]; exact m2,by rw [e1,m1]; exact h6,h7,by rw [e2]; exact h8,by rw [e3]; exact h9,by rw [e1,e2,e3,m5]; exact h10,fun i j s hi hs=>?_⟩
    obtain ⟨u,q1,q2⟩:=h11 i j s hi hs
    exact ⟨u,q1,q2.mono rfl hcellk (fun _ b o h0 ho' hne hb=>by
     obtain ⟨z1,z2,z3,z4,z5⟩:=hblk b t ht1 ho' (lt_of_heap hb)
     exact ⟨z1.trans hb,h0,z2,by rw [e1]; exact hne,z3,z4,fun e=>z5.trans e⟩)⟩
  have hcptr:∀ {cells:List S} {off:Nat} {x:D} {v:Value},CptrV P w gs base cells off x v→CptrV P w' g2 base cells off x v:=by
   rintro cells off x v ⟨b,o,h1,h2,h3⟩
   refine ⟨b,o,h1,h2,fun j s hs=>?_⟩
   obtain ⟨u,z1,z2⟩:=h3 j s hs
   exact ⟨u,(cell_of_heap (hE.old b (hgo b h2)).1 _).trans z1,hvd z2⟩
  have hk:Kept P base gs g2 w w' (fun c=>wipeC d (dropsC (xtoks cs) c)):=by
   intro c x v hv
   show VC P w' g2 base (wipeC d (dropsC (xtoks cs) c)) x v
   cases c with
   | any=>rw [dropsC_id (fun _=>rfl)]; trivial
   | d s=>rw [dropsC_id (fun _=>rfl)]; exact hvd hv
   | kb b=>rw [dropsC_id (fun _=>rfl)]; exact hv
   | own t xm e =>
    obtain ⟨row,hrow,hv⟩:=hv
    rw [dropsC_own]
    by_cases ht:t∈xtoks cs
    ·rw [show (xtoks cs).contains t=true from List.contains_iff_mem.2 ht,cond_true]
     cases xm with
     | true=>trivial
     | false=>exact hvd (own_vd' hrow hv)
    ·rw [show (xtoks cs).contains t=false from by simpa using ht,cond_false]
     show VC P w' g2 base (bif t.1==d then (bif xm then .any else .d (.sl e)) else .own t xm e) x v
     by_cases htd:t.1=d
     ·rw [show (t.1==d)=true from by simpa using htd,cond_true]
      cases xm with
      | true=>trivial
      | false=>exact hvd (own_vd' hrow hv)
     ·rw [show (t.1==d)=false from by simpa using htd,cond_false]
      exact ⟨row,hrow,hown ht htd hv⟩
   | ptr id' off =>
    rw [dropsC_id (fun _=>rfl)]
    show VC P w' g2 base (bif id'==d then .any else .ptr id' off) x v
    cases (id'==d) with
    | true=>trivial
    | false=>exact hv
   | eptr tk e off =>
    cases tk with
    | none =>
     rw [dropsC_id (fun _=>rfl)]
     obtain ⟨row,b,o,h1,h2,h3,h4⟩:=hv
     refine ⟨row,b,o,h1,h2,h3,fun j s hs=>?_⟩
     obtain ⟨u,q1,q2,q3⟩:=h4 j s hs
     obtain ⟨z1,z2⟩:=hcellk b _ u q2 q1
     exact ⟨u,z1,z2,hvd q3⟩
    | some t =>
     obtain ⟨row,h1,h2,h3,u,h4⟩:=hv
     rw [dropsC_eptr]
     by_cases ht:t∈xtoks cs
     ·rw [show (xtoks cs).contains t=true from List.contains_iff_mem.2 ht,cond_true]; trivial
     ·rw [show (xtoks cs).contains t=false from by simpa using ht,cond_false]
      show VC P w' g2 base (bif t.1==d then .any else .eptr (some t) e off) x v
      by_cases htd:t.1=d
      ·rw [show (t.1==d)=true from by simpa using htd,cond_true]; trivial
      ·rw [show (t.1==d)=false from by simpa using htd,cond_false]
       exact ⟨row,h1,by rw [(htokk t ht htd).1]; exact h2,h3,u,hown ht htd h4⟩
   | inn t e off ei =>
    rw [dropsC_inn]
    by_cases ht:t∈xtoks cs
    ·rw [show (xtoks cs).contains t=true from List.contains_iff_mem.2 ht,cond_true]; trivial
    ·rw [show (xtoks cs).contains t=false from by simpa using ht,cond_false]
     show VC P w' g2 base (bif t.1==d then .any else .inn t e off ei) x v
     by_cases htd:t.1=d
     ·rw [show (t.1==d)=true from by simpa using htd,cond_true]; trivial
     ·rw [show (t.1==d)=false from by simpa using htd,cond_false]
      exact inn_mono hv (htokk t ht htd).1 (fun o h5 h6=>(hblk _ t ht h5 (lt_of_heap h6)).1.trans h6) (fun hu=>hown ht htd hu)
   | cptr cells off=>rw [dropsC_id (fun _=>rfl)]; exact hcptr hv
   | fn f caps =>
    rw [dropsC_id (fun _=>rfl)]
    show VC P w' g2 base (bif caps.all (fun | .ptr id _=>id != d | _=>true) then .fn f caps else .any) x v
    generalize caps.all _=q
    cases q with
    | false=>trivial
    | true =>
     obtain ⟨arr,h1,h2,h3⟩:=hv
     refine ⟨arr,h1,h2,fun j c hc=>?_⟩
     obtain ⟨u,hu,hcap⟩:=h3 j c hc
     refine ⟨u,hu,?_⟩
     cases c with
     | d s=>exact hvd hcap
     | ptr id off=>exact hcap
     | cptr cells off=>exact hcptr hcap
  have hbge:∀ k,¬ gc.old k→base≤k:=fun k hk=>by
   refine Nat.le_of_not_lt fun hlt=>hk ?_
   have:=hr.base_le
   exact holdk k (by omega) (by omega) (fun t _ _ _ h=>by omega)
  -- the callee's cells,under the caller's names
  obtain ⟨arr',E',e1,e2⟩:=hE.cells
  have hnew:VCs P w' g2 base cs' (sub r.p 1 cs'.length) arr':=by
   refine ⟨by rw [e2.1,bl2,bl1],fun j c' hj=>?_⟩
   obtain ⟨c,c2,q1,q2,q3⟩:=bl3 j c' hj
   obtain ⟨u,hu,hv⟩:=e2.2 j c2 q2
   refine ⟨u,hu,?_⟩
   rw [bl1,← bl2]
   rcases backC_own q3 with ⟨t,t',e,rfl,rfl,rfl,h0,hdt⟩ | ⟨s,rfl,rfl⟩
   ·have hm:(t',t)∈pairs2:=by rw [← hpairs2]; exact given_get q2 hj
    have hmem:t∈pairs2.map (·.2):=List.mem_map.2 ⟨_,hm,rfl⟩
    have hi:=inv_mem hq2 hm
    refine back_own (fun k hk=>(hE.old k hk).2.2) hE.boxo.2 hbge (u:=t') ⟨?_,?_,?_,?_⟩ (by rw [fwd_mem hq1 hm]; rfl) hdt hv
    ·simp only [backG,if_pos hmem,hi]
    ·simp only [backG,if_pos hmem,hi]
    ·simp only [backG,if_pos hmem,hi]
    ·simp only [backG,if_pos hmem,hi]
   ·exact hv
  have hval:VT P w' g2 base ⟨(tupOf res).map (retokC d),sub r.p (1+cs2.length) (res.flatMap Sh1.ces).length⟩ v:=by
   refine vs_mem (fun c hc x u hcv=>?_) hE.res
   have hces:(tupOf res).ces=res.flatMap Sh1.ces:=by
    cases res with
    | nil=>rfl
    | cons y ys=>cases ys <;> simp [tupOf,Sh.ces]
   rw [hces] at hc
   have hcr:=List.all_eq_true.1 hresC c hc
   cases c with
   | d s=>exact hcv
   | own t xm e =>
    obtain ⟨t1,ix⟩:=t
    have ht0:t1=0:=by simpa [resC] using hcr
    subst ht0
    have hnm:((0,ix):Tok) ∉ xtoks cs2:=by
     have:=List.all_eq_true.1 hres0 (0,ix) (mem_toks hc)
     simpa using this
    have hdn:((d,ix):Tok) ∉ pairs2.map (·.2):=by rw [bg2]; exact fun h=>(hxt _ (hxsub _ h)).1 rfl
    show VC P w' g2 base (.own (d,ix) xm e) x u
    refine back_own (gl:=g) (gs:=gs) (old:=gc.old) (bx:=g.θ id) (id:=id) (d:=d) (pairs:=pairs2) (t:=(d,ix)) (fun k hk=>(hE.old k hk).2.2) hE.boxo.2 hbge (u:=(0,ix)) ⟨?_,?_,?_,?_⟩ (by rw [fwd_none (by rw [bg1]; exact hnm)]; rfl) rfl hcv
    ·simp only [backG,if_neg hdn,if_true]
    ·simp only [backG,if_neg hdn,if_true]
    ·simp only [backG,if_neg hdn,if_true]
    ·simp only [backG,if_neg hdn,if_true]
   | _=>simp [resC] at hcr
  -- the state behind
  have hτ:(dropTs (xtoks cs) (σ.seal ts)).wipe d=(σ.seal ts).map (fun c=>wipeC d (dropsC (xtoks cs) c)):=by
   rw [dropTs_map]
   exact St.map_comp _ _ _
  have hbx':hlook id (σ.seal ts).h=some (cs.map (sealC ts),ds):=by
   have:=hlook_map (List.map (sealC ts)) σ.h id
   rw [hbx] at this
   exact this
  have hrel:Rel P w' g2 base ⟨((σ.seal ts).map (fun c=>wipeC d (dropsC (xtoks cs) c))).r,((σ.seal ts).map (fun c=>wipeC d (dropsC (xtoks cs) c))).e,hput id (cs',sub r.p 1 cs'.length) ((σ.seal ts).map (fun c=>wipeC d (dropsC (xtoks cs) c))).h⟩ a:=by
   refine ⟨fun i=>hrs.envMap hk (by rw [dropsC_id (fun _=>rfl)]; rfl) i,fun id' cs9 ds9 hl=>?_,fun b hb=>?_,Nat.le_trans hr.base_le hE.size,hr.defers,⟨⟨hr.low.1.1,hr.low.1.2⟩,fun b hb=>?_,fun t x hx=>?_⟩,fun b t ht ho'=>?_⟩
   rotate_right
   ·have hne:b≠g.θ id:=fun h=>by
     subst h
     have:g2.owner (g.θ id)=some (.inl id):=if_pos rfl
     rw [this] at ho'
     cases ho'
    by_cases hko:gc.old b
    ·have h1:g2.owner b=gs.owner b:=by simp only [g2,backG,if_neg hne,if_pos hko]
     have h2:g2.path b=gs.path b:=if_pos hko
     have h3:g2.need b=gs.need b:=if_pos hko
     rw [h2,h3]
     exact hrs.mine b t ht (by rw [← h1]; exact ho')
    ·exfalso
     simp only [g2,backG,if_neg hne,if_neg hko] at ho'
     split at ho'
     ·rename_i u hu
      injection ho' with ho'
      injection ho' with ho'
      cases hf:fwd pairs2 u with
      | none =>
       rw [hf] at ho'
       have ho':(d,u.2)=t:=ho'
       rw [← ho'] at ht
       have ht:d=1000001:=ht
       omega
      | some t2 =>
       rw [hf] at ho'
       have ho':t2=t:=ho'
       subst ho'
       have hm:t2∈pairs2.map (·.2):=by
        unfold fwd at hf
        cases hq:pairs2.find? (·.1==u) with
        | none=>rw [hq] at hf; cases hf
        | some q =>
         rw [hq] at hf
         injection hf with hf
         exact List.mem_map.2 ⟨q,List.mem_of_find?_eq_some hq,hf⟩
       rw [bg2] at hm
       exact (hxt _ (hxsub _ hm)).2.1 ht
     ·cases ho'
   ·rw [hlook_hput] at hl
    by_cases e:id'=id
    ·subst e
     rw [if_pos rfl] at hl
     injection hl with hl
     injection hl with l1 l2
     subst l1; subst l2
     exact ⟨b1,if_pos rfl,hE.boxo.1,sub_length _ _ _,arr',E',e1,hnew⟩
    ·rw [if_neg e] at hl
     refine hrs.boxMap hk hl fun cs8 ds8 h8=>?_
     obtain ⟨j1,j2,j3,j4,arr8,E8,j5,j6⟩:=hrs.box id' cs8 ds8 h8
     have j2:g.owner (g.θ id')=some (.inl id'):=j2
     have hne:g.θ id'≠g.θ id:=fun h=>by rw [h,b2] at j2; injection j2 with j2; injection j2 with j2; exact e j2.symm
     have hko:=holdk (g.θ id') (lt_of_heap j5) hne (fun t ht=>by rw [j2] at ht; cases ht)
     refine ⟨rfl,?_,hprot _ hko,(hE.old _ hko).1⟩
     exact (if_neg hne).trans (if_pos hko)
   ·have hge:=hE.size
    obtain ⟨q1,q2⟩:=hE.fresh b hb
    refine ⟨q1,?_⟩
    have hno:¬ gc.old b:=fun h=>by have:=h.1; omega
    simp only [g2,backG,if_neg hno,q2]
    rw [if_neg (by omega)]
   ·have hb:g.old b:=hb
    obtain ⟨q1,q2,q3,q4⟩:=hrs.low.2.1 b hb
    have hko:=hgo b hb
    refine ⟨?_,(hprot b hko).trans q2,(hE.old b hko).1.trans q3,Nat.lt_of_lt_of_le q4 hE.size⟩
    simp only [g2,backG,if_neg (hr.oldNe hb b2),if_pos hko]
    exact q1
   ·obtain ⟨q1,q2,q3,q4⟩:=hrs.low.2.2 t x hx
    have ht1:t ∉ xtoks cs:=fun h=>(hxt t h).2.1 q1
    have ht2:t.1≠d:=by omega
    obtain ⟨m1,m2,_⟩:=htokk t ht1 ht2
    refine ⟨q1,m1.trans q2,m2.trans q3,fun h0=>?_⟩
    obtain ⟨z1,arr9,z2,z3⟩:=q4 h0
    obtain ⟨y1,y2,_⟩:=hblk _ t ht1 z1 (lt_of_heap z2)
    exact ⟨y2,arr9,y1.trans z2,z3⟩
  have hbel:Below base w w':=⟨hE.os,hE.tape,hE.output,hE.size,fun k hk=>by
   have:=hr.base_le
   exact (hE.old k (holdk k (by omega) (by omega) (fun t _ _ _ h=>by omega))).1⟩
  have:=hK v w' g2 (by
   have:=hrel.put hd (dst:=o.dst) (t:=⟨(tupOf res).map (retokC d),sub r.p (1+cs2.length) (res.flatMap Sh1.ces).length⟩) hval
   rw [hdst] at this
   rw [hτ]
   rw [hdst]
   exact this) hbel
  exact this
theorem pickCs_get {m:Nat} {cs:List Value}:∀ {sel:List Nat},(∀ k∈sel,(k+1)*m≤cs.length)→∀ (i j k:Nat),sel[i]?=some k→j<m→(pickCs m cs sel)[i*m+j]?=cs[k*m+j]?
 | [],_,i,j,k,h,_=>by simp at h
 | k0::sel,h,i,j,k,hi,hj=>by
  have h1:=h k0 (by simp)
  rw [Nat.succ_mul] at h1
  have hl:((cs.drop (k0*m)).take m).length=m:=by rw [List.length_take,List.length_drop]; omega
  rw [pickCs]
  cases i with
  | zero =>
   simp only [List.getElem?_cons_zero,Option.some.injEq] at hi
   subst hi
   rw [Nat.zero_mul,Nat.zero_add,List.getElem?_append_left (by omega),List.getElem?_take_of_lt hj,List.getElem?_drop]
  | succ i =>
   have e1:(i+1)*m+j=m+(i*m+j):=by rw [Nat.succ_mul]; omega
   rw [e1,List.getElem?_append_right (by omega),hl,Nat.add_sub_cancel_left]
   exact pickCs_get (fun k hk=>h k (List.mem_cons_of_mem _ hk)) i j k (by simpa using hi) hj
theorem own_ownX {t:Tok} {e:TypeId} {row:List S} {rows:List (List D)} {u:Value} (hrow:rowOf P e=some row) (h:OwnV P w g base t true e row rows u) :
  ∃ cs B,OwnX w e row.length rows.length cs u B∧(∀ b,B=some b→b=g.ρ t∧base≤b∧g.owner b=some (.inr t)∧g.prot b=0∧b<w.heap.size)∧(B=none→rows = []) ∧
   ∀ i j s,i<rows.length→row[j]?=some s→∃ z,cs[i*row.length+j]?=some z∧CellV P base w g t true i j s (gd (rows.getD i []) j) z:=by
 rcases h with ⟨h0,h1,A,hv⟩ | ⟨cap,arr,E,k1,k2,⟨k3,rfl,k3'⟩,k4,k5,k6,k7,k8,k9,k10,k11⟩
 ·subst h0
  exact ⟨[],none,⟨by simp,by simp,.inl ⟨rfl,rfl,A,hv⟩⟩,(fun b hb=>by cases hb),fun _=>rfl,fun i j s hi _=>by simp at hi⟩
 ·have hpos:=rowOf_pos hrow
  have hle:rows.length*row.length≤arr.size:=by rw [k7]; exact Nat.mul_le_mul_right _ k2
  have hget:∀ i j s,i<rows.length→row[j]?=some s→∃ z,(arr.toList.take (rows.length*row.length))[i*row.length+j]?=some z∧CellV P base w g t true i j s (gd (rows.getD i []) j) z:=fun i j s hi hs=>by
   obtain ⟨z,q1,q2⟩:=k11 i j s hi hs
   have hj:=(List.getElem?_eq_some_iff.1 hs).1
   have:(i+1)*row.length≤rows.length*row.length:=Nat.mul_le_mul_right _ hi
   rw [Nat.succ_mul] at this
   exact ⟨z,by rw [List.getElem?_take,if_pos (by omega)]; simpa using q1,q2⟩
  refine ⟨arr.toList.take (rows.length*row.length),some (g.ρ t),⟨?_,fun v hv=>?_,.inr ⟨_,cap,arr,rfl,k1,k2,k3,k6,k7,fun k v hk=>?_⟩⟩,(fun b hb=>by injection hb with hb; subst hb; exact ⟨rfl,k4,k5,by simpa using k10,lt_of_heap k6⟩),(fun hb=>by cases hb),hget⟩
  ·rw [List.length_take,Array.length_toList]; exact Nat.min_eq_left hle
  ·obtain ⟨k,hk⟩:=List.getElem?_of_mem hv
   have hkl:=(List.getElem?_eq_some_iff.1 hk).1
   rw [List.length_take] at hkl
   have hjk:k % row.length<row.length:=Nat.mod_lt _ hpos
   obtain ⟨z,q1,q2⟩:=hget (k / row.length) (k % row.length) _ ((Nat.div_lt_iff_lt_mul hpos).2 (by omega)) (List.getElem?_eq_getElem hjk)
   have e:k / row.length*row.length+k % row.length=k:=by rw [Nat.mul_comm]; exact Nat.div_add_mod k row.length
   rw [e,hk] at q1
   injection q1 with q1
   subst q1
   exact oneCell_of_flat q2.flat
  ·rw [List.getElem?_take] at hk
   split at hk
   ·simpa using hk
   ·cases hk
def pickP (sel:List Nat):List (Nat × Nat)→List (Nat × Nat)
 | [] => []
 | (a,j)::r=>(sel.idxOf a,j)::r
theorem pick_rel (hr:Rel P w g base σ a) {t:Tok} {e:TypeId} {row:List S} {rows:List (List D)} {cs:List Value} {sel:List Nat} {B B':Option Nat} {v':Value}
  (hd:deepT t=true) (hpt:t.1≠1000001) (hrow:rowOf P e=some row) (hB:∀ b,B=some b→b=g.ρ t∧base≤b∧g.owner b=some (.inr t)∧g.prot b=0∧b<w.heap.size)
  (hcells:∀ i j s,i<rows.length→row[j]?=some s→∃ z,cs[i*row.length+j]?=some z∧TR P w (labOf base g t) [(i,j)] s (gd (rows.getD i []) j) z)
  (hsel:sel.Nodup) (hlt:∀ k∈sel,k<rows.length) (hlen:cs.length=rows.length*row.length)
  (hC:Changed w w' B) (hO:OwnX w' e row.length sel.length (pickCs row.length cs sel) v' B') (hB':∀ b,B'=some b→B=some b∨w.heap.size≤b) :
  ∃ g',Rel P w' g' base (σ.map (dropC t)) a∧OwnV P w' g' base t true e row (sel.map fun k=>rows.getD k []) v'∧Below base w w':=by
 have hne:∀ b,B=some b→g.owner b=some (.inr t):=fun b hb=>(hB b hb).2.2.1
 let g':G:={ prot:=fun b=>if B'=some b then 0 else g.prot b,owner:=fun b=>if B'=some b then some (.inr t) else g.owner b,θ:=g.θ,ρ:=fun u=>if u=t then B'.getD (g.ρ t) else g.ρ u, len:=fun u=>if u=t then sel.length else g.len u,wid:=fun u=>if u=t then row.length else g.wid u,ety:=fun u=>if u=t then e else g.ety u, path:=fun b=>if g.owner b=some (.inr t) then pickP sel (g.path b) else g.path b,need:=g.need,old:=g.old }
 have hbb:∀ b,B'=some b→b<w'.heap.size:=fun b hb=>by
  rcases hO.2.2 with ⟨h0,_⟩ | ⟨b1,cap,arr,q1,q2,q3,q4,q5,q6,q7⟩
  ·rw [h0] at hb; cases hb
  ·rw [q1] at hb; injection hb with hb; subst hb; exact lt_of_heap q5
 have hg1:∀ b,b<w.heap.size→g'.prot b=g.prot b∧g'.owner b=g.owner b:=fun b hb=>by
  by_cases hbe:B'=some b
  ·rcases hB' b hbe with h1 | h1
   ·obtain ⟨_,_,q3,q4,_⟩:=hB b h1
    exact ⟨by show (if _ then _ else _)=_; rw [if_pos hbe,q4],by show (if _ then _ else _)=_; rw [if_pos hbe,q3]⟩
   ·omega
  ·exact ⟨if_neg hbe,if_neg hbe⟩
 have hg4:∀ b,w'.heap.size≤b→g'.prot b=0∧g'.owner b=none:=fun b hb=>by
  have hbe:B'≠some b:=fun e=>by have:=hbb b e; omega
  obtain ⟨q1,q2⟩:=hr.fresh b (Nat.le_trans hC.size hb)
  exact ⟨by show (if _ then _ else _)=_; rw [if_neg hbe,q1],by show (if _ then _ else _)=_; rw [if_neg hbe,q2]⟩
 have hpath:∀ b t',t'≠t→g.owner b=some (.inr t')→g'.path b=g.path b:=fun b t' ht' ho=>if_neg (by rw [ho]; intro e; injection e with e; injection e with e; exact ht' e)
 have hk:Kept P base g g' w w' (dropC t):=by
  refine kept_drop (fun b o u h1 h2=>?_) (fun b t' ht' ho' hb=>⟨hC.other b hb (fun e=>?_),(hg1 b hb).2,(hg1 b hb).1⟩) (fun t' ht'=>⟨if_neg ht',if_neg ht',if_neg ht',if_neg ht'⟩) rfl (fun b hb=>hC.other b (hr.low.2.1 b hb).2.2.2 (fun e=>?_)) (fun b t' ht' ho _=>⟨hpath b t' ht' ho,rfl⟩) rfl
  ·have hb:=cell_size h2
   refine ⟨(cell_of_heap (hC.other b hb (fun e=>?_)) o).trans h2,by rw [(hg1 b hb).1]; exact h1⟩
   have:=(hB b e).2.2.2.1
   omega
  ·have:=hne b e
   rw [this] at ho'
   injection ho' with ho'
   injection ho' with ho'
   exact ht' ho'.symm
  ·exact hr.oldNe hb (hne b e) rfl
 have hrel:Rel P w' g' base (σ.map (dropC t)) a:=by
  refine hr.drop hk rfl (fun b id ho' hb=>⟨hC.other b hb (fun e=>?_),(hg1 b hb).2,(hg1 b hb).1⟩) hg4 hC.size (fun b hb=>⟨(hg1 b (hr.low.2.1 b hb).2.2.2).2,(hg1 b (hr.low.2.1 b hb).2.2.2).1,hC.other b (hr.low.2.1 b hb).2.2.2 (fun e=>hr.oldNe hb (hne b e) rfl)⟩) rfl (fun t' ht'=>⟨if_neg (unpin hpt ht'),if_neg (unpin hpt ht'),fun b ho hb=>⟨by rw [(hg1 b hb).2]; exact ho,hC.other b hb (fun e=>by have:=hne b e; rw [this] at ho; injection ho with ho; injection ho with ho; exact unpin hpt ht' ho.symm)⟩⟩) (fun b t' ht' ho=>?_)
  ·have:=hne b e
   rw [this] at ho'
   injection ho' with ho'
   cases ho'
  ·change (if _ then _ else _)=_ at ho
   split at ho
   ·injection ho with ho; injection ho with ho; exact absurd ho.symm (unpin hpt ht')
   ·exact ⟨ho,hpath b t' (unpin hpt ht') ho,rfl⟩
 refine ⟨g',hrel,?_,⟨hC.os,hC.tape,hC.output,hC.size,fun k hk=>hC.other k (Nat.lt_of_lt_of_le hk hr.base_le) (fun e=>by have:=(hB k e).2.1; omega)⟩⟩
 rcases hO.2.2 with ⟨h0,h1,A,hv⟩ | ⟨b1,cap,arr,q1,q2,q3,q4,q5,q6,q7⟩
 ·have:sel = []:=List.eq_nil_of_length_eq_zero h1
  subst this
  exact .inl ⟨rfl,if_pos rfl,A,hv⟩
 ·have e1:g'.ρ t=b1:=by show (if t=t then B'.getD _ else _)=_; rw [if_pos rfl,q1]; rfl
  refine .inr ⟨cap,arr,e,by rw [e1,List.length_map]; exact q2,by rw [List.length_map]; exact q3,⟨q4,rfl,(if_pos rfl).symm⟩,?_,?_,by rw [e1]; exact q5,q6,by rw [List.length_map]; exact (if_pos rfl).symm,(if_pos rfl).symm,?_,fun i j s hi hs=>?_⟩
  ·rw [e1]
   rcases hB' b1 q1 with h1 | h1
   ·exact (hB b1 h1).2.1
   ·exact Nat.le_trans hr.base_le h1
  ·rw [e1]
   exact if_pos q1
  ·rw [e1]
   show (if B'=some b1 then 0 else _)=_
   rw [if_pos q1]
   rfl
  ·rw [List.length_map] at hi
   have hj:=(List.getElem?_eq_some_iff.1 hs).1
   have hsi:sel[i]?=some sel[i]:=List.getElem?_eq_getElem hi
   have hmem:sel[i]∈sel:=List.getElem_mem hi
   have hkl:=hlt _ hmem
   obtain ⟨z,z1,z2⟩:=hcells _ j s hkl hs
   refine ⟨z,q7 _ _ ?_,.of_tr ?_ hd⟩
   ·rw [pickCs_get (fun k hk=>by rw [hlen]; exact Nat.mul_le_mul_right _ (hlt k hk)) i j _ hsi hj]
    exact z1
   ·have e2:(sel.map fun k=>rows.getD k []).getD i []=rows.getD sel[i] []:=by
     rw [List.getD_eq_getElem?_getD,List.getElem?_map,hsi]; rfl
    rw [e2]
    have:=TR.mono (pickP sel) (fun π x hπ=>by cases π with | nil=>exact absurd rfl hπ | cons p r=>rfl) z2 (w':=w') (lab':=labOf base g' t) (fun b π n o hπ hl ho=>by
     obtain ⟨l0,l1,l2,l3,l4,l5⟩:=hl
     have hblt:=lt_of_heap ho
     refine ⟨(hC.other b hblt (fun e=>l2 (hB b e).1)).trans ho,l0,(hg1 b hblt).2.trans l1,?_,?_,l4,(hg1 b hblt).1.trans l5⟩
     ·rw [e1]
      rintro rfl
      rcases hB' b q1 with h1 | h1
      ·exact l2 (hB b h1).1
      ·omega
     ·show (if g.owner b=some (.inr t) then _ else _)=_
      rw [if_pos l1,l3]) (by simp)
    rw [show pickP sel [(sel[i],j)] = [(i,j)] from by
     show [(sel.idxOf sel[i],j)]=_
     rw [hsel.idxOf_getElem]] at this
    exact this
theorem evX_ok (hr:Rel P w g base σ a) {call:FuncId→List T→Option (T × Bool)} (hcall:CallOk P call) {o:Oper} {σ':St} {f:Operand} {xs:Array Operand} {ts0:Array TypeId} (ho:o.op=.call { callee:=.value f,args:=xs,argTypes:=ts0 }) (hd:∀ d,o.dst=some d→d<a.tmps.size)
  (h:evX call σ o.dst f xs.toList=some (σ',true)):Goes P base σ' o a w:=by
 unfold evX at h
 split at h
 ·rename_i fid i y z hsh hxs
  have hxs':xs = #[.tmp i,y,z]:=by cases xs; simp_all
  subst hxs'
  have hfv:=opd_ok hr f
  have hfv:VC P w g base (.fn fid []) (gd (opd σ f).p 0) (a.eval f):=by
   generalize opd σ f=q at *
   obtain ⟨sh,p⟩:=q
   simp only at hsh
   subst hsh
   exact hfv
  obtain ⟨carr,hfe,hcl1,_⟩:=hfv
  have hc0:carr = #[]:=by simpa using hcl1
  subst hc0
  split at h
  ·rename_i t e hsi hsy
   have hiv:=opd_ok hr (.tmp i)
   have hiv:VC P w g base (.own t true e) (gd (opd σ (.tmp i)).p 0) (a.eval (.tmp i)):=by
    generalize opd σ (.tmp i)=q at *
    obtain ⟨sh,p⟩:=q
    simp only at hsi
    subst hsi
    exact hiv
   obtain ⟨row,hrow,hown⟩:=hiv
   have hyv:=opd_ok hr y
   have hyv:a.eval y=.int .i64 (gd (opd σ y).p 0).int:=by
    generalize opd σ y=q at *
    obtain ⟨sh,p⟩:=q
    simp only at hsy
    subst hsy
    have hyv:VD P w g.prot (.int .i64) (gd p 0) (a.eval y):=hyv
    generalize a.eval y=uy at *
    cases hyv
    rfl
   -- behind the call
   have fin:∀ {r:T} {q:T},SoundX P fid [.c (.d (.sl e)) (gd (opd σ (.tmp i)).p 0),.c (.d (.int .i64)) (gd (opd σ y).p 0),q] r→deepT t=true→t.1≠1000001 →
     ∀ {g₁:G} {σ₁:St} {cs2:List Value} {B2:Option Nat},Rel P w g₁ base σ₁ a→OwnV P w g₁ base t true e row (gd (opd σ (.tmp i)).p 0).rows (a.eval (.tmp i)) →
     ((q.sh=.one (.c (.d (.int .i64)))∧a.eval z=.int .i64 (gd q.p 0).int∧cs2 = [])∨(q.sh=.one (.c (.d (.sl e)))∧OwnX w e row.length (zRows q).length cs2 (a.eval z) B2)) →
     cs2.length=(zRows q).length*row.length→(∀ b,g₁.owner b=some (.inr t)→B2=some b→False) →
     (∀ i' j s,i'<(zRows q).length→row[j]?=some s→∃ u,cs2[i'*row.length+j]?=some u∧TR P w (labOf base g₁ t) [((gd (opd σ (.tmp i)).p 0).rows.length+i',j)] s (gd ((zRows q).getD i' []) j) u) →
     Goes P base ((σ₁.map (dropC t)).put o.dst (.c (.own t true e) (gd r.p 0))) o a w:=by
    intro r q hS hdt hpt g₁ σ₁ cs2 B2 hr₁ hown₁ hz hcs2 hBB hz2
    obtain ⟨hen,hX⟩:=hS
    obtain ⟨sel,s1,s2,s3,s4⟩:=hX e _ _ q row rfl hrow
    obtain ⟨cs,B,k1,k2,k3,k4⟩:=own_ownX hrow hown₁
    intro K Q hK
    unfold Oper.wp
    have hrun:(execOp a.eval o).run P w=.ok (.enter fid #[a.eval (.tmp i),.int .i64 (gd (opd σ y).p 0).int,a.eval z]) w:=by
     simp only [execOp,ho,resolve,hfe,Deferred.ofValue,Sem.run_bind,Sem.run_pure,Result.andThen_ok,invoke]
     rw [← hyv]
     simpa using hen _ w
    rw [hrun]
    refine (s4 w _ _ B B2 cs cs2 k1 (fun b h1 h2=>hBB b (k2 b h1).2.2.1 h2) hz).mono ?_
    rintro ex w' ⟨v',B',rfl,hC,hO,hB'⟩
    have hcl:cs.length=(gd (opd σ (.tmp i)).p 0).rows.length*row.length:=k1.1
    obtain ⟨g',q1,q2,q3⟩:=pick_rel (rows:=(gd (opd σ (.tmp i)).p 0).rows++zRows q) (cs:=cs++cs2) hr₁ hdt hpt hrow k2 (fun i' j s hi hs=>by
     rw [List.length_append] at hi
     have hj:=(List.getElem?_eq_some_iff.1 hs).1
     by_cases h1:i'<(gd (opd σ (.tmp i)).p 0).rows.length
     ·obtain ⟨u,z1,z2⟩:=k4 i' j s h1 hs
      have hlt:=(List.getElem?_eq_some_iff.1 z1).1
      refine ⟨u,by rw [List.getElem?_append_left hlt]; exact z1,?_⟩
      rw [List.getD_eq_getElem?_getD,List.getElem?_append_left h1,← List.getD_eq_getElem?_getD]
      exact z2.tr hdt
     ·obtain ⟨u,z1,z2⟩:=hz2 (i' - (gd (opd σ (.tmp i)).p 0).rows.length) j s (by omega) hs
      have e0:(gd (opd σ (.tmp i)).p 0).rows.length+(i' - (gd (opd σ (.tmp i)).p 0).rows.length)=i':=by omega
      have e1:i'*row.length+j=(gd (opd σ (.tmp i)).p 0).rows.length*row.length+((i' - (gd (opd σ (.tmp i)).p 0).rows.length)*row.length+j):=by
       rw [← Nat.add_assoc,← Nat.add_mul,e0]
      refine ⟨u,by rw [e1,List.getElem?_append_right (by omega),hcl,Nat.add_sub_cancel_left]; exact z1,?_⟩
      rw [List.getD_eq_getElem?_getD,List.getElem?_append_right (by omega),← List.getD_eq_getElem?_getD]
      rw [e0] at z2
      exact z2) s1 s2 (by rw [List.length_append,List.length_append,hcl,hcs2,Nat.add_mul]) hC hO hB'
    exact hK _ w' g' (q1.put hd (dst:=o.dst) (t:=.c (.own t true e) (gd r.p 0)) ⟨row,hrow,by
     show OwnV P w' g' base t true e row (gd r.p 0).rows v'
     rw [s3]; exact q2⟩) q3
   split at h
   ·rename_i hsz
    split at h
    ·rename_i r ok hcl
     cases hq:(r.sh.isX&&deepT t&&t.1 != 1000001) with
     | false=>rw [hq] at h; cases h
     | true =>
      rw [hq,cond_true] at h
      simp only [Option.some.injEq,Prod.mk.injEq] at h
      obtain ⟨rfl,rfl⟩:=h
      simp only [Bool.and_eq_true] at hq
      obtain ⟨⟨hx,hdt⟩,hpt⟩:=hq
      have hzv:=opd_ok hr z
      have hzv:a.eval z=.int .i64 (gd (opd σ z).p 0).int:=by
       generalize opd σ z=q at *
       obtain ⟨sh,p⟩:=q
       simp only at hsz
       subst hsz
       have hzv:VD P w g.prot (.int .i64) (gd p 0) (a.eval z):=hzv
       generalize a.eval z=uz at *
       cases hzv
       rfl
      exact fin ((hcall _ _ _ hcl).x hx) hdt (by simpa using hpt) (cs2:= []) (B2:=none) hr hown (.inl ⟨rfl,hzv,rfl⟩) (by simp [zRows]) (fun b _ h=>by cases h) (fun i' j s hi _=>by simp [zRows] at hi)
    ·cases h
   ·rename_i t2 e2 hsz
    split at h
    ·rename_i r ok hcl
     cases hq:(r.sh.isX&&e==e2&&deepT t&&deepT t2&&t2 != t&&t.1 != 1000001&&t2.1 != 1000001) with
     | false=>rw [hq] at h; cases h
     | true =>
      rw [hq,cond_true] at h
      simp only [Option.some.injEq,Prod.mk.injEq] at h
      obtain ⟨rfl,rfl⟩:=h
      simp only [Bool.and_eq_true] at hq
      obtain ⟨⟨⟨⟨⟨⟨hx,hee⟩,hdt⟩,hdt2⟩,hne⟩,hpt⟩,hpt2⟩:=hq
      have hee:e=e2:=by simpa using hee
      subst hee
      have hne:t≠t2:=Ne.symm (show t2≠t by simpa using hne)
      have hpt:t.1≠1000001:=by simpa using hpt
      have hpt2:t2.1≠1000001:=by simpa using hpt2
      have hzv:=opd_ok hr z
      have hzv:VC P w g base (.own t2 true e) (gd (opd σ z).p 0) (a.eval z):=by
       generalize opd σ z=q at *
       obtain ⟨sh,p⟩:=q
       simp only at hsz
       subst hsz
       exact hzv
      obtain ⟨row',hrow',hown2⟩:=hzv
      rw [hrow] at hrow'; injection hrow' with hrow'; subst hrow'
      obtain ⟨cs2,B2,k1,k2,k3,k4⟩:=own_ownX hrow hown2
      have hS:=(hcall _ _ _ hcl).x hx
      let n0:=(gd (opd σ (.tmp i)).p 0).rows.length
      let fm:List (Nat × Nat)→List (Nat × Nat):=fun π=>match π with
       | [] => []
       | (i,j)::r=>(n0+i,j)::r
      have main:∀ {g₀:G} {σ₀:St},Rel P w g₀ base σ₀ a→OwnV P w g₀ base t true e row (gd (opd σ (.tmp i)).p 0).rows (a.eval (.tmp i))→(∀ b₂,g₀.owner b₂=some (.inr t2)→w.heap.size≤b₂∨b₂≠g₀.ρ t)→(∀ b₂,g₀.owner b₂=g.owner b₂∧g₀.path b₂=g.path b₂∧g₀.need b₂=g.need b₂∧g₀.prot b₂=g.prot b₂)→g₀.ρ t2=g.ρ t2 →
        Goes P base (((σ₀.map (dropC t2)).map (dropC t)).put o.dst (.c (.own t true e) (gd r.p 0))) o a w:=by
       intro g₀ σ₀ hr₀ hown₀ hρt hsame hρ'
       obtain ⟨hk1,hr1⟩:=move_kept (t:=t2) (s:=t) (f:=fm) (top:=none) hr₀ hpt2 hpt
       have hown1:=move_own (s:=t) (f:=fm) (top:=none) hr₀ hpt2 hpt hne hrow hown₀
       refine fin hS hdt hpt (cs2:=cs2) (B2:=B2) hr1 hown1 (.inr ⟨rfl,k1⟩) k1.1 (fun b hb h2=>?_) (fun i' j s hi hs=>?_)
       ·obtain ⟨q1,q2,q3,q4,q5⟩:=k2 b h2
        have hob:g₀.owner b=some (.inr t2):=(hsame b).1.trans q3
        change (if g₀.owner b=some (.inr t2) then _ else _)=_ at hb
        rw [if_pos hob,if_pos (by rw [hρ']; exact q1)] at hb
        simp only [Option.isSome_none,Bool.false_eq_true,if_false] at hb
        injection hb with hb; injection hb with hb
        exact hne hb.symm
       ·obtain ⟨u,z1,z2⟩:=k4 i' j s hi hs
        refine ⟨u,z1,?_⟩
        have:=TR.mono fm (fun π x hπ=>by cases π with | nil=>exact absurd rfl hπ | cons p r=>rfl) (z2.tr hdt2) (w':=w) (lab':=labOf base (moveG g₀ t2 t fm none) t) (fun b₂ π n o₂ hπ hl ho₂=>⟨ho₂,by
         obtain ⟨l0,l1,l2,l3,l4,l5⟩:=hl
         obtain ⟨m1,m2,m3,m4⟩:=hsame b₂
         have l1':g₀.owner b₂=some (.inr t2):=m1.trans l1
         have l2':b₂≠g₀.ρ t2:=by rw [hρ']; exact l2
         refine ⟨l0,?_,(hρt b₂ l1').resolve_left (by have:=lt_of_heap ho₂; omega),?_,?_,m4.trans l5⟩
         ·show (if g₀.owner b₂=some (.inr t2) then _ else _)=_
          rw [if_pos l1',if_neg l2']
         ·show (if g₀.owner b₂=some (.inr t2) then _ else _)=_
          rw [if_pos l1',if_neg l2',m2,l3]
         ·show (if g₀.owner b₂=some (.inr t2)∧b₂=g₀.ρ t2 then _ else _)=_
          rw [if_neg (fun e=>l2' e.2),m3]; exact l4⟩) (by simp)
        exact this
      rcases hown with hown' | hown'
      ·have k:=main (rho_drop hr t hpt w.heap.size) (.inl ⟨hown'.1,hown'.2.1,hown'.2.2⟩) (fun b₂ _=>by
        show _∨b₂≠(if t=t then w.heap.size else _)
        rw [if_pos rfl]; omega) (fun _=>⟨rfl,rfl,rfl,rfl⟩) (if_neg (Ne.symm hne))
       have e1:((σ.map (dropC t)).map (dropC t2)).map (dropC t)=(σ.map (dropC t2)).map (dropC t):=drop_swap t t2 σ
       rw [e1] at k
       exact k
      ·exact main hr (.inr hown') (fun b₂ ho₂=>.inr fun e=>by
        obtain ⟨cap,arr,E,h1,h2,h3,h4,h5,rest⟩:=hown'
        rw [e,h5] at ho₂; injection ho₂ with ho₂; injection ho₂ with ho₂; exact hne ho₂) (fun _=>⟨rfl,rfl,rfl,rfl⟩) rfl
    ·cases h
   ·cases h
  ·cases h
 ·cases h
theorem evNew_ok (hr:Rel P w g base σ a) {call:FuncId→List T→Option (T × Bool)} (hcall:CallOk P call) {o:Oper} {σ':St} {d:Nat} {f:Operand} {xs:Array Operand} {ts0:Array TypeId} {tys:List TypeId} (ho:o.op=.call { callee:=.value f,args:=xs,argTypes:=ts0 }) (hdst:o.dst=some d) (hd:∀ d,o.dst=some d→d<a.tmps.size)
  (h:evNew P call σ d f xs.toList tys=some (σ',true)):Goes P base σ' o a w:=by
 unfold evNew at h
 split at h
 ·rename_i fid hsh
  split at h
  ·rename_i vs hvs
   split at h
   ·rename_i r ok hcl
    split at h
    ·rename_i cs hrs
     cases hall:(cs.all Ce.isD) with
     | false=>rw [hall] at h; cases h
     | true =>
      rw [hall,cond_true] at h
      simp only [Option.some.injEq,Prod.mk.injEq] at h
      obtain ⟨rfl,rfl⟩:=h
      let ts:List Tok:=(xs.toList.map (opd σ)).flatMap (argToks σ)
      obtain ⟨k1,k2⟩:=evArgsN_ok (ts:=ts) hr hvs (fun t h=>List.contains_iff_mem.2 h)
      have hfv:=opd_ok hr f
      have hfv:VC P w g base (.fn fid []) (gd (opd σ f).p 0) (a.eval f):=by
       generalize opd σ f=q at *
       obtain ⟨sh,p⟩:=q
       simp only at hsh
       subst hsh
       exact hfv
      obtain ⟨carr,hfe,hcl1,_⟩:=hfv
      have hc0:carr = #[]:=by simpa using hcl1
      subst hc0
      have hS:=(hcall _ _ _ hcl).nw (by rw [hrs]; rfl)
      obtain ⟨hen,hcalls,_⟩:=hS
      have hargs:ArgsV P (sealG g ts).prot w vs (xs.map a.eval):=by
       refine ⟨by simp [k1],fun j t hj=>?_⟩
       obtain ⟨x,hx,hxv⟩:=k2 j t hj
       refine ⟨a.eval x,?_,hxv⟩
       rw [Array.getElem?_map]
       have:xs[j]?=some x:=by simpa using hx
       rw [this]; rfl
      have hfr:∀ b,w.heap.size≤b→(sealG g ts).prot b=0:=fun b hb=>((hr.seal ts).fresh b hb).1
      intro K Q hK
      unfold Oper.wp
      have hrun:(execOp a.eval o).run P w=.ok (.enter fid (xs.map a.eval)) w:=by
       simp only [execOp,ho,resolve,hfe,Deferred.ofValue,Sem.run_bind,Sem.run_pure,Result.andThen_ok,invoke]
       simpa using hen (xs.map a.eval) w
      rw [hrun]
      refine (hcalls cs hrs w _ _ hargs hfr).mono ?_
      rintro e w' ⟨b0,prot',rfl,hbel,hge,hp1,hp2,hp3,arr,E,hh,hsz,hcells⟩
      have hdn:d<a.tmps.size:=hd d hdst
      have hrsl:=hr.seal ts
      let g2:G:={ prot:=fun b=>if b<w.heap.size then (sealG g ts).prot b else prot' b,owner:=fun b=>if b<w.heap.size then (sealG g ts).owner b else if b=b0 then some (.inl d) else none, θ:=fun id=>if id=d then b0 else (sealG g ts).θ id,ρ:=(sealG g ts).ρ,len:=(sealG g ts).len,wid:=(sealG g ts).wid,ety:=(sealG g ts).ety,path:=(sealG g ts).path,need:=(sealG g ts).need,old:=(sealG g ts).old }
      have hb0:b0<w'.heap.size:=lt_of_heap hh
      have hE:Ext (some d) (sealG g ts) g2 w w':=by
       refine ⟨hbel.size,fun id h=>if_neg (fun e=>h (by rw [e])),fun t _=>⟨rfl,rfl,rfl,rfl⟩,fun b h=>if_pos h,fun b h=>if_pos h,fun b h=>hbel.block b h,fun b h=>⟨rfl,rfl⟩,rfl,fun b t hge' h=>?_⟩
       change (if b<w.heap.size then _ else if b=b0 then some (Sum.inl d) else none)=_ at h
       rw [if_neg (by omega)] at h
       split at h <;> cases h
      have hF:∀ b,w'.heap.size≤b→g2.prot b=0∧g2.owner b=none:=fun b hb=>by
       have:=hbel.size
       refine ⟨by show (if b<w.heap.size then _ else _)=_; rw [if_neg (by omega)]; exact hp3 b hb,?_⟩
       show (if b<w.heap.size then _ else if b=b0 then some (Sum.inl d) else none)=_
       rw [if_neg (by omega),if_neg (by omega)]
      have hprot:∀ b,g2.prot b=prot' b:=fun b=>by
       show (if b<w.heap.size then _ else _)=_
       split
       ·rename_i h; exact (hp1 b h).symm
       ·rfl
      have hbox:BoxV P w' g2 base d cs (sub r.p 0 cs.length):=by
       have hθ:g2.θ d=b0:=if_pos rfl
       refine ⟨by rw [hθ]; exact Nat.le_trans hr.base_le hge,?_,by rw [hθ,hprot]; exact hp2,sub_length _ _ _,arr,E,by rw [hθ]; exact hh,hsz,fun j c hc=>?_⟩
       ·rw [hθ]
        show (if b0<w.heap.size then _ else if b0=b0 then some (Sum.inl d) else none)=_
        rw [if_neg (by omega),if_pos rfl]
       ·have hjl:=(List.getElem?_eq_some_iff.1 hc).1
        have hcd:=List.all_eq_true.1 hall c (List.mem_of_getElem? hc)
        cases c with
        | d s =>
         obtain ⟨u,u1,u2⟩:=hcells j s hc
         refine ⟨u,u1,?_⟩
         rw [gd_sub _ _ _ _ hjl,Nat.zero_add]
         show VD P w' g2.prot s _ u
         exact u2.mono fun b o z h1 h2=>⟨h2,by rw [hprot]; exact h1⟩
        | _=>cases hcd
      have hrel:=hrsl.wipeBox hdn hE hF hbox
      have:=hrel.put hd (dst:=o.dst) (t:=.c (.ptr d 0) D0) (v:=.pointer (some ⟨b0,0,none⟩)) (by
       show Value.pointer _=Value.pointer (some ⟨g2.θ d,0,none⟩)
       rw [show g2.θ d=b0 from if_pos rfl])
      exact hK _ w' g2 (by rw [hdst] at this ⊢; exact this) (hbel.mono hr.base_le)
    ·cases h
   ·cases h
  ·cases h
 ·cases h
theorem thr_get:∀ {cs az:List Ce} {p q:List D},az.length=cs.length→(thrC cs az).length=cs.length∧∀ (j:Nat) c,(thrC cs az)[j]?=some c→∃ c0 a,cs[j]?=some c0∧az[j]?=some a∧((c0=.any∧c=a∧gd (thrD cs p q) j=gd q j)∨(c0≠.any∧c=c0∧gd (thrD cs p q) j=gd p j))
 | [],[],p,q,_=>⟨rfl,fun j c h=>by simp [thrC] at h⟩
 | [],_::_,p,q,h=>by simp at h
 | _::_,[],p,q,h=>by simp at h
 | c0::cs,a::az,p,q,h=>by
  obtain ⟨k1,k2⟩:=thr_get (cs:=cs) (az:=az) (p:=p.tail) (q:=q.tail) (by simpa using h)
  by_cases hc:c0=.any
  ·subst hc
   refine ⟨by simp [thrC,k1],fun j c hj=>?_⟩
   cases j with
   | zero =>
    have:a=c:=by simpa [thrC] using hj
    exact ⟨.any,a,rfl,rfl,.inl ⟨rfl,this.symm,rfl⟩⟩
   | succ j =>
    obtain ⟨c1,a1,h1,h2,h3⟩:=k2 j c (by simpa [thrC] using hj)
    refine ⟨c1,a1,by simpa using h1,by simpa using h2,?_⟩
    rw [gd_tail,gd_tail] at h3
    exact h3
  ·have e1:thrC (c0::cs) (a::az)=c0::thrC cs az:=by cases c0 <;> first | (exact absurd rfl hc) | rfl
   have e2:thrD (c0::cs) p q=gd p 0::thrD cs p.tail q.tail:=by cases c0 <;> first | (exact absurd rfl hc) | rfl
   rw [e1,e2]
   refine ⟨by simp [k1],fun j c hj=>?_⟩
   cases j with
   | zero =>
    have:c0=c:=by simpa using hj
    exact ⟨c0,a,rfl,rfl,.inr ⟨hc,this.symm,rfl⟩⟩
   | succ j =>
    obtain ⟨c1,a1,h1,h2,h3⟩:=k2 j c (by simpa using hj)
    refine ⟨c1,a1,by simpa using h1,by simpa using h2,?_⟩
    rw [gd_tail,gd_tail] at h3
    exact h3
theorem evT_ok (hr:Rel P w g base σ a) {call:FuncId→List T→Option (T × Bool)} (hcall:CallOk P call) {o:Oper} {σ':St} {d:Nat} {f:Operand} {xs:Array Operand} {ts0:Array TypeId} {tys:List TypeId} (ho:o.op=.call { callee:=.value f,args:=xs,argTypes:=ts0 }) (hdst:o.dst=some d) (hd:∀ d,o.dst=some d→d<a.tmps.size)
  (h:evT P call σ d f xs.toList tys=some (σ',true)):Goes P base σ' o a w:=by
 unfold evT at h
 split at h
 ·rename_i fid x xr hsh hxs0
  split at h
  ·rename_i vs hvs
   split at h
   ·rename_i r ok hcl
    split at h
    ·rename_i cs az hrs hxa
     cases hq:(cs.all Ce.thr&&az.length==cs.length) with
     | false=>rw [hq] at h; cases h
     | true =>
      rw [hq,cond_true] at h
      simp only [Option.some.injEq,Prod.mk.injEq] at h
      obtain ⟨rfl,rfl⟩:=h
      simp only [Bool.and_eq_true,beq_iff_eq] at hq
      obtain ⟨hall,hlen⟩:=hq
      let ts:List Tok:=(xs.toList.map (opd σ)).flatMap (argToks σ)
      obtain ⟨k1,k2⟩:=evArgsN_ok (ts:=ts) hr hvs (fun t h=>List.contains_iff_mem.2 h)
      have hfv:=opd_ok hr f
      have hfv:VC P w g base (.fn fid []) (gd (opd σ f).p 0) (a.eval f):=by
       generalize opd σ f=q at *
       obtain ⟨sh,p⟩:=q
       simp only at hsh
       subst hsh
       exact hfv
      obtain ⟨carr,hfe,hcl1,_⟩:=hfv
      have hc0:carr = #[]:=by simpa using hcl1
      subst hc0
      have hS:=(hcall _ _ _ hcl).nw (by rw [hrs]; rfl)
      obtain ⟨hen,_,hcalls⟩:=hS
      have hargs:ArgsV P (sealG g ts).prot w vs (xs.map a.eval):=by
       refine ⟨by simp [k1],fun j t hj=>?_⟩
       obtain ⟨x,hx,hxv⟩:=k2 j t hj
       refine ⟨a.eval x,?_,hxv⟩
       rw [Array.getElem?_map]
       have:xs[j]?=some x:=by simpa using hx
       rw [this]; rfl
      have hfr:∀ b,w.heap.size≤b→(sealG g ts).prot b=0:=fun b hb=>((hr.seal ts).fresh b hb).1
      intro K Q hK
      unfold Oper.wp
      have hrun:(execOp a.eval o).run P w=.ok (.enter fid (xs.map a.eval)) w:=by
       simp only [execOp,ho,resolve,hfe,Deferred.ofValue,Sem.run_bind,Sem.run_pure,Result.andThen_ok,invoke]
       simpa using hen (xs.map a.eval) w
      rw [hrun]
      refine (hcalls cs hrs w _ _ hargs hfr).mono ?_
      rintro e w' ⟨us,prot',rfl,hbel,hp1,hp3,hsz,hcells⟩
      have hdn:d<a.tmps.size:=hd d hdst
      have hrsl:=hr.seal ts
      let g2:G:={ prot:=fun b=>if b<w.heap.size then (sealG g ts).prot b else prot' b,owner:=fun b=>if b<w.heap.size then (sealG g ts).owner b else none, θ:=(sealG g ts).θ,ρ:=(sealG g ts).ρ,len:=(sealG g ts).len,wid:=(sealG g ts).wid,ety:=(sealG g ts).ety,path:=(sealG g ts).path,need:=(sealG g ts).need,old:=(sealG g ts).old }
      have hE:Ext (some d) (sealG g ts) g2 w w':=by
       refine ⟨hbel.size,fun id h=>rfl,fun t _=>⟨rfl,rfl,rfl,rfl⟩,fun b h=>if_pos h,fun b h=>if_pos h,fun b h=>hbel.block b h,fun b h=>⟨rfl,rfl⟩,rfl,fun b t hge' h=>?_⟩
       change (if b<w.heap.size then _ else none)=_ at h
       rw [if_neg (by omega)] at h
       cases h
      have hF:∀ b,w'.heap.size≤b→g2.prot b=0∧g2.owner b=none:=fun b hb=>by
       have:=hbel.size
       refine ⟨by show (if b<w.heap.size then _ else _)=_; rw [if_neg (by omega)]; exact hp3 b hb,?_⟩
       show (if b<w.heap.size then _ else none)=_
       rw [if_neg (by omega)]
      have hprot:∀ b,g2.prot b=prot' b:=fun b=>by
       show (if b<w.heap.size then _ else _)=_
       split
       ·rename_i h; exact (hp1 b h).symm
       ·rfl
      have hrel:=hrsl.wipeRow hdn hE rfl hF
      have hxv:=opd_ok hrel x
      have hqs:(opd ((σ.seal ts).wipe d) x).sh=.one (.agg az):=hxa
      show K _ _
      change ∀ z w' g',Rel P w' g' base (St.put ((σ.seal ts).wipe d) (some d) ⟨.one (.agg (thrC cs az)),thrD cs r.p (opd ((σ.seal ts).wipe d) x).p⟩) (a.put o.dst z)→_ at hK
      generalize opd (((σ.seal ts).wipe d)) x=q at *
      obtain ⟨qsh,qp⟩:=q
      simp only at hqs
      subst hqs
      obtain ⟨arr,hae,hvcs⟩:∃ arr,a.eval x=.agg arr∧VCs P w' g2 base az qp arr:=hxv
      obtain ⟨t1,t2⟩:=thr_get (cs:=cs) (az:=az) (p:=r.p) (q:=qp) hlen
      have hval:VT P w' g2 base ⟨.one (.agg (thrC cs az)),thrD cs r.p qp⟩ (.agg us):=by
       refine ⟨us,rfl,by rw [hsz,t1],fun j c hc=>?_⟩
       obtain ⟨c0,a0,m1,m2,m3⟩:=t2 j c hc
       obtain ⟨u,n1,n2⟩:=hcells j c0 m1
       refine ⟨u,n1,?_⟩
       rcases m3 with ⟨e1,e2,e3⟩ | ⟨e1,e2,e3⟩
       ·subst e1; subst e2
        rw [e3]
        rcases n2 with ⟨s,hs,_⟩ | ⟨_,arr',z1,z2⟩
        ·cases hs
        ·have z3:(xs.map a.eval)[0]?=some (a.eval x):=by
          rw [Array.getElem?_map]
          have:xs[0]?=some x:=by
           have:xs.toList[0]?=some x:=by rw [hxs0]; rfl
           simpa using this
          rw [this]; rfl
         rw [z3,hae] at z1
         injection z1 with z1
         injection z1 with z1
         subst z1
         obtain ⟨u',y1,y2⟩:=hvcs.2 j c m2
         rw [z2] at y1
         injection y1 with y1
         subst y1
         exact y2
       ·subst e2
        rw [e3]
        rcases n2 with ⟨s,hs,hv⟩ | ⟨hs,_⟩
        ·subst hs
         show VD P w' g2.prot s _ u
         rw [show g2.prot=prot' from funext hprot]
         exact hv
        ·exact absurd hs e1
      have:=hK (.agg us) w' g2 (by
       have:=hrel.put hd (dst:=o.dst) (t:=⟨.one (.agg (thrC cs az)),thrD cs r.p qp⟩) hval
       rw [hdst] at this ⊢
       exact this) (hbel.mono hr.base_le)
      exact this
    ·cases h
   ·cases h
  ·cases h
 ·cases h
theorem evW_ok (hr:Rel P w g base σ a) {call:FuncId→List T→Option (T × Bool)} (hcall:CallOk P call) {o:Oper} {σ':St} {f:Operand} {xs:Array Operand} {ts0:Array TypeId} {tys:List TypeId} (ho:o.op=.call { callee:=.value f,args:=xs,argTypes:=ts0 }) (hd:∀ d,o.dst=some d→d<a.tmps.size)
  (h:evW P call σ o.dst f xs.toList tys=some (σ',true)):Goes P base σ' o a w:=by
 unfold evW at h
 split at h
 ·rename_i r he
  injection h with h
  subst h
  exact evW0_ok hr hcall ho hd he
 ·split at h
  ·rename_i r he
   injection h with h
   subst h
   exact evK_ok hr hcall ho hd he
  ·split at h
   ·rename_i r he
    injection h with h
    subst h
    exact evMi_ok hr hcall ho hd he
   ·split at h
    ·rename_i r he
     injection h with h
     subst h
     exact evX_ok hr hcall ho hd he
    ·exact evM_ok hr hcall ho hd h
end
end Go.Proofs.YthbbbhpjkgpdcaaGreat
namespace Go.Proofs.YthbbbhpjkgpdcaaGreat
open Go.RowKit
section
variable [Low] {P:Program} {w w':World} {g g':G} {base:Nat} {σ:St} {a:Act}
theorem rcond_ok {c:Bool} {x y:R} {key:Option Dom} {out:Nat × List D} (h:rcond c x y=some (key,some out)):(c=true→∃ k,x=some (k,some out))∧(c=false→∃ k,y=some (k,some out)):=by
 unfold rcond at h
 split at h
 ·split at h
  ·simp only [Option.some.injEq,Prod.mk.injEq] at h
   obtain ⟨_,h⟩:=h
   cases c with
   | true=>exact ⟨fun _=>⟨_,by rw [cond_true] at h; rw [h]⟩,fun h=>by cases h⟩
   | false=>exact ⟨fun h=>(by cases h),fun _=>⟨_,by rw [cond_false] at h; rw [h]⟩⟩
  ·cases h
 ·cases h
theorem rneed_ok {c:Bool} {x:R} {key:Option Dom} {out:Nat × List D} (h:rneed c x=some (key,some out)):c=true∧x=some (key,some out):=by
 unfold rneed at h
 split at h
 ·simp only [Option.some.injEq,Prod.mk.injEq] at h
  obtain ⟨rfl,h⟩:=h
  cases c with
  | true=>rw [cond_true] at h; subst h; exact ⟨rfl,rfl⟩
  | false=>cases h
 ·cases h
theorem evOp_goes (hr:Rel P w g base σ a) {call:FuncId→List T→Option (T × Bool)} (hcall:CallOk P call) {o:Oper} {σ':St} (hd:∀ d,o.dst=some d→d<a.tmps.size) (h:evOp P call σ o=some (σ',true)):Goes P base σ' o a w:=by
 obtain ⟨dst,op,ty,pos,after,guard⟩:=o
 unfold evOp at h
 simp only at h
 split at h
 ·exact (evAlloc_ok hr rfl rfl hd h).goes
 ·exact (evBox_ok hr rfl rfl hd h).goes
 ·exact (evBuild_ok hr rfl rfl hd h).goes
 ·rename_i t n parts d
  cases hdp:deepAt call d with
  | false=>rw [hdp,cond_false] at h; exact (evBuildSlice_ok hr rfl rfl hd h).goes
  | true=>rw [hdp,cond_true] at h; exact (evBuildSliceD_ok hr rfl rfl hd h).goes
 ·exact (evMakeSlice_ok hr rfl rfl hd h).goes
 ·exact (evStore_ok hr rfl hd h).goes
 ·exact (evNil_ok hr rfl rfl hd h).goes
 ·rename_i xs ts d
  split at h
  ·rename_i x y t t' h1 h2
   cases ht:(t==t') with
   | false=>rw [ht] at h; cases h
   | true =>
    rw [ht,cond_true] at h
    have ht:t=t':=by simpa using ht
    subst ht
    have e1:xs = #[x,y]:=by cases xs; simp_all
    have e2:ts = #[t,t]:=by cases ts; simp_all
    subst e1; subst e2
    exact (evAppend_ok hr rfl rfl hd h).goes
  ·cases h
 ·rename_i f xs ts d
  split at h
  ·rename_i r he
   injection h with h
   subst h
   exact evW_ok hr hcall rfl hd he
  ·split at h
   ·rename_i r he
    injection h with h
    subst h
    exact (evCall_ok hr hcall rfl rfl hd he).goes
   ·split at h
    ·rename_i r he
     injection h with h
     subst h
     exact evNew_ok hr hcall rfl rfl hd he
    ·split at h
     ·rename_i r he
      injection h with h
      subst h
      exact evT_ok hr hcall rfl rfl hd he
     ·exact evP_ok hr hcall rfl rfl hd h
 ·simp at h
 ·simp at h
 ·exact (evPure_ok hr hd h).goes
theorem yielded_of {ops:Array Oper} {tm:Array Value} {j t:Nat} (h:(ops[j]?).bind (·.dst)=some t) (hn:t<tm.size):yielded ops tm j=match tm.getD t undef with | .bool b=>some b | _=>none:=by
 unfold yielded
 rw [h]
 simp only [Option.bind_some,Array.getElem?_eq_getElem hn,Array.getD_eq_getD_getElem?,Option.getD_some]
 cases tm[t] <;> rfl
theorem vd_bool {prot:Nat→Nat} {x:D} {v:Value} (h:VD P w prot .bool x v):v=.bool x.bool:=by
 cases h; rfl
theorem want_ok (hr:Rel P w g base σ a) {ops:Array Oper} (hops:∀ o∈ops.toList,∀ d,o.dst=some d→d<a.tmps.size) {o:Oper} :
  match want ops σ o with
  | .yes=>Region.wanted o (yielded ops a.tmps)=true
  | .no=>Region.wanted o (yielded ops a.tmps)=false
  | .ask t g b=>t<a.tmps.size∧a.tmps.getD t undef=.bool g∧Region.wanted o (yielded ops a.tmps)=(g==b)
  | .bad=>True:=by
 unfold want Region.wanted
 cases hg:o.guard with
 | none=>rfl
 | some q =>
  obtain ⟨j,b⟩:=q
  simp only
  cases hj:(ops[j]?).bind (·.dst) with
  | none=>trivial
  | some t =>
   simp only
   have ht:t<a.tmps.size:=by
    cases ho:ops[j]? with
    | none=>rw [ho] at hj; cases hj
    | some o'=>rw [ho] at hj; exact hops o' (by simpa using Array.mem_of_getElem? ho) t hj
   have hy:=yielded_of (tm:=a.tmps) hj ht
   have hv:=hr.env t
   rw [hy]
   generalize look2 t σ.e σ.r=v at *
   obtain ⟨sh,p⟩:=v
   cases sh with
   | tup xs =>
    cases xs with
    | nil =>
     obtain ⟨vs,h1,h2,_⟩:=hv
     have:vs = #[]:=by simpa using h2
     subst this
     simp only [h1]; rfl
    | cons x xs=>trivial
   | one x=>cases x with
    | agg xs=>trivial
    | c x=>cases x with
     | kb c =>
      have hv:a.tmps.getD t undef=.bool c:=hv
      simp only [hv]
      cases c <;> cases b <;> rfl
     | d s=>cases s with
      | bool =>
       have hv:VD P w g.prot .bool (gd p 0) (a.tmps.getD t undef):=hv
       have hv:=vd_bool hv
       exact ⟨ht,hv,by rw [hv]; cases (gd p 0).bool <;> cases b <;> rfl⟩
      | _=>trivial
     | _=>trivial
theorem evOps_ok {call:FuncId→List T→Option (T × Bool)} (hcall:CallOk P call) {ops:Array Oper} {k:St→R} {out:Nat × List D} {n:Nat} {Q:Exit→Act→World→Prop} {w0:World}
  (hk:∀ σ' w' g' a' key',k σ'=some (key',some out)→Rel P w' g' base σ' a'→a'.tmps.size=n→Below base w0 w'→Q .normal a' w') :
  ∀ (rest:List Oper) (σ:St) (w:World) (g:G) (a:Act) (key:Option Dom),(∀ o∈rest,∀ d,o.dst=some d→d<n)→(∀ o∈ops.toList,∀ d,o.dst=some d→d<n) →
   evOps P call ops rest σ k=some (key,some out)→Rel P w g base σ a→a.tmps.size=n→Below base w0 w→wpList P ops Q rest a w
 | [],σ,w,g,a,key,_,_,h,hr,hn,hb=>hk σ w g a key h hr hn hb
 | o::rest,σ,w,g,a,key,hrest,hops,h,hr,hn,hb=>by
  have ih:=evOps_ok hcall (ops:=ops) (Q:=Q) (w0:=w0) hk rest
  have hd:∀ d,o.dst=some d→d<a.tmps.size:=fun d hd=>by rw [hn]; exact hrest o (by simp) d hd
  have hops':∀ o∈ops.toList,∀ d,o.dst=some d→d<a.tmps.size:=fun o ho d hd=>by rw [hn]; exact hops o ho d hd
  -- the operation runs
  have yes:∀ {σ:St} {key:Option Dom},Rel P w g base σ a→evYes P call σ o (fun σ'=>evOps P call ops rest σ' k)=some (key,some out)→o.wp P a w (wpList P ops Q rest) Q:=by
   intro σ key hr h
   unfold evYes at h
   split at h
   ·rename_i σ' ok he
    obtain ⟨hok,hcont⟩:=rneed_ok h
    subst hok
    exact evOp_goes hr hcall hd he _ _ fun z w' g' hr' hb'=>ih σ' w' g' _ key (fun o ho=>hrest o (by simp [ho])) hops hcont hr' (by rw [put_size]; exact hn) (hb.trans hb')
   ·cases h
  -- it is passed over
  have no:∀ {σ:St} {key:Option Dom},Rel P w g base σ a→evOps P call ops rest (σ.put o.dst .none_) k=some (key,some out)→wpList P ops Q rest (a.put o.dst undef) w:=by
   intro σ key hr h
   exact ih _ w g _ key (fun o ho=>hrest o (by simp [ho])) hops h (hr.put hd (t:=.none_) ⟨#[],rfl,rfl,fun j x h=>by simp at h⟩) (by rw [put_size]; exact hn) hb
  have hw:=want_ok hr hops' (o:=o)
  unfold evOps evStep evStepG at h
  unfold wpList
  cases hq:want ops σ o with
  | yes =>
   rw [hq] at h hw
   simp only at h hw
   rw [if_pos hw]
   exact .inl (yes hr h)
  | no =>
   rw [hq] at h hw
   simp only at h hw
   rw [if_neg (by simp [hw])]
   exact no hr h
  | ask t gg b =>
   rw [hq] at h hw
   simp only at h hw
   obtain ⟨ht,hv,hw⟩:=hw
   obtain ⟨h1,h2⟩:=rcond_ok h
   have hkb:∀ c:Bool,gg=c→Rel P w g base (σ.put (some t) (.c (.kb c) D0)) a:=fun c hc=>by
    have:=hr.put (dst:=some t) (fun d hd=>by injection hd with hd; subst hd; exact ht) (t:=.c (.kb c) D0) (v:=.bool gg) (by rw [hc]; exact rfl)
    have e:a.put (some t) (.bool gg)=a:=by
     rw [← hv]
     obtain ⟨tm,df⟩:=a
     simp only [Act.put]
     congr 1
     refine Array.ext_getElem? fun i=>?_
     rw [Array.getElem?_setIfInBounds]
     split
     ·rename_i e
      subst e
      have ht':t<tm.size:=ht
      first
       | exact (Array.getElem?_eq_getElem ht').symm
       | (rw [if_pos ht',Array.getD_eq_getD_getElem?,Array.getElem?_eq_getElem ht']; rfl)
     ·rfl
    rwa [e] at this
   cases gg with
   | true =>
    obtain ⟨k',h1⟩:=h1 rfl
    have hr':=hkb true rfl
    cases b with
    | true =>
     rw [if_pos (by rw [hw]; rfl)]
     exact .inl (yes hr' h1)
    | false =>
     rw [if_neg (by rw [hw]; decide)]
     exact no hr' h1
   | false =>
    obtain ⟨k',h2⟩:=h2 rfl
    have hr':=hkb false rfl
    cases b with
    | true =>
     rw [if_neg (by rw [hw]; decide)]
     exact no hr' h2
    | false =>
     rw [if_pos (by rw [hw]; rfl)]
     exact .inl (yes hr' h2)
  | bad=>rw [hq] at h; cases h
theorem look_eput (i:Nat) (v:T):∀ (e:Env) (j:Nat),look j (eput i v e)=if j=i then v else look j e
 | [],j=>by
  by_cases h:j=i
  ·subst h; simp [eput,look]
  ·simp only [eput,look]; rw [if_neg h,show (j==i)=false from by simpa using h]; rfl
 | (k,u)::e,j=>by
  unfold eput
  by_cases hk:i=k
  ·subst hk
   simp only [beq_self_eq_true,cond_true,look]
   by_cases h:j=i
   ·subst h; simp
   ·rw [if_neg h,show (j==i)=false from by simpa using h]; rfl
  ·rw [show (i==k)=false from by simpa using hk,cond_false]
   simp only [look]
   rw [look_eput i v e j]
   by_cases h:j=k
   ·subst h
    simp only [beq_self_eq_true,cond_true]
    rw [if_neg (fun e=>hk e.symm)]
   ·rw [show (j==k)=false from by simpa using h]; rfl
theorem look_edrop (i:Nat):∀ (e:Env) (j:Nat),look j (edrop i e)=if j=i then .any else look j e
 | [],j=>by simp [edrop,look]
 | (k,u)::e,j=>by
  unfold edrop
  by_cases hk:i=k
  ·subst hk
   simp only [beq_self_eq_true,cond_true,look]
   rw [look_edrop i e j]
   by_cases h:j=i
   ·subst h; simp
   ·rw [if_neg h,if_neg h,show (j==i)=false from by simpa using h]; rfl
  ·rw [show (i==k)=false from by simpa using hk,cond_false]
   simp only [look]
   rw [look_edrop i e j]
   by_cases h:j=k
   ·subst h
    simp only [beq_self_eq_true,cond_true]
    rw [if_neg (fun e=>hk e.symm)]
   ·rw [show (j==k)=false from by simpa using h]; rfl
theorem look_settle (ks:List Nat) (e:Env) (j:Nat):∀ (r:Env),look j (settleE ks e r)=look2 j e r∨look j (settleE ks e r)=.any
 | []=>.inl rfl
 | (i,v)::r=>by
  unfold settleE look2
  by_cases h:j=i
  ·subst h
   cases ks.contains j with
   | true=>rw [cond_true,look_eput,if_pos rfl]; simp
   | false=>rw [cond_false,look_edrop,if_pos rfl]; exact .inr rfl
  ·rw [show (j==i)=false from by simpa using h,cond_false]
   cases ks.contains i with
   | true=>rw [cond_true,look_eput,if_neg h]; exact look_settle ks e j r
   | false=>rw [cond_false,look_edrop,if_neg h]; exact look_settle ks e j r
theorem toData1_r {σ:St} (h:σ.r = []) (i:Nat):(σ.toData1 i).r = []:=by
 unfold St.toData1
 split
 ·show List.map _ σ.r = []
  rw [h]; rfl
 ·exact h
theorem toData_r {σ:St} (h:σ.r = []):∀ is:List Nat,(σ.toData is).r = []
 | []=>h
 | i::is=>toData1_r (toData_r h is) i
theorem Rel.toData1 (hr:Rel P w g base σ a) (hσ:σ.r = []) (i:Nat):∃ g',Rel P w g' base (σ.toData1 i) a:=by
 unfold St.toData1
 split
 ·rename_i t x e hsh
  have hs:=hr.seal [t]
  refine ⟨sealG g [t],fun j=>?_,hs.box,hs.fresh,hs.base_le,hs.defers,hs.low,hs.mine⟩
  have hrn:(σ.map (sealC [t])).r = []:=by show List.map _ σ.r = []; rw [hσ]; rfl
  have hj:=hs.env j
  change VT P w _ base (look2 j (σ.map (sealC [t])).e (σ.map (sealC [t])).r) _ at hj
  rw [hrn] at hj
  show VT P w _ base (look2 j (eput i _ (σ.map (sealC [t])).e) (σ.map (sealC [t])).r) _
  rw [hrn]
  change VT P w _ base (look j (σ.map (sealC [t])).e) _ at hj
  show VT P w _ base (look j (eput i _ (σ.map (sealC [t])).e)) _
  rw [look_eput]
  by_cases hji:j=i
  ·subst hji
   rw [if_pos rfl]
   have e1:look j (σ.map (sealC [t])).e=⟨(look j σ.e).sh.map (sealC [t]),(look j σ.e).p⟩:=look_map (fun t'=>(⟨t'.sh.map (sealC [t]),t'.p⟩:T)) (by simp [Sh.map,Sh1.map,sealC]) σ.e j
   rw [e1,hsh] at hj
   have hj:VC P w (sealG g [t]) base (.own t (x && !([t]:List Tok).contains t) e) (gd (look j σ.e).p 0) (a.tmps.getD j undef):=hj
   have hx:(x && !([t]:List Tok).contains t)=false:=by simp
   rw [hx] at hj
   obtain ⟨row,h1,h2⟩:=hj
   exact own_vd' h1 h2
  ·rw [if_neg hji]; exact hj
 ·exact ⟨g,hr⟩
theorem Rel.toData (hr:Rel P w g base σ a) (hσ:σ.r = []):∀ is:List Nat,∃ g',Rel P w g' base (σ.toData is) a
 | []=>⟨g,hr⟩
 | i::is=>by
  obtain ⟨g1,h1⟩:=Rel.toData hr hσ is
  exact h1.toData1 (toData_r hσ is) i
def renG (g:G) (s s':Tok):G:=
 { g with owner:=fun b=>if g.owner b=some (.inr s) then some (.inr s') else if g.owner b=some (.inr s') then none else g.owner b,ρ:=fun u=>if u=s' then g.ρ s else g.ρ u,len:=fun u=>if u=s' then g.len s else g.len u,wid:=fun u=>if u=s' then g.wid s else g.wid u,ety:=fun u=>if u=s' then g.ety s else g.ety u }
theorem ren_owner {s s' t:Tok} (hs:t≠s) (hs':t≠s') {b:Nat} (h:g.owner b=some (.inr t)):(renG g s s').owner b=some (.inr t):=by
 show (if g.owner b=some (.inr s) then _ else if g.owner b=some (.inr s') then _ else _)=_
 rw [if_neg (by rw [h]; intro e; injection e with e; injection e with e; exact hs e),if_neg (by rw [h]; intro e; injection e with e; injection e with e; exact hs' e),h]
theorem ren_own {s s' t:Tok} (hs:t≠s) (hs':t≠s') {xm:Bool} {e:TypeId} {row:List S} {rows:List (List D)} {v:Value} (h:OwnV P w g base t xm e row rows v):OwnV P w (renG g s s') base t xm e row rows v:=by
 have e1:(renG g s s').ρ t=g.ρ t:=if_neg hs'
 have e2:(renG g s s').len t=g.len t:=if_neg hs'
 have e3:(renG g s s').wid t=g.wid t:=if_neg hs'
 have e4:(renG g s s').ety t=g.ety t:=if_neg hs'
 rcases h with ⟨h0,h1,h2⟩ | ⟨cap,arr,E,h1,h2,h3,h4,h5,h6,h7,h8,h9,h10,h11⟩
 ·exact .inl ⟨h0,by rw [e2]; exact h1,h2⟩
 ·refine .inr ⟨cap,arr,E,by rw [e1]; exact h1,h2,by rw [e4]; exact h3,by rw [e1]; exact h4,by rw [e1]; exact ren_owner hs hs' h5,by rw [e1]; exact h6,h7,by rw [e2]; exact h8,by rw [e3]; exact h9,by rw [e1,e2,e3]; exact h10,fun i j z hi hz=>?_⟩
  obtain ⟨u,k1,k2⟩:=h11 i j z hi hz
  exact ⟨u,k1,k2.mono rfl (fun b o z h1 h2=>⟨h2,h1⟩) (fun _ b o h0 ho hne hb=>⟨hb,h0,ren_owner hs hs' ho,by rw [e1]; exact hne,rfl,rfl,id⟩)⟩
theorem ren_self {s s':Tok} (hne:s≠s') (hd:deepT s'=deepT s) {xm:Bool} {e:TypeId} {row:List S} {rows:List (List D)} {v:Value} (h:OwnV P w g base s xm e row rows v):OwnV P w (renG g s s') base s' xm e row rows v:=by
 have e1:(renG g s s').ρ s'=g.ρ s:=if_pos rfl
 have e2:(renG g s s').len s'=g.len s:=if_pos rfl
 have e3:(renG g s s').wid s'=g.wid s:=if_pos rfl
 have e4:(renG g s s').ety s'=g.ety s:=if_pos rfl
 have ho:∀ {b:Nat},g.owner b=some (.inr s)→(renG g s s').owner b=some (.inr s'):=fun h=>if_pos h
 rcases h with ⟨h0,h1,h2⟩ | ⟨cap,arr,E,h1,h2,h3,h4,h5,h6,h7,h8,h9,h10,h11⟩
 ·exact .inl ⟨h0,by rw [e2]; exact h1,h2⟩
 ·refine .inr ⟨cap,arr,E,by rw [e1]; exact h1,h2,by rw [e4]; exact h3,by rw [e1]; exact h4,by rw [e1]; exact ho h5,by rw [e1]; exact h6,h7,by rw [e2]; exact h8,by rw [e3]; exact h9,by rw [e1,e2,e3]; exact h10,fun i j z hi hz=>?_⟩
  obtain ⟨u,k1,k2⟩:=h11 i j z hi hz
  exact ⟨u,k1,k2.mono (by rw [hd]) (fun b o z h1 h2=>⟨h2,h1⟩) (fun _ b o h0 ho' hne hb=>⟨hb,h0,ho ho',by rw [e1]; exact hne,rfl,rfl,id⟩)⟩
theorem ren_kept {s s':Tok} (hne:s≠s') (hd:deepT s'=deepT s):Kept P base g (renG g s s') w w (renC s s'):=by
 intro c x v hv
 cases c with
 | own t xm e =>
  obtain ⟨row,hr,hv⟩:=hv
  change VC P w _ base (bif t==s then .own s' xm e else bif t==s' then (bif xm then .any else .d (.sl e)) else .own t xm e) x v
  by_cases ht:t=s
  ·subst ht
   rw [show (t==t)=true from by simp,cond_true]
   exact ⟨row,hr,ren_self hne hd hv⟩
  ·rw [show (t==s)=false from by simpa using ht,cond_false]
   by_cases ht':t=s'
   ·rw [show (t==s')=true from by simpa using ht',cond_true]
    cases xm with
    | true=>trivial
    | false=>show VD P w g.prot (.sl e) x v; exact own_vd' hr hv
   ·rw [show (t==s')=false from by simpa using ht',cond_false]
    exact ⟨row,hr,ren_own ht ht' hv⟩
 | eptr tk e off =>
  cases tk with
  | none=>exact hv
  | some t =>
   change VC P w _ base (bif t==s then .eptr (some s') e off else bif t==s' then .any else .eptr (some t) e off) x v
   obtain ⟨row,h1,h2,h3,u,h4⟩:=hv
   by_cases ht:t=s
   ·subst ht
    rw [show (t==t)=true from by simp,cond_true]
    exact ⟨row,h1,by rw [show (renG g t s').ρ s'=g.ρ t from if_pos rfl]; exact h2,h3,u,ren_self hne hd h4⟩
   ·rw [show (t==s)=false from by simpa using ht,cond_false]
    by_cases ht':t=s'
    ·rw [show (t==s')=true from by simpa using ht']; trivial
    ·rw [show (t==s')=false from by simpa using ht',cond_false]
     exact ⟨row,h1,by rw [show (renG g s s').ρ t=g.ρ t from if_neg ht']; exact h2,h3,u,ren_own ht ht' h4⟩
 | inn t e off ei =>
  change VC P w _ base (bif t==s then .inn s' e off ei else bif t==s' then .any else .inn t e off ei) x v
  by_cases ht:t=s
  ·subst ht
   rw [show (t==t)=true from by simp,cond_true]
   obtain ⟨row,h1,⟨u,h5⟩,⟨h0,h2,h3,h4,arr,E,h6,h7⟩ | ⟨h0,h2,h3⟩⟩:=hv
   ·exact ⟨row,h1,⟨u,ren_self hne hd h5⟩,.inl ⟨h0,h2,by rw [hd]; exact h3,h4,arr,E,by rw [show (renG g t s').ρ s'=g.ρ t from if_pos rfl]; exact h6,h7⟩⟩
   ·exact ⟨row,h1,⟨u,ren_self hne hd h5⟩,.inr ⟨h0,h2,by rw [show (renG g t s').ρ s'=g.ρ t from if_pos rfl]; exact h3⟩⟩
  ·rw [show (t==s)=false from by simpa using ht,cond_false]
   by_cases ht':t=s'
   ·rw [show (t==s')=true from by simpa using ht']; trivial
   ·rw [show (t==s')=false from by simpa using ht',cond_false]
    obtain ⟨row,h1,⟨u,h5⟩,⟨h0,h2,h3,h4,arr,E,h6,h7⟩ | ⟨h0,h2,h3⟩⟩:=hv
    ·exact ⟨row,h1,⟨u,ren_own ht ht' h5⟩,.inl ⟨h0,h2,h3,h4,arr,E,by rw [show (renG g s s').ρ t=g.ρ t from if_neg ht']; exact h6,h7⟩⟩
    ·exact ⟨row,h1,⟨u,ren_own ht ht' h5⟩,.inr ⟨h0,h2,by rw [show (renG g s s').ρ t=g.ρ t from if_neg ht']; exact h3⟩⟩
 | fn f caps =>
  obtain ⟨arr,h1,h2,h3⟩:=hv
  refine ⟨arr,h1,h2,fun j c hc=>?_⟩
  obtain ⟨u,hu,hcap⟩:=h3 j c hc
  refine ⟨u,hu,?_⟩
  cases c <;> exact hcap
 | _=>exact hv
theorem Rel.renTo (hr:Rel P w g base σ a) {s s':Tok} (hne:s≠s') (hp:s.1≠1000001) (hp':s'.1≠1000001) (hd:deepT s'=deepT s):∃ g',Rel P w g' base (σ.map (renC s s')) a:=by
 have hk:=ren_kept (P:=P) (w:=w) (g:=g) (base:=base) hne hd
 have hno:∀ {b:Nat},(∀ t,g.owner b≠some (.inr t))→(renG g s s').owner b=g.owner b:=fun h=>by
  show (if _ then _ else if _ then _ else _)=_
  rw [if_neg (h s),if_neg (h s')]
 refine ⟨renG g s s',fun j=>hr.envMap hk rfl j,fun id cs ds hl=>hr.boxMap hk hl fun cs ds hq=>?_,fun b hb=>?_,hr.base_le,hr.defers,⟨hr.low.1,fun b hb=>?_,fun t y hy=>?_⟩,fun b t ht ho=>?_⟩
 ·obtain ⟨q1,q2,_⟩:=hr.box id cs ds hq
  exact ⟨rfl,hno (fun t=>by rw [q2]; simp),rfl,rfl⟩
 ·obtain ⟨q1,q2⟩:=hr.fresh b hb
  exact ⟨q1,by rw [hno (fun t=>by rw [q2]; simp)]; exact q2⟩
 ·obtain ⟨q1,q2,q3,q4⟩:=hr.low.2.1 b hb
  exact ⟨by rw [hno (fun t=>by rw [q1]; simp)]; exact q1,q2,q3,q4⟩
 ·obtain ⟨q1,q2,q3,q4⟩:=hr.low.2.2 t y hy
  have t1:t≠s:=fun e=>hp (by rw [← e]; exact q1)
  have t2:t≠s':=fun e=>hp' (by rw [← e]; exact q1)
  refine ⟨q1,(if_neg t2:(renG g s s').ρ t=g.ρ t).trans q2,(if_neg t2:(renG g s s').len t=g.len t).trans q3,fun h0=>?_⟩
  obtain ⟨m1,m2⟩:=q4 h0
  exact ⟨ren_owner t1 t2 m1,m2⟩
 ·have t1:t≠s':=fun e=>hp' (by rw [← e]; exact ht)
  change (if g.owner b=some (.inr s) then some (Sum.inr s') else if g.owner b=some (.inr s') then none else g.owner b)=_ at ho
  split at ho
  ·injection ho with ho; injection ho with ho; exact absurd ho.symm t1
  ·split at ho
   ·cases ho
   ·exact hr.mine b t ht ho
theorem Rel.rename1 (hr:Rel P w g base σ a) (i:Nat):∃ g',Rel P w g' base (σ.rename1 i) a:=by
 unfold St.rename1
 split
 ·rename_i s x e hsh
  cases hq:(s != renTok i s&&s.1 != 1000001&&Nat.blt i 1000000) with
  | false=>exact ⟨g,hr⟩
  | true =>
   rw [cond_true]
   simp only [Bool.and_eq_true] at hq
   obtain ⟨⟨h1,h2⟩,h3⟩:=hq
   have hne:s≠renTok i s:=by simpa using h1
   have hp:s.1≠1000001:=by simpa using h2
   have hi:i<1000000:=Nat.le_of_ble_eq_true h3
   have hd:deepT (renTok i s)=deepT s:=by
    unfold renTok deepT
    cases h:Nat.ble 1000000 s.2 <;> rfl
   have hp':(renTok i s).1≠1000001:=by show i≠1000001; omega
   exact hr.renTo hne hp hp' hd
 ·exact ⟨g,hr⟩
theorem Rel.renames (hr:Rel P w g base σ a):∀ is:List Nat,∃ g',Rel P w g' base (σ.renames is) a
 | []=>⟨g,hr⟩
 | i::is=>by
  obtain ⟨g1,h1⟩:=Rel.renames hr is
  exact h1.rename1 i
theorem rename1_r {σ:St} (h:σ.r = []) (i:Nat):(σ.rename1 i).r = []:=by
 unfold St.rename1
 split
 ·rename_i s x e _
  cases (s != renTok i s&&s.1 != 1000001&&Nat.blt i 1000000) with
  | false=>exact h
  | true=>show List.map _ σ.r = []; rw [h]; rfl
 ·exact h
theorem renames_r {σ:St} (h:σ.r = []):∀ is:List Nat,(σ.renames is).r = []
 | []=>h
 | i::is=>rename1_r (renames_r h is) i
theorem Rel.seal1 (hr:Rel P w g base σ a) (i:Nat):∃ g',Rel P w g' base (σ.seal1 i) a:=by
 unfold St.seal1
 split
 ·rename_i s e _
  exact ⟨_,hr.seal [s]⟩
 ·exact ⟨g,hr⟩
theorem Rel.seals (hr:Rel P w g base σ a):∀ is:List Nat,∃ g',Rel P w g' base (σ.seals is) a
 | []=>⟨g,hr⟩
 | i::is=>by
  obtain ⟨g1,h1⟩:=Rel.seals hr is
  exact h1.seal1 i
theorem seal1_r {σ:St} (h:σ.r = []) (i:Nat):(σ.seal1 i).r = []:=by
 unfold St.seal1
 split
 ·show List.map _ σ.r = []; rw [h]; rfl
 ·exact h
theorem seals_r {σ:St} (h:σ.r = []):∀ is:List Nat,(σ.seals is).r = []
 | []=>h
 | i::is=>seal1_r (seals_r h is) i
theorem Rel.renBox (t:Nat):∀ (cs:List Ce) (k:Nat) {σ:St} {g:G},Rel P w g base σ a→∃ g',Rel P w g' base (renBox t k cs σ) a
 | [],k,σ,g,hr=>⟨g,hr⟩
 | c::cs,k,σ,g,hr=>by
  have key:∃ σ1 g1,Go.Proofs.YthbbbhpjkgpdcaaGreat.renBox t k (c::cs) σ=Go.Proofs.YthbbbhpjkgpdcaaGreat.renBox t (k+1) cs σ1∧Rel P w g1 base σ1 a:=by
   cases c with
   | own s x e =>
    cases hq:(s != boxTok t k s&&s.1 != 1000001&&Nat.blt t 1000000&&deepT (boxTok t k s)==deepT s) with
    | false=>exact ⟨σ,g,by show Go.Proofs.YthbbbhpjkgpdcaaGreat.renBox t (k+1) cs (bif (s != boxTok t k s&&s.1 != 1000001&&Nat.blt t 1000000&&deepT (boxTok t k s)==deepT s) then _ else _)=_; rw [hq]; rfl,hr⟩
    | true =>
     have hq':=hq
     simp only [Bool.and_eq_true] at hq
     obtain ⟨⟨⟨h1,h2⟩,h3⟩,h4⟩:=hq
     have hi:t<1000000:=Nat.le_of_ble_eq_true h3
     obtain ⟨g1,hg⟩:=hr.renTo (s:=s) (s':=boxTok t k s) (by simpa using h1) (by simpa using h2) (by show t≠1000001; omega) (by simpa using h4)
     exact ⟨_,g1,by show Go.Proofs.YthbbbhpjkgpdcaaGreat.renBox t (k+1) cs (bif (s != boxTok t k s&&s.1 != 1000001&&Nat.blt t 1000000&&deepT (boxTok t k s)==deepT s) then _ else _)=_; rw [hq']; rfl,hg⟩
   | _=>exact ⟨σ,g,rfl,hr⟩
  obtain ⟨σ1,g1,e,h1⟩:=key
  rw [e]
  exact Rel.renBox t cs (k+1) h1
theorem Rel.renBox1 (hr:Rel P w g base σ a) (t:Nat):∃ g',Rel P w g' base (σ.renBox1 t) a:=by
 unfold St.renBox1
 split
 ·exact Rel.renBox t _ 0 hr
 ·exact ⟨g,hr⟩
theorem Rel.renBoxes (hr:Rel P w g base σ a):∀ is:List Nat,∃ g',Rel P w g' base (σ.renBoxes is) a
 | []=>⟨g,hr⟩
 | i::is=>by
  obtain ⟨g1,h1⟩:=Rel.renBoxes hr is
  exact h1.renBox1 i
theorem renBox_r (t:Nat):∀ (cs:List Ce) (k:Nat) {σ:St},σ.r = []→(renBox t k cs σ).r = []
 | [],k,σ,h=>h
 | c::cs,k,σ,h=>by
  have key:∃ σ1:St,renBox t k (c::cs) σ=renBox t (k+1) cs σ1∧σ1.r = []:=by
   cases c with
   | own s x e =>
    refine ⟨_,rfl,?_⟩
    cases (s != boxTok t k s&&s.1 != 1000001&&Nat.blt t 1000000&&deepT (boxTok t k s)==deepT s) with
    | false=>exact h
    | true=>show List.map _ σ.r = []; rw [h]; rfl
   | _=>exact ⟨σ,rfl,h⟩
  obtain ⟨σ1,e,h1⟩:=key
  rw [e]
  exact renBox_r t cs (k+1) h1
theorem renBoxes_r {σ:St} (h:σ.r = []):∀ is:List Nat,(σ.renBoxes is).r = []
 | []=>h
 | i::is=>by
  show (St.renBox1 i (σ.renBoxes is)).r = []
  unfold St.renBox1
  split
  ·exact renBox_r i _ 0 (renBoxes_r h is)
  ·exact renBoxes_r h is
theorem settle_r (σ:St) (ks:List Nat):(σ.settle ks).r = []:=renBoxes_r (seals_r (renames_r (toData_r rfl _) _) _) _
theorem Rel.settle (hr:Rel P w g base σ a) (ks:List Nat):∃ g',Rel P w g' base (σ.settle ks) a:=by
 have hT:∃ g',Rel P w g' base (St.toData (datasOf ks) ⟨[],settleE ks σ.e σ.r,σ.h⟩) a:=by
  refine Rel.toData (g:=g) (σ:=⟨[],settleE ks σ.e σ.r,σ.h⟩) ?_ rfl _
  refine ⟨fun i=>?_,hr.box,hr.fresh,hr.base_le,hr.defers,hr.low,hr.mine⟩
  show VT P w g base (look i (settleE ks σ.e σ.r)) _
  rcases look_settle ks σ.e i σ.r with h | h
  ·rw [h]; exact hr.env i
  ·rw [h]; trivial
 obtain ⟨g1,h1⟩:=hT
 obtain ⟨g2,h2⟩:=h1.renames (rensOf ks)
 obtain ⟨g3,h3⟩:=h2.seals (sealsOf ks)
 exact h3.renBoxes _
theorem look_dropAll (j:Nat):∀ (ds:List Nat) (e:Env),look j (dropAll ds e)=look j e∨look j (dropAll ds e)=.any
 | [],_=>.inl rfl
 | i::ds,e=>by
  unfold dropAll
  rw [look_edrop]
  by_cases h:j=i
  ·rw [if_pos h]; exact .inr rfl
  ·rw [if_neg h]; exact look_dropAll j ds e
theorem look2_dropAll (j:Nat) (ds:List Nat) (e:Env):∀ (r:Env),look2 j (dropAll ds e) r=look2 j e r∨look2 j (dropAll ds e) r=.any
 | []=>look_dropAll j ds e
 | (i,v)::r=>by
  unfold look2
  cases (j==i) with
  | true=>exact .inl rfl
  | false=>exact look2_dropAll j ds e r
theorem look2_eput (i:Nat) (v:T) (e:Env) (j:Nat):∀ (r:Env),look2 j (eput i v e) r=look2 j e r∨(j=i∧look2 j (eput i v e) r=v)
 | []=>by
  show look j (eput i v e)=look j e∨_
  rw [look_eput]
  by_cases h:j=i
  ·rw [if_pos h]; exact .inr ⟨h,by show look j (eput i v e)=v; rw [look_eput,if_pos h]⟩
  ·rw [if_neg h]; exact .inl rfl
 | (k,u)::r=>by
  unfold look2
  cases (j==k) with
  | true=>exact .inl rfl
  | false=>exact look2_eput i v e j r
theorem Rel.learn (hr:Rel P w g base σ a) {ks:List Nat} {c:Operand} {b:Bool} (hc:a.eval c=.bool b):Rel P w g base (σ.learn ks c b) a:=by
 unfold St.learn
 split
 ·rename_i i
  cases ks.contains (9000000+i) with
  | false=>exact hr
  | true =>
   refine ⟨fun j=>?_,hr.box,hr.fresh,hr.base_le,hr.defers,hr.low,hr.mine⟩
   show VT P w g base (look2 j (eput i _ σ.e) σ.r) _
   rcases look2_eput i (.c (.kb b) D0) σ.e j σ.r with h | ⟨h1,h2⟩
   ·rw [h]; exact hr.env j
   ·rw [h2]
    subst h1
    exact hc
 ·exact hr
theorem Rel.shed (hr:Rel P w g base σ a) (ks:List Nat) (c:Code):Rel P w g base (σ.shed ks c) a:=by
 unfold St.shed
 cases isLoopC c with
 | false=>exact hr
 | true =>
  refine ⟨fun i=>?_,hr.box,hr.fresh,hr.base_le,hr.defers,hr.low,hr.mine⟩
  show VT P w g base (look2 i (dropAll (dropsOf ks) σ.e) σ.r) _
  rcases look2_dropAll i (dropsOf ks) σ.e σ.r with h | h
  ·rw [h]; exact hr.env i
  ·rw [h]; trivial
theorem look_restrict (e:Env) (j:Nat):∀ (dom:List Nat),look j (restrictE dom e)=look j e∨look j (restrictE dom e)=.any
 | []=>.inr rfl
 | i::dom=>by
  show look j ((i,look i e)::restrictE dom e)=_∨look j ((i,look i e)::restrictE dom e)=_
  simp only [look]
  by_cases h:j=i
  ·subst h; left; simp only [beq_self_eq_true,cond_true]
  ·rw [show (j==i)=false from by simpa using h]
   simp only [cond_false]
   exact look_restrict e j dom
theorem hlook_filter (q:Nat→Bool) (i:Nat):∀ (h:Boxes),hlook i (h.filter fun p=>q p.1)=if q i=true then hlook i h else none
 | []=>by simp [hlook]
 | (j,v)::h=>by
  rw [List.filter_cons]
  by_cases hq:q j=true
  ·rw [if_pos hq]
   simp only [hlook]
   rw [hlook_filter q i h]
   by_cases e:i=j
   ·subst e; simp [hq]
   ·rw [show (i==j)=false from by simpa using e]; rfl
  ·rw [if_neg hq,hlook_filter q i h]
   by_cases e:i=j
   ·subst e; rw [if_neg hq,if_neg hq]
   ·simp only [hlook]; rw [show (i==j)=false from by simpa using e]; rfl
theorem Rel.restrictD (hr:Rel P w g base σ a) (hre:σ.r = []) (d:Dom):Rel P w g base (restrictD d σ) a:=by
 refine ⟨fun i=>?_,fun id cs ds h=>?_,hr.fresh,hr.base_le,hr.defers,hr.low,hr.mine⟩
 ·show VT P w g base (look i (restrictE _ σ.e)) _
  rcases look_restrict σ.e i (d.1.map (·.1)) with h | h
  ·rw [h]
   have:=hr.env i
   rw [hre] at this
   exact this
  ·rw [h]; trivial
 ·have e:=hlook_filter (fun i=>(d.2.map (·.1)).contains i) id σ.h
  change hlook id (Go.Proofs.YthbbbhpjkgpdcaaGreat.restrictD d σ).h=_ at e
  rw [h] at e
  split at e
  ·exact hr.box id cs ds e.symm
  ·cases e
theorem look_restrict2 (σ:St) (j:Nat):∀ (dom:List Nat),look j (dom.map fun i=>(i,look2 i σ.e σ.r))=look2 j σ.e σ.r∨look j (dom.map fun i=>(i,look2 i σ.e σ.r))=.any
 | []=>.inr rfl
 | i::dom=>by
  simp only [List.map_cons,look]
  by_cases h:j=i
  ·subst h; left; simp only [beq_self_eq_true,cond_true]
  ·rw [show (j==i)=false from by simpa using h]
   simp only [cond_false]
   exact look_restrict2 σ j dom
theorem Rel.restrict (hr:Rel P w g base σ a) (σ₀:St):Rel P w g base (σ₀.restrict σ) a:=by
 refine ⟨fun i=>?_,fun id cs ds h=>?_,hr.fresh,hr.base_le,hr.defers,hr.low,hr.mine⟩
 ·show VT P w g base (look i ((σ₀.e.map (·.1)).map fun i=>(i,look2 i σ.e σ.r))) _
  rcases look_restrict2 σ i (σ₀.e.map (·.1)) with h | h
  ·rw [h]; exact hr.env i
  ·rw [h]; trivial
 ·have e:=hlook_filter (fun i=>(σ₀.h.map (·.1)).contains i) id σ.h
  change hlook id (σ₀.restrict σ).h=_ at e
  rw [h] at e
  split at e
  ·exact hr.box id cs ds e.symm
  ·cases e
theorem sub_congr {p q:List D}:∀ (n o o':Nat),(∀ j,j<n→gd p (o+j)=gd q (o'+j))→sub p o n=sub q o' n
 | 0,_,_,_=>rfl
 | n+1,o,o',h=>by
  rw [sub,sub,show gd p o=gd q o' from by simpa using h 0 (by omega),sub_congr n (o+1) (o'+1) (fun j hj=>by
   have:=h (j+1) (by omega)
   rw [show o+1+j=o+(j+1) from by omega,show o'+1+j=o'+(j+1) from by omega]
   exact this)]
theorem offs_le:∀ (xs:List Sh1) (j:Nat) x,xs[j]?=some x→offs xs j+x.size≤xs.foldr (fun s n=>s.size+n) 0
 | [],j,x,h=>by simp at h
 | y::xs,0,x,h=>by
  simp only [List.getElem?_cons_zero,Option.some.injEq] at h
  subst h
  simp [offs]
 | y::xs,j+1,x,h=>by
  have:=offs_le xs j x (by simpa using h)
  simp only [offs,List.take_succ_cons,List.foldr_cons] at this ⊢
  omega
theorem vcs_congr {cs:List Ce} {p q:List D} {arr:Array Value} (h:∀ j,j<cs.length→gd p j=gd q j) (hv:VCs P w g base cs p arr):VCs P w g base cs q arr:=by
 refine ⟨hv.1,fun j c hj=>?_⟩
 obtain ⟨u,h1,h2⟩:=hv.2 j c hj
 exact ⟨u,h1,by rw [← h j (List.getElem?_eq_some_iff.1 hj).1]; exact h2⟩
theorem v1_congr {x:Sh1} {p q:List D} {v:Value} (h:∀ j,j<x.size→gd p j=gd q j) (hv:V1 P w g base x p v):V1 P w g base x q v:=by
 cases x with
 | c x=>show VC P w g base x (gd q 0) v; rw [← h 0 (by simp [Sh1.size])]; exact hv
 | agg xs=>obtain ⟨arr,h1,h2⟩:=hv; exact ⟨arr,h1,vcs_congr h h2⟩
theorem vs_congr {s:Sh} {p q:List D} {v:Value} (h:∀ j,j<s.size→gd p j=gd q j) (hv:VS P w g base s p v):VS P w g base s q v:=by
 cases s with
 | one x=>exact v1_congr h hv
 | tup xs =>
  obtain ⟨vs,h1,h2,h3⟩:=hv
  refine ⟨vs,h1,h2,fun j x hj=>?_⟩
  obtain ⟨u,k1,k2⟩:=h3 j x hj
  refine ⟨u,k1,?_⟩
  have hle:=offs_le xs j x hj
  rw [← sub_congr x.size (offs xs j) (offs xs j) (fun i hi=>h _ (by simp only [Sh.size]; omega))]
  exact k2
def flatE (e:Env):List D:=e.flatMap fun p=>sub p.2.p 0 p.2.sh.size
def flatH (h:Boxes):List D:=h.flatMap fun p=>sub p.2.2 0 p.2.1.length
theorem gd_mid (pre xs post:List D) (j:Nat) (h:j<xs.length):gd (pre++xs++post) (pre.length+j)=gd xs j:=by
 unfold gd
 rw [List.getD_eq_getElem?_getD,List.getD_eq_getElem?_getD,List.getElem?_append_left (by simp; omega),List.getElem?_append_right (by omega)]
 simp
theorem mkE_ok:∀ (e:Env) (pre post:List D),(mkE (e.map fun p=>(p.1,p.2.sh)) (pre++flatE e++post) pre.length).2=pre.length+(flatE e).length ∧
  ∀ i v,VT P w g base (look i e) v→VT P w g base (look i (mkE (e.map fun p=>(p.1,p.2.sh)) (pre++flatE e++post) pre.length).1) v
 | [],pre,post=>⟨by simp [mkE,flatE],fun i v h=>h⟩
 | (k,t)::e,pre,post=>by
  have hs:(sub t.p 0 t.sh.size).length=t.sh.size:=sub_length _ _ _
  have ef:pre++flatE ((k,t)::e)++post=(pre++sub t.p 0 t.sh.size)++flatE e++post:=by simp [flatE,List.append_assoc]
  obtain ⟨k1,k2⟩:=mkE_ok e (pre++sub t.p 0 t.sh.size) post
  have hl:(pre++sub t.p 0 t.sh.size).length=pre.length+t.sh.size:=by rw [List.length_append,hs]
  rw [hl,← ef] at k1 k2
  have hfl:(flatE ((k,t)::e)).length=t.sh.size+(flatE e).length:=by simp [flatE,hs]
  refine ⟨?_,fun i v h=>?_⟩
  ·simp only [List.map_cons,mkE]
   rw [k1,hfl]; omega
  ·simp only [List.map_cons,mkE,look]
   unfold look at h
   by_cases hi:i=k
   ·subst hi
    simp only [beq_self_eq_true,cond_true] at h ⊢
    refine vs_congr (fun j hj=>?_) h
    have hj:j<t.sh.size:=hj
    have e1:pre++flatE ((i,t)::e)++post=pre++sub t.p 0 t.sh.size++(flatE e++post):=by simp [flatE,List.append_assoc]
    show gd t.p j=gd (sub (pre++flatE ((i,t)::e)++post) pre.length t.sh.size) j
    rw [gd_sub _ _ _ _ hj,e1,gd_mid _ _ _ _ (by rw [hs]; exact hj),gd_sub _ _ _ _ hj,Nat.zero_add]
   ·rw [show (i==k)=false from by simpa using hi,cond_false] at h ⊢
    exact k2 i v h
theorem mkH_ok:∀ (h:Boxes) (pre post:List D) (i:Nat) cs ds,hlook i (mkH (h.map fun p=>(p.1,p.2.1)) (pre++flatH h++post) pre.length)=some (cs,ds)→∃ ds0,hlook i h=some (cs,ds0)∧ds.length=cs.length∧∀ j,j<cs.length→gd ds0 j=gd ds j
 | [],pre,post,i,cs,ds,h=>by simp [mkH,hlook] at h
 | (k,c,d)::r,pre,post,i,cs,ds,h=>by
  have hs:(sub d 0 c.length).length=c.length:=sub_length _ _ _
  have ef:pre++flatH ((k,c,d)::r)++post=(pre++sub d 0 c.length)++flatH r++post:=by simp [flatH,List.append_assoc]
  simp only [List.map_cons,mkH,hlook] at h ⊢
  by_cases hi:i=k
  ·subst hi
   simp only [beq_self_eq_true,cond_true,Option.some.injEq,Prod.mk.injEq] at h ⊢
   obtain ⟨rfl,rfl⟩:=h
   refine ⟨d,⟨rfl,rfl⟩,sub_length _ _ _,fun j hj=>?_⟩
   have e1:pre++flatH ((i,c,d)::r)++post=pre++sub d 0 c.length++(flatH r++post):=by simp [flatH,List.append_assoc]
   rw [gd_sub _ _ _ _ hj,e1,gd_mid _ _ _ _ (by rw [hs]; exact hj),gd_sub _ _ _ _ hj,Nat.zero_add]
  ·rw [show (i==k)=false from by simpa using hi,cond_false] at h ⊢
   rw [ef,show pre.length+c.length=(pre++sub d 0 c.length).length from by rw [List.length_append,hs]] at h
   exact mkH_ok r _ post i cs ds h
theorem Rel.mkSt (hr:Rel P w g base σ a) (hre:σ.r = []):Rel P w g base (mkSt σ.dom σ.flat) a:=by
 have e1:=mkE_ok (P:=P) (w:=w) (g:=g) (base:=base) σ.e [] (flatH σ.h)
 simp only [List.nil_append,List.length_nil,Nat.zero_add] at e1
 refine ⟨fun i=>?_,fun id cs ds h=>?_,hr.fresh,hr.base_le,hr.defers,hr.low,hr.mine⟩
 ·refine e1.2 i _ ?_
  have:=hr.env i
  rw [hre] at this
  exact this
 ·have h:hlook id (mkH (σ.h.map fun p=>(p.1,p.2.1)) (flatE σ.e++flatH σ.h) (mkE (σ.e.map fun p=>(p.1,p.2.sh)) (flatE σ.e++flatH σ.h) 0).2)=some (cs,ds):=h
  rw [e1.1] at h
  have:=mkH_ok σ.h (flatE σ.e) [] id cs ds (by rw [List.append_nil]; exact h)
  obtain ⟨ds0,h1,h2,h3⟩:=this
  obtain ⟨k1,k2,k3,kl,arr,E,k4,k5⟩:=hr.box id cs ds0 h1
  exact ⟨k1,k2,k3,h2,arr,E,k4,vcs_congr h3 k5⟩
end
end Go.Proofs.YthbbbhpjkgpdcaaGreat
