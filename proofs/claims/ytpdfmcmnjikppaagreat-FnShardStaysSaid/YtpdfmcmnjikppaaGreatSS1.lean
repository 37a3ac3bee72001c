/-
 Texts of the proof,put together: part 1.
-/
import Derived.Test.YtpdfmcmnjikppaaGreatProg
import Derived.WalkKit
import Derived.ProofKit
import Derived.Orders
import Derived.Below
import Derived.Laws.StructEq
set_option linter.unusedSimpArgs false
set_option linter.unusedVariables false
set_option linter.unusedSectionVars false
noncomputable section
namespace Go.Proofs.YtpdfmcmnjikppaaGreat
abbrev a9:=@Bool.and_eq_true
abbrev b7:=@Option.some.injEq
abbrev f5:=@cond_false
abbrev f9:=@List.getD_eq_getElem?_getD
abbrev f7:=@decide_eq_true_eq
abbrev f8:=@cond_true
abbrev g4:=@Int.toNat_natCast
abbrev g5:=@List.getElem?_eq_some_iff
abbrev g6:=@List.getElem?_eq_getElem
abbrev g7:=@Result.andThen_ok
abbrev g8:=@Nat.le_refl
abbrev i6:=@List.all_eq_true
abbrev i7:=@if_neg
abbrev i8:=@Prod.mk.injEq
abbrev i9:=@Nat.zero_add
abbrev j7:=@Sem.run_bind
abbrev j8:=@if_pos
abbrev l8:=@Bool.not_true
abbrev m6:=@Bool.not_eq_true'
abbrev m8:=@Sem.run_pure
abbrev m9:=@List.length_map
abbrev n3:=@Array.getElem?_eq_getElem
abbrev n5:=@List.getElem?_cons_zero
abbrev o8:=@Nat.le_trans
abbrev p6:=@beq_iff_eq
abbrev p8:=@Nat.add_assoc
abbrev s7:=@List.getElem?_take
abbrev s9:=@List.length_take
abbrev t5:=@List.length_drop
abbrev t7:=@Array.getElem?_eq_some_iff
abbrev u4:=@Bool.false_eq_true
abbrev u5:=@List.map_cons
abbrev u6:=@List.getElem?_map
abbrev v5:=@Nat.le_of_ble_eq_true
abbrev v7:=@Nat.mul_le_mul_right
abbrev w3:=@Option.getD_some
abbrev w6:=@List.mem_of_getElem?
abbrev y0:=@List.getElem?_drop
abbrev y3:=@Array.getD_eq_getD_getElem?
abbrev y7:=@Bool.false_and
abbrev y8:=@Nat.lt_of_lt_of_le
abbrev A6:=@Nat.lt_or_ge
abbrev B1:=@Option.map_some
abbrev B6:=@Option.isSome_iff_exists
abbrev C4:=@Nat.eq_zero_or_pos
abbrev C5:=@Nat.le_of_eq
abbrev C6:=@and_true
abbrev C8:=@Nat.succ_mul
abbrev C9:=@Bool.and_false
abbrev D1:=@bne_iff_ne
abbrev D4:=@Nat.add_zero
abbrev E4:=@List.take_succ_cons
abbrev E5:=@Nat.add_mul
abbrev F1:=@Array.getElem?_eq_none
abbrev F8:=@Int.le_refl
abbrev G1:=@List.getElem?_eq_none
abbrev G2:=@Array.getElem?_map
abbrev H5:=@List.map_nil
abbrev K5:=@List.drop_succ_cons
abbrev K9:=@Option.isSome_none
abbrev L3:=@Array.getElem?_extract
abbrev N2:=@List.foldr_cons
end Go.Proofs.YtpdfmcmnjikppaaGreat
namespace Go.Proofs.YtpdfmcmnjikppaaGreat
inductive D where
 | i (n:Int)
 | b (x:Bool)
 | s (x:List UInt8)
 | l (rows:List (List D))
 | v (x:Value)
abbrev b8:=List D
def D0:D:=.i 0
def D.int:D->Int
 | .i n=>n
 | _=>0
def D.bool:D->Bool
 | .b x=>x
 | _=>false
def D.str:D->List UInt8
 | .s x=>x
 | _ => []
def D.rows:D->List b8
 | .l r=>r
 | _ => []
def D.val:D->Value
 | .v x=>x
 | _=>.bool false
def gd(p:b8)(i:Nat):D:=p.getD i D0
instance c0:CoeFun (List D) fun _=>Nat->D:=⟨gd⟩
instance c1:CoeFun D fun _=>Nat->List D:=⟨fun z k=>z.rows.getD k []⟩
instance c2:Coe D Int:=⟨fun z=>(z.rows.length:Int)⟩
def sub(p:b8)(o:Nat):Nat->b8
 | 0 => []
 | n+1=>p o::sub p (o+1) n
inductive S where
 | int (k:IntKind)
 | bool
 | str
 | sl (e:TypeId)
 | opq
 deriving DecidableEq,Repr
abbrev Tok:=Nat × Nat
def bm(t:Tok):Bool:=Nat.ble 1000000 t.2
inductive Cap where
 | d (s:S)
 | ptr (id off:Nat)
 | cptr (cells:List S) (off:Nat)
 deriving DecidableEq,Repr
inductive Ce where
 | any
 | d (s:S)
 | kb (x:Bool)
 | own (t:Tok) (x:Bool) (e:TypeId)
 | ptr (id off:Nat)
 | eptr (t:Option Tok) (e:TypeId) (off:Nat)
 | inn (t:Tok) (e:TypeId) (off:Nat) (ei:TypeId)
 | cptr (cells:List S) (off:Nat)
 | fn (f:FuncId) (caps:List Cap)
 deriving DecidableEq,Repr
inductive Sh1 where
 | c (x:Ce)
 | agg (xs:List Ce)
 deriving DecidableEq,Repr
inductive Sh where
 | one (x:Sh1)
 | tup (xs:List Sh1)
 deriving DecidableEq,Repr
def Sh1.size:Sh1->Nat
 | .c _=>1
 | .agg xs=>xs.length
structure T where
 sh:Sh
 p:b8
abbrev T.c(x:Ce)(d:D):T:=⟨.one (.c x),[d]⟩
abbrev T.any:T:=.c .any D0
abbrev T.none_:T:=⟨.tup [],[]⟩
abbrev Env:=List (Nat × T)
abbrev sH:=List (Nat × List Ce × b8)
structure St where
 r:Env
 e:Env
 h:sH
def cY(i:Nat):Env->T
 | []=>.any
 | (j,v)::e=>bif i==j then v else cY i e
def bZ(i:Nat)(e:Env):Env->T
 | []=>cY i e
 | (j,v)::r=>bif i==j then v else bZ i e r
def bH(i:Nat):sH->Option (List Ce × b8)
 | []=>none
 | (j,v)::e=>bif i==j then some v else bH i e
def Bu(i:Nat)(v:T):Env->Env
 | [] => [(i,v)]
 | (j,u)::e=>bif i==j then (i,v)::e else (j,u)::Bu i v e
def rU(i:Nat)(v:List Ce × b8):sH->sH
 | [] => [(i,v)]
 | (j,u)::e=>bif i==j then (i,v)::e else (j,u)::rU i v e
def St.put(σ:St)(o:Option Nat)(v:T):St:=
 match o with
 | none=>σ
 | some i=>⟨(i,v)::σ.r,σ.e,σ.h⟩
def LS(i:Nat):Env->Env
 | [] => []
 | (j,u)::e=>bif i==j then LS i e else (j,u)::LS i e
def nR(ks:List Nat)(e:Env):Env->Env
 | []=>e
 | (i,v)::r=>bif ks.contains i then Bu i v (nR ks e r) else LS i (nR ks e r)
def Sh1.map(f:Ce->Ce):Sh1->Sh1
 | .c x=>.c (f x)
 | .agg xs=>.agg (xs.map f)
def Sh.map(f:Ce->Ce):Sh->Sh
 | .one x=>.one (x.map f)
 | .tup xs=>.tup (xs.map (Sh1.map f))
def St.map(f:Ce->Ce)(σ:St):St:=
 ⟨σ.r.map fun p=>(p.1,⟨p.2.sh.map f,p.2.p⟩),σ.e.map fun p=>(p.1,⟨p.2.sh.map f,p.2.p⟩),σ.h.map fun p=>(p.1,p.2.1.map f,p.2.2)⟩
def eO(ts:List Tok):Ce->Ce
 | .own t x e=>.own t (x && !ts.contains t) e
 | .eptr (some t) e off=>.eptr (bif ts.contains t then none else some t) e off
 | .inn t e off J=>bif ts.contains t then .any else .inn t e off J
 | c=>c
def St.toData1(i:Nat)(σ:St):St:=
 match (cY i σ.e).sh with
 | .one (.c (.own t _ e))=>⟨(σ.map (eO [t])).r,Bu i ⟨.one (.c (.d (.sl e))),(cY i σ.e).p⟩ (σ.map (eO [t])).e,(σ.map (eO [t])).h⟩
 | _=>σ
def St.toData:List Nat->St->St
 | [],σ=>σ
 | i::r,σ=>(σ.toData r).toData1 i
def JC:List Nat->List Nat
 | [] => []
 | k::r=>bif Nat.ble 4000000 k then (k - 4000000)::JC r else JC r
def ajk(s s':Tok):Ce->Ce
 | .own t x e=>bif t==s then .own s' x e else bif t==s' then (bif x then .any else .d (.sl e)) else .own t x e
 | .eptr (some t) e off=>bif t==s then .eptr (some s') e off else bif t==s' then .any else .eptr (some t) e off
 | .inn t e off J=>bif t==s then .inn s' e off J else bif t==s' then .any else .inn t e off J
 | c=>c
def xB(i:Nat)(s:Tok):Tok:=(i,bif bm s then 1000777 else 777)
def St.rename1(i:Nat)(σ:St):St:=
 match (cY i σ.e).sh with
 | .one (.c (.own s _ _))=>bif s != xB i s&&s.1 != 1000001&&Nat.blt i 1000000 then σ.map (ajk s (xB i s)) else σ
 | _=>σ
def St.renames:List Nat->St->St
 | [],σ=>σ
 | i::r,σ=>(σ.renames r).rename1 i
def SI:List Nat->List Nat
 | [] => []
 | k::r=>bif Nat.ble 6000000 k then (k - 6000000)::SI r else SI r
def St.seal1(i:Nat)(σ:St):St:=
 match (cY i σ.e).sh with
 | .one (.c (.own s true _))=>σ.map (eO [s])
 | _=>σ
def St.seals:List Nat->St->St
 | [],σ=>σ
 | i::r,σ=>(σ.seals r).seal1 i
def JL:List Nat->List Nat
 | [] => []
 | k::r=>bif Nat.ble 7000000 k then (k - 7000000)::JL r else JL r
def nz(t k:Nat)(s:Tok):Tok:=(t,bif bm s then 1000700+k else 700+k)
def renBox(t:Nat):Nat->List Ce->St->St
 | _,[],σ=>σ
 | k,.own s _ _::cs,σ=>renBox t (k+1) cs (bif s != nz t k s&&s.1 != 1000001&&Nat.blt t 1000000&&bm (nz t k s)==bm s then σ.map (ajk s (nz t k s)) else σ)
 | k,_::cs,σ=>renBox t (k+1) cs σ
def St.renBox1(t:Nat)(σ:St):St:=
 match bH t σ.h with
 | some (cs,_)=>renBox t 0 cs σ
 | none=>σ
def St.renBoxes:List Nat->St->St
 | [],σ=>σ
 | t::r,σ=>(σ.renBoxes r).renBox1 t
def RL:List Nat->List Nat
 | [] => []
 | k::r=>bif Nat.ble 8000000 k then (k - 8000000)::RL r else RL r
def St.settle(ks:List Nat)(σ:St):St:=St.renBoxes (RL ks) <| St.seals (JL ks) <| St.renames (SI ks) (St.toData (JC ks) ⟨[],nR ks σ.e σ.r,σ.h⟩)
def oJ(s:ByteArray):List UInt8:=s.data.toList
def ofV:Value->T
 | .int k n=>.c (.d (.int k)) (.i n)
 | .bool b=>.c (.kb b) D0
 | .string s=>.c (.d .str) (.s (oJ s))
 | .tuple xs=>bif xs.isEmpty then .none_ else .any
 | _=>.any
def opd(σ:St):Operand->T
 | .tmp i=>bZ i σ.e σ.r
 | .const v=>ofV v
 | .func f=>.c (.fn f []) (.l [[]])
 | .global _=>.any
def T.cells(v:T):Option (List Ce × b8):=
 match v.sh with
 | .one (.c x)=>bif x==.any then none else some ([x],[v.p 0])
 | .one (.agg xs)=>bif xs.contains .any then none else some (xs,sub v.p 0 xs.length)
 | .tup _=>none
def Ce.toS:Ce->Option S
 | .d s=>some s
 | .kb _=>some .bool
 | .own _ _ e=>some (.sl e)
 | _=>none
def Ce.toD(c:Ce)(x:D):D:=
 match c with
 | .kb b=>.b b
 | _=>x
def DY:List Ce->Option (List S)
 | []=>some []
 | c::cs=>match c.toS,DY cs with
  | some d,some ds=>some (d::ds)
  | _,_=>none
def mR:List Ce->b8->b8
 | [],_ => []
 | c::cs,ds=>c.toD (ds 0)::mR cs ds.tail
def toks:List Ce->List Tok
 | [] => []
 | .own t _ _::cs=>t::toks cs
 | _::cs=>toks cs
def T.toks(v:T):List Tok:=
 match v.sh with
 | .one (.c x)=>Go.Proofs.YtpdfmcmnjikppaaGreat.toks [x]
 | .one (.agg xs)=>Go.Proofs.YtpdfmcmnjikppaaGreat.toks xs
 | .tup _ => []
def St.seal(ts:List Tok)(σ:St):St:=σ.map (eO ts)
def eW(d:Nat):Ce->Ce
 | .own t x e=>bif t.1==d then (bif x then .any else .d (.sl e)) else .own t x e
 | .eptr (some t) e off=>bif t.1==d then .any else .eptr (some t) e off
 | .inn t e off J=>bif t.1==d then .any else .inn t e off J
 | .ptr id off=>bif id==d then .any else .ptr id off
 | .fn f caps=>bif caps.all (fun | .ptr id _=>id != d | _=>true) then .fn f caps else .any
 | c=>c
def St.wipe(d:Nat)(σ:St):St:=σ.map (eW d)
def bt(s:Tok):Ce->Ce
 | .own t x e=>bif t==s then (bif x then .any else .d (.sl e)) else .own t x e
 | .eptr (some t) e off=>bif t==s then .any else .eptr (some t) e off
 | .inn t e off J=>bif t==s then .any else .inn t e off J
 | c=>c
def Lt(f:Tok->Bool):Ce->Ce
 | .inn t e off J=>bif f t then .any else .inn t e off J
 | c=>c
def aka(s:Tok)(rows:List b8):Ce->D->D
 | .own t _ _,d=>bif t==s then .l rows else d
 | .eptr (some t) _ _,d=>bif t==s then .l [[.l rows,d.rows.getD 0 [] 1]] else d
 | _,d=>d
def qb(s:Tok)(rows:List b8):List Ce->b8->b8
 | [],_ => []
 | c::cs,ds=>aka s rows c (ds 0)::qb s rows cs ds.tail
def adV(s:Tok)(rows:List b8)(v:T):T:=
 match v.sh with
 | .one (.c x)=>⟨.one (.c (Lt (· == s) x)),qb s rows [x] v.p⟩
 | .one (.agg xs)=>⟨.one (.agg (xs.map (Lt (· == s)))),qb s rows xs v.p⟩
 | .tup _=>.any
def St.setRows(s:Tok)(rows:List b8)(σ:St):St:=
 ⟨σ.r.map fun p=>(p.1,adV s rows p.2),σ.e.map fun p=>(p.1,adV s rows p.2),σ.h.map fun p=>(p.1,p.2.1.map (Lt (· == s)),qb s rows p.2.1 p.2.2)⟩
def eB(P:Program)(t:TypeId):Option Nat:=(P.info? t).map (·.size)
def Ge(P:Program)(t:TypeId):Option Bool:=
 match P.underlying t with
 | some (.struct _) | some (.array _ _)=>some true
 | some _=>some false
 | none=>none
def kT(P:Program)(t:TypeId):Option TypeId:=
 match P.underlying t with
 | some (.slice e)=>some e
 | _=>none
def AE(P:Program)(t:TypeId)(i:Nat):Option (Nat × TypeId):=
 match P.underlying t with
 | some (.struct fs)=>(fs[i]?).map fun f=>(f.offset,f.type)
 | _=>none
def amx(P:Program):Nat->TypeId->Option (List S)
 | 0,_=>none
 | n+1,t =>
  match P.underlying t with
  | some (.struct fs)=>fs.toList.foldr (fun f J=>match amx P n f.type,J with | some a,some b=>some (a++b) | _,_=>none) (some [])
  | some (.slice e)=>some [.sl e]
  | some (.int k)=>some [.int k]
  | some .bool=>some [.bool]
  | some .string=>some [.str]
  | _=>none
def jj:Nat:=4294967296
def bk(P:Program)(t:TypeId):Option (List S):=
 match amx P 9 t with
 | some row=>bif eB P t==some row.length && !row.isEmpty&&Nat.blt row.length jj then some row else none
 | none=>none
def li:S->D
 | .int _=>.i 0
 | .bool=>.b false
 | .str=>.s []
 | .sl _=>.l []
 | .opq=>D0
def zC(t:Tok)(s:S):Ce:=
 match s with
 | .sl e=>.own t true e
 | _=>.d s
def nL(f:S->Nat)(d:Nat):Nat->List S->List Ce
 | _,[] => []
 | i,s::r=>zC (d,i+f s) s::nL f d (i+1) r
def bW(P:Program):List S->List Value->Bool
 | [],[]=>true
 | .int k::r,.int k' n::vs=>k==k'&&n==0&&bW P r vs
 | .bool::r,.bool b::vs => !b&&bW P r vs
 | .str::r,.string s::vs=>s.data.toList.isEmpty&&bW P r vs
 | .sl e::r,.slice none 0 0::vs=>(bk P e).isSome&&bW P r vs
 | _,_=>false
def iT(P:Program)(t:TypeId)(row:List S):Bool:=
 match P.info? t with
 | some i=>match i.zero with
  | some v=>bW P row v.cells.toList
  | none=>false
 | none=>false
def Tf(P:Program)(e:TypeId):Bool:=
 match bk P e with
 | some row=>iT P e row
 | none=>false
def Gl(op:BinOp)(k:IntKind)(x y:Int):Int:=
 match op with
 | .and=>k.wrap (BitVec.ofInt k.bits x &&& BitVec.ofInt k.bits y).toNat
 | _=>k.wrap (BitVec.ofInt k.bits x ^^^ BitVec.ofInt k.bits y).toNat
def aiI(x y:Int):Int:=if x<y then y else x
def WF(op:BinOp)(k:IntKind)(x y:Int):Option (T × Bool):=
 match op with
 | .add=>some (.c (.d (.int k)) (.i (k.wrap (x+y))),true)
 | .sub=>some (.c (.d (.int k)) (.i (k.wrap (x - y))),true)
 | .mul=>some (.c (.d (.int k)) (.i (k.wrap (x*y))),true)
 | .quo=>some (.c (.d (.int k)) (.i (k.wrap (x.tdiv y))),y != 0)
 | .rem=>some (.c (.d (.int k)) (.i (x.tmod y)),y != 0)
 | .and=>some (.c (.d (.int k)) (.i (Gl .and k x y)),true)
 | .xor=>some (.c (.d (.int k)) (.i (Gl .xor k x y)),true)
 | .shr=>some (.c (.d (.int k)) (.i (x.fdiv (2 ^ (min y.toNat k.bits)))),decide (0<=y))
 | .eql=>some (.c (.d .bool) (.b (x==y)),true)
 | .neq=>some (.c (.d .bool) (.b (x != y)),true)
 | .lss=>some (.c (.d .bool) (.b (decide (x<y))),true)
 | .leq=>some (.c (.d .bool) (.b (decide (x<=y))),true)
 | .gtr=>some (.c (.d .bool) (.b (decide (x > y))),true)
 | .geq=>some (.c (.d .bool) (.b (decide (x>=y))),true)
 | _=>none
def T.sc(v:T):Option (S × D):=
 match v.sh with
 | .one (.c (.d s))=>some (s,v.p 0)
 | .one (.c (.kb b))=>some (.bool,.b b)
 | _=>none
def Ex(P:Program)(t:TypeId):Bool:=
 match P.underlying t with
 | some .bool=>true
 | _=>false
def vQ(P:Program)(t:TypeId):Bool:=
 match P.underlying t with
 | some .string=>true
 | _=>false
def aku(op:BinOp)(k:IntKind)(x y:Int):Option (T × Bool):=
 match op with
 | .shr=>WF .shr k x y
 | _=>none
def aen(J:Bool)(op:BinOp)(a b:T):Option (T × Bool):=
 match a.sc,b.sc with
 | some (.int k,x),some (.int k',y)=>bif k==k' then WF op k x.int y.int else aku op k x.int y.int
 | some (.bool,x),some (.bool,y)=>bif J then (match op with
  | .eql=>some (.c (.d .bool) (.b (x.bool==y.bool)),true)
  | .neq=>some (.c (.d .bool) (.b (!(x.bool==y.bool))),true)
  | _=>none) else none
 | some (.str,x),some (.str,y)=>match op with
  | .eql=>some (.c (.d .bool) (.b (x.str==y.str)),true)
  | .neq=>some (.c (.d .bool) (.b (!(x.str==y.str))),true)
  | .add=>some (.c (.d .str) (.s (x.str++y.str)),decide (x.str.length+y.str.length<1099511627776))
  | _=>none
 | _,_=>none
def uM:Option TypeDesc->S->Bool
 | some (.int _),.int _=>true
 | some .bool,.bool=>true
 | some .string,.str=>true
 | _,_=>false
def Tz(P:Program):List Field->Nat->List S->Bool
 | [],_,[]=>true
 | f::fs,i,s::ss=>(f.offset==i&&f.name != "_" && Ge P f.type==some false&&uM (P.underlying f.type) s)&&Tz P fs (i+1) ss
 | _,_,_=>false
def yo(P:Program):List Field->Nat->List S->Bool
 | [],_,[]=>true
 | f::fs,i,s::ss=>bif Ge P f.type==some false then (f.offset==i&&f.name != "_" && uM (P.underlying f.type) s)&&yo P fs (i+1) ss
  else match P.underlying f.type,eB P f.type with
   | some (.struct gs),some n=>(f.offset==i&&f.name != "_" && Ge P f.type==some true && !P.stoodInHeld f.type&&Tz P gs.toList 0 ((s::ss).take n)&&Nat.ble n (s::ss).length)&&yo P fs (i+n) ((s::ss).drop n)
   | _,_=>false
 | _,_,_=>false
def fO:List S->b8->b8->Bool
 | [],_,_=>true
 | .int _::r,p,q=>(p 0).int==(q 0).int&&fO r p.tail q.tail
 | .bool::r,p,q=>(p 0).bool==(q 0).bool&&fO r p.tail q.tail
 | .str::r,p,q=>(p 0).str==(q 0).str&&fO r p.tail q.tail
 | .sl _::_,_,_=>false
 | .opq::_,_,_=>false
def ahp(P:Program)(op:BinOp)(t:TypeId)(a b:T):Option (T × Bool):=
 match a.sh,b.sh with
 | .one (.agg cs),.one (.agg cs')=>match DY cs,P.underlying t with
  | some ss,some (.struct fs)=>bif cs==ss.map .d&&cs'==ss.map .d&&yo P fs.toList 0 ss && !P.stoodInHeld t && !P.eqGuardType P.depth t then (match op with
   | .eql=>some (.c (.d .bool) (.b (fO ss a.p b.p)),true)
   | .neq=>some (.c (.d .bool) (.b (!(fO ss a.p b.p))),true)
   | _=>none) else none
  | _,_=>none
 | _,_=>none
def ajx(op:UnOp)(a:T):Option T:=
 match op,a.sc with
 | .not,some (.bool,x)=>some (.c (.d .bool) (.b (!x.bool)))
 | .neg,some (.int k,x)=>some (.c (.d (.int k)) (.i (k.wrap (0 - x.int))))
 | _,_=>none
def T.slice(v:T):Option (Option Tok × TypeId × List b8):=
 match v.sh with
 | .one (.c (.d (.sl e)))=>some (none,e,(v.p 0).rows)
 | .one (.c (.own t x e))=>some (bif x then some t else none,e,(v.p 0).rows)
 | _=>none
def cut(ag:Bool)(n off:Nat)(cs:List Ce)(ds:b8):Option T:=
 bif Nat.ble (off+n) cs.length then
  (bif ag then some ⟨.one (.agg ((cs.drop off).take n)),sub ds off n⟩ else match cs[off]? with
   | some c=>bif n==1 then some (.c c (ds off)) else none
   | none=>none)
 else none
def S.flat:S->Bool
 | .sl _=>false
 | .opq=>false
 | _=>true
def zz:Option Tok->Bool
 | some t=>bm t
 | none=>false
def akh(O:Option Tok)(e:TypeId)(j:Nat):S->Ce
 | .sl J=>match O with
  | some t=>bif bm t then .inn t e j J else .d (.sl J)
  | none=>.d (.sl J)
 | s=>.d s
def Ag(J:Option Tok)(e:TypeId):Nat->List S->List Ce
 | _,[] => []
 | j,s::r=>akh J e j s::Ag J e (j+1) r
def VB(x:D)(row:b8):Nat->List S->b8
 | _,[] => []
 | j,.sl _::r=>x::VB x row (j+1) r
 | j,_::r=>row j::VB x row (j+1) r
def AM(P:Program)(t:TypeId)(σ:St)(a:T):Option T:=
 match Ge P t,eB P t with
 | some ag,some n =>
  match a.sh with
  | .one (.c (.ptr id off))=>match bH id σ.h with
   | some (cs,ds)=>cut ag n off cs ds
   | none=>none
  | .one (.c (.eptr tk e off))=>match bk P e with
   | some row=>bif zz tk then cut ag n off (Ag tk e 0 row) (VB (a.p 0) (((((a.p 0).rows.getD 0 []) 0).rows).getD (((a.p 0).rows.getD 0 []) 1).int.toNat []) 0 row)
    else cut ag n off (row.map .d) (((((a.p 0).rows.getD 0 []) 0).rows).getD (((a.p 0).rows.getD 0 []) 1).int.toNat [])
   | none=>none
  | .one (.c (.cptr cells off))=>cut ag n off (cells.map .d) ((a.p 0).rows.getD 0 [])
  | _=>none
 | _,_=>none
def Gp(a:T)(o:Nat):Option T:=
 match a.sh with
 | .one (.c (.ptr id off))=>some (.c (.ptr id (off+o)) D0)
 | .one (.c (.eptr t e off))=>some (.c (.eptr t e (off+o)) (a.p 0))
 | .one (.c (.cptr cells off))=>some (.c (.cptr cells (off+o)) (a.p 0))
 | _=>none
def T.intOf(v:T):Option Int:=
 match v.sc with
 | some (.int _,d)=>some d.int
 | _=>none
def al(n:Int)(len:Nat):Bool:=decide (0<=n)&&decide (n<len)
def vZ(e:TypeId)(x i:T):Option (T × Bool):=
 match i.intOf,x.slice with
 | some n,some (t,e',rows)=>bif e==e' then some (.c (.eptr t e 0) (.l [[.l rows,.i n]]),al n rows.length) else none
 | _,_=>none
def aaE(P:Program)(t:TypeId)(x:T):Option T:=
 match x.sc with
 | some (.str,d)=>bif vQ P t then some (.c (.d (.int .i64)) (.i d.str.length)) else none
 | _=>match x.slice with
  | some (_,_,rows)=>bif (kT P t).isSome then some (.c (.d (.int .i64)) (.i rows.length)) else none
  | none=>none
def HX(J:Int):Option T->Option Int
 | none=>some J
 | some v=>v.intOf
def ZC(P:Program)(t:TypeId)(x:T)(lo hi:Option T):Option (T × Bool):=
 match x.sh,hi with
 | .one (.c (.own tk true e)),none=>match HX 0 lo,bk P e with
  | some l,some row=>bif kT P t==some e && !bm tk&&row.all S.flat then some (.c (.inn tk e jj e) (.l [[x.p 0,.i l]]),decide (0<=l)&&decide (l<=(x.p 0).rows.length)) else none
  | _,_=>none
 | _,_=>none
def Sn(P:Program)(t:TypeId)(x:T)(lo hi:Option T):Option (T × Bool):=
 match x.sc with
 | some (.str,d)=>match HX 0 lo,HX d.str.length hi with
  | some l,some h=>bif !vQ P t then none else some (.c (.d .str) (.s ((d.str.take h.toNat).drop l.toNat)),decide (0<=l)&&decide (l<=h)&&decide (h<=d.str.length))
  | _,_=>none
 | some (.sl e,d)=>match HX 0 lo,HX d.rows.length hi with
  | some l,some h=>bif !(kT P t==some e) then none else some (.c (.d (.sl e)) (.l ((d.rows.take h.toNat).drop l.toNat)),decide (0<=l)&&decide (l<=h)&&decide (h<=d.rows.length))
  | _,_=>none
 | _=>none
def uF(σ:St):Cap->D->Option (Cap × D)
 | .d s,d=>some (.d s,d)
 | .cptr cells off,d=>some (.cptr cells off,d)
 | .ptr id off,_=>match bH id σ.h with
  | some (cs,ds)=>match DY cs with
   | some J=>some (.cptr J off,.l [mR cs ds])
   | none=>none
  | none=>none
def mh(σ:St):List Cap->b8->Option (List Cap × b8)
 | [],_=>some ([],[])
 | c::cs,ds=>match uF σ c (ds 0),mh σ cs ds.tail with
  | some (d,x),some (ds,xs)=>some (d::ds,x::xs)
  | _,_=>none
def Cap.ce:Cap->Ce
 | .d s=>.d s
 | .ptr id off=>.ptr id off
 | .cptr cells off=>.cptr cells off
def acQ(off:Nat)(x:D):D:=bif Nat.ble jj off then .l ((x.rows.getD 0 [] 0).rows.drop (x.rows.getD 0 [] 1).int.toNat) else (((x.rows.getD 0 [] 0).rows).getD (x.rows.getD 0 [] 1).int.toNat []) off
def Ce.aS:Ce->Option S
 | .inn _ _ _ J=>some (.sl J)
 | c=>c.toS
def Ce.aD(c:Ce)(x:D):D:=
 match c with
 | .inn _ _ off _=>acQ off x
 | c=>c.toD x
def aSs:List Ce->Option (List S)
 | []=>some []
 | c::cs=>match c.aS,aSs cs with
  | some d,some ds=>some (d::ds)
  | _,_=>none
def aDs:List Ce->b8->b8
 | [],_ => []
 | c::cs,ds=>c.aD (ds 0)::aDs cs ds.tail
def pU:List Ce->List Tok
 | [] => []
 | .own t _ _::cs=>t::pU cs
 | .inn t _ _ _::cs=>t::pU cs
 | _::cs=>pU cs
def arg(P:Program)(σ:St)(v:T):Option T:=
 match v.sh with
 | .one (.c (.fn f caps))=>match mh σ caps ((v.p 0).rows.getD 0 []) with
  | some (cs,ds)=>some (.c (.fn f cs) (.l [ds]))
  | none=>none
 | .one (.c (.cptr cells off))=>some (.c (.cptr cells off) (v.p 0))
 | .one (.c (.ptr id off))=>match uF σ (.ptr id off) D0 with
  | some (c,d)=>some (.c c.ce d)
  | _=>none
 | .one (.c (.eptr tk e off))=>match bk P e with
  | some row=>bif zz tk then none else some (.c (.cptr row off) (.l [sub (((((v.p 0).rows.getD 0 []) 0).rows).getD (((v.p 0).rows.getD 0 []) 1).int.toNat []) 0 row.length]))
  | none=>none
 | .one (.c x)=>match x.aS with
  | some s=>some (.c (.d s) (x.aD (v.p 0)))
  | none=>none
 | .one (.agg xs)=>match aSs xs with
  | some J=>some ⟨.one (.agg (J.map .d)),aDs xs v.p⟩
  | none=>none
 | .tup _=>none
def NJ(P:Program)(σ:St):List T->Option (List T)
 | []=>some []
 | c::cs=>match arg P σ c,NJ P σ cs with
  | some d,some ds=>some (d::ds)
  | _,_=>none
def ajm(P:Program)(nd:Bool)(x:Operand)(t:Option TypeId):Option T:=
 match x,t with
 | .const (.slice none 0 0),some t=>match kT P t with
  | some e=>bif (bk P e).isSome then some (.c (bif nd then .d (.sl e) else .own (0,0) true e) (.l [])) else none
  | none=>none
 | _,_=>none
def agt(P:Program)(σ:St)(t:TypeId)(x:Operand):T:=
 match ajm P true x (some t) with
 | some v=>v
 | none=>opd σ x
def amv(P:Program)(σ:St)(nd:Bool)(x:Operand)(t:Option TypeId):Option T:=
 match ajm P nd x t with
 | some t=>some t
 | none=>arg P σ (opd σ x)
def qm(P:Program)(σ:St)(nd:Bool):List Operand->List TypeId->Option (List T)
 | [],_=>some []
 | x::xs,ts=>match amv P σ nd x ts.head?,qm P σ nd xs ts.tail with
  | some d,some ds=>some (d::ds)
  | _,_=>none
def eQ(σ:St):List Cap->List Tok
 | [] => []
 | .ptr id _::cs=>(match bH id σ.h with | some (xs,_)=>toks xs | none => [])++eQ σ cs
 | _::cs=>eQ σ cs
def eR(σ:St)(v:T):List Tok:=
 match v.sh with
 | .one (.c (.fn _ caps))=>eQ σ caps
 | .one (.c (.ptr id off))=>eQ σ [.ptr id off]
 | .one (.c x)=>pU [x]
 | .one (.agg xs)=>pU xs
 | .tup _ => []
def vf:List Cap->b8->List T
 | [],_ => []
 | c::cs,ds=>.c c.ce (ds 0)::vf cs ds.tail
def Ce.prim:Ce->Bool
 | .d (.sl _)=>false
 | .d _=>true
 | .kb _=>true
 | _=>false
def Sh1.prim:Sh1->Bool
 | .c x=>x.prim
 | .agg xs=>xs.all Ce.prim
def Sh.prim:Sh->Bool
 | .one x=>x.prim
 | .tup xs=>xs.all Sh1.prim
def FW(d:Nat):Ce->Ce
 | .own t x e=>.own (d,t.2) x e
 | c=>c
section
variable (P:Program)
def XC(v:T):Option (Cap × D):=
 match v.sh with
 | .one (.c (.ptr id off))=>some (.ptr id off,D0)
 | .one (.c (.cptr cells off))=>some (.cptr cells off,v.p 0)
 | .one (.c (.d s))=>some (.d s,v.p 0)
 | _=>none
def NZ(σ:St):List Operand->Option (List Cap × b8)
 | []=>some ([],[])
 | x::xs=>match XC (opd σ x),NZ σ xs with
  | some (c,d),some (cs,ds)=>some (c::cs,d::ds)
  | _,_=>none
def evQ(σ:St)(o:Oper):Option (T × Bool):=
 match o.op with
 | .move x | .assign x=>some (opd σ x,true)
 | .nilCheck x=>match (opd σ x).sh with
  | .one (.c (.ptr _ _))=>some (opd σ x,true)
  | _=>none
 | .pick c a b=>match (opd σ c).sh,(opd σ a).sc,(opd σ b).sc with
  | .one (.c (.kb t)),_,_=>some (bif t then opd σ a else opd σ b,true)
  | .one (.c (.d .bool)),some (s,x),some (s',y)=>bif s==s' then some (.c (.d s) (bif ((opd σ c).p 0).bool then x else y),true) else none
  | _,_,_=>none
 | .load t a=>(AM P t σ (opd σ a)).map (·,true)
 | .fieldAddr t x i=>match AE P t i with
  | some (off,ft)=>match eB P ft with
   | some (_+1)=>(Gp (opd σ x) off).map (·,true)
   | _=>none
  | none=>none
 | .field t x i=>match AE P t i,(opd σ x).sh with
  | some (off,ft),.one (.agg cs)=>match Ge P ft,eB P ft with
   | some ag,some n=>(cut ag n off cs (opd σ x).p).map (·,true)
   | _,_=>none
  | _,_=>none
 | .indexAddr t x i=>match kT P t with
  | some e=>vZ e (opd σ x) (opd σ i)
  | none=>none
 | .index t x i=>match (opd σ x).sc,(opd σ i).intOf with
  | some (.str,d),some n=>bif !vQ P t then none else some (.c (.d (.int .u8)) (.i ((d.str.getD n.toNat 0).toNat:Int)),al n d.str.length)
  | _,_=>none
 | .binOp op t x y _=>match ahp P op t (opd σ x) (opd σ y) with
  | some r=>some r
  | none=>aen (Ex P t) op (opd σ x) (opd σ y)
 | .unOp op _ x=>(ajx op (opd σ x)).map (·,true)
 | .extract t i=>match (opd σ t).sh with
  | .tup J=>match J[i]? with
   | some x=>some (⟨.one x,sub (opd σ t).p ((J.take i).foldr (fun s n=>s.size+n) 0) x.size⟩,true)
   | none=>none
  | _=>none
 | .slice t x lo hi none=>match ZC P t (opd σ x) (lo.map (opd σ)) (hi.map (opd σ)) with
  | some r=>some r
  | none=>Sn P t (opd σ x) (lo.map (opd σ)) (hi.map (opd σ))
 | .call { callee:=.builtin .len,args:=xs,argTypes:=ts }=>match xs.toList,ts.toList with
  | [x],[t]=>(aaE P t (opd σ x)).map (·,true)
  | _,_=>none
 | .call { callee:=.builtin .max,args:=xs,.. }=>match xs.toList with
  | [x,y]=>match (opd σ x).sc,(opd σ y).sc with
   | some (.int k,p),some (.int k',q)=>bif k==k' then some (.c (.d (.int k)) (.i (aiI p.int q.int)),true) else none
   | _,_=>none
  | _=>none
 | .convert O t x=>match P.underlying O,P.underlying t,(opd σ x).sc with
  | some _,some (.int k),some (.int _,d)=>some (.c (.d (.int k)) (.i (k.wrap d.int)),true)
  | some _,some .string,some (.str,d)=>some (.c (.d .str) d,true)
  | _,_,_=>none
 | .makeFunc (.func f) first caps=>bif first.isEmpty then (match NZ σ caps.toList with
  | some (cs,ds)=>some (.c (.fn f cs) (.l [ds]),true)
  | none=>none) else none
 | _=>none
def cj:List Tok->Bool
 | []=>true
 | t::ts => !ts.contains t&&cj ts
def CQ(e:TypeId):Bool:=
 match bk P e with
 | some row=>row.all S.flat
 | none=>false
def nC:Ce->Bool
 | .d s=>s.flat
 | .kb _=>true
 | .own t true e=>t.1 != 1000001&&(bm t||CQ P e)
 | _=>false
def ni:List Tok->St->St
 | [],σ=>σ
 | t::ts,σ=>ni ts (σ.map (bt t))
def Cq(σ:St)(row:List S):List (Nat × Operand)->Nat->Option (List b8 × List Tok)
 | [],_=>some ([],[])
 | (i,x)::r,k=>bif i==k then (match (opd σ x).cells,Cq σ row r (k+1) with
  | some (cs,ds),some (rows,ts)=>bif DY cs==some row then some (mR cs ds::rows,toks cs++ts) else none
  | _,_=>none) else none
def fj{J:Type}:List J->Nat->List J->List J
 | l,_,[]=>l
 | l,i,x::xs=>fj (l.set i x) (i+1) xs
def wu(t:TypeId)(σ:St):List (Nat × Operand)->List Ce × b8->Option (List Ce × b8)
 | [],acc=>some acc
 | (i,x)::r,(cs,ds)=>match AE P t i,(opd σ x).cells with
  | some (off,ft),some (cs',ds')=>bif eB P ft==some cs'.length&&Nat.ble (off+cs'.length) cs.length then wu t σ r (fj cs off cs',fj ds off ds') else none
  | _,_=>none
abbrev Stp:=Option (St × Bool)
def Ut(b:Bool):S->Nat
 | .sl e=>bif b && !CQ P e then 1000000 else 0
 | _=>0
def oa(σ:St)(d:Nat)(b:Bool)(t:TypeId):Stp:=
 match bk P t with
 | some row=>bif !iT P t row then none else some (St.put ⟨(σ.wipe d).r,(σ.wipe d).e,rU d (nL (Ut P b) d 0 row,row.map li) (σ.wipe d).h⟩ (some d) (.c (.ptr d 0) D0),true)
 | none=>none
def afL(σ:St)(d:Nat)(x:Operand):Stp:=
 match (opd (σ.wipe d) x).cells with
 | some cs=>some (St.put ⟨(σ.wipe d).r,(σ.wipe d).e,rU d cs (σ.wipe d).h⟩ (some d) (.c (.ptr d 0) D0),true)
 | none=>none
def Oh(t:TypeId):Bool:=
 match P.underlying t with
 | some (.struct fs)=>fs.toList.all fun f=>(eB P f.type).isSome
 | _=>false
def TM(σ:St)(d:Nat)(b:Bool)(t:TypeId)(J:List (Nat × Operand)):Stp:=
 match bk P t with
 | some row=>match wu P t (σ.wipe d) J (nL (Ut P b) d 0 row,row.map li) with
  | some (cs,ds)=>bif !(iT P t row&&Oh P t) then none else some ((σ.wipe d).put (some d) ⟨.one (.agg cs),ds⟩,true)
  | none=>none
 | none=>none
def oy(σ:St)(d:Nat)(t:TypeId)(n:Nat)(J:List (Nat × Operand)):Stp:=
 match kT P t with
 | some e=>match bk P e with
  | some row=>bif J.length==n&&decide (n*row.length<=16777216)&&iT P e row then (match Cq σ row J 0 with
   | some (rows,ts)=>some (((σ.seal ts).wipe d).put (some d) (.c (.own (d,0) true e) (.l rows)),true)
   | none=>none) else none
  | none=>none
 | none=>none
def lV(σ:St)(d:Nat)(t:TypeId)(n:Nat)(J:List (Nat × Operand)):Stp:=
 match kT P t,J with
 | some e,[]=>match bk P e with
  | some row=>bif n==0&&iT P e row then some ((σ.wipe d).put (some d) (.c (.own (d,1000000) true e) (.l [])),true) else none
  | none=>none
 | some e,[(i,x)]=>match bk P e,(opd (σ.wipe d) x).cells with
  | some row,some (cs,ds)=>bif n==1&&i==0&&DY cs==some row&&Nat.ble row.length 16777216&&iT P e row&&cs.all (nC P)&&cj (toks cs) && !(toks cs).contains (d,1000000) then
    some ((ni (toks cs) (σ.wipe d)).put (some d) (.c (.own (d,1000000) true e) (.l [mR cs ds])),true) else none
  | _,_=>none
 | _,_=>none
def Cm(e:TypeId):Bool:=
 match P.info? e with
 | some i=>decide (i.bytes<=16384)
 | none=>false
def vx(σ:St)(d ix:Nat)(t:TypeId)(n c:Operand):Stp:=
 match kT P t with
 | some e=>match bk P e,(opd σ n).intOf,(opd σ c).intOf with
  | some row,some x,some y=>some ((σ.wipe d).put (some d) (.c (.own (d,ix) true e) (.l (List.replicate x.toNat (row.map li)))),decide (0<=x)&&decide (x=y)&&decide (x<=4294967296)&&iT P e row&&Cm P e)
  | _,_,_=>none
 | none=>none
def JF(σ:St)(dst:Option Nat)(t:TypeId)(a x:Operand):Stp:=
 match eB P t,(agt P σ t x).cells with
 | some n,some (cs,ds)=>bif cs.length==n then (match (opd σ a).sh with
  | .one (.c (.ptr id off))=>match bH id σ.h with
   | some (cs',ds')=>bif Nat.ble (off+n) cs'.length then some (St.put ⟨σ.r,σ.e,rU id (fj cs' off cs,fj ds' off ds) σ.h⟩ dst .none_,true) else none
   | none=>none
  | .one (.c (.eptr (some s) e off))=>match bk P e,DY cs with
   | some row,some ss=>bif ((row.drop off).take n)==ss && !(toks cs).contains s&&Nat.ble 1 n&&Nat.ble (off+n) row.length&&(!bm s||(cs.all (nC P)&&cj (toks cs)&&(s.1 != 1000001||(toks cs).isEmpty))) then
     (let pr:=((opd σ a).p 0).rows.getD 0 []
      let rows:=(pr 0).rows
      let i:=(pr 1).int.toNat
      some (St.put ((bif bm s then ni (toks cs) σ else σ.seal (toks cs)).setRows s (rows.set i (fj (sub (rows.getD i []) 0 row.length) off (mR cs ds)))) dst .none_,true)) else none
   | _,_=>none
  | _=>none)
  else none
 | _,_=>none
def aeD(σ:St)(d ix:Nat)(t:TypeId):Stp:=
 match kT P t with
 | some e=>bif (bk P e).isSome then some ((σ.wipe d).put (some d) (.c (.own (d,ix) true e) (.l [])),true) else none
 | none=>none
def KF(σ:St)(d:Nat)(O:TypeId)(x y:Operand):Stp:=
 match (opd σ x).sh,(opd σ y).slice with
 | .one (.c (.own t b e)),some (tk,e',rows')=>bif e==e'&&kT P O==some e&&Tf P e&&(bif bm t&&b then zz tk&&tk != some t else !zz tk)&&t.1 != 1000001&&tk.all (fun J=>J.1 != 1000001) then
   some (((bif bm t&&b then ni tk.toList σ else σ).map (bt t)).put (some d) (.c (.own t b e) (.l (((opd σ x).p 0).rows++rows'))),decide ((((opd σ x).p 0).rows++rows').length<=4294967296)&&Cm P e) else none
 | _,_=>none
def rp(σ:St)(o:Oper):Stp:=
 match evQ P σ o with
 | some (v,ok)=>some (σ.put o.dst v,ok)
 | none=>none
def Sh.isK:Sh->Bool
 | .tup [.agg [_]]=>true
 | _=>false
def Sh.isKo:Sh->Bool
 | .tup [.agg [.kb true]]=>true
 | _=>false
def Sh.ownOr:Sh->Bool
 | .one (.c (.own _ _ _))=>true
 | .one (.c (.d (.int _)))=>true
 | _=>false
def Sh.isW:Sh->Bool
 | .tup [_]=>true
 | .tup (.agg [.any]::_::_)=>true
 | _=>false
def Sh.isP:Sh->Bool
 | .tup (.agg [.any]::_::_)=>true
 | _=>false
def UG:Ce->Bool
 | .d _=>true
 | .own t _ _=>t.1==0
 | _=>false
def Sh1.ces:Sh1->List Ce
 | .c x => [x]
 | .agg xs=>xs
def Sh.ces:Sh->List Ce
 | .one x=>x.ces
 | .tup xs=>xs.flatMap Sh1.ces
variable (call:FuncId->List T->Option (T × Bool))
def aeV:FuncId:=4294967295
def abk:FuncId:=4294967294
def rh(d:Nat):Bool:=(call aeV [.c .any (.i d)]).isSome
def Uk:Ce->Bool
 | .d s=>s.flat
 | .kb _=>true
 | .own t x e=>(bm t&&x)||CQ P e
 | _=>false
def apart(sh:Sh):Bool:=sh.prim||((call abk []).isSome&&sh.ces.all (Uk P))
def XQ(σ:St)(d:Nat)(f:Operand)(xs:List Operand)(J:List TypeId):Stp:=
 match (opd σ f).sh with
 | .one (.c (.fn g caps))=>match qm P σ (rh call (1000000+d)) xs J,mh σ caps (((opd σ f).p 0).rows.getD 0 []) with
  | some vs,some (cs,ds)=>match call g (vs++vf cs ds) with
   | some (r,ok)=>bif !r.sh.isW&&r.sh.ces.all UG then some (((σ.seal (bif apart P call r.sh then[] else (xs.map (opd σ)).flatMap (eR σ)++eQ σ caps)).wipe d).put (some d) ⟨r.sh.map (FW d),r.p⟩,ok) else none
   | none=>none
  | _,_=>none
 | _=>none
def aeQ(σ:St)(dst:Option Nat)(f:Operand)(xs:List Operand):Stp:=
 match (opd σ f).sh,xs with
 | .one (.c (.fn g [])),[.tmp i]=>match (opd σ (.tmp i)).sh with
  | .one (.c (.own t true e))=>match call g [.c (.d (.sl e)) ((opd σ (.tmp i)).p 0)] with
   | some (r,ok)=>bif bk P e==some [.int .i64]&&t.1 != 1000001 then (match r.sh with
    | .tup [.c _]=>some ((σ.setRows t (r.p 0).rows).put dst .none_,ok)
    | .tup [.agg []]=>some ((σ.map (bt t)).put dst (.c (.own t true e) (r.p 0)),ok)
    | _=>none) else none
   | none=>none
  | _=>none
 | _,_=>none
def evK(σ:St)(dst:Option Nat)(f:Operand)(xs:List Operand)(J:List TypeId):Stp:=
 match (opd σ f).sh,xs with
 | .one (.c (.fn g [])),.tmp i::ys=>match (opd σ (.tmp i)).sh with
  | .one (.c (.own t true e))=>match qm P (σ.map (bt t)) false ys J.tail,bk P e with
   | some vs,some row=>match call g (.c (.d (.sl e)) ((opd σ (.tmp i)).p 0)::vs) with
    | some (r,ok)=>bif r.sh.isK&&row.all S.flat && !((ys.map (opd (σ.map (bt t)))).flatMap (eR (σ.map (bt t)))).contains t&&(!r.sh.isKo||(ys.map (opd (σ.map (bt t)))).all fun q=>q.sh.ownOr)&&t.1 != 1000001 then
      some ((σ.map (bt t)).put dst (.c (.own t true e) (r.p 0)),ok) else none
    | none=>none
   | _,_=>none
  | _=>none
 | _,_=>none
def Sh.isX:Sh->Bool
 | .tup [.agg [_,_,_]]=>true
 | _=>false
def evX(σ:St)(dst:Option Nat)(f:Operand)(xs:List Operand):Stp:=
 match (opd σ f).sh,xs with
 | .one (.c (.fn g [])),[.tmp i,y,z]=>match (opd σ (.tmp i)).sh,(opd σ y).sh with
  | .one (.c (.own t true e)),.one (.c (.d (.int .i64)))=>match (opd σ z).sh with
   | .one (.c (.d (.int .i64)))=>match call g [.c (.d (.sl e)) ((opd σ (.tmp i)).p 0),.c (.d (.int .i64)) ((opd σ y).p 0),.c (.d (.int .i64)) ((opd σ z).p 0)] with
    | some (r,ok)=>bif r.sh.isX&&bm t&&t.1 != 1000001 then some ((σ.map (bt t)).put dst (.c (.own t true e) (r.p 0)),ok) else none
    | none=>none
   | .one (.c (.own t2 true e2))=>match call g [.c (.d (.sl e)) ((opd σ (.tmp i)).p 0),.c (.d (.int .i64)) ((opd σ y).p 0),.c (.d (.sl e)) ((opd σ z).p 0)] with
    | some (r,ok)=>bif r.sh.isX&&e==e2&&bm t&&bm t2&&t2 != t&&t.1 != 1000001&&t2.1 != 1000001 then some (((σ.map (bt t2)).map (bt t)).put dst (.c (.own t true e) (r.p 0)),ok) else none
    | none=>none
   | _=>none
  | _,_=>none
 | _,_=>none
def Sh.isM:Sh->Bool
 | .tup [.agg [_,_]]=>true
 | _=>false
def ajO(σ:St)(dst:Option Nat)(f:Operand)(xs:List Operand):Stp:=(fun _ _=>none) P call
def evM(σ:St)(dst:Option Nat)(f:Operand)(xs:List Operand):Stp:=(fun _ _=>none) P call
def ny(j:Nat):Ce->Option Ce
 | .d s=>some (.d s)
 | .kb _=>some (.d .bool)
 | .own t true e=>some (.own (1000000,bif bm t then 1000000+j else j) true e)
 | .own _ false e=>some (.d (.sl e))
 | _=>none
def qD:Nat->List Ce->Option (List Ce)
 | _,[]=>some []
 | j,c::cs=>match ny j c,qD (j+1) cs with
  | some d,some ds=>some (d::ds)
  | _,_=>none
def aaA:Ce->Ce->Option Ce
 | .own t true e,.own t' true e'=>bif t'.1==0&&e==e'&&bm t==bm t' then some (.own t true e) else none
 | _,.d s=>some (.d s)
 | _,_=>none
def nu:List Ce->List Ce->Option (List Ce)
 | [],[]=>some []
 | c::cs,r::rs=>match aaA c r,nu cs rs with
  | some d,some ds=>some (d::ds)
  | _,_=>none
 | _,_=>none
def bS:List Ce->List Tok
 | [] => []
 | .own t true _::cs=>t::bS cs
 | _::cs=>bS cs
def PT(v:T):Bool:=
 match v.sh with
 | .one (.c (.ptr _ _))=>false
 | .one (.c (.eptr _ _ _))=>false
 | .one (.c (.fn _ caps))=>caps.all (fun | .ptr _ _=>false | _=>true)
 | _=>true
def NX:List Sh1->Sh
 | [x]=>.one x
 | xs=>.tup xs
def evP(σ:St)(d:Nat)(f:Operand)(xs:List Operand):Stp:=
 match (opd σ f).sh,xs with
 | .one (.c (.fn g caps)),x::ys=>match (opd σ x).sh with
  | .one (.c (.ptr id 0))=>match bH id σ.h with
   | some (cs,ds)=>match qD 0 cs,NJ P σ (ys.map (opd σ)),mh σ caps (((opd σ f).p 0).rows.getD 0 []) with
    | some cs1,some vs,some (qs,es)=>match call g (⟨.tup [.agg cs1],mR cs ds⟩::(vs++vf qs es)) with
     | some (r,ok)=>match r.sh with
      | .tup (.agg [.any]::.agg cs2::res)=>match nu cs cs2 with
       | some J =>
        let ts:=(ys.map (opd σ)).flatMap (eR σ)++eQ σ caps
        bif id != d&&cj (bS cs)&&cj (bS J)&&(bS cs).all (fun t=>t.1 != d&&t.1 != 1000001 && !ts.contains t)&&cj (bS cs2)&&(toks (res.flatMap Sh1.ces)).all (fun t => !(bS cs2).contains t)&&(res.flatMap Sh1.ces).all UG&&PT (opd σ f)&&ys.all (fun y=>PT (opd σ y))&&cj (bS cs1)&&Nat.ble cs.length 1000000 then
         (let O:=(ni (bS cs) (σ.seal ts)).wipe d
          some (St.put ⟨O.r,O.e,rU id (J,sub r.p 1 J.length) O.h⟩ (some d) ⟨(NX res).map (FW d),sub r.p (1+cs2.length) (res.flatMap Sh1.ces).length⟩,ok)) else none
       | none=>none
      | _=>none
     | none=>none
    | _,_,_=>none
   | none=>none
  | _=>none
 | _,_=>none
def Sh.isN:Sh->Bool
 | .tup [.agg (.any::.any::.any::.any::_)]=>true
 | .tup [.agg (.kb false::.any::.any::.any::_)]=>true
 | _=>false
def Ce.isD:Ce->Bool
 | .d _=>true
 | _=>false
def Xg(σ:St)(d:Nat)(f:Operand)(xs:List Operand)(O:List TypeId):Stp:=
 match (opd σ f).sh with
 | .one (.c (.fn g []))=>match qm P σ false xs O with
  | some U=>match call g U with
   | some (r,ok)=>match r.sh with
    | .tup [.agg (.any::.any::.any::.any::cs)]=>bif cs.all Ce.isD then
      (let J:=(σ.seal ((xs.map (opd σ)).flatMap (eR σ))).wipe d
       some (St.put ⟨J.r,J.e,rU d (cs,sub r.p 0 cs.length) J.h⟩ (some d) (.c (.ptr d 0) D0),ok)) else none
    | _=>none
   | none=>none
  | none=>none
 | _=>none
def EI:List Ce->List Ce->List Ce
 | .any::cs,a::az=>a::EI cs az
 | c::cs,_::az=>c::EI cs az
 | _,_ => []
def OH:List Ce->b8->b8->b8
 | [],_,_ => []
 | .any::cs,p,q=>q 0::OH cs p.tail q.tail
 | _::cs,p,q=>p 0::OH cs p.tail q.tail
def Ce.thr:Ce->Bool
 | .any=>true
 | c=>c.isD
def evT(σ:St)(d:Nat)(f:Operand)(xs:List Operand)(O:List TypeId):Stp:=
 match (opd σ f).sh,xs with
 | .one (.c (.fn g [])),x::_=>match qm P σ false xs O with
  | some U=>match call g U with
   | some (r,ok)=>match r.sh,(opd ((σ.seal ((xs.map (opd σ)).flatMap (eR σ))).wipe d) x).sh with
    | .tup [.agg (.kb false::.any::.any::.any::cs)],.one (.agg az)=>bif cs.all Ce.thr&&az.length==cs.length then
      (let J:=(σ.seal ((xs.map (opd σ)).flatMap (eR σ))).wipe d
       some (J.put (some d) ⟨.one (.agg (EI cs az)),OH cs r.p (opd J x).p⟩,ok)) else none
    | _,_=>none
   | none=>none
  | none=>none
 | _,_=>none
def evW(σ:St)(dst:Option Nat)(f:Operand)(xs:List Operand)(J:List TypeId):Stp:=
 match aeQ P call σ dst f xs with
 | some r=>some r
 | none=>match evK P call σ dst f xs J with
  | some r=>some r
  | none=>match ajO P call σ dst f xs with
   | some r=>some r
   | none=>match evX call σ dst f xs with
    | some r=>some r
    | none=>evM P call σ dst f xs
def noW(call:FuncId->List T->Option (T × Bool))(f:FuncId)(args:List T):Option (T × Bool):=
 match call f args with
 | some (r,ok)=>bif r.sh.isW then none else some (r,ok)
 | none=>none
def Gz(σ:St)(o:Oper):Stp:=
 match o.op,o.dst with
 | .alloc t,some d=>oa P σ d (rh call d) t
 | .box _ x,some d=>afL σ d x
 | .build t parts,some d=>TM P σ d (rh call d) t parts.toList
 | .buildSlice t n parts,some d=>bif rh call d then lV P σ d t n parts.toList else oy P σ d t n parts.toList
 | .makeSlice t n c,some d=>vx P σ d (bif rh call d then 1000000 else 0) t n c
 | .store t a x,dst=>JF P σ dst t a x
 | .assign (.const (.slice none 0 0)),some d=>aeD P σ d (bif rh call d then 1000000 else 0) o.type
 | .call { callee:=.builtin .append,args:=xs,argTypes:=ts },some d=>match xs.toList,ts.toList with
  | [x,y],[t,t']=>bif t==t' then KF P σ d t x y else none
  | _,_=>none
 | .call { callee:=.value f,args:=xs,argTypes:=ts },some d=>match evW P call σ (some d) f xs.toList ts.toList with
  | some r=>some r
  | none=>match XQ P call σ d f xs.toList ts.toList with
   | some r=>some r
   | none=>match Xg P call σ d f xs.toList ts.toList with
    | some r=>some r
    | none=>match evT P call σ d f xs.toList ts.toList with
     | some r=>some r
     | none=>evP P call σ d f xs.toList
 | .makeInterface _ _,_=>some (σ,false)
 | .panic _,_=>some (σ,false)
 | _,_=>rp P σ o
abbrev Dom:=List (Nat × Sh) × List (Nat × List Ce)
abbrev Out:=Option (Nat × b8)
abbrev R:=Option (Option Dom × Out)
def ami(a b:Option Dom):Option (Option Dom):=
 match a,b with
 | none,b=>some b
 | some a,none=>some (some a)
 | some a,some b=>bif a==b then some (some a) else none
def pG(c:Bool)(a b:R):R:=
 match a,b with
 | some (d1,o1),some (d2,o2)=>match ami d1 d2 with
  | some d=>some (d,bif c then o1 else o2)
  | none=>none
 | _,_=>none
def gO(c:Bool)(a:R):R:=
 match a with
 | some (k,o)=>some (k,bif c then o else none)
 | none=>none
inductive anj where
 | yes
 | no
 | ask (t:Nat) (g:Bool) (b:Bool)
 | bad
def KR(ops:Array Oper)(σ:St)(o:Oper):anj:=
 match o.guard with
 | none=>.yes
 | some (j,b)=>match (ops[j]?).bind (·.dst) with
  | some t=>match (bZ t σ.e σ.r).sh with
   | .one (.c (.kb c))=>bif c==b then .yes else .no
   | .one (.c (.d .bool))=>.ask t ((bZ t σ.e σ.r).p 0).bool b
   | .tup []=>.no
   | _=>.bad
  | none=>.bad
def GU(σ:St)(o:Oper)(k:St->R):R:=
 match Gz P call σ o with
 | some (σ',ok)=>gO ok (k σ')
 | none=>none
def qF(ops:Array Oper)(σ:St)(o:Oper)(y:St->R)(k:St->R):R:=
 match KR ops σ o with
 | .yes=>y σ
 | .no=>k (σ.put o.dst .none_)
 | .ask t g b=>pG g
   (bif b then y (σ.put (some t) (.c (.kb true) D0)) else k ((σ.put (some t) (.c (.kb true) D0)).put o.dst .none_))
   (bif b then k ((σ.put (some t) (.c (.kb false) D0)).put o.dst .none_) else y (σ.put (some t) (.c (.kb false) D0)))
 | .bad=>none
def YV(ops:Array Oper)(σ:St)(o:Oper)(k:St->R):R:=qF ops σ o (fun J=>GU P call J o k) k
def TG(σ:St)(o:Oper)(k:St->R):R:=
 match rp P σ o with
 | some (σ',ok)=>gO ok (k σ')
 | none=>none
def ve(ops:Array Oper):List Oper->St->(St->R)->R
 | [],σ,k=>k σ
 | o::rest,σ,k=>YV P call ops σ o fun J=>ve ops rest J k
def isQ(o:Oper):Bool:=
 match o.op with
 | .move _ | .nilCheck _ | .pick .. | .load .. | .fieldAddr .. | .field .. | .indexAddr .. | .index .. | .binOp .. | .unOp .. | .extract .. | .slice .. | .convert .. | .makeFunc .. => true
 | .assign (.const (.slice none 0 0))=>false
 | .assign _=>true
 | .call { callee:=.builtin .len,.. }=>true
 | _=>false
def isC(o:Oper):Bool:=
 match o.op with
 | .call { callee:=.value _,.. }=>true
 | _=>false
def isA(o:Oper):Bool:=
 match o.op,o.dst with
 | .alloc _,some _=>true
 | _,_=>false
def isM(o:Oper):Bool:=
 match o.op,o.dst with
 | .box ..,some _ | .build ..,some _ | .buildSlice ..,some _ | .makeSlice ..,some _ | .assign (.const (.slice none 0 0)),some _=>true
 | _,_=>false
def calm(o:Oper):Bool:=isQ o||isC o||isA o||isM o
def sf(o:Oper):Bool:=
 match o.op with
 | .move _ | .nilCheck _ | .pick .. | .fieldAddr .. | .field .. | .indexAddr .. | .index .. | .binOp .. | .unOp .. | .extract .. | .slice .. | .convert .. | .makeFunc .. => true
 | .call { callee:=.builtin .len,.. }=>true
 | _=>false
def Eb(ops:Array Oper):Bool:=ops.toList.all fun o=>sf o||isC o
def Vk(ops:Array Oper)(J:Array Bool)(i:Nat):List Nat:=(List.range ops.size).foldl (fun S j=>bif !J.getD j true&&(match ops[j]? with
 | some O=>O.after.any fun e=>Region.binds .any e&&(e.on==i||S.contains e.on)
 | none=>false) then j::S else S) []
def RG(ops:Array Oper)(J:Array Bool)(i:Nat)(S:List Nat):Bool:=S.all fun j => !J.getD j true&&match ops[j]? with
 | some O=>O.after.any fun e=>Region.binds .any e&&(e.on==i||S.contains e.on)
 | none=>false
def NN(ops:Array Oper)(J:Array Bool)(i:Nat):Bool:=
 match ops[i]? with
 | some oi => !Eb ops&&isQ oi&&RG ops J i (Vk ops J i)&&(List.range ops.size).all fun j=>j==i||J.getD j true||(Vk ops J i).contains j||match ops[j]? with
  | some O=>oi.apart ops O&&calm O
  | none=>true
 | none=>false
def wx(ops:Array Oper)(J:Array Bool)(i:Nat):Bool:=
 NN ops J i||(match ops[i]? with
  | some o=>isQ o
  | none=>false)&&Region.free .any ops J i &&
 (List.range ops.size).all fun j=>j==i||J.getD j true||match ops[j]? with
  | some O=>calm O||O.after.any (fun e=>Region.binds .any e&&e.on==i)
  | none=>true
def UY(ops:Array Oper):Bool:=(List.range ops.size).all fun i=>(List.range ops.size).all fun j=>i==j||match ops[i]?,ops[j]? with
 | some oi,some oj=>oi.dst.isNone||oi.dst != oj.dst
 | _,_=>true
def pX(ops:Array Oper)(o:Oper):Bool:=
 match o.op with
 | .store _ (.tmp d) _=>UY ops&&o.after.any fun e=>Region.binds .any e&&match ops[e.on]? with
  | some o'=>isA o'&&o'.guard.isNone&&o'.dst==some d
  | none=>false
 | _=>false
def DW(ops:Array Oper)(J:Array Bool):Bool:=(List.range ops.size).all fun j => !(J.getD j true)||match ops[j]? with
 | some o=>isQ o
 | none=>true
def tV(ops:Array Oper)(J:Array Bool)(i:Nat):Bool:=
 (match ops[i]? with
  | some o=>isQ o
  | none=>false)&&Region.free .any ops J i&&DW ops J &&
 (List.range ops.size).all fun j=>j==i||J.getD j true||match ops[j]? with
  | some O=>calm O||pX ops O||O.after.any (fun e=>Region.binds .any e&&e.on==i)
  | none=>true
def LT(ops:Array Oper)(J:Array Bool)(j k:Nat):Bool:=
 match ops[j]?,ops[k]? with
 | some oj,some ok=>isA oj&&isA ok&&oj.guard.isNone&&ok.guard.isNone&&oj.dst != ok.dst&&Region.ready .any ops (J.setIfInBounds j true) == [k]&&Region.ready .any ops (J.setIfInBounds k true) == [j]
 | _,_=>false
def VY(q:Nat × Bool)(o:Option (List (Nat × Bool))):Option (List (Nat × Bool)):=
 match o with
 | some l=>some (q::l)
 | none=>none
def Gj(ops:Array Oper):Nat->Array Bool->Option (List (Nat × Bool))
 | 0,listed=>match Region.ready .any ops listed with
  | []=>some []
  | _::_=>none
 | n+1,listed=>match Region.ready .any ops listed with
  | []=>some []
  | j::r=>match (j::r).find? (fun i=>wx ops listed i||tV ops listed i) with
   | some i=>VY (i,true) (Gj ops n (listed.setIfInBounds i true))
   | none=>match r with
    | []=>VY (j,false) (Gj ops n (listed.setIfInBounds j true))
    | [k]=>bif LT ops listed j k then VY (j,false) (Gj ops n (listed.setIfInBounds j true)) else none
    | _::_::_=>none
def Bz(ops:Array Oper):List (Nat × Bool)->St->(St->R)->R
 | [],σ,k=>k σ
 | (i,q)::rest,σ,k=>match ops[i]? with
  | some o=>qF ops σ o (fun O=>bif q then TG P O o (fun J=>Bz ops rest J k) else GU P call O o (fun J=>Bz ops rest J k)) (fun J=>Bz ops rest J k)
  | none=>none
def Zy(ops:Array Oper):Bool:=(List.range ops.size).all fun j=>match ops[j]? with
 | some J=>J.after.all fun e=>Nat.blt e.on j
 | none=>true
def SY(ops:Array Oper)(i j:Nat):Bool:=RG ops (Array.replicate ops.size false) i (Vk ops (Array.replicate ops.size false) i)&&(Vk ops (Array.replicate ops.size false) i).contains j
def MK(ops:Array Oper)(j:Nat):Bool:=Zy ops&&(List.range ops.size).all fun i=>i==j||SY ops i j||SY ops j i||match ops[i]? with
 | some oi=>sf oi
 | none=>false
def YS(ops:Array Oper)(i:Nat)(σ:St)(o:Oper)(k:St->R):R:=
 match Gz P (noW call) σ o with
 | some (σ',ok)=>gO ok (k σ')
 | none=>bif isC o&&MK ops i then GU P call σ o k else none
def lT(ops:Array Oper):List (Nat × Bool)->St->(St->R)->R
 | [],σ,k=>k σ
 | (i,q)::rest,σ,k=>match ops[i]? with
  | some o=>qF ops σ o (fun O=>bif q then TG P O o (fun J=>lT ops rest J k) else YS P call ops i O o (fun J=>lT ops rest J k)) (fun J=>lT ops rest J k)
  | none=>none
def evS(ops:Array Oper):List (Nat × Bool)->St->Option (St × Bool)
 | [],σ=>some (σ,true)
 | (i,q)::rest,σ=>match ops[i]? with
  | some o=>match KR ops σ o with
   | .yes=>match (bif q then rp P σ o else Gz P call σ o) with
    | some (σ',ok)=>match evS ops rest σ' with
     | some (τ,ok')=>some (τ,ok&&ok')
     | none=>none
    | none=>none
   | .no=>evS ops rest (σ.put o.dst .none_)
   | _=>none
  | none=>none
def tg(q:Nat × Bool)(o:Option (List (List (Nat × Bool)))):Option (List (List (Nat × Bool))):=
 match o with
 | some []=>none
 | some (l::ls)=>some ((l::ls).map (q :: ·))
 | none=>none
def NU(a b:Option (List (List (Nat × Bool)))):Option (List (List (Nat × Bool))):=
 match a,b with
 | some x,some y=>some (x++y)
 | _,_=>none
def Fu(ops:Array Oper):Nat->Array Bool->Option (List (List (Nat × Bool)))
 | 0,listed=>match Region.ready .any ops listed with
  | []=>some [[]]
  | _::_=>none
 | n+1,listed=>match Region.ready .any ops listed with
  | []=>some [[]]
  | j::r=>match (j::r).find? (fun i=>wx ops listed i||tV ops listed i) with
   | some i=>tg (i,true) (Fu ops n (listed.setIfInBounds i true))
   | none=>(j::r).foldr (fun i J=>NU (tg (i,false) (Fu ops n (listed.setIfInBounds i true))) J) (some [])
def Ep(σ J:St):List Nat:=((σ.r.map (·.1)++σ.e.map (·.1))++(J.r.map (·.1)++J.e.map (·.1))).eraseDups
def wJ(σ J:St):List Nat:=(σ.h.map (·.1)++J.h.map (·.1)).eraseDups
def Sv(σ J:St):Bool:=
 (Ep σ J).all (fun i=>(bZ i σ.e σ.r).sh==(bZ i J.e J.r).sh) &&
 (wJ σ J).all fun i=>(bH i σ.h).map (·.1)==(bH i J.h).map (·.1)
def aiT(σ J:St):List b8:=
 (Ep σ J).map (fun i=>(bZ i σ.e σ.r).p)++(wJ σ J).map fun i=>((bH i σ.h).getD ([],[])).2
def Ug(σ J:St):List b8:=
 (Ep σ J).map (fun i=>(bZ i J.e J.r).p)++(wJ σ J).map fun i=>((bH i J.h).getD ([],[])).2
def ec(a b:List b8):Bool:=@decide (a=b) (Classical.propDecidable _)
def Sk(ops:Array Oper)(σ J:St):List (List (Nat × Bool))->R->R
 | [],r=>r
 | l::ls,r=>match evS P call ops l σ with
  | some (τ,ok)=>bif Sv J τ then gO (ok&&ec (aiT J τ) (Ug J τ)) (Sk ops σ J ls r) else none
  | none=>none
def aat(ops:Array Oper)(σ:St)(k:St->R):List (List (Nat × Bool))->R
 | []=>none
 | l::ls=>match evS P call ops l σ with
  | some (σ0,ok)=>gO ok (Sk P call ops σ σ0 ls (k σ0))
  | none=>none
def ahc(ops:Array Oper)(J:Array Bool)(i:Nat):Bool:=
 (match ops[i]? with
  | some o=>isQ o&&sf o
  | none=>false)&&Region.free .any ops J i
def xX(ops:Array Oper):Nat->Array Bool->Option (List (List (Nat × Bool)))
 | 0,listed=>match Region.ready .any ops listed with
  | []=>some [[]]
  | _::_=>none
 | n+1,listed=>match Region.ready .any ops listed with
  | []=>some [[]]
  | j::r=>match (j::r).find? (ahc ops listed) with
   | some i=>tg (i,true) (xX ops n (listed.setIfInBounds i true))
   | none=>(j::r).foldr (fun i J=>NU (tg (i,false) (xX ops n (listed.setIfInBounds i true))) J) (some [])
def BJ(ops:Array Oper)(σ:St)(k:St->R):R:=
 match xX ops ops.size (Array.replicate ops.size false) with
 | some J=>aat P call ops σ k J
 | none=>none
def zS(ops:Array Oper)(σ:St)(k:St->R):R:=
 bif Region.noSelect ops&&P.follows .mixedOrders then (match Gj ops ops.size (Array.replicate ops.size false) with
  | some l=>bif Eb ops then Bz P call ops l σ k else (match lT P call ops l σ k with
   | some r=>some r
   | none=>BJ P call ops σ k)
  | none=>match Fu ops ops.size (Array.replicate ops.size false) with
   | some J=>match aat P (noW call) ops σ k J with
    | some r=>some r
    | none=>BJ P call ops σ k
   | none=>BJ P call ops σ k) else none
def oB(dom:List Nat)(e:Env):Env:=dom.map fun i=>(i,cY i e)
def St.restrict(J σ:St):St:=⟨[],(J.e.map (·.1)).map fun i=>(i,bZ i σ.e σ.r),σ.h.filter fun p=>(J.h.map (·.1)).contains p.1⟩
def St.dom(σ:St):Dom:=(σ.e.map fun p=>(p.1,p.2.sh),σ.h.map fun p=>(p.1,p.2.1))
def Sh.size:Sh->Nat
 | .one x=>x.size
 | .tup xs=>xs.foldr (fun s n=>s.size+n) 0
def St.flat(σ:St):b8:=(σ.e.flatMap fun p=>sub p.2.p 0 p.2.sh.size)++(σ.h.flatMap fun p=>sub p.2.2 0 p.2.1.length)
def mkE:List (Nat × Sh)->b8->Nat->Env × Nat
 | [],_,o=>([],o)
 | (i,s)::r,p,o=>((i,⟨s,sub p o s.size⟩)::(mkE r p (o+s.size)).1,(mkE r p (o+s.size)).2)
def mkH:List (Nat × List Ce)->b8->Nat->sH
 | [],_,_ => []
 | (i,cs)::r,p,o=>(i,cs,sub p o cs.length)::mkH r p (o+cs.length)
def mkSt(d:Dom)(p:b8):St:=⟨[],(mkE d.1 p 0).1,mkH d.2 p (mkE d.1 p 0).2⟩
def yp:R->Out
 | some (_,o)=>o
 | none=>none
def ba(step:b8->Out):Nat->b8->Out
 | 0,_=>none
 | n+1,p=>match step p with
  | some (0,p')=>ba step n p'
  | o=>o
def cW:Code->List Nat
 | .exit id => [id]
 | .seq a b=>cW a++cW b
 | .cond _ a b=>cW a++cW b
 | .block id c=>(cW c).filter (· != id)
 | .loop c=>cW c
 | .scope c=>cW c
 | _ => []
def restrictD(d:Dom)(σ:St):St:=⟨[],oB (d.1.map (·.1)) σ.e,σ.h.filter fun p=>(d.2.map (·.1)).contains p.1⟩
def lg(d:Dom)(code:Nat)(σ:St):R:=
 bif (restrictD d σ).dom==d&&σ.r.isEmpty then some (some d,some (code,(restrictD d σ).flat)) else none
def bV(x:Option b8):R:=
 match x with
 | some p=>some (none,some (1,p))
 | none=>none
def Out.code(o:Out):Nat:=(o.getD (0,[])).1
def Out.pay(o:Out):b8:=(o.getD (0,[])).2
def wY(O:List Nat)(o:Out)(σ:St)(J:Nat->St->R):R:=
 match O with
 | []=>none
 | [j]=>gO (o.code==j+2) (J j σ)
 | j::r=>pG (o.code==j+2) (J j σ) (wY r o σ J)
def fS:Code->Bool
 | .ret=>true
 | .seq a b=>fS a||fS b
 | .cond _ a b=>fS a||fS b
 | .block _ c=>fS c
 | .loop c=>fS c
 | .scope c=>fS c
 | _=>false
def abR:Code->Bool
 | .loop _=>true
 | _=>false
def nY:List Nat->List Nat
 | [] => []
 | k::r=>bif Nat.ble 1000000 k then (k - 1000000)::nY r else nY r
def iy:List Nat->Env->Env
 | [],e=>e
 | i::r,e=>LS i (iy r e)
def St.shed(ks:List Nat)(c:Code)(σ:St):St:=bif abR c then⟨σ.r,iy (nY ks) σ.e,σ.h⟩ else σ
def EC(id:Nat):List Nat->List Nat
 | [] => []
 | k::r=>bif Nat.ble 5000000 k&&Nat.beq ((k - 5000000) / 1000) id then ((k - 5000000) % 1000)::EC id r else EC id r
def St.cut(id:Nat)(ks:List Nat)(σ:St):St:=⟨σ.r,iy (EC id ks) (iy (nY ks) σ.e),σ.h⟩
def St.learn(ks:List Nat)(c:Operand)(b:Bool)(σ:St):St:=
 match c with
 | .tmp i=>bif ks.contains (9000000+i) then⟨σ.r,Bu i (.c (.kb b) D0) σ.e,σ.h⟩ else σ
 | _=>σ
section
variable (ks:List Nat)
def r0:R:=some (none,none)
def Lk(a b:R):R:=
 match a with
 | some (some d,o)=>some (some d,o)
 | _=>b
def qv:Ce->Ce
 | .kb _=>.d .bool
 | c=>c
def aaQ:Ce->D->D
 | .kb b,_=>.b b
 | _,x=>x
def iU:List Ce->b8->Nat->b8
 | [],_,_ => []
 | c::cs,ds,i=>aaQ c (ds i)::iU cs ds (i+1)
def T.wide(v:T):T:=
 match v.sh with
 | .one (.c c)=>⟨.one (.c (qv c)),[aaQ c (v.p 0)]⟩
 | .one (.agg cs)=>⟨.one (.agg (cs.map qv)),iU cs v.p 0⟩
 | .tup _=>v
def St.wide(σ:St):St:=⟨σ.r,σ.e.map fun p=>(p.1,p.2.wide),σ.h.map fun p=>(p.1,p.2.1.map qv,iU p.2.1 p.2.2 0)⟩
def HD(σ:St):R:=some (some σ.wide.dom,none)
def amk(σ J:St):R:=some (some (σ.restrict J).dom,none)
def BH(U:Bool)(Y:List Nat)(o:Out)(J:St)(O:St->R)(Z:Nat->St->R)(V:Option b8->R):R:=
 match Y,U with
 | [],false=>gO (o.code==0) (O J)
 | [],true=>pG (o.code==0) (O J) (gO (o.code==1) (V (some o.pay)))
 | i::is,false=>pG (o.code==0) (O J) (wY (i::is) o J Z)
 | i::is,true=>pG (o.code==0) (O J) (pG (o.code==1) (V (some o.pay)) (wY (i::is) o J Z))
def hZ:List Nat->List Nat
 | [] => []
 | k::r=>bif Nat.ble 2000000 k then (k - 2000000)::hZ r else hZ r
def WL(c:Operand):Bool:=
 match c with
 | .tmp i=>(hZ ks).contains (8000000+i)
 | _=>false
def kJ(id:Nat):Code->St->(St->R)->(Nat->St->R)->R
 | .skip,σ,kn,_=>kn σ
 | .region id ops draw,σ,kn,_ =>
  bif (hZ ks).contains (1000000+id) then
   match (bif draw then zS P call ops (σ.cut id ks) (fun J=>HD (J.settle ks)) else ve P call ops ops.toList (σ.cut id ks) fun J=>HD (J.settle ks)) with
   | some (some d,_)=>kn (mkSt d [])
   | _=>none
  else bif draw then zS P call ops (σ.cut id ks) (fun J=>kn (J.settle ks)) else ve P call ops ops.toList (σ.cut id ks) fun J=>kn (J.settle ks)
 | .seq a b,σ,kn,kx=>kJ id a σ (fun J=>kJ id b J kn kx) kx
 | .cond c a b,σ,kn,kx=>match (opd σ c).sh with
  | .one (.c (.kb t))=>bif t then kJ id a σ kn kx else kJ id b σ kn kx
  | .one (.c (.d .bool)) =>
   bif WL ks c then Lk (kJ id a σ (fun J=>kn (J.settle ks).wide) kx) (kJ id b σ (fun J=>kn (J.settle ks).wide) kx)
   else Lk (kJ id a σ kn kx) (kJ id b σ kn kx)
  | _=>none
 | .block j c,σ,kn,kx=>bif j==id then some (some (σ.shed ks c).dom,none) else kJ id c (σ.shed ks c) (fun J=>kn ((σ.shed ks c).restrict J)) (fun i J=>bif i==j then kn ((σ.shed ks c).restrict J) else kx i J)
 | .loop b,σ,_,kx=>Lk (kJ id b (mkSt σ.dom σ.flat) (fun _=>r0) (fun _ _=>r0)) (match cW b with
  | []=>r0
  | j::_=>kx j (mkSt σ.dom σ.flat))
 | .scope c,σ,kn,kx=>kJ id c σ kn kx
 | .exit j,σ,_,kx=>kx j σ
 | .ret,_,_,_=>r0
 | _,_,_,_=>none
end
variable (N:Nat) (ks:List Nat) (fin:St->Option b8)
def cE:Code->St->(St->R)->(Nat->St->R)->(Option b8->R)->R
 | .skip,σ,kn,_,_=>kn σ
 | .region id ops draw,σ,kn,_,_ =>
  bif (hZ ks).contains (1000000+id) then
   match (bif draw then zS P call ops (σ.cut id ks) (fun J=>HD (J.settle ks)) else ve P call ops ops.toList (σ.cut id ks) fun J=>HD (J.settle ks)) with
   | some (some d,_) =>
    match (bif draw then zS P call ops (σ.cut id ks) (fun J=>lg d 0 (J.settle ks).wide) else ve P call ops ops.toList (σ.cut id ks) fun J=>lg d 0 (J.settle ks).wide) with
    | some (_,o)=>gO o.isSome (kn (mkSt d o.pay))
    | none=>none
   | _=>none
  else bif draw then zS P call ops (σ.cut id ks) (fun J=>kn (J.settle ks)) else ve P call ops ops.toList (σ.cut id ks) fun J=>kn (J.settle ks)
 | .seq a b,σ,kn,kx,kr=>cE a σ (fun J=>cE b J kn kx kr) kx kr
 | .cond c a b,σ,kn,kx,kr=>match (opd σ c).sh with
  | .one (.c (.kb t))=>bif t then cE a σ kn kx kr else cE b σ kn kx kr
  | .one (.c (.d .bool)) =>
   bif WL ks c then
    match Lk (kJ P call ks 999999 a σ (fun J=>HD (J.settle ks)) (fun _ _=>r0)) (kJ P call ks 999999 b σ (fun J=>HD (J.settle ks)) (fun _ _=>r0)) with
    | some (some d,_) =>
     match pG ((opd σ c).p 0).bool (cE a (σ.learn ks c true) (fun J=>lg d 0 (J.settle ks).wide) (fun j J=>lg d (j+2) (J.settle ks).wide) bV) (cE b (σ.learn ks c false) (fun J=>lg d 0 (J.settle ks).wide) (fun j J=>lg d (j+2) (J.settle ks).wide) bV) with
     | some (_,o)=>gO o.isSome (BH (fS a||fS b) (cW a++cW b).eraseDups o (mkSt d o.pay) kn kx kr)
     | none=>none
    | _=>none
   else pG ((opd σ c).p 0).bool (cE a (σ.learn ks c true) kn kx kr) (cE b (σ.learn ks c false) kn kx kr)
  | _=>none
 | .block id c,σ,kn,kx,kr =>
  bif (hZ ks).contains id then
   match kJ P call ks 999999 c σ (amk σ) (fun j J=>bif j==id then amk σ J else r0) with
   | some (some d,_) =>
    match cE c σ (lg d 0) (fun j=>bif j==id then lg d 0 else lg d (j+2)) bV with
    | some (_,o)=>gO o.isSome (BH (fS c) ((cW c).filter (· != id)).eraseDups o (mkSt d o.pay) kn kx kr)
    | none=>none
   | _=>none
  else cE c (σ.shed ks c) (fun J=>kn ((σ.shed ks c).restrict J)) (fun j J=>bif j==id then kn ((σ.shed ks c).restrict J) else kx j J) kr
 | .loop c,σ,_,kx,kr =>
  bif !σ.r.isEmpty then none else
   let o:=ba (fun p=>yp (cE c (mkSt σ.dom p) (lg σ.dom 0) (fun j=>lg σ.dom (j+2)) bV)) N σ.flat
   let out:=wY (cW c).eraseDups o (mkSt σ.dom o.pay) kx
   gO o.isSome (bif fS c then (match cW c with
    | []=>gO (o.code==1) (kr (some o.pay))
    | _=>pG (o.code==1) (kr (some o.pay)) out) else out)
 | .exit id,σ,_,kx,_=>kx id σ
 | .ret,σ,_,_,kr=>kr (fin σ)
 | _,_,_,_,_=>none
def ut(c:Code)(d:Dom)(p:b8):Out:=yp (cE P call N ks fin c (mkSt d p) (lg d 0) (fun j=>lg d (j+2)) bV)
def agn(a b:Option Code):Option Code:=
 match a with
 | some c=>some c
 | none=>b
def nH(id:Nat):Code->Option Code
 | .seq a b=>agn (nH id a) (nH id b)
 | .cond _ a b=>agn (nH id a) (nH id b)
 | .block j c=>bif j==id then (match c with | .loop b=>some b | _=>none) else nH id c
 | .loop c=>nH id c
 | .scope c=>nH id c
 | _=>none
def rY(σ:St):List ResultVar->Option (List Sh1 × b8)
 | []=>some ([],[])
 | r::rs =>
  let v:Option T:=match r with
   | .tmp t=>some (bZ t σ.e σ.r)
   | .cell a t=>AM P t σ (bZ a σ.e σ.r)
  match v,rY σ rs with
  | some v,some (shs,p)=>match v.sh with
   | .one (.c (.kb b))=>some (.c (.d .bool)::shs,.b b::p)
   | .one x=>some (x::shs,sub v.p 0 x.size++p)
   | .tup _=>none
  | _,_=>none
def Sh.list:Sh->List Sh1
 | .one x => [x]
 | .tup xs=>xs
def ZI:List Ce->List Ce->List Tok
 | .own t true _::cs,.own _ true _::rs=>ZI cs rs
 | .own t _ _::cs,_::rs=>t::ZI cs rs
 | _::cs,_::rs=>ZI cs rs
 | _,_ => []
def dv:List Ce->List Ce->List (Tok × Tok)
 | .own t _ _::cs,.own t' _ _::rs=>(t,t')::dv cs rs
 | _::cs,_::rs=>dv cs rs
 | _,_ => []
def KK(c r:Ce):Bool:=
 match c,r with
 | .d s,.d s'=>s==s'
 | .own t x e,.own t' x' e'=>x==x'&&e==e'&&t'.1==0&&(!x||bm t==bm t')
 | .own _ false e,.d (.sl e')=>e==e'
 | _,_=>false
def Hy:List Ce->List Ce->Bool
 | [],[]=>true
 | c::cs,r::rs=>KK c r&&Hy cs rs
 | _,_=>false
def amr:Sh1->Sh1->Bool
 | .c x,.c y=>KK x y
 | .agg xs,.agg ys=>Hy xs ys
 | _,_=>false
def fit:List Sh1->List Sh1->Bool
 | [],[]=>true
 | x::xs,y::ys=>amr x y&&fit xs ys
 | _,_=>false
def dU(xs:List Sh1):List Ce:=xs.flatMap Sh1.ces
def Sh.tupOk:Sh->Bool
 | .one _=>true
 | .tup xs=>xs.length != 1
def fY(fn:Func)(rs:Sh)(σ:St):Option b8:=
 match rY P σ fn.results.toList with
 | some (shs,p) =>bif fit (shs.map (Sh1.map (eO (ZI (dU shs) (dU rs.list))))) rs.list&&cj ((dv (dU shs) (dU rs.list)).map (·.1))&&cj ((dv (dU shs) (dU rs.list)).map (·.2))&&rs.tupOk then some p else none
 | none=>none
def ox:Nat->List T->Env
 | _,[] => []
 | i,v::vs=>(i,v)::ox (i+1) vs
def start(args:List T):St:=⟨[],ox 0 args,[]⟩
def gY(n:Nat):Code->Bool
 | .region _ ops _=>ops.toList.all fun o=>match o.dst with | some d=>Nat.blt d n | none=>true
 | .seq a b=>gY n a&&gY n b
 | .cond _ a b=>gY n a&&gY n b
 | .block _ c=>gY n c
 | .loop c=>gY n c
 | .scope c=>gY n c
 | _=>true
def aZ(fn:Func)(rs:Sh)(args:List T):R:=
 match fn.body with
 | some c=>bif gY fn.ntmps c&&Nat.ble args.length fn.ntmps&&Nat.ble fn.ntmps 1000000 then
   cE P call N ks (fY P fn rs) c (start args) (fun σ=>bV (fY P fn rs σ)) (fun _ _=>none) bV
   else none
 | none=>none
def hY(fn:Func)(rs:Sh)(σ:St):Option b8:=
 match rs,bH 1000000 σ.h,rY P σ fn.results.toList with
 | .tup (.agg [.any]::.agg cs2::res),some (cs,ds),some (shs,p) =>bif fit ((.agg (cs.map qv)::shs).map (Sh1.map (eO (ZI (dU (.agg (cs.map qv)::shs)) (dU (.agg cs2::res)))))) (.agg cs2::res)&&cj ((dv (dU (.agg (cs.map qv)::shs)) (dU (.agg cs2::res))).map (·.1))&&cj ((dv (dU (.agg (cs.map qv)::shs)) (dU (.agg cs2::res))).map (·.2)) then some (D0::(iU cs ds 0++p)) else none
 | _,_,_=>none
def EW(cs:List Ce)(ds:b8)(args:List T):St:=⟨[],ox 0 (.c (.ptr 1000000 0) D0::args),[(1000000,cs,sub ds 0 cs.length)]⟩
def vh(fn:Func)(rs:Sh)(args:List T):R:=
 match fn.body,args with
 | some c,⟨.tup [.agg cs],ds⟩::rest=>bif gY fn.ntmps c&&Nat.ble args.length fn.ntmps&&Nat.ble fn.ntmps 1000000 then
   cE P call N ks (hY P fn rs) c (EW cs ds rest) (fun σ=>bV (hY P fn rs σ)) (fun _ _=>none) bV
   else none
 | _,_=>none
def SO(fn:Func)(rs:Sh)(args:List T)(id:Nat):b8->Out:=
 match fn.body,args with
 | some c,⟨.tup [.agg cs],ds⟩::rest=>match kJ P call ks id c (EW cs ds rest) (fun _=>r0) (fun _ _=>r0),nH id c with
  | some (some d,_),some b=>ut P call N ks (hY P fn rs) b d
  | _,_=>fun _=>none
 | _,_=>fun _=>none
def EP(fn:Func)(cs:List Ce)(σ:St):Option b8:=
 match fn.results.toList with
 | [.tmp t]=>match (bZ t σ.e σ.r).sh with
  | .one (.c (.ptr id 0))=>match bH id σ.h with
   | some (cs',ds)=>bif cs'==cs then some (sub ds 0 cs.length) else none
   | none=>none
  | _=>none
 | _=>none
def afr(fn:Func)(rs:Sh)(args:List T):R:=
 match fn.body,rs with
 | some c,.tup [.agg (.any::.any::.any::.any::cs)]=>bif gY fn.ntmps c&&Nat.ble args.length fn.ntmps&&Nat.ble fn.ntmps 1000000&&cs.all Ce.isD then
   cE P call N ks (EP fn cs) c (start args) (fun σ=>bV (EP fn cs σ)) (fun _ _=>none) bV
   else none
 | _,_=>none
def ajo(fn:Func)(rs:Sh)(args:List T)(id:Nat):b8->Out:=
 match fn.body,rs with
 | some c,.tup [.agg (.any::.any::.any::.any::cs)]=>match kJ P call ks id c (start args) (fun _=>r0) (fun _ _=>r0),nH id c with
  | some (some d,_),some b=>ut P call N ks (EP fn cs) b d
  | _,_=>fun _=>none
 | _,_=>fun _=>none
def bc(fn:Func)(rs:Sh)(args:List T)(id:Nat):b8->Out:=
 match fn.body with
 | some c=>match kJ P call ks id c (start args) (fun _=>r0) (fun _ _=>r0),nH id c with
  | some (some d,_),some b=>ut P call N ks (fY P fn rs) b d
  | _,_=>fun _=>none
 | none=>fun _=>none
end
def bsv(l:List UInt8):ByteArray:=⟨l.toArray⟩
theorem sX(s:ByteArray):bsv (oJ s)=s:=by cases s;simp[bsv,oJ]
theorem aL(d:D)(p:b8):(d::p) 0=d:=rfl
theorem aJ(d:D)(p:b8)(i:Nat):(d::p) (i+1)=p i:=by simp[gd]
theorem dG(p:b8)(i:Nat):p.tail i=p (i+1):=by cases p <;> simp[gd]
theorem eH(p:b8):∀(n o:Nat),(sub p o n).length=n
 | 0,_=>rfl
 | n+1,o=>by simp[sub,eH p n]
theorem fq(p:b8):∀(n o i:Nat),i<n->sub p o n i=p (o+i)
 | 0,_,_,h=>by omega
 | n+1,o,0,_=>by simp[sub,aL]
 | n+1,o,i+1,h=>by
  rw[sub,aJ,fq p n (o+1) i (by omega)]
  congr 1;omega
structure G where
 prot:Nat->Nat
 owner:Nat->Option (Nat ⊕ Tok)
 θ:Nat->Nat
 ρ:Tok->Nat
 len:Tok->Nat
 wid:Tok->Nat
 ety:Tok->TypeId
 path:Nat->List (Nat × Nat)
 need:Nat->Nat
 old:Nat->Prop
def DR:Value->Bool
 | .agg _ | .tuple _=>false
 | _=>true
inductive VD (P:Program) (w:World) (prot:Nat->Nat):S->D->Value->Prop
 | int (k:IntKind) (d:D):VD P w prot (.int k) d (.int k d.int)
 | bool (d:D):VD P w prot .bool d (.bool d.bool)
 | str (d:D):VD P w prot .str d (.string (bsv d.str))
 | sl (e:TypeId) (d:D) (A:Option Addr) (c:Nat) (row:List S) (u:Nat->Nat->Value) (hr:bk P e=some row)
   (h1:d.rows.length<=c) (h2:c<=9223372036854775807)
   (h3:∀i j,i<d.rows.length->j<row.length->∃b o,A=some ⟨b,o,none⟩/\w.cell? ⟨b,o+(i*row.length+j),none⟩=some (u i j)/\o+(i*row.length+j)<prot b)
   (h4:∀i j s,i<d.rows.length->row[j]?=some s->VD P w prot s (d.rows.getD i [] j) (u i j)):VD P w prot (.sl e) d (.slice A d.rows.length c)
 | opq (d:D) (h:DR d.val=true):VD P w prot .opq d d.val
theorem dn{w:World}{b o:Nat}{v:Value}(h:w.cell? ⟨b,o,none⟩=some v):b<w.heap.size:=by
 rcases A6 b w.heap.size with hlt | hge
 ·exact hlt
 ·unfold World.cell? at h;rw[F1 hge] at h;cases h
theorem bd{w w':World}{b:Nat}(h:w'.heap[b]?=w.heap[b]?)(o:Nat):w'.cell? ⟨b,o,none⟩=w.cell? ⟨b,o,none⟩:=by unfold World.cell?;simp only;rw[h]
theorem VD.mono{P:Program}{w w':World}{prot J:Nat->Nat}{s:S}{x:D}{v:Value}(h:VD P w prot s x v)
  (hk:∀b o u,o<prot b->w.cell? ⟨b,o,none⟩=some u->w'.cell? ⟨b,o,none⟩=some u/\o<J b):VD P w' J s x v:=by
 induction h with
 | int k d=>exact .int k d
 | bool d=>exact .bool d
 | str d=>exact .str d
 | opq d h=>exact .opq d h
 | sl e d A c row u Y h1 V Z h4 ih =>refine .sl e d A c row u Y h1 V (fun i j hi hj=>?_) (fun i j s hi hs=>ih i j s hi hs);obtain⟨b,o,hA,hc,U⟩:=Z i j hi hj;obtain⟨O,k2⟩:=hk b _ _ U hc;exact⟨b,o,hA,O,k2⟩
theorem VD.flat{P:Program}{w:World}{prot:Nat->Nat}{s:S}{x:D}{v:Value}(h:VD P w prot s x v):DR v=true:=by cases h <;> first | rfl | assumption
inductive TR (P:Program) (w:World) (lab:Nat->List (Nat × Nat)->Nat->Prop):List (Nat × Nat)->S->D->Value->Prop
 | int (π:List (Nat × Nat)) (k:IntKind) (d:D):TR P w lab π (.int k) d (.int k d.int)
 | bool (π:List (Nat × Nat)) (d:D):TR P w lab π .bool d (.bool d.bool)
 | str (π:List (Nat × Nat)) (d:D):TR P w lab π .str d (.string (bsv d.str))
 | nil (π:List (Nat × Nat)) (e:TypeId) (d:D) (A:Option Addr) (hr:(bk P e).isSome=true) (h:d.rows = []):TR P w lab π (.sl e) d (.slice A 0 0)
 | sl (π:List (Nat × Nat)) (e:TypeId) (d:D) (b cap:Nat) (row:List S) (arr:Array Value) (u:Nat->Nat->Value) (hr:bk P e=some row)
   (h1:d.rows.length<=cap) (h2:cap<=9223372036854775807) (h3:lab b π (d.rows.length*row.length)) (h4:w.heap[b]?=some (.cells arr e (0,0))) (h5:arr.size=cap*row.length)
   (h6:∀i j,i<d.rows.length->j<row.length->arr[i*row.length+j]?=some (u i j))
   (h7:∀i j s,i<d.rows.length->row[j]?=some s->TR P w lab (π ++ [(i,j)]) s (d.rows.getD i [] j) (u i j)):TR P w lab π (.sl e) d (.slice (some ⟨b,0,none⟩) d.rows.length cap)
theorem TR.flat{P:Program}{w:World}{lab:Nat->List (Nat × Nat)->Nat->Prop}{π:List (Nat × Nat)}{s:S}{x:D}{v:Value}(h:TR P w lab π s x v):DR v=true:=by cases h <;> rfl
theorem TR.monoQ{P:Program}{w w':World}{lab lab':Nat->List (Nat × Nat)->Nat->Prop}(Q:List (Nat × Nat)->Prop)(Z:∀π x,Q π->Q (π ++ [x]))(f:List (Nat × Nat)->List (Nat × Nat))(hf:∀π x,Q π->f (π ++ [x])=f π ++ [x]){π:List (Nat × Nat)}{s:S}{x:D}{v:Value}(h:TR P w lab π s x v)
  (hk:∀b π n o,Q π->lab b π n->w.heap[b]?=some o->w'.heap[b]?=some o/\lab' b (f π) n) (J:Q π):TR P w' lab' (f π) s x v:=by
 induction h with
 | int π k d=>exact .int _ k d
 | bool π d=>exact .bool _ d
 | str π d=>exact .str _ d
 | nil π e d A O h=>exact .nil _ e d A O h
 | sl π e d b cap row U u O h1 Y h3 h4 h5 h6 h7 ih =>obtain⟨V,k2⟩:=hk _ _ _ _ J h3 h4;exact .sl _ e d b cap row U u O h1 Y k2 V h5 h6 (fun i j s hi hs=>by rw[<- hf _ _ J];exact ih i j s hi hs (Z _ _ J))
theorem TR.mono{P:Program}{w w':World}{lab lab':Nat->List (Nat × Nat)->Nat->Prop}(f:List (Nat × Nat)->List (Nat × Nat))(O:∀π x,π ≠ []->f (π ++ [x])=f π ++ [x]){π:List (Nat × Nat)}{s:S}{x:D}{v:Value}(h:TR P w lab π s x v)
  (hk:∀b π n o,π ≠ []->lab b π n->w.heap[b]?=some o->w'.heap[b]?=some o/\lab' b (f π) n) (J:π ≠ []):TR P w' lab' (f π) s x v:=
 TR.monoQ (fun π=>π ≠ []) (fun π x _=>by simp) f O h hk J
theorem TR.vd{P:Program}{w:World}{lab:Nat->List (Nat × Nat)->Nat->Prop}{prot:Nat->Nat}{π:List (Nat × Nat)}{s:S}{x:D}{v:Value}(h:TR P w lab π s x v)(hk:∀b π n,lab b π n->n<=prot b):VD P w prot s x v:=by
 induction h with
 | int π k d=>exact .int k d
 | bool π d=>exact .bool d
 | str π d=>exact .str d
 | nil π e d A J h =>
  obtain⟨row,J⟩:=B6.1 J;have:=VD.sl (P:=P) (w:=w) (prot:=prot) e d A 0 row (fun _ _=>.int .i64 0) J (by rw[h];simp) (by omega) (by rw[h];intro i j hi;simp at hi) (by rw[h];intro i j s hi;simp at hi)
  rwa [show d.rows.length=0 from by rw[h];rfl] at this
 | sl π e d b cap row a0 u J h1 O V U h5 Y h7 ih =>
  refine VD.sl e d _ cap row u J h1 O (fun i j hi Z=>⟨b,0,rfl,?_,?_⟩) ih
  ·simp only[World.cell?,U,i9];exact Y i j hi Z
  ·have:=hk _ _ _ V;have h8:i*row.length+row.length<=d.rows.length*row.length:=by rw[<- C8];exact v7 _ hi
   omega
theorem TR.of_flat{P:Program}{w:World}{prot:Nat->Nat}{lab:Nat->List (Nat × Nat)->Nat->Prop}{π:List (Nat × Nat)}{s:S}{x:D}{v:Value}(h:VD P w prot s x v)(hs:s.flat=true):TR P w lab π s x v:=by
 cases h with
 | int k d=>exact .int π k _
 | bool d=>exact .bool π _
 | str d=>exact .str π _
 | opq=>simp[S.flat] at hs
 | sl=>simp[S.flat] at hs
theorem TR.no_opq{P:Program}{w:World}{lab:Nat->List (Nat × Nat)->Nat->Prop}{π:List (Nat × Nat)}{x:D}{v:Value}(h:TR P w lab π .opq x v):False:=by cases h
theorem TR.vd_flat{P:Program}{w:World}{prot:Nat->Nat}{lab:Nat->List (Nat × Nat)->Nat->Prop}{π:List (Nat × Nat)}{s:S}{x:D}{v:Value}(h:TR P w lab π s x v)(hs:s.flat=true):VD P w prot s x v:=by
 cases h with
 | int _ k d=>exact .int k _
 | bool _ d=>exact .bool _
 | str _ d=>exact .str _
 | nil=>simp[S.flat] at hs
 | sl=>simp[S.flat] at hs
def lj(base:Nat)(g:G)(t:Tok)(b:Nat)(π:List (Nat × Nat))(n:Nat):Prop:=base<=b/\g.owner b=some (.inr t)/\b≠g.ρ t/\g.path b=π/\g.need b=n/\g.prot b=0
def ci(P:Program)(base:Nat)(w:World)(g:G)(t:Tok)(J:Bool)(i j:Nat)(s:S)(d:D)(u:Value):Prop:=
 if (bm t&&J)=true then TR P w (lj base g t) [(i,j)] s d u else VD P w g.prot s d u
theorem ci.flat{P:Program}{base:Nat}{w:World}{g:G}{t:Tok}{J:Bool}{i j:Nat}{s:S}{d:D}{u:Value}(h:ci P base w g t J i j s d u):DR u=true:=by
 unfold ci at h
 split at h
 ·exact TR.flat h
 ·exact VD.flat h
theorem ci.vd_flat{P:Program}{base:Nat}{w:World}{g:G}{t:Tok}{J:Bool}{i j:Nat}{s:S}{d:D}{u:Value}(h:ci P base w g t J i j s d u)(hs:s.flat=true):VD P w g.prot s d u:=by
 unfold ci at h
 split at h
 ·exact TR.vd_flat h hs
 ·exact h
theorem ci.vd{P:Program}{base:Nat}{w:World}{g:G}{t:Tok}{J:Bool}{i j:Nat}{s:S}{d:D}{u:Value}(h:ci P base w g t J i j s d u)(hs:bm t=false):VD P w g.prot s d u:=by
 unfold ci at h
 rwa [hs,y7,i7 (by simp)] at h
theorem ci.vd'{P:Program}{base:Nat}{w:World}{g:G}{t:Tok}{i j:Nat}{s:S}{d:D}{u:Value}(h:ci P base w g t false i j s d u):VD P w g.prot s d u:=by
 unfold ci at h
 rwa [C9,i7 (by simp)] at h
theorem ci.of_vd{P:Program}{base:Nat}{w:World}{g:G}{t:Tok}{O:Bool}{i j:Nat}{s:S}{d:D}{u:Value}(h:VD P w g.prot s d u)(hs:(bm t&&O)=false\/s.flat=true):ci P base w g t O i j s d u:=by
 unfold ci
 split
 ·rename_i J;rcases hs with hs | hs
  ·rw[hs] at J;cases J
  ·exact TR.of_flat h hs
 ·exact h
theorem ci.of_tr{P:Program}{base:Nat}{w:World}{g:G}{t:Tok}{i j:Nat}{s:S}{d:D}{u:Value}(h:TR P w (lj base g t) [(i,j)] s d u)(J:bm t=true):ci P base w g t true i j s d u:=by unfold ci;rw[j8 (by rw[J];rfl)];exact h
theorem ci.tr{P:Program}{base:Nat}{w:World}{g:G}{t:Tok}{i j:Nat}{s:S}{d:D}{u:Value}(h:ci P base w g t true i j s d u)(J:bm t=true):TR P w (lj base g t) [(i,j)] s d u:=by
 unfold ci at h
 rwa [j8 (by rw[J];rfl)] at h
theorem ci.mono{P:Program}{base J:Nat}{w w':World}{g g':G}{t V:Tok}{O:Bool}{i j:Nat}{s:S}{d:D}{u:Value}(h:ci P base w g t O i j s d u)(ht:(bm V&&O)=(bm t&&O))
  (Z:∀b o z,o<g.prot b->w.cell? ⟨b,o,none⟩=some z->w'.cell? ⟨b,o,none⟩=some z/\o<g'.prot b)
  (Y:(bm t&&O)=true->∀b o,base<=b->g.owner b=some (.inr t)->b≠g.ρ t->w.heap[b]?=some o->w'.heap[b]?=some o/\J<=b/\g'.owner b=some (.inr V)/\b≠g'.ρ V/\g'.path b=g.path b/\g'.need b=g.need b/\(g.prot b=0->g'.prot b=0)):ci P J w' g' V O i j s d u:=by
 unfold ci at h ⊢;rw[ht]
 split at h
 ·rename_i U;rw[j8 U];refine TR.mono (fun π=>π) (fun _ _ _=>rfl) h (fun b π n o _ hl ho=>?_) (by simp);obtain⟨l0,l1,l2,l3,l4,l5⟩:=hl;obtain⟨k1,k0,k2,k3,k4,k5,k6⟩:=Y U b o l0 l1 l2 ho;exact⟨k1,k0,k2,k3,k4.trans l3,k5.trans l4,k6 l5⟩
 ·rename_i U;rw[i7 U];exact h.mono Z
def fU(P:Program)(w:World)(g:G)(_base:Nat)(cells:List S)(off:Nat)(x:D)(v:Value):Prop:=
 ∃b o,v=.pointer (some ⟨b,o+off,none⟩)/\g.old b/\∀j s,cells[j]?=some s->∃u,w.cell? ⟨b,o+j,none⟩=some u/\VD P w g.prot s (x.rows.getD 0 [] j) u
section
variable (P:Program) (w:World) (g:G) (base:Nat)
def dp(t:Tok)(O:Bool)(e:TypeId)(row:List S)(rows:List b8)(v:Value):Prop:=
 (rows = []/\g.len t=0/\∃A,v=.slice A 0 0) \/
 (∃(cap:Nat) (J:Array Value) (E:TypeId),v=.slice (some ⟨g.ρ t,0,none⟩) rows.length cap/\rows.length<=cap/\(cap<=9223372036854775807/\E=e/\e=g.ety t)/\base<=g.ρ t/\g.owner (g.ρ t)=some (.inr t) /\
  w.heap[g.ρ t]?=some (.cells J E (0,0))/\J.size=cap*row.length/\rows.length=g.len t/\row.length=g.wid t/\g.prot (g.ρ t)=(if O then 0 else g.len t*g.wid t) /\
  ∀i j s,i<rows.length->row[j]?=some s->∃u,J[i*row.length+j]?=some u/\ci P base w g t O i j s (rows.getD i [] j) u)
def IK:Cap->D->Value->Prop
 | .d s,x,v=>VD P w g.prot s x v
 | .ptr id off,_,v=>v=.pointer (some ⟨g.θ id,off,none⟩)
 | .cptr cells off,x,v=>fU P w g base cells off x v
def dJ(x:D):List b8:=(x.rows.getD 0 [] 0).rows
def eIx(x:D):Nat:=(x.rows.getD 0 [] 1).int.toNat
def VC:Ce->D->Value->Prop
 | .any,_,_=>True
 | .d s,x,v=>VD P w g.prot s x v
 | .kb b,_,v=>v=.bool b
 | .own t xm e,x,v=>∃row,bk P e=some row/\dp P w g base t xm e row x.rows v
 | .ptr id off,_,v=>v=.pointer (some ⟨g.θ id,off,none⟩)
 | .eptr none e off,x,v=>∃row b o,bk P e=some row/\v=.pointer (some ⟨b,o+(eIx x*row.length+off),none⟩)/\eIx x<(dJ x).length /\
   ∀j s,row[j]?=some s->∃u,w.cell? ⟨b,o+(eIx x*row.length+j),none⟩=some u/\o+(eIx x*row.length+j)<g.prot b/\VD P w g.prot s (((dJ x).getD (eIx x) []) j) u
 | .eptr (some t) e off,x,v=>∃row,bk P e=some row/\v=.pointer (some ⟨g.ρ t,eIx x*row.length+off,none⟩)/\eIx x<(dJ x).length/\∃u,dp P w g base t true e row (dJ x) u
 | .inn t e off ei,x,v=>∃row,bk P e=some row/\(∃u,dp P w g base t true e row (dJ x) u) /\
   ((off<jj/\row[off]?=some (.sl ei)/\bm t=true/\eIx x<(dJ x).length/\∃J E,w.heap[g.ρ t]?=some (.cells J E (0,0))/\J[eIx x*row.length+off]?=some v/\DR v=true) \/
    (jj<=off/\ei=e/\VD P w (fun b=>if b=g.ρ t then (dJ x).length*row.length else 0) (.sl e) (.l ((dJ x).drop (eIx x))) v))
 | .cptr cells off,x,v=>fU P w g base cells off x v
 | .fn f caps,x,v=>∃J:Array Value,v=.func (.func f) #[] J/\J.size=caps.length/\∀j c,caps[j]?=some c->∃u,J[j]?=some u/\IK P w g base c (x.rows.getD 0 [] j) u
def VCs(cs:List Ce)(p:b8)(J:Array Value):Prop:=J.size=cs.length/\∀(j:Nat) c,cs[j]?=some c->∃u,J[j]?=some u/\VC P w g base c (p j) u
def V1:Sh1->b8->Value->Prop
 | .c x,p,v=>VC P w g base x (p 0) v
 | .agg xs,p,v=>∃J,v=.agg J/\VCs P w g base xs p J
def rD(xs:List Sh1)(j:Nat):Nat:=(xs.take j).foldr (fun s n=>s.size+n) 0
def VS:Sh->b8->Value->Prop
 | .one x,p,v=>V1 P w g base x p v
 | .tup xs,p,v=>∃J:Array Value,v=.tuple J/\J.size=xs.length/\∀(j:Nat) x,xs[j]?=some x->∃u,J[j]?=some u/\V1 P w g base x (sub p (rD xs j) x.size) u
def VT(t:T)(v:Value):Prop:=VS P w g base t.sh t.p v
def aef(id:Nat)(cs:List Ce)(ds:b8):Prop:=
 base<=g.θ id/\g.owner (g.θ id)=some (.inl id)/\g.prot (g.θ id)=0/\ds.length=cs.length/\∃J E,w.heap[g.θ id]?=some (.cells J E (0,0))/\VCs P w g base cs ds J
class Low where
 low:Nat->Nat
 heap:Nat->Option Obj
 old:Nat->Prop
 pin:Tok->Option (Nat × Nat × Nat × TypeId)
 box:Nat
 lab:Nat->Tok->List (Nat × Nat)->Nat->Prop
abbrev yO:Low:=⟨fun _=>0,fun _=>none,fun _=>False,fun _=>none,0,fun _ _ _ _=>True⟩
variable [Low]
structure Rel(σ:St)(a:Act):Prop where
 env:∀i,VT P w g base (bZ i σ.e σ.r) (a.tmps.getD i undef)
 box:∀id cs ds,bH id σ.h=some (cs,ds)->aef P w g base id cs ds
 fresh:∀b,w.heap.size<=b->g.prot b=0/\g.owner b=none
 base_le:base<=w.heap.size
 defers:a.defers = []/\a.tmps.size<=1000000
 low:(g.old=Low.old/\g.θ 1000000=Low.box)/\(∀b,g.old b->g.owner b=none/\g.prot b=Low.low b/\w.heap[b]?=Low.heap b/\b<w.heap.size)/\∀t x,Low.pin t=some x->t.1=1000001/\g.ρ t=x.1/\g.len t=x.2.1/\(0<x.2.2.1->g.owner x.1=some (.inr t)/\∃arr,w.heap[x.1]?=some (.cells arr x.2.2.2 (0,0))/\arr.size=x.2.2.1)
 mine:∀b t,t.1=1000001->g.owner b=some (.inr t)->Low.lab b t (g.path b) (g.need b)
end
theorem VC.flat{P:Program}{w:World}{g:G}{base:Nat}{c:Ce}{x:D}{v:Value}(h:VC P w g base c x v)(J:c≠.any):DR v=true:=by
 cases c with
 | any=>exact absurd rfl J
 | d s=>exact VD.flat h
 | kb b=>cases h;rfl
 | own t O e =>
  obtain⟨row,_,h | ⟨_,_,_,h,_⟩⟩:=h
  ·obtain⟨_,_,A,h⟩:=h;cases h;rfl
  ·cases h;rfl
 | ptr id off=>cases h;rfl
 | eptr t e off=>cases t with
  | none=>obtain⟨_,_,_,_,h,_⟩:=h;cases h;rfl
  | some t=>obtain⟨_,_,h,_⟩:=h;cases h;rfl
 | inn t e off U =>
  obtain⟨_,_,_,⟨_,_,_,_,_,_,_,_,h⟩ | ⟨_,_,h⟩⟩:=h
  ·exact h
  ·exact VD.flat h
 | cptr cells off=>obtain⟨_,_,h,_⟩:=h;cases h;rfl
 | fn f caps=>obtain⟨_,h,_⟩:=h;cases h;rfl
theorem ajb{P:Program}{w:World}{g:G}{base:Nat}{t:Tok}{e:TypeId}{row:List S}{x:D}{u:Value}(h:eIx x<(dJ x).length)(J:dp P w g base t true e row (dJ x) u):g.owner (g.ρ t)=some (.inr t):=by
 rcases J with⟨O,_⟩ | ⟨_,_,_,_,_,_,_,h5,_⟩
 ·rw[O] at h;simp at h
 ·exact h5
theorem mZ{P:Program}{w w':World}{g g':G}{base J:Nat}{t:Tok}{e:TypeId}{off:Nat}{ei:TypeId}{x:D}{v:Value}(hv:VC P w g base (.inn t e off ei) x v)(Z:g'.ρ t=g.ρ t)
  (hh:∀o,g.owner (g.ρ t)=some (.inr t)->w.heap[g.ρ t]?=some o->w'.heap[g.ρ t]?=some o) (O:∀ {row rows u},dp P w g base t true e row rows u->dp P w' g' J t true e row rows u):VC P w' g' J (.inn t e off ei) x v:=by
 obtain⟨row,h1,⟨u,U⟩,⟨h0,h2,h3,h4,Y,E,h6,h7,h8⟩ | ⟨h0,h2,h3⟩⟩:=hv
 ·exact⟨row,h1,⟨u,O U⟩,.inl ⟨h0,h2,h3,h4,Y,E,by rw[Z];exact hh _ (ajb h4 U) h6,h7,h8⟩⟩
 ·refine⟨row,h1,⟨u,O U⟩,.inr ⟨h0,h2,?_⟩⟩;rw[Z];refine h3.mono fun b o z V hz=>⟨?_,V⟩
  by_cases hb:b=g.ρ t
  ·subst hb;rcases U with⟨hr,_⟩ | ⟨_,Y,E,_,_,_,_,k5,k6,_⟩
   ·rw[hr] at V;simp at V
   ·exact (bd ((hh _ k5 k6).trans k6.symm) o).trans hz
  ·rw[i7 hb] at V;omega
structure Ext(d:Option Nat)(g g':G)(w w':World):Prop where
 size:w.heap.size<=w'.heap.size
 θ:∀id,some id≠d->g'.θ id=g.θ id
 ρ:∀t:Tok,some t.1≠d->g'.ρ t=g.ρ t/\g'.len t=g.len t/\g'.wid t=g.wid t/\g'.ety t=g.ety t
 prot:∀b,b<w.heap.size->g'.prot b=g.prot b
 owner:∀b,b<w.heap.size->g'.owner b=g.owner b
 heap:∀b,b<w.heap.size->w'.heap[b]?=w.heap[b]?
 lab:∀b,b<w.heap.size->g'.path b=g.path b/\g'.need b=g.need b
 old:g'.old=g.old
 new:∀b t,w.heap.size<=b->g'.owner b=some (.inr t)->some t.1=d\/g.owner b=some (.inr t)
theorem aT{w:World}{b:Nat}{o:Obj}(h:w.heap[b]?=some o):b<w.heap.size:=by
 rcases A6 b w.heap.size with hlt | hge
 ·exact hlt
 ·rw[F1 hge] at h;cases h
section
variable {P:Program} {w w':World} {g g':G} {base:Nat} {d:Option Nat}
theorem Ext.vd(h:Ext d g g' w w'){s:S}{x:D}{v:Value}(hv:VD P w g.prot s x v):VD P w' g'.prot s x v:=
 hv.mono fun b o u O J=>⟨(bd (h.heap b (dn J)) o).trans J,by rw[h.prot b (dn J)];exact O⟩
theorem Ext.cell(h:Ext d g g' w w'){t:Tok}{Z:Bool}{i j:Nat}{s:S}{x:D}{v:Value}(ht:some t.1≠d)(hv:ci P base w g t Z i j s x v):ci P base w' g' t Z i j s x v:=
 hv.mono rfl (fun b o u O U=>⟨(bd (h.heap b (dn U)) o).trans U,by rw[h.prot b (dn U)];exact O⟩) (fun _ b o h0 O V Y=>by have J:=aT Y;exact⟨(h.heap b J).trans Y,h0,(h.owner b J).trans O,by rw[(h.ρ t ht).1];exact V,(h.lab b J).1,(h.lab b J).2,fun e=>(h.prot b J).trans e⟩)
theorem Ext.own(h:Ext d g g' w w'){t:Tok}{U:Bool}{e:TypeId}{row:List S}{rows:List b8}{v:Value}(O:some t.1≠d)(hv:dp P w g base t U e row rows v):dp P w' g' base t U e row rows v:=by
 rcases hv with hv | ⟨cap,arr,E,h1,h2,h3,h4,h5,h6,h7,h8,h9,h10,h11⟩
 ·exact .inl ⟨hv.1,by rw[(h.ρ t O).2.1];exact hv.2.1,hv.2.2⟩
 ·obtain⟨e1,e2,e3,e4⟩:=h.ρ t O;have J:=aT h6;refine .inr ⟨cap,arr,E,by rw[e1];exact h1,h2,by rw[e4];exact h3,by rw[e1];exact h4,by rw[e1,h.owner _ J];exact h5,by rw[e1,h.heap _ J];exact h6,h7,by rw[e2];exact h8,by rw[e3];exact h9,by rw[e1,e2,e3,h.prot _ J];exact h10,?_⟩;intro i j s hi hs;obtain⟨u,Y,V⟩:=h11 i j s hi hs;exact⟨u,Y,h.cell O V⟩
theorem Ext.cptr(h:Ext d g g' w w'){cells:List S}{off:Nat}{x:D}{v:Value}(Y:base<=w.heap.size)(hv:fU P w g base cells off x v):fU P w' g' base cells off x v:=by obtain⟨b,o,h1,U,V⟩:=hv;refine⟨b,o,h1,by rw[h.old];exact U,fun j s hs=>?_⟩;obtain⟨u,J,O⟩:=V j s hs;exact⟨u,(bd (h.heap b (dn J)) _).trans J,h.vd O⟩
theorem aep{t:Tok}{xm:Bool}{e:TypeId}{row:List S}{x:D}{v:Value}{prot:Nat->Nat}(hr:bk P e=some row)(hv:dp P w g base t xm e row x.rows v)
  (hp:∀b,g.prot b<=prot b) (hq:x.rows ≠ []->g.len t*g.wid t<=prot (g.ρ t)) (Y:(bm t&&xm)=true->∀b,g.owner b=some (.inr t)->b≠g.ρ t->g.need b<=prot b):VD P w prot (.sl e) x v:=by
 rcases hv with⟨U,_,A,rfl⟩ | ⟨cap,arr,E,rfl,h2,h3,h4,h5,h6,h7,h8,h9,h10,h11⟩
 ·have:=VD.sl (P:=P) (w:=w) (prot:=prot) e x A 0 row (fun _ _=>undef) hr (by rw[U];simp) (by omega) (by rw[U];intro i j hi;simp at hi) (by rw[U];intro i j s hi;simp at hi)
  rwa [U] at this
 ·refine VD.sl (P:=P) (w:=w) (prot:=prot) e x _ cap row (fun i j=>arr[i*row.length+j]?.getD undef) hr h2 h3.1 ?_ ?_
  ·intro i j hi hj;obtain⟨u,O,J⟩:=h11 i j _ hi (g6 hj);refine⟨_,_,rfl,?_,?_⟩
   ·rw[O];simp only[World.cell?,h6,i9];exact O
   ·have a0:=hq (by intro e;rw[e] at hi;simp at hi);rw[<- h8,<- h9] at a0;have:i*row.length+row.length<=x.rows.length*row.length:=by rw[<- C8];exact v7 _ hi
    omega
  ·intro i j s hi hs;obtain⟨u,O,J⟩:=h11 i j s hi hs;simp only[O];change VD P w prot s _ u;unfold ci at J
   split at J
   ·rename_i Z;exact TR.vd J fun b π n V=>by rw[<- V.2.2.2.2.1];exact Y Z b V.2.1 V.2.2.1
   ·exact J.mono fun b o u ho hc=>⟨hc,y8 ho (hp b)⟩
theorem nO{t:Tok}{e:TypeId}{row:List S}{x:D}{v:Value}(O:bk P e=some row)(hv:dp P w g base t false e row x.rows v):VD P w g.prot (.sl e) x v:=by
 refine aep O hv (fun _=>g8 _) (fun J=>?_) (fun h=>by simp at h);rcases hv with⟨U,_⟩ | ⟨cap,arr,E,rfl,h2,h3,h4,h5,h6,h7,h8,h9,h10,h11⟩
 ·exact absurd U J
 ·rw[h10];simp
theorem Ext.cap{J:Nat}(h:Ext (some J) g g' w w')(O:base<=w.heap.size){c:Cap}{x:D}{v:Value}(U:∀off,c≠.ptr J off)(hv:IK P w g base c x v):IK P w' g' base c x v:=by
 cases c with
 | d s=>exact h.vd hv
 | ptr id off =>show v=_;rw[h.θ id (by intro e;injection e with e;exact U off (by rw[e]))];exact hv
 | cptr cells off=>exact h.cptr O hv
theorem Ext.vc{J:Nat}(h:Ext (some J) g g' w w')(hb:base<=w.heap.size){c:Ce}{x:D}{v:Value}(hv:VC P w g base c x v):VC P w' g' base (eW J c) x v:=by
 cases c with
 | any=>trivial
 | d s=>exact h.vd hv
 | kb b=>exact hv
 | own t Z e =>
  obtain⟨row,hr,hv⟩:=hv;change VC P w' g' base (bif t.1==J then (bif Z then .any else .d (.sl e)) else .own t Z e) x v;by_cases O:t.1=J
  ·rw[show (t.1==J)=true from by simpa using O,f8];cases Z with
   | true=>trivial
   | false=>exact h.vd (nO hr hv)
  ·rw[show (t.1==J)=false from by simpa using O,f5];exact⟨row,hr,h.own (by simpa using O) hv⟩
 | ptr id off =>
  change VC P w' g' base (bif id==J then .any else .ptr id off) x v;by_cases O:id=J
  ·rw[show (id==J)=true from by simpa using O];trivial
  ·rw[show (id==J)=false from by simpa using O,f5];show v=_;rw[h.θ id (by simpa using O)];exact hv
 | eptr t e off =>
  cases t with
  | none =>obtain⟨row,b,o,h1,U,V,h4⟩:=hv;refine⟨row,b,o,h1,U,V,fun j s hs=>?_⟩;obtain⟨u,Y,k2,k3⟩:=h4 j s hs;exact⟨u,(bd (h.heap b (dn Y)) _).trans Y,by rw[h.prot b (dn Y)];exact k2,h.vd k3⟩
  | some t =>
   change VC P w' g' base (bif t.1==J then .any else .eptr (some t) e off) x v;by_cases O:t.1=J
   ·rw[show (t.1==J)=true from by simpa using O];trivial
   ·rw[show (t.1==J)=false from by simpa using O,f5];obtain⟨row,h1,U,V,u,h4⟩:=hv;exact⟨row,h1,by rw[(h.ρ t (by simpa using O)).1];exact U,V,u,h.own (by simpa using O) h4⟩
 | inn t e off ei =>
  change VC P w' g' base (bif t.1==J then .any else .inn t e off ei) x v;by_cases O:t.1=J
  ·rw[show (t.1==J)=true from by simpa using O];trivial
  ·rw[show (t.1==J)=false from by simpa using O,f5];exact mZ hv (h.ρ t (by simpa using O)).1 (fun o _ ho=>(h.heap _ (aT ho)).trans ho) (fun hu=>h.own (by simpa using O) hu)
 | cptr cells off=>exact h.cptr hb hv
 | fn f caps =>
  change VC P w' g' base (bif caps.all (fun | .ptr id _=>id != J | _=>true) then .fn f caps else .any) x v;generalize hq:caps.all _=q;cases q with
  | false=>trivial
  | true =>obtain⟨a1,h1,U,V⟩:=hv;refine⟨a1,h1,U,fun j c hc=>?_⟩;obtain⟨u,hu,a0⟩:=V j c hc;refine⟨u,hu,h.cap hb (fun off e=>?_) a0⟩;have:=i6.1 hq c (w6 hc);rw[e] at this;simp at this
end
theorem Ext.low[Low]{P:Program}{w w':World}{g g':G}{base:Nat}{d:Option Nat}{σ:St}{a:Act}(h:Ext d g g' w w')(V:Rel P w g base σ a)(hd:∀n,1000000<=n->d≠some n):(g'.old=Low.old/\g'.θ 1000000=Low.box)/\(∀b,g'.old b->g'.owner b=none/\g'.prot b=Low.low b/\w'.heap[b]?=Low.heap b/\b<w'.heap.size)/\∀t x,Low.pin t=some x->t.1=1000001/\g'.ρ t=x.1/\g'.len t=x.2.1/\(0<x.2.2.1->g'.owner x.1=some (.inr t)/\∃J,w'.heap[x.1]?=some (.cells J x.2.2.2 (0,0))/\J.size=x.2.2.1):=by
 refine⟨⟨h.old.trans V.low.1.1,(h.θ 1000000 (Ne.symm (hd _ (g8 _)))).trans V.low.1.2⟩,fun b hb=>?_,fun t x hx=>?_⟩
 ·rw[h.old] at hb;obtain⟨U,Z,k3,O⟩:=V.low.2.1 b hb;exact⟨by rw[h.owner b O];exact U,by rw[h.prot b O];exact Z,(h.heap b O).trans k3,y8 O h.size⟩
 ·obtain⟨U,Z,k3,O⟩:=V.low.2.2 t x hx;obtain⟨q1,q2,_⟩:=h.ρ t (by rw[U];exact Ne.symm (hd _ (by omega)));refine⟨U,q1.trans Z,q2.trans k3,fun h0=>?_⟩;obtain⟨m1,J,m2,m3⟩:=O h0;have Y:=aT m2;exact⟨(h.owner _ Y).trans m1,J,(h.heap _ Y).trans m2,m3⟩
theorem Ext.mine[Low]{P:Program}{w w':World}{g g':G}{base:Nat}{d:Option Nat}{σ:St}{a:Act}(h:Ext d g g' w w')(O:Rel P w g base σ a)(V:∀n,1000000<=n->d≠some n):∀b t,t.1=1000001->g'.owner b=some (.inr t)->Low.lab b t (g'.path b) (g'.need b):=by
 intro b t U J;rcases A6 b w.heap.size with hlt | hge
 ·rw[(h.lab b hlt).1,(h.lab b hlt).2];exact O.mine b t U ((h.owner b hlt).symm.trans J)
 ·rcases h.new b t hge J with h1 | h1
  ·exact absurd h1.symm (by rw[U];exact V _ (by omega))
  ·rw[(O.fresh b hge).2] at h1;cases h1
theorem Rel.ne[Low]{P:Program}{w:World}{g:G}{base:Nat}{σ:St}{a:Act}(J:Rel P w g base σ a){d:Nat}(h:d<a.tmps.size):∀n,1000000<=n->some d≠some n:=fun n hn=>by have:=J.defers.2;simp only[ne_eq,b7];omega
theorem Rel.oldNe[Low]{P:Program}{w:World}{g:G}{base:Nat}{σ:St}{a:Act}(U:Rel P w g base σ a){b J:Nat}{x:Nat ⊕ Tok}(V:g.old b)(O:g.owner J=some x):b≠J:=by intro e;have:=(U.low.2.1 b V).1;rw[e,O] at this;cases this
theorem Rel.lowIn[Low]{P:Program}{w w':World}{g:G}{base:Nat}{σ:St}{a:Act}(Y:Rel P w g base σ a)(hh:∀b,g.old b->w'.heap[b]?=w.heap[b]?)(hs:w.heap.size<=w'.heap.size)
  (hp:∀b t J e,t.1=1000001->g.owner b=some (.inr t)->b=g.ρ t->w.heap[b]?=some (.cells J e (0,0))->0<J.size->∃O,w'.heap[b]?=some (.cells O e (0,0))/\O.size=J.size) :
  (g.old=Low.old/\g.θ 1000000=Low.box)/\(∀b,g.old b->g.owner b=none/\g.prot b=Low.low b/\w'.heap[b]?=Low.heap b/\b<w'.heap.size)/\∀t x,Low.pin t=some x->t.1=1000001/\g.ρ t=x.1/\g.len t=x.2.1/\(0<x.2.2.1->g.owner x.1=some (.inr t)/\∃J,w'.heap[x.1]?=some (.cells J x.2.2.2 (0,0))/\J.size=x.2.2.1):=
 ⟨Y.low.1,fun b hb=>by
  obtain⟨U,V,Z,k4⟩:=Y.low.2.1 b hb;exact⟨U,V,(hh b hb).trans Z,y8 k4 hs⟩,fun t x hx=>by
  obtain⟨U,V,Z,k4⟩:=Y.low.2.2 t x hx;refine⟨U,V,Z,fun h0=>?_⟩;obtain⟨m1,J,m2,m3⟩:=k4 h0;obtain⟨O,q1,q2⟩:=hp x.1 t J _ U m1 V.symm m2 (by omega);exact⟨m1,O,q1,q2.trans m3⟩⟩
def iu(P:Program)(base:Nat)(g g':G)(w w':World)(f:Ce->Ce):Prop:=∀c x v,VC P w g base c x v->VC P w' g' base (f c) x v
section
variable [Low] {P:Program} {w w':World} {g g':G} {base:Nat} {f:Ce->Ce}
theorem iu.vcs(h:iu P base g g' w w' f){cs:List Ce}{p:b8}{O:Array Value}(hv:VCs P w g base cs p O):VCs P w' g' base (cs.map f) p O:=by
 refine⟨by rw[m9];exact hv.1,fun j c J=>?_⟩;rw[u6] at J;cases U:cs[j]? with
 | none=>rw[U] at J;cases J
 | some Y =>
  rw[U] at J;injection J with J
  obtain⟨u,Z,V⟩:=hv.2 j Y U;exact⟨u,Z,J▸h Y _ _ V⟩
theorem iu.v1(h:iu P base g g' w w' f){s:Sh1}{p:b8}{v:Value}(hv:V1 P w g base s p v):V1 P w' g' base (s.map f) p v:=by
 cases s with
 | c x=>exact h x _ _ hv
 | agg xs=>obtain⟨J,h1,O⟩:=hv;exact⟨J,h1,h.vcs O⟩
theorem Sh1.size_map(f:Ce->Ce)(s:Sh1):(s.map f).size=s.size:=by cases s <;> simp[Sh1.map,Sh1.size]
theorem Np(f:Ce->Ce):∀(xs:List Sh1) (j:Nat),rD (xs.map (Sh1.map f)) j=rD xs j
 | [],j=>by simp[rD]
 | x::xs,0=>by simp[rD]
 | x::xs,j+1=>by have:=Np f xs j;simp only[rD,u5,E4,N2,Sh1.size_map] at this ⊢;rw[this]
theorem iu.vt(h:iu P base g g' w w' f){t:T}{v:Value}(hv:VT P w g base t v):VT P w' g' base ⟨t.sh.map f,t.p⟩ v:=by
 obtain⟨sh,p⟩:=t;cases sh with
 | one x=>exact h.v1 hv
 | tup xs =>
  obtain⟨Z,h1,Y,h3⟩:=hv;refine⟨Z,h1,by rw[m9];exact Y,fun j x J=>?_⟩;rw[u6] at J;cases O:xs[j]? with
  | none=>rw[O] at J;cases J
  | some V =>
   rw[O] at J;injection J with J
   obtain⟨u,hu,U⟩:=h3 j V O;refine⟨u,hu,?_⟩;subst J;rw[Np,Sh1.size_map];exact h.v1 U
theorem Nb(F:T->T)(J:F .any=.any):∀(e:Env) (i:Nat),cY i (e.map fun p=>(p.1,F p.2))=F (cY i e)
 | [],i=>by simp[cY,J]
 | (j,v)::e,i=>by simp only[u5,cY];rw[Nb F J e i];cases i==j <;> rfl
theorem sg(F:T->T)(J:F .any=.any)(e:Env)(i:Nat):∀(r:Env),bZ i (e.map fun p=>(p.1,F p.2)) (r.map fun p=>(p.1,F p.2))=F (bZ i e r)
 | []=>Nb F J e i
 | (j,v)::r=>by simp only[u5,bZ];rw[sg F J e i r];cases i==j <;> rfl
theorem yk(F:List Ce->List Ce):∀(h:sH) (i:Nat),bH i (h.map fun p=>(p.1,F p.2.1,p.2.2))=(bH i h).map fun q=>(F q.1,q.2)
 | [],i=>by simp[bH]
 | (j,v)::e,i=>by simp only[u5,bH];rw[yk F e i];cases i==j <;> rfl
theorem Rel.envMap{σ:St}{a:Act}(O:Rel P w g base σ a)(h:iu P base g g' w w' f)(J:f .any=.any)(i:Nat) :
  VT P w' g' base (bZ i (σ.map f).e (σ.map f).r) (a.tmps.getD i undef):=by
 have e:=sg (fun t=>(⟨t.sh.map f,t.p⟩:T)) (by simp[Sh.map,Sh1.map,J]) σ.e i σ.r;show VT P w' g' base (bZ i (σ.e.map _) (σ.r.map _)) _;rw[e];exact h.vt (O.env i)
theorem Rel.boxMap{σ:St}{a:Act}(hr:Rel P w g base σ a)(h:iu P base g g' w w' f){id:Nat}{cs:List Ce}{ds:b8}(hl:bH id (σ.map f).h=some (cs,ds))
  (V:∀cs ds,bH id σ.h=some (cs,ds)->g'.θ id=g.θ id/\g'.owner (g.θ id)=g.owner (g.θ id)/\g'.prot (g.θ id)=g.prot (g.θ id)/\w'.heap[g.θ id]?=w.heap[g.θ id]?):aef P w' g' base id cs ds:=by
 have e:=yk (List.map f) σ.h id;change bH id (σ.map f).h=_ at e;rw[hl] at e;cases O:bH id σ.h with
 | none=>rw[O] at e;cases e
 | some q =>obtain⟨U,a0⟩:=q;rw[O] at e;injection e with e;injection e with e1 e2;subst e1;subst e2;obtain⟨Z,k2,k3,kl,Y,E,k4,k5⟩:=hr.box id U ds O;obtain⟨J,t2,t3,t4⟩:=V U ds O;exact⟨by rw[J];exact Z,by rw[J,t2];exact k2,by rw[J,t3];exact k3,by rw[m9];exact kl,Y,E,by rw[J,t4];exact k4,h.vcs k5⟩
end
open Go.RowKit (Below)
theorem pz(b o m:Nat):(⟨b,o,none⟩:Addr).add m=⟨b,o+m,none⟩:=by
 unfold Addr.add
 split
 ·rename_i h;subst h;rfl
 ·rfl
section
variable [Low] {P:Program}
theorem eP{t n:Nat}(h:eB P t=some n)(w:World):(sizeOf t).run P w=.ok n w:=by
 unfold eB at h;cases hi:P.info? t with
 | none=>rw[hi] at h;cases h
 | some i=>rw[hi] at h;injection h with h;simp[sizeOf,typeInfo,program,hi,h,Sem.run]
theorem Dx{t:Nat}{b:Bool}(h:Ge P t=some b)(w:World):(isAgg t).run P w=.ok b w:=by
 unfold Ge at h;cases J:P.underlying t with
 | none=>rw[J] at h;cases h
 | some d =>rw[J] at h;simp only[isAgg,j7,run_underlying J,g7];cases d <;> simp_all
theorem gV{t e:Nat}(h:kT P t=some e):P.underlying t=some (.slice e):=by
 unfold kT at h
 split at h
 ·rename_i J;injection h with h;subst h;exact J
 ·cases h
theorem gH{t:Nat}{row:List S}(h:bk P t=some row):eB P t=some row.length:=by
 unfold bk at h
 split at h
 ·rename_i r O;cases J:(eB P t==some r.length && !r.isEmpty&&Nat.blt r.length jj) with
  | true =>
   rw[J,f8] at h;injection h with h;subst h
   simp only[a9] at J;simpa using J.1.1
  | false=>rw[J,f5] at h;cases h
 ·cases h
theorem lI{t:Nat}{row:List S}(h:bk P t=some row):0<row.length:=by
 unfold bk at h
 split at h
 ·rename_i r O;cases J:(eB P t==some r.length && !r.isEmpty&&Nat.blt r.length jj) with
  | true =>
   rw[J,f8] at h;injection h with h;subst h
   simp only[a9] at J;have:=J.1.2;cases r with
   | nil=>simp at this
   | cons x y=>simp
  | false=>rw[J,f5] at h;cases h
 ·cases h
theorem afk{t:Nat}{row:List S}(h:bk P t=some row):row.length<jj:=by
 unfold bk at h
 split at h
 ·rename_i r O;cases J:(eB P t==some r.length && !r.isEmpty&&Nat.blt r.length jj) with
  | true =>
   rw[J,f8] at h;injection h with h;subst h
   simp only[a9] at J;exact v5 J.2
  | false=>rw[J,f5] at h;cases h
 ·cases h
variable {w:World} {g:G} {base n:Nat} {σ:St} {a:Act}
theorem alP(v:Value):VT P w g base (ofV v) v:=by
 cases v with
 | int k n=>exact VD.int k (.i n)
 | bool b=>exact rfl
 | string s =>have h:=VD.str (P:=P) (w:=w) (prot:=g.prot) (.s (oJ s));simp only[D.str,sX] at h;exact h
 | tuple xs =>
  show VT P w g base (bif xs.isEmpty then .none_ else .any) (.tuple xs);cases J:xs.isEmpty with
  | true =>
   have:xs = #[]:=by simpa using J
   subst this;exact⟨#[],rfl,rfl,fun j x h=>by simp at h⟩
  | false=>trivial
 | _=>trivial
theorem cZ(J:Rel P w g base σ a)(x:Operand):VT P w g base (opd σ x) (a.eval x):=by
 cases x with
 | tmp i=>exact J.env i
 | const v=>exact alP v
 | global i=>trivial
 | func f=>exact⟨#[],rfl,rfl,fun j c h=>by simp at h⟩
theorem ahX{prot:Nat->Nat}{e:TypeId}{row:List S}(J:bk P e=some row):VD P w prot (.sl e) (.l []) (.slice none 0 0):=
 VD.sl (P:=P) (w:=w) (prot:=prot) e (.l []) none 0 row (fun _ _=>undef) J (g8 _) (by omega) (by intro i j hi;simp[D.rows] at hi) (by intro i j s hi;simp[D.rows] at hi)
theorem ZX(O:Rel P w g base σ a)(t:TypeId)(x:Operand):VT P w g base (agt P σ t x) (a.eval x):=by
 unfold agt
 split
 ·rename_i v hn;unfold ajm at hn
  split at hn
  ·rename_i Y V
   split at hn
   ·rename_i e U;cases J:bk P e with
    | none=>rw[J] at hn;cases hn
    | some row =>
     rw[J] at hn;injection hn with hn
     subst hn;exact ahX J
   ·cases hn
  ·cases hn
 ·exact cZ O x
theorem qw{v:T}{s:S}{d:D}{u:Value}(h:v.sc=some (s,d))(hv:VT P w g base v u):VD P w g.prot s d u:=by
 obtain⟨sh,p⟩:=v;cases sh with
 | tup xs=>cases h
 | one x=>cases x with
  | agg xs=>cases h
  | c x=>cases x with
   | d s' =>simp only[T.sc,b7,i8] at h;obtain⟨rfl,rfl⟩:=h;exact hv
   | kb b =>simp only[T.sc,b7,i8] at h;obtain⟨rfl,rfl⟩:=h;have:u=.bool b:=hv;subst this;exact VD.bool (.b b)
   | _=>cases h
theorem Nn{v:T}{i:Int}{u:Value}(h:v.intOf=some i)(hv:VT P w g base v u):∃k,u=.int k i:=by
 unfold T.intOf at h
 split at h
 ·rename_i k d e;injection h with h;subst h
  have:=qw e hv;cases this;exact⟨k,rfl⟩
 ·cases h
theorem pV(k:IntKind)(n:Int):VT P w g base (.c (.d (.int k)) (.i n)) (.int k n):=VD.int k (.i n)
theorem Ml(b:Bool):VT P w g base (.c (.d .bool) (.b b)) (.bool b):=VD.bool (.b b)
theorem agJ{op:BinOp}{k:IntKind}{x y:Int}{r:T}(h:WF op k x y=some (r,true))(t:TypeId)(X Y:Operand) :
  ∃u,(∀w':World,True->(do eqGuard op t X Y (.int k x) (.int k y);binOp op t (.int k x) (.int k y):Sem Value).run P w'=.ok u w')/\VT P w g base r u:=by
 have O:∀w,(eqGuard op t X Y (.int k x) (.int k y)).run P w=.ok () w:=by intro w;unfold eqGuard;cases op <;> simp[Sem.run]
 cases op <;> simp only[WF,b7,i8,C6,reduceCtorEq] at h
 all_goals simp only[j7,O,g7]
 case add=>subst h;exact⟨_,by intro w' _;simp[binOp,Op.intArith],pV _ _⟩
 case sub=>subst h;exact⟨_,by intro w' _;simp[binOp,Op.intArith],pV _ _⟩
 case mul=>subst h;exact⟨_,by intro w' _;simp[binOp,Op.intArith],pV _ _⟩
 case quo =>
  obtain⟨h,J⟩:=h;subst h;have J:y≠0:=by simpa using J
  exact⟨_,by intro w' _;simp[binOp,Op.intDiv,J],pV _ _⟩
 case rem =>
  obtain⟨h,J⟩:=h;subst h;have J:y≠0:=by simpa using J
  exact⟨_,by intro w' _;simp[binOp,Op.intDiv,J],pV _ _⟩
 case and=>subst h;exact⟨_,by intro w' _;simp[binOp,Op.intBits];rfl,pV _ _⟩
 case xor=>subst h;exact⟨_,by intro w' _;simp[binOp,Op.intBits];rfl,pV _ _⟩
 case shr =>
  obtain⟨h,J⟩:=h;subst h;have J:¬y<0:=by
   have:0<=y:=by simpa using J
   omega
  exact⟨_,by intro w' _;simp[binOp,Op.shift,J],pV _ _⟩
 all_goals (subst h;exact⟨_,by intro w' _;simp[binOp,Op.intCmp],Ml _⟩)
theorem sB(l:List UInt8):(bsv l).size=l.length:=by simp[bsv,ByteArray.size]
theorem tz(l:List UInt8):(bsv l).toList=l:=by rw[ByteArray.toList_eq];simp[bsv]
theorem ajn(a b:List UInt8):bsv a++bsv b=bsv (a++b):=by unfold bsv;rw[ByteArray.ext_iff];simp
theorem Xy(l:List UInt8)(i j:Nat):(bsv l).extract i j=bsv ((l.take j).drop i):=by unfold bsv;rw[ByteArray.ext_iff];simp[List.extract_eq_take_drop,List.drop_take]
theorem akd(l:List UInt8)(i:Nat):(bsv l)[i]?=l[i]?:=by
 by_cases h:i<l.length
 ·rw[g6 h,getElem?_pos (bsv l) i (by rw[sB];exact h)];rfl
 ·rw[G1 (by omega),getElem?_neg (bsv l) i (by rw[sB];exact h)]
theorem LL{t:TypeId}(J:P.underlying t=some .bool)(x y:Bool)(w:World):(Op.equal t (.bool x) (.bool y)).run P w=.ok (x==y) w:=by
 have h:∀n,(Op.equalIn (n+1) t (.bool x) (.bool y)).run P w=.ok (x==y) w:=by intro n;unfold Op.equalIn;simp only[j7,run_underlying J,g7];rfl
 exact h 9999
theorem YI{t:TypeId}(h:Ex P t=true):P.underlying t=some .bool:=by
 unfold Ex at h
 split at h
 ·assumption
 ·cases h
theorem agy{op:BinOp}{x y r:T}{u v:Value}(t:TypeId)(h:aen (Ex P t) op x y=some (r,true))(X Y:Operand)(hx:VT P w g base x u)(hy:VT P w g base y v) :
  ∃z,(∀w':World,True->(do eqGuard op t X Y u v;binOp op t u v:Sem Value).run P w'=.ok z w')/\VT P w g base r z:=by
 unfold aen at h;cases ex:x.sc with
 | none=>rw[ex] at h;cases h
 | some q =>
  obtain⟨s1,U⟩:=q;cases ey:y.sc with
  | none=>rw[ex,ey] at h;cases s1 <;> cases h
  | some q =>
   obtain⟨s2,J⟩:=q;rw[ex,ey] at h;have h1:=qw ex hx;have Z:=qw ey hy;cases s1 <;> cases s2 <;> try (cases h;done)
   ·rename_i k k';cases hk:(k==k') with
    | false =>
     simp only[hk,f5] at h;unfold aku at h;cases op <;> first | (cases h;done) | skip
     simp only[WF,b7,i8] at h;obtain⟨rfl,V⟩:=h;have V:¬J.int<0:=by
      have:0<=J.int:=by simpa using V
      omega
     cases h1;cases Z;have O:∀w,(eqGuard .shr t X Y (.int k U.int) (.int k' J.int)).run P w=.ok () w:=by intro w;unfold eqGuard;simp[Sem.run]
     exact⟨_,by intro w' _;simp only[j7,O,g7];simp[binOp,Op.shift,V],pV _ _⟩
    | true =>
     simp only[hk,f8] at h;have:k=k':=by simpa using hk
     subst this;cases h1;cases Z;exact agJ h t X Y
   ·cases h1;cases Z;have O:∀w,(eqGuard op t X Y (.bool U.bool) (.bool J.bool)).run P w=.ok () w:=by intro w;unfold eqGuard;cases op <;> simp[Sem.run]
    cases hb:Ex P t with
    | false=>simp only[hb,f5,reduceCtorEq] at h
    | true =>
    simp only[hb,f8] at h;have hu:=YI hb;cases op <;> simp only[reduceCtorEq,b7,i8,C6] at h
    all_goals
     subst h;refine⟨_,?_,Ml _⟩;intro w' _;simp only[j7,O,g7,binOp,LL hu,m8]
   ·cases h1;cases Z;have O:∀w,(eqGuard op t X Y (.string (bsv U.str)) (.string (bsv J.str))).run P w=.ok () w:=by intro w;unfold eqGuard;cases op <;> simp[Sem.run]
    cases op <;> simp only[reduceCtorEq,b7,i8,C6] at h
    ·obtain⟨h,hl⟩:=h;subst h;have hl:U.str.length+J.str.length<1099511627776:=by simpa using hl
     refine⟨.string (bsv (U.str++J.str)),?_,VD.str (.s (U.str++J.str))⟩;intro w' _;simp only[j7,O,g7,binOp,Op.stringOp,sB,ajn];rw[i7 (by simp[IntKind.max,IntKind.signed,IntKind.bits];omega)];rfl
    ·subst h;refine⟨_,?_,Ml _⟩;intro w' _;simp[j7,O,binOp,Op.stringOp,tz]
    ·subst h;refine⟨_,?_,Ml _⟩;intro w' _;simp[j7,O,binOp,Op.stringOp,tz]
theorem Mi{d:Nat}{cells:List S}:∀ {V:List Field} {i:Nat} {U:List S},Tz P V i U=true->∀ {p q:b8} {xs ys:Array Value},(∀j s,U[j]?=some s->∃u v,xs[i+j]?=some u/\ys[i+j]?=some v/\VD P w g.prot s (p j) u/\VD P w g.prot s (q j) v) ->
  ∀w',(Op.eqFields (d+1) xs ys V).run P w'=.ok (fO U p q) w'
 | [],i,[],_,p,q,xs,ys,_,w'=>rfl
 | [],i,s::U,h,_,_,_,_,_,_=>by cases h
 | f::V,i,[],h,_,_,_,_,_,_=>by cases h
 | f::V,i,s::U,h,p,q,xs,ys,hv,w'=>by
  unfold Tz at h;simp only[a9,p6,D1] at h;obtain⟨⟨⟨⟨h1,h2⟩,h3⟩,J⟩,h5⟩:=h;obtain⟨u,v,k1,k2,Z,k4⟩:=hv 0 s rfl;rw[D4] at k1 k2;have ih:=Mi (d:=d) (cells:=cells) h5 (p:=p.tail) (q:=q.tail) (xs:=xs) (ys:=ys) (fun j s' hj=>by obtain⟨u',v',q1,q2,q3,q4⟩:=hv (j+1) s' (by simpa using hj);exact⟨u',v',by rw[show i+1+j=i+(j+1) from by omega];exact q1,by rw[show i+1+j=i+(j+1) from by omega];exact q2,by rw[dG];exact q3,by rw[dG];exact q4⟩) w';have hp:∀(Y:Array Value) z,Y[i]?=some z->∀w,(part f.type Y f.offset).run P w=.ok z w:=fun Y z hz w=>by unfold part;simp only[j7,Dx h3,g7,h1];simp[hz]
  unfold Op.eqFields;rw[j8 h2];simp only[j7,hp xs u k1,hp ys v k2,g7];cases s with
  | sl e=>simp only[uM] at J;split at J <;> simp_all
  | opq=>simp only[uM] at J;split at J <;> simp_all
  | int k =>
   have O:∃k',P.underlying f.type=some (.int k'):=by unfold uM at J;split at J <;> simp_all
   obtain⟨k',O⟩:=O;cases Z;cases k4;rw[run_equalIn_int w' d f.type k k' _ _ O];simp only[g7,fO];cases (p 0).int==(q 0).int
   ·rfl
   ·exact ih
  | bool =>
   have O:P.underlying f.type=some .bool:=by unfold uM at J;split at J <;> simp_all
   cases Z;cases k4;rw[run_equalIn_bool' w' d f.type _ _ O];simp only[g7,fO];cases (p 0).bool==(q 0).bool
   ·rfl
   ·exact ih
  | str =>
   have O:P.underlying f.type=some .string:=by unfold uM at J;split at J <;> simp_all
   cases Z;cases k4;rw[run_equalIn_string w' d f.type _ _ O];simp only[g7,fO,tz];cases (p 0).str==(q 0).str
   ·rfl
   ·exact ih
theorem Hl:∀(J:List S) (n:Nat) (p q:b8),fO J p q=(fO (J.take n) p q&&fO (J.drop n) (p.drop n) (q.drop n))
 | J,0,p,q=>by simp[fO]
 | [],n+1,p,q=>by simp[fO]
 | s::J,n+1,p,q=>by have O:=Hl J n p.tail q.tail;rw[List.drop_tail,List.drop_tail] at O;cases s <;> simp only[fO,E4,K5,y7] <;> rw[O,Bool.and_assoc]
theorem JO(p:b8)(n j:Nat):p.drop n j=p (n+j):=by unfold gd;rw[f9,f9,y0]
theorem xi{d:Nat}:∀ {fs:List Field} {i:Nat} {V:List S},yo P fs i V=true->∀ {p q:b8} {xs ys:Array Value},(∀j s,V[j]?=some s->∃u v,xs[i+j]?=some u/\ys[i+j]?=some v/\VD P w g.prot s (p j) u/\VD P w g.prot s (q j) v) ->
  ∀w',(Op.eqFields (d+2) xs ys fs).run P w'=.ok (fO V p q) w'
 | [],i,[],_,p,q,xs,ys,_,w'=>rfl
 | [],i,s::V,h,_,_,_,_,_,_=>by cases h
 | f::fs,i,[],h,_,_,_,_,_,_=>by cases h
 | f::fs,i,s::V,h,p,q,xs,ys,hv,w'=>by
  unfold yo at h;cases hA:(Ge P f.type==some false) with
  | true =>
   rw[hA,f8] at h;simp only[a9,p6,D1] at h;obtain⟨⟨⟨h1,h2⟩,J⟩,h5⟩:=h;have h3:Ge P f.type=some false:=by simpa using hA
   have ih:=xi (d:=d) h5 (p:=p.tail) (q:=q.tail) (xs:=xs) (ys:=ys) (fun j s' U=>by obtain⟨u',v',Z,q2,q3,q4⟩:=hv (j+1) s' (by simpa using U);exact⟨u',v',by rw[show i+1+j=i+(j+1) from by omega];exact Z,by rw[show i+1+j=i+(j+1) from by omega];exact q2,by rw[dG];exact q3,by rw[dG];exact q4⟩) w';obtain⟨u,v,k1,k2,k3,k4⟩:=hv 0 s rfl;rw[D4] at k1 k2;have hp:∀(Y:Array Value) z,Y[i]?=some z->∀w,(part f.type Y f.offset).run P w=.ok z w:=fun Y z hz w=>by unfold part;simp only[j7,Dx h3,g7,h1];simp[hz]
   unfold Op.eqFields;rw[j8 h2];simp only[j7,hp xs u k1,hp ys v k2,g7];cases s with
   | sl e=>simp only[uM] at J;split at J <;> simp_all
   | opq=>simp only[uM] at J;split at J <;> simp_all
   | int k =>
    have O:∃k',P.underlying f.type=some (.int k'):=by unfold uM at J;split at J <;> simp_all
    obtain⟨k',O⟩:=O;cases k3;cases k4;rw[run_equalIn_int w' (d+1) f.type k k' _ _ O];simp only[g7,fO];cases (p 0).int==(q 0).int
    ·rfl
    ·exact ih
   | bool =>
    have O:P.underlying f.type=some .bool:=by unfold uM at J;split at J <;> simp_all
    cases k3;cases k4;rw[run_equalIn_bool' w' (d+1) f.type _ _ O];simp only[g7,fO];cases (p 0).bool==(q 0).bool
    ·rfl
    ·exact ih
   | str =>
    have O:P.underlying f.type=some .string:=by unfold uM at J;split at J <;> simp_all
    cases k3;cases k4;rw[run_equalIn_string w' (d+1) f.type _ _ O];simp only[g7,fO,tz];cases (p 0).str==(q 0).str
    ·rfl
    ·exact ih
  | false =>
   rw[hA,f5] at h
   split at h
   ·rename_i gs n O hn;simp only[a9,p6,D1,m6] at h;obtain⟨⟨⟨⟨⟨⟨h1,h2⟩,h3⟩,a4⟩,hf⟩,a1⟩,h5⟩:=h;have a1:=v5 a1;have ih:=xi (d:=d) h5 (p:=p.drop n) (q:=q.drop n) (xs:=xs) (ys:=ys) (fun j s' U=>by obtain⟨u',v',Z,q2,q3,q4⟩:=hv (n+j) s' (by rw[y0] at U;exact U);exact⟨u',v',by rw[show i+n+j=i+(n+j) from by omega];exact Z,by rw[show i+n+j=i+(n+j) from by omega];exact q2,by rw[JO];exact q3,by rw[JO];exact q4⟩) w';have a0:P.fieldsOf f.type=gs:=by unfold Program.fieldsOf;rw[O]
    have a2:=Mi (d:=d) (P:=P) (w:=w) (g:=g) (cells:= []) hf (p:=p) (q:=q) (xs:=xs.extract i (i+n)) (ys:=ys.extract i (i+n)) (fun j s' U=>by
     rw[s7] at U
     split at U
     ·rename_i a5;obtain⟨u',v',Z,q2,q3,q4⟩:=hv j s' U;have hx:=(t7.1 Z).1;have hy:=(t7.1 q2).1;refine⟨u',v',?_,?_,q3,q4⟩
      ·rw[i9,L3,j8 (by omega)];exact Z
      ·rw[i9,L3,j8 (by omega)];exact q2
     ·cases U)
    have hp:∀(Y:Array Value) w,(part f.type Y f.offset).run P w=.ok (.agg (Y.extract i (i+n))) w:=fun Y w=>by unfold part;simp only[j7,Dx h3,g7,eP hn,m8,h1];simp[eP hn,j7]
    have a3:∀w',(Op.equalIn (d+2) f.type (.agg (xs.extract i (i+n))) (.agg (ys.extract i (i+n)))).run P w'=.ok (fO ((s::V).take n) p q) w':=fun w'=>by rw[run_equalIn_struct w' (d+1) f.type _ _ (by rw[a0];exact O) a4,a0];exact a2 w'
    rw[Hl (s::V) n p q];unfold Op.eqFields;rw[j8 h2];simp only[j7,hp,g7,a3];cases fO ((s::V).take n) p q
    ·rfl
    ·exact ih
   ·cases h
theorem aha{op:BinOp}{x y r:T}{u v:Value}(t:TypeId)(h:ahp P op t x y=some (r,true))(X Y:Operand)(hx:VT P w g base x u)(hy:VT P w g base y v) :
  ∃z,(∀w':World,True->(do eqGuard op t X Y u v;binOp op t u v:Sem Value).run P w'=.ok z w')/\VT P w g base r z:=by
 unfold ahp at h
 split at h
 ·rename_i cs a8 a3 a4
  split at h
  ·rename_i J fs b6 hu;cases U:(cs==J.map .d&&a8==J.map .d&&yo P fs.toList 0 J && !P.stoodInHeld t && !P.eqGuardType P.depth t) with
   | false=>rw[U] at h;cases h
   | true =>
    rw[U,f8] at h;simp only[a9,p6,m6] at U;obtain⟨⟨⟨⟨rfl,rfl⟩,hf⟩,a5⟩,hg⟩:=U;obtain⟨b0,p⟩:=x;obtain⟨b5,q⟩:=y;simp only at a3 a4;subst a3;subst a4;obtain⟨xs,rfl,b3,a7⟩:=hx;obtain⟨ys,rfl,b4,a6⟩:=hy;have a0:P.fieldsOf t=fs:=by unfold Program.fieldsOf;rw[hu]
    have O:∀j s,J[j]?=some s->∃u v,xs[0+j]?=some u/\ys[0+j]?=some v/\VD P w g.prot s (p j) u/\VD P w g.prot s (q j) v:=fun j s hj=>by obtain⟨u,a1,a2⟩:=a7 j (.d s) (by rw[u6,hj];rfl);obtain⟨v,b1,b2⟩:=a6 j (.d s) (by rw[u6,hj];rfl);rw[i9];exact⟨u,v,a1,b1,a2,b2⟩
    have Z:∀w',(Op.equalIn 10000 t (.agg xs) (.agg ys)).run P w'=.ok (fO J p q) w':=fun w'=>by rw[run_equalIn_struct w' 9999 t xs ys (by rw[a0];exact hu) a5,a0];exact xi (d:=9997) hf O w'
    have V:∀w',(eqGuard op t X Y (.agg xs) (.agg ys)).run P w'=.ok () w':=fun w'=>run_eqGuard_agg w' op t X Y xs ys hg
    cases op <;> simp only[b7,i8,C6,reduceCtorEq] at h
    ·subst h;exact⟨_,fun w' _=>by simp only[j7,V,g7,run_eql_struct,Z],Ml _⟩
    ·subst h;exact⟨_,fun w' _=>by simp only[j7,V,g7,run_neq_struct,Z],Ml _⟩
  ·cases h
 ·cases h
theorem aiX{op:UnOp}{x r:T}{u:Value}(h:ajx op x=some r)(J:VT P w g base x u):∃z,(∀w':World,True->(Op.unary op u).run P w'=.ok z w')/\VT P w g base r z:=by
 unfold ajx at h;cases ex:x.sc with
 | none=>rw[ex] at h;cases op <;> cases h
 | some q =>
  obtain⟨s,d⟩:=q;rw[ex] at h;have hv:=qw ex J;cases op <;> cases s <;> simp only[reduceCtorEq,b7] at h
  ·subst h;cases hv;exact⟨_,by intro w' _;simp[Op.unary,Op.intArith],pV _ _⟩
  ·subst h;cases hv;exact⟨_,by intro w' _;simp[Op.unary],Ml _⟩
theorem KO{x:T}{t:Option Tok}{e:TypeId}{rows:List b8}{u:Value}(h:x.slice=some (t,e,rows))(Y:VT P w g base x u) :
  ∃A c,u=.slice A rows.length c/\rows.length<=c/\c<=9223372036854775807/\∃row,bk P e=some row /\
   match t with
   | none=>∀i j s,i<rows.length->row[j]?=some s->∃b o v,A=some ⟨b,o,none⟩/\w.cell? ⟨b,o+(i*row.length+j),none⟩=some v/\o+(i*row.length+j)<g.prot b/\VD P w g.prot s (rows.getD i [] j) v
   | some t=>dp P w g base t true e row rows u:=by
 obtain⟨sh,p⟩:=x;cases sh with
 | tup xs=>cases h
 | one x=>cases x with
  | agg xs=>cases h
  | c x=>cases x with
   | d s=>cases s with
    | sl V =>
     simp only[T.slice,b7,i8] at h;obtain⟨rfl,rfl,rfl⟩:=h;have Y:VD P w g.prot (.sl V) (p 0) u:=Y;cases Y with
     | sl _ _ A c row u U h1 J O h4 =>refine⟨A,c,rfl,h1,J,row,U,fun i j s hi hs=>?_⟩;have hj:=(g5.1 hs).1;obtain⟨b,o,Z,k2,k3⟩:=O i j hi hj;exact⟨b,o,_,Z,k2,k3,h4 i j s hi hs⟩
    | _=>cases h
   | own t' xm V =>
    simp only[T.slice,b7,i8] at h;obtain⟨rfl,rfl,rfl⟩:=h;obtain⟨row,U,hv⟩:∃row,bk P V=some row/\dp P w g base t' xm V row (p 0).rows u:=Y;cases xm with
    | true =>
     rcases hv with⟨h0,a1,A,rfl⟩ | ⟨cap,arr,E,rfl,J,O,rest⟩
     ·exact⟨A,0,by rw[h0];rfl,by rw[h0];simp,by omega,row,U,.inl ⟨h0,a1,A,rfl⟩⟩
     ·exact⟨_,cap,rfl,J,O.1,row,U,.inr ⟨cap,arr,E,rfl,J,O,rest⟩⟩
    | false =>
     have a3:=nO U hv;generalize hd:p 0=d at *;cases a3 with
     | sl _ _ A c a0 u a2 h1 J O h4 =>refine⟨A,c,rfl,h1,J,a0,a2,fun i j s hi hs=>?_⟩;have hj:=(g5.1 hs).1;obtain⟨b,o,Z,k2,k3⟩:=O i j hi hj;exact⟨b,o,_,Z,k2,k3,h4 i j s hi hs⟩
   | _=>cases h
theorem LI{n:Int}{len:Nat}(h:al n len=true):0<=n/\n<len/\n.toNat<len:=by unfold al at h;simp only[a9,f7] at h;omega
theorem MU{t e:TypeId}{x i r:T}{u v:Value}(ht:kT P t=some e)(h:vZ e x i=some (r,true))(hx:VT P w g base x u)(hi:VT P w g base i v) :
  ∃z,(∀w':World,True->(Instr.indexAt t u v).run P w'=.ok z w')/\VT P w g base r z:=by
 unfold vZ at h;cases ei:i.intOf with
 | none=>rw[ei] at h;cases h
 | some n =>
  cases es:x.slice with
  | none=>rw[ei,es] at h;cases h
  | some q =>
   obtain⟨Z,e',rows⟩:=q;rw[ei,es] at h;simp only at h;cases Y:(e==e') with
   | false=>rw[Y] at h;cases h
   | true =>
    rw[Y] at h;have Y:e=e':=by simpa using Y
    subst Y;simp only[f8,b7,i8] at h;obtain⟨rfl,hin⟩:=h;obtain⟨h0,h1,O⟩:=LI hin;obtain⟨k,rfl⟩:=Nn ei hi;obtain⟨A,c,rfl,a4,a3,row,hr,hv⟩:=KO es hx;have a1:=gH hr;have V:∀b o,A=some ⟨b,o,none⟩->∀w':World,True->(Instr.indexAt t (.slice A rows.length c) (.int k n)).run P w'=.ok (.pointer (some ⟨b,o+n.toNat*row.length,none⟩)) w':=by intro b o U w' _;subst U;unfold Instr.indexAt;simp only[asIntOf,j7,m8,g7,run_underlying (gV ht)];rw[j8 ⟨h0,h1⟩];simp only[j7,eP a1,g7,m8,pz]
    cases Z with
    | none =>
     have a0:0<row.length:=by
      rcases C4 row.length with h | h
      ·exfalso
       have:=lI hr;omega
      ·exact h
     obtain⟨b,o,v0,U,_⟩:=hv n.toNat 0 _ O (g6 a0);refine⟨_,V b o U,row,b,o,hr,rfl,O,fun j s hs=>?_⟩;obtain⟨b',o',v',J,k1,k2,k3⟩:=hv n.toNat j s O hs;rw[U] at J;injection J with J;injection J with e1 e2 _;subst e1;subst e2;exact⟨v',k1,k2,k3⟩
    | some Z =>
     have a2:=hv;rcases hv with⟨hn,_⟩ | ⟨cap,arr,E,hs,rest⟩
     ·rw[hn] at O;simp at O
     ·injection hs with U _ _
      refine⟨_,V _ _ U,row,hr,?_,O,_,a2⟩;show Value.pointer (some ⟨g.ρ Z,0+n.toNat*row.length,none⟩)=Value.pointer (some ⟨g.ρ Z,n.toNat*row.length+0,none⟩);rw[i9,D4]
theorem Fn{t:TypeId}(h:vQ P t=true):P.underlying t=some .string:=by
 unfold vQ at h
 split at h
 ·assumption
 ·cases h
theorem agH{O:TypeId}{x r:T}{u:Value}(h:aaE P O x=some r)(U:VT P w g base x u)(Y:TypeId) :
  ∃z,(∀w':World,True->(Builtin.len_ #[O] Y #[u]).run P w'=.ok z w')/\VT P w g base r z:=by
 unfold aaE at h
 split at h
 ·rename_i d ex;cases J:vQ P O with
  | false=>rw[J] at h;cases h
  | true =>rw[J] at h;simp only[f8,b7] at h;subst h;have hv:=qw ex U;cases hv;refine⟨.int .i64 d.str.length,?_,pV _ _⟩;intro w' _;simp[Builtin.len_,run_underlying (Fn J),sB,goInt]
 ·split at h
  ·rename_i t e rows V;cases J:(kT P O).isSome with
   | false=>rw[J] at h;cases h
   | true =>rw[J] at h;simp only[f8,b7] at h;subst h;obtain⟨A,c,rfl,_⟩:=KO V U;obtain⟨e',Z⟩:=B6.1 J;refine⟨.int .i64 rows.length,?_,pV _ _⟩;intro w' _;simp[Builtin.len_,run_underlying (gV Z),goInt]
  ·cases h
def Kh(P:Program)(w:World)(g:G)(base:Nat)(cs:List Ce)(ds:b8)(b o:Nat):Prop:=
 ∀(j:Nat) c,cs[j]?=some c->∃u,w.cell? ⟨b,o+j,none⟩=some u/\VC P w g base c (ds j) u
theorem yN{b o:Nat}:∀(n i:Nat) (us J:Array Value),us.size=i+n->J.size=i->(∀j,i<=j->j<i+n->w.cell? ⟨b,o+j,none⟩=us[j]?)->(∀j,j<i->J[j]?=us[j]?) ->
  (loadCellsFrom ⟨b,o,none⟩ i n J).run P w=.ok us w
 | 0,i,us,J,h1,h2,_,h4=>by
  simp only[loadCellsFrom,m8]
  congr 1
  refine Array.ext (by omega) fun j O U=>?_
  have:=h4 j (by omega);rw[n3 O,n3 U] at this;injection this
 | n+1,i,us,J,h1,h2,h3,h4=>by
  have Y:=h3 i (g8 _) (by omega);have V:us[i]?=some (us[i]'(by omega)):=n3 (by omega);rw[V] at Y;simp only[loadCellsFrom,pz,load,j7,Sem.run,Y,g7];refine yN n (i+1) us _ (by omega) (by simp[h2]) (fun j O U=>h3 j (by omega) (by omega)) fun j Z=>?_
  rw[Array.getElem?_push]
  split
  ·rename_i e;rw[e,h2];exact V.symm
  ·exact h4 j (by omega)
theorem Id{t n:Nat}{ag:Bool}{b o:Nat}{us:Array Value}(U:Ge P t=some ag)(hn:eB P t=some n)(O:us.size=n)(h:∀j,j<n->w.cell? ⟨b,o+j,none⟩=us[j]?)(h1:ag=false->n=1) :
  (loadVar t ⟨b,o,none⟩).run P w=.ok (if ag then .agg us else us.getD 0 undef) w:=by
 unfold loadVar;simp only[j7,Dx U,g7];cases ag with
 | true =>simp only[if_true,j7,eP hn,g7,loadCells];rw[yN (P:=P) (w:=w) n 0 us #[] (by omega) rfl (fun j _ V=>h j (by omega)) (fun j V=>by omega)];rfl
 | false =>
  have:=h1 rfl;subst this;have J:=h 0 (by omega);rw[n3 (by omega)] at J;rw[D4] at J;simp only[u4,if_false,load,Sem.run,J]
  congr 1
  simp[Array.getD,O]
theorem Uj{t n off:Nat}{ag:Bool}{cs:List Ce}{ds:b8}{b o:Nat}{r:T}(ha:Ge P t=some ag)(hn:eB P t=some n)(h:cut ag n off cs ds=some r)(hc:Kh P w g base cs ds b o) :
  ∃z,(∀w',Below w.heap.size w w'->(loadVar t ⟨b,o+off,none⟩).run P w'=.ok z w')/\VT P w g base r z:=by
 unfold cut at h;cases hb:Nat.ble (off+n) cs.length with
 | false=>rw[hb] at h;cases h
 | true =>
  rw[hb] at h;have a2:off+n<=cs.length:=v5 hb;simp only[f8] at h;have Z:∀(j:Nat) (J:j<n),∃u,w.cell? ⟨b,o+off+j,none⟩=some u/\VC P w g base (cs[off+j]'(by omega)) (ds (off+j)) u:=fun j J=>by obtain⟨u,h1,h2⟩:=hc (off+j) _ (g6 (by omega));exact⟨u,by rw[p8];exact h1,h2⟩
  let us:Array Value:=Array.ofFn (n:=n) fun j=>(w.cell? ⟨b,o+off+j.1,none⟩).getD undef
  have a0:us.size=n:=by simp[us]
  have O:∀j,j<n->w.cell? ⟨b,o+off+j,none⟩=us[j]?:=fun j J=>by obtain⟨u,h1,_⟩:=Z j J;rw[h1,n3 (by omega)];simp[us,h1]
  have V:∀w',Below w.heap.size w w'->∀j,j<n->w'.cell? ⟨b,o+off+j,none⟩=us[j]?:=fun w' hw j J=>by obtain⟨u,h1,_⟩:=Z j J;rw[<- O j J];exact bd (hw.block _ (dn h1)) _
  cases ag with
  | true =>
   simp only[f8,b7] at h;subst h;refine⟨_,fun w' hw=>Id ha hn a0 (V w' hw) (by intro h;cases h),us,rfl,by simp[a0];omega,fun j c J=>?_⟩;have Y:j<n:=by have:=(g5.1 J).1;simp at this;omega
   obtain⟨u,h1,h2⟩:=Z j Y;refine⟨u,by rw[<- O j Y,h1],?_⟩;rw[fq _ _ _ _ Y];rw[s7,j8 Y,y0,g6 (by omega)] at J;injection J with J;subst J;exact h2
  | false =>
   simp only[f5] at h;cases ho:cs[off]? with
   | none=>rw[ho] at h;cases h
   | some c =>
    rw[ho] at h;cases U:(n==1) with
    | false=>simp only[U,f5,reduceCtorEq] at h
    | true =>
     simp only[U,f8,b7] at h;have U:n=1:=by simpa using U
     subst h;refine⟨_,fun w' hw=>Id ha hn a0 (V w' hw) (fun _=>U),?_⟩;obtain⟨u,h1,h2⟩:=Z 0 (by omega);have h3:=O 0 (by omega);rw[h1] at h3;have h4:us.getD 0 undef=u:=by rw[y3,<- h3];rfl
     simp only[u4,if_false];rw[h4];have a1:cs[off+0]'(by omega)=c:=by rw[g6 (by omega)] at ho;injection ho
     rw[a1] at h2;exact h2
theorem MW{J:Option Tok}{e:TypeId}:∀ {row:List S} {o j:Nat} {c:Ce},(Ag J e o row)[j]?=some c->∃s,row[j]?=some s/\c=akh J e (o+j) s
 | [],o,j,c,h=>by simp[Ag] at h
 | s::row,o,0,c,h=>by simp only[Ag,n5,b7] at h;exact⟨s,rfl,h.symm⟩
 | s::row,o,j+1,c,h=>by obtain⟨s',h1,O⟩:=MW (o:=o+1) (j:=j) (row:=row) (by simpa [Ag] using h);exact⟨s',by simpa using h1,by rw[O,show o+1+j=o+(j+1) from by omega]⟩
theorem Qm(x:D)(r:b8):∀(row:List S) (o j:Nat) (s:S),row[j]?=some s->VB x r o row j=match s with | .sl _=>x | _=>r (o+j)
 | [],o,j,s,h=>by simp at h
 | s0::row,o,0,s,h=>by simp only[n5,b7] at h;subst h;cases s0 <;> rfl
 | s0::row,o,j+1,s,h=>by have:=Qm x r row (o+1) j s (by simpa using h);rw[show o+(j+1)=o+1+j from by omega,<- this];cases s0 <;> rfl
theorem Rw{t:Nat}{x r:T}{u:Value}(hr:Rel P w g base σ a)(h:AM P t σ x=some r)(hx:VT P w g base x u) :
  ∃z,(∀w',Below w.heap.size w w'->(Instr.loadAt t u).run P w'=.ok z w')/\VT P w g base r z:=by
 unfold AM at h;cases ha:Ge P t with
 | none=>rw[ha] at h;cases h
 | some ag =>
  cases hn:eB P t with
  | none=>rw[ha,hn] at h;cases h
  | some n =>
   rw[ha,hn] at h;obtain⟨sh,p⟩:=x;cases sh with
   | tup xs=>cases h
   | one x=>cases x with
    | agg xs=>cases h
    | c x=>cases x with
     | ptr id off =>
      have hx:u=.pointer (some ⟨g.θ id,off,none⟩):=hx;subst hx;simp only at h;cases hl:bH id σ.h with
      | none=>rw[hl] at h;cases h
      | some q =>
       obtain⟨cs,ds⟩:=q;rw[hl] at h;obtain⟨_,_,_,_,a3,E,h4,h5,h6⟩:=hr.box id cs ds hl;have a0:Kh P w g base cs ds (g.θ id) 0:=fun j c O=>by obtain⟨v,h7,h8⟩:=h6 j c O;exact⟨v,by simp only[World.cell?,h4,i9];exact h7,h8⟩
       obtain⟨z,J,U⟩:=Uj ha hn h a0;rw[i9] at J;exact⟨z,fun w' hw=>by simp only[Instr.loadAt,Instr.sureAddr,j7,m8,g7];exact J w' hw,U⟩
     | eptr Z e off =>
      simp only at h;cases V:bk P e with
      | none=>rw[V] at h;cases h
      | some row =>
       rw[V] at h;cases a1:zz Z with
       | false =>
        simp only[a1,f5] at h;have key:∃b o,u=.pointer (some ⟨b,o+(eIx (p 0)*row.length+off),none⟩)/\∀j s,row[j]?=some s->∃v,w.cell? ⟨b,o+(eIx (p 0)*row.length+j),none⟩=some v/\VC P w g base (.d s) (((dJ (p 0)).getD (eIx (p 0)) []) j) v:=by
         cases Z with
         | none =>obtain⟨a5,b,o,J,U,k3,k4⟩:=hx;rw[V] at J;injection J with J;subst J;exact⟨b,o,U,fun j s hs=>by obtain⟨v,j1,_,j3⟩:=k4 j s hs;exact⟨v,j1,j3⟩⟩
         | some Z =>
          obtain⟨a5,J,U,k3,v0,k4⟩:=hx;rw[V] at J;injection J with J;subst J;refine⟨g.ρ Z,0,by rw[i9];exact U,fun j s hs=>?_⟩;rcases k4 with⟨h0,_⟩ | ⟨cap,a3,E,h1,h2,h3,h4,h5,h6,h7,h8,h9,h10,h11⟩
          ·rw[h0] at k3;simp at k3
          ·obtain⟨v,a2,Y⟩:=h11 _ j s k3 hs;exact⟨v,by simp only[World.cell?,h6,i9];exact a2,Y.vd a1⟩
        obtain⟨b,o,rfl,hk⟩:=key;have a0:Kh P w g base (row.map .d) ((dJ (p 0)).getD (eIx (p 0)) []) b (o+eIx (p 0)*row.length):=fun j c O=>by
         rw[u6] at O;cases hs:row[j]? with
         | none=>rw[hs] at O;cases O
         | some s =>
          rw[hs] at O;injection O with O
          subst O;obtain⟨v,J,U⟩:=hk j s hs;exact⟨v,by rw[p8];exact J,U⟩
        obtain⟨z,J,U⟩:=Uj ha hn h a0;rw[p8] at J;exact⟨z,fun w' hw=>by simp only[Instr.loadAt,Instr.sureAddr,j7,m8,g7];exact J w' hw,U⟩
       | true =>
        simp only[a1,f8] at h;cases Z with
        | none=>cases a1
        | some Z =>
         obtain⟨a5,J,U,k3,v0,k4⟩:=hx;rw[V] at J;injection J with J;subst J;subst U;have a0:Kh P w g base (Ag (some Z) e 0 row) (VB (p 0) ((dJ (p 0)).getD (eIx (p 0)) []) 0 row) (g.ρ Z) (eIx (p 0)*row.length):=fun j c O=>by
          rcases k4 with⟨h0,_⟩ | ⟨cap,a3,E,h1,h2,h3,h4,h5,h6,h7,h8,h9,h10,h11⟩
          ·rw[h0] at k3;simp at k3
          ·obtain⟨s,hs,hc⟩:=MW O;obtain⟨v,a2,Y⟩:=h11 _ j s k3 hs;refine⟨v,by simp only[World.cell?,h6];exact a2,?_⟩;rw[i9] at hc;subst hc;have hg:=Qm (p 0) ((dJ (p 0)).getD (eIx (p 0)) []) row 0 j s hs;rw[hg,i9];have a4:bm Z=true:=a1;cases s with
           | sl ei =>show VC P w g base (bif bm Z then .inn Z e j ei else .d (.sl ei)) _ _;rw[a4,f8];exact⟨row,V,⟨v0,.inr ⟨cap,a3,E,h1,h2,h3,h4,h5,h6,h7,h8,h9,h10,h11⟩⟩,.inl ⟨Nat.lt_trans (g5.1 hs).1 (afk V),hs,a4,k3,a3,E,h6,a2,Y.flat⟩⟩
           | int k=>exact Y.vd_flat rfl
           | bool=>exact Y.vd_flat rfl
           | str=>exact Y.vd_flat rfl
           | opq =>unfold ci at Y;rw[j8 (by rw[a4];rfl)] at Y;exact Y.no_opq.elim
         obtain⟨z,J,U⟩:=Uj ha hn h a0;exact⟨z,fun w' hw=>by simp only[Instr.loadAt,Instr.sureAddr,j7,m8,g7];exact J w' hw,U⟩
     | cptr cells off =>
      obtain⟨b,o,J,U,k3⟩:fU P w g base cells off (p 0) u:=hx;subst J;simp only at h;have a0:Kh P w g base (cells.map .d) (p 0 0) b o:=fun j c O=>by
       rw[u6] at O;cases hs:cells[j]? with
       | none=>rw[hs] at O;cases O
       | some s =>
        rw[hs] at O;injection O with O
        subst O;exact k3 j s hs
      obtain⟨z,J,U⟩:=Uj ha hn h a0;exact⟨z,fun w' hw=>by simp only[Instr.loadAt,Instr.sureAddr,j7,m8,g7];exact J w' hw,U⟩
     | _=>cases h
theorem Ft{t i off U:Nat}(h:AE P t i=some (off,U)):∃(J:Array Field) (f:Field),P.underlying t=some (.struct J)/\J[i]?=some f/\f.offset=off/\f.type=U:=by
 unfold AE at h
 split at h
 ·rename_i J V;cases O:J[i]? with
  | none=>rw[O] at h;cases h
  | some f =>rw[O] at h;simp only[B1,b7,i8] at h;exact⟨J,f,V,O,h.1,h.2⟩
 ·cases h
theorem To{t i off Y n:Nat}{x r:T}{u:Value}(hf:AE P t i=some (off,Y))(hn:eB P Y=some n)(Z:n≠0)(h:Gp x off=some r)(O:VT P w g base x u) :
  ∃z,(∀w':World,True->(Instr.fieldAt t u i).run P w'=.ok z w')/\VT P w g base r z:=by
 obtain⟨fs,f,hu,a0,rfl,rfl⟩:=Ft hf;have J:∀b o (w':World),True->(Instr.fieldAt t (.pointer (some ⟨b,o,none⟩)) i).run P w'=.ok (.pointer (some ⟨b,o+f.offset,none⟩)) w':=by intro b o w' _;unfold Instr.fieldAt;simp only[j7,run_underlying hu,g7,a0,Instr.sureAddr,m8,fieldPlace,eP hn,i7 Z,pz]
 obtain⟨sh,p⟩:=x;cases sh with
 | tup xs=>cases h
 | one x=>cases x with
  | agg xs=>cases h
  | c x=>cases x with
   | ptr id o =>have O:u=.pointer (some ⟨g.θ id,o,none⟩):=O;subst O;simp only[Gp,b7] at h;subst h;exact⟨_,J _ _,rfl⟩
   | eptr V e o =>
    simp only[Gp,b7] at h;subst h;cases V with
    | none =>obtain⟨row,b,o',h1,rfl,U,h4⟩:=O;refine⟨_,J _ _,row,b,o',h1,?_,U,h4⟩;show Value.pointer (some ⟨b,o'+(eIx (p 0)*row.length+o)+f.offset,none⟩)=Value.pointer (some ⟨b,o'+(eIx (p 0)*row.length+(o+f.offset)),none⟩);rw[p8,p8]
    | some V =>obtain⟨row,h1,rfl,U⟩:=O;refine⟨_,J _ _,row,h1,?_,U⟩;show Value.pointer (some ⟨g.ρ V,eIx (p 0)*row.length+o+f.offset,none⟩)=Value.pointer (some ⟨g.ρ V,eIx (p 0)*row.length+(o+f.offset),none⟩);rw[p8]
   | cptr cells o =>simp only[Gp,b7] at h;subst h;obtain⟨b,o',rfl,U⟩:fU P w g base cells o (p 0) u:=O;refine⟨_,J _ _,b,o',?_,U⟩;show Value.pointer (some ⟨b,o'+o+f.offset,none⟩)=Value.pointer (some ⟨b,o'+(o+f.offset),none⟩);rw[p8]
   | _=>cases h
theorem aig{t i off V n:Nat}{ag:Bool}{cs:List Ce}{p:b8}{r:T}{u:Value}(hf:AE P t i=some (off,V))(ha:Ge P V=some ag)(hn:eB P V=some n)(h:cut ag n off cs p=some r)
  (hx:VT P w g base ⟨.one (.agg cs),p⟩ u):∃z,(∀w':World,True->(Instr.field t u i).run P w'=.ok z w')/\VT P w g base r z:=by
 obtain⟨fs,f,hu,a1,rfl,rfl⟩:=Ft hf;obtain⟨U,rfl,a2,hv⟩:=hx;have a0:∀w,(Instr.field t (.agg U) i).run P w=(part f.type U f.offset).run P w:=by intro w;unfold Instr.field;simp only[j7,run_underlying hu,g7,a1,asAgg,m8]
 simp only[a0];unfold cut at h;cases Z:Nat.ble (f.offset+n) cs.length with
 | false=>rw[Z] at h;cases h
 | true =>
  rw[Z] at h;have a3:f.offset+n<=cs.length:=v5 Z;simp only[f8] at h;unfold part;simp only[j7,Dx ha,g7];cases ag with
  | true =>
   simp only[f8,b7] at h;subst h;simp only[if_true,j7,eP hn,g7,m8];refine⟨_,fun _ _=>rfl,_,rfl,by simp;omega,fun j c hj=>?_⟩;have O:j<n:=by have:=(g5.1 hj).1;simp at this;omega
   rw[s7,j8 O,y0] at hj;obtain⟨u,h1,Y⟩:=hv _ c hj;refine⟨u,?_,by rw[fq _ _ _ _ O];exact Y⟩;rw[L3,j8 (by omega)];exact h1
  | false =>
   simp only[f5] at h;cases ho:cs[f.offset]? with
   | none=>rw[ho] at h;cases h
   | some c =>
    rw[ho] at h;cases J:(n==1) with
    | false=>simp only[J,f5,reduceCtorEq] at h
    | true =>simp only[J,f8,b7] at h;subst h;obtain⟨u,h1,Y⟩:=hv _ c ho;simp only[u4,if_false,h1,m8];exact⟨u,fun _ _=>rfl,Y⟩
theorem aim{t:TypeId}{x i:T}{d:D}{n:Int}{u v:Value}(hs:x.sc=some (.str,d))(hi:i.intOf=some n)(V:VT P w g base x u)(hv:VT P w g base i v)(hn:al n d.str.length=true)(O:P.underlying t=some .string) :
  ∃z,(∀w':World,True->(Instr.index t u v).run P w'=.ok z w')/\VT P w g base (.c (.d (.int .u8)) (.i ((d.str.getD n.toNat 0).toNat:Int))) z:=by
 have h1:=qw hs V;cases h1;obtain⟨k,rfl⟩:=Nn hi hv;obtain⟨U,h1,J⟩:=LI hn;refine⟨_,?_,pV _ _⟩;intro w' _;unfold Instr.index;simp only[asIntOf,j7,m8,g7,run_underlying O,j8 U,akd];rw[g6 J];simp only[m8]
 congr 1
 simp[f9,g6 J]
theorem XD{J:List Sh1}{p:b8}{i:Nat}{x:Sh1}{u:Value}(hi:J[i]?=some x)(U:VT P w g base ⟨.tup J,p⟩ u) :
  ∃z,(∀w':World,True->(Instr.extract u i).run P w'=.ok z w')/\VT P w g base ⟨.one x,sub p (rD J i) x.size⟩ z:=by
 obtain⟨V,rfl,hs,hv⟩:=U;obtain⟨z,h1,O⟩:=hv i x hi;exact⟨z,by intro w' _;simp[Instr.extract,h1],O⟩
theorem aeP{lo:Option T}{J l:Int}{lv:Option Value}(h:HX J lo=some l)(O:∀x v,lo=some x->lv=some v->VT P w g base x v)(hs:lo.isSome=lv.isSome) :
  (lo=none/\lv=none/\l=J)\/∃k,lv=some (.int k l):=by
 cases lo with
 | none=>cases lv with
  | none=>simp only[HX,b7] at h;exact .inl ⟨rfl,rfl,h.symm⟩
  | some v=>cases hs
 | some x=>cases lv with
  | none=>cases hs
  | some v =>obtain⟨k,e⟩:=Nn (show x.intOf=some l from h) (O x v rfl rfl);exact .inr ⟨k,by rw[e]⟩
theorem kL{k:IntKind}{x:Int}{y:Nat}{code:BoundsCode}(J:0<=x)(h1:x<=y):(Instr.sliceBound (.int k x) y code).run P w=.ok x.toNat w:=by simp[Instr.sliceBound,asIntOf,J,h1]
theorem jk{b:Bool}{len cap:Nat}{lv hv:Option Value}{l h:Int}(J:0<=l)(h1:l<=h)(V:h<=len)(Y:len<=cap)
  (O:(lv=none/\l=0)\/∃k,lv=some (.int k l)) (U:(hv=none/\h=len)\/∃k,hv=some (.int k h)):(Instr.sliceBounds b len cap lv hv none).run P w=.ok (l.toNat,h.toNat,cap) w:=by
 unfold Instr.sliceBounds;rcases U with⟨rfl,rfl⟩ | ⟨k,rfl⟩ <;> rcases O with⟨rfl,rfl⟩ | ⟨k',rfl⟩
 ·simp
 ·simp only[j7,m8,g7];rw[kL J h1];simp
 ·simp only[j7,m8,g7];rw[kL (by omega) (by omega)];simp
 ·simp only[j7,m8,g7];rw[kL (by omega) (by omega)];simp only[g7];rw[kL J (by omega)];simp
theorem pO{lo:Option T}{J l:Int}{lv:Option Value}(h:HX J lo=some l)(O:∀x v,lo=some x->lv=some v->VT P w g base x v)(hs:lo.isSome=lv.isSome) :
  (lv=none/\l=J)\/∃k,lv=some (.int k l):=by
 rcases aeP h O hs with⟨_,h1,U⟩ | h
 ·exact .inl ⟨h1,U⟩
 ·exact .inr h
theorem aeg{t:TypeId}{x r:T}{lo hi:Option T}{u:Value}{lv hv:Option Value}(h:ZC P t x lo hi=some (r,true))(hx:VT P w g base x u)
  (hl:∀x v,lo=some x->lv=some v->VT P w g base x v) (b2:lo.isSome=lv.isSome) (b0:hi.isSome=hv.isSome) :
  ∃z,(∀w':World,True->(Instr.sliceAt t u lv hv none).run P w'=.ok z w')/\VT P w g base r z:=by
 unfold ZC at h
 split at h
 ·rename_i U e hsh
  split at h
  ·rename_i l row e1 J;cases hq:(kT P t==some e && !bm U&&row.all S.flat) with
   | false=>rw[hq] at h;cases h
   | true =>
    rw[hq,f8] at h;simp only[b7,i8,a9,f7] at h;obtain⟨rfl,h0,h1⟩:=h;simp only[a9,p6,m6] at hq;obtain⟨⟨ht,hd⟩,a2⟩:=hq;have a7:hv=none:=by cases hv with
     | none=>rfl
     | some v=>simp at b0
    subst a7;have b1:=pO e1 hl b2;obtain⟨b4,p⟩:=x;simp only at hsh;subst hsh;obtain⟨b3,O,a0⟩:=hx;rw[J] at O;injection O with O;subst O
    change (l<=((gd p 0).rows.length:Int)) at h1;generalize a6:(gd p 0).rows=rows at *;have a1:=a0;have Z:dJ (.l [[gd p 0,.i l]])=rows:=a6;have a4:eIx (.l [[gd p 0,.i l]])=l.toNat:=rfl;rcases a0 with⟨Y,a8,A,rfl⟩ | ⟨cap,arr,E,rfl,q2,q3,q4,q5,q6,q7,q8,q9,q10,q11⟩
    ·have a5:l.toNat=0:=by rw[Y] at h1;simp at h1;omega
     refine⟨.slice (if 0=l.toNat then A else A.map (·.add (l.toNat*row.length))) (0 - l.toNat) (0 - l.toNat),fun w' _=>?_,row,J,⟨.slice A 0 0,by show dp P w g base U true e row (dJ (.l [[gd p 0,.i l]])) _;rw[Z];exact .inl ⟨Y,a8,A,rfl⟩⟩,.inr ⟨g8 _,rfl,?_⟩⟩
     ·simp only[Instr.sliceAt,Instr.slice,j7,run_underlying (gV ht),g7];rw[jk (len:=0) (l:=l) (h:=((0:Nat):Int)) h0 (by rw[Y] at h1;simpa using h1) (F8 _) (g8 _) b1 (.inl ⟨rfl,rfl⟩)];simp only[g7,j7,eP (gH J),m8,g4]
     ·show VD P w (fun b=>if b=g.ρ U then (dJ (.l [[gd p 0,.i l]])).length*row.length else 0) (.sl e) (.l ((dJ (.l [[gd p 0,.i l]])).drop (eIx (.l [[gd p 0,.i l]])))) _;rw[Z,a4,Y,a5];exact VD.sl e (.l ([].drop 0)) _ 0 row (fun _ _=>undef) J (g8 _) (by omega) (fun i j hi=>by simp[D.rows] at hi) (fun i j s hi=>by simp[D.rows] at hi)
    ·have V:(rows.drop l.toNat).length=rows.length - l.toNat:=by rw[t5]
     refine⟨.slice (if cap=l.toNat then some ⟨g.ρ U,0,none⟩ else (some (⟨g.ρ U,0,none⟩:Addr)).map (·.add (l.toNat*row.length))) (rows.length - l.toNat) (cap - l.toNat),fun w' _=>?_,row,J,⟨.slice (some ⟨g.ρ U,0,none⟩) rows.length cap,by show dp P w g base U true e row (dJ (.l [[gd p 0,.i l]])) _;rw[Z];exact a1⟩,.inr ⟨g8 _,rfl,?_⟩⟩
     ·simp only[Instr.sliceAt,Instr.slice,j7,run_underlying (gV ht),g7];rw[jk (len:=rows.length) (l:=l) (h:=(rows.length:Int)) h0 h1 (F8 _) q2 b1 (.inl ⟨rfl,rfl⟩)];simp only[g7,j7,eP (gH J),m8,g4]
     ·show VD P w (fun b=>if b=g.ρ U then (dJ (.l [[gd p 0,.i l]])).length*row.length else 0) (.sl e) (.l ((dJ (.l [[gd p 0,.i l]])).drop (eIx (.l [[gd p 0,.i l]])))) _;rw[Z,a4,<- V];refine VD.sl e (.l (rows.drop l.toNat)) _ (cap - l.toNat) row (fun i j=>arr[(l.toNat+i)*row.length+j]?.getD undef) J (o8 (C5 V) (by omega)) (by omega) ?_ ?_
      ·intro i j hi hj;have hi:i<rows.length - l.toNat:=by rw[<- V];exact hi
       obtain⟨z,z1,_⟩:=q11 (l.toNat+i) j _ (by omega) (g6 hj);refine⟨g.ρ U,0+l.toNat*row.length,?_,?_,?_⟩
       ·rw[i7 (by omega),B1,pz]
       ·rw[show 0+l.toNat*row.length+(i*row.length+j)=(l.toNat+i)*row.length+j from by rw[E5];omega,z1];simp only[World.cell?,q6];exact z1
       ·rw[j8 rfl];have:(l.toNat+i)*row.length+row.length<=rows.length*row.length:=by rw[<- C8];exact v7 _ (by omega)
        rw[E5] at this;omega
      ·intro i j s hi hs;have hi:i<rows.length - l.toNat:=by rw[<- V];exact hi
       obtain⟨z,z1,z2⟩:=q11 (l.toNat+i) j s (by omega) hs;have a3:=i6.1 a2 s (w6 hs);unfold ci at z2;rw[i7 (by rw[hd];simp)] at z2;have e2:((D.l (rows.drop l.toNat)).rows.getD i [])=rows.getD (l.toNat+i) []:=by show (rows.drop l.toNat).getD i []=_;rw[f9,f9,y0]
       rw[e2];simp only[z1,w3];exact (TR.of_flat (lab:=fun _ _ _=>True) (π:= []) z2 a3).vd_flat a3
  ·cases h
 ·cases h
theorem YC{t:TypeId}{x r:T}{lo hi:Option T}{u:Value}{lv hv:Option Value}(h:Sn P t x lo hi=some (r,true))(hx:VT P w g base x u)
  (hl:∀x v,lo=some x->lv=some v->VT P w g base x v) (Z:lo.isSome=lv.isSome) (hh:∀x v,hi=some x->hv=some v->VT P w g base x v) (Y:hi.isSome=hv.isSome) :
  ∃z,(∀w':World,True->(Instr.sliceAt t u lv hv none).run P w'=.ok z w')/\VT P w g base r z:=by
 unfold Sn at h
 split at h
 ·rename_i d ex;have V:=qw ex hx;cases V
  split at h
  ·rename_i l J e1 e2;cases O:vQ P t with
   | false=>rw[O] at h;cases h
   | true =>rw[O] at h;simp only[l8,f5,b7,i8,a9,f7] at h;obtain⟨rfl,⟨h0,h1⟩,h2⟩:=h;have b1:=pO e1 hl Z;have b2:=pO e2 hh Y;refine⟨.string (bsv ((d.str.take J.toNat).drop l.toNat)),?_,VD.str (.s _)⟩;intro w' _;simp only[Instr.sliceAt,Instr.slice,j7,run_underlying (Fn O),g7,K9,u4,if_false];rw[jk (len:=(bsv d.str).size) h0 h1 (by rw[sB];exact h2) (g8 _) b1 (by rw[sB];exact b2)];simp[Xy]
  ·cases h
 ·rename_i e d ex;have V:=qw ex hx;cases V with
  | sl _ _ A c row u hr k1 k2 k3 k4 =>
   split at h
   ·rename_i l J e1 e2;cases O:(kT P t==some e) with
    | false=>rw[O] at h;cases h
    | true =>
     rw[O] at h;have O:kT P t=some e:=by simpa using O
     simp only[l8,f5,b7,i8,a9,f7] at h;obtain⟨rfl,⟨h0,h1⟩,h2⟩:=h;have b1:=pO e1 hl Z;have b2:=pO e2 hh Y;have U:((d.rows.take J.toNat).drop l.toNat).length=J.toNat - l.toNat:=by rw[t5,s9];omega
     refine⟨.slice (if c=l.toNat then A else A.map (·.add (l.toNat*row.length))) (J.toNat - l.toNat) (c - l.toNat),?_,?_⟩
     ·intro w' _;simp only[Instr.sliceAt,Instr.slice,j7,run_underlying (gV O),g7];rw[jk (len:=d.rows.length) h0 h1 h2 k1 b1 b2];simp only[g7,j7,eP (gH hr),m8]
     ·show VD P w g.prot (.sl e) (.l ((d.rows.take J.toNat).drop l.toNat)) _;rw[<- U];refine VD.sl e (.l ((d.rows.take J.toNat).drop l.toNat)) _ (c - l.toNat) row (fun i j=>u (l.toNat+i) j) hr (o8 (C5 U) (by omega)) (by omega) ?_ ?_
      ·intro i j hi hj;have hi:i<J.toNat - l.toNat:=by rw[<- U];exact hi
       obtain⟨b,o,q1,q2,q3⟩:=k3 (l.toNat+i) j (by omega) hj;refine⟨b,o+l.toNat*row.length,?_,?_,?_⟩
       ·rw[i7 (by omega),q1,B1,pz]
       ·rw[show o+l.toNat*row.length+(i*row.length+j)=o+((l.toNat+i)*row.length+j) from by rw[E5];omega];exact q2
       ·rw[show o+l.toNat*row.length+(i*row.length+j)=o+((l.toNat+i)*row.length+j) from by rw[E5];omega];exact q3
      ·intro i j s hi hs;have hi:i<J.toNat - l.toNat:=by rw[<- U];exact hi
       have:=k4 (l.toNat+i) j s (by omega) hs;have e:((d.rows.take J.toNat).drop l.toNat).getD i []=d.rows.getD (l.toNat+i) []:=by rw[f9,f9,y0,s7,j8 (by omega)]
       show VD P w g.prot s (gd (((d.rows.take J.toNat).drop l.toNat).getD i []) j) _;rw[e];exact this
   ·cases h
 ·cases h
theorem ajF{s:S}{x y:D}{u v:Value}{b:Bool}(O:VD P w g.prot s x u)(J:VD P w g.prot s y v):VD P w g.prot s (bif b then x else y) (if b then u else v):=by
 cases b
 ·exact J
 ·exact O
theorem ahG{x:T}{c:Cap}{d:D}{u:Value}(h:XC x=some (c,d))(J:VT P w g base x u):IK P w g base c d u:=by
 obtain⟨sh,p⟩:=x;cases sh with
 | tup xs=>cases h
 | one x=>cases x with
  | agg xs=>cases h
  | c x=>cases x with
   | ptr id off=>simp only[XC,b7,i8] at h;obtain⟨rfl,rfl⟩:=h;exact J
   | cptr cells off=>simp only[XC,b7,i8] at h;obtain⟨rfl,rfl⟩:=h;exact J
   | d s=>simp only[XC,b7,i8] at h;obtain⟨rfl,rfl⟩:=h;exact J
   | _=>cases h
theorem Qb(O:∀x,VT P w g base (opd σ x) (a.eval x)):∀ {xs:List Operand} {cs:List Cap} {ds:b8},NZ σ xs=some (cs,ds)->cs.length=xs.length/\∀(j:Nat) c,cs[j]?=some c->∃x,xs[j]?=some x/\IK P w g base c (ds j) (a.eval x)
 | [],cs,ds,h=>by simp only[NZ,b7,i8] at h;obtain⟨rfl,rfl⟩:=h;exact⟨rfl,fun j c h=>by simp at h⟩
 | x::xs,cs,ds,h=>by
  unfold NZ at h
  split at h
  ·rename_i c d a0 a1 h1 V;simp only[b7,i8] at h;obtain⟨rfl,rfl⟩:=h;obtain⟨U,Z⟩:=Qb O V;refine⟨by simp[U],fun j Y J=>?_⟩;cases j with
   | zero =>simp only[n5,b7] at J;subst J;exact⟨x,rfl,ahG h1 (O x)⟩
   | succ j =>obtain⟨y,q1,q2⟩:=Z j Y (by simpa using J);exact⟨y,by simpa using q1,by rw[aJ];exact q2⟩
  ·cases h
theorem aeF(hr:Rel P w g base σ a){o:Oper}{r:T}(h:evQ P σ o=some (r,true)):∃z,(∀w',(Below w.heap.size w w'\/sf o=true)->(execOp a.eval o).run P w'=.ok (.value z) w')/\VT P w g base r z:=by
 obtain⟨dst,op,ty,a2,after,guard⟩:=o;have J:=fun x=>cZ hr x
 cases op with
 | move x =>simp only[evQ,b7,i8,C6] at h;subst h;exact⟨_,by intro w' _;simp[execOp],J x⟩
 | assign x =>simp only[evQ,b7,i8,C6] at h;subst h;exact⟨_,by intro w' _;simp[execOp],J x⟩
 | nilCheck x =>
  simp only[evQ] at h
  split at h
  ·rename_i id off hs;simp only[b7,i8,C6] at h;subst h;have hv:=J x;unfold VT at hv;rw[hs] at hv;have hb:a.eval x=.pointer (some ⟨g.θ id,off,none⟩):=hv;exact⟨_,by intro w' _;simp[execOp,hb],J x⟩
  ·cases h
 | pick c x y =>
  simp only[evQ] at h
  split at h
  ·rename_i t e;simp only[b7,i8,C6] at h;subst h;have hc:=J c;have a0:a.eval c=.bool t:=by generalize opd σ c=q at *;obtain⟨sh,p⟩:=q;simp only at e;subst e;exact hc
   refine⟨if t then a.eval x else a.eval y,by intro w' _;simp[execOp,a0,asBool],?_⟩;cases t
   ·exact J y
   ·exact J x
  ·rename_i s x' s' y' e1 e2 e3;cases Y:(s==s') with
   | false=>rw[Y] at h;cases h
   | true =>
    rw[Y] at h;have Y:s=s':=by simpa using Y
    subst Y;simp only[f8,b7,i8,C6] at h;subst h;have hc:=J c;have a0:a.eval c=.bool ((opd σ c).p 0).bool:=by generalize hq:opd σ c=q at *;obtain⟨sh,p⟩:=q;simp only at e1;subst e1;have hc:VD P w g.prot .bool (p 0) (a.eval c):=hc;generalize a.eval c=vv at *;cases hc;rfl
    exact⟨_,by intro w' _;simp only[execOp,a0,asBool,j7,m8,g7],ajF (qw e2 (J x)) (qw e3 (J y))⟩
  ·cases h
 | load t x =>
  simp only[evQ] at h;cases U:AM P t σ (opd σ x) with
  | none=>rw[U] at h;cases h
  | some r' =>rw[U] at h;simp only[B1,b7,i8,C6] at h;subst h;obtain⟨z,h1,O⟩:=Rw hr U (J x);exact⟨z,fun w' hw=>by simp only[execOp,j7,h1 w' (hw.resolve_right (by simp[sf])),g7,m8],O⟩
 | fieldAddr t x i =>
  simp only[evQ] at h
  split at h
  ·rename_i off ft hf
   split at h
   ·rename_i n hn;cases U:Gp (opd σ x) off with
    | none=>rw[U] at h;cases h
    | some r' =>rw[U] at h;simp only[B1,b7,i8,C6] at h;subst h;obtain⟨z,h1,O⟩:=To hf hn (by omega) U (J x);exact⟨z,fun w' hw=>by simp only[execOp,j7,h1 w' trivial,g7,m8],O⟩
   ·cases h
  ·cases h
 | field t x i =>
  simp only[evQ] at h
  split at h
  ·rename_i off ft cs hf hsh
   split at h
   ·rename_i ag n ha hn;cases U:cut ag n off cs (opd σ x).p with
    | none=>rw[U] at h;cases h
    | some r' =>
     rw[U] at h;simp only[B1,b7,i8,C6] at h;subst h;have hx:=J x;have hx:VT P w g base ⟨.one (.agg cs),(opd σ x).p⟩ (a.eval x):=by rw[<- hsh];exact hx
     obtain⟨z,h1,O⟩:=aig hf ha hn U hx;exact⟨z,fun w' hw=>by simp only[execOp,j7,h1 w' trivial,g7,m8],O⟩
   ·cases h
  ·cases h
 | indexAddr t x i =>
  simp only[evQ] at h
  split at h
  ·rename_i e V;obtain⟨z,h1,O⟩:=MU V h (J x) (J i);exact⟨z,fun w' hw=>by simp only[execOp,j7,h1 w' trivial,g7,m8],O⟩
  ·cases h
 | index t x i =>
  simp only[evQ] at h
  split at h
  ·rename_i d n e1 e2;cases Z:vQ P t with
   | false=>rw[Z] at h;cases h
   | true =>rw[Z] at h;simp only[l8,f5,b7,i8] at h;obtain⟨rfl,hn⟩:=h;obtain⟨z,h1,O⟩:=aim e1 e2 (J x) (J i) hn (Fn Z);exact⟨z,fun w' hw=>by simp only[execOp,j7,h1 w' trivial,g7,m8],O⟩
  ·cases h
 | binOp op t x y t2 =>
  simp only[evQ] at h;have hb:∃z,(∀w':World,True->(do eqGuard op t x y (a.eval x) (a.eval y);Go.binOp op t (a.eval x) (a.eval y):Sem Value).run P w'=.ok z w')/\VT P w g base r z:=by
   split at h
   ·rename_i r0 V;injection h with h
    subst h;exact aha t V x y (J x) (J y)
   ·exact agy t h x y (J x) (J y)
  obtain⟨z,h1,O⟩:=hb;exact⟨z,fun w' hw=>by simp only[execOp];rw[j7,h1 w' trivial];simp,O⟩
 | unOp op t x =>
  simp only[evQ] at h;cases U:ajx op (opd σ x) with
  | none=>rw[U] at h;cases h
  | some r' =>rw[U] at h;simp only[B1,b7,i8,C6] at h;subst h;obtain⟨z,h1,O⟩:=aiX U (J x);exact⟨z,fun w' hw=>by simp only[execOp,j7,h1 w' trivial,g7,m8],O⟩
 | extract t i =>
  simp only[evQ] at h
  split at h
  ·rename_i vs hsh
   split at h
   ·rename_i x hx;simp only[b7,i8,C6] at h;subst h;have Z:=J t;have Z:VT P w g base ⟨.tup vs,(opd σ t).p⟩ (a.eval t):=by rw[<- hsh];exact Z
    obtain⟨z,h1,O⟩:=XD hx Z;exact⟨z,fun w' hw=>by simp only[execOp,j7,h1 w' trivial,g7,m8],O⟩
   ·cases h
  ·cases h
 | slice t x lo hi mx =>
  cases mx with
  | some m=>simp only[evQ] at h;cases h
  | none =>
   simp only[evQ] at h
   split at h
   ·rename_i r0 a1;injection h with h
    subst h;obtain⟨z,h1,O⟩:=aeg (lv:=lo.map a.eval) (hv:=hi.map a.eval) a1 (J x) (by
     intro x' v e1 e2;cases lo with
     | none=>cases e1
     | some l=>simp only[B1,b7] at e1 e2;subst e1;subst e2;exact J l) (by cases lo <;> rfl) (by cases hi <;> rfl)
    exact⟨z,fun w' hw=>by simp only[execOp,Option.map_none,j7,h1 w' trivial,g7,m8],O⟩
   obtain⟨z,h1,O⟩:=YC (lv:=lo.map a.eval) (hv:=hi.map a.eval) h (J x) (by
     intro x' v e1 e2;cases lo with
     | none=>cases e1
     | some l=>simp only[B1,b7] at e1 e2;subst e1;subst e2;exact J l) (by cases lo <;> rfl) (by
     intro x' v e1 e2;cases hi with
     | none=>cases e1
     | some l=>simp only[B1,b7] at e1 e2;subst e1;subst e2;exact J l) (by cases hi <;> rfl)
   exact⟨z,fun w' hw=>by simp only[execOp,Option.map_none,j7,h1 w' trivial,g7,m8],O⟩
 | convert t1 t2 x =>
  simp only[evQ] at h
  split at h
  ·rename_i d1 k k' d h1 O h3;simp only[b7,i8,C6] at h;subst h;have hv:=qw h3 (J x);generalize hq:a.eval x=u at hv;cases hv;refine⟨_,?_,pV _ _⟩;intro w' _;simp only[execOp,hq,convert,j7,run_underlying h1,run_underlying O,g7];cases d1 <;> simp[Conv.intToInt]
  ·rename_i d1 d h1 O h3;simp only[b7,i8,C6] at h;subst h;have hv:=qw h3 (J x);generalize hq:a.eval x=u at hv;cases hv;refine⟨_,?_,VD.str d⟩;intro w' _;simp only[execOp,hq,convert,j7,run_underlying h1,run_underlying O,g7];cases d1 <;> simp
  ·cases h
 | makeFunc fn first caps =>
  cases fn with
  | func f =>
   simp only[evQ] at h;cases V:first.isEmpty with
   | false=>rw[V] at h;cases h
   | true =>
    rw[V] at h;simp only[f8] at h
    split at h
    ·rename_i cs ds hc;simp only[b7,i8,C6] at h;subst h;have V:first = #[]:=by simpa using V
     subst V;obtain⟨k1,k2⟩:=Qb J hc;refine⟨.func (.func f) #[] (caps.map a.eval),fun w' _=>by simp[execOp,Instr.makeFunc],caps.map a.eval,rfl,by simp[k1],fun j c hj=>?_⟩;obtain⟨x,q1,q2⟩:=k2 j c hj;refine⟨a.eval x,?_,q2⟩;have:caps[j]?=some x:=by simpa using q1
     rw[G2,this];rfl
    ·cases h
  | _=>simp only[evQ] at h;cases h
 | call c =>
  obtain⟨callee,args,ts⟩:=c;cases callee with
  | builtin b =>
   cases b with
   | len =>
    simp only[evQ] at h
    split at h
    ·rename_i x t e1 e2;cases U:aaE P t (opd σ x) with
     | none=>rw[U] at h;cases h
     | some r' =>
      rw[U] at h;simp only[B1,b7,i8,C6] at h;subst h;obtain⟨z,h1,O⟩:=agH U (J x) ty;have ea:args = #[x]:=by cases args;simp_all
      have et:ts = #[t]:=by cases ts;simp_all
      subst ea;subst et;refine⟨z,fun w' hw=>?_,O⟩;simp only[execOp,resolve,invoke,builtin,j7,m8,g7,List.map_toArray,u5,H5,h1 w' trivial]
    ·cases h
   | max =>
    simp only[evQ] at h
    split at h
    ·rename_i x y e1
     split at h
     ·rename_i k p k' q h1 O;cases hk:(k==k') with
      | false=>rw[hk] at h;cases h
      | true =>
       rw[hk,f8] at h;simp only[b7,i8,C6] at h;subst h;have hk:k=k':=by simpa using hk
       subst hk;have v1:=qw h1 (J x);have v2:=qw O (J y);have u1:a.eval x=.int k p.int:=by generalize a.eval x=u at v1;cases v1;rfl
       have u2:a.eval y=.int k q.int:=by generalize a.eval y=u at v2;cases v2;rfl
       have ea:args = #[x,y]:=by cases args;simp_all
       subst ea;refine⟨.int k (aiI p.int q.int),fun w' hw=>?_,VD.int k (.i (aiI p.int q.int))⟩;simp[execOp,resolve,invoke,builtin,Go.Builtin.max_,Go.Builtin.max2,u1,u2,aiI,j7,m8,g7]
     ·cases h
    ·cases h
   | _=>simp only[evQ] at h;cases h
  | _=>simp only[evQ] at h;cases h
 | _=>simp only[evQ] at h;cases h
end
end Go.Proofs.YtpdfmcmnjikppaaGreat
end
