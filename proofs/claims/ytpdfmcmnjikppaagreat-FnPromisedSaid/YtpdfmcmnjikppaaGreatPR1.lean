/-
 Texts of the proof,put together: part 1.
-/
import Derived.Test.YtpdfmcmnjikppaaGreatProg
import Derived.WalkKit
import Derived.ProofKit
import Derived.Orders
import Derived.Below
import Derived.Laws.StructEq
set_option linter.unusedSimpArgs false
set_option linter.unusedVariables false
set_option linter.unusedSectionVars false
noncomputable section
namespace Go.Proofs.YtpdfmcmnjikppaaGreat
abbrev a9:=@Bool.and_eq_true
abbrev b7:=@Option.some.injEq
abbrev f9:=@cond_false
abbrev g4:=@List.getD_eq_getElem?_getD
abbrev g5:=@decide_eq_true_eq
abbrev g6:=@cond_true
abbrev g7:=@List.getElem?_eq_some_iff
abbrev g8:=@Int.toNat_natCast
abbrev g9:=@List.getElem?_eq_getElem
abbrev i5:=@Result.andThen_ok
abbrev i8:=@Nat.le_refl
abbrev i9:=@List.all_eq_true
abbrev j7:=@if_neg
abbrev j8:=@Prod.mk.injEq
abbrev l8:=@Sem.run_bind
abbrev m0:=@Nat.zero_add
abbrev m6:=@if_pos
abbrev m8:=@Nat.le_trans
abbrev m9:=@Sem.run_pure
abbrev n4:=@Bool.not_true
abbrev n8:=@Array.getElem?_eq_getElem
abbrev o8:=@Bool.not_eq_true'
abbrev p9:=@List.getElem?_cons_zero
abbrev r9:=@List.length_map
abbrev u4:=@Nat.add_assoc
abbrev u7:=@beq_iff_eq
abbrev u9:=@List.getElem?_take
abbrev v8:=@Array.getElem?_eq_some_iff
abbrev v9:=@List.length_drop
abbrev w5:=@List.length_take
abbrev w8:=@List.map_cons
abbrev w9:=@List.getElem?_map
abbrev y4:=@Bool.false_eq_true
abbrev y9:=@Nat.le_of_ble_eq_true
abbrev z6:=@Option.getD_some
abbrev z7:=@Nat.mul_le_mul_right
abbrev A2:=@List.mem_of_getElem?
abbrev A6:=@List.getElem?_drop
abbrev A7:=@Array.getD_eq_getD_getElem?
abbrev A9:=@Bool.false_and
abbrev B0:=@Nat.lt_of_lt_of_le
abbrev C4:=@Nat.lt_or_ge
abbrev C7:=@Option.map_some
abbrev C8:=@Option.isSome_iff_exists
abbrev D5:=@Nat.le_of_eq
abbrev E0:=@Nat.eq_zero_or_pos
abbrev E2:=@and_true
abbrev E3:=@Nat.succ_mul
abbrev E4:=@Bool.and_false
abbrev F5:=@List.take_succ_cons
abbrev F6:=@Nat.add_mul
abbrev F8:=@Nat.add_zero
abbrev G3:=@Array.getElem?_eq_none
abbrev H2:=@List.getElem?_eq_none
abbrev H4:=@Array.getElem?_map
abbrev I2:=@List.map_nil
abbrev I8:=@bne_iff_ne
abbrev J4:=@Int.le_refl
abbrev K8:=@List.drop_succ_cons
abbrev L1:=@Option.isSome_none
abbrev L7:=@Array.getElem?_extract
abbrev O1:=@List.foldr_cons
end Go.Proofs.YtpdfmcmnjikppaaGreat
namespace Go.Proofs.YtpdfmcmnjikppaaGreat
inductive D where
 | i (n:Int)
 | b (x:Bool)
 | s (x:List UInt8)
 | l (rows:List (List D))
 | v (x:Value)
abbrev b8:=List D
def D0:D:=.i 0
def D.int:D->Int
 | .i n=>n
 | _=>0
def D.bool:D->Bool
 | .b x=>x
 | _=>false
def D.str:D->List UInt8
 | .s x=>x
 | _ => []
def D.rows:D->List b8
 | .l r=>r
 | _ => []
def D.val:D->Value
 | .v x=>x
 | _=>.bool false
def gd(p:b8)(i:Nat):D:=p.getD i D0
def sub(p:b8)(o:Nat):Nat->b8
 | 0 => []
 | n+1=>gd p o::sub p (o+1) n
inductive S where
 | int (k:IntKind)
 | bool
 | str
 | sl (e:TypeId)
 | opq
 deriving DecidableEq,Repr
abbrev Tok:=Nat × Nat
def bq(t:Tok):Bool:=Nat.ble 1000000 t.2
inductive Cap where
 | d (s:S)
 | ptr (id off:Nat)
 | cptr (cells:List S) (off:Nat)
 deriving DecidableEq,Repr
inductive Ce where
 | any
 | d (s:S)
 | kb (x:Bool)
 | own (t:Tok) (x:Bool) (e:TypeId)
 | ptr (id off:Nat)
 | eptr (t:Option Tok) (e:TypeId) (off:Nat)
 | inn (t:Tok) (e:TypeId) (off:Nat) (ei:TypeId)
 | cptr (cells:List S) (off:Nat)
 | fn (f:FuncId) (caps:List Cap)
 deriving DecidableEq,Repr
inductive Sh1 where
 | c (x:Ce)
 | agg (xs:List Ce)
 deriving DecidableEq,Repr
inductive Sh where
 | one (x:Sh1)
 | tup (xs:List Sh1)
 deriving DecidableEq,Repr
def Sh1.size:Sh1->Nat
 | .c _=>1
 | .agg xs=>xs.length
structure T where
 sh:Sh
 p:b8
abbrev T.c(x:Ce)(d:D):T:=⟨.one (.c x),[d]⟩
abbrev T.any:T:=.c .any D0
abbrev T.none_:T:=⟨.tup [],[]⟩
abbrev Env:=List (Nat × T)
abbrev ul:=List (Nat × List Ce × b8)
structure St where
 r:Env
 e:Env
 h:ul
def dL(i:Nat):Env->T
 | []=>.any
 | (j,v)::e=>bif i==j then v else dL i e
def cz(i:Nat)(e:Env):Env->T
 | []=>dL i e
 | (j,v)::r=>bif i==j then v else cz i e r
def bS(i:Nat):ul->Option (List Ce × b8)
 | []=>none
 | (j,v)::e=>bif i==j then some v else bS i e
def Df(i:Nat)(v:T):Env->Env
 | [] => [(i,v)]
 | (j,u)::e=>bif i==j then (i,v)::e else (j,u)::Df i v e
def rx(i:Nat)(v:List Ce × b8):ul->ul
 | [] => [(i,v)]
 | (j,u)::e=>bif i==j then (i,v)::e else (j,u)::rx i v e
def St.put(σ:St)(o:Option Nat)(v:T):St:=
 match o with
 | none=>σ
 | some i=>⟨(i,v)::σ.r,σ.e,σ.h⟩
def Nv(i:Nat):Env->Env
 | [] => []
 | (j,u)::e=>bif i==j then Nv i e else (j,u)::Nv i e
def pB(ks:List Nat)(e:Env):Env->Env
 | []=>e
 | (i,v)::r=>bif ks.contains i then Df i v (pB ks e r) else Nv i (pB ks e r)
def Sh1.map(f:Ce->Ce):Sh1->Sh1
 | .c x=>.c (f x)
 | .agg xs=>.agg (xs.map f)
def Sh.map(f:Ce->Ce):Sh->Sh
 | .one x=>.one (x.map f)
 | .tup xs=>.tup (xs.map (Sh1.map f))
def St.map(f:Ce->Ce)(σ:St):St:=
 ⟨σ.r.map fun p=>(p.1,⟨p.2.sh.map f,p.2.p⟩),σ.e.map fun p=>(p.1,⟨p.2.sh.map f,p.2.p⟩),σ.h.map fun p=>(p.1,p.2.1.map f,p.2.2)⟩
def fG(ts:List Tok):Ce->Ce
 | .own t x e=>.own t (x && !ts.contains t) e
 | .eptr (some t) e off=>.eptr (bif ts.contains t then none else some t) e off
 | .inn t e off y=>bif ts.contains t then .any else .inn t e off y
 | c=>c
def St.toData1(i:Nat)(σ:St):St:=
 match (dL i σ.e).sh with
 | .one (.c (.own t _ e))=>⟨(σ.map (fG [t])).r,Df i ⟨.one (.c (.d (.sl e))),(dL i σ.e).p⟩ (σ.map (fG [t])).e,(σ.map (fG [t])).h⟩
 | _=>σ
def St.toData:List Nat->St->St
 | [],σ=>σ
 | i::r,σ=>(σ.toData r).toData1 i
def Lk:List Nat->List Nat
 | [] => []
 | k::r=>bif Nat.ble 4000000 k then (k - 4000000)::Lk r else Lk r
def ajK(s s':Tok):Ce->Ce
 | .own t x e=>bif t==s then .own s' x e else bif t==s' then (bif x then .any else .d (.sl e)) else .own t x e
 | .eptr (some t) e off=>bif t==s then .eptr (some s') e off else bif t==s' then .any else .eptr (some t) e off
 | .inn t e off y=>bif t==s then .inn s' e off y else bif t==s' then .any else .inn t e off y
 | c=>c
def zd(i:Nat)(s:Tok):Tok:=(i,bif bq s then 1000777 else 777)
def St.rename1(i:Nat)(σ:St):St:=
 match (dL i σ.e).sh with
 | .one (.c (.own s _ _))=>bif s != zd i s&&s.1 != 1000001&&Nat.blt i 1000000 then σ.map (ajK s (zd i s)) else σ
 | _=>σ
def St.renames:List Nat->St->St
 | [],σ=>σ
 | i::r,σ=>(σ.renames r).rename1 i
def Uh:List Nat->List Nat
 | [] => []
 | k::r=>bif Nat.ble 6000000 k then (k - 6000000)::Uh r else Uh r
def St.seal1(i:Nat)(σ:St):St:=
 match (dL i σ.e).sh with
 | .one (.c (.own s true _))=>σ.map (fG [s])
 | _=>σ
def St.seals:List Nat->St->St
 | [],σ=>σ
 | i::r,σ=>(σ.seals r).seal1 i
def Ls:List Nat->List Nat
 | [] => []
 | k::r=>bif Nat.ble 7000000 k then (k - 7000000)::Ls r else Ls r
def pa(t k:Nat)(s:Tok):Tok:=(t,bif bq s then 1000700+k else 700+k)
def renBox(t:Nat):Nat->List Ce->St->St
 | _,[],σ=>σ
 | k,.own s _ _::cs,σ=>renBox t (k+1) cs (bif s != pa t k s&&s.1 != 1000001&&Nat.blt t 1000000&&bq (pa t k s)==bq s then σ.map (ajK s (pa t k s)) else σ)
 | k,_::cs,σ=>renBox t (k+1) cs σ
def St.renBox1(t:Nat)(σ:St):St:=
 match bS t σ.h with
 | some (cs,_)=>renBox t 0 cs σ
 | none=>σ
def St.renBoxes:List Nat->St->St
 | [],σ=>σ
 | t::r,σ=>(σ.renBoxes r).renBox1 t
def To:List Nat->List Nat
 | [] => []
 | k::r=>bif Nat.ble 8000000 k then (k - 8000000)::To r else To r
def St.settle(ks:List Nat)(σ:St):St:=St.renBoxes (To ks) <| St.seals (Ls ks) <| St.renames (Uh ks) (St.toData (Lk ks) ⟨[],pB ks σ.e σ.r,σ.h⟩)
def qk(s:ByteArray):List UInt8:=s.data.toList
def ofV:Value->T
 | .int k n=>.c (.d (.int k)) (.i n)
 | .bool b=>.c (.kb b) D0
 | .string s=>.c (.d .str) (.s (qk s))
 | .tuple xs=>bif xs.isEmpty then .none_ else .any
 | _=>.any
def opd(σ:St):Operand->T
 | .tmp i=>cz i σ.e σ.r
 | .const v=>ofV v
 | .func f=>.c (.fn f []) (.l [[]])
 | .global _=>.any
def T.cells(v:T):Option (List Ce × b8):=
 match v.sh with
 | .one (.c x)=>bif x==.any then none else some ([x],[gd v.p 0])
 | .one (.agg xs)=>bif xs.contains .any then none else some (xs,sub v.p 0 xs.length)
 | .tup _=>none
def Ce.toS:Ce->Option S
 | .d s=>some s
 | .kb _=>some .bool
 | .own _ _ e=>some (.sl e)
 | _=>none
def Ce.toD(c:Ce)(x:D):D:=
 match c with
 | .kb b=>.b b
 | _=>x
def FA:List Ce->Option (List S)
 | []=>some []
 | c::cs=>match c.toS,FA cs with
  | some d,some ds=>some (d::ds)
  | _,_=>none
def oy:List Ce->b8->b8
 | [],_ => []
 | c::cs,ds=>c.toD (gd ds 0)::oy cs ds.tail
def toks:List Ce->List Tok
 | [] => []
 | .own t _ _::cs=>t::toks cs
 | _::cs=>toks cs
def T.toks(v:T):List Tok:=
 match v.sh with
 | .one (.c x)=>Go.Proofs.YtpdfmcmnjikppaaGreat.toks [x]
 | .one (.agg xs)=>Go.Proofs.YtpdfmcmnjikppaaGreat.toks xs
 | .tup _ => []
def St.seal(ts:List Tok)(σ:St):St:=σ.map (fG ts)
def fL(d:Nat):Ce->Ce
 | .own t x e=>bif t.1==d then (bif x then .any else .d (.sl e)) else .own t x e
 | .eptr (some t) e off=>bif t.1==d then .any else .eptr (some t) e off
 | .inn t e off y=>bif t.1==d then .any else .inn t e off y
 | .ptr id off=>bif id==d then .any else .ptr id off
 | .fn f caps=>bif caps.all (fun | .ptr id _=>id != d | _=>true) then .fn f caps else .any
 | c=>c
def St.wipe(d:Nat)(σ:St):St:=σ.map (fL d)
def bv(s:Tok):Ce->Ce
 | .own t x e=>bif t==s then (bif x then .any else .d (.sl e)) else .own t x e
 | .eptr (some t) e off=>bif t==s then .any else .eptr (some t) e off
 | .inn t e off y=>bif t==s then .any else .inn t e off y
 | c=>c
def MY(f:Tok->Bool):Ce->Ce
 | .inn t e off y=>bif f t then .any else .inn t e off y
 | c=>c
def akz(s:Tok)(rows:List b8):Ce->D->D
 | .own t _ _,d=>bif t==s then .l rows else d
 | .eptr (some t) _ _,d=>bif t==s then .l [[.l rows,gd (d.rows.getD 0 []) 1]] else d
 | _,d=>d
def rD(s:Tok)(rows:List b8):List Ce->b8->b8
 | [],_ => []
 | c::cs,ds=>akz s rows c (gd ds 0)::rD s rows cs ds.tail
def aeZ(s:Tok)(rows:List b8)(v:T):T:=
 match v.sh with
 | .one (.c x)=>⟨.one (.c (MY (· == s) x)),rD s rows [x] v.p⟩
 | .one (.agg xs)=>⟨.one (.agg (xs.map (MY (· == s)))),rD s rows xs v.p⟩
 | .tup _=>.any
def St.setRows(s:Tok)(rows:List b8)(σ:St):St:=
 ⟨σ.r.map fun p=>(p.1,aeZ s rows p.2),σ.e.map fun p=>(p.1,aeZ s rows p.2),σ.h.map fun p=>(p.1,p.2.1.map (MY (· == s)),rD s rows p.2.1 p.2.2)⟩
def fp(P:Program)(t:TypeId):Option Nat:=(P.info? t).map (·.size)
def HS(P:Program)(t:TypeId):Option Bool:=
 match P.underlying t with
 | some (.struct _) | some (.array _ _)=>some true
 | some _=>some false
 | none=>none
def mg(P:Program)(t:TypeId):Option TypeId:=
 match P.underlying t with
 | some (.slice e)=>some e
 | _=>none
def Cl(P:Program)(t:TypeId)(i:Nat):Option (Nat × TypeId):=
 match P.underlying t with
 | some (.struct fs)=>(fs[i]?).map fun f=>(f.offset,f.type)
 | _=>none
def amt(P:Program):Nat->TypeId->Option (List S)
 | 0,_=>none
 | n+1,t =>
  match P.underlying t with
  | some (.struct fs)=>fs.toList.foldr (fun f y=>match amt P n f.type,y with | some a,some b=>some (a++b) | _,_=>none) (some [])
  | some (.slice e)=>some [.sl e]
  | some (.int k)=>some [.int k]
  | some .bool=>some [.bool]
  | some .string=>some [.str]
  | _=>none
def kt:Nat:=4294967296
def br(P:Program)(t:TypeId):Option (List S):=
 match amt P 9 t with
 | some row=>bif fp P t==some row.length && !row.isEmpty&&Nat.blt row.length kt then some row else none
 | none=>none
def mz:S->D
 | .int _=>.i 0
 | .bool=>.b false
 | .str=>.s []
 | .sl _=>.l []
 | .opq=>D0
def zC(t:Tok)(s:S):Ce:=
 match s with
 | .sl e=>.own t true e
 | _=>.d s
def pu(f:S->Nat)(d:Nat):Nat->List S->List Ce
 | _,[] => []
 | i,s::r=>zC (d,i+f s) s::pu f d (i+1) r
def ct(P:Program):List S->List Value->Bool
 | [],[]=>true
 | .int k::r,.int k' n::vs=>k==k'&&n==0&&ct P r vs
 | .bool::r,.bool b::vs => !b&&ct P r vs
 | .str::r,.string s::vs=>s.data.toList.isEmpty&&ct P r vs
 | .sl e::r,.slice none 0 0::vs=>(br P e).isSome&&ct P r vs
 | _,_=>false
def jV(P:Program)(t:TypeId)(row:List S):Bool:=
 match P.info? t with
 | some i=>match i.zero with
  | some v=>ct P row v.cells.toList
  | none=>false
 | none=>false
def UC(P:Program)(e:TypeId):Bool:=
 match br P e with
 | some row=>jV P e row
 | none=>false
def Ic(op:BinOp)(k:IntKind)(x y:Int):Int:=
 match op with
 | .and=>k.wrap (BitVec.ofInt k.bits x &&& BitVec.ofInt k.bits y).toNat
 | _=>k.wrap (BitVec.ofInt k.bits x ^^^ BitVec.ofInt k.bits y).toNat
def ajm(x y:Int):Int:=if x<y then y else x
def XZ(op:BinOp)(k:IntKind)(x y:Int):Option (T × Bool):=
 match op with
 | .add=>some (.c (.d (.int k)) (.i (k.wrap (x+y))),true)
 | .sub=>some (.c (.d (.int k)) (.i (k.wrap (x - y))),true)
 | .mul=>some (.c (.d (.int k)) (.i (k.wrap (x*y))),true)
 | .quo=>some (.c (.d (.int k)) (.i (k.wrap (x.tdiv y))),y != 0)
 | .rem=>some (.c (.d (.int k)) (.i (x.tmod y)),y != 0)
 | .and=>some (.c (.d (.int k)) (.i (Ic .and k x y)),true)
 | .xor=>some (.c (.d (.int k)) (.i (Ic .xor k x y)),true)
 | .shr=>some (.c (.d (.int k)) (.i (x.fdiv (2 ^ (min y.toNat k.bits)))),decide (0<=y))
 | .eql=>some (.c (.d .bool) (.b (x==y)),true)
 | .neq=>some (.c (.d .bool) (.b (x != y)),true)
 | .lss=>some (.c (.d .bool) (.b (decide (x<y))),true)
 | .leq=>some (.c (.d .bool) (.b (decide (x<=y))),true)
 | .gtr=>some (.c (.d .bool) (.b (decide (x > y))),true)
 | .geq=>some (.c (.d .bool) (.b (decide (x>=y))),true)
 | _=>none
def T.sc(v:T):Option (S × D):=
 match v.sh with
 | .one (.c (.d s))=>some (s,gd v.p 0)
 | .one (.c (.kb b))=>some (.bool,.b b)
 | _=>none
def Ge(P:Program)(t:TypeId):Bool:=
 match P.underlying t with
 | some .bool=>true
 | _=>false
def xC(P:Program)(t:TypeId):Bool:=
 match P.underlying t with
 | some .string=>true
 | _=>false
def akN(op:BinOp)(k:IntKind)(x y:Int):Option (T × Bool):=
 match op with
 | .shr=>XZ .shr k x y
 | _=>none
def afq(J:Bool)(op:BinOp)(a b:T):Option (T × Bool):=
 match a.sc,b.sc with
 | some (.int k,x),some (.int k',y)=>bif k==k' then XZ op k x.int y.int else akN op k x.int y.int
 | some (.bool,x),some (.bool,y)=>bif J then (match op with
  | .eql=>some (.c (.d .bool) (.b (x.bool==y.bool)),true)
  | .neq=>some (.c (.d .bool) (.b (!(x.bool==y.bool))),true)
  | _=>none) else none
 | some (.str,x),some (.str,y)=>match op with
  | .eql=>some (.c (.d .bool) (.b (x.str==y.str)),true)
  | .neq=>some (.c (.d .bool) (.b (!(x.str==y.str))),true)
  | .add=>some (.c (.d .str) (.s (x.str++y.str)),decide (x.str.length+y.str.length<1099511627776))
  | _=>none
 | _,_=>none
def wt:Option TypeDesc->S->Bool
 | some (.int _),.int _=>true
 | some .bool,.bool=>true
 | some .string,.str=>true
 | _,_=>false
def UT(P:Program):List Field->Nat->List S->Bool
 | [],_,[]=>true
 | f::fs,i,s::ss=>(f.offset==i&&f.name != "_" && HS P f.type==some false&&wt (P.underlying f.type) s)&&UT P fs (i+1) ss
 | _,_,_=>false
def zU(P:Program):List Field->Nat->List S->Bool
 | [],_,[]=>true
 | f::fs,i,s::ss=>bif HS P f.type==some false then (f.offset==i&&f.name != "_" && wt (P.underlying f.type) s)&&zU P fs (i+1) ss
  else match P.underlying f.type,fp P f.type with
   | some (.struct gs),some n=>(f.offset==i&&f.name != "_" && HS P f.type==some true && !P.stoodInHeld f.type&&UT P gs.toList 0 ((s::ss).take n)&&Nat.ble n (s::ss).length)&&zU P fs (i+n) ((s::ss).drop n)
   | _,_=>false
 | _,_,_=>false
def eH:List S->b8->b8->Bool
 | [],_,_=>true
 | .int _::r,p,q=>(gd p 0).int==(gd q 0).int&&eH r p.tail q.tail
 | .bool::r,p,q=>(gd p 0).bool==(gd q 0).bool&&eH r p.tail q.tail
 | .str::r,p,q=>(gd p 0).str==(gd q 0).str&&eH r p.tail q.tail
 | .sl _::_,_,_=>false
 | .opq::_,_,_=>false
def aih(P:Program)(op:BinOp)(t:TypeId)(a b:T):Option (T × Bool):=
 match a.sh,b.sh with
 | .one (.agg cs),.one (.agg cs')=>match FA cs,P.underlying t with
  | some ss,some (.struct fs)=>bif cs==ss.map .d&&cs'==ss.map .d&&zU P fs.toList 0 ss && !P.stoodInHeld t && !P.eqGuardType P.depth t then (match op with
   | .eql=>some (.c (.d .bool) (.b (eH ss a.p b.p)),true)
   | .neq=>some (.c (.d .bool) (.b (!(eH ss a.p b.p))),true)
   | _=>none) else none
  | _,_=>none
 | _,_=>none
def ajX(op:UnOp)(a:T):Option T:=
 match op,a.sc with
 | .not,some (.bool,x)=>some (.c (.d .bool) (.b (!x.bool)))
 | .neg,some (.int k,x)=>some (.c (.d (.int k)) (.i (k.wrap (0 - x.int))))
 | _,_=>none
def T.slice(v:T):Option (Option Tok × TypeId × List b8):=
 match v.sh with
 | .one (.c (.d (.sl e)))=>some (none,e,(gd v.p 0).rows)
 | .one (.c (.own t x e))=>some (bif x then some t else none,e,(gd v.p 0).rows)
 | _=>none
def cut(ag:Bool)(n off:Nat)(cs:List Ce)(ds:b8):Option T:=
 bif Nat.ble (off+n) cs.length then
  (bif ag then some ⟨.one (.agg ((cs.drop off).take n)),sub ds off n⟩ else match cs[off]? with
   | some c=>bif n==1 then some (.c c (gd ds off)) else none
   | none=>none)
 else none
def S.flat:S->Bool
 | .sl _=>false
 | .opq=>false
 | _=>true
def Bj:Option Tok->Bool
 | some t=>bq t
 | none=>false
def akD(J:Option Tok)(e:TypeId)(j:Nat):S->Ce
 | .sl y=>match J with
  | some t=>bif bq t then .inn t e j y else .d (.sl y)
  | none=>.d (.sl y)
 | s=>.d s
def BP(y:Option Tok)(e:TypeId):Nat->List S->List Ce
 | _,[] => []
 | j,s::r=>akD y e j s::BP y e (j+1) r
def WZ(x:D)(row:b8):Nat->List S->b8
 | _,[] => []
 | j,.sl _::r=>x::WZ x row (j+1) r
 | j,_::r=>gd row j::WZ x row (j+1) r
def Cv(P:Program)(t:TypeId)(σ:St)(a:T):Option T:=
 match HS P t,fp P t with
 | some ag,some n =>
  match a.sh with
  | .one (.c (.ptr id off))=>match bS id σ.h with
   | some (cs,ds)=>cut ag n off cs ds
   | none=>none
  | .one (.c (.eptr tk e off))=>match br P e with
   | some row=>bif Bj tk then cut ag n off (BP tk e 0 row) (WZ (gd a.p 0) (((gd ((gd a.p 0).rows.getD 0 []) 0).rows).getD (gd ((gd a.p 0).rows.getD 0 []) 1).int.toNat []) 0 row)
    else cut ag n off (row.map .d) (((gd ((gd a.p 0).rows.getD 0 []) 0).rows).getD (gd ((gd a.p 0).rows.getD 0 []) 1).int.toNat [])
   | none=>none
  | .one (.c (.cptr cells off))=>cut ag n off (cells.map .d) ((gd a.p 0).rows.getD 0 [])
  | _=>none
 | _,_=>none
def Ig(a:T)(o:Nat):Option T:=
 match a.sh with
 | .one (.c (.ptr id off))=>some (.c (.ptr id (off+o)) D0)
 | .one (.c (.eptr t e off))=>some (.c (.eptr t e (off+o)) (gd a.p 0))
 | .one (.c (.cptr cells off))=>some (.c (.cptr cells (off+o)) (gd a.p 0))
 | _=>none
def T.intOf(v:T):Option Int:=
 match v.sc with
 | some (.int _,d)=>some d.int
 | _=>none
def ah(n:Int)(len:Nat):Bool:=decide (0<=n)&&decide (n<len)
def xM(e:TypeId)(x i:T):Option (T × Bool):=
 match i.intOf,x.slice with
 | some n,some (t,e',rows)=>bif e==e' then some (.c (.eptr t e 0) (.l [[.l rows,.i n]]),ah n rows.length) else none
 | _,_=>none
def abQ(P:Program)(t:TypeId)(x:T):Option T:=
 match x.sc with
 | some (.str,d)=>bif xC P t then some (.c (.d (.int .i64)) (.i d.str.length)) else none
 | _=>match x.slice with
  | some (_,_,rows)=>bif (mg P t).isSome then some (.c (.d (.int .i64)) (.i rows.length)) else none
  | none=>none
def Jz(y:Int):Option T->Option Int
 | none=>some y
 | some v=>v.intOf
def aaM(P:Program)(t:TypeId)(x:T)(lo hi:Option T):Option (T × Bool):=
 match x.sh,hi with
 | .one (.c (.own tk true e)),none=>match Jz 0 lo,br P e with
  | some l,some row=>bif mg P t==some e && !bq tk&&row.all S.flat then some (.c (.inn tk e kt e) (.l [[gd x.p 0,.i l]]),decide (0<=l)&&decide (l<=(gd x.p 0).rows.length)) else none
  | _,_=>none
 | _,_=>none
def TM(P:Program)(t:TypeId)(x:T)(lo hi:Option T):Option (T × Bool):=
 match x.sc with
 | some (.str,d)=>match Jz 0 lo,Jz d.str.length hi with
  | some l,some h=>bif !xC P t then none else some (.c (.d .str) (.s ((d.str.take h.toNat).drop l.toNat)),decide (0<=l)&&decide (l<=h)&&decide (h<=d.str.length))
  | _,_=>none
 | some (.sl e,d)=>match Jz 0 lo,Jz d.rows.length hi with
  | some l,some h=>bif !(mg P t==some e) then none else some (.c (.d (.sl e)) (.l ((d.rows.take h.toNat).drop l.toNat)),decide (0<=l)&&decide (l<=h)&&decide (h<=d.rows.length))
  | _,_=>none
 | _=>none
def wa(σ:St):Cap->D->Option (Cap × D)
 | .d s,d=>some (.d s,d)
 | .cptr cells off,d=>some (.cptr cells off,d)
 | .ptr id off,_=>match bS id σ.h with
  | some (cs,ds)=>match FA cs with
   | some y=>some (.cptr y off,.l [oy cs ds])
   | none=>none
  | none=>none
def nI(σ:St):List Cap->b8->Option (List Cap × b8)
 | [],_=>some ([],[])
 | c::cs,ds=>match wa σ c (gd ds 0),nI σ cs ds.tail with
  | some (d,x),some (ds,xs)=>some (d::ds,x::xs)
  | _,_=>none
def Cap.ce:Cap->Ce
 | .d s=>.d s
 | .ptr id off=>.ptr id off
 | .cptr cells off=>.cptr cells off
def aea(off:Nat)(x:D):D:=bif Nat.ble kt off then .l ((gd (x.rows.getD 0 []) 0).rows.drop (gd (x.rows.getD 0 []) 1).int.toNat) else gd (((gd (x.rows.getD 0 []) 0).rows).getD (gd (x.rows.getD 0 []) 1).int.toNat []) off
def Ce.aS:Ce->Option S
 | .inn _ _ _ y=>some (.sl y)
 | c=>c.toS
def Ce.aD(c:Ce)(x:D):D:=
 match c with
 | .inn _ _ off _=>aea off x
 | c=>c.toD x
def aSs:List Ce->Option (List S)
 | []=>some []
 | c::cs=>match c.aS,aSs cs with
  | some d,some ds=>some (d::ds)
  | _,_=>none
def aDs:List Ce->b8->b8
 | [],_ => []
 | c::cs,ds=>c.aD (gd ds 0)::aDs cs ds.tail
def ry:List Ce->List Tok
 | [] => []
 | .own t _ _::cs=>t::ry cs
 | .inn t _ _ _::cs=>t::ry cs
 | _::cs=>ry cs
def arg(P:Program)(σ:St)(v:T):Option T:=
 match v.sh with
 | .one (.c (.fn f caps))=>match nI σ caps ((gd v.p 0).rows.getD 0 []) with
  | some (cs,ds)=>some (.c (.fn f cs) (.l [ds]))
  | none=>none
 | .one (.c (.cptr cells off))=>some (.c (.cptr cells off) (gd v.p 0))
 | .one (.c (.ptr id off))=>match wa σ (.ptr id off) D0 with
  | some (c,d)=>some (.c c.ce d)
  | _=>none
 | .one (.c (.eptr tk e off))=>match br P e with
  | some row=>bif Bj tk then none else some (.c (.cptr row off) (.l [sub (((gd ((gd v.p 0).rows.getD 0 []) 0).rows).getD (gd ((gd v.p 0).rows.getD 0 []) 1).int.toNat []) 0 row.length]))
  | none=>none
 | .one (.c x)=>match x.aS with
  | some s=>some (.c (.d s) (x.aD (gd v.p 0)))
  | none=>none
 | .one (.agg xs)=>match aSs xs with
  | some y=>some ⟨.one (.agg (y.map .d)),aDs xs v.p⟩
  | none=>none
 | .tup _=>none
def Pn(P:Program)(σ:St):List T->Option (List T)
 | []=>some []
 | c::cs=>match arg P σ c,Pn P σ cs with
  | some d,some ds=>some (d::ds)
  | _,_=>none
def ajM(P:Program)(nd:Bool)(x:Operand)(t:Option TypeId):Option T:=
 match x,t with
 | .const (.slice none 0 0),some t=>match mg P t with
  | some e=>bif (br P e).isSome then some (.c (bif nd then .d (.sl e) else .own (0,0) true e) (.l [])) else none
  | none=>none
 | _,_=>none
def ahm(P:Program)(σ:St)(t:TypeId)(x:Operand):T:=
 match ajM P true x (some t) with
 | some v=>v
 | none=>opd σ x
def amr(P:Program)(σ:St)(nd:Bool)(x:Operand)(t:Option TypeId):Option T:=
 match ajM P nd x t with
 | some t=>some t
 | none=>arg P σ (opd σ x)
def rT(P:Program)(σ:St)(nd:Bool):List Operand->List TypeId->Option (List T)
 | [],_=>some []
 | x::xs,ts=>match amr P σ nd x ts.head?,rT P σ nd xs ts.tail with
  | some d,some ds=>some (d::ds)
  | _,_=>none
def fI(σ:St):List Cap->List Tok
 | [] => []
 | .ptr id _::cs=>(match bS id σ.h with | some (xs,_)=>toks xs | none => [])++fI σ cs
 | _::cs=>fI σ cs
def fJ(σ:St)(v:T):List Tok:=
 match v.sh with
 | .one (.c (.fn _ caps))=>fI σ caps
 | .one (.c (.ptr id off))=>fI σ [.ptr id off]
 | .one (.c x)=>ry [x]
 | .one (.agg xs)=>ry xs
 | .tup _ => []
def wO:List Cap->b8->List T
 | [],_ => []
 | c::cs,ds=>.c c.ce (gd ds 0)::wO cs ds.tail
def Ce.prim:Ce->Bool
 | .d (.sl _)=>false
 | .d _=>true
 | .kb _=>true
 | _=>false
def Sh1.prim:Sh1->Bool
 | .c x=>x.prim
 | .agg xs=>xs.all Ce.prim
def Sh.prim:Sh->Bool
 | .one x=>x.prim
 | .tup xs=>xs.all Sh1.prim
def HJ(d:Nat):Ce->Ce
 | .own t x e=>.own (d,t.2) x e
 | c=>c
section
variable (P:Program)
def YU(v:T):Option (Cap × D):=
 match v.sh with
 | .one (.c (.ptr id off))=>some (.ptr id off,D0)
 | .one (.c (.cptr cells off))=>some (.cptr cells off,gd v.p 0)
 | .one (.c (.d s))=>some (.d s,gd v.p 0)
 | _=>none
def PD(σ:St):List Operand->Option (List Cap × b8)
 | []=>some ([],[])
 | x::xs=>match YU (opd σ x),PD σ xs with
  | some (c,d),some (cs,ds)=>some (c::cs,d::ds)
  | _,_=>none
def evQ(σ:St)(o:Oper):Option (T × Bool):=
 match o.op with
 | .move x | .assign x=>some (opd σ x,true)
 | .nilCheck x=>match (opd σ x).sh with
  | .one (.c (.ptr _ _))=>some (opd σ x,true)
  | _=>none
 | .pick c a b=>match (opd σ c).sh,(opd σ a).sc,(opd σ b).sc with
  | .one (.c (.kb t)),_,_=>some (bif t then opd σ a else opd σ b,true)
  | .one (.c (.d .bool)),some (s,x),some (s',y)=>bif s==s' then some (.c (.d s) (bif (gd (opd σ c).p 0).bool then x else y),true) else none
  | _,_,_=>none
 | .load t a=>(Cv P t σ (opd σ a)).map (·,true)
 | .fieldAddr t x i=>match Cl P t i with
  | some (off,ft)=>match fp P ft with
   | some (_+1)=>(Ig (opd σ x) off).map (·,true)
   | _=>none
  | none=>none
 | .field t x i=>match Cl P t i,(opd σ x).sh with
  | some (off,ft),.one (.agg cs)=>match HS P ft,fp P ft with
   | some ag,some n=>(cut ag n off cs (opd σ x).p).map (·,true)
   | _,_=>none
  | _,_=>none
 | .indexAddr t x i=>match mg P t with
  | some e=>xM e (opd σ x) (opd σ i)
  | none=>none
 | .index t x i=>match (opd σ x).sc,(opd σ i).intOf with
  | some (.str,d),some n=>bif !xC P t then none else some (.c (.d (.int .u8)) (.i ((d.str.getD n.toNat 0).toNat:Int)),ah n d.str.length)
  | _,_=>none
 | .binOp op t x y _=>match aih P op t (opd σ x) (opd σ y) with
  | some r=>some r
  | none=>afq (Ge P t) op (opd σ x) (opd σ y)
 | .unOp op _ x=>(ajX op (opd σ x)).map (·,true)
 | .extract t i=>match (opd σ t).sh with
  | .tup J=>match J[i]? with
   | some x=>some (⟨.one x,sub (opd σ t).p ((J.take i).foldr (fun s n=>s.size+n) 0) x.size⟩,true)
   | none=>none
  | _=>none
 | .slice t x lo hi none=>match aaM P t (opd σ x) (lo.map (opd σ)) (hi.map (opd σ)) with
  | some r=>some r
  | none=>TM P t (opd σ x) (lo.map (opd σ)) (hi.map (opd σ))
 | .call { callee:=.builtin .len,args:=xs,argTypes:=ts }=>match xs.toList,ts.toList with
  | [x],[t]=>(abQ P t (opd σ x)).map (·,true)
  | _,_=>none
 | .call { callee:=.builtin .max,args:=xs,.. }=>match xs.toList with
  | [x,y]=>match (opd σ x).sc,(opd σ y).sc with
   | some (.int k,p),some (.int k',q)=>bif k==k' then some (.c (.d (.int k)) (.i (ajm p.int q.int)),true) else none
   | _,_=>none
  | _=>none
 | .convert M t x=>match P.underlying M,P.underlying t,(opd σ x).sc with
  | some _,some (.int k),some (.int _,d)=>some (.c (.d (.int k)) (.i (k.wrap d.int)),true)
  | some _,some .string,some (.str,d)=>some (.c (.d .str) d,true)
  | _,_,_=>none
 | .makeFunc (.func f) first caps=>bif first.isEmpty then (match PD σ caps.toList with
  | some (cs,ds)=>some (.c (.fn f cs) (.l [ds]),true)
  | none=>none) else none
 | _=>none
def cM:List Tok->Bool
 | []=>true
 | t::ts => !ts.contains t&&cM ts
def EB(e:TypeId):Bool:=
 match br P e with
 | some row=>row.all S.flat
 | none=>false
def pd:Ce->Bool
 | .d s=>s.flat
 | .kb _=>true
 | .own t true e=>t.1 != 1000001&&(bq t||EB P e)
 | _=>false
def oM:List Tok->St->St
 | [],σ=>σ
 | t::ts,σ=>oM ts (σ.map (bv t))
def Ea(σ:St)(row:List S):List (Nat × Operand)->Nat->Option (List b8 × List Tok)
 | [],_=>some ([],[])
 | (i,x)::r,k=>bif i==k then (match (opd σ x).cells,Ea σ row r (k+1) with
  | some (cs,ds),some (rows,ts)=>bif FA cs==some row then some (oy cs ds::rows,toks cs++ts) else none
  | _,_=>none) else none
def fV{y:Type}:List y->Nat->List y->List y
 | l,_,[]=>l
 | l,i,x::xs=>fV (l.set i x) (i+1) xs
def xZ(t:TypeId)(σ:St):List (Nat × Operand)->List Ce × b8->Option (List Ce × b8)
 | [],acc=>some acc
 | (i,x)::r,(cs,ds)=>match Cl P t i,(opd σ x).cells with
  | some (off,ft),some (cs',ds')=>bif fp P ft==some cs'.length&&Nat.ble (off+cs'.length) cs.length then xZ t σ r (fV cs off cs',fV ds off ds') else none
  | _,_=>none
abbrev Stp:=Option (St × Bool)
def VR(b:Bool):S->Nat
 | .sl e=>bif b && !EB P e then 1000000 else 0
 | _=>0
def pK(σ:St)(d:Nat)(b:Bool)(t:TypeId):Stp:=
 match br P t with
 | some row=>bif !jV P t row then none else some (St.put ⟨(σ.wipe d).r,(σ.wipe d).e,rx d (pu (VR P b) d 0 row,row.map mz) (σ.wipe d).h⟩ (some d) (.c (.ptr d 0) D0),true)
 | none=>none
def agG(σ:St)(d:Nat)(x:Operand):Stp:=
 match (opd (σ.wipe d) x).cells with
 | some cs=>some (St.put ⟨(σ.wipe d).r,(σ.wipe d).e,rx d cs (σ.wipe d).h⟩ (some d) (.c (.ptr d 0) D0),true)
 | none=>none
def PO(t:TypeId):Bool:=
 match P.underlying t with
 | some (.struct fs)=>fs.toList.all fun f=>(fp P f.type).isSome
 | _=>false
def Vh(σ:St)(d:Nat)(b:Bool)(t:TypeId)(y:List (Nat × Operand)):Stp:=
 match br P t with
 | some row=>match xZ P t (σ.wipe d) y (pu (VR P b) d 0 row,row.map mz) with
  | some (cs,ds)=>bif !(jV P t row&&PO P t) then none else some ((σ.wipe d).put (some d) ⟨.one (.agg cs),ds⟩,true)
  | none=>none
 | none=>none
def pZ(σ:St)(d:Nat)(t:TypeId)(n:Nat)(y:List (Nat × Operand)):Stp:=
 match mg P t with
 | some e=>match br P e with
  | some row=>bif y.length==n&&decide (n*row.length<=16777216)&&jV P e row then (match Ea σ row y 0 with
   | some (rows,ts)=>some (((σ.seal ts).wipe d).put (some d) (.c (.own (d,0) true e) (.l rows)),true)
   | none=>none) else none
  | none=>none
 | none=>none
def nv(σ:St)(d:Nat)(t:TypeId)(n:Nat)(y:List (Nat × Operand)):Stp:=
 match mg P t,y with
 | some e,[]=>match br P e with
  | some row=>bif n==0&&jV P e row then some ((σ.wipe d).put (some d) (.c (.own (d,1000000) true e) (.l [])),true) else none
  | none=>none
 | some e,[(i,x)]=>match br P e,(opd (σ.wipe d) x).cells with
  | some row,some (cs,ds)=>bif n==1&&i==0&&FA cs==some row&&Nat.ble row.length 16777216&&jV P e row&&cs.all (pd P)&&cM (toks cs) && !(toks cs).contains (d,1000000) then
    some ((oM (toks cs) (σ.wipe d)).put (some d) (.c (.own (d,1000000) true e) (.l [oy cs ds])),true) else none
  | _,_=>none
 | _,_=>none
def DU(e:TypeId):Bool:=
 match P.info? e with
 | some i=>decide (i.bytes<=16384)
 | none=>false
def xe(σ:St)(d ix:Nat)(t:TypeId)(n c:Operand):Stp:=
 match mg P t with
 | some e=>match br P e,(opd σ n).intOf,(opd σ c).intOf with
  | some row,some x,some y=>some ((σ.wipe d).put (some d) (.c (.own (d,ix) true e) (.l (List.replicate x.toNat (row.map mz)))),decide (0<=x)&&decide (x=y)&&decide (x<=4294967296)&&jV P e row&&DU P e)
  | _,_,_=>none
 | none=>none
def Lm(σ:St)(dst:Option Nat)(t:TypeId)(a x:Operand):Stp:=
 match fp P t,(ahm P σ t x).cells with
 | some n,some (cs,ds)=>bif cs.length==n then (match (opd σ a).sh with
  | .one (.c (.ptr id off))=>match bS id σ.h with
   | some (cs',ds')=>bif Nat.ble (off+n) cs'.length then some (St.put ⟨σ.r,σ.e,rx id (fV cs' off cs,fV ds' off ds) σ.h⟩ dst .none_,true) else none
   | none=>none
  | .one (.c (.eptr (some s) e off))=>match br P e,FA cs with
   | some row,some ss=>bif ((row.drop off).take n)==ss && !(toks cs).contains s&&Nat.ble 1 n&&Nat.ble (off+n) row.length&&(!bq s||(cs.all (pd P)&&cM (toks cs)&&(s.1 != 1000001||(toks cs).isEmpty))) then
     (let pr:=(gd (opd σ a).p 0).rows.getD 0 []
      let rows:=(gd pr 0).rows
      let i:=(gd pr 1).int.toNat
      some (St.put ((bif bq s then oM (toks cs) σ else σ.seal (toks cs)).setRows s (rows.set i (fV (sub (rows.getD i []) 0 row.length) off (oy cs ds)))) dst .none_,true)) else none
   | _,_=>none
  | _=>none)
  else none
 | _,_=>none
def afF(σ:St)(d ix:Nat)(t:TypeId):Stp:=
 match mg P t with
 | some e=>bif (br P e).isSome then some ((σ.wipe d).put (some d) (.c (.own (d,ix) true e) (.l [])),true) else none
 | none=>none
def Ml(σ:St)(d:Nat)(M:TypeId)(x y:Operand):Stp:=
 match (opd σ x).sh,(opd σ y).slice with
 | .one (.c (.own t b e)),some (tk,e',rows')=>bif e==e'&&mg P M==some e&&UC P e&&(bif bq t&&b then Bj tk&&tk != some t else !Bj tk)&&t.1 != 1000001&&tk.all (fun J=>J.1 != 1000001) then
   some (((bif bq t&&b then oM tk.toList σ else σ).map (bv t)).put (some d) (.c (.own t b e) (.l ((gd (opd σ x).p 0).rows++rows'))),decide (((gd (opd σ x).p 0).rows++rows').length<=4294967296)&&DU P e) else none
 | _,_=>none
def sU(σ:St)(o:Oper):Stp:=
 match evQ P σ o with
 | some (v,ok)=>some (σ.put o.dst v,ok)
 | none=>none
def Sh.isK:Sh->Bool
 | .tup [.agg [_]]=>true
 | _=>false
def Sh.isKo:Sh->Bool
 | .tup [.agg [.kb true]]=>true
 | _=>false
def Sh.ownOr:Sh->Bool
 | .one (.c (.own _ _ _))=>true
 | .one (.c (.d (.int _)))=>true
 | _=>false
def Sh.isW:Sh->Bool
 | .tup [_]=>true
 | .tup (.agg [.any]::_::_)=>true
 | _=>false
def Sh.isP:Sh->Bool
 | .tup (.agg [.any]::_::_)=>true
 | _=>false
def Wg:Ce->Bool
 | .d _=>true
 | .own t _ _=>t.1==0
 | _=>false
def Sh1.ces:Sh1->List Ce
 | .c x => [x]
 | .agg xs=>xs
def Sh.ces:Sh->List Ce
 | .one x=>x.ces
 | .tup xs=>xs.flatMap Sh1.ces
variable (call:FuncId->List T->Option (T × Bool))
def afW:FuncId:=4294967295
def acx:FuncId:=4294967294
def sO(d:Nat):Bool:=(call afW [.c .any (.i d)]).isSome
def VE:Ce->Bool
 | .d s=>s.flat
 | .kb _=>true
 | .own t x e=>(bq t&&x)||EB P e
 | _=>false
def apart(sh:Sh):Bool:=sh.prim||((call acx []).isSome&&sh.ces.all (VE P))
def Zi(σ:St)(d:Nat)(f:Operand)(xs:List Operand)(y:List TypeId):Stp:=
 match (opd σ f).sh with
 | .one (.c (.fn g caps))=>match rT P σ (sO call (1000000+d)) xs y,nI σ caps ((gd (opd σ f).p 0).rows.getD 0 []) with
  | some vs,some (cs,ds)=>match call g (vs++wO cs ds) with
   | some (r,ok)=>bif !r.sh.isW&&r.sh.ces.all Wg then some (((σ.seal (bif apart P call r.sh then[] else (xs.map (opd σ)).flatMap (fJ σ)++fI σ caps)).wipe d).put (some d) ⟨r.sh.map (HJ d),r.p⟩,ok) else none
   | none=>none
  | _,_=>none
 | _=>none
def afT(σ:St)(dst:Option Nat)(f:Operand)(xs:List Operand):Stp:=
 match (opd σ f).sh,xs with
 | .one (.c (.fn g [])),[.tmp i]=>match (opd σ (.tmp i)).sh with
  | .one (.c (.own t true e))=>match call g [.c (.d (.sl e)) (gd (opd σ (.tmp i)).p 0)] with
   | some (r,ok)=>bif br P e==some [.int .i64]&&t.1 != 1000001 then (match r.sh with
    | .tup [.c _]=>some ((σ.setRows t (gd r.p 0).rows).put dst .none_,ok)
    | .tup [.agg []]=>some ((σ.map (bv t)).put dst (.c (.own t true e) (gd r.p 0)),ok)
    | _=>none) else none
   | none=>none
  | _=>none
 | _,_=>none
def evK(σ:St)(dst:Option Nat)(f:Operand)(xs:List Operand)(y:List TypeId):Stp:=
 match (opd σ f).sh,xs with
 | .one (.c (.fn g [])),.tmp i::ys=>match (opd σ (.tmp i)).sh with
  | .one (.c (.own t true e))=>match rT P (σ.map (bv t)) false ys y.tail,br P e with
   | some vs,some row=>match call g (.c (.d (.sl e)) (gd (opd σ (.tmp i)).p 0)::vs) with
    | some (r,ok)=>bif r.sh.isK&&row.all S.flat && !((ys.map (opd (σ.map (bv t)))).flatMap (fJ (σ.map (bv t)))).contains t&&(!r.sh.isKo||(ys.map (opd (σ.map (bv t)))).all fun q=>q.sh.ownOr)&&t.1 != 1000001 then
      some ((σ.map (bv t)).put dst (.c (.own t true e) (gd r.p 0)),ok) else none
    | none=>none
   | _,_=>none
  | _=>none
 | _,_=>none
def Sh.isX:Sh->Bool
 | .tup [.agg [_,_,_]]=>true
 | _=>false
def evX(σ:St)(dst:Option Nat)(f:Operand)(xs:List Operand):Stp:=
 match (opd σ f).sh,xs with
 | .one (.c (.fn g [])),[.tmp i,y,z]=>match (opd σ (.tmp i)).sh,(opd σ y).sh with
  | .one (.c (.own t true e)),.one (.c (.d (.int .i64)))=>match (opd σ z).sh with
   | .one (.c (.d (.int .i64)))=>match call g [.c (.d (.sl e)) (gd (opd σ (.tmp i)).p 0),.c (.d (.int .i64)) (gd (opd σ y).p 0),.c (.d (.int .i64)) (gd (opd σ z).p 0)] with
    | some (r,ok)=>bif r.sh.isX&&bq t&&t.1 != 1000001 then some ((σ.map (bv t)).put dst (.c (.own t true e) (gd r.p 0)),ok) else none
    | none=>none
   | .one (.c (.own t2 true e2))=>match call g [.c (.d (.sl e)) (gd (opd σ (.tmp i)).p 0),.c (.d (.int .i64)) (gd (opd σ y).p 0),.c (.d (.sl e)) (gd (opd σ z).p 0)] with
    | some (r,ok)=>bif r.sh.isX&&e==e2&&bq t&&bq t2&&t2 != t&&t.1 != 1000001&&t2.1 != 1000001 then some (((σ.map (bv t2)).map (bv t)).put dst (.c (.own t true e) (gd r.p 0)),ok) else none
    | none=>none
   | _=>none
  | _,_=>none
 | _,_=>none
def Sh.isM:Sh->Bool
 | .tup [.agg [_,_]]=>true
 | _=>false
def ako(σ:St)(dst:Option Nat)(f:Operand)(xs:List Operand):Stp:=(fun _ _=>none) P call
def evM(σ:St)(dst:Option Nat)(f:Operand)(xs:List Operand):Stp:=(fun _ _=>none) P call
def oZ(j:Nat):Ce->Option Ce
 | .d s=>some (.d s)
 | .kb _=>some (.d .bool)
 | .own t true e=>some (.own (1000000,bif bq t then 1000000+j else j) true e)
 | .own _ false e=>some (.d (.sl e))
 | _=>none
def su:Nat->List Ce->Option (List Ce)
 | _,[]=>some []
 | j,c::cs=>match oZ j c,su (j+1) cs with
  | some d,some ds=>some (d::ds)
  | _,_=>none
def abM:Ce->Ce->Option Ce
 | .own t true e,.own t' true e'=>bif t'.1==0&&e==e'&&bq t==bq t' then some (.own t true e) else none
 | _,.d s=>some (.d s)
 | _,_=>none
def oY:List Ce->List Ce->Option (List Ce)
 | [],[]=>some []
 | c::cs,r::rs=>match abM c r,oY cs rs with
  | some d,some ds=>some (d::ds)
  | _,_=>none
 | _,_=>none
def cj:List Ce->List Tok
 | [] => []
 | .own t true _::cs=>t::cj cs
 | _::cs=>cj cs
def RA(v:T):Bool:=
 match v.sh with
 | .one (.c (.ptr _ _))=>false
 | .one (.c (.eptr _ _ _))=>false
 | .one (.c (.fn _ caps))=>caps.all (fun | .ptr _ _=>false | _=>true)
 | _=>true
def PB:List Sh1->Sh
 | [x]=>.one x
 | xs=>.tup xs
def evP(σ:St)(d:Nat)(f:Operand)(xs:List Operand):Stp:=
 match (opd σ f).sh,xs with
 | .one (.c (.fn g caps)),x::ys=>match (opd σ x).sh with
  | .one (.c (.ptr id 0))=>match bS id σ.h with
   | some (cs,ds)=>match su 0 cs,Pn P σ (ys.map (opd σ)),nI σ caps ((gd (opd σ f).p 0).rows.getD 0 []) with
    | some cs1,some vs,some (qs,es)=>match call g (⟨.tup [.agg cs1],oy cs ds⟩::(vs++wO qs es)) with
     | some (r,ok)=>match r.sh with
      | .tup (.agg [.any]::.agg cs2::res)=>match oY cs cs2 with
       | some J =>
        let ts:=(ys.map (opd σ)).flatMap (fJ σ)++fI σ caps
        bif id != d&&cM (cj cs)&&cM (cj J)&&(cj cs).all (fun t=>t.1 != d&&t.1 != 1000001 && !ts.contains t)&&cM (cj cs2)&&(toks (res.flatMap Sh1.ces)).all (fun t => !(cj cs2).contains t)&&(res.flatMap Sh1.ces).all Wg&&RA (opd σ f)&&ys.all (fun y=>RA (opd σ y))&&cM (cj cs1)&&Nat.ble cs.length 1000000 then
         (let M:=(oM (cj cs) (σ.seal ts)).wipe d
          some (St.put ⟨M.r,M.e,rx id (J,sub r.p 1 J.length) M.h⟩ (some d) ⟨(PB res).map (HJ d),sub r.p (1+cs2.length) (res.flatMap Sh1.ces).length⟩,ok)) else none
       | none=>none
      | _=>none
     | none=>none
    | _,_,_=>none
   | none=>none
  | _=>none
 | _,_=>none
def Sh.isN:Sh->Bool
 | .tup [.agg (.any::.any::.any::.any::_)]=>true
 | .tup [.agg (.kb false::.any::.any::.any::_)]=>true
 | _=>false
def Ce.isD:Ce->Bool
 | .d _=>true
 | _=>false
def Yy(σ:St)(d:Nat)(f:Operand)(xs:List Operand)(J:List TypeId):Stp:=
 match (opd σ f).sh with
 | .one (.c (.fn g []))=>match rT P σ false xs J with
  | some M=>match call g M with
   | some (r,ok)=>match r.sh with
    | .tup [.agg (.any::.any::.any::.any::cs)]=>bif cs.all Ce.isD then
      (let y:=(σ.seal ((xs.map (opd σ)).flatMap (fJ σ))).wipe d
       some (St.put ⟨y.r,y.e,rx d (cs,sub r.p 0 cs.length) y.h⟩ (some d) (.c (.ptr d 0) D0),ok)) else none
    | _=>none
   | none=>none
  | none=>none
 | _=>none
def Gr:List Ce->List Ce->List Ce
 | .any::cs,a::az=>a::Gr cs az
 | c::cs,_::az=>c::Gr cs az
 | _,_ => []
def Ql:List Ce->b8->b8->b8
 | [],_,_ => []
 | .any::cs,p,q=>gd q 0::Ql cs p.tail q.tail
 | _::cs,p,q=>gd p 0::Ql cs p.tail q.tail
def Ce.thr:Ce->Bool
 | .any=>true
 | c=>c.isD
def evT(σ:St)(d:Nat)(f:Operand)(xs:List Operand)(J:List TypeId):Stp:=
 match (opd σ f).sh,xs with
 | .one (.c (.fn g [])),x::_=>match rT P σ false xs J with
  | some M=>match call g M with
   | some (r,ok)=>match r.sh,(opd ((σ.seal ((xs.map (opd σ)).flatMap (fJ σ))).wipe d) x).sh with
    | .tup [.agg (.kb false::.any::.any::.any::cs)],.one (.agg az)=>bif cs.all Ce.thr&&az.length==cs.length then
      (let y:=(σ.seal ((xs.map (opd σ)).flatMap (fJ σ))).wipe d
       some (y.put (some d) ⟨.one (.agg (Gr cs az)),Ql cs r.p (opd y x).p⟩,ok)) else none
    | _,_=>none
   | none=>none
  | none=>none
 | _,_=>none
def evW(σ:St)(dst:Option Nat)(f:Operand)(xs:List Operand)(y:List TypeId):Stp:=
 match afT P call σ dst f xs with
 | some r=>some r
 | none=>match evK P call σ dst f xs y with
  | some r=>some r
  | none=>match ako P call σ dst f xs with
   | some r=>some r
   | none=>match evX call σ dst f xs with
    | some r=>some r
    | none=>evM P call σ dst f xs
def noW(call:FuncId->List T->Option (T × Bool))(f:FuncId)(args:List T):Option (T × Bool):=
 match call f args with
 | some (r,ok)=>bif r.sh.isW then none else some (r,ok)
 | none=>none
def Io(σ:St)(o:Oper):Stp:=
 match o.op,o.dst with
 | .alloc t,some d=>pK P σ d (sO call d) t
 | .box _ x,some d=>agG σ d x
 | .build t parts,some d=>Vh P σ d (sO call d) t parts.toList
 | .buildSlice t n parts,some d=>bif sO call d then nv P σ d t n parts.toList else pZ P σ d t n parts.toList
 | .makeSlice t n c,some d=>xe P σ d (bif sO call d then 1000000 else 0) t n c
 | .store t a x,dst=>Lm P σ dst t a x
 | .assign (.const (.slice none 0 0)),some d=>afF P σ d (bif sO call d then 1000000 else 0) o.type
 | .call { callee:=.builtin .append,args:=xs,argTypes:=ts },some d=>match xs.toList,ts.toList with
  | [x,y],[t,t']=>bif t==t' then Ml P σ d t x y else none
  | _,_=>none
 | .call { callee:=.value f,args:=xs,argTypes:=ts },some d=>match evW P call σ (some d) f xs.toList ts.toList with
  | some r=>some r
  | none=>match Zi P call σ d f xs.toList ts.toList with
   | some r=>some r
   | none=>match Yy P call σ d f xs.toList ts.toList with
    | some r=>some r
    | none=>match evT P call σ d f xs.toList ts.toList with
     | some r=>some r
     | none=>evP P call σ d f xs.toList
 | .makeInterface _ _,_=>some (σ,false)
 | .panic _,_=>some (σ,false)
 | _,_=>sU P σ o
abbrev Dom:=List (Nat × Sh) × List (Nat × List Ce)
abbrev Out:=Option (Nat × b8)
abbrev R:=Option (Option Dom × Out)
def amg(a b:Option Dom):Option (Option Dom):=
 match a,b with
 | none,b=>some b
 | some a,none=>some (some a)
 | some a,some b=>bif a==b then some (some a) else none
def sv(c:Bool)(a b:R):R:=
 match a,b with
 | some (d1,o1),some (d2,o2)=>match amg d1 d2 with
  | some d=>some (d,bif c then o1 else o2)
  | none=>none
 | _,_=>none
def iE(c:Bool)(a:R):R:=
 match a with
 | some (k,o)=>some (k,bif c then o else none)
 | none=>none
inductive amO where
 | yes
 | no
 | ask (t:Nat) (g:Bool) (b:Bool)
 | bad
def Mx(ops:Array Oper)(σ:St)(o:Oper):amO:=
 match o.guard with
 | none=>.yes
 | some (j,b)=>match (ops[j]?).bind (·.dst) with
  | some t=>match (cz t σ.e σ.r).sh with
   | .one (.c (.kb c))=>bif c==b then .yes else .no
   | .one (.c (.d .bool))=>.ask t (gd (cz t σ.e σ.r).p 0).bool b
   | .tup []=>.no
   | _=>.bad
  | none=>.bad
def II(σ:St)(o:Oper)(k:St->R):R:=
 match Io P call σ o with
 | some (σ',ok)=>iE ok (k σ')
 | none=>none
def sw(ops:Array Oper)(σ:St)(o:Oper)(y:St->R)(k:St->R):R:=
 match Mx ops σ o with
 | .yes=>y σ
 | .no=>k (σ.put o.dst .none_)
 | .ask t g b=>sv g
   (bif b then y (σ.put (some t) (.c (.kb true) D0)) else k ((σ.put (some t) (.c (.kb true) D0)).put o.dst .none_))
   (bif b then k ((σ.put (some t) (.c (.kb false) D0)).put o.dst .none_) else y (σ.put (some t) (.c (.kb false) D0)))
 | .bad=>none
def aaj(ops:Array Oper)(σ:St)(o:Oper)(k:St->R):R:=sw ops σ o (fun y=>II P call y o k) k
def Vb(σ:St)(o:Oper)(k:St->R):R:=
 match sU P σ o with
 | some (σ',ok)=>iE ok (k σ')
 | none=>none
def wN(ops:Array Oper):List Oper->St->(St->R)->R
 | [],σ,k=>k σ
 | o::rest,σ,k=>aaj P call ops σ o fun y=>wN ops rest y k
def isQ(o:Oper):Bool:=
 match o.op with
 | .move _ | .nilCheck _ | .pick .. | .load .. | .fieldAddr .. | .field .. | .indexAddr .. | .index .. | .binOp .. | .unOp .. | .extract .. | .slice .. | .convert .. | .makeFunc .. => true
 | .assign (.const (.slice none 0 0))=>false
 | .assign _=>true
 | .call { callee:=.builtin .len,.. }=>true
 | _=>false
def isC(o:Oper):Bool:=
 match o.op with
 | .call { callee:=.value _,.. }=>true
 | _=>false
def isA(o:Oper):Bool:=
 match o.op,o.dst with
 | .alloc _,some _=>true
 | _,_=>false
def isM(o:Oper):Bool:=
 match o.op,o.dst with
 | .box ..,some _ | .build ..,some _ | .buildSlice ..,some _ | .makeSlice ..,some _ | .assign (.const (.slice none 0 0)),some _=>true
 | _,_=>false
def calm(o:Oper):Bool:=isQ o||isC o||isA o||isM o
def tQ(o:Oper):Bool:=
 match o.op with
 | .move _ | .nilCheck _ | .pick .. | .fieldAddr .. | .field .. | .indexAddr .. | .index .. | .binOp .. | .unOp .. | .extract .. | .slice .. | .convert .. | .makeFunc .. => true
 | .call { callee:=.builtin .len,.. }=>true
 | _=>false
def FE(ops:Array Oper):Bool:=ops.toList.all fun o=>tQ o||isC o
def WH(ops:Array Oper)(y:Array Bool)(i:Nat):List Nat:=(List.range ops.size).foldl (fun S j=>bif !y.getD j true&&(match ops[j]? with
 | some J=>J.after.any fun e=>Region.binds .any e&&(e.on==i||S.contains e.on)
 | none=>false) then j::S else S) []
def Ti(ops:Array Oper)(y:Array Bool)(i:Nat)(S:List Nat):Bool:=S.all fun j => !y.getD j true&&match ops[j]? with
 | some J=>J.after.any fun e=>Region.binds .any e&&(e.on==i||S.contains e.on)
 | none=>false
def Pq(ops:Array Oper)(y:Array Bool)(i:Nat):Bool:=
 match ops[i]? with
 | some oi => !FE ops&&isQ oi&&Ti ops y i (WH ops y i)&&(List.range ops.size).all fun j=>j==i||y.getD j true||(WH ops y i).contains j||match ops[j]? with
  | some J=>oi.apart ops J&&calm J
  | none=>true
 | none=>false
def yb(ops:Array Oper)(y:Array Bool)(i:Nat):Bool:=
 Pq ops y i||(match ops[i]? with
  | some o=>isQ o
  | none=>false)&&Region.free .any ops y i &&
 (List.range ops.size).all fun j=>j==i||y.getD j true||match ops[j]? with
  | some J=>calm J||J.after.any (fun e=>Region.binds .any e&&e.on==i)
  | none=>true
def Ww(ops:Array Oper):Bool:=(List.range ops.size).all fun i=>(List.range ops.size).all fun j=>i==j||match ops[i]?,ops[j]? with
 | some oi,some oj=>oi.dst.isNone||oi.dst != oj.dst
 | _,_=>true
def rC(ops:Array Oper)(o:Oper):Bool:=
 match o.op with
 | .store _ (.tmp d) _=>Ww ops&&o.after.any fun e=>Region.binds .any e&&match ops[e.on]? with
  | some y=>isA y&&y.guard.isNone&&y.dst==some d
  | none=>false
 | _=>false
def Fz(ops:Array Oper)(y:Array Bool):Bool:=(List.range ops.size).all fun j => !(y.getD j true)||match ops[j]? with
 | some o=>isQ o
 | none=>true
def vr(ops:Array Oper)(y:Array Bool)(i:Nat):Bool:=
 (match ops[i]? with
  | some o=>isQ o
  | none=>false)&&Region.free .any ops y i&&Fz ops y &&
 (List.range ops.size).all fun j=>j==i||y.getD j true||match ops[j]? with
  | some J=>calm J||rC ops J||J.after.any (fun e=>Region.binds .any e&&e.on==i)
  | none=>true
def Nw(ops:Array Oper)(y:Array Bool)(j k:Nat):Bool:=
 match ops[j]?,ops[k]? with
 | some oj,some ok=>isA oj&&isA ok&&oj.guard.isNone&&ok.guard.isNone&&oj.dst != ok.dst&&Region.ready .any ops (y.setIfInBounds j true) == [k]&&Region.ready .any ops (y.setIfInBounds k true) == [j]
 | _,_=>false
def Xu(q:Nat × Bool)(o:Option (List (Nat × Bool))):Option (List (Nat × Bool)):=
 match o with
 | some l=>some (q::l)
 | none=>none
def HX(ops:Array Oper):Nat->Array Bool->Option (List (Nat × Bool))
 | 0,listed=>match Region.ready .any ops listed with
  | []=>some []
  | _::_=>none
 | n+1,listed=>match Region.ready .any ops listed with
  | []=>some []
  | j::r=>match (j::r).find? (fun i=>yb ops listed i||vr ops listed i) with
   | some i=>Xu (i,true) (HX ops n (listed.setIfInBounds i true))
   | none=>match r with
    | []=>Xu (j,false) (HX ops n (listed.setIfInBounds j true))
    | [k]=>bif Nw ops listed j k then Xu (j,false) (HX ops n (listed.setIfInBounds j true)) else none
    | _::_::_=>none
def Di(ops:Array Oper):List (Nat × Bool)->St->(St->R)->R
 | [],σ,k=>k σ
 | (i,q)::rest,σ,k=>match ops[i]? with
  | some o=>sw ops σ o (fun J=>bif q then Vb P J o (fun y=>Di ops rest y k) else II P call J o (fun y=>Di ops rest y k)) (fun y=>Di ops rest y k)
  | none=>none
def aaI(ops:Array Oper):Bool:=(List.range ops.size).all fun j=>match ops[j]? with
 | some y=>y.after.all fun e=>Nat.blt e.on j
 | none=>true
def Us(ops:Array Oper)(i j:Nat):Bool:=Ti ops (Array.replicate ops.size false) i (WH ops (Array.replicate ops.size false) i)&&(WH ops (Array.replicate ops.size false) i).contains j
def Om(ops:Array Oper)(j:Nat):Bool:=aaI ops&&(List.range ops.size).all fun i=>i==j||Us ops i j||Us ops j i||match ops[i]? with
 | some oi=>tQ oi
 | none=>false
def aag(ops:Array Oper)(i:Nat)(σ:St)(o:Oper)(k:St->R):R:=
 match Io P (noW call) σ o with
 | some (σ',ok)=>iE ok (k σ')
 | none=>bif isC o&&Om ops i then II P call σ o k else none
def nt(ops:Array Oper):List (Nat × Bool)->St->(St->R)->R
 | [],σ,k=>k σ
 | (i,q)::rest,σ,k=>match ops[i]? with
  | some o=>sw ops σ o (fun J=>bif q then Vb P J o (fun y=>nt ops rest y k) else aag P call ops i J o (fun y=>nt ops rest y k)) (fun y=>nt ops rest y k)
  | none=>none
def evS(ops:Array Oper):List (Nat × Bool)->St->Option (St × Bool)
 | [],σ=>some (σ,true)
 | (i,q)::rest,σ=>match ops[i]? with
  | some o=>match Mx ops σ o with
   | .yes=>match (bif q then sU P σ o else Io P call σ o) with
    | some (σ',ok)=>match evS ops rest σ' with
     | some (τ,ok')=>some (τ,ok&&ok')
     | none=>none
    | none=>none
   | .no=>evS ops rest (σ.put o.dst .none_)
   | _=>none
  | none=>none
def uR(q:Nat × Bool)(o:Option (List (List (Nat × Bool)))):Option (List (List (Nat × Bool))):=
 match o with
 | some []=>none
 | some (l::ls)=>some ((l::ls).map (q :: ·))
 | none=>none
def Py(a b:Option (List (List (Nat × Bool)))):Option (List (List (Nat × Bool))):=
 match a,b with
 | some x,some y=>some (x++y)
 | _,_=>none
def Hh(ops:Array Oper):Nat->Array Bool->Option (List (List (Nat × Bool)))
 | 0,listed=>match Region.ready .any ops listed with
  | []=>some [[]]
  | _::_=>none
 | n+1,listed=>match Region.ready .any ops listed with
  | []=>some [[]]
  | j::r=>match (j::r).find? (fun i=>yb ops listed i||vr ops listed i) with
   | some i=>uR (i,true) (Hh ops n (listed.setIfInBounds i true))
   | none=>(j::r).foldr (fun i y=>Py (uR (i,false) (Hh ops n (listed.setIfInBounds i true))) y) (some [])
def FW(σ y:St):List Nat:=((σ.r.map (·.1)++σ.e.map (·.1))++(y.r.map (·.1)++y.e.map (·.1))).eraseDups
def yq(σ y:St):List Nat:=(σ.h.map (·.1)++y.h.map (·.1)).eraseDups
def TV(σ y:St):Bool:=
 (FW σ y).all (fun i=>(cz i σ.e σ.r).sh==(cz i y.e y.r).sh) &&
 (yq σ y).all fun i=>(bS i σ.h).map (·.1)==(bS i y.h).map (·.1)
def aju(σ y:St):List b8:=
 (FW σ y).map (fun i=>(cz i σ.e σ.r).p)++(yq σ y).map fun i=>((bS i σ.h).getD ([],[])).2
def Vx(σ y:St):List b8:=
 (FW σ y).map (fun i=>(cz i y.e y.r).p)++(yq σ y).map fun i=>((bS i y.h).getD ([],[])).2
def em(a b:List b8):Bool:=@decide (a=b) (Classical.propDecidable _)
def TI(ops:Array Oper)(σ y:St):List (List (Nat × Bool))->R->R
 | [],r=>r
 | l::ls,r=>match evS P call ops l σ with
  | some (τ,ok)=>bif TV y τ then iE (ok&&em (aju y τ) (Vx y τ)) (TI ops σ y ls r) else none
  | none=>none
def abG(ops:Array Oper)(σ:St)(k:St->R):List (List (Nat × Bool))->R
 | []=>none
 | l::ls=>match evS P call ops l σ with
  | some (σ0,ok)=>iE ok (TI P call ops σ σ0 ls (k σ0))
  | none=>none
def ahT(ops:Array Oper)(y:Array Bool)(i:Nat):Bool:=
 (match ops[i]? with
  | some o=>isQ o&&tQ o
  | none=>false)&&Region.free .any ops y i
def zz(ops:Array Oper):Nat->Array Bool->Option (List (List (Nat × Bool)))
 | 0,listed=>match Region.ready .any ops listed with
  | []=>some [[]]
  | _::_=>none
 | n+1,listed=>match Region.ready .any ops listed with
  | []=>some [[]]
  | j::r=>match (j::r).find? (ahT ops listed) with
   | some i=>uR (i,true) (zz ops n (listed.setIfInBounds i true))
   | none=>(j::r).foldr (fun i y=>Py (uR (i,false) (zz ops n (listed.setIfInBounds i true))) y) (some [])
def Ds(ops:Array Oper)(σ:St)(k:St->R):R:=
 match zz ops ops.size (Array.replicate ops.size false) with
 | some y=>abG P call ops σ k y
 | none=>none
def BA(ops:Array Oper)(σ:St)(k:St->R):R:=
 bif Region.noSelect ops&&P.follows .mixedOrders then (match HX ops ops.size (Array.replicate ops.size false) with
  | some l=>bif FE ops then Di P call ops l σ k else (match nt P call ops l σ k with
   | some r=>some r
   | none=>Ds P call ops σ k)
  | none=>match Hh ops ops.size (Array.replicate ops.size false) with
   | some y=>match abG P (noW call) ops σ k y with
    | some r=>some r
    | none=>Ds P call ops σ k
   | none=>Ds P call ops σ k) else none
def qb(dom:List Nat)(e:Env):Env:=dom.map fun i=>(i,dL i e)
def St.restrict(y σ:St):St:=⟨[],(y.e.map (·.1)).map fun i=>(i,cz i σ.e σ.r),σ.h.filter fun p=>(y.h.map (·.1)).contains p.1⟩
def St.dom(σ:St):Dom:=(σ.e.map fun p=>(p.1,p.2.sh),σ.h.map fun p=>(p.1,p.2.1))
def Sh.size:Sh->Nat
 | .one x=>x.size
 | .tup xs=>xs.foldr (fun s n=>s.size+n) 0
def St.flat(σ:St):b8:=(σ.e.flatMap fun p=>sub p.2.p 0 p.2.sh.size)++(σ.h.flatMap fun p=>sub p.2.2 0 p.2.1.length)
def mkE:List (Nat × Sh)->b8->Nat->Env × Nat
 | [],_,o=>([],o)
 | (i,s)::r,p,o=>((i,⟨s,sub p o s.size⟩)::(mkE r p (o+s.size)).1,(mkE r p (o+s.size)).2)
def mkH:List (Nat × List Ce)->b8->Nat->ul
 | [],_,_ => []
 | (i,cs)::r,p,o=>(i,cs,sub p o cs.length)::mkH r p (o+cs.length)
def mkSt(d:Dom)(p:b8):St:=⟨[],(mkE d.1 p 0).1,mkH d.2 p (mkE d.1 p 0).2⟩
def zV:R->Out
 | some (_,o)=>o
 | none=>none
def aX(step:b8->Out):Nat->b8->Out
 | 0,_=>none
 | n+1,p=>match step p with
  | some (0,p')=>aX step n p'
  | o=>o
def eB:Code->List Nat
 | .exit id => [id]
 | .seq a b=>eB a++eB b
 | .cond _ a b=>eB a++eB b
 | .block id c=>(eB c).filter (· != id)
 | .loop c=>eB c
 | .scope c=>eB c
 | _ => []
def restrictD(d:Dom)(σ:St):St:=⟨[],qb (d.1.map (·.1)) σ.e,σ.h.filter fun p=>(d.2.map (·.1)).contains p.1⟩
def ms(d:Dom)(code:Nat)(σ:St):R:=
 bif (restrictD d σ).dom==d&&σ.r.isEmpty then some (some d,some (code,(restrictD d σ).flat)) else none
def dP(x:Option b8):R:=
 match x with
 | some p=>some (none,some (1,p))
 | none=>none
def Out.code(o:Out):Nat:=(o.getD (0,[])).1
def Out.pay(o:Out):b8:=(o.getD (0,[])).2
def Bd(J:List Nat)(o:Out)(σ:St)(y:Nat->St->R):R:=
 match J with
 | []=>none
 | [j]=>iE (o.code==j+2) (y j σ)
 | j::r=>sv (o.code==j+2) (y j σ) (Bd r o σ y)
def hU:Code->Bool
 | .ret=>true
 | .seq a b=>hU a||hU b
 | .cond _ a b=>hU a||hU b
 | .block _ c=>hU c
 | .loop c=>hU c
 | .scope c=>hU c
 | _=>false
def acZ:Code->Bool
 | .loop _=>true
 | _=>false
def pI:List Nat->List Nat
 | [] => []
 | k::r=>bif Nat.ble 1000000 k then (k - 1000000)::pI r else pI r
def jw:List Nat->Env->Env
 | [],e=>e
 | i::r,e=>Nv i (jw r e)
def St.shed(ks:List Nat)(c:Code)(σ:St):St:=bif acZ c then⟨σ.r,jw (pI ks) σ.e,σ.h⟩ else σ
def Gl(id:Nat):List Nat->List Nat
 | [] => []
 | k::r=>bif Nat.ble 5000000 k&&Nat.beq ((k - 5000000) / 1000) id then ((k - 5000000) % 1000)::Gl id r else Gl id r
def St.cut(id:Nat)(ks:List Nat)(σ:St):St:=⟨σ.r,jw (Gl id ks) (jw (pI ks) σ.e),σ.h⟩
def St.learn(ks:List Nat)(c:Operand)(b:Bool)(σ:St):St:=
 match c with
 | .tmp i=>bif ks.contains (9000000+i) then⟨σ.r,Df i (.c (.kb b) D0) σ.e,σ.h⟩ else σ
 | _=>σ
section
variable (ks:List Nat)
def r0:R:=some (none,none)
def MP(a b:R):R:=
 match a with
 | some (some d,o)=>some (some d,o)
 | _=>b
def sf:Ce->Ce
 | .kb _=>.d .bool
 | c=>c
def acb:Ce->D->D
 | .kb b,_=>.b b
 | _,x=>x
def jW:List Ce->b8->Nat->b8
 | [],_,_ => []
 | c::cs,ds,i=>acb c (gd ds i)::jW cs ds (i+1)
def T.wide(v:T):T:=
 match v.sh with
 | .one (.c c)=>⟨.one (.c (sf c)),[acb c (gd v.p 0)]⟩
 | .one (.agg cs)=>⟨.one (.agg (cs.map sf)),jW cs v.p 0⟩
 | .tup _=>v
def St.wide(σ:St):St:=⟨σ.r,σ.e.map fun p=>(p.1,p.2.wide),σ.h.map fun p=>(p.1,p.2.1.map sf,jW p.2.1 p.2.2 0)⟩
def Jo(σ:St):R:=some (some σ.wide.dom,none)
def amh(σ y:St):R:=some (some (σ.restrict y).dom,none)
def Dr(M:Bool)(U:List Nat)(o:Out)(y:St)(J:St->R)(V:Nat->St->R)(O:Option b8->R):R:=
 match U,M with
 | [],false=>iE (o.code==0) (J y)
 | [],true=>sv (o.code==0) (J y) (iE (o.code==1) (O (some o.pay)))
 | i::is,false=>sv (o.code==0) (J y) (Bd (i::is) o y V)
 | i::is,true=>sv (o.code==0) (J y) (sv (o.code==1) (O (some o.pay)) (Bd (i::is) o y V))
def jF:List Nat->List Nat
 | [] => []
 | k::r=>bif Nat.ble 2000000 k then (k - 2000000)::jF r else jF r
def Yg(c:Operand):Bool:=
 match c with
 | .tmp i=>(jF ks).contains (8000000+i)
 | _=>false
def lU(id:Nat):Code->St->(St->R)->(Nat->St->R)->R
 | .skip,σ,kn,_=>kn σ
 | .region id ops draw,σ,kn,_ =>
  bif (jF ks).contains (1000000+id) then
   match (bif draw then BA P call ops (σ.cut id ks) (fun y=>Jo (y.settle ks)) else wN P call ops ops.toList (σ.cut id ks) fun y=>Jo (y.settle ks)) with
   | some (some d,_)=>kn (mkSt d [])
   | _=>none
  else bif draw then BA P call ops (σ.cut id ks) (fun y=>kn (y.settle ks)) else wN P call ops ops.toList (σ.cut id ks) fun y=>kn (y.settle ks)
 | .seq a b,σ,kn,kx=>lU id a σ (fun y=>lU id b y kn kx) kx
 | .cond c a b,σ,kn,kx=>match (opd σ c).sh with
  | .one (.c (.kb t))=>bif t then lU id a σ kn kx else lU id b σ kn kx
  | .one (.c (.d .bool)) =>
   bif Yg ks c then MP (lU id a σ (fun y=>kn (y.settle ks).wide) kx) (lU id b σ (fun y=>kn (y.settle ks).wide) kx)
   else MP (lU id a σ kn kx) (lU id b σ kn kx)
  | _=>none
 | .block j c,σ,kn,kx=>bif j==id then some (some (σ.shed ks c).dom,none) else lU id c (σ.shed ks c) (fun y=>kn ((σ.shed ks c).restrict y)) (fun i y=>bif i==j then kn ((σ.shed ks c).restrict y) else kx i y)
 | .loop b,σ,_,kx=>MP (lU id b (mkSt σ.dom σ.flat) (fun _=>r0) (fun _ _=>r0)) (match eB b with
  | []=>r0
  | j::_=>kx j (mkSt σ.dom σ.flat))
 | .scope c,σ,kn,kx=>lU id c σ kn kx
 | .exit j,σ,_,kx=>kx j σ
 | .ret,_,_,_=>r0
 | _,_,_,_=>none
end
variable (N:Nat) (ks:List Nat) (fin:St->Option b8)
def dt:Code->St->(St->R)->(Nat->St->R)->(Option b8->R)->R
 | .skip,σ,kn,_,_=>kn σ
 | .region id ops draw,σ,kn,_,_ =>
  bif (jF ks).contains (1000000+id) then
   match (bif draw then BA P call ops (σ.cut id ks) (fun y=>Jo (y.settle ks)) else wN P call ops ops.toList (σ.cut id ks) fun y=>Jo (y.settle ks)) with
   | some (some d,_) =>
    match (bif draw then BA P call ops (σ.cut id ks) (fun y=>ms d 0 (y.settle ks).wide) else wN P call ops ops.toList (σ.cut id ks) fun y=>ms d 0 (y.settle ks).wide) with
    | some (_,o)=>iE o.isSome (kn (mkSt d o.pay))
    | none=>none
   | _=>none
  else bif draw then BA P call ops (σ.cut id ks) (fun y=>kn (y.settle ks)) else wN P call ops ops.toList (σ.cut id ks) fun y=>kn (y.settle ks)
 | .seq a b,σ,kn,kx,kr=>dt a σ (fun y=>dt b y kn kx kr) kx kr
 | .cond c a b,σ,kn,kx,kr=>match (opd σ c).sh with
  | .one (.c (.kb t))=>bif t then dt a σ kn kx kr else dt b σ kn kx kr
  | .one (.c (.d .bool)) =>
   bif Yg ks c then
    match MP (lU P call ks 999999 a σ (fun y=>Jo (y.settle ks)) (fun _ _=>r0)) (lU P call ks 999999 b σ (fun y=>Jo (y.settle ks)) (fun _ _=>r0)) with
    | some (some d,_) =>
     match sv (gd (opd σ c).p 0).bool (dt a (σ.learn ks c true) (fun y=>ms d 0 (y.settle ks).wide) (fun j y=>ms d (j+2) (y.settle ks).wide) dP) (dt b (σ.learn ks c false) (fun y=>ms d 0 (y.settle ks).wide) (fun j y=>ms d (j+2) (y.settle ks).wide) dP) with
     | some (_,o)=>iE o.isSome (Dr (hU a||hU b) (eB a++eB b).eraseDups o (mkSt d o.pay) kn kx kr)
     | none=>none
    | _=>none
   else sv (gd (opd σ c).p 0).bool (dt a (σ.learn ks c true) kn kx kr) (dt b (σ.learn ks c false) kn kx kr)
  | _=>none
 | .block id c,σ,kn,kx,kr =>
  bif (jF ks).contains id then
   match lU P call ks 999999 c σ (amh σ) (fun j y=>bif j==id then amh σ y else r0) with
   | some (some d,_) =>
    match dt c σ (ms d 0) (fun j=>bif j==id then ms d 0 else ms d (j+2)) dP with
    | some (_,o)=>iE o.isSome (Dr (hU c) ((eB c).filter (· != id)).eraseDups o (mkSt d o.pay) kn kx kr)
    | none=>none
   | _=>none
  else dt c (σ.shed ks c) (fun y=>kn ((σ.shed ks c).restrict y)) (fun j y=>bif j==id then kn ((σ.shed ks c).restrict y) else kx j y) kr
 | .loop c,σ,_,kx,kr =>
  bif !σ.r.isEmpty then none else
   let o:=aX (fun p=>zV (dt c (mkSt σ.dom p) (ms σ.dom 0) (fun j=>ms σ.dom (j+2)) dP)) N σ.flat
   let out:=Bd (eB c).eraseDups o (mkSt σ.dom o.pay) kx
   iE o.isSome (bif hU c then (match eB c with
    | []=>iE (o.code==1) (kr (some o.pay))
    | _=>sv (o.code==1) (kr (some o.pay)) out) else out)
 | .exit id,σ,_,kx,_=>kx id σ
 | .ret,σ,_,_,kr=>kr (fin σ)
 | _,_,_,_,_=>none
def CU(c:Code)(d:Dom)(p:b8):Out:=zV (dt P call N ks fin c (mkSt d p) (ms d 0) (fun j=>ms d (j+2)) dP)
def ahg(a b:Option Code):Option Code:=
 match a with
 | some c=>some c
 | none=>b
def ru(id:Nat):Code->Option Code
 | .seq a b=>ahg (ru id a) (ru id b)
 | .cond _ a b=>ahg (ru id a) (ru id b)
 | .block j c=>bif j==id then (match c with | .loop b=>some b | _=>none) else ru id c
 | .loop c=>ru id c
 | .scope c=>ru id c
 | _=>none
def tN(σ:St):List ResultVar->Option (List Sh1 × b8)
 | []=>some ([],[])
 | r::rs =>
  let v:Option T:=match r with
   | .tmp t=>some (cz t σ.e σ.r)
   | .cell a t=>Cv P t σ (cz a σ.e σ.r)
  match v,tN σ rs with
  | some v,some (shs,p)=>match v.sh with
   | .one (.c (.kb b))=>some (.c (.d .bool)::shs,.b b::p)
   | .one x=>some (x::shs,sub v.p 0 x.size++p)
   | .tup _=>none
  | _,_=>none
def Sh.list:Sh->List Sh1
 | .one x => [x]
 | .tup xs=>xs
def aaT:List Ce->List Ce->List Tok
 | .own t true _::cs,.own _ true _::rs=>aaT cs rs
 | .own t _ _::cs,_::rs=>t::aaT cs rs
 | _::cs,_::rs=>aaT cs rs
 | _,_ => []
def eg:List Ce->List Ce->List (Tok × Tok)
 | .own t _ _::cs,.own t' _ _::rs=>(t,t')::eg cs rs
 | _::cs,_::rs=>eg cs rs
 | _,_ => []
def Mr(c r:Ce):Bool:=
 match c,r with
 | .d s,.d s'=>s==s'
 | .own t x e,.own t' x' e'=>x==x'&&e==e'&&t'.1==0&&(!x||bq t==bq t')
 | .own _ false e,.d (.sl e')=>e==e'
 | _,_=>false
def Jl:List Ce->List Ce->Bool
 | [],[]=>true
 | c::cs,r::rs=>Mr c r&&Jl cs rs
 | _,_=>false
def amq:Sh1->Sh1->Bool
 | .c x,.c y=>Mr x y
 | .agg xs,.agg ys=>Jl xs ys
 | _,_=>false
def fit:List Sh1->List Sh1->Bool
 | [],[]=>true
 | x::xs,y::ys=>amq x y&&fit xs ys
 | _,_=>false
def eS(xs:List Sh1):List Ce:=xs.flatMap Sh1.ces
def Sh.tupOk:Sh->Bool
 | .one _=>true
 | .tup xs=>xs.length != 1
def GQ(fn:Func)(rs:Sh)(σ:St):Option b8:=
 match tN P σ fn.results.toList with
 | some (shs,p) =>bif fit (shs.map (Sh1.map (fG (aaT (eS shs) (eS rs.list))))) rs.list&&cM ((eg (eS shs) (eS rs.list)).map (·.1))&&cM ((eg (eS shs) (eS rs.list)).map (·.2))&&rs.tupOk then some p else none
 | none=>none
def pY:Nat->List T->Env
 | _,[] => []
 | i,v::vs=>(i,v)::pY (i+1) vs
def start(args:List T):St:=⟨[],pY 0 args,[]⟩
def jk(n:Nat):Code->Bool
 | .region _ ops _=>ops.toList.all fun o=>match o.dst with | some d=>Nat.blt d n | none=>true
 | .seq a b=>jk n a&&jk n b
 | .cond _ a b=>jk n a&&jk n b
 | .block _ c=>jk n c
 | .loop c=>jk n c
 | .scope c=>jk n c
 | _=>true
def bf(fn:Func)(rs:Sh)(args:List T):R:=
 match fn.body with
 | some c=>bif jk fn.ntmps c&&Nat.ble args.length fn.ntmps&&Nat.ble fn.ntmps 1000000 then
   dt P call N ks (GQ P fn rs) c (start args) (fun σ=>dP (GQ P fn rs σ)) (fun _ _=>none) dP
   else none
 | none=>none
def iX(fn:Func)(rs:Sh)(σ:St):Option b8:=
 match rs,bS 1000000 σ.h,tN P σ fn.results.toList with
 | .tup (.agg [.any]::.agg cs2::res),some (cs,ds),some (shs,p) =>bif fit ((.agg (cs.map sf)::shs).map (Sh1.map (fG (aaT (eS (.agg (cs.map sf)::shs)) (eS (.agg cs2::res)))))) (.agg cs2::res)&&cM ((eg (eS (.agg (cs.map sf)::shs)) (eS (.agg cs2::res))).map (·.1))&&cM ((eg (eS (.agg (cs.map sf)::shs)) (eS (.agg cs2::res))).map (·.2)) then some (D0::(jW cs ds 0++p)) else none
 | _,_,_=>none
def GJ(cs:List Ce)(ds:b8)(args:List T):St:=⟨[],pY 0 (.c (.ptr 1000000 0) D0::args),[(1000000,cs,sub ds 0 cs.length)]⟩
def jT(fn:Func)(rs:Sh)(args:List T):R:=
 match fn.body,args with
 | some c,⟨.tup [.agg cs],ds⟩::rest=>bif jk fn.ntmps c&&Nat.ble args.length fn.ntmps&&Nat.ble fn.ntmps 1000000 then
   dt P call N ks (iX P fn rs) c (GJ cs ds rest) (fun σ=>dP (iX P fn rs σ)) (fun _ _=>none) dP
   else none
 | _,_=>none
def vC(fn:Func)(rs:Sh)(args:List T)(id:Nat):b8->Out:=
 match fn.body,args with
 | some c,⟨.tup [.agg cs],ds⟩::rest=>match lU P call ks id c (GJ cs ds rest) (fun _=>r0) (fun _ _=>r0),ru id c with
  | some (some d,_),some b=>CU P call N ks (iX P fn rs) b d
  | _,_=>fun _=>none
 | _,_=>fun _=>none
def Gx(fn:Func)(cs:List Ce)(σ:St):Option b8:=
 match fn.results.toList with
 | [.tmp t]=>match (cz t σ.e σ.r).sh with
  | .one (.c (.ptr id 0))=>match bS id σ.h with
   | some (cs',ds)=>bif cs'==cs then some (sub ds 0 cs.length) else none
   | none=>none
  | _=>none
 | _=>none
def agp(fn:Func)(rs:Sh)(args:List T):R:=
 match fn.body,rs with
 | some c,.tup [.agg (.any::.any::.any::.any::cs)]=>bif jk fn.ntmps c&&Nat.ble args.length fn.ntmps&&Nat.ble fn.ntmps 1000000&&cs.all Ce.isD then
   dt P call N ks (Gx fn cs) c (start args) (fun σ=>dP (Gx fn cs σ)) (fun _ _=>none) dP
   else none
 | _,_=>none
def ajP(fn:Func)(rs:Sh)(args:List T)(id:Nat):b8->Out:=
 match fn.body,rs with
 | some c,.tup [.agg (.any::.any::.any::.any::cs)]=>match lU P call ks id c (start args) (fun _=>r0) (fun _ _=>r0),ru id c with
  | some (some d,_),some b=>CU P call N ks (Gx fn cs) b d
  | _,_=>fun _=>none
 | _,_=>fun _=>none
def bb(fn:Func)(rs:Sh)(args:List T)(id:Nat):b8->Out:=
 match fn.body with
 | some c=>match lU P call ks id c (start args) (fun _=>r0) (fun _ _=>r0),ru id c with
  | some (some d,_),some b=>CU P call N ks (GQ P fn rs) b d
  | _,_=>fun _=>none
 | none=>fun _=>none
end
def bsv(l:List UInt8):ByteArray:=⟨l.toArray⟩
theorem uK(s:ByteArray):bsv (qk s)=s:=by cases s;simp[bsv,qk]
theorem aq(d:D)(p:b8):gd (d::p) 0=d:=rfl
theorem ap(d:D)(p:b8)(i:Nat):gd (d::p) (i+1)=gd p i:=by simp[gd]
theorem fq(p:b8)(i:Nat):gd p.tail i=gd p (i+1):=by cases p <;> simp[gd]
theorem fB(p:b8):∀(n o:Nat),(sub p o n).length=n
 | 0,_=>rfl
 | n+1,o=>by simp[sub,fB p n]
theorem fY(p:b8):∀(n o i:Nat),i<n->gd (sub p o n) i=gd p (o+i)
 | 0,_,_,h=>by omega
 | n+1,o,0,_=>by simp[sub,aq]
 | n+1,o,i+1,h=>by
  rw[sub,ap,fY p n (o+1) i (by omega)]
  congr 1;omega
structure G where
 prot:Nat->Nat
 owner:Nat->Option (Nat ⊕ Tok)
 θ:Nat->Nat
 ρ:Tok->Nat
 len:Tok->Nat
 wid:Tok->Nat
 ety:Tok->TypeId
 path:Nat->List (Nat × Nat)
 need:Nat->Nat
 old:Nat->Prop
def Fr:Value->Bool
 | .agg _ | .tuple _=>false
 | _=>true
inductive VD (P:Program) (w:World) (prot:Nat->Nat):S->D->Value->Prop
 | int (k:IntKind) (d:D):VD P w prot (.int k) d (.int k d.int)
 | bool (d:D):VD P w prot .bool d (.bool d.bool)
 | str (d:D):VD P w prot .str d (.string (bsv d.str))
 | sl (e:TypeId) (d:D) (A:Option Addr) (c:Nat) (row:List S) (u:Nat->Nat->Value) (hr:br P e=some row)
   (h1:d.rows.length<=c) (h2:c<=9223372036854775807)
   (h3:∀i j,i<d.rows.length->j<row.length->∃b o,A=some ⟨b,o,none⟩/\w.cell? ⟨b,o+(i*row.length+j),none⟩=some (u i j)/\o+(i*row.length+j)<prot b)
   (h4:∀i j s,i<d.rows.length->row[j]?=some s->VD P w prot s (gd (d.rows.getD i []) j) (u i j)):VD P w prot (.sl e) d (.slice A d.rows.length c)
 | opq (d:D) (h:Fr d.val=true):VD P w prot .opq d d.val
theorem dW{w:World}{b o:Nat}{v:Value}(h:w.cell? ⟨b,o,none⟩=some v):b<w.heap.size:=by
 rcases C4 b w.heap.size with hlt | hge
 ·exact hlt
 ·unfold World.cell? at h;rw[G3 hge] at h;cases h
theorem bg{w w':World}{b:Nat}(h:w'.heap[b]?=w.heap[b]?)(o:Nat):w'.cell? ⟨b,o,none⟩=w.cell? ⟨b,o,none⟩:=by unfold World.cell?;simp only;rw[h]
theorem VD.mono{P:Program}{w w':World}{prot y:Nat->Nat}{s:S}{x:D}{v:Value}(h:VD P w prot s x v)
  (hk:∀b o u,o<prot b->w.cell? ⟨b,o,none⟩=some u->w'.cell? ⟨b,o,none⟩=some u/\o<y b):VD P w' y s x v:=by
 induction h with
 | int k d=>exact .int k d
 | bool d=>exact .bool d
 | str d=>exact .str d
 | opq d h=>exact .opq d h
 | sl e d A c row u U h1 O V h4 ih =>refine .sl e d A c row u U h1 O (fun i j hi Z=>?_) (fun i j s hi W=>ih i j s hi W);obtain⟨b,o,hA,hc,M⟩:=V i j hi Z;obtain⟨J,Y⟩:=hk b _ _ M hc;exact⟨b,o,hA,J,Y⟩
theorem VD.flat{P:Program}{w:World}{prot:Nat->Nat}{s:S}{x:D}{v:Value}(h:VD P w prot s x v):Fr v=true:=by cases h <;> first | rfl | assumption
inductive TR (P:Program) (w:World) (lab:Nat->List (Nat × Nat)->Nat->Prop):List (Nat × Nat)->S->D->Value->Prop
 | int (π:List (Nat × Nat)) (k:IntKind) (d:D):TR P w lab π (.int k) d (.int k d.int)
 | bool (π:List (Nat × Nat)) (d:D):TR P w lab π .bool d (.bool d.bool)
 | str (π:List (Nat × Nat)) (d:D):TR P w lab π .str d (.string (bsv d.str))
 | nil (π:List (Nat × Nat)) (e:TypeId) (d:D) (A:Option Addr) (hr:(br P e).isSome=true) (h:d.rows = []):TR P w lab π (.sl e) d (.slice A 0 0)
 | sl (π:List (Nat × Nat)) (e:TypeId) (d:D) (b cap:Nat) (row:List S) (arr:Array Value) (u:Nat->Nat->Value) (hr:br P e=some row)
   (h1:d.rows.length<=cap) (h2:cap<=9223372036854775807) (h3:lab b π (d.rows.length*row.length)) (h4:w.heap[b]?=some (.cells arr e (0,0))) (h5:arr.size=cap*row.length)
   (h6:∀i j,i<d.rows.length->j<row.length->arr[i*row.length+j]?=some (u i j))
   (h7:∀i j s,i<d.rows.length->row[j]?=some s->TR P w lab (π ++ [(i,j)]) s (gd (d.rows.getD i []) j) (u i j)):TR P w lab π (.sl e) d (.slice (some ⟨b,0,none⟩) d.rows.length cap)
theorem TR.flat{P:Program}{w:World}{lab:Nat->List (Nat × Nat)->Nat->Prop}{π:List (Nat × Nat)}{s:S}{x:D}{v:Value}(h:TR P w lab π s x v):Fr v=true:=by cases h <;> rfl
theorem TR.monoQ{P:Program}{w w':World}{lab lab':Nat->List (Nat × Nat)->Nat->Prop}(Q:List (Nat × Nat)->Prop)(V:∀π x,Q π->Q (π ++ [x]))(f:List (Nat × Nat)->List (Nat × Nat))(Z:∀π x,Q π->f (π ++ [x])=f π ++ [x]){π:List (Nat × Nat)}{s:S}{x:D}{v:Value}(h:TR P w lab π s x v)
  (hk:∀b π n o,Q π->lab b π n->w.heap[b]?=some o->w'.heap[b]?=some o/\lab' b (f π) n) (y:Q π):TR P w' lab' (f π) s x v:=by
 induction h with
 | int π k d=>exact .int _ k d
 | bool π d=>exact .bool _ d
 | str π d=>exact .str _ d
 | nil π e d A J h=>exact .nil _ e d A J h
 | sl π e d b cap row M u J h1 U h3 W Y h6 h7 ih =>obtain⟨O,k2⟩:=hk _ _ _ _ y h3 W;exact .sl _ e d b cap row M u J h1 U k2 O Y h6 (fun i j s hi hs=>by rw[<- Z _ _ y];exact ih i j s hi hs (V _ _ y))
theorem TR.mono{P:Program}{w w':World}{lab lab':Nat->List (Nat × Nat)->Nat->Prop}(f:List (Nat × Nat)->List (Nat × Nat))(J:∀π x,π ≠ []->f (π ++ [x])=f π ++ [x]){π:List (Nat × Nat)}{s:S}{x:D}{v:Value}(h:TR P w lab π s x v)
  (hk:∀b π n o,π ≠ []->lab b π n->w.heap[b]?=some o->w'.heap[b]?=some o/\lab' b (f π) n) (y:π ≠ []):TR P w' lab' (f π) s x v:=
 TR.monoQ (fun π=>π ≠ []) (fun π x _=>by simp) f J h hk y
theorem TR.vd{P:Program}{w:World}{lab:Nat->List (Nat × Nat)->Nat->Prop}{prot:Nat->Nat}{π:List (Nat × Nat)}{s:S}{x:D}{v:Value}(h:TR P w lab π s x v)(hk:∀b π n,lab b π n->n<=prot b):VD P w prot s x v:=by
 induction h with
 | int π k d=>exact .int k d
 | bool π d=>exact .bool d
 | str π d=>exact .str d
 | nil π e d A y h =>
  obtain⟨row,y⟩:=C8.1 y;have:=VD.sl (P:=P) (w:=w) (prot:=prot) e d A 0 row (fun _ _=>.int .i64 0) y (by rw[h];simp) (by omega) (by rw[h];intro i j hi;simp at hi) (by rw[h];intro i j s hi;simp at hi)
  rwa [show d.rows.length=0 from by rw[h];rfl] at this
 | sl π e d b cap row Y u y h1 J O M Z U h7 W =>
  refine VD.sl e d _ cap row u y h1 J (fun i j hi V=>⟨b,0,rfl,?_,?_⟩) W
  ·simp only[World.cell?,M,m0];exact U i j hi V
  ·have:=hk _ _ _ O;have h8:i*row.length+row.length<=d.rows.length*row.length:=by rw[<- E3];exact z7 _ hi
   omega
theorem TR.of_flat{P:Program}{w:World}{prot:Nat->Nat}{lab:Nat->List (Nat × Nat)->Nat->Prop}{π:List (Nat × Nat)}{s:S}{x:D}{v:Value}(h:VD P w prot s x v)(y:s.flat=true):TR P w lab π s x v:=by
 cases h with
 | int k d=>exact .int π k _
 | bool d=>exact .bool π _
 | str d=>exact .str π _
 | opq=>simp[S.flat] at y
 | sl=>simp[S.flat] at y
theorem TR.no_opq{P:Program}{w:World}{lab:Nat->List (Nat × Nat)->Nat->Prop}{π:List (Nat × Nat)}{x:D}{v:Value}(h:TR P w lab π .opq x v):False:=by cases h
theorem TR.vd_flat{P:Program}{w:World}{prot:Nat->Nat}{lab:Nat->List (Nat × Nat)->Nat->Prop}{π:List (Nat × Nat)}{s:S}{x:D}{v:Value}(h:TR P w lab π s x v)(y:s.flat=true):VD P w prot s x v:=by
 cases h with
 | int _ k d=>exact .int k _
 | bool _ d=>exact .bool _
 | str _ d=>exact .str _
 | nil=>simp[S.flat] at y
 | sl=>simp[S.flat] at y
def mC(base:Nat)(g:G)(t:Tok)(b:Nat)(π:List (Nat × Nat))(n:Nat):Prop:=base<=b/\g.owner b=some (.inr t)/\b≠g.ρ t/\g.path b=π/\g.need b=n/\g.prot b=0
def cL(P:Program)(base:Nat)(w:World)(g:G)(t:Tok)(y:Bool)(i j:Nat)(s:S)(d:D)(u:Value):Prop:=
 if (bq t&&y)=true then TR P w (mC base g t) [(i,j)] s d u else VD P w g.prot s d u
theorem cL.flat{P:Program}{base:Nat}{w:World}{g:G}{t:Tok}{y:Bool}{i j:Nat}{s:S}{d:D}{u:Value}(h:cL P base w g t y i j s d u):Fr u=true:=by
 unfold cL at h
 split at h
 ·exact TR.flat h
 ·exact VD.flat h
theorem cL.vd_flat{P:Program}{base:Nat}{w:World}{g:G}{t:Tok}{y:Bool}{i j:Nat}{s:S}{d:D}{u:Value}(h:cL P base w g t y i j s d u)(J:s.flat=true):VD P w g.prot s d u:=by
 unfold cL at h
 split at h
 ·exact TR.vd_flat h J
 ·exact h
theorem cL.vd{P:Program}{base:Nat}{w:World}{g:G}{t:Tok}{y:Bool}{i j:Nat}{s:S}{d:D}{u:Value}(h:cL P base w g t y i j s d u)(J:bq t=false):VD P w g.prot s d u:=by
 unfold cL at h
 rwa [J,A9,j7 (by simp)] at h
theorem cL.vd'{P:Program}{base:Nat}{w:World}{g:G}{t:Tok}{i j:Nat}{s:S}{d:D}{u:Value}(h:cL P base w g t false i j s d u):VD P w g.prot s d u:=by
 unfold cL at h
 rwa [E4,j7 (by simp)] at h
theorem cL.of_vd{P:Program}{base:Nat}{w:World}{g:G}{t:Tok}{M:Bool}{i j:Nat}{s:S}{d:D}{u:Value}(h:VD P w g.prot s d u)(y:(bq t&&M)=false\/s.flat=true):cL P base w g t M i j s d u:=by
 unfold cL
 split
 ·rename_i J;rcases y with y | y
  ·rw[y] at J;cases J
  ·exact TR.of_flat h y
 ·exact h
theorem cL.of_tr{P:Program}{base:Nat}{w:World}{g:G}{t:Tok}{i j:Nat}{s:S}{d:D}{u:Value}(h:TR P w (mC base g t) [(i,j)] s d u)(y:bq t=true):cL P base w g t true i j s d u:=by unfold cL;rw[m6 (by rw[y];rfl)];exact h
theorem cL.tr{P:Program}{base:Nat}{w:World}{g:G}{t:Tok}{i j:Nat}{s:S}{d:D}{u:Value}(h:cL P base w g t true i j s d u)(y:bq t=true):TR P w (mC base g t) [(i,j)] s d u:=by
 unfold cL at h
 rwa [m6 (by rw[y];rfl)] at h
theorem cL.mono{P:Program}{base y:Nat}{w w':World}{g g':G}{t O:Tok}{J:Bool}{i j:Nat}{s:S}{d:D}{u:Value}(h:cL P base w g t J i j s d u)(Y:(bq O&&J)=(bq t&&J))
  (V:∀b o z,o<g.prot b->w.cell? ⟨b,o,none⟩=some z->w'.cell? ⟨b,o,none⟩=some z/\o<g'.prot b)
  (U:(bq t&&J)=true->∀b o,base<=b->g.owner b=some (.inr t)->b≠g.ρ t->w.heap[b]?=some o->w'.heap[b]?=some o/\y<=b/\g'.owner b=some (.inr O)/\b≠g'.ρ O/\g'.path b=g.path b/\g'.need b=g.need b/\(g.prot b=0->g'.prot b=0)):cL P y w' g' O J i j s d u:=by
 unfold cL at h ⊢;rw[Y]
 split at h
 ·rename_i M;rw[m6 M];refine TR.mono (fun π=>π) (fun _ _ _=>rfl) h (fun b π n o _ hl ho=>?_) (by simp);obtain⟨l0,l1,l2,l3,l4,Z⟩:=hl;obtain⟨W,k0,k2,k3,k4,k5,k6⟩:=U M b o l0 l1 l2 ho;exact⟨W,k0,k2,k3,k4.trans l3,k5.trans l4,k6 Z⟩
 ·rename_i M;rw[j7 M];exact h.mono V
def iV(P:Program)(w:World)(g:G)(_base:Nat)(cells:List S)(off:Nat)(x:D)(v:Value):Prop:=
 ∃b o,v=.pointer (some ⟨b,o+off,none⟩)/\g.old b/\∀j s,cells[j]?=some s->∃u,w.cell? ⟨b,o+j,none⟩=some u/\VD P w g.prot s (gd (x.rows.getD 0 []) j) u
section
variable (P:Program) (w:World) (g:G) (base:Nat)
def dX(t:Tok)(J:Bool)(e:TypeId)(row:List S)(rows:List b8)(v:Value):Prop:=
 (rows = []/\g.len t=0/\∃A,v=.slice A 0 0) \/
 (∃(cap:Nat) (y:Array Value) (E:TypeId),v=.slice (some ⟨g.ρ t,0,none⟩) rows.length cap/\rows.length<=cap/\(cap<=9223372036854775807/\E=e/\e=g.ety t)/\base<=g.ρ t/\g.owner (g.ρ t)=some (.inr t) /\
  w.heap[g.ρ t]?=some (.cells y E (0,0))/\y.size=cap*row.length/\rows.length=g.len t/\row.length=g.wid t/\g.prot (g.ρ t)=(if J then 0 else g.len t*g.wid t) /\
  ∀i j s,i<rows.length->row[j]?=some s->∃u,y[i*row.length+j]?=some u/\cL P base w g t J i j s (gd (rows.getD i []) j) u)
def Ks:Cap->D->Value->Prop
 | .d s,x,v=>VD P w g.prot s x v
 | .ptr id off,_,v=>v=.pointer (some ⟨g.θ id,off,none⟩)
 | .cptr cells off,x,v=>iV P w g base cells off x v
def eK(x:D):List b8:=(gd (x.rows.getD 0 []) 0).rows
def eIx(x:D):Nat:=(gd (x.rows.getD 0 []) 1).int.toNat
def VC:Ce->D->Value->Prop
 | .any,_,_=>True
 | .d s,x,v=>VD P w g.prot s x v
 | .kb b,_,v=>v=.bool b
 | .own t xm e,x,v=>∃row,br P e=some row/\dX P w g base t xm e row x.rows v
 | .ptr id off,_,v=>v=.pointer (some ⟨g.θ id,off,none⟩)
 | .eptr none e off,x,v=>∃row b o,br P e=some row/\v=.pointer (some ⟨b,o+(eIx x*row.length+off),none⟩)/\eIx x<(eK x).length /\
   ∀j s,row[j]?=some s->∃u,w.cell? ⟨b,o+(eIx x*row.length+j),none⟩=some u/\o+(eIx x*row.length+j)<g.prot b/\VD P w g.prot s (gd ((eK x).getD (eIx x) []) j) u
 | .eptr (some t) e off,x,v=>∃row,br P e=some row/\v=.pointer (some ⟨g.ρ t,eIx x*row.length+off,none⟩)/\eIx x<(eK x).length/\∃u,dX P w g base t true e row (eK x) u
 | .inn t e off ei,x,v=>∃row,br P e=some row/\(∃u,dX P w g base t true e row (eK x) u) /\
   ((off<kt/\row[off]?=some (.sl ei)/\bq t=true/\eIx x<(eK x).length/\∃y E,w.heap[g.ρ t]?=some (.cells y E (0,0))/\y[eIx x*row.length+off]?=some v/\Fr v=true) \/
    (kt<=off/\ei=e/\VD P w (fun b=>if b=g.ρ t then (eK x).length*row.length else 0) (.sl e) (.l ((eK x).drop (eIx x))) v))
 | .cptr cells off,x,v=>iV P w g base cells off x v
 | .fn f caps,x,v=>∃y:Array Value,v=.func (.func f) #[] y/\y.size=caps.length/\∀j c,caps[j]?=some c->∃u,y[j]?=some u/\Ks P w g base c (gd (x.rows.getD 0 []) j) u
def VCs(cs:List Ce)(p:b8)(y:Array Value):Prop:=y.size=cs.length/\∀(j:Nat) c,cs[j]?=some c->∃u,y[j]?=some u/\VC P w g base c (gd p j) u
def V1:Sh1->b8->Value->Prop
 | .c x,p,v=>VC P w g base x (gd p 0) v
 | .agg xs,p,v=>∃y,v=.agg y/\VCs P w g base xs p y
def tg(xs:List Sh1)(j:Nat):Nat:=(xs.take j).foldr (fun s n=>s.size+n) 0
def VS:Sh->b8->Value->Prop
 | .one x,p,v=>V1 P w g base x p v
 | .tup xs,p,v=>∃y:Array Value,v=.tuple y/\y.size=xs.length/\∀(j:Nat) x,xs[j]?=some x->∃u,y[j]?=some u/\V1 P w g base x (sub p (tg xs j) x.size) u
def VT(t:T)(v:Value):Prop:=VS P w g base t.sh t.p v
def afi(id:Nat)(cs:List Ce)(ds:b8):Prop:=
 base<=g.θ id/\g.owner (g.θ id)=some (.inl id)/\g.prot (g.θ id)=0/\ds.length=cs.length/\∃y E,w.heap[g.θ id]?=some (.cells y E (0,0))/\VCs P w g base cs ds y
class Low where
 low:Nat->Nat
 heap:Nat->Option Obj
 old:Nat->Prop
 pin:Tok->Option (Nat × Nat × Nat × TypeId)
 box:Nat
 lab:Nat->Tok->List (Nat × Nat)->Nat->Prop
abbrev Dy:Low:=⟨fun _=>0,fun _=>none,fun _=>False,fun _=>none,0,fun _ _ _ _=>True⟩
variable [Low]
structure Rel(σ:St)(a:Act):Prop where
 env:∀i,VT P w g base (cz i σ.e σ.r) (a.tmps.getD i undef)
 box:∀id cs ds,bS id σ.h=some (cs,ds)->afi P w g base id cs ds
 fresh:∀b,w.heap.size<=b->g.prot b=0/\g.owner b=none
 base_le:base<=w.heap.size
 defers:a.defers = []/\a.tmps.size<=1000000
 low:(g.old=Low.old/\g.θ 1000000=Low.box)/\(∀b,g.old b->g.owner b=none/\g.prot b=Low.low b/\w.heap[b]?=Low.heap b/\b<w.heap.size)/\∀t x,Low.pin t=some x->t.1=1000001/\g.ρ t=x.1/\g.len t=x.2.1/\(0<x.2.2.1->g.owner x.1=some (.inr t)/\∃arr,w.heap[x.1]?=some (.cells arr x.2.2.2 (0,0))/\arr.size=x.2.2.1)
 mine:∀b t,t.1=1000001->g.owner b=some (.inr t)->Low.lab b t (g.path b) (g.need b)
end
theorem VC.flat{P:Program}{w:World}{g:G}{base:Nat}{c:Ce}{x:D}{v:Value}(h:VC P w g base c x v)(hc:c≠.any):Fr v=true:=by
 cases c with
 | any=>exact absurd rfl hc
 | d s=>exact VD.flat h
 | kb b=>cases h;rfl
 | own t y e =>
  obtain⟨row,_,h | ⟨_,_,_,h,_⟩⟩:=h
  ·obtain⟨_,_,A,h⟩:=h;cases h;rfl
  ·cases h;rfl
 | ptr id off=>cases h;rfl
 | eptr t e off=>cases t with
  | none=>obtain⟨_,_,_,_,h,_⟩:=h;cases h;rfl
  | some t=>obtain⟨_,_,h,_⟩:=h;cases h;rfl
 | inn t e off J =>
  obtain⟨_,_,_,⟨_,_,_,_,_,_,_,_,h⟩ | ⟨_,_,h⟩⟩:=h
  ·exact h
  ·exact VD.flat h
 | cptr cells off=>obtain⟨_,_,h,_⟩:=h;cases h;rfl
 | fn f caps=>obtain⟨_,h,_⟩:=h;cases h;rfl
theorem ajB{P:Program}{w:World}{g:G}{base:Nat}{t:Tok}{e:TypeId}{row:List S}{x:D}{u:Value}(h:eIx x<(eK x).length)(y:dX P w g base t true e row (eK x) u):g.owner (g.ρ t)=some (.inr t):=by
 rcases y with⟨J,_⟩ | ⟨_,_,_,_,_,_,_,h5,_⟩
 ·rw[J] at h;simp at h
 ·exact h5
theorem oG{P:Program}{w w':World}{g g':G}{base y:Nat}{t:Tok}{e:TypeId}{off:Nat}{ei:TypeId}{x:D}{v:Value}(hv:VC P w g base (.inn t e off ei) x v)(V:g'.ρ t=g.ρ t)
  (hh:∀o,g.owner (g.ρ t)=some (.inr t)->w.heap[g.ρ t]?=some o->w'.heap[g.ρ t]?=some o) (J:∀ {row rows u},dX P w g base t true e row rows u->dX P w' g' y t true e row rows u):VC P w' g' y (.inn t e off ei) x v:=by
 obtain⟨row,h1,⟨u,M⟩,⟨Y,W,Z,h4,U,E,h6,h7,h8⟩ | ⟨Y,W,Z⟩⟩:=hv
 ·exact⟨row,h1,⟨u,J M⟩,.inl ⟨Y,W,Z,h4,U,E,by rw[V];exact hh _ (ajB h4 M) h6,h7,h8⟩⟩
 ·refine⟨row,h1,⟨u,J M⟩,.inr ⟨Y,W,?_⟩⟩;rw[V];refine Z.mono fun b o z O hz=>⟨?_,O⟩
  by_cases hb:b=g.ρ t
  ·subst hb;rcases M with⟨hr,_⟩ | ⟨_,U,E,_,_,_,_,k5,k6,_⟩
   ·rw[hr] at O;simp at O
   ·exact (bg ((hh _ k5 k6).trans k6.symm) o).trans hz
  ·rw[j7 hb] at O;omega
structure Ext(d:Option Nat)(g g':G)(w w':World):Prop where
 size:w.heap.size<=w'.heap.size
 θ:∀id,some id≠d->g'.θ id=g.θ id
 ρ:∀t:Tok,some t.1≠d->g'.ρ t=g.ρ t/\g'.len t=g.len t/\g'.wid t=g.wid t/\g'.ety t=g.ety t
 prot:∀b,b<w.heap.size->g'.prot b=g.prot b
 owner:∀b,b<w.heap.size->g'.owner b=g.owner b
 heap:∀b,b<w.heap.size->w'.heap[b]?=w.heap[b]?
 lab:∀b,b<w.heap.size->g'.path b=g.path b/\g'.need b=g.need b
 old:g'.old=g.old
 new:∀b t,w.heap.size<=b->g'.owner b=some (.inr t)->some t.1=d\/g.owner b=some (.inr t)
theorem aP{w:World}{b:Nat}{o:Obj}(h:w.heap[b]?=some o):b<w.heap.size:=by
 rcases C4 b w.heap.size with hlt | hge
 ·exact hlt
 ·rw[G3 hge] at h;cases h
section
variable {P:Program} {w w':World} {g g':G} {base:Nat} {d:Option Nat}
theorem Ext.vd(h:Ext d g g' w w'){s:S}{x:D}{v:Value}(hv:VD P w g.prot s x v):VD P w' g'.prot s x v:=
 hv.mono fun b o u y hc=>⟨(bg (h.heap b (dW hc)) o).trans hc,by rw[h.prot b (dW hc)];exact y⟩
theorem Ext.cell(h:Ext d g g' w w'){t:Tok}{U:Bool}{i j:Nat}{s:S}{x:D}{v:Value}(V:some t.1≠d)(hv:cL P base w g t U i j s x v):cL P base w' g' t U i j s x v:=
 hv.mono rfl (fun b o u J hc=>⟨(bg (h.heap b (dW hc)) o).trans hc,by rw[h.prot b (dW hc)];exact J⟩) (fun _ b o W J M O=>by have y:=aP O;exact⟨(h.heap b y).trans O,W,(h.owner b y).trans J,by rw[(h.ρ t V).1];exact M,(h.lab b y).1,(h.lab b y).2,fun e=>(h.prot b y).trans e⟩)
theorem Ext.own(h:Ext d g g' w w'){t:Tok}{M:Bool}{e:TypeId}{row:List S}{rows:List b8}{v:Value}(J:some t.1≠d)(hv:dX P w g base t M e row rows v):dX P w' g' base t M e row rows v:=by
 rcases hv with hv | ⟨cap,arr,E,h1,h2,h3,h4,h5,h6,h7,h8,h9,h10,h11⟩
 ·exact .inl ⟨hv.1,by rw[(h.ρ t J).2.1];exact hv.2.1,hv.2.2⟩
 ·obtain⟨e1,e2,e3,e4⟩:=h.ρ t J;have y:=aP h6;refine .inr ⟨cap,arr,E,by rw[e1];exact h1,h2,by rw[e4];exact h3,by rw[e1];exact h4,by rw[e1,h.owner _ y];exact h5,by rw[e1,h.heap _ y];exact h6,h7,by rw[e2];exact h8,by rw[e3];exact h9,by rw[e1,e2,e3,h.prot _ y];exact h10,?_⟩;intro i j s hi V;obtain⟨u,U,O⟩:=h11 i j s hi V;exact⟨u,U,h.cell J O⟩
theorem Ext.cptr(h:Ext d g g' w w'){cells:List S}{off:Nat}{x:D}{v:Value}(V:base<=w.heap.size)(hv:iV P w g base cells off x v):iV P w' g' base cells off x v:=by obtain⟨b,o,h1,M,U⟩:=hv;refine⟨b,o,h1,by rw[h.old];exact M,fun j s O=>?_⟩;obtain⟨u,y,J⟩:=U j s O;exact⟨u,(bg (h.heap b (dW y)) _).trans y,h.vd J⟩
theorem afs{t:Tok}{Y:Bool}{e:TypeId}{row:List S}{x:D}{v:Value}{prot:Nat->Nat}(V:br P e=some row)(hv:dX P w g base t Y e row x.rows v)
  (Z:∀b,g.prot b<=prot b) (hq:x.rows ≠ []->g.len t*g.wid t<=prot (g.ρ t)) (O:(bq t&&Y)=true->∀b,g.owner b=some (.inr t)->b≠g.ρ t->g.need b<=prot b):VD P w prot (.sl e) x v:=by
 rcases hv with⟨M,_,A,rfl⟩ | ⟨cap,arr,E,rfl,h2,h3,h4,h5,h6,h7,h8,h9,h10,h11⟩
 ·have:=VD.sl (P:=P) (w:=w) (prot:=prot) e x A 0 row (fun _ _=>undef) V (by rw[M];simp) (by omega) (by rw[M];intro i j hi;simp at hi) (by rw[M];intro i j s hi;simp at hi)
  rwa [M] at this
 ·refine VD.sl (P:=P) (w:=w) (prot:=prot) e x _ cap row (fun i j=>arr[i*row.length+j]?.getD undef) V h2 h3.1 ?_ ?_
  ·intro i j hi hj;obtain⟨u,J,y⟩:=h11 i j _ hi (g9 hj);refine⟨_,_,rfl,?_,?_⟩
   ·rw[J];simp only[World.cell?,h6,m0];exact J
   ·have W:=hq (by intro e;rw[e] at hi;simp at hi);rw[<- h8,<- h9] at W;have:i*row.length+row.length<=x.rows.length*row.length:=by rw[<- E3];exact z7 _ hi
    omega
  ·intro i j s hi hs;obtain⟨u,J,y⟩:=h11 i j s hi hs;simp only[J];change VD P w prot s _ u;unfold cL at y
   split at y
   ·rename_i U;exact TR.vd y fun b π n hl=>by rw[<- hl.2.2.2.2.1];exact O U b hl.2.1 hl.2.2.1
   ·exact y.mono fun b o u ho hc=>⟨hc,B0 ho (Z b)⟩
theorem py{t:Tok}{e:TypeId}{row:List S}{x:D}{v:Value}(J:br P e=some row)(hv:dX P w g base t false e row x.rows v):VD P w g.prot (.sl e) x v:=by
 refine afs J hv (fun _=>i8 _) (fun y=>?_) (fun h=>by simp at h);rcases hv with⟨M,_⟩ | ⟨cap,arr,E,rfl,h2,h3,h4,h5,h6,h7,h8,h9,h10,h11⟩
 ·exact absurd M y
 ·rw[h10];simp
theorem Ext.cap{y:Nat}(h:Ext (some y) g g' w w')(J:base<=w.heap.size){c:Cap}{x:D}{v:Value}(hc:∀off,c≠.ptr y off)(hv:Ks P w g base c x v):Ks P w' g' base c x v:=by
 cases c with
 | d s=>exact h.vd hv
 | ptr id off =>show v=_;rw[h.θ id (by intro e;injection e with e;exact hc off (by rw[e]))];exact hv
 | cptr cells off=>exact h.cptr J hv
theorem Ext.vc{y:Nat}(h:Ext (some y) g g' w w')(hb:base<=w.heap.size){c:Ce}{x:D}{v:Value}(hv:VC P w g base c x v):VC P w' g' base (fL y c) x v:=by
 cases c with
 | any=>trivial
 | d s=>exact h.vd hv
 | kb b=>exact hv
 | own t V e =>
  obtain⟨row,hr,hv⟩:=hv;change VC P w' g' base (bif t.1==y then (bif V then .any else .d (.sl e)) else .own t V e) x v;by_cases J:t.1=y
  ·rw[show (t.1==y)=true from by simpa using J,g6];cases V with
   | true=>trivial
   | false=>exact h.vd (py hr hv)
  ·rw[show (t.1==y)=false from by simpa using J,f9];exact⟨row,hr,h.own (by simpa using J) hv⟩
 | ptr id off =>
  change VC P w' g' base (bif id==y then .any else .ptr id off) x v;by_cases J:id=y
  ·rw[show (id==y)=true from by simpa using J];trivial
  ·rw[show (id==y)=false from by simpa using J,f9];show v=_;rw[h.θ id (by simpa using J)];exact hv
 | eptr t e off =>
  cases t with
  | none =>obtain⟨row,b,o,h1,M,O,W⟩:=hv;refine⟨row,b,o,h1,M,O,fun j s hs=>?_⟩;obtain⟨u,U,k2,k3⟩:=W j s hs;exact⟨u,(bg (h.heap b (dW U)) _).trans U,by rw[h.prot b (dW U)];exact k2,h.vd k3⟩
  | some t =>
   change VC P w' g' base (bif t.1==y then .any else .eptr (some t) e off) x v;by_cases J:t.1=y
   ·rw[show (t.1==y)=true from by simpa using J];trivial
   ·rw[show (t.1==y)=false from by simpa using J,f9];obtain⟨row,h1,M,O,u,W⟩:=hv;exact⟨row,h1,by rw[(h.ρ t (by simpa using J)).1];exact M,O,u,h.own (by simpa using J) W⟩
 | inn t e off ei =>
  change VC P w' g' base (bif t.1==y then .any else .inn t e off ei) x v;by_cases J:t.1=y
  ·rw[show (t.1==y)=true from by simpa using J];trivial
  ·rw[show (t.1==y)=false from by simpa using J,f9];exact oG hv (h.ρ t (by simpa using J)).1 (fun o _ ho=>(h.heap _ (aP ho)).trans ho) (fun Z=>h.own (by simpa using J) Z)
 | cptr cells off=>exact h.cptr hb hv
 | fn f caps =>
  change VC P w' g' base (bif caps.all (fun | .ptr id _=>id != y | _=>true) then .fn f caps else .any) x v;generalize hq:caps.all _=q;cases q with
  | false=>trivial
  | true =>obtain⟨a0,h1,M,O⟩:=hv;refine⟨a0,h1,M,fun j c hc=>?_⟩;obtain⟨u,Z,Y⟩:=O j c hc;refine⟨u,Z,h.cap hb (fun off e=>?_) Y⟩;have:=i9.1 hq c (A2 hc);rw[e] at this;simp at this
end
theorem Ext.low[Low]{P:Program}{w w':World}{g g':G}{base:Nat}{d:Option Nat}{σ:St}{a:Act}(h:Ext d g g' w w')(O:Rel P w g base σ a)(Y:∀n,1000000<=n->d≠some n):(g'.old=Low.old/\g'.θ 1000000=Low.box)/\(∀b,g'.old b->g'.owner b=none/\g'.prot b=Low.low b/\w'.heap[b]?=Low.heap b/\b<w'.heap.size)/\∀t x,Low.pin t=some x->t.1=1000001/\g'.ρ t=x.1/\g'.len t=x.2.1/\(0<x.2.2.1->g'.owner x.1=some (.inr t)/\∃y,w'.heap[x.1]?=some (.cells y x.2.2.2 (0,0))/\y.size=x.2.2.1):=by
 refine⟨⟨h.old.trans O.low.1.1,(h.θ 1000000 (Ne.symm (Y _ (i8 _)))).trans O.low.1.2⟩,fun b hb=>?_,fun t x hx=>?_⟩
 ·rw[h.old] at hb;obtain⟨M,V,W,J⟩:=O.low.2.1 b hb;exact⟨by rw[h.owner b J];exact M,by rw[h.prot b J];exact V,(h.heap b J).trans W,B0 J h.size⟩
 ·obtain⟨M,V,W,J⟩:=O.low.2.2 t x hx;obtain⟨q1,q2,_⟩:=h.ρ t (by rw[M];exact Ne.symm (Y _ (by omega)));refine⟨M,q1.trans V,q2.trans W,fun h0=>?_⟩;obtain⟨m1,y,Z,m3⟩:=J h0;have U:=aP Z;exact⟨(h.owner _ U).trans m1,y,(h.heap _ U).trans Z,m3⟩
theorem Ext.mine[Low]{P:Program}{w w':World}{g g':G}{base:Nat}{d:Option Nat}{σ:St}{a:Act}(h:Ext d g g' w w')(J:Rel P w g base σ a)(O:∀n,1000000<=n->d≠some n):∀b t,t.1=1000001->g'.owner b=some (.inr t)->Low.lab b t (g'.path b) (g'.need b):=by
 intro b t M y;rcases C4 b w.heap.size with hlt | hge
 ·rw[(h.lab b hlt).1,(h.lab b hlt).2];exact J.mine b t M ((h.owner b hlt).symm.trans y)
 ·rcases h.new b t hge y with h1 | h1
  ·exact absurd h1.symm (by rw[M];exact O _ (by omega))
  ·rw[(J.fresh b hge).2] at h1;cases h1
theorem Rel.ne[Low]{P:Program}{w:World}{g:G}{base:Nat}{σ:St}{a:Act}(y:Rel P w g base σ a){d:Nat}(h:d<a.tmps.size):∀n,1000000<=n->some d≠some n:=fun n J=>by have:=y.defers.2;simp only[ne_eq,b7];omega
theorem Rel.oldNe[Low]{P:Program}{w:World}{g:G}{base:Nat}{σ:St}{a:Act}(M:Rel P w g base σ a){b y:Nat}{x:Nat ⊕ Tok}(O:g.old b)(J:g.owner y=some x):b≠y:=by intro e;have:=(M.low.2.1 b O).1;rw[e,J] at this;cases this
theorem Rel.lowIn[Low]{P:Program}{w w':World}{g:G}{base:Nat}{σ:St}{a:Act}(U:Rel P w g base σ a)(hh:∀b,g.old b->w'.heap[b]?=w.heap[b]?)(hs:w.heap.size<=w'.heap.size)
  (hp:∀b t y e,t.1=1000001->g.owner b=some (.inr t)->b=g.ρ t->w.heap[b]?=some (.cells y e (0,0))->0<y.size->∃J,w'.heap[b]?=some (.cells J e (0,0))/\J.size=y.size) :
  (g.old=Low.old/\g.θ 1000000=Low.box)/\(∀b,g.old b->g.owner b=none/\g.prot b=Low.low b/\w'.heap[b]?=Low.heap b/\b<w'.heap.size)/\∀t x,Low.pin t=some x->t.1=1000001/\g.ρ t=x.1/\g.len t=x.2.1/\(0<x.2.2.1->g.owner x.1=some (.inr t)/\∃y,w'.heap[x.1]?=some (.cells y x.2.2.2 (0,0))/\y.size=x.2.2.1):=
 ⟨U.low.1,fun b Y=>by
  obtain⟨M,O,V,W⟩:=U.low.2.1 b Y;exact⟨M,O,(hh b Y).trans V,B0 W hs⟩,fun t x hx=>by
  obtain⟨M,O,V,W⟩:=U.low.2.2 t x hx;refine⟨M,O,V,fun h0=>?_⟩;obtain⟨Z,y,m2,m3⟩:=W h0;obtain⟨J,q1,q2⟩:=hp x.1 t y _ M Z O.symm m2 (by omega);exact⟨Z,J,q1,q2.trans m3⟩⟩
def jr(P:Program)(base:Nat)(g g':G)(w w':World)(f:Ce->Ce):Prop:=∀c x v,VC P w g base c x v->VC P w' g' base (f c) x v
section
variable [Low] {P:Program} {w w':World} {g g':G} {base:Nat} {f:Ce->Ce}
theorem jr.vcs(h:jr P base g g' w w' f){cs:List Ce}{p:b8}{y:Array Value}(hv:VCs P w g base cs p y):VCs P w' g' base (cs.map f) p y:=by
 refine⟨by rw[r9];exact hv.1,fun j c hc=>?_⟩;rw[w9] at hc;cases J:cs[j]? with
 | none=>rw[J] at hc;cases hc
 | some O =>
  rw[J] at hc;injection hc with hc
  obtain⟨u,U,M⟩:=hv.2 j O J;exact⟨u,U,hc▸h O _ _ M⟩
theorem jr.v1(h:jr P base g g' w w' f){s:Sh1}{p:b8}{v:Value}(hv:V1 P w g base s p v):V1 P w' g' base (s.map f) p v:=by
 cases s with
 | c x=>exact h x _ _ hv
 | agg xs=>obtain⟨y,h1,J⟩:=hv;exact⟨y,h1,h.vcs J⟩
theorem Sh1.size_map(f:Ce->Ce)(s:Sh1):(s.map f).size=s.size:=by cases s <;> simp[Sh1.map,Sh1.size]
theorem OU(f:Ce->Ce):∀(xs:List Sh1) (j:Nat),tg (xs.map (Sh1.map f)) j=tg xs j
 | [],j=>by simp[tg]
 | x::xs,0=>by simp[tg]
 | x::xs,j+1=>by have:=OU f xs j;simp only[tg,w8,F5,O1,Sh1.size_map] at this ⊢;rw[this]
theorem jr.vt(h:jr P base g g' w w' f){t:T}{v:Value}(hv:VT P w g base t v):VT P w' g' base ⟨t.sh.map f,t.p⟩ v:=by
 obtain⟨sh,p⟩:=t;cases sh with
 | one x=>exact h.v1 hv
 | tup xs =>
  obtain⟨V,h1,U,Y⟩:=hv;refine⟨V,h1,by rw[r9];exact U,fun j x y=>?_⟩;rw[w9] at y;cases J:xs[j]? with
  | none=>rw[J] at y;cases y
  | some O =>
   rw[J] at y;injection y with y
   obtain⟨u,W,M⟩:=Y j O J;refine⟨u,W,?_⟩;subst y;rw[OU,Sh1.size_map];exact h.v1 M
theorem OG(F:T->T)(y:F .any=.any):∀(e:Env) (i:Nat),dL i (e.map fun p=>(p.1,F p.2))=F (dL i e)
 | [],i=>by simp[dL,y]
 | (j,v)::e,i=>by simp only[w8,dL];rw[OG F y e i];cases i==j <;> rfl
theorem tR(F:T->T)(y:F .any=.any)(e:Env)(i:Nat):∀(r:Env),cz i (e.map fun p=>(p.1,F p.2)) (r.map fun p=>(p.1,F p.2))=F (cz i e r)
 | []=>OG F y e i
 | (j,v)::r=>by simp only[w8,cz];rw[tR F y e i r];cases i==j <;> rfl
theorem zP(F:List Ce->List Ce):∀(h:ul) (i:Nat),bS i (h.map fun p=>(p.1,F p.2.1,p.2.2))=(bS i h).map fun q=>(F q.1,q.2)
 | [],i=>by simp[bS]
 | (j,v)::e,i=>by simp only[w8,bS];rw[zP F e i];cases i==j <;> rfl
theorem Rel.envMap{σ:St}{a:Act}(J:Rel P w g base σ a)(h:jr P base g g' w w' f)(y:f .any=.any)(i:Nat) :
  VT P w' g' base (cz i (σ.map f).e (σ.map f).r) (a.tmps.getD i undef):=by
 have e:=tR (fun t=>(⟨t.sh.map f,t.p⟩:T)) (by simp[Sh.map,Sh1.map,y]) σ.e i σ.r;show VT P w' g' base (cz i (σ.e.map _) (σ.r.map _)) _;rw[e];exact h.vt (J.env i)
theorem Rel.boxMap{σ:St}{a:Act}(Z:Rel P w g base σ a)(h:jr P base g g' w w' f){id:Nat}{cs:List Ce}{ds:b8}(hl:bS id (σ.map f).h=some (cs,ds))
  (O:∀cs ds,bS id σ.h=some (cs,ds)->g'.θ id=g.θ id/\g'.owner (g.θ id)=g.owner (g.θ id)/\g'.prot (g.θ id)=g.prot (g.θ id)/\w'.heap[g.θ id]?=w.heap[g.θ id]?):afi P w' g' base id cs ds:=by
 have e:=zP (List.map f) σ.h id;change bS id (σ.map f).h=_ at e;rw[hl] at e;cases J:bS id σ.h with
 | none=>rw[J] at e;cases e
 | some q =>obtain⟨M,a0⟩:=q;rw[J] at e;injection e with e;injection e with e1 e2;subst e1;subst e2;obtain⟨V,k2,k3,kl,U,E,k4,k5⟩:=Z.box id M ds J;obtain⟨y,W,Y,t4⟩:=O M ds J;exact⟨by rw[y];exact V,by rw[y,W];exact k2,by rw[y,Y];exact k3,by rw[r9];exact kl,U,E,by rw[y,t4];exact k4,h.vcs k5⟩
end
open Go.RowKit (Below)
theorem qT(b o m:Nat):(⟨b,o,none⟩:Addr).add m=⟨b,o+m,none⟩:=by
 unfold Addr.add
 split
 ·rename_i h;subst h;rfl
 ·rfl
section
variable [Low] {P:Program}
theorem fH{t n:Nat}(h:fp P t=some n)(w:World):(sizeOf t).run P w=.ok n w:=by
 unfold fp at h;cases hi:P.info? t with
 | none=>rw[hi] at h;cases h
 | some i=>rw[hi] at h;injection h with h;simp[sizeOf,typeInfo,program,hi,h,Sem.run]
theorem Fg{t:Nat}{b:Bool}(h:HS P t=some b)(w:World):(isAgg t).run P w=.ok b w:=by
 unfold HS at h;cases y:P.underlying t with
 | none=>rw[y] at h;cases h
 | some d =>rw[y] at h;simp only[isAgg,l8,run_underlying y,i5];cases d <;> simp_all
theorem iM{t e:Nat}(h:mg P t=some e):P.underlying t=some (.slice e):=by
 unfold mg at h
 split at h
 ·rename_i y;injection h with h;subst h;exact y
 ·cases h
theorem iz{t:Nat}{row:List S}(h:br P t=some row):fp P t=some row.length:=by
 unfold br at h
 split at h
 ·rename_i r y;cases hc:(fp P t==some r.length && !r.isEmpty&&Nat.blt r.length kt) with
  | true =>
   rw[hc,g6] at h;injection h with h;subst h
   simp only[a9] at hc;simpa using hc.1.1
  | false=>rw[hc,f9] at h;cases h
 ·cases h
theorem mZ{t:Nat}{row:List S}(h:br P t=some row):0<row.length:=by
 unfold br at h
 split at h
 ·rename_i r J;cases hc:(fp P t==some r.length && !r.isEmpty&&Nat.blt r.length kt) with
  | true =>
   rw[hc,g6] at h;injection h with h;subst h
   simp only[a9] at hc;have:=hc.1.2;cases r with
   | nil=>simp at this
   | cons x y=>simp
  | false=>rw[hc,f9] at h;cases h
 ·cases h
theorem agk{t:Nat}{row:List S}(h:br P t=some row):row.length<kt:=by
 unfold br at h
 split at h
 ·rename_i r y;cases hc:(fp P t==some r.length && !r.isEmpty&&Nat.blt r.length kt) with
  | true =>
   rw[hc,g6] at h;injection h with h;subst h
   simp only[a9] at hc;exact y9 hc.2
  | false=>rw[hc,f9] at h;cases h
 ·cases h
variable {w:World} {g:G} {base n:Nat} {σ:St} {a:Act}
theorem alP(v:Value):VT P w g base (ofV v) v:=by
 cases v with
 | int k n=>exact VD.int k (.i n)
 | bool b=>exact rfl
 | string s =>have h:=VD.str (P:=P) (w:=w) (prot:=g.prot) (.s (qk s));simp only[D.str,uK] at h;exact h
 | tuple xs =>
  show VT P w g base (bif xs.isEmpty then .none_ else .any) (.tuple xs);cases y:xs.isEmpty with
  | true =>
   have:xs = #[]:=by simpa using y
   subst this;exact⟨#[],rfl,rfl,fun j x h=>by simp at h⟩
  | false=>trivial
 | _=>trivial
theorem dO(y:Rel P w g base σ a)(x:Operand):VT P w g base (opd σ x) (a.eval x):=by
 cases x with
 | tmp i=>exact y.env i
 | const v=>exact alP v
 | global i=>trivial
 | func f=>exact⟨#[],rfl,rfl,fun j c h=>by simp at h⟩
theorem aiL{prot:Nat->Nat}{e:TypeId}{row:List S}(y:br P e=some row):VD P w prot (.sl e) (.l []) (.slice none 0 0):=
 VD.sl (P:=P) (w:=w) (prot:=prot) e (.l []) none 0 row (fun _ _=>undef) y (i8 _) (by omega) (by intro i j hi;simp[D.rows] at hi) (by intro i j s hi;simp[D.rows] at hi)
theorem abm(M:Rel P w g base σ a)(t:TypeId)(x:Operand):VT P w g base (ahm P σ t x) (a.eval x):=by
 unfold ahm
 split
 ·rename_i v y;unfold ajM at y
  split at y
  ·rename_i V U
   split at y
   ·rename_i e O;cases J:br P e with
    | none=>rw[J] at y;cases y
    | some row =>
     rw[J] at y;injection y with y
     subst y;exact aiL J
   ·cases y
  ·cases y
 ·exact dO M x
theorem sg{v:T}{s:S}{d:D}{u:Value}(h:v.sc=some (s,d))(hv:VT P w g base v u):VD P w g.prot s d u:=by
 obtain⟨sh,p⟩:=v;cases sh with
 | tup xs=>cases h
 | one x=>cases x with
  | agg xs=>cases h
  | c x=>cases x with
   | d s' =>simp only[T.sc,b7,j8] at h;obtain⟨rfl,rfl⟩:=h;exact hv
   | kb b =>simp only[T.sc,b7,j8] at h;obtain⟨rfl,rfl⟩:=h;have:u=.bool b:=hv;subst this;exact VD.bool (.b b)
   | _=>cases h
theorem OS{v:T}{i:Int}{u:Value}(h:v.intOf=some i)(hv:VT P w g base v u):∃k,u=.int k i:=by
 unfold T.intOf at h
 split at h
 ·rename_i k d e;injection h with h;subst h
  have:=sg e hv;cases this;exact⟨k,rfl⟩
 ·cases h
theorem rA(k:IntKind)(n:Int):VT P w g base (.c (.d (.int k)) (.i n)) (.int k n):=VD.int k (.i n)
theorem NL(b:Bool):VT P w g base (.c (.d .bool) (.b b)) (.bool b):=VD.bool (.b b)
theorem ahy{op:BinOp}{k:IntKind}{x y:Int}{r:T}(h:XZ op k x y=some (r,true))(t:TypeId)(X Y:Operand) :
  ∃u,(∀w':World,True->(do eqGuard op t X Y (.int k x) (.int k y);binOp op t (.int k x) (.int k y):Sem Value).run P w'=.ok u w')/\VT P w g base r u:=by
 have M:∀w,(eqGuard op t X Y (.int k x) (.int k y)).run P w=.ok () w:=by intro w;unfold eqGuard;cases op <;> simp[Sem.run]
 cases op <;> simp only[XZ,b7,j8,E2,reduceCtorEq] at h
 all_goals simp only[l8,M,i5]
 case add=>subst h;exact⟨_,by intro w' _;simp[binOp,Op.intArith],rA _ _⟩
 case sub=>subst h;exact⟨_,by intro w' _;simp[binOp,Op.intArith],rA _ _⟩
 case mul=>subst h;exact⟨_,by intro w' _;simp[binOp,Op.intArith],rA _ _⟩
 case quo =>
  obtain⟨h,J⟩:=h;subst h;have J:y≠0:=by simpa using J
  exact⟨_,by intro w' _;simp[binOp,Op.intDiv,J],rA _ _⟩
 case rem =>
  obtain⟨h,J⟩:=h;subst h;have J:y≠0:=by simpa using J
  exact⟨_,by intro w' _;simp[binOp,Op.intDiv,J],rA _ _⟩
 case and=>subst h;exact⟨_,by intro w' _;simp[binOp,Op.intBits];rfl,rA _ _⟩
 case xor=>subst h;exact⟨_,by intro w' _;simp[binOp,Op.intBits];rfl,rA _ _⟩
 case shr =>
  obtain⟨h,J⟩:=h;subst h;have J:¬y<0:=by
   have:0<=y:=by simpa using J
   omega
  exact⟨_,by intro w' _;simp[binOp,Op.shift,J],rA _ _⟩
 all_goals (subst h;exact⟨_,by intro w' _;simp[binOp,Op.intCmp],NL _⟩)
theorem uf(l:List UInt8):(bsv l).size=l.length:=by simp[bsv,ByteArray.size]
theorem uZ(l:List UInt8):(bsv l).toList=l:=by rw[ByteArray.toList_eq];simp[bsv]
theorem ajN(a b:List UInt8):bsv a++bsv b=bsv (a++b):=by unfold bsv;rw[ByteArray.ext_iff];simp
theorem YQ(l:List UInt8)(i j:Nat):(bsv l).extract i j=bsv ((l.take j).drop i):=by unfold bsv;rw[ByteArray.ext_iff];simp[List.extract_eq_take_drop,List.drop_take]
theorem akB(l:List UInt8)(i:Nat):(bsv l)[i]?=l[i]?:=by
 by_cases h:i<l.length
 ·rw[g9 h,getElem?_pos (bsv l) i (by rw[uf];exact h)];rfl
 ·rw[H2 (by omega),getElem?_neg (bsv l) i (by rw[uf];exact h)]
theorem Np{t:TypeId}(J:P.underlying t=some .bool)(x y:Bool)(w:World):(Op.equal t (.bool x) (.bool y)).run P w=.ok (x==y) w:=by
 have h:∀n,(Op.equalIn (n+1) t (.bool x) (.bool y)).run P w=.ok (x==y) w:=by intro n;unfold Op.equalIn;simp only[l8,run_underlying J,i5];rfl
 exact h 9999
theorem ZX{t:TypeId}(h:Ge P t=true):P.underlying t=some .bool:=by
 unfold Ge at h
 split at h
 ·assumption
 ·cases h
theorem aho{op:BinOp}{x y r:T}{u v:Value}(t:TypeId)(h:afq (Ge P t) op x y=some (r,true))(X Y:Operand)(hx:VT P w g base x u)(hy:VT P w g base y v) :
  ∃z,(∀w':World,True->(do eqGuard op t X Y u v;binOp op t u v:Sem Value).run P w'=.ok z w')/\VT P w g base r z:=by
 unfold afq at h;cases ex:x.sc with
 | none=>rw[ex] at h;cases h
 | some q =>
  obtain⟨s1,O⟩:=q;cases ey:y.sc with
  | none=>rw[ex,ey] at h;cases s1 <;> cases h
  | some q =>
   obtain⟨s2,J⟩:=q;rw[ex,ey] at h;have h1:=sg ex hx;have V:=sg ey hy;cases s1 <;> cases s2 <;> try (cases h;done)
   ·rename_i k Z;cases hk:(k==Z) with
    | false =>
     simp only[hk,f9] at h;unfold akN at h;cases op <;> first | (cases h;done) | skip
     simp only[XZ,b7,j8] at h;obtain⟨rfl,U⟩:=h;have U:¬J.int<0:=by
      have:0<=J.int:=by simpa using U
      omega
     cases h1;cases V;have M:∀w,(eqGuard .shr t X Y (.int k O.int) (.int Z J.int)).run P w=.ok () w:=by intro w;unfold eqGuard;simp[Sem.run]
     exact⟨_,by intro w' _;simp only[l8,M,i5];simp[binOp,Op.shift,U],rA _ _⟩
    | true =>
     simp only[hk,g6] at h;have:k=Z:=by simpa using hk
     subst this;cases h1;cases V;exact ahy h t X Y
   ·cases h1;cases V;have M:∀w,(eqGuard op t X Y (.bool O.bool) (.bool J.bool)).run P w=.ok () w:=by intro w;unfold eqGuard;cases op <;> simp[Sem.run]
    cases W:Ge P t with
    | false=>simp only[W,f9,reduceCtorEq] at h
    | true =>
    simp only[W,g6] at h;have hu:=ZX W;cases op <;> simp only[reduceCtorEq,b7,j8,E2] at h
    all_goals
     subst h;refine⟨_,?_,NL _⟩;intro w' _;simp only[l8,M,i5,binOp,Np hu,m9]
   ·cases h1;cases V;have M:∀w,(eqGuard op t X Y (.string (bsv O.str)) (.string (bsv J.str))).run P w=.ok () w:=by intro w;unfold eqGuard;cases op <;> simp[Sem.run]
    cases op <;> simp only[reduceCtorEq,b7,j8,E2] at h
    ·obtain⟨h,hl⟩:=h;subst h;have hl:O.str.length+J.str.length<1099511627776:=by simpa using hl
     refine⟨.string (bsv (O.str++J.str)),?_,VD.str (.s (O.str++J.str))⟩;intro w' _;simp only[l8,M,i5,binOp,Op.stringOp,uf,ajN];rw[j7 (by simp[IntKind.max,IntKind.signed,IntKind.bits];omega)];rfl
    ·subst h;refine⟨_,?_,NL _⟩;intro w' _;simp[l8,M,binOp,Op.stringOp,uZ]
    ·subst h;refine⟨_,?_,NL _⟩;intro w' _;simp[l8,M,binOp,Op.stringOp,uZ]
theorem NI{d:Nat}{cells:List S}:∀ {O:List Field} {i:Nat} {M:List S},UT P O i M=true->∀ {p q:b8} {xs ys:Array Value},(∀j s,M[j]?=some s->∃u v,xs[i+j]?=some u/\ys[i+j]?=some v/\VD P w g.prot s (gd p j) u/\VD P w g.prot s (gd q j) v) ->
  ∀w',(Op.eqFields (d+1) xs ys O).run P w'=.ok (eH M p q) w'
 | [],i,[],_,p,q,xs,ys,_,w'=>rfl
 | [],i,s::M,h,_,_,_,_,_,_=>by cases h
 | f::O,i,[],h,_,_,_,_,_,_=>by cases h
 | f::O,i,s::M,h,p,q,xs,ys,hv,w'=>by
  unfold UT at h;simp only[a9,u7,I8] at h;obtain⟨⟨⟨⟨h1,h2⟩,h3⟩,y⟩,h5⟩:=h;obtain⟨u,v,k1,k2,V,Z⟩:=hv 0 s rfl;rw[F8] at k1 k2;have Y:=NI (d:=d) (cells:=cells) h5 (p:=p.tail) (q:=q.tail) (xs:=xs) (ys:=ys) (fun j s' hj=>by obtain⟨u',v',q1,q2,q3,q4⟩:=hv (j+1) s' (by simpa using hj);exact⟨u',v',by rw[show i+1+j=i+(j+1) from by omega];exact q1,by rw[show i+1+j=i+(j+1) from by omega];exact q2,by rw[fq];exact q3,by rw[fq];exact q4⟩) w';have hp:∀(U:Array Value) z,U[i]?=some z->∀w,(part f.type U f.offset).run P w=.ok z w:=fun U z hz w=>by unfold part;simp only[l8,Fg h3,i5,h1];simp[hz]
  unfold Op.eqFields;rw[m6 h2];simp only[l8,hp xs u k1,hp ys v k2,i5];cases s with
  | sl e=>simp only[wt] at y;split at y <;> simp_all
  | opq=>simp only[wt] at y;split at y <;> simp_all
  | int k =>
   have J:∃W,P.underlying f.type=some (.int W):=by unfold wt at y;split at y <;> simp_all
   obtain⟨W,J⟩:=J;cases V;cases Z;rw[run_equalIn_int w' d f.type k W _ _ J];simp only[i5,eH];cases (gd p 0).int==(gd q 0).int
   ·rfl
   ·exact Y
  | bool =>
   have J:P.underlying f.type=some .bool:=by unfold wt at y;split at y <;> simp_all
   cases V;cases Z;rw[run_equalIn_bool' w' d f.type _ _ J];simp only[i5,eH];cases (gd p 0).bool==(gd q 0).bool
   ·rfl
   ·exact Y
  | str =>
   have J:P.underlying f.type=some .string:=by unfold wt at y;split at y <;> simp_all
   cases V;cases Z;rw[run_equalIn_string w' d f.type _ _ J];simp only[i5,eH,uZ];cases (gd p 0).str==(gd q 0).str
   ·rfl
   ·exact Y
theorem IZ:∀(y:List S) (n:Nat) (p q:b8),eH y p q=(eH (y.take n) p q&&eH (y.drop n) (p.drop n) (q.drop n))
 | y,0,p,q=>by simp[eH]
 | [],n+1,p,q=>by simp[eH]
 | s::y,n+1,p,q=>by have J:=IZ y n p.tail q.tail;rw[List.drop_tail,List.drop_tail] at J;cases s <;> simp only[eH,F5,K8,A9] <;> rw[J,Bool.and_assoc]
theorem Lu(p:b8)(n j:Nat):gd (p.drop n) j=gd p (n+j):=by unfold gd;rw[g4,g4,A6]
theorem yP{d:Nat}:∀ {fs:List Field} {i:Nat} {O:List S},zU P fs i O=true->∀ {p q:b8} {xs ys:Array Value},(∀j s,O[j]?=some s->∃u v,xs[i+j]?=some u/\ys[i+j]?=some v/\VD P w g.prot s (gd p j) u/\VD P w g.prot s (gd q j) v) ->
  ∀w',(Op.eqFields (d+2) xs ys fs).run P w'=.ok (eH O p q) w'
 | [],i,[],_,p,q,xs,ys,_,w'=>rfl
 | [],i,s::O,h,_,_,_,_,_,_=>by cases h
 | f::fs,i,[],h,_,_,_,_,_,_=>by cases h
 | f::fs,i,s::O,h,p,q,xs,ys,hv,w'=>by
  unfold zU at h;cases hA:(HS P f.type==some false) with
  | true =>
   rw[hA,g6] at h;simp only[a9,u7,I8] at h;obtain⟨⟨⟨h1,h2⟩,y⟩,h5⟩:=h;have h3:HS P f.type=some false:=by simpa using hA
   have ih:=yP (d:=d) h5 (p:=p.tail) (q:=q.tail) (xs:=xs) (ys:=ys) (fun j s' M=>by obtain⟨u',Y,V,W,Z,q4⟩:=hv (j+1) s' (by simpa using M);exact⟨u',Y,by rw[show i+1+j=i+(j+1) from by omega];exact V,by rw[show i+1+j=i+(j+1) from by omega];exact W,by rw[fq];exact Z,by rw[fq];exact q4⟩) w';obtain⟨u,v,k1,k2,k3,k4⟩:=hv 0 s rfl;rw[F8] at k1 k2;have hp:∀(U:Array Value) z,U[i]?=some z->∀w,(part f.type U f.offset).run P w=.ok z w:=fun U z hz w=>by unfold part;simp only[l8,Fg h3,i5,h1];simp[hz]
   unfold Op.eqFields;rw[m6 h2];simp only[l8,hp xs u k1,hp ys v k2,i5];cases s with
   | sl e=>simp only[wt] at y;split at y <;> simp_all
   | opq=>simp only[wt] at y;split at y <;> simp_all
   | int k =>
    have J:∃k',P.underlying f.type=some (.int k'):=by unfold wt at y;split at y <;> simp_all
    obtain⟨k',J⟩:=J;cases k3;cases k4;rw[run_equalIn_int w' (d+1) f.type k k' _ _ J];simp only[i5,eH];cases (gd p 0).int==(gd q 0).int
    ·rfl
    ·exact ih
   | bool =>
    have J:P.underlying f.type=some .bool:=by unfold wt at y;split at y <;> simp_all
    cases k3;cases k4;rw[run_equalIn_bool' w' (d+1) f.type _ _ J];simp only[i5,eH];cases (gd p 0).bool==(gd q 0).bool
    ·rfl
    ·exact ih
   | str =>
    have J:P.underlying f.type=some .string:=by unfold wt at y;split at y <;> simp_all
    cases k3;cases k4;rw[run_equalIn_string w' (d+1) f.type _ _ J];simp only[i5,eH,uZ];cases (gd p 0).str==(gd q 0).str
    ·rfl
    ·exact ih
  | false =>
   rw[hA,f9] at h
   split at h
   ·rename_i gs n J hn;simp only[a9,u7,I8,o8] at h;obtain⟨⟨⟨⟨⟨⟨h1,h2⟩,h3⟩,a4⟩,hf⟩,a1⟩,h5⟩:=h;have a1:=y9 a1;have ih:=yP (d:=d) h5 (p:=p.drop n) (q:=q.drop n) (xs:=xs) (ys:=ys) (fun j s' M=>by obtain⟨u',Y,V,W,Z,q4⟩:=hv (n+j) s' (by rw[A6] at M;exact M);exact⟨u',Y,by rw[show i+n+j=i+(n+j) from by omega];exact V,by rw[show i+n+j=i+(n+j) from by omega];exact W,by rw[Lu];exact Z,by rw[Lu];exact q4⟩) w';have a0:P.fieldsOf f.type=gs:=by unfold Program.fieldsOf;rw[J]
    have a2:=NI (d:=d) (P:=P) (w:=w) (g:=g) (cells:= []) hf (p:=p) (q:=q) (xs:=xs.extract i (i+n)) (ys:=ys.extract i (i+n)) (fun j s' M=>by
     rw[u9] at M
     split at M
     ·rename_i a5;obtain⟨u',Y,V,W,Z,q4⟩:=hv j s' M;have hx:=(v8.1 V).1;have hy:=(v8.1 W).1;refine⟨u',Y,?_,?_,Z,q4⟩
      ·rw[m0,L7,m6 (by omega)];exact V
      ·rw[m0,L7,m6 (by omega)];exact W
     ·cases M)
    have hp:∀(U:Array Value) w,(part f.type U f.offset).run P w=.ok (.agg (U.extract i (i+n))) w:=fun U w=>by unfold part;simp only[l8,Fg h3,i5,fH hn,m9,h1];simp[fH hn,l8]
    have a3:∀w',(Op.equalIn (d+2) f.type (.agg (xs.extract i (i+n))) (.agg (ys.extract i (i+n)))).run P w'=.ok (eH ((s::O).take n) p q) w':=fun w'=>by rw[run_equalIn_struct w' (d+1) f.type _ _ (by rw[a0];exact J) a4,a0];exact a2 w'
    rw[IZ (s::O) n p q];unfold Op.eqFields;rw[m6 h2];simp only[l8,hp,i5,a3];cases eH ((s::O).take n) p q
    ·rfl
    ·exact ih
   ·cases h
theorem ahR{op:BinOp}{x y r:T}{u v:Value}(t:TypeId)(h:aih P op t x y=some (r,true))(X Y:Operand)(hx:VT P w g base x u)(hy:VT P w g base y v) :
  ∃z,(∀w':World,True->(do eqGuard op t X Y u v;binOp op t u v:Sem Value).run P w'=.ok z w')/\VT P w g base r z:=by
 unfold aih at h
 split at h
 ·rename_i cs a6 Z a0
  split at h
  ·rename_i J fs b4 hu;cases O:(cs==J.map .d&&a6==J.map .d&&zU P fs.toList 0 J && !P.stoodInHeld t && !P.eqGuardType P.depth t) with
   | false=>rw[O] at h;cases h
   | true =>
    rw[O,g6] at h;simp only[a9,u7,o8] at O;obtain⟨⟨⟨⟨rfl,rfl⟩,hf⟩,a3⟩,hg⟩:=O;obtain⟨a7,p⟩:=x;obtain⟨b3,q⟩:=y;simp only at Z a0;subst Z;subst a0;obtain⟨xs,rfl,a8,a5⟩:=hx;obtain⟨ys,rfl,b0,a4⟩:=hy;have W:P.fieldsOf t=fs:=by unfold Program.fieldsOf;rw[hu]
    have M:∀j s,J[j]?=some s->∃u v,xs[0+j]?=some u/\ys[0+j]?=some v/\VD P w g.prot s (gd p j) u/\VD P w g.prot s (gd q j) v:=fun j s hj=>by obtain⟨u,a1,a2⟩:=a5 j (.d s) (by rw[w9,hj];rfl);obtain⟨v,b1,b2⟩:=a4 j (.d s) (by rw[w9,hj];rfl);rw[m0];exact⟨u,v,a1,b1,a2,b2⟩
    have V:∀w',(Op.equalIn 10000 t (.agg xs) (.agg ys)).run P w'=.ok (eH J p q) w':=fun w'=>by rw[run_equalIn_struct w' 9999 t xs ys (by rw[W];exact hu) a3,W];exact yP (d:=9997) hf M w'
    have U:∀w',(eqGuard op t X Y (.agg xs) (.agg ys)).run P w'=.ok () w':=fun w'=>run_eqGuard_agg w' op t X Y xs ys hg
    cases op <;> simp only[b7,j8,E2,reduceCtorEq] at h
    ·subst h;exact⟨_,fun w' _=>by simp only[l8,U,i5,run_eql_struct,V],NL _⟩
    ·subst h;exact⟨_,fun w' _=>by simp only[l8,U,i5,run_neq_struct,V],NL _⟩
  ·cases h
 ·cases h
theorem ajw{op:UnOp}{x r:T}{u:Value}(h:ajX op x=some r)(y:VT P w g base x u):∃z,(∀w':World,True->(Op.unary op u).run P w'=.ok z w')/\VT P w g base r z:=by
 unfold ajX at h;cases ex:x.sc with
 | none=>rw[ex] at h;cases op <;> cases h
 | some q =>
  obtain⟨s,d⟩:=q;rw[ex] at h;have hv:=sg ex y;cases op <;> cases s <;> simp only[reduceCtorEq,b7] at h
  ·subst h;cases hv;exact⟨_,by intro w' _;simp[Op.unary,Op.intArith],rA _ _⟩
  ·subst h;cases hv;exact⟨_,by intro w' _;simp[Op.unary],NL _⟩
theorem Mu{x:T}{t:Option Tok}{e:TypeId}{rows:List b8}{u:Value}(h:x.slice=some (t,e,rows))(V:VT P w g base x u) :
  ∃A c,u=.slice A rows.length c/\rows.length<=c/\c<=9223372036854775807/\∃row,br P e=some row /\
   match t with
   | none=>∀i j s,i<rows.length->row[j]?=some s->∃b o v,A=some ⟨b,o,none⟩/\w.cell? ⟨b,o+(i*row.length+j),none⟩=some v/\o+(i*row.length+j)<g.prot b/\VD P w g.prot s (gd (rows.getD i []) j) v
   | some t=>dX P w g base t true e row rows u:=by
 obtain⟨sh,p⟩:=x;cases sh with
 | tup xs=>cases h
 | one x=>cases x with
  | agg xs=>cases h
  | c x=>cases x with
   | d s=>cases s with
    | sl U =>
     simp only[T.slice,b7,j8] at h;obtain⟨rfl,rfl,rfl⟩:=h;have V:VD P w g.prot (.sl U) (gd p 0) u:=V;cases V with
     | sl _ _ A c row u M h1 y J h4 =>refine⟨A,c,rfl,h1,y,row,M,fun i j s hi O=>?_⟩;have hj:=(g7.1 O).1;obtain⟨b,o,W,k2,Z⟩:=J i j hi hj;exact⟨b,o,_,W,k2,Z,h4 i j s hi O⟩
    | _=>cases h
   | own t' xm U =>
    simp only[T.slice,b7,j8] at h;obtain⟨rfl,rfl,rfl⟩:=h;obtain⟨row,M,hv⟩:∃row,br P U=some row/\dX P w g base t' xm U row (gd p 0).rows u:=V;cases xm with
    | true =>
     rcases hv with⟨Y,a1,A,rfl⟩ | ⟨cap,arr,E,rfl,y,J,rest⟩
     ·exact⟨A,0,by rw[Y];rfl,by rw[Y];simp,by omega,row,M,.inl ⟨Y,a1,A,rfl⟩⟩
     ·exact⟨_,cap,rfl,y,J.1,row,M,.inr ⟨cap,arr,E,rfl,y,J,rest⟩⟩
    | false =>
     have a3:=py M hv;generalize hd:gd p 0=d at *;cases a3 with
     | sl _ _ A c a0 u a2 h1 y J h4 =>refine⟨A,c,rfl,h1,y,a0,a2,fun i j s hi O=>?_⟩;have hj:=(g7.1 O).1;obtain⟨b,o,W,k2,Z⟩:=J i j hi hj;exact⟨b,o,_,W,k2,Z,h4 i j s hi O⟩
   | _=>cases h
theorem Nn{n:Int}{len:Nat}(h:ah n len=true):0<=n/\n<len/\n.toNat<len:=by unfold ah at h;simp only[a9,g5] at h;omega
theorem Oz{t e:TypeId}{x i r:T}{u v:Value}(ht:mg P t=some e)(h:xM e x i=some (r,true))(hx:VT P w g base x u)(hi:VT P w g base i v) :
  ∃z,(∀w':World,True->(Instr.indexAt t u v).run P w'=.ok z w')/\VT P w g base r z:=by
 unfold xM at h;cases W:i.intOf with
 | none=>rw[W] at h;cases h
 | some n =>
  cases Z:x.slice with
  | none=>rw[W,Z] at h;cases h
  | some q =>
   obtain⟨V,e',rows⟩:=q;rw[W,Z] at h;simp only at h;cases U:(e==e') with
   | false=>rw[U] at h;cases h
   | true =>
    rw[U] at h;have U:e=e':=by simpa using U
    subst U;simp only[g6,b7,j8] at h;obtain⟨rfl,hin⟩:=h;obtain⟨h0,h1,J⟩:=Nn hin;obtain⟨k,rfl⟩:=OS W hi;obtain⟨A,c,rfl,a4,a3,row,Y,hv⟩:=Mu Z hx;have a1:=iz Y;have O:∀b o,A=some ⟨b,o,none⟩->∀w':World,True->(Instr.indexAt t (.slice A rows.length c) (.int k n)).run P w'=.ok (.pointer (some ⟨b,o+n.toNat*row.length,none⟩)) w':=by intro b o M w' _;subst M;unfold Instr.indexAt;simp only[asIntOf,l8,m9,i5,run_underlying (iM ht)];rw[m6 ⟨h0,h1⟩];simp only[l8,fH a1,i5,m9,qT]
    cases V with
    | none =>
     have a0:0<row.length:=by
      rcases E0 row.length with h | h
      ·exfalso
       have:=mZ Y;omega
      ·exact h
     obtain⟨b,o,v0,M,_⟩:=hv n.toNat 0 _ J (g9 a0);refine⟨_,O b o M,row,b,o,Y,rfl,J,fun j s hs=>?_⟩;obtain⟨b',o',v',y,k1,k2,k3⟩:=hv n.toNat j s J hs;rw[M] at y;injection y with y;injection y with e1 e2 _;subst e1;subst e2;exact⟨v',k1,k2,k3⟩
    | some V =>
     have a2:=hv;rcases hv with⟨hn,_⟩ | ⟨cap,arr,E,hs,rest⟩
     ·rw[hn] at J;simp at J
     ·injection hs with M _ _
      refine⟨_,O _ _ M,row,Y,?_,J,_,a2⟩;show Value.pointer (some ⟨g.ρ V,0+n.toNat*row.length,none⟩)=Value.pointer (some ⟨g.ρ V,n.toNat*row.length+0,none⟩);rw[m0,F8]
theorem Ha{t:TypeId}(h:xC P t=true):P.underlying t=some .string:=by
 unfold xC at h
 split at h
 ·assumption
 ·cases h
theorem ahw{J:TypeId}{x r:T}{u:Value}(h:abQ P J x=some r)(M:VT P w g base x u)(U:TypeId) :
  ∃z,(∀w':World,True->(Builtin.len_ #[J] U #[u]).run P w'=.ok z w')/\VT P w g base r z:=by
 unfold abQ at h
 split at h
 ·rename_i d ex;cases y:xC P J with
  | false=>rw[y] at h;cases h
  | true =>rw[y] at h;simp only[g6,b7] at h;subst h;have hv:=sg ex M;cases hv;refine⟨.int .i64 d.str.length,?_,rA _ _⟩;intro w' _;simp[Builtin.len_,run_underlying (Ha y),uf,goInt]
 ·split at h
  ·rename_i t e rows O;cases y:(mg P J).isSome with
   | false=>rw[y] at h;cases h
   | true =>rw[y] at h;simp only[g6,b7] at h;subst h;obtain⟨A,c,rfl,_⟩:=Mu O M;obtain⟨W,V⟩:=C8.1 y;refine⟨.int .i64 rows.length,?_,rA _ _⟩;intro w' _;simp[Builtin.len_,run_underlying (iM V),goInt]
  ·cases h
def LN(P:Program)(w:World)(g:G)(base:Nat)(cs:List Ce)(ds:b8)(b o:Nat):Prop:=
 ∀(j:Nat) c,cs[j]?=some c->∃u,w.cell? ⟨b,o+j,none⟩=some u/\VC P w g base c (gd ds j) u
theorem At{b o:Nat}:∀(n i:Nat) (us y:Array Value),us.size=i+n->y.size=i->(∀j,i<=j->j<i+n->w.cell? ⟨b,o+j,none⟩=us[j]?)->(∀j,j<i->y[j]?=us[j]?) ->
  (loadCellsFrom ⟨b,o,none⟩ i n y).run P w=.ok us w
 | 0,i,us,y,h1,h2,_,h4=>by
  simp only[loadCellsFrom,m9]
  congr 1
  refine Array.ext (by omega) fun j J M=>?_
  have:=h4 j (by omega);rw[n8 J,n8 M] at this;injection this
 | n+1,i,us,y,h1,h2,h3,h4=>by
  have hc:=h3 i (i8 _) (by omega);have O:us[i]?=some (us[i]'(by omega)):=n8 (by omega);rw[O] at hc;simp only[loadCellsFrom,qT,load,l8,Sem.run,hc,i5];refine At n (i+1) us _ (by omega) (by simp[h2]) (fun j J M=>h3 j (by omega) (by omega)) fun j U=>?_
  rw[Array.getElem?_push]
  split
  ·rename_i e;rw[e,h2];exact O.symm
  ·exact h4 j (by omega)
theorem JG{t n:Nat}{ag:Bool}{b o:Nat}{us:Array Value}(M:HS P t=some ag)(U:fp P t=some n)(J:us.size=n)(h:∀j,j<n->w.cell? ⟨b,o+j,none⟩=us[j]?)(h1:ag=false->n=1) :
  (loadVar t ⟨b,o,none⟩).run P w=.ok (if ag then .agg us else us.getD 0 undef) w:=by
 unfold loadVar;simp only[l8,Fg M,i5];cases ag with
 | true =>simp only[if_true,l8,fH U,i5,loadCells];rw[At (P:=P) (w:=w) n 0 us #[] (by omega) rfl (fun j _ O=>h j (by omega)) (fun j O=>by omega)];rfl
 | false =>
  have:=h1 rfl;subst this;have y:=h 0 (by omega);rw[n8 (by omega)] at y;rw[F8] at y;simp only[y4,if_false,load,Sem.run,y]
  congr 1
  simp[Array.getD,J]
theorem VB{t n off:Nat}{ag:Bool}{cs:List Ce}{ds:b8}{b o:Nat}{r:T}(ha:HS P t=some ag)(hn:fp P t=some n)(h:cut ag n off cs ds=some r)(hc:LN P w g base cs ds b o) :
  ∃z,(∀w',Below w.heap.size w w'->(loadVar t ⟨b,o+off,none⟩).run P w'=.ok z w')/\VT P w g base r z:=by
 unfold cut at h;cases hb:Nat.ble (off+n) cs.length with
 | false=>rw[hb] at h;cases h
 | true =>
  rw[hb] at h;have a1:off+n<=cs.length:=y9 hb;simp only[g6] at h;have V:∀(j:Nat) (y:j<n),∃u,w.cell? ⟨b,o+off+j,none⟩=some u/\VC P w g base (cs[off+j]'(by omega)) (gd ds (off+j)) u:=fun j y=>by obtain⟨u,h1,W⟩:=hc (off+j) _ (g9 (by omega));exact⟨u,by rw[u4];exact h1,W⟩
  let us:Array Value:=Array.ofFn (n:=n) fun j=>(w.cell? ⟨b,o+off+j.1,none⟩).getD undef
  have Y:us.size=n:=by simp[us]
  have J:∀j,j<n->w.cell? ⟨b,o+off+j,none⟩=us[j]?:=fun j y=>by obtain⟨u,h1,_⟩:=V j y;rw[h1,n8 (by omega)];simp[us,h1]
  have O:∀w',Below w.heap.size w w'->∀j,j<n->w'.cell? ⟨b,o+off+j,none⟩=us[j]?:=fun w' hw j y=>by obtain⟨u,h1,_⟩:=V j y;rw[<- J j y];exact bg (hw.block _ (dW h1)) _
  cases ag with
  | true =>
   simp only[g6,b7] at h;subst h;refine⟨_,fun w' hw=>JG ha hn Y (O w' hw) (by intro h;cases h),us,rfl,by simp[Y];omega,fun j c y=>?_⟩;have U:j<n:=by have:=(g7.1 y).1;simp at this;omega
   obtain⟨u,h1,W⟩:=V j U;refine⟨u,by rw[<- J j U,h1],?_⟩;rw[fY _ _ _ _ U];rw[u9,m6 U,A6,g9 (by omega)] at y;injection y with y;subst y;exact W
  | false =>
   simp only[f9] at h;cases Z:cs[off]? with
   | none=>rw[Z] at h;cases h
   | some c =>
    rw[Z] at h;cases M:(n==1) with
    | false=>simp only[M,f9,reduceCtorEq] at h
    | true =>
     simp only[M,g6,b7] at h;have M:n=1:=by simpa using M
     subst h;refine⟨_,fun w' hw=>JG ha hn Y (O w' hw) (fun _=>M),?_⟩;obtain⟨u,h1,W⟩:=V 0 (by omega);have h3:=J 0 (by omega);rw[h1] at h3;have h4:us.getD 0 undef=u:=by rw[A7,<- h3];rfl
     simp only[y4,if_false];rw[h4];have a0:cs[off+0]'(by omega)=c:=by rw[g9 (by omega)] at Z;injection Z
     rw[a0] at W;exact W
theorem OC{y:Option Tok}{e:TypeId}:∀ {row:List S} {o j:Nat} {c:Ce},(BP y e o row)[j]?=some c->∃s,row[j]?=some s/\c=akD y e (o+j) s
 | [],o,j,c,h=>by simp[BP] at h
 | s::row,o,0,c,h=>by simp only[BP,p9,b7] at h;exact⟨s,rfl,h.symm⟩
 | s::row,o,j+1,c,h=>by obtain⟨s',h1,J⟩:=OC (o:=o+1) (j:=j) (row:=row) (by simpa [BP] using h);exact⟨s',by simpa using h1,by rw[J,show o+1+j=o+(j+1) from by omega]⟩
theorem RR(x:D)(r:b8):∀(row:List S) (o j:Nat) (s:S),row[j]?=some s->gd (WZ x r o row) j=match s with | .sl _=>x | _=>gd r (o+j)
 | [],o,j,s,h=>by simp at h
 | s0::row,o,0,s,h=>by simp only[p9,b7] at h;subst h;cases s0 <;> rfl
 | s0::row,o,j+1,s,h=>by have:=RR x r row (o+1) j s (by simpa using h);rw[show o+(j+1)=o+1+j from by omega,<- this];cases s0 <;> rfl
theorem SZ{t:Nat}{x r:T}{u:Value}(hr:Rel P w g base σ a)(h:Cv P t σ x=some r)(hx:VT P w g base x u) :
  ∃z,(∀w',Below w.heap.size w w'->(Instr.loadAt t u).run P w'=.ok z w')/\VT P w g base r z:=by
 unfold Cv at h;cases ha:HS P t with
 | none=>rw[ha] at h;cases h
 | some ag =>
  cases hn:fp P t with
  | none=>rw[ha,hn] at h;cases h
  | some n =>
   rw[ha,hn] at h;obtain⟨sh,p⟩:=x;cases sh with
   | tup xs=>cases h
   | one x=>cases x with
    | agg xs=>cases h
    | c x=>cases x with
     | ptr id off =>
      have hx:u=.pointer (some ⟨g.θ id,off,none⟩):=hx;subst hx;simp only at h;cases hl:bS id σ.h with
      | none=>rw[hl] at h;cases h
      | some q =>
       obtain⟨cs,ds⟩:=q;rw[hl] at h;obtain⟨_,_,_,_,a2,E,h4,h5,h6⟩:=hr.box id cs ds hl;have Z:LN P w g base cs ds (g.θ id) 0:=fun j c J=>by obtain⟨v,h7,h8⟩:=h6 j c J;exact⟨v,by simp only[World.cell?,h4,m0];exact h7,h8⟩
       obtain⟨z,y,O⟩:=VB ha hn h Z;rw[m0] at y;exact⟨z,fun w' hw=>by simp only[Instr.loadAt,Instr.sureAddr,l8,m9,i5];exact y w' hw,O⟩
     | eptr W e off =>
      simp only at h;cases U:br P e with
      | none=>rw[U] at h;cases h
      | some row =>
       rw[U] at h;cases a0:Bj W with
       | false =>
        simp only[a0,f9] at h;have key:∃b o,u=.pointer (some ⟨b,o+(eIx (gd p 0)*row.length+off),none⟩)/\∀j s,row[j]?=some s->∃v,w.cell? ⟨b,o+(eIx (gd p 0)*row.length+j),none⟩=some v/\VC P w g base (.d s) (gd ((eK (gd p 0)).getD (eIx (gd p 0)) []) j) v:=by
         cases W with
         | none =>obtain⟨a4,b,o,y,O,Y,k4⟩:=hx;rw[U] at y;injection y with y;subst y;exact⟨b,o,O,fun j s M=>by obtain⟨v,j1,_,j3⟩:=k4 j s M;exact⟨v,j1,j3⟩⟩
         | some W =>
          obtain⟨a4,y,O,Y,v0,k4⟩:=hx;rw[U] at y;injection y with y;subst y;refine⟨g.ρ W,0,by rw[m0];exact O,fun j s M=>?_⟩;rcases k4 with⟨h0,_⟩ | ⟨cap,a2,E,h1,h2,h3,h4,h5,h6,h7,h8,h9,h10,h11⟩
          ·rw[h0] at Y;simp at Y
          ·obtain⟨v,a1,V⟩:=h11 _ j s Y M;exact⟨v,by simp only[World.cell?,h6,m0];exact a1,V.vd a0⟩
        obtain⟨b,o,rfl,hk⟩:=key;have Z:LN P w g base (row.map .d) ((eK (gd p 0)).getD (eIx (gd p 0)) []) b (o+eIx (gd p 0)*row.length):=fun j c J=>by
         rw[w9] at J;cases M:row[j]? with
         | none=>rw[M] at J;cases J
         | some s =>
          rw[M] at J;injection J with J
          subst J;obtain⟨v,y,O⟩:=hk j s M;exact⟨v,by rw[u4];exact y,O⟩
        obtain⟨z,y,O⟩:=VB ha hn h Z;rw[u4] at y;exact⟨z,fun w' hw=>by simp only[Instr.loadAt,Instr.sureAddr,l8,m9,i5];exact y w' hw,O⟩
       | true =>
        simp only[a0,g6] at h;cases W with
        | none=>cases a0
        | some W =>
         obtain⟨a4,y,O,Y,v0,k4⟩:=hx;rw[U] at y;injection y with y;subst y;subst O;have Z:LN P w g base (BP (some W) e 0 row) (WZ (gd p 0) ((eK (gd p 0)).getD (eIx (gd p 0)) []) 0 row) (g.ρ W) (eIx (gd p 0)*row.length):=fun j c J=>by
          rcases k4 with⟨h0,_⟩ | ⟨cap,a2,E,h1,h2,h3,h4,h5,h6,h7,h8,h9,h10,h11⟩
          ·rw[h0] at Y;simp at Y
          ·obtain⟨s,M,hc⟩:=OC J;obtain⟨v,a1,V⟩:=h11 _ j s Y M;refine⟨v,by simp only[World.cell?,h6];exact a1,?_⟩;rw[m0] at hc;subst hc;have hg:=RR (gd p 0) ((eK (gd p 0)).getD (eIx (gd p 0)) []) row 0 j s M;rw[hg,m0];have a3:bq W=true:=a0;cases s with
           | sl ei =>show VC P w g base (bif bq W then .inn W e j ei else .d (.sl ei)) _ _;rw[a3,g6];exact⟨row,U,⟨v0,.inr ⟨cap,a2,E,h1,h2,h3,h4,h5,h6,h7,h8,h9,h10,h11⟩⟩,.inl ⟨Nat.lt_trans (g7.1 M).1 (agk U),M,a3,Y,a2,E,h6,a1,V.flat⟩⟩
           | int k=>exact V.vd_flat rfl
           | bool=>exact V.vd_flat rfl
           | str=>exact V.vd_flat rfl
           | opq =>unfold cL at V;rw[m6 (by rw[a3];rfl)] at V;exact V.no_opq.elim
         obtain⟨z,y,O⟩:=VB ha hn h Z;exact⟨z,fun w' hw=>by simp only[Instr.loadAt,Instr.sureAddr,l8,m9,i5];exact y w' hw,O⟩
     | cptr cells off =>
      obtain⟨b,o,y,O,Y⟩:iV P w g base cells off (gd p 0) u:=hx;subst y;simp only at h;have Z:LN P w g base (cells.map .d) ((gd p 0).rows.getD 0 []) b o:=fun j c J=>by
       rw[w9] at J;cases M:cells[j]? with
       | none=>rw[M] at J;cases J
       | some s =>
        rw[M] at J;injection J with J
        subst J;exact Y j s M
      obtain⟨z,y,O⟩:=VB ha hn h Z;exact⟨z,fun w' hw=>by simp only[Instr.loadAt,Instr.sureAddr,l8,m9,i5];exact y w' hw,O⟩
     | _=>cases h
theorem Hg{t i off M:Nat}(h:Cl P t i=some (off,M)):∃(y:Array Field) (f:Field),P.underlying t=some (.struct y)/\y[i]?=some f/\f.offset=off/\f.type=M:=by
 unfold Cl at h
 split at h
 ·rename_i y O;cases J:y[i]? with
  | none=>rw[J] at h;cases h
  | some f =>rw[J] at h;simp only[C7,b7,j8] at h;exact⟨y,f,O,J,h.1,h.2⟩
 ·cases h
theorem UL{t i off V n:Nat}{x r:T}{u:Value}(Z:Cl P t i=some (off,V))(hn:fp P V=some n)(W:n≠0)(h:Ig x off=some r)(M:VT P w g base x u) :
  ∃z,(∀w':World,True->(Instr.fieldAt t u i).run P w'=.ok z w')/\VT P w g base r z:=by
 obtain⟨fs,f,hu,Y,rfl,rfl⟩:=Hg Z;have y:∀b o (w':World),True->(Instr.fieldAt t (.pointer (some ⟨b,o,none⟩)) i).run P w'=.ok (.pointer (some ⟨b,o+f.offset,none⟩)) w':=by intro b o w' _;unfold Instr.fieldAt;simp only[l8,run_underlying hu,i5,Y,Instr.sureAddr,m9,fieldPlace,fH hn,j7 W,qT]
 obtain⟨sh,p⟩:=x;cases sh with
 | tup xs=>cases h
 | one x=>cases x with
  | agg xs=>cases h
  | c x=>cases x with
   | ptr id o =>have M:u=.pointer (some ⟨g.θ id,o,none⟩):=M;subst M;simp only[Ig,b7] at h;subst h;exact⟨_,y _ _,rfl⟩
   | eptr U e o =>
    simp only[Ig,b7] at h;subst h;cases U with
    | none =>obtain⟨row,b,J,h1,rfl,O,h4⟩:=M;refine⟨_,y _ _,row,b,J,h1,?_,O,h4⟩;show Value.pointer (some ⟨b,J+(eIx (gd p 0)*row.length+o)+f.offset,none⟩)=Value.pointer (some ⟨b,J+(eIx (gd p 0)*row.length+(o+f.offset)),none⟩);rw[u4,u4]
    | some U =>obtain⟨row,h1,rfl,O⟩:=M;refine⟨_,y _ _,row,h1,?_,O⟩;show Value.pointer (some ⟨g.ρ U,eIx (gd p 0)*row.length+o+f.offset,none⟩)=Value.pointer (some ⟨g.ρ U,eIx (gd p 0)*row.length+(o+f.offset),none⟩);rw[u4]
   | cptr cells o =>simp only[Ig,b7] at h;subst h;obtain⟨b,J,rfl,O⟩:iV P w g base cells o (gd p 0) u:=M;refine⟨_,y _ _,b,J,?_,O⟩;show Value.pointer (some ⟨b,J+o+f.offset,none⟩)=Value.pointer (some ⟨b,J+(o+f.offset),none⟩);rw[u4]
   | _=>cases h
theorem aiT{t i off O n:Nat}{ag:Bool}{cs:List Ce}{p:b8}{r:T}{u:Value}(hf:Cl P t i=some (off,O))(ha:HS P O=some ag)(hn:fp P O=some n)(h:cut ag n off cs p=some r)
  (hx:VT P w g base ⟨.one (.agg cs),p⟩ u):∃z,(∀w':World,True->(Instr.field t u i).run P w'=.ok z w')/\VT P w g base r z:=by
 obtain⟨fs,f,hu,a0,rfl,rfl⟩:=Hg hf;obtain⟨M,rfl,a1,hv⟩:=hx;have W:∀w,(Instr.field t (.agg M) i).run P w=(part f.type M f.offset).run P w:=by intro w;unfold Instr.field;simp only[l8,run_underlying hu,i5,a0,asAgg,m9]
 simp only[W];unfold cut at h;cases V:Nat.ble (f.offset+n) cs.length with
 | false=>rw[V] at h;cases h
 | true =>
  rw[V] at h;have a2:f.offset+n<=cs.length:=y9 V;simp only[g6] at h;unfold part;simp only[l8,Fg ha,i5];cases ag with
  | true =>
   simp only[g6,b7] at h;subst h;simp only[if_true,l8,fH hn,i5,m9];refine⟨_,fun _ _=>rfl,_,rfl,by simp;omega,fun j c Z=>?_⟩;have J:j<n:=by have:=(g7.1 Z).1;simp at this;omega
   rw[u9,m6 J,A6] at Z;obtain⟨u,h1,U⟩:=hv _ c Z;refine⟨u,?_,by rw[fY _ _ _ _ J];exact U⟩;rw[L7,m6 (by omega)];exact h1
  | false =>
   simp only[f9] at h;cases Y:cs[f.offset]? with
   | none=>rw[Y] at h;cases h
   | some c =>
    rw[Y] at h;cases y:(n==1) with
    | false=>simp only[y,f9,reduceCtorEq] at h
    | true =>simp only[y,g6,b7] at h;subst h;obtain⟨u,h1,U⟩:=hv _ c Y;simp only[y4,if_false,h1,m9];exact⟨u,fun _ _=>rfl,U⟩
theorem aiX{t:TypeId}{x i:T}{d:D}{n:Int}{u v:Value}(O:x.sc=some (.str,d))(hi:i.intOf=some n)(U:VT P w g base x u)(hv:VT P w g base i v)(V:ah n d.str.length=true)(J:P.underlying t=some .string) :
  ∃z,(∀w':World,True->(Instr.index t u v).run P w'=.ok z w')/\VT P w g base (.c (.d (.int .u8)) (.i ((d.str.getD n.toNat 0).toNat:Int))) z:=by
 have h1:=sg O U;cases h1;obtain⟨k,rfl⟩:=OS hi hv;obtain⟨M,h1,y⟩:=Nn V;refine⟨_,?_,rA _ _⟩;intro w' _;unfold Instr.index;simp only[asIntOf,l8,m9,i5,run_underlying J,m6 M,akB];rw[g9 y];simp only[m9]
 congr 1
 simp[g4,g9 y]
theorem YW{y:List Sh1}{p:b8}{i:Nat}{x:Sh1}{u:Value}(hi:y[i]?=some x)(M:VT P w g base ⟨.tup y,p⟩ u) :
  ∃z,(∀w':World,True->(Instr.extract u i).run P w'=.ok z w')/\VT P w g base ⟨.one x,sub p (tg y i) x.size⟩ z:=by
 obtain⟨O,rfl,U,hv⟩:=M;obtain⟨z,h1,J⟩:=hv i x hi;exact⟨z,by intro w' _;simp[Instr.extract,h1],J⟩
theorem afS{lo:Option T}{y l:Int}{lv:Option Value}(h:Jz y lo=some l)(hl:∀x v,lo=some x->lv=some v->VT P w g base x v)(J:lo.isSome=lv.isSome) :
  (lo=none/\lv=none/\l=y)\/∃k,lv=some (.int k l):=by
 cases lo with
 | none=>cases lv with
  | none=>simp only[Jz,b7] at h;exact .inl ⟨rfl,rfl,h.symm⟩
  | some v=>cases J
 | some x=>cases lv with
  | none=>cases J
  | some v =>obtain⟨k,e⟩:=OS (show x.intOf=some l from h) (hl x v rfl rfl);exact .inr ⟨k,by rw[e]⟩
theorem lV{k:IntKind}{x:Int}{y:Nat}{code:BoundsCode}(J:0<=x)(h1:x<=y):(Instr.sliceBound (.int k x) y code).run P w=.ok x.toNat w:=by simp[Instr.sliceBound,asIntOf,J,h1]
theorem ku{b:Bool}{len cap:Nat}{lv hv:Option Value}{l h:Int}(y:0<=l)(h1:l<=h)(M:h<=len)(hc:len<=cap)
  (hl:(lv=none/\l=0)\/∃k,lv=some (.int k l)) (J:(hv=none/\h=len)\/∃k,hv=some (.int k h)):(Instr.sliceBounds b len cap lv hv none).run P w=.ok (l.toNat,h.toNat,cap) w:=by
 unfold Instr.sliceBounds;rcases J with⟨rfl,rfl⟩ | ⟨k,rfl⟩ <;> rcases hl with⟨rfl,rfl⟩ | ⟨k',rfl⟩
 ·simp
 ·simp only[l8,m9,i5];rw[lV y h1];simp
 ·simp only[l8,m9,i5];rw[lV (by omega) (by omega)];simp
 ·simp only[l8,m9,i5];rw[lV (by omega) (by omega)];simp only[i5];rw[lV y (by omega)];simp
theorem rp{lo:Option T}{y l:Int}{lv:Option Value}(h:Jz y lo=some l)(hl:∀x v,lo=some x->lv=some v->VT P w g base x v)(M:lo.isSome=lv.isSome) :
  (lv=none/\l=y)\/∃k,lv=some (.int k l):=by
 rcases afS h hl M with⟨_,h1,J⟩ | h
 ·exact .inl ⟨h1,J⟩
 ·exact .inr h
theorem afk{t:TypeId}{x r:T}{lo hi:Option T}{u:Value}{lv hv:Option Value}(h:aaM P t x lo hi=some (r,true))(hx:VT P w g base x u)
  (hl:∀x v,lo=some x->lv=some v->VT P w g base x v) (b0:lo.isSome=lv.isSome) (a8:hi.isSome=hv.isSome) :
  ∃z,(∀w':World,True->(Instr.sliceAt t u lv hv none).run P w'=.ok z w')/\VT P w g base r z:=by
 unfold aaM at h
 split at h
 ·rename_i M e hsh
  split at h
  ·rename_i l row e1 y;cases Y:(mg P t==some e && !bq M&&row.all S.flat) with
   | false=>rw[Y] at h;cases h
   | true =>
    rw[Y,g6] at h;simp only[b7,j8,a9,g5] at h;obtain⟨rfl,h0,h1⟩:=h;simp only[a9,u7,o8] at Y;obtain⟨⟨ht,hd⟩,a1⟩:=Y;have a6:hv=none:=by cases hv with
     | none=>rfl
     | some v=>simp at a8
    subst a6;have b1:=rp e1 hl b0;obtain⟨b3,p⟩:=x;simp only at hsh;subst hsh;obtain⟨b2,J,W⟩:=hx;rw[y] at J;injection J with J;subst J
    change (l<=((gd p 0).rows.length:Int)) at h1;generalize a5:(gd p 0).rows=rows at *;have a0:=W;have V:eK (.l [[gd p 0,.i l]])=rows:=a5;have a3:eIx (.l [[gd p 0,.i l]])=l.toNat:=rfl;rcases W with⟨U,a7,A,rfl⟩ | ⟨cap,arr,E,rfl,q2,q3,q4,q5,q6,q7,q8,q9,q10,q11⟩
    ·have a4:l.toNat=0:=by rw[U] at h1;simp at h1;omega
     refine⟨.slice (if 0=l.toNat then A else A.map (·.add (l.toNat*row.length))) (0 - l.toNat) (0 - l.toNat),fun w' _=>?_,row,y,⟨.slice A 0 0,by show dX P w g base M true e row (eK (.l [[gd p 0,.i l]])) _;rw[V];exact .inl ⟨U,a7,A,rfl⟩⟩,.inr ⟨i8 _,rfl,?_⟩⟩
     ·simp only[Instr.sliceAt,Instr.slice,l8,run_underlying (iM ht),i5];rw[ku (len:=0) (l:=l) (h:=((0:Nat):Int)) h0 (by rw[U] at h1;simpa using h1) (J4 _) (i8 _) b1 (.inl ⟨rfl,rfl⟩)];simp only[i5,l8,fH (iz y),m9,g8]
     ·show VD P w (fun b=>if b=g.ρ M then (eK (.l [[gd p 0,.i l]])).length*row.length else 0) (.sl e) (.l ((eK (.l [[gd p 0,.i l]])).drop (eIx (.l [[gd p 0,.i l]])))) _;rw[V,a3,U,a4];exact VD.sl e (.l ([].drop 0)) _ 0 row (fun _ _=>undef) y (i8 _) (by omega) (fun i j hi=>by simp[D.rows] at hi) (fun i j s hi=>by simp[D.rows] at hi)
    ·have O:(rows.drop l.toNat).length=rows.length - l.toNat:=by rw[v9]
     refine⟨.slice (if cap=l.toNat then some ⟨g.ρ M,0,none⟩ else (some (⟨g.ρ M,0,none⟩:Addr)).map (·.add (l.toNat*row.length))) (rows.length - l.toNat) (cap - l.toNat),fun w' _=>?_,row,y,⟨.slice (some ⟨g.ρ M,0,none⟩) rows.length cap,by show dX P w g base M true e row (eK (.l [[gd p 0,.i l]])) _;rw[V];exact a0⟩,.inr ⟨i8 _,rfl,?_⟩⟩
     ·simp only[Instr.sliceAt,Instr.slice,l8,run_underlying (iM ht),i5];rw[ku (len:=rows.length) (l:=l) (h:=(rows.length:Int)) h0 h1 (J4 _) q2 b1 (.inl ⟨rfl,rfl⟩)];simp only[i5,l8,fH (iz y),m9,g8]
     ·show VD P w (fun b=>if b=g.ρ M then (eK (.l [[gd p 0,.i l]])).length*row.length else 0) (.sl e) (.l ((eK (.l [[gd p 0,.i l]])).drop (eIx (.l [[gd p 0,.i l]])))) _;rw[V,a3,<- O];refine VD.sl e (.l (rows.drop l.toNat)) _ (cap - l.toNat) row (fun i j=>arr[(l.toNat+i)*row.length+j]?.getD undef) y (m8 (D5 O) (by omega)) (by omega) ?_ ?_
      ·intro i j hi hj;have hi:i<rows.length - l.toNat:=by rw[<- O];exact hi
       obtain⟨z,Z,_⟩:=q11 (l.toNat+i) j _ (by omega) (g9 hj);refine⟨g.ρ M,0+l.toNat*row.length,?_,?_,?_⟩
       ·rw[j7 (by omega),C7,qT]
       ·rw[show 0+l.toNat*row.length+(i*row.length+j)=(l.toNat+i)*row.length+j from by rw[F6];omega,Z];simp only[World.cell?,q6];exact Z
       ·rw[m6 rfl];have:(l.toNat+i)*row.length+row.length<=rows.length*row.length:=by rw[<- E3];exact z7 _ (by omega)
        rw[F6] at this;omega
      ·intro i j s hi hs;have hi:i<rows.length - l.toNat:=by rw[<- O];exact hi
       obtain⟨z,Z,z2⟩:=q11 (l.toNat+i) j s (by omega) hs;have a2:=i9.1 a1 s (A2 hs);unfold cL at z2;rw[j7 (by rw[hd];simp)] at z2;have e2:((D.l (rows.drop l.toNat)).rows.getD i [])=rows.getD (l.toNat+i) []:=by show (rows.drop l.toNat).getD i []=_;rw[g4,g4,A6]
       rw[e2];simp only[Z,z6];exact (TR.of_flat (lab:=fun _ _ _=>True) (π:= []) z2 a2).vd_flat a2
  ·cases h
 ·cases h
theorem ZS{t:TypeId}{x r:T}{lo hi:Option T}{u:Value}{lv hv:Option Value}(h:TM P t x lo hi=some (r,true))(hx:VT P w g base x u)
  (hl:∀x v,lo=some x->lv=some v->VT P w g base x v) (V:lo.isSome=lv.isSome) (hh:∀x v,hi=some x->hv=some v->VT P w g base x v) (U:hi.isSome=hv.isSome) :
  ∃z,(∀w':World,True->(Instr.sliceAt t u lv hv none).run P w'=.ok z w')/\VT P w g base r z:=by
 unfold TM at h
 split at h
 ·rename_i d ex;have O:=sg ex hx;cases O
  split at h
  ·rename_i l y e1 e2;cases J:xC P t with
   | false=>rw[J] at h;cases h
   | true =>rw[J] at h;simp only[n4,f9,b7,j8,a9,g5] at h;obtain⟨rfl,⟨Z,h1⟩,Y⟩:=h;have W:=rp e1 hl V;have b2:=rp e2 hh U;refine⟨.string (bsv ((d.str.take y.toNat).drop l.toNat)),?_,VD.str (.s _)⟩;intro w' _;simp only[Instr.sliceAt,Instr.slice,l8,run_underlying (Ha J),i5,L1,y4,if_false];rw[ku (len:=(bsv d.str).size) Z h1 (by rw[uf];exact Y) (i8 _) W (by rw[uf];exact b2)];simp[YQ]
  ·cases h
 ·rename_i e d ex;have O:=sg ex hx;cases O with
  | sl _ _ A c row u hr k1 k2 k3 k4 =>
   split at h
   ·rename_i l y e1 e2;cases J:(mg P t==some e) with
    | false=>rw[J] at h;cases h
    | true =>
     rw[J] at h;have J:mg P t=some e:=by simpa using J
     simp only[n4,f9,b7,j8,a9,g5] at h;obtain⟨rfl,⟨Z,h1⟩,Y⟩:=h;have W:=rp e1 hl V;have b2:=rp e2 hh U;have M:((d.rows.take y.toNat).drop l.toNat).length=y.toNat - l.toNat:=by rw[v9,w5];omega
     refine⟨.slice (if c=l.toNat then A else A.map (·.add (l.toNat*row.length))) (y.toNat - l.toNat) (c - l.toNat),?_,?_⟩
     ·intro w' _;simp only[Instr.sliceAt,Instr.slice,l8,run_underlying (iM J),i5];rw[ku (len:=d.rows.length) Z h1 Y k1 W b2];simp only[i5,l8,fH (iz hr),m9]
     ·show VD P w g.prot (.sl e) (.l ((d.rows.take y.toNat).drop l.toNat)) _;rw[<- M];refine VD.sl e (.l ((d.rows.take y.toNat).drop l.toNat)) _ (c - l.toNat) row (fun i j=>u (l.toNat+i) j) hr (m8 (D5 M) (by omega)) (by omega) ?_ ?_
      ·intro i j hi hj;have hi:i<y.toNat - l.toNat:=by rw[<- M];exact hi
       obtain⟨b,o,q1,q2,q3⟩:=k3 (l.toNat+i) j (by omega) hj;refine⟨b,o+l.toNat*row.length,?_,?_,?_⟩
       ·rw[j7 (by omega),q1,C7,qT]
       ·rw[show o+l.toNat*row.length+(i*row.length+j)=o+((l.toNat+i)*row.length+j) from by rw[F6];omega];exact q2
       ·rw[show o+l.toNat*row.length+(i*row.length+j)=o+((l.toNat+i)*row.length+j) from by rw[F6];omega];exact q3
      ·intro i j s hi hs;have hi:i<y.toNat - l.toNat:=by rw[<- M];exact hi
       have:=k4 (l.toNat+i) j s (by omega) hs;have e:((d.rows.take y.toNat).drop l.toNat).getD i []=d.rows.getD (l.toNat+i) []:=by rw[g4,g4,A6,u9,m6 (by omega)]
       show VD P w g.prot s (gd (((d.rows.take y.toNat).drop l.toNat).getD i []) j) _;rw[e];exact this
   ·cases h
 ·cases h
theorem ake{s:S}{x y:D}{u v:Value}{b:Bool}(M:VD P w g.prot s x u)(J:VD P w g.prot s y v):VD P w g.prot s (bif b then x else y) (if b then u else v):=by
 cases b
 ·exact J
 ·exact M
theorem aix{x:T}{c:Cap}{d:D}{u:Value}(h:YU x=some (c,d))(y:VT P w g base x u):Ks P w g base c d u:=by
 obtain⟨sh,p⟩:=x;cases sh with
 | tup xs=>cases h
 | one x=>cases x with
  | agg xs=>cases h
  | c x=>cases x with
   | ptr id off=>simp only[YU,b7,j8] at h;obtain⟨rfl,rfl⟩:=h;exact y
   | cptr cells off=>simp only[YU,b7,j8] at h;obtain⟨rfl,rfl⟩:=h;exact y
   | d s=>simp only[YU,b7,j8] at h;obtain⟨rfl,rfl⟩:=h;exact y
   | _=>cases h
theorem RI(M:∀x,VT P w g base (opd σ x) (a.eval x)):∀ {xs:List Operand} {cs:List Cap} {ds:b8},PD σ xs=some (cs,ds)->cs.length=xs.length/\∀(j:Nat) c,cs[j]?=some c->∃x,xs[j]?=some x/\Ks P w g base c (gd ds j) (a.eval x)
 | [],cs,ds,h=>by simp only[PD,b7,j8] at h;obtain⟨rfl,rfl⟩:=h;exact⟨rfl,fun j c h=>by simp at h⟩
 | x::xs,cs,ds,h=>by
  unfold PD at h
  split at h
  ·rename_i c d a0 a1 h1 U;simp only[b7,j8] at h;obtain⟨rfl,rfl⟩:=h;obtain⟨O,W⟩:=RI M U;refine⟨by simp[O],fun j V J=>?_⟩;cases j with
   | zero =>simp only[p9,b7] at J;subst J;exact⟨x,rfl,aix h1 (M x)⟩
   | succ j =>obtain⟨y,Y,Z⟩:=W j V (by simpa using J);exact⟨y,by simpa using Y,by rw[ap];exact Z⟩
  ·cases h
theorem afH(hr:Rel P w g base σ a){o:Oper}{r:T}(h:evQ P σ o=some (r,true)):∃z,(∀w',(Below w.heap.size w w'\/tQ o=true)->(execOp a.eval o).run P w'=.ok (.value z) w')/\VT P w g base r z:=by
 obtain⟨dst,op,ty,a1,after,guard⟩:=o;have J:=fun x=>dO hr x
 cases op with
 | move x =>simp only[evQ,b7,j8,E2] at h;subst h;exact⟨_,by intro w' _;simp[execOp],J x⟩
 | assign x =>simp only[evQ,b7,j8,E2] at h;subst h;exact⟨_,by intro w' _;simp[execOp],J x⟩
 | nilCheck x =>
  simp only[evQ] at h
  split at h
  ·rename_i id off hs;simp only[b7,j8,E2] at h;subst h;have hv:=J x;unfold VT at hv;rw[hs] at hv;have hb:a.eval x=.pointer (some ⟨g.θ id,off,none⟩):=hv;exact⟨_,by intro w' _;simp[execOp,hb],J x⟩
  ·cases h
 | pick c x y =>
  simp only[evQ] at h
  split at h
  ·rename_i t e;simp only[b7,j8,E2] at h;subst h;have hc:=J c;have Y:a.eval c=.bool t:=by generalize opd σ c=q at *;obtain⟨sh,p⟩:=q;simp only at e;subst e;exact hc
   refine⟨if t then a.eval x else a.eval y,by intro w' _;simp[execOp,Y,asBool],?_⟩;cases t
   ·exact J y
   ·exact J x
  ·rename_i s x' s' y' e1 e2 e3;cases U:(s==s') with
   | false=>rw[U] at h;cases h
   | true =>
    rw[U] at h;have U:s=s':=by simpa using U
    subst U;simp only[g6,b7,j8,E2] at h;subst h;have hc:=J c;have Y:a.eval c=.bool (gd (opd σ c).p 0).bool:=by generalize hq:opd σ c=q at *;obtain⟨sh,p⟩:=q;simp only at e1;subst e1;have hc:VD P w g.prot .bool (gd p 0) (a.eval c):=hc;generalize a.eval c=vv at *;cases hc;rfl
    exact⟨_,by intro w' _;simp only[execOp,Y,asBool,l8,m9,i5],ake (sg e2 (J x)) (sg e3 (J y))⟩
  ·cases h
 | load t x =>
  simp only[evQ] at h;cases hl:Cv P t σ (opd σ x) with
  | none=>rw[hl] at h;cases h
  | some r' =>rw[hl] at h;simp only[C7,b7,j8,E2] at h;subst h;obtain⟨z,h1,M⟩:=SZ hr hl (J x);exact⟨z,fun w' hw=>by simp only[execOp,l8,h1 w' (hw.resolve_right (by simp[tQ])),i5,m9],M⟩
 | fieldAddr t x i =>
  simp only[evQ] at h
  split at h
  ·rename_i off ft hf
   split at h
   ·rename_i n Z;cases hl:Ig (opd σ x) off with
    | none=>rw[hl] at h;cases h
    | some r' =>rw[hl] at h;simp only[C7,b7,j8,E2] at h;subst h;obtain⟨z,h1,M⟩:=UL hf Z (by omega) hl (J x);exact⟨z,fun w' hw=>by simp only[execOp,l8,h1 w' trivial,i5,m9],M⟩
   ·cases h
  ·cases h
 | field t x i =>
  simp only[evQ] at h
  split at h
  ·rename_i off ft cs hf hsh
   split at h
   ·rename_i ag n ha Z;cases hl:cut ag n off cs (opd σ x).p with
    | none=>rw[hl] at h;cases h
    | some r' =>
     rw[hl] at h;simp only[C7,b7,j8,E2] at h;subst h;have W:=J x;have W:VT P w g base ⟨.one (.agg cs),(opd σ x).p⟩ (a.eval x):=by rw[<- hsh];exact W
     obtain⟨z,h1,M⟩:=aiT hf ha Z hl W;exact⟨z,fun w' hw=>by simp only[execOp,l8,h1 w' trivial,i5,m9],M⟩
   ·cases h
  ·cases h
 | indexAddr t x i =>
  simp only[evQ] at h
  split at h
  ·rename_i e O;obtain⟨z,h1,M⟩:=Oz O h (J x) (J i);exact⟨z,fun w' hw=>by simp only[execOp,l8,h1 w' trivial,i5,m9],M⟩
  ·cases h
 | index t x i =>
  simp only[evQ] at h
  split at h
  ·rename_i d n e1 e2;cases V:xC P t with
   | false=>rw[V] at h;cases h
   | true =>rw[V] at h;simp only[n4,f9,b7,j8] at h;obtain⟨rfl,Z⟩:=h;obtain⟨z,h1,M⟩:=aiX e1 e2 (J x) (J i) Z (Ha V);exact⟨z,fun w' hw=>by simp only[execOp,l8,h1 w' trivial,i5,m9],M⟩
  ·cases h
 | binOp op t x y t2 =>
  simp only[evQ] at h;have hb:∃z,(∀w':World,True->(do eqGuard op t x y (a.eval x) (a.eval y);Go.binOp op t (a.eval x) (a.eval y):Sem Value).run P w'=.ok z w')/\VT P w g base r z:=by
   split at h
   ·rename_i r0 O;injection h with h
    subst h;exact ahR t O x y (J x) (J y)
   ·exact aho t h x y (J x) (J y)
  obtain⟨z,h1,M⟩:=hb;exact⟨z,fun w' hw=>by simp only[execOp];rw[l8,h1 w' trivial];simp,M⟩
 | unOp op t x =>
  simp only[evQ] at h;cases hl:ajX op (opd σ x) with
  | none=>rw[hl] at h;cases h
  | some r' =>rw[hl] at h;simp only[C7,b7,j8,E2] at h;subst h;obtain⟨z,h1,M⟩:=ajw hl (J x);exact⟨z,fun w' hw=>by simp only[execOp,l8,h1 w' trivial,i5,m9],M⟩
 | extract t i =>
  simp only[evQ] at h
  split at h
  ·rename_i vs hsh
   split at h
   ·rename_i x W;simp only[b7,j8,E2] at h;subst h;have V:=J t;have V:VT P w g base ⟨.tup vs,(opd σ t).p⟩ (a.eval t):=by rw[<- hsh];exact V
    obtain⟨z,h1,M⟩:=YW W V;exact⟨z,fun w' hw=>by simp only[execOp,l8,h1 w' trivial,i5,m9],M⟩
   ·cases h
  ·cases h
 | slice t x lo hi mx =>
  cases mx with
  | some m=>simp only[evQ] at h;cases h
  | none =>
   simp only[evQ] at h
   split at h
   ·rename_i r0 a0;injection h with h
    subst h;obtain⟨z,h1,M⟩:=afk (lv:=lo.map a.eval) (hv:=hi.map a.eval) a0 (J x) (by
     intro x' v e1 e2;cases lo with
     | none=>cases e1
     | some l=>simp only[C7,b7] at e1 e2;subst e1;subst e2;exact J l) (by cases lo <;> rfl) (by cases hi <;> rfl)
    exact⟨z,fun w' hw=>by simp only[execOp,Option.map_none,l8,h1 w' trivial,i5,m9],M⟩
   obtain⟨z,h1,M⟩:=ZS (lv:=lo.map a.eval) (hv:=hi.map a.eval) h (J x) (by
     intro x' v e1 e2;cases lo with
     | none=>cases e1
     | some l=>simp only[C7,b7] at e1 e2;subst e1;subst e2;exact J l) (by cases lo <;> rfl) (by
     intro x' v e1 e2;cases hi with
     | none=>cases e1
     | some l=>simp only[C7,b7] at e1 e2;subst e1;subst e2;exact J l) (by cases hi <;> rfl)
   exact⟨z,fun w' hw=>by simp only[execOp,Option.map_none,l8,h1 w' trivial,i5,m9],M⟩
 | convert t1 t2 x =>
  simp only[evQ] at h
  split at h
  ·rename_i d1 k k' d h1 M h3;simp only[b7,j8,E2] at h;subst h;have hv:=sg h3 (J x);generalize hq:a.eval x=u at hv;cases hv;refine⟨_,?_,rA _ _⟩;intro w' _;simp only[execOp,hq,convert,l8,run_underlying h1,run_underlying M,i5];cases d1 <;> simp[Conv.intToInt]
  ·rename_i d1 d h1 M h3;simp only[b7,j8,E2] at h;subst h;have hv:=sg h3 (J x);generalize hq:a.eval x=u at hv;cases hv;refine⟨_,?_,VD.str d⟩;intro w' _;simp only[execOp,hq,convert,l8,run_underlying h1,run_underlying M,i5];cases d1 <;> simp
  ·cases h
 | makeFunc fn first caps =>
  cases fn with
  | func f =>
   simp only[evQ] at h;cases O:first.isEmpty with
   | false=>rw[O] at h;cases h
   | true =>
    rw[O] at h;simp only[g6] at h
    split at h
    ·rename_i cs ds hc;simp only[b7,j8,E2] at h;subst h;have O:first = #[]:=by simpa using O
     subst O;obtain⟨k1,k2⟩:=RI J hc;refine⟨.func (.func f) #[] (caps.map a.eval),fun w' _=>by simp[execOp,Instr.makeFunc],caps.map a.eval,rfl,by simp[k1],fun j c hj=>?_⟩;obtain⟨x,q1,q2⟩:=k2 j c hj;refine⟨a.eval x,?_,q2⟩;have:caps[j]?=some x:=by simpa using q1
     rw[H4,this];rfl
    ·cases h
  | _=>simp only[evQ] at h;cases h
 | call c =>
  obtain⟨callee,args,ts⟩:=c;cases callee with
  | builtin b =>
   cases b with
   | len =>
    simp only[evQ] at h
    split at h
    ·rename_i x t e1 e2;cases hl:abQ P t (opd σ x) with
     | none=>rw[hl] at h;cases h
     | some r' =>
      rw[hl] at h;simp only[C7,b7,j8,E2] at h;subst h;obtain⟨z,h1,M⟩:=ahw hl (J x) ty;have ea:args = #[x]:=by cases args;simp_all
      have et:ts = #[t]:=by cases ts;simp_all
      subst ea;subst et;refine⟨z,fun w' hw=>?_,M⟩;simp only[execOp,resolve,invoke,builtin,l8,m9,i5,List.map_toArray,w8,I2,h1 w' trivial]
    ·cases h
   | max =>
    simp only[evQ] at h
    split at h
    ·rename_i x y e1
     split at h
     ·rename_i k p k' q h1 M;cases hk:(k==k') with
      | false=>rw[hk] at h;cases h
      | true =>
       rw[hk,g6] at h;simp only[b7,j8,E2] at h;subst h;have hk:k=k':=by simpa using hk
       subst hk;have v1:=sg h1 (J x);have v2:=sg M (J y);have u1:a.eval x=.int k p.int:=by generalize a.eval x=u at v1;cases v1;rfl
       have u2:a.eval y=.int k q.int:=by generalize a.eval y=u at v2;cases v2;rfl
       have ea:args = #[x,y]:=by cases args;simp_all
       subst ea;refine⟨.int k (ajm p.int q.int),fun w' hw=>?_,VD.int k (.i (ajm p.int q.int))⟩;simp[execOp,resolve,invoke,builtin,Go.Builtin.max_,Go.Builtin.max2,u1,u2,ajm,l8,m9,i5]
     ·cases h
    ·cases h
   | _=>simp only[evQ] at h;cases h
  | _=>simp only[evQ] at h;cases h
 | _=>simp only[evQ] at h;cases h
end
end Go.Proofs.YtpdfmcmnjikppaaGreat
end
