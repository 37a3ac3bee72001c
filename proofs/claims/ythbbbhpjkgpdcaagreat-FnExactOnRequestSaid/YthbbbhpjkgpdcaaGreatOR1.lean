/-
 Texts of the proof,put together: part 1.
-/
import Derived.Test.YthbbbhpjkgpdcaaGreatProg
import Derived.WalkKit
import Derived.ProofKit
import Derived.Orders
import Derived.Below
import Derived.Laws.StructEq
set_option linter.unusedSimpArgs false
set_option linter.unusedVariables false
set_option linter.unusedSectionVars false
namespace Go.Proofs.YthbbbhpjkgpdcaaGreat
inductive D where
 | i (n:Int)
 | b (x:Bool)
 | s (x:List UInt8)
 | l (rows:List (List D))
 | v (x:Value)
def D0:D:=.i 0
def D.int:D→Int
 | .i n=>n
 | _=>0
def D.bool:D→Bool
 | .b x=>x
 | _=>false
def D.str:D→List UInt8
 | .s x=>x
 | _ => []
def D.rows:D→List (List D)
 | .l r=>r
 | _ => []
def D.val:D→Value
 | .v x=>x
 | _=>.bool false
def gd (p:List D) (i:Nat):D:=p.getD i D0
def sub (p:List D) (o:Nat):Nat→List D
 | 0 => []
 | n+1=>gd p o::sub p (o+1) n
inductive S where
 | int (k:IntKind)
 | bool
 | str
 | sl (e:TypeId)
 | opq
 deriving DecidableEq,Repr
abbrev Tok:=Nat × Nat
def deepT (t:Tok):Bool:=Nat.ble 1000000 t.2
inductive Cap where
 | d (s:S)
 | ptr (id off:Nat)
 | cptr (cells:List S) (off:Nat)
 deriving DecidableEq,Repr
inductive Ce where
 | any
 | d (s:S)
 | kb (x:Bool)
 | own (t:Tok) (x:Bool) (e:TypeId)
 | ptr (id off:Nat)
 | eptr (t:Option Tok) (e:TypeId) (off:Nat)
 | inn (t:Tok) (e:TypeId) (off:Nat) (ei:TypeId)
 | cptr (cells:List S) (off:Nat)
 | fn (f:FuncId) (caps:List Cap)
 deriving DecidableEq,Repr
inductive Sh1 where
 | c (x:Ce)
 | agg (xs:List Ce)
 deriving DecidableEq,Repr
inductive Sh where
 | one (x:Sh1)
 | tup (xs:List Sh1)
 deriving DecidableEq,Repr
def Sh1.size:Sh1→Nat
 | .c _=>1
 | .agg xs=>xs.length
structure T where
 sh:Sh
 p:List D
abbrev T.c (x:Ce) (d:D):T:=⟨.one (.c x),[d]⟩
abbrev T.any:T:=.c .any D0
abbrev T.none_:T:=⟨.tup [],[]⟩
abbrev Env:=List (Nat × T)
abbrev Boxes:=List (Nat × List Ce × List D)
structure St where
 r:Env
 e:Env
 h:Boxes
def look (i:Nat):Env→T
 | []=>.any
 | (j,v)::e=>bif i==j then v else look i e
def look2 (i:Nat) (e:Env):Env→T
 | []=>look i e
 | (j,v)::r=>bif i==j then v else look2 i e r
def hlook (i:Nat):Boxes→Option (List Ce × List D)
 | []=>none
 | (j,v)::e=>bif i==j then some v else hlook i e
def eput (i:Nat) (v:T):Env→Env
 | [] => [(i,v)]
 | (j,u)::e=>bif i==j then (i,v)::e else (j,u)::eput i v e
def hput (i:Nat) (v:List Ce × List D):Boxes→Boxes
 | [] => [(i,v)]
 | (j,u)::e=>bif i==j then (i,v)::e else (j,u)::hput i v e
def St.put (σ:St) (o:Option Nat) (v:T):St:=
 match o with
 | none=>σ
 | some i=>⟨(i,v)::σ.r,σ.e,σ.h⟩
def edrop (i:Nat):Env→Env
 | [] => []
 | (j,u)::e=>bif i==j then edrop i e else (j,u)::edrop i e
def settleE (ks:List Nat) (e:Env):Env→Env
 | []=>e
 | (i,v)::r=>bif ks.contains i then eput i v (settleE ks e r) else edrop i (settleE ks e r)
def Sh1.map (f:Ce→Ce):Sh1→Sh1
 | .c x=>.c (f x)
 | .agg xs=>.agg (xs.map f)
def Sh.map (f:Ce→Ce):Sh→Sh
 | .one x=>.one (x.map f)
 | .tup xs=>.tup (xs.map (Sh1.map f))
def St.map (f:Ce→Ce) (σ:St):St:=
 ⟨σ.r.map fun p=>(p.1,⟨p.2.sh.map f,p.2.p⟩),σ.e.map fun p=>(p.1,⟨p.2.sh.map f,p.2.p⟩),σ.h.map fun p=>(p.1,p.2.1.map f,p.2.2)⟩
def sealC (ts:List Tok):Ce→Ce
 | .own t x e=>.own t (x && !ts.contains t) e
 | .eptr (some t) e off=>.eptr (bif ts.contains t then none else some t) e off
 | .inn t e off ei=>bif ts.contains t then .any else .inn t e off ei
 | c=>c
def St.toData1 (i:Nat) (σ:St):St:=
 match (look i σ.e).sh with
 | .one (.c (.own t _ e))=>⟨(σ.map (sealC [t])).r,eput i ⟨.one (.c (.d (.sl e))),(look i σ.e).p⟩ (σ.map (sealC [t])).e,(σ.map (sealC [t])).h⟩
 | _=>σ
def St.toData:List Nat→St→St
 | [],σ=>σ
 | i::r,σ=>(σ.toData r).toData1 i
def datasOf:List Nat→List Nat
 | [] => []
 | k::r=>bif Nat.ble 4000000 k then (k - 4000000)::datasOf r else datasOf r
def renC (s s':Tok):Ce→Ce
 | .own t x e=>bif t==s then .own s' x e else bif t==s' then (bif x then .any else .d (.sl e)) else .own t x e
 | .eptr (some t) e off=>bif t==s then .eptr (some s') e off else bif t==s' then .any else .eptr (some t) e off
 | .inn t e off ei=>bif t==s then .inn s' e off ei else bif t==s' then .any else .inn t e off ei
 | c=>c
def renTok (i:Nat) (s:Tok):Tok:=(i,bif deepT s then 1000777 else 777)
def St.rename1 (i:Nat) (σ:St):St:=
 match (look i σ.e).sh with
 | .one (.c (.own s _ _))=>bif s != renTok i s&&s.1 != 1000001&&Nat.blt i 1000000 then σ.map (renC s (renTok i s)) else σ
 | _=>σ
def St.renames:List Nat→St→St
 | [],σ=>σ
 | i::r,σ=>(σ.renames r).rename1 i
def rensOf:List Nat→List Nat
 | [] => []
 | k::r=>bif Nat.ble 6000000 k then (k - 6000000)::rensOf r else rensOf r
def St.seal1 (i:Nat) (σ:St):St:=
 match (look i σ.e).sh with
 | .one (.c (.own s true _))=>σ.map (sealC [s])
 | _=>σ
def St.seals:List Nat→St→St
 | [],σ=>σ
 | i::r,σ=>(σ.seals r).seal1 i
def sealsOf:List Nat→List Nat
 | [] => []
 | k::r=>bif Nat.ble 7000000 k then (k - 7000000)::sealsOf r else sealsOf r
def boxTok (t k:Nat) (s:Tok):Tok:=(t,bif deepT s then 1000700+k else 700+k)
def renBox (t:Nat):Nat→List Ce→St→St
 | _,[],σ=>σ
 | k,.own s _ _::cs,σ=>renBox t (k+1) cs (bif s != boxTok t k s&&s.1 != 1000001&&Nat.blt t 1000000&&deepT (boxTok t k s)==deepT s then σ.map (renC s (boxTok t k s)) else σ)
 | k,_::cs,σ=>renBox t (k+1) cs σ
def St.renBox1 (t:Nat) (σ:St):St:=
 match hlook t σ.h with
 | some (cs,_)=>renBox t 0 cs σ
 | none=>σ
def St.renBoxes:List Nat→St→St
 | [],σ=>σ
 | t::r,σ=>(σ.renBoxes r).renBox1 t
def boxesOf:List Nat→List Nat
 | [] => []
 | k::r=>bif Nat.ble 8000000 k then (k - 8000000)::boxesOf r else boxesOf r
def St.settle (ks:List Nat) (σ:St):St:=St.renBoxes (boxesOf ks) <| St.seals (sealsOf ks) <| St.renames (rensOf ks) (St.toData (datasOf ks) ⟨[],settleE ks σ.e σ.r,σ.h⟩)
def byteList (s:ByteArray):List UInt8:=s.data.toList
def ofV:Value→T
 | .int k n=>.c (.d (.int k)) (.i n)
 | .bool b=>.c (.kb b) D0
 | .string s=>.c (.d .str) (.s (byteList s))
 | .tuple xs=>bif xs.isEmpty then .none_ else .any
 | _=>.any
def opd (σ:St):Operand→T
 | .tmp i=>look2 i σ.e σ.r
 | .const v=>ofV v
 | .func f=>.c (.fn f []) (.l [[]])
 | .global _=>.any
def T.cells (v:T):Option (List Ce × List D):=
 match v.sh with
 | .one (.c x)=>bif x==.any then none else some ([x],[gd v.p 0])
 | .one (.agg xs)=>bif xs.contains .any then none else some (xs,sub v.p 0 xs.length)
 | .tup _=>none
def Ce.toS:Ce→Option S
 | .d s=>some s
 | .kb _=>some .bool
 | .own _ _ e=>some (.sl e)
 | _=>none
def Ce.toD (c:Ce) (x:D):D:=
 match c with
 | .kb b=>.b b
 | _=>x
def allS:List Ce→Option (List S)
 | []=>some []
 | c::cs=>match c.toS,allS cs with
  | some d,some ds=>some (d::ds)
  | _,_=>none
def toDs:List Ce→List D→List D
 | [],_ => []
 | c::cs,ds=>c.toD (gd ds 0)::toDs cs ds.tail
def toks:List Ce→List Tok
 | [] => []
 | .own t _ _::cs=>t::toks cs
 | _::cs=>toks cs
def T.toks (v:T):List Tok:=
 match v.sh with
 | .one (.c x)=>Go.Proofs.YthbbbhpjkgpdcaaGreat.toks [x]
 | .one (.agg xs)=>Go.Proofs.YthbbbhpjkgpdcaaGreat.toks xs
 | .tup _ => []
def St.seal (ts:List Tok) (σ:St):St:=σ.map (sealC ts)
def wipeC (d:Nat):Ce→Ce
 | .own t x e=>bif t.1==d then (bif x then .any else .d (.sl e)) else .own t x e
 | .eptr (some t) e off=>bif t.1==d then .any else .eptr (some t) e off
 | .inn t e off ei=>bif t.1==d then .any else .inn t e off ei
 | .ptr id off=>bif id==d then .any else .ptr id off
 | .fn f caps=>bif caps.all (fun | .ptr id _=>id != d | _=>true) then .fn f caps else .any
 | c=>c
def St.wipe (d:Nat) (σ:St):St:=σ.map (wipeC d)
def dropC (s:Tok):Ce→Ce
 | .own t x e=>bif t==s then (bif x then .any else .d (.sl e)) else .own t x e
 | .eptr (some t) e off=>bif t==s then .any else .eptr (some t) e off
 | .inn t e off ei=>bif t==s then .any else .inn t e off ei
 | c=>c
def innC (f:Tok→Bool):Ce→Ce
 | .inn t e off ei=>bif f t then .any else .inn t e off ei
 | c=>c
def setD (s:Tok) (rows:List (List D)):Ce→D→D
 | .own t _ _,d=>bif t==s then .l rows else d
 | .eptr (some t) _ _,d=>bif t==s then .l [[.l rows,gd (d.rows.getD 0 []) 1]] else d
 | _,d=>d
def setDs (s:Tok) (rows:List (List D)):List Ce→List D→List D
 | [],_ => []
 | c::cs,ds=>setD s rows c (gd ds 0)::setDs s rows cs ds.tail
def setT (s:Tok) (rows:List (List D)) (v:T):T:=
 match v.sh with
 | .one (.c x)=>⟨.one (.c (innC (· == s) x)),setDs s rows [x] v.p⟩
 | .one (.agg xs)=>⟨.one (.agg (xs.map (innC (· == s)))),setDs s rows xs v.p⟩
 | .tup _=>.any
def St.setRows (s:Tok) (rows:List (List D)) (σ:St):St:=
 ⟨σ.r.map fun p=>(p.1,setT s rows p.2),σ.e.map fun p=>(p.1,setT s rows p.2),σ.h.map fun p=>(p.1,p.2.1.map (innC (· == s)),setDs s rows p.2.1 p.2.2)⟩
def newOf:List Ce→List D→Tok→Option (List (List D))
 | .own t _ _::cs,ds,s=>bif s==t then some (gd ds 0).rows else newOf cs ds.tail s
 | _::cs,ds,s=>newOf cs ds.tail s
 | [],_,_=>none
def setN (f:Tok→Option (List (List D))):Ce→D→D
 | .own t _ _,d=>match f t with
  | some rows=>.l rows
  | none=>d
 | .eptr (some t) _ _,d=>match f t with
  | some rows=>.l [[.l rows,gd (d.rows.getD 0 []) 1]]
  | none=>d
 | _,d=>d
def setNs (f:Tok→Option (List (List D))):List Ce→List D→List D
 | [],_ => []
 | c::cs,ds=>setN f c (gd ds 0)::setNs f cs ds.tail
def setTN (f:Tok→Option (List (List D))) (v:T):T:=
 match v.sh with
 | .one (.c x)=>⟨.one (.c (innC (fun t=>(f t).isSome) x)),setNs f [x] v.p⟩
 | .one (.agg xs)=>⟨.one (.agg (xs.map (innC (fun t=>(f t).isSome)))),setNs f xs v.p⟩
 | .tup _=>.any
def St.setAll (f:Tok→Option (List (List D))) (σ:St):St:=
 ⟨σ.r.map fun p=>(p.1,setTN f p.2),σ.e.map fun p=>(p.1,setTN f p.2),σ.h.map fun p=>(p.1,p.2.1.map (innC (fun t=>(f t).isSome)),setNs f p.2.1 p.2.2)⟩
def tSize (P:Program) (t:TypeId):Option Nat:=(P.info? t).map (·.size)
def tAgg (P:Program) (t:TypeId):Option Bool:=
 match P.underlying t with
 | some (.struct _) | some (.array _ _)=>some true
 | some _=>some false
 | none=>none
def tElem (P:Program) (t:TypeId):Option TypeId:=
 match P.underlying t with
 | some (.slice e)=>some e
 | _=>none
def tField (P:Program) (t:TypeId) (i:Nat):Option (Nat × TypeId):=
 match P.underlying t with
 | some (.struct fs)=>(fs[i]?).map fun f=>(f.offset,f.type)
 | _=>none
def rowS (P:Program):Nat→TypeId→Option (List S)
 | 0,_=>none
 | n+1,t =>
  match P.underlying t with
  | some (.struct fs)=>fs.toList.foldr (fun f acc=>match rowS P n f.type,acc with | some a,some b=>some (a++b) | _,_=>none) (some [])
  | some (.slice e)=>some [.sl e]
  | some (.int k)=>some [.int k]
  | some .bool=>some [.bool]
  | some .string=>some [.str]
  | _=>none
def viewOff:Nat:=4294967296
def rowOf (P:Program) (t:TypeId):Option (List S):=
 match rowS P 9 t with
 | some row=>bif tSize P t==some row.length && !row.isEmpty&&Nat.blt row.length viewOff then some row else none
 | none=>none
def zeroD:S→D
 | .int _=>.i 0
 | .bool=>.b false
 | .str=>.s []
 | .sl _=>.l []
 | .opq=>D0
def zC (t:Tok) (s:S):Ce:=
 match s with
 | .sl e=>.own t true e
 | _=>.d s
def zeroC (f:S→Nat) (d:Nat):Nat→List S→List Ce
 | _,[] => []
 | i,s::r=>zC (d,i+f s) s::zeroC f d (i+1) r
def zeroMatch (P:Program):List S→List Value→Bool
 | [],[]=>true
 | .int k::r,.int k' n::vs=>k==k'&&n==0&&zeroMatch P r vs
 | .bool::r,.bool b::vs => !b&&zeroMatch P r vs
 | .str::r,.string s::vs=>s.data.toList.isEmpty&&zeroMatch P r vs
 | .sl e::r,.slice none 0 0::vs=>(rowOf P e).isSome&&zeroMatch P r vs
 | _,_=>false
def zeroOk (P:Program) (t:TypeId) (row:List S):Bool:=
 match P.info? t with
 | some i=>match i.zero with
  | some v=>zeroMatch P row v.cells.toList
  | none=>false
 | none=>false
def rowZero (P:Program) (e:TypeId):Bool:=
 match rowOf P e with
 | some row=>zeroOk P e row
 | none=>false
def bitI (op:BinOp) (k:IntKind) (x y:Int):Int:=
 match op with
 | .and=>k.wrap (BitVec.ofInt k.bits x &&& BitVec.ofInt k.bits y).toNat
 | _=>k.wrap (BitVec.ofInt k.bits x ^^^ BitVec.ofInt k.bits y).toNat
def maxI (x y:Int):Int:=if x<y then y else x
def evInt (op:BinOp) (k:IntKind) (x y:Int):Option (T × Bool):=
 match op with
 | .add=>some (.c (.d (.int k)) (.i (k.wrap (x+y))),true)
 | .sub=>some (.c (.d (.int k)) (.i (k.wrap (x - y))),true)
 | .mul=>some (.c (.d (.int k)) (.i (k.wrap (x*y))),true)
 | .quo=>some (.c (.d (.int k)) (.i (k.wrap (x.tdiv y))),y != 0)
 | .rem=>some (.c (.d (.int k)) (.i (x.tmod y)),y != 0)
 | .and=>some (.c (.d (.int k)) (.i (bitI .and k x y)),true)
 | .xor=>some (.c (.d (.int k)) (.i (bitI .xor k x y)),true)
 | .shr=>some (.c (.d (.int k)) (.i (x.fdiv (2 ^ (min y.toNat k.bits)))),decide (0≤y))
 | .eql=>some (.c (.d .bool) (.b (x==y)),true)
 | .neq=>some (.c (.d .bool) (.b (x != y)),true)
 | .lss=>some (.c (.d .bool) (.b (decide (x<y))),true)
 | .leq=>some (.c (.d .bool) (.b (decide (x≤y))),true)
 | .gtr=>some (.c (.d .bool) (.b (decide (x > y))),true)
 | .geq=>some (.c (.d .bool) (.b (decide (x≥y))),true)
 | _=>none
def T.sc (v:T):Option (S × D):=
 match v.sh with
 | .one (.c (.d s))=>some (s,gd v.p 0)
 | .one (.c (.kb b))=>some (.bool,.b b)
 | _=>none
def isBoolT (P:Program) (t:TypeId):Bool:=
 match P.underlying t with
 | some .bool=>true
 | _=>false
def isStrT (P:Program) (t:TypeId):Bool:=
 match P.underlying t with
 | some .string=>true
 | _=>false
def evShr (op:BinOp) (k:IntKind) (x y:Int):Option (T × Bool):=
 match op with
 | .shr=>evInt .shr k x y
 | _=>none
def evBin (tb:Bool) (op:BinOp) (a b:T):Option (T × Bool):=
 match a.sc,b.sc with
 | some (.int k,x),some (.int k',y)=>bif k==k' then evInt op k x.int y.int else evShr op k x.int y.int
 | some (.bool,x),some (.bool,y)=>bif tb then (match op with
  | .eql=>some (.c (.d .bool) (.b (x.bool==y.bool)),true)
  | .neq=>some (.c (.d .bool) (.b (!(x.bool==y.bool))),true)
  | _=>none) else none
 | some (.str,x),some (.str,y)=>match op with
  | .eql=>some (.c (.d .bool) (.b (x.str==y.str)),true)
  | .neq=>some (.c (.d .bool) (.b (!(x.str==y.str))),true)
  | .add=>some (.c (.d .str) (.s (x.str++y.str)),decide (x.str.length+y.str.length<1099511627776))
  | _=>none
 | _,_=>none
def fldOk:Option TypeDesc→S→Bool
 | some (.int _),.int _=>true
 | some .bool,.bool=>true
 | some .string,.str=>true
 | _,_=>false
def fldsOk (P:Program):List Field→Nat→List S→Bool
 | [],_,[]=>true
 | f::fs,i,s::ss=>(f.offset==i&&f.name != "_" && tAgg P f.type==some false&&fldOk (P.underlying f.type) s)&&fldsOk P fs (i+1) ss
 | _,_,_=>false
def fldsOkN (P:Program):List Field→Nat→List S→Bool
 | [],_,[]=>true
 | f::fs,i,s::ss=>bif tAgg P f.type==some false then (f.offset==i&&f.name != "_" && fldOk (P.underlying f.type) s)&&fldsOkN P fs (i+1) ss
  else match P.underlying f.type,tSize P f.type with
   | some (.struct gs),some n=>(f.offset==i&&f.name != "_" && tAgg P f.type==some true && !P.stoodInHeld f.type&&fldsOk P gs.toList 0 ((s::ss).take n)&&Nat.ble n (s::ss).length)&&fldsOkN P fs (i+n) ((s::ss).drop n)
   | _,_=>false
 | _,_,_=>false
def eqRow:List S→List D→List D→Bool
 | [],_,_=>true
 | .int _::r,p,q=>(gd p 0).int==(gd q 0).int&&eqRow r p.tail q.tail
 | .bool::r,p,q=>(gd p 0).bool==(gd q 0).bool&&eqRow r p.tail q.tail
 | .str::r,p,q=>(gd p 0).str==(gd q 0).str&&eqRow r p.tail q.tail
 | .sl _::_,_,_=>false
 | .opq::_,_,_=>false
def evCmp (P:Program) (op:BinOp) (t:TypeId) (a b:T):Option (T × Bool):=
 match a.sh,b.sh with
 | .one (.agg cs),.one (.agg cs')=>match allS cs,P.underlying t with
  | some ss,some (.struct fs)=>bif cs==ss.map .d&&cs'==ss.map .d&&fldsOkN P fs.toList 0 ss && !P.stoodInHeld t && !P.eqGuardType P.depth t then (match op with
   | .eql=>some (.c (.d .bool) (.b (eqRow ss a.p b.p)),true)
   | .neq=>some (.c (.d .bool) (.b (!(eqRow ss a.p b.p))),true)
   | _=>none) else none
  | _,_=>none
 | _,_=>none
def evUn (op:UnOp) (a:T):Option T:=
 match op,a.sc with
 | .not,some (.bool,x)=>some (.c (.d .bool) (.b (!x.bool)))
 | .neg,some (.int k,x)=>some (.c (.d (.int k)) (.i (k.wrap (0 - x.int))))
 | _,_=>none
def T.slice (v:T):Option (Option Tok × TypeId × List (List D)):=
 match v.sh with
 | .one (.c (.d (.sl e)))=>some (none,e,(gd v.p 0).rows)
 | .one (.c (.own t x e))=>some (bif x then some t else none,e,(gd v.p 0).rows)
 | _=>none
def cut (ag:Bool) (n off:Nat) (cs:List Ce) (ds:List D):Option T:=
 bif Nat.ble (off+n) cs.length then
  (bif ag then some ⟨.one (.agg ((cs.drop off).take n)),sub ds off n⟩ else match cs[off]? with
   | some c=>bif n==1 then some (.c c (gd ds off)) else none
   | none=>none)
 else none
def S.flat:S→Bool
 | .sl _=>false
 | .opq=>false
 | _=>true
def deepO:Option Tok→Bool
 | some t=>deepT t
 | none=>false
def dcell (tk:Option Tok) (e:TypeId) (j:Nat):S→Ce
 | .sl ei=>match tk with
  | some t=>bif deepT t then .inn t e j ei else .d (.sl ei)
  | none=>.d (.sl ei)
 | s=>.d s
def dcells (tk:Option Tok) (e:TypeId):Nat→List S→List Ce
 | _,[] => []
 | j,s::r=>dcell tk e j s::dcells tk e (j+1) r
def ddats (x:D) (row:List D):Nat→List S→List D
 | _,[] => []
 | j,.sl _::r=>x::ddats x row (j+1) r
 | j,_::r=>gd row j::ddats x row (j+1) r
def evLoad (P:Program) (t:TypeId) (σ:St) (a:T):Option T:=
 match tAgg P t,tSize P t with
 | some ag,some n =>
  match a.sh with
  | .one (.c (.ptr id off))=>match hlook id σ.h with
   | some (cs,ds)=>cut ag n off cs ds
   | none=>none
  | .one (.c (.eptr tk e off))=>match rowOf P e with
   | some row=>bif deepO tk then cut ag n off (dcells tk e 0 row) (ddats (gd a.p 0) (((gd ((gd a.p 0).rows.getD 0 []) 0).rows).getD (gd ((gd a.p 0).rows.getD 0 []) 1).int.toNat []) 0 row)
    else cut ag n off (row.map .d) (((gd ((gd a.p 0).rows.getD 0 []) 0).rows).getD (gd ((gd a.p 0).rows.getD 0 []) 1).int.toNat [])
   | none=>none
  | .one (.c (.cptr cells off))=>cut ag n off (cells.map .d) ((gd a.p 0).rows.getD 0 [])
  | _=>none
 | _,_=>none
def addOff (a:T) (o:Nat):Option T:=
 match a.sh with
 | .one (.c (.ptr id off))=>some (.c (.ptr id (off+o)) D0)
 | .one (.c (.eptr t e off))=>some (.c (.eptr t e (off+o)) (gd a.p 0))
 | .one (.c (.cptr cells off))=>some (.c (.cptr cells (off+o)) (gd a.p 0))
 | _=>none
def T.intOf (v:T):Option Int:=
 match v.sc with
 | some (.int _,d)=>some d.int
 | _=>none
def inRange (n:Int) (len:Nat):Bool:=decide (0≤n)&&decide (n<len)
def evIndexAddr (e:TypeId) (x i:T):Option (T × Bool):=
 match i.intOf,x.slice with
 | some n,some (t,e',rows)=>bif e==e' then some (.c (.eptr t e 0) (.l [[.l rows,.i n]]),inRange n rows.length) else none
 | _,_=>none
def evLen (P:Program) (t:TypeId) (x:T):Option T:=
 match x.sc with
 | some (.str,d)=>bif isStrT P t then some (.c (.d (.int .i64)) (.i d.str.length)) else none
 | _=>match x.slice with
  | some (_,_,rows)=>bif (tElem P t).isSome then some (.c (.d (.int .i64)) (.i rows.length)) else none
  | none=>none
def bound (dflt:Int):Option T→Option Int
 | none=>some dflt
 | some v=>v.intOf
def evView (P:Program) (t:TypeId) (x:T) (lo hi:Option T):Option (T × Bool):=
 match x.sh,hi with
 | .one (.c (.own tk true e)),none=>match bound 0 lo,rowOf P e with
  | some l,some row=>bif tElem P t==some e && !deepT tk&&row.all S.flat then some (.c (.inn tk e viewOff e) (.l [[gd x.p 0,.i l]]),decide (0≤l)&&decide (l≤(gd x.p 0).rows.length)) else none
  | _,_=>none
 | _,_=>none
def evSlice (P:Program) (t:TypeId) (x:T) (lo hi:Option T):Option (T × Bool):=
 match x.sc with
 | some (.str,d)=>match bound 0 lo,bound d.str.length hi with
  | some l,some h=>bif !isStrT P t then none else some (.c (.d .str) (.s ((d.str.take h.toNat).drop l.toNat)),decide (0≤l)&&decide (l≤h)&&decide (h≤d.str.length))
  | _,_=>none
 | some (.sl e,d)=>match bound 0 lo,bound d.rows.length hi with
  | some l,some h=>bif !(tElem P t==some e) then none else some (.c (.d (.sl e)) (.l ((d.rows.take h.toNat).drop l.toNat)),decide (0≤l)&&decide (l≤h)&&decide (h≤d.rows.length))
  | _,_=>none
 | _=>none
def capArg (σ:St):Cap→D→Option (Cap × D)
 | .d s,d=>some (.d s,d)
 | .cptr cells off,d=>some (.cptr cells off,d)
 | .ptr id off,_=>match hlook id σ.h with
  | some (cs,ds)=>match allS cs with
   | some ss=>some (.cptr ss off,.l [toDs cs ds])
   | none=>none
  | none=>none
def capArgs (σ:St):List Cap→List D→Option (List Cap × List D)
 | [],_=>some ([],[])
 | c::cs,ds=>match capArg σ c (gd ds 0),capArgs σ cs ds.tail with
  | some (d,x),some (ds,xs)=>some (d::ds,x::xs)
  | _,_=>none
def Cap.ce:Cap→Ce
 | .d s=>.d s
 | .ptr id off=>.ptr id off
 | .cptr cells off=>.cptr cells off
def innD (off:Nat) (x:D):D:=bif Nat.ble viewOff off then .l ((gd (x.rows.getD 0 []) 0).rows.drop (gd (x.rows.getD 0 []) 1).int.toNat) else gd (((gd (x.rows.getD 0 []) 0).rows).getD (gd (x.rows.getD 0 []) 1).int.toNat []) off
def Ce.aS:Ce→Option S
 | .inn _ _ _ ei=>some (.sl ei)
 | c=>c.toS
def Ce.aD (c:Ce) (x:D):D:=
 match c with
 | .inn _ _ off _=>innD off x
 | c=>c.toD x
def aSs:List Ce→Option (List S)
 | []=>some []
 | c::cs=>match c.aS,aSs cs with
  | some d,some ds=>some (d::ds)
  | _,_=>none
def aDs:List Ce→List D→List D
 | [],_ => []
 | c::cs,ds=>c.aD (gd ds 0)::aDs cs ds.tail
def toksA:List Ce→List Tok
 | [] => []
 | .own t _ _::cs=>t::toksA cs
 | .inn t _ _ _::cs=>t::toksA cs
 | _::cs=>toksA cs
def arg (P:Program) (σ:St) (v:T):Option T:=
 match v.sh with
 | .one (.c (.fn f caps))=>match capArgs σ caps ((gd v.p 0).rows.getD 0 []) with
  | some (cs,ds)=>some (.c (.fn f cs) (.l [ds]))
  | none=>none
 | .one (.c (.cptr cells off))=>some (.c (.cptr cells off) (gd v.p 0))
 | .one (.c (.ptr id off))=>match capArg σ (.ptr id off) D0 with
  | some (c,d)=>some (.c c.ce d)
  | _=>none
 | .one (.c (.eptr tk e off))=>match rowOf P e with
  | some row=>bif deepO tk then none else some (.c (.cptr row off) (.l [sub (((gd ((gd v.p 0).rows.getD 0 []) 0).rows).getD (gd ((gd v.p 0).rows.getD 0 []) 1).int.toNat []) 0 row.length]))
  | none=>none
 | .one (.c x)=>match x.aS with
  | some s=>some (.c (.d s) (x.aD (gd v.p 0)))
  | none=>none
 | .one (.agg xs)=>match aSs xs with
  | some ss=>some ⟨.one (.agg (ss.map .d)),aDs xs v.p⟩
  | none=>none
 | .tup _=>none
def evArgs (P:Program) (σ:St):List T→Option (List T)
 | []=>some []
 | c::cs=>match arg P σ c,evArgs P σ cs with
  | some d,some ds=>some (d::ds)
  | _,_=>none
def nilT (P:Program) (nd:Bool) (x:Operand) (t:Option TypeId):Option T:=
 match x,t with
 | .const (.slice none 0 0),some t=>match tElem P t with
  | some e=>bif (rowOf P e).isSome then some (.c (bif nd then .d (.sl e) else .own (0,0) true e) (.l [])) else none
  | none=>none
 | _,_=>none
def opdT (P:Program) (σ:St) (t:TypeId) (x:Operand):T:=
 match nilT P true x (some t) with
 | some v=>v
 | none=>opd σ x
def argN (P:Program) (σ:St) (nd:Bool) (x:Operand) (t:Option TypeId):Option T:=
 match nilT P nd x t with
 | some t=>some t
 | none=>arg P σ (opd σ x)
def evArgsN (P:Program) (σ:St) (nd:Bool):List Operand→List TypeId→Option (List T)
 | [],_=>some []
 | x::xs,ts=>match argN P σ nd x ts.head?,evArgsN P σ nd xs ts.tail with
  | some d,some ds=>some (d::ds)
  | _,_=>none
def capToks (σ:St):List Cap→List Tok
 | [] => []
 | .ptr id _::cs=>(match hlook id σ.h with | some (xs,_)=>toks xs | none => [])++capToks σ cs
 | _::cs=>capToks σ cs
def argToks (σ:St) (v:T):List Tok:=
 match v.sh with
 | .one (.c (.fn _ caps))=>capToks σ caps
 | .one (.c (.ptr id off))=>capToks σ [.ptr id off]
 | .one (.c x)=>toksA [x]
 | .one (.agg xs)=>toksA xs
 | .tup _ => []
def capTs:List Cap→List D→List T
 | [],_ => []
 | c::cs,ds=>.c c.ce (gd ds 0)::capTs cs ds.tail
def Ce.prim:Ce→Bool
 | .d (.sl _)=>false
 | .d _=>true
 | .kb _=>true
 | _=>false
def Sh1.prim:Sh1→Bool
 | .c x=>x.prim
 | .agg xs=>xs.all Ce.prim
def Sh.prim:Sh→Bool
 | .one x=>x.prim
 | .tup xs=>xs.all Sh1.prim
def retokC (d:Nat):Ce→Ce
 | .own t x e=>.own (d,t.2) x e
 | c=>c
section
variable (P:Program)
def capOf (v:T):Option (Cap × D):=
 match v.sh with
 | .one (.c (.ptr id off))=>some (.ptr id off,D0)
 | .one (.c (.cptr cells off))=>some (.cptr cells off,gd v.p 0)
 | .one (.c (.d s))=>some (.d s,gd v.p 0)
 | _=>none
def capsOf (σ:St):List Operand→Option (List Cap × List D)
 | []=>some ([],[])
 | x::xs=>match capOf (opd σ x),capsOf σ xs with
  | some (c,d),some (cs,ds)=>some (c::cs,d::ds)
  | _,_=>none
def evQ (σ:St) (o:Oper):Option (T × Bool):=
 match o.op with
 | .move x | .assign x=>some (opd σ x,true)
 | .nilCheck x=>match (opd σ x).sh with
  | .one (.c (.ptr _ _))=>some (opd σ x,true)
  | _=>none
 | .pick c a b=>match (opd σ c).sh,(opd σ a).sc,(opd σ b).sc with
  | .one (.c (.kb t)),_,_=>some (bif t then opd σ a else opd σ b,true)
  | .one (.c (.d .bool)),some (s,x),some (s',y)=>bif s==s' then some (.c (.d s) (bif (gd (opd σ c).p 0).bool then x else y),true) else none
  | _,_,_=>none
 | .load t a=>(evLoad P t σ (opd σ a)).map (·,true)
 | .fieldAddr t x i=>match tField P t i with
  | some (off,ft)=>match tSize P ft with
   | some (_+1)=>(addOff (opd σ x) off).map (·,true)
   | _=>none
  | none=>none
 | .field t x i=>match tField P t i,(opd σ x).sh with
  | some (off,ft),.one (.agg cs)=>match tAgg P ft,tSize P ft with
   | some ag,some n=>(cut ag n off cs (opd σ x).p).map (·,true)
   | _,_=>none
  | _,_=>none
 | .indexAddr t x i=>match tElem P t with
  | some e=>evIndexAddr e (opd σ x) (opd σ i)
  | none=>none
 | .index t x i=>match (opd σ x).sc,(opd σ i).intOf with
  | some (.str,d),some n=>bif !isStrT P t then none else some (.c (.d (.int .u8)) (.i ((d.str.getD n.toNat 0).toNat:Int)),inRange n d.str.length)
  | _,_=>none
 | .binOp op t x y _=>match evCmp P op t (opd σ x) (opd σ y) with
  | some r=>some r
  | none=>evBin (isBoolT P t) op (opd σ x) (opd σ y)
 | .unOp op _ x=>(evUn op (opd σ x)).map (·,true)
 | .extract t i=>match (opd σ t).sh with
  | .tup vs=>match vs[i]? with
   | some x=>some (⟨.one x,sub (opd σ t).p ((vs.take i).foldr (fun s n=>s.size+n) 0) x.size⟩,true)
   | none=>none
  | _=>none
 | .slice t x lo hi none=>match evView P t (opd σ x) (lo.map (opd σ)) (hi.map (opd σ)) with
  | some r=>some r
  | none=>evSlice P t (opd σ x) (lo.map (opd σ)) (hi.map (opd σ))
 | .call { callee:=.builtin .len,args:=xs,argTypes:=ts }=>match xs.toList,ts.toList with
  | [x],[t]=>(evLen P t (opd σ x)).map (·,true)
  | _,_=>none
 | .call { callee:=.builtin .max,args:=xs,.. }=>match xs.toList with
  | [x,y]=>match (opd σ x).sc,(opd σ y).sc with
   | some (.int k,p),some (.int k',q)=>bif k==k' then some (.c (.d (.int k)) (.i (maxI p.int q.int)),true) else none
   | _,_=>none
  | _=>none
 | .convert t' t x=>match P.underlying t',P.underlying t,(opd σ x).sc with
  | some _,some (.int k),some (.int _,d)=>some (.c (.d (.int k)) (.i (k.wrap d.int)),true)
  | some _,some .string,some (.str,d)=>some (.c (.d .str) d,true)
  | _,_,_=>none
 | .makeFunc (.func f) first caps=>bif first.isEmpty then (match capsOf σ caps.toList with
  | some (cs,ds)=>some (.c (.fn f cs) (.l [ds]),true)
  | none=>none) else none
 | _=>none
def nodupB:List Tok→Bool
 | []=>true
 | t::ts => !ts.contains t&&nodupB ts
def flatRow (e:TypeId):Bool:=
 match rowOf P e with
 | some row=>row.all S.flat
 | none=>false
def deepOk:Ce→Bool
 | .d s=>s.flat
 | .kb _=>true
 | .own t true e=>t.1 != 1000001&&(deepT t||flatRow P e)
 | _=>false
def markOk:Ce→Bool
 | .d s=>s.flat
 | .kb _=>true
 | .own t true e=>deepT t||flatRow P e
 | _=>false
def dropTs:List Tok→St→St
 | [],σ=>σ
 | t::ts,σ=>dropTs ts (σ.map (dropC t))
def litRows (σ:St) (row:List S):List (Nat × Operand)→Nat→Option (List (List D) × List Tok)
 | [],_=>some ([],[])
 | (i,x)::r,k=>bif i==k then (match (opd σ x).cells,litRows σ row r (k+1) with
  | some (cs,ds),some (rows,ts)=>bif allS cs==some row then some (toDs cs ds::rows,toks cs++ts) else none
  | _,_=>none) else none
def setSub {α:Type}:List α→Nat→List α→List α
 | l,_,[]=>l
 | l,i,x::xs=>setSub (l.set i x) (i+1) xs
def litCells (t:TypeId) (σ:St):List (Nat × Operand)→List Ce × List D→Option (List Ce × List D)
 | [],acc=>some acc
 | (i,x)::r,(cs,ds)=>match tField P t i,(opd σ x).cells with
  | some (off,ft),some (cs',ds')=>bif tSize P ft==some cs'.length&&Nat.ble (off+cs'.length) cs.length then litCells t σ r (setSub cs off cs',setSub ds off ds') else none
  | _,_=>none
abbrev Stp:=Option (St × Bool)
def dzero (b:Bool):S→Nat
 | .sl e=>bif b && !flatRow P e then 1000000 else 0
 | _=>0
def evAlloc (σ:St) (d:Nat) (b:Bool) (t:TypeId):Stp:=
 match rowOf P t with
 | some row=>bif !zeroOk P t row then none else some (St.put ⟨(σ.wipe d).r,(σ.wipe d).e,hput d (zeroC (dzero P b) d 0 row,row.map zeroD) (σ.wipe d).h⟩ (some d) (.c (.ptr d 0) D0),true)
 | none=>none
def evBox (σ:St) (d:Nat) (x:Operand):Stp:=
 match (opd (σ.wipe d) x).cells with
 | some cs=>some (St.put ⟨(σ.wipe d).r,(σ.wipe d).e,hput d cs (σ.wipe d).h⟩ (some d) (.c (.ptr d 0) D0),true)
 | none=>none
def fieldsOk (t:TypeId):Bool:=
 match P.underlying t with
 | some (.struct fs)=>fs.toList.all fun f=>(tSize P f.type).isSome
 | _=>false
def evBuild (σ:St) (d:Nat) (b:Bool) (t:TypeId) (parts:List (Nat × Operand)):Stp:=
 match rowOf P t with
 | some row=>match litCells P t (σ.wipe d) parts (zeroC (dzero P b) d 0 row,row.map zeroD) with
  | some (cs,ds)=>bif !(zeroOk P t row&&fieldsOk P t) then none else some ((σ.wipe d).put (some d) ⟨.one (.agg cs),ds⟩,true)
  | none=>none
 | none=>none
def evBuildSlice (σ:St) (d:Nat) (t:TypeId) (n:Nat) (parts:List (Nat × Operand)):Stp:=
 match tElem P t with
 | some e=>match rowOf P e with
  | some row=>bif parts.length==n&&decide (n*row.length≤16777216)&&zeroOk P e row then (match litRows σ row parts 0 with
   | some (rows,ts)=>some (((σ.seal ts).wipe d).put (some d) (.c (.own (d,0) true e) (.l rows)),true)
   | none=>none) else none
  | none=>none
 | none=>none
def evBuildSliceD (σ:St) (d:Nat) (t:TypeId) (n:Nat) (parts:List (Nat × Operand)):Stp:=
 match tElem P t,parts with
 | some e,[]=>match rowOf P e with
  | some row=>bif n==0&&zeroOk P e row then some ((σ.wipe d).put (some d) (.c (.own (d,1000000) true e) (.l [])),true) else none
  | none=>none
 | some e,[(i,x)]=>match rowOf P e,(opd (σ.wipe d) x).cells with
  | some row,some (cs,ds)=>bif n==1&&i==0&&allS cs==some row&&Nat.ble row.length 16777216&&zeroOk P e row&&cs.all (deepOk P)&&nodupB (toks cs) && !(toks cs).contains (d,1000000) then
    some ((dropTs (toks cs) (σ.wipe d)).put (some d) (.c (.own (d,1000000) true e) (.l [toDs cs ds])),true) else none
  | _,_=>none
 | _,_=>none
def bytesOk (e:TypeId):Bool:=
 match P.info? e with
 | some i=>decide (i.bytes≤16384)
 | none=>false
def evMakeSlice (σ:St) (d ix:Nat) (t:TypeId) (n c:Operand):Stp:=
 match tElem P t with
 | some e=>match rowOf P e,(opd σ n).intOf,(opd σ c).intOf with
  | some row,some x,some y=>some ((σ.wipe d).put (some d) (.c (.own (d,ix) true e) (.l (List.replicate x.toNat (row.map zeroD)))),decide (0≤x)&&decide (x=y)&&decide (x≤4294967296)&&zeroOk P e row&&bytesOk P e)
  | _,_,_=>none
 | none=>none
def evStore (σ:St) (dst:Option Nat) (t:TypeId) (a x:Operand):Stp:=
 match tSize P t,(opdT P σ t x).cells with
 | some n,some (cs,ds)=>bif cs.length==n then (match (opd σ a).sh with
  | .one (.c (.ptr id off))=>match hlook id σ.h with
   | some (cs',ds')=>bif Nat.ble (off+n) cs'.length then some (St.put ⟨σ.r,σ.e,hput id (setSub cs' off cs,setSub ds' off ds) σ.h⟩ dst .none_,true) else none
   | none=>none
  | .one (.c (.eptr (some s) e off))=>match rowOf P e,allS cs with
   | some row,some ss=>bif ((row.drop off).take n)==ss && !(toks cs).contains s&&Nat.ble 1 n&&Nat.ble (off+n) row.length&&(!deepT s||(cs.all (deepOk P)&&nodupB (toks cs)&&(s.1 != 1000001||(toks cs).isEmpty))) then
     (let pr:=(gd (opd σ a).p 0).rows.getD 0 []
      let rows:=(gd pr 0).rows
      let i:=(gd pr 1).int.toNat
      some (St.put ((bif deepT s then dropTs (toks cs) σ else σ.seal (toks cs)).setRows s (rows.set i (setSub (sub (rows.getD i []) 0 row.length) off (toDs cs ds)))) dst .none_,true)) else none
   | _,_=>none
  | _=>none)
  else none
 | _,_=>none
def evNil (σ:St) (d ix:Nat) (t:TypeId):Stp:=
 match tElem P t with
 | some e=>bif (rowOf P e).isSome then some ((σ.wipe d).put (some d) (.c (.own (d,ix) true e) (.l [])),true) else none
 | none=>none
def evAppend (σ:St) (d:Nat) (tt:TypeId) (x y:Operand):Stp:=
 match (opd σ x).sh,(opd σ y).slice with
 | .one (.c (.own t b e)),some (tk,e',rows')=>bif e==e'&&tElem P tt==some e&&rowZero P e&&(bif deepT t&&b then deepO tk&&tk != some t else !deepO tk)&&t.1 != 1000001&&tk.all (fun t'=>t'.1 != 1000001) then
   some (((bif deepT t&&b then dropTs tk.toList σ else σ).map (dropC t)).put (some d) (.c (.own t b e) (.l ((gd (opd σ x).p 0).rows++rows'))),decide (((gd (opd σ x).p 0).rows++rows').length≤4294967296)&&bytesOk P e) else none
 | _,_=>none
def evPure (σ:St) (o:Oper):Stp:=
 match evQ P σ o with
 | some (v,ok)=>some (σ.put o.dst v,ok)
 | none=>none
def Sh.isK:Sh→Bool
 | .tup [.agg [_]]=>true
 | _=>false
def Sh.isKo:Sh→Bool
 | .tup [.agg [.kb true]]=>true
 | _=>false
def Sh.ownOr:Sh→Bool
 | .one (.c (.own _ _ _))=>true
 | .one (.c (.d (.int _)))=>true
 | _=>false
def Sh.isW:Sh→Bool
 | .tup [_]=>true
 | .tup (.agg [.any]::_::_)=>true
 | _=>false
def Sh.isP:Sh→Bool
 | .tup (.agg [.any]::_::_)=>true
 | _=>false
def resC:Ce→Bool
 | .d _=>true
 | .own t _ _=>t.1==0
 | _=>false
def Sh1.ces:Sh1→List Ce
 | .c x => [x]
 | .agg xs=>xs
def Sh.ces:Sh→List Ce
 | .one x=>x.ces
 | .tup xs=>xs.flatMap Sh1.ces
variable (call:FuncId→List T→Option (T × Bool))
def deepId:FuncId:=4294967295
def apartId:FuncId:=4294967294
def deepAt (d:Nat):Bool:=(call deepId [.c .any (.i d)]).isSome
def apartC:Ce→Bool
 | .d s=>s.flat
 | .kb _=>true
 | .own t x e=>(deepT t&&x)||flatRow P e
 | _=>false
def apart (sh:Sh):Bool:=sh.prim||((call apartId []).isSome&&sh.ces.all (apartC P))
def evCall (σ:St) (d:Nat) (f:Operand) (xs:List Operand) (tys:List TypeId):Stp:=
 match (opd σ f).sh with
 | .one (.c (.fn g caps))=>match evArgsN P σ (deepAt call (1000000+d)) xs tys,capArgs σ caps ((gd (opd σ f).p 0).rows.getD 0 []) with
  | some vs,some (cs,ds)=>match call g (vs++capTs cs ds) with
   | some (r,ok)=>bif !r.sh.isW&&r.sh.ces.all resC then some (((σ.seal (bif apart P call r.sh then [] else (xs.map (opd σ)).flatMap (argToks σ)++capToks σ caps)).wipe d).put (some d) ⟨r.sh.map (retokC d),r.p⟩,ok) else none
   | none=>none
  | _,_=>none
 | _=>none
def evW0 (σ:St) (dst:Option Nat) (f:Operand) (xs:List Operand):Stp:=
 match (opd σ f).sh,xs with
 | .one (.c (.fn g [])),[.tmp i]=>match (opd σ (.tmp i)).sh with
  | .one (.c (.own t true e))=>match call g [.c (.d (.sl e)) (gd (opd σ (.tmp i)).p 0)] with
   | some (r,ok)=>bif rowOf P e==some [.int .i64]&&t.1 != 1000001 then (match r.sh with
    | .tup [.c _]=>some ((σ.setRows t (gd r.p 0).rows).put dst .none_,ok)
    | .tup [.agg []]=>some ((σ.map (dropC t)).put dst (.c (.own t true e) (gd r.p 0)),ok)
    | _=>none) else none
   | none=>none
  | _=>none
 | _,_=>none
def evK (σ:St) (dst:Option Nat) (f:Operand) (xs:List Operand) (tys:List TypeId):Stp:=
 match (opd σ f).sh,xs with
 | .one (.c (.fn g [])),.tmp i::ys=>match (opd σ (.tmp i)).sh with
  | .one (.c (.own t true e))=>match evArgsN P (σ.map (dropC t)) false ys tys.tail,rowOf P e with
   | some vs,some row=>match call g (.c (.d (.sl e)) (gd (opd σ (.tmp i)).p 0)::vs) with
    | some (r,ok)=>bif r.sh.isK&&row.all S.flat && !((ys.map (opd (σ.map (dropC t)))).flatMap (argToks (σ.map (dropC t)))).contains t&&(!r.sh.isKo||(ys.map (opd (σ.map (dropC t)))).all fun q=>q.sh.ownOr)&&t.1 != 1000001 then
      some ((σ.map (dropC t)).put dst (.c (.own t true e) (gd r.p 0)),ok) else none
    | none=>none
   | _,_=>none
  | _=>none
 | _,_=>none
def Sh.isX:Sh→Bool
 | .tup [.agg [_,_,_]]=>true
 | _=>false
def evX (σ:St) (dst:Option Nat) (f:Operand) (xs:List Operand):Stp:=
 match (opd σ f).sh,xs with
 | .one (.c (.fn g [])),[.tmp i,y,z]=>match (opd σ (.tmp i)).sh,(opd σ y).sh with
  | .one (.c (.own t true e)),.one (.c (.d (.int .i64)))=>match (opd σ z).sh with
   | .one (.c (.d (.int .i64)))=>match call g [.c (.d (.sl e)) (gd (opd σ (.tmp i)).p 0),.c (.d (.int .i64)) (gd (opd σ y).p 0),.c (.d (.int .i64)) (gd (opd σ z).p 0)] with
    | some (r,ok)=>bif r.sh.isX&&deepT t&&t.1 != 1000001 then some ((σ.map (dropC t)).put dst (.c (.own t true e) (gd r.p 0)),ok) else none
    | none=>none
   | .one (.c (.own t2 true e2))=>match call g [.c (.d (.sl e)) (gd (opd σ (.tmp i)).p 0),.c (.d (.int .i64)) (gd (opd σ y).p 0),.c (.d (.sl e)) (gd (opd σ z).p 0)] with
    | some (r,ok)=>bif r.sh.isX&&e==e2&&deepT t&&deepT t2&&t2 != t&&t.1 != 1000001&&t2.1 != 1000001 then some (((σ.map (dropC t2)).map (dropC t)).put dst (.c (.own t true e) (gd r.p 0)),ok) else none
    | none=>none
   | _=>none
  | _,_=>none
 | _,_=>none
def Sh.isM:Sh→Bool
 | .tup [.agg [_,_]]=>true
 | _=>false
def margT (v:T):Option T:=
 match v.sh with
 | .one (.c x)=>match x.toS with
  | some s=>some (.c (.d s) (x.toD (gd v.p 0)))
  | none=>none
 | .one (.agg xs)=>match allS xs with
  | some ss=>some ⟨.one (.agg (ss.map .d)),toDs xs v.p⟩
  | none=>none
 | .tup _=>none
def evMi (σ:St) (dst:Option Nat) (f:Operand) (xs:List Operand):Stp:=
 match (opd σ f).sh,xs with
 | .one (.c (.fn g [])),[x,k]=>match (opd σ x).sh,(opd σ k).sh with
  | .one (.c (.inn t e off ei)),.one (.c (.d (.int .i64)))=>match rowOf P e,call g [.c (.d (.sl ei)) (innD off (gd (opd σ x).p 0)),.c (.d (.int .i64)) (gd (opd σ k).p 0)] with
   | some row,some (r,ok)=>bif r.sh.isM&&Nat.blt off viewOff then
     (let pr:=(gd (opd σ x).p 0).rows.getD 0 []
      let rows:=(gd pr 0).rows
      let i:=(gd pr 1).int.toNat
      some ((σ.setRows t (rows.set i (setSub (sub (rows.getD i []) 0 row.length) off [gd r.p 1]))).put dst (.c (.d (.int .i64)) (gd r.p 0)),ok)) else none
   | _,_=>none
  | _,_=>none
 | _,_=>none
def evM (σ:St) (dst:Option Nat) (f:Operand) (xs:List Operand):Stp:=
 match (opd σ f).sh,xs with
 | .one (.c (.fn g [])),[x,k]=>match (opd σ x).cells,(opd σ k).sh,margT (opd σ x) with
  | some (cs,_),.one (.c (.d (.int .i64))),some q=>match call g [q,.c (.d (.int .i64)) (gd (opd σ k).p 0)] with
   | some (r,ok)=>bif r.sh.isM&&cs.all (markOk P)&&nodupB (toks cs) then some ((σ.setAll (newOf cs r.p.tail)).put dst (.c (.d (.int .i64)) (gd r.p 0)),ok) else none
   | none=>none
  | _,_,_=>none
 | _,_=>none
def canonC (j:Nat):Ce→Option Ce
 | .d s=>some (.d s)
 | .kb _=>some (.d .bool)
 | .own t true e=>some (.own (1000000,bif deepT t then 1000000+j else j) true e)
 | .own _ false e=>some (.d (.sl e))
 | _=>none
def canonCs:Nat→List Ce→Option (List Ce)
 | _,[]=>some []
 | j,c::cs=>match canonC j c,canonCs (j+1) cs with
  | some d,some ds=>some (d::ds)
  | _,_=>none
def backC:Ce→Ce→Option Ce
 | .own t true e,.own t' true e'=>bif t'.1==0&&e==e'&&deepT t==deepT t' then some (.own t true e) else none
 | _,.d s=>some (.d s)
 | _,_=>none
def backCs:List Ce→List Ce→Option (List Ce)
 | [],[]=>some []
 | c::cs,r::rs=>match backC c r,backCs cs rs with
  | some d,some ds=>some (d::ds)
  | _,_=>none
 | _,_=>none
def xtoks:List Ce→List Tok
 | [] => []
 | .own t true _::cs=>t::xtoks cs
 | _::cs=>xtoks cs
def noPtr (v:T):Bool:=
 match v.sh with
 | .one (.c (.ptr _ _))=>false
 | .one (.c (.eptr _ _ _))=>false
 | .one (.c (.fn _ caps))=>caps.all (fun | .ptr _ _=>false | _=>true)
 | _=>true
def tupOf:List Sh1→Sh
 | [x]=>.one x
 | xs=>.tup xs
def evP (σ:St) (d:Nat) (f:Operand) (xs:List Operand):Stp:=
 match (opd σ f).sh,xs with
 | .one (.c (.fn g caps)),x::ys=>match (opd σ x).sh with
  | .one (.c (.ptr id 0))=>match hlook id σ.h with
   | some (cs,ds)=>match canonCs 0 cs,evArgs P σ (ys.map (opd σ)),capArgs σ caps ((gd (opd σ f).p 0).rows.getD 0 []) with
    | some cs1,some vs,some (qs,es)=>match call g (⟨.tup [.agg cs1],toDs cs ds⟩::(vs++capTs qs es)) with
     | some (r,ok)=>match r.sh with
      | .tup (.agg [.any]::.agg cs2::res)=>match backCs cs cs2 with
       | some cs' =>
        let ts:=(ys.map (opd σ)).flatMap (argToks σ)++capToks σ caps
        bif id != d&&nodupB (xtoks cs)&&nodupB (xtoks cs')&&(xtoks cs).all (fun t=>t.1 != d&&t.1 != 1000001 && !ts.contains t)&&nodupB (xtoks cs2)&&(toks (res.flatMap Sh1.ces)).all (fun t => !(xtoks cs2).contains t)&&(res.flatMap Sh1.ces).all resC&&noPtr (opd σ f)&&ys.all (fun y=>noPtr (opd σ y))&&nodupB (xtoks cs1)&&Nat.ble cs.length 1000000 then
         (let τ:=(dropTs (xtoks cs) (σ.seal ts)).wipe d
          some (St.put ⟨τ.r,τ.e,hput id (cs',sub r.p 1 cs'.length) τ.h⟩ (some d) ⟨(tupOf res).map (retokC d),sub r.p (1+cs2.length) (res.flatMap Sh1.ces).length⟩,ok)) else none
       | none=>none
      | _=>none
     | none=>none
    | _,_,_=>none
   | none=>none
  | _=>none
 | _,_=>none
def Sh.isN:Sh→Bool
 | .tup [.agg (.any::.any::.any::.any::_)]=>true
 | .tup [.agg (.kb false::.any::.any::.any::_)]=>true
 | _=>false
def Ce.isD:Ce→Bool
 | .d _=>true
 | _=>false
def evNew (σ:St) (d:Nat) (f:Operand) (xs:List Operand) (tys:List TypeId):Stp:=
 match (opd σ f).sh with
 | .one (.c (.fn g []))=>match evArgsN P σ false xs tys with
  | some vs=>match call g vs with
   | some (r,ok)=>match r.sh with
    | .tup [.agg (.any::.any::.any::.any::cs)]=>bif cs.all Ce.isD then
      (let τ:=(σ.seal ((xs.map (opd σ)).flatMap (argToks σ))).wipe d
       some (St.put ⟨τ.r,τ.e,hput d (cs,sub r.p 0 cs.length) τ.h⟩ (some d) (.c (.ptr d 0) D0),ok)) else none
    | _=>none
   | none=>none
  | none=>none
 | _=>none
def thrC:List Ce→List Ce→List Ce
 | .any::cs,a::az=>a::thrC cs az
 | c::cs,_::az=>c::thrC cs az
 | _,_ => []
def thrD:List Ce→List D→List D→List D
 | [],_,_ => []
 | .any::cs,p,q=>gd q 0::thrD cs p.tail q.tail
 | _::cs,p,q=>gd p 0::thrD cs p.tail q.tail
def Ce.thr:Ce→Bool
 | .any=>true
 | c=>c.isD
def evT (σ:St) (d:Nat) (f:Operand) (xs:List Operand) (tys:List TypeId):Stp:=
 match (opd σ f).sh,xs with
 | .one (.c (.fn g [])),x::_=>match evArgsN P σ false xs tys with
  | some vs=>match call g vs with
   | some (r,ok)=>match r.sh,(opd ((σ.seal ((xs.map (opd σ)).flatMap (argToks σ))).wipe d) x).sh with
    | .tup [.agg (.kb false::.any::.any::.any::cs)],.one (.agg az)=>bif cs.all Ce.thr&&az.length==cs.length then
      (let τ:=(σ.seal ((xs.map (opd σ)).flatMap (argToks σ))).wipe d
       some (τ.put (some d) ⟨.one (.agg (thrC cs az)),thrD cs r.p (opd τ x).p⟩,ok)) else none
    | _,_=>none
   | none=>none
  | none=>none
 | _,_=>none
def evW (σ:St) (dst:Option Nat) (f:Operand) (xs:List Operand) (tys:List TypeId):Stp:=
 match evW0 P call σ dst f xs with
 | some r=>some r
 | none=>match evK P call σ dst f xs tys with
  | some r=>some r
  | none=>match evMi P call σ dst f xs with
   | some r=>some r
   | none=>match evX call σ dst f xs with
    | some r=>some r
    | none=>evM P call σ dst f xs
def noW (call:FuncId→List T→Option (T × Bool)) (f:FuncId) (args:List T):Option (T × Bool):=
 match call f args with
 | some (r,ok)=>bif r.sh.isW then none else some (r,ok)
 | none=>none
def evOp (σ:St) (o:Oper):Stp:=
 match o.op,o.dst with
 | .alloc t,some d=>evAlloc P σ d (deepAt call d) t
 | .box _ x,some d=>evBox σ d x
 | .build t parts,some d=>evBuild P σ d (deepAt call d) t parts.toList
 | .buildSlice t n parts,some d=>bif deepAt call d then evBuildSliceD P σ d t n parts.toList else evBuildSlice P σ d t n parts.toList
 | .makeSlice t n c,some d=>evMakeSlice P σ d (bif deepAt call d then 1000000 else 0) t n c
 | .store t a x,dst=>evStore P σ dst t a x
 | .assign (.const (.slice none 0 0)),some d=>evNil P σ d (bif deepAt call d then 1000000 else 0) o.type
 | .call { callee:=.builtin .append,args:=xs,argTypes:=ts },some d=>match xs.toList,ts.toList with
  | [x,y],[t,t']=>bif t==t' then evAppend P σ d t x y else none
  | _,_=>none
 | .call { callee:=.value f,args:=xs,argTypes:=ts },some d=>match evW P call σ (some d) f xs.toList ts.toList with
  | some r=>some r
  | none=>match evCall P call σ d f xs.toList ts.toList with
   | some r=>some r
   | none=>match evNew P call σ d f xs.toList ts.toList with
    | some r=>some r
    | none=>match evT P call σ d f xs.toList ts.toList with
     | some r=>some r
     | none=>evP P call σ d f xs.toList
 | .makeInterface _ _,_=>some (σ,false)
 | .panic _,_=>some (σ,false)
 | _,_=>evPure P σ o
abbrev Dom:=List (Nat × Sh) × List (Nat × List Ce)
abbrev Out:=Option (Nat × List D)
abbrev R:=Option (Option Dom × Out)
def joinO (a b:Option Dom):Option (Option Dom):=
 match a,b with
 | none,b=>some b
 | some a,none=>some (some a)
 | some a,some b=>bif a==b then some (some a) else none
def rcond (c:Bool) (a b:R):R:=
 match a,b with
 | some (d1,o1),some (d2,o2)=>match joinO d1 d2 with
  | some d=>some (d,bif c then o1 else o2)
  | none=>none
 | _,_=>none
def rneed (c:Bool) (a:R):R:=
 match a with
 | some (k,o)=>some (k,bif c then o else none)
 | none=>none
inductive Want where
 | yes
 | no
 | ask (t:Nat) (g:Bool) (b:Bool)
 | bad
def want (ops:Array Oper) (σ:St) (o:Oper):Want:=
 match o.guard with
 | none=>.yes
 | some (j,b)=>match (ops[j]?).bind (·.dst) with
  | some t=>match (look2 t σ.e σ.r).sh with
   | .one (.c (.kb c))=>bif c==b then .yes else .no
   | .one (.c (.d .bool))=>.ask t (gd (look2 t σ.e σ.r).p 0).bool b
   | .tup []=>.no
   | _=>.bad
  | none=>.bad
def evYes (σ:St) (o:Oper) (k:St→R):R:=
 match evOp P call σ o with
 | some (σ',ok)=>rneed ok (k σ')
 | none=>none
def evStepG (ops:Array Oper) (σ:St) (o:Oper) (y:St→R) (k:St→R):R:=
 match want ops σ o with
 | .yes=>y σ
 | .no=>k (σ.put o.dst .none_)
 | .ask t g b=>rcond g
   (bif b then y (σ.put (some t) (.c (.kb true) D0)) else k ((σ.put (some t) (.c (.kb true) D0)).put o.dst .none_))
   (bif b then k ((σ.put (some t) (.c (.kb false) D0)).put o.dst .none_) else y (σ.put (some t) (.c (.kb false) D0)))
 | .bad=>none
def evStep (ops:Array Oper) (σ:St) (o:Oper) (k:St→R):R:=evStepG ops σ o (fun σ'=>evYes P call σ' o k) k
def evYesQ (σ:St) (o:Oper) (k:St→R):R:=
 match evPure P σ o with
 | some (σ',ok)=>rneed ok (k σ')
 | none=>none
def evOps (ops:Array Oper):List Oper→St→(St→R)→R
 | [],σ,k=>k σ
 | o::rest,σ,k=>evStep P call ops σ o fun σ'=>evOps ops rest σ' k
def isQ (o:Oper):Bool:=
 match o.op with
 | .move _ | .nilCheck _ | .pick .. | .load .. | .fieldAddr .. | .field .. | .indexAddr .. | .index .. | .binOp .. | .unOp .. | .extract .. | .slice .. | .convert .. | .makeFunc .. => true
 | .assign (.const (.slice none 0 0))=>false
 | .assign _=>true
 | .call { callee:=.builtin .len,.. }=>true
 | _=>false
def isC (o:Oper):Bool:=
 match o.op with
 | .call { callee:=.value _,.. }=>true
 | _=>false
def isA (o:Oper):Bool:=
 match o.op,o.dst with
 | .alloc _,some _=>true
 | _,_=>false
def isM (o:Oper):Bool:=
 match o.op,o.dst with
 | .box ..,some _ | .build ..,some _ | .buildSlice ..,some _ | .makeSlice ..,some _ | .assign (.const (.slice none 0 0)),some _=>true
 | _,_=>false
def calm (o:Oper):Bool:=isQ o||isC o||isA o||isM o
def noMem (o:Oper):Bool:=
 match o.op with
 | .move _ | .nilCheck _ | .pick .. | .fieldAddr .. | .field .. | .indexAddr .. | .index .. | .binOp .. | .unOp .. | .extract .. | .slice .. | .convert .. | .makeFunc .. => true
 | .call { callee:=.builtin .len,.. }=>true
 | _=>false
def memless (ops:Array Oper):Bool:=ops.toList.all fun o=>noMem o||isC o
def waits (ops:Array Oper) (listed:Array Bool) (i:Nat):List Nat:=(List.range ops.size).foldl (fun S j=>bif !listed.getD j true&&(match ops[j]? with
 | some oj=>oj.after.any fun e=>Region.binds .any e&&(e.on==i||S.contains e.on)
 | none=>false) then j::S else S) []
def waitsOk (ops:Array Oper) (listed:Array Bool) (i:Nat) (S:List Nat):Bool:=S.all fun j => !listed.getD j true&&match ops[j]? with
 | some oj=>oj.after.any fun e=>Region.binds .any e&&(e.on==i||S.contains e.on)
 | none=>false
def earlyT (ops:Array Oper) (listed:Array Bool) (i:Nat):Bool:=
 match ops[i]? with
 | some oi => !memless ops&&isQ oi&&waitsOk ops listed i (waits ops listed i)&&(List.range ops.size).all fun j=>j==i||listed.getD j true||(waits ops listed i).contains j||match ops[j]? with
  | some oj=>oi.apart ops oj&&calm oj
  | none=>true
 | none=>false
def early (ops:Array Oper) (listed:Array Bool) (i:Nat):Bool:=
 earlyT ops listed i||(match ops[i]? with
  | some o=>isQ o
  | none=>false)&&Region.free .any ops listed i &&
 (List.range ops.size).all fun j=>j==i||listed.getD j true||match ops[j]? with
  | some oj=>calm oj||oj.after.any (fun e=>Region.binds .any e&&e.on==i)
  | none=>true
def dstOk (ops:Array Oper):Bool:=(List.range ops.size).all fun i=>(List.range ops.size).all fun j=>i==j||match ops[i]?,ops[j]? with
 | some oi,some oj=>oi.dst.isNone||oi.dst != oj.dst
 | _,_=>true
def storeTo (ops:Array Oper) (o:Oper):Bool:=
 match o.op with
 | .store _ (.tmp d) _=>dstOk ops&&o.after.any fun e=>Region.binds .any e&&match ops[e.on]? with
  | some o'=>isA o'&&o'.guard.isNone&&o'.dst==some d
  | none=>false
 | _=>false
def onlyQ (ops:Array Oper) (listed:Array Bool):Bool:=(List.range ops.size).all fun j => !(listed.getD j true)||match ops[j]? with
 | some o=>isQ o
 | none=>true
def early0 (ops:Array Oper) (listed:Array Bool) (i:Nat):Bool:=
 (match ops[i]? with
  | some o=>isQ o
  | none=>false)&&Region.free .any ops listed i&&onlyQ ops listed &&
 (List.range ops.size).all fun j=>j==i||listed.getD j true||match ops[j]? with
  | some oj=>calm oj||storeTo ops oj||oj.after.any (fun e=>Region.binds .any e&&e.on==i)
  | none=>true
def pairOk (ops:Array Oper) (listed:Array Bool) (j k:Nat):Bool:=
 match ops[j]?,ops[k]? with
 | some oj,some ok=>isA oj&&isA ok&&oj.guard.isNone&&ok.guard.isNone&&oj.dst != ok.dst&&Region.ready .any ops (listed.setIfInBounds j true) == [k]&&Region.ready .any ops (listed.setIfInBounds k true) == [j]
 | _,_=>false
def consO (q:Nat × Bool) (o:Option (List (Nat × Bool))):Option (List (Nat × Bool)):=
 match o with
 | some l=>some (q::l)
 | none=>none
def plan (ops:Array Oper):Nat→Array Bool→Option (List (Nat × Bool))
 | 0,listed=>match Region.ready .any ops listed with
  | []=>some []
  | _::_=>none
 | n+1,listed=>match Region.ready .any ops listed with
  | []=>some []
  | j::r=>match (j::r).find? (fun i=>early ops listed i||early0 ops listed i) with
   | some i=>consO (i,true) (plan ops n (listed.setIfInBounds i true))
   | none=>match r with
    | []=>consO (j,false) (plan ops n (listed.setIfInBounds j true))
    | [k]=>bif pairOk ops listed j k then consO (j,false) (plan ops n (listed.setIfInBounds j true)) else none
    | _::_::_=>none
def evPlan (ops:Array Oper):List (Nat × Bool)→St→(St→R)→R
 | [],σ,k=>k σ
 | (i,q)::rest,σ,k=>match ops[i]? with
  | some o=>evStepG ops σ o (fun σ'=>bif q then evYesQ P σ' o (fun τ=>evPlan ops rest τ k) else evYes P call σ' o (fun τ=>evPlan ops rest τ k)) (fun τ=>evPlan ops rest τ k)
  | none=>none
def backOk (ops:Array Oper):Bool:=(List.range ops.size).all fun j=>match ops[j]? with
 | some oj=>oj.after.all fun e=>Nat.blt e.on j
 | none=>true
def awaits (ops:Array Oper) (i j:Nat):Bool:=waitsOk ops (Array.replicate ops.size false) i (waits ops (Array.replicate ops.size false) i)&&(waits ops (Array.replicate ops.size false) i).contains j
def alone (ops:Array Oper) (j:Nat):Bool:=backOk ops&&(List.range ops.size).all fun i=>i==j||awaits ops i j||awaits ops j i||match ops[i]? with
 | some oi=>noMem oi
 | none=>false
def evYesA (ops:Array Oper) (i:Nat) (σ:St) (o:Oper) (k:St→R):R:=
 match evOp P (noW call) σ o with
 | some (σ',ok)=>rneed ok (k σ')
 | none=>bif isC o&&alone ops i then evYes P call σ o k else none
def evPlanA (ops:Array Oper):List (Nat × Bool)→St→(St→R)→R
 | [],σ,k=>k σ
 | (i,q)::rest,σ,k=>match ops[i]? with
  | some o=>evStepG ops σ o (fun σ'=>bif q then evYesQ P σ' o (fun τ=>evPlanA ops rest τ k) else evYesA P call ops i σ' o (fun τ=>evPlanA ops rest τ k)) (fun τ=>evPlanA ops rest τ k)
  | none=>none
def evS (ops:Array Oper):List (Nat × Bool)→St→Option (St × Bool)
 | [],σ=>some (σ,true)
 | (i,q)::rest,σ=>match ops[i]? with
  | some o=>match want ops σ o with
   | .yes=>match (bif q then evPure P σ o else evOp P call σ o) with
    | some (σ',ok)=>match evS ops rest σ' with
     | some (τ,ok')=>some (τ,ok&&ok')
     | none=>none
    | none=>none
   | .no=>evS ops rest (σ.put o.dst .none_)
   | _=>none
  | none=>none
def consAll (q:Nat × Bool) (o:Option (List (List (Nat × Bool)))):Option (List (List (Nat × Bool))):=
 match o with
 | some []=>none
 | some (l::ls)=>some ((l::ls).map (q :: ·))
 | none=>none
def appAll (a b:Option (List (List (Nat × Bool)))):Option (List (List (Nat × Bool))):=
 match a,b with
 | some x,some y=>some (x++y)
 | _,_=>none
def orders (ops:Array Oper):Nat→Array Bool→Option (List (List (Nat × Bool)))
 | 0,listed=>match Region.ready .any ops listed with
  | []=>some [[]]
  | _::_=>none
 | n+1,listed=>match Region.ready .any ops listed with
  | []=>some [[]]
  | j::r=>match (j::r).find? (fun i=>early ops listed i||early0 ops listed i) with
   | some i=>consAll (i,true) (orders ops n (listed.setIfInBounds i true))
   | none=>(j::r).foldr (fun i acc=>appAll (consAll (i,false) (orders ops n (listed.setIfInBounds i true))) acc) (some [])
def allTmps (σ τ:St):List Nat:=((σ.r.map (·.1)++σ.e.map (·.1))++(τ.r.map (·.1)++τ.e.map (·.1))).eraseDups
def allBoxes (σ τ:St):List Nat:=(σ.h.map (·.1)++τ.h.map (·.1)).eraseDups
def sameSh (σ τ:St):Bool:=
 (allTmps σ τ).all (fun i=>(look2 i σ.e σ.r).sh==(look2 i τ.e τ.r).sh) &&
 (allBoxes σ τ).all fun i=>(hlook i σ.h).map (·.1)==(hlook i τ.h).map (·.1)
def pays (σ τ:St):List (List D):=
 (allTmps σ τ).map (fun i=>(look2 i σ.e σ.r).p)++(allBoxes σ τ).map fun i=>((hlook i σ.h).getD ([],[])).2
def paysAs (σ τ:St):List (List D):=
 (allTmps σ τ).map (fun i=>(look2 i τ.e τ.r).p)++(allBoxes σ τ).map fun i=>((hlook i τ.h).getD ([],[])).2
noncomputable def sameP (a b:List (List D)):Bool:=@decide (a=b) (Classical.propDecidable _)
noncomputable def evRest (ops:Array Oper) (σ σ0:St):List (List (Nat × Bool))→R→R
 | [],r=>r
 | l::ls,r=>match evS P call ops l σ with
  | some (τ,ok)=>bif sameSh σ0 τ then rneed (ok&&sameP (pays σ0 τ) (paysAs σ0 τ)) (evRest ops σ σ0 ls r) else none
  | none=>none
noncomputable def evAll (ops:Array Oper) (σ:St) (k:St→R):List (List (Nat × Bool))→R
 | []=>none
 | l::ls=>match evS P call ops l σ with
  | some (σ0,ok)=>rneed ok (evRest P call ops σ σ0 ls (k σ0))
  | none=>none
def earlyM (ops:Array Oper) (listed:Array Bool) (i:Nat):Bool:=
 (match ops[i]? with
  | some o=>isQ o&&noMem o
  | none=>false)&&Region.free .any ops listed i
def orders0 (ops:Array Oper):Nat→Array Bool→Option (List (List (Nat × Bool)))
 | 0,listed=>match Region.ready .any ops listed with
  | []=>some [[]]
  | _::_=>none
 | n+1,listed=>match Region.ready .any ops listed with
  | []=>some [[]]
  | j::r=>match (j::r).find? (earlyM ops listed) with
   | some i=>consAll (i,true) (orders0 ops n (listed.setIfInBounds i true))
   | none=>(j::r).foldr (fun i acc=>appAll (consAll (i,false) (orders0 ops n (listed.setIfInBounds i true))) acc) (some [])
noncomputable def evDraw0 (ops:Array Oper) (σ:St) (k:St→R):R:=
 match orders0 ops ops.size (Array.replicate ops.size false) with
 | some ls=>evAll P call ops σ k ls
 | none=>none
noncomputable def evDraw (ops:Array Oper) (σ:St) (k:St→R):R:=
 bif Region.noSelect ops&&P.follows .mixedOrders then (match plan ops ops.size (Array.replicate ops.size false) with
  | some l=>bif memless ops then evPlan P call ops l σ k else (match evPlanA P call ops l σ k with
   | some r=>some r
   | none=>evDraw0 P call ops σ k)
  | none=>match orders ops ops.size (Array.replicate ops.size false) with
   | some ls=>match evAll P (noW call) ops σ k ls with
    | some r=>some r
    | none=>evDraw0 P call ops σ k
   | none=>evDraw0 P call ops σ k) else none
def restrictE (dom:List Nat) (e:Env):Env:=dom.map fun i=>(i,look i e)
def St.restrict (σ₀ σ:St):St:=⟨[],(σ₀.e.map (·.1)).map fun i=>(i,look2 i σ.e σ.r),σ.h.filter fun p=>(σ₀.h.map (·.1)).contains p.1⟩
def St.dom (σ:St):Dom:=(σ.e.map fun p=>(p.1,p.2.sh),σ.h.map fun p=>(p.1,p.2.1))
def Sh.size:Sh→Nat
 | .one x=>x.size
 | .tup xs=>xs.foldr (fun s n=>s.size+n) 0
def St.flat (σ:St):List D:=(σ.e.flatMap fun p=>sub p.2.p 0 p.2.sh.size)++(σ.h.flatMap fun p=>sub p.2.2 0 p.2.1.length)
def mkE:List (Nat × Sh)→List D→Nat→Env × Nat
 | [],_,o=>([],o)
 | (i,s)::r,p,o=>((i,⟨s,sub p o s.size⟩)::(mkE r p (o+s.size)).1,(mkE r p (o+s.size)).2)
def mkH:List (Nat × List Ce)→List D→Nat→Boxes
 | [],_,_ => []
 | (i,cs)::r,p,o=>(i,cs,sub p o cs.length)::mkH r p (o+cs.length)
def mkSt (d:Dom) (p:List D):St:=⟨[],(mkE d.1 p 0).1,mkH d.2 p (mkE d.1 p 0).2⟩
def stepOut:R→Out
 | some (_,o)=>o
 | none=>none
def iter (step:List D→Out):Nat→List D→Out
 | 0,_=>none
 | n+1,p=>match step p with
  | some (0,p')=>iter step n p'
  | o=>o
def exitsOf:Code→List Nat
 | .exit id => [id]
 | .seq a b=>exitsOf a++exitsOf b
 | .cond _ a b=>exitsOf a++exitsOf b
 | .block id c=>(exitsOf c).filter (· != id)
 | .loop c=>exitsOf c
 | .scope c=>exitsOf c
 | _ => []
def restrictD (d:Dom) (σ:St):St:=⟨[],restrictE (d.1.map (·.1)) σ.e,σ.h.filter fun p=>(d.2.map (·.1)).contains p.1⟩
def leaf (d:Dom) (code:Nat) (σ:St):R:=
 bif (restrictD d σ).dom==d&&σ.r.isEmpty then some (some d,some (code,(restrictD d σ).flat)) else none
def retLeaf (x:Option (List D)):R:=
 match x with
 | some p=>some (none,some (1,p))
 | none=>none
def Out.code (o:Out):Nat:=(o.getD (0,[])).1
def Out.pay (o:Out):List D:=(o.getD (0,[])).2
def leave (ids:List Nat) (o:Out) (σ:St) (kx:Nat→St→R):R:=
 match ids with
 | []=>none
 | [j]=>rneed (o.code==j+2) (kx j σ)
 | j::r=>rcond (o.code==j+2) (kx j σ) (leave r o σ kx)
def hasRet:Code→Bool
 | .ret=>true
 | .seq a b=>hasRet a||hasRet b
 | .cond _ a b=>hasRet a||hasRet b
 | .block _ c=>hasRet c
 | .loop c=>hasRet c
 | .scope c=>hasRet c
 | _=>false
def isLoopC:Code→Bool
 | .loop _=>true
 | _=>false
def dropsOf:List Nat→List Nat
 | [] => []
 | k::r=>bif Nat.ble 1000000 k then (k - 1000000)::dropsOf r else dropsOf r
def dropAll:List Nat→Env→Env
 | [],e=>e
 | i::r,e=>edrop i (dropAll r e)
def St.shed (ks:List Nat) (c:Code) (σ:St):St:=bif isLoopC c then ⟨σ.r,dropAll (dropsOf ks) σ.e,σ.h⟩ else σ
def dropsAt (id:Nat):List Nat→List Nat
 | [] => []
 | k::r=>bif Nat.ble 5000000 k&&Nat.beq ((k - 5000000) / 1000) id then ((k - 5000000) % 1000)::dropsAt id r else dropsAt id r
def St.cut (id:Nat) (ks:List Nat) (σ:St):St:=⟨σ.r,dropAll (dropsAt id ks) (dropAll (dropsOf ks) σ.e),σ.h⟩
def St.learn (ks:List Nat) (c:Operand) (b:Bool) (σ:St):St:=
 match c with
 | .tmp i=>bif ks.contains (9000000+i) then ⟨σ.r,eput i (.c (.kb b) D0) σ.e,σ.h⟩ else σ
 | _=>σ
section
variable (ks:List Nat)
def r0:R:=some (none,none)
def firstR (a b:R):R:=
 match a with
 | some (some d,o)=>some (some d,o)
 | _=>b
def wideC:Ce→Ce
 | .kb _=>.d .bool
 | c=>c
def wideD:Ce→D→D
 | .kb b,_=>.b b
 | _,x=>x
def wideDs:List Ce→List D→Nat→List D
 | [],_,_ => []
 | c::cs,ds,i=>wideD c (gd ds i)::wideDs cs ds (i+1)
def T.wide (v:T):T:=
 match v.sh with
 | .one (.c c)=>⟨.one (.c (wideC c)),[wideD c (gd v.p 0)]⟩
 | .one (.agg cs)=>⟨.one (.agg (cs.map wideC)),wideDs cs v.p 0⟩
 | .tup _=>v
def St.wide (σ:St):St:=⟨σ.r,σ.e.map fun p=>(p.1,p.2.wide),σ.h.map fun p=>(p.1,p.2.1.map wideC,wideDs p.2.1 p.2.2 0)⟩
def jwide (σ:St):R:=some (some σ.wide.dom,none)
def jdom (σ σ':St):R:=some (some (σ.restrict σ').dom,none)
def joinOut (rets:Bool) (ids:List Nat) (o:Out) (τ:St) (kn:St→R) (kx:Nat→St→R) (kr:Option (List D)→R):R:=
 match ids,rets with
 | [],false=>rneed (o.code==0) (kn τ)
 | [],true=>rcond (o.code==0) (kn τ) (rneed (o.code==1) (kr (some o.pay)))
 | i::is,false=>rcond (o.code==0) (kn τ) (leave (i::is) o τ kx)
 | i::is,true=>rcond (o.code==0) (kn τ) (rcond (o.code==1) (kr (some o.pay)) (leave (i::is) o τ kx))
def joinsOf:List Nat→List Nat
 | [] => []
 | k::r=>bif Nat.ble 2000000 k then (k - 2000000)::joinsOf r else joinsOf r
noncomputable def findD (id:Nat):Code→St→(St→R)→(Nat→St→R)→R
 | .skip,σ,kn,_=>kn σ
 | .region id ops draw,σ,kn,_ =>
  bif (joinsOf ks).contains (1000000+id) then
   match (bif draw then evDraw P call ops (σ.cut id ks) (fun σ'=>jwide (σ'.settle ks)) else evOps P call ops ops.toList (σ.cut id ks) fun σ'=>jwide (σ'.settle ks)) with
   | some (some d,_)=>kn (mkSt d [])
   | _=>none
  else bif draw then evDraw P call ops (σ.cut id ks) (fun σ'=>kn (σ'.settle ks)) else evOps P call ops ops.toList (σ.cut id ks) fun σ'=>kn (σ'.settle ks)
 | .seq a b,σ,kn,kx=>findD id a σ (fun σ'=>findD id b σ' kn kx) kx
 | .cond c a b,σ,kn,kx=>match (opd σ c).sh with
  | .one (.c (.kb t))=>bif t then findD id a σ kn kx else findD id b σ kn kx
  | .one (.c (.d .bool))=>firstR (findD id a σ kn kx) (findD id b σ kn kx)
  | _=>none
 | .block j c,σ,kn,kx=>bif j==id then some (some (σ.shed ks c).dom,none) else findD id c (σ.shed ks c) (fun σ'=>kn ((σ.shed ks c).restrict σ')) (fun i σ'=>bif i==j then kn ((σ.shed ks c).restrict σ') else kx i σ')
 | .loop b,σ,_,kx=>firstR (findD id b (mkSt σ.dom σ.flat) (fun _=>r0) (fun _ _=>r0)) (match exitsOf b with
  | []=>r0
  | j::_=>kx j (mkSt σ.dom σ.flat))
 | .scope c,σ,kn,kx=>findD id c σ kn kx
 | .exit j,σ,_,kx=>kx j σ
 | .ret,_,_,_=>r0
 | _,_,_,_=>none
end
variable (N:Nat) (ks:List Nat) (fin:St→Option (List D))
noncomputable def evCode:Code→St→(St→R)→(Nat→St→R)→(Option (List D)→R)→R
 | .skip,σ,kn,_,_=>kn σ
 | .region id ops draw,σ,kn,_,_ =>
  bif (joinsOf ks).contains (1000000+id) then
   match (bif draw then evDraw P call ops (σ.cut id ks) (fun σ'=>jwide (σ'.settle ks)) else evOps P call ops ops.toList (σ.cut id ks) fun σ'=>jwide (σ'.settle ks)) with
   | some (some d,_) =>
    match (bif draw then evDraw P call ops (σ.cut id ks) (fun σ'=>leaf d 0 (σ'.settle ks).wide) else evOps P call ops ops.toList (σ.cut id ks) fun σ'=>leaf d 0 (σ'.settle ks).wide) with
    | some (_,o)=>rneed o.isSome (kn (mkSt d o.pay))
    | none=>none
   | _=>none
  else bif draw then evDraw P call ops (σ.cut id ks) (fun σ'=>kn (σ'.settle ks)) else evOps P call ops ops.toList (σ.cut id ks) fun σ'=>kn (σ'.settle ks)
 | .seq a b,σ,kn,kx,kr=>evCode a σ (fun σ'=>evCode b σ' kn kx kr) kx kr
 | .cond c a b,σ,kn,kx,kr=>match (opd σ c).sh with
  | .one (.c (.kb t))=>bif t then evCode a σ kn kx kr else evCode b σ kn kx kr
  | .one (.c (.d .bool))=>rcond (gd (opd σ c).p 0).bool (evCode a (σ.learn ks c true) kn kx kr) (evCode b (σ.learn ks c false) kn kx kr)
  | _=>none
 | .block id c,σ,kn,kx,kr =>
  bif (joinsOf ks).contains id then
   match findD P call ks 999999 c σ (jdom σ) (fun j σ'=>bif j==id then jdom σ σ' else r0) with
   | some (some d,_) =>
    match evCode c σ (leaf d 0) (fun j=>bif j==id then leaf d 0 else leaf d (j+2)) retLeaf with
    | some (_,o)=>rneed o.isSome (joinOut (hasRet c) ((exitsOf c).filter (· != id)).eraseDups o (mkSt d o.pay) kn kx kr)
    | none=>none
   | _=>none
  else evCode c (σ.shed ks c) (fun σ'=>kn ((σ.shed ks c).restrict σ')) (fun j σ'=>bif j==id then kn ((σ.shed ks c).restrict σ') else kx j σ') kr
 | .loop c,σ,_,kx,kr =>
  bif !σ.r.isEmpty then none else
  match evCode c (mkSt σ.dom σ.flat) (leaf σ.dom 0) (fun j=>leaf σ.dom (j+2)) retLeaf with
  | some _ =>
   let o:=iter (fun p=>stepOut (evCode c (mkSt σ.dom p) (leaf σ.dom 0) (fun j=>leaf σ.dom (j+2)) retLeaf)) N σ.flat
   let out:=leave (exitsOf c).eraseDups o (mkSt σ.dom o.pay) kx
   rneed o.isSome (bif hasRet c then (match exitsOf c with
    | []=>rneed (o.code==1) (kr (some o.pay))
    | _=>rcond (o.code==1) (kr (some o.pay)) out) else out)
  | none=>none
 | .exit id,σ,_,kx,_=>kx id σ
 | .ret,σ,_,_,kr=>kr (fin σ)
 | _,_,_,_,_=>none
noncomputable def stepAt (c:Code) (d:Dom) (p:List D):Out:=stepOut (evCode P call N ks fin c (mkSt d p) (leaf d 0) (fun j=>leaf d (j+2)) retLeaf)
def orElse (a b:Option Code):Option Code:=
 match a with
 | some c=>some c
 | none=>b
def loopAt (id:Nat):Code→Option Code
 | .seq a b=>orElse (loopAt id a) (loopAt id b)
 | .cond _ a b=>orElse (loopAt id a) (loopAt id b)
 | .block j c=>bif j==id then (match c with | .loop b=>some b | _=>none) else loopAt id c
 | .loop c=>loopAt id c
 | .scope c=>loopAt id c
 | _=>none
def results1 (σ:St):List ResultVar→Option (List Sh1 × List D)
 | []=>some ([],[])
 | r::rs =>
  let v:Option T:=match r with
   | .tmp t=>some (look2 t σ.e σ.r)
   | .cell a t=>evLoad P t σ (look2 a σ.e σ.r)
  match v,results1 σ rs with
  | some v,some (shs,p)=>match v.sh with
   | .one (.c (.kb b))=>some (.c (.d .bool)::shs,.b b::p)
   | .one x=>some (x::shs,sub v.p 0 x.size++p)
   | .tup _=>none
  | _,_=>none
def Sh.list:Sh→List Sh1
 | .one x => [x]
 | .tup xs=>xs
def lend:List Ce→List Ce→List Tok
 | .own t true _::cs,.own _ true _::rs=>lend cs rs
 | .own t _ _::cs,_::rs=>t::lend cs rs
 | _::cs,_::rs=>lend cs rs
 | _,_ => []
def given:List Ce→List Ce→List (Tok × Tok)
 | .own t _ _::cs,.own t' _ _::rs=>(t,t')::given cs rs
 | _::cs,_::rs=>given cs rs
 | _,_ => []
def fitC (c r:Ce):Bool:=
 match c,r with
 | .d s,.d s'=>s==s'
 | .own t x e,.own t' x' e'=>x==x'&&e==e'&&t'.1==0&&(!x||deepT t==deepT t')
 | .own _ false e,.d (.sl e')=>e==e'
 | _,_=>false
def fitCs:List Ce→List Ce→Bool
 | [],[]=>true
 | c::cs,r::rs=>fitC c r&&fitCs cs rs
 | _,_=>false
def fit1:Sh1→Sh1→Bool
 | .c x,.c y=>fitC x y
 | .agg xs,.agg ys=>fitCs xs ys
 | _,_=>false
def fit:List Sh1→List Sh1→Bool
 | [],[]=>true
 | x::xs,y::ys=>fit1 x y&&fit xs ys
 | _,_=>false
def outCes (xs:List Sh1):List Ce:=xs.flatMap Sh1.ces
def Sh.tupOk:Sh→Bool
 | .one _=>true
 | .tup xs=>xs.length != 1
def finish (fn:Func) (rs:Sh) (σ:St):Option (List D):=
 match results1 P σ fn.results.toList with
 | some (shs,p) =>
  bif fit (shs.map (Sh1.map (sealC (lend (outCes shs) (outCes rs.list))))) rs.list&&nodupB ((given (outCes shs) (outCes rs.list)).map (·.1))&&nodupB ((given (outCes shs) (outCes rs.list)).map (·.2))&&rs.tupOk then some p else none
 | none=>none
def startAt:Nat→List T→Env
 | _,[] => []
 | i,v::vs=>(i,v)::startAt (i+1) vs
def start (args:List T):St:=⟨[],startAt 0 args,[]⟩
def dstsOk (n:Nat):Code→Bool
 | .region _ ops _=>ops.toList.all fun o=>match o.dst with | some d=>Nat.blt d n | none=>true
 | .seq a b=>dstsOk n a&&dstsOk n b
 | .cond _ a b=>dstsOk n a&&dstsOk n b
 | .block _ c=>dstsOk n c
 | .loop c=>dstsOk n c
 | .scope c=>dstsOk n c
 | _=>true
noncomputable def evFn (fn:Func) (rs:Sh) (args:List T):R:=
 match fn.body with
 | some c=>bif dstsOk fn.ntmps c&&Nat.ble args.length fn.ntmps&&Nat.ble fn.ntmps 1000000 then
   evCode P call N ks (finish P fn rs) c (start args) (fun σ=>retLeaf (finish P fn rs σ)) (fun _ _=>none) retLeaf
   else none
 | none=>none
def finishP (fn:Func) (rs:Sh) (σ:St):Option (List D):=
 match rs,hlook 1000000 σ.h,results1 P σ fn.results.toList with
 | .tup (.agg [.any]::.agg cs2::res),some (cs,ds),some (shs,p) =>
  bif fit ((.agg (cs.map wideC)::shs).map (Sh1.map (sealC (lend (outCes (.agg (cs.map wideC)::shs)) (outCes (.agg cs2::res)))))) (.agg cs2::res)&&nodupB ((given (outCes (.agg (cs.map wideC)::shs)) (outCes (.agg cs2::res))).map (·.1))&&nodupB ((given (outCes (.agg (cs.map wideC)::shs)) (outCes (.agg cs2::res))).map (·.2)) then some (D0::(wideDs cs ds 0++p)) else none
 | _,_,_=>none
def startP (cs:List Ce) (ds:List D) (args:List T):St:=⟨[],startAt 0 (.c (.ptr 1000000 0) D0::args),[(1000000,cs,sub ds 0 cs.length)]⟩
noncomputable def evFnP (fn:Func) (rs:Sh) (args:List T):R:=
 match fn.body,args with
 | some c,⟨.tup [.agg cs],ds⟩::rest=>bif dstsOk fn.ntmps c&&Nat.ble args.length fn.ntmps&&Nat.ble fn.ntmps 1000000 then
   evCode P call N ks (finishP P fn rs) c (startP cs ds rest) (fun σ=>retLeaf (finishP P fn rs σ)) (fun _ _=>none) retLeaf
   else none
 | _,_=>none
noncomputable def loopOfP (fn:Func) (rs:Sh) (args:List T) (id:Nat):List D→Out:=
 match fn.body,args with
 | some c,⟨.tup [.agg cs],ds⟩::rest=>match findD P call ks id c (startP cs ds rest) (fun _=>r0) (fun _ _=>r0),loopAt id c with
  | some (some d,_),some b=>stepAt P call N ks (finishP P fn rs) b d
  | _,_=>fun _=>none
 | _,_=>fun _=>none
def mineC (j:Nat):Ce→Ce
 | .d (.sl e)=>.own (1000001,1000000+j) true e
 | c=>c
def mineCs:Nat→List Ce→List Ce
 | _,[] => []
 | j,c::cs=>mineC j c::mineCs (j+1) cs
def mineT (q:T):T:=
 match q.sh with
 | .one (.c c)=>⟨.one (.c (mineC 0 c)),q.p⟩
 | .one (.agg cs)=>⟨.one (.agg (mineCs 0 cs)),q.p⟩
 | _=>q
def shM:Sh:=.tup [.agg [.any,.any]]
def outM:List Ce→Nat→List D→List D→List D
 | [],_,_,_ => []
 | .own _ _ _::cs,j,q,p=>gd p j::outM cs (j+1) q p
 | _::cs,j,q,p=>gd q j::outM cs (j+1) q p
def finishM (fn:Func) (q:T) (σ:St):Option (List D):=
 match fn.results.toList with
 | [.tmp t]=>match (look2 t σ.e σ.r).sh,(look2 0 σ.e σ.r) with
  | .one (.c (.d (.int .i64))),⟨sh,p⟩=>bif sh==(mineT q).sh then (match sh with
   | .one x=>some (gd (look2 t σ.e σ.r).p 0::outM x.ces 0 q.p p)
   | .tup _=>none) else none
  | _,_=>none
 | _=>none
noncomputable def evFnM (fn:Func) (args:List T):R:=
 match fn.body,args with
 | some c,[q,k]=>bif dstsOk fn.ntmps c&&Nat.ble 2 fn.ntmps&&Nat.ble fn.ntmps 1000000 then
   evCode P call N ks (finishM fn q) c (start [mineT q,k]) (fun σ=>retLeaf (finishM fn q σ)) (fun _ _=>none) retLeaf
   else none
 | _,_=>none
noncomputable def loopOfM (fn:Func) (args:List T) (id:Nat):List D→Out:=
 match fn.body,args with
 | some c,[q,k]=>match findD P call ks id c (start [mineT q,k]) (fun _=>r0) (fun _ _=>r0),loopAt id c with
  | some (some d,_),some b=>stepAt P call N ks (finishM fn q) b d
  | _,_=>fun _=>none
 | _,_=>fun _=>none
noncomputable def loopOf (fn:Func) (rs:Sh) (args:List T) (id:Nat):List D→Out:=
 match fn.body with
 | some c=>match findD P call ks id c (start args) (fun _=>r0) (fun _ _=>r0),loopAt id c with
  | some (some d,_),some b=>stepAt P call N ks (finish P fn rs) b d
  | _,_=>fun _=>none
 | none=>fun _=>none
end
end Go.Proofs.YthbbbhpjkgpdcaaGreat
namespace Go.Proofs.YthbbbhpjkgpdcaaGreat
def bsv (l:List UInt8):ByteArray:=⟨l.toArray⟩
theorem bsv_byteList (s:ByteArray):bsv (byteList s)=s:=by
 cases s; simp [bsv,byteList]
theorem gd_cons_zero (d:D) (p:List D):gd (d::p) 0=d:=rfl
theorem gd_cons_succ (d:D) (p:List D) (i:Nat):gd (d::p) (i+1)=gd p i:=by simp [gd]
theorem gd_tail (p:List D) (i:Nat):gd p.tail i=gd p (i+1):=by
 cases p <;> simp [gd]
theorem sub_length (p:List D):∀ (n o:Nat),(sub p o n).length=n
 | 0,_=>rfl
 | n+1,o=>by simp [sub,sub_length p n]
theorem gd_sub (p:List D):∀ (n o i:Nat),i<n→gd (sub p o n) i=gd p (o+i)
 | 0,_,_,h=>by omega
 | n+1,o,0,_=>by simp [sub,gd_cons_zero]
 | n+1,o,i+1,h=>by
  rw [sub,gd_cons_succ,gd_sub p n (o+1) i (by omega)]
  congr 1; omega
structure G where
 prot:Nat→Nat
 owner:Nat→Option (Nat ⊕ Tok)
 θ:Nat→Nat
 ρ:Tok→Nat
 len:Tok→Nat
 wid:Tok→Nat
 ety:Tok→TypeId
 path:Nat→List (Nat × Nat)
 need:Nat→Nat
 old:Nat→Prop
def flatV:Value→Bool
 | .agg _ | .tuple _=>false
 | _=>true
inductive VD (P:Program) (w:World) (prot:Nat→Nat):S→D→Value→Prop
 | int (k:IntKind) (d:D):VD P w prot (.int k) d (.int k d.int)
 | bool (d:D):VD P w prot .bool d (.bool d.bool)
 | str (d:D):VD P w prot .str d (.string (bsv d.str))
 | sl (e:TypeId) (d:D) (A:Option Addr) (c:Nat) (row:List S) (u:Nat→Nat→Value) (hr:rowOf P e=some row)
   (h1:d.rows.length≤c) (h2:c≤9223372036854775807)
   (h3:∀ i j,i<d.rows.length→j<row.length→∃ b o,A=some ⟨b,o,none⟩∧w.cell? ⟨b,o+(i*row.length+j),none⟩=some (u i j)∧o+(i*row.length+j)<prot b)
   (h4:∀ i j s,i<d.rows.length→row[j]?=some s→VD P w prot s (gd (d.rows.getD i []) j) (u i j)):VD P w prot (.sl e) d (.slice A d.rows.length c)
 | opq (d:D) (h:flatV d.val=true):VD P w prot .opq d d.val
theorem cell_size {w:World} {b o:Nat} {v:Value} (h:w.cell? ⟨b,o,none⟩=some v):b<w.heap.size:=by
 rcases Nat.lt_or_ge b w.heap.size with hlt | hge
 ·exact hlt
 ·unfold World.cell? at h; rw [Array.getElem?_eq_none hge] at h; cases h
theorem cell_of_heap {w w':World} {b:Nat} (h:w'.heap[b]?=w.heap[b]?) (o:Nat):w'.cell? ⟨b,o,none⟩=w.cell? ⟨b,o,none⟩:=by
 unfold World.cell?; simp only; rw [h]
theorem VD.mono {P:Program} {w w':World} {prot prot':Nat→Nat} {s:S} {x:D} {v:Value} (h:VD P w prot s x v)
  (hk:∀ b o u,o<prot b→w.cell? ⟨b,o,none⟩=some u→w'.cell? ⟨b,o,none⟩=some u∧o<prot' b):VD P w' prot' s x v:=by
 induction h with
 | int k d=>exact .int k d
 | bool d=>exact .bool d
 | str d=>exact .str d
 | opq d h=>exact .opq d h
 | sl e d A c row u hr h1 h2 h3 h4 ih =>
  refine .sl e d A c row u hr h1 h2 (fun i j hi hj=>?_) (fun i j s hi hs=>ih i j s hi hs)
  obtain ⟨b,o,hA,hc,hp⟩:=h3 i j hi hj
  obtain ⟨k1,k2⟩:=hk b _ _ hp hc
  exact ⟨b,o,hA,k1,k2⟩
theorem VD.flat {P:Program} {w:World} {prot:Nat→Nat} {s:S} {x:D} {v:Value} (h:VD P w prot s x v):flatV v=true:=by
 cases h <;> first | rfl | assumption
inductive TR (P:Program) (w:World) (lab:Nat→List (Nat × Nat)→Nat→Prop):List (Nat × Nat)→S→D→Value→Prop
 | int (π:List (Nat × Nat)) (k:IntKind) (d:D):TR P w lab π (.int k) d (.int k d.int)
 | bool (π:List (Nat × Nat)) (d:D):TR P w lab π .bool d (.bool d.bool)
 | str (π:List (Nat × Nat)) (d:D):TR P w lab π .str d (.string (bsv d.str))
 | nil (π:List (Nat × Nat)) (e:TypeId) (d:D) (A:Option Addr) (hr:(rowOf P e).isSome=true) (h:d.rows = []):TR P w lab π (.sl e) d (.slice A 0 0)
 | sl (π:List (Nat × Nat)) (e:TypeId) (d:D) (b cap:Nat) (row:List S) (arr:Array Value) (u:Nat→Nat→Value) (hr:rowOf P e=some row)
   (h1:d.rows.length≤cap) (h2:cap≤9223372036854775807) (h3:lab b π (d.rows.length*row.length)) (h4:w.heap[b]?=some (.cells arr e (0,0))) (h5:arr.size=cap*row.length)
   (h6:∀ i j,i<d.rows.length→j<row.length→arr[i*row.length+j]?=some (u i j))
   (h7:∀ i j s,i<d.rows.length→row[j]?=some s→TR P w lab (π ++ [(i,j)]) s (gd (d.rows.getD i []) j) (u i j)):TR P w lab π (.sl e) d (.slice (some ⟨b,0,none⟩) d.rows.length cap)
theorem TR.flat {P:Program} {w:World} {lab:Nat→List (Nat × Nat)→Nat→Prop} {π:List (Nat × Nat)} {s:S} {x:D} {v:Value} (h:TR P w lab π s x v):flatV v=true:=by
 cases h <;> rfl
theorem TR.monoQ {P:Program} {w w':World} {lab lab':Nat→List (Nat × Nat)→Nat→Prop} (Q:List (Nat × Nat)→Prop) (hQ:∀ π x,Q π→Q (π ++ [x])) (f:List (Nat × Nat)→List (Nat × Nat)) (hf:∀ π x,Q π→f (π ++ [x])=f π ++ [x]) {π:List (Nat × Nat)} {s:S} {x:D} {v:Value} (h:TR P w lab π s x v)
  (hk:∀ b π n o,Q π→lab b π n→w.heap[b]?=some o→w'.heap[b]?=some o∧lab' b (f π) n) (hπ:Q π):TR P w' lab' (f π) s x v:=by
 induction h with
 | int π k d=>exact .int _ k d
 | bool π d=>exact .bool _ d
 | str π d=>exact .str _ d
 | nil π e d A hr h=>exact .nil _ e d A hr h
 | sl π e d b cap row arr u hr h1 h2 h3 h4 h5 h6 h7 ih =>
  obtain ⟨k1,k2⟩:=hk _ _ _ _ hπ h3 h4
  exact .sl _ e d b cap row arr u hr h1 h2 k2 k1 h5 h6 (fun i j s hi hs=>by rw [← hf _ _ hπ]; exact ih i j s hi hs (hQ _ _ hπ))
theorem TR.mono {P:Program} {w w':World} {lab lab':Nat→List (Nat × Nat)→Nat→Prop} (f:List (Nat × Nat)→List (Nat × Nat)) (hf:∀ π x,π ≠ []→f (π ++ [x])=f π ++ [x]) {π:List (Nat × Nat)} {s:S} {x:D} {v:Value} (h:TR P w lab π s x v)
  (hk:∀ b π n o,π ≠ []→lab b π n→w.heap[b]?=some o→w'.heap[b]?=some o∧lab' b (f π) n) (hπ:π ≠ []):TR P w' lab' (f π) s x v:=
 TR.monoQ (fun π=>π ≠ []) (fun π x _=>by simp) f hf h hk hπ
theorem TR.vd {P:Program} {w:World} {lab:Nat→List (Nat × Nat)→Nat→Prop} {prot:Nat→Nat} {π:List (Nat × Nat)} {s:S} {x:D} {v:Value} (h:TR P w lab π s x v) (hk:∀ b π n,lab b π n→n≤prot b):VD P w prot s x v:=by
 induction h with
 | int π k d=>exact .int k d
 | bool π d=>exact .bool d
 | str π d=>exact .str d
 | nil π e d A hr h =>
  obtain ⟨row,hr⟩:=Option.isSome_iff_exists.1 hr
  have:=VD.sl (P:=P) (w:=w) (prot:=prot) e d A 0 row (fun _ _=>.int .i64 0) hr (by rw [h]; simp) (by omega) (by rw [h]; intro i j hi; simp at hi) (by rw [h]; intro i j s hi; simp at hi)
  rwa [show d.rows.length=0 from by rw [h]; rfl] at this
 | sl π e d b cap row arr u hr h1 h2 h3 h4 h5 h6 h7 ih =>
  refine VD.sl e d _ cap row u hr h1 h2 (fun i j hi hj=>⟨b,0,rfl,?_,?_⟩) ih
  ·simp only [World.cell?,h4,Nat.zero_add]
   exact h6 i j hi hj
  ·have:=hk _ _ _ h3
   have h8:i*row.length+row.length≤d.rows.length*row.length:=by
    rw [← Nat.succ_mul]; exact Nat.mul_le_mul_right _ hi
   omega
theorem TR.of_flat {P:Program} {w:World} {prot:Nat→Nat} {lab:Nat→List (Nat × Nat)→Nat→Prop} {π:List (Nat × Nat)} {s:S} {x:D} {v:Value} (h:VD P w prot s x v) (hs:s.flat=true):TR P w lab π s x v:=by
 cases h with
 | int k d=>exact .int π k _
 | bool d=>exact .bool π _
 | str d=>exact .str π _
 | opq=>simp [S.flat] at hs
 | sl=>simp [S.flat] at hs
theorem TR.no_opq {P:Program} {w:World} {lab:Nat→List (Nat × Nat)→Nat→Prop} {π:List (Nat × Nat)} {x:D} {v:Value} (h:TR P w lab π .opq x v):False:=by cases h
theorem TR.vd_flat {P:Program} {w:World} {prot:Nat→Nat} {lab:Nat→List (Nat × Nat)→Nat→Prop} {π:List (Nat × Nat)} {s:S} {x:D} {v:Value} (h:TR P w lab π s x v) (hs:s.flat=true):VD P w prot s x v:=by
 cases h with
 | int _ k d=>exact .int k _
 | bool _ d=>exact .bool _
 | str _ d=>exact .str _
 | nil=>simp [S.flat] at hs
 | sl=>simp [S.flat] at hs
def labOf (base:Nat) (g:G) (t:Tok) (b:Nat) (π:List (Nat × Nat)) (n:Nat):Prop:=base≤b∧g.owner b=some (.inr t)∧b≠g.ρ t∧g.path b=π∧g.need b=n∧g.prot b=0
def CellV (P:Program) (base:Nat) (w:World) (g:G) (t:Tok) (xm:Bool) (i j:Nat) (s:S) (d:D) (u:Value):Prop:=
 if (deepT t&&xm)=true then TR P w (labOf base g t) [(i,j)] s d u else VD P w g.prot s d u
theorem CellV.flat {P:Program} {base:Nat} {w:World} {g:G} {t:Tok} {xm:Bool} {i j:Nat} {s:S} {d:D} {u:Value} (h:CellV P base w g t xm i j s d u):flatV u=true:=by
 unfold CellV at h
 split at h
 ·exact TR.flat h
 ·exact VD.flat h
theorem CellV.vd_flat {P:Program} {base:Nat} {w:World} {g:G} {t:Tok} {xm:Bool} {i j:Nat} {s:S} {d:D} {u:Value} (h:CellV P base w g t xm i j s d u) (hs:s.flat=true):VD P w g.prot s d u:=by
 unfold CellV at h
 split at h
 ·exact TR.vd_flat h hs
 ·exact h
theorem CellV.vd {P:Program} {base:Nat} {w:World} {g:G} {t:Tok} {xm:Bool} {i j:Nat} {s:S} {d:D} {u:Value} (h:CellV P base w g t xm i j s d u) (hs:deepT t=false):VD P w g.prot s d u:=by
 unfold CellV at h
 rwa [hs,Bool.false_and,if_neg (by simp)] at h
theorem CellV.vd' {P:Program} {base:Nat} {w:World} {g:G} {t:Tok} {i j:Nat} {s:S} {d:D} {u:Value} (h:CellV P base w g t false i j s d u):VD P w g.prot s d u:=by
 unfold CellV at h
 rwa [Bool.and_false,if_neg (by simp)] at h
theorem CellV.of_vd {P:Program} {base:Nat} {w:World} {g:G} {t:Tok} {xm:Bool} {i j:Nat} {s:S} {d:D} {u:Value} (h:VD P w g.prot s d u) (hs:(deepT t&&xm)=false∨s.flat=true):CellV P base w g t xm i j s d u:=by
 unfold CellV
 split
 ·rename_i hd
  rcases hs with hs | hs
  ·rw [hs] at hd; cases hd
  ·exact TR.of_flat h hs
 ·exact h
theorem CellV.of_tr {P:Program} {base:Nat} {w:World} {g:G} {t:Tok} {i j:Nat} {s:S} {d:D} {u:Value} (h:TR P w (labOf base g t) [(i,j)] s d u) (hd:deepT t=true):CellV P base w g t true i j s d u:=by
 unfold CellV
 rw [if_pos (by rw [hd]; rfl)]
 exact h
theorem CellV.tr {P:Program} {base:Nat} {w:World} {g:G} {t:Tok} {i j:Nat} {s:S} {d:D} {u:Value} (h:CellV P base w g t true i j s d u) (hd:deepT t=true):TR P w (labOf base g t) [(i,j)] s d u:=by
 unfold CellV at h
 rwa [if_pos (by rw [hd]; rfl)] at h
theorem CellV.mono {P:Program} {base base':Nat} {w w':World} {g g':G} {t t':Tok} {xm:Bool} {i j:Nat} {s:S} {d:D} {u:Value} (h:CellV P base w g t xm i j s d u) (ht:(deepT t'&&xm)=(deepT t&&xm))
  (hvd:∀ b o z,o<g.prot b→w.cell? ⟨b,o,none⟩=some z→w'.cell? ⟨b,o,none⟩=some z∧o<g'.prot b)
  (hlab:(deepT t&&xm)=true→∀ b o,base≤b→g.owner b=some (.inr t)→b≠g.ρ t→w.heap[b]?=some o→w'.heap[b]?=some o∧base'≤b∧g'.owner b=some (.inr t')∧b≠g'.ρ t'∧g'.path b=g.path b∧g'.need b=g.need b∧(g.prot b=0→g'.prot b=0)):CellV P base' w' g' t' xm i j s d u:=by
 unfold CellV at h ⊢
 rw [ht]
 split at h
 ·rename_i hd
  rw [if_pos hd]
  refine TR.mono (fun π=>π) (fun _ _ _=>rfl) h (fun b π n o _ hl ho=>?_) (by simp)
  obtain ⟨l0,l1,l2,l3,l4,l5⟩:=hl
  obtain ⟨k1,k0,k2,k3,k4,k5,k6⟩:=hlab hd b o l0 l1 l2 ho
  exact ⟨k1,k0,k2,k3,k4.trans l3,k5.trans l4,k6 l5⟩
 ·rename_i hd
  rw [if_neg hd]
  exact h.mono hvd
def CptrV (P:Program) (w:World) (g:G) (_base:Nat) (cells:List S) (off:Nat) (x:D) (v:Value):Prop:=
 ∃ b o,v=.pointer (some ⟨b,o+off,none⟩)∧g.old b∧∀ j s,cells[j]?=some s→∃ u,w.cell? ⟨b,o+j,none⟩=some u∧VD P w g.prot s (gd (x.rows.getD 0 []) j) u
section
variable (P:Program) (w:World) (g:G) (base:Nat)
def OwnV (t:Tok) (xm:Bool) (e:TypeId) (row:List S) (rows:List (List D)) (v:Value):Prop:=
 (rows = []∧g.len t=0∧∃ A,v=.slice A 0 0) ∨
 (∃ (cap:Nat) (arr:Array Value) (E:TypeId),v=.slice (some ⟨g.ρ t,0,none⟩) rows.length cap∧rows.length≤cap∧(cap≤9223372036854775807∧E=e∧e=g.ety t)∧base≤g.ρ t∧g.owner (g.ρ t)=some (.inr t) ∧
  w.heap[g.ρ t]?=some (.cells arr E (0,0))∧arr.size=cap*row.length∧rows.length=g.len t∧row.length=g.wid t∧g.prot (g.ρ t)=(if xm then 0 else g.len t*g.wid t) ∧
  ∀ i j s,i<rows.length→row[j]?=some s→∃ u,arr[i*row.length+j]?=some u∧CellV P base w g t xm i j s (gd (rows.getD i []) j) u)
def CapV:Cap→D→Value→Prop
 | .d s,x,v=>VD P w g.prot s x v
 | .ptr id off,_,v=>v=.pointer (some ⟨g.θ id,off,none⟩)
 | .cptr cells off,x,v=>CptrV P w g base cells off x v
def eRows (x:D):List (List D):=(gd (x.rows.getD 0 []) 0).rows
def eIx (x:D):Nat:=(gd (x.rows.getD 0 []) 1).int.toNat
def VC:Ce→D→Value→Prop
 | .any,_,_=>True
 | .d s,x,v=>VD P w g.prot s x v
 | .kb b,_,v=>v=.bool b
 | .own t xm e,x,v=>∃ row,rowOf P e=some row∧OwnV P w g base t xm e row x.rows v
 | .ptr id off,_,v=>v=.pointer (some ⟨g.θ id,off,none⟩)
 | .eptr none e off,x,v=>∃ row b o,rowOf P e=some row∧v=.pointer (some ⟨b,o+(eIx x*row.length+off),none⟩)∧eIx x<(eRows x).length ∧
   ∀ j s,row[j]?=some s→∃ u,w.cell? ⟨b,o+(eIx x*row.length+j),none⟩=some u∧o+(eIx x*row.length+j)<g.prot b∧VD P w g.prot s (gd ((eRows x).getD (eIx x) []) j) u
 | .eptr (some t) e off,x,v=>∃ row,rowOf P e=some row∧v=.pointer (some ⟨g.ρ t,eIx x*row.length+off,none⟩)∧eIx x<(eRows x).length∧∃ u,OwnV P w g base t true e row (eRows x) u
 | .inn t e off ei,x,v=>∃ row,rowOf P e=some row∧(∃ u,OwnV P w g base t true e row (eRows x) u) ∧
   ((off<viewOff∧row[off]?=some (.sl ei)∧deepT t=true∧eIx x<(eRows x).length∧∃ arr E,w.heap[g.ρ t]?=some (.cells arr E (0,0))∧arr[eIx x*row.length+off]?=some v∧flatV v=true) ∨
    (viewOff≤off∧ei=e∧VD P w (fun b=>if b=g.ρ t then (eRows x).length*row.length else 0) (.sl e) (.l ((eRows x).drop (eIx x))) v))
 | .cptr cells off,x,v=>CptrV P w g base cells off x v
 | .fn f caps,x,v=>∃ arr:Array Value,v=.func (.func f) #[] arr∧arr.size=caps.length∧∀ j c,caps[j]?=some c→∃ u,arr[j]?=some u∧CapV P w g base c (gd (x.rows.getD 0 []) j) u
def VCs (cs:List Ce) (p:List D) (arr:Array Value):Prop:=arr.size=cs.length∧∀ (j:Nat) c,cs[j]?=some c→∃ u,arr[j]?=some u∧VC P w g base c (gd p j) u
def V1:Sh1→List D→Value→Prop
 | .c x,p,v=>VC P w g base x (gd p 0) v
 | .agg xs,p,v=>∃ arr,v=.agg arr∧VCs P w g base xs p arr
def offs (xs:List Sh1) (j:Nat):Nat:=(xs.take j).foldr (fun s n=>s.size+n) 0
def VS:Sh→List D→Value→Prop
 | .one x,p,v=>V1 P w g base x p v
 | .tup xs,p,v=>∃ vs:Array Value,v=.tuple vs∧vs.size=xs.length∧∀ (j:Nat) x,xs[j]?=some x→∃ u,vs[j]?=some u∧V1 P w g base x (sub p (offs xs j) x.size) u
def VT (t:T) (v:Value):Prop:=VS P w g base t.sh t.p v
def BoxV (id:Nat) (cs:List Ce) (ds:List D):Prop:=
 base≤g.θ id∧g.owner (g.θ id)=some (.inl id)∧g.prot (g.θ id)=0∧ds.length=cs.length∧∃ arr E,w.heap[g.θ id]?=some (.cells arr E (0,0))∧VCs P w g base cs ds arr
class Low where
 low:Nat→Nat
 heap:Nat→Option Obj
 old:Nat→Prop
 pin:Tok→Option (Nat × Nat × Nat × TypeId)
 box:Nat
 lab:Nat→Tok→List (Nat × Nat)→Nat→Prop
abbrev noLow:Low:=⟨fun _=>0,fun _=>none,fun _=>False,fun _=>none,0,fun _ _ _ _=>True⟩
variable [Low]
structure Rel (σ:St) (a:Act):Prop where
 env:∀ i,VT P w g base (look2 i σ.e σ.r) (a.tmps.getD i undef)
 box:∀ id cs ds,hlook id σ.h=some (cs,ds)→BoxV P w g base id cs ds
 fresh:∀ b,w.heap.size≤b→g.prot b=0∧g.owner b=none
 base_le:base≤w.heap.size
 defers:a.defers = []∧a.tmps.size≤1000000
 low:(g.old=Low.old∧g.θ 1000000=Low.box)∧(∀ b,g.old b→g.owner b=none∧g.prot b=Low.low b∧w.heap[b]?=Low.heap b∧b<w.heap.size)∧∀ t x,Low.pin t=some x→t.1=1000001∧g.ρ t=x.1∧g.len t=x.2.1∧(0<x.2.2.1→g.owner x.1=some (.inr t)∧∃ arr,w.heap[x.1]?=some (.cells arr x.2.2.2 (0,0))∧arr.size=x.2.2.1)
 mine:∀ b t,t.1=1000001→g.owner b=some (.inr t)→Low.lab b t (g.path b) (g.need b)
end
theorem VC.flat {P:Program} {w:World} {g:G} {base:Nat} {c:Ce} {x:D} {v:Value} (h:VC P w g base c x v) (hc:c≠.any):flatV v=true:=by
 cases c with
 | any=>exact absurd rfl hc
 | d s=>exact VD.flat h
 | kb b=>cases h; rfl
 | own t xm e =>
  obtain ⟨row,_,h | ⟨_,_,_,h,_⟩⟩:=h
  ·obtain ⟨_,_,A,h⟩:=h; cases h; rfl
  ·cases h; rfl
 | ptr id off=>cases h; rfl
 | eptr t e off=>cases t with
  | none=>obtain ⟨_,_,_,_,h,_⟩:=h; cases h; rfl
  | some t=>obtain ⟨_,_,h,_⟩:=h; cases h; rfl
 | inn t e off ei =>
  obtain ⟨_,_,_,⟨_,_,_,_,_,_,_,_,h⟩ | ⟨_,_,h⟩⟩:=h
  ·exact h
  ·exact VD.flat h
 | cptr cells off=>obtain ⟨_,_,h,_⟩:=h; cases h; rfl
 | fn f caps=>obtain ⟨_,h,_⟩:=h; cases h; rfl
theorem inn_own {P:Program} {w:World} {g:G} {base:Nat} {t:Tok} {e:TypeId} {row:List S} {x:D} {u:Value} (h:eIx x<(eRows x).length) (hu:OwnV P w g base t true e row (eRows x) u):g.owner (g.ρ t)=some (.inr t):=by
 rcases hu with ⟨h0,_⟩ | ⟨_,_,_,_,_,_,_,h5,_⟩
 ·rw [h0] at h; simp at h
 ·exact h5
theorem inn_mono {P:Program} {w w':World} {g g':G} {base base':Nat} {t:Tok} {e:TypeId} {off:Nat} {ei:TypeId} {x:D} {v:Value} (hv:VC P w g base (.inn t e off ei) x v) (hρ:g'.ρ t=g.ρ t)
  (hh:∀ o,g.owner (g.ρ t)=some (.inr t)→w.heap[g.ρ t]?=some o→w'.heap[g.ρ t]?=some o) (hown:∀ {row rows u},OwnV P w g base t true e row rows u→OwnV P w' g' base' t true e row rows u):VC P w' g' base' (.inn t e off ei) x v:=by
 obtain ⟨row,h1,⟨u,h5⟩,⟨h0,h2,h3,h4,arr,E,h6,h7,h8⟩ | ⟨h0,h2,h3⟩⟩:=hv
 ·exact ⟨row,h1,⟨u,hown h5⟩,.inl ⟨h0,h2,h3,h4,arr,E,by rw [hρ]; exact hh _ (inn_own h4 h5) h6,h7,h8⟩⟩
 ·refine ⟨row,h1,⟨u,hown h5⟩,.inr ⟨h0,h2,?_⟩⟩
  rw [hρ]
  refine h3.mono fun b o z ho hz=>⟨?_,ho⟩
  by_cases hb:b=g.ρ t
  ·subst hb
   rcases h5 with ⟨hr,_⟩ | ⟨_,arr,E,_,_,_,_,k5,k6,_⟩
   ·rw [hr] at ho; simp at ho
   ·exact (cell_of_heap ((hh _ k5 k6).trans k6.symm) o).trans hz
  ·rw [if_neg hb] at ho; omega
structure Ext (d:Option Nat) (g g':G) (w w':World):Prop where
 size:w.heap.size≤w'.heap.size
 θ:∀ id,some id≠d→g'.θ id=g.θ id
 ρ:∀ t:Tok,some t.1≠d→g'.ρ t=g.ρ t∧g'.len t=g.len t∧g'.wid t=g.wid t∧g'.ety t=g.ety t
 prot:∀ b,b<w.heap.size→g'.prot b=g.prot b
 owner:∀ b,b<w.heap.size→g'.owner b=g.owner b
 heap:∀ b,b<w.heap.size→w'.heap[b]?=w.heap[b]?
 lab:∀ b,b<w.heap.size→g'.path b=g.path b∧g'.need b=g.need b
 old:g'.old=g.old
 new:∀ b t,w.heap.size≤b→g'.owner b=some (.inr t)→some t.1=d∨g.owner b=some (.inr t)
theorem lt_of_heap {w:World} {b:Nat} {o:Obj} (h:w.heap[b]?=some o):b<w.heap.size:=by
 rcases Nat.lt_or_ge b w.heap.size with hlt | hge
 ·exact hlt
 ·rw [Array.getElem?_eq_none hge] at h; cases h
section
variable {P:Program} {w w':World} {g g':G} {base:Nat} {d:Option Nat}
theorem Ext.vd (h:Ext d g g' w w') {s:S} {x:D} {v:Value} (hv:VD P w g.prot s x v):VD P w' g'.prot s x v:=
 hv.mono fun b o u ho hc=>⟨(cell_of_heap (h.heap b (cell_size hc)) o).trans hc,by rw [h.prot b (cell_size hc)]; exact ho⟩
theorem Ext.cell (h:Ext d g g' w w') {t:Tok} {xm:Bool} {i j:Nat} {s:S} {x:D} {v:Value} (ht:some t.1≠d) (hv:CellV P base w g t xm i j s x v):CellV P base w' g' t xm i j s x v:=
 hv.mono rfl (fun b o u ho hc=>⟨(cell_of_heap (h.heap b (cell_size hc)) o).trans hc,by rw [h.prot b (cell_size hc)]; exact ho⟩) (fun _ b o h0 ho hne hb=>by
  have hlt:=lt_of_heap hb
  exact ⟨(h.heap b hlt).trans hb,h0,(h.owner b hlt).trans ho,by rw [(h.ρ t ht).1]; exact hne,(h.lab b hlt).1,(h.lab b hlt).2,fun e=>(h.prot b hlt).trans e⟩)
theorem Ext.own (h:Ext d g g' w w') {t:Tok} {xm:Bool} {e:TypeId} {row:List S} {rows:List (List D)} {v:Value} (ht:some t.1≠d) (hv:OwnV P w g base t xm e row rows v):OwnV P w' g' base t xm e row rows v:=by
 rcases hv with hv | ⟨cap,arr,E,h1,h2,h3,h4,h5,h6,h7,h8,h9,h10,h11⟩
 ·exact .inl ⟨hv.1,by rw [(h.ρ t ht).2.1]; exact hv.2.1,hv.2.2⟩
 ·obtain ⟨e1,e2,e3,e4⟩:=h.ρ t ht
  have hlt:=lt_of_heap h6
  refine .inr ⟨cap,arr,E,by rw [e1]; exact h1,h2,by rw [e4]; exact h3,by rw [e1]; exact h4,by rw [e1,h.owner _ hlt]; exact h5,by rw [e1,h.heap _ hlt]; exact h6,h7,by rw [e2]; exact h8,by rw [e3]; exact h9,by rw [e1,e2,e3,h.prot _ hlt]; exact h10,?_⟩
  intro i j s hi hs
  obtain ⟨u,hu,hd⟩:=h11 i j s hi hs
  exact ⟨u,hu,h.cell ht hd⟩
theorem Ext.cptr (h:Ext d g g' w w') {cells:List S} {off:Nat} {x:D} {v:Value} (hb:base≤w.heap.size) (hv:CptrV P w g base cells off x v):CptrV P w' g' base cells off x v:=by
 obtain ⟨b,o,h1,h2,h3⟩:=hv
 refine ⟨b,o,h1,by rw [h.old]; exact h2,fun j s hs=>?_⟩
 obtain ⟨u,hu,hd⟩:=h3 j s hs
 exact ⟨u,(cell_of_heap (h.heap b (cell_size hu)) _).trans hu,h.vd hd⟩
theorem own_vd {t:Tok} {xm:Bool} {e:TypeId} {row:List S} {x:D} {v:Value} {prot:Nat→Nat} (hr:rowOf P e=some row) (hv:OwnV P w g base t xm e row x.rows v)
  (hp:∀ b,g.prot b≤prot b) (hq:x.rows ≠ []→g.len t*g.wid t≤prot (g.ρ t)) (hdp:(deepT t&&xm)=true→∀ b,g.owner b=some (.inr t)→b≠g.ρ t→g.need b≤prot b):VD P w prot (.sl e) x v:=by
 rcases hv with ⟨h0,_,A,rfl⟩ | ⟨cap,arr,E,rfl,h2,h3,h4,h5,h6,h7,h8,h9,h10,h11⟩
 ·have:=VD.sl (P:=P) (w:=w) (prot:=prot) e x A 0 row (fun _ _=>undef) hr (by rw [h0]; simp) (by omega) (by rw [h0]; intro i j hi; simp at hi) (by rw [h0]; intro i j s hi; simp at hi)
  rwa [h0] at this
 ·refine VD.sl (P:=P) (w:=w) (prot:=prot) e x _ cap row (fun i j=>arr[i*row.length+j]?.getD undef) hr h2 h3.1 ?_ ?_
  ·intro i j hi hj
   obtain ⟨u,hu,hd⟩:=h11 i j _ hi (List.getElem?_eq_getElem hj)
   refine ⟨_,_,rfl,?_,?_⟩
   ·rw [hu]
    simp only [World.cell?,h6,Nat.zero_add]
    exact hu
   ·have hq':=hq (by intro e; rw [e] at hi; simp at hi)
    rw [← h8,← h9] at hq'
    have:i*row.length+row.length≤x.rows.length*row.length:=by
     rw [← Nat.succ_mul]; exact Nat.mul_le_mul_right _ hi
    omega
  ·intro i j s hi hs
   obtain ⟨u,hu,hd⟩:=h11 i j s hi hs
   simp only [hu]
   change VD P w prot s _ u
   unfold CellV at hd
   split at hd
   ·rename_i hdt
    exact TR.vd hd fun b π n hl=>by rw [← hl.2.2.2.2.1]; exact hdp hdt b hl.2.1 hl.2.2.1
   ·exact hd.mono fun b o u ho hc=>⟨hc,Nat.lt_of_lt_of_le ho (hp b)⟩
theorem own_vd' {t:Tok} {e:TypeId} {row:List S} {x:D} {v:Value} (hr:rowOf P e=some row) (hv:OwnV P w g base t false e row x.rows v):VD P w g.prot (.sl e) x v:=by
 refine own_vd hr hv (fun _=>Nat.le_refl _) (fun hne=>?_) (fun h=>by simp at h)
 rcases hv with ⟨h0,_⟩ | ⟨cap,arr,E,rfl,h2,h3,h4,h5,h6,h7,h8,h9,h10,h11⟩
 ·exact absurd h0 hne
 ·rw [h10]; simp
theorem Ext.cap {d₀:Nat} (h:Ext (some d₀) g g' w w') (hb:base≤w.heap.size) {c:Cap} {x:D} {v:Value} (hc:∀ off,c≠.ptr d₀ off) (hv:CapV P w g base c x v):CapV P w' g' base c x v:=by
 cases c with
 | d s=>exact h.vd hv
 | ptr id off =>
  show v=_
  rw [h.θ id (by intro e; injection e with e; exact hc off (by rw [e]))]; exact hv
 | cptr cells off=>exact h.cptr hb hv
theorem Ext.vc {d₀:Nat} (h:Ext (some d₀) g g' w w') (hb:base≤w.heap.size) {c:Ce} {x:D} {v:Value} (hv:VC P w g base c x v):VC P w' g' base (wipeC d₀ c) x v:=by
 cases c with
 | any=>trivial
 | d s=>exact h.vd hv
 | kb b=>exact hv
 | own t xm e =>
  obtain ⟨row,hr,hv⟩:=hv
  change VC P w' g' base (bif t.1==d₀ then (bif xm then .any else .d (.sl e)) else .own t xm e) x v
  by_cases ht:t.1=d₀
  ·rw [show (t.1==d₀)=true from by simpa using ht,cond_true]
   cases xm with
   | true=>trivial
   | false=>exact h.vd (own_vd' hr hv)
  ·rw [show (t.1==d₀)=false from by simpa using ht,cond_false]
   exact ⟨row,hr,h.own (by simpa using ht) hv⟩
 | ptr id off =>
  change VC P w' g' base (bif id==d₀ then .any else .ptr id off) x v
  by_cases ht:id=d₀
  ·rw [show (id==d₀)=true from by simpa using ht]; trivial
  ·rw [show (id==d₀)=false from by simpa using ht,cond_false]
   show v=_
   rw [h.θ id (by simpa using ht)]; exact hv
 | eptr t e off =>
  cases t with
  | none =>
   obtain ⟨row,b,o,h1,h2,h3,h4⟩:=hv
   refine ⟨row,b,o,h1,h2,h3,fun j s hs=>?_⟩
   obtain ⟨u,k1,k2,k3⟩:=h4 j s hs
   exact ⟨u,(cell_of_heap (h.heap b (cell_size k1)) _).trans k1,by rw [h.prot b (cell_size k1)]; exact k2,h.vd k3⟩
  | some t =>
   change VC P w' g' base (bif t.1==d₀ then .any else .eptr (some t) e off) x v
   by_cases ht:t.1=d₀
   ·rw [show (t.1==d₀)=true from by simpa using ht]; trivial
   ·rw [show (t.1==d₀)=false from by simpa using ht,cond_false]
    obtain ⟨row,h1,h2,h3,u,h4⟩:=hv
    exact ⟨row,h1,by rw [(h.ρ t (by simpa using ht)).1]; exact h2,h3,u,h.own (by simpa using ht) h4⟩
 | inn t e off ei =>
  change VC P w' g' base (bif t.1==d₀ then .any else .inn t e off ei) x v
  by_cases ht:t.1=d₀
  ·rw [show (t.1==d₀)=true from by simpa using ht]; trivial
  ·rw [show (t.1==d₀)=false from by simpa using ht,cond_false]
   exact inn_mono hv (h.ρ t (by simpa using ht)).1 (fun o _ ho=>(h.heap _ (lt_of_heap ho)).trans ho) (fun hu=>h.own (by simpa using ht) hu)
 | cptr cells off=>exact h.cptr hb hv
 | fn f caps =>
  change VC P w' g' base (bif caps.all (fun | .ptr id _=>id != d₀ | _=>true) then .fn f caps else .any) x v
  generalize hq:caps.all _=q
  cases q with
  | false=>trivial
  | true =>
   obtain ⟨arr,h1,h2,h3⟩:=hv
   refine ⟨arr,h1,h2,fun j c hc=>?_⟩
   obtain ⟨u,hu,hcap⟩:=h3 j c hc
   refine ⟨u,hu,h.cap hb (fun off e=>?_) hcap⟩
   have:=List.all_eq_true.1 hq c (List.mem_of_getElem? hc)
   rw [e] at this
   simp at this
end
theorem Ext.low [Low] {P:Program} {w w':World} {g g':G} {base:Nat} {d:Option Nat} {σ:St} {a:Act} (h:Ext d g g' w w') (hr:Rel P w g base σ a) (hd:∀ n,1000000≤n→d≠some n):(g'.old=Low.old∧g'.θ 1000000=Low.box)∧(∀ b,g'.old b→g'.owner b=none∧g'.prot b=Low.low b∧w'.heap[b]?=Low.heap b∧b<w'.heap.size)∧∀ t x,Low.pin t=some x→t.1=1000001∧g'.ρ t=x.1∧g'.len t=x.2.1∧(0<x.2.2.1→g'.owner x.1=some (.inr t)∧∃ arr,w'.heap[x.1]?=some (.cells arr x.2.2.2 (0,0))∧arr.size=x.2.2.1):=by
 refine ⟨⟨h.old.trans hr.low.1.1,(h.θ 1000000 (Ne.symm (hd _ (Nat.le_refl _)))).trans hr.low.1.2⟩,fun b hb=>?_,fun t x hx=>?_⟩
 ·rw [h.old] at hb
  obtain ⟨k1,k2,k3,k4⟩:=hr.low.2.1 b hb
  exact ⟨by rw [h.owner b k4]; exact k1,by rw [h.prot b k4]; exact k2,(h.heap b k4).trans k3,Nat.lt_of_lt_of_le k4 h.size⟩
 ·obtain ⟨k1,k2,k3,k4⟩:=hr.low.2.2 t x hx
  obtain ⟨q1,q2,_⟩:=h.ρ t (by rw [k1]; exact Ne.symm (hd _ (by omega)))
  refine ⟨k1,q1.trans k2,q2.trans k3,fun h0=>?_⟩
  obtain ⟨m1,arr,m2,m3⟩:=k4 h0
  have hlt:=lt_of_heap m2
  exact ⟨(h.owner _ hlt).trans m1,arr,(h.heap _ hlt).trans m2,m3⟩
theorem Ext.mine [Low] {P:Program} {w w':World} {g g':G} {base:Nat} {d:Option Nat} {σ:St} {a:Act} (h:Ext d g g' w w') (hr:Rel P w g base σ a) (hd:∀ n,1000000≤n→d≠some n):∀ b t,t.1=1000001→g'.owner b=some (.inr t)→Low.lab b t (g'.path b) (g'.need b):=by
 intro b t ht ho
 rcases Nat.lt_or_ge b w.heap.size with hlt | hge
 ·rw [(h.lab b hlt).1,(h.lab b hlt).2]
  exact hr.mine b t ht ((h.owner b hlt).symm.trans ho)
 ·rcases h.new b t hge ho with h1 | h1
  ·exact absurd h1.symm (by rw [ht]; exact hd _ (by omega))
  ·rw [(hr.fresh b hge).2] at h1; cases h1
theorem Rel.ne [Low] {P:Program} {w:World} {g:G} {base:Nat} {σ:St} {a:Act} (hr:Rel P w g base σ a) {d:Nat} (h:d<a.tmps.size):∀ n,1000000≤n→some d≠some n:=fun n hn=>by
 have:=hr.defers.2
 simp only [ne_eq,Option.some.injEq]
 omega
theorem Rel.oldNe [Low] {P:Program} {w:World} {g:G} {base:Nat} {σ:St} {a:Act} (hr:Rel P w g base σ a) {b nb:Nat} {x:Nat ⊕ Tok} (hb:g.old b) (ho:g.owner nb=some x):b≠nb:=by
 intro e
 have:=(hr.low.2.1 b hb).1
 rw [e,ho] at this
 cases this
theorem Rel.lowIn [Low] {P:Program} {w w':World} {g:G} {base:Nat} {σ:St} {a:Act} (hr:Rel P w g base σ a) (hh:∀ b,g.old b→w'.heap[b]?=w.heap[b]?) (hs:w.heap.size≤w'.heap.size)
  (hp:∀ b t arr e,t.1=1000001→g.owner b=some (.inr t)→b=g.ρ t→w.heap[b]?=some (.cells arr e (0,0))→0<arr.size→∃ arr',w'.heap[b]?=some (.cells arr' e (0,0))∧arr'.size=arr.size) :
  (g.old=Low.old∧g.θ 1000000=Low.box)∧(∀ b,g.old b→g.owner b=none∧g.prot b=Low.low b∧w'.heap[b]?=Low.heap b∧b<w'.heap.size)∧∀ t x,Low.pin t=some x→t.1=1000001∧g.ρ t=x.1∧g.len t=x.2.1∧(0<x.2.2.1→g.owner x.1=some (.inr t)∧∃ arr,w'.heap[x.1]?=some (.cells arr x.2.2.2 (0,0))∧arr.size=x.2.2.1):=
 ⟨hr.low.1,fun b hb=>by
  obtain ⟨k1,k2,k3,k4⟩:=hr.low.2.1 b hb
  exact ⟨k1,k2,(hh b hb).trans k3,Nat.lt_of_lt_of_le k4 hs⟩,fun t x hx=>by
  obtain ⟨k1,k2,k3,k4⟩:=hr.low.2.2 t x hx
  refine ⟨k1,k2,k3,fun h0=>?_⟩
  obtain ⟨m1,arr,m2,m3⟩:=k4 h0
  obtain ⟨arr',q1,q2⟩:=hp x.1 t arr _ k1 m1 k2.symm m2 (by omega)
  exact ⟨m1,arr',q1,q2.trans m3⟩⟩
def Kept (P:Program) (base:Nat) (g g':G) (w w':World) (f:Ce→Ce):Prop:=∀ c x v,VC P w g base c x v→VC P w' g' base (f c) x v
section
variable [Low] {P:Program} {w w':World} {g g':G} {base:Nat} {f:Ce→Ce}
theorem Kept.vcs (h:Kept P base g g' w w' f) {cs:List Ce} {p:List D} {arr:Array Value} (hv:VCs P w g base cs p arr):VCs P w' g' base (cs.map f) p arr:=by
 refine ⟨by rw [List.length_map]; exact hv.1,fun j c hc=>?_⟩
 rw [List.getElem?_map] at hc
 cases hj:cs[j]? with
 | none=>rw [hj] at hc; cases hc
 | some c0 =>
  rw [hj] at hc
  injection hc with hc
  obtain ⟨u,hu,hv'⟩:=hv.2 j c0 hj
  exact ⟨u,hu,hc▸h c0 _ _ hv'⟩
theorem Kept.v1 (h:Kept P base g g' w w' f) {s:Sh1} {p:List D} {v:Value} (hv:V1 P w g base s p v):V1 P w' g' base (s.map f) p v:=by
 cases s with
 | c x=>exact h x _ _ hv
 | agg xs=>obtain ⟨arr,h1,h2⟩:=hv; exact ⟨arr,h1,h.vcs h2⟩
theorem Sh1.size_map (f:Ce→Ce) (s:Sh1):(s.map f).size=s.size:=by
 cases s <;> simp [Sh1.map,Sh1.size]
theorem offs_map (f:Ce→Ce):∀ (xs:List Sh1) (j:Nat),offs (xs.map (Sh1.map f)) j=offs xs j
 | [],j=>by simp [offs]
 | x::xs,0=>by simp [offs]
 | x::xs,j+1=>by
  have:=offs_map f xs j
  simp only [offs,List.map_cons,List.take_succ_cons,List.foldr_cons,Sh1.size_map] at this ⊢
  rw [this]
theorem Kept.vt (h:Kept P base g g' w w' f) {t:T} {v:Value} (hv:VT P w g base t v):VT P w' g' base ⟨t.sh.map f,t.p⟩ v:=by
 obtain ⟨sh,p⟩:=t
 cases sh with
 | one x=>exact h.v1 hv
 | tup xs =>
  obtain ⟨vs,h1,h2,h3⟩:=hv
  refine ⟨vs,h1,by rw [List.length_map]; exact h2,fun j x hx=>?_⟩
  rw [List.getElem?_map] at hx
  cases hj:xs[j]? with
  | none=>rw [hj] at hx; cases hx
  | some x0 =>
   rw [hj] at hx
   injection hx with hx
   obtain ⟨u,hu,hv'⟩:=h3 j x0 hj
   refine ⟨u,hu,?_⟩
   subst hx
   rw [offs_map,Sh1.size_map]
   exact h.v1 hv'
theorem look_map (F:T→T) (hF:F .any=.any):∀ (e:Env) (i:Nat),look i (e.map fun p=>(p.1,F p.2))=F (look i e)
 | [],i=>by simp [look,hF]
 | (j,v)::e,i=>by
  simp only [List.map_cons,look]
  rw [look_map F hF e i]
  cases i==j <;> rfl
theorem look2_map (F:T→T) (hF:F .any=.any) (e:Env) (i:Nat):∀ (r:Env),look2 i (e.map fun p=>(p.1,F p.2)) (r.map fun p=>(p.1,F p.2))=F (look2 i e r)
 | []=>look_map F hF e i
 | (j,v)::r=>by
  simp only [List.map_cons,look2]
  rw [look2_map F hF e i r]
  cases i==j <;> rfl
theorem hlook_map (F:List Ce→List Ce):∀ (h:Boxes) (i:Nat),hlook i (h.map fun p=>(p.1,F p.2.1,p.2.2))=(hlook i h).map fun q=>(F q.1,q.2)
 | [],i=>by simp [hlook]
 | (j,v)::e,i=>by
  simp only [List.map_cons,hlook]
  rw [hlook_map F e i]
  cases i==j <;> rfl
theorem Rel.envMap {σ:St} {a:Act} (hr:Rel P w g base σ a) (h:Kept P base g g' w w' f) (hf:f .any=.any) (i:Nat) :
  VT P w' g' base (look2 i (σ.map f).e (σ.map f).r) (a.tmps.getD i undef):=by
 have e:=look2_map (fun t=>(⟨t.sh.map f,t.p⟩:T)) (by simp [Sh.map,Sh1.map,hf]) σ.e i σ.r
 show VT P w' g' base (look2 i (σ.e.map _) (σ.r.map _)) _
 rw [e]
 exact h.vt (hr.env i)
theorem Rel.boxMap {σ:St} {a:Act} (hr:Rel P w g base σ a) (h:Kept P base g g' w w' f) {id:Nat} {cs:List Ce} {ds:List D} (hl:hlook id (σ.map f).h=some (cs,ds))
  (hθ:∀ cs ds,hlook id σ.h=some (cs,ds)→g'.θ id=g.θ id∧g'.owner (g.θ id)=g.owner (g.θ id)∧g'.prot (g.θ id)=g.prot (g.θ id)∧w'.heap[g.θ id]?=w.heap[g.θ id]?):BoxV P w' g' base id cs ds:=by
 have e:=hlook_map (List.map f) σ.h id
 change hlook id (σ.map f).h=_ at e
 rw [hl] at e
 cases hq:hlook id σ.h with
 | none=>rw [hq] at e; cases e
 | some q =>
  obtain ⟨cs0,ds0⟩:=q
  rw [hq] at e
  injection e with e
  injection e with e1 e2
  subst e1; subst e2
  obtain ⟨k1,k2,k3,kl,arr,E,k4,k5⟩:=hr.box id cs0 ds hq
  obtain ⟨t1,t2,t3,t4⟩:=hθ cs0 ds hq
  exact ⟨by rw [t1]; exact k1,by rw [t1,t2]; exact k2,by rw [t1,t3]; exact k3,by rw [List.length_map]; exact kl,arr,E,by rw [t1,t4]; exact k4,h.vcs k5⟩
end
end Go.Proofs.YthbbbhpjkgpdcaaGreat
namespace Go.Proofs.YthbbbhpjkgpdcaaGreat
open Go.RowKit (Below)
theorem addr_add (b o m:Nat):(⟨b,o,none⟩:Addr).add m=⟨b,o+m,none⟩:=by
 unfold Addr.add
 split
 ·rename_i h; subst h; rfl
 ·rfl
section
variable [Low] {P:Program}
theorem run_size {t n:Nat} (h:tSize P t=some n) (w:World):(sizeOf t).run P w=.ok n w:=by
 unfold tSize at h
 cases hi:P.info? t with
 | none=>rw [hi] at h; cases h
 | some i=>rw [hi] at h; injection h with h; simp [sizeOf,typeInfo,program,hi,h,Sem.run]
theorem run_agg {t:Nat} {b:Bool} (h:tAgg P t=some b) (w:World):(isAgg t).run P w=.ok b w:=by
 unfold tAgg at h
 cases hu:P.underlying t with
 | none=>rw [hu] at h; cases h
 | some d =>
  rw [hu] at h
  simp only [isAgg,Sem.run_bind,run_underlying hu,Result.andThen_ok]
  cases d <;> simp_all
theorem tElem_und {t e:Nat} (h:tElem P t=some e):P.underlying t=some (.slice e):=by
 unfold tElem at h
 split at h
 ·rename_i h'; injection h with h; subst h; exact h'
 ·cases h
theorem rowOf_size {t:Nat} {row:List S} (h:rowOf P t=some row):tSize P t=some row.length:=by
 unfold rowOf at h
 split at h
 ·rename_i r hr
  cases hc:(tSize P t==some r.length && !r.isEmpty&&Nat.blt r.length viewOff) with
  | true =>
   rw [hc,cond_true] at h; injection h with h; subst h
   simp only [Bool.and_eq_true] at hc
   simpa using hc.1.1
  | false=>rw [hc,cond_false] at h; cases h
 ·cases h
theorem rowOf_pos {t:Nat} {row:List S} (h:rowOf P t=some row):0<row.length:=by
 unfold rowOf at h
 split at h
 ·rename_i r hr
  cases hc:(tSize P t==some r.length && !r.isEmpty&&Nat.blt r.length viewOff) with
  | true =>
   rw [hc,cond_true] at h; injection h with h; subst h
   simp only [Bool.and_eq_true] at hc
   have:=hc.1.2
   cases r with
   | nil=>simp at this
   | cons x y=>simp
  | false=>rw [hc,cond_false] at h; cases h
 ·cases h
theorem rowOf_lt {t:Nat} {row:List S} (h:rowOf P t=some row):row.length<viewOff:=by
 unfold rowOf at h
 split at h
 ·rename_i r hr
  cases hc:(tSize P t==some r.length && !r.isEmpty&&Nat.blt r.length viewOff) with
  | true =>
   rw [hc,cond_true] at h; injection h with h; subst h
   simp only [Bool.and_eq_true] at hc
   exact Nat.le_of_ble_eq_true hc.2
  | false=>rw [hc,cond_false] at h; cases h
 ·cases h
variable {w:World} {g:G} {base n:Nat} {σ:St} {a:Act}
theorem ofV_ok (v:Value):VT P w g base (ofV v) v:=by
 cases v with
 | int k n=>exact VD.int k (.i n)
 | bool b=>exact rfl
 | string s =>
  have h:=VD.str (P:=P) (w:=w) (prot:=g.prot) (.s (byteList s))
  simp only [D.str,bsv_byteList] at h
  exact h
 | tuple xs =>
  show VT P w g base (bif xs.isEmpty then .none_ else .any) (.tuple xs)
  cases hx:xs.isEmpty with
  | true =>
   have:xs = #[]:=by simpa using hx
   subst this
   exact ⟨#[],rfl,rfl,fun j x h=>by simp at h⟩
  | false=>trivial
 | _=>trivial
theorem opd_ok (hr:Rel P w g base σ a) (x:Operand):VT P w g base (opd σ x) (a.eval x):=by
 cases x with
 | tmp i=>exact hr.env i
 | const v=>exact ofV_ok v
 | global i=>trivial
 | func f=>exact ⟨#[],rfl,rfl,fun j c h=>by simp at h⟩
theorem nil_vd {prot:Nat→Nat} {e:TypeId} {row:List S} (hr:rowOf P e=some row):VD P w prot (.sl e) (.l []) (.slice none 0 0):=
 VD.sl (P:=P) (w:=w) (prot:=prot) e (.l []) none 0 row (fun _ _=>undef) hr (Nat.le_refl _) (by omega) (by intro i j hi; simp [D.rows] at hi) (by intro i j s hi; simp [D.rows] at hi)
theorem opdT_ok (hr:Rel P w g base σ a) (t:TypeId) (x:Operand):VT P w g base (opdT P σ t x) (a.eval x):=by
 unfold opdT
 split
 ·rename_i v hn
  unfold nilT at hn
  split at hn
  ·rename_i t0 ht
   split at hn
   ·rename_i e he
    cases hro:rowOf P e with
    | none=>rw [hro] at hn; cases hn
    | some row =>
     rw [hro] at hn
     injection hn with hn
     subst hn
     exact nil_vd hro
   ·cases hn
  ·cases hn
 ·exact opd_ok hr x
theorem sc_ok {v:T} {s:S} {d:D} {u:Value} (h:v.sc=some (s,d)) (hv:VT P w g base v u):VD P w g.prot s d u:=by
 obtain ⟨sh,p⟩:=v
 cases sh with
 | tup xs=>cases h
 | one x=>cases x with
  | agg xs=>cases h
  | c x=>cases x with
   | d s' =>
    simp only [T.sc,Option.some.injEq,Prod.mk.injEq] at h
    obtain ⟨rfl,rfl⟩:=h
    exact hv
   | kb b =>
    simp only [T.sc,Option.some.injEq,Prod.mk.injEq] at h
    obtain ⟨rfl,rfl⟩:=h
    have:u=.bool b:=hv
    subst this
    exact VD.bool (.b b)
   | _=>cases h
theorem int_ok {v:T} {i:Int} {u:Value} (h:v.intOf=some i) (hv:VT P w g base v u):∃ k,u=.int k i:=by
 unfold T.intOf at h
 split at h
 ·rename_i k d e
  injection h with h; subst h
  have:=sc_ok e hv
  cases this
  exact ⟨k,rfl⟩
 ·cases h
theorem ret_i (k:IntKind) (n:Int):VT P w g base (.c (.d (.int k)) (.i n)) (.int k n):=VD.int k (.i n)
theorem ret_b (b:Bool):VT P w g base (.c (.d .bool) (.b b)) (.bool b):=VD.bool (.b b)
theorem evInt_ok {op:BinOp} {k:IntKind} {x y:Int} {r:T} (h:evInt op k x y=some (r,true)) (t:TypeId) (X Y:Operand) :
  ∃ u,(∀ w':World,True→(do eqGuard op t X Y (.int k x) (.int k y); binOp op t (.int k x) (.int k y):Sem Value).run P w'=.ok u w')∧VT P w g base r u:=by
 have hg:∀ w,(eqGuard op t X Y (.int k x) (.int k y)).run P w=.ok () w:=by
  intro w
  unfold eqGuard
  cases op <;> simp [Sem.run]
 cases op <;> simp only [evInt,Option.some.injEq,Prod.mk.injEq,and_true,reduceCtorEq] at h
 all_goals simp only [Sem.run_bind,hg,Result.andThen_ok]
 case add=>subst h; exact ⟨_,by intro w' _; simp [binOp,Op.intArith],ret_i _ _⟩
 case sub=>subst h; exact ⟨_,by intro w' _; simp [binOp,Op.intArith],ret_i _ _⟩
 case mul=>subst h; exact ⟨_,by intro w' _; simp [binOp,Op.intArith],ret_i _ _⟩
 case quo =>
  obtain ⟨h,hy⟩:=h; subst h
  have hy:y≠0:=by simpa using hy
  exact ⟨_,by intro w' _; simp [binOp,Op.intDiv,hy],ret_i _ _⟩
 case rem =>
  obtain ⟨h,hy⟩:=h; subst h
  have hy:y≠0:=by simpa using hy
  exact ⟨_,by intro w' _; simp [binOp,Op.intDiv,hy],ret_i _ _⟩
 case and=>subst h; exact ⟨_,by intro w' _; simp [binOp,Op.intBits]; rfl,ret_i _ _⟩
 case xor=>subst h; exact ⟨_,by intro w' _; simp [binOp,Op.intBits]; rfl,ret_i _ _⟩
 case shr =>
  obtain ⟨h,hy⟩:=h; subst h
  have hy:¬ y<0:=by
   have:0≤y:=by simpa using hy
   omega
  exact ⟨_,by intro w' _; simp [binOp,Op.shift,hy],ret_i _ _⟩
 all_goals (subst h; exact ⟨_,by intro w' _; simp [binOp,Op.intCmp],ret_b _⟩)
theorem bsv_size (l:List UInt8):(bsv l).size=l.length:=by simp [bsv,ByteArray.size]
theorem bsv_toList (l:List UInt8):(bsv l).toList=l:=by rw [ByteArray.toList_eq]; simp [bsv]
theorem bsv_app (a b:List UInt8):bsv a++bsv b=bsv (a++b):=by
 unfold bsv
 rw [ByteArray.ext_iff]
 simp
theorem bsv_extract (l:List UInt8) (i j:Nat):(bsv l).extract i j=bsv ((l.take j).drop i):=by
 unfold bsv
 rw [ByteArray.ext_iff]
 simp [List.extract_eq_take_drop,List.drop_take]
theorem bsv_get (l:List UInt8) (i:Nat):(bsv l)[i]?=l[i]?:=by
 by_cases h:i<l.length
 ·rw [List.getElem?_eq_getElem h,getElem?_pos (bsv l) i (by rw [bsv_size]; exact h)]
  rfl
 ·rw [List.getElem?_eq_none (by omega),getElem?_neg (bsv l) i (by rw [bsv_size]; exact h)]
theorem run_equal_bool {t:TypeId} (hu:P.underlying t=some .bool) (x y:Bool) (w:World):(Op.equal t (.bool x) (.bool y)).run P w=.ok (x==y) w:=by
 have h:∀ n,(Op.equalIn (n+1) t (.bool x) (.bool y)).run P w=.ok (x==y) w:=by
  intro n
  unfold Op.equalIn
  simp only [Sem.run_bind,run_underlying hu,Result.andThen_ok]
  rfl
 exact h 9999
theorem isBoolT_ok {t:TypeId} (h:isBoolT P t=true):P.underlying t=some .bool:=by
 unfold isBoolT at h
 split at h
 ·assumption
 ·cases h
theorem evBin_ok {op:BinOp} {x y r:T} {u v:Value} (t:TypeId) (h:evBin (isBoolT P t) op x y=some (r,true)) (X Y:Operand) (hx:VT P w g base x u) (hy:VT P w g base y v) :
  ∃ z,(∀ w':World,True→(do eqGuard op t X Y u v; binOp op t u v:Sem Value).run P w'=.ok z w')∧VT P w g base r z:=by
 unfold evBin at h
 cases ex:x.sc with
 | none=>rw [ex] at h; cases h
 | some q =>
  obtain ⟨s1,d1⟩:=q
  cases ey:y.sc with
  | none=>rw [ex,ey] at h; cases s1 <;> cases h
  | some q =>
   obtain ⟨s2,d2⟩:=q
   rw [ex,ey] at h
   have h1:=sc_ok ex hx
   have h2:=sc_ok ey hy
   cases s1 <;> cases s2 <;> try (cases h; done)
   ·rename_i k k'
    cases hk:(k==k') with
    | false =>
     simp only [hk,cond_false] at h
     unfold evShr at h
     cases op <;> first | (cases h; done) | skip
     simp only [evInt,Option.some.injEq,Prod.mk.injEq] at h
     obtain ⟨rfl,hy0⟩:=h
     have hy0:¬ d2.int<0:=by
      have:0≤d2.int:=by simpa using hy0
      omega
     cases h1; cases h2
     have hg:∀ w,(eqGuard .shr t X Y (.int k d1.int) (.int k' d2.int)).run P w=.ok () w:=by
      intro w; unfold eqGuard; simp [Sem.run]
     exact ⟨_,by intro w' _; simp only [Sem.run_bind,hg,Result.andThen_ok]; simp [binOp,Op.shift,hy0],ret_i _ _⟩
    | true =>
     simp only [hk,cond_true] at h
     have:k=k':=by simpa using hk
     subst this
     cases h1; cases h2
     exact evInt_ok h t X Y
   ·cases h1; cases h2
    have hg:∀ w,(eqGuard op t X Y (.bool d1.bool) (.bool d2.bool)).run P w=.ok () w:=by
     intro w; unfold eqGuard; cases op <;> simp [Sem.run]
    cases hb:isBoolT P t with
    | false=>simp only [hb,cond_false,reduceCtorEq] at h
    | true =>
    simp only [hb,cond_true] at h
    have hu:=isBoolT_ok hb
    cases op <;> simp only [reduceCtorEq,Option.some.injEq,Prod.mk.injEq,and_true] at h
    all_goals
     subst h
     refine ⟨_,?_,ret_b _⟩
     intro w' _
     simp only [Sem.run_bind,hg,Result.andThen_ok,binOp,run_equal_bool hu,Sem.run_pure]
   ·cases h1; cases h2
    have hg:∀ w,(eqGuard op t X Y (.string (bsv d1.str)) (.string (bsv d2.str))).run P w=.ok () w:=by
     intro w; unfold eqGuard; cases op <;> simp [Sem.run]
    cases op <;> simp only [reduceCtorEq,Option.some.injEq,Prod.mk.injEq,and_true] at h
    ·obtain ⟨h,hl⟩:=h
     subst h
     have hl:d1.str.length+d2.str.length<1099511627776:=by simpa using hl
     refine ⟨.string (bsv (d1.str++d2.str)),?_,VD.str (.s (d1.str++d2.str))⟩
     intro w' _
     simp only [Sem.run_bind,hg,Result.andThen_ok,binOp,Op.stringOp,bsv_size,bsv_app]
     rw [if_neg (by simp [IntKind.max,IntKind.signed,IntKind.bits]; omega)]
     rfl
    ·subst h
     refine ⟨_,?_,ret_b _⟩
     intro w' _
     simp [Sem.run_bind,hg,binOp,Op.stringOp,bsv_toList]
    ·subst h
     refine ⟨_,?_,ret_b _⟩
     intro w' _
     simp [Sem.run_bind,hg,binOp,Op.stringOp,bsv_toList]
theorem fldsOk_run {d:Nat} {cells:List S}:∀ {fs:List Field} {i:Nat} {ss:List S},fldsOk P fs i ss=true→∀ {p q:List D} {xs ys:Array Value},(∀ j s,ss[j]?=some s→∃ u v,xs[i+j]?=some u∧ys[i+j]?=some v∧VD P w g.prot s (gd p j) u∧VD P w g.prot s (gd q j) v) →
  ∀ w',(Op.eqFields (d+1) xs ys fs).run P w'=.ok (eqRow ss p q) w'
 | [],i,[],_,p,q,xs,ys,_,w'=>rfl
 | [],i,s::ss,h,_,_,_,_,_,_=>by cases h
 | f::fs,i,[],h,_,_,_,_,_,_=>by cases h
 | f::fs,i,s::ss,h,p,q,xs,ys,hv,w'=>by
  unfold fldsOk at h
  simp only [Bool.and_eq_true,beq_iff_eq,bne_iff_ne] at h
  obtain ⟨⟨⟨⟨h1,h2⟩,h3⟩,h4⟩,h5⟩:=h
  obtain ⟨u,v,k1,k2,k3,k4⟩:=hv 0 s rfl
  rw [Nat.add_zero] at k1 k2
  have ih:=fldsOk_run (d:=d) (cells:=cells) h5 (p:=p.tail) (q:=q.tail) (xs:=xs) (ys:=ys) (fun j s' hj=>by
   obtain ⟨u',v',q1,q2,q3,q4⟩:=hv (j+1) s' (by simpa using hj)
   exact ⟨u',v',by rw [show i+1+j=i+(j+1) from by omega]; exact q1,by rw [show i+1+j=i+(j+1) from by omega]; exact q2,by rw [gd_tail]; exact q3,by rw [gd_tail]; exact q4⟩) w'
  have hp:∀ (zs:Array Value) z,zs[i]?=some z→∀ w,(part f.type zs f.offset).run P w=.ok z w:=fun zs z hz w=>by
   unfold part
   simp only [Sem.run_bind,run_agg h3,Result.andThen_ok,h1]
   simp [hz]
  unfold Op.eqFields
  rw [if_pos h2]
  simp only [Sem.run_bind,hp xs u k1,hp ys v k2,Result.andThen_ok]
  cases s with
  | sl e=>simp only [fldOk] at h4; split at h4 <;> simp_all
  | opq=>simp only [fldOk] at h4; split at h4 <;> simp_all
  | int k =>
   have hu:∃ k',P.underlying f.type=some (.int k'):=by
    unfold fldOk at h4; split at h4 <;> simp_all
   obtain ⟨k',hu⟩:=hu
   cases k3; cases k4
   rw [run_equalIn_int w' d f.type k k' _ _ hu]
   simp only [Result.andThen_ok,eqRow]
   cases (gd p 0).int==(gd q 0).int
   ·rfl
   ·exact ih
  | bool =>
   have hu:P.underlying f.type=some .bool:=by
    unfold fldOk at h4; split at h4 <;> simp_all
   cases k3; cases k4
   rw [run_equalIn_bool' w' d f.type _ _ hu]
   simp only [Result.andThen_ok,eqRow]
   cases (gd p 0).bool==(gd q 0).bool
   ·rfl
   ·exact ih
  | str =>
   have hu:P.underlying f.type=some .string:=by
    unfold fldOk at h4; split at h4 <;> simp_all
   cases k3; cases k4
   rw [run_equalIn_string w' d f.type _ _ hu]
   simp only [Result.andThen_ok,eqRow,bsv_toList]
   cases (gd p 0).str==(gd q 0).str
   ·rfl
   ·exact ih
theorem eqRow_split:∀ (ss:List S) (n:Nat) (p q:List D),eqRow ss p q=(eqRow (ss.take n) p q&&eqRow (ss.drop n) (p.drop n) (q.drop n))
 | ss,0,p,q=>by simp [eqRow]
 | [],n+1,p,q=>by simp [eqRow]
 | s::ss,n+1,p,q=>by
  have ih:=eqRow_split ss n p.tail q.tail
  rw [List.drop_tail,List.drop_tail] at ih
  cases s <;> simp only [eqRow,List.take_succ_cons,List.drop_succ_cons,Bool.false_and] <;> rw [ih,Bool.and_assoc]
theorem gd_drop (p:List D) (n j:Nat):gd (p.drop n) j=gd p (n+j):=by
 unfold gd
 rw [List.getD_eq_getElem?_getD,List.getD_eq_getElem?_getD,List.getElem?_drop]
theorem fldsOkN_run {d:Nat}:∀ {fs:List Field} {i:Nat} {ss:List S},fldsOkN P fs i ss=true→∀ {p q:List D} {xs ys:Array Value},(∀ j s,ss[j]?=some s→∃ u v,xs[i+j]?=some u∧ys[i+j]?=some v∧VD P w g.prot s (gd p j) u∧VD P w g.prot s (gd q j) v) →
  ∀ w',(Op.eqFields (d+2) xs ys fs).run P w'=.ok (eqRow ss p q) w'
 | [],i,[],_,p,q,xs,ys,_,w'=>rfl
 | [],i,s::ss,h,_,_,_,_,_,_=>by cases h
 | f::fs,i,[],h,_,_,_,_,_,_=>by cases h
 | f::fs,i,s::ss,h,p,q,xs,ys,hv,w'=>by
  unfold fldsOkN at h
  cases hA:(tAgg P f.type==some false) with
  | true =>
   rw [hA,cond_true] at h
   simp only [Bool.and_eq_true,beq_iff_eq,bne_iff_ne] at h
   obtain ⟨⟨⟨h1,h2⟩,h4⟩,h5⟩:=h
   have h3:tAgg P f.type=some false:=by simpa using hA
   have ih:=fldsOkN_run (d:=d) h5 (p:=p.tail) (q:=q.tail) (xs:=xs) (ys:=ys) (fun j s' hj=>by
    obtain ⟨u',v',q1,q2,q3,q4⟩:=hv (j+1) s' (by simpa using hj)
    exact ⟨u',v',by rw [show i+1+j=i+(j+1) from by omega]; exact q1,by rw [show i+1+j=i+(j+1) from by omega]; exact q2,by rw [gd_tail]; exact q3,by rw [gd_tail]; exact q4⟩) w'
   obtain ⟨u,v,k1,k2,k3,k4⟩:=hv 0 s rfl
   rw [Nat.add_zero] at k1 k2
   have hp:∀ (zs:Array Value) z,zs[i]?=some z→∀ w,(part f.type zs f.offset).run P w=.ok z w:=fun zs z hz w=>by
    unfold part
    simp only [Sem.run_bind,run_agg h3,Result.andThen_ok,h1]
    simp [hz]
   unfold Op.eqFields
   rw [if_pos h2]
   simp only [Sem.run_bind,hp xs u k1,hp ys v k2,Result.andThen_ok]
   cases s with
   | sl e=>simp only [fldOk] at h4; split at h4 <;> simp_all
   | opq=>simp only [fldOk] at h4; split at h4 <;> simp_all
   | int k =>
    have hu:∃ k',P.underlying f.type=some (.int k'):=by
     unfold fldOk at h4; split at h4 <;> simp_all
    obtain ⟨k',hu⟩:=hu
    cases k3; cases k4
    rw [run_equalIn_int w' (d+1) f.type k k' _ _ hu]
    simp only [Result.andThen_ok,eqRow]
    cases (gd p 0).int==(gd q 0).int
    ·rfl
    ·exact ih
   | bool =>
    have hu:P.underlying f.type=some .bool:=by
     unfold fldOk at h4; split at h4 <;> simp_all
    cases k3; cases k4
    rw [run_equalIn_bool' w' (d+1) f.type _ _ hu]
    simp only [Result.andThen_ok,eqRow]
    cases (gd p 0).bool==(gd q 0).bool
    ·rfl
    ·exact ih
   | str =>
    have hu:P.underlying f.type=some .string:=by
     unfold fldOk at h4; split at h4 <;> simp_all
    cases k3; cases k4
    rw [run_equalIn_string w' (d+1) f.type _ _ hu]
    simp only [Result.andThen_ok,eqRow,bsv_toList]
    cases (gd p 0).str==(gd q 0).str
    ·rfl
    ·exact ih
  | false =>
   rw [hA,cond_false] at h
   split at h
   ·rename_i gs n hu hn
    simp only [Bool.and_eq_true,beq_iff_eq,bne_iff_ne,Bool.not_eq_true'] at h
    obtain ⟨⟨⟨⟨⟨⟨h1,h2⟩,h3⟩,hst⟩,hf⟩,hle⟩,h5⟩:=h
    have hle:=Nat.le_of_ble_eq_true hle
    have ih:=fldsOkN_run (d:=d) h5 (p:=p.drop n) (q:=q.drop n) (xs:=xs) (ys:=ys) (fun j s' hj=>by
     obtain ⟨u',v',q1,q2,q3,q4⟩:=hv (n+j) s' (by rw [List.getElem?_drop] at hj; exact hj)
     exact ⟨u',v',by rw [show i+n+j=i+(n+j) from by omega]; exact q1,by rw [show i+n+j=i+(n+j) from by omega]; exact q2,by rw [gd_drop]; exact q3,by rw [gd_drop]; exact q4⟩) w'
    have hfs:P.fieldsOf f.type=gs:=by unfold Program.fieldsOf; rw [hu]
    have hsub:=fldsOk_run (d:=d) (P:=P) (w:=w) (g:=g) (cells:= []) hf (p:=p) (q:=q) (xs:=xs.extract i (i+n)) (ys:=ys.extract i (i+n)) (fun j s' hj=>by
     rw [List.getElem?_take] at hj
     split at hj
     ·rename_i hjn
      obtain ⟨u',v',q1,q2,q3,q4⟩:=hv j s' hj
      have hx:=(Array.getElem?_eq_some_iff.1 q1).1
      have hy:=(Array.getElem?_eq_some_iff.1 q2).1
      refine ⟨u',v',?_,?_,q3,q4⟩
      ·rw [Nat.zero_add,Array.getElem?_extract,if_pos (by omega)]; exact q1
      ·rw [Nat.zero_add,Array.getElem?_extract,if_pos (by omega)]; exact q2
     ·cases hj)
    have hp:∀ (zs:Array Value) w,(part f.type zs f.offset).run P w=.ok (.agg (zs.extract i (i+n))) w:=fun zs w=>by
     unfold part
     simp only [Sem.run_bind,run_agg h3,Result.andThen_ok,run_size hn,Sem.run_pure,h1]
     simp [run_size hn,Sem.run_bind]
    have heq:∀ w',(Op.equalIn (d+2) f.type (.agg (xs.extract i (i+n))) (.agg (ys.extract i (i+n)))).run P w'=.ok (eqRow ((s::ss).take n) p q) w':=fun w'=>by
     rw [run_equalIn_struct w' (d+1) f.type _ _ (by rw [hfs]; exact hu) hst,hfs]
     exact hsub w'
    rw [eqRow_split (s::ss) n p q]
    unfold Op.eqFields
    rw [if_pos h2]
    simp only [Sem.run_bind,hp,Result.andThen_ok,heq]
    cases eqRow ((s::ss).take n) p q
    ·rfl
    ·exact ih
   ·cases h
theorem evCmp_ok {op:BinOp} {x y r:T} {u v:Value} (t:TypeId) (h:evCmp P op t x y=some (r,true)) (X Y:Operand) (hx:VT P w g base x u) (hy:VT P w g base y v) :
  ∃ z,(∀ w':World,True→(do eqGuard op t X Y u v; binOp op t u v:Sem Value).run P w'=.ok z w')∧VT P w g base r z:=by
 unfold evCmp at h
 split at h
 ·rename_i cs cs' hsx hsy
  split at h
  ·rename_i ss fs hss hu
   cases hb:(cs==ss.map .d&&cs'==ss.map .d&&fldsOkN P fs.toList 0 ss && !P.stoodInHeld t && !P.eqGuardType P.depth t) with
   | false=>rw [hb] at h; cases h
   | true =>
    rw [hb,cond_true] at h
    simp only [Bool.and_eq_true,beq_iff_eq,Bool.not_eq_true'] at hb
    obtain ⟨⟨⟨⟨rfl,rfl⟩,hf⟩,hst⟩,hg⟩:=hb
    obtain ⟨shx,p⟩:=x
    obtain ⟨shy,q⟩:=y
    simp only at hsx hsy
    subst hsx
    subst hsy
    obtain ⟨xs,rfl,hxl,hxv⟩:=hx
    obtain ⟨ys,rfl,hyl,hyv⟩:=hy
    have hfs:P.fieldsOf t=fs:=by unfold Program.fieldsOf; rw [hu]
    have hcells:∀ j s,ss[j]?=some s→∃ u v,xs[0+j]?=some u∧ys[0+j]?=some v∧VD P w g.prot s (gd p j) u∧VD P w g.prot s (gd q j) v:=fun j s hj=>by
     obtain ⟨u,a1,a2⟩:=hxv j (.d s) (by rw [List.getElem?_map,hj]; rfl)
     obtain ⟨v,b1,b2⟩:=hyv j (.d s) (by rw [List.getElem?_map,hj]; rfl)
     rw [Nat.zero_add]
     exact ⟨u,v,a1,b1,a2,b2⟩
    have heq:∀ w',(Op.equalIn 10000 t (.agg xs) (.agg ys)).run P w'=.ok (eqRow ss p q) w':=fun w'=>by
     rw [run_equalIn_struct w' 9999 t xs ys (by rw [hfs]; exact hu) hst,hfs]
     exact fldsOkN_run (d:=9997) hf hcells w'
    have hgd:∀ w',(eqGuard op t X Y (.agg xs) (.agg ys)).run P w'=.ok () w':=fun w'=>run_eqGuard_agg w' op t X Y xs ys hg
    cases op <;> simp only [Option.some.injEq,Prod.mk.injEq,and_true,reduceCtorEq] at h
    ·subst h
     exact ⟨_,fun w' _=>by simp only [Sem.run_bind,hgd,Result.andThen_ok,run_eql_struct,heq],ret_b _⟩
    ·subst h
     exact ⟨_,fun w' _=>by simp only [Sem.run_bind,hgd,Result.andThen_ok,run_neq_struct,heq],ret_b _⟩
  ·cases h
 ·cases h
theorem evUn_ok {op:UnOp} {x r:T} {u:Value} (h:evUn op x=some r) (hx:VT P w g base x u):∃ z,(∀ w':World,True→(Op.unary op u).run P w'=.ok z w')∧VT P w g base r z:=by
 unfold evUn at h
 cases ex:x.sc with
 | none=>rw [ex] at h; cases op <;> cases h
 | some q =>
  obtain ⟨s,d⟩:=q
  rw [ex] at h
  have hv:=sc_ok ex hx
  cases op <;> cases s <;> simp only [reduceCtorEq,Option.some.injEq] at h
  ·subst h; cases hv; exact ⟨_,by intro w' _; simp [Op.unary,Op.intArith],ret_i _ _⟩
  ·subst h; cases hv; exact ⟨_,by intro w' _; simp [Op.unary],ret_b _⟩
theorem slice_ok {x:T} {t:Option Tok} {e:TypeId} {rows:List (List D)} {u:Value} (h:x.slice=some (t,e,rows)) (hx:VT P w g base x u) :
  ∃ A c,u=.slice A rows.length c∧rows.length≤c∧c≤9223372036854775807∧∃ row,rowOf P e=some row ∧
   match t with
   | none=>∀ i j s,i<rows.length→row[j]?=some s→∃ b o v,A=some ⟨b,o,none⟩∧w.cell? ⟨b,o+(i*row.length+j),none⟩=some v∧o+(i*row.length+j)<g.prot b∧VD P w g.prot s (gd (rows.getD i []) j) v
   | some t=>OwnV P w g base t true e row rows u:=by
 obtain ⟨sh,p⟩:=x
 cases sh with
 | tup xs=>cases h
 | one x=>cases x with
  | agg xs=>cases h
  | c x=>cases x with
   | d s=>cases s with
    | sl e' =>
     simp only [T.slice,Option.some.injEq,Prod.mk.injEq] at h
     obtain ⟨rfl,rfl,rfl⟩:=h
     have hx:VD P w g.prot (.sl e') (gd p 0) u:=hx
     cases hx with
     | sl _ _ A c row u hr h1 h2 h3 h4 =>
      refine ⟨A,c,rfl,h1,h2,row,hr,fun i j s hi hs=>?_⟩
      have hj:=(List.getElem?_eq_some_iff.1 hs).1
      obtain ⟨b,o,k1,k2,k3⟩:=h3 i j hi hj
      exact ⟨b,o,_,k1,k2,k3,h4 i j s hi hs⟩
    | _=>cases h
   | own t' xm e' =>
    simp only [T.slice,Option.some.injEq,Prod.mk.injEq] at h
    obtain ⟨rfl,rfl,rfl⟩:=h
    obtain ⟨row,hr,hv⟩:∃ row,rowOf P e'=some row∧OwnV P w g base t' xm e' row (gd p 0).rows u:=hx
    cases xm with
    | true =>
     rcases hv with ⟨h0,hl0,A,rfl⟩ | ⟨cap,arr,E,rfl,h2,h3,rest⟩
     ·exact ⟨A,0,by rw [h0]; rfl,by rw [h0]; simp,by omega,row,hr,.inl ⟨h0,hl0,A,rfl⟩⟩
     ·exact ⟨_,cap,rfl,h2,h3.1,row,hr,.inr ⟨cap,arr,E,rfl,h2,h3,rest⟩⟩
    | false =>
     have hvd:=own_vd' hr hv
     generalize hd:gd p 0=d at *
     cases hvd with
     | sl _ _ A c row' u hr' h1 h2 h3 h4 =>
      refine ⟨A,c,rfl,h1,h2,row',hr',fun i j s hi hs=>?_⟩
      have hj:=(List.getElem?_eq_some_iff.1 hs).1
      obtain ⟨b,o,k1,k2,k3⟩:=h3 i j hi hj
      exact ⟨b,o,_,k1,k2,k3,h4 i j s hi hs⟩
   | _=>cases h
theorem inRange_ok {n:Int} {len:Nat} (h:inRange n len=true):0≤n∧n<len∧n.toNat<len:=by
 unfold inRange at h
 simp only [Bool.and_eq_true,decide_eq_true_eq] at h
 omega
theorem evIndexAddr_ok {t e:TypeId} {x i r:T} {u v:Value} (ht:tElem P t=some e) (h:evIndexAddr e x i=some (r,true)) (hx:VT P w g base x u) (hi:VT P w g base i v) :
  ∃ z,(∀ w':World,True→(Instr.indexAt t u v).run P w'=.ok z w')∧VT P w g base r z:=by
 unfold evIndexAddr at h
 cases ei:i.intOf with
 | none=>rw [ei] at h; cases h
 | some n =>
  cases es:x.slice with
  | none=>rw [ei,es] at h; cases h
  | some q =>
   obtain ⟨tk,e',rows⟩:=q
   rw [ei,es] at h
   simp only at h
   cases he:(e==e') with
   | false=>rw [he] at h; cases h
   | true =>
    rw [he] at h
    have he:e=e':=by simpa using he
    subst he
    simp only [cond_true,Option.some.injEq,Prod.mk.injEq] at h
    obtain ⟨rfl,hin⟩:=h
    obtain ⟨h0,h1,h2⟩:=inRange_ok hin
    obtain ⟨k,rfl⟩:=int_ok ei hi
    obtain ⟨A,c,rfl,hc1,hc2,row,hr,hv⟩:=slice_ok es hx
    have hsz:=rowOf_size hr
    have hrun:∀ b o,A=some ⟨b,o,none⟩→∀ w':World,True→(Instr.indexAt t (.slice A rows.length c) (.int k n)).run P w'=.ok (.pointer (some ⟨b,o+n.toNat*row.length,none⟩)) w':=by
     intro b o hA w' _
     subst hA
     unfold Instr.indexAt
     simp only [asIntOf,Sem.run_bind,Sem.run_pure,Result.andThen_ok,run_underlying (tElem_und ht)]
     rw [if_pos ⟨h0,h1⟩]
     simp only [Sem.run_bind,run_size hsz,Result.andThen_ok,Sem.run_pure,addr_add]
    cases tk with
    | none =>
     have hrow:0<row.length:=by
      rcases Nat.eq_zero_or_pos row.length with h | h
      ·exfalso
       have:=rowOf_pos hr
       omega
      ·exact h
     obtain ⟨b,o,v0,hA,_⟩:=hv n.toNat 0 _ h2 (List.getElem?_eq_getElem hrow)
     refine ⟨_,hrun b o hA,row,b,o,hr,rfl,h2,fun j s hs=>?_⟩
     obtain ⟨b',o',v',hA',k1,k2,k3⟩:=hv n.toNat j s h2 hs
     rw [hA] at hA'
     injection hA' with hA'
     injection hA' with e1 e2 _
     subst e1; subst e2
     exact ⟨v',k1,k2,k3⟩
    | some tk =>
     have hv0:=hv
     rcases hv with ⟨hn,_⟩ | ⟨cap,arr,E,hs,rest⟩
     ·rw [hn] at h2; simp at h2
     ·injection hs with hA _ _
      refine ⟨_,hrun _ _ hA,row,hr,?_,h2,_,hv0⟩
      show Value.pointer (some ⟨g.ρ tk,0+n.toNat*row.length,none⟩)=Value.pointer (some ⟨g.ρ tk,n.toNat*row.length+0,none⟩)
      rw [Nat.zero_add,Nat.add_zero]
theorem isStrT_ok {t:TypeId} (h:isStrT P t=true):P.underlying t=some .string:=by
 unfold isStrT at h
 split at h
 ·assumption
 ·cases h
theorem evLen_ok {tt:TypeId} {x r:T} {u:Value} (h:evLen P tt x=some r) (hx:VT P w g base x u) (ty:TypeId) :
  ∃ z,(∀ w':World,True→(Builtin.len_ #[tt] ty #[u]).run P w'=.ok z w')∧VT P w g base r z:=by
 unfold evLen at h
 split at h
 ·rename_i d ex
  cases ht:isStrT P tt with
  | false=>rw [ht] at h; cases h
  | true =>
   rw [ht] at h
   simp only [cond_true,Option.some.injEq] at h; subst h
   have hv:=sc_ok ex hx
   cases hv
   refine ⟨.int .i64 d.str.length,?_,ret_i _ _⟩
   intro w' _
   simp [Builtin.len_,run_underlying (isStrT_ok ht),bsv_size,goInt]
 ·split at h
  ·rename_i t e rows es
   cases ht:(tElem P tt).isSome with
   | false=>rw [ht] at h; cases h
   | true =>
    rw [ht] at h
    simp only [cond_true,Option.some.injEq] at h; subst h
    obtain ⟨A,c,rfl,_⟩:=slice_ok es hx
    obtain ⟨e',he⟩:=Option.isSome_iff_exists.1 ht
    refine ⟨.int .i64 rows.length,?_,ret_i _ _⟩
    intro w' _
    simp [Builtin.len_,run_underlying (tElem_und he),goInt]
  ·cases h
def CellsV (P:Program) (w:World) (g:G) (base:Nat) (cs:List Ce) (ds:List D) (b o:Nat):Prop:=
 ∀ (j:Nat) c,cs[j]?=some c→∃ u,w.cell? ⟨b,o+j,none⟩=some u∧VC P w g base c (gd ds j) u
theorem run_loadCells {b o:Nat}:∀ (n i:Nat) (us acc:Array Value),us.size=i+n→acc.size=i→(∀ j,i≤j→j<i+n→w.cell? ⟨b,o+j,none⟩=us[j]?)→(∀ j,j<i→acc[j]?=us[j]?) →
  (loadCellsFrom ⟨b,o,none⟩ i n acc).run P w=.ok us w
 | 0,i,us,acc,h1,h2,_,h4=>by
  simp only [loadCellsFrom,Sem.run_pure]
  congr 1
  refine Array.ext (by omega) fun j hj1 hj2=>?_
  have:=h4 j (by omega)
  rw [Array.getElem?_eq_getElem hj1,Array.getElem?_eq_getElem hj2] at this
  injection this
 | n+1,i,us,acc,h1,h2,h3,h4=>by
  have hc:=h3 i (Nat.le_refl _) (by omega)
  have hu:us[i]?=some (us[i]'(by omega)):=Array.getElem?_eq_getElem (by omega)
  rw [hu] at hc
  simp only [loadCellsFrom,addr_add,load,Sem.run_bind,Sem.run,hc,Result.andThen_ok]
  refine run_loadCells n (i+1) us _ (by omega) (by simp [h2]) (fun j hj1 hj2=>h3 j (by omega) (by omega)) fun j hj=>?_
  rw [Array.getElem?_push]
  split
  ·rename_i e; rw [e,h2]; exact hu.symm
  ·exact h4 j (by omega)
theorem run_loadVar {t n:Nat} {ag:Bool} {b o:Nat} {us:Array Value} (ha:tAgg P t=some ag) (hn:tSize P t=some n) (hus:us.size=n) (h:∀ j,j<n→w.cell? ⟨b,o+j,none⟩=us[j]?) (h1:ag=false→n=1) :
  (loadVar t ⟨b,o,none⟩).run P w=.ok (if ag then .agg us else us.getD 0 undef) w:=by
 unfold loadVar
 simp only [Sem.run_bind,run_agg ha,Result.andThen_ok]
 cases ag with
 | true =>
  simp only [if_true,Sem.run_bind,run_size hn,Result.andThen_ok,loadCells]
  rw [run_loadCells (P:=P) (w:=w) n 0 us #[] (by omega) rfl (fun j _ hj=>h j (by omega)) (fun j hj=>by omega)]
  rfl
 | false =>
  have:=h1 rfl
  subst this
  have h0:=h 0 (by omega)
  rw [Array.getElem?_eq_getElem (by omega)] at h0
  rw [Nat.add_zero] at h0
  simp only [Bool.false_eq_true,if_false,load,Sem.run,h0]
  congr 1
  simp [Array.getD,hus]
theorem cut_ok {t n off:Nat} {ag:Bool} {cs:List Ce} {ds:List D} {b o:Nat} {r:T} (ha:tAgg P t=some ag) (hn:tSize P t=some n) (h:cut ag n off cs ds=some r) (hc:CellsV P w g base cs ds b o) :
  ∃ z,(∀ w',Below w.heap.size w w'→(loadVar t ⟨b,o+off,none⟩).run P w'=.ok z w')∧VT P w g base r z:=by
 unfold cut at h
 cases hb:Nat.ble (off+n) cs.length with
 | false=>rw [hb] at h; cases h
 | true =>
  rw [hb] at h
  have hle:off+n≤cs.length:=Nat.le_of_ble_eq_true hb
  simp only [cond_true] at h
  have hex:∀ (j:Nat) (hj:j<n),∃ u,w.cell? ⟨b,o+off+j,none⟩=some u∧VC P w g base (cs[off+j]'(by omega)) (gd ds (off+j)) u:=fun j hj=>by
   obtain ⟨u,h1,h2⟩:=hc (off+j) _ (List.getElem?_eq_getElem (by omega))
   exact ⟨u,by rw [Nat.add_assoc]; exact h1,h2⟩
  let us:Array Value:=Array.ofFn (n:=n) fun j=>(w.cell? ⟨b,o+off+j.1,none⟩).getD undef
  have hus:us.size=n:=by simp [us]
  have hcell:∀ j,j<n→w.cell? ⟨b,o+off+j,none⟩=us[j]?:=fun j hj=>by
   obtain ⟨u,h1,_⟩:=hex j hj
   rw [h1,Array.getElem?_eq_getElem (by omega)]
   simp [us,h1]
  have hcell':∀ w',Below w.heap.size w w'→∀ j,j<n→w'.cell? ⟨b,o+off+j,none⟩=us[j]?:=fun w' hw j hj=>by
   obtain ⟨u,h1,_⟩:=hex j hj
   rw [← hcell j hj]
   exact cell_of_heap (hw.block _ (cell_size h1)) _
  cases ag with
  | true =>
   simp only [cond_true,Option.some.injEq] at h
   subst h
   refine ⟨_,fun w' hw=>run_loadVar ha hn hus (hcell' w' hw) (by intro h; cases h),us,rfl,by simp [hus]; omega,fun j c hj=>?_⟩
   have hjn:j<n:=by
    have:=(List.getElem?_eq_some_iff.1 hj).1
    simp at this; omega
   obtain ⟨u,h1,h2⟩:=hex j hjn
   refine ⟨u,by rw [← hcell j hjn,h1],?_⟩
   rw [gd_sub _ _ _ _ hjn]
   rw [List.getElem?_take,if_pos hjn,List.getElem?_drop,List.getElem?_eq_getElem (by omega)] at hj
   injection hj with hj
   subst hj
   exact h2
  | false =>
   simp only [cond_false] at h
   cases ho:cs[off]? with
   | none=>rw [ho] at h; cases h
   | some c =>
    rw [ho] at h
    cases hn1:(n==1) with
    | false=>simp only [hn1,cond_false,reduceCtorEq] at h
    | true =>
     simp only [hn1,cond_true,Option.some.injEq] at h
     have hn1:n=1:=by simpa using hn1
     subst h
     refine ⟨_,fun w' hw=>run_loadVar ha hn hus (hcell' w' hw) (fun _=>hn1),?_⟩
     obtain ⟨u,h1,h2⟩:=hex 0 (by omega)
     have h3:=hcell 0 (by omega)
     rw [h1] at h3
     have h4:us.getD 0 undef=u:=by
      rw [Array.getD_eq_getD_getElem?,← h3]; rfl
     simp only [Bool.false_eq_true,if_false]
     rw [h4]
     have hc0:cs[off+0]'(by omega)=c:=by
      rw [List.getElem?_eq_getElem (by omega)] at ho
      injection ho
     rw [hc0] at h2
     exact h2
theorem dcells_get {tk:Option Tok} {e:TypeId}:∀ {row:List S} {o j:Nat} {c:Ce},(dcells tk e o row)[j]?=some c→∃ s,row[j]?=some s∧c=dcell tk e (o+j) s
 | [],o,j,c,h=>by simp [dcells] at h
 | s::row,o,0,c,h=>by
  simp only [dcells,List.getElem?_cons_zero,Option.some.injEq] at h
  exact ⟨s,rfl,h.symm⟩
 | s::row,o,j+1,c,h=>by
  obtain ⟨s',h1,h2⟩:=dcells_get (o:=o+1) (j:=j) (row:=row) (by simpa [dcells] using h)
  exact ⟨s',by simpa using h1,by rw [h2,show o+1+j=o+(j+1) from by omega]⟩
theorem ddats_get (x:D) (r:List D):∀ (row:List S) (o j:Nat) (s:S),row[j]?=some s→gd (ddats x r o row) j=match s with | .sl _=>x | _=>gd r (o+j)
 | [],o,j,s,h=>by simp at h
 | s0::row,o,0,s,h=>by
  simp only [List.getElem?_cons_zero,Option.some.injEq] at h
  subst h
  cases s0 <;> rfl
 | s0::row,o,j+1,s,h=>by
  have:=ddats_get x r row (o+1) j s (by simpa using h)
  rw [show o+(j+1)=o+1+j from by omega,← this]
  cases s0 <;> rfl
theorem evLoad_ok {t:Nat} {x r:T} {u:Value} (hr:Rel P w g base σ a) (h:evLoad P t σ x=some r) (hx:VT P w g base x u) :
  ∃ z,(∀ w',Below w.heap.size w w'→(Instr.loadAt t u).run P w'=.ok z w')∧VT P w g base r z:=by
 unfold evLoad at h
 cases ha:tAgg P t with
 | none=>rw [ha] at h; cases h
 | some ag =>
  cases hn:tSize P t with
  | none=>rw [ha,hn] at h; cases h
  | some n =>
   rw [ha,hn] at h
   obtain ⟨sh,p⟩:=x
   cases sh with
   | tup xs=>cases h
   | one x=>cases x with
    | agg xs=>cases h
    | c x=>cases x with
     | ptr id off =>
      have hx:u=.pointer (some ⟨g.θ id,off,none⟩):=hx
      subst hx
      simp only at h
      cases hl:hlook id σ.h with
      | none=>rw [hl] at h; cases h
      | some q =>
       obtain ⟨cs,ds⟩:=q
       rw [hl] at h
       obtain ⟨_,_,_,_,arr,E,h4,h5,h6⟩:=hr.box id cs ds hl
       have hcv:CellsV P w g base cs ds (g.θ id) 0:=fun j c hj=>by
        obtain ⟨v,h7,h8⟩:=h6 j c hj
        exact ⟨v,by simp only [World.cell?,h4,Nat.zero_add]; exact h7,h8⟩
       obtain ⟨z,k1,k2⟩:=cut_ok ha hn h hcv
       rw [Nat.zero_add] at k1
       exact ⟨z,fun w' hw=>by simp only [Instr.loadAt,Instr.sureAddr,Sem.run_bind,Sem.run_pure,Result.andThen_ok]; exact k1 w' hw,k2⟩
     | eptr tk e off =>
      simp only at h
      cases hrow:rowOf P e with
      | none=>rw [hrow] at h; cases h
      | some row =>
       rw [hrow] at h
       cases hdo:deepO tk with
       | false =>
        simp only [hdo,cond_false] at h
        have key:∃ b o,u=.pointer (some ⟨b,o+(eIx (gd p 0)*row.length+off),none⟩)∧∀ j s,row[j]?=some s→∃ v,w.cell? ⟨b,o+(eIx (gd p 0)*row.length+j),none⟩=some v∧VC P w g base (.d s) (gd ((eRows (gd p 0)).getD (eIx (gd p 0)) []) j) v:=by
         cases tk with
         | none =>
          obtain ⟨row',b,o,k1,k2,k3,k4⟩:=hx
          rw [hrow] at k1; injection k1 with k1; subst k1
          exact ⟨b,o,k2,fun j s hs=>by obtain ⟨v,j1,_,j3⟩:=k4 j s hs; exact ⟨v,j1,j3⟩⟩
         | some tk =>
          obtain ⟨row',k1,k2,k3,v0,k4⟩:=hx
          rw [hrow] at k1; injection k1 with k1; subst k1
          refine ⟨g.ρ tk,0,by rw [Nat.zero_add]; exact k2,fun j s hs=>?_⟩
          rcases k4 with ⟨h0,_⟩ | ⟨cap,arr,E,h1,h2,h3,h4,h5,h6,h7,h8,h9,h10,h11⟩
          ·rw [h0] at k3; simp at k3
          ·obtain ⟨v,hv1,hv2⟩:=h11 _ j s k3 hs
           exact ⟨v,by simp only [World.cell?,h6,Nat.zero_add]; exact hv1,hv2.vd hdo⟩
        obtain ⟨b,o,rfl,hk⟩:=key
        have hcv:CellsV P w g base (row.map .d) ((eRows (gd p 0)).getD (eIx (gd p 0)) []) b (o+eIx (gd p 0)*row.length):=fun j c hj=>by
         rw [List.getElem?_map] at hj
         cases hs:row[j]? with
         | none=>rw [hs] at hj; cases hj
         | some s =>
          rw [hs] at hj
          injection hj with hj
          subst hj
          obtain ⟨v,k1,k2⟩:=hk j s hs
          exact ⟨v,by rw [Nat.add_assoc]; exact k1,k2⟩
        obtain ⟨z,k1,k2⟩:=cut_ok ha hn h hcv
        rw [Nat.add_assoc] at k1
        exact ⟨z,fun w' hw=>by simp only [Instr.loadAt,Instr.sureAddr,Sem.run_bind,Sem.run_pure,Result.andThen_ok]; exact k1 w' hw,k2⟩
       | true =>
        simp only [hdo,cond_true] at h
        cases tk with
        | none=>cases hdo
        | some tk =>
         obtain ⟨row',k1,k2,k3,v0,k4⟩:=hx
         rw [hrow] at k1; injection k1 with k1; subst k1
         subst k2
         have hcv:CellsV P w g base (dcells (some tk) e 0 row) (ddats (gd p 0) ((eRows (gd p 0)).getD (eIx (gd p 0)) []) 0 row) (g.ρ tk) (eIx (gd p 0)*row.length):=fun j c hj=>by
          rcases k4 with ⟨h0,_⟩ | ⟨cap,arr,E,h1,h2,h3,h4,h5,h6,h7,h8,h9,h10,h11⟩
          ·rw [h0] at k3; simp at k3
          ·obtain ⟨s,hs,hc⟩:=dcells_get hj
           obtain ⟨v,hv1,hv2⟩:=h11 _ j s k3 hs
           refine ⟨v,by simp only [World.cell?,h6]; exact hv1,?_⟩
           rw [Nat.zero_add] at hc
           subst hc
           have hg:=ddats_get (gd p 0) ((eRows (gd p 0)).getD (eIx (gd p 0)) []) row 0 j s hs
           rw [hg,Nat.zero_add]
           have hdt:deepT tk=true:=hdo
           cases s with
           | sl ei =>
            show VC P w g base (bif deepT tk then .inn tk e j ei else .d (.sl ei)) _ _
            rw [hdt,cond_true]
            exact ⟨row,hrow,⟨v0,.inr ⟨cap,arr,E,h1,h2,h3,h4,h5,h6,h7,h8,h9,h10,h11⟩⟩,.inl ⟨Nat.lt_trans (List.getElem?_eq_some_iff.1 hs).1 (rowOf_lt hrow),hs,hdt,k3,arr,E,h6,hv1,hv2.flat⟩⟩
           | int k=>exact hv2.vd_flat rfl
           | bool=>exact hv2.vd_flat rfl
           | str=>exact hv2.vd_flat rfl
           | opq =>
            unfold CellV at hv2
            rw [if_pos (by rw [hdt]; rfl)] at hv2
            exact hv2.no_opq.elim
         obtain ⟨z,k1,k2⟩:=cut_ok ha hn h hcv
         exact ⟨z,fun w' hw=>by simp only [Instr.loadAt,Instr.sureAddr,Sem.run_bind,Sem.run_pure,Result.andThen_ok]; exact k1 w' hw,k2⟩
     | cptr cells off =>
      obtain ⟨b,o,k1,k2,k3⟩:CptrV P w g base cells off (gd p 0) u:=hx
      subst k1
      simp only at h
      have hcv:CellsV P w g base (cells.map .d) ((gd p 0).rows.getD 0 []) b o:=fun j c hj=>by
       rw [List.getElem?_map] at hj
       cases hs:cells[j]? with
       | none=>rw [hs] at hj; cases hj
       | some s =>
        rw [hs] at hj
        injection hj with hj
        subst hj
        exact k3 j s hs
      obtain ⟨z,k1,k2⟩:=cut_ok ha hn h hcv
      exact ⟨z,fun w' hw=>by simp only [Instr.loadAt,Instr.sureAddr,Sem.run_bind,Sem.run_pure,Result.andThen_ok]; exact k1 w' hw,k2⟩
     | _=>cases h
theorem tField_ok {t i off ft:Nat} (h:tField P t i=some (off,ft)):∃ (fs:Array Field) (f:Field),P.underlying t=some (.struct fs)∧fs[i]?=some f∧f.offset=off∧f.type=ft:=by
 unfold tField at h
 split at h
 ·rename_i fs hu
  cases hf:fs[i]? with
  | none=>rw [hf] at h; cases h
  | some f =>
   rw [hf] at h
   simp only [Option.map_some,Option.some.injEq,Prod.mk.injEq] at h
   exact ⟨fs,f,hu,hf,h.1,h.2⟩
 ·cases h
theorem fieldAddr_ok {t i off ft n:Nat} {x r:T} {u:Value} (hf:tField P t i=some (off,ft)) (hn:tSize P ft=some n) (hn0:n≠0) (h:addOff x off=some r) (hx:VT P w g base x u) :
  ∃ z,(∀ w':World,True→(Instr.fieldAt t u i).run P w'=.ok z w')∧VT P w g base r z:=by
 obtain ⟨fs,f,hu,hfi,rfl,rfl⟩:=tField_ok hf
 have hrun:∀ b o (w':World),True→(Instr.fieldAt t (.pointer (some ⟨b,o,none⟩)) i).run P w'=.ok (.pointer (some ⟨b,o+f.offset,none⟩)) w':=by
  intro b o w' _
  unfold Instr.fieldAt
  simp only [Sem.run_bind,run_underlying hu,Result.andThen_ok,hfi,Instr.sureAddr,Sem.run_pure,fieldPlace,run_size hn,if_neg hn0,addr_add]
 obtain ⟨sh,p⟩:=x
 cases sh with
 | tup xs=>cases h
 | one x=>cases x with
  | agg xs=>cases h
  | c x=>cases x with
   | ptr id o =>
    have hx:u=.pointer (some ⟨g.θ id,o,none⟩):=hx
    subst hx
    simp only [addOff,Option.some.injEq] at h
    subst h
    exact ⟨_,hrun _ _,rfl⟩
   | eptr tk e o =>
    simp only [addOff,Option.some.injEq] at h
    subst h
    cases tk with
    | none =>
     obtain ⟨row,b,o',h1,rfl,h3,h4⟩:=hx
     refine ⟨_,hrun _ _,row,b,o',h1,?_,h3,h4⟩
     show Value.pointer (some ⟨b,o'+(eIx (gd p 0)*row.length+o)+f.offset,none⟩)=Value.pointer (some ⟨b,o'+(eIx (gd p 0)*row.length+(o+f.offset)),none⟩)
     rw [Nat.add_assoc,Nat.add_assoc]
    | some tk =>
     obtain ⟨row,h1,rfl,h3⟩:=hx
     refine ⟨_,hrun _ _,row,h1,?_,h3⟩
     show Value.pointer (some ⟨g.ρ tk,eIx (gd p 0)*row.length+o+f.offset,none⟩)=Value.pointer (some ⟨g.ρ tk,eIx (gd p 0)*row.length+(o+f.offset),none⟩)
     rw [Nat.add_assoc]
   | cptr cells o =>
    simp only [addOff,Option.some.injEq] at h
    subst h
    obtain ⟨b,o',rfl,h3⟩:CptrV P w g base cells o (gd p 0) u:=hx
    refine ⟨_,hrun _ _,b,o',?_,h3⟩
    show Value.pointer (some ⟨b,o'+o+f.offset,none⟩)=Value.pointer (some ⟨b,o'+(o+f.offset),none⟩)
    rw [Nat.add_assoc]
   | _=>cases h
theorem field_ok {t i off ft n:Nat} {ag:Bool} {cs:List Ce} {p:List D} {r:T} {u:Value} (hf:tField P t i=some (off,ft)) (ha:tAgg P ft=some ag) (hn:tSize P ft=some n) (h:cut ag n off cs p=some r)
  (hx:VT P w g base ⟨.one (.agg cs),p⟩ u):∃ z,(∀ w':World,True→(Instr.field t u i).run P w'=.ok z w')∧VT P w g base r z:=by
 obtain ⟨fs,f,hu,hfi,rfl,rfl⟩:=tField_ok hf
 obtain ⟨arr,rfl,hsz,hv⟩:=hx
 have hrun:∀ w,(Instr.field t (.agg arr) i).run P w=(part f.type arr f.offset).run P w:=by
  intro w
  unfold Instr.field
  simp only [Sem.run_bind,run_underlying hu,Result.andThen_ok,hfi,asAgg,Sem.run_pure]
 simp only [hrun]
 unfold cut at h
 cases hb:Nat.ble (f.offset+n) cs.length with
 | false=>rw [hb] at h; cases h
 | true =>
  rw [hb] at h
  have hle:f.offset+n≤cs.length:=Nat.le_of_ble_eq_true hb
  simp only [cond_true] at h
  unfold part
  simp only [Sem.run_bind,run_agg ha,Result.andThen_ok]
  cases ag with
  | true =>
   simp only [cond_true,Option.some.injEq] at h
   subst h
   simp only [if_true,Sem.run_bind,run_size hn,Result.andThen_ok,Sem.run_pure]
   refine ⟨_,fun _ _=>rfl,_,rfl,by simp; omega,fun j c hj=>?_⟩
   have hjn:j<n:=by
    have:=(List.getElem?_eq_some_iff.1 hj).1
    simp at this; omega
   rw [List.getElem?_take,if_pos hjn,List.getElem?_drop] at hj
   obtain ⟨u,h1,h2⟩:=hv _ c hj
   refine ⟨u,?_,by rw [gd_sub _ _ _ _ hjn]; exact h2⟩
   rw [Array.getElem?_extract,if_pos (by omega)]
   exact h1
  | false =>
   simp only [cond_false] at h
   cases ho:cs[f.offset]? with
   | none=>rw [ho] at h; cases h
   | some c =>
    rw [ho] at h
    cases hn1:(n==1) with
    | false=>simp only [hn1,cond_false,reduceCtorEq] at h
    | true =>
     simp only [hn1,cond_true,Option.some.injEq] at h
     subst h
     obtain ⟨u,h1,h2⟩:=hv _ c ho
     simp only [Bool.false_eq_true,if_false,h1,Sem.run_pure]
     exact ⟨u,fun _ _=>rfl,h2⟩
theorem index_ok {t:TypeId} {x i:T} {d:D} {n:Int} {u v:Value} (hs:x.sc=some (.str,d)) (hi:i.intOf=some n) (hx:VT P w g base x u) (hv:VT P w g base i v) (hn:inRange n d.str.length=true) (ht:P.underlying t=some .string) :
  ∃ z,(∀ w':World,True→(Instr.index t u v).run P w'=.ok z w')∧VT P w g base (.c (.d (.int .u8)) (.i ((d.str.getD n.toNat 0).toNat:Int))) z:=by
 have h1:=sc_ok hs hx
 cases h1
 obtain ⟨k,rfl⟩:=int_ok hi hv
 obtain ⟨h0,h1,h2⟩:=inRange_ok hn
 refine ⟨_,?_,ret_i _ _⟩
 intro w' _
 unfold Instr.index
 simp only [asIntOf,Sem.run_bind,Sem.run_pure,Result.andThen_ok,run_underlying ht,if_pos h0,bsv_get]
 rw [List.getElem?_eq_getElem h2]
 simp only [Sem.run_pure]
 congr 1
 simp [List.getD_eq_getElem?_getD,List.getElem?_eq_getElem h2]
theorem extract_ok {vs:List Sh1} {p:List D} {i:Nat} {x:Sh1} {u:Value} (hi:vs[i]?=some x) (hx:VT P w g base ⟨.tup vs,p⟩ u) :
  ∃ z,(∀ w':World,True→(Instr.extract u i).run P w'=.ok z w')∧VT P w g base ⟨.one x,sub p (offs vs i) x.size⟩ z:=by
 obtain ⟨arr,rfl,hs,hv⟩:=hx
 obtain ⟨z,h1,h2⟩:=hv i x hi
 exact ⟨z,by intro w' _; simp [Instr.extract,h1],h2⟩
theorem bound_ok {lo:Option T} {dflt l:Int} {lv:Option Value} (h:bound dflt lo=some l) (hl:∀ x v,lo=some x→lv=some v→VT P w g base x v) (hs:lo.isSome=lv.isSome) :
  (lo=none∧lv=none∧l=dflt)∨∃ k,lv=some (.int k l):=by
 cases lo with
 | none=>cases lv with
  | none=>simp only [bound,Option.some.injEq] at h; exact .inl ⟨rfl,rfl,h.symm⟩
  | some v=>cases hs
 | some x=>cases lv with
  | none=>cases hs
  | some v =>
   obtain ⟨k,e⟩:=int_ok (show x.intOf=some l from h) (hl x v rfl rfl)
   exact .inr ⟨k,by rw [e]⟩
theorem run_sliceBound {k:IntKind} {x:Int} {y:Nat} {code:BoundsCode} (h0:0≤x) (h1:x≤y):(Instr.sliceBound (.int k x) y code).run P w=.ok x.toNat w:=by
 simp [Instr.sliceBound,asIntOf,h0,h1]
theorem run_sliceBounds {b:Bool} {len cap:Nat} {lv hv:Option Value} {l h:Int} (h0:0≤l) (h1:l≤h) (h2:h≤len) (hc:len≤cap)
  (hl:(lv=none∧l=0)∨∃ k,lv=some (.int k l)) (hh:(hv=none∧h=len)∨∃ k,hv=some (.int k h)):(Instr.sliceBounds b len cap lv hv none).run P w=.ok (l.toNat,h.toNat,cap) w:=by
 unfold Instr.sliceBounds
 rcases hh with ⟨rfl,rfl⟩ | ⟨k,rfl⟩ <;> rcases hl with ⟨rfl,rfl⟩ | ⟨k',rfl⟩
 ·simp
 ·simp only [Sem.run_bind,Sem.run_pure,Result.andThen_ok]
  rw [run_sliceBound h0 h1]
  simp
 ·simp only [Sem.run_bind,Sem.run_pure,Result.andThen_ok]
  rw [run_sliceBound (by omega) (by omega)]
  simp
 ·simp only [Sem.run_bind,Sem.run_pure,Result.andThen_ok]
  rw [run_sliceBound (by omega) (by omega)]
  simp only [Result.andThen_ok]
  rw [run_sliceBound h0 (by omega)]
  simp
theorem bound_nice {lo:Option T} {dflt l:Int} {lv:Option Value} (h:bound dflt lo=some l) (hl:∀ x v,lo=some x→lv=some v→VT P w g base x v) (hs:lo.isSome=lv.isSome) :
  (lv=none∧l=dflt)∨∃ k,lv=some (.int k l):=by
 rcases bound_ok h hl hs with ⟨_,h1,h2⟩ | h
 ·exact .inl ⟨h1,h2⟩
 ·exact .inr h
theorem evView_ok {t:TypeId} {x r:T} {lo hi:Option T} {u:Value} {lv hv:Option Value} (h:evView P t x lo hi=some (r,true)) (hx:VT P w g base x u)
  (hl:∀ x v,lo=some x→lv=some v→VT P w g base x v) (hls:lo.isSome=lv.isSome) (hhs:hi.isSome=hv.isSome) :
  ∃ z,(∀ w':World,True→(Instr.sliceAt t u lv hv none).run P w'=.ok z w')∧VT P w g base r z:=by
 unfold evView at h
 split at h
 ·rename_i tk e hsh
  split at h
  ·rename_i l row e1 hrow
   cases hq:(tElem P t==some e && !deepT tk&&row.all S.flat) with
   | false=>rw [hq] at h; cases h
   | true =>
    rw [hq,cond_true] at h
    simp only [Option.some.injEq,Prod.mk.injEq,Bool.and_eq_true,decide_eq_true_eq] at h
    obtain ⟨rfl,h0,h1⟩:=h
    simp only [Bool.and_eq_true,beq_iff_eq,Bool.not_eq_true'] at hq
    obtain ⟨⟨ht,hd⟩,hflat⟩:=hq
    have hvn:hv=none:=by cases hv with
     | none=>rfl
     | some v=>simp at hhs
    subst hvn
    have b1:=bound_nice e1 hl hls
    obtain ⟨shx,p⟩:=x
    simp only at hsh
    subst hsh
    obtain ⟨row',hrow',hown⟩:=hx
    rw [hrow] at hrow'; injection hrow' with hrow'; subst hrow'
    change (l≤((gd p 0).rows.length:Int)) at h1
    generalize hrs:(gd p 0).rows=rows at *
    have hown0:=hown
    have hex:eRows (.l [[gd p 0,.i l]])=rows:=hrs
    have hei:eIx (.l [[gd p 0,.i l]])=l.toNat:=rfl
    rcases hown with ⟨hr0,hr1,A,rfl⟩ | ⟨cap,arr,E,rfl,q2,q3,q4,q5,q6,q7,q8,q9,q10,q11⟩
    ·have hl0:l.toNat=0:=by rw [hr0] at h1; simp at h1; omega
     refine ⟨.slice (if 0=l.toNat then A else A.map (·.add (l.toNat*row.length))) (0 - l.toNat) (0 - l.toNat),fun w' _=>?_,row,hrow,⟨.slice A 0 0,by show OwnV P w g base tk true e row (eRows (.l [[gd p 0,.i l]])) _; rw [hex]; exact .inl ⟨hr0,hr1,A,rfl⟩⟩,.inr ⟨Nat.le_refl _,rfl,?_⟩⟩
     ·simp only [Instr.sliceAt,Instr.slice,Sem.run_bind,run_underlying (tElem_und ht),Result.andThen_ok]
      rw [run_sliceBounds (len:=0) (l:=l) (h:=((0:Nat):Int)) h0 (by rw [hr0] at h1; simpa using h1) (Int.le_refl _) (Nat.le_refl _) b1 (.inl ⟨rfl,rfl⟩)]
      simp only [Result.andThen_ok,Sem.run_bind,run_size (rowOf_size hrow),Sem.run_pure,Int.toNat_natCast]
     ·show VD P w (fun b=>if b=g.ρ tk then (eRows (.l [[gd p 0,.i l]])).length*row.length else 0) (.sl e) (.l ((eRows (.l [[gd p 0,.i l]])).drop (eIx (.l [[gd p 0,.i l]])))) _
      rw [hex,hei,hr0,hl0]
      exact VD.sl e (.l ([].drop 0)) _ 0 row (fun _ _=>undef) hrow (Nat.le_refl _) (by omega) (fun i j hi=>by simp [D.rows] at hi) (fun i j s hi=>by simp [D.rows] at hi)
    ·have hlen:(rows.drop l.toNat).length=rows.length - l.toNat:=by rw [List.length_drop]
     refine ⟨.slice (if cap=l.toNat then some ⟨g.ρ tk,0,none⟩ else (some (⟨g.ρ tk,0,none⟩:Addr)).map (·.add (l.toNat*row.length))) (rows.length - l.toNat) (cap - l.toNat),fun w' _=>?_,row,hrow,⟨.slice (some ⟨g.ρ tk,0,none⟩) rows.length cap,by show OwnV P w g base tk true e row (eRows (.l [[gd p 0,.i l]])) _; rw [hex]; exact hown0⟩,.inr ⟨Nat.le_refl _,rfl,?_⟩⟩
     ·simp only [Instr.sliceAt,Instr.slice,Sem.run_bind,run_underlying (tElem_und ht),Result.andThen_ok]
      rw [run_sliceBounds (len:=rows.length) (l:=l) (h:=(rows.length:Int)) h0 h1 (Int.le_refl _) q2 b1 (.inl ⟨rfl,rfl⟩)]
      simp only [Result.andThen_ok,Sem.run_bind,run_size (rowOf_size hrow),Sem.run_pure,Int.toNat_natCast]
     ·show VD P w (fun b=>if b=g.ρ tk then (eRows (.l [[gd p 0,.i l]])).length*row.length else 0) (.sl e) (.l ((eRows (.l [[gd p 0,.i l]])).drop (eIx (.l [[gd p 0,.i l]])))) _
      rw [hex,hei,← hlen]
      refine VD.sl e (.l (rows.drop l.toNat)) _ (cap - l.toNat) row (fun i j=>arr[(l.toNat+i)*row.length+j]?.getD undef) hrow (Nat.le_trans (Nat.le_of_eq hlen) (by omega)) (by omega) ?_ ?_
      ·intro i j hi hj
       have hi:i<rows.length - l.toNat:=by rw [← hlen]; exact hi
       obtain ⟨z,z1,_⟩:=q11 (l.toNat+i) j _ (by omega) (List.getElem?_eq_getElem hj)
       refine ⟨g.ρ tk,0+l.toNat*row.length,?_,?_,?_⟩
       ·rw [if_neg (by omega),Option.map_some,addr_add]
       ·rw [show 0+l.toNat*row.length+(i*row.length+j)=(l.toNat+i)*row.length+j from by rw [Nat.add_mul]; omega,z1]
        simp only [World.cell?,q6]
        exact z1
       ·rw [if_pos rfl]
        have:(l.toNat+i)*row.length+row.length≤rows.length*row.length:=by
         rw [← Nat.succ_mul]; exact Nat.mul_le_mul_right _ (by omega)
        rw [Nat.add_mul] at this
        omega
      ·intro i j s hi hs
       have hi:i<rows.length - l.toNat:=by rw [← hlen]; exact hi
       obtain ⟨z,z1,z2⟩:=q11 (l.toNat+i) j s (by omega) hs
       have hsf:=List.all_eq_true.1 hflat s (List.mem_of_getElem? hs)
       unfold CellV at z2
       rw [if_neg (by rw [hd]; simp)] at z2
       have e2:((D.l (rows.drop l.toNat)).rows.getD i [])=rows.getD (l.toNat+i) []:=by
        show (rows.drop l.toNat).getD i []=_
        rw [List.getD_eq_getElem?_getD,List.getD_eq_getElem?_getD,List.getElem?_drop]
       rw [e2]
       simp only [z1,Option.getD_some]
       exact (TR.of_flat (lab:=fun _ _ _=>True) (π:= []) z2 hsf).vd_flat hsf
  ·cases h
 ·cases h
theorem evSlice_ok {t:TypeId} {x r:T} {lo hi:Option T} {u:Value} {lv hv:Option Value} (h:evSlice P t x lo hi=some (r,true)) (hx:VT P w g base x u)
  (hl:∀ x v,lo=some x→lv=some v→VT P w g base x v) (hls:lo.isSome=lv.isSome) (hh:∀ x v,hi=some x→hv=some v→VT P w g base x v) (hhs:hi.isSome=hv.isSome) :
  ∃ z,(∀ w':World,True→(Instr.sliceAt t u lv hv none).run P w'=.ok z w')∧VT P w g base r z:=by
 unfold evSlice at h
 split at h
 ·rename_i d ex
  have hvd:=sc_ok ex hx
  cases hvd
  split at h
  ·rename_i l hb e1 e2
   cases ht:isStrT P t with
   | false=>rw [ht] at h; cases h
   | true =>
    rw [ht] at h
    simp only [Bool.not_true,cond_false,Option.some.injEq,Prod.mk.injEq,Bool.and_eq_true,decide_eq_true_eq] at h
    obtain ⟨rfl,⟨h0,h1⟩,h2⟩:=h
    have b1:=bound_nice e1 hl hls
    have b2:=bound_nice e2 hh hhs
    refine ⟨.string (bsv ((d.str.take hb.toNat).drop l.toNat)),?_,VD.str (.s _)⟩
    intro w' _
    simp only [Instr.sliceAt,Instr.slice,Sem.run_bind,run_underlying (isStrT_ok ht),Result.andThen_ok,Option.isSome_none,Bool.false_eq_true,if_false]
    rw [run_sliceBounds (len:=(bsv d.str).size) h0 h1 (by rw [bsv_size]; exact h2) (Nat.le_refl _) b1 (by rw [bsv_size]; exact b2)]
    simp [bsv_extract]
  ·cases h
 ·rename_i e d ex
  have hvd:=sc_ok ex hx
  cases hvd with
  | sl _ _ A c row u hr k1 k2 k3 k4 =>
   split at h
   ·rename_i l hb e1 e2
    cases ht:(tElem P t==some e) with
    | false=>rw [ht] at h; cases h
    | true =>
     rw [ht] at h
     have ht:tElem P t=some e:=by simpa using ht
     simp only [Bool.not_true,cond_false,Option.some.injEq,Prod.mk.injEq,Bool.and_eq_true,decide_eq_true_eq] at h
     obtain ⟨rfl,⟨h0,h1⟩,h2⟩:=h
     have b1:=bound_nice e1 hl hls
     have b2:=bound_nice e2 hh hhs
     have hlen:((d.rows.take hb.toNat).drop l.toNat).length=hb.toNat - l.toNat:=by
      rw [List.length_drop,List.length_take]; omega
     refine ⟨.slice (if c=l.toNat then A else A.map (·.add (l.toNat*row.length))) (hb.toNat - l.toNat) (c - l.toNat),?_,?_⟩
     ·intro w' _
      simp only [Instr.sliceAt,Instr.slice,Sem.run_bind,run_underlying (tElem_und ht),Result.andThen_ok]
      rw [run_sliceBounds (len:=d.rows.length) h0 h1 h2 k1 b1 b2]
      simp only [Result.andThen_ok,Sem.run_bind,run_size (rowOf_size hr),Sem.run_pure]
     ·show VD P w g.prot (.sl e) (.l ((d.rows.take hb.toNat).drop l.toNat)) _
      rw [← hlen]
      refine VD.sl e (.l ((d.rows.take hb.toNat).drop l.toNat)) _ (c - l.toNat) row (fun i j=>u (l.toNat+i) j) hr (Nat.le_trans (Nat.le_of_eq hlen) (by omega)) (by omega) ?_ ?_
      ·intro i j hi hj
       have hi:i<hb.toNat - l.toNat:=by rw [← hlen]; exact hi
       obtain ⟨b,o,q1,q2,q3⟩:=k3 (l.toNat+i) j (by omega) hj
       refine ⟨b,o+l.toNat*row.length,?_,?_,?_⟩
       ·rw [if_neg (by omega),q1,Option.map_some,addr_add]
       ·rw [show o+l.toNat*row.length+(i*row.length+j)=o+((l.toNat+i)*row.length+j) from by rw [Nat.add_mul]; omega]
        exact q2
       ·rw [show o+l.toNat*row.length+(i*row.length+j)=o+((l.toNat+i)*row.length+j) from by rw [Nat.add_mul]; omega]
        exact q3
      ·intro i j s hi hs
       have hi:i<hb.toNat - l.toNat:=by rw [← hlen]; exact hi
       have:=k4 (l.toNat+i) j s (by omega) hs
       have e:((d.rows.take hb.toNat).drop l.toNat).getD i []=d.rows.getD (l.toNat+i) []:=by
        rw [List.getD_eq_getElem?_getD,List.getD_eq_getElem?_getD,List.getElem?_drop,List.getElem?_take,if_pos (by omega)]
       show VD P w g.prot s (gd (((d.rows.take hb.toNat).drop l.toNat).getD i []) j) _
       rw [e]
       exact this
   ·cases h
 ·cases h
theorem pick_sc {s:S} {x y:D} {u v:Value} {b:Bool} (hx:VD P w g.prot s x u) (hy:VD P w g.prot s y v):VD P w g.prot s (bif b then x else y) (if b then u else v):=by
 cases b
 ·exact hy
 ·exact hx
theorem capOf_ok {x:T} {c:Cap} {d:D} {u:Value} (h:capOf x=some (c,d)) (hx:VT P w g base x u):CapV P w g base c d u:=by
 obtain ⟨sh,p⟩:=x
 cases sh with
 | tup xs=>cases h
 | one x=>cases x with
  | agg xs=>cases h
  | c x=>cases x with
   | ptr id off=>simp only [capOf,Option.some.injEq,Prod.mk.injEq] at h; obtain ⟨rfl,rfl⟩:=h; exact hx
   | cptr cells off=>simp only [capOf,Option.some.injEq,Prod.mk.injEq] at h; obtain ⟨rfl,rfl⟩:=h; exact hx
   | d s=>simp only [capOf,Option.some.injEq,Prod.mk.injEq] at h; obtain ⟨rfl,rfl⟩:=h; exact hx
   | _=>cases h
theorem capsOf_ok (ho:∀ x,VT P w g base (opd σ x) (a.eval x)):∀ {xs:List Operand} {cs:List Cap} {ds:List D},capsOf σ xs=some (cs,ds)→cs.length=xs.length∧∀ (j:Nat) c,cs[j]?=some c→∃ x,xs[j]?=some x∧CapV P w g base c (gd ds j) (a.eval x)
 | [],cs,ds,h=>by
  simp only [capsOf,Option.some.injEq,Prod.mk.injEq] at h
  obtain ⟨rfl,rfl⟩:=h
  exact ⟨rfl,fun j c h=>by simp at h⟩
 | x::xs,cs,ds,h=>by
  unfold capsOf at h
  split at h
  ·rename_i c d cs' ds' h1 h2
   simp only [Option.some.injEq,Prod.mk.injEq] at h
   obtain ⟨rfl,rfl⟩:=h
   obtain ⟨k1,k2⟩:=capsOf_ok ho h2
   refine ⟨by simp [k1],fun j c' hj=>?_⟩
   cases j with
   | zero =>
    simp only [List.getElem?_cons_zero,Option.some.injEq] at hj
    subst hj
    exact ⟨x,rfl,capOf_ok h1 (ho x)⟩
   | succ j =>
    obtain ⟨y,q1,q2⟩:=k2 j c' (by simpa using hj)
    exact ⟨y,by simpa using q1,by rw [gd_cons_succ]; exact q2⟩
  ·cases h
theorem evQ_ok (hr:Rel P w g base σ a) {o:Oper} {r:T} (h:evQ P σ o=some (r,true)):∃ z,(∀ w',(Below w.heap.size w w'∨noMem o=true)→(execOp a.eval o).run P w'=.ok (.value z) w')∧VT P w g base r z:=by
 obtain ⟨dst,op,ty,pos,after,guard⟩:=o
 have ho:=fun x=>opd_ok hr x
 cases op with
 | move x =>
  simp only [evQ,Option.some.injEq,Prod.mk.injEq,and_true] at h
  subst h
  exact ⟨_,by intro w' _; simp [execOp],ho x⟩
 | assign x =>
  simp only [evQ,Option.some.injEq,Prod.mk.injEq,and_true] at h
  subst h
  exact ⟨_,by intro w' _; simp [execOp],ho x⟩
 | nilCheck x =>
  simp only [evQ] at h
  split at h
  ·rename_i id off hs
   simp only [Option.some.injEq,Prod.mk.injEq,and_true] at h
   subst h
   have hv:=ho x
   unfold VT at hv
   rw [hs] at hv
   have hb:a.eval x=.pointer (some ⟨g.θ id,off,none⟩):=hv
   exact ⟨_,by intro w' _; simp [execOp,hb],ho x⟩
  ·cases h
 | pick c x y =>
  simp only [evQ] at h
  split at h
  ·rename_i t e
   simp only [Option.some.injEq,Prod.mk.injEq,and_true] at h
   subst h
   have hc:=ho c
   have hcb:a.eval c=.bool t:=by
    generalize opd σ c=q at *
    obtain ⟨sh,p⟩:=q
    simp only at e
    subst e
    exact hc
   refine ⟨if t then a.eval x else a.eval y,by intro w' _; simp [execOp,hcb,asBool],?_⟩
   cases t
   ·exact ho y
   ·exact ho x
  ·rename_i s x' s' y' e1 e2 e3
   cases hss:(s==s') with
   | false=>rw [hss] at h; cases h
   | true =>
    rw [hss] at h
    have hss:s=s':=by simpa using hss
    subst hss
    simp only [cond_true,Option.some.injEq,Prod.mk.injEq,and_true] at h
    subst h
    have hc:=ho c
    have hcb:a.eval c=.bool (gd (opd σ c).p 0).bool:=by
     generalize hq:opd σ c=q at *
     obtain ⟨sh,p⟩:=q
     simp only at e1
     subst e1
     have hc:VD P w g.prot .bool (gd p 0) (a.eval c):=hc
     generalize a.eval c=vv at *
     cases hc
     rfl
    exact ⟨_,by intro w' _; simp only [execOp,hcb,asBool,Sem.run_bind,Sem.run_pure,Result.andThen_ok],pick_sc (sc_ok e2 (ho x)) (sc_ok e3 (ho y))⟩
  ·cases h
 | load t x =>
  simp only [evQ] at h
  cases hl:evLoad P t σ (opd σ x) with
  | none=>rw [hl] at h; cases h
  | some r' =>
   rw [hl] at h
   simp only [Option.map_some,Option.some.injEq,Prod.mk.injEq,and_true] at h
   subst h
   obtain ⟨z,h1,h2⟩:=evLoad_ok hr hl (ho x)
   exact ⟨z,fun w' hw=>by simp only [execOp,Sem.run_bind,h1 w' (hw.resolve_right (by simp [noMem])),Result.andThen_ok,Sem.run_pure],h2⟩
 | fieldAddr t x i =>
  simp only [evQ] at h
  split at h
  ·rename_i off ft hf
   split at h
   ·rename_i n hn
    cases hl:addOff (opd σ x) off with
    | none=>rw [hl] at h; cases h
    | some r' =>
     rw [hl] at h
     simp only [Option.map_some,Option.some.injEq,Prod.mk.injEq,and_true] at h
     subst h
     obtain ⟨z,h1,h2⟩:=fieldAddr_ok hf hn (by omega) hl (ho x)
     exact ⟨z,fun w' hw=>by simp only [execOp,Sem.run_bind,h1 w' trivial,Result.andThen_ok,Sem.run_pure],h2⟩
   ·cases h
  ·cases h
 | field t x i =>
  simp only [evQ] at h
  split at h
  ·rename_i off ft cs hf hsh
   split at h
   ·rename_i ag n ha hn
    cases hl:cut ag n off cs (opd σ x).p with
    | none=>rw [hl] at h; cases h
    | some r' =>
     rw [hl] at h
     simp only [Option.map_some,Option.some.injEq,Prod.mk.injEq,and_true] at h
     subst h
     have hx:=ho x
     have hx:VT P w g base ⟨.one (.agg cs),(opd σ x).p⟩ (a.eval x):=by rw [← hsh]; exact hx
     obtain ⟨z,h1,h2⟩:=field_ok hf ha hn hl hx
     exact ⟨z,fun w' hw=>by simp only [execOp,Sem.run_bind,h1 w' trivial,Result.andThen_ok,Sem.run_pure],h2⟩
   ·cases h
  ·cases h
 | indexAddr t x i =>
  simp only [evQ] at h
  split at h
  ·rename_i e he
   obtain ⟨z,h1,h2⟩:=evIndexAddr_ok he h (ho x) (ho i)
   exact ⟨z,fun w' hw=>by simp only [execOp,Sem.run_bind,h1 w' trivial,Result.andThen_ok,Sem.run_pure],h2⟩
  ·cases h
 | index t x i =>
  simp only [evQ] at h
  split at h
  ·rename_i d n e1 e2
   cases ht:isStrT P t with
   | false=>rw [ht] at h; cases h
   | true =>
    rw [ht] at h
    simp only [Bool.not_true,cond_false,Option.some.injEq,Prod.mk.injEq] at h
    obtain ⟨rfl,hn⟩:=h
    obtain ⟨z,h1,h2⟩:=index_ok e1 e2 (ho x) (ho i) hn (isStrT_ok ht)
    exact ⟨z,fun w' hw=>by simp only [execOp,Sem.run_bind,h1 w' trivial,Result.andThen_ok,Sem.run_pure],h2⟩
  ·cases h
 | binOp op t x y t2 =>
  simp only [evQ] at h
  have hb:∃ z,(∀ w':World,True→(do eqGuard op t x y (a.eval x) (a.eval y); Go.binOp op t (a.eval x) (a.eval y):Sem Value).run P w'=.ok z w')∧VT P w g base r z:=by
   split at h
   ·rename_i r0 he
    injection h with h
    subst h
    exact evCmp_ok t he x y (ho x) (ho y)
   ·exact evBin_ok t h x y (ho x) (ho y)
  obtain ⟨z,h1,h2⟩:=hb
  exact ⟨z,fun w' hw=>by simp only [execOp]; rw [Sem.run_bind,h1 w' trivial]; simp,h2⟩
 | unOp op t x =>
  simp only [evQ] at h
  cases hl:evUn op (opd σ x) with
  | none=>rw [hl] at h; cases h
  | some r' =>
   rw [hl] at h
   simp only [Option.map_some,Option.some.injEq,Prod.mk.injEq,and_true] at h
   subst h
   obtain ⟨z,h1,h2⟩:=evUn_ok hl (ho x)
   exact ⟨z,fun w' hw=>by simp only [execOp,Sem.run_bind,h1 w' trivial,Result.andThen_ok,Sem.run_pure],h2⟩
 | extract t i =>
  simp only [evQ] at h
  split at h
  ·rename_i vs hsh
   split at h
   ·rename_i x hx
    simp only [Option.some.injEq,Prod.mk.injEq,and_true] at h
    subst h
    have ht:=ho t
    have ht:VT P w g base ⟨.tup vs,(opd σ t).p⟩ (a.eval t):=by rw [← hsh]; exact ht
    obtain ⟨z,h1,h2⟩:=extract_ok hx ht
    exact ⟨z,fun w' hw=>by simp only [execOp,Sem.run_bind,h1 w' trivial,Result.andThen_ok,Sem.run_pure],h2⟩
   ·cases h
  ·cases h
 | slice t x lo hi mx =>
  cases mx with
  | some m=>simp only [evQ] at h; cases h
  | none =>
   simp only [evQ] at h
   split at h
   ·rename_i r0 hr0
    injection h with h
    subst h
    obtain ⟨z,h1,h2⟩:=evView_ok (lv:=lo.map a.eval) (hv:=hi.map a.eval) hr0 (ho x) (by
     intro x' v e1 e2
     cases lo with
     | none=>cases e1
     | some l=>simp only [Option.map_some,Option.some.injEq] at e1 e2; subst e1; subst e2; exact ho l) (by cases lo <;> rfl) (by cases hi <;> rfl)
    exact ⟨z,fun w' hw=>by simp only [execOp,Option.map_none,Sem.run_bind,h1 w' trivial,Result.andThen_ok,Sem.run_pure],h2⟩
   obtain ⟨z,h1,h2⟩:=evSlice_ok (lv:=lo.map a.eval) (hv:=hi.map a.eval) h (ho x) (by
     intro x' v e1 e2
     cases lo with
     | none=>cases e1
     | some l=>simp only [Option.map_some,Option.some.injEq] at e1 e2; subst e1; subst e2; exact ho l) (by cases lo <;> rfl) (by
     intro x' v e1 e2
     cases hi with
     | none=>cases e1
     | some l=>simp only [Option.map_some,Option.some.injEq] at e1 e2; subst e1; subst e2; exact ho l) (by cases hi <;> rfl)
   exact ⟨z,fun w' hw=>by simp only [execOp,Option.map_none,Sem.run_bind,h1 w' trivial,Result.andThen_ok,Sem.run_pure],h2⟩
 | convert t1 t2 x =>
  simp only [evQ] at h
  split at h
  ·rename_i d1 k k' d h1 h2 h3
   simp only [Option.some.injEq,Prod.mk.injEq,and_true] at h
   subst h
   have hv:=sc_ok h3 (ho x)
   generalize hq:a.eval x=u at hv
   cases hv
   refine ⟨_,?_,ret_i _ _⟩
   intro w' _
   simp only [execOp,hq,convert,Sem.run_bind,run_underlying h1,run_underlying h2,Result.andThen_ok]
   cases d1 <;> simp [Conv.intToInt]
  ·rename_i d1 d h1 h2 h3
   simp only [Option.some.injEq,Prod.mk.injEq,and_true] at h
   subst h
   have hv:=sc_ok h3 (ho x)
   generalize hq:a.eval x=u at hv
   cases hv
   refine ⟨_,?_,VD.str d⟩
   intro w' _
   simp only [execOp,hq,convert,Sem.run_bind,run_underlying h1,run_underlying h2,Result.andThen_ok]
   cases d1 <;> simp
  ·cases h
 | makeFunc fn first caps =>
  cases fn with
  | func f =>
   simp only [evQ] at h
   cases he:first.isEmpty with
   | false=>rw [he] at h; cases h
   | true =>
    rw [he] at h
    simp only [cond_true] at h
    split at h
    ·rename_i cs ds hc
     simp only [Option.some.injEq,Prod.mk.injEq,and_true] at h
     subst h
     have he:first = #[]:=by simpa using he
     subst he
     obtain ⟨k1,k2⟩:=capsOf_ok ho hc
     refine ⟨.func (.func f) #[] (caps.map a.eval),fun w' _=>by simp [execOp,Instr.makeFunc],caps.map a.eval,rfl,by simp [k1],fun j c hj=>?_⟩
     obtain ⟨x,q1,q2⟩:=k2 j c hj
     refine ⟨a.eval x,?_,q2⟩
     have:caps[j]?=some x:=by simpa using q1
     rw [Array.getElem?_map,this]; rfl
    ·cases h
  | _=>simp only [evQ] at h; cases h
 | call c =>
  obtain ⟨callee,args,ts⟩:=c
  cases callee with
  | builtin b =>
   cases b with
   | len =>
    simp only [evQ] at h
    split at h
    ·rename_i x t e1 e2
     cases hl:evLen P t (opd σ x) with
     | none=>rw [hl] at h; cases h
     | some r' =>
      rw [hl] at h
      simp only [Option.map_some,Option.some.injEq,Prod.mk.injEq,and_true] at h
      subst h
      obtain ⟨z,h1,h2⟩:=evLen_ok hl (ho x) ty
      have ea:args = #[x]:=by cases args; simp_all
      have et:ts = #[t]:=by cases ts; simp_all
      subst ea; subst et
      refine ⟨z,fun w' hw=>?_,h2⟩
      simp only [execOp,resolve,invoke,builtin,Sem.run_bind,Sem.run_pure,Result.andThen_ok,List.map_toArray,List.map_cons,List.map_nil,h1 w' trivial]
    ·cases h
   | max =>
    simp only [evQ] at h
    split at h
    ·rename_i x y e1
     split at h
     ·rename_i k p k' q h1 h2
      cases hk:(k==k') with
      | false=>rw [hk] at h; cases h
      | true =>
       rw [hk,cond_true] at h
       simp only [Option.some.injEq,Prod.mk.injEq,and_true] at h
       subst h
       have hk:k=k':=by simpa using hk
       subst hk
       have v1:=sc_ok h1 (ho x)
       have v2:=sc_ok h2 (ho y)
       have u1:a.eval x=.int k p.int:=by generalize a.eval x=u at v1; cases v1; rfl
       have u2:a.eval y=.int k q.int:=by generalize a.eval y=u at v2; cases v2; rfl
       have ea:args = #[x,y]:=by cases args; simp_all
       subst ea
       refine ⟨.int k (maxI p.int q.int),fun w' hw=>?_,VD.int k (.i (maxI p.int q.int))⟩
       simp [execOp,resolve,invoke,builtin,Go.Builtin.max_,Go.Builtin.max2,u1,u2,maxI,Sem.run_bind,Sem.run_pure,Result.andThen_ok]
     ·cases h
    ·cases h
   | _=>simp only [evQ] at h; cases h
  | _=>simp only [evQ] at h; cases h
 | _=>simp only [evQ] at h; cases h
end
end Go.Proofs.YthbbbhpjkgpdcaaGreat
