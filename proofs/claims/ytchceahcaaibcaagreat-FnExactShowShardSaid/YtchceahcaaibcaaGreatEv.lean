/-
  An evaluator of the program's code over trees. Shapes are closed and are computed; what is in them (numbers, bytes, rows) stays symbolic.
-/
import Derived.Test.YtchceahcaaibcaaGreatProg
import Derived.WalkKit
import Derived.ProofKit
import Derived.Orders
namespace Go.Proofs.YtchceahcaaibcaaGreat
set_option linter.unusedSimpArgs false
set_option linter.unusedVariables false

/-- data: a number, a truth, bytes, rows of cells -/
inductive D where
  | i (n : Int)
  | b (x : Bool)
  | s (x : List UInt8)
  | l (rows : List (List D))
def D0 : D := .i 0
def D.int : D → Int
  | .i n => n
  | _ => 0
def D.bool : D → Bool
  | .b x => x
  | _ => false
def D.str : D → List UInt8
  | .s x => x
  | _ => []
def D.rows : D → List (List D)
  | .l r => r
  | _ => []
def gd (p : List D) (i : Nat) : D := p.getD i D0
/-- n cells from o on -/
def sub (p : List D) (o : Nat) : Nat → List D
  | 0 => []
  | n + 1 => gd p o :: sub p (o + 1) n

/-- the shape of a datum: a slice by its elements' type -/
inductive S where
  | int (k : IntKind)
  | bool
  | str
  | sl (e : TypeId)
  deriving DecidableEq, Repr
abbrev Tok := Nat × Nat
inductive Cap where
  | d (s : S)
  | ptr (id off : Nat)
  | cptr (cells : List S) (off : Nat)
  deriving DecidableEq, Repr
/-- the shape of a cell; each cell has ONE datum -/
inductive Ce where
  | any
  | d (s : S)
  | kb (x : Bool)
  | own (t : Tok) (x : Bool) (e : TypeId)
  | ptr (id off : Nat)
  | eptr (t : Option Tok) (e : TypeId) (off : Nat)
  | cptr (cells : List S) (off : Nat)
  | fn (f : FuncId) (caps : List Cap)
  deriving DecidableEq, Repr
inductive Sh1 where
  | c (x : Ce)
  | agg (xs : List Ce)
  deriving DecidableEq, Repr
inductive Sh where
  | one (x : Sh1)
  | tup (xs : List Sh1)
  deriving DecidableEq, Repr
def Sh1.size : Sh1 → Nat
  | .c _ => 1
  | .agg xs => xs.length
structure T where
  sh : Sh
  p : List D
abbrev T.c (x : Ce) (d : D) : T := ⟨.one (.c x), [d]⟩
abbrev T.any : T := .c .any D0
abbrev T.none_ : T := ⟨.tup [], []⟩

abbrev Env := List (Nat × T)
abbrev Boxes := List (Nat × List Ce × List D)
/-- r: the region's temporaries; e: what lives on; h: the boxes -/
structure St where
  r : Env
  e : Env
  h : Boxes

def look (i : Nat) : Env → T
  | [] => .any
  | (j, v) :: e => bif i == j then v else look i e
def look2 (i : Nat) (e : Env) : Env → T
  | [] => look i e
  | (j, v) :: r => bif i == j then v else look2 i e r
def hlook (i : Nat) : Boxes → Option (List Ce × List D)
  | [] => none
  | (j, v) :: e => bif i == j then some v else hlook i e
def eput (i : Nat) (v : T) : Env → Env
  | [] => [(i, v)]
  | (j, u) :: e => bif i == j then (i, v) :: e else (j, u) :: eput i v e
def hput (i : Nat) (v : List Ce × List D) : Boxes → Boxes
  | [] => [(i, v)]
  | (j, u) :: e => bif i == j then (i, v) :: e else (j, u) :: hput i v e
def St.put (σ : St) (o : Option Nat) (v : T) : St :=
  match o with
  | none => σ
  | some i => ⟨(i, v) :: σ.r, σ.e, σ.h⟩
/-- the region's end: what lives on is kept -/
def edrop (i : Nat) : Env → Env
  | [] => []
  | (j, u) :: e => bif i == j then edrop i e else (j, u) :: edrop i e
def settleE (ks : List Nat) (e : Env) : Env → Env
  | [] => e
  | (i, v) :: r => bif ks.contains i then eput i v (settleE ks e r) else edrop i (settleE ks e r)
def St.settle (ks : List Nat) (σ : St) : St := ⟨[], settleE ks σ.e σ.r, σ.h⟩

def byteList (s : ByteArray) : List UInt8 := s.data.toList
def ofV : Value → T
  | .int k n => .c (.d (.int k)) (.i n)
  | .bool b => .c (.kb b) D0
  | .string s => .c (.d .str) (.s (byteList s))
  | .tuple xs => bif xs.isEmpty then .none_ else .any
  | _ => .any
def opd (σ : St) : Operand → T
  | .tmp i => look2 i σ.e σ.r
  | .const v => ofV v
  | .func f => .c (.fn f []) (.l [[]])
  | .global _ => .any

/-- a value as cells -/
def T.cells (v : T) : Option (List Ce × List D) :=
  match v.sh with
  | .one (.c x) => bif x == .any then none else some ([x], [gd v.p 0])
  | .one (.agg xs) => bif xs.contains .any then none else some (xs, sub v.p 0 xs.length)
  | .tup _ => none
/-- a cell's datum that is handed on or laid down: its shape, itself -/
def Ce.toS : Ce → Option S
  | .d s => some s
  | .kb _ => some .bool
  | .own _ _ e => some (.sl e)
  | _ => none
def Ce.toD (c : Ce) (x : D) : D :=
  match c with
  | .kb b => .b b
  | _ => x
def allS : List Ce → Option (List S)
  | [] => some []
  | c :: cs => match c.toS, allS cs with
    | some d, some ds => some (d :: ds)
    | _, _ => none
def toDs : List Ce → List D → List D
  | [], _ => []
  | c :: cs, ds => c.toD (gd ds 0) :: toDs cs ds.tail
def toks : List Ce → List Tok
  | [] => []
  | .own t _ _ :: cs => t :: toks cs
  | _ :: cs => toks cs
def T.toks (v : T) : List Tok :=
  match v.sh with
  | .one (.c x) => Go.Proofs.YtchceahcaaibcaaGreat.toks [x]
  | .one (.agg xs) => Go.Proofs.YtchceahcaaibcaaGreat.toks xs
  | .tup _ => []

/-! over all that a state holds: shapes alone -/
def Sh1.map (f : Ce → Ce) : Sh1 → Sh1
  | .c x => .c (f x)
  | .agg xs => .agg (xs.map f)
def Sh.map (f : Ce → Ce) : Sh → Sh
  | .one x => .one (x.map f)
  | .tup xs => .tup (xs.map (Sh1.map f))
def St.map (f : Ce → Ce) (σ : St) : St :=
  ⟨σ.r.map fun p => (p.1, ⟨p.2.sh.map f, p.2.p⟩), σ.e.map fun p => (p.1, ⟨p.2.sh.map f, p.2.p⟩), σ.h.map fun p => (p.1, p.2.1.map f, p.2.2)⟩
def sealC (ts : List Tok) : Ce → Ce
  | .own t x e => .own t (x && !ts.contains t) e
  | .eptr (some t) e off => .eptr (bif ts.contains t then none else some t) e off
  | c => c
def St.seal (ts : List Tok) (σ : St) : St := σ.map (sealC ts)
/-- no one names the box d, or a row that was made at d -/
def wipeC (d : Nat) : Ce → Ce
  | .own t x e => bif t.1 == d then (bif x then .any else .d (.sl e)) else .own t x e
  | .eptr (some t) e off => bif t.1 == d then .any else .eptr (some t) e off
  | .ptr id off => bif id == d then .any else .ptr id off
  | .fn f caps => bif caps.all (fun | .ptr id _ => id != d | _ => true) then .fn f caps else .any
  | c => c
def St.wipe (d : Nat) (σ : St) : St := σ.map (wipeC d)
def dropC (s : Tok) : Ce → Ce
  | .own t x e => bif t == s then (bif x then .any else .d (.sl e)) else .own t x e
  | .eptr (some t) e off => bif t == s then .any else .eptr (some t) e off
  | c => c
/-- the row s has new rows: all that name it, but for the slice in hand, forget; those that read are turned -/
def setD (s : Tok) (rows : List (List D)) : Ce → D → D
  | .own t _ _, d => bif t == s then .l rows else d
  | .eptr (some t) _ _, d => bif t == s then .l [[.l rows, gd (d.rows.getD 0 []) 1]] else d
  | _, d => d
def setDs (s : Tok) (rows : List (List D)) : List Ce → List D → List D
  | [], _ => []
  | c :: cs, ds => setD s rows c (gd ds 0) :: setDs s rows cs ds.tail
def setT (s : Tok) (rows : List (List D)) (v : T) : T :=
  match v.sh with
  | .one (.c x) => ⟨v.sh, setDs s rows [x] v.p⟩
  | .one (.agg xs) => ⟨v.sh, setDs s rows xs v.p⟩
  | .tup _ => .any
def St.setRows (s : Tok) (rows : List (List D)) (σ : St) : St :=
  ⟨σ.r.map fun p => (p.1, setT s rows p.2), σ.e.map fun p => (p.1, setT s rows p.2), σ.h.map fun p => (p.1, p.2.1, setDs s rows p.2.1 p.2.2)⟩

/-! ### types -/
def tSize (P : Program) (t : TypeId) : Option Nat := (P.info? t).map (·.size)
def tAgg (P : Program) (t : TypeId) : Option Bool :=
  match P.underlying t with
  | some (.struct _) | some (.array _ _) => some true
  | some _ => some false
  | none => none
def tElem (P : Program) (t : TypeId) : Option TypeId :=
  match P.underlying t with
  | some (.slice e) => some e
  | _ => none
def tField (P : Program) (t : TypeId) (i : Nat) : Option (Nat × TypeId) :=
  match P.underlying t with
  | some (.struct fs) => (fs[i]?).map fun f => (f.offset, f.type)
  | _ => none
def andThen {α β : Type} (a : Option α) (f : α → Option β) : Option β :=
  match a with
  | some x => f x
  | none => none
/-- the cells of a type -/
def rowS (P : Program) : Nat → TypeId → Option (List S)
  | 0, _ => none
  | n + 1, t =>
    match P.underlying t with
    | some (.struct fs) => fs.toList.foldr (fun f acc => match rowS P n f.type, acc with | some a, some b => some (a ++ b) | _, _ => none) (some [])
    | some (.slice e) => some [.sl e]
    | some (.int k) => some [.int k]
    | some .bool => some [.bool]
    | some .string => some [.str]
    | _ => none
def rowOf (P : Program) (t : TypeId) : Option (List S) :=
  match rowS P 9 t with
  | some row => bif tSize P t == some row.length && !row.isEmpty then some row else none
  | none => none
def zeroD : S → D
  | .int _ => .i 0
  | .bool => .b false
  | .str => .s []
  | .sl _ => .l []
def zC (t : Tok) (s : S) : Ce :=
  match s with
  | .sl e => .own t true e
  | _ => .d s
def zeroC (d : Nat) : Nat → List S → List Ce
  | _, [] => []
  | i, s :: r => zC (d, i) s :: zeroC d (i + 1) r

/-- the zero value of a type, as the model has it, is what a row of zeros says -/
def zeroMatch (P : Program) : List S → List Value → Bool
  | [], [] => true
  | .int k :: r, .int k' n :: vs => k == k' && n == 0 && zeroMatch P r vs
  | .bool :: r, .bool b :: vs => !b && zeroMatch P r vs
  | .str :: r, .string s :: vs => s.data.toList.isEmpty && zeroMatch P r vs
  | .sl e :: r, .slice none 0 0 :: vs => (rowOf P e).isSome && zeroMatch P r vs
  | _, _ => false
def zeroOk (P : Program) (t : TypeId) (row : List S) : Bool :=
  match P.info? t with
  | some i => match i.zero with
    | some v => zeroMatch P row v.cells.toList
    | none => false
  | none => false

def rowZero (P : Program) (e : TypeId) : Bool :=
  match rowOf P e with
  | some row => zeroOk P e row
  | none => false

/-! ### operations -/
def evInt (op : BinOp) (k : IntKind) (x y : Int) : Option (T × Bool) :=
  match op with
  | .add => some (.c (.d (.int k)) (.i (k.wrap (x + y))), true)
  | .sub => some (.c (.d (.int k)) (.i (k.wrap (x - y))), true)
  | .mul => some (.c (.d (.int k)) (.i (k.wrap (x * y))), true)
  | .quo => some (.c (.d (.int k)) (.i (k.wrap (x.tdiv y))), y != 0)
  | .rem => some (.c (.d (.int k)) (.i (x.tmod y)), y != 0)
  | .shr => some (.c (.d (.int k)) (.i (x.fdiv (2 ^ (min y.toNat k.bits)))), decide (0 ≤ y))
  | .eql => some (.c (.d .bool) (.b (x == y)), true)
  | .neq => some (.c (.d .bool) (.b (x != y)), true)
  | .lss => some (.c (.d .bool) (.b (decide (x < y))), true)
  | .leq => some (.c (.d .bool) (.b (decide (x ≤ y))), true)
  | .gtr => some (.c (.d .bool) (.b (decide (x > y))), true)
  | .geq => some (.c (.d .bool) (.b (decide (x ≥ y))), true)
  | _ => none
/-- a datum of a scalar -/
def T.sc (v : T) : Option (S × D) :=
  match v.sh with
  | .one (.c (.d s)) => some (s, gd v.p 0)
  | .one (.c (.kb b)) => some (.bool, .b b)
  | _ => none
/-- two structs of numbers, truths and strings -/
def eqCells : List Ce → List D → List D → Option Bool
  | [], _, _ => some true
  | c :: cs, p, q => match c.toS, eqCells cs p.tail q.tail with
    | some (.int _), some r => some ((gd p 0).int == (gd q 0).int && r)
    | some .bool, some r => some ((gd p 0).bool == (gd q 0).bool && r)
    | some .str, some r => some ((gd p 0).str == (gd q 0).str && r)
    | _, _ => none
def isBoolT (P : Program) (t : TypeId) : Bool :=
  match P.underlying t with
  | some .bool => true
  | _ => false
def isStrT (P : Program) (t : TypeId) : Bool :=
  match P.underlying t with
  | some .string => true
  | _ => false
def evBin (tb : Bool) (op : BinOp) (a b : T) : Option (T × Bool) :=
  match a.sc, b.sc with
  | some (.int k, x), some (.int k', y) => bif k == k' then evInt op k x.int y.int else none
  | some (.bool, x), some (.bool, y) => bif tb then (match op with
    | .eql => some (.c (.d .bool) (.b (x.bool == y.bool)), true)
    | .neq => some (.c (.d .bool) (.b (!(x.bool == y.bool))), true)
    | _ => none) else none
  | some (.str, x), some (.str, y) => match op with
    | .eql => some (.c (.d .bool) (.b (x.str == y.str)), true)
    | .neq => some (.c (.d .bool) (.b (!(x.str == y.str))), true)
    | .add => some (.c (.d .str) (.s (x.str ++ y.str)), decide (x.str.length + y.str.length < 1099511627776))
    | _ => none
  | _, _ => none
def evUn (op : UnOp) (a : T) : Option T :=
  match op, a.sc with
  | .not, some (.bool, x) => some (.c (.d .bool) (.b (!x.bool)))
  | .neg, some (.int k, x) => some (.c (.d (.int k)) (.i (k.wrap (0 - x.int))))
  | _, _ => none
/-- a slice: its elements' type, its rows -/
def T.slice (v : T) : Option (Option Tok × TypeId × List (List D)) :=
  match v.sh with
  | .one (.c (.d (.sl e))) => some (none, e, (gd v.p 0).rows)
  | .one (.c (.own t x e)) => some (bif x then some t else none, e, (gd v.p 0).rows)
  | _ => none
/-- n cells from off on, as a value of the type -/
def cut (ag : Bool) (n off : Nat) (cs : List Ce) (ds : List D) : Option T :=
  bif Nat.ble (off + n) cs.length then
    (bif ag then some ⟨.one (.agg ((cs.drop off).take n)), sub ds off n⟩ else match cs[off]? with
      | some c => bif n == 1 then some (.c c (gd ds off)) else none
      | none => none)
  else none
def evLoad (P : Program) (t : TypeId) (σ : St) (a : T) : Option T :=
  match tAgg P t, tSize P t with
  | some ag, some n =>
    match a.sh with
    | .one (.c (.ptr id off)) => match hlook id σ.h with
      | some (cs, ds) => cut ag n off cs ds
      | none => none
    | .one (.c (.eptr _ e off)) => match rowOf P e with
      | some row => cut ag n off (row.map .d) (((gd ((gd a.p 0).rows.getD 0 []) 0).rows).getD (gd ((gd a.p 0).rows.getD 0 []) 1).int.toNat [])
      | none => none
    | .one (.c (.cptr cells off)) => cut ag n off (cells.map .d) ((gd a.p 0).rows.getD 0 [])
    | _ => none
  | _, _ => none
def addOff (a : T) (o : Nat) : Option T :=
  match a.sh with
  | .one (.c (.ptr id off)) => some (.c (.ptr id (off + o)) D0)
  | .one (.c (.eptr t e off)) => some (.c (.eptr t e (off + o)) (gd a.p 0))
  | .one (.c (.cptr cells off)) => some (.c (.cptr cells (off + o)) (gd a.p 0))
  | _ => none
def T.intOf (v : T) : Option Int :=
  match v.sc with
  | some (.int _, d) => some d.int
  | _ => none
def inRange (n : Int) (len : Nat) : Bool := decide (0 ≤ n) && decide (n < len)
def evIndexAddr (e : TypeId) (x i : T) : Option (T × Bool) :=
  match i.intOf, x.slice with
  | some n, some (t, e', rows) => bif e == e' then some (.c (.eptr t e 0) (.l [[.l rows, .i n]]), inRange n rows.length) else none
  | _, _ => none
def evLen (P : Program) (t : TypeId) (x : T) : Option T :=
  match x.sc with
  | some (.str, d) => bif isStrT P t then some (.c (.d (.int .i64)) (.i d.str.length)) else none
  | _ => match x.slice with
    | some (_, _, rows) => bif (tElem P t).isSome then some (.c (.d (.int .i64)) (.i rows.length)) else none
    | none => none
def bound (dflt : Int) : Option T → Option Int
  | none => some dflt
  | some v => v.intOf
def evSlice (P : Program) (t : TypeId) (x : T) (lo hi : Option T) : Option (T × Bool) :=
  match x.sc with
  | some (.str, d) => match bound 0 lo, bound d.str.length hi with
    | some l, some h => bif !isStrT P t then none else some (.c (.d .str) (.s ((d.str.take h.toNat).drop l.toNat)), decide (0 ≤ l) && decide (l ≤ h) && decide (h ≤ d.str.length))
    | _, _ => none
  | some (.sl e, d) => match bound 0 lo, bound d.rows.length hi with
    | some l, some h => bif !(tElem P t == some e) then none else some (.c (.d (.sl e)) (.l ((d.rows.take h.toNat).drop l.toNat)), decide (0 ≤ l) && decide (l ≤ h) && decide (h ≤ d.rows.length))
    | _, _ => none
  | _ => none

/-- what is handed to a callee -/
def capArg (σ : St) : Cap → D → Option (Cap × D)
  | .d s, d => some (.d s, d)
  | .cptr cells off, d => some (.cptr cells off, d)
  | .ptr id off, _ => match hlook id σ.h with
    | some (cs, ds) => match allS cs with
      | some ss => some (.cptr ss off, .l [toDs cs ds])
      | none => none
    | none => none
def capArgs (σ : St) : List Cap → List D → Option (List Cap × List D)
  | [], _ => some ([], [])
  | c :: cs, ds => match capArg σ c (gd ds 0), capArgs σ cs ds.tail with
    | some (d, x), some (ds, xs) => some (d :: ds, x :: xs)
    | _, _ => none
def Cap.ce : Cap → Ce
  | .d s => .d s
  | .ptr id off => .ptr id off
  | .cptr cells off => .cptr cells off
def arg (P : Program) (σ : St) (v : T) : Option T :=
  match v.sh with
  | .one (.c (.fn f caps)) => match capArgs σ caps ((gd v.p 0).rows.getD 0 []) with
    | some (cs, ds) => some (.c (.fn f cs) (.l [ds]))
    | none => none
  | .one (.c (.cptr cells off)) => some (.c (.cptr cells off) (gd v.p 0))
  | .one (.c (.ptr id off)) => match capArg σ (.ptr id off) D0 with
    | some (c, d) => some (.c c.ce d)
    | _ => none
  | .one (.c (.eptr _ e off)) => match rowOf P e with
    | some row => some (.c (.cptr row off) (.l [sub (((gd ((gd v.p 0).rows.getD 0 []) 0).rows).getD (gd ((gd v.p 0).rows.getD 0 []) 1).int.toNat []) 0 row.length]))
    | none => none
  | .one (.c x) => match x.toS with
    | some s => some (.c (.d s) (x.toD (gd v.p 0)))
    | none => none
  | .one (.agg xs) => match allS xs with
    | some ss => some ⟨.one (.agg (ss.map .d)), toDs xs v.p⟩
    | none => none
  | .tup _ => none
def evArgs (P : Program) (σ : St) : List T → Option (List T)
  | [] => some []
  | c :: cs => match arg P σ c, evArgs P σ cs with
    | some d, some ds => some (d :: ds)
    | _, _ => none
/-- a nil slice that is handed over as it stands: a row without cells -/
def nilT (P : Program) (x : Operand) (t : Option TypeId) : Option T :=
  match x, t with
  | .const (.slice none 0 0), some t => match tElem P t with
    | some e => bif (rowOf P e).isSome then some (.c (.own (0, 0) true e) (.l [])) else none
    | none => none
  | _, _ => none
def argN (P : Program) (σ : St) (x : Operand) (t : Option TypeId) : Option T :=
  match nilT P x t with
  | some t => some t
  | none => arg P σ (opd σ x)
def evArgsN (P : Program) (σ : St) : List Operand → List TypeId → Option (List T)
  | [], _ => some []
  | x :: xs, ts => match argN P σ x ts.head?, evArgsN P σ xs ts.tail with
    | some d, some ds => some (d :: ds)
    | _, _ => none
/-- the rows that a callee may read by what is handed to it -/
def capToks (σ : St) : List Cap → List Tok
  | [] => []
  | .ptr id _ :: cs => (match hlook id σ.h with | some (xs, _) => toks xs | none => []) ++ capToks σ cs
  | _ :: cs => capToks σ cs
def argToks (σ : St) (v : T) : List Tok :=
  match v.sh with
  | .one (.c (.fn _ caps)) => capToks σ caps
  | .one (.c (.ptr id off)) => capToks σ [.ptr id off]
  | .one (.c x) => Go.Proofs.YtchceahcaaibcaaGreat.toks [x]
  | .one (.agg xs) => Go.Proofs.YtchceahcaaibcaaGreat.toks xs
  | .tup _ => []
def capTs : List Cap → List D → List T
  | [], _ => []
  | c :: cs, ds => .c c.ce (gd ds 0) :: capTs cs ds.tail
def Ce.prim : Ce → Bool
  | .d (.sl _) => false
  | .d _ => true
  | .kb _ => true
  | _ => false
def Sh1.prim : Sh1 → Bool
  | .c x => x.prim
  | .agg xs => xs.all Ce.prim
def Sh.prim : Sh → Bool
  | .one x => x.prim
  | .tup xs => xs.all Sh1.prim
def retokC (d : Nat) : Ce → Ce
  | .own t x e => .own (d, t.2) x e
  | c => c

section
variable (P : Program)

def capOf (v : T) : Option (Cap × D) :=
  match v.sh with
  | .one (.c (.ptr id off)) => some (.ptr id off, D0)
  | .one (.c (.cptr cells off)) => some (.cptr cells off, gd v.p 0)
  | .one (.c (.d s)) => some (.d s, gd v.p 0)
  | _ => none
def capsOf (σ : St) : List Operand → Option (List Cap × List D)
  | [] => some ([], [])
  | x :: xs => match capOf (opd σ x), capsOf σ xs with
    | some (c, d), some (cs, ds) => some (c :: cs, d :: ds)
    | _, _ => none
/-- operations that only compute -/
def evQ (σ : St) (o : Oper) : Option (T × Bool) :=
  match o.op with
  | .move x | .assign x => some (opd σ x, true)
  | .pick c a b => match (opd σ c).sh, (opd σ a).sc, (opd σ b).sc with
    | .one (.c (.kb t)), _, _ => some (bif t then opd σ a else opd σ b, true)
    | .one (.c (.d .bool)), some (s, x), some (s', y) => bif s == s' then some (.c (.d s) (bif (gd (opd σ c).p 0).bool then x else y), true) else none
    | _, _, _ => none
  | .load t a => (evLoad P t σ (opd σ a)).map (·, true)
  | .fieldAddr t x i => match tField P t i with
    | some (off, ft) => match tSize P ft with
      | some (_ + 1) => (addOff (opd σ x) off).map (·, true)
      | _ => none
    | none => none
  | .field t x i => match tField P t i, (opd σ x).sh with
    | some (off, ft), .one (.agg cs) => match tAgg P ft, tSize P ft with
      | some ag, some n => (cut ag n off cs (opd σ x).p).map (·, true)
      | _, _ => none
    | _, _ => none
  | .indexAddr t x i => match tElem P t with
    | some e => evIndexAddr e (opd σ x) (opd σ i)
    | none => none
  | .index t x i => match (opd σ x).sc, (opd σ i).intOf with
    | some (.str, d), some n => bif !isStrT P t then none else some (.c (.d (.int .u8)) (.i ((d.str.getD n.toNat 0).toNat : Int)), inRange n d.str.length)
    | _, _ => none
  | .binOp op t x y _ => evBin (isBoolT P t) op (opd σ x) (opd σ y)
  | .unOp op _ x => (evUn op (opd σ x)).map (·, true)
  | .extract t i => match (opd σ t).sh with
    | .tup vs => match vs[i]? with
      | some x => some (⟨.one x, sub (opd σ t).p ((vs.take i).foldr (fun s n => s.size + n) 0) x.size⟩, true)
      | none => none
    | _ => none
  | .slice t x lo hi none => evSlice P t (opd σ x) (lo.map (opd σ)) (hi.map (opd σ))
  | .call { callee := .builtin .len, args := xs, argTypes := ts } => match xs.toList, ts.toList with
    | [x], [t] => (evLen P t (opd σ x)).map (·, true)
    | _, _ => none
  | .convert t' t x => match P.underlying t', P.underlying t, (opd σ x).sc with
    | some _, some (.int k), some (.int _, d) => some (.c (.d (.int k)) (.i (k.wrap d.int)), true)
    | some _, some .string, some (.str, d) => some (.c (.d .str) d, true)
    | _, _, _ => none
  | .makeFunc (.func f) first caps => bif first.isEmpty then (match capsOf σ caps.toList with
    | some (cs, ds) => some (.c (.fn f cs) (.l [ds]), true)
    | none => none) else none
  | _ => none

/-- rows out of the parts of a slice literal -/
def litRows (σ : St) (row : List S) : List (Nat × Operand) → Nat → Option (List (List D) × List Tok)
  | [], _ => some ([], [])
  | (i, x) :: r, k => bif i == k then (match (opd σ x).cells, litRows σ row r (k + 1) with
    | some (cs, ds), some (rows, ts) => bif allS cs == some row then some (toDs cs ds :: rows, toks cs ++ ts) else none
    | _, _ => none) else none
def setSub {α : Type} : List α → Nat → List α → List α
  | l, _, [] => l
  | l, i, x :: xs => setSub (l.set i x) (i + 1) xs
/-- cells of a struct literal -/
def litCells (t : TypeId) (σ : St) : List (Nat × Operand) → List Ce × List D → Option (List Ce × List D)
  | [], acc => some acc
  | (i, x) :: r, (cs, ds) => match tField P t i, (opd σ x).cells with
    | some (off, ft), some (cs', ds') => bif tSize P ft == some cs'.length && Nat.ble (off + cs'.length) cs.length then litCells t σ r (setSub cs off cs', setSub ds off ds') else none
    | _, _ => none

abbrev Stp := Option (St × Bool)
def evAlloc (σ : St) (d : Nat) (t : TypeId) : Stp :=
  match rowOf P t with
  | some row => bif !zeroOk P t row then none else some (St.put ⟨(σ.wipe d).r, (σ.wipe d).e, hput d (zeroC d 0 row, row.map zeroD) (σ.wipe d).h⟩ (some d) (.c (.ptr d 0) D0), true)
  | none => none
def evBox (σ : St) (d : Nat) (x : Operand) : Stp :=
  match (opd (σ.wipe d) x).cells with
  | some cs => some (St.put ⟨(σ.wipe d).r, (σ.wipe d).e, hput d cs (σ.wipe d).h⟩ (some d) (.c (.ptr d 0) D0), true)
  | none => none
def fieldsOk (t : TypeId) : Bool :=
  match P.underlying t with
  | some (.struct fs) => fs.toList.all fun f => (tSize P f.type).isSome
  | _ => false
def evBuild (σ : St) (d : Nat) (t : TypeId) (parts : List (Nat × Operand)) : Stp :=
  match rowOf P t with
  | some row => match litCells P t (σ.wipe d) parts (zeroC d 0 row, row.map zeroD) with
    | some (cs, ds) => bif !(zeroOk P t row && fieldsOk P t) then none else some ((σ.wipe d).put (some d) ⟨.one (.agg cs), ds⟩, true)
    | none => none
  | none => none
def evBuildSlice (σ : St) (d : Nat) (t : TypeId) (n : Nat) (parts : List (Nat × Operand)) : Stp :=
  match tElem P t with
  | some e => match rowOf P e with
    | some row => bif parts.length == n && decide (n * row.length ≤ 16777216) && zeroOk P e row then (match litRows σ row parts 0 with
      | some (rows, ts) => some (((σ.seal ts).wipe d).put (some d) (.c (.own (d, 0) true e) (.l rows)), true)
      | none => none) else none
    | none => none
  | none => none
def bytesOk (e : TypeId) : Bool :=
  match P.info? e with
  | some i => decide (i.bytes ≤ 16384)
  | none => false
def evMakeSlice (σ : St) (d : Nat) (t : TypeId) (n c : Operand) : Stp :=
  match tElem P t with
  | some e => match rowOf P e, (opd σ n).intOf, (opd σ c).intOf with
    | some row, some x, some y => some ((σ.wipe d).put (some d) (.c (.own (d, 0) true e) (.l (List.replicate x.toNat (row.map zeroD)))), decide (0 ≤ x) && decide (x = y) && decide (x ≤ 4294967296) && zeroOk P e row && bytesOk P e)
    | _, _, _ => none
  | none => none
def evStore (σ : St) (dst : Option Nat) (t : TypeId) (a x : Operand) : Stp :=
  match tSize P t, (opd σ x).cells with
  | some n, some (cs, ds) => bif cs.length == n then (match (opd σ a).sh with
    | .one (.c (.ptr id off)) => match hlook id σ.h with
      | some (cs', ds') => bif Nat.ble (off + n) cs'.length then some (St.put ⟨σ.r, σ.e, hput id (setSub cs' off cs, setSub ds' off ds) σ.h⟩ dst .none_, true) else none
      | none => none
    | .one (.c (.eptr (some s) e off)) => match rowOf P e, allS cs with
      | some row, some ss => bif ((row.drop off).take n) == ss && !(toks cs).contains s && Nat.ble 1 n && Nat.ble (off + n) row.length then
          (let pr := (gd (opd σ a).p 0).rows.getD 0 []
           let rows := (gd pr 0).rows
           let i := (gd pr 1).int.toNat
           some (St.put ((σ.seal (toks cs)).setRows s (rows.set i (setSub (sub (rows.getD i []) 0 row.length) off (toDs cs ds)))) dst .none_, true)) else none
      | _, _ => none
    | _ => none)
    else none
  | _, _ => none
def evNil (σ : St) (d : Nat) (t : TypeId) : Stp :=
  match tElem P t with
  | some e => bif (rowOf P e).isSome then some ((σ.wipe d).put (some d) (.c (.own (d, 0) true e) (.l [])), true) else none
  | none => none
def evAppend (σ : St) (d : Nat) (tt : TypeId) (x y : Operand) : Stp :=
  match (opd σ x).sh, (opd σ y).slice with
  | .one (.c (.own t b e)), some (_, e', rows') => bif e == e' && tElem P tt == some e && rowZero P e then
      some ((σ.map (dropC t)).put (some d) (.c (.own t b e) (.l ((gd (opd σ x).p 0).rows ++ rows'))), decide (((gd (opd σ x).p 0).rows ++ rows').length ≤ 4294967296) && bytesOk P e) else none
  | _, _ => none
def evPure (σ : St) (o : Oper) : Stp :=
  match evQ P σ o with
  | some (v, ok) => some (σ.put o.dst v, ok)
  | none => none

def Sh.isW : Sh → Bool
  | .tup [_] => true
  | _ => false
def resC : Ce → Bool
  | .d _ => true
  | .own t _ _ => t.1 == 0
  | _ => false
def Sh1.ces : Sh1 → List Ce
  | .c x => [x]
  | .agg xs => xs
def Sh.ces : Sh → List Ce
  | .one x => x.ces
  | .tup xs => xs.flatMap Sh1.ces
variable (call : FuncId → List T → Option (T × Bool))
def evCall (σ : St) (d : Nat) (f : Operand) (xs : List Operand) (tys : List TypeId) : Stp :=
  match (opd σ f).sh with
  | .one (.c (.fn g caps)) => match evArgsN P σ xs tys, capArgs σ caps ((gd (opd σ f).p 0).rows.getD 0 []) with
    | some vs, some (cs, ds) => match call g (vs ++ capTs cs ds) with
      | some (r, ok) => bif !r.sh.isW && r.sh.ces.all resC then some (((σ.seal (bif r.sh.prim then [] else (xs.map (opd σ)).flatMap (argToks σ) ++ capToks σ caps)).wipe d).put (some d) ⟨r.sh.map (retokC d), r.p⟩, ok) else none
      | none => none
    | _, _ => none
  | _ => none
/-- a call that writes into the own row that it is given: nothing comes back, the row is turned; or the same slice comes back, cut -/
def evW (σ : St) (dst : Option Nat) (f : Operand) (xs : List Operand) : Stp :=
  match (opd σ f).sh, xs with
  | .one (.c (.fn g [])), [.tmp i] => match (opd σ (.tmp i)).sh with
    | .one (.c (.own t true e)) => match call g [.c (.d (.sl e)) (gd (opd σ (.tmp i)).p 0)] with
      | some (r, ok) => bif rowOf P e == some [.int .i64] then (match r.sh with
        | .tup [.c _] => some ((σ.setRows t (gd r.p 0).rows).put dst .none_, ok)
        | .tup [.agg _] => some ((σ.map (dropC t)).put dst (.c (.own t true e) (gd r.p 0)), ok)
        | _ => none) else none
      | none => none
    | _ => none
  | _, _ => none
/-- without these calls -/
def noW (call : FuncId → List T → Option (T × Bool)) (f : FuncId) (args : List T) : Option (T × Bool) :=
  match call f args with
  | some (r, ok) => bif r.sh.isW then none else some (r, ok)
  | none => none
/-- all operations, in a region that draws no order -/
def evOp (σ : St) (o : Oper) : Stp :=
  match o.op, o.dst with
  | .alloc t, some d => evAlloc P σ d t
  | .box _ x, some d => evBox σ d x
  | .build t parts, some d => evBuild P σ d t parts.toList
  | .buildSlice t n parts, some d => evBuildSlice P σ d t n parts.toList
  | .makeSlice t n c, some d => evMakeSlice P σ d t n c
  | .store t a x, dst => evStore P σ dst t a x
  | .assign (.const (.slice none 0 0)), some d => evNil P σ d o.type
  | .call { callee := .builtin .append, args := xs, argTypes := ts }, some d => match xs.toList, ts.toList with
    | [x, y], [t, t'] => bif t == t' then evAppend P σ d t x y else none
    | _, _ => none
  | .call { callee := .value f, args := xs, argTypes := ts }, some d => match evW P call σ (some d) f xs.toList with
    | some r => some r
    | none => evCall P call σ d f xs.toList ts.toList
  | .makeInterface _ _, _ => some (σ, false)
  | .panic _, _ => some (σ, false)
  | _, _ => evPure P σ o

/-! ### code: continuations; a leaf tells what came of it -/
abbrev Dom := List (Nat × Sh) × List (Nat × List Ce)
/-- how a piece is left: 0 at its end, 1 by a return, id + 2 by an exit; and what it leaves. None: an index has left its slice -/
abbrev Out := Option (Nat × List D)
abbrev R := Option (Option Dom × Out)
def joinO (a b : Option Dom) : Option (Option Dom) :=
  match a, b with
  | none, b => some b
  | some a, none => some (some a)
  | some a, some b => bif a == b then some (some a) else none
def rcond (c : Bool) (a b : R) : R :=
  match a, b with
  | some (d1, o1), some (d2, o2) => match joinO d1 d2 with
    | some d => some (d, bif c then o1 else o2)
    | none => none
  | _, _ => none
def rneed (c : Bool) (a : R) : R :=
  match a with
  | some (k, o) => some (k, bif c then o else none)
  | none => none

/-- whether an operation runs: known, or to be asked -/
inductive Want where
  | yes
  | no
  | ask (t : Nat) (g : Bool) (b : Bool)
  | bad
def want (ops : Array Oper) (σ : St) (o : Oper) : Want :=
  match o.guard with
  | none => .yes
  | some (j, b) => match (ops[j]?).bind (·.dst) with
    | some t => match (look2 t σ.e σ.r).sh with
      | .one (.c (.kb c)) => bif c == b then .yes else .no
      | .one (.c (.d .bool)) => .ask t (gd (look2 t σ.e σ.r).p 0).bool b
      | .tup [] => .no
      | _ => .bad
    | none => .bad
def evYes (σ : St) (o : Oper) (k : St → R) : R :=
  match evOp P call σ o with
  | some (σ', ok) => rneed ok (k σ')
  | none => none
def evStepG (ops : Array Oper) (σ : St) (o : Oper) (y : St → R) (k : St → R) : R :=
  match want ops σ o with
  | .yes => y σ
  | .no => k (σ.put o.dst .none_)
  | .ask t g b => rcond g
      (bif b then y (σ.put (some t) (.c (.kb true) D0)) else k ((σ.put (some t) (.c (.kb true) D0)).put o.dst .none_))
      (bif b then k ((σ.put (some t) (.c (.kb false) D0)).put o.dst .none_) else y (σ.put (some t) (.c (.kb false) D0)))
  | .bad => none
def evStep (ops : Array Oper) (σ : St) (o : Oper) (k : St → R) : R := evStepG ops σ o (fun σ' => evYes P call σ' o k) k
def evYesQ (σ : St) (o : Oper) (k : St → R) : R :=
  match evPure P σ o with
  | some (σ', ok) => rneed ok (k σ')
  | none => none
def evOps (ops : Array Oper) : List Oper → St → (St → R) → R
  | [], σ, k => k σ
  | o :: rest, σ, k => evStep P call ops σ o fun σ' => evOps ops rest σ' k

/-! a region that draws its order -/
def isQ (o : Oper) : Bool :=
  match o.op with
  | .move _ | .pick .. | .load .. | .fieldAddr .. | .field .. | .indexAddr .. | .index .. | .binOp .. | .unOp .. | .extract .. | .slice .. | .convert .. | .makeFunc .. => true
  | .assign (.const (.slice none 0 0)) => false
  | .assign _ => true
  | .call { callee := .builtin .len, .. } => true
  | _ => false
def isC (o : Oper) : Bool :=
  match o.op with
  | .call { callee := .value _, .. } => true
  | _ => false
def isA (o : Oper) : Bool :=
  match o.op, o.dst with
  | .alloc _, some _ => true
  | _, _ => false
def isM (o : Oper) : Bool :=
  match o.op, o.dst with
  | .box .., some _ | .build .., some _ | .buildSlice .., some _ | .makeSlice .., some _ | .assign (.const (.slice none 0 0)), some _ => true
  | _, _ => false
def calm (o : Oper) : Bool := isQ o || isC o || isA o || isM o
/-- it may be taken first -/
def early (ops : Array Oper) (listed : Array Bool) (i : Nat) : Bool :=
  (match ops[i]? with
   | some o => isQ o
   | none => false) && Region.free .any ops listed i &&
  (List.range ops.size).all fun j => j == i || listed.getD j true || match ops[j]? with
    | some oj => calm oj || oj.after.any (fun e => Region.binds .any e && e.on == i)
    | none => true
def dstOk (ops : Array Oper) : Bool := (List.range ops.size).all fun i => (List.range ops.size).all fun j => i == j || match ops[i]?, ops[j]? with
  | some oi, some oj => oi.dst.isNone || oi.dst != oj.dst
  | _, _ => true
/-- a store into a box that this region makes -/
def storeTo (ops : Array Oper) (o : Oper) : Bool :=
  match o.op with
  | .store _ (.tmp d) _ => dstOk ops && o.after.any fun e => Region.binds .any e && match ops[e.on]? with
    | some o' => isA o' && o'.guard.isNone && o'.dst == some d
    | none => false
  | _ => false
def onlyQ (ops : Array Oper) (listed : Array Bool) : Bool := (List.range ops.size).all fun j => !(listed.getD j true) || match ops[j]? with
  | some o => isQ o
  | none => true
/-- it may be taken first, ahead of stores into the region's own boxes: nothing but computing has been done -/
def early0 (ops : Array Oper) (listed : Array Bool) (i : Nat) : Bool :=
  (match ops[i]? with
   | some o => isQ o
   | none => false) && Region.free .any ops listed i && onlyQ ops listed &&
  (List.range ops.size).all fun j => j == i || listed.getD j true || match ops[j]? with
    | some oj => calm oj || storeTo ops oj || oj.after.any (fun e => Region.binds .any e && e.on == i)
    | none => true
/-- two boxes may be made in either order -/
def pairOk (ops : Array Oper) (listed : Array Bool) (j k : Nat) : Bool :=
  match ops[j]?, ops[k]? with
  | some oj, some ok => isA oj && isA ok && oj.guard.isNone && ok.guard.isNone && oj.dst != ok.dst && Region.ready .any ops (listed.setIfInBounds j true) == [k] && Region.ready .any ops (listed.setIfInBounds k true) == [j]
  | _, _ => false
def consO (q : Nat × Bool) (o : Option (List (Nat × Bool))) : Option (List (Nat × Bool)) :=
  match o with
  | some l => some (q :: l)
  | none => none
def plan (ops : Array Oper) : Nat → Array Bool → Option (List (Nat × Bool))
  | 0, listed => match Region.ready .any ops listed with
    | [] => some []
    | _ :: _ => none
  | n + 1, listed => match Region.ready .any ops listed with
    | [] => some []
    | j :: r => match (j :: r).find? (fun i => early ops listed i || early0 ops listed i) with
      | some i => consO (i, true) (plan ops n (listed.setIfInBounds i true))
      | none => match r with
        | [] => consO (j, false) (plan ops n (listed.setIfInBounds j true))
        | [k] => bif pairOk ops listed j k then consO (j, false) (plan ops n (listed.setIfInBounds j true)) else none
        | _ :: _ :: _ => none
def evPlan (ops : Array Oper) : List (Nat × Bool) → St → (St → R) → R
  | [], σ, k => k σ
  | (i, q) :: rest, σ, k => match ops[i]? with
    | some o => evStepG ops σ o (fun σ' => bif q then evYesQ P σ' o (fun τ => evPlan ops rest τ k) else evYes P call σ' o (fun τ => evPlan ops rest τ k)) (fun τ => evPlan ops rest τ k)
    | none => none
/-- in straight order, without a question -/
def evS (ops : Array Oper) : List (Nat × Bool) → St → Option (St × Bool)
  | [], σ => some (σ, true)
  | (i, q) :: rest, σ => match ops[i]? with
    | some o => match want ops σ o with
      | .yes => match (bif q then evPure P σ o else evOp P call σ o) with
        | some (σ', ok) => match evS ops rest σ' with
          | some (τ, ok') => some (τ, ok && ok')
          | none => none
        | none => none
      | .no => evS ops rest (σ.put o.dst .none_)
      | _ => none
    | none => none
/-- all orders -/
def consAll (q : Nat × Bool) (o : Option (List (List (Nat × Bool)))) : Option (List (List (Nat × Bool))) :=
  match o with
  | some [] => none
  | some (l :: ls) => some ((l :: ls).map (q :: ·))
  | none => none
def appAll (a b : Option (List (List (Nat × Bool)))) : Option (List (List (Nat × Bool))) :=
  match a, b with
  | some x, some y => some (x ++ y)
  | _, _ => none
def orders (ops : Array Oper) : Nat → Array Bool → Option (List (List (Nat × Bool)))
  | 0, listed => match Region.ready .any ops listed with
    | [] => some [[]]
    | _ :: _ => none
  | n + 1, listed => match Region.ready .any ops listed with
    | [] => some [[]]
    | j :: r => match (j :: r).find? (fun i => early ops listed i || early0 ops listed i) with
      | some i => consAll (i, true) (orders ops n (listed.setIfInBounds i true))
      | none => (j :: r).foldr (fun i acc => appAll (consAll (i, false) (orders ops n (listed.setIfInBounds i true))) acc) (some [])
def allTmps (σ τ : St) : List Nat := ((σ.r.map (·.1) ++ σ.e.map (·.1)) ++ (τ.r.map (·.1) ++ τ.e.map (·.1))).eraseDups
def allBoxes (σ τ : St) : List Nat := (σ.h.map (·.1) ++ τ.h.map (·.1)).eraseDups
def sameSh (σ τ : St) : Bool :=
  (allTmps σ τ).all (fun i => (look2 i σ.e σ.r).sh == (look2 i τ.e τ.r).sh) &&
  (allBoxes σ τ).all fun i => (hlook i σ.h).map (·.1) == (hlook i τ.h).map (·.1)
def pays (σ τ : St) : List (List D) :=
  (allTmps σ τ).map (fun i => (look2 i σ.e σ.r).p) ++ (allBoxes σ τ).map fun i => ((hlook i σ.h).getD ([], [])).2
/-- at the same places, what τ holds -/
def paysAs (σ τ : St) : List (List D) :=
  (allTmps σ τ).map (fun i => (look2 i τ.e τ.r).p) ++ (allBoxes σ τ).map fun i => ((hlook i τ.h).getD ([], [])).2
noncomputable def sameP (a b : List (List D)) : Bool := @decide (a = b) (Classical.propDecidable _)
noncomputable def evRest (ops : Array Oper) (σ σ0 : St) : List (List (Nat × Bool)) → R → R
  | [], r => r
  | l :: ls, r => match evS P call ops l σ with
    | some (τ, ok) => bif sameSh σ0 τ then rneed (ok && sameP (pays σ0 τ) (paysAs σ0 τ)) (evRest ops σ σ0 ls r) else none
    | none => none
noncomputable def evAll (ops : Array Oper) (σ : St) (k : St → R) : List (List (Nat × Bool)) → R
  | [] => none
  | l :: ls => match evS P call ops l σ with
    | some (σ0, ok) => rneed ok (evRest P call ops σ σ0 ls (k σ0))
    | none => none
/-- it reads no memory -/
def noMem (o : Oper) : Bool :=
  match o.op with
  | .move _ | .pick .. | .fieldAddr .. | .field .. | .indexAddr .. | .index .. | .binOp .. | .unOp .. | .extract .. | .slice .. | .convert .. | .makeFunc .. => true
  | .call { callee := .builtin .len, .. } => true
  | _ => false
def memless (ops : Array Oper) : Bool := ops.toList.all fun o => noMem o || isC o
noncomputable def evDraw (ops : Array Oper) (σ : St) (k : St → R) : R :=
  bif Region.noSelect ops && P.follows .mixedOrders then (match plan ops ops.size (Array.replicate ops.size false) with
    | some l => bif memless ops then evPlan P call ops l σ k else evPlan P (noW call) ops l σ k
    | none => match orders ops ops.size (Array.replicate ops.size false) with
      | some ls => evAll P (noW call) ops σ k ls
      | none => none) else none

def restrictE (dom : List Nat) (e : Env) : Env := dom.map fun i => (i, look i e)
def St.restrict (σ₀ σ : St) : St := ⟨[], (σ₀.e.map (·.1)).map fun i => (i, look2 i σ.e σ.r), σ.h.filter fun p => (σ₀.h.map (·.1)).contains p.1⟩
def St.dom (σ : St) : Dom := (σ.e.map fun p => (p.1, p.2.sh), σ.h.map fun p => (p.1, p.2.1))
def Sh.size : Sh → Nat
  | .one x => x.size
  | .tup xs => xs.foldr (fun s n => s.size + n) 0
def St.flat (σ : St) : List D := (σ.e.flatMap fun p => sub p.2.p 0 p.2.sh.size) ++ (σ.h.flatMap fun p => sub p.2.2 0 p.2.1.length)
def mkE : List (Nat × Sh) → List D → Nat → Env × Nat
  | [], _, o => ([], o)
  | (i, s) :: r, p, o => ((i, ⟨s, sub p o s.size⟩) :: (mkE r p (o + s.size)).1, (mkE r p (o + s.size)).2)
def mkH : List (Nat × List Ce) → List D → Nat → Boxes
  | [], _, _ => []
  | (i, cs) :: r, p, o => (i, cs, sub p o cs.length) :: mkH r p (o + cs.length)
def mkSt (d : Dom) (p : List D) : St := ⟨[], (mkE d.1 p 0).1, mkH d.2 p (mkE d.1 p 0).2⟩

def stepOut : R → Out
  | some (_, o) => o
  | none => none
/-- n rounds at most -/
def iter (step : List D → Out) : Nat → List D → Out
  | 0, _ => none
  | n + 1, p => match step p with
    | some (0, p') => iter step n p'
    | o => o
def exitsOf : Code → List Nat
  | .exit id => [id]
  | .seq a b => exitsOf a ++ exitsOf b
  | .cond _ a b => exitsOf a ++ exitsOf b
  | .block id c => (exitsOf c).filter (· != id)
  | .loop c => exitsOf c
  | .scope c => exitsOf c
  | _ => []
def restrictD (d : Dom) (σ : St) : St := ⟨[], restrictE (d.1.map (·.1)) σ.e, σ.h.filter fun p => (d.2.map (·.1)).contains p.1⟩
def leaf (d : Dom) (code : Nat) (σ : St) : R :=
  bif (restrictD d σ).dom == d && σ.r.isEmpty then some (some d, some (code, (restrictD d σ).flat)) else none
def retLeaf (x : Option (List D)) : R :=
  match x with
  | some p => some (none, some (1, p))
  | none => none
def Out.code (o : Out) : Nat := (o.getD (0, [])).1
def Out.pay (o : Out) : List D := (o.getD (0, [])).2
/-- where a loop is left: by the ids of its exits; 1 is a return -/
def leave (ids : List Nat) (o : Out) (σ : St) (kx : Nat → St → R) : R :=
  match ids with
  | [] => none
  | [j] => rneed (o.code == j + 2) (kx j σ)
  | j :: r => rcond (o.code == j + 2) (kx j σ) (leave r o σ kx)

def hasRet : Code → Bool
  | .ret => true
  | .seq a b => hasRet a || hasRet b
  | .cond _ a b => hasRet a || hasRet b
  | .block _ c => hasRet c
  | .loop c => hasRet c
  | .scope c => hasRet c
  | _ => false
/-- what is dropped ahead of a loop: the numbers of ks from 1000000 on -/
def isLoopC : Code → Bool
  | .loop _ => true
  | _ => false
def dropsOf : List Nat → List Nat
  | [] => []
  | k :: r => bif Nat.ble 1000000 k then (k - 1000000) :: dropsOf r else dropsOf r
def dropAll : List Nat → Env → Env
  | [], e => e
  | i :: r, e => edrop i (dropAll r e)
def St.shed (ks : List Nat) (c : Code) (σ : St) : St := bif isLoopC c then ⟨σ.r, dropAll (dropsOf ks) σ.e, σ.h⟩ else σ
def St.cut (ks : List Nat) (σ : St) : St := ⟨σ.r, dropAll (dropsOf ks) σ.e, σ.h⟩
section
variable (ks : List Nat)
/-- what stands at the head of the loop in block id -/
def r0 : R := some (none, none)
/-- the first way that gets there -/
def firstR (a b : R) : R :=
  match a with
  | some (some d, o) => some (some d, o)
  | _ => b
/-- a truth that is known becomes one that may be asked -/
def wideC : Ce → Ce
  | .kb _ => .d .bool
  | c => c
def wideD : Ce → D → D
  | .kb b, _ => .b b
  | _, x => x
def wideDs : List Ce → List D → Nat → List D
  | [], _, _ => []
  | c :: cs, ds, i => wideD c (gd ds i) :: wideDs cs ds (i + 1)
def T.wide (v : T) : T :=
  match v.sh with
  | .one (.c c) => ⟨.one (.c (wideC c)), [wideD c (gd v.p 0)]⟩
  | .one (.agg cs) => ⟨.one (.agg (cs.map wideC)), wideDs cs v.p 0⟩
  | .tup _ => v
def St.wide (σ : St) : St := ⟨σ.r, σ.e.map fun p => (p.1, p.2.wide), σ.h.map fun p => (p.1, p.2.1.map wideC, wideDs p.2.1 p.2.2 0)⟩
def jwide (σ : St) : R := some (some σ.wide.dom, none)
def jdom (σ σ' : St) : R := some (some (σ.restrict σ').dom, none)
/-- a block whose ways are brought together: its end, its exits, a return -/
def joinOut (rets : Bool) (ids : List Nat) (o : Out) (τ : St) (kn : St → R) (kx : Nat → St → R) (kr : Option (List D) → R) : R :=
  match ids, rets with
  | [], false => rneed (o.code == 0) (kn τ)
  | [], true => rcond (o.code == 0) (kn τ) (rneed (o.code == 1) (kr (some o.pay)))
  | i :: is, false => rcond (o.code == 0) (kn τ) (leave (i :: is) o τ kx)
  | i :: is, true => rcond (o.code == 0) (kn τ) (rcond (o.code == 1) (kr (some o.pay)) (leave (i :: is) o τ kx))
def joinsOf : List Nat → List Nat
  | [] => []
  | k :: r => bif Nat.ble 2000000 k then (k - 2000000) :: joinsOf r else joinsOf r
noncomputable def findD (id : Nat) : Code → St → (St → R) → (Nat → St → R) → R
  | .skip, σ, kn, _ => kn σ
  | .region id ops draw, σ, kn, _ =>
    bif (joinsOf ks).contains (1000000 + id) then
      match (bif draw then evDraw P call ops (σ.cut ks) (fun σ' => jwide (σ'.settle ks)) else evOps P call ops ops.toList (σ.cut ks) fun σ' => jwide (σ'.settle ks)) with
      | some (some d, _) => kn (mkSt d [])
      | _ => none
    else bif draw then evDraw P call ops (σ.cut ks) (fun σ' => kn (σ'.settle ks)) else evOps P call ops ops.toList (σ.cut ks) fun σ' => kn (σ'.settle ks)
  | .seq a b, σ, kn, kx => findD id a σ (fun σ' => findD id b σ' kn kx) kx
  | .cond c a b, σ, kn, kx => match (opd σ c).sh with
    | .one (.c (.kb t)) => bif t then findD id a σ kn kx else findD id b σ kn kx
    | .one (.c (.d .bool)) => firstR (findD id a σ kn kx) (findD id b σ kn kx)
    | _ => none
  | .block j c, σ, kn, kx => bif j == id then some (some (σ.shed ks c).dom, none) else findD id c (σ.shed ks c) (fun σ' => kn ((σ.shed ks c).restrict σ')) (fun i σ' => bif i == j then kn ((σ.shed ks c).restrict σ') else kx i σ')
  | .loop b, σ, _, kx => firstR (findD id b (mkSt σ.dom σ.flat) (fun _ => r0) (fun _ _ => r0)) (match exitsOf b with
    | [] => r0
    | j :: _ => kx j (mkSt σ.dom σ.flat))
  | .scope c, σ, kn, kx => findD id c σ kn kx
  | .exit j, σ, _, kx => kx j σ
  | .ret, _, _, _ => r0
  | _, _, _, _ => none
end
variable (N : Nat) (ks : List Nat) (fin : St → Option (List D))
noncomputable def evCode : Code → St → (St → R) → (Nat → St → R) → (Option (List D) → R) → R
  | .skip, σ, kn, _, _ => kn σ
  | .region id ops draw, σ, kn, _, _ =>
    bif (joinsOf ks).contains (1000000 + id) then
      match (bif draw then evDraw P call ops (σ.cut ks) (fun σ' => jwide (σ'.settle ks)) else evOps P call ops ops.toList (σ.cut ks) fun σ' => jwide (σ'.settle ks)) with
      | some (some d, _) =>
        match (bif draw then evDraw P call ops (σ.cut ks) (fun σ' => leaf d 0 (σ'.settle ks).wide) else evOps P call ops ops.toList (σ.cut ks) fun σ' => leaf d 0 (σ'.settle ks).wide) with
        | some (_, o) => rneed o.isSome (kn (mkSt d o.pay))
        | none => none
      | _ => none
    else bif draw then evDraw P call ops (σ.cut ks) (fun σ' => kn (σ'.settle ks)) else evOps P call ops ops.toList (σ.cut ks) fun σ' => kn (σ'.settle ks)
  | .seq a b, σ, kn, kx, kr => evCode a σ (fun σ' => evCode b σ' kn kx kr) kx kr
  | .cond c a b, σ, kn, kx, kr => match (opd σ c).sh with
    | .one (.c (.kb t)) => bif t then evCode a σ kn kx kr else evCode b σ kn kx kr
    | .one (.c (.d .bool)) => rcond (gd (opd σ c).p 0).bool (evCode a σ kn kx kr) (evCode b σ kn kx kr)
    | _ => none
  | .block id c, σ, kn, kx, kr =>
    bif (joinsOf ks).contains id then
      match findD P call ks 999999 c σ (jdom σ) (fun j σ' => bif j == id then jdom σ σ' else r0) with
      | some (some d, _) =>
        match evCode c σ (leaf d 0) (fun j => bif j == id then leaf d 0 else leaf d (j + 2)) retLeaf with
        | some (_, o) => rneed o.isSome (joinOut (hasRet c) ((exitsOf c).filter (· != id)).eraseDups o (mkSt d o.pay) kn kx kr)
        | none => none
      | _ => none
    else evCode c (σ.shed ks c) (fun σ' => kn ((σ.shed ks c).restrict σ')) (fun j σ' => bif j == id then kn ((σ.shed ks c).restrict σ') else kx j σ') kr
  | .loop c, σ, _, kx, kr =>
    bif !σ.r.isEmpty then none else
    match evCode c (mkSt σ.dom σ.flat) (leaf σ.dom 0) (fun j => leaf σ.dom (j + 2)) retLeaf with
    | some _ =>
      let o := iter (fun p => stepOut (evCode c (mkSt σ.dom p) (leaf σ.dom 0) (fun j => leaf σ.dom (j + 2)) retLeaf)) N σ.flat
      let out := leave (exitsOf c).eraseDups o (mkSt σ.dom o.pay) kx
      rneed o.isSome (bif hasRet c then (match exitsOf c with
        | [] => rneed (o.code == 1) (kr (some o.pay))
        | _ => rcond (o.code == 1) (kr (some o.pay)) out) else out)
    | none => none
  | .exit id, σ, _, kx, _ => kx id σ
  | .ret, σ, _, _, kr => kr (fin σ)
  | _, _, _, _, _ => none

/-- a round of a loop -/
noncomputable def stepAt (c : Code) (d : Dom) (p : List D) : Out := stepOut (evCode P call N ks fin c (mkSt d p) (leaf d 0) (fun j => leaf d (j + 2)) retLeaf)
def orElse (a b : Option Code) : Option Code :=
  match a with
  | some c => some c
  | none => b
def loopAt (id : Nat) : Code → Option Code
  | .seq a b => orElse (loopAt id a) (loopAt id b)
  | .cond _ a b => orElse (loopAt id a) (loopAt id b)
  | .block j c => bif j == id then (match c with | .loop b => some b | _ => none) else loopAt id c
  | .loop c => loopAt id c
  | .scope c => loopAt id c
  | _ => none

/-- a function's results, out of the state at its end: whose rows are its own is said by their place -/
def results1 (σ : St) : List ResultVar → Option (List Sh1 × List D)
  | [] => some ([], [])
  | r :: rs =>
    let v : Option T := match r with
      | .tmp t => some (look2 t σ.e σ.r)
      | .cell a t => evLoad P t σ (look2 a σ.e σ.r)
    match v, results1 σ rs with
    | some v, some (shs, p) => match v.sh with
      | .one (.c (.kb b)) => some (.c (.d .bool) :: shs, .b b :: p)
      | .one x => some (x :: shs, sub v.p 0 x.size ++ p)
      | .tup _ => none
    | _, _ => none
def Sh.list : Sh → List Sh1
  | .one x => [x]
  | .tup xs => xs
/-- the rows that a result does not hand out as the caller's own -/
def lend : List Ce → List Ce → List Tok
  | .own t true _ :: cs, .own _ true _ :: rs => lend cs rs
  | .own t _ _ :: cs, _ :: rs => t :: lend cs rs
  | _ :: cs, _ :: rs => lend cs rs
  | _, _ => []
def given : List Ce → List Ce → List (Tok × Tok)
  | .own t _ _ :: cs, .own t' _ _ :: rs => (t, t') :: given cs rs
  | _ :: cs, _ :: rs => given cs rs
  | _, _ => []
def nodupB : List Tok → Bool
  | [] => true
  | t :: ts => !ts.contains t && nodupB ts
def fitC (c r : Ce) : Bool :=
  match c, r with
  | .d s, .d s' => s == s'
  | .own _ x e, .own t' x' e' => x == x' && e == e' && t'.1 == 0
  | .own _ false e, .d (.sl e') => e == e'
  | _, _ => false
def fitCs : List Ce → List Ce → Bool
  | [], [] => true
  | c :: cs, r :: rs => fitC c r && fitCs cs rs
  | _, _ => false
def fit1 : Sh1 → Sh1 → Bool
  | .c x, .c y => fitC x y
  | .agg xs, .agg ys => fitCs xs ys
  | _, _ => false
def fit : List Sh1 → List Sh1 → Bool
  | [], [] => true
  | x :: xs, y :: ys => fit1 x y && fit xs ys
  | _, _ => false
/-- the results as cells -/
def outCes (xs : List Sh1) : List Ce := xs.flatMap Sh1.ces
def Sh.tupOk : Sh → Bool
  | .one _ => true
  | .tup xs => xs.length != 1
def finish (fn : Func) (rs : Sh) (σ : St) : Option (List D) :=
  match results1 P σ fn.results.toList with
  | some (shs, p) =>
    bif fit (shs.map (Sh1.map (sealC (lend (outCes shs) (outCes rs.list))))) rs.list && nodupB ((given (outCes shs) (outCes rs.list)).map (·.1)) && nodupB ((given (outCes shs) (outCes rs.list)).map (·.2)) && rs.tupOk then some p else none
  | none => none
def startAt : Nat → List T → Env
  | _, [] => []
  | i, v :: vs => (i, v) :: startAt (i + 1) vs
def start (args : List T) : St := ⟨[], startAt 0 args, []⟩
/-- every operation writes into a temporary below n -/
def dstsOk (n : Nat) : Code → Bool
  | .region _ ops _ => ops.toList.all fun o => match o.dst with | some d => Nat.blt d n | none => true
  | .seq a b => dstsOk n a && dstsOk n b
  | .cond _ a b => dstsOk n a && dstsOk n b
  | .block _ c => dstsOk n c
  | .loop c => dstsOk n c
  | .scope c => dstsOk n c
  | _ => true
/-- the call of a function -/
noncomputable def evFn (fn : Func) (rs : Sh) (args : List T) : R :=
  match fn.body with
  | some c => bif dstsOk fn.ntmps c && Nat.ble args.length fn.ntmps then
      evCode P call N ks (finish P fn rs) c (start args) (fun σ => retLeaf (finish P fn rs σ)) (fun _ _ => none) retLeaf
      else none
  | none => none
/-- a round of the loop in block id of a function -/
noncomputable def loopOf (fn : Func) (rs : Sh) (args : List T) (id : Nat) : List D → Out :=
  match fn.body with
  | some c => match findD P call ks id c (start args) (fun _ => r0) (fun _ _ => r0), loopAt id c with
    | some (some d, _), some b => stepAt P call N ks (finish P fn rs) b d
    | _, _ => fun _ => none
  | none => fun _ => none
end
end Go.Proofs.YtchceahcaaibcaaGreat
