/-
  Texts of the proof,put together: part 7.
-/
import Derived.Test.YtchceahcaaibcaaGreatJV1
import Derived.Test.YtchceahcaaibcaaGreatJV2
import Derived.Test.YtchceahcaaibcaaGreatJV3
import Derived.Test.YtchceahcaaibcaaGreatJV4
import Derived.Test.YtchceahcaaibcaaGreatJV5
import Derived.Test.YtchceahcaaibcaaGreatJV6
import Derived.Deep.Slices
import Derived.Deep.Fields
import Derived.OpenShut
namespace Go.Proofs.YtchceahcaaibcaaGreat
set_option linter.unusedSimpArgs false
open Go.ChangeShapes Go.WideShapes Go.ChangeAt Go.RowKit Go.Deep
set_option linter.unusedVariables false

/-- all the cells that are there -/
def prot0 (w:World) (b:Nat):Nat:=
  match w.heap[b]? with
  | some (.cells arr _ _)=>arr.size
  | _=>0
theorem prot0_cell {w:World} {b o:Nat} {u:Value} (h:w.cell? ⟨b,o,none⟩=some u):o<prot0 w b:=by
  unfold World.cell? at h
  simp only at h
  unfold prot0
  cases hb:w.heap[b]? with
  | none=>rw [hb] at h; cases h
  | some x =>
    rw [hb] at h
    cases x with
    | cells arr t f =>
      simp only at h ⊢
      exact (Array.getElem?_eq_some_iff.1 h).1
    | _=>simp at h
theorem prot0_fresh {w:World} {b:Nat} (h:w.heap.size≤b):prot0 w b=0:=by
  unfold prot0
  rw [Array.getElem?_eq_none h]

/-- the cells of a struct are those of its fields, a slice's elements have a row -/
def coverB (P:Program) (row:List S) (fs:Array Field):Bool:=
  (List.range row.length).all fun j=>(List.range fs.size).any fun i=>match fs[i]? with
    | some f=>match rowOf P f.type with
      | some rf=>decide (f.offset≤j)&&decide (j<f.offset+rf.length)&&rf.length==P.cellsOf f.type&&rf[j - f.offset]?==row[j]?
      | none=>false
    | none=>false
def layB (P:Program):Nat→TypeId→Bool
  | 0,_=>false
  | n+1,T=>match P.underlying T,rowOf P T with
    | some (.int k),some row=>row == [.int k]
    | some .bool,some row=>row == [.bool]
    | some .string,some row=>row == [.str]
    | some (.slice e),some row=>row == [.sl e]&&(match rowOf P e with | some re=>P.cellsOf e==re.length && !re.isEmpty&&layB P n e | none=>false)
    | some (.struct fs),some row=>coverB P row fs&&P.cellsOf T==row.length&&fs.toList.all fun f=>layB P n f.type
    | _,_=>false

theorem choose_pay {Q:Nat→D→Prop} (n:Nat) (h : ∀ i,i<n → ∃ x,Q i x) : ∃ l:List D,l.length=n ∧ ∀ i,i<n→Q i (gd l i):=by
  induction n with
  | zero=>exact ⟨[],rfl,fun i hi=>by omega⟩
  | succ n ih =>
    obtain ⟨l,hl,hq⟩:=ih (fun i hi=>h i (by omega))
    obtain ⟨x,hx⟩:=h n (by omega)
    refine ⟨l ++ [x],by simp [hl],fun i hi => ?_⟩
    by_cases hin:i<n
    · have:gd (l ++ [x]) i=gd l i:=by
        simp only [gd,List.getD_eq_getElem?_getD]
        rw [List.getElem?_append_left (by omega)]
      rw [this]; exact hq i hin
    · obtain rfl:i=n:=by omega
      have:gd (l ++ [x]) i=x:=by
        simp only [gd,List.getD_eq_getElem?_getD]
        rw [List.getElem?_append_right (by omega),hl]
        simp
      rw [this]; exact hx
theorem choose_rows {Q:Nat→List D→Prop} (n:Nat) (h : ∀ i,i<n → ∃ x,Q i x) : ∃ l:List (List D),l.length=n ∧ ∀ i,i<n→Q i (l.getD i []):=by
  induction n with
  | zero=>exact ⟨[],rfl,fun i hi=>by omega⟩
  | succ n ih =>
    obtain ⟨l,hl,hq⟩:=ih (fun i hi=>h i (by omega))
    obtain ⟨x,hx⟩:=h n (by omega)
    refine ⟨l ++ [x],by simp [hl],fun i hi => ?_⟩
    by_cases hin:i<n
    · rw [List.getD_eq_getElem?_getD,List.getElem?_append_left (by omega),← List.getD_eq_getElem?_getD]; exact hq i hin
    · obtain rfl:i=n:=by omega
      rw [List.getD_eq_getElem?_getD,List.getElem?_append_right (by omega),hl]
      simpa using hx
theorem spot_none' {w:World} {a:Addr} {v:Value} (h:w.cell? a=some v):a=⟨a.block,a.off,none⟩:=by
  cases hs:a.spot with
  | none=>cases a; simp at hs; subst hs; rfl
  | some s =>
    unfold World.cell? at h
    rw [hs] at h
    simp at h
    split at h <;> simp at h

theorem add_mk' {b o i:Nat}:(⟨b,o,none⟩:Addr).add i=⟨b,o+i,none⟩:=by
  unfold Addr.add
  split
  · rename_i h; rw [h]; rfl
  · rfl
theorem trod_vd {H:Type} {enc:TypeId × Value→H} {P:Program} {W:World} {base:Nat} {spare:Nat→Bool} {held:Bool} : ∀ (n:Nat) (T:TypeId) (row:List S),layB P n T=true→rowOf P T=some row →
    ∀ (fuel:Nat) (cs:List Value) (y:DataW H × List MemPlace),DataW.trod enc P W base spare held fuel T cs=some y →
    ∃ p:List D,cs.length=row.length ∧ ∀ j s,row[j]?=some s → ∃ u,cs[j]?=some u∧VD P W (prot0 W) s (gd p j) u
  | 0,T,row,hl,_,_,_,_,_=>by cases hl
  | n+1,T,row,hl,hrow,fuel,cs,y,h=>by
    rw [layB,hrow] at hl
    split at hl
    · rename_i k row' hu hr'
      injection hr' with hr'; subst hr'
      have hl:row = [.int k]:=by simpa using hl
      subst hl
      obtain ⟨a,e,_,_⟩:=DataW.trod_int hu h
      subst e
      refine ⟨[.i a],rfl,fun j s hs => ?_⟩
      match j,hs with
      | 0,hs=>injection hs with hs; subst hs; exact ⟨_,rfl,.int k (.i a)⟩
    · rename_i row' hu hr'
      injection hr' with hr'; subst hr'
      have hl:row = [.bool]:=by simpa using hl
      subst hl
      obtain ⟨a,e,_⟩:=DataW.trod_bool hu h
      subst e
      refine ⟨[.b a],rfl,fun j s hs => ?_⟩
      match j,hs with
      | 0,hs=>injection hs with hs; subst hs; exact ⟨_,rfl,.bool (.b a)⟩
    · rename_i row' hu hr'
      injection hr' with hr'; subst hr'
      have hl:row = [.str]:=by simpa using hl
      subst hl
      obtain ⟨a,e,_⟩:=DataW.trod_string hu h
      subst e
      refine ⟨[.s (byteList a)],rfl,fun j s hs => ?_⟩
      match j,hs with
      | 0,hs =>
        injection hs with hs; subst hs
        have:=VD.str (P:=P) (w:=W) (prot:=prot0 W) (.s (byteList a))
        rw [str_s,bsv_byteList] at this
        exact ⟨_,rfl,this⟩
    · rename_i e row' hu hr'
      injection hr' with hr'; subst hr'
      simp only [Bool.and_eq_true] at hl
      obtain ⟨hl0,hl⟩:=hl
      have hl0:row = [.sl e]:=by simpa using hl0
      subst hl0
      split at hl
      · rename_i re hre
        simp only [Bool.and_eq_true,beq_iff_eq,Bool.not_eq_true'] at hl
        obtain ⟨⟨hc,hne⟩,hle⟩:=hl
        have hpos:0<re.length:=by cases re with | nil=>cases hne | cons=>simp
        rcases open_slice hu h with ⟨rfl,_⟩ | ⟨a,len,cap,m,nn,Dd,Pl,rfl,hb,hlc,hm,hmm,hx,hi⟩
        · refine ⟨[.l []],rfl,fun j s hs => ?_⟩
          match j,hs with
          | 0,hs=>injection hs with hs; subst hs; exact ⟨_,rfl,.sl e (.l []) none 0 re (fun _ _=>undef) hre (Nat.zero_le _) (by omega) (fun i j hi=>absurd hi (Nat.not_lt_zero _)) (fun i j s hi=>absurd hi (Nat.not_lt_zero _))⟩
        · have hlm:len≤m:=by rw [hmm]; split <;> omega
          have ha:0<len→a=⟨a.block,a.off,none⟩:=by
            intro h0
            obtain ⟨cs0,hc0,_⟩:=hi 0 (by omega)
            rw [hc] at hc0
            obtain ⟨_,hcl0,hat0⟩:=World.cells?_some hc0
            have h00:=hat0 0 hpos
            rw [List.getElem?_eq_getElem (by omega)] at h00
            have:=spot_none' h00
            rw [Nat.zero_mul] at this
            simpa [Addr.add] using this
          have hq : ∀ i,i<len → ∃ p:List D,∀ j s,re[j]?=some s → ∃ u,W.cell? ⟨a.block,a.off+(i*re.length+j),none⟩=some u∧VD P W (prot0 W) s (gd p j) u:=by
            intro i hil
            obtain ⟨cs',hcs,htr⟩:=hi i (by omega)
            rw [hc] at hcs
            obtain ⟨_,hcl,hat⟩:=World.cells?_some hcs
            obtain ⟨p,_,hp⟩:=trod_vd n e re hle hre nn cs' _ htr
            refine ⟨p,fun j s hs => ?_⟩
            obtain ⟨u,hu,hv⟩:=hp j s hs
            have hj:=(List.getElem?_eq_some_iff.1 hs).1
            have:=hat j hj
            rw [hu,ha (by omega),add_mk',add_mk'] at this
            refine ⟨u,?_,hv⟩
            rw [← this]; congr 2; omega
          obtain ⟨l,hll,hlq⟩:=choose_rows len hq
          refine ⟨[.l l],rfl,fun j s hs => ?_⟩
          match j,hs with
          | 0,hs =>
            injection hs with hs; subst hs
            refine ⟨_,rfl,?_⟩
            have hsl:=VD.sl (P:=P) (w:=W) (prot:=prot0 W) e (.l l) (some a) cap re (fun i j=>(W.cell? ⟨a.block,a.off+(i*re.length+j),none⟩).getD undef) hre (by rw [rows_l]; omega) (by unfold maxLen at hm; omega) ?_ ?_
            · rw [rows_l,hll] at hsl; exact hsl
            · intro i j hi hj
              rw [rows_l,hll] at hi
              obtain ⟨u,hu,_⟩:=hlq i hi j re[j] (List.getElem?_eq_getElem hj)
              refine ⟨a.block,a.off,by rw [← ha (by omega)],?_,prot0_cell hu⟩
              rw [hu]; rfl
            · intro i j s hi hs
              rw [rows_l,hll] at hi
              obtain ⟨u,hu,hv⟩:=hlq i hi j s hs
              show VD P W (prot0 W) s (gd (l.getD i []) j) ((W.cell? ⟨a.block,a.off+(i*re.length+j),none⟩).getD undef)
              rw [hu]; exact hv
      · cases hl
    · rename_i fs row' hu hr'
      injection hr' with hr'; subst hr'
      simp only [Bool.and_eq_true,beq_iff_eq] at hl
      obtain ⟨⟨hcov,hct⟩,hall⟩:=hl
      obtain ⟨xs,nn,_,_,hlen,hlx,hg⟩:=DataW.trod_struct hu h
      rw [hct] at hlen
      have hq : ∀ j,j<row.length → ∃ d:D,∀ s,row[j]?=some s → ∃ u,cs[j]?=some u∧VD P W (prot0 W) s d u:=by
        intro j hj
        unfold coverB at hcov
        rw [List.all_eq_true] at hcov
        have hcj:=hcov j (List.mem_range.2 hj)
        rw [List.any_eq_true] at hcj
        obtain ⟨i,hi,hci⟩:=hcj
        have hi:=List.mem_range.1 hi
        split at hci
        · rename_i f hf
          split at hci
          · rename_i rf hrf
            simp only [Bool.and_eq_true,decide_eq_true_eq,beq_iff_eq] at hci
            obtain ⟨⟨⟨k1,k2⟩,k3⟩,k4⟩:=hci
            have hlf:layB P n f.type=true:=by
              rw [List.all_eq_true] at hall
              exact hall f (by
                have:=Array.getElem?_eq_some_iff.1 hf
                obtain ⟨h1,h2⟩:=this
                rw [← h2]; simp)
            have htr:=hg i f hf
            rw [List.getElem?_eq_getElem (by rw [hlx]; exact hi)] at htr
            obtain ⟨p,hpl,hp⟩:=trod_vd n f.type rf hlf hrf nn _ _ htr
            refine ⟨gd p (j - f.offset),fun s hs => ?_⟩
            rw [hs] at k4
            obtain ⟨u,hu',hv⟩:=hp _ _ k4
            refine ⟨u,?_,hv⟩
            rw [List.getElem?_take_of_lt (by omega),List.getElem?_drop] at hu'
            rw [← hu']; congr 1; omega
          · cases hci
        · cases hci
      obtain ⟨p,_,hp⟩:=choose_pay row.length hq
      exact ⟨p,hlen,fun j s hs=>hp j (List.getElem?_eq_some_iff.1 hs).1 s hs⟩
    · cases hl

/-- a struct that came in -/
theorem arg_agg {H:Type} {enc:TypeId × Value→H} {P:Program} {W:World} {base:Nat} {spare:Nat→Bool} {held:Bool} {r:Reach} {b0:Nat} {T:TypeId} {fs:Array Field} {row:List S} {v:Value} {d:DataW H} {ps:List MemPlace}
    (hs:P.underlying T=some (.struct fs)) (hrow:rowOf P T=some row) (hl:layB P 12 T=true) (hv:Value.okWide P W r b0 T v) (hy:DataW.Trod enc P W base spare held T v d ps) :
    ∃ p,VT P W (g0 (prot0 W)) W.heap.size ⟨.one (.agg (row.map .d)),p⟩ v:=by
  obtain ⟨cs,rfl,hsz⟩:=okWide_struct hs hv
  obtain ⟨fuel,hf⟩:=hy
  obtain ⟨p,hpl,hp⟩:=trod_vd 12 T row hl hrow fuel _ _ hf
  refine ⟨p,cs,rfl,?_,fun j c hc => ?_⟩
  · have:cs.toList.length=row.length:=hpl
    simpa using this
  · rw [List.getElem?_map] at hc
    cases hr:row[j]? with
    | none=>rw [hr] at hc; cases hc
    | some s =>
      rw [hr] at hc
      injection hc with hc
      subst hc
      obtain ⟨u,hu,hvd⟩:=hp j s hr
      have hu:cs.toList[j]?=some u:=hu
      exact ⟨u,by simpa using hu,hvd⟩
theorem args_1 {P:Program} {W:World} {t:T} {v:Value} (h:VT P W (g0 (prot0 W)) W.heap.size t v):ArgsV P (prot0 W) W [t] #[v]:=⟨rfl,fun j t' hj=>by
  match j,hj with
  | 0,hj=>injection hj with hj; subst hj; exact ⟨v,rfl,h⟩⟩
theorem ev_walk {P:Program} {f:FuncId} {args:List T} {b:Bool} (h:SoundFn P f args ⟨rb,[.b b]⟩) {W:World} {vs:Array Value} (ha:ArgsV P (prot0 W) W args vs) :
    Calls P f vs W fun e W'=>e=.returned (.bool b)∧Below W.heap.size W W':=by
  refine ((h.n rfl).2 W (prot0 W) vs ha (fun b hb=>prot0_fresh hb)).mono fun e W' hx => ?_
  obtain ⟨v,g',rfl,hres⟩:=hx
  have hv:VD P W' g'.prot .bool (.b b) v:=hres.val
  cases hv
  exact ⟨rfl,hres.below⟩
end Go.Proofs.YtchceahcaaibcaaGreat
namespace Go.Proofs.YtchceahcaaibcaaGreat
set_option maxRecDepth 4096
set_option maxHeartbeats 1000000
set_option linter.unusedSimpArgs false
set_option linter.unusedVariables false
/-! loop.example/g00097/laws.FnExactJudgeValues -/
abbrev l_JudgeValuesT:FuncId→List T→Option (T × Bool):=find [szTownE,toTownE,s_JudgeValuesE,i_JudgeValuesE,eqTownE]
theorem l_JudgeValuesT_ok:CallOk Tryz.prog l_JudgeValuesT:=find_ok (List.forall_mem_cons.2 ⟨szTown_ok,List.forall_mem_cons.2 ⟨toTown_ok,List.forall_mem_cons.2 ⟨s_JudgeValues_ok,List.forall_mem_cons.2 ⟨i_JudgeValues_ok,List.forall_mem_cons.2 ⟨eqTown_ok,List.forall_mem_nil _⟩⟩⟩⟩⟩)
abbrev l_JudgeValuesK:List Nat:= [0,1,2,3,4,5,6,11,21,26]
theorem l_JudgeValues_ev (N:Nat) (p:List D):evFn Tryz.prog l_JudgeValuesT N l_JudgeValuesK Tryz.f11 rb [⟨ag rLTown,p⟩]=some (bo,
  nd (fair 1048576) (bif ltI (left (sizeTown (sub p 0 15)) 1048576) 0 then ob true
  else nd (okTown (sub p 0 15)) (nd (townSmall (sub (cpTown (sub p 0 15)) 0 15)) (nd (okTown (sub p 0 15)) (nd (townSmall (sub (cpTown (sub p 0 15)) 0 15)) (bif !((judgeValues (sub (cpTown (sub p 0 15)) 0 15))==(judgeValues (sub (cpTown (sub p 0 15)) 0 15))) then ob false
  else nd (okTown (sub p 0 15)) (bif !(eqTown (sub (cpTown (sub p 0 15)) 0 15) (sub (cpTown (sub p 0 15)) 0 15)) then ob false
  else ob true))))))):=by kernel_rfl
def l_JudgeValuesE:Ent:=(11,e1 (ag rLTown) fun p=>(⟨rb,[.b true]⟩,true))
theorem l_JudgeValues_ok:EntOk Tryz.prog l_JudgeValuesE:=e1_ok fun p h=>evFn_sound (N:=0) (ks:=l_JudgeValuesK) (key:=bo) l_JudgeValuesT_ok (enters Tryz.func11 (by kernel_rfl) (by kernel_rfl)) Tryz.func11 fun hw=>by
  rw [l_JudgeValues_ev]
  simp only [show okTown (sub p 0 15)=okTown p from rfl,show sizeTown (sub p 0 15)=sizeTown p from rfl,show townSmall (sub (cpTown (sub p 0 15)) 0 15)=townSmall (cpTown p) from rfl,show eqTown (sub (cpTown (sub p 0 15)) 0 15) (sub (cpTown (sub p 0 15)) 0 15)=true from eqTown_refl _]
  rw [show fair 1048576=true from rfl]
  cases h0:ltI (left (sizeTown p) 1048576) 0
  · obtain ⟨e0,l0⟩:=left_ge h0 (by omega)
    rw [okTown_of (m:=1048576) (by omega) (show sizeTown p≤1048576 from by omega),town_small (show sizeTown p≤1048576 from by omega)]
    simp only [nd,cond_true,cond_false,beq_self_eq_true,bne_self_eq_false,Bool.not_true]
  · rfl

end Go.Proofs.YtchceahcaaibcaaGreat
