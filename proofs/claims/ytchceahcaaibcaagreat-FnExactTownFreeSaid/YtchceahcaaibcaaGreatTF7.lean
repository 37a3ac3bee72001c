/-
 Texts of the proof,put together: part 7.
-/
import Derived.Test.YtchceahcaaibcaaGreatTF1
import Derived.Test.YtchceahcaaibcaaGreatTF2
import Derived.Test.YtchceahcaaibcaaGreatTF3
import Derived.Test.YtchceahcaaibcaaGreatTF4
import Derived.Test.YtchceahcaaibcaaGreatTF5
import Derived.Test.YtchceahcaaibcaaGreatTF6
import Derived.Deep.Slices
import Derived.Deep.Fields
import Derived.OpenShut
set_option linter.unusedSimpArgs false
set_option linter.unusedVariables false
set_option linter.unusedSectionVars false
namespace Go.Proofs.YtchceahcaaibcaaGreat
set_option maxRecDepth 4096
set_option maxHeartbeats 1000000
abbrev mkIntST:FuncId→List T→Option (T × Bool):=find []
theorem mkIntST_ok:CallOk Tryz.prog mkIntST:=find_ok (fN)
abbrev mkIntSK:List Nat:= [0,1,4,5,9]
noncomputable def mkIntSL (N:Nat) (p:List D) (q:D):List D→Out:=loopOfM Tryz.prog mkIntST N mkIntSK Tryz.f34 [⟨sd (.sl 3),p⟩,.c (.d si) q] 0
def mkIntSf:List Fld:= [.i 0]
def mkIntS (p:List D) (q:D):List D:=mkAll (rowF 1 mkIntSf) (gd p 0) q
def ctIntS (z:D):Nat:=total (cFs mkIntSf) z.rows
theorem mkIntSR (N:Nat) (p:List D) (q x0 x1 x2 x3:D):mkIntSL N p q [x0,x1,x2,x3]=bif ltI x3.int (x0.rows.length:Int) then rnd 1 x3.int mkIntSf x0.rows x1 (fun rows k=>nx [.l rows,k,x2,.i (w64 (x3.int+1))]) else ex 0 [x0,x1,x2,x3]:=by kernel_rfl
theorem mkIntS_ev (N:Nat) (p:List D) (q:D):evFnM Tryz.prog mkIntST N mkIntSK Tryz.f34 [⟨sd (.sl 3),p⟩,.c (.d si) q]=some (bo,(let o0:=iter (mkIntSL N p q) N [gd p 0,q,.i 0,.i 0]; nd o0.isSome (nd (o0.code==2) (some (1,[gd o0.pay 1,gd o0.pay 0]))))):=by kernel_rfl
def mkIntSE:Ent:=(34,eM (sd (.sl 3)) fun p q=>(⟨shM,mkIntS p q⟩,true))
theorem mkIntS_ok:EntOk Tryz.prog mkIntSE:=eM_ok fun p q _=>mk_sound (L:=mkIntSL) (fs:=mkIntSf) (w:=1) (ks:=mkIntSK) mkIntST_ok (enters Tryz.func34) Tryz.func34 (fun N x0 x1 x2 x3=>mkIntSR N p q x0 x1 x2 x3) (fun N=>mkIntS_ev N p q)
theorem mkIntS_k {x q:D} (h0:0≤q.int) (h1:q.int+ctIntS x≤4611686018427387904):(gd (mkIntS [x] q) 0).int=q.int+ctIntS x:=mkAll_k (w:=1) (fs:=mkIntSf) (by decide) (by
 unfold mkIntSf
 exact ⟨(by decide:0<1),trivial⟩) h0 h1
theorem bdIntS (z:D):ctIntS (cpIntS z)≤16*sizeIntS z:=bd_flat (f:=fun r=>cpInt r) (fun r=>by show 1+0≤16; omega) z
abbrev mkRangeST:FuncId→List T→Option (T × Bool):=find []
theorem mkRangeST_ok:CallOk Tryz.prog mkRangeST:=find_ok (fN)
abbrev mkRangeSK:List Nat:= [0,1,4,5,9]
noncomputable def mkRangeSL (N:Nat) (p:List D) (q:D):List D→Out:=loopOfM Tryz.prog mkRangeST N mkRangeSK Tryz.f210 [⟨sd (.sl 122),p⟩,.c (.d si) q] 0
def mkRangeSf:List Fld:= [.i 0,.i 1]
def mkRangeS (p:List D) (q:D):List D:=mkAll (rowF 2 mkRangeSf) (gd p 0) q
def ctRangeS (z:D):Nat:=total (cFs mkRangeSf) z.rows
theorem mkRangeSR (N:Nat) (p:List D) (q x0 x1 x2 x3:D):mkRangeSL N p q [x0,x1,x2,x3]=bif ltI x3.int (x0.rows.length:Int) then rnd 2 x3.int mkRangeSf x0.rows x1 (fun rows k=>nx [.l rows,k,x2,.i (w64 (x3.int+1))]) else ex 0 [x0,x1,x2,x3]:=by kernel_rfl
theorem mkRangeS_ev (N:Nat) (p:List D) (q:D):evFnM Tryz.prog mkRangeST N mkRangeSK Tryz.f210 [⟨sd (.sl 122),p⟩,.c (.d si) q]=some (bo,(let o0:=iter (mkRangeSL N p q) N [gd p 0,q,.i 0,.i 0]; nd o0.isSome (nd (o0.code==2) (some (1,[gd o0.pay 1,gd o0.pay 0]))))):=by kernel_rfl
def mkRangeSE:Ent:=(210,eM (sd (.sl 122)) fun p q=>(⟨shM,mkRangeS p q⟩,true))
theorem mkRangeS_ok:EntOk Tryz.prog mkRangeSE:=eM_ok fun p q _=>mk_sound (L:=mkRangeSL) (fs:=mkRangeSf) (w:=2) (ks:=mkRangeSK) mkRangeST_ok (enters Tryz.func210) Tryz.func210 (fun N x0 x1 x2 x3=>mkRangeSR N p q x0 x1 x2 x3) (fun N=>mkRangeS_ev N p q)
theorem mkRangeS_k {x q:D} (h0:0≤q.int) (h1:q.int+ctRangeS x≤4611686018427387904):(gd (mkRangeS [x] q) 0).int=q.int+ctRangeS x:=mkAll_k (w:=2) (fs:=mkRangeSf) (by decide) (by
 unfold mkRangeSf
 exact ⟨(by decide:0<2),(by decide:1<2),trivial⟩) h0 h1
theorem bdRangeS (z:D):ctRangeS (cpRangeS z)≤16*sizeRangeS z:=bd_flat (f:=fun r=>cpRange (sub r 0 2)) (fun r=>by show 1+(1+(0))≤16; omega) z
abbrev mkCellST:FuncId→List T→Option (T × Bool):=find []
theorem mkCellST_ok:CallOk Tryz.prog mkCellST:=find_ok (fN)
abbrev mkCellSK:List Nat:= [0,1,4,5,9]
noncomputable def mkCellSL (N:Nat) (p:List D) (q:D):List D→Out:=loopOfM Tryz.prog mkCellST N mkCellSK Tryz.f211 [⟨sd (.sl 176),p⟩,.c (.d si) q] 0
def mkCellSf:List Fld:= [.i 0,.i 1]
def mkCellS (p:List D) (q:D):List D:=mkAll (rowF 2 mkCellSf) (gd p 0) q
def ctCellS (z:D):Nat:=total (cFs mkCellSf) z.rows
theorem mkCellSR (N:Nat) (p:List D) (q x0 x1 x2 x3:D):mkCellSL N p q [x0,x1,x2,x3]=bif ltI x3.int (x0.rows.length:Int) then rnd 2 x3.int mkCellSf x0.rows x1 (fun rows k=>nx [.l rows,k,x2,.i (w64 (x3.int+1))]) else ex 0 [x0,x1,x2,x3]:=by kernel_rfl
theorem mkCellS_ev (N:Nat) (p:List D) (q:D):evFnM Tryz.prog mkCellST N mkCellSK Tryz.f211 [⟨sd (.sl 176),p⟩,.c (.d si) q]=some (bo,(let o0:=iter (mkCellSL N p q) N [gd p 0,q,.i 0,.i 0]; nd o0.isSome (nd (o0.code==2) (some (1,[gd o0.pay 1,gd o0.pay 0]))))):=by kernel_rfl
def mkCellSE:Ent:=(211,eM (sd (.sl 176)) fun p q=>(⟨shM,mkCellS p q⟩,true))
theorem mkCellS_ok:EntOk Tryz.prog mkCellSE:=eM_ok fun p q _=>mk_sound (L:=mkCellSL) (fs:=mkCellSf) (w:=2) (ks:=mkCellSK) mkCellST_ok (enters Tryz.func211) Tryz.func211 (fun N x0 x1 x2 x3=>mkCellSR N p q x0 x1 x2 x3) (fun N=>mkCellS_ev N p q)
theorem mkCellS_k {x q:D} (h0:0≤q.int) (h1:q.int+ctCellS x≤4611686018427387904):(gd (mkCellS [x] q) 0).int=q.int+ctCellS x:=mkAll_k (w:=2) (fs:=mkCellSf) (by decide) (by
 unfold mkCellSf
 exact ⟨(by decide:0<2),(by decide:1<2),trivial⟩) h0 h1
theorem bdCellS (z:D):ctCellS (cpCellS z)≤16*sizeCellS z:=bd_flat (f:=fun r=>cpCell (sub r 0 2)) (fun r=>by show 1+(1+(0))≤16; omega) z
abbrev mkWriteST:FuncId→List T→Option (T × Bool):=find []
theorem mkWriteST_ok:CallOk Tryz.prog mkWriteST:=find_ok (fN)
abbrev mkWriteSK:List Nat:= [0,1,4,5,9]
noncomputable def mkWriteSL (N:Nat) (p:List D) (q:D):List D→Out:=loopOfM Tryz.prog mkWriteST N mkWriteSK Tryz.f215 [⟨sd (.sl 132),p⟩,.c (.d si) q] 0
def mkWriteSf:List Fld:= [.i 0,.i 1]
def mkWriteS (p:List D) (q:D):List D:=mkAll (rowF 2 mkWriteSf) (gd p 0) q
def ctWriteS (z:D):Nat:=total (cFs mkWriteSf) z.rows
theorem mkWriteSR (N:Nat) (p:List D) (q x0 x1 x2 x3:D):mkWriteSL N p q [x0,x1,x2,x3]=bif ltI x3.int (x0.rows.length:Int) then rnd 2 x3.int mkWriteSf x0.rows x1 (fun rows k=>nx [.l rows,k,x2,.i (w64 (x3.int+1))]) else ex 0 [x0,x1,x2,x3]:=by kernel_rfl
theorem mkWriteS_ev (N:Nat) (p:List D) (q:D):evFnM Tryz.prog mkWriteST N mkWriteSK Tryz.f215 [⟨sd (.sl 132),p⟩,.c (.d si) q]=some (bo,(let o0:=iter (mkWriteSL N p q) N [gd p 0,q,.i 0,.i 0]; nd o0.isSome (nd (o0.code==2) (some (1,[gd o0.pay 1,gd o0.pay 0]))))):=by kernel_rfl
def mkWriteSE:Ent:=(215,eM (sd (.sl 132)) fun p q=>(⟨shM,mkWriteS p q⟩,true))
theorem mkWriteS_ok:EntOk Tryz.prog mkWriteSE:=eM_ok fun p q _=>mk_sound (L:=mkWriteSL) (fs:=mkWriteSf) (w:=2) (ks:=mkWriteSK) mkWriteST_ok (enters Tryz.func215) Tryz.func215 (fun N x0 x1 x2 x3=>mkWriteSR N p q x0 x1 x2 x3) (fun N=>mkWriteS_ev N p q)
theorem mkWriteS_k {x q:D} (h0:0≤q.int) (h1:q.int+ctWriteS x≤4611686018427387904):(gd (mkWriteS [x] q) 0).int=q.int+ctWriteS x:=mkAll_k (w:=2) (fs:=mkWriteSf) (by decide) (by
 unfold mkWriteSf
 exact ⟨(by decide:0<2),(by decide:1<2),trivial⟩) h0 h1
theorem bdWriteS (z:D):ctWriteS (cpWriteS z)≤16*sizeWriteS z:=bd_flat (f:=fun r=>cpWrite (sub r 0 2)) (fun r=>by show 1+(1+(0))≤16; omega) z
abbrev mkLockST:FuncId→List T→Option (T × Bool):=find []
theorem mkLockST_ok:CallOk Tryz.prog mkLockST:=find_ok (fN)
abbrev mkLockSK:List Nat:= [0,1,4,5,9]
noncomputable def mkLockSL (N:Nat) (p:List D) (q:D):List D→Out:=loopOfM Tryz.prog mkLockST N mkLockSK Tryz.f212 [⟨sd (.sl 138),p⟩,.c (.d si) q] 0
def mkLockSf:List Fld:= [.i 0,.i 1,.i 2,.i 3]
def mkLockS (p:List D) (q:D):List D:=mkAll (rowF 4 mkLockSf) (gd p 0) q
def ctLockS (z:D):Nat:=total (cFs mkLockSf) z.rows
theorem mkLockSR (N:Nat) (p:List D) (q x0 x1 x2 x3:D):mkLockSL N p q [x0,x1,x2,x3]=bif ltI x3.int (x0.rows.length:Int) then rnd 4 x3.int mkLockSf x0.rows x1 (fun rows k=>nx [.l rows,k,x2,.i (w64 (x3.int+1))]) else ex 0 [x0,x1,x2,x3]:=by kernel_rfl
theorem mkLockS_ev (N:Nat) (p:List D) (q:D):evFnM Tryz.prog mkLockST N mkLockSK Tryz.f212 [⟨sd (.sl 138),p⟩,.c (.d si) q]=some (bo,(let o0:=iter (mkLockSL N p q) N [gd p 0,q,.i 0,.i 0]; nd o0.isSome (nd (o0.code==2) (some (1,[gd o0.pay 1,gd o0.pay 0]))))):=by kernel_rfl
def mkLockSE:Ent:=(212,eM (sd (.sl 138)) fun p q=>(⟨shM,mkLockS p q⟩,true))
theorem mkLockS_ok:EntOk Tryz.prog mkLockSE:=eM_ok fun p q _=>mk_sound (L:=mkLockSL) (fs:=mkLockSf) (w:=4) (ks:=mkLockSK) mkLockST_ok (enters Tryz.func212) Tryz.func212 (fun N x0 x1 x2 x3=>mkLockSR N p q x0 x1 x2 x3) (fun N=>mkLockS_ev N p q)
theorem mkLockS_k {x q:D} (h0:0≤q.int) (h1:q.int+ctLockS x≤4611686018427387904):(gd (mkLockS [x] q) 0).int=q.int+ctLockS x:=mkAll_k (w:=4) (fs:=mkLockSf) (by decide) (by
 unfold mkLockSf
 exact ⟨(by decide:0<4),(by decide:1<4),(by decide:2<4),(by decide:3<4),trivial⟩) h0 h1
theorem bdLockS (z:D):ctLockS (cpLockS z)≤16*sizeLockS z:=bd_flat (f:=fun r=>cpLock (sub r 0 4)) (fun r=>by show 1+(1+(1+(1+(0))))≤16; omega) z
abbrev mkHeldST:FuncId→List T→Option (T × Bool):=find [mkWriteSE]
theorem mkHeldST_ok:CallOk Tryz.prog mkHeldST:=find_ok (fC ⟨mkWriteS_ok,fN⟩)
abbrev mkHeldSK:List Nat:= [0,1,4,5,9]
noncomputable def mkHeldSL (N:Nat) (p:List D) (q:D):List D→Out:=loopOfM Tryz.prog mkHeldST N mkHeldSK Tryz.f213 [⟨sd (.sl 248),p⟩,.c (.d si) q] 0
def mkHeldSf:List Fld:= [.i 0,.m 1 mkWriteS ctWriteS]
def mkHeldS (p:List D) (q:D):List D:=mkAll (rowF 2 mkHeldSf) (gd p 0) q
def ctHeldS (z:D):Nat:=total (cFs mkHeldSf) z.rows
theorem mkHeldSR (N:Nat) (p:List D) (q x0 x1 x2 x3:D):mkHeldSL N p q [x0,x1,x2,x3]=bif ltI x3.int (x0.rows.length:Int) then rnd 2 x3.int mkHeldSf x0.rows x1 (fun rows k=>nx [.l rows,k,x2,.i (w64 (x3.int+1))]) else ex 0 [x0,x1,x2,x3]:=by kernel_rfl
theorem mkHeldS_ev (N:Nat) (p:List D) (q:D):evFnM Tryz.prog mkHeldST N mkHeldSK Tryz.f213 [⟨sd (.sl 248),p⟩,.c (.d si) q]=some (bo,(let o0:=iter (mkHeldSL N p q) N [gd p 0,q,.i 0,.i 0]; nd o0.isSome (nd (o0.code==2) (some (1,[gd o0.pay 1,gd o0.pay 0]))))):=by kernel_rfl
def mkHeldSE:Ent:=(213,eM (sd (.sl 248)) fun p q=>(⟨shM,mkHeldS p q⟩,true))
theorem mkHeldS_ok:EntOk Tryz.prog mkHeldSE:=eM_ok fun p q _=>mk_sound (L:=mkHeldSL) (fs:=mkHeldSf) (w:=2) (ks:=mkHeldSK) mkHeldST_ok (enters Tryz.func213) Tryz.func213 (fun N x0 x1 x2 x3=>mkHeldSR N p q x0 x1 x2 x3) (fun N=>mkHeldS_ev N p q)
theorem mkHeldS_k {x q:D} (h0:0≤q.int) (h1:q.int+ctHeldS x≤4611686018427387904):(gd (mkHeldS [x] q) 0).int=q.int+ctHeldS x:=mkAll_k (w:=2) (fs:=mkHeldSf) (by decide) (by
 unfold mkHeldSf
 exact ⟨(by decide:0<2),⟨by decide,fun x q h0 h1=>mkWriteS_k h0 h1⟩,trivial⟩) h0 h1
theorem bdHeldS (z:D):ctHeldS (cpHeldS z)≤16*sizeHeldS z:=bd_deep (f:=fun r=>cpHeld (sub r 0 2)) (s:=fun r=>sizeHeld (sub r 0 2)) (fun r=>by
 show 1+(ctWriteS (cpWriteS (gd r 1))+(0))≤16+16*(sizeWriteS (gd r 1))
 have:=bdWriteS (gd r 1)
 omega) z
abbrev mkPartST:FuncId→List T→Option (T × Bool):=find []
theorem mkPartST_ok:CallOk Tryz.prog mkPartST:=find_ok (fN)
abbrev mkPartSK:List Nat:= [0,1,4,5,9]
noncomputable def mkPartSL (N:Nat) (p:List D) (q:D):List D→Out:=loopOfM Tryz.prog mkPartST N mkPartSK Tryz.f208 [⟨sd (.sl 97),p⟩,.c (.d si) q] 0
def mkPartSf:List Fld:= [.i 0,.i 1,.i 2]
def mkPartS (p:List D) (q:D):List D:=mkAll (rowF 3 mkPartSf) (gd p 0) q
def ctPartS (z:D):Nat:=total (cFs mkPartSf) z.rows
theorem mkPartSR (N:Nat) (p:List D) (q x0 x1 x2 x3:D):mkPartSL N p q [x0,x1,x2,x3]=bif ltI x3.int (x0.rows.length:Int) then rnd 3 x3.int mkPartSf x0.rows x1 (fun rows k=>nx [.l rows,k,x2,.i (w64 (x3.int+1))]) else ex 0 [x0,x1,x2,x3]:=by kernel_rfl
theorem mkPartS_ev (N:Nat) (p:List D) (q:D):evFnM Tryz.prog mkPartST N mkPartSK Tryz.f208 [⟨sd (.sl 97),p⟩,.c (.d si) q]=some (bo,(let o0:=iter (mkPartSL N p q) N [gd p 0,q,.i 0,.i 0]; nd o0.isSome (nd (o0.code==2) (some (1,[gd o0.pay 1,gd o0.pay 0]))))):=by kernel_rfl
def mkPartSE:Ent:=(208,eM (sd (.sl 97)) fun p q=>(⟨shM,mkPartS p q⟩,true))
theorem mkPartS_ok:EntOk Tryz.prog mkPartSE:=eM_ok fun p q _=>mk_sound (L:=mkPartSL) (fs:=mkPartSf) (w:=3) (ks:=mkPartSK) mkPartST_ok (enters Tryz.func208) Tryz.func208 (fun N x0 x1 x2 x3=>mkPartSR N p q x0 x1 x2 x3) (fun N=>mkPartS_ev N p q)
theorem mkPartS_k {x q:D} (h0:0≤q.int) (h1:q.int+ctPartS x≤4611686018427387904):(gd (mkPartS [x] q) 0).int=q.int+ctPartS x:=mkAll_k (w:=3) (fs:=mkPartSf) (by decide) (by
 unfold mkPartSf
 exact ⟨(by decide:0<3),(by decide:1<3),(by decide:2<3),trivial⟩) h0 h1
theorem bdPartS (z:D):ctPartS (cpPartS z)≤16*sizePartS z:=bd_flat (f:=fun r=>cpPart (sub r 0 3)) (fun r=>by show 1+(1+(1+(0)))≤16; omega) z
abbrev mkSeenST:FuncId→List T→Option (T × Bool):=find []
theorem mkSeenST_ok:CallOk Tryz.prog mkSeenST:=find_ok (fN)
abbrev mkSeenSK:List Nat:= [0,1,4,5,9]
noncomputable def mkSeenSL (N:Nat) (p:List D) (q:D):List D→Out:=loopOfM Tryz.prog mkSeenST N mkSeenSK Tryz.f216 [⟨sd (.sl 130),p⟩,.c (.d si) q] 0
def mkSeenSf:List Fld:= [.i 0,.i 1,.i 2]
def mkSeenS (p:List D) (q:D):List D:=mkAll (rowF 3 mkSeenSf) (gd p 0) q
def ctSeenS (z:D):Nat:=total (cFs mkSeenSf) z.rows
theorem mkSeenSR (N:Nat) (p:List D) (q x0 x1 x2 x3:D):mkSeenSL N p q [x0,x1,x2,x3]=bif ltI x3.int (x0.rows.length:Int) then rnd 3 x3.int mkSeenSf x0.rows x1 (fun rows k=>nx [.l rows,k,x2,.i (w64 (x3.int+1))]) else ex 0 [x0,x1,x2,x3]:=by kernel_rfl
theorem mkSeenS_ev (N:Nat) (p:List D) (q:D):evFnM Tryz.prog mkSeenST N mkSeenSK Tryz.f216 [⟨sd (.sl 130),p⟩,.c (.d si) q]=some (bo,(let o0:=iter (mkSeenSL N p q) N [gd p 0,q,.i 0,.i 0]; nd o0.isSome (nd (o0.code==2) (some (1,[gd o0.pay 1,gd o0.pay 0]))))):=by kernel_rfl
def mkSeenSE:Ent:=(216,eM (sd (.sl 130)) fun p q=>(⟨shM,mkSeenS p q⟩,true))
theorem mkSeenS_ok:EntOk Tryz.prog mkSeenSE:=eM_ok fun p q _=>mk_sound (L:=mkSeenSL) (fs:=mkSeenSf) (w:=3) (ks:=mkSeenSK) mkSeenST_ok (enters Tryz.func216) Tryz.func216 (fun N x0 x1 x2 x3=>mkSeenSR N p q x0 x1 x2 x3) (fun N=>mkSeenS_ev N p q)
theorem mkSeenS_k {x q:D} (h0:0≤q.int) (h1:q.int+ctSeenS x≤4611686018427387904):(gd (mkSeenS [x] q) 0).int=q.int+ctSeenS x:=mkAll_k (w:=3) (fs:=mkSeenSf) (by decide) (by
 unfold mkSeenSf
 exact ⟨(by decide:0<3),(by decide:1<3),(by decide:2<3),trivial⟩) h0 h1
theorem bdSeenS (z:D):ctSeenS (cpSeenS z)≤16*sizeSeenS z:=bd_flat (f:=fun r=>cpSeen (sub r 0 3)) (fun r=>by show 1+(1+(1+(0)))≤16; omega) z
abbrev mkShareST:FuncId→List T→Option (T × Bool):=find [mkRangeSE,mkWriteSE]
theorem mkShareST_ok:CallOk Tryz.prog mkShareST:=find_ok (fC ⟨mkRangeS_ok,fC ⟨mkWriteS_ok,fN⟩⟩)
abbrev mkShareSK:List Nat:= [0,1,4,5,9]
noncomputable def mkShareSL (N:Nat) (p:List D) (q:D):List D→Out:=loopOfM Tryz.prog mkShareST N mkShareSK Tryz.f217 [⟨sd (.sl 118),p⟩,.c (.d si) q] 0
def mkShareSf:List Fld:= [.i 0,.m 1 mkRangeS ctRangeS,.m 2 mkWriteS ctWriteS,.i 3]
def mkShareS (p:List D) (q:D):List D:=mkAll (rowF 4 mkShareSf) (gd p 0) q
def ctShareS (z:D):Nat:=total (cFs mkShareSf) z.rows
theorem mkShareSR (N:Nat) (p:List D) (q x0 x1 x2 x3:D):mkShareSL N p q [x0,x1,x2,x3]=bif ltI x3.int (x0.rows.length:Int) then rnd 4 x3.int mkShareSf x0.rows x1 (fun rows k=>nx [.l rows,k,x2,.i (w64 (x3.int+1))]) else ex 0 [x0,x1,x2,x3]:=by kernel_rfl
theorem mkShareS_ev (N:Nat) (p:List D) (q:D):evFnM Tryz.prog mkShareST N mkShareSK Tryz.f217 [⟨sd (.sl 118),p⟩,.c (.d si) q]=some (bo,(let o0:=iter (mkShareSL N p q) N [gd p 0,q,.i 0,.i 0]; nd o0.isSome (nd (o0.code==2) (some (1,[gd o0.pay 1,gd o0.pay 0]))))):=by kernel_rfl
def mkShareSE:Ent:=(217,eM (sd (.sl 118)) fun p q=>(⟨shM,mkShareS p q⟩,true))
theorem mkShareS_ok:EntOk Tryz.prog mkShareSE:=eM_ok fun p q _=>mk_sound (L:=mkShareSL) (fs:=mkShareSf) (w:=4) (ks:=mkShareSK) mkShareST_ok (enters Tryz.func217) Tryz.func217 (fun N x0 x1 x2 x3=>mkShareSR N p q x0 x1 x2 x3) (fun N=>mkShareS_ev N p q)
theorem mkShareS_k {x q:D} (h0:0≤q.int) (h1:q.int+ctShareS x≤4611686018427387904):(gd (mkShareS [x] q) 0).int=q.int+ctShareS x:=mkAll_k (w:=4) (fs:=mkShareSf) (by decide) (by
 unfold mkShareSf
 exact ⟨(by decide:0<4),⟨by decide,fun x q h0 h1=>mkRangeS_k h0 h1⟩,⟨by decide,fun x q h0 h1=>mkWriteS_k h0 h1⟩,(by decide:3<4),trivial⟩) h0 h1
theorem bdShareS (z:D):ctShareS (cpShareS z)≤16*sizeShareS z:=bd_deep (f:=fun r=>cpShare (sub r 0 4)) (s:=fun r=>sizeShare (sub r 0 4)) (fun r=>by
 show 1+(ctRangeS (cpRangeS (gd r 1))+(ctWriteS (cpWriteS (gd r 2))+(1+(0))))≤16+16*(sizeRangeS (gd r 1)+(sizeWriteS (gd r 2)))
 have:=bdRangeS (gd r 1); have:=bdWriteS (gd r 2)
 omega) z
abbrev mkRecST:FuncId→List T→Option (T × Bool):=find [mkShareSE]
theorem mkRecST_ok:CallOk Tryz.prog mkRecST:=find_ok (fC ⟨mkShareS_ok,fN⟩)
abbrev mkRecSK:List Nat:= [0,1,4,5,9]
noncomputable def mkRecSL (N:Nat) (p:List D) (q:D):List D→Out:=loopOfM Tryz.prog mkRecST N mkRecSK Tryz.f214 [⟨sd (.sl 116),p⟩,.c (.d si) q] 0
def mkRecSf:List Fld:= [.i 0,.i 1,.i 2,.i 3,.m 4 mkShareS ctShareS]
def mkRecS (p:List D) (q:D):List D:=mkAll (rowF 5 mkRecSf) (gd p 0) q
def ctRecS (z:D):Nat:=total (cFs mkRecSf) z.rows
theorem mkRecSR (N:Nat) (p:List D) (q x0 x1 x2 x3:D):mkRecSL N p q [x0,x1,x2,x3]=bif ltI x3.int (x0.rows.length:Int) then rnd 5 x3.int mkRecSf x0.rows x1 (fun rows k=>nx [.l rows,k,x2,.i (w64 (x3.int+1))]) else ex 0 [x0,x1,x2,x3]:=by kernel_rfl
theorem mkRecS_ev (N:Nat) (p:List D) (q:D):evFnM Tryz.prog mkRecST N mkRecSK Tryz.f214 [⟨sd (.sl 116),p⟩,.c (.d si) q]=some (bo,(let o0:=iter (mkRecSL N p q) N [gd p 0,q,.i 0,.i 0]; nd o0.isSome (nd (o0.code==2) (some (1,[gd o0.pay 1,gd o0.pay 0]))))):=by kernel_rfl
def mkRecSE:Ent:=(214,eM (sd (.sl 116)) fun p q=>(⟨shM,mkRecS p q⟩,true))
theorem mkRecS_ok:EntOk Tryz.prog mkRecSE:=eM_ok fun p q _=>mk_sound (L:=mkRecSL) (fs:=mkRecSf) (w:=5) (ks:=mkRecSK) mkRecST_ok (enters Tryz.func214) Tryz.func214 (fun N x0 x1 x2 x3=>mkRecSR N p q x0 x1 x2 x3) (fun N=>mkRecS_ev N p q)
theorem mkRecS_k {x q:D} (h0:0≤q.int) (h1:q.int+ctRecS x≤4611686018427387904):(gd (mkRecS [x] q) 0).int=q.int+ctRecS x:=mkAll_k (w:=5) (fs:=mkRecSf) (by decide) (by
 unfold mkRecSf
 exact ⟨(by decide:0<5),(by decide:1<5),(by decide:2<5),(by decide:3<5),⟨by decide,fun x q h0 h1=>mkShareS_k h0 h1⟩,trivial⟩) h0 h1
theorem bdRecS (z:D):ctRecS (cpRecS z)≤16*sizeRecS z:=bd_deep (f:=fun r=>cpRec (sub r 0 5)) (s:=fun r=>sizeRec (sub r 0 5)) (fun r=>by
 show 1+(1+(1+(1+(ctShareS (cpShareS (gd r 4))+(0)))))≤16+16*(sizeShareS (gd r 4))
 have:=bdShareS (gd r 4)
 omega) z
abbrev mkCoordT:FuncId→List T→Option (T × Bool):=find [mkRecSE,mkIntSE]
theorem mkCoordT_ok:CallOk Tryz.prog mkCoordT:=find_ok (fC ⟨mkRecS_ok,fC ⟨mkIntS_ok,fN⟩⟩)
abbrev mkCoordK:List Nat:= [0,1,2,4]
def mkCoord (p:List D) (q:D):List D:=
 let r1:=mkRecS ([gd p 0]) q
 let r2:=mkIntS ([gd p 1]) (gd r1 0)
 [gd r2 0,.l (gd r1 1).rows,.l (gd r2 1).rows]
def ctCoord (p:List D):Nat:=ctRecS (gd p 0)+(ctIntS (gd p 1))
theorem mkCoord_ev (p:List D) (q:D):evFnM Tryz.prog mkCoordT 0 mkCoordK Tryz.f103 [⟨ag rICoord,p⟩,.c (.d si) q]=some (bo,some (1,mkCoord p q)):=by kernel_rfl
def mkCoordE:Ent:=(103,eM (ag rICoord) fun p q=>(⟨shM,mkCoord p q⟩,true))
theorem mkCoord_ok:EntOk Tryz.prog mkCoordE:=eM_ok fun p q _=>evFnM_sound (N:=0) (ks:=mkCoordK) (key:=bo) mkCoordT_ok (enters Tryz.func103) Tryz.func103 fun hw=>mkCoord_ev p q
theorem mkCoord_k {p:List D} {q:D} (h0:0≤q.int) (h1:q.int+ctCoord p≤4611686018427387904):(gd (mkCoord p q) 0).int=q.int+ctCoord p:=by
 unfold ctCoord at h1 ⊢
 have e1:=mkRecS_k (x:=gd p 0) (q:=q) (by omega) (by omega)
 have e2:=mkIntS_k (x:=gd p 1) (q:=gd (mkRecS [gd p 0] q) 0) (by omega) (by omega)
 show (gd (mkIntS [gd p 1] (gd (mkRecS [gd p 0] q) 0)) 0).int=_
 omega
theorem bdCoord (p:List D):ctCoord (cpCoord p)≤16*sizeCoord p:=by
 have:=bdRecS (gd p 0)
 have:=bdIntS (gd p 1)
 show ctRecS (cpRecS (gd p 0))+(ctIntS (cpIntS (gd p 1)))≤16*(sizeRecS (gd p 0)+(sizeIntS (gd p 1)))
 omega
abbrev mkMoveT:FuncId→List T→Option (T × Bool):=find [mkCellSE]
theorem mkMoveT_ok:CallOk Tryz.prog mkMoveT:=find_ok (fC ⟨mkCellS_ok,fN⟩)
abbrev mkMoveK:List Nat:= [0,1,2,4]
def mkMove (p:List D) (q:D):List D:=
 let r1:=mkCellS ([gd p 6]) q
 [gd r1 0,gd p 0,gd p 1,gd p 2,gd p 3,gd p 4,gd p 5,.l (gd r1 1).rows]
def ctMove (p:List D):Nat:=ctCellS (gd p 6)
theorem mkMove_ev (p:List D) (q:D):evFnM Tryz.prog mkMoveT 0 mkMoveK Tryz.f209 [⟨ag rIMove,p⟩,.c (.d si) q]=some (bo,some (1,mkMove p q)):=by kernel_rfl
def mkMoveE:Ent:=(209,eM (ag rIMove) fun p q=>(⟨shM,mkMove p q⟩,true))
theorem mkMove_ok:EntOk Tryz.prog mkMoveE:=eM_ok fun p q _=>evFnM_sound (N:=0) (ks:=mkMoveK) (key:=bo) mkMoveT_ok (enters Tryz.func209) Tryz.func209 fun hw=>mkMove_ev p q
theorem mkMove_k {p:List D} {q:D} (h0:0≤q.int) (h1:q.int+ctMove p≤4611686018427387904):(gd (mkMove p q) 0).int=q.int+ctMove p:=by
 unfold ctMove at h1 ⊢
 have e1:=mkCellS_k (x:=gd p 6) (q:=q) (by omega) (by omega)
 show (gd (mkCellS [gd p 6] q) 0).int=_
 omega
theorem bdMove (p:List D):ctMove (cpMove p)≤16*sizeMove p:=by
 have:=bdCellS (gd p 6)
 show ctCellS (cpCellS (gd p 6))≤16*(sizeCellS (gd p 6))
 omega
abbrev mkAtlasT:FuncId→List T→Option (T × Bool):=find [mkPartSE,mkMoveE]
theorem mkAtlasT_ok:CallOk Tryz.prog mkAtlasT:=find_ok (fC ⟨mkPartS_ok,fC ⟨mkMove_ok,fN⟩⟩)
abbrev mkAtlasK:List Nat:= [0,1,2,4]
def mkAtlas (p:List D) (q:D):List D:=
 let r1:=mkPartS ([gd p 1]) q
 let r2:=mkMove (sub p 2 7) (gd r1 0)
 [gd r2 0,gd p 0,.l (gd r1 1).rows,gd p 2,gd p 3,gd p 4,gd p 5,gd p 6,gd p 7,.l (gd r2 7).rows]
def ctAtlas (p:List D):Nat:=ctPartS (gd p 1)+(ctMove (sub p 2 7))
theorem mkAtlas_ev (p:List D) (q:D):evFnM Tryz.prog mkAtlasT 0 mkAtlasK Tryz.f101 [⟨ag rIAtlas,p⟩,.c (.d si) q]=some (bo,some (1,mkAtlas p q)):=by kernel_rfl
def mkAtlasE:Ent:=(101,eM (ag rIAtlas) fun p q=>(⟨shM,mkAtlas p q⟩,true))
theorem mkAtlas_ok:EntOk Tryz.prog mkAtlasE:=eM_ok fun p q _=>evFnM_sound (N:=0) (ks:=mkAtlasK) (key:=bo) mkAtlasT_ok (enters Tryz.func101) Tryz.func101 fun hw=>mkAtlas_ev p q
theorem mkAtlas_k {p:List D} {q:D} (h0:0≤q.int) (h1:q.int+ctAtlas p≤4611686018427387904):(gd (mkAtlas p q) 0).int=q.int+ctAtlas p:=by
 unfold ctAtlas at h1 ⊢
 have e1:=mkPartS_k (x:=gd p 1) (q:=q) (by omega) (by omega)
 have e2:=mkMove_k (p:=sub p 2 7) (q:=gd (mkPartS [gd p 1] q) 0) (by omega) (by omega)
 show (gd (mkMove (sub p 2 7) (gd (mkPartS [gd p 1] q) 0)) 0).int=_
 omega
theorem bdAtlas (p:List D):ctAtlas (cpAtlas p)≤16*sizeAtlas p:=by
 have:=bdPartS (gd p 1)
 have:=bdMove (sub p 2 7)
 show ctPartS (cpPartS (gd p 1))+(ctMove (cpMove (sub p 2 7)))≤16*(sizePartS (gd p 1)+(sizeMove (sub p 2 7)))
 omega
abbrev mkShardST:FuncId→List T→Option (T × Bool):=find [mkRangeSE,mkCellSE,mkLockSE,mkHeldSE,mkIntSE]
theorem mkShardST_ok:CallOk Tryz.prog mkShardST:=find_ok (fC ⟨mkRangeS_ok,fC ⟨mkCellS_ok,fC ⟨mkLockS_ok,fC ⟨mkHeldS_ok,fC ⟨mkIntS_ok,fN⟩⟩⟩⟩⟩)
abbrev mkShardSK:List Nat:= [0,1,4,5,9]
noncomputable def mkShardSL (N:Nat) (p:List D) (q:D):List D→Out:=loopOfM Tryz.prog mkShardST N mkShardSK Tryz.f102 [⟨sd (.sl 80),p⟩,.c (.d si) q] 0
def mkShardSf:List Fld:= [.i 0,.m 1 mkRangeS ctRangeS,.m 2 mkRangeS ctRangeS,.m 3 mkCellS ctCellS,.m 4 mkLockS ctLockS,.m 5 mkHeldS ctHeldS,.m 6 mkIntS ctIntS,.m 7 mkIntS ctIntS,.i 8]
def mkShardS (p:List D) (q:D):List D:=mkAll (rowF 9 mkShardSf) (gd p 0) q
def ctShardS (z:D):Nat:=total (cFs mkShardSf) z.rows
theorem mkShardSR (N:Nat) (p:List D) (q x0 x1 x2 x3:D):mkShardSL N p q [x0,x1,x2,x3]=bif ltI x3.int (x0.rows.length:Int) then rnd 9 x3.int mkShardSf x0.rows x1 (fun rows k=>nx [.l rows,k,x2,.i (w64 (x3.int+1))]) else ex 0 [x0,x1,x2,x3]:=by kernel_rfl
theorem mkShardS_ev (N:Nat) (p:List D) (q:D):evFnM Tryz.prog mkShardST N mkShardSK Tryz.f102 [⟨sd (.sl 80),p⟩,.c (.d si) q]=some (bo,(let o0:=iter (mkShardSL N p q) N [gd p 0,q,.i 0,.i 0]; nd o0.isSome (nd (o0.code==2) (some (1,[gd o0.pay 1,gd o0.pay 0]))))):=by kernel_rfl
def mkShardSE:Ent:=(102,eM (sd (.sl 80)) fun p q=>(⟨shM,mkShardS p q⟩,true))
theorem mkShardS_ok:EntOk Tryz.prog mkShardSE:=eM_ok fun p q _=>mk_sound (L:=mkShardSL) (fs:=mkShardSf) (w:=9) (ks:=mkShardSK) mkShardST_ok (enters Tryz.func102) Tryz.func102 (fun N x0 x1 x2 x3=>mkShardSR N p q x0 x1 x2 x3) (fun N=>mkShardS_ev N p q)
theorem mkShardS_k {x q:D} (h0:0≤q.int) (h1:q.int+ctShardS x≤4611686018427387904):(gd (mkShardS [x] q) 0).int=q.int+ctShardS x:=mkAll_k (w:=9) (fs:=mkShardSf) (by decide) (by
 unfold mkShardSf
 exact ⟨(by decide:0<9),⟨by decide,fun x q h0 h1=>mkRangeS_k h0 h1⟩,⟨by decide,fun x q h0 h1=>mkRangeS_k h0 h1⟩,⟨by decide,fun x q h0 h1=>mkCellS_k h0 h1⟩,⟨by decide,fun x q h0 h1=>mkLockS_k h0 h1⟩,⟨by decide,fun x q h0 h1=>mkHeldS_k h0 h1⟩,⟨by decide,fun x q h0 h1=>mkIntS_k h0 h1⟩,⟨by decide,fun x q h0 h1=>mkIntS_k h0 h1⟩,(by decide:8<9),trivial⟩) h0 h1
theorem bdShardS (z:D):ctShardS (cpShardS z)≤16*sizeShardS z:=bd_deep (f:=fun r=>cpShard (sub r 0 9)) (s:=fun r=>sizeShard (sub r 0 9)) (fun r=>by
 show 1+(ctRangeS (cpRangeS (gd r 1))+(ctRangeS (cpRangeS (gd r 2))+(ctCellS (cpCellS (gd r 3))+(ctLockS (cpLockS (gd r 4))+(ctHeldS (cpHeldS (gd r 5))+(ctIntS (cpIntS (gd r 6))+(ctIntS (cpIntS (gd r 7))+(1+(0)))))))))≤16+16*(sizeRangeS (gd r 1)+(sizeRangeS (gd r 2)+(sizeCellS (gd r 3)+(sizeLockS (gd r 4)+(sizeHeldS (gd r 5)+(sizeIntS (gd r 6)+(sizeIntS (gd r 7))))))))
 have:=bdRangeS (gd r 1); have:=bdRangeS (gd r 2); have:=bdCellS (gd r 3); have:=bdLockS (gd r 4); have:=bdHeldS (gd r 5); have:=bdIntS (gd r 6); have:=bdIntS (gd r 7)
 omega) z
abbrev mkClientST:FuncId→List T→Option (T × Bool):=find [mkWriteSE,mkSeenSE,mkPartSE]
theorem mkClientST_ok:CallOk Tryz.prog mkClientST:=find_ok (fC ⟨mkWriteS_ok,fC ⟨mkSeenS_ok,fC ⟨mkPartS_ok,fN⟩⟩⟩)
abbrev mkClientSK:List Nat:= [0,1,4,5,9]
noncomputable def mkClientSL (N:Nat) (p:List D) (q:D):List D→Out:=loopOfM Tryz.prog mkClientST N mkClientSK Tryz.f104 [⟨sd (.sl 102),p⟩,.c (.d si) q] 0
def mkClientSf:List Fld:= [.i 0,.i 1,.i 2,.m 3 mkWriteS ctWriteS,.m 4 mkSeenS ctSeenS,.i 5,.i 6,.i 7,.m 8 mkPartS ctPartS]
def mkClientS (p:List D) (q:D):List D:=mkAll (rowF 9 mkClientSf) (gd p 0) q
def ctClientS (z:D):Nat:=total (cFs mkClientSf) z.rows
theorem mkClientSR (N:Nat) (p:List D) (q x0 x1 x2 x3:D):mkClientSL N p q [x0,x1,x2,x3]=bif ltI x3.int (x0.rows.length:Int) then rnd 9 x3.int mkClientSf x0.rows x1 (fun rows k=>nx [.l rows,k,x2,.i (w64 (x3.int+1))]) else ex 0 [x0,x1,x2,x3]:=by kernel_rfl
theorem mkClientS_ev (N:Nat) (p:List D) (q:D):evFnM Tryz.prog mkClientST N mkClientSK Tryz.f104 [⟨sd (.sl 102),p⟩,.c (.d si) q]=some (bo,(let o0:=iter (mkClientSL N p q) N [gd p 0,q,.i 0,.i 0]; nd o0.isSome (nd (o0.code==2) (some (1,[gd o0.pay 1,gd o0.pay 0]))))):=by kernel_rfl
def mkClientSE:Ent:=(104,eM (sd (.sl 102)) fun p q=>(⟨shM,mkClientS p q⟩,true))
theorem mkClientS_ok:EntOk Tryz.prog mkClientSE:=eM_ok fun p q _=>mk_sound (L:=mkClientSL) (fs:=mkClientSf) (w:=9) (ks:=mkClientSK) mkClientST_ok (enters Tryz.func104) Tryz.func104 (fun N x0 x1 x2 x3=>mkClientSR N p q x0 x1 x2 x3) (fun N=>mkClientS_ev N p q)
theorem mkClientS_k {x q:D} (h0:0≤q.int) (h1:q.int+ctClientS x≤4611686018427387904):(gd (mkClientS [x] q) 0).int=q.int+ctClientS x:=mkAll_k (w:=9) (fs:=mkClientSf) (by decide) (by
 unfold mkClientSf
 exact ⟨(by decide:0<9),(by decide:1<9),(by decide:2<9),⟨by decide,fun x q h0 h1=>mkWriteS_k h0 h1⟩,⟨by decide,fun x q h0 h1=>mkSeenS_k h0 h1⟩,(by decide:5<9),(by decide:6<9),(by decide:7<9),⟨by decide,fun x q h0 h1=>mkPartS_k h0 h1⟩,trivial⟩) h0 h1
theorem bdClientS (z:D):ctClientS (cpClientS z)≤16*sizeClientS z:=bd_deep (f:=fun r=>cpClient (sub r 0 9)) (s:=fun r=>sizeClient (sub r 0 9)) (fun r=>by
 show 1+(1+(1+(ctWriteS (cpWriteS (gd r 3))+(ctSeenS (cpSeenS (gd r 4))+(1+(1+(1+(ctPartS (cpPartS (gd r 8))+(0)))))))))≤16+16*(sizeWriteS (gd r 3)+(sizeSeenS (gd r 4)+(sizePartS (gd r 8))))
 have:=bdWriteS (gd r 3); have:=bdSeenS (gd r 4); have:=bdPartS (gd r 8)
 omega) z
abbrev mkLetterST:FuncId→List T→Option (T × Bool):=find [mkRangeSE,mkWriteSE,mkCellSE,mkShareSE]
theorem mkLetterST_ok:CallOk Tryz.prog mkLetterST:=find_ok (fC ⟨mkRangeS_ok,fC ⟨mkWriteS_ok,fC ⟨mkCellS_ok,fC ⟨mkShareS_ok,fN⟩⟩⟩⟩)
abbrev mkLetterSK:List Nat:= [0,1,4,5,9]
noncomputable def mkLetterSL (N:Nat) (p:List D) (q:D):List D→Out:=loopOfM Tryz.prog mkLetterST N mkLetterSK Tryz.f105 [⟨sd (.sl 85),p⟩,.c (.d si) q] 0
def mkLetterSf:List Fld:= [.i 0,.i 1,.i 2,.i 3,.i 4,.i 5,.i 6,.i 7,.i 8,.b 9,.m 10 mkRangeS ctRangeS,.m 11 mkWriteS ctWriteS,.m 12 mkCellS ctCellS,.m 13 mkShareS ctShareS]
def mkLetterS (p:List D) (q:D):List D:=mkAll (rowF 14 mkLetterSf) (gd p 0) q
def ctLetterS (z:D):Nat:=total (cFs mkLetterSf) z.rows
theorem mkLetterSR (N:Nat) (p:List D) (q x0 x1 x2 x3:D):mkLetterSL N p q [x0,x1,x2,x3]=bif ltI x3.int (x0.rows.length:Int) then rnd 14 x3.int mkLetterSf x0.rows x1 (fun rows k=>nx [.l rows,k,x2,.i (w64 (x3.int+1))]) else ex 0 [x0,x1,x2,x3]:=by kernel_rfl
theorem mkLetterS_ev (N:Nat) (p:List D) (q:D):evFnM Tryz.prog mkLetterST N mkLetterSK Tryz.f105 [⟨sd (.sl 85),p⟩,.c (.d si) q]=some (bo,(let o0:=iter (mkLetterSL N p q) N [gd p 0,q,.i 0,.i 0]; nd o0.isSome (nd (o0.code==2) (some (1,[gd o0.pay 1,gd o0.pay 0]))))):=by kernel_rfl
def mkLetterSE:Ent:=(105,eM (sd (.sl 85)) fun p q=>(⟨shM,mkLetterS p q⟩,true))
theorem mkLetterS_ok:EntOk Tryz.prog mkLetterSE:=eM_ok fun p q _=>mk_sound (L:=mkLetterSL) (fs:=mkLetterSf) (w:=14) (ks:=mkLetterSK) mkLetterST_ok (enters Tryz.func105) Tryz.func105 (fun N x0 x1 x2 x3=>mkLetterSR N p q x0 x1 x2 x3) (fun N=>mkLetterS_ev N p q)
theorem mkLetterS_k {x q:D} (h0:0≤q.int) (h1:q.int+ctLetterS x≤4611686018427387904):(gd (mkLetterS [x] q) 0).int=q.int+ctLetterS x:=mkAll_k (w:=14) (fs:=mkLetterSf) (by decide) (by
 unfold mkLetterSf
 exact ⟨(by decide:0<14),(by decide:1<14),(by decide:2<14),(by decide:3<14),(by decide:4<14),(by decide:5<14),(by decide:6<14),(by decide:7<14),(by decide:8<14),(by decide:9<14),⟨by decide,fun x q h0 h1=>mkRangeS_k h0 h1⟩,⟨by decide,fun x q h0 h1=>mkWriteS_k h0 h1⟩,⟨by decide,fun x q h0 h1=>mkCellS_k h0 h1⟩,⟨by decide,fun x q h0 h1=>mkShareS_k h0 h1⟩,trivial⟩) h0 h1
theorem bdLetterS (z:D):ctLetterS (cpLetterS z)≤16*sizeLetterS z:=bd_deep (f:=fun r=>cpLetter (sub r 0 14)) (s:=fun r=>sizeLetter (sub r 0 14)) (fun r=>by
 show 1+(1+(1+(1+(1+(1+(1+(1+(1+(1+(ctRangeS (cpRangeS (gd r 10))+(ctWriteS (cpWriteS (gd r 11))+(ctCellS (cpCellS (gd r 12))+(ctShareS (cpShareS (gd r 13))+(0))))))))))))))≤16+16*(sizeRangeS (gd r 10)+(sizeWriteS (gd r 11)+(sizeCellS (gd r 12)+(sizeShareS (gd r 13)))))
 have:=bdRangeS (gd r 10); have:=bdWriteS (gd r 11); have:=bdCellS (gd r 12); have:=bdShareS (gd r 13)
 omega) z
abbrev mkEventST:FuncId→List T→Option (T × Bool):=find [mkCellSE]
theorem mkEventST_ok:CallOk Tryz.prog mkEventST:=find_ok (fC ⟨mkCellS_ok,fN⟩)
abbrev mkEventSK:List Nat:= [0,1,4,5,9]
noncomputable def mkEventSL (N:Nat) (p:List D) (q:D):List D→Out:=loopOfM Tryz.prog mkEventST N mkEventSK Tryz.f106 [⟨sd (.sl 88),p⟩,.c (.d si) q] 0
def mkEventSf:List Fld:= [.i 0,.i 1,.i 2,.i 3,.i 4,.m 5 mkCellS ctCellS,.b 6]
def mkEventS (p:List D) (q:D):List D:=mkAll (rowF 7 mkEventSf) (gd p 0) q
def ctEventS (z:D):Nat:=total (cFs mkEventSf) z.rows
theorem mkEventSR (N:Nat) (p:List D) (q x0 x1 x2 x3:D):mkEventSL N p q [x0,x1,x2,x3]=bif ltI x3.int (x0.rows.length:Int) then rnd 7 x3.int mkEventSf x0.rows x1 (fun rows k=>nx [.l rows,k,x2,.i (w64 (x3.int+1))]) else ex 0 [x0,x1,x2,x3]:=by kernel_rfl
theorem mkEventS_ev (N:Nat) (p:List D) (q:D):evFnM Tryz.prog mkEventST N mkEventSK Tryz.f106 [⟨sd (.sl 88),p⟩,.c (.d si) q]=some (bo,(let o0:=iter (mkEventSL N p q) N [gd p 0,q,.i 0,.i 0]; nd o0.isSome (nd (o0.code==2) (some (1,[gd o0.pay 1,gd o0.pay 0]))))):=by kernel_rfl
def mkEventSE:Ent:=(106,eM (sd (.sl 88)) fun p q=>(⟨shM,mkEventS p q⟩,true))
theorem mkEventS_ok:EntOk Tryz.prog mkEventSE:=eM_ok fun p q _=>mk_sound (L:=mkEventSL) (fs:=mkEventSf) (w:=7) (ks:=mkEventSK) mkEventST_ok (enters Tryz.func106) Tryz.func106 (fun N x0 x1 x2 x3=>mkEventSR N p q x0 x1 x2 x3) (fun N=>mkEventS_ev N p q)
theorem mkEventS_k {x q:D} (h0:0≤q.int) (h1:q.int+ctEventS x≤4611686018427387904):(gd (mkEventS [x] q) 0).int=q.int+ctEventS x:=mkAll_k (w:=7) (fs:=mkEventSf) (by decide) (by
 unfold mkEventSf
 exact ⟨(by decide:0<7),(by decide:1<7),(by decide:2<7),(by decide:3<7),(by decide:4<7),⟨by decide,fun x q h0 h1=>mkCellS_k h0 h1⟩,(by decide:6<7),trivial⟩) h0 h1
theorem bdEventS (z:D):ctEventS (cpEventS z)≤16*sizeEventS z:=bd_deep (f:=fun r=>cpEvent (sub r 0 7)) (s:=fun r=>sizeEvent (sub r 0 7)) (fun r=>by
 show 1+(1+(1+(1+(1+(ctCellS (cpCellS (gd r 5))+(1+(0)))))))≤16+16*(sizeCellS (gd r 5))
 have:=bdCellS (gd r 5)
 omega) z
abbrev mkTownT:FuncId→List T→Option (T × Bool):=find [mkAtlasE,mkShardSE,mkCoordE,mkClientSE,mkLetterSE,mkEventSE]
theorem mkTownT_ok:CallOk Tryz.prog mkTownT:=find_ok (fC ⟨mkAtlas_ok,fC ⟨mkShardS_ok,fC ⟨mkCoord_ok,fC ⟨mkClientS_ok,fC ⟨mkLetterS_ok,fC ⟨mkEventS_ok,fN⟩⟩⟩⟩⟩⟩)
abbrev mkTownK:List Nat:= [0,1,2,4]
def mkTown (p:List D) (q:D):List D:=
 let r1:=mkAtlas (sub p 0 9) q
 let r2:=mkShardS ([gd p 9]) (gd r1 0)
 let r3:=mkCoord (sub p 10 2) (gd r2 0)
 let r4:=mkClientS ([gd p 12]) (gd r3 0)
 let r5:=mkLetterS ([gd p 13]) (gd r4 0)
 let r6:=mkEventS ([gd p 14]) (gd r5 0)
 [gd r6 0,gd p 0,.l (gd r1 2).rows,gd p 2,gd p 3,gd p 4,gd p 5,gd p 6,gd p 7,.l (gd r1 9).rows,.l (gd r2 1).rows,.l (gd r3 1).rows,.l (gd r3 2).rows,.l (gd r4 1).rows,.l (gd r5 1).rows,.l (gd r6 1).rows]
def ctTown (p:List D):Nat:=ctAtlas (sub p 0 9)+(ctShardS (gd p 9)+(ctCoord (sub p 10 2)+(ctClientS (gd p 12)+(ctLetterS (gd p 13)+(ctEventS (gd p 14))))))
theorem mkTown_ev (p:List D) (q:D):evFnM Tryz.prog mkTownT 0 mkTownK Tryz.f33 [⟨ag rITown,p⟩,.c (.d si) q]=some (bo,some (1,mkTown p q)):=by kernel_rfl
def mkTownE:Ent:=(33,eM (ag rITown) fun p q=>(⟨shM,mkTown p q⟩,true))
theorem mkTown_ok:EntOk Tryz.prog mkTownE:=eM_ok fun p q _=>evFnM_sound (N:=0) (ks:=mkTownK) (key:=bo) mkTownT_ok (enters Tryz.func33) Tryz.func33 fun hw=>mkTown_ev p q
theorem mkTown_k {p:List D} {q:D} (h0:0≤q.int) (h1:q.int+ctTown p≤4611686018427387904):(gd (mkTown p q) 0).int=q.int+ctTown p:=by
 unfold ctTown at h1 ⊢
 have e1:=mkAtlas_k (p:=sub p 0 9) (q:=q) (by omega) (by omega)
 have e2:=mkShardS_k (x:=gd p 9) (q:=gd (mkAtlas (sub p 0 9) q) 0) (by omega) (by omega)
 have e3:=mkCoord_k (p:=sub p 10 2) (q:=gd (mkShardS [gd p 9] (gd (mkAtlas (sub p 0 9) q) 0)) 0) (by omega) (by omega)
 have e4:=mkClientS_k (x:=gd p 12) (q:=gd (mkCoord (sub p 10 2) (gd (mkShardS [gd p 9] (gd (mkAtlas (sub p 0 9) q) 0)) 0)) 0) (by omega) (by omega)
 have e5:=mkLetterS_k (x:=gd p 13) (q:=gd (mkClientS [gd p 12] (gd (mkCoord (sub p 10 2) (gd (mkShardS [gd p 9] (gd (mkAtlas (sub p 0 9) q) 0)) 0)) 0)) 0) (by omega) (by omega)
 have e6:=mkEventS_k (x:=gd p 14) (q:=gd (mkLetterS [gd p 13] (gd (mkClientS [gd p 12] (gd (mkCoord (sub p 10 2) (gd (mkShardS [gd p 9] (gd (mkAtlas (sub p 0 9) q) 0)) 0)) 0)) 0)) 0) (by omega) (by omega)
 show (gd (mkEventS [gd p 14] (gd (mkLetterS [gd p 13] (gd (mkClientS [gd p 12] (gd (mkCoord (sub p 10 2) (gd (mkShardS [gd p 9] (gd (mkAtlas (sub p 0 9) q) 0)) 0)) 0)) 0)) 0)) 0).int=_
 omega
theorem bdTown (p:List D):ctTown (cpTown p)≤16*sizeTown p:=by
 have:=bdAtlas (sub p 0 9)
 have:=bdShardS (gd p 9)
 have:=bdCoord (sub p 10 2)
 have:=bdClientS (gd p 12)
 have:=bdLetterS (gd p 13)
 have:=bdEventS (gd p 14)
 show ctAtlas (cpAtlas (sub p 0 9))+(ctShardS (cpShardS (gd p 9))+(ctCoord (cpCoord (sub p 10 2))+(ctClientS (cpClientS (gd p 12))+(ctLetterS (cpLetterS (gd p 13))+(ctEventS (cpEventS (gd p 14)))))))≤16*(sizeAtlas (sub p 0 9)+(sizeShardS (gd p 9)+(sizeCoord (sub p 10 2)+(sizeClientS (gd p 12)+(sizeLetterS (gd p 13)+(sizeEventS (gd p 14)))))))
 omega
end Go.Proofs.YtchceahcaaibcaaGreat
namespace Go.Proofs.YtchceahcaaibcaaGreat
set_option maxRecDepth 4096
set_option maxHeartbeats 1000000
abbrev hdIntST:FuncId→List T→Option (T × Bool):=find []
theorem hdIntST_ok:CallOk Tryz.prog hdIntST:=find_ok (fN)
abbrev hdIntSK:List Nat:= [0,1,4,5,9,17]
noncomputable def hdIntSL (N:Nat) (p q:List D):List D→Out:=loopOf Tryz.prog hdIntST N hdIntSK Tryz.f35 ri [⟨sd (.sl 3),p⟩,⟨ri,q⟩] 0
def hdIntSf:List Fh:= [.i 0]
def hdIntS (x q:D):D:=hdAll hdIntSf x q
theorem hdIntSR (N:Nat) (p q:List D) (x0 x1 x2 x3:D):hdIntSL N p q [x0,x1,x2,x3]=bif ltI x3.int (x0.rows.length:Int) then hrnd x3.int x0.rows hdIntSf x1 (fun k=>nx [x0,k,x2,.i (w64 (x3.int+1))]) else ex 0 [x0,x1,x2,x3]:=by kernel_rfl
theorem hdIntS_ev (N:Nat) (p q:List D):evFn Tryz.prog hdIntST N hdIntSK Tryz.f35 ri [⟨sd (.sl 3),p⟩,⟨ri,q⟩]=some (bo,(let o0:=iter (hdIntSL N p q) N [gd p 0,gd q 0,.i 0,.i 0]; nd o0.isSome (bif o0.code==1 then some (1,o0.pay) else nd (o0.code==2) (some (1,[gd o0.pay 1]))))):=by kernel_rfl
def hdIntSE:Ent:=(35,e2 (sd (.sl 3)) ri fun p q=>(⟨ri,[hdIntS (gd p 0) (gd q 0)]⟩,true))
theorem hdIntS_ok:EntOk Tryz.prog hdIntSE:=e2_ok fun p q _=>hd_sound (L:=hdIntSL) (fs:=hdIntSf) (ks:=hdIntSK) hdIntST_ok (enters Tryz.func35) Tryz.func35 (fun N x0 x1 x2 x3=>hdIntSR N p q x0 x1 x2 x3) (fun N=>hdIntS_ev N p q)
theorem heldIntS {x q:D} (h0:0≤q.int) (h1:q.int+ctIntS x≤4611686018427387904):hdIntS (gd (mkIntS [x] q) 1) q=gd (mkIntS [x] q) 0:=held_all (w:=1) (fs:=mkIntSf) (hs:=hdIntSf) (by
 unfold mkIntSf hdIntSf
 exact ⟨(rfl:0=0),trivial⟩) (by decide) (by
 unfold mkIntSf
 exact ⟨(by decide:0<1),trivial⟩) h0 h1
end Go.Proofs.YtchceahcaaibcaaGreat
namespace Go.Proofs.YtchceahcaaibcaaGreat
open Go.ChangeShapes Go.WideShapes Go.ChangeAt Go.RowKit Go.Deep
def prot0 (w:World) (b:Nat):Nat:=
 match w.heap[b]? with
 | some (.cells arr _ _)=>arr.size
 | _=>0
theorem prot0_cell {w:World} {b o:Nat} {u:Value} (h:w.cell? ⟨b,o,none⟩=some u):o<prot0 w b:=by
 unfold World.cell? at h
 simp only at h
 unfold prot0
 cases hb:w.heap[b]? with
 | none=>rw [hb] at h; cases h
 | some x =>
  rw [hb] at h
  cases x with
  | cells arr t f =>
   simp only at h ⊢
   exact (Array.getElem?_eq_some_iff.1 h).1
  | _=>simp at h
theorem prot0_fresh {w:World} {b:Nat} (h:w.heap.size≤b):prot0 w b=0:=by
 unfold prot0
 rw [Array.getElem?_eq_none h]
def coverB (P:Program) (row:List S) (fs:Array Field):Bool:=
 (List.range row.length).all fun j=>(List.range fs.size).any fun i=>match fs[i]? with
  | some f=>match rowOf P f.type with
   | some rf=>decide (f.offset≤j)&&decide (j<f.offset+rf.length)&&rf.length==P.cellsOf f.type&&rf[j - f.offset]?==row[j]?
   | none=>false
  | none=>false
def layB (P:Program):Nat→TypeId→Bool
 | 0,_=>false
 | n+1,T=>match P.underlying T,rowOf P T with
  | some (.int k),some row=>row == [.int k]
  | some .bool,some row=>row == [.bool]
  | some .string,some row=>row == [.str]
  | some (.slice e),some row=>row == [.sl e]&&(match rowOf P e with | some re=>P.cellsOf e==re.length && !re.isEmpty&&layB P n e | none=>false)
  | some (.struct fs),some row=>coverB P row fs&&P.cellsOf T==row.length&&fs.toList.all fun f=>layB P n f.type
  | _,_=>false
theorem choose_pay {Q:Nat→D→Prop} (n:Nat) (h:∀ i,i<n→∃ x,Q i x):∃ l:List D,l.length=n∧∀ i,i<n→Q i (gd l i):=by
 induction n with
 | zero=>exact ⟨[],rfl,fun i hi=>by omega⟩
 | succ n ih =>
  obtain ⟨l,hl,hq⟩:=ih (fun i hi=>h i (by omega))
  obtain ⟨x,hx⟩:=h n (by omega)
  refine ⟨l ++ [x],by simp [hl],fun i hi=>?_⟩
  by_cases hin:i<n
  ·have:gd (l ++ [x]) i=gd l i:=by
    simp only [gd,List.getD_eq_getElem?_getD]
    rw [List.getElem?_append_left (by omega)]
   rw [this]; exact hq i hin
  ·obtain rfl:i=n:=by omega
   have:gd (l ++ [x]) i=x:=by
    simp only [gd,List.getD_eq_getElem?_getD]
    rw [List.getElem?_append_right (by omega),hl]
    simp
   rw [this]; exact hx
theorem choose_rows {Q:Nat→List D→Prop} (n:Nat) (h:∀ i,i<n→∃ x,Q i x):∃ l:List (List D),l.length=n∧∀ i,i<n→Q i (l.getD i []):=by
 induction n with
 | zero=>exact ⟨[],rfl,fun i hi=>by omega⟩
 | succ n ih =>
  obtain ⟨l,hl,hq⟩:=ih (fun i hi=>h i (by omega))
  obtain ⟨x,hx⟩:=h n (by omega)
  refine ⟨l ++ [x],by simp [hl],fun i hi=>?_⟩
  by_cases hin:i<n
  ·rw [List.getD_eq_getElem?_getD,List.getElem?_append_left (by omega),← List.getD_eq_getElem?_getD]; exact hq i hin
  ·obtain rfl:i=n:=by omega
   rw [List.getD_eq_getElem?_getD,List.getElem?_append_right (by omega),hl]
   simpa using hx
theorem spot_none' {w:World} {a:Addr} {v:Value} (h:w.cell? a=some v):a=⟨a.block,a.off,none⟩:=by
 cases hs:a.spot with
 | none=>cases a; simp at hs; subst hs; rfl
 | some s =>
  unfold World.cell? at h
  rw [hs] at h
  simp at h
  split at h <;> simp at h
theorem add_mk' {b o i:Nat}:(⟨b,o,none⟩:Addr).add i=⟨b,o+i,none⟩:=by
 unfold Addr.add
 split
 ·rename_i h; rw [h]; rfl
 ·rfl
theorem trod_vd {H:Type} {enc:TypeId × Value→H} {P:Program} {W:World} {base:Nat} {spare:Nat→Bool} {held:Bool}:∀ (n:Nat) (T:TypeId) (row:List S),layB P n T=true→rowOf P T=some row →
  ∀ (fuel:Nat) (cs:List Value) (y:DataW H × List MemPlace),DataW.trod enc P W base spare held fuel T cs=some y →
  ∃ p:List D,cs.length=row.length∧∀ j s,row[j]?=some s→∃ u,cs[j]?=some u∧VD P W (prot0 W) s (gd p j) u
 | 0,T,row,hl,_,_,_,_,_=>by cases hl
 | n+1,T,row,hl,hrow,fuel,cs,y,h=>by
  rw [layB,hrow] at hl
  split at hl
  ·rename_i k row' hu hr'
   injection hr' with hr'; subst hr'
   have hl:row = [.int k]:=by simpa using hl
   subst hl
   obtain ⟨a,e,_,_⟩:=DataW.trod_int hu h
   subst e
   refine ⟨[.i a],rfl,fun j s hs=>?_⟩
   match j,hs with
   | 0,hs=>injection hs with hs; subst hs; exact ⟨_,rfl,.int k (.i a)⟩
  ·rename_i row' hu hr'
   injection hr' with hr'; subst hr'
   have hl:row = [.bool]:=by simpa using hl
   subst hl
   obtain ⟨a,e,_⟩:=DataW.trod_bool hu h
   subst e
   refine ⟨[.b a],rfl,fun j s hs=>?_⟩
   match j,hs with
   | 0,hs=>injection hs with hs; subst hs; exact ⟨_,rfl,.bool (.b a)⟩
  ·rename_i row' hu hr'
   injection hr' with hr'; subst hr'
   have hl:row = [.str]:=by simpa using hl
   subst hl
   obtain ⟨a,e,_⟩:=DataW.trod_string hu h
   subst e
   refine ⟨[.s (byteList a)],rfl,fun j s hs=>?_⟩
   match j,hs with
   | 0,hs =>
    injection hs with hs; subst hs
    have:=VD.str (P:=P) (w:=W) (prot:=prot0 W) (.s (byteList a))
    rw [str_s,bsv_byteList] at this
    exact ⟨_,rfl,this⟩
  ·rename_i e row' hu hr'
   injection hr' with hr'; subst hr'
   simp only [Bool.and_eq_true] at hl
   obtain ⟨hl0,hl⟩:=hl
   have hl0:row = [.sl e]:=by simpa using hl0
   subst hl0
   split at hl
   ·rename_i re hre
    simp only [Bool.and_eq_true,beq_iff_eq,Bool.not_eq_true'] at hl
    obtain ⟨⟨hc,hne⟩,hle⟩:=hl
    have hpos:0<re.length:=by cases re with | nil=>cases hne | cons=>simp
    rcases open_slice hu h with ⟨rfl,_⟩ | ⟨a,len,cap,m,nn,Dd,Pl,rfl,hb,hlc,hm,hmm,hx,hi⟩
    ·refine ⟨[.l []],rfl,fun j s hs=>?_⟩
     match j,hs with
     | 0,hs=>injection hs with hs; subst hs; exact ⟨_,rfl,.sl e (.l []) none 0 re (fun _ _=>undef) hre (Nat.zero_le _) (by omega) (fun i j hi=>absurd hi (Nat.not_lt_zero _)) (fun i j s hi=>absurd hi (Nat.not_lt_zero _))⟩
    ·have hlm:len≤m:=by rw [hmm]; split <;> omega
     have ha:0<len→a=⟨a.block,a.off,none⟩:=by
      intro h0
      obtain ⟨cs0,hc0,_⟩:=hi 0 (by omega)
      rw [hc] at hc0
      obtain ⟨_,hcl0,hat0⟩:=World.cells?_some hc0
      have h00:=hat0 0 hpos
      rw [List.getElem?_eq_getElem (by omega)] at h00
      have:=spot_none' h00
      rw [Nat.zero_mul] at this
      simpa [Addr.add] using this
     have hq:∀ i,i<len→∃ p:List D,∀ j s,re[j]?=some s→∃ u,W.cell? ⟨a.block,a.off+(i*re.length+j),none⟩=some u∧VD P W (prot0 W) s (gd p j) u:=by
      intro i hil
      obtain ⟨cs',hcs,htr⟩:=hi i (by omega)
      rw [hc] at hcs
      obtain ⟨_,hcl,hat⟩:=World.cells?_some hcs
      obtain ⟨p,_,hp⟩:=trod_vd n e re hle hre nn cs' _ htr
      refine ⟨p,fun j s hs=>?_⟩
      obtain ⟨u,hu,hv⟩:=hp j s hs
      have hj:=(List.getElem?_eq_some_iff.1 hs).1
      have:=hat j hj
      rw [hu,ha (by omega),add_mk',add_mk'] at this
      refine ⟨u,?_,hv⟩
      rw [← this]; congr 2; omega
     obtain ⟨l,hll,hlq⟩:=choose_rows len hq
     refine ⟨[.l l],rfl,fun j s hs=>?_⟩
     match j,hs with
     | 0,hs =>
      injection hs with hs; subst hs
      refine ⟨_,rfl,?_⟩
      have hsl:=VD.sl (P:=P) (w:=W) (prot:=prot0 W) e (.l l) (some a) cap re (fun i j=>(W.cell? ⟨a.block,a.off+(i*re.length+j),none⟩).getD undef) hre (by rw [rows_l]; omega) (by unfold maxLen at hm; omega) ?_ ?_
      ·rw [rows_l,hll] at hsl; exact hsl
      ·intro i j hi hj
       rw [rows_l,hll] at hi
       obtain ⟨u,hu,_⟩:=hlq i hi j re[j] (List.getElem?_eq_getElem hj)
       refine ⟨a.block,a.off,by rw [← ha (by omega)],?_,prot0_cell hu⟩
       rw [hu]; rfl
      ·intro i j s hi hs
       rw [rows_l,hll] at hi
       obtain ⟨u,hu,hv⟩:=hlq i hi j s hs
       show VD P W (prot0 W) s (gd (l.getD i []) j) ((W.cell? ⟨a.block,a.off+(i*re.length+j),none⟩).getD undef)
       rw [hu]; exact hv
   ·cases hl
  ·rename_i fs row' hu hr'
   injection hr' with hr'; subst hr'
   simp only [Bool.and_eq_true,beq_iff_eq] at hl
   obtain ⟨⟨hcov,hct⟩,hall⟩:=hl
   obtain ⟨xs,nn,_,_,hlen,hlx,hg⟩:=DataW.trod_struct hu h
   rw [hct] at hlen
   have hq:∀ j,j<row.length→∃ d:D,∀ s,row[j]?=some s→∃ u,cs[j]?=some u∧VD P W (prot0 W) s d u:=by
    intro j hj
    unfold coverB at hcov
    rw [List.all_eq_true] at hcov
    have hcj:=hcov j (List.mem_range.2 hj)
    rw [List.any_eq_true] at hcj
    obtain ⟨i,hi,hci⟩:=hcj
    have hi:=List.mem_range.1 hi
    split at hci
    ·rename_i f hf
     split at hci
     ·rename_i rf hrf
      simp only [Bool.and_eq_true,decide_eq_true_eq,beq_iff_eq] at hci
      obtain ⟨⟨⟨k1,k2⟩,k3⟩,k4⟩:=hci
      have hlf:layB P n f.type=true:=by
       rw [List.all_eq_true] at hall
       exact hall f (by
        have:=Array.getElem?_eq_some_iff.1 hf
        obtain ⟨h1,h2⟩:=this
        rw [← h2]; simp)
      have htr:=hg i f hf
      rw [List.getElem?_eq_getElem (by rw [hlx]; exact hi)] at htr
      obtain ⟨p,hpl,hp⟩:=trod_vd n f.type rf hlf hrf nn _ _ htr
      refine ⟨gd p (j - f.offset),fun s hs=>?_⟩
      rw [hs] at k4
      obtain ⟨u,hu',hv⟩:=hp _ _ k4
      refine ⟨u,?_,hv⟩
      rw [List.getElem?_take_of_lt (by omega),List.getElem?_drop] at hu'
      rw [← hu']; congr 1; omega
     ·cases hci
    ·cases hci
   obtain ⟨p,_,hp⟩:=choose_pay row.length hq
   exact ⟨p,hlen,fun j s hs=>hp j (List.getElem?_eq_some_iff.1 hs).1 s hs⟩
  ·cases hl
theorem arg_agg {H:Type} {enc:TypeId × Value→H} {P:Program} {W:World} {base:Nat} {spare:Nat→Bool} {held:Bool} {r:Reach} {b0:Nat} {T:TypeId} {fs:Array Field} {row:List S} {v:Value} {d:DataW H} {ps:List MemPlace}
  (hs:P.underlying T=some (.struct fs)) (hrow:rowOf P T=some row) (hl:layB P 12 T=true) (hv:Value.okWide P W r b0 T v) (hy:DataW.Trod enc P W base spare held T v d ps) :
  ∃ p,VT P W (g0 W.heap.size (prot0 W)) W.heap.size ⟨.one (.agg (row.map .d)),p⟩ v:=by
 obtain ⟨cs,rfl,hsz⟩:=okWide_struct hs hv
 obtain ⟨fuel,hf⟩:=hy
 obtain ⟨p,hpl,hp⟩:=trod_vd 12 T row hl hrow fuel _ _ hf
 refine ⟨p,cs,rfl,?_,fun j c hc=>?_⟩
 ·have:cs.toList.length=row.length:=hpl
  simpa using this
 ·rw [List.getElem?_map] at hc
  cases hr:row[j]? with
  | none=>rw [hr] at hc; cases hc
  | some s =>
   rw [hr] at hc
   injection hc with hc
   subst hc
   obtain ⟨u,hu,hvd⟩:=hp j s hr
   have hu:cs.toList[j]?=some u:=hu
   exact ⟨u,by simpa using hu,hvd⟩
theorem arg_one {H:Type} {enc:TypeId × Value→H} {P:Program} {W:World} {base:Nat} {spare:Nat→Bool} {held:Bool} {T:TypeId} {s:S} {v:Value} {d:DataW H} {ps:List MemPlace}
  (hrow:rowOf P T=some [s]) (hl:layB P 12 T=true) (hv:v.cells.toList = [v]) (hy:DataW.Trod enc P W base spare held T v d ps) :
  ∃ p,VT P W (g0 W.heap.size (prot0 W)) W.heap.size ⟨.one (.c (.d s)),p⟩ v:=by
 obtain ⟨fuel,hf⟩:=hy
 rw [hv] at hf
 obtain ⟨p,_,hp⟩:=trod_vd 12 T [s] hl hrow fuel _ _ hf
 obtain ⟨u,hu,hvd⟩:=hp 0 s rfl
 injection hu with hu
 subst hu
 exact ⟨p,hvd⟩
theorem args_2 {P:Program} {W:World} {t t1:T} {v v1:Value} (h:VT P W (g0 W.heap.size (prot0 W)) W.heap.size t v) (h1:VT P W (g0 W.heap.size (prot0 W)) W.heap.size t1 v1):ArgsV P (prot0 W) W [t,t1] #[v,v1]:=⟨rfl,fun j t' hj=>by
 match j,hj with
 | 0,hj=>injection hj with hj; subst hj; exact ⟨v,rfl,h⟩
 | 1,hj=>injection hj with hj; subst hj; exact ⟨v1,rfl,h1⟩⟩
theorem ev_walk {P:Program} {f:FuncId} {args:List T} {b:Bool} (h:SoundFn P f args ⟨rb,[.b b]⟩) {W:World} {vs:Array Value} (ha:ArgsV P (prot0 W) W args vs) :
  Calls P f vs W fun e W'=>e=.returned (.bool b)∧Below W.heap.size W W':=by
 refine ((h.n rfl).2 W (prot0 W) vs ha (fun b hb=>prot0_fresh hb)).mono fun e W' hx=>?_
 obtain ⟨v,g',rfl,hres⟩:=hx
 have hv:VD P W' g'.prot .bool (.b b) v:=hres.val
 cases hv
 exact ⟨rfl,hres.below⟩
end Go.Proofs.YtchceahcaaibcaaGreat
namespace Go.Proofs.YtchceahcaaibcaaGreat
set_option maxRecDepth 4096
set_option maxHeartbeats 1000000
abbrev l_TownFreeT:FuncId→List T→Option (T × Bool):=find [szTownE,toTowndE,s_TownFreeE,i_TownFreeE,eqIntSE,eqTownE,mkTownE,mkIntSE,hdIntSE,apartE]
theorem l_TownFreeT_ok:CallOk Tryz.prog l_TownFreeT:=find_ok (fC ⟨szTown_ok,fC ⟨toTownd_ok,fC ⟨s_TownFree_ok,fC ⟨i_TownFree_ok,fC ⟨eqIntS_ok,fC ⟨eqTown_ok,fC ⟨mkTown_ok,fC ⟨mkIntS_ok,fC ⟨hdIntS_ok,fC ⟨apart_ok,fN⟩⟩⟩⟩⟩⟩⟩⟩⟩⟩)
abbrev l_TownFreeK:List Nat:= [0,1,2,4,5,6,7,8,9,10,11,12,17,30,35,46,54,57,65,70,73]
theorem l_TownFree_ev (N:Nat) (p q:List D):evFn Tryz.prog l_TownFreeT N l_TownFreeK Tryz.f10 rb [⟨ag rLTown,p⟩,⟨ri,q⟩]=some (bo,
 nd (fair 1048576) (bif ltI (left (sizeTown (sub p 0 15)) 1048576) 0 then ob true
 else nd (okTown (sub p 0 15)) (nd (okTown (sub p 0 15)) (nd (townSmall (sub (cpTown (sub p 0 15)) 0 15)) (bif !(eqIntS (townFree (sub (cpTown (sub p 0 15)) 0 15) [(gd q 0)]) (townFree (sub (cpTown (sub p 0 15)) 0 15) [(gd q 0)])) then ob false
 else nd (okTown (sub p 0 15)) (bif !(eqTown (sub (cpTown (sub p 0 15)) 0 15) (sub (cpTown (sub p 0 15)) 0 15)) then ob false
 else bif ltI (gd (mkTown (sub (cpTown (sub p 0 15)) 0 15) (.i 1)) 0).int 0 then ob false
 else bif !(eqIntS (townFree (sub (cpTown (sub p 0 15)) 0 15) [(gd q 0)]) (townFree (sub (cpTown (sub p 0 15)) 0 15) [(gd q 0)])) then ob false
 else bif ltI (hdIntS (.l (gd (mkIntS [townFree (sub (cpTown (sub p 0 15)) 0 15) [(gd q 0)]] (.i 1)) 1).rows) (.i 1)).int 0 then ob false
 else bif (hdIntS (.l (gd (mkIntS [townFree (sub (cpTown (sub p 0 15)) 0 15) [(gd q 0)]] (.i 1)) 1).rows) (.i 1)).int != (gd (mkIntS [townFree (sub (cpTown (sub p 0 15)) 0 15) [(gd q 0)]] (.i 1)) 0).int then ob false
 else nd (okTown (sub p 0 15)) (nd (townSmall (sub (cpTown (sub p 0 15)) 0 15)) (bif !(eqIntS (townFree (sub (cpTown (sub p 0 15)) 0 15) [(gd q 0)]) (townFree (sub (cpTown (sub p 0 15)) 0 15) [(gd q 0)])) then ob false
 else bif ltI (hdIntS (.l (gd (mkIntS [townFree (sub (cpTown (sub p 0 15)) 0 15) [(gd q 0)]] (.i 1)) 1).rows) (.i 1)).int 0 then ob false
 else bif (hdIntS (.l (gd (mkIntS [townFree (sub (cpTown (sub p 0 15)) 0 15) [(gd q 0)]] (.i 1)) 1).rows) (.i 1)).int != (gd (mkIntS [townFree (sub (cpTown (sub p 0 15)) 0 15) [(gd q 0)]] (.i 1)) 0).int then ob false
 else ob true)))))))):=by kernel_rfl
theorem townFree_len (p q:List D):(townFree p q).rows.length≤4:=by
 unfold townFree
 cases ht:townOk p with
 | false=>simp [D.rows]
 | true =>
  have h4:=town_n ht
  cases inB (gd q 0).int 0 999
  ·simp [D.rows]
  ·have:=freeRows_le (townFreeCF p q) (gd p 9).rows.length
   show (freeRows (townFreeCF p q) (gd p 9).rows.length).length≤4
   omega
theorem ctIntS_len (x:D):ctIntS x=x.rows.length:=by
 unfold ctIntS
 generalize x.rows=l
 induction l with
 | nil=>rfl
 | cons r l ih =>
  have e:total (cFs mkIntSf) (r::l)=1+total (cFs mkIntSf) l:=by simp [total,mkIntSf,cFs,cF]
  rw [e,ih,List.length_cons]; omega
def l_TownFreeE:Ent:=(10,e2 (ag rLTown) ri fun p q=>(⟨rb,[.b true]⟩,true))
theorem l_TownFree_ok:EntOk Tryz.prog l_TownFreeE:=e2_ok fun p q h=>evFn_sound (N:=0) (ks:=l_TownFreeK) (key:=bo) l_TownFreeT_ok (enters Tryz.func10) Tryz.func10 fun hw=>by
 rw [l_TownFree_ev]
 simp only [show okTown (sub p 0 15)=okTown p from rfl,show sizeTown (sub p 0 15)=sizeTown p from rfl,show townSmall (sub (cpTown (sub p 0 15)) 0 15)=townSmall (cpTown p) from rfl,show eqTown (sub (cpTown (sub p 0 15)) 0 15) (sub (cpTown (sub p 0 15)) 0 15)=true from eqTown_refl _,eqIntS_refl]
 rw [show fair 1048576=true from rfl]
 cases h0:ltI (left (sizeTown p) 1048576) 0
 ·obtain ⟨e0,l0⟩:=left_ge h0 (by omega)
  have l0:sizeTown p≤1048576:=by omega
  rw [okTown_of (m:=1048576) (by omega) (show sizeTown p≤1048576 from l0),town_small l0]
  have hb:=bdTown p
  have hk:=mkTown_k (p:=sub (cpTown (sub p 0 15)) 0 15) (q:=.i 1) (by decide) (by
   show (1:Int)+(ctTown (cpTown p):Nat)≤_
   omega)
  have hk0:ltI (gd (mkTown (sub (cpTown (sub p 0 15)) 0 15) (.i 1)) 0).int 0=false:=ltI_f (by rw [hk]; show 0≤(1:Int)+_; omega)
  generalize hx:townFree (sub (cpTown (sub p 0 15)) 0 15) [gd q 0]=x
  have hxl:x.rows.length≤4:=by rw [← hx]; exact townFree_len _ _
  have hc:(D.i 1).int+ctIntS x≤4611686018427387904:=by rw [ctIntS_len]; show (1:Int)+_≤_; omega
  have hh:hdIntS (.l (gd (mkIntS [x] (.i 1)) 1).rows) (.i 1)=gd (mkIntS [x] (.i 1)) 0:=heldIntS (by decide) hc
  have hm:=mkIntS_k (x:=x) (q:=.i 1) (by decide) hc
  rw [hh,hk0,show ltI (gd (mkIntS [x] (.i 1)) 0).int 0=false from ltI_f (by rw [hm]; show 0≤(1:Int)+_; omega)]
  simp only [nd,cond_true,cond_false,beq_self_eq_true,bne_self_eq_false,Bool.not_true]
 ·rfl
end Go.Proofs.YtchceahcaaibcaaGreat
