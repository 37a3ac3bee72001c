/-
 Texts of the proof,put together: part 8.
-/
import Derived.Test.YthbbbhpjkgpdcaaGreatOR1
import Derived.Test.YthbbbhpjkgpdcaaGreatOR2
import Derived.Test.YthbbbhpjkgpdcaaGreatOR3
import Derived.Test.YthbbbhpjkgpdcaaGreatOR4
import Derived.Test.YthbbbhpjkgpdcaaGreatOR5
import Derived.Test.YthbbbhpjkgpdcaaGreatOR6
import Derived.Test.YthbbbhpjkgpdcaaGreatOR7
set_option linter.unusedSimpArgs false
set_option linter.unusedVariables false
set_option linter.unusedSectionVars false
namespace Go.Proofs.YthbbbhpjkgpdcaaGreat
set_option maxRecDepth 4096
set_option maxHeartbeats 1000000
abbrev mkSeatST:FuncId→List T→Option (T × Bool):=find []
theorem mkSeatST_ok:CallOk Tryz.prog mkSeatST:=find_ok (fN)
abbrev mkSeatSK:List Nat:= [0,1,4,5,9]
noncomputable def mkSeatSL (N:Nat) (p:List D) (q:D):List D→Out:=loopOfM Tryz.prog mkSeatST N mkSeatSK Tryz.f54 [⟨sd (.sl 69),p⟩,.c (.d si) q] 0
def mkSeatSf:List Fld:= [.i 0,.i 1,.i 2]
def mkSeatS (p:List D) (q:D):List D:=mkAll (rowF 3 mkSeatSf) (gd p 0) q
def ctSeatS (z:D):Nat:=total (cFs mkSeatSf) z.rows
theorem mkSeatSR (N:Nat) (p:List D) (q x0 x1 x2 x3:D):mkSeatSL N p q [x0,x1,x2,x3]=bif ltI x3.int (x0.rows.length:Int) then rnd 3 x3.int mkSeatSf x0.rows x1 (fun rows k=>nx [.l rows,k,x2,.i (w64 (x3.int+1))]) else ex 0 [x0,x1,x2,x3]:=by kernel_rfl
theorem mkSeatS_ev (N:Nat) (p:List D) (q:D):evFnM Tryz.prog mkSeatST N mkSeatSK Tryz.f54 [⟨sd (.sl 69),p⟩,.c (.d si) q]=some (bo,(let o0:=iter (mkSeatSL N p q) N [gd p 0,q,.i 0,.i 0]; nd o0.isSome (nd (o0.code==2) (some (1,[gd o0.pay 1,gd o0.pay 0]))))):=by kernel_rfl
def mkSeatSE:Ent:=(54,eM (sd (.sl 69)) fun p q=>(⟨shM,mkSeatS p q⟩,true))
theorem mkSeatS_ok:EntOk Tryz.prog mkSeatSE:=eM_ok fun p q _=>mk_sound (L:=mkSeatSL) (fs:=mkSeatSf) (w:=3) (ks:=mkSeatSK) mkSeatST_ok (enters Tryz.func54) Tryz.func54 (fun N x0 x1 x2 x3=>mkSeatSR N p q x0 x1 x2 x3) (fun N=>mkSeatS_ev N p q)
theorem mkSeatS_k {x q:D} (h0:0≤q.int) (h1:q.int+ctSeatS x≤4611686018427387904):(gd (mkSeatS [x] q) 0).int=q.int+ctSeatS x:=mkAll_k (w:=3) (fs:=mkSeatSf) (by decide) (by
 unfold mkSeatSf
 exact ⟨(by decide:0<3),(by decide:1<3),(by decide:2<3),trivial⟩) h0 h1
theorem bdSeatS (z:D):ctSeatS (cpSeatS z)≤16*sizeSeatS z:=bd_flat (f:=fun r=>cpSeat (sub r 0 3)) (fun r=>by show 1+(1+(1+(0)))≤16; omega) z
abbrev mkEntryST:FuncId→List T→Option (T × Bool):=find []
theorem mkEntryST_ok:CallOk Tryz.prog mkEntryST:=find_ok (fN)
abbrev mkEntrySK:List Nat:= [0,1,4,5,9]
noncomputable def mkEntrySL (N:Nat) (p:List D) (q:D):List D→Out:=loopOfM Tryz.prog mkEntryST N mkEntrySK Tryz.f55 [⟨sd (.sl 78),p⟩,.c (.d si) q] 0
def mkEntrySf:List Fld:= [.i 0,.i 1,.i 2,.i 3,.i 4]
def mkEntryS (p:List D) (q:D):List D:=mkAll (rowF 5 mkEntrySf) (gd p 0) q
def ctEntryS (z:D):Nat:=total (cFs mkEntrySf) z.rows
theorem mkEntrySR (N:Nat) (p:List D) (q x0 x1 x2 x3:D):mkEntrySL N p q [x0,x1,x2,x3]=bif ltI x3.int (x0.rows.length:Int) then rnd 5 x3.int mkEntrySf x0.rows x1 (fun rows k=>nx [.l rows,k,x2,.i (w64 (x3.int+1))]) else ex 0 [x0,x1,x2,x3]:=by kernel_rfl
theorem mkEntryS_ev (N:Nat) (p:List D) (q:D):evFnM Tryz.prog mkEntryST N mkEntrySK Tryz.f55 [⟨sd (.sl 78),p⟩,.c (.d si) q]=some (bo,(let o0:=iter (mkEntrySL N p q) N [gd p 0,q,.i 0,.i 0]; nd o0.isSome (nd (o0.code==2) (some (1,[gd o0.pay 1,gd o0.pay 0]))))):=by kernel_rfl
def mkEntrySE:Ent:=(55,eM (sd (.sl 78)) fun p q=>(⟨shM,mkEntryS p q⟩,true))
theorem mkEntryS_ok:EntOk Tryz.prog mkEntrySE:=eM_ok fun p q _=>mk_sound (L:=mkEntrySL) (fs:=mkEntrySf) (w:=5) (ks:=mkEntrySK) mkEntryST_ok (enters Tryz.func55) Tryz.func55 (fun N x0 x1 x2 x3=>mkEntrySR N p q x0 x1 x2 x3) (fun N=>mkEntryS_ev N p q)
theorem mkEntryS_k {x q:D} (h0:0≤q.int) (h1:q.int+ctEntryS x≤4611686018427387904):(gd (mkEntryS [x] q) 0).int=q.int+ctEntryS x:=mkAll_k (w:=5) (fs:=mkEntrySf) (by decide) (by
 unfold mkEntrySf
 exact ⟨(by decide:0<5),(by decide:1<5),(by decide:2<5),(by decide:3<5),(by decide:4<5),trivial⟩) h0 h1
theorem bdEntryS (z:D):ctEntryS (cpEntryS z)≤16*sizeEntryS z:=bd_flat (f:=fun r=>cpEntry (sub r 0 5)) (fun r=>by show 1+(1+(1+(1+(1+(0)))))≤16; omega) z
abbrev mkImageT:FuncId→List T→Option (T × Bool):=find [mkCellSE,mkSeatSE]
theorem mkImageT_ok:CallOk Tryz.prog mkImageT:=find_ok (fC ⟨mkCellS_ok,fC ⟨mkSeatS_ok,fN⟩⟩)
abbrev mkImageK:List Nat:= [0,1,2,4]
def mkImage (p:List D) (q:D):List D:=
 let r1:=mkCellS ([gd p 0]) q
 let r2:=mkSeatS ([gd p 1]) (gd r1 0)
 [gd r2 0,.l (gd r1 1).rows,.l (gd r2 1).rows]
def ctImage (p:List D):Nat:=ctCellS (gd p 0)+(ctSeatS (gd p 1))
theorem mkImage_ev (p:List D) (q:D):evFnM Tryz.prog mkImageT 0 mkImageK Tryz.f98 [⟨ag rIImage,p⟩,.c (.d si) q]=some (bo,some (1,mkImage p q)):=by kernel_rfl
def mkImageE:Ent:=(98,eM (ag rIImage) fun p q=>(⟨shM,mkImage p q⟩,true))
theorem mkImage_ok:EntOk Tryz.prog mkImageE:=eM_ok fun p q _=>evFnM_sound (N:=0) (ks:=mkImageK) (key:=bo) mkImageT_ok (enters Tryz.func98) Tryz.func98 fun hw=>mkImage_ev p q
theorem mkImage_k {p:List D} {q:D} (h0:0≤q.int) (h1:q.int+ctImage p≤4611686018427387904):(gd (mkImage p q) 0).int=q.int+ctImage p:=by
 unfold ctImage at h1 ⊢
 have e1:=mkCellS_k (x:=gd p 0) (q:=q) (by omega) (by omega)
 have e2:=mkSeatS_k (x:=gd p 1) (q:=gd (mkCellS [gd p 0] q) 0) (by omega) (by omega)
 show (gd (mkSeatS [gd p 1] (gd (mkCellS [gd p 0] q) 0)) 0).int=_
 omega
theorem bdImage (p:List D):ctImage (cpImage p)≤16*sizeImage p:=by
 have:=bdCellS (gd p 0)
 have:=bdSeatS (gd p 1)
 show ctCellS (cpCellS (gd p 0))+(ctSeatS (cpSeatS (gd p 1)))≤16*(sizeCellS (gd p 0)+(sizeSeatS (gd p 1)))
 omega
abbrev mkLogT:FuncId→List T→Option (T × Bool):=find [mkImageE,mkEntrySE]
theorem mkLogT_ok:CallOk Tryz.prog mkLogT:=find_ok (fC ⟨mkImage_ok,fC ⟨mkEntryS_ok,fN⟩⟩)
abbrev mkLogK:List Nat:= [0,1,2,4]
def mkLog (p:List D) (q:D):List D:=
 let r1:=mkImage (sub p 1 2) q
 let r2:=mkEntryS ([gd p 3]) (gd r1 0)
 [gd r2 0,gd p 0,.l (gd r1 1).rows,.l (gd r1 2).rows,.l (gd r2 1).rows]
def ctLog (p:List D):Nat:=ctImage (sub p 1 2)+(ctEntryS (gd p 3))
theorem mkLog_ev (p:List D) (q:D):evFnM Tryz.prog mkLogT 0 mkLogK Tryz.f51 [⟨ag rILog,p⟩,.c (.d si) q]=some (bo,some (1,mkLog p q)):=by kernel_rfl
def mkLogE:Ent:=(51,eM (ag rILog) fun p q=>(⟨shM,mkLog p q⟩,true))
theorem mkLog_ok:EntOk Tryz.prog mkLogE:=eM_ok fun p q _=>evFnM_sound (N:=0) (ks:=mkLogK) (key:=bo) mkLogT_ok (enters Tryz.func51) Tryz.func51 fun hw=>mkLog_ev p q
theorem mkLog_k {p:List D} {q:D} (h0:0≤q.int) (h1:q.int+ctLog p≤4611686018427387904):(gd (mkLog p q) 0).int=q.int+ctLog p:=by
 unfold ctLog at h1 ⊢
 have e1:=mkImage_k (p:=sub p 1 2) (q:=q) (by omega) (by omega)
 have e2:=mkEntryS_k (x:=gd p 3) (q:=gd (mkImage (sub p 1 2) q) 0) (by omega) (by omega)
 show (gd (mkEntryS [gd p 3] (gd (mkImage (sub p 1 2) q) 0)) 0).int=_
 omega
theorem bdLog (p:List D):ctLog (cpLog p)≤16*sizeLog p:=by
 have:=bdImage (sub p 1 2)
 have:=bdEntryS (gd p 3)
 show ctImage (cpImage (sub p 1 2))+(ctEntryS (cpEntryS (gd p 3)))≤16*(sizeImage (sub p 1 2)+(sizeEntryS (gd p 3)))
 omega
abbrev mkVoteST:FuncId→List T→Option (T × Bool):=find [mkCellSE,mkSeatSE,mkEntrySE]
theorem mkVoteST_ok:CallOk Tryz.prog mkVoteST:=find_ok (fC ⟨mkCellS_ok,fC ⟨mkSeatS_ok,fC ⟨mkEntryS_ok,fN⟩⟩⟩)
abbrev mkVoteSK:List Nat:= [0,1,4,5,9]
noncomputable def mkVoteSL (N:Nat) (p:List D) (q:D):List D→Out:=loopOfM Tryz.prog mkVoteST N mkVoteSK Tryz.f52 [⟨sd (.sl 132),p⟩,.c (.d si) q] 0
def mkVoteSf:List Fld:= [.i 0,.i 1,.i 2,.i 3,.i 4,.i 5,.i 6,.m 7 mkCellS ctCellS,.m 8 mkSeatS ctSeatS,.m 9 mkEntryS ctEntryS]
def mkVoteS (p:List D) (q:D):List D:=mkAll (rowF 10 mkVoteSf) (gd p 0) q
def ctVoteS (z:D):Nat:=total (cFs mkVoteSf) z.rows
theorem mkVoteSR (N:Nat) (p:List D) (q x0 x1 x2 x3:D):mkVoteSL N p q [x0,x1,x2,x3]=bif ltI x3.int (x0.rows.length:Int) then rnd 10 x3.int mkVoteSf x0.rows x1 (fun rows k=>nx [.l rows,k,x2,.i (w64 (x3.int+1))]) else ex 0 [x0,x1,x2,x3]:=by kernel_rfl
theorem mkVoteS_ev (N:Nat) (p:List D) (q:D):evFnM Tryz.prog mkVoteST N mkVoteSK Tryz.f52 [⟨sd (.sl 132),p⟩,.c (.d si) q]=some (bo,(let o0:=iter (mkVoteSL N p q) N [gd p 0,q,.i 0,.i 0]; nd o0.isSome (nd (o0.code==2) (some (1,[gd o0.pay 1,gd o0.pay 0]))))):=by kernel_rfl
def mkVoteSE:Ent:=(52,eM (sd (.sl 132)) fun p q=>(⟨shM,mkVoteS p q⟩,true))
theorem mkVoteS_ok:EntOk Tryz.prog mkVoteSE:=eM_ok fun p q _=>mk_sound (L:=mkVoteSL) (fs:=mkVoteSf) (w:=10) (ks:=mkVoteSK) mkVoteST_ok (enters Tryz.func52) Tryz.func52 (fun N x0 x1 x2 x3=>mkVoteSR N p q x0 x1 x2 x3) (fun N=>mkVoteS_ev N p q)
theorem mkVoteS_k {x q:D} (h0:0≤q.int) (h1:q.int+ctVoteS x≤4611686018427387904):(gd (mkVoteS [x] q) 0).int=q.int+ctVoteS x:=mkAll_k (w:=10) (fs:=mkVoteSf) (by decide) (by
 unfold mkVoteSf
 exact ⟨(by decide:0<10),(by decide:1<10),(by decide:2<10),(by decide:3<10),(by decide:4<10),(by decide:5<10),(by decide:6<10),⟨by decide,fun x q h0 h1=>mkCellS_k h0 h1⟩,⟨by decide,fun x q h0 h1=>mkSeatS_k h0 h1⟩,⟨by decide,fun x q h0 h1=>mkEntryS_k h0 h1⟩,trivial⟩) h0 h1
theorem bdVoteS (z:D):ctVoteS (cpVoteS z)≤16*sizeVoteS z:=bd_deep (f:=fun r=>cpVote (sub r 0 10)) (s:=fun r=>sizeVote (sub r 0 10)) (fun r=>by
 show 1+(1+(1+(1+(1+(1+(1+(ctCellS (cpCellS (gd r 7))+(ctSeatS (cpSeatS (gd r 8))+(ctEntryS (cpEntryS (gd r 9))+(0))))))))))≤16+16*(((sizeCellS (gd r 7)+(sizeSeatS (gd r 8)))+(sizeEntryS (gd r 9))))
 have:=bdCellS (gd r 7); have:=bdSeatS (gd r 8); have:=bdEntryS (gd r 9)
 omega) z
abbrev mkReplicaT:FuncId→List T→Option (T × Bool):=find [mkLogE,mkVoteSE]
theorem mkReplicaT_ok:CallOk Tryz.prog mkReplicaT:=find_ok (fC ⟨mkLog_ok,fC ⟨mkVoteS_ok,fN⟩⟩)
abbrev mkReplicaK:List Nat:= [0,1,2,4]
def mkReplica (p:List D) (q:D):List D:=
 let r1:=mkLog (sub p 6 4) q
 let r2:=mkVoteS ([gd p 10]) (gd r1 0)
 [gd r2 0,gd p 0,gd p 1,gd p 2,gd p 3,gd p 4,gd p 5,gd p 6,.l (gd r1 2).rows,.l (gd r1 3).rows,.l (gd r1 4).rows,.l (gd r2 1).rows,gd p 11,gd p 12]
def ctReplica (p:List D):Nat:=ctLog (sub p 6 4)+(ctVoteS (gd p 10))
theorem mkReplica_ev (p:List D) (q:D):evFnM Tryz.prog mkReplicaT 0 mkReplicaK Tryz.f13 [⟨ag rIReplica,p⟩,.c (.d si) q]=some (bo,some (1,mkReplica p q)):=by kernel_rfl
def mkReplicaE:Ent:=(13,eM (ag rIReplica) fun p q=>(⟨shM,mkReplica p q⟩,true))
theorem mkReplica_ok:EntOk Tryz.prog mkReplicaE:=eM_ok fun p q _=>evFnM_sound (N:=0) (ks:=mkReplicaK) (key:=bo) mkReplicaT_ok (enters Tryz.func13) Tryz.func13 fun hw=>mkReplica_ev p q
theorem mkReplica_k {p:List D} {q:D} (h0:0≤q.int) (h1:q.int+ctReplica p≤4611686018427387904):(gd (mkReplica p q) 0).int=q.int+ctReplica p:=by
 unfold ctReplica at h1 ⊢
 have e1:=mkLog_k (p:=sub p 6 4) (q:=q) (by omega) (by omega)
 have e2:=mkVoteS_k (x:=gd p 10) (q:=gd (mkLog (sub p 6 4) q) 0) (by omega) (by omega)
 show (gd (mkVoteS [gd p 10] (gd (mkLog (sub p 6 4) q) 0)) 0).int=_
 omega
theorem bdReplica (p:List D):ctReplica (cpReplica p)≤16*sizeReplica p:=by
 have:=bdLog (sub p 6 4)
 have:=bdVoteS (gd p 10)
 show ctLog (cpLog (sub p 6 4))+(ctVoteS (cpVoteS (gd p 10)))≤16*(sizeLog (sub p 6 4)+(sizeVoteS (gd p 10)))
 omega
abbrev mkMsgT:FuncId→List T→Option (T × Bool):=find [mkLogE]
theorem mkMsgT_ok:CallOk Tryz.prog mkMsgT:=find_ok (fC ⟨mkLog_ok,fN⟩)
abbrev mkMsgK:List Nat:= [0,1,2,4]
def mkMsg (p:List D) (q:D):List D:=
 let r1:=mkLog (sub p 13 4) q
 [gd r1 0,gd p 0,gd p 1,gd p 2,gd p 3,gd p 4,gd p 5,gd p 6,gd p 7,gd p 8,gd p 9,gd p 10,gd p 11,gd p 12,gd p 13,.l (gd r1 2).rows,.l (gd r1 3).rows,.l (gd r1 4).rows]
def ctMsg (p:List D):Nat:=ctLog (sub p 13 4)
theorem mkMsg_ev (p:List D) (q:D):evFnM Tryz.prog mkMsgT 0 mkMsgK Tryz.f14 [⟨ag rIMsg,p⟩,.c (.d si) q]=some (bo,some (1,mkMsg p q)):=by kernel_rfl
def mkMsgE:Ent:=(14,eM (ag rIMsg) fun p q=>(⟨shM,mkMsg p q⟩,true))
theorem mkMsg_ok:EntOk Tryz.prog mkMsgE:=eM_ok fun p q _=>evFnM_sound (N:=0) (ks:=mkMsgK) (key:=bo) mkMsgT_ok (enters Tryz.func14) Tryz.func14 fun hw=>mkMsg_ev p q
theorem mkMsg_k {p:List D} {q:D} (h0:0≤q.int) (h1:q.int+ctMsg p≤4611686018427387904):(gd (mkMsg p q) 0).int=q.int+ctMsg p:=by
 unfold ctMsg at h1 ⊢
 have e1:=mkLog_k (p:=sub p 13 4) (q:=q) (by omega) (by omega)
 show (gd (mkLog (sub p 13 4) q) 0).int=_
 omega
theorem bdMsg (p:List D):ctMsg (cpMsg p)≤16*sizeMsg p:=by
 have:=bdLog (sub p 13 4)
 show ctLog (cpLog (sub p 13 4))≤16*(sizeLog (sub p 13 4))
 omega
abbrev mkOutST:FuncId→List T→Option (T × Bool):=find [mkCellSE,mkSeatSE,mkEntrySE]
theorem mkOutST_ok:CallOk Tryz.prog mkOutST:=find_ok (fC ⟨mkCellS_ok,fC ⟨mkSeatS_ok,fC ⟨mkEntryS_ok,fN⟩⟩⟩)
abbrev mkOutSK:List Nat:= [0,1,4,5,9]
noncomputable def mkOutSL (N:Nat) (p:List D) (q:D):List D→Out:=loopOfM Tryz.prog mkOutST N mkOutSK Tryz.f15 [⟨sd (.sl 74),p⟩,.c (.d si) q] 0
def mkOutSf:List Fld:= [.i 0,.i 1,.i 2,.i 3,.i 4,.i 5,.i 6,.i 7,.i 8,.i 9,.i 10,.i 11,.i 12,.i 13,.i 14,.m 15 mkCellS ctCellS,.m 16 mkSeatS ctSeatS,.m 17 mkEntryS ctEntryS]
def mkOutS (p:List D) (q:D):List D:=mkAll (rowF 18 mkOutSf) (gd p 0) q
def ctOutS (z:D):Nat:=total (cFs mkOutSf) z.rows
theorem mkOutSR (N:Nat) (p:List D) (q x0 x1 x2 x3:D):mkOutSL N p q [x0,x1,x2,x3]=bif ltI x3.int (x0.rows.length:Int) then rnd 18 x3.int mkOutSf x0.rows x1 (fun rows k=>nx [.l rows,k,x2,.i (w64 (x3.int+1))]) else ex 0 [x0,x1,x2,x3]:=by kernel_rfl
theorem mkOutS_ev (N:Nat) (p:List D) (q:D):evFnM Tryz.prog mkOutST N mkOutSK Tryz.f15 [⟨sd (.sl 74),p⟩,.c (.d si) q]=some (bo,(let o0:=iter (mkOutSL N p q) N [gd p 0,q,.i 0,.i 0]; nd o0.isSome (nd (o0.code==2) (some (1,[gd o0.pay 1,gd o0.pay 0]))))):=by kernel_rfl
def mkOutSE:Ent:=(15,eM (sd (.sl 74)) fun p q=>(⟨shM,mkOutS p q⟩,true))
theorem mkOutS_ok:EntOk Tryz.prog mkOutSE:=eM_ok fun p q _=>mk_sound (L:=mkOutSL) (fs:=mkOutSf) (w:=18) (ks:=mkOutSK) mkOutST_ok (enters Tryz.func15) Tryz.func15 (fun N x0 x1 x2 x3=>mkOutSR N p q x0 x1 x2 x3) (fun N=>mkOutS_ev N p q)
theorem mkOutS_k {x q:D} (h0:0≤q.int) (h1:q.int+ctOutS x≤4611686018427387904):(gd (mkOutS [x] q) 0).int=q.int+ctOutS x:=mkAll_k (w:=18) (fs:=mkOutSf) (by decide) (by
 unfold mkOutSf
 exact ⟨(by decide:0<18),(by decide:1<18),(by decide:2<18),(by decide:3<18),(by decide:4<18),(by decide:5<18),(by decide:6<18),(by decide:7<18),(by decide:8<18),(by decide:9<18),(by decide:10<18),(by decide:11<18),(by decide:12<18),(by decide:13<18),(by decide:14<18),⟨by decide,fun x q h0 h1=>mkCellS_k h0 h1⟩,⟨by decide,fun x q h0 h1=>mkSeatS_k h0 h1⟩,⟨by decide,fun x q h0 h1=>mkEntryS_k h0 h1⟩,trivial⟩) h0 h1
end Go.Proofs.YthbbbhpjkgpdcaaGreat
namespace Go.Proofs.YthbbbhpjkgpdcaaGreat
inductive Fh where
 | i (off:Nat)
 | b (off:Nat)
 | m (off:Nat) (G:D→D→D)
def hrnd (i:Int) (rows:List (List D)):List Fh→D→(D→Out)→Out
 | [],k,K=>K k
 | .i off::fs,k,K=>nd (inRange i rows.length) (bif (gd (rows.getD i.toNat []) off).int != k.int then oi (-1) else hrnd i rows fs (.i (w64 (k.int+1))) K)
 | .b off::fs,k,K=>nd (inRange i rows.length) (bif !((gd (rows.getD i.toNat []) off).bool==(k.int.tmod 3==0)) then oi (-1) else hrnd i rows fs (.i (w64 (k.int+1))) K)
 | .m off G::fs,k,K=>nd (inRange i rows.length) (bif ltI (G (gd (rows.getD i.toNat []) off) k).int 0 then oi (-1) else hrnd i rows fs (G (gd (rows.getD i.toNat []) off) k) K)
def hdRow (r:List D):List Fh→D→Option D
 | [],k=>some k
 | .i off::fs,k=>bif (gd r off).int != k.int then none else hdRow r fs (.i (w64 (k.int+1)))
 | .b off::fs,k=>bif !((gd r off).bool==(k.int.tmod 3==0)) then none else hdRow r fs (.i (w64 (k.int+1)))
 | .m off G::fs,k=>bif ltI (G (gd r off) k).int 0 then none else hdRow r fs (G (gd r off) k)
theorem hrnd_eq {i:Nat} {rows:List (List D)} {K:D→Out} (hi:i<rows.length):∀ {fs:List Fh} {k:D},hrnd (i:Int) rows fs k K=(match hdRow (rows.getD i []) fs k with | some k'=>K k' | none=>oi (-1))
 | [],k=>rfl
 | .i off::fs,k=>by
  simp only [hrnd,hdRow,Int.toNat_natCast,nd_ix hi]
  cases ((gd (rows.getD i []) off).int != k.int)
  ·simp only [cond_false]; exact hrnd_eq hi
  ·rfl
 | .b off::fs,k=>by
  simp only [hrnd,hdRow,Int.toNat_natCast,nd_ix hi]
  cases (!((gd (rows.getD i []) off).bool==(k.int.tmod 3==0)))
  ·simp only [cond_false]; exact hrnd_eq hi
  ·rfl
 | .m off G::fs,k=>by
  simp only [hrnd,hdRow,Int.toNat_natCast,nd_ix hi]
  cases (ltI (G (gd (rows.getD i []) off) k).int 0)
  ·simp only [cond_false]; exact hrnd_eq hi
  ·rfl
def hdTo (fs:List Fh) (rows:List (List D)) (q:D):Nat→D
 | 0=>q
 | j+1=>(hdRow (rows.getD j []) fs (hdTo fs rows q j)).getD D0
def hdC (fs:List Fh) (rows:List (List D)) (q:D) (j:Nat):Bool:=(hdRow (rows.getD j []) fs (hdTo fs rows q j)).isSome
def hdAll (fs:List Fh) (z q:D):D:=bif (List.range z.rows.length).all (hdC fs z.rows q) then hdTo fs z.rows q z.rows.length else .i (-1)
theorem hd_sound {P:Program} {call:FuncId→List T→Option (T × Bool)} (hcall:CallOk P call) {ks:List Nat} {f:FuncId} {fn:Func} {e:TypeId} {p q:List D} {L:Nat→List D→List D→List D→Out} {fs:List Fh} (hen:∀ vs w,(callFunc f vs).run P w=.ok (.enter f vs) w) (hf:P.funcs[f]?=some fn)
  (hR:∀ N x0 x1 x2 x3,L N p q [x0,x1,x2,x3]=bif ltI x3.int (x0.rows.length:Int) then hrnd x3.int x0.rows fs x1 (fun k=>nx [x0,k,x2,.i (w64 (x3.int+1))]) else ex 0 [x0,x1,x2,x3])
  (hev:∀ N,evFn P call N ks fn ri [⟨.one (.c (.d (.sl e))),p⟩,⟨ri,q⟩]=some (bo,(let o0:=iter (L N p q) N [gd p 0,gd q 0,.i 0,.i 0]; nd o0.isSome (bif o0.code==1 then some (1,o0.pay) else nd (o0.code==2) (some (1,[gd o0.pay 1])))))) :
  SoundFn P f [⟨.one (.c (.d (.sl e))),p⟩,⟨ri,q⟩] ⟨ri,[hdAll fs (gd p 0) (gd q 0)]⟩:=by
 refine evFn_sound (N:=(gd p 0).rows.length+1) (ks:=ks) (key:=bo) hcall hen hf fun hw=>?_
 have hl:(gd p 0).rows.length≤9223372036854775807:=by
  have hw:WD P (.sl e) (gd p 0):=hw ⟨.one (.c (.d (.sl e))),p⟩ (by simp)
  cases hw with
  | sl _ _ _ _ h _=>exact h
 rw [hev]
 have e:=for_loop (L:=L ((gd p 0).rows.length+1) p q) (fun j => [gd p 0,hdTo fs (gd p 0).rows (gd q 0) j,.i 0,.i (j:Int)]) (gd p 0).rows.length (hdC fs (gd p 0).rows (gd q 0)) [.i (-1)] 0 (fun j hj=>?_) ?_ (N:=(gd p 0).rows.length+1) (by omega)
 ·simp only [Int.natCast_zero,Nat.zero_add] at e
  rw [show hdTo fs (gd p 0).rows (gd q 0) 0=gd q 0 from rfl] at e
  rw [e]
  unfold hdAll
  cases (List.range (gd p 0).rows.length).all (hdC fs (gd p 0).rows (gd q 0)) <;> rfl
 ·rw [hR]
  simp only [int_i,c_lt hj]
  rw [hrnd_eq hj,w64_succ hj hl]
  unfold hdC
  simp only [hdTo]
  cases hdRow ((gd p 0).rows.getD j []) fs (hdTo fs (gd p 0).rows (gd q 0) j) <;> rfl
 ·rw [hR]
  simp only [int_i,c_nlt]
def Fh.off:Fh→Nat
 | .i o=>o
 | .b o=>o
 | .m o _=>o
def pairF:Fld→Fh→Prop
 | .i o,.i o'=>o=o'
 | .b o,.b o'=>o=o'
 | .m o F c,.m o' G=>o=o'∧∀ x q:D,0≤q.int→q.int+c x≤4611686018427387904→G (gd (F [x] q) 1) q=gd (F [x] q) 0
 | _,_=>False
def pairFs:List Fld→List Fh→Prop
 | [],[]=>True
 | f::fs,h::hs=>pairF f h∧pairFs fs hs
 | _,_=>False
theorem pairFs.offs:∀ {fs:List Fld} {hs:List Fh},pairFs fs hs→hs.map Fh.off=fs.map Fld.off
 | [],[],_=>rfl
 | f::fs,h::hs,hp=>by
  have h1:h.off=f.off:=by
   have:=hp.1
   cases f <;> cases h <;> first | exact this.symm | exact this.1.symm | exact this.elim
  simp only [List.map_cons,h1,pairFs.offs hp.2]
 | [],_::_,hp=>hp.elim
 | _::_,[],hp=>hp.elim
theorem gd_rowF {w:Nat}:∀ {fs:List Fld} {r:List D} {k:D} {j:Nat},(∀ f∈fs,f.off≠j)→j<w→gd (rowF w fs r k).1 j=gd r j
 | [],r,k,j,_,_=>rfl
 | f::fs,r,k,j,h,hj=>by
  rw [rowF,gd_rowF (fun g hg=>h g (by simp [hg])) hj,gd_stF (h f (by simp)) hj]
theorem stF_at {w:Nat} {r:List D} {k:D}:∀ {f:Fld},f.off<w→gd (stF w f r k).1 f.off=(match f with | .i _=>k | .b _=>.b (k.int.tmod 3==0) | .m o F _=>gd (F [gd r o] k) 1):=by
 have key:∀ (o:Nat) (d:D),o<w→gd (setSub (sub r 0 w) o [d]) o=d:=fun o d ho=>by
  show gd ((sub r 0 w).set o d) o=d
  simp [gd,List.getD_eq_getElem?_getD,List.getElem?_set,sub_length,ho]
 intro f hf
 cases f with
 | i o=>exact key o _ hf
 | b o=>exact key o _ hf
 | m o F c=>exact key o _ hf
theorem held_row {w:Nat}:∀ {fs:List Fld} {hs:List Fh} {r:List D} {k:D},pairFs fs hs→apartF fs=true→FldsOk w fs→0≤k.int→k.int+cFs fs r≤4611686018427387904→hdRow (rowF w fs r k).1 hs k=some (rowF w fs r k).2
 | [],[],r,k,_,_,_,_,_=>rfl
 | [],_::_,_,_,hp,_,_,_,_=>hp.elim
 | _::_,[],_,_,hp,_,_,_,_=>hp.elim
 | f::fs,h::hs,r,k,hp,ha,hok,h0,h1=>by
  simp only [apartF,Bool.and_eq_true,List.all_eq_true] at ha
  simp only [cFs] at h1
  push_cast at h1
  have hc:cFs fs (stF w f r k).1=cFs fs r:=cFs_congr hok.2 fun g hg=>gd_stF (by simpa using ha.1 g hg) (hok.2.mem g hg).lt
  have hk:(stF w f r k).2.int=k.int+cF r f:=by
   cases f with
   | i o=>show w64 (k.int+1)=k.int+((1:Nat):Int); simp only [cF] at h1; rw [w64_id (by omega) (by omega)]; rfl
   | b o=>show w64 (k.int+1)=k.int+((1:Nat):Int); simp only [cF] at h1; rw [w64_id (by omega) (by omega)]; rfl
   | m o F c=>simp only [cF] at h1; exact hok.1.2 _ _ h0 (by omega)
  have ih:=held_row (r:=(stF w f r k).1) (k:=(stF w f r k).2) hp.2 ha.2 hok.2 (by omega) (by rw [hc]; omega)
  have hg:gd (rowF w fs (stF w f r k).1 (stF w f r k).2).1 f.off=gd (stF w f r k).1 f.off:=gd_rowF (fun g hg e=>by have:=ha.1 g hg; rw [e] at this; simp at this) hok.1.lt
  rw [stF_at hok.1.lt] at hg
  simp only [rowF]
  have hp1:=hp.1
  cases f with
  | i o =>
   cases h with
   | i o' =>
    have e:o=o':=hp1
    subst e
    simp only [Fld.off] at hg
    simp only [hdRow,hg,bne_self_eq_false,cond_false]
    exact ih
   | _=>exact hp1.elim
  | b o =>
   cases h with
   | b o' =>
    have e:o=o':=hp1
    subst e
    simp only [Fld.off] at hg
    simp only [hdRow,hg,bool_b,beq_self_eq_true,Bool.not_true,cond_false]
    exact ih
   | _=>exact hp1.elim
  | m o F c =>
   cases h with
   | m o' G =>
    obtain ⟨e,hG⟩:=hp1
    subst e
    simp only [Fld.off] at hg
    simp only [cF] at h1 hk
    have e1:=hG (gd r o) k h0 (by omega)
    simp only [hdRow,hg,e1]
    rw [show (gd (F [gd r o] k) 0)=(stF w (.m o F c) r k).2 from rfl,ltI_f (by omega),cond_false]
    exact ih
   | _=>exact hp1.elim
theorem held_all {w:Nat} {fs:List Fld} {hs:List Fh} {x q:D} (hp:pairFs fs hs) (ha:apartF fs=true) (hok:FldsOk w fs) (h0:0≤q.int) (h1:q.int+total (cFs fs) x.rows≤4611686018427387904):hdAll hs (gd (mkAll (rowF w fs) x q) 1) q=gd (mkAll (rowF w fs) x q) 0:=by
 show hdAll hs (mkZ (rowF w fs) x q x.rows.length) q=(mkTo (rowF w fs) x.rows q x.rows.length).2
 have hk:∀ j,j≤x.rows.length→(mkTo (rowF w fs) x.rows q j).2.int=q.int+total (cFs fs) (x.rows.take j):=by
  intro j
  induction j with
  | zero=>intro _; simp [mkTo,total]
  | succ j ih =>
   intro hj
   have ih:=ih (by omega)
   have ht:=total_take (f:=cFs fs) x.rows j (by omega)
   have hle:=total_take_le (f:=cFs fs) x.rows (j+1)
   simp only [mkTo]
   rw [mkTo_hi _ _ _ j j (Nat.le_refl _),rowF_k ha hok (by omega) (by omega),ih,ht]
   push_cast
   omega
 have hlo:∀ n j,j<n→n≤x.rows.length→(mkTo (rowF w fs) x.rows q n).1.getD j []=(rowF w fs (x.rows.getD j []) (mkTo (rowF w fs) x.rows q j).2).1:=by
  intro n
  induction n with
  | zero=>intro j hj; omega
  | succ n ih =>
   intro j hj hn
   simp only [mkTo]
   by_cases e:j=n
   ·subst e
    rw [getD_set_self (by rw [mkTo_len]; omega),mkTo_hi _ _ _ j j (Nat.le_refl _)]
   ·rw [← ih j (by omega) (by omega)]
    simp only [List.getD_eq_getElem?_getD,List.getElem?_set]
    rw [if_neg (by omega)]
 have hrow:∀ j,j<x.rows.length→hdRow ((mkTo (rowF w fs) x.rows q x.rows.length).1.getD j []) hs (mkTo (rowF w fs) x.rows q j).2=some (mkTo (rowF w fs) x.rows q (j+1)).2:=by
  intro j hj
  have ht:=total_take (f:=cFs fs) x.rows j (by omega)
  have hle:=total_take_le (f:=cFs fs) x.rows (j+1)
  have hkj:=hk j (by omega)
  rw [hlo _ j hj (Nat.le_refl _),held_row hp ha hok (by omega) (by omega)]
  simp only [mkTo]
  rw [mkTo_hi _ _ _ j j (Nat.le_refl _)]
 have hto:∀ j,j≤x.rows.length→hdTo hs (mkTo (rowF w fs) x.rows q x.rows.length).1 q j=(mkTo (rowF w fs) x.rows q j).2:=by
  intro j
  induction j with
  | zero=>intro _; rfl
  | succ j ih =>
   intro hj
   simp only [hdTo]
   rw [ih (by omega),hrow j (by omega)]
   rfl
 unfold hdAll
 rw [mkZ_rows,mkTo_len]
 have hall:(List.range x.rows.length).all (hdC hs (mkTo (rowF w fs) x.rows q x.rows.length).1 q)=true:=by
  rw [List.all_eq_true]
  intro j hj
  have hj:=List.mem_range.1 hj
  unfold hdC
  rw [hto j (by omega),hrow j hj]
  rfl
 rw [hall,cond_true,hto _ (Nat.le_refl _)]
theorem hd_bif (b:Bool) (x:D):(bif b then oi (-1) else some (1,[x]))=(some (1,[bif b then .i (-1) else x]):Out):=by cases b <;> rfl
end Go.Proofs.YthbbbhpjkgpdcaaGreat
namespace Go.Proofs.YthbbbhpjkgpdcaaGreat
set_option maxRecDepth 4096
set_option maxHeartbeats 1000000
abbrev hdCellST:FuncId→List T→Option (T × Bool):=find []
theorem hdCellST_ok:CallOk Tryz.prog hdCellST:=find_ok (fN)
abbrev hdCellSK:List Nat:= [0,1,4,5,9,18,27]
noncomputable def hdCellSL (N:Nat) (p q:List D):List D→Out:=loopOf Tryz.prog hdCellST N hdCellSK Tryz.f58 ri [⟨sd (.sl 148),p⟩,⟨ri,q⟩] 0
def hdCellSf:List Fh:= [.i 0,.i 1]
def hdCellS (x q:D):D:=hdAll hdCellSf x q
theorem hdCellSR (N:Nat) (p q:List D) (x0 x1 x2 x3:D):hdCellSL N p q [x0,x1,x2,x3]=bif ltI x3.int (x0.rows.length:Int) then hrnd x3.int x0.rows hdCellSf x1 (fun k=>nx [x0,k,x2,.i (w64 (x3.int+1))]) else ex 0 [x0,x1,x2,x3]:=by kernel_rfl
theorem hdCellS_ev (N:Nat) (p q:List D):evFn Tryz.prog hdCellST N hdCellSK Tryz.f58 ri [⟨sd (.sl 148),p⟩,⟨ri,q⟩]=some (bo,(let o0:=iter (hdCellSL N p q) N [gd p 0,gd q 0,.i 0,.i 0]; nd o0.isSome (bif o0.code==1 then some (1,o0.pay) else nd (o0.code==2) (some (1,[gd o0.pay 1]))))):=by kernel_rfl
def hdCellSE:Ent:=(58,e2 (sd (.sl 148)) ri fun p q=>(⟨ri,[hdCellS (gd p 0) (gd q 0)]⟩,true))
theorem hdCellS_ok:EntOk Tryz.prog hdCellSE:=e2_ok fun p q _=>hd_sound (L:=hdCellSL) (fs:=hdCellSf) (ks:=hdCellSK) hdCellST_ok (enters Tryz.func58) Tryz.func58 (fun N x0 x1 x2 x3=>hdCellSR N p q x0 x1 x2 x3) (fun N=>hdCellS_ev N p q)
theorem heldCellS {x q:D} (h0:0≤q.int) (h1:q.int+ctCellS x≤4611686018427387904):hdCellS (gd (mkCellS [x] q) 1) q=gd (mkCellS [x] q) 0:=held_all (w:=2) (fs:=mkCellSf) (hs:=hdCellSf) (by
 unfold mkCellSf hdCellSf
 exact ⟨(rfl:0=0),(rfl:1=1),trivial⟩) (by decide) (by
 unfold mkCellSf
 exact ⟨(by decide:0<2),(by decide:1<2),trivial⟩) h0 h1
end Go.Proofs.YthbbbhpjkgpdcaaGreat
namespace Go.Proofs.YthbbbhpjkgpdcaaGreat
set_option maxRecDepth 4096
set_option maxHeartbeats 1000000
abbrev hdSeatST:FuncId→List T→Option (T × Bool):=find []
theorem hdSeatST_ok:CallOk Tryz.prog hdSeatST:=find_ok (fN)
abbrev hdSeatSK:List Nat:= [0,1,4,5,9,18,27,36]
noncomputable def hdSeatSL (N:Nat) (p q:List D):List D→Out:=loopOf Tryz.prog hdSeatST N hdSeatSK Tryz.f59 ri [⟨sd (.sl 69),p⟩,⟨ri,q⟩] 0
def hdSeatSf:List Fh:= [.i 0,.i 1,.i 2]
def hdSeatS (x q:D):D:=hdAll hdSeatSf x q
theorem hdSeatSR (N:Nat) (p q:List D) (x0 x1 x2 x3:D):hdSeatSL N p q [x0,x1,x2,x3]=bif ltI x3.int (x0.rows.length:Int) then hrnd x3.int x0.rows hdSeatSf x1 (fun k=>nx [x0,k,x2,.i (w64 (x3.int+1))]) else ex 0 [x0,x1,x2,x3]:=by kernel_rfl
theorem hdSeatS_ev (N:Nat) (p q:List D):evFn Tryz.prog hdSeatST N hdSeatSK Tryz.f59 ri [⟨sd (.sl 69),p⟩,⟨ri,q⟩]=some (bo,(let o0:=iter (hdSeatSL N p q) N [gd p 0,gd q 0,.i 0,.i 0]; nd o0.isSome (bif o0.code==1 then some (1,o0.pay) else nd (o0.code==2) (some (1,[gd o0.pay 1]))))):=by kernel_rfl
def hdSeatSE:Ent:=(59,e2 (sd (.sl 69)) ri fun p q=>(⟨ri,[hdSeatS (gd p 0) (gd q 0)]⟩,true))
theorem hdSeatS_ok:EntOk Tryz.prog hdSeatSE:=e2_ok fun p q _=>hd_sound (L:=hdSeatSL) (fs:=hdSeatSf) (ks:=hdSeatSK) hdSeatST_ok (enters Tryz.func59) Tryz.func59 (fun N x0 x1 x2 x3=>hdSeatSR N p q x0 x1 x2 x3) (fun N=>hdSeatS_ev N p q)
theorem heldSeatS {x q:D} (h0:0≤q.int) (h1:q.int+ctSeatS x≤4611686018427387904):hdSeatS (gd (mkSeatS [x] q) 1) q=gd (mkSeatS [x] q) 0:=held_all (w:=3) (fs:=mkSeatSf) (hs:=hdSeatSf) (by
 unfold mkSeatSf hdSeatSf
 exact ⟨(rfl:0=0),(rfl:1=1),(rfl:2=2),trivial⟩) (by decide) (by
 unfold mkSeatSf
 exact ⟨(by decide:0<3),(by decide:1<3),(by decide:2<3),trivial⟩) h0 h1
abbrev hdEntryST:FuncId→List T→Option (T × Bool):=find []
theorem hdEntryST_ok:CallOk Tryz.prog hdEntryST:=find_ok (fN)
abbrev hdEntrySK:List Nat:= [0,1,4,5,9,18,27,37,47,57]
noncomputable def hdEntrySL (N:Nat) (p q:List D):List D→Out:=loopOf Tryz.prog hdEntryST N hdEntrySK Tryz.f60 ri [⟨sd (.sl 78),p⟩,⟨ri,q⟩] 0
def hdEntrySf:List Fh:= [.i 0,.i 1,.i 2,.i 3,.i 4]
def hdEntryS (x q:D):D:=hdAll hdEntrySf x q
theorem hdEntrySR (N:Nat) (p q:List D) (x0 x1 x2 x3:D):hdEntrySL N p q [x0,x1,x2,x3]=bif ltI x3.int (x0.rows.length:Int) then hrnd x3.int x0.rows hdEntrySf x1 (fun k=>nx [x0,k,x2,.i (w64 (x3.int+1))]) else ex 0 [x0,x1,x2,x3]:=by kernel_rfl
theorem hdEntryS_ev (N:Nat) (p q:List D):evFn Tryz.prog hdEntryST N hdEntrySK Tryz.f60 ri [⟨sd (.sl 78),p⟩,⟨ri,q⟩]=some (bo,(let o0:=iter (hdEntrySL N p q) N [gd p 0,gd q 0,.i 0,.i 0]; nd o0.isSome (bif o0.code==1 then some (1,o0.pay) else nd (o0.code==2) (some (1,[gd o0.pay 1]))))):=by kernel_rfl
def hdEntrySE:Ent:=(60,e2 (sd (.sl 78)) ri fun p q=>(⟨ri,[hdEntryS (gd p 0) (gd q 0)]⟩,true))
theorem hdEntryS_ok:EntOk Tryz.prog hdEntrySE:=e2_ok fun p q _=>hd_sound (L:=hdEntrySL) (fs:=hdEntrySf) (ks:=hdEntrySK) hdEntryST_ok (enters Tryz.func60) Tryz.func60 (fun N x0 x1 x2 x3=>hdEntrySR N p q x0 x1 x2 x3) (fun N=>hdEntryS_ev N p q)
theorem heldEntryS {x q:D} (h0:0≤q.int) (h1:q.int+ctEntryS x≤4611686018427387904):hdEntryS (gd (mkEntryS [x] q) 1) q=gd (mkEntryS [x] q) 0:=held_all (w:=5) (fs:=mkEntrySf) (hs:=hdEntrySf) (by
 unfold mkEntrySf hdEntrySf
 exact ⟨(rfl:0=0),(rfl:1=1),(rfl:2=2),(rfl:3=3),(rfl:4=4),trivial⟩) (by decide) (by
 unfold mkEntrySf
 exact ⟨(by decide:0<5),(by decide:1<5),(by decide:2<5),(by decide:3<5),(by decide:4<5),trivial⟩) h0 h1
abbrev hdImageT:FuncId→List T→Option (T × Bool):=find [hdCellSE,hdSeatSE]
theorem hdImageT_ok:CallOk Tryz.prog hdImageT:=find_ok (fC ⟨hdCellS_ok,fC ⟨hdSeatS_ok,fN⟩⟩)
abbrev hdImageK:List Nat:= [0,1,2,4,10,16]
def hdImage (p:List D) (q:D):D:=bif ltI (hdCellS (gd p 0) q).int 0 then .i (-1) else bif ltI (hdSeatS (gd p 1) (hdCellS (gd p 0) q)).int 0 then .i (-1) else (hdSeatS (gd p 1) (hdCellS (gd p 0) q))
theorem hdImage_ev (p q:List D):evFn Tryz.prog hdImageT 0 hdImageK Tryz.f99 ri [⟨ag rIImage,p⟩,⟨ri,q⟩]=some (bo,bif ltI (hdCellS (gd p 0) (gd q 0)).int 0 then oi (-1) else bif ltI (hdSeatS (gd p 1) (hdCellS (gd p 0) (gd q 0))).int 0 then oi (-1) else some (1,[(hdSeatS (gd p 1) (hdCellS (gd p 0) (gd q 0)))])):=by kernel_rfl
def hdImageE:Ent:=(99,e2 (ag rIImage) ri fun p q=>(⟨ri,[hdImage p (gd q 0)]⟩,true))
theorem hdImage_ok:EntOk Tryz.prog hdImageE:=e2_ok fun p q _=>evFn_sound (N:=0) (ks:=hdImageK) (key:=bo) hdImageT_ok (enters Tryz.func99) Tryz.func99 fun hw=>by
 rw [hdImage_ev]
 unfold hdImage
 simp only [hd_bif]
theorem heldImage {p:List D} {q:D} (h0:0≤q.int) (h1:q.int+ctImage p≤4611686018427387904):hdImage (sub (mkImage p q) 1 2) q=gd (mkImage p q) 0:=by
 unfold ctImage at h1
 have e1:=mkCellS_k (x:=gd p 0) (q:=q) (by omega) (by omega)
 have e2:=mkSeatS_k (x:=gd p 1) (q:=(gd (mkCellS [gd p 0] q) 0)) (by omega) (by omega)
 have f1:hdCellS (.l (gd (mkCellS [gd p 0] q) 1).rows) q=gd (mkCellS [gd p 0] q) 0:=heldCellS (by omega) (by omega)
 have f2:hdSeatS (.l (gd (mkSeatS [gd p 1] (gd (mkCellS [gd p 0] q) 0)) 1).rows) (gd (mkCellS [gd p 0] q) 0)=gd (mkSeatS [gd p 1] (gd (mkCellS [gd p 0] q) 0)) 0:=heldSeatS (by omega) (by omega)
 show (bif ltI (hdCellS (.l (gd (mkCellS [gd p 0] q) 1).rows) q).int 0 then D.i (-1) else bif ltI (hdSeatS (.l (gd (mkSeatS [gd p 1] (gd (mkCellS [gd p 0] q) 0)) 1).rows) (hdCellS (.l (gd (mkCellS [gd p 0] q) 1).rows) q)).int 0 then D.i (-1) else (hdSeatS (.l (gd (mkSeatS [gd p 1] (gd (mkCellS [gd p 0] q) 0)) 1).rows) (hdCellS (.l (gd (mkCellS [gd p 0] q) 1).rows) q)))=(gd (mkSeatS [gd p 1] (gd (mkCellS [gd p 0] q) 0)) 0)
 rw [f1,ltI_f (show 0≤_ by omega),cond_false,f2,ltI_f (show 0≤_ by omega),cond_false]
abbrev hdLogT:FuncId→List T→Option (T × Bool):=find [hdImageE,hdEntrySE]
theorem hdLogT_ok:CallOk Tryz.prog hdLogT:=find_ok (fC ⟨hdImage_ok,fC ⟨hdEntryS_ok,fN⟩⟩)
abbrev hdLogK:List Nat:= [0,1,2,4,10,16]
def hdLog (p:List D) (q:D):D:=bif ltI (hdImage (sub p 1 2) q).int 0 then .i (-1) else bif ltI (hdEntryS (gd p 3) (hdImage (sub p 1 2) q)).int 0 then .i (-1) else (hdEntryS (gd p 3) (hdImage (sub p 1 2) q))
theorem hdLog_ev (p q:List D):evFn Tryz.prog hdLogT 0 hdLogK Tryz.f56 ri [⟨ag rILog,p⟩,⟨ri,q⟩]=some (bo,bif ltI (hdImage (sub p 1 2) (gd q 0)).int 0 then oi (-1) else bif ltI (hdEntryS (gd p 3) (hdImage (sub p 1 2) (gd q 0))).int 0 then oi (-1) else some (1,[(hdEntryS (gd p 3) (hdImage (sub p 1 2) (gd q 0)))])):=by kernel_rfl
def hdLogE:Ent:=(56,e2 (ag rILog) ri fun p q=>(⟨ri,[hdLog p (gd q 0)]⟩,true))
theorem hdLog_ok:EntOk Tryz.prog hdLogE:=e2_ok fun p q _=>evFn_sound (N:=0) (ks:=hdLogK) (key:=bo) hdLogT_ok (enters Tryz.func56) Tryz.func56 fun hw=>by
 rw [hdLog_ev]
 unfold hdLog
 simp only [hd_bif]
theorem heldLog {p:List D} {q:D} (h0:0≤q.int) (h1:q.int+ctLog p≤4611686018427387904):hdLog (sub (mkLog p q) 1 4) q=gd (mkLog p q) 0:=by
 unfold ctLog at h1
 have e1:=mkImage_k (p:=sub p 1 2) (q:=q) (by omega) (by omega)
 have e2:=mkEntryS_k (x:=gd p 3) (q:=(gd (mkImage (sub p 1 2) q) 0)) (by omega) (by omega)
 have f1:hdImage (sub (mkImage (sub p 1 2) q) 1 2) q=gd (mkImage (sub p 1 2) q) 0:=heldImage (by omega) (by omega)
 have f2:hdEntryS (.l (gd (mkEntryS [gd p 3] (gd (mkImage (sub p 1 2) q) 0)) 1).rows) (gd (mkImage (sub p 1 2) q) 0)=gd (mkEntryS [gd p 3] (gd (mkImage (sub p 1 2) q) 0)) 0:=heldEntryS (by omega) (by omega)
 show (bif ltI (hdImage (sub (mkImage (sub p 1 2) q) 1 2) q).int 0 then D.i (-1) else bif ltI (hdEntryS (.l (gd (mkEntryS [gd p 3] (gd (mkImage (sub p 1 2) q) 0)) 1).rows) (hdImage (sub (mkImage (sub p 1 2) q) 1 2) q)).int 0 then D.i (-1) else (hdEntryS (.l (gd (mkEntryS [gd p 3] (gd (mkImage (sub p 1 2) q) 0)) 1).rows) (hdImage (sub (mkImage (sub p 1 2) q) 1 2) q)))=(gd (mkEntryS [gd p 3] (gd (mkImage (sub p 1 2) q) 0)) 0)
 rw [f1,ltI_f (show 0≤_ by omega),cond_false,f2,ltI_f (show 0≤_ by omega),cond_false]
abbrev hdVoteST:FuncId→List T→Option (T × Bool):=find [hdCellSE,hdSeatSE,hdEntrySE]
theorem hdVoteST_ok:CallOk Tryz.prog hdVoteST:=find_ok (fC ⟨hdCellS_ok,fC ⟨hdSeatS_ok,fC ⟨hdEntryS_ok,fN⟩⟩⟩)
abbrev hdVoteSK:List Nat:= [0,1,4,5,9,18,27,36,45,54,63,73,86,97,107]
noncomputable def hdVoteSL (N:Nat) (p q:List D):List D→Out:=loopOf Tryz.prog hdVoteST N hdVoteSK Tryz.f57 ri [⟨sd (.sl 132),p⟩,⟨ri,q⟩] 0
def hdVoteSf:List Fh:= [.i 0,.i 1,.i 2,.i 3,.i 4,.i 5,.i 6,.m 7 hdCellS,.m 8 hdSeatS,.m 9 hdEntryS]
def hdVoteS (x q:D):D:=hdAll hdVoteSf x q
theorem hdVoteSR (N:Nat) (p q:List D) (x0 x1 x2 x3:D):hdVoteSL N p q [x0,x1,x2,x3]=bif ltI x3.int (x0.rows.length:Int) then hrnd x3.int x0.rows hdVoteSf x1 (fun k=>nx [x0,k,x2,.i (w64 (x3.int+1))]) else ex 0 [x0,x1,x2,x3]:=by kernel_rfl
theorem hdVoteS_ev (N:Nat) (p q:List D):evFn Tryz.prog hdVoteST N hdVoteSK Tryz.f57 ri [⟨sd (.sl 132),p⟩,⟨ri,q⟩]=some (bo,(let o0:=iter (hdVoteSL N p q) N [gd p 0,gd q 0,.i 0,.i 0]; nd o0.isSome (bif o0.code==1 then some (1,o0.pay) else nd (o0.code==2) (some (1,[gd o0.pay 1]))))):=by kernel_rfl
def hdVoteSE:Ent:=(57,e2 (sd (.sl 132)) ri fun p q=>(⟨ri,[hdVoteS (gd p 0) (gd q 0)]⟩,true))
theorem hdVoteS_ok:EntOk Tryz.prog hdVoteSE:=e2_ok fun p q _=>hd_sound (L:=hdVoteSL) (fs:=hdVoteSf) (ks:=hdVoteSK) hdVoteST_ok (enters Tryz.func57) Tryz.func57 (fun N x0 x1 x2 x3=>hdVoteSR N p q x0 x1 x2 x3) (fun N=>hdVoteS_ev N p q)
theorem heldVoteS {x q:D} (h0:0≤q.int) (h1:q.int+ctVoteS x≤4611686018427387904):hdVoteS (gd (mkVoteS [x] q) 1) q=gd (mkVoteS [x] q) 0:=held_all (w:=10) (fs:=mkVoteSf) (hs:=hdVoteSf) (by
 unfold mkVoteSf hdVoteSf
 exact ⟨(rfl:0=0),(rfl:1=1),(rfl:2=2),(rfl:3=3),(rfl:4=4),(rfl:5=5),(rfl:6=6),⟨rfl,fun x q h0 h1=>heldCellS h0 h1⟩,⟨rfl,fun x q h0 h1=>heldSeatS h0 h1⟩,⟨rfl,fun x q h0 h1=>heldEntryS h0 h1⟩,trivial⟩) (by decide) (by
 unfold mkVoteSf
 exact ⟨(by decide:0<10),(by decide:1<10),(by decide:2<10),(by decide:3<10),(by decide:4<10),(by decide:5<10),(by decide:6<10),⟨by decide,fun x q h0 h1=>mkCellS_k h0 h1⟩,⟨by decide,fun x q h0 h1=>mkSeatS_k h0 h1⟩,⟨by decide,fun x q h0 h1=>mkEntryS_k h0 h1⟩,trivial⟩) h0 h1
abbrev hdReplicaT:FuncId→List T→Option (T × Bool):=find [hdLogE,hdVoteSE]
theorem hdReplicaT_ok:CallOk Tryz.prog hdReplicaT:=find_ok (fC ⟨hdLog_ok,fC ⟨hdVoteS_ok,fN⟩⟩)
abbrev hdReplicaK:List Nat:= [0,1,2,4,10,16]
def hdReplica (p:List D) (q:D):D:=bif ltI (hdLog (sub p 6 4) q).int 0 then .i (-1) else bif ltI (hdVoteS (gd p 10) (hdLog (sub p 6 4) q)).int 0 then .i (-1) else (hdVoteS (gd p 10) (hdLog (sub p 6 4) q))
theorem hdReplica_ev (p q:List D):evFn Tryz.prog hdReplicaT 0 hdReplicaK Tryz.f16 ri [⟨ag rIReplica,p⟩,⟨ri,q⟩]=some (bo,bif ltI (hdLog (sub p 6 4) (gd q 0)).int 0 then oi (-1) else bif ltI (hdVoteS (gd p 10) (hdLog (sub p 6 4) (gd q 0))).int 0 then oi (-1) else some (1,[(hdVoteS (gd p 10) (hdLog (sub p 6 4) (gd q 0)))])):=by kernel_rfl
def hdReplicaE:Ent:=(16,e2 (ag rIReplica) ri fun p q=>(⟨ri,[hdReplica p (gd q 0)]⟩,true))
theorem hdReplica_ok:EntOk Tryz.prog hdReplicaE:=e2_ok fun p q _=>evFn_sound (N:=0) (ks:=hdReplicaK) (key:=bo) hdReplicaT_ok (enters Tryz.func16) Tryz.func16 fun hw=>by
 rw [hdReplica_ev]
 unfold hdReplica
 simp only [hd_bif]
theorem heldReplica {p:List D} {q:D} (h0:0≤q.int) (h1:q.int+ctReplica p≤4611686018427387904):hdReplica (sub (mkReplica p q) 1 13) q=gd (mkReplica p q) 0:=by
 unfold ctReplica at h1
 have e1:=mkLog_k (p:=sub p 6 4) (q:=q) (by omega) (by omega)
 have e2:=mkVoteS_k (x:=gd p 10) (q:=(gd (mkLog (sub p 6 4) q) 0)) (by omega) (by omega)
 have f1:hdLog (sub (mkLog (sub p 6 4) q) 1 4) q=gd (mkLog (sub p 6 4) q) 0:=heldLog (by omega) (by omega)
 have f2:hdVoteS (.l (gd (mkVoteS [gd p 10] (gd (mkLog (sub p 6 4) q) 0)) 1).rows) (gd (mkLog (sub p 6 4) q) 0)=gd (mkVoteS [gd p 10] (gd (mkLog (sub p 6 4) q) 0)) 0:=heldVoteS (by omega) (by omega)
 show (bif ltI (hdLog (sub (mkLog (sub p 6 4) q) 1 4) q).int 0 then D.i (-1) else bif ltI (hdVoteS (.l (gd (mkVoteS [gd p 10] (gd (mkLog (sub p 6 4) q) 0)) 1).rows) (hdLog (sub (mkLog (sub p 6 4) q) 1 4) q)).int 0 then D.i (-1) else (hdVoteS (.l (gd (mkVoteS [gd p 10] (gd (mkLog (sub p 6 4) q) 0)) 1).rows) (hdLog (sub (mkLog (sub p 6 4) q) 1 4) q)))=(gd (mkVoteS [gd p 10] (gd (mkLog (sub p 6 4) q) 0)) 0)
 rw [f1,ltI_f (show 0≤_ by omega),cond_false,f2,ltI_f (show 0≤_ by omega),cond_false]
abbrev hdOutST:FuncId→List T→Option (T × Bool):=find [hdCellSE,hdSeatSE,hdEntrySE]
theorem hdOutST_ok:CallOk Tryz.prog hdOutST:=find_ok (fC ⟨hdCellS_ok,fC ⟨hdSeatS_ok,fC ⟨hdEntryS_ok,fN⟩⟩⟩)
abbrev hdOutSK:List Nat:= [0,1,4,5,9,18,28,38,48,58,68,78,88,98,108,118,129,140,151,162,176,188,199]
noncomputable def hdOutSL (N:Nat) (p q:List D):List D→Out:=loopOf Tryz.prog hdOutST N hdOutSK Tryz.f17 ri [⟨sd (.sl 74),p⟩,⟨ri,q⟩] 0
def hdOutSf:List Fh:= [.i 0,.i 1,.i 2,.i 3,.i 4,.i 5,.i 6,.i 7,.i 8,.i 9,.i 10,.i 11,.i 12,.i 13,.i 14,.m 15 hdCellS,.m 16 hdSeatS,.m 17 hdEntryS]
def hdOutS (x q:D):D:=hdAll hdOutSf x q
theorem hdOutSR (N:Nat) (p q:List D) (x0 x1 x2 x3:D):hdOutSL N p q [x0,x1,x2,x3]=bif ltI x3.int (x0.rows.length:Int) then hrnd x3.int x0.rows hdOutSf x1 (fun k=>nx [x0,k,x2,.i (w64 (x3.int+1))]) else ex 0 [x0,x1,x2,x3]:=by kernel_rfl
theorem hdOutS_ev (N:Nat) (p q:List D):evFn Tryz.prog hdOutST N hdOutSK Tryz.f17 ri [⟨sd (.sl 74),p⟩,⟨ri,q⟩]=some (bo,(let o0:=iter (hdOutSL N p q) N [gd p 0,gd q 0,.i 0,.i 0]; nd o0.isSome (bif o0.code==1 then some (1,o0.pay) else nd (o0.code==2) (some (1,[gd o0.pay 1]))))):=by kernel_rfl
def hdOutSE:Ent:=(17,e2 (sd (.sl 74)) ri fun p q=>(⟨ri,[hdOutS (gd p 0) (gd q 0)]⟩,true))
theorem hdOutS_ok:EntOk Tryz.prog hdOutSE:=e2_ok fun p q _=>hd_sound (L:=hdOutSL) (fs:=hdOutSf) (ks:=hdOutSK) hdOutST_ok (enters Tryz.func17) Tryz.func17 (fun N x0 x1 x2 x3=>hdOutSR N p q x0 x1 x2 x3) (fun N=>hdOutS_ev N p q)
theorem heldOutS {x q:D} (h0:0≤q.int) (h1:q.int+ctOutS x≤4611686018427387904):hdOutS (gd (mkOutS [x] q) 1) q=gd (mkOutS [x] q) 0:=held_all (w:=18) (fs:=mkOutSf) (hs:=hdOutSf) (by
 unfold mkOutSf hdOutSf
 exact ⟨(rfl:0=0),(rfl:1=1),(rfl:2=2),(rfl:3=3),(rfl:4=4),(rfl:5=5),(rfl:6=6),(rfl:7=7),(rfl:8=8),(rfl:9=9),(rfl:10=10),(rfl:11=11),(rfl:12=12),(rfl:13=13),(rfl:14=14),⟨rfl,fun x q h0 h1=>heldCellS h0 h1⟩,⟨rfl,fun x q h0 h1=>heldSeatS h0 h1⟩,⟨rfl,fun x q h0 h1=>heldEntryS h0 h1⟩,trivial⟩) (by decide) (by
 unfold mkOutSf
 exact ⟨(by decide:0<18),(by decide:1<18),(by decide:2<18),(by decide:3<18),(by decide:4<18),(by decide:5<18),(by decide:6<18),(by decide:7<18),(by decide:8<18),(by decide:9<18),(by decide:10<18),(by decide:11<18),(by decide:12<18),(by decide:13<18),(by decide:14<18),⟨by decide,fun x q h0 h1=>mkCellS_k h0 h1⟩,⟨by decide,fun x q h0 h1=>mkSeatS_k h0 h1⟩,⟨by decide,fun x q h0 h1=>mkEntryS_k h0 h1⟩,trivial⟩) h0 h1
end Go.Proofs.YthbbbhpjkgpdcaaGreat
namespace Go.Proofs.YthbbbhpjkgpdcaaGreat
set_option maxRecDepth 4096
set_option maxHeartbeats 1000000
theorem total_leS {f:List D→Nat} {c:Nat}:∀ {l:List (List D)},(∀ r∈l,f r≤c)→total f l≤c*l.length
 | [],_=>Nat.zero_le _
 | r::l,h=>by
  have h1:=h r (by simp)
  have h2:=total_leS (l:=l) fun x hx=>h x (by simp [hx])
  have e:total f (r::l)=f r+total f l:=by simp [total]
  rw [e,List.length_cons,Nat.mul_add]
  omega
theorem ctCell_n (x:D):ctCellS x≤2*x.rows.length:=total_leS fun r _=>Nat.le_refl 2
theorem ctSeat_n (x:D):ctSeatS x≤3*x.rows.length:=total_leS fun r _=>Nat.le_refl 3
theorem ctEntry_n (x:D):ctEntryS x≤5*x.rows.length:=total_leS fun r _=>Nat.le_refl 5
theorem ctVote_n (x:D) (h:vsmS x=true):ctVoteS x≤10000007*x.rows.length:=total_leS fun r hr=>by
 simp only [vsmS,Bool.and_eq_true,List.all_eq_true] at h
 have hv:=h.2 r hr
 simp only [vsm,Bool.and_eq_true,leI,decide_eq_true_eq] at hv
 have h7:=ctCell_n (gd r 7)
 have h8:=ctSeat_n (gd r 8)
 have h9:=ctEntry_n (gd r 9)
 show 1+(1+(1+(1+(1+(1+(1+(ctCellS (gd r 7)+(ctSeatS (gd r 8)+(ctEntryS (gd r 9)+0)))))))))≤10000007
 omega
def noLog (r:List D):Prop:=(gd r 15).rows = []∧(gd r 16).rows = []∧(gd r 17).rows = []
theorem ctOut_n (x:D) (h:∀ r∈x.rows,noLog r):ctOutS x≤15*x.rows.length:=total_leS fun r hr=>by
 obtain ⟨a,b,c⟩:=h r hr
 have h7:=ctCell_n (gd r 15)
 have h8:=ctSeat_n (gd r 16)
 have h9:=ctEntry_n (gd r 17)
 rw [a] at h7
 rw [b] at h8
 rw [c] at h9
 have h7:ctCellS (gd r 15)≤0:=h7
 have h8:ctSeatS (gd r 16)≤0:=h8
 have h9:ctEntryS (gd r 17)≤0:=h9
 show 1+(1+(1+(1+(1+(1+(1+(1+(1+(1+(1+(1+(1+(1+(1+(ctCellS (gd r 15)+(ctSeatS (gd r 16)+(ctEntryS (gd r 17)+0)))))))))))))))))≤15
 omega
theorem allO_noLog {me:Int} {m:List D} (h:∀ t,noLog (outRow t m)):∀ k,∀ r∈allO me m k,noLog r
 | 0,r,hr=>by cases hr
 | k+1,r,hr=>by
  rw [allO] at hr
  rcases List.mem_append.1 hr with hr | hr
  ·exact allO_noLog h k r hr
  ·cases hc:(k:Int) != me with
   | false=>rw [hc] at hr; cases hr
   | true =>
    rw [hc,cond_true] at hr
    rw [List.mem_singleton.1 hr]
    exact h _
theorem ansO_noLog (p:List D) (a:Int):∀ k,∀ r∈ansO p a k,noLog r
 | 0,r,hr=>by cases hr
 | k+1,r,hr=>by
  rw [ansO] at hr
  rcases List.mem_append.1 hr with hr | hr
  ·exact ansO_noLog p a k r hr
  ·cases hc:ansC p (a+1+(k:Int)) with
   | false=>rw [hc] at hr; cases hr
   | true =>
    rw [hc,cond_true] at hr
    rw [List.mem_singleton.1 hr]
    exact ⟨rfl,rfl,rfl⟩
def lenF (F:List D):Prop:=(gd F 7).rows.length≤60∧(gd F 8).rows.length≤60∧(gd F 9).rows.length≤60∧vsmS (gd F 10)=true∧(gd F 13).rows.length≤200∧∀ r∈(gd F 13).rows,noLog r
theorem vsm_cp {z:D} (h:vsmS z=true):vsmS (.l (cpVs z))=true:=by
 simp only [vsmS,Bool.and_eq_true,List.all_eq_true] at h ⊢
 refine ⟨?_,fun r hr=>?_⟩
 ·show leI ((cpVs z).length:Int) 1000000=true
  unfold cpVs
  rw [List.length_map]
  exact h.1
 ·obtain ⟨x,hx,rfl⟩:=List.mem_map.1 hr
  exact h.2 x hx
theorem kp0_len {p:List D} (h:repOk p=true):(gd p 7).rows.length≤60∧(gd p 8).rows.length≤60∧(gd p 9).rows.length≤60∧vsmS (.l (cpVs (gd p 10)))=true:=by
 have hs:=rep_small h
 simp only [Bool.and_eq_true] at hs
 simp only [repOk,Bool.and_eq_true] at h
 obtain ⟨_,_,_,_,_,_,hn,_⟩:=h
 obtain ⟨hlo,_⟩:=has_d hn
 have hd:=log_d hlo
 have him:=log_im hd
 have hel:=hd.len
 have h7:(gd p 7).rows.length≤40:=him.1
 have h8:(gd p 8).rows.length≤10:=him.2
 have h9:(gd p 9).rows.length≤60:=hel
 exact ⟨by omega,by omega,h9,vsm_cp hs.2⟩
theorem onReqP_len (p q:List D) (h:repOk p=true):lenF (sub (onReqP (kp0 p) q) 1 14):=by
 obtain ⟨h7,h8,h9,h10⟩:=kp0_len h
 have hK:lenF (sub (rqK (kp0 p)) 1 14):=⟨h7,h8,h9,h10,Nat.zero_le _,fun r hr=>by cases hr⟩
 simp only [repOk,Bool.and_eq_true] at h
 have hof:isOfN (gd p 1).int=true:=h.1
 have hN:hasN (sub p 6 4) (gd p 5)=true:=h.2.2.2.2.2.2.1
 have h5:(gd p 1).int.toNat≤5:=by
  simp only [isOfN,Bool.or_eq_true,beq_iff_eq] at hof
  omega
 unfold onReqP
 cases (gd (kp0 p) 2).int != 1 with
 | true=>exact hK
 | false =>
 rw [cond_false]
 cases !((gd (kp0 p) 0).int==((gd (kp0 p) 3).int.tmod (gd (kp0 p) 1).int)) with
 | true=>exact hK
 | false =>
 rw [cond_false]
 cases rqSame (kp0 p) q with
 | true =>
  rw [cond_true]
  refine ⟨h7,h8,h9,h10,(by decide:1≤200),fun r hr=>?_⟩
  have hr:r ∈ [outRow (.i (-1)) (rqReply (kp0 p) q)]:=hr
  rw [List.mem_singleton.1 hr]
  exact ⟨rfl,rfl,rfl⟩
 | false =>
 rw [cond_false]
 cases rqOld (kp0 p) q with
 | true=>exact hK
 | false =>
 rw [cond_false]
 cases rqAny (kp0 p) q with
 | true=>exact hK
 | false =>
 rw [cond_false]
 cases hb:(gd (putL (kp0 p) (rqE q)) 4).bool with
 | false=>exact hK
 | true =>
 rw [Bool.not_true,cond_false]
 rw [putL_l] at hb
 obtain ⟨n1,n2,n3⟩:=putL_true hN hb
 obtain ⟨hlo,_⟩:=has_d n1
 have hd:=log_d hlo
 have him:=log_im hd
 have l1:(gd (putL p (rqE q)) 1).rows.length≤40:=him.1
 have l2:(gd (putL p (rqE q)) 2).rows.length≤10:=him.2
 have l3:(gd (putL p (rqE q)) 3).rows.length≤60:=hd.len
 have hE:rqEnd (kp0 p) q=endL (sub (putL p (rqE q)) 0 4):=by unfold rqEnd; rw [putL_l]
 have e14:(gd (rqP2 (kp0 p) q) 14).rows=allO (gd p 0).int (prepM (rqP1 (kp0 p) q) (.i (rqEnd (kp0 p) q)) (rqE q)) (gd p 1).int.toNat:=by
  show (allD (.l []) (gd p 0).int (prepM (rqP1 (kp0 p) q) (.i (rqEnd (kp0 p) q)) (rqE q)) (gd p 1).int.toNat).rows=_
  rw [allD_rows]
  rfl
 have k2:=allO_len (gd p 0).int (prepM (rqP1 (kp0 p) q) (.i (rqEnd (kp0 p) q)) (rqE q)) (gd p 1).int.toNat
 have m2:∀ r∈(gd (rqP2 (kp0 p) q) 14).rows,noLog r:=by
  rw [e14]
  exact allO_noLog (fun t=>⟨rfl,rfl,rfl⟩) _
 have hP1:∀ j,j<3→gd (sub (rqP2 (kp0 p) q) 1 14) (7+j)=gd (putL p (rqE q)) (1+j):=fun j hj=>by
  rw [← putL_l]
  match j,hj with
  | 0,_=>rfl
  | 1,_=>rfl
  | 2,_=>rfl
 have hP3:∀ j,j<3→gd (sub (rqP3 (kp0 p) q) 1 14) (7+j)=gd (putL p (rqE q)) (1+j):=fun j hj=>by
  rw [← putL_l]
  match j,hj with
  | 0,_=>rfl
  | 1,_=>rfl
  | 2,_=>rfl
 cases (gd (kp0 p) 1).int==1 with
 | false =>
  rw [cond_false]
  refine ⟨?_,?_,?_,h10,?_,m2⟩
  ·rw [hP1 0 (by omega)]; show (gd (putL p (rqE q)) 1).rows.length≤60; omega
  ·rw [hP1 1 (by omega)]; show (gd (putL p (rqE q)) 2).rows.length≤60; omega
  ·rw [hP1 2 (by omega)]; show (gd (putL p (rqE q)) 3).rows.length≤60; omega
  ·show (gd (rqP2 (kp0 p) q) 14).rows.length≤200
   rw [e14]
   omega
 | true =>
  rw [cond_true]
  have e3:gd (sub (rqP3 (kp0 p) q) 1 14) 13=ansD (gd (rqP2 (kp0 p) q) 14) [gd (kp0 p) 0,gd (kp0 p) 1,gd (kp0 p) 2,gd (kp0 p) 3,gd (kp0 p) 4,.i (rqEnd (kp0 p) q),gd (putL (kp0 p) (rqE q)) 0,gd (putL (kp0 p) (rqE q)) 1,gd (putL (kp0 p) (rqE q)) 2,gd (putL (kp0 p) (rqE q)) 3,gd (kp0 p) 10,gd (kp0 p) 11,gd (kp0 p) 12,gd (rqP2 (kp0 p) q) 14] (gd p 5).int (rqEnd (kp0 p) q - (gd p 5).int).toNat:=rfl
  have n1':=n1
  simp only [hasN,inB,Bool.and_eq_true,decide_eq_true_eq] at n1'
  have n1a:=n1'.2.1
  have en:endL (sub (putL p (rqE q)) 0 4)=(gd (sub (putL p (rqE q)) 0 4) 0).int+((gd (putL p (rqE q)) 3).rows.length:Int):=hd.en
  refine ⟨?_,?_,?_,h10,?_,?_⟩
  ·rw [hP3 0 (by omega)]; show (gd (putL p (rqE q)) 1).rows.length≤60; omega
  ·rw [hP3 1 (by omega)]; show (gd (putL p (rqE q)) 2).rows.length≤60; omega
  ·rw [hP3 2 (by omega)]; show (gd (putL p (rqE q)) 3).rows.length≤60; omega
  ·rw [e3,ansD_rows,List.length_append,e14]
   have:=ansO_len [gd (kp0 p) 0,gd (kp0 p) 1,gd (kp0 p) 2,gd (kp0 p) 3,gd (kp0 p) 4,.i (rqEnd (kp0 p) q),gd (putL (kp0 p) (rqE q)) 0,gd (putL (kp0 p) (rqE q)) 1,gd (putL (kp0 p) (rqE q)) 2,gd (putL (kp0 p) (rqE q)) 3,gd (kp0 p) 10,gd (kp0 p) 11,gd (kp0 p) 12,gd (rqP2 (kp0 p) q) 14] (gd p 5).int (rqEnd (kp0 p) q - (gd p 5).int).toNat
   omega
  ·rw [e3,ansD_rows]
   intro r hr
   rcases List.mem_append.1 hr with hr | hr
   ·exact m2 r hr
   ·exact ansO_noLog _ _ _ r hr
theorem req_len (p q:List D):lenF (sub (onReqI p q) 0 14):=by
 show lenF (sub (hearsF (sub p 0 13) (sub q 0 17) (sub q 0 17)) 0 14)
 unfold hearsF
 cases h:repOk (sub p 0 13) with
 | false=>exact ⟨Nat.zero_le _,Nat.zero_le _,Nat.zero_le _,rfl,Nat.zero_le _,fun r hr=>by cases hr⟩
 | true =>
 rw [Bool.not_true,cond_false]
 cases fitsI (sub q 0 17)&&(gd (sub q 0 17) 0).int==1 with
 | true=>exact onReqP_len _ _ h
 | false =>
  obtain ⟨h7,h8,h9,h10⟩:=kp0_len h
  exact ⟨h7,h8,h9,h10,Nat.zero_le _,fun r hr=>by cases hr⟩
theorem req_ct {F:List D} (h:lenF F):ctReplica (sub F 0 13)≤100000000000000∧ctOutS (gd F 13)≤10000:=by
 obtain ⟨h7,h8,h9,h10,h13,hl⟩:=h
 have c7:=ctCell_n (gd F 7)
 have c8:=ctSeat_n (gd F 8)
 have c9:=ctEntry_n (gd F 9)
 have c10:=ctVote_n (gd F 10) h10
 have c13:=ctOut_n (gd F 13) hl
 simp only [vsmS,Bool.and_eq_true,leI,decide_eq_true_eq] at h10
 have h10:=h10.1
 refine ⟨?_,by omega⟩
 show ((ctCellS (gd F 7)+ctSeatS (gd F 8))+ctEntryS (gd F 9))+ctVoteS (gd F 10)≤100000000000000
 omega
end Go.Proofs.YthbbbhpjkgpdcaaGreat
namespace Go.Proofs.YthbbbhpjkgpdcaaGreat
set_option maxRecDepth 4096
set_option maxHeartbeats 1000000
def rDImage:List Ce:= [.own (0,0) true 148,.own (0,1) true 69]
def rDLog:List Ce:= [.d si,.own (0,1) true 148,.own (0,2) true 69,.own (0,3) true 78]
def rDMsg:List Ce:= [.d si,.d si,.d si,.d si,.d si,.d si,.d si,.d si,.d si,.d si,.d si,.d si,.d si,.d si,.own (0,14) true 148,.own (0,15) true 69,.own (0,16) true 78]
def rDVote:List Ce:= [.d si,.d si,.d si,.d si,.d si,.d si,.d si,.own (0,7) true 148,.own (0,8) true 69,.own (0,9) true 78]
def rDReplica:List Ce:= [.d si,.d si,.d si,.d si,.d si,.d si,.d si,.own (0,7) true 148,.own (0,8) true 69,.own (0,9) true 78,.own (0,1000010) true 132,.d si,.d si]
noncomputable def toSeatSdL (N:Nat) (p:List D):List D→Out:=loopOf Tryz.prog (find [toSeatE]) N [0,2,3,4,11] Tryz.f118 (.one (.c (.own (0,0) true 69))) [⟨sd (.sl 181),p⟩] 0
theorem toSeatSd_rd (p:List D) (N:Nat) (z x2:D) (rows:List (List D)) (k:Int):toSeatSdL N p [z,x2,.l rows,.i k]=bif decide (k<z.rows.length) then nd (inRange k z.rows.length) (nd (okSeat (sub (z.rows.getD k.toNat []) 0 3)) (nd (inRange k rows.length) (nx [z,x2,.l (rows.set k.toNat (cpSeat (sub (z.rows.getD k.toNat []) 0 3))),.i (w64 (k+1))]))) else ex 0 [z,x2,.l rows,.i k]:=by kernel_rfl
theorem toSeatSd_ev (p:List D) (N:Nat):evFn Tryz.prog (find [toSeatE]) N [0,2,3,4,11] Tryz.f118 (.one (.c (.own (0,0) true 69))) [⟨sd (.sl 181),p⟩]=some (bo,nd (decide (0≤((gd p 0).rows.length:Int))&&decide (((gd p 0).rows.length:Int)=((gd p 0).rows.length:Int))&&decide (((gd p 0).rows.length:Int)≤4294967296)&&true&&true)
  (let o:=iter (toSeatSdL N p) N [gd p 0,.l [],.l (List.replicate (gd p 0).rows.length [.i 0,.i 0,.i 0]),.i 0]
   nd o.isSome (nd (o.code==2) (some (1,[gd o.pay 2]))))):=by kernel_rfl
def toSeatSdE:Ent:=(118,e1 (sd (.sl 181)) fun p=>(⟨.one (.c (.own (0,0) true 69)),[cpSeatS (gd p 0)]⟩,okSeatS (gd p 0)))
theorem toSeatSd_ok:EntOk Tryz.prog toSeatSdE:=e1_ok fun p h=>evFn_sound (N:=(gd p 0).rows.length+1) (ks:= [0,2,3,4,11]) (key:=bo) (find_ok (fC ⟨toSeat_ok,fN⟩)) (enters Tryz.func118) Tryz.func118 fun hw=>by
 have h:okSeatS (gd p 0)=true:=h
 simp only [okSeatS,Bool.and_eq_true,decide_eq_true_eq,List.all_eq_true] at h
 rw [toSeatSd_ev,fill_loop (ok:=fun r=>okSeat (sub r 0 3)) (f:=fun r=>cpSeat (sub r 0 3)) [.i 0,.i 0,.i 0] (wt_sl (hw ⟨sd (.sl 181),p⟩ (by simp))) h.2 (toSeatSd_rd p _ _ _) (by omega)]
 rw [show decide (((gd p 0).rows.length:Int)≤4294967296)=true from decide_eq_true (by omega),show decide (0≤((gd p 0).rows.length:Int))=true from decide_eq_true (by omega),decide_eq_true (rfl:((gd p 0).rows.length:Int)=_)]
 rfl
theorem toImaged_ev (p:List D) (N:Nat):evFn Tryz.prog (find [toCellSdE,toSeatSdE]) N [0,1,2,3] Tryz.f77 (.one (.agg rDImage)) [⟨ag rLImage,p⟩]=some (bo,nd (okCellS (gd p 0)) (nd (okSeatS (gd p 1)) (some (1,cpImage p)))):=by kernel_rfl
def toImagedE:Ent:=(77,e1 (ag rLImage) fun p=>(⟨.one (.agg rDImage),cpImage p⟩,okImage p))
theorem toImaged_ok:EntOk Tryz.prog toImagedE:=e1_ok fun p h=>evFn_sound (N:=0) (ks:= [0,1,2,3]) (key:=bo) (find_ok (fC ⟨toCellSd_ok,fC ⟨toSeatSd_ok,fN⟩⟩)) (enters Tryz.func77) Tryz.func77 fun _=>by
 have h:okImage p=true:=h
 simp only [okImage,Bool.and_eq_true] at h
 rw [toImaged_ev]
 simp only [nd,h,cond_true]
noncomputable def toEntrySdL (N:Nat) (p:List D):List D→Out:=loopOf Tryz.prog (find [toEntryE]) N [0,2,3,4,11] Tryz.f78 (.one (.c (.own (0,0) true 78))) [⟨sd (.sl 163),p⟩] 0
theorem toEntrySd_rd (p:List D) (N:Nat) (z x2:D) (rows:List (List D)) (k:Int):toEntrySdL N p [z,x2,.l rows,.i k]=bif decide (k<z.rows.length) then nd (inRange k z.rows.length) (nd (okEntry (sub (z.rows.getD k.toNat []) 0 5)) (nd (inRange k rows.length) (nx [z,x2,.l (rows.set k.toNat (cpEntry (sub (z.rows.getD k.toNat []) 0 5))),.i (w64 (k+1))]))) else ex 0 [z,x2,.l rows,.i k]:=by kernel_rfl
theorem toEntrySd_ev (p:List D) (N:Nat):evFn Tryz.prog (find [toEntryE]) N [0,2,3,4,11] Tryz.f78 (.one (.c (.own (0,0) true 78))) [⟨sd (.sl 163),p⟩]=some (bo,nd (decide (0≤((gd p 0).rows.length:Int))&&decide (((gd p 0).rows.length:Int)=((gd p 0).rows.length:Int))&&decide (((gd p 0).rows.length:Int)≤4294967296)&&true&&true)
  (let o:=iter (toEntrySdL N p) N [gd p 0,.l [],.l (List.replicate (gd p 0).rows.length [.i 0,.i 0,.i 0,.i 0,.i 0]),.i 0]
   nd o.isSome (nd (o.code==2) (some (1,[gd o.pay 2]))))):=by kernel_rfl
def toEntrySdE:Ent:=(78,e1 (sd (.sl 163)) fun p=>(⟨.one (.c (.own (0,0) true 78)),[cpEntryS (gd p 0)]⟩,okEntryS (gd p 0)))
theorem toEntrySd_ok:EntOk Tryz.prog toEntrySdE:=e1_ok fun p h=>evFn_sound (N:=(gd p 0).rows.length+1) (ks:= [0,2,3,4,11]) (key:=bo) (find_ok (fC ⟨toEntry_ok,fN⟩)) (enters Tryz.func78) Tryz.func78 fun hw=>by
 have h:okEntryS (gd p 0)=true:=h
 simp only [okEntryS,Bool.and_eq_true,decide_eq_true_eq,List.all_eq_true] at h
 rw [toEntrySd_ev,fill_loop (ok:=fun r=>okEntry (sub r 0 5)) (f:=fun r=>cpEntry (sub r 0 5)) [.i 0,.i 0,.i 0,.i 0,.i 0] (wt_sl (hw ⟨sd (.sl 163),p⟩ (by simp))) h.2 (toEntrySd_rd p _ _ _) (by omega)]
 rw [show decide (((gd p 0).rows.length:Int)≤4294967296)=true from decide_eq_true (by omega),show decide (0≤((gd p 0).rows.length:Int))=true from decide_eq_true (by omega),decide_eq_true (rfl:((gd p 0).rows.length:Int)=_)]
 rfl
theorem toLogd_ev (p:List D) (N:Nat):evFn Tryz.prog (find [toImagedE,toEntrySdE]) N [0,1,2,3] Tryz.f31 (.one (.agg rDLog)) [⟨ag rLLog,p⟩]=some (bo,nd (okImage (sub p 1 2)) (nd (okEntryS (gd p 3)) (some (1,cpLog p)))):=by kernel_rfl
def toLogdE:Ent:=(31,e1 (ag rLLog) fun p=>(⟨.one (.agg rDLog),cpLog p⟩,okLog p))
theorem toLogd_ok:EntOk Tryz.prog toLogdE:=e1_ok fun p h=>evFn_sound (N:=0) (ks:= [0,1,2,3]) (key:=bo) (find_ok (fC ⟨toImaged_ok,fC ⟨toEntrySd_ok,fN⟩⟩)) (enters Tryz.func31) Tryz.func31 fun _=>by
 have h:okLog p=true:=h
 simp only [okLog,Bool.and_eq_true] at h
 rw [toLogd_ev]
 simp only [nd,h,cond_true]
theorem toMsgd_ev (p:List D) (N:Nat):evFn Tryz.prog (find [toCmdE,toLogdE]) N [0,1,2,3] Tryz.f8 (.one (.agg rDMsg)) [⟨ag rLMsg,p⟩]=some (bo,nd (okCmd (sub p 10 3)) (nd (okLog (sub p 13 4)) (some (1,cpMsg p)))):=by kernel_rfl
def toMsgdE:Ent:=(8,e1 (ag rLMsg) fun p=>(⟨.one (.agg rDMsg),cpMsg p⟩,okMsg p))
theorem toMsgd_ok:EntOk Tryz.prog toMsgdE:=e1_ok fun p h=>evFn_sound (N:=0) (ks:= [0,1,2,3]) (key:=bo) (find_ok (fC ⟨toCmd_ok,fC ⟨toLogd_ok,fN⟩⟩)) (enters Tryz.func8) Tryz.func8 fun _=>by
 have h:okMsg p=true:=h
 simp only [okMsg,Bool.and_eq_true] at h
 rw [toMsgd_ev]
 simp only [nd,h,cond_true]
theorem toVoted_ev (p:List D) (N:Nat):evFn Tryz.prog (find [toLogdE]) N [0,1,2,3] Tryz.f79 (.one (.agg rDVote)) [⟨ag rLVote,p⟩]=some (bo,nd (okLog (sub p 6 4)) (some (1,cpVote p))):=by kernel_rfl
def toVotedE:Ent:=(79,e1 (ag rLVote) fun p=>(⟨.one (.agg rDVote),cpVote p⟩,okVote p))
theorem toVoted_ok:EntOk Tryz.prog toVotedE:=e1_ok fun p h=>evFn_sound (N:=0) (ks:= [0,1,2,3]) (key:=bo) (find_ok (fC ⟨toLogd_ok,fN⟩)) (enters Tryz.func79) Tryz.func79 fun _=>by
 have h:okVote p=true:=h
 simp only [okVote,Bool.and_eq_true] at h
 rw [toVoted_ev]
 simp only [nd,h,cond_true]
noncomputable def toVoteSdL (N:Nat) (p:List D):List D→Out:=loopOf Tryz.prog (find [toVotedE,deepE [7]]) N [0,2,3,4,11] Tryz.f32 (.one (.c (.own (0,1000000) true 132))) [⟨sd (.sl 114),p⟩] 0
theorem toVoteSd_rd (p:List D) (N:Nat) (z x2:D) (rows:List (List D)) (k:Int):toVoteSdL N p [z,x2,.l rows,.i k]=bif decide (k<z.rows.length) then nd (inRange k z.rows.length) (nd (okVote (sub (z.rows.getD k.toNat []) 0 10)) (nd (inRange k rows.length) (nx [z,x2,.l (rows.set k.toNat (cpVote (sub (z.rows.getD k.toNat []) 0 10))),.i (w64 (k+1))]))) else ex 0 [z,x2,.l rows,.i k]:=by kernel_rfl
theorem toVoteSd_ev (p:List D) (N:Nat):evFn Tryz.prog (find [toVotedE,deepE [7]]) N [0,2,3,4,11] Tryz.f32 (.one (.c (.own (0,1000000) true 132))) [⟨sd (.sl 114),p⟩]=some (bo,nd (decide (0≤((gd p 0).rows.length:Int))&&decide (((gd p 0).rows.length:Int)=((gd p 0).rows.length:Int))&&decide (((gd p 0).rows.length:Int)≤4294967296)&&true&&true)
  (let o:=iter (toVoteSdL N p) N [gd p 0,.l [],.l (List.replicate (gd p 0).rows.length [.i 0,.i 0,.i 0,.i 0,.i 0,.i 0,.i 0,.l [],.l [],.l []]),.i 0]
   nd o.isSome (nd (o.code==2) (some (1,[gd o.pay 2]))))):=by kernel_rfl
def toVoteSdE:Ent:=(32,e1 (sd (.sl 114)) fun p=>(⟨.one (.c (.own (0,1000000) true 132)),[cpVoteS (gd p 0)]⟩,okVoteS (gd p 0)))
theorem toVoteSd_ok:EntOk Tryz.prog toVoteSdE:=e1_ok fun p h=>evFn_sound (N:=(gd p 0).rows.length+1) (ks:= [0,2,3,4,11]) (key:=bo) (find_ok (fC ⟨toVoted_ok,fC ⟨deepE_ok _,fN⟩⟩)) (enters Tryz.func32) Tryz.func32 fun hw=>by
 have h:okVoteS (gd p 0)=true:=h
 simp only [okVoteS,Bool.and_eq_true,decide_eq_true_eq,List.all_eq_true] at h
 rw [toVoteSd_ev,fill_loop (ok:=fun r=>okVote (sub r 0 10)) (f:=fun r=>cpVote (sub r 0 10)) [.i 0,.i 0,.i 0,.i 0,.i 0,.i 0,.i 0,.l [],.l [],.l []] (wt_sl (hw ⟨sd (.sl 114),p⟩ (by simp))) h.2 (toVoteSd_rd p _ _ _) (by omega)]
 rw [show decide (((gd p 0).rows.length:Int)≤4294967296)=true from decide_eq_true (by omega),show decide (0≤((gd p 0).rows.length:Int))=true from decide_eq_true (by omega),decide_eq_true (rfl:((gd p 0).rows.length:Int)=_)]
 rfl
theorem toReplicad_ev (p:List D) (N:Nat):evFn Tryz.prog (find [toLogdE,toVoteSdE]) N [0,1,2,3] Tryz.f7 (.one (.agg rDReplica)) [⟨ag rLReplica,p⟩]=some (bo,nd (okLog (sub p 6 4)) (nd (okVoteS (gd p 10)) (some (1,cpReplica p)))):=by kernel_rfl
def toReplicadE:Ent:=(7,e1 (ag rLReplica) fun p=>(⟨.one (.agg rDReplica),cpReplica p⟩,okReplica p))
theorem toReplicad_ok:EntOk Tryz.prog toReplicadE:=e1_ok fun p h=>evFn_sound (N:=0) (ks:= [0,1,2,3]) (key:=bo) (find_ok (fC ⟨toLogd_ok,fC ⟨toVoteSd_ok,fN⟩⟩)) (enters Tryz.func7) Tryz.func7 fun _=>by
 have h:okReplica p=true:=h
 simp only [okReplica,Bool.and_eq_true] at h
 rw [toReplicad_ev]
 simp only [nd,h,cond_true]
end Go.Proofs.YthbbbhpjkgpdcaaGreat
namespace Go.Proofs.YthbbbhpjkgpdcaaGreat
set_option maxRecDepth 4096
set_option maxHeartbeats 1000000
abbrev l_OnRequestT:FuncId→List T→Option (T × Bool):=find [szReplicaE,szMsgE,toReplicadE,toMsgdE,s_OnRequestE,i_OnRequestE,eqReplicaE,eqOutSE,eqMsgE,mkReplicaE,mkMsgE,mkOutSE,hdReplicaE,hdOutSE,apartE]
theorem l_OnRequestT_ok:CallOk Tryz.prog l_OnRequestT:=find_ok (fC ⟨szReplica_ok,fC ⟨szMsg_ok,fC ⟨toReplicad_ok,fC ⟨toMsgd_ok,fC ⟨s_OnRequest_ok,fC ⟨i_OnRequest_ok,fC ⟨eqReplica_ok,fC ⟨eqOutS_ok,fC ⟨eqMsg_ok,fC ⟨mkReplica_ok,fC ⟨mkMsg_ok,fC ⟨mkOutS_ok,fC ⟨hdReplica_ok,fC ⟨hdOutS_ok,fC ⟨apart_ok,fN⟩⟩⟩⟩⟩⟩⟩⟩⟩⟩⟩⟩⟩⟩⟩)
abbrev l_OnRequestK:List Nat:= [0,1,2,3,4,5,6,7,8,9,10,11,12,13,14,15,16,21,26,54,59,64,84,95,100,103,121,126,131,134]
def l_OnRequestc0 (p q:List D):List D:=onReqI (sub (cpReplica (sub p 0 13)) 0 13) (sub (cpMsg (sub q 0 17)) 0 17)
def l_OnRequestc1 (p q:List D):List D:=mkReplica (sub (sub (l_OnRequestc0 p q) 0 14) 0 13) (.i 1)
def l_OnRequestc2 (p q:List D):List D:=mkOutS [gd (sub (l_OnRequestc0 p q) 0 14) 13] (gd (l_OnRequestc1 p q) 0)
def l_OnRequest_evq0 (N:Nat) (p q:List D):List (List D):= [[gd (sub (l_OnRequestc0 p q) 0 14) 13],[.i 0],[gd (sub (l_OnRequestc0 p q) 0 14) 13],sub (sub (l_OnRequestc0 p q) 0 14) 0 13,sub (sub (l_OnRequestc0 p q) 0 14) 0 14,sub (sub (l_OnRequestc0 p q) 0 14) 0 14,sub (cpMsg (sub q 0 17)) 0 17,sub (cpReplica (sub p 0 13)) 0 13,sub q 0 17,sub p 0 13,p,q,[.i 0],[.i 0],[.i 0],[.i (left (sizeMsg (sub q 0 17)) (left (sizeReplica (sub p 0 13)) 1048576))],[.b (ltI (left (sizeReplica (sub p 0 13)) 1048576) 0)],[.b (ltI (left (sizeMsg (sub q 0 17)) (left (sizeReplica (sub p 0 13)) 1048576)) 0)],sub p 0 13,sub q 0 17,sub (sub (l_OnRequestc0 p q) 0 14) 0 13]
def l_OnRequest_evq1 (N:Nat) (p q:List D):List (List D):= [[gd (sub (l_OnRequestc0 p q) 0 14) 13],[.i 0],[gd (sub (l_OnRequestc0 p q) 0 14) 13],sub (sub (l_OnRequestc0 p q) 0 14) 0 13,sub (sub (l_OnRequestc0 p q) 0 14) 0 14,sub (sub (l_OnRequestc0 p q) 0 14) 0 14,sub (cpMsg (sub q 0 17)) 0 17,sub (cpReplica (sub p 0 13)) 0 13,sub q 0 17,sub p 0 13,[gd p 0,gd p.tail 0,gd p.tail.tail 0,gd p.tail.tail.tail 0,gd p.tail.tail.tail.tail 0,gd p.tail.tail.tail.tail.tail 0,gd p.tail.tail.tail.tail.tail.tail 0,gd p.tail.tail.tail.tail.tail.tail.tail 0,gd p.tail.tail.tail.tail.tail.tail.tail.tail 0,gd p.tail.tail.tail.tail.tail.tail.tail.tail.tail 0,gd p.tail.tail.tail.tail.tail.tail.tail.tail.tail.tail 0,gd p.tail.tail.tail.tail.tail.tail.tail.tail.tail.tail.tail 0,gd p.tail.tail.tail.tail.tail.tail.tail.tail.tail.tail.tail.tail 0],[gd q 0,gd q.tail 0,gd q.tail.tail 0,gd q.tail.tail.tail 0,gd q.tail.tail.tail.tail 0,gd q.tail.tail.tail.tail.tail 0,gd q.tail.tail.tail.tail.tail.tail 0,gd q.tail.tail.tail.tail.tail.tail.tail 0,gd q.tail.tail.tail.tail.tail.tail.tail.tail 0,gd q.tail.tail.tail.tail.tail.tail.tail.tail.tail 0,gd q.tail.tail.tail.tail.tail.tail.tail.tail.tail.tail 0,gd q.tail.tail.tail.tail.tail.tail.tail.tail.tail.tail.tail 0,gd q.tail.tail.tail.tail.tail.tail.tail.tail.tail.tail.tail.tail 0,gd q.tail.tail.tail.tail.tail.tail.tail.tail.tail.tail.tail.tail.tail 0,gd q.tail.tail.tail.tail.tail.tail.tail.tail.tail.tail.tail.tail.tail.tail 0,gd q.tail.tail.tail.tail.tail.tail.tail.tail.tail.tail.tail.tail.tail.tail.tail 0,gd q.tail.tail.tail.tail.tail.tail.tail.tail.tail.tail.tail.tail.tail.tail.tail.tail 0],[.i 0],[.i 0],[.i 0],[.i (left (sizeMsg (sub q 0 17)) (left (sizeReplica (sub p 0 13)) 1048576))],[.b (ltI (left (sizeReplica (sub p 0 13)) 1048576) 0)],[.b (ltI (left (sizeMsg (sub q 0 17)) (left (sizeReplica (sub p 0 13)) 1048576)) 0)],[.i 0],[gd (sub (l_OnRequestc0 p q) 0 14) 13],[.i 0],[.i 0],[.i 0],[.l (gd (l_OnRequestc2 p q) 1).rows],[.b (!(eqOutS (gd (sub (l_OnRequestc0 p q) 0 14) 13) (gd (sub (l_OnRequestc0 p q) 0 14) 13)))],[.b (!(eqReplica (sub (cpReplica (sub p 0 13)) 0 13) (sub (cpReplica (sub p 0 13)) 0 13)))],[.b (!(eqMsg (sub (cpMsg (sub q 0 17)) 0 17) (sub (cpMsg (sub q 0 17)) 0 17)))],[gd (mkMsg (sub (cpMsg (sub q 0 17)) 0 17) (gd (mkReplica (sub (cpReplica (sub p 0 13)) 0 13) (.i 1)) 0)) 0],[.b (!(eqOutS (gd (sub (l_OnRequestc0 p q) 0 14) 13) (gd (sub (l_OnRequestc0 p q) 0 14) 13)))],[gd (l_OnRequestc2 p q) 0],[hdOutS (.l (gd (l_OnRequestc2 p q) 1).rows) (hdReplica [gd (sub (l_OnRequestc0 p q) 0 14) 0,gd (sub (l_OnRequestc0 p q) 0 14) 1,gd (sub (l_OnRequestc0 p q) 0 14) 2,gd (sub (l_OnRequestc0 p q) 0 14) 3,gd (sub (l_OnRequestc0 p q) 0 14) 4,gd (sub (l_OnRequestc0 p q) 0 14) 5,gd (sub (l_OnRequestc0 p q) 0 14) 6,.l (gd (l_OnRequestc1 p q) 8).rows,.l (gd (l_OnRequestc1 p q) 9).rows,.l (gd (l_OnRequestc1 p q) 10).rows,.l (gd (l_OnRequestc1 p q) 11).rows,gd (sub (l_OnRequestc0 p q) 0 14) 11,gd (sub (l_OnRequestc0 p q) 0 14) 12] (.i 1))],[.b (ltI (hdReplica [gd (sub (l_OnRequestc0 p q) 0 14) 0,gd (sub (l_OnRequestc0 p q) 0 14) 1,gd (sub (l_OnRequestc0 p q) 0 14) 2,gd (sub (l_OnRequestc0 p q) 0 14) 3,gd (sub (l_OnRequestc0 p q) 0 14) 4,gd (sub (l_OnRequestc0 p q) 0 14) 5,gd (sub (l_OnRequestc0 p q) 0 14) 6,.l (gd (l_OnRequestc1 p q) 8).rows,.l (gd (l_OnRequestc1 p q) 9).rows,.l (gd (l_OnRequestc1 p q) 10).rows,.l (gd (l_OnRequestc1 p q) 11).rows,gd (sub (l_OnRequestc0 p q) 0 14) 11,gd (sub (l_OnRequestc0 p q) 0 14) 12] (.i 1)).int 0)],[.b (ltI (hdOutS (.l (gd (l_OnRequestc2 p q) 1).rows) (hdReplica [gd (sub (l_OnRequestc0 p q) 0 14) 0,gd (sub (l_OnRequestc0 p q) 0 14) 1,gd (sub (l_OnRequestc0 p q) 0 14) 2,gd (sub (l_OnRequestc0 p q) 0 14) 3,gd (sub (l_OnRequestc0 p q) 0 14) 4,gd (sub (l_OnRequestc0 p q) 0 14) 5,gd (sub (l_OnRequestc0 p q) 0 14) 6,.l (gd (l_OnRequestc1 p q) 8).rows,.l (gd (l_OnRequestc1 p q) 9).rows,.l (gd (l_OnRequestc1 p q) 10).rows,.l (gd (l_OnRequestc1 p q) 11).rows,gd (sub (l_OnRequestc0 p q) 0 14) 11,gd (sub (l_OnRequestc0 p q) 0 14) 12] (.i 1))).int 0)],[.b ((hdOutS (.l (gd (l_OnRequestc2 p q) 1).rows) (hdReplica [gd (sub (l_OnRequestc0 p q) 0 14) 0,gd (sub (l_OnRequestc0 p q) 0 14) 1,gd (sub (l_OnRequestc0 p q) 0 14) 2,gd (sub (l_OnRequestc0 p q) 0 14) 3,gd (sub (l_OnRequestc0 p q) 0 14) 4,gd (sub (l_OnRequestc0 p q) 0 14) 5,gd (sub (l_OnRequestc0 p q) 0 14) 6,.l (gd (l_OnRequestc1 p q) 8).rows,.l (gd (l_OnRequestc1 p q) 9).rows,.l (gd (l_OnRequestc1 p q) 10).rows,.l (gd (l_OnRequestc1 p q) 11).rows,gd (sub (l_OnRequestc0 p q) 0 14) 11,gd (sub (l_OnRequestc0 p q) 0 14) 12] (.i 1))).int != (gd (l_OnRequestc2 p q) 0).int)],sub p 0 13,sub q 0 17,sub (sub (l_OnRequestc0 p q) 0 14) 0 13,[gd (cpReplica (sub p 0 13)) 0,gd (cpReplica (sub p 0 13)) 1,gd (cpReplica (sub p 0 13)) 2,gd (cpReplica (sub p 0 13)) 3,gd (cpReplica (sub p 0 13)) 4,gd (cpReplica (sub p 0 13)) 5,gd (cpReplica (sub p 0 13)) 6,.l (gd (mkReplica (sub (cpReplica (sub p 0 13)) 0 13) (.i 1)) 8).rows,.l (gd (mkReplica (sub (cpReplica (sub p 0 13)) 0 13) (.i 1)) 9).rows,.l (gd (mkReplica (sub (cpReplica (sub p 0 13)) 0 13) (.i 1)) 10).rows,.l (gd (mkReplica (sub (cpReplica (sub p 0 13)) 0 13) (.i 1)) 11).rows,gd (cpReplica (sub p 0 13)) 11,gd (cpReplica (sub p 0 13)) 12],[gd (cpMsg (sub q 0 17)) 0,gd (cpMsg (sub q 0 17)) 1,gd (cpMsg (sub q 0 17)) 2,gd (cpMsg (sub q 0 17)) 3,gd (cpMsg (sub q 0 17)) 4,gd (cpMsg (sub q 0 17)) 5,gd (cpMsg (sub q 0 17)) 6,gd (cpMsg (sub q 0 17)) 7,gd (cpMsg (sub q 0 17)) 8,gd (cpMsg (sub q 0 17)) 9,gd (cpMsg (sub q 0 17)) 10,gd (cpMsg (sub q 0 17)) 11,gd (cpMsg (sub q 0 17)) 12,gd (cpMsg (sub q 0 17)) 13,.l (gd (mkMsg (sub (cpMsg (sub q 0 17)) 0 17) (gd (mkReplica (sub (cpReplica (sub p 0 13)) 0 13) (.i 1)) 0)) 15).rows,.l (gd (mkMsg (sub (cpMsg (sub q 0 17)) 0 17) (gd (mkReplica (sub (cpReplica (sub p 0 13)) 0 13) (.i 1)) 0)) 16).rows,.l (gd (mkMsg (sub (cpMsg (sub q 0 17)) 0 17) (gd (mkReplica (sub (cpReplica (sub p 0 13)) 0 13) (.i 1)) 0)) 17).rows],[gd (sub (l_OnRequestc0 p q) 0 14) 0,gd (sub (l_OnRequestc0 p q) 0 14) 1,gd (sub (l_OnRequestc0 p q) 0 14) 2,gd (sub (l_OnRequestc0 p q) 0 14) 3,gd (sub (l_OnRequestc0 p q) 0 14) 4,gd (sub (l_OnRequestc0 p q) 0 14) 5,gd (sub (l_OnRequestc0 p q) 0 14) 6,.l (gd (l_OnRequestc1 p q) 8).rows,.l (gd (l_OnRequestc1 p q) 9).rows,.l (gd (l_OnRequestc1 p q) 10).rows,.l (gd (l_OnRequestc1 p q) 11).rows,gd (sub (l_OnRequestc0 p q) 0 14) 11,gd (sub (l_OnRequestc0 p q) 0 14) 12],sub (sub (l_OnRequestc0 p q) 0 14) 0 13]
theorem l_OnRequest_ev (N:Nat) (p q:List D):evFn Tryz.prog l_OnRequestT N l_OnRequestK Tryz.f3 rb [⟨ag rLReplica,p⟩,⟨ag rLMsg,q⟩]=some (bo,
 nd (fair 1048576) (bif ltI (left (sizeReplica (sub p 0 13)) 1048576) 0 then ob true
 else nd (fair (left (sizeReplica (sub p 0 13)) 1048576)) (bif ltI (left (sizeMsg (sub q 0 17)) (left (sizeReplica (sub p 0 13)) 1048576)) 0 then ob true
 else nd ((okReplica (sub p 0 13))&&((okMsg (sub q 0 17))&&true)) (ndN 8 (((okReplica (sub p 0 13))&&((okMsg (sub q 0 17))&&true))&&(sameP (l_OnRequest_evq0 N p q) (l_OnRequest_evq0 N p q))) (nd (okReplica (sub p 0 13)) (nd (okMsg (sub q 0 17)) (bif !(eqReplica (sub (sub (l_OnRequestc0 p q) 0 14) 0 13) (sub (sub (l_OnRequestc0 p q) 0 14) 0 13)) then ob false
 else bif !(eqOutS (gd (sub (l_OnRequestc0 p q) 0 14) 13) (gd (sub (l_OnRequestc0 p q) 0 14) 13)) then ob false
 else nd (okReplica (sub p 0 13)) (bif !(eqReplica (sub (cpReplica (sub p 0 13)) 0 13) (sub (cpReplica (sub p 0 13)) 0 13)) then ob false
 else nd (okMsg (sub q 0 17)) (bif !(eqMsg (sub (cpMsg (sub q 0 17)) 0 17) (sub (cpMsg (sub q 0 17)) 0 17)) then ob false
 else bif ltI (gd (mkMsg (sub (cpMsg (sub q 0 17)) 0 17) (gd (mkReplica (sub (cpReplica (sub p 0 13)) 0 13) (.i 1)) 0)) 0).int 0 then ob false
 else bif !(eqReplica (sub (sub (l_OnRequestc0 p q) 0 14) 0 13) (sub (sub (l_OnRequestc0 p q) 0 14) 0 13)) then ob false
 else bif !(eqOutS (gd (sub (l_OnRequestc0 p q) 0 14) 13) (gd (sub (l_OnRequestc0 p q) 0 14) 13)) then ob false
 else bif ltI (hdReplica [gd (sub (l_OnRequestc0 p q) 0 14) 0,gd (sub (l_OnRequestc0 p q) 0 14) 1,gd (sub (l_OnRequestc0 p q) 0 14) 2,gd (sub (l_OnRequestc0 p q) 0 14) 3,gd (sub (l_OnRequestc0 p q) 0 14) 4,gd (sub (l_OnRequestc0 p q) 0 14) 5,gd (sub (l_OnRequestc0 p q) 0 14) 6,.l (gd (l_OnRequestc1 p q) 8).rows,.l (gd (l_OnRequestc1 p q) 9).rows,.l (gd (l_OnRequestc1 p q) 10).rows,.l (gd (l_OnRequestc1 p q) 11).rows,gd (sub (l_OnRequestc0 p q) 0 14) 11,gd (sub (l_OnRequestc0 p q) 0 14) 12] (.i 1)).int 0 then ob false
 else bif ltI (hdOutS (.l (gd (l_OnRequestc2 p q) 1).rows) (hdReplica [gd (sub (l_OnRequestc0 p q) 0 14) 0,gd (sub (l_OnRequestc0 p q) 0 14) 1,gd (sub (l_OnRequestc0 p q) 0 14) 2,gd (sub (l_OnRequestc0 p q) 0 14) 3,gd (sub (l_OnRequestc0 p q) 0 14) 4,gd (sub (l_OnRequestc0 p q) 0 14) 5,gd (sub (l_OnRequestc0 p q) 0 14) 6,.l (gd (l_OnRequestc1 p q) 8).rows,.l (gd (l_OnRequestc1 p q) 9).rows,.l (gd (l_OnRequestc1 p q) 10).rows,.l (gd (l_OnRequestc1 p q) 11).rows,gd (sub (l_OnRequestc0 p q) 0 14) 11,gd (sub (l_OnRequestc0 p q) 0 14) 12] (.i 1))).int 0 then ob false
 else bif (hdOutS (.l (gd (l_OnRequestc2 p q) 1).rows) (hdReplica [gd (sub (l_OnRequestc0 p q) 0 14) 0,gd (sub (l_OnRequestc0 p q) 0 14) 1,gd (sub (l_OnRequestc0 p q) 0 14) 2,gd (sub (l_OnRequestc0 p q) 0 14) 3,gd (sub (l_OnRequestc0 p q) 0 14) 4,gd (sub (l_OnRequestc0 p q) 0 14) 5,gd (sub (l_OnRequestc0 p q) 0 14) 6,.l (gd (l_OnRequestc1 p q) 8).rows,.l (gd (l_OnRequestc1 p q) 9).rows,.l (gd (l_OnRequestc1 p q) 10).rows,.l (gd (l_OnRequestc1 p q) 11).rows,gd (sub (l_OnRequestc0 p q) 0 14) 11,gd (sub (l_OnRequestc0 p q) 0 14) 12] (.i 1))).int != (gd (l_OnRequestc2 p q) 0).int then ob false
 else nd ((okReplica (sub p 0 13))&&((okMsg (sub q 0 17))&&true)) (ndN 8 (((okReplica (sub p 0 13))&&((okMsg (sub q 0 17))&&true))&&(sameP (l_OnRequest_evq1 N p q) (l_OnRequest_evq1 N p q))) (bif !(eqReplica (sub (sub (l_OnRequestc0 p q) 0 14) 0 13) (sub (sub (l_OnRequestc0 p q) 0 14) 0 13)) then ob false
 else bif !(eqOutS (gd (sub (l_OnRequestc0 p q) 0 14) 13) (gd (sub (l_OnRequestc0 p q) 0 14) 13)) then ob false
 else bif ltI (hdReplica [gd (sub (l_OnRequestc0 p q) 0 14) 0,gd (sub (l_OnRequestc0 p q) 0 14) 1,gd (sub (l_OnRequestc0 p q) 0 14) 2,gd (sub (l_OnRequestc0 p q) 0 14) 3,gd (sub (l_OnRequestc0 p q) 0 14) 4,gd (sub (l_OnRequestc0 p q) 0 14) 5,gd (sub (l_OnRequestc0 p q) 0 14) 6,.l (gd (l_OnRequestc1 p q) 8).rows,.l (gd (l_OnRequestc1 p q) 9).rows,.l (gd (l_OnRequestc1 p q) 10).rows,.l (gd (l_OnRequestc1 p q) 11).rows,gd (sub (l_OnRequestc0 p q) 0 14) 11,gd (sub (l_OnRequestc0 p q) 0 14) 12] (.i 1)).int 0 then ob false
 else bif ltI (hdOutS (.l (gd (l_OnRequestc2 p q) 1).rows) (hdReplica [gd (sub (l_OnRequestc0 p q) 0 14) 0,gd (sub (l_OnRequestc0 p q) 0 14) 1,gd (sub (l_OnRequestc0 p q) 0 14) 2,gd (sub (l_OnRequestc0 p q) 0 14) 3,gd (sub (l_OnRequestc0 p q) 0 14) 4,gd (sub (l_OnRequestc0 p q) 0 14) 5,gd (sub (l_OnRequestc0 p q) 0 14) 6,.l (gd (l_OnRequestc1 p q) 8).rows,.l (gd (l_OnRequestc1 p q) 9).rows,.l (gd (l_OnRequestc1 p q) 10).rows,.l (gd (l_OnRequestc1 p q) 11).rows,gd (sub (l_OnRequestc0 p q) 0 14) 11,gd (sub (l_OnRequestc0 p q) 0 14) 12] (.i 1))).int 0 then ob false
 else bif (hdOutS (.l (gd (l_OnRequestc2 p q) 1).rows) (hdReplica [gd (sub (l_OnRequestc0 p q) 0 14) 0,gd (sub (l_OnRequestc0 p q) 0 14) 1,gd (sub (l_OnRequestc0 p q) 0 14) 2,gd (sub (l_OnRequestc0 p q) 0 14) 3,gd (sub (l_OnRequestc0 p q) 0 14) 4,gd (sub (l_OnRequestc0 p q) 0 14) 5,gd (sub (l_OnRequestc0 p q) 0 14) 6,.l (gd (l_OnRequestc1 p q) 8).rows,.l (gd (l_OnRequestc1 p q) 9).rows,.l (gd (l_OnRequestc1 p q) 10).rows,.l (gd (l_OnRequestc1 p q) 11).rows,gd (sub (l_OnRequestc0 p q) 0 14) 11,gd (sub (l_OnRequestc0 p q) 0 14) 12] (.i 1))).int != (gd (l_OnRequestc2 p q) 0).int then ob false
 else ob true))))))))))):=by kernel_rfl
theorem held_req {F:List D} (h:lenF F) :
  hdReplica [gd F 0,gd F 1,gd F 2,gd F 3,gd F 4,gd F 5,gd F 6,.l (gd (mkReplica (sub F 0 13) (.i 1)) 8).rows,.l (gd (mkReplica (sub F 0 13) (.i 1)) 9).rows,.l (gd (mkReplica (sub F 0 13) (.i 1)) 10).rows,.l (gd (mkReplica (sub F 0 13) (.i 1)) 11).rows,gd F 11,gd F 12] (.i 1)=gd (mkReplica (sub F 0 13) (.i 1)) 0∧ltI (gd (mkReplica (sub F 0 13) (.i 1)) 0).int 0=false ∧
  hdOutS (.l (gd (mkOutS [gd F 13] (gd (mkReplica (sub F 0 13) (.i 1)) 0)) 1).rows) (gd (mkReplica (sub F 0 13) (.i 1)) 0)=gd (mkOutS [gd F 13] (gd (mkReplica (sub F 0 13) (.i 1)) 0)) 0∧ltI (gd (mkOutS [gd F 13] (gd (mkReplica (sub F 0 13) (.i 1)) 0)) 0).int 0=false:=by
 obtain ⟨c1,c2⟩:=req_ct h
 have hc:(D.i 1).int+(ctReplica (sub F 0 13):Nat)≤4611686018427387904:=by show (1:Int)+_≤_; omega
 have hm:=mkReplica_k (p:=sub F 0 13) (q:=.i 1) (by decide) hc
 have hm:(gd (mkReplica (sub F 0 13) (.i 1)) 0).int=1+(ctReplica (sub F 0 13):Nat):=hm
 have hr:hdReplica [gd F 0,gd F 1,gd F 2,gd F 3,gd F 4,gd F 5,gd F 6,.l (gd (mkReplica (sub F 0 13) (.i 1)) 8).rows,.l (gd (mkReplica (sub F 0 13) (.i 1)) 9).rows,.l (gd (mkReplica (sub F 0 13) (.i 1)) 10).rows,.l (gd (mkReplica (sub F 0 13) (.i 1)) 11).rows,gd F 11,gd F 12] (.i 1)=gd (mkReplica (sub F 0 13) (.i 1)) 0:=heldReplica (p:=sub F 0 13) (q:=.i 1) (by decide) hc
 generalize gd (mkReplica (sub F 0 13) (.i 1)) 0=K at hm hr ⊢
 have h2:=mkOutS_k (x:=gd F 13) (q:=K) (by omega) (by omega)
 exact ⟨hr,ltI_f (by omega),heldOutS (x:=gd F 13) (q:=K) (by omega) (by omega),ltI_f (by omega)⟩
def l_OnRequestE:Ent:=(3,e2 (ag rLReplica) (ag rLMsg) fun p q=>(⟨rb,[.b true]⟩,true))
theorem l_OnRequest_ok:EntOk Tryz.prog l_OnRequestE:=e2_ok fun p q h=>evFn_sound (N:=0) (ks:=l_OnRequestK) (key:=bo) l_OnRequestT_ok (enters Tryz.func3) Tryz.func3 fun hw=>by
 rw [l_OnRequest_ev]
 rw [show fair 1048576=true from rfl]
 cases h0:ltI (left (sizeReplica (sub p 0 13)) 1048576) 0
 ·obtain ⟨e0,l0⟩:=left_ge h0 (by omega)
  have l0:sizeReplica (sub p 0 13)≤1048576:=by omega
  have hf:fair (left (sizeReplica (sub p 0 13)) 1048576)=true:=by
   rw [e0]
   unfold fair
   rw [Bool.and_eq_true,decide_eq_true_eq,decide_eq_true_eq]
   omega
  rw [hf]
  cases h1:ltI (left (sizeMsg (sub q 0 17)) (left (sizeReplica (sub p 0 13)) 1048576)) 0
  ·obtain ⟨e1,l1⟩:=left_ge h1 (by omega)
   have l1:sizeMsg (sub q 0 17)≤1048576:=by omega
   have hok:=okReplica_of (m:=1048576) (by omega) l0
   have hokm:=okMsg_of (m:=1048576) (by omega) l1
   have b1:ctReplica (sub (cpReplica (sub p 0 13)) 0 13)≤16*sizeReplica (sub p 0 13):=bdReplica (sub p 0 13)
   have b2:ctMsg (sub (cpMsg (sub q 0 17)) 0 17)≤16*sizeMsg (sub q 0 17):=bdMsg (sub q 0 17)
   have m1:=mkReplica_k (p:=sub (cpReplica (sub p 0 13)) 0 13) (q:=.i 1) (by decide) (by
    show (1:Int)+(ctReplica (sub (cpReplica (sub p 0 13)) 0 13):Nat)≤_
    omega)
   have m1:(gd (mkReplica (sub (cpReplica (sub p 0 13)) 0 13) (.i 1)) 0).int=1+(ctReplica (sub (cpReplica (sub p 0 13)) 0 13):Nat):=m1
   have m2:=mkMsg_k (p:=sub (cpMsg (sub q 0 17)) 0 17) (q:=gd (mkReplica (sub (cpReplica (sub p 0 13)) 0 13) (.i 1)) 0) (by omega) (by omega)
   have hk0:ltI (gd (mkMsg (sub (cpMsg (sub q 0 17)) 0 17) (gd (mkReplica (sub (cpReplica (sub p 0 13)) 0 13) (.i 1)) 0)) 0).int 0=false:=ltI_f (by omega)
   have c1:=req_len (sub (cpReplica (sub p 0 13)) 0 13) (sub (cpMsg (sub q 0 17)) 0 17)
   rw [hok,hokm,hk0]
   simp only [sameP_self,Bool.and_self,ndN_true,nd_true]
   unfold l_OnRequestc2 l_OnRequestc1 l_OnRequestc0
   generalize sub (onReqI (sub (cpReplica (sub p 0 13)) 0 13) (sub (cpMsg (sub q 0 17)) 0 17)) 0 14=F at *
   obtain ⟨g1,g2,g3,g4⟩:=held_req c1
   rw [g1,g2,g3,g4,eqReplica_refl,eqReplica_refl,eqOutS_refl,eqMsg_refl]
   simp only [nd,cond_true,cond_false,beq_self_eq_true,bne_self_eq_false,Bool.not_true]
  ·rfl
 ·rfl
end Go.Proofs.YthbbbhpjkgpdcaaGreat
