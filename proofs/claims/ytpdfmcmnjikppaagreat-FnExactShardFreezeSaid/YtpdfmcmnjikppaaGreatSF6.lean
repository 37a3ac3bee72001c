/-
 Texts of the proof,put together: part 6.
-/
import Derived.Test.YtpdfmcmnjikppaaGreatSF1
import Derived.Test.YtpdfmcmnjikppaaGreatSF2
import Derived.Test.YtpdfmcmnjikppaaGreatSF3
import Derived.Test.YtpdfmcmnjikppaaGreatSF4
import Derived.Test.YtpdfmcmnjikppaaGreatSF5
import Derived.Deep.Slices
import Derived.Deep.Fields
import Derived.OpenShut
set_option linter.unusedSimpArgs false
set_option linter.unusedVariables false
set_option linter.unusedSectionVars false
namespace Go.Proofs.YtpdfmcmnjikppaaGreat.HI
open Go.RowKit Go.Lib Go.Proofs.YtpdfmcmnjikppaaGreat.H
set_option maxRecDepth 100000
set_option maxHeartbeats 4000000
abbrev zi:Value:=.int .i64 0
theorem info_int:(Tryz.prog.info? 3).map (fun i=>(i.zero,i.size,i.bytes))=some (some zi,1,8):=by kernel_rfl
theorem ins_shift (b off n c i k vb voff vc:Nat) (cs vs:List Value) (w:World) (hk:k=i+1) (hi:i<n) (hroom:n+1≤c) (hc63:c≤9223372036854775807) (hvb:vb≠b)
  (hcl:cs.length=n) (hvl:vs.length=1)
  (hcs:∀ j v,cs[j]?=some v→w.cell? ⟨b,off+j,none⟩=some v) (hsp:∀ j,j<(n+1)→(w.cell? ⟨b,off+j,none⟩).isSome=true) (hfz:∀ j,j<(n+1)→w.frozen? ⟨b,off+j,none⟩=false)
  (hvs:∀ j v,vs[j]?=some v→w.cell? ⟨vb,voff+j,none⟩=some v) (h1c:∀ v∈cs,v.oneCell'=true) (h1v:∀ v∈vs,v.oneCell'=true)
  (tA tB:TypeId) (kA kB:Nat) (hsa:w.shape? vb=some (tA,kA)) (hsb:w.shape? b=some (tB,kB)) (hkB:kB≠0) (hfa:w.frozen? ⟨vb,voff,none⟩=false) (hfe:w.frozen? ⟨vb,kA,none⟩=false) :
  Calls Tryz.prog 195 #[.slice (some ⟨b,off,none⟩) n c,.int .i64 i,.slice (some ⟨vb,voff,none⟩) 1 vc] w fun e w' =>
   e=.returned (.slice (some ⟨b,off,none⟩) (n+1) c)∧w'=(w.drew.setCells b (off+k) (cs.drop (i))).setCells b (off+i) vs:=by
 obtain ⟨i0,hi0,hz0,hzs,hzb⟩:=info_parts info_int
 have mixed:Tryz.prog.follows .mixedOrders=true:=by kernel_rfl
 have hz2:¬ ((i:Int)=(n:Int)):=by omega
 have hsz:(Tryz.prog.info? 3).map (·.size)=some 1:=by rw [hi0]; simp [hzs]
 have u41:=Tryz.underlying26
 have hov:∀ lb cb,(callFunc 250 #[.slice (some ⟨vb,voff,none⟩) 1 vc,.slice (some ⟨b,off+k,none⟩) lb cb]).run Tryz.prog w=.ok (.value (.bool false)) w:=fun lb cb=>by
  rw [run_callFunc_extern Tryz.func250 (by kernel_rfl) (by kernel_rfl) (by kernel_rfl) (e:=Extern.SlicesOverlaps.overlaps #[26,26] #[4]) (by kernel_rfl),
   Lib.run_overlaps_apart w 26 4 3 u41 1 Tryz.sizeOf3 ⟨vb,voff,none⟩ ⟨b,off+k,none⟩ 1 vc lb cb hvb tA tB kA kB hsa hsb hkB hfa hfe]
  rfl
 have hdl:(cs.drop (i)).length=(n - i):=by rw [List.length_drop,hcl]
 have hcp1:∀ ty dc sc,(Builtin.copy_ #[26,26] ty #[.slice (some ⟨b,off+k,none⟩) (n+1 - k) dc,.slice (some ⟨b,off+i,none⟩) (n+1 - i) sc]).run Tryz.prog w.drew=.ok (goInt ((n - i:Nat):Int)) (w.drew.setCells b (off+k) (cs.drop (i))):=fun ty dc sc =>
  run_copy2 w.drew _ _ ty 3 1 b (off+k) (n - i) (n+1 - k) dc ⟨b,off+i,none⟩ (n+1 - i) sc (cs.drop (i)) u41 hsz (by simp only [Nat.min_def]; split <;> omega) (hdl.trans (Nat.mul_one _).symm)
   (fun j v hj=>by rw [Addr.add_lit,Nat.add_assoc]; exact hcs (i+j) v (by rwa [List.getElem?_drop] at hj))
   (fun j hj=>by rw [hdl] at hj; rw [Nat.add_assoc]; exact hsp _ (by omega)) (fun j hj=>by rw [hdl] at hj; rw [Nat.add_assoc]; exact hfz _ (by omega)) (fun v hv=>h1c v (List.mem_of_mem_drop hv))
 obtain ⟨W1,hW1⟩:∃ W1,W1=w.drew.setCells b (off+k) (cs.drop (i)):=⟨_,rfl⟩
 have hsp1:∀ t,t<(n+1)→(W1.cell? ⟨b,off+t,none⟩).isSome=true:=fun t ht=>by
  rw [hW1]
  exact isSome_set b _ _ _ (fun j hj=>by rw [hdl] at hj; rw [Nat.add_assoc]; exact hsp _ (by omega)) _ (hsp t ht)
 have hcp2:∀ (W:World),(∀ x,W.cell? x=W1.cell? x)→(∀ x,W.frozen? x=W1.frozen? x)→∀ ty dc,(Builtin.copy_ #[26,26] ty #[.slice (some ⟨b,off+i,none⟩) (n+1 - i) dc,.slice (some ⟨vb,voff,none⟩) 1 vc]).run Tryz.prog W=.ok (goInt 1) (W.setCells b (off+i) vs):=fun W hWc hWf ty dc =>
  run_copy2 W _ _ ty 3 1 b (off+i) 1 (n+1 - i) dc ⟨vb,voff,none⟩ 1 vc vs u41 hsz (by simp only [Nat.min_def]; split <;> omega) (by rw [hvl])
   (fun j v hj=>by
    rw [Addr.add_lit,hWc,hW1,World.cell?_setCells_out b _ _ _ _ (fun h _=>absurd h hvb)]
    exact hvs j v hj)
   (fun j hj=>by rw [hvl] at hj; rw [hWc,Nat.add_assoc]; exact hsp1 _ (by omega)) (fun j hj=>by rw [hvl] at hj; rw [hWf,hW1,World.frozen?_setCells,Nat.add_assoc]; exact hfz _ (by omega)) h1v
 have hE:Hid (W1=w.drew.setCells b (off+k) (cs.drop (i))):=hW1
 rw [← hW1] at hcp1
 have hw1:IntKind.i64.wrap ((n:Int)+1)=((n+1:Nat):Int):=by rw [IntKind.wrap_i64]; omega
 have hw2:IntKind.i64.wrap ((i:Int)+1)=(k:Int):=by rw [IntKind.wrap_i64]; omega
 have hnc:¬ ((n:Int)+1 > (c:Int)):=by omega
 have hb2:¬ (c=k):=by omega
 have hb4:¬ (c=i):=by omega
 have hin:i≤n:=by omega
 have hkn:(k:Int)≤(n:Int)+1:=by omega
 have hin2:(i:Int)≤(n:Int)+1:=by omega
 have hin1:i≤n+1:=by omega
 clear hsp hfz hcs hvs hsp1 hW1 hsa hsb hfa hfe hk hdl
 go_enter Tryz.func195,Tryz.ntmps195
 go_wp2_with (simp only [hov])
 go_region_law_o (refine step_copy_runI rfl _ _ 26 26 rfl _ _ (by simp [Act.eval,Act.put]) (by simp [Act.eval,Act.put]) (hcp1 _ _ _) ?_)
 go_wp2_with (at_builtin; refine wpList_copy_runI _ rfl _ _ 26 26 rfl _ _ rfl rfl (hcp2 _ (fun _=>rfl) (fun _=>rfl) _ _) ?_)
 go_ret
 exact ⟨rfl,by rw [hE.out]⟩
theorem ins_end (base:Option Addr) (n c vb voff vc:Nat) (w w1:World) (v':Value) (hnc:n≤c) (hc63:c≤9223372036854775807) (hb:base=none→c=0) (hr:∀ ty,(Builtin.append_ #[26,26] ty #[.slice base n c,.slice (some ⟨vb,voff,none⟩) 1 vc]).run Tryz.prog w=.ok v' w1) :
  Calls Tryz.prog 195 #[.slice base n c,.int .i64 n,.slice (some ⟨vb,voff,none⟩) 1 vc] w fun e w'=>e=.returned v'∧w'=w1:=by
 have mixed:Tryz.prog.follows .mixedOrders=true:=by kernel_rfl
 cases base with
 | none =>
  have h0:=hb rfl
  subst h0
  obtain rfl:n=0:=by omega
  go_enter Tryz.func195,Tryz.ntmps195
  go_wp2_with (at_builtin; refine Lib.wpList_append_run _ rfl _ _ _ _ rfl _ _ rfl rfl _ _ (hr _) ?_)
  all_goals (go_ret; exact ⟨rfl,rfl⟩)
 | some a =>
  obtain ⟨ab,ao,asp⟩:=a
  go_enter Tryz.func195,Tryz.ntmps195
  go_wp2_with (at_builtin; refine Lib.wpList_append_run _ rfl _ _ _ _ rfl _ _ rfl rfl _ _ (hr _) ?_)
  all_goals (go_ret; exact ⟨rfl,rfl⟩)
theorem ins_grow (b off n i k vb voff vc:Nat) (cs vs:List Value) (w:World) (hk:k=i+1) (hi:i<n) (hbig:(n+1)*8≤140737488355328)
  (hcl:cs.length=n) (hvl:vs.length=1)
  (hcs:∀ j v,cs[j]?=some v→w.cell? ⟨b,off+j,none⟩=some v)
  (hvs:∀ j v,vs[j]?=some v→w.cell? ⟨vb,voff+j,none⟩=some v) (h1c:∀ v∈cs,v.oneCell'=true) (h1v:∀ v∈vs,v.oneCell'=true) :
  Calls Tryz.prog 195 #[.slice (some ⟨b,off,none⟩) n n,.int .i64 i,.slice (some ⟨vb,voff,none⟩) 1 vc] w fun e w' =>
   e=.returned (.slice (some ⟨w.heap.size,0,none⟩) (n+1) (grownCap w (n+1) n 3)) ∧
   w'=(((w.alloc (.cells ((cs.take (i)).toArray++Builtin.zeroCells zi.cells (n+1 - i)++Builtin.zeroCells zi.cells (grownCap w (n+1) n 3 - (n+1))) 3)).drew.setCells w.heap.size (i) vs).drew).setCells w.heap.size (k) (cs.drop (i)):=by
 obtain ⟨i0,hi0,hz0,hzs,hzb⟩:=info_parts info_int
 have mixed:Tryz.prog.follows .mixedOrders=true:=by kernel_rfl
 have u41:=Tryz.underlying26
 have u3:=Tryz.underlying3
 have hz2:¬ ((i:Int)=(n:Int)):=by omega
 have hsz:(Tryz.prog.info? 3).map (·.size)=some 1:=by rw [hi0]; simp [hzs]
 have hbw:b<w.heap.size:=block_lt_of_cell (hcs 0 _ (List.getElem?_eq_getElem (by omega)))
 have hvw:vb<w.heap.size:=block_lt_of_cell (hvs 0 _ (List.getElem?_eq_getElem (by omega)))
 have hik:i+(n+1 - i)=n+1:=by omega
 have hold:(Builtin.firstCells i0.size i (.slice (some ⟨b,off,none⟩) i n)).run Tryz.prog w.drew=.ok (cs.take (i)).toArray w.drew:=by
  rw [hzs]
  exact run_firstCells_some w.drew 1 i ⟨b,off,none⟩ i n (cs.take (i)) (by rw [List.length_take]; omega) (fun j v hj=>by
   rw [Addr.add_lit]
   rw [List.getElem?_take] at hj
   split at hj
   ·exact hcs j v hj
   ·cases hj)
 have hkk:IntKind.i64.wrap (((n+1:Nat):Int) - (i:Int))=((n+1 - i:Nat):Int):=by rw [IntKind.wrap_i64]; omega
 have hrz:∀ ty,(Builtin.append_ #[26,3] ty #[.slice (some ⟨b,off,none⟩) i n,.int .i64 ((n+1 - i:Nat):Int)]).run Tryz.prog w =
   .ok (.slice (some ⟨w.heap.size,0,none⟩) (n+1) (grownCap w (n+1) n 3)) (w.drew.alloc (.cells ((cs.take (i)).toArray++Builtin.zeroCells zi.cells (n+1 - i)++Builtin.zeroCells zi.cells (grownCap w (n+1) n 3 - (n+1))) 3)):=fun ty=>by
  have h:=Lib.run_append_grow_zeros w 26 3 ty 3 i0 zi .i64 .i64 u41 u3 hi0 hz0 (some ⟨b,off,none⟩) i n (cs.take (i)) hold (n+1 - i) (by omega) (by omega) (by omega) (by omega) (by rw [hzb]; omega) (by rw [hzb,hik]; exact growslice_fits (by omega) hbig)
  rw [hik] at h
  exact h
 obtain ⟨G,hG⟩:∃ G,G=grownCap w (n+1) n 3:=⟨_,rfl⟩
 obtain ⟨ROW,hROW⟩:∃ ROW:Array Value,ROW=(cs.take (i)).toArray++Builtin.zeroCells zi.cells (n+1 - i)++Builtin.zeroCells zi.cells (G - (n+1)):=⟨_,rfl⟩
 rw [← hG] at hrz ⊢
 rw [← hROW] at hrz ⊢
 have hRl:(n+1)≤ROW.size:=by
  rw [hROW]
  simp [Builtin.zeroCells,Value.cells,hcl]
  omega
 obtain ⟨W1,hW1⟩:∃ W1,W1=w.drew.alloc (.cells ROW 3):=⟨_,rfl⟩
 rw [← hW1] at hrz
 have hN:∀ j,j<(n+1)→(W1.cell? ⟨w.heap.size,j,none⟩).isSome=true:=fun j hj=>by
  rw [hW1,World.cell?_alloc_at (w:=w.drew) ROW _ w.heap.size j rfl,Array.getElem?_eq_getElem (by omega)]; rfl
 have hNf:∀ j,W1.frozen? ⟨w.heap.size,j,none⟩=false:=fun j=>by rw [hW1]; exact World.frozen?_alloc_at (w:=w.drew) ROW _ w.heap.size j rfl
 have hOb:∀ j v,w.cell? ⟨b,j,none⟩=some v→W1.cell? ⟨b,j,none⟩=some v:=fun j v h=>by rw [hW1,World.cell?_alloc_past (w:=w.drew) _ b j hbw]; exact h
 have hOv:∀ j v,w.cell? ⟨vb,j,none⟩=some v→W1.cell? ⟨vb,j,none⟩=some v:=fun j v h=>by rw [hW1,World.cell?_alloc_past (w:=w.drew) _ vb j hvw]; exact h
 have hcpA:∀ (W:World),(∀ x,W.cell? x=W1.cell? x)→(∀ x,W.frozen? x=W1.frozen? x)→∀ ty dc,(Builtin.copy_ #[26,26] ty #[.slice (some ⟨w.heap.size,i,none⟩) (n+1 - i) dc,.slice (some ⟨vb,voff,none⟩) 1 vc]).run Tryz.prog W=.ok (goInt 1) (W.setCells w.heap.size (i) vs):=fun W hWc hWf ty dc =>
  run_copy2 W _ _ ty 3 1 w.heap.size (i) 1 (n+1 - i) dc ⟨vb,voff,none⟩ 1 vc vs u41 hsz (by simp only [Nat.min_def]; split <;> omega) (by rw [hvl])
   (fun j v hj=>by rw [Addr.add_lit,hWc]; exact hOv _ v (hvs j v hj))
   (fun j hj=>by rw [hvl] at hj; rw [hWc]; exact hN _ (by omega)) (fun j hj=>by rw [hWf]; exact hNf _) h1v
 have hGn:n+1≤G:=by rw [hG]; exact grownCap_ge w _ _ _
 have hG63:G≤9223372036854775807:=by
  have:=grownCap_le_maxLen w (n+1) n 3 (by unfold maxLen; omega)
  rw [← hG] at this
  unfold maxLen at this
  omega
 have hbN:b≠w.heap.size:=by omega
 have hdl:(cs.drop (i)).length=(n - i):=by rw [List.length_drop,hcl]
 have hcpB:∀ (W:World),(∀ x,W.cell? x=(W1.setCells w.heap.size (i) vs).cell? x)→(∀ x,W.frozen? x=(W1.setCells w.heap.size (i) vs).frozen? x)→∀ ty dc sc,(Builtin.copy_ #[26,26] ty #[.slice (some ⟨w.heap.size,k,none⟩) (n+1 - k) dc,.slice (some ⟨b,off+i,none⟩) (n - i) sc]).run Tryz.prog W=.ok (goInt ((n - i:Nat):Int)) (W.setCells w.heap.size (k) (cs.drop (i))):=fun W hWc hWf ty dc sc =>
  run_copy2 W _ _ ty 3 1 w.heap.size (k) (n - i) (n+1 - k) dc ⟨b,off+i,none⟩ (n - i) sc (cs.drop (i)) u41 hsz (by simp only [Nat.min_def]; split <;> omega) (hdl.trans (Nat.mul_one _).symm)
   (fun j v hj=>by
    rw [Addr.add_lit,hWc,World.cell?_setCells_out _ _ _ _ _ (fun h _=>absurd h hbN),Nat.add_assoc]
    exact hOb _ v (hcs (i+j) v (by rwa [List.getElem?_drop] at hj)))
   (fun j hj=>by rw [hdl] at hj; rw [hWc]; exact isSome_set _ _ _ _ (fun t ht=>by rw [hvl] at ht; exact hN _ (by omega)) _ (hN _ (by omega)))
   (fun j hj=>by rw [hWf,World.frozen?_setCells]; exact hNf _) (fun v hv=>h1c v (List.mem_of_mem_drop hv))
 subst hW1
 have hE1:∀ x,((w.alloc (.cells ROW 3)).drew).cell? x=(w.drew.alloc (.cells ROW 3)).cell? x:=fun x=>rfl
 have hE2:∀ x,((w.alloc (.cells ROW 3)).drew).frozen? x=(w.drew.alloc (.cells ROW 3)).frozen? x:=fun x=>rfl
 have hF1:∀ x,(((w.alloc (.cells ROW 3)).drew.setCells w.heap.size (i) vs).drew).cell? x=((w.drew.alloc (.cells ROW 3)).setCells w.heap.size (i) vs).cell? x:=fun x=>rfl
 have hF2:∀ x,(((w.alloc (.cells ROW 3)).drew.setCells w.heap.size (i) vs).drew).frozen? x=((w.drew.alloc (.cells ROW 3)).setCells w.heap.size (i) vs).frozen? x:=fun x=>rfl
 have hw1:IntKind.i64.wrap ((n:Int)+1)=((n+1:Nat):Int):=by rw [IntKind.wrap_i64]; omega
 have hw2:IntKind.i64.wrap ((i:Int)+1)=(k:Int):=by rw [IntKind.wrap_i64]; omega
 have hw3:IntKind.i64.wrap ((n:Int)+1 - (i:Int))=((n+1 - i:Nat):Int):=by rw [IntKind.wrap_i64]; omega
 have hw4:(n:Int)+1 - (i:Int)=((n+1 - i:Nat):Int):=by omega
 have hgt:(n:Int)+1 > (n:Int):=by omega
 have hci:¬ (n=i):=by omega
 have hGi:¬ (G=i):=by omega
 have hGk:¬ (G=k):=by omega
 have hin:i≤n:=by omega
 have hinZ:(i:Int)≤(n:Int):=by omega
 have hknZ:(k:Int)≤(n:Int)+1:=by omega
 have hinZ1:(i:Int)≤(n:Int)+1:=by omega
 clear hold hROW hG hRl hik hk
 go_enter Tryz.func195,Tryz.ntmps195
 go_wp2_with (first
  | (at_builtin; refine Lib.wpList_append_run _ rfl _ _ _ _ rfl _ _ rfl rfl _ _ (hrz _) ?_)
  | (at_builtin; refine wpList_copy_runI _ rfl _ _ 26 26 rfl _ _ rfl rfl (hcpA _ hE1 hE2 _ _) ?_))
 go_region_law_o (refine step_copy_runI rfl _ _ 26 26 rfl (.slice (some ⟨w.heap.size,k,none⟩) (n+1 - k) (G - k)) (.slice (some ⟨b,off+i,none⟩) (n - i) (n - i)) (by simp [Act.eval,Act.put]) (by simp [Act.eval,Act.put]) (hcpB _ hF1 hF2 3 (G - k) (n - i)) ?_)
 go_wp2
 go_ret
 exact ⟨rfl,rfl⟩
end Go.Proofs.YtpdfmcmnjikppaaGreat.HI
namespace Go.Proofs.YtpdfmcmnjikppaaGreat
set_option maxRecDepth 100000
set_option maxHeartbeats 4000000
open Go.RowKit Go.Lib
def cellsI (rows:List (List D)):List Value:=rows.map fun r=>.int .i64 (gd r 0).int
theorem cellsI_len (rows:List (List D)):(cellsI rows).length=rows.length:=by simp [cellsI]
theorem cellsI_app (a b:List (List D)):cellsI (a++b)=cellsI a++cellsI b:=by simp [cellsI]
theorem cellsI_take (rows:List (List D)) (i:Nat):cellsI (rows.take i)=(cellsI rows).take i:=by simp [cellsI]
theorem cellsI_drop (rows:List (List D)) (i:Nat):cellsI (rows.drop i)=(cellsI rows).drop i:=by simp [cellsI]
theorem cellsI_get (rows:List (List D)) (i:Nat) (h:i<rows.length):(cellsI rows)[i]?=some (.int .i64 (gd (rows.getD i []) 0).int):=by
 simp [cellsI,List.getElem?_eq_getElem h,List.getD_eq_getElem?_getD]
theorem cellsI_one (rows:List (List D)):∀ v∈cellsI rows,v.oneCell'=true:=fun v hv=>by
 obtain ⟨r,_,rfl⟩:=List.mem_map.1 hv
 rfl
theorem ownI_mk {w:World} {rows:List (List D)} {b cap n:Nat} {arr:Array Value} (hh:w.heap[b]?=some (.cells arr 3 (0,0))) (hn:n=rows.length) (hs:arr.size=cap) (hle:rows.length≤cap) (h63:cap≤9223372036854775807)
  (hc:∀ (k:Nat) v,(cellsI rows)[k]?=some v→arr[k]?=some v):OwnK w 3 [.int .i64] rows (.slice (some ⟨b,0,none⟩) n cap) (some b):=by
 subst hn
 refine .inr ⟨b,cap,arr,rfl,rfl,hle,h63,hh,by rw [hs]; exact (Nat.mul_one _).symm,fun i j s hi hs=>?_⟩
 match j,hs with
 | 0,hs =>
  injection hs with hs
  subst hs
  exact ⟨_,by rw [show i * [S.int .i64].length+0=i from Nat.mul_one i]; exact hc i _ (cellsI_get rows i hi),rfl⟩
theorem ownI_get {w:World} {rows:List (List D)} {u:Value} {B:Option Nat} (h:OwnK w 3 [.int .i64] rows u B):(B=none∧rows = []∧∃ A,u=.slice A 0 0) ∨
  ∃ (b cap:Nat) (arr:Array Value),B=some b∧u=.slice (some ⟨b,0,none⟩) rows.length cap∧rows.length≤cap∧cap≤9223372036854775807∧w.heap[b]?=some (.cells arr 3 (0,0))∧arr.size=cap ∧
   ∀ (k:Nat) v,(cellsI rows)[k]?=some v→arr[k]?=some v:=by
 rcases h with h | ⟨b,cap,arr,h1,h2,h3,h4,h5,h6,h7⟩
 ·exact .inl h
 ·refine .inr ⟨b,cap,arr,h1,h2,h3,h4,h5,h6.trans (Nat.mul_one _),fun k v hk=>?_⟩
  have hlt:=(List.getElem?_eq_some_iff.1 hk).1
  rw [cellsI_len] at hlt
  rw [cellsI_get rows k hlt] at hk
  obtain ⟨u,k1,k2⟩:=h7 k 0 (.int .i64) hlt rfl
  rw [show k * [S.int .i64].length+0=k from Nat.mul_one k] at k1
  rw [k1,← hk]
  exact congrArg some k2
theorem ownI_nums {w:World} {e:TypeId} {rows rows':List (List D)} {u:Value} {B:Option Nat} (h:OwnK w e [.int .i64] rows u B) (hn:rows.map (fun r=>(gd r 0).int)=rows'.map (fun r=>(gd r 0).int)):OwnK w e [.int .i64] rows' u B:=by
 have hl:rows.length=rows'.length:=by simpa using congrArg List.length hn
 rcases h with ⟨h1,h2,h3⟩ | ⟨b,cap,arr,h1,h2,h3,h4,h5,h6,h7⟩
 ·exact .inl ⟨h1,List.eq_nil_of_length_eq_zero (by rw [← hl,h2]; rfl),h3⟩
 ·refine .inr ⟨b,cap,arr,h1,by rw [← hl]; exact h2,by omega,h4,h5,h6,fun i j s hi hs=>?_⟩
  match j,hs with
  | 0,hs =>
   injection hs with hs
   subst hs
   obtain ⟨u',k1,k2⟩:=h7 i 0 (.int .i64) (by omega) rfl
   refine ⟨u',k1,?_⟩
   have e1:(rows.map (fun r=>(gd r 0).int))[i]?=(rows'.map (fun r=>(gd r 0).int))[i]?:=by rw [hn]
   rw [List.getElem?_map,List.getElem?_map,List.getElem?_eq_getElem (by omega),List.getElem?_eq_getElem hi] at e1
   have e2:(gd (rows.getD i []) 0).int=(gd (rows'.getD i []) 0).int:=by
    simpa [List.getD_eq_getElem?_getD,List.getElem?_eq_getElem (show i<rows.length by omega),List.getElem?_eq_getElem hi] using e1
   have k2:u'=.int .i64 (gd (rows.getD i []) 0).int:=k2
   show u'=.int .i64 (gd (rows'.getD i []) 0).int
   rw [k2,e2]
theorem app_oneI {w:World} {rows:List (List D)} {r:List D} {base:Option Addr} {n c:Nat} {B:Option Nat} (hO:OwnK w 3 [.int .i64] rows (.slice base n c) B) (vb voff vc:Nat) (hn:rows.length≤1000000)
  (hv:∀ (k:Nat) v,(cellsI [r])[k]?=some v→w.cell? ⟨vb,voff+k,none⟩=some v) :
  ∃ v' w1 B',(∀ ty,(Builtin.append_ #[26,26] ty #[.slice base n c,.slice (some ⟨vb,voff,none⟩) 1 vc]).run Tryz.prog w=.ok v' w1)∧Changed w w1 B∧OwnK w1 3 [.int .i64] (rows ++ [r]) v' B'∧∀ b,B'=some b→B=some b∨w.heap.size≤b:=by
 obtain ⟨i0,hi0,hz0,hzs,hzb⟩:=info_parts HI.info_int
 have hl1:(cellsI [r]).length=1*i0.size:=by rw [hzs]; rfl
 have hnews:∀ (j:Nat) v,(cellsI [r])[j]?=some v→w.cell? ((⟨vb,voff,none⟩:Addr).add j)=some v:=fun j v hj=>by rw [Addr.add_lit]; exact hv j v hj
 have hzz:HI.zi.cells.size=1:=rfl
 -- a new block
 have hnew:∀ (old:Nat),(w.drew.alloc (.cells ((cellsI rows).toArray++(cellsI [r]).toArray++Builtin.zeroCells HI.zi.cells (grownCap w (rows.length+1) old 3 - (rows.length+1))) 3)).heap.size=w.heap.size+1 ∧
   Changed w (w.drew.alloc (.cells ((cellsI rows).toArray++(cellsI [r]).toArray++Builtin.zeroCells HI.zi.cells (grownCap w (rows.length+1) old 3 - (rows.length+1))) 3)) B ∧
   OwnK (w.drew.alloc (.cells ((cellsI rows).toArray++(cellsI [r]).toArray++Builtin.zeroCells HI.zi.cells (grownCap w (rows.length+1) old 3 - (rows.length+1))) 3)) 3 [.int .i64] (rows ++ [r]) (.slice (some ⟨w.heap.size,0,none⟩) (rows.length+1) (grownCap w (rows.length+1) old 3)) (some w.heap.size):=by
  intro old
  have hge:=grownCap_ge w (rows.length+1) old 3
  have hcm:=grownCap_le_maxLen w (rows.length+1) old 3 (by unfold maxLen; omega)
  refine ⟨by simp [World.alloc],⟨rfl,rfl,rfl,by simp [World.alloc],fun k hk _=>Below.heap_alloc w.drew _ k hk⟩,ownI_mk (by letI:Low:=noLow; exact heap_new w.drew _) (by simp) ?_ (by simpa using hge) (by unfold maxLen at hcm; omega) fun k v hk=>?_⟩
  ·simp only [Array.size_append,List.size_toArray,cellsI_len,size_zeroCells,hzz,List.length_cons,List.length_nil]
   omega
  ·rw [cellsI_app] at hk
   have hkl:=(List.getElem?_eq_some_iff.1 hk).1
   rw [Array.getElem?_append_left (by simpa using hkl)]
   simpa using hk
 have hnot:B=none→rows = []∧n=0∧c=0:=by
  rintro rfl
  rcases hO with ⟨_,h0,A,hA⟩ | ⟨_,_,_,hb,_⟩
  ·injection hA with _ e1 e2; exact ⟨h0,e1,e2⟩
  ·cases hb
 rcases ownI_get hO with ⟨rfl,rfl,A,hA⟩ | ⟨b,cap,arr,rfl,hA,hle,h63,hh,hs,hc⟩
 ·injection hA with e0 e1 e2
  subst e0 e1 e2
  obtain ⟨_,q2,q3⟩:=hnew 0
  refine ⟨_,_,some w.heap.size,fun ty=>?_,q2,q3,fun b hb=>.inr (by injection hb with hb; omega)⟩
  cases base with
  | none =>
   have:=run_append_nil (P:=Tryz.prog) w 26 ty 3 i0 HI.zi Tryz.underlying26 hi0 hz0 ⟨vb,voff,none⟩ 1 vc (cellsI [r]) hl1 hnews (by omega) (by omega) (by rw [hzb]; omega)
   rw [this]
   simp [cellsI]
  | some a =>
   have:=run_append_grow (P:=Tryz.prog) w 26 ty 3 i0 HI.zi Tryz.underlying26 hi0 hz0 a 0 0 [] (by simp) (fun j v hj=>by simp at hj) ⟨vb,voff,none⟩ 1 vc (cellsI [r]) hl1 hnews (by omega) (by omega) (by rw [hzb]; exact growslice_fits (by omega) (by omega))
   rw [this]
   rfl
 ·injection hA with e0 e1 e2
  subst e0 e1 e2
  by_cases hroom:rows.length+1≤c
  ·have hfit:rows.length*i0.size+(cellsI [r]).length≤arr.size:=by rw [hzs,hs]; show _+1≤_; omega
   have hlv:(cellsI [r]).length=1:=rfl
   have hrl:(cellsI rows).length=rows.length:=cellsI_len rows
   refine ⟨_,_,some b,fun ty=>run_append_room (P:=Tryz.prog) w 26 ty 3 i0 Tryz.underlying26 hi0 b rows.length c arr hh ⟨vb,voff,none⟩ 1 vc (cellsI [r]) hl1 hnews (cellsI_one _) hroom hfit,⟨rfl,rfl,rfl,by simp,fun k _ hk=>setRow_other w b k _ (fun e=>hk (by rw [e]))⟩,?_,fun b hb=>.inl hb⟩
   refine ownI_mk (setRow_heap w b arr _ _ _ hh) (by simp) ?_ (by simpa using hroom) h63 fun k v hk=>?_
   ·simp only [List.size_toArray,List.length_append,List.length_take,List.length_drop,Array.length_toList,hlv,hzs]
    omega
   ·rw [cellsI_app,List.getElem?_append] at hk
    rw [List.getElem?_toArray,List.append_assoc,List.getElem?_append,hzs,Nat.mul_one]
    have htl:(arr.toList.take (rows.length)).length=rows.length:=by
     have e0:arr.toList.length=arr.size:=Array.length_toList
     rw [List.length_take,e0,hs]
     omega
    rw [htl]
    rw [hrl] at hk
    split at hk
    ·rename_i hlt
     rw [if_pos hlt,List.getElem?_take,if_pos hlt,Array.getElem?_toList]
     exact hc k v (by exact hk)
    ·rename_i hge
     rw [if_neg hge,List.getElem?_append_left (List.getElem?_eq_some_iff.1 hk).1]
     exact hk
  ·obtain ⟨_,q2,q3⟩:=hnew c
   refine ⟨_,_,some w.heap.size,fun ty=>?_,q2,q3,fun b hb=>.inr (by injection hb with hb; omega)⟩
   exact run_append_grow (P:=Tryz.prog) w 26 ty 3 i0 HI.zi Tryz.underlying26 hi0 hz0 ⟨b,0,none⟩ rows.length c (cellsI rows) (by rw [cellsI_len,hzs,Nat.mul_one]) (fun j v hj=>by rw [Addr.add_lit,Nat.zero_add,cell_at hh]; exact hc j v hj) ⟨vb,voff,none⟩ 1 vc (cellsI [r]) hl1 hnews (by omega) (by omega) (by rw [hzb]; exact growslice_fits (by omega) (by omega))
theorem cellsI_ins (rows:List (List D)) (i:Nat) (r:List D) (hi:i≤rows.length) {k:Nat} {v:Value} (hk:(cellsI (insRows rows i r))[k]?=some v) :
  (k<i∧(cellsI rows)[k]?=some v)∨(i≤k∧k<(i+1)∧(cellsI [r])[k - i]?=some v)∨((i+1)≤k∧((cellsI rows).drop (i))[k - (i+1)]?=some v):=by
 have htl:((cellsI rows).take (i)).length=i:=by rw [List.length_take,cellsI_len]; omega
 unfold insRows at hk
 rw [cellsI_app,cellsI_take,show r::rows.drop i = [r]++rows.drop i from rfl,cellsI_app,cellsI_drop,List.getElem?_append,htl] at hk
 split at hk
 ·rename_i hlt
  rw [List.getElem?_take,if_pos hlt] at hk
  exact .inl ⟨hlt,hk⟩
 ·rename_i hge
  rw [List.getElem?_append] at hk
  split at hk
  ·rename_i hlt
   have hlt:k - i<1:=hlt
   exact .inr (.inl ⟨by omega,by omega,hk⟩)
  ·rename_i hge2
   have hge2:¬ k - i<1:=hge2
   refine .inr (.inr ⟨by omega,?_⟩)
   rw [show k - (i+1)=k - i - (cellsI [r]).length from by show _=_ - 1; omega]
   exact hk
theorem ins_own {w:World} {x:D} {u:Value} {B:Option Nat} (hO:OwnK w 3 [.int .i64] x.rows u B) (r0:List D) (i vb vc:Nat) (varr:Array Value) (vE:TypeId) (h1:(x.rows.length:Int)≤1000000) (hq1:(i:Int)≤(x.rows.length:Int))
  (hvh:w.heap[vb]?=some (.cells varr vE (0,0))) (hv0:varr[0]?=some (.int .i64 (gd r0 0).int)) (hB:B≠some vb) :
  Calls Tryz.prog 195 #[u,.int .i64 (i:Int),.slice (some ⟨vb,0,none⟩) 1 vc] w fun ex w'=>∃ v' B',ex=.returned v'∧Changed w w' B∧OwnK w' 3 [.int .i64] (insRows x.rows i r0) v' B'∧∀ b,B'=some b→B=some b∨w.heap.size≤b:=by
 have hvs:∀ (k:Nat) v,(cellsI [r0])[k]?=some v→w.cell? ⟨vb,0+k,none⟩=some v:=fun k v hk=>by
  have hk1:=(List.getElem?_eq_some_iff.1 hk).1
  have hk1:k<1:=hk1
  obtain rfl:k=0:=by omega
  rw [cell_at hvh,← hk]
  exact hv0
 by_cases hend:i=x.rows.length
 ·have hins:insRows x.rows i r0=x.rows ++ [r0]:=by unfold insRows; rw [hend]; simp
  rw [hins]
  have hform:∃ base c,u=.slice base x.rows.length c∧x.rows.length≤c∧c≤9223372036854775807∧(base=none→c=0):=by
   rcases ownI_get hO with ⟨_,h0,A,rfl⟩ | ⟨b,cap,arr,rfl,rfl,hle,h63,_⟩
   ·exact ⟨A,0,by rw [h0]; rfl,by rw [h0]; simp,by omega,fun _=>rfl⟩
   ·exact ⟨_,cap,rfl,hle,h63,fun h=>by cases h⟩
  obtain ⟨base,c,rfl,hle,h63,hbn⟩:=hform
  obtain ⟨v',w1,B',k1,k2,k3,k4⟩:=app_oneI hO vb 0 vc (by omega) hvs
  rw [hend]
  refine (HI.ins_end base x.rows.length c vb 0 vc w w1 v' hle h63 hbn k1).mono ?_
  rintro ex w' ⟨rfl,rfl⟩
  exact ⟨_,B',rfl,k2,k3,k4⟩
 ·have hlt:i<x.rows.length:=by omega
  rcases ownI_get hO with ⟨_,h0,_⟩ | ⟨b,cap,arr,rfl,rfl,hle,h63,hh,hs,hc⟩
  ·rw [h0] at hlt; simp at hlt
  ·have hne:vb≠b:=by
    rintro rfl
    exact hB rfl
   obtain ⟨n,hn⟩:∃ n,n=x.rows.length:=⟨_,rfl⟩
   rw [← hn] at hle hlt ⊢
   have hcl:(cellsI x.rows).length=n:=by rw [cellsI_len,hn]
   have hcs:∀ (j:Nat) v,(cellsI x.rows)[j]?=some v→w.cell? ⟨b,0+j,none⟩=some v:=fun j v hj=>by rw [Nat.zero_add,cell_at hh]; exact hc j v hj
   have hil:(insRows x.rows i r0).length=n+1:=by simp [insRows]; omega
   have hdl:((cellsI x.rows).drop (i)).length=(n - i):=by rw [List.length_drop,hcl]
   have hvl:(cellsI [r0]).length=1:=rfl
   by_cases hroom:n+1≤cap
   ·have:=HI.ins_shift b 0 n cap i (i+1) vb 0 vc (cellsI x.rows) (cellsI [r0]) w rfl hlt hroom h63 hne hcl rfl hcs
     (fun j hj=>by rw [Nat.zero_add,cell_at hh,Array.getElem?_eq_getElem (by omega)]; rfl) (fun j _=>unfrozen hh _) hvs (cellsI_one _) (cellsI_one _) vE 3 varr.size arr.size (by simp [World.shape?,hvh]) (by simp [World.shape?,hh]) (by omega) (unfrozen hvh _) (unfrozen hvh _)
    refine this.mono ?_
    rintro ex w' ⟨rfl,rfl⟩
    obtain ⟨arr1,a1,a2,a3,a4⟩:=setCells_heap b 3 (0,0) ((cellsI x.rows).drop (i)) (0+(i+1)) w.drew arr hh (by rw [hdl,hs]; omega)
    obtain ⟨arr2,b1,b2,b3,b4⟩:=setCells_heap b 3 (0,0) (cellsI [r0]) (0+i) _ arr1 a1 (by rw [hvl,a2,hs]; omega)
    obtain ⟨c1,c2,c3,c4,c5⟩:=setCells_else b ((cellsI x.rows).drop (i)) (0+(i+1)) w.drew
    obtain ⟨d1,d2,d3,d4,d5⟩:=setCells_else b (cellsI [r0]) (0+i) (w.drew.setCells b (0+(i+1)) ((cellsI x.rows).drop (i)))
    refine ⟨_,some b,rfl,⟨d1.trans c1,d2.trans c2,d3.trans c3,Nat.le_of_eq (d4.trans c4).symm,fun k _ hk=>(d5 k (fun e=>hk (by rw [e]))).trans (c5 k (fun e=>hk (by rw [e])))⟩,?_,fun b hb=>.inl hb⟩
    refine ownI_mk b1 hil.symm (by rw [b2,a2,hs]) (by omega) h63 fun k v hk=>?_
    rcases cellsI_ins x.rows i r0 (by omega) hk with ⟨q1,q2⟩ | ⟨q1,q2,q3⟩ | ⟨q1,q2⟩
    ·rw [b3 k (.inl (by omega)),a3 k (.inl (by omega))]
     exact hc k v q2
    ·have:=b4 _ v q3
     rwa [show 0+i+(k - i)=k from by omega] at this
    ·rw [b3 k (.inr (by rw [hvl]; omega))]
     have:=a4 _ v q2
     rwa [show 0+(i+1)+(k - (i+1))=k from by omega] at this
   ·obtain rfl:cap=n:=by omega
    have:=HI.ins_grow b 0 cap i (i+1) vb 0 vc (cellsI x.rows) (cellsI [r0]) w rfl hlt (by omega) hcl rfl hcs hvs (cellsI_one _) (cellsI_one _)
    refine this.mono ?_
    rintro ex w' ⟨rfl,rfl⟩
    have hge:=grownCap_ge w (cap+1) cap 3
    have hcm:=grownCap_le_maxLen w (cap+1) cap 3 (by unfold maxLen; omega)
    obtain ⟨G,hG⟩:∃ G,G=grownCap w (cap+1) cap 3:=⟨_,rfl⟩
    rw [← hG] at hge hcm ⊢
    have hzz:HI.zi.cells.size=1:=rfl
    obtain ⟨ROW,hROW⟩:∃ ROW:Array Value,ROW=((cellsI x.rows).take (i)).toArray++Builtin.zeroCells HI.zi.cells (cap+1 - i)++Builtin.zeroCells HI.zi.cells (G - (cap+1)):=⟨_,rfl⟩
    have htl:((cellsI x.rows).take (i)).length=i:=by rw [List.length_take,hcl]; omega
    have hRs:ROW.size=G:=by
     rw [hROW]
     simp only [Array.size_append,List.size_toArray,htl,size_zeroCells,hzz]
     omega
    have hRt:∀ (k:Nat) v,k<i→(cellsI x.rows)[k]?=some v→ROW[k]?=some v:=fun k v hk hv=>by
     rw [hROW,Array.append_assoc,Array.getElem?_append_left (by simp only [List.size_toArray,htl]; exact hk)]
     simp [List.getElem?_take,hk,hv]
    rw [← hROW]
    have hW:((w.alloc (.cells ROW 3)).drew).heap[w.heap.size]?=some (.cells ROW 3 (0,0)):=by letI:Low:=noLow; exact heap_new w _
    obtain ⟨arr1,a1,a2,a3,a4⟩:=setCells_heap w.heap.size 3 (0,0) (cellsI [r0]) (i) _ ROW hW (by rw [hvl,hRs]; omega)
    obtain ⟨arr2,b1,b2,b3,b4⟩:=setCells_heap w.heap.size 3 (0,0) ((cellsI x.rows).drop (i)) ((i+1)) ((((w.alloc (.cells ROW 3)).drew).setCells w.heap.size (i) (cellsI [r0])).drew) arr1 a1 (by rw [hdl,a2,hRs]; omega)
    obtain ⟨c1,c2,c3,c4,c5⟩:=setCells_else w.heap.size (cellsI [r0]) (i) ((w.alloc (.cells ROW 3)).drew)
    obtain ⟨d1,d2,d3,d4,d5⟩:=setCells_else w.heap.size ((cellsI x.rows).drop (i)) ((i+1)) ((((w.alloc (.cells ROW 3)).drew).setCells w.heap.size (i) (cellsI [r0])).drew)
    refine ⟨_,some w.heap.size,rfl,⟨d1.trans c1,d2.trans c2,d3.trans c3,?_,fun k hk _=>(d5 k (by omega)).trans ((c5 k (by omega)).trans (Below.heap_alloc w _ k hk))⟩,?_,fun b hb=>.inr (by injection hb with hb; omega)⟩
    ·refine Nat.le_trans ?_ (Nat.le_of_eq (d4.trans c4).symm)
     show w.heap.size≤(w.heap.push _).size
     rw [Array.size_push]
     omega
    ·refine ownI_mk b1 hil.symm (by rw [b2,a2,hRs]) (by omega) (by unfold maxLen at hcm; omega) fun k v hk=>?_
     rcases cellsI_ins x.rows i r0 (by omega) hk with ⟨q1,q2⟩ | ⟨q1,q2,q3⟩ | ⟨q1,q2⟩
     ·rw [b3 k (.inl (by omega)),a3 k (.inl (by omega))]
      exact hRt k v q1 q2
     ·rw [b3 k (.inl (by omega))]
      have:=a4 _ v q3
      rwa [show i+(k - i)=k from by omega] at this
     ·have:=b4 _ v q2
      rwa [show (i+1)+(k - (i+1))=k from by omega] at this
end Go.Proofs.YtpdfmcmnjikppaaGreat
namespace Go.Proofs.YtpdfmcmnjikppaaGreat
set_option maxRecDepth 100000
set_option maxHeartbeats 4000000
open Go.RowKit Go.Lib
theorem row_int:rowOf Tryz.prog 3=some [.int .i64]:=by kernel_rfl
def protO (B:Option Nat) (b:Nat):Nat:=if B=some b then 9223372036854775807 else 0
theorem vd_ownI {w:World} {x:D} {u:Value} {B:Option Nat} (hO:OwnK w 3 [.int .i64] x.rows u B):VD Tryz.prog w (protO B) (.sl 3) x u:=by
 rcases hO with ⟨_,h0,A,rfl⟩ | ⟨b,cap,arr,rfl,rfl,hle,h63,hh,hs,hc⟩
 ·have e:Value.slice A 0 0=.slice A x.rows.length 0:=by rw [h0]; rfl
  rw [e]
  exact .sl 3 x A 0 _ (fun _ _=>.bool true) row_int (by rw [h0]; exact Nat.le_refl _) (by omega) (fun i j hi=>by rw [h0] at hi; simp at hi) (fun i j s hi=>by rw [h0] at hi; simp at hi)
 ·refine .sl 3 x (some ⟨b,0,none⟩) cap _ (fun i _=>.int .i64 (gd (x.rows.getD i []) 0).int) row_int hle h63 (fun i j hi hj=>?_) (fun i j s hi hj=>?_)
  ·have hj:j<1:=hj
   obtain rfl:j=0:=by omega
   obtain ⟨u',k1,k2⟩:=hc i 0 (.int .i64) hi rfl
   refine ⟨b,0,rfl,?_,?_⟩
   ·rw [cell_at hh,Nat.zero_add,k1]
    exact congrArg some k2
   ·unfold protO
    rw [if_pos rfl]
    show 0+(i*1+0)<_
    omega
  ·match j,hj with
   | 0,hj =>
    injection hj with hj
    subst hj
    exact .int .i64 _
theorem protO_fresh {w:World} {e:TypeId} {row:List S} {rows:List (List D)} {u:Value} {B:Option Nat} (hO:OwnK w e row rows u B) (b:Nat) (hb:w.heap.size≤b):protO B b=0:=by
 unfold protO
 rcases hO with ⟨rfl,_⟩ | ⟨b',cap,arr,rfl,_,_,_,hh,_⟩
 ·exact if_neg (by simp)
 ·have:=lt_of_heap hh
  exact if_neg (by intro h; injection h with h; omega)
theorem bs_own {w:World} {x:D} {u:Value} {B:Option Nat} (hO:OwnK w 3 [.int .i64] x.rows u B) (n:Int) (hz:(numsOf x).Pairwise (· < ·)) (hl:x.rows.length≤40000) :
  Calls Tryz.prog 116 #[u,.int .i64 n] w fun e w'=>e=.returned (.tuple #[.int .i64 (lowN x n:Int),.bool (bsB x n)])∧Below w.heap.size w w':=by
 have e0:i_bsE.2 [⟨sd (.sl 3),[x]⟩,⟨ri,[.i n]⟩]=some (⟨.tup [.c (.d si),.c (.d (.bool))],[.i (lowN x n:Int),.b (bsB x n)]⟩,ascB x&&leI (x.rows.length:Int) 40000):=by kernel_rfl
 rw [ascB_t hz,leI_t (show (x.rows.length:Int)≤40000 by omega)] at e0
 have s:=(i_bs_ok _ _ e0).n rfl
 refine (s.2 w (protO B) #[u,.int .i64 n] ⟨rfl,fun j t hj=>?_⟩ (protO_fresh hO)).mono ?_
 ·match j,hj with
  | 0,hj =>
   injection hj with hj
   subst hj
   exact ⟨u,rfl,vd_ownI hO⟩
  | 1,hj =>
   injection hj with hj
   subst hj
   exact ⟨_,rfl,.int .i64 (.i n)⟩
 ·rintro e w' ⟨v,g',rfl,hr⟩
  refine ⟨?_,hr.below⟩
  obtain ⟨vs,rfl,hs,hv⟩:=hr.val
  obtain ⟨u0,k0,q0⟩:=hv 0 _ rfl
  obtain ⟨u1,k1,q1⟩:=hv 1 _ rfl
  have q0:VD Tryz.prog w' g'.prot (.int .i64) (.i (lowN x n:Int)) u0:=q0
  have q1:VD Tryz.prog w' g'.prot .bool (.b (bsB x n)) u1:=q1
  have hs:vs.size=2:=hs
  congr 2
  refine Array.ext (by rw [hs]; rfl) fun i h1 h2=>?_
  have h2:i<2:=h2
  have hi:i=0∨i=1:=by omega
  rcases hi with rfl | rfl
  ·rw [Array.getElem?_eq_getElem h1] at k0
   injection k0 with k0
   rw [k0]
   cases q0
   rfl
  ·rw [Array.getElem?_eq_getElem h1] at k1
   injection k1 with k1
   rw [k1]
   cases q1
   rfl
theorem clone_own {w:World} {x:D} {u:Value} {B:Option Nat} (hO:OwnK w 3 [.int .i64] x.rows u B) (hl:x.rows.length≤40000) :
  Calls Tryz.prog 163 #[u] w fun e w'=>∃ v' B',e=.returned v'∧Below w.heap.size w w'∧OwnK w' 3 [.int .i64] x.rows v' B'∧∀ b,B'=some b→w.heap.size≤b:=by
 have e0:i_clonE.2 [⟨sd (.sl 3),[x]⟩]=some (⟨.one (.c (.own (0,0) true 3)),[.l x.rows]⟩,leI (x.rows.length:Int) 1000000000):=by kernel_rfl
 rw [leI_t (show (x.rows.length:Int)≤1000000000 by omega)] at e0
 have s:=(i_clon_ok _ _ e0).n rfl
 refine (s.2 w (protO B) #[u] ⟨rfl,fun j t hj=>?_⟩ (protO_fresh hO)).mono ?_
 ·match j,hj with
  | 0,hj =>
   injection hj with hj
   subst hj
   exact ⟨u,rfl,vd_ownI hO⟩
 ·rintro e w' ⟨v,g',rfl,hr⟩
  obtain ⟨row,hrow,hv⟩:=hr.val
  rw [row_int] at hrow
  injection hrow with hrow
  subst hrow
  rcases hv with ⟨h0,_,A,rfl⟩ | ⟨cap,arr,E,rfl,k1,⟨k2,rfl,_⟩,k3,k4,k5,k6,k7,k8,k9,k10⟩
  ·exact ⟨_,none,rfl,hr.below,.inl ⟨rfl,h0,A,rfl⟩,fun b hb=>by cases hb⟩
  ·refine ⟨_,some (g'.ρ (0,0)),rfl,hr.below,.inr ⟨_,cap,arr,rfl,rfl,k1,k2,k5,k6,fun i j s hi hs=>?_⟩,fun b hb=>by injection hb with hb; omega⟩
   obtain ⟨u',q1,q2⟩:=k10 i j s hi hs
   match j,hs with
   | 0,hs =>
    injection hs with hs
    subst hs
    exact ⟨u',q1,(q2.vd rfl).fv rfl⟩
theorem vd_ownN {P:Program} {w:World} {e:TypeId} {k:Nat} {x:D} {u:Value} {B:Option Nat} (prot:Nat→Nat) (hrow:rowOf P e=some (rowN k)) (hO:OwnK w e (rowN k) x.rows u B):∃ n,VD P w (fun b=>if B=some b then n else prot b) (.sl e) x u:=by
 rcases hO with ⟨_,h0,A,rfl⟩ | ⟨b,cap,arr,rfl,rfl,hle,h63,hh,hs,hc⟩
 ·have e':Value.slice A 0 0=.slice A x.rows.length 0:=by rw [h0]; rfl
  rw [e']
  exact ⟨0,.sl e x A 0 _ (fun _ _=>.bool true) hrow (by rw [h0]; exact Nat.le_refl _) (by omega) (fun i j hi=>by rw [h0] at hi; simp at hi) (fun i j s hi=>by rw [h0] at hi; simp at hi)⟩
 ·refine ⟨arr.size,.sl e x (some ⟨b,0,none⟩) cap _ (fun i j=>.int .i64 (gd (x.rows.getD i []) j).int) hrow hle h63 (fun i j hi hj=>?_) (fun i j s hi hj=>?_)⟩
  ·obtain ⟨u',k1,k2⟩:=hc i j (.int .i64) hi (by rw [List.getElem?_eq_getElem hj]; simp)
   refine ⟨b,0,rfl,?_,?_⟩
   ·rw [cell_at hh,Nat.zero_add,k1]
    exact congrArg some k2
   ·show 0+(i*(rowN k).length+j)<if some b=some b then arr.size else prot b
    rw [if_pos rfl]
    have:=(Array.getElem?_eq_some_iff.1 k1).1
    omega
  ·obtain ⟨h1,h2⟩:=List.getElem?_eq_some_iff.1 hj
   have h2:S.int .i64=s:=by simpa using h2
   subst h2
   exact .int .i64 _
theorem res_ownN {P:Program} {prot:Nat→Nat} {w w':World} {e:TypeId} {k:Nat} {y:D} {v:Value} {g':G} (hrow:rowOf P e=some (rowN k)) (hr:Res P prot w w' ⟨.one (.c (.own (0,0) true e)),[y]⟩ v g'):∃ B',OwnK w' e (rowN k) y.rows v B'∧∀ b,B'=some b→w.heap.size≤b:=by
 obtain ⟨row,hrow',hv⟩:=hr.val
 rw [hrow] at hrow'
 injection hrow' with hrow'
 subst hrow'
 rcases hv with ⟨h0,_,A,rfl⟩ | ⟨cap,arr,E,rfl,k1,⟨k2,rfl,_⟩,k3,k4,k5,k6,k7,k8,k9,k10⟩
 ·exact ⟨none,.inl ⟨rfl,h0,A,rfl⟩,fun b hb=>by cases hb⟩
 ·refine ⟨some (g'.ρ (0,0)),.inr ⟨_,cap,arr,rfl,rfl,k1,k2,k5,k6,fun i j s hi hs=>?_⟩,fun b hb=>by injection hb with hb; omega⟩
  obtain ⟨u',q1,q2⟩:=k10 i j s hi hs
  obtain ⟨h1,h2⟩:=List.getElem?_eq_some_iff.1 hs
  have h2:S.int .i64=s:=by simpa using h2
  subst h2
  exact ⟨u',q1,(q2.vd rfl).fv rfl⟩
theorem args_i {P:Program} {prot:Nat→Nat} {w:World} {q:List D} {vs:Array Value} (h:ArgsV P prot w [⟨ri,q⟩] vs):vs = #[.int .i64 (gd q 0).int]:=by
 refine args_at h [.int .i64 (gd q 0).int] rfl fun j t u h1 h2=>?_
 obtain ⟨u',k1,k2⟩:=h.2 j t h1
 rw [h2] at k1; injection k1 with k1; subst k1
 match j,h1 with
 | 0,h1 =>
  injection h1 with h1; subst h1
  have:=vd_int (k:=.i64) (show VD P w prot (.int .i64) (gd q 0) u from k2)
  rw [this]; rfl
theorem ins_nums {z:D} (h:(numsOf z).Pairwise (· < ·)) {n:Int} (hn:bsB z n=false):(insRows z.rows (lowN z n) [.i n]).map (fun r=>(gd r 0).int)=insL (numsOf z) n:=by
 obtain ⟨h1,h2,h3⟩:=low_at h n
 have hlt:∀ y∈(numsOf z).take (lowN z n),y<n:=fun y hy=>by
  obtain ⟨k,hk,rfl⟩:=List.getElem_of_mem hy
  rw [List.length_take] at hk
  have:=numsOf_at z k (by rw [numsOf_len] at hk; omega)
  have a:=h2 k (by omega)
  rw [List.getElem_take]
  obtain ⟨_,e⟩:=List.getElem?_eq_some_iff.1 this
  rw [e]
  exact a
 have hgt:∀ y∈(numsOf z).drop (lowN z n),n<y:=fun y hy=>by
  obtain ⟨k,hk,rfl⟩:=List.getElem_of_mem hy
  rw [List.length_drop,numsOf_len] at hk
  have:=numsOf_at z (lowN z n+k) (by omega)
  rw [List.getElem_drop]
  obtain ⟨_,e⟩:=List.getElem?_eq_some_iff.1 this
  rw [e]
  have a:=h3 (lowN z n) (Nat.le_refl _) (by omega)
  have hne:keyAt z (lowN z n)≠n:=fun e=>by
   unfold bsB at hn
   rw [ltI_nat (show lowN z n<z.rows.length by omega),e,beq_self_eq_true] at hn
   cases hn
  rcases Nat.eq_zero_or_pos k with hk0 | hk0
  ·subst hk0
   show n<keyAt z (lowN z n)
   omega
  ·have b:=asc_key h (show lowN z n<lowN z n+k by omega) (show lowN z n+k<z.rows.length by omega)
   show n<keyAt z (lowN z n+k)
   omega
 have e:(insRows z.rows (lowN z n) [.i n]).map (fun r=>(gd r 0).int)=(numsOf z).take (lowN z n)++n::(numsOf z).drop (lowN z n):=by
  unfold insRows numsOf
  rw [List.map_append,List.map_cons,List.map_take,List.map_drop]
  rfl
 rw [e]
 refine asc_ext ?_ (asc_insL h n) fun m=>?_
 ·rw [List.pairwise_append,List.pairwise_cons]
  refine ⟨h.sublist (List.take_sublist _ _),⟨fun a ha=>hgt a ha,h.sublist (List.drop_sublist _ _)⟩,fun a ha b hb=>?_⟩
  have:=hlt a ha
  rcases List.mem_cons.1 hb with rfl | hb
  ·exact this
  ·have:=hgt b hb; omega
 ·rw [mem_insL,List.mem_append,List.mem_cons]
  constructor
  ·rintro (h | h | h)
   ·exact .inr (List.mem_of_mem_take h)
   ·exact .inl h
   ·exact .inr (List.mem_of_mem_drop h)
  ·rintro (h | h)
   ·exact .inr (.inl h)
   ·rw [← List.take_append_drop (lowN z n) (numsOf z),List.mem_append] at h
    rcases h with h | h
    ·exact .inl h
    ·exact .inr (.inr h)
theorem has_nums {z:D} (h:(numsOf z).Pairwise (· < ·)) {n:Int} (hn:bsB z n=true):insL (numsOf z) n=numsOf z:=by
 unfold bsB at hn
 simp only [Bool.and_eq_true,ltI,decide_eq_true_eq,beq_iff_eq] at hn
 have hm:n∈numsOf z:=by
  have h1:=numsOf_at z (lowN z n) (by omega)
  rw [show (gd (z.rows.getD (lowN z n) []) 0).int=n from hn.2] at h1
  exact List.mem_of_getElem? h1
 refine asc_ext (asc_insL h n) h fun m=>?_
 rw [mem_insL]
 constructor
 ·rintro (rfl | h)
  ·exact hm
  ·exact h
 ·exact .inr
theorem inserted_calls {w:World} {x:D} {u:Value} {B:Option Nat} (hO:OwnK w 3 [.int .i64] x.rows u B) (n:Int) (hz:(numsOf x).Pairwise (· < ·)) (hl:x.rows.length≤40000) :
  Calls Tryz.prog 79 #[u,.int .i64 n] w fun ex w'=>∃ v' B',ex=.returned v'∧Changed w w' B∧OwnK w' 3 [.int .i64] (putIntD x (.i n)).rows v' B'∧∀ b,B'=some b→B=some b∨w.heap.size≤b:=by
 have hbs:=bs_own hO n hz hl
 have HO:Hid (OwnK w 3 [.int .i64] x.rows u B):=hO
 have HZ:Hid ((numsOf x).Pairwise (· < ·)):=hz
 clear hO hz
 cases hf:bsB x n with
 | true =>
  rw [hf] at hbs
  have HF:Hid (bsB x n=true):=hf
  clear hf
  go_enter Tryz.func79,Tryz.ntmps79
  go_wp2_with fail
  refine hbs.mono ?_
  rintro e w' ⟨rfl,hb⟩
  go_wp2
  go_ret
  refine ⟨u,B,rfl,.of_below B hb,ownI_nums (ownN_below HO.out hb) ?_,fun b hb=>.inl hb⟩
  show numsOf x=numsOf (putIntD x (.i n))
  rw [putIntD_nums HZ.out]
  exact (has_nums HZ.out HF.out).symm
 | false =>
  rw [hf] at hbs
  have HF:Hid (bsB x n=false):=hf
  have hlow:=(low_at HZ.out n).1
  clear hf
  go_enter Tryz.func79,Tryz.ntmps79
  go_wp2_with fail
  refine hbs.mono ?_
  rintro e w1 ⟨rfl,hb⟩
  go_wp2_with fail
  refine (clone_own (ownN_below HO.out hb) hl).mono ?_
  rintro e w2 ⟨v2,B2,rfl,hb2,hO2,hB2⟩
  go_wp2_with fail
  have hw2:(w2.alloc (.cells #[.int .i64 n] 3)).heap[w2.heap.size]?=some (.cells #[.int .i64 n] 3 (0,0)):=by letI:Low:=noLow; exact heap_new w2 _
  have hbA:Below w2.heap.size w2 (w2.alloc (.cells #[.int .i64 n] 3)):=(Below.refl _ w2).alloc (Nat.le_refl _) _
  refine (ins_own (ownN_below hO2 hbA) [.i n] (lowN x n) w2.heap.size 1 _ _ (by omega) (by omega) hw2 rfl (fun e=>?_)).mono ?_
  ·rcases hO2 with ⟨h0,_⟩ | ⟨b',cap,arr,h0,_,_,_,hh,_⟩
   ·rw [h0] at e; cases e
   ·rw [h0] at e
    injection e with e
    have:=lt_of_heap hh
    omega
  rintro e w4 ⟨v4,B4,rfl,hc4,hO4,hB4⟩
  go_wp2
  go_ret
  have s1:=hb.size
  have s2:=hb2.size
  have s3:=hbA.size
  refine ⟨v4,B4,rfl,(((Changed.of_below B hb).trans (.of_below none hb2) (fun b h=>by cases h)).trans (.of_below none hbA) (fun b h=>by cases h)).trans hc4 (fun b h=>.inr (by have:=hB2 b h; omega)),ownI_nums hO4 ?_,fun b h=>.inr ?_⟩
  ·show _=numsOf (putIntD x (.i n))
   rw [putIntD_nums HZ.out]
   exact ins_nums HZ.out HF.out
  ·rcases hB4 b h with h | h
   ·have:=hB2 b h; omega
   ·omega
def i_insertedE:Ent:=(79,e2 (sd (.sl 3)) ri fun p q=>(⟨.tup [.agg [.any]],[putIntD (gd p 0) (gd q 0)]⟩,ascB (gd p 0)&&leI ((gd p 0).rows.length:Int) 40000))
theorem i_inserted_ok:EntOk Tryz.prog i_insertedE:=e2_ok fun p q h=>by
 have h:(ascB (gd p 0)&&leI ((gd p 0).rows.length:Int) 40000)=true:=h
 simp only [Bool.and_eq_true,leI,decide_eq_true_eq] at h
 obtain ⟨h1,h2⟩:=h
 refine SoundFn.ofK rfl ⟨enters Tryz.func79 (by kernel_rfl) (by kernel_rfl),fun e x rest row he hrow hflat w prot u B vs hO hB hfr hargs hko=>?_⟩
 injection he with he hre
 injection he with he hp
 injection he with he
 injection he with he
 injection he with he
 injection he with he
 subst he hp hre
 rw [row_int] at hrow
 injection hrow with hrow
 subst hrow
 have hvs:=args_i (hargs w (Changed.refl w B))
 subst hvs
 have h1:ascB x=true:=h1
 have h2:(x.rows.length:Int)≤40000:=h2
 refine (inserted_calls hO (gd q 0).int (asc_of h1) (by omega)).mono ?_
 rintro ex w' ⟨v',B',rfl,k1,k2,k3⟩
 refine ⟨v',B',rfl,k1,ownI_nums k2 ?_,k3⟩
 show numsOf (putIntD x (.i (gd q 0).int))=numsOf (putIntD x (gd q 0))
 rw [putIntD_nums (asc_of h1),putIntD_nums (asc_of h1)]
 rfl
theorem row_lock:rowOf Tryz.prog 93=some (rowN 4):=by kernel_rfl
def i_LocksDropKE:Ent:=(78,e2 (sd (.sl 93)) ri fun p q=>(⟨.tup [.agg [.any]],[dropD (gd p 0) (gd q 0)]⟩,true))
theorem i_LocksDropK_ok:EntOk Tryz.prog i_LocksDropKE:=e2_ok fun p q h=>by
 refine SoundFn.ofK rfl ⟨enters Tryz.func78 (by kernel_rfl) (by kernel_rfl),fun e x rest row he hrow hflat w prot u B vs hO hB hfr hargs hko=>?_⟩
 injection he with he hre
 injection he with he hp
 injection he with he
 injection he with he
 injection he with he
 injection he with he
 subst he hp hre
 rw [row_lock] at hrow
 injection hrow with hrow
 subst hrow
 have hvs:=args_i (hargs w (Changed.refl w B))
 subst hvs
 obtain ⟨n,hn⟩:=vd_ownN prot row_lock hO
 have s:=(i_LocksDrop_ok [⟨sd (.sl 93),[x]⟩,⟨ri,q⟩] ⟨.one (.c (.own (0,0) true 93)),[dropD x (gd q 0)]⟩ (by kernel_rfl)).n rfl
 refine (s.2 w (fun b=>if B=some b then n else prot b) #[u,.int .i64 (gd q 0).int] ⟨rfl,fun j t hj=>?_⟩ fun b hb=>?_).mono ?_
 ·match j,hj with
  | 0,hj =>
   injection hj with hj
   subst hj
   exact ⟨u,rfl,hn⟩
  | 1,hj =>
   injection hj with hj
   subst hj
   exact ⟨_,rfl,.int .i64 _⟩
 ·rcases hO with ⟨rfl,_⟩ | ⟨b',cap,arr,rfl,_,_,_,hh,_⟩
  ·rw [if_neg (by simp)]; exact hfr b hb
  ·have:=lt_of_heap hh
   rw [if_neg (by intro h; injection h with h; omega)]
   exact hfr b hb
 ·rintro ex w' ⟨v,g',rfl,hr⟩
  obtain ⟨B',k1,k2⟩:=res_ownN row_lock hr
  exact ⟨v,B',rfl,.of_below B hr.below,k1,fun b hb=>.inr (k2 b hb)⟩
end Go.Proofs.YtpdfmcmnjikppaaGreat
namespace Go.Proofs.YtpdfmcmnjikppaaGreat
set_option maxRecDepth 4096
set_option maxHeartbeats 1000000
abbrev s_l10TurnT:FuncId→List T→Option (T × Bool):=find [s_RangesOkE,s_RangeOkE]
theorem s_l10TurnT_ok:CallOk Tryz.prog s_l10TurnT:=find_ok (fC ⟨s_RangesOk_ok,fC ⟨s_RangeOk_ok,fN⟩⟩)
abbrev s_l10TurnK:List Nat:= [0,1,2,4,6,7,8,9,10,11,12,13,14,22,28,42,53,62,72,82,91]
noncomputable def s_l10TurnL0 (N:Nat) (p q r:List D):List D→Out:=loopOf Tryz.prog s_l10TurnT N s_l10TurnK Tryz.f186 (.tup [.c (.d (.sl 41)),.c (.d (.bool))]) [⟨sd (.sl 41),p⟩,⟨ag rIRange,q⟩,⟨rb,r⟩] 0
noncomputable def s_l10TurnL2 (N:Nat) (p q r:List D):List D→Out:=loopOf Tryz.prog s_l10TurnT N s_l10TurnK Tryz.f186 (.tup [.c (.d (.sl 41)),.c (.d (.bool))]) [⟨sd (.sl 41),p⟩,⟨ag rIRange,q⟩,⟨rb,r⟩] 2
noncomputable def s_l10TurnL4 (N:Nat) (p q r:List D):List D→Out:=loopOf Tryz.prog s_l10TurnT N s_l10TurnK Tryz.f186 (.tup [.c (.d (.sl 41)),.c (.d (.bool))]) [⟨sd (.sl 41),p⟩,⟨ag rIRange,q⟩,⟨rb,r⟩] 4
noncomputable def s_l10TurnL6 (N:Nat) (p q r:List D):List D→Out:=loopOf Tryz.prog s_l10TurnT N s_l10TurnK Tryz.f186 (.tup [.c (.d (.sl 41)),.c (.d (.bool))]) [⟨sd (.sl 41),p⟩,⟨ag rIRange,q⟩,⟨rb,r⟩] 6
theorem s_l10TurnR0 (N:Nat) (p q r:List D) (x0 x1 x2 x3 x4 x5 x6 x7 x8 x9 x10 x11:D):(s_l10TurnL0 N p q r) [x0,x1,x2,x3,x4,x5,x6,x7,x8,x9,x10,x11] =
 bif ltI x9.int (x0.rows.length:Int) then nd (inRange x9.int x0.rows.length) ((let o2:=iter (s_l10TurnL2 N p q r) N [x0,x1,x2,x3,x4,x5,x6,x7,x8,x9,.b (ltI x9.int (x0.rows.length:Int)),gd (x0.rows.getD x9.int.toNat []) 0,x10,x11]
  nd o2.isSome (nd (o2.code==4) (nx [gd o2.pay 0,gd o2.pay 1,gd o2.pay 2,gd o2.pay 3,gd o2.pay 4,gd o2.pay 5,gd o2.pay 6,gd o2.pay 7,gd o2.pay 8,.i (w64 ((gd o2.pay 9).int+1)),gd o2.pay 12,gd o2.pay 13]))))
 else ex 0 [x0,x1,x2,x3,x4,x5,x6,x7,x8,x9,x10,x11]:=by kernel_rfl
theorem s_l10TurnR2 (N:Nat) (p q r:List D) (x0 x1 x2 x3 x4 x5 x6 x7 x8 x9 x10 x11 x12 x13:D):(s_l10TurnL2 N p q r) [x0,x1,x2,x3,x4,x5,x6,x7,x8,x9,x10,x11,x12,x13] =
 nd (inRange x9.int x0.rows.length) (bif ltI x11.int (gd (x0.rows.getD x9.int.toNat []) 1).int then nd (inRange x11.int x8.rows.length) (nx [x0,x1,x2,x3,x4,x5,x6,x7,.l (x8.rows.set x11.int.toNat [.b true]),x9,x10,.i (w64 (x11.int+1)),x12,x13])
 else ex 2 [x0,x1,x2,x3,x4,x5,x6,x7,x8,x9,x10,x11,x12,x13]):=by kernel_rfl
theorem s_l10TurnR4 (N:Nat) (p q r:List D) (x0 x1 x2 x3 x4 x5 x6 x7 x8 x9 x10 x11 x12:D):(s_l10TurnL4 N p q r) [x0,x1,x2,x3,x4,x5,x6,x7,x8,x9,x10,x11,x12] =
 bif ltI x10.int x12.int then nd (inRange x10.int x8.rows.length) (nx [x0,x1,x2,x3,x4,x5,x6,x7,.l (x8.rows.set x10.int.toNat [x3]),x9,.i (w64 (x10.int+1)),x11,x12])
 else ex 4 [x0,x1,x2,x3,x4,x5,x6,x7,x8,x9,x10,x11,x12]:=by kernel_rfl
theorem s_l10TurnR6 (N:Nat) (p q r:List D) (x0 x1 x2 x3 x4 x5 x6 x7 x8 x9 x10 x11 x12 x13 x14 x15:D):(s_l10TurnL6 N p q r) [x0,x1,x2,x3,x4,x5,x6,x7,x8,x9,x10,x11,x12,x13,x14,x15] =
 bif leI x13.int 1000 then nd (inRange x13.int x8.rows.length) (bif (gd (x8.rows.getD x13.int.toNat []) 0).bool then bif ltI x12.int 0 then nd (inRange x13.int x8.rows.length) (bif !(gd (x8.rows.getD x13.int.toNat []) 0).bool then bif leI 0 x13.int then nd (lenOk (x11.rows ++ [[x13,x13]])&&true) (nx [x0,x1,x2,x3,x4,x5,x6,x7,x8,x9,x10,.l (x11.rows ++ [[x13,x13]]),.i (-1),.i (w64 (x13.int+1)),x14,x15])
 else nx [x0,x1,x2,x3,x4,x5,x6,x7,x8,x9,x10,x11,x13,.i (w64 (x13.int+1)),x14,x15]
 else nx [x0,x1,x2,x3,x4,x5,x6,x7,x8,x9,x10,x11,x13,.i (w64 (x13.int+1)),x14,x15])
 else nd (inRange x13.int x8.rows.length) (bif !(gd (x8.rows.getD x13.int.toNat []) 0).bool then bif leI 0 x12.int then nd (lenOk (x11.rows ++ [[x12,x13]])&&true) (nx [x0,x1,x2,x3,x4,x5,x6,x7,x8,x9,x10,.l (x11.rows ++ [[x12,x13]]),.i (-1),.i (w64 (x13.int+1)),x14,x15])
 else nx [x0,x1,x2,x3,x4,x5,x6,x7,x8,x9,x10,x11,x12,.i (w64 (x13.int+1)),x14,x15]
 else nx [x0,x1,x2,x3,x4,x5,x6,x7,x8,x9,x10,x11,x12,.i (w64 (x13.int+1)),x14,x15])
 else nd (inRange x13.int x8.rows.length) (bif !(gd (x8.rows.getD x13.int.toNat []) 0).bool then bif leI 0 x12.int then nd (lenOk (x11.rows ++ [[x12,x13]])&&true) (nx [x0,x1,x2,x3,x4,x5,x6,x7,x8,x9,x10,.l (x11.rows ++ [[x12,x13]]),.i (-1),.i (w64 (x13.int+1)),x14,x15])
 else nx [x0,x1,x2,x3,x4,x5,x6,x7,x8,x9,x10,x11,x12,.i (w64 (x13.int+1)),x14,x15]
 else nx [x0,x1,x2,x3,x4,x5,x6,x7,x8,x9,x10,x11,x12,.i (w64 (x13.int+1)),x14,x15]))
 else ex 6 [x0,x1,x2,x3,x4,x5,x6,x7,x8,x9,x10,x11,x12,x13,x14,x15]:=by kernel_rfl
theorem s_l10Turn_ev (N:Nat) (p q r:List D):evFn Tryz.prog s_l10TurnT N s_l10TurnK Tryz.f186 (.tup [.c (.d (.sl 41)),.c (.d (.bool))]) [⟨sd (.sl 41),p⟩,⟨ag rIRange,q⟩,⟨rb,r⟩]=some (bo,
 bif !(rangesOk (gd p 0)) then some (1,[.l [],.b false])
 else bif !(rangeOk (sub q 0 2)) then some (1,[.l [],.b false])
 else nd (leI 0 1001&&eqI 1001 1001&&leI 1001 4294967296&&true&&true) ((let o0:=iter (s_l10TurnL0 N p q r) N [gd p 0,gd q 0,gd q 1,gd r 0,.i 0,.l [],.i 0,.b (!(rangeOk (sub q 0 2))),.l (List.replicate 1001 [.b false]),.i 0,gd q 0,gd q 1]
  nd o0.isSome (nd (o0.code==2) ((let o4:=iter (s_l10TurnL4 N p q r) N [gd o0.pay 0,gd o0.pay 1,gd o0.pay 2,gd o0.pay 3,gd o0.pay 4,gd o0.pay 5,gd o0.pay 6,gd o0.pay 7,gd o0.pay 8,gd o0.pay 9,gd o0.pay 10,gd o0.pay 10,gd o0.pay 11]
  nd o4.isSome (nd (o4.code==6) ((let o6:=iter (s_l10TurnL6 N p q r) N [gd o4.pay 0,gd o4.pay 1,gd o4.pay 2,gd o4.pay 3,gd o4.pay 4,gd o4.pay 5,gd o4.pay 6,gd o4.pay 7,gd o4.pay 8,gd o4.pay 9,gd o4.pay 10,.l [],.i (-1),.i 0,gd o4.pay 11,gd o4.pay 12]
   nd o6.isSome (nd (o6.code==8) (bif ltI 16 ((gd o6.pay 11).rows.length:Int) then some (1,[.l [],.b false])
   else some (1,[gd o6.pay 11,.b true])))))))))))):=by kernel_rfl
def inR (r:List D) (k:Nat):Bool:=leI (gd r 0).int (k:Int)&&ltI (k:Int) (gd r 1).int
def rowsC (C:Nat→D):List (List D):=(List.range 1001).map fun k => [C k]
theorem rowsC_len (C:Nat→D):(rowsC C).length=1001:=by simp [rowsC]
theorem rowsC_get {C:Nat→D} {k:Nat} (h:k<1001):(rowsC C).getD k [] = [C k]:=by
 rw [getD_row (by rw [rowsC_len]; exact h)]
 simp [rowsC]
theorem rowsC_set {C:Nat→D} {t:Nat} (v:D):(rowsC C).set t [v]=rowsC (fun k=>bif k==t then v else C k):=by
 apply List.ext_getElem
 ·rw [List.length_set,rowsC_len,rowsC_len]
 ·intro i h1 h2
  rw [List.getElem_set]
  simp only [rowsC,List.getElem_map,List.getElem_range]
  by_cases e:t=i
  ·subst e; simp
  ·rw [if_neg e,show (i==t)=false from by simp; omega]; rfl
theorem rowsC_rep (v:D):List.replicate 1001 [v]=rowsC (fun _=>v):=by
 unfold rowsC
 rw [List.map_const',List.length_range]
theorem rowsC_congr {C C':Nat→D} (h:∀ k,C k=C' k):rowsC C=rowsC C':=by
 have:C=C':=funext h
 rw [this]
def cntD (d:D):Nat→D
 | 0=>d
 | m+1=>.i (d.int+((m+1:Nat):Int))
theorem cntD_int (d:D):∀ m,(cntD d m).int=d.int+(m:Int)
 | 0=>by show d.int=d.int+0; omega
 | m+1=>rfl
def anyR (z:D) (i k:Nat):Bool:=(List.range i).any fun j=>inR (z.rows.getD j []) k
theorem anyR_succ (z:D) (i k:Nat):anyR z (i+1) k=(anyR z i k||inR (z.rows.getD i []) k):=by
 unfold anyR
 rw [List.range_succ,List.any_append]
 simp
def tS (C:Nat→Bool):Nat→List (List D) × Int
 | 0=>([],-1)
 | k+1=>bif C k then (bif ltI (tS C k).2 0 then ((tS C k).1,(k:Int)) else tS C k) else bif leI 0 (tS C k).2 then ((tS C k).1 ++ [[.i (tS C k).2,.i (k:Int)]],-1) else tS C k
theorem tS_len (C:Nat→Bool):∀ k,(tS C k).1.length≤k
 | 0=>Nat.le_refl _
 | k+1=>by
  have:=tS_len C k
  rw [tS]
  cases C k <;> cases ltI (tS C k).2 0 <;> cases leI 0 (tS C k).2 <;> simp <;> omega
theorem lastHi_app (o:List (List D)) (a b:D):lastHi (o ++ [[a,b]])=b.int:=by
 unfold lastHi
 rw [List.length_append]
 show (gd ((o ++ [[a,b]]).getD (o.length+1 - 1) []) 1).int=_
 rw [Nat.add_sub_cancel,getD_app_at]
 rfl
theorem addR_new {o:List (List D)} {k:Int} (h:o = []∨lastHi o<k) (hi:Int):addR o k hi=o ++ [[.i k,.i hi]]:=by
 unfold addR
 rcases h with rfl | h
 ·rfl
 ·rw [show (lastHi o==k)=false from by simp; omega,Bool.and_false,cond_false]
theorem addR_more (o:List (List D)) (f k hi:Int):addR (o ++ [[.i f,.i k]]) k hi=o ++ [[.i f,.i hi]]:=by
 unfold addR
 rw [lastHi_app,show ltI 0 ((o ++ [[D.i f,D.i k]]).length:Int)=true from decide_eq_true (by rw [List.length_append]; show (0:Int)<((o.length+1:Nat):Int); omega),show ((D.i k).int==k)=true from beq_self_eq_true k,Bool.and_self,cond_true,List.length_append]
 show (o ++ [[D.i f,D.i k]]).set (o.length+1 - 1) [gd ((o ++ [[D.i f,D.i k]]).getD (o.length+1 - 1) []) 0,.i hi]=_
 rw [Nat.add_sub_cancel,getD_app_at,List.set_append_right _ _ (Nat.le_refl _),Nat.sub_self]
 rfl
theorem kp_tS (C:Nat→Bool):∀ k,((tS C k).2 = -1∧kpR C k=(tS C k).1∧((tS C k).1 = []∨lastHi (tS C k).1<(k:Int)))∨(0≤(tS C k).2∧kpR C k=(tS C k).1 ++ [[.i (tS C k).2,.i (k:Int)]])
 | 0=>.inl ⟨rfl,rfl,.inl rfl⟩
 | k+1=>by
  have ih:=kp_tS C k
  rw [kpR,tS]
  generalize tS C k=S at *
  obtain ⟨o,f⟩:=S
  dsimp only at ih ⊢
  rcases ih with ⟨rfl,h2,h3⟩ | ⟨h1,h2⟩
  ·cases C k
   ·rw [cond_false,cond_false,leI_f (show (-1:Int)<0 by omega),cond_false]
    refine .inl ⟨rfl,h2,?_⟩
    rcases h3 with h3 | h3
    ·exact .inl h3
    ·exact .inr (show lastHi o<_ by omega)
   ·rw [cond_true,cond_true,ltI_t (show (-1:Int)<0 by omega),cond_true,h2,addR_new h3]
    exact .inr ⟨show (0:Int)≤(k:Int) by omega,rfl⟩
  ·cases C k
   ·rw [cond_false,cond_false,leI_t h1,cond_true]
    exact .inl ⟨rfl,h2,.inr (by show lastHi (o ++ [[.i f,.i (k:Int)]])<_; rw [lastHi_app]; show (k:Int)<_; omega)⟩
   ·rw [cond_true,cond_true,ltI_f h1,cond_false,h2,addR_more]
    exact .inr ⟨h1,rfl⟩
theorem kpR_congr {C C':Nat→Bool}:∀ {n},(∀ k,k<n→C k=C' k)→kpR C n=kpR C' n
 | 0,_=>rfl
 | n+1,h=>by rw [kpR,kpR,kpR_congr (fun k hk=>h k (by omega)),h n (by omega)]
def turnC (z:D) (a:List D) (wi:D) (k:Nat):D:=bif inR a k then wi else .b (anyR z z.rows.length k)
theorem range_at {z:D} (h:rangesOk z=true) {j:Nat} (hj:j<z.rows.length):0≤(gd (z.rows.getD j []) 0).int∧(gd (z.rows.getD j []) 0).int<(gd (z.rows.getD j []) 1).int∧(gd (z.rows.getD j []) 1).int≤1000:=by
 simp only [rangesOk,Bool.and_eq_true,List.all_eq_true,List.mem_range] at h
 have h1:=h.1 j hj
 cases j with
 | zero =>
  simp only [rangesAt,rangeOk,Bool.and_eq_true,decide_eq_true_eq] at h1
  exact ⟨h1.1,h1.2.1,h1.2.2⟩
 | succ j =>
  simp only [rangesAt,rangeOk,Bool.and_eq_true,decide_eq_true_eq] at h1
  exact ⟨h1.1.1,h1.1.2.1,h1.1.2.2⟩
theorem has_inR {r:List D} (h0:0≤(gd r 0).int) (h1:(gd r 0).int<(gd r 1).int) (h2:(gd r 1).int≤1000) (k:Nat):inB (k:Int) (gd r 0).int (w64 ((gd r 1).int - 1))=inR r k:=by
 rw [w64_id (by omega) (by omega)]
 unfold inB inR leI ltI
 rw [Bool.eq_iff_iff]
 simp only [Bool.and_eq_true,decide_eq_true_eq]
 omega
theorem chgB_turn {z:D} {a:List D} {wi:D} (hz:rangesOk z=true) (ha:rangeOk (sub a 0 2)=true) (k:Nat):chgB (.l [[.l [sub a 0 2],.l [[wi]],.l [[z]]]]) k=(turnC z a wi k).bool:=by
 simp only [rangeOk,Bool.and_eq_true,decide_eq_true_eq] at ha
 show (chgD z (sub a 0 2) wi (.i (k:Int))).bool=_
 unfold chgD turnC
 rw [int_i,has_inR (r:=sub a 0 2) ha.1 ha.2.1 ha.2.2]
 show (bif inR a k then wi else _).bool=_
 have e:anyS (fun rr=>ixfCGC (.l [[.l [[D.i (k:Int)]]]]) (sub rr 0 2)) z=anyR z z.rows.length k:=by
  unfold anyS anyR
  rw [Bool.eq_iff_iff]
  simp only [List.any_eq_true,List.mem_range]
  constructor
  ·rintro ⟨j,hj,h⟩
   obtain ⟨r1,r2,r3⟩:=range_at hz hj
   exact ⟨j,hj,by rw [← has_inR r1 r2 r3]; exact h⟩
  ·rintro ⟨j,hj,h⟩
   obtain ⟨r1,r2,r3⟩:=range_at hz hj
   exact ⟨j,hj,by rw [← has_inR r1 r2 r3] at h; exact h⟩
 rw [e]
theorem turn_all {z:D} {a:List D} {wi:D} (hz:rangesOk z=true) (ha:rangeOk (sub a 0 2)=true):(tS (fun k=>(turnC z a wi k).bool) 1001).1=(chgRg z a wi).rows:=by
 have ha':=ha
 simp only [rangeOk,Bool.and_eq_true,decide_eq_true_eq] at ha'
 have ha2:(gd a 1).int≤1000:=ha'.2.2
 have hlast:(turnC z a wi 1000).bool=false:=by
  unfold turnC
  rw [show inR a 1000=false from by unfold inR; rw [ltI_f (show (gd a 1).int≤((1000:Nat):Int) from ha2),Bool.and_false],cond_false]
  show anyR z z.rows.length 1000=false
  unfold anyR
  rw [List.any_eq_false]
  intro j hj
  obtain ⟨r1,r2,r3⟩:=range_at hz (List.mem_range.1 hj)
  unfold inR
  rw [ltI_f (show (gd (z.rows.getD j []) 1).int≤((1000:Nat):Int) from r3),Bool.and_false]
  exact Bool.false_ne_true
 have h:=kp_tS (fun k=>(turnC z a wi k).bool) 1001
 have h0:=kp_tS (fun k=>(turnC z a wi k).bool) 1000
 have e1:tS (fun k=>(turnC z a wi k).bool) 1001=bif leI 0 (tS (fun k=>(turnC z a wi k).bool) 1000).2 then ((tS (fun k=>(turnC z a wi k).bool) 1000).1 ++ [[.i (tS (fun k=>(turnC z a wi k).bool) 1000).2,.i ((1000:Nat):Int)]],-1) else tS (fun k=>(turnC z a wi k).bool) 1000:=by
  rw [tS,hlast,cond_false]
 have e2:(chgRg z a wi).rows=kpR (fun k=>(turnC z a wi k).bool) 1000:=by
  show kpR (chgB (.l [[.l [sub a 0 2],.l [[wi]],.l [[z]]]])) 1000=_
  exact kpR_congr fun k _=>chgB_turn hz ha k
 rw [e1,e2]
 rcases h0 with ⟨h1,h2,_⟩ | ⟨h1,h2⟩
 ·rw [h1,leI_f (show (-1:Int)<0 by omega),cond_false]
  exact h2.symm
 ·rw [leI_t h1,cond_true]
  exact h2.symm
theorem turn_l2 (N:Nat) (hN:1001<N) (p q r:List D) (i lo n:Nat) (hi:i<(gd p 0).rows.length) (hlo:(gd ((gd p 0).rows.getD i []) 0).int=lo) (hnn:(gd ((gd p 0).rows.getD i []) 1).int=(lo:Int)+n) (hb:lo+n≤1000) :
  iter (s_l10TurnL2 N p q r) N [gd p 0,gd q 0,gd q 1,gd r 0,.i 0,.l [],.i 0,.b false,.l (rowsC fun k=>.b (anyR (gd p 0) i k)),.i (i:Int),.b true,gd ((gd p 0).rows.getD i []) 0,gd q 0,gd q 1] =
  some (4,[gd p 0,gd q 0,gd q 1,gd r 0,.i 0,.l [],.i 0,.b false,.l (rowsC fun k=>.b (anyR (gd p 0) (i+1) k)),.i (i:Int),.b true,cntD (gd ((gd p 0).rows.getD i []) 0) n,gd q 0,gd q 1]):=by
 obtain ⟨row,hrow⟩:∃ row,row=(gd p 0).rows.getD i []:=⟨_,rfl⟩
 rw [← hrow] at hlo hnn ⊢
 have x2:=run_loop (L:=s_l10TurnL2 N p q r) (fun m => [gd p 0,gd q 0,gd q 1,gd r 0,.i 0,.l [],.i 0,.b false,.l (rowsC fun k=>.b (anyR (gd p 0) i k||(decide (lo≤k)&&decide (k<lo+m)))),.i (i:Int),.b true,cntD (gd row 0) m,gd q 0,gd q 1]) n 2 (fun m hm=>?_) ?_ (N:=N) (by omega)
 ·rw [show (rowsC fun k=>.b (anyR (gd p 0) i k))=rowsC fun k=>.b (anyR (gd p 0) i k||(decide (lo≤k)&&decide (k<lo+0))) from rowsC_congr fun k=>by
   rw [show (decide (lo≤k)&&decide (k<lo+0))=false from by rw [Bool.and_eq_false_iff]; simp; omega,Bool.or_false]]
  rw [show (rowsC fun k=>.b (anyR (gd p 0) (i+1) k))=rowsC fun k=>.b (anyR (gd p 0) i k||(decide (lo≤k)&&decide (k<lo+n))) from rowsC_congr fun k=>by
   rw [anyR_succ,← hrow]
   congr 2
   unfold inR leI ltI
   rw [hlo,hnn,Bool.eq_iff_iff]
   simp only [Bool.and_eq_true,decide_eq_true_eq]
   omega]
  exact x2
 ·show s_l10TurnL2 N p q r [_,_,_,_,_,_,_,_,_,.i (i:Int),_,cntD (gd row 0) m,_,_]=_
  rw [s_l10TurnR2]
  rw [int_i,nd_ix hi,Int.toNat_natCast,← hrow,cntD_int,hlo,hnn,ltI_t (show (lo:Int)+(m:Int)<(lo:Int)+(n:Int) by omega),cond_true,rows_l]
  rw [show (lo:Int)+(m:Int)=((lo+m:Nat):Int) from by omega,nd_ix (by rw [rowsC_len]; omega),Int.toNat_natCast,rowsC_set,w64_succ (show lo+m<1001 by omega) (by omega)]
  rw [show cntD (gd row 0) (m+1)=.i ((lo+m+1:Nat):Int) from congrArg D.i (show (gd row 0).int+((m+1:Nat):Int)=((lo+m+1:Nat):Int) by omega)]
  rw [show (rowsC fun k=>bif k==lo+m then .b true else .b (anyR (gd p 0) i k||(decide (lo≤k)&&decide (k<lo+m))))=rowsC fun k=>.b (anyR (gd p 0) i k||(decide (lo≤k)&&decide (k<lo+(m+1)))) from rowsC_congr fun k=>by
   by_cases hk:k=lo+m
   ·subst hk
    rw [beq_self_eq_true,cond_true,show (decide (lo≤lo+m)&&decide (lo+m<lo+(m+1)))=true from by simp,Bool.or_true]
   ·rw [show (k==lo+m)=false from by simpa using hk,cond_false]
    congr 2
    rw [Bool.eq_iff_iff]
    simp only [Bool.and_eq_true,decide_eq_true_eq]
    omega]
 ·show s_l10TurnL2 N p q r [_,_,_,_,_,_,_,_,_,.i (i:Int),_,cntD (gd row 0) n,_,_]=_
  rw [s_l10TurnR2]
  rw [int_i,nd_ix hi,Int.toNat_natCast,← hrow,cntD_int,hlo,hnn,ltI_f (show (lo:Int)+(n:Int)≤(lo:Int)+(n:Int) by omega),cond_false]
theorem turn_l0 (N:Nat) (hN:1001<N) (p q r:List D) (hz:rangesOk (gd p 0)=true) (hn:(gd p 0).rows.length≤16) :
  iter (s_l10TurnL0 N p q r) N [gd p 0,gd q 0,gd q 1,gd r 0,.i 0,.l [],.i 0,.b false,.l (rowsC fun k=>.b (anyR (gd p 0) 0 k)),.i ((0:Nat):Int),gd q 0,gd q 1] =
  some (2,[gd p 0,gd q 0,gd q 1,gd r 0,.i 0,.l [],.i 0,.b false,.l (rowsC fun k=>.b (anyR (gd p 0) (gd p 0).rows.length k)),.i ((gd p 0).rows.length:Int),gd q 0,gd q 1]):=by
 refine run_loop (L:=s_l10TurnL0 N p q r) (fun i => [gd p 0,gd q 0,gd q 1,gd r 0,.i 0,.l [],.i 0,.b false,.l (rowsC fun k=>.b (anyR (gd p 0) i k)),.i (i:Int),gd q 0,gd q 1]) (gd p 0).rows.length 0 (fun i hi=>?_) ?_ (N:=N) (by omega)
 ·obtain ⟨r1,r2,r3⟩:=range_at hz hi
  obtain ⟨lo,hlo⟩:∃ lo:Nat,(gd ((gd p 0).rows.getD i []) 0).int=lo:=⟨(gd ((gd p 0).rows.getD i []) 0).int.toNat,by omega⟩
  obtain ⟨n,hnn⟩:∃ n:Nat,(gd ((gd p 0).rows.getD i []) 1).int=(lo:Int)+n:=⟨((gd ((gd p 0).rows.getD i []) 1).int - lo).toNat,by omega⟩
  have x2:=turn_l2 N hN p q r i lo n hi hlo hnn (by omega)
  show s_l10TurnL0 N p q r [_,_,_,_,_,_,_,_,_,.i (i:Int),_,_]=_
  rw [s_l10TurnR0]
  rw [int_i,c_lt hi,nd_ix hi,Int.toNat_natCast,ltI_nat hi]
  dsimp only
  rw [x2]
  show some (0,[_,_,_,_,_,_,_,_,_,D.i (w64 ((i:Int)+1)),_,_])=_
  rw [w64_succ hi (by omega)]
  rfl
 ·show s_l10TurnL0 N p q r [_,_,_,_,_,_,_,_,_,.i ((gd p 0).rows.length:Int),_,_]=_
  rw [s_l10TurnR0]
  rw [int_i,c_nlt]
theorem turn_l4 (N:Nat) (hN:1001<N) (p q r:List D) (A M:Nat) (hA:(gd q 0).int=A) (hM:(gd q 1).int=(A:Int)+M) (hAM:A+M≤1000) :
  iter (s_l10TurnL4 N p q r) N [gd p 0,gd q 0,gd q 1,gd r 0,.i 0,.l [],.i 0,.b false,.l (rowsC fun k=>.b (anyR (gd p 0) (gd p 0).rows.length k)),.i ((gd p 0).rows.length:Int),gd q 0,gd q 0,gd q 1] =
  some (6,[gd p 0,gd q 0,gd q 1,gd r 0,.i 0,.l [],.i 0,.b false,.l (rowsC (turnC (gd p 0) q (gd r 0))),.i ((gd p 0).rows.length:Int),cntD (gd q 0) M,gd q 0,gd q 1]):=by
 have x4:=run_loop (L:=s_l10TurnL4 N p q r) (fun m => [gd p 0,gd q 0,gd q 1,gd r 0,.i 0,.l [],.i 0,.b false,.l (rowsC fun k=>bif decide (A≤k)&&decide (k<A+m) then gd r 0 else .b (anyR (gd p 0) (gd p 0).rows.length k)),.i ((gd p 0).rows.length:Int),cntD (gd q 0) m,gd q 0,gd q 1]) M 4 (fun m hm=>?_) ?_ (N:=N) (by omega)
 ·rw [show (rowsC fun k=>.b (anyR (gd p 0) (gd p 0).rows.length k))=rowsC fun k=>bif decide (A≤k)&&decide (k<A+0) then gd r 0 else .b (anyR (gd p 0) (gd p 0).rows.length k) from rowsC_congr fun k=>by
   rw [show (decide (A≤k)&&decide (k<A+0))=false from by rw [Bool.and_eq_false_iff]; simp; omega,cond_false]]
  rw [show rowsC (turnC (gd p 0) q (gd r 0))=rowsC fun k=>bif decide (A≤k)&&decide (k<A+M) then gd r 0 else .b (anyR (gd p 0) (gd p 0).rows.length k) from rowsC_congr fun k=>by
   unfold turnC inR leI ltI
   rw [hA,hM]
   congr 1
   rw [Bool.eq_iff_iff]
   simp only [Bool.and_eq_true,decide_eq_true_eq]
   omega]
  exact x4
 ·show s_l10TurnL4 N p q r [_,_,_,_,_,_,_,_,_,_,cntD (gd q 0) m,_,_]=_
  rw [s_l10TurnR4]
  rw [cntD_int,hA,hM,ltI_t (show (A:Int)+(m:Int)<(A:Int)+(M:Int) by omega),cond_true,rows_l]
  rw [show (A:Int)+(m:Int)=((A+m:Nat):Int) from by omega,nd_ix (by rw [rowsC_len]; omega),Int.toNat_natCast,rowsC_set,w64_succ (show A+m<1001 by omega) (by omega)]
  rw [show cntD (gd q 0) (m+1)=.i ((A+m+1:Nat):Int) from congrArg D.i (show (gd q 0).int+((m+1:Nat):Int)=((A+m+1:Nat):Int) by omega)]
  rw [show (rowsC fun k=>bif k==A+m then gd r 0 else bif decide (A≤k)&&decide (k<A+m) then gd r 0 else .b (anyR (gd p 0) (gd p 0).rows.length k))=rowsC fun k=>bif decide (A≤k)&&decide (k<A+(m+1)) then gd r 0 else .b (anyR (gd p 0) (gd p 0).rows.length k) from rowsC_congr fun k=>by
   by_cases hk:k=A+m
   ·subst hk
    rw [beq_self_eq_true,cond_true,show (decide (A≤A+m)&&decide (A+m<A+(m+1)))=true from by simp,cond_true]
   ·rw [show (k==A+m)=false from by simpa using hk,cond_false]
    congr 1
    rw [Bool.eq_iff_iff]
    simp only [Bool.and_eq_true,decide_eq_true_eq]
    omega]
 ·show s_l10TurnL4 N p q r [_,_,_,_,_,_,_,_,_,_,cntD (gd q 0) M,_,_]=_
  rw [s_l10TurnR4]
  rw [cntD_int,hA,hM,ltI_f (show (A:Int)+(M:Int)≤(A:Int)+(M:Int) by omega),cond_false]
theorem turn_l6 (N:Nat) (hN:1001<N) (p q r:List D) (m:D) (C:Nat→D) :
  iter (s_l10TurnL6 N p q r) N [gd p 0,gd q 0,gd q 1,gd r 0,.i 0,.l [],.i 0,.b false,.l (rowsC C),.i ((gd p 0).rows.length:Int),m,.l (tS (fun k=>(C k).bool) 0).1,.i (tS (fun k=>(C k).bool) 0).2,.i ((0:Nat):Int),gd q 0,gd q 1] =
  some (8,[gd p 0,gd q 0,gd q 1,gd r 0,.i 0,.l [],.i 0,.b false,.l (rowsC C),.i ((gd p 0).rows.length:Int),m,.l (tS (fun k=>(C k).bool) 1001).1,.i (tS (fun k=>(C k).bool) 1001).2,.i ((1001:Nat):Int),gd q 0,gd q 1]):=by
 refine run_loop (L:=s_l10TurnL6 N p q r) (fun k => [gd p 0,gd q 0,gd q 1,gd r 0,.i 0,.l [],.i 0,.b false,.l (rowsC C),.i ((gd p 0).rows.length:Int),m,.l (tS (fun k=>(C k).bool) k).1,.i (tS (fun k=>(C k).bool) k).2,.i (k:Int),gd q 0,gd q 1]) 1001 6 (fun k hk=>?_) ?_ (N:=N) (by omega)
 ·show s_l10TurnL6 N p q r [_,_,_,_,_,_,_,_,_,_,_,_,.i (tS (fun k=>(C k).bool) k).2,.i (k:Int),_,_]=_
  rw [s_l10TurnR6]
  have hl:=tS_len (fun k=>(C k).bool) k
  have hlen:∀ x,lenOk ((tS (fun k=>(C k).bool) k).1 ++ [x])=true:=fun x=>lenOk_t (by rw [List.length_append]; show _+1≤_; omega)
  have hix:inRange (k:Int) (rowsC C).length=true:=inRange_nat (by rw [rowsC_len]; omega)
  have hg:=rowsC_get (C:=C) (show k<1001 by omega)
  rw [tS]
  generalize tS (fun k=>(C k).bool) k=S at *
  obtain ⟨o,f⟩:=S
  have hlen:∀ x,lenOk (o ++ [x])=true:=hlen
  simp only [int_i,rows_l,leI_t (show (k:Int)≤1000 by omega),cond_true,hix,Int.toNat_natCast,hg,gd_cons_zero,hlen,Bool.and_self,nd_true,w64_succ (show k<1001 by omega) (show 1001≤9223372036854775807 by omega)]
  cases (C k).bool
  ·rw [cond_false,cond_false,Bool.not_false,cond_true]
   cases leI 0 f <;> rfl
  ·rw [cond_true,cond_true,Bool.not_true,cond_false]
   cases ltI f 0 <;> rfl
 ·show s_l10TurnL6 N p q r [_,_,_,_,_,_,_,_,_,_,_,_,_,.i ((1001:Nat):Int),_,_]=_
  rw [s_l10TurnR6]
  rw [int_i,leI_f (show (1000:Int)<((1001:Nat):Int) by omega),cond_false]
theorem turn_run (N:Nat) (hN:1001<N) (p q r:List D) (hz:rangesOk (gd p 0)=true) (ha:rangeOk (sub q 0 2)=true):evFn Tryz.prog s_l10TurnT N s_l10TurnK Tryz.f186 (.tup [.c (.d (.sl 41)),.c (.d (.bool))]) [⟨sd (.sl 41),p⟩,⟨ag rIRange,q⟩,⟨rb,r⟩]=some (bo,some (1,chgT (gd p 0) q (gd r 0))):=by
 rw [s_l10Turn_ev]
 have hct:chgT (gd p 0) q (gd r 0) = [.l (bif !(ltI 16 ((chgRg (gd p 0) q (gd r 0)).rows.length:Int)) then (chgRg (gd p 0) q (gd r 0)).rows else []),.b (!(ltI 16 ((chgRg (gd p 0) q (gd r 0)).rows.length:Int)))]:=by
  unfold chgT chgOk
  rw [hz,ha,Bool.true_and,Bool.true_and]
 rw [hct,hz,ha,Bool.not_true,cond_false,cond_false]
 have hn:(gd p 0).rows.length≤16:=by
  simp only [rangesOk,Bool.and_eq_true,leI,decide_eq_true_eq] at hz
  omega
 have ha':=ha
 simp only [rangeOk,Bool.and_eq_true,decide_eq_true_eq] at ha'
 obtain ⟨a0,a1,a2⟩:0≤(gd q 0).int∧(gd q 0).int<(gd q 1).int∧(gd q 1).int≤1000:=⟨ha'.1,ha'.2.1,ha'.2.2⟩
 obtain ⟨A,hA⟩:∃ A:Nat,(gd q 0).int=A:=⟨(gd q 0).int.toNat,by omega⟩
 obtain ⟨M,hM⟩:∃ M:Nat,(gd q 1).int=(A:Int)+M:=⟨((gd q 1).int - A).toNat,by omega⟩
 have x1:=turn_l0 N hN p q r hz hn
 rw [show (rowsC fun k=>.b (anyR (gd p 0) 0 k))=List.replicate 1001 [.b false] from (rowsC_rep (.b false)).symm,show (((0:Nat):Int))=0 from rfl] at x1
 have x4:=turn_l4 N hN p q r A M hA hM (by omega)
 have x6:=turn_l6 N hN p q r (cntD (gd q 0) M) (turnC (gd p 0) q (gd r 0))
 have ht:=turn_all (wi:=gd r 0) hz ha
 rw [show (leI 0 1001&&eqI 1001 1001&&leI 1001 4294967296&&true&&true)=true from by kernel_rfl,nd_true]
 generalize rowsC (turnC (gd p 0) q (gd r 0))=R4 at *
 generalize (rowsC fun k=>D.b (anyR (gd p 0) (gd p 0).rows.length k))=R1 at *
 generalize List.replicate 1001 [D.b false]=R0 at *
 rw [show (tS (fun k=>(turnC (gd p 0) q (gd r 0) k).bool) 0).1 = [] from rfl,show (tS (fun k=>(turnC (gd p 0) q (gd r 0) k).bool) 0).2 = -1 from rfl,show (((0:Nat):Int))=0 from rfl] at x6
 generalize tS (fun k=>(turnC (gd p 0) q (gd r 0) k).bool) 1001=S6 at *
 rw [x1]
 dsimp only [Out.pay,Out.code,Option.getD_some,Option.isSome_some]
 simp only [gd_cons_zero,gd_cons_succ]
 rw [x4]
 dsimp only [Out.pay,Out.code,Option.getD_some,Option.isSome_some]
 simp only [gd_cons_zero,gd_cons_succ]
 rw [x6]
 dsimp only [Out.pay,Out.code,Option.getD_some,Option.isSome_some]
 simp only [gd_cons_zero,gd_cons_succ,rows_l,ht]
 cases ltI 16 ((chgRg (gd p 0) q (gd r 0)).rows.length:Int) <;> rfl
def s_l10TurnE:Ent:=(186,e3 (sd (.sl 41)) (ag rIRange) rb fun p q r=>(⟨.tup [.c (.d (.sl 41)),.c (.d (.bool))],sub (chgT (gd p 0) q (gd r 0)) 0 2⟩,true))
theorem s_l10Turn_ok:EntOk Tryz.prog s_l10TurnE:=e3_ok fun p q r h=>evFn_sound (N:=1002) (ks:=s_l10TurnK) (key:=bo) s_l10TurnT_ok (enters Tryz.func186) Tryz.func186 fun hw=>by
 rw [s_l10Turn_ev]
 rw [← s_l10Turn_ev 1002 p q r]
 rw [show sub (chgT (gd p 0) q (gd r 0)) 0 2=chgT (gd p 0) q (gd r 0) from rfl]
 cases hz:rangesOk (gd p 0) with
 | false =>
  have hct:chgT (gd p 0) q (gd r 0) = [.l [],.b false]:=by
   unfold chgT chgOk
   rw [hz]
   rfl
  rw [hct,s_l10Turn_ev,hz]
  rfl
 | true =>
 cases ha:rangeOk (sub q 0 2) with
 | false =>
  have hct:chgT (gd p 0) q (gd r 0) = [.l [],.b false]:=by
   unfold chgT chgOk
   rw [hz,ha]
   rfl
  rw [hct,s_l10Turn_ev,hz,ha]
  rfl
 | true=>exact turn_run 1002 (by omega) p q r hz ha
abbrev s_RangesPlusT:FuncId→List T→Option (T × Bool):=find [s_l10TurnE]
theorem s_RangesPlusT_ok:CallOk Tryz.prog s_RangesPlusT:=find_ok (fC ⟨s_l10Turn_ok,fN⟩)
abbrev s_RangesPlusK:List Nat:= [0,1,3,4,5,6,7]
theorem s_RangesPlus_ev (N:Nat) (p q:List D):evFn Tryz.prog s_RangesPlusT N s_RangesPlusK Tryz.f63 (.tup [.c (.d (.sl 41)),.c (.d (.bool))]) [⟨sd (.sl 41),p⟩,⟨ag rIRange,q⟩]=some (bo,
 some (1,sub (chgT (gd p 0) (sub q 0 2) (.b true)) 0 2)):=by kernel_rfl
def s_RangesPlusE:Ent:=(63,e2 (sd (.sl 41)) (ag rIRange) fun p q=>(⟨.tup [.c (.d (.sl 41)),.c (.d (.bool))],sub (chgT (gd p 0) q (.b true)) 0 2⟩,true))
theorem s_RangesPlus_ok:EntOk Tryz.prog s_RangesPlusE:=e2_ok fun p q h=>evFn_sound (N:=0) (ks:=s_RangesPlusK) (key:=bo) s_RangesPlusT_ok (enters Tryz.func63) Tryz.func63 fun hw=>by
 rw [s_RangesPlus_ev]
 rfl
end Go.Proofs.YtpdfmcmnjikppaaGreat
namespace Go.Proofs.YtpdfmcmnjikppaaGreat
set_option maxRecDepth 4096
set_option maxHeartbeats 1000000
abbrev i_touchingT:FuncId→List T→Option (T × Bool):=find [i_LkeysE,i_meetsE,i_isHeldE,i_insertedE]
theorem i_touchingT_ok:CallOk Tryz.prog i_touchingT:=find_ok (fC ⟨i_Lkeys_ok,fC ⟨i_meets_ok,fC ⟨i_isHeld_ok,fC ⟨i_inserted_ok,fN⟩⟩⟩⟩)
abbrev i_touchingK:List Nat:= [0,1,2,3,4,6,7,9,12,13,14,15,29]
noncomputable def i_touchingL0 (N:Nat) (p q r:List D):List D→Out:=loopOf Tryz.prog i_touchingT N i_touchingK Tryz.f77 (.one (.c (.own (0,0) true 3))) [⟨ag rIShard,p⟩,⟨ag rIRange,q⟩,⟨rb,r⟩] 0
theorem i_touchingR0 (N:Nat) (p q r:List D) (x0 x1 x2 x3 x4 x5 x6 x7 x8 x9 x10 x11 x12 x13 x14 x15 x16 x17 x18 x19 x20 x21 x22 x23 x24 x25 x26 x27 x28 x29:D):(i_touchingL0 N p q r) [x0,x1,x2,x3,x4,x5,x6,x7,x8,x9,x10,x11,x12,x13,x14,x15,x16,x17,x18,x19,x20,x21,x22,x23,x24,x25,x26,x27,x28,x29] =
 bif ltI x18.int x17.int then nd (inRange x18.int x16.rows.length) (bif i_meetsF [(gd (x16.rows.getD x18.int.toNat []) 1),(gd (x16.rows.getD x18.int.toNat []) 2)] [x28,x29] then nd (leI (x24.rows.length:Int) 1000000000) (bif (hasInt (txsD x24) (gd (x16.rows.getD x18.int.toNat []) 0).int)==x11.bool then nd (ascB x15&&leI (x15.rows.length:Int) 40000) (nx [x0,x1,x2,x3,x4,x5,x6,x7,x8,x9,x10,x11,x12,x13,x14,putIntD x15 (gd (x16.rows.getD x18.int.toNat []) 0),x16,x17,.i (w64 (x18.int+1)),x19,x20,x21,x22,x23,x24,x25,x26,x27,x28,x29])
 else nx [x0,x1,x2,x3,x4,x5,x6,x7,x8,x9,x10,x11,x12,x13,x14,x15,x16,x17,.i (w64 (x18.int+1)),x19,x20,x21,x22,x23,x24,x25,x26,x27,x28,x29])
 else nx [x0,x1,x2,x3,x4,x5,x6,x7,x8,x9,x10,x11,x12,x13,x14,x15,x16,x17,.i (w64 (x18.int+1)),x19,x20,x21,x22,x23,x24,x25,x26,x27,x28,x29])
 else ex 0 [x0,x1,x2,x3,x4,x5,x6,x7,x8,x9,x10,x11,x12,x13,x14,x15,x16,x17,x18,x19,x20,x21,x22,x23,x24,x25,x26,x27,x28,x29]:=by kernel_rfl
theorem i_touching_ev (N:Nat) (p q r:List D):evFn Tryz.prog i_touchingT N i_touchingK Tryz.f77 (.one (.c (.own (0,0) true 3))) [⟨ag rIShard,p⟩,⟨ag rIRange,q⟩,⟨rb,r⟩]=some (bo,
 (let o0:=iter (i_touchingL0 N p q r) N [gd p 0,gd p 1,gd p 2,gd p 3,gd p 4,gd p 5,gd p 6,gd p 7,gd p 8,gd q 0,gd q 1,gd r 0,.i 0,.i 0,.l [],.l [],gd p 4,.i ((gd p 4).rows.length:Int),.i 0,gd p 0,gd p 1,gd p 2,gd p 3,gd p 4,gd p 5,gd p 6,gd p 7,gd p 8,gd q 0,gd q 1]
  nd o0.isSome (nd (o0.code==2) (some (1,[gd o0.pay 15]))))):=by kernel_rfl
theorem iter_at {L:List D→Out} {N:Nat} {st:List D} {o:Out} (h:iter L N st=o) (st':List D) (e:st'=st):iter L N st'=o:=e▸h
def touchC (p q:List D) (held:Bool) (r:List D):Bool:=i_meetsF [gd r 1,gd r 2] [gd q 0,gd q 1]&&(hasInt (txsD (gd p 5)) (gd r 0).int==held)
def touchD (p q:List D) (h:D):D:=touchS (gd p 4) (touchC p q h.bool) (gd p 4).rows.length
def i_touchingE:Ent:=(77,e3 (ag rIShard) (ag rIRange) rb fun p q r=>(⟨.one (.c (.own (0,0) true 3)),[touchD p q (gd r 0)]⟩,leI ((gd p 4).rows.length:Int) 40000&&leI ((gd p 5).rows.length:Int) 1000000000))
theorem i_touching_ok:EntOk Tryz.prog i_touchingE:=e3_ok fun p q r h=>evFn_sound (N:=(gd p 4).rows.length+1) (ks:=i_touchingK) (key:=bo) i_touchingT_ok (enters Tryz.func77) Tryz.func77 fun hw=>by
 rw [i_touching_ev]
 have h:(leI ((gd p 4).rows.length:Int) 40000&&leI ((gd p 5).rows.length:Int) 1000000000)=true:=h
 simp only [Bool.and_eq_true] at h
 have hl:((gd p 4).rows.length:Int)≤40000:=of_decide_eq_true h.1
 have e:=run_loop (L:=i_touchingL0 ((gd p 4).rows.length+1) p q r) (fun k => [gd p 0,gd p 1,gd p 2,gd p 3,gd p 4,gd p 5,gd p 6,gd p 7,gd p 8,gd q 0,gd q 1,gd r 0,.i 0,.i 0,.l [],touchS (gd p 4) (touchC p q (gd r 0).bool) k,gd p 4,.i ((gd p 4).rows.length:Int),.i (k:Int),gd p 0,gd p 1,gd p 2,gd p 3,gd p 4,gd p 5,gd p 6,gd p 7,gd p 8,gd q 0,gd q 1]) (gd p 4).rows.length 0 (fun k hk=>?_) ?_ (N:=(gd p 4).rows.length+1) (by omega)
 ·simp only [Int.natCast_zero] at e
  rw [show touchS (gd p 4) (touchC p q (gd r 0).bool) 0=.l [] from rfl] at e
  rw [e]
  rfl
 ·show i_touchingL0 _ p q r [_,_,_,_,_,_,_,_,_,_,_,_,_,_,_,_,_,_,.i (k:Int),_,_,_,_,_,_,_,_,_,_,_]=_
  rw [i_touchingR0]
  have hm:=touchS_mem (gd p 4) (touchC p q (gd r 0).bool) k (by omega)
  have hn:=touchS_len (gd p 4) (touchC p q (gd r 0).bool) k
  simp only [int_i,c_lt hk,nd_ix hk,Int.toNat_natCast,w64_succ hk (show (gd p 4).rows.length≤9223372036854775807 by omega),h.2,nd_true,ascB_t hm.1,leI_t (show ((touchS (gd p 4) (touchC p q (gd r 0).bool) k).rows.length:Int)≤40000 by omega),Bool.and_self]
  rw [touchS,touchC]
  cases i_meetsF [gd ((gd p 4).rows.getD k []) 1,gd ((gd p 4).rows.getD k []) 2] [gd q 0,gd q 1] <;> cases hasInt (txsD (gd p 5)) (gd ((gd p 4).rows.getD k []) 0).int==(gd r 0).bool <;> rfl
 ·show i_touchingL0 _ p q r [_,_,_,_,_,_,_,_,_,_,_,_,_,_,_,_,_,_,.i ((gd p 4).rows.length:Int),_,_,_,_,_,_,_,_,_,_,_]=_
  rw [i_touchingR0]
  simp only [int_i,c_nlt]
abbrev s_ShardFreezeT:FuncId→List T→Option (T × Bool):=find [s_l13RankE,s_l13RefusedE,s_l13CopyE,s_RangesHaveE,s_RangesPlusE,s_l12RangeE,s_RangeMeetE,s_l13HeldE,s_l13WoundE,s_StoreScanE]
theorem s_ShardFreezeT_ok:CallOk Tryz.prog s_ShardFreezeT:=find_ok (fC ⟨s_l13Rank_ok,fC ⟨s_l13Refused_ok,fC ⟨s_l13Copy_ok,fC ⟨s_RangesHave_ok,fC ⟨s_RangesPlus_ok,fC ⟨s_l12Range_ok,fC ⟨s_RangeMeet_ok,fC ⟨s_l13Held_ok,fC ⟨s_l13Wound_ok,fC ⟨s_StoreScan_ok,fN⟩⟩⟩⟩⟩⟩⟩⟩⟩⟩)
abbrev s_ShardFreezeK:List Nat:= [0,1,2,3,5,6,7,8,9,10,11,12,13,14,15,16,18,25,37,48,59,75,79,85,3000013,3000021]
noncomputable def s_ShardFreezeL0 (N:Nat) (p q r:List D):List D→Out:=loopOf Tryz.prog s_ShardFreezeT N s_ShardFreezeK Tryz.f10 (.tup [.agg [.d si,.d (.sl 41),.d (.sl 41),.d (.sl 108),.d (.sl 93),.d (.sl 75),.d (.sl 3),.d (.sl 3),.d si],.c (.d (.sl 108)),.c (.d si)]) [⟨ag rIShard,p⟩,⟨ri,q⟩,⟨ag rIRange,r⟩] 0
theorem s_ShardFreezeR0 (N:Nat) (p q r:List D) (x0 x1 x2 x3 x4 x5 x6 x7 x8 x9 x10 x11 x12 x13 x14 x15 x16 x17 x18 x19 x20 x21 x22 x23 x24 x25 x26 x27 x28 x29 x30 x31 x32 x33 x34 x35 x36 x37 x38 x39 x40 x41 x42 x43 x44 x45 x46 x47 x48 x49 x50 x51 x52 x53 x54 x55:D):(s_ShardFreezeL0 N p q r) [x0,x1,x2,x3,x4,x5,x6,x7,x8,x9,x10,x11,x12,x13,x14,x15,x16,x17,x18,x19,x20,x21,x22,x23,x24,x25,x26,x27,x28,x29,x30,x31,x32,x33,x34,x35,x36,x37,x38,x39,x40,x41,x42,x43,x44,x45,x46,x47,x48,x49,x50,x51,x52,x53,x54,x55] =
 bif ltI x26.int (x31.rows.length:Int) then nd (inRange x26.int x31.rows.length) (nd (sameP [[gd (sub (meetR [(gd (x31.rows.getD x26.int.toNat []) 1),(gd (x31.rows.getD x26.int.toNat []) 2)] [x36,x37]) 0 3) 2],[.i 0],[gd (sub (meetR [(gd (x31.rows.getD x26.int.toNat []) 1),(gd (x31.rows.getD x26.int.toNat []) 2)] [x36,x37]) 0 3) 2],[gd (sub (meetR [(gd (x31.rows.getD x26.int.toNat []) 1),(gd (x31.rows.getD x26.int.toNat []) 2)] [x36,x37]) 0 3) 0,gd (sub (meetR [(gd (x31.rows.getD x26.int.toNat []) 1),(gd (x31.rows.getD x26.int.toNat []) 2)] [x36,x37]) 0 3) 1],[gd (sub (meetR [(gd (x31.rows.getD x26.int.toNat []) 1),(gd (x31.rows.getD x26.int.toNat []) 2)] [x36,x37]) 0 3) 0,gd (sub (meetR [(gd (x31.rows.getD x26.int.toNat []) 1),(gd (x31.rows.getD x26.int.toNat []) 2)] [x36,x37]) 0 3) 1,gd (sub (meetR [(gd (x31.rows.getD x26.int.toNat []) 1),(gd (x31.rows.getD x26.int.toNat []) 2)] [x36,x37]) 0 3) 2],[gd (sub (meetR [(gd (x31.rows.getD x26.int.toNat []) 1),(gd (x31.rows.getD x26.int.toNat []) 2)] [x36,x37]) 0 3) 0,gd (sub (meetR [(gd (x31.rows.getD x26.int.toNat []) 1),(gd (x31.rows.getD x26.int.toNat []) 2)] [x36,x37]) 0 3) 1,gd (sub (meetR [(gd (x31.rows.getD x26.int.toNat []) 1),(gd (x31.rows.getD x26.int.toNat []) 2)] [x36,x37]) 0 3) 2],[(gd (x31.rows.getD x26.int.toNat []) 1),(gd (x31.rows.getD x26.int.toNat []) 2)],[x36,x37],[gd (x31.rows.getD x26.int.toNat []) 0,gd (x31.rows.getD x26.int.toNat []) 1,gd (x31.rows.getD x26.int.toNat []) 2,gd (x31.rows.getD x26.int.toNat []) 3],[x0,x1,x2,x3,x4,x5,x6,x7,x8],[x9],[x10,x11],[x12],[x13],[x14],[x15],[x16],[x17],[x18],[x19],[x20],[x21],[x22],[x23],[x24],[x25],[x26],[.b (ltI x26.int (x31.rows.length:Int))],[.i 0],[x27,x28,x29,x30,x31,x32,x33,x34,x35],[x36,x37],[x38,x39,x40,x41,x42,x43,x44,x45,x46],[x47,x48,x49,x50,x51,x52,x53,x54,x55],[gd (x31.rows.getD x26.int.toNat []) 0,gd (x31.rows.getD x26.int.toNat []) 1,gd (x31.rows.getD x26.int.toNat []) 2,gd (x31.rows.getD x26.int.toNat []) 3],[gd (sub (meetR [(gd (x31.rows.getD x26.int.toNat []) 1),(gd (x31.rows.getD x26.int.toNat []) 2)] [x36,x37]) 0 3) 0,gd (sub (meetR [(gd (x31.rows.getD x26.int.toNat []) 1),(gd (x31.rows.getD x26.int.toNat []) 2)] [x36,x37]) 0 3) 1]] [[gd (sub (meetR [(gd (x31.rows.getD x26.int.toNat []) 1),(gd (x31.rows.getD x26.int.toNat []) 2)] [x36,x37]) 0 3) 2],[.i 0],[gd (sub (meetR [(gd (x31.rows.getD x26.int.toNat []) 1),(gd (x31.rows.getD x26.int.toNat []) 2)] [x36,x37]) 0 3) 2],[gd (sub (meetR [(gd (x31.rows.getD x26.int.toNat []) 1),(gd (x31.rows.getD x26.int.toNat []) 2)] [x36,x37]) 0 3) 0,gd (sub (meetR [(gd (x31.rows.getD x26.int.toNat []) 1),(gd (x31.rows.getD x26.int.toNat []) 2)] [x36,x37]) 0 3) 1],[gd (sub (meetR [(gd (x31.rows.getD x26.int.toNat []) 1),(gd (x31.rows.getD x26.int.toNat []) 2)] [x36,x37]) 0 3) 0,gd (sub (meetR [(gd (x31.rows.getD x26.int.toNat []) 1),(gd (x31.rows.getD x26.int.toNat []) 2)] [x36,x37]) 0 3) 1,gd (sub (meetR [(gd (x31.rows.getD x26.int.toNat []) 1),(gd (x31.rows.getD x26.int.toNat []) 2)] [x36,x37]) 0 3) 2],[gd (sub (meetR [(gd (x31.rows.getD x26.int.toNat []) 1),(gd (x31.rows.getD x26.int.toNat []) 2)] [x36,x37]) 0 3) 0,gd (sub (meetR [(gd (x31.rows.getD x26.int.toNat []) 1),(gd (x31.rows.getD x26.int.toNat []) 2)] [x36,x37]) 0 3) 1,gd (sub (meetR [(gd (x31.rows.getD x26.int.toNat []) 1),(gd (x31.rows.getD x26.int.toNat []) 2)] [x36,x37]) 0 3) 2],[(gd (x31.rows.getD x26.int.toNat []) 1),(gd (x31.rows.getD x26.int.toNat []) 2)],[x36,x37],[gd (x31.rows.getD x26.int.toNat []) 0,gd (x31.rows.getD x26.int.toNat []) 1,gd (x31.rows.getD x26.int.toNat []) 2,gd (x31.rows.getD x26.int.toNat []) 3],[x0,x1,x2,x3,x4,x5,x6,x7,x8],[x9],[x10,x11],[x12],[x13],[x14],[x15],[x16],[x17],[x18],[x19],[x20],[x21],[x22],[x23],[x24],[x25],[x26],[.b (ltI x26.int (x31.rows.length:Int))],[.i 0],[x27,x28,x29,x30,x31,x32,x33,x34,x35],[x36,x37],[x38,x39,x40,x41,x42,x43,x44,x45,x46],[x47,x48,x49,x50,x51,x52,x53,x54,x55],[gd (x31.rows.getD x26.int.toNat []) 0,gd (x31.rows.getD x26.int.toNat []) 1,gd (x31.rows.getD x26.int.toNat []) 2,gd (x31.rows.getD x26.int.toNat []) 3],[gd (sub (meetR [(gd (x31.rows.getD x26.int.toNat []) 1),(gd (x31.rows.getD x26.int.toNat []) 2)] [x36,x37]) 0 3) 0,gd (sub (meetR [(gd (x31.rows.getD x26.int.toNat []) 1),(gd (x31.rows.getD x26.int.toNat []) 2)] [x36,x37]) 0 3) 1]]) (nd (sameP [[gd (sub (meetR [(gd (x31.rows.getD x26.int.toNat []) 1),(gd (x31.rows.getD x26.int.toNat []) 2)] [x36,x37]) 0 3) 2],[.i 0],[gd (sub (meetR [(gd (x31.rows.getD x26.int.toNat []) 1),(gd (x31.rows.getD x26.int.toNat []) 2)] [x36,x37]) 0 3) 2],[gd (sub (meetR [(gd (x31.rows.getD x26.int.toNat []) 1),(gd (x31.rows.getD x26.int.toNat []) 2)] [x36,x37]) 0 3) 0,gd (sub (meetR [(gd (x31.rows.getD x26.int.toNat []) 1),(gd (x31.rows.getD x26.int.toNat []) 2)] [x36,x37]) 0 3) 1],[gd (sub (meetR [(gd (x31.rows.getD x26.int.toNat []) 1),(gd (x31.rows.getD x26.int.toNat []) 2)] [x36,x37]) 0 3) 0,gd (sub (meetR [(gd (x31.rows.getD x26.int.toNat []) 1),(gd (x31.rows.getD x26.int.toNat []) 2)] [x36,x37]) 0 3) 1,gd (sub (meetR [(gd (x31.rows.getD x26.int.toNat []) 1),(gd (x31.rows.getD x26.int.toNat []) 2)] [x36,x37]) 0 3) 2],[gd (sub (meetR [(gd (x31.rows.getD x26.int.toNat []) 1),(gd (x31.rows.getD x26.int.toNat []) 2)] [x36,x37]) 0 3) 0,gd (sub (meetR [(gd (x31.rows.getD x26.int.toNat []) 1),(gd (x31.rows.getD x26.int.toNat []) 2)] [x36,x37]) 0 3) 1,gd (sub (meetR [(gd (x31.rows.getD x26.int.toNat []) 1),(gd (x31.rows.getD x26.int.toNat []) 2)] [x36,x37]) 0 3) 2],[(gd (x31.rows.getD x26.int.toNat []) 1),(gd (x31.rows.getD x26.int.toNat []) 2)],[x36,x37],[gd (x31.rows.getD x26.int.toNat []) 0,gd (x31.rows.getD x26.int.toNat []) 1,gd (x31.rows.getD x26.int.toNat []) 2,gd (x31.rows.getD x26.int.toNat []) 3],[x0,x1,x2,x3,x4,x5,x6,x7,x8],[x9],[x10,x11],[x12],[x13],[x14],[x15],[x16],[x17],[x18],[x19],[x20],[x21],[x22],[x23],[x24],[x25],[x26],[.b (ltI x26.int (x31.rows.length:Int))],[.i 0],[x27,x28,x29,x30,x31,x32,x33,x34,x35],[x36,x37],[x38,x39,x40,x41,x42,x43,x44,x45,x46],[x47,x48,x49,x50,x51,x52,x53,x54,x55],[gd (x31.rows.getD x26.int.toNat []) 0,gd (x31.rows.getD x26.int.toNat []) 1,gd (x31.rows.getD x26.int.toNat []) 2,gd (x31.rows.getD x26.int.toNat []) 3],[gd (sub (meetR [(gd (x31.rows.getD x26.int.toNat []) 1),(gd (x31.rows.getD x26.int.toNat []) 2)] [x36,x37]) 0 3) 0,gd (sub (meetR [(gd (x31.rows.getD x26.int.toNat []) 1),(gd (x31.rows.getD x26.int.toNat []) 2)] [x36,x37]) 0 3) 1]] [[gd (sub (meetR [(gd (x31.rows.getD x26.int.toNat []) 1),(gd (x31.rows.getD x26.int.toNat []) 2)] [x36,x37]) 0 3) 2],[.i 0],[gd (sub (meetR [(gd (x31.rows.getD x26.int.toNat []) 1),(gd (x31.rows.getD x26.int.toNat []) 2)] [x36,x37]) 0 3) 2],[gd (sub (meetR [(gd (x31.rows.getD x26.int.toNat []) 1),(gd (x31.rows.getD x26.int.toNat []) 2)] [x36,x37]) 0 3) 0,gd (sub (meetR [(gd (x31.rows.getD x26.int.toNat []) 1),(gd (x31.rows.getD x26.int.toNat []) 2)] [x36,x37]) 0 3) 1],[gd (sub (meetR [(gd (x31.rows.getD x26.int.toNat []) 1),(gd (x31.rows.getD x26.int.toNat []) 2)] [x36,x37]) 0 3) 0,gd (sub (meetR [(gd (x31.rows.getD x26.int.toNat []) 1),(gd (x31.rows.getD x26.int.toNat []) 2)] [x36,x37]) 0 3) 1,gd (sub (meetR [(gd (x31.rows.getD x26.int.toNat []) 1),(gd (x31.rows.getD x26.int.toNat []) 2)] [x36,x37]) 0 3) 2],[gd (sub (meetR [(gd (x31.rows.getD x26.int.toNat []) 1),(gd (x31.rows.getD x26.int.toNat []) 2)] [x36,x37]) 0 3) 0,gd (sub (meetR [(gd (x31.rows.getD x26.int.toNat []) 1),(gd (x31.rows.getD x26.int.toNat []) 2)] [x36,x37]) 0 3) 1,gd (sub (meetR [(gd (x31.rows.getD x26.int.toNat []) 1),(gd (x31.rows.getD x26.int.toNat []) 2)] [x36,x37]) 0 3) 2],[(gd (x31.rows.getD x26.int.toNat []) 1),(gd (x31.rows.getD x26.int.toNat []) 2)],[x36,x37],[gd (x31.rows.getD x26.int.toNat []) 0,gd (x31.rows.getD x26.int.toNat []) 1,gd (x31.rows.getD x26.int.toNat []) 2,gd (x31.rows.getD x26.int.toNat []) 3],[x0,x1,x2,x3,x4,x5,x6,x7,x8],[x9],[x10,x11],[x12],[x13],[x14],[x15],[x16],[x17],[x18],[x19],[x20],[x21],[x22],[x23],[x24],[x25],[x26],[.b (ltI x26.int (x31.rows.length:Int))],[.i 0],[x27,x28,x29,x30,x31,x32,x33,x34,x35],[x36,x37],[x38,x39,x40,x41,x42,x43,x44,x45,x46],[x47,x48,x49,x50,x51,x52,x53,x54,x55],[gd (x31.rows.getD x26.int.toNat []) 0,gd (x31.rows.getD x26.int.toNat []) 1,gd (x31.rows.getD x26.int.toNat []) 2,gd (x31.rows.getD x26.int.toNat []) 3],[gd (sub (meetR [(gd (x31.rows.getD x26.int.toNat []) 1),(gd (x31.rows.getD x26.int.toNat []) 2)] [x36,x37]) 0 3) 0,gd (sub (meetR [(gd (x31.rows.getD x26.int.toNat []) 1),(gd (x31.rows.getD x26.int.toNat []) 2)] [x36,x37]) 0 3) 1]]) (nd (sameP [[gd (sub (meetR [(gd (x31.rows.getD x26.int.toNat []) 1),(gd (x31.rows.getD x26.int.toNat []) 2)] [x36,x37]) 0 3) 2],[.i 0],[gd (sub (meetR [(gd (x31.rows.getD x26.int.toNat []) 1),(gd (x31.rows.getD x26.int.toNat []) 2)] [x36,x37]) 0 3) 2],[gd (sub (meetR [(gd (x31.rows.getD x26.int.toNat []) 1),(gd (x31.rows.getD x26.int.toNat []) 2)] [x36,x37]) 0 3) 0,gd (sub (meetR [(gd (x31.rows.getD x26.int.toNat []) 1),(gd (x31.rows.getD x26.int.toNat []) 2)] [x36,x37]) 0 3) 1],[gd (sub (meetR [(gd (x31.rows.getD x26.int.toNat []) 1),(gd (x31.rows.getD x26.int.toNat []) 2)] [x36,x37]) 0 3) 0,gd (sub (meetR [(gd (x31.rows.getD x26.int.toNat []) 1),(gd (x31.rows.getD x26.int.toNat []) 2)] [x36,x37]) 0 3) 1,gd (sub (meetR [(gd (x31.rows.getD x26.int.toNat []) 1),(gd (x31.rows.getD x26.int.toNat []) 2)] [x36,x37]) 0 3) 2],[gd (sub (meetR [(gd (x31.rows.getD x26.int.toNat []) 1),(gd (x31.rows.getD x26.int.toNat []) 2)] [x36,x37]) 0 3) 0,gd (sub (meetR [(gd (x31.rows.getD x26.int.toNat []) 1),(gd (x31.rows.getD x26.int.toNat []) 2)] [x36,x37]) 0 3) 1,gd (sub (meetR [(gd (x31.rows.getD x26.int.toNat []) 1),(gd (x31.rows.getD x26.int.toNat []) 2)] [x36,x37]) 0 3) 2],[(gd (x31.rows.getD x26.int.toNat []) 1),(gd (x31.rows.getD x26.int.toNat []) 2)],[x36,x37],[gd (x31.rows.getD x26.int.toNat []) 0,gd (x31.rows.getD x26.int.toNat []) 1,gd (x31.rows.getD x26.int.toNat []) 2,gd (x31.rows.getD x26.int.toNat []) 3],[x0,x1,x2,x3,x4,x5,x6,x7,x8],[x9],[x10,x11],[x12],[x13],[x14],[x15],[x16],[x17],[x18],[x19],[x20],[x21],[x22],[x23],[x24],[x25],[x26],[.b (ltI x26.int (x31.rows.length:Int))],[.i 0],[x27,x28,x29,x30,x31,x32,x33,x34,x35],[x36,x37],[x38,x39,x40,x41,x42,x43,x44,x45,x46],[x47,x48,x49,x50,x51,x52,x53,x54,x55],[gd (x31.rows.getD x26.int.toNat []) 0,gd (x31.rows.getD x26.int.toNat []) 1,gd (x31.rows.getD x26.int.toNat []) 2,gd (x31.rows.getD x26.int.toNat []) 3],[gd (sub (meetR [(gd (x31.rows.getD x26.int.toNat []) 1),(gd (x31.rows.getD x26.int.toNat []) 2)] [x36,x37]) 0 3) 0,gd (sub (meetR [(gd (x31.rows.getD x26.int.toNat []) 1),(gd (x31.rows.getD x26.int.toNat []) 2)] [x36,x37]) 0 3) 1]] [[gd (sub (meetR [(gd (x31.rows.getD x26.int.toNat []) 1),(gd (x31.rows.getD x26.int.toNat []) 2)] [x36,x37]) 0 3) 2],[.i 0],[gd (sub (meetR [(gd (x31.rows.getD x26.int.toNat []) 1),(gd (x31.rows.getD x26.int.toNat []) 2)] [x36,x37]) 0 3) 2],[gd (sub (meetR [(gd (x31.rows.getD x26.int.toNat []) 1),(gd (x31.rows.getD x26.int.toNat []) 2)] [x36,x37]) 0 3) 0,gd (sub (meetR [(gd (x31.rows.getD x26.int.toNat []) 1),(gd (x31.rows.getD x26.int.toNat []) 2)] [x36,x37]) 0 3) 1],[gd (sub (meetR [(gd (x31.rows.getD x26.int.toNat []) 1),(gd (x31.rows.getD x26.int.toNat []) 2)] [x36,x37]) 0 3) 0,gd (sub (meetR [(gd (x31.rows.getD x26.int.toNat []) 1),(gd (x31.rows.getD x26.int.toNat []) 2)] [x36,x37]) 0 3) 1,gd (sub (meetR [(gd (x31.rows.getD x26.int.toNat []) 1),(gd (x31.rows.getD x26.int.toNat []) 2)] [x36,x37]) 0 3) 2],[gd (sub (meetR [(gd (x31.rows.getD x26.int.toNat []) 1),(gd (x31.rows.getD x26.int.toNat []) 2)] [x36,x37]) 0 3) 0,gd (sub (meetR [(gd (x31.rows.getD x26.int.toNat []) 1),(gd (x31.rows.getD x26.int.toNat []) 2)] [x36,x37]) 0 3) 1,gd (sub (meetR [(gd (x31.rows.getD x26.int.toNat []) 1),(gd (x31.rows.getD x26.int.toNat []) 2)] [x36,x37]) 0 3) 2],[(gd (x31.rows.getD x26.int.toNat []) 1),(gd (x31.rows.getD x26.int.toNat []) 2)],[x36,x37],[gd (x31.rows.getD x26.int.toNat []) 0,gd (x31.rows.getD x26.int.toNat []) 1,gd (x31.rows.getD x26.int.toNat []) 2,gd (x31.rows.getD x26.int.toNat []) 3],[x0,x1,x2,x3,x4,x5,x6,x7,x8],[x9],[x10,x11],[x12],[x13],[x14],[x15],[x16],[x17],[x18],[x19],[x20],[x21],[x22],[x23],[x24],[x25],[x26],[.b (ltI x26.int (x31.rows.length:Int))],[.i 0],[x27,x28,x29,x30,x31,x32,x33,x34,x35],[x36,x37],[x38,x39,x40,x41,x42,x43,x44,x45,x46],[x47,x48,x49,x50,x51,x52,x53,x54,x55],[gd (x31.rows.getD x26.int.toNat []) 0,gd (x31.rows.getD x26.int.toNat []) 1,gd (x31.rows.getD x26.int.toNat []) 2,gd (x31.rows.getD x26.int.toNat []) 3],[gd (sub (meetR [(gd (x31.rows.getD x26.int.toNat []) 1),(gd (x31.rows.getD x26.int.toNat []) 2)] [x36,x37]) 0 3) 0,gd (sub (meetR [(gd (x31.rows.getD x26.int.toNat []) 1),(gd (x31.rows.getD x26.int.toNat []) 2)] [x36,x37]) 0 3) 1]]) (nd (sameP [[gd (sub (meetR [(gd (x31.rows.getD x26.int.toNat []) 1),(gd (x31.rows.getD x26.int.toNat []) 2)] [x36,x37]) 0 3) 2],[.i 0],[gd (sub (meetR [(gd (x31.rows.getD x26.int.toNat []) 1),(gd (x31.rows.getD x26.int.toNat []) 2)] [x36,x37]) 0 3) 2],[gd (sub (meetR [(gd (x31.rows.getD x26.int.toNat []) 1),(gd (x31.rows.getD x26.int.toNat []) 2)] [x36,x37]) 0 3) 0,gd (sub (meetR [(gd (x31.rows.getD x26.int.toNat []) 1),(gd (x31.rows.getD x26.int.toNat []) 2)] [x36,x37]) 0 3) 1],[gd (sub (meetR [(gd (x31.rows.getD x26.int.toNat []) 1),(gd (x31.rows.getD x26.int.toNat []) 2)] [x36,x37]) 0 3) 0,gd (sub (meetR [(gd (x31.rows.getD x26.int.toNat []) 1),(gd (x31.rows.getD x26.int.toNat []) 2)] [x36,x37]) 0 3) 1,gd (sub (meetR [(gd (x31.rows.getD x26.int.toNat []) 1),(gd (x31.rows.getD x26.int.toNat []) 2)] [x36,x37]) 0 3) 2],[gd (sub (meetR [(gd (x31.rows.getD x26.int.toNat []) 1),(gd (x31.rows.getD x26.int.toNat []) 2)] [x36,x37]) 0 3) 0,gd (sub (meetR [(gd (x31.rows.getD x26.int.toNat []) 1),(gd (x31.rows.getD x26.int.toNat []) 2)] [x36,x37]) 0 3) 1,gd (sub (meetR [(gd (x31.rows.getD x26.int.toNat []) 1),(gd (x31.rows.getD x26.int.toNat []) 2)] [x36,x37]) 0 3) 2],[(gd (x31.rows.getD x26.int.toNat []) 1),(gd (x31.rows.getD x26.int.toNat []) 2)],[x36,x37],[gd (x31.rows.getD x26.int.toNat []) 0,gd (x31.rows.getD x26.int.toNat []) 1,gd (x31.rows.getD x26.int.toNat []) 2,gd (x31.rows.getD x26.int.toNat []) 3],[x0,x1,x2,x3,x4,x5,x6,x7,x8],[x9],[x10,x11],[x12],[x13],[x14],[x15],[x16],[x17],[x18],[x19],[x20],[x21],[x22],[x23],[x24],[x25],[x26],[.b (ltI x26.int (x31.rows.length:Int))],[.i 0],[x27,x28,x29,x30,x31,x32,x33,x34,x35],[x36,x37],[x38,x39,x40,x41,x42,x43,x44,x45,x46],[x47,x48,x49,x50,x51,x52,x53,x54,x55],[gd (x31.rows.getD x26.int.toNat []) 0,gd (x31.rows.getD x26.int.toNat []) 1,gd (x31.rows.getD x26.int.toNat []) 2,gd (x31.rows.getD x26.int.toNat []) 3],[gd (sub (meetR [(gd (x31.rows.getD x26.int.toNat []) 1),(gd (x31.rows.getD x26.int.toNat []) 2)] [x36,x37]) 0 3) 0,gd (sub (meetR [(gd (x31.rows.getD x26.int.toNat []) 1),(gd (x31.rows.getD x26.int.toNat []) 2)] [x36,x37]) 0 3) 1]] [[gd (sub (meetR [(gd (x31.rows.getD x26.int.toNat []) 1),(gd (x31.rows.getD x26.int.toNat []) 2)] [x36,x37]) 0 3) 2],[.i 0],[gd (sub (meetR [(gd (x31.rows.getD x26.int.toNat []) 1),(gd (x31.rows.getD x26.int.toNat []) 2)] [x36,x37]) 0 3) 2],[gd (sub (meetR [(gd (x31.rows.getD x26.int.toNat []) 1),(gd (x31.rows.getD x26.int.toNat []) 2)] [x36,x37]) 0 3) 0,gd (sub (meetR [(gd (x31.rows.getD x26.int.toNat []) 1),(gd (x31.rows.getD x26.int.toNat []) 2)] [x36,x37]) 0 3) 1],[gd (sub (meetR [(gd (x31.rows.getD x26.int.toNat []) 1),(gd (x31.rows.getD x26.int.toNat []) 2)] [x36,x37]) 0 3) 0,gd (sub (meetR [(gd (x31.rows.getD x26.int.toNat []) 1),(gd (x31.rows.getD x26.int.toNat []) 2)] [x36,x37]) 0 3) 1,gd (sub (meetR [(gd (x31.rows.getD x26.int.toNat []) 1),(gd (x31.rows.getD x26.int.toNat []) 2)] [x36,x37]) 0 3) 2],[gd (sub (meetR [(gd (x31.rows.getD x26.int.toNat []) 1),(gd (x31.rows.getD x26.int.toNat []) 2)] [x36,x37]) 0 3) 0,gd (sub (meetR [(gd (x31.rows.getD x26.int.toNat []) 1),(gd (x31.rows.getD x26.int.toNat []) 2)] [x36,x37]) 0 3) 1,gd (sub (meetR [(gd (x31.rows.getD x26.int.toNat []) 1),(gd (x31.rows.getD x26.int.toNat []) 2)] [x36,x37]) 0 3) 2],[(gd (x31.rows.getD x26.int.toNat []) 1),(gd (x31.rows.getD x26.int.toNat []) 2)],[x36,x37],[gd (x31.rows.getD x26.int.toNat []) 0,gd (x31.rows.getD x26.int.toNat []) 1,gd (x31.rows.getD x26.int.toNat []) 2,gd (x31.rows.getD x26.int.toNat []) 3],[x0,x1,x2,x3,x4,x5,x6,x7,x8],[x9],[x10,x11],[x12],[x13],[x14],[x15],[x16],[x17],[x18],[x19],[x20],[x21],[x22],[x23],[x24],[x25],[x26],[.b (ltI x26.int (x31.rows.length:Int))],[.i 0],[x27,x28,x29,x30,x31,x32,x33,x34,x35],[x36,x37],[x38,x39,x40,x41,x42,x43,x44,x45,x46],[x47,x48,x49,x50,x51,x52,x53,x54,x55],[gd (x31.rows.getD x26.int.toNat []) 0,gd (x31.rows.getD x26.int.toNat []) 1,gd (x31.rows.getD x26.int.toNat []) 2,gd (x31.rows.getD x26.int.toNat []) 3],[gd (sub (meetR [(gd (x31.rows.getD x26.int.toNat []) 1),(gd (x31.rows.getD x26.int.toNat []) 2)] [x36,x37]) 0 3) 0,gd (sub (meetR [(gd (x31.rows.getD x26.int.toNat []) 1),(gd (x31.rows.getD x26.int.toNat []) 2)] [x36,x37]) 0 3) 1]]) (nd (sameP [[gd (sub (meetR [(gd (x31.rows.getD x26.int.toNat []) 1),(gd (x31.rows.getD x26.int.toNat []) 2)] [x36,x37]) 0 3) 2],[.i 0],[gd (sub (meetR [(gd (x31.rows.getD x26.int.toNat []) 1),(gd (x31.rows.getD x26.int.toNat []) 2)] [x36,x37]) 0 3) 2],[gd (sub (meetR [(gd (x31.rows.getD x26.int.toNat []) 1),(gd (x31.rows.getD x26.int.toNat []) 2)] [x36,x37]) 0 3) 0,gd (sub (meetR [(gd (x31.rows.getD x26.int.toNat []) 1),(gd (x31.rows.getD x26.int.toNat []) 2)] [x36,x37]) 0 3) 1],[gd (sub (meetR [(gd (x31.rows.getD x26.int.toNat []) 1),(gd (x31.rows.getD x26.int.toNat []) 2)] [x36,x37]) 0 3) 0,gd (sub (meetR [(gd (x31.rows.getD x26.int.toNat []) 1),(gd (x31.rows.getD x26.int.toNat []) 2)] [x36,x37]) 0 3) 1,gd (sub (meetR [(gd (x31.rows.getD x26.int.toNat []) 1),(gd (x31.rows.getD x26.int.toNat []) 2)] [x36,x37]) 0 3) 2],[gd (sub (meetR [(gd (x31.rows.getD x26.int.toNat []) 1),(gd (x31.rows.getD x26.int.toNat []) 2)] [x36,x37]) 0 3) 0,gd (sub (meetR [(gd (x31.rows.getD x26.int.toNat []) 1),(gd (x31.rows.getD x26.int.toNat []) 2)] [x36,x37]) 0 3) 1,gd (sub (meetR [(gd (x31.rows.getD x26.int.toNat []) 1),(gd (x31.rows.getD x26.int.toNat []) 2)] [x36,x37]) 0 3) 2],[(gd (x31.rows.getD x26.int.toNat []) 1),(gd (x31.rows.getD x26.int.toNat []) 2)],[x36,x37],[gd (x31.rows.getD x26.int.toNat []) 0,gd (x31.rows.getD x26.int.toNat []) 1,gd (x31.rows.getD x26.int.toNat []) 2,gd (x31.rows.getD x26.int.toNat []) 3],[x0,x1,x2,x3,x4,x5,x6,x7,x8],[x9],[x10,x11],[x12],[x13],[x14],[x15],[x16],[x17],[x18],[x19],[x20],[x21],[x22],[x23],[x24],[x25],[x26],[.b (ltI x26.int (x31.rows.length:Int))],[.i 0],[x27,x28,x29,x30,x31,x32,x33,x34,x35],[x36,x37],[x38,x39,x40,x41,x42,x43,x44,x45,x46],[x47,x48,x49,x50,x51,x52,x53,x54,x55],[gd (x31.rows.getD x26.int.toNat []) 0,gd (x31.rows.getD x26.int.toNat []) 1,gd (x31.rows.getD x26.int.toNat []) 2,gd (x31.rows.getD x26.int.toNat []) 3],[gd (sub (meetR [(gd (x31.rows.getD x26.int.toNat []) 1),(gd (x31.rows.getD x26.int.toNat []) 2)] [x36,x37]) 0 3) 0,gd (sub (meetR [(gd (x31.rows.getD x26.int.toNat []) 1),(gd (x31.rows.getD x26.int.toNat []) 2)] [x36,x37]) 0 3) 1]] [[gd (sub (meetR [(gd (x31.rows.getD x26.int.toNat []) 1),(gd (x31.rows.getD x26.int.toNat []) 2)] [x36,x37]) 0 3) 2],[.i 0],[gd (sub (meetR [(gd (x31.rows.getD x26.int.toNat []) 1),(gd (x31.rows.getD x26.int.toNat []) 2)] [x36,x37]) 0 3) 2],[gd (sub (meetR [(gd (x31.rows.getD x26.int.toNat []) 1),(gd (x31.rows.getD x26.int.toNat []) 2)] [x36,x37]) 0 3) 0,gd (sub (meetR [(gd (x31.rows.getD x26.int.toNat []) 1),(gd (x31.rows.getD x26.int.toNat []) 2)] [x36,x37]) 0 3) 1],[gd (sub (meetR [(gd (x31.rows.getD x26.int.toNat []) 1),(gd (x31.rows.getD x26.int.toNat []) 2)] [x36,x37]) 0 3) 0,gd (sub (meetR [(gd (x31.rows.getD x26.int.toNat []) 1),(gd (x31.rows.getD x26.int.toNat []) 2)] [x36,x37]) 0 3) 1,gd (sub (meetR [(gd (x31.rows.getD x26.int.toNat []) 1),(gd (x31.rows.getD x26.int.toNat []) 2)] [x36,x37]) 0 3) 2],[gd (sub (meetR [(gd (x31.rows.getD x26.int.toNat []) 1),(gd (x31.rows.getD x26.int.toNat []) 2)] [x36,x37]) 0 3) 0,gd (sub (meetR [(gd (x31.rows.getD x26.int.toNat []) 1),(gd (x31.rows.getD x26.int.toNat []) 2)] [x36,x37]) 0 3) 1,gd (sub (meetR [(gd (x31.rows.getD x26.int.toNat []) 1),(gd (x31.rows.getD x26.int.toNat []) 2)] [x36,x37]) 0 3) 2],[(gd (x31.rows.getD x26.int.toNat []) 1),(gd (x31.rows.getD x26.int.toNat []) 2)],[x36,x37],[gd (x31.rows.getD x26.int.toNat []) 0,gd (x31.rows.getD x26.int.toNat []) 1,gd (x31.rows.getD x26.int.toNat []) 2,gd (x31.rows.getD x26.int.toNat []) 3],[x0,x1,x2,x3,x4,x5,x6,x7,x8],[x9],[x10,x11],[x12],[x13],[x14],[x15],[x16],[x17],[x18],[x19],[x20],[x21],[x22],[x23],[x24],[x25],[x26],[.b (ltI x26.int (x31.rows.length:Int))],[.i 0],[x27,x28,x29,x30,x31,x32,x33,x34,x35],[x36,x37],[x38,x39,x40,x41,x42,x43,x44,x45,x46],[x47,x48,x49,x50,x51,x52,x53,x54,x55],[gd (x31.rows.getD x26.int.toNat []) 0,gd (x31.rows.getD x26.int.toNat []) 1,gd (x31.rows.getD x26.int.toNat []) 2,gd (x31.rows.getD x26.int.toNat []) 3],[gd (sub (meetR [(gd (x31.rows.getD x26.int.toNat []) 1),(gd (x31.rows.getD x26.int.toNat []) 2)] [x36,x37]) 0 3) 0,gd (sub (meetR [(gd (x31.rows.getD x26.int.toNat []) 1),(gd (x31.rows.getD x26.int.toNat []) 2)] [x36,x37]) 0 3) 1]]) (nd (sameP [[gd (sub (meetR [(gd (x31.rows.getD x26.int.toNat []) 1),(gd (x31.rows.getD x26.int.toNat []) 2)] [x36,x37]) 0 3) 2],[.i 0],[gd (sub (meetR [(gd (x31.rows.getD x26.int.toNat []) 1),(gd (x31.rows.getD x26.int.toNat []) 2)] [x36,x37]) 0 3) 2],[gd (sub (meetR [(gd (x31.rows.getD x26.int.toNat []) 1),(gd (x31.rows.getD x26.int.toNat []) 2)] [x36,x37]) 0 3) 0,gd (sub (meetR [(gd (x31.rows.getD x26.int.toNat []) 1),(gd (x31.rows.getD x26.int.toNat []) 2)] [x36,x37]) 0 3) 1],[gd (sub (meetR [(gd (x31.rows.getD x26.int.toNat []) 1),(gd (x31.rows.getD x26.int.toNat []) 2)] [x36,x37]) 0 3) 0,gd (sub (meetR [(gd (x31.rows.getD x26.int.toNat []) 1),(gd (x31.rows.getD x26.int.toNat []) 2)] [x36,x37]) 0 3) 1,gd (sub (meetR [(gd (x31.rows.getD x26.int.toNat []) 1),(gd (x31.rows.getD x26.int.toNat []) 2)] [x36,x37]) 0 3) 2],[gd (sub (meetR [(gd (x31.rows.getD x26.int.toNat []) 1),(gd (x31.rows.getD x26.int.toNat []) 2)] [x36,x37]) 0 3) 0,gd (sub (meetR [(gd (x31.rows.getD x26.int.toNat []) 1),(gd (x31.rows.getD x26.int.toNat []) 2)] [x36,x37]) 0 3) 1,gd (sub (meetR [(gd (x31.rows.getD x26.int.toNat []) 1),(gd (x31.rows.getD x26.int.toNat []) 2)] [x36,x37]) 0 3) 2],[(gd (x31.rows.getD x26.int.toNat []) 1),(gd (x31.rows.getD x26.int.toNat []) 2)],[x36,x37],[gd (x31.rows.getD x26.int.toNat []) 0,gd (x31.rows.getD x26.int.toNat []) 1,gd (x31.rows.getD x26.int.toNat []) 2,gd (x31.rows.getD x26.int.toNat []) 3],[x0,x1,x2,x3,x4,x5,x6,x7,x8],[x9],[x10,x11],[x12],[x13],[x14],[x15],[x16],[x17],[x18],[x19],[x20],[x21],[x22],[x23],[x24],[x25],[x26],[.b (ltI x26.int (x31.rows.length:Int))],[.i 0],[x27,x28,x29,x30,x31,x32,x33,x34,x35],[x36,x37],[x38,x39,x40,x41,x42,x43,x44,x45,x46],[x47,x48,x49,x50,x51,x52,x53,x54,x55],[gd (x31.rows.getD x26.int.toNat []) 0,gd (x31.rows.getD x26.int.toNat []) 1,gd (x31.rows.getD x26.int.toNat []) 2,gd (x31.rows.getD x26.int.toNat []) 3],[gd (sub (meetR [(gd (x31.rows.getD x26.int.toNat []) 1),(gd (x31.rows.getD x26.int.toNat []) 2)] [x36,x37]) 0 3) 0,gd (sub (meetR [(gd (x31.rows.getD x26.int.toNat []) 1),(gd (x31.rows.getD x26.int.toNat []) 2)] [x36,x37]) 0 3) 1]] [[gd (sub (meetR [(gd (x31.rows.getD x26.int.toNat []) 1),(gd (x31.rows.getD x26.int.toNat []) 2)] [x36,x37]) 0 3) 2],[.i 0],[gd (sub (meetR [(gd (x31.rows.getD x26.int.toNat []) 1),(gd (x31.rows.getD x26.int.toNat []) 2)] [x36,x37]) 0 3) 2],[gd (sub (meetR [(gd (x31.rows.getD x26.int.toNat []) 1),(gd (x31.rows.getD x26.int.toNat []) 2)] [x36,x37]) 0 3) 0,gd (sub (meetR [(gd (x31.rows.getD x26.int.toNat []) 1),(gd (x31.rows.getD x26.int.toNat []) 2)] [x36,x37]) 0 3) 1],[gd (sub (meetR [(gd (x31.rows.getD x26.int.toNat []) 1),(gd (x31.rows.getD x26.int.toNat []) 2)] [x36,x37]) 0 3) 0,gd (sub (meetR [(gd (x31.rows.getD x26.int.toNat []) 1),(gd (x31.rows.getD x26.int.toNat []) 2)] [x36,x37]) 0 3) 1,gd (sub (meetR [(gd (x31.rows.getD x26.int.toNat []) 1),(gd (x31.rows.getD x26.int.toNat []) 2)] [x36,x37]) 0 3) 2],[gd (sub (meetR [(gd (x31.rows.getD x26.int.toNat []) 1),(gd (x31.rows.getD x26.int.toNat []) 2)] [x36,x37]) 0 3) 0,gd (sub (meetR [(gd (x31.rows.getD x26.int.toNat []) 1),(gd (x31.rows.getD x26.int.toNat []) 2)] [x36,x37]) 0 3) 1,gd (sub (meetR [(gd (x31.rows.getD x26.int.toNat []) 1),(gd (x31.rows.getD x26.int.toNat []) 2)] [x36,x37]) 0 3) 2],[(gd (x31.rows.getD x26.int.toNat []) 1),(gd (x31.rows.getD x26.int.toNat []) 2)],[x36,x37],[gd (x31.rows.getD x26.int.toNat []) 0,gd (x31.rows.getD x26.int.toNat []) 1,gd (x31.rows.getD x26.int.toNat []) 2,gd (x31.rows.getD x26.int.toNat []) 3],[x0,x1,x2,x3,x4,x5,x6,x7,x8],[x9],[x10,x11],[x12],[x13],[x14],[x15],[x16],[x17],[x18],[x19],[x20],[x21],[x22],[x23],[x24],[x25],[x26],[.b (ltI x26.int (x31.rows.length:Int))],[.i 0],[x27,x28,x29,x30,x31,x32,x33,x34,x35],[x36,x37],[x38,x39,x40,x41,x42,x43,x44,x45,x46],[x47,x48,x49,x50,x51,x52,x53,x54,x55],[gd (x31.rows.getD x26.int.toNat []) 0,gd (x31.rows.getD x26.int.toNat []) 1,gd (x31.rows.getD x26.int.toNat []) 2,gd (x31.rows.getD x26.int.toNat []) 3],[gd (sub (meetR [(gd (x31.rows.getD x26.int.toNat []) 1),(gd (x31.rows.getD x26.int.toNat []) 2)] [x36,x37]) 0 3) 0,gd (sub (meetR [(gd (x31.rows.getD x26.int.toNat []) 1),(gd (x31.rows.getD x26.int.toNat []) 2)] [x36,x37]) 0 3) 1]]) (bif !(gd (sub (meetR [(gd (x31.rows.getD x26.int.toNat []) 1),(gd (x31.rows.getD x26.int.toNat []) 2)] [x36,x37]) 0 3) 2).bool then nx [x0,x1,x2,x3,x4,x5,x6,x7,x8,x9,x10,x11,x12,x13,x14,x15,x16,x17,x18,x19,x20,x21,x22,x23,x24,x25,.i (w64 (x26.int+1)),x27,x28,x29,x30,x31,x32,x33,x34,x35,x36,x37,x38,x39,x40,x41,x42,x43,x44,x45,x46,x47,x48,x49,x50,x51,x52,x53,x54,x55]
 else nd (leI (x32.rows.length:Int) 1000000000) (bif hasTx x32 (gd (x31.rows.getD x26.int.toNat []) 0).int then (let r21:Out:=nx [x0,x1,x2,x3,x4,x5,x6,x7,x8,x9,x10,x11,x12,x13,x14,x15,x16,x17,x18,x19,x20,x21,x22,x23,x24,.b true,x26,.b (ltI x26.int (x31.rows.length:Int)),.i 0,gd (sub (meetR [(gd (x31.rows.getD x26.int.toNat []) 1),(gd (x31.rows.getD x26.int.toNat []) 2)] [x36,x37]) 0 3) 2,.b (!(gd (sub (meetR [(gd (x31.rows.getD x26.int.toNat []) 1),(gd (x31.rows.getD x26.int.toNat []) 2)] [x36,x37]) 0 3) 2).bool),.b (hasTx x32 (gd (x31.rows.getD x26.int.toNat []) 0).int),x27,x28,x29,x30,x31,x32,x33,x34,x35,x36,x37,x38,x39,x40,x41,x42,x43,x44,x45,x46,x47,x48,x49,x50,x51,x52,x53,x54,x55,gd (x31.rows.getD x26.int.toNat []) 0,gd (x31.rows.getD x26.int.toNat []) 1,gd (x31.rows.getD x26.int.toNat []) 2,gd (x31.rows.getD x26.int.toNat []) 3,gd (sub (meetR [(gd (x31.rows.getD x26.int.toNat []) 1),(gd (x31.rows.getD x26.int.toNat []) 2)] [x36,x37]) 0 3) 0,gd (sub (meetR [(gd (x31.rows.getD x26.int.toNat []) 1),(gd (x31.rows.getD x26.int.toNat []) 2)] [x36,x37]) 0 3) 1]
  nd r21.isSome (nx [gd r21.pay 0,gd r21.pay 1,gd r21.pay 2,gd r21.pay 3,gd r21.pay 4,gd r21.pay 5,gd r21.pay 6,gd r21.pay 7,gd r21.pay 8,gd r21.pay 9,gd r21.pay 10,gd r21.pay 11,gd r21.pay 12,gd r21.pay 13,gd r21.pay 14,gd r21.pay 15,gd r21.pay 16,gd r21.pay 17,gd r21.pay 18,gd r21.pay 19,gd r21.pay 20,gd r21.pay 21,gd r21.pay 22,gd r21.pay 23,gd r21.pay 24,gd r21.pay 25,.i (w64 ((gd r21.pay 26).int+1)),gd r21.pay 32,gd r21.pay 33,gd r21.pay 34,gd r21.pay 35,gd r21.pay 36,gd r21.pay 37,gd r21.pay 38,gd r21.pay 39,gd r21.pay 40,gd r21.pay 41,gd r21.pay 42,gd r21.pay 43,gd r21.pay 44,gd r21.pay 45,gd r21.pay 46,gd r21.pay 47,gd r21.pay 48,gd r21.pay 49,gd r21.pay 50,gd r21.pay 51,gd r21.pay 52,gd r21.pay 53,gd r21.pay 54,gd r21.pay 55,gd r21.pay 56,gd r21.pay 57,gd r21.pay 58,gd r21.pay 59,gd r21.pay 60]))
 else nd (leI (x51.rows.length:Int) 100000000&&(leI (x53.rows.length:Int) 100000000&&leI ([[gd (x31.rows.getD x26.int.toNat []) 0]].length:Int) 100000000)) (nx [x0,x1,x2,x3,x4,x5,x6,x7,x8,x9,x10,x11,x12,x13,x14,x15,x16,x17,x18,x19,x20,x21,x22,x23,x24,x25,.i (w64 (x26.int+1)),x27,x28,x29,x30,x31,x32,x33,x34,x35,x36,x37,x38,x39,x40,x41,x42,x43,x44,x45,x46,gd (sub (woundD [x47,x48,x49,x50,x51,x52,x53,x54,x55] (.l [[gd (x31.rows.getD x26.int.toNat []) 0]])) 0 9) 0,gd (sub (woundD [x47,x48,x49,x50,x51,x52,x53,x54,x55] (.l [[gd (x31.rows.getD x26.int.toNat []) 0]])) 0 9) 1,gd (sub (woundD [x47,x48,x49,x50,x51,x52,x53,x54,x55] (.l [[gd (x31.rows.getD x26.int.toNat []) 0]])) 0 9) 2,gd (sub (woundD [x47,x48,x49,x50,x51,x52,x53,x54,x55] (.l [[gd (x31.rows.getD x26.int.toNat []) 0]])) 0 9) 3,gd (sub (woundD [x47,x48,x49,x50,x51,x52,x53,x54,x55] (.l [[gd (x31.rows.getD x26.int.toNat []) 0]])) 0 9) 4,gd (sub (woundD [x47,x48,x49,x50,x51,x52,x53,x54,x55] (.l [[gd (x31.rows.getD x26.int.toNat []) 0]])) 0 9) 5,gd (sub (woundD [x47,x48,x49,x50,x51,x52,x53,x54,x55] (.l [[gd (x31.rows.getD x26.int.toNat []) 0]])) 0 9) 6,gd (sub (woundD [x47,x48,x49,x50,x51,x52,x53,x54,x55] (.l [[gd (x31.rows.getD x26.int.toNat []) 0]])) 0 9) 7,gd (sub (woundD [x47,x48,x49,x50,x51,x52,x53,x54,x55] (.l [[gd (x31.rows.getD x26.int.toNat []) 0]])) 0 9) 8])))))))))
 else ex 0 [x0,x1,x2,x3,x4,x5,x6,x7,x8,x9,x10,x11,x12,x13,x14,x15,x16,x17,x18,x19,x20,x21,x22,x23,x24,x25,x26,x27,x28,x29,x30,x31,x32,x33,x34,x35,x36,x37,x38,x39,x40,x41,x42,x43,x44,x45,x46,x47,x48,x49,x50,x51,x52,x53,x54,x55]:=by kernel_rfl
theorem s_ShardFreeze_ev (N:Nat) (p q r:List D):evFn Tryz.prog s_ShardFreezeT N s_ShardFreezeK Tryz.f10 (.tup [.agg [.d si,.d (.sl 41),.d (.sl 41),.d (.sl 108),.d (.sl 93),.d (.sl 75),.d (.sl 3),.d (.sl 3),.d si],.c (.d (.sl 108)),.c (.d si)]) [⟨ag rIShard,p⟩,⟨ri,q⟩,⟨ag rIRange,r⟩]=some (bo,
 bif (s_l13RankF (sub p 0 9) [(gd q 0)] (sub r 0 2)) != 0 then nd (dupOk (sub p 0 9)||(s_l13RankF (sub p 0 9) [(gd q 0)] (sub r 0 2))==1) (some (1,[gd (sub (refShard (sub p 0 9) (s_l13RankF (sub p 0 9) [(gd q 0)] (sub r 0 2))) 0 9) 0,gd (sub (refShard (sub p 0 9) (s_l13RankF (sub p 0 9) [(gd q 0)] (sub r 0 2))) 0 9) 1,gd (sub (refShard (sub p 0 9) (s_l13RankF (sub p 0 9) [(gd q 0)] (sub r 0 2))) 0 9) 2,gd (sub (refShard (sub p 0 9) (s_l13RankF (sub p 0 9) [(gd q 0)] (sub r 0 2))) 0 9) 3,gd (sub (refShard (sub p 0 9) (s_l13RankF (sub p 0 9) [(gd q 0)] (sub r 0 2))) 0 9) 4,gd (sub (refShard (sub p 0 9) (s_l13RankF (sub p 0 9) [(gd q 0)] (sub r 0 2))) 0 9) 5,gd (sub (refShard (sub p 0 9) (s_l13RankF (sub p 0 9) [(gd q 0)] (sub r 0 2))) 0 9) 6,gd (sub (refShard (sub p 0 9) (s_l13RankF (sub p 0 9) [(gd q 0)] (sub r 0 2))) 0 9) 7,gd (sub (refShard (sub p 0 9) (s_l13RankF (sub p 0 9) [(gd q 0)] (sub r 0 2))) 0 9) 8,.l [],.i (s_l13RankF (sub p 0 9) [(gd q 0)] (sub r 0 2))]))
 else nd (dupOk (sub p 0 9)) (bif !(rangesHave (gd p 1) (sub r 0 2)) then some (1,[gd (sub (dupShard (sub p 0 9)) 0 9) 0,gd (sub (dupShard (sub p 0 9)) 0 9) 1,gd (sub (dupShard (sub p 0 9)) 0 9) 2,gd (sub (dupShard (sub p 0 9)) 0 9) 3,gd (sub (dupShard (sub p 0 9)) 0 9) 4,gd (sub (dupShard (sub p 0 9)) 0 9) 5,gd (sub (dupShard (sub p 0 9)) 0 9) 6,gd (sub (dupShard (sub p 0 9)) 0 9) 7,gd (sub (dupShard (sub p 0 9)) 0 9) 8,.l [],.i 4])
 else bif !(gd (sub (chgT (gd p 2) (sub r 0 2) (.b true)) 0 2) 1).bool then some (1,[gd (sub (dupShard (sub p 0 9)) 0 9) 0,gd (sub (dupShard (sub p 0 9)) 0 9) 1,gd (sub (dupShard (sub p 0 9)) 0 9) 2,gd (sub (dupShard (sub p 0 9)) 0 9) 3,gd (sub (dupShard (sub p 0 9)) 0 9) 4,gd (sub (dupShard (sub p 0 9)) 0 9) 5,gd (sub (dupShard (sub p 0 9)) 0 9) 6,gd (sub (dupShard (sub p 0 9)) 0 9) 7,gd (sub (dupShard (sub p 0 9)) 0 9) 8,.l [],.i 6])
 else (let r13:Out:=nx [gd p 0,gd p 1,gd p 2,gd p 3,gd p 4,gd p 5,gd p 6,gd p 7,gd p 8,gd q 0,gd r 0,gd r 1,.i 0,.i 0,.i 0,.l [],.i 0,.l [],.i (s_l13RankF (sub p 0 9) [(gd q 0)] (sub r 0 2)),.b ((s_l13RankF (sub p 0 9) [(gd q 0)] (sub r 0 2)) != 0),.i 0,.b (!(rangesHave (gd p 1) (sub r 0 2))),gd (sub (chgT (gd p 2) (sub r 0 2) (.b true)) 0 2) 0,gd (sub (chgT (gd p 2) (sub r 0 2) (.b true)) 0 2) 1,.b (!(gd (sub (chgT (gd p 2) (sub r 0 2) (.b true)) 0 2) 1).bool),.b false,gd p 0,gd p 1,gd p 2,gd p 3,gd p 4,gd p 5,gd p 6,gd p 7,gd p 8,gd r 0,gd r 1,.i 0,.l [],.l [],.l [],.l [],.l [],.l [],.l [],.i 0,gd (sub (dupShard (sub p 0 9)) 0 9) 0,gd (sub (dupShard (sub p 0 9)) 0 9) 1,gd (sub (chgT (gd p 2) (sub r 0 2) (.b true)) 0 2) 0,gd (sub (dupShard (sub p 0 9)) 0 9) 3,gd (sub (dupShard (sub p 0 9)) 0 9) 4,gd (sub (dupShard (sub p 0 9)) 0 9) 5,gd (sub (dupShard (sub p 0 9)) 0 9) 6,gd (sub (dupShard (sub p 0 9)) 0 9) 7,gd q 0]
  nd r13.isSome ((let o0:=iter (s_ShardFreezeL0 N p q r) N [gd r13.pay 0,gd r13.pay 1,gd r13.pay 2,gd r13.pay 3,gd r13.pay 4,gd r13.pay 5,gd r13.pay 6,gd r13.pay 7,gd r13.pay 8,gd r13.pay 9,gd r13.pay 10,gd r13.pay 11,gd r13.pay 12,gd r13.pay 13,gd r13.pay 14,gd r13.pay 15,gd r13.pay 16,gd r13.pay 17,gd r13.pay 18,gd r13.pay 19,gd r13.pay 20,gd r13.pay 21,gd r13.pay 22,gd r13.pay 23,gd r13.pay 24,gd r13.pay 25,.i 0,gd r13.pay 26,gd r13.pay 27,gd r13.pay 28,gd r13.pay 29,gd r13.pay 30,gd r13.pay 31,gd r13.pay 32,gd r13.pay 33,gd r13.pay 34,gd r13.pay 35,gd r13.pay 36,gd r13.pay 37,gd r13.pay 38,gd r13.pay 39,gd r13.pay 40,gd r13.pay 41,gd r13.pay 42,gd r13.pay 43,gd r13.pay 44,gd r13.pay 45,gd r13.pay 46,gd r13.pay 47,gd r13.pay 48,gd r13.pay 49,gd r13.pay 50,gd r13.pay 51,gd r13.pay 52,gd r13.pay 53,gd r13.pay 54]
  nd o0.isSome (nd (o0.code==2) (bif (gd o0.pay 25).bool then some (1,[gd o0.pay 47,gd o0.pay 48,gd o0.pay 49,gd o0.pay 50,gd o0.pay 51,gd o0.pay 52,gd o0.pay 53,gd o0.pay 54,gd o0.pay 55,gd o0.pay 17,.i 5])
  else nd (leI ((gd o0.pay 30).rows.length:Int) 1000000000) (some (1,[gd o0.pay 47,gd o0.pay 48,gd o0.pay 49,gd o0.pay 50,gd o0.pay 51,gd o0.pay 52,gd o0.pay 53,gd o0.pay 54,gd o0.pay 55,scanD (gd o0.pay 30) (sub o0.pay 36 2) true,.i 0]))))))))):=by kernel_rfl
def meetC (r x:List D):Bool:=(gd (sub (meetR [gd x 1,gd x 2] [gd r 0,gd r 1]) 0 3) 2).bool
def heldC (p x:List D):Bool:=hasTx (gd p 5) (gd x 0).int
theorem wndS_len (l w z:D) (M H:List D→Bool):∀ k,(wndS l w z M H k).1.rows.length≤l.rows.length∧(wndS l w z M H k).2.1.rows.length≤w.rows.length+k
 | 0=>⟨Nat.le_refl _,Nat.le_refl _⟩
 | k+1=>by
  obtain ⟨h1,h2⟩:=wndS_len l w z M H k
  rw [wndS]
  cases M (z.rows.getD k [])
  ·exact ⟨h1,by show (wndS l w z M H k).2.1.rows.length≤_; omega⟩
  ·cases H (z.rows.getD k [])
   ·have a1:=keepD_len (wndS l w z M H k).1 (gd (z.rows.getD k []) 0).int false
    have a2:=putIntD_len (wndS l w z M H k).2.1 (gd (z.rows.getD k []) 0)
    exact ⟨by show (keepD _ _ _).rows.length≤_; omega,by show (putIntD _ _).rows.length≤_; omega⟩
   ·exact ⟨h1,by show (wndS l w z M H k).2.1.rows.length≤_; omega⟩
theorem shard_lens {p:List D} (h:shardOk p=true):locksOk (gd p 4)=true∧(gd p 4).rows.length≤40∧(gd p 5).rows.length≤60∧(gd p 6).rows.length≤60∧ascOk (gd p 6)=true∧storeOk (gd p 3)=true∧rangesOk (gd p 1)=true∧rangesOk (gd p 2)=true:=by
 simp only [shardOk,Bool.and_eq_true,leI,decide_eq_true_eq] at h
 obtain ⟨_,h1,h2,h3,h4,_,h5,h6,_,h7,_⟩:=h
 exact ⟨h4,((locksOk_iff _).1 h4).2.2,by omega,by omega,h7,h3,h1,h2⟩
theorem shard_dup {p:List D} (h:shardOk p=true):dupOk p=true:=by
 obtain ⟨_,h4,h5,h6,_,h3,h1,h2⟩:=shard_lens h
 simp only [shardOk,shardSum,heldsOkS,Bool.and_eq_true,leI,decide_eq_true_eq,List.all_eq_true,List.mem_range] at h
 obtain ⟨_,_,_,_,_,_,_,_,h7,_,_,_,_,_,_,hw,_⟩:=h
 simp only [rangesOk,storeOk,Bool.and_eq_true,leI,decide_eq_true_eq] at h1 h2 h3
 have k1:=h1.2
 have k2:=h2.2
 have k3:=h3.2
 unfold dupOk
 rw [leI_t (show ((gd p 1).rows.length:Int)≤1000000 by omega),leI_t (show ((gd p 2).rows.length:Int)≤1000000 by omega),leI_t (show ((gd p 3).rows.length:Int)≤1000000 by omega),leI_t (show ((gd p 4).rows.length:Int)≤1000000 by omega),leI_t (show ((gd p 5).rows.length:Int)≤1000000 by omega),leI_t (show ((gd p 6).rows.length:Int)≤1000000 by omega),leI_t (show ((gd p 7).rows.length:Int)≤1000000 by omega)]
 simp only [Bool.true_and,List.all_eq_true,List.mem_range]
 intro k hk
 have hr:heldRest p k=true:=by
  have:=hw k hk
  cases k with
  | zero=>simp only [heldAtS,Bool.and_eq_true] at this; exact this.2
  | succ k=>simp only [heldAtS,Bool.and_eq_true] at this; exact this.2.2
 simp only [heldRest,Bool.and_eq_true] at hr
 have:=writes_len hr.1
 exact leI_t (by omega)
theorem rank_dup (p q r:List D):(dupOk (sub p 0 9)||(s_l13RankF (sub p 0 9) q (sub r 0 2))==1)=true:=by
 cases h:shardOk (sub p 0 9) with
 | true=>rw [shard_dup h,Bool.true_or]
 | false =>
  unfold s_l13RankF
  rw [show sub (sub p 0 9) 0 9=sub p 0 9 from rfl,h]
  exact Bool.or_true _
theorem ascOk_asc {z:D} (h:ascOk z=true):(numsOf z).Pairwise (· < ·):=by
 simp only [ascOk,List.all_eq_true,List.mem_range] at h
 have hs:∀ k,k+1<z.rows.length→(gd (z.rows.getD k []) 0).int<(gd (z.rows.getD (k+1) []) 0).int:=fun k hk=>by
  have:=h (k+1) hk
  simp only [ascAt,Bool.and_eq_true,leI,Bool.not_eq_true',decide_eq_false_iff_not] at this
  omega
 have hl:∀ d i,i+d+1<z.rows.length→(gd (z.rows.getD i []) 0).int<(gd (z.rows.getD (i+d+1) []) 0).int:=fun d=>by
  induction d with
  | zero=>exact fun i hi=>hs i hi
  | succ d ih=>exact fun i hi=>Int.lt_trans (ih i (by omega)) (hs (i+d+1) hi)
 refine List.pairwise_iff_getElem.2 fun i j hi hj hij=>?_
 rw [numsOf_len] at hi hj
 obtain ⟨_,e1⟩:=List.getElem?_eq_some_iff.1 (numsOf_at z i hi)
 obtain ⟨_,e2⟩:=List.getElem?_eq_some_iff.1 (numsOf_at z j hj)
 rw [e1,e2]
 have:=hl (j - i - 1) i (by omega)
 rwa [show i+(j - i - 1)+1=j from by omega] at this
theorem rank_0 {p q r:List D} (h:(s_l13RankF (sub p 0 9) q (sub r 0 2) != 0)=false):shardOk (sub p 0 9)=true∧rangeOk (sub r 0 2)=true:=by
 unfold s_l13RankF at h
 rw [show sub (sub p 0 9) 0 9=sub p 0 9 from rfl,show sub (sub r 0 2) 0 2=sub r 0 2 from rfl] at h
 revert h
 cases shardOk (sub p 0 9)
 ·intro h; cases h
 ·cases inB (gd q 0).int 1 1000000
  ·intro h; cases h
  ·cases rangeOk (sub r 0 2)
   ·intro h; cases h
   ·exact fun _=>⟨rfl,rfl⟩
def frzS2 (p:List D) (q:D) (r:List D) (s:D × D × Bool):List D:= [gd p 0,.l (gd p 1).rows,gd (sub (chgT (gd p 2) (sub r 0 2) (.b true)) 0 2) 0,.l (gd p 3).rows,s.1,gd (sub (dupShard (sub p 0 9)) 0 9) 5,s.2.1,.l (gd p 7).rows,q]++(bif s.2.2 then [.l [],.i 5] else [scanD (gd p 3) (sub r 0 2) true,.i 0])
def frzS (p:List D) (q:D) (r:List D):List D:=
 bif s_l13RankF (sub p 0 9) [q] (sub r 0 2) != 0 then sub (refShard (sub p 0 9) (s_l13RankF (sub p 0 9) [q] (sub r 0 2))) 0 9 ++ [.l [],.i (s_l13RankF (sub p 0 9) [q] (sub r 0 2))]
 else bif !(rangesHave (gd p 1) (sub r 0 2)) then sub (dupShard (sub p 0 9)) 0 9 ++ [.l [],.i 4]
 else bif !(gd (sub (chgT (gd p 2) (sub r 0 2) (.b true)) 0 2) 1).bool then sub (dupShard (sub p 0 9)) 0 9 ++ [.l [],.i 6]
 else frzS2 p q r (wndS (.l (gd p 4).rows) (.l (gd p 6).rows) (gd p 4) (meetC r) (heldC p) (gd p 4).rows.length)
def s_ShardFreezeE:Ent:=(10,e3 (ag rIShard) ri (ag rIRange) fun p q r=>(⟨.tup [.agg [.d si,.d (.sl 41),.d (.sl 41),.d (.sl 108),.d (.sl 93),.d (.sl 75),.d (.sl 3),.d (.sl 3),.d si],.c (.d (.sl 108)),.c (.d si)],sub (frzS p (gd q 0) r) 0 11⟩,true))
theorem s_ShardFreeze_ok:EntOk Tryz.prog s_ShardFreezeE:=e3_ok fun p q r h=>evFn_sound (N:=(gd p 4).rows.length+1) (ks:=s_ShardFreezeK) (key:=bo) s_ShardFreezeT_ok (enters Tryz.func10) Tryz.func10 fun hw=>by
 rw [s_ShardFreeze_ev]
 unfold frzS
 rw [rank_dup]
 cases hc:(s_l13RankF (sub p 0 9) [gd q 0] (sub r 0 2)) != 0 with
 | true =>
  rw [cond_true,cond_true,nd_true]
  rfl
 | false =>
 obtain ⟨hsh,hra⟩:=rank_0 hc
 rw [shard_dup hsh]
 obtain ⟨hlo,hl4,hl5,hl6,hw6,_⟩:=shard_lens hsh
 have hl4:(gd p 4).rows.length≤40:=hl4
 have hl5:(gd p 5).rows.length≤60:=hl5
 have hl6:(gd p 6).rows.length≤60:=hl6
 rw [cond_false,cond_false,nd_true]
 have hc2:(s_l13RankF (sub p 0 9) [gd q 0] (sub r 0 2))=0:=by simpa using hc
 rw [hc2]
 cases hh:rangesHave (gd p 1) (sub r 0 2) with
 | false=>rfl
 | true =>
 rw [Bool.not_true,cond_false,cond_false]
 cases ht:(gd (sub (chgT (gd p 2) (sub r 0 2) (.b true)) 0 2) 1).bool with
 | false=>rfl
 | true =>
 rw [Bool.not_true,cond_false,cond_false]
 have e:=run_loop (L:=s_ShardFreezeL0 ((gd p 4).rows.length+1) p q r) (fun k => [gd p 0,gd p 1,gd p 2,gd p 3,gd p 4,gd p 5,gd p 6,gd p 7,gd p 8,gd q 0,gd r 0,gd r 1,.i 0,.i 0,.i 0,.l [],.i 0,.l [],.i 0,.b false,.i 0,.b (!(rangesHave (gd p 1) (sub r 0 2))),gd (sub (chgT (gd p 2) (sub r 0 2) (.b true)) 0 2) 0,gd (sub (chgT (gd p 2) (sub r 0 2) (.b true)) 0 2) 1,.b (!(gd (sub (chgT (gd p 2) (sub r 0 2) (.b true)) 0 2) 1).bool),.b (wndS (.l (gd p 4).rows) (.l (gd p 6).rows) (gd p 4) (meetC r) (heldC p) k).2.2,.i (k:Int),gd p 0,gd p 1,gd p 2,gd p 3,gd p 4,gd p 5,gd p 6,gd p 7,gd p 8,gd r 0,gd r 1,.i 0,.l [],.l [],.l [],.l [],.l [],.l [],.l [],.i 0,gd p 0,.l (gd p 1).rows,gd (sub (chgT (gd p 2) (sub r 0 2) (.b true)) 0 2) 0,.l (gd p 3).rows,(wndS (.l (gd p 4).rows) (.l (gd p 6).rows) (gd p 4) (meetC r) (heldC p) k).1,gd (sub (dupShard (sub p 0 9)) 0 9) 5,(wndS (.l (gd p 4).rows) (.l (gd p 6).rows) (gd p 4) (meetC r) (heldC p) k).2.1,.l (gd p 7).rows,gd q 0]) (gd p 4).rows.length 0 (fun k hk=>?_) ?_ (N:=(gd p 4).rows.length+1) (by omega)
 ·simp only [Int.natCast_zero,wndS] at e
  rw [hh,ht,Bool.not_true] at e
  dsimp only at e ⊢
  dsimp only [Out.pay,Out.code,Option.getD_some,Option.isSome_some]
  simp only [gd_cons_zero,gd_cons_succ,nd_true]
  rw [iter_at e]
  case e=>rfl
  dsimp only [Out.pay,Out.code,Option.getD_some,Option.isSome_some]
  simp only [gd_cons_zero,gd_cons_succ]
  unfold frzS2
  have hl3:leI ((gd p 3).rows.length:Int) 1000000000=true:=leI_t (by
   have:=(shard_lens hsh).2.2.2.2.2.1
   simp only [storeOk,Bool.and_eq_true,leI,decide_eq_true_eq] at this
   have:=this.2
   have h3:((gd p 3).rows.length:Int)≤60:=this
   omega)
  cases (wndS (.l (gd p 4).rows) (.l (gd p 6).rows) (gd p 4) (meetC r) (heldC p) (gd p 4).rows.length).2.2
  ·show some (bo,nd (leI ((gd p 3).rows.length:Int) 1000000000) _)=_
   rw [hl3]
   rfl
  ·rfl
 ·show s_ShardFreezeL0 _ p q r [_,_,_,_,_,_,_,_,_,_,_,_,_,_,_,_,_,_,_,_,_,_,_,_,_,_,.i (k:Int),_,_,_,_,_,_,_,_,_,_,_,_,_,_,_,_,_,_,_,_,_,_,_,_,_,_,_,_,_]=_
  rw [s_ShardFreezeR0]
  obtain ⟨a1,a2⟩:=wndS_len (.l (gd p 4).rows) (.l (gd p 6).rows) (gd p 4) (meetC r) (heldC p) k
  have a1:_≤(gd p 4).rows.length:=a1
  have a2:_≤(gd p 6).rows.length+k:=a2
  simp only [int_i,c_lt hk,nd_ix hk,Int.toNat_natCast,sameP_self,nd_true,w64_succ hk (show (gd p 4).rows.length≤9223372036854775807 by omega),leI_t (show ((gd p 5).rows.length:Int)≤1000000000 by omega),leI_t (show ((wndS (.l (gd p 4).rows) (.l (gd p 6).rows) (gd p 4) (meetC r) (heldC p) k).1.rows.length:Int)≤100000000 by omega),leI_t (show ((wndS (.l (gd p 4).rows) (.l (gd p 6).rows) (gd p 4) (meetC r) (heldC p) k).2.1.rows.length:Int)≤100000000 by omega)]
  rw [wndS,meetC,heldC]
  cases (gd (sub (meetR [gd ((gd p 4).rows.getD k []) 1,gd ((gd p 4).rows.getD k []) 2] [gd r 0,gd r 1]) 0 3) 2).bool
  ·rfl
  ·cases hasTx (gd p 5) (gd ((gd p 4).rows.getD k []) 0).int
   ·rfl
   ·simp only [cond_true,cond_false,Bool.not_true,Out.pay,Option.getD_some,Option.isSome_some,gd_cons_zero,gd_cons_succ,int_i,nd_true,w64_succ hk (show (gd p 4).rows.length≤9223372036854775807 by omega)]
 ·show s_ShardFreezeL0 _ p q r [_,_,_,_,_,_,_,_,_,_,_,_,_,_,_,_,_,_,_,_,_,_,_,_,_,_,.i ((gd p 4).rows.length:Int),_,_,_,_,_,_,_,_,_,_,_,_,_,_,_,_,_,_,_,_,_,_,_,_,_,_,_,_,_]=_
  rw [s_ShardFreezeR0]
  simp only [int_i,c_nlt]
abbrev i_ShardFreezeT:FuncId→List T→Option (T × Bool):=find [i_rankBadE,i_asItWasE,i_copyShardE,i_haveAllE,i_RangesPlusE,i_touchingE,i_LocksDropKE,i_insertedE,i_StoreScanE,apartE]
theorem i_ShardFreezeT_ok:CallOk Tryz.prog i_ShardFreezeT:=find_ok (fC ⟨i_rankBad_ok,fC ⟨i_asItWas_ok,fC ⟨i_copyShard_ok,fC ⟨i_haveAll_ok,fC ⟨i_RangesPlus_ok,fC ⟨i_touching_ok,fC ⟨i_LocksDropK_ok,fC ⟨i_inserted_ok,fC ⟨i_StoreScan_ok,fC ⟨apart_ok,fN⟩⟩⟩⟩⟩⟩⟩⟩⟩⟩)
abbrev i_ShardFreezeK:List Nat:= [0,1,2,3,5,6,7,8,9,10,11,12,13,14,16,22,37,47,55,56,57,58,76]
noncomputable def i_ShardFreezeL0 (N:Nat) (p q r:List D):List D→Out:=loopOf Tryz.prog i_ShardFreezeT N i_ShardFreezeK Tryz.f13 (.tup [.agg rDShard,.c (.own (0,0) true 108),.c (.d si)]) [⟨ag rIShard,p⟩,⟨ri,q⟩,⟨ag rIRange,r⟩] 0
theorem i_ShardFreezeR0 (N:Nat) (p q r:List D) (x0 x1 x2 x3 x4 x5 x6 x7 x8 x9 x10 x11 x12 x13 x14 x15 x16 x17 x18 x19 x20 x21 x22 x23 x24 x25 x26 x27 x28 x29 x30 x31 x32 x33 x34 x35 x36 x37 x38 x39 x40 x41 x42 x43 x44 x45 x46 x47 x48 x49 x50 x51 x52 x53 x54 x55:D):(i_ShardFreezeL0 N p q r) [x0,x1,x2,x3,x4,x5,x6,x7,x8,x9,x10,x11,x12,x13,x14,x15,x16,x17,x18,x19,x20,x21,x22,x23,x24,x25,x26,x27,x28,x29,x30,x31,x32,x33,x34,x35,x36,x37,x38,x39,x40,x41,x42,x43,x44,x45,x46,x47,x48,x49,x50,x51,x52,x53,x54,x55] =
 bif ltI x26.int x25.int then nd (inRange x26.int x24.rows.length) (nd (ascB x53&&leI (x53.rows.length:Int) 40000) (nx [x0,x1,x2,x3,x4,x5,x6,x7,x8,x9,x10,x11,x12,x13,x14,x15,x16,x17,x18,x19,x20,x21,x22,x23,x24,x25,.i (w64 (x26.int+1)),x27,x28,x29,x30,x31,x32,x33,x34,x35,x36,x37,x38,x39,x40,x41,x42,x43,x44,x45,x46,x47,x48,x49,x50,dropD x51 (gd (x24.rows.getD x26.int.toNat []) 0),x52,putIntD x53 (gd (x24.rows.getD x26.int.toNat []) 0),x54,x55]))
 else ex 0 [x0,x1,x2,x3,x4,x5,x6,x7,x8,x9,x10,x11,x12,x13,x14,x15,x16,x17,x18,x19,x20,x21,x22,x23,x24,x25,x26,x27,x28,x29,x30,x31,x32,x33,x34,x35,x36,x37,x38,x39,x40,x41,x42,x43,x44,x45,x46,x47,x48,x49,x50,x51,x52,x53,x54,x55]:=by kernel_rfl
theorem i_ShardFreeze_ev (N:Nat) (p q r:List D):evFn Tryz.prog i_ShardFreezeT N i_ShardFreezeK Tryz.f13 (.tup [.agg rDShard,.c (.own (0,0) true 108),.c (.d si)]) [⟨ag rIShard,p⟩,⟨ri,q⟩,⟨ag rIRange,r⟩]=some (bo,
 nd (shardSmall (sub p 0 9)) (bif (s_l13RankF (sub p 0 9) [(gd q 0)] (sub r 0 2)) != 0 then nd (dupOk (sub p 0 9)||(s_l13RankF (sub p 0 9) [(gd q 0)] (sub r 0 2))==1) (some (1,[gd (sub (asWas (sub p 0 9) (.i (s_l13RankF (sub p 0 9) [(gd q 0)] (sub r 0 2)))) 0 10) 0,gd (sub (asWas (sub p 0 9) (.i (s_l13RankF (sub p 0 9) [(gd q 0)] (sub r 0 2)))) 0 10) 1,gd (sub (asWas (sub p 0 9) (.i (s_l13RankF (sub p 0 9) [(gd q 0)] (sub r 0 2)))) 0 10) 2,gd (sub (asWas (sub p 0 9) (.i (s_l13RankF (sub p 0 9) [(gd q 0)] (sub r 0 2)))) 0 10) 3,gd (sub (asWas (sub p 0 9) (.i (s_l13RankF (sub p 0 9) [(gd q 0)] (sub r 0 2)))) 0 10) 4,gd (sub (asWas (sub p 0 9) (.i (s_l13RankF (sub p 0 9) [(gd q 0)] (sub r 0 2)))) 0 10) 5,gd (sub (asWas (sub p 0 9) (.i (s_l13RankF (sub p 0 9) [(gd q 0)] (sub r 0 2)))) 0 10) 6,gd (sub (asWas (sub p 0 9) (.i (s_l13RankF (sub p 0 9) [(gd q 0)] (sub r 0 2)))) 0 10) 7,gd (sub (asWas (sub p 0 9) (.i (s_l13RankF (sub p 0 9) [(gd q 0)] (sub r 0 2)))) 0 10) 8,.l [],gd (sub (asWas (sub p 0 9) (.i (s_l13RankF (sub p 0 9) [(gd q 0)] (sub r 0 2)))) 0 10) 9]))
 else nd (dupOk (sub p 0 9)) (bif !(haveAll (gd p 1) (sub r 0 2)) then some (1,[gd (sub (dupShard (sub p 0 9)) 0 9) 0,gd (sub (dupShard (sub p 0 9)) 0 9) 1,gd (sub (dupShard (sub p 0 9)) 0 9) 2,gd (sub (dupShard (sub p 0 9)) 0 9) 3,gd (sub (dupShard (sub p 0 9)) 0 9) 4,gd (sub (dupShard (sub p 0 9)) 0 9) 5,gd (sub (dupShard (sub p 0 9)) 0 9) 6,gd (sub (dupShard (sub p 0 9)) 0 9) 7,gd (sub (dupShard (sub p 0 9)) 0 9) 8,.l [],.i 4])
 else bif !(gd (sub (chgT (gd p 2) (sub r 0 2) (.b true)) 0 2) 1).bool then some (1,[gd (sub (dupShard (sub p 0 9)) 0 9) 0,gd (sub (dupShard (sub p 0 9)) 0 9) 1,gd (sub (dupShard (sub p 0 9)) 0 9) 2,gd (sub (dupShard (sub p 0 9)) 0 9) 3,gd (sub (dupShard (sub p 0 9)) 0 9) 4,gd (sub (dupShard (sub p 0 9)) 0 9) 5,gd (sub (dupShard (sub p 0 9)) 0 9) 6,gd (sub (dupShard (sub p 0 9)) 0 9) 7,gd (sub (dupShard (sub p 0 9)) 0 9) 8,.l [],.i 6])
 else nd (leI ((gd p 4).rows.length:Int) 40000&&leI ((gd p 5).rows.length:Int) 1000000000) ((let o0:=iter (i_ShardFreezeL0 N p q r) N [gd p 0,gd p 1,gd p 2,gd p 3,gd p 4,gd p 5,gd p 6,gd p 7,gd p 8,gd q 0,gd r 0,gd r 1,.i 0,.i 0,.i 0,.l [],.i 0,.i (s_l13RankF (sub p 0 9) [(gd q 0)] (sub r 0 2)),.b ((s_l13RankF (sub p 0 9) [(gd q 0)] (sub r 0 2)) != 0),.i 0,.b (!(haveAll (gd p 1) (sub r 0 2))),gd (sub (chgT (gd p 2) (sub r 0 2) (.b true)) 0 2) 0,gd (sub (chgT (gd p 2) (sub r 0 2) (.b true)) 0 2) 1,.b (!(gd (sub (chgT (gd p 2) (sub r 0 2) (.b true)) 0 2) 1).bool),touchD (sub p 0 9) (sub r 0 2) (.b false),.i ((touchD (sub p 0 9) (sub r 0 2) (.b false)).rows.length:Int),.i 0,gd p 0,gd p 1,gd p 2,gd p 3,gd p 4,gd p 5,gd p 6,gd p 7,gd p 8,gd r 0,gd r 1,.i 0,.l [],.l [],.l [],.l [],.l [],.l [],.l [],.i 0,gd (sub (dupShard (sub p 0 9)) 0 9) 0,gd (sub (dupShard (sub p 0 9)) 0 9) 1,gd (sub (chgT (gd p 2) (sub r 0 2) (.b true)) 0 2) 0,gd (sub (dupShard (sub p 0 9)) 0 9) 3,gd (sub (dupShard (sub p 0 9)) 0 9) 4,gd (sub (dupShard (sub p 0 9)) 0 9) 5,gd (sub (dupShard (sub p 0 9)) 0 9) 6,gd (sub (dupShard (sub p 0 9)) 0 9) 7,gd q 0]
  nd o0.isSome (nd (o0.code==2) (nd (leI ((gd o0.pay 51).rows.length:Int) 40000&&leI ((gd o0.pay 52).rows.length:Int) 1000000000) (bif ltI 0 ((touchD (sub o0.pay 47 9) (sub o0.pay 36 2) (.b true)).rows.length:Int) then some (1,[gd o0.pay 47,gd o0.pay 48,gd o0.pay 49,gd o0.pay 50,gd o0.pay 51,gd o0.pay 52,gd o0.pay 53,gd o0.pay 54,gd o0.pay 55,.l [],.i 5])
  else some (1,[gd o0.pay 47,gd o0.pay 48,gd o0.pay 49,gd o0.pay 50,gd o0.pay 51,gd o0.pay 52,gd o0.pay 53,gd o0.pay 54,gd o0.pay 55,withinD (gd o0.pay 50) (sub o0.pay 36 2) (.b true),.i 0]))))))))):=by kernel_rfl
def frzO (p:List D) (q:D) (r:List D) (l w:D):List D:= [gd p 0,.l (gd p 1).rows,gd (sub (chgT (gd p 2) (sub r 0 2) (.b true)) 0 2) 0,.l (gd p 3).rows,l,gd (sub (dupShard (sub p 0 9)) 0 9) 5,w,.l (gd p 7).rows,q]
def frzI2 (p:List D) (q:D) (r:List D) (l w:D):List D:=frzO p q r l w++(bif ltI 0 ((touchD (frzO p q r l w) (sub r 0 2) (.b true)).rows.length:Int) then [.l [],.i 5] else [withinD (.l (gd p 3).rows) (sub r 0 2) (.b true),.i 0])
def frzT (p r:List D):D:=touchD (sub p 0 9) (sub r 0 2) (.b false)
def frzI (p:List D) (q:D) (r:List D):List D:=
 bif s_l13RankF (sub p 0 9) [q] (sub r 0 2) != 0 then sub (asWas (sub p 0 9) (.i (s_l13RankF (sub p 0 9) [q] (sub r 0 2)))) 0 9 ++ [.l [],gd (sub (asWas (sub p 0 9) (.i (s_l13RankF (sub p 0 9) [q] (sub r 0 2)))) 0 10) 9]
 else bif !(haveAll (gd p 1) (sub r 0 2)) then sub (dupShard (sub p 0 9)) 0 9 ++ [.l [],.i 4]
 else bif !(gd (sub (chgT (gd p 2) (sub r 0 2) (.b true)) 0 2) 1).bool then sub (dupShard (sub p 0 9)) 0 9 ++ [.l [],.i 6]
 else frzI2 p q r (dropsS (.l (gd p 4).rows) (frzT p r) (frzT p r).rows.length) (putsS (.l (gd p 6).rows) (frzT p r) (frzT p r).rows.length)
def i_ShardFreezeE:Ent:=(13,e3 (ag rIShard) ri (ag rIRange) fun p q r=>(⟨.tup [.agg rDShard,.c (.own (0,0) true 108),.c (.d si)],sub (frzI p (gd q 0) r) 0 11⟩,shardSmall p))
theorem i_ShardFreeze_ok:EntOk Tryz.prog i_ShardFreezeE:=e3_ok fun p q r h=>evFn_sound (N:=(gd p 4).rows.length+1) (ks:=i_ShardFreezeK) (key:=bo) i_ShardFreezeT_ok (enters Tryz.func13) Tryz.func13 fun hw=>by
 rw [i_ShardFreeze_ev]
 have h:shardSmall (sub p 0 9)=true:=h
 unfold frzI
 rw [h,rank_dup]
 cases hc:(s_l13RankF (sub p 0 9) [gd q 0] (sub r 0 2)) != 0 with
 | true =>
  rw [cond_true,cond_true,nd_true,nd_true]
  rfl
 | false =>
 obtain ⟨hsh,hra⟩:=rank_0 hc
 rw [shard_dup hsh]
 obtain ⟨hlo,hl4,hl5,hl6,hw6,_⟩:=shard_lens hsh
 have hlo:locksOk (.l (gd p 4).rows)=true:=hlo
 have hl4:(gd p 4).rows.length≤40:=hl4
 have hl5:(gd p 5).rows.length≤60:=hl5
 have hl6:(gd p 6).rows.length≤60:=hl6
 have hw6:(numsOf (.l (gd p 6).rows)).Pairwise (· < ·):=ascOk_asc (z:=gd p 6) hw6
 rw [cond_false,cond_false,nd_true,nd_true]
 have hc2:(s_l13RankF (sub p 0 9) [gd q 0] (sub r 0 2))=0:=by simpa using hc
 rw [hc2]
 cases hh:haveAll (gd p 1) (sub r 0 2) with
 | false=>rfl
 | true =>
 rw [Bool.not_true,cond_false,cond_false]
 cases ht:(gd (sub (chgT (gd p 2) (sub r 0 2) (.b true)) 0 2) 1).bool with
 | false=>rfl
 | true =>
 rw [Bool.not_true,cond_false,cond_false]
 have hq:(leI ((gd p 4).rows.length:Int) 40000&&leI ((gd p 5).rows.length:Int) 1000000000)=true:=by
  rw [leI_t (show ((gd p 4).rows.length:Int)≤40000 by omega),leI_t (show ((gd p 5).rows.length:Int)≤1000000000 by omega)]
  rfl
 have htl:(frzT p r).rows.length≤40:=Nat.le_trans (touchS_len _ _ _) hl4
 have e:=run_loop (L:=i_ShardFreezeL0 ((gd p 4).rows.length+1) p q r) (fun k => [gd p 0,gd p 1,gd p 2,gd p 3,gd p 4,gd p 5,gd p 6,gd p 7,gd p 8,gd q 0,gd r 0,gd r 1,.i 0,.i 0,.i 0,.l [],.i 0,.i 0,.b false,.i 0,.b (!(haveAll (gd p 1) (sub r 0 2))),gd (sub (chgT (gd p 2) (sub r 0 2) (.b true)) 0 2) 0,gd (sub (chgT (gd p 2) (sub r 0 2) (.b true)) 0 2) 1,.b (!(gd (sub (chgT (gd p 2) (sub r 0 2) (.b true)) 0 2) 1).bool),(frzT p r),.i ((frzT p r).rows.length:Int),.i (k:Int),gd p 0,gd p 1,gd p 2,gd p 3,gd p 4,gd p 5,gd p 6,gd p 7,gd p 8,gd r 0,gd r 1,.i 0,.l [],.l [],.l [],.l [],.l [],.l [],.l [],.i 0,gd p 0,.l (gd p 1).rows,gd (sub (chgT (gd p 2) (sub r 0 2) (.b true)) 0 2) 0,.l (gd p 3).rows,dropsS (.l (gd p 4).rows) (frzT p r) k,gd (sub (dupShard (sub p 0 9)) 0 9) 5,putsS (.l (gd p 6).rows) (frzT p r) k,.l (gd p 7).rows,gd q 0]) (frzT p r).rows.length 0 (fun k hk=>?_) ?_ (N:=(gd p 4).rows.length+1) (Nat.lt_succ_of_le (touchS_len _ _ _))
 ·simp only [Int.natCast_zero,dropsS,putsS] at e
  rw [hh,ht,Bool.not_true] at e
  dsimp only at e ⊢
  rw [hq,nd_true,iter_at e]
  case e=>rfl
  dsimp only [Out.pay,Out.code,Option.getD_some,Option.isSome_some]
  simp only [gd_cons_zero,gd_cons_succ]
  have q1:=dropsS_len (t:=frzT p r) hlo (Nat.le_refl _)
  have q2:(gd (sub (dupShard (sub p 0 9)) 0 9) 5).rows.length≤(gd p 5).rows.length:=kpL_len _ _ _
  rw [leI_t (show ((dropsS (.l (gd p 4).rows) (frzT p r) (frzT p r).rows.length).rows.length:Int)≤40000 by omega),leI_t (show ((gd (sub (dupShard (sub p 0 9)) 0 9) 5).rows.length:Int)≤1000000000 by omega),Bool.and_self,nd_true]
  unfold frzI2
  generalize dropsS (.l (gd p 4).rows) (frzT p r) (frzT p r).rows.length=L
  generalize putsS (.l (gd p 6).rows) (frzT p r) (frzT p r).rows.length=W
  show some (bo,bif ltI 0 ((touchD (frzO p (gd q 0) r L W) (sub r 0 2) (.b true)).rows.length:Int) then some (1,frzO p (gd q 0) r L W ++ [.l [],.i 5]) else some (1,frzO p (gd q 0) r L W ++ [withinD (.l (gd p 3).rows) (sub r 0 2) (.b true),.i 0]))=_
  cases ltI 0 ((touchD (frzO p (gd q 0) r L W) (sub r 0 2) (.b true)).rows.length:Int) <;> rfl
 ·show i_ShardFreezeL0 _ p q r [_,_,_,_,_,_,_,_,_,_,_,_,_,_,_,_,_,_,_,_,_,_,_,_,_,.i ((frzT p r).rows.length:Int),.i (k:Int),_,_,_,_,_,_,_,_,_,_,_,_,_,_,_,_,_,_,_,_,_,_,_,_,_,_,_,_,_]=_
  rw [i_ShardFreezeR0]
  obtain ⟨a1,_⟩:=putsS_mem (t:=frzT p r) hw6 k (by omega)
  have a2:=putsS_len (.l (gd p 6).rows) (frzT p r) k
  have a2:_≤(gd p 6).rows.length+k:=a2
  simp only [int_i,c_lt hk,nd_ix hk,Int.toNat_natCast,nd_true,w64_succ hk (show (frzT p r).rows.length≤9223372036854775807 by omega),ascB_t a1,leI_t (show ((putsS (.l (gd p 6).rows) (frzT p r) k).rows.length:Int)≤40000 by omega),Bool.and_self]
  rfl
 ·show i_ShardFreezeL0 _ p q r [_,_,_,_,_,_,_,_,_,_,_,_,_,_,_,_,_,_,_,_,_,_,_,_,_,.i ((frzT p r).rows.length:Int),.i ((frzT p r).rows.length:Int),_,_,_,_,_,_,_,_,_,_,_,_,_,_,_,_,_,_,_,_,_,_,_,_,_,_,_,_,_]=_
  rw [i_ShardFreezeR0]
  simp only [int_i,c_nlt]
end Go.Proofs.YtpdfmcmnjikppaaGreat
namespace Go.Proofs.YtpdfmcmnjikppaaGreat
def eM (s:Sh) (F:List D→D→T × Bool):List T→Option (T × Bool)
 | [v,⟨.one (.c (.d (.int .i64))),[kd]⟩]=>bif v.sh==s then some (F v.p kd) else none
 | _=>none
theorem eM_ok {P:Program} {f:FuncId} {s:Sh} {F:List D→D→T × Bool} (h:∀ p q,(F p q).2=true→SoundFn P f [⟨s,p⟩,.c (.d (.int .i64)) q] (F p q).1):EntOk P (f,eM s F):=by
 intro args r hr0
 have hr:eM s F args=some (r,true):=hr0
 clear hr0
 unfold eM at hr
 split at hr
 ·rename_i v kd
  cases hb:(v.sh==s) with
  | false=>rw [hb] at hr; cases hr
  | true =>
   rw [hb,cond_true,Option.some.injEq] at hr
   obtain ⟨sh,p⟩:=v
   have e:sh=s:=by simpa using hb
   subst e
   have:=h p kd
   rw [hr] at this
   exact this rfl
 ·cases hr
inductive Fld where
 | i (off:Nat)
 | b (off:Nat)
 | m (off:Nat) (F:List D→D→List D) (c:D→Nat)
def stF (w:Nat) (f:Fld) (r:List D) (k:D):List D × D:=
 match f with
 | .i off=>(setSub (sub r 0 w) off [k],.i (w64 (k.int+1)))
 | .b off=>(setSub (sub r 0 w) off [.b (k.int.tmod 3==0)],.i (w64 (k.int+1)))
 | .m off F _=>(setSub (sub r 0 w) off [gd (F [gd r off] k) 1],gd (F [gd r off] k) 0)
def rowF (w:Nat):List Fld→List D→D→List D × D
 | [],r,k=>(r,k)
 | f::fs,r,k=>rowF w fs (stF w f r k).1 (stF w f r k).2
def rnd (w:Nat) (i:Int):List Fld→List (List D)→D→(List (List D)→D→Out)→Out
 | [],rows,k,K=>K rows k
 | f::fs,rows,k,K=>nd (inRange i rows.length) (rnd w i fs (rows.set i.toNat (stF w f (rows.getD i.toNat []) k).1) (stF w f (rows.getD i.toNat []) k).2 K)
theorem getD_set_self {l:List (List D)} {i:Nat} {a:List D} (h:i<l.length):(l.set i a).getD i []=a:=by
 simp [List.getD_eq_getElem?_getD,h]
theorem rnd_eq {w i:Nat} {K:List (List D)→D→Out}:∀ {fs:List Fld} {rows:List (List D)} {k:D},i<rows.length→rnd w (i:Int) fs rows k K=K (rows.set i (rowF w fs (rows.getD i []) k).1) (rowF w fs (rows.getD i []) k).2
 | [],rows,k,h=>by
  simp only [rnd,rowF]
  congr 1
  rw [List.getD_eq_getElem?_getD,List.getElem?_eq_getElem h]
  simp
 | f::fs,rows,k,h=>by
  simp only [rnd,rowF,Int.toNat_natCast]
  rw [nd_ix h,rnd_eq (by simpa using h),getD_set_self h,List.set_set]
def mkTo (f:List D→D→List D × D) (rows:List (List D)) (k:D):Nat→List (List D) × D
 | 0=>(rows,k)
 | j+1=>((mkTo f rows k j).1.set j (f ((mkTo f rows k j).1.getD j []) (mkTo f rows k j).2).1,(f ((mkTo f rows k j).1.getD j []) (mkTo f rows k j).2).2)
theorem mkTo_len (f:List D→D→List D × D) (rows:List (List D)) (k:D):∀ j,(mkTo f rows k j).1.length=rows.length
 | 0=>rfl
 | j+1=>by simp [mkTo,mkTo_len f rows k j]
theorem mkTo_hi (f:List D→D→List D × D) (rows:List (List D)) (k:D):∀ j i,j≤i→(mkTo f rows k j).1.getD i []=rows.getD i []
 | 0,i,_=>rfl
 | j+1,i,h=>by
  rw [← mkTo_hi f rows k j i (by omega)]
  simp only [mkTo,List.getD_eq_getElem?_getD,List.getElem?_set]
  rw [if_neg (by omega)]
def mkZ (f:List D→D→List D × D) (z k:D):Nat→D
 | 0=>z
 | j+1=>.l (mkTo f z.rows k (j+1)).1
theorem mkZ_rows (f:List D→D→List D × D) (z k:D):∀ j,(mkZ f z k j).rows=(mkTo f z.rows k j).1
 | 0=>rfl
 | _+1=>rfl
def mkAll (f:List D→D→List D × D) (z k:D):List D:= [(mkTo f z.rows k z.rows.length).2,mkZ f z k z.rows.length]
theorem mk_loop {L:List D→Out} {w:Nat} {fs:List Fld} {x2:D} (h:∀ x0 x1 x3,L [x0,x1,x2,x3]=bif ltI x3.int (x0.rows.length:Int) then rnd w x3.int fs x0.rows x1 (fun rows k=>nx [.l rows,k,x2,.i (w64 (x3.int+1))]) else ex 0 [x0,x1,x2,x3]) {z k:D} (hl:z.rows.length≤9223372036854775807) :
  iter L (z.rows.length+1) [z,k,x2,.i 0]=some (2,[mkZ (rowF w fs) z k z.rows.length,(mkTo (rowF w fs) z.rows k z.rows.length).2,x2,.i (z.rows.length:Int)]):=by
 have e:=run_loop (L:=L) (fun j => [mkZ (rowF w fs) z k j,(mkTo (rowF w fs) z.rows k j).2,x2,.i (j:Int)]) z.rows.length 0 (fun j hj=>?_) ?_ (N:=z.rows.length+1) (by omega)
 ·simp only [Int.natCast_zero,Nat.zero_add] at e
  exact e
 ·have hlen:=mkTo_len (rowF w fs) z.rows k j
  rw [h]
  simp only [int_i,mkZ_rows,hlen,c_lt hj]
  rw [rnd_eq (by rw [hlen]; exact hj),w64_succ hj hl]
  rfl
 ·have hlen:=mkTo_len (rowF w fs) z.rows k z.rows.length
  rw [h]
  simp only [int_i,mkZ_rows,hlen,c_nlt]
theorem mk_sound {P:Program} {call:FuncId→List T→Option (T × Bool)} (hcall:CallOk P call) {ks:List Nat} {f:FuncId} {fn:Func} {e:TypeId} {p:List D} {q:D} {L:Nat→List D→D→List D→Out} {w:Nat} {fs:List Fld} (hen:∀ vs w,(callFunc f vs).run P w=.ok (.enter f vs) w) (hf:P.funcs[f]?=some fn)
  (hR:∀ N x0 x1 x2 x3,L N p q [x0,x1,x2,x3]=bif ltI x3.int (x0.rows.length:Int) then rnd w x3.int fs x0.rows x1 (fun rows k=>nx [.l rows,k,x2,.i (w64 (x3.int+1))]) else ex 0 [x0,x1,x2,x3])
  (hev:∀ N,evFnM P call N ks fn [⟨.one (.c (.d (.sl e))),p⟩,.c (.d (.int .i64)) q]=some (bo,(let o0:=iter (L N p q) N [gd p 0,q,.i 0,.i 0]; nd o0.isSome (nd (o0.code==2) (some (1,[gd o0.pay 1,gd o0.pay 0])))))) :
  SoundFn P f [⟨.one (.c (.d (.sl e))),p⟩,.c (.d (.int .i64)) q] ⟨shM,mkAll (rowF w fs) (gd p 0) q⟩:=by
 refine evFnM_sound (N:=(gd p 0).rows.length+1) (ks:=ks) (key:=bo) hcall hen hf fun hw=>?_
 have hl:(gd p 0).rows.length≤9223372036854775807:=by
  have hw:WD P (.sl e) (gd p 0):=hw
  cases hw with
  | sl _ _ _ _ h _=>exact h
 rw [hev,mk_loop (fun x0 x1 x3=>hR _ x0 x1 _ x3) hl]
 rfl
def Fld.off:Fld→Nat
 | .i o=>o
 | .b o=>o
 | .m o _ _=>o
def cF (r:List D):Fld→Nat
 | .i _=>1
 | .b _=>1
 | .m o _ c=>c (gd r o)
def cFs:List Fld→List D→Nat
 | [],_=>0
 | f::fs,r=>cF r f+cFs fs r
def FldOk (w:Nat):Fld→Prop
 | .i o=>o<w
 | .b o=>o<w
 | .m o F c=>o<w∧∀ x q:D,0≤q.int→q.int+c x≤4611686018427387904→(gd (F [x] q) 0).int=q.int+c x
def FldsOk (w:Nat):List Fld→Prop
 | []=>True
 | f::fs=>FldOk w f∧FldsOk w fs
def apartF:List Fld→Bool
 | []=>true
 | f::fs=>fs.all (fun g=>f.off != g.off)&&apartF fs
theorem FldOk.lt {w:Nat} {f:Fld} (h:FldOk w f):f.off<w:=by
 cases f <;> first | exact h | exact h.1
theorem gd_stF {w:Nat} {f:Fld} {r:List D} {k:D} {j:Nat} (h:f.off≠j) (hj:j<w):gd (stF w f r k).1 j=gd r j:=by
 have key:∀ (o:Nat) (d:D),o≠j→gd (setSub (sub r 0 w) o [d]) j=gd r j:=fun o d ho=>by
  show gd ((sub r 0 w).set o d) j=_
  have:gd ((sub r 0 w).set o d) j=gd (sub r 0 w) j:=by
   simp only [gd,List.getD_eq_getElem?_getD,List.getElem?_set,if_neg ho]
  rw [this,gd_sub _ _ _ _ hj,Nat.zero_add]
 cases f with
 | i o=>exact key o _ h
 | b o=>exact key o _ h
 | m o F c=>exact key o _ h
theorem cFs_congr {w:Nat} {r r':List D}:∀ {fs:List Fld},FldsOk w fs→(∀ f∈fs,gd r' f.off=gd r f.off)→cFs fs r'=cFs fs r
 | [],_,_=>rfl
 | f::fs,hok,h=>by
  have h1:cF r' f=cF r f:=by
   have:=h f (by simp)
   cases f with
   | i o=>rfl
   | b o=>rfl
   | m o F c=>show c (gd r' o)=c (gd r o); rw [show gd r' o=gd r o from this]
  simp only [cFs,h1,cFs_congr hok.2 fun g hg=>h g (by simp [hg])]
theorem FldsOk.mem {w:Nat}:∀ {fs:List Fld},FldsOk w fs→∀ f∈fs,FldOk w f
 | [],_,f,h=>by simp at h
 | g::fs,hok,f,h=>by
  rcases List.mem_cons.1 h with rfl | h
  ·exact hok.1
  ·exact hok.2.mem f h
theorem rowF_k {w:Nat}:∀ {fs:List Fld} {r:List D} {k:D},apartF fs=true→FldsOk w fs→0≤k.int→k.int+cFs fs r≤4611686018427387904→(rowF w fs r k).2.int=k.int+cFs fs r
 | [],r,k,_,_,_,_=>by simp [rowF,cFs]
 | f::fs,r,k,ha,hok,h0,h1=>by
  simp only [apartF,Bool.and_eq_true,List.all_eq_true] at ha
  simp only [cFs] at h1
  push_cast at h1
  have hc:cFs fs (stF w f r k).1=cFs fs r:=cFs_congr hok.2 fun g hg=>gd_stF (by simpa using ha.1 g hg) (hok.2.mem g hg).lt
  have hk:(stF w f r k).2.int=k.int+cF r f:=by
   cases f with
   | i o=>show w64 (k.int+1)=k.int+((1:Nat):Int); simp only [cF] at h1; rw [w64_id (by omega) (by omega)]; rfl
   | b o=>show w64 (k.int+1)=k.int+((1:Nat):Int); simp only [cF] at h1; rw [w64_id (by omega) (by omega)]; rfl
   | m o F c=>simp only [cF] at h1; exact hok.1.2 _ _ h0 (by omega)
  have:=rowF_k (r:=(stF w f r k).1) (k:=(stF w f r k).2) ha.2 hok.2 (by omega) (by rw [hc]; omega)
  simp only [rowF,cFs]
  push_cast
  omega
theorem total_take {f:List D→Nat} (rows:List (List D)):∀ j,j<rows.length→total f (rows.take (j+1))=total f (rows.take j)+f (rows.getD j []):=fun j hj=>by
 unfold total
 rw [List.take_add_one,List.map_append,List.sum_append,List.getElem?_eq_getElem hj]
 simp [List.getD_eq_getElem?_getD,hj]
theorem total_take_le {f:List D→Nat} (rows:List (List D)) (j:Nat):total f (rows.take j)≤total f rows:=by
 unfold total
 conv=>rhs; rw [← List.take_append_drop j rows]
 rw [List.map_append,List.sum_append]
 omega
theorem mkAll_k {w:Nat} {fs:List Fld} {x q:D} (ha:apartF fs=true) (hok:FldsOk w fs) (h0:0≤q.int) (h1:q.int+total (cFs fs) x.rows≤4611686018427387904):(gd (mkAll (rowF w fs) x q) 0).int=q.int+total (cFs fs) x.rows:=by
 have key:∀ j,j≤x.rows.length→(mkTo (rowF w fs) x.rows q j).2.int=q.int+total (cFs fs) (x.rows.take j):=by
  intro j
  induction j with
  | zero=>intro _; simp [mkTo,total]
  | succ j ih =>
   intro hj
   have ih:=ih (by omega)
   have ht:=total_take (f:=cFs fs) x.rows j (by omega)
   have hle:=total_take_le (f:=cFs fs) x.rows (j+1)
   simp only [mkTo]
   rw [mkTo_hi _ _ _ j j (Nat.le_refl _),rowF_k ha hok (by omega) (by omega),ih,ht]
   push_cast
   omega
 have:=key x.rows.length (Nat.le_refl _)
 rw [List.take_length] at this
 exact this
theorem bd_flat {fs:List Fld} {f:List D→List D} (h:∀ r,cFs fs (f r)≤16) (z:D):total (cFs fs) (D.l (z.rows.map fun r=>f r)).rows≤16*z.rows.length:=by
 show total (cFs fs) (z.rows.map fun r=>f r)≤_
 generalize z.rows=l
 induction l with
 | nil=>simp [total]
 | cons r l ih =>
  have:=h r
  simp only [total,List.map_cons,List.sum_cons,List.length_cons] at ih ⊢
  omega
theorem bd_deep {fs:List Fld} {f:List D→List D} {s:List D→Nat} (h:∀ r,cFs fs (f r)≤16+16*s r) (z:D):total (cFs fs) (D.l (z.rows.map fun r=>f r)).rows≤16*(z.rows.length+total s z.rows):=by
 show total (cFs fs) (z.rows.map fun r=>f r)≤_
 generalize z.rows=l
 induction l with
 | nil=>simp [total]
 | cons r l ih =>
  have:=h r
  simp only [total,List.map_cons,List.sum_cons,List.length_cons] at ih ⊢
  omega
end Go.Proofs.YtpdfmcmnjikppaaGreat
namespace Go.Proofs.YtpdfmcmnjikppaaGreat
set_option maxRecDepth 4096
set_option maxHeartbeats 1000000
abbrev mkIntST:FuncId→List T→Option (T × Bool):=find []
theorem mkIntST_ok:CallOk Tryz.prog mkIntST:=find_ok (fN)
abbrev mkIntSK:List Nat:= [0,1,4,5,9]
noncomputable def mkIntSL (N:Nat) (p:List D) (q:D):List D→Out:=loopOfM Tryz.prog mkIntST N mkIntSK Tryz.f86 [⟨sd (.sl 3),p⟩,.c (.d si) q] 0
def mkIntSf:List Fld:= [.i 0]
def mkIntS (p:List D) (q:D):List D:=mkAll (rowF 1 mkIntSf) (gd p 0) q
def ctIntS (z:D):Nat:=total (cFs mkIntSf) z.rows
theorem mkIntSR (N:Nat) (p:List D) (q x0 x1 x2 x3:D):mkIntSL N p q [x0,x1,x2,x3]=bif ltI x3.int (x0.rows.length:Int) then rnd 1 x3.int mkIntSf x0.rows x1 (fun rows k=>nx [.l rows,k,x2,.i (w64 (x3.int+1))]) else ex 0 [x0,x1,x2,x3]:=by kernel_rfl
theorem mkIntS_ev (N:Nat) (p:List D) (q:D):evFnM Tryz.prog mkIntST N mkIntSK Tryz.f86 [⟨sd (.sl 3),p⟩,.c (.d si) q]=some (bo,(let o0:=iter (mkIntSL N p q) N [gd p 0,q,.i 0,.i 0]; nd o0.isSome (nd (o0.code==2) (some (1,[gd o0.pay 1,gd o0.pay 0]))))):=by kernel_rfl
def mkIntSE:Ent:=(86,eM (sd (.sl 3)) fun p q=>(⟨shM,mkIntS p q⟩,true))
theorem mkIntS_ok:EntOk Tryz.prog mkIntSE:=eM_ok fun p q _=>mk_sound (L:=mkIntSL) (fs:=mkIntSf) (w:=1) (ks:=mkIntSK) mkIntST_ok (enters Tryz.func86) Tryz.func86 (fun N x0 x1 x2 x3=>mkIntSR N p q x0 x1 x2 x3) (fun N=>mkIntS_ev N p q)
theorem mkIntS_k {x q:D} (h0:0≤q.int) (h1:q.int+ctIntS x≤4611686018427387904):(gd (mkIntS [x] q) 0).int=q.int+ctIntS x:=mkAll_k (w:=1) (fs:=mkIntSf) (by decide) (by
 unfold mkIntSf
 exact ⟨(by decide:0<1),trivial⟩) h0 h1
theorem bdIntS (z:D):ctIntS (cpIntS z)≤16*sizeIntS z:=bd_flat (f:=fun r=>cpInt r) (fun r=>by show 1+0≤16; omega) z
abbrev mkRangeST:FuncId→List T→Option (T × Bool):=find []
theorem mkRangeST_ok:CallOk Tryz.prog mkRangeST:=find_ok (fN)
abbrev mkRangeSK:List Nat:= [0,1,4,5,9]
noncomputable def mkRangeSL (N:Nat) (p:List D) (q:D):List D→Out:=loopOfM Tryz.prog mkRangeST N mkRangeSK Tryz.f28 [⟨sd (.sl 41),p⟩,.c (.d si) q] 0
def mkRangeSf:List Fld:= [.i 0,.i 1]
def mkRangeS (p:List D) (q:D):List D:=mkAll (rowF 2 mkRangeSf) (gd p 0) q
def ctRangeS (z:D):Nat:=total (cFs mkRangeSf) z.rows
theorem mkRangeSR (N:Nat) (p:List D) (q x0 x1 x2 x3:D):mkRangeSL N p q [x0,x1,x2,x3]=bif ltI x3.int (x0.rows.length:Int) then rnd 2 x3.int mkRangeSf x0.rows x1 (fun rows k=>nx [.l rows,k,x2,.i (w64 (x3.int+1))]) else ex 0 [x0,x1,x2,x3]:=by kernel_rfl
theorem mkRangeS_ev (N:Nat) (p:List D) (q:D):evFnM Tryz.prog mkRangeST N mkRangeSK Tryz.f28 [⟨sd (.sl 41),p⟩,.c (.d si) q]=some (bo,(let o0:=iter (mkRangeSL N p q) N [gd p 0,q,.i 0,.i 0]; nd o0.isSome (nd (o0.code==2) (some (1,[gd o0.pay 1,gd o0.pay 0]))))):=by kernel_rfl
def mkRangeSE:Ent:=(28,eM (sd (.sl 41)) fun p q=>(⟨shM,mkRangeS p q⟩,true))
theorem mkRangeS_ok:EntOk Tryz.prog mkRangeSE:=eM_ok fun p q _=>mk_sound (L:=mkRangeSL) (fs:=mkRangeSf) (w:=2) (ks:=mkRangeSK) mkRangeST_ok (enters Tryz.func28) Tryz.func28 (fun N x0 x1 x2 x3=>mkRangeSR N p q x0 x1 x2 x3) (fun N=>mkRangeS_ev N p q)
theorem mkRangeS_k {x q:D} (h0:0≤q.int) (h1:q.int+ctRangeS x≤4611686018427387904):(gd (mkRangeS [x] q) 0).int=q.int+ctRangeS x:=mkAll_k (w:=2) (fs:=mkRangeSf) (by decide) (by
 unfold mkRangeSf
 exact ⟨(by decide:0<2),(by decide:1<2),trivial⟩) h0 h1
theorem bdRangeS (z:D):ctRangeS (cpRangeS z)≤16*sizeRangeS z:=bd_flat (f:=fun r=>cpRange (sub r 0 2)) (fun r=>by show 1+(1+(0))≤16; omega) z
abbrev mkCellST:FuncId→List T→Option (T × Bool):=find []
theorem mkCellST_ok:CallOk Tryz.prog mkCellST:=find_ok (fN)
abbrev mkCellSK:List Nat:= [0,1,4,5,9]
noncomputable def mkCellSL (N:Nat) (p:List D) (q:D):List D→Out:=loopOfM Tryz.prog mkCellST N mkCellSK Tryz.f17 [⟨sd (.sl 108),p⟩,.c (.d si) q] 0
def mkCellSf:List Fld:= [.i 0,.i 1]
def mkCellS (p:List D) (q:D):List D:=mkAll (rowF 2 mkCellSf) (gd p 0) q
def ctCellS (z:D):Nat:=total (cFs mkCellSf) z.rows
theorem mkCellSR (N:Nat) (p:List D) (q x0 x1 x2 x3:D):mkCellSL N p q [x0,x1,x2,x3]=bif ltI x3.int (x0.rows.length:Int) then rnd 2 x3.int mkCellSf x0.rows x1 (fun rows k=>nx [.l rows,k,x2,.i (w64 (x3.int+1))]) else ex 0 [x0,x1,x2,x3]:=by kernel_rfl
theorem mkCellS_ev (N:Nat) (p:List D) (q:D):evFnM Tryz.prog mkCellST N mkCellSK Tryz.f17 [⟨sd (.sl 108),p⟩,.c (.d si) q]=some (bo,(let o0:=iter (mkCellSL N p q) N [gd p 0,q,.i 0,.i 0]; nd o0.isSome (nd (o0.code==2) (some (1,[gd o0.pay 1,gd o0.pay 0]))))):=by kernel_rfl
def mkCellSE:Ent:=(17,eM (sd (.sl 108)) fun p q=>(⟨shM,mkCellS p q⟩,true))
theorem mkCellS_ok:EntOk Tryz.prog mkCellSE:=eM_ok fun p q _=>mk_sound (L:=mkCellSL) (fs:=mkCellSf) (w:=2) (ks:=mkCellSK) mkCellST_ok (enters Tryz.func17) Tryz.func17 (fun N x0 x1 x2 x3=>mkCellSR N p q x0 x1 x2 x3) (fun N=>mkCellS_ev N p q)
theorem mkCellS_k {x q:D} (h0:0≤q.int) (h1:q.int+ctCellS x≤4611686018427387904):(gd (mkCellS [x] q) 0).int=q.int+ctCellS x:=mkAll_k (w:=2) (fs:=mkCellSf) (by decide) (by
 unfold mkCellSf
 exact ⟨(by decide:0<2),(by decide:1<2),trivial⟩) h0 h1
theorem bdCellS (z:D):ctCellS (cpCellS z)≤16*sizeCellS z:=bd_flat (f:=fun r=>cpCell (sub r 0 2)) (fun r=>by show 1+(1+(0))≤16; omega) z
abbrev mkWriteST:FuncId→List T→Option (T × Bool):=find []
theorem mkWriteST_ok:CallOk Tryz.prog mkWriteST:=find_ok (fN)
abbrev mkWriteSK:List Nat:= [0,1,4,5,9]
noncomputable def mkWriteSL (N:Nat) (p:List D) (q:D):List D→Out:=loopOfM Tryz.prog mkWriteST N mkWriteSK Tryz.f29 [⟨sd (.sl 70),p⟩,.c (.d si) q] 0
def mkWriteSf:List Fld:= [.i 0,.i 1]
def mkWriteS (p:List D) (q:D):List D:=mkAll (rowF 2 mkWriteSf) (gd p 0) q
def ctWriteS (z:D):Nat:=total (cFs mkWriteSf) z.rows
theorem mkWriteSR (N:Nat) (p:List D) (q x0 x1 x2 x3:D):mkWriteSL N p q [x0,x1,x2,x3]=bif ltI x3.int (x0.rows.length:Int) then rnd 2 x3.int mkWriteSf x0.rows x1 (fun rows k=>nx [.l rows,k,x2,.i (w64 (x3.int+1))]) else ex 0 [x0,x1,x2,x3]:=by kernel_rfl
theorem mkWriteS_ev (N:Nat) (p:List D) (q:D):evFnM Tryz.prog mkWriteST N mkWriteSK Tryz.f29 [⟨sd (.sl 70),p⟩,.c (.d si) q]=some (bo,(let o0:=iter (mkWriteSL N p q) N [gd p 0,q,.i 0,.i 0]; nd o0.isSome (nd (o0.code==2) (some (1,[gd o0.pay 1,gd o0.pay 0]))))):=by kernel_rfl
def mkWriteSE:Ent:=(29,eM (sd (.sl 70)) fun p q=>(⟨shM,mkWriteS p q⟩,true))
theorem mkWriteS_ok:EntOk Tryz.prog mkWriteSE:=eM_ok fun p q _=>mk_sound (L:=mkWriteSL) (fs:=mkWriteSf) (w:=2) (ks:=mkWriteSK) mkWriteST_ok (enters Tryz.func29) Tryz.func29 (fun N x0 x1 x2 x3=>mkWriteSR N p q x0 x1 x2 x3) (fun N=>mkWriteS_ev N p q)
theorem mkWriteS_k {x q:D} (h0:0≤q.int) (h1:q.int+ctWriteS x≤4611686018427387904):(gd (mkWriteS [x] q) 0).int=q.int+ctWriteS x:=mkAll_k (w:=2) (fs:=mkWriteSf) (by decide) (by
 unfold mkWriteSf
 exact ⟨(by decide:0<2),(by decide:1<2),trivial⟩) h0 h1
theorem bdWriteS (z:D):ctWriteS (cpWriteS z)≤16*sizeWriteS z:=bd_flat (f:=fun r=>cpWrite (sub r 0 2)) (fun r=>by show 1+(1+(0))≤16; omega) z
abbrev mkLockST:FuncId→List T→Option (T × Bool):=find []
theorem mkLockST_ok:CallOk Tryz.prog mkLockST:=find_ok (fN)
abbrev mkLockSK:List Nat:= [0,1,4,5,9]
noncomputable def mkLockSL (N:Nat) (p:List D) (q:D):List D→Out:=loopOfM Tryz.prog mkLockST N mkLockSK Tryz.f84 [⟨sd (.sl 93),p⟩,.c (.d si) q] 0
def mkLockSf:List Fld:= [.i 0,.i 1,.i 2,.i 3]
def mkLockS (p:List D) (q:D):List D:=mkAll (rowF 4 mkLockSf) (gd p 0) q
def ctLockS (z:D):Nat:=total (cFs mkLockSf) z.rows
theorem mkLockSR (N:Nat) (p:List D) (q x0 x1 x2 x3:D):mkLockSL N p q [x0,x1,x2,x3]=bif ltI x3.int (x0.rows.length:Int) then rnd 4 x3.int mkLockSf x0.rows x1 (fun rows k=>nx [.l rows,k,x2,.i (w64 (x3.int+1))]) else ex 0 [x0,x1,x2,x3]:=by kernel_rfl
theorem mkLockS_ev (N:Nat) (p:List D) (q:D):evFnM Tryz.prog mkLockST N mkLockSK Tryz.f84 [⟨sd (.sl 93),p⟩,.c (.d si) q]=some (bo,(let o0:=iter (mkLockSL N p q) N [gd p 0,q,.i 0,.i 0]; nd o0.isSome (nd (o0.code==2) (some (1,[gd o0.pay 1,gd o0.pay 0]))))):=by kernel_rfl
def mkLockSE:Ent:=(84,eM (sd (.sl 93)) fun p q=>(⟨shM,mkLockS p q⟩,true))
theorem mkLockS_ok:EntOk Tryz.prog mkLockSE:=eM_ok fun p q _=>mk_sound (L:=mkLockSL) (fs:=mkLockSf) (w:=4) (ks:=mkLockSK) mkLockST_ok (enters Tryz.func84) Tryz.func84 (fun N x0 x1 x2 x3=>mkLockSR N p q x0 x1 x2 x3) (fun N=>mkLockS_ev N p q)
theorem mkLockS_k {x q:D} (h0:0≤q.int) (h1:q.int+ctLockS x≤4611686018427387904):(gd (mkLockS [x] q) 0).int=q.int+ctLockS x:=mkAll_k (w:=4) (fs:=mkLockSf) (by decide) (by
 unfold mkLockSf
 exact ⟨(by decide:0<4),(by decide:1<4),(by decide:2<4),(by decide:3<4),trivial⟩) h0 h1
theorem bdLockS (z:D):ctLockS (cpLockS z)≤16*sizeLockS z:=bd_flat (f:=fun r=>cpLock (sub r 0 4)) (fun r=>by show 1+(1+(1+(1+(0))))≤16; omega) z
abbrev mkHeldST:FuncId→List T→Option (T × Bool):=find [mkWriteSE]
theorem mkHeldST_ok:CallOk Tryz.prog mkHeldST:=find_ok (fC ⟨mkWriteS_ok,fN⟩)
abbrev mkHeldSK:List Nat:= [0,1,4,5,9]
noncomputable def mkHeldSL (N:Nat) (p:List D) (q:D):List D→Out:=loopOfM Tryz.prog mkHeldST N mkHeldSK Tryz.f85 [⟨sd (.sl 75),p⟩,.c (.d si) q] 0
def mkHeldSf:List Fld:= [.i 0,.m 1 mkWriteS ctWriteS]
def mkHeldS (p:List D) (q:D):List D:=mkAll (rowF 2 mkHeldSf) (gd p 0) q
def ctHeldS (z:D):Nat:=total (cFs mkHeldSf) z.rows
theorem mkHeldSR (N:Nat) (p:List D) (q x0 x1 x2 x3:D):mkHeldSL N p q [x0,x1,x2,x3]=bif ltI x3.int (x0.rows.length:Int) then rnd 2 x3.int mkHeldSf x0.rows x1 (fun rows k=>nx [.l rows,k,x2,.i (w64 (x3.int+1))]) else ex 0 [x0,x1,x2,x3]:=by kernel_rfl
theorem mkHeldS_ev (N:Nat) (p:List D) (q:D):evFnM Tryz.prog mkHeldST N mkHeldSK Tryz.f85 [⟨sd (.sl 75),p⟩,.c (.d si) q]=some (bo,(let o0:=iter (mkHeldSL N p q) N [gd p 0,q,.i 0,.i 0]; nd o0.isSome (nd (o0.code==2) (some (1,[gd o0.pay 1,gd o0.pay 0]))))):=by kernel_rfl
def mkHeldSE:Ent:=(85,eM (sd (.sl 75)) fun p q=>(⟨shM,mkHeldS p q⟩,true))
theorem mkHeldS_ok:EntOk Tryz.prog mkHeldSE:=eM_ok fun p q _=>mk_sound (L:=mkHeldSL) (fs:=mkHeldSf) (w:=2) (ks:=mkHeldSK) mkHeldST_ok (enters Tryz.func85) Tryz.func85 (fun N x0 x1 x2 x3=>mkHeldSR N p q x0 x1 x2 x3) (fun N=>mkHeldS_ev N p q)
theorem mkHeldS_k {x q:D} (h0:0≤q.int) (h1:q.int+ctHeldS x≤4611686018427387904):(gd (mkHeldS [x] q) 0).int=q.int+ctHeldS x:=mkAll_k (w:=2) (fs:=mkHeldSf) (by decide) (by
 unfold mkHeldSf
 exact ⟨(by decide:0<2),⟨by decide,fun x q h0 h1=>mkWriteS_k h0 h1⟩,trivial⟩) h0 h1
theorem bdHeldS (z:D):ctHeldS (cpHeldS z)≤16*sizeHeldS z:=bd_deep (f:=fun r=>cpHeld (sub r 0 2)) (s:=fun r=>sizeHeld (sub r 0 2)) (fun r=>by
 show 1+(ctWriteS (cpWriteS (gd r 1))+(0))≤16+16*(sizeWriteS (gd r 1))
 have:=bdWriteS (gd r 1)
 omega) z
end Go.Proofs.YtpdfmcmnjikppaaGreat
namespace Go.Proofs.YtpdfmcmnjikppaaGreat
set_option maxRecDepth 4096
set_option maxHeartbeats 1000000
abbrev mkShardT:FuncId→List T→Option (T × Bool):=find [mkRangeSE,mkCellSE,mkLockSE,mkHeldSE,mkIntSE]
theorem mkShardT_ok:CallOk Tryz.prog mkShardT:=find_ok (fC ⟨mkRangeS_ok,fC ⟨mkCellS_ok,fC ⟨mkLockS_ok,fC ⟨mkHeldS_ok,fC ⟨mkIntS_ok,fN⟩⟩⟩⟩⟩)
abbrev mkShardK:List Nat:= [0,1,2,4]
def mkShard (p:List D) (q:D):List D:=
 let r1:=mkRangeS ([gd p 1]) q
 let r2:=mkRangeS ([gd p 2]) (gd r1 0)
 let r3:=mkCellS ([gd p 3]) (gd r2 0)
 let r4:=mkLockS ([gd p 4]) (gd r3 0)
 let r5:=mkHeldS ([gd p 5]) (gd r4 0)
 let r6:=mkIntS ([gd p 6]) (gd r5 0)
 let r7:=mkIntS ([gd p 7]) (gd r6 0)
 [gd r7 0,gd p 0,.l (gd r1 1).rows,.l (gd r2 1).rows,.l (gd r3 1).rows,.l (gd r4 1).rows,.l (gd r5 1).rows,.l (gd r6 1).rows,.l (gd r7 1).rows,gd p 8]
def ctShard (p:List D):Nat:=ctRangeS (gd p 1)+(ctRangeS (gd p 2)+(ctCellS (gd p 3)+(ctLockS (gd p 4)+(ctHeldS (gd p 5)+(ctIntS (gd p 6)+(ctIntS (gd p 7)))))))
theorem mkShard_ev (p:List D) (q:D):evFnM Tryz.prog mkShardT 0 mkShardK Tryz.f16 [⟨ag rIShard,p⟩,.c (.d si) q]=some (bo,some (1,mkShard p q)):=by kernel_rfl
def mkShardE:Ent:=(16,eM (ag rIShard) fun p q=>(⟨shM,mkShard p q⟩,true))
theorem mkShard_ok:EntOk Tryz.prog mkShardE:=eM_ok fun p q _=>evFnM_sound (N:=0) (ks:=mkShardK) (key:=bo) mkShardT_ok (enters Tryz.func16) Tryz.func16 fun hw=>mkShard_ev p q
theorem mkShard_k {p:List D} {q:D} (h0:0≤q.int) (h1:q.int+ctShard p≤4611686018427387904):(gd (mkShard p q) 0).int=q.int+ctShard p:=by
 unfold ctShard at h1 ⊢
 have e1:=mkRangeS_k (x:=gd p 1) (q:=q) (by omega) (by omega)
 have e2:=mkRangeS_k (x:=gd p 2) (q:=gd (mkRangeS [gd p 1] q) 0) (by omega) (by omega)
 have e3:=mkCellS_k (x:=gd p 3) (q:=gd (mkRangeS [gd p 2] (gd (mkRangeS [gd p 1] q) 0)) 0) (by omega) (by omega)
 have e4:=mkLockS_k (x:=gd p 4) (q:=gd (mkCellS [gd p 3] (gd (mkRangeS [gd p 2] (gd (mkRangeS [gd p 1] q) 0)) 0)) 0) (by omega) (by omega)
 have e5:=mkHeldS_k (x:=gd p 5) (q:=gd (mkLockS [gd p 4] (gd (mkCellS [gd p 3] (gd (mkRangeS [gd p 2] (gd (mkRangeS [gd p 1] q) 0)) 0)) 0)) 0) (by omega) (by omega)
 have e6:=mkIntS_k (x:=gd p 6) (q:=gd (mkHeldS [gd p 5] (gd (mkLockS [gd p 4] (gd (mkCellS [gd p 3] (gd (mkRangeS [gd p 2] (gd (mkRangeS [gd p 1] q) 0)) 0)) 0)) 0)) 0) (by omega) (by omega)
 have e7:=mkIntS_k (x:=gd p 7) (q:=gd (mkIntS [gd p 6] (gd (mkHeldS [gd p 5] (gd (mkLockS [gd p 4] (gd (mkCellS [gd p 3] (gd (mkRangeS [gd p 2] (gd (mkRangeS [gd p 1] q) 0)) 0)) 0)) 0)) 0)) 0) (by omega) (by omega)
 show (gd (mkIntS [gd p 7] (gd (mkIntS [gd p 6] (gd (mkHeldS [gd p 5] (gd (mkLockS [gd p 4] (gd (mkCellS [gd p 3] (gd (mkRangeS [gd p 2] (gd (mkRangeS [gd p 1] q) 0)) 0)) 0)) 0)) 0)) 0)) 0).int=_
 omega
theorem bdShard (p:List D):ctShard (cpShard p)≤16*sizeShard p:=by
 have:=bdRangeS (gd p 1)
 have:=bdRangeS (gd p 2)
 have:=bdCellS (gd p 3)
 have:=bdLockS (gd p 4)
 have:=bdHeldS (gd p 5)
 have:=bdIntS (gd p 6)
 have:=bdIntS (gd p 7)
 show ctRangeS (cpRangeS (gd p 1))+(ctRangeS (cpRangeS (gd p 2))+(ctCellS (cpCellS (gd p 3))+(ctLockS (cpLockS (gd p 4))+(ctHeldS (cpHeldS (gd p 5))+(ctIntS (cpIntS (gd p 6))+(ctIntS (cpIntS (gd p 7))))))))≤16*(sizeRangeS (gd p 1)+(sizeRangeS (gd p 2)+(sizeCellS (gd p 3)+(sizeLockS (gd p 4)+(sizeHeldS (gd p 5)+(sizeIntS (gd p 6)+(sizeIntS (gd p 7))))))))
 omega
end Go.Proofs.YtpdfmcmnjikppaaGreat
namespace Go.Proofs.YtpdfmcmnjikppaaGreat
open Go.RowKit Go.Lib
theorem hasTx_iff (z:D) (n:Int):hasTx z n=true↔∃ r∈z.rows,(gd r 0).int=n:=by
 unfold hasTx
 rw [List.any_eq_true]
 constructor
 ·rintro ⟨k,hk,h⟩
  have hk:=List.mem_range.1 hk
  exact ⟨z.rows.getD k [],by rw [getD_row hk]; exact List.getElem_mem hk,by simpa using h⟩
 ·rintro ⟨r,hr,h⟩
  obtain ⟨k,hk,rfl⟩:=List.getElem_of_mem hr
  exact ⟨k,List.mem_range.2 hk,by rw [getD_row hk]; simpa using h⟩
theorem hasI_iff (z:D) (n:Int):hasInt z n=true↔∃ r∈z.rows,(gd r 0).int=n:=by
 unfold hasInt anyS
 rw [List.any_eq_true]
 constructor
 ·rintro ⟨k,hk,h⟩
  have hk:=List.mem_range.1 hk
  exact ⟨z.rows.getD k [],by rw [getD_row hk]; exact List.getElem_mem hk,by simpa using (beq_iff_eq.1 h).symm⟩
 ·rintro ⟨r,hr,h⟩
  obtain ⟨k,hk,rfl⟩:=List.getElem_of_mem hr
  exact ⟨k,List.mem_range.2 hk,by rw [getD_row hk]; simpa using h.symm⟩
theorem txs_has (z:D) (n:Int):hasInt (txsD z) n=hasTx z n:=by
 rw [Bool.eq_iff_iff,hasI_iff,hasTx_iff]
 constructor
 ·rintro ⟨r,hr,h⟩
  obtain ⟨x,hx,rfl⟩:=List.mem_map.1 hr
  exact ⟨x,hx,h⟩
 ·rintro ⟨r,hr,h⟩
  exact ⟨[gd r 0],List.mem_map.2 ⟨r,hr,rfl⟩,h⟩
theorem dup_helds (p:List D):gd (sub (dupShard p) 0 9) 5=.l ((gd p 5).rows.map fun r => [gd r 0,.l (gd r 1).rows]):=by
 show D.l (kpL (fun _=>true) (fun k => [gd ((gd p 5).rows.getD k []) 0,.l (gd ((gd p 5).rows.getD k []) 1).rows]) (gd p 5).rows.length)=_
 rw [kpL_rows (gd p 5).rows (fun _=>true) (fun r => [gd r 0,.l (gd r 1).rows]),List.filter_eq_self.2 (fun _ _=>rfl)]
theorem dup_has (p:List D) (n:Int):hasInt (txsD (gd (sub (dupShard p) 0 9) 5)) n=hasTx (gd p 5) n:=by
 rw [txs_has,dup_helds,Bool.eq_iff_iff,hasTx_iff,hasTx_iff]
 constructor
 ·rintro ⟨r,hr,h⟩
  obtain ⟨x,hx,rfl⟩:=List.mem_map.1 hr
  exact ⟨x,hx,h⟩
 ·rintro ⟨r,hr,h⟩
  exact ⟨[gd r 0,.l (gd r 1).rows],List.mem_map.2 ⟨r,hr,rfl⟩,h⟩
theorem meetC_of {r x:List D} (hr:rangeOk (sub r 0 2)=true) (hx:lockOne x=true):meetC r x=i_meetsF [gd x 1,gd x 2] [gd r 0,gd r 1]:=by
 simp only [lockOne,Bool.and_eq_true] at hx
 unfold meetC
 rw [show gd (sub (meetR [gd x 1,gd x 2] [gd r 0,gd r 1]) 0 3) 2=gd (meetR [gd x 1,gd x 2] [gd r 0,gd r 1]) 2 from rfl,meetR_2]
 exact meetB_of hx.2.1 hr
theorem scan_within {z:D} {a:List D}:eqCellS (withinD (.l z.rows) a (.b true)) (scanD z a true)=true:=by
 unfold withinD scanD
 rw [show storeOk (.l z.rows)=storeOk z from rfl]
 cases h:storeOk z&&rangeOk (sub a 0 2)
 ·rfl
 ·rw [cond_true,cond_true,kpL_rows z.rows (fun r=>inB (gd r 0).int (gd a 0).int (w64 ((gd a 1).int - 1))==true) (fun r=>sub r 0 2)]
  have e1:keptWI (.l (D.l z.rows).rows) (.l [[.l [sub a 0 2],.l [[D.b true]]]])=.l (z.rows.filter fun r=>inB (gd r 0).int (gd a 0).int (w64 ((gd a 1).int - 1))==true):=by
   show D.l (z.rows.filter fun r => !(!(inB (gd r 0).int (gd a 0).int (w64 ((gd a 1).int - 1))==true)))=_
   simp only [Bool.not_not]
  rw [e1]
  generalize z.rows.filter _=l
  unfold eqCellS alikeS
  rw [rows_l,rows_l,List.length_map,beq_self_eq_true,Bool.true_and,List.all_eq_true]
  intro k hk
  have hk:=List.mem_range.1 hk
  have e:(l.map fun r=>sub r 0 2).getD k []=sub (l.getD k []) 0 2:=by
   rw [getD_row (by simpa using hk),List.getElem_map,getD_row hk]
  rw [e]
  exact eqCell_refl _
theorem touch_mem {p q:List D} {h:Bool} {m:Int}:m∈numsOf (touchD p q (.b h))↔∃ r∈(gd p 4).rows,touchC p q h r=true∧(gd r 0).int=m:=by
 have:=(touchS_mem (gd p 4) (touchC p q h) (gd p 4).rows.length (Nat.le_refl _)).2 m
 rwa [List.take_length] at this
theorem frz_same (p:List D) (q:D) (r:List D):eqShard (sub (sub (frzI p q r) 0 11) 0 9) (sub (sub (frzS p q r) 0 11) 0 9)=true∧eqCellS (gd (sub (frzI p q r) 0 11) 9) (gd (sub (frzS p q r) 0 11) 9)=true∧(gd (sub (frzI p q r) 0 11) 10).int=(gd (sub (frzS p q r) 0 11) 10).int:=by
 unfold frzI frzS
 cases hc:s_l13RankF (sub p 0 9) [q] (sub r 0 2) != 0 with
 | true =>
  rw [cond_true,cond_true]
  generalize s_l13RankF (sub p 0 9) [q] (sub r 0 2)=c
  unfold asWas refShard
  cases h1:c==1
  ·rw [show ((D.i c).int==1)=false from h1,cond_false,cond_false]
   exact ⟨eqShard_refl _,eqCellS_refl _,rfl⟩
  ·rw [show ((D.i c).int==1)=true from h1,cond_true,cond_true]
   exact ⟨eqShard_refl _,eqCellS_refl _,(beq_iff_eq.1 h1).symm⟩
 | false =>
 obtain ⟨hsh,hra⟩:=rank_0 hc
 obtain ⟨hlo,hl4,hl5,hl6,hw6,hst,hr1,hr2⟩:=shard_lens hsh
 have hlo:locksOk (gd p 4)=true:=hlo
 have hlo':locksOk (.l (gd p 4).rows)=true:=hlo
 have hw6:(numsOf (.l (gd p 6).rows)).Pairwise (· < ·):=ascOk_asc (z:=gd p 6) hw6
 have hr1:rangesOk (gd p 1)=true:=hr1
 rw [cond_false,cond_false]
 have hh:rangesHave (gd p 1) (sub r 0 2)=haveAll (gd p 1) (sub r 0 2):=by
  unfold rangesHave
  rw [hr1,hra,Bool.true_and,Bool.true_and]
 rw [hh]
 cases haveAll (gd p 1) (sub r 0 2) with
 | false =>
  rw [Bool.not_false,cond_true,cond_true]
  exact ⟨eqShard_refl _,eqCellS_refl _,rfl⟩
 | true =>
 rw [Bool.not_true,cond_false,cond_false]
 cases (gd (sub (chgT (gd p 2) (sub r 0 2) (.b true)) 0 2) 1).bool with
 | false =>
  rw [Bool.not_false,cond_true,cond_true]
  exact ⟨eqShard_refl _,eqCellS_refl _,rfl⟩
 | true =>
 rw [Bool.not_true,cond_false,cond_false]
 have hone:=((locksOk_iff _).1 hlo).1
 obtain ⟨d1,_⟩:=dropsS_rows (t:=frzT p r) hlo' (frzT p r).rows.length (Nat.le_refl _)
 obtain ⟨w1,w2⟩:=putsS_mem (t:=frzT p r) hw6 (frzT p r).rows.length (Nat.le_refl _)
 obtain ⟨ids,s1,s2,s3,s4,s5⟩:=wndS_mem (l:=.l (gd p 4).rows) (z:=gd p 4) (M:=meetC r) (H:=heldC p) hw6 (gd p 4).rows.length (Nat.le_refl _)
 have htn:(numsOf (frzT p r)).take (frzT p r).rows.length=numsOf (frzT p r):=List.take_of_length_le (by rw [numsOf_len]; exact Nat.le_refl _)
 rw [htn] at d1 w2
 rw [List.take_length] at s1 s5
 have hT:∀ m,m∈numsOf (frzT p r)↔m∈ids:=fun m=>by
  rw [s1,frzT,touch_mem]
  refine exists_congr fun x=>and_congr_right fun hx=>and_congr_left fun _=>?_
  have hx:x∈(gd p 4).rows:=hx
  unfold touchC
  rw [txs_has,show (gd (sub r 0 2) 0)=gd r 0 from rfl,show (gd (sub r 0 2) 1)=gd r 1 from rfl,← meetC_of hra (hone x hx)]
  show (meetC r x&&(hasTx (gd p 5) (gd x 0).int==false))=true↔_
  unfold heldC
  cases meetC r x <;> cases hasTx (gd p 5) (gd x 0).int <;> simp
 generalize hL:dropsS (.l (gd p 4).rows) (frzT p r) (frzT p r).rows.length=L at *
 generalize hW:putsS (.l (gd p 6).rows) (frzT p r) (frzT p r).rows.length=W at *
 generalize wndS (.l (gd p 4).rows) (.l (gd p 6).rows) (gd p 4) (meetC r) (heldC p) (gd p 4).rows.length=s at *
 obtain ⟨l,w,wait⟩:=s
 dsimp only at s1 s2 s3 s4 s5
 have eL:eqLockS L l=true:=eqLockS_nrm (by
  rw [s2,d1]
  show List.map nrm ((gd p 4).rows.filter _)=(List.map nrm (gd p 4).rows).filter _
  rw [List.filter_map]
  congr 1
  refine List.filter_congr fun x _=>?_
  show (!(numsOf (frzT p r)).contains (gd x 0).int) = !(ids.contains (gd x 0).int)
  congr 1
  rw [Bool.eq_iff_iff,List.contains_iff_mem,List.contains_iff_mem]
  exact hT _)
 have eW:eqIntS W w=true:=eqIntS_nums (asc_ext w1 s3 fun m=>by rw [w2,s4,hT])
 have eT:ltI 0 ((touchD (frzO p q r L W) (sub r 0 2) (.b true)).rows.length:Int)=wait:=by
  have hne:0<(touchD (frzO p q r L W) (sub r 0 2) (.b true)).rows.length↔∃ x∈(gd p 4).rows,(meetC r x&&heldC p x)=true:=by
   rw [← numsOf_len]
   constructor
   ·intro h
    obtain ⟨m,hm⟩:=List.exists_mem_of_length_pos h
    obtain ⟨x,hx,hx2,_⟩:=touch_mem.1 hm
    have hx:x∈L.rows:=hx
    rw [d1] at hx
    have hx1:x∈(gd p 4).rows:=(List.mem_filter.1 hx).1
    refine ⟨x,hx1,?_⟩
    have hx2:(i_meetsF [gd x 1,gd x 2] [gd r 0,gd r 1]&&(hasInt (txsD (gd (sub (dupShard (sub p 0 9)) 0 9) 5)) (gd x 0).int==true))=true:=hx2
    rw [dup_has,← meetC_of hra (hone x hx1),show (gd (sub p 0 9) 5)=gd p 5 from rfl] at hx2
    unfold heldC
    simpa using hx2
   ·rintro ⟨x,hx,h⟩
    rw [Bool.and_eq_true] at h
    have hx2:x∈L.rows:=by
     rw [d1]
     refine List.mem_filter.2 ⟨hx,?_⟩
     rw [Bool.not_eq_true',← Bool.not_eq_true,List.contains_iff_mem,hT,s1]
     rintro ⟨y,_,hy,e⟩
     simp only [Bool.and_eq_true,Bool.not_eq_true'] at hy
     have h2:=h.2
     unfold heldC at h2 hy
     rw [e,h2] at hy
     exact absurd hy.2 (by simp)
    refine List.length_pos_of_mem ((touch_mem (p:=frzO p q r L W) (q:=sub r 0 2) (h:=true) (m:=(gd x 0).int)).2 ⟨x,hx2,?_,rfl⟩)
    show (i_meetsF [gd x 1,gd x 2] [gd r 0,gd r 1]&&(hasInt (txsD (gd (sub (dupShard (sub p 0 9)) 0 9) 5)) (gd x 0).int==true))=true
    rw [dup_has,← meetC_of hra (hone x hx),show (gd (sub p 0 9) 5)=gd p 5 from rfl]
    have h2:=h.2
    unfold heldC at h2
    rw [h.1,h2]
    rfl
  rw [Bool.eq_iff_iff,s5,← hne]
  unfold ltI
  rw [decide_eq_true_eq]
  omega
 have eS:∀ a b,eqShard (sub (sub (frzO p q r L W++a) 0 11) 0 9) (sub (sub ([gd p 0,.l (gd p 1).rows,gd (sub (chgT (gd p 2) (sub r 0 2) (.b true)) 0 2) 0,.l (gd p 3).rows,l,gd (sub (dupShard (sub p 0 9)) 0 9) 5,w,.l (gd p 7).rows,q]++b) 0 11) 0 9)=true:=fun a b=>by
  show (((gd p 0).int==(gd p 0).int)&&(eqRangeS (.l (gd p 1).rows) (.l (gd p 1).rows)&&(eqRangeS (gd (sub (chgT (gd p 2) (sub r 0 2) (.b true)) 0 2) 0) (gd (sub (chgT (gd p 2) (sub r 0 2) (.b true)) 0 2) 0)&&(eqCellS (.l (gd p 3).rows) (.l (gd p 3).rows)&&(eqLockS L l&&(eqHeldS (gd (sub (dupShard (sub p 0 9)) 0 9) 5) (gd (sub (dupShard (sub p 0 9)) 0 9) 5)&&(eqIntS W w&&(eqIntS (.l (gd p 7).rows) (.l (gd p 7).rows)&&((q.int==q.int)&&true)))))))))=true
  rw [eL,eW,eqRangeS_refl,eqRangeS_refl,eqCellS_refl,eqHeldS_refl,eqIntS_refl,beq_self_eq_true,beq_self_eq_true]
  rfl
 unfold frzI2 frzS2
 rw [eT]
 cases wait
 ·rw [cond_false,cond_false]
  exact ⟨eS _ _,scan_within,rfl⟩
 ·rw [cond_true,cond_true]
  exact ⟨eS _ _,eqCellS_refl _,rfl⟩
end Go.Proofs.YtpdfmcmnjikppaaGreat
namespace Go.Proofs.YtpdfmcmnjikppaaGreat
inductive Fh where
 | i (off:Nat)
 | b (off:Nat)
 | m (off:Nat) (G:D→D→D)
def hrnd (i:Int) (rows:List (List D)):List Fh→D→(D→Out)→Out
 | [],k,K=>K k
 | .i off::fs,k,K=>nd (inRange i rows.length) (bif (gd (rows.getD i.toNat []) off).int != k.int then oi (-1) else hrnd i rows fs (.i (w64 (k.int+1))) K)
 | .b off::fs,k,K=>nd (inRange i rows.length) (bif !((gd (rows.getD i.toNat []) off).bool==(k.int.tmod 3==0)) then oi (-1) else hrnd i rows fs (.i (w64 (k.int+1))) K)
 | .m off G::fs,k,K=>nd (inRange i rows.length) (bif ltI (G (gd (rows.getD i.toNat []) off) k).int 0 then oi (-1) else hrnd i rows fs (G (gd (rows.getD i.toNat []) off) k) K)
def hdRow (r:List D):List Fh→D→Option D
 | [],k=>some k
 | .i off::fs,k=>bif (gd r off).int != k.int then none else hdRow r fs (.i (w64 (k.int+1)))
 | .b off::fs,k=>bif !((gd r off).bool==(k.int.tmod 3==0)) then none else hdRow r fs (.i (w64 (k.int+1)))
 | .m off G::fs,k=>bif ltI (G (gd r off) k).int 0 then none else hdRow r fs (G (gd r off) k)
theorem hrnd_eq {i:Nat} {rows:List (List D)} {K:D→Out} (hi:i<rows.length):∀ {fs:List Fh} {k:D},hrnd (i:Int) rows fs k K=(match hdRow (rows.getD i []) fs k with | some k'=>K k' | none=>oi (-1))
 | [],k=>rfl
 | .i off::fs,k=>by
  simp only [hrnd,hdRow,Int.toNat_natCast,nd_ix hi]
  cases ((gd (rows.getD i []) off).int != k.int)
  ·simp only [cond_false]; exact hrnd_eq hi
  ·rfl
 | .b off::fs,k=>by
  simp only [hrnd,hdRow,Int.toNat_natCast,nd_ix hi]
  cases (!((gd (rows.getD i []) off).bool==(k.int.tmod 3==0)))
  ·simp only [cond_false]; exact hrnd_eq hi
  ·rfl
 | .m off G::fs,k=>by
  simp only [hrnd,hdRow,Int.toNat_natCast,nd_ix hi]
  cases (ltI (G (gd (rows.getD i []) off) k).int 0)
  ·simp only [cond_false]; exact hrnd_eq hi
  ·rfl
def hdTo (fs:List Fh) (rows:List (List D)) (q:D):Nat→D
 | 0=>q
 | j+1=>(hdRow (rows.getD j []) fs (hdTo fs rows q j)).getD D0
def hdC (fs:List Fh) (rows:List (List D)) (q:D) (j:Nat):Bool:=(hdRow (rows.getD j []) fs (hdTo fs rows q j)).isSome
def hdAll (fs:List Fh) (z q:D):D:=bif (List.range z.rows.length).all (hdC fs z.rows q) then hdTo fs z.rows q z.rows.length else .i (-1)
theorem hd_sound {P:Program} {call:FuncId→List T→Option (T × Bool)} (hcall:CallOk P call) {ks:List Nat} {f:FuncId} {fn:Func} {e:TypeId} {p q:List D} {L:Nat→List D→List D→List D→Out} {fs:List Fh} (hen:∀ vs w,(callFunc f vs).run P w=.ok (.enter f vs) w) (hf:P.funcs[f]?=some fn)
  (hR:∀ N x0 x1 x2 x3,L N p q [x0,x1,x2,x3]=bif ltI x3.int (x0.rows.length:Int) then hrnd x3.int x0.rows fs x1 (fun k=>nx [x0,k,x2,.i (w64 (x3.int+1))]) else ex 0 [x0,x1,x2,x3])
  (hev:∀ N,evFn P call N ks fn ri [⟨.one (.c (.d (.sl e))),p⟩,⟨ri,q⟩]=some (bo,(let o0:=iter (L N p q) N [gd p 0,gd q 0,.i 0,.i 0]; nd o0.isSome (bif o0.code==1 then some (1,o0.pay) else nd (o0.code==2) (some (1,[gd o0.pay 1])))))) :
  SoundFn P f [⟨.one (.c (.d (.sl e))),p⟩,⟨ri,q⟩] ⟨ri,[hdAll fs (gd p 0) (gd q 0)]⟩:=by
 refine evFn_sound (N:=(gd p 0).rows.length+1) (ks:=ks) (key:=bo) hcall hen hf fun hw=>?_
 have hl:(gd p 0).rows.length≤9223372036854775807:=by
  have hw:WD P (.sl e) (gd p 0):=hw ⟨.one (.c (.d (.sl e))),p⟩ (by simp)
  cases hw with
  | sl _ _ _ _ h _=>exact h
 rw [hev]
 have e:=for_loop (L:=L ((gd p 0).rows.length+1) p q) (fun j => [gd p 0,hdTo fs (gd p 0).rows (gd q 0) j,.i 0,.i (j:Int)]) (gd p 0).rows.length (hdC fs (gd p 0).rows (gd q 0)) [.i (-1)] 0 (fun j hj=>?_) ?_ (N:=(gd p 0).rows.length+1) (by omega)
 ·simp only [Int.natCast_zero,Nat.zero_add] at e
  rw [show hdTo fs (gd p 0).rows (gd q 0) 0=gd q 0 from rfl] at e
  rw [e]
  unfold hdAll
  cases (List.range (gd p 0).rows.length).all (hdC fs (gd p 0).rows (gd q 0)) <;> rfl
 ·rw [hR]
  simp only [int_i,c_lt hj]
  rw [hrnd_eq hj,w64_succ hj hl]
  unfold hdC
  simp only [hdTo]
  cases hdRow ((gd p 0).rows.getD j []) fs (hdTo fs (gd p 0).rows (gd q 0) j) <;> rfl
 ·rw [hR]
  simp only [int_i,c_nlt]
def Fh.off:Fh→Nat
 | .i o=>o
 | .b o=>o
 | .m o _=>o
def pairF:Fld→Fh→Prop
 | .i o,.i o'=>o=o'
 | .b o,.b o'=>o=o'
 | .m o F c,.m o' G=>o=o'∧∀ x q:D,0≤q.int→q.int+c x≤4611686018427387904→G (gd (F [x] q) 1) q=gd (F [x] q) 0
 | _,_=>False
def pairFs:List Fld→List Fh→Prop
 | [],[]=>True
 | f::fs,h::hs=>pairF f h∧pairFs fs hs
 | _,_=>False
theorem pairFs.offs:∀ {fs:List Fld} {hs:List Fh},pairFs fs hs→hs.map Fh.off=fs.map Fld.off
 | [],[],_=>rfl
 | f::fs,h::hs,hp=>by
  have h1:h.off=f.off:=by
   have:=hp.1
   cases f <;> cases h <;> first | exact this.symm | exact this.1.symm | exact this.elim
  simp only [List.map_cons,h1,pairFs.offs hp.2]
 | [],_::_,hp=>hp.elim
 | _::_,[],hp=>hp.elim
theorem gd_rowF {w:Nat}:∀ {fs:List Fld} {r:List D} {k:D} {j:Nat},(∀ f∈fs,f.off≠j)→j<w→gd (rowF w fs r k).1 j=gd r j
 | [],r,k,j,_,_=>rfl
 | f::fs,r,k,j,h,hj=>by
  rw [rowF,gd_rowF (fun g hg=>h g (by simp [hg])) hj,gd_stF (h f (by simp)) hj]
theorem stF_at {w:Nat} {r:List D} {k:D}:∀ {f:Fld},f.off<w→gd (stF w f r k).1 f.off=(match f with | .i _=>k | .b _=>.b (k.int.tmod 3==0) | .m o F _=>gd (F [gd r o] k) 1):=by
 have key:∀ (o:Nat) (d:D),o<w→gd (setSub (sub r 0 w) o [d]) o=d:=fun o d ho=>by
  show gd ((sub r 0 w).set o d) o=d
  simp [gd,List.getD_eq_getElem?_getD,List.getElem?_set,sub_length,ho]
 intro f hf
 cases f with
 | i o=>exact key o _ hf
 | b o=>exact key o _ hf
 | m o F c=>exact key o _ hf
theorem held_row {w:Nat}:∀ {fs:List Fld} {hs:List Fh} {r:List D} {k:D},pairFs fs hs→apartF fs=true→FldsOk w fs→0≤k.int→k.int+cFs fs r≤4611686018427387904→hdRow (rowF w fs r k).1 hs k=some (rowF w fs r k).2
 | [],[],r,k,_,_,_,_,_=>rfl
 | [],_::_,_,_,hp,_,_,_,_=>hp.elim
 | _::_,[],_,_,hp,_,_,_,_=>hp.elim
 | f::fs,h::hs,r,k,hp,ha,hok,h0,h1=>by
  simp only [apartF,Bool.and_eq_true,List.all_eq_true] at ha
  simp only [cFs] at h1
  push_cast at h1
  have hc:cFs fs (stF w f r k).1=cFs fs r:=cFs_congr hok.2 fun g hg=>gd_stF (by simpa using ha.1 g hg) (hok.2.mem g hg).lt
  have hk:(stF w f r k).2.int=k.int+cF r f:=by
   cases f with
   | i o=>show w64 (k.int+1)=k.int+((1:Nat):Int); simp only [cF] at h1; rw [w64_id (by omega) (by omega)]; rfl
   | b o=>show w64 (k.int+1)=k.int+((1:Nat):Int); simp only [cF] at h1; rw [w64_id (by omega) (by omega)]; rfl
   | m o F c=>simp only [cF] at h1; exact hok.1.2 _ _ h0 (by omega)
  have ih:=held_row (r:=(stF w f r k).1) (k:=(stF w f r k).2) hp.2 ha.2 hok.2 (by omega) (by rw [hc]; omega)
  have hg:gd (rowF w fs (stF w f r k).1 (stF w f r k).2).1 f.off=gd (stF w f r k).1 f.off:=gd_rowF (fun g hg e=>by have:=ha.1 g hg; rw [e] at this; simp at this) hok.1.lt
  rw [stF_at hok.1.lt] at hg
  simp only [rowF]
  have hp1:=hp.1
  cases f with
  | i o =>
   cases h with
   | i o' =>
    have e:o=o':=hp1
    subst e
    simp only [Fld.off] at hg
    simp only [hdRow,hg,bne_self_eq_false,cond_false]
    exact ih
   | _=>exact hp1.elim
  | b o =>
   cases h with
   | b o' =>
    have e:o=o':=hp1
    subst e
    simp only [Fld.off] at hg
    simp only [hdRow,hg,bool_b,beq_self_eq_true,Bool.not_true,cond_false]
    exact ih
   | _=>exact hp1.elim
  | m o F c =>
   cases h with
   | m o' G =>
    obtain ⟨e,hG⟩:=hp1
    subst e
    simp only [Fld.off] at hg
    simp only [cF] at h1 hk
    have e1:=hG (gd r o) k h0 (by omega)
    simp only [hdRow,hg,e1]
    rw [show (gd (F [gd r o] k) 0)=(stF w (.m o F c) r k).2 from rfl,ltI_f (by omega),cond_false]
    exact ih
   | _=>exact hp1.elim
theorem held_all {w:Nat} {fs:List Fld} {hs:List Fh} {x q:D} (hp:pairFs fs hs) (ha:apartF fs=true) (hok:FldsOk w fs) (h0:0≤q.int) (h1:q.int+total (cFs fs) x.rows≤4611686018427387904):hdAll hs (gd (mkAll (rowF w fs) x q) 1) q=gd (mkAll (rowF w fs) x q) 0:=by
 show hdAll hs (mkZ (rowF w fs) x q x.rows.length) q=(mkTo (rowF w fs) x.rows q x.rows.length).2
 have hk:∀ j,j≤x.rows.length→(mkTo (rowF w fs) x.rows q j).2.int=q.int+total (cFs fs) (x.rows.take j):=by
  intro j
  induction j with
  | zero=>intro _; simp [mkTo,total]
  | succ j ih =>
   intro hj
   have ih:=ih (by omega)
   have ht:=total_take (f:=cFs fs) x.rows j (by omega)
   have hle:=total_take_le (f:=cFs fs) x.rows (j+1)
   simp only [mkTo]
   rw [mkTo_hi _ _ _ j j (Nat.le_refl _),rowF_k ha hok (by omega) (by omega),ih,ht]
   push_cast
   omega
 have hlo:∀ n j,j<n→n≤x.rows.length→(mkTo (rowF w fs) x.rows q n).1.getD j []=(rowF w fs (x.rows.getD j []) (mkTo (rowF w fs) x.rows q j).2).1:=by
  intro n
  induction n with
  | zero=>intro j hj; omega
  | succ n ih =>
   intro j hj hn
   simp only [mkTo]
   by_cases e:j=n
   ·subst e
    rw [getD_set_self (by rw [mkTo_len]; omega),mkTo_hi _ _ _ j j (Nat.le_refl _)]
   ·rw [← ih j (by omega) (by omega)]
    simp only [List.getD_eq_getElem?_getD,List.getElem?_set]
    rw [if_neg (by omega)]
 have hrow:∀ j,j<x.rows.length→hdRow ((mkTo (rowF w fs) x.rows q x.rows.length).1.getD j []) hs (mkTo (rowF w fs) x.rows q j).2=some (mkTo (rowF w fs) x.rows q (j+1)).2:=by
  intro j hj
  have ht:=total_take (f:=cFs fs) x.rows j (by omega)
  have hle:=total_take_le (f:=cFs fs) x.rows (j+1)
  have hkj:=hk j (by omega)
  rw [hlo _ j hj (Nat.le_refl _),held_row hp ha hok (by omega) (by omega)]
  simp only [mkTo]
  rw [mkTo_hi _ _ _ j j (Nat.le_refl _)]
 have hto:∀ j,j≤x.rows.length→hdTo hs (mkTo (rowF w fs) x.rows q x.rows.length).1 q j=(mkTo (rowF w fs) x.rows q j).2:=by
  intro j
  induction j with
  | zero=>intro _; rfl
  | succ j ih =>
   intro hj
   simp only [hdTo]
   rw [ih (by omega),hrow j (by omega)]
   rfl
 unfold hdAll
 rw [mkZ_rows,mkTo_len]
 have hall:(List.range x.rows.length).all (hdC hs (mkTo (rowF w fs) x.rows q x.rows.length).1 q)=true:=by
  rw [List.all_eq_true]
  intro j hj
  have hj:=List.mem_range.1 hj
  unfold hdC
  rw [hto j (by omega),hrow j hj]
  rfl
 rw [hall,cond_true,hto _ (Nat.le_refl _)]
theorem hd_bif (b:Bool) (x:D):(bif b then oi (-1) else some (1,[x]))=(some (1,[bif b then .i (-1) else x]):Out):=by cases b <;> rfl
end Go.Proofs.YtpdfmcmnjikppaaGreat
namespace Go.Proofs.YtpdfmcmnjikppaaGreat
set_option maxRecDepth 4096
set_option maxHeartbeats 1000000
abbrev hdIntST:FuncId→List T→Option (T × Bool):=find []
theorem hdIntST_ok:CallOk Tryz.prog hdIntST:=find_ok (fN)
abbrev hdIntSK:List Nat:= [0,1,4,5,9,17]
noncomputable def hdIntSL (N:Nat) (p q:List D):List D→Out:=loopOf Tryz.prog hdIntST N hdIntSK Tryz.f90 ri [⟨sd (.sl 3),p⟩,⟨ri,q⟩] 0
def hdIntSf:List Fh:= [.i 0]
def hdIntS (x q:D):D:=hdAll hdIntSf x q
theorem hdIntSR (N:Nat) (p q:List D) (x0 x1 x2 x3:D):hdIntSL N p q [x0,x1,x2,x3]=bif ltI x3.int (x0.rows.length:Int) then hrnd x3.int x0.rows hdIntSf x1 (fun k=>nx [x0,k,x2,.i (w64 (x3.int+1))]) else ex 0 [x0,x1,x2,x3]:=by kernel_rfl
theorem hdIntS_ev (N:Nat) (p q:List D):evFn Tryz.prog hdIntST N hdIntSK Tryz.f90 ri [⟨sd (.sl 3),p⟩,⟨ri,q⟩]=some (bo,(let o0:=iter (hdIntSL N p q) N [gd p 0,gd q 0,.i 0,.i 0]; nd o0.isSome (bif o0.code==1 then some (1,o0.pay) else nd (o0.code==2) (some (1,[gd o0.pay 1]))))):=by kernel_rfl
def hdIntSE:Ent:=(90,e2 (sd (.sl 3)) ri fun p q=>(⟨ri,[hdIntS (gd p 0) (gd q 0)]⟩,true))
theorem hdIntS_ok:EntOk Tryz.prog hdIntSE:=e2_ok fun p q _=>hd_sound (L:=hdIntSL) (fs:=hdIntSf) (ks:=hdIntSK) hdIntST_ok (enters Tryz.func90) Tryz.func90 (fun N x0 x1 x2 x3=>hdIntSR N p q x0 x1 x2 x3) (fun N=>hdIntS_ev N p q)
theorem heldIntS {x q:D} (h0:0≤q.int) (h1:q.int+ctIntS x≤4611686018427387904):hdIntS (gd (mkIntS [x] q) 1) q=gd (mkIntS [x] q) 0:=held_all (w:=1) (fs:=mkIntSf) (hs:=hdIntSf) (by
 unfold mkIntSf hdIntSf
 exact ⟨(rfl:0=0),trivial⟩) (by decide) (by
 unfold mkIntSf
 exact ⟨(by decide:0<1),trivial⟩) h0 h1
abbrev hdRangeST:FuncId→List T→Option (T × Bool):=find []
theorem hdRangeST_ok:CallOk Tryz.prog hdRangeST:=find_ok (fN)
abbrev hdRangeSK:List Nat:= [0,1,4,5,9,18,27]
noncomputable def hdRangeSL (N:Nat) (p q:List D):List D→Out:=loopOf Tryz.prog hdRangeST N hdRangeSK Tryz.f87 ri [⟨sd (.sl 41),p⟩,⟨ri,q⟩] 0
def hdRangeSf:List Fh:= [.i 0,.i 1]
def hdRangeS (x q:D):D:=hdAll hdRangeSf x q
theorem hdRangeSR (N:Nat) (p q:List D) (x0 x1 x2 x3:D):hdRangeSL N p q [x0,x1,x2,x3]=bif ltI x3.int (x0.rows.length:Int) then hrnd x3.int x0.rows hdRangeSf x1 (fun k=>nx [x0,k,x2,.i (w64 (x3.int+1))]) else ex 0 [x0,x1,x2,x3]:=by kernel_rfl
theorem hdRangeS_ev (N:Nat) (p q:List D):evFn Tryz.prog hdRangeST N hdRangeSK Tryz.f87 ri [⟨sd (.sl 41),p⟩,⟨ri,q⟩]=some (bo,(let o0:=iter (hdRangeSL N p q) N [gd p 0,gd q 0,.i 0,.i 0]; nd o0.isSome (bif o0.code==1 then some (1,o0.pay) else nd (o0.code==2) (some (1,[gd o0.pay 1]))))):=by kernel_rfl
def hdRangeSE:Ent:=(87,e2 (sd (.sl 41)) ri fun p q=>(⟨ri,[hdRangeS (gd p 0) (gd q 0)]⟩,true))
theorem hdRangeS_ok:EntOk Tryz.prog hdRangeSE:=e2_ok fun p q _=>hd_sound (L:=hdRangeSL) (fs:=hdRangeSf) (ks:=hdRangeSK) hdRangeST_ok (enters Tryz.func87) Tryz.func87 (fun N x0 x1 x2 x3=>hdRangeSR N p q x0 x1 x2 x3) (fun N=>hdRangeS_ev N p q)
theorem heldRangeS {x q:D} (h0:0≤q.int) (h1:q.int+ctRangeS x≤4611686018427387904):hdRangeS (gd (mkRangeS [x] q) 1) q=gd (mkRangeS [x] q) 0:=held_all (w:=2) (fs:=mkRangeSf) (hs:=hdRangeSf) (by
 unfold mkRangeSf hdRangeSf
 exact ⟨(rfl:0=0),(rfl:1=1),trivial⟩) (by decide) (by
 unfold mkRangeSf
 exact ⟨(by decide:0<2),(by decide:1<2),trivial⟩) h0 h1
abbrev hdCellST:FuncId→List T→Option (T × Bool):=find []
theorem hdCellST_ok:CallOk Tryz.prog hdCellST:=find_ok (fN)
abbrev hdCellSK:List Nat:= [0,1,4,5,9,18,27]
noncomputable def hdCellSL (N:Nat) (p q:List D):List D→Out:=loopOf Tryz.prog hdCellST N hdCellSK Tryz.f19 ri [⟨sd (.sl 108),p⟩,⟨ri,q⟩] 0
def hdCellSf:List Fh:= [.i 0,.i 1]
def hdCellS (x q:D):D:=hdAll hdCellSf x q
theorem hdCellSR (N:Nat) (p q:List D) (x0 x1 x2 x3:D):hdCellSL N p q [x0,x1,x2,x3]=bif ltI x3.int (x0.rows.length:Int) then hrnd x3.int x0.rows hdCellSf x1 (fun k=>nx [x0,k,x2,.i (w64 (x3.int+1))]) else ex 0 [x0,x1,x2,x3]:=by kernel_rfl
theorem hdCellS_ev (N:Nat) (p q:List D):evFn Tryz.prog hdCellST N hdCellSK Tryz.f19 ri [⟨sd (.sl 108),p⟩,⟨ri,q⟩]=some (bo,(let o0:=iter (hdCellSL N p q) N [gd p 0,gd q 0,.i 0,.i 0]; nd o0.isSome (bif o0.code==1 then some (1,o0.pay) else nd (o0.code==2) (some (1,[gd o0.pay 1]))))):=by kernel_rfl
def hdCellSE:Ent:=(19,e2 (sd (.sl 108)) ri fun p q=>(⟨ri,[hdCellS (gd p 0) (gd q 0)]⟩,true))
theorem hdCellS_ok:EntOk Tryz.prog hdCellSE:=e2_ok fun p q _=>hd_sound (L:=hdCellSL) (fs:=hdCellSf) (ks:=hdCellSK) hdCellST_ok (enters Tryz.func19) Tryz.func19 (fun N x0 x1 x2 x3=>hdCellSR N p q x0 x1 x2 x3) (fun N=>hdCellS_ev N p q)
theorem heldCellS {x q:D} (h0:0≤q.int) (h1:q.int+ctCellS x≤4611686018427387904):hdCellS (gd (mkCellS [x] q) 1) q=gd (mkCellS [x] q) 0:=held_all (w:=2) (fs:=mkCellSf) (hs:=hdCellSf) (by
 unfold mkCellSf hdCellSf
 exact ⟨(rfl:0=0),(rfl:1=1),trivial⟩) (by decide) (by
 unfold mkCellSf
 exact ⟨(by decide:0<2),(by decide:1<2),trivial⟩) h0 h1
abbrev hdWriteST:FuncId→List T→Option (T × Bool):=find []
theorem hdWriteST_ok:CallOk Tryz.prog hdWriteST:=find_ok (fN)
abbrev hdWriteSK:List Nat:= [0,1,4,5,9,18,27]
noncomputable def hdWriteSL (N:Nat) (p q:List D):List D→Out:=loopOf Tryz.prog hdWriteST N hdWriteSK Tryz.f198 ri [⟨sd (.sl 70),p⟩,⟨ri,q⟩] 0
def hdWriteSf:List Fh:= [.i 0,.i 1]
def hdWriteS (x q:D):D:=hdAll hdWriteSf x q
theorem hdWriteSR (N:Nat) (p q:List D) (x0 x1 x2 x3:D):hdWriteSL N p q [x0,x1,x2,x3]=bif ltI x3.int (x0.rows.length:Int) then hrnd x3.int x0.rows hdWriteSf x1 (fun k=>nx [x0,k,x2,.i (w64 (x3.int+1))]) else ex 0 [x0,x1,x2,x3]:=by kernel_rfl
theorem hdWriteS_ev (N:Nat) (p q:List D):evFn Tryz.prog hdWriteST N hdWriteSK Tryz.f198 ri [⟨sd (.sl 70),p⟩,⟨ri,q⟩]=some (bo,(let o0:=iter (hdWriteSL N p q) N [gd p 0,gd q 0,.i 0,.i 0]; nd o0.isSome (bif o0.code==1 then some (1,o0.pay) else nd (o0.code==2) (some (1,[gd o0.pay 1]))))):=by kernel_rfl
def hdWriteSE:Ent:=(198,e2 (sd (.sl 70)) ri fun p q=>(⟨ri,[hdWriteS (gd p 0) (gd q 0)]⟩,true))
theorem hdWriteS_ok:EntOk Tryz.prog hdWriteSE:=e2_ok fun p q _=>hd_sound (L:=hdWriteSL) (fs:=hdWriteSf) (ks:=hdWriteSK) hdWriteST_ok (enters Tryz.func198) Tryz.func198 (fun N x0 x1 x2 x3=>hdWriteSR N p q x0 x1 x2 x3) (fun N=>hdWriteS_ev N p q)
theorem heldWriteS {x q:D} (h0:0≤q.int) (h1:q.int+ctWriteS x≤4611686018427387904):hdWriteS (gd (mkWriteS [x] q) 1) q=gd (mkWriteS [x] q) 0:=held_all (w:=2) (fs:=mkWriteSf) (hs:=hdWriteSf) (by
 unfold mkWriteSf hdWriteSf
 exact ⟨(rfl:0=0),(rfl:1=1),trivial⟩) (by decide) (by
 unfold mkWriteSf
 exact ⟨(by decide:0<2),(by decide:1<2),trivial⟩) h0 h1
abbrev hdLockST:FuncId→List T→Option (T × Bool):=find []
theorem hdLockST_ok:CallOk Tryz.prog hdLockST:=find_ok (fN)
abbrev hdLockSK:List Nat:= [0,1,4,5,9,18,27,36,45]
noncomputable def hdLockSL (N:Nat) (p q:List D):List D→Out:=loopOf Tryz.prog hdLockST N hdLockSK Tryz.f88 ri [⟨sd (.sl 93),p⟩,⟨ri,q⟩] 0
def hdLockSf:List Fh:= [.i 0,.i 1,.i 2,.i 3]
def hdLockS (x q:D):D:=hdAll hdLockSf x q
theorem hdLockSR (N:Nat) (p q:List D) (x0 x1 x2 x3:D):hdLockSL N p q [x0,x1,x2,x3]=bif ltI x3.int (x0.rows.length:Int) then hrnd x3.int x0.rows hdLockSf x1 (fun k=>nx [x0,k,x2,.i (w64 (x3.int+1))]) else ex 0 [x0,x1,x2,x3]:=by kernel_rfl
theorem hdLockS_ev (N:Nat) (p q:List D):evFn Tryz.prog hdLockST N hdLockSK Tryz.f88 ri [⟨sd (.sl 93),p⟩,⟨ri,q⟩]=some (bo,(let o0:=iter (hdLockSL N p q) N [gd p 0,gd q 0,.i 0,.i 0]; nd o0.isSome (bif o0.code==1 then some (1,o0.pay) else nd (o0.code==2) (some (1,[gd o0.pay 1]))))):=by kernel_rfl
def hdLockSE:Ent:=(88,e2 (sd (.sl 93)) ri fun p q=>(⟨ri,[hdLockS (gd p 0) (gd q 0)]⟩,true))
theorem hdLockS_ok:EntOk Tryz.prog hdLockSE:=e2_ok fun p q _=>hd_sound (L:=hdLockSL) (fs:=hdLockSf) (ks:=hdLockSK) hdLockST_ok (enters Tryz.func88) Tryz.func88 (fun N x0 x1 x2 x3=>hdLockSR N p q x0 x1 x2 x3) (fun N=>hdLockS_ev N p q)
theorem heldLockS {x q:D} (h0:0≤q.int) (h1:q.int+ctLockS x≤4611686018427387904):hdLockS (gd (mkLockS [x] q) 1) q=gd (mkLockS [x] q) 0:=held_all (w:=4) (fs:=mkLockSf) (hs:=hdLockSf) (by
 unfold mkLockSf hdLockSf
 exact ⟨(rfl:0=0),(rfl:1=1),(rfl:2=2),(rfl:3=3),trivial⟩) (by decide) (by
 unfold mkLockSf
 exact ⟨(by decide:0<4),(by decide:1<4),(by decide:2<4),(by decide:3<4),trivial⟩) h0 h1
abbrev hdHeldST:FuncId→List T→Option (T × Bool):=find [hdWriteSE]
theorem hdHeldST_ok:CallOk Tryz.prog hdHeldST:=find_ok (fC ⟨hdWriteS_ok,fN⟩)
abbrev hdHeldSK:List Nat:= [0,1,4,5,9,18,29]
noncomputable def hdHeldSL (N:Nat) (p q:List D):List D→Out:=loopOf Tryz.prog hdHeldST N hdHeldSK Tryz.f89 ri [⟨sd (.sl 75),p⟩,⟨ri,q⟩] 0
def hdHeldSf:List Fh:= [.i 0,.m 1 hdWriteS]
def hdHeldS (x q:D):D:=hdAll hdHeldSf x q
theorem hdHeldSR (N:Nat) (p q:List D) (x0 x1 x2 x3:D):hdHeldSL N p q [x0,x1,x2,x3]=bif ltI x3.int (x0.rows.length:Int) then hrnd x3.int x0.rows hdHeldSf x1 (fun k=>nx [x0,k,x2,.i (w64 (x3.int+1))]) else ex 0 [x0,x1,x2,x3]:=by kernel_rfl
theorem hdHeldS_ev (N:Nat) (p q:List D):evFn Tryz.prog hdHeldST N hdHeldSK Tryz.f89 ri [⟨sd (.sl 75),p⟩,⟨ri,q⟩]=some (bo,(let o0:=iter (hdHeldSL N p q) N [gd p 0,gd q 0,.i 0,.i 0]; nd o0.isSome (bif o0.code==1 then some (1,o0.pay) else nd (o0.code==2) (some (1,[gd o0.pay 1]))))):=by kernel_rfl
def hdHeldSE:Ent:=(89,e2 (sd (.sl 75)) ri fun p q=>(⟨ri,[hdHeldS (gd p 0) (gd q 0)]⟩,true))
theorem hdHeldS_ok:EntOk Tryz.prog hdHeldSE:=e2_ok fun p q _=>hd_sound (L:=hdHeldSL) (fs:=hdHeldSf) (ks:=hdHeldSK) hdHeldST_ok (enters Tryz.func89) Tryz.func89 (fun N x0 x1 x2 x3=>hdHeldSR N p q x0 x1 x2 x3) (fun N=>hdHeldS_ev N p q)
theorem heldHeldS {x q:D} (h0:0≤q.int) (h1:q.int+ctHeldS x≤4611686018427387904):hdHeldS (gd (mkHeldS [x] q) 1) q=gd (mkHeldS [x] q) 0:=held_all (w:=2) (fs:=mkHeldSf) (hs:=hdHeldSf) (by
 unfold mkHeldSf hdHeldSf
 exact ⟨(rfl:0=0),⟨rfl,fun x q h0 h1=>heldWriteS h0 h1⟩,trivial⟩) (by decide) (by
 unfold mkHeldSf
 exact ⟨(by decide:0<2),⟨by decide,fun x q h0 h1=>mkWriteS_k h0 h1⟩,trivial⟩) h0 h1
end Go.Proofs.YtpdfmcmnjikppaaGreat
namespace Go.Proofs.YtpdfmcmnjikppaaGreat
set_option maxRecDepth 4096
set_option maxHeartbeats 1000000
abbrev hdShardT:FuncId→List T→Option (T × Bool):=find [hdRangeSE,hdCellSE,hdLockSE,hdHeldSE,hdIntSE]
theorem hdShardT_ok:CallOk Tryz.prog hdShardT:=find_ok (fC ⟨hdRangeS_ok,fC ⟨hdCellS_ok,fC ⟨hdLockS_ok,fC ⟨hdHeldS_ok,fC ⟨hdIntS_ok,fN⟩⟩⟩⟩⟩)
abbrev hdShardK:List Nat:= [0,1,2,4,10,16,22,28,34,40,46]
def hdShard (p:List D) (q:D):D:=bif ltI (hdRangeS (gd p 1) q).int 0 then .i (-1) else bif ltI (hdRangeS (gd p 2) (hdRangeS (gd p 1) q)).int 0 then .i (-1) else bif ltI (hdCellS (gd p 3) (hdRangeS (gd p 2) (hdRangeS (gd p 1) q))).int 0 then .i (-1) else bif ltI (hdLockS (gd p 4) (hdCellS (gd p 3) (hdRangeS (gd p 2) (hdRangeS (gd p 1) q)))).int 0 then .i (-1) else bif ltI (hdHeldS (gd p 5) (hdLockS (gd p 4) (hdCellS (gd p 3) (hdRangeS (gd p 2) (hdRangeS (gd p 1) q))))).int 0 then .i (-1) else bif ltI (hdIntS (gd p 6) (hdHeldS (gd p 5) (hdLockS (gd p 4) (hdCellS (gd p 3) (hdRangeS (gd p 2) (hdRangeS (gd p 1) q)))))).int 0 then .i (-1) else bif ltI (hdIntS (gd p 7) (hdIntS (gd p 6) (hdHeldS (gd p 5) (hdLockS (gd p 4) (hdCellS (gd p 3) (hdRangeS (gd p 2) (hdRangeS (gd p 1) q))))))).int 0 then .i (-1) else (hdIntS (gd p 7) (hdIntS (gd p 6) (hdHeldS (gd p 5) (hdLockS (gd p 4) (hdCellS (gd p 3) (hdRangeS (gd p 2) (hdRangeS (gd p 1) q)))))))
theorem hdShard_ev (p q:List D):evFn Tryz.prog hdShardT 0 hdShardK Tryz.f18 ri [⟨ag rIShard,p⟩,⟨ri,q⟩]=some (bo,bif ltI (hdRangeS (gd p 1) (gd q 0)).int 0 then oi (-1) else bif ltI (hdRangeS (gd p 2) (hdRangeS (gd p 1) (gd q 0))).int 0 then oi (-1) else bif ltI (hdCellS (gd p 3) (hdRangeS (gd p 2) (hdRangeS (gd p 1) (gd q 0)))).int 0 then oi (-1) else bif ltI (hdLockS (gd p 4) (hdCellS (gd p 3) (hdRangeS (gd p 2) (hdRangeS (gd p 1) (gd q 0))))).int 0 then oi (-1) else bif ltI (hdHeldS (gd p 5) (hdLockS (gd p 4) (hdCellS (gd p 3) (hdRangeS (gd p 2) (hdRangeS (gd p 1) (gd q 0)))))).int 0 then oi (-1) else bif ltI (hdIntS (gd p 6) (hdHeldS (gd p 5) (hdLockS (gd p 4) (hdCellS (gd p 3) (hdRangeS (gd p 2) (hdRangeS (gd p 1) (gd q 0))))))).int 0 then oi (-1) else bif ltI (hdIntS (gd p 7) (hdIntS (gd p 6) (hdHeldS (gd p 5) (hdLockS (gd p 4) (hdCellS (gd p 3) (hdRangeS (gd p 2) (hdRangeS (gd p 1) (gd q 0)))))))).int 0 then oi (-1) else some (1,[(hdIntS (gd p 7) (hdIntS (gd p 6) (hdHeldS (gd p 5) (hdLockS (gd p 4) (hdCellS (gd p 3) (hdRangeS (gd p 2) (hdRangeS (gd p 1) (gd q 0))))))))])):=by kernel_rfl
def hdShardE:Ent:=(18,e2 (ag rIShard) ri fun p q=>(⟨ri,[hdShard p (gd q 0)]⟩,true))
theorem hdShard_ok:EntOk Tryz.prog hdShardE:=e2_ok fun p q _=>evFn_sound (N:=0) (ks:=hdShardK) (key:=bo) hdShardT_ok (enters Tryz.func18) Tryz.func18 fun hw=>by
 rw [hdShard_ev]
 unfold hdShard
 simp only [hd_bif]
theorem heldShard {p:List D} {q:D} (h0:0≤q.int) (h1:q.int+ctShard p≤4611686018427387904):hdShard (sub (mkShard p q) 1 9) q=gd (mkShard p q) 0:=by
 unfold ctShard at h1
 have e1:=mkRangeS_k (x:=gd p 1) (q:=q) (by omega) (by omega)
 have e2:=mkRangeS_k (x:=gd p 2) (q:=(gd (mkRangeS [gd p 1] q) 0)) (by omega) (by omega)
 have e3:=mkCellS_k (x:=gd p 3) (q:=(gd (mkRangeS [gd p 2] (gd (mkRangeS [gd p 1] q) 0)) 0)) (by omega) (by omega)
 have e4:=mkLockS_k (x:=gd p 4) (q:=(gd (mkCellS [gd p 3] (gd (mkRangeS [gd p 2] (gd (mkRangeS [gd p 1] q) 0)) 0)) 0)) (by omega) (by omega)
 have e5:=mkHeldS_k (x:=gd p 5) (q:=(gd (mkLockS [gd p 4] (gd (mkCellS [gd p 3] (gd (mkRangeS [gd p 2] (gd (mkRangeS [gd p 1] q) 0)) 0)) 0)) 0)) (by omega) (by omega)
 have e6:=mkIntS_k (x:=gd p 6) (q:=(gd (mkHeldS [gd p 5] (gd (mkLockS [gd p 4] (gd (mkCellS [gd p 3] (gd (mkRangeS [gd p 2] (gd (mkRangeS [gd p 1] q) 0)) 0)) 0)) 0)) 0)) (by omega) (by omega)
 have e7:=mkIntS_k (x:=gd p 7) (q:=(gd (mkIntS [gd p 6] (gd (mkHeldS [gd p 5] (gd (mkLockS [gd p 4] (gd (mkCellS [gd p 3] (gd (mkRangeS [gd p 2] (gd (mkRangeS [gd p 1] q) 0)) 0)) 0)) 0)) 0)) 0)) (by omega) (by omega)
 have f1:hdRangeS (.l (gd (mkRangeS [gd p 1] q) 1).rows) q=gd (mkRangeS [gd p 1] q) 0:=heldRangeS (by omega) (by omega)
 have f2:hdRangeS (.l (gd (mkRangeS [gd p 2] (gd (mkRangeS [gd p 1] q) 0)) 1).rows) (gd (mkRangeS [gd p 1] q) 0)=gd (mkRangeS [gd p 2] (gd (mkRangeS [gd p 1] q) 0)) 0:=heldRangeS (by omega) (by omega)
 have f3:hdCellS (.l (gd (mkCellS [gd p 3] (gd (mkRangeS [gd p 2] (gd (mkRangeS [gd p 1] q) 0)) 0)) 1).rows) (gd (mkRangeS [gd p 2] (gd (mkRangeS [gd p 1] q) 0)) 0)=gd (mkCellS [gd p 3] (gd (mkRangeS [gd p 2] (gd (mkRangeS [gd p 1] q) 0)) 0)) 0:=heldCellS (by omega) (by omega)
 have f4:hdLockS (.l (gd (mkLockS [gd p 4] (gd (mkCellS [gd p 3] (gd (mkRangeS [gd p 2] (gd (mkRangeS [gd p 1] q) 0)) 0)) 0)) 1).rows) (gd (mkCellS [gd p 3] (gd (mkRangeS [gd p 2] (gd (mkRangeS [gd p 1] q) 0)) 0)) 0)=gd (mkLockS [gd p 4] (gd (mkCellS [gd p 3] (gd (mkRangeS [gd p 2] (gd (mkRangeS [gd p 1] q) 0)) 0)) 0)) 0:=heldLockS (by omega) (by omega)
 have f5:hdHeldS (.l (gd (mkHeldS [gd p 5] (gd (mkLockS [gd p 4] (gd (mkCellS [gd p 3] (gd (mkRangeS [gd p 2] (gd (mkRangeS [gd p 1] q) 0)) 0)) 0)) 0)) 1).rows) (gd (mkLockS [gd p 4] (gd (mkCellS [gd p 3] (gd (mkRangeS [gd p 2] (gd (mkRangeS [gd p 1] q) 0)) 0)) 0)) 0)=gd (mkHeldS [gd p 5] (gd (mkLockS [gd p 4] (gd (mkCellS [gd p 3] (gd (mkRangeS [gd p 2] (gd (mkRangeS [gd p 1] q) 0)) 0)) 0)) 0)) 0:=heldHeldS (by omega) (by omega)
 have f6:hdIntS (.l (gd (mkIntS [gd p 6] (gd (mkHeldS [gd p 5] (gd (mkLockS [gd p 4] (gd (mkCellS [gd p 3] (gd (mkRangeS [gd p 2] (gd (mkRangeS [gd p 1] q) 0)) 0)) 0)) 0)) 0)) 1).rows) (gd (mkHeldS [gd p 5] (gd (mkLockS [gd p 4] (gd (mkCellS [gd p 3] (gd (mkRangeS [gd p 2] (gd (mkRangeS [gd p 1] q) 0)) 0)) 0)) 0)) 0)=gd (mkIntS [gd p 6] (gd (mkHeldS [gd p 5] (gd (mkLockS [gd p 4] (gd (mkCellS [gd p 3] (gd (mkRangeS [gd p 2] (gd (mkRangeS [gd p 1] q) 0)) 0)) 0)) 0)) 0)) 0:=heldIntS (by omega) (by omega)
 have f7:hdIntS (.l (gd (mkIntS [gd p 7] (gd (mkIntS [gd p 6] (gd (mkHeldS [gd p 5] (gd (mkLockS [gd p 4] (gd (mkCellS [gd p 3] (gd (mkRangeS [gd p 2] (gd (mkRangeS [gd p 1] q) 0)) 0)) 0)) 0)) 0)) 0)) 1).rows) (gd (mkIntS [gd p 6] (gd (mkHeldS [gd p 5] (gd (mkLockS [gd p 4] (gd (mkCellS [gd p 3] (gd (mkRangeS [gd p 2] (gd (mkRangeS [gd p 1] q) 0)) 0)) 0)) 0)) 0)) 0)=gd (mkIntS [gd p 7] (gd (mkIntS [gd p 6] (gd (mkHeldS [gd p 5] (gd (mkLockS [gd p 4] (gd (mkCellS [gd p 3] (gd (mkRangeS [gd p 2] (gd (mkRangeS [gd p 1] q) 0)) 0)) 0)) 0)) 0)) 0)) 0:=heldIntS (by omega) (by omega)
 show (bif ltI (hdRangeS (.l (gd (mkRangeS [gd p 1] q) 1).rows) q).int 0 then D.i (-1) else bif ltI (hdRangeS (.l (gd (mkRangeS [gd p 2] (gd (mkRangeS [gd p 1] q) 0)) 1).rows) (hdRangeS (.l (gd (mkRangeS [gd p 1] q) 1).rows) q)).int 0 then D.i (-1) else bif ltI (hdCellS (.l (gd (mkCellS [gd p 3] (gd (mkRangeS [gd p 2] (gd (mkRangeS [gd p 1] q) 0)) 0)) 1).rows) (hdRangeS (.l (gd (mkRangeS [gd p 2] (gd (mkRangeS [gd p 1] q) 0)) 1).rows) (hdRangeS (.l (gd (mkRangeS [gd p 1] q) 1).rows) q))).int 0 then D.i (-1) else bif ltI (hdLockS (.l (gd (mkLockS [gd p 4] (gd (mkCellS [gd p 3] (gd (mkRangeS [gd p 2] (gd (mkRangeS [gd p 1] q) 0)) 0)) 0)) 1).rows) (hdCellS (.l (gd (mkCellS [gd p 3] (gd (mkRangeS [gd p 2] (gd (mkRangeS [gd p 1] q) 0)) 0)) 1).rows) (hdRangeS (.l (gd (mkRangeS [gd p 2] (gd (mkRangeS [gd p 1] q) 0)) 1).rows) (hdRangeS (.l (gd (mkRangeS [gd p 1] q) 1).rows) q)))).int 0 then D.i (-1) else bif ltI (hdHeldS (.l (gd (mkHeldS [gd p 5] (gd (mkLockS [gd p 4] (gd (mkCellS [gd p 3] (gd (mkRangeS [gd p 2] (gd (mkRangeS [gd p 1] q) 0)) 0)) 0)) 0)) 1).rows) (hdLockS (.l (gd (mkLockS [gd p 4] (gd (mkCellS [gd p 3] (gd (mkRangeS [gd p 2] (gd (mkRangeS [gd p 1] q) 0)) 0)) 0)) 1).rows) (hdCellS (.l (gd (mkCellS [gd p 3] (gd (mkRangeS [gd p 2] (gd (mkRangeS [gd p 1] q) 0)) 0)) 1).rows) (hdRangeS (.l (gd (mkRangeS [gd p 2] (gd (mkRangeS [gd p 1] q) 0)) 1).rows) (hdRangeS (.l (gd (mkRangeS [gd p 1] q) 1).rows) q))))).int 0 then D.i (-1) else bif ltI (hdIntS (.l (gd (mkIntS [gd p 6] (gd (mkHeldS [gd p 5] (gd (mkLockS [gd p 4] (gd (mkCellS [gd p 3] (gd (mkRangeS [gd p 2] (gd (mkRangeS [gd p 1] q) 0)) 0)) 0)) 0)) 0)) 1).rows) (hdHeldS (.l (gd (mkHeldS [gd p 5] (gd (mkLockS [gd p 4] (gd (mkCellS [gd p 3] (gd (mkRangeS [gd p 2] (gd (mkRangeS [gd p 1] q) 0)) 0)) 0)) 0)) 1).rows) (hdLockS (.l (gd (mkLockS [gd p 4] (gd (mkCellS [gd p 3] (gd (mkRangeS [gd p 2] (gd (mkRangeS [gd p 1] q) 0)) 0)) 0)) 1).rows) (hdCellS (.l (gd (mkCellS [gd p 3] (gd (mkRangeS [gd p 2] (gd (mkRangeS [gd p 1] q) 0)) 0)) 1).rows) (hdRangeS (.l (gd (mkRangeS [gd p 2] (gd (mkRangeS [gd p 1] q) 0)) 1).rows) (hdRangeS (.l (gd (mkRangeS [gd p 1] q) 1).rows) q)))))).int 0 then D.i (-1) else bif ltI (hdIntS (.l (gd (mkIntS [gd p 7] (gd (mkIntS [gd p 6] (gd (mkHeldS [gd p 5] (gd (mkLockS [gd p 4] (gd (mkCellS [gd p 3] (gd (mkRangeS [gd p 2] (gd (mkRangeS [gd p 1] q) 0)) 0)) 0)) 0)) 0)) 0)) 1).rows) (hdIntS (.l (gd (mkIntS [gd p 6] (gd (mkHeldS [gd p 5] (gd (mkLockS [gd p 4] (gd (mkCellS [gd p 3] (gd (mkRangeS [gd p 2] (gd (mkRangeS [gd p 1] q) 0)) 0)) 0)) 0)) 0)) 1).rows) (hdHeldS (.l (gd (mkHeldS [gd p 5] (gd (mkLockS [gd p 4] (gd (mkCellS [gd p 3] (gd (mkRangeS [gd p 2] (gd (mkRangeS [gd p 1] q) 0)) 0)) 0)) 0)) 1).rows) (hdLockS (.l (gd (mkLockS [gd p 4] (gd (mkCellS [gd p 3] (gd (mkRangeS [gd p 2] (gd (mkRangeS [gd p 1] q) 0)) 0)) 0)) 1).rows) (hdCellS (.l (gd (mkCellS [gd p 3] (gd (mkRangeS [gd p 2] (gd (mkRangeS [gd p 1] q) 0)) 0)) 1).rows) (hdRangeS (.l (gd (mkRangeS [gd p 2] (gd (mkRangeS [gd p 1] q) 0)) 1).rows) (hdRangeS (.l (gd (mkRangeS [gd p 1] q) 1).rows) q))))))).int 0 then D.i (-1) else (hdIntS (.l (gd (mkIntS [gd p 7] (gd (mkIntS [gd p 6] (gd (mkHeldS [gd p 5] (gd (mkLockS [gd p 4] (gd (mkCellS [gd p 3] (gd (mkRangeS [gd p 2] (gd (mkRangeS [gd p 1] q) 0)) 0)) 0)) 0)) 0)) 0)) 1).rows) (hdIntS (.l (gd (mkIntS [gd p 6] (gd (mkHeldS [gd p 5] (gd (mkLockS [gd p 4] (gd (mkCellS [gd p 3] (gd (mkRangeS [gd p 2] (gd (mkRangeS [gd p 1] q) 0)) 0)) 0)) 0)) 0)) 1).rows) (hdHeldS (.l (gd (mkHeldS [gd p 5] (gd (mkLockS [gd p 4] (gd (mkCellS [gd p 3] (gd (mkRangeS [gd p 2] (gd (mkRangeS [gd p 1] q) 0)) 0)) 0)) 0)) 1).rows) (hdLockS (.l (gd (mkLockS [gd p 4] (gd (mkCellS [gd p 3] (gd (mkRangeS [gd p 2] (gd (mkRangeS [gd p 1] q) 0)) 0)) 0)) 1).rows) (hdCellS (.l (gd (mkCellS [gd p 3] (gd (mkRangeS [gd p 2] (gd (mkRangeS [gd p 1] q) 0)) 0)) 1).rows) (hdRangeS (.l (gd (mkRangeS [gd p 2] (gd (mkRangeS [gd p 1] q) 0)) 1).rows) (hdRangeS (.l (gd (mkRangeS [gd p 1] q) 1).rows) q))))))))=(gd (mkIntS [gd p 7] (gd (mkIntS [gd p 6] (gd (mkHeldS [gd p 5] (gd (mkLockS [gd p 4] (gd (mkCellS [gd p 3] (gd (mkRangeS [gd p 2] (gd (mkRangeS [gd p 1] q) 0)) 0)) 0)) 0)) 0)) 0)) 0)
 rw [f1,ltI_f (show 0≤_ by omega),cond_false,f2,ltI_f (show 0≤_ by omega),cond_false,f3,ltI_f (show 0≤_ by omega),cond_false,f4,ltI_f (show 0≤_ by omega),cond_false,f5,ltI_f (show 0≤_ by omega),cond_false,f6,ltI_f (show 0≤_ by omega),cond_false,f7,ltI_f (show 0≤_ by omega),cond_false]
end Go.Proofs.YtpdfmcmnjikppaaGreat
namespace Go.Proofs.YtpdfmcmnjikppaaGreat
open Go.ChangeShapes Go.WideShapes Go.ChangeAt Go.RowKit Go.Deep
def prot0 (w:World) (b:Nat):Nat:=
 match w.heap[b]? with
 | some (.cells arr _ _)=>arr.size
 | _=>0
theorem prot0_cell {w:World} {b o:Nat} {u:Value} (h:w.cell? ⟨b,o,none⟩=some u):o<prot0 w b:=by
 unfold World.cell? at h
 simp only at h
 unfold prot0
 cases hb:w.heap[b]? with
 | none=>rw [hb] at h; cases h
 | some x =>
  rw [hb] at h
  cases x with
  | cells arr t f =>
   simp only at h ⊢
   exact (Array.getElem?_eq_some_iff.1 h).1
  | _=>simp at h
theorem prot0_fresh {w:World} {b:Nat} (h:w.heap.size≤b):prot0 w b=0:=by
 unfold prot0
 rw [Array.getElem?_eq_none h]
def coverB (P:Program) (row:List S) (fs:Array Field):Bool:=
 (List.range row.length).all fun j=>(List.range fs.size).any fun i=>match fs[i]? with
  | some f=>match rowOf P f.type with
   | some rf=>decide (f.offset≤j)&&decide (j<f.offset+rf.length)&&rf.length==P.cellsOf f.type&&rf[j - f.offset]?==row[j]?
   | none=>false
  | none=>false
def layB (P:Program):Nat→TypeId→Bool
 | 0,_=>false
 | n+1,T=>match P.underlying T,rowOf P T with
  | some (.int k),some row=>row == [.int k]
  | some .bool,some row=>row == [.bool]
  | some .string,some row=>row == [.str]
  | some (.slice e),some row=>row == [.sl e]&&(match rowOf P e with | some re=>P.cellsOf e==re.length && !re.isEmpty&&layB P n e | none=>false)
  | some (.struct fs),some row=>coverB P row fs&&P.cellsOf T==row.length&&fs.toList.all fun f=>layB P n f.type
  | _,_=>false
theorem choose_pay {Q:Nat→D→Prop} (n:Nat) (h:∀ i,i<n→∃ x,Q i x):∃ l:List D,l.length=n∧∀ i,i<n→Q i (gd l i):=by
 induction n with
 | zero=>exact ⟨[],rfl,fun i hi=>by omega⟩
 | succ n ih =>
  obtain ⟨l,hl,hq⟩:=ih (fun i hi=>h i (by omega))
  obtain ⟨x,hx⟩:=h n (by omega)
  refine ⟨l ++ [x],by simp [hl],fun i hi=>?_⟩
  by_cases hin:i<n
  ·have:gd (l ++ [x]) i=gd l i:=by
    simp only [gd,List.getD_eq_getElem?_getD]
    rw [List.getElem?_append_left (by omega)]
   rw [this]; exact hq i hin
  ·obtain rfl:i=n:=by omega
   have:gd (l ++ [x]) i=x:=by
    simp only [gd,List.getD_eq_getElem?_getD]
    rw [List.getElem?_append_right (by omega),hl]
    simp
   rw [this]; exact hx
theorem choose_rows {Q:Nat→List D→Prop} (n:Nat) (h:∀ i,i<n→∃ x,Q i x):∃ l:List (List D),l.length=n∧∀ i,i<n→Q i (l.getD i []):=by
 induction n with
 | zero=>exact ⟨[],rfl,fun i hi=>by omega⟩
 | succ n ih =>
  obtain ⟨l,hl,hq⟩:=ih (fun i hi=>h i (by omega))
  obtain ⟨x,hx⟩:=h n (by omega)
  refine ⟨l ++ [x],by simp [hl],fun i hi=>?_⟩
  by_cases hin:i<n
  ·rw [List.getD_eq_getElem?_getD,List.getElem?_append_left (by omega),← List.getD_eq_getElem?_getD]; exact hq i hin
  ·obtain rfl:i=n:=by omega
   rw [List.getD_eq_getElem?_getD,List.getElem?_append_right (by omega),hl]
   simpa using hx
theorem spot_none' {w:World} {a:Addr} {v:Value} (h:w.cell? a=some v):a=⟨a.block,a.off,none⟩:=by
 cases hs:a.spot with
 | none=>cases a; simp at hs; subst hs; rfl
 | some s =>
  unfold World.cell? at h
  rw [hs] at h
  simp at h
  split at h <;> simp at h
theorem add_mk' {b o i:Nat}:(⟨b,o,none⟩:Addr).add i=⟨b,o+i,none⟩:=by
 unfold Addr.add
 split
 ·rename_i h; rw [h]; rfl
 ·rfl
theorem trod_vd {H:Type} {enc:TypeId × Value→H} {P:Program} {W:World} {base:Nat} {spare:Nat→Bool} {held:Bool}:∀ (n:Nat) (T:TypeId) (row:List S),layB P n T=true→rowOf P T=some row →
  ∀ (fuel:Nat) (cs:List Value) (y:DataW H × List MemPlace),DataW.trod enc P W base spare held fuel T cs=some y →
  ∃ p:List D,cs.length=row.length∧∀ j s,row[j]?=some s→∃ u,cs[j]?=some u∧VD P W (prot0 W) s (gd p j) u
 | 0,T,row,hl,_,_,_,_,_=>by cases hl
 | n+1,T,row,hl,hrow,fuel,cs,y,h=>by
  rw [layB,hrow] at hl
  split at hl
  ·rename_i k row' hu hr'
   injection hr' with hr'; subst hr'
   have hl:row = [.int k]:=by simpa using hl
   subst hl
   obtain ⟨a,e,_,_⟩:=DataW.trod_int hu h
   subst e
   refine ⟨[.i a],rfl,fun j s hs=>?_⟩
   match j,hs with
   | 0,hs=>injection hs with hs; subst hs; exact ⟨_,rfl,.int k (.i a)⟩
  ·rename_i row' hu hr'
   injection hr' with hr'; subst hr'
   have hl:row = [.bool]:=by simpa using hl
   subst hl
   obtain ⟨a,e,_⟩:=DataW.trod_bool hu h
   subst e
   refine ⟨[.b a],rfl,fun j s hs=>?_⟩
   match j,hs with
   | 0,hs=>injection hs with hs; subst hs; exact ⟨_,rfl,.bool (.b a)⟩
  ·rename_i row' hu hr'
   injection hr' with hr'; subst hr'
   have hl:row = [.str]:=by simpa using hl
   subst hl
   obtain ⟨a,e,_⟩:=DataW.trod_string hu h
   subst e
   refine ⟨[.s (byteList a)],rfl,fun j s hs=>?_⟩
   match j,hs with
   | 0,hs =>
    injection hs with hs; subst hs
    have:=VD.str (P:=P) (w:=W) (prot:=prot0 W) (.s (byteList a))
    rw [str_s,bsv_byteList] at this
    exact ⟨_,rfl,this⟩
  ·rename_i e row' hu hr'
   injection hr' with hr'; subst hr'
   simp only [Bool.and_eq_true] at hl
   obtain ⟨hl0,hl⟩:=hl
   have hl0:row = [.sl e]:=by simpa using hl0
   subst hl0
   split at hl
   ·rename_i re hre
    simp only [Bool.and_eq_true,beq_iff_eq,Bool.not_eq_true'] at hl
    obtain ⟨⟨hc,hne⟩,hle⟩:=hl
    have hpos:0<re.length:=by cases re with | nil=>cases hne | cons=>simp
    rcases open_slice hu h with ⟨rfl,_⟩ | ⟨a,len,cap,m,nn,Dd,Pl,rfl,hb,hlc,hm,hmm,hx,hi⟩
    ·refine ⟨[.l []],rfl,fun j s hs=>?_⟩
     match j,hs with
     | 0,hs=>injection hs with hs; subst hs; exact ⟨_,rfl,.sl e (.l []) none 0 re (fun _ _=>undef) hre (Nat.zero_le _) (by omega) (fun i j hi=>absurd hi (Nat.not_lt_zero _)) (fun i j s hi=>absurd hi (Nat.not_lt_zero _))⟩
    ·have hlm:len≤m:=by rw [hmm]; split <;> omega
     have ha:0<len→a=⟨a.block,a.off,none⟩:=by
      intro h0
      obtain ⟨cs0,hc0,_⟩:=hi 0 (by omega)
      rw [hc] at hc0
      obtain ⟨_,hcl0,hat0⟩:=World.cells?_some hc0
      have h00:=hat0 0 hpos
      rw [List.getElem?_eq_getElem (by omega)] at h00
      have:=spot_none' h00
      rw [Nat.zero_mul] at this
      simpa [Addr.add] using this
     have hq:∀ i,i<len→∃ p:List D,∀ j s,re[j]?=some s→∃ u,W.cell? ⟨a.block,a.off+(i*re.length+j),none⟩=some u∧VD P W (prot0 W) s (gd p j) u:=by
      intro i hil
      obtain ⟨cs',hcs,htr⟩:=hi i (by omega)
      rw [hc] at hcs
      obtain ⟨_,hcl,hat⟩:=World.cells?_some hcs
      obtain ⟨p,_,hp⟩:=trod_vd n e re hle hre nn cs' _ htr
      refine ⟨p,fun j s hs=>?_⟩
      obtain ⟨u,hu,hv⟩:=hp j s hs
      have hj:=(List.getElem?_eq_some_iff.1 hs).1
      have:=hat j hj
      rw [hu,ha (by omega),add_mk',add_mk'] at this
      refine ⟨u,?_,hv⟩
      rw [← this]; congr 2; omega
     obtain ⟨l,hll,hlq⟩:=choose_rows len hq
     refine ⟨[.l l],rfl,fun j s hs=>?_⟩
     match j,hs with
     | 0,hs =>
      injection hs with hs; subst hs
      refine ⟨_,rfl,?_⟩
      have hsl:=VD.sl (P:=P) (w:=W) (prot:=prot0 W) e (.l l) (some a) cap re (fun i j=>(W.cell? ⟨a.block,a.off+(i*re.length+j),none⟩).getD undef) hre (by rw [rows_l]; omega) (by unfold maxLen at hm; omega) ?_ ?_
      ·rw [rows_l,hll] at hsl; exact hsl
      ·intro i j hi hj
       rw [rows_l,hll] at hi
       obtain ⟨u,hu,_⟩:=hlq i hi j re[j] (List.getElem?_eq_getElem hj)
       refine ⟨a.block,a.off,by rw [← ha (by omega)],?_,prot0_cell hu⟩
       rw [hu]; rfl
      ·intro i j s hi hs
       rw [rows_l,hll] at hi
       obtain ⟨u,hu,hv⟩:=hlq i hi j s hs
       show VD P W (prot0 W) s (gd (l.getD i []) j) ((W.cell? ⟨a.block,a.off+(i*re.length+j),none⟩).getD undef)
       rw [hu]; exact hv
   ·cases hl
  ·rename_i fs row' hu hr'
   injection hr' with hr'; subst hr'
   simp only [Bool.and_eq_true,beq_iff_eq] at hl
   obtain ⟨⟨hcov,hct⟩,hall⟩:=hl
   obtain ⟨xs,nn,_,_,hlen,hlx,hg⟩:=DataW.trod_struct hu h
   rw [hct] at hlen
   have hq:∀ j,j<row.length→∃ d:D,∀ s,row[j]?=some s→∃ u,cs[j]?=some u∧VD P W (prot0 W) s d u:=by
    intro j hj
    unfold coverB at hcov
    rw [List.all_eq_true] at hcov
    have hcj:=hcov j (List.mem_range.2 hj)
    rw [List.any_eq_true] at hcj
    obtain ⟨i,hi,hci⟩:=hcj
    have hi:=List.mem_range.1 hi
    split at hci
    ·rename_i f hf
     split at hci
     ·rename_i rf hrf
      simp only [Bool.and_eq_true,decide_eq_true_eq,beq_iff_eq] at hci
      obtain ⟨⟨⟨k1,k2⟩,k3⟩,k4⟩:=hci
      have hlf:layB P n f.type=true:=by
       rw [List.all_eq_true] at hall
       exact hall f (by
        have:=Array.getElem?_eq_some_iff.1 hf
        obtain ⟨h1,h2⟩:=this
        rw [← h2]; simp)
      have htr:=hg i f hf
      rw [List.getElem?_eq_getElem (by rw [hlx]; exact hi)] at htr
      obtain ⟨p,hpl,hp⟩:=trod_vd n f.type rf hlf hrf nn _ _ htr
      refine ⟨gd p (j - f.offset),fun s hs=>?_⟩
      rw [hs] at k4
      obtain ⟨u,hu',hv⟩:=hp _ _ k4
      refine ⟨u,?_,hv⟩
      rw [List.getElem?_take_of_lt (by omega),List.getElem?_drop] at hu'
      rw [← hu']; congr 1; omega
     ·cases hci
    ·cases hci
   obtain ⟨p,_,hp⟩:=choose_pay row.length hq
   exact ⟨p,hlen,fun j s hs=>hp j (List.getElem?_eq_some_iff.1 hs).1 s hs⟩
  ·cases hl
theorem arg_agg {H:Type} {enc:TypeId × Value→H} {P:Program} {W:World} {base:Nat} {spare:Nat→Bool} {held:Bool} {r:Reach} {b0:Nat} {T:TypeId} {fs:Array Field} {row:List S} {v:Value} {d:DataW H} {ps:List MemPlace}
  (hs:P.underlying T=some (.struct fs)) (hrow:rowOf P T=some row) (hl:layB P 12 T=true) (hv:Value.okWide P W r b0 T v) (hy:DataW.Trod enc P W base spare held T v d ps) :
  ∃ p,VT P W (g0 W.heap.size (prot0 W)) W.heap.size ⟨.one (.agg (row.map .d)),p⟩ v:=by
 obtain ⟨cs,rfl,hsz⟩:=okWide_struct hs hv
 obtain ⟨fuel,hf⟩:=hy
 obtain ⟨p,hpl,hp⟩:=trod_vd 12 T row hl hrow fuel _ _ hf
 refine ⟨p,cs,rfl,?_,fun j c hc=>?_⟩
 ·have:cs.toList.length=row.length:=hpl
  simpa using this
 ·rw [List.getElem?_map] at hc
  cases hr:row[j]? with
  | none=>rw [hr] at hc; cases hc
  | some s =>
   rw [hr] at hc
   injection hc with hc
   subst hc
   obtain ⟨u,hu,hvd⟩:=hp j s hr
   have hu:cs.toList[j]?=some u:=hu
   exact ⟨u,by simpa using hu,hvd⟩
theorem arg_one {H:Type} {enc:TypeId × Value→H} {P:Program} {W:World} {base:Nat} {spare:Nat→Bool} {held:Bool} {T:TypeId} {s:S} {v:Value} {d:DataW H} {ps:List MemPlace}
  (hrow:rowOf P T=some [s]) (hl:layB P 12 T=true) (hv:v.cells.toList = [v]) (hy:DataW.Trod enc P W base spare held T v d ps) :
  ∃ p,VT P W (g0 W.heap.size (prot0 W)) W.heap.size ⟨.one (.c (.d s)),p⟩ v:=by
 obtain ⟨fuel,hf⟩:=hy
 rw [hv] at hf
 obtain ⟨p,_,hp⟩:=trod_vd 12 T [s] hl hrow fuel _ _ hf
 obtain ⟨u,hu,hvd⟩:=hp 0 s rfl
 injection hu with hu
 subst hu
 exact ⟨p,hvd⟩
theorem args_3 {P:Program} {W:World} {t t1 t2:T} {v v1 v2:Value} (h:VT P W (g0 W.heap.size (prot0 W)) W.heap.size t v) (h1:VT P W (g0 W.heap.size (prot0 W)) W.heap.size t1 v1) (h2:VT P W (g0 W.heap.size (prot0 W)) W.heap.size t2 v2):ArgsV P (prot0 W) W [t,t1,t2] #[v,v1,v2]:=⟨rfl,fun j t' hj=>by
 match j,hj with
 | 0,hj=>injection hj with hj; subst hj; exact ⟨v,rfl,h⟩
 | 1,hj=>injection hj with hj; subst hj; exact ⟨v1,rfl,h1⟩
 | 2,hj=>injection hj with hj; subst hj; exact ⟨v2,rfl,h2⟩⟩
theorem ev_walk {P:Program} {f:FuncId} {args:List T} {b:Bool} (h:SoundFn P f args ⟨rb,[.b b]⟩) {W:World} {vs:Array Value} (ha:ArgsV P (prot0 W) W args vs) :
  Calls P f vs W fun e W'=>e=.returned (.bool b)∧Below W.heap.size W W':=by
 refine ((h.n rfl).2 W (prot0 W) vs ha (fun b hb=>prot0_fresh hb)).mono fun e W' hx=>?_
 obtain ⟨v,g',rfl,hres⟩:=hx
 have hv:VD P W' g'.prot .bool (.b b) v:=hres.val
 cases hv
 exact ⟨rfl,hres.below⟩
end Go.Proofs.YtpdfmcmnjikppaaGreat
