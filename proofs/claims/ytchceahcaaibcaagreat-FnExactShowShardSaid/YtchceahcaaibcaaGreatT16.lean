/-
  The town: impl.TownOk. Printed by sym.py.
-/
import Derived.Test.YtchceahcaaibcaaGreatT15
namespace Go.Proofs.YtchceahcaaibcaaGreat
set_option linter.unusedSimpArgs false
set_option linter.unusedVariables false
set_option maxRecDepth 4096
set_option maxHeartbeats 1000000
/-! loop.example/g00097/impl.TownOk -/
abbrev i_TownOkT : FuncId → List T → Option (T × Bool) := find [i_AtlasOkE, i_fromE, i_CoordOkE, i_ShardOkE, cofTPE, cofTCE, cofTLE, cofTEE]
theorem i_TownOkT_ok : CallOk Tryz.prog i_TownOkT := find_ok (List.forall_mem_cons.2 ⟨i_AtlasOk_ok, List.forall_mem_cons.2 ⟨i_from_ok, List.forall_mem_cons.2 ⟨i_CoordOk_ok, List.forall_mem_cons.2 ⟨i_ShardOk_ok, List.forall_mem_cons.2 ⟨cofTP_ok, List.forall_mem_cons.2 ⟨cofTC_ok, List.forall_mem_cons.2 ⟨cofTL_ok, List.forall_mem_cons.2 ⟨cofTE_ok, List.forall_mem_nil _⟩⟩⟩⟩⟩⟩⟩⟩)
abbrev i_TownOkK : List Nat := [0, 1, 2, 3, 4, 5, 58, 60, 61, 62, 63, 75, 87, 91, 1000058, 1000063, 1000075, 1000087, 1000091]
noncomputable def i_TownOkL0 (N : Nat) (p : List D) : List D → Out := loopOf Tryz.prog i_TownOkT N i_TownOkK Tryz.f16 rb [⟨ag rITown, p⟩] 0
/- x0=t0(.one (.agg [.d si, .d (.sl 97), .d si, .d si, .d si, .d si, .d si, .d si, .d (.sl 176), .d (.sl 80), .d (.sl 116), .d (.sl 3), .d (.sl 102), .d (.sl 85), .d (.sl 88)])) x15=t1(.one (.c (.ptr 1 0))) x16=t2(.one (.c (.kb false))) x17=t3(.one (.c (.ptr 3 0))) x18=t60(sd (.sl 80)) x19=t61(ri) x20=t62(ri) x21=box1[.d si, .d (.sl 97), .d si, .d si, .d si, .d si, .d si, .d si, .d (.sl 176), .d (.sl 80), .d (.sl 116), .d (.sl 3), .d (.sl 102), .d (.sl 85), .d (.sl 88)] x36=box3[.d si] -/
theorem i_TownOkR0 (N : Nat) (p : List D) (x0 x1 x2 x3 x4 x5 x6 x7 x8 x9 x10 x11 x12 x13 x14 x15 x16 x17 x18 x19 x20 x21 x22 x23 x24 x25 x26 x27 x28 x29 x30 x31 x32 x33 x34 x35 x36 : D) : (i_TownOkL0 N p) [x0, x1, x2, x3, x4, x5, x6, x7, x8, x9, x10, x11, x12, x13, x14, x15, x16, x17, x18, x19, x20, x21, x22, x23, x24, x25, x26, x27, x28, x29, x30, x31, x32, x33, x34, x35, x36] =
  bif ltI x20.int x19.int then nd (inRange x20.int x18.rows.length) (nd (shardSmall (sub (x18.rows.getD x20.int.toNat []) 0 9)) (bif !(shardOk (sub (x18.rows.getD x20.int.toNat []) 0 9)) then ob false
  else bif (gd (x18.rows.getD x20.int.toNat []) 0).int != x20.int then ob false
  else nx [x0, x1, x2, x3, x4, x5, x6, x7, x8, x9, x10, x11, x12, x13, x14, x15, x16, x17, x18, x19, .i (w64 (x20.int + 1)), x21, x22, x23, x24, x25, x26, x27, x28, x29, x30, x31, x32, x33, x34, x35, x36]))
  else ex 0 [x0, x1, x2, x3, x4, x5, x6, x7, x8, x9, x10, x11, x12, x13, x14, x15, x16, x17, x18, x19, x20, x21, x22, x23, x24, x25, x26, x27, x28, x29, x30, x31, x32, x33, x34, x35, x36] := by kernel_rfl
noncomputable def i_TownOks0 (N : Nat) (p : List D) (o0 : Out) : Out := bif anyS (fun rr => ixfTLC (.l [[.l [[gd o0.pay 36]], .l [sub o0.pay 21 15]]]) (sub rr 0 14)) (gd o0.pay 34) then ob false else ob (!(anyS (fun rr => ixfTEC (.l [[.l [sub o0.pay 21 15]]]) (sub rr 0 7)) (gd o0.pay 35)))
noncomputable def i_TownOks1 (N : Nat) (p : List D) (o0 : Out) : Out := bif anyS (fun rr => ixfTCC (.l [[.l [[gd o0.pay 36]]]]) (sub rr 0 9)) (gd o0.pay 33) then ob false else (i_TownOks0 N p o0)
noncomputable def i_TownOks2 (N : Nat) (p : List D) (o0 : Out) : Out := nd ((List.range (gd o0.pay 33).rows.length).all fun k => clientSmall (sub ((gd o0.pay 33).rows.getD k []) 0 9)) (i_TownOks1 N p o0)
noncomputable def i_TownOks3 (N : Nat) (p : List D) (o0 : Out) : Out := bif anyS (fun rr => ixfTPC (.l [[.l [[gd o0.pay 36]]]]) (sub rr 0 3)) (gd o0.pay 22) then ob false else (i_TownOks2 N p o0)
noncomputable def i_TownOks4 (N : Nat) (p : List D) : Out := let o0 : Out := iter (i_TownOkL0 N p) N [gd p 0, gd p 1, gd p 2, gd p 3, gd p 4, gd p 5, gd p 6, gd p 7, gd p 8, gd p 9, gd p 10, gd p 11, gd p 12, gd p 13, gd p 14, .i 0, .i 0, .i 0, gd p 9, .i ((gd p 9).rows.length : Int), .i 0, gd p 0, gd p 1, gd p 2, gd p 3, gd p 4, gd p 5, gd p 6, gd p 7, gd p 8, gd p 9, gd p 10, gd p 11, gd p 12, gd p 13, gd p 14, .i ((gd p 9).rows.length : Int)]; nd o0.isSome (bif o0.code == 1 then some (1, o0.pay) else nd (o0.code == 2) (i_TownOks3 N p o0))
noncomputable def i_TownOks5 (N : Nat) (p : List D) : Out := bif ltI 60 ((gd p 13).rows.length : Int) then ob false else bif ltI 200 ((gd p 14).rows.length : Int) then ob false else (i_TownOks4 N p)
noncomputable def i_TownOks6 (N : Nat) (p : List D) : Out := bif !(coordOk (sub p 10 2)) then ob false else bif !(inB ((gd p 12).rows.length : Int) 1 6) then ob false else (i_TownOks5 N p)
noncomputable def i_TownOks7 (N : Nat) (p : List D) : Out := bif leI ((gd p 9).rows.length : Int) (gd p 6).int then ob false else bif leI ((gd p 9).rows.length : Int) (gd p 7).int then ob false else (i_TownOks6 N p)
noncomputable def i_TownOks8 (N : Nat) (p : List D) : Out := bif !(atlasOk (sub p 0 9)) then ob false else bif !(inB ((gd p 9).rows.length : Int) 1 4) then ob false else (i_TownOks7 N p)
theorem i_TownOk_ev (N : Nat) (p : List D) : evFn Tryz.prog i_TownOkT N i_TownOkK Tryz.f16 rb [⟨ag rITown, p⟩] = some (bo, (i_TownOks8 N p)) := by kernel_rfl
def townSmall (p : List D) : Bool := ((List.range (gd p 9).rows.length).all fun k => shardSmall (sub ((gd p 9).rows.getD k []) 0 9)) && ((List.range (gd p 12).rows.length).all fun k => clientSmall (sub ((gd p 12).rows.getD k []) 0 9))
def townI (p : List D) : Bool := atlasOk (sub p 0 9) && (inB ((gd p 9).rows.length : Int) 1 4 && (!leI ((gd p 9).rows.length : Int) (gd p 6).int && (!leI ((gd p 9).rows.length : Int) (gd p 7).int && (coordOk (sub p 10 2) && (inB ((gd p 12).rows.length : Int) 1 6 && (leI ((gd p 13).rows.length : Int) 60 && (leI ((gd p 14).rows.length : Int) 200 && (shardA p 9 0 townC0 && (ownersIn (gd p 1) ((gd p 9).rows.length : Int) && (clientsOk (gd p 12) ((gd p 9).rows.length : Int) && (shardA p 13 2 townC2 && (shardA p 14 4 townC4))))))))))))
theorem town_same (p : List D) : townI p = townOk p := by
  rw [Bool.eq_iff_iff]
  unfold townI townOk
  simp only [Bool.and_eq_true]
  constructor
  · rintro ⟨a0, a1, b1, b2, a2, a3, a4, a5, c0, b0, b3, c2, c4⟩
    exact ⟨a0, a1, a2, a3, a4, a5, b0, b1, b2, b3, c0, c2, c4⟩
  · rintro ⟨a0, a1, a2, a3, a4, a5, b0, b1, b2, b3, c0, c2, c4⟩
    exact ⟨a0, a1, b1, b2, a2, a3, a4, a5, c0, b0, b3, c2, c4⟩
theorem i_TownOkI0 (p : List D) (N : Nat) (hN : (gd p 9).rows.length < N) (hl : (gd p 9).rows.length ≤ 9223372036854775807) (hs : ∀ k, k < (gd p 9).rows.length → shardSmall (sub ((gd p 9).rows.getD k []) 0 9) = true) : iter (i_TownOkL0 N p) N [gd p 0, gd p 1, gd p 2, gd p 3, gd p 4, gd p 5, gd p 6, gd p 7, gd p 8, gd p 9, gd p 10, gd p 11, gd p 12, gd p 13, gd p 14, .i 0, .i 0, .i 0, gd p 9, .i ((gd p 9).rows.length : Int), .i 0, gd p 0, gd p 1, gd p 2, gd p 3, gd p 4, gd p 5, gd p 6, gd p 7, gd p 8, gd p 9, gd p 10, gd p 11, gd p 12, gd p 13, gd p 14, .i ((gd p 9).rows.length : Int)] = some (bif shardA p 9 0 townC0 then (2, [gd p 0, gd p 1, gd p 2, gd p 3, gd p 4, gd p 5, gd p 6, gd p 7, gd p 8, gd p 9, gd p 10, gd p 11, gd p 12, gd p 13, gd p 14, .i 0, .i 0, .i 0, gd p 9, .i ((gd p 9).rows.length : Int), .i ((gd p 9).rows.length : Int), gd p 0, gd p 1, gd p 2, gd p 3, gd p 4, gd p 5, gd p 6, gd p 7, gd p 8, gd p 9, gd p 10, gd p 11, gd p 12, gd p 13, gd p 14, .i ((gd p 9).rows.length : Int)]) else (1, [.b false])) := by
  have e := for_loop (L := i_TownOkL0 N p) (fun k => [gd p 0, gd p 1, gd p 2, gd p 3, gd p 4, gd p 5, gd p 6, gd p 7, gd p 8, gd p 9, gd p 10, gd p 11, gd p 12, gd p 13, gd p 14, .i 0, .i 0, .i 0, gd p 9, .i ((gd p 9).rows.length : Int), .i (k : Int), gd p 0, gd p 1, gd p 2, gd p 3, gd p 4, gd p 5, gd p 6, gd p 7, gd p 8, gd p 9, gd p 10, gd p 11, gd p 12, gd p 13, gd p 14, .i ((gd p 9).rows.length : Int)]) (gd p 9).rows.length (townC0 p) [.b false] 0 (fun k hk => ?_) ?_ (N := N) hN
  · simp only [Int.natCast_zero] at e
    exact e
  · show i_TownOkL0 _ p [_, _, _, _, _, _, _, _, _, _, _, _, _, _, _, _, _, _, _, _, .i (k : Int), _, _, _, _, _, _, _, _, _, _, _, _, _, _, _, _] = _
    rw [i_TownOkR0]
    simp only [int_i, c_lt hk, nd_ix hk, w64_succ hk hl, Int.toNat_natCast, hs k hk, nd_true, bne]
    unfold townC0
    cases shardOk (sub ((gd p 9).rows.getD k []) 0 9) <;> cases ((gd ((gd p 9).rows.getD k []) 0).int == (k : Int)) <;> rfl
  · show i_TownOkL0 _ p [_, _, _, _, _, _, _, _, _, _, _, _, _, _, _, _, _, _, _, _, .i ((gd p 9).rows.length : Int), _, _, _, _, _, _, _, _, _, _, _, _, _, _, _, _] = _
    rw [i_TownOkR0]
    simp only [int_i, c_nlt]
theorem town_l (p : List D) : anyS (fun rr => ixfTLC (.l [[.l [[.i ((gd p 9).rows.length : Int)]], .l [sub p 0 15]]]) (sub rr 0 14)) (gd p 13) = !(shardA p 13 2 townC2) := by
  refine anyS_not fun k hk => ?_
  show (bif !(letterOk (sub ((gd p 13).rows.getD k []) 0 14)) then true else bif leI ((gd p 9).rows.length : Int) (gd ((gd p 13).rows.getD k []) 1).int then true else leI ((gd p 12).rows.length : Int) (gd ((gd p 13).rows.getD k []) 2).int) = _
  unfold townC2
  cases letterOk (sub ((gd p 13).rows.getD k []) 0 14) <;> cases leI ((gd p 9).rows.length : Int) (gd ((gd p 13).rows.getD k []) 1).int <;> cases leI ((gd p 12).rows.length : Int) (gd ((gd p 13).rows.getD k []) 2).int <;> rfl
theorem town_e (p : List D) : anyS (fun rr => ixfTEC (.l [[.l [sub p 0 15]]]) (sub rr 0 7)) (gd p 14) = !(shardA p 14 4 townC4) := by
  refine anyS_not fun k hk => ?_
  rfl
theorem town_c (p : List D) (n : Int) : anyS (fun rr => ixfTCC (.l [[.l [[.i n]]]]) (sub rr 0 9)) (gd p 12) = !(clientsOk (gd p 12) n) := by
  refine anyS_not fun k hk => ?_
  rfl
theorem town_p (p : List D) (n : Int) : anyS (fun rr => ixfTPC (.l [[.l [[.i n]]]]) (sub rr 0 3)) (gd p 1) = !(ownersIn (gd p 1) n) := by
  refine anyS_not fun k hk => ?_
  show leI n (gd ((gd p 1).rows.getD k []) 2).int = !!leI n (gd ((gd p 1).rows.getD k []) 2).int
  rw [Bool.not_not]
def i_TownOkE : Ent := (16, e1 (ag rITown) fun p => (⟨rb, [.b (townOk p)]⟩, townSmall p))
theorem i_TownOk_ok : EntOk Tryz.prog i_TownOkE := e1_ok fun p h => evFn_sound (N := (gd p 9).rows.length + 1) (ks := i_TownOkK) (key := bo) i_TownOkT_ok (enters Tryz.func16 (by kernel_rfl) (by kernel_rfl)) Tryz.func16 fun hw => by
  rw [i_TownOk_ev]
  have h : townSmall p = true := h
  unfold townSmall at h
  simp only [Bool.and_eq_true] at h
  obtain ⟨h1, h2⟩ := h
  have hl : (gd p 9).rows.length ≤ 9223372036854775807 := wt_at (hw ⟨ag rITown, p⟩ (by simp)) rfl
  have hs : ∀ k, k < (gd p 9).rows.length → shardSmall (sub ((gd p 9).rows.getD k []) 0 9) = true := fun k hk => List.all_eq_true.1 h1 k (List.mem_range.2 hk)
  refine congrArg (fun x => some (bo, x)) ?_
  show i_TownOks8 ((gd p 9).rows.length + 1) p = ob (townOk p)
  rw [← town_same]
  unfold i_TownOks8 i_TownOks7 i_TownOks6 i_TownOks5 townI
  simp only [lt60, lt200]
  refine ob_step fun _ => ob_step fun _ => ob_stepn (ob_stepn (ob_step fun _ => ob_step fun _ => ob_step fun _ => ob_step fun _ => ?_))
  rw [show i_TownOks4 ((gd p 9).rows.length + 1) p = nd (iter (i_TownOkL0 ((gd p 9).rows.length + 1) p) ((gd p 9).rows.length + 1) [gd p 0, gd p 1, gd p 2, gd p 3, gd p 4, gd p 5, gd p 6, gd p 7, gd p 8, gd p 9, gd p 10, gd p 11, gd p 12, gd p 13, gd p 14, .i 0, .i 0, .i 0, gd p 9, .i ((gd p 9).rows.length : Int), .i 0, gd p 0, gd p 1, gd p 2, gd p 3, gd p 4, gd p 5, gd p 6, gd p 7, gd p 8, gd p 9, gd p 10, gd p 11, gd p 12, gd p 13, gd p 14, .i ((gd p 9).rows.length : Int)]).isSome (bif Out.code (iter (i_TownOkL0 ((gd p 9).rows.length + 1) p) ((gd p 9).rows.length + 1) [gd p 0, gd p 1, gd p 2, gd p 3, gd p 4, gd p 5, gd p 6, gd p 7, gd p 8, gd p 9, gd p 10, gd p 11, gd p 12, gd p 13, gd p 14, .i 0, .i 0, .i 0, gd p 9, .i ((gd p 9).rows.length : Int), .i 0, gd p 0, gd p 1, gd p 2, gd p 3, gd p 4, gd p 5, gd p 6, gd p 7, gd p 8, gd p 9, gd p 10, gd p 11, gd p 12, gd p 13, gd p 14, .i ((gd p 9).rows.length : Int)]) == 1 then some (1, Out.pay (iter (i_TownOkL0 ((gd p 9).rows.length + 1) p) ((gd p 9).rows.length + 1) [gd p 0, gd p 1, gd p 2, gd p 3, gd p 4, gd p 5, gd p 6, gd p 7, gd p 8, gd p 9, gd p 10, gd p 11, gd p 12, gd p 13, gd p 14, .i 0, .i 0, .i 0, gd p 9, .i ((gd p 9).rows.length : Int), .i 0, gd p 0, gd p 1, gd p 2, gd p 3, gd p 4, gd p 5, gd p 6, gd p 7, gd p 8, gd p 9, gd p 10, gd p 11, gd p 12, gd p 13, gd p 14, .i ((gd p 9).rows.length : Int)])) else nd (Out.code (iter (i_TownOkL0 ((gd p 9).rows.length + 1) p) ((gd p 9).rows.length + 1) [gd p 0, gd p 1, gd p 2, gd p 3, gd p 4, gd p 5, gd p 6, gd p 7, gd p 8, gd p 9, gd p 10, gd p 11, gd p 12, gd p 13, gd p 14, .i 0, .i 0, .i 0, gd p 9, .i ((gd p 9).rows.length : Int), .i 0, gd p 0, gd p 1, gd p 2, gd p 3, gd p 4, gd p 5, gd p 6, gd p 7, gd p 8, gd p 9, gd p 10, gd p 11, gd p 12, gd p 13, gd p 14, .i ((gd p 9).rows.length : Int)]) == 2) (i_TownOks3 ((gd p 9).rows.length + 1) p (iter (i_TownOkL0 ((gd p 9).rows.length + 1) p) ((gd p 9).rows.length + 1) [gd p 0, gd p 1, gd p 2, gd p 3, gd p 4, gd p 5, gd p 6, gd p 7, gd p 8, gd p 9, gd p 10, gd p 11, gd p 12, gd p 13, gd p 14, .i 0, .i 0, .i 0, gd p 9, .i ((gd p 9).rows.length : Int), .i 0, gd p 0, gd p 1, gd p 2, gd p 3, gd p 4, gd p 5, gd p 6, gd p 7, gd p 8, gd p 9, gd p 10, gd p 11, gd p 12, gd p 13, gd p 14, .i ((gd p 9).rows.length : Int)]))) from by kernel_rfl]
  rw [i_TownOkI0 p _ (by omega) hl hs]
  cases shardA p 9 0 townC0 with
  | false => rfl
  | true =>
    rw [Bool.true_and]
    show (bif anyS (fun rr => ixfTPC (.l [[.l [[.i ((gd p 9).rows.length : Int)]]]]) (sub rr 0 3)) (gd p 1) then ob false else nd ((List.range (gd p 12).rows.length).all fun k => clientSmall (sub ((gd p 12).rows.getD k []) 0 9)) (bif anyS (fun rr => ixfTCC (.l [[.l [[.i ((gd p 9).rows.length : Int)]]]]) (sub rr 0 9)) (gd p 12) then ob false else bif anyS (fun rr => ixfTLC (.l [[.l [[.i ((gd p 9).rows.length : Int)]], .l [sub p 0 15]]]) (sub rr 0 14)) (gd p 13) then ob false else ob (!(anyS (fun rr => ixfTEC (.l [[.l [sub p 0 15]]]) (sub rr 0 7)) (gd p 14))))) = _
    rw [town_p, town_c, town_l, town_e, h2, nd_true]
    cases ownersIn (gd p 1) ((gd p 9).rows.length : Int) <;> cases clientsOk (gd p 12) ((gd p 9).rows.length : Int) <;> cases shardA p 13 2 townC2 <;> cases shardA p 14 4 townC4 <;> rfl

end Go.Proofs.YtchceahcaaibcaaGreat
