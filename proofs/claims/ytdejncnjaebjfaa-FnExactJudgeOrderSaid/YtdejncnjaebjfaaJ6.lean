/-
  The judge: shares, the reference's.
-/
import Derived.Test.YtdejncnjaebjfaaJ5
namespace Go.Proofs.Ytdejncnjaebjfaa
set_option maxRecDepth 4096
abbrev tbSS : FuncId → List T → Option (T × Bool) := find [s_l1InE, s_RangeOkE, s_WritesOkE]
theorem tbSS_ok : CallOk Try.prog tbSS := find_ok (List.forall_mem_cons.2 ⟨s_l1In_ok, List.forall_mem_cons.2 ⟨s_RangeOk_ok, List.forall_mem_cons.2 ⟨s_WritesOk_ok, List.forall_mem_nil _⟩⟩⟩)
noncomputable def ssL (N : Nat) (p : List D) : List D → Out := loopOf Try.prog tbSS N [0, 2, 3, 4, 5, 8, 12, 55, 60, 69] Try.f105 rb (aSh p) 0
noncomputable def ssM (N : Nat) (p : List D) : List D → Out := loopOf Try.prog tbSS N [0, 2, 3, 4, 5, 8, 12, 55, 60, 69] Try.f105 rb (aSh p) 2
theorem ss_rd2 (p : List D) (N : Nat) (z x2 y8 i y12 y4 y55 b0 b1 b2 b3 : D) (m : Int) : ssM N p [z, x2, y8, i, y12, y4, y55, .i m, b0, b1, b2, b3] =
   bif decide (m < b1.rows.length) then nd (inRange m b1.rows.length) (bif !(rangeOk (sub (b1.rows.getD m.toNat []) 0 2)) then ob false else nx [z, x2, y8, i, y12, y4, y55, .i (w64 (m + 1)), b0, b1, b2, b3])
   else ex 2 [z, x2, y8, i, y12, y4, y55, .i m, b0, b1, b2, b3] := by kernel_rfl
def ssU (z x2 y8 : D) (k : Int) (row : List D) (M : List D → Out) (N : Nat) (nxt : List D → Out) : Out :=
  bif decide (((gd row 1).rows.length : Int) > 16) then ob false else bif !(writesOk (gd row 2)) then ob false else bif !(inB (gd row 3).int 0 2) then ob false else
    (let o := iter M N [z, x2, y8, .i k, .b (decide (k < z.rows.length)), D0, .b (!(inB (gd row 3).int 0 2)), .i 0, gd row 0, gd row 1, gd row 2, gd row 3]
     nd o.isSome (bif o.code == 1 then some (1, o.pay) else nd (o.code == 4) (nxt o.pay)))
theorem ss_rd (p : List D) (N : Nat) (z x2 y8 : D) (k : Int) : ssL N p [z, x2, y8, .i k] =
   bif decide (k < z.rows.length) then nd (inRange k z.rows.length)
     (bif !(inB (gd (z.rows.getD k.toNat []) 0).int 0 3) then ob false else
      bif decide (k > 0) then nd (inRange (w64 (k - 1)) z.rows.length) (bif decide ((gd (z.rows.getD (w64 (k - 1)).toNat []) 0).int ≥ (gd (z.rows.getD k.toNat []) 0).int) then ob false else ssU z x2 y8 k (z.rows.getD k.toNat []) (ssM N p) N (fun q => nx [gd q 0, gd q 1, gd q 2, .i (w64 ((gd q 3).int + 1))])) else ssU z x2 y8 k (z.rows.getD k.toNat []) (ssM N p) N (fun q => nx [gd q 0, gd q 1, gd q 2, .i (w64 ((gd q 3).int + 1))]))
   else ex 0 [z, x2, y8, .i k] := by kernel_rfl
theorem ss_ev (p : List D) (N : Nat) : evFn Try.prog tbSS N [0, 2, 3, 4, 5, 8, 12, 55, 60, 69] Try.f105 rb (aSh p) = some (bo, bif decide (((gd p 0).rows.length : Int) > 4) then ob false else
   (let o := iter (ssL N p) N [gd p 0, D0, .b (decide (((gd p 0).rows.length : Int) > 4)), .i 0]
    nd o.isSome (bif o.code == 1 then some (1, o.pay) else nd (o.code == 2) (ob true)))) := by kernel_rfl
end Go.Proofs.Ytdejncnjaebjfaa
