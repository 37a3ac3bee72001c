/-
  The contracts of the drawing cursor: whatever its bytes, each draw returns a number in its range and turns the cursor's own block alone.
-/
import Derived.Test.YtdejncnjaebjfaaDoorMem
namespace Go.Proofs.YtdejncnjaebjfaaDoor
open Go.ChangeShapes Go.WideShapes Go.ChangeAt Go.RowKit

/-- block g holds just the cells cs of type t, none frozen -/
def Blk (w : World) (g : Nat) (t : TypeId) (cs : Array Value) : Prop := w.heap[g]? = some (.cells cs t (0, 0))
section
variable {w w' : World} {g : Nat} {t : TypeId} {cs : Array Value}
theorem Blk.lt (h : Blk w g t cs) : g < w.heap.size := by
  rcases Nat.lt_or_ge g w.heap.size with hlt | hge
  · exact hlt
  · unfold Blk at h; rw [Array.getElem?_eq_none hge] at h; cases h
theorem Blk.cell (h : Blk w g t cs) (i : Nat) : w.cell? ⟨g, i, none⟩ = cs[i]? := by
  unfold Blk at h
  simp [World.cell?, h]
theorem Blk.frozen (h : Blk w g t cs) (i : Nat) : w.frozen? ⟨g, i, none⟩ = false := by
  unfold Blk at h
  simp [World.frozen?, h]
theorem Blk.keep (h : Blk w g t cs) (he : w'.heap[g]? = w.heap[g]?) : Blk w' g t cs := he.trans h
theorem Blk.set_ (h : Blk w g t cs) (i : Nat) (u : Value) : Blk (w.setCell ⟨g, i, none⟩ u) g t (cs.setIfInBounds i u) := by
  unfold Blk at h ⊢
  simp [World.setCell, Array.getElem?_modify, h]
end

theorem block_add (a : Addr) (n : Nat) : (a.add n).block = a.block := by unfold Addr.add; split <;> rfl

theorem add_zero (b k : Nat) : (⟨b, 0, none⟩ : Addr).add k = ⟨b, k, none⟩ := by
  unfold Addr.add
  split
  · rename_i h; subst h; rfl
  · simp
/-- the cells of a new block -/
theorem new_all {w : World} {t : TypeId} {l : List Value} {Q : Value → Prop} (h : ∀ v ∈ l, Q v) :
    ∀ k, k < l.length → ∃ v, (w.alloc (.cells l.toArray t)).cell? ((⟨w.heap.size, 0, none⟩ : Addr).add k) = some v ∧ Q v := by
  intro k hk
  refine ⟨l[k], ?_, h _ (List.getElem_mem hk)⟩
  rw [add_zero, World.cell?_alloc_new]
  simp [hk]

/-- the cells of a slice of bytes, each a byte, below block B -/
def BytesAt (B : Nat) (w : World) (A : Option Addr) (n : Nat) : Prop :=
  ∀ k, k < n → ∃ ad b, A = some ad ∧ ad.block < B ∧ w.cell? (ad.add k) = some (.int .u8 b) ∧ 0 ≤ b ∧ b ≤ 255
theorem BytesAt.keep {B : Nat} {w w' : World} {A : Option Addr} {n : Nat} (h : BytesAt B w A n) (hb : Below B w w') : BytesAt B w' A n := by
  intro k hk
  obtain ⟨ad, b, e, h1, h2, h3⟩ := h k hk
  exact ⟨ad, b, e, h1, (hb.cell (by rw [block_add]; exact h1)).trans h2, h3⟩

/-- block g holds a cursor of draws over bytes that lie below block B -/
def CurAt (B : Nat) (w : World) (g : Nat) : Prop :=
  B ≤ g ∧ ∃ (A : Option Addr) (n c i : Nat) (h : Int), Blk w g 74 #[.slice A n c, .int .i64 (i : Int), .int .i64 h] ∧ (n : Int) ≤ 9223372036854775807 ∧ BytesAt B w A n
theorem CurAt.lt {B : Nat} {w : World} {g : Nat} (h : CurAt B w g) : g < w.heap.size := by
  obtain ⟨_, A, n, c, i, h, hb, _⟩ := h
  exact hb.lt
theorem CurAt.below {B : Nat} {w w' : World} {g : Nat} (h : CurAt B w g) (hb : Below w.heap.size w w') : CurAt B w' g := by
  have hlt := h.lt
  obtain ⟨h0, A, n, c, i, h, hk, hn, hy⟩ := h
  exact ⟨h0, A, n, c, i, h, hk.keep (hb.block g hlt), hn, hy.keep (hb.mono (by omega))⟩

theorem and_mask (x : Int) (m : Nat) (hm : m ≤ 1073741823) : 0 ≤ bits .and .i64 x m ∧ bits .and .i64 x m ≤ m := by
  have h1 : (BitVec.ofInt 64 x &&& BitVec.ofInt 64 (m : Int)).toNat ≤ m := by
    rw [BitVec.toNat_and]
    have h2 : (BitVec.ofInt 64 (m : Int)).toNat = m := by
      rw [BitVec.toNat_ofInt]; omega
    rw [h2]
    exact Nat.and_le_right
  have h3 : bits .and .i64 x m = IntKind.i64.wrap ((BitVec.ofInt 64 x &&& BitVec.ofInt 64 (m : Int)).toNat : Int) := rfl
  rw [h3]
  generalize (BitVec.ofInt 64 x &&& BitVec.ofInt 64 (m : Int)).toNat = r at h1
  rw [IntWalk.i64_in _ (by omega)]
  omega
theorem mask255 (x : Int) : 0 ≤ bits .and .i64 x 255 ∧ bits .and .i64 x 255 ≤ 255 := and_mask x 255 (by omega)

/-- what a draw does: a number in a range; the cursor goes on; only its block has turned -/
def Drawn (B : Nat) (g : Nat) (w : World) (P : Int → Prop) (e : Ending) (w' : World) : Prop :=
  ∃ x : Int, e = .returned (.int .i64 x) ∧ P x ∧ CurAt B w' g ∧ Only g w w'

theorem cur_end0 {B g : Nat} {w : World} {A : Option Addr} {n c i : Nat} {h : Int} (hB : B ≤ g) (hw : Blk w g 74 #[.slice A n c, .int .i64 (i : Int), .int .i64 h]) (hn : (n : Int) ≤ 9223372036854775807) (hy : BytesAt B w A n) (H : Int) (k : Nat) :
    CurAt B ((w.setCell ⟨g, 2, none⟩ (.int .i64 H)).drewN k) g ∧ Only g w ((w.setCell ⟨g, 2, none⟩ (.int .i64 H)).drewN k) := by
  have ho : Only g w ((w.setCell ⟨g, 2, none⟩ (.int .i64 H)).drewN k) := ((Only.refl g w).setCell 2 _).drewN k
  have h1 : Blk ((w.setCell ⟨g, 2, none⟩ (.int .i64 H)).drewN k) g 74 #[.slice A n c, .int .i64 (i : Int), .int .i64 H] := hw.set_ 2 _
  exact ⟨⟨hB, A, n, c, i, H, h1, hn, hy.keep (ho.below hB (by have := hw.lt; omega))⟩, ho⟩
theorem cur_end1 {B g : Nat} {w : World} {A : Option Addr} {n c i : Nat} {h : Int} (hB : B ≤ g) (hw : Blk w g 74 #[.slice A n c, .int .i64 (i : Int), .int .i64 h]) (hn : (n : Int) ≤ 9223372036854775807) (hy : BytesAt B w A n) (H : Int) (k : Nat) :
    CurAt B (((w.setCell ⟨g, 2, none⟩ (.int .i64 H)).drewN k).setCell ⟨g, 1, none⟩ (.int .i64 ((i : Int) + 1))) g ∧ Only g w (((w.setCell ⟨g, 2, none⟩ (.int .i64 H)).drewN k).setCell ⟨g, 1, none⟩ (.int .i64 ((i : Int) + 1))) := by
  have ho : Only g w (((w.setCell ⟨g, 2, none⟩ (.int .i64 H)).drewN k).setCell ⟨g, 1, none⟩ (.int .i64 ((i : Int) + 1))) := (((Only.refl g w).setCell 2 _).drewN k).setCell 1 _
  have h0 : Blk ((w.setCell ⟨g, 2, none⟩ (.int .i64 H)).drewN k) g 74 #[.slice A n c, .int .i64 (i : Int), .int .i64 H] := hw.set_ 2 _
  have h1 : Blk (((w.setCell ⟨g, 2, none⟩ (.int .i64 H)).drewN k).setCell ⟨g, 1, none⟩ (.int .i64 ((i : Int) + 1))) g 74 #[.slice A n c, .int .i64 ((i + 1 : Nat) : Int), .int .i64 H] := h0.set_ 1 _
  exact ⟨⟨hB, A, n, c, i + 1, H, h1, hn, hy.keep (ho.below hB (by have := hw.lt; omega))⟩, ho⟩

theorem byte_any (B g : Nat) (w : World) (hc : CurAt B w g) :
    Calls Tryd.prog 69 #[.pointer (some ⟨g, 0, none⟩)] w (Drawn B g w fun x => 0 ≤ x ∧ x ≤ 255) := by
  obtain ⟨hB, A, n, c, i, h, hw, hn, hy⟩ := hc
  have c0 := hw.cell 0; have c1 := hw.cell 1; have c2 := hw.cell 2
  have f1 := hw.frozen 1; have f2 := hw.frozen 2
  have HW := Lib.hid hw; clear hw
  simp at c0 c1 c2
  by_cases hi : i < n
  · obtain ⟨ad, b, rfl, hlt, hcb, hb0, hb1⟩ := hy i hi
    have HY := Lib.hid hy; clear hy
    have hcell : ∀ v, (w.setCell ⟨g, 2, none⟩ v).cell? (ad.add i) = some (.int .u8 b) := fun v => by
      rw [World.cell?_setCell_other w _ _ v (fun e => by have := congrArg Addr.block e; rw [block_add] at this; simp at this; omega)]
      exact hcb
    go_enter Tryd.func69, Tryd.ntmps69
    go_wp2_with fail
    go_quiet (fail)
    go_wp2_with fail
    go_quiet (fail)
    go_wp2_with fail
    go_quiet (fail)
    go_wp2_with fail
    go_ret
    exact ⟨_, rfl, mask255 _, cur_end1 hB HW.out hn HY.out _ _⟩
  · have HY := Lib.hid hy; clear hy
    go_enter Tryd.func69, Tryd.ntmps69
    go_wp2_with fail
    go_quiet (fail)
    go_wp2_with fail
    go_quiet (fail)
    go_wp2_with fail
    go_ret
    refine ⟨_, rfl, mask255 _, ?_⟩
    rw [World.drewN_drewN]
    exact cur_end0 hB HW.out hn HY.out _ _

theorem Drawn.mono {B g : Nat} {w : World} {P Q : Int → Prop} (h : ∀ x, P x → Q x) {e : Ending} {w' : World} (hd : Drawn B g w P e w') : Drawn B g w Q e w' := by
  obtain ⟨x, h1, h2, h3⟩ := hd
  exact ⟨x, h1, h x h2, h3⟩

theorem below_any (B g : Nat) (n : Int) (w : World) (hc : CurAt B w g) :
    Calls Tryd.prog 58 #[.pointer (some ⟨g, 0, none⟩), .int .i64 n] w (Drawn B g w fun x => 0 ≤ x ∧ (n ≤ 0 → x = 0) ∧ (0 < n → x < n)) := by
  have HC := Lib.hid hc; clear hc
  by_cases h0 : n ≤ 0
  · go_enter Tryd.func58, Tryd.ntmps58
    go_wp2_with fail
    go_ret
    exact ⟨0, rfl, ⟨by omega, fun _ => rfl, fun h => h⟩, HC.out, Only.refl _ _⟩
  · by_cases h1 : n ≤ 256
    · go_enter Tryd.func58, Tryd.ntmps58
      go_wp2_with fail
      refine (byte_any B g w HC.out).mono ?_
      rintro e w' ⟨x, rfl, ⟨x0, x1⟩, hc, ho⟩
      go_wp2_with fail
      go_ret
      exact ⟨_, rfl, ⟨Int.emod_nonneg _ (by omega), fun h => by omega, fun _ => Int.emod_lt_of_pos _ (by omega)⟩, hc, ho⟩
    · go_enter Tryd.func58, Tryd.ntmps58
      go_wp2_with fail
      refine (byte_any B g w HC.out).mono ?_
      rintro e w1 ⟨x, rfl, ⟨x0, x1⟩, hc1, ho1⟩
      have HC1 := Lib.hid hc1; have HO1 := Lib.hid ho1; clear hc1 ho1
      go_wp2_with fail
      refine (byte_any B g w1 HC1.out).mono ?_
      rintro e w2 ⟨y, rfl, ⟨y0, y1⟩, hc2, ho2⟩
      have HC2 := Lib.hid hc2; have HO2 := Lib.hid ho2; clear hc2 ho2
      go_wp2_with fail
      refine (byte_any B g w2 HC2.out).mono ?_
      rintro e w3 ⟨z, rfl, ⟨z0, z1⟩, hc3, ho3⟩
      have HC3 := Lib.hid hc3; have HO3 := Lib.hid ho3; clear hc3 ho3
      go_wp2_with fail
      refine (byte_any B g w3 HC3.out).mono ?_
      rintro e w4 ⟨u, rfl, ⟨u0, u1⟩, hc4, ho4⟩
      go_wp2_with fail
      go_ret
      exact ⟨_, rfl, ⟨Int.emod_nonneg _ (by omega), fun h => by omega, fun _ => Int.emod_lt_of_pos _ (by omega)⟩, hc4, ((HO1.out.trans HO2.out).trans HO3.out).trans ho4⟩

/-- a cell that lies in a block other than g reads as it did -/
theorem Only.cell {g : Nat} {a w : World} (h : Only g a w) {p : Addr} (hp : p.block < a.heap.size) (hne : p.block ≠ g) : w.cell? p = a.cell? p :=
  World.cell?_of_block (h.block p.block hp (by intro e; injection e with e; exact hne e))

theorem pickint_any (B g : Nat) (w : World) (ad : Addr) (n c : Nat) (Q : Int → Prop) (hc : CurAt B w g) (hn : 0 < n) (hn2 : (n : Int) ≤ 256) (hg : ad.block ≠ g)
    (hx : ∀ k, k < n → ∃ x, w.cell? (ad.add k) = some (.int .i64 x) ∧ Q x) :
    Calls Tryd.prog 73 #[.pointer (some ⟨g, 0, none⟩), .slice (some ad) n c] w (Drawn B g w Q) := by
  have HC := Lib.hid hc; have HX := Lib.hid hx; clear hc hx
  go_enter Tryd.func73, Tryd.ntmps73
  go_wp2_with fail
  refine (below_any B g n w HC.out).mono ?_
  rintro e w' ⟨x, rfl, ⟨x0, x1, x2⟩, hc, ho⟩
  have x3 := x2 (by omega)
  obtain ⟨k, rfl⟩ : ∃ k : Nat, x = k := ⟨x.toNat, by omega⟩
  obtain ⟨y, hy, hq⟩ := HX.out k (by omega)
  have hlt : ad.block < w.heap.size := by
    have := cell_lt hy
    rwa [block_add] at this
  have hy' : w'.cell? (ad.add k) = some (.int .i64 y) := (ho.cell (by rw [block_add]; exact hlt) (by rw [block_add]; exact hg)).trans hy
  have HC' := Lib.hid hc; have HO := Lib.hid ho; have HQ := Lib.hid hq
  clear hc ho hq x2 x1
  go_wp2_with fail
  go_ret
  exact ⟨_, rfl, HQ.out, HC'.out, HO.out⟩

theorem pick_any (B g : Nat) (w : World) (ad : Addr) (n c : Nat) (Q : List UInt8 → Prop) (hc : CurAt B w g) (hn : 0 < n) (hn2 : (n : Int) ≤ 256) (hg : ad.block ≠ g)
    (hx : ∀ k, k < n → ∃ x, w.cell? (ad.add k) = some (.string (bs x)) ∧ Q x) :
    Calls Tryd.prog 62 #[.pointer (some ⟨g, 0, none⟩), .slice (some ad) n c] w fun e w' => ∃ x, e = .returned (.string (bs x)) ∧ Q x ∧ CurAt B w' g ∧ Only g w w' := by
  have HC := Lib.hid hc; have HX := Lib.hid hx; clear hc hx
  go_enter Tryd.func62, Tryd.ntmps62
  go_wp2_with fail
  refine (below_any B g n w HC.out).mono ?_
  rintro e w' ⟨x, rfl, ⟨x0, x1, x2⟩, hc, ho⟩
  have x3 := x2 (by omega)
  obtain ⟨k, rfl⟩ : ∃ k : Nat, x = k := ⟨x.toNat, by omega⟩
  obtain ⟨y, hy, hq⟩ := HX.out k (by omega)
  have hlt : ad.block < w.heap.size := by
    have := cell_lt hy
    rwa [block_add] at this
  have hy' : w'.cell? (ad.add k) = some (.string (bs y)) := (ho.cell (by rw [block_add]; exact hlt) (by rw [block_add]; exact hg)).trans hy
  have HC' := Lib.hid hc; have HO := Lib.hid ho; have HQ := Lib.hid hq
  clear hc ho hq x2 x1
  go_wp2_with fail
  go_ret
  exact ⟨_, rfl, HQ.out, HC'.out, HO.out⟩

theorem mask30 (x : Int) : 0 ≤ bits .and .i64 x 1073741823 ∧ bits .and .i64 x 1073741823 ≤ 1073741823 := and_mask x 1073741823 (by omega)

theorem cur_new {B : Nat} {w : World} {A : Option Addr} {n c : Nat} (hB : B ≤ w.heap.size) (hy : BytesAt B w A n) (hn : (n : Int) ≤ 9223372036854775807) (y : Int) :
    CurAt B (w.alloc (.cells #[.slice A n c, .int .i64 0, .int .i64 y] 74)) w.heap.size :=
  ⟨hB, A, n, c, 0, y, heap_alloc_new w _, hn, hy.keep ((Below.refl _ _).alloc hB _)⟩

set_option maxRecDepth 100000 in
/-- l1New lays a cursor in a new block -/
theorem new_any (B : Nat) (w : World) (A : Option Addr) (n c : Nat) (hB : B ≤ w.heap.size) (hn : (n : Int) ≤ 9223372036854675807) (hy : BytesAt B w A n) :
    Calls Tryd.prog 35 #[.slice A n c] w fun e w' => ∃ g, e = .returned (.pointer (some ⟨g, 0, none⟩)) ∧ w.heap.size ≤ g ∧ CurAt B w' g ∧ Below w.heap.size w w' := by
  have HY := Lib.hid hy; clear hy
  go_enter Tryd.func35, Tryd.ntmps35
  go_wp2_with fail
  go_loop [3, 4] (fun h i => ∃ (k : Nat) (y : Int), k ≤ n ∧ i = .int .i64 (k : Int) ∧ h = .int .i64 y) (fun _ i => n - (intOf i).toNat)
  case atStart => exact ⟨0, _, by omega, rfl, rfl⟩
  case round =>
    obtain ⟨k, y, hk, rfl, rfl⟩ := hrel
    by_cases hlt : k < n
    · by_cases h4 : (k : Int) < 4000
      · obtain ⟨ad, b, rfl, hb, hcell, hb0, hb1⟩ := HY.out k hlt
        go_wp2_with fail
        go_round
        case rel => exact ⟨k + 1, _, by omega, by go_num, rfl⟩
        case measure => simp [intOf]; omega
      · go_wp2_with fail
        go_ret
        exact ⟨_, rfl, Nat.le_refl _, cur_new hB HY.out (by omega) y, (Below.refl _ _).alloc (Nat.le_refl _) _⟩
    · go_wp2_with fail
      go_ret
      exact ⟨_, rfl, Nat.le_refl _, cur_new hB HY.out (by omega) y, (Below.refl _ _).alloc (Nat.le_refl _) _⟩
end Go.Proofs.YtdejncnjaebjfaaDoor
