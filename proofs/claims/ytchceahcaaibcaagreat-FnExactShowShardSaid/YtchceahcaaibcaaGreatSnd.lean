/-
  The evaluator is right: what values stand for, and how that lasts.
-/
import Derived.Test.YtchceahcaaibcaaGreatEv
import Derived.Below
namespace Go.Proofs.YtchceahcaaibcaaGreat
set_option linter.unusedSimpArgs false
set_option linter.unusedVariables false
set_option linter.unusedSectionVars false

def bsv (l : List UInt8) : ByteArray := ⟨l.toArray⟩
theorem bsv_byteList (s : ByteArray) : bsv (byteList s) = s := by
  cases s; simp [bsv, byteList]
theorem gd_nil (i : Nat) : gd [] i = D0 := by simp [gd]
theorem gd_cons_zero (d : D) (p : List D) : gd (d :: p) 0 = d := rfl
theorem gd_cons_succ (d : D) (p : List D) (i : Nat) : gd (d :: p) (i + 1) = gd p i := by simp [gd]
theorem gd_tail (p : List D) (i : Nat) : gd p.tail i = gd p (i + 1) := by
  cases p <;> simp [gd]
theorem sub_length (p : List D) : ∀ (n o : Nat), (sub p o n).length = n
  | 0, _ => rfl
  | n + 1, o => by simp [sub, sub_length p n]
theorem gd_sub (p : List D) : ∀ (n o i : Nat), i < n → gd (sub p o n) i = gd p (o + i)
  | 0, _, _, h => by omega
  | n + 1, o, 0, _ => by simp [sub, gd_cons_zero]
  | n + 1, o, i + 1, h => by
    rw [sub, gd_cons_succ, gd_sub p n (o + 1) i (by omega)]
    congr 1; omega

/-- what is known of the blocks: how many cells stay as they are; whose a block is; the boxes' and the rows' blocks, the rows' lengths and widths -/
structure G where
  prot : Nat → Nat
  owner : Nat → Option (Nat ⊕ Tok)
  θ : Nat → Nat
  ρ : Tok → Nat
  len : Tok → Nat
  wid : Tok → Nat
  ety : Tok → TypeId

inductive VD (P : Program) (w : World) (prot : Nat → Nat) : S → D → Value → Prop
  | int (k : IntKind) (d : D) : VD P w prot (.int k) d (.int k d.int)
  | bool (d : D) : VD P w prot .bool d (.bool d.bool)
  | str (d : D) : VD P w prot .str d (.string (bsv d.str))
  | sl (e : TypeId) (d : D) (A : Option Addr) (c : Nat) (row : List S) (u : Nat → Nat → Value) (hr : rowOf P e = some row)
      (h1 : d.rows.length ≤ c) (h2 : c ≤ 9223372036854775807)
      (h3 : ∀ i j, i < d.rows.length → j < row.length → ∃ b o, A = some ⟨b, o, none⟩ ∧ w.cell? ⟨b, o + (i * row.length + j), none⟩ = some (u i j) ∧ o + (i * row.length + j) < prot b)
      (h4 : ∀ i j s, i < d.rows.length → row[j]? = some s → VD P w prot s (gd (d.rows.getD i []) j) (u i j)) : VD P w prot (.sl e) d (.slice A d.rows.length c)

theorem cell_size {w : World} {b o : Nat} {v : Value} (h : w.cell? ⟨b, o, none⟩ = some v) : b < w.heap.size := by
  rcases Nat.lt_or_ge b w.heap.size with hlt | hge
  · exact hlt
  · unfold World.cell? at h; rw [Array.getElem?_eq_none hge] at h; cases h
theorem cell_of_heap {w w' : World} {b : Nat} (h : w'.heap[b]? = w.heap[b]?) (o : Nat) : w'.cell? ⟨b, o, none⟩ = w.cell? ⟨b, o, none⟩ := by
  unfold World.cell?; simp only; rw [h]

theorem VD.mono {P : Program} {w w' : World} {prot prot' : Nat → Nat} {s : S} {x : D} {v : Value} (h : VD P w prot s x v)
    (hk : ∀ b o u, o < prot b → w.cell? ⟨b, o, none⟩ = some u → w'.cell? ⟨b, o, none⟩ = some u ∧ o < prot' b) : VD P w' prot' s x v := by
  induction h with
  | int k d => exact .int k d
  | bool d => exact .bool d
  | str d => exact .str d
  | sl e d A c row u hr h1 h2 h3 h4 ih =>
    refine .sl e d A c row u hr h1 h2 (fun i j hi hj => ?_) (fun i j s hi hs => ih i j s hi hs)
    obtain ⟨b, o, hA, hc, hp⟩ := h3 i j hi hj
    obtain ⟨k1, k2⟩ := hk b _ _ hp hc
    exact ⟨b, o, hA, k1, k2⟩

/-- a value that may lie in a cell -/
def flatV : Value → Bool
  | .agg _ | .tuple _ => false
  | _ => true
theorem VD.flat {P : Program} {w : World} {prot : Nat → Nat} {s : S} {x : D} {v : Value} (h : VD P w prot s x v) : flatV v = true := by
  cases h <;> rfl

section
variable (P : Program) (w : World) (g : G) (base : Nat)
def OwnV (t : Tok) (xm : Bool) (e : TypeId) (row : List S) (rows : List (List D)) (v : Value) : Prop :=
  (rows = [] ∧ g.len t = 0 ∧ ∃ A, v = .slice A 0 0) ∨
  (∃ (cap : Nat) (arr : Array Value) (E : TypeId), v = .slice (some ⟨g.ρ t, 0, none⟩) rows.length cap ∧ rows.length ≤ cap ∧ (cap ≤ 9223372036854775807 ∧ E = e ∧ e = g.ety t) ∧ base ≤ g.ρ t ∧ g.owner (g.ρ t) = some (.inr t) ∧
    w.heap[g.ρ t]? = some (.cells arr E (0, 0)) ∧ arr.size = cap * row.length ∧ rows.length = g.len t ∧ row.length = g.wid t ∧ g.prot (g.ρ t) = (if xm then 0 else g.len t * g.wid t) ∧
    ∀ i j s, i < rows.length → row[j]? = some s → ∃ u, arr[i * row.length + j]? = some u ∧ VD P w g.prot s (gd (rows.getD i []) j) u)
def CptrV (cells : List S) (off : Nat) (x : D) (v : Value) : Prop :=
  ∃ b o, v = .pointer (some ⟨b, o + off, none⟩) ∧ b < base ∧ ∀ j s, cells[j]? = some s → ∃ u, w.cell? ⟨b, o + j, none⟩ = some u ∧ VD P w g.prot s (gd (x.rows.getD 0 []) j) u
def CapV : Cap → D → Value → Prop
  | .d s, x, v => VD P w g.prot s x v
  | .ptr id off, _, v => v = .pointer (some ⟨g.θ id, off, none⟩)
  | .cptr cells off, x, v => CptrV P w g base cells off x v
def eRows (x : D) : List (List D) := (gd (x.rows.getD 0 []) 0).rows
def eIx (x : D) : Nat := (gd (x.rows.getD 0 []) 1).int.toNat
def VC : Ce → D → Value → Prop
  | .any, _, _ => True
  | .d s, x, v => VD P w g.prot s x v
  | .kb b, _, v => v = .bool b
  | .own t xm e, x, v => ∃ row, rowOf P e = some row ∧ OwnV P w g base t xm e row x.rows v
  | .ptr id off, _, v => v = .pointer (some ⟨g.θ id, off, none⟩)
  | .eptr none e off, x, v => ∃ row b o, rowOf P e = some row ∧ v = .pointer (some ⟨b, o + (eIx x * row.length + off), none⟩) ∧ eIx x < (eRows x).length ∧
      ∀ j s, row[j]? = some s → ∃ u, w.cell? ⟨b, o + (eIx x * row.length + j), none⟩ = some u ∧ o + (eIx x * row.length + j) < g.prot b ∧ VD P w g.prot s (gd ((eRows x).getD (eIx x) []) j) u
  | .eptr (some t) e off, x, v => ∃ row, rowOf P e = some row ∧ v = .pointer (some ⟨g.ρ t, eIx x * row.length + off, none⟩) ∧ eIx x < (eRows x).length ∧ ∃ u, OwnV P w g base t true e row (eRows x) u
  | .cptr cells off, x, v => CptrV P w g base cells off x v
  | .fn f caps, x, v => ∃ arr : Array Value, v = .func (.func f) #[] arr ∧ arr.size = caps.length ∧ ∀ j c, caps[j]? = some c → ∃ u, arr[j]? = some u ∧ CapV P w g base c (gd (x.rows.getD 0 []) j) u
def VCs (cs : List Ce) (p : List D) (arr : Array Value) : Prop := arr.size = cs.length ∧ ∀ (j : Nat) c, cs[j]? = some c → ∃ u, arr[j]? = some u ∧ VC P w g base c (gd p j) u
def V1 : Sh1 → List D → Value → Prop
  | .c x, p, v => VC P w g base x (gd p 0) v
  | .agg xs, p, v => ∃ arr, v = .agg arr ∧ VCs P w g base xs p arr
def offs (xs : List Sh1) (j : Nat) : Nat := (xs.take j).foldr (fun s n => s.size + n) 0
def VS : Sh → List D → Value → Prop
  | .one x, p, v => V1 P w g base x p v
  | .tup xs, p, v => ∃ vs : Array Value, v = .tuple vs ∧ vs.size = xs.length ∧ ∀ (j : Nat) x, xs[j]? = some x → ∃ u, vs[j]? = some u ∧ V1 P w g base x (sub p (offs xs j) x.size) u
def VT (t : T) (v : Value) : Prop := VS P w g base t.sh t.p v
def BoxV (id : Nat) (cs : List Ce) (ds : List D) : Prop :=
  base ≤ g.θ id ∧ g.owner (g.θ id) = some (.inl id) ∧ g.prot (g.θ id) = 0 ∧ ds.length = cs.length ∧ ∃ arr E, w.heap[g.θ id]? = some (.cells arr E (0, 0)) ∧ VCs P w g base cs ds arr
/-- how much stays as it is of the blocks that were there at the start -/
class Low where
  low : Nat → Nat
variable [Low]
structure Rel (σ : St) (a : Act) : Prop where
  env : ∀ i, VT P w g base (look2 i σ.e σ.r) (a.tmps.getD i undef)
  box : ∀ id cs ds, hlook id σ.h = some (cs, ds) → BoxV P w g base id cs ds
  fresh : ∀ b, w.heap.size ≤ b → g.prot b = 0 ∧ g.owner b = none
  base_le : base ≤ w.heap.size
  defers : a.defers = []
  low : ∀ b, b < base → g.owner b = none ∧ g.prot b = Low.low b
end

theorem VC.flat {P : Program} {w : World} {g : G} {base : Nat} {c : Ce} {x : D} {v : Value} (h : VC P w g base c x v) (hc : c ≠ .any) : flatV v = true := by
  cases c with
  | any => exact absurd rfl hc
  | d s => exact VD.flat h
  | kb b => cases h; rfl
  | own t xm e => obtain ⟨row, _, h | ⟨_, _, _, h, _⟩⟩ := h
                  · obtain ⟨_, _, A, h⟩ := h; cases h; rfl
                  · cases h; rfl
  | ptr id off => cases h; rfl
  | eptr t e off => cases t with
    | none => obtain ⟨_, _, _, _, h, _⟩ := h; cases h; rfl
    | some t => obtain ⟨_, _, h, _⟩ := h; cases h; rfl
  | cptr cells off => obtain ⟨_, _, h, _⟩ := h; cases h; rfl
  | fn f caps => obtain ⟨_, h, _⟩ := h; cases h; rfl

/-! ### how it lasts -/
/-- a later world, in which what was known is still known but for what was made at d -/
structure Ext (d : Option Nat) (g g' : G) (w w' : World) : Prop where
  size : w.heap.size ≤ w'.heap.size
  θ : ∀ id, some id ≠ d → g'.θ id = g.θ id
  ρ : ∀ t : Tok, some t.1 ≠ d → g'.ρ t = g.ρ t ∧ g'.len t = g.len t ∧ g'.wid t = g.wid t ∧ g'.ety t = g.ety t
  prot : ∀ b, b < w.heap.size → g'.prot b = g.prot b
  owner : ∀ b, b < w.heap.size → g'.owner b = g.owner b
  heap : ∀ b, b < w.heap.size → w'.heap[b]? = w.heap[b]?

theorem lt_of_heap {w : World} {b : Nat} {o : Obj} (h : w.heap[b]? = some o) : b < w.heap.size := by
  rcases Nat.lt_or_ge b w.heap.size with hlt | hge
  · exact hlt
  · rw [Array.getElem?_eq_none hge] at h; cases h

section
variable {P : Program} {w w' : World} {g g' : G} {base : Nat} {d : Option Nat}
theorem Ext.vd (h : Ext d g g' w w') {s : S} {x : D} {v : Value} (hv : VD P w g.prot s x v) : VD P w' g'.prot s x v :=
  hv.mono fun b o u ho hc => ⟨(cell_of_heap (h.heap b (cell_size hc)) o).trans hc, by rw [h.prot b (cell_size hc)]; exact ho⟩
theorem Ext.own (h : Ext d g g' w w') {t : Tok} {xm : Bool} {e : TypeId} {row : List S} {rows : List (List D)} {v : Value} (ht : some t.1 ≠ d) (hv : OwnV P w g base t xm e row rows v) : OwnV P w' g' base t xm e row rows v := by
  rcases hv with hv | ⟨cap, arr, E, h1, h2, h3, h4, h5, h6, h7, h8, h9, h10, h11⟩
  · exact .inl ⟨hv.1, by rw [(h.ρ t ht).2.1]; exact hv.2.1, hv.2.2⟩
  · obtain ⟨e1, e2, e3, e4⟩ := h.ρ t ht
    have hlt := lt_of_heap h6
    refine .inr ⟨cap, arr, E, by rw [e1]; exact h1, h2, by rw [e4]; exact h3, by rw [e1]; exact h4, by rw [e1, h.owner _ hlt]; exact h5, by rw [e1, h.heap _ hlt]; exact h6, h7, by rw [e2]; exact h8, by rw [e3]; exact h9, by rw [e1, e2, e3, h.prot _ hlt]; exact h10, ?_⟩
    intro i j s hi hs
    obtain ⟨u, hu, hd⟩ := h11 i j s hi hs
    exact ⟨u, hu, h.vd hd⟩
theorem Ext.cptr (h : Ext d g g' w w') {cells : List S} {off : Nat} {x : D} {v : Value} (hb : base ≤ w.heap.size) (hv : CptrV P w g base cells off x v) : CptrV P w' g' base cells off x v := by
  obtain ⟨b, o, h1, h2, h3⟩ := hv
  refine ⟨b, o, h1, h2, fun j s hs => ?_⟩
  obtain ⟨u, hu, hd⟩ := h3 j s hs
  exact ⟨u, (cell_of_heap (h.heap b (cell_size hu)) _).trans hu, h.vd hd⟩
theorem own_vd {t : Tok} {xm : Bool} {e : TypeId} {row : List S} {x : D} {v : Value} {prot : Nat → Nat} (hr : rowOf P e = some row) (hv : OwnV P w g base t xm e row x.rows v)
    (hp : ∀ b, g.prot b ≤ prot b) (hq : x.rows ≠ [] → g.len t * g.wid t ≤ prot (g.ρ t)) : VD P w prot (.sl e) x v := by
  rcases hv with ⟨h0, _, A, rfl⟩ | ⟨cap, arr, E, rfl, h2, h3, h4, h5, h6, h7, h8, h9, h10, h11⟩
  · have := VD.sl (P := P) (w := w) (prot := prot) e x A 0 row (fun _ _ => undef) hr (by rw [h0]; simp) (by omega) (by rw [h0]; intro i j hi; simp at hi) (by rw [h0]; intro i j s hi; simp at hi)
    rwa [h0] at this
  · refine VD.sl (P := P) (w := w) (prot := prot) e x _ cap row (fun i j => arr[i * row.length + j]?.getD undef) hr h2 h3.1 ?_ ?_
    · intro i j hi hj
      obtain ⟨u, hu, hd⟩ := h11 i j _ hi (List.getElem?_eq_getElem hj)
      refine ⟨_, _, rfl, ?_, ?_⟩
      · rw [hu]
        simp only [World.cell?, h6, Nat.zero_add]
        exact hu
      · have hq' := hq (by intro e; rw [e] at hi; simp at hi)
        rw [← h8, ← h9] at hq'
        have : i * row.length + row.length ≤ x.rows.length * row.length := by
          rw [← Nat.succ_mul]; exact Nat.mul_le_mul_right _ hi
        omega
    · intro i j s hi hs
      obtain ⟨u, hu, hd⟩ := h11 i j s hi hs
      simp only [hu]
      exact hd.mono fun b o u ho hc => ⟨hc, Nat.lt_of_lt_of_le ho (hp b)⟩

theorem own_vd' {t : Tok} {e : TypeId} {row : List S} {x : D} {v : Value} (hr : rowOf P e = some row) (hv : OwnV P w g base t false e row x.rows v) : VD P w g.prot (.sl e) x v := by
  refine own_vd hr hv (fun _ => Nat.le_refl _) fun hne => ?_
  rcases hv with ⟨h0, _⟩ | ⟨cap, arr, E, rfl, h2, h3, h4, h5, h6, h7, h8, h9, h10, h11⟩
  · exact absurd h0 hne
  · rw [h10]; simp

theorem Ext.cap {d₀ : Nat} (h : Ext (some d₀) g g' w w') (hb : base ≤ w.heap.size) {c : Cap} {x : D} {v : Value} (hc : ∀ off, c ≠ .ptr d₀ off) (hv : CapV P w g base c x v) : CapV P w' g' base c x v := by
  cases c with
  | d s => exact h.vd hv
  | ptr id off =>
    show v = _
    rw [h.θ id (by intro e; injection e with e; exact hc off (by rw [e]))]; exact hv
  | cptr cells off => exact h.cptr hb hv

theorem Ext.vc {d₀ : Nat} (h : Ext (some d₀) g g' w w') (hb : base ≤ w.heap.size) {c : Ce} {x : D} {v : Value} (hv : VC P w g base c x v) : VC P w' g' base (wipeC d₀ c) x v := by
  cases c with
  | any => trivial
  | d s => exact h.vd hv
  | kb b => exact hv
  | own t xm e =>
    obtain ⟨row, hr, hv⟩ := hv
    change VC P w' g' base (bif t.1 == d₀ then (bif xm then .any else .d (.sl e)) else .own t xm e) x v
    by_cases ht : t.1 = d₀
    · rw [show (t.1 == d₀) = true from by simpa using ht, cond_true]
      cases xm with
      | true => trivial
      | false => exact h.vd (own_vd' hr hv)
    · rw [show (t.1 == d₀) = false from by simpa using ht, cond_false]
      exact ⟨row, hr, h.own (by simpa using ht) hv⟩
  | ptr id off =>
    change VC P w' g' base (bif id == d₀ then .any else .ptr id off) x v
    by_cases ht : id = d₀
    · rw [show (id == d₀) = true from by simpa using ht]; trivial
    · rw [show (id == d₀) = false from by simpa using ht, cond_false]
      show v = _
      rw [h.θ id (by simpa using ht)]; exact hv
  | eptr t e off =>
    cases t with
    | none =>
      obtain ⟨row, b, o, h1, h2, h3, h4⟩ := hv
      refine ⟨row, b, o, h1, h2, h3, fun j s hs => ?_⟩
      obtain ⟨u, k1, k2, k3⟩ := h4 j s hs
      exact ⟨u, (cell_of_heap (h.heap b (cell_size k1)) _).trans k1, by rw [h.prot b (cell_size k1)]; exact k2, h.vd k3⟩
    | some t =>
      change VC P w' g' base (bif t.1 == d₀ then .any else .eptr (some t) e off) x v
      by_cases ht : t.1 = d₀
      · rw [show (t.1 == d₀) = true from by simpa using ht]; trivial
      · rw [show (t.1 == d₀) = false from by simpa using ht, cond_false]
        obtain ⟨row, h1, h2, h3, u, h4⟩ := hv
        exact ⟨row, h1, by rw [(h.ρ t (by simpa using ht)).1]; exact h2, h3, u, h.own (by simpa using ht) h4⟩
  | cptr cells off => exact h.cptr hb hv
  | fn f caps =>
    change VC P w' g' base (bif caps.all (fun | .ptr id _ => id != d₀ | _ => true) then .fn f caps else .any) x v
    generalize hq : caps.all _ = q
    cases q with
    | false => trivial
    | true =>
      obtain ⟨arr, h1, h2, h3⟩ := hv
      refine ⟨arr, h1, h2, fun j c hc => ?_⟩
      obtain ⟨u, hu, hcap⟩ := h3 j c hc
      refine ⟨u, hu, h.cap hb (fun off e => ?_) hcap⟩
      have := List.all_eq_true.1 hq c (List.mem_of_getElem? hc)
      rw [e] at this
      simp at this
end

theorem Ext.low [Low] {P : Program} {w w' : World} {g g' : G} {base : Nat} {d : Option Nat} {σ : St} {a : Act} (h : Ext d g g' w w') (hr : Rel P w g base σ a) : ∀ b, b < base → g'.owner b = none ∧ g'.prot b = Low.low b := fun b hb => by
  have hlt := Nat.lt_of_lt_of_le hb hr.base_le
  rw [h.owner b hlt, h.prot b hlt]
  exact hr.low b hb

/-! ### over a whole state -/
def Kept (P : Program) (base : Nat) (g g' : G) (w w' : World) (f : Ce → Ce) : Prop := ∀ c x v, VC P w g base c x v → VC P w' g' base (f c) x v

section
variable [Low] {P : Program} {w w' : World} {g g' : G} {base : Nat} {f : Ce → Ce}
theorem Kept.vcs (h : Kept P base g g' w w' f) {cs : List Ce} {p : List D} {arr : Array Value} (hv : VCs P w g base cs p arr) : VCs P w' g' base (cs.map f) p arr := by
  refine ⟨by rw [List.length_map]; exact hv.1, fun j c hc => ?_⟩
  rw [List.getElem?_map] at hc
  cases hj : cs[j]? with
  | none => rw [hj] at hc; cases hc
  | some c0 =>
    rw [hj] at hc
    injection hc with hc
    obtain ⟨u, hu, hv'⟩ := hv.2 j c0 hj
    exact ⟨u, hu, hc ▸ h c0 _ _ hv'⟩
theorem Kept.v1 (h : Kept P base g g' w w' f) {s : Sh1} {p : List D} {v : Value} (hv : V1 P w g base s p v) : V1 P w' g' base (s.map f) p v := by
  cases s with
  | c x => exact h x _ _ hv
  | agg xs => obtain ⟨arr, h1, h2⟩ := hv; exact ⟨arr, h1, h.vcs h2⟩
theorem Sh1.size_map (f : Ce → Ce) (s : Sh1) : (s.map f).size = s.size := by
  cases s <;> simp [Sh1.map, Sh1.size]
theorem offs_map (f : Ce → Ce) : ∀ (xs : List Sh1) (j : Nat), offs (xs.map (Sh1.map f)) j = offs xs j
  | [], j => by simp [offs]
  | x :: xs, 0 => by simp [offs]
  | x :: xs, j + 1 => by
    have := offs_map f xs j
    simp only [offs, List.map_cons, List.take_succ_cons, List.foldr_cons, Sh1.size_map] at this ⊢
    rw [this]
theorem Kept.vt (h : Kept P base g g' w w' f) {t : T} {v : Value} (hv : VT P w g base t v) : VT P w' g' base ⟨t.sh.map f, t.p⟩ v := by
  obtain ⟨sh, p⟩ := t
  cases sh with
  | one x => exact h.v1 hv
  | tup xs =>
    obtain ⟨vs, h1, h2, h3⟩ := hv
    refine ⟨vs, h1, by rw [List.length_map]; exact h2, fun j x hx => ?_⟩
    rw [List.getElem?_map] at hx
    cases hj : xs[j]? with
    | none => rw [hj] at hx; cases hx
    | some x0 =>
      rw [hj] at hx
      injection hx with hx
      obtain ⟨u, hu, hv'⟩ := h3 j x0 hj
      refine ⟨u, hu, ?_⟩
      subst hx
      rw [offs_map, Sh1.size_map]
      exact h.v1 hv'

theorem look_map (F : T → T) (hF : F .any = .any) : ∀ (e : Env) (i : Nat), look i (e.map fun p => (p.1, F p.2)) = F (look i e)
  | [], i => by simp [look, hF]
  | (j, v) :: e, i => by
    simp only [List.map_cons, look]
    rw [look_map F hF e i]
    cases i == j <;> rfl
theorem look2_map (F : T → T) (hF : F .any = .any) (e : Env) (i : Nat) : ∀ (r : Env), look2 i (e.map fun p => (p.1, F p.2)) (r.map fun p => (p.1, F p.2)) = F (look2 i e r)
  | [] => look_map F hF e i
  | (j, v) :: r => by
    simp only [List.map_cons, look2]
    rw [look2_map F hF e i r]
    cases i == j <;> rfl
theorem hlook_map (F : List Ce → List Ce) : ∀ (h : Boxes) (i : Nat), hlook i (h.map fun p => (p.1, F p.2.1, p.2.2)) = (hlook i h).map fun q => (F q.1, q.2)
  | [], i => by simp [hlook]
  | (j, v) :: e, i => by
    simp only [List.map_cons, hlook]
    rw [hlook_map F e i]
    cases i == j <;> rfl

/-- the environment of a turned state -/
theorem Rel.envMap {σ : St} {a : Act} (hr : Rel P w g base σ a) (h : Kept P base g g' w w' f) (hf : f .any = .any) (i : Nat) :
    VT P w' g' base (look2 i (σ.map f).e (σ.map f).r) (a.tmps.getD i undef) := by
  have e := look2_map (fun t => (⟨t.sh.map f, t.p⟩ : T)) (by simp [Sh.map, Sh1.map, hf]) σ.e i σ.r
  show VT P w' g' base (look2 i (σ.e.map _) (σ.r.map _)) _
  rw [e]
  exact h.vt (hr.env i)
theorem Rel.boxMap {σ : St} {a : Act} (hr : Rel P w g base σ a) (h : Kept P base g g' w w' f) {id : Nat} {cs : List Ce} {ds : List D} (hl : hlook id (σ.map f).h = some (cs, ds))
    (hθ : ∀ cs ds, hlook id σ.h = some (cs, ds) → g'.θ id = g.θ id ∧ g'.owner (g.θ id) = g.owner (g.θ id) ∧ g'.prot (g.θ id) = g.prot (g.θ id) ∧ w'.heap[g.θ id]? = w.heap[g.θ id]?) : BoxV P w' g' base id cs ds := by
  have e := hlook_map (List.map f) σ.h id
  change hlook id (σ.map f).h = _ at e
  rw [hl] at e
  cases hq : hlook id σ.h with
  | none => rw [hq] at e; cases e
  | some q =>
    obtain ⟨cs0, ds0⟩ := q
    rw [hq] at e
    injection e with e
    injection e with e1 e2
    subst e1; subst e2
    obtain ⟨k1, k2, k3, kl, arr, E, k4, k5⟩ := hr.box id cs0 ds hq
    obtain ⟨t1, t2, t3, t4⟩ := hθ cs0 ds hq
    exact ⟨by rw [t1]; exact k1, by rw [t1, t2]; exact k2, by rw [t1, t3]; exact k3, by rw [List.length_map]; exact kl, arr, E, by rw [t1, t4]; exact k4, h.vcs k5⟩
end
end Go.Proofs.YtchceahcaaibcaaGreat
