/-
  Plain laws of decimal texts: no program in sight. 'digs n' are the decimal digits of a natural number as bytes, 'txt n' the text of an integer, as bytes.
-/
namespace Go.Proofs.YtdejncnjaebjfaaDoor
set_option linter.unusedVariables false
set_option linter.unusedSimpArgs false

def digsF : Nat → Nat → List UInt8
  | 0, _ => []
  | f + 1, n => if n < 10 then [UInt8.ofNat (48 + n)] else digsF f (n / 10) ++ [UInt8.ofNat (48 + n % 10)]

theorem digsF_eq (f : Nat) : ∀ g n : Nat, n < f → n < g → digsF f n = digsF g n := by
  induction f with
  | zero => intro g n h _; omega
  | succ f ih =>
    intro g n h1 h2
    cases g with
    | zero => omega
    | succ g =>
      simp only [digsF]
      by_cases h : n < 10
      · rw [if_pos h, if_pos h]
      · rw [if_neg h, if_neg h, ih g (n / 10) (by omega) (by omega)]

def digs (n : Nat) : List UInt8 := digsF (n + 1) n

theorem digs_lt {n : Nat} (h : n < 10) : digs n = [UInt8.ofNat (48 + n)] := by
  unfold digs digsF; rw [if_pos h]

theorem digs_ge {n : Nat} (h : ¬ n < 10) : digs n = digs (n / 10) ++ [UInt8.ofNat (48 + n % 10)] := by
  conv => lhs; unfold digs digsF
  rw [if_neg h]
  unfold digs
  rw [digsF_eq n (n / 10 + 1) (n / 10) (by omega) (by omega)]

theorem digs_len (k : Nat) : ∀ n : Nat, n < 10 ^ (k + 1) → (digs n).length ≤ k + 1 := by
  induction k with
  | zero => intro n h; rw [digs_lt (by omega)]; simp
  | succ k ih =>
    intro n h
    by_cases h1 : n < 10
    · rw [digs_lt h1]; simp
    · rw [digs_ge h1]
      have := ih (n / 10) (by rw [Nat.pow_succ] at h; omega)
      simp; omega

theorem digs_ne (n : Nat) : digs n ≠ [] := by
  by_cases h : n < 10
  · rw [digs_lt h]; simp
  · rw [digs_ge h]; simp

def txt (n : Int) : List UInt8 := if n < 0 then 45 :: digs n.natAbs else digs n.natAbs

theorem txt_nn {n : Int} (h : 0 ≤ n) : txt n = digs n.natAbs := by unfold txt; rw [if_neg (by omega)]
theorem txt_neg {n : Int} (h : n < 0) : txt n = 45 :: digs n.natAbs := by unfold txt; rw [if_pos h]

theorem txt_len {n : Int} (h : -9223372036854775808 ≤ n) (h' : n ≤ 9223372036854775807) : (txt n).length ≤ 20 := by
  have hd := digs_len 18 n.natAbs (by omega)
  unfold txt
  split <;> simp <;> omega

/-- bytes as a Go string -/
def bs (l : List UInt8) : ByteArray := ⟨l.toArray⟩
theorem bs_app (a b : List UInt8) : bs a ++ bs b = bs (a ++ b) := by
  unfold bs
  rw [ByteArray.ext_iff]
  simp
theorem bs_size (a : List UInt8) : (bs a).size = a.length := by simp [bs, ByteArray.size]
theorem bs_inj {a b : List UInt8} (h : bs a = bs b) : a = b := by
  have := congrArg (fun x : ByteArray => x.data.toList) h
  simpa [bs] using this
theorem bs_of (s : ByteArray) : s = bs s.data.toList := by simp [bs]

end Go.Proofs.YtdejncnjaebjfaaDoor
