/- Plain words on numbers in bytes: big-endian bytes of a number, the number of bytes, that the two go back and forth. No program is named here. -/
import Derived.Lib.Strings
namespace Go.Proofs.Ytoeaakadpillnaa

/-- The k last bytes of n, the greatest first. -/
def be : Nat → Nat → List UInt8
  | 0, _ => []
  | k + 1, n => be k (n / 256) ++ [UInt8.ofNat n]

/-- The number that bytes are, the greatest first. -/
def un (l : List UInt8) : Nat := l.foldl (fun a c => 256 * a + c.toNat) 0

theorem be_length : ∀ k n : Nat, (be k n).length = k
  | 0, _ => rfl
  | k + 1, n => by simp [be, be_length k]

theorem un_snoc (l : List UInt8) (c : UInt8) : un (l ++ [c]) = 256 * un l + c.toNat := by simp [un]

theorem un_nil : un [] = 0 := rfl

theorem u8_ofNat (n : Nat) : (UInt8.ofNat n).toNat = n % 256 := by simp

theorem un_be : ∀ k n : Nat, un (be k n) = n % 256 ^ k
  | 0, n => by simp [be, un, Nat.mod_one]
  | k + 1, n => by
    rw [be, un_snoc, un_be k, u8_ofNat, Nat.pow_succ, Nat.mul_comm (256 ^ k) 256, Nat.mod_mul]
    omega

theorem un_be_fits (k n : Nat) (h : n < 256 ^ k) : un (be k n) = n := by rw [un_be, Nat.mod_eq_of_lt h]

theorem snoc_cases (l : List UInt8) : l = [] ∨ ∃ i c, l = i ++ [c] := by
  rcases List.eq_nil_or_concat l with h | ⟨i, c, h⟩
  · exact .inl h
  · exact .inr ⟨i, c, by simpa using h⟩

theorem un_lt : ∀ (n : Nat) (l : List UInt8), l.length = n → un l < 256 ^ n := by
  intro n
  induction n with
  | zero => intro l h; rw [List.length_eq_zero_iff.1 h]; simp [un]
  | succ n ih =>
    intro l h
    rcases snoc_cases l with rfl | ⟨i, c, rfl⟩
    · simp at h
    · have := ih i (by simpa using h)
      have hc := c.toNat_lt
      rw [un_snoc, Nat.pow_succ]
      omega

theorem be_un : ∀ (n : Nat) (l : List UInt8), l.length = n → be n (un l) = l := by
  intro n
  induction n with
  | zero => intro l h; rw [List.length_eq_zero_iff.1 h]; rfl
  | succ n ih =>
    intro l h
    rcases snoc_cases l with rfl | ⟨i, c, rfl⟩
    · simp at h
    · have hc := c.toNat_lt
      have hi := ih i (by simpa using h)
      rw [be, un_snoc, show (256 * un i + c.toNat) / 256 = un i by omega, hi]
      congr 2
      rw [← UInt8.toNat_inj, u8_ofNat]
      omega

theorem be_inj (k a b : Nat) (ha : a < 256 ^ k) (hb : b < 256 ^ k) (h : be k a = be k b) : a = b := by
  rw [← un_be_fits k a ha, ← un_be_fits k b hb, h]

/-- Byte i of the k bytes, from the end. -/
theorem be_get : ∀ (k n i : Nat), i < k → (be k n)[k - 1 - i]? = some (UInt8.ofNat (n / 256 ^ i))
  | 0, _, _, h => absurd h (by omega)
  | k + 1, n, i, h => by
    rw [be]
    cases i with
    | zero => rw [List.getElem?_append_right (by rw [be_length]; omega)]; simp [be_length]
    | succ i =>
      rw [List.getElem?_append_left (by rw [be_length]; omega), show k + 1 - 1 - (i + 1) = k - 1 - i by omega, be_get k _ i (by omega), Nat.div_div_eq_div_mul, Nat.pow_succ, Nat.mul_comm 256]
end Go.Proofs.Ytoeaakadpillnaa
