/- Plain words on numbers in bytes: big-endian bytes of a number, the number of bytes, that the two go back and forth. No program is named here.; Plain words on strings for package key: what two lists begin with alike, their order, and that it is one. No program is named here.; Plain words on rows: which may be. No program is named here.; Plain words on entries: which may be, their bytes, which bytes are one. No program is named here.; Pages as data: which may be, their room. No program is named here.; Nodes as data: their keys, where a key is, what a page is with a text, without one, its parts. No program is named here.; The keys of a node's rows, one by one; they rise. No program is named here.; What a node answers: a key at a place, where a key is, below which child it is. No program is named here.; What a page is with a text at a place, without one; split, merged. No program is named here.; What a page is split into. No program is named here. -/
import Derived.Lib.Strings
import Derived.Lib.Bytealg
import Derived.Laws.Cover1
import Derived.Lib.Hide
namespace Go.Proofs.Ytienlhnbmobinaa

/-- The k last bytes of n, the greatest first. -/
def be : Nat → Nat → List UInt8
  | 0, _ => []
  | k + 1, n => be k (n / 256) ++ [UInt8.ofNat n]

/-- The number that bytes are, the greatest first. -/
def un (l : List UInt8) : Nat := l.foldl (fun a c => 256 * a + c.toNat) 0

theorem be_length : ∀ k n : Nat, (be k n).length = k
  | 0, _ => rfl
  | k + 1, n => by simp [be, be_length k]

theorem un_snoc (l : List UInt8) (c : UInt8) : un (l ++ [c]) = 256 * un l + c.toNat := by simp [un]

theorem un_nil : un [] = 0 := rfl

theorem u8_ofNat (n : Nat) : (UInt8.ofNat n).toNat = n % 256 := by simp

theorem un_be : ∀ k n : Nat, un (be k n) = n % 256 ^ k
  | 0, n => by simp [be, un, Nat.mod_one]
  | k + 1, n => by
    rw [be, un_snoc, un_be k, u8_ofNat, Nat.pow_succ, Nat.mul_comm (256 ^ k) 256, Nat.mod_mul]
    omega

theorem un_be_fits (k n : Nat) (h : n < 256 ^ k) : un (be k n) = n := by rw [un_be, Nat.mod_eq_of_lt h]

theorem snoc_cases (l : List UInt8) : l = [] ∨ ∃ i c, l = i ++ [c] := by
  rcases List.eq_nil_or_concat l with h | ⟨i, c, h⟩
  · exact .inl h
  · exact .inr ⟨i, c, by simpa using h⟩

theorem un_lt : ∀ (n : Nat) (l : List UInt8), l.length = n → un l < 256 ^ n := by
  intro n
  induction n with
  | zero => intro l h; rw [List.length_eq_zero_iff.1 h]; simp [un]
  | succ n ih =>
    intro l h
    rcases snoc_cases l with rfl | ⟨i, c, rfl⟩
    · simp at h
    · have := ih i (by simpa using h)
      have hc := c.toNat_lt
      rw [un_snoc, Nat.pow_succ]
      omega

theorem be_un : ∀ (n : Nat) (l : List UInt8), l.length = n → be n (un l) = l := by
  intro n
  induction n with
  | zero => intro l h; rw [List.length_eq_zero_iff.1 h]; rfl
  | succ n ih =>
    intro l h
    rcases snoc_cases l with rfl | ⟨i, c, rfl⟩
    · simp at h
    · have hc := c.toNat_lt
      have hi := ih i (by simpa using h)
      rw [be, un_snoc, show (256 * un i + c.toNat) / 256 = un i by omega, hi]
      congr 2
      rw [← UInt8.toNat_inj, u8_ofNat]
      omega

theorem be_inj (k a b : Nat) (ha : a < 256 ^ k) (hb : b < 256 ^ k) (h : be k a = be k b) : a = b := by
  rw [← un_be_fits k a ha, ← un_be_fits k b hb, h]

/-- Byte i of the k bytes, from the end. -/
theorem be_get : ∀ (k n i : Nat), i < k → (be k n)[k - 1 - i]? = some (UInt8.ofNat (n / 256 ^ i))
  | 0, _, _, h => absurd h (by omega)
  | k + 1, n, i, h => by
    rw [be]
    cases i with
    | zero => rw [List.getElem?_append_right (by rw [be_length]; omega)]; simp [be_length]
    | succ i =>
      rw [List.getElem?_append_left (by rw [be_length]; omega), show k + 1 - 1 - (i + 1) = k - 1 - i by omega, be_get k _ i (by omega), Nat.div_div_eq_div_mul, Nat.pow_succ, Nat.mul_comm 256]
end Go.Proofs.Ytienlhnbmobinaa

namespace Go.Proofs.Ytienlhnbmobinaa
open Go.Lib (compareBytes)

/-- How many bytes two lists begin with alike. -/
def com : List UInt8 → List UInt8 → Nat
  | a :: x, b :: y => if a = b then com x y + 1 else 0
  | _, _ => 0

theorem com_le : ∀ x y : List UInt8, com x y ≤ x.length ∧ com x y ≤ y.length
  | [], _ => by simp [com]
  | _ :: _, [] => by simp [com]
  | a :: x, b :: y => by
    have := com_le x y
    unfold com; split <;> simp <;> omega

theorem com_take : ∀ x y : List UInt8, x.take (com x y) = y.take (com x y)
  | [], _ => by simp [com]
  | _ :: _, [] => by simp [com]
  | a :: x, b :: y => by
    have := com_take x y
    unfold com; split
    · rename_i h; subst h; simp [this]
    · simp

theorem com_get : ∀ (x y : List UInt8) (k : Nat), k < com x y → x[k]? = y[k]?
  | [], _, k => by simp [com]
  | _ :: _, [], k => by simp [com]
  | a :: x, b :: y, k => by
    have := com_get x y
    unfold com; split
    · rename_i h; subst h; cases k with
      | zero => simp
      | succ k => intro h; simpa using this k (by omega)
    · simp

/-- Where both go on behind what is alike they differ. -/
theorem com_stop : ∀ (x y : List UInt8), com x y < x.length → com x y < y.length → x[com x y]? ≠ y[com x y]?
  | [], _ => by simp [com]
  | _ :: _, [] => by simp [com]
  | a :: x, b :: y => by
    have := com_stop x y
    unfold com; split
    · intro h1 h2; simpa using this (by simpa using h1) (by simpa using h2)
    · rename_i h; intro _ _; simpa using h

theorem com_succ {x y : List UInt8} {k : Nat} (h : k ≤ com x y) (h1 : k < x.length) (h2 : k < y.length) (e : x[k] = y[k]) : k + 1 ≤ com x y := by
  rcases Nat.lt_or_ge k (com x y) with h3 | h3
  · exact h3
  · obtain rfl : k = com x y := by omega
    have := com_stop x y h1 h2
    rw [List.getElem?_eq_getElem h1, List.getElem?_eq_getElem h2, e] at this
    exact absurd rfl this

theorem com_here {x y : List UInt8} {k : Nat} (h : k ≤ com x y) (h1 : k < x.length) (h2 : k < y.length) (e : x[k] ≠ y[k]) : com x y = k := by
  rcases Nat.lt_or_ge k (com x y) with h3 | h3
  · have := com_get x y k h3
    rw [List.getElem?_eq_getElem h1, List.getElem?_eq_getElem h2] at this
    exact absurd (by simpa using this) e
  · omega

theorem cmp_drop : ∀ (x y : List UInt8) (k : Nat), k ≤ com x y → compareBytes (x.drop k) (y.drop k) = compareBytes x y
  | [], _, k => by simp [com]; rintro rfl; simp
  | _ :: _, [], k => by simp [com]; rintro rfl; simp
  | a :: x, b :: y, k => by
    have := cmp_drop x y
    unfold com; split
    · rename_i h; subst h; cases k with
      | zero => simp
      | succ k =>
        intro h
        have hlt : ¬ a < a := UInt8.lt_irrefl a
        simpa [compareBytes, hlt] using this k (by omega)
    · intro h; obtain rfl : k = 0 := by omega
      simp

theorem cmp_less {x y : List UInt8} {k : Nat} (h : k ≤ com x y) (h1 : k < x.length) (h2 : k < y.length) (e : x[k] < y[k]) : compareBytes x y = -1 := by
  rw [← cmp_drop x y k h, List.drop_eq_getElem_cons h1, List.drop_eq_getElem_cons h2]
  simp [compareBytes, e]

theorem cmp_more {x y : List UInt8} {k : Nat} (h : k ≤ com x y) (h1 : k < x.length) (h2 : k < y.length) (e : y[k] < x[k]) : compareBytes x y = 1 := by
  rw [← cmp_drop x y k h, List.drop_eq_getElem_cons h1, List.drop_eq_getElem_cons h2]
  have : ¬ x[k] < y[k] := fun e' => UInt8.lt_irrefl _ (UInt8.lt_trans e e')
  simp [compareBytes, e, this]

theorem cmp_end {x y : List UInt8} {k : Nat} (h : k ≤ com x y) (h1 : x.length ≤ k ∨ y.length ≤ k) :
    compareBytes x y = if x.length < y.length then -1 else if y.length < x.length then 1 else 0 := by
  have hl := com_le x y
  rw [← cmp_drop x y k h]
  rcases h1 with h1 | h1
  · rw [List.drop_eq_nil_of_le h1]
    by_cases e : x.length < y.length
    · rw [List.drop_eq_getElem_cons (by omega : k < y.length), if_pos e]
      simp [compareBytes]
    · rw [List.drop_eq_nil_of_le (by omega : y.length ≤ k), if_neg e, if_neg (by omega)]
      simp [compareBytes]
  · rw [List.drop_eq_nil_of_le (as := y) h1]
    by_cases e : y.length < x.length
    · rw [List.drop_eq_getElem_cons (by omega : k < x.length), if_neg (by omega), if_pos e]
      simp [compareBytes]
    · rw [List.drop_eq_nil_of_le (by omega : x.length ≤ k), if_neg (by omega), if_neg e]
      simp [compareBytes]

theorem cmp_range : ∀ x y : List UInt8, compareBytes x y = -1 ∨ compareBytes x y = 0 ∨ compareBytes x y = 1
  | [], [] => by simp [compareBytes]
  | [], _ :: _ => by simp [compareBytes]
  | _ :: _, [] => by simp [compareBytes]
  | a :: x, b :: y => by
    have := cmp_range x y
    unfold compareBytes
    split
    · simp
    · split
      · simp
      · exact this

theorem cmp_neg : ∀ x y : List UInt8, compareBytes x y = - compareBytes y x
  | [], [] => by simp [compareBytes]
  | [], _ :: _ => by simp [compareBytes]
  | _ :: _, [] => by simp [compareBytes]
  | a :: x, b :: y => by
    have := cmp_neg x y
    unfold compareBytes
    by_cases h : a < b
    · have h' : ¬ b < a := fun e => UInt8.lt_irrefl _ (UInt8.lt_trans h e)
      simp [h, h']
    · by_cases h' : b < a <;> simp [h, h', this]

theorem cmp_zero : ∀ x y : List UInt8, compareBytes x y = 0 ↔ x = y
  | [], [] => by simp [compareBytes]
  | [], _ :: _ => by simp [compareBytes]
  | _ :: _, [] => by simp [compareBytes]
  | a :: x, b :: y => by
    have := cmp_zero x y
    unfold compareBytes
    by_cases h : a < b
    · have : a ≠ b := fun e => by subst e; exact UInt8.lt_irrefl _ h
      simp [h, this]
    · by_cases h' : b < a
      · have : a ≠ b := fun e => by subst e; exact UInt8.lt_irrefl _ h'
        simp [h, h', this]
      · have : a = b := UInt8.le_antisymm (UInt8.not_lt.1 h') (UInt8.not_lt.1 h)
        subst this
        simp [h, cmp_zero x y]

theorem cmp_trans : ∀ x y z : List UInt8, compareBytes x y ≤ 0 → compareBytes y z ≤ 0 → compareBytes x z ≤ 0
  | [], _, [] => by simp [compareBytes]
  | [], _, _ :: _ => by simp [compareBytes]
  | _ :: _, [], _ => by simp [compareBytes]
  | _ :: _, _ :: _, [] => by simp [compareBytes]
  | a :: x, b :: y, c :: z => by
    have ih := cmp_trans x y z
    unfold compareBytes
    intro h1 h2
    by_cases hab : a < b
    · by_cases hbc : b < c
      · simp [UInt8.lt_trans hab hbc]
      · rw [if_neg hbc] at h2
        by_cases hcb : c < b
        · rw [if_pos hcb] at h2; omega
        · have : b = c := UInt8.le_antisymm (UInt8.not_lt.1 hcb) (UInt8.not_lt.1 hbc)
          subst this
          simp [hab]
    · rw [if_neg hab] at h1
      by_cases hba : b < a
      · rw [if_pos hba] at h1; omega
      · have : a = b := UInt8.le_antisymm (UInt8.not_lt.1 hba) (UInt8.not_lt.1 hab)
        subst this
        rw [if_neg hba] at h1
        by_cases hbc : a < c
        · simp [hbc]
        · rw [if_neg hbc] at h2 ⊢
          by_cases hcb : c < a
          · rw [if_pos hcb] at h2; omega
          · rw [if_neg hcb] at h2 ⊢
            exact ih h1 h2

theorem cmp_append : ∀ (x y : List UInt8), y ≠ [] → compareBytes x (x ++ y) = -1
  | [], [], h => absurd rfl h
  | [], _ :: _, _ => by simp [compareBytes]
  | a :: x, y, h => by
    have hlt : ¬ a < a := UInt8.lt_irrefl a
    simp [compareBytes, hlt, cmp_append x y h]

theorem less_cmp : ∀ x y : List UInt8, Op.bytesLess x y = decide (compareBytes x y < 0)
  | [], [] => by simp [compareBytes, Op.bytesLess]
  | [], _ :: _ => by simp [compareBytes, Op.bytesLess]
  | _ :: _, [] => by simp [compareBytes, Op.bytesLess]
  | a :: x, b :: y => by
    have := less_cmp x y
    unfold compareBytes Op.bytesLess
    by_cases h : a < b
    · simp [h]
    · by_cases h' : b < a
      · have : a ≠ b := fun e => by subst e; exact UInt8.lt_irrefl _ h'
        simp [h, h', this]
      · have : a = b := UInt8.le_antisymm (UInt8.not_lt.1 h') (UInt8.not_lt.1 h)
        subst this
        simp [h, less_cmp x y]

/-- Whether a text is within two others; the empty one behind all. -/
def within (k a c : List UInt8) : Bool := decide (compareBytes k a ≥ 0) && (c.isEmpty || decide (compareBytes k c < 0))

theorem within_key (k a c : List UInt8) : ((Op.bytesLess a k || a == k) && (c.isEmpty || Op.bytesLess k c)) = within k a c := by
  unfold within
  rw [less_cmp, less_cmp, cmp_neg a k]
  congr 1
  have h0 : (a == k) = decide (compareBytes k a = 0) := by
    rw [Bool.eq_iff_iff]; simp [cmp_zero]; exact eq_comm
  rw [h0]
  rcases cmp_range k a with h | h | h <;> simp [h]

theorem within_parts (k a b c : List UInt8) (hb : b ≠ []) (h1 : compareBytes a b ≤ 0) (h2 : c = [] ∨ compareBytes b c ≤ 0) :
    within k a c = (within k a b != within k b c) := by
  unfold within
  have hb' : b.isEmpty = false := by cases b <;> simp_all
  have e1 := cmp_trans a b k h1
  have e2 := fun h => cmp_trans k b c h
  have e3 := cmp_trans b c k
  have n1 := cmp_neg k a
  have n2 := cmp_neg k b
  have n3 := cmp_neg k c
  have z1 := cmp_zero k c
  have z2 := cmp_zero b c
  rw [hb', Bool.false_or]
  rcases h2 with h2 | h2
  · subst h2
    simp only [List.isEmpty_nil, Bool.true_or, Bool.and_true]
    by_cases ha : compareBytes k a ≥ 0 <;> by_cases hk : compareBytes k b < 0 <;> simp [ha, hk] <;> omega
  · by_cases hc : c = []
    · subst hc
      simp only [List.isEmpty_nil, Bool.true_or, Bool.and_true]
      by_cases ha : compareBytes k a ≥ 0 <;> by_cases hk : compareBytes k b < 0 <;> simp [ha, hk] <;> omega
    · have hc' : c.isEmpty = false := by cases c <;> simp_all
      rw [hc', Bool.false_or]
      have hlt : compareBytes k b < 0 → compareBytes k c < 0 := by
        intro hk
        have h3 := cmp_trans k b c (by omega) h2
        rcases Int.lt_or_eq_of_le h3 with h4 | h4
        · exact h4
        · have : k = c := z1.1 h4
          subst this
          have := cmp_neg k b
          omega
      by_cases ha : compareBytes k a ≥ 0 <;> by_cases hk : compareBytes k b < 0 <;> by_cases hk3 : compareBytes k c < 0 <;> simp [ha, hk, hk3] <;> omega
end Go.Proofs.Ytienlhnbmobinaa

namespace Go.Proofs.Ytienlhnbmobinaa

/-- Which rows may be: key's and value's lengths, roll's page and slot, pad. -/
def MayRow (k v p s : Nat) (d : Int) : Prop := 1 ≤ k ∧ k ≤ 48 ∧ 0 ≤ d ∧ d ≤ 96 ∧ (v : Int) + d ≤ 96 ∧ p ≤ 1024 ∧ (0 < p ∨ s = 0)
instance (k v p s : Nat) (d : Int) : Decidable (MayRow k v p s d) := by unfold MayRow; infer_instance
def mayRow (k v p s : Nat) (d : Int) : Bool := decide (MayRow k v p s d)
theorem mayRow_iff {k v p s : Nat} {d : Int} : mayRow k v p s d = true ↔ 1 ≤ k ∧ k ≤ 48 ∧ 0 ≤ d ∧ d ≤ 96 ∧ (v : Int) + d ≤ 96 ∧ p ≤ 1024 ∧ (0 < p ∨ s = 0) := by unfold mayRow; rw [decide_eq_true_iff]; exact Iff.rfl

/-- A row's bytes. -/
def encRow (k v : List UInt8) (m : Bool) (t p s d : Nat) : List UInt8 :=
  (if m then 1 else 0) :: (be 8 t ++ be 4 p ++ be 2 s ++ be 1 k.length ++ k ++ be 1 v.length ++ v ++ List.replicate d 0)
/-- What a reading of k bytes at a place gives: their number, or 0. -/
def rdNum (s : List UInt8) (i k : Nat) : Nat := if i + k ≤ s.length then un ((s.drop i).take k) else 0
/-- What a reading of a piece of n bytes at a place gives: it, or nothing. -/
def rdText (s : List UInt8) (i n : Nat) : List UInt8 := if i + n ≤ s.length then (s.drop i).take n else []
/-- What row.Decode reads, step by step: whether the first four numbers are there; key's length, key, where the value's length stands; value's length, value, where it ends; pad; whether all is there; whether it is a row. -/
def rd4 (n : Nat) : Bool := (((true && decide (0 + 1 ≤ n)) && decide (1 + 8 ≤ n)) && decide (9 + 4 ≤ n)) && decide (13 + 2 ≤ n)
def dKn (l : List UInt8) : Nat := rdNum l 15 1
def dK (l : List UInt8) : List UInt8 := rdText l (15 + 1) (dKn l)
def dA (l : List UInt8) : Nat := 15 + 1 + dKn l
def dVn (l : List UInt8) : Nat := rdNum l (dA l) 1
def dV (l : List UInt8) : List UInt8 := rdText l (dA l + 1) (dVn l)
def dE (l : List UInt8) : Nat := dA l + 1 + dVn l
def dPad (l : List UInt8) : Int := (l.length : Int) - (dE l : Int)
def dIs (l : List UInt8) : Bool :=
  ((rd4 l.length && decide (15 + 1 ≤ l.length)) && decide (dA l ≤ l.length)) && decide (dA l + 1 ≤ l.length) && decide (dE l ≤ l.length)
def decMay (l : List UInt8) : Bool := mayRow (dK l).length (dV l).length (rdNum l 9 4) (rdNum l 13 2) (dPad l)
def decEnc (l : List UInt8) : List UInt8 := encRow (dK l) (dV l) (decide (0 < rdNum l 0 1)) (rdNum l 1 8) (rdNum l 9 4) (rdNum l 13 2) (dPad l).toNat
def decOk (l : List UInt8) : Bool := dIs l && (decMay l && (decEnc l == l))
end Go.Proofs.Ytienlhnbmobinaa

namespace Go.Proofs.Ytienlhnbmobinaa

def mayEnt (k c : Nat) : Bool := decide (k ≤ 48 ∧ 1 ≤ c ∧ c ≤ 1024)
theorem mayEnt_iff {k c : Nat} : mayEnt k c = true ↔ k ≤ 48 ∧ 1 ≤ c ∧ c ≤ 1024 := by unfold mayEnt; rw [decide_eq_true_iff]
def encEnt (k : List UInt8) (c : Nat) : List UInt8 := be 4 c ++ k
def decEntOk (l : List UInt8) : Bool := decide (4 ≤ l.length) && mayEnt (l.length - 4) (rdNum l 0 4)
end Go.Proofs.Ytienlhnbmobinaa

namespace Go.Proofs.Ytienlhnbmobinaa

/-- A page, as data. -/
structure Pg where
  kind : Nat
  level : Nat
  id : Nat
  lsn : Nat
  next : Nat
  rows : List (List UInt8)
  deriving DecidableEq
/-- No page. -/
def Pg.zero : Pg := ⟨0, 0, 0, 0, 0, []⟩
/-- What rows weigh: four bytes of the directory each besides. -/
def weightB (rows : List (List UInt8)) : Nat := (rows.map fun r => 4 + r.length).sum
/-- A page's head is one that may be. -/
def headOk (kind id next : Nat) : Bool := decide (kind ≤ 5 ∧ 1 ≤ id ∧ id ≤ 1024 ∧ next ≤ 1024)
theorem headOk_iff {kind id next : Nat} : headOk kind id next = true ↔ kind ≤ 5 ∧ 1 ≤ id ∧ id ≤ 1024 ∧ next ≤ 1024 := by unfold headOk; rw [decide_eq_true_iff]
/-- Which pages may be. -/
def Pg.may (p : Pg) : Bool := headOk p.kind p.id p.next && decide (weightB p.rows ≤ 484)

theorem weightB_nil : weightB [] = 0 := rfl
theorem weightB_cons (r : List UInt8) (rows : List (List UInt8)) : weightB (r :: rows) = 4 + r.length + weightB rows := by simp [weightB]
theorem weightB_append (a b : List (List UInt8)) : weightB (a ++ b) = weightB a + weightB b := by simp [weightB, List.sum_append]
theorem weightB_take (rows : List (List UInt8)) (k : Nat) (h : k < rows.length) : weightB (rows.take (k + 1)) = weightB (rows.take k) + (4 + rows[k].length) := by
  rw [List.take_succ_eq_append_getElem h, weightB_append, weightB_cons, weightB_nil]
  omega
theorem weightB_take_le (rows : List (List UInt8)) (k : Nat) : weightB (rows.take k) ≤ weightB rows := by
  conv => rhs; rw [← List.take_append_drop k rows, weightB_append]
  omega
theorem weightB_mem {rows : List (List UInt8)} {r : List UInt8} (h : r ∈ rows) : 4 + r.length ≤ weightB rows := by
  induction rows with
  | nil => cases h
  | cons x rest ih =>
    rw [weightB_cons]
    rcases List.mem_cons.1 h with rfl | h
    · omega
    · have := ih h; omega
theorem weightB_length (rows : List (List UInt8)) : 4 * rows.length ≤ weightB rows := by
  induction rows with
  | nil => simp
  | cons x rest ih => rw [weightB_cons, List.length_cons]; omega
/-- What is more of a page than a statement looks at. -/
def heavyB (rows : List (List UInt8)) : Nat := (rows.map fun r => 1 + r.length).sum
theorem heavyB_append (a b : List (List UInt8)) : heavyB (a ++ b) = heavyB a + heavyB b := by simp [heavyB, List.sum_append]
theorem heavyB_take (rows : List (List UInt8)) (k : Nat) (h : k < rows.length) : heavyB (rows.take (k + 1)) = heavyB (rows.take k) + (1 + rows[k].length) := by
  rw [List.take_succ_eq_append_getElem h, heavyB_append]
  simp [heavyB]
theorem heavyB_take_le (rows : List (List UInt8)) (k : Nat) : heavyB (rows.take k) ≤ heavyB rows := by
  conv => rhs; rw [← List.take_append_drop k rows, heavyB_append]
  omega
theorem heavyB_mem {rows : List (List UInt8)} {r : List UInt8} (h : r ∈ rows) : 1 + r.length ≤ heavyB rows := by
  unfold heavyB
  induction rows with
  | nil => cases h
  | cons x rest ih =>
    rw [List.map_cons, List.sum_cons]
    rcases List.mem_cons.1 h with rfl | h
    · omega
    · have := ih h; omega
theorem heavyB_length (rows : List (List UInt8)) : rows.length ≤ heavyB rows := by
  unfold heavyB
  induction rows with
  | nil => simp
  | cons x rest ih => rw [List.map_cons, List.sum_cons, List.length_cons]; omega
end Go.Proofs.Ytienlhnbmobinaa

namespace Go.Proofs.Ytienlhnbmobinaa
open Go.Lib (compareBytes)

/-- A row's key, by its page's kind (a leaf's, or an inner page's). -/
def keyB (kind : Nat) (l : List UInt8) : Option (List UInt8) :=
  if kind = 1 then (if decOk l then some (dK l) else none) else if decEntOk l then some (l.drop 4) else none
/-- The keys of rows that follow a key: none, if one is no row, or they do not rise. -/
def keysR (kind : Nat) : Option (List UInt8) → List (List UInt8) → Option (List (List UInt8))
  | _, [] => some []
  | prev, r :: rest =>
    match keyB kind r with
    | none => none
    | some k => if (prev.any fun q => decide (0 ≤ compareBytes q k)) then none else (keysR kind (some k) rest).map (k :: ·)
/-- Is it a node's head? -/
def nodeShape (kind level n : Nat) : Bool := (decide (kind = 1) && decide (level = 0)) || (decide (kind = 2) && (decide (1 ≤ level) && decide (1 ≤ n)))
def keysB (p : Pg) : Option (List (List UInt8)) := if nodeShape p.kind p.level p.rows.length then keysR p.kind none p.rows else none
def checkB (p : Pg) : Bool := (keysB p).isSome && p.may
end Go.Proofs.Ytienlhnbmobinaa

namespace Go.Proofs.Ytienlhnbmobinaa
open Go.Lib (compareBytes)

/-- What is left to do behind the first rows. -/
def keysLeft (kind : Nat) (ks rows : List (List UInt8)) (i : Nat) : Option (List (List UInt8)) := (keysR kind ks.getLast? (rows.drop i)).map (ks ++ ·)
theorem keysLeft_start (kind : Nat) (rows : List (List UInt8)) : keysLeft kind [] rows 0 = keysR kind none rows := by
  unfold keysLeft
  simp
theorem keysLeft_end (kind : Nat) (ks rows : List (List UInt8)) (i : Nat) (h : rows.length ≤ i) : keysLeft kind ks rows i = some ks := by
  unfold keysLeft
  rw [List.drop_eq_nil_of_le h]
  simp [keysR]
theorem keysLeft_none (kind : Nat) (ks rows : List (List UInt8)) (i : Nat) (h : i < rows.length) (hk : keyB kind rows[i] = none) : keysLeft kind ks rows i = none := by
  unfold keysLeft
  rw [List.drop_eq_getElem_cons h]
  simp [keysR, hk]
theorem keysLeft_fall (kind : Nat) (ks rows : List (List UInt8)) (i : Nat) (h : i < rows.length) (k q : List UInt8) (hk : keyB kind rows[i] = some k) (hq : ks.getLast? = some q) (hc : 0 ≤ compareBytes q k) : keysLeft kind ks rows i = none := by
  unfold keysLeft
  rw [List.drop_eq_getElem_cons h]
  simp [keysR, hk, hq, hc]
theorem keysLeft_step (kind : Nat) (ks rows : List (List UInt8)) (i : Nat) (h : i < rows.length) (k : List UInt8) (hk : keyB kind rows[i] = some k) (hc : ∀ q, ks.getLast? = some q → ¬ 0 ≤ compareBytes q k) : keysLeft kind ks rows i = keysLeft kind (ks ++ [k]) rows (i + 1) := by
  unfold keysLeft
  rw [List.drop_eq_getElem_cons h]
  have ha : (ks.getLast?.any fun q => decide (0 ≤ compareBytes q k)) = false := by
    cases hq : ks.getLast? with
    | none => rfl
    | some q => simpa using hc q hq
  simp only [keysR, hk, ha]
  rw [List.getLast?_concat]
  simp only [Bool.false_eq_true, if_false, Option.map_map]
  congr 1
  funext x
  simp
end Go.Proofs.Ytienlhnbmobinaa

namespace Go.Proofs.Ytienlhnbmobinaa
open Go.Lib (compareBytes)

theorem keysR_get (kind : Nat) : ∀ (prev : Option (List UInt8)) (rows ks : List (List UInt8)), keysR kind prev rows = some ks →
    ks.length = rows.length ∧ (∀ i (h : i < rows.length), keyB kind rows[i] = some (ks.getD i [])) ∧ ks.Pairwise (fun a b => compareBytes a b < 0) ∧ (∀ q, prev = some q → ∀ k ∈ ks, compareBytes q k < 0)
  | prev, [], ks, h => by
    simp only [keysR] at h
    injection h with h
    subst h
    exact ⟨rfl, fun i hi => absurd hi (Nat.not_lt_zero _), .nil, fun q _ k hk => by cases hk⟩
  | prev, r :: rest, ks, h => by
    simp only [keysR] at h
    cases hk : keyB kind r with
    | none => rw [hk] at h; cases h
    | some k =>
      rw [hk] at h
      simp only at h
      cases ha : (prev.any fun q => decide (0 ≤ compareBytes q k)) with
      | true => rw [ha] at h; simp at h
      | false =>
        rw [ha] at h
        cases hr : keysR kind (some k) rest with
        | none => rw [hr] at h; simp at h
        | some ks' =>
          rw [hr] at h
          simp at h
          subst h
          obtain ⟨h1, h2, h3, h4⟩ := keysR_get kind (some k) rest ks' hr
          refine ⟨by simp [h1], fun i hi => ?_, List.pairwise_cons.2 ⟨fun b hb => h4 k rfl b hb, h3⟩, fun q hq x hx => ?_⟩
          · cases i with
            | zero => simpa using hk
            | succ i => simpa using h2 i (by simpa using hi)
          · subst hq
            have hqk : compareBytes q k < 0 := by simpa using ha
            rcases List.mem_cons.1 hx with rfl | hx
            · exact hqk
            · have h5 := h4 k rfl x hx
              have h6 := cmp_trans q k x (by omega) (by omega)
              rcases Int.lt_or_eq_of_le h6 with h7 | h7
              · exact h7
              · obtain rfl := (cmp_zero q x).1 h7
                rw [cmp_neg] at h5
                omega
theorem keysB_get {p : Pg} {ks : List (List UInt8)} (h : keysB p = some ks) :
    nodeShape p.kind p.level p.rows.length = true ∧ ks.length = p.rows.length ∧ (∀ i (h : i < p.rows.length), keyB p.kind p.rows[i] = some (ks.getD i [])) ∧ ks.Pairwise (fun a b => compareBytes a b < 0) := by
  unfold keysB at h
  split at h
  · rename_i hs
    obtain ⟨h1, h2, h3, _⟩ := keysR_get _ _ _ _ h
    exact ⟨hs, h1, h2, h3⟩
  · cases h
theorem shape_kind {kind level n : Nat} (h : nodeShape kind level n = true) : (kind = 1 ∧ level = 0) ∨ (kind = 2 ∧ 1 ≤ level ∧ 1 ≤ n) := by
  unfold nodeShape at h
  simpa only [Bool.or_eq_true, Bool.and_eq_true, decide_eq_true_eq] using h
/-- The key at a place. -/
def keyAtB (p : Pg) (i : Int) : List UInt8 × Int :=
  if checkB p then (if 0 ≤ i ∧ i < p.rows.length then (((keysB p).getD []).getD i.toNat [], 0) else ([], 3)) else ([], 7)
/-- Where a key is, or would be. -/
def findN (ks : List (List UInt8)) (k : List UInt8) : Nat := ks.findIdx (fun x => decide (0 ≤ compareBytes x k))
def findIs (ks : List (List UInt8)) (k : List UInt8) : Bool := decide (ks[findN ks k]? = some k)
theorem findN_le (ks : List (List UInt8)) (k : List UInt8) : findN ks k ≤ ks.length := List.findIdx_le_length
theorem findN_eq {ks : List (List UInt8)} {k : List UInt8} {m : Nat} (hm : m ≤ ks.length) (h1 : ∀ t (h : t < ks.length), t < m → compareBytes ks[t] k < 0) (h2 : ∀ h : m < ks.length, 0 ≤ compareBytes ks[m] k) : findN ks k = m := by
  unfold findN
  rcases Nat.lt_or_ge m ks.length with h | h
  · rw [List.findIdx_eq h]
    refine ⟨by simpa using h2 h, fun j hj => ?_⟩
    have := h1 j (by omega) hj
    simpa using this
  · have hm' : m = ks.length := by omega
    rw [hm', List.findIdx_eq_length]
    intro x hx
    obtain ⟨t, ht, rfl⟩ := List.getElem_of_mem hx
    have := h1 t ht (by omega)
    simpa using this
theorem findN_lt {ks : List (List UInt8)} {k : List UInt8} {t : Nat} (h : t < ks.length) (ht : t < findN ks k) : compareBytes ks[t] k < 0 := by
  have := List.not_of_lt_findIdx ht
  simpa using this
theorem findN_at {ks : List (List UInt8)} {k : List UInt8} (h : findN ks k < ks.length) : 0 ≤ compareBytes ks[findN ks k] k := by
  exact of_decide_eq_true (List.findIdx_getElem (p := fun x => decide (0 ≤ compareBytes x k)) (w := h))
/-- In rising keys: one is not behind a key just if it stands before its place. -/
theorem findN_ge {ks : List (List UInt8)} (hp : ks.Pairwise (fun a b => compareBytes a b < 0)) {k : List UInt8} {t : Nat} (h : t < ks.length) (ht : findN ks k < t) : 0 < compareBytes ks[t] k := by
  have h1 := findN_at (k := k) (Nat.lt_trans ht h)
  have h2 := List.pairwise_iff_getElem.1 hp _ _ (Nat.lt_trans ht h) h ht
  rcases Int.lt_or_le 0 (compareBytes ks[t] k) with h3 | h3
  · exact h3
  · have h4 := cmp_trans _ _ _ (Int.le_of_lt h2) h3
    have h5 : compareBytes ks[findN ks k] k = 0 := by omega
    have h6 := (cmp_zero _ _).1 h5
    rw [h6] at h2
    rw [cmp_neg] at h2
    omega
theorem findIs_eq {ks : List (List UInt8)} {k : List UInt8} (h : findN ks k < ks.length) : findIs ks k = decide (compareBytes ks[findN ks k] k = 0) := by
  unfold findIs
  rw [List.getElem?_eq_getElem h]
  apply decide_eq_decide.2
  rw [cmp_zero]
  exact ⟨fun h => by injection h, fun h => by rw [h]⟩
theorem findIs_end {ks : List (List UInt8)} {k : List UInt8} (h : ¬ findN ks k < ks.length) : findIs ks k = false := by
  unfold findIs
  rw [List.getElem?_eq_none (by omega)]
  rfl
def findB (p : Pg) (k : List UInt8) : Nat × Bool := if checkB p then (findN ((keysB p).getD []) k, findIs ((keysB p).getD []) k) else (0, false)
/-- How many keys are not behind a key. -/
def upTo (ks : List (List UInt8)) (k : List UInt8) : Nat := findN ks k + if findIs ks k then 1 else 0
def childN (ks : List (List UInt8)) (k : List UInt8) : Nat := if findIs ks k then findN ks k else findN ks k - 1
theorem childN_eq (ks : List (List UInt8)) (k : List UInt8) : childN ks k = upTo ks k - 1 := by
  unfold childN upTo
  split
  · rename_i h; simp
  · rename_i h; simp
theorem upTo_le (ks : List (List UInt8)) (k : List UInt8) : upTo ks k ≤ ks.length := by
  unfold upTo
  have := findN_le ks k
  by_cases h : findN ks k < ks.length
  · split <;> omega
  · rw [findIs_end h]
    simpa using this
theorem childN_lt {ks : List (List UInt8)} (k : List UInt8) (h : 1 ≤ ks.length) : childN ks k < ks.length := by
  rw [childN_eq]
  have := upTo_le ks k
  omega
theorem upTo_iff {ks : List (List UInt8)} (hp : ks.Pairwise (fun a b => compareBytes a b < 0)) {k : List UInt8} {t : Nat} (h : t < ks.length) : compareBytes ks[t] k ≤ 0 ↔ t < upTo ks k := by
  unfold upTo
  rcases Nat.lt_trichotomy t (findN ks k) with h1 | h1 | h1
  · have := findN_lt h h1
    exact ⟨fun _ => by omega, fun _ => by omega⟩
  · subst h1
    have h2 := findN_at (k := k) h
    rw [findIs_eq h]
    by_cases h3 : compareBytes ks[findN ks k] k = 0
    · simp [h3]
    · simp [h3]; omega
  · have := findN_ge hp h h1
    refine ⟨fun _ => by omega, fun h2 => ?_⟩
    split at h2 <;> omega
/-- Below which child a key is: the child, its place, the error. -/
def childB (rd : List UInt8 → Nat) (p : Pg) (k : List UInt8) : Nat × Nat × Int :=
  if p.kind = 2 ∧ checkB p = true then (rd (p.rows.getD (childN ((keysB p).getD []) k) []), childN ((keysB p).getD []) k, 0) else (0, 0, 7)
end Go.Proofs.Ytienlhnbmobinaa

namespace Go.Proofs.Ytienlhnbmobinaa
open Go.Lib (compareBytes)

def putRows (rows : List (List UInt8)) (i : Nat) (x : List UInt8) (is : Bool) : List (List UInt8) := rows.take i ++ x :: rows.drop (if is then i + 1 else i)
/-- Is a place one where a text can come? -/
def placeOk (n : Nat) (i : Int) (is : Bool) : Bool := decide (0 ≤ i ∧ i ≤ n ∧ ¬ (is = true ∧ i = n))
theorem placeOk_iff {n : Nat} {i : Int} {is : Bool} : placeOk n i is = true ↔ 0 ≤ i ∧ i ≤ n ∧ ¬ (is = true ∧ i = n) := by unfold placeOk; rw [decide_eq_true_iff]
def Pg.with (p : Pg) (rows : List (List UInt8)) : Pg := ⟨p.kind, p.level, p.id, p.lsn, p.next, rows⟩
/-- With a text at a place, whether it has room or not: the page, the error. -/
def putB (p : Pg) (i : Int) (x : List UInt8) (is : Bool) : Pg × Int :=
  if checkB p then (if placeOk p.rows.length i is then (if (keysB (p.with (putRows p.rows i.toNat x is))).isSome then (p.with (putRows p.rows i.toNat x is), 0) else (Pg.zero, 7)) else (Pg.zero, 2)) else (Pg.zero, 7)
def withB (p : Pg) (i : Int) (x : List UInt8) (is : Bool) : Pg × Int :=
  if (putB p i x is).2 = 0 then (if (putB p i x is).1.may then ((putB p i x is).1, 0) else (Pg.zero, 4)) else (Pg.zero, (putB p i x is).2)
def withoutB (p : Pg) (i : Int) : Pg × Int :=
  if checkB p then (if 0 ≤ i ∧ i < p.rows.length then (if p.kind = 2 ∧ p.rows.length = 1 then (Pg.zero, 7) else (p.with (p.rows.take i.toNat ++ p.rows.drop (i.toNat + 1)), 0)) else (Pg.zero, 3)) else (Pg.zero, 7)
def mergeB (p q : Pg) : Pg × Int :=
  if checkB p && checkB q then (if p.kind = q.kind ∧ p.level = q.level then
    (if (keysB ⟨p.kind, p.level, p.id, p.lsn, q.next, p.rows ++ q.rows⟩).isSome then
      (if Pg.may ⟨p.kind, p.level, p.id, p.lsn, q.next, p.rows ++ q.rows⟩ then (⟨p.kind, p.level, p.id, p.lsn, q.next, p.rows ++ q.rows⟩, 0) else (Pg.zero, 4)) else (Pg.zero, 7)) else (Pg.zero, 2)) else (Pg.zero, 7)
theorem putRows_weight (rows : List (List UInt8)) (i : Nat) (x : List UInt8) (is : Bool) : weightB (putRows rows i x is) ≤ weightB rows + (4 + x.length) := by
  unfold putRows
  rw [weightB_append, weightB_cons]
  have h1 : weightB (rows.take i) + weightB (rows.drop i) = weightB rows := by rw [← weightB_append, List.take_append_drop]
  cases is with
  | false => simp only [Bool.false_eq_true, if_false]; omega
  | true =>
    simp only [if_true]
    have h2 : weightB (rows.drop (i + 1)) ≤ weightB (rows.drop i) := by
      conv => rhs; rw [← List.take_append_drop 1 (rows.drop i), weightB_append, List.drop_drop]
      omega
    omega
theorem without_weight (rows : List (List UInt8)) (i : Nat) : weightB (rows.take i ++ rows.drop (i + 1)) ≤ weightB rows := by
  rw [weightB_append]
  have h1 : weightB (rows.take i) + weightB (rows.drop i) = weightB rows := by rw [← weightB_append, List.take_append_drop]
  have h2 : weightB (rows.drop (i + 1)) ≤ weightB (rows.drop i) := by
    conv => rhs; rw [← List.take_append_drop 1 (rows.drop i), weightB_append, List.drop_drop]
    omega
  omega
theorem putB_ok {p : Pg} {i : Int} {x : List UInt8} {is : Bool} (h : (putB p i x is).2 = 0) : checkB p = true ∧ placeOk p.rows.length i is = true ∧ (keysB (p.with (putRows p.rows i.toNat x is))).isSome = true ∧ putB p i x is = (p.with (putRows p.rows i.toNat x is), 0) := by
  by_cases h1 : checkB p = true
  · by_cases h2 : placeOk p.rows.length i is = true
    · by_cases h3 : (keysB (p.with (putRows p.rows i.toNat x is))).isSome = true
      · exact ⟨h1, h2, h3, by unfold putB; rw [if_pos h1, if_pos h2, if_pos h3]⟩
      · unfold putB at h; rw [if_pos h1, if_pos h2, if_neg h3] at h; exact absurd h (by decide)
    · unfold putB at h; rw [if_pos h1, if_neg h2] at h; exact absurd h (by decide)
  · unfold putB at h; rw [if_neg h1] at h; exact absurd h (by decide)
theorem putB_bad {p : Pg} {i : Int} {x : List UInt8} {is : Bool} (h : ¬ (putB p i x is).2 = 0) : (putB p i x is).1 = Pg.zero := by
  unfold putB at h ⊢
  split
  · split
    · split
      · rename_i h1 h2 h3; rw [if_pos h1, if_pos h2, if_pos h3] at h; exact absurd rfl h
      · rfl
    · rfl
  · rfl
end Go.Proofs.Ytienlhnbmobinaa

namespace Go.Proofs.Ytienlhnbmobinaa
open Go.Lib (compareBytes)

/-- Have both parts room? -/
def cutOk (rows : List (List UInt8)) (k : Nat) : Bool := decide (weightB (rows.take k) ≤ 484) && decide (weightB (rows.drop k) ≤ 484)
/-- How far two parts' weights are. -/
def apartN (rows : List (List UInt8)) (k : Nat) : Nat := (weightB (rows.take k) - weightB (rows.drop k)) + (weightB (rows.drop k) - weightB (rows.take k))
/-- The best cut below a place; 0: none. -/
def bestN (rows : List (List UInt8)) : Nat → Nat
  | 0 => 0
  | k + 1 => if (decide (1 ≤ k) && cutOk rows k) && (decide (bestN rows k = 0) || decide (apartN rows k < apartN rows (bestN rows k))) then k else bestN rows k
theorem bestN_one (rows : List (List UInt8)) : bestN rows 1 = 0 := by simp [bestN]
theorem bestN_lt (rows : List (List UInt8)) : ∀ k, bestN rows k < k ∨ bestN rows k = 0
  | 0 => .inr rfl
  | k + 1 => by
    unfold bestN
    split
    · exact .inl (Nat.lt_succ_self k)
    · rcases bestN_lt rows k with h | h
      · exact .inl (by omega)
      · exact .inr h
theorem bestN_skip {rows : List (List UInt8)} {k : Nat} (h : cutOk rows k = false) : bestN rows (k + 1) = bestN rows k := by
  rw [bestN, h]
  simp
theorem bestN_take {rows : List (List UInt8)} {k : Nat} (h1 : 1 ≤ k) (h : cutOk rows k = true) (h2 : bestN rows k = 0 ∨ apartN rows k < apartN rows (bestN rows k)) : bestN rows (k + 1) = k := by
  rw [bestN, h, if_pos]
  simpa [h1] using h2
theorem bestN_keep {rows : List (List UInt8)} {k : Nat} (h2 : ¬ (bestN rows k = 0 ∨ apartN rows k < apartN rows (bestN rows k))) : bestN rows (k + 1) = bestN rows k := by
  rw [bestN, if_neg]
  simp only [Bool.and_eq_true, Bool.or_eq_true, decide_eq_true_eq]
  exact fun h => h2 h.2
/-- The separator of two parts. -/
def sepB (kind : Nat) (ks : List (List UInt8)) (b : Nat) : List UInt8 :=
  if kind = 1 then (ks.getD b []).take (com (ks.getD (b - 1) []) (ks.getD b []) + 1) else ks.getD b []
/-- The parts, the separator, the error. -/
def splitB (p : Pg) (i : Int) (x : List UInt8) (is : Bool) : (List (List UInt8) × List (List UInt8)) × (List UInt8 × Int) :=
  if (putB p i x is).2 = 0 then
    (if bestN (putB p i x is).1.rows (putB p i x is).1.rows.length = 0 then (([], []), ([], 2))
     else (((putB p i x is).1.rows.take (bestN (putB p i x is).1.rows (putB p i x is).1.rows.length), (putB p i x is).1.rows.drop (bestN (putB p i x is).1.rows (putB p i x is).1.rows.length)),
       (sepB p.kind ((keysB (putB p i x is).1).getD []) (bestN (putB p i x is).1.rows (putB p i x is).1.rows.length), 0)))
  else (([], []), ([], (putB p i x is).2))
/-- Between two keys that rise. -/
theorem com_lt {a b : List UInt8} (h : compareBytes a b < 0) : com a b < b.length := by
  rcases Nat.lt_or_ge (com a b) b.length with h1 | h1
  · exact h1
  · have h2 := (com_le a b).2
    have h3 := cmp_end (k := com a b) (Nat.le_refl _) (.inr h1)
    rw [h3] at h
    have h4 := (com_le a b).1
    split at h
    · omega
    · split at h <;> omega
end Go.Proofs.Ytienlhnbmobinaa
