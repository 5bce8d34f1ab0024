/- Plain words on strings for package key: what two lists begin with alike, their order, and that it is one. No program is named here. -/
import Derived.Lib.Bytealg
import Derived.Lib.Strings
import Derived.Laws.Cover1
namespace Go.Proofs.Ytahaikfijegknaa
open Go.Lib (compareBytes)

/-- How many bytes two lists begin with alike. -/
def com : List UInt8 → List UInt8 → Nat
  | a :: x, b :: y => if a = b then com x y + 1 else 0
  | _, _ => 0

theorem com_le : ∀ x y : List UInt8, com x y ≤ x.length ∧ com x y ≤ y.length
  | [], _ => by simp [com]
  | _ :: _, [] => by simp [com]
  | a :: x, b :: y => by
    have := com_le x y
    unfold com; split <;> simp <;> omega

theorem com_take : ∀ x y : List UInt8, x.take (com x y) = y.take (com x y)
  | [], _ => by simp [com]
  | _ :: _, [] => by simp [com]
  | a :: x, b :: y => by
    have := com_take x y
    unfold com; split
    · rename_i h; subst h; simp [this]
    · simp

theorem com_get : ∀ (x y : List UInt8) (k : Nat), k < com x y → x[k]? = y[k]?
  | [], _, k => by simp [com]
  | _ :: _, [], k => by simp [com]
  | a :: x, b :: y, k => by
    have := com_get x y
    unfold com; split
    · rename_i h; subst h; cases k with
      | zero => simp
      | succ k => intro h; simpa using this k (by omega)
    · simp

/-- Where both go on behind what is alike they differ. -/
theorem com_stop : ∀ (x y : List UInt8), com x y < x.length → com x y < y.length → x[com x y]? ≠ y[com x y]?
  | [], _ => by simp [com]
  | _ :: _, [] => by simp [com]
  | a :: x, b :: y => by
    have := com_stop x y
    unfold com; split
    · intro h1 h2; simpa using this (by simpa using h1) (by simpa using h2)
    · rename_i h; intro _ _; simpa using h

theorem com_succ {x y : List UInt8} {k : Nat} (h : k ≤ com x y) (h1 : k < x.length) (h2 : k < y.length) (e : x[k] = y[k]) : k + 1 ≤ com x y := by
  rcases Nat.lt_or_ge k (com x y) with h3 | h3
  · exact h3
  · obtain rfl : k = com x y := by omega
    have := com_stop x y h1 h2
    rw [List.getElem?_eq_getElem h1, List.getElem?_eq_getElem h2, e] at this
    exact absurd rfl this

theorem com_here {x y : List UInt8} {k : Nat} (h : k ≤ com x y) (h1 : k < x.length) (h2 : k < y.length) (e : x[k] ≠ y[k]) : com x y = k := by
  rcases Nat.lt_or_ge k (com x y) with h3 | h3
  · have := com_get x y k h3
    rw [List.getElem?_eq_getElem h1, List.getElem?_eq_getElem h2] at this
    exact absurd (by simpa using this) e
  · omega

theorem cmp_drop : ∀ (x y : List UInt8) (k : Nat), k ≤ com x y → compareBytes (x.drop k) (y.drop k) = compareBytes x y
  | [], _, k => by simp [com]; rintro rfl; simp
  | _ :: _, [], k => by simp [com]; rintro rfl; simp
  | a :: x, b :: y, k => by
    have := cmp_drop x y
    unfold com; split
    · rename_i h; subst h; cases k with
      | zero => simp
      | succ k =>
        intro h
        have hlt : ¬ a < a := UInt8.lt_irrefl a
        simpa [compareBytes, hlt] using this k (by omega)
    · intro h; obtain rfl : k = 0 := by omega
      simp

theorem cmp_less {x y : List UInt8} {k : Nat} (h : k ≤ com x y) (h1 : k < x.length) (h2 : k < y.length) (e : x[k] < y[k]) : compareBytes x y = -1 := by
  rw [← cmp_drop x y k h, List.drop_eq_getElem_cons h1, List.drop_eq_getElem_cons h2]
  simp [compareBytes, e]

theorem cmp_more {x y : List UInt8} {k : Nat} (h : k ≤ com x y) (h1 : k < x.length) (h2 : k < y.length) (e : y[k] < x[k]) : compareBytes x y = 1 := by
  rw [← cmp_drop x y k h, List.drop_eq_getElem_cons h1, List.drop_eq_getElem_cons h2]
  have : ¬ x[k] < y[k] := fun e' => UInt8.lt_irrefl _ (UInt8.lt_trans e e')
  simp [compareBytes, e, this]

theorem cmp_end {x y : List UInt8} {k : Nat} (h : k ≤ com x y) (h1 : x.length ≤ k ∨ y.length ≤ k) :
    compareBytes x y = if x.length < y.length then -1 else if y.length < x.length then 1 else 0 := by
  have hl := com_le x y
  rw [← cmp_drop x y k h]
  rcases h1 with h1 | h1
  · rw [List.drop_eq_nil_of_le h1]
    by_cases e : x.length < y.length
    · rw [List.drop_eq_getElem_cons (by omega : k < y.length), if_pos e]
      simp [compareBytes]
    · rw [List.drop_eq_nil_of_le (by omega : y.length ≤ k), if_neg e, if_neg (by omega)]
      simp [compareBytes]
  · rw [List.drop_eq_nil_of_le (as := y) h1]
    by_cases e : y.length < x.length
    · rw [List.drop_eq_getElem_cons (by omega : k < x.length), if_neg (by omega), if_pos e]
      simp [compareBytes]
    · rw [List.drop_eq_nil_of_le (by omega : x.length ≤ k), if_neg (by omega), if_neg e]
      simp [compareBytes]

theorem cmp_range : ∀ x y : List UInt8, compareBytes x y = -1 ∨ compareBytes x y = 0 ∨ compareBytes x y = 1
  | [], [] => by simp [compareBytes]
  | [], _ :: _ => by simp [compareBytes]
  | _ :: _, [] => by simp [compareBytes]
  | a :: x, b :: y => by
    have := cmp_range x y
    unfold compareBytes
    split
    · simp
    · split
      · simp
      · exact this

theorem cmp_neg : ∀ x y : List UInt8, compareBytes x y = - compareBytes y x
  | [], [] => by simp [compareBytes]
  | [], _ :: _ => by simp [compareBytes]
  | _ :: _, [] => by simp [compareBytes]
  | a :: x, b :: y => by
    have := cmp_neg x y
    unfold compareBytes
    by_cases h : a < b
    · have h' : ¬ b < a := fun e => UInt8.lt_irrefl _ (UInt8.lt_trans h e)
      simp [h, h']
    · by_cases h' : b < a <;> simp [h, h', this]

theorem cmp_zero : ∀ x y : List UInt8, compareBytes x y = 0 ↔ x = y
  | [], [] => by simp [compareBytes]
  | [], _ :: _ => by simp [compareBytes]
  | _ :: _, [] => by simp [compareBytes]
  | a :: x, b :: y => by
    have := cmp_zero x y
    unfold compareBytes
    by_cases h : a < b
    · have : a ≠ b := fun e => by subst e; exact UInt8.lt_irrefl _ h
      simp [h, this]
    · by_cases h' : b < a
      · have : a ≠ b := fun e => by subst e; exact UInt8.lt_irrefl _ h'
        simp [h, h', this]
      · have : a = b := UInt8.le_antisymm (UInt8.not_lt.1 h') (UInt8.not_lt.1 h)
        subst this
        simp [h, cmp_zero x y]

theorem cmp_trans : ∀ x y z : List UInt8, compareBytes x y ≤ 0 → compareBytes y z ≤ 0 → compareBytes x z ≤ 0
  | [], _, [] => by simp [compareBytes]
  | [], _, _ :: _ => by simp [compareBytes]
  | _ :: _, [], _ => by simp [compareBytes]
  | _ :: _, _ :: _, [] => by simp [compareBytes]
  | a :: x, b :: y, c :: z => by
    have ih := cmp_trans x y z
    unfold compareBytes
    intro h1 h2
    by_cases hab : a < b
    · by_cases hbc : b < c
      · simp [UInt8.lt_trans hab hbc]
      · rw [if_neg hbc] at h2
        by_cases hcb : c < b
        · rw [if_pos hcb] at h2; omega
        · have : b = c := UInt8.le_antisymm (UInt8.not_lt.1 hcb) (UInt8.not_lt.1 hbc)
          subst this
          simp [hab]
    · rw [if_neg hab] at h1
      by_cases hba : b < a
      · rw [if_pos hba] at h1; omega
      · have : a = b := UInt8.le_antisymm (UInt8.not_lt.1 hba) (UInt8.not_lt.1 hab)
        subst this
        rw [if_neg hba] at h1
        by_cases hbc : a < c
        · simp [hbc]
        · rw [if_neg hbc] at h2 ⊢
          by_cases hcb : c < a
          · rw [if_pos hcb] at h2; omega
          · rw [if_neg hcb] at h2 ⊢
            exact ih h1 h2

theorem cmp_append : ∀ (x y : List UInt8), y ≠ [] → compareBytes x (x ++ y) = -1
  | [], [], h => absurd rfl h
  | [], _ :: _, _ => by simp [compareBytes]
  | a :: x, y, h => by
    have hlt : ¬ a < a := UInt8.lt_irrefl a
    simp [compareBytes, hlt, cmp_append x y h]

theorem less_cmp : ∀ x y : List UInt8, Op.bytesLess x y = decide (compareBytes x y < 0)
  | [], [] => by simp [compareBytes, Op.bytesLess]
  | [], _ :: _ => by simp [compareBytes, Op.bytesLess]
  | _ :: _, [] => by simp [compareBytes, Op.bytesLess]
  | a :: x, b :: y => by
    have := less_cmp x y
    unfold compareBytes Op.bytesLess
    by_cases h : a < b
    · simp [h]
    · by_cases h' : b < a
      · have : a ≠ b := fun e => by subst e; exact UInt8.lt_irrefl _ h'
        simp [h, h', this]
      · have : a = b := UInt8.le_antisymm (UInt8.not_lt.1 h') (UInt8.not_lt.1 h)
        subst this
        simp [h, less_cmp x y]

/-- Whether a text is within two others; the empty one behind all. -/
def within (k a c : List UInt8) : Bool := decide (compareBytes k a ≥ 0) && (c.isEmpty || decide (compareBytes k c < 0))

theorem within_key (k a c : List UInt8) : ((Op.bytesLess a k || a == k) && (c.isEmpty || Op.bytesLess k c)) = within k a c := by
  unfold within
  rw [less_cmp, less_cmp, cmp_neg a k]
  congr 1
  have h0 : (a == k) = decide (compareBytes k a = 0) := by
    rw [Bool.eq_iff_iff]; simp [cmp_zero]; exact eq_comm
  rw [h0]
  rcases cmp_range k a with h | h | h <;> simp [h]

theorem within_parts (k a b c : List UInt8) (hb : b ≠ []) (h1 : compareBytes a b ≤ 0) (h2 : c = [] ∨ compareBytes b c ≤ 0) :
    within k a c = (within k a b != within k b c) := by
  unfold within
  have hb' : b.isEmpty = false := by cases b <;> simp_all
  have e1 := cmp_trans a b k h1
  have e2 := fun h => cmp_trans k b c h
  have e3 := cmp_trans b c k
  have n1 := cmp_neg k a
  have n2 := cmp_neg k b
  have n3 := cmp_neg k c
  have z1 := cmp_zero k c
  have z2 := cmp_zero b c
  rw [hb', Bool.false_or]
  rcases h2 with h2 | h2
  · subst h2
    simp only [List.isEmpty_nil, Bool.true_or, Bool.and_true]
    by_cases ha : compareBytes k a ≥ 0 <;> by_cases hk : compareBytes k b < 0 <;> simp [ha, hk] <;> omega
  · by_cases hc : c = []
    · subst hc
      simp only [List.isEmpty_nil, Bool.true_or, Bool.and_true]
      by_cases ha : compareBytes k a ≥ 0 <;> by_cases hk : compareBytes k b < 0 <;> simp [ha, hk] <;> omega
    · have hc' : c.isEmpty = false := by cases c <;> simp_all
      rw [hc', Bool.false_or]
      have hlt : compareBytes k b < 0 → compareBytes k c < 0 := by
        intro hk
        have h3 := cmp_trans k b c (by omega) h2
        rcases Int.lt_or_eq_of_le h3 with h4 | h4
        · exact h4
        · have : k = c := z1.1 h4
          subst this
          have := cmp_neg k b
          omega
      by_cases ha : compareBytes k a ≥ 0 <;> by_cases hk : compareBytes k b < 0 <;> by_cases hk3 : compareBytes k c < 0 <;> simp [ha, hk, hk3] <;> omega
end Go.Proofs.Ytahaikfijegknaa
