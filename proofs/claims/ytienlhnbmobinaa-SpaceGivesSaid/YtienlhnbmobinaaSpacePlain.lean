/- chapter 16: bits of a map, its free pages, the ops, in plain words -/
import Derived.Test.YtienlhnbmobinaaRows
import Derived.Test.YtienlhnbmobinaaOpPlain
import Derived.Test.YtienlhnbmobinaaPlains
import Derived.Test.YtienlhnbmobinaaBase
import Derived.WalkKit
import Derived.WalkLawsBesides
import Derived.WalkSpells
import Derived.LoopTactic
import Derived.WalkMore
import Derived.LoopN
import Derived.Laws.BitsAllLaws
import Derived.Laws.IdiomStrings
import Derived.BigQuiet
import Derived.Deep.QuietTactic
import Derived.Deep.DeepCutAuto
import Derived.Deep.RegionHeld3
import Derived.Deep.DrawnRows
import Derived.Lib.Hide
import Derived.Outline
import Derived.Deep.DeepMust
import Derived.Handy
namespace Go.Proofs.Ytienlhnbmobinaa
open Go.RowKit
set_option linter.unusedVariables false
set_option linter.unusedSimpArgs false

/-- Is bit k of a row set? -/
def bitB (r : List UInt8) (k : Nat) : Bool := (r.getD (k / 8) 0).toNat.testBit (k % 8)
def flip8 (x : UInt8) (j : Nat) : UInt8 := UInt8.ofNat (x.toNat ^^^ 2 ^ j)
def flipAt (r : List UInt8) (k : Nat) : List UInt8 := r.set (k / 8) (flip8 (r.getD (k / 8) 0) (k % 8))
theorem flip8_toNat (x : UInt8) (j : Nat) (hj : j < 8) : (flip8 x j).toNat = x.toNat ^^^ 2 ^ j := by
  have hx : x.toNat < 2 ^ 8 := x.toNat_lt
  have h2 : 2 ^ j < 2 ^ 8 := Nat.pow_lt_pow_right (by omega) hj
  have h3 : x.toNat ^^^ 2 ^ j < 2 ^ 8 := Nat.xor_lt_two_pow hx h2
  unfold flip8
  rw [UInt8.toNat_ofNat']
  exact Nat.mod_eq_of_lt h3
theorem flip8_bit (x : UInt8) (j i : Nat) (hj : j < 8) : (flip8 x j).toNat.testBit i = (x.toNat.testBit i ^^ decide (j = i)) := by
  rw [flip8_toNat x j hj, Nat.testBit_xor, Nat.testBit_two_pow]
theorem flip8_back (x : UInt8) (j : Nat) (hj : j < 8) : flip8 (flip8 x j) j = x := by
  apply UInt8.toNat_inj.1
  rw [flip8_toNat _ j hj, flip8_toNat _ j hj, Nat.xor_assoc, Nat.xor_self, Nat.xor_zero]
theorem flipAt_length (r : List UInt8) (k : Nat) : (flipAt r k).length = r.length := by unfold flipAt; simp
theorem bit_flip (r : List UInt8) (k i : Nat) (hk : k / 8 < r.length) : bitB (flipAt r k) i = if i = k then !bitB r k else bitB r i := by
  unfold bitB flipAt
  by_cases h8 : i / 8 = k / 8
  · rw [h8]
    have : (r.set (k / 8) (flip8 (r.getD (k / 8) 0) (k % 8))).getD (k / 8) 0 = flip8 (r.getD (k / 8) 0) (k % 8) := by
      simp [List.getD_eq_getElem?_getD, List.getElem?_set_self hk]
    rw [this, flip8_bit _ _ _ (by omega)]
    by_cases hik : i = k
    · subst hik; simp
    · have : ¬ k % 8 = i % 8 := by omega
      simp [hik, this]
  · have hik : ¬ i = k := fun e => h8 (by rw [e])
    have : (r.set (k / 8) (flip8 (r.getD (k / 8) 0) (k % 8))).getD (i / 8) 0 = r.getD (i / 8) 0 := by
      simp only [List.getD_eq_getElem?_getD]
      rw [List.getElem?_set_ne (fun e => h8 e.symm)]
    rw [this, if_neg hik]
theorem flip_back (r : List UInt8) (k : Nat) (hk : k / 8 < r.length) : flipAt (flipAt r k) k = r := by
  have h1 : (flipAt r k).getD (k / 8) 0 = flip8 (r.getD (k / 8) 0) (k % 8) := by
    unfold flipAt
    simp [List.getD_eq_getElem?_getD, List.getElem?_set_self hk]
  rw [flipAt, h1, flip8_back _ _ (by omega)]
  unfold flipAt
  rw [List.set_set]
  apply List.ext_getElem?
  intro j
  by_cases hj : k / 8 = j
  · subst hj
    rw [List.getElem?_set_self hk, List.getD_eq_getElem?_getD, List.getElem?_eq_getElem hk]
    rfl
  · rw [List.getElem?_set_ne hj]
/-- A row with bit k set, or not. -/
def setAt (r : List UInt8) (k : Nat) (t : Bool) : List UInt8 := if bitB r k = t then r else flipAt r k
theorem setAt_length (r : List UInt8) (k : Nat) (t : Bool) : (setAt r k t).length = r.length := by unfold setAt; split <;> simp [flipAt_length]
theorem bit_set (r : List UInt8) (k i : Nat) (t : Bool) (hk : k / 8 < r.length) : bitB (setAt r k t) i = if i = k then t else bitB r i := by
  unfold setAt
  by_cases h : bitB r k = t
  · rw [if_pos h]
    by_cases hik : i = k
    · subst hik; simp [h]
    · simp [hik]
  · rw [if_neg h, bit_flip r k i hk]
    by_cases hik : i = k
    · subst hik
      cases hb : bitB r i <;> cases t <;> simp_all
    · simp [hik]
/-- A byte with a bit set. -/
def mark8 (x : UInt8) (j : Nat) : UInt8 := if x.toNat.testBit j then x else flip8 x j
def bare8 (x : UInt8) (j : Nat) : UInt8 := if x.toNat.testBit j then flip8 x j else x
theorem setAt_true (r : List UInt8) (k : Nat) (hk : k / 8 < r.length) : setAt r k true = r.set (k / 8) (mark8 (r.getD (k / 8) 0) (k % 8)) := by
  unfold setAt mark8
  by_cases h : bitB r k = true
  · have hx : (r.getD (k / 8) 0).toNat.testBit (k % 8) = true := h
    rw [if_pos h, if_pos hx]
    apply List.ext_getElem?
    intro j
    by_cases hj : k / 8 = j
    · subst hj
      rw [List.getElem?_set_self hk, List.getD_eq_getElem?_getD, List.getElem?_eq_getElem hk]
      rfl
    · rw [List.getElem?_set_ne hj]
  · have hx : ¬ (r.getD (k / 8) 0).toNat.testBit (k % 8) = true := h
    rw [if_neg h, if_neg hx]; rfl
theorem setAt_false (r : List UInt8) (k : Nat) (hk : k / 8 < r.length) : setAt r k false = r.set (k / 8) (bare8 (r.getD (k / 8) 0) (k % 8)) := by
  unfold setAt bare8
  by_cases h : bitB r k = true
  · have h' : ¬ bitB r k = false := by simp [h]
    have hx : (r.getD (k / 8) 0).toNat.testBit (k % 8) = true := h
    rw [if_neg h', if_pos hx]; rfl
  · have h' : bitB r k = false := by simpa using h
    have hx : ¬ (r.getD (k / 8) 0).toNat.testBit (k % 8) = true := h
    rw [if_pos h', if_neg hx]
    apply List.ext_getElem?
    intro j
    by_cases hj : k / 8 = j
    · subst hj
      rw [List.getElem?_set_self hk, List.getD_eq_getElem?_getD, List.getElem?_eq_getElem hk]
      rfl
    · rw [List.getElem?_set_ne hj]
theorem two_mod (j : Nat) (hj : j < 8) : ((2 : Int) ^ j % 256) = ((2 ^ j : Nat) : Int) := by
  have h2 : 2 ^ j < 256 := Nat.pow_lt_pow_right (a := 2) (m := j) (n := 8) (by omega) hj
  have h3 : ((2 : Int) ^ j) = ((2 ^ j : Nat) : Int) := by simp
  rw [h3]
  obtain ⟨m, hm⟩ : ∃ m, m = 2 ^ j := ⟨_, rfl⟩
  rw [← hm] at h2 ⊢
  omega
theorem two_lt (j : Nat) (hj : j < 8) : 2 ^ j < 256 := Nat.pow_lt_pow_right (a := 2) (m := j) (n := 8) (by omega) hj
theorem u8lt (x : UInt8) : x.toNat < 256 := x.toNat_lt
theorem and_pos (x : UInt8) (j : Nat) (hj : j < 8) : decide ((0 : Int) < bits .and .u8 (x.toNat : Int) ((2 ^ j : Nat) : Int)) = x.toNat.testBit j := by
  rw [u8_and_nat _ _ (u8lt x) (two_lt j hj), nat_bit, Nat.testBit_eq_decide_div_mod_eq]
  have h1 : 0 < 2 ^ j := Nat.two_pow_pos j
  rcases Nat.mod_two_eq_zero_or_one (x.toNat / 2 ^ j) with h | h
  · rw [h]; simp
  · rw [h]; simp; exact_mod_cast h1
theorem or_mark (x : UInt8) (j : Nat) (hj : j < 8) : bits .or .u8 (x.toNat : Int) ((2 ^ j : Nat) : Int) = ((mark8 x j).toNat : Int) := by
  rw [u8_or_nat _ _ (u8lt x) (two_lt j hj)]
  congr 1
  apply Nat.eq_of_testBit_eq
  intro i
  unfold mark8
  rw [Nat.testBit_or, Nat.testBit_two_pow]
  by_cases h : x.toNat.testBit j = true
  · rw [if_pos h]
    by_cases hi : j = i
    · subst hi; simp [h]
    · simp [hi]
  · rw [if_neg h, flip8_bit _ _ _ hj]
    by_cases hi : j = i
    · subst hi; simp [h]
    · simp [hi]
theorem xor_flip (x : UInt8) (j : Nat) (hj : j < 8) : bits .xor .u8 (x.toNat : Int) ((2 ^ j : Nat) : Int) = ((flip8 x j).toNat : Int) := by
  rw [u8_xor_nat _ _ (u8lt x) (two_lt j hj), flip8_toNat x j hj]
theorem mark_sub_all : ∀ x : Fin 256, ∀ j : Fin 8, 2 ^ j.val ≤ (if x.val.testBit j.val then x.val else x.val ^^^ 2 ^ j.val) ∧ (if x.val.testBit j.val then x.val else x.val ^^^ 2 ^ j.val) - 2 ^ j.val = (if x.val.testBit j.val then x.val ^^^ 2 ^ j.val else x.val) := by decide +kernel
theorem mark_toNat (x : UInt8) (j : Nat) (hj : j < 8) : (mark8 x j).toNat = if x.toNat.testBit j then x.toNat else x.toNat ^^^ 2 ^ j := by
  unfold mark8
  split
  · rfl
  · rw [flip8_toNat _ _ hj]
theorem bare_toNat (x : UInt8) (j : Nat) (hj : j < 8) : (bare8 x j).toNat = if x.toNat.testBit j then x.toNat ^^^ 2 ^ j else x.toNat := by
  unfold bare8
  split
  · rw [flip8_toNat _ _ hj]
  · rfl
theorem mark_sub (x : UInt8) (j : Nat) (hj : j < 8) : 2 ^ j ≤ (mark8 x j).toNat ∧ (mark8 x j).toNat - 2 ^ j = (bare8 x j).toNat := by
  rw [mark_toNat x j hj, bare_toNat x j hj]
  exact mark_sub_all ⟨x.toNat, u8lt x⟩ ⟨j, hj⟩
/-- Is a page a map? -/
def mapRow (p : Pg) : List UInt8 := p.rows.getD 0 []
def mapB (p : Pg) : Bool := p.may && decide (p.kind = 4) && decide (p.rows.length = 1) && decide ((mapRow p).length = 128) && bitB (mapRow p) (p.id - 1)
def freeL (p : Pg) : List Nat := if mapB p then ((List.range 1024).filter fun k => !bitB (mapRow p) k).map (· + 1) else []
def isB (p : Pg) (n : Nat) : Bool := mapB p && (decide (n < 1) || decide (1024 < n) || bitB (mapRow p) (n - 1))
def patchO (p : Pg) (n : Nat) : Od := ⟨8, p.id, 0, ((n - 1) / 8 : Nat), [flip8 ((mapRow p).getD ((n - 1) / 8) 0) ((n - 1) % 8)], [], 0, 0, 0⟩
def allocB (p : Pg) : Nat × Od × Int := if mapB p then (match freeL p with | [] => (0, Od.zero, 4) | n :: _ => (n, patchO p n, 0)) else (0, Od.zero, 60)
def giveB (p : Pg) (n : Nat) : Od × Int := if mapB p then (if n < 1 ∨ 1024 < n ∨ n = p.id then (Od.zero, 2) else if bitB (mapRow p) (n - 1) then (patchO p n, 0) else (Od.zero, 3)) else (Od.zero, 60)
def countB (p : Pg) : Nat × Nat := if mapB p then (1024 - (freeL p).length, (freeL p).length) else (0, 0)
def markAll (r : List UInt8) (l : List Nat) : List UInt8 := l.foldl (fun r n => setAt r (n - 1) true) r
/-- The pages behind the last one, up to the k-th. -/
def tailL (pages k : Nat) : List Nat := (List.range k).map (· + (pages + 1))
def newRow (id pages : Nat) (taken : List Nat) : List UInt8 := markAll (markAll (List.replicate 128 0) (id :: taken)) (tailL pages (1024 - pages))
def newB (id : Nat) (pages : Int) (taken : List Nat) : Pg × Int :=
  if 1 ≤ pages ∧ pages ≤ 1024 ∧ ∀ n ∈ id :: taken, 1 ≤ n ∧ (n : Int) ≤ pages then (⟨4, 0, id, 0, 0, [newRow id pages.toNat taken]⟩, 0) else (Pg.zero, 2)

end Go.Proofs.Ytienlhnbmobinaa
