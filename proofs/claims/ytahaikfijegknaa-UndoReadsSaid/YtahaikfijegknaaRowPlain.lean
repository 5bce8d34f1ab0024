/- Plain words on rows: which may be. No program is named here. -/
import Derived.Test.YtahaikfijegknaaWordPlain
namespace Go.Proofs.Ytahaikfijegknaa

/-- Which rows may be: key's and value's lengths, roll's page and slot, pad. -/
def MayRow (k v p s : Nat) (d : Int) : Prop := 1 ≤ k ∧ k ≤ 48 ∧ 0 ≤ d ∧ d ≤ 96 ∧ (v : Int) + d ≤ 96 ∧ p ≤ 1024 ∧ (0 < p ∨ s = 0)
instance (k v p s : Nat) (d : Int) : Decidable (MayRow k v p s d) := by unfold MayRow; infer_instance
def mayRow (k v p s : Nat) (d : Int) : Bool := decide (MayRow k v p s d)
theorem mayRow_iff {k v p s : Nat} {d : Int} : mayRow k v p s d = true ↔ 1 ≤ k ∧ k ≤ 48 ∧ 0 ≤ d ∧ d ≤ 96 ∧ (v : Int) + d ≤ 96 ∧ p ≤ 1024 ∧ (0 < p ∨ s = 0) := by unfold mayRow; rw [decide_eq_true_iff]; exact Iff.rfl

/-- A row's bytes. -/
def encRow (k v : List UInt8) (m : Bool) (t p s d : Nat) : List UInt8 :=
  (if m then 1 else 0) :: (be 8 t ++ be 4 p ++ be 2 s ++ be 1 k.length ++ k ++ be 1 v.length ++ v ++ List.replicate d 0)
/-- What a reading of k bytes at a place gives: their number, or 0. -/
def rdNum (s : List UInt8) (i k : Nat) : Nat := if i + k ≤ s.length then un ((s.drop i).take k) else 0
/-- What a reading of a piece of n bytes at a place gives: it, or nothing. -/
def rdText (s : List UInt8) (i n : Nat) : List UInt8 := if i + n ≤ s.length then (s.drop i).take n else []
/-- What row.Decode reads, step by step: whether the first four numbers are there; key's length, key, where the value's length stands; value's length, value, where it ends; pad; whether all is there; whether it is a row. -/
def rd4 (n : Nat) : Bool := (((true && decide (0 + 1 ≤ n)) && decide (1 + 8 ≤ n)) && decide (9 + 4 ≤ n)) && decide (13 + 2 ≤ n)
def dKn (l : List UInt8) : Nat := rdNum l 15 1
def dK (l : List UInt8) : List UInt8 := rdText l (15 + 1) (dKn l)
def dA (l : List UInt8) : Nat := 15 + 1 + dKn l
def dVn (l : List UInt8) : Nat := rdNum l (dA l) 1
def dV (l : List UInt8) : List UInt8 := rdText l (dA l + 1) (dVn l)
def dE (l : List UInt8) : Nat := dA l + 1 + dVn l
def dPad (l : List UInt8) : Int := (l.length : Int) - (dE l : Int)
def dIs (l : List UInt8) : Bool :=
  ((rd4 l.length && decide (15 + 1 ≤ l.length)) && decide (dA l ≤ l.length)) && decide (dA l + 1 ≤ l.length) && decide (dE l ≤ l.length)
def decMay (l : List UInt8) : Bool := mayRow (dK l).length (dV l).length (rdNum l 9 4) (rdNum l 13 2) (dPad l)
def decEnc (l : List UInt8) : List UInt8 := encRow (dK l) (dV l) (decide (0 < rdNum l 0 1)) (rdNum l 1 8) (rdNum l 9 4) (rdNum l 13 2) (dPad l).toNat
def decOk (l : List UInt8) : Bool := dIs l && (decMay l && (decEnc l == l))
end Go.Proofs.Ytahaikfijegknaa
