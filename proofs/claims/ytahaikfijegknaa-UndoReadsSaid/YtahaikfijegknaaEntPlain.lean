/- Plain words on entries: which may be, their bytes, which bytes are one. No program is named here. -/
import Derived.Test.YtahaikfijegknaaRowPlain
namespace Go.Proofs.Ytahaikfijegknaa

def mayEnt (k c : Nat) : Bool := decide (k ≤ 48 ∧ 1 ≤ c ∧ c ≤ 1024)
theorem mayEnt_iff {k c : Nat} : mayEnt k c = true ↔ k ≤ 48 ∧ 1 ≤ c ∧ c ≤ 1024 := by unfold mayEnt; rw [decide_eq_true_iff]
def encEnt (k : List UInt8) (c : Nat) : List UInt8 := be 4 c ++ k
def decEntOk (l : List UInt8) : Bool := decide (4 ≤ l.length) && mayEnt (l.length - 4) (rdNum l 0 4)
end Go.Proofs.Ytahaikfijegknaa
