/- What undo.Decode returns, in plain words -/
import Derived.Test.YtahaikfijegknaaRows
import Derived.Test.YtahaikfijegknaaUndoNext
import Derived.WalkKit
import Derived.WalkLawsBesides
import Derived.WalkSpells
import Derived.LoopTactic
import Derived.WalkMore
import Derived.LoopN
import Derived.Laws.BitsAllLaws
import Derived.Laws.IdiomStrings
import Derived.BigQuiet
import Derived.Deep.QuietTactic
import Derived.Deep.DeepCutAuto
import Derived.Deep.RegionHeld3
import Derived.Deep.DrawnRows
import Derived.Lib.Hide
import Derived.Outline
import Derived.Deep.DeepMust
import Derived.Handy
namespace Go.Proofs.Ytahaikfijegknaa
open Go.RowKit
set_option linter.unusedVariables false
set_option linter.unusedSimpArgs false

/-- What undo.Decode takes for a record's key and for its row. -/
def uHas (l : List UInt8) : Bool := decide (rdNum l 0 1 = 2) && decOk (l.drop 15)
def uK (l : List UInt8) : ByteArray := if rdNum l 0 1 = 2 then (if decOk (l.drop 15) then ⟨(dK (l.drop 15)).toArray⟩ else ⟨#[]⟩) else ⟨(l.drop 15).toArray⟩
def wK (l : List UInt8) : ByteArray := if uHas l then ⟨(dK (l.drop 15)).toArray⟩ else ⟨#[]⟩
def wM (l : List UInt8) : Bool := if uHas l then decide (0 < rdNum (l.drop 15) 0 1) else false
def wT (l : List UInt8) : Nat := if uHas l then rdNum (l.drop 15) 1 8 else 0
def wP (l : List UInt8) : Nat := if uHas l then rdNum (l.drop 15) 9 4 else 0
def wS (l : List UInt8) : Nat := if uHas l then rdNum (l.drop 15) 13 2 else 0
def wV (l : List UInt8) : ByteArray := if uHas l then ⟨(dV (l.drop 15)).toArray⟩ else ⟨#[]⟩
def wD (l : List UInt8) : Int := if uHas l then dPad (l.drop 15) else 0
def decUOk (l : List UInt8) : Bool := decide (15 ≤ l.length) && mayUndo (rdNum l 0 1) (rdNum l 1 8) (rdNum l 9 4) (rdNum l 13 2) (uK l) (wK l) (wM l) (wT l) (wP l) (wS l) (wV l) (wD l)
def zUV : Value := .tuple #[.agg #[.int .u8 0, .int .u64 0, .int .u32 0, .int .u16 0, .string ⟨#[]⟩, .string ⟨#[]⟩, .bool false, .int .u64 0, .int .u32 0, .int .u16 0, .string ⟨#[]⟩, .int .i64 0], .int .i64 7]
/-- What undo.Decode returns. -/
def decUV (l : List UInt8) : Value :=
  if decUOk l then .tuple #[.agg #[.int .u8 (rdNum l 0 1), .int .u64 (rdNum l 1 8), .int .u32 (rdNum l 9 4), .int .u16 (rdNum l 13 2), .string (uK l), .string (wK l), .bool (wM l), .int .u64 (wT l), .int .u32 (wP l), .int .u16 (wS l), .string (wV l), .int .i64 (wD l)], .int .i64 0] else zUV

theorem decUV_short {l : List UInt8} (h : l.length < 15) : decUV l = zUV := by
  unfold decUV decUOk
  rw [decide_eq_false (by omega), Bool.false_and]
  rfl
theorem mayUndo_nokey (kd x pg sl : Nat) (k : ByteArray) (m : Bool) (t p s : Nat) (v : ByteArray) (d : Int) : mayUndo kd x pg sl ⟨#[]⟩ k m t p s v d = false := by
  unfold mayUndo
  rw [decide_eq_false (by unfold UHead; show ¬ (_ ∧ _ ∧ _ ∧ 1 ≤ 0 ∧ _); omega), Bool.false_and]
theorem decUV_norow {l : List UInt8} (h : rdNum l 0 1 = 2) (hr : decOk (l.drop 15) = false) : decUV l = zUV := by
  have : uK l = ⟨#[]⟩ := by unfold uK; rw [if_pos h, hr]; rfl
  unfold decUV decUOk
  rw [this, mayUndo_nokey, Bool.and_false]
  rfl
theorem decUV_new {l : List UInt8} (h : rdNum l 0 1 ≠ 2) (h15 : 15 ≤ l.length) (n1 n2 n3 n4 : Nat) (y : ByteArray) (hn1 : rdNum l 0 1 = n1) (hn2 : rdNum l 1 8 = n2) (hn3 : rdNum l 9 4 = n3) (hn4 : rdNum l 13 2 = n4) (hy : y = ⟨(l.drop 15).toArray⟩) :
    decUV l = if mayUndo n1 n2 n3 n4 y ⟨#[]⟩ false 0 0 0 ⟨#[]⟩ 0 then .tuple #[.agg #[.int .u8 n1, .int .u64 n2, .int .u32 n3, .int .u16 n4, .string y, .string ⟨#[]⟩, .bool false, .int .u64 0, .int .u32 0, .int .u16 0, .string ⟨#[]⟩, .int .i64 0], .int .i64 0] else zUV := by
  have hu : uHas l = false := by unfold uHas; rw [decide_eq_false h, Bool.false_and]
  have hk : uK l = y := by unfold uK; rw [if_neg h, hy]
  unfold decUV decUOk wK wM wT wP wS wV wD
  rw [hu, hk, hn1, hn2, hn3, hn4, decide_eq_true h15, Bool.true_and]
  rfl
theorem decUV_put {l : List UInt8} (h : rdNum l 0 1 = 2) (h15 : 15 ≤ l.length) (hr : decOk (l.drop 15) = true) (n2 n3 n4 : Nat) (k v : ByteArray) (m : Bool) (t p s : Nat) (d : Int) (hn2 : rdNum l 1 8 = n2) (hn3 : rdNum l 9 4 = n3) (hn4 : rdNum l 13 2 = n4)
    (hk : k = ⟨(dK (l.drop 15)).toArray⟩) (hv : v = ⟨(dV (l.drop 15)).toArray⟩) (hm : m = decide (0 < rdNum (l.drop 15) 0 1)) (ht : t = rdNum (l.drop 15) 1 8) (hp : p = rdNum (l.drop 15) 9 4) (hs : s = rdNum (l.drop 15) 13 2) (hd : d = dPad (l.drop 15)) :
    decUV l = if mayUndo 2 n2 n3 n4 k k m t p s v d then .tuple #[.agg #[.int .u8 2, .int .u64 n2, .int .u32 n3, .int .u16 n4, .string k, .string k, .bool m, .int .u64 t, .int .u32 p, .int .u16 s, .string v, .int .i64 d], .int .i64 0] else zUV := by
  have hu : uHas l = true := by unfold uHas; rw [decide_eq_true h, hr]; rfl
  have hk' : uK l = k := by unfold uK; rw [if_pos h, hr, hk]; rfl
  unfold decUV decUOk wK wM wT wP wS wV wD
  rw [hu, hk', h, hn2, hn3, hn4, decide_eq_true h15, Bool.true_and, hk, hv, hm, ht, hp, hs, hd]
  rfl

end Go.Proofs.Ytahaikfijegknaa
