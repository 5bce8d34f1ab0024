/- chapter 11: ops as plain data -/
import Derived.Test.YtienlhnbmobinaaRows
import Derived.Test.YtienlhnbmobinaaPlains
import Derived.WalkKit
import Derived.WalkLawsBesides
import Derived.WalkSpells
import Derived.LoopTactic
import Derived.WalkMore
import Derived.LoopN
import Derived.Laws.BitsAllLaws
import Derived.Laws.IdiomStrings
import Derived.BigQuiet
import Derived.Deep.QuietTactic
import Derived.Deep.DeepCutAuto
import Derived.Deep.RegionHeld3
import Derived.Deep.DrawnRows
import Derived.Lib.Hide
import Derived.Outline
import Derived.Deep.DeepMust
import Derived.Handy
namespace Go.Proofs.Ytienlhnbmobinaa
open Go.RowKit
set_option linter.unusedVariables false
set_option linter.unusedSimpArgs false

/-- An op as plain data. -/
structure Od where
  kind : Nat
  page : Nat
  at_ : Int
  off : Int
  text : List UInt8
  rows : List (List UInt8)
  pk : Nat
  lv : Nat
  nx : Nat
  deriving DecidableEq
def Od.zero : Od := ⟨0, 0, 0, 0, [], [], 0, 0, 0⟩
/-- An op's numbers are in range. -/
def Od.wf (o : Od) : Prop := o.kind < 256 ∧ o.page < 256 ^ 4 ∧ (-9223372036854775808 ≤ o.at_ ∧ o.at_ ≤ 9223372036854775807) ∧ (-9223372036854775808 ≤ o.off ∧ o.off ≤ 9223372036854775807) ∧ o.pk < 256 ∧ o.lv < 256 ∧ o.nx < 256 ^ 4
/-- An op's value. -/
def odV (o : Od) (sv : Value) : Value := .agg #[.int .u8 o.kind, .int .u32 o.page, .int .i64 o.at_, .int .i64 o.off, .string ⟨o.text.toArray⟩, sv, .int .u8 o.pk, .int .u8 o.lv, .int .u32 o.nx]
/-- How many bytes texts have. -/
def lensB (rows : List (List UInt8)) : Nat := (rows.map List.length).sum
theorem lensB_nil : lensB [] = 0 := rfl
theorem lensB_cons (r : List UInt8) (rows : List (List UInt8)) : lensB (r :: rows) = r.length + lensB rows := by simp [lensB]
theorem lensB_append (a b : List (List UInt8)) : lensB (a ++ b) = lensB a + lensB b := by simp [lensB, List.sum_append]
theorem lensB_take (rows : List (List UInt8)) (k : Nat) (h : k < rows.length) : lensB (rows.take (k + 1)) = lensB (rows.take k) + rows[k].length := by
  rw [List.take_succ_eq_append_getElem h, lensB_append]
  simp [lensB]
theorem lensB_take_le (rows : List (List UInt8)) (k : Nat) : lensB (rows.take k) ≤ lensB rows := by
  conv => rhs; rw [← List.take_append_drop k rows, lensB_append]
  omega
/-- An op of what its kind has alone. -/
def Od.only (o : Od) : Od :=
  match o.kind with
  | 1 => ⟨o.kind, o.page, 0, 0, [], [], o.pk, o.lv, o.nx⟩
  | 2 => ⟨o.kind, o.page, o.at_, 0, o.text, [], 0, 0, 0⟩
  | 3 => ⟨o.kind, o.page, o.at_, 0, o.text, [], 0, 0, 0⟩
  | 4 => ⟨o.kind, o.page, o.at_, 0, [], [], 0, 0, 0⟩
  | 5 => ⟨o.kind, o.page, o.at_, 0, [], [], 0, 0, 0⟩
  | 6 => ⟨o.kind, o.page, 0, 0, [], o.rows, 0, 0, 0⟩
  | 7 => ⟨o.kind, o.page, 0, 0, [], [], 0, 0, o.nx⟩
  | 8 => ⟨o.kind, o.page, o.at_, o.off, o.text, [], 0, 0, 0⟩
  | _ => ⟨o.kind, o.page, 0, 0, [], [], 0, 0, 0⟩
/-- Which ops may be. -/
def Od.may (o : Od) : Bool := decide (1 ≤ o.kind ∧ o.kind ≤ 8 ∧ 1 ≤ o.page ∧ o.page ≤ 1024 ∧ o.nx ≤ 1024 ∧ o.pk ≤ 5) && (decide (0 ≤ o.at_ ∧ o.at_ ≤ 488 ∧ 0 ≤ o.off ∧ o.off ≤ 488 ∧ o.rows.length ≤ 488) && (decide (o.text.length + lensB o.rows ≤ 488) && decide (o = o.only)))
/-- A text with its length ahead. -/
def pieceB (t : List UInt8) : List UInt8 := be 2 t.length ++ t
/-- An op's bytes. -/
def Od.enc (o : Od) : List UInt8 :=
  be 1 o.kind ++ be 4 o.page ++
  match o.kind with
  | 1 => be 1 o.pk ++ be 1 o.lv ++ be 4 o.nx
  | 2 => be 2 o.at_.toNat ++ pieceB o.text
  | 3 => be 2 o.at_.toNat ++ pieceB o.text
  | 4 => be 2 o.at_.toNat
  | 5 => be 2 o.at_.toNat
  | 7 => be 4 o.nx
  | 8 => be 2 o.at_.toNat ++ be 2 o.off.toNat ++ pieceB o.text
  | _ => be 2 o.rows.length ++ o.rows.flatMap pieceB
/-- What stands in a coder. -/
structure Cd where
  o : Od
  s : List UInt8
  at_ : Nat
  rd : Bool
  bad : Bool
/-- A number gone through: its value, the bytes, the place, the flag. -/
def Cd.numV (c : Cd) (size : Nat) (v : Int) : Int := if c.rd then (rdNum c.s c.at_ size : Nat) else v
def Cd.numS (c : Cd) (size : Nat) (v : Int) : List UInt8 := if c.rd then c.s else c.s ++ (if 0 ≤ v ∧ v < 256 ^ size then be size v.toNat else [])
def Cd.numA (c : Cd) (size : Nat) : Nat := if c.rd then c.at_ + size else c.at_
def Cd.numX (c : Cd) (size most : Nat) (v : Int) : Bool := c.bad || !(if c.rd then decide (c.at_ + size ≤ c.s.length) && decide (rdNum c.s c.at_ size ≤ most) else decide (0 ≤ v ∧ v ≤ most))
/-- A coder behind a number (whose value goes elsewhere). -/
def Cd.num (c : Cd) (size most : Nat) (v : Int) : Cd := ⟨c.o, c.numS size v, c.numA size, c.rd, c.numX size most v⟩
/-- A text gone through: its value, and the coder. -/
def Cd.pieceV (c : Cd) (t : List UInt8) : List UInt8 := if c.rd then rdText c.s (c.at_ + 2) (rdNum c.s c.at_ 2) else t
def Cd.piece (c : Cd) (t : List UInt8) : Cd :=
  if c.rd then ⟨c.o, c.s, c.at_ + 2 + rdNum c.s c.at_ 2, true, (c.num 2 488 t.length).bad || !decide (c.at_ + 2 + rdNum c.s c.at_ 2 ≤ c.s.length)⟩
  else ⟨c.o, (c.num 2 488 t.length).s ++ t, c.at_, false, (c.num 2 488 t.length).bad⟩
def Cd.set (c : Cd) (o : Od) : Cd := ⟨o, c.s, c.at_, c.rd, c.bad⟩
inductive Part
  | kind | level | next | place | off | text | rows
  deriving DecidableEq
/-- The rows gone through: how many are left, which one, how many bytes there were. -/
def Cd.rowsGo : Nat → Nat → Nat → Cd → Cd
  | 0, _, _, c => c
  | k + 1, i, all, c =>
    let t := c.o.rows.getD i []
    let c2 := (c.piece t).set { c.o with rows := if c.rd then c.o.rows ++ [c.pieceV t] else c.o.rows }
    if c2.bad || decide (488 < all + (c.pieceV t).length) then ⟨c2.o, c2.s, c2.at_, c2.rd, true⟩ else Cd.rowsGo k (i + 1) (all + (c.pieceV t).length) c2
def Part.run : Part → Cd → Cd
  | .kind, c => (c.num 1 5 c.o.pk).set { c.o with pk := (c.numV 1 c.o.pk).toNat }
  | .level, c => (c.num 1 255 c.o.lv).set { c.o with lv := (c.numV 1 c.o.lv).toNat }
  | .next, c => (c.num 4 1024 c.o.nx).set { c.o with nx := (c.numV 4 c.o.nx).toNat }
  | .place, c => (c.num 2 488 c.o.at_).set { c.o with at_ := c.numV 2 c.o.at_ }
  | .off, c => (c.num 2 488 c.o.off).set { c.o with off := c.numV 2 c.o.off }
  | .text, c => (c.piece c.o.text).set { c.o with text := c.pieceV c.o.text }
  | .rows, c => if (c.num 2 488 c.o.rows.length).bad then c.num 2 488 c.o.rows.length else Cd.rowsGo (c.numV 2 c.o.rows.length).toNat 0 0 (c.num 2 488 c.o.rows.length)
def partsOf : Nat → List Part
  | 1 => [.kind, .level, .next]
  | 2 => [.place, .text]
  | 3 => [.place, .text]
  | 4 => [.place]
  | 5 => [.place]
  | 6 => [.rows]
  | 7 => [.next]
  | 8 => [.place, .off, .text]
  | _ => []
/-- An op gone through. -/
def Cd.head (c : Cd) : Cd := 
  let c1 := (c.num 1 255 c.o.kind).set { c.o with kind := (c.numV 1 c.o.kind).toNat }
  let c2 := (c1.num 4 1024 c1.o.page).set { c1.o with page := (c1.numV 4 c1.o.page).toNat }
  ⟨c2.o, c2.s, c2.at_, c2.rd, c2.bad || !(decide (1 ≤ c2.o.kind ∧ c2.o.kind ≤ 8)) || decide (c2.o.page < 1)⟩
def Cd.op (c : Cd) : Cd := (partsOf c.head.o.kind).foldl (fun c p => p.run c) c.head

end Go.Proofs.Ytienlhnbmobinaa
