/- Kept of our texts for this claim: NatsIn OpPlain Shelf WordWalks -/
import Derived.Test.YtienlhnbmobinaaRows
import Derived.Test.YtienlhnbmobinaaStayKAa
import Derived.ChangeSlices
import Derived.WideShapes
import Derived.WalkKit
import Derived.WalkLawsBesides
import Derived.WalkSpells
import Derived.LoopTactic
import Derived.WalkMore
import Derived.LoopN
import Derived.Laws.BitsAllLaws
import Derived.Laws.IdiomStrings
import Derived.BigQuiet
import Derived.Deep.QuietTactic
import Derived.Deep.DeepCutAuto
import Derived.Deep.RegionHeld3
import Derived.Deep.DrawnRows
import Derived.Lib.Hide
import Derived.Outline
import Derived.Deep.DeepMust
import Derived.Handy
import Derived.Shelf.Strings.Builder1
import Derived.Shelf.Strings.Builder2
import Derived.Shelf.Strings.BuilderF
import Derived.Shelf.Strings.BuilderK
import Derived.Shelf.Strings.Builder2Cap
import Derived.Shelf.Strings.Prefix
import Derived.Shelf.Bits.Mul64
import Derived.Shelf.Strings.Repeat
import Derived.Shelf.Strings.BuilderCap
import Derived.Shelf.Slices.Equal
import Derived.Ground.Names2Prog
import Derived.Shelf.Slices.ReverseS
import Derived.Shelf.Slices.Clone
import Derived.Shelf.Slices.Delete
import Derived.Shelf.Slices.Cells
import Derived.Shelf.Slices.Empties
import Derived.Shelf.Slices.Empties2
import Derived.Test.YtienlhnbmobinaaProg
section
/- slices of uint8, uint16, uint32 that came in -/
namespace Go.Proofs.Ytienlhnbmobinaa
open Go.RowKit
set_option linter.unusedVariables false
set_option linter.unusedSimpArgs false
def N8At (w : World) (sv : Value) (xs : List Nat) : Prop :=
  ∃ A cp, sv = .slice A xs.length cp ∧ xs.length ≤ cp ∧ cp ≤ maxLen ∧ (A = none → xs = [] ∧ cp = 0) ∧ (0 < xs.length → ∃ b o, A = some ⟨b, o, none⟩ ∧ b < w.heap.size ∧ ∀ j (h : j < xs.length), w.cell? ⟨b, o + j, none⟩ = some (.int .u8 (xs[j] : Nat)))
theorem N8At.below {w w' : World} {sv : Value} {xs : List Nat} (h : N8At w sv xs) (hb : Below w.heap.size w w') : N8At w' sv xs := by
  obtain ⟨A, cp, h1, h2, h3, h4, h5⟩ := h
  refine ⟨A, cp, h1, h2, h3, h4, fun h0 => ?_⟩
  obtain ⟨b, o, h6, h7, h8⟩ := h5 h0
  exact ⟨b, o, h6, Nat.lt_of_lt_of_le h7 hb.size, fun j hj => keep_cell hb (h8 j hj)⟩
theorem n8_of_row {w : World} {a : Option Addr} {len cap : Nat} {zs : List Int} (h : IsRow .u8 w a len cap zs) : ∃ xs : List Nat, N8At w (.slice a len cap) xs ∧ ∀ x ∈ xs, x < 256 := by
  rcases h with ⟨rfl, rfl, rfl, rfl⟩ | ⟨x, rfl, hl, hm, hz, hc, hw⟩
  · exact ⟨[], ⟨none, 0, rfl, Nat.le_refl _, Nat.zero_le _, fun _ => ⟨rfl, rfl⟩, fun h => absurd h (Nat.lt_irrefl 0)⟩, fun x h => (by cases h)⟩
  · have hlen : ((zs.take len).map Int.toNat).length = len := by simp; omega
    have hj : ∀ j (h : j < ((zs.take len).map Int.toNat).length), ∃ n : Nat, w.cell? (x.add j) = some (.int .u8 (n : Int)) ∧ ((zs.take len).map Int.toNat)[j] = n ∧ n < 256 := by
      intro j h
      have hjz : j < zs.length := by omega
      have h1 := hc j hjz
      have hg : zs.getD j 0 = zs[j] := by simp [hjz]
      have h2 := hw (zs.getD j 0) (by rw [hg]; exact List.getElem_mem hjz)
      obtain ⟨m, hm, hlt⟩ := natOf h2 (by decide) (b := 256) (by decide)
      refine ⟨m, by rw [h1, hm], ?_, hlt⟩
      rw [List.getElem_map, List.getElem_take]
      rw [hg] at hm
      rw [hm]
      rfl
    refine ⟨(zs.take len).map Int.toNat, ⟨some x, cap, by rw [hlen], by rw [hlen]; exact hl, hm, fun h => (by cases h), fun h0 => ?_⟩, fun y hy => ?_⟩
    · obtain ⟨n, h1, _, _⟩ := hj 0 h0
      have e0 : x.add 0 = x := rfl
      rw [e0] at h1
      obtain ⟨b, o, rfl⟩ := spot_noneT h1
      refine ⟨b, o, rfl, cell_lt h1, fun j h => ?_⟩
      obtain ⟨n2, h2, h3, _⟩ := hj j h
      rw [Addr.add_lit] at h2
      rw [h2, h3]
    · obtain ⟨j, h, rfl⟩ := List.getElem_of_mem hy
      obtain ⟨n, _, h2, h3⟩ := hj j h
      rw [h2]
      exact h3
def N16At (w : World) (sv : Value) (xs : List Nat) : Prop :=
  ∃ A cp, sv = .slice A xs.length cp ∧ xs.length ≤ cp ∧ cp ≤ maxLen ∧ (A = none → xs = [] ∧ cp = 0) ∧ (0 < xs.length → ∃ b o, A = some ⟨b, o, none⟩ ∧ b < w.heap.size ∧ ∀ j (h : j < xs.length), w.cell? ⟨b, o + j, none⟩ = some (.int .u16 (xs[j] : Nat)))
theorem N16At.below {w w' : World} {sv : Value} {xs : List Nat} (h : N16At w sv xs) (hb : Below w.heap.size w w') : N16At w' sv xs := by
  obtain ⟨A, cp, h1, h2, h3, h4, h5⟩ := h
  refine ⟨A, cp, h1, h2, h3, h4, fun h0 => ?_⟩
  obtain ⟨b, o, h6, h7, h8⟩ := h5 h0
  exact ⟨b, o, h6, Nat.lt_of_lt_of_le h7 hb.size, fun j hj => keep_cell hb (h8 j hj)⟩
end Go.Proofs.Ytienlhnbmobinaa
end

section
/- chapter 11: ops as plain data -/
namespace Go.Proofs.Ytienlhnbmobinaa
open Go.RowKit
set_option linter.unusedVariables false
set_option linter.unusedSimpArgs false
/-- An op as plain data. -/
structure Od where
  kind : Nat
  page : Nat
  at_ : Int
  off : Int
  text : List UInt8
  rows : List (List UInt8)
  pk : Nat
  lv : Nat
  nx : Nat
  deriving DecidableEq
def Od.zero : Od := ⟨0, 0, 0, 0, [], [], 0, 0, 0⟩
/-- An op's numbers are in range. -/
def Od.wf (o : Od) : Prop := o.kind < 256 ∧ o.page < 256 ^ 4 ∧ (-9223372036854775808 ≤ o.at_ ∧ o.at_ ≤ 9223372036854775807) ∧ (-9223372036854775808 ≤ o.off ∧ o.off ≤ 9223372036854775807) ∧ o.pk < 256 ∧ o.lv < 256 ∧ o.nx < 256 ^ 4
/-- An op's value. -/
def odV (o : Od) (sv : Value) : Value := .agg #[.int .u8 o.kind, .int .u32 o.page, .int .i64 o.at_, .int .i64 o.off, .string ⟨o.text.toArray⟩, sv, .int .u8 o.pk, .int .u8 o.lv, .int .u32 o.nx]
/-- How many bytes texts have. -/
def lensB (rows : List (List UInt8)) : Nat := (rows.map List.length).sum
theorem lensB_nil : lensB [] = 0 := rfl
theorem lensB_cons (r : List UInt8) (rows : List (List UInt8)) : lensB (r :: rows) = r.length + lensB rows := by simp [lensB]
theorem lensB_append (a b : List (List UInt8)) : lensB (a ++ b) = lensB a + lensB b := by simp [lensB, List.sum_append]
theorem lensB_take (rows : List (List UInt8)) (k : Nat) (h : k < rows.length) : lensB (rows.take (k + 1)) = lensB (rows.take k) + rows[k].length := by
  rw [List.take_succ_eq_append_getElem h, lensB_append]
  simp [lensB]
theorem lensB_take_le (rows : List (List UInt8)) (k : Nat) : lensB (rows.take k) ≤ lensB rows := by
  conv => rhs; rw [← List.take_append_drop k rows, lensB_append]
  omega
/-- An op of what its kind has alone. -/
def Od.only (o : Od) : Od :=
  match o.kind with
  | 1 => ⟨o.kind, o.page, 0, 0, [], [], o.pk, o.lv, o.nx⟩
  | 2 => ⟨o.kind, o.page, o.at_, 0, o.text, [], 0, 0, 0⟩
  | 3 => ⟨o.kind, o.page, o.at_, 0, o.text, [], 0, 0, 0⟩
  | 4 => ⟨o.kind, o.page, o.at_, 0, [], [], 0, 0, 0⟩
  | 5 => ⟨o.kind, o.page, o.at_, 0, [], [], 0, 0, 0⟩
  | 6 => ⟨o.kind, o.page, 0, 0, [], o.rows, 0, 0, 0⟩
  | 7 => ⟨o.kind, o.page, 0, 0, [], [], 0, 0, o.nx⟩
  | 8 => ⟨o.kind, o.page, o.at_, o.off, o.text, [], 0, 0, 0⟩
  | _ => ⟨o.kind, o.page, 0, 0, [], [], 0, 0, 0⟩
/-- Which ops may be. -/
def Od.may (o : Od) : Bool := decide (1 ≤ o.kind ∧ o.kind ≤ 8 ∧ 1 ≤ o.page ∧ o.page ≤ 1024 ∧ o.nx ≤ 1024 ∧ o.pk ≤ 5) && (decide (0 ≤ o.at_ ∧ o.at_ ≤ 488 ∧ 0 ≤ o.off ∧ o.off ≤ 488 ∧ o.rows.length ≤ 488) && (decide (o.text.length + lensB o.rows ≤ 488) && decide (o = o.only)))
/-- A text with its length ahead. -/
def pieceB (t : List UInt8) : List UInt8 := be 2 t.length ++ t
/-- An op's bytes. -/
def Od.enc (o : Od) : List UInt8 :=
  be 1 o.kind ++ be 4 o.page ++
  match o.kind with
  | 1 => be 1 o.pk ++ be 1 o.lv ++ be 4 o.nx
  | 2 => be 2 o.at_.toNat ++ pieceB o.text
  | 3 => be 2 o.at_.toNat ++ pieceB o.text
  | 4 => be 2 o.at_.toNat
  | 5 => be 2 o.at_.toNat
  | 7 => be 4 o.nx
  | 8 => be 2 o.at_.toNat ++ be 2 o.off.toNat ++ pieceB o.text
  | _ => be 2 o.rows.length ++ o.rows.flatMap pieceB
/-- What stands in a coder. -/
structure Cd where
  o : Od
  s : List UInt8
  at_ : Nat
  rd : Bool
  bad : Bool
/-- A number gone through: its value, the bytes, the place, the flag. -/
def Cd.numV (c : Cd) (size : Nat) (v : Int) : Int := if c.rd then (rdNum c.s c.at_ size : Nat) else v
def Cd.numS (c : Cd) (size : Nat) (v : Int) : List UInt8 := if c.rd then c.s else c.s ++ (if 0 ≤ v ∧ v < 256 ^ size then be size v.toNat else [])
def Cd.numA (c : Cd) (size : Nat) : Nat := if c.rd then c.at_ + size else c.at_
def Cd.numX (c : Cd) (size most : Nat) (v : Int) : Bool := c.bad || !(if c.rd then decide (c.at_ + size ≤ c.s.length) && decide (rdNum c.s c.at_ size ≤ most) else decide (0 ≤ v ∧ v ≤ most))
/-- A coder behind a number (whose value goes elsewhere). -/
def Cd.num (c : Cd) (size most : Nat) (v : Int) : Cd := ⟨c.o, c.numS size v, c.numA size, c.rd, c.numX size most v⟩
/-- A text gone through: its value, and the coder. -/
def Cd.pieceV (c : Cd) (t : List UInt8) : List UInt8 := if c.rd then rdText c.s (c.at_ + 2) (rdNum c.s c.at_ 2) else t
def Cd.piece (c : Cd) (t : List UInt8) : Cd :=
  if c.rd then ⟨c.o, c.s, c.at_ + 2 + rdNum c.s c.at_ 2, true, (c.num 2 488 t.length).bad || !decide (c.at_ + 2 + rdNum c.s c.at_ 2 ≤ c.s.length)⟩
  else ⟨c.o, (c.num 2 488 t.length).s ++ t, c.at_, false, (c.num 2 488 t.length).bad⟩
def Cd.set (c : Cd) (o : Od) : Cd := ⟨o, c.s, c.at_, c.rd, c.bad⟩
inductive Part
  | kind | level | next | place | off | text | rows
  deriving DecidableEq
/-- The rows gone through: how many are left, which one, how many bytes there were. -/
def Cd.rowsGo : Nat → Nat → Nat → Cd → Cd
  | 0, _, _, c => c
  | k + 1, i, all, c =>
    let t := c.o.rows.getD i []
    let c2 := (c.piece t).set { c.o with rows := if c.rd then c.o.rows ++ [c.pieceV t] else c.o.rows }
    if c2.bad || decide (488 < all + (c.pieceV t).length) then ⟨c2.o, c2.s, c2.at_, c2.rd, true⟩ else Cd.rowsGo k (i + 1) (all + (c.pieceV t).length) c2
def Part.run : Part → Cd → Cd
  | .kind, c => (c.num 1 5 c.o.pk).set { c.o with pk := (c.numV 1 c.o.pk).toNat }
  | .level, c => (c.num 1 255 c.o.lv).set { c.o with lv := (c.numV 1 c.o.lv).toNat }
  | .next, c => (c.num 4 1024 c.o.nx).set { c.o with nx := (c.numV 4 c.o.nx).toNat }
  | .place, c => (c.num 2 488 c.o.at_).set { c.o with at_ := c.numV 2 c.o.at_ }
  | .off, c => (c.num 2 488 c.o.off).set { c.o with off := c.numV 2 c.o.off }
  | .text, c => (c.piece c.o.text).set { c.o with text := c.pieceV c.o.text }
  | .rows, c => if (c.num 2 488 c.o.rows.length).bad then c.num 2 488 c.o.rows.length else Cd.rowsGo (c.numV 2 c.o.rows.length).toNat 0 0 (c.num 2 488 c.o.rows.length)
def partsOf : Nat → List Part
  | 1 => [.kind, .level, .next]
  | 2 => [.place, .text]
  | 3 => [.place, .text]
  | 4 => [.place]
  | 5 => [.place]
  | 6 => [.rows]
  | 7 => [.next]
  | 8 => [.place, .off, .text]
  | _ => []
/-- An op gone through. -/
def Cd.head (c : Cd) : Cd := 
  let c1 := (c.num 1 255 c.o.kind).set { c.o with kind := (c.numV 1 c.o.kind).toNat }
  let c2 := (c1.num 4 1024 c1.o.page).set { c1.o with page := (c1.numV 4 c1.o.page).toNat }
  ⟨c2.o, c2.s, c2.at_, c2.rd, c2.bad || !(decide (1 ≤ c2.o.kind ∧ c2.o.kind ≤ 8)) || decide (c2.o.page < 1)⟩
def Cd.op (c : Cd) : Cd := (partsOf c.head.o.kind).foldl (fun c p => p.run c) c.head
end Go.Proofs.Ytienlhnbmobinaa
end

section
/-
  DERIVED: THE SHELF's CONTRACTS AT THIS DUMP, IN PLAIN WORDS (tools/lay-plain.mjs out of 'TryShelf.lean', which tools/lay-shelf.mjs wrote): THE SAME DECLARATIONS UNDER THE SAME NAMES: 'import', 'namespace', 'open', 'def', 'theorem' AND NOTHING ELSE: no command of the shelf's: FOR A HAND-IN. Each laying: the table of numbers ('.._ren') and one theorem, a field a fact of the dump's own or the kernel's comparison; each contract: ONE APPLICATION.
-/
namespace Go.Proofs
open Go.Shelf
def Try.lays193_ren : Go.Shelf.Ren := ⟨fun | 193 => 106 | n => n, fun | 31 => 24 | 9 => 9 | 4 => 4 | 3 => 3 | 0 => 0 | n => n, fun | n => n⟩
theorem Try.lays193 : Go.Proofs.Lays.n193 Try.prog Try.lays193_ren := {
  mixed := by kernel_rfl
  f193 := Try.func106.trans (congrArg some (by kernel_rfl))
  t0 := Try.underlying0
  a0 := Try.isAgg0
  z0 := Try.sizeOf0
  v0 := Try.zeroValue0
  t3 := Try.underlying3
  a3 := Try.isAgg3
  z3 := Try.sizeOf3
  v3 := Try.zeroValue3
  t4 := Try.underlying4
  a4 := Try.isAgg4
  z4 := Try.sizeOf4
  v4 := Try.zeroValue4
  t9 := Try.underlying9
  a9 := Try.isAgg9
  z9 := Try.sizeOf9
  v9 := Try.zeroValue9
  t31 := Try.underlying24
  a31 := Try.isAgg24
  z31 := Try.sizeOf24
  v31 := Try.zeroValue24 }
open Go.RowKit Go.Lib in
/-- slices.Equal at []string: "Equal reports whether two slices are equal: the same length and all elements equal. If the lengths are different, Equal returns false. Otherwise, the elements are compared in increasing index order, and the comparison stops at the first unequal pair. Empty and nil slices are considered equal.": IT RETURNS WHETHER THE TWO LISTS OF ELEMENTS ARE ONE; the world is as it was but for the count of draws (the test 's1[i] != s2[i]' has two reads, whose order the model draws, once a round). 'xs', 'ys': what the cells behind the two addresses hold (the spare capacity too, if you have it); 'xs.take n', 'ys.take m': the elements. THE TWO SLICES MAY OVERLAP. (LAID: no walk: one application.) -/
theorem Try.slices_Equal_string (b1 o1 n c b2 o2 m d : Nat) (xs ys : List ByteArray) (w : World) (hx : n ≤ xs.length) (hy : m ≤ ys.length) (hbig : n ≤ 9223372036854775807) (hbig2 : m ≤ 9223372036854775807) (hc1 : ∀ j, j < xs.length → w.cell? ⟨b1, o1 + j, none⟩ = some (.string (xs.getD j ByteArray.empty))) (hc2 : ∀ j, j < ys.length → w.cell? ⟨b2, o2 + j, none⟩ = some (.string (ys.getD j ByteArray.empty))) :
    Calls Try.prog 106 #[.slice (some ⟨b1, o1, none⟩) n c, .slice (some ⟨b2, o2, none⟩) m d] w fun e w' => e = .returned (.bool (decide (xs.take n = ys.take m))) ∧ ∃ q, w' = w.drewN q := Any.slices_Equal_string Try.lays193 b1 o1 n c b2 o2 m d xs ys w hx hy hbig hbig2 hc1 hc2
open Go.RowKit Go.Lib in
/-- The same where the first is of length 0 (a nil one too): no cell is asked for. (LAID: no walk: one application.) -/
theorem Try.slices_Equal_string_empty (a1 a2 : Option Addr) (c m d : Nat) (w : World) (hbig2 : m ≤ 9223372036854775807) :
    Calls Try.prog 106 #[.slice a1 0 c, .slice a2 m d] w fun e w' => e = .returned (.bool (decide (m = 0))) ∧ w' = w := Any.slices_Equal_string_empty Try.lays193 a1 a2 c m d w hbig2
def Try.laysNm224_ren : Go.Shelf.Ren := ⟨fun | 24 => 141 | n => n, fun | 24 => 24 | 9 => 9 | 3 => 3 | 4 => 4 | 0 => 0 | n => n, fun | n => n⟩
theorem Try.laysNm224 : Go.Proofs.Lays2.n24 Try.prog Try.laysNm224_ren := {
  mixed := by kernel_rfl
  f24 := Try.func141.trans (congrArg some (by kernel_rfl))
  t0 := Try.underlying0
  a0 := Try.isAgg0
  z0 := Try.sizeOf0
  v0 := Try.zeroValue0
  t3 := Try.underlying3
  a3 := Try.isAgg3
  z3 := Try.sizeOf3
  v3 := Try.zeroValue3
  t4 := Try.underlying4
  a4 := Try.isAgg4
  z4 := Try.sizeOf4
  v4 := Try.zeroValue4
  t9 := Try.underlying9
  a9 := Try.isAgg9
  z9 := Try.sizeOf9
  v9 := Try.zeroValue9
  t24 := Try.underlying24
  a24 := Try.isAgg24
  z24 := Try.sizeOf24
  v24 := Try.zeroValue24
  i9 := by kernel_rfl }
open Go.RowKit Go.Lib Go.Sort in
/-- slices.Delete at []string, of an argument, for i ≤ j ≤ n. (LAID: no walk: one application.) -/
theorem Try.slices_Delete_string_cells (b off n c i j : Nat) (Sx : Nat → ByteArray) (w : World) (hcap : n ≤ c) (hm : c ≤ 9223372036854775807) (hij : i ≤ j) (hj : j ≤ n) (hc : ∀ i, i < n → w.cell? ⟨b, off + i, none⟩ = some (.string (Sx i))) (hf : ∀ j, j < n → w.frozen? ⟨b, off + j, none⟩ = false) :
    Calls Try.prog 141 #[.slice (some ⟨b, off, none⟩) n c, .int .i64 i, .int .i64 j] w fun e w' => e = .returned (.slice (some ⟨b, off, none⟩) (n - (j - i)) c) ∧ ∃ q, w' = (w.drewN q).setCells b off (((Lib.strsOf Sx n).take i ++ (Lib.strsOf Sx n).drop j ++ List.replicate (j - i) []).map encStr) := Any.slices_Delete_string_cells Try.laysNm224 b off n c i j Sx w hcap hm hij hj hc hf
open Go.RowKit Go.Lib in
theorem Try.slices_Equal_string_lens (a1 a2 : Option Addr) (n c m d : Nat) (w : World) (hnm : n ≠ m) :
    Calls Try.prog 106 #[.slice a1 n c, .slice a2 m d] w fun e w' => e = .returned (.bool false) ∧ w' = w := Any.slices_Equal_string_lens Try.lays193 a1 a2 n c m d w hnm
end Go.Proofs
end

section
/- The contracts of package word, and of the document's answer for it: numbers in bytes, pieces of a text.; The contracts of word.Get and of the document's answer for it: the number that bytes are. -/
namespace Go.Proofs.Ytienlhnbmobinaa
open Go.RowKit
set_option linter.unusedVariables false
set_option linter.unusedSimpArgs false
set_option maxHeartbeats 1000000 in
set_option maxRecDepth 100000 in
theorem put_1 (n : Nat) (w : World) (hn : n < 256 ^ 1) :
    Calls Try.prog 118 #[.int .u64 n, .int .i64 1] w fun e w' => e = .returned (.tuple #[.string ⟨(be 1 n).toArray⟩, .bool true]) ∧ Below w.heap.size w w' := by
  simp only [Nat.reducePow] at hn
  have hx : ((n : Int) / 256 != 0) = false := by simp; omega
  go_enter Try.func118, Try.ntmps118
  go_wp2_with fail
  go_rounds 9
  rw [conv_block _ 70 5 9 Try.underlying70 Try.underlying5 Try.underlying9 _ _ 7 1 1 (by
    intro i hi
    simp only [List.drop_succ_cons, List.drop_zero, List.take_succ_cons, List.take_zero, List.map_cons, List.map_nil, intOf]
    rcases i with _ | _ | _ | _ | _ | _ | _ | _ | i
    all_goals first | rfl | omega) (by simp)]
  simp only [Result.andThen]
  rw [Oper.upon_value]
  go_wp2
  go_ret2
  refine ⟨ret_str2 (str_same ?_), (Below.refl _ _).alloc (Nat.le_refl _) _⟩
  simp only [be, List.nil_append, List.cons_append, List.drop_succ_cons, List.drop_zero, List.take_succ_cons, List.take_zero, List.map_cons, List.map_nil, intOf]

  repeat (first | rfl | refine cons_same (u8_same (by first | omega | (simp only [IntKind.wrap_u8]; omega))) ?_)
set_option maxHeartbeats 1000000 in
set_option maxRecDepth 100000 in
theorem put_2 (n : Nat) (w : World) (hn : n < 256 ^ 2) :
    Calls Try.prog 118 #[.int .u64 n, .int .i64 2] w fun e w' => e = .returned (.tuple #[.string ⟨(be 2 n).toArray⟩, .bool true]) ∧ Below w.heap.size w w' := by
  simp only [Nat.reducePow] at hn
  have hx : ((n : Int) / 65536 != 0) = false := by simp; omega
  go_enter Try.func118, Try.ntmps118
  go_wp2_with fail
  go_rounds 9
  rw [conv_block _ 70 5 9 Try.underlying70 Try.underlying5 Try.underlying9 _ _ 6 2 2 (by
    intro i hi
    simp only [List.drop_succ_cons, List.drop_zero, List.take_succ_cons, List.take_zero, List.map_cons, List.map_nil, intOf]
    rcases i with _ | _ | _ | _ | _ | _ | _ | _ | i
    all_goals first | rfl | omega) (by simp)]
  simp only [Result.andThen]
  rw [Oper.upon_value]
  go_wp2
  go_ret2
  refine ⟨ret_str2 (str_same ?_), (Below.refl _ _).alloc (Nat.le_refl _) _⟩
  simp only [be, List.nil_append, List.cons_append, List.drop_succ_cons, List.drop_zero, List.take_succ_cons, List.take_zero, List.map_cons, List.map_nil, intOf]

  repeat (first | rfl | refine cons_same (u8_same (by first | omega | (simp only [IntKind.wrap_u8]; omega))) ?_)
set_option maxHeartbeats 1000000 in
set_option maxRecDepth 100000 in
theorem put_4 (n : Nat) (w : World) (hn : n < 256 ^ 4) :
    Calls Try.prog 118 #[.int .u64 n, .int .i64 4] w fun e w' => e = .returned (.tuple #[.string ⟨(be 4 n).toArray⟩, .bool true]) ∧ Below w.heap.size w w' := by
  simp only [Nat.reducePow] at hn
  have hx : ((n : Int) / 4294967296 != 0) = false := by simp; omega
  go_enter Try.func118, Try.ntmps118
  go_wp2_with fail
  go_rounds 9
  rw [conv_block _ 70 5 9 Try.underlying70 Try.underlying5 Try.underlying9 _ _ 4 4 4 (by
    intro i hi
    simp only [List.drop_succ_cons, List.drop_zero, List.take_succ_cons, List.take_zero, List.map_cons, List.map_nil, intOf]
    rcases i with _ | _ | _ | _ | _ | _ | _ | _ | i
    all_goals first | rfl | omega) (by simp)]
  simp only [Result.andThen]
  rw [Oper.upon_value]
  go_wp2
  go_ret2
  refine ⟨ret_str2 (str_same ?_), (Below.refl _ _).alloc (Nat.le_refl _) _⟩
  simp only [be, List.nil_append, List.cons_append, List.drop_succ_cons, List.drop_zero, List.take_succ_cons, List.take_zero, List.map_cons, List.map_nil, intOf]

  repeat (first | rfl | refine cons_same (u8_same (by first | omega | (simp only [IntKind.wrap_u8]; omega))) ?_)
set_option maxHeartbeats 1000000 in
set_option maxRecDepth 100000 in
theorem put_8 (n : Nat) (w : World) (hn : n < 256 ^ 8) :
    Calls Try.prog 118 #[.int .u64 n, .int .i64 8] w fun e w' => e = .returned (.tuple #[.string ⟨(be 8 n).toArray⟩, .bool true]) ∧ Below w.heap.size w w' := by
  simp only [Nat.reducePow] at hn
  go_enter Try.func118, Try.ntmps118
  go_wp2_with fail
  go_rounds 9
  rw [conv_block _ 70 5 9 Try.underlying70 Try.underlying5 Try.underlying9 _ _ 0 8 8 (by
    intro i hi
    simp only [List.drop_succ_cons, List.drop_zero, List.take_succ_cons, List.take_zero, List.map_cons, List.map_nil, intOf]
    rcases i with _ | _ | _ | _ | _ | _ | _ | _ | i
    all_goals first | rfl | omega) (by simp)]
  simp only [Result.andThen]
  rw [Oper.upon_value]
  go_wp2
  go_ret2
  refine ⟨ret_str2 (str_same ?_), (Below.refl _ _).alloc (Nat.le_refl _) _⟩
  simp only [be, List.nil_append, List.cons_append, List.drop_succ_cons, List.drop_zero, List.take_succ_cons, List.take_zero, List.map_cons, List.map_nil, intOf]

  repeat (first | rfl | refine cons_same (u8_same (by first | omega | (simp only [IntKind.wrap_u8]; omega))) ?_)
theorem cut_yes (s : ByteArray) (a n : Nat) (w : World) (hs : s.size ≤ maxLen) (h : a + n ≤ s.size) :
    Calls Try.prog 108 #[.string s, .int .i64 a, .int .i64 n] w fun e w' => e = .returned (.tuple #[.string (s.extract a (a + n)), .bool true]) ∧ w = w' := by
  unfold maxLen at hs
  go_enter Try.func108, Try.ntmps108
  go_wp2
  go_ret2
  exact ⟨rfl, rfl⟩
theorem cut_no (s : ByteArray) (a n : Int) (w : World) (hs : s.size ≤ maxLen) (h : a < 0 ∨ n < 0 ∨ (s.size : Int) < a + n) (ha : a ≤ 9223372036854775807) (hn : n ≤ 9223372036854775807) :
    Calls Try.prog 108 #[.string s, .int .i64 a, .int .i64 n] w fun e w' => e = .returned (.tuple #[.string ⟨#[]⟩, .bool false]) ∧ w = w' := by
  unfold maxLen at hs
  by_cases h1 : a < 0
  · go_enter Try.func108, Try.ntmps108
    go_wp2
    go_ret2
    exact ⟨rfl, rfl⟩
  · by_cases h2 : n < 0
    · go_enter Try.func108, Try.ntmps108
      go_wp2
      go_ret2
      exact ⟨rfl, rfl⟩
    · by_cases h3 : (s.size : Int) < a
      · go_enter Try.func108, Try.ntmps108
        go_wp2
        go_ret2
        exact ⟨rfl, rfl⟩
      · have h4 : (s.size : Int) - a < n := by omega
        clear h
        go_enter Try.func108, Try.ntmps108
        go_wp2
        go_ret2
        exact ⟨rfl, rfl⟩
end Go.Proofs.Ytienlhnbmobinaa
namespace Go.Proofs.Ytienlhnbmobinaa
open Go.RowKit
set_option linter.unusedVariables false
set_option linter.unusedSimpArgs false
/-- '[]byte(s)': a new row that holds the bytes; nothing that was there is changed. -/
theorem upon_bytes {P : Program} {o : Oper} {a : Act} {K : Act → World → Prop} {Q : Exit → Act → World → Prop} (w : World) (src dst e : TypeId) (s : ByteArray)
    (hs : P.underlying src = some .string) (hd : P.underlying dst = some (.slice e)) (he : P.underlying e = some (.int .u8))
    (h : ∀ (W : World) (cap : Nat), Below w.heap.size w W → W.heap.size = w.heap.size + 1 → (∀ i (hi : i < s.size), W.cell? ⟨w.heap.size, i, none⟩ = some (.int .u8 (s[i].toNat : Int))) →
      K (a.put o.dst (.slice (some ⟨w.heap.size, 0, none⟩) s.size cap)) W) :
    o.upon P a K Q (((convert src dst (.string s)).run P w).andThen fun v w' => .ok (.value v) w') := by
  rw [run_bytes_of_string w src dst e s hs hd he]
  simp only [Result.andThen]
  rw [Oper.upon_value]
  refine h _ _ ((Below.refl _ _).drew.alloc (Nat.le_refl _) _) (by simp) (fun i hi => ?_)
  rw [show w.heap.size = w.drew.heap.size from rfl, World.cell?_alloc_mark, bytesRow_at s _ i hi]
  rfl
theorem extract_get (s : ByteArray) (a n i : Nat) (h : i < (s.extract a (a + n)).size) (h' : a + i < s.size) : (s.extract a (a + n))[i] = s[a + i] := by
  simp [ByteArray.getElem_extract]
theorem take_succ' (l : List UInt8) (k : Nat) (h : k < l.length) : l.take (k + 1) = l.take k ++ [l[k]] := by rw [List.take_succ_eq_append_getElem h]
theorem ret_num2 {k : IntKind} {a b : Int} {v : Value} (h : a = b) : Ending.returned (.tuple #[.int k a, v]) = .returned (.tuple #[.int k b, v]) := by rw [h]
theorem shift_or (x u : Nat) (hx : x < 256 ^ 7) (hu : u < 256) : bits .or .u64 ((x : Int) * 256) (IntKind.u64.wrap (u : Int)) = ((256 * x + u : Nat) : Int) := by
  rw [IntWalk.u64_in _ ⟨by omega, by omega⟩]
  have e : (x : Int) * 256 = ((256 * x : Nat) : Int) := by omega
  have hx' : 256 * x + u < 18446744073709551616 := by
    have : (256 : Nat) ^ 7 = 72057594037927936 := by decide
    omega
  rw [e, u64_or_nat _ _ (by omega) (by omega)]
  have h := Nat.two_pow_add_eq_or_of_lt (i := 8) (b := u) (by simpa using hu) x
  simp only [Nat.reducePow] at h
  rw [← h]
set_option maxHeartbeats 1000000 in
set_option maxRecDepth 100000 in
theorem get_yes (s : ByteArray) (a k : Nat) (w : World) (hs : s.size ≤ maxLen) (h : a + k ≤ s.size) (h1 : 1 ≤ k) (h8 : k ≤ 8) :
    Calls Try.prog 121 #[.string s, .int .i64 a, .int .i64 k] w fun e w' => e = .returned (.tuple #[.int .u64 (un ((s.data.toList.drop a).take k)), .bool true]) ∧ Below w.heap.size w w' := by
  have C := Lib.hid fun W => cut_yes s a k W hs h
  have b1 : decide ((k : Int) < 1) = false := by simp; omega
  have b8 : decide ((8 : Int) < k) = false := by simp; omega
  unfold maxLen at hs
  go_enter Try.func121, Try.ntmps121
  go_wp2_with fail
  refine (C.out _).mono ?_
  rintro e w1 ⟨rfl, rfl⟩
  go_wp2_with fail
  refine upon_bytes _ 9 70 5 _ Try.underlying9 Try.underlying70 Try.underlying5 (fun W cap hb hW hc => ?_)
  go_wp2_with fail
  have hc' : ∀ j, j < k → ∃ u : UInt8, W.cell? ⟨w.heap.size, j, none⟩ = some (.int .u8 (u.toNat : Int)) ∧ ((s.data.toList.drop a).take (j + 1)) = ((s.data.toList.drop a).take j) ++ [u] := by
    intro j hj
    have hx := hc j (by simp; omega)
    have hl : j < (s.data.toList.drop a).length := by simp; omega
    refine ⟨_, hx, ?_⟩
    rw [take_succ' _ _ hl, extract_get s a k j _ (by omega)]
    simp
    rfl
  have Hc := Lib.hid hc'
  clear hc hc' hW
  go_loop [6, 31] (fun n i => ∃ j : Nat, j ≤ k ∧ i = .int .i64 j ∧ n = .int .u64 (un ((s.data.toList.drop a).take j))) (fun _ i => k - (intOf i).toNat)
  case atStart => exact ⟨0, Nat.zero_le _, rfl, rfl⟩
  case round =>
    obtain ⟨j, hj, rfl, rfl⟩ := hrel
    have hlt := un_lt j ((s.data.toList.drop a).take j) (by simp; omega)
    by_cases hjk : j < k
    · obtain ⟨u, hcell, ht⟩ := Hc.out j hjk
      have Ht := Lib.hid ht
      clear ht
      generalize hxe : un ((s.data.toList.drop a).take j) = x at *
      have hxx := Lib.hid hxe
      clear hxe
      have hx : x < 256 ^ 7 := Nat.lt_of_lt_of_le hlt (Nat.pow_le_pow_right (by omega) (by omega))
      clear hlt
      go_wp2
      go_round
      case rel =>
        refine ⟨j + 1, by omega, by go_num, ?_⟩
        rw [shift_or x u.toNat hx u.toNat_lt, Ht.out, un_snoc]
        rw [hxx.out]
      case measure => simp [intOf]; omega
    · obtain rfl : j = k := by omega
      generalize hxx : un ((s.data.toList.drop a).take j) = x at *
      have Hxx := Lib.hid hxx
      clear hxx hlt
      go_wp2
      go_ret2
      exact ⟨ret_num2 (by rw [Hxx.out]), hb⟩
set_option maxHeartbeats 1000000 in
set_option maxRecDepth 100000 in
theorem get_no (s : ByteArray) (a k : Int) (w : World) (hs : s.size ≤ maxLen) (h : a < 0 ∨ k < 0 ∨ (s.size : Int) < a + k) (ha : a ≤ 9223372036854775807) (hk : k ≤ 9223372036854775807) :
    Calls Try.prog 121 #[.string s, .int .i64 a, .int .i64 k] w fun e w' => e = .returned (.tuple #[.int .u64 0, .bool false]) ∧ w = w' := by
  have C := Lib.hid fun W => cut_no s a k W hs h ha hk
  clear h
  unfold maxLen at hs
  go_enter Try.func121, Try.ntmps121
  go_wp2_with fail
  refine (C.out _).mono ?_
  rintro e w1 ⟨rfl, rfl⟩
  go_wp2
  go_ret2
  exact ⟨rfl, rfl⟩
end Go.Proofs.Ytienlhnbmobinaa
end
