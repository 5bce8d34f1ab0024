/- An area's bytes in memory; a number of two bytes is read -/
import Derived.Test.YtlpfilpijiglpaaRows
import Derived.Test.YtlpfilpijiglpaaWordGets
import Derived.Test.YtlpfilpijiglpaaSlotPlain
import Derived.Test.YtlpfilpijiglpaaExt
import Derived.WalkKit
import Derived.WalkLawsBesides
import Derived.WalkSpells
import Derived.LoopTactic
import Derived.WalkMore
import Derived.LoopN
import Derived.Laws.BitsAllLaws
import Derived.Laws.IdiomStrings
import Derived.BigQuiet
import Derived.Deep.QuietTactic
import Derived.Deep.DeepCutAuto
import Derived.Deep.RegionHeld3
import Derived.Deep.DrawnRows
import Derived.Lib.Hide
import Derived.Outline
import Derived.Deep.DeepMust
import Derived.Handy
namespace Go.Proofs.Ytlpfilpijiglpaa
open Go.RowKit
set_option linter.unusedVariables false
set_option linter.unusedSimpArgs false

/-- An area: its block has the row of bytes in another block. -/
structure AreaIn (w : World) (gA gB cap : Nat) (l : List UInt8) : Prop where
  own : w.heap[gA]? = some (.cells #[.slice (some ⟨gB, 0, none⟩) l.length cap] 75 (0, 0))
  row : RowAt w gB l
  ne : gA ≠ gB
theorem i64_or_nat (a b : Nat) (ha : a < 9223372036854775808) (hb : b < 9223372036854775808) : bits .or .i64 (a : Int) (b : Int) = ((a ||| b : Nat) : Int) := by
  have hx : a ||| b < 2 ^ 63 := Nat.or_lt_two_pow (by omega) (by omega)
  show IntKind.i64.wrap ((BitVec.ofInt 64 (a : Int) ||| BitVec.ofInt 64 (b : Int)).toNat : Int) = _
  rw [BitVec.toNat_or, ofInt_u64 a (by omega), ofInt_u64 b (by omega)]
  exact IntWalk.i64_in _ ⟨by omega, by omega⟩

theorem or_i64 (x u : Nat) (hx : x < 256) (hu : u < 256) : bits .or .i64 ((x : Int) * 256) (u : Int) = ((256 * x + u : Nat) : Int) := by
  have e : (x : Int) * 256 = ((256 * x : Nat) : Int) := by omega
  rw [e, i64_or_nat _ _ (by omega) (by omega)]
  have h := Nat.two_pow_add_eq_or_of_lt (i := 8) (b := u) (by simpa using hu) x
  simp only [Nat.reducePow] at h
  rw [← h]

set_option maxHeartbeats 1000000 in
theorem slotGet_any (gA gB cap k : Nat) (l : List UInt8) (w : World) (hk : k + 1 < l.length) (hl : l.length ≤ 100000) (h : AreaIn w gA gB cap l) :
    Calls Try.prog 50 #[.pointer (some ⟨gA, 0, none⟩), .int .i64 k] w fun e w' => e = .returned (.int .i64 (u2 l k)) ∧ Below w.heap.size w w' := by
  have c0 := ext_cell (w := w) (b := gA) (o := 0) (by rw [blk_cell h.own]; rfl) (blk_lt h.own)
  have r0 := ext_cell (h.row.cell k (by omega)) h.row.lt
  have r1 := ext_cell (h.row.cell (k + 1) hk) h.row.lt
  have e0 : l.getD k 0 = l[k] := by simp [List.getD_eq_getElem?_getD, show k < l.length by omega]
  have e1 : l.getD (k + 1) 0 = l[k + 1] := by simp [List.getD_eq_getElem?_getD, hk]
  have hu : u2 l k = 256 * (l[k]'(by omega)).toNat + (l[k + 1]).toNat := by unfold u2; rw [e0, e1]
  have b0 := (l[k]'(by omega)).toNat_lt
  have b1 := (l[k + 1]).toNat_lt
  simp only [Nat.reducePow] at b0 b1
  clear e0 e1 h
  generalize (l[k]'(by omega)).toNat = A at *
  generalize (l[k + 1]).toNat = B at *
  have Hu := Lib.hid hu
  have i1 : (k : Int) < (l.length : Int) := by omega
  have i2 : (k : Int) + 1 < (l.length : Int) := by omega
  have wk : IntKind.i64.wrap ((k : Int) + 1) = ((k + 1 : Nat) : Int) := by rw [show ((k + 1 : Nat) : Int) = (k : Int) + 1 by omega]; exact IntWalk.i64_in _ ⟨by omega, by omega⟩
  have wA : IntKind.i64.wrap (A : Int) = A := IntWalk.i64_in _ ⟨by omega, by omega⟩
  have wB : IntKind.i64.wrap (B : Int) = B := IntWalk.i64_in _ ⟨by omega, by omega⟩
  clear hu
  go_enter Try.func50, Try.ntmps50
  go_upto_region 1 with fail
  refine wp_region_ext w.heap.size (by kernel_rfl) (by kernel_rfl) ?_
  repeat (go_big_quiet_step (fail))
  refine wpQuiet_nil ?_
  rintro _ ⟨X, rfl⟩
  go_wp2_with fail
  go_ret
  exact ⟨ret_int (by rw [or_i64 A B b0 b1, Hu.out]), X.below⟩

end Go.Proofs.Ytlpfilpijiglpaa
