/- An area's numbers: Len, Gap, entry, there -/
import Derived.Test.YtlpfilpijiglpaaRows
import Derived.Test.YtlpfilpijiglpaaSlotGet
import Derived.WalkKit
import Derived.WalkLawsBesides
import Derived.WalkSpells
import Derived.LoopTactic
import Derived.WalkMore
import Derived.LoopN
import Derived.Laws.BitsAllLaws
import Derived.Laws.IdiomStrings
import Derived.BigQuiet
import Derived.Deep.QuietTactic
import Derived.Deep.DeepCutAuto
import Derived.Deep.RegionHeld3
import Derived.Deep.DrawnRows
import Derived.Lib.Hide
import Derived.Outline
import Derived.Deep.DeepMust
import Derived.Handy
namespace Go.Proofs.Ytlpfilpijiglpaa
open Go.RowKit
set_option linter.unusedVariables false
set_option linter.unusedSimpArgs false

theorem AreaIn.below {w w' : World} {gA gB cap : Nat} {l : List UInt8} (h : AreaIn w gA gB cap l) (hb : Below w.heap.size w w') : AreaIn w' gA gB cap l :=
  ⟨(hb.block _ (blk_lt h.own)).trans h.own, h.row.below hb, h.ne⟩

theorem slotNone_nil (w : World) : Calls Try.prog 45 #[.pointer none] w fun e w' => e = .returned (.bool true) ∧ Below w.heap.size w w' := by
  go_enter Try.func45, Try.ntmps45
  go_wp2_with fail
  go_ret
  exact ⟨rfl, Below.refl _ _⟩

theorem slotNone_any (gA gB cap : Nat) (l : List UInt8) (w : World) (hl : 0 < l.length) (h : AreaIn w gA gB cap l) :
    Calls Try.prog 45 #[.pointer (some ⟨gA, 0, none⟩)] w fun e w' => e = .returned (.bool false) ∧ Below w.heap.size w w' := by
  have c0 := blk_cell h.own 0
  have e0 : ((l.length : Int) == 0) = false := by rw [beq_eq_false_iff_ne]; omega
  have e1 : ¬ l = [] := by intro h0; rw [h0] at hl; simp at hl
  clear h
  go_enter Try.func45, Try.ntmps45
  go_wp2_with fail
  go_ret
  exact ⟨rfl, Below.refl _ _⟩

set_option maxHeartbeats 1000000 in
theorem slotLen_any (gA gB cap : Nat) (l : List UInt8) (w : World) (hk : 4 ≤ l.length) (hl : l.length ≤ 100000) (h : AreaIn w gA gB cap l) :
    Calls Try.prog 18 #[.pointer (some ⟨gA, 0, none⟩)] w fun e w' => e = .returned (.int .i64 (u2 l 0)) ∧ Below w.heap.size w w' := by
  have N := Lib.hid fun W hW => slotNone_any gA gB cap l W (by omega) hW
  have G := Lib.hid fun W hW => slotGet_any gA gB cap 0 l W (by omega) hl hW
  have H := Lib.hid h
  clear h
  go_enter Try.func18, Try.ntmps18
  go_wp2_with fail
  refine (N.out _ H.out).mono ?_
  rintro e w1 ⟨rfl, h1⟩
  go_wp2_with fail
  refine (G.out _ (H.out.below h1)).mono ?_
  rintro e w2 ⟨rfl, h2⟩
  have hb := h1.trans (h2.mono h1.size)
  go_wp2_with fail
  go_ret
  exact ⟨rfl, hb⟩

set_option maxHeartbeats 1000000 in
theorem slotEntry_any (gA gB cap k : Nat) (l : List UInt8) (w : World) (hk : 8 + 4 * k ≤ l.length) (hl : l.length ≤ 100000) (h : AreaIn w gA gB cap l) :
    Calls Try.prog 52 #[.pointer (some ⟨gA, 0, none⟩), .int .i64 k] w fun e w' => e = .returned (.tuple #[.int .i64 (u2 l (4 + 4 * k)), .int .i64 (u2 l (6 + 4 * k))]) ∧ Below w.heap.size w w' := by
  have G1 := Lib.hid fun W hW => slotGet_any gA gB cap (4 + 4 * k) l W (by omega) hl hW
  have G2 := Lib.hid fun W hW => slotGet_any gA gB cap (6 + 4 * k) l W (by omega) hl hW
  have H := Lib.hid h
  have e1 : IntKind.i64.wrap (4 * (k : Int)) = 4 * (k : Int) := IntWalk.i64_in _ ⟨by omega, by omega⟩
  have e2 : IntKind.i64.wrap (4 + 4 * (k : Int)) = ((4 + 4 * k : Nat) : Int) := by rw [show ((4 + 4 * k : Nat) : Int) = 4 + 4 * (k : Int) by omega]; exact IntWalk.i64_in _ ⟨by omega, by omega⟩
  have e3 : IntKind.i64.wrap (((4 + 4 * k : Nat) : Int) + 2) = ((6 + 4 * k : Nat) : Int) := by rw [show ((6 + 4 * k : Nat) : Int) = ((4 + 4 * k : Nat) : Int) + 2 by omega]; exact IntWalk.i64_in _ ⟨by omega, by omega⟩
  clear h
  generalize 4 + 4 * k = K1 at *
  generalize 6 + 4 * k = K2 at *
  go_enter Try.func52, Try.ntmps52
  go_wp2_with fail
  refine (G1.out _ H.out).mono ?_
  rintro e w1 ⟨rfl, h1⟩
  go_wp2_with fail
  refine (G2.out _ (H.out.below h1)).mono ?_
  rintro e w2 ⟨rfl, h2⟩
  have hb := h1.trans (h2.mono h1.size)
  go_wp2_with fail
  go_ret2
  exact ⟨rfl, hb⟩

set_option maxHeartbeats 1000000 in
theorem slotGap_any (gA gB cap : Nat) (l : List UInt8) (w : World) (hk : 4 ≤ l.length) (hl : l.length ≤ 100000) (h : AreaIn w gA gB cap l) :
    Calls Try.prog 21 #[.pointer (some ⟨gA, 0, none⟩)] w fun e w' => e = .returned (.int .i64 ((u2 l 2 : Int) - 4 - 4 * (u2 l 0 : Int))) ∧ Below w.heap.size w w' := by
  have N := Lib.hid fun W hW => slotNone_any gA gB cap l W (by omega) hW
  have G := Lib.hid fun W hW => slotGet_any gA gB cap 2 l W (by omega) hl hW
  have L := Lib.hid fun W hW => slotLen_any gA gB cap l W hk hl hW
  have H := Lib.hid h
  have b0 := u2_lt l 0
  have b2 := u2_lt l 2
  have e1 : IntKind.i64.wrap (4 * (u2 l 0 : Int)) = 4 * (u2 l 0 : Int) := IntWalk.i64_in _ ⟨by omega, by omega⟩
  have e2 : IntKind.i64.wrap ((u2 l 2 : Int) - 4) = (u2 l 2 : Int) - 4 := IntWalk.i64_in _ ⟨by omega, by omega⟩
  have e3 : IntKind.i64.wrap ((u2 l 2 : Int) - 4 - 4 * (u2 l 0 : Int)) = (u2 l 2 : Int) - 4 - 4 * (u2 l 0 : Int) := IntWalk.i64_in _ ⟨by omega, by omega⟩
  clear h
  go_enter Try.func21, Try.ntmps21
  go_wp2_with fail
  refine (N.out _ H.out).mono ?_
  rintro e w1 ⟨rfl, h1⟩
  go_wp2_with fail
  refine (G.out _ (H.out.below h1)).mono ?_
  rintro e w2 ⟨rfl, h2⟩
  have hb := h1.trans (h2.mono h1.size)
  go_wp2_with fail
  refine (L.out _ (H.out.below hb)).mono ?_
  rintro e w3 ⟨rfl, h3⟩
  have hb := hb.trans (h3.mono hb.size)
  go_wp2_with fail
  go_ret
  exact ⟨rfl, hb⟩

/-- What is asked of a text: 0 there, 3 none. -/
theorem slotThere_any (gA gB cap : Nat) (at_ : Int) (l : List UInt8) (w : World) (hk : 4 ≤ l.length) (hl : l.length ≤ 100000) (h : AreaIn w gA gB cap l) :
    Calls Try.prog 49 #[.pointer (some ⟨gA, 0, none⟩), .int .i64 at_] w fun e w' => e = .returned (.int .i64 (if 0 ≤ at_ ∧ at_ < (u2 l 0 : Int) then 0 else 3)) ∧ Below w.heap.size w w' := by
  have N := Lib.hid fun W hW => slotNone_any gA gB cap l W (by omega) hW
  have L := Lib.hid fun W hW => slotLen_any gA gB cap l W hk hl hW
  have H := Lib.hid h
  clear h
  by_cases h0 : 0 ≤ at_
  · by_cases h1 : at_ < (u2 l 0 : Int)
    · rw [if_pos ⟨h0, h1⟩]
      go_enter Try.func49, Try.ntmps49
      go_wp2_with fail
      refine (N.out _ H.out).mono ?_
      rintro e w1 ⟨rfl, hw1⟩
      go_wp2_with fail
      refine (L.out _ (H.out.below hw1)).mono ?_
      rintro e w2 ⟨rfl, hw2⟩
      have hb := hw1.trans (hw2.mono hw1.size)
      go_wp2_with fail
      go_ret
      exact ⟨rfl, hb⟩
    · rw [if_neg (fun hh => h1 hh.2)]
      go_enter Try.func49, Try.ntmps49
      go_wp2_with fail
      refine (N.out _ H.out).mono ?_
      rintro e w1 ⟨rfl, hw1⟩
      go_wp2_with fail
      refine (L.out _ (H.out.below hw1)).mono ?_
      rintro e w2 ⟨rfl, hw2⟩
      have hb := hw1.trans (hw2.mono hw1.size)
      go_wp2_with fail
      go_ret
      exact ⟨rfl, hb⟩
  · rw [if_neg (fun hh => h0 hh.1)]
    go_enter Try.func49, Try.ntmps49
    go_wp2_with fail
    refine (N.out _ H.out).mono ?_
    rintro e w1 ⟨rfl, hw1⟩
    go_wp2_with fail
    go_ret
    exact ⟨rfl, hw1⟩

end Go.Proofs.Ytlpfilpijiglpaa
