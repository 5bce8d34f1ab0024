/- An area is written: two, place -/
import Derived.Test.YtlpfilpijiglpaaRows
import Derived.Test.YtlpfilpijiglpaaSlotTexts
import Derived.Test.YtlpfilpijiglpaaCopyText
import Derived.WalkKit
import Derived.WalkLawsBesides
import Derived.WalkSpells
import Derived.LoopTactic
import Derived.WalkMore
import Derived.LoopN
import Derived.Laws.BitsAllLaws
import Derived.Laws.IdiomStrings
import Derived.BigQuiet
import Derived.Deep.QuietTactic
import Derived.Deep.DeepCutAuto
import Derived.Deep.RegionHeld3
import Derived.Deep.DrawnRows
import Derived.Lib.Hide
import Derived.Outline
import Derived.Deep.DeepMust
import Derived.Handy
namespace Go.Proofs.Ytlpfilpijiglpaa
open Go.RowKit
set_option linter.unusedVariables false
set_option linter.unusedSimpArgs false

theorem grown_step {w w1 w2 : World} {g : Nat} (h1 : Below w.heap.size w w1) (h2 : w1.grownBy w2 (some g)) : w.grownBy w2 (some g) := grown_trans (grown_below _ h1) h2
theorem AreaIn.grown {w w' : World} {gA gB cap : Nat} {l l' : List UInt8} (h : AreaIn w gA gB cap l) (hg : w.grownBy w' (some gB)) (hr : RowAt w' gB l') (hl : l'.length = l.length) : AreaIn w' gA gB cap l' :=
  ⟨by rw [hl]; exact (hg.block _ (blk_lt h.own) (by simp; exact h.ne)).trans h.own, hr, h.ne⟩

set_option maxHeartbeats 1000000 in
set_option maxRecDepth 100000 in
theorem slotTwo_any (gA gB cap k n : Nat) (l : List UInt8) (w : World) (hk : k + 2 ≤ l.length) (hl : l.length ≤ 100000) (hc : l.length ≤ cap) (hn : n < 256 ^ 2) (h : AreaIn w gA gB cap l) :
    Calls Try.prog 44 #[.pointer (some ⟨gA, 0, none⟩), .int .i64 k, .int .i64 n] w fun e w' => e = .returned (.tuple #[]) ∧ AreaIn w' gA gB cap (setTwo l k n) ∧ w.grownBy w' (some gB) := by
  have P := Lib.hid fun W => put_2 n W hn
  have z2 := be_str 2 n
  have H := Lib.hid h
  simp only [Nat.reducePow] at hn
  have v1 : IntKind.u64.wrap (n : Int) = n := IntWalk.u64_in _ ⟨by omega, by omega⟩
  have hS : Hid ((⟨(be 2 n).toArray⟩ : ByteArray).data.toList = be 2 n) := rfl
  clear h
  generalize (⟨(be 2 n).toArray⟩ : ByteArray) = X at *
  have HT : Hid (setTwo l k n = l.take k ++ X.data.toList ++ l.drop (k + X.size)) := by show _ = _; unfold setTwo; rw [hS.out, z2]
  go_enter Try.func44, Try.ntmps44
  go_wp2_with fail
  refine (P.out _).mono ?_
  rintro e w1 ⟨rfl, h1⟩
  have c0 := blk_cell (H.out.below h1).own 0
  have HA := Lib.hid (H.out.below h1)
  go_wp2_with fail
  refine upon_copy HA.out.row 38 9 _ 5 X Try.underlying38 (by kernel_rfl) (by omega) (by omega) (fun W hr hg => ?_)
  go_wp2_with fail
  go_end0
  refine ⟨rfl, ?_, grown_step h1 hg⟩
  rw [HT.out]
  exact HA.out.grown hg hr (by rw [← HT.out]; exact setTwo_len hk)

set_option maxHeartbeats 1000000 in
set_option maxRecDepth 100000 in
theorem slotPlace_any (gA gB cap k f n : Nat) (l : List UInt8) (w : World) (hk : 8 + 4 * k ≤ l.length) (hl : l.length ≤ 100000) (hc : l.length ≤ cap) (hf : f < 256 ^ 2) (hn : n < 256 ^ 2) (h : AreaIn w gA gB cap l) :
    Calls Try.prog 48 #[.pointer (some ⟨gA, 0, none⟩), .int .i64 k, .int .i64 f, .int .i64 n] w fun e w' => e = .returned (.tuple #[]) ∧ AreaIn w' gA gB cap (setPlace l k f n) ∧ w.grownBy w' (some gB) := by
  have T1 := Lib.hid fun W hW => slotTwo_any gA gB cap (4 + 4 * k) f l W (by omega) hl hc hf hW
  have T2 := Lib.hid fun W hW => slotTwo_any gA gB cap (6 + 4 * k) n (setTwo l (4 + 4 * k) f) W (by rw [setTwo_len (by omega)]; omega) (by rw [setTwo_len (by omega)]; omega) (by rw [setTwo_len (by omega)]; omega) hn hW
  have H := Lib.hid h
  have hS : Hid (setPlace l k f n = setTwo (setTwo l (4 + 4 * k) f) (6 + 4 * k) n) := rfl
  have e1 : IntKind.i64.wrap (4 * (k : Int)) = 4 * (k : Int) := IntWalk.i64_in _ ⟨by omega, by omega⟩
  have e2 : IntKind.i64.wrap (4 + 4 * (k : Int)) = ((4 + 4 * k : Nat) : Int) := by rw [show ((4 + 4 * k : Nat) : Int) = 4 + 4 * (k : Int) by omega]; exact IntWalk.i64_in _ ⟨by omega, by omega⟩
  have e3 : IntKind.i64.wrap (((4 + 4 * k : Nat) : Int) + 2) = ((6 + 4 * k : Nat) : Int) := by rw [show ((6 + 4 * k : Nat) : Int) = ((4 + 4 * k : Nat) : Int) + 2 by omega]; exact IntWalk.i64_in _ ⟨by omega, by omega⟩
  clear h hk hf hn
  generalize 4 + 4 * k = K1 at *
  generalize 6 + 4 * k = K2 at *
  go_enter Try.func48, Try.ntmps48
  go_wp2_with fail
  refine (T1.out _ H.out).mono ?_
  rintro e w1 ⟨rfl, h1, g1⟩
  go_wp2_with fail
  refine (T2.out _ h1).mono ?_
  rintro e w2 ⟨rfl, h2, g2⟩
  go_wp2_with fail
  go_end0
  exact ⟨rfl, by rw [hS.out]; exact h2, grown_trans g1 g2⟩

end Go.Proofs.Ytlpfilpijiglpaa
