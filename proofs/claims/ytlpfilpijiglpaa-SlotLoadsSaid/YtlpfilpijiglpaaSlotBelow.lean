/- An area is written: below -/
import Derived.Test.YtlpfilpijiglpaaRows
import Derived.Test.YtlpfilpijiglpaaSlotWrites
import Derived.WalkKit
import Derived.WalkLawsBesides
import Derived.WalkSpells
import Derived.LoopTactic
import Derived.WalkMore
import Derived.LoopN
import Derived.Laws.BitsAllLaws
import Derived.Laws.IdiomStrings
import Derived.BigQuiet
import Derived.Deep.QuietTactic
import Derived.Deep.DeepCutAuto
import Derived.Deep.RegionHeld3
import Derived.Deep.DrawnRows
import Derived.Lib.Hide
import Derived.Outline
import Derived.Deep.DeepMust
import Derived.Handy
namespace Go.Proofs.Ytlpfilpijiglpaa
open Go.RowKit
set_option linter.unusedVariables false
set_option linter.unusedSimpArgs false

set_option maxHeartbeats 1000000 in
set_option maxRecDepth 100000 in
theorem slotBelow_any (gA gB cap : Nat) (l : List UInt8) (s : ByteArray) (w : World) (hk : 4 ≤ l.length) (hl : l.length ≤ 100000) (hc : l.length ≤ cap) (hs : s.size ≤ u2 l 2) (hlow : u2 l 2 ≤ l.length) (h : AreaIn w gA gB cap l) :
    Calls Try.prog 46 #[.pointer (some ⟨gA, 0, none⟩), .string s] w fun e w' => e = .returned (.int .i64 ((u2 l 2 - s.size : Nat) : Int)) ∧ AreaIn w' gA gB cap (belowL l s.data.toList) ∧ w.grownBy w' (some gB) := by
  have b2 := u2_lt l 2
  have hsl : s.data.toList.length = s.size := by simp
  have G := Lib.hid fun W hW => slotGet_any gA gB cap 2 l W (by omega) hl hW
  have T0 := fun W hW => slotTwo_any gA gB cap 2 (u2 l 2 - s.size) (putAt l (u2 l 2 - s.size) s.data.toList) W (by rw [putAt_len (by omega)]; omega) (by rw [putAt_len (by omega)]; omega) (by rw [putAt_len (by omega)]; omega) (by omega) hW
  have H := Lib.hid h
  have hS : Hid (belowL l s.data.toList = setTwo (putAt l (u2 l 2 - s.size) s.data.toList) 2 (u2 l 2 - s.size)) := by show _ = _; unfold belowL; rw [hsl]
  have hP : Hid (putAt l (u2 l 2 - s.size) s.data.toList = l.take (u2 l 2 - s.size) ++ s.data.toList ++ l.drop (u2 l 2 - s.size + s.size)) := by show _ = _; unfold putAt; rw [hsl]
  obtain ⟨low, hlw⟩ : ∃ x, x = u2 l 2 - s.size := ⟨_, rfl⟩
  have he : (u2 l 2 : Int) - (s.size : Int) = (low : Int) := by omega
  rw [← hlw] at T0 hS hP ⊢
  have hfit : low + s.size ≤ l.length := by omega
  have hpl : (putAt l low s.data.toList).length = l.length := putAt_len (by omega)
  have T := Lib.hid T0
  have HPL := Lib.hid hpl
  clear h T0 hlw hpl
  generalize u2 l 2 = L2 at *
  have wlow : IntKind.i64.wrap (low : Int) = low := IntWalk.i64_in _ ⟨by omega, by omega⟩
  have s1 : (low : Int) ≤ (l.length : Int) := by omega
  go_enter Try.func46, Try.ntmps46
  go_wp2_with fail
  refine (G.out _ H.out).mono ?_
  rintro e w1 ⟨rfl, h1⟩
  have c0 := blk_cell (H.out.below h1).own 0
  have HA := Lib.hid (H.out.below h1)
  go_wp2_with fail
  · have z0 : s.size = 0 := by omega
    have z1 : s.data.toList = [] := List.length_eq_zero_iff.1 (by omega)
    refine upon_copy (k := 0) HA.out.row 38 9 _ 5 s Try.underlying38 (by kernel_rfl) (by omega) (by omega) (fun W hr hg => ?_)
    have hr' : RowAt W gB (putAt l low s.data.toList) := by
      rw [z1, putAt_nil]
      rw [z1, z0] at hr
      simpa using hr
    go_wp2_with fail
    refine (T.out _ (HA.out.grown hg hr' HPL.out)).mono ?_
    rintro e w2 ⟨rfl, h2, g2⟩
    go_wp2_with fail
    go_ret
    exact ⟨rfl, by rw [hS.out]; exact h2, grown_trans (grown_step h1 hg) g2⟩
  · refine upon_copy HA.out.row 38 9 _ 5 s Try.underlying38 (by kernel_rfl) (by omega) (by omega) (fun W hr hg => ?_)
    have hr' : RowAt W gB (putAt l low s.data.toList) := by rw [hP.out]; exact hr
    go_wp2_with fail
    refine (T.out _ (HA.out.grown hg hr' HPL.out)).mono ?_
    rintro e w2 ⟨rfl, h2, g2⟩
    go_wp2_with fail
    go_ret
    exact ⟨rfl, by rw [hS.out]; exact h2, grown_trans (grown_step h1 hg) g2⟩

end Go.Proofs.Ytlpfilpijiglpaa
