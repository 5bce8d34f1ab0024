/- Some answers that the document fixes -/
import Derived.Test.YtlpfilpijiglpaaRows
import Derived.Test.YtlpfilpijiglpaaSlotPut
import Derived.Test.YtlpfilpijiglpaaSlotSet
import Derived.Test.YtlpfilpijiglpaaSlotRemove
import Derived.Test.YtlpfilpijiglpaaSlotLoad
import Derived.Test.YtlpfilpijiglpaaSlotLaw
import Derived.WalkKit
import Derived.WalkLawsBesides
import Derived.WalkSpells
import Derived.LoopTactic
import Derived.WalkMore
import Derived.LoopN
import Derived.Laws.BitsAllLaws
import Derived.Laws.IdiomStrings
import Derived.BigQuiet
import Derived.Deep.QuietTactic
import Derived.Deep.DeepCutAuto
import Derived.Deep.RegionHeld3
import Derived.Deep.DrawnRows
import Derived.Lib.Hide
import Derived.Outline
import Derived.Deep.DeepMust
import Derived.Handy
namespace Go.Proofs.Ytlpfilpijiglpaa
open Go.RowKit
set_option linter.unusedVariables false
set_option linter.unusedSimpArgs false

theorem newA (n : Nat) (w : World) (h1 : 16 ≤ n) (h2 : n ≤ 4096) :
    Calls Try.prog 15 #[.int .i64 n] w fun e w' => ∃ gA gB, e = .returned (.tuple #[.pointer (some ⟨gA, 0, none⟩), .int .i64 0]) ∧ w.heap.size ≤ gA ∧ w.heap.size ≤ gB ∧ ArAt w' gA gB n (Ar.new n) ∧ Below w.heap.size w w' := by
  refine (slotNew_yes n w h1 h2).mono ?_
  rintro e w' ⟨gA, gB, he, hA, hB, hArea, hbel⟩
  rw [Ar.enc_new n (by omega)] at hArea
  exact ⟨gA, gB, he, hA, hB, ⟨hArea, by simp [Ar.new]⟩, hbel⟩
theorem below_grown {w w1 w2 : World} {g : Nat} (h : Below w.heap.size w w1) (hg : w1.grownBy w2 (some g)) (hb : w.heap.size ≤ g) : Below w.heap.size w w2 :=
  h.grown hg h.size (fun k hk => by injection hk with hk; omega)

set_option maxHeartbeats 4000000 in
set_option maxRecDepth 100000 in
theorem alive_any (w : World) :
    Calls Try.prog 14 #[] w fun e w' => e = .returned (.bool true) ∧ Below w.heap.size w w' := by
  have g0 : (Ar.new 20).Good := Ar.Good.new (by omega) (by omega)
  have g1 := (g0.put (0 : Nat) [97, 98]).1
  have g2 := (g1.set (0 : Nat) [120]).1
  have N := Lib.hid (newA 20 w (by omega) (by omega))
  have a1 := alive_1
  have a2 := alive_2
  have a3 := alive_3
  have a3' : (((Ar.new 20).put (0 : Nat) [97, 98]).1.put (0 : Nat) [49, 50, 51, 52, 53, 54, 55]).1 = ((Ar.new 20).put (0 : Nat) [97, 98]).1 := Ar.Good.put_no _ _ (by rw [a3]; decide)
  have a4 := alive_4
  have a5 := alive_5
  have a6 := alive_6
  have a7 := alive_7
  have P1 := Lib.hid fun gA gB cap W hW => putA gA gB cap (0 : Nat) (Ar.new 20) ⟨#[97, 98]⟩ W g0 (by decide) hW
  rw [show (⟨#[97, 98]⟩ : ByteArray).data.toList = [97, 98] from rfl, a1] at P1
  generalize ((Ar.new 20).put (0 : Nat) [97, 98]).1 = b at *
  have BY := Lib.hid fun gA gB cap W hW => bytesA gA gB cap b W g1.fit hW
  rw [a2] at BY
  have P2 := Lib.hid fun gA gB cap W hW => putA gA gB cap (0 : Nat) b ⟨#[49, 50, 51, 52, 53, 54, 55]⟩ W g1 (by decide) hW
  rw [show (⟨#[49, 50, 51, 52, 53, 54, 55]⟩ : ByteArray).data.toList = [49, 50, 51, 52, 53, 54, 55] from rfl, a3, a3'] at P2
  have S1 := Lib.hid fun gA gB cap W hW => setA gA gB cap (0 : Nat) b ⟨#[120]⟩ W g1 (by decide) hW
  rw [show (⟨#[120]⟩ : ByteArray).data.toList = [120] from rfl, a4] at S1
  generalize (b.set (0 : Nat) [120]).1 = c at *
  have hcl : c.L.length = 1 := by
    have := congrArg List.length a5
    simpa [Ar.texts] using this
  have htx : c.text (c.L[0]'(by omega)) = [120] := by
    have : c.texts[0]? = some [120] := by rw [a5]; rfl
    unfold Ar.texts at this
    rw [List.getElem?_map, List.getElem?_eq_getElem (by omega)] at this
    simpa using this
  have GE := Lib.hid fun gA gB cap W hW => getA_yes gA gB cap 0 c W g2 (by omega) hW
  rw [htx] at GE
  have FR := Lib.hid fun gA gB cap W hW => freeA gA gB cap c W g2 hW
  rw [a6] at FR
  have GP := Lib.hid fun gA gB cap W hW => gapA gA gB cap c W g2.fit hW
  rw [a7] at GP
  have LN := Lib.hid fun gA gB cap W hW => lenA gA gB cap c W g2.fit hW
  rw [hcl] at LN
  have RM := Lib.hid fun gA gB cap W hW => removeA_no gA gB cap 1 c W g2 (by rw [hcl]; omega) hW
  clear g0 g1 g2 a1 a2 a3 a3' a4 a5 a6 a7 hcl htx
  go_enter Try.func14, Try.ntmps14
  go_wp2_with fail
  refine N.out.mono ?_
  rintro e w1 ⟨gA, gB, rfl, hA, hB, ha, hb⟩
  have HA := Lib.hid ha
  have HB := Lib.hid hb
  clear ha hb N
  go_wp2_with fail
  refine (P1.out _ _ _ _ HA.out).mono ?_
  rintro e w2 ⟨rfl, ha, hg⟩
  have HA2 := Lib.hid ha
  have HB2 := Lib.hid (below_grown HB.out hg hB)
  clear ha hg HA HB
  go_wp2_with fail
  refine (BY.out _ _ _ _ HA2.out).mono ?_
  rintro e w3 ⟨rfl, hb⟩
  have HA3 := Lib.hid (HA2.out.below hb)
  have HB3 := Lib.hid (below_then HB2.out hb)
  clear hb HA2 HB2
  go_wp2_with fail
  refine (P2.out _ _ _ _ HA3.out).mono ?_
  rintro e w4 ⟨rfl, ha, hg⟩
  have HA4 := Lib.hid ha
  have HB4 := Lib.hid (below_grown HB3.out hg hB)
  clear ha hg HA3 HB3
  go_wp2_with fail
  refine (S1.out _ _ _ _ HA4.out).mono ?_
  rintro e w5 ⟨rfl, ha, hg⟩
  have HA5 := Lib.hid ha
  have HB5 := Lib.hid (below_grown HB4.out hg hB)
  clear ha hg HA4 HB4
  go_wp2_with fail
  refine (GE.out _ _ _ _ HA5.out).mono ?_
  rintro e w6 ⟨rfl, hb⟩
  have HA6 := Lib.hid (HA5.out.below hb)
  have HB6 := Lib.hid (below_then HB5.out hb)
  clear hb HA5 HB5
  go_wp2_with fail
  refine (FR.out _ _ _ _ HA6.out).mono ?_
  rintro e w7 ⟨rfl, hb⟩
  have HA7 := Lib.hid (HA6.out.below hb)
  have HB7 := Lib.hid (below_then HB6.out hb)
  clear hb HA6 HB6
  go_wp2_with fail
  refine (GP.out _ _ _ _ HA7.out).mono ?_
  rintro e w8 ⟨rfl, hb⟩
  have HA8 := Lib.hid (HA7.out.below hb)
  have HB8 := Lib.hid (below_then HB7.out hb)
  clear hb HA7 HB7
  go_wp2_with fail
  refine (LN.out _ _ _ _ HA8.out).mono ?_
  rintro e w9 ⟨rfl, hb⟩
  have HA9 := Lib.hid (HA8.out.below hb)
  have HB9 := Lib.hid (below_then HB8.out hb)
  clear hb HA8 HB8
  go_wp2_with fail
  refine (RM.out _ _ _ _ HA9.out).mono ?_
  rintro e w10 ⟨rfl, hb⟩
  have HB10 := Lib.hid (below_then HB9.out hb)
  clear hb HA9 HB9
  go_wp2_with fail
  go_ret
  exact ⟨rfl, HB10.out⟩

end Go.Proofs.Ytlpfilpijiglpaa
