/- Both areas say the same. -/
import Derived.Test.YtlpfilpijiglpaaRows
import Derived.Test.YtlpfilpijiglpaaRefDoes
import Derived.Test.YtlpfilpijiglpaaSlotLaw
import Derived.Test.YtlpfilpijiglpaaSlotSet
import Derived.Test.YtlpfilpijiglpaaSlotCompact
import Derived.Test.YtlpfilpijiglpaaSlotRemove
import Derived.Test.YtlpfilpijiglpaaSlotPut
import Derived.Test.YtlpfilpijiglpaaAppAny
import Derived.Test.YtlpfilpijiglpaaQuietTail
import Derived.Deep.LoopGhost
import Derived.WalkKit
import Derived.WalkLawsBesides
import Derived.WalkSpells
import Derived.LoopTactic
import Derived.WalkMore
import Derived.LoopN
import Derived.Laws.BitsAllLaws
import Derived.Laws.IdiomStrings
import Derived.BigQuiet
import Derived.Deep.QuietTactic
import Derived.Deep.DeepCutAuto
import Derived.Deep.RegionHeld3
import Derived.Deep.DrawnRows
import Derived.Lib.Hide
import Derived.Outline
import Derived.Deep.DeepMust
import Derived.Handy
namespace Go.Proofs.Ytlpfilpijiglpaa
open Go.RowKit
set_option linter.unusedVariables false
set_option linter.unusedSimpArgs false

set_option maxHeartbeats 4000000 in
set_option maxRecDepth 100000 in
theorem same_any (B0 gA gC capA g gB cap : Nat) (v : Value) (a : Ar) (w : World) (h : Both B0 gA gC capA g gB cap v a w) :
    Calls Try.prog 28 #[.pointer (some ⟨gA, 0, none⟩), .pointer (some ⟨g, 0, none⟩)] w fun e w' => e = .returned (.bool true) ∧ Below w.heap.size w w' := by
  have hG := h.good
  have hf := hG.fit
  have hn := hf.n
  have PB := Lib.hid fun W (hW : ArAt W gA gC capA a) => bytesA gA gC capA a W hf hW
  have PL := Lib.hid fun W (hW : ArAt W gA gC capA a) => lenA gA gC capA a W hf hW
  have PF := Lib.hid fun W (hW : ArAt W gA gC capA a) => freeA gA gC capA a W hG hW
  have PG := Lib.hid fun W (hW : ArAt W gA gC capA a) => gapA gA gC capA a W hf hW
  have RB := Lib.hid fun W (hW : RefAt W g gB cap v a) => refBytes_any g gB cap v a W hG hW
  have RF := Lib.hid fun W (hW : RefAt W g gB cap v a) => refFree_any g gB cap v a W hG hW
  have RG := Lib.hid fun W (hW : RefAt W g gB cap v a) => refGap_any g gB cap v a W hf hW
  have GY := Lib.hid fun k (hk : k < a.L.length) W (hW : ArAt W gA gC capA a) => getA_yes gA gC capA k a W hG hk hW
  have TY := Lib.hid fun k (hk : k < a.L.length) W (hW : RefAt W g gB cap v a) => refText_any g gB cap k v a W hG hk hW
  have GN := Lib.hid fun (k : Int) (hk : ¬ (0 ≤ k ∧ k < (a.L.length : Int))) W (hW : ArAt W gA gC capA a) => getA_no gA gC capA k a W hf hk hW
  have c2 := h.ref.c2
  obtain ⟨b, cp, rfl, hcp, hcm, _⟩ := dir_form h.ref.dir
  unfold maxLen at hcm
  have e2 := ext_cell c2 (cell_lt c2)
  have H := Lib.hid h
  clear h c2
  generalize (⟨a.enc.toArray⟩ : ByteArray) = X at *
  go_enter Try.func28, Try.ntmps28
  go_wp2_with fail
  refine wp_region_ext w.heap.size (by kernel_rfl) (by kernel_rfl) ?_
  repeat (go_big_quiet_step (first
    | (go_at_call 24; exact ext_call _ (Nat.le_refl _) (PB.out _ (H.out.prog.below (Ext.below _))))
    | (go_at_call 18; exact ext_call _ (Nat.le_refl _) (PL.out _ (H.out.prog.below (Ext.below _))))
    | (go_at_call 20; exact ext_call _ (Nat.le_refl _) (PF.out _ (H.out.prog.below (Ext.below _))))
    | (go_at_call 21; exact ext_call _ (Nat.le_refl _) (PG.out _ (H.out.prog.below (Ext.below _))))
    | (go_at_call 60; exact ext_call _ (Nat.le_refl _) (RB.out _ (H.out.ref.below (Ext.below _))))
    | (go_at_call 61; exact ext_call _ (Nat.le_refl _) (RF.out _ (H.out.ref.below (Ext.below _))))
    | (go_at_call 62; exact ext_call _ (Nat.le_refl _) (RG.out _ (H.out.ref.below (Ext.below _))))))
  refine wpQuiet_nil ?_
  rintro _ ⟨X2, rfl⟩
  have hX := X2.below
  generalize X2.val = wx at hX
  have HX := Lib.hid hX
  clear hX e2
  go_wp2_with fail
  go_loopw [5] (fun s5 wr => ∃ i : Nat, i ≤ a.L.length ∧ s5 = .int .i64 i ∧ Below w.heap.size w wr) (fun i _ => a.L.length - (intOf i).toNat)
  case atStart => exact ⟨0, Nat.zero_le _, rfl, HX.out⟩
  case round =>
    obtain ⟨i, hi, rfl, hB⟩ := hrel
    have HB := Lib.hid hB
    have c2 := (H.out.ref.below hB).c2
    have c2' := fun W (hW : Below wr.heap.size wr W) => ((H.out.ref.below hB).below hW).c2
    have C2 := Lib.hid c2'
    clear hB c2' HX
    by_cases hc : i < a.L.length
    · have g1 := Lib.hid (GY.out i hc)
      have t1 := Lib.hid (TY.out i hc)
      generalize (⟨(a.text a.L[i]).toArray⟩ : ByteArray) = T at *
      go_wp2_with fail
      refine (g1.out _ (H.out.prog.below HB.out)).mono ?_
      rintro e w1 ⟨rfl, h1⟩
      have HB1 := Lib.hid (below_then HB.out h1)
      clear h1 c2
      go_wp2_with fail
      refine (t1.out _ (H.out.ref.below HB1.out)).mono ?_
      rintro e w2 ⟨rfl, h2⟩
      have HB2 := Lib.hid (below_then HB1.out h2)
      clear h2
      go_wp2_with fail
      go_roundw
      case rel => exact ⟨i + 1, by omega, by go_num, HB2.out⟩
      case measure => simp [intOf]; omega
    · obtain rfl : i = a.L.length := by omega
      have g1 := Lib.hid (GN.out (a.L.length : Int) (by omega))
      have g2 := Lib.hid (GN.out (-1 : Int) (by omega))
      go_wp2_with fail
      refine (g1.out _ (H.out.prog.below HB.out)).mono ?_
      rintro e w1 ⟨rfl, h1⟩
      have HB1 := Lib.hid (below_then HB.out h1)
      clear h1 c2
      go_wp2_with fail
      refine (g2.out _ (H.out.prog.below HB1.out)).mono ?_
      rintro e w2 ⟨rfl, h2⟩
      have HB2 := Lib.hid (below_then HB1.out h2)
      clear h2
      go_wp2_with fail
      go_ret
      exact ⟨rfl, HB2.out⟩

end Go.Proofs.Ytlpfilpijiglpaa
