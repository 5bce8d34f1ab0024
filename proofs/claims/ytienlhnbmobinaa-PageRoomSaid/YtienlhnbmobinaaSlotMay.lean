/- Whether an area may be -/
import Derived.Test.YtienlhnbmobinaaRows
import Derived.Test.YtienlhnbmobinaaSlotCompact
import Derived.Test.YtienlhnbmobinaaSlotRoot
import Derived.Deep.LoopGhost
import Derived.WalkKit
import Derived.WalkLawsBesides
import Derived.WalkSpells
import Derived.LoopTactic
import Derived.WalkMore
import Derived.LoopN
import Derived.Laws.BitsAllLaws
import Derived.Laws.IdiomStrings
import Derived.BigQuiet
import Derived.Deep.QuietTactic
import Derived.Deep.DeepCutAuto
import Derived.Deep.RegionHeld3
import Derived.Deep.DrawnRows
import Derived.Lib.Hide
import Derived.Outline
import Derived.Deep.DeepMust
import Derived.Handy
namespace Go.Proofs.Ytienlhnbmobinaa
open Go.RowKit
set_option linter.unusedVariables false
set_option linter.unusedSimpArgs false

set_option maxHeartbeats 4000000 in
set_option maxRecDepth 100000 in
theorem may_any (gA gB cap : Nat) (l : List UInt8) (b : Bool) (w : World) (h16 : 16 ≤ l.length) (hmx : l.length ≤ 9223372036854775807) (hb : b = true ↔ (parse l).Good) (h : AreaIn w gA gB cap l) :
    Calls Try.prog 172 #[.pointer (some ⟨gA, 0, none⟩)] w fun e w' => e = .returned (.bool b) ∧ Below w.heap.size w w' := by
  rw [good_parse] at hb
  have c0 := ext_cell (w := w) (b := gA) (o := 0) (by rw [blk_cell h.own]; rfl) (blk_lt h.own)
  have H := Lib.hid h
  clear h
  have i1 : decide ((l.length : Int) < 16) = false := by simp; omega
  by_cases h1 : l.length ≤ 4096
  case neg =>
    have hbf : Hid (b = false) := by
      show _ = _
      cases b
      · rfl
      · exact absurd (hb.1 rfl).2.1 h1
    clear hb
    have i2 : decide (4096 < (l.length : Int)) = true := by simp; omega
    go_enter Try.func172, Try.ntmps172
    go_wp2_with fail
    go_step3
    go_wp2_with fail
    refine wp_region_ext w.heap.size (by kernel_rfl) (by kernel_rfl) ?_
    repeat (go_big_quiet_step (fail))
    refine wpQuiet_nil ?_
    rintro _ ⟨X, rfl⟩
    have hX := Lib.hid X.below
    generalize X.val = wx at hX
    clear c0
    go_wp2_with fail
    try rw [Exit.noGoto_ret]
    go_ret
    exact ⟨by rw [hbf.out]; rfl, hX.out⟩
  have i2 : decide (4096 < (l.length : Int)) = false := by simp; omega
  have GP := Lib.hid fun W hW => slotGap_any gA gB cap l W (by omega) (by omega) hW
  have LW := Lib.hid fun W hW => slotGet_any gA gB cap 2 l W (by omega) (by omega) hW
  have LN := Lib.hid fun W hW => slotLen_any gA gB cap l W (by omega) (by omega) hW
  by_cases h2 : 4 + 4 * u2 l 0 ≤ u2 l 2
  case neg =>
    have hbf : Hid (b = false) := by
      show _ = _
      cases b
      · rfl
      · exact absurd (hb.1 rfl).2.2.1 h2
    clear hb
    have i3 : decide ((u2 l 2 : Int) - 4 - 4 * (u2 l 0 : Int) < 0) = true := by simp; omega
    generalize (u2 l 2 : Int) - 4 - 4 * (u2 l 0 : Int) = G at *
    go_enter Try.func172, Try.ntmps172
    go_wp2_with fail
    go_step3
    go_wp2_with fail
    refine wp_region_ext w.heap.size (by kernel_rfl) (by kernel_rfl) ?_
    repeat (go_big_quiet_step ((go_at_call 159; exact ext_call _ (Nat.le_refl _) (GP.out _ (H.out.below (Ext.below _))))))
    refine wpQuiet_nil ?_
    rintro _ ⟨X, rfl⟩
    have hX := Lib.hid X.below
    generalize X.val = wx at hX
    clear c0
    go_wp2_with fail
    try rw [Exit.noGoto_ret]
    go_ret
    exact ⟨by rw [hbf.out]; rfl, hX.out⟩
  have i3 : decide ((u2 l 2 : Int) - 4 - 4 * (u2 l 0 : Int) < 0) = false := by simp; omega
  by_cases h3 : u2 l 2 ≤ l.length
  case neg =>
    have hbf : Hid (b = false) := by
      show _ = _
      cases b
      · rfl
      · exact absurd (hb.1 rfl).2.2.2.1 h3
    clear hb
    have i4 : decide ((l.length : Int) < (u2 l 2 : Int)) = true := by simp; omega
    generalize (u2 l 2 : Int) - 4 - 4 * (u2 l 0 : Int) = G at *
    go_enter Try.func172, Try.ntmps172
    go_wp2_with fail
    go_step3
    go_wp2_with fail
    refine wp_region_ext w.heap.size (by kernel_rfl) (by kernel_rfl) ?_
    repeat (go_big_quiet_step (first | (go_at_call 159; exact ext_call _ (Nat.le_refl _) (GP.out _ (H.out.below (Ext.below _)))) | (go_at_call 173; exact ext_call _ (Nat.le_refl _) (LW.out _ (H.out.below (Ext.below _))))))
    refine wpQuiet_nil ?_
    rintro _ ⟨X, rfl⟩
    have hX := Lib.hid X.below
    generalize X.val = wx at hX
    clear c0
    go_wp2_with fail
    try rw [Exit.noGoto_ret]
    go_ret
    exact ⟨by rw [hbf.out]; rfl, hX.out⟩
  have i4 : decide ((l.length : Int) < (u2 l 2 : Int)) = false := by simp; omega
  have EN := Lib.hid fun k (hk : k < u2 l 0) W hW => slotEntry_any gA gB cap k l W (by omega) (by omega) hW
  have HB := Lib.hid hb
  have i5 := u2_lt l 2
  have i6 := u2_lt l 0
  have I3 := Lib.hid i3
  clear hb i3
  go_enter Try.func172, Try.ntmps172
  go_wp2_with fail
  go_step3
  go_wp2_with fail
  have i3 := I3.out
  refine wp_region_ext w.heap.size (by kernel_rfl) (by kernel_rfl) ?_
  repeat (go_big_quiet_step (first | (go_at_call 159; exact ext_call _ (Nat.le_refl _) (GP.out _ (H.out.below (Ext.below _)))) | (go_at_call 173; exact ext_call _ (Nat.le_refl _) (LW.out _ (H.out.below (Ext.below _))))))
  refine wpQuiet_nil ?_
  rintro _ ⟨X, rfl⟩
  have HX := Lib.hid X.below
  generalize X.val = wx at HX
  clear c0 i3
  go_wp2_with fail
  go_step3
  go_wp2_with fail
  refine (LN.out _ (H.out.below HX.out)).mono ?_
  rintro e w1 ⟨rfl, hl⟩
  have HX1 := Lib.hid (below_then HX.out hl)
  clear hl HX
  go_wp2_with fail
  go_loopg [3, 41] (u2 l 0) (fun g s3 s41 wr => ∃ i : Nat, i + g = u2 l 0 ∧ s41 = .int .i64 i ∧ s3 = .bool true ∧ Aside (∀ i', i' < i → FineAt l i' ∧ ∀ j, j < i' → ApartAt l i' j) ∧ Below w.heap.size w wr)
  case atStart => exact ⟨0, by omega, rfl, rfl, (fun i' h => absurd h (Nat.not_lt_zero _)), HX1.out⟩
  case round =>
    obtain ⟨i, hig, rfl, rfl, HI, hbr⟩ := hrel
    have HBR := Lib.hid hbr
    clear hbr HX1
    cases gk with
    | zero =>
      have hin : i = u2 l 0 := by omega
      have hbt : Hid (b = true) := by
        show _ = _
        exact HB.out.2 ⟨h16, h1, h2, h3, by rw [← hin]; exact HI.out⟩
      have hlt : ¬ ((i : Int) < (u2 l 0 : Int)) := by omega
      clear hig hin
      go_wp2_with fail
      try rw [Exit.noGoto_ret]
      go_ret
      exact ⟨by rw [hbt.out]; rfl, HBR.out⟩
    | succ g =>
      have hi : i < u2 l 0 := by omega
      have hlt : ((i : Int) < (u2 l 0 : Int)) := by omega
      have EE := Lib.hid (EN.out i hi)
      have hfa : FineAt l i ↔ u2 l 2 ≤ u2 l (4 + 4 * i) ∧ u2 l (4 + 4 * i) + u2 l (6 + 4 * i) ≤ l.length := Iff.rfl
      have HFA := Lib.hid hfa
      have haa : ∀ j, ApartAt l i j ↔ (u2 l (6 + 4 * i) = 0 ∨ u2 l (6 + 4 * j) = 0 ∨ u2 l (4 + 4 * i) + u2 l (6 + 4 * i) ≤ u2 l (4 + 4 * j) ∨ u2 l (4 + 4 * j) + u2 l (6 + 4 * j) ≤ u2 l (4 + 4 * i)) := fun j => Iff.rfl
      have HAA := Lib.hid haa
      clear haa
      have f1 := u2_lt l (4 + 4 * i)
      have f2 := u2_lt l (6 + 4 * i)
      clear hfa
      generalize u2 l (4 + 4 * i) = F at *
      generalize u2 l (6 + 4 * i) = Z at *
      generalize hlow : u2 l 2 = low at *
      generalize hnn : u2 l 0 = n at *
      have Hlow := Lib.hid hlow
      have Hnn := Lib.hid hnn
      have Hig := Lib.hid hig
      clear hlow hnn hig
      have hsum : IntKind.i64.wrap ((F : Int) + (Z : Int)) = (F : Int) + (Z : Int) := IntWalk.i64_in _ ⟨by omega, by omega⟩
      go_wp2_with fail
      refine (EE.out _ (H.out.below HBR.out)).mono ?_
      rintro e w2 ⟨rfl, h4⟩
      have HB2 := Lib.hid (below_then HBR.out h4)
      clear h4
      go_wp2_with fail
      refine (LW.out _ (H.out.below HB2.out)).mono ?_
      rintro e w3 ⟨rfl, h5⟩
      have HB3 := Lib.hid (below_then HB2.out h5)
      have own3 : w3.cell? ⟨gA, 0, none⟩ = some (.slice (some ⟨gB, 0, none⟩) l.length cap) := by rw [blk_cell (H.out.below HB3.out).own]; rfl
      clear h5
      by_cases k1 : low ≤ F
      · have k1' : decide ((low : Int) ≤ (F : Int)) = true := by simp; omega
        by_cases k2 : F + Z ≤ l.length
        case neg =>
          have hbf : Hid (b = false) := by
            show _ = _
            cases b
            · rfl
            · exact absurd ((HB.out.1 rfl).2.2.2.2 i hi).1 (fun h => k2 (HFA.out.1 h).2)
          have k2' : decide ((F : Int) + (Z : Int) ≤ (l.length : Int)) = false := by simp; omega
          go_wp2_with fail
          try rw [Exit.noGoto_ret]
          go_ret
          exact ⟨by rw [hbf.out]; rfl, HB3.out⟩
        have k2' : decide ((F : Int) + (Z : Int) ≤ (l.length : Int)) = true := by simp; omega
        go_wp2_with fail
        clear own3
        go_loopg [3, 68] i (fun g2 s3 s68 wr2 => ∃ j : Nat, j + g2 = i ∧ s68 = .int .i64 j ∧ s3 = .bool true ∧ Aside (∀ j', j' < j → ApartAt l i j') ∧ Below w.heap.size w wr2)
        case atStart => exact ⟨0, by omega, rfl, rfl, (fun j' h => absurd h (Nat.not_lt_zero _)), HB3.out⟩
        case round =>
          obtain ⟨j, hjg, rfl, rfl, HJ, hbr2⟩ := hrel
          have HBR2 := Lib.hid hbr2
          clear hbr2
          cases gk with
          | zero =>
            have hji : j = i := by omega
            have hlt2 : ¬ ((j : Int) < (i : Int)) := by omega
            have HI2 : Aside (∀ i', i' < i + 1 → FineAt l i' ∧ ∀ j, j < i' → ApartAt l i' j) := by
              intro i' h
              by_cases he : i' = i
              · rw [he]
                exact ⟨HFA.out.2 ⟨k1, k2⟩, fun j' hj' => HJ.out j' (by omega)⟩
              · exact HI.out i' (by omega)
            clear hji hjg
            go_wp2_with fail
            go_roundg g
            case measure => omega
            case rel => exact ⟨i + 1, by have := Hig.out; omega, by go_num, rfl, HI2, HBR2.out⟩
          | succ g2 =>
            have hji : j < i := by omega
            have hlt2 : ((j : Int) < (i : Int)) := by omega
            have EJ := Lib.hid (EN.out j (by omega))
            have HAJ := Lib.hid (HAA.out j)
            have f3 := u2_lt l (4 + 4 * j)
            have f4 := u2_lt l (6 + 4 * j)
            generalize u2 l (4 + 4 * j) = F2 at *
            generalize u2 l (6 + 4 * j) = Z2 at *
            have hsum2 : IntKind.i64.wrap ((F2 : Int) + (Z2 : Int)) = (F2 : Int) + (Z2 : Int) := IntWalk.i64_in _ ⟨by omega, by omega⟩
            have Hjg := Lib.hid hjg
            clear hjg
            go_wp2_with fail
            refine (EJ.out _ (H.out.below HBR2.out)).mono ?_
            rintro e w4 ⟨rfl, h6⟩
            have HB4 := Lib.hid (below_then HBR2.out h6)
            clear h6
            have next : ApartAt l i j → Aside (∀ j', j' < j + 1 → ApartAt l i j') := by
              intro hap j' h
              by_cases he : j' = j
              · rw [he]; exact hap
              · exact HJ.out j' (by omega)
            have Next := Lib.hid next
            clear next
            by_cases a1 : Z = 0
            · have HJ2 : Aside (∀ j', j' < j + 1 → ApartAt l i j') := Next.out (HAJ.out.2 (.inl a1))
              have a1' : ((Z : Int) == 0) = true := by simp; omega
              clear a1
              go_wp2_with fail
              go_roundg g2
              case measure => omega
              case rel => exact ⟨j + 1, by have := Hjg.out; omega, by go_num, rfl, HJ2, HB4.out⟩
            have a1' : ((Z : Int) == 0) = false := by simp; omega
            by_cases a2 : Z2 = 0
            · have HJ2 : Aside (∀ j', j' < j + 1 → ApartAt l i j') := Next.out (HAJ.out.2 (.inr (.inl a2)))
              have a2' : ((Z2 : Int) == 0) = true := by simp; omega
              clear a2
              go_wp2_with fail
              go_roundg g2
              case measure => omega
              case rel => exact ⟨j + 1, by have := Hjg.out; omega, by go_num, rfl, HJ2, HB4.out⟩
            have a2' : ((Z2 : Int) == 0) = false := by simp; omega
            by_cases a3 : F + Z ≤ F2
            · have HJ2 : Aside (∀ j', j' < j + 1 → ApartAt l i j') := Next.out (HAJ.out.2 (.inr (.inr (.inl a3))))
              have a3' : decide ((F : Int) + (Z : Int) ≤ (F2 : Int)) = true := by simp; omega
              go_wp2_with fail
              go_roundg g2
              case measure => omega
              case rel => exact ⟨j + 1, by have := Hjg.out; omega, by go_num, rfl, HJ2, HB4.out⟩
            have a3' : decide ((F : Int) + (Z : Int) ≤ (F2 : Int)) = false := by simp; omega
            by_cases a4 : F2 + Z2 ≤ F
            · have HJ2 : Aside (∀ j', j' < j + 1 → ApartAt l i j') := Next.out (HAJ.out.2 (.inr (.inr (.inr a4))))
              have a4' : decide ((F2 : Int) + (Z2 : Int) ≤ (F : Int)) = true := by simp; omega
              go_wp2_with fail
              go_roundg g2
              case measure => omega
              case rel => exact ⟨j + 1, by have := Hjg.out; omega, by go_num, rfl, HJ2, HB4.out⟩
            have a4' : decide ((F2 : Int) + (Z2 : Int) ≤ (F : Int)) = false := by simp; omega
            have hbf : Hid (b = false) := by
              show _ = _
              cases b
              · rfl
              · have := HAJ.out.1 (((HB.out.1 rfl).2.2.2.2 i hi).2 j hji)
                omega
            go_wp2_with fail
            try rw [Exit.noGoto_ret]
            go_ret
            exact ⟨by rw [hbf.out]; rfl, HB4.out⟩
      · have hbf : Hid (b = false) := by
          show _ = _
          cases b
          · rfl
          · exact absurd ((HB.out.1 rfl).2.2.2.2 i hi).1 (fun h => k1 (HFA.out.1 h).1)
        have k1' : decide ((low : Int) ≤ (F : Int)) = false := by simp; omega
        go_wp2_with fail
        try rw [Exit.noGoto_ret]
        go_ret
        exact ⟨by rw [hbf.out]; rfl, HB3.out⟩

end Go.Proofs.Ytienlhnbmobinaa
