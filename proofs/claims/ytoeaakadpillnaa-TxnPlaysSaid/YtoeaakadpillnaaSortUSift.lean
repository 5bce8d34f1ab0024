/- slices.Sort at uint64: siftDown. -/
import Derived.Test.YtoeaakadpillnaaRows
import Derived.Test.YtoeaakadpillnaaSortUIns
import Derived.Test.YtoeaakadpillnaaSortU
import Derived.Test.YtoeaakadpillnaaLockRef
import Derived.Test.YtoeaakadpillnaaKept
import Derived.Test.YtoeaakadpillnaaQuietTail
import Derived.Test.YtoeaakadpillnaaAppAny
import Derived.Deep.LoopGhost
import Derived.Sort.LotA
import Derived.Sort.WalkA
import Derived.WalkKit
import Derived.WalkLawsBesides
import Derived.WalkSpells
import Derived.LoopTactic
import Derived.WalkMore
import Derived.LoopN
import Derived.Laws.BitsAllLaws
import Derived.Laws.IdiomStrings
import Derived.BigQuiet
import Derived.Deep.QuietTactic
import Derived.Deep.DeepCutAuto
import Derived.Deep.RegionHeld3
import Derived.Deep.DrawnRows
import Derived.Lib.Hide
import Derived.Outline
import Derived.Deep.DeepMust
import Derived.Handy
namespace Go.Proofs.Ytoeaakadpillnaa
open Go.RowKit
set_option linter.unusedVariables false
set_option linter.unusedSimpArgs false

theorem wadd (x y z : Nat) (h : x + y = z) (hz : z ≤ 100000000) : IntKind.i64.wrap ((x : Int) + (y : Int)) = (z : Int) := by
  rw [show (x : Int) + (y : Int) = (z : Int) by omega]; exact IntWalk.i64_in _ ⟨by omega, by omega⟩
theorem wadd1 (x z : Nat) (h : x + 1 = z) (hz : z ≤ 100000000) : IntKind.i64.wrap ((x : Int) + 1) = (z : Int) := wadd x 1 z h hz
theorem wsub1 (x z : Nat) (h : z + 1 = x) (hz : x ≤ 100000000) : IntKind.i64.wrap ((x : Int) - 1) = (z : Int) := by
  rw [show (x : Int) - 1 = (z : Int) by omega]; exact IntWalk.i64_in _ ⟨by omega, by omega⟩
theorem wsub (x y z : Nat) (h : z + y = x) (hz : x ≤ 100000000) : IntKind.i64.wrap ((x : Int) - (y : Int)) = (z : Int) := by
  rw [show (x : Int) - (y : Int) = (z : Int) by omega]; exact IntWalk.i64_in _ ⟨by omega, by omega⟩
theorem wdbl (x z : Nat) (h : 2 * x = z) (hz : z ≤ 100000000) : IntKind.i64.wrap (2 * (x : Int)) = (z : Int) := by
  rw [show 2 * (x : Int) = (z : Int) by omega]; exact IntWalk.i64_in _ ⟨by omega, by omega⟩
/-- The greater child. -/
def kid (hi F root : Nat) (d : Array Nat) : Nat := if 2 * root + 2 < hi ∧ ltN d[F + (2 * root + 1)]! d[F + (2 * root + 2)]! = true then 2 * root + 2 else 2 * root + 1
theorem sift_end (hi F root : Nat) (d : Array Nat) (h : 2 * root + 1 ≥ hi) : Go.Sort.siftDown ltN hi F root d = d := by rw [Go.Sort.siftDown, dif_pos h]
theorem sift_stop (hi F root : Nat) (d : Array Nat) (h : ¬ 2 * root + 1 ≥ hi) (hl : ltN d[F + root]! d[F + kid hi F root d]! = false) : Go.Sort.siftDown ltN hi F root d = d := by
  unfold kid at hl
  rw [Go.Sort.siftDown, dif_neg h]
  by_cases hk : 2 * root + 2 < hi ∧ ltN d[F + (2 * root + 1)]! d[F + (2 * root + 2)]! = true
  · rw [if_pos hk] at hl
    rw [if_pos (by simpa [Nat.add_assoc] using hk), hl]
    simp
  · rw [if_neg hk] at hl
    rw [if_neg (by simpa [Nat.add_assoc] using hk), hl]
    simp
theorem sift_go (hi F root : Nat) (d : Array Nat) (h : ¬ 2 * root + 1 ≥ hi) (hl : ltN d[F + root]! d[F + kid hi F root d]! = true) : Go.Sort.siftDown ltN hi F root d = Go.Sort.siftDown ltN hi F (kid hi F root d) (Go.Sort.swp d (F + root) (F + kid hi F root d)) := by
  have hkd : kid hi F root d = kid hi F root d := rfl
  unfold kid at hl ⊢
  rw [Go.Sort.siftDown, dif_neg h]
  by_cases hk : 2 * root + 2 < hi ∧ ltN d[F + (2 * root + 1)]! d[F + (2 * root + 2)]! = true
  · rw [if_pos hk] at hl ⊢
    rw [if_pos (by simpa [Nat.add_assoc] using hk), hl]
    simp [hk.1]
  · rw [if_neg hk] at hl ⊢
    rw [if_neg (by simpa [Nat.add_assoc] using hk), hl]
    simp
theorem kid_lt (hi F root : Nat) (d : Array Nat) (h : ¬ 2 * root + 1 ≥ hi) : root < kid hi F root d ∧ kid hi F root d < hi := by
  unfold kid
  split <;> omega

set_option maxHeartbeats 4000000 in
set_option maxRecDepth 100000 in
theorem sift_u64 (base g n cp lo hi F : Nat) (d : Array Nat) (w : World) (hn : n ≤ 1000000) (hlo : lo ≤ 1000000) (hb : F + hi ≤ n) (h : RowU w base g n cp d) :
    Calls Try.prog 117 #[.slice (some ⟨g, 0, none⟩) n cp, .int .i64 lo, .int .i64 hi, .int .i64 F] w fun e w' => e = .returned (.tuple #[]) ∧ RowU w' base g n cp (Go.Sort.siftDown ltN hi F lo d) ∧ OthersKept w w' (fun k => k = g) := by
  have hcp : cp ≤ 2 ^ 63 - 1 := by obtain ⟨_, _, _, _, h3, _⟩ := h.blk; exact h3
  have hnc : n ≤ cp := by obtain ⟨_, _, _, h3, _⟩ := h.blk; exact h3
  have H := Lib.hid h
  have LS := Lib.hid less_u64
  clear h
  go_enter Try.func117, Try.ntmps117
  go_wp2_with fail
  go_loopw [8] (fun s8 wr => ∃ (r : Nat) (dk : Array Nat), s8 = .int .i64 r ∧ r ≤ 1000000 ∧ RowU wr base g n cp dk ∧ OthersKept w wr (fun k => k = g) ∧ Hid (Go.Sort.siftDown ltN hi F r dk = Go.Sort.siftDown ltN hi F lo d)) (fun vi _ => hi - (intOf vi).toNat)
  case atStart => exact ⟨lo, d, rfl, hlo, H.out, OthersKept.of_below (Below.refl _ _), rfl⟩
  case round =>
    obtain ⟨r, dk, rfl, hr, hR, hK, hS⟩ := hrel
    have HR := Lib.hid hR
    have HK := Lib.hid hK
    have hgl := hR.lt
    have m1 := wdbl r (2 * r) rfl (by omega)
    have m2 := wadd1 (2 * r) (2 * r + 1) rfl (by omega)
    generalize hr2 : 2 * r = r2 at m1 m2
    obtain ⟨c1, hc1⟩ : ∃ x, x = r2 + 1 := ⟨_, rfl⟩
    rw [← hc1] at m2
    by_cases hend : hi ≤ c1
    · have G1 := Lib.hid (sift_end hi F r dk (by omega))
      clear hR hK
      go_wp2_with fail
      go_end0
      exact ⟨rfl, by rw [← hS.out, G1.out]; exact HR.out, HK.out⟩
    · have hne : ¬ 2 * r + 1 ≥ hi := by omega
      obtain ⟨hk1, hk2⟩ := kid_lt hi F r dk hne
      have KD : Hid (kid hi F r dk = if c1 + 1 < hi ∧ ltN dk[F + c1]! dk[F + (c1 + 1)]! = true then c1 + 1 else c1) := by
        show _ = _
        unfold kid
        rw [hc1, ← hr2]
      have ST := Lib.hid (sift_stop hi F r dk hne)
      have GO := Lib.hid (sift_go hi F r dk hne)
      generalize kid hi F r dk = k at *
      go_upto_if 36 with fail
      have ec : ((r2 : Nat) : Int) + 1 = (c1 : Int) := by omega
      simp only [ec]
      have hch : c1 < hi := by omega
      have hcr : r < c1 := by omega
      clear m1 m2 ec hc1 hr2 hne hend
      have hk12 : k = c1 ∨ k = c1 + 1 := by rw [KD.out]; split <;> simp
      go_cut [36] (fun s36 w' => s36 = .bool (decide (k = c1 + 1)) ∧ Below wr.heap.size wr w')
      case first =>
        obtain ⟨c2, hc2⟩ : ∃ x, x = c1 + 1 := ⟨_, rfl⟩
        obtain ⟨p1, hp1⟩ : ∃ x, x = F + c1 := ⟨_, rfl⟩
        obtain ⟨p2, hp2⟩ : ∃ x, x = p1 + 1 := ⟨_, rfl⟩
        have m1 := wadd1 c1 c2 hc2.symm (by omega)
        have m2 := wadd F c1 p1 hp1.symm (by omega)
        have m3 := wadd1 p1 p2 hp2.symm (by omega)
        have KD2 : Hid (k = if c2 < hi ∧ ltN dk[p1]! dk[p2]! = true then c2 else c1) := by
          show _ = _
          rw [KD.out, hc2, hp2, hp1, Nat.add_assoc]
        by_cases h2 : c2 < hi
        · have h2i : (c2 : Int) < (hi : Int) := by omega
          have e1 := ext_cell (hR.cell p1 (by omega)) hgl
          have e2 := ext_cell (hR.cell p2 (by omega)) hgl
          generalize dk[p1]! = x at *
          generalize dk[p2]! = y at *
          have q1 : (0 : Int) ≤ (p1 : Int) := by omega
          have q2 : (p1 : Int) < (n : Int) := by omega
          have q3 : (0 : Int) ≤ (p2 : Int) := by omega
          have q4 : (p2 : Int) < (n : Int) := by omega
          have HC2 := Lib.hid hc2
          clear hR hK hc2 hp1 hp2
          cases hl : ltN x y with
          | true =>
            have L1 := Lib.hid fun W => LS.out x y W
            rw [hl] at L1
            obtain rfl : k = c2 := by rw [KD2.out, if_pos ⟨h2, hl⟩]
            clear hl
            refine wp_region_ext wr.heap.size (by kernel_rfl) (by kernel_rfl) ?_
            repeat (go_big_quiet_step (first | (go_at_call 107; exact ext_call _ (Nat.le_refl _) (L1.out _))))
            refine wpQuiet_nil ?_
            rintro _ ⟨X, rfl⟩
            have HX := Lib.hid X.below
            go_wp2_with fail
            go_meet
            exact ⟨by rw [decide_eq_true HC2.out], HX.out⟩
          | false =>
            have L1 := Lib.hid fun W => LS.out x y W
            rw [hl] at L1
            obtain rfl : k = c1 := by rw [KD2.out, if_neg (by rintro ⟨_, h⟩; rw [hl] at h; cases h)]
            clear hl
            refine wp_region_ext wr.heap.size (by kernel_rfl) (by kernel_rfl) ?_
            repeat (go_big_quiet_step (first | (go_at_call 107; exact ext_call _ (Nat.le_refl _) (L1.out _))))
            refine wpQuiet_nil ?_
            rintro _ ⟨X, rfl⟩
            have HX := Lib.hid X.below
            go_wp2_with fail
            go_meet
            exact ⟨by simp, HX.out⟩
        · have h2i : ¬ (c2 : Int) < (hi : Int) := by omega
          obtain rfl : k = c1 := by rw [KD2.out, if_neg (fun h => h2 h.1)]
          clear hR hK hc2 hp1 hp2
          refine wp_region_ext wr.heap.size (by kernel_rfl) (by kernel_rfl) ?_
          repeat (go_big_quiet_step (fail))
          refine wpQuiet_nil ?_
          rintro _ ⟨X, rfl⟩
          have HX := Lib.hid X.below
          go_wp2_with fail
          go_meet
          exact ⟨by simp, HX.out⟩
      case rest =>
        obtain ⟨rfl, hb1⟩ := hcut
        have hRc := hR.below hb1
        have HRc := Lib.hid hRc
        have HKc := Lib.hid (hK.then_below hb1)
        obtain ⟨p0, hp0⟩ : ∃ x, x = F + r := ⟨_, rfl⟩
        obtain ⟨pk, hpk⟩ : ∃ x, x = F + k := ⟨_, rfl⟩
        have m1 := wadd F r p0 hp0.symm (by omega)
        have m2 := wadd F k pk hpk.symm (by omega)
        have hne1 : ¬ p0 = pk := by omega
        have hne2 : ¬ pk = p0 := by omega
        have x1 := hRc.cell p0 (by omega)
        have x2 := hRc.cell pk (by omega)
        have f1 := hRc.frozen p0
        have f2 := hRc.frozen pk
        have hgc := hRc.lt
        have SW := Lib.hid fun W (hW : Below wc.heap.size wc W) => (hRc.below hW).swap p0 pk (by omega) (by omega)
        rw [← hp0, ← hpk] at ST GO
        generalize dk[p0]! = x at *
        generalize dk[pk]! = y at *
        have e1 := ext_cell x1 hgc
        have e2 := ext_cell x2 hgc
        have q1 : (0 : Int) ≤ (p0 : Int) := by omega
        have q2 : (p0 : Int) < (n : Int) := by omega
        have q3 : (0 : Int) ≤ (pk : Int) := by omega
        have q4 : (pk : Int) < (n : Int) := by omega
        clear hR hK hRc hb1 hp0 hpk hch hcr
        rcases hk12 with hk | hk
        · have hd : decide (k = c1 + 1) = false := by simp; omega
          rw [hd]
          have ec : (c1 : Int) = (k : Int) := by omega
          clear hk
          cases hl : ltN x y with
          | true =>
            have L1 := Lib.hid fun W => LS.out x y W
            rw [hl] at L1
            have G1 := Lib.hid (GO.out hl)
            clear hl
            go_upto_region 5 with fail
            try simp only [ec]
            refine wp_region_ext wc.heap.size (by kernel_rfl) (by kernel_rfl) ?_
            repeat (go_big_quiet_step (first | (go_at_call 107; exact ext_call _ (Nat.le_refl _) (L1.out _))))
            refine wpQuiet_nil ?_
            rintro _ ⟨X, rfl⟩
            have HX := Lib.hid X.below
            have c3 := keep_cell HX.out x1
            have c4 := keep_cell HX.out x2
            have f3 := (HX.out.frozen (p := ⟨g, p0, none⟩) hgc).trans f1
            have f4 := (HX.out.frozen (p := ⟨g, pk, none⟩) hgc).trans f2
            generalize X.val = wx at *
            clear x1 x2 f1 f2 e1 e2
            go_upto_region 6 with fail
            go_region
            all_goals go_wp2_with fail
            go_roundw
            case rel => exact ⟨k, _, rfl, by omega, (SW.out _ HX.out).below (Below.refl _ _).drew, ((HKc.out.then_below HX.out).trans (swap_kept _ g _ _ _ _) (fun _ _ h => h)).then_below (Below.refl _ _).drew, by rw [← G1.out]; exact hS⟩
            case measure => simp [intOf]; omega
          | false =>
            have L1 := Lib.hid fun W => LS.out x y W
            rw [hl] at L1
            have G1 := Lib.hid (ST.out hl)
            clear hl
            go_upto_region 5 with fail
            try simp only [ec]
            refine wp_region_ext wc.heap.size (by kernel_rfl) (by kernel_rfl) ?_
            repeat (go_big_quiet_step (first | (go_at_call 107; exact ext_call _ (Nat.le_refl _) (L1.out _))))
            refine wpQuiet_nil ?_
            rintro _ ⟨X, rfl⟩
            have HX := Lib.hid X.below
            go_wp2_with fail
            (try simp only [Exit.inBlock, Exit.then]); refine bodyPost_ret (results_none rfl _ _ _) rfl ?_
            exact ⟨rfl, by rw [← hS.out, G1.out]; exact HRc.out.below HX.out, HKc.out.then_below HX.out⟩
        · have hd : decide (k = c1 + 1) = true := by simp; omega
          rw [hd]
          have ec : (c1 : Int) + 1 = (k : Int) := by omega
          clear hk
          cases hl : ltN x y with
          | true =>
            have L1 := Lib.hid fun W => LS.out x y W
            rw [hl] at L1
            have G1 := Lib.hid (GO.out hl)
            clear hl
            go_upto_region 5 with fail
            try simp only [ec]
            refine wp_region_ext wc.heap.size (by kernel_rfl) (by kernel_rfl) ?_
            repeat (go_big_quiet_step (first | (go_at_call 107; exact ext_call _ (Nat.le_refl _) (L1.out _))))
            refine wpQuiet_nil ?_
            rintro _ ⟨X, rfl⟩
            have HX := Lib.hid X.below
            have c3 := keep_cell HX.out x1
            have c4 := keep_cell HX.out x2
            have f3 := (HX.out.frozen (p := ⟨g, p0, none⟩) hgc).trans f1
            have f4 := (HX.out.frozen (p := ⟨g, pk, none⟩) hgc).trans f2
            generalize X.val = wx at *
            clear x1 x2 f1 f2 e1 e2
            go_upto_region 6 with fail
            go_region
            all_goals go_wp2_with fail
            go_roundw
            case rel => exact ⟨k, _, rfl, by omega, (SW.out _ HX.out).below (Below.refl _ _).drew, ((HKc.out.then_below HX.out).trans (swap_kept _ g _ _ _ _) (fun _ _ h => h)).then_below (Below.refl _ _).drew, by rw [← G1.out]; exact hS⟩
            case measure => simp [intOf]; omega
          | false =>
            have L1 := Lib.hid fun W => LS.out x y W
            rw [hl] at L1
            have G1 := Lib.hid (ST.out hl)
            clear hl
            go_upto_region 5 with fail
            try simp only [ec]
            refine wp_region_ext wc.heap.size (by kernel_rfl) (by kernel_rfl) ?_
            repeat (go_big_quiet_step (first | (go_at_call 107; exact ext_call _ (Nat.le_refl _) (L1.out _))))
            refine wpQuiet_nil ?_
            rintro _ ⟨X, rfl⟩
            have HX := Lib.hid X.below
            go_wp2_with fail
            (try simp only [Exit.inBlock, Exit.then]); refine bodyPost_ret (results_none rfl _ _ _) rfl ?_
            exact ⟨rfl, by rw [← hS.out, G1.out]; exact HRc.out.below HX.out, HKc.out.then_below HX.out⟩

end Go.Proofs.Ytoeaakadpillnaa
