/- slices.Sort at uint64: partition. -/
import Derived.Test.YtoeaakadpillnaaRows
import Derived.Test.YtoeaakadpillnaaSortUPeq
import Derived.Test.YtoeaakadpillnaaSortUBrk
import Derived.Test.YtoeaakadpillnaaSortUGen
import Derived.Test.YtoeaakadpillnaaSortUCho
import Derived.Test.YtoeaakadpillnaaSortUPiv
import Derived.Test.YtoeaakadpillnaaSortURev
import Derived.Test.YtoeaakadpillnaaSortUHeap
import Derived.Test.YtoeaakadpillnaaSortUSift
import Derived.Test.YtoeaakadpillnaaSortUIns
import Derived.Test.YtoeaakadpillnaaSortU
import Derived.Test.YtoeaakadpillnaaLockRef
import Derived.Test.YtoeaakadpillnaaKept
import Derived.Test.YtoeaakadpillnaaQuietTail
import Derived.Test.YtoeaakadpillnaaAppAny
import Derived.Deep.LoopGhost
import Derived.Deep.CutBlock
import Derived.Sort.LotA
import Derived.Sort.LotD3
import Derived.Sort.WalkA
import Derived.Sort.LotC
import Derived.WalkKit
import Derived.WalkLawsBesides
import Derived.WalkSpells
import Derived.LoopTactic
import Derived.WalkMore
import Derived.LoopN
import Derived.Laws.BitsAllLaws
import Derived.Laws.IdiomStrings
import Derived.BigQuiet
import Derived.Deep.QuietTactic
import Derived.Deep.DeepCutAuto
import Derived.Deep.RegionHeld3
import Derived.Deep.DrawnRows
import Derived.Lib.Hide
import Derived.Outline
import Derived.Deep.DeepMust
import Derived.Handy
namespace Go.Proofs.Ytoeaakadpillnaa
open Go.RowKit
set_option linter.unusedVariables false
set_option linter.unusedSimpArgs false

set_option maxHeartbeats 4000000 in
set_option maxRecDepth 100000 in
theorem part_u64 (base g n cp a b pv m : Nat) (ap : Bool) (d d4 : Array Nat) (w : World) (hn : n ≤ 1000000) (ha : a ≤ pv) (hp : pv < b) (hb : b ≤ n) (h : RowU w base g n cp d) (hx : Go.Sort.partition ltN d a b pv = (m, ap, d4)) :
    Calls Try.prog 109 #[.slice (some ⟨g, 0, none⟩) n cp, .int .i64 a, .int .i64 b, .int .i64 pv] w fun e w' => e = .returned (.tuple #[.int .i64 m, .bool ap]) ∧ RowU w' base g n cp d4 ∧ OthersKept w w' (fun k => k = g) := by
  have LS := Lib.hid less_u64
  have H := Lib.hid h
  obtain ⟨b1, hb1⟩ : ∃ x, x = b - 1 := ⟨_, rfl⟩
  have HX0 : Hid (∀ i2 j2, Go.Sort.scanUp (fun x => ltN x (Go.Sort.swp d a pv)[a]!) (Go.Sort.swp d a pv) b1 (a + 1) = i2 → Go.Sort.scanDown (fun x => !ltN x (Go.Sort.swp d a pv)[a]!) (Go.Sort.swp d a pv) i2 b1 = j2 →
      (if i2 > j2 then (j2, true, Go.Sort.swp (Go.Sort.swp d a pv) j2 a) else ((Go.Sort.partLoop ltN a (i2 + 1) (j2 - 1) (Go.Sort.swp (Go.Sort.swp d a pv) i2 j2)).1, false, Go.Sort.swp (Go.Sort.partLoop ltN a (i2 + 1) (j2 - 1) (Go.Sort.swp (Go.Sort.swp d a pv) i2 j2)).2 (Go.Sort.partLoop ltN a (i2 + 1) (j2 - 1) (Go.Sort.swp (Go.Sort.swp d a pv) i2 j2)).1 a)) = (m, ap, d4)) := by
    show ∀ _ _, _
    rintro i2 j2 rfl rfl
    rw [← hx, hb1]
    rfl
  have eb : (b : Int) - 1 = (b1 : Int) := by omega
  have hab1 : a ≤ b1 := by omega
  have hb1n : b1 < b := by omega
  clear h hx hb1
  go_enter Try.func109, Try.ntmps109
  go_upto_region 1 with fail
  go_cut [] (fun w' => RowU w' base g n cp (Go.Sort.swp d a pv) ∧ OthersKept w w' (fun k => k = g))
  case first =>
    have hRq := H.out
    have x1 := hRq.cell a (by omega)
    have x2 := hRq.cell pv (by omega)
    have f1 := hRq.frozen a
    have f2 := hRq.frozen pv
    have SW := Lib.hid (hRq.swap a pv (by omega) (by omega))
    have q1 : (0 : Int) ≤ (a : Int) := by omega
    have q2 : (a : Int) < (n : Int) := by omega
    have q3 : (0 : Int) ≤ (pv : Int) := by omega
    have q4 : (pv : Int) < (n : Int) := by omega
    clear hRq
    by_cases hEq : a = pv
    · subst hEq
      generalize d[a]! = u at *
      clear x2 f2 q3 q4
      go_region
      all_goals go_wp2_with fail
      go_meet
      exact ⟨SW.out.below (Below.refl _ _).drew, ((OthersKept.of_below (p := fun k => k = g) (Below.refl w.heap.size w)).trans (swap_kept _ g _ _ _ _) (fun _ _ h => h)).then_below (Below.refl _ _).drew⟩
    · have hEq2 : ¬ pv = a := fun h => hEq h.symm
      generalize d[a]! = u at *
      generalize d[pv]! = v at *
      go_region
      all_goals go_wp2_with fail
      go_meet
      exact ⟨SW.out.below (Below.refl _ _).drew, ((OthersKept.of_below (p := fun k => k = g) (Below.refl w.heap.size w)).trans (swap_kept _ g _ _ _ _) (fun _ _ h => h)).then_below (Below.refl _ _).drew⟩
  case rest =>
    obtain ⟨hR, hK⟩ := hcut
    generalize Go.Sort.swp d a pv = dk at *
    have HR1 := Lib.hid hR
    have HK1 := Lib.hid hK
    clear hR hK
    generalize wc = W1 at *
    obtain ⟨P, hPd⟩ : ∃ P : Nat → Bool, P = fun x => ltN x dk[a]! := ⟨_, rfl⟩
    obtain ⟨Q, hQd⟩ : ∃ Q : Nat → Bool, Q = fun x => !ltN x dk[a]! := ⟨_, rfl⟩
    have hP : ∀ x, P x = ltN x dk[a]! := fun x => by rw [hPd]
    have hQ : ∀ x, Q x = !ltN x dk[a]! := fun x => by rw [hQd]
    have HPd := Lib.hid hPd
    have HQd := Lib.hid hQd
    clear hPd hQd
    go_wp2_with fail
    go_loopw [10] (fun s wr => ∃ v2 : Nat, s = .int .i64 v2 ∧ (a + 1) ≤ v2 ∧ v2 ≤ b1 + 2 ∧ Below W1.heap.size W1 wr ∧ Hid (Go.Sort.scanUp P dk b1 v2 = Go.Sort.scanUp P dk b1 (a + 1))) (fun v _ => b1 + 1 - (intOf v).toNat)
    case atStart => exact ⟨(a + 1), by first | rfl | (congr 1; omega), Nat.le_refl _, by omega, Below.refl _ _, rfl⟩
    case round =>
      obtain ⟨v2, rfl, hv1, hv2, hB, hS⟩ := hrel
      have HB2 := Lib.hid hB
      have HR2 := Lib.hid (HR1.out.below hB)
      have HS2 := hS
      clear hB hS
      go_upto_region 3 with fail
      go_cut [43] (fun st w' => st = .bool (decide (v2 ≤ b1) && P dk[v2]!) ∧ Below W1.heap.size W1 w')
      case first =>
        have hRq := HR2.out
        have hgl := hRq.lt
        have e1 := ext_cell (hRq.cell a (by omega)) hgl
        have q1 : (0 : Int) ≤ (a : Int) := by omega
        have q2 : (a : Int) < (n : Int) := by omega
        by_cases hc : v2 ≤ b1
        · have hci : (v2 : Int) ≤ (b1 : Int) := by omega
          have e2 := ext_cell (hRq.cell v2 (by omega)) hgl
          have q3 : (0 : Int) ≤ (v2 : Int) := by omega
          have q4 : (v2 : Int) < (n : Int) := by omega
          have HPv := Lib.hid (hP dk[v2]!)
          have HGD := Lib.hid (decide_eq_true hc)
          clear hRq
          generalize dk[a]! = x at *
          generalize dk[v2]! = y at *
          cases hl : ltN y x with
          | true =>
            have L1 := Lib.hid fun W => LS.out y x W
            rw [hl] at L1
            have HL := Lib.hid hl
            clear hl
            refine wp_region_ext wr.heap.size (by kernel_rfl) (by kernel_rfl) ?_
            repeat (go_big_quiet_step (first | (go_at_call 107; exact ext_call _ (Nat.le_refl _) (L1.out _))))
            refine wpQuiet_nil ?_
            rintro _ ⟨X, rfl⟩
            have HX := Lib.hid X.below
            go_wp2_with fail
            go_meet
            exact ⟨by rw [HGD.out, HPv.out, HL.out]; rfl, below_trans2 HB2.out HX.out⟩
          | false =>
            have L1 := Lib.hid fun W => LS.out y x W
            rw [hl] at L1
            have HL := Lib.hid hl
            clear hl
            refine wp_region_ext wr.heap.size (by kernel_rfl) (by kernel_rfl) ?_
            repeat (go_big_quiet_step (first | (go_at_call 107; exact ext_call _ (Nat.le_refl _) (L1.out _))))
            refine wpQuiet_nil ?_
            rintro _ ⟨X, rfl⟩
            have HX := Lib.hid X.below
            go_wp2_with fail
            go_meet
            exact ⟨by rw [HGD.out, HPv.out, HL.out]; rfl, below_trans2 HB2.out HX.out⟩
        · have hci : ¬ (v2 : Int) ≤ (b1 : Int) := by omega
          have HGD := Lib.hid (decide_eq_false hc)
          clear hRq
          refine wp_region_ext wr.heap.size (by kernel_rfl) (by kernel_rfl) ?_
          repeat (go_big_quiet_step (fail))
          refine wpQuiet_nil ?_
          rintro _ ⟨X, rfl⟩
          have HX := Lib.hid X.below
          go_wp2_with fail
          go_meet
          exact ⟨by rw [HGD.out]; rfl, below_trans2 HB2.out HX.out⟩
      case rest =>
        obtain ⟨rfl, hb1⟩ := hcut
        have HC2 := Lib.hid hb1
        clear hb1
        cases hT : (decide (v2 ≤ b1) && P dk[v2]!) with
        | true =>
          have hc : v2 ≤ b1 := by simp only [Bool.and_eq_true, decide_eq_true_eq] at hT; exact hT.1
          have hS2 : Hid (Go.Sort.scanUp P dk b1 (v2 + 1) = Go.Sort.scanUp P dk b1 (a + 1)) := (scanUp_go P dk b1 v2 hT).symm.trans HS2.out
          clear hT
          go_wp2_with fail
          go_roundw
          case rel => exact ⟨v2 + 1, by go_num, by omega, by omega, HC2.out, hS2⟩
          case measure => simp [intOf] <;> omega
        | false =>
          have hE2 : Go.Sort.scanUp P dk b1 (a + 1) = v2 := HS2.out.symm.trans (scanUp_stop P dk b1 v2 hT)
          have HE2 := Lib.hid hE2
          clear hT hE2
          have HR2c := Lib.hid (HR1.out.below HC2.out)
          generalize wc = W2 at *
          have HW2 := Lib.hid (OthersKept.then_below HK1.out HC2.out)
          go_wp2_with fail
          go_loopw [11] (fun s wr => ∃ v3 : Nat, s = .int .i64 v3 ∧ v3 ≤ b1 ∧ a ≤ v3 ∧ Below W2.heap.size W2 wr ∧ Hid (Go.Sort.scanDown Q dk v2 v3 = Go.Sort.scanDown Q dk v2 b1)) (fun v _ => (intOf v).toNat)
          case atStart => exact ⟨b1, by first | rfl | (congr 1; omega), Nat.le_refl _, by omega, Below.refl _ _, rfl⟩
          case round =>
            obtain ⟨v3, rfl, hv1, hv2, hB, hS⟩ := hrel
            have HB3 := Lib.hid hB
            have HR3 := Lib.hid (HR2c.out.below hB)
            have HS3 := hS
            clear hB hS
            go_upto_region 5 with fail
            go_cut [60] (fun st w' => st = .bool (decide (v2 ≤ v3) && Q dk[v3]!) ∧ Below W2.heap.size W2 w')
            case first =>
              have hRq := HR3.out
              have hgl := hRq.lt
              have e1 := ext_cell (hRq.cell a (by omega)) hgl
              have q1 : (0 : Int) ≤ (a : Int) := by omega
              have q2 : (a : Int) < (n : Int) := by omega
              by_cases hc : v2 ≤ v3
              · have hci : (v2 : Int) ≤ (v3 : Int) := by omega
                have e2 := ext_cell (hRq.cell v3 (by omega)) hgl
                have q3 : (0 : Int) ≤ (v3 : Int) := by omega
                have q4 : (v3 : Int) < (n : Int) := by omega
                have HPv := Lib.hid (hQ dk[v3]!)
                have HGD := Lib.hid (decide_eq_true hc)
                clear hRq
                generalize dk[a]! = x at *
                generalize dk[v3]! = y at *
                cases hl : ltN y x with
                | true =>
                  have L1 := Lib.hid fun W => LS.out y x W
                  rw [hl] at L1
                  have HL := Lib.hid hl
                  clear hl
                  refine wp_region_ext wr.heap.size (by kernel_rfl) (by kernel_rfl) ?_
                  repeat (go_big_quiet_step (first | (go_at_call 107; exact ext_call _ (Nat.le_refl _) (L1.out _))))
                  refine wpQuiet_nil ?_
                  rintro _ ⟨X, rfl⟩
                  have HX := Lib.hid X.below
                  go_wp2_with fail
                  go_meet
                  exact ⟨by rw [HGD.out, HPv.out, HL.out]; rfl, below_trans2 HB3.out HX.out⟩
                | false =>
                  have L1 := Lib.hid fun W => LS.out y x W
                  rw [hl] at L1
                  have HL := Lib.hid hl
                  clear hl
                  refine wp_region_ext wr.heap.size (by kernel_rfl) (by kernel_rfl) ?_
                  repeat (go_big_quiet_step (first | (go_at_call 107; exact ext_call _ (Nat.le_refl _) (L1.out _))))
                  refine wpQuiet_nil ?_
                  rintro _ ⟨X, rfl⟩
                  have HX := Lib.hid X.below
                  go_wp2_with fail
                  go_meet
                  exact ⟨by rw [HGD.out, HPv.out, HL.out]; rfl, below_trans2 HB3.out HX.out⟩
              · have hci : ¬ (v2 : Int) ≤ (v3 : Int) := by omega
                have HGD := Lib.hid (decide_eq_false hc)
                clear hRq
                refine wp_region_ext wr.heap.size (by kernel_rfl) (by kernel_rfl) ?_
                repeat (go_big_quiet_step (fail))
                refine wpQuiet_nil ?_
                rintro _ ⟨X, rfl⟩
                have HX := Lib.hid X.below
                go_wp2_with fail
                go_meet
                exact ⟨by rw [HGD.out]; rfl, below_trans2 HB3.out HX.out⟩
            case rest =>
              obtain ⟨rfl, hb1⟩ := hcut
              have HC3 := Lib.hid hb1
              clear hb1
              cases hT : (decide (v2 ≤ v3) && Q dk[v3]!) with
              | true =>
                have hc : v2 ≤ v3 := by simp only [Bool.and_eq_true, decide_eq_true_eq] at hT; exact hT.1
                have hS2 : Hid (Go.Sort.scanDown Q dk v2 (v3 - 1) = Go.Sort.scanDown Q dk v2 b1) := (scanDown_go Q dk v2 v3 (by omega) hT).symm.trans HS3.out
                clear hT
                go_wp2_with fail
                go_roundw
                case rel => exact ⟨v3 - 1, by congr 1; omega, by omega, by omega, HC3.out, hS2⟩
                case measure => simp [intOf] <;> omega
              | false =>
                have hE3 : Go.Sort.scanDown Q dk v2 b1 = v3 := HS3.out.symm.trans (scanDown_stop Q dk v2 v3 hT)
                have HE3 := Lib.hid hE3
                clear hT hE3
                have HR3c := Lib.hid (HR2c.out.below HC3.out)
                have HK3 := Lib.hid (HW2.out.then_below HC3.out)
                have HST := Lib.hid (HX0.out v2 v3 (by rw [← HPd.out]; exact HE2.out) (by rw [← HQd.out]; exact HE3.out))
                by_cases hgt : v2 > v3
                · have hgti : (v2 : Int) > (v3 : Int) := by omega
                  have hfin := HST.out
                  rw [if_pos hgt] at hfin
                  injection hfin with hm hd
                  injection hd with ha2 hd
                  subst hm ha2 hd
                  clear hgt

                  go_upto_region 8 with fail
                  go_cut [] (fun w' => RowU w' base g n cp (Go.Sort.swp dk v3 a) ∧ OthersKept w w' (fun k => k = g))
                  case first =>
                    have hRq := HR3c.out
                    have x1 := hRq.cell v3 (by omega)
                    have x2 := hRq.cell a (by omega)
                    have f1 := hRq.frozen v3
                    have f2 := hRq.frozen a
                    have SW := Lib.hid (hRq.swap v3 a (by omega) (by omega))
                    have q1 : (0 : Int) ≤ (v3 : Int) := by omega
                    have q2 : (v3 : Int) < (n : Int) := by omega
                    have q3 : (0 : Int) ≤ (a : Int) := by omega
                    have q4 : (a : Int) < (n : Int) := by omega
                    clear hRq
                    by_cases hEq : v3 = a
                    · subst hEq
                      generalize dk[v3]! = u at *
                      clear x2 f2 q3 q4
                      go_region
                      all_goals go_wp2_with fail
                      go_meet
                      exact ⟨SW.out.below (Below.refl _ _).drew, (HK3.out.trans (swap_kept _ g _ _ _ _) (fun _ _ h => h)).then_below (Below.refl _ _).drew⟩
                    · have hEq2 : ¬ a = v3 := fun h => hEq h.symm
                      generalize dk[v3]! = u at *
                      generalize dk[a]! = v at *
                      go_region
                      all_goals go_wp2_with fail
                      go_meet
                      exact ⟨SW.out.below (Below.refl _ _).drew, (HK3.out.trans (swap_kept _ g _ _ _ _) (fun _ _ h => h)).then_below (Below.refl _ _).drew⟩
                  case rest =>
                    obtain ⟨hR, hK⟩ := hcut
                    go_wp2_with fail
                    go_ret2
                    exact ⟨rfl, hR, hK⟩
                · have hgti2 : ¬ (v2 : Int) > (v3 : Int) := by omega
                  have HHH := HST.out
                  rw [if_neg hgt] at HHH
                  obtain ⟨r, hr⟩ : ∃ x, x = Go.Sort.partLoop ltN a (v2 + 1) (v3 - 1) (Go.Sort.swp dk v2 v3) := ⟨_, rfl⟩
                  rw [← hr] at HHH
                  have HHH := Lib.hid HHH
                  have HRr := Lib.hid hr
                  clear hr
                  go_upto_region 10 with fail
                  go_cut [] (fun w' => RowU w' base g n cp (Go.Sort.swp dk v2 v3) ∧ OthersKept w w' (fun k => k = g))
                  case first =>
                    have hRq := HR3c.out
                    have x1 := hRq.cell v2 (by omega)
                    have x2 := hRq.cell v3 (by omega)
                    have f1 := hRq.frozen v2
                    have f2 := hRq.frozen v3
                    have SW := Lib.hid (hRq.swap v2 v3 (by omega) (by omega))
                    have q1 : (0 : Int) ≤ (v2 : Int) := by omega
                    have q2 : (v2 : Int) < (n : Int) := by omega
                    have q3 : (0 : Int) ≤ (v3 : Int) := by omega
                    have q4 : (v3 : Int) < (n : Int) := by omega
                    clear hRq
                    by_cases hEq : v2 = v3
                    · subst hEq
                      generalize dk[v2]! = u at *
                      clear x2 f2 q3 q4
                      go_region
                      all_goals go_wp2_with fail
                      go_meet
                      exact ⟨SW.out.below (Below.refl _ _).drew, (HK3.out.trans (swap_kept _ g _ _ _ _) (fun _ _ h => h)).then_below (Below.refl _ _).drew⟩
                    · have hEq2 : ¬ v3 = v2 := fun h => hEq h.symm
                      generalize dk[v2]! = u at *
                      generalize dk[v3]! = v at *
                      go_region
                      all_goals go_wp2_with fail
                      go_meet
                      exact ⟨SW.out.below (Below.refl _ _).drew, (HK3.out.trans (swap_kept _ g _ _ _ _) (fun _ _ h => h)).then_below (Below.refl _ _).drew⟩
                  case rest =>
                    obtain ⟨hR, hK⟩ := hcut
                    have HR4 := Lib.hid hR
                    have HK4 := Lib.hid hK
                    clear hR hK
                    go_wp2_with fail
                    go_loopw [10, 11] (fun s9 s10 wr => ∃ (i j : Nat) (dk : Array Nat), s9 = .int .i64 i ∧ s10 = .int .i64 j ∧ a + 1 ≤ i ∧ i ≤ j + 2 ∧ j < b ∧ a ≤ j ∧ RowU wr base g n cp dk ∧ OthersKept w wr (fun k => k = g) ∧ Hid (Go.Sort.partLoop ltN a i j dk = r)) (fun vi vj _ => (intOf vj).toNat + 1 - (intOf vi).toNat)
                    case atStart => exact ⟨v2 + 1, v3 - 1, _, by go_num, by congr 1; omega, by omega, by omega, by omega, by omega, HR4.out, HK4.out, HRr.out.symm⟩
                    case round =>
                      obtain ⟨i, j, dk, rfl, rfl, hai, hij, hjb, haj, hR, hK, hS⟩ := hrel
                      have HR1 := Lib.hid hR
                      have HK1 := Lib.hid hK
                      have HS1 := hS
                      clear hR hK hS
                      generalize wr = W1 at *
                      obtain ⟨P, hPd⟩ : ∃ P : Nat → Bool, P = fun x => ltN x dk[a]! := ⟨_, rfl⟩
                      obtain ⟨Q, hQd⟩ : ∃ Q : Nat → Bool, Q = fun x => !ltN x dk[a]! := ⟨_, rfl⟩
                      have hP : ∀ x, P x = ltN x dk[a]! := fun x => by rw [hPd]
                      have hQ : ∀ x, Q x = !ltN x dk[a]! := fun x => by rw [hQd]
                      have HPd := Lib.hid hPd
                      have HQd := Lib.hid hQd
                      clear hPd hQd
                      go_wp2_with fail
                      go_loopw [10] (fun s wr => ∃ v4 : Nat, s = .int .i64 v4 ∧ i ≤ v4 ∧ v4 ≤ j + 2 ∧ Below W1.heap.size W1 wr ∧ Hid (Go.Sort.scanUp P dk j v4 = Go.Sort.scanUp P dk j i)) (fun v _ => j + 1 - (intOf v).toNat)
                      case atStart => exact ⟨i, by first | rfl | (congr 1; omega), Nat.le_refl _, by omega, Below.refl _ _, rfl⟩
                      case round =>
                        obtain ⟨v4, rfl, hv1, hv2, hB, hS⟩ := hrel
                        have HB4 := Lib.hid hB
                        have HR4 := Lib.hid (HR1.out.below hB)
                        have HS4 := hS
                        clear hB hS
                        go_upto_region 13 with fail
                        go_cut [112] (fun st w' => st = .bool (decide (v4 ≤ j) && P dk[v4]!) ∧ Below W1.heap.size W1 w')
                        case first =>
                          have hRq := HR4.out
                          have hgl := hRq.lt
                          have e1 := ext_cell (hRq.cell a (by omega)) hgl
                          have q1 : (0 : Int) ≤ (a : Int) := by omega
                          have q2 : (a : Int) < (n : Int) := by omega
                          by_cases hc : v4 ≤ j
                          · have hci : (v4 : Int) ≤ (j : Int) := by omega
                            have e2 := ext_cell (hRq.cell v4 (by omega)) hgl
                            have q3 : (0 : Int) ≤ (v4 : Int) := by omega
                            have q4 : (v4 : Int) < (n : Int) := by omega
                            have HPv := Lib.hid (hP dk[v4]!)
                            have HGD := Lib.hid (decide_eq_true hc)
                            clear hRq
                            generalize dk[a]! = x at *
                            generalize dk[v4]! = y at *
                            cases hl : ltN y x with
                            | true =>
                              have L1 := Lib.hid fun W => LS.out y x W
                              rw [hl] at L1
                              have HL := Lib.hid hl
                              clear hl
                              refine wp_region_ext wr.heap.size (by kernel_rfl) (by kernel_rfl) ?_
                              repeat (go_big_quiet_step (first | (go_at_call 107; exact ext_call _ (Nat.le_refl _) (L1.out _))))
                              refine wpQuiet_nil ?_
                              rintro _ ⟨X, rfl⟩
                              have HX := Lib.hid X.below
                              go_wp2_with fail
                              go_meet
                              exact ⟨by rw [HGD.out, HPv.out, HL.out]; rfl, below_trans2 HB4.out HX.out⟩
                            | false =>
                              have L1 := Lib.hid fun W => LS.out y x W
                              rw [hl] at L1
                              have HL := Lib.hid hl
                              clear hl
                              refine wp_region_ext wr.heap.size (by kernel_rfl) (by kernel_rfl) ?_
                              repeat (go_big_quiet_step (first | (go_at_call 107; exact ext_call _ (Nat.le_refl _) (L1.out _))))
                              refine wpQuiet_nil ?_
                              rintro _ ⟨X, rfl⟩
                              have HX := Lib.hid X.below
                              go_wp2_with fail
                              go_meet
                              exact ⟨by rw [HGD.out, HPv.out, HL.out]; rfl, below_trans2 HB4.out HX.out⟩
                          · have hci : ¬ (v4 : Int) ≤ (j : Int) := by omega
                            have HGD := Lib.hid (decide_eq_false hc)
                            clear hRq
                            refine wp_region_ext wr.heap.size (by kernel_rfl) (by kernel_rfl) ?_
                            repeat (go_big_quiet_step (fail))
                            refine wpQuiet_nil ?_
                            rintro _ ⟨X, rfl⟩
                            have HX := Lib.hid X.below
                            go_wp2_with fail
                            go_meet
                            exact ⟨by rw [HGD.out]; rfl, below_trans2 HB4.out HX.out⟩
                        case rest =>
                          obtain ⟨rfl, hb1⟩ := hcut
                          have HC4 := Lib.hid hb1
                          clear hb1
                          cases hT : (decide (v4 ≤ j) && P dk[v4]!) with
                          | true =>
                            have hc : v4 ≤ j := by simp only [Bool.and_eq_true, decide_eq_true_eq] at hT; exact hT.1
                            have hS2 : Hid (Go.Sort.scanUp P dk j (v4 + 1) = Go.Sort.scanUp P dk j i) := (scanUp_go P dk j v4 hT).symm.trans HS4.out
                            clear hT
                            go_wp2_with fail
                            go_roundw
                            case rel => exact ⟨v4 + 1, by go_num, by omega, by omega, HC4.out, hS2⟩
                            case measure => simp [intOf] <;> omega
                          | false =>
                            have hE4 : Go.Sort.scanUp P dk j i = v4 := HS4.out.symm.trans (scanUp_stop P dk j v4 hT)
                            have HE4 := Lib.hid hE4
                            clear hT hE4
                            have HR4c := Lib.hid (HR1.out.below HC4.out)
                            generalize wc = W2 at *
                            have HW2 := Lib.hid (OthersKept.then_below HK1.out HC4.out)
                            go_wp2_with fail
                            go_loopw [11] (fun s wr => ∃ v5 : Nat, s = .int .i64 v5 ∧ v5 ≤ j ∧ a ≤ v5 ∧ Below W2.heap.size W2 wr ∧ Hid (Go.Sort.scanDown Q dk v4 v5 = Go.Sort.scanDown Q dk v4 j)) (fun v _ => (intOf v).toNat)
                            case atStart => exact ⟨j, by first | rfl | (congr 1; omega), Nat.le_refl _, by omega, Below.refl _ _, rfl⟩
                            case round =>
                              obtain ⟨v5, rfl, hv1, hv2, hB, hS⟩ := hrel
                              have HB5 := Lib.hid hB
                              have HR5 := Lib.hid (HR4c.out.below hB)
                              have HS5 := hS
                              clear hB hS
                              go_upto_region 15 with fail
                              go_cut [129] (fun st w' => st = .bool (decide (v4 ≤ v5) && Q dk[v5]!) ∧ Below W2.heap.size W2 w')
                              case first =>
                                have hRq := HR5.out
                                have hgl := hRq.lt
                                have e1 := ext_cell (hRq.cell a (by omega)) hgl
                                have q1 : (0 : Int) ≤ (a : Int) := by omega
                                have q2 : (a : Int) < (n : Int) := by omega
                                by_cases hc : v4 ≤ v5
                                · have hci : (v4 : Int) ≤ (v5 : Int) := by omega
                                  have e2 := ext_cell (hRq.cell v5 (by omega)) hgl
                                  have q3 : (0 : Int) ≤ (v5 : Int) := by omega
                                  have q4 : (v5 : Int) < (n : Int) := by omega
                                  have HPv := Lib.hid (hQ dk[v5]!)
                                  have HGD := Lib.hid (decide_eq_true hc)
                                  clear hRq
                                  generalize dk[a]! = x at *
                                  generalize dk[v5]! = y at *
                                  cases hl : ltN y x with
                                  | true =>
                                    have L1 := Lib.hid fun W => LS.out y x W
                                    rw [hl] at L1
                                    have HL := Lib.hid hl
                                    clear hl
                                    refine wp_region_ext wr.heap.size (by kernel_rfl) (by kernel_rfl) ?_
                                    repeat (go_big_quiet_step (first | (go_at_call 107; exact ext_call _ (Nat.le_refl _) (L1.out _))))
                                    refine wpQuiet_nil ?_
                                    rintro _ ⟨X, rfl⟩
                                    have HX := Lib.hid X.below
                                    go_wp2_with fail
                                    go_meet
                                    exact ⟨by rw [HGD.out, HPv.out, HL.out]; rfl, below_trans2 HB5.out HX.out⟩
                                  | false =>
                                    have L1 := Lib.hid fun W => LS.out y x W
                                    rw [hl] at L1
                                    have HL := Lib.hid hl
                                    clear hl
                                    refine wp_region_ext wr.heap.size (by kernel_rfl) (by kernel_rfl) ?_
                                    repeat (go_big_quiet_step (first | (go_at_call 107; exact ext_call _ (Nat.le_refl _) (L1.out _))))
                                    refine wpQuiet_nil ?_
                                    rintro _ ⟨X, rfl⟩
                                    have HX := Lib.hid X.below
                                    go_wp2_with fail
                                    go_meet
                                    exact ⟨by rw [HGD.out, HPv.out, HL.out]; rfl, below_trans2 HB5.out HX.out⟩
                                · have hci : ¬ (v4 : Int) ≤ (v5 : Int) := by omega
                                  have HGD := Lib.hid (decide_eq_false hc)
                                  clear hRq
                                  refine wp_region_ext wr.heap.size (by kernel_rfl) (by kernel_rfl) ?_
                                  repeat (go_big_quiet_step (fail))
                                  refine wpQuiet_nil ?_
                                  rintro _ ⟨X, rfl⟩
                                  have HX := Lib.hid X.below
                                  go_wp2_with fail
                                  go_meet
                                  exact ⟨by rw [HGD.out]; rfl, below_trans2 HB5.out HX.out⟩
                              case rest =>
                                obtain ⟨rfl, hb1⟩ := hcut
                                have HC5 := Lib.hid hb1
                                clear hb1
                                cases hT : (decide (v4 ≤ v5) && Q dk[v5]!) with
                                | true =>
                                  have hc : v4 ≤ v5 := by simp only [Bool.and_eq_true, decide_eq_true_eq] at hT; exact hT.1
                                  have hS2 : Hid (Go.Sort.scanDown Q dk v4 (v5 - 1) = Go.Sort.scanDown Q dk v4 j) := (scanDown_go Q dk v4 v5 (by omega) hT).symm.trans HS5.out
                                  clear hT
                                  go_wp2_with fail
                                  go_roundw
                                  case rel => exact ⟨v5 - 1, by congr 1; omega, by omega, by omega, HC5.out, hS2⟩
                                  case measure => simp [intOf] <;> omega
                                | false =>
                                  have hE5 : Go.Sort.scanDown Q dk v4 j = v5 := HS5.out.symm.trans (scanDown_stop Q dk v4 v5 hT)
                                  have HE5 := Lib.hid hE5
                                  clear hT hE5
                                  have HR5c := Lib.hid (HR4c.out.below HC5.out)
                                  have HK5 := Lib.hid (HW2.out.then_below HC5.out)
                                  have HST := Lib.hid (part_step a i j v4 v5 dk (by rw [← HPd.out]; exact HE4.out) (by rw [← HQd.out]; exact HE5.out))
                                  by_cases hgt : v4 > v5
                                  · have hgti : (v4 : Int) > (v5 : Int) := by omega
                                    have hfin : r = (v5, dk) := by rw [← HS1.out, HST.out, if_pos hgt]
                                    have hHH := HHH.out
                                    rw [hfin] at hHH
                                    injection hHH with hm hd
                                    injection hd with ha2 hd
                                    subst hm ha2 hd
                                    clear hgt hfin hgti2
                                    go_upto_region 21 with fail
                                    go_cut [] (fun w' => RowU w' base g n cp (Go.Sort.swp dk v5 a) ∧ OthersKept w w' (fun k => k = g))
                                    case first =>
                                      have hRq := HR5c.out
                                      have x1 := hRq.cell v5 (by omega)
                                      have x2 := hRq.cell a (by omega)
                                      have f1 := hRq.frozen v5
                                      have f2 := hRq.frozen a
                                      have SW := Lib.hid (hRq.swap v5 a (by omega) (by omega))
                                      have q1 : (0 : Int) ≤ (v5 : Int) := by omega
                                      have q2 : (v5 : Int) < (n : Int) := by omega
                                      have q3 : (0 : Int) ≤ (a : Int) := by omega
                                      have q4 : (a : Int) < (n : Int) := by omega
                                      clear hRq
                                      by_cases hEq : v5 = a
                                      · subst hEq
                                        generalize dk[v5]! = u at *
                                        clear x2 f2 q3 q4
                                        go_region
                                        all_goals go_wp2_with fail
                                        go_meet
                                        exact ⟨SW.out.below (Below.refl _ _).drew, (HK5.out.trans (swap_kept _ g _ _ _ _) (fun _ _ h => h)).then_below (Below.refl _ _).drew⟩
                                      · have hEq2 : ¬ a = v5 := fun h => hEq h.symm
                                        generalize dk[v5]! = u at *
                                        generalize dk[a]! = v at *
                                        go_region
                                        all_goals go_wp2_with fail
                                        go_meet
                                        exact ⟨SW.out.below (Below.refl _ _).drew, (HK5.out.trans (swap_kept _ g _ _ _ _) (fun _ _ h => h)).then_below (Below.refl _ _).drew⟩
                                    case rest =>
                                      obtain ⟨hR, hK⟩ := hcut
                                      go_wp2_with fail
                                      go_ret2
                                      exact ⟨rfl, hR, hK⟩
                                  · have hgti : ¬ (v4 : Int) > (v5 : Int) := by omega
                                    have HS4 : Hid (Go.Sort.partLoop ltN a (v4 + 1) (v5 - 1) (Go.Sort.swp dk v4 v5) = r) := by show _ = _; rw [← HS1.out, HST.out, if_neg hgt]
                                    go_upto_region 18 with fail
                                    go_cut [] (fun w' => RowU w' base g n cp (Go.Sort.swp dk v4 v5) ∧ OthersKept w w' (fun k => k = g))
                                    case first =>
                                      have hRq := HR5c.out
                                      have x1 := hRq.cell v4 (by omega)
                                      have x2 := hRq.cell v5 (by omega)
                                      have f1 := hRq.frozen v4
                                      have f2 := hRq.frozen v5
                                      have SW := Lib.hid (hRq.swap v4 v5 (by omega) (by omega))
                                      have q1 : (0 : Int) ≤ (v4 : Int) := by omega
                                      have q2 : (v4 : Int) < (n : Int) := by omega
                                      have q3 : (0 : Int) ≤ (v5 : Int) := by omega
                                      have q4 : (v5 : Int) < (n : Int) := by omega
                                      clear hRq
                                      by_cases hEq : v4 = v5
                                      · subst hEq
                                        generalize dk[v4]! = u at *
                                        clear x2 f2 q3 q4
                                        go_region
                                        all_goals go_wp2_with fail
                                        go_meet
                                        exact ⟨SW.out.below (Below.refl _ _).drew, (HK5.out.trans (swap_kept _ g _ _ _ _) (fun _ _ h => h)).then_below (Below.refl _ _).drew⟩
                                      · have hEq2 : ¬ v5 = v4 := fun h => hEq h.symm
                                        generalize dk[v4]! = u at *
                                        generalize dk[v5]! = v at *
                                        go_region
                                        all_goals go_wp2_with fail
                                        go_meet
                                        exact ⟨SW.out.below (Below.refl _ _).drew, (HK5.out.trans (swap_kept _ g _ _ _ _) (fun _ _ h => h)).then_below (Below.refl _ _).drew⟩
                                    case rest =>
                                      obtain ⟨hR, hK⟩ := hcut
                                      go_wp2_with fail
                                      go_roundw
                                      case rel => exact ⟨v4 + 1, v5 - 1, _, by go_num, by congr 1; omega, by omega, by omega, by omega, by omega, hR, hK, HS4⟩
                                      case measure => simp [intOf] <;> omega

end Go.Proofs.Ytoeaakadpillnaa
