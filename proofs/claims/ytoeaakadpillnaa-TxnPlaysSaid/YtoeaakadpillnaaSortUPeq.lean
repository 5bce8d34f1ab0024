/- slices.Sort at uint64: partitionEqual. -/
import Derived.Test.YtoeaakadpillnaaRows
import Derived.Test.YtoeaakadpillnaaSortUBrk
import Derived.Test.YtoeaakadpillnaaSortUGen
import Derived.Test.YtoeaakadpillnaaSortUCho
import Derived.Test.YtoeaakadpillnaaSortUPiv
import Derived.Test.YtoeaakadpillnaaSortURev
import Derived.Test.YtoeaakadpillnaaSortUHeap
import Derived.Test.YtoeaakadpillnaaSortUSift
import Derived.Test.YtoeaakadpillnaaSortUIns
import Derived.Test.YtoeaakadpillnaaSortU
import Derived.Test.YtoeaakadpillnaaLockRef
import Derived.Test.YtoeaakadpillnaaKept
import Derived.Test.YtoeaakadpillnaaQuietTail
import Derived.Test.YtoeaakadpillnaaAppAny
import Derived.Deep.LoopGhost
import Derived.Deep.CutBlock
import Derived.Sort.LotA
import Derived.Sort.LotD3
import Derived.Sort.WalkA
import Derived.Sort.LotC
import Derived.WalkKit
import Derived.WalkLawsBesides
import Derived.WalkSpells
import Derived.LoopTactic
import Derived.WalkMore
import Derived.LoopN
import Derived.Laws.BitsAllLaws
import Derived.Laws.IdiomStrings
import Derived.BigQuiet
import Derived.Deep.QuietTactic
import Derived.Deep.DeepCutAuto
import Derived.Deep.RegionHeld3
import Derived.Deep.DrawnRows
import Derived.Lib.Hide
import Derived.Outline
import Derived.Deep.DeepMust
import Derived.Handy
namespace Go.Proofs.Ytoeaakadpillnaa
open Go.RowKit
set_option linter.unusedVariables false
set_option linter.unusedSimpArgs false

theorem below_trans2 {w0 w1 w2 : World} (h : Below w0.heap.size w0 w1) (h2 : Below w1.heap.size w1 w2) : Below w0.heap.size w0 w2 :=
  (OthersKept.of_below (p := fun _ => False) h).trans (OthersKept.of_below (p := fun _ => False) h2) (fun _ _ h => h) |>.below (Below.refl _ _) (fun _ _ h => h)
theorem scanUp_go (P : Nat → Bool) (d : Array Nat) (j i : Nat) (h : (decide (i ≤ j) && P d[i]!) = true) : Go.Sort.scanUp P d j i = Go.Sort.scanUp P d j (i + 1) := by
  conv => lhs; rw [Go.Sort.scanUp, if_pos h]
theorem scanUp_stop (P : Nat → Bool) (d : Array Nat) (j i : Nat) (h : (decide (i ≤ j) && P d[i]!) = false) : Go.Sort.scanUp P d j i = i := by
  rw [Go.Sort.scanUp, if_neg (by rw [h]; simp)]
theorem scanDown_go (P : Nat → Bool) (d : Array Nat) (i j : Nat) (hj : 0 < j) (h : (decide (i ≤ j) && P d[j]!) = true) : Go.Sort.scanDown P d i j = Go.Sort.scanDown P d i (j - 1) := by
  obtain ⟨k, rfl⟩ : ∃ k, j = k + 1 := ⟨j - 1, by omega⟩
  conv => lhs; rw [Go.Sort.scanDown, if_pos h]
  rfl
theorem scanDown_stop (P : Nat → Bool) (d : Array Nat) (i j : Nat) (h : (decide (i ≤ j) && P d[j]!) = false) : Go.Sort.scanDown P d i j = j := by
  cases j with
  | zero => rfl
  | succ k => rw [Go.Sort.scanDown, if_neg (by rw [h]; simp)]
theorem partEq_step (a i j i2 j2 : Nat) (d : Array Nat) (h1 : Go.Sort.scanUp (fun x => !ltN d[a]! x) d j i = i2) (h2 : Go.Sort.scanDown (fun x => ltN d[a]! x) d i2 j = j2) :
    Go.Sort.partEqLoop ltN a i j d = if i2 > j2 then (i2, d) else Go.Sort.partEqLoop ltN a (i2 + 1) (j2 - 1) (Go.Sort.swp d i2 j2) := by
  rw [Go.Sort.partEqLoop_eq, h1, h2]
theorem part_step (a i j i2 j2 : Nat) (d : Array Nat) (h1 : Go.Sort.scanUp (fun x => ltN x d[a]!) d j i = i2) (h2 : Go.Sort.scanDown (fun x => !ltN x d[a]!) d i2 j = j2) :
    Go.Sort.partLoop ltN a i j d = if i2 > j2 then (j2, d) else Go.Sort.partLoop ltN a (i2 + 1) (j2 - 1) (Go.Sort.swp d i2 j2) := by
  rw [Go.Sort.partLoop_eq, h1, h2]

set_option maxHeartbeats 4000000 in
set_option maxRecDepth 100000 in
theorem partEq_u64 (base g n cp a b pv m : Nat) (d d4 : Array Nat) (w : World) (hn : n ≤ 1000000) (ha : a ≤ pv) (hp : pv < b) (hb : b ≤ n) (h : RowU w base g n cp d) (hx : Go.Sort.partitionEqual ltN d a b pv = (m, d4)) :
    Calls Try.prog 108 #[.slice (some ⟨g, 0, none⟩) n cp, .int .i64 a, .int .i64 b, .int .i64 pv] w fun e w' => e = .returned (.int .i64 m) ∧ RowU w' base g n cp d4 ∧ OthersKept w w' (fun k => k = g) := by
  have LS := Lib.hid less_u64
  have H := Lib.hid h
  obtain ⟨b1, hb1⟩ : ∃ x, x = b - 1 := ⟨_, rfl⟩
  have HX0 : Hid (Go.Sort.partEqLoop ltN a (a + 1) b1 (Go.Sort.swp d a pv) = (m, d4)) := by show _ = _; rw [hb1]; exact hx
  have eb : (b : Int) - 1 = (b1 : Int) := by omega
  have hab1 : a ≤ b1 := by omega
  have hb1n : b1 < b := by omega
  clear h hx hb1
  go_enter Try.func108, Try.ntmps108
  go_upto_region 1 with fail
  go_cut [] (fun w' => RowU w' base g n cp (Go.Sort.swp d a pv) ∧ OthersKept w w' (fun k => k = g))
  case first =>
    have hRq := H.out
    have x1 := hRq.cell a (by omega)
    have x2 := hRq.cell pv (by omega)
    have f1 := hRq.frozen a
    have f2 := hRq.frozen pv
    have SW := Lib.hid (hRq.swap a pv (by omega) (by omega))
    have q1 : (0 : Int) ≤ (a : Int) := by omega
    have q2 : (a : Int) < (n : Int) := by omega
    have q3 : (0 : Int) ≤ (pv : Int) := by omega
    have q4 : (pv : Int) < (n : Int) := by omega
    clear hRq
    by_cases hEq : a = pv
    · subst hEq
      generalize d[a]! = u at *
      clear x2 f2 q3 q4
      go_region
      all_goals go_wp2_with fail
      go_meet
      exact ⟨SW.out.below (Below.refl _ _).drew, ((OthersKept.of_below (p := fun k => k = g) (Below.refl w.heap.size w)).trans (swap_kept _ g _ _ _ _) (fun _ _ h => h)).then_below (Below.refl _ _).drew⟩
    · have hEq2 : ¬ pv = a := fun h => hEq h.symm
      generalize d[a]! = u at *
      generalize d[pv]! = v at *
      go_region
      all_goals go_wp2_with fail
      go_meet
      exact ⟨SW.out.below (Below.refl _ _).drew, ((OthersKept.of_below (p := fun k => k = g) (Below.refl w.heap.size w)).trans (swap_kept _ g _ _ _ _) (fun _ _ h => h)).then_below (Below.refl _ _).drew⟩
  case rest =>
    obtain ⟨hR, hK⟩ := hcut
    have HR0 := Lib.hid hR
    have HK0 := Lib.hid hK
    clear hR hK
    go_wp2_with fail
    go_loopw [9, 10] (fun s9 s10 wr => ∃ (i j : Nat) (dk : Array Nat), s9 = .int .i64 i ∧ s10 = .int .i64 j ∧ a + 1 ≤ i ∧ i ≤ j + 2 ∧ j < b ∧ a ≤ j ∧ RowU wr base g n cp dk ∧ OthersKept w wr (fun k => k = g) ∧ Hid (Go.Sort.partEqLoop ltN a i j dk = (m, d4))) (fun vi vj _ => (intOf vj).toNat + 1 - (intOf vi).toNat)
    case atStart => exact ⟨a + 1, b1, _, by go_num, rfl, Nat.le_refl _, by omega, hb1n, hab1, HR0.out, HK0.out, HX0⟩
    case round =>
      obtain ⟨i, j, dk, rfl, rfl, hai, hij, hjb, haj, hR, hK, hS⟩ := hrel
      have HR1 := Lib.hid hR
      have HK1 := Lib.hid hK
      have HS1 := hS
      clear hR hK hS
      generalize wr = W1 at *
      obtain ⟨P, hPd⟩ : ∃ P : Nat → Bool, P = fun x => !ltN dk[a]! x := ⟨_, rfl⟩
      obtain ⟨Q, hQd⟩ : ∃ Q : Nat → Bool, Q = fun x => ltN dk[a]! x := ⟨_, rfl⟩
      have hP : ∀ x, P x = !ltN dk[a]! x := fun x => by rw [hPd]
      have hQ : ∀ x, Q x = ltN dk[a]! x := fun x => by rw [hQd]
      have HPd := Lib.hid hPd
      have HQd := Lib.hid hQd
      clear hPd hQd
      go_wp2_with fail
      go_loopw [9] (fun s wr => ∃ v2 : Nat, s = .int .i64 v2 ∧ i ≤ v2 ∧ v2 ≤ j + 2 ∧ Below W1.heap.size W1 wr ∧ Hid (Go.Sort.scanUp P dk j v2 = Go.Sort.scanUp P dk j i)) (fun v _ => j + 1 - (intOf v).toNat)
      case atStart => exact ⟨i, by first | rfl | (congr 1; omega), Nat.le_refl _, by omega, Below.refl _ _, rfl⟩
      case round =>
        obtain ⟨v2, rfl, hv1, hv2, hB, hS⟩ := hrel
        have HB2 := Lib.hid hB
        have HR2 := Lib.hid (HR1.out.below hB)
        have HS2 := hS
        clear hB hS
        go_upto_region 3 with fail
        go_cut [43] (fun st w' => st = .bool (decide (v2 ≤ j) && P dk[v2]!) ∧ Below W1.heap.size W1 w')
        case first =>
          have hRq := HR2.out
          have hgl := hRq.lt
          have e1 := ext_cell (hRq.cell a (by omega)) hgl
          have q1 : (0 : Int) ≤ (a : Int) := by omega
          have q2 : (a : Int) < (n : Int) := by omega
          by_cases hc : v2 ≤ j
          · have hci : (v2 : Int) ≤ (j : Int) := by omega
            have e2 := ext_cell (hRq.cell v2 (by omega)) hgl
            have q3 : (0 : Int) ≤ (v2 : Int) := by omega
            have q4 : (v2 : Int) < (n : Int) := by omega
            have HPv := Lib.hid (hP dk[v2]!)
            have HGD := Lib.hid (decide_eq_true hc)
            clear hRq
            generalize dk[a]! = x at *
            generalize dk[v2]! = y at *
            cases hl : ltN x y with
            | true =>
              have L1 := Lib.hid fun W => LS.out x y W
              rw [hl] at L1
              have HL := Lib.hid hl
              clear hl
              refine wp_region_ext wr.heap.size (by kernel_rfl) (by kernel_rfl) ?_
              repeat (go_big_quiet_step (first | (go_at_call 107; exact ext_call _ (Nat.le_refl _) (L1.out _))))
              refine wpQuiet_nil ?_
              rintro _ ⟨X, rfl⟩
              have HX := Lib.hid X.below
              go_wp2_with fail
              go_meet
              exact ⟨by rw [HGD.out, HPv.out, HL.out]; rfl, below_trans2 HB2.out HX.out⟩
            | false =>
              have L1 := Lib.hid fun W => LS.out x y W
              rw [hl] at L1
              have HL := Lib.hid hl
              clear hl
              refine wp_region_ext wr.heap.size (by kernel_rfl) (by kernel_rfl) ?_
              repeat (go_big_quiet_step (first | (go_at_call 107; exact ext_call _ (Nat.le_refl _) (L1.out _))))
              refine wpQuiet_nil ?_
              rintro _ ⟨X, rfl⟩
              have HX := Lib.hid X.below
              go_wp2_with fail
              go_meet
              exact ⟨by rw [HGD.out, HPv.out, HL.out]; rfl, below_trans2 HB2.out HX.out⟩
          · have hci : ¬ (v2 : Int) ≤ (j : Int) := by omega
            have HGD := Lib.hid (decide_eq_false hc)
            clear hRq
            refine wp_region_ext wr.heap.size (by kernel_rfl) (by kernel_rfl) ?_
            repeat (go_big_quiet_step (fail))
            refine wpQuiet_nil ?_
            rintro _ ⟨X, rfl⟩
            have HX := Lib.hid X.below
            go_wp2_with fail
            go_meet
            exact ⟨by rw [HGD.out]; rfl, below_trans2 HB2.out HX.out⟩
        case rest =>
          obtain ⟨rfl, hb1⟩ := hcut
          have HC2 := Lib.hid hb1
          clear hb1
          cases hT : (decide (v2 ≤ j) && P dk[v2]!) with
          | true =>
            have hc : v2 ≤ j := by simp only [Bool.and_eq_true, decide_eq_true_eq] at hT; exact hT.1
            have hS2 : Hid (Go.Sort.scanUp P dk j (v2 + 1) = Go.Sort.scanUp P dk j i) := (scanUp_go P dk j v2 hT).symm.trans HS2.out
            clear hT
            go_wp2_with fail
            go_roundw
            case rel => exact ⟨v2 + 1, by go_num, by omega, by omega, HC2.out, hS2⟩
            case measure => simp [intOf] <;> omega
          | false =>
            have hE2 : Go.Sort.scanUp P dk j i = v2 := HS2.out.symm.trans (scanUp_stop P dk j v2 hT)
            have HE2 := Lib.hid hE2
            clear hT hE2
            have HR2c := Lib.hid (HR1.out.below HC2.out)
            generalize wc = W2 at *
            have HW2 := Lib.hid (OthersKept.then_below HK1.out HC2.out)
            go_wp2_with fail
            go_loopw [10] (fun s wr => ∃ v3 : Nat, s = .int .i64 v3 ∧ v3 ≤ j ∧ a ≤ v3 ∧ Below W2.heap.size W2 wr ∧ Hid (Go.Sort.scanDown Q dk v2 v3 = Go.Sort.scanDown Q dk v2 j)) (fun v _ => (intOf v).toNat)
            case atStart => exact ⟨j, by first | rfl | (congr 1; omega), Nat.le_refl _, by omega, Below.refl _ _, rfl⟩
            case round =>
              obtain ⟨v3, rfl, hv1, hv2, hB, hS⟩ := hrel
              have HB3 := Lib.hid hB
              have HR3 := Lib.hid (HR2c.out.below hB)
              have HS3 := hS
              clear hB hS
              go_upto_region 5 with fail
              go_cut [59] (fun st w' => st = .bool (decide (v2 ≤ v3) && Q dk[v3]!) ∧ Below W2.heap.size W2 w')
              case first =>
                have hRq := HR3.out
                have hgl := hRq.lt
                have e1 := ext_cell (hRq.cell a (by omega)) hgl
                have q1 : (0 : Int) ≤ (a : Int) := by omega
                have q2 : (a : Int) < (n : Int) := by omega
                by_cases hc : v2 ≤ v3
                · have hci : (v2 : Int) ≤ (v3 : Int) := by omega
                  have e2 := ext_cell (hRq.cell v3 (by omega)) hgl
                  have q3 : (0 : Int) ≤ (v3 : Int) := by omega
                  have q4 : (v3 : Int) < (n : Int) := by omega
                  have HPv := Lib.hid (hQ dk[v3]!)
                  have HGD := Lib.hid (decide_eq_true hc)
                  clear hRq
                  generalize dk[a]! = x at *
                  generalize dk[v3]! = y at *
                  cases hl : ltN x y with
                  | true =>
                    have L1 := Lib.hid fun W => LS.out x y W
                    rw [hl] at L1
                    have HL := Lib.hid hl
                    clear hl
                    refine wp_region_ext wr.heap.size (by kernel_rfl) (by kernel_rfl) ?_
                    repeat (go_big_quiet_step (first | (go_at_call 107; exact ext_call _ (Nat.le_refl _) (L1.out _))))
                    refine wpQuiet_nil ?_
                    rintro _ ⟨X, rfl⟩
                    have HX := Lib.hid X.below
                    go_wp2_with fail
                    go_meet
                    exact ⟨by rw [HGD.out, HPv.out, HL.out]; rfl, below_trans2 HB3.out HX.out⟩
                  | false =>
                    have L1 := Lib.hid fun W => LS.out x y W
                    rw [hl] at L1
                    have HL := Lib.hid hl
                    clear hl
                    refine wp_region_ext wr.heap.size (by kernel_rfl) (by kernel_rfl) ?_
                    repeat (go_big_quiet_step (first | (go_at_call 107; exact ext_call _ (Nat.le_refl _) (L1.out _))))
                    refine wpQuiet_nil ?_
                    rintro _ ⟨X, rfl⟩
                    have HX := Lib.hid X.below
                    go_wp2_with fail
                    go_meet
                    exact ⟨by rw [HGD.out, HPv.out, HL.out]; rfl, below_trans2 HB3.out HX.out⟩
                · have hci : ¬ (v2 : Int) ≤ (v3 : Int) := by omega
                  have HGD := Lib.hid (decide_eq_false hc)
                  clear hRq
                  refine wp_region_ext wr.heap.size (by kernel_rfl) (by kernel_rfl) ?_
                  repeat (go_big_quiet_step (fail))
                  refine wpQuiet_nil ?_
                  rintro _ ⟨X, rfl⟩
                  have HX := Lib.hid X.below
                  go_wp2_with fail
                  go_meet
                  exact ⟨by rw [HGD.out]; rfl, below_trans2 HB3.out HX.out⟩
              case rest =>
                obtain ⟨rfl, hb1⟩ := hcut
                have HC3 := Lib.hid hb1
                clear hb1
                cases hT : (decide (v2 ≤ v3) && Q dk[v3]!) with
                | true =>
                  have hc : v2 ≤ v3 := by simp only [Bool.and_eq_true, decide_eq_true_eq] at hT; exact hT.1
                  have hS2 : Hid (Go.Sort.scanDown Q dk v2 (v3 - 1) = Go.Sort.scanDown Q dk v2 j) := (scanDown_go Q dk v2 v3 (by omega) hT).symm.trans HS3.out
                  clear hT
                  go_wp2_with fail
                  go_roundw
                  case rel => exact ⟨v3 - 1, by congr 1; omega, by omega, by omega, HC3.out, hS2⟩
                  case measure => simp [intOf] <;> omega
                | false =>
                  have hE3 : Go.Sort.scanDown Q dk v2 j = v3 := HS3.out.symm.trans (scanDown_stop Q dk v2 v3 hT)
                  have HE3 := Lib.hid hE3
                  clear hT hE3
                  have HR3c := Lib.hid (HR2c.out.below HC3.out)
                  have HK3 := Lib.hid (HW2.out.then_below HC3.out)
                  have HST := Lib.hid (partEq_step a i j v2 v3 dk (by rw [← HPd.out]; exact HE2.out) (by rw [← HQd.out]; exact HE3.out))
                  by_cases hgt : v2 > v3
                  · have hgti : (v2 : Int) > (v3 : Int) := by omega
                    have hfin : (m, d4) = (v2, dk) := by rw [← HS1.out, HST.out, if_pos hgt]
                    injection hfin with hm hd
                    subst hm hd
                    clear hgt
                    go_wp2_with fail
                    go_ret
                    exact ⟨rfl, HR3c.out, HK3.out⟩
                  · have hgti : ¬ (v2 : Int) > (v3 : Int) := by omega
                    have HS4 : Hid (Go.Sort.partEqLoop ltN a (v2 + 1) (v3 - 1) (Go.Sort.swp dk v2 v3) = (m, d4)) := by show _ = _; rw [← HS1.out, HST.out, if_neg hgt]
                    go_upto_region 8 with fail
                    go_cut [] (fun w' => RowU w' base g n cp (Go.Sort.swp dk v2 v3) ∧ OthersKept w w' (fun k => k = g))
                    case first =>
                      have hRq := HR3c.out
                      have x1 := hRq.cell v2 (by omega)
                      have x2 := hRq.cell v3 (by omega)
                      have f1 := hRq.frozen v2
                      have f2 := hRq.frozen v3
                      have SW := Lib.hid (hRq.swap v2 v3 (by omega) (by omega))
                      have q1 : (0 : Int) ≤ (v2 : Int) := by omega
                      have q2 : (v2 : Int) < (n : Int) := by omega
                      have q3 : (0 : Int) ≤ (v3 : Int) := by omega
                      have q4 : (v3 : Int) < (n : Int) := by omega
                      clear hRq
                      by_cases hEq : v2 = v3
                      · subst hEq
                        generalize dk[v2]! = u at *
                        clear x2 f2 q3 q4
                        go_region
                        all_goals go_wp2_with fail
                        go_meet
                        exact ⟨SW.out.below (Below.refl _ _).drew, (HK3.out.trans (swap_kept _ g _ _ _ _) (fun _ _ h => h)).then_below (Below.refl _ _).drew⟩
                      · have hEq2 : ¬ v3 = v2 := fun h => hEq h.symm
                        generalize dk[v2]! = u at *
                        generalize dk[v3]! = v at *
                        go_region
                        all_goals go_wp2_with fail
                        go_meet
                        exact ⟨SW.out.below (Below.refl _ _).drew, (HK3.out.trans (swap_kept _ g _ _ _ _) (fun _ _ h => h)).then_below (Below.refl _ _).drew⟩
                    case rest =>
                      obtain ⟨hR, hK⟩ := hcut
                      go_wp2_with fail
                      go_roundw
                      case rel => exact ⟨v2 + 1, v3 - 1, _, by go_num, by congr 1; omega, by omega, by omega, by omega, by omega, hR, hK, HS4⟩
                      case measure => simp [intOf] <;> omega

end Go.Proofs.Ytoeaakadpillnaa
