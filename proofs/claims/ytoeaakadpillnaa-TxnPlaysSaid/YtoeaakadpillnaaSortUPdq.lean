/- slices.Sort at uint64: pdqsort. -/
import Derived.Test.YtoeaakadpillnaaRows
import Derived.Test.YtoeaakadpillnaaSortUPins
import Derived.Test.YtoeaakadpillnaaSortUPar
import Derived.Test.YtoeaakadpillnaaSortUPeq
import Derived.Test.YtoeaakadpillnaaSortUBrk
import Derived.Test.YtoeaakadpillnaaSortUGen
import Derived.Test.YtoeaakadpillnaaSortUCho
import Derived.Test.YtoeaakadpillnaaSortUPiv
import Derived.Test.YtoeaakadpillnaaSortURev
import Derived.Test.YtoeaakadpillnaaSortUHeap
import Derived.Test.YtoeaakadpillnaaSortUSift
import Derived.Test.YtoeaakadpillnaaSortUIns
import Derived.Test.YtoeaakadpillnaaSortU
import Derived.Test.YtoeaakadpillnaaLockRef
import Derived.Test.YtoeaakadpillnaaKept
import Derived.Test.YtoeaakadpillnaaQuietTail
import Derived.Test.YtoeaakadpillnaaAppAny
import Derived.Deep.LoopGhost
import Derived.Deep.CutBlock
import Derived.Sort.LotA
import Derived.Sort.LotD3
import Derived.Sort.WalkA
import Derived.Sort.LotC
import Derived.Sort.LotB
import Derived.WalkKit
import Derived.WalkLawsBesides
import Derived.WalkSpells
import Derived.LoopTactic
import Derived.WalkMore
import Derived.LoopN
import Derived.Laws.BitsAllLaws
import Derived.Laws.IdiomStrings
import Derived.BigQuiet
import Derived.Deep.QuietTactic
import Derived.Deep.DeepCutAuto
import Derived.Deep.RegionHeld3
import Derived.Deep.DrawnRows
import Derived.Lib.Hide
import Derived.Outline
import Derived.Deep.DeepMust
import Derived.Handy
namespace Go.Proofs.Ytoeaakadpillnaa
open Go.RowKit
set_option linter.unusedVariables false
set_option linter.unusedSimpArgs false

set_option maxHeartbeats 8000000 in
set_option maxRecDepth 100000 in
/-- pdqsort sorts. -/
theorem pdq_u64 (base g n cp : Nat) (hn : n ≤ 1000000) : ∀ (N a b lim : Nat) (d : Array Nat) (w : World), b - a < N → a ≤ b → b ≤ n → lim ≤ 1000000 → Go.Sort.Below ltN a b d → RowU w base g n cp d →
    Calls Try.prog 85 #[.slice (some ⟨g, 0, none⟩) n cp, .int .i64 a, .int .i64 b, .int .i64 lim] w fun e w' => ∃ d', e = .returned (.tuple #[]) ∧ (Go.Sort.PermIn a b d d' ∧ Go.Sort.SortedIn ltN a b d') ∧ RowU w' base g n cp d' ∧ OthersKept w w' (fun k => k = g) := by
  intro N
  induction N with
  | zero => intro a b lim d w h; exact absurd h (Nat.not_lt_zero _)
  | succ N ih =>
    intro a b lim d w hN hab hb hlim hBel h
    have IH := Lib.hid ih
    have H := Lib.hid h
    have HBel := Lib.hid hBel
    have LS := Lib.hid less_u64
    have INS := Lib.hid fun a b d W h1 h2 hR => insertion_u64 base g n cp a b d W hn h1 h2 hR
    have HEA := Lib.hid fun a b d W h1 h2 hR => heap_u64 base g n cp a b d W hn h1 h2 hR
    have BRK := Lib.hid fun a b d W h1 h2 hR => break_u64 base g n cp a b d W hn h1 h2 hR
    have CHO := Lib.hid fun a b d W h1 h2 hR => choosePivot_u64 base g n cp a b d W hn h1 h2 hR
    have REV := Lib.hid fun a b d W h1 h2 hR => reverse_u64 base g n cp a b d W hn h1 h2 hR
    have PIN := Lib.hid fun a b r d d4 W h1 h2 hR hx => partialIns_u64 base g n cp a b r d d4 W hn h1 h2 hR hx
    have PEQ := Lib.hid fun a b pv m d d4 W h1 h2 h3 hR hx => partEq_u64 base g n cp a b pv m d d4 W hn h1 h2 h3 hR hx
    have PAR := Lib.hid fun a b pv m ap d d4 W h1 h2 h3 hR hx => part_u64 base g n cp a b pv m ap d d4 W hn h1 h2 h3 hR hx
    clear ih h hBel
    go_enter Try.func85, Try.ntmps85
    go_wp2_with fail
    go_loopw [1, 2, 3, 8, 9] (fun s1 s2 s3 s8 s9 wr => ∃ (x y l : Nat) (wb wp : Bool) (dk : Array Nat), s1 = .int .i64 x ∧ s2 = .int .i64 y ∧ s3 = .int .i64 l ∧ s8 = .bool wb ∧ s9 = .bool wp ∧ x ≤ y ∧ y ≤ n ∧ y - x ≤ b - a ∧ l ≤ 1000000 ∧ Hid (Go.Sort.Below ltN x y dk) ∧ RowU wr base g n cp dk ∧ OthersKept w wr (fun k => k = g) ∧ Hid (∀ R, Go.Sort.PermIn x y dk R → Go.Sort.SortedIn ltN x y R → Go.Sort.PermIn a b d R ∧ Go.Sort.SortedIn ltN a b R)) (fun v1 v2 _ _ _ _ => (intOf v2).toNat - (intOf v1).toNat)
    case atStart => exact ⟨a, b, lim, true, true, d, rfl, rfl, rfl, rfl, rfl, hab, hb, Nat.le_refl _, hlim, HBel, H.out, OthersKept.of_below (Below.refl _ _), fun R h1 h2 => ⟨h1, h2⟩⟩
    case round =>
      obtain ⟨x, y, l, wb, wp, dk, rfl, rfl, rfl, rfl, rfl, hxy, hyn, hyx, hl, HB, hR, hK, HS⟩ := hrel
      have HR := Lib.hid hR
      have HK := Lib.hid hK
      have hds : dk.size = n := hR.size
      clear hR hK
      obtain ⟨len, hlen⟩ : ∃ t, t = y - x := ⟨_, rfl⟩
      obtain ⟨q, hq⟩ : ∃ t, t = len / 8 := ⟨_, rfl⟩
      have b1 : (y : Int) - (x : Int) = (len : Int) := by omega
      have m3 : ((len : Nat) : Int).tdiv 8 = (q : Int) := by rw [Int.tdiv_eq_ediv_of_nonneg (by omega)]; omega
      have m4 : IntKind.i64.wrap ((q : Nat) : Int) = (q : Int) := IntWalk.i64_in _ ⟨by omega, by omega⟩
      have hlenN : len < N + 1 := by omega
      have hylen : x + len = y := by omega
      clear hlen hq
      by_cases h12 : len ≤ 12
      · have h12i : (len : Int) ≤ 12 := by omega
        have hs := Go.Sort.insertionSort_holds swoN dk x y hxy (by omega)
        have HF := Lib.hid (HS.out _ hs.1 hs.2)
        clear hs
        go_wp2_with fail
        refine (INS.out x y dk _ hxy hyn HR.out).mono ?_
        rintro e w1 ⟨rfl, hR1, hK1⟩
        have HR1 := Lib.hid hR1
        have HK1 := Lib.hid (HK.out.trans hK1 (fun _ _ h => h))
        clear hR1 hK1
        go_wp2_with fail
        (try simp only [Exit.inBlock, Exit.then]); refine bodyPost_ret (results_none rfl _ _ _) rfl ?_
        exact ⟨_, rfl, HF.out, HR1.out, HK1.out⟩
      · have h12i : ¬ (len : Int) ≤ 12 := by omega
        have hx12 : x + 12 < y := by omega
        by_cases hl0 : l = 0
        · subst hl0
          have hs := Go.Sort.heapSort_holds swoN dk x y hxy (by omega)
          have HF := Lib.hid (HS.out _ hs.1 hs.2)
          clear hs
          go_wp2_with fail
          refine (HEA.out x y dk _ (by omega) hyn HR.out).mono ?_
          rintro e w1 ⟨rfl, hR1, hK1⟩
          have HR1 := Lib.hid hR1
          have HK1 := Lib.hid (HK.out.trans hK1 (fun _ _ h => h))
          clear hR1 hK1
          go_wp2_with fail
          (try simp only [Exit.inBlock, Exit.then]); refine bodyPost_ret (results_none rfl _ _ _) rfl ?_
          exact ⟨_, rfl, HF.out, HR1.out, HK1.out⟩
        · have hl0i : ¬ (l : Int) = 0 := by omega
          go_upto_if 35 with fail
          go_cut [3, 35] (fun s3 s35 w' => ∃ (l2 : Nat) (d1 : Array Nat), s3 = .int .i64 l2 ∧ (∃ t, s35 = .bool t) ∧ l2 ≤ 1000000 ∧ Go.Sort.PermIn x y dk d1 ∧ RowU w' base g n cp d1 ∧ OthersKept w w' (fun k => k = g))
          case first =>
            cases wb
            · go_wp2_with fail
              refine (BRK.out x y dk _ hx12 hyn HR.out).mono ?_
              rintro e w1 ⟨d1, hP1, rfl, hR1, hK1⟩
              have HP1 := Lib.hid hP1
              have HR1 := Lib.hid hR1
              have HK1 := Lib.hid (HK.out.trans hK1 (fun _ _ h => h))
              clear hP1 hR1 hK1
              go_wp2_with fail
              go_meet
              exact ⟨l - 1, d1, by congr 1; omega, ⟨_, rfl⟩, by omega, HP1.out, HR1.out, HK1.out⟩
            · go_wp2_with fail
              go_meet
              exact ⟨l, dk, rfl, ⟨_, rfl⟩, hl, Go.Sort.permIn_refl dk x y, HR.out, HK.out⟩
          case rest =>
            obtain ⟨l2, d1, rfl, ⟨t35, rfl⟩, hl2, hP1, hR1, hK1⟩ := hcut
            have HP1 := Lib.hid hP1
            have HR1 := Lib.hid hR1
            have HK1 := Lib.hid hK1
            clear hP1 hR1 hK1
            go_wp2_with fail
            refine (CHO.out x y d1 _ hx12 hyn HR1.out).mono ?_
            rintro e w2 ⟨p, c, hp1, hp2, hc, rfl, hb2⟩
            have HR2 := Lib.hid (HR1.out.below hb2)
            have HK2 := Lib.hid (HK1.out.then_below hb2)
            clear hb2
            go_upto_if 50 with fail
            go_cut [11, 12, 50] (fun s11 s12 s50 w' => ∃ (pv c2 : Nat) (d2 : Array Nat), s11 = .int .i64 pv ∧ s12 = .int .i64 c2 ∧ (∃ t, s50 = .bool t) ∧ x ≤ pv ∧ pv < y ∧ Go.Sort.PermIn x y d1 d2 ∧ RowU w' base g n cp d2 ∧ OthersKept w w' (fun k => k = g))
            case first =>
              by_cases hc2 : c = 2
              · have hci : (c : Int) = 2 := by omega
                go_wp2_with fail
                refine (REV.out x y d1 _ (by omega) hyn HR2.out).mono ?_
                rintro e w3 ⟨rfl, hR3, hK3⟩
                have HR3 := Lib.hid hR3
                have HK3 := Lib.hid (HK2.out.trans hK3 (fun _ _ h => h))
                have HP3 := Lib.hid (Go.Sort.reverseRange_holds d1 x y hxy (by have := HR1.out.size; omega))
                clear hR3 hK3
                go_wp2_with fail
                go_meet
                exact ⟨(y - 1) - (p - x), 1, _, by congr 1; omega, rfl, ⟨_, rfl⟩, by omega, by omega, HP3.out, HR3.out, HK3.out⟩
              · have hci : ¬ (c : Int) = 2 := by omega
                go_wp2_with fail
                go_meet
                exact ⟨p, c, d1, rfl, rfl, ⟨_, rfl⟩, hp1, hp2, Go.Sort.permIn_refl d1 x y, HR2.out, HK2.out⟩
            case rest =>
              obtain ⟨pv, c2, d2, rfl, rfl, ⟨t50, rfl⟩, hpv1, hpv2, hP2, hR3, hK3⟩ := hcut
              have HP2 := Lib.hid (Go.Sort.permIn_trans _ _ _ _ _ HP1.out hP2)
              have HR3 := Lib.hid hR3
              have HK3 := Lib.hid hK3
              clear hP2 hR3 hK3
              go_upto_region 15 with fail
              go_cut [68] (fun s68 w' => (∃ t, s68 = .bool t) ∧ w' = wc)
              case first =>
                cases wb <;> cases wp <;>
                  (by_cases hc1 : (c2 : Int) = 1
                   · go_wp2_with fail
                     go_meet
                     exact ⟨⟨_, rfl⟩, rfl⟩
                   · go_wp2_with fail
                     go_meet
                     exact ⟨⟨_, rfl⟩, rfl⟩)
              case rest =>
                obtain ⟨⟨t68, rfl⟩, rfl⟩ := hcut
                go_upto_if 68 with fail
                go_cut [68] (fun s68 w' => (∃ t, s68 = .bool t) ∧ ∃ d3 : Array Nat, Go.Sort.PermIn x y dk d3 ∧ RowU w' base g n cp d3 ∧ OthersKept w w' (fun k => k = g))
                case first =>
                  cases t68
                  · go_wp2_with fail
                    go_meet
                    exact ⟨⟨_, rfl⟩, d2, HP2.out, HR3.out, HK3.out⟩
                  · obtain ⟨d3, r, hx⟩ : ∃ d3 r, Go.Sort.partialInsertionSort ltN d2 x y = (d3, r) := ⟨_, _, rfl⟩
                    have hBk := HB.out.perm (show y ≤ dk.size by omega) HP2.out
                    have hsz2 : d2.size = n := HR3.out.size
                    have hpi := Go.Sort.partialInsertionSort_holds swoN d2 x y (by omega) (by omega) hBk
                    rw [hx] at hpi
                    have HPI := Lib.hid hpi
                    have HXX := Lib.hid hx
                    clear hx hpi hBk
                    go_wp2_with fail
                    refine (PIN.out x y r d2 d3 _ hx12 hyn HR3.out HXX.out).mono ?_
                    rintro e w3 ⟨rfl, hR4, hK4⟩
                    have HR4 := Lib.hid hR4
                    have HK4 := Lib.hid (HK3.out.trans hK4 (fun _ _ h => h))
                    clear hR4 hK4
                    cases r
                    · go_wp2_with fail
                      go_meet
                      exact ⟨⟨_, rfl⟩, d3, Go.Sort.permIn_trans _ _ _ _ _ HP2.out HPI.out.1, HR4.out, HK4.out⟩
                    · go_wp2_with fail
                      (try simp only [Exit.inBlock, Exit.then]); refine bodyPost_ret (results_none rfl _ _ _) rfl ?_
                      exact ⟨d3, rfl, HS.out d3 (Go.Sort.permIn_trans _ _ _ _ _ HP2.out HPI.out.1) (HPI.out.2 (by first | rfl | trivial)), HR4.out, HK4.out⟩
                case rest =>
                  obtain ⟨⟨t68, rfl⟩, d3, hP4, hR4, hK4⟩ := hcut
                  have HP4 := Lib.hid hP4
                  have HR4 := Lib.hid hR4
                  have HK4 := Lib.hid hK4
                  have hs3 : d3.size = n := hR4.size
                  have HB4 := Lib.hid (HB.out.perm (show y ≤ dk.size by omega) hP4)
                  clear hP4 hR4 hK4
                  obtain ⟨xm, hxm⟩ : ∃ t, t = x - 1 := ⟨_, rfl⟩
                  have HXM := Lib.hid hxm
                  have hxm1 : 0 < x → xm + 1 = x := fun h => by omega
                  clear hxm
                  go_upto_region 17 with fail
                  go_cut [87] (fun s87 w' => s87 = .bool (decide (0 < x) && !ltN d3[xm]! d3[pv]!) ∧ Below wc.heap.size wc w')
                  case first =>
                    have hRq := HR4.out
                    have hgl := hRq.lt
                    by_cases hc : 0 < x
                    · have hci : (0 : Int) < (x : Int) := by omega
                      have hxm2 := hxm1 hc
                      have m5 := wsub1 x xm (by omega) (by omega)
                      have e1 := ext_cell (hRq.cell xm (by omega)) hgl
                      have e2 := ext_cell (hRq.cell pv (by omega)) hgl
                      have q1 : (0 : Int) ≤ (xm : Int) := by omega
                      have q2 : (xm : Int) < (n : Int) := by omega
                      have q3 : (0 : Int) ≤ (pv : Int) := by omega
                      have q4 : (pv : Int) < (n : Int) := by omega
                      have HGD := Lib.hid (decide_eq_true hc)
                      clear hRq hxm1 hxm2
                      generalize d3[xm]! = ux at *
                      generalize d3[pv]! = uy at *
                      cases hlt : ltN ux uy with
                      | true =>
                        have L1 := Lib.hid fun W => LS.out ux uy W
                        rw [hlt] at L1
                        have HL := Lib.hid hlt
                        clear hlt
                        refine wp_region_ext wc.heap.size (by kernel_rfl) (by kernel_rfl) ?_
                        repeat (go_big_quiet_step (first | (go_at_call 107; exact ext_call _ (Nat.le_refl _) (L1.out _))))
                        refine wpQuiet_nil ?_
                        rintro _ ⟨X, rfl⟩
                        have HX := Lib.hid X.below
                        go_wp2_with fail
                        go_meet
                        exact ⟨by rw [HGD.out, HL.out]; rfl, HX.out⟩
                      | false =>
                        have L1 := Lib.hid fun W => LS.out ux uy W
                        rw [hlt] at L1
                        have HL := Lib.hid hlt
                        clear hlt
                        refine wp_region_ext wc.heap.size (by kernel_rfl) (by kernel_rfl) ?_
                        repeat (go_big_quiet_step (first | (go_at_call 107; exact ext_call _ (Nat.le_refl _) (L1.out _))))
                        refine wpQuiet_nil ?_
                        rintro _ ⟨X, rfl⟩
                        have HX := Lib.hid X.below
                        go_wp2_with fail
                        go_meet
                        exact ⟨by rw [HGD.out, HL.out]; rfl, HX.out⟩
                    · have hci : ¬ (0 : Int) < (x : Int) := by omega
                      have HGD := Lib.hid (decide_eq_false hc)
                      clear hRq hxm1
                      refine wp_region_ext wc.heap.size (by kernel_rfl) (by kernel_rfl) ?_
                      repeat (go_big_quiet_step (fail))
                      refine wpQuiet_nil ?_
                      rintro _ ⟨X, rfl⟩
                      have HX := Lib.hid X.below
                      go_wp2_with fail
                      go_meet
                      exact ⟨by rw [HGD.out]; rfl, HX.out⟩
                  case rest =>
                    obtain ⟨rfl, hb5⟩ := hcut
                    have HR5 := Lib.hid (HR4.out.below hb5)
                    have HK5 := Lib.hid (HK4.out.then_below hb5)
                    clear hb5
                    cases hT : (decide (0 < x) && !ltN d3[xm]! d3[pv]!) with
                    | true =>
                      obtain ⟨m, d4, hx⟩ : ∃ m d4, Go.Sort.partitionEqual ltN d3 x y pv = (m, d4) := ⟨_, _, rfl⟩
                      have hT2 : 0 < x ∧ ltN d3[xm]! d3[pv]! = false := by simpa using hT
                      rw [HXM.out] at hT2
                      obtain ⟨r1, r2, r3, r4, r5⟩ := Go.Sort.round_eq swoN (Go.Sort.partitionEqual_holds ltN) hT2.1 hpv1 hpv2 (show y ≤ d3.size by omega) HB4.out hT2.2 hx
                      have HXX := Lib.hid hx
                      have R4 := Lib.hid r4
                      have R5 : Hid (∀ R, Go.Sort.PermIn m y d4 R → Go.Sort.SortedIn ltN m y R → Go.Sort.PermIn a b d R ∧ Go.Sort.SortedIn ltN a b R) := fun R h1 h2 => HS.out R (Go.Sort.permIn_trans _ _ _ _ _ HP4.out (r5 R h1 h2).1) (r5 R h1 h2).2
                      clear hx r3 r4 r5 hT hT2 hxm1
                      go_wp2_with fail
                      refine (PEQ.out x y pv m d3 d4 _ hpv1 hpv2 hyn HR5.out HXX.out).mono ?_
                      rintro e w6 ⟨rfl, hR6, hK6⟩
                      have HR6 := Lib.hid hR6
                      have HK6 := Lib.hid (HK5.out.trans hK6 (fun _ _ h => h))
                      clear hR6 hK6
                      go_wp2_with fail
                      go_roundw
                      case rel => exact ⟨m, y, l2, wb, wp, d4, rfl, rfl, rfl, rfl, rfl, r2, hyn, by omega, hl2, R4, HR6.out, HK6.out, R5⟩
                      case measure => simp [intOf] <;> omega
                    | false =>
                      obtain ⟨m, ap, d4, hx⟩ : ∃ m ap d4, Go.Sort.partition ltN d3 x y pv = (m, ap, d4) := ⟨_, _, _, rfl⟩
                      obtain ⟨r1, r2, r3, r4, r5, r6, r7⟩ := Go.Sort.round_part swoN (Go.Sort.partition_holds ltN) hpv1 hpv2 (show y ≤ d3.size by omega) HB4.out hx
                      have HXX := Lib.hid hx
                      have R4 := Lib.hid r4
                      have R5 := Lib.hid r5
                      have R6 := Lib.hid r6
                      have R7 := Lib.hid r7
                      clear hx r3 r4 r5 r6 r7 hT hxm1
                      go_wp2_with fail
                      refine (PAR.out x y pv m ap d3 d4 _ hpv1 hpv2 hyn HR5.out HXX.out).mono ?_
                      rintro e w6 ⟨rfl, hR6, hK6⟩
                      have HR6 := Lib.hid hR6
                      have HK6 := Lib.hid (HK5.out.trans hK6 (fun _ _ h => h))
                      clear hR6 hK6
                      obtain ⟨u1, hu1⟩ : ∃ t, t = m - x := ⟨_, rfl⟩
                      obtain ⟨u2, hu2⟩ : ∃ t, t = y - m := ⟨_, rfl⟩
                      have b3 : (m : Int) - (x : Int) = (u1 : Int) := by omega
                      have b4 : (y : Int) - (m : Int) = (u2 : Int) := by omega
                      have hmx : x + u1 = m := by omega
                      have hmy : m + u2 = y := by omega
                      clear hu1 hu2
                      by_cases hlr : u1 < u2
                      · have hlri : (u1 : Int) < (u2 : Int) := by omega
                        go_wp2_with fail
                        refine (IH.out x m l2 d4 _ (by omega) r1 (by omega) hl2 R4.out HR6.out).mono ?_
                        rintro e w7 ⟨dL, rfl, hPS, hR7, hK7⟩
                        have HR7 := Lib.hid hR7
                        have HK7 := Lib.hid (HK6.out.trans hK7 (fun _ _ h => h))
                        have hq6 := R6.out dL hPS.1 hPS.2
                        have HB7 := Lib.hid hq6.1
                        have HS7 : Hid (∀ R, Go.Sort.PermIn (m + 1) y dL R → Go.Sort.SortedIn ltN (m + 1) y R → Go.Sort.PermIn a b d R ∧ Go.Sort.SortedIn ltN a b R) := fun R h1 h2 => HS.out R (Go.Sort.permIn_trans _ _ _ _ _ HP4.out (hq6.2 R h1 h2).1) (hq6.2 R h1 h2).2
                        clear hR7 hK7 hPS hq6
                        go_wp2_with fail
                        go_roundw
                        case rel => exact ⟨m + 1, y, l2, _, ap, dL, by go_num, rfl, rfl, rfl, rfl, by omega, hyn, by omega, hl2, HB7, HR7.out, HK7.out, HS7⟩
                        case measure => simp [intOf] <;> omega
                      · have hlri : ¬ (u1 : Int) < (u2 : Int) := by omega
                        obtain ⟨m1, hm1⟩ : ∃ t, t = m + 1 := ⟨_, rfl⟩
                        have em1 : (m : Int) + 1 = (m1 : Int) := by omega
                        rw [← hm1] at R5 R7
                        have hm2 : m + 1 = m1 := hm1.symm
                        clear hm1
                        go_wp2_with fail
                        (try rw [em1])
                        refine (IH.out m1 y l2 d4 _ (by omega) (by omega) hyn hl2 R5.out HR6.out).mono ?_
                        rintro e w7 ⟨dL, rfl, hPS, hR7, hK7⟩
                        have HR7 := Lib.hid hR7
                        have HK7 := Lib.hid (HK6.out.trans hK7 (fun _ _ h => h))
                        have hq6 := R7.out dL hPS.1 hPS.2
                        have HB7 := Lib.hid hq6.1
                        have HS7 : Hid (∀ R, Go.Sort.PermIn x m dL R → Go.Sort.SortedIn ltN x m R → Go.Sort.PermIn a b d R ∧ Go.Sort.SortedIn ltN a b R) := fun R h1 h2 => HS.out R (Go.Sort.permIn_trans _ _ _ _ _ HP4.out (hq6.2 R h1 h2).1) (hq6.2 R h1 h2).2
                        clear hR7 hK7 hPS hq6
                        go_wp2_with fail
                        go_roundw
                        case rel => exact ⟨x, m, l2, _, ap, dL, rfl, rfl, rfl, rfl, rfl, r1, by omega, by omega, hl2, HB7, HR7.out, HK7.out, HS7⟩
                        case measure => simp [intOf] <;> omega

end Go.Proofs.Ytoeaakadpillnaa
