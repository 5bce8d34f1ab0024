/- slices.Sort at uint64: partialInsertionSort. -/
import Derived.Test.YtoeaakadpillnaaRows
import Derived.Test.YtoeaakadpillnaaSortUPar
import Derived.Test.YtoeaakadpillnaaSortUPeq
import Derived.Test.YtoeaakadpillnaaSortUBrk
import Derived.Test.YtoeaakadpillnaaSortUGen
import Derived.Test.YtoeaakadpillnaaSortUCho
import Derived.Test.YtoeaakadpillnaaSortUPiv
import Derived.Test.YtoeaakadpillnaaSortURev
import Derived.Test.YtoeaakadpillnaaSortUHeap
import Derived.Test.YtoeaakadpillnaaSortUSift
import Derived.Test.YtoeaakadpillnaaSortUIns
import Derived.Test.YtoeaakadpillnaaSortU
import Derived.Test.YtoeaakadpillnaaLockRef
import Derived.Test.YtoeaakadpillnaaKept
import Derived.Test.YtoeaakadpillnaaQuietTail
import Derived.Test.YtoeaakadpillnaaAppAny
import Derived.Deep.LoopGhost
import Derived.Deep.CutBlock
import Derived.Sort.LotA
import Derived.Sort.LotD3
import Derived.Sort.WalkA
import Derived.Sort.LotC
import Derived.WalkKit
import Derived.WalkLawsBesides
import Derived.WalkSpells
import Derived.LoopTactic
import Derived.WalkMore
import Derived.LoopN
import Derived.Laws.BitsAllLaws
import Derived.Laws.IdiomStrings
import Derived.BigQuiet
import Derived.Deep.QuietTactic
import Derived.Deep.DeepCutAuto
import Derived.Deep.RegionHeld3
import Derived.Deep.DrawnRows
import Derived.Lib.Hide
import Derived.Outline
import Derived.Deep.DeepMust
import Derived.Handy
namespace Go.Proofs.Ytoeaakadpillnaa
open Go.RowKit
set_option linter.unusedVariables false
set_option linter.unusedSimpArgs false

theorem scanS_go (d : Array Nat) (b i m : Nat) (hm : m + 1 = i) (h : (decide (i < b) && !ltN d[i]! d[m]!) = true) : Go.Sort.scanSorted ltN d b i = Go.Sort.scanSorted ltN d b (i + 1) := by
  subst hm
  conv => lhs; rw [Go.Sort.scanSorted, if_pos (by rw [Nat.add_sub_cancel]; exact h)]
theorem scanS_stop (d : Array Nat) (b i m : Nat) (hm : m + 1 = i) (h : (decide (i < b) && !ltN d[i]! d[m]!) = false) : Go.Sort.scanSorted ltN d b i = i := by
  subst hm
  rw [Go.Sort.scanSorted, if_neg (by rw [Nat.add_sub_cancel, h]; simp)]
theorem shiftD_zero (d : Array Nat) : Go.Sort.shiftDown ltN 0 d = d := rfl
theorem shiftD_stop (j m : Nat) (d : Array Nat) (hm : m + 1 = j) (h : ltN d[j]! d[m]! = false) : Go.Sort.shiftDown ltN j d = d := by
  subst hm; rw [Go.Sort.shiftDown, h]; rfl
theorem shiftD_go (j m : Nat) (d : Array Nat) (hm : m + 1 = j) (h : ltN d[j]! d[m]! = true) : Go.Sort.shiftDown ltN j d = Go.Sort.shiftDown ltN m (Go.Sort.swp d j m) := by
  subst hm; rw [Go.Sort.shiftDown, h]; rfl
theorem shiftU_end (b j : Nat) (d : Array Nat) (h : ¬ j < b) : Go.Sort.shiftUp ltN b j d = d := by rw [Go.Sort.shiftUp, if_neg h]
theorem shiftU_stop (b j m : Nat) (d : Array Nat) (hm : m + 1 = j) (hj : j < b) (h : ltN d[j]! d[m]! = false) : Go.Sort.shiftUp ltN b j d = d := by
  subst hm; rw [Go.Sort.shiftUp, if_pos hj, Nat.add_sub_cancel, h]; rfl
theorem shiftU_go (b j m : Nat) (d : Array Nat) (hm : m + 1 = j) (hj : j < b) (h : ltN d[j]! d[m]! = true) : Go.Sort.shiftUp ltN b j d = Go.Sort.shiftUp ltN b (j + 1) (Go.Sort.swp d j m) := by
  subst hm
  conv => lhs; rw [Go.Sort.shiftUp, if_pos hj, Nat.add_sub_cancel, h]
  rfl

set_option maxHeartbeats 4000000 in
set_option maxRecDepth 100000 in
theorem partialIns_u64 (base g n cp a b : Nat) (r : Bool) (d d4 : Array Nat) (w : World) (hn : n ≤ 1000000) (ha : a + 12 < b) (hb : b ≤ n) (h : RowU w base g n cp d) (hx : Go.Sort.partialInsertionSort ltN d a b = (d4, r)) :
    Calls Try.prog 106 #[.slice (some ⟨g, 0, none⟩) n cp, .int .i64 a, .int .i64 b] w fun e w' => e = .returned (.bool r) ∧ RowU w' base g n cp d4 ∧ OthersKept w w' (fun k => k = g) := by
  have LS := Lib.hid less_u64
  have H := Lib.hid h
  have HX0 : Hid (Go.Sort.partialIns ltN a b 5 (a + 1) d = (d4, r)) := hx
  clear h hx
  go_enter Try.func106, Try.ntmps106
  go_wp2_with fail
  go_loopw [7, 8] (fun s7 s8 wr => ∃ (i k s : Nat) (dk : Array Nat), s7 = .int .i64 i ∧ s8 = .int .i64 k ∧ k + s = 5 ∧ a + 1 ≤ i ∧ i ≤ b ∧ RowU wr base g n cp dk ∧ OthersKept w wr (fun k => k = g) ∧ Hid (Go.Sort.partialIns ltN a b s i dk = (d4, r))) (fun _ vk _ => 5 - (intOf vk).toNat)
  case atStart => exact ⟨a + 1, 0, 5, d, by go_num, rfl, rfl, Nat.le_refl _, by omega, H.out, OthersKept.of_below (Below.refl _ _), HX0⟩
  case round =>
    obtain ⟨i, k, s, dk, rfl, rfl, hks, hai, hib, hR, hK, hS⟩ := hrel
    have HR1 := Lib.hid hR
    have HK1 := Lib.hid hK
    have HS1 := hS
    clear hR hK hS
    generalize wr = W1 at *
    cases s with
    | zero =>
      obtain rfl : k = 5 := by omega
      have hfin : (dk, false) = (d4, r) := HS1.out
      injection hfin with h1 h2
      subst h1 h2
      go_wp2_with fail
      go_ret
      exact ⟨rfl, HR1.out, HK1.out⟩
    | succ s =>
      have hk5 : k < 5 := by omega
      have hk5i : (k : Int) < 5 := by omega
      go_wp2_with fail
      go_loopw [7] (fun s wr => ∃ v : Nat, s = .int .i64 v ∧ i ≤ v ∧ v ≤ b ∧ Below W1.heap.size W1 wr ∧ Hid (Go.Sort.scanSorted ltN dk b v = Go.Sort.scanSorted ltN dk b i)) (fun v _ => b - (intOf v).toNat)
      case atStart => exact ⟨i, rfl, Nat.le_refl _, hib, Below.refl _ _, rfl⟩
      case round =>
        obtain ⟨v, rfl, hv1, hv2, hB, hS⟩ := hrel
        have HB2 := Lib.hid hB
        have HR2 := Lib.hid (HR1.out.below hB)
        have HS2 := hS
        clear hB hS
        obtain ⟨vm, hvm⟩ : ∃ x, x = v - 1 := ⟨_, rfl⟩
        have m1 := wsub1 v vm (by omega) (by omega)
        have hvm1 : vm + 1 = v := by omega
        clear hvm
        go_upto_region 5 with fail
        go_cut [32] (fun st w' => st = .bool (decide (v < b) && !ltN dk[v]! dk[vm]!) ∧ Below W1.heap.size W1 w')
        case first =>
          have hRq := HR2.out
          have hgl := hRq.lt
          by_cases hc : v < b
          · have hci : (v : Int) < (b : Int) := by omega
            have e1 := ext_cell (hRq.cell v (by omega)) hgl
            have e2 := ext_cell (hRq.cell vm (by omega)) hgl
            have q1 : (0 : Int) ≤ (v : Int) := by omega
            have q2 : (v : Int) < (n : Int) := by omega
            have q3 : (0 : Int) ≤ (vm : Int) := by omega
            have q4 : (vm : Int) < (n : Int) := by omega
            have HGD := Lib.hid (decide_eq_true hc)
            clear hRq
            generalize dk[v]! = x at *
            generalize dk[vm]! = y at *
            cases hl : ltN x y with
            | true =>
              have L1 := Lib.hid fun W => LS.out x y W
              rw [hl] at L1
              have HL := Lib.hid hl
              clear hl
              refine wp_region_ext wr.heap.size (by kernel_rfl) (by kernel_rfl) ?_
              repeat (go_big_quiet_step (first | (go_at_call 107; exact ext_call _ (Nat.le_refl _) (L1.out _))))
              refine wpQuiet_nil ?_
              rintro _ ⟨X, rfl⟩
              have HX := Lib.hid X.below
              go_wp2_with fail
              go_meet
              exact ⟨by rw [HGD.out, HL.out]; rfl, below_trans2 HB2.out HX.out⟩
            | false =>
              have L1 := Lib.hid fun W => LS.out x y W
              rw [hl] at L1
              have HL := Lib.hid hl
              clear hl
              refine wp_region_ext wr.heap.size (by kernel_rfl) (by kernel_rfl) ?_
              repeat (go_big_quiet_step (first | (go_at_call 107; exact ext_call _ (Nat.le_refl _) (L1.out _))))
              refine wpQuiet_nil ?_
              rintro _ ⟨X, rfl⟩
              have HX := Lib.hid X.below
              go_wp2_with fail
              go_meet
              exact ⟨by rw [HGD.out, HL.out]; rfl, below_trans2 HB2.out HX.out⟩
          · have hci : ¬ (v : Int) < (b : Int) := by omega
            have HGD := Lib.hid (decide_eq_false hc)
            clear hRq
            refine wp_region_ext wr.heap.size (by kernel_rfl) (by kernel_rfl) ?_
            repeat (go_big_quiet_step (fail))
            refine wpQuiet_nil ?_
            rintro _ ⟨X, rfl⟩
            have HX := Lib.hid X.below
            go_wp2_with fail
            go_meet
            exact ⟨by rw [HGD.out]; rfl, below_trans2 HB2.out HX.out⟩
        case rest =>
          obtain ⟨rfl, hb1⟩ := hcut
          have HC2 := Lib.hid hb1
          clear hb1
          cases hT : (decide (v < b) && !ltN dk[v]! dk[vm]!) with
          | true =>
            have hc : v < b := by simp only [Bool.and_eq_true, decide_eq_true_eq] at hT; exact hT.1
            have hS2 : Hid (Go.Sort.scanSorted ltN dk b (v + 1) = Go.Sort.scanSorted ltN dk b i) := (scanS_go dk b v vm hvm1 hT).symm.trans HS2.out
            clear hT
            go_wp2_with fail
            go_roundw
            case rel => exact ⟨v + 1, by go_num, by omega, by omega, HC2.out, hS2⟩
            case measure => simp [intOf] <;> omega
          | false =>
            have HE := Lib.hid (HS2.out.symm.trans (scanS_stop dk b v vm hvm1 hT))
            have HR3 := Lib.hid (HR1.out.below HC2.out)
            have HK3 := Lib.hid (HK1.out.then_below HC2.out)
            clear hT
            have HU : Hid ((if v = b then (dk, true) else if b - a < 50 then (dk, false) else
              Go.Sort.partialIns ltN a b s v (Go.Sort.fixUp ltN b v (Go.Sort.fixDown ltN a v (Go.Sort.swp dk v vm)))) = (d4, r)) := by
              show _ = _
              have := HS1.out
              rw [Go.Sort.partialIns_succ, HE.out] at this
              rw [show vm = v - 1 by omega]
              exact this
            by_cases hvb : v = b
            · have hvbi : (v : Int) = (b : Int) := by omega
              have hfin := HU.out
              rw [if_pos hvb] at hfin
              injection hfin with h1 h2
              subst h1 h2
              clear hvb
              go_wp2_with fail
              (try simp only [Exit.inBlock, Exit.then]); refine bodyPost_ret (results_tmp rfl _ _ _) rfl ?_
              exact ⟨rfl, HR3.out, HK3.out⟩
            · have hvbi : ¬ (v : Int) = (b : Int) := by omega
              by_cases h50 : b - a < 50
              · have h50i : (b : Int) - (a : Int) < 50 := by omega
                have hfin := HU.out
                rw [if_neg hvb, if_pos h50] at hfin
                injection hfin with h1 h2
                subst h1 h2
                go_wp2_with fail
                (try simp only [Exit.inBlock, Exit.then]); refine bodyPost_ret (results_tmp rfl _ _ _) rfl ?_
                exact ⟨rfl, HR3.out, HK3.out⟩
              · have h50i : ¬ (b : Int) - (a : Int) < 50 := by omega
                have HU2 := HU.out
                rw [if_neg hvb, if_neg h50] at HU2
                have HU2 := Lib.hid HU2
                have hvlb : v < b := by omega
                go_upto_region 11 with fail
                go_cut [] (fun w' => RowU w' base g n cp (Go.Sort.swp dk v vm) ∧ OthersKept w w' (fun k => k = g))
                case first =>
                  have hRq := HR3.out
                  have x1 := hRq.cell v (by omega)
                  have x2 := hRq.cell vm (by omega)
                  have f1 := hRq.frozen v
                  have f2 := hRq.frozen vm
                  have SW := Lib.hid (hRq.swap v vm (by omega) (by omega))
                  have q1 : (0 : Int) ≤ (v : Int) := by omega
                  have q2 : (v : Int) < (n : Int) := by omega
                  have q3 : (0 : Int) ≤ (vm : Int) := by omega
                  have q4 : (vm : Int) < (n : Int) := by omega
                  clear hRq
                  have hEq : ¬ v = vm := by omega
                  have hEq2 : ¬ vm = v := fun h => hEq h.symm
                  generalize dk[v]! = ux at *
                  generalize dk[vm]! = uy at *
                  go_region
                  all_goals go_wp2_with fail
                  go_meet
                  exact ⟨SW.out.below (Below.refl _ _).drew, (HK3.out.trans (swap_kept _ g _ _ _ _) (fun _ _ h => h)).then_below (Below.refl _ _).drew⟩
                case rest =>
                  obtain ⟨hR, hK⟩ := hcut
                  have HR5 := Lib.hid hR
                  have HK5 := Lib.hid hK
                  clear hR hK
                  go_upto_if 61 with fail
                  go_cut [61] (fun s61 w' => (∃ t, s61 = .bool t) ∧ RowU w' base g n cp (Go.Sort.fixDown ltN a v (Go.Sort.swp dk v vm)) ∧ OthersKept w w' (fun k => k = g))
                  case first =>
                    by_cases h2 : v - a ≥ 2
                    · have h2i : (v : Int) - (a : Int) ≥ 2 := by omega
                      have HF : Hid (Go.Sort.fixDown ltN a v (Go.Sort.swp dk v vm) = Go.Sort.shiftDown ltN vm (Go.Sort.swp dk v vm)) := by show _ = _; unfold Go.Sort.fixDown; rw [if_pos h2, show vm = v - 1 by omega]
                      generalize Go.Sort.fixDown ltN a v (Go.Sort.swp dk v vm) = dF at *
                      generalize Go.Sort.swp dk v vm = dS at *
                      go_wp2_with fail
                      go_loopw [9] (fun s9 wr => ∃ (j : Nat) (dj : Array Nat), s9 = .int .i64 j ∧ j < n ∧ RowU wr base g n cp dj ∧ OthersKept w wr (fun k => k = g) ∧ Hid (dF = Go.Sort.shiftDown ltN j dj)) (fun vj _ => (intOf vj).toNat)
                      case atStart => exact ⟨vm, _, by first | rfl | (congr 1; omega), by omega, HR5.out, HK5.out, HF.out⟩
                      case round =>
                        obtain ⟨j, dj, rfl, hjn, hRj, hKj, hSj⟩ := hrel
                        have HRj := Lib.hid hRj
                        have HKj := Lib.hid hKj
                        clear hKj
                        by_cases hj1 : 1 ≤ j
                        · have hj1i : (1 : Int) ≤ (j : Int) := by omega
                          obtain ⟨jm, hjm⟩ : ∃ x, x = j - 1 := ⟨_, rfl⟩
                          have hjm1 : jm + 1 = j := by omega
                          clear hjm
                          have m2 := wsub1 j jm (by omega) (by omega)
                          have hgl := hRj.lt
                          have e1 := ext_cell (hRj.cell j (by omega)) hgl
                          have e2 := ext_cell (hRj.cell jm (by omega)) hgl
                          have x1 := hRj.cell j (by omega)
                          have x2 := hRj.cell jm (by omega)
                          have f1 := hRj.frozen j
                          have f2 := hRj.frozen jm
                          have q1 : (0 : Int) ≤ (j : Int) := by omega
                          have q2 : (j : Int) < (n : Int) := by omega
                          have q3 : (0 : Int) ≤ (jm : Int) := by omega
                          have q4 : (jm : Int) < (n : Int) := by omega
                          have hEq : ¬ j = jm := by omega
                          have hEq2 : ¬ jm = j := fun h => hEq h.symm
                          have SW := Lib.hid fun W (hW : Below wr.heap.size wr W) => (hRj.below hW).swap j jm (by omega) (by omega)
                          have GO : Hid (ltN dj[j]! dj[jm]! = true → _) := fun hl => hSj.out.trans (shiftD_go j jm dj hjm1 hl)
                          have ST : Hid (ltN dj[j]! dj[jm]! = false → _) := fun hl => hSj.out.trans (shiftD_stop j jm dj hjm1 hl)
                          generalize dj[j]! = x at *
                          generalize dj[jm]! = y at *
                          clear hRj
                          cases hl : ltN x y with
                          | true =>
                            have L1 := Lib.hid fun W => LS.out x y W
                            rw [hl] at L1
                            have G1 := Lib.hid (GO.out hl)
                            clear hl ST
                            go_upto_region 16 with fail
                            refine wp_region_ext wr.heap.size (by kernel_rfl) (by kernel_rfl) ?_
                            repeat (go_big_quiet_step (first | (go_at_call 107; exact ext_call _ (Nat.le_refl _) (L1.out _))))
                            refine wpQuiet_nil ?_
                            rintro _ ⟨X, rfl⟩
                            have HX := Lib.hid X.below
                            have c3 := keep_cell HX.out x1
                            have c4 := keep_cell HX.out x2
                            have f3 := (HX.out.frozen (p := ⟨g, j, none⟩) hgl).trans f1
                            have f4 := (HX.out.frozen (p := ⟨g, jm, none⟩) hgl).trans f2
                            generalize X.val = wx at *
                            clear x1 x2 f1 f2 e1 e2
                            go_upto_region 17 with fail
                            go_region
                            all_goals go_wp2_with fail
                            go_roundw
                            case rel => exact ⟨jm, _, by first | rfl | (congr 1; omega), by omega, (SW.out _ HX.out).below (Below.refl _ _).drew, ((HKj.out.then_below HX.out).trans (swap_kept _ g _ _ _ _) (fun _ _ h => h)).then_below (Below.refl _ _).drew, G1.out⟩
                            case measure => simp [intOf] <;> omega
                          | false =>
                            have L1 := Lib.hid fun W => LS.out x y W
                            rw [hl] at L1
                            have G1 := Lib.hid (ST.out hl)
                            clear hl GO
                            go_upto_region 16 with fail
                            refine wp_region_ext wr.heap.size (by kernel_rfl) (by kernel_rfl) ?_
                            repeat (go_big_quiet_step (first | (go_at_call 107; exact ext_call _ (Nat.le_refl _) (L1.out _))))
                            refine wpQuiet_nil ?_
                            rintro _ ⟨X, rfl⟩
                            have HX := Lib.hid X.below
                            go_wp2_with fail
                            go_meet
                            exact ⟨⟨_, rfl⟩, by rw [G1.out]; exact HRj.out.below HX.out, HKj.out.then_below HX.out⟩
                        · have hj1i : ¬ (1 : Int) ≤ (j : Int) := by omega
                          obtain rfl : j = 0 := by omega
                          have e0 : dF = dj := hSj.out
                          clear hRj
                          go_wp2_with fail
                          go_meet
                          exact ⟨⟨_, rfl⟩, by rw [e0]; exact HRj.out, HKj.out⟩
                    · have h2i : ¬ (v : Int) - (a : Int) ≥ 2 := by omega
                      have HF : Go.Sort.fixDown ltN a v (Go.Sort.swp dk v vm) = Go.Sort.swp dk v vm := by unfold Go.Sort.fixDown; rw [if_neg h2]
                      go_wp2_with fail
                      go_meet
                      exact ⟨⟨_, rfl⟩, by rw [HF]; exact HR5.out, HK5.out⟩
                  case rest =>
                    obtain ⟨⟨t61, rfl⟩, hR6, hK6⟩ := hcut
                    have HR6 := Lib.hid hR6
                    have HK6 := Lib.hid hK6
                    clear hR6 hK6
                    generalize Go.Sort.fixDown ltN a v (Go.Sort.swp dk v vm) = dS at *
                    by_cases h2 : b - v ≥ 2
                    · have h2i : (b : Int) - (v : Int) ≥ 2 := by omega
                      have HF : Hid (Go.Sort.fixUp ltN b v dS = Go.Sort.shiftUp ltN b (v + 1) dS) := by show _ = _; unfold Go.Sort.fixUp; rw [if_pos h2]
                      generalize Go.Sort.fixUp ltN b v dS = dF at *
                      go_wp2_with fail
                      go_loopw [10] (fun s10 wr => ∃ (j : Nat) (dj : Array Nat), s10 = .int .i64 j ∧ 1 ≤ j ∧ j ≤ b ∧ RowU wr base g n cp dj ∧ OthersKept w wr (fun k => k = g) ∧ Hid (dF = Go.Sort.shiftUp ltN b j dj)) (fun vj _ => b - (intOf vj).toNat)
                      case atStart => exact ⟨v + 1, _, by go_num, by omega, by omega, HR6.out, HK6.out, HF.out⟩
                      case round =>
                        obtain ⟨j, dj, rfl, hj1, hjb, hRj, hKj, hSj⟩ := hrel
                        have HRj := Lib.hid hRj
                        have HKj := Lib.hid hKj
                        clear hKj
                        by_cases hjb2 : j < b
                        · have hj1i : (j : Int) < (b : Int) := by omega
                          obtain ⟨jm, hjm⟩ : ∃ x, x = j - 1 := ⟨_, rfl⟩
                          have hjm1 : jm + 1 = j := by omega
                          clear hjm
                          have m2 := wsub1 j jm (by omega) (by omega)
                          have hgl := hRj.lt
                          have e1 := ext_cell (hRj.cell j (by omega)) hgl
                          have e2 := ext_cell (hRj.cell jm (by omega)) hgl
                          have x1 := hRj.cell j (by omega)
                          have x2 := hRj.cell jm (by omega)
                          have f1 := hRj.frozen j
                          have f2 := hRj.frozen jm
                          have q1 : (0 : Int) ≤ (j : Int) := by omega
                          have q2 : (j : Int) < (n : Int) := by omega
                          have q3 : (0 : Int) ≤ (jm : Int) := by omega
                          have q4 : (jm : Int) < (n : Int) := by omega
                          have hEq : ¬ j = jm := by omega
                          have hEq2 : ¬ jm = j := fun h => hEq h.symm
                          have SW := Lib.hid fun W (hW : Below wr.heap.size wr W) => (hRj.below hW).swap j jm (by omega) (by omega)
                          have GO : Hid (ltN dj[j]! dj[jm]! = true → _) := fun hl => hSj.out.trans (shiftU_go b j jm dj hjm1 hjb2 hl)
                          have ST : Hid (ltN dj[j]! dj[jm]! = false → _) := fun hl => hSj.out.trans (shiftU_stop b j jm dj hjm1 hjb2 hl)
                          generalize dj[j]! = x at *
                          generalize dj[jm]! = y at *
                          clear hRj
                          cases hl : ltN x y with
                          | true =>
                            have L1 := Lib.hid fun W => LS.out x y W
                            rw [hl] at L1
                            have G1 := Lib.hid (GO.out hl)
                            clear hl ST
                            go_upto_region 22 with fail
                            refine wp_region_ext wr.heap.size (by kernel_rfl) (by kernel_rfl) ?_
                            repeat (go_big_quiet_step (first | (go_at_call 107; exact ext_call _ (Nat.le_refl _) (L1.out _))))
                            refine wpQuiet_nil ?_
                            rintro _ ⟨X, rfl⟩
                            have HX := Lib.hid X.below
                            have c3 := keep_cell HX.out x1
                            have c4 := keep_cell HX.out x2
                            have f3 := (HX.out.frozen (p := ⟨g, j, none⟩) hgl).trans f1
                            have f4 := (HX.out.frozen (p := ⟨g, jm, none⟩) hgl).trans f2
                            generalize X.val = wx at *
                            clear x1 x2 f1 f2 e1 e2
                            go_upto_region 23 with fail
                            go_region
                            all_goals go_wp2_with fail
                            go_roundw
                            case rel => exact ⟨j + 1, _, by go_num, by omega, by omega, (SW.out _ HX.out).below (Below.refl _ _).drew, ((HKj.out.then_below HX.out).trans (swap_kept _ g _ _ _ _) (fun _ _ h => h)).then_below (Below.refl _ _).drew, G1.out⟩
                            case measure => simp [intOf] <;> omega
                          | false =>
                            have L1 := Lib.hid fun W => LS.out x y W
                            rw [hl] at L1
                            have G1 := Lib.hid (ST.out hl)
                            clear hl GO
                            go_upto_region 22 with fail
                            refine wp_region_ext wr.heap.size (by kernel_rfl) (by kernel_rfl) ?_
                            repeat (go_big_quiet_step (first | (go_at_call 107; exact ext_call _ (Nat.le_refl _) (L1.out _))))
                            refine wpQuiet_nil ?_
                            rintro _ ⟨X, rfl⟩
                            have HX := Lib.hid X.below
                            have HU3 := Lib.hid HU2.out
                            rw [G1.out] at HU3
                            go_wp2_with fail
                            go_roundw
                            case rel => exact ⟨v, k + 1, s, _, rfl, by go_num, by omega, by omega, by omega, HRj.out.below HX.out, HKj.out.then_below HX.out, HU3.out⟩
                            case measure => simp [intOf] <;> omega
                        · have hj1i : ¬ (j : Int) < (b : Int) := by omega
                          have e0 : dF = dj := hSj.out.trans (shiftU_end b j dj hjb2)
                          have HU3 := Lib.hid HU2.out
                          rw [e0] at HU3
                          clear hRj e0
                          go_wp2_with fail
                          go_roundw
                          case rel => exact ⟨v, k + 1, s, _, rfl, by go_num, by omega, by omega, by omega, HRj.out, HKj.out, HU3.out⟩
                          case measure => simp [intOf] <;> omega
                    · have h2i : ¬ (b : Int) - (v : Int) ≥ 2 := by omega
                      have HF : Go.Sort.fixUp ltN b v dS = dS := by unfold Go.Sort.fixUp; rw [if_neg h2]
                      have HU3 := Lib.hid HU2.out
                      rw [HF] at HU3
                      go_wp2_with fail
                      go_roundw
                      case rel => exact ⟨v, k + 1, s, _, rfl, by go_num, by omega, by omega, by omega, HR6.out, HK6.out, HU3.out⟩
                      case measure => simp [intOf] <;> omega

end Go.Proofs.Ytoeaakadpillnaa
