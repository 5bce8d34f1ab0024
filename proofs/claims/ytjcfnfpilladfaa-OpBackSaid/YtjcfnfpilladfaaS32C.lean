/- slices.Sort at uint32: the partial insertion, the loop. -/
import Derived.Test.YtjcfnfpilladfaaRows
import Derived.Test.YtjcfnfpilladfaaShelf
import Derived.Test.YtjcfnfpilladfaaS32A
import Derived.Test.YtjcfnfpilladfaaS32B
import Derived.Test.YtjcfnfpilladfaaBase
import Derived.Deep.LoopGhost
import Derived.Deep.CutBlock
import Derived.Sort.LotA
import Derived.Sort.LotD3
import Derived.Sort.WalkA
import Derived.Sort.LotC
import Derived.WalkKit
import Derived.WalkLawsBesides
import Derived.WalkSpells
import Derived.LoopTactic
import Derived.WalkMore
import Derived.LoopN
import Derived.Laws.BitsAllLaws
import Derived.Laws.IdiomStrings
import Derived.BigQuiet
import Derived.Deep.QuietTactic
import Derived.Deep.DeepCutAuto
import Derived.Deep.RegionHeld3
import Derived.Deep.DrawnRows
import Derived.Lib.Hide
import Derived.Outline
import Derived.Deep.DeepMust
import Derived.Handy
import Derived.Sort.LotB
namespace Go.Proofs.Ytjcfnfpilladfaa
open Go.RowKit
set_option linter.unusedVariables false
set_option linter.unusedSimpArgs false


theorem scanS_go (d : Array Nat) (b i m : Nat) (hm : m + 1 = i) (h : (decide (i < b) && !ltN d[i]! d[m]!) = true) : Go.Sort.scanSorted ltN d b i = Go.Sort.scanSorted ltN d b (i + 1) := by
  subst hm
  conv => lhs; rw [Go.Sort.scanSorted, if_pos (by rw [Nat.add_sub_cancel]; exact h)]
theorem scanS_stop (d : Array Nat) (b i m : Nat) (hm : m + 1 = i) (h : (decide (i < b) && !ltN d[i]! d[m]!) = false) : Go.Sort.scanSorted ltN d b i = i := by
  subst hm
  rw [Go.Sort.scanSorted, if_neg (by rw [Nat.add_sub_cancel, h]; simp)]
theorem shiftD_zero (d : Array Nat) : Go.Sort.shiftDown ltN 0 d = d := rfl
theorem shiftD_stop (j m : Nat) (d : Array Nat) (hm : m + 1 = j) (h : ltN d[j]! d[m]! = false) : Go.Sort.shiftDown ltN j d = d := by
  subst hm; rw [Go.Sort.shiftDown, h]; rfl
theorem shiftD_go (j m : Nat) (d : Array Nat) (hm : m + 1 = j) (h : ltN d[j]! d[m]! = true) : Go.Sort.shiftDown ltN j d = Go.Sort.shiftDown ltN m (Go.Sort.swp d j m) := by
  subst hm; rw [Go.Sort.shiftDown, h]; rfl
theorem shiftU_end (b j : Nat) (d : Array Nat) (h : ¬ j < b) : Go.Sort.shiftUp ltN b j d = d := by rw [Go.Sort.shiftUp, if_neg h]
theorem shiftU_stop (b j m : Nat) (d : Array Nat) (hm : m + 1 = j) (hj : j < b) (h : ltN d[j]! d[m]! = false) : Go.Sort.shiftUp ltN b j d = d := by
  subst hm; rw [Go.Sort.shiftUp, if_pos hj, Nat.add_sub_cancel, h]; rfl
theorem shiftU_go (b j m : Nat) (d : Array Nat) (hm : m + 1 = j) (hj : j < b) (h : ltN d[j]! d[m]! = true) : Go.Sort.shiftUp ltN b j d = Go.Sort.shiftUp ltN b (j + 1) (Go.Sort.swp d j m) := by
  subst hm
  conv => lhs; rw [Go.Sort.shiftUp, if_pos hj, Nat.add_sub_cancel, h]
  rfl

set_option maxHeartbeats 4000000 in
set_option maxRecDepth 100000 in
theorem partialIns_u64 (base g n cp a b : Nat) (r : Bool) (d d4 : Array Nat) (w : World) (hn : n ≤ 1000000) (ha : a + 12 < b) (hb : b ≤ n) (h : RowU w base g n cp d) (hx : Go.Sort.partialInsertionSort ltN d a b = (d4, r)) :
    Calls Try.prog 146 #[.slice (some ⟨g, 0, none⟩) n cp, .int .i64 a, .int .i64 b] w fun e w' => e = .returned (.bool r) ∧ RowU w' base g n cp d4 ∧ OthersKept w w' (fun k => k = g) := by
  have LS := Lib.hid less_u64
  have H := Lib.hid h
  have HX0 : Hid (Go.Sort.partialIns ltN a b 5 (a + 1) d = (d4, r)) := hx
  clear h hx
  go_enter Try.func146, Try.ntmps146
  go_wp2_with fail
  go_loopw [7, 8] (fun s7 s8 wr => ∃ (i k s : Nat) (dk : Array Nat), s7 = .int .i64 i ∧ s8 = .int .i64 k ∧ k + s = 5 ∧ a + 1 ≤ i ∧ i ≤ b ∧ RowU wr base g n cp dk ∧ OthersKept w wr (fun k => k = g) ∧ Hid (Go.Sort.partialIns ltN a b s i dk = (d4, r))) (fun _ vk _ => 5 - (intOf vk).toNat)
  case atStart => exact ⟨a + 1, 0, 5, d, by go_num, rfl, rfl, Nat.le_refl _, by omega, H.out, OthersKept.of_below (Below.refl _ _), HX0⟩
  case round =>
    obtain ⟨i, k, s, dk, rfl, rfl, hks, hai, hib, hR, hK, hS⟩ := hrel
    have HR1 := Lib.hid hR
    have HK1 := Lib.hid hK
    have HS1 := hS
    clear hR hK hS
    generalize wr = W1 at *
    cases s with
    | zero =>
      obtain rfl : k = 5 := by omega
      have hfin : (dk, false) = (d4, r) := HS1.out
      injection hfin with h1 h2
      subst h1 h2
      go_wp2_with fail
      go_ret
      exact ⟨rfl, HR1.out, HK1.out⟩
    | succ s =>
      have hk5 : k < 5 := by omega
      have hk5i : (k : Int) < 5 := by omega
      go_wp2_with fail
      go_loopw [7] (fun s wr => ∃ v : Nat, s = .int .i64 v ∧ i ≤ v ∧ v ≤ b ∧ Below W1.heap.size W1 wr ∧ Hid (Go.Sort.scanSorted ltN dk b v = Go.Sort.scanSorted ltN dk b i)) (fun v _ => b - (intOf v).toNat)
      case atStart => exact ⟨i, rfl, Nat.le_refl _, hib, Below.refl _ _, rfl⟩
      case round =>
        obtain ⟨v, rfl, hv1, hv2, hB, hS⟩ := hrel
        have HB2 := Lib.hid hB
        have HR2 := Lib.hid (HR1.out.below hB)
        have HS2 := hS
        clear hB hS
        obtain ⟨vm, hvm⟩ : ∃ x, x = v - 1 := ⟨_, rfl⟩
        have m1 := wsub1 v vm (by omega) (by omega)
        have hvm1 : vm + 1 = v := by omega
        clear hvm
        go_upto_region 5 with fail
        go_cut [32] (fun st w' => st = .bool (decide (v < b) && !ltN dk[v]! dk[vm]!) ∧ Below W1.heap.size W1 w')
        case first =>
          have hRq := HR2.out
          have hgl := hRq.lt
          by_cases hc : v < b
          · have hci : (v : Int) < (b : Int) := by omega
            have e1 := ext_cell (hRq.cell v (by omega)) hgl
            have e2 := ext_cell (hRq.cell vm (by omega)) hgl
            have q1 : (0 : Int) ≤ (v : Int) := by omega
            have q2 : (v : Int) < (n : Int) := by omega
            have q3 : (0 : Int) ≤ (vm : Int) := by omega
            have q4 : (vm : Int) < (n : Int) := by omega
            have HGD := Lib.hid (decide_eq_true hc)
            clear hRq
            generalize dk[v]! = x at *
            generalize dk[vm]! = y at *
            cases hl : ltN x y with
            | true =>
              have L1 := Lib.hid fun W => LS.out x y W
              rw [hl] at L1
              have HL := Lib.hid hl
              clear hl
              refine wp_region_ext wr.heap.size (by kernel_rfl) (by kernel_rfl) ?_
              repeat (go_big_quiet_step (first | (go_at_call 147; exact ext_call _ (Nat.le_refl _) (L1.out _))))
              refine wpQuiet_nil ?_
              rintro _ ⟨X, rfl⟩
              have HX := Lib.hid X.below
              go_wp2_with fail
              go_meet
              exact ⟨by rw [HGD.out, HL.out]; rfl, below_trans2 HB2.out HX.out⟩
            | false =>
              have L1 := Lib.hid fun W => LS.out x y W
              rw [hl] at L1
              have HL := Lib.hid hl
              clear hl
              refine wp_region_ext wr.heap.size (by kernel_rfl) (by kernel_rfl) ?_
              repeat (go_big_quiet_step (first | (go_at_call 147; exact ext_call _ (Nat.le_refl _) (L1.out _))))
              refine wpQuiet_nil ?_
              rintro _ ⟨X, rfl⟩
              have HX := Lib.hid X.below
              go_wp2_with fail
              go_meet
              exact ⟨by rw [HGD.out, HL.out]; rfl, below_trans2 HB2.out HX.out⟩
          · have hci : ¬ (v : Int) < (b : Int) := by omega
            have HGD := Lib.hid (decide_eq_false hc)
            clear hRq
            refine wp_region_ext wr.heap.size (by kernel_rfl) (by kernel_rfl) ?_
            repeat (go_big_quiet_step (fail))
            refine wpQuiet_nil ?_
            rintro _ ⟨X, rfl⟩
            have HX := Lib.hid X.below
            go_wp2_with fail
            go_meet
            exact ⟨by rw [HGD.out]; rfl, below_trans2 HB2.out HX.out⟩
        case rest =>
          obtain ⟨rfl, hb1⟩ := hcut
          have HC2 := Lib.hid hb1
          clear hb1
          cases hT : (decide (v < b) && !ltN dk[v]! dk[vm]!) with
          | true =>
            have hc : v < b := by simp only [Bool.and_eq_true, decide_eq_true_eq] at hT; exact hT.1
            have hS2 : Hid (Go.Sort.scanSorted ltN dk b (v + 1) = Go.Sort.scanSorted ltN dk b i) := (scanS_go dk b v vm hvm1 hT).symm.trans HS2.out
            clear hT
            go_wp2_with fail
            go_roundw
            case rel => exact ⟨v + 1, by go_num, by omega, by omega, HC2.out, hS2⟩
            case measure => simp [intOf] <;> omega
          | false =>
            have HE := Lib.hid (HS2.out.symm.trans (scanS_stop dk b v vm hvm1 hT))
            have HR3 := Lib.hid (HR1.out.below HC2.out)
            have HK3 := Lib.hid (HK1.out.then_below HC2.out)
            clear hT
            have HU : Hid ((if v = b then (dk, true) else if b - a < 50 then (dk, false) else
              Go.Sort.partialIns ltN a b s v (Go.Sort.fixUp ltN b v (Go.Sort.fixDown ltN a v (Go.Sort.swp dk v vm)))) = (d4, r)) := by
              show _ = _
              have := HS1.out
              rw [Go.Sort.partialIns_succ, HE.out] at this
              rw [show vm = v - 1 by omega]
              exact this
            by_cases hvb : v = b
            · have hvbi : (v : Int) = (b : Int) := by omega
              have hfin := HU.out
              rw [if_pos hvb] at hfin
              injection hfin with h1 h2
              subst h1 h2
              clear hvb
              go_wp2_with fail
              (try simp only [Exit.inBlock, Exit.then]); refine bodyPost_ret (results_tmp rfl _ _ _) rfl ?_
              exact ⟨rfl, HR3.out, HK3.out⟩
            · have hvbi : ¬ (v : Int) = (b : Int) := by omega
              by_cases h50 : b - a < 50
              · have h50i : (b : Int) - (a : Int) < 50 := by omega
                have hfin := HU.out
                rw [if_neg hvb, if_pos h50] at hfin
                injection hfin with h1 h2
                subst h1 h2
                go_wp2_with fail
                (try simp only [Exit.inBlock, Exit.then]); refine bodyPost_ret (results_tmp rfl _ _ _) rfl ?_
                exact ⟨rfl, HR3.out, HK3.out⟩
              · have h50i : ¬ (b : Int) - (a : Int) < 50 := by omega
                have HU2 := HU.out
                rw [if_neg hvb, if_neg h50] at HU2
                have HU2 := Lib.hid HU2
                have hvlb : v < b := by omega
                go_upto_region 11 with fail
                go_cut [] (fun w' => RowU w' base g n cp (Go.Sort.swp dk v vm) ∧ OthersKept w w' (fun k => k = g))
                case first =>
                  have hRq := HR3.out
                  have x1 := hRq.cell v (by omega)
                  have x2 := hRq.cell vm (by omega)
                  have f1 := hRq.frozen v
                  have f2 := hRq.frozen vm
                  have SW := Lib.hid (hRq.swap v vm (by omega) (by omega))
                  have q1 : (0 : Int) ≤ (v : Int) := by omega
                  have q2 : (v : Int) < (n : Int) := by omega
                  have q3 : (0 : Int) ≤ (vm : Int) := by omega
                  have q4 : (vm : Int) < (n : Int) := by omega
                  clear hRq
                  have hEq : ¬ v = vm := by omega
                  have hEq2 : ¬ vm = v := fun h => hEq h.symm
                  generalize dk[v]! = ux at *
                  generalize dk[vm]! = uy at *
                  go_region
                  all_goals go_wp2_with fail
                  go_meet
                  exact ⟨SW.out.below (Below.refl _ _).drew, (HK3.out.trans (swap_kept _ g _ _ _ _) (fun _ _ h => h)).then_below (Below.refl _ _).drew⟩
                case rest =>
                  obtain ⟨hR, hK⟩ := hcut
                  have HR5 := Lib.hid hR
                  have HK5 := Lib.hid hK
                  clear hR hK
                  go_upto_if 61 with fail
                  go_cut [61] (fun s61 w' => (∃ t, s61 = .bool t) ∧ RowU w' base g n cp (Go.Sort.fixDown ltN a v (Go.Sort.swp dk v vm)) ∧ OthersKept w w' (fun k => k = g))
                  case first =>
                    by_cases h2 : v - a ≥ 2
                    · have h2i : (v : Int) - (a : Int) ≥ 2 := by omega
                      have HF : Hid (Go.Sort.fixDown ltN a v (Go.Sort.swp dk v vm) = Go.Sort.shiftDown ltN vm (Go.Sort.swp dk v vm)) := by show _ = _; unfold Go.Sort.fixDown; rw [if_pos h2, show vm = v - 1 by omega]
                      generalize Go.Sort.fixDown ltN a v (Go.Sort.swp dk v vm) = dF at *
                      generalize Go.Sort.swp dk v vm = dS at *
                      go_wp2_with fail
                      go_loopw [9] (fun s9 wr => ∃ (j : Nat) (dj : Array Nat), s9 = .int .i64 j ∧ j < n ∧ RowU wr base g n cp dj ∧ OthersKept w wr (fun k => k = g) ∧ Hid (dF = Go.Sort.shiftDown ltN j dj)) (fun vj _ => (intOf vj).toNat)
                      case atStart => exact ⟨vm, _, by first | rfl | (congr 1; omega), by omega, HR5.out, HK5.out, HF.out⟩
                      case round =>
                        obtain ⟨j, dj, rfl, hjn, hRj, hKj, hSj⟩ := hrel
                        have HRj := Lib.hid hRj
                        have HKj := Lib.hid hKj
                        clear hKj
                        by_cases hj1 : 1 ≤ j
                        · have hj1i : (1 : Int) ≤ (j : Int) := by omega
                          obtain ⟨jm, hjm⟩ : ∃ x, x = j - 1 := ⟨_, rfl⟩
                          have hjm1 : jm + 1 = j := by omega
                          clear hjm
                          have m2 := wsub1 j jm (by omega) (by omega)
                          have hgl := hRj.lt
                          have e1 := ext_cell (hRj.cell j (by omega)) hgl
                          have e2 := ext_cell (hRj.cell jm (by omega)) hgl
                          have x1 := hRj.cell j (by omega)
                          have x2 := hRj.cell jm (by omega)
                          have f1 := hRj.frozen j
                          have f2 := hRj.frozen jm
                          have q1 : (0 : Int) ≤ (j : Int) := by omega
                          have q2 : (j : Int) < (n : Int) := by omega
                          have q3 : (0 : Int) ≤ (jm : Int) := by omega
                          have q4 : (jm : Int) < (n : Int) := by omega
                          have hEq : ¬ j = jm := by omega
                          have hEq2 : ¬ jm = j := fun h => hEq h.symm
                          have SW := Lib.hid fun W (hW : Below wr.heap.size wr W) => (hRj.below hW).swap j jm (by omega) (by omega)
                          have GO : Hid (ltN dj[j]! dj[jm]! = true → _) := fun hl => hSj.out.trans (shiftD_go j jm dj hjm1 hl)
                          have ST : Hid (ltN dj[j]! dj[jm]! = false → _) := fun hl => hSj.out.trans (shiftD_stop j jm dj hjm1 hl)
                          generalize dj[j]! = x at *
                          generalize dj[jm]! = y at *
                          clear hRj
                          cases hl : ltN x y with
                          | true =>
                            have L1 := Lib.hid fun W => LS.out x y W
                            rw [hl] at L1
                            have G1 := Lib.hid (GO.out hl)
                            clear hl ST
                            go_upto_region 16 with fail
                            refine wp_region_ext wr.heap.size (by kernel_rfl) (by kernel_rfl) ?_
                            repeat (go_big_quiet_step (first | (go_at_call 147; exact ext_call _ (Nat.le_refl _) (L1.out _))))
                            refine wpQuiet_nil ?_
                            rintro _ ⟨X, rfl⟩
                            have HX := Lib.hid X.below
                            have c3 := keep_cell HX.out x1
                            have c4 := keep_cell HX.out x2
                            have f3 := (HX.out.frozen (p := ⟨g, j, none⟩) hgl).trans f1
                            have f4 := (HX.out.frozen (p := ⟨g, jm, none⟩) hgl).trans f2
                            generalize X.val = wx at *
                            clear x1 x2 f1 f2 e1 e2
                            go_upto_region 17 with fail
                            go_region
                            all_goals go_wp2_with fail
                            go_roundw
                            case rel => exact ⟨jm, _, by first | rfl | (congr 1; omega), by omega, (SW.out _ HX.out).below (Below.refl _ _).drew, ((HKj.out.then_below HX.out).trans (swap_kept _ g _ _ _ _) (fun _ _ h => h)).then_below (Below.refl _ _).drew, G1.out⟩
                            case measure => simp [intOf] <;> omega
                          | false =>
                            have L1 := Lib.hid fun W => LS.out x y W
                            rw [hl] at L1
                            have G1 := Lib.hid (ST.out hl)
                            clear hl GO
                            go_upto_region 16 with fail
                            refine wp_region_ext wr.heap.size (by kernel_rfl) (by kernel_rfl) ?_
                            repeat (go_big_quiet_step (first | (go_at_call 147; exact ext_call _ (Nat.le_refl _) (L1.out _))))
                            refine wpQuiet_nil ?_
                            rintro _ ⟨X, rfl⟩
                            have HX := Lib.hid X.below
                            go_wp2_with fail
                            go_meet
                            exact ⟨⟨_, rfl⟩, by rw [G1.out]; exact HRj.out.below HX.out, HKj.out.then_below HX.out⟩
                        · have hj1i : ¬ (1 : Int) ≤ (j : Int) := by omega
                          obtain rfl : j = 0 := by omega
                          have e0 : dF = dj := hSj.out
                          clear hRj
                          go_wp2_with fail
                          go_meet
                          exact ⟨⟨_, rfl⟩, by rw [e0]; exact HRj.out, HKj.out⟩
                    · have h2i : ¬ (v : Int) - (a : Int) ≥ 2 := by omega
                      have HF : Go.Sort.fixDown ltN a v (Go.Sort.swp dk v vm) = Go.Sort.swp dk v vm := by unfold Go.Sort.fixDown; rw [if_neg h2]
                      go_wp2_with fail
                      go_meet
                      exact ⟨⟨_, rfl⟩, by rw [HF]; exact HR5.out, HK5.out⟩
                  case rest =>
                    obtain ⟨⟨t61, rfl⟩, hR6, hK6⟩ := hcut
                    have HR6 := Lib.hid hR6
                    have HK6 := Lib.hid hK6
                    clear hR6 hK6
                    generalize Go.Sort.fixDown ltN a v (Go.Sort.swp dk v vm) = dS at *
                    by_cases h2 : b - v ≥ 2
                    · have h2i : (b : Int) - (v : Int) ≥ 2 := by omega
                      have HF : Hid (Go.Sort.fixUp ltN b v dS = Go.Sort.shiftUp ltN b (v + 1) dS) := by show _ = _; unfold Go.Sort.fixUp; rw [if_pos h2]
                      generalize Go.Sort.fixUp ltN b v dS = dF at *
                      go_wp2_with fail
                      go_loopw [10] (fun s10 wr => ∃ (j : Nat) (dj : Array Nat), s10 = .int .i64 j ∧ 1 ≤ j ∧ j ≤ b ∧ RowU wr base g n cp dj ∧ OthersKept w wr (fun k => k = g) ∧ Hid (dF = Go.Sort.shiftUp ltN b j dj)) (fun vj _ => b - (intOf vj).toNat)
                      case atStart => exact ⟨v + 1, _, by go_num, by omega, by omega, HR6.out, HK6.out, HF.out⟩
                      case round =>
                        obtain ⟨j, dj, rfl, hj1, hjb, hRj, hKj, hSj⟩ := hrel
                        have HRj := Lib.hid hRj
                        have HKj := Lib.hid hKj
                        clear hKj
                        by_cases hjb2 : j < b
                        · have hj1i : (j : Int) < (b : Int) := by omega
                          obtain ⟨jm, hjm⟩ : ∃ x, x = j - 1 := ⟨_, rfl⟩
                          have hjm1 : jm + 1 = j := by omega
                          clear hjm
                          have m2 := wsub1 j jm (by omega) (by omega)
                          have hgl := hRj.lt
                          have e1 := ext_cell (hRj.cell j (by omega)) hgl
                          have e2 := ext_cell (hRj.cell jm (by omega)) hgl
                          have x1 := hRj.cell j (by omega)
                          have x2 := hRj.cell jm (by omega)
                          have f1 := hRj.frozen j
                          have f2 := hRj.frozen jm
                          have q1 : (0 : Int) ≤ (j : Int) := by omega
                          have q2 : (j : Int) < (n : Int) := by omega
                          have q3 : (0 : Int) ≤ (jm : Int) := by omega
                          have q4 : (jm : Int) < (n : Int) := by omega
                          have hEq : ¬ j = jm := by omega
                          have hEq2 : ¬ jm = j := fun h => hEq h.symm
                          have SW := Lib.hid fun W (hW : Below wr.heap.size wr W) => (hRj.below hW).swap j jm (by omega) (by omega)
                          have GO : Hid (ltN dj[j]! dj[jm]! = true → _) := fun hl => hSj.out.trans (shiftU_go b j jm dj hjm1 hjb2 hl)
                          have ST : Hid (ltN dj[j]! dj[jm]! = false → _) := fun hl => hSj.out.trans (shiftU_stop b j jm dj hjm1 hjb2 hl)
                          generalize dj[j]! = x at *
                          generalize dj[jm]! = y at *
                          clear hRj
                          cases hl : ltN x y with
                          | true =>
                            have L1 := Lib.hid fun W => LS.out x y W
                            rw [hl] at L1
                            have G1 := Lib.hid (GO.out hl)
                            clear hl ST
                            go_upto_region 22 with fail
                            refine wp_region_ext wr.heap.size (by kernel_rfl) (by kernel_rfl) ?_
                            repeat (go_big_quiet_step (first | (go_at_call 147; exact ext_call _ (Nat.le_refl _) (L1.out _))))
                            refine wpQuiet_nil ?_
                            rintro _ ⟨X, rfl⟩
                            have HX := Lib.hid X.below
                            have c3 := keep_cell HX.out x1
                            have c4 := keep_cell HX.out x2
                            have f3 := (HX.out.frozen (p := ⟨g, j, none⟩) hgl).trans f1
                            have f4 := (HX.out.frozen (p := ⟨g, jm, none⟩) hgl).trans f2
                            generalize X.val = wx at *
                            clear x1 x2 f1 f2 e1 e2
                            go_upto_region 23 with fail
                            go_region
                            all_goals go_wp2_with fail
                            go_roundw
                            case rel => exact ⟨j + 1, _, by go_num, by omega, by omega, (SW.out _ HX.out).below (Below.refl _ _).drew, ((HKj.out.then_below HX.out).trans (swap_kept _ g _ _ _ _) (fun _ _ h => h)).then_below (Below.refl _ _).drew, G1.out⟩
                            case measure => simp [intOf] <;> omega
                          | false =>
                            have L1 := Lib.hid fun W => LS.out x y W
                            rw [hl] at L1
                            have G1 := Lib.hid (ST.out hl)
                            clear hl GO
                            go_upto_region 22 with fail
                            refine wp_region_ext wr.heap.size (by kernel_rfl) (by kernel_rfl) ?_
                            repeat (go_big_quiet_step (first | (go_at_call 147; exact ext_call _ (Nat.le_refl _) (L1.out _))))
                            refine wpQuiet_nil ?_
                            rintro _ ⟨X, rfl⟩
                            have HX := Lib.hid X.below
                            have HU3 := Lib.hid HU2.out
                            rw [G1.out] at HU3
                            go_wp2_with fail
                            go_roundw
                            case rel => exact ⟨v, k + 1, s, _, rfl, by go_num, by omega, by omega, by omega, HRj.out.below HX.out, HKj.out.then_below HX.out, HU3.out⟩
                            case measure => simp [intOf] <;> omega
                        · have hj1i : ¬ (j : Int) < (b : Int) := by omega
                          have e0 : dF = dj := hSj.out.trans (shiftU_end b j dj hjb2)
                          have HU3 := Lib.hid HU2.out
                          rw [e0] at HU3
                          clear hRj e0
                          go_wp2_with fail
                          go_roundw
                          case rel => exact ⟨v, k + 1, s, _, rfl, by go_num, by omega, by omega, by omega, HRj.out, HKj.out, HU3.out⟩
                          case measure => simp [intOf] <;> omega
                    · have h2i : ¬ (b : Int) - (v : Int) ≥ 2 := by omega
                      have HF : Go.Sort.fixUp ltN b v dS = dS := by unfold Go.Sort.fixUp; rw [if_neg h2]
                      have HU3 := Lib.hid HU2.out
                      rw [HF] at HU3
                      go_wp2_with fail
                      go_roundw
                      case rel => exact ⟨v, k + 1, s, _, rfl, by go_num, by omega, by omega, by omega, HR6.out, HK6.out, HU3.out⟩
                      case measure => simp [intOf] <;> omega



set_option maxHeartbeats 8000000 in
set_option maxRecDepth 100000 in
/-- pdqsort sorts. -/
theorem pdq_u64 (base g n cp : Nat) (hn : n ≤ 1000000) : ∀ (N a b lim : Nat) (d : Array Nat) (w : World), b - a < N → a ≤ b → b ≤ n → lim ≤ 1000000 → Go.Sort.Below ltN a b d → RowU w base g n cp d →
    Calls Try.prog 121 #[.slice (some ⟨g, 0, none⟩) n cp, .int .i64 a, .int .i64 b, .int .i64 lim] w fun e w' => ∃ d', e = .returned (.tuple #[]) ∧ (Go.Sort.PermIn a b d d' ∧ Go.Sort.SortedIn ltN a b d') ∧ RowU w' base g n cp d' ∧ OthersKept w w' (fun k => k = g) := by
  intro N
  induction N with
  | zero => intro a b lim d w h; exact absurd h (Nat.not_lt_zero _)
  | succ N ih =>
    intro a b lim d w hN hab hb hlim hBel h
    have IH := Lib.hid ih
    have H := Lib.hid h
    have HBel := Lib.hid hBel
    have LS := Lib.hid less_u64
    have INS := Lib.hid fun a b d W h1 h2 hR => insertion_u64 base g n cp a b d W hn h1 h2 hR
    have HEA := Lib.hid fun a b d W h1 h2 hR => heap_u64 base g n cp a b d W hn h1 h2 hR
    have BRK := Lib.hid fun a b d W h1 h2 hR => break_u64 base g n cp a b d W hn h1 h2 hR
    have CHO := Lib.hid fun a b d W h1 h2 hR => choosePivot_u64 base g n cp a b d W hn h1 h2 hR
    have REV := Lib.hid fun a b d W h1 h2 hR => reverse_u64 base g n cp a b d W hn h1 h2 hR
    have PIN := Lib.hid fun a b r d d4 W h1 h2 hR hx => partialIns_u64 base g n cp a b r d d4 W hn h1 h2 hR hx
    have PEQ := Lib.hid fun a b pv m d d4 W h1 h2 h3 hR hx => partEq_u64 base g n cp a b pv m d d4 W hn h1 h2 h3 hR hx
    have PAR := Lib.hid fun a b pv m ap d d4 W h1 h2 h3 hR hx => part_u64 base g n cp a b pv m ap d d4 W hn h1 h2 h3 hR hx
    clear ih h hBel
    go_enter Try.func121, Try.ntmps121
    go_wp2_with fail
    go_loopw [1, 2, 3, 8, 9] (fun s1 s2 s3 s8 s9 wr => ∃ (x y l : Nat) (wb wp : Bool) (dk : Array Nat), s1 = .int .i64 x ∧ s2 = .int .i64 y ∧ s3 = .int .i64 l ∧ s8 = .bool wb ∧ s9 = .bool wp ∧ x ≤ y ∧ y ≤ n ∧ y - x ≤ b - a ∧ l ≤ 1000000 ∧ Hid (Go.Sort.Below ltN x y dk) ∧ RowU wr base g n cp dk ∧ OthersKept w wr (fun k => k = g) ∧ Hid (∀ R, Go.Sort.PermIn x y dk R → Go.Sort.SortedIn ltN x y R → Go.Sort.PermIn a b d R ∧ Go.Sort.SortedIn ltN a b R)) (fun v1 v2 _ _ _ _ => (intOf v2).toNat - (intOf v1).toNat)
    case atStart => exact ⟨a, b, lim, true, true, d, rfl, rfl, rfl, rfl, rfl, hab, hb, Nat.le_refl _, hlim, HBel, H.out, OthersKept.of_below (Below.refl _ _), fun R h1 h2 => ⟨h1, h2⟩⟩
    case round =>
      obtain ⟨x, y, l, wb, wp, dk, rfl, rfl, rfl, rfl, rfl, hxy, hyn, hyx, hl, HB, hR, hK, HS⟩ := hrel
      have HR := Lib.hid hR
      have HK := Lib.hid hK
      have hds : dk.size = n := hR.size
      clear hR hK
      obtain ⟨len, hlen⟩ : ∃ t, t = y - x := ⟨_, rfl⟩
      obtain ⟨q, hq⟩ : ∃ t, t = len / 8 := ⟨_, rfl⟩
      have b1 : (y : Int) - (x : Int) = (len : Int) := by omega
      have m3 : ((len : Nat) : Int).tdiv 8 = (q : Int) := by rw [Int.tdiv_eq_ediv_of_nonneg (by omega)]; omega
      have m4 : IntKind.i64.wrap ((q : Nat) : Int) = (q : Int) := IntWalk.i64_in _ ⟨by omega, by omega⟩
      have hlenN : len < N + 1 := by omega
      have hylen : x + len = y := by omega
      clear hlen hq
      by_cases h12 : len ≤ 12
      · have h12i : (len : Int) ≤ 12 := by omega
        have hs := Go.Sort.insertionSort_holds swoN dk x y hxy (by omega)
        have HF := Lib.hid (HS.out _ hs.1 hs.2)
        clear hs
        go_wp2_with fail
        refine (INS.out x y dk _ hxy hyn HR.out).mono ?_
        rintro e w1 ⟨rfl, hR1, hK1⟩
        have HR1 := Lib.hid hR1
        have HK1 := Lib.hid (HK.out.trans hK1 (fun _ _ h => h))
        clear hR1 hK1
        go_wp2_with fail
        (try simp only [Exit.inBlock, Exit.then]); refine bodyPost_ret (results_none rfl _ _ _) rfl ?_
        exact ⟨_, rfl, HF.out, HR1.out, HK1.out⟩
      · have h12i : ¬ (len : Int) ≤ 12 := by omega
        have hx12 : x + 12 < y := by omega
        by_cases hl0 : l = 0
        · subst hl0
          have hs := Go.Sort.heapSort_holds swoN dk x y hxy (by omega)
          have HF := Lib.hid (HS.out _ hs.1 hs.2)
          clear hs
          go_wp2_with fail
          refine (HEA.out x y dk _ (by omega) hyn HR.out).mono ?_
          rintro e w1 ⟨rfl, hR1, hK1⟩
          have HR1 := Lib.hid hR1
          have HK1 := Lib.hid (HK.out.trans hK1 (fun _ _ h => h))
          clear hR1 hK1
          go_wp2_with fail
          (try simp only [Exit.inBlock, Exit.then]); refine bodyPost_ret (results_none rfl _ _ _) rfl ?_
          exact ⟨_, rfl, HF.out, HR1.out, HK1.out⟩
        · have hl0i : ¬ (l : Int) = 0 := by omega
          go_upto_if 35 with fail
          go_cut [3, 35] (fun s3 s35 w' => ∃ (l2 : Nat) (d1 : Array Nat), s3 = .int .i64 l2 ∧ (∃ t, s35 = .bool t) ∧ l2 ≤ 1000000 ∧ Go.Sort.PermIn x y dk d1 ∧ RowU w' base g n cp d1 ∧ OthersKept w w' (fun k => k = g))
          case first =>
            cases wb
            · go_wp2_with fail
              refine (BRK.out x y dk _ hx12 hyn HR.out).mono ?_
              rintro e w1 ⟨d1, hP1, rfl, hR1, hK1⟩
              have HP1 := Lib.hid hP1
              have HR1 := Lib.hid hR1
              have HK1 := Lib.hid (HK.out.trans hK1 (fun _ _ h => h))
              clear hP1 hR1 hK1
              go_wp2_with fail
              go_meet
              exact ⟨l - 1, d1, by congr 1; omega, ⟨_, rfl⟩, by omega, HP1.out, HR1.out, HK1.out⟩
            · go_wp2_with fail
              go_meet
              exact ⟨l, dk, rfl, ⟨_, rfl⟩, hl, Go.Sort.permIn_refl dk x y, HR.out, HK.out⟩
          case rest =>
            obtain ⟨l2, d1, rfl, ⟨t35, rfl⟩, hl2, hP1, hR1, hK1⟩ := hcut
            have HP1 := Lib.hid hP1
            have HR1 := Lib.hid hR1
            have HK1 := Lib.hid hK1
            clear hP1 hR1 hK1
            go_wp2_with fail
            refine (CHO.out x y d1 _ hx12 hyn HR1.out).mono ?_
            rintro e w2 ⟨p, c, hp1, hp2, hc, rfl, hb2⟩
            have HR2 := Lib.hid (HR1.out.below hb2)
            have HK2 := Lib.hid (HK1.out.then_below hb2)
            clear hb2
            go_upto_if 50 with fail
            go_cut [11, 12, 50] (fun s11 s12 s50 w' => ∃ (pv c2 : Nat) (d2 : Array Nat), s11 = .int .i64 pv ∧ s12 = .int .i64 c2 ∧ (∃ t, s50 = .bool t) ∧ x ≤ pv ∧ pv < y ∧ Go.Sort.PermIn x y d1 d2 ∧ RowU w' base g n cp d2 ∧ OthersKept w w' (fun k => k = g))
            case first =>
              by_cases hc2 : c = 2
              · have hci : (c : Int) = 2 := by omega
                go_wp2_with fail
                refine (REV.out x y d1 _ (by omega) hyn HR2.out).mono ?_
                rintro e w3 ⟨rfl, hR3, hK3⟩
                have HR3 := Lib.hid hR3
                have HK3 := Lib.hid (HK2.out.trans hK3 (fun _ _ h => h))
                have HP3 := Lib.hid (Go.Sort.reverseRange_holds d1 x y hxy (by have := HR1.out.size; omega))
                clear hR3 hK3
                go_wp2_with fail
                go_meet
                exact ⟨(y - 1) - (p - x), 1, _, by congr 1; omega, rfl, ⟨_, rfl⟩, by omega, by omega, HP3.out, HR3.out, HK3.out⟩
              · have hci : ¬ (c : Int) = 2 := by omega
                go_wp2_with fail
                go_meet
                exact ⟨p, c, d1, rfl, rfl, ⟨_, rfl⟩, hp1, hp2, Go.Sort.permIn_refl d1 x y, HR2.out, HK2.out⟩
            case rest =>
              obtain ⟨pv, c2, d2, rfl, rfl, ⟨t50, rfl⟩, hpv1, hpv2, hP2, hR3, hK3⟩ := hcut
              have HP2 := Lib.hid (Go.Sort.permIn_trans _ _ _ _ _ HP1.out hP2)
              have HR3 := Lib.hid hR3
              have HK3 := Lib.hid hK3
              clear hP2 hR3 hK3
              go_upto_region 15 with fail
              go_cut [68] (fun s68 w' => (∃ t, s68 = .bool t) ∧ w' = wc)
              case first =>
                cases wb <;> cases wp <;>
                  (by_cases hc1 : (c2 : Int) = 1
                   · go_wp2_with fail
                     go_meet
                     exact ⟨⟨_, rfl⟩, rfl⟩
                   · go_wp2_with fail
                     go_meet
                     exact ⟨⟨_, rfl⟩, rfl⟩)
              case rest =>
                obtain ⟨⟨t68, rfl⟩, rfl⟩ := hcut
                go_upto_if 68 with fail
                go_cut [68] (fun s68 w' => (∃ t, s68 = .bool t) ∧ ∃ d3 : Array Nat, Go.Sort.PermIn x y dk d3 ∧ RowU w' base g n cp d3 ∧ OthersKept w w' (fun k => k = g))
                case first =>
                  cases t68
                  · go_wp2_with fail
                    go_meet
                    exact ⟨⟨_, rfl⟩, d2, HP2.out, HR3.out, HK3.out⟩
                  · obtain ⟨d3, r, hx⟩ : ∃ d3 r, Go.Sort.partialInsertionSort ltN d2 x y = (d3, r) := ⟨_, _, rfl⟩
                    have hBk := HB.out.perm (show y ≤ dk.size by omega) HP2.out
                    have hsz2 : d2.size = n := HR3.out.size
                    have hpi := Go.Sort.partialInsertionSort_holds swoN d2 x y (by omega) (by omega) hBk
                    rw [hx] at hpi
                    have HPI := Lib.hid hpi
                    have HXX := Lib.hid hx
                    clear hx hpi hBk
                    go_wp2_with fail
                    refine (PIN.out x y r d2 d3 _ hx12 hyn HR3.out HXX.out).mono ?_
                    rintro e w3 ⟨rfl, hR4, hK4⟩
                    have HR4 := Lib.hid hR4
                    have HK4 := Lib.hid (HK3.out.trans hK4 (fun _ _ h => h))
                    clear hR4 hK4
                    cases r
                    · go_wp2_with fail
                      go_meet
                      exact ⟨⟨_, rfl⟩, d3, Go.Sort.permIn_trans _ _ _ _ _ HP2.out HPI.out.1, HR4.out, HK4.out⟩
                    · go_wp2_with fail
                      (try simp only [Exit.inBlock, Exit.then]); refine bodyPost_ret (results_none rfl _ _ _) rfl ?_
                      exact ⟨d3, rfl, HS.out d3 (Go.Sort.permIn_trans _ _ _ _ _ HP2.out HPI.out.1) (HPI.out.2 (by first | rfl | trivial)), HR4.out, HK4.out⟩
                case rest =>
                  obtain ⟨⟨t68, rfl⟩, d3, hP4, hR4, hK4⟩ := hcut
                  have HP4 := Lib.hid hP4
                  have HR4 := Lib.hid hR4
                  have HK4 := Lib.hid hK4
                  have hs3 : d3.size = n := hR4.size
                  have HB4 := Lib.hid (HB.out.perm (show y ≤ dk.size by omega) hP4)
                  clear hP4 hR4 hK4
                  obtain ⟨xm, hxm⟩ : ∃ t, t = x - 1 := ⟨_, rfl⟩
                  have HXM := Lib.hid hxm
                  have hxm1 : 0 < x → xm + 1 = x := fun h => by omega
                  clear hxm
                  go_upto_region 17 with fail
                  go_cut [87] (fun s87 w' => s87 = .bool (decide (0 < x) && !ltN d3[xm]! d3[pv]!) ∧ Below wc.heap.size wc w')
                  case first =>
                    have hRq := HR4.out
                    have hgl := hRq.lt
                    by_cases hc : 0 < x
                    · have hci : (0 : Int) < (x : Int) := by omega
                      have hxm2 := hxm1 hc
                      have m5 := wsub1 x xm (by omega) (by omega)
                      have e1 := ext_cell (hRq.cell xm (by omega)) hgl
                      have e2 := ext_cell (hRq.cell pv (by omega)) hgl
                      have q1 : (0 : Int) ≤ (xm : Int) := by omega
                      have q2 : (xm : Int) < (n : Int) := by omega
                      have q3 : (0 : Int) ≤ (pv : Int) := by omega
                      have q4 : (pv : Int) < (n : Int) := by omega
                      have HGD := Lib.hid (decide_eq_true hc)
                      clear hRq hxm1 hxm2
                      generalize d3[xm]! = ux at *
                      generalize d3[pv]! = uy at *
                      cases hlt : ltN ux uy with
                      | true =>
                        have L1 := Lib.hid fun W => LS.out ux uy W
                        rw [hlt] at L1
                        have HL := Lib.hid hlt
                        clear hlt
                        refine wp_region_ext wc.heap.size (by kernel_rfl) (by kernel_rfl) ?_
                        repeat (go_big_quiet_step (first | (go_at_call 147; exact ext_call _ (Nat.le_refl _) (L1.out _))))
                        refine wpQuiet_nil ?_
                        rintro _ ⟨X, rfl⟩
                        have HX := Lib.hid X.below
                        go_wp2_with fail
                        go_meet
                        exact ⟨by rw [HGD.out, HL.out]; rfl, HX.out⟩
                      | false =>
                        have L1 := Lib.hid fun W => LS.out ux uy W
                        rw [hlt] at L1
                        have HL := Lib.hid hlt
                        clear hlt
                        refine wp_region_ext wc.heap.size (by kernel_rfl) (by kernel_rfl) ?_
                        repeat (go_big_quiet_step (first | (go_at_call 147; exact ext_call _ (Nat.le_refl _) (L1.out _))))
                        refine wpQuiet_nil ?_
                        rintro _ ⟨X, rfl⟩
                        have HX := Lib.hid X.below
                        go_wp2_with fail
                        go_meet
                        exact ⟨by rw [HGD.out, HL.out]; rfl, HX.out⟩
                    · have hci : ¬ (0 : Int) < (x : Int) := by omega
                      have HGD := Lib.hid (decide_eq_false hc)
                      clear hRq hxm1
                      refine wp_region_ext wc.heap.size (by kernel_rfl) (by kernel_rfl) ?_
                      repeat (go_big_quiet_step (fail))
                      refine wpQuiet_nil ?_
                      rintro _ ⟨X, rfl⟩
                      have HX := Lib.hid X.below
                      go_wp2_with fail
                      go_meet
                      exact ⟨by rw [HGD.out]; rfl, HX.out⟩
                  case rest =>
                    obtain ⟨rfl, hb5⟩ := hcut
                    have HR5 := Lib.hid (HR4.out.below hb5)
                    have HK5 := Lib.hid (HK4.out.then_below hb5)
                    clear hb5
                    cases hT : (decide (0 < x) && !ltN d3[xm]! d3[pv]!) with
                    | true =>
                      obtain ⟨m, d4, hx⟩ : ∃ m d4, Go.Sort.partitionEqual ltN d3 x y pv = (m, d4) := ⟨_, _, rfl⟩
                      have hT2 : 0 < x ∧ ltN d3[xm]! d3[pv]! = false := by simpa using hT
                      rw [HXM.out] at hT2
                      obtain ⟨r1, r2, r3, r4, r5⟩ := Go.Sort.round_eq swoN (Go.Sort.partitionEqual_holds ltN) hT2.1 hpv1 hpv2 (show y ≤ d3.size by omega) HB4.out hT2.2 hx
                      have HXX := Lib.hid hx
                      have R4 := Lib.hid r4
                      have R5 : Hid (∀ R, Go.Sort.PermIn m y d4 R → Go.Sort.SortedIn ltN m y R → Go.Sort.PermIn a b d R ∧ Go.Sort.SortedIn ltN a b R) := fun R h1 h2 => HS.out R (Go.Sort.permIn_trans _ _ _ _ _ HP4.out (r5 R h1 h2).1) (r5 R h1 h2).2
                      clear hx r3 r4 r5 hT hT2 hxm1
                      go_wp2_with fail
                      refine (PEQ.out x y pv m d3 d4 _ hpv1 hpv2 hyn HR5.out HXX.out).mono ?_
                      rintro e w6 ⟨rfl, hR6, hK6⟩
                      have HR6 := Lib.hid hR6
                      have HK6 := Lib.hid (HK5.out.trans hK6 (fun _ _ h => h))
                      clear hR6 hK6
                      go_wp2_with fail
                      go_roundw
                      case rel => exact ⟨m, y, l2, wb, wp, d4, rfl, rfl, rfl, rfl, rfl, r2, hyn, by omega, hl2, R4, HR6.out, HK6.out, R5⟩
                      case measure => simp [intOf] <;> omega
                    | false =>
                      obtain ⟨m, ap, d4, hx⟩ : ∃ m ap d4, Go.Sort.partition ltN d3 x y pv = (m, ap, d4) := ⟨_, _, _, rfl⟩
                      obtain ⟨r1, r2, r3, r4, r5, r6, r7⟩ := Go.Sort.round_part swoN (Go.Sort.partition_holds ltN) hpv1 hpv2 (show y ≤ d3.size by omega) HB4.out hx
                      have HXX := Lib.hid hx
                      have R4 := Lib.hid r4
                      have R5 := Lib.hid r5
                      have R6 := Lib.hid r6
                      have R7 := Lib.hid r7
                      clear hx r3 r4 r5 r6 r7 hT hxm1
                      go_wp2_with fail
                      refine (PAR.out x y pv m ap d3 d4 _ hpv1 hpv2 hyn HR5.out HXX.out).mono ?_
                      rintro e w6 ⟨rfl, hR6, hK6⟩
                      have HR6 := Lib.hid hR6
                      have HK6 := Lib.hid (HK5.out.trans hK6 (fun _ _ h => h))
                      clear hR6 hK6
                      obtain ⟨u1, hu1⟩ : ∃ t, t = m - x := ⟨_, rfl⟩
                      obtain ⟨u2, hu2⟩ : ∃ t, t = y - m := ⟨_, rfl⟩
                      have b3 : (m : Int) - (x : Int) = (u1 : Int) := by omega
                      have b4 : (y : Int) - (m : Int) = (u2 : Int) := by omega
                      have hmx : x + u1 = m := by omega
                      have hmy : m + u2 = y := by omega
                      clear hu1 hu2
                      by_cases hlr : u1 < u2
                      · have hlri : (u1 : Int) < (u2 : Int) := by omega
                        go_wp2_with fail
                        refine (IH.out x m l2 d4 _ (by omega) r1 (by omega) hl2 R4.out HR6.out).mono ?_
                        rintro e w7 ⟨dL, rfl, hPS, hR7, hK7⟩
                        have HR7 := Lib.hid hR7
                        have HK7 := Lib.hid (HK6.out.trans hK7 (fun _ _ h => h))
                        have hq6 := R6.out dL hPS.1 hPS.2
                        have HB7 := Lib.hid hq6.1
                        have HS7 : Hid (∀ R, Go.Sort.PermIn (m + 1) y dL R → Go.Sort.SortedIn ltN (m + 1) y R → Go.Sort.PermIn a b d R ∧ Go.Sort.SortedIn ltN a b R) := fun R h1 h2 => HS.out R (Go.Sort.permIn_trans _ _ _ _ _ HP4.out (hq6.2 R h1 h2).1) (hq6.2 R h1 h2).2
                        clear hR7 hK7 hPS hq6
                        go_wp2_with fail
                        go_roundw
                        case rel => exact ⟨m + 1, y, l2, _, ap, dL, by go_num, rfl, rfl, rfl, rfl, by omega, hyn, by omega, hl2, HB7, HR7.out, HK7.out, HS7⟩
                        case measure => simp [intOf] <;> omega
                      · have hlri : ¬ (u1 : Int) < (u2 : Int) := by omega
                        obtain ⟨m1, hm1⟩ : ∃ t, t = m + 1 := ⟨_, rfl⟩
                        have em1 : (m : Int) + 1 = (m1 : Int) := by omega
                        rw [← hm1] at R5 R7
                        have hm2 : m + 1 = m1 := hm1.symm
                        clear hm1
                        go_wp2_with fail
                        (try rw [em1])
                        refine (IH.out m1 y l2 d4 _ (by omega) (by omega) hyn hl2 R5.out HR6.out).mono ?_
                        rintro e w7 ⟨dL, rfl, hPS, hR7, hK7⟩
                        have HR7 := Lib.hid hR7
                        have HK7 := Lib.hid (HK6.out.trans hK7 (fun _ _ h => h))
                        have hq6 := R7.out dL hPS.1 hPS.2
                        have HB7 := Lib.hid hq6.1
                        have HS7 : Hid (∀ R, Go.Sort.PermIn x m dL R → Go.Sort.SortedIn ltN x m R → Go.Sort.PermIn a b d R ∧ Go.Sort.SortedIn ltN a b R) := fun R h1 h2 => HS.out R (Go.Sort.permIn_trans _ _ _ _ _ HP4.out (hq6.2 R h1 h2).1) (hq6.2 R h1 h2).2
                        clear hR7 hK7 hPS hq6
                        go_wp2_with fail
                        go_roundw
                        case rel => exact ⟨x, m, l2, _, ap, dL, rfl, rfl, rfl, rfl, rfl, r1, by omega, by omega, hl2, HB7, HR7.out, HK7.out, HS7⟩
                        case measure => simp [intOf] <;> omega


end Go.Proofs.Ytjcfnfpilladfaa
