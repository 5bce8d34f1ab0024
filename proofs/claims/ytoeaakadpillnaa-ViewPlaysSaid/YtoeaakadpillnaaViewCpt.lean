/- chapter 24: slices.Compact. -/
import Derived.Test.YtoeaakadpillnaaRows
import Derived.Test.YtoeaakadpillnaaViewCmp
import Derived.Test.YtoeaakadpillnaaViewDel
import Derived.Test.YtoeaakadpillnaaViewOut
import Derived.Test.YtoeaakadpillnaaViewSame
import Derived.Test.YtoeaakadpillnaaViewSees
import Derived.Test.YtoeaakadpillnaaViewNums
import Derived.Test.YtoeaakadpillnaaSortUTop
import Derived.Test.YtoeaakadpillnaaLockRef
import Derived.Test.YtoeaakadpillnaaKept
import Derived.Test.YtoeaakadpillnaaQuietTail
import Derived.Test.YtoeaakadpillnaaAppAny
import Derived.Deep.LoopGhost
import Derived.Deep.CutBlock
import Derived.Lib.SliceRun
import Derived.WalkKit
import Derived.WalkLawsBesides
import Derived.WalkSpells
import Derived.LoopTactic
import Derived.WalkMore
import Derived.LoopN
import Derived.Laws.BitsAllLaws
import Derived.Laws.IdiomStrings
import Derived.BigQuiet
import Derived.Deep.QuietTactic
import Derived.Deep.DeepCutAuto
import Derived.Deep.RegionHeld3
import Derived.Deep.DrawnRows
import Derived.Lib.Hide
import Derived.Outline
import Derived.Deep.DeepMust
import Derived.Handy
namespace Go.Proofs.Ytoeaakadpillnaa
open Go.RowKit
set_option linter.unusedVariables false
set_option linter.unusedSimpArgs false

set_option maxHeartbeats 4000000 in
set_option maxRecDepth 100000 in
theorem compact_u64 (base n : Nat) (v : Value) (xs : List Nat) (w : World) (hn : n ≤ 1000000) (h : w.ownsRow base 27 1 v n (nums xs)) (hs : xs.Pairwise (· ≤ ·)) :
    Calls Try.prog 65 #[v] w fun e w' => ∃ v', e = .returned v' ∧ ∃ ys : List Nat, ys.length ≤ n ∧ ys.Pairwise (· < ·) ∧ (∀ z, z ∈ ys ↔ z ∈ xs) ∧ w'.ownsRow base 27 1 v' ys.length (nums ys) ∧ OthersKept w w' (fun k => base ≤ k) := by
  obtain ⟨hN, hlen⟩ := nums_own h
  have H := Lib.hid h
  obtain ⟨b, cp, rfl, r1, r2, r3⟩ := own_form h
  unfold maxLen at r2
  clear hN h
  rcases Nat.lt_or_ge n 2 with h2 | h2
  · have h2i : (n : Int) < 2 := by omega
    have hp : xs.Pairwise (· < ·) := by
      match xs, hlen with
      | [], _ => exact List.Pairwise.nil
      | [a], _ => exact List.pairwise_singleton _ _
      | a :: b :: l, hl => simp at hl; omega
    have HP := Lib.hid hp
    have HL := Lib.hid hlen
    clear hp hlen hs
    go_enter Try.func65, Try.ntmps65
    go_wp2_with fail
    go_ret
    exact ⟨_, rfl, xs, by rw [HL.out]; exact Nat.le_refl _, HP.out, fun z => Iff.rfl, by rw [HL.out]; exact H.out, OthersKept.of_below (Below.refl _ _)⟩
  · have h2i : ¬ (n : Int) < 2 := by omega
    obtain ⟨g, rfl, hbg⟩ := r3 (by omega)
    have hR : RowU w base g n cp xs.toArray := ⟨by simpa using hlen, by simpa using H.out⟩
    have SRT : Hid (∀ i j, i < j → j < n → xs.toArray[i]! ≤ xs.toArray[j]!) := by
      show ∀ _, _
      intro i j hij hj
      rw [getElem!_pos xs.toArray i (by simp; omega), getElem!_pos xs.toArray j (by simp; omega)]
      simpa using List.pairwise_iff_getElem.1 hs i j (by omega) (by omega) hij
    generalize hd : xs.toArray = d at *
    have HD := Lib.hid hd
    have HR := Lib.hid hR
    have hdn : d.size = n := hR.size
    clear hd hR r3 hlen hs
    go_enter Try.func65, Try.ntmps65
    go_wp2_with fail
    go_loopw [3] (fun s3 wr => ∃ k : Nat, s3 = .int .i64 k ∧ 1 ≤ k ∧ k ≤ n ∧ Hid (Cmp d d n k k) ∧ RowU wr base g n cp d ∧ Below w.heap.size w wr) (fun vk _ => n - (intOf vk).toNat)
    case atStart => exact ⟨1, rfl, Nat.le_refl _, by omega, Cmp.start hdn (by omega), HR.out, Below.refl _ _⟩
    case round =>
      obtain ⟨k, rfl, hk1, hkn, hC, hR, hB⟩ := hrel
      have HR1 := Lib.hid hR
      have HB1 := Lib.hid hB
      clear hB
      by_cases hc : k < n
      · have hci : (k : Int) < (n : Int) := by omega
        obtain ⟨km, hkm⟩ : ∃ x, x = k - 1 := ⟨_, rfl⟩
        have m1 := wsub1 k km (by omega) (by omega)
        have hkm1 : km + 1 = k := by omega
        have hgl := hR.lt
        have e1 := ext_cell (hR.cell k hc) hgl
        have e2 := ext_cell (hR.cell km (by omega)) hgl
        have q1 : (0 : Int) ≤ (k : Int) := by omega
        have q3 : (0 : Int) ≤ (km : Int) := by omega
        have q4 : (km : Int) < (n : Int) := by omega
        have NEW : Hid (¬ d[k]! = d[km]! → Cmp d d n (k + 1) (k + 1)) := by
          show _ → _
          intro hne
          have := SRT.out km k (by omega) hc
          exact hC.out.keep hc (by rw [← hkm]; omega)
        have DUP : Hid (d[k]! = d[km]! → Cmp d d n k (k + 1)) := by
          show _ → _
          intro he
          exact hC.out.same hc (by rw [← hkm]; exact he)
        clear hR hkm
        generalize d[k]! = x at *
        generalize d[km]! = y at *
        by_cases hxy : x = y
        · have DUP2 := Lib.hid (DUP.out hxy)
          subst hxy
          clear DUP NEW
          go_upto_region 6 with fail
          refine wp_region_ext wr.heap.size (by kernel_rfl) (by kernel_rfl) ?_
          repeat (go_big_quiet_step (fail))
          refine wpQuiet_nil ?_
          rintro _ ⟨X, rfl⟩
          have HX := Lib.hid X.below
          have HR2 := Lib.hid (HR1.out.below HX.out)
          have HK2 := Lib.hid (OthersKept.of_below (p := fun k => k = g) (below_trans2 HB1.out HX.out))
          generalize X.val = W2 at *
          clear e1 e2 HB1 HR1
          go_wp2_with fail
          go_loopw [3, 5] (fun s3 s5 wr => ∃ (c t : Nat) (dk : Array Nat), s3 = .int .i64 c ∧ s5 = .int .i64 t ∧ 1 ≤ t ∧ k + t ≤ n ∧ c < k + t ∧ Hid (Cmp d dk n c (k + t)) ∧ RowU wr base g n cp dk ∧ OthersKept w wr (fun k => k = g)) (fun _ vt _ => n - (intOf vt).toNat)
          case atStart => exact ⟨k, 1, d, rfl, rfl, Nat.le_refl _, by omega, by omega, DUP2, HR2.out, HK2.out⟩
          case round =>
            obtain ⟨c, t, dk, rfl, rfl, ht1, htn, hct, hC2, hR3, hK3⟩ := hrel
            have HR3 := Lib.hid hR3
            have HK3 := Lib.hid hK3
            clear hK3
            by_cases hc2 : t < n - k
            · have hc2i : (t : Int) < ((n - k : Nat) : Int) := by omega
              have hc2j : (t : Int) < (n : Int) - (k : Int) := by omega
              obtain ⟨tm, htm⟩ : ∃ x, x = t - 1 := ⟨_, rfl⟩
              have m2 := wsub1 t tm (by omega) (by omega)
              have htm1 : tm + 1 = t := by omega
              have hgl3 := hR3.lt
              have x1 := hR3.cell (k + t) (by omega)
              have x3 := hR3.cell c (by omega)
              have f3 := hR3.frozen c
              have e1 := ext_cell x1 hgl3
              have e2 := ext_cell (hR3.cell (k + tm) (by omega)) hgl3
              have q5 : (0 : Int) ≤ (t : Int) := by omega
              have q6 : (0 : Int) ≤ (tm : Int) := by omega
              have q7 : (tm : Int) < (n : Int) - (k : Int) := by omega
              have q8 : (0 : Int) ≤ (c : Int) := by omega
              have q9 : (c : Int) < (n : Int) := by omega
              have hq : k + t < n := by omega
              have er1 := hC2.out.rest (k + t) (by omega)
              have er2 := hC2.out.rest (k + tm) (by omega)
              have NEW : Hid (¬ dk[k + t]! = dk[k + tm]! → Cmp d (dk.setIfInBounds c dk[k + t]!) n (c + 1) (k + (t + 1))) := by
                show _ → _
                intro hne
                rw [er1, er2] at hne
                rw [er1]
                have := SRT.out (k + tm) (k + t) (by omega) hq
                exact hC2.out.put hq (by rw [show k + t - 1 = k + tm by omega]; omega)
              have DUP : Hid (dk[k + t]! = dk[k + tm]! → Cmp d dk n c (k + (t + 1))) := by
                show _ → _
                intro he
                rw [er1, er2] at he
                exact hC2.out.same hq (by rw [show k + t - 1 = k + tm by omega]; exact he)
              have SETR := Lib.hid (fun u W (hW : Below wr.heap.size wr W) => (hR3.below hW).set c u (by omega))
              clear hR3 er1 er2 htm
              generalize dk[k + t]! = z1 at *
              generalize dk[k + tm]! = z2 at *
              generalize dk[c]! = z3 at *
              by_cases hz : z1 = z2
              · have DUP2 := Lib.hid (DUP.out hz)
                subst hz
                clear DUP NEW x1 x3 f3
                go_upto_region 11 with fail
                refine wp_region_ext wr.heap.size (by kernel_rfl) (by kernel_rfl) ?_
                repeat (go_big_quiet_step (fail))
                refine wpQuiet_nil ?_
                rintro _ ⟨X, rfl⟩
                have HX := Lib.hid X.below
                go_wp2_with fail
                go_roundw
                case rel => exact ⟨c, t + 1, dk, rfl, by go_num, by omega, by omega, by omega, DUP2, HR3.out.below HX.out, HK3.out.then_below HX.out⟩
                case measure => simp [intOf] <;> omega
              · have NEW2 := Lib.hid (NEW.out hz)
                have hzi : ¬ (z1 : Int) = (z2 : Int) := by omega
                clear DUP NEW
                go_upto_region 11 with fail
                refine wp_region_ext wr.heap.size (by kernel_rfl) (by kernel_rfl) ?_
                repeat (go_big_quiet_step (fail))
                refine wpQuiet_nil ?_
                rintro _ ⟨X, rfl⟩
                have HX := Lib.hid X.below
                have y1 := keep_cell HX.out x1
                have y3 := keep_cell HX.out x3
                have g3 := (HX.out.frozen (p := ⟨g, c, none⟩) hgl3).trans f3
                have SW := Lib.hid (SETR.out z1 X.val HX.out)
                generalize X.val = wx at *
                clear x1 x3 f3 e1 e2
                go_wp2_with fail
                go_roundw
                case rel => exact ⟨c + 1, t + 1, _, by go_num, by go_num, by omega, by omega, by omega, NEW2, SW.out, (HK3.out.then_below HX.out).trans (OthersKept.of_grown (p := fun k => k = g) (g := g) (grown_set (grown_refl _ _)) rfl) (fun _ _ h => h)⟩
                case measure => simp [intOf] <;> omega
            · have hc2j : ¬ (t : Int) < (n : Int) - (k : Int) := by omega
              have hc2i : ¬ (t : Int) < ((n - k : Nat) : Int) := by omega
              have hkt : k + t = n := by omega
              obtain ⟨d', C1, C2, C3⟩ := hR3.clear (n - c) c dk _ (by omega)
              have hcn : c < n := by omega
              have hcl := fun ty => Lib.run_clear_slice (P := Try.prog) wr 35 27 ty (.int .u64 0) Try.underlying35 zero_u64 rfl rfl g c (n - c) (cp - c) (by omega) (fun t ht => by rw [hR3.cell (c + t) (by omega)]; rfl) (fun t ht => hR3.frozen (c + t))
              have hC3 := hC2.out
              rw [hkt] at hC3
              have DN := Lib.hid (hC3.done C1.size C2)
              have HC1 := Lib.hid C1
              have HC3 := Lib.hid C3
              clear hR3 C1 C2 C3 hC3
              go_wp2_with fail
              (try simp only [Exit.inBlock, Exit.then]); refine bodyPost_ret (results_tmp rfl _ _ _) rfl ?_
              have hcut := HC1.out.cut c (by omega)
              have hl := (nums_own hcut).2
              exact ⟨Value.slice (some ⟨g, 0, none⟩) c cp, rfl, d'.toList.take c, by omega, DN.out.1, fun z => by rw [DN.out.2, ← HD.out], by rw [hl]; exact hcut, (HK3.out.trans HC3.out (fun _ _ h => h)).mono (fun k h => by subst h; exact hbg)⟩
        · have NEW2 := Lib.hid (NEW.out hxy)
          have hxyi : ¬ (x : Int) = (y : Int) := by omega
          clear DUP NEW
          go_upto_region 6 with fail
          refine wp_region_ext wr.heap.size (by kernel_rfl) (by kernel_rfl) ?_
          repeat (go_big_quiet_step (fail))
          refine wpQuiet_nil ?_
          rintro _ ⟨X, rfl⟩
          have HX := Lib.hid X.below
          go_wp2_with fail
          go_roundw
          case rel => exact ⟨k + 1, by go_num, by omega, by omega, NEW2, HR1.out.below HX.out, below_trans2 HB1.out HX.out⟩
          case measure => simp [intOf] <;> omega
      · have hci : ¬ (k : Int) < (n : Int) := by omega
        obtain rfl : k = n := by omega
        have DN := Lib.hid (hC.out.done hdn (fun t ht => rfl))
        have HT := Lib.hid (show d.toList.take k = d.toList from List.take_of_length_le (by simp [hdn]))
        clear hR
        go_wp2_with fail
        go_ret
        have hr := HR1.out.own
        have hl := (nums_own hr).2
        exact ⟨Value.slice (some ⟨g, 0, none⟩) k cp, rfl, d.toList, by omega, by have := DN.out.1; rwa [HT.out] at this, fun z => by rw [← HD.out], by rw [hl]; exact hr, OthersKept.of_below HB1.out⟩

end Go.Proofs.Ytoeaakadpillnaa
