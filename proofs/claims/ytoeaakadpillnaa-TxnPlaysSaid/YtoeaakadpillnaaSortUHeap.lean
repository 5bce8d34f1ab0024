/- slices.Sort at uint64: heapSort. -/
import Derived.Test.YtoeaakadpillnaaRows
import Derived.Test.YtoeaakadpillnaaSortUSift
import Derived.Test.YtoeaakadpillnaaSortUIns
import Derived.Test.YtoeaakadpillnaaSortU
import Derived.Test.YtoeaakadpillnaaLockRef
import Derived.Test.YtoeaakadpillnaaKept
import Derived.Test.YtoeaakadpillnaaQuietTail
import Derived.Test.YtoeaakadpillnaaAppAny
import Derived.Deep.LoopGhost
import Derived.Deep.CutBlock
import Derived.Sort.LotA
import Derived.Sort.LotD3
import Derived.Sort.WalkA
import Derived.WalkKit
import Derived.WalkLawsBesides
import Derived.WalkSpells
import Derived.LoopTactic
import Derived.WalkMore
import Derived.LoopN
import Derived.Laws.BitsAllLaws
import Derived.Laws.IdiomStrings
import Derived.BigQuiet
import Derived.Deep.QuietTactic
import Derived.Deep.DeepCutAuto
import Derived.Deep.RegionHeld3
import Derived.Deep.DrawnRows
import Derived.Lib.Hide
import Derived.Outline
import Derived.Deep.DeepMust
import Derived.Handy
namespace Go.Proofs.Ytoeaakadpillnaa
open Go.RowKit
set_option linter.unusedVariables false
set_option linter.unusedSimpArgs false

set_option maxHeartbeats 4000000 in
set_option maxRecDepth 100000 in
theorem heap_u64 (base g n cp a b : Nat) (d : Array Nat) (w : World) (hn : n ≤ 1000000) (hab : a < b) (hb : b ≤ n) (h : RowU w base g n cp d) :
    Calls Try.prog 102 #[.slice (some ⟨g, 0, none⟩) n cp, .int .i64 a, .int .i64 b] w fun e w' => e = .returned (.tuple #[]) ∧ RowU w' base g n cp (Go.Sort.heapSort ltN d a b) ∧ OthersKept w w' (fun k => k = g) := by
  have H := Lib.hid h
  have SD := Lib.hid fun lo hi dk W (h1 : lo ≤ 1000000) (h2 : a + hi ≤ n) hR => sift_u64 base g n cp lo hi a dk W hn h1 h2 hR
  have HS : Hid (Go.Sort.heapSort ltN d a b = Go.Sort.heapPop ltN a (b - a) (Go.Sort.heapBuild ltN (b - a) a ((b - a - 1) / 2 + 1) d)) := rfl
  clear h
  obtain ⟨h, hh⟩ : ∃ x, x = b - a := ⟨_, rfl⟩
  rw [← hh] at HS
  obtain ⟨h1, hh1⟩ : ∃ x, x = h - 1 := ⟨_, rfl⟩
  rw [← hh1] at HS
  obtain ⟨i0, hi0⟩ : ∃ x, x = h1 / 2 := ⟨_, rfl⟩
  rw [← hi0] at HS
  have m1 := wsub b a h (by omega) (by omega)
  have m2 := wsub1 h h1 (by omega) (by omega)
  have m3 : ((h1 : Nat) : Int).tdiv 2 = (i0 : Int) := by rw [Int.tdiv_eq_ediv_of_nonneg (by omega)]; omega
  have m4 : IntKind.i64.wrap ((i0 : Nat) : Int) = (i0 : Int) := IntWalk.i64_in _ ⟨by omega, by omega⟩
  have b1 : (b : Int) - (a : Int) = (h : Int) := by omega
  have b2 : (h : Int) - 1 = (h1 : Int) := by omega
  have hle : a + h ≤ n := by omega
  have hi1 : i0 + 1 ≤ 1000000 := by omega
  have hhp : h = h1 + 1 := by omega
  have hhn : h ≤ 1000000 := by omega
  have HH := Lib.hid hhp
  clear hh hh1 hi0 hhp
  go_enter Try.func102, Try.ntmps102
  go_wp2_with fail
  go_loopw [9] (fun s9 wr => ∃ (k : Nat) (dk : Array Nat), k ≤ i0 + 1 ∧ s9 = .int .i64 ((k : Int) - 1) ∧ RowU wr base g n cp dk ∧ OthersKept w wr (fun k => k = g) ∧ Hid (Go.Sort.heapBuild ltN h a k dk = Go.Sort.heapBuild ltN h a (i0 + 1) d)) (fun v _ => (intOf v + 1).toNat)
  case atStart => exact ⟨i0 + 1, d, Nat.le_refl _, by congr 1; omega, H.out, OthersKept.of_below (Below.refl _ _), rfl⟩
  case round =>
    obtain ⟨k, dk, hk, rfl, hR, hK, hS⟩ := hrel
    have HR := Lib.hid hR
    have HK := Lib.hid hK
    clear hR hK
    cases k with
    | succ k =>
      have ek : ((k + 1 : Nat) : Int) - 1 = (k : Int) := by omega
      simp only [ek]
      clear ek
      have q0 : (0 : Int) ≤ (k : Int) := by omega
      go_wp2_with fail
      refine (SD.out k h dk wr (by omega) hle HR.out).mono ?_
      rintro e w2 ⟨rfl, hR2, hK2⟩
      have HR2 := Lib.hid hR2
      have HK2 := Lib.hid hK2
      clear hR2 hK2
      go_wp2_with fail
      go_roundw
      case rel => exact ⟨k, _, by omega, rfl, HR2.out, HK.out.trans HK2.out (fun _ _ h => h), hS⟩
      case measure => simp [intOf] <;> omega
    | zero =>
      obtain ⟨q, hq⟩ : ∃ q : Int, q = ((0 : Nat) : Int) - 1 := ⟨_, rfl⟩
      rw [← hq]
      have hq0 : ¬ 0 ≤ q := by omega
      clear hq
      go_wp2_with fail
      go_loopw [10] (fun s10 wr2 => ∃ (k : Nat) (dj : Array Nat), k ≤ h ∧ s10 = .int .i64 ((k : Int) - 1) ∧ RowU wr2 base g n cp dj ∧ OthersKept w wr2 (fun k => k = g) ∧ Hid (Go.Sort.heapPop ltN a k dj = Go.Sort.heapPop ltN a h dk)) (fun v _ => (intOf v + 1).toNat)
      case atStart => exact ⟨h, dk, Nat.le_refl _, by congr 1; omega, HR.out, HK.out, rfl⟩
      case round =>
        obtain ⟨k, dj, hk2, rfl, hR, hK, hP⟩ := hrel
        have HRj := Lib.hid hR
        have HKj := Lib.hid hK
        have hgl := hR.lt
        cases k with
        | zero =>
          clear hR hK
          go_wp2_with fail
          go_end0
          refine ⟨rfl, ?_, HKj.out⟩
          rw [HS.out]
          have e1 : Go.Sort.heapBuild ltN h a (i0 + 1) d = dk := hS.out.symm
          have e2 : Go.Sort.heapPop ltN a h dk = dj := hP.out.symm
          rw [e1, e2]
          exact HRj.out
        | succ k =>
          have ek : ((k + 1 : Nat) : Int) - 1 = (k : Int) := by omega
          simp only [ek]
          clear ek
          have q0 : (0 : Int) ≤ (k : Int) := by omega
          have x1 := hR.cell a (by omega)
          have f1 := hR.frozen a
          have qa1 : (0 : Int) ≤ (a : Int) := by omega
          have qa2 : (a : Int) < (n : Int) := by omega
          cases k with
          | zero =>
            have SW := Lib.hid (hR.swap a a (by omega) (by omega))
            have HPo : Hid (Go.Sort.heapPop ltN a 0 (Go.Sort.siftDown ltN 0 a 0 (Go.Sort.swp dj a a)) = Go.Sort.heapPop ltN a h dk) := hP
            generalize dj[a]! = x at *
            clear hR hK hP
            go_upto_region 10 with fail
            go_region
            all_goals go_wp2_with fail
            refine (SD.out 0 0 _ _ (by omega) (by omega) (SW.out.below (Below.refl _ _).drew)).mono ?_
            rintro e w2 ⟨rfl, hR2, hK2⟩
            have HR2 := Lib.hid hR2
            have HK2 := Lib.hid ((((HKj.out.trans (swap_kept _ g _ _ _ _) (fun _ _ h => h))).then_below (Below.refl _ _).drew).trans hK2 (fun _ _ h => h))
            clear hR2 hK2
            go_wp2_with fail
            go_roundw
            case rel => exact ⟨0, _, by omega, rfl, HR2.out, HK2.out, HPo.out⟩
            case measure => simp [intOf]
          | succ m =>
            have HPo : Hid (Go.Sort.heapPop ltN a (m + 1) (Go.Sort.siftDown ltN (m + 1) a 0 (Go.Sort.swp dj a (a + (m + 1)))) = Go.Sort.heapPop ltN a h dk) := hP
            obtain ⟨K, hKm⟩ : ∃ x, x = m + 1 := ⟨_, rfl⟩
            rw [← hKm] at HPo q0 ⊢
            obtain ⟨p, hp⟩ : ∃ x, x = a + K := ⟨_, rfl⟩
            rw [← hp] at HPo
            have m5 := wadd a K p hp.symm (by omega)
            have x2 := hR.cell p (by omega)
            have f2 := hR.frozen p
            have qp1 : (0 : Int) ≤ (p : Int) := by omega
            have qp2 : (p : Int) < (n : Int) := by omega
            have n1 : ¬ a = p := by omega
            have n2 : ¬ p = a := by omega
            have hKh : K ≤ h := by omega
            have SW := Lib.hid (hR.swap a p (by omega) (by omega))
            generalize dj[a]! = x at *
            generalize dj[p]! = y at *
            clear hR hK hP hKm hp
            go_upto_region 10 with fail
            go_region
            all_goals go_wp2_with fail
            refine (SD.out 0 K _ _ (by omega) (by omega) (SW.out.below (Below.refl _ _).drew)).mono ?_
            rintro e w2 ⟨rfl, hR2, hK2⟩
            have HR2 := Lib.hid hR2
            have HK2 := Lib.hid ((((HKj.out.trans (swap_kept _ g _ _ _ _) (fun _ _ h => h))).then_below (Below.refl _ _).drew).trans hK2 (fun _ _ h => h))
            clear hR2 hK2
            go_wp2_with fail
            go_roundw
            case rel => exact ⟨K, _, hKh, rfl, HR2.out, HK2.out, HPo.out⟩
            case measure => simp [intOf] <;> omega

end Go.Proofs.Ytoeaakadpillnaa
