/- slices.Sort at uint64: reverseRange. -/
import Derived.Test.YtoeaakadpillnaaRows
import Derived.Test.YtoeaakadpillnaaSortUSift
import Derived.Test.YtoeaakadpillnaaSortUIns
import Derived.Test.YtoeaakadpillnaaSortU
import Derived.Test.YtoeaakadpillnaaLockRef
import Derived.Test.YtoeaakadpillnaaKept
import Derived.Test.YtoeaakadpillnaaQuietTail
import Derived.Test.YtoeaakadpillnaaAppAny
import Derived.Deep.LoopGhost
import Derived.Deep.CutBlock
import Derived.Sort.LotA
import Derived.Sort.LotD3
import Derived.Sort.WalkA
import Derived.WalkKit
import Derived.WalkLawsBesides
import Derived.WalkSpells
import Derived.LoopTactic
import Derived.WalkMore
import Derived.LoopN
import Derived.Laws.BitsAllLaws
import Derived.Laws.IdiomStrings
import Derived.BigQuiet
import Derived.Deep.QuietTactic
import Derived.Deep.DeepCutAuto
import Derived.Deep.RegionHeld3
import Derived.Deep.DrawnRows
import Derived.Lib.Hide
import Derived.Outline
import Derived.Deep.DeepMust
import Derived.Handy
namespace Go.Proofs.Ytoeaakadpillnaa
open Go.RowKit
set_option linter.unusedVariables false
set_option linter.unusedSimpArgs false

set_option maxHeartbeats 4000000 in
set_option maxRecDepth 100000 in
theorem reverse_u64 (base g n cp a b : Nat) (d : Array Nat) (w : World) (hn : n ≤ 1000000) (hab : a < b) (hb : b ≤ n) (h : RowU w base g n cp d) :
    Calls Try.prog 105 #[.slice (some ⟨g, 0, none⟩) n cp, .int .i64 a, .int .i64 b] w fun e w' => e = .returned (.tuple #[]) ∧ RowU w' base g n cp (Go.Sort.reverseRange d a b) ∧ OthersKept w w' (fun k => k = g) := by
  have H := Lib.hid h
  clear h
  obtain ⟨b1, hb1⟩ : ∃ x, x = b - 1 := ⟨_, rfl⟩
  have HS : Hid (Go.Sort.reverseRange d a b = Go.Sort.reverseLoop a b1 d) := by show _ = _; rw [hb1]; rfl
  have eb : (b : Int) - 1 = (b1 : Int) := by omega
  have hb1n : b1 < n := by omega
  clear hb1
  go_enter Try.func105, Try.ntmps105
  go_wp2_with fail
  go_loopw [6, 7] (fun s6 s7 wr => ∃ (i j : Nat) (dk : Array Nat), s6 = .int .i64 i ∧ s7 = .int .i64 j ∧ i ≤ n ∧ j < n ∧ RowU wr base g n cp dk ∧ OthersKept w wr (fun k => k = g) ∧ Hid (Go.Sort.reverseLoop i j dk = Go.Sort.reverseLoop a b1 d)) (fun _ vj _ => (intOf vj).toNat)
  case atStart => exact ⟨a, b1, d, rfl, rfl, by omega, hb1n, H.out, OthersKept.of_below (Below.refl _ _), rfl⟩
  case round =>
    obtain ⟨i, j, dk, rfl, rfl, hin, hjn, hR, hK, hS⟩ := hrel
    have HR := Lib.hid hR
    have HK := Lib.hid hK
    by_cases hc : i < j
    · obtain ⟨j1, hj1⟩ : ∃ x, x = j - 1 := ⟨_, rfl⟩
      have HS2 : Hid (Go.Sort.reverseLoop (i + 1) j1 (Go.Sort.swp dk i j) = Go.Sort.reverseLoop a b1 d) := by
        show _ = _
        rw [← hS.out]
        conv => rhs; rw [Go.Sort.reverseLoop, if_pos hc]
        rw [hj1]
      have ej : (j : Int) - 1 = (j1 : Int) := by omega
      have x1 := hR.cell i (by omega)
      have x2 := hR.cell j hjn
      have f1 := hR.frozen i
      have f2 := hR.frozen j
      have SW := Lib.hid (hR.swap i j (by omega) hjn)
      have q1 : (0 : Int) ≤ (i : Int) := by omega
      have q2 : (i : Int) < (n : Int) := by omega
      have q3 : (0 : Int) ≤ (j : Int) := by omega
      have q4 : (j : Int) < (n : Int) := by omega
      have n1 : ¬ i = j := by omega
      have n2 : ¬ j = i := by omega
      have hj1n : j1 < n := by omega
      have hjj : j1 < j := by omega
      generalize dk[i]! = x at *
      generalize dk[j]! = y at *
      clear hR hK hS hj1
      go_upto_region 3 with fail
      go_region
      all_goals go_wp2_with fail
      go_roundw
      case rel => exact ⟨i + 1, j1, _, by go_num, rfl, by omega, hj1n, SW.out.below (Below.refl _ _).drew, (HK.out.trans (swap_kept _ g _ _ _ _) (fun _ _ h => h)).then_below (Below.refl _ _).drew, HS2.out⟩
      case measure => simp [intOf] <;> omega
    · go_wp2_with fail
      go_end0
      refine ⟨rfl, ?_, HK.out⟩
      have e : Go.Sort.reverseLoop i j dk = dk := by rw [Go.Sort.reverseLoop, if_neg hc]
      rw [HS.out, ← hS.out, e]
      exact HR.out

end Go.Proofs.Ytoeaakadpillnaa
