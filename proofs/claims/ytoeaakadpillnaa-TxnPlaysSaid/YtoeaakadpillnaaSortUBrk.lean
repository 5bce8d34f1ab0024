/- slices.Sort at uint64: breakPatterns. -/
import Derived.Test.YtoeaakadpillnaaRows
import Derived.Test.YtoeaakadpillnaaSortUGen
import Derived.Test.YtoeaakadpillnaaSortUCho
import Derived.Test.YtoeaakadpillnaaSortUPiv
import Derived.Test.YtoeaakadpillnaaSortURev
import Derived.Test.YtoeaakadpillnaaSortUHeap
import Derived.Test.YtoeaakadpillnaaSortUSift
import Derived.Test.YtoeaakadpillnaaSortUIns
import Derived.Test.YtoeaakadpillnaaSortU
import Derived.Test.YtoeaakadpillnaaLockRef
import Derived.Test.YtoeaakadpillnaaKept
import Derived.Test.YtoeaakadpillnaaQuietTail
import Derived.Test.YtoeaakadpillnaaAppAny
import Derived.Deep.LoopGhost
import Derived.Deep.CutBlock
import Derived.Sort.LotA
import Derived.Sort.LotD3
import Derived.Sort.WalkA
import Derived.WalkKit
import Derived.WalkLawsBesides
import Derived.WalkSpells
import Derived.LoopTactic
import Derived.WalkMore
import Derived.LoopN
import Derived.Laws.BitsAllLaws
import Derived.Laws.IdiomStrings
import Derived.BigQuiet
import Derived.Deep.QuietTactic
import Derived.Deep.DeepCutAuto
import Derived.Deep.RegionHeld3
import Derived.Deep.DrawnRows
import Derived.Lib.Hide
import Derived.Outline
import Derived.Deep.DeepMust
import Derived.Handy
namespace Go.Proofs.Ytoeaakadpillnaa
open Go.RowKit
set_option linter.unusedVariables false
set_option linter.unusedSimpArgs false

set_option maxHeartbeats 4000000 in
set_option maxRecDepth 100000 in
/-- Some places are swapped. -/
theorem break_u64 (base g n cp a b : Nat) (d : Array Nat) (w : World) (hn : n ≤ 1000000) (hab : a + 12 < b) (hb : b ≤ n) (h : RowU w base g n cp d) :
    Calls Try.prog 103 #[.slice (some ⟨g, 0, none⟩) n cp, .int .i64 a, .int .i64 b] w fun e w' => ∃ d', Go.Sort.PermIn a b d d' ∧ e = .returned (.tuple #[]) ∧ RowU w' base g n cp d' ∧ OthersKept w w' (fun k => k = g) := by
  obtain ⟨l, hl⟩ : ∃ x, x = b - a := ⟨_, rfl⟩
  obtain ⟨q, hq⟩ : ∃ x, x = l / 4 := ⟨_, rfl⟩
  obtain ⟨i0, hi0⟩ : ∃ x, x = a + 2 * q - 1 := ⟨_, rfl⟩
  have m3 : ((l : Nat) : Int).tdiv 4 = (q : Int) := by rw [Int.tdiv_eq_ediv_of_nonneg (by omega)]; omega
  have m4 : IntKind.i64.wrap ((q : Nat) : Int) = (q : Int) := IntWalk.i64_in _ ⟨by omega, by omega⟩
  have b1 : (b : Int) - (a : Int) = (l : Int) := by omega
  have hq3 : 3 ≤ q := by omega
  have hqn : q ≤ 1000000 := by omega
  have hl8 : (8 : Int) ≤ (l : Int) := by omega
  have hl0 : 0 < l := by omega
  have ei : (a : Int) + (q : Int) * 2 - 1 = (i0 : Int) := by omega
  have ei2 : (a : Int) + (q : Int) * 2 + 1 = (i0 : Int) + 2 := by omega
  have hi1 : a ≤ i0 := by omega
  have hi2 : i0 + 2 < b := by omega
  have hln : l ≤ 1000000 := by omega
  have halb : a + l = b := by omega
  have H := Lib.hid h
  have hgw := h.lt
  have NP := Lib.hid fun W => nextPower_u64 l W hl0 hln
  have NX := Lib.hid next_u64
  have hsg : w.heap.size ≠ g := by omega
  have HB0 : Hid (∀ v, Below w.heap.size w (w.alloc (.cells #[v] 153))) := fun v => (Below.refl w.heap.size w).alloc (Nat.le_refl _) _
  have HG0 : Hid (∀ x : Nat, GenAt (w.alloc (.cells #[.int .u64 (x : Nat)] 153)) w.heap.size x) := fun x => heap_alloc_new w _
  clear h hl hi0 hq
  go_enter Try.func103, Try.ntmps103
  go_wp2_with fail
  refine (NP.out _).mono ?_
  rintro e w1 ⟨M, hM1, hM2, rfl, rfl⟩
  go_wp2_with fail
  go_loopw [9] (fun s9 wr => ∃ (i x : Nat) (dk : Array Nat), s9 = .int .i64 i ∧ i0 ≤ i ∧ i ≤ i0 + 3 ∧ x < 18446744073709551616 ∧ GenAt wr w.heap.size x ∧ RowU wr base g n cp dk ∧ OthersKept w wr (fun k => k = g) ∧ Hid (Go.Sort.PermIn a b d dk)) (fun vi _ => i0 + 3 - (intOf vi).toNat)
  case atStart => exact ⟨i0, l, d, rfl, Nat.le_refl _, by omega, by omega, HG0.out l, H.out.below (HB0.out _), OthersKept.of_below (HB0.out _), Go.Sort.permIn_refl d a b⟩
  case round =>
    obtain ⟨i, x, dk, rfl, hi0, hi3, hx, hG, hR, hK, hP⟩ := hrel
    have HR := Lib.hid hR
    have HK := Lib.hid hK
    have HG := Lib.hid hG
    clear hR hK hG
    by_cases hc : i ≤ i0 + 2
    · have hci : (i : Int) ≤ (i0 : Int) + 2 := by omega
      go_wp2_with fail
      refine (NX.out _ x wr hx HG.out).mono ?_
      rintro e w2 ⟨y, hy, rfl, hG2, hK2⟩
      have hR2 := HR.out.kept hK2 (fun h => hsg h.symm)
      have HR2 := Lib.hid hR2
      have HK2 := Lib.hid (HK.out.trans hK2 (fun k hk h => by omega))
      have HG2 := Lib.hid hG2
      obtain ⟨O, hO⟩ : ∃ O, O = y &&& (M - 1) := ⟨_, rfl⟩
      have lO : O ≤ M - 1 := by rw [hO]; exact Nat.and_le_right
      have eAnd : bits .and .u64 (y : Int) ((M : Int) - 1) = (O : Int) := by rw [show ((M : Int) - 1) = ((M - 1 : Nat) : Int) by omega, bits_and_u64_nat _ _ hy (by omega), hO]
      clear hG2 hK2 hO hR2
      go_upto_if 43 with fail
      go_cut [10, 43] (fun s10 s43 w' => ∃ o : Nat, o < l ∧ s10 = .int .i64 o ∧ (∃ t, s43 = .bool t) ∧ w' = w2)
      case first =>
        by_cases ho : l ≤ O
        · have hoi : (l : Int) ≤ (O : Int) := by omega
          go_wp2_with fail
          go_meet
          exact ⟨O - l, by omega, by congr 1; omega, ⟨_, rfl⟩, rfl⟩
        · have hoi : ¬ (l : Int) ≤ (O : Int) := by omega
          go_wp2_with fail
          go_meet
          exact ⟨O, by omega, rfl, ⟨_, rfl⟩, rfl⟩
      case rest =>
        obtain ⟨o, hol, rfl, ⟨t, rfl⟩, rfl⟩ := hcut
        obtain ⟨p, hp⟩ : ∃ p, p = a + o := ⟨_, rfl⟩
        have m5 := wadd a o p hp.symm (by omega)
        have hpb : p < b := by omega
        have hap : a ≤ p := by omega
        have hR2 := HR2.out
        have x1 := hR2.cell i (by omega)
        have x2 := hR2.cell p (by omega)
        have f1 := hR2.frozen i
        have f2 := hR2.frozen p
        have SW := Lib.hid (hR2.swap i p (by omega) (by omega))
        have q1 : (0 : Int) ≤ (i : Int) := by omega
        have q2 : (i : Int) < (n : Int) := by omega
        have q3 : (0 : Int) ≤ (p : Int) := by omega
        have q4 : (p : Int) < (n : Int) := by omega
        have hds : b ≤ dk.size := by rw [hR2.size]; exact hb
        have HP2 := Lib.hid (Go.Sort.permIn_trans _ _ _ _ _ hP (Go.Sort.swp_permIn dk a b i p (by omega) (by omega) hap hpb hds))
        clear hR2 hp hP hds
        generalize dk[i]! = u at *
        generalize dk[p]! = v at *
        by_cases hEq : i = p
        · subst hEq
          obtain rfl : u = v := by rw [x1] at x2; injection x2 with x2; injection x2 with _ x2; omega
          clear x2 f2
          go_upto_region 10 with fail
          go_region
          all_goals go_wp2_with fail
          go_roundw
          case rel => exact ⟨i + 1, y, _, by go_num, by omega, by omega, hy, keep_drew (set_keep (set_keep HG2.out hsg) hsg), SW.out.below (Below.refl _ _).drew, (HK2.out.trans (swap_kept _ g _ _ _ _) (fun _ _ h => h)).then_below (Below.refl _ _).drew, HP2.out⟩
          case measure => simp [intOf] <;> omega
        · have hEq2 : ¬ p = i := fun h => hEq h.symm
          go_upto_region 10 with fail
          go_region
          all_goals go_wp2_with fail
          go_roundw
          case rel => exact ⟨i + 1, y, _, by go_num, by omega, by omega, hy, keep_drew (set_keep (set_keep HG2.out hsg) hsg), SW.out.below (Below.refl _ _).drew, (HK2.out.trans (swap_kept _ g _ _ _ _) (fun _ _ h => h)).then_below (Below.refl _ _).drew, HP2.out⟩
          case measure => simp [intOf] <;> omega
    · have hci : ¬ (i : Int) ≤ (i0 : Int) + 2 := by omega
      go_wp2_with fail
      go_end0
      exact ⟨dk, hP.out, rfl, HR.out, HK.out⟩

end Go.Proofs.Ytoeaakadpillnaa
