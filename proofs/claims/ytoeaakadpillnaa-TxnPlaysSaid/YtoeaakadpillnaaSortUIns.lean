/- slices.Sort at uint64: insertion. -/
import Derived.Test.YtoeaakadpillnaaRows
import Derived.Test.YtoeaakadpillnaaSortU
import Derived.Test.YtoeaakadpillnaaLockRef
import Derived.Test.YtoeaakadpillnaaKept
import Derived.Test.YtoeaakadpillnaaQuietTail
import Derived.Test.YtoeaakadpillnaaAppAny
import Derived.Deep.LoopGhost
import Derived.Sort.LotA
import Derived.Sort.WalkA
import Derived.WalkKit
import Derived.WalkLawsBesides
import Derived.WalkSpells
import Derived.LoopTactic
import Derived.WalkMore
import Derived.LoopN
import Derived.Laws.BitsAllLaws
import Derived.Laws.IdiomStrings
import Derived.BigQuiet
import Derived.Deep.QuietTactic
import Derived.Deep.DeepCutAuto
import Derived.Deep.RegionHeld3
import Derived.Deep.DrawnRows
import Derived.Lib.Hide
import Derived.Outline
import Derived.Deep.DeepMust
import Derived.Handy
namespace Go.Proofs.Ytoeaakadpillnaa
open Go.RowKit
set_option linter.unusedVariables false
set_option linter.unusedSimpArgs false

set_option maxHeartbeats 4000000 in
set_option maxRecDepth 100000 in
theorem insertion_u64 (base g n cp a b : Nat) (d : Array Nat) (w : World) (hn : n ≤ 1000000) (hab : a ≤ b) (hb : b ≤ n) (h : RowU w base g n cp d) :
    Calls Try.prog 101 #[.slice (some ⟨g, 0, none⟩) n cp, .int .i64 a, .int .i64 b] w fun e w' => e = .returned (.tuple #[]) ∧ RowU w' base g n cp (Go.Sort.insertionSort ltN d a b) ∧ OthersKept w w' (fun k => k = g) := by
  have hcp : cp ≤ 2 ^ 63 - 1 := by obtain ⟨_, _, _, _, h3, _⟩ := h.blk; exact h3
  have hnc : n ≤ cp := by obtain ⟨_, _, _, h3, _⟩ := h.blk; exact h3
  have H := Lib.hid h
  have LS := Lib.hid less_u64
  clear h
  have v0 : IntKind.i64.wrap ((a : Int) + 1) = ((a + 1 : Nat) : Int) := by rw [show ((a + 1 : Nat) : Int) = (a : Int) + 1 by omega]; exact IntWalk.i64_in _ ⟨by omega, by omega⟩
  go_enter Try.func101, Try.ntmps101
  go_wp2_with fail
  go_loopw [6] (fun s6 wr => ∃ (i : Nat) (dk : Array Nat), s6 = .int .i64 i ∧ a < i ∧ i ≤ b + 1 ∧ RowU wr base g n cp dk ∧ OthersKept w wr (fun k => k = g) ∧ Hid (Go.Sort.insOuter ltN a b i dk = Go.Sort.insertionSort ltN d a b)) (fun vi _ => b + 1 - (intOf vi).toNat)
  case atStart => exact ⟨a + 1, d, rfl, by omega, by omega, H.out, OthersKept.of_below (Below.refl _ _), rfl⟩
  case round =>
    obtain ⟨i, dk, rfl, hai, hib, hR, hK, hO⟩ := hrel
    have HR := Lib.hid hR
    have HK := Lib.hid hK
    clear hR hK
    by_cases hc : i < b
    · go_wp2_with fail
      go_loopw [7] (fun s7 wr2 => ∃ (j : Nat) (dj : Array Nat), s7 = .int .i64 j ∧ a ≤ j ∧ j ≤ i ∧ RowU wr2 base g n cp dj ∧ OthersKept w wr2 (fun k => k = g) ∧ Hid (Go.Sort.insInner ltN a j dj = Go.Sort.insInner ltN a i dk)) (fun vj _ => (intOf vj).toNat)
      case atStart => exact ⟨i, dk, rfl, by omega, Nat.le_refl _, HR.out, HK.out, rfl⟩
      case round =>
        obtain ⟨j, dj, rfl, haj, hji, hRj, hKj, hI⟩ := hrel
        have HRj := Lib.hid hRj
        have HKj := Lib.hid hKj
        have hgl := hRj.lt
        have OUT : Hid ((j ≤ a ∨ ltN dj[j]! dj[j - 1]! = false) → Go.Sort.insOuter ltN a b (i + 1) dj = Go.Sort.insertionSort ltN d a b) := by
          show _ → _
          intro hs
          rw [← hO.out, Go.Proofs.insOuter_go _ _ _ _ _ hc, ← hI.out, Go.Proofs.insInner_stop _ _ _ _ hs]
        by_cases hja : a < j
        · obtain ⟨m, rfl⟩ : ∃ m, j = m + 1 := ⟨j - 1, by omega⟩
          have c1 := hRj.cell (m + 1) (by omega)
          have c2 := hRj.cell m (by omega)
          have f1 := hRj.frozen (m + 1)
          have f2 := hRj.frozen m
          have v1 : IntKind.i64.wrap (((m + 1 : Nat) : Int) - 1) = (m : Int) := by rw [show ((m + 1 : Nat) : Int) - 1 = (m : Int) by omega]; exact IntWalk.i64_in _ ⟨by omega, by omega⟩
          have SW := Lib.hid fun W (hW : Below wr.heap.size wr W) => (hRj.below hW).swap (m + 1) m (by omega) (by omega)
          have OUT2 : Hid (ltN dj[m + 1]! dj[m]! = false → Go.Sort.insOuter ltN a b (i + 1) dj = Go.Sort.insertionSort ltN d a b) := fun h => OUT.out (.inr h)
          have GO : Hid (ltN dj[m + 1]! dj[m]! = true → Go.Sort.insInner ltN a m (Go.Sort.swp dj (m + 1) m) = Go.Sort.insInner ltN a i dk) := by
            show _ → _
            intro hl
            rw [← hI.out, Go.Proofs.insInner_go ltN a (m + 1) dj (by omega) hl]
            rfl
          generalize dj[m + 1]! = x at *
          generalize dj[m]! = y at *
          obtain ⟨J, hJ⟩ : ∃ J, J = m + 1 := ⟨_, rfl⟩
          have hJm : J ≠ m := by omega
          rw [← hJ] at c1 f1 v1 SW hji hja
          have q1 : (0 : Int) ≤ (J : Int) := by omega
          have q2 : (J : Int) < (n : Int) := by omega
          have q3 : (0 : Int) ≤ (m : Int) := by omega
          have q4 : (m : Int) < (n : Int) := by omega
          have q5 : (a : Int) < (J : Int) := by omega
          have HJ := Lib.hid hJ
          have HAJ := Lib.hid haj
          rw [← hJ]
          have e1 := ext_cell c1 (cell_lt c1)
          have e2 := ext_cell c2 (cell_lt c2)
          clear hRj hKj OUT hI haj hJ
          cases hl : ltN x y with
          | true =>
            have L1 := Lib.hid fun W => LS.out x y W
            rw [hl] at L1
            have G1 := Lib.hid (GO.out hl)
            clear hl
            go_upto_region 4 with fail
            refine wp_region_ext wr.heap.size (by kernel_rfl) (by kernel_rfl) ?_
            repeat (go_big_quiet_step (first | (go_at_call 107; exact ext_call _ (Nat.le_refl _) (L1.out _))))
            refine wpQuiet_nil ?_
            rintro _ ⟨X, rfl⟩
            have HX := Lib.hid X.below
            have c3 := keep_cell HX.out c1
            have c4 := keep_cell HX.out c2
            have f3 := (HX.out.frozen (p := ⟨g, J, none⟩) hgl).trans f1
            have f4 := (HX.out.frozen (p := ⟨g, m, none⟩) hgl).trans f2
            generalize X.val = wx at *
            have n1 : ¬ J = m := hJm
            have n2 : ¬ m = J := Ne.symm hJm
            clear c1 c2 f1 f2 e1 e2
            go_upto_region 6 with fail
            go_region
            all_goals go_wp2_with fail
            go_roundw
            case rel => exact ⟨m, _, rfl, by have := HJ.out; omega, by have := HJ.out; omega, (SW.out _ HX.out).below (Below.refl _ _).drew, ((HKj.out.then_below HX.out).trans (swap_kept _ g _ _ _ _) (fun _ _ h => h)).then_below (Below.refl _ _).drew, by rw [HJ.out]; exact G1.out⟩
            case measure => have := HJ.out; simp [intOf]; omega
          | false =>
            have L1 := Lib.hid fun W => LS.out x y W
            rw [hl] at L1
            have G1 := Lib.hid (OUT2.out hl)
            clear hl
            go_upto_region 4 with fail
            refine wp_region_ext wr.heap.size (by kernel_rfl) (by kernel_rfl) ?_
            repeat (go_big_quiet_step (first | (go_at_call 107; exact ext_call _ (Nat.le_refl _) (L1.out _))))
            refine wpQuiet_nil ?_
            rintro _ ⟨X, rfl⟩
            have HX := Lib.hid X.below
            go_wp2_with fail
            go_roundw
            case rel => exact ⟨i + 1, dj, by go_num, by omega, by omega, HRj.out.below HX.out, HKj.out.then_below HX.out, G1.out⟩
            case measure => simp [intOf]; omega
        · have G1 := Lib.hid (OUT.out (.inl (by omega)))
          have hja2 : ¬ (a : Int) < (j : Int) := by omega
          clear hRj hKj OUT
          go_upto_region 4 with fail
          refine wp_region_ext wr.heap.size (by kernel_rfl) (by kernel_rfl) ?_
          repeat (go_big_quiet_step (fail))
          refine wpQuiet_nil ?_
          rintro _ ⟨X, rfl⟩
          have HX := Lib.hid X.below
          go_wp2_with fail
          go_roundw
          case rel => exact ⟨i + 1, dj, by go_num, by omega, by omega, HRj.out.below HX.out, HKj.out.then_below HX.out, G1.out⟩
          case measure => simp [intOf]; omega
    · go_wp2_with fail
      go_end0
      exact ⟨rfl, by rw [← hO.out, Go.Proofs.insOuter_stop _ _ _ _ _ hc]; exact HR.out, HK.out⟩

end Go.Proofs.Ytoeaakadpillnaa
