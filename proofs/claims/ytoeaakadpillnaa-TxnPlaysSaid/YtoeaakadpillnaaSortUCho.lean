/- slices.Sort at uint64: choosePivot. -/
import Derived.Test.YtoeaakadpillnaaRows
import Derived.Test.YtoeaakadpillnaaSortUPiv
import Derived.Test.YtoeaakadpillnaaSortURev
import Derived.Test.YtoeaakadpillnaaSortUHeap
import Derived.Test.YtoeaakadpillnaaSortUSift
import Derived.Test.YtoeaakadpillnaaSortUIns
import Derived.Test.YtoeaakadpillnaaSortU
import Derived.Test.YtoeaakadpillnaaLockRef
import Derived.Test.YtoeaakadpillnaaKept
import Derived.Test.YtoeaakadpillnaaQuietTail
import Derived.Test.YtoeaakadpillnaaAppAny
import Derived.Deep.LoopGhost
import Derived.Deep.CutBlock
import Derived.Sort.LotA
import Derived.Sort.LotD3
import Derived.Sort.WalkA
import Derived.WalkKit
import Derived.WalkLawsBesides
import Derived.WalkSpells
import Derived.LoopTactic
import Derived.WalkMore
import Derived.LoopN
import Derived.Laws.BitsAllLaws
import Derived.Laws.IdiomStrings
import Derived.BigQuiet
import Derived.Deep.QuietTactic
import Derived.Deep.DeepCutAuto
import Derived.Deep.RegionHeld3
import Derived.Deep.DrawnRows
import Derived.Lib.Hide
import Derived.Outline
import Derived.Deep.DeepMust
import Derived.Handy
namespace Go.Proofs.Ytoeaakadpillnaa
open Go.RowKit
set_option linter.unusedVariables false
set_option linter.unusedSimpArgs false

set_option maxHeartbeats 4000000 in
set_option maxRecDepth 100000 in
/-- The pivot's place and a hint. -/
theorem choosePivot_u64 (base g n cp a b : Nat) (d : Array Nat) (w : World) (hn : n ≤ 1000000) (hab : a + 12 < b) (hb : b ≤ n) (h : RowU w base g n cp d) :
    Calls Try.prog 104 #[.slice (some ⟨g, 0, none⟩) n cp, .int .i64 a, .int .i64 b] w fun e w' => ∃ p c : Nat, a ≤ p ∧ p < b ∧ c ≤ 2 ∧ e = .returned (.tuple #[.int .i64 p, .int .i64 c]) ∧ Below w.heap.size w w' := by
  have MA := Lib.hid fun s a c W (h1 : 1 ≤ a) (h2 : a + 1 < n) (h3 : c ≤ 900) (h4 : s ≠ g) hR hC => medianAdjacent_u64 base g n cp s a c d W hn h1 h2 h3 h4 hR hC
  have ME := Lib.hid fun s a b z c W (h1 : a < n) (h2 : b < n) (h5 : z < n) (h3 : c ≤ 900) (h4 : s ≠ g) hR hC => median_u64 base g n cp s a b z c d W hn h1 h2 h5 h3 h4 hR hC
  have H := Lib.hid h
  have hsg : w.heap.size ≠ g := by have := h.lt; omega
  have HB0 := Lib.hid ((Below.refl w.heap.size w).alloc (Nat.le_refl _) (.cells #[.int .i64 0] 3))
  have HC0 : Hid (CntAt (w.alloc (.cells #[.int .i64 0] 3)) w.heap.size 0) := by
    exact heap_alloc_new w _
  clear h
  obtain ⟨l, hl⟩ : ∃ x, x = b - a := ⟨_, rfl⟩
  obtain ⟨q, hq⟩ : ∃ x, x = l / 4 := ⟨_, rfl⟩
  obtain ⟨i, hi⟩ : ∃ x, x = a + q := ⟨_, rfl⟩
  obtain ⟨j, hj⟩ : ∃ x, x = a + 2 * q := ⟨_, rfl⟩
  obtain ⟨k, hk⟩ : ∃ x, x = a + 3 * q := ⟨_, rfl⟩
  have m3 : ((l : Nat) : Int).tdiv 4 = (q : Int) := by rw [Int.tdiv_eq_ediv_of_nonneg (by omega)]; omega
  have m4 : IntKind.i64.wrap ((q : Nat) : Int) = (q : Int) := IntWalk.i64_in _ ⟨by omega, by omega⟩
  have b1 : (b : Int) - (a : Int) = (l : Int) := by omega
  have hq3 : 3 ≤ q := by omega
  have hq4 : 4 * q ≤ l := by omega
  have hqn : q ≤ 1000000 := by omega
  have hl8 : (8 : Int) ≤ (l : Int) := by omega
  have ei : (a : Int) + (q : Int) = (i : Int) := by omega
  have ej : (a : Int) + (q : Int) * 2 = (j : Int) := by omega
  have ek : (a : Int) + (q : Int) * 3 = (k : Int) := by omega
  have hi0 : a + 3 ≤ i := by omega
  have hij : i + 3 ≤ j := by omega
  have hjk : j + 3 ≤ k := by omega
  have hkb : k + 1 < b := by omega
  have hln : l ≤ 1000000 := by omega
  have hJ := Lib.hid hj
  clear hl hi hj hk hq
  go_enter Try.func104, Try.ntmps104
  have HR0 := Lib.hid (H.out.below HB0.out)
  have hci : ∀ c : Nat, c = 0 → ((c : Nat) : Int) = 0 := fun c h => by omega
  by_cases h50 : 50 ≤ l
  · have h50i : (50 : Int) ≤ (l : Int) := by omega
    go_wp2_with fail
    refine (MA.out w.heap.size i 0 _ (by omega) (by omega) (by omega) hsg HR0.out HC0.out).mono ?_
    rintro e w1 ⟨p1, c1, hp1, hc1, rfl, hC1, hK1⟩
    have HR1 := Lib.hid (HR0.out.kept hK1 (fun h => hsg h.symm))
    have HC1 := Lib.hid hC1
    have HK1 := Lib.hid hK1
    clear hC1 hK1
    go_wp2_with fail
    refine (MA.out w.heap.size j c1 _ (by omega) (by omega) (by omega) hsg HR1.out HC1.out).mono ?_
    rintro e w2 ⟨p2, c2, hp2, hc2, rfl, hC2, hK2⟩
    have HR2 := Lib.hid (HR1.out.kept hK2 (fun h => hsg h.symm))
    have HC2 := Lib.hid hC2
    have HK2 := Lib.hid (HK1.out.trans hK2 (fun _ _ h => h))
    clear hC2 hK2
    go_wp2_with fail
    refine (MA.out w.heap.size k c2 _ (by omega) (by omega) (by omega) hsg HR2.out HC2.out).mono ?_
    rintro e w3 ⟨p3, c3, hp3, hc3, rfl, hC3, hK3⟩
    have HR3 := Lib.hid (HR2.out.kept hK3 (fun h => hsg h.symm))
    have HC3 := Lib.hid hC3
    have HK3 := Lib.hid (HK2.out.trans hK3 (fun _ _ h => h))
    clear hC3 hK3
    go_wp2_with fail
    refine (ME.out w.heap.size p1 p2 p3 c3 _ (by omega) (by omega) (by omega) (by omega) hsg HR3.out HC3.out).mono ?_
    rintro e w4 ⟨p4, c4, hp4, hc4, rfl, hC4, hK4⟩
    have HC4 := Lib.hid hC4
    have HB4 := Lib.hid (OthersKept.below HB0.out (HK3.out.trans hK4 (fun _ _ h => h)) (fun k hk h => by omega))
    clear hC4 hK4
    have x0 : w4.cell? ⟨w.heap.size, 0, none⟩ = some (.int .i64 (c4 : Nat)) := blk_cell HC4.out 0
    have hp0 := (show a ≤ p4 ∧ p4 < b by omega)
    by_cases z0 : c4 = 0
    · have z1 : ((c4 : Nat) : Int) = 0 := by omega
      go_wp2_with fail
      go_ret2
      exact ⟨p4, 1, hp0.1, hp0.2, by omega, rfl, HB4.out⟩
    · have z1 : ¬ ((c4 : Nat) : Int) = 0 := by omega
      by_cases z2 : c4 = 12
      · have z3 : ((c4 : Nat) : Int) = 12 := by omega
        go_wp2_with fail
        go_ret2
        exact ⟨p4, 2, hp0.1, hp0.2, by omega, rfl, HB4.out⟩
      · have z3 : ¬ ((c4 : Nat) : Int) = 12 := by omega
        go_wp2_with fail
        go_ret2
        exact ⟨p4, 0, hp0.1, hp0.2, by omega, rfl, HB4.out⟩
  · have h50i : ¬ (50 : Int) ≤ (l : Int) := by omega
    go_wp2_with fail
    refine (ME.out w.heap.size i j k 0 _ (by omega) (by omega) (by omega) (by omega) hsg HR0.out HC0.out).mono ?_
    rintro e w4 ⟨p4, c4, hp4, hc4, rfl, hC4, hK4⟩
    have HC4 := Lib.hid hC4
    have HB4 := Lib.hid (OthersKept.below HB0.out hK4 (fun k hk h => by omega))
    clear hC4 hK4
    have x0 : w4.cell? ⟨w.heap.size, 0, none⟩ = some (.int .i64 (c4 : Nat)) := blk_cell HC4.out 0
    have hp0 := (show a ≤ p4 ∧ p4 < b by omega)
    by_cases z0 : c4 = 0
    · have z1 : ((c4 : Nat) : Int) = 0 := by omega
      go_wp2_with fail
      go_ret2
      exact ⟨p4, 1, hp0.1, hp0.2, by omega, rfl, HB4.out⟩
    · have z1 : ¬ ((c4 : Nat) : Int) = 0 := by omega
      by_cases z2 : c4 = 12
      · have z3 : ((c4 : Nat) : Int) = 12 := by omega
        go_wp2_with fail
        go_ret2
        exact ⟨p4, 2, hp0.1, hp0.2, by omega, rfl, HB4.out⟩
      · have z3 : ¬ ((c4 : Nat) : Int) = 12 := by omega
        go_wp2_with fail
        go_ret2
        exact ⟨p4, 0, hp0.1, hp0.2, by omega, rfl, HB4.out⟩

end Go.Proofs.Ytoeaakadpillnaa
