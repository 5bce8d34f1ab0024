/- slices.Sort at uint64: order2, median, medianAdjacent. -/
import Derived.Test.YtoeaakadpillnaaRows
import Derived.Test.YtoeaakadpillnaaSortURev
import Derived.Test.YtoeaakadpillnaaSortUHeap
import Derived.Test.YtoeaakadpillnaaSortUSift
import Derived.Test.YtoeaakadpillnaaSortUIns
import Derived.Test.YtoeaakadpillnaaSortU
import Derived.Test.YtoeaakadpillnaaLockRef
import Derived.Test.YtoeaakadpillnaaKept
import Derived.Test.YtoeaakadpillnaaQuietTail
import Derived.Test.YtoeaakadpillnaaAppAny
import Derived.Deep.LoopGhost
import Derived.Deep.CutBlock
import Derived.Sort.LotA
import Derived.Sort.LotD3
import Derived.Sort.WalkA
import Derived.WalkKit
import Derived.WalkLawsBesides
import Derived.WalkSpells
import Derived.LoopTactic
import Derived.WalkMore
import Derived.LoopN
import Derived.Laws.BitsAllLaws
import Derived.Laws.IdiomStrings
import Derived.BigQuiet
import Derived.Deep.QuietTactic
import Derived.Deep.DeepCutAuto
import Derived.Deep.RegionHeld3
import Derived.Deep.DrawnRows
import Derived.Lib.Hide
import Derived.Outline
import Derived.Deep.DeepMust
import Derived.Handy
namespace Go.Proofs.Ytoeaakadpillnaa
open Go.RowKit
set_option linter.unusedVariables false
set_option linter.unusedSimpArgs false

/-- A counter in a block of its own. -/
def CntAt (w : World) (s c : Nat) : Prop := w.heap[s]? = some (.cells #[.int .i64 (c : Nat)] 3 (0, 0))
theorem CntAt.below {w w' : World} {s c : Nat} (h : CntAt w s c) (hb : Below w.heap.size w w') : CntAt w' s c := (hb.block s (blk_lt h)).trans h
theorem RowU.kept {w w' : World} {p : Nat → Prop} {base g n cp : Nat} {d : Array Nat} (h : RowU w base g n cp d) (hk : OthersKept w w' p) (hg : ¬ p g) : RowU w' base g n cp d :=
  ⟨h.size, hk.owns h.own (fun k hk2 => by simp [Value.ownBlock] at hk2; subst hk2; exact hg)⟩

set_option maxHeartbeats 4000000 in
set_option maxRecDepth 100000 in
/-- Two places in order; how often it swapped. -/
theorem order2_u64 (base g n cp s a b c : Nat) (d : Array Nat) (w : World) (hn : n ≤ 1000000) (ha : a < n) (hb : b < n) (hc : c ≤ 1000) (h : RowU w base g n cp d) (hw : CntAt w s c) :
    Calls Try.prog 122 #[.slice (some ⟨g, 0, none⟩) n cp, .int .i64 a, .int .i64 b, .pointer (some ⟨s, 0, none⟩)] w fun e w' => ∃ p q c' : Nat, (p = a ∨ p = b) ∧ (q = a ∨ q = b) ∧ c' ≤ c + 1 ∧ e = .returned (.tuple #[.int .i64 p, .int .i64 q]) ∧ CntAt w' s c' ∧ OthersKept w w' (fun k => k = s) := by
  have hgl := h.lt
  have LS := Lib.hid less_u64
  have c1 := h.cell a ha
  have c2 := h.cell b hb
  have HW := Lib.hid hw
  have x3 : w.cell? ⟨s, 0, none⟩ = some (.int .i64 (c : Nat)) := blk_cell hw 0
  have f3 : w.frozen? ⟨s, 0, none⟩ = false := blk_frozen hw 0
  have hsl := blk_lt hw
  have q1 : (0 : Int) ≤ (a : Int) := by omega
  have q2 : (a : Int) < (n : Int) := by omega
  have q3 : (0 : Int) ≤ (b : Int) := by omega
  have q4 : (b : Int) < (n : Int) := by omega
  generalize d[a]! = x at *
  generalize d[b]! = y at *
  have e1 := ext_cell c1 hgl
  have e2 := ext_cell c2 hgl
  clear h hw
  go_enter Try.func122, Try.ntmps122
  go_upto_region 1 with fail
  cases hl : ltN y x with
  | true =>
    have L1 := Lib.hid fun W => LS.out y x W
    rw [hl] at L1
    clear hl
    refine wp_region_ext w.heap.size (by kernel_rfl) (by kernel_rfl) ?_
    repeat (go_big_quiet_step (first | (go_at_call 107; exact ext_call _ (Nat.le_refl _) (L1.out _))))
    refine wpQuiet_nil ?_
    rintro _ ⟨X, rfl⟩
    have HX := Lib.hid X.below
    have x4 := keep_cell HX.out x3
    have f4 := (HX.out.frozen (p := ⟨s, 0, none⟩) hsl).trans f3
    have HC := Lib.hid (HW.out.below HX.out)
    generalize X.val = wx at *
    clear c1 c2 e1 e2 x3 f3
    go_wp2_with fail
    go_ret2
    refine ⟨b, a, c + 1, .inr rfl, .inl rfl, Nat.le_refl _, rfl, ?_, (OthersKept.of_below HX.out).trans (OthersKept.of_grown (p := fun k => k = s) (g := s) (grown_set (grown_refl _ _)) rfl) (fun _ _ h => h)⟩
    exact blk_set HC.out 0 _
  | false =>
    have L1 := Lib.hid fun W => LS.out y x W
    rw [hl] at L1
    clear hl
    refine wp_region_ext w.heap.size (by kernel_rfl) (by kernel_rfl) ?_
    repeat (go_big_quiet_step (first | (go_at_call 107; exact ext_call _ (Nat.le_refl _) (L1.out _))))
    refine wpQuiet_nil ?_
    rintro _ ⟨X, rfl⟩
    have HX := Lib.hid X.below
    go_wp2_with fail
    go_ret2
    exact ⟨a, b, c, .inl rfl, .inr rfl, by omega, rfl, HW.out.below HX.out, OthersKept.of_below HX.out⟩

set_option maxHeartbeats 4000000 in
set_option maxRecDepth 100000 in
/-- The middle of three. -/
theorem median_u64 (base g n cp s a b z c : Nat) (d : Array Nat) (w : World) (hn : n ≤ 1000000) (ha : a < n) (hb : b < n) (hz : z < n) (hc : c ≤ 900) (hs : s ≠ g) (h : RowU w base g n cp d) (hw : CntAt w s c) :
    Calls Try.prog 119 #[.slice (some ⟨g, 0, none⟩) n cp, .int .i64 a, .int .i64 b, .int .i64 z, .pointer (some ⟨s, 0, none⟩)] w fun e w' => ∃ p c' : Nat, (p = a ∨ p = b ∨ p = z) ∧ c' ≤ c + 3 ∧ e = .returned (.int .i64 p) ∧ CntAt w' s c' ∧ OthersKept w w' (fun k => k = s) := by
  have OR := Lib.hid fun a b c W (h1 : a < n) (h2 : b < n) (h3 : c ≤ 1000) hR hC => order2_u64 base g n cp s a b c d W hn h1 h2 h3 hR hC
  have H := Lib.hid h
  have HW := Lib.hid hw
  clear h hw
  go_enter Try.func119, Try.ntmps119
  go_wp2_with fail
  refine (OR.out a b c w ha hb (by omega) H.out HW.out).mono ?_
  rintro e w1 ⟨p1, r1, c1, hp1, hr1, hc1, rfl, hC1, hK1⟩
  have H1 := Lib.hid (H.out.kept hK1 (fun h => hs h.symm))
  have HC1 := Lib.hid hC1
  have HK1 := Lib.hid hK1
  clear hC1 hK1
  have hp1n : p1 < n := by omega
  have hr1n : r1 < n := by omega
  go_wp2_with fail
  refine (OR.out r1 z c1 w1 hr1n hz (by omega) H1.out HC1.out).mono ?_
  rintro e w2 ⟨p2, r2, c2, hp2, hr2, hc2, rfl, hC2, hK2⟩
  have H2 := Lib.hid (H1.out.kept hK2 (fun h => hs h.symm))
  have HC2 := Lib.hid hC2
  have HK2 := Lib.hid (HK1.out.trans hK2 (fun _ _ h => h))
  clear hC2 hK2
  have hp2n : p2 < n := by omega
  go_wp2_with fail
  refine (OR.out p1 p2 c2 w2 hp1n hp2n (by omega) H2.out HC2.out).mono ?_
  rintro e w3 ⟨p3, r3, c3, hp3, hr3, hc3, rfl, hC3, hK3⟩
  have HC3 := Lib.hid hC3
  have HK3 := Lib.hid (HK2.out.trans hK3 (fun _ _ h => h))
  clear hC3 hK3
  go_wp2_with fail
  go_ret
  exact ⟨r3, c3, by omega, by omega, rfl, HC3.out, HK3.out⟩

set_option maxHeartbeats 4000000 in
set_option maxRecDepth 100000 in
/-- The middle of a place and its neighbours. -/
theorem medianAdjacent_u64 (base g n cp s a c : Nat) (d : Array Nat) (w : World) (hn : n ≤ 1000000) (ha : 1 ≤ a) (hb : a + 1 < n) (hc : c ≤ 900) (hs : s ≠ g) (h : RowU w base g n cp d) (hw : CntAt w s c) :
    Calls Try.prog 118 #[.slice (some ⟨g, 0, none⟩) n cp, .int .i64 a, .pointer (some ⟨s, 0, none⟩)] w fun e w' => ∃ p c' : Nat, (a ≤ p + 1 ∧ p ≤ a + 1) ∧ c' ≤ c + 3 ∧ e = .returned (.int .i64 p) ∧ CntAt w' s c' ∧ OthersKept w w' (fun k => k = s) := by
  obtain ⟨a0, ha0⟩ : ∃ x, x = a - 1 := ⟨_, rfl⟩
  obtain ⟨a2, ha2⟩ : ∃ x, x = a + 1 := ⟨_, rfl⟩
  have ME := Lib.hid (median_u64 base g n cp s a0 a a2 c d w hn (by omega) (by omega) (by omega) hc hs h hw)
  have e0 : (a : Int) - 1 = (a0 : Int) := by omega
  have e2 : (a : Int) + 1 = (a2 : Int) := by omega
  have hpp : ∀ p, (p = a0 ∨ p = a ∨ p = a2) → a ≤ p + 1 ∧ p ≤ a + 1 := fun p hp => by omega
  have hab : a ≤ 1000000 := by omega
  clear h hw ha0 ha2
  go_enter Try.func118, Try.ntmps118
  go_wp2_with fail
  (try rw [e0]); (try rw [e2])
  refine (ME.out).mono ?_
  rintro e w1 ⟨p1, c1, hp1, hc1, rfl, hC1, hK1⟩
  have HC1 := Lib.hid hC1
  have HK1 := Lib.hid hK1
  clear hC1 hK1
  go_wp2_with fail
  go_ret
  exact ⟨p1, c1, hpp _ hp1, hc1, rfl, HC1.out, HK1.out⟩

end Go.Proofs.Ytoeaakadpillnaa
