/- slices.Sort at uint64: the generator. -/
import Derived.Test.YtoeaakadpillnaaRows
import Derived.Test.YtoeaakadpillnaaSortUCho
import Derived.Test.YtoeaakadpillnaaSortUPiv
import Derived.Test.YtoeaakadpillnaaSortURev
import Derived.Test.YtoeaakadpillnaaSortUHeap
import Derived.Test.YtoeaakadpillnaaSortUSift
import Derived.Test.YtoeaakadpillnaaSortUIns
import Derived.Test.YtoeaakadpillnaaSortU
import Derived.Test.YtoeaakadpillnaaLockRef
import Derived.Test.YtoeaakadpillnaaKept
import Derived.Test.YtoeaakadpillnaaQuietTail
import Derived.Test.YtoeaakadpillnaaAppAny
import Derived.Deep.LoopGhost
import Derived.Deep.CutBlock
import Derived.Sort.LotA
import Derived.Sort.LotD3
import Derived.Sort.WalkA
import Derived.WalkKit
import Derived.WalkLawsBesides
import Derived.WalkSpells
import Derived.LoopTactic
import Derived.WalkMore
import Derived.LoopN
import Derived.Laws.BitsAllLaws
import Derived.Laws.IdiomStrings
import Derived.BigQuiet
import Derived.Deep.QuietTactic
import Derived.Deep.DeepCutAuto
import Derived.Deep.RegionHeld3
import Derived.Deep.DrawnRows
import Derived.Lib.Hide
import Derived.Outline
import Derived.Deep.DeepMust
import Derived.Handy
namespace Go.Proofs.Ytoeaakadpillnaa
open Go.RowKit
set_option linter.unusedVariables false
set_option linter.unusedSimpArgs false

theorem xor_in (x : Nat) (y : Int) (hx : x < 18446744073709551616) (hy : 0 ≤ y) (hy2 : y < 18446744073709551616) : ∃ z : Nat, z < 18446744073709551616 ∧ bits .xor .u64 (x : Int) y = (z : Int) := by
  obtain ⟨k, rfl⟩ : ∃ k : Nat, y = (k : Int) := ⟨y.toNat, by omega⟩
  exact ⟨x ^^^ k, Nat.xor_lt_two_pow (n := 64) hx (by omega), bits_xor_u64_nat _ _ hx (by omega)⟩
/-- A generator in a block of its own. -/
def GenAt (w : World) (s x : Nat) : Prop := w.heap[s]? = some (.cells #[.int .u64 (x : Nat)] 153 (0, 0))

set_option maxHeartbeats 4000000 in
set_option maxRecDepth 100000 in
/-- The next number is one. -/
theorem next_u64 (s x : Nat) (w : World) (hx : x < 18446744073709551616) (hw : GenAt w s x) :
    Calls Try.prog 113 #[.pointer (some ⟨s, 0, none⟩)] w fun e w' => ∃ y : Nat, y < 18446744073709551616 ∧ e = .returned (.int .u64 y) ∧ GenAt w' s y ∧ OthersKept w w' (fun k => k = s) := by
  obtain ⟨A, lA, e1⟩ := xor_in x (IntKind.u64.wrap ((x : Int) * 8192)) hx (by rw [IntKind.wrap_u64]; omega) (by rw [IntKind.wrap_u64]; omega)
  obtain ⟨B, lB, e2⟩ := xor_in A ((A : Int) / 128) lA (by omega) (by omega)
  obtain ⟨C, lC, e3⟩ := xor_in B (IntKind.u64.wrap ((B : Int) * 131072)) lB (by rw [IntKind.wrap_u64]; omega) (by rw [IntKind.wrap_u64]; omega)
  have K : ∀ (W : World) (v : Value), OthersKept W (W.setCell ⟨s, 0, none⟩ v).drew (fun k => k = s) := fun W v => (OthersKept.of_grown (p := fun k => k = s) (g := s) (grown_set (grown_refl _ _)) rfl).then_below (Below.refl _ _).drew
  have G : ∀ (W : World) (y z : Nat), GenAt W s y → GenAt (W.setCell ⟨s, 0, none⟩ (.int .u64 (z : Nat))).drew s z := fun W y z h => keep_drew (blk_set h 0 _)
  have HK := Lib.hid K
  have HG := Lib.hid G
  have HW := Lib.hid hw
  have x0 : w.cell? ⟨s, 0, none⟩ = some (.int .u64 (x : Nat)) := blk_cell hw 0
  have f0 : w.frozen? ⟨s, 0, none⟩ = false := blk_frozen hw 0
  clear K G hw
  go_enter Try.func113, Try.ntmps113
  go_upto_region 1 with fail
  go_region
  all_goals go_wp2_with fail
  have G1 := Lib.hid (HG.out w x A HW.out)
  have K1 := Lib.hid (HK.out w (.int .u64 (A : Nat)))
  generalize (w.setCell ⟨s, 0, none⟩ (.int .u64 (A : Nat))).drew = w1 at *
  have x1 : w1.cell? ⟨s, 0, none⟩ = some (.int .u64 (A : Nat)) := blk_cell G1.out 0
  have f1 : w1.frozen? ⟨s, 0, none⟩ = false := blk_frozen G1.out 0
  go_upto_region 2 with fail
  go_region
  all_goals go_wp2_with fail
  have G2 := Lib.hid (HG.out w1 A B G1.out)
  have K2 := Lib.hid (K1.out.trans (HK.out w1 (.int .u64 (B : Nat))) (fun _ _ h => h))
  generalize (w1.setCell ⟨s, 0, none⟩ (.int .u64 (B : Nat))).drew = w2 at *
  have x2 : w2.cell? ⟨s, 0, none⟩ = some (.int .u64 (B : Nat)) := blk_cell G2.out 0
  have f2 : w2.frozen? ⟨s, 0, none⟩ = false := blk_frozen G2.out 0
  go_upto_region 3 with fail
  go_region
  all_goals go_wp2_with fail
  have G3 := Lib.hid (HG.out w2 B C G2.out)
  have K3 := Lib.hid (K2.out.trans (HK.out w2 (.int .u64 (C : Nat))) (fun _ _ h => h))
  generalize (w2.setCell ⟨s, 0, none⟩ (.int .u64 (C : Nat))).drew = w3 at *
  have x3 : w3.cell? ⟨s, 0, none⟩ = some (.int .u64 (C : Nat)) := blk_cell G3.out 0
  have f3 : w3.frozen? ⟨s, 0, none⟩ = false := blk_frozen G3.out 0
  go_wp2_with fail
  go_ret
  exact ⟨C, lC, rfl, G3.out, K3.out⟩

/-- So many places of two. -/
theorem bitlen_two : ∀ l : Nat, 0 < l → l ≤ 1000000 → 2 ^ Lib.bitLen l ≤ 2 * l := by
  intro l
  induction l using Nat.strongRecOn with
  | _ x ih =>
    intro h0 hn
    by_cases h1 : x = 1
    · subst h1; decide
    · rw [Lib.bitLen_half x (by omega) (by omega), Nat.add_comm, Nat.pow_succ]
      have := ih (x / 2) (by omega) (by omega) (by omega)
      omega
theorem bitlen_half (l : Nat) (h0 : 0 < l) (hn : l ≤ 1000000) : ∃ M : Nat, 1 ≤ M ∧ M ≤ 2 * l ∧ IntKind.u64.wrap ((2 : Int) ^ min (Lib.bitLen l) 64) = (M : Int) := by
  have h := bitlen_two l h0 hn
  generalize Lib.bitLen l = L at *
  have hL : L ≤ 20 := by
    rcases Nat.lt_or_ge 20 L with hc | hc
    · have := Nat.pow_le_pow_right (show 0 < 2 by decide) (show 21 ≤ L by omega)
      have e2 : (2 : Nat) ^ 21 = 2097152 := by decide
      omega
    · exact hc
  rw [Nat.min_eq_left (by omega)]
  refine ⟨2 ^ L, Nat.one_le_two_pow, h, ?_⟩
  rw [IntKind.wrap_u64, show ((2 : Int) ^ L) = ((2 ^ L : Nat) : Int) by push_cast; rfl]
  generalize (2 : Nat) ^ L = p at *
  omega

theorem nextPower_u64 (l : Nat) (w : World) (h0 : 0 < l) (hn : l ≤ 1000000) :
    Calls Try.prog 112 #[.int .i64 l] w fun e w' => ∃ M : Nat, 1 ≤ M ∧ M ≤ 2 * l ∧ e = .returned (.int .u64 M) ∧ w' = w := by
  obtain ⟨M, h1, h2, h3⟩ := bitlen_half l h0 hn
  have hL : ∀ W, Calls Try.prog 83 #[.int .u64 (l : Int)] W fun e w' => e = .returned (.int .i64 (Lib.bitLen l : Nat)) ∧ w' = W := fun W => by
    have h := Try.bits_Len (l : Int) W (by omega) (by omega)
    rwa [Int.toNat_natCast] at h
  go_enter Try.func112, Try.ntmps112
  go_wp2_with (first | (go_at_call 83; refine (hL _).mono ?_; rintro e w' ⟨rfl, rfl⟩))
  go_ret
  exact ⟨M, h1, h2, rfl, rfl⟩

end Go.Proofs.Ytoeaakadpillnaa
