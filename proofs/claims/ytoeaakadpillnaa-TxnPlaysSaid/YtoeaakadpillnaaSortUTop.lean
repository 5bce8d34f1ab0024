/- slices.Sort at uint64: Sort. -/
import Derived.Test.YtoeaakadpillnaaRows
import Derived.Test.YtoeaakadpillnaaSortUPdq
import Derived.Test.YtoeaakadpillnaaSortUPins
import Derived.Test.YtoeaakadpillnaaSortUPar
import Derived.Test.YtoeaakadpillnaaSortUPeq
import Derived.Test.YtoeaakadpillnaaSortUBrk
import Derived.Test.YtoeaakadpillnaaSortUGen
import Derived.Test.YtoeaakadpillnaaSortUCho
import Derived.Test.YtoeaakadpillnaaSortUPiv
import Derived.Test.YtoeaakadpillnaaSortURev
import Derived.Test.YtoeaakadpillnaaSortUHeap
import Derived.Test.YtoeaakadpillnaaSortUSift
import Derived.Test.YtoeaakadpillnaaSortUIns
import Derived.Test.YtoeaakadpillnaaSortU
import Derived.Test.YtoeaakadpillnaaLockRef
import Derived.Test.YtoeaakadpillnaaKept
import Derived.Test.YtoeaakadpillnaaQuietTail
import Derived.Test.YtoeaakadpillnaaAppAny
import Derived.Deep.LoopGhost
import Derived.Deep.CutBlock
import Derived.Sort.LotA
import Derived.Sort.LotD3
import Derived.Sort.WalkA
import Derived.Sort.LotC
import Derived.Sort.LotB
import Derived.WalkKit
import Derived.WalkLawsBesides
import Derived.WalkSpells
import Derived.LoopTactic
import Derived.WalkMore
import Derived.LoopN
import Derived.Laws.BitsAllLaws
import Derived.Laws.IdiomStrings
import Derived.BigQuiet
import Derived.Deep.QuietTactic
import Derived.Deep.DeepCutAuto
import Derived.Deep.RegionHeld3
import Derived.Deep.DrawnRows
import Derived.Lib.Hide
import Derived.Outline
import Derived.Deep.DeepMust
import Derived.Handy
namespace Go.Proofs.Ytoeaakadpillnaa
open Go.RowKit
set_option linter.unusedVariables false
set_option linter.unusedSimpArgs false

theorem bitlen_le (l : Nat) (h0 : 0 < l) (hn : l ≤ 1000000) : Lib.bitLen l ≤ 20 := by
  have h := bitlen_two l h0 hn
  generalize Lib.bitLen l = L at *
  rcases Nat.lt_or_ge 20 L with hc | hc
  · have := Nat.pow_le_pow_right (show 0 < 2 by decide) (show 21 ≤ L by omega)
    have e2 : (2 : Nat) ^ 21 = 2097152 := by decide
    omega
  · exact hc

set_option maxHeartbeats 4000000 in
set_option maxRecDepth 100000 in
theorem insertion_none (b : Option Addr) (cp : Nat) (w : World) :
    Calls Try.prog 101 #[.slice b 0 cp, .int .i64 0, .int .i64 0] w fun e w' => e = .returned (.tuple #[]) ∧ w' = w := by
  go_enter Try.func101, Try.ntmps101
  go_wp2_with fail
  go_loopw [6] (fun s6 wr => s6 = .int .i64 1 ∧ wr = w) (fun _ _ => 0)
  case atStart => exact ⟨rfl, rfl⟩
  case round =>
    obtain ⟨rfl, rfl⟩ := hrel
    go_wp2_with fail
    go_end0
    exact ⟨rfl, rfl⟩

set_option maxHeartbeats 4000000 in
set_option maxRecDepth 100000 in
theorem pdq_none (b : Option Addr) (cp : Nat) (w : World) :
    Calls Try.prog 85 #[.slice b 0 cp, .int .i64 0, .int .i64 0, .int .i64 0] w fun e w' => e = .returned (.tuple #[]) ∧ w' = w := by
  have INS := Lib.hid insertion_none
  go_enter Try.func85, Try.ntmps85
  go_wp2_with fail
  go_loopw [1, 2, 3, 8, 9] (fun s1 s2 s3 s8 s9 wr => s1 = .int .i64 0 ∧ s2 = .int .i64 0 ∧ s3 = .int .i64 0 ∧ s8 = .bool true ∧ s9 = .bool true ∧ wr = w) (fun _ _ _ _ _ _ => 0)
  case atStart => exact ⟨rfl, rfl, rfl, rfl, rfl, rfl⟩
  case round =>
    obtain ⟨rfl, rfl, rfl, rfl, rfl, rfl⟩ := hrel
    go_wp2_with fail
    refine (INS.out b cp _).mono ?_
    rintro e w1 ⟨rfl, rfl⟩
    go_wp2_with fail
    (try simp only [Exit.inBlock, Exit.then]); refine bodyPost_ret (results_none rfl _ _ _) rfl ?_
    exact ⟨rfl, rfl⟩

set_option maxHeartbeats 4000000 in
set_option maxRecDepth 100000 in
/-- An empty slice stays. -/
theorem sort_none (b : Option Addr) (cp : Nat) (w : World) :
    Calls Try.prog 64 #[.slice b 0 cp] w fun e w' => e = .returned (.tuple #[]) ∧ w' = w := by
  have hL : ∀ W, Calls Try.prog 83 #[.int .u64 0] W fun e w' => e = .returned (.int .i64 0) ∧ w' = W := fun W => by
    have h := Try.bits_Len 0 W (by omega) (by omega)
    exact h
  have PD := Lib.hid pdq_none
  go_enter Try.func64, Try.ntmps64
  go_wp2_with (first | (go_at_call 83; refine (hL _).mono ?_; rintro e w' ⟨rfl, rfl⟩))
  refine (PD.out b cp _).mono ?_
  rintro e w1 ⟨rfl, rfl⟩
  go_wp2_with fail
  go_end0
  exact ⟨rfl, rfl⟩

set_option maxHeartbeats 4000000 in
set_option maxRecDepth 100000 in
/-- slices.Sort sorts. -/
theorem sort_row (base g n cp : Nat) (d : Array Nat) (w : World) (h0 : 0 < n) (hn : n ≤ 1000000) (h : RowU w base g n cp d) :
    Calls Try.prog 64 #[.slice (some ⟨g, 0, none⟩) n cp] w fun e w' => ∃ d', e = .returned (.tuple #[]) ∧ (Go.Sort.PermIn 0 n d d' ∧ Go.Sort.SortedIn ltN 0 n d') ∧ RowU w' base g n cp d' ∧ OthersKept w w' (fun k => k = g) := by
  have hL : ∀ W, Calls Try.prog 83 #[.int .u64 (n : Int)] W fun e w' => e = .returned (.int .i64 (Lib.bitLen n : Nat)) ∧ w' = W := fun W => by
    have h := Try.bits_Len (n : Int) W (by omega) (by omega)
    rwa [Int.toNat_natCast] at h
  have hk := bitlen_le n h0 hn
  have PD := Lib.hid (pdq_u64 base g n cp hn (n + 1) 0 n (Lib.bitLen n) d w (by omega) (by omega) (Nat.le_refl _) (by omega) (.inl rfl) h)
  clear h
  generalize Lib.bitLen n = L at *
  go_enter Try.func64, Try.ntmps64
  go_wp2_with (first | (go_at_call 83; refine (hL _).mono ?_; rintro e w' ⟨rfl, rfl⟩))
  refine (PD.out).mono ?_
  rintro e w1 ⟨d', rfl, h1, h2, h3⟩
  go_wp2_with fail
  go_end0
  exact ⟨d', rfl, h1, h2, h3⟩

theorem permIn_list {d d' : Array Nat} {n : Nat} (hs : d.size = n) (h : Go.Sort.PermIn 0 n d d') : d'.toList.Perm d.toList := by
  have hp := h.2.2
  have e1 : d'.extract 0 n = d' := by rw [← hs, ← h.1]; simp
  have e2 : d.extract 0 n = d := by rw [← hs]; simp
  rwa [e1, e2] at hp
theorem sortedIn_list {d : Array Nat} {n : Nat} (hs : d.size = n) (h : Go.Sort.SortedIn ltN 0 n d) : d.toList.Pairwise (· ≤ ·) := by
  rw [List.pairwise_iff_getElem]
  intro i j hi hj hij
  have := h i j (Nat.zero_le _) hij (by simpa [hs] using hj)
  have hi2 : i < d.size := by simpa using hi
  have hj2 : j < d.size := by simpa using hj
  simp only [ltN, decide_eq_false_iff_not, Nat.not_lt] at this
  rw [getElem!_pos d i hi2, getElem!_pos d j hj2] at this
  simpa using this

/-- slices.Sort of any owned row of numbers. -/
theorem sort_u64 (base n : Nat) (v : Value) (xs : List Nat) (w : World) (hn : n ≤ 1000000) (h : w.ownsRow base 27 1 v n (nums xs)) :
    Calls Try.prog 64 #[v] w fun e w' => ∃ ys : List Nat, e = .returned (.tuple #[]) ∧ ys.Perm xs ∧ ys.Pairwise (· ≤ ·) ∧ w'.ownsRow base 27 1 v n (nums ys) ∧ OthersKept w w' (fun k => v.ownBlock = some k) := by
  obtain ⟨b, cp, rfl, h1, h2, h3⟩ := own_form h
  have hlen : xs.length = n := by have := h.1; simpa [nums] using this
  rcases Nat.eq_zero_or_pos n with h0 | h0
  · have hx : xs = [] := List.eq_nil_of_length_eq_zero (by omega)
    subst hx
    rw [h0] at h ⊢
    refine (sort_none b cp w).mono ?_
    rintro e w1 ⟨rfl, rfl⟩
    exact ⟨[], rfl, List.Perm.refl _, List.Pairwise.nil, h, OthersKept.of_below (Below.refl _ _)⟩
  · obtain ⟨g, rfl, hb⟩ := h3 h0
    have hR : RowU w base g n cp xs.toArray := ⟨by simpa using hlen, by simpa using h⟩
    refine (sort_row base g n cp xs.toArray w h0 hn hR).mono ?_
    rintro e w1 ⟨d', rfl, ⟨hp, hs⟩, hR1, hK1⟩
    refine ⟨d'.toList, rfl, by simpa using permIn_list hR.size hp, sortedIn_list hR1.size hs, hR1.own, ?_⟩
    exact ⟨hK1.os, hK1.tape, hK1.output, hK1.size, fun k hk hp => hK1.block k hk (fun e => hp (by subst e; rfl))⟩

end Go.Proofs.Ytoeaakadpillnaa
