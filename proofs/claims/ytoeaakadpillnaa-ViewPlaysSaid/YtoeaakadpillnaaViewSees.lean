/- chapter 24: Sees, slices.Clone. -/
import Derived.Test.YtoeaakadpillnaaRows
import Derived.Test.YtoeaakadpillnaaViewNums
import Derived.Test.YtoeaakadpillnaaSortUTop
import Derived.Test.YtoeaakadpillnaaLockRef
import Derived.Test.YtoeaakadpillnaaKept
import Derived.Test.YtoeaakadpillnaaQuietTail
import Derived.Test.YtoeaakadpillnaaAppAny
import Derived.Deep.LoopGhost
import Derived.Deep.CutBlock
import Derived.WalkKit
import Derived.WalkLawsBesides
import Derived.WalkSpells
import Derived.LoopTactic
import Derived.WalkMore
import Derived.LoopN
import Derived.Laws.BitsAllLaws
import Derived.Laws.IdiomStrings
import Derived.BigQuiet
import Derived.Deep.QuietTactic
import Derived.Deep.DeepCutAuto
import Derived.Deep.RegionHeld3
import Derived.Deep.DrawnRows
import Derived.Lib.Hide
import Derived.Outline
import Derived.Deep.DeepMust
import Derived.Handy
namespace Go.Proofs.Ytoeaakadpillnaa
open Go.RowKit
set_option linter.unusedVariables false
set_option linter.unusedSimpArgs false

/-- Whom a view sees. -/
def seesV (own next : Nat) (xs : List Nat) (tx : Nat) : Bool := !decide (tx = 0) && (decide (tx = own) || (decide (tx < next) && !decide (tx ∈ xs)))
/-- A view as a value. -/
abbrev viewV (own next : Nat) (sv : Value) : Value := .agg #[.int .u64 own, .int .u64 next, sv]

set_option maxHeartbeats 4000000 in
set_option maxRecDepth 100000 in
theorem sees_any (own next tx : Nat) (sv : Value) (xs : List Nat) (w : World) (h : NumsAt w sv xs) :
    Calls Try.prog 33 #[viewV own next sv, .int .u64 tx] w fun e w' => e = .returned (.bool (seesV own next xs tx)) ∧ Below w.heap.size w w' := by
  have HB0 := Lib.hid ((Below.refl w.heap.size w).alloc (Nat.le_refl _) (.cells #[.int .u64 own, .int .u64 next, sv] 50))
  have CO := Lib.hid (contains_u64 sv xs tx _ (h.below HB0.out))
  clear h
  go_enter Try.func33, Try.ntmps33
  by_cases h0 : tx = 0
  · have HV : Hid (seesV own next xs tx = false) := by show _ = _; unfold seesV; rw [decide_eq_true h0]; rfl
    have h0i : (tx : Int) = 0 := by omega
    clear h0
    go_wp2_with fail
    go_ret
    exact ⟨by rw [HV.out]; rfl, HB0.out⟩
  · have h0i : ¬ (tx : Int) = 0 := by omega
    by_cases h1 : tx = own
    · have HV : Hid (seesV own next xs tx = true) := by show _ = _; unfold seesV; rw [decide_eq_false h0, decide_eq_true h1]; rfl
      have h1i : (tx : Int) = (own : Int) := by omega
      clear h1
      go_wp2_with fail
      go_ret
      exact ⟨by rw [HV.out]; rfl, HB0.out⟩
    · have h1i : ¬ (tx : Int) = (own : Int) := by omega
      have h1b : ((tx : Int) == (own : Int)) = false := by simpa using h1i
      by_cases h2 : tx < next
      · have h2i : (tx : Int) < (next : Int) := by omega
        have HV : Hid (seesV own next xs tx = !decide (tx ∈ xs)) := by show _ = _; unfold seesV; rw [decide_eq_false h0, decide_eq_false h1, decide_eq_true h2]; simp
        go_wp2_with fail
        refine CO.out.mono ?_
        rintro e w1 ⟨rfl, rfl⟩
        generalize decide (tx ∈ xs) = t at *
        go_wp2_with fail
        go_ret
        exact ⟨by rw [HV.out]; rfl, HB0.out⟩
      · have h2i : ¬ (tx : Int) < (next : Int) := by omega
        have HV : Hid (seesV own next xs tx = false) := by show _ = _; unfold seesV; rw [decide_eq_false h0, decide_eq_false h1, decide_eq_false h2]; simp
        go_wp2_with fail
        go_ret
        exact ⟨by rw [HV.out]; rfl, HB0.out⟩

set_option maxHeartbeats 4000000 in
set_option maxRecDepth 100000 in
theorem rsees_any (own next tx : Nat) (sv : Value) (xs : List Nat) (w : World) (h : NumsAt w sv xs) :
    Calls Try.prog 35 #[viewV own next sv, .int .u64 tx] w fun e w' => e = .returned (.bool (seesV own next xs tx)) ∧ Below w.heap.size w w' := by
  have HB0 := Lib.hid ((Below.refl w.heap.size w).alloc (Nat.le_refl _) (.cells #[.int .u64 own, .int .u64 next, sv] 50))
  have CO := Lib.hid (has_u64 sv xs tx _ (h.below HB0.out))
  clear h
  go_enter Try.func35, Try.ntmps35
  by_cases h0 : tx = 0
  · have HV : Hid (seesV own next xs tx = false) := by show _ = _; unfold seesV; rw [decide_eq_true h0]; rfl
    have h0i : (tx : Int) = 0 := by omega
    clear h0
    go_wp2_with fail
    go_ret
    exact ⟨by rw [HV.out]; rfl, HB0.out⟩
  · have h0i : ¬ (tx : Int) = 0 := by omega
    by_cases h1 : tx = own
    · have HV : Hid (seesV own next xs tx = true) := by show _ = _; unfold seesV; rw [decide_eq_false h0, decide_eq_true h1]; rfl
      have h1i : (tx : Int) = (own : Int) := by omega
      clear h1
      go_wp2_with fail
      go_ret
      exact ⟨by rw [HV.out]; rfl, HB0.out⟩
    · have h1i : ¬ (tx : Int) = (own : Int) := by omega
      have h1b : ((tx : Int) == (own : Int)) = false := by simpa using h1i
      by_cases h2 : tx < next
      · have h2i : (tx : Int) < (next : Int) := by omega
        have HV : Hid (seesV own next xs tx = !decide (tx ∈ xs)) := by show _ = _; unfold seesV; rw [decide_eq_false h0, decide_eq_false h1, decide_eq_true h2]; simp
        go_wp2_with fail
        refine CO.out.mono ?_
        rintro e w1 ⟨rfl, rfl⟩
        generalize decide (tx ∈ xs) = t at *
        go_wp2_with fail
        go_ret
        exact ⟨by rw [HV.out]; rfl, HB0.out⟩
      · have h2i : ¬ (tx : Int) < (next : Int) := by omega
        have HV : Hid (seesV own next xs tx = false) := by show _ = _; unfold seesV; rw [decide_eq_false h0, decide_eq_false h1, decide_eq_false h2]; simp
        go_wp2_with fail
        go_ret
        exact ⟨by rw [HV.out]; rfl, HB0.out⟩

set_option maxHeartbeats 4000000 in
set_option maxRecDepth 100000 in
/-- A copy of a slice of numbers. -/
theorem clone_u64 (sv : Value) (xs : List Nat) (w : World) (hn : xs.length ≤ 1000000) (h : NumsAt w sv xs) :
    Calls Try.prog 62 #[sv] w fun e w' => ∃ v', e = .returned v' ∧ w'.ownsRow w.heap.size 27 1 v' xs.length (nums xs) ∧ Below w.heap.size w w' := by
  obtain ⟨A, cp, rfl, h2, h3, h4, h5⟩ := id h
  cases A with
  | none =>
    obtain ⟨rfl, rfl⟩ := h4 rfl
    have eq := fun W => Lib.run_eql_slice_nil (P := Try.prog) W 35 27 none 0 0 0 0 Try.underlying35
    go_enter Try.func62, Try.ntmps62
    go_wp2_with fail
    go_ret
    exact ⟨.slice none 0 0, rfl, World.ownsRow_nil w _ _ _, Below.refl _ _⟩
  | some a =>
    have HRD := Lib.hid ((h.below ((Below.refl w.heap.size w).alloc (Nat.le_refl _) (.cells #[] 27))).reads)
    have eq := fun W => Lib.run_eql_slice_nil (P := Try.prog) W 35 27 (some a) xs.length cp 0 0 Try.underlying35
    obtain ⟨i0, hi, hz0, hz1, hz2⟩ := info_parts (P := Try.prog) (e := 27) (z := .int .u64 0) (size := 1) (bytes := 8) (by kernel_rfl)
    clear h h4 h5
    go_enter Try.func62, Try.ntmps62
    go_wp2_with (at_builtin; refine wpList_append_any _ rfl _ _ 35 rfl w.heap.size 27 i0 (.int .u64 0) 1 8 Try.underlying35 hi hz0 hz1 hz2 rfl (by decide) (.slice (some ⟨w.heap.size, 0, none⟩) 0 0) 0 [] (by rfl) (World.ownsRow_made w #[] 0 (Nat.le_refl _) (by unfold maxLen; omega) rfl) (.slice (some a) xs.length cp) xs.length (nums xs) (by rfl) HRD.out (by intro u hu; obtain ⟨b, _, rfl⟩ := List.mem_map.1 hu; rfl) (by unfold maxLen; omega) (by omega) (by simp) ?_; intro v' w5 hown5 hgrow5)
    have hb5 : Below w.heap.size w w5 := ((Below.refl w.heap.size w).alloc (Nat.le_refl _) (.cells #[] 27)).grown hgrow5 (by simp) (fun k hk => by simp [Value.ownBlock] at hk; omega)
    simp only [Nat.zero_add, List.nil_append] at hown5
    have HO := Lib.hid hown5
    have HB := Lib.hid hb5
    clear hown5 hb5 hgrow5
    go_wp2_with fail
    go_ret
    exact ⟨v', rfl, HO.out, HB.out⟩

end Go.Proofs.Ytoeaakadpillnaa
