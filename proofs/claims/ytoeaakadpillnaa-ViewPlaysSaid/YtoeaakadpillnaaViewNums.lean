/- chapter 24: slices of numbers: slices.Index, slices.Contains, has. -/
import Derived.Test.YtoeaakadpillnaaRows
import Derived.Test.YtoeaakadpillnaaSortUTop
import Derived.Test.YtoeaakadpillnaaLockRef
import Derived.Test.YtoeaakadpillnaaKept
import Derived.Test.YtoeaakadpillnaaQuietTail
import Derived.Test.YtoeaakadpillnaaAppAny
import Derived.Deep.LoopGhost
import Derived.Deep.CutBlock
import Derived.WalkKit
import Derived.WalkLawsBesides
import Derived.WalkSpells
import Derived.LoopTactic
import Derived.WalkMore
import Derived.LoopN
import Derived.Laws.BitsAllLaws
import Derived.Laws.IdiomStrings
import Derived.BigQuiet
import Derived.Deep.QuietTactic
import Derived.Deep.DeepCutAuto
import Derived.Deep.RegionHeld3
import Derived.Deep.DrawnRows
import Derived.Lib.Hide
import Derived.Outline
import Derived.Deep.DeepMust
import Derived.Handy
namespace Go.Proofs.Ytoeaakadpillnaa
open Go.RowKit
set_option linter.unusedVariables false
set_option linter.unusedSimpArgs false

/-- A slice of numbers that can be read. -/
def NumsAt (w : World) (sv : Value) (xs : List Nat) : Prop :=
  ∃ A cp, sv = .slice A xs.length cp ∧ xs.length ≤ cp ∧ cp ≤ maxLen ∧ (A = none → xs = [] ∧ cp = 0) ∧ (0 < xs.length → ∃ b o, A = some ⟨b, o, none⟩ ∧ b < w.heap.size ∧ ∀ j (h : j < xs.length), w.cell? ⟨b, o + j, none⟩ = some (.int .u64 (xs[j] : Nat)))
theorem NumsAt.below {w w' : World} {sv : Value} {xs : List Nat} (h : NumsAt w sv xs) (hb : Below w.heap.size w w') : NumsAt w' sv xs := by
  obtain ⟨A, cp, h1, h2, h3, h4, h5⟩ := h
  refine ⟨A, cp, h1, h2, h3, h4, fun h0 => ?_⟩
  obtain ⟨b, o, h6, h7, h8⟩ := h5 h0
  exact ⟨b, o, h6, Nat.lt_of_lt_of_le h7 hb.size, fun j hj => keep_cell hb (h8 j hj)⟩
theorem nums_length (xs : List Nat) : (nums xs).length = xs.length := by simp [nums]
theorem nums_get (xs : List Nat) (j : Nat) (h : j < xs.length) : (nums xs)[j]? = some (.int .u64 (xs[j] : Nat)) := by
  unfold nums
  rw [List.getElem?_map, List.getElem?_eq_getElem h]
  rfl
theorem nums_own {w : World} {base n : Nat} {v : Value} {xs : List Nat} (h : w.ownsRow base 27 1 v n (nums xs)) : NumsAt w v xs ∧ xs.length = n := by
  have hl : xs.length = n := by have := h.1; simpa [nums] using this
  refine ⟨?_, hl⟩
  subst hl
  rcases h.2 with ⟨rfl, h0⟩ | ⟨g, cap, cur, rfl, hb, hg, h1, h2, _⟩
  · exact ⟨none, 0, by rw [h0], by omega, Nat.zero_le _, fun _ => ⟨List.eq_nil_of_length_eq_zero h0, rfl⟩, fun h => by omega⟩
  · refine ⟨_, cap, rfl, h1, h2, fun h => by (cases h), fun _ => ⟨g, 0, rfl, blk_lt hg, fun j hj => ?_⟩⟩
    rw [Nat.zero_add]
    exact own_cell h j _ (nums_get xs j hj)
theorem NumsAt.reads {w : World} {sv : Value} {xs : List Nat} (h : NumsAt w sv xs) : Reads w sv xs.length 1 (nums xs) := by
  obtain ⟨A, cp, rfl, h2, h3, h4, h5⟩ := h
  rcases Nat.eq_zero_or_pos xs.length with h0 | h0
  · obtain rfl := List.eq_nil_of_length_eq_zero h0
    cases A with
    | none => obtain ⟨_, rfl⟩ := h4 rfl; exact .inl ⟨rfl, rfl, rfl⟩
    | some a => exact .inr ⟨a, cp, rfl, rfl, fun j u hu => by simp [nums] at hu⟩
  · obtain ⟨b, o, rfl, _, hc⟩ := h5 h0
    refine .inr ⟨_, cp, rfl, by simp [nums], fun j u hu => ?_⟩
    have hj : j < xs.length := by
      have := (List.getElem?_eq_some_iff.1 hu).1
      simpa [nums] using this
    rw [nums_get xs j hj] at hu
    injection hu with hu
    rw [← hu, Addr.add_lit]
    exact hc j hj

set_option maxHeartbeats 4000000 in
set_option maxRecDepth 100000 in
theorem index_u64 (sv : Value) (xs : List Nat) (x : Nat) (w : World) (h : NumsAt w sv xs) :
    Calls Try.prog 86 #[sv, .int .u64 x] w fun e w' => ∃ k : Int, e = .returned (.int .i64 k) ∧ (0 ≤ k ↔ x ∈ xs) ∧ w' = w := by
  obtain ⟨A, cp, rfl, h2, h3, h4, h5⟩ := h
  obtain ⟨n, hn⟩ : ∃ n, n = xs.length := ⟨_, rfl⟩
  rw [← hn] at h2 ⊢
  unfold maxLen at h3
  have H5 := Lib.hid h5
  have HN := Lib.hid hn
  clear h5 h4 hn
  go_enter Try.func86, Try.ntmps86
  go_wp2_with fail
  go_loopw [8] (fun s8 wr => ∃ i : Nat, s8 = .int .i64 i ∧ i ≤ n ∧ wr = w ∧ Hid (∀ j (h : j < xs.length), j < i → xs[j] ≠ x)) (fun v _ => n - (intOf v).toNat)
  case atStart => exact ⟨0, rfl, Nat.zero_le _, rfl, fun j h h0 => absurd h0 (Nat.not_lt_zero j)⟩
  case round =>
    obtain ⟨i, rfl, hi, rfl, hO⟩ := hrel
    by_cases hc : i < n
    · have hci : (i : Int) < (n : Int) := by omega
      obtain ⟨b, o, rfl, hb, hcell⟩ := H5.out (by rw [← HN.out]; omega)
      have hix : i < xs.length := by rw [← HN.out]; exact hc
      have c1 := hcell i hix
      have q1 : (0 : Int) ≤ (i : Int) := by omega
      have HX := Lib.hid (show ∀ j (h : j < xs.length), j < i + 1 → xs[i] ≠ x → xs[j] ≠ x by
        intro j hj hj2 hne
        by_cases e : j = i
        · subst e; exact hne
        · exact hO.out j hj (by omega))
      have HM := Lib.hid (show xs[i] ∈ xs from List.getElem_mem hix)
      clear hcell
      generalize xs[i] = y at *
      by_cases hxy : x = y
      · have hxyi : (x : Int) = (y : Int) := by omega
        go_wp2_with fail
        (try simp only [Exit.inBlock, Exit.then]); refine bodyPost_ret (results_tmp rfl _ _ _) rfl ?_
        exact ⟨i, rfl, ⟨fun _ => by rw [hxy]; exact HM.out, fun _ => by omega⟩, rfl⟩
      · have hxyi : ¬ (x : Int) = (y : Int) := by omega
        go_wp2_with fail
        go_roundw
        case rel => exact ⟨i + 1, by go_num, by omega, by first | rfl | trivial, fun j hj hj2 => HX.out j hj hj2 (fun e => hxy e.symm)⟩
        case measure => simp [intOf] <;> omega
    · have hci : ¬ (i : Int) < (n : Int) := by omega
      go_wp2_with fail
      go_ret
      refine ⟨-1, rfl, ⟨fun h => by omega, fun h => ?_⟩, rfl⟩
      obtain ⟨j, hj, hjx⟩ := List.getElem_of_mem h
      exact absurd hjx (hO.out j hj (by rw [← HN.out] at hj; omega))

set_option maxHeartbeats 4000000 in
set_option maxRecDepth 100000 in
theorem contains_u64 (sv : Value) (xs : List Nat) (x : Nat) (w : World) (h : NumsAt w sv xs) :
    Calls Try.prog 67 #[sv, .int .u64 x] w fun e w' => e = .returned (.bool (decide (x ∈ xs))) ∧ w' = w := by
  have IX := Lib.hid (index_u64 sv xs x w h)
  clear h
  go_enter Try.func67, Try.ntmps67
  go_wp2_with fail
  refine IX.out.mono ?_
  rintro e w1 ⟨k, rfl, hk, rfl⟩
  go_wp2_with fail
  go_ret
  exact ⟨rfl, rfl⟩

set_option maxHeartbeats 4000000 in
set_option maxRecDepth 100000 in
theorem has_u64 (sv : Value) (xs : List Nat) (x : Nat) (w : World) (h : NumsAt w sv xs) :
    Calls Try.prog 66 #[sv, .int .u64 x] w fun e w' => e = .returned (.bool (decide (x ∈ xs))) ∧ w' = w := by
  obtain ⟨A, cp, rfl, h2, h3, h4, h5⟩ := h
  obtain ⟨n, hn⟩ : ∃ n, n = xs.length := ⟨_, rfl⟩
  rw [← hn] at h2 ⊢
  unfold maxLen at h3
  have H5 := Lib.hid h5
  have HN := Lib.hid hn
  clear h5 h4 hn
  go_enter Try.func66, Try.ntmps66
  go_wp2_with fail
  go_loopw [5] (fun s5 wr => ∃ i : Nat, s5 = .int .i64 i ∧ i ≤ n ∧ wr = w ∧ Hid (∀ j (h : j < xs.length), j < i → xs[j] ≠ x)) (fun v _ => n - (intOf v).toNat)
  case atStart => exact ⟨0, rfl, Nat.zero_le _, rfl, fun j h h0 => absurd h0 (Nat.not_lt_zero j)⟩
  case round =>
    obtain ⟨i, rfl, hi, rfl, hO⟩ := hrel
    by_cases hc : i < n
    · have hci : (i : Int) < (n : Int) := by omega
      obtain ⟨b, o, rfl, hb, hcell⟩ := H5.out (by rw [← HN.out]; omega)
      have hix : i < xs.length := by rw [← HN.out]; exact hc
      have c1 := hcell i hix
      have q1 : (0 : Int) ≤ (i : Int) := by omega
      have HX := Lib.hid (show ∀ j (h : j < xs.length), j < i + 1 → xs[i] ≠ x → xs[j] ≠ x by
        intro j hj hj2 hne
        by_cases e : j = i
        · subst e; exact hne
        · exact hO.out j hj (by omega))
      have HM := Lib.hid (show xs[i] ∈ xs from List.getElem_mem hix)
      clear hcell
      generalize xs[i] = y at *
      by_cases hxy : y = x
      · have hxyi : (y : Int) = (x : Int) := by omega
        go_wp2_with fail
        (try simp only [Exit.inBlock, Exit.then]); refine bodyPost_ret (results_tmp rfl _ _ _) rfl ?_
        exact ⟨by rw [decide_eq_true (show x ∈ xs by rw [← hxy]; exact HM.out)]; rfl, rfl⟩
      · have hxyi : ¬ (y : Int) = (x : Int) := by omega
        go_wp2_with fail
        go_roundw
        case rel => exact ⟨i + 1, by go_num, by omega, by first | rfl | trivial, fun j hj hj2 => HX.out j hj hj2 hxy⟩
        case measure => simp [intOf] <;> omega
    · have hci : ¬ (i : Int) < (n : Int) := by omega
      go_wp2_with fail
      go_ret
      refine ⟨?_, rfl⟩
      rw [decide_eq_false (fun h => ?_)]
      · rfl
      · obtain ⟨j, hj, hjx⟩ := List.getElem_of_mem h
        exact absurd hjx (hO.out j hj (by rw [← HN.out] at hj; omega))

end Go.Proofs.Ytoeaakadpillnaa
