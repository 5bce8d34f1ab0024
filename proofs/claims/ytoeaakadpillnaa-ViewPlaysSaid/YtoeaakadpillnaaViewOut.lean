/- chapter 24: the closure of Of, slices.IndexFunc. -/
import Derived.Test.YtoeaakadpillnaaRows
import Derived.Test.YtoeaakadpillnaaViewSame
import Derived.Test.YtoeaakadpillnaaViewSees
import Derived.Test.YtoeaakadpillnaaViewNums
import Derived.Test.YtoeaakadpillnaaSortUTop
import Derived.Test.YtoeaakadpillnaaLockRef
import Derived.Test.YtoeaakadpillnaaKept
import Derived.Test.YtoeaakadpillnaaQuietTail
import Derived.Test.YtoeaakadpillnaaAppAny
import Derived.Deep.LoopGhost
import Derived.Deep.CutBlock
import Derived.Lib.SliceRun
import Derived.WalkKit
import Derived.WalkLawsBesides
import Derived.WalkSpells
import Derived.LoopTactic
import Derived.WalkMore
import Derived.LoopN
import Derived.Laws.BitsAllLaws
import Derived.Laws.IdiomStrings
import Derived.BigQuiet
import Derived.Deep.QuietTactic
import Derived.Deep.DeepCutAuto
import Derived.Deep.RegionHeld3
import Derived.Deep.DrawnRows
import Derived.Lib.Hide
import Derived.Outline
import Derived.Deep.DeepMust
import Derived.Handy
namespace Go.Proofs.Ytoeaakadpillnaa
open Go.RowKit
set_option linter.unusedVariables false
set_option linter.unusedSimpArgs false

theorem OthersKept.mono {w w' : World} {p q : Nat → Prop} (h : OthersKept w w' p) (hq : ∀ k, p k → q k) : OthersKept w w' q :=
  ⟨h.os, h.tape, h.output, h.size, fun k hk hn => h.block k hk (fun hp => hn (hq k hp))⟩
theorem RowU.clear {base g n cp : Nat} : ∀ (k i : Nat) (d : Array Nat) (w : World), RowU w base g n cp d → i + k ≤ n →
    ∃ d', RowU (w.setCells g i (List.replicate k (.int .u64 0))) base g n cp d' ∧ (∀ t, t < i → d'[t]! = d[t]!) ∧ OthersKept w (w.setCells g i (List.replicate k (.int .u64 0))) (fun k => k = g)
  | 0, i, d, w, h, _ => ⟨d, h, fun _ _ => rfl, OthersKept.of_below (Below.refl _ _)⟩
  | k + 1, i, d, w, h, hk => by
    obtain ⟨d', h1, h2, h3⟩ := RowU.clear k (i + 1) (d.setIfInBounds i 0) (w.setCell ⟨g, i, none⟩ (.int .u64 (0 : Nat))) (h.set i 0 (by omega)) (by omega)
    refine ⟨d', h1, fun t ht => ?_, (OthersKept.of_grown (p := fun k => k = g) (g := g) (grown_set (grown_refl _ _)) rfl).trans h3 (fun _ _ h => h)⟩
    rw [h2 t (by omega), Go.Sort.getElem!_set_other d i t 0 (by omega)]
theorem RowU.cut {w : World} {base g n cp : Nat} {d : Array Nat} (h : RowU w base g n cp d) (m : Nat) (hm : m ≤ n) : w.ownsRow base 27 1 (.slice (some ⟨g, 0, none⟩) m cp) m (nums (d.toList.take m)) := by
  obtain ⟨cur, h1, h2, h3, h4, h5, h6⟩ := h.blk
  refine ⟨by simp [nums, h.size]; omega, .inr ⟨g, cp, cur, rfl, h2, h1, by omega, h4, by simpa using h5, ?_⟩⟩
  rw [Nat.mul_one]
  have : cur.toList.take m = (cur.toList.take n).take m := by rw [List.take_take, Nat.min_eq_left hm]
  rw [this, h6]
  unfold nums
  rw [List.map_take]

/-- Is a number left out? -/
def outV (own next : Nat) (x : Nat) : Bool := decide (next ≤ x) || decide (x = own)
/-- The function value that says so. -/
abbrev outF (bn bo : Nat) : Value := .func (.func 63) #[] #[.pointer (some ⟨bn, 0, none⟩), .pointer (some ⟨bo, 0, none⟩)]

set_option maxHeartbeats 1000000 in
set_option maxRecDepth 100000 in
theorem out_any (bn bo own next x : Nat) (w : World) (h1 : w.cell? ⟨bn, 0, none⟩ = some (.int .u64 next)) (h2 : w.cell? ⟨bo, 0, none⟩ = some (.int .u64 own)) :
    Calls Try.prog 63 #[.int .u64 x, .pointer (some ⟨bn, 0, none⟩), .pointer (some ⟨bo, 0, none⟩)] w fun e w' => e = .returned (.bool (outV own next x)) ∧ w' = w := by
  go_enter Try.func63, Try.ntmps63
  by_cases hx : next ≤ x
  · have hxi : (next : Int) ≤ (x : Int) := by omega
    have HV : Hid (outV own next x = true) := by show _ = _; unfold outV; rw [decide_eq_true hx]; rfl
    go_wp2_with fail
    go_ret
    exact ⟨by rw [HV.out]; rfl, rfl⟩
  · have hxi : ¬ (next : Int) ≤ (x : Int) := by omega
    by_cases ho : x = own
    · have hoi : (x : Int) = (own : Int) := by omega
      have hob : ((x : Int) == (own : Int)) = true := by simpa using hoi
      have HV : Hid (outV own next x = true) := by show _ = _; unfold outV; rw [decide_eq_true ho]; simp
      clear ho
      go_wp2_with fail
      go_ret
      exact ⟨by rw [HV.out]; rfl, rfl⟩
    · have hob : ((x : Int) == (own : Int)) = false := by simp; omega
      have HV : Hid (outV own next x = false) := by show _ = _; unfold outV; rw [decide_eq_false ho, decide_eq_false hx]; rfl
      go_wp2_with fail
      go_ret
      exact ⟨by rw [HV.out]; rfl, rfl⟩

/-- Where the first one stands that is left out. -/
def FirstOut (own next : Nat) (xs : List Nat) (k : Int) : Prop := (k = -1 ∧ ∀ x ∈ xs, outV own next x = false) ∨ ∃ i : Nat, k = i ∧ ∃ hi : i < xs.length, outV own next xs[i] = true ∧ ∀ j (h : j < xs.length), j < i → outV own next xs[j] = false

set_option maxHeartbeats 4000000 in
set_option maxRecDepth 100000 in
theorem indexFunc_u64 (sv : Value) (xs : List Nat) (bn bo own next : Nat) (w : World) (h : NumsAt w sv xs) (h1 : w.cell? ⟨bn, 0, none⟩ = some (.int .u64 next)) (h2 : w.cell? ⟨bo, 0, none⟩ = some (.int .u64 own)) :
    Calls Try.prog 84 #[sv, outF bn bo] w fun e w' => ∃ k : Int, e = .returned (.int .i64 k) ∧ FirstOut own next xs k ∧ w' = w := by
  obtain ⟨A, cp, rfl, r2, r3, r4, r5⟩ := h
  obtain ⟨n, hn⟩ : ∃ n, n = xs.length := ⟨_, rfl⟩
  rw [← hn] at r2 ⊢
  unfold maxLen at r3
  have H5 := Lib.hid r5
  have HN := Lib.hid hn
  have OUT := Lib.hid fun x => out_any bn bo own next x w h1 h2
  clear r5 r4 hn
  go_enter Try.func84, Try.ntmps84
  go_wp2_with fail
  go_loopw [8] (fun s8 wr => ∃ i : Nat, s8 = .int .i64 i ∧ i ≤ n ∧ wr = w ∧ Hid (∀ j (h : j < xs.length), j < i → outV own next xs[j] = false)) (fun v _ => n - (intOf v).toNat)
  case atStart => exact ⟨0, rfl, Nat.zero_le _, rfl, fun j h h0 => absurd h0 (Nat.not_lt_zero j)⟩
  case round =>
    obtain ⟨i, rfl, hi, rfl, hO⟩ := hrel
    by_cases hc : i < n
    · have hci : (i : Int) < (n : Int) := by omega
      obtain ⟨b, o, rfl, hb, hcell⟩ := H5.out (by rw [← HN.out]; omega)
      have hix : i < xs.length := by rw [← HN.out]; exact hc
      have c1 := hcell i hix
      have q1 : (0 : Int) ≤ (i : Int) := by omega
      have HX := Lib.hid (show ∀ j (h : j < xs.length), j < i + 1 → outV own next xs[i] = false → outV own next xs[j] = false by
        intro j hj hj2 hne
        by_cases e : j = i
        · subst e; exact hne
        · exact hO.out j hj (by omega))
      have HT := Lib.hid (show outV own next xs[i] = true → ∃ i' : Nat, (i : Int) = i' ∧ ∃ hi : i' < xs.length, outV own next xs[i'] = true ∧ ∀ j (h : j < xs.length), j < i' → outV own next xs[j] = false from fun h => ⟨i, rfl, hix, h, hO.out⟩)
      clear hcell
      generalize xs[i] = y at *
      go_wp2_with fail
      refine (OUT.out y).mono ?_
      rintro e w1 ⟨rfl, rfl⟩
      cases ht : outV own next y with
      | true =>
        have HT2 := Lib.hid (HT.out ht)
        clear ht
        go_wp2_with fail
        (try simp only [Exit.inBlock, Exit.then]); refine bodyPost_ret (results_tmp rfl _ _ _) rfl ?_
        exact ⟨i, rfl, .inr HT2.out, by first | rfl | trivial⟩
      | false =>
        have HX2 := Lib.hid fun j h h2 => HX.out j h h2 ht
        clear ht
        go_wp2_with fail
        go_roundw
        case rel => exact ⟨i + 1, by go_num, by omega, by first | rfl | trivial, HX2.out⟩
        case measure => simp [intOf] <;> omega
    · have hci : ¬ (i : Int) < (n : Int) := by omega
      go_wp2_with fail
      go_ret
      refine ⟨-1, rfl, .inl ⟨rfl, fun x hx => ?_⟩, by first | rfl | trivial⟩
      obtain ⟨j, hj, rfl⟩ := List.getElem_of_mem hx
      exact hO.out j hj (by rw [← HN.out] at hj; omega)

end Go.Proofs.Ytoeaakadpillnaa
