/- slices.Sort at uint64: the row, Less. -/
import Derived.Test.YtoeaakadpillnaaRows
import Derived.Test.YtoeaakadpillnaaLockRef
import Derived.Test.YtoeaakadpillnaaKept
import Derived.Test.YtoeaakadpillnaaQuietTail
import Derived.Test.YtoeaakadpillnaaAppAny
import Derived.Deep.LoopGhost
import Derived.Sort.LotA
import Derived.Sort.WalkA
import Derived.WalkKit
import Derived.WalkLawsBesides
import Derived.WalkSpells
import Derived.LoopTactic
import Derived.WalkMore
import Derived.LoopN
import Derived.Laws.BitsAllLaws
import Derived.Laws.IdiomStrings
import Derived.BigQuiet
import Derived.Deep.QuietTactic
import Derived.Deep.DeepCutAuto
import Derived.Deep.RegionHeld3
import Derived.Deep.DrawnRows
import Derived.Lib.Hide
import Derived.Outline
import Derived.Deep.DeepMust
import Derived.Handy
namespace Go.Proofs.Ytoeaakadpillnaa
open Go.RowKit
set_option linter.unusedVariables false
set_option linter.unusedSimpArgs false

/-- The order of the numbers. -/
def ltN (x y : Nat) : Bool := decide (x < y)
theorem swoN : Go.Sort.SWO ltN where
  irrefl := fun x => by simp [ltN]
  trans := fun x y z h1 h2 => by simp [ltN] at *; omega
  ntrans := fun x y z h1 h2 => by simp [ltN] at *; omega
/-- A row of numbers in a block of its own. -/
structure RowU (w : World) (base g n cp : Nat) (d : Array Nat) : Prop where
  size : d.size = n
  own : w.ownsRow base 27 1 (.slice (some ⟨g, 0, none⟩) n cp) n (nums d.toList)
theorem RowU.below {w w' : World} {base g n cp : Nat} {d : Array Nat} (h : RowU w base g n cp d) (hb : Below w.heap.size w w') : RowU w' base g n cp d := ⟨h.size, own_below h.own hb⟩
theorem RowU.blk {w : World} {base g n cp : Nat} {d : Array Nat} (h : RowU w base g n cp d) : ∃ cur, w.heap[g]? = some (.cells cur 27 (0, 0)) ∧ base ≤ g ∧ n ≤ cp ∧ cp ≤ maxLen ∧ cur.size = cp ∧ cur.toList.take n = nums d.toList := by
  rcases h.own.2 with ⟨he, _⟩ | ⟨g', cap, cur, he, hb, hg, h1, h2, h3, h4⟩
  · cases he
  · injection he with e1 e2 e3
    injection e1 with e1
    injection e1 with e1 _ _
    subst e1 e3
    exact ⟨cur, hg, hb, h1, h2, by simpa using h3, by simpa using h4⟩
theorem RowU.lt {w : World} {base g n cp : Nat} {d : Array Nat} (h : RowU w base g n cp d) : g < w.heap.size := by obtain ⟨cur, hg, _⟩ := h.blk; exact blk_lt hg
theorem RowU.cell {w : World} {base g n cp : Nat} {d : Array Nat} (h : RowU w base g n cp d) (i : Nat) (hi : i < n) : w.cell? ⟨g, i, none⟩ = some (.int .u64 ((d[i]! : Nat) : Int)) := by
  refine own_cell h.own i _ ?_
  have hs := h.size
  unfold nums
  rw [List.getElem?_map]
  have : d.toList[i]? = some d[i]! := by
    rw [List.getElem?_eq_getElem (by simpa [hs] using hi)]
    simp [show i < d.size by omega]
  rw [this]
  rfl
theorem RowU.frozen {w : World} {base g n cp : Nat} {d : Array Nat} (h : RowU w base g n cp d) (i : Nat) : w.frozen? ⟨g, i, none⟩ = false := by
  obtain ⟨cur, hg, _⟩ := h.blk
  exact blk_frozen hg i
theorem RowU.set {w : World} {base g n cp : Nat} {d : Array Nat} (h : RowU w base g n cp d) (i v : Nat) (hi : i < n) : RowU (w.setCell ⟨g, i, none⟩ (.int .u64 (v : Nat))) base g n cp (d.setIfInBounds i v) := by
  obtain ⟨cur, hg, h1, h2, h3, h4, h5⟩ := h.blk
  refine ⟨by simp [h.size], ?_, .inr ⟨g, cp, cur.setIfInBounds i (.int .u64 (v : Nat)), rfl, h1, blk_set hg i _, h2, h3, by simpa using h4, ?_⟩⟩
  · simp [nums, h.size]
  · rw [Nat.mul_one, Array.toList_setIfInBounds, List.take_set, h5, Array.toList_setIfInBounds]
    unfold nums
    rw [List.map_set]
theorem RowU.swap {w : World} {base g n cp : Nat} {d : Array Nat} (h : RowU w base g n cp d) (i j : Nat) (hi : i < n) (hj : j < n) :
    RowU ((w.setCell ⟨g, i, none⟩ (.int .u64 ((d[j]! : Nat) : Int))).setCell ⟨g, j, none⟩ (.int .u64 ((d[i]! : Nat) : Int))) base g n cp (Go.Sort.swp d i j) := (h.set i _ hi).set j _ hj
theorem swap_kept (w : World) (g i j : Nat) (u v : Value) : OthersKept w ((w.setCell ⟨g, i, none⟩ u).setCell ⟨g, j, none⟩ v) (fun k => k = g) :=
  OthersKept.of_grown (p := fun k => k = g) (g := g) (grown_set (grown_set (grown_refl _ _))) rfl

theorem isNaN_u64 (x : Nat) (w : World) : Calls Try.prog 120 #[.int .u64 x] w fun e w' => e = .returned (.bool false) ∧ Below w.heap.size w w' := by
  have e : ((x : Int) != (x : Int)) = false := by simp
  go_enter Try.func120, Try.ntmps120
  go_wp2_with fail
  go_ret
  exact ⟨rfl, Below.refl _ _⟩
theorem less_u64 (x y : Nat) (w : World) : Calls Try.prog 107 #[.int .u64 x, .int .u64 y] w fun e w' => e = .returned (.bool (ltN x y)) ∧ Below w.heap.size w w' := by
  have N := Lib.hid (isNaN_u64 x)
  go_enter Try.func107, Try.ntmps107
  go_wp2_with fail
  refine (N.out _).mono ?_
  rintro e w1 ⟨rfl, h1⟩
  have H1 := Lib.hid h1
  clear h1
  go_wp2_with fail
  go_ret
  exact ⟨rfl, H1.out⟩

end Go.Proofs.Ytoeaakadpillnaa
