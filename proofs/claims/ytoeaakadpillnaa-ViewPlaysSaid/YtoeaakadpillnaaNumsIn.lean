/- slices of numbers that came in. -/
import Derived.Test.YtoeaakadpillnaaRows
import Derived.Test.YtoeaakadpillnaaViewNums
import Derived.Test.YtoeaakadpillnaaLockActs
import Derived.Test.YtoeaakadpillnaaOpenFlat
import Derived.Test.YtoeaakadpillnaaSortUTop
import Derived.Test.YtoeaakadpillnaaLockRef
import Derived.Test.YtoeaakadpillnaaKept
import Derived.Test.YtoeaakadpillnaaQuietTail
import Derived.Test.YtoeaakadpillnaaAppAny
import Derived.Deep.LoopGhost
import Derived.Deep.CutBlock
import Derived.ChangeSlices
import Derived.WalkKit
import Derived.WalkLawsBesides
import Derived.WalkSpells
import Derived.LoopTactic
import Derived.WalkMore
import Derived.LoopN
import Derived.Laws.BitsAllLaws
import Derived.Laws.IdiomStrings
import Derived.BigQuiet
import Derived.Deep.QuietTactic
import Derived.Deep.DeepCutAuto
import Derived.Deep.RegionHeld3
import Derived.Deep.DrawnRows
import Derived.Lib.Hide
import Derived.Outline
import Derived.Deep.DeepMust
import Derived.Handy
namespace Go.Proofs.Ytoeaakadpillnaa
open Go.RowKit
set_option linter.unusedVariables false
set_option linter.unusedSimpArgs false

theorem nums_of_row {w : World} {a : Option Addr} {len cap : Nat} {zs : List Int} (h : IsRow .u64 w a len cap zs) : ∃ xs : List Nat, NumsAt w (.slice a len cap) xs ∧ ∀ x ∈ xs, x < 256 ^ 8 := by
  rcases h with ⟨rfl, rfl, rfl, rfl⟩ | ⟨x, rfl, hl, hm, hz, hc, hw⟩
  · exact ⟨[], ⟨none, 0, rfl, Nat.le_refl _, Nat.zero_le _, fun _ => ⟨rfl, rfl⟩, fun h => absurd h (Nat.lt_irrefl 0)⟩, fun x h => (by cases h)⟩
  · have hlen : ((zs.take len).map Int.toNat).length = len := by simp; omega
    have hj : ∀ j (h : j < ((zs.take len).map Int.toNat).length), ∃ n : Nat, w.cell? (x.add j) = some (.int .u64 (n : Int)) ∧ ((zs.take len).map Int.toNat)[j] = n ∧ n < 256 ^ 8 := by
      intro j h
      have hjz : j < zs.length := by omega
      have h1 := hc j hjz
      have hg : zs.getD j 0 = zs[j] := by simp [hjz]
      have h2 := hw (zs.getD j 0) (by rw [hg]; exact List.getElem_mem hjz)
      obtain ⟨m, hm, hlt⟩ := natOf h2 (by decide) (b := 256 ^ 8) (by decide)
      refine ⟨m, by rw [h1, hm], ?_, hlt⟩
      rw [List.getElem_map, List.getElem_take]
      rw [hg] at hm
      rw [hm]
      rfl
    refine ⟨(zs.take len).map Int.toNat, ⟨some x, cap, by rw [hlen], by rw [hlen]; exact hl, hm, fun h => (by cases h), fun h0 => ?_⟩, fun y hy => ?_⟩
    · obtain ⟨n, h1, _, _⟩ := hj 0 h0
      have e0 : x.add 0 = x := rfl
      rw [e0] at h1
      obtain ⟨b, o, rfl⟩ := spot_none h1
      refine ⟨b, o, rfl, cell_lt h1, fun j h => ?_⟩
      obtain ⟨n2, h2, h3, _⟩ := hj j h
      rw [Addr.add_lit] at h2
      rw [h2, h3]
    · obtain ⟨j, h, rfl⟩ := List.getElem_of_mem hy
      obtain ⟨n, _, h2, h3⟩ := hj j h
      rw [h2]
      exact h3
section
open Go.ChangeShapes Go.WideShapes
variable {H : Type} {enc : TypeId × Value → H} {P : Program} {w : World} {base : Nat} {held : Bool}
theorem nums_of_trod {t e : TypeId} {v : Value} (ht : P.underlying t = some (.slice e)) (he : P.underlying e = some (.int .u64)) (hc : P.cellsOf e = 1) (h : ∃ m y, DataW.trod enc P w base (fun _ => true) held m t [v] = some y) :
    ∃ xs : List Nat, NumsAt w v xs ∧ ∀ x ∈ xs, x < 256 ^ 8 := by
  obtain ⟨m, y, h⟩ := h
  rcases open_ints (spare := fun _ => true) ht he hc h with ⟨hcs, _⟩ | ⟨x, l, c, zs, hcs, _, hl, hm, hz, _, hcell, hwz⟩
  · simp at hcs
    subst hcs
    exact nums_of_row (.inl ⟨rfl, rfl, rfl, rfl⟩)
  · simp at hcs
    subst hcs
    exact nums_of_row (.inr ⟨x, rfl, hl, hm, by simpa using hz, hcell, hwz⟩)
end

end Go.Proofs.Ytoeaakadpillnaa
