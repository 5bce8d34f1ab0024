/- chapter 24: slices of views that came in. -/
import Derived.Test.YtoeaakadpillnaaRows
import Derived.Test.YtoeaakadpillnaaViewAllPlain
import Derived.Test.YtoeaakadpillnaaOpenRows
import Derived.Test.YtoeaakadpillnaaLockActs
import Derived.Test.YtoeaakadpillnaaViewMap
import Derived.Test.YtoeaakadpillnaaViewStaysPlain
import Derived.Test.YtoeaakadpillnaaViewNil
import Derived.Test.YtoeaakadpillnaaNumsIn
import Derived.Test.YtoeaakadpillnaaViewCopied
import Derived.Test.YtoeaakadpillnaaViewWorks
import Derived.Test.YtoeaakadpillnaaViewRef
import Derived.Test.YtoeaakadpillnaaViewOf
import Derived.Test.YtoeaakadpillnaaViewSame
import Derived.Test.YtoeaakadpillnaaViewSees
import Derived.Test.YtoeaakadpillnaaViewNums
import Derived.Test.YtoeaakadpillnaaLockRefTake
import Derived.Test.YtoeaakadpillnaaLockPlain
import Derived.Test.YtoeaakadpillnaaSortUTop
import Derived.Test.YtoeaakadpillnaaLockRef
import Derived.Test.YtoeaakadpillnaaKept
import Derived.Test.YtoeaakadpillnaaQuietTail
import Derived.Test.YtoeaakadpillnaaAppAny
import Derived.Deep.LoopGhost
import Derived.Deep.CutBlock
import Derived.Lib.SliceRun
import Derived.Laws.ResultCell
import Derived.Maps.OwnSet
import Derived.Maps.RangeWalk
import Derived.WalkKit
import Derived.WalkLawsBesides
import Derived.WalkSpells
import Derived.LoopTactic
import Derived.WalkMore
import Derived.LoopN
import Derived.Laws.BitsAllLaws
import Derived.Laws.IdiomStrings
import Derived.BigQuiet
import Derived.Deep.QuietTactic
import Derived.Deep.DeepCutAuto
import Derived.Deep.RegionHeld3
import Derived.Deep.DrawnRows
import Derived.Lib.Hide
import Derived.Outline
import Derived.Deep.DeepMust
import Derived.Handy
namespace Go.Proofs.Ytoeaakadpillnaa
open Go.RowKit
set_option linter.unusedVariables false
set_option linter.unusedSimpArgs false

theorem views_of_rows {R : TypeId → Value → Prop} {t : TypeId} {w : World} {a : Option Addr} {len cap : Nat} (h : IsRows R [.u64, .u64, .raw t] w a len cap)
    (hR : ∀ v, R t v → ∃ xs : List Nat, NumsAt w v xs ∧ ∀ x ∈ xs, x < 256 ^ 8) : ∃ L : List VE, L.length = len ∧ len ≤ cap ∧ cap ≤ maxLen ∧ ViewsAt w a L := by
  rcases h with ⟨rfl, rfl, rfl⟩ | ⟨x, rfl, hl, hc, hcell⟩
  · exact ⟨[], rfl, Nat.le_refl _, Nat.zero_le _, fun h => absurd h (Nat.lt_irrefl 0), fun c h => (by cases h)⟩
  · have hall : ∀ i, i < len → ∃ c : VE, (w.cell? (x.add (i * 3 + 0)) = some (.int .u64 (c.own : Nat)) ∧ w.cell? (x.add (i * 3 + 1)) = some (.int .u64 (c.next : Nat)) ∧ w.cell? (x.add (i * 3 + 2)) = some (.slice c.b c.xs.length c.c)) ∧ NumsAt w c.sv c.xs := by
      intro i hi
      obtain ⟨v0, h0, n0, rfl, hn⟩ := hcell i hi 0 .u64 rfl
      obtain ⟨v1, h1, n1, rfl, hw⟩ := hcell i hi 1 .u64 rfl
      obtain ⟨v2, h2, h3⟩ := hcell i hi 2 (.raw t) rfl
      obtain ⟨xs, hN, _⟩ := hR v2 h3
      obtain ⟨A, cp, rfl, hrest⟩ := hN
      exact ⟨⟨n0, n1, A, cp, xs⟩, ⟨h0, h1, h2⟩, A, cp, rfl, hrest⟩
    obtain ⟨L, hL, hp⟩ := list_of len hall
    refine ⟨L, hL, hl, hc, fun h0 => ?_, fun c hcL => ?_⟩
    · have h00 := (hp 0 (by omega)).1.1
      have e0 : x.add (0 * 3 + 0) = x := rfl
      rw [e0] at h00
      obtain ⟨b, o, rfl⟩ := spot_none h00
      refine ⟨b, o, rfl, cell_lt h00, fun i hi => ?_⟩
      have := (hp i hi).1
      simp only [Addr.add_lit, Nat.add_zero] at this
      exact this
    · obtain ⟨i, hi, rfl⟩ := List.getElem_of_mem hcL
      exact (hp i hi).2

end Go.Proofs.Ytoeaakadpillnaa
