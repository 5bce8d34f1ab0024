/- rows that came in -/
import Derived.Test.YtjcfnfpilladfaaRows
import Derived.Test.YtjcfnfpilladfaaTextsIn
import Derived.Test.YtjcfnfpilladfaaNodeLeaf
import Derived.Test.YtjcfnfpilladfaaOpenFlat
import Derived.Deep.RegionLaw
import Derived.WalkKit
import Derived.WalkLawsBesides
import Derived.WalkSpells
import Derived.LoopTactic
import Derived.WalkMore
import Derived.LoopN
import Derived.Laws.BitsAllLaws
import Derived.Laws.IdiomStrings
import Derived.BigQuiet
import Derived.Deep.QuietTactic
import Derived.Deep.DeepCutAuto
import Derived.Deep.RegionHeld3
import Derived.Deep.DrawnRows
import Derived.Lib.Hide
import Derived.Outline
import Derived.Deep.DeepMust
import Derived.Handy
namespace Go.Proofs.Ytjcfnfpilladfaa
open Go.RowKit
set_option linter.unusedVariables false
set_option linter.unusedSimpArgs false

/-- Rows that came in. -/
theorem rws_of_rows {R : TypeId → Value → Prop} {w : World} {a : Option Addr} {len cap : Nat} (h : IsRows R [.str, .bool, .u64, .u32, .u16, .str, .i64] w a len cap) : ∃ L : List Rw, RowsAt w (.slice a len cap) L ∧ ∀ r ∈ L, r.wf := by
  rcases h with ⟨rfl, rfl, rfl⟩ | ⟨x, rfl, hl, hc, hcell⟩
  · exact ⟨[], ⟨none, 0, rfl, Nat.le_refl _, Nat.zero_le _, fun h => absurd h (Nat.lt_irrefl 0)⟩, fun r hr => by cases hr⟩
  · have hall : ∀ i, i < len → ∃ c : Rw, (∀ j v, c.cell[j]? = some v → w.cell? (x.add (i * 7 + j)) = some v) ∧ c.wf := by
      intro i hi
      obtain ⟨v0, h0, n0, rfl, hn0⟩ := hcell i hi 0 .str rfl
      obtain ⟨v1, h1, n1, rfl⟩ := hcell i hi 1 .bool rfl
      obtain ⟨v2, h2, n2, rfl, hn2⟩ := hcell i hi 2 .u64 rfl
      obtain ⟨v3, h3, n3, rfl, hn3⟩ := hcell i hi 3 .u32 rfl
      obtain ⟨v4, h4, n4, rfl, hn4⟩ := hcell i hi 4 .u16 rfl
      obtain ⟨v5, h5, n5, rfl, hn5⟩ := hcell i hi 5 .str rfl
      obtain ⟨v6, h6, n6, rfl, hn6⟩ := hcell i hi 6 .i64 rfl
      refine ⟨⟨n0.data.toList, n1, n2, n3, n4, n5.data.toList, n6⟩, fun j v hj => ?_, ?_, ?_, hn2, hn4⟩
      · have hjl : j < 7 := (List.getElem?_eq_some_iff.1 hj).1
        have hh : j = 0 ∨ j = 1 ∨ j = 2 ∨ j = 3 ∨ j = 4 ∨ j = 5 ∨ j = 6 := by omega
        rcases hh with rfl | rfl | rfl | rfl | rfl | rfl | rfl <;> (simp only [Rw.cell] at hj; injection hj with hj; subst hj; assumption)
      · show n0.data.toList.length ≤ maxLen
        rw [Array.length_toList]; exact hn0
      · show n5.data.toList.length ≤ maxLen
        rw [Array.length_toList]; exact hn5
    rcases Nat.eq_zero_or_pos len with rfl | hpos
    · exact ⟨[], ⟨_, cap, rfl, Nat.zero_le _, hc, fun h => absurd h (Nat.lt_irrefl 0)⟩, fun r hr => by cases hr⟩
    obtain ⟨L, hL, hp⟩ := list_of len hall
    have h00 := (hp 0 (by omega)).1 0 _ rfl
    have e0 : x.add (0 * 7 + 0) = x := rfl
    rw [e0] at h00
    obtain ⟨b, o, rfl⟩ := spot_noneT h00
    have hblt : b < w.heap.size := cell_lt h00
    refine ⟨L, ⟨_, cap, by rw [hL], by rw [hL]; exact hl, hc, fun _ => ⟨b, o, rfl, hblt, fun j hj i v hv => ?_⟩⟩, fun r hr => ?_⟩
    · have := (hp j hj).1 i v hv
      rw [Addr.add_lit] at this
      rwa [show o + j * 7 + i = o + (j * 7 + i) by omega]
    · obtain ⟨i, hi, rfl⟩ := List.getElem_of_mem hr
      exact (hp i hi).2

end Go.Proofs.Ytjcfnfpilladfaa
