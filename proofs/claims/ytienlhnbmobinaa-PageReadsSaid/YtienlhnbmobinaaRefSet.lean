/- The document's area: Set, and Remove at any place. -/
import Derived.Test.YtienlhnbmobinaaRows
import Derived.Test.YtienlhnbmobinaaRefRoot
import Derived.Test.YtienlhnbmobinaaRefCompact
import Derived.Test.YtienlhnbmobinaaRefPut
import Derived.Test.YtienlhnbmobinaaSlotRoot
import Derived.Test.YtienlhnbmobinaaSlotSet
import Derived.Test.YtienlhnbmobinaaSlotCompact
import Derived.Test.YtienlhnbmobinaaBase
import Derived.Deep.LoopGhost
import Derived.WalkKit
import Derived.WalkLawsBesides
import Derived.WalkSpells
import Derived.LoopTactic
import Derived.WalkMore
import Derived.LoopN
import Derived.Laws.BitsAllLaws
import Derived.Laws.IdiomStrings
import Derived.BigQuiet
import Derived.Deep.QuietTactic
import Derived.Deep.DeepCutAuto
import Derived.Deep.RegionHeld3
import Derived.Deep.DrawnRows
import Derived.Lib.Hide
import Derived.Outline
import Derived.Deep.DeepMust
import Derived.Handy
namespace Go.Proofs.Ytienlhnbmobinaa
open Go.RowKit
set_option linter.unusedVariables false
set_option linter.unusedSimpArgs false

/-- One place of the directory: its cells, which may be written. -/
theorem RefAt.spot {w : World} {g gB cap gd n cp k : Nat} {b : Ar} (h : RefAt w g gB cap (.slice (some ⟨gd, 0, none⟩) n cp) b) (hn : b.L.length = n) (hk : k < n) :
    ∃ x0 x1 : Value, w.cell? ⟨gd, k * 2, none⟩ = some x0 ∧ w.cell? ⟨gd, k * 2 + 1, none⟩ = some x1 ∧ w.frozen? ⟨gd, k * 2, none⟩ = false ∧ w.frozen? ⟨gd, k * 2 + 1, none⟩ = false := by
  subst hn
  obtain ⟨curd, hbd⟩ : ∃ cs : Array Value, w.heap[gd]? = some (.cells cs 192 (0, 0)) := by
    rcases h.dir.2 with ⟨h, _⟩ | ⟨g', _, cur, h, _, hb, _⟩
    · cases h
    · injection h with h1 _ _; injection h1 with h1; injection h1 with h1 _ _; subst h1; exact ⟨cur, hb⟩
  exact ⟨_, _, dir_cell h.dir (k * 2) _ (places_from _ k hk), dir_cell h.dir (k * 2 + 1) _ (places_size _ k hk), blk_frozen hbd _, blk_frozen hbd _⟩
theorem RefAt.set_spot {w : World} {g gB cap gd n cp k : Nat} {b : Ar} (x y : Nat) (h : RefAt w g gB cap (.slice (some ⟨gd, 0, none⟩) n cp) b) (hn : b.L.length = n) (hk : k < n) :
    RefAt ((w.setCell ⟨gd, k * 2, none⟩ (.int .i64 (x : Nat))).setCell ⟨gd, k * 2 + 1, none⟩ (.int .i64 (y : Nat))) g gB cap (.slice (some ⟨gd, 0, none⟩) n cp) { b with L := b.L.set k (x, y) } := by
  subst hn
  have := h.set_dir k (x, y) hk
  rw [List.length_set] at this
  exact this
theorem kept_spot (w : World) (gd i j : Nat) (x y : Value) : OthersKept w ((w.setCell ⟨gd, i, none⟩ x).setCell ⟨gd, j, none⟩ y) (fun k => k = gd) := OthersKept.of_grown (g := gd) (grown_set (grown_set (grown_refl _ gd))) rfl

end Go.Proofs.Ytienlhnbmobinaa
