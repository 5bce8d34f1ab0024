/- A text of an area is set -/
import Derived.Test.YtienlhnbmobinaaRows
import Derived.Test.YtienlhnbmobinaaSlotCompact
import Derived.Test.YtienlhnbmobinaaSlotRoot
import Derived.WalkKit
import Derived.WalkLawsBesides
import Derived.WalkSpells
import Derived.LoopTactic
import Derived.WalkMore
import Derived.LoopN
import Derived.Laws.BitsAllLaws
import Derived.Laws.IdiomStrings
import Derived.BigQuiet
import Derived.Deep.QuietTactic
import Derived.Deep.DeepCutAuto
import Derived.Deep.RegionHeld3
import Derived.Deep.DrawnRows
import Derived.Lib.Hide
import Derived.Outline
import Derived.Deep.DeepMust
import Derived.Handy
namespace Go.Proofs.Ytienlhnbmobinaa
open Go.RowKit
set_option linter.unusedVariables false
set_option linter.unusedSimpArgs false

theorem Ar.Good.long_room {a : Ar} (h : a.Good) (k : Nat) (hk : k < a.L.length) (n : Nat) (hf : (n : Int) - (a.L[k].2 : Int) ≤ a.free) :
    ({ a with L := a.L.set k (a.L[k].1, 0) } : Ar).Good ∧ ({ a with L := a.L.set k (a.L[k].1, 0) } : Ar).compact.Good ∧ k < ({ a with L := a.L.set k (a.L[k].1, 0) } : Ar).compact.L.length ∧
    ({ a with L := a.L.set k (a.L[k].1, 0) } : Ar).compact.fin + n ≤ ({ a with L := a.L.set k (a.L[k].1, 0) } : Ar).compact.low := by
  have hs := h.shrink k a.B [] hk (Nat.zero_le _) (putAt_nil _ _).symm
  simp only [List.length_nil] at hs
  have hsum := set_sum a.L k (a.L[k].1, 0) hk
  have hb1 : ({ a with L := a.L.set k (a.L[k].1, 0) } : Ar).L.length = a.L.length := by simp
  have hb3 : ({ a with L := a.L.set k (a.L[k].1, 0) } : Ar).sum + a.L[k].2 = a.sum := hsum
  have hb2 : ({ a with L := a.L.set k (a.L[k].1, 0) } : Ar).B.length = a.B.length := rfl
  generalize ({ a with L := a.L.set k (a.L[k].1, 0) } : Ar) = b at *
  obtain ⟨h1, h2, h3, h4, h5⟩ := hs.1.compact
  exact ⟨hs.1, h1, by omega, by unfold Ar.free at hf; unfold Ar.fin at *; omega⟩

end Go.Proofs.Ytienlhnbmobinaa
