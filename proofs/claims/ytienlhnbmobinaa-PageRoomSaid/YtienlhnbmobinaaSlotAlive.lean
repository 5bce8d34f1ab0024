/- Some answers that the document fixes -/
import Derived.Test.YtienlhnbmobinaaRows
import Derived.Test.YtienlhnbmobinaaSlotPut
import Derived.Test.YtienlhnbmobinaaSlotSet
import Derived.Test.YtienlhnbmobinaaSlotRemove
import Derived.Test.YtienlhnbmobinaaSlotLoad
import Derived.Test.YtienlhnbmobinaaSlotRoot
import Derived.WalkKit
import Derived.WalkLawsBesides
import Derived.WalkSpells
import Derived.LoopTactic
import Derived.WalkMore
import Derived.LoopN
import Derived.Laws.BitsAllLaws
import Derived.Laws.IdiomStrings
import Derived.BigQuiet
import Derived.Deep.QuietTactic
import Derived.Deep.DeepCutAuto
import Derived.Deep.RegionHeld3
import Derived.Deep.DrawnRows
import Derived.Lib.Hide
import Derived.Outline
import Derived.Deep.DeepMust
import Derived.Handy
namespace Go.Proofs.Ytienlhnbmobinaa
open Go.RowKit
set_option linter.unusedVariables false
set_option linter.unusedSimpArgs false

theorem newA (n : Nat) (w : World) (h1 : 16 ≤ n) (h2 : n ≤ 4096) :
    Calls Try.prog 96 #[.int .i64 n] w fun e w' => ∃ gA gB, e = .returned (.tuple #[.pointer (some ⟨gA, 0, none⟩), .int .i64 0]) ∧ w.heap.size ≤ gA ∧ w.heap.size ≤ gB ∧ ArAt w' gA gB n (Ar.new n) ∧ Below w.heap.size w w' := by
  refine (slotNew_yes n w h1 h2).mono ?_
  rintro e w' ⟨gA, gB, he, hA, hB, hArea, hbel⟩
  rw [Ar.enc_new n (by omega)] at hArea
  exact ⟨gA, gB, he, hA, hB, ⟨hArea, by simp [Ar.new]⟩, hbel⟩
theorem below_grown {w w1 w2 : World} {g : Nat} (h : Below w.heap.size w w1) (hg : w1.grownBy w2 (some g)) (hb : w.heap.size ≤ g) : Below w.heap.size w w2 :=
  h.grown hg h.size (fun k hk => by injection hk with hk; omega)

end Go.Proofs.Ytienlhnbmobinaa
