/- ref11: get.num and get.text -/
import Derived.Test.YtienlhnbmobinaaRows
import Derived.Test.YtienlhnbmobinaaOpWrite
import Derived.Test.YtienlhnbmobinaaOpRead
import Derived.Test.YtienlhnbmobinaaOpNum
import Derived.Test.YtienlhnbmobinaaOpPlain
import Derived.Test.YtienlhnbmobinaaOpWord
import Derived.Test.YtienlhnbmobinaaOpSame
import Derived.Test.YtienlhnbmobinaaOpLaw
import Derived.Test.YtienlhnbmobinaaOpIn
import Derived.Test.YtienlhnbmobinaaTextsMove
import Derived.Test.YtienlhnbmobinaaTextsP
import Derived.Test.YtienlhnbmobinaaPlains
import Derived.Test.YtienlhnbmobinaaBase
import Derived.WalkKit
import Derived.WalkLawsBesides
import Derived.WalkSpells
import Derived.LoopTactic
import Derived.WalkMore
import Derived.LoopN
import Derived.Laws.BitsAllLaws
import Derived.Laws.IdiomStrings
import Derived.BigQuiet
import Derived.Deep.QuietTactic
import Derived.Deep.DeepCutAuto
import Derived.Deep.RegionHeld3
import Derived.Deep.DrawnRows
import Derived.Lib.Hide
import Derived.Outline
import Derived.Deep.DeepMust
import Derived.Handy
namespace Go.Proofs.Ytienlhnbmobinaa
open Go.RowKit
set_option linter.unusedVariables false
set_option linter.unusedSimpArgs false

/-- What stands in a get. -/
structure Gd where
  s : List UInt8
  at_ : Nat
  bad : Bool
def Gd.num (g : Gd) (k : Nat) : Nat × Gd := if decide (g.at_ + k ≤ g.s.length) && !g.bad then (rdNum g.s g.at_ k, ⟨g.s, g.at_ + k, false⟩) else (0, ⟨g.s, g.at_ + k, true⟩)
def Gd.text (g : Gd) : List UInt8 × Gd :=
  if decide ((g.num 2).2.at_ + (g.num 2).1 ≤ g.s.length) && !(g.num 2).2.bad then (rdText g.s (g.num 2).2.at_ (g.num 2).1, ⟨g.s, (g.num 2).2.at_ + (g.num 2).1, false⟩) else ([], ⟨g.s, (g.num 2).2.at_ + (g.num 2).1, true⟩)
theorem kept_drew {w w' : World} {p : Nat → Prop} (h : OthersKept w w' p) : OthersKept w w'.drew p := ⟨h.os, h.tape, h.output, h.size, h.block⟩
theorem drew_kept {w w' : World} {p : Nat → Prop} (h : OthersKept w.drew w' p) : OthersKept w w' p := ⟨h.os, h.tape, h.output, h.size, h.block⟩
theorem num_bounds (g : Gd) (k : Nat) (hk : k = 1 ∨ k = 2 ∨ k = 4) : (g.num k).1 < 256 ^ k ∧ (g.num k).2.at_ = g.at_ + k ∧ (g.num k).2.s = g.s := by
  unfold Gd.num
  split
  · exact ⟨rdNum_fits _ _ _, rfl, rfl⟩
  · exact ⟨Nat.pos_of_ne_zero (by simp), rfl, rfl⟩
end Go.Proofs.Ytienlhnbmobinaa
