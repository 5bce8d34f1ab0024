/- The document's two. -/
import Derived.Test.YtlpfilpijiglpaaRows
import Derived.Test.YtlpfilpijiglpaaRefRemove
import Derived.Test.YtlpfilpijiglpaaSlotLaw
import Derived.Test.YtlpfilpijiglpaaWordWalks
import Derived.WalkKit
import Derived.WalkLawsBesides
import Derived.WalkSpells
import Derived.LoopTactic
import Derived.WalkMore
import Derived.LoopN
import Derived.Laws.BitsAllLaws
import Derived.Laws.IdiomStrings
import Derived.BigQuiet
import Derived.Deep.QuietTactic
import Derived.Deep.DeepCutAuto
import Derived.Deep.RegionHeld3
import Derived.Deep.DrawnRows
import Derived.Lib.Hide
import Derived.Outline
import Derived.Deep.DeepMust
import Derived.Handy
namespace Go.Proofs.Ytlpfilpijiglpaa
open Go.RowKit
set_option linter.unusedVariables false
set_option linter.unusedSimpArgs false

set_option maxHeartbeats 1000000 in
set_option maxRecDepth 100000 in
theorem refTwo_any (n : Nat) (w : World) (hn : n < 256 ^ 2) :
    Calls Try.prog 82 #[.int .i64 n] w fun e w' => e = .returned (.string ⟨(be 2 n).toArray⟩) ∧ Below w.heap.size w w' := by
  have P := Lib.hid fun W => refPut_2 n W hn
  simp only [Nat.reducePow] at hn
  have v1 : IntKind.u64.wrap (n : Int) = n := IntWalk.u64_in _ ⟨by omega, by omega⟩
  generalize (⟨(be 2 n).toArray⟩ : ByteArray) = X at *
  go_enter Try.func82, Try.ntmps82
  go_wp2_with fail
  refine (P.out _).mono ?_
  rintro e w1 ⟨rfl, h1⟩
  go_wp2_with fail
  go_ret
  exact ⟨rfl, h1⟩

end Go.Proofs.Ytlpfilpijiglpaa
