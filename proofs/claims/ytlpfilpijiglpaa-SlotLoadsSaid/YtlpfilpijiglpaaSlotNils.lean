/- What none answers -/
import Derived.Test.YtlpfilpijiglpaaRows
import Derived.Test.YtlpfilpijiglpaaSlotFree
import Derived.WalkKit
import Derived.WalkLawsBesides
import Derived.WalkSpells
import Derived.LoopTactic
import Derived.WalkMore
import Derived.LoopN
import Derived.Laws.BitsAllLaws
import Derived.Laws.IdiomStrings
import Derived.BigQuiet
import Derived.Deep.QuietTactic
import Derived.Deep.DeepCutAuto
import Derived.Deep.RegionHeld3
import Derived.Deep.DrawnRows
import Derived.Lib.Hide
import Derived.Outline
import Derived.Deep.DeepMust
import Derived.Handy
namespace Go.Proofs.Ytlpfilpijiglpaa
open Go.RowKit
set_option linter.unusedVariables false
set_option linter.unusedSimpArgs false

theorem slotLen_nil (w : World) : Calls Try.prog 18 #[.pointer none] w fun e w' => e = .returned (.int .i64 0) ∧ Below w.heap.size w w' := by
  have N := Lib.hid fun W => slotNone_nil W
  go_enter Try.func18, Try.ntmps18
  go_wp2_with fail
  refine (N.out _).mono ?_
  rintro e w1 ⟨rfl, h1⟩
  go_wp2_with fail
  go_ret
  exact ⟨rfl, h1⟩
theorem slotGap_nil (w : World) : Calls Try.prog 21 #[.pointer none] w fun e w' => e = .returned (.int .i64 0) ∧ Below w.heap.size w w' := by
  have N := Lib.hid fun W => slotNone_nil W
  go_enter Try.func21, Try.ntmps21
  go_wp2_with fail
  refine (N.out _).mono ?_
  rintro e w1 ⟨rfl, h1⟩
  go_wp2_with fail
  go_ret
  exact ⟨rfl, h1⟩
theorem slotFree_nil (w : World) : Calls Try.prog 20 #[.pointer none] w fun e w' => e = .returned (.int .i64 0) ∧ Below w.heap.size w w' := by
  have N := Lib.hid fun W => slotNone_nil W
  go_enter Try.func20, Try.ntmps20
  go_wp2_with fail
  refine (N.out _).mono ?_
  rintro e w1 ⟨rfl, h1⟩
  go_wp2_with fail
  go_ret
  exact ⟨rfl, h1⟩
theorem slotCompact_nil (w : World) : Calls Try.prog 23 #[.pointer none] w fun e w' => e = .returned (.int .i64 0) ∧ Below w.heap.size w w' := by
  have N := Lib.hid fun W => slotNone_nil W
  go_enter Try.func23, Try.ntmps23
  go_wp2_with fail
  refine (N.out _).mono ?_
  rintro e w1 ⟨rfl, h1⟩
  have hb := ((Below.refl w.heap.size w).alloc (Nat.le_refl _) (.cells #[.pointer none] 27)).trans (h1.mono (by simp))
  go_wp2_with fail
  go_ret
  exact ⟨rfl, hb⟩
theorem slotBytes_nil (w : World) : Calls Try.prog 24 #[.pointer none] w fun e w' => e = .returned (.string ⟨#[]⟩) ∧ Below w.heap.size w w' := by
  have N := Lib.hid fun W => slotNone_nil W
  go_enter Try.func24, Try.ntmps24
  go_wp2_with fail
  refine (N.out _).mono ?_
  rintro e w1 ⟨rfl, h1⟩
  go_wp2_with fail
  go_ret
  exact ⟨rfl, h1⟩
theorem slotThere_nil (k : Int) (w : World) : Calls Try.prog 49 #[.pointer none, .int .i64 k] w fun e w' => e = .returned (.int .i64 1) ∧ Below w.heap.size w w' := by
  have N := Lib.hid fun W => slotNone_nil W
  go_enter Try.func49, Try.ntmps49
  go_wp2_with fail
  refine (N.out _).mono ?_
  rintro e w1 ⟨rfl, h1⟩
  go_wp2_with fail
  go_ret
  exact ⟨rfl, h1⟩
theorem slotGetText_nil (k : Int) (w : World) : Calls Try.prog 19 #[.pointer none, .int .i64 k] w fun e w' => e = .returned (.tuple #[.string ⟨#[]⟩, .int .i64 1]) ∧ Below w.heap.size w w' := by
  have N := Lib.hid fun W => slotThere_nil k W
  go_enter Try.func19, Try.ntmps19
  go_wp2_with fail
  refine (N.out _).mono ?_
  rintro e w1 ⟨rfl, h1⟩
  go_wp2_with fail
  go_ret2
  exact ⟨rfl, h1⟩
theorem slotSet_nil (k : Int) (s : ByteArray) (w : World) : Calls Try.prog 22 #[.pointer none, .int .i64 k, .string s] w fun e w' => e = .returned (.int .i64 1) ∧ Below w.heap.size w w' := by
  have N := Lib.hid fun W => slotThere_nil k W
  go_enter Try.func22, Try.ntmps22
  go_wp2_with fail
  refine (N.out _).mono ?_
  rintro e w1 ⟨rfl, h1⟩
  go_wp2_with fail
  go_ret
  exact ⟨rfl, h1⟩
theorem slotRemove_nil (k : Int) (w : World) : Calls Try.prog 17 #[.pointer none, .int .i64 k] w fun e w' => e = .returned (.int .i64 1) ∧ Below w.heap.size w w' := by
  have N := Lib.hid fun W => slotThere_nil k W
  go_enter Try.func17, Try.ntmps17
  go_wp2_with fail
  refine (N.out _).mono ?_
  rintro e w1 ⟨rfl, h1⟩
  go_wp2_with fail
  go_ret
  exact ⟨rfl, h1⟩
theorem slotPut_nil (k : Int) (s : ByteArray) (w : World) : Calls Try.prog 16 #[.pointer none, .int .i64 k, .string s] w fun e w' => e = .returned (.int .i64 1) ∧ Below w.heap.size w w' := by
  have N := Lib.hid fun W => slotNone_nil W
  go_enter Try.func16, Try.ntmps16
  go_wp2_with fail
  refine (N.out _).mono ?_
  rintro e w1 ⟨rfl, h1⟩
  go_wp2_with fail
  go_ret
  exact ⟨rfl, h1⟩

end Go.Proofs.Ytlpfilpijiglpaa
