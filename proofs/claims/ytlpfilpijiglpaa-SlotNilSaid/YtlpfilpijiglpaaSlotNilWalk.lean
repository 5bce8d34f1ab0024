/- What none answers: the walk -/
import Derived.Test.YtlpfilpijiglpaaRows
import Derived.Test.YtlpfilpijiglpaaSlotAlive
import Derived.WalkKit
import Derived.WalkLawsBesides
import Derived.WalkSpells
import Derived.LoopTactic
import Derived.WalkMore
import Derived.LoopN
import Derived.Laws.BitsAllLaws
import Derived.Laws.IdiomStrings
import Derived.BigQuiet
import Derived.Deep.QuietTactic
import Derived.Deep.DeepCutAuto
import Derived.Deep.RegionHeld3
import Derived.Deep.DrawnRows
import Derived.Lib.Hide
import Derived.Outline
import Derived.Deep.DeepMust
import Derived.Handy
namespace Go.Proofs.Ytlpfilpijiglpaa
open Go.RowKit
set_option linter.unusedVariables false
set_option linter.unusedSimpArgs false

set_option maxHeartbeats 2000000 in
set_option maxRecDepth 100000 in
theorem slotNil_walk (k : Int) (s : ByteArray) (w : World) (hs : s.size ≤ maxLen) :
    Calls Try.prog 4 #[.int .i64 k, .string s] w fun e w' => e = .returned (.bool true) ∧ Below w.heap.size w w' := by
  unfold maxLen at hs
  have AL := Lib.hid fun W => alive_any W
  by_cases h1 : s.size ≤ 1024
  case neg =>
    go_enter Try.func4, Try.ntmps4
    go_wp2_with fail
    refine (AL.out _).mono ?_
    rintro e w1 ⟨rfl, h⟩
    go_wp2_with fail
    go_ret
    exact ⟨rfl, h⟩
  have GE := Lib.hid fun W => slotGetText_nil k W
  have PU := Lib.hid fun W => slotPut_nil k s W
  have SE := Lib.hid fun W => slotSet_nil k s W
  have RE := Lib.hid fun W => slotRemove_nil k W
  have CO := Lib.hid fun W => slotCompact_nil W
  have LE := Lib.hid fun W => slotLen_nil W
  have FR := Lib.hid fun W => slotFree_nil W
  have GA := Lib.hid fun W => slotGap_nil W
  have BY := Lib.hid fun W => slotBytes_nil W
  go_enter Try.func4, Try.ntmps4
  go_wp2_with fail
  refine (GE.out _).mono ?_
  rintro e w1 ⟨rfl, h⟩
  have HB1 := Lib.hid h
  clear h
  go_wp2_with fail
  refine (PU.out _).mono ?_
  rintro e w2 ⟨rfl, h⟩
  have HB2 := Lib.hid (below_then HB1.out h)
  clear h HB1
  go_wp2_with fail
  refine (SE.out _).mono ?_
  rintro e w3 ⟨rfl, h⟩
  have HB3 := Lib.hid (below_then HB2.out h)
  clear h HB2
  go_wp2_with fail
  refine (RE.out _).mono ?_
  rintro e w4 ⟨rfl, h⟩
  have HB4 := Lib.hid (below_then HB3.out h)
  clear h HB3
  go_wp2_with fail
  refine (CO.out _).mono ?_
  rintro e w5 ⟨rfl, h⟩
  have HB5 := Lib.hid (below_then HB4.out h)
  clear h HB4
  go_wp2_with fail
  refine (LE.out _).mono ?_
  rintro e w6 ⟨rfl, h⟩
  have HB6 := Lib.hid (below_then HB5.out h)
  clear h HB5
  go_wp2_with fail
  refine (FR.out _).mono ?_
  rintro e w7 ⟨rfl, h⟩
  have HB7 := Lib.hid (below_then HB6.out h)
  clear h HB6
  go_wp2_with fail
  refine (GA.out _).mono ?_
  rintro e w8 ⟨rfl, h⟩
  have HB8 := Lib.hid (below_then HB7.out h)
  clear h HB7
  go_wp2_with fail
  refine (BY.out _).mono ?_
  rintro e w9 ⟨rfl, h⟩
  have HB9 := Lib.hid (below_then HB8.out h)
  clear h HB8
  go_wp2_with fail
  refine (AL.out _).mono ?_
  rintro e w10 ⟨rfl, h⟩
  have HB10 := Lib.hid (below_then HB9.out h)
  clear h HB9
  go_wp2_with fail
  go_ret
  exact ⟨rfl, HB10.out⟩

end Go.Proofs.Ytlpfilpijiglpaa
