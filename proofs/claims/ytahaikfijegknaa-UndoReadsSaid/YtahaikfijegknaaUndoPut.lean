/- A number's bytes: put of undo and of its reference -/
import Derived.Test.YtahaikfijegknaaRows
import Derived.Test.YtahaikfijegknaaRowMay
import Derived.WalkKit
import Derived.WalkLawsBesides
import Derived.WalkSpells
import Derived.LoopTactic
import Derived.WalkMore
import Derived.LoopN
import Derived.Laws.BitsAllLaws
import Derived.Laws.IdiomStrings
import Derived.BigQuiet
import Derived.Deep.QuietTactic
import Derived.Deep.DeepCutAuto
import Derived.Deep.RegionHeld3
import Derived.Deep.DrawnRows
import Derived.Lib.Hide
import Derived.Outline
import Derived.Deep.DeepMust
import Derived.Handy
namespace Go.Proofs.Ytahaikfijegknaa
open Go.RowKit
set_option linter.unusedVariables false
set_option linter.unusedSimpArgs false

theorem uput_1 (n : Nat) (w : World) (hn : n < 256 ^ 1) :
    Calls Try.prog 55 #[.int .u64 n, .int .i64 1] w fun e w' => e = .returned (.string ⟨(be 1 n).toArray⟩) ∧ Below w.heap.size w w' := by
  have C := Lib.hid fun W => put_1 n W hn
  clear hn
  go_enter Try.func55, Try.ntmps55
  go_wp2_with fail
  refine (C.out _).mono ?_
  rintro e w1 ⟨rfl, hb⟩
  go_wp2_with fail
  go_ret
  exact ⟨rfl, hb⟩

theorem refUput_1 (n : Nat) (w : World) (hn : n < 256 ^ 1) :
    Calls Try.prog 56 #[.int .u64 n, .int .i64 1] w fun e w' => e = .returned (.string ⟨(be 1 n).toArray⟩) ∧ Below w.heap.size w w' := by
  have C := Lib.hid fun W => refPut_1 n W hn
  clear hn
  go_enter Try.func56, Try.ntmps56
  go_wp2_with fail
  refine (C.out _).mono ?_
  rintro e w1 ⟨rfl, hb⟩
  go_wp2_with fail
  go_ret
  exact ⟨rfl, hb⟩

theorem uput_2 (n : Nat) (w : World) (hn : n < 256 ^ 2) :
    Calls Try.prog 55 #[.int .u64 n, .int .i64 2] w fun e w' => e = .returned (.string ⟨(be 2 n).toArray⟩) ∧ Below w.heap.size w w' := by
  have C := Lib.hid fun W => put_2 n W hn
  clear hn
  go_enter Try.func55, Try.ntmps55
  go_wp2_with fail
  refine (C.out _).mono ?_
  rintro e w1 ⟨rfl, hb⟩
  go_wp2_with fail
  go_ret
  exact ⟨rfl, hb⟩

theorem refUput_2 (n : Nat) (w : World) (hn : n < 256 ^ 2) :
    Calls Try.prog 56 #[.int .u64 n, .int .i64 2] w fun e w' => e = .returned (.string ⟨(be 2 n).toArray⟩) ∧ Below w.heap.size w w' := by
  have C := Lib.hid fun W => refPut_2 n W hn
  clear hn
  go_enter Try.func56, Try.ntmps56
  go_wp2_with fail
  refine (C.out _).mono ?_
  rintro e w1 ⟨rfl, hb⟩
  go_wp2_with fail
  go_ret
  exact ⟨rfl, hb⟩

theorem uput_4 (n : Nat) (w : World) (hn : n < 256 ^ 4) :
    Calls Try.prog 55 #[.int .u64 n, .int .i64 4] w fun e w' => e = .returned (.string ⟨(be 4 n).toArray⟩) ∧ Below w.heap.size w w' := by
  have C := Lib.hid fun W => put_4 n W hn
  clear hn
  go_enter Try.func55, Try.ntmps55
  go_wp2_with fail
  refine (C.out _).mono ?_
  rintro e w1 ⟨rfl, hb⟩
  go_wp2_with fail
  go_ret
  exact ⟨rfl, hb⟩

theorem refUput_4 (n : Nat) (w : World) (hn : n < 256 ^ 4) :
    Calls Try.prog 56 #[.int .u64 n, .int .i64 4] w fun e w' => e = .returned (.string ⟨(be 4 n).toArray⟩) ∧ Below w.heap.size w w' := by
  have C := Lib.hid fun W => refPut_4 n W hn
  clear hn
  go_enter Try.func56, Try.ntmps56
  go_wp2_with fail
  refine (C.out _).mono ?_
  rintro e w1 ⟨rfl, hb⟩
  go_wp2_with fail
  go_ret
  exact ⟨rfl, hb⟩

theorem uput_8 (n : Nat) (w : World) (hn : n < 256 ^ 8) :
    Calls Try.prog 55 #[.int .u64 n, .int .i64 8] w fun e w' => e = .returned (.string ⟨(be 8 n).toArray⟩) ∧ Below w.heap.size w w' := by
  have C := Lib.hid fun W => put_8 n W hn
  clear hn
  go_enter Try.func55, Try.ntmps55
  go_wp2_with fail
  refine (C.out _).mono ?_
  rintro e w1 ⟨rfl, hb⟩
  go_wp2_with fail
  go_ret
  exact ⟨rfl, hb⟩

theorem refUput_8 (n : Nat) (w : World) (hn : n < 256 ^ 8) :
    Calls Try.prog 56 #[.int .u64 n, .int .i64 8] w fun e w' => e = .returned (.string ⟨(be 8 n).toArray⟩) ∧ Below w.heap.size w w' := by
  have C := Lib.hid fun W => refPut_8 n W hn
  clear hn
  go_enter Try.func56, Try.ntmps56
  go_wp2_with fail
  refine (C.out _).mono ?_
  rintro e w1 ⟨rfl, hb⟩
  go_wp2_with fail
  go_ret
  exact ⟨rfl, hb⟩

end Go.Proofs.Ytahaikfijegknaa
