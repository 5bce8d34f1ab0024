/- The contracts of row.May, of the document's answer for it, and of the two packages' words for a number's bytes. -/
import Derived.Test.YtahaikfijegknaaRows
import Derived.Test.YtahaikfijegknaaWordGets
import Derived.Test.YtahaikfijegknaaRowPlain
import Derived.WalkKit
import Derived.WalkLawsBesides
import Derived.WalkSpells
import Derived.LoopTactic
import Derived.WalkMore
import Derived.LoopN
import Derived.Laws.BitsAllLaws
import Derived.Laws.IdiomStrings
import Derived.BigQuiet
import Derived.Deep.QuietTactic
import Derived.Deep.DeepCutAuto
import Derived.Deep.RegionHeld3
import Derived.Deep.DrawnRows
import Derived.Lib.Hide
import Derived.Outline
import Derived.Handy
namespace Go.Proofs.Ytahaikfijegknaa
open Go.RowKit
set_option linter.unusedVariables false
set_option linter.unusedSimpArgs false

set_option maxHeartbeats 1000000 in
theorem rowMay_any (k v : ByteArray) (m : Bool) (t p s : Nat) (d : Int) (w : World) (hk : k.size ≤ maxLen) (hv : v.size ≤ maxLen) :
    Calls Try.prog 27 #[.agg #[.string k, .bool m, .int .u64 t, .int .u32 p, .int .u16 s, .string v, .int .i64 d]] w fun e w' => e = .returned (.bool (mayRow k.size v.size p s d)) ∧ Below w.heap.size w w' := by
  have M := Lib.hid fun W => keyMay_any k W hk
  unfold maxLen at hk hv
  generalize hb : mayRow k.size v.size p s d = b
  have hb' : b = true ↔ 1 ≤ k.size ∧ k.size ≤ 48 ∧ 0 ≤ d ∧ d ≤ 96 ∧ (v.size : Int) + d ≤ 96 ∧ p ≤ 1024 ∧ (0 < p ∨ s = 0) := by rw [← hb]; exact mayRow_iff
  clear hb
  have Hb := Lib.hid hb'
  clear hb'
  go_enter Try.func27, Try.ntmps27
  go_wp2_with fail
  refine (M.out _).mono ?_
  rintro e w1 ⟨rfl, rfl⟩
  go_wp2_with fail
  all_goals go_ret
  all_goals refine ⟨ret_bool ?_, (Below.refl _ _).alloc (Nat.le_refl _) _⟩
  all_goals
    have h := Hb.out
    rw [Bool.eq_iff_iff]
    simp only [h]
    simp
    try omega

set_option maxHeartbeats 1000000 in
theorem refMay_any (k v : ByteArray) (m : Bool) (t p s : Nat) (d : Int) (w : World) (hk : k.size ≤ maxLen) (hv : v.size ≤ maxLen) :
    Calls Try.prog 28 #[.agg #[.string k, .bool m, .int .u64 t, .int .u32 p, .int .u16 s, .string v, .int .i64 d]] w fun e w' => e = .returned (.bool (mayRow k.size v.size p s d)) ∧ Below w.heap.size w w' := by
  unfold maxLen at hk hv
  generalize hb : mayRow k.size v.size p s d = b
  have hb' : b = true ↔ 1 ≤ k.size ∧ k.size ≤ 48 ∧ 0 ≤ d ∧ d ≤ 96 ∧ (v.size : Int) + d ≤ 96 ∧ p ≤ 1024 ∧ (0 < p ∨ s = 0) := by rw [← hb]; exact mayRow_iff
  clear hb
  have Hb := Lib.hid hb'
  clear hb'
  go_enter Try.func28, Try.ntmps28
  go_wp2_with fail
  all_goals go_ret
  all_goals refine ⟨ret_bool ?_, (Below.refl _ _).alloc (Nat.le_refl _) _⟩
  all_goals
    have h := Hb.out
    rw [Bool.eq_iff_iff]
    simp only [h]
    simp
    try omega

theorem number_1 (n : Nat) (w : World) (hn : n < 256 ^ 1) :
    Calls Try.prog 48 #[.int .u64 n, .int .i64 1] w fun e w' => e = .returned (.string ⟨(be 1 n).toArray⟩) ∧ Below w.heap.size w w' := by
  have C := Lib.hid fun W => put_1 n W hn
  clear hn
  go_enter Try.func48, Try.ntmps48
  go_wp2_with fail
  refine (C.out _).mono ?_
  rintro e w1 ⟨rfl, hb⟩
  go_wp2_with fail
  go_ret
  exact ⟨rfl, hb⟩

theorem refNum_1 (n : Nat) (w : World) (hn : n < 256 ^ 1) :
    Calls Try.prog 50 #[.int .u64 n, .int .i64 1] w fun e w' => e = .returned (.string ⟨(be 1 n).toArray⟩) ∧ Below w.heap.size w w' := by
  have C := Lib.hid fun W => refPut_1 n W hn
  clear hn
  go_enter Try.func50, Try.ntmps50
  go_wp2_with fail
  refine (C.out _).mono ?_
  rintro e w1 ⟨rfl, hb⟩
  go_wp2_with fail
  go_ret
  exact ⟨rfl, hb⟩

theorem number_2 (n : Nat) (w : World) (hn : n < 256 ^ 2) :
    Calls Try.prog 48 #[.int .u64 n, .int .i64 2] w fun e w' => e = .returned (.string ⟨(be 2 n).toArray⟩) ∧ Below w.heap.size w w' := by
  have C := Lib.hid fun W => put_2 n W hn
  clear hn
  go_enter Try.func48, Try.ntmps48
  go_wp2_with fail
  refine (C.out _).mono ?_
  rintro e w1 ⟨rfl, hb⟩
  go_wp2_with fail
  go_ret
  exact ⟨rfl, hb⟩

theorem refNum_2 (n : Nat) (w : World) (hn : n < 256 ^ 2) :
    Calls Try.prog 50 #[.int .u64 n, .int .i64 2] w fun e w' => e = .returned (.string ⟨(be 2 n).toArray⟩) ∧ Below w.heap.size w w' := by
  have C := Lib.hid fun W => refPut_2 n W hn
  clear hn
  go_enter Try.func50, Try.ntmps50
  go_wp2_with fail
  refine (C.out _).mono ?_
  rintro e w1 ⟨rfl, hb⟩
  go_wp2_with fail
  go_ret
  exact ⟨rfl, hb⟩

theorem number_4 (n : Nat) (w : World) (hn : n < 256 ^ 4) :
    Calls Try.prog 48 #[.int .u64 n, .int .i64 4] w fun e w' => e = .returned (.string ⟨(be 4 n).toArray⟩) ∧ Below w.heap.size w w' := by
  have C := Lib.hid fun W => put_4 n W hn
  clear hn
  go_enter Try.func48, Try.ntmps48
  go_wp2_with fail
  refine (C.out _).mono ?_
  rintro e w1 ⟨rfl, hb⟩
  go_wp2_with fail
  go_ret
  exact ⟨rfl, hb⟩

theorem refNum_4 (n : Nat) (w : World) (hn : n < 256 ^ 4) :
    Calls Try.prog 50 #[.int .u64 n, .int .i64 4] w fun e w' => e = .returned (.string ⟨(be 4 n).toArray⟩) ∧ Below w.heap.size w w' := by
  have C := Lib.hid fun W => refPut_4 n W hn
  clear hn
  go_enter Try.func50, Try.ntmps50
  go_wp2_with fail
  refine (C.out _).mono ?_
  rintro e w1 ⟨rfl, hb⟩
  go_wp2_with fail
  go_ret
  exact ⟨rfl, hb⟩

theorem number_8 (n : Nat) (w : World) (hn : n < 256 ^ 8) :
    Calls Try.prog 48 #[.int .u64 n, .int .i64 8] w fun e w' => e = .returned (.string ⟨(be 8 n).toArray⟩) ∧ Below w.heap.size w w' := by
  have C := Lib.hid fun W => put_8 n W hn
  clear hn
  go_enter Try.func48, Try.ntmps48
  go_wp2_with fail
  refine (C.out _).mono ?_
  rintro e w1 ⟨rfl, hb⟩
  go_wp2_with fail
  go_ret
  exact ⟨rfl, hb⟩

theorem refNum_8 (n : Nat) (w : World) (hn : n < 256 ^ 8) :
    Calls Try.prog 50 #[.int .u64 n, .int .i64 8] w fun e w' => e = .returned (.string ⟨(be 8 n).toArray⟩) ∧ Below w.heap.size w w' := by
  have C := Lib.hid fun W => refPut_8 n W hn
  clear hn
  go_enter Try.func50, Try.ntmps50
  go_wp2_with fail
  refine (C.out _).mono ?_
  rintro e w1 ⟨rfl, hb⟩
  go_wp2_with fail
  go_ret
  exact ⟨rfl, hb⟩

end Go.Proofs.Ytahaikfijegknaa
