/- The contracts of package word, and of the document's answer for it: numbers in bytes, pieces of a text. -/
import Derived.Test.YtlpfilpijiglpaaRows
import Derived.Test.YtlpfilpijiglpaaBlocks
import Derived.Test.YtlpfilpijiglpaaWordPlain
import Derived.Test.YtlpfilpijiglpaaShelf
import Derived.WalkKit
import Derived.WalkLawsBesides
import Derived.WalkSpells
import Derived.LoopTactic
import Derived.WalkMore
import Derived.LoopN
import Derived.BigQuiet
import Derived.Deep.QuietTactic
import Derived.Deep.DeepCutAuto
import Derived.Lib.Hide
import Derived.Outline
import Derived.Handy
namespace Go.Proofs.Ytlpfilpijiglpaa
open Go.RowKit
set_option linter.unusedVariables false
set_option linter.unusedSimpArgs false

set_option maxHeartbeats 1000000 in
set_option maxRecDepth 100000 in
theorem put_1 (n : Nat) (w : World) (hn : n < 256 ^ 1) :
    Calls Try.prog 75 #[.int .u64 n, .int .i64 1] w fun e w' => e = .returned (.tuple #[.string ⟨(be 1 n).toArray⟩, .bool true]) ∧ Below w.heap.size w w' := by
  simp only [Nat.reducePow] at hn
  have hx : ((n : Int) / 256 != 0) = false := by simp; omega
  go_enter Try.func75, Try.ntmps75
  go_wp2_with fail
  go_rounds 9
  rw [conv_block _ 38 5 9 Try.underlying38 Try.underlying5 Try.underlying9 _ _ 7 1 1 (by
    intro i hi
    simp only [List.drop_succ_cons, List.drop_zero, List.take_succ_cons, List.take_zero, List.map_cons, List.map_nil, intOf]
    rcases i with _ | _ | _ | _ | _ | _ | _ | _ | i
    all_goals first | rfl | omega) (by simp)]
  simp only [Result.andThen]
  rw [Oper.upon_value]
  go_wp2
  go_ret2
  refine ⟨ret_str2 (str_same ?_), (Below.refl _ _).alloc (Nat.le_refl _) _⟩
  simp only [be, List.nil_append, List.cons_append, List.drop_succ_cons, List.drop_zero, List.take_succ_cons, List.take_zero, List.map_cons, List.map_nil, intOf]

  repeat (first | rfl | refine cons_same (u8_same (by first | omega | (simp only [IntKind.wrap_u8]; omega))) ?_)

set_option maxHeartbeats 1000000 in
set_option maxRecDepth 100000 in
theorem put_2 (n : Nat) (w : World) (hn : n < 256 ^ 2) :
    Calls Try.prog 75 #[.int .u64 n, .int .i64 2] w fun e w' => e = .returned (.tuple #[.string ⟨(be 2 n).toArray⟩, .bool true]) ∧ Below w.heap.size w w' := by
  simp only [Nat.reducePow] at hn
  have hx : ((n : Int) / 65536 != 0) = false := by simp; omega
  go_enter Try.func75, Try.ntmps75
  go_wp2_with fail
  go_rounds 9
  rw [conv_block _ 38 5 9 Try.underlying38 Try.underlying5 Try.underlying9 _ _ 6 2 2 (by
    intro i hi
    simp only [List.drop_succ_cons, List.drop_zero, List.take_succ_cons, List.take_zero, List.map_cons, List.map_nil, intOf]
    rcases i with _ | _ | _ | _ | _ | _ | _ | _ | i
    all_goals first | rfl | omega) (by simp)]
  simp only [Result.andThen]
  rw [Oper.upon_value]
  go_wp2
  go_ret2
  refine ⟨ret_str2 (str_same ?_), (Below.refl _ _).alloc (Nat.le_refl _) _⟩
  simp only [be, List.nil_append, List.cons_append, List.drop_succ_cons, List.drop_zero, List.take_succ_cons, List.take_zero, List.map_cons, List.map_nil, intOf]

  repeat (first | rfl | refine cons_same (u8_same (by first | omega | (simp only [IntKind.wrap_u8]; omega))) ?_)

set_option maxHeartbeats 1000000 in
set_option maxRecDepth 100000 in
theorem put_3 (n : Nat) (w : World) (hn : n < 256 ^ 3) :
    Calls Try.prog 75 #[.int .u64 n, .int .i64 3] w fun e w' => e = .returned (.tuple #[.string ⟨(be 3 n).toArray⟩, .bool true]) ∧ Below w.heap.size w w' := by
  simp only [Nat.reducePow] at hn
  have hx : ((n : Int) / 16777216 != 0) = false := by simp; omega
  go_enter Try.func75, Try.ntmps75
  go_wp2_with fail
  go_rounds 9
  rw [conv_block _ 38 5 9 Try.underlying38 Try.underlying5 Try.underlying9 _ _ 5 3 3 (by
    intro i hi
    simp only [List.drop_succ_cons, List.drop_zero, List.take_succ_cons, List.take_zero, List.map_cons, List.map_nil, intOf]
    rcases i with _ | _ | _ | _ | _ | _ | _ | _ | i
    all_goals first | rfl | omega) (by simp)]
  simp only [Result.andThen]
  rw [Oper.upon_value]
  go_wp2
  go_ret2
  refine ⟨ret_str2 (str_same ?_), (Below.refl _ _).alloc (Nat.le_refl _) _⟩
  simp only [be, List.nil_append, List.cons_append, List.drop_succ_cons, List.drop_zero, List.take_succ_cons, List.take_zero, List.map_cons, List.map_nil, intOf]

  repeat (first | rfl | refine cons_same (u8_same (by first | omega | (simp only [IntKind.wrap_u8]; omega))) ?_)

set_option maxHeartbeats 1000000 in
set_option maxRecDepth 100000 in
theorem put_4 (n : Nat) (w : World) (hn : n < 256 ^ 4) :
    Calls Try.prog 75 #[.int .u64 n, .int .i64 4] w fun e w' => e = .returned (.tuple #[.string ⟨(be 4 n).toArray⟩, .bool true]) ∧ Below w.heap.size w w' := by
  simp only [Nat.reducePow] at hn
  have hx : ((n : Int) / 4294967296 != 0) = false := by simp; omega
  go_enter Try.func75, Try.ntmps75
  go_wp2_with fail
  go_rounds 9
  rw [conv_block _ 38 5 9 Try.underlying38 Try.underlying5 Try.underlying9 _ _ 4 4 4 (by
    intro i hi
    simp only [List.drop_succ_cons, List.drop_zero, List.take_succ_cons, List.take_zero, List.map_cons, List.map_nil, intOf]
    rcases i with _ | _ | _ | _ | _ | _ | _ | _ | i
    all_goals first | rfl | omega) (by simp)]
  simp only [Result.andThen]
  rw [Oper.upon_value]
  go_wp2
  go_ret2
  refine ⟨ret_str2 (str_same ?_), (Below.refl _ _).alloc (Nat.le_refl _) _⟩
  simp only [be, List.nil_append, List.cons_append, List.drop_succ_cons, List.drop_zero, List.take_succ_cons, List.take_zero, List.map_cons, List.map_nil, intOf]

  repeat (first | rfl | refine cons_same (u8_same (by first | omega | (simp only [IntKind.wrap_u8]; omega))) ?_)

set_option maxHeartbeats 1000000 in
set_option maxRecDepth 100000 in
theorem put_5 (n : Nat) (w : World) (hn : n < 256 ^ 5) :
    Calls Try.prog 75 #[.int .u64 n, .int .i64 5] w fun e w' => e = .returned (.tuple #[.string ⟨(be 5 n).toArray⟩, .bool true]) ∧ Below w.heap.size w w' := by
  simp only [Nat.reducePow] at hn
  have hx : ((n : Int) / 1099511627776 != 0) = false := by simp; omega
  go_enter Try.func75, Try.ntmps75
  go_wp2_with fail
  go_rounds 9
  rw [conv_block _ 38 5 9 Try.underlying38 Try.underlying5 Try.underlying9 _ _ 3 5 5 (by
    intro i hi
    simp only [List.drop_succ_cons, List.drop_zero, List.take_succ_cons, List.take_zero, List.map_cons, List.map_nil, intOf]
    rcases i with _ | _ | _ | _ | _ | _ | _ | _ | i
    all_goals first | rfl | omega) (by simp)]
  simp only [Result.andThen]
  rw [Oper.upon_value]
  go_wp2
  go_ret2
  refine ⟨ret_str2 (str_same ?_), (Below.refl _ _).alloc (Nat.le_refl _) _⟩
  simp only [be, List.nil_append, List.cons_append, List.drop_succ_cons, List.drop_zero, List.take_succ_cons, List.take_zero, List.map_cons, List.map_nil, intOf]

  repeat (first | rfl | refine cons_same (u8_same (by first | omega | (simp only [IntKind.wrap_u8]; omega))) ?_)

set_option maxHeartbeats 1000000 in
set_option maxRecDepth 100000 in
theorem put_6 (n : Nat) (w : World) (hn : n < 256 ^ 6) :
    Calls Try.prog 75 #[.int .u64 n, .int .i64 6] w fun e w' => e = .returned (.tuple #[.string ⟨(be 6 n).toArray⟩, .bool true]) ∧ Below w.heap.size w w' := by
  simp only [Nat.reducePow] at hn
  have hx : ((n : Int) / 281474976710656 != 0) = false := by simp; omega
  go_enter Try.func75, Try.ntmps75
  go_wp2_with fail
  go_rounds 9
  rw [conv_block _ 38 5 9 Try.underlying38 Try.underlying5 Try.underlying9 _ _ 2 6 6 (by
    intro i hi
    simp only [List.drop_succ_cons, List.drop_zero, List.take_succ_cons, List.take_zero, List.map_cons, List.map_nil, intOf]
    rcases i with _ | _ | _ | _ | _ | _ | _ | _ | i
    all_goals first | rfl | omega) (by simp)]
  simp only [Result.andThen]
  rw [Oper.upon_value]
  go_wp2
  go_ret2
  refine ⟨ret_str2 (str_same ?_), (Below.refl _ _).alloc (Nat.le_refl _) _⟩
  simp only [be, List.nil_append, List.cons_append, List.drop_succ_cons, List.drop_zero, List.take_succ_cons, List.take_zero, List.map_cons, List.map_nil, intOf]

  repeat (first | rfl | refine cons_same (u8_same (by first | omega | (simp only [IntKind.wrap_u8]; omega))) ?_)

set_option maxHeartbeats 1000000 in
set_option maxRecDepth 100000 in
theorem put_7 (n : Nat) (w : World) (hn : n < 256 ^ 7) :
    Calls Try.prog 75 #[.int .u64 n, .int .i64 7] w fun e w' => e = .returned (.tuple #[.string ⟨(be 7 n).toArray⟩, .bool true]) ∧ Below w.heap.size w w' := by
  simp only [Nat.reducePow] at hn
  have hx : ((n : Int) / 72057594037927936 != 0) = false := by simp; omega
  go_enter Try.func75, Try.ntmps75
  go_wp2_with fail
  go_rounds 9
  rw [conv_block _ 38 5 9 Try.underlying38 Try.underlying5 Try.underlying9 _ _ 1 7 7 (by
    intro i hi
    simp only [List.drop_succ_cons, List.drop_zero, List.take_succ_cons, List.take_zero, List.map_cons, List.map_nil, intOf]
    rcases i with _ | _ | _ | _ | _ | _ | _ | _ | i
    all_goals first | rfl | omega) (by simp)]
  simp only [Result.andThen]
  rw [Oper.upon_value]
  go_wp2
  go_ret2
  refine ⟨ret_str2 (str_same ?_), (Below.refl _ _).alloc (Nat.le_refl _) _⟩
  simp only [be, List.nil_append, List.cons_append, List.drop_succ_cons, List.drop_zero, List.take_succ_cons, List.take_zero, List.map_cons, List.map_nil, intOf]

  repeat (first | rfl | refine cons_same (u8_same (by first | omega | (simp only [IntKind.wrap_u8]; omega))) ?_)

set_option maxHeartbeats 1000000 in
set_option maxRecDepth 100000 in
theorem put_8 (n : Nat) (w : World) (hn : n < 256 ^ 8) :
    Calls Try.prog 75 #[.int .u64 n, .int .i64 8] w fun e w' => e = .returned (.tuple #[.string ⟨(be 8 n).toArray⟩, .bool true]) ∧ Below w.heap.size w w' := by
  simp only [Nat.reducePow] at hn
  go_enter Try.func75, Try.ntmps75
  go_wp2_with fail
  go_rounds 9
  rw [conv_block _ 38 5 9 Try.underlying38 Try.underlying5 Try.underlying9 _ _ 0 8 8 (by
    intro i hi
    simp only [List.drop_succ_cons, List.drop_zero, List.take_succ_cons, List.take_zero, List.map_cons, List.map_nil, intOf]
    rcases i with _ | _ | _ | _ | _ | _ | _ | _ | i
    all_goals first | rfl | omega) (by simp)]
  simp only [Result.andThen]
  rw [Oper.upon_value]
  go_wp2
  go_ret2
  refine ⟨ret_str2 (str_same ?_), (Below.refl _ _).alloc (Nat.le_refl _) _⟩
  simp only [be, List.nil_append, List.cons_append, List.drop_succ_cons, List.drop_zero, List.take_succ_cons, List.take_zero, List.map_cons, List.map_nil, intOf]

  repeat (first | rfl | refine cons_same (u8_same (by first | omega | (simp only [IntKind.wrap_u8]; omega))) ?_)

set_option maxHeartbeats 1000000 in
set_option maxRecDepth 100000 in
theorem refPut_1 (n : Nat) (w : World) (hn : n < 256 ^ 1) :
    Calls Try.prog 91 #[.int .u64 n, .int .i64 1] w fun e w' => e = .returned (.tuple #[.string ⟨(be 1 n).toArray⟩, .bool true]) ∧ Below w.heap.size w w' := by
  simp only [Nat.reducePow] at hn
  have hmk : ∀ w, (Instr.makeSlice 38 (.int .i64 1) (.int .i64 1)).run Try.prog w = .ok (.slice (some ⟨w.heap.size, 0, none⟩) 1 1) (w.alloc (.cells #[.int .u8 0] 5)) := fun _ => by kernel_rfl
  have hx : ((n : Int) / 256 != 0) = false := by simp; omega
  go_enter Try.func91, Try.ntmps91
  go_wp2_with fail
  go_rounds 2
  rw [conv_block _ 38 5 9 Try.underlying38 Try.underlying5 Try.underlying9 _ _ 0 1 1 (by
    intro i hi
    simp only [List.drop_zero, List.take_succ_cons, List.take_zero, List.map_cons, List.map_nil, intOf]
    rcases i with _ | _ | _ | _ | _ | _ | _ | _ | i
    all_goals first | rfl | omega) (by simp)]
  simp only [Result.andThen]
  rw [Oper.upon_value]
  go_wp2
  go_ret2
  refine ⟨ret_str2 (str_same ?_), (Below.refl _ _).alloc (Nat.le_refl _) _⟩
  simp only [be, List.nil_append, List.cons_append, List.drop_succ_cons, List.drop_zero, List.take_succ_cons, List.take_zero, List.map_cons, List.map_nil, intOf]
  repeat (first | rfl | refine cons_same (u8_same (by first | omega | (simp only [IntKind.wrap_u8]; omega))) ?_)

set_option maxHeartbeats 1000000 in
set_option maxRecDepth 100000 in
theorem refPut_2 (n : Nat) (w : World) (hn : n < 256 ^ 2) :
    Calls Try.prog 91 #[.int .u64 n, .int .i64 2] w fun e w' => e = .returned (.tuple #[.string ⟨(be 2 n).toArray⟩, .bool true]) ∧ Below w.heap.size w w' := by
  simp only [Nat.reducePow] at hn
  have hmk : ∀ w, (Instr.makeSlice 38 (.int .i64 2) (.int .i64 2)).run Try.prog w = .ok (.slice (some ⟨w.heap.size, 0, none⟩) 2 2) (w.alloc (.cells #[.int .u8 0, .int .u8 0] 5)) := fun _ => by kernel_rfl
  have hx : ((n : Int) / 256 / 256 != 0) = false := by simp; omega
  go_enter Try.func91, Try.ntmps91
  go_wp2_with fail
  go_rounds 3
  rw [conv_block _ 38 5 9 Try.underlying38 Try.underlying5 Try.underlying9 _ _ 0 2 2 (by
    intro i hi
    simp only [List.drop_zero, List.take_succ_cons, List.take_zero, List.map_cons, List.map_nil, intOf]
    rcases i with _ | _ | _ | _ | _ | _ | _ | _ | i
    all_goals first | rfl | omega) (by simp)]
  simp only [Result.andThen]
  rw [Oper.upon_value]
  go_wp2
  go_ret2
  refine ⟨ret_str2 (str_same ?_), (Below.refl _ _).alloc (Nat.le_refl _) _⟩
  simp only [be, List.nil_append, List.cons_append, List.drop_succ_cons, List.drop_zero, List.take_succ_cons, List.take_zero, List.map_cons, List.map_nil, intOf]
  repeat (first | rfl | refine cons_same (u8_same (by first | omega | (simp only [IntKind.wrap_u8]; omega))) ?_)

set_option maxHeartbeats 1000000 in
set_option maxRecDepth 100000 in
theorem refPut_3 (n : Nat) (w : World) (hn : n < 256 ^ 3) :
    Calls Try.prog 91 #[.int .u64 n, .int .i64 3] w fun e w' => e = .returned (.tuple #[.string ⟨(be 3 n).toArray⟩, .bool true]) ∧ Below w.heap.size w w' := by
  simp only [Nat.reducePow] at hn
  have hmk : ∀ w, (Instr.makeSlice 38 (.int .i64 3) (.int .i64 3)).run Try.prog w = .ok (.slice (some ⟨w.heap.size, 0, none⟩) 3 3) (w.alloc (.cells #[.int .u8 0, .int .u8 0, .int .u8 0] 5)) := fun _ => by kernel_rfl
  have hx : ((n : Int) / 256 / 256 / 256 != 0) = false := by simp; omega
  go_enter Try.func91, Try.ntmps91
  go_wp2_with fail
  go_rounds 4
  rw [conv_block _ 38 5 9 Try.underlying38 Try.underlying5 Try.underlying9 _ _ 0 3 3 (by
    intro i hi
    simp only [List.drop_zero, List.take_succ_cons, List.take_zero, List.map_cons, List.map_nil, intOf]
    rcases i with _ | _ | _ | _ | _ | _ | _ | _ | i
    all_goals first | rfl | omega) (by simp)]
  simp only [Result.andThen]
  rw [Oper.upon_value]
  go_wp2
  go_ret2
  refine ⟨ret_str2 (str_same ?_), (Below.refl _ _).alloc (Nat.le_refl _) _⟩
  simp only [be, List.nil_append, List.cons_append, List.drop_succ_cons, List.drop_zero, List.take_succ_cons, List.take_zero, List.map_cons, List.map_nil, intOf]
  repeat (first | rfl | refine cons_same (u8_same (by first | omega | (simp only [IntKind.wrap_u8]; omega))) ?_)

set_option maxHeartbeats 1000000 in
set_option maxRecDepth 100000 in
theorem refPut_4 (n : Nat) (w : World) (hn : n < 256 ^ 4) :
    Calls Try.prog 91 #[.int .u64 n, .int .i64 4] w fun e w' => e = .returned (.tuple #[.string ⟨(be 4 n).toArray⟩, .bool true]) ∧ Below w.heap.size w w' := by
  simp only [Nat.reducePow] at hn
  have hmk : ∀ w, (Instr.makeSlice 38 (.int .i64 4) (.int .i64 4)).run Try.prog w = .ok (.slice (some ⟨w.heap.size, 0, none⟩) 4 4) (w.alloc (.cells #[.int .u8 0, .int .u8 0, .int .u8 0, .int .u8 0] 5)) := fun _ => by kernel_rfl
  have hx : ((n : Int) / 256 / 256 / 256 / 256 != 0) = false := by simp; omega
  go_enter Try.func91, Try.ntmps91
  go_wp2_with fail
  go_rounds 5
  rw [conv_block _ 38 5 9 Try.underlying38 Try.underlying5 Try.underlying9 _ _ 0 4 4 (by
    intro i hi
    simp only [List.drop_zero, List.take_succ_cons, List.take_zero, List.map_cons, List.map_nil, intOf]
    rcases i with _ | _ | _ | _ | _ | _ | _ | _ | i
    all_goals first | rfl | omega) (by simp)]
  simp only [Result.andThen]
  rw [Oper.upon_value]
  go_wp2
  go_ret2
  refine ⟨ret_str2 (str_same ?_), (Below.refl _ _).alloc (Nat.le_refl _) _⟩
  simp only [be, List.nil_append, List.cons_append, List.drop_succ_cons, List.drop_zero, List.take_succ_cons, List.take_zero, List.map_cons, List.map_nil, intOf]
  repeat (first | rfl | refine cons_same (u8_same (by first | omega | (simp only [IntKind.wrap_u8]; omega))) ?_)

set_option maxHeartbeats 1000000 in
set_option maxRecDepth 100000 in
theorem refPut_5 (n : Nat) (w : World) (hn : n < 256 ^ 5) :
    Calls Try.prog 91 #[.int .u64 n, .int .i64 5] w fun e w' => e = .returned (.tuple #[.string ⟨(be 5 n).toArray⟩, .bool true]) ∧ Below w.heap.size w w' := by
  simp only [Nat.reducePow] at hn
  have hmk : ∀ w, (Instr.makeSlice 38 (.int .i64 5) (.int .i64 5)).run Try.prog w = .ok (.slice (some ⟨w.heap.size, 0, none⟩) 5 5) (w.alloc (.cells #[.int .u8 0, .int .u8 0, .int .u8 0, .int .u8 0, .int .u8 0] 5)) := fun _ => by kernel_rfl
  have hx : ((n : Int) / 256 / 256 / 256 / 256 / 256 != 0) = false := by simp; omega
  go_enter Try.func91, Try.ntmps91
  go_wp2_with fail
  go_rounds 6
  rw [conv_block _ 38 5 9 Try.underlying38 Try.underlying5 Try.underlying9 _ _ 0 5 5 (by
    intro i hi
    simp only [List.drop_zero, List.take_succ_cons, List.take_zero, List.map_cons, List.map_nil, intOf]
    rcases i with _ | _ | _ | _ | _ | _ | _ | _ | i
    all_goals first | rfl | omega) (by simp)]
  simp only [Result.andThen]
  rw [Oper.upon_value]
  go_wp2
  go_ret2
  refine ⟨ret_str2 (str_same ?_), (Below.refl _ _).alloc (Nat.le_refl _) _⟩
  simp only [be, List.nil_append, List.cons_append, List.drop_succ_cons, List.drop_zero, List.take_succ_cons, List.take_zero, List.map_cons, List.map_nil, intOf]
  repeat (first | rfl | refine cons_same (u8_same (by first | omega | (simp only [IntKind.wrap_u8]; omega))) ?_)

set_option maxHeartbeats 1000000 in
set_option maxRecDepth 100000 in
theorem refPut_6 (n : Nat) (w : World) (hn : n < 256 ^ 6) :
    Calls Try.prog 91 #[.int .u64 n, .int .i64 6] w fun e w' => e = .returned (.tuple #[.string ⟨(be 6 n).toArray⟩, .bool true]) ∧ Below w.heap.size w w' := by
  simp only [Nat.reducePow] at hn
  have hmk : ∀ w, (Instr.makeSlice 38 (.int .i64 6) (.int .i64 6)).run Try.prog w = .ok (.slice (some ⟨w.heap.size, 0, none⟩) 6 6) (w.alloc (.cells #[.int .u8 0, .int .u8 0, .int .u8 0, .int .u8 0, .int .u8 0, .int .u8 0] 5)) := fun _ => by kernel_rfl
  have hx : ((n : Int) / 256 / 256 / 256 / 256 / 256 / 256 != 0) = false := by simp; omega
  go_enter Try.func91, Try.ntmps91
  go_wp2_with fail
  go_rounds 7
  rw [conv_block _ 38 5 9 Try.underlying38 Try.underlying5 Try.underlying9 _ _ 0 6 6 (by
    intro i hi
    simp only [List.drop_zero, List.take_succ_cons, List.take_zero, List.map_cons, List.map_nil, intOf]
    rcases i with _ | _ | _ | _ | _ | _ | _ | _ | i
    all_goals first | rfl | omega) (by simp)]
  simp only [Result.andThen]
  rw [Oper.upon_value]
  go_wp2
  go_ret2
  refine ⟨ret_str2 (str_same ?_), (Below.refl _ _).alloc (Nat.le_refl _) _⟩
  simp only [be, List.nil_append, List.cons_append, List.drop_succ_cons, List.drop_zero, List.take_succ_cons, List.take_zero, List.map_cons, List.map_nil, intOf]
  repeat (first | rfl | refine cons_same (u8_same (by first | omega | (simp only [IntKind.wrap_u8]; omega))) ?_)

set_option maxHeartbeats 1000000 in
set_option maxRecDepth 100000 in
theorem refPut_7 (n : Nat) (w : World) (hn : n < 256 ^ 7) :
    Calls Try.prog 91 #[.int .u64 n, .int .i64 7] w fun e w' => e = .returned (.tuple #[.string ⟨(be 7 n).toArray⟩, .bool true]) ∧ Below w.heap.size w w' := by
  simp only [Nat.reducePow] at hn
  have hmk : ∀ w, (Instr.makeSlice 38 (.int .i64 7) (.int .i64 7)).run Try.prog w = .ok (.slice (some ⟨w.heap.size, 0, none⟩) 7 7) (w.alloc (.cells #[.int .u8 0, .int .u8 0, .int .u8 0, .int .u8 0, .int .u8 0, .int .u8 0, .int .u8 0] 5)) := fun _ => by kernel_rfl
  have hx : ((n : Int) / 256 / 256 / 256 / 256 / 256 / 256 / 256 != 0) = false := by simp; omega
  go_enter Try.func91, Try.ntmps91
  go_wp2_with fail
  go_rounds 8
  rw [conv_block _ 38 5 9 Try.underlying38 Try.underlying5 Try.underlying9 _ _ 0 7 7 (by
    intro i hi
    simp only [List.drop_zero, List.take_succ_cons, List.take_zero, List.map_cons, List.map_nil, intOf]
    rcases i with _ | _ | _ | _ | _ | _ | _ | _ | i
    all_goals first | rfl | omega) (by simp)]
  simp only [Result.andThen]
  rw [Oper.upon_value]
  go_wp2
  go_ret2
  refine ⟨ret_str2 (str_same ?_), (Below.refl _ _).alloc (Nat.le_refl _) _⟩
  simp only [be, List.nil_append, List.cons_append, List.drop_succ_cons, List.drop_zero, List.take_succ_cons, List.take_zero, List.map_cons, List.map_nil, intOf]
  repeat (first | rfl | refine cons_same (u8_same (by first | omega | (simp only [IntKind.wrap_u8]; omega))) ?_)

set_option maxHeartbeats 1000000 in
set_option maxRecDepth 100000 in
theorem refPut_8 (n : Nat) (w : World) (hn : n < 256 ^ 8) :
    Calls Try.prog 91 #[.int .u64 n, .int .i64 8] w fun e w' => e = .returned (.tuple #[.string ⟨(be 8 n).toArray⟩, .bool true]) ∧ Below w.heap.size w w' := by
  simp only [Nat.reducePow] at hn
  have hmk : ∀ w, (Instr.makeSlice 38 (.int .i64 8) (.int .i64 8)).run Try.prog w = .ok (.slice (some ⟨w.heap.size, 0, none⟩) 8 8) (w.alloc (.cells #[.int .u8 0, .int .u8 0, .int .u8 0, .int .u8 0, .int .u8 0, .int .u8 0, .int .u8 0, .int .u8 0] 5)) := fun _ => by kernel_rfl
  have hx : ((n : Int) / 256 / 256 / 256 / 256 / 256 / 256 / 256 / 256 != 0) = false := by simp; omega
  go_enter Try.func91, Try.ntmps91
  go_wp2_with fail
  go_rounds 9
  rw [conv_block _ 38 5 9 Try.underlying38 Try.underlying5 Try.underlying9 _ _ 0 8 8 (by
    intro i hi
    simp only [List.drop_zero, List.take_succ_cons, List.take_zero, List.map_cons, List.map_nil, intOf]
    rcases i with _ | _ | _ | _ | _ | _ | _ | _ | i
    all_goals first | rfl | omega) (by simp)]
  simp only [Result.andThen]
  rw [Oper.upon_value]
  go_wp2
  go_ret2
  refine ⟨ret_str2 (str_same ?_), (Below.refl _ _).alloc (Nat.le_refl _) _⟩
  simp only [be, List.nil_append, List.cons_append, List.drop_succ_cons, List.drop_zero, List.take_succ_cons, List.take_zero, List.map_cons, List.map_nil, intOf]
  repeat (first | rfl | refine cons_same (u8_same (by first | omega | (simp only [IntKind.wrap_u8]; omega))) ?_)

theorem cut_yes (s : ByteArray) (a n : Nat) (w : World) (hs : s.size ≤ maxLen) (h : a + n ≤ s.size) :
    Calls Try.prog 72 #[.string s, .int .i64 a, .int .i64 n] w fun e w' => e = .returned (.tuple #[.string (s.extract a (a + n)), .bool true]) ∧ w = w' := by
  unfold maxLen at hs
  go_enter Try.func72, Try.ntmps72
  go_wp2
  go_ret2
  exact ⟨rfl, rfl⟩

theorem cut_no (s : ByteArray) (a n : Int) (w : World) (hs : s.size ≤ maxLen) (h : a < 0 ∨ n < 0 ∨ (s.size : Int) < a + n) (ha : a ≤ 9223372036854775807) (hn : n ≤ 9223372036854775807) :
    Calls Try.prog 72 #[.string s, .int .i64 a, .int .i64 n] w fun e w' => e = .returned (.tuple #[.string ⟨#[]⟩, .bool false]) ∧ w = w' := by
  unfold maxLen at hs
  by_cases h1 : a < 0
  · go_enter Try.func72, Try.ntmps72
    go_wp2
    go_ret2
    exact ⟨rfl, rfl⟩
  · by_cases h2 : n < 0
    · go_enter Try.func72, Try.ntmps72
      go_wp2
      go_ret2
      exact ⟨rfl, rfl⟩
    · by_cases h3 : (s.size : Int) < a
      · go_enter Try.func72, Try.ntmps72
        go_wp2
        go_ret2
        exact ⟨rfl, rfl⟩
      · have h4 : (s.size : Int) - a < n := by omega
        clear h
        go_enter Try.func72, Try.ntmps72
        go_wp2
        go_ret2
        exact ⟨rfl, rfl⟩

theorem refCut_yes (s : ByteArray) (a n : Nat) (w : World) (hs : s.size ≤ maxLen) (h : a + n ≤ s.size) :
    Calls Try.prog 83 #[.string s, .int .i64 a, .int .i64 n] w fun e w' => e = .returned (.tuple #[.string (s.extract a (a + n)), .bool true]) ∧ w = w' := by
  unfold maxLen at hs
  go_enter Try.func83, Try.ntmps83
  go_wp2
  go_ret2
  exact ⟨rfl, rfl⟩

theorem refCut_no (s : ByteArray) (a n : Int) (w : World) (hs : s.size ≤ maxLen) (h : a < 0 ∨ n < 0 ∨ (s.size : Int) < a + n) (ha : a ≤ 9223372036854775807) (hn : n ≤ 9223372036854775807) :
    Calls Try.prog 83 #[.string s, .int .i64 a, .int .i64 n] w fun e w' => e = .returned (.tuple #[.string ⟨#[]⟩, .bool false]) ∧ w = w' := by
  unfold maxLen at hs
  by_cases h1 : a < 0
  · go_enter Try.func83, Try.ntmps83
    go_wp2
    go_ret2
    exact ⟨rfl, rfl⟩
  · by_cases h2 : n < 0
    · go_enter Try.func83, Try.ntmps83
      go_wp2
      go_ret2
      exact ⟨rfl, rfl⟩
    · by_cases h3 : (s.size : Int) < a
      · go_enter Try.func83, Try.ntmps83
        go_wp2
        go_ret2
        exact ⟨rfl, rfl⟩
      · have h4 : (s.size : Int) - a < n := by omega
        clear h
        go_enter Try.func83, Try.ntmps83
        go_wp2
        go_ret2
        exact ⟨rfl, rfl⟩

end Go.Proofs.Ytlpfilpijiglpaa
