/- The document's example of undo records -/
import Derived.Test.YtahaikfijegknaaRows
import Derived.Test.YtahaikfijegknaaUndoBefore
import Derived.WalkKit
import Derived.WalkLawsBesides
import Derived.WalkSpells
import Derived.LoopTactic
import Derived.WalkMore
import Derived.LoopN
import Derived.Laws.BitsAllLaws
import Derived.Laws.IdiomStrings
import Derived.BigQuiet
import Derived.Deep.QuietTactic
import Derived.Deep.DeepCutAuto
import Derived.Deep.RegionHeld3
import Derived.Deep.DrawnRows
import Derived.Lib.Hide
import Derived.Outline
import Derived.Deep.DeepMust
import Derived.Handy
namespace Go.Proofs.Ytahaikfijegknaa
open Go.RowKit
set_option linter.unusedVariables false
set_option linter.unusedSimpArgs false

set_option maxHeartbeats 2000000 in
set_option maxRecDepth 100000 in
theorem works21 (w : World) : Calls Try.prog 37 #[] w fun e w' => e = .returned (.bool true) ∧ Below w.heap.size w w' := by
  have e1 : ∀ W, Calls Try.prog 38 #[.agg #[.int .u8 1, .int .u64 1, .int .u32 0, .int .u16 0, .string ⟨#[97]⟩, .string ⟨#[]⟩, .bool false, .int .u64 0, .int .u32 0, .int .u16 0, .string ⟨#[]⟩, .int .i64 0]] W fun e w' => e = .returned (.tuple #[.string ⟨#[1, 0, 0, 0, 0, 0, 0, 0, 1, 0, 0, 0, 0, 0, 0, 97]⟩, .int .i64 0]) ∧ Below W.heap.size W w' := by
    intro W
    have h := undoEncode_1 1 1 0 0 ⟨#[97]⟩ ⟨#[]⟩ ⟨#[]⟩ false 0 0 0 0 W (by decide) (by decide) (by decide) (by decide) (by decide) (by decide) (by decide) rfl (by decide +kernel)
    rw [show encUndo 1 1 0 0 (ByteArray.mk #[97]).data.toList (ByteArray.mk #[]).data.toList false 0 0 0 (ByteArray.mk #[]).data.toList 0 = [1, 0, 0, 0, 0, 0, 0, 0, 1, 0, 0, 0, 0, 0, 0, 97] from by decide +kernel] at h
    exact h
  have e2 : ∀ W, Calls Try.prog 43 #[.string ⟨#[1, 0, 0, 0, 0, 0, 0, 0, 1, 0, 0, 0, 0, 0, 0, 97]⟩] W fun e w' => e = .returned (.tuple #[.agg #[.int .u8 1, .int .u64 1, .int .u32 0, .int .u16 0, .string ⟨#[97]⟩, .string ⟨#[]⟩, .bool false, .int .u64 0, .int .u32 0, .int .u16 0, .string ⟨#[]⟩, .int .i64 0], .int .i64 0]) ∧ Below W.heap.size W w' := by
    intro W
    have h := undoDecode_any ⟨#[1, 0, 0, 0, 0, 0, 0, 0, 1, 0, 0, 0, 0, 0, 0, 97]⟩ W (by decide)
    rw [decUV_new (l := (ByteArray.mk #[1, 0, 0, 0, 0, 0, 0, 0, 1, 0, 0, 0, 0, 0, 0, 97]).data.toList) (by decide +kernel) (by decide +kernel) 1 1 0 0 ⟨#[97]⟩ (by decide +kernel) (by decide +kernel) (by decide +kernel) (by decide +kernel) (by decide +kernel), if_pos (by decide +kernel)] at h
    exact h
  have e3 : ∀ W, Calls Try.prog 40 #[.agg #[.int .u8 2, .int .u64 1, .int .u32 0, .int .u16 0, .string ⟨#[97]⟩, .string ⟨#[97]⟩, .bool false, .int .u64 2, .int .u32 0, .int .u16 0, .string ⟨#[]⟩, .int .i64 0]] W fun e w' => e = .returned (.tuple #[.agg #[.string ⟨#[97]⟩, .bool false, .int .u64 2, .int .u32 0, .int .u16 0, .string ⟨#[]⟩, .int .i64 0], .bool true]) ∧ Below W.heap.size W w' := fun W => undoBefore_any 2 1 0 0 ⟨#[97]⟩ ⟨#[97]⟩ ⟨#[]⟩ false 2 0 0 0 W
  have e4 : ∀ W, Calls Try.prog 40 #[.agg #[.int .u8 1, .int .u64 1, .int .u32 0, .int .u16 0, .string ⟨#[97]⟩, .string ⟨#[]⟩, .bool false, .int .u64 0, .int .u32 0, .int .u16 0, .string ⟨#[]⟩, .int .i64 0]] W fun e w' => e = .returned (.tuple #[.agg #[.string ⟨#[]⟩, .bool false, .int .u64 0, .int .u32 0, .int .u16 0, .string ⟨#[]⟩, .int .i64 0], .bool false]) ∧ Below W.heap.size W w' := fun W => undoBefore_any 1 1 0 0 ⟨#[97]⟩ ⟨#[]⟩ ⟨#[]⟩ false 0 0 0 0 W
  have e5 : ∀ W, Calls Try.prog 41 #[.agg #[.int .u8 0, .int .u64 0, .int .u32 0, .int .u16 0, .string ⟨#[]⟩, .string ⟨#[]⟩, .bool false, .int .u64 0, .int .u32 0, .int .u16 0, .string ⟨#[]⟩, .int .i64 0]] W fun e w' => e = .returned (.bool false) ∧ Below W.heap.size W w' := by
    intro W
    have h := undoMay_any 0 0 0 0 ⟨#[]⟩ ⟨#[]⟩ ⟨#[]⟩ false 0 0 0 0 W (by decide) (by decide) (by decide)
    rw [show mayUndo 0 0 0 0 ⟨#[]⟩ ⟨#[]⟩ false 0 0 0 ⟨#[]⟩ 0 = false from by decide +kernel] at h
    exact h
  have E1 := Lib.hid e1
  have E2 := Lib.hid e2
  have E3 := Lib.hid e3
  have E4 := Lib.hid e4
  have E5 := Lib.hid e5
  clear e1 e2 e3 e4 e5
  go_enter Try.func37, Try.ntmps37
  go_wp2_with fail
  refine (E1.out _).mono ?_
  rintro e w1 ⟨rfl, h1⟩
  go_wp2_with fail
  refine (E2.out _).mono ?_
  rintro e w2 ⟨rfl, h2⟩
  have hb := h1.trans (h2.mono h1.size)
  clear h1 h2
  go_wp2_with fail
  refine (E3.out _).mono ?_
  rintro e w3 ⟨rfl, h3⟩
  have x3 := (h3.block _ (by simp)).trans (heap_alloc_new w2 (.cells #[.int .u8 1, .int .u64 1, .int .u32 0, .int .u16 0, .string ⟨#[97]⟩, .string ⟨#[]⟩, .bool false, .int .u64 0, .int .u32 0, .int .u16 0, .string ⟨#[]⟩, .int .i64 0] 58))
  have hb := (hb.alloc hb.size (.cells #[.int .u8 1, .int .u64 1, .int .u32 0, .int .u16 0, .string ⟨#[97]⟩, .string ⟨#[]⟩, .bool false, .int .u64 0, .int .u32 0, .int .u16 0, .string ⟨#[]⟩, .int .i64 0] 58)).trans (h3.mono (by simp; exact Nat.le_succ_of_le hb.size))
  clear h3
  generalize w2.heap.size = X at *
  have c0 := blk_cell x3 0
  have c1 := blk_cell x3 1
  have c2 := blk_cell x3 2
  have c3 := blk_cell x3 3
  have c4 := blk_cell x3 4
  have c5 := blk_cell x3 5
  have c6 := blk_cell x3 6
  have c7 := blk_cell x3 7
  have c8 := blk_cell x3 8
  have c9 := blk_cell x3 9
  have c10 := blk_cell x3 10
  have c11 := blk_cell x3 11
  have g0 := blk_lt x3
  go_wp2_with fail
  have y3 := heap_alloc_new w3 (.cells #[.string ⟨#[97]⟩, .bool false, .int .u64 2, .int .u32 0, .int .u16 0, .string ⟨#[]⟩, .int .i64 0] 34)
  have x3a := heap_keep (o := (.cells #[.string ⟨#[97]⟩, .bool false, .int .u64 2, .int .u32 0, .int .u16 0, .string ⟨#[]⟩, .int .i64 0] 34)) x3
  refine (E4.out _).mono ?_
  rintro e w4 ⟨rfl, h4⟩
  have x4 := (h4.block X (blk_lt x3a)).trans x3a
  have y4 := (h4.block _ (blk_lt y3)).trans y3
  have hb := (hb.alloc hb.size (.cells #[.string ⟨#[97]⟩, .bool false, .int .u64 2, .int .u32 0, .int .u16 0, .string ⟨#[]⟩, .int .i64 0] 34)).trans (h4.mono (by simp; exact Nat.le_succ_of_le hb.size))
  clear h4 x3 x3a y3 g0 c0 c1 c2 c3 c4 c5 c6 c7 c8 c9 c10 c11
  generalize w3.heap.size = Y at *
  have c0 := blk_cell x4 0
  have c1 := blk_cell x4 1
  have c2 := blk_cell x4 2
  have c3 := blk_cell x4 3
  have c4 := blk_cell x4 4
  have c5 := blk_cell x4 5
  have c6 := blk_cell x4 6
  have c7 := blk_cell x4 7
  have c8 := blk_cell x4 8
  have c9 := blk_cell x4 9
  have c10 := blk_cell x4 10
  have c11 := blk_cell x4 11
  have d0 := blk_cell y4 0
  have d1 := blk_cell y4 1
  have d2 := blk_cell y4 2
  have d3 := blk_cell y4 3
  have d4 := blk_cell y4 4
  have d5 := blk_cell y4 5
  have d6 := blk_cell y4 6
  have g0 := blk_lt x4
  have g1 := blk_lt y4
  go_wp2_with fail
  refine (E5.out _).mono ?_
  rintro e w5 ⟨rfl, h5⟩
  have hb := (hb.alloc hb.size (.cells #[.string ⟨#[]⟩, .bool false, .int .u64 0, .int .u32 0, .int .u16 0, .string ⟨#[]⟩, .int .i64 0] 34)).trans (h5.mono (by simp; exact Nat.le_succ_of_le hb.size))
  go_wp2_with fail
  go_ret
  exact ⟨rfl, hb⟩

end Go.Proofs.Ytahaikfijegknaa
