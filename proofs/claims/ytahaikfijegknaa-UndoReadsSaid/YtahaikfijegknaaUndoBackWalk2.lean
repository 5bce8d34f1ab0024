/- UndoBack: the walk, where both records encode -/
import Derived.Test.YtahaikfijegknaaRows
import Derived.Test.YtahaikfijegknaaUndoWorks
import Derived.WalkKit
import Derived.WalkLawsBesides
import Derived.WalkSpells
import Derived.LoopTactic
import Derived.WalkMore
import Derived.LoopN
import Derived.Laws.BitsAllLaws
import Derived.Laws.IdiomStrings
import Derived.BigQuiet
import Derived.Deep.QuietTactic
import Derived.Deep.DeepCutAuto
import Derived.Deep.RegionHeld3
import Derived.Deep.DrawnRows
import Derived.Lib.Hide
import Derived.Outline
import Derived.Deep.DeepMust
import Derived.Handy
namespace Go.Proofs.Ytahaikfijegknaa
open Go.RowKit
set_option linter.unusedVariables false
set_option linter.unusedSimpArgs false

set_option maxHeartbeats 4000000 in
set_option maxRecDepth 100000 in
theorem undoBack_yy_bad (kd x pg sl kd' x' pg' sl' : Nat) (y k v y' k' v' : ByteArray) (m m' : Bool) (t t' p p' s s' : Nat) (d d' : Int) (z : ByteArray) (w : World) (X Y : ByteArray) (q : Int)
    (H1 : Hid (∀ W, Calls Try.prog 36 #[.agg #[.int .u8 kd, .int .u64 x, .int .u32 pg, .int .u16 sl, .string y, .string k, .bool m, .int .u64 t, .int .u32 p, .int .u16 s, .string v, .int .i64 d]] W fun e w' => e = .returned (.bool false) ∧ Below W.heap.size W w'))
    (H2 : Hid (∀ W, Calls Try.prog 36 #[.agg #[.int .u8 kd', .int .u64 x', .int .u32 pg', .int .u16 sl', .string y', .string k', .bool m', .int .u64 t', .int .u32 p', .int .u16 s', .string v', .int .i64 d']] W fun e w' => e = .returned (.bool false) ∧ Below W.heap.size W w'))
    (hz : (z.size : Int) ≤ 1024)
    (E1 : Hid (∀ W, Calls Try.prog 38 #[.agg #[.int .u8 kd, .int .u64 x, .int .u32 pg, .int .u16 sl, .string y, .string k, .bool m, .int .u64 t, .int .u32 p, .int .u16 s, .string v, .int .i64 d]] W fun e w' => e = .returned (.tuple #[.string X, .int .i64 0]) ∧ Below W.heap.size W w'))
    (E2 : Hid (∀ W, Calls Try.prog 38 #[.agg #[.int .u8 kd', .int .u64 x', .int .u32 pg', .int .u16 sl', .string y', .string k', .bool m', .int .u64 t', .int .u32 p', .int .u16 s', .string v', .int .i64 d']] W fun e w' => e = .returned (.tuple #[.string Y, .int .i64 0]) ∧ Below W.heap.size W w'))
    (D1 : Hid (∀ W, Calls Try.prog 43 #[.string X] W fun e w' => e = .returned (.tuple #[.agg #[.int .u8 kd, .int .u64 x, .int .u32 pg, .int .u16 sl, .string y, .string k, .bool m, .int .u64 t, .int .u32 p, .int .u16 s, .string v, .int .i64 d], .int .i64 0]) ∧ Below W.heap.size W w'))
    (b : Bool) (hXY : (X.toList == Y.toList) = b) (hE : ∀ W, (binOp .eql 58 (.agg #[.int .u8 kd, .int .u64 x, .int .u32 pg, .int .u16 sl, .string y, .string k, .bool m, .int .u64 t, .int .u32 p, .int .u16 s, .string v, .int .i64 d]) (.agg #[.int .u8 kd', .int .u64 x', .int .u32 pg', .int .u16 sl', .string y', .string k', .bool m', .int .u64 t', .int .u32 p', .int .u16 s', .string v', .int .i64 d'])).run Try.prog W = .ok (.bool b) W) (hX : X.size ≤ 200) (hY : Y.size ≤ 200)
    (hS : ∀ W, (binOp .eql 58 (.agg #[.int .u8 kd, .int .u64 x, .int .u32 pg, .int .u16 sl, .string y, .string k, .bool m, .int .u64 t, .int .u32 p, .int .u16 s, .string v, .int .i64 d]) (.agg #[.int .u8 kd, .int .u64 x, .int .u32 pg, .int .u16 sl, .string y, .string k, .bool m, .int .u64 t, .int .u32 p, .int .u16 s, .string v, .int .i64 d])).run Try.prog W = .ok (.bool true) W) (hN : ∀ W, (binOp .neq 58 (.agg #[.int .u8 kd, .int .u64 x, .int .u32 pg, .int .u16 sl, .string y, .string k, .bool m, .int .u64 t, .int .u32 p, .int .u16 s, .string v, .int .i64 d]) (.agg #[.int .u8 kd, .int .u64 x, .int .u32 pg, .int .u16 sl, .string y, .string k, .bool m, .int .u64 t, .int .u32 p, .int .u16 s, .string v, .int .i64 d])).run Try.prog W = .ok (.bool false) W)
    (D2 : Hid (∀ W, Calls Try.prog 43 #[.string z] W fun e w' => e = .returned (.tuple #[.agg #[.int .u8 0, .int .u64 0, .int .u32 0, .int .u16 0, .string ⟨#[]⟩, .string ⟨#[]⟩, .bool false, .int .u64 0, .int .u32 0, .int .u16 0, .string ⟨#[]⟩, .int .i64 0], .int .i64 7]) ∧ Below W.heap.size W w'))
    (hZ : ∀ W, (binOp .eql 58 (.agg #[.int .u8 0, .int .u64 0, .int .u32 0, .int .u16 0, .string ⟨#[]⟩, .string ⟨#[]⟩, .bool false, .int .u64 0, .int .u32 0, .int .u16 0, .string ⟨#[]⟩, .int .i64 0]) (.agg #[.int .u8 0, .int .u64 0, .int .u32 0, .int .u16 0, .string ⟨#[]⟩, .string ⟨#[]⟩, .bool false, .int .u64 0, .int .u32 0, .int .u16 0, .string ⟨#[]⟩, .int .i64 0])).run Try.prog W = .ok (.bool true) W) : Calls Try.prog 12 #[.agg #[.int .u8 kd, .int .u64 x, .int .u32 pg, .int .u16 sl, .string y, .string k, .bool m, .int .u64 t, .int .u32 p, .int .u16 s, .string v, .int .i64 d], .agg #[.int .u8 kd', .int .u64 x', .int .u32 pg', .int .u16 sl', .string y', .string k', .bool m', .int .u64 t', .int .u32 p', .int .u16 s', .string v', .int .i64 d'], .string z] w fun e w' => e = .returned (.bool true) ∧ Below w.heap.size w w' := by
  cases b with
  | true =>
    go_enter Try.func12, Try.ntmps12
    go_wp2_with fail
    refine (H1.out _).mono ?_
    rintro e w1 ⟨rfl, h⟩
    have z1 : (w.alloc (.cells #[.int .u8 kd, .int .u64 x, .int .u32 pg, .int .u16 sl, .string y, .string k, .bool m, .int .u64 t, .int .u32 p, .int .u16 s, .string v, .int .i64 d] 58)).heap.size = w.heap.size + 1 := by simp
    have ga := heap_keep (o := .cells #[.int .u8 kd', .int .u64 x', .int .u32 pg', .int .u16 sl', .string y', .string k', .bool m', .int .u64 t', .int .u32 p', .int .u16 s', .string v', .int .i64 d'] 58) (heap_alloc_new w (.cells #[.int .u8 kd, .int .u64 x, .int .u32 pg, .int .u16 sl, .string y, .string k, .bool m, .int .u64 t, .int .u32 p, .int .u16 s, .string v, .int .i64 d] 58))
    have gb := heap_alloc_new (w.alloc (.cells #[.int .u8 kd, .int .u64 x, .int .u32 pg, .int .u16 sl, .string y, .string k, .bool m, .int .u64 t, .int .u32 p, .int .u16 s, .string v, .int .i64 d] 58)) (.cells #[.int .u8 kd', .int .u64 x', .int .u32 pg', .int .u16 sl', .string y', .string k', .bool m', .int .u64 t', .int .u32 p', .int .u16 s', .string v', .int .i64 d'] 58)
    rw [z1] at gb
    have xa := (h.block _ (blk_lt ga)).trans ga
    have xb := (h.block _ (blk_lt gb)).trans gb
    have hb := (((Below.refl _ _).alloc (Nat.le_refl _) (.cells #[.int .u8 kd, .int .u64 x, .int .u32 pg, .int .u16 sl, .string y, .string k, .bool m, .int .u64 t, .int .u32 p, .int .u16 s, .string v, .int .i64 d] 58)).alloc (by simp) (.cells #[.int .u8 kd', .int .u64 x', .int .u32 pg', .int .u16 sl', .string y', .string k', .bool m', .int .u64 t', .int .u32 p', .int .u16 s', .string v', .int .i64 d'] 58)).trans (h.mono (by simp; omega))
    have g0 := blk_lt xa
    have g1 := blk_lt xb
    clear h H1 z1 ga gb
    have a0 := blk_cell xa 0
    have a1 := blk_cell xa 1
    have a2 := blk_cell xa 2
    have a3 := blk_cell xa 3
    have a4 := blk_cell xa 4
    have a5 := blk_cell xa 5
    have a6 := blk_cell xa 6
    have a7 := blk_cell xa 7
    have a8 := blk_cell xa 8
    have a9 := blk_cell xa 9
    have a10 := blk_cell xa 10
    have a11 := blk_cell xa 11
    have b0 := blk_cell xb 0
    have b1 := blk_cell xb 1
    have b2 := blk_cell xb 2
    have b3 := blk_cell xb 3
    have b4 := blk_cell xb 4
    have b5 := blk_cell xb 5
    have b6 := blk_cell xb 6
    have b7 := blk_cell xb 7
    have b8 := blk_cell xb 8
    have b9 := blk_cell xb 9
    have b10 := blk_cell xb 10
    have b11 := blk_cell xb 11
    go_wp2_with fail
    refine (H2.out _).mono ?_
    rintro e w2 ⟨rfl, h⟩
    have hb := hb.trans (h.mono hb.size)
    have xa := (h.block _ (blk_lt xa)).trans xa
    have xb := (h.block _ (blk_lt xb)).trans xb
    clear g0 g1 a0 a1 a2 a3 a4 a5 a6 a7 a8 a9 a10 a11 b0 b1 b2 b3 b4 b5 b6 b7 b8 b9 b10 b11
    have g0 := blk_lt xa
    have g1 := blk_lt xb
    have a0 := blk_cell xa 0
    have a1 := blk_cell xa 1
    have a2 := blk_cell xa 2
    have a3 := blk_cell xa 3
    have a4 := blk_cell xa 4
    have a5 := blk_cell xa 5
    have a6 := blk_cell xa 6
    have a7 := blk_cell xa 7
    have a8 := blk_cell xa 8
    have a9 := blk_cell xa 9
    have a10 := blk_cell xa 10
    have a11 := blk_cell xa 11
    have b0 := blk_cell xb 0
    have b1 := blk_cell xb 1
    have b2 := blk_cell xb 2
    have b3 := blk_cell xb 3
    have b4 := blk_cell xb 4
    have b5 := blk_cell xb 5
    have b6 := blk_cell xb 6
    have b7 := blk_cell xb 7
    have b8 := blk_cell xb 8
    have b9 := blk_cell xb 9
    have b10 := blk_cell xb 10
    have b11 := blk_cell xb 11
    clear h
    go_wp2_with fail
    refine (E1.out _).mono ?_
    rintro e w3 ⟨rfl, h⟩
    have hb := hb.trans (h.mono hb.size)
    have xa := (h.block _ (blk_lt xa)).trans xa
    have xb := (h.block _ (blk_lt xb)).trans xb
    clear g0 g1 a0 a1 a2 a3 a4 a5 a6 a7 a8 a9 a10 a11 b0 b1 b2 b3 b4 b5 b6 b7 b8 b9 b10 b11
    have g0 := blk_lt xa
    have g1 := blk_lt xb
    have a0 := blk_cell xa 0
    have a1 := blk_cell xa 1
    have a2 := blk_cell xa 2
    have a3 := blk_cell xa 3
    have a4 := blk_cell xa 4
    have a5 := blk_cell xa 5
    have a6 := blk_cell xa 6
    have a7 := blk_cell xa 7
    have a8 := blk_cell xa 8
    have a9 := blk_cell xa 9
    have a10 := blk_cell xa 10
    have a11 := blk_cell xa 11
    have b0 := blk_cell xb 0
    have b1 := blk_cell xb 1
    have b2 := blk_cell xb 2
    have b3 := blk_cell xb 3
    have b4 := blk_cell xb 4
    have b5 := blk_cell xb 5
    have b6 := blk_cell xb 6
    have b7 := blk_cell xb 7
    have b8 := blk_cell xb 8
    have b9 := blk_cell xb 9
    have b10 := blk_cell xb 10
    have b11 := blk_cell xb 11
    clear h
    go_wp2_with fail
    refine (E2.out _).mono ?_
    rintro e w4 ⟨rfl, h⟩
    have hb := hb.trans (h.mono hb.size)
    have xa := (h.block _ (blk_lt xa)).trans xa
    have xb := (h.block _ (blk_lt xb)).trans xb
    clear g0 g1 a0 a1 a2 a3 a4 a5 a6 a7 a8 a9 a10 a11 b0 b1 b2 b3 b4 b5 b6 b7 b8 b9 b10 b11
    have g0 := blk_lt xa
    have g1 := blk_lt xb
    have a0 := blk_cell xa 0
    have a1 := blk_cell xa 1
    have a2 := blk_cell xa 2
    have a3 := blk_cell xa 3
    have a4 := blk_cell xa 4
    have a5 := blk_cell xa 5
    have a6 := blk_cell xa 6
    have a7 := blk_cell xa 7
    have a8 := blk_cell xa 8
    have a9 := blk_cell xa 9
    have a10 := blk_cell xa 10
    have a11 := blk_cell xa 11
    have b0 := blk_cell xb 0
    have b1 := blk_cell xb 1
    have b2 := blk_cell xb 2
    have b3 := blk_cell xb 3
    have b4 := blk_cell xb 4
    have b5 := blk_cell xb 5
    have b6 := blk_cell xb 6
    have b7 := blk_cell xb 7
    have b8 := blk_cell xb 8
    have b9 := blk_cell xb 9
    have b10 := blk_cell xb 10
    have b11 := blk_cell xb 11
    clear h
    go_wp2_with fail
    refine (D1.out _).mono ?_
    rintro e w5 ⟨rfl, h⟩
    have hb := hb.trans (h.mono hb.size)
    have xa := (h.block _ (blk_lt xa)).trans xa
    have xb := (h.block _ (blk_lt xb)).trans xb
    clear g0 g1 a0 a1 a2 a3 a4 a5 a6 a7 a8 a9 a10 a11 b0 b1 b2 b3 b4 b5 b6 b7 b8 b9 b10 b11
    have g0 := blk_lt xa
    have g1 := blk_lt xb
    have a0 := blk_cell xa 0
    have a1 := blk_cell xa 1
    have a2 := blk_cell xa 2
    have a3 := blk_cell xa 3
    have a4 := blk_cell xa 4
    have a5 := blk_cell xa 5
    have a6 := blk_cell xa 6
    have a7 := blk_cell xa 7
    have a8 := blk_cell xa 8
    have a9 := blk_cell xa 9
    have a10 := blk_cell xa 10
    have a11 := blk_cell xa 11
    have b0 := blk_cell xb 0
    have b1 := blk_cell xb 1
    have b2 := blk_cell xb 2
    have b3 := blk_cell xb 3
    have b4 := blk_cell xb 4
    have b5 := blk_cell xb 5
    have b6 := blk_cell xb 6
    have b7 := blk_cell xb 7
    have b8 := blk_cell xb 8
    have b9 := blk_cell xb 9
    have b10 := blk_cell xb 10
    have b11 := blk_cell xb 11
    clear h
    go_wp2_with fail
    refine (D2.out _).mono ?_
    rintro e w6 ⟨rfl, h⟩
    have hb := (hb.alloc hb.size (.cells #[.int .u8 kd, .int .u64 x, .int .u32 pg, .int .u16 sl, .string y, .string k, .bool m, .int .u64 t, .int .u32 p, .int .u16 s, .string v, .int .i64 d] 58)).trans (h.mono (by simp; exact Nat.le_succ_of_le hb.size))
    clear h
    clear xa xb g0 g1 a0 a1 a2 a3 a4 a5 a6 a7 a8 a9 a10 a11 b0 b1 b2 b3 b4 b5 b6 b7 b8 b9 b10 b11
    go_wp2_with fail
    refine (works21 _).mono ?_
    rintro e w9 ⟨rfl, h⟩
    have hb := (hb.alloc hb.size (.cells #[.int .u8 0, .int .u64 0, .int .u32 0, .int .u16 0, .string ⟨#[]⟩, .string ⟨#[]⟩, .bool false, .int .u64 0, .int .u32 0, .int .u16 0, .string ⟨#[]⟩, .int .i64 0] 58)).trans (h.mono (by simp; exact Nat.le_succ_of_le hb.size))
    clear h
    go_wp2_with fail
    go_ret
    exact ⟨rfl, hb⟩
  | false =>
    go_enter Try.func12, Try.ntmps12
    go_wp2_with fail
    refine (H1.out _).mono ?_
    rintro e w1 ⟨rfl, h⟩
    have z1 : (w.alloc (.cells #[.int .u8 kd, .int .u64 x, .int .u32 pg, .int .u16 sl, .string y, .string k, .bool m, .int .u64 t, .int .u32 p, .int .u16 s, .string v, .int .i64 d] 58)).heap.size = w.heap.size + 1 := by simp
    have ga := heap_keep (o := .cells #[.int .u8 kd', .int .u64 x', .int .u32 pg', .int .u16 sl', .string y', .string k', .bool m', .int .u64 t', .int .u32 p', .int .u16 s', .string v', .int .i64 d'] 58) (heap_alloc_new w (.cells #[.int .u8 kd, .int .u64 x, .int .u32 pg, .int .u16 sl, .string y, .string k, .bool m, .int .u64 t, .int .u32 p, .int .u16 s, .string v, .int .i64 d] 58))
    have gb := heap_alloc_new (w.alloc (.cells #[.int .u8 kd, .int .u64 x, .int .u32 pg, .int .u16 sl, .string y, .string k, .bool m, .int .u64 t, .int .u32 p, .int .u16 s, .string v, .int .i64 d] 58)) (.cells #[.int .u8 kd', .int .u64 x', .int .u32 pg', .int .u16 sl', .string y', .string k', .bool m', .int .u64 t', .int .u32 p', .int .u16 s', .string v', .int .i64 d'] 58)
    rw [z1] at gb
    have xa := (h.block _ (blk_lt ga)).trans ga
    have xb := (h.block _ (blk_lt gb)).trans gb
    have hb := (((Below.refl _ _).alloc (Nat.le_refl _) (.cells #[.int .u8 kd, .int .u64 x, .int .u32 pg, .int .u16 sl, .string y, .string k, .bool m, .int .u64 t, .int .u32 p, .int .u16 s, .string v, .int .i64 d] 58)).alloc (by simp) (.cells #[.int .u8 kd', .int .u64 x', .int .u32 pg', .int .u16 sl', .string y', .string k', .bool m', .int .u64 t', .int .u32 p', .int .u16 s', .string v', .int .i64 d'] 58)).trans (h.mono (by simp; omega))
    have g0 := blk_lt xa
    have g1 := blk_lt xb
    clear h H1 z1 ga gb
    have a0 := blk_cell xa 0
    have a1 := blk_cell xa 1
    have a2 := blk_cell xa 2
    have a3 := blk_cell xa 3
    have a4 := blk_cell xa 4
    have a5 := blk_cell xa 5
    have a6 := blk_cell xa 6
    have a7 := blk_cell xa 7
    have a8 := blk_cell xa 8
    have a9 := blk_cell xa 9
    have a10 := blk_cell xa 10
    have a11 := blk_cell xa 11
    have b0 := blk_cell xb 0
    have b1 := blk_cell xb 1
    have b2 := blk_cell xb 2
    have b3 := blk_cell xb 3
    have b4 := blk_cell xb 4
    have b5 := blk_cell xb 5
    have b6 := blk_cell xb 6
    have b7 := blk_cell xb 7
    have b8 := blk_cell xb 8
    have b9 := blk_cell xb 9
    have b10 := blk_cell xb 10
    have b11 := blk_cell xb 11
    go_wp2_with fail
    refine (H2.out _).mono ?_
    rintro e w2 ⟨rfl, h⟩
    have hb := hb.trans (h.mono hb.size)
    have xa := (h.block _ (blk_lt xa)).trans xa
    have xb := (h.block _ (blk_lt xb)).trans xb
    clear g0 g1 a0 a1 a2 a3 a4 a5 a6 a7 a8 a9 a10 a11 b0 b1 b2 b3 b4 b5 b6 b7 b8 b9 b10 b11
    have g0 := blk_lt xa
    have g1 := blk_lt xb
    have a0 := blk_cell xa 0
    have a1 := blk_cell xa 1
    have a2 := blk_cell xa 2
    have a3 := blk_cell xa 3
    have a4 := blk_cell xa 4
    have a5 := blk_cell xa 5
    have a6 := blk_cell xa 6
    have a7 := blk_cell xa 7
    have a8 := blk_cell xa 8
    have a9 := blk_cell xa 9
    have a10 := blk_cell xa 10
    have a11 := blk_cell xa 11
    have b0 := blk_cell xb 0
    have b1 := blk_cell xb 1
    have b2 := blk_cell xb 2
    have b3 := blk_cell xb 3
    have b4 := blk_cell xb 4
    have b5 := blk_cell xb 5
    have b6 := blk_cell xb 6
    have b7 := blk_cell xb 7
    have b8 := blk_cell xb 8
    have b9 := blk_cell xb 9
    have b10 := blk_cell xb 10
    have b11 := blk_cell xb 11
    clear h
    go_wp2_with fail
    refine (E1.out _).mono ?_
    rintro e w3 ⟨rfl, h⟩
    have hb := hb.trans (h.mono hb.size)
    have xa := (h.block _ (blk_lt xa)).trans xa
    have xb := (h.block _ (blk_lt xb)).trans xb
    clear g0 g1 a0 a1 a2 a3 a4 a5 a6 a7 a8 a9 a10 a11 b0 b1 b2 b3 b4 b5 b6 b7 b8 b9 b10 b11
    have g0 := blk_lt xa
    have g1 := blk_lt xb
    have a0 := blk_cell xa 0
    have a1 := blk_cell xa 1
    have a2 := blk_cell xa 2
    have a3 := blk_cell xa 3
    have a4 := blk_cell xa 4
    have a5 := blk_cell xa 5
    have a6 := blk_cell xa 6
    have a7 := blk_cell xa 7
    have a8 := blk_cell xa 8
    have a9 := blk_cell xa 9
    have a10 := blk_cell xa 10
    have a11 := blk_cell xa 11
    have b0 := blk_cell xb 0
    have b1 := blk_cell xb 1
    have b2 := blk_cell xb 2
    have b3 := blk_cell xb 3
    have b4 := blk_cell xb 4
    have b5 := blk_cell xb 5
    have b6 := blk_cell xb 6
    have b7 := blk_cell xb 7
    have b8 := blk_cell xb 8
    have b9 := blk_cell xb 9
    have b10 := blk_cell xb 10
    have b11 := blk_cell xb 11
    clear h
    go_wp2_with fail
    refine (E2.out _).mono ?_
    rintro e w4 ⟨rfl, h⟩
    have hb := hb.trans (h.mono hb.size)
    have xa := (h.block _ (blk_lt xa)).trans xa
    have xb := (h.block _ (blk_lt xb)).trans xb
    clear g0 g1 a0 a1 a2 a3 a4 a5 a6 a7 a8 a9 a10 a11 b0 b1 b2 b3 b4 b5 b6 b7 b8 b9 b10 b11
    have g0 := blk_lt xa
    have g1 := blk_lt xb
    have a0 := blk_cell xa 0
    have a1 := blk_cell xa 1
    have a2 := blk_cell xa 2
    have a3 := blk_cell xa 3
    have a4 := blk_cell xa 4
    have a5 := blk_cell xa 5
    have a6 := blk_cell xa 6
    have a7 := blk_cell xa 7
    have a8 := blk_cell xa 8
    have a9 := blk_cell xa 9
    have a10 := blk_cell xa 10
    have a11 := blk_cell xa 11
    have b0 := blk_cell xb 0
    have b1 := blk_cell xb 1
    have b2 := blk_cell xb 2
    have b3 := blk_cell xb 3
    have b4 := blk_cell xb 4
    have b5 := blk_cell xb 5
    have b6 := blk_cell xb 6
    have b7 := blk_cell xb 7
    have b8 := blk_cell xb 8
    have b9 := blk_cell xb 9
    have b10 := blk_cell xb 10
    have b11 := blk_cell xb 11
    clear h
    go_wp2_with fail
    refine (D1.out _).mono ?_
    rintro e w5 ⟨rfl, h⟩
    have hb := hb.trans (h.mono hb.size)
    have xa := (h.block _ (blk_lt xa)).trans xa
    have xb := (h.block _ (blk_lt xb)).trans xb
    clear g0 g1 a0 a1 a2 a3 a4 a5 a6 a7 a8 a9 a10 a11 b0 b1 b2 b3 b4 b5 b6 b7 b8 b9 b10 b11
    have g0 := blk_lt xa
    have g1 := blk_lt xb
    have a0 := blk_cell xa 0
    have a1 := blk_cell xa 1
    have a2 := blk_cell xa 2
    have a3 := blk_cell xa 3
    have a4 := blk_cell xa 4
    have a5 := blk_cell xa 5
    have a6 := blk_cell xa 6
    have a7 := blk_cell xa 7
    have a8 := blk_cell xa 8
    have a9 := blk_cell xa 9
    have a10 := blk_cell xa 10
    have a11 := blk_cell xa 11
    have b0 := blk_cell xb 0
    have b1 := blk_cell xb 1
    have b2 := blk_cell xb 2
    have b3 := blk_cell xb 3
    have b4 := blk_cell xb 4
    have b5 := blk_cell xb 5
    have b6 := blk_cell xb 6
    have b7 := blk_cell xb 7
    have b8 := blk_cell xb 8
    have b9 := blk_cell xb 9
    have b10 := blk_cell xb 10
    have b11 := blk_cell xb 11
    clear h
    go_wp2_with fail
    refine (D2.out _).mono ?_
    rintro e w6 ⟨rfl, h⟩
    have hb := (hb.alloc hb.size (.cells #[.int .u8 kd, .int .u64 x, .int .u32 pg, .int .u16 sl, .string y, .string k, .bool m, .int .u64 t, .int .u32 p, .int .u16 s, .string v, .int .i64 d] 58)).trans (h.mono (by simp; exact Nat.le_succ_of_le hb.size))
    clear h
    clear xa xb g0 g1 a0 a1 a2 a3 a4 a5 a6 a7 a8 a9 a10 a11 b0 b1 b2 b3 b4 b5 b6 b7 b8 b9 b10 b11
    go_wp2_with fail
    refine (works21 _).mono ?_
    rintro e w9 ⟨rfl, h⟩
    have hb := (hb.alloc hb.size (.cells #[.int .u8 0, .int .u64 0, .int .u32 0, .int .u16 0, .string ⟨#[]⟩, .string ⟨#[]⟩, .bool false, .int .u64 0, .int .u32 0, .int .u16 0, .string ⟨#[]⟩, .int .i64 0] 58)).trans (h.mono (by simp; exact Nat.le_succ_of_le hb.size))
    clear h
    go_wp2_with fail
    go_ret
    exact ⟨rfl, hb⟩

set_option maxHeartbeats 4000000 in
set_option maxRecDepth 100000 in
theorem undoBack_yy_good (kd x pg sl kd' x' pg' sl' : Nat) (y k v y' k' v' : ByteArray) (m m' : Bool) (t t' p p' s s' : Nat) (d d' : Int) (z : ByteArray) (w : World) (X Y : ByteArray) (q : Int)
    (H1 : Hid (∀ W, Calls Try.prog 36 #[.agg #[.int .u8 kd, .int .u64 x, .int .u32 pg, .int .u16 sl, .string y, .string k, .bool m, .int .u64 t, .int .u32 p, .int .u16 s, .string v, .int .i64 d]] W fun e w' => e = .returned (.bool false) ∧ Below W.heap.size W w'))
    (H2 : Hid (∀ W, Calls Try.prog 36 #[.agg #[.int .u8 kd', .int .u64 x', .int .u32 pg', .int .u16 sl', .string y', .string k', .bool m', .int .u64 t', .int .u32 p', .int .u16 s', .string v', .int .i64 d']] W fun e w' => e = .returned (.bool false) ∧ Below W.heap.size W w'))
    (hz : (z.size : Int) ≤ 1024)
    (E1 : Hid (∀ W, Calls Try.prog 38 #[.agg #[.int .u8 kd, .int .u64 x, .int .u32 pg, .int .u16 sl, .string y, .string k, .bool m, .int .u64 t, .int .u32 p, .int .u16 s, .string v, .int .i64 d]] W fun e w' => e = .returned (.tuple #[.string X, .int .i64 0]) ∧ Below W.heap.size W w'))
    (E2 : Hid (∀ W, Calls Try.prog 38 #[.agg #[.int .u8 kd', .int .u64 x', .int .u32 pg', .int .u16 sl', .string y', .string k', .bool m', .int .u64 t', .int .u32 p', .int .u16 s', .string v', .int .i64 d']] W fun e w' => e = .returned (.tuple #[.string Y, .int .i64 0]) ∧ Below W.heap.size W w'))
    (D1 : Hid (∀ W, Calls Try.prog 43 #[.string X] W fun e w' => e = .returned (.tuple #[.agg #[.int .u8 kd, .int .u64 x, .int .u32 pg, .int .u16 sl, .string y, .string k, .bool m, .int .u64 t, .int .u32 p, .int .u16 s, .string v, .int .i64 d], .int .i64 0]) ∧ Below W.heap.size W w'))
    (b : Bool) (hXY : (X.toList == Y.toList) = b) (hE : ∀ W, (binOp .eql 58 (.agg #[.int .u8 kd, .int .u64 x, .int .u32 pg, .int .u16 sl, .string y, .string k, .bool m, .int .u64 t, .int .u32 p, .int .u16 s, .string v, .int .i64 d]) (.agg #[.int .u8 kd', .int .u64 x', .int .u32 pg', .int .u16 sl', .string y', .string k', .bool m', .int .u64 t', .int .u32 p', .int .u16 s', .string v', .int .i64 d'])).run Try.prog W = .ok (.bool b) W) (hX : X.size ≤ 200) (hY : Y.size ≤ 200)
    (hS : ∀ W, (binOp .eql 58 (.agg #[.int .u8 kd, .int .u64 x, .int .u32 pg, .int .u16 sl, .string y, .string k, .bool m, .int .u64 t, .int .u32 p, .int .u16 s, .string v, .int .i64 d]) (.agg #[.int .u8 kd, .int .u64 x, .int .u32 pg, .int .u16 sl, .string y, .string k, .bool m, .int .u64 t, .int .u32 p, .int .u16 s, .string v, .int .i64 d])).run Try.prog W = .ok (.bool true) W) (hN : ∀ W, (binOp .neq 58 (.agg #[.int .u8 kd, .int .u64 x, .int .u32 pg, .int .u16 sl, .string y, .string k, .bool m, .int .u64 t, .int .u32 p, .int .u16 s, .string v, .int .i64 d]) (.agg #[.int .u8 kd, .int .u64 x, .int .u32 pg, .int .u16 sl, .string y, .string k, .bool m, .int .u64 t, .int .u32 p, .int .u16 s, .string v, .int .i64 d])).run Try.prog W = .ok (.bool false) W)
    (kd2 x2 pg2 sl2 : Nat) (y2 k2 v2 : ByteArray) (m2 : Bool) (t2 p2 s2 : Nat) (d2 : Int)
    (D2 : Hid (∀ W, Calls Try.prog 43 #[.string z] W fun e w' => e = .returned (.tuple #[.agg #[.int .u8 kd2, .int .u64 x2, .int .u32 pg2, .int .u16 sl2, .string y2, .string k2, .bool m2, .int .u64 t2, .int .u32 p2, .int .u16 s2, .string v2, .int .i64 d2], .int .i64 0]) ∧ Below W.heap.size W w'))
    (G2 : Hid (∀ W, Calls Try.prog 38 #[.agg #[.int .u8 kd2, .int .u64 x2, .int .u32 pg2, .int .u16 sl2, .string y2, .string k2, .bool m2, .int .u64 t2, .int .u32 p2, .int .u16 s2, .string v2, .int .i64 d2]] W fun e w' => e = .returned (.tuple #[.string z, .int .i64 0]) ∧ Below W.heap.size W w'))
    (hzz : (z.toList == z.toList) = true) : Calls Try.prog 12 #[.agg #[.int .u8 kd, .int .u64 x, .int .u32 pg, .int .u16 sl, .string y, .string k, .bool m, .int .u64 t, .int .u32 p, .int .u16 s, .string v, .int .i64 d], .agg #[.int .u8 kd', .int .u64 x', .int .u32 pg', .int .u16 sl', .string y', .string k', .bool m', .int .u64 t', .int .u32 p', .int .u16 s', .string v', .int .i64 d'], .string z] w fun e w' => e = .returned (.bool true) ∧ Below w.heap.size w w' := by
  cases b with
  | true =>
    go_enter Try.func12, Try.ntmps12
    go_wp2_with fail
    refine (H1.out _).mono ?_
    rintro e w1 ⟨rfl, h⟩
    have z1 : (w.alloc (.cells #[.int .u8 kd, .int .u64 x, .int .u32 pg, .int .u16 sl, .string y, .string k, .bool m, .int .u64 t, .int .u32 p, .int .u16 s, .string v, .int .i64 d] 58)).heap.size = w.heap.size + 1 := by simp
    have ga := heap_keep (o := .cells #[.int .u8 kd', .int .u64 x', .int .u32 pg', .int .u16 sl', .string y', .string k', .bool m', .int .u64 t', .int .u32 p', .int .u16 s', .string v', .int .i64 d'] 58) (heap_alloc_new w (.cells #[.int .u8 kd, .int .u64 x, .int .u32 pg, .int .u16 sl, .string y, .string k, .bool m, .int .u64 t, .int .u32 p, .int .u16 s, .string v, .int .i64 d] 58))
    have gb := heap_alloc_new (w.alloc (.cells #[.int .u8 kd, .int .u64 x, .int .u32 pg, .int .u16 sl, .string y, .string k, .bool m, .int .u64 t, .int .u32 p, .int .u16 s, .string v, .int .i64 d] 58)) (.cells #[.int .u8 kd', .int .u64 x', .int .u32 pg', .int .u16 sl', .string y', .string k', .bool m', .int .u64 t', .int .u32 p', .int .u16 s', .string v', .int .i64 d'] 58)
    rw [z1] at gb
    have xa := (h.block _ (blk_lt ga)).trans ga
    have xb := (h.block _ (blk_lt gb)).trans gb
    have hb := (((Below.refl _ _).alloc (Nat.le_refl _) (.cells #[.int .u8 kd, .int .u64 x, .int .u32 pg, .int .u16 sl, .string y, .string k, .bool m, .int .u64 t, .int .u32 p, .int .u16 s, .string v, .int .i64 d] 58)).alloc (by simp) (.cells #[.int .u8 kd', .int .u64 x', .int .u32 pg', .int .u16 sl', .string y', .string k', .bool m', .int .u64 t', .int .u32 p', .int .u16 s', .string v', .int .i64 d'] 58)).trans (h.mono (by simp; omega))
    have g0 := blk_lt xa
    have g1 := blk_lt xb
    clear h H1 z1 ga gb
    have a0 := blk_cell xa 0
    have a1 := blk_cell xa 1
    have a2 := blk_cell xa 2
    have a3 := blk_cell xa 3
    have a4 := blk_cell xa 4
    have a5 := blk_cell xa 5
    have a6 := blk_cell xa 6
    have a7 := blk_cell xa 7
    have a8 := blk_cell xa 8
    have a9 := blk_cell xa 9
    have a10 := blk_cell xa 10
    have a11 := blk_cell xa 11
    have b0 := blk_cell xb 0
    have b1 := blk_cell xb 1
    have b2 := blk_cell xb 2
    have b3 := blk_cell xb 3
    have b4 := blk_cell xb 4
    have b5 := blk_cell xb 5
    have b6 := blk_cell xb 6
    have b7 := blk_cell xb 7
    have b8 := blk_cell xb 8
    have b9 := blk_cell xb 9
    have b10 := blk_cell xb 10
    have b11 := blk_cell xb 11
    go_wp2_with fail
    refine (H2.out _).mono ?_
    rintro e w2 ⟨rfl, h⟩
    have hb := hb.trans (h.mono hb.size)
    have xa := (h.block _ (blk_lt xa)).trans xa
    have xb := (h.block _ (blk_lt xb)).trans xb
    clear g0 g1 a0 a1 a2 a3 a4 a5 a6 a7 a8 a9 a10 a11 b0 b1 b2 b3 b4 b5 b6 b7 b8 b9 b10 b11
    have g0 := blk_lt xa
    have g1 := blk_lt xb
    have a0 := blk_cell xa 0
    have a1 := blk_cell xa 1
    have a2 := blk_cell xa 2
    have a3 := blk_cell xa 3
    have a4 := blk_cell xa 4
    have a5 := blk_cell xa 5
    have a6 := blk_cell xa 6
    have a7 := blk_cell xa 7
    have a8 := blk_cell xa 8
    have a9 := blk_cell xa 9
    have a10 := blk_cell xa 10
    have a11 := blk_cell xa 11
    have b0 := blk_cell xb 0
    have b1 := blk_cell xb 1
    have b2 := blk_cell xb 2
    have b3 := blk_cell xb 3
    have b4 := blk_cell xb 4
    have b5 := blk_cell xb 5
    have b6 := blk_cell xb 6
    have b7 := blk_cell xb 7
    have b8 := blk_cell xb 8
    have b9 := blk_cell xb 9
    have b10 := blk_cell xb 10
    have b11 := blk_cell xb 11
    clear h
    go_wp2_with fail
    refine (E1.out _).mono ?_
    rintro e w3 ⟨rfl, h⟩
    have hb := hb.trans (h.mono hb.size)
    have xa := (h.block _ (blk_lt xa)).trans xa
    have xb := (h.block _ (blk_lt xb)).trans xb
    clear g0 g1 a0 a1 a2 a3 a4 a5 a6 a7 a8 a9 a10 a11 b0 b1 b2 b3 b4 b5 b6 b7 b8 b9 b10 b11
    have g0 := blk_lt xa
    have g1 := blk_lt xb
    have a0 := blk_cell xa 0
    have a1 := blk_cell xa 1
    have a2 := blk_cell xa 2
    have a3 := blk_cell xa 3
    have a4 := blk_cell xa 4
    have a5 := blk_cell xa 5
    have a6 := blk_cell xa 6
    have a7 := blk_cell xa 7
    have a8 := blk_cell xa 8
    have a9 := blk_cell xa 9
    have a10 := blk_cell xa 10
    have a11 := blk_cell xa 11
    have b0 := blk_cell xb 0
    have b1 := blk_cell xb 1
    have b2 := blk_cell xb 2
    have b3 := blk_cell xb 3
    have b4 := blk_cell xb 4
    have b5 := blk_cell xb 5
    have b6 := blk_cell xb 6
    have b7 := blk_cell xb 7
    have b8 := blk_cell xb 8
    have b9 := blk_cell xb 9
    have b10 := blk_cell xb 10
    have b11 := blk_cell xb 11
    clear h
    go_wp2_with fail
    refine (E2.out _).mono ?_
    rintro e w4 ⟨rfl, h⟩
    have hb := hb.trans (h.mono hb.size)
    have xa := (h.block _ (blk_lt xa)).trans xa
    have xb := (h.block _ (blk_lt xb)).trans xb
    clear g0 g1 a0 a1 a2 a3 a4 a5 a6 a7 a8 a9 a10 a11 b0 b1 b2 b3 b4 b5 b6 b7 b8 b9 b10 b11
    have g0 := blk_lt xa
    have g1 := blk_lt xb
    have a0 := blk_cell xa 0
    have a1 := blk_cell xa 1
    have a2 := blk_cell xa 2
    have a3 := blk_cell xa 3
    have a4 := blk_cell xa 4
    have a5 := blk_cell xa 5
    have a6 := blk_cell xa 6
    have a7 := blk_cell xa 7
    have a8 := blk_cell xa 8
    have a9 := blk_cell xa 9
    have a10 := blk_cell xa 10
    have a11 := blk_cell xa 11
    have b0 := blk_cell xb 0
    have b1 := blk_cell xb 1
    have b2 := blk_cell xb 2
    have b3 := blk_cell xb 3
    have b4 := blk_cell xb 4
    have b5 := blk_cell xb 5
    have b6 := blk_cell xb 6
    have b7 := blk_cell xb 7
    have b8 := blk_cell xb 8
    have b9 := blk_cell xb 9
    have b10 := blk_cell xb 10
    have b11 := blk_cell xb 11
    clear h
    go_wp2_with fail
    refine (D1.out _).mono ?_
    rintro e w5 ⟨rfl, h⟩
    have hb := hb.trans (h.mono hb.size)
    have xa := (h.block _ (blk_lt xa)).trans xa
    have xb := (h.block _ (blk_lt xb)).trans xb
    clear g0 g1 a0 a1 a2 a3 a4 a5 a6 a7 a8 a9 a10 a11 b0 b1 b2 b3 b4 b5 b6 b7 b8 b9 b10 b11
    have g0 := blk_lt xa
    have g1 := blk_lt xb
    have a0 := blk_cell xa 0
    have a1 := blk_cell xa 1
    have a2 := blk_cell xa 2
    have a3 := blk_cell xa 3
    have a4 := blk_cell xa 4
    have a5 := blk_cell xa 5
    have a6 := blk_cell xa 6
    have a7 := blk_cell xa 7
    have a8 := blk_cell xa 8
    have a9 := blk_cell xa 9
    have a10 := blk_cell xa 10
    have a11 := blk_cell xa 11
    have b0 := blk_cell xb 0
    have b1 := blk_cell xb 1
    have b2 := blk_cell xb 2
    have b3 := blk_cell xb 3
    have b4 := blk_cell xb 4
    have b5 := blk_cell xb 5
    have b6 := blk_cell xb 6
    have b7 := blk_cell xb 7
    have b8 := blk_cell xb 8
    have b9 := blk_cell xb 9
    have b10 := blk_cell xb 10
    have b11 := blk_cell xb 11
    clear h
    go_wp2_with fail
    refine (D2.out _).mono ?_
    rintro e w6 ⟨rfl, h⟩
    have hb := (hb.alloc hb.size (.cells #[.int .u8 kd, .int .u64 x, .int .u32 pg, .int .u16 sl, .string y, .string k, .bool m, .int .u64 t, .int .u32 p, .int .u16 s, .string v, .int .i64 d] 58)).trans (h.mono (by simp; exact Nat.le_succ_of_le hb.size))
    clear h
    clear xa xb g0 g1 a0 a1 a2 a3 a4 a5 a6 a7 a8 a9 a10 a11 b0 b1 b2 b3 b4 b5 b6 b7 b8 b9 b10 b11
    go_wp2_with fail
    refine (G2.out _).mono ?_
    rintro e w7 ⟨rfl, h⟩
    have hb := (hb.alloc hb.size (.cells #[.int .u8 kd2, .int .u64 x2, .int .u32 pg2, .int .u16 sl2, .string y2, .string k2, .bool m2, .int .u64 t2, .int .u32 p2, .int .u16 s2, .string v2, .int .i64 d2] 58)).trans (h.mono (by simp; exact Nat.le_succ_of_le hb.size))
    clear h
    go_wp2_with fail
    refine (works21 _).mono ?_
    rintro e w9 ⟨rfl, h⟩
    have hb := hb.trans (h.mono hb.size)
    clear h
    go_wp2_with fail
    go_ret
    exact ⟨rfl, hb⟩
  | false =>
    go_enter Try.func12, Try.ntmps12
    go_wp2_with fail
    refine (H1.out _).mono ?_
    rintro e w1 ⟨rfl, h⟩
    have z1 : (w.alloc (.cells #[.int .u8 kd, .int .u64 x, .int .u32 pg, .int .u16 sl, .string y, .string k, .bool m, .int .u64 t, .int .u32 p, .int .u16 s, .string v, .int .i64 d] 58)).heap.size = w.heap.size + 1 := by simp
    have ga := heap_keep (o := .cells #[.int .u8 kd', .int .u64 x', .int .u32 pg', .int .u16 sl', .string y', .string k', .bool m', .int .u64 t', .int .u32 p', .int .u16 s', .string v', .int .i64 d'] 58) (heap_alloc_new w (.cells #[.int .u8 kd, .int .u64 x, .int .u32 pg, .int .u16 sl, .string y, .string k, .bool m, .int .u64 t, .int .u32 p, .int .u16 s, .string v, .int .i64 d] 58))
    have gb := heap_alloc_new (w.alloc (.cells #[.int .u8 kd, .int .u64 x, .int .u32 pg, .int .u16 sl, .string y, .string k, .bool m, .int .u64 t, .int .u32 p, .int .u16 s, .string v, .int .i64 d] 58)) (.cells #[.int .u8 kd', .int .u64 x', .int .u32 pg', .int .u16 sl', .string y', .string k', .bool m', .int .u64 t', .int .u32 p', .int .u16 s', .string v', .int .i64 d'] 58)
    rw [z1] at gb
    have xa := (h.block _ (blk_lt ga)).trans ga
    have xb := (h.block _ (blk_lt gb)).trans gb
    have hb := (((Below.refl _ _).alloc (Nat.le_refl _) (.cells #[.int .u8 kd, .int .u64 x, .int .u32 pg, .int .u16 sl, .string y, .string k, .bool m, .int .u64 t, .int .u32 p, .int .u16 s, .string v, .int .i64 d] 58)).alloc (by simp) (.cells #[.int .u8 kd', .int .u64 x', .int .u32 pg', .int .u16 sl', .string y', .string k', .bool m', .int .u64 t', .int .u32 p', .int .u16 s', .string v', .int .i64 d'] 58)).trans (h.mono (by simp; omega))
    have g0 := blk_lt xa
    have g1 := blk_lt xb
    clear h H1 z1 ga gb
    have a0 := blk_cell xa 0
    have a1 := blk_cell xa 1
    have a2 := blk_cell xa 2
    have a3 := blk_cell xa 3
    have a4 := blk_cell xa 4
    have a5 := blk_cell xa 5
    have a6 := blk_cell xa 6
    have a7 := blk_cell xa 7
    have a8 := blk_cell xa 8
    have a9 := blk_cell xa 9
    have a10 := blk_cell xa 10
    have a11 := blk_cell xa 11
    have b0 := blk_cell xb 0
    have b1 := blk_cell xb 1
    have b2 := blk_cell xb 2
    have b3 := blk_cell xb 3
    have b4 := blk_cell xb 4
    have b5 := blk_cell xb 5
    have b6 := blk_cell xb 6
    have b7 := blk_cell xb 7
    have b8 := blk_cell xb 8
    have b9 := blk_cell xb 9
    have b10 := blk_cell xb 10
    have b11 := blk_cell xb 11
    go_wp2_with fail
    refine (H2.out _).mono ?_
    rintro e w2 ⟨rfl, h⟩
    have hb := hb.trans (h.mono hb.size)
    have xa := (h.block _ (blk_lt xa)).trans xa
    have xb := (h.block _ (blk_lt xb)).trans xb
    clear g0 g1 a0 a1 a2 a3 a4 a5 a6 a7 a8 a9 a10 a11 b0 b1 b2 b3 b4 b5 b6 b7 b8 b9 b10 b11
    have g0 := blk_lt xa
    have g1 := blk_lt xb
    have a0 := blk_cell xa 0
    have a1 := blk_cell xa 1
    have a2 := blk_cell xa 2
    have a3 := blk_cell xa 3
    have a4 := blk_cell xa 4
    have a5 := blk_cell xa 5
    have a6 := blk_cell xa 6
    have a7 := blk_cell xa 7
    have a8 := blk_cell xa 8
    have a9 := blk_cell xa 9
    have a10 := blk_cell xa 10
    have a11 := blk_cell xa 11
    have b0 := blk_cell xb 0
    have b1 := blk_cell xb 1
    have b2 := blk_cell xb 2
    have b3 := blk_cell xb 3
    have b4 := blk_cell xb 4
    have b5 := blk_cell xb 5
    have b6 := blk_cell xb 6
    have b7 := blk_cell xb 7
    have b8 := blk_cell xb 8
    have b9 := blk_cell xb 9
    have b10 := blk_cell xb 10
    have b11 := blk_cell xb 11
    clear h
    go_wp2_with fail
    refine (E1.out _).mono ?_
    rintro e w3 ⟨rfl, h⟩
    have hb := hb.trans (h.mono hb.size)
    have xa := (h.block _ (blk_lt xa)).trans xa
    have xb := (h.block _ (blk_lt xb)).trans xb
    clear g0 g1 a0 a1 a2 a3 a4 a5 a6 a7 a8 a9 a10 a11 b0 b1 b2 b3 b4 b5 b6 b7 b8 b9 b10 b11
    have g0 := blk_lt xa
    have g1 := blk_lt xb
    have a0 := blk_cell xa 0
    have a1 := blk_cell xa 1
    have a2 := blk_cell xa 2
    have a3 := blk_cell xa 3
    have a4 := blk_cell xa 4
    have a5 := blk_cell xa 5
    have a6 := blk_cell xa 6
    have a7 := blk_cell xa 7
    have a8 := blk_cell xa 8
    have a9 := blk_cell xa 9
    have a10 := blk_cell xa 10
    have a11 := blk_cell xa 11
    have b0 := blk_cell xb 0
    have b1 := blk_cell xb 1
    have b2 := blk_cell xb 2
    have b3 := blk_cell xb 3
    have b4 := blk_cell xb 4
    have b5 := blk_cell xb 5
    have b6 := blk_cell xb 6
    have b7 := blk_cell xb 7
    have b8 := blk_cell xb 8
    have b9 := blk_cell xb 9
    have b10 := blk_cell xb 10
    have b11 := blk_cell xb 11
    clear h
    go_wp2_with fail
    refine (E2.out _).mono ?_
    rintro e w4 ⟨rfl, h⟩
    have hb := hb.trans (h.mono hb.size)
    have xa := (h.block _ (blk_lt xa)).trans xa
    have xb := (h.block _ (blk_lt xb)).trans xb
    clear g0 g1 a0 a1 a2 a3 a4 a5 a6 a7 a8 a9 a10 a11 b0 b1 b2 b3 b4 b5 b6 b7 b8 b9 b10 b11
    have g0 := blk_lt xa
    have g1 := blk_lt xb
    have a0 := blk_cell xa 0
    have a1 := blk_cell xa 1
    have a2 := blk_cell xa 2
    have a3 := blk_cell xa 3
    have a4 := blk_cell xa 4
    have a5 := blk_cell xa 5
    have a6 := blk_cell xa 6
    have a7 := blk_cell xa 7
    have a8 := blk_cell xa 8
    have a9 := blk_cell xa 9
    have a10 := blk_cell xa 10
    have a11 := blk_cell xa 11
    have b0 := blk_cell xb 0
    have b1 := blk_cell xb 1
    have b2 := blk_cell xb 2
    have b3 := blk_cell xb 3
    have b4 := blk_cell xb 4
    have b5 := blk_cell xb 5
    have b6 := blk_cell xb 6
    have b7 := blk_cell xb 7
    have b8 := blk_cell xb 8
    have b9 := blk_cell xb 9
    have b10 := blk_cell xb 10
    have b11 := blk_cell xb 11
    clear h
    go_wp2_with fail
    refine (D1.out _).mono ?_
    rintro e w5 ⟨rfl, h⟩
    have hb := hb.trans (h.mono hb.size)
    have xa := (h.block _ (blk_lt xa)).trans xa
    have xb := (h.block _ (blk_lt xb)).trans xb
    clear g0 g1 a0 a1 a2 a3 a4 a5 a6 a7 a8 a9 a10 a11 b0 b1 b2 b3 b4 b5 b6 b7 b8 b9 b10 b11
    have g0 := blk_lt xa
    have g1 := blk_lt xb
    have a0 := blk_cell xa 0
    have a1 := blk_cell xa 1
    have a2 := blk_cell xa 2
    have a3 := blk_cell xa 3
    have a4 := blk_cell xa 4
    have a5 := blk_cell xa 5
    have a6 := blk_cell xa 6
    have a7 := blk_cell xa 7
    have a8 := blk_cell xa 8
    have a9 := blk_cell xa 9
    have a10 := blk_cell xa 10
    have a11 := blk_cell xa 11
    have b0 := blk_cell xb 0
    have b1 := blk_cell xb 1
    have b2 := blk_cell xb 2
    have b3 := blk_cell xb 3
    have b4 := blk_cell xb 4
    have b5 := blk_cell xb 5
    have b6 := blk_cell xb 6
    have b7 := blk_cell xb 7
    have b8 := blk_cell xb 8
    have b9 := blk_cell xb 9
    have b10 := blk_cell xb 10
    have b11 := blk_cell xb 11
    clear h
    go_wp2_with fail
    refine (D2.out _).mono ?_
    rintro e w6 ⟨rfl, h⟩
    have hb := (hb.alloc hb.size (.cells #[.int .u8 kd, .int .u64 x, .int .u32 pg, .int .u16 sl, .string y, .string k, .bool m, .int .u64 t, .int .u32 p, .int .u16 s, .string v, .int .i64 d] 58)).trans (h.mono (by simp; exact Nat.le_succ_of_le hb.size))
    clear h
    clear xa xb g0 g1 a0 a1 a2 a3 a4 a5 a6 a7 a8 a9 a10 a11 b0 b1 b2 b3 b4 b5 b6 b7 b8 b9 b10 b11
    go_wp2_with fail
    refine (G2.out _).mono ?_
    rintro e w7 ⟨rfl, h⟩
    have hb := (hb.alloc hb.size (.cells #[.int .u8 kd2, .int .u64 x2, .int .u32 pg2, .int .u16 sl2, .string y2, .string k2, .bool m2, .int .u64 t2, .int .u32 p2, .int .u16 s2, .string v2, .int .i64 d2] 58)).trans (h.mono (by simp; exact Nat.le_succ_of_le hb.size))
    clear h
    go_wp2_with fail
    refine (works21 _).mono ?_
    rintro e w9 ⟨rfl, h⟩
    have hb := hb.trans (h.mono hb.size)
    clear h
    go_wp2_with fail
    go_ret
    exact ⟨rfl, hb⟩

end Go.Proofs.Ytahaikfijegknaa
