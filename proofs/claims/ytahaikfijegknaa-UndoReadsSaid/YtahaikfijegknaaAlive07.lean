/- The fixed examples of chapter 7: they hold. And when two rows, two entries are equal. -/
import Derived.Test.YtahaikfijegknaaRows
import Derived.Test.YtahaikfijegknaaRefEntDecode
import Derived.WalkKit
import Derived.WalkLawsBesides
import Derived.WalkSpells
import Derived.LoopTactic
import Derived.WalkMore
import Derived.LoopN
import Derived.Laws.BitsAllLaws
import Derived.Laws.IdiomStrings
import Derived.BigQuiet
import Derived.Deep.QuietTactic
import Derived.Deep.DeepCutAuto
import Derived.Deep.RegionHeld3
import Derived.Deep.DrawnRows
import Derived.Lib.Hide
import Derived.Outline
import Derived.Deep.DeepMust
import Derived.Handy
namespace Go.Proofs.Ytahaikfijegknaa
open Go.RowKit
set_option linter.unusedVariables false
set_option linter.unusedSimpArgs false

theorem row7 : (encRow [97] [120, 121] false 0 0 0 1) = [0, 0, 0, 0, 0, 0, 0, 0, 0, 0, 0, 0, 0, 0, 0, 1, 97, 2, 120, 121, 0] := by decide +kernel
theorem dec7 : decV [0, 0, 0, 0, 0, 0, 0, 0, 0, 0, 0, 0, 0, 0, 0, 1, 97, 2, 120, 121, 0] =
    .tuple #[.agg #[.string ⟨#[97]⟩, .bool false, .int .u64 0, .int .u32 0, .int .u16 0, .string ⟨#[120, 121]⟩, .int .i64 1], .int .i64 0] := by kernel_rfl
theorem ent7 : encEnt [107] 258 = [0, 0, 1, 2, 107] := by decide +kernel
theorem dent7 : decEntV [0, 0, 1, 2, 107] = .tuple #[.agg #[.string ⟨#[107]⟩, .int .u32 258], .int .i64 0] := by kernel_rfl
theorem dent7' : decEntV [0, 0, 0, 0] = .tuple #[.agg #[.string ⟨#[]⟩, .int .u32 0], .int .i64 7] := by kernel_rfl
theorem eq7 (w : World) : (binOp .eql 34 (.agg #[.string ⟨#[97]⟩, .bool false, .int .u64 0, .int .u32 0, .int .u16 0, .string ⟨#[120, 121]⟩, .int .i64 1]) (.agg #[.string ⟨#[97]⟩, .bool false, .int .u64 0, .int .u32 0, .int .u16 0, .string ⟨#[120, 121]⟩, .int .i64 1])).run Try.prog w = .ok (.bool true) w := by kernel_rfl

theorem eqEnt (k k' : ByteArray) (c c' : Int) (w : World) : (binOp .eql 47 (.agg #[.string k, .int .u32 c]) (.agg #[.string k', .int .u32 c'])).run Try.prog w = .ok (.bool (k.toList == k'.toList && c == c')) w := by
  simp [go_sem]
  by_cases h1 : k.toList = k'.toList <;> by_cases h2 : c = c' <;> simp [h1, h2]

theorem eqRow (k k' v v' : ByteArray) (m m' : Bool) (t t' p p' s s' d d' : Int) (w : World) :
    (binOp .eql 34 (.agg #[.string k, .bool m, .int .u64 t, .int .u32 p, .int .u16 s, .string v, .int .i64 d]) (.agg #[.string k', .bool m', .int .u64 t', .int .u32 p', .int .u16 s', .string v', .int .i64 d'])).run Try.prog w =
      .ok (.bool (k.toList == k'.toList && (m == m' && (t == t' && ((p == p' && s == s') && (v.toList == v'.toList && d == d')))))) w := by
  simp [go_sem]
  by_cases h1 : k.toList = k'.toList <;> by_cases h2 : m = m' <;> by_cases h3 : t = t' <;> by_cases h4 : p = p' <;> by_cases h5 : s = s' <;> by_cases h6 : v.toList = v'.toList <;> by_cases h7 : d = d' <;> simp [h1, h2, h3, h4, h5, h6, h7]

set_option maxHeartbeats 2000000 in
set_option maxRecDepth 100000 in
theorem alive07 (w : World) : Calls Try.prog 24 #[] w fun e w' => e = .returned (.bool true) ∧ Below w.heap.size w w' := by
  have e1 : ∀ W, Calls Try.prog 25 #[.agg #[.string ⟨#[97]⟩, .bool false, .int .u64 0, .int .u32 0, .int .u16 0, .string ⟨#[120, 121]⟩, .int .i64 1]] W fun e w' => e = .returned (.tuple #[.string ⟨#[0, 0, 0, 0, 0, 0, 0, 0, 0, 0, 0, 0, 0, 0, 0, 1, 97, 2, 120, 121, 0]⟩, .int .i64 0]) ∧ Below W.heap.size W w' := by
    intro W
    have := rowEncode_yes ⟨#[97]⟩ ⟨#[120, 121]⟩ false 0 0 0 1 W (by decide) (by decide) (by decide) (by decide) (by decide +kernel)
    rw [show (ByteArray.mk #[97]).data.toList = [97] from rfl, show (ByteArray.mk #[120, 121]).data.toList = [120, 121] from rfl, row7] at this
    exact this
  have e2 : ∀ W, Calls Try.prog 25 #[.agg #[.string ⟨#[]⟩, .bool false, .int .u64 0, .int .u32 0, .int .u16 0, .string ⟨#[]⟩, .int .i64 0]] W fun e w' => e = .returned (.tuple #[.string ⟨#[]⟩, .int .i64 2]) ∧ Below W.heap.size W w' :=
    fun W => rowEncode_no ⟨#[]⟩ ⟨#[]⟩ false 0 0 0 0 W (by decide) (by decide) (by decide +kernel)
  have e3 : ∀ W, Calls Try.prog 30 #[.string ⟨#[0, 0, 0, 0, 0, 0, 0, 0, 0, 0, 0, 0, 0, 0, 0, 1, 97, 2, 120, 121, 0]⟩] W fun e w' => e = .returned (.tuple #[.agg #[.string ⟨#[97]⟩, .bool false, .int .u64 0, .int .u32 0, .int .u16 0, .string ⟨#[120, 121]⟩, .int .i64 1], .int .i64 0]) ∧ Below W.heap.size W w' := by
    intro W
    rw [← dec7]
    exact rowDecode_any ⟨#[0, 0, 0, 0, 0, 0, 0, 0, 0, 0, 0, 0, 0, 0, 0, 1, 97, 2, 120, 121, 0]⟩ W (by decide)
  have e4 : ∀ W, Calls Try.prog 34 #[.agg #[.string ⟨#[107]⟩, .int .u32 258]] W fun e w' => e = .returned (.tuple #[.string ⟨#[0, 0, 1, 2, 107]⟩, .int .i64 0]) ∧ Below W.heap.size W w' := by
    intro W
    have := entEncode_yes ⟨#[107]⟩ 258 W (by decide +kernel)
    rw [show (ByteArray.mk #[107]).data.toList = [107] from rfl, ent7] at this
    exact this
  have e5 : ∀ W, Calls Try.prog 32 #[.string ⟨#[0, 0, 1, 2, 107]⟩] W fun e w' => e = .returned (.tuple #[.agg #[.string ⟨#[107]⟩, .int .u32 258], .int .i64 0]) ∧ Below W.heap.size W w' := by
    intro W
    rw [← dent7]
    exact entDecode_any ⟨#[0, 0, 1, 2, 107]⟩ W (by decide)
  have e6 : ∀ W, Calls Try.prog 32 #[.string ⟨#[0, 0, 0, 0]⟩] W fun e w' => e = .returned (.tuple #[.agg #[.string ⟨#[]⟩, .int .u32 0], .int .i64 7]) ∧ Below W.heap.size W w' := by
    intro W
    rw [← dent7']
    exact entDecode_any ⟨#[0, 0, 0, 0]⟩ W (by decide)
  have e7 : ∀ W, Calls Try.prog 29 #[.agg #[.string ⟨#[97]⟩, .bool false, .int .u64 0, .int .u32 0, .int .u16 0, .string ⟨#[120, 121]⟩, .int .i64 1]] W fun e w' => e = .returned (.int .i64 21) ∧ Below W.heap.size W w' :=
    fun W => rowSize_yes ⟨#[97]⟩ ⟨#[120, 121]⟩ false 0 0 0 1 W (by decide) (by decide) (by decide +kernel)
  have E1 := Lib.hid e1
  have E2 := Lib.hid e2
  have E3 := Lib.hid e3
  have E4 := Lib.hid e4
  have E5 := Lib.hid e5
  have E6 := Lib.hid e6
  have E7 := Lib.hid e7
  clear e1 e2 e3 e4 e5 e6 e7
  have hsl : ByteArray.extract ⟨#[0, 0, 0, 0, 0, 0, 0, 0, 0, 0, 0, 0, 0, 0, 0, 1, 97, 2, 120, 121, 0]⟩ 14 21 = ⟨#[0, 1, 97, 2, 120, 121, 0]⟩ := by decide +kernel
  go_enter Try.func24, Try.ntmps24
  go_wp2_with fail
  refine (E1.out _).mono ?_
  rintro e w1 ⟨rfl, h1⟩
  have b1 := (h1.block _ (by simp)).trans (heap_alloc_new w (.cells #[.string ⟨#[97]⟩, .bool false, .int .u64 0, .int .u32 0, .int .u16 0, .string ⟨#[120, 121]⟩, .int .i64 1] 34))
  have hw1 : Below w.heap.size w w1 := ((Below.refl _ _).alloc (Nat.le_refl _) _).trans (h1.mono (by simp))
  clear h1
  generalize hg : w.heap.size = g at b1 hw1 ⊢
  have Hg := Lib.hid hg
  clear hg
  have hgl := blk_lt b1
  go_wp2_with fail
  refine (E3.out _).mono ?_
  rintro e w2 ⟨rfl, h2⟩
  have b2 := (h2.block _ (blk_lt b1)).trans b1
  have hw2 := hw1.trans (h2.mono (by omega))
  have hgl2 := blk_lt b2
  clear h2 b1 hw1 hgl
  go_wp2_with fail
  refine (E2.out _).mono ?_
  rintro e w3 ⟨rfl, h3⟩
  have b3 := (h3.block _ (blk_lt (heap_keep b2))).trans (heap_keep b2)
  have d3 := (h3.block _ (by simp)).trans (heap_alloc_new w2 (.cells #[.string ⟨#[97]⟩, .bool false, .int .u64 0, .int .u32 0, .int .u16 0, .string ⟨#[120, 121]⟩, .int .i64 1] 34))
  have hw3 := (hw2.alloc (by omega) _).trans (h3.mono (by simp; omega))
  clear h3 b2 hw2
  generalize w2.heap.size = q at hgl2 d3 ⊢
  go_wp2_with fail
  refine (E4.out _).mono ?_
  rintro e w4 ⟨rfl, h4⟩
  have hgl3 := blk_lt b3
  have b4 := (h4.block _ (blk_lt b3)).trans b3
  have d4 := (h4.block _ (blk_lt d3)).trans d3
  have hw4 := hw3.trans (h4.mono (by omega))
  clear h4 b3 d3 hw3
  go_wp2_with fail
  refine (E5.out _).mono ?_
  rintro e w5 ⟨rfl, h5⟩
  have hgl4 := blk_lt b4
  have b5 := (h5.block _ (blk_lt b4)).trans b4
  have d5 := (h5.block _ (blk_lt d4)).trans d4
  have hw5 := hw4.trans (h5.mono (by omega))
  clear h5 b4 d4 hw4
  have hgl5 := blk_lt b5
  go_wp2_with fail
  refine (E6.out _).mono ?_
  rintro e w6 ⟨rfl, h6⟩
  have b6 := (h6.block _ (blk_lt (heap_keep b5))).trans (heap_keep b5)
  have d6 := (h6.block _ (blk_lt (heap_keep d5))).trans (heap_keep d5)
  have x6 := (h6.block _ (by simp)).trans (heap_alloc_new w5 (.cells #[.string ⟨#[107]⟩, .int .u32 258] 47))
  have hw6 := (hw5.alloc (by omega) _).trans (h6.mono (by simp; omega))
  clear h6 b5 d5 hw5
  generalize w5.heap.size = y at hgl5 x6 ⊢
  have hb6 := blk_lt b6
  have hd6 := blk_lt d6
  have hx6 := blk_lt x6
  have p0 := blk_cell b6 0
  have p1 := blk_cell b6 1
  have p2 := blk_cell b6 2
  have p3 := blk_cell b6 3
  have p4 := blk_cell b6 4
  have p5 := blk_cell b6 5
  have p6 := blk_cell b6 6
  have r0 := blk_cell d6 0
  have r1 := blk_cell d6 1
  have r2 := blk_cell d6 2
  have r3 := blk_cell d6 3
  have r4 := blk_cell d6 4
  have r5 := blk_cell d6 5
  have r6 := blk_cell d6 6
  go_wp2_with fail
  refine (E7.out _).mono ?_
  rintro e w7 ⟨rfl, h7⟩
  have x7 := (h7.block _ (blk_lt (heap_keep x6))).trans (heap_keep x6)
  have hw7 := (hw6.alloc (by omega) _).trans (h7.mono (by simp; omega))
  have z0 := blk_cell x7 0
  have z1 := blk_cell x7 1
  clear h7 b6 d6 x6 hw6
  go_wp2_with fail
  go_ret
  exact ⟨rfl, by rw [Hg.out]; exact hw7⟩

end Go.Proofs.Ytahaikfijegknaa
