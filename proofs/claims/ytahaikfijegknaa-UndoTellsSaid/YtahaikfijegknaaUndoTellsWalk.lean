/- UndoTells: the walk -/
import Derived.Test.YtahaikfijegknaaRows
import Derived.Test.YtahaikfijegknaaUndoWorks
import Derived.Test.YtahaikfijegknaaUndoRefEncode
import Derived.Test.YtahaikfijegknaaUndoRefPlain
import Derived.WalkKit
import Derived.WalkLawsBesides
import Derived.WalkSpells
import Derived.LoopTactic
import Derived.WalkMore
import Derived.LoopN
import Derived.Laws.BitsAllLaws
import Derived.Laws.IdiomStrings
import Derived.BigQuiet
import Derived.Deep.QuietTactic
import Derived.Deep.DeepCutAuto
import Derived.Deep.RegionHeld3
import Derived.Deep.DrawnRows
import Derived.Lib.Hide
import Derived.Outline
import Derived.Deep.DeepMust
import Derived.Handy
namespace Go.Proofs.Ytahaikfijegknaa
open Go.RowKit
set_option linter.unusedVariables false
set_option linter.unusedSimpArgs false

theorem undoTells_heavy (kd x pg sl : Nat) (y k v : ByteArray) (m : Bool) (t p s : Nat) (d : Int) (w : World) (hy : y.size ≤ maxLen) (hk : k.size ≤ maxLen) (hv : v.size ≤ maxLen) (hl : 1024 < wrap64 (wrap64 ((y.size : Int) + k.size) + v.size)) :
    Calls Try.prog 10 #[.agg #[.int .u8 kd, .int .u64 x, .int .u32 pg, .int .u16 sl, .string y, .string k, .bool m, .int .u64 t, .int .u32 p, .int .u16 s, .string v, .int .i64 d]] w fun e w' => e = .returned (.bool true) ∧ Below w.heap.size w w' := by
  have H := Lib.hid fun W => heavy_any kd x pg sl y k v m t p s d W hy hk hv
  rw [decide_eq_true hl] at H
  clear hl hy hk hv
  go_enter Try.func10, Try.ntmps10
  go_wp2_with fail
  refine (H.out _).mono ?_
  rintro e w1 ⟨rfl, h1⟩
  have hb := ((Below.refl _ _).alloc (Nat.le_refl _) (.cells #[.int .u8 kd, .int .u64 x, .int .u32 pg, .int .u16 sl, .string y, .string k, .bool m, .int .u64 t, .int .u32 p, .int .u16 s, .string v, .int .i64 d] 58)).trans (h1.mono (by simp))
  clear h1
  go_wp2_with fail
  refine (works21 _).mono ?_
  rintro e w2 ⟨rfl, h2⟩
  have hb := hb.trans (h2.mono hb.size)
  go_wp2_with fail
  go_ret
  exact ⟨rfl, hb⟩

set_option maxHeartbeats 4000000 in
set_option maxRecDepth 100000 in
theorem undoTells_true_put (kd x pg sl : Nat) (y k v : ByteArray) (m : Bool) (t p s : Nat) (d : Int) (w : World) (hy : y.size ≤ maxLen) (hk : k.size ≤ maxLen) (hv : v.size ≤ maxLen) (S : ByteArray) (hl : ¬ 1024 < wrap64 (wrap64 ((y.size : Int) + k.size) + v.size)) (hm : mayUndo kd x pg sl y k m t p s v d = true) (hk2 : kd = 2)
    (E : Hid (∀ W, Calls Try.prog 38 #[.agg #[.int .u8 kd, .int .u64 x, .int .u32 pg, .int .u16 sl, .string y, .string k, .bool m, .int .u64 t, .int .u32 p, .int .u16 s, .string v, .int .i64 d]] W fun e w' => e = .returned (.tuple #[.string S, .int .i64 0]) ∧ Below W.heap.size W w'))
    (E' : Hid (∀ W, Calls Try.prog 42 #[.agg #[.int .u8 kd, .int .u64 x, .int .u32 pg, .int .u16 sl, .string y, .string k, .bool m, .int .u64 t, .int .u32 p, .int .u16 s, .string v, .int .i64 d]] W fun e w' => e = .returned (.string S) ∧ Below W.heap.size W w')) :
    Calls Try.prog 10 #[.agg #[.int .u8 kd, .int .u64 x, .int .u32 pg, .int .u16 sl, .string y, .string k, .bool m, .int .u64 t, .int .u32 p, .int .u16 s, .string v, .int .i64 d]] w fun e w' => e = .returned (.bool true) ∧ Below w.heap.size w w' := by
  have H := Lib.hid fun W => heavy_any kd x pg sl y k v m t p s d W hy hk hv
  have M := Lib.hid fun W => undoMay_any kd x pg sl y k v m t p s d W hy hk hv
  have M' := Lib.hid fun W => refUndoMay_any kd x pg sl y k v m t p s d W hy hk hv
  have BB := Lib.hid fun W => undoBefore_any kd x pg sl y k v m t p s d W
  rw [decide_eq_false hl] at H
  rw [hm] at M M'
  rw [if_pos hk2] at BB
  have q1 : ∀ W, (binOp .eql 34 (.agg #[.string k, .bool m, .int .u64 t, .int .u32 p, .int .u16 s, .string v, .int .i64 d]) (.agg #[.string k, .bool m, .int .u64 t, .int .u32 p, .int .u16 s, .string v, .int .i64 d])).run Try.prog W = .ok (.bool true) W := by
    intro W
    rw [eqRow]; simp
  have q2 : ∀ W, (binOp .neq 34 (.agg #[.string k, .bool m, .int .u64 t, .int .u32 p, .int .u16 s, .string v, .int .i64 d]) (.agg #[.string k, .bool m, .int .u64 t, .int .u32 p, .int .u16 s, .string v, .int .i64 d])).run Try.prog W = .ok (.bool false) W := by
    intro W
    simp [go_sem]
  have k0 : ((kd : Int) == 2) = true := by subst hk2; rfl
  have s0 : (S.toList == S.toList) = true := by simp
  clear hl hm hk2 hy hk hv
  go_enter Try.func10, Try.ntmps10
  go_wp2_with fail
  refine (H.out _).mono ?_
  rintro e w1 ⟨rfl, h1⟩
  have x1 := (h1.block _ (by simp)).trans (heap_alloc_new w (.cells #[.int .u8 kd, .int .u64 x, .int .u32 pg, .int .u16 sl, .string y, .string k, .bool m, .int .u64 t, .int .u32 p, .int .u16 s, .string v, .int .i64 d] 58))
  have hb := ((Below.refl _ _).alloc (Nat.le_refl _) (.cells #[.int .u8 kd, .int .u64 x, .int .u32 pg, .int .u16 sl, .string y, .string k, .bool m, .int .u64 t, .int .u32 p, .int .u16 s, .string v, .int .i64 d] 58)).trans (h1.mono (by simp))
  clear h1 H
  have gz : w.heap.size < w1.heap.size := blk_lt x1
  have c0 := blk_cell x1 0
  have c1 := blk_cell x1 1
  have c2 := blk_cell x1 2
  have c3 := blk_cell x1 3
  have c4 := blk_cell x1 4
  have c5 := blk_cell x1 5
  have c6 := blk_cell x1 6
  have c7 := blk_cell x1 7
  have c8 := blk_cell x1 8
  have c9 := blk_cell x1 9
  have c10 := blk_cell x1 10
  have c11 := blk_cell x1 11
  go_wp2_with fail
  refine (E.out _).mono ?_
  rintro e w2 ⟨rfl, h2⟩
  have hb := hb.trans (h2.mono hb.size)
  have x2 := (h2.block _ (blk_lt x1)).trans x1
  clear h2 x1 E c0 c1 c2 c3 c4 c5 c6 c7 c8 c9 c10 c11
  have c0 := blk_cell x2 0
  have c1 := blk_cell x2 1
  have c2 := blk_cell x2 2
  have c3 := blk_cell x2 3
  have c4 := blk_cell x2 4
  have c5 := blk_cell x2 5
  have c6 := blk_cell x2 6
  have c7 := blk_cell x2 7
  have c8 := blk_cell x2 8
  have c9 := blk_cell x2 9
  have c10 := blk_cell x2 10
  have c11 := blk_cell x2 11
  go_wp2_with fail
  refine (M'.out _).mono ?_
  rintro e w3 ⟨rfl, h3⟩
  have hb := hb.trans (h3.mono hb.size)
  have x3 := (h3.block _ (blk_lt x2)).trans x2
  clear h3 x2 M' c0 c1 c2 c3 c4 c5 c6 c7 c8 c9 c10 c11
  have c0 := blk_cell x3 0
  have c1 := blk_cell x3 1
  have c2 := blk_cell x3 2
  have c3 := blk_cell x3 3
  have c4 := blk_cell x3 4
  have c5 := blk_cell x3 5
  have c6 := blk_cell x3 6
  have c7 := blk_cell x3 7
  have c8 := blk_cell x3 8
  have c9 := blk_cell x3 9
  have c10 := blk_cell x3 10
  have c11 := blk_cell x3 11
  go_wp2_with fail
  refine (BB.out _).mono ?_
  rintro e w4 ⟨rfl, h4⟩
  have hb := hb.trans (h4.mono hb.size)
  have x4 := (h4.block _ (blk_lt x3)).trans x3
  clear h4 x3 BB c0 c1 c2 c3 c4 c5 c6 c7 c8 c9 c10 c11
  have c0 := blk_cell x4 0
  have c1 := blk_cell x4 1
  have c2 := blk_cell x4 2
  have c3 := blk_cell x4 3
  have c4 := blk_cell x4 4
  have c5 := blk_cell x4 5
  have c6 := blk_cell x4 6
  have c7 := blk_cell x4 7
  have c8 := blk_cell x4 8
  have c9 := blk_cell x4 9
  have c10 := blk_cell x4 10
  have c11 := blk_cell x4 11
  have g0 := blk_lt x4
  have HX4 := Lib.hid x4
  clear x4 gz
  go_wp2_with fail
  refine (M.out _).mono ?_
  rintro e w5 ⟨rfl, h5⟩
  have x5 := (h5.block _ (blk_lt (heap_keep (o := (.cells #[.string k, .bool m, .int .u64 t, .int .u32 p, .int .u16 s, .string v, .int .i64 d] 34)) HX4.out))).trans (heap_keep (o := (.cells #[.string k, .bool m, .int .u64 t, .int .u32 p, .int .u16 s, .string v, .int .i64 d] 34)) HX4.out)
  have hb := (hb.alloc hb.size (.cells #[.string k, .bool m, .int .u64 t, .int .u32 p, .int .u16 s, .string v, .int .i64 d] 34)).trans (h5.mono (by simp; exact Nat.le_succ_of_le hb.size))
  clear h5 g0 HX4 M c0 c1 c2 c3 c4 c5 c6 c7 c8 c9 c10 c11
  have c0 := blk_cell x5 0
  have c1 := blk_cell x5 1
  have c2 := blk_cell x5 2
  have c3 := blk_cell x5 3
  have c4 := blk_cell x5 4
  have c5 := blk_cell x5 5
  have c6 := blk_cell x5 6
  have c7 := blk_cell x5 7
  have c8 := blk_cell x5 8
  have c9 := blk_cell x5 9
  have c10 := blk_cell x5 10
  have c11 := blk_cell x5 11
  go_wp2_with fail
  refine (E'.out _).mono ?_
  rintro e w6 ⟨rfl, h6⟩
  have hb := hb.trans (h6.mono hb.size)
  clear h6 x5 E' c0 c1 c2 c3 c4 c5 c6 c7 c8 c9 c10 c11
  go_wp2_with fail
  refine (works21 _).mono ?_
  rintro e w7 ⟨rfl, h7⟩
  have hb := hb.trans (h7.mono hb.size)
  go_wp2_with fail
  go_ret
  exact ⟨rfl, hb⟩

set_option maxHeartbeats 4000000 in
set_option maxRecDepth 100000 in
theorem undoTells_true_new (kd x pg sl : Nat) (y k v : ByteArray) (m : Bool) (t p s : Nat) (d : Int) (w : World) (hy : y.size ≤ maxLen) (hk : k.size ≤ maxLen) (hv : v.size ≤ maxLen) (S : ByteArray) (hl : ¬ 1024 < wrap64 (wrap64 ((y.size : Int) + k.size) + v.size)) (hm : mayUndo kd x pg sl y k m t p s v d = true) (hk2 : kd ≠ 2)
    (E : Hid (∀ W, Calls Try.prog 38 #[.agg #[.int .u8 kd, .int .u64 x, .int .u32 pg, .int .u16 sl, .string y, .string k, .bool m, .int .u64 t, .int .u32 p, .int .u16 s, .string v, .int .i64 d]] W fun e w' => e = .returned (.tuple #[.string S, .int .i64 0]) ∧ Below W.heap.size W w'))
    (E' : Hid (∀ W, Calls Try.prog 42 #[.agg #[.int .u8 kd, .int .u64 x, .int .u32 pg, .int .u16 sl, .string y, .string k, .bool m, .int .u64 t, .int .u32 p, .int .u16 s, .string v, .int .i64 d]] W fun e w' => e = .returned (.string S) ∧ Below W.heap.size W w')) :
    Calls Try.prog 10 #[.agg #[.int .u8 kd, .int .u64 x, .int .u32 pg, .int .u16 sl, .string y, .string k, .bool m, .int .u64 t, .int .u32 p, .int .u16 s, .string v, .int .i64 d]] w fun e w' => e = .returned (.bool true) ∧ Below w.heap.size w w' := by
  have H := Lib.hid fun W => heavy_any kd x pg sl y k v m t p s d W hy hk hv
  have M := Lib.hid fun W => undoMay_any kd x pg sl y k v m t p s d W hy hk hv
  have M' := Lib.hid fun W => refUndoMay_any kd x pg sl y k v m t p s d W hy hk hv
  have BB := Lib.hid fun W => undoBefore_any kd x pg sl y k v m t p s d W
  rw [decide_eq_false hl] at H
  rw [hm] at M M'
  rw [if_neg hk2] at BB
  have q1 : ∀ W, (binOp .eql 34 (.agg #[.string ⟨#[]⟩, .bool false, .int .u64 0, .int .u32 0, .int .u16 0, .string ⟨#[]⟩, .int .i64 0]) (.agg #[.string ⟨#[]⟩, .bool false, .int .u64 0, .int .u32 0, .int .u16 0, .string ⟨#[]⟩, .int .i64 0])).run Try.prog W = .ok (.bool true) W := by
    intro W
    exact (eqRow ⟨#[]⟩ ⟨#[]⟩ ⟨#[]⟩ ⟨#[]⟩ false false 0 0 0 0 0 0 0 0 W).trans (by simp)
  have q2 : ∀ W, (binOp .neq 34 (.agg #[.string ⟨#[]⟩, .bool false, .int .u64 0, .int .u32 0, .int .u16 0, .string ⟨#[]⟩, .int .i64 0]) (.agg #[.string ⟨#[]⟩, .bool false, .int .u64 0, .int .u32 0, .int .u16 0, .string ⟨#[]⟩, .int .i64 0])).run Try.prog W = .ok (.bool false) W := by
    intro W
    simp [go_sem]
  have k0 : ((kd : Int) == 2) = false := by simp; omega
  have s0 : (S.toList == S.toList) = true := by simp
  clear hl hm hk2 hy hk hv
  go_enter Try.func10, Try.ntmps10
  go_wp2_with fail
  refine (H.out _).mono ?_
  rintro e w1 ⟨rfl, h1⟩
  have x1 := (h1.block _ (by simp)).trans (heap_alloc_new w (.cells #[.int .u8 kd, .int .u64 x, .int .u32 pg, .int .u16 sl, .string y, .string k, .bool m, .int .u64 t, .int .u32 p, .int .u16 s, .string v, .int .i64 d] 58))
  have hb := ((Below.refl _ _).alloc (Nat.le_refl _) (.cells #[.int .u8 kd, .int .u64 x, .int .u32 pg, .int .u16 sl, .string y, .string k, .bool m, .int .u64 t, .int .u32 p, .int .u16 s, .string v, .int .i64 d] 58)).trans (h1.mono (by simp))
  clear h1 H
  have gz : w.heap.size < w1.heap.size := blk_lt x1
  have c0 := blk_cell x1 0
  have c1 := blk_cell x1 1
  have c2 := blk_cell x1 2
  have c3 := blk_cell x1 3
  have c4 := blk_cell x1 4
  have c5 := blk_cell x1 5
  have c6 := blk_cell x1 6
  have c7 := blk_cell x1 7
  have c8 := blk_cell x1 8
  have c9 := blk_cell x1 9
  have c10 := blk_cell x1 10
  have c11 := blk_cell x1 11
  go_wp2_with fail
  refine (E.out _).mono ?_
  rintro e w2 ⟨rfl, h2⟩
  have hb := hb.trans (h2.mono hb.size)
  have x2 := (h2.block _ (blk_lt x1)).trans x1
  clear h2 x1 E c0 c1 c2 c3 c4 c5 c6 c7 c8 c9 c10 c11
  have c0 := blk_cell x2 0
  have c1 := blk_cell x2 1
  have c2 := blk_cell x2 2
  have c3 := blk_cell x2 3
  have c4 := blk_cell x2 4
  have c5 := blk_cell x2 5
  have c6 := blk_cell x2 6
  have c7 := blk_cell x2 7
  have c8 := blk_cell x2 8
  have c9 := blk_cell x2 9
  have c10 := blk_cell x2 10
  have c11 := blk_cell x2 11
  go_wp2_with fail
  refine (M'.out _).mono ?_
  rintro e w3 ⟨rfl, h3⟩
  have hb := hb.trans (h3.mono hb.size)
  have x3 := (h3.block _ (blk_lt x2)).trans x2
  clear h3 x2 M' c0 c1 c2 c3 c4 c5 c6 c7 c8 c9 c10 c11
  have c0 := blk_cell x3 0
  have c1 := blk_cell x3 1
  have c2 := blk_cell x3 2
  have c3 := blk_cell x3 3
  have c4 := blk_cell x3 4
  have c5 := blk_cell x3 5
  have c6 := blk_cell x3 6
  have c7 := blk_cell x3 7
  have c8 := blk_cell x3 8
  have c9 := blk_cell x3 9
  have c10 := blk_cell x3 10
  have c11 := blk_cell x3 11
  go_wp2_with fail
  refine (BB.out _).mono ?_
  rintro e w4 ⟨rfl, h4⟩
  have hb := hb.trans (h4.mono hb.size)
  have x4 := (h4.block _ (blk_lt x3)).trans x3
  clear h4 x3 BB c0 c1 c2 c3 c4 c5 c6 c7 c8 c9 c10 c11
  have c0 := blk_cell x4 0
  have c1 := blk_cell x4 1
  have c2 := blk_cell x4 2
  have c3 := blk_cell x4 3
  have c4 := blk_cell x4 4
  have c5 := blk_cell x4 5
  have c6 := blk_cell x4 6
  have c7 := blk_cell x4 7
  have c8 := blk_cell x4 8
  have c9 := blk_cell x4 9
  have c10 := blk_cell x4 10
  have c11 := blk_cell x4 11
  have g0 := blk_lt x4
  have HX4 := Lib.hid x4
  clear x4 gz
  go_wp2_with fail
  refine (M.out _).mono ?_
  rintro e w5 ⟨rfl, h5⟩
  have x5 := (h5.block _ (blk_lt (heap_keep (o := (.cells #[.string ⟨#[]⟩, .bool false, .int .u64 0, .int .u32 0, .int .u16 0, .string ⟨#[]⟩, .int .i64 0] 34)) HX4.out))).trans (heap_keep (o := (.cells #[.string ⟨#[]⟩, .bool false, .int .u64 0, .int .u32 0, .int .u16 0, .string ⟨#[]⟩, .int .i64 0] 34)) HX4.out)
  have hb := (hb.alloc hb.size (.cells #[.string ⟨#[]⟩, .bool false, .int .u64 0, .int .u32 0, .int .u16 0, .string ⟨#[]⟩, .int .i64 0] 34)).trans (h5.mono (by simp; exact Nat.le_succ_of_le hb.size))
  clear h5 g0 HX4 M c0 c1 c2 c3 c4 c5 c6 c7 c8 c9 c10 c11
  have c0 := blk_cell x5 0
  have c1 := blk_cell x5 1
  have c2 := blk_cell x5 2
  have c3 := blk_cell x5 3
  have c4 := blk_cell x5 4
  have c5 := blk_cell x5 5
  have c6 := blk_cell x5 6
  have c7 := blk_cell x5 7
  have c8 := blk_cell x5 8
  have c9 := blk_cell x5 9
  have c10 := blk_cell x5 10
  have c11 := blk_cell x5 11
  go_wp2_with fail
  refine (E'.out _).mono ?_
  rintro e w6 ⟨rfl, h6⟩
  have hb := hb.trans (h6.mono hb.size)
  clear h6 x5 E' c0 c1 c2 c3 c4 c5 c6 c7 c8 c9 c10 c11
  go_wp2_with fail
  refine (works21 _).mono ?_
  rintro e w7 ⟨rfl, h7⟩
  have hb := hb.trans (h7.mono hb.size)
  go_wp2_with fail
  go_ret
  exact ⟨rfl, hb⟩

set_option maxHeartbeats 4000000 in
set_option maxRecDepth 100000 in
theorem undoTells_false_put (kd x pg sl : Nat) (y k v : ByteArray) (m : Bool) (t p s : Nat) (d : Int) (w : World) (hy : y.size ≤ maxLen) (hk : k.size ≤ maxLen) (hv : v.size ≤ maxLen) (S : ByteArray) (hl : ¬ 1024 < wrap64 (wrap64 ((y.size : Int) + k.size) + v.size)) (hm : mayUndo kd x pg sl y k m t p s v d = false) (hk2 : kd = 2)
    (E : Hid (∀ W, Calls Try.prog 38 #[.agg #[.int .u8 kd, .int .u64 x, .int .u32 pg, .int .u16 sl, .string y, .string k, .bool m, .int .u64 t, .int .u32 p, .int .u16 s, .string v, .int .i64 d]] W fun e w' => e = .returned (.tuple #[.string S, .int .i64 2]) ∧ Below W.heap.size W w'))
    (E' : Hid (∀ W, Calls Try.prog 42 #[.agg #[.int .u8 kd, .int .u64 x, .int .u32 pg, .int .u16 sl, .string y, .string k, .bool m, .int .u64 t, .int .u32 p, .int .u16 s, .string v, .int .i64 d]] W fun e w' => e = .returned (.string S) ∧ Below W.heap.size W w')) :
    Calls Try.prog 10 #[.agg #[.int .u8 kd, .int .u64 x, .int .u32 pg, .int .u16 sl, .string y, .string k, .bool m, .int .u64 t, .int .u32 p, .int .u16 s, .string v, .int .i64 d]] w fun e w' => e = .returned (.bool true) ∧ Below w.heap.size w w' := by
  have H := Lib.hid fun W => heavy_any kd x pg sl y k v m t p s d W hy hk hv
  have M := Lib.hid fun W => undoMay_any kd x pg sl y k v m t p s d W hy hk hv
  have M' := Lib.hid fun W => refUndoMay_any kd x pg sl y k v m t p s d W hy hk hv
  have BB := Lib.hid fun W => undoBefore_any kd x pg sl y k v m t p s d W
  rw [decide_eq_false hl] at H
  rw [hm] at M M'
  rw [if_pos hk2] at BB
  have q1 : ∀ W, (binOp .eql 34 (.agg #[.string k, .bool m, .int .u64 t, .int .u32 p, .int .u16 s, .string v, .int .i64 d]) (.agg #[.string k, .bool m, .int .u64 t, .int .u32 p, .int .u16 s, .string v, .int .i64 d])).run Try.prog W = .ok (.bool true) W := by
    intro W
    rw [eqRow]; simp
  have q2 : ∀ W, (binOp .neq 34 (.agg #[.string k, .bool m, .int .u64 t, .int .u32 p, .int .u16 s, .string v, .int .i64 d]) (.agg #[.string k, .bool m, .int .u64 t, .int .u32 p, .int .u16 s, .string v, .int .i64 d])).run Try.prog W = .ok (.bool false) W := by
    intro W
    simp [go_sem]
  have k0 : ((kd : Int) == 2) = true := by subst hk2; rfl
  have s0 : (S.toList == S.toList) = true := by simp
  clear hl hm hk2 hy hk hv
  go_enter Try.func10, Try.ntmps10
  go_wp2_with fail
  refine (H.out _).mono ?_
  rintro e w1 ⟨rfl, h1⟩
  have x1 := (h1.block _ (by simp)).trans (heap_alloc_new w (.cells #[.int .u8 kd, .int .u64 x, .int .u32 pg, .int .u16 sl, .string y, .string k, .bool m, .int .u64 t, .int .u32 p, .int .u16 s, .string v, .int .i64 d] 58))
  have hb := ((Below.refl _ _).alloc (Nat.le_refl _) (.cells #[.int .u8 kd, .int .u64 x, .int .u32 pg, .int .u16 sl, .string y, .string k, .bool m, .int .u64 t, .int .u32 p, .int .u16 s, .string v, .int .i64 d] 58)).trans (h1.mono (by simp))
  clear h1 H
  have gz : w.heap.size < w1.heap.size := blk_lt x1
  have c0 := blk_cell x1 0
  have c1 := blk_cell x1 1
  have c2 := blk_cell x1 2
  have c3 := blk_cell x1 3
  have c4 := blk_cell x1 4
  have c5 := blk_cell x1 5
  have c6 := blk_cell x1 6
  have c7 := blk_cell x1 7
  have c8 := blk_cell x1 8
  have c9 := blk_cell x1 9
  have c10 := blk_cell x1 10
  have c11 := blk_cell x1 11
  go_wp2_with fail
  refine (E.out _).mono ?_
  rintro e w2 ⟨rfl, h2⟩
  have hb := hb.trans (h2.mono hb.size)
  have x2 := (h2.block _ (blk_lt x1)).trans x1
  clear h2 x1 E c0 c1 c2 c3 c4 c5 c6 c7 c8 c9 c10 c11
  have c0 := blk_cell x2 0
  have c1 := blk_cell x2 1
  have c2 := blk_cell x2 2
  have c3 := blk_cell x2 3
  have c4 := blk_cell x2 4
  have c5 := blk_cell x2 5
  have c6 := blk_cell x2 6
  have c7 := blk_cell x2 7
  have c8 := blk_cell x2 8
  have c9 := blk_cell x2 9
  have c10 := blk_cell x2 10
  have c11 := blk_cell x2 11
  go_wp2_with fail
  refine (M'.out _).mono ?_
  rintro e w3 ⟨rfl, h3⟩
  have hb := hb.trans (h3.mono hb.size)
  have x3 := (h3.block _ (blk_lt x2)).trans x2
  clear h3 x2 M' c0 c1 c2 c3 c4 c5 c6 c7 c8 c9 c10 c11
  have c0 := blk_cell x3 0
  have c1 := blk_cell x3 1
  have c2 := blk_cell x3 2
  have c3 := blk_cell x3 3
  have c4 := blk_cell x3 4
  have c5 := blk_cell x3 5
  have c6 := blk_cell x3 6
  have c7 := blk_cell x3 7
  have c8 := blk_cell x3 8
  have c9 := blk_cell x3 9
  have c10 := blk_cell x3 10
  have c11 := blk_cell x3 11
  go_wp2_with fail
  refine (BB.out _).mono ?_
  rintro e w4 ⟨rfl, h4⟩
  have hb := hb.trans (h4.mono hb.size)
  have x4 := (h4.block _ (blk_lt x3)).trans x3
  clear h4 x3 BB c0 c1 c2 c3 c4 c5 c6 c7 c8 c9 c10 c11
  have c0 := blk_cell x4 0
  have c1 := blk_cell x4 1
  have c2 := blk_cell x4 2
  have c3 := blk_cell x4 3
  have c4 := blk_cell x4 4
  have c5 := blk_cell x4 5
  have c6 := blk_cell x4 6
  have c7 := blk_cell x4 7
  have c8 := blk_cell x4 8
  have c9 := blk_cell x4 9
  have c10 := blk_cell x4 10
  have c11 := blk_cell x4 11
  have g0 := blk_lt x4
  have HX4 := Lib.hid x4
  clear x4 gz
  go_wp2_with fail
  refine (M.out _).mono ?_
  rintro e w5 ⟨rfl, h5⟩
  have x5 := (h5.block _ (blk_lt (heap_keep (o := (.cells #[.string k, .bool m, .int .u64 t, .int .u32 p, .int .u16 s, .string v, .int .i64 d] 34)) HX4.out))).trans (heap_keep (o := (.cells #[.string k, .bool m, .int .u64 t, .int .u32 p, .int .u16 s, .string v, .int .i64 d] 34)) HX4.out)
  have hb := (hb.alloc hb.size (.cells #[.string k, .bool m, .int .u64 t, .int .u32 p, .int .u16 s, .string v, .int .i64 d] 34)).trans (h5.mono (by simp; exact Nat.le_succ_of_le hb.size))
  clear h5 g0 HX4 M c0 c1 c2 c3 c4 c5 c6 c7 c8 c9 c10 c11
  have c0 := blk_cell x5 0
  have c1 := blk_cell x5 1
  have c2 := blk_cell x5 2
  have c3 := blk_cell x5 3
  have c4 := blk_cell x5 4
  have c5 := blk_cell x5 5
  have c6 := blk_cell x5 6
  have c7 := blk_cell x5 7
  have c8 := blk_cell x5 8
  have c9 := blk_cell x5 9
  have c10 := blk_cell x5 10
  have c11 := blk_cell x5 11
  go_wp2_with fail
  refine (E'.out _).mono ?_
  rintro e w6 ⟨rfl, h6⟩
  have hb := hb.trans (h6.mono hb.size)
  clear h6 x5 E' c0 c1 c2 c3 c4 c5 c6 c7 c8 c9 c10 c11
  go_wp2_with fail
  refine (works21 _).mono ?_
  rintro e w7 ⟨rfl, h7⟩
  have hb := hb.trans (h7.mono hb.size)
  go_wp2_with fail
  go_ret
  exact ⟨rfl, hb⟩

set_option maxHeartbeats 4000000 in
set_option maxRecDepth 100000 in
theorem undoTells_false_new (kd x pg sl : Nat) (y k v : ByteArray) (m : Bool) (t p s : Nat) (d : Int) (w : World) (hy : y.size ≤ maxLen) (hk : k.size ≤ maxLen) (hv : v.size ≤ maxLen) (S : ByteArray) (hl : ¬ 1024 < wrap64 (wrap64 ((y.size : Int) + k.size) + v.size)) (hm : mayUndo kd x pg sl y k m t p s v d = false) (hk2 : kd ≠ 2)
    (E : Hid (∀ W, Calls Try.prog 38 #[.agg #[.int .u8 kd, .int .u64 x, .int .u32 pg, .int .u16 sl, .string y, .string k, .bool m, .int .u64 t, .int .u32 p, .int .u16 s, .string v, .int .i64 d]] W fun e w' => e = .returned (.tuple #[.string S, .int .i64 2]) ∧ Below W.heap.size W w'))
    (E' : Hid (∀ W, Calls Try.prog 42 #[.agg #[.int .u8 kd, .int .u64 x, .int .u32 pg, .int .u16 sl, .string y, .string k, .bool m, .int .u64 t, .int .u32 p, .int .u16 s, .string v, .int .i64 d]] W fun e w' => e = .returned (.string S) ∧ Below W.heap.size W w')) :
    Calls Try.prog 10 #[.agg #[.int .u8 kd, .int .u64 x, .int .u32 pg, .int .u16 sl, .string y, .string k, .bool m, .int .u64 t, .int .u32 p, .int .u16 s, .string v, .int .i64 d]] w fun e w' => e = .returned (.bool true) ∧ Below w.heap.size w w' := by
  have H := Lib.hid fun W => heavy_any kd x pg sl y k v m t p s d W hy hk hv
  have M := Lib.hid fun W => undoMay_any kd x pg sl y k v m t p s d W hy hk hv
  have M' := Lib.hid fun W => refUndoMay_any kd x pg sl y k v m t p s d W hy hk hv
  have BB := Lib.hid fun W => undoBefore_any kd x pg sl y k v m t p s d W
  rw [decide_eq_false hl] at H
  rw [hm] at M M'
  rw [if_neg hk2] at BB
  have q1 : ∀ W, (binOp .eql 34 (.agg #[.string ⟨#[]⟩, .bool false, .int .u64 0, .int .u32 0, .int .u16 0, .string ⟨#[]⟩, .int .i64 0]) (.agg #[.string ⟨#[]⟩, .bool false, .int .u64 0, .int .u32 0, .int .u16 0, .string ⟨#[]⟩, .int .i64 0])).run Try.prog W = .ok (.bool true) W := by
    intro W
    exact (eqRow ⟨#[]⟩ ⟨#[]⟩ ⟨#[]⟩ ⟨#[]⟩ false false 0 0 0 0 0 0 0 0 W).trans (by simp)
  have q2 : ∀ W, (binOp .neq 34 (.agg #[.string ⟨#[]⟩, .bool false, .int .u64 0, .int .u32 0, .int .u16 0, .string ⟨#[]⟩, .int .i64 0]) (.agg #[.string ⟨#[]⟩, .bool false, .int .u64 0, .int .u32 0, .int .u16 0, .string ⟨#[]⟩, .int .i64 0])).run Try.prog W = .ok (.bool false) W := by
    intro W
    simp [go_sem]
  have k0 : ((kd : Int) == 2) = false := by simp; omega
  have s0 : (S.toList == S.toList) = true := by simp
  clear hl hm hk2 hy hk hv
  go_enter Try.func10, Try.ntmps10
  go_wp2_with fail
  refine (H.out _).mono ?_
  rintro e w1 ⟨rfl, h1⟩
  have x1 := (h1.block _ (by simp)).trans (heap_alloc_new w (.cells #[.int .u8 kd, .int .u64 x, .int .u32 pg, .int .u16 sl, .string y, .string k, .bool m, .int .u64 t, .int .u32 p, .int .u16 s, .string v, .int .i64 d] 58))
  have hb := ((Below.refl _ _).alloc (Nat.le_refl _) (.cells #[.int .u8 kd, .int .u64 x, .int .u32 pg, .int .u16 sl, .string y, .string k, .bool m, .int .u64 t, .int .u32 p, .int .u16 s, .string v, .int .i64 d] 58)).trans (h1.mono (by simp))
  clear h1 H
  have gz : w.heap.size < w1.heap.size := blk_lt x1
  have c0 := blk_cell x1 0
  have c1 := blk_cell x1 1
  have c2 := blk_cell x1 2
  have c3 := blk_cell x1 3
  have c4 := blk_cell x1 4
  have c5 := blk_cell x1 5
  have c6 := blk_cell x1 6
  have c7 := blk_cell x1 7
  have c8 := blk_cell x1 8
  have c9 := blk_cell x1 9
  have c10 := blk_cell x1 10
  have c11 := blk_cell x1 11
  go_wp2_with fail
  refine (E.out _).mono ?_
  rintro e w2 ⟨rfl, h2⟩
  have hb := hb.trans (h2.mono hb.size)
  have x2 := (h2.block _ (blk_lt x1)).trans x1
  clear h2 x1 E c0 c1 c2 c3 c4 c5 c6 c7 c8 c9 c10 c11
  have c0 := blk_cell x2 0
  have c1 := blk_cell x2 1
  have c2 := blk_cell x2 2
  have c3 := blk_cell x2 3
  have c4 := blk_cell x2 4
  have c5 := blk_cell x2 5
  have c6 := blk_cell x2 6
  have c7 := blk_cell x2 7
  have c8 := blk_cell x2 8
  have c9 := blk_cell x2 9
  have c10 := blk_cell x2 10
  have c11 := blk_cell x2 11
  go_wp2_with fail
  refine (M'.out _).mono ?_
  rintro e w3 ⟨rfl, h3⟩
  have hb := hb.trans (h3.mono hb.size)
  have x3 := (h3.block _ (blk_lt x2)).trans x2
  clear h3 x2 M' c0 c1 c2 c3 c4 c5 c6 c7 c8 c9 c10 c11
  have c0 := blk_cell x3 0
  have c1 := blk_cell x3 1
  have c2 := blk_cell x3 2
  have c3 := blk_cell x3 3
  have c4 := blk_cell x3 4
  have c5 := blk_cell x3 5
  have c6 := blk_cell x3 6
  have c7 := blk_cell x3 7
  have c8 := blk_cell x3 8
  have c9 := blk_cell x3 9
  have c10 := blk_cell x3 10
  have c11 := blk_cell x3 11
  go_wp2_with fail
  refine (BB.out _).mono ?_
  rintro e w4 ⟨rfl, h4⟩
  have hb := hb.trans (h4.mono hb.size)
  have x4 := (h4.block _ (blk_lt x3)).trans x3
  clear h4 x3 BB c0 c1 c2 c3 c4 c5 c6 c7 c8 c9 c10 c11
  have c0 := blk_cell x4 0
  have c1 := blk_cell x4 1
  have c2 := blk_cell x4 2
  have c3 := blk_cell x4 3
  have c4 := blk_cell x4 4
  have c5 := blk_cell x4 5
  have c6 := blk_cell x4 6
  have c7 := blk_cell x4 7
  have c8 := blk_cell x4 8
  have c9 := blk_cell x4 9
  have c10 := blk_cell x4 10
  have c11 := blk_cell x4 11
  have g0 := blk_lt x4
  have HX4 := Lib.hid x4
  clear x4 gz
  go_wp2_with fail
  refine (M.out _).mono ?_
  rintro e w5 ⟨rfl, h5⟩
  have x5 := (h5.block _ (blk_lt (heap_keep (o := (.cells #[.string ⟨#[]⟩, .bool false, .int .u64 0, .int .u32 0, .int .u16 0, .string ⟨#[]⟩, .int .i64 0] 34)) HX4.out))).trans (heap_keep (o := (.cells #[.string ⟨#[]⟩, .bool false, .int .u64 0, .int .u32 0, .int .u16 0, .string ⟨#[]⟩, .int .i64 0] 34)) HX4.out)
  have hb := (hb.alloc hb.size (.cells #[.string ⟨#[]⟩, .bool false, .int .u64 0, .int .u32 0, .int .u16 0, .string ⟨#[]⟩, .int .i64 0] 34)).trans (h5.mono (by simp; exact Nat.le_succ_of_le hb.size))
  clear h5 g0 HX4 M c0 c1 c2 c3 c4 c5 c6 c7 c8 c9 c10 c11
  have c0 := blk_cell x5 0
  have c1 := blk_cell x5 1
  have c2 := blk_cell x5 2
  have c3 := blk_cell x5 3
  have c4 := blk_cell x5 4
  have c5 := blk_cell x5 5
  have c6 := blk_cell x5 6
  have c7 := blk_cell x5 7
  have c8 := blk_cell x5 8
  have c9 := blk_cell x5 9
  have c10 := blk_cell x5 10
  have c11 := blk_cell x5 11
  go_wp2_with fail
  refine (E'.out _).mono ?_
  rintro e w6 ⟨rfl, h6⟩
  have hb := hb.trans (h6.mono hb.size)
  clear h6 x5 E' c0 c1 c2 c3 c4 c5 c6 c7 c8 c9 c10 c11
  go_wp2_with fail
  refine (works21 _).mono ?_
  rintro e w7 ⟨rfl, h7⟩
  have hb := hb.trans (h7.mono hb.size)
  go_wp2_with fail
  go_ret
  exact ⟨rfl, hb⟩

theorem undoTells_any (kd x pg sl : Nat) (y k v : ByteArray) (m : Bool) (t p s : Nat) (d : Int) (w : World) (hy : y.size ≤ maxLen) (hk : k.size ≤ maxLen) (hv : v.size ≤ maxLen) (hx : x < 256 ^ 8) (hsl : sl < 256 ^ 2) (ht : t < 256 ^ 8) (hs : s < 256 ^ 2) :
    Calls Try.prog 10 #[.agg #[.int .u8 kd, .int .u64 x, .int .u32 pg, .int .u16 sl, .string y, .string k, .bool m, .int .u64 t, .int .u32 p, .int .u16 s, .string v, .int .i64 d]] w fun e w' => e = .returned (.bool true) ∧ Below w.heap.size w w' := by
  by_cases hl : 1024 < wrap64 (wrap64 ((y.size : Int) + k.size) + v.size)
  · exact undoTells_heavy kd x pg sl y k v m t p s d w hy hk hv hl
  · cases hm : mayUndo kd x pg sl y k m t p s v d with
    | false =>
      have E := Lib.hid fun W => undoEncode_no kd x pg sl y k v m t p s d W hy hk hv hm
      have E' := Lib.hid fun W => refUndoEncode_no kd x pg sl y k v m t p s d W hy hk hv hm
      by_cases h2 : kd = 2
      · exact undoTells_false_put kd x pg sl y k v m t p s d w hy hk hv ⟨#[]⟩ hl hm h2 E E'
      · exact undoTells_false_new kd x pg sl y k v m t p s d w hy hk hv ⟨#[]⟩ hl hm h2 E E'
    | true =>
      rcases (mayUndo_kind hm).2 with ⟨h1, _⟩ | ⟨h2, _, hr⟩
      · have E := Lib.hid fun W => undoEncode_1 kd x pg sl y k v m t p s d W hy hk hv hx hsl ht hs h1 hm
        have E' := Lib.hid fun W => refUndoEncode_1 kd x pg sl y k v m t p s d W hy hk hv hx hsl ht hs h1 hm
        exact undoTells_true_new kd x pg sl y k v m t p s d w hy hk hv _ hl hm (by omega) E E'
      · obtain ⟨dd, hdd⟩ := Int.eq_ofNat_of_zero_le (mayRow_iff.1 hr).2.2.1
        subst hdd
        have E := Lib.hid fun W => undoEncode_2 kd x pg sl y k v m t p s dd W hy hk hv hx hsl ht hs h2 hm
        have E' := Lib.hid fun W => refUndoEncode_2 kd x pg sl y k v m t p s dd W hy hk hv hx hsl ht hs h2 hm
        exact undoTells_true_put kd x pg sl y k v m t p s dd w hy hk hv _ hl hm h2 E E'

end Go.Proofs.Ytahaikfijegknaa
