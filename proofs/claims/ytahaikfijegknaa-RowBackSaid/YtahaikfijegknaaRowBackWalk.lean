/- The walks of the law RowBack, case by case. -/
import Derived.Test.YtahaikfijegknaaRows
import Derived.Test.YtahaikfijegknaaRowBackPlain
import Derived.WalkKit
import Derived.WalkLawsBesides
import Derived.WalkSpells
import Derived.LoopTactic
import Derived.WalkMore
import Derived.LoopN
import Derived.Laws.BitsAllLaws
import Derived.Laws.IdiomStrings
import Derived.BigQuiet
import Derived.Deep.QuietTactic
import Derived.Deep.DeepCutAuto
import Derived.Deep.RegionHeld3
import Derived.Deep.DrawnRows
import Derived.Lib.Hide
import Derived.Outline
import Derived.Deep.DeepMust
import Derived.Handy
namespace Go.Proofs.Ytahaikfijegknaa
open Go.RowKit
set_option linter.unusedVariables false
set_option linter.unusedSimpArgs false

theorem rowBack_long1 (k v k' v' : ByteArray) (m m' : Bool) (t t' p p' s s' : Nat) (d d' : Int) (z : ByteArray) (w : World) (hl : longRow k v = true) : Calls Try.prog 7 #[.agg #[.string k, .bool m, .int .u64 t, .int .u32 p, .int .u16 s, .string v, .int .i64 d], .agg #[.string k', .bool m', .int .u64 t', .int .u32 p', .int .u16 s', .string v', .int .i64 d'], .string z] w fun e w' => e = .returned (.bool true) ∧ Below w.heap.size w w' := by
  have l := fun W => long07 k v m t p s d W
  rw [hl] at l
  have L1 := Lib.hid l
  clear l hl
  go_enter Try.func7, Try.ntmps7
  have H0 := ((RowIn.new w k v m t p s d 34).below ((Below.refl _ _).alloc (Nat.le_refl _) (.cells #[.string k', .bool m', .int .u64 t', .int .u32 p', .int .u16 s', .string v', .int .i64 d'] 34)))
  have H1 : RowIn ((w.alloc (.cells #[.string k, .bool m, .int .u64 t, .int .u32 p, .int .u16 s, .string v, .int .i64 d] 34)).alloc (.cells #[.string k', .bool m', .int .u64 t', .int .u32 p', .int .u16 s', .string v', .int .i64 d'] 34)) (w.heap.size + 1) k' v' m' t' p' s' d' := by
    have h := RowIn.new (w.alloc (.cells #[.string k, .bool m, .int .u64 t, .int .u32 p, .int .u16 s, .string v, .int .i64 d] 34)) k' v' m' t' p' s' d' 34
    have hz : (w.alloc (.cells #[.string k, .bool m, .int .u64 t, .int .u32 p, .int .u16 s, .string v, .int .i64 d] 34)).heap.size = w.heap.size + 1 := by simp
    rwa [hz] at h
  have hbw : Below w.heap.size w ((w.alloc (.cells #[.string k, .bool m, .int .u64 t, .int .u32 p, .int .u16 s, .string v, .int .i64 d] 34)).alloc (.cells #[.string k', .bool m', .int .u64 t', .int .u32 p', .int .u16 s', .string v', .int .i64 d'] 34)) := ((Below.refl _ _).alloc (Nat.le_refl _) _).alloc (by simp) _
  go_wp2_with fail
  refine (L1.out _).mono ?_
  rintro e w1 ⟨rfl, h1⟩
  have c00 := H0.below h1
  have c10 := H1.below h1
  have hb0 := hbw.trans (h1.mono (by simp; omega))
  clear h1 H0 H1 hbw
  generalize hx : w.heap.size + 1 = x at c10 ⊢
  generalize hg : w.heap.size = g at c00 hb0 ⊢
  have Hg := Lib.hid hg
  clear hg hx
  obtain ⟨i0, i1, i2, i3, i4, i5, i6, i7⟩ := id c00
  obtain ⟨j0, j1, j2, j3, j4, j5, j6, j7⟩ := id c10
  go_wp2_with fail
  refine (alive07 _).mono ?_
  rintro e wz ⟨rfl, hw⟩
  have hb9 := hb0.trans (hw.mono (Nat.le_of_lt i0))
  clear hw hb0
  go_wp2_with fail
  go_ret
  exact ⟨rfl, by rw [Hg.out]; exact hb9⟩

theorem rowBack_long2 (k v k' v' : ByteArray) (m m' : Bool) (t t' p p' s s' : Nat) (d d' : Int) (z : ByteArray) (w : World) (hl1 : longRow k v = false) (hl2 : longRow k' v' = true) : Calls Try.prog 7 #[.agg #[.string k, .bool m, .int .u64 t, .int .u32 p, .int .u16 s, .string v, .int .i64 d], .agg #[.string k', .bool m', .int .u64 t', .int .u32 p', .int .u16 s', .string v', .int .i64 d'], .string z] w fun e w' => e = .returned (.bool true) ∧ Below w.heap.size w w' := by
  have l1 := fun W => long07 k v m t p s d W
  have l2 := fun W => long07 k' v' m' t' p' s' d' W
  rw [hl1] at l1
  rw [hl2] at l2
  have L1 := Lib.hid l1
  have L2 := Lib.hid l2
  clear l1 l2 hl1 hl2
  go_enter Try.func7, Try.ntmps7
  have H0 := ((RowIn.new w k v m t p s d 34).below ((Below.refl _ _).alloc (Nat.le_refl _) (.cells #[.string k', .bool m', .int .u64 t', .int .u32 p', .int .u16 s', .string v', .int .i64 d'] 34)))
  have H1 : RowIn ((w.alloc (.cells #[.string k, .bool m, .int .u64 t, .int .u32 p, .int .u16 s, .string v, .int .i64 d] 34)).alloc (.cells #[.string k', .bool m', .int .u64 t', .int .u32 p', .int .u16 s', .string v', .int .i64 d'] 34)) (w.heap.size + 1) k' v' m' t' p' s' d' := by
    have h := RowIn.new (w.alloc (.cells #[.string k, .bool m, .int .u64 t, .int .u32 p, .int .u16 s, .string v, .int .i64 d] 34)) k' v' m' t' p' s' d' 34
    have hz : (w.alloc (.cells #[.string k, .bool m, .int .u64 t, .int .u32 p, .int .u16 s, .string v, .int .i64 d] 34)).heap.size = w.heap.size + 1 := by simp
    rwa [hz] at h
  have hbw : Below w.heap.size w ((w.alloc (.cells #[.string k, .bool m, .int .u64 t, .int .u32 p, .int .u16 s, .string v, .int .i64 d] 34)).alloc (.cells #[.string k', .bool m', .int .u64 t', .int .u32 p', .int .u16 s', .string v', .int .i64 d'] 34)) := ((Below.refl _ _).alloc (Nat.le_refl _) _).alloc (by simp) _
  go_wp2_with fail
  refine (L1.out _).mono ?_
  rintro e w1 ⟨rfl, h1⟩
  have c00 := H0.below h1
  have c10 := H1.below h1
  have hb0 := hbw.trans (h1.mono (by simp; omega))
  clear h1 H0 H1 hbw
  generalize hx : w.heap.size + 1 = x at c10 ⊢
  generalize hg : w.heap.size = g at c00 hb0 ⊢
  have Hg := Lib.hid hg
  clear hg hx
  obtain ⟨i0, i1, i2, i3, i4, i5, i6, i7⟩ := id c00
  obtain ⟨j0, j1, j2, j3, j4, j5, j6, j7⟩ := id c10
  go_wp2_with fail
  refine (L2.out _).mono ?_
  rintro e w2 ⟨rfl, hw⟩
  have c01 := c00.below hw
  have c11 := c10.below hw
  have hb1 := hb0.trans (hw.mono (Nat.le_of_lt i0))
  clear hw c00 c10 hb0 i0 i1 i2 i3 i4 i5 i6 i7 j0 j1 j2 j3 j4 j5 j6 j7
  obtain ⟨i0, i1, i2, i3, i4, i5, i6, i7⟩ := id c01
  obtain ⟨j0, j1, j2, j3, j4, j5, j6, j7⟩ := id c11
  go_wp2_with fail
  refine (alive07 _).mono ?_
  rintro e wz ⟨rfl, hw⟩
  have hb9 := hb1.trans (hw.mono (Nat.le_of_lt i0))
  clear hw hb1
  go_wp2_with fail
  go_ret
  exact ⟨rfl, by rw [Hg.out]; exact hb9⟩

theorem rowBack_long3 (k v k' v' : ByteArray) (m m' : Bool) (t t' p p' s s' : Nat) (d d' : Int) (z : ByteArray) (w : World) (hl1 : longRow k v = false) (hl2 : longRow k' v' = false) (hz : 1024 < (z.size : Int)) : Calls Try.prog 7 #[.agg #[.string k, .bool m, .int .u64 t, .int .u32 p, .int .u16 s, .string v, .int .i64 d], .agg #[.string k', .bool m', .int .u64 t', .int .u32 p', .int .u16 s', .string v', .int .i64 d'], .string z] w fun e w' => e = .returned (.bool true) ∧ Below w.heap.size w w' := by
  have l1 := fun W => long07 k v m t p s d W
  have l2 := fun W => long07 k' v' m' t' p' s' d' W
  rw [hl1] at l1
  rw [hl2] at l2
  have L1 := Lib.hid l1
  have L2 := Lib.hid l2
  clear l1 l2 hl1 hl2
  go_enter Try.func7, Try.ntmps7
  have H0 := ((RowIn.new w k v m t p s d 34).below ((Below.refl _ _).alloc (Nat.le_refl _) (.cells #[.string k', .bool m', .int .u64 t', .int .u32 p', .int .u16 s', .string v', .int .i64 d'] 34)))
  have H1 : RowIn ((w.alloc (.cells #[.string k, .bool m, .int .u64 t, .int .u32 p, .int .u16 s, .string v, .int .i64 d] 34)).alloc (.cells #[.string k', .bool m', .int .u64 t', .int .u32 p', .int .u16 s', .string v', .int .i64 d'] 34)) (w.heap.size + 1) k' v' m' t' p' s' d' := by
    have h := RowIn.new (w.alloc (.cells #[.string k, .bool m, .int .u64 t, .int .u32 p, .int .u16 s, .string v, .int .i64 d] 34)) k' v' m' t' p' s' d' 34
    have hz : (w.alloc (.cells #[.string k, .bool m, .int .u64 t, .int .u32 p, .int .u16 s, .string v, .int .i64 d] 34)).heap.size = w.heap.size + 1 := by simp
    rwa [hz] at h
  have hbw : Below w.heap.size w ((w.alloc (.cells #[.string k, .bool m, .int .u64 t, .int .u32 p, .int .u16 s, .string v, .int .i64 d] 34)).alloc (.cells #[.string k', .bool m', .int .u64 t', .int .u32 p', .int .u16 s', .string v', .int .i64 d'] 34)) := ((Below.refl _ _).alloc (Nat.le_refl _) _).alloc (by simp) _
  go_wp2_with fail
  refine (L1.out _).mono ?_
  rintro e w1 ⟨rfl, h1⟩
  have c00 := H0.below h1
  have c10 := H1.below h1
  have hb0 := hbw.trans (h1.mono (by simp; omega))
  clear h1 H0 H1 hbw
  generalize hx : w.heap.size + 1 = x at c10 ⊢
  generalize hg : w.heap.size = g at c00 hb0 ⊢
  have Hg := Lib.hid hg
  clear hg hx
  obtain ⟨i0, i1, i2, i3, i4, i5, i6, i7⟩ := id c00
  obtain ⟨j0, j1, j2, j3, j4, j5, j6, j7⟩ := id c10
  go_wp2_with fail
  refine (L2.out _).mono ?_
  rintro e w2 ⟨rfl, hw⟩
  have c01 := c00.below hw
  have c11 := c10.below hw
  have hb1 := hb0.trans (hw.mono (Nat.le_of_lt i0))
  clear hw c00 c10 hb0 i0 i1 i2 i3 i4 i5 i6 i7 j0 j1 j2 j3 j4 j5 j6 j7
  obtain ⟨i0, i1, i2, i3, i4, i5, i6, i7⟩ := id c01
  obtain ⟨j0, j1, j2, j3, j4, j5, j6, j7⟩ := id c11
  go_wp2_with fail
  refine (alive07 _).mono ?_
  rintro e wz ⟨rfl, hw⟩
  have hb9 := hb1.trans (hw.mono (Nat.le_of_lt i0))
  clear hw hb1
  go_wp2_with fail
  go_ret
  exact ⟨rfl, by rw [Hg.out]; exact hb9⟩


set_option maxHeartbeats 2000000 in
set_option maxRecDepth 100000 in
theorem rowBack_no_bad (k v k' v' : ByteArray) (m m' : Bool) (t t' p p' s s' : Nat) (d d' : Int) (z : ByteArray) (w : World) (X Y : ByteArray) (q : Int) (hz : (z.size : Int) ≤ 1024)
    (l1 : ∀ W, Calls Try.prog 23 #[.agg #[.string k, .bool m, .int .u64 t, .int .u32 p, .int .u16 s, .string v, .int .i64 d]] W fun e w' => e = .returned (.bool false) ∧ Below W.heap.size W w')
    (l2 : ∀ W, Calls Try.prog 23 #[.agg #[.string k', .bool m', .int .u64 t', .int .u32 p', .int .u16 s', .string v', .int .i64 d']] W fun e w' => e = .returned (.bool false) ∧ Below W.heap.size W w')
    (e1 : ∀ W, Calls Try.prog 25 #[.agg #[.string k, .bool m, .int .u64 t, .int .u32 p, .int .u16 s, .string v, .int .i64 d]] W fun e w' => e = .returned (.tuple #[.string X, .int .i64 2]) ∧ Below W.heap.size W w')
    (e2 : ∀ W, Calls Try.prog 25 #[.agg #[.string k', .bool m', .int .u64 t', .int .u32 p', .int .u16 s', .string v', .int .i64 d']] W fun e w' => e = .returned (.tuple #[.string Y, .int .i64 q]) ∧ Below W.heap.size W w')
    (d2 : ∀ W, Calls Try.prog 30 #[.string z] W fun e w' => e = .returned (.tuple #[.agg #[.string ⟨#[]⟩, .bool false, .int .u64 0, .int .u32 0, .int .u16 0, .string ⟨#[]⟩, .int .i64 0], .int .i64 7]) ∧ Below W.heap.size W w') :
    Calls Try.prog 7 #[.agg #[.string k, .bool m, .int .u64 t, .int .u32 p, .int .u16 s, .string v, .int .i64 d], .agg #[.string k', .bool m', .int .u64 t', .int .u32 p', .int .u16 s', .string v', .int .i64 d'], .string z] w fun e w' => e = .returned (.bool true) ∧ Below w.heap.size w w' := by
  have L1 := Lib.hid l1
  have L2 := Lib.hid l2
  have E1 := Lib.hid e1
  have E2 := Lib.hid e2
  have D2 := Lib.hid d2
  clear l1 l2 e1 e2 d2
  go_enter Try.func7, Try.ntmps7
  have H0 := ((RowIn.new w k v m t p s d 34).below ((Below.refl _ _).alloc (Nat.le_refl _) (.cells #[.string k', .bool m', .int .u64 t', .int .u32 p', .int .u16 s', .string v', .int .i64 d'] 34)))
  have H1 : RowIn ((w.alloc (.cells #[.string k, .bool m, .int .u64 t, .int .u32 p, .int .u16 s, .string v, .int .i64 d] 34)).alloc (.cells #[.string k', .bool m', .int .u64 t', .int .u32 p', .int .u16 s', .string v', .int .i64 d'] 34)) (w.heap.size + 1) k' v' m' t' p' s' d' := by
    have h := RowIn.new (w.alloc (.cells #[.string k, .bool m, .int .u64 t, .int .u32 p, .int .u16 s, .string v, .int .i64 d] 34)) k' v' m' t' p' s' d' 34
    have hz : (w.alloc (.cells #[.string k, .bool m, .int .u64 t, .int .u32 p, .int .u16 s, .string v, .int .i64 d] 34)).heap.size = w.heap.size + 1 := by simp
    rwa [hz] at h
  have hbw : Below w.heap.size w ((w.alloc (.cells #[.string k, .bool m, .int .u64 t, .int .u32 p, .int .u16 s, .string v, .int .i64 d] 34)).alloc (.cells #[.string k', .bool m', .int .u64 t', .int .u32 p', .int .u16 s', .string v', .int .i64 d'] 34)) := ((Below.refl _ _).alloc (Nat.le_refl _) _).alloc (by simp) _
  go_wp2_with fail
  refine (L1.out _).mono ?_
  rintro e w1 ⟨rfl, h1⟩
  have c00 := H0.below h1
  have c10 := H1.below h1
  have hb0 := hbw.trans (h1.mono (by simp; omega))
  clear h1 H0 H1 hbw
  generalize hx : w.heap.size + 1 = x at c10 ⊢
  generalize hg : w.heap.size = g at c00 hb0 ⊢
  have Hg := Lib.hid hg
  clear hg hx
  obtain ⟨i0, i1, i2, i3, i4, i5, i6, i7⟩ := id c00
  obtain ⟨j0, j1, j2, j3, j4, j5, j6, j7⟩ := id c10
  go_wp2_with fail
  refine (L2.out _).mono ?_
  rintro e w2 ⟨rfl, hw⟩
  have c01 := c00.below hw
  have c11 := c10.below hw
  have hb1 := hb0.trans (hw.mono (Nat.le_of_lt i0))
  clear hw c00 c10 hb0 i0 i1 i2 i3 i4 i5 i6 i7 j0 j1 j2 j3 j4 j5 j6 j7
  obtain ⟨i0, i1, i2, i3, i4, i5, i6, i7⟩ := id c01
  obtain ⟨j0, j1, j2, j3, j4, j5, j6, j7⟩ := id c11
  go_wp2_with fail
  refine (E1.out _).mono ?_
  rintro e w3 ⟨rfl, hw⟩
  have c02 := c01.below hw
  have c12 := c11.below hw
  have hb2 := hb1.trans (hw.mono (Nat.le_of_lt i0))
  clear hw c01 c11 hb1 i0 i1 i2 i3 i4 i5 i6 i7 j0 j1 j2 j3 j4 j5 j6 j7
  obtain ⟨i0, i1, i2, i3, i4, i5, i6, i7⟩ := id c02
  obtain ⟨j0, j1, j2, j3, j4, j5, j6, j7⟩ := id c12
  go_wp2_with fail
  refine (E2.out _).mono ?_
  rintro e w4 ⟨rfl, hw⟩
  have c03 := c02.below hw
  have c13 := c12.below hw
  have hb3 := hb2.trans (hw.mono (Nat.le_of_lt i0))
  clear hw c02 c12 hb2 i0 i1 i2 i3 i4 i5 i6 i7 j0 j1 j2 j3 j4 j5 j6 j7
  obtain ⟨i0, i1, i2, i3, i4, i5, i6, i7⟩ := id c03
  obtain ⟨j0, j1, j2, j3, j4, j5, j6, j7⟩ := id c13
  go_wp2_with fail
  refine (D2.out _).mono ?_
  rintro e w6 ⟨rfl, hw⟩
  have hb6 := hb3.trans (hw.mono (Nat.le_of_lt i0))
  have hs6 : g ≤ w6.heap.size := by
    have := hb6.size
    rw [Hg.out] at this
    exact this
  clear hw c03 c13 hb3 i0 i1 i2 i3 i4 i5 i6 i7 j0 j1 j2 j3 j4 j5 j6 j7
  go_wp2_with fail
  refine (alive07 _).mono ?_
  rintro e wz ⟨rfl, hw⟩
  have hb9 := (hb6.alloc hs6 _).trans (hw.mono (by simp; omega))
  clear hw
  go_wp2_with fail
  go_ret
  exact ⟨rfl, by rw [Hg.out]; exact hb9⟩

set_option maxHeartbeats 2000000 in
set_option maxRecDepth 100000 in
theorem rowBack_no_good (k v k' v' : ByteArray) (m m' : Bool) (t t' p p' s s' : Nat) (d d' : Int) (z : ByteArray) (w : World) (X Y : ByteArray) (q : Int) (hz : (z.size : Int) ≤ 1024)
    (l1 : ∀ W, Calls Try.prog 23 #[.agg #[.string k, .bool m, .int .u64 t, .int .u32 p, .int .u16 s, .string v, .int .i64 d]] W fun e w' => e = .returned (.bool false) ∧ Below W.heap.size W w')
    (l2 : ∀ W, Calls Try.prog 23 #[.agg #[.string k', .bool m', .int .u64 t', .int .u32 p', .int .u16 s', .string v', .int .i64 d']] W fun e w' => e = .returned (.bool false) ∧ Below W.heap.size W w')
    (e1 : ∀ W, Calls Try.prog 25 #[.agg #[.string k, .bool m, .int .u64 t, .int .u32 p, .int .u16 s, .string v, .int .i64 d]] W fun e w' => e = .returned (.tuple #[.string X, .int .i64 2]) ∧ Below W.heap.size W w')
    (e2 : ∀ W, Calls Try.prog 25 #[.agg #[.string k', .bool m', .int .u64 t', .int .u32 p', .int .u16 s', .string v', .int .i64 d']] W fun e w' => e = .returned (.tuple #[.string Y, .int .i64 q]) ∧ Below W.heap.size W w')
    (k2 v2 : ByteArray) (m2 : Bool) (t2 p2 s2 d2 : Nat)
    (f2 : ∀ W, Calls Try.prog 30 #[.string z] W fun e w' => e = .returned (.tuple #[.agg #[.string k2, .bool m2, .int .u64 t2, .int .u32 p2, .int .u16 s2, .string v2, .int .i64 d2], .int .i64 0]) ∧ Below W.heap.size W w')
    (g2 : ∀ W, Calls Try.prog 25 #[.agg #[.string k2, .bool m2, .int .u64 t2, .int .u32 p2, .int .u16 s2, .string v2, .int .i64 d2]] W fun e w' => e = .returned (.tuple #[.string z, .int .i64 0]) ∧ Below W.heap.size W w') :
    Calls Try.prog 7 #[.agg #[.string k, .bool m, .int .u64 t, .int .u32 p, .int .u16 s, .string v, .int .i64 d], .agg #[.string k', .bool m', .int .u64 t', .int .u32 p', .int .u16 s', .string v', .int .i64 d'], .string z] w fun e w' => e = .returned (.bool true) ∧ Below w.heap.size w w' := by
  have L1 := Lib.hid l1
  have L2 := Lib.hid l2
  have E1 := Lib.hid e1
  have E2 := Lib.hid e2
  have D2 := Lib.hid f2
  have G2 := Lib.hid g2
  clear l1 l2 e1 e2 f2 g2
  go_enter Try.func7, Try.ntmps7
  have H0 := ((RowIn.new w k v m t p s d 34).below ((Below.refl _ _).alloc (Nat.le_refl _) (.cells #[.string k', .bool m', .int .u64 t', .int .u32 p', .int .u16 s', .string v', .int .i64 d'] 34)))
  have H1 : RowIn ((w.alloc (.cells #[.string k, .bool m, .int .u64 t, .int .u32 p, .int .u16 s, .string v, .int .i64 d] 34)).alloc (.cells #[.string k', .bool m', .int .u64 t', .int .u32 p', .int .u16 s', .string v', .int .i64 d'] 34)) (w.heap.size + 1) k' v' m' t' p' s' d' := by
    have h := RowIn.new (w.alloc (.cells #[.string k, .bool m, .int .u64 t, .int .u32 p, .int .u16 s, .string v, .int .i64 d] 34)) k' v' m' t' p' s' d' 34
    have hz : (w.alloc (.cells #[.string k, .bool m, .int .u64 t, .int .u32 p, .int .u16 s, .string v, .int .i64 d] 34)).heap.size = w.heap.size + 1 := by simp
    rwa [hz] at h
  have hbw : Below w.heap.size w ((w.alloc (.cells #[.string k, .bool m, .int .u64 t, .int .u32 p, .int .u16 s, .string v, .int .i64 d] 34)).alloc (.cells #[.string k', .bool m', .int .u64 t', .int .u32 p', .int .u16 s', .string v', .int .i64 d'] 34)) := ((Below.refl _ _).alloc (Nat.le_refl _) _).alloc (by simp) _
  go_wp2_with fail
  refine (L1.out _).mono ?_
  rintro e w1 ⟨rfl, h1⟩
  have c00 := H0.below h1
  have c10 := H1.below h1
  have hb0 := hbw.trans (h1.mono (by simp; omega))
  clear h1 H0 H1 hbw
  generalize hx : w.heap.size + 1 = x at c10 ⊢
  generalize hg : w.heap.size = g at c00 hb0 ⊢
  have Hg := Lib.hid hg
  clear hg hx
  obtain ⟨i0, i1, i2, i3, i4, i5, i6, i7⟩ := id c00
  obtain ⟨j0, j1, j2, j3, j4, j5, j6, j7⟩ := id c10
  go_wp2_with fail
  refine (L2.out _).mono ?_
  rintro e w2 ⟨rfl, hw⟩
  have c01 := c00.below hw
  have c11 := c10.below hw
  have hb1 := hb0.trans (hw.mono (Nat.le_of_lt i0))
  clear hw c00 c10 hb0 i0 i1 i2 i3 i4 i5 i6 i7 j0 j1 j2 j3 j4 j5 j6 j7
  obtain ⟨i0, i1, i2, i3, i4, i5, i6, i7⟩ := id c01
  obtain ⟨j0, j1, j2, j3, j4, j5, j6, j7⟩ := id c11
  go_wp2_with fail
  refine (E1.out _).mono ?_
  rintro e w3 ⟨rfl, hw⟩
  have c02 := c01.below hw
  have c12 := c11.below hw
  have hb2 := hb1.trans (hw.mono (Nat.le_of_lt i0))
  clear hw c01 c11 hb1 i0 i1 i2 i3 i4 i5 i6 i7 j0 j1 j2 j3 j4 j5 j6 j7
  obtain ⟨i0, i1, i2, i3, i4, i5, i6, i7⟩ := id c02
  obtain ⟨j0, j1, j2, j3, j4, j5, j6, j7⟩ := id c12
  go_wp2_with fail
  refine (E2.out _).mono ?_
  rintro e w4 ⟨rfl, hw⟩
  have c03 := c02.below hw
  have c13 := c12.below hw
  have hb3 := hb2.trans (hw.mono (Nat.le_of_lt i0))
  clear hw c02 c12 hb2 i0 i1 i2 i3 i4 i5 i6 i7 j0 j1 j2 j3 j4 j5 j6 j7
  obtain ⟨i0, i1, i2, i3, i4, i5, i6, i7⟩ := id c03
  obtain ⟨j0, j1, j2, j3, j4, j5, j6, j7⟩ := id c13
  go_wp2_with fail
  refine (D2.out _).mono ?_
  rintro e w6 ⟨rfl, hw⟩
  have hb6 := hb3.trans (hw.mono (Nat.le_of_lt i0))
  have hs6 : g ≤ w6.heap.size := by
    have := hb6.size
    rw [Hg.out] at this
    exact this
  clear hw c03 c13 hb3 i0 i1 i2 i3 i4 i5 i6 i7 j0 j1 j2 j3 j4 j5 j6 j7
  go_wp2_with fail
  refine (G2.out _).mono ?_
  rintro e w7 ⟨rfl, hw⟩
  have hb7 := (hb6.alloc hs6 _).trans (hw.mono (by simp; omega))
  have hs7 : g ≤ w7.heap.size := by
    have := hb7.size
    rw [Hg.out] at this
    exact this
  clear hw hb6 hs6
  go_wp2_with fail
  refine (alive07 _).mono ?_
  rintro e wz ⟨rfl, hw⟩
  have hb9 := hb7.trans (hw.mono hs7)
  clear hw
  go_wp2_with fail
  go_ret
  exact ⟨rfl, by rw [Hg.out]; exact hb9⟩

set_option maxHeartbeats 2000000 in
set_option maxRecDepth 100000 in
theorem rowBack_yn_bad (k v k' v' : ByteArray) (m m' : Bool) (t t' p p' s s' : Nat) (d d' : Int) (z : ByteArray) (w : World) (X Y : ByteArray) (q : Int) (hz : (z.size : Int) ≤ 1024)
    (l1 : ∀ W, Calls Try.prog 23 #[.agg #[.string k, .bool m, .int .u64 t, .int .u32 p, .int .u16 s, .string v, .int .i64 d]] W fun e w' => e = .returned (.bool false) ∧ Below W.heap.size W w')
    (l2 : ∀ W, Calls Try.prog 23 #[.agg #[.string k', .bool m', .int .u64 t', .int .u32 p', .int .u16 s', .string v', .int .i64 d']] W fun e w' => e = .returned (.bool false) ∧ Below W.heap.size W w')
    (e1 : ∀ W, Calls Try.prog 25 #[.agg #[.string k, .bool m, .int .u64 t, .int .u32 p, .int .u16 s, .string v, .int .i64 d]] W fun e w' => e = .returned (.tuple #[.string X, .int .i64 0]) ∧ Below W.heap.size W w')
    (e2 : ∀ W, Calls Try.prog 25 #[.agg #[.string k', .bool m', .int .u64 t', .int .u32 p', .int .u16 s', .string v', .int .i64 d']] W fun e w' => e = .returned (.tuple #[.string Y, .int .i64 2]) ∧ Below W.heap.size W w')
    (d1 : ∀ W, Calls Try.prog 30 #[.string X] W fun e w' => e = .returned (.tuple #[.agg #[.string k, .bool m, .int .u64 t, .int .u32 p, .int .u16 s, .string v, .int .i64 d], .int .i64 0]) ∧ Below W.heap.size W w')
    (d2 : ∀ W, Calls Try.prog 30 #[.string z] W fun e w' => e = .returned (.tuple #[.agg #[.string ⟨#[]⟩, .bool false, .int .u64 0, .int .u32 0, .int .u16 0, .string ⟨#[]⟩, .int .i64 0], .int .i64 7]) ∧ Below W.heap.size W w') :
    Calls Try.prog 7 #[.agg #[.string k, .bool m, .int .u64 t, .int .u32 p, .int .u16 s, .string v, .int .i64 d], .agg #[.string k', .bool m', .int .u64 t', .int .u32 p', .int .u16 s', .string v', .int .i64 d'], .string z] w fun e w' => e = .returned (.bool true) ∧ Below w.heap.size w w' := by
  have L1 := Lib.hid l1
  have L2 := Lib.hid l2
  have E1 := Lib.hid e1
  have E2 := Lib.hid e2
  have D1 := Lib.hid d1
  have D2 := Lib.hid d2
  clear l1 l2 e1 e2 d1 d2
  go_enter Try.func7, Try.ntmps7
  have H0 := ((RowIn.new w k v m t p s d 34).below ((Below.refl _ _).alloc (Nat.le_refl _) (.cells #[.string k', .bool m', .int .u64 t', .int .u32 p', .int .u16 s', .string v', .int .i64 d'] 34)))
  have H1 : RowIn ((w.alloc (.cells #[.string k, .bool m, .int .u64 t, .int .u32 p, .int .u16 s, .string v, .int .i64 d] 34)).alloc (.cells #[.string k', .bool m', .int .u64 t', .int .u32 p', .int .u16 s', .string v', .int .i64 d'] 34)) (w.heap.size + 1) k' v' m' t' p' s' d' := by
    have h := RowIn.new (w.alloc (.cells #[.string k, .bool m, .int .u64 t, .int .u32 p, .int .u16 s, .string v, .int .i64 d] 34)) k' v' m' t' p' s' d' 34
    have hz : (w.alloc (.cells #[.string k, .bool m, .int .u64 t, .int .u32 p, .int .u16 s, .string v, .int .i64 d] 34)).heap.size = w.heap.size + 1 := by simp
    rwa [hz] at h
  have hbw : Below w.heap.size w ((w.alloc (.cells #[.string k, .bool m, .int .u64 t, .int .u32 p, .int .u16 s, .string v, .int .i64 d] 34)).alloc (.cells #[.string k', .bool m', .int .u64 t', .int .u32 p', .int .u16 s', .string v', .int .i64 d'] 34)) := ((Below.refl _ _).alloc (Nat.le_refl _) _).alloc (by simp) _
  go_wp2_with fail
  refine (L1.out _).mono ?_
  rintro e w1 ⟨rfl, h1⟩
  have c00 := H0.below h1
  have c10 := H1.below h1
  have hb0 := hbw.trans (h1.mono (by simp; omega))
  clear h1 H0 H1 hbw
  generalize hx : w.heap.size + 1 = x at c10 ⊢
  generalize hg : w.heap.size = g at c00 hb0 ⊢
  have Hg := Lib.hid hg
  clear hg hx
  obtain ⟨i0, i1, i2, i3, i4, i5, i6, i7⟩ := id c00
  obtain ⟨j0, j1, j2, j3, j4, j5, j6, j7⟩ := id c10
  go_wp2_with fail
  refine (L2.out _).mono ?_
  rintro e w2 ⟨rfl, hw⟩
  have c01 := c00.below hw
  have c11 := c10.below hw
  have hb1 := hb0.trans (hw.mono (Nat.le_of_lt i0))
  clear hw c00 c10 hb0 i0 i1 i2 i3 i4 i5 i6 i7 j0 j1 j2 j3 j4 j5 j6 j7
  obtain ⟨i0, i1, i2, i3, i4, i5, i6, i7⟩ := id c01
  obtain ⟨j0, j1, j2, j3, j4, j5, j6, j7⟩ := id c11
  go_wp2_with fail
  refine (E1.out _).mono ?_
  rintro e w3 ⟨rfl, hw⟩
  have c02 := c01.below hw
  have c12 := c11.below hw
  have hb2 := hb1.trans (hw.mono (Nat.le_of_lt i0))
  clear hw c01 c11 hb1 i0 i1 i2 i3 i4 i5 i6 i7 j0 j1 j2 j3 j4 j5 j6 j7
  obtain ⟨i0, i1, i2, i3, i4, i5, i6, i7⟩ := id c02
  obtain ⟨j0, j1, j2, j3, j4, j5, j6, j7⟩ := id c12
  go_wp2_with fail
  refine (E2.out _).mono ?_
  rintro e w4 ⟨rfl, hw⟩
  have c03 := c02.below hw
  have c13 := c12.below hw
  have hb3 := hb2.trans (hw.mono (Nat.le_of_lt i0))
  clear hw c02 c12 hb2 i0 i1 i2 i3 i4 i5 i6 i7 j0 j1 j2 j3 j4 j5 j6 j7
  obtain ⟨i0, i1, i2, i3, i4, i5, i6, i7⟩ := id c03
  obtain ⟨j0, j1, j2, j3, j4, j5, j6, j7⟩ := id c13
  go_wp2_with fail
  refine (D1.out _).mono ?_
  rintro e w5 ⟨rfl, hw⟩
  have c04 := c03.below hw
  have c14 := c13.below hw
  have hb4 := hb3.trans (hw.mono (Nat.le_of_lt i0))
  clear hw c03 c13 hb3 i0 i1 i2 i3 i4 i5 i6 i7 j0 j1 j2 j3 j4 j5 j6 j7
  obtain ⟨i0, i1, i2, i3, i4, i5, i6, i7⟩ := id c04
  obtain ⟨j0, j1, j2, j3, j4, j5, j6, j7⟩ := id c14
  go_wp2_with fail
  refine (D2.out _).mono ?_
  rintro e w6 ⟨rfl, hw⟩
  have hb6 := (hb4.alloc (Nat.le_of_lt i0) _).trans (hw.mono (by simp; omega))
  have hs6 : g ≤ w6.heap.size := by
    have := hb6.size
    rw [Hg.out] at this
    exact this
  clear hw c04 c14 hb4 i0 i1 i2 i3 i4 i5 i6 i7 j0 j1 j2 j3 j4 j5 j6 j7
  go_wp2_with fail
  refine (alive07 _).mono ?_
  rintro e wz ⟨rfl, hw⟩
  have hb9 := (hb6.alloc hs6 _).trans (hw.mono (by simp; omega))
  clear hw
  go_wp2_with fail
  go_ret
  exact ⟨rfl, by rw [Hg.out]; exact hb9⟩

set_option maxHeartbeats 2000000 in
set_option maxRecDepth 100000 in
theorem rowBack_yn_good (k v k' v' : ByteArray) (m m' : Bool) (t t' p p' s s' : Nat) (d d' : Int) (z : ByteArray) (w : World) (X Y : ByteArray) (q : Int) (hz : (z.size : Int) ≤ 1024)
    (l1 : ∀ W, Calls Try.prog 23 #[.agg #[.string k, .bool m, .int .u64 t, .int .u32 p, .int .u16 s, .string v, .int .i64 d]] W fun e w' => e = .returned (.bool false) ∧ Below W.heap.size W w')
    (l2 : ∀ W, Calls Try.prog 23 #[.agg #[.string k', .bool m', .int .u64 t', .int .u32 p', .int .u16 s', .string v', .int .i64 d']] W fun e w' => e = .returned (.bool false) ∧ Below W.heap.size W w')
    (e1 : ∀ W, Calls Try.prog 25 #[.agg #[.string k, .bool m, .int .u64 t, .int .u32 p, .int .u16 s, .string v, .int .i64 d]] W fun e w' => e = .returned (.tuple #[.string X, .int .i64 0]) ∧ Below W.heap.size W w')
    (e2 : ∀ W, Calls Try.prog 25 #[.agg #[.string k', .bool m', .int .u64 t', .int .u32 p', .int .u16 s', .string v', .int .i64 d']] W fun e w' => e = .returned (.tuple #[.string Y, .int .i64 2]) ∧ Below W.heap.size W w')
    (d1 : ∀ W, Calls Try.prog 30 #[.string X] W fun e w' => e = .returned (.tuple #[.agg #[.string k, .bool m, .int .u64 t, .int .u32 p, .int .u16 s, .string v, .int .i64 d], .int .i64 0]) ∧ Below W.heap.size W w')
    (k2 v2 : ByteArray) (m2 : Bool) (t2 p2 s2 d2 : Nat)
    (f2 : ∀ W, Calls Try.prog 30 #[.string z] W fun e w' => e = .returned (.tuple #[.agg #[.string k2, .bool m2, .int .u64 t2, .int .u32 p2, .int .u16 s2, .string v2, .int .i64 d2], .int .i64 0]) ∧ Below W.heap.size W w')
    (g2 : ∀ W, Calls Try.prog 25 #[.agg #[.string k2, .bool m2, .int .u64 t2, .int .u32 p2, .int .u16 s2, .string v2, .int .i64 d2]] W fun e w' => e = .returned (.tuple #[.string z, .int .i64 0]) ∧ Below W.heap.size W w') :
    Calls Try.prog 7 #[.agg #[.string k, .bool m, .int .u64 t, .int .u32 p, .int .u16 s, .string v, .int .i64 d], .agg #[.string k', .bool m', .int .u64 t', .int .u32 p', .int .u16 s', .string v', .int .i64 d'], .string z] w fun e w' => e = .returned (.bool true) ∧ Below w.heap.size w w' := by
  have L1 := Lib.hid l1
  have L2 := Lib.hid l2
  have E1 := Lib.hid e1
  have E2 := Lib.hid e2
  have D1 := Lib.hid d1
  have D2 := Lib.hid f2
  have G2 := Lib.hid g2
  clear l1 l2 e1 e2 d1 f2 g2
  go_enter Try.func7, Try.ntmps7
  have H0 := ((RowIn.new w k v m t p s d 34).below ((Below.refl _ _).alloc (Nat.le_refl _) (.cells #[.string k', .bool m', .int .u64 t', .int .u32 p', .int .u16 s', .string v', .int .i64 d'] 34)))
  have H1 : RowIn ((w.alloc (.cells #[.string k, .bool m, .int .u64 t, .int .u32 p, .int .u16 s, .string v, .int .i64 d] 34)).alloc (.cells #[.string k', .bool m', .int .u64 t', .int .u32 p', .int .u16 s', .string v', .int .i64 d'] 34)) (w.heap.size + 1) k' v' m' t' p' s' d' := by
    have h := RowIn.new (w.alloc (.cells #[.string k, .bool m, .int .u64 t, .int .u32 p, .int .u16 s, .string v, .int .i64 d] 34)) k' v' m' t' p' s' d' 34
    have hz : (w.alloc (.cells #[.string k, .bool m, .int .u64 t, .int .u32 p, .int .u16 s, .string v, .int .i64 d] 34)).heap.size = w.heap.size + 1 := by simp
    rwa [hz] at h
  have hbw : Below w.heap.size w ((w.alloc (.cells #[.string k, .bool m, .int .u64 t, .int .u32 p, .int .u16 s, .string v, .int .i64 d] 34)).alloc (.cells #[.string k', .bool m', .int .u64 t', .int .u32 p', .int .u16 s', .string v', .int .i64 d'] 34)) := ((Below.refl _ _).alloc (Nat.le_refl _) _).alloc (by simp) _
  go_wp2_with fail
  refine (L1.out _).mono ?_
  rintro e w1 ⟨rfl, h1⟩
  have c00 := H0.below h1
  have c10 := H1.below h1
  have hb0 := hbw.trans (h1.mono (by simp; omega))
  clear h1 H0 H1 hbw
  generalize hx : w.heap.size + 1 = x at c10 ⊢
  generalize hg : w.heap.size = g at c00 hb0 ⊢
  have Hg := Lib.hid hg
  clear hg hx
  obtain ⟨i0, i1, i2, i3, i4, i5, i6, i7⟩ := id c00
  obtain ⟨j0, j1, j2, j3, j4, j5, j6, j7⟩ := id c10
  go_wp2_with fail
  refine (L2.out _).mono ?_
  rintro e w2 ⟨rfl, hw⟩
  have c01 := c00.below hw
  have c11 := c10.below hw
  have hb1 := hb0.trans (hw.mono (Nat.le_of_lt i0))
  clear hw c00 c10 hb0 i0 i1 i2 i3 i4 i5 i6 i7 j0 j1 j2 j3 j4 j5 j6 j7
  obtain ⟨i0, i1, i2, i3, i4, i5, i6, i7⟩ := id c01
  obtain ⟨j0, j1, j2, j3, j4, j5, j6, j7⟩ := id c11
  go_wp2_with fail
  refine (E1.out _).mono ?_
  rintro e w3 ⟨rfl, hw⟩
  have c02 := c01.below hw
  have c12 := c11.below hw
  have hb2 := hb1.trans (hw.mono (Nat.le_of_lt i0))
  clear hw c01 c11 hb1 i0 i1 i2 i3 i4 i5 i6 i7 j0 j1 j2 j3 j4 j5 j6 j7
  obtain ⟨i0, i1, i2, i3, i4, i5, i6, i7⟩ := id c02
  obtain ⟨j0, j1, j2, j3, j4, j5, j6, j7⟩ := id c12
  go_wp2_with fail
  refine (E2.out _).mono ?_
  rintro e w4 ⟨rfl, hw⟩
  have c03 := c02.below hw
  have c13 := c12.below hw
  have hb3 := hb2.trans (hw.mono (Nat.le_of_lt i0))
  clear hw c02 c12 hb2 i0 i1 i2 i3 i4 i5 i6 i7 j0 j1 j2 j3 j4 j5 j6 j7
  obtain ⟨i0, i1, i2, i3, i4, i5, i6, i7⟩ := id c03
  obtain ⟨j0, j1, j2, j3, j4, j5, j6, j7⟩ := id c13
  go_wp2_with fail
  refine (D1.out _).mono ?_
  rintro e w5 ⟨rfl, hw⟩
  have c04 := c03.below hw
  have c14 := c13.below hw
  have hb4 := hb3.trans (hw.mono (Nat.le_of_lt i0))
  clear hw c03 c13 hb3 i0 i1 i2 i3 i4 i5 i6 i7 j0 j1 j2 j3 j4 j5 j6 j7
  obtain ⟨i0, i1, i2, i3, i4, i5, i6, i7⟩ := id c04
  obtain ⟨j0, j1, j2, j3, j4, j5, j6, j7⟩ := id c14
  go_wp2_with fail
  refine (D2.out _).mono ?_
  rintro e w6 ⟨rfl, hw⟩
  have hb6 := (hb4.alloc (Nat.le_of_lt i0) _).trans (hw.mono (by simp; omega))
  have hs6 : g ≤ w6.heap.size := by
    have := hb6.size
    rw [Hg.out] at this
    exact this
  clear hw c04 c14 hb4 i0 i1 i2 i3 i4 i5 i6 i7 j0 j1 j2 j3 j4 j5 j6 j7
  go_wp2_with fail
  refine (G2.out _).mono ?_
  rintro e w7 ⟨rfl, hw⟩
  have hb7 := (hb6.alloc hs6 _).trans (hw.mono (by simp; omega))
  have hs7 : g ≤ w7.heap.size := by
    have := hb7.size
    rw [Hg.out] at this
    exact this
  clear hw hb6 hs6
  go_wp2_with fail
  refine (alive07 _).mono ?_
  rintro e wz ⟨rfl, hw⟩
  have hb9 := hb7.trans (hw.mono hs7)
  clear hw
  go_wp2_with fail
  go_ret
  exact ⟨rfl, by rw [Hg.out]; exact hb9⟩

set_option maxHeartbeats 2000000 in
set_option maxRecDepth 100000 in
theorem rowBack_yy_bad (k v k' v' : ByteArray) (m m' : Bool) (t t' p p' s s' : Nat) (d d' : Int) (z : ByteArray) (w : World) (X Y : ByteArray) (q : Int) (hz : (z.size : Int) ≤ 1024)
    (l1 : ∀ W, Calls Try.prog 23 #[.agg #[.string k, .bool m, .int .u64 t, .int .u32 p, .int .u16 s, .string v, .int .i64 d]] W fun e w' => e = .returned (.bool false) ∧ Below W.heap.size W w')
    (l2 : ∀ W, Calls Try.prog 23 #[.agg #[.string k', .bool m', .int .u64 t', .int .u32 p', .int .u16 s', .string v', .int .i64 d']] W fun e w' => e = .returned (.bool false) ∧ Below W.heap.size W w')
    (e1 : ∀ W, Calls Try.prog 25 #[.agg #[.string k, .bool m, .int .u64 t, .int .u32 p, .int .u16 s, .string v, .int .i64 d]] W fun e w' => e = .returned (.tuple #[.string X, .int .i64 0]) ∧ Below W.heap.size W w')
    (e2 : ∀ W, Calls Try.prog 25 #[.agg #[.string k', .bool m', .int .u64 t', .int .u32 p', .int .u16 s', .string v', .int .i64 d']] W fun e w' => e = .returned (.tuple #[.string Y, .int .i64 0]) ∧ Below W.heap.size W w')
    (d1 : ∀ W, Calls Try.prog 30 #[.string X] W fun e w' => e = .returned (.tuple #[.agg #[.string k, .bool m, .int .u64 t, .int .u32 p, .int .u16 s, .string v, .int .i64 d], .int .i64 0]) ∧ Below W.heap.size W w')
    (b : Bool) (hXY : (X.toList == Y.toList) = b) (hE : ∀ W, (binOp .eql 34 (.agg #[.string k, .bool m, .int .u64 t, .int .u32 p, .int .u16 s, .string v, .int .i64 d]) (.agg #[.string k', .bool m', .int .u64 t', .int .u32 p', .int .u16 s', .string v', .int .i64 d'])).run Try.prog W = .ok (.bool b) W)
    (d2 : ∀ W, Calls Try.prog 30 #[.string z] W fun e w' => e = .returned (.tuple #[.agg #[.string ⟨#[]⟩, .bool false, .int .u64 0, .int .u32 0, .int .u16 0, .string ⟨#[]⟩, .int .i64 0], .int .i64 7]) ∧ Below W.heap.size W w') :
    Calls Try.prog 7 #[.agg #[.string k, .bool m, .int .u64 t, .int .u32 p, .int .u16 s, .string v, .int .i64 d], .agg #[.string k', .bool m', .int .u64 t', .int .u32 p', .int .u16 s', .string v', .int .i64 d'], .string z] w fun e w' => e = .returned (.bool true) ∧ Below w.heap.size w w' := by
  have L1 := Lib.hid l1
  have L2 := Lib.hid l2
  have E1 := Lib.hid e1
  have E2 := Lib.hid e2
  have D1 := Lib.hid d1
  have D2 := Lib.hid d2
  clear l1 l2 e1 e2 d1 d2
  cases b with
  | true =>
    go_enter Try.func7, Try.ntmps7
    have H0 := ((RowIn.new w k v m t p s d 34).below ((Below.refl _ _).alloc (Nat.le_refl _) (.cells #[.string k', .bool m', .int .u64 t', .int .u32 p', .int .u16 s', .string v', .int .i64 d'] 34)))
    have H1 : RowIn ((w.alloc (.cells #[.string k, .bool m, .int .u64 t, .int .u32 p, .int .u16 s, .string v, .int .i64 d] 34)).alloc (.cells #[.string k', .bool m', .int .u64 t', .int .u32 p', .int .u16 s', .string v', .int .i64 d'] 34)) (w.heap.size + 1) k' v' m' t' p' s' d' := by
      have h := RowIn.new (w.alloc (.cells #[.string k, .bool m, .int .u64 t, .int .u32 p, .int .u16 s, .string v, .int .i64 d] 34)) k' v' m' t' p' s' d' 34
      have hz : (w.alloc (.cells #[.string k, .bool m, .int .u64 t, .int .u32 p, .int .u16 s, .string v, .int .i64 d] 34)).heap.size = w.heap.size + 1 := by simp
      rwa [hz] at h
    have hbw : Below w.heap.size w ((w.alloc (.cells #[.string k, .bool m, .int .u64 t, .int .u32 p, .int .u16 s, .string v, .int .i64 d] 34)).alloc (.cells #[.string k', .bool m', .int .u64 t', .int .u32 p', .int .u16 s', .string v', .int .i64 d'] 34)) := ((Below.refl _ _).alloc (Nat.le_refl _) _).alloc (by simp) _
    go_wp2_with fail
    refine (L1.out _).mono ?_
    rintro e w1 ⟨rfl, h1⟩
    have c00 := H0.below h1
    have c10 := H1.below h1
    have hb0 := hbw.trans (h1.mono (by simp; omega))
    clear h1 H0 H1 hbw
    generalize hx : w.heap.size + 1 = x at c10 ⊢
    generalize hg : w.heap.size = g at c00 hb0 ⊢
    have Hg := Lib.hid hg
    clear hg hx
    obtain ⟨i0, i1, i2, i3, i4, i5, i6, i7⟩ := id c00
    obtain ⟨j0, j1, j2, j3, j4, j5, j6, j7⟩ := id c10
    go_wp2_with fail
    refine (L2.out _).mono ?_
    rintro e w2 ⟨rfl, hw⟩
    have c01 := c00.below hw
    have c11 := c10.below hw
    have hb1 := hb0.trans (hw.mono (Nat.le_of_lt i0))
    clear hw c00 c10 hb0 i0 i1 i2 i3 i4 i5 i6 i7 j0 j1 j2 j3 j4 j5 j6 j7
    obtain ⟨i0, i1, i2, i3, i4, i5, i6, i7⟩ := id c01
    obtain ⟨j0, j1, j2, j3, j4, j5, j6, j7⟩ := id c11
    go_wp2_with fail
    refine (E1.out _).mono ?_
    rintro e w3 ⟨rfl, hw⟩
    have c02 := c01.below hw
    have c12 := c11.below hw
    have hb2 := hb1.trans (hw.mono (Nat.le_of_lt i0))
    clear hw c01 c11 hb1 i0 i1 i2 i3 i4 i5 i6 i7 j0 j1 j2 j3 j4 j5 j6 j7
    obtain ⟨i0, i1, i2, i3, i4, i5, i6, i7⟩ := id c02
    obtain ⟨j0, j1, j2, j3, j4, j5, j6, j7⟩ := id c12
    go_wp2_with fail
    refine (E2.out _).mono ?_
    rintro e w4 ⟨rfl, hw⟩
    have c03 := c02.below hw
    have c13 := c12.below hw
    have hb3 := hb2.trans (hw.mono (Nat.le_of_lt i0))
    clear hw c02 c12 hb2 i0 i1 i2 i3 i4 i5 i6 i7 j0 j1 j2 j3 j4 j5 j6 j7
    obtain ⟨i0, i1, i2, i3, i4, i5, i6, i7⟩ := id c03
    obtain ⟨j0, j1, j2, j3, j4, j5, j6, j7⟩ := id c13
    go_wp2_with fail
    refine (D1.out _).mono ?_
    rintro e w5 ⟨rfl, hw⟩
    have c04 := c03.below hw
    have c14 := c13.below hw
    have hb4 := hb3.trans (hw.mono (Nat.le_of_lt i0))
    clear hw c03 c13 hb3 i0 i1 i2 i3 i4 i5 i6 i7 j0 j1 j2 j3 j4 j5 j6 j7
    obtain ⟨i0, i1, i2, i3, i4, i5, i6, i7⟩ := id c04
    obtain ⟨j0, j1, j2, j3, j4, j5, j6, j7⟩ := id c14
    go_wp2_with fail
    refine (D2.out _).mono ?_
    rintro e w6 ⟨rfl, hw⟩
    have hb6 := (hb4.alloc (Nat.le_of_lt i0) _).trans (hw.mono (by simp; omega))
    have hs6 : g ≤ w6.heap.size := by
      have := hb6.size
      rw [Hg.out] at this
      exact this
    clear hw c04 c14 hb4 i0 i1 i2 i3 i4 i5 i6 i7 j0 j1 j2 j3 j4 j5 j6 j7
    go_wp2_with fail
    refine (alive07 _).mono ?_
    rintro e wz ⟨rfl, hw⟩
    have hb9 := (hb6.alloc hs6 _).trans (hw.mono (by simp; omega))
    clear hw
    go_wp2_with fail
    go_ret
    exact ⟨rfl, by rw [Hg.out]; exact hb9⟩
  | false =>
    go_enter Try.func7, Try.ntmps7
    have H0 := ((RowIn.new w k v m t p s d 34).below ((Below.refl _ _).alloc (Nat.le_refl _) (.cells #[.string k', .bool m', .int .u64 t', .int .u32 p', .int .u16 s', .string v', .int .i64 d'] 34)))
    have H1 : RowIn ((w.alloc (.cells #[.string k, .bool m, .int .u64 t, .int .u32 p, .int .u16 s, .string v, .int .i64 d] 34)).alloc (.cells #[.string k', .bool m', .int .u64 t', .int .u32 p', .int .u16 s', .string v', .int .i64 d'] 34)) (w.heap.size + 1) k' v' m' t' p' s' d' := by
      have h := RowIn.new (w.alloc (.cells #[.string k, .bool m, .int .u64 t, .int .u32 p, .int .u16 s, .string v, .int .i64 d] 34)) k' v' m' t' p' s' d' 34
      have hz : (w.alloc (.cells #[.string k, .bool m, .int .u64 t, .int .u32 p, .int .u16 s, .string v, .int .i64 d] 34)).heap.size = w.heap.size + 1 := by simp
      rwa [hz] at h
    have hbw : Below w.heap.size w ((w.alloc (.cells #[.string k, .bool m, .int .u64 t, .int .u32 p, .int .u16 s, .string v, .int .i64 d] 34)).alloc (.cells #[.string k', .bool m', .int .u64 t', .int .u32 p', .int .u16 s', .string v', .int .i64 d'] 34)) := ((Below.refl _ _).alloc (Nat.le_refl _) _).alloc (by simp) _
    go_wp2_with fail
    refine (L1.out _).mono ?_
    rintro e w1 ⟨rfl, h1⟩
    have c00 := H0.below h1
    have c10 := H1.below h1
    have hb0 := hbw.trans (h1.mono (by simp; omega))
    clear h1 H0 H1 hbw
    generalize hx : w.heap.size + 1 = x at c10 ⊢
    generalize hg : w.heap.size = g at c00 hb0 ⊢
    have Hg := Lib.hid hg
    clear hg hx
    obtain ⟨i0, i1, i2, i3, i4, i5, i6, i7⟩ := id c00
    obtain ⟨j0, j1, j2, j3, j4, j5, j6, j7⟩ := id c10
    go_wp2_with fail
    refine (L2.out _).mono ?_
    rintro e w2 ⟨rfl, hw⟩
    have c01 := c00.below hw
    have c11 := c10.below hw
    have hb1 := hb0.trans (hw.mono (Nat.le_of_lt i0))
    clear hw c00 c10 hb0 i0 i1 i2 i3 i4 i5 i6 i7 j0 j1 j2 j3 j4 j5 j6 j7
    obtain ⟨i0, i1, i2, i3, i4, i5, i6, i7⟩ := id c01
    obtain ⟨j0, j1, j2, j3, j4, j5, j6, j7⟩ := id c11
    go_wp2_with fail
    refine (E1.out _).mono ?_
    rintro e w3 ⟨rfl, hw⟩
    have c02 := c01.below hw
    have c12 := c11.below hw
    have hb2 := hb1.trans (hw.mono (Nat.le_of_lt i0))
    clear hw c01 c11 hb1 i0 i1 i2 i3 i4 i5 i6 i7 j0 j1 j2 j3 j4 j5 j6 j7
    obtain ⟨i0, i1, i2, i3, i4, i5, i6, i7⟩ := id c02
    obtain ⟨j0, j1, j2, j3, j4, j5, j6, j7⟩ := id c12
    go_wp2_with fail
    refine (E2.out _).mono ?_
    rintro e w4 ⟨rfl, hw⟩
    have c03 := c02.below hw
    have c13 := c12.below hw
    have hb3 := hb2.trans (hw.mono (Nat.le_of_lt i0))
    clear hw c02 c12 hb2 i0 i1 i2 i3 i4 i5 i6 i7 j0 j1 j2 j3 j4 j5 j6 j7
    obtain ⟨i0, i1, i2, i3, i4, i5, i6, i7⟩ := id c03
    obtain ⟨j0, j1, j2, j3, j4, j5, j6, j7⟩ := id c13
    go_wp2_with fail
    refine (D1.out _).mono ?_
    rintro e w5 ⟨rfl, hw⟩
    have c04 := c03.below hw
    have c14 := c13.below hw
    have hb4 := hb3.trans (hw.mono (Nat.le_of_lt i0))
    clear hw c03 c13 hb3 i0 i1 i2 i3 i4 i5 i6 i7 j0 j1 j2 j3 j4 j5 j6 j7
    obtain ⟨i0, i1, i2, i3, i4, i5, i6, i7⟩ := id c04
    obtain ⟨j0, j1, j2, j3, j4, j5, j6, j7⟩ := id c14
    go_wp2_with fail
    refine (D2.out _).mono ?_
    rintro e w6 ⟨rfl, hw⟩
    have hb6 := (hb4.alloc (Nat.le_of_lt i0) _).trans (hw.mono (by simp; omega))
    have hs6 : g ≤ w6.heap.size := by
      have := hb6.size
      rw [Hg.out] at this
      exact this
    clear hw c04 c14 hb4 i0 i1 i2 i3 i4 i5 i6 i7 j0 j1 j2 j3 j4 j5 j6 j7
    go_wp2_with fail
    refine (alive07 _).mono ?_
    rintro e wz ⟨rfl, hw⟩
    have hb9 := (hb6.alloc hs6 _).trans (hw.mono (by simp; omega))
    clear hw
    go_wp2_with fail
    go_ret
    exact ⟨rfl, by rw [Hg.out]; exact hb9⟩

set_option maxHeartbeats 2000000 in
set_option maxRecDepth 100000 in
theorem rowBack_yy_good (k v k' v' : ByteArray) (m m' : Bool) (t t' p p' s s' : Nat) (d d' : Int) (z : ByteArray) (w : World) (X Y : ByteArray) (q : Int) (hz : (z.size : Int) ≤ 1024)
    (l1 : ∀ W, Calls Try.prog 23 #[.agg #[.string k, .bool m, .int .u64 t, .int .u32 p, .int .u16 s, .string v, .int .i64 d]] W fun e w' => e = .returned (.bool false) ∧ Below W.heap.size W w')
    (l2 : ∀ W, Calls Try.prog 23 #[.agg #[.string k', .bool m', .int .u64 t', .int .u32 p', .int .u16 s', .string v', .int .i64 d']] W fun e w' => e = .returned (.bool false) ∧ Below W.heap.size W w')
    (e1 : ∀ W, Calls Try.prog 25 #[.agg #[.string k, .bool m, .int .u64 t, .int .u32 p, .int .u16 s, .string v, .int .i64 d]] W fun e w' => e = .returned (.tuple #[.string X, .int .i64 0]) ∧ Below W.heap.size W w')
    (e2 : ∀ W, Calls Try.prog 25 #[.agg #[.string k', .bool m', .int .u64 t', .int .u32 p', .int .u16 s', .string v', .int .i64 d']] W fun e w' => e = .returned (.tuple #[.string Y, .int .i64 0]) ∧ Below W.heap.size W w')
    (d1 : ∀ W, Calls Try.prog 30 #[.string X] W fun e w' => e = .returned (.tuple #[.agg #[.string k, .bool m, .int .u64 t, .int .u32 p, .int .u16 s, .string v, .int .i64 d], .int .i64 0]) ∧ Below W.heap.size W w')
    (b : Bool) (hXY : (X.toList == Y.toList) = b) (hE : ∀ W, (binOp .eql 34 (.agg #[.string k, .bool m, .int .u64 t, .int .u32 p, .int .u16 s, .string v, .int .i64 d]) (.agg #[.string k', .bool m', .int .u64 t', .int .u32 p', .int .u16 s', .string v', .int .i64 d'])).run Try.prog W = .ok (.bool b) W)
    (k2 v2 : ByteArray) (m2 : Bool) (t2 p2 s2 d2 : Nat)
    (f2 : ∀ W, Calls Try.prog 30 #[.string z] W fun e w' => e = .returned (.tuple #[.agg #[.string k2, .bool m2, .int .u64 t2, .int .u32 p2, .int .u16 s2, .string v2, .int .i64 d2], .int .i64 0]) ∧ Below W.heap.size W w')
    (g2 : ∀ W, Calls Try.prog 25 #[.agg #[.string k2, .bool m2, .int .u64 t2, .int .u32 p2, .int .u16 s2, .string v2, .int .i64 d2]] W fun e w' => e = .returned (.tuple #[.string z, .int .i64 0]) ∧ Below W.heap.size W w') :
    Calls Try.prog 7 #[.agg #[.string k, .bool m, .int .u64 t, .int .u32 p, .int .u16 s, .string v, .int .i64 d], .agg #[.string k', .bool m', .int .u64 t', .int .u32 p', .int .u16 s', .string v', .int .i64 d'], .string z] w fun e w' => e = .returned (.bool true) ∧ Below w.heap.size w w' := by
  have L1 := Lib.hid l1
  have L2 := Lib.hid l2
  have E1 := Lib.hid e1
  have E2 := Lib.hid e2
  have D1 := Lib.hid d1
  have D2 := Lib.hid f2
  have G2 := Lib.hid g2
  clear l1 l2 e1 e2 d1 f2 g2
  cases b with
  | true =>
    go_enter Try.func7, Try.ntmps7
    have H0 := ((RowIn.new w k v m t p s d 34).below ((Below.refl _ _).alloc (Nat.le_refl _) (.cells #[.string k', .bool m', .int .u64 t', .int .u32 p', .int .u16 s', .string v', .int .i64 d'] 34)))
    have H1 : RowIn ((w.alloc (.cells #[.string k, .bool m, .int .u64 t, .int .u32 p, .int .u16 s, .string v, .int .i64 d] 34)).alloc (.cells #[.string k', .bool m', .int .u64 t', .int .u32 p', .int .u16 s', .string v', .int .i64 d'] 34)) (w.heap.size + 1) k' v' m' t' p' s' d' := by
      have h := RowIn.new (w.alloc (.cells #[.string k, .bool m, .int .u64 t, .int .u32 p, .int .u16 s, .string v, .int .i64 d] 34)) k' v' m' t' p' s' d' 34
      have hz : (w.alloc (.cells #[.string k, .bool m, .int .u64 t, .int .u32 p, .int .u16 s, .string v, .int .i64 d] 34)).heap.size = w.heap.size + 1 := by simp
      rwa [hz] at h
    have hbw : Below w.heap.size w ((w.alloc (.cells #[.string k, .bool m, .int .u64 t, .int .u32 p, .int .u16 s, .string v, .int .i64 d] 34)).alloc (.cells #[.string k', .bool m', .int .u64 t', .int .u32 p', .int .u16 s', .string v', .int .i64 d'] 34)) := ((Below.refl _ _).alloc (Nat.le_refl _) _).alloc (by simp) _
    go_wp2_with fail
    refine (L1.out _).mono ?_
    rintro e w1 ⟨rfl, h1⟩
    have c00 := H0.below h1
    have c10 := H1.below h1
    have hb0 := hbw.trans (h1.mono (by simp; omega))
    clear h1 H0 H1 hbw
    generalize hx : w.heap.size + 1 = x at c10 ⊢
    generalize hg : w.heap.size = g at c00 hb0 ⊢
    have Hg := Lib.hid hg
    clear hg hx
    obtain ⟨i0, i1, i2, i3, i4, i5, i6, i7⟩ := id c00
    obtain ⟨j0, j1, j2, j3, j4, j5, j6, j7⟩ := id c10
    go_wp2_with fail
    refine (L2.out _).mono ?_
    rintro e w2 ⟨rfl, hw⟩
    have c01 := c00.below hw
    have c11 := c10.below hw
    have hb1 := hb0.trans (hw.mono (Nat.le_of_lt i0))
    clear hw c00 c10 hb0 i0 i1 i2 i3 i4 i5 i6 i7 j0 j1 j2 j3 j4 j5 j6 j7
    obtain ⟨i0, i1, i2, i3, i4, i5, i6, i7⟩ := id c01
    obtain ⟨j0, j1, j2, j3, j4, j5, j6, j7⟩ := id c11
    go_wp2_with fail
    refine (E1.out _).mono ?_
    rintro e w3 ⟨rfl, hw⟩
    have c02 := c01.below hw
    have c12 := c11.below hw
    have hb2 := hb1.trans (hw.mono (Nat.le_of_lt i0))
    clear hw c01 c11 hb1 i0 i1 i2 i3 i4 i5 i6 i7 j0 j1 j2 j3 j4 j5 j6 j7
    obtain ⟨i0, i1, i2, i3, i4, i5, i6, i7⟩ := id c02
    obtain ⟨j0, j1, j2, j3, j4, j5, j6, j7⟩ := id c12
    go_wp2_with fail
    refine (E2.out _).mono ?_
    rintro e w4 ⟨rfl, hw⟩
    have c03 := c02.below hw
    have c13 := c12.below hw
    have hb3 := hb2.trans (hw.mono (Nat.le_of_lt i0))
    clear hw c02 c12 hb2 i0 i1 i2 i3 i4 i5 i6 i7 j0 j1 j2 j3 j4 j5 j6 j7
    obtain ⟨i0, i1, i2, i3, i4, i5, i6, i7⟩ := id c03
    obtain ⟨j0, j1, j2, j3, j4, j5, j6, j7⟩ := id c13
    go_wp2_with fail
    refine (D1.out _).mono ?_
    rintro e w5 ⟨rfl, hw⟩
    have c04 := c03.below hw
    have c14 := c13.below hw
    have hb4 := hb3.trans (hw.mono (Nat.le_of_lt i0))
    clear hw c03 c13 hb3 i0 i1 i2 i3 i4 i5 i6 i7 j0 j1 j2 j3 j4 j5 j6 j7
    obtain ⟨i0, i1, i2, i3, i4, i5, i6, i7⟩ := id c04
    obtain ⟨j0, j1, j2, j3, j4, j5, j6, j7⟩ := id c14
    go_wp2_with fail
    refine (D2.out _).mono ?_
    rintro e w6 ⟨rfl, hw⟩
    have hb6 := (hb4.alloc (Nat.le_of_lt i0) _).trans (hw.mono (by simp; omega))
    have hs6 : g ≤ w6.heap.size := by
      have := hb6.size
      rw [Hg.out] at this
      exact this
    clear hw c04 c14 hb4 i0 i1 i2 i3 i4 i5 i6 i7 j0 j1 j2 j3 j4 j5 j6 j7
    go_wp2_with fail
    refine (G2.out _).mono ?_
    rintro e w7 ⟨rfl, hw⟩
    have hb7 := (hb6.alloc hs6 _).trans (hw.mono (by simp; omega))
    have hs7 : g ≤ w7.heap.size := by
      have := hb7.size
      rw [Hg.out] at this
      exact this
    clear hw hb6 hs6
    go_wp2_with fail
    refine (alive07 _).mono ?_
    rintro e wz ⟨rfl, hw⟩
    have hb9 := hb7.trans (hw.mono hs7)
    clear hw
    go_wp2_with fail
    go_ret
    exact ⟨rfl, by rw [Hg.out]; exact hb9⟩
  | false =>
    go_enter Try.func7, Try.ntmps7
    have H0 := ((RowIn.new w k v m t p s d 34).below ((Below.refl _ _).alloc (Nat.le_refl _) (.cells #[.string k', .bool m', .int .u64 t', .int .u32 p', .int .u16 s', .string v', .int .i64 d'] 34)))
    have H1 : RowIn ((w.alloc (.cells #[.string k, .bool m, .int .u64 t, .int .u32 p, .int .u16 s, .string v, .int .i64 d] 34)).alloc (.cells #[.string k', .bool m', .int .u64 t', .int .u32 p', .int .u16 s', .string v', .int .i64 d'] 34)) (w.heap.size + 1) k' v' m' t' p' s' d' := by
      have h := RowIn.new (w.alloc (.cells #[.string k, .bool m, .int .u64 t, .int .u32 p, .int .u16 s, .string v, .int .i64 d] 34)) k' v' m' t' p' s' d' 34
      have hz : (w.alloc (.cells #[.string k, .bool m, .int .u64 t, .int .u32 p, .int .u16 s, .string v, .int .i64 d] 34)).heap.size = w.heap.size + 1 := by simp
      rwa [hz] at h
    have hbw : Below w.heap.size w ((w.alloc (.cells #[.string k, .bool m, .int .u64 t, .int .u32 p, .int .u16 s, .string v, .int .i64 d] 34)).alloc (.cells #[.string k', .bool m', .int .u64 t', .int .u32 p', .int .u16 s', .string v', .int .i64 d'] 34)) := ((Below.refl _ _).alloc (Nat.le_refl _) _).alloc (by simp) _
    go_wp2_with fail
    refine (L1.out _).mono ?_
    rintro e w1 ⟨rfl, h1⟩
    have c00 := H0.below h1
    have c10 := H1.below h1
    have hb0 := hbw.trans (h1.mono (by simp; omega))
    clear h1 H0 H1 hbw
    generalize hx : w.heap.size + 1 = x at c10 ⊢
    generalize hg : w.heap.size = g at c00 hb0 ⊢
    have Hg := Lib.hid hg
    clear hg hx
    obtain ⟨i0, i1, i2, i3, i4, i5, i6, i7⟩ := id c00
    obtain ⟨j0, j1, j2, j3, j4, j5, j6, j7⟩ := id c10
    go_wp2_with fail
    refine (L2.out _).mono ?_
    rintro e w2 ⟨rfl, hw⟩
    have c01 := c00.below hw
    have c11 := c10.below hw
    have hb1 := hb0.trans (hw.mono (Nat.le_of_lt i0))
    clear hw c00 c10 hb0 i0 i1 i2 i3 i4 i5 i6 i7 j0 j1 j2 j3 j4 j5 j6 j7
    obtain ⟨i0, i1, i2, i3, i4, i5, i6, i7⟩ := id c01
    obtain ⟨j0, j1, j2, j3, j4, j5, j6, j7⟩ := id c11
    go_wp2_with fail
    refine (E1.out _).mono ?_
    rintro e w3 ⟨rfl, hw⟩
    have c02 := c01.below hw
    have c12 := c11.below hw
    have hb2 := hb1.trans (hw.mono (Nat.le_of_lt i0))
    clear hw c01 c11 hb1 i0 i1 i2 i3 i4 i5 i6 i7 j0 j1 j2 j3 j4 j5 j6 j7
    obtain ⟨i0, i1, i2, i3, i4, i5, i6, i7⟩ := id c02
    obtain ⟨j0, j1, j2, j3, j4, j5, j6, j7⟩ := id c12
    go_wp2_with fail
    refine (E2.out _).mono ?_
    rintro e w4 ⟨rfl, hw⟩
    have c03 := c02.below hw
    have c13 := c12.below hw
    have hb3 := hb2.trans (hw.mono (Nat.le_of_lt i0))
    clear hw c02 c12 hb2 i0 i1 i2 i3 i4 i5 i6 i7 j0 j1 j2 j3 j4 j5 j6 j7
    obtain ⟨i0, i1, i2, i3, i4, i5, i6, i7⟩ := id c03
    obtain ⟨j0, j1, j2, j3, j4, j5, j6, j7⟩ := id c13
    go_wp2_with fail
    refine (D1.out _).mono ?_
    rintro e w5 ⟨rfl, hw⟩
    have c04 := c03.below hw
    have c14 := c13.below hw
    have hb4 := hb3.trans (hw.mono (Nat.le_of_lt i0))
    clear hw c03 c13 hb3 i0 i1 i2 i3 i4 i5 i6 i7 j0 j1 j2 j3 j4 j5 j6 j7
    obtain ⟨i0, i1, i2, i3, i4, i5, i6, i7⟩ := id c04
    obtain ⟨j0, j1, j2, j3, j4, j5, j6, j7⟩ := id c14
    go_wp2_with fail
    refine (D2.out _).mono ?_
    rintro e w6 ⟨rfl, hw⟩
    have hb6 := (hb4.alloc (Nat.le_of_lt i0) _).trans (hw.mono (by simp; omega))
    have hs6 : g ≤ w6.heap.size := by
      have := hb6.size
      rw [Hg.out] at this
      exact this
    clear hw c04 c14 hb4 i0 i1 i2 i3 i4 i5 i6 i7 j0 j1 j2 j3 j4 j5 j6 j7
    go_wp2_with fail
    refine (G2.out _).mono ?_
    rintro e w7 ⟨rfl, hw⟩
    have hb7 := (hb6.alloc hs6 _).trans (hw.mono (by simp; omega))
    have hs7 : g ≤ w7.heap.size := by
      have := hb7.size
      rw [Hg.out] at this
      exact this
    clear hw hb6 hs6
    go_wp2_with fail
    refine (alive07 _).mono ?_
    rintro e wz ⟨rfl, hw⟩
    have hb9 := hb7.trans (hw.mono hs7)
    clear hw
    go_wp2_with fail
    go_ret
    exact ⟨rfl, by rw [Hg.out]; exact hb9⟩

end Go.Proofs.Ytahaikfijegknaa
