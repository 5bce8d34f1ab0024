/- The walk of the law RowEntries: it returns true, and nothing that was there is changed. -/
import Derived.Test.YtahaikfijegknaaRows
import Derived.Test.YtahaikfijegknaaRowPadsWalk
import Derived.WalkKit
import Derived.WalkLawsBesides
import Derived.WalkSpells
import Derived.LoopTactic
import Derived.WalkMore
import Derived.LoopN
import Derived.Laws.BitsAllLaws
import Derived.Laws.IdiomStrings
import Derived.BigQuiet
import Derived.Deep.QuietTactic
import Derived.Deep.DeepCutAuto
import Derived.Deep.RegionHeld3
import Derived.Deep.DrawnRows
import Derived.Lib.Hide
import Derived.Outline
import Derived.Deep.DeepMust
import Derived.Handy
namespace Go.Proofs.Ytahaikfijegknaa
open Go.RowKit
set_option linter.unusedVariables false
set_option linter.unusedSimpArgs false

def EntIn (w : World) (g : Nat) (k : ByteArray) (c : Nat) : Prop :=
  g < w.heap.size ∧ w.cell? ⟨g, 0, none⟩ = some (.string k) ∧ w.cell? ⟨g, 1, none⟩ = some (.int .u32 c)
theorem EntIn.below {w w' : World} {g : Nat} {k : ByteArray} {c : Nat} (h : EntIn w g k c) (hb : Below w.heap.size w w') : EntIn w' g k c := by
  obtain ⟨h0, h1, h2⟩ := h
  have := hb.size
  exact ⟨by omega, by rw [(bcell hb).1 _ _ h0, h1], by rw [(bcell hb).1 _ _ h0, h2]⟩
theorem EntIn.new (w : World) (k : ByteArray) (c : Nat) (ty : TypeId) :
    EntIn (w.alloc (.cells #[.string k, .int .u32 c] ty)) w.heap.size k c := by
  refine ⟨by simp, ?_, ?_⟩ <;> (rw [World.cell?_alloc_mark]; rfl)

theorem toList_data (s : ByteArray) : s.toList = s.data.toList := ByteArray.toList_eq s

theorem encEnt_inj {k k' : List UInt8} {c c' : Nat} (hc : c < 256 ^ 4) (hc' : c' < 256 ^ 4) (h : encEnt k c = encEnt k' c') : k = k' ∧ c = c' := by
  unfold encEnt at h
  obtain ⟨h1, h2⟩ := List.append_inj h (by simp [be_length])
  exact ⟨h2, be_inj 4 c c' hc hc' h1⟩

theorem decEnt_encEnt (k : List UInt8) (c : Nat) (hm : mayEnt k.length c = true) : decEntV (encEnt k c) = .tuple #[.agg #[.string ⟨k.toArray⟩, .int .u32 c], .int .i64 0] := by
  have h := mayEnt_iff.1 hm
  have hd : (encEnt k c).drop 4 = k := by unfold encEnt; rw [List.drop_append_of_le_length (by simp [be_length]), List.drop_of_length_le (by simp [be_length])]; rfl
  have ht : (encEnt k c).take 4 = be 4 c := by unfold encEnt; rw [List.take_append_of_le_length (by simp [be_length]), List.take_of_length_le (by simp [be_length])]
  have hl : (encEnt k c).length = 4 + k.length := by unfold encEnt; simp [be_length]
  have hr : rdNum (encEnt k c) 0 4 = c := by
    unfold rdNum
    rw [if_pos (by omega), List.drop_zero, ht, un_be_fits 4 c (by omega)]
  have ho : decEntOk (encEnt k c) = true := by
    unfold decEntOk
    rw [hl, hr, Nat.add_sub_cancel_left, hm]
    simp
  unfold decEntV
  rw [ho, hd, hr]
  rfl

theorem encEnt_eq (k k' : ByteArray) (c c' : Nat) (h : mayEnt k.size c = true) (h' : mayEnt k'.size c' = true) :
    ((⟨(encEnt k.data.toList c).toArray⟩ : ByteArray).toList == (⟨(encEnt k'.data.toList c').toArray⟩ : ByteArray).toList) = (k.toList == k'.toList && (c : Int) == (c' : Int)) := by
  have h1 := mayEnt_iff.1 h
  have h2 := mayEnt_iff.1 h'
  rw [Bool.eq_iff_iff]
  simp only [toList_data, Bool.and_eq_true, beq_iff_eq]
  constructor
  · intro hh
    obtain ⟨e1, e2⟩ := encEnt_inj (by omega) (by omega) hh
    exact ⟨e1, by rw [e2]⟩
  · rintro ⟨e1, e2⟩
    have : c = c' := by omega
    rw [e1, this]

theorem rowEntries_long (k k' : ByteArray) (c c' : Nat) (w : World) (hl : 1024 < wrap64 ((k.size : Int) + (k'.size : Int))) :
    Calls Try.prog 9 #[.agg #[.string k, .int .u32 c], .agg #[.string k', .int .u32 c']] w fun e w' => e = .returned (.bool true) ∧ Below w.heap.size w w' := by
  go_enter Try.func9, Try.ntmps9
  go_wp2_with fail
  refine (alive07 _).mono ?_
  rintro e w1 ⟨rfl, h1⟩
  go_wp2_with fail
  go_ret
  exact ⟨rfl, (((Below.refl _ _).alloc (Nat.le_refl _) _).alloc (by simp) _).trans (h1.mono (by simp; omega))⟩

theorem rowEntries_no (k k' : ByteArray) (c c' : Nat) (w : World) (hk : k.size ≤ maxLen) (hk' : k'.size ≤ maxLen) (hl : wrap64 ((k.size : Int) + (k'.size : Int)) ≤ 1024) (hm : mayEnt k.size c = false) (q : Int) (Y : ByteArray)
    (hY : ∀ W, Calls Try.prog 34 #[.agg #[.string k', .int .u32 c']] W fun e w' => e = .returned (.tuple #[.string Y, .int .i64 q]) ∧ Below W.heap.size W w') :
    Calls Try.prog 9 #[.agg #[.string k, .int .u32 c], .agg #[.string k', .int .u32 c']] w fun e w' => e = .returned (.bool true) ∧ Below w.heap.size w w' := by
  have E1 := Lib.hid fun W => entEncode_no k c W hk hm
  have E2 := Lib.hid fun W => refEntEncode_no k c W hk hm
  have E3 := Lib.hid hY
  clear hY hm
  go_enter Try.func9, Try.ntmps9
  have H0 := ((EntIn.new w k c 47).below ((Below.refl _ _).alloc (Nat.le_refl _) (.cells #[.string k', .int .u32 c'] 47)))
  have H1 : EntIn ((w.alloc (.cells #[.string k, .int .u32 c] 47)).alloc (.cells #[.string k', .int .u32 c'] 47)) (w.heap.size + 1) k' c' := by
    have h := EntIn.new (w.alloc (.cells #[.string k, .int .u32 c] 47)) k' c' 47
    have hz : (w.alloc (.cells #[.string k, .int .u32 c] 47)).heap.size = w.heap.size + 1 := by simp
    rwa [hz] at h
  have hbw : Below w.heap.size w ((w.alloc (.cells #[.string k, .int .u32 c] 47)).alloc (.cells #[.string k', .int .u32 c'] 47)) := ((Below.refl _ _).alloc (Nat.le_refl _) _).alloc (by simp) _
  go_wp2_with fail
  refine (E1.out _).mono ?_
  rintro e w1 ⟨rfl, h1⟩
  have c0 := H0.below h1
  have c1 := H1.below h1
  have hb1 := hbw.trans (h1.mono (by simp; omega))
  clear h1 H0 H1 hbw
  generalize hx : w.heap.size + 1 = x at c1 ⊢
  generalize hg : w.heap.size = g at c0 hb1 ⊢
  have Hg := Lib.hid hg
  clear hg hx
  obtain ⟨i0, i1, i2⟩ := id c0
  obtain ⟨j0, j1, j2⟩ := id c1
  go_wp2_with fail
  refine (E2.out _).mono ?_
  rintro e w2 ⟨rfl, h2⟩
  have c02 := c0.below h2
  have c12 := c1.below h2
  have hb2 := hb1.trans (h2.mono (Nat.le_of_lt i0))
  clear h2 c0 c1 hb1 i0 i1 i2 j0 j1 j2
  obtain ⟨i0, i1, i2⟩ := id c02
  obtain ⟨j0, j1, j2⟩ := id c12
  go_wp2_with fail
  refine (E3.out _).mono ?_
  rintro e w3 ⟨rfl, h3⟩
  have c03 := c02.below h3
  have c13 := c12.below h3
  have hb3 := hb2.trans (h3.mono (Nat.le_of_lt i0))
  clear h3 c02 c12 hb2 i0 i1 i2 j0 j1 j2
  obtain ⟨i0, i1, i2⟩ := id c03
  obtain ⟨j0, j1, j2⟩ := id c13
  go_wp2_with fail
  refine (alive07 _).mono ?_
  rintro e w4 ⟨rfl, h4⟩
  have hb4 := hb3.trans (h4.mono (Nat.le_of_lt i0))
  clear h4 hb3
  go_wp2_with fail
  go_ret
  exact ⟨rfl, by rw [Hg.out]; exact hb4⟩

set_option maxHeartbeats 2000000 in
theorem rowEntries_yn (k k' : ByteArray) (c c' : Nat) (w : World) (hk : k.size ≤ maxLen) (hk' : k'.size ≤ maxLen) (hl : wrap64 ((k.size : Int) + (k'.size : Int)) ≤ 1024) (X Y : ByteArray) (hX : X.size ≤ 1000)
    (e1 : ∀ W, Calls Try.prog 34 #[.agg #[.string k, .int .u32 c]] W fun e w' => e = .returned (.tuple #[.string X, .int .i64 0]) ∧ Below W.heap.size W w')
    (e2 : ∀ W, Calls Try.prog 35 #[.agg #[.string k, .int .u32 c]] W fun e w' => e = .returned (.tuple #[.string X, .int .i64 0]) ∧ Below W.heap.size W w')
    (e3 : ∀ W, Calls Try.prog 34 #[.agg #[.string k', .int .u32 c']] W fun e w' => e = .returned (.tuple #[.string Y, .int .i64 2]) ∧ Below W.heap.size W w')
    (d1 : ∀ W, Calls Try.prog 32 #[.string X] W fun e w' => e = .returned (.tuple #[.agg #[.string k, .int .u32 c], .int .i64 0]) ∧ Below W.heap.size W w') :
    Calls Try.prog 9 #[.agg #[.string k, .int .u32 c], .agg #[.string k', .int .u32 c']] w fun e w' => e = .returned (.bool true) ∧ Below w.heap.size w w' := by
  have E1 := Lib.hid e1
  have E2 := Lib.hid e2
  have E3 := Lib.hid e3
  have D1 := Lib.hid d1
  clear e1 e2 e3 d1
  go_enter Try.func9, Try.ntmps9
  have H0 := ((EntIn.new w k c 47).below ((Below.refl _ _).alloc (Nat.le_refl _) (.cells #[.string k', .int .u32 c'] 47)))
  have H1 : EntIn ((w.alloc (.cells #[.string k, .int .u32 c] 47)).alloc (.cells #[.string k', .int .u32 c'] 47)) (w.heap.size + 1) k' c' := by
    have h := EntIn.new (w.alloc (.cells #[.string k, .int .u32 c] 47)) k' c' 47
    have hz : (w.alloc (.cells #[.string k, .int .u32 c] 47)).heap.size = w.heap.size + 1 := by simp
    rwa [hz] at h
  have hbw : Below w.heap.size w ((w.alloc (.cells #[.string k, .int .u32 c] 47)).alloc (.cells #[.string k', .int .u32 c'] 47)) := ((Below.refl _ _).alloc (Nat.le_refl _) _).alloc (by simp) _
  go_wp2_with fail
  refine (E1.out _).mono ?_
  rintro e w1 ⟨rfl, h1⟩
  have c0 := H0.below h1
  have c1 := H1.below h1
  have hb1 := hbw.trans (h1.mono (by simp; omega))
  clear h1 H0 H1 hbw
  generalize hx : w.heap.size + 1 = x at c1 ⊢
  generalize hg : w.heap.size = g at c0 hb1 ⊢
  have Hg := Lib.hid hg
  clear hg hx
  obtain ⟨i0, i1, i2⟩ := id c0
  obtain ⟨j0, j1, j2⟩ := id c1
  go_wp2_with fail
  refine (E2.out _).mono ?_
  rintro e w2 ⟨rfl, h2⟩
  have c02 := c0.below h2
  have c12 := c1.below h2
  have hb2 := hb1.trans (h2.mono (Nat.le_of_lt i0))
  clear h2 c0 c1 hb1 i0 i1 i2 j0 j1 j2
  obtain ⟨i0, i1, i2⟩ := id c02
  obtain ⟨j0, j1, j2⟩ := id c12
  go_wp2_with fail
  refine (E3.out _).mono ?_
  rintro e w3 ⟨rfl, h3⟩
  have c03 := c02.below h3
  have c13 := c12.below h3
  have hb3 := hb2.trans (h3.mono (Nat.le_of_lt i0))
  clear h3 c02 c12 hb2 i0 i1 i2 j0 j1 j2
  obtain ⟨i0, i1, i2⟩ := id c03
  obtain ⟨j0, j1, j2⟩ := id c13
  go_wp2_with fail
  refine (D1.out _).mono ?_
  rintro e w4 ⟨rfl, h4⟩
  have c04 := c03.below h4
  have hb4 := hb3.trans (h4.mono (Nat.le_of_lt i0))
  clear h4 c03 c13 hb3 i0 i1 i2 j0 j1 j2
  obtain ⟨i0, i1, i2⟩ := id c04
  go_wp2_with fail
  refine (alive07 _).mono ?_
  rintro e w5 ⟨rfl, h5⟩
  have hb5 := (hb4.alloc (Nat.le_of_lt i0) _).trans (h5.mono (by simp; omega))
  clear h5 hb4
  go_wp2_with fail
  go_ret
  exact ⟨rfl, by rw [Hg.out]; exact hb5⟩

set_option maxHeartbeats 2000000 in
theorem rowEntries_eq (k : ByteArray) (c : Nat) (w : World) (hk : k.size ≤ maxLen) (hl : wrap64 ((k.size : Int) + (k.size : Int)) ≤ 1024) (X : ByteArray) (hX : X.size ≤ 1000)
    (e1 : ∀ W, Calls Try.prog 34 #[.agg #[.string k, .int .u32 c]] W fun e w' => e = .returned (.tuple #[.string X, .int .i64 0]) ∧ Below W.heap.size W w')
    (e2 : ∀ W, Calls Try.prog 35 #[.agg #[.string k, .int .u32 c]] W fun e w' => e = .returned (.tuple #[.string X, .int .i64 0]) ∧ Below W.heap.size W w')
    (d1 : ∀ W, Calls Try.prog 32 #[.string X] W fun e w' => e = .returned (.tuple #[.agg #[.string k, .int .u32 c], .int .i64 0]) ∧ Below W.heap.size W w')  :
    Calls Try.prog 9 #[.agg #[.string k, .int .u32 c], .agg #[.string k, .int .u32 c]] w fun e w' => e = .returned (.bool true) ∧ Below w.heap.size w w' := by
  have E1 := Lib.hid e1
  have E2 := Lib.hid e2
  have D1 := Lib.hid d1
  clear e1 e2 d1
  go_enter Try.func9, Try.ntmps9
  have H0 := ((EntIn.new w k c 47).below ((Below.refl _ _).alloc (Nat.le_refl _) (.cells #[.string k, .int .u32 c] 47)))
  have H1 : EntIn ((w.alloc (.cells #[.string k, .int .u32 c] 47)).alloc (.cells #[.string k, .int .u32 c] 47)) (w.heap.size + 1) k c := by
    have h := EntIn.new (w.alloc (.cells #[.string k, .int .u32 c] 47)) k c 47
    have hz : (w.alloc (.cells #[.string k, .int .u32 c] 47)).heap.size = w.heap.size + 1 := by simp
    rwa [hz] at h
  have hbw : Below w.heap.size w ((w.alloc (.cells #[.string k, .int .u32 c] 47)).alloc (.cells #[.string k, .int .u32 c] 47)) := ((Below.refl _ _).alloc (Nat.le_refl _) _).alloc (by simp) _
  go_wp2_with fail
  refine (E1.out _).mono ?_
  rintro e w1 ⟨rfl, h1⟩
  have c0 := H0.below h1
  have c1 := H1.below h1
  have hb1 := hbw.trans (h1.mono (by simp; omega))
  clear h1 H0 H1 hbw
  generalize hx : w.heap.size + 1 = x at c1 ⊢
  generalize hg : w.heap.size = g at c0 hb1 ⊢
  have Hg := Lib.hid hg
  clear hg hx
  obtain ⟨i0, i1, i2⟩ := id c0
  obtain ⟨j0, j1, j2⟩ := id c1
  go_wp2_with fail
  refine (E2.out _).mono ?_
  rintro e w2 ⟨rfl, h2⟩
  have c02 := c0.below h2
  have c12 := c1.below h2
  have hb2 := hb1.trans (h2.mono (Nat.le_of_lt i0))
  clear h2 c0 c1 hb1 i0 i1 i2 j0 j1 j2
  obtain ⟨i0, i1, i2⟩ := id c02
  obtain ⟨j0, j1, j2⟩ := id c12
  go_wp2_with fail
  refine (E1.out _).mono ?_
  rintro e w3 ⟨rfl, h3⟩
  have c03 := c02.below h3
  have c13 := c12.below h3
  have hb3 := hb2.trans (h3.mono (Nat.le_of_lt i0))
  clear h3 c02 c12 hb2 i0 i1 i2 j0 j1 j2
  obtain ⟨i0, i1, i2⟩ := id c03
  obtain ⟨j0, j1, j2⟩ := id c13
  go_wp2_with fail
  refine (D1.out _).mono ?_
  rintro e w4 ⟨rfl, h4⟩
  have c04 := c03.below h4
  have hb4 := hb3.trans (h4.mono (Nat.le_of_lt i0))
  clear h4 c03 c13 hb3 i0 i1 i2 j0 j1 j2
  obtain ⟨i0, i1, i2⟩ := id c04
  go_wp2_with fail
  refine (alive07 _).mono ?_
  rintro e w5 ⟨rfl, h5⟩
  have hb5 := (hb4.alloc (Nat.le_of_lt i0) _).trans (h5.mono (by simp; omega))
  clear h5 hb4
  go_wp2_with fail
  go_ret
  exact ⟨rfl, by rw [Hg.out]; exact hb5⟩

set_option maxHeartbeats 2000000 in
theorem rowEntries_ne1 (k k' : ByteArray) (c c' : Nat) (w : World) (hk : k.size ≤ maxLen) (hk' : k'.size ≤ maxLen) (hl : wrap64 ((k.size : Int) + (k'.size : Int)) ≤ 1024) (X Y : ByteArray) (hX : X.size ≤ 1000)
    (e1 : ∀ W, Calls Try.prog 34 #[.agg #[.string k, .int .u32 c]] W fun e w' => e = .returned (.tuple #[.string X, .int .i64 0]) ∧ Below W.heap.size W w')
    (e2 : ∀ W, Calls Try.prog 35 #[.agg #[.string k, .int .u32 c]] W fun e w' => e = .returned (.tuple #[.string X, .int .i64 0]) ∧ Below W.heap.size W w')
    (e3 : ∀ W, Calls Try.prog 34 #[.agg #[.string k', .int .u32 c']] W fun e w' => e = .returned (.tuple #[.string Y, .int .i64 0]) ∧ Below W.heap.size W w')
    (d1 : ∀ W, Calls Try.prog 32 #[.string X] W fun e w' => e = .returned (.tuple #[.agg #[.string k, .int .u32 c], .int .i64 0]) ∧ Below W.heap.size W w') (hXY : (X.toList == Y.toList) = false) (hkc : ¬ k.toList = k'.toList) :
    Calls Try.prog 9 #[.agg #[.string k, .int .u32 c], .agg #[.string k', .int .u32 c']] w fun e w' => e = .returned (.bool true) ∧ Below w.heap.size w w' := by
  have E1 := Lib.hid e1
  have E2 := Lib.hid e2
  have E3 := Lib.hid e3
  have D1 := Lib.hid d1
  clear e1 e2 e3 d1
  go_enter Try.func9, Try.ntmps9
  have H0 := ((EntIn.new w k c 47).below ((Below.refl _ _).alloc (Nat.le_refl _) (.cells #[.string k', .int .u32 c'] 47)))
  have H1 : EntIn ((w.alloc (.cells #[.string k, .int .u32 c] 47)).alloc (.cells #[.string k', .int .u32 c'] 47)) (w.heap.size + 1) k' c' := by
    have h := EntIn.new (w.alloc (.cells #[.string k, .int .u32 c] 47)) k' c' 47
    have hz : (w.alloc (.cells #[.string k, .int .u32 c] 47)).heap.size = w.heap.size + 1 := by simp
    rwa [hz] at h
  have hbw : Below w.heap.size w ((w.alloc (.cells #[.string k, .int .u32 c] 47)).alloc (.cells #[.string k', .int .u32 c'] 47)) := ((Below.refl _ _).alloc (Nat.le_refl _) _).alloc (by simp) _
  go_wp2_with fail
  refine (E1.out _).mono ?_
  rintro e w1 ⟨rfl, h1⟩
  have c0 := H0.below h1
  have c1 := H1.below h1
  have hb1 := hbw.trans (h1.mono (by simp; omega))
  clear h1 H0 H1 hbw
  generalize hx : w.heap.size + 1 = x at c1 ⊢
  generalize hg : w.heap.size = g at c0 hb1 ⊢
  have Hg := Lib.hid hg
  clear hg hx
  obtain ⟨i0, i1, i2⟩ := id c0
  obtain ⟨j0, j1, j2⟩ := id c1
  go_wp2_with fail
  refine (E2.out _).mono ?_
  rintro e w2 ⟨rfl, h2⟩
  have c02 := c0.below h2
  have c12 := c1.below h2
  have hb2 := hb1.trans (h2.mono (Nat.le_of_lt i0))
  clear h2 c0 c1 hb1 i0 i1 i2 j0 j1 j2
  obtain ⟨i0, i1, i2⟩ := id c02
  obtain ⟨j0, j1, j2⟩ := id c12
  go_wp2_with fail
  refine (E3.out _).mono ?_
  rintro e w3 ⟨rfl, h3⟩
  have c03 := c02.below h3
  have c13 := c12.below h3
  have hb3 := hb2.trans (h3.mono (Nat.le_of_lt i0))
  clear h3 c02 c12 hb2 i0 i1 i2 j0 j1 j2
  obtain ⟨i0, i1, i2⟩ := id c03
  obtain ⟨j0, j1, j2⟩ := id c13
  go_wp2_with fail
  refine (D1.out _).mono ?_
  rintro e w4 ⟨rfl, h4⟩
  have c04 := c03.below h4
  have hb4 := hb3.trans (h4.mono (Nat.le_of_lt i0))
  clear h4 c03 c13 hb3 i0 i1 i2 j0 j1 j2
  obtain ⟨i0, i1, i2⟩ := id c04
  go_wp2_with fail
  refine (alive07 _).mono ?_
  rintro e w5 ⟨rfl, h5⟩
  have hb5 := (hb4.alloc (Nat.le_of_lt i0) _).trans (h5.mono (by simp; omega))
  clear h5 hb4
  go_wp2_with fail
  go_ret
  exact ⟨rfl, by rw [Hg.out]; exact hb5⟩

set_option maxHeartbeats 2000000 in
theorem rowEntries_ne2 (k k' : ByteArray) (c c' : Nat) (w : World) (hk : k.size ≤ maxLen) (hk' : k'.size ≤ maxLen) (hl : wrap64 ((k.size : Int) + (k'.size : Int)) ≤ 1024) (X Y : ByteArray) (hX : X.size ≤ 1000)
    (e1 : ∀ W, Calls Try.prog 34 #[.agg #[.string k, .int .u32 c]] W fun e w' => e = .returned (.tuple #[.string X, .int .i64 0]) ∧ Below W.heap.size W w')
    (e2 : ∀ W, Calls Try.prog 35 #[.agg #[.string k, .int .u32 c]] W fun e w' => e = .returned (.tuple #[.string X, .int .i64 0]) ∧ Below W.heap.size W w')
    (e3 : ∀ W, Calls Try.prog 34 #[.agg #[.string k', .int .u32 c']] W fun e w' => e = .returned (.tuple #[.string Y, .int .i64 0]) ∧ Below W.heap.size W w')
    (d1 : ∀ W, Calls Try.prog 32 #[.string X] W fun e w' => e = .returned (.tuple #[.agg #[.string k, .int .u32 c], .int .i64 0]) ∧ Below W.heap.size W w') (hXY : (X.toList == Y.toList) = false) (hkc : k.toList = k'.toList) (hcc : ¬ (c : Int) = (c' : Int)) :
    Calls Try.prog 9 #[.agg #[.string k, .int .u32 c], .agg #[.string k', .int .u32 c']] w fun e w' => e = .returned (.bool true) ∧ Below w.heap.size w w' := by
  have E1 := Lib.hid e1
  have E2 := Lib.hid e2
  have E3 := Lib.hid e3
  have D1 := Lib.hid d1
  clear e1 e2 e3 d1
  go_enter Try.func9, Try.ntmps9
  have H0 := ((EntIn.new w k c 47).below ((Below.refl _ _).alloc (Nat.le_refl _) (.cells #[.string k', .int .u32 c'] 47)))
  have H1 : EntIn ((w.alloc (.cells #[.string k, .int .u32 c] 47)).alloc (.cells #[.string k', .int .u32 c'] 47)) (w.heap.size + 1) k' c' := by
    have h := EntIn.new (w.alloc (.cells #[.string k, .int .u32 c] 47)) k' c' 47
    have hz : (w.alloc (.cells #[.string k, .int .u32 c] 47)).heap.size = w.heap.size + 1 := by simp
    rwa [hz] at h
  have hbw : Below w.heap.size w ((w.alloc (.cells #[.string k, .int .u32 c] 47)).alloc (.cells #[.string k', .int .u32 c'] 47)) := ((Below.refl _ _).alloc (Nat.le_refl _) _).alloc (by simp) _
  go_wp2_with fail
  refine (E1.out _).mono ?_
  rintro e w1 ⟨rfl, h1⟩
  have c0 := H0.below h1
  have c1 := H1.below h1
  have hb1 := hbw.trans (h1.mono (by simp; omega))
  clear h1 H0 H1 hbw
  generalize hx : w.heap.size + 1 = x at c1 ⊢
  generalize hg : w.heap.size = g at c0 hb1 ⊢
  have Hg := Lib.hid hg
  clear hg hx
  obtain ⟨i0, i1, i2⟩ := id c0
  obtain ⟨j0, j1, j2⟩ := id c1
  go_wp2_with fail
  refine (E2.out _).mono ?_
  rintro e w2 ⟨rfl, h2⟩
  have c02 := c0.below h2
  have c12 := c1.below h2
  have hb2 := hb1.trans (h2.mono (Nat.le_of_lt i0))
  clear h2 c0 c1 hb1 i0 i1 i2 j0 j1 j2
  obtain ⟨i0, i1, i2⟩ := id c02
  obtain ⟨j0, j1, j2⟩ := id c12
  go_wp2_with fail
  refine (E3.out _).mono ?_
  rintro e w3 ⟨rfl, h3⟩
  have c03 := c02.below h3
  have c13 := c12.below h3
  have hb3 := hb2.trans (h3.mono (Nat.le_of_lt i0))
  clear h3 c02 c12 hb2 i0 i1 i2 j0 j1 j2
  obtain ⟨i0, i1, i2⟩ := id c03
  obtain ⟨j0, j1, j2⟩ := id c13
  go_wp2_with fail
  refine (D1.out _).mono ?_
  rintro e w4 ⟨rfl, h4⟩
  have c04 := c03.below h4
  have hb4 := hb3.trans (h4.mono (Nat.le_of_lt i0))
  clear h4 c03 c13 hb3 i0 i1 i2 j0 j1 j2
  obtain ⟨i0, i1, i2⟩ := id c04
  go_wp2_with fail
  refine (alive07 _).mono ?_
  rintro e w5 ⟨rfl, h5⟩
  have hb5 := (hb4.alloc (Nat.le_of_lt i0) _).trans (h5.mono (by simp; omega))
  clear h5 hb4
  go_wp2_with fail
  go_ret
  exact ⟨rfl, by rw [Hg.out]; exact hb5⟩

theorem rowEntries_walk (k k' : ByteArray) (c c' : Nat) (w : World) (hk : k.size ≤ maxLen) (hk' : k'.size ≤ maxLen) :
    Calls Try.prog 9 #[.agg #[.string k, .int .u32 c], .agg #[.string k', .int .u32 c']] w fun e w' => e = .returned (.bool true) ∧ Below w.heap.size w w' := by
  by_cases hl : 1024 < wrap64 ((k.size : Int) + (k'.size : Int))
  · exact rowEntries_long k k' c c' w hl
  · have hl := Int.not_lt.1 hl
    cases hm' : mayEnt k'.size c' with
    | false =>
      have e3 := fun W => entEncode_no k' c' W hk' hm'
      cases hm : mayEnt k.size c with
      | false => exact rowEntries_no k k' c c' w hk hk' hl hm 2 _ e3
      | true =>
        refine rowEntries_yn k k' c c' w hk hk' hl _ _ ?_ (fun W => entEncode_yes k c W hm) (fun W => refEntEncode_yes k c W hm) e3 (fun W => ?_)
        · rw [mayEnt_iff] at hm
          show (encEnt k.data.toList c).toArray.size ≤ 1000
          unfold encEnt
          simp [be_length]
          omega
        · have h := entDecode_any ⟨(encEnt k.data.toList c).toArray⟩ W ?_
          · rw [show (⟨(encEnt k.data.toList c).toArray⟩ : ByteArray).data.toList = encEnt k.data.toList c from rfl, decEnt_encEnt _ _ (by simpa using hm)] at h
            simpa using h
          · rw [mayEnt_iff] at hm
            show (encEnt k.data.toList c).toArray.size ≤ 1000000
            unfold encEnt
            simp [be_length]
            omega
    | true =>
      have e3 := fun W => entEncode_yes k' c' W hm'
      cases hm : mayEnt k.size c with
      | false => exact rowEntries_no k k' c c' w hk hk' hl hm 0 _ e3
      | true =>
        have hX : (⟨(encEnt k.data.toList c).toArray⟩ : ByteArray).size ≤ 1000 := by
          rw [mayEnt_iff] at hm
          show (encEnt k.data.toList c).toArray.size ≤ 1000
          unfold encEnt
          simp [be_length]
          omega
        have d1 : ∀ W, Calls Try.prog 32 #[.string ⟨(encEnt k.data.toList c).toArray⟩] W fun e w' => e = .returned (.tuple #[.agg #[.string k, .int .u32 c], .int .i64 0]) ∧ Below W.heap.size W w' := by
          intro W
          have h := entDecode_any ⟨(encEnt k.data.toList c).toArray⟩ W (by omega)
          rw [show (⟨(encEnt k.data.toList c).toArray⟩ : ByteArray).data.toList = encEnt k.data.toList c from rfl, decEnt_encEnt _ _ (by simpa using hm)] at h
          simpa using h
        have hq := encEnt_eq k k' c c' hm hm'
        by_cases h1 : k.toList = k'.toList
        · by_cases h2 : (c : Int) = (c' : Int)
          · obtain rfl : k = k' := by
              rw [toList_data, toList_data] at h1
              exact bytes_ext h1
            obtain rfl : c = c' := by omega
            exact rowEntries_eq k c w hk hl _ hX (fun W => entEncode_yes k c W hm) (fun W => refEntEncode_yes k c W hm) d1
          · refine rowEntries_ne2 k k' c c' w hk hk' hl _ _ hX (fun W => entEncode_yes k c W hm) (fun W => refEntEncode_yes k c W hm) e3 d1 ?_ h1 h2
            rw [hq]
            simp [h2]
        · refine rowEntries_ne1 k k' c c' w hk hk' hl _ _ hX (fun W => entEncode_yes k c W hm) (fun W => refEntEncode_yes k c W hm) e3 d1 ?_ h1
          rw [hq]
          simp [h1]

end Go.Proofs.Ytahaikfijegknaa
