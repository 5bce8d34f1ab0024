/- The reference's Encode of undo records -/
import Derived.Test.YtahaikfijegknaaRows
import Derived.Test.YtahaikfijegknaaUndoEncode
import Derived.Test.YtahaikfijegknaaRowRefEncode
import Derived.WalkKit
import Derived.WalkLawsBesides
import Derived.WalkSpells
import Derived.LoopTactic
import Derived.WalkMore
import Derived.LoopN
import Derived.Laws.BitsAllLaws
import Derived.Laws.IdiomStrings
import Derived.BigQuiet
import Derived.Deep.QuietTactic
import Derived.Deep.DeepCutAuto
import Derived.Deep.RegionHeld3
import Derived.Deep.DrawnRows
import Derived.Lib.Hide
import Derived.Outline
import Derived.Deep.DeepMust
import Derived.Handy
namespace Go.Proofs.Ytahaikfijegknaa
open Go.RowKit
set_option linter.unusedVariables false
set_option linter.unusedSimpArgs false

theorem ret_str1 {s s' : ByteArray} (h : s = s') : Ending.returned (.string s) = .returned (.string s') := by rw [h]

theorem refUndoEncode_no (kd x pg sl : Nat) (y k v : ByteArray) (m : Bool) (t p s : Nat) (d : Int) (w : World) (hy : y.size ≤ maxLen) (hk : k.size ≤ maxLen) (hv : v.size ≤ maxLen) (hm : mayUndo kd x pg sl y k m t p s v d = false) :
    Calls Try.prog 42 #[.agg #[.int .u8 kd, .int .u64 x, .int .u32 pg, .int .u16 sl, .string y, .string k, .bool m, .int .u64 t, .int .u32 p, .int .u16 s, .string v, .int .i64 d]] w fun e w' => e = .returned (.string ⟨#[]⟩) ∧ Below w.heap.size w w' := by
  have M := fun W => refUndoMay_any kd x pg sl y k v m t p s d W hy hk hv
  rw [hm] at M
  have HM := Lib.hid M
  clear M hm hy hk hv
  go_enter Try.func42, Try.ntmps42
  go_wp2_with fail
  refine (HM.out _).mono ?_
  rintro e w1 ⟨rfl, hb⟩
  have hbw : Below w.heap.size w w1 := ((Below.refl _ _).alloc (Nat.le_refl _) _).trans (hb.mono (by simp))
  clear hb
  go_wp2_with fail
  go_ret
  exact ⟨rfl, hbw⟩

set_option maxHeartbeats 2000000 in
set_option maxRecDepth 100000 in
theorem refUndoEncode_1 (kd x pg sl : Nat) (y k v : ByteArray) (m : Bool) (t p s : Nat) (d : Int) (w : World) (hy : y.size ≤ maxLen) (hk : k.size ≤ maxLen) (hv : v.size ≤ maxLen) (hx : x < 256 ^ 8) (hsl : sl < 256 ^ 2) (ht : t < 256 ^ 8) (hs : s < 256 ^ 2) (hkd : kd = 1) (hm : mayUndo kd x pg sl y k m t p s v d = true) :
    Calls Try.prog 42 #[.agg #[.int .u8 kd, .int .u64 x, .int .u32 pg, .int .u16 sl, .string y, .string k, .bool m, .int .u64 t, .int .u32 p, .int .u16 s, .string v, .int .i64 d]] w fun e w' => e = .returned (.string ⟨(encUndo kd x pg sl y.data.toList k.data.toList m t p s v.data.toList d).toArray⟩) ∧ Below w.heap.size w w' := by
  have M := fun W => refUndoMay_any kd x pg sl y k v m t p s d W hy hk hv
  rw [hm] at M
  have HM := Lib.hid M
  clear M
  have hhead : UHead x pg sl y.size := by
    have h := hm
    unfold mayUndo at h
    simp only [Bool.and_eq_true, decide_eq_true_eq] at h
    exact h.1
  obtain ⟨h1, h2, h3, h4, h5⟩ := hhead
  have n8 := fun W => refUput_8 x W hx
  have n4 := fun W => refUput_4 pg W (by omega)
  have n2 := fun W => refUput_2 sl W hsl
  have n1 := fun W => refUput_1 kd W (by omega)
  have z8 := be_str 8 x
  have z4 := be_str 4 pg
  have z2 := be_str 2 sl
  have z1 := be_str 1 kd
  have hfin : Hid ((⟨(be 1 kd).toArray⟩ : ByteArray) ++ ⟨(be 8 x).toArray⟩ ++ ⟨(be 4 pg).toArray⟩ ++ ⟨(be 2 sl).toArray⟩ ++ y =
      (⟨(encUndo kd x pg sl y.data.toList k.data.toList m t p s v.data.toList d).toArray⟩ : ByteArray)) := by
    apply bytes_ext
    simp only [ByteArray.data_append, Array.toList_append, encUndo, if_pos hkd]
    simp
  generalize (⟨(encUndo kd x pg sl y.data.toList k.data.toList m t p s v.data.toList d).toArray⟩ : ByteArray) = fin at hfin ⊢
  generalize (⟨(be 8 x).toArray⟩ : ByteArray) = x8 at n8 z8 hfin
  generalize (⟨(be 4 pg).toArray⟩ : ByteArray) = x4 at n4 z4 hfin
  generalize (⟨(be 2 sl).toArray⟩ : ByteArray) = x2 at n2 z2 hfin
  generalize (⟨(be 1 kd).toArray⟩ : ByteArray) = x1 at n1 z1 hfin
  have y8 := Nat.le_of_eq z8
  have y4 := Nat.le_of_eq z4
  have y2 := Nat.le_of_eq z2
  have y1 := Nat.le_of_eq z1
  subst hkd
  have N8 := Lib.hid n8
  have N4 := Lib.hid n4
  have N2 := Lib.hid n2
  have N1 := Lib.hid n1
  clear n8 n4 n2 n1 z8 z4 z2 z1 hx ht hs hm hk hv h1 h3 h4 hy
  simp only [Nat.reducePow] at hsl
  go_enter Try.func42, Try.ntmps42
  go_wp2_with fail
  refine (HM.out _).mono ?_
  rintro e w1 ⟨rfl, hb⟩
  have hG := (hb.block _ (by simp)).trans (heap_alloc_new w (.cells #[.int .u8 1, .int .u64 x, .int .u32 pg, .int .u16 sl, .string y, .string k, .bool m, .int .u64 t, .int .u32 p, .int .u16 s, .string v, .int .i64 d] 58))
  have hbw : Below w.heap.size w w1 := ((Below.refl _ _).alloc (Nat.le_refl _) _).trans (hb.mono (by simp))
  clear hb
  generalize hg : w.heap.size = g at hG hbw
  have Hg := Lib.hid hg
  clear hg
  have g0 := blk_lt hG
  have i0 := blk_cell hG 0
  have i1 := blk_cell hG 1
  have i2 := blk_cell hG 2
  have i3 := blk_cell hG 3
  have HG := Lib.hid hG
  clear hG
  go_wp2_with fail
  have e0 := ext_cell i0 g0
  have e1 := ext_cell i1 g0
  have e2 := ext_cell i2 g0
  have e3 := ext_cell i3 g0
  refine wp_region_ext w1.heap.size (by kernel_rfl) (by kernel_rfl) ?_
  repeat (go_big_quiet_step (first
      | (go_at_call_of 56 (Value.int .i64 8); exact ext_call _ (Nat.le_refl _) (N8.out _))
      | (go_at_call_of 56 (Value.int .i64 4); exact ext_call _ (Nat.le_refl _) (N4.out _))
      | (go_at_call_of 56 (Value.int .i64 2); exact ext_call _ (Nat.le_refl _) (N2.out _))
      | (go_at_call_of 56 (Value.int .i64 1); exact ext_call _ (Nat.le_refl _) (N1.out _))))
  refine wpQuiet_nil ?_
  rintro _ ⟨X, rfl⟩
  have hx := hbw.trans (X.below.mono (Nat.le_of_lt g0))
  have hG := (X.below.block _ g0).trans HG.out
  generalize X.val = wz at hx hG
  clear i0 i1 i2 i3 e0 e1 e2 e3 N8 N4 N2 N1 HM HG
  have i0 := blk_cell hG 0
  have i4 := blk_cell hG 4
  go_wp2_with fail
  go_ret
  exact ⟨ret_str1 hfin.out, by rw [Hg.out]; exact hx⟩

set_option maxHeartbeats 2000000 in
set_option maxRecDepth 100000 in
theorem refUndoEncode_2 (kd x pg sl : Nat) (y k v : ByteArray) (m : Bool) (t p s : Nat) (d : Nat) (w : World) (hy : y.size ≤ maxLen) (hk : k.size ≤ maxLen) (hv : v.size ≤ maxLen) (hx : x < 256 ^ 8) (hsl : sl < 256 ^ 2) (ht : t < 256 ^ 8) (hs : s < 256 ^ 2) (hkd : kd = 2) (hm : mayUndo kd x pg sl y k m t p s v d = true) :
    Calls Try.prog 42 #[.agg #[.int .u8 kd, .int .u64 x, .int .u32 pg, .int .u16 sl, .string y, .string k, .bool m, .int .u64 t, .int .u32 p, .int .u16 s, .string v, .int .i64 d]] w fun e w' => e = .returned (.string ⟨(encUndo kd x pg sl y.data.toList k.data.toList m t p s v.data.toList d).toArray⟩) ∧ Below w.heap.size w w' := by
  have M := fun W => refUndoMay_any kd x pg sl y k v m t p s d W hy hk hv
  rw [hm] at M
  have HM := Lib.hid M
  clear M
  have hhead : UHead x pg sl y.size := by
    have h := hm
    unfold mayUndo at h
    simp only [Bool.and_eq_true, decide_eq_true_eq] at h
    exact h.1
  obtain ⟨h1, h2, h3, h4, h5⟩ := hhead
  have hr : mayRow k.size v.size p s d = true := by
    have h := hm
    unfold mayUndo at h
    rw [if_neg (by omega)] at h
    simp only [Bool.and_eq_true] at h
    exact h.2.2.2
  have E0 := fun W => refEncode_yes k v m t p s d W hk hv ht hs hr
  have n8 := fun W => refUput_8 x W hx
  have n4 := fun W => refUput_4 pg W (by omega)
  have n2 := fun W => refUput_2 sl W hsl
  have n1 := fun W => refUput_1 kd W (by omega)
  have z8 := be_str 8 x
  have z4 := be_str 4 pg
  have z2 := be_str 2 sl
  have z1 := be_str 1 kd
  have hfin : Hid ((⟨(be 1 kd).toArray⟩ : ByteArray) ++ ⟨(be 8 x).toArray⟩ ++ ⟨(be 4 pg).toArray⟩ ++ ⟨(be 2 sl).toArray⟩ ++ ⟨(encRow k.data.toList v.data.toList m t p s d).toArray⟩ =
      (⟨(encUndo kd x pg sl y.data.toList k.data.toList m t p s v.data.toList d).toArray⟩ : ByteArray)) := by
    apply bytes_ext
    simp only [ByteArray.data_append, Array.toList_append, encUndo, if_neg (show ¬ kd = 1 by omega), Int.toNat_natCast]
    simp
  have zr : (⟨(encRow k.data.toList v.data.toList m t p s d).toArray⟩ : ByteArray).size ≤ 161 := by
    have := mayRow_iff.1 hr
    show (encRow k.data.toList v.data.toList m t p s d).toArray.size ≤ 161
    simp only [encRow]
    simp [be_length]
    omega
  generalize (⟨(encRow k.data.toList v.data.toList m t p s d).toArray⟩ : ByteArray) = xr at E0 zr hfin
  have E := Lib.hid E0
  clear E0 hr
  generalize (⟨(encUndo kd x pg sl y.data.toList k.data.toList m t p s v.data.toList d).toArray⟩ : ByteArray) = fin at hfin ⊢
  generalize (⟨(be 8 x).toArray⟩ : ByteArray) = x8 at n8 z8 hfin
  generalize (⟨(be 4 pg).toArray⟩ : ByteArray) = x4 at n4 z4 hfin
  generalize (⟨(be 2 sl).toArray⟩ : ByteArray) = x2 at n2 z2 hfin
  generalize (⟨(be 1 kd).toArray⟩ : ByteArray) = x1 at n1 z1 hfin
  have y8 := Nat.le_of_eq z8
  have y4 := Nat.le_of_eq z4
  have y2 := Nat.le_of_eq z2
  have y1 := Nat.le_of_eq z1
  subst hkd
  have N8 := Lib.hid n8
  have N4 := Lib.hid n4
  have N2 := Lib.hid n2
  have N1 := Lib.hid n1
  clear n8 n4 n2 n1 z8 z4 z2 z1 hx ht hs hm hk hv h1 h3 h4 hy
  simp only [Nat.reducePow] at hsl
  go_enter Try.func42, Try.ntmps42
  go_wp2_with fail
  refine (HM.out _).mono ?_
  rintro e w1 ⟨rfl, hb⟩
  have hG := (hb.block _ (by simp)).trans (heap_alloc_new w (.cells #[.int .u8 2, .int .u64 x, .int .u32 pg, .int .u16 sl, .string y, .string k, .bool m, .int .u64 t, .int .u32 p, .int .u16 s, .string v, .int .i64 d] 58))
  have hbw : Below w.heap.size w w1 := ((Below.refl _ _).alloc (Nat.le_refl _) _).trans (hb.mono (by simp))
  clear hb
  generalize hg : w.heap.size = g at hG hbw
  have Hg := Lib.hid hg
  clear hg
  have g0 := blk_lt hG
  have i0 := blk_cell hG 0
  have i1 := blk_cell hG 1
  have i2 := blk_cell hG 2
  have i3 := blk_cell hG 3
  have HG := Lib.hid hG
  clear hG
  go_wp2_with fail
  have e0 := ext_cell i0 g0
  have e1 := ext_cell i1 g0
  have e2 := ext_cell i2 g0
  have e3 := ext_cell i3 g0
  refine wp_region_ext w1.heap.size (by kernel_rfl) (by kernel_rfl) ?_
  repeat (go_big_quiet_step (first
      | (go_at_call_of 56 (Value.int .i64 8); exact ext_call _ (Nat.le_refl _) (N8.out _))
      | (go_at_call_of 56 (Value.int .i64 4); exact ext_call _ (Nat.le_refl _) (N4.out _))
      | (go_at_call_of 56 (Value.int .i64 2); exact ext_call _ (Nat.le_refl _) (N2.out _))
      | (go_at_call_of 56 (Value.int .i64 1); exact ext_call _ (Nat.le_refl _) (N1.out _))))
  refine wpQuiet_nil ?_
  rintro _ ⟨X, rfl⟩
  have hx := hbw.trans (X.below.mono (Nat.le_of_lt g0))
  have hG := (X.below.block _ g0).trans HG.out
  generalize X.val = wz at hx hG
  clear i0 i1 i2 i3 e0 e1 e2 e3 N8 N4 N2 N1 HM HG
  have i0 := blk_cell hG 0
  have i5 := blk_cell hG 5
  have i6 := blk_cell hG 6
  have i7 := blk_cell hG 7
  have i8 := blk_cell hG 8
  have i9 := blk_cell hG 9
  have i10 := blk_cell hG 10
  have i11 := blk_cell hG 11
  have g1 := blk_lt hG
  clear hG
  go_wp2_with fail
  refine (E.out _).mono ?_
  rintro e w5 ⟨rfl, hb5⟩
  have hx5 := hx.trans (hb5.mono (Nat.le_of_lt g1))
  clear hb5
  go_wp2_with fail
  go_ret
  exact ⟨ret_str1 hfin.out, by rw [Hg.out]; exact hx5⟩

end Go.Proofs.Ytahaikfijegknaa
