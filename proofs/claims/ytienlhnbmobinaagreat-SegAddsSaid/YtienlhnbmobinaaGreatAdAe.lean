/- Kept of our texts for this claim: RowA -/
import Derived.Test.YtienlhnbmobinaaGreatRows
import Derived.Test.YtienlhnbmobinaaGreatAdAb
import Derived.Test.YtienlhnbmobinaaGreatAdAa
import Derived.WalkKit
import Derived.WalkLawsBesides
import Derived.WalkSpells
import Derived.LoopTactic
import Derived.WalkMore
import Derived.Test.YtienlhnbmobinaaGreatAdAc
import Derived.BigQuiet
import Derived.Deep.QuietTactic
import Derived.Lib.Hide
import Derived.Outline
import Derived.Deep.DeepCutAuto
import Derived.Test.YtienlhnbmobinaaGreatAdAd
import Derived.LoopN
import Derived.Laws.BitsAllLaws
import Derived.Laws.IdiomStrings
import Derived.Deep.RegionHeld3
import Derived.Deep.DrawnRows
import Derived.Handy
import Derived.Deep.DeepMust
section
/- The contracts of package key, of the document's answer for it, and of the law's two helpers: what each function returns; the world is as it was (or has new blocks alone).; The contracts of row.May, of the document's answer for it, and of the two packages' words for a number's bytes.; The contracts of row.Encode and row.Size: a row's bytes, and how many they are.; The contracts of the document's answer for a row's bytes.; The contracts of a reading's two methods: what they give, where the reading stands behind them.; The contract of the closure that row.Decode reads a piece by. -/
namespace Go.Proofs.YtienlhnbmobinaaGreat
open Go.RowKit
set_option linter.unusedVariables false
theorem keyMay_any (s : ByteArray) (w : World) (hs : s.size ≤ maxLen) :
    Calls Tryz.prog 79 #[.string s] w fun e w' => e = .returned (.bool (decide (1 ≤ s.size ∧ s.size ≤ 48))) ∧ w = w' := by
  unfold maxLen at hs
  have H : (decide (1 ≤ s.size ∧ s.size ≤ 48)) = (decide (1 ≤ s.size) && decide ((s.size : Int) ≤ 48)) := by
    rw [Bool.eq_iff_iff]; simp; omega
  rw [H]; clear H
  by_cases h1 : 1 ≤ s.size
  · go_enter Tryz.func79, Tryz.ntmps79
    go_wp2
    go_ret
    exact ⟨ret_bool (by simp [h1]), rfl⟩
  · go_enter Tryz.func79, Tryz.ntmps79
    go_wp2
    go_ret
    exact ⟨ret_bool (by simp), rfl⟩
theorem q0 (w : World) : ∃ m, w = w.drewN m := ⟨0, rfl⟩
theorem qd {w w1 : World} (h : ∃ m, w1 = w.drewN m) (n : Nat) : ∃ m, w1.drewN n = w.drewN m := by
  obtain ⟨m, rfl⟩ := h
  exact ⟨m + n, World.drewN_drewN _ _ _⟩
end Go.Proofs.YtienlhnbmobinaaGreat
namespace Go.Proofs.YtienlhnbmobinaaGreat
open Go.RowKit
set_option linter.unusedVariables false
set_option linter.unusedSimpArgs false
set_option maxHeartbeats 1000000 in
theorem rowMay_any (k v : ByteArray) (m : Bool) (t p s : Nat) (d : Int) (w : World) (hk : k.size ≤ maxLen) (hv : v.size ≤ maxLen) :
    Calls Tryz.prog 80 #[.agg #[.string k, .bool m, .int .u64 t, .int .u32 p, .int .u16 s, .string v, .int .i64 d]] w fun e w' => e = .returned (.bool (mayRow k.size v.size p s d)) ∧ Below w.heap.size w w' := by
  have M := Lib.hid fun W => keyMay_any k W hk
  unfold maxLen at hk hv
  generalize hb : mayRow k.size v.size p s d = b
  have hb' : b = true ↔ 1 ≤ k.size ∧ k.size ≤ 48 ∧ 0 ≤ d ∧ d ≤ 96 ∧ (v.size : Int) + d ≤ 96 ∧ p ≤ 1024 ∧ (0 < p ∨ s = 0) := by rw [← hb]; exact mayRow_iff
  clear hb
  have Hb := Lib.hid hb'
  clear hb'
  go_enter Tryz.func80, Tryz.ntmps80
  go_wp2_with fail
  refine (M.out _).mono ?_
  rintro e w1 ⟨rfl, rfl⟩
  go_wp2_with fail
  all_goals go_ret
  all_goals refine ⟨ret_bool ?_, (Below.refl _ _).alloc (Nat.le_refl _) _⟩
  all_goals
    have h := Hb.out
    rw [Bool.eq_iff_iff]
    simp only [h]
    simp
    try omega
set_option maxHeartbeats 1000000 in
theorem refMay_any (k v : ByteArray) (m : Bool) (t p s : Nat) (d : Int) (w : World) (hk : k.size ≤ maxLen) (hv : v.size ≤ maxLen) :
    Calls Tryz.prog 43 #[.agg #[.string k, .bool m, .int .u64 t, .int .u32 p, .int .u16 s, .string v, .int .i64 d]] w fun e w' => e = .returned (.bool (mayRow k.size v.size p s d)) ∧ Below w.heap.size w w' := by
  unfold maxLen at hk hv
  generalize hb : mayRow k.size v.size p s d = b
  have hb' : b = true ↔ 1 ≤ k.size ∧ k.size ≤ 48 ∧ 0 ≤ d ∧ d ≤ 96 ∧ (v.size : Int) + d ≤ 96 ∧ p ≤ 1024 ∧ (0 < p ∨ s = 0) := by rw [← hb]; exact mayRow_iff
  clear hb
  have Hb := Lib.hid hb'
  clear hb'
  go_enter Tryz.func43, Tryz.ntmps43
  go_wp2_with fail
  all_goals go_ret
  all_goals refine ⟨ret_bool ?_, (Below.refl _ _).alloc (Nat.le_refl _) _⟩
  all_goals
    have h := Hb.out
    rw [Bool.eq_iff_iff]
    simp only [h]
    simp
    try omega
theorem number_1 (n : Nat) (w : World) (hn : n < 256 ^ 1) :
    Calls Tryz.prog 91 #[.int .u64 n, .int .i64 1] w fun e w' => e = .returned (.string ⟨(be 1 n).toArray⟩) ∧ Below w.heap.size w w' := by
  have C := Lib.hid fun W => put_1 n W hn
  clear hn
  go_enter Tryz.func91, Tryz.ntmps91
  go_wp2_with fail
  refine (C.out _).mono ?_
  rintro e w1 ⟨rfl, hb⟩
  go_wp2_with fail
  go_ret
  exact ⟨rfl, hb⟩
theorem refNum_1 (n : Nat) (w : World) (hn : n < 256 ^ 1) :
    Calls Tryz.prog 45 #[.int .u64 n, .int .i64 1] w fun e w' => e = .returned (.string ⟨(be 1 n).toArray⟩) ∧ Below w.heap.size w w' := by
  have C := Lib.hid fun W => refPut_1 n W hn
  clear hn
  go_enter Tryz.func45, Tryz.ntmps45
  go_wp2_with fail
  refine (C.out _).mono ?_
  rintro e w1 ⟨rfl, hb⟩
  go_wp2_with fail
  go_ret
  exact ⟨rfl, hb⟩
theorem number_2 (n : Nat) (w : World) (hn : n < 256 ^ 2) :
    Calls Tryz.prog 91 #[.int .u64 n, .int .i64 2] w fun e w' => e = .returned (.string ⟨(be 2 n).toArray⟩) ∧ Below w.heap.size w w' := by
  have C := Lib.hid fun W => put_2 n W hn
  clear hn
  go_enter Tryz.func91, Tryz.ntmps91
  go_wp2_with fail
  refine (C.out _).mono ?_
  rintro e w1 ⟨rfl, hb⟩
  go_wp2_with fail
  go_ret
  exact ⟨rfl, hb⟩
theorem refNum_2 (n : Nat) (w : World) (hn : n < 256 ^ 2) :
    Calls Tryz.prog 45 #[.int .u64 n, .int .i64 2] w fun e w' => e = .returned (.string ⟨(be 2 n).toArray⟩) ∧ Below w.heap.size w w' := by
  have C := Lib.hid fun W => refPut_2 n W hn
  clear hn
  go_enter Tryz.func45, Tryz.ntmps45
  go_wp2_with fail
  refine (C.out _).mono ?_
  rintro e w1 ⟨rfl, hb⟩
  go_wp2_with fail
  go_ret
  exact ⟨rfl, hb⟩
theorem number_4 (n : Nat) (w : World) (hn : n < 256 ^ 4) :
    Calls Tryz.prog 91 #[.int .u64 n, .int .i64 4] w fun e w' => e = .returned (.string ⟨(be 4 n).toArray⟩) ∧ Below w.heap.size w w' := by
  have C := Lib.hid fun W => put_4 n W hn
  clear hn
  go_enter Tryz.func91, Tryz.ntmps91
  go_wp2_with fail
  refine (C.out _).mono ?_
  rintro e w1 ⟨rfl, hb⟩
  go_wp2_with fail
  go_ret
  exact ⟨rfl, hb⟩
theorem refNum_4 (n : Nat) (w : World) (hn : n < 256 ^ 4) :
    Calls Tryz.prog 45 #[.int .u64 n, .int .i64 4] w fun e w' => e = .returned (.string ⟨(be 4 n).toArray⟩) ∧ Below w.heap.size w w' := by
  have C := Lib.hid fun W => refPut_4 n W hn
  clear hn
  go_enter Tryz.func45, Tryz.ntmps45
  go_wp2_with fail
  refine (C.out _).mono ?_
  rintro e w1 ⟨rfl, hb⟩
  go_wp2_with fail
  go_ret
  exact ⟨rfl, hb⟩
theorem number_8 (n : Nat) (w : World) (hn : n < 256 ^ 8) :
    Calls Tryz.prog 91 #[.int .u64 n, .int .i64 8] w fun e w' => e = .returned (.string ⟨(be 8 n).toArray⟩) ∧ Below w.heap.size w w' := by
  have C := Lib.hid fun W => put_8 n W hn
  clear hn
  go_enter Tryz.func91, Tryz.ntmps91
  go_wp2_with fail
  refine (C.out _).mono ?_
  rintro e w1 ⟨rfl, hb⟩
  go_wp2_with fail
  go_ret
  exact ⟨rfl, hb⟩
theorem refNum_8 (n : Nat) (w : World) (hn : n < 256 ^ 8) :
    Calls Tryz.prog 45 #[.int .u64 n, .int .i64 8] w fun e w' => e = .returned (.string ⟨(be 8 n).toArray⟩) ∧ Below w.heap.size w w' := by
  have C := Lib.hid fun W => refPut_8 n W hn
  clear hn
  go_enter Tryz.func45, Tryz.ntmps45
  go_wp2_with fail
  refine (C.out _).mono ?_
  rintro e w1 ⟨rfl, hb⟩
  go_wp2_with fail
  go_ret
  exact ⟨rfl, hb⟩
end Go.Proofs.YtienlhnbmobinaaGreat
namespace Go.Proofs.YtienlhnbmobinaaGreat
open Go.RowKit
set_option linter.unusedVariables false
set_option linter.unusedSimpArgs false
/-- The seven cells of a row in a block of its own. -/
def RowIn (w : World) (g : Nat) (k v : ByteArray) (m : Bool) (t p s : Nat) (d : Int) : Prop :=
  g < w.heap.size ∧ w.cell? ⟨g, 0, none⟩ = some (.string k) ∧ w.cell? ⟨g, 1, none⟩ = some (.bool m) ∧ w.cell? ⟨g, 2, none⟩ = some (.int .u64 t) ∧ w.cell? ⟨g, 3, none⟩ = some (.int .u32 p) ∧
    w.cell? ⟨g, 4, none⟩ = some (.int .u16 s) ∧ w.cell? ⟨g, 5, none⟩ = some (.string v) ∧ w.cell? ⟨g, 6, none⟩ = some (.int .i64 d)
theorem RowIn.below {w w' : World} {g : Nat} {k v : ByteArray} {m : Bool} {t p s : Nat} {d : Int} (h : RowIn w g k v m t p s d) (hb : Below w.heap.size w w') : RowIn w' g k v m t p s d := by
  obtain ⟨h0, h1, h2, h3, h4, h5, h6, h7⟩ := h
  have := hb.size
  exact ⟨by omega, by rw [(bcell hb).1 _ _ h0, h1], by rw [(bcell hb).1 _ _ h0, h2], by rw [(bcell hb).1 _ _ h0, h3], by rw [(bcell hb).1 _ _ h0, h4], by rw [(bcell hb).1 _ _ h0, h5], by rw [(bcell hb).1 _ _ h0, h6], by rw [(bcell hb).1 _ _ h0, h7]⟩
theorem RowIn.new (w : World) (k v : ByteArray) (m : Bool) (t p s : Nat) (d : Int) (ty : TypeId) :
    RowIn (w.alloc (.cells #[.string k, .bool m, .int .u64 t, .int .u32 p, .int .u16 s, .string v, .int .i64 d] ty)) w.heap.size k v m t p s d := by
  refine ⟨by simp, ?_, ?_, ?_, ?_, ?_, ?_, ?_⟩ <;> (rw [World.cell?_alloc_mark]; rfl)
theorem repeat_zero : ∀ d : Nat, Lib.repeatL [0] d = List.replicate d 0
  | 0 => rfl
  | d + 1 => by rw [Lib.repeatL, repeat_zero d]; rfl
theorem repeat_pads (d : Nat) (w : World) (h : d ≤ 1000000) :
    Calls Tryz.prog 92 #[.string ⟨#[0]⟩, .int .i64 d] w fun e w' => e = .returned (.string ⟨(List.replicate d 0).toArray⟩) ∧ Below w.heap.size w w' := by
  rw [← repeat_zero]
  exact Tryz.strings_Repeat ⟨#[0]⟩ d w (by omega) (by show 1 * d ≤ _; omega)
set_option maxHeartbeats 2000000 in
set_option maxRecDepth 100000 in
theorem rowEncode_yes (k v : ByteArray) (m : Bool) (t p s d : Nat) (w : World) (hk : k.size ≤ maxLen) (hv : v.size ≤ maxLen) (ht : t < 256 ^ 8) (hs : s < 256 ^ 2) (hm : mayRow k.size v.size p s d = true) :
    Calls Tryz.prog 78 #[.agg #[.string k, .bool m, .int .u64 t, .int .u32 p, .int .u16 s, .string v, .int .i64 d]] w fun e w' => e = .returned (.tuple #[.string ⟨(encRow k.data.toList v.data.toList m t p s d).toArray⟩, .int .i64 0]) ∧ Below w.heap.size w w' := by
  have M := fun W => rowMay_any k v m t p s d W hk hv
  rw [hm] at M
  have HM := Lib.hid M
  clear M
  rw [mayRow_iff] at hm
  obtain ⟨h1, h2, h3, h4, h5, h6, h7⟩ := hm
  have n8 := fun W => number_8 t W ht
  have n4 := fun W => number_4 p W (by omega)
  have n2 := fun W => number_2 s W hs
  have n1 := fun W => number_1 k.size W (by omega)
  have n1' := fun W => number_1 v.size W (by omega)
  have r := fun W => repeat_pads d W (by omega)
  have z8 := be_str 8 t
  have z4 := be_str 4 p
  have z2 := be_str 2 s
  have z1 := be_str 1 k.size
  have z1' := be_str 1 v.size
  have zr : (⟨(List.replicate d 0).toArray⟩ : ByteArray).size = d := by show (List.replicate d (0 : UInt8)).toArray.size = d; simp
  have hfin : Hid (∀ m0 : ByteArray, m0.data.toList = [if m then 1 else 0] → m0 ++ ⟨(be 8 t).toArray⟩ ++ ⟨(be 4 p).toArray⟩ ++ ⟨(be 2 s).toArray⟩ ++ ⟨(be 1 k.size).toArray⟩ ++ k ++ ⟨(be 1 v.size).toArray⟩ ++ v ++ ⟨(List.replicate d 0).toArray⟩ =
      (⟨(encRow k.data.toList v.data.toList m t p s d).toArray⟩ : ByteArray)) := by
    intro m0 h0
    apply bytes_ext
    simp only [ByteArray.data_append, Array.toList_append, h0, encRow]
    simp
  generalize hx8 : (⟨(be 8 t).toArray⟩ : ByteArray) = x8 at n8 z8 hfin
  generalize hx4 : (⟨(be 4 p).toArray⟩ : ByteArray) = x4 at n4 z4 hfin
  generalize hx2 : (⟨(be 2 s).toArray⟩ : ByteArray) = x2 at n2 z2 hfin
  generalize hx1 : (⟨(be 1 k.size).toArray⟩ : ByteArray) = x1 at n1 z1 hfin
  generalize hx1' : (⟨(be 1 v.size).toArray⟩ : ByteArray) = x1' at n1' z1' hfin
  generalize hxr : (⟨(List.replicate d 0).toArray⟩ : ByteArray) = xr at r zr hfin
  have y8 := Nat.le_of_eq z8
  have y4 := Nat.le_of_eq z4
  have y2 := Nat.le_of_eq z2
  have y1 := Nat.le_of_eq z1
  have y1' := Nat.le_of_eq z1'
  have yr := Nat.le_of_eq zr
  have N8 := Lib.hid n8
  have N4 := Lib.hid n4
  have N2 := Lib.hid n2
  have N1 := Lib.hid n1
  have N1' := Lib.hid n1'
  have R := Lib.hid r
  clear n8 n4 n2 n1 n1' r z8 z4 z2 z1 z1' zr hx8 hx4 hx2 hx1 hx1' hxr
  simp only [Nat.reducePow] at hs
  clear ht h7 hk hv
  cases m with
  | false =>
    go_enter Tryz.func78, Tryz.ntmps78
    go_wp2_with fail
    refine (HM.out _).mono ?_
    rintro e w1 ⟨rfl, hb⟩
    have hr := (RowIn.new w k v false t p s d 32).below hb
    have hbw : Below w.heap.size w w1 := ((Below.refl _ _).alloc (Nat.le_refl _) _).trans (hb.mono (by simp))
    clear hb
    generalize hg : w.heap.size = g at hr hbw
    have Hg := Lib.hid hg
    clear hg
    unfold RowIn at hr
    obtain ⟨g0, g1, g2, g3, g4, g5, g6, g7⟩ := hr
    go_wp2_with fail
    have e0 := ext_cell g1 g0
    have e2 := ext_cell g3 g0
    have e3 := ext_cell g4 g0
    have e4 := ext_cell g5 g0
    have e5 := ext_cell g6 g0
    have e6 := ext_cell g7 g0
    refine wp_region_ext w1.heap.size (by kernel_rfl) (by kernel_rfl) ?_
    repeat (go_big_quiet_step (first
        | (go_at_call_of 91 (Value.int .u64 (t : Int)); exact ext_call _ (Nat.le_refl _) (N8.out _))
        | (go_at_call_of 91 (Value.int .u64 (p : Int)); exact ext_call _ (Nat.le_refl _) (N4.out _))
        | (go_at_call_of 91 (Value.int .u64 (s : Int)); exact ext_call _ (Nat.le_refl _) (N2.out _))
        | (go_at_call_of 91 (Value.int .u64 (k.size : Int)); exact ext_call _ (Nat.le_refl _) (N1.out _))
        | (go_at_call_of 91 (Value.int .u64 (v.size : Int)); exact ext_call _ (Nat.le_refl _) (N1'.out _))
        | (go_at_call 92; exact ext_call _ (Nat.le_refl _) (R.out _))))
    refine wpQuiet_nil ?_
    rintro _ ⟨x, rfl⟩
    have hx := hbw.trans (x.below.mono (Nat.le_of_lt g0))
    generalize x.val = wz at hx
    clear g1 g2 g3 g4 g5 g6 g7 e0 e2 e3 e4 e5 e6 N8 N4 N2 N1 N1' R HM
    go_wp2_with fail
    go_ret2
    exact ⟨ret_str2 (hfin.out _ rfl), by rw [Hg.out]; exact hx⟩
  
  | true =>
    go_enter Tryz.func78, Tryz.ntmps78
    go_wp2_with fail
    refine (HM.out _).mono ?_
    rintro e w1 ⟨rfl, hb⟩
    have hr := (RowIn.new w k v true t p s d 32).below hb
    have hbw : Below w.heap.size w w1 := ((Below.refl _ _).alloc (Nat.le_refl _) _).trans (hb.mono (by simp))
    clear hb
    generalize hg : w.heap.size = g at hr hbw
    have Hg := Lib.hid hg
    clear hg
    unfold RowIn at hr
    obtain ⟨g0, g1, g2, g3, g4, g5, g6, g7⟩ := hr
    go_wp2_with fail
    have e0 := ext_cell g1 g0
    have e2 := ext_cell g3 g0
    have e3 := ext_cell g4 g0
    have e4 := ext_cell g5 g0
    have e5 := ext_cell g6 g0
    have e6 := ext_cell g7 g0
    refine wp_region_ext w1.heap.size (by kernel_rfl) (by kernel_rfl) ?_
    repeat (go_big_quiet_step (first
        | (go_at_call_of 91 (Value.int .u64 (t : Int)); exact ext_call _ (Nat.le_refl _) (N8.out _))
        | (go_at_call_of 91 (Value.int .u64 (p : Int)); exact ext_call _ (Nat.le_refl _) (N4.out _))
        | (go_at_call_of 91 (Value.int .u64 (s : Int)); exact ext_call _ (Nat.le_refl _) (N2.out _))
        | (go_at_call_of 91 (Value.int .u64 (k.size : Int)); exact ext_call _ (Nat.le_refl _) (N1.out _))
        | (go_at_call_of 91 (Value.int .u64 (v.size : Int)); exact ext_call _ (Nat.le_refl _) (N1'.out _))
        | (go_at_call 92; exact ext_call _ (Nat.le_refl _) (R.out _))))
    refine wpQuiet_nil ?_
    rintro _ ⟨x, rfl⟩
    have hx := hbw.trans (x.below.mono (Nat.le_of_lt g0))
    generalize x.val = wz at hx
    clear g1 g2 g3 g4 g5 g6 g7 e0 e2 e3 e4 e5 e6 N8 N4 N2 N1 N1' R HM
    go_wp2_with fail
    go_ret2
    exact ⟨ret_str2 (hfin.out _ rfl), by rw [Hg.out]; exact hx⟩
theorem rowEncode_no (k v : ByteArray) (m : Bool) (t p s : Nat) (d : Int) (w : World) (hk : k.size ≤ maxLen) (hv : v.size ≤ maxLen) (hm : mayRow k.size v.size p s d = false) :
    Calls Tryz.prog 78 #[.agg #[.string k, .bool m, .int .u64 t, .int .u32 p, .int .u16 s, .string v, .int .i64 d]] w fun e w' => e = .returned (.tuple #[.string ⟨#[]⟩, .int .i64 2]) ∧ Below w.heap.size w w' := by
  have M := fun W => rowMay_any k v m t p s d W hk hv
  rw [hm] at M
  have HM := Lib.hid M
  clear M
  go_enter Tryz.func78, Tryz.ntmps78
  go_wp2_with fail
  refine (HM.out _).mono ?_
  rintro e w1 ⟨rfl, hb⟩
  have hbw : Below w.heap.size w w1 := ((Below.refl _ _).alloc (Nat.le_refl _) _).trans (hb.mono (by simp))
  clear hb
  go_wp2_with fail
  go_ret2
  exact ⟨rfl, hbw⟩
end Go.Proofs.YtienlhnbmobinaaGreat
namespace Go.Proofs.YtienlhnbmobinaaGreat
open Go.RowKit
set_option linter.unusedVariables false
set_option linter.unusedSimpArgs false
theorem u8info : (Tryz.prog.info? 5).map (fun i => (i.zero, i.size, i.bytes)) = some (some (.int .u8 0), 1, 1) := by kernel_rfl
/-- The cells of a new row of d zero bytes. -/
def zeroRow (d : Nat) : Array Value := madeCells (Value.int .u8 0).cells d
theorem zeroRow_get (d i : Nat) (h : i < d) : (zeroRow d)[i]? = some (.int .u8 0) := by
  unfold zeroRow
  simp [madeCells, Value.cells, h, Nat.mod_one]
theorem conv_zero {P : Program} (w : World) (src e dst : TypeId) (hs : P.underlying src = some (.slice e)) (he : P.underlying e = some (.int .u8)) (hd : P.underlying dst = some .string) (d : Nat) (t : TypeId) :
    (convert src dst (.slice (some ⟨w.heap.size, 0, none⟩) d d)).run P (w.alloc (.cells (zeroRow d) t)) = .ok (.string ⟨(List.replicate d 0).toArray⟩) (w.alloc (.cells (zeroRow d) t)) := by
  rw [run_convert_bytes_arg _ src e hs he w.heap.size 0 d d (List.replicate d 0) (by simp) (fun i hi => ?_) dst hd]
  · simp [strOfNums]
  · rw [World.cell?_alloc_mark, Nat.zero_add, zeroRow_get d i hi]
    simp [List.getD, hi]
set_option maxHeartbeats 2000000 in
set_option maxRecDepth 100000 in
theorem refEncode_yes (k v : ByteArray) (m : Bool) (t p s d : Nat) (w : World) (hk : k.size ≤ maxLen) (hv : v.size ≤ maxLen) (ht : t < 256 ^ 8) (hs : s < 256 ^ 2) (hm : mayRow k.size v.size p s d = true) :
    Calls Tryz.prog 25 #[.agg #[.string k, .bool m, .int .u64 t, .int .u32 p, .int .u16 s, .string v, .int .i64 d]] w fun e w' => e = .returned (.tuple #[.string ⟨(encRow k.data.toList v.data.toList m t p s d).toArray⟩, .int .i64 0]) ∧ Below w.heap.size w w' := by
  have M := fun W => refMay_any k v m t p s d W hk hv
  rw [hm] at M
  have HM := Lib.hid M
  clear M
  rw [mayRow_iff] at hm
  obtain ⟨h1, h2, h3, h4, h5, h6, h7⟩ := hm
  have n8 := fun W => refNum_8 t W ht
  have n4 := fun W => refNum_4 p W (by omega)
  have n2 := fun W => refNum_2 s W hs
  have n1 := fun W => refNum_1 k.size W (by omega)
  have n1' := fun W => refNum_1 v.size W (by omega)
  have nm0 : ∀ W, Calls Tryz.prog 45 #[.int .u64 0, .int .i64 1] W fun e w' => e = .returned (.string ⟨#[0]⟩) ∧ Below W.heap.size W w' := fun W => refNum_1 0 W (by decide)
  have nm1 : ∀ W, Calls Tryz.prog 45 #[.int .u64 1, .int .i64 1] W fun e w' => e = .returned (.string ⟨#[1]⟩) ∧ Below W.heap.size W w' := fun W => refNum_1 1 W (by decide)
  have z8 := be_str 8 t
  have z4 := be_str 4 p
  have z2 := be_str 2 s
  have z1 := be_str 1 k.size
  have z1' := be_str 1 v.size
  have zr : (⟨(List.replicate d 0).toArray⟩ : ByteArray).size = d := by show (List.replicate d (0 : UInt8)).toArray.size = d; simp
  have hfin : Hid (∀ m0 : ByteArray, m0.data.toList = [if m then 1 else 0] → m0 ++ ⟨(be 8 t).toArray⟩ ++ ⟨(be 4 p).toArray⟩ ++ ⟨(be 2 s).toArray⟩ ++ ⟨(be 1 k.size).toArray⟩ ++ k ++ ⟨(be 1 v.size).toArray⟩ ++ v ++ ⟨(List.replicate d 0).toArray⟩ =
      (⟨(encRow k.data.toList v.data.toList m t p s d).toArray⟩ : ByteArray)) := by
    intro m0 h0
    apply bytes_ext
    simp only [ByteArray.data_append, Array.toList_append, h0, encRow]
    simp
  generalize hx8 : (⟨(be 8 t).toArray⟩ : ByteArray) = x8 at n8 z8 hfin
  generalize hx4 : (⟨(be 4 p).toArray⟩ : ByteArray) = x4 at n4 z4 hfin
  generalize hx2 : (⟨(be 2 s).toArray⟩ : ByteArray) = x2 at n2 z2 hfin
  generalize hx1 : (⟨(be 1 k.size).toArray⟩ : ByteArray) = x1 at n1 z1 hfin
  generalize hx1' : (⟨(be 1 v.size).toArray⟩ : ByteArray) = x1' at n1' z1' hfin
  generalize hxr : (⟨(List.replicate d 0).toArray⟩ : ByteArray) = xr at zr hfin
  have y8 := Nat.le_of_eq z8
  have y4 := Nat.le_of_eq z4
  have y2 := Nat.le_of_eq z2
  have y1 := Nat.le_of_eq z1
  have y1' := Nat.le_of_eq z1'
  have yr := Nat.le_of_eq zr
  have N8 := Lib.hid n8
  have N4 := Lib.hid n4
  have N2 := Lib.hid n2
  have N1 := Lib.hid n1
  have N1' := Lib.hid n1'
  have NM0 := Lib.hid nm0
  have NM1 := Lib.hid nm1
  have hz := info_parts u8info
  obtain ⟨i0, hi0, hz0, hz1, hz2⟩ := hz
  have hmk : ∀ W, (Instr.makeSlice 88 (.int .i64 (d : Int)) (.int .i64 (d : Int))).run Tryz.prog W = .ok (.slice (some ⟨W.heap.size, 0, none⟩) d d) (W.alloc (.cells (zeroRow d) 5)) := by
    intro W
    have := run_make (P := Tryz.prog) W 88 5 i0 _ Tryz.underlying88 hi0 hz0 .i64 .i64 d d (by omega) (Int.le_refl _) (by rw [hz2]; omega) (by omega)
    rw [hz1] at this
    simpa [zeroRow] using this
  have hcv : ∀ W : World, (convert 88 9 (.slice (some ⟨W.heap.size, 0, none⟩) d d)).run Tryz.prog (W.alloc (.cells (zeroRow d) 5)) = .ok (.string xr) (W.alloc (.cells (zeroRow d) 5)) := by
    intro W
    rw [← hxr]
    exact conv_zero W _ _ _ Tryz.underlying88 Tryz.underlying5 Tryz.underlying9 d _
  clear n8 n4 n2 n1 n1' nm0 nm1 z8 z4 z2 z1 z1' zr hx8 hx4 hx2 hx1 hx1' hxr
  simp only [Nat.reducePow] at hs
  clear ht h7 hk hv
  cases m with
  | false =>
    go_enter Tryz.func25, Tryz.ntmps25
    go_wp2_with fail
    refine (HM.out _).mono ?_
    rintro e w1 ⟨rfl, hb⟩
    have hr := (RowIn.new w k v false t p s d 32).below hb
    have hbw : Below w.heap.size w w1 := ((Below.refl _ _).alloc (Nat.le_refl _) _).trans (hb.mono (by simp))
    clear hb
    generalize hg : w.heap.size = g at hr hbw
    have Hg := Lib.hid hg
    clear hg
    have hr' := hr
    obtain ⟨g0, g1, g2, g3, g4, g5, g6, g7⟩ := hr'
    go_wp2_with fail
    have e0 := ext_cell g1 g0
    have e2 := ext_cell g3 g0
    have e3 := ext_cell g4 g0
    have e4 := ext_cell g5 g0
    have e5 := ext_cell g6 g0
    have e6 := ext_cell g7 g0
    refine wp_region_ext w1.heap.size (by kernel_rfl) (by kernel_rfl) ?_
    repeat (go_big_quiet_step (first
        | (go_at_call_of 45 (Value.int .u64 0); exact ext_call _ (Nat.le_refl _) (NM0.out _))
        | (go_at_call_of 45 (Value.int .u64 (t : Int)); exact ext_call _ (Nat.le_refl _) (N8.out _))
        | (go_at_call_of 45 (Value.int .u64 (p : Int)); exact ext_call _ (Nat.le_refl _) (N4.out _))
        | (go_at_call_of 45 (Value.int .u64 (s : Int)); exact ext_call _ (Nat.le_refl _) (N2.out _))
        | (go_at_call_of 45 (Value.int .u64 (k.size : Int)); exact ext_call _ (Nat.le_refl _) (N1.out _))
        | (go_at_call_of 45 (Value.int .u64 (v.size : Int)); exact ext_call _ (Nat.le_refl _) (N1'.out _))))
    refine wpQuiet_nil ?_
    rintro _ ⟨x, rfl⟩
    have hx := hbw.trans (x.below.mono (Nat.le_of_lt g0))
    have hr2 := hr.below x.below
    generalize x.val = wz at hx hr2 ⊢
    clear g0 g1 g2 g3 g4 g5 g6 g7 e0 e2 e3 e4 e5 e6 hr hbw
    obtain ⟨g0, g1, g2, g3, g4, g5, g6, g7⟩ := hr2
    go_wp2_with fail
    have e0 := ext_cell g1 g0
    have e5 := ext_cell g6 g0
    refine wp_region_ext wz.heap.size (by kernel_rfl) (by kernel_rfl) ?_
    repeat (go_big_quiet_step (first
        | (go_at_call_of 45 (Value.int .u64 0); exact ext_call _ (Nat.le_refl _) (NM0.out _))
        | (go_at_call_of 45 (Value.int .u64 (t : Int)); exact ext_call _ (Nat.le_refl _) (N8.out _))
        | (go_at_call_of 45 (Value.int .u64 (p : Int)); exact ext_call _ (Nat.le_refl _) (N4.out _))
        | (go_at_call_of 45 (Value.int .u64 (s : Int)); exact ext_call _ (Nat.le_refl _) (N2.out _))
        | (go_at_call_of 45 (Value.int .u64 (k.size : Int)); exact ext_call _ (Nat.le_refl _) (N1.out _))
        | (go_at_call_of 45 (Value.int .u64 (v.size : Int)); exact ext_call _ (Nat.le_refl _) (N1'.out _))))
    refine wpQuiet_nil ?_
    rintro _ ⟨y, rfl⟩
    have hy := hx.trans (y.below.mono (Nat.le_of_lt g0))
    have e6 := (y.below.cell (p := ⟨g, 6, none⟩) g0).trans g7
    have hys := Nat.le_trans (Nat.le_of_lt g0) y.below.size
    generalize y.val = wy at hy e6 hys ⊢
    clear g1 g2 g3 g4 g5 g6 g7 e0 e5 N8 N4 N2 N1 N1' NM0 NM1 HM hx
    go_wp2_with fail
    go_ret2
    exact ⟨ret_str2 (hfin.out _ rfl), by rw [Hg.out]; exact hy.alloc hys _⟩
  | true =>
    go_enter Tryz.func25, Tryz.ntmps25
    go_wp2_with fail
    refine (HM.out _).mono ?_
    rintro e w1 ⟨rfl, hb⟩
    have hr := (RowIn.new w k v true t p s d 32).below hb
    have hbw : Below w.heap.size w w1 := ((Below.refl _ _).alloc (Nat.le_refl _) _).trans (hb.mono (by simp))
    clear hb
    generalize hg : w.heap.size = g at hr hbw
    have Hg := Lib.hid hg
    clear hg
    have hr' := hr
    obtain ⟨g0, g1, g2, g3, g4, g5, g6, g7⟩ := hr'
    go_wp2_with fail
    have e0 := ext_cell g1 g0
    have e2 := ext_cell g3 g0
    have e3 := ext_cell g4 g0
    have e4 := ext_cell g5 g0
    have e5 := ext_cell g6 g0
    have e6 := ext_cell g7 g0
    refine wp_region_ext w1.heap.size (by kernel_rfl) (by kernel_rfl) ?_
    repeat (go_big_quiet_step (first
        | (go_at_call_of 45 (Value.int .u64 1); exact ext_call _ (Nat.le_refl _) (NM1.out _))
        | (go_at_call_of 45 (Value.int .u64 (t : Int)); exact ext_call _ (Nat.le_refl _) (N8.out _))
        | (go_at_call_of 45 (Value.int .u64 (p : Int)); exact ext_call _ (Nat.le_refl _) (N4.out _))
        | (go_at_call_of 45 (Value.int .u64 (s : Int)); exact ext_call _ (Nat.le_refl _) (N2.out _))
        | (go_at_call_of 45 (Value.int .u64 (k.size : Int)); exact ext_call _ (Nat.le_refl _) (N1.out _))
        | (go_at_call_of 45 (Value.int .u64 (v.size : Int)); exact ext_call _ (Nat.le_refl _) (N1'.out _))))
    refine wpQuiet_nil ?_
    rintro _ ⟨x, rfl⟩
    have hx := hbw.trans (x.below.mono (Nat.le_of_lt g0))
    have hr2 := hr.below x.below
    generalize x.val = wz at hx hr2 ⊢
    clear g0 g1 g2 g3 g4 g5 g6 g7 e0 e2 e3 e4 e5 e6 hr hbw
    obtain ⟨g0, g1, g2, g3, g4, g5, g6, g7⟩ := hr2
    go_wp2_with fail
    have e0 := ext_cell g1 g0
    have e5 := ext_cell g6 g0
    refine wp_region_ext wz.heap.size (by kernel_rfl) (by kernel_rfl) ?_
    repeat (go_big_quiet_step (first
        | (go_at_call_of 45 (Value.int .u64 1); exact ext_call _ (Nat.le_refl _) (NM1.out _))
        | (go_at_call_of 45 (Value.int .u64 (t : Int)); exact ext_call _ (Nat.le_refl _) (N8.out _))
        | (go_at_call_of 45 (Value.int .u64 (p : Int)); exact ext_call _ (Nat.le_refl _) (N4.out _))
        | (go_at_call_of 45 (Value.int .u64 (s : Int)); exact ext_call _ (Nat.le_refl _) (N2.out _))
        | (go_at_call_of 45 (Value.int .u64 (k.size : Int)); exact ext_call _ (Nat.le_refl _) (N1.out _))
        | (go_at_call_of 45 (Value.int .u64 (v.size : Int)); exact ext_call _ (Nat.le_refl _) (N1'.out _))))
    refine wpQuiet_nil ?_
    rintro _ ⟨y, rfl⟩
    have hy := hx.trans (y.below.mono (Nat.le_of_lt g0))
    have e6 := (y.below.cell (p := ⟨g, 6, none⟩) g0).trans g7
    have hys := Nat.le_trans (Nat.le_of_lt g0) y.below.size
    generalize y.val = wy at hy e6 hys ⊢
    clear g1 g2 g3 g4 g5 g6 g7 e0 e5 N8 N4 N2 N1 N1' NM0 NM1 HM hx
    go_wp2_with fail
    go_ret2
    exact ⟨ret_str2 (hfin.out _ rfl), by rw [Hg.out]; exact hy.alloc hys _⟩
end Go.Proofs.YtienlhnbmobinaaGreat
namespace Go.Proofs.YtienlhnbmobinaaGreat
open Go.RowKit
set_option linter.unusedVariables false
set_option linter.unusedSimpArgs false
/-- A reading lies in block g, whole. -/
def RdIn (w : World) (g : Nat) (s : ByteArray) (i : Nat) (is : Bool) : Prop := w.heap[g]? = some (.cells #[.string s, .int .i64 i, .bool is] 118 (0, 0))
set_option maxHeartbeats 1000000 in
set_option maxRecDepth 100000 in
theorem num_any (s : ByteArray) (g i k : Nat) (is : Bool) (w : World) (hs : s.size ≤ maxLen) (hi : i ≤ 1000000) (h1 : 1 ≤ k) (h8 : k ≤ 8) (hr : RdIn w g s i is) :
    Calls Tryz.prog 77 #[.pointer (some ⟨g, 0, none⟩), .int .i64 k] w fun e w' => e = .returned (.int .u64 (rdNum s.data.toList i k)) ∧ RdIn w' g s (i + k) (is && decide (i + k ≤ s.size)) ∧ w.grownBy w' (some g) := by
  have hl : s.data.toList.length = s.size := by simp
  have hg := blk_lt hr
  have c0 := ext_cell (w := w) (b := g) (o := 0) (by rw [blk_cell hr]; rfl) hg
  have c1 := ext_cell (w := w) (b := g) (o := 1) (by rw [blk_cell hr]; rfl) hg
  have Hr := Lib.hid hr
  clear hr
  by_cases hok : i + k ≤ s.size
  · have G := Lib.hid fun W => get_yes s i k W hs hok h1 h8
    have hd : Hid (decide (i + k ≤ s.size) = true) := by show _ = _; simp [hok]
    rw [hd.out]
    have hn : Hid (rdNum s.data.toList i k = un ((s.data.toList.drop i).take k)) := by show _ = _; unfold rdNum; rw [hl, if_pos hok]
    rw [hn.out]
    generalize un ((s.data.toList.drop i).take k) = n at *
    unfold maxLen at hs
    go_enter Tryz.func77, Tryz.ntmps77
    go_wp2_with fail
    refine wp_region_ext w.heap.size (by kernel_rfl) (by kernel_rfl) ?_
    repeat (go_big_quiet_step ((go_at_call 47; exact ext_call _ (Nat.le_refl _) (G.out _))))
    refine wpQuiet_nil ?_
    rintro _ ⟨x, rfl⟩
    have hx := x.below
    generalize x.val = wz at hx ⊢
    have hz : wz.heap[g]? = _ := (hx.block g hg).trans Hr.out
    have d0 := blk_cell hz 0
    have d1 := blk_cell hz 1
    have d2 := blk_cell hz 2
    have f1 := blk_frozen hz 1
    have f2 := blk_frozen hz 2
    have Hz := Lib.hid hz
    clear hz c0 c1
    cases is with
    | false =>
      go_wp2_with fail
      go_ret
      exact ⟨rfl, blk_set (blk_set Hz.out 1 _) 2 _, grown_set (grown_set (grown_below _ hx))⟩
    | true =>
      go_wp2_with fail
      go_ret
      exact ⟨rfl, blk_set (blk_set Hz.out 1 _) 2 _, grown_set (grown_set (grown_below _ hx))⟩
  · have G := Lib.hid fun W => get_no s i k W hs (by omega) (by omega) (by omega)
    have hd : Hid (decide (i + k ≤ s.size) = false) := by show _ = _; simp; omega
    rw [hd.out]
    have hn : Hid (rdNum s.data.toList i k = 0) := by show _ = _; unfold rdNum; rw [hl, if_neg hok]
    rw [hn.out]
    unfold maxLen at hs
    go_enter Tryz.func77, Tryz.ntmps77
    go_wp2_with fail
    refine wp_region_ext w.heap.size (by kernel_rfl) (by kernel_rfl) ?_
    repeat (go_big_quiet_step ((go_at_call 47; exact ext_same _ (G.out _))))
    refine wpQuiet_nil ?_
    rintro _ ⟨x, rfl⟩
    have hx := x.below
    generalize x.val = wz at hx ⊢
    have hz : wz.heap[g]? = _ := (hx.block g hg).trans Hr.out
    have d0 := blk_cell hz 0
    have d1 := blk_cell hz 1
    have d2 := blk_cell hz 2
    have f1 := blk_frozen hz 1
    have f2 := blk_frozen hz 2
    have Hz := Lib.hid hz
    clear hz c0 c1
    cases is with
    | false =>
      go_wp2_with fail
      go_ret
      exact ⟨rfl, blk_set (blk_set Hz.out 1 _) 2 _, grown_set (grown_set (grown_below _ hx))⟩
    | true =>
      go_wp2_with fail
      go_ret
      exact ⟨rfl, blk_set (blk_set Hz.out 1 _) 2 _, grown_set (grown_set (grown_below _ hx))⟩
set_option maxHeartbeats 1000000 in
set_option maxRecDepth 100000 in
theorem text_any (s : ByteArray) (g i k : Nat) (is : Bool) (w : World) (hs : s.size ≤ maxLen) (hi : i ≤ 1000000) (hk : k ≤ 1000000) (hr : RdIn w g s i is) :
    Calls Tryz.prog 76 #[.pointer (some ⟨g, 0, none⟩), .int .i64 k] w fun e w' => e = .returned (.string ⟨(rdText s.data.toList i k).toArray⟩) ∧ RdIn w' g s (i + k) (is && decide (i + k ≤ s.size)) ∧ w.grownBy w' (some g) := by
  have hl : s.data.toList.length = s.size := by simp
  have hg := blk_lt hr
  have c0 := ext_cell (w := w) (b := g) (o := 0) (by rw [blk_cell hr]; rfl) hg
  have c1 := ext_cell (w := w) (b := g) (o := 1) (by rw [blk_cell hr]; rfl) hg
  have Hr := Lib.hid hr
  clear hr
  by_cases hok : i + k ≤ s.size
  · have G := Lib.hid fun W => cut_yes s i k W hs hok
    have hd : Hid (decide (i + k ≤ s.size) = true) := by show _ = _; simp [hok]
    rw [hd.out]
    have hn : Hid ((⟨(rdText s.data.toList i k).toArray⟩ : ByteArray) = s.extract i (i + k)) := by
      show _ = _
      unfold rdText
      rw [hl, if_pos hok]
      apply bytes_ext
      simp [List.take_drop]
    rw [hn.out]
    generalize s.extract i (i + k) = n at *
    unfold maxLen at hs
    go_enter Tryz.func76, Tryz.ntmps76
    go_wp2_with fail
    refine wp_region_ext w.heap.size (by kernel_rfl) (by kernel_rfl) ?_
    repeat (go_big_quiet_step ((go_at_call 74; exact ext_same _ (G.out _))))
    refine wpQuiet_nil ?_
    rintro _ ⟨x, rfl⟩
    have hx := x.below
    generalize x.val = wz at hx ⊢
    have hz : wz.heap[g]? = _ := (hx.block g hg).trans Hr.out
    have d0 := blk_cell hz 0
    have d1 := blk_cell hz 1
    have d2 := blk_cell hz 2
    have f1 := blk_frozen hz 1
    have f2 := blk_frozen hz 2
    have Hz := Lib.hid hz
    clear hz c0 c1
    cases is with
    | false =>
      go_wp2_with fail
      go_ret
      exact ⟨rfl, blk_set (blk_set Hz.out 1 _) 2 _, grown_set (grown_set (grown_below _ hx))⟩
    | true =>
      go_wp2_with fail
      go_ret
      exact ⟨rfl, blk_set (blk_set Hz.out 1 _) 2 _, grown_set (grown_set (grown_below _ hx))⟩
  · have G := Lib.hid fun W => cut_no s i k W hs (by omega) (by omega) (by omega)
    have hd : Hid (decide (i + k ≤ s.size) = false) := by show _ = _; simp; omega
    rw [hd.out]
    have hn : Hid (rdText s.data.toList i k = []) := by show _ = _; unfold rdText; rw [hl, if_neg hok]
    rw [hn.out]
    unfold maxLen at hs
    go_enter Tryz.func76, Tryz.ntmps76
    go_wp2_with fail
    refine wp_region_ext w.heap.size (by kernel_rfl) (by kernel_rfl) ?_
    repeat (go_big_quiet_step ((go_at_call 74; exact ext_same _ (G.out _))))
    refine wpQuiet_nil ?_
    rintro _ ⟨x, rfl⟩
    have hx := x.below
    generalize x.val = wz at hx ⊢
    have hz : wz.heap[g]? = _ := (hx.block g hg).trans Hr.out
    have d0 := blk_cell hz 0
    have d1 := blk_cell hz 1
    have d2 := blk_cell hz 2
    have f1 := blk_frozen hz 1
    have f2 := blk_frozen hz 2
    have Hz := Lib.hid hz
    clear hz c0 c1
    cases is with
    | false =>
      go_wp2_with fail
      go_ret
      exact ⟨rfl, blk_set (blk_set Hz.out 1 _) 2 _, grown_set (grown_set (grown_below _ hx))⟩
    | true =>
      go_wp2_with fail
      go_ret
      exact ⟨rfl, blk_set (blk_set Hz.out 1 _) 2 _, grown_set (grown_set (grown_below _ hx))⟩
end Go.Proofs.YtienlhnbmobinaaGreat
namespace Go.Proofs.YtienlhnbmobinaaGreat
open Go.RowKit
set_option linter.unusedVariables false
set_option linter.unusedSimpArgs false
theorem grown_cell {w w' : World} {g b o : Nat} {v : Value} (h : w.grownBy w' (some g)) (hc : w.cell? ⟨b, o, none⟩ = some v) (hb : b < w.heap.size) (hne : b ≠ g) : w'.cell? ⟨b, o, none⟩ = some v := by
  rw [World.cell?_of_block (w := w) (h.block b hb (by simpa using hne))]; exact hc
theorem grown_undrew {w w' : World} {r : Option Nat} (h : w.drew.grownBy w' r) : w.grownBy w' r := ⟨h.os, h.tape, h.output, h.size, h.block⟩
theorem rdNum_ltR (s : List UInt8) (i k : Nat) : rdNum s i k < 256 ^ k := by
  unfold rdNum
  split
  · exact un_lt k _ (by simp; omega)
  · exact Nat.pow_pos (by omega)
set_option maxHeartbeats 2000000 in
set_option maxRecDepth 100000 in
theorem piece_anyR (s : ByteArray) (q g i : Nat) (is : Bool) (w : World) (hs : s.size ≤ maxLen) (hi : i ≤ 999999) (hq : w.cell? ⟨q, 0, none⟩ = some (.pointer (some ⟨g, 0, none⟩))) (hqs : q < w.heap.size) (hne : q ≠ g) (hr : RdIn w g s i is) :
    Calls Tryz.prog 75 #[.pointer (some ⟨q, 0, none⟩)] w fun e w' => e = .returned (.string ⟨(rdText s.data.toList (i + 1) (rdNum s.data.toList i 1)).toArray⟩) ∧
      RdIn w' g s (i + 1 + rdNum s.data.toList i 1) (is && decide (i + 1 ≤ s.size) && decide (i + 1 + rdNum s.data.toList i 1 ≤ s.size)) ∧ w.grownBy w' (some g) := by
  have hlt := rdNum_ltR s.data.toList i 1
  have C1 := Lib.hid fun W hW => num_any s g i 1 is W hs (by omega) (by omega) (by omega) hW
  have C2 := Lib.hid fun W is' hW => text_any s g (i + 1) (rdNum s.data.toList i 1) is' W hs (by omega) (by omega) hW
  generalize rdNum s.data.toList i 1 = n at *
  simp only [Nat.reducePow] at hlt
  have Hr := Lib.hid hr
  clear hr
  have wn : IntKind.i64.wrap (n : Int) = n := IntWalk.i64_in _ ⟨by omega, by omega⟩
  go_enter Tryz.func75, Tryz.ntmps75
  go_wp2_with fail
  go_region_held3 (fun w' => w'.cell? ⟨q, 0, none⟩ = some (.pointer (some ⟨g, 0, none⟩)) ∧ q < w'.heap.size)
    (first | go_keep | (go_split_ands; exact ⟨grown_cell hgx (by assumption) (by assumption) hne, Nat.lt_of_lt_of_le (by assumption) hgx.size⟩))
    (first
      | (go_at_call 77; refine (C1.out _ (by exact Hr.out)).mono ?_; rintro e w1 ⟨rfl, hr1, hg1⟩; have hgx := hg1)
      | (go_at_call 76; refine (C2.out _ _ (by exact hr1)).mono ?_; rintro e w2 ⟨rfl, hr2, hg2⟩; have hgx := hg2))
  go_wp2
  go_ret
  exact ⟨rfl, hr2, grown_trans (grown_undrew hg1) hg2⟩
end Go.Proofs.YtienlhnbmobinaaGreat
end
