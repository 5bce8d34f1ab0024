/- The contracts of row.Encode and row.Size: a row's bytes, and how many they are. -/
import Derived.Test.YtahaikfijegknaaRows
import Derived.Test.YtahaikfijegknaaRowMay
import Derived.Test.YtahaikfijegknaaExt
import Derived.Test.YtahaikfijegknaaShelf
import Derived.WalkKit
import Derived.WalkLawsBesides
import Derived.WalkSpells
import Derived.LoopTactic
import Derived.WalkMore
import Derived.LoopN
import Derived.Laws.BitsAllLaws
import Derived.Laws.IdiomStrings
import Derived.BigQuiet
import Derived.Deep.QuietTactic
import Derived.Deep.DeepCutAuto
import Derived.Deep.RegionHeld3
import Derived.Deep.DrawnRows
import Derived.Lib.Hide
import Derived.Outline
import Derived.Deep.DeepMust
import Derived.Handy
namespace Go.Proofs.Ytahaikfijegknaa
open Go.RowKit
set_option linter.unusedVariables false
set_option linter.unusedSimpArgs false

/-- The seven cells of a row in a block of its own. -/
def RowIn (w : World) (g : Nat) (k v : ByteArray) (m : Bool) (t p s : Nat) (d : Int) : Prop :=
  g < w.heap.size ∧ w.cell? ⟨g, 0, none⟩ = some (.string k) ∧ w.cell? ⟨g, 1, none⟩ = some (.bool m) ∧ w.cell? ⟨g, 2, none⟩ = some (.int .u64 t) ∧ w.cell? ⟨g, 3, none⟩ = some (.int .u32 p) ∧
    w.cell? ⟨g, 4, none⟩ = some (.int .u16 s) ∧ w.cell? ⟨g, 5, none⟩ = some (.string v) ∧ w.cell? ⟨g, 6, none⟩ = some (.int .i64 d)
theorem RowIn.below {w w' : World} {g : Nat} {k v : ByteArray} {m : Bool} {t p s : Nat} {d : Int} (h : RowIn w g k v m t p s d) (hb : Below w.heap.size w w') : RowIn w' g k v m t p s d := by
  obtain ⟨h0, h1, h2, h3, h4, h5, h6, h7⟩ := h
  have := hb.size
  exact ⟨by omega, by rw [(bcell hb).1 _ _ h0, h1], by rw [(bcell hb).1 _ _ h0, h2], by rw [(bcell hb).1 _ _ h0, h3], by rw [(bcell hb).1 _ _ h0, h4], by rw [(bcell hb).1 _ _ h0, h5], by rw [(bcell hb).1 _ _ h0, h6], by rw [(bcell hb).1 _ _ h0, h7]⟩
theorem RowIn.new (w : World) (k v : ByteArray) (m : Bool) (t p s : Nat) (d : Int) (ty : TypeId) :
    RowIn (w.alloc (.cells #[.string k, .bool m, .int .u64 t, .int .u32 p, .int .u16 s, .string v, .int .i64 d] ty)) w.heap.size k v m t p s d := by
  refine ⟨by simp, ?_, ?_, ?_, ?_, ?_, ?_, ?_⟩ <;> (rw [World.cell?_alloc_mark]; rfl)

theorem bytes_ext {a b : ByteArray} (h : a.data.toList = b.data.toList) : a = b := ByteArray.ext (Array.ext' h)

theorem be_str (k n : Nat) : (⟨(be k n).toArray⟩ : ByteArray).size = k := by
  show (be k n).toArray.size = k
  simp [be_length]

theorem repeat_zero : ∀ d : Nat, Lib.repeatL [0] d = List.replicate d 0
  | 0 => rfl
  | d + 1 => by rw [Lib.repeatL, repeat_zero d]; rfl

theorem repeat_pads (d : Nat) (w : World) (h : d ≤ 1000000) :
    Calls Try.prog 49 #[.string ⟨#[0]⟩, .int .i64 d] w fun e w' => e = .returned (.string ⟨(List.replicate d 0).toArray⟩) ∧ Below w.heap.size w w' := by
  rw [← repeat_zero]
  exact Try.strings_Repeat ⟨#[0]⟩ d w (by omega) (by show 1 * d ≤ _; omega)

set_option maxHeartbeats 2000000 in
set_option maxRecDepth 100000 in
theorem rowEncode_yes (k v : ByteArray) (m : Bool) (t p s d : Nat) (w : World) (hk : k.size ≤ maxLen) (hv : v.size ≤ maxLen) (ht : t < 256 ^ 8) (hs : s < 256 ^ 2) (hm : mayRow k.size v.size p s d = true) :
    Calls Try.prog 25 #[.agg #[.string k, .bool m, .int .u64 t, .int .u32 p, .int .u16 s, .string v, .int .i64 d]] w fun e w' => e = .returned (.tuple #[.string ⟨(encRow k.data.toList v.data.toList m t p s d).toArray⟩, .int .i64 0]) ∧ Below w.heap.size w w' := by
  have M := fun W => rowMay_any k v m t p s d W hk hv
  rw [hm] at M
  have HM := Lib.hid M
  clear M
  rw [mayRow_iff] at hm
  obtain ⟨h1, h2, h3, h4, h5, h6, h7⟩ := hm
  have n8 := fun W => number_8 t W ht
  have n4 := fun W => number_4 p W (by omega)
  have n2 := fun W => number_2 s W hs
  have n1 := fun W => number_1 k.size W (by omega)
  have n1' := fun W => number_1 v.size W (by omega)
  have r := fun W => repeat_pads d W (by omega)
  have z8 := be_str 8 t
  have z4 := be_str 4 p
  have z2 := be_str 2 s
  have z1 := be_str 1 k.size
  have z1' := be_str 1 v.size
  have zr : (⟨(List.replicate d 0).toArray⟩ : ByteArray).size = d := by show (List.replicate d (0 : UInt8)).toArray.size = d; simp
  have hfin : Hid (∀ m0 : ByteArray, m0.data.toList = [if m then 1 else 0] → m0 ++ ⟨(be 8 t).toArray⟩ ++ ⟨(be 4 p).toArray⟩ ++ ⟨(be 2 s).toArray⟩ ++ ⟨(be 1 k.size).toArray⟩ ++ k ++ ⟨(be 1 v.size).toArray⟩ ++ v ++ ⟨(List.replicate d 0).toArray⟩ =
      (⟨(encRow k.data.toList v.data.toList m t p s d).toArray⟩ : ByteArray)) := by
    intro m0 h0
    apply bytes_ext
    simp only [ByteArray.data_append, Array.toList_append, h0, encRow]
    simp
  generalize hx8 : (⟨(be 8 t).toArray⟩ : ByteArray) = x8 at n8 z8 hfin
  generalize hx4 : (⟨(be 4 p).toArray⟩ : ByteArray) = x4 at n4 z4 hfin
  generalize hx2 : (⟨(be 2 s).toArray⟩ : ByteArray) = x2 at n2 z2 hfin
  generalize hx1 : (⟨(be 1 k.size).toArray⟩ : ByteArray) = x1 at n1 z1 hfin
  generalize hx1' : (⟨(be 1 v.size).toArray⟩ : ByteArray) = x1' at n1' z1' hfin
  generalize hxr : (⟨(List.replicate d 0).toArray⟩ : ByteArray) = xr at r zr hfin
  have y8 := Nat.le_of_eq z8
  have y4 := Nat.le_of_eq z4
  have y2 := Nat.le_of_eq z2
  have y1 := Nat.le_of_eq z1
  have y1' := Nat.le_of_eq z1'
  have yr := Nat.le_of_eq zr
  have N8 := Lib.hid n8
  have N4 := Lib.hid n4
  have N2 := Lib.hid n2
  have N1 := Lib.hid n1
  have N1' := Lib.hid n1'
  have R := Lib.hid r
  clear n8 n4 n2 n1 n1' r z8 z4 z2 z1 z1' zr hx8 hx4 hx2 hx1 hx1' hxr
  simp only [Nat.reducePow] at hs
  clear ht h7 hk hv
  cases m with
  | false =>
    go_enter Try.func25, Try.ntmps25
    go_wp2_with fail
    refine (HM.out _).mono ?_
    rintro e w1 ⟨rfl, hb⟩
    have hr := (RowIn.new w k v false t p s d 34).below hb
    have hbw : Below w.heap.size w w1 := ((Below.refl _ _).alloc (Nat.le_refl _) _).trans (hb.mono (by simp))
    clear hb
    generalize hg : w.heap.size = g at hr hbw
    have Hg := Lib.hid hg
    clear hg
    unfold RowIn at hr
    obtain ⟨g0, g1, g2, g3, g4, g5, g6, g7⟩ := hr
    go_wp2_with fail
    have e0 := ext_cell g1 g0
    have e2 := ext_cell g3 g0
    have e3 := ext_cell g4 g0
    have e4 := ext_cell g5 g0
    have e5 := ext_cell g6 g0
    have e6 := ext_cell g7 g0
    refine wp_region_ext w1.heap.size (by kernel_rfl) (by kernel_rfl) ?_
    repeat (go_big_quiet_step (first
        | (go_at_call_of 48 (Value.int .u64 (t : Int)); exact ext_call _ (Nat.le_refl _) (N8.out _))
        | (go_at_call_of 48 (Value.int .u64 (p : Int)); exact ext_call _ (Nat.le_refl _) (N4.out _))
        | (go_at_call_of 48 (Value.int .u64 (s : Int)); exact ext_call _ (Nat.le_refl _) (N2.out _))
        | (go_at_call_of 48 (Value.int .u64 (k.size : Int)); exact ext_call _ (Nat.le_refl _) (N1.out _))
        | (go_at_call_of 48 (Value.int .u64 (v.size : Int)); exact ext_call _ (Nat.le_refl _) (N1'.out _))
        | (go_at_call 49; exact ext_call _ (Nat.le_refl _) (R.out _))))
    refine wpQuiet_nil ?_
    rintro _ ⟨x, rfl⟩
    have hx := hbw.trans (x.below.mono (Nat.le_of_lt g0))
    generalize x.val = wz at hx
    clear g1 g2 g3 g4 g5 g6 g7 e0 e2 e3 e4 e5 e6 N8 N4 N2 N1 N1' R HM
    go_wp2_with fail
    go_ret2
    exact ⟨ret_str2 (hfin.out _ rfl), by rw [Hg.out]; exact hx⟩
  
  | true =>
    go_enter Try.func25, Try.ntmps25
    go_wp2_with fail
    refine (HM.out _).mono ?_
    rintro e w1 ⟨rfl, hb⟩
    have hr := (RowIn.new w k v true t p s d 34).below hb
    have hbw : Below w.heap.size w w1 := ((Below.refl _ _).alloc (Nat.le_refl _) _).trans (hb.mono (by simp))
    clear hb
    generalize hg : w.heap.size = g at hr hbw
    have Hg := Lib.hid hg
    clear hg
    unfold RowIn at hr
    obtain ⟨g0, g1, g2, g3, g4, g5, g6, g7⟩ := hr
    go_wp2_with fail
    have e0 := ext_cell g1 g0
    have e2 := ext_cell g3 g0
    have e3 := ext_cell g4 g0
    have e4 := ext_cell g5 g0
    have e5 := ext_cell g6 g0
    have e6 := ext_cell g7 g0
    refine wp_region_ext w1.heap.size (by kernel_rfl) (by kernel_rfl) ?_
    repeat (go_big_quiet_step (first
        | (go_at_call_of 48 (Value.int .u64 (t : Int)); exact ext_call _ (Nat.le_refl _) (N8.out _))
        | (go_at_call_of 48 (Value.int .u64 (p : Int)); exact ext_call _ (Nat.le_refl _) (N4.out _))
        | (go_at_call_of 48 (Value.int .u64 (s : Int)); exact ext_call _ (Nat.le_refl _) (N2.out _))
        | (go_at_call_of 48 (Value.int .u64 (k.size : Int)); exact ext_call _ (Nat.le_refl _) (N1.out _))
        | (go_at_call_of 48 (Value.int .u64 (v.size : Int)); exact ext_call _ (Nat.le_refl _) (N1'.out _))
        | (go_at_call 49; exact ext_call _ (Nat.le_refl _) (R.out _))))
    refine wpQuiet_nil ?_
    rintro _ ⟨x, rfl⟩
    have hx := hbw.trans (x.below.mono (Nat.le_of_lt g0))
    generalize x.val = wz at hx
    clear g1 g2 g3 g4 g5 g6 g7 e0 e2 e3 e4 e5 e6 N8 N4 N2 N1 N1' R HM
    go_wp2_with fail
    go_ret2
    exact ⟨ret_str2 (hfin.out _ rfl), by rw [Hg.out]; exact hx⟩

theorem rowEncode_no (k v : ByteArray) (m : Bool) (t p s : Nat) (d : Int) (w : World) (hk : k.size ≤ maxLen) (hv : v.size ≤ maxLen) (hm : mayRow k.size v.size p s d = false) :
    Calls Try.prog 25 #[.agg #[.string k, .bool m, .int .u64 t, .int .u32 p, .int .u16 s, .string v, .int .i64 d]] w fun e w' => e = .returned (.tuple #[.string ⟨#[]⟩, .int .i64 2]) ∧ Below w.heap.size w w' := by
  have M := fun W => rowMay_any k v m t p s d W hk hv
  rw [hm] at M
  have HM := Lib.hid M
  clear M
  go_enter Try.func25, Try.ntmps25
  go_wp2_with fail
  refine (HM.out _).mono ?_
  rintro e w1 ⟨rfl, hb⟩
  have hbw : Below w.heap.size w w1 := ((Below.refl _ _).alloc (Nat.le_refl _) _).trans (hb.mono (by simp))
  clear hb
  go_wp2_with fail
  go_ret2
  exact ⟨rfl, hbw⟩

theorem rowSize_yes (k v : ByteArray) (m : Bool) (t p s d : Nat) (w : World) (hk : k.size ≤ maxLen) (hv : v.size ≤ maxLen) (hm : mayRow k.size v.size p s d = true) :
    Calls Try.prog 29 #[.agg #[.string k, .bool m, .int .u64 t, .int .u32 p, .int .u16 s, .string v, .int .i64 d]] w fun e w' => e = .returned (.int .i64 (17 + k.size + v.size + d : Nat)) ∧ Below w.heap.size w w' := by
  have M := fun W => rowMay_any k v m t p s d W hk hv
  rw [hm] at M
  have HM := Lib.hid M
  clear M
  rw [mayRow_iff] at hm
  obtain ⟨h1, h2, h3, h4, h5, h6, h7⟩ := hm
  clear h7 hk hv
  go_enter Try.func29, Try.ntmps29
  go_wp2_with fail
  refine (HM.out _).mono ?_
  rintro e w1 ⟨rfl, hb⟩
  have hr := (RowIn.new w k v m t p s d 34).below hb
  have hbw : Below w.heap.size w w1 := ((Below.refl _ _).alloc (Nat.le_refl _) _).trans (hb.mono (by simp))
  clear hb
  obtain ⟨g0, g1, g2, g3, g4, g5, g6, g7⟩ := hr
  go_wp2_with fail
  go_ret
  exact ⟨ret_int (by omega), hbw⟩

theorem rowSize_no (k v : ByteArray) (m : Bool) (t p s : Nat) (d : Int) (w : World) (hk : k.size ≤ maxLen) (hv : v.size ≤ maxLen) (hm : mayRow k.size v.size p s d = false) :
    Calls Try.prog 29 #[.agg #[.string k, .bool m, .int .u64 t, .int .u32 p, .int .u16 s, .string v, .int .i64 d]] w fun e w' => e = .returned (.int .i64 0) ∧ Below w.heap.size w w' := by
  have M := fun W => rowMay_any k v m t p s d W hk hv
  rw [hm] at M
  have HM := Lib.hid M
  clear M
  go_enter Try.func29, Try.ntmps29
  go_wp2_with fail
  refine (HM.out _).mono ?_
  rintro e w1 ⟨rfl, hb⟩
  have hbw : Below w.heap.size w w1 := ((Below.refl _ _).alloc (Nat.le_refl _) _).trans (hb.mono (by simp))
  clear hb
  go_wp2_with fail
  go_ret
  exact ⟨rfl, hbw⟩

end Go.Proofs.Ytahaikfijegknaa
