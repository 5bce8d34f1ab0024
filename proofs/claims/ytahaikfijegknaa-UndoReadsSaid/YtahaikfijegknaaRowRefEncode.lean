/- The contracts of the document's answer for a row's bytes. -/
import Derived.Test.YtahaikfijegknaaRows
import Derived.Test.YtahaikfijegknaaRowEncode
import Derived.WalkKit
import Derived.WalkLawsBesides
import Derived.WalkSpells
import Derived.LoopTactic
import Derived.WalkMore
import Derived.LoopN
import Derived.Laws.BitsAllLaws
import Derived.Laws.IdiomStrings
import Derived.BigQuiet
import Derived.Deep.QuietTactic
import Derived.Deep.DeepCutAuto
import Derived.Deep.RegionHeld3
import Derived.Deep.DrawnRows
import Derived.Lib.Hide
import Derived.Outline
import Derived.Deep.DeepMust
import Derived.Handy
namespace Go.Proofs.Ytahaikfijegknaa
open Go.RowKit
set_option linter.unusedVariables false
set_option linter.unusedSimpArgs false

theorem u8info : (Try.prog.info? 5).map (fun i => (i.zero, i.size, i.bytes)) = some (some (.int .u8 0), 1, 1) := by kernel_rfl

/-- The cells of a new row of d zero bytes. -/
def zeroRow (d : Nat) : Array Value := madeCells (Value.int .u8 0).cells d

theorem zeroRow_get (d i : Nat) (h : i < d) : (zeroRow d)[i]? = some (.int .u8 0) := by
  unfold zeroRow
  simp [madeCells, Value.cells, h, Nat.mod_one]

theorem conv_zero {P : Program} (w : World) (src e dst : TypeId) (hs : P.underlying src = some (.slice e)) (he : P.underlying e = some (.int .u8)) (hd : P.underlying dst = some .string) (d : Nat) (t : TypeId) :
    (convert src dst (.slice (some ⟨w.heap.size, 0, none⟩) d d)).run P (w.alloc (.cells (zeroRow d) t)) = .ok (.string ⟨(List.replicate d 0).toArray⟩) (w.alloc (.cells (zeroRow d) t)) := by
  rw [run_convert_bytes_arg _ src e hs he w.heap.size 0 d d (List.replicate d 0) (by simp) (fun i hi => ?_) dst hd]
  · simp [strOfNums]
  · rw [World.cell?_alloc_mark, Nat.zero_add, zeroRow_get d i hi]
    simp [List.getD, hi]

set_option maxHeartbeats 2000000 in
set_option maxRecDepth 100000 in
theorem refEncode_yes (k v : ByteArray) (m : Bool) (t p s d : Nat) (w : World) (hk : k.size ≤ maxLen) (hv : v.size ≤ maxLen) (ht : t < 256 ^ 8) (hs : s < 256 ^ 2) (hm : mayRow k.size v.size p s d = true) :
    Calls Try.prog 26 #[.agg #[.string k, .bool m, .int .u64 t, .int .u32 p, .int .u16 s, .string v, .int .i64 d]] w fun e w' => e = .returned (.tuple #[.string ⟨(encRow k.data.toList v.data.toList m t p s d).toArray⟩, .int .i64 0]) ∧ Below w.heap.size w w' := by
  have M := fun W => refMay_any k v m t p s d W hk hv
  rw [hm] at M
  have HM := Lib.hid M
  clear M
  rw [mayRow_iff] at hm
  obtain ⟨h1, h2, h3, h4, h5, h6, h7⟩ := hm
  have n8 := fun W => refNum_8 t W ht
  have n4 := fun W => refNum_4 p W (by omega)
  have n2 := fun W => refNum_2 s W hs
  have n1 := fun W => refNum_1 k.size W (by omega)
  have n1' := fun W => refNum_1 v.size W (by omega)
  have nm0 : ∀ W, Calls Try.prog 50 #[.int .u64 0, .int .i64 1] W fun e w' => e = .returned (.string ⟨#[0]⟩) ∧ Below W.heap.size W w' := fun W => refNum_1 0 W (by decide)
  have nm1 : ∀ W, Calls Try.prog 50 #[.int .u64 1, .int .i64 1] W fun e w' => e = .returned (.string ⟨#[1]⟩) ∧ Below W.heap.size W w' := fun W => refNum_1 1 W (by decide)
  have z8 := be_str 8 t
  have z4 := be_str 4 p
  have z2 := be_str 2 s
  have z1 := be_str 1 k.size
  have z1' := be_str 1 v.size
  have zr : (⟨(List.replicate d 0).toArray⟩ : ByteArray).size = d := by show (List.replicate d (0 : UInt8)).toArray.size = d; simp
  have hfin : Hid (∀ m0 : ByteArray, m0.data.toList = [if m then 1 else 0] → m0 ++ ⟨(be 8 t).toArray⟩ ++ ⟨(be 4 p).toArray⟩ ++ ⟨(be 2 s).toArray⟩ ++ ⟨(be 1 k.size).toArray⟩ ++ k ++ ⟨(be 1 v.size).toArray⟩ ++ v ++ ⟨(List.replicate d 0).toArray⟩ =
      (⟨(encRow k.data.toList v.data.toList m t p s d).toArray⟩ : ByteArray)) := by
    intro m0 h0
    apply bytes_ext
    simp only [ByteArray.data_append, Array.toList_append, h0, encRow]
    simp
  generalize hx8 : (⟨(be 8 t).toArray⟩ : ByteArray) = x8 at n8 z8 hfin
  generalize hx4 : (⟨(be 4 p).toArray⟩ : ByteArray) = x4 at n4 z4 hfin
  generalize hx2 : (⟨(be 2 s).toArray⟩ : ByteArray) = x2 at n2 z2 hfin
  generalize hx1 : (⟨(be 1 k.size).toArray⟩ : ByteArray) = x1 at n1 z1 hfin
  generalize hx1' : (⟨(be 1 v.size).toArray⟩ : ByteArray) = x1' at n1' z1' hfin
  generalize hxr : (⟨(List.replicate d 0).toArray⟩ : ByteArray) = xr at zr hfin
  have y8 := Nat.le_of_eq z8
  have y4 := Nat.le_of_eq z4
  have y2 := Nat.le_of_eq z2
  have y1 := Nat.le_of_eq z1
  have y1' := Nat.le_of_eq z1'
  have yr := Nat.le_of_eq zr
  have N8 := Lib.hid n8
  have N4 := Lib.hid n4
  have N2 := Lib.hid n2
  have N1 := Lib.hid n1
  have N1' := Lib.hid n1'
  have NM0 := Lib.hid nm0
  have NM1 := Lib.hid nm1
  have hz := info_parts u8info
  obtain ⟨i0, hi0, hz0, hz1, hz2⟩ := hz
  have hmk : ∀ W, (Instr.makeSlice 64 (.int .i64 (d : Int)) (.int .i64 (d : Int))).run Try.prog W = .ok (.slice (some ⟨W.heap.size, 0, none⟩) d d) (W.alloc (.cells (zeroRow d) 5)) := by
    intro W
    have := run_make (P := Try.prog) W 64 5 i0 _ Try.underlying64 hi0 hz0 .i64 .i64 d d (by omega) (Int.le_refl _) (by rw [hz2]; omega) (by omega)
    rw [hz1] at this
    simpa [zeroRow] using this
  have hcv : ∀ W : World, (convert 64 9 (.slice (some ⟨W.heap.size, 0, none⟩) d d)).run Try.prog (W.alloc (.cells (zeroRow d) 5)) = .ok (.string xr) (W.alloc (.cells (zeroRow d) 5)) := by
    intro W
    rw [← hxr]
    exact conv_zero W _ _ _ Try.underlying64 Try.underlying5 Try.underlying9 d _
  clear n8 n4 n2 n1 n1' nm0 nm1 z8 z4 z2 z1 z1' zr hx8 hx4 hx2 hx1 hx1' hxr
  simp only [Nat.reducePow] at hs
  clear ht h7 hk hv
  cases m with
  | false =>
    go_enter Try.func26, Try.ntmps26
    go_wp2_with fail
    refine (HM.out _).mono ?_
    rintro e w1 ⟨rfl, hb⟩
    have hr := (RowIn.new w k v false t p s d 34).below hb
    have hbw : Below w.heap.size w w1 := ((Below.refl _ _).alloc (Nat.le_refl _) _).trans (hb.mono (by simp))
    clear hb
    generalize hg : w.heap.size = g at hr hbw
    have Hg := Lib.hid hg
    clear hg
    have hr' := hr
    obtain ⟨g0, g1, g2, g3, g4, g5, g6, g7⟩ := hr'
    go_wp2_with fail
    have e0 := ext_cell g1 g0
    have e2 := ext_cell g3 g0
    have e3 := ext_cell g4 g0
    have e4 := ext_cell g5 g0
    have e5 := ext_cell g6 g0
    have e6 := ext_cell g7 g0
    refine wp_region_ext w1.heap.size (by kernel_rfl) (by kernel_rfl) ?_
    repeat (go_big_quiet_step (first
        | (go_at_call_of 50 (Value.int .u64 0); exact ext_call _ (Nat.le_refl _) (NM0.out _))
        | (go_at_call_of 50 (Value.int .u64 (t : Int)); exact ext_call _ (Nat.le_refl _) (N8.out _))
        | (go_at_call_of 50 (Value.int .u64 (p : Int)); exact ext_call _ (Nat.le_refl _) (N4.out _))
        | (go_at_call_of 50 (Value.int .u64 (s : Int)); exact ext_call _ (Nat.le_refl _) (N2.out _))
        | (go_at_call_of 50 (Value.int .u64 (k.size : Int)); exact ext_call _ (Nat.le_refl _) (N1.out _))
        | (go_at_call_of 50 (Value.int .u64 (v.size : Int)); exact ext_call _ (Nat.le_refl _) (N1'.out _))))
    refine wpQuiet_nil ?_
    rintro _ ⟨x, rfl⟩
    have hx := hbw.trans (x.below.mono (Nat.le_of_lt g0))
    have hr2 := hr.below x.below
    generalize x.val = wz at hx hr2 ⊢
    clear g0 g1 g2 g3 g4 g5 g6 g7 e0 e2 e3 e4 e5 e6 hr hbw
    obtain ⟨g0, g1, g2, g3, g4, g5, g6, g7⟩ := hr2
    go_wp2_with fail
    have e0 := ext_cell g1 g0
    have e5 := ext_cell g6 g0
    refine wp_region_ext wz.heap.size (by kernel_rfl) (by kernel_rfl) ?_
    repeat (go_big_quiet_step (first
        | (go_at_call_of 50 (Value.int .u64 0); exact ext_call _ (Nat.le_refl _) (NM0.out _))
        | (go_at_call_of 50 (Value.int .u64 (t : Int)); exact ext_call _ (Nat.le_refl _) (N8.out _))
        | (go_at_call_of 50 (Value.int .u64 (p : Int)); exact ext_call _ (Nat.le_refl _) (N4.out _))
        | (go_at_call_of 50 (Value.int .u64 (s : Int)); exact ext_call _ (Nat.le_refl _) (N2.out _))
        | (go_at_call_of 50 (Value.int .u64 (k.size : Int)); exact ext_call _ (Nat.le_refl _) (N1.out _))
        | (go_at_call_of 50 (Value.int .u64 (v.size : Int)); exact ext_call _ (Nat.le_refl _) (N1'.out _))))
    refine wpQuiet_nil ?_
    rintro _ ⟨y, rfl⟩
    have hy := hx.trans (y.below.mono (Nat.le_of_lt g0))
    have e6 := (y.below.cell (p := ⟨g, 6, none⟩) g0).trans g7
    have hys := Nat.le_trans (Nat.le_of_lt g0) y.below.size
    generalize y.val = wy at hy e6 hys ⊢
    clear g1 g2 g3 g4 g5 g6 g7 e0 e5 N8 N4 N2 N1 N1' NM0 NM1 HM hx
    go_wp2_with fail
    go_ret2
    exact ⟨ret_str2 (hfin.out _ rfl), by rw [Hg.out]; exact hy.alloc hys _⟩
  | true =>
    go_enter Try.func26, Try.ntmps26
    go_wp2_with fail
    refine (HM.out _).mono ?_
    rintro e w1 ⟨rfl, hb⟩
    have hr := (RowIn.new w k v true t p s d 34).below hb
    have hbw : Below w.heap.size w w1 := ((Below.refl _ _).alloc (Nat.le_refl _) _).trans (hb.mono (by simp))
    clear hb
    generalize hg : w.heap.size = g at hr hbw
    have Hg := Lib.hid hg
    clear hg
    have hr' := hr
    obtain ⟨g0, g1, g2, g3, g4, g5, g6, g7⟩ := hr'
    go_wp2_with fail
    have e0 := ext_cell g1 g0
    have e2 := ext_cell g3 g0
    have e3 := ext_cell g4 g0
    have e4 := ext_cell g5 g0
    have e5 := ext_cell g6 g0
    have e6 := ext_cell g7 g0
    refine wp_region_ext w1.heap.size (by kernel_rfl) (by kernel_rfl) ?_
    repeat (go_big_quiet_step (first
        | (go_at_call_of 50 (Value.int .u64 1); exact ext_call _ (Nat.le_refl _) (NM1.out _))
        | (go_at_call_of 50 (Value.int .u64 (t : Int)); exact ext_call _ (Nat.le_refl _) (N8.out _))
        | (go_at_call_of 50 (Value.int .u64 (p : Int)); exact ext_call _ (Nat.le_refl _) (N4.out _))
        | (go_at_call_of 50 (Value.int .u64 (s : Int)); exact ext_call _ (Nat.le_refl _) (N2.out _))
        | (go_at_call_of 50 (Value.int .u64 (k.size : Int)); exact ext_call _ (Nat.le_refl _) (N1.out _))
        | (go_at_call_of 50 (Value.int .u64 (v.size : Int)); exact ext_call _ (Nat.le_refl _) (N1'.out _))))
    refine wpQuiet_nil ?_
    rintro _ ⟨x, rfl⟩
    have hx := hbw.trans (x.below.mono (Nat.le_of_lt g0))
    have hr2 := hr.below x.below
    generalize x.val = wz at hx hr2 ⊢
    clear g0 g1 g2 g3 g4 g5 g6 g7 e0 e2 e3 e4 e5 e6 hr hbw
    obtain ⟨g0, g1, g2, g3, g4, g5, g6, g7⟩ := hr2
    go_wp2_with fail
    have e0 := ext_cell g1 g0
    have e5 := ext_cell g6 g0
    refine wp_region_ext wz.heap.size (by kernel_rfl) (by kernel_rfl) ?_
    repeat (go_big_quiet_step (first
        | (go_at_call_of 50 (Value.int .u64 1); exact ext_call _ (Nat.le_refl _) (NM1.out _))
        | (go_at_call_of 50 (Value.int .u64 (t : Int)); exact ext_call _ (Nat.le_refl _) (N8.out _))
        | (go_at_call_of 50 (Value.int .u64 (p : Int)); exact ext_call _ (Nat.le_refl _) (N4.out _))
        | (go_at_call_of 50 (Value.int .u64 (s : Int)); exact ext_call _ (Nat.le_refl _) (N2.out _))
        | (go_at_call_of 50 (Value.int .u64 (k.size : Int)); exact ext_call _ (Nat.le_refl _) (N1.out _))
        | (go_at_call_of 50 (Value.int .u64 (v.size : Int)); exact ext_call _ (Nat.le_refl _) (N1'.out _))))
    refine wpQuiet_nil ?_
    rintro _ ⟨y, rfl⟩
    have hy := hx.trans (y.below.mono (Nat.le_of_lt g0))
    have e6 := (y.below.cell (p := ⟨g, 6, none⟩) g0).trans g7
    have hys := Nat.le_trans (Nat.le_of_lt g0) y.below.size
    generalize y.val = wy at hy e6 hys ⊢
    clear g1 g2 g3 g4 g5 g6 g7 e0 e5 N8 N4 N2 N1 N1' NM0 NM1 HM hx
    go_wp2_with fail
    go_ret2
    exact ⟨ret_str2 (hfin.out _ rfl), by rw [Hg.out]; exact hy.alloc hys _⟩

theorem refEncode_no (k v : ByteArray) (m : Bool) (t p s : Nat) (d : Int) (w : World) (hk : k.size ≤ maxLen) (hv : v.size ≤ maxLen) (hm : mayRow k.size v.size p s d = false) :
    Calls Try.prog 26 #[.agg #[.string k, .bool m, .int .u64 t, .int .u32 p, .int .u16 s, .string v, .int .i64 d]] w fun e w' => e = .returned (.tuple #[.string ⟨#[]⟩, .int .i64 2]) ∧ Below w.heap.size w w' := by
  have M := fun W => refMay_any k v m t p s d W hk hv
  rw [hm] at M
  have HM := Lib.hid M
  clear M
  go_enter Try.func26, Try.ntmps26
  go_wp2_with fail
  refine (HM.out _).mono ?_
  rintro e w1 ⟨rfl, hb⟩
  have hbw : Below w.heap.size w w1 := ((Below.refl _ _).alloc (Nat.le_refl _) _).trans (hb.mono (by simp))
  clear hb
  go_wp2_with fail
  go_ret2
  exact ⟨rfl, hbw⟩

end Go.Proofs.Ytahaikfijegknaa
