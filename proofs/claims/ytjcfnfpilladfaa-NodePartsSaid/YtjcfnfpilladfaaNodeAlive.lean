/- chapter 08: what the document fixes: the answers; chapter 08: the document's alive answers true -/
import Derived.Test.YtjcfnfpilladfaaRows
import Derived.Test.YtjcfnfpilladfaaNodeLeaf
import Derived.Test.YtjcfnfpilladfaaNodeChild
import Derived.Test.YtjcfnfpilladfaaNodeRefMerge
import Derived.Test.YtjcfnfpilladfaaNodeSplit
import Derived.WalkKit
import Derived.WalkLawsBesides
import Derived.WalkSpells
import Derived.LoopTactic
import Derived.WalkMore
import Derived.LoopN
import Derived.Laws.BitsAllLaws
import Derived.Laws.IdiomStrings
import Derived.BigQuiet
import Derived.Deep.QuietTactic
import Derived.Deep.DeepCutAuto
import Derived.Deep.RegionHeld3
import Derived.Deep.DrawnRows
import Derived.Lib.Hide
import Derived.Outline
import Derived.Deep.DeepMust
import Derived.Handy
import Derived.Test.YtjcfnfpilladfaaNodeWith
import Derived.Test.YtjcfnfpilladfaaNodeMerge
import Derived.Deep.RegionLaw
namespace Go.Proofs.Ytjcfnfpilladfaa
open Go.RowKit
set_option linter.unusedVariables false
set_option linter.unusedSimpArgs false

theorem flat_get (l : List Rw) : ∀ (j i : Nat) (v : Value) (h : j < l.length), l[j].cell[i]? = some v → (l.flatMap Rw.cell)[j * 7 + i]? = some v := by
  induction l with
  | nil => intro j i v h; simp at h
  | cons r rest ih =>
    intro j i v h hv
    rw [List.flatMap_cons]
    have hc : r.cell.length = 7 := rfl
    cases j with
    | zero =>
      have hi : i < 7 := by
        have := (List.getElem?_eq_some_iff.1 hv).1
        exact this
      rw [List.getElem?_append_left (by rw [hc]; omega), Nat.zero_mul, Nat.zero_add]
      exact hv
    | succ j =>
      rw [List.getElem?_append_right (by rw [hc]; omega), hc, show (j + 1) * 7 + i - 7 = j * 7 + i by omega]
      exact ih j i v (by simpa using h) (by simpa using hv)
theorem rows_lit {w : World} {g : Nat} {t : TypeId} {l : List Rw} (h : w.heap[g]? = some (.cells (l.flatMap Rw.cell).toArray t (0, 0))) (hl : l.length ≤ maxLen) : RowsAt w (.slice (some ⟨g, 0, none⟩) l.length l.length) l :=
  ⟨_, _, rfl, Nat.le_refl _, hl, fun _ => ⟨g, 0, rfl, blk_lt h, fun j hj i v hv => by rw [blk_cell h, List.getElem?_toArray, Nat.zero_add]; exact flat_get l j i v hj hv⟩⟩
theorem flat_getE (l : List En) : ∀ (j i : Nat) (v : Value) (h : j < l.length), l[j].cell[i]? = some v → (l.flatMap En.cell)[j * 2 + i]? = some v := by
  induction l with
  | nil => intro j i v h; simp at h
  | cons r rest ih =>
    intro j i v h hv
    rw [List.flatMap_cons]
    have hc : r.cell.length = 2 := rfl
    cases j with
    | zero =>
      have hi : i < 2 := by
        have := (List.getElem?_eq_some_iff.1 hv).1
        exact this
      rw [List.getElem?_append_left (by rw [hc]; omega), Nat.zero_mul, Nat.zero_add]
      exact hv
    | succ j =>
      rw [List.getElem?_append_right (by rw [hc]; omega), hc, show (j + 1) * 2 + i - 2 = j * 2 + i by omega]
      exact ih j i v (by simpa using h) (by simpa using hv)
theorem ents_lit {w : World} {g : Nat} {t : TypeId} {l : List En} (h : w.heap[g]? = some (.cells (l.flatMap En.cell).toArray t (0, 0))) (hl : l.length ≤ maxLen) : EntsAt w (.slice (some ⟨g, 0, none⟩) l.length l.length) l :=
  ⟨_, _, rfl, Nat.le_refl _, hl, fun _ => ⟨g, 0, rfl, blk_lt h, fun j hj i v hv => by rw [blk_cell h, List.getElem?_toArray, Nat.zero_add]; exact flat_getE l j i v hj hv⟩⟩
def rw1 (c : UInt8) : Rw := ⟨[c], false, 0, 0, 0, [], 0⟩
theorem rw1_wf (c : UInt8) : (rw1 c).wf := ⟨by show (1 : Nat) ≤ maxLen; unfold maxLen; decide, by show (0 : Nat) ≤ maxLen; unfold maxLen; decide, by show (0 : Nat) < _; decide, by show (0 : Nat) < _; decide⟩
def alP : Pg := leafPg [rw1 97, rw1 99]
def alQ : Pg := innerPg [⟨[], 2⟩, ⟨[109], 3⟩]
theorem al1 : findB alP [98] = (1, false) := by decide +kernel
theorem al2 : findB alP [99] = (1, true) := by decide +kernel
theorem al3 : childB childNo alQ [107] = (2, 0, 0) := by decide +kernel
theorem al4 : childB childNo alQ [109] = (3, 1, 0) := by decide +kernel
theorem al5 : (withB alP 1 (rw1 98).enc false).2 = 0 ∧ (withB alP 1 (rw1 98).enc false).1.rows.length = 3 := by decide +kernel
theorem al6 : (withB alP 0 (rw1 98).enc false).2 = 7 := by decide +kernel
theorem al7 : (splitB alP 1 (rw1 98).enc false).1.1.length = 1 ∧ (splitB alP 1 (rw1 98).enc false).1.2.length = 2 ∧ (splitB alP 1 (rw1 98).enc false).2 = ([98], 0) := by decide +kernel
theorem al8 : (mergeB (leafPg [rw1 97]) (leafPg [rw1 99])).2 = 0 ∧ (mergeB (leafPg [rw1 97]) (leafPg [rw1 99])).1.rows.length = 2 := by decide +kernel
theorem al9 : decide (3 * weightB alP.rows < 488) = true := by decide +kernel
theorem al10 : checkB alQ = true := by decide +kernel
theorem al11 : checkB ⟨2, 1, 1, 0, 0, []⟩ = false := by decide +kernel

end Go.Proofs.Ytjcfnfpilladfaa

namespace Go.Proofs.Ytjcfnfpilladfaa
open Go.RowKit
set_option linter.unusedVariables false
set_option linter.unusedSimpArgs false

set_option maxHeartbeats 4000000 in
set_option maxRecDepth 100000 in
theorem alive08_any (w : World) : Calls Try.prog 34 #[] w fun e w' => e = .returned (.bool true) ∧ Below w.heap.size w w' := by
  have L1 := Lib.hid (leaf_any (.slice (some ⟨w.heap.size, 0, none⟩) 2 2) [rw1 97, rw1 99] (w.alloc (.cells #[.string ⟨#[97]⟩, .bool false, .int .u64 0, .int .u32 0, .int .u16 0, .string ⟨#[]⟩, .int .i64 0, .string ⟨#[99]⟩, .bool false, .int .u64 0, .int .u32 0, .int .u16 0, .string ⟨#[]⟩, .int .i64 0] 87)) (rows_lit (l := [rw1 97, rw1 99]) (heap_alloc_new w _) (by unfold maxLen; decide)) (fun r hr => by rcases List.mem_cons.1 hr with rfl | hr; exact rw1_wf _; rcases List.mem_cons.1 hr with rfl | hr; exact rw1_wf _; cases hr) (by decide))
  have B0 := Lib.hid (alloc_below w (.cells #[.string ⟨#[97]⟩, .bool false, .int .u64 0, .int .u32 0, .int .u16 0, .string ⟨#[]⟩, .int .i64 0, .string ⟨#[99]⟩, .bool false, .int .u64 0, .int .u32 0, .int .u16 0, .string ⟨#[]⟩, .int .i64 0] 87))
  go_enter Try.func34, Try.ntmps34
  go_wp2_with fail
  refine L1.out.mono ?_
  rintro e w1 ⟨sv1, rfl, hT1, hb1⟩
  have B1 := Lib.hid (below_then B0.out hb1)
  have T1 := Lib.hid (show TextsAt w1 sv1 alP.rows from hT1)
  obtain ⟨A1, cp1, hv1, g2, g3, g4, g5⟩ := hT1
  have hv1' : sv1 = .slice A1 2 cp1 := hv1
  subst hv1'
  clear hb1 g4 g5 hv1 L1 B0
  unfold pgV leafPg
  simp only
  go_wp2_with fail
  have P2 := Lib.hid ((PgBox.new w1 1 0 5 0 9 (.slice A1 2 cp1)).keep (.cells #[.string ⟨#[]⟩, .int .u32 2, .string ⟨#[109]⟩, .int .u32 3] 93))
  have B2 := Lib.hid ((B1.out.alloc B1.out.size (.cells #[.int .u8 1, .int .u8 0, .int .u32 5, .int .u64 0, .int .u32 9, .slice A1 2 cp1] 45)).alloc (by have := B1.out.size; simp; omega) (.cells #[.string ⟨#[]⟩, .int .u32 2, .string ⟨#[109]⟩, .int .u32 3] 93))
  have T2 := Lib.hid (T1.out.below ((alloc_below w1 (.cells #[.int .u8 1, .int .u8 0, .int .u32 5, .int .u64 0, .int .u32 9, .slice A1 2 cp1] 45)).alloc (by simp) (.cells #[.string ⟨#[]⟩, .int .u32 2, .string ⟨#[109]⟩, .int .u32 3] 93)))
  have H2 := Lib.hid (heap_alloc_new (w1.alloc (.cells #[.int .u8 1, .int .u8 0, .int .u32 5, .int .u64 0, .int .u32 9, .slice A1 2 cp1] 45)) (.cells #[.string ⟨#[]⟩, .int .u32 2, .string ⟨#[109]⟩, .int .u32 3] 93))
  have hz : (w1.alloc (.cells #[.int .u8 1, .int .u8 0, .int .u32 5, .int .u64 0, .int .u32 9, .slice A1 2 cp1] 45)).heap.size = w1.heap.size + 1 := by simp
  rw [hz] at H2
  clear hz
  generalize (w1.alloc (.cells #[.int .u8 1, .int .u8 0, .int .u32 5, .int .u64 0, .int .u32 9, .slice A1 2 cp1] 45)).alloc (.cells #[.string ⟨#[]⟩, .int .u32 2, .string ⟨#[109]⟩, .int .u32 3] 93) = w2 at *
  have L2 := Lib.hid (inner_any (.slice (some ⟨w1.heap.size + 1, 0, none⟩) 2 2) [⟨[], 2⟩, ⟨[109], 3⟩] w2 (ents_lit (l := [⟨[], 2⟩, ⟨[109], 3⟩]) H2.out (by unfold maxLen; decide)) (fun r hr => by unfold En.wf maxLen; rcases List.mem_cons.1 hr with rfl | hr; decide; rcases List.mem_cons.1 hr with rfl | hr; decide; cases hr) (by decide))
  refine L2.out.mono ?_
  rintro e w3 ⟨sv2, rfl, hT2, hb3⟩
  have B3 := Lib.hid (below_then B2.out hb3)
  have T3 := Lib.hid (T2.out.below hb3)
  have P3 := Lib.hid (P2.out.below hb3)
  have U3 := Lib.hid (show TextsAt w3 sv2 alQ.rows from hT2)
  obtain ⟨A2, cp2, hv2, g6, g7, g8, g9⟩ := hT2
  have hv2' : sv2 = .slice A2 2 cp2 := hv2
  subst hv2'
  clear hb3 g8 g9 hv2 L2 H2 T1 T2 P2 B1 B2
  unfold pgV innerPg
  simp only
  obtain ⟨x0, x1, x2, x3, x4, x5, x6⟩ := P3.out.cells
  go_wp2_with fail
  have Q4 := Lib.hid (PgBox.new w3 2 1 6 0 0 (.slice A2 2 cp2))
  have P4 := Lib.hid (P3.out.keep (.cells #[.int .u8 2, .int .u8 1, .int .u32 6, .int .u64 0, .int .u32 0, .slice A2 2 cp2] 45))
  have BN := Lib.hid (alloc_below w3 (.cells #[.int .u8 2, .int .u8 1, .int .u32 6, .int .u64 0, .int .u32 0, .slice A2 2 cp2] 45))
  generalize w3.alloc (.cells #[.int .u8 2, .int .u8 1, .int .u32 6, .int .u64 0, .int .u32 0, .slice A2 2 cp2] 45) = w4 at *
  have B4 := Lib.hid (below_then B3.out BN.out)
  have T4 := Lib.hid (T3.out.below BN.out)
  have U4 := Lib.hid (U3.out.below BN.out)
  clear BN P3 B3 T3 U3 x0 x1 x2 x3 x4 x5 x6
  have hwp : alP.wf := ⟨by decide, by decide, by decide, by decide, by decide⟩
  have hwq : alQ.wf := ⟨by decide, by decide, by decide, by decide, by decide⟩
  have hpw : weightB alP.rows + (4 + (rw1 98).enc.length) ≤ 1000000 := by decide +kernel
  have hqw : weightB alQ.rows ≤ 1000000 := by decide +kernel
  have hpw1 : weightB alP.rows ≤ 1000000 := by decide +kernel
  have F4 : Hid (Calls Try.prog 41 #[.agg #[.int .u8 1, .int .u8 0, .int .u32 5, .int .u64 0, .int .u32 9, .slice A1 2 cp1], .string ⟨#[98]⟩] w4 fun e w' => e = .returned (.tuple #[.int .i64 1, .bool false]) ∧ Below w4.heap.size w4 w') := by
    show Calls _ _ _ _ _
    have h := nodeFind_any alP (.slice A1 2 cp1) [98] w4 hwp T4.out hpw1
    rw [al1] at h
    exact h
  refine F4.out.mono ?_
  rintro e w5 ⟨rfl, hb5⟩
  have B5 := Lib.hid (below_then B4.out hb5)
  have T5 := Lib.hid (T4.out.below hb5)
  have U5 := Lib.hid (U4.out.below hb5)
  have P5 := Lib.hid (P4.out.below hb5)
  have Q5 := Lib.hid (Q4.out.below hb5)
  clear hb5 B4 T4 U4 P4 Q4
  obtain ⟨x0, x1, x2, x3, x4, x5, x6⟩ := P5.out.cells
  obtain ⟨y0, y1, y2, y3, y4, y5, y6⟩ := Q5.out.cells
  go_wp2_with fail
  clear x0 x1 x2 x3 x4 x5 x6 y0 y1 y2 y3 y4 y5 y6
  have F5 : Hid (Calls Try.prog 41 #[.agg #[.int .u8 1, .int .u8 0, .int .u32 5, .int .u64 0, .int .u32 9, .slice A1 2 cp1], .string ⟨#[99]⟩] w5 fun e w' => e = .returned (.tuple #[.int .i64 1, .bool true]) ∧ Below w5.heap.size w5 w') := by
    show Calls _ _ _ _ _
    have h := nodeFind_any alP (.slice A1 2 cp1) [99] w5 hwp T5.out hpw1
    rw [al2] at h
    exact h
  refine F5.out.mono ?_
  rintro e w6 ⟨rfl, hb6⟩
  have B6 := Lib.hid (below_then B5.out hb6)
  have T6 := Lib.hid (T5.out.below hb6)
  have U6 := Lib.hid (U5.out.below hb6)
  have P6 := Lib.hid (P5.out.below hb6)
  have Q6 := Lib.hid (Q5.out.below hb6)
  clear hb6 B5 T5 U5 P5 Q5
  obtain ⟨x0, x1, x2, x3, x4, x5, x6⟩ := P6.out.cells
  obtain ⟨y0, y1, y2, y3, y4, y5, y6⟩ := Q6.out.cells
  go_wp2_with fail
  clear x0 x1 x2 x3 x4 x5 x6 y0 y1 y2 y3 y4 y5 y6
  have F6 : Hid (Calls Try.prog 43 #[.agg #[.int .u8 2, .int .u8 1, .int .u32 6, .int .u64 0, .int .u32 0, .slice A2 2 cp2], .string ⟨#[107]⟩] w6 fun e w' => e = .returned (.tuple #[.int .u32 2, .int .i64 0, .int .i64 0]) ∧ Below w6.heap.size w6 w') := by
    show Calls _ _ _ _ _
    have h := nodeChild_any alQ (.slice A2 2 cp2) [107] w6 hwq U6.out hqw
    rw [al3] at h
    exact h
  refine F6.out.mono ?_
  rintro e w7 ⟨rfl, hb7⟩
  have B7 := Lib.hid (below_then B6.out hb7)
  have T7 := Lib.hid (T6.out.below hb7)
  have U7 := Lib.hid (U6.out.below hb7)
  have P7 := Lib.hid (P6.out.below hb7)
  have Q7 := Lib.hid (Q6.out.below hb7)
  clear hb7 B6 T6 U6 P6 Q6
  obtain ⟨x0, x1, x2, x3, x4, x5, x6⟩ := P7.out.cells
  obtain ⟨y0, y1, y2, y3, y4, y5, y6⟩ := Q7.out.cells
  go_wp2_with fail
  clear x0 x1 x2 x3 x4 x5 x6 y0 y1 y2 y3 y4 y5 y6
  have F7 : Hid (Calls Try.prog 43 #[.agg #[.int .u8 2, .int .u8 1, .int .u32 6, .int .u64 0, .int .u32 0, .slice A2 2 cp2], .string ⟨#[109]⟩] w7 fun e w' => e = .returned (.tuple #[.int .u32 3, .int .i64 1, .int .i64 0]) ∧ Below w7.heap.size w7 w') := by
    show Calls _ _ _ _ _
    have h := nodeChild_any alQ (.slice A2 2 cp2) [109] w7 hwq U7.out hqw
    rw [al4] at h
    exact h
  refine F7.out.mono ?_
  rintro e w8 ⟨rfl, hb8⟩
  have B8 := Lib.hid (below_then B7.out hb8)
  have T8 := Lib.hid (T7.out.below hb8)
  have U8 := Lib.hid (U7.out.below hb8)
  have P8 := Lib.hid (P7.out.below hb8)
  have Q8 := Lib.hid (Q7.out.below hb8)
  clear hb8 B7 T7 U7 P7 Q7
  obtain ⟨x0, x1, x2, x3, x4, x5, x6⟩ := P8.out.cells
  obtain ⟨y0, y1, y2, y3, y4, y5, y6⟩ := Q8.out.cells
  go_wp2_with fail
  clear x0 x1 x2 x3 x4 x5 x6 y0 y1 y2 y3 y4 y5 y6
  obtain ⟨er, hE⟩ := Rw.encode (rw1 98) (rw1_wf 98)
  have F8 := Lib.hid (hE w8)
  clear hE
  refine F8.out.mono ?_
  rintro e w9 ⟨rfl, hb9⟩
  have B9 := Lib.hid (below_then B8.out hb9)
  have T9 := Lib.hid (T8.out.below hb9)
  have U9 := Lib.hid (U8.out.below hb9)
  have P9 := Lib.hid (P8.out.below hb9)
  have Q9 := Lib.hid (Q8.out.below hb9)
  clear hb9 B8 T8 U8 P8 Q8
  obtain ⟨x0, x1, x2, x3, x4, x5, x6⟩ := P9.out.cells
  obtain ⟨y0, y1, y2, y3, y4, y5, y6⟩ := Q9.out.cells
  go_wp2_with fail
  clear x0 x1 x2 x3 x4 x5 x6 y0 y1 y2 y3 y4 y5 y6
  have F9 := Lib.hid (nodeWith_any alP (.slice A1 2 cp1) 1 (rw1 98).enc false w9 hwp T9.out hpw (by omega) (by omega))
  refine F9.out.mono ?_
  rintro e w10 ⟨sv10, rfl, hT10, hb10⟩
  have B10 := Lib.hid (below_then B9.out hb10)
  have T10 := Lib.hid (T9.out.below hb10)
  have U10 := Lib.hid (U9.out.below hb10)
  have P10 := Lib.hid (P9.out.below hb10)
  have Q10 := Lib.hid (Q9.out.below hb10)
  clear hb10 B9 T9 U9 P9 Q9
  have hR9 := al5
  generalize withB alP 1 (rw1 98).enc false = R9 at *
  obtain ⟨⟨a9, b9, c9, d9, e9, rows9⟩, er9⟩ := R9
  obtain ⟨hr1, hr2⟩ := hR9
  simp only at hr1 hr2 hT10
  subst hr1
  obtain ⟨A10, cp10, hv10, _, _, _, _⟩ := hT10
  rw [hr2] at hv10
  subst hv10
  clear hr2 F9
  unfold pgV
  simp only
  obtain ⟨x0, x1, x2, x3, x4, x5, x6⟩ := P10.out.cells
  obtain ⟨y0, y1, y2, y3, y4, y5, y6⟩ := Q10.out.cells
  go_wp2_with fail
  clear x0 x1 x2 x3 x4 x5 x6 y0 y1 y2 y3 y4 y5 y6
  have BN := Lib.hid (alloc_below w10 (.cells #[.int .u8 a9, .int .u8 b9, .int .u32 c9, .int .u64 d9, .int .u32 e9, .slice A10 3 cp10] 45))
  have X11 := Lib.hid (PgBox.new w10 a9 b9 c9 d9 e9 (.slice A10 3 cp10))
  generalize w10.alloc (.cells #[.int .u8 a9, .int .u8 b9, .int .u32 c9, .int .u64 d9, .int .u32 e9, .slice A10 3 cp10] 45) = w11 at *
  have hbn := BN.out
  have B11 := Lib.hid (below_then B10.out hbn)
  have T11 := Lib.hid (T10.out.below hbn)
  have U11 := Lib.hid (U10.out.below hbn)
  have P11 := Lib.hid (P10.out.below hbn)
  have Q11 := Lib.hid (Q10.out.below hbn)
  clear hbn B10 T10 U10 P10 Q10
  have hb11 := Below.refl w11.heap.size w11
  clear hb11 BN
  have F11 := Lib.hid (nodeWith_any alP (.slice A1 2 cp1) 0 (rw1 98).enc false w11 hwp T11.out hpw (by omega) (by omega))
  refine F11.out.mono ?_
  rintro e w12 ⟨sv12, rfl, hT12, hb12⟩
  have X12 := Lib.hid (X11.out.below hb12)
  clear X11
  have B12 := Lib.hid (below_then B11.out hb12)
  have T12 := Lib.hid (T11.out.below hb12)
  have U12 := Lib.hid (U11.out.below hb12)
  have P12 := Lib.hid (P11.out.below hb12)
  have Q12 := Lib.hid (Q11.out.below hb12)
  clear hb12 B11 T11 U11 P11 Q11
  have hR11 := al6
  generalize withB alP 0 (rw1 98).enc false = R11 at *
  obtain ⟨⟨a11, b11, c11, d11, e11, rows11⟩, er11⟩ := R11
  simp only at hR11 hT12
  subst hR11
  obtain ⟨A12, cp12, hv12, _, _, _, _⟩ := hT12
  subst hv12
  clear F11
  unfold pgV
  simp only
  obtain ⟨x0, x1, x2, x3, x4, x5, x6⟩ := P12.out.cells
  obtain ⟨y0, y1, y2, y3, y4, y5, y6⟩ := Q12.out.cells
  go_wp2_with fail
  clear x0 x1 x2 x3 x4 x5 x6 y0 y1 y2 y3 y4 y5 y6
  have BN := Lib.hid (alloc_below w12 (.cells #[.int .u8 a11, .int .u8 b11, .int .u32 c11, .int .u64 d11, .int .u32 e11, .slice A12 rows11.length cp12] 45))
  generalize w12.alloc (.cells #[.int .u8 a11, .int .u8 b11, .int .u32 c11, .int .u64 d11, .int .u32 e11, .slice A12 rows11.length cp12] 45) = w13 at *
  have hbn := BN.out
  have X13 := Lib.hid (X12.out.below hbn)
  clear X12
  have B13 := Lib.hid (below_then B12.out hbn)
  have T13 := Lib.hid (T12.out.below hbn)
  have U13 := Lib.hid (U12.out.below hbn)
  have P13 := Lib.hid (P12.out.below hbn)
  have Q13 := Lib.hid (Q12.out.below hbn)
  clear hbn B12 T12 U12 P12 Q12
  clear BN
  have F13 := Lib.hid (nodeSplit_any alP (.slice A1 2 cp1) 1 (rw1 98).enc false w13 hwp T13.out hpw (by omega) (by omega))
  refine F13.out.mono ?_
  rintro e w14 ⟨u14, v14, rfl, hu14, hv14, hb14⟩
  have X14 := Lib.hid (X13.out.below hb14)
  clear X13
  have B14 := Lib.hid (below_then B13.out hb14)
  have T14 := Lib.hid (T13.out.below hb14)
  have U14 := Lib.hid (U13.out.below hb14)
  have P14 := Lib.hid (P13.out.below hb14)
  have Q14 := Lib.hid (Q13.out.below hb14)
  clear hb14 B13 T13 U13 P13 Q13
  obtain ⟨hr1, hr2, hr3⟩ := al7
  generalize splitB alP 1 (rw1 98).enc false = R13 at *
  obtain ⟨⟨l13, r13⟩, sp13⟩ := R13
  simp only at hr1 hr2 hr3 hu14 hv14
  subst hr3
  obtain ⟨A14, cp14, hvu, _, _, _, _⟩ := hu14
  obtain ⟨A15, cp15, hvv, _, _, _, _⟩ := hv14
  rw [hr1] at hvu
  rw [hr2] at hvv
  subst hvu
  subst hvv
  clear hr1 hr2 F13
  simp only
  obtain ⟨x0, x1, x2, x3, x4, x5, x6⟩ := P14.out.cells
  obtain ⟨y0, y1, y2, y3, y4, y5, y6⟩ := Q14.out.cells
  go_wp2_with fail
  clear x0 x1 x2 x3 x4 x5 x6 y0 y1 y2 y3 y4 y5 y6
  have BN := Lib.hid (alloc_below w14 (.cells #[.string ⟨#[97]⟩, .bool false, .int .u64 0, .int .u32 0, .int .u16 0, .string ⟨#[]⟩, .int .i64 0] 87))
  have H15 := Lib.hid (heap_alloc_new w14 (.cells #[.string ⟨#[97]⟩, .bool false, .int .u64 0, .int .u32 0, .int .u16 0, .string ⟨#[]⟩, .int .i64 0] 87))
  generalize w14.alloc (.cells #[.string ⟨#[97]⟩, .bool false, .int .u64 0, .int .u32 0, .int .u16 0, .string ⟨#[]⟩, .int .i64 0] 87) = w15 at *
  have hbn := BN.out
  have X15 := Lib.hid (X14.out.below hbn)
  clear X14
  have B15 := Lib.hid (below_then B14.out hbn)
  have T15 := Lib.hid (T14.out.below hbn)
  have U15 := Lib.hid (U14.out.below hbn)
  have P15 := Lib.hid (P14.out.below hbn)
  have Q15 := Lib.hid (Q14.out.below hbn)
  clear hbn B14 T14 U14 P14 Q14
  clear BN
  have L15 := Lib.hid (leaf_any (.slice (some ⟨w14.heap.size, 0, none⟩) 1 1) [rw1 97] w15 (rows_lit (l := [rw1 97]) H15.out (by unfold maxLen; decide)) (fun r hr => by rcases List.mem_cons.1 hr with rfl | hr; exact rw1_wf _; cases hr) (by decide))
  refine L15.out.mono ?_
  rintro e w16 ⟨sv16, rfl, hT16, hb16⟩
  have X16 := Lib.hid (X15.out.below hb16)
  clear X15
  have B16 := Lib.hid (below_then B15.out hb16)
  have T16 := Lib.hid (T15.out.below hb16)
  have U16 := Lib.hid (U15.out.below hb16)
  have P16 := Lib.hid (P15.out.below hb16)
  have Q16 := Lib.hid (Q15.out.below hb16)
  clear hb16 B15 T15 U15 P15 Q15
  have V16 := Lib.hid hT16
  obtain ⟨A16, cp16, hv16, _, _, _, _⟩ := hT16
  have hv16' : sv16 = .slice A16 1 cp16 := hv16
  subst hv16'
  clear hv16 L15 H15
  unfold pgV leafPg
  simp only
  obtain ⟨x0, x1, x2, x3, x4, x5, x6⟩ := P16.out.cells
  obtain ⟨y0, y1, y2, y3, y4, y5, y6⟩ := Q16.out.cells
  go_wp2_with fail
  clear x0 x1 x2 x3 x4 x5 x6 y0 y1 y2 y3 y4 y5 y6
  have Z16 := V16
  clear V16
  have BN := Lib.hid (alloc_below w16 (.cells #[.string ⟨#[99]⟩, .bool false, .int .u64 0, .int .u32 0, .int .u16 0, .string ⟨#[]⟩, .int .i64 0] 87))
  have H17 := Lib.hid (heap_alloc_new w16 (.cells #[.string ⟨#[99]⟩, .bool false, .int .u64 0, .int .u32 0, .int .u16 0, .string ⟨#[]⟩, .int .i64 0] 87))
  generalize w16.alloc (.cells #[.string ⟨#[99]⟩, .bool false, .int .u64 0, .int .u32 0, .int .u16 0, .string ⟨#[]⟩, .int .i64 0] 87) = w17 at *
  have hbn := BN.out
  have X17 := Lib.hid (X16.out.below hbn)
  have Z17 := Lib.hid (Z16.out.below hbn)
  clear Z16
  clear X16
  have B17 := Lib.hid (below_then B16.out hbn)
  have T17 := Lib.hid (T16.out.below hbn)
  have U17 := Lib.hid (U16.out.below hbn)
  have P17 := Lib.hid (P16.out.below hbn)
  have Q17 := Lib.hid (Q16.out.below hbn)
  clear hbn B16 T16 U16 P16 Q16
  clear BN
  have L17 := Lib.hid (leaf_any (.slice (some ⟨w16.heap.size, 0, none⟩) 1 1) [rw1 99] w17 (rows_lit (l := [rw1 99]) H17.out (by unfold maxLen; decide)) (fun r hr => by rcases List.mem_cons.1 hr with rfl | hr; exact rw1_wf _; cases hr) (by decide))
  refine L17.out.mono ?_
  rintro e w18 ⟨sv18, rfl, hT18, hb18⟩
  have X18 := Lib.hid (X17.out.below hb18)
  clear X17
  have Z18 := Lib.hid (Z17.out.below hb18)
  clear Z17
  have B18 := Lib.hid (below_then B17.out hb18)
  have T18 := Lib.hid (T17.out.below hb18)
  have U18 := Lib.hid (U17.out.below hb18)
  have P18 := Lib.hid (P17.out.below hb18)
  have Q18 := Lib.hid (Q17.out.below hb18)
  clear hb18 B17 T17 U17 P17 Q17
  have V18 := Lib.hid hT18
  obtain ⟨A18, cp18, hv18, _, _, _, _⟩ := hT18
  have hv18' : sv18 = .slice A18 1 cp18 := hv18
  subst hv18'
  clear hv18 L17 H17
  unfold pgV leafPg
  simp only
  obtain ⟨x0, x1, x2, x3, x4, x5, x6⟩ := P18.out.cells
  obtain ⟨y0, y1, y2, y3, y4, y5, y6⟩ := Q18.out.cells
  go_wp2_with fail
  clear x0 x1 x2 x3 x4 x5 x6 y0 y1 y2 y3 y4 y5 y6
  have F18 := Lib.hid (nodeMerge_any (leafPg [rw1 97]) (leafPg [rw1 99]) (.slice A16 1 cp16) (.slice A18 1 cp18) w18 ⟨by decide, by decide, by decide, by decide, by decide⟩ ⟨by decide, by decide, by decide, by decide, by decide⟩ Z18.out V18.out (by decide +kernel) (by decide +kernel))
  clear Z18 V18
  refine F18.out.mono ?_
  rintro e w19 ⟨sv19, rfl, hT19, hb19⟩
  have X19 := Lib.hid (X18.out.below hb19)
  clear X18
  have B19 := Lib.hid (below_then B18.out hb19)
  have T19 := Lib.hid (T18.out.below hb19)
  have U19 := Lib.hid (U18.out.below hb19)
  have P19 := Lib.hid (P18.out.below hb19)
  have Q19 := Lib.hid (Q18.out.below hb19)
  clear hb19 B18 T18 U18 P18 Q18
  have hR18 := al8
  generalize mergeB (leafPg [rw1 97]) (leafPg [rw1 99]) = R18 at *
  obtain ⟨⟨a18, b18, c18, d18, e18, rows18⟩, er18⟩ := R18
  obtain ⟨hr1, hr2⟩ := hR18
  simp only at hr1 hr2 hT19
  subst hr1
  obtain ⟨A19, cp19, hv19, _, _, _, _⟩ := hT19
  rw [hr2] at hv19
  subst hv19
  clear hr2 F18
  unfold pgV
  simp only
  obtain ⟨x0, x1, x2, x3, x4, x5, x6⟩ := P19.out.cells
  obtain ⟨y0, y1, y2, y3, y4, y5, y6⟩ := Q19.out.cells
  go_upto_region 12 with fail
  clear x0 x1 x2 x3 x4 x5 x6 y0 y1 y2 y3 y4 y5 y6
  have BN := Lib.hid (alloc_below w19 (.cells #[.int .u8 a18, .int .u8 b18, .int .u32 c18, .int .u64 d18, .int .u32 e18, .slice A19 2 cp19] 45))
  have Y20 := Lib.hid (PgBox.new w19 a18 b18 c18 d18 e18 (.slice A19 2 cp19))
  generalize w19.alloc (.cells #[.int .u8 a18, .int .u8 b18, .int .u32 c18, .int .u64 d18, .int .u32 e18, .slice A19 2 cp19] 45) = w20 at *
  have hbn := BN.out
  have X20 := Lib.hid (X19.out.below hbn)
  clear X19
  have B20 := Lib.hid (below_then B19.out hbn)
  have T20 := Lib.hid (T19.out.below hbn)
  have U20 := Lib.hid (U19.out.below hbn)
  have P20 := Lib.hid (P19.out.below hbn)
  have Q20 := Lib.hid (Q19.out.below hbn)
  clear hbn B19 T19 U19 P19 Q19
  clear BN
  have CA : Hid (∀ y : Ext w20.heap.size w20, Calls Try.prog 47 #[.agg #[.int .u8 1, .int .u8 0, .int .u32 5, .int .u64 0, .int .u32 9, .slice A1 2 cp1]] y.val fun e w' => e = .returned (.bool true) ∧ Below y.val.heap.size y.val w') := by
    show ∀ y : Ext w20.heap.size w20, _
    intro y
    have h := nodeSmall_any alP (.slice A1 2 cp1) y.val (T20.out.below y.below) hpw1
    rw [al9] at h
    exact h
  have CB : Hid (∀ y : Ext w20.heap.size w20, Calls Try.prog 45 #[.agg #[.int .u8 2, .int .u8 1, .int .u32 6, .int .u64 0, .int .u32 0, .slice A2 2 cp2]] y.val fun e w' => e = .returned (.int .i64 0) ∧ Below y.val.heap.size y.val w') := by
    show ∀ y : Ext w20.heap.size w20, _
    intro y
    have h := nodeCheck_any alQ (.slice A2 2 cp2) y.val hwq (U20.out.below y.below) hqw
    rw [al10] at h
    exact h
  have CD : Hid (∀ y : Ext w20.heap.size w20, Calls Try.prog 45 #[.agg #[.int .u8 2, .int .u8 1, .int .u32 1, .int .u64 0, .int .u32 0, .slice none 0 0]] y.val fun e w' => e = .returned (.int .i64 7) ∧ Below y.val.heap.size y.val w') := by
    show ∀ y : Ext w20.heap.size w20, _
    intro y
    have h := nodeCheck_any ⟨2, 1, 1, 0, 0, []⟩ (.slice none 0 0) y.val ⟨by decide, by decide, by decide, by decide, by decide⟩ (TextsAt.nil _) (by decide +kernel)
    rw [al11] at h
    exact h
  obtain ⟨x0, x1, x2, x3, x4, x5, x6⟩ := P20.out.cells
  obtain ⟨y0, y1, y2, y3, y4, y5, y6⟩ := Q20.out.cells
  obtain ⟨u0, u1, u2, u3, u4, u5, u6⟩ := X20.out.cells
  obtain ⟨v0, v1, v2, v3, v4, v5, v6⟩ := Y20.out.cells
  go_wp2_with fail
  refine (CA.out ⟨w20, Below.refl _ _⟩).mono ?_
  rintro e w21 ⟨rfl, hb21⟩
  have Bq21 := Lib.hid hb21
  have B21 := Lib.hid (below_then B20.out hb21)
  have T21 := Lib.hid (T20.out.below hb21)
  have U21 := Lib.hid (U20.out.below hb21)
  have P21 := Lib.hid (P20.out.below hb21)
  have Q21 := Lib.hid (Q20.out.below hb21)
  clear hb21 B20 T20 U20 P20 Q20
  clear x0 x1 x2 x3 x4 x5 x6 y0 y1 y2 y3 y4 y5 y6
  obtain ⟨x0, x1, x2, x3, x4, x5, x6⟩ := P21.out.cells
  obtain ⟨y0, y1, y2, y3, y4, y5, y6⟩ := Q21.out.cells
  go_wp2_with fail
  clear x0 x1 x2 x3 x4 x5 x6 y0 y1 y2 y3 y4 y5 y6
  refine (CB.out ⟨w21, Bq21.out⟩).mono ?_
  rintro e w22 ⟨rfl, hb22⟩
  have Bq22 := Lib.hid (below_then Bq21.out hb22)
  have B22 := Lib.hid (below_then B21.out hb22)
  clear hb22
  go_wp2_with fail
  refine (CD.out ⟨w22, Bq22.out⟩).mono ?_
  rintro e w23 ⟨rfl, hb23⟩
  have B23 := Lib.hid (below_then B22.out hb23)
  clear hb23
  go_wp2_with fail
  go_ret
  exact ⟨rfl, B23.out⟩

end Go.Proofs.Ytjcfnfpilladfaa
