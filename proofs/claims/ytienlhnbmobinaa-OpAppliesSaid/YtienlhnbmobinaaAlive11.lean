/- law11: alive -/
import Derived.Test.YtienlhnbmobinaaRows
import Derived.Test.YtienlhnbmobinaaOpRedo11
import Derived.Test.YtienlhnbmobinaaOpDec
import Derived.Test.YtienlhnbmobinaaOpEnc
import Derived.Test.YtienlhnbmobinaaOpApply
import Derived.Test.YtienlhnbmobinaaOpDoesMap
import Derived.Test.YtienlhnbmobinaaOpDoes
import Derived.Test.YtienlhnbmobinaaRefBytes11
import Derived.Test.YtienlhnbmobinaaOpLaw
import Derived.Test.YtienlhnbmobinaaOpIn
import Derived.Test.YtienlhnbmobinaaHeavy11
import Derived.Test.YtienlhnbmobinaaOpPlain
import Derived.Test.YtienlhnbmobinaaOpPart
import Derived.Test.YtienlhnbmobinaaTextsMove
import Derived.Test.YtienlhnbmobinaaTextsP
import Derived.Test.YtienlhnbmobinaaPlains
import Derived.Test.YtienlhnbmobinaaBase
import Derived.WalkKit
import Derived.WalkLawsBesides
import Derived.WalkSpells
import Derived.LoopTactic
import Derived.WalkMore
import Derived.LoopN
import Derived.Laws.BitsAllLaws
import Derived.Laws.IdiomStrings
import Derived.BigQuiet
import Derived.Deep.QuietTactic
import Derived.Deep.DeepCutAuto
import Derived.Deep.RegionHeld3
import Derived.Deep.DrawnRows
import Derived.Lib.Hide
import Derived.Outline
import Derived.Deep.DeepMust
import Derived.Handy
namespace Go.Proofs.Ytienlhnbmobinaa
open Go.RowKit
set_option linter.unusedVariables false
set_option linter.unusedSimpArgs false

def oPut : Od := ⟨2, 1, 0, 0, [120], [], 0, 0, 0⟩
def oFmt : Od := ⟨1, 1, 0, 0, [], [], 1, 0, 7⟩
def oPut2 : Od := ⟨2, 2, 0, 0, [], [], 0, 0, 0⟩
def oPat : Od := ⟨8, 1, 0, 0, [121], [], 0, 0, 0⟩
def oDrop : Od := ⟨4, 1, 0, 0, [], [], 0, 0, 0⟩
def oDrop1 : Od := ⟨4, 1, 1, 0, [], [], 0, 0, 0⟩
def oBad : Od := ⟨4, 1, 0, 0, [], [], 0, 0, 1⟩
def aP1 : Pg := ⟨1, 0, 1, 5, 7, []⟩
def aP2 : Pg := ⟨1, 0, 1, 6, 7, [[121]]⟩
theorem av1 : encL [oPut] = ([1, 2, 0, 0, 0, 1, 0, 0, 0, 1, 120], 0) := by decide +kernel
theorem av2 : decL [1, 2, 0, 0, 0, 1, 0, 0, 0, 1, 120] = some [oPut] := by decide +kernel
theorem av3 : applyB Pg.zero oFmt 5 = (aP1, 0) := by decide +kernel
theorem av4 : redoB aP1 6 [oPut, oPut2, oPat] = (aP2, 0) := by decide +kernel
theorem av5 : redoB aP2 6 [oDrop] = (aP2, 0) := by decide +kernel
theorem av6 : applyB aP2 oDrop1 7 = (Pg.zero, 3) := by decide +kernel
theorem av7 : oBad.may = false := by decide +kernel
def LV (l : List Od) : List Ov := l.map fun o => ⟨o, none, 0⟩
theorem ops_lit (w : World) (l : List Od) (cs : Array Value) (h : cs = ((LV l).flatMap Ov.cell).toArray) (hr : ∀ o ∈ l, o.rows = []) (hl : l.length ≤ 1000000) : OpsAt (w.alloc (.cells cs 28)) (.slice (some ⟨w.heap.size, 0, none⟩) l.length l.length) (LV l) := by
  have hlen : (LV l).length = l.length := by simp [LV]
  subst h
  refine ⟨_, l.length, by rw [hlen], by rw [hlen]; exact Nat.le_refl _, by unfold maxLen; omega, fun _ => ⟨w.heap.size, 0, rfl, by simp, fun j hj i v hv => ?_⟩, fun e he => ?_⟩
  · rw [show 0 + j * 9 + i = j * 9 + i by omega, blk_cell (heap_alloc_new w _)]
    simpa using flat_getO _ j i v hj hv
  · obtain ⟨o, ho, rfl⟩ := List.mem_map.1 he
    have := hr o ho
    unfold Ov.sv
    simp only [this]
    exact TextsAt.nil _
theorem wf_small (o : Od) (h : o.text.length ≤ 10) (hr : o.rows = []) : o.small := ⟨by omega, by rw [hr]; simp, by rw [hr]; intro r hr; cases hr⟩
set_option maxHeartbeats 4000000 in
set_option maxRecDepth 100000 in
theorem alive11_any (w : World) : Calls Try.prog 18 #[] w fun e w' => e = .returned (.bool true) ∧ Below w.heap.size w w' := by
  have wfs : ∀ o ∈ [oPut, oPut2, oPat, oDrop, oDrop1, oFmt, oBad], o.wf ∧ o.small ∧ o.rows = [] := by
    intro o ho
    simp only [List.mem_cons, List.not_mem_nil, or_false] at ho
    rcases ho with rfl | rfl | rfl | rfl | rfl | rfl | rfl
    all_goals exact ⟨by unfold Od.wf; decide +kernel, wf_small _ (by decide +kernel) rfl, rfl⟩
  have pz : Pg.zero.wf := by unfold Pg.wf; decide +kernel
  have p1 : aP1.wf := by unfold Pg.wf; decide +kernel
  have p2 : aP2.wf := by unfold Pg.wf; decide +kernel
  have LW : ∀ l : List Od, (∀ o ∈ l, o ∈ [oPut, oPut2, oPat, oDrop, oDrop1, oFmt, oBad]) → (∀ e ∈ LV l, e.o.wf) ∧ (∀ e ∈ LV l, e.o.small) := by
    intro l hl
    refine ⟨fun e he => ?_, fun e he => ?_⟩
    all_goals
      obtain ⟨o, ho, rfl⟩ := List.mem_map.1 he
    · exact (wfs o (hl o ho)).1
    · exact (wfs o (hl o ho)).2.1
  have LVM : ∀ l, (LV l).map Ov.o = l := fun l => by simp [LV, Function.comp_def]
  -- the calls
  have EN := Lib.hid (opEncode_any (.slice (some ⟨w.heap.size, 0, none⟩) 1 1) (LV [oPut]) (w.alloc (.cells #[.int .u8 2, .int .u32 1, .int .i64 0, .int .i64 0, .string ⟨#[120]⟩, .slice none 0 0, .int .u8 0, .int .u8 0, .int .u32 0] 28)) (ops_lit w [oPut] _ rfl (fun o ho => by simp at ho; rw [ho]; rfl) (by simp)) (LW _ (by simp)).1 (LW _ (by simp)).2 (by simp [LV]))
  rw [LVM, av1] at EN
  have DC := Lib.hid fun W => opDecode_any [1, 2, 0, 0, 0, 1, 0, 0, 0, 1, 120] W (by simp)
  have A1 := Lib.hid fun W => opApply_any Pg.zero oFmt (.slice none 0 0) (.slice none 0 0) 5 W (TextsAt.nil _) (TextsAt.nil _) pz (wfs oFmt (by simp)).1 (wfs oFmt (by simp)).2.1 (by decide) (by decide +kernel) (by decide +kernel)
  rw [av3] at A1
  have R1 := Lib.hid fun (sv : Value) (W : World) (h : TextsAt W sv []) => opRedo_any aP1 sv (.slice (some ⟨W.heap.size, 0, none⟩) 3 3) 6 (LV [oPut, oPut2, oPat]) (W.alloc (.cells #[.int .u8 2, .int .u32 1, .int .i64 0, .int .i64 0, .string ⟨#[120]⟩, .slice none 0 0, .int .u8 0, .int .u8 0, .int .u32 0, .int .u8 2, .int .u32 2, .int .i64 0, .int .i64 0, .string ⟨#[]⟩, .slice none 0 0, .int .u8 0, .int .u8 0, .int .u32 0, .int .u8 8, .int .u32 1, .int .i64 0, .int .i64 0, .string ⟨#[121]⟩, .slice none 0 0, .int .u8 0, .int .u8 0, .int .u32 0] 28)) (h.below (alloc_below _ _)) p1 (by decide) (by decide +kernel) (ops_lit W [oPut, oPut2, oPat] _ rfl (fun o ho => by simp only [List.mem_cons, List.not_mem_nil, or_false] at ho; rcases ho with rfl | rfl | rfl <;> rfl) (by simp)) (LW _ (by simp)).1 (LW _ (by simp)).2
  rw [LVM, av4] at R1
  have R2 := Lib.hid fun (sv : Value) (W : World) (h : TextsAt W sv aP2.rows) => opRedo_any aP2 sv (.slice (some ⟨W.heap.size, 0, none⟩) 1 1) 6 (LV [oDrop]) (W.alloc (.cells #[.int .u8 4, .int .u32 1, .int .i64 0, .int .i64 0, .string ⟨#[]⟩, .slice none 0 0, .int .u8 0, .int .u8 0, .int .u32 0] 28)) (h.below (alloc_below _ _)) p2 (by decide) (by decide +kernel) (ops_lit W [oDrop] _ rfl (fun o ho => by simp only [List.mem_cons, List.not_mem_nil, or_false] at ho; rw [ho]; rfl) (by simp)) (LW _ (by simp)).1 (LW _ (by simp)).2
  rw [LVM, av5] at R2
  have A2 := Lib.hid fun (sv : Value) (W : World) (h : TextsAt W sv aP2.rows) => opApply_any aP2 oDrop1 sv (.slice none 0 0) 7 W h (TextsAt.nil _) p2 (wfs oDrop1 (by simp)).1 (wfs oDrop1 (by simp)).2.1 (by decide) (by decide +kernel) (by decide +kernel)
  rw [av6] at A2
  have MB := Lib.hid fun W => opMay_any oBad (.slice none 0 0) W (TextsAt.nil _) (wfs oBad (by simp)).1 (wfs oBad (by simp)).2.1
  rw [av7] at MB
  have B0 := Lib.hid (alloc_below w (.cells #[.int .u8 2, .int .u32 1, .int .i64 0, .int .i64 0, .string ⟨#[120]⟩, .slice none 0 0, .int .u8 0, .int .u8 0, .int .u32 0] 28))
  simp only [pgV, odV] at A1 R1 R2 A2 MB
  simp only [aP1, aP2, oFmt, oDrop1, oBad, Pg.zero, List.length_nil] at A1 R1 R2 A2 MB
  clear wfs pz p1 p2 LW LVM
  go_enter Try.func18, Try.ntmps18
  go_wp2_with fail
  refine EN.out.mono ?_
  rintro e w1 ⟨rfl, hb⟩
  have B1 := Lib.hid (below_then B0.out hb)
  clear hb EN B0
  go_wp2_with fail
  refine (DC.out _).mono ?_
  rintro e w2 ⟨v, L, rfl, ho, hL, hb⟩
  have B2 := Lib.hid (below_then B1.out hb)
  rw [av2] at hL
  have hde : decE [1, 2, 0, 0, 0, 1, 0, 0, 0, 1, 120] = 0 := by unfold decE; rw [av2]; rfl
  rw [hde]
  have hl1 : L.length = 1 := by have := congrArg List.length hL; simpa using this
  obtain ⟨LA, lcp, hv, _⟩ := ho.at_
  rw [hl1] at hv
  subst hv
  clear ho hL hb hde hl1 DC B1
  go_wp2_with fail
  refine (A1.out _).mono ?_
  rintro e w3 ⟨sv3, rfl, ht3, hb3⟩
  replace ht3 : TextsAt w3 sv3 [] := ht3
  have B3 := Lib.hid (below_then B2.out hb3)
  obtain ⟨A3, c3, hv3, _⟩ := (id ht3)
  simp only [List.length_nil] at hv3
  subst hv3
  simp only [pgV]
  have T4 := Lib.hid (ht3.below (alloc_below w3 (.cells #[.int .u8 1, .int .u8 0, .int .u32 1, .int .u64 5, .int .u32 7, .slice A3 0 c3] 26)))
  have Q4 : PgBox (w3.alloc (.cells #[.int .u8 1, .int .u8 0, .int .u32 1, .int .u64 5, .int .u32 7, .slice A3 0 c3] 26)) w3.heap.size 1 0 1 5 7 (.slice A3 0 c3) := PgBox.new _ _ _ _ _ _ _
  have B4 := Lib.hid (B3.out.alloc B3.out.size (.cells #[.int .u8 1, .int .u8 0, .int .u32 1, .int .u64 5, .int .u32 7, .slice A3 0 c3] 26))
  have R1x := R1.out _ _ T4.out
  have hz4 : (w3.alloc (.cells #[.int .u8 1, .int .u8 0, .int .u32 1, .int .u64 5, .int .u32 7, .slice A3 0 c3] 26)).heap.size = w3.heap.size + 1 := by simp
  rw [hz4] at R1x
  have R1y := Lib.hid R1x
  have A4 := Lib.hid (alloc_below (w3.alloc (.cells #[.int .u8 1, .int .u8 0, .int .u32 1, .int .u64 5, .int .u32 7, .slice A3 0 c3] 26)) (.cells #[.int .u8 2, .int .u32 1, .int .i64 0, .int .i64 0, .string ⟨#[120]⟩, .slice none 0 0, .int .u8 0, .int .u8 0, .int .u32 0, .int .u8 2, .int .u32 2, .int .i64 0, .int .i64 0, .string ⟨#[]⟩, .slice none 0 0, .int .u8 0, .int .u8 0, .int .u32 0, .int .u8 8, .int .u32 1, .int .i64 0, .int .i64 0, .string ⟨#[121]⟩, .slice none 0 0, .int .u8 0, .int .u8 0, .int .u32 0] 28))
  have B5 := Lib.hid (B4.out.alloc B4.out.size (.cells #[.int .u8 2, .int .u32 1, .int .i64 0, .int .i64 0, .string ⟨#[120]⟩, .slice none 0 0, .int .u8 0, .int .u8 0, .int .u32 0, .int .u8 2, .int .u32 2, .int .i64 0, .int .i64 0, .string ⟨#[]⟩, .slice none 0 0, .int .u8 0, .int .u8 0, .int .u32 0, .int .u8 8, .int .u32 1, .int .i64 0, .int .i64 0, .string ⟨#[121]⟩, .slice none 0 0, .int .u8 0, .int .u8 0, .int .u32 0] 28))
  clear ht3 hb3 R1x A1 R1 hz4
  go_wp2_with fail
  refine R1y.out.mono ?_
  rintro e w5 ⟨sv5, rfl, ht5, hb5⟩
  replace ht5 : TextsAt w5 sv5 [[121]] := ht5
  have Q5 := (Q4.below A4.out).below hb5
  have B6 := Lib.hid (below_then B5.out hb5)
  obtain ⟨A5, c5, hv5, _, hc5, _, hcell5⟩ := (id ht5)
  simp only [List.length_cons, List.length_nil] at hv5 hcell5
  obtain ⟨rb, ro, hA5, hrb, hrc⟩ := hcell5 (by omega)
  have hrc0 := hrc 0 (by omega)
  simp only [List.getElem_cons_zero, Nat.add_zero] at hrc0
  subst hv5
  simp only [pgV]
  have HA5 := Lib.hid hA5
  clear hA5
  have T6 := Lib.hid (ht5.below (alloc_below w5 (.cells #[.int .u8 1, .int .u8 0, .int .u32 1, .int .u64 6, .int .u32 7, .slice A5 1 c5] 26)))
  have Q6 : PgBox (w5.alloc (.cells #[.int .u8 1, .int .u8 0, .int .u32 1, .int .u64 6, .int .u32 7, .slice A5 1 c5] 26)) w5.heap.size 1 0 1 6 7 (.slice A5 1 c5) := PgBox.new _ _ _ _ _ _ _
  have Q6a := Q5.below (alloc_below w5 (.cells #[.int .u8 1, .int .u8 0, .int .u32 1, .int .u64 6, .int .u32 7, .slice A5 1 c5] 26))
  have hrc1 := keep_cell (alloc_below w5 (.cells #[.int .u8 1, .int .u8 0, .int .u32 1, .int .u64 6, .int .u32 7, .slice A5 1 c5] 26)) hrc0
  have B7 := Lib.hid (B6.out.alloc B6.out.size (.cells #[.int .u8 1, .int .u8 0, .int .u32 1, .int .u64 6, .int .u32 7, .slice A5 1 c5] 26))
  have R2x := R2.out _ _ T6.out
  have hz6 : (w5.alloc (.cells #[.int .u8 1, .int .u8 0, .int .u32 1, .int .u64 6, .int .u32 7, .slice A5 1 c5] 26)).heap.size = w5.heap.size + 1 := by simp
  rw [hz6] at R2x
  have R2y := Lib.hid R2x
  have A6 := Lib.hid (alloc_below (w5.alloc (.cells #[.int .u8 1, .int .u8 0, .int .u32 1, .int .u64 6, .int .u32 7, .slice A5 1 c5] 26)) (.cells #[.int .u8 4, .int .u32 1, .int .i64 0, .int .i64 0, .string ⟨#[]⟩, .slice none 0 0, .int .u8 0, .int .u8 0, .int .u32 0] 28))
  have B8 := Lib.hid (B7.out.alloc B7.out.size (.cells #[.int .u8 4, .int .u32 1, .int .i64 0, .int .i64 0, .string ⟨#[]⟩, .slice none 0 0, .int .u8 0, .int .u8 0, .int .u32 0] 28))
  clear ht5 hb5 R2x R2 hz6 Q4 Q5 T4 hrc hrc0 hcell5 R1y A4 B3 B4 B5
  go_wp2_with fail
  refine R2y.out.mono ?_
  rintro e w7 ⟨sv7, rfl, ht7, hb7⟩
  replace ht7 : TextsAt w7 sv7 [[121]] := ht7
  have Q7 := (Q6.below A6.out).below hb7
  have Q7a := (Q6a.below A6.out).below hb7
  have hrc2 := keep_cell hb7 (keep_cell A6.out hrc1)
  have T7 := (T6.out.below A6.out).below hb7
  have B9 := Lib.hid (below_then B8.out hb7)
  obtain ⟨A7, c7, hv7, _⟩ := ht7
  simp only [List.length_cons, List.length_nil] at hv7
  subst hv7
  simp only [pgV]
  have Q8 := Q7.below (alloc_below w7 (.cells #[.int .u8 1, .int .u8 0, .int .u32 1, .int .u64 6, .int .u32 7, .slice A7 1 c7] 26))
  have Q8a := Q7a.below (alloc_below w7 (.cells #[.int .u8 1, .int .u8 0, .int .u32 1, .int .u64 6, .int .u32 7, .slice A7 1 c7] 26))
  have Q8b : PgBox (w7.alloc (.cells #[.int .u8 1, .int .u8 0, .int .u32 1, .int .u64 6, .int .u32 7, .slice A7 1 c7] 26)) w7.heap.size 1 0 1 6 7 (.slice A7 1 c7) := PgBox.new _ _ _ _ _ _ _
  have hrc3 := keep_cell (alloc_below w7 (.cells #[.int .u8 1, .int .u8 0, .int .u32 1, .int .u64 6, .int .u32 7, .slice A7 1 c7] 26)) hrc2
  have T8 := Lib.hid (T7.below (alloc_below w7 (.cells #[.int .u8 1, .int .u8 0, .int .u32 1, .int .u64 6, .int .u32 7, .slice A7 1 c7] 26)))
  have BA := Lib.hid (B9.out.alloc B9.out.size (.cells #[.int .u8 1, .int .u8 0, .int .u32 1, .int .u64 6, .int .u32 7, .slice A7 1 c7] 26))
  obtain ⟨hg8, y0, y1, y2, y3, y4, y5⟩ := Q7.cells
  have AA := Lib.hid (A2.out _ _ T8.out)
  clear hb7 Q7 Q7a hrc1 hrc2 T7 A2 Q6 Q6a T6 R2y A6 B6 B7 B8 B9
  go_wp2_with fail
  refine AA.out.mono ?_
  rintro e w9 ⟨sv9, rfl, ht9, hb9⟩
  replace ht9 : TextsAt w9 sv9 [] := ht9
  have Q9 := Q8.below hb9
  have Q9a := Q8a.below hb9
  have Q9b := Q8b.below hb9
  have hrc4 := keep_cell hb9 hrc3
  have BB := Lib.hid (below_then BA.out hb9)
  obtain ⟨A9, c9, hv9, _⟩ := ht9
  simp only [List.length_nil] at hv9
  subst hv9
  simp only [Pg.zero, pgV]
  have QA := Q9.below (alloc_below w9 (.cells #[.int .u8 0, .int .u8 0, .int .u32 0, .int .u64 0, .int .u32 0, .slice A9 0 c9] 26))
  have QAa := Q9a.below (alloc_below w9 (.cells #[.int .u8 0, .int .u8 0, .int .u32 0, .int .u64 0, .int .u32 0, .slice A9 0 c9] 26))
  have QAb := Q9b.below (alloc_below w9 (.cells #[.int .u8 0, .int .u8 0, .int .u32 0, .int .u64 0, .int .u32 0, .slice A9 0 c9] 26))
  have hrc5 := keep_cell (alloc_below w9 (.cells #[.int .u8 0, .int .u8 0, .int .u32 0, .int .u64 0, .int .u32 0, .slice A9 0 c9] 26)) hrc4
  have BC := Lib.hid (BB.out.alloc BB.out.size (.cells #[.int .u8 0, .int .u8 0, .int .u32 0, .int .u64 0, .int .u32 0, .slice A9 0 c9] 26))
  clear hb9 Q8 Q8a Q8b hrc3 T8 Q9 Q9a Q9b hrc4 AA BA BB y0 y1 y2 y3 y4 y5 hg8
  obtain ⟨_, y0, y1, y2, y3, y4, y5⟩ := QA.cells
  obtain ⟨_, z0, z1, z2, z3, z4, z5⟩ := QAa.cells
  obtain ⟨_, v0, v1, v2, v3, v4, v5⟩ := QAb.cells
  rw [HA5.out] at y5
  go_wp2_with fail
  refine (MB.out _).mono ?_
  rintro e wA ⟨rfl, hb⟩
  have BZ := Lib.hid (below_then BC.out hb)
  clear hb QA QAa QAb y0 y1 y2 y3 y4 y5 z0 z1 z2 z3 z4 z5 v0 v1 v2 v3 v4 v5 hrc5 BC
  go_wp2_with fail
  go_ret
  exact ⟨rfl, BZ.out⟩

end Go.Proofs.Ytienlhnbmobinaa
