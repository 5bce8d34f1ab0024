/- chapter 23: Set. -/
import Derived.Test.YtoeaakadpillnaaRows
import Derived.Test.YtoeaakadpillnaaTxnCalls
import Derived.WalkKit
import Derived.WalkLawsBesides
import Derived.WalkSpells
import Derived.LoopTactic
import Derived.WalkMore
import Derived.LoopN
import Derived.Laws.BitsAllLaws
import Derived.Laws.IdiomStrings
import Derived.BigQuiet
import Derived.Deep.QuietTactic
import Derived.Deep.DeepCutAuto
import Derived.Deep.RegionHeld3
import Derived.Deep.DrawnRows
import Derived.Lib.Hide
import Derived.Outline
import Derived.Deep.DeepMust
import Derived.Handy
namespace Go.Proofs.Ytoeaakadpillnaa
open Go.RowKit
set_option linter.unusedVariables false
set_option linter.unusedSimpArgs false

open Go.Maps Go.Conc
set_option maxHeartbeats 4000000 in
set_option maxRecDepth 100000 in
theorem tx_set (w : World) {g m c tx number : Nat} {T : TT} (h : TtAt w g m c tx number T) (x : TX) {y : TX} (hy : getT T x.tx = some y) :
    Calls Try.prog 42 #[.pointer (some ⟨g, 0, none⟩), x.val] w fun e w' => e = .returned (.int .i64 0) ∧ TtAt w' g m c tx number (setT T x) ∧ OthersKept w w' (mine g m c) := by
  obtain ⟨W1, hW1⟩ : ∃ W, W = w.alloc (.cells x.cells.toArray 68) := ⟨_, rfl⟩
  have s1 : W1.heap.size = w.heap.size + 1 := by rw [hW1]; simp
  have hB1 : Below w.heap.size w W1 := by rw [hW1]; exact (Below.refl _ _).alloc (Nat.le_refl _) _
  have P1 := Lib.hid (show W1.heap[w.heap.size]? = some (.cells x.cells.toArray 68 (0, 0)) by rw [hW1]; exact heap_alloc_new w _)
  have h1 := h.below hB1
  have O := Lib.hid (tx_on W1 h1 x.tx (h.tx64 hy))
  rw [hy] at O
  have H := Lib.hid h1
  have HY := Lib.hid hy
  have HB1 := Lib.hid hB1
  simp only [TX.val, TX.cells] at *
  clear h h1 hy hB1
  go_enter Try.func42, Try.ntmps42
  go_upto_region 1 with fail
  rw [← hW1]
  clear hW1
  obtain ⟨⟨x0, _, _, _, _, _⟩, _⟩ := cells6 P1.out
  go_wp2_with fail
  refine O.out.mono ?_
  rintro e w2 ⟨rfl, hb⟩
  have h2 := H.out.below hb
  have c0 := h2.c0
  have y1 := (hb.block _ (blk_lt P1.out)).trans P1.out
  obtain ⟨⟨z0, z1, z2, z3, z4, z5⟩, _⟩ := cells6 y1
  have HB := Lib.hid hb
  have H2 := Lib.hid h2
  have hl := blk_lt y1
  clear hb h2 y1
  clear x0
  go_upto_region 3 with fail
  have e0 := ext_cell c0 (cell_lt c0)
  have e1 := ext_cell z0 (cell_lt z0)
  have e2 := ext_cell z1 (cell_lt z1)
  have e3 := ext_cell z2 (cell_lt z2)
  have e4 := ext_cell z3 (cell_lt z3)
  have e5 := ext_cell z4 (cell_lt z4)
  have e6 := ext_cell z5 (cell_lt z5)
  refine wp_region_ext_tail w2.heap.size 7 (by kernel_rfl) (by kernel_rfl) ?_
  simp only [List.take_succ_cons, List.take_zero, List.drop_succ_cons, List.drop_zero]
  repeat (go_big_quiet_step (fail))
  refine wpQuiet_nil ?_
  rintro _ ⟨X, rfl⟩
  have hX := X.below
  generalize X.val = wx at hX
  obtain ⟨w5, hrun, h5, hg5⟩ := (H2.out.below hX).again x y HY.out
  simp only [TX.val] at hrun
  have H5 := Lib.hid h5
  have HK := Lib.hid ((OthersKept.of_below (p := mine g m c) HB1.out).same ((OthersKept.of_below (p := mine g m c) HB.out).same ((OthersKept.of_below (p := mine g m c) hX).same (OthersKept.of_grown (p := fun k => k = m) (g := m) hg5 rfl).mine1)))
  clear h5 hg5 hX
  go_wp2_with fail
  go_ret
  exact ⟨rfl, H5.out, HK.out⟩
set_option maxHeartbeats 4000000 in
set_option maxRecDepth 100000 in
theorem tx_set_none (w : World) {g m c tx number : Nat} {T : TT} (h : TtAt w g m c tx number T) (x : TX) (hk : x.tx < 18446744073709551616) (hy : getT T x.tx = none) :
    Calls Try.prog 42 #[.pointer (some ⟨g, 0, none⟩), x.val] w fun e w' => e = .returned (.int .i64 230) ∧ Below w.heap.size w w' := by
  obtain ⟨W1, hW1⟩ : ∃ W, W = w.alloc (.cells x.cells.toArray 68) := ⟨_, rfl⟩
  have s1 : W1.heap.size = w.heap.size + 1 := by rw [hW1]; simp
  have hB1 : Below w.heap.size w W1 := by rw [hW1]; exact (Below.refl _ _).alloc (Nat.le_refl _) _
  have P1 := Lib.hid (show W1.heap[w.heap.size]? = some (.cells x.cells.toArray 68 (0, 0)) by rw [hW1]; exact heap_alloc_new w _)
  have h1 := h.below hB1
  have O := Lib.hid (tx_on W1 h1 x.tx hk)
  rw [hy] at O
  have HB1 := Lib.hid hB1
  simp only [TX.val, TX.cells] at *
  clear h h1 hy hB1
  go_enter Try.func42, Try.ntmps42
  go_upto_region 1 with fail
  rw [← hW1]
  clear hW1
  obtain ⟨⟨x0, _, _, _, _, _⟩, _⟩ := cells6 P1.out
  go_wp2_with fail
  refine O.out.mono ?_
  rintro e w2 ⟨rfl, hb⟩
  have HB := Lib.hid (below_then HB1.out hb)
  clear hb x0
  go_wp2_with fail
  go_ret
  exact ⟨rfl, HB.out⟩

end Go.Proofs.Ytoeaakadpillnaa
