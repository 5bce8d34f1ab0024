/- chapter 23: Add. -/
import Derived.Test.YtoeaakadpillnaaRows
import Derived.Test.YtoeaakadpillnaaTxnCalls
import Derived.WalkKit
import Derived.WalkLawsBesides
import Derived.WalkSpells
import Derived.LoopTactic
import Derived.WalkMore
import Derived.LoopN
import Derived.Laws.BitsAllLaws
import Derived.Laws.IdiomStrings
import Derived.BigQuiet
import Derived.Deep.QuietTactic
import Derived.Deep.DeepCutAuto
import Derived.Deep.RegionHeld3
import Derived.Deep.DrawnRows
import Derived.Lib.Hide
import Derived.Outline
import Derived.Deep.DeepMust
import Derived.Handy
namespace Go.Proofs.Ytoeaakadpillnaa
open Go.RowKit
set_option linter.unusedVariables false
set_option linter.unusedSimpArgs false

open Go.Maps Go.Conc
theorem run_max_u64 {P : Program} (a b : Nat) (ats : Array TypeId) (ty : TypeId) (W : World) : (Builtin.max_ ats ty #[.int .u64 (a : Nat), .int .u64 (b : Nat)]).run P W = .ok (.int .u64 (max a b : Nat)) W := by
  simp [Builtin.max_, Builtin.max2]
  split <;> omega
set_option maxHeartbeats 4000000 in
set_option maxRecDepth 100000 in
theorem tx_add (w : World) {g m c tx number : Nat} {T : TT} (h : TtAt w g m c tx number T) (x : TX) (hy : getT T x.tx = none) (h0 : 1 ≤ x.tx) (h9 : x.tx ≤ 4611686018427387904) (hn : T.length < 32) :
    Calls Try.prog 46 #[.pointer (some ⟨g, 0, none⟩), x.val] w fun e w' => e = .returned (.int .i64 0) ∧ TtAt w' g m c (max tx (x.tx + 1)) number (insT T x) ∧ OthersKept w w' (mine g m c) := by
  obtain ⟨W1, hW1⟩ : ∃ W, W = w.alloc (.cells x.cells.toArray 68) := ⟨_, rfl⟩
  have s1 : W1.heap.size = w.heap.size + 1 := by rw [hW1]; simp
  have hB1 : Below w.heap.size w W1 := by rw [hW1]; exact (Below.refl _ _).alloc (Nat.le_refl _) _
  have P1 := Lib.hid (show W1.heap[w.heap.size]? = some (.cells x.cells.toArray 68 (0, 0)) by rw [hW1]; exact heap_alloc_new w _)
  have h1 := h.below hB1
  have O := Lib.hid (tx_on W1 h1 x.tx (by omega))
  rw [hy] at O
  have H := Lib.hid h1
  have HY := Lib.hid hy
  have HB1 := Lib.hid hB1
  have hlw := h.lt
  simp only [TX.val, TX.cells] at *
  have e1 : ((x.tx : Int) == 0) = false := by simp; omega
  have e2 : ¬ 4611686018427387904 < (x.tx : Int) := by omega
  have e3 : ¬ (32 : Int) ≤ (T.length : Int) := by omega
  have hw1 : IntKind.u64.wrap ((x.tx : Int) + 1) = ((x.tx + 1 : Nat) : Int) := by rw [IntKind.wrap_u64]; omega
  clear h h1 hy hB1
  go_enter Try.func46, Try.ntmps46
  go_upto_region 1 with fail
  rw [← hW1]
  clear hW1
  obtain ⟨⟨x0, _, _, _, _, _⟩, _⟩ := cells6 P1.out
  go_wp2_with fail
  refine O.out.mono ?_
  rintro e w2 ⟨rfl, hb⟩
  have h2 := H.out.below hb
  have c0 := h2.c0
  have ln := h2.len
  have y1 := (hb.block _ (blk_lt P1.out)).trans P1.out
  obtain ⟨⟨z0, z1, z2, z3, z4, z5⟩, _⟩ := cells6 y1
  have Y1 := Lib.hid y1
  have HB := Lib.hid hb
  have H2 := Lib.hid h2
  have hl := blk_lt y1
  clear hb h2 y1 x0
  go_upto_region 11 with fail
  have e0 := ext_cell c0 (cell_lt c0)
  have e1' := ext_cell z0 (cell_lt z0)
  have e2' := ext_cell z1 (cell_lt z1)
  have e3' := ext_cell z2 (cell_lt z2)
  have e4' := ext_cell z3 (cell_lt z3)
  have e5' := ext_cell z4 (cell_lt z4)
  have e6' := ext_cell z5 (cell_lt z5)
  refine wp_region_ext_tail w2.heap.size 7 (by kernel_rfl) (by kernel_rfl) ?_
  simp only [List.take_succ_cons, List.take_zero, List.drop_succ_cons, List.drop_zero]
  repeat (go_big_quiet_step (fail))
  refine wpQuiet_nil ?_
  rintro _ ⟨X, rfl⟩
  have hX := X.below
  have hyX := (hX.block _ (blk_lt Y1.out)).trans Y1.out
  generalize X.val = wx at hX hyX
  obtain ⟨w5, hrun, hg5, hex⟩ := (H2.out.below hX).put x HY.out hn (tx' := max tx (x.tx + 1)) (by omega) (Nat.le_max_left _ _) (by omega)
  simp only [TX.val] at hrun
  have hT := H2.out.below hX
  have hgm := hT.gm
  have hown5 := (hg5.block g (blk_lt hT.own) (fun e => hgm (by injection e))).trans hT.own
  have hy5 := (hg5.block _ (blk_lt hyX) (fun e => by injection e with e; omega)).trans hyX
  have c2 : w5.cell? ⟨g, 2, none⟩ = some (.int .u64 (tx : Nat)) := by rw [blk_cell hown5]; rfl
  have f2 := blk_frozen hown5 2
  have z5' : w5.cell? ⟨w.heap.size, 0, none⟩ = some (.int .u64 (x.tx : Nat)) := by rw [blk_cell hy5]; rfl
  have HOWN := Lib.hid hown5
  have HT := Lib.hid hT
  have HEX := Lib.hid hex
  have HG := Lib.hid hg5
  have HK := Lib.hid ((OthersKept.of_below (p := mine g m c) HB1.out).same ((OthersKept.of_below (p := mine g m c) HB.out).same ((OthersKept.of_below (p := mine g m c) hX).same (OthersKept.of_grown (p := fun k => k = m) (g := m) hg5 rfl).mine1)))
  clear hT hex hg5 hX hown5 hyX hy5
  go_upto_region 12 with fail
  have q1 := ext_cell c2 (cell_lt c2)
  have q2 := ext_cell z5' (cell_lt z5')
  refine wp_region_ext_tail w5.heap.size 11 (by kernel_rfl) (by kernel_rfl) ?_
  simp only [List.take_succ_cons, List.take_zero, List.drop_succ_cons, List.drop_zero]
  obtain ⟨M, hM⟩ : ∃ M, M = max tx (x.tx + 1) := ⟨_, rfl⟩
  have hmx : ∀ ats ty W, (Builtin.max_ ats ty #[.int .u64 (tx : Nat), .int .u64 ((x.tx : Int) + 1)]).run Try.prog W = .ok (.int .u64 (M : Nat)) W := fun ats ty W => by
    have := run_max_u64 (P := Try.prog) tx (x.tx + 1) ats ty W
    rw [← hM] at this
    exact this
  have HM := Lib.hid hM
  clear hM
  repeat (go_big_quiet_step (fail))
  refine wpQuiet_nil ?_
  rintro _ ⟨Y, rfl⟩
  have hY := Y.below
  have HY5 := Lib.hid hY
  generalize Y.val = w6 at *
  have hT6 : TtAt (w6.setCell ⟨g, 2, none⟩ (.int .u64 (M : Nat))) g m c M number (insT T x) := by
    have hT := HT.out
    have hmc := hT.mc
    have hgm := hT.gm
    have hgc := hT.gc
    have hx := HEX.out
    have hg5 := HG.out
    obtain ⟨s, r, hch⟩ := hT.chan
    have hk6 := OthersKept.of_grown (p := fun k => k = g) (g := g) (grown_set (i := 2) (u := .int .u64 (M : Nat)) (grown_refl w6 g)) rfl
    have hch5 := (hg5.block c (blk_lt hch) (fun e => hmc (by injection e with e; exact e.symm))).trans hch
    obtain ⟨D, ho, hD⟩ := hx
    obtain ⟨es, cc, hb, hr⟩ := ho
    have ho6 := (hY.block g (blk_lt HOWN.out)).trans HOWN.out
    have hM := HM.out
    refine ⟨by simpa using blk_set ho6 2 (.int .u64 (M : Nat)), ⟨s, r, hk6.heap ((hY.block c (blk_lt hch5)).trans hch5) (fun e => hgc e.symm)⟩, ⟨D, ⟨es, cc, hk6.heap ((hY.block m (blk_lt hb)).trans hb) (fun e => hgm e.symm), hr⟩, hD⟩, T_rising_ins hT.rising HY.out, ?_, by rw [T_length_ins]; omega, by have := hT.txle; omega, hT.nole⟩
    exact T_under_ins hT.under (by omega) (by omega)
  have hf6 : w6.frozen? ⟨g, 2, none⟩ = false := by rw [hY.frozen (p := ⟨g, 2, none⟩) (blk_lt HOWN.out)]; exact f2
  have HT6 := Lib.hid hT6
  have HK6 := Lib.hid (HK.out.same ((OthersKept.of_below (p := mine g m c) HY5.out).same (OthersKept.of_grown (p := fun k => k = g) (g := g) (grown_set (i := 2) (u := .int .u64 (M : Nat)) (grown_refl w6 g)) rfl).mine0))
  have c26 : w6.cell? ⟨g, 2, none⟩ = some (.int .u64 (tx : Nat)) := (hY.cell (p := ⟨g, 2, none⟩) (blk_lt HOWN.out)).trans c2
  clear hT6 hY
  go_wp2_with fail
  go_ret
  exact ⟨rfl, by rw [← HM.out]; exact HT6.out, HK6.out⟩

set_option maxHeartbeats 4000000 in
set_option maxRecDepth 100000 in
theorem tx_add_no (w : World) {g m c tx number : Nat} {T : TT} (h : TtAt w g m c tx number T) (x : TX) (hk : x.tx < 18446744073709551616) (hf : x.tx = 0 ∨ 4611686018427387904 < x.tx ∨ (getT T x.tx).isSome = true ∨ 32 ≤ T.length) :
    Calls Try.prog 46 #[.pointer (some ⟨g, 0, none⟩), x.val] w fun e w' => e = .returned (.int .i64 (if x.tx = 0 ∨ 4611686018427387904 < x.tx then 2 else if (getT T x.tx).isSome then 8 else 4)) ∧ Below w.heap.size w w' := by
  obtain ⟨W1, hW1⟩ : ∃ W, W = w.alloc (.cells x.cells.toArray 68) := ⟨_, rfl⟩
  have s1 : W1.heap.size = w.heap.size + 1 := by rw [hW1]; simp
  have hB1 : Below w.heap.size w W1 := by rw [hW1]; exact (Below.refl _ _).alloc (Nat.le_refl _) _
  have P1 := Lib.hid (show W1.heap[w.heap.size]? = some (.cells x.cells.toArray 68 (0, 0)) by rw [hW1]; exact heap_alloc_new w _)
  have h1 := h.below hB1
  have O := Lib.hid (tx_on W1 h1 x.tx hk)
  have H := Lib.hid h1
  have HB1 := Lib.hid hB1
  have HF := Lib.hid hf
  simp only [TX.val, TX.cells] at *
  clear h h1 hf hB1
  obtain ⟨b, hb⟩ : ∃ b, b = (getT T x.tx).isSome := ⟨_, rfl⟩
  rw [← hb] at O HF ⊢
  clear hb
  cases b with
  | true =>
    by_cases h0 : x.tx = 0
    · rw [if_pos (.inl h0)]
      have e1 : ((x.tx : Int) == 0) = true := by simp; omega
      clear h0
      go_enter Try.func46, Try.ntmps46
      go_upto_region 1 with fail
      rw [← hW1]
      clear hW1
      obtain ⟨⟨x0, _, _, _, _, _⟩, _⟩ := cells6 P1.out
      go_wp2_with fail
      refine O.out.mono ?_
      rintro e w2 ⟨rfl, hb⟩
      have x0 := keep_cell hb x0
      have HB := Lib.hid (below_then HB1.out hb)
      clear hb
      go_wp2_with fail
      go_ret
      exact ⟨rfl, HB.out⟩
    · have e1 : ((x.tx : Int) == 0) = false := by simp; omega
      by_cases h9 : 4611686018427387904 < x.tx
      · rw [if_pos (.inr h9)]
        have e2 : 4611686018427387904 < (x.tx : Int) := by omega
        go_enter Try.func46, Try.ntmps46
        go_upto_region 1 with fail
        rw [← hW1]
        clear hW1
        obtain ⟨⟨x0, _, _, _, _, _⟩, _⟩ := cells6 P1.out
        go_wp2_with fail
        refine O.out.mono ?_
        rintro e w2 ⟨rfl, hb⟩
        have x0 := keep_cell hb x0
        have HB := Lib.hid (below_then HB1.out hb)
        clear hb
        go_wp2_with fail
        go_ret
        exact ⟨rfl, HB.out⟩
      · rw [if_neg (by omega), if_pos rfl]
        have e2 : ¬ 4611686018427387904 < (x.tx : Int) := by omega
        go_enter Try.func46, Try.ntmps46
        go_upto_region 1 with fail
        rw [← hW1]
        clear hW1
        obtain ⟨⟨x0, _, _, _, _, _⟩, _⟩ := cells6 P1.out
        go_wp2_with fail
        refine O.out.mono ?_
        rintro e w2 ⟨rfl, hb⟩
        have x0 := keep_cell hb x0
        have HB := Lib.hid (below_then HB1.out hb)
        clear hb
        go_wp2_with fail
        go_ret
        exact ⟨rfl, HB.out⟩
  | false =>
    by_cases h0 : x.tx = 0
    · rw [if_pos (.inl h0)]
      have e1 : ((x.tx : Int) == 0) = true := by simp; omega
      clear h0
      go_enter Try.func46, Try.ntmps46
      go_upto_region 1 with fail
      rw [← hW1]
      clear hW1
      obtain ⟨⟨x0, _, _, _, _, _⟩, _⟩ := cells6 P1.out
      go_wp2_with fail
      refine O.out.mono ?_
      rintro e w2 ⟨rfl, hb⟩
      have x0 := keep_cell hb x0
      have HB := Lib.hid (below_then HB1.out hb)
      clear hb
      go_wp2_with fail
      go_ret
      exact ⟨rfl, HB.out⟩
    · have e1 : ((x.tx : Int) == 0) = false := by simp; omega
      by_cases h9 : 4611686018427387904 < x.tx
      · rw [if_pos (.inr h9)]
        have e2 : 4611686018427387904 < (x.tx : Int) := by omega
        go_enter Try.func46, Try.ntmps46
        go_upto_region 1 with fail
        rw [← hW1]
        clear hW1
        obtain ⟨⟨x0, _, _, _, _, _⟩, _⟩ := cells6 P1.out
        go_wp2_with fail
        refine O.out.mono ?_
        rintro e w2 ⟨rfl, hb⟩
        have x0 := keep_cell hb x0
        have HB := Lib.hid (below_then HB1.out hb)
        clear hb
        go_wp2_with fail
        go_ret
        exact ⟨rfl, HB.out⟩
      · rw [if_neg (by omega), if_neg (by simp)]
        have e2 : ¬ 4611686018427387904 < (x.tx : Int) := by omega
        have e3 : (32 : Int) ≤ (T.length : Int) := by
          rcases HF.out with h | h | h | h
          · omega
          · omega
          · cases h
          · omega
        go_enter Try.func46, Try.ntmps46
        go_upto_region 1 with fail
        rw [← hW1]
        clear hW1
        obtain ⟨⟨x0, _, _, _, _, _⟩, _⟩ := cells6 P1.out
        go_wp2_with fail
        refine O.out.mono ?_
        rintro e w2 ⟨rfl, hb⟩
        have x0 := keep_cell hb x0
        have c0 := (H.out.below hb).c0
        have ln := (H.out.below hb).len
        have HB := Lib.hid (below_then HB1.out hb)
        clear hb
        go_wp2_with fail
        go_ret
        exact ⟨rfl, HB.out⟩

end Go.Proofs.Ytoeaakadpillnaa
