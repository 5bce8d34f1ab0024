/- chapter 23: TxnNil. -/
import Derived.Test.YtoeaakadpillnaaRows
import Derived.Test.YtoeaakadpillnaaTxnWorks
import Derived.WalkKit
import Derived.WalkLawsBesides
import Derived.WalkSpells
import Derived.LoopTactic
import Derived.WalkMore
import Derived.LoopN
import Derived.Laws.BitsAllLaws
import Derived.Laws.IdiomStrings
import Derived.BigQuiet
import Derived.Deep.QuietTactic
import Derived.Deep.DeepCutAuto
import Derived.Deep.RegionHeld3
import Derived.Deep.DrawnRows
import Derived.Lib.Hide
import Derived.Outline
import Derived.Deep.DeepMust
import Derived.Handy
namespace Go.Proofs.Ytoeaakadpillnaa
open Go.RowKit
set_option linter.unusedVariables false
set_option linter.unusedSimpArgs false

open Go.Maps
set_option maxRecDepth 100000
theorem tmade_nil (w : World) : Calls Try.prog 68 #[.pointer none] w fun e w' => e = .returned (.bool false) ∧ Below w.heap.size w w' := by
  go_enter Try.func68, Try.ntmps68
  go_wp2_with fail
  go_ret
  exact ⟨rfl, Below.refl _ _⟩
theorem on_nil (k : Int) (w : World) : Calls Try.prog 71 #[.pointer none, .int .u64 k] w fun e w' => e = .returned (.int .i64 1) ∧ Below w.heap.size w w' := by
  have M := Lib.hid fun W => tmade_nil W
  go_enter Try.func71, Try.ntmps71
  go_wp2_with fail
  refine (M.out _).mono ?_
  rintro e w1 ⟨rfl, hb⟩
  have HB := Lib.hid hb
  clear hb
  go_wp2_with fail
  go_ret
  exact ⟨rfl, HB.out⟩
theorem begin_nil (w : World) : Calls Try.prog 43 #[.pointer none] w fun e w' => e = .returned (.tuple #[.int .u64 0, .int .i64 1]) ∧ Below w.heap.size w w' := by
  have M := Lib.hid fun W => tmade_nil W
  go_enter Try.func43, Try.ntmps43
  go_wp2_with fail
  refine (M.out _).mono ?_
  rintro e w1 ⟨rfl, hb⟩
  have HB := Lib.hid hb
  clear hb
  go_wp2_with fail
  go_ret2
  exact ⟨rfl, HB.out⟩
theorem commit_nil (k : Int) (w : World) : Calls Try.prog 40 #[.pointer none, .int .u64 k] w fun e w' => e = .returned (.tuple #[.int .u64 0, .int .i64 1]) ∧ Below w.heap.size w w' := by
  have M := Lib.hid fun k W => on_nil k W
  go_enter Try.func40, Try.ntmps40
  go_wp2_with fail
  refine (M.out _ _).mono ?_
  rintro e w1 ⟨rfl, hb⟩
  have HB := Lib.hid hb
  clear hb
  go_wp2_with fail
  go_ret2
  exact ⟨rfl, HB.out⟩
theorem end_nil (k : Int) (w : World) : Calls Try.prog 41 #[.pointer none, .int .u64 k] w fun e w' => e = .returned (.int .i64 1) ∧ Below w.heap.size w w' := by
  have M := Lib.hid fun k W => on_nil k W
  go_enter Try.func41, Try.ntmps41
  go_wp2_with fail
  refine (M.out _ _).mono ?_
  rintro e w1 ⟨rfl, hb⟩
  have HB := Lib.hid hb
  clear hb
  go_wp2_with fail
  go_ret
  exact ⟨rfl, HB.out⟩
theorem raise_nil (k j : Int) (w : World) : Calls Try.prog 45 #[.pointer none, .int .u64 k, .int .u64 j] w fun e w' => e = .returned (.int .i64 1) ∧ Below w.heap.size w w' := by
  have M := Lib.hid fun W => tmade_nil W
  go_enter Try.func45, Try.ntmps45
  go_wp2_with fail
  refine (M.out _).mono ?_
  rintro e w1 ⟨rfl, hb⟩
  have HB := Lib.hid hb
  clear hb
  go_wp2_with fail
  go_ret
  exact ⟨rfl, HB.out⟩
theorem tall_nil (w : World) : Calls Try.prog 38 #[.pointer none] w fun e w' => e = .returned (.slice none 0 0) ∧ Below w.heap.size w w' := by
  have M := Lib.hid fun W => tmade_nil W
  go_enter Try.func38, Try.ntmps38
  go_wp2_with fail
  refine (M.out _).mono ?_
  rintro e w1 ⟨rfl, hb⟩
  have HB := Lib.hid hb
  clear hb
  go_wp2_with fail
  go_ret
  exact ⟨rfl, HB.out⟩
theorem next_nil (w : World) : Calls Try.prog 44 #[.pointer none] w fun e w' => e = .returned (.tuple #[.int .u64 0, .int .u64 0]) ∧ Below w.heap.size w w' := by
  have M := Lib.hid fun W => tmade_nil W
  go_enter Try.func44, Try.ntmps44
  go_wp2_with fail
  refine (M.out _).mono ?_
  rintro e w1 ⟨rfl, hb⟩
  have HB := Lib.hid hb
  clear hb
  go_wp2_with fail
  go_ret2
  exact ⟨rfl, HB.out⟩
theorem set_nil (xt xf xl xn xp xs : Nat) (w : World) : Calls Try.prog 42 #[.pointer none, .agg #[.int .u64 (xt : Nat), .int .u64 (xf : Nat), .int .u64 (xl : Nat), .int .u64 (xn : Nat), .int .u32 (xp : Nat), .int .u16 (xs : Nat)]] w fun e w' => e = .returned (.int .i64 1) ∧ Below w.heap.size w w' := by
  have M := Lib.hid fun k W => on_nil k W
  have B1 := Lib.hid ((Below.refl w.heap.size w).alloc (Nat.le_refl _) (.cells #[.int .u64 (xt : Nat), .int .u64 (xf : Nat), .int .u64 (xl : Nat), .int .u64 (xn : Nat), .int .u32 (xp : Nat), .int .u16 (xs : Nat)] 68))
  go_enter Try.func42, Try.ntmps42
  go_wp2_with fail
  refine (M.out _ _).mono ?_
  rintro e w1 ⟨rfl, hb⟩
  have HB := Lib.hid (below_then B1.out hb)
  clear hb
  go_wp2_with fail
  go_ret
  exact ⟨rfl, HB.out⟩
theorem add_nil (xt xf xl xn xp xs : Nat) (w : World) : Calls Try.prog 46 #[.pointer none, .agg #[.int .u64 (xt : Nat), .int .u64 (xf : Nat), .int .u64 (xl : Nat), .int .u64 (xn : Nat), .int .u32 (xp : Nat), .int .u16 (xs : Nat)]] w fun e w' => e = .returned (.int .i64 1) ∧ Below w.heap.size w w' := by
  have M := Lib.hid fun k W => on_nil k W
  have B1 := Lib.hid ((Below.refl w.heap.size w).alloc (Nat.le_refl _) (.cells #[.int .u64 (xt : Nat), .int .u64 (xf : Nat), .int .u64 (xl : Nat), .int .u64 (xn : Nat), .int .u32 (xp : Nat), .int .u16 (xs : Nat)] 68))
  go_enter Try.func46, Try.ntmps46
  go_wp2_with fail
  refine (M.out _ _).mono ?_
  rintro e w1 ⟨rfl, hb⟩
  have HB := Lib.hid (below_then B1.out hb)
  clear hb
  go_wp2_with fail
  go_ret
  exact ⟨rfl, HB.out⟩
set_option maxHeartbeats 4000000 in
theorem tget_nil (k : Int) (w : World) : Calls Try.prog 39 #[.pointer none, .int .u64 k] w fun e w' => e = .returned (.tuple #[.agg #[.int .u64 0, .int .u64 0, .int .u64 0, .int .u64 0, .int .u32 0, .int .u16 0], .bool false]) ∧ Below w.heap.size w w' := by
  obtain ⟨W1, hW1⟩ : ∃ W, W = w.alloc (.cells #[.int .u64 0, .int .u64 0, .int .u64 0, .int .u64 0, .int .u32 0, .int .u16 0] 68) := ⟨_, rfl⟩
  have B1 : W1.heap[w.heap.size]? = some (.cells #[.int .u64 0, .int .u64 0, .int .u64 0, .int .u64 0, .int .u32 0, .int .u16 0] 68 (0, 0)) := by rw [hW1]; exact heap_alloc_new w _
  have hB1 : Below w.heap.size w W1 := by rw [hW1]; exact (Below.refl _ _).alloc (Nat.le_refl _) _
  have M := Lib.hid (tmade_nil W1)
  have P1 := Lib.hid B1
  have HB1 := Lib.hid hB1
  have hsz : W1.heap.size = w.heap.size + 1 := by rw [hW1]; simp
  have HSZ := Lib.hid hsz
  clear B1 hB1 hsz
  go_enter Try.func39, Try.ntmps39
  go_upto_region 1 with fail
  rw [← hW1]
  clear hW1
  go_wp2_with fail
  refine M.out.mono ?_
  rintro e w1 ⟨rfl, hb⟩
  have p1 := (hb.block _ (blk_lt P1.out)).trans P1.out
  obtain ⟨⟨x0, x1, x2, x3, x4, x5⟩, f0, f1, f2, f3, f4, f5⟩ := cells6 p1
  have XB := Lib.hid (put6_blk (x := tx0 0) p1)
  have XK := Lib.hid (put6_kept w1 w.heap.size (tx0 0))
  unfold put6 at XB XK
  have HB := Lib.hid (OthersKept.below (below_then HB1.out hb) XK.out (fun k hk e => by omega))
  clear hb p1
  go_wp2_with fail
  refine bodyPost_ret (v := .tuple #[.agg #[.int .u64 0, .int .u64 0, .int .u64 0, .int .u64 0, .int .u32 0, .int .u16 0], .bool false]) (results_cell_tmp_x (p := 4) (u := 5) (by kernel_rfl) _ _ w.heap.size 68 _ (0, 0) _ rfl XB.out Try.underlying68 rfl (by kernel_rfl)) rfl ?_
  exact ⟨rfl, HB.out⟩
set_option maxHeartbeats 4000000 in
/-- What none answers. -/
theorem txnNil_any (tx : Nat) (xt xf xl xn xp xs : Nat) (w : World) : Calls Try.prog 13 #[.int .u64 (tx : Nat), .agg #[.int .u64 (xt : Nat), .int .u64 (xf : Nat), .int .u64 (xl : Nat), .int .u64 (xn : Nat), .int .u32 (xp : Nat), .int .u16 (xs : Nat)]] w fun e w' => e = .returned (.bool true) ∧ Below w.heap.size w w' := by
  have BE := Lib.hid fun W => begin_nil W
  have CO := Lib.hid fun k W => commit_nil k W
  have GE := Lib.hid fun k W => tget_nil k W
  have NE := Lib.hid fun W => next_nil W
  have SE := Lib.hid fun W => set_nil xt xf xl xn xp xs W
  have AD := Lib.hid fun W => add_nil xt xf xl xn xp xs W
  have EN := Lib.hid fun k W => end_nil k W
  have RA := Lib.hid fun k j W => raise_nil k j W
  have AL := Lib.hid fun W => tall_nil W
  have WO := Lib.hid fun W => txworks_any W
  have B1 := (Below.refl w.heap.size w).alloc (Nat.le_refl _) (.cells #[.int .u64 (xt : Nat), .int .u64 (xf : Nat), .int .u64 (xl : Nat), .int .u64 (xn : Nat), .int .u32 (xp : Nat), .int .u16 (xs : Nat)] 68)
  have P1 := Lib.hid (heap_alloc_new w (.cells #[.int .u64 (xt : Nat), .int .u64 (xf : Nat), .int .u64 (xl : Nat), .int .u64 (xn : Nat), .int .u32 (xp : Nat), .int .u16 (xs : Nat)] 68))
  have HB := Lib.hid B1
  clear B1
  go_enter Try.func13, Try.ntmps13
  go_upto_region 1 with fail
  generalize w.alloc (.cells #[.int .u64 (xt : Nat), .int .u64 (xf : Nat), .int .u64 (xl : Nat), .int .u64 (xn : Nat), .int .u32 (xp : Nat), .int .u16 (xs : Nat)] 68) = W1 at *
  go_wp2_with fail
  refine (BE.out _).mono ?_
  rintro e w1 ⟨rfl, hb⟩
  have p1 := (hb.block _ (blk_lt P1.out)).trans P1.out
  have HB1 := Lib.hid (below_then HB.out hb)
  have P2 := Lib.hid p1
  clear hb p1
  go_wp2_with fail
  refine (CO.out _ _).mono ?_
  rintro e w2 ⟨rfl, hb⟩
  have p1 := (hb.block _ (blk_lt P2.out)).trans P2.out
  have HB2 := Lib.hid (below_then HB1.out hb)
  have P3 := Lib.hid p1
  clear hb p1
  go_wp2_with fail
  refine (GE.out _ _).mono ?_
  rintro e w3 ⟨rfl, hb⟩
  have hb3 := hb.alloc hb.size (.cells #[.int .u64 0, .int .u64 0, .int .u64 0, .int .u64 0, .int .u32 0, .int .u16 0] 68)
  have p1 := (hb3.block _ (blk_lt P3.out)).trans P3.out
  have HB3 := Lib.hid (below_then HB2.out hb3)
  have P4 := Lib.hid p1
  clear hb p1 hb3
  go_wp2_with fail
  refine (NE.out _).mono ?_
  rintro e w4 ⟨rfl, hb⟩
  have p1 := (hb.block _ (blk_lt P4.out)).trans P4.out
  have HB4 := Lib.hid (below_then HB3.out hb)
  have P5 := Lib.hid p1
  obtain ⟨⟨x0, x1, x2, x3, x4, x5⟩, _⟩ := cells6 p1
  clear hb p1
  go_wp2_with fail
  refine (SE.out _).mono ?_
  rintro e w5 ⟨rfl, hb⟩
  have p1 := (hb.block _ (blk_lt P5.out)).trans P5.out
  have HB5 := Lib.hid (below_then HB4.out hb)
  clear x0 x1 x2 x3 x4 x5
  obtain ⟨⟨x0, x1, x2, x3, x4, x5⟩, _⟩ := cells6 p1
  clear hb p1
  go_wp2_with fail
  refine (AD.out _).mono ?_
  rintro e w6 ⟨rfl, hb⟩
  have HB6 := Lib.hid (below_then HB5.out hb)
  clear hb
  go_wp2_with fail
  refine (EN.out _ _).mono ?_
  rintro e w7 ⟨rfl, hb⟩
  have HB7 := Lib.hid (below_then HB6.out hb)
  clear hb
  go_wp2_with fail
  refine (RA.out _ _ _).mono ?_
  rintro e w8 ⟨rfl, hb⟩
  have HB8 := Lib.hid (below_then HB7.out hb)
  clear hb
  go_wp2_with fail
  refine (AL.out _).mono ?_
  rintro e w9 ⟨rfl, hb⟩
  have HB9 := Lib.hid (below_then HB8.out hb)
  clear hb
  go_wp2_with fail
  refine (WO.out _).mono ?_
  rintro e w10 ⟨rfl, hb⟩
  have HB10 := Lib.hid (below_then HB9.out hb)
  clear hb
  go_wp2_with fail
  go_ret
  exact ⟨rfl, HB10.out⟩

end Go.Proofs.Ytoeaakadpillnaa
