/- chapter 23: same. -/
import Derived.Test.YtoeaakadpillnaaRows
import Derived.Test.YtoeaakadpillnaaTxnRaiseLaw
import Derived.Test.YtoeaakadpillnaaTxnRef
import Derived.WalkKit
import Derived.WalkLawsBesides
import Derived.WalkSpells
import Derived.LoopTactic
import Derived.WalkMore
import Derived.LoopN
import Derived.Laws.BitsAllLaws
import Derived.Laws.IdiomStrings
import Derived.BigQuiet
import Derived.Deep.QuietTactic
import Derived.Deep.DeepCutAuto
import Derived.Deep.RegionHeld3
import Derived.Deep.DrawnRows
import Derived.Lib.Hide
import Derived.Outline
import Derived.Deep.DeepMust
import Derived.Handy
namespace Go.Proofs.Ytoeaakadpillnaa
open Go.RowKit
set_option linter.unusedVariables false
set_option linter.unusedSimpArgs false

open Go.Maps
theorem rowX_cells {w : World} {base : Nat} {T : TT} {b : Option Addr} {cp : Nat} (h : w.ownsRow base 68 6 (.slice b T.length cp) T.length (cellsT T)) (gv : Nat) (he : b = some ⟨gv, 0, none⟩) : ∀ (i : Nat) (hi : i < T.length) (j : Nat) (u : Value), j < 6 → (T[i]).cells[j]? = some u → w.cell? ⟨gv, i * 6 + j, none⟩ = some u := by
  intro i hi j u hj hu
  subst he
  exact own_cell6 h _ u (by rw [cellsT_get T i j hi hj]; exact hu)
set_option maxHeartbeats 4000000 in
set_option maxRecDepth 100000 in
/-- Two lists of the same. -/
theorem tsame_any (T : TT) (ba bb : Nat) (va vb : Value) (w : World) (ha : w.ownsRow ba 68 6 va T.length (cellsT T)) (hb : w.ownsRow bb 68 6 vb T.length (cellsT T)) (hT : T.length ≤ 32) :
    Calls Try.prog 54 #[va, vb] w fun e w' => e = .returned (.bool true) ∧ Below w.heap.size w w' := by
  obtain ⟨pa, ca, rfl, a1, a2, a3⟩ := own_form6 ha
  obtain ⟨pb, cb, rfl, b1, b2, b3⟩ := own_form6 hb
  have HA := Lib.hid (fun gv he => rowX_cells ha gv he)
  have HBb := Lib.hid (fun gv he => rowX_cells hb gv he)
  have A3 := Lib.hid a3
  have B3 := Lib.hid b3
  clear ha hb a3 b3
  go_enter Try.func54, Try.ntmps54
  go_wp2_with fail
  go_loopw [5] (fun s5 wr => ∃ i : Nat, i ≤ T.length ∧ s5 = .int .i64 i ∧ Below w.heap.size w wr) (fun i _ => T.length - (intOf i).toNat)
  case atStart => exact ⟨0, Nat.zero_le _, rfl, Below.refl _ _⟩
  case round =>
    obtain ⟨i, hi, rfl, hB⟩ := hrel
    have HB := Lib.hid hB
    clear hB
    by_cases hlt : i < T.length
    · obtain ⟨ga, rfl⟩ := A3.out (by omega)
      obtain ⟨gb, rfl⟩ := B3.out (by omega)
      have HA2 := Lib.hid (HA.out ga rfl)
      have HB2 := Lib.hid (HBb.out gb rfl)
      have x0 := keep_cell HB.out (HA2.out i hlt 0 _ (by omega) rfl)
      have x1 := keep_cell HB.out (HA2.out i hlt 1 _ (by omega) rfl)
      have x2 := keep_cell HB.out (HA2.out i hlt 2 _ (by omega) rfl)
      have x3 := keep_cell HB.out (HA2.out i hlt 3 _ (by omega) rfl)
      have x4 := keep_cell HB.out (HA2.out i hlt 4 _ (by omega) rfl)
      have x5 := keep_cell HB.out (HA2.out i hlt 5 _ (by omega) rfl)
      have y0 := keep_cell HB.out (HB2.out i hlt 0 _ (by omega) rfl)
      have y1 := keep_cell HB.out (HB2.out i hlt 1 _ (by omega) rfl)
      have y2 := keep_cell HB.out (HB2.out i hlt 2 _ (by omega) rfl)
      have y3 := keep_cell HB.out (HB2.out i hlt 3 _ (by omega) rfl)
      have y4 := keep_cell HB.out (HB2.out i hlt 4 _ (by omega) rfl)
      have y5 := keep_cell HB.out (HB2.out i hlt 5 _ (by omega) rfl)
      rw [Nat.add_zero] at x0 y0
      have nx := neX_self (T[i])
      have q0 : (0 : Int) ≤ (i : Int) := by omega
      have q1 : (i : Int) < (T.length : Int) := by omega
      generalize T[i] = z at *
      obtain ⟨zt, zf, zl, zn, zp, zs⟩ := z
      simp only [TX.val] at nx x0 x1 x2 x3 x4 x5 y0 y1 y2 y3 y4 y5
      have ex0 := ext_cell x0 (cell_lt x0)
      have ex1 := ext_cell x1 (cell_lt x1)
      have ex2 := ext_cell x2 (cell_lt x2)
      have ex3 := ext_cell x3 (cell_lt x3)
      have ex4 := ext_cell x4 (cell_lt x4)
      have ex5 := ext_cell x5 (cell_lt x5)
      have ey0 := ext_cell y0 (cell_lt y0)
      have ey1 := ext_cell y1 (cell_lt y1)
      have ey2 := ext_cell y2 (cell_lt y2)
      have ey3 := ext_cell y3 (cell_lt y3)
      have ey4 := ext_cell y4 (cell_lt y4)
      have ey5 := ext_cell y5 (cell_lt y5)
      go_upto_region 6 with fail
      refine wp_region_ext wr.heap.size (by kernel_rfl) (by kernel_rfl) ?_
      repeat (go_big_quiet_step (fail))
      refine wpQuiet_nil ?_
      rintro _ ⟨Y, rfl⟩
      have HY := Lib.hid (below_then HB.out Y.below)
      clear ex0 ex1 ex2 ex3 ex4 ex5 ey0 ey1 ey2 ey3 ey4 ey5
      go_wp2_with fail
      go_roundw
      case rel => exact ⟨i + 1, by omega, by go_num, HY.out⟩
      case measure => simp [intOf]; omega
    · obtain rfl : i = T.length := by omega
      go_wp2_with fail
      go_ret
      exact ⟨rfl, HB.out⟩

end Go.Proofs.Ytoeaakadpillnaa
