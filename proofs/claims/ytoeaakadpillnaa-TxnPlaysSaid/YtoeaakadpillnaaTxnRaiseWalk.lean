/- chapter 23: Raise. -/
import Derived.Test.YtoeaakadpillnaaRows
import Derived.Test.YtoeaakadpillnaaTxnAdd
import Derived.WalkKit
import Derived.WalkLawsBesides
import Derived.WalkSpells
import Derived.LoopTactic
import Derived.WalkMore
import Derived.LoopN
import Derived.Laws.BitsAllLaws
import Derived.Laws.IdiomStrings
import Derived.BigQuiet
import Derived.Deep.QuietTactic
import Derived.Deep.DeepCutAuto
import Derived.Deep.RegionHeld3
import Derived.Deep.DrawnRows
import Derived.Lib.Hide
import Derived.Outline
import Derived.Deep.DeepMust
import Derived.Handy
namespace Go.Proofs.Ytoeaakadpillnaa
open Go.RowKit
set_option linter.unusedVariables false
set_option linter.unusedSimpArgs false

open Go.Maps Go.Conc
set_option maxHeartbeats 4000000 in
set_option maxRecDepth 100000 in
theorem tx_raise (w : World) {g m c tx number : Nat} {T : TT} (h : TtAt w g m c tx number T) (a b : Nat) (ha : a ≤ 4611686018427387904) (hb : b ≤ 4611686018427387904) :
    Calls Try.prog 45 #[.pointer (some ⟨g, 0, none⟩), .int .u64 (a : Nat), .int .u64 (b : Nat)] w fun e w' => e = .returned (.int .i64 0) ∧ TtAt w' g m c (max tx a) (max number b) T ∧ OthersKept w w' (mine g m c) := by
  have M := Lib.hid (tx_made w h)
  have c2 := h.c2
  have c3 := h.c3
  have f2 := blk_frozen h.own 2
  have f3 := blk_frozen h.own 3
  have hlt := h.lt.1
  have e1 : ¬ 4611686018427387904 < (a : Int) := by omega
  have e2 : ¬ 4611686018427387904 < (b : Int) := by omega
  obtain ⟨M1, hM1⟩ : ∃ M, M = max tx a := ⟨_, rfl⟩
  obtain ⟨M2, hM2⟩ : ∃ M, M = max number b := ⟨_, rfl⟩
  have hx1 : ∀ ats ty W, (Builtin.max_ ats ty #[.int .u64 (tx : Nat), .int .u64 (a : Nat)]).run Try.prog W = .ok (.int .u64 (M1 : Nat)) W := fun ats ty W => by
    rw [hM1]; exact run_max_u64 (P := Try.prog) tx a ats ty W
  have hx2 : ∀ ats ty W, (Builtin.max_ ats ty #[.int .u64 (number : Nat), .int .u64 (b : Nat)]).run Try.prog W = .ok (.int .u64 (M2 : Nat)) W := fun ats ty W => by
    rw [hM2]; exact run_max_u64 (P := Try.prog) number b ats ty W
  have h5 := h.txle
  have h6 := h.nole
  have HU := Lib.hid fun (W : World) (hW : Below w.heap.size w W) => ((h.below hW).set2 M1 (fun x hx => by have := h.under x hx; omega) (by omega)).set3 M2 (by omega)
  have HK := Lib.hid fun (W : World) (hW : Below w.heap.size w W) => (OthersKept.of_below (p := mine g m c) hW).same (OthersKept.of_grown (p := fun k => k = g) (g := g) (grown_set (i := 3) (u := .int .u64 (M2 : Nat)) (grown_set (i := 2) (u := .int .u64 (M1 : Nat)) (grown_refl W g))) rfl).mine0
  have HB := Lib.hid ((Below.refl w.heap.size w).drew)
  rw [← hM1, ← hM2]
  clear h h5 h6 hM1 hM2
  go_enter Try.func45, Try.ntmps45
  go_wp2_with fail
  refine M.out.mono ?_
  rintro e w1 ⟨rfl, rfl⟩
  go_upto_region 6 with fail
  go_region
  have H9 := Lib.hid ((HU.out w (Below.refl _ _)).below ((Below.refl _ _).drew))
  have HK9 := Lib.hid ((HK.out w (Below.refl _ _)).then_below ((Below.refl _ _).drew))
  clear hx1 hx2
  go_wp2_with fail
  go_ret
  exact ⟨rfl, H9.out, HK9.out⟩
set_option maxRecDepth 100000 in
theorem tx_raise_no (w : World) {g m c tx number : Nat} {T : TT} (h : TtAt w g m c tx number T) (a b : Nat) (hf : 4611686018427387904 < a ∨ 4611686018427387904 < b) :
    Calls Try.prog 45 #[.pointer (some ⟨g, 0, none⟩), .int .u64 (a : Nat), .int .u64 (b : Nat)] w fun e w' => e = .returned (.int .i64 2) ∧ Below w.heap.size w w' := by
  have M := Lib.hid (tx_made w h)
  clear h
  by_cases h1 : 4611686018427387904 < a
  · have e1 : 4611686018427387904 < (a : Int) := by omega
    clear hf
    go_enter Try.func45, Try.ntmps45
    go_wp2_with fail
    refine M.out.mono ?_
    rintro e w1 ⟨rfl, rfl⟩
    go_wp2_with fail
    go_ret
    exact ⟨rfl, Below.refl _ _⟩
  · have e1 : ¬ 4611686018427387904 < (a : Int) := by omega
    have e2 : 4611686018427387904 < (b : Int) := by omega
    clear hf
    go_enter Try.func45, Try.ntmps45
    go_wp2_with fail
    refine M.out.mono ?_
    rintro e w1 ⟨rfl, rfl⟩
    go_wp2_with fail
    go_ret
    exact ⟨rfl, Below.refl _ _⟩

end Go.Proofs.Ytoeaakadpillnaa
