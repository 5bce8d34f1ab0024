/- A new area -/
import Derived.Test.YtlpfilpijiglpaaRows
import Derived.Test.YtlpfilpijiglpaaSlotBelow
import Derived.WalkKit
import Derived.WalkLawsBesides
import Derived.WalkSpells
import Derived.LoopTactic
import Derived.WalkMore
import Derived.LoopN
import Derived.Laws.BitsAllLaws
import Derived.Laws.IdiomStrings
import Derived.BigQuiet
import Derived.Deep.QuietTactic
import Derived.Deep.DeepCutAuto
import Derived.Deep.RegionHeld3
import Derived.Deep.DrawnRows
import Derived.Lib.Hide
import Derived.Outline
import Derived.Deep.DeepMust
import Derived.Handy
namespace Go.Proofs.Ytlpfilpijiglpaa
open Go.RowKit
set_option linter.unusedVariables false
set_option linter.unusedSimpArgs false

theorem slotNew_no (n : Int) (w : World) (hn : n < 16 ∨ 4096 < n) :
    Calls Try.prog 15 #[.int .i64 n] w fun e w' => e = .returned (.tuple #[.pointer none, .int .i64 2]) ∧ Below w.heap.size w w' := by
  rcases hn with h | h
  · go_enter Try.func15, Try.ntmps15
    go_wp2_with fail
    go_ret2
    exact ⟨rfl, Below.refl _ _⟩
  · go_enter Try.func15, Try.ntmps15
    go_wp2_with fail
    go_ret2
    exact ⟨rfl, Below.refl _ _⟩

set_option maxHeartbeats 1000000 in
set_option maxRecDepth 100000 in
theorem slotNew_yes (n : Nat) (w : World) (h1 : 16 ≤ n) (h2 : n ≤ 4096) :
    Calls Try.prog 15 #[.int .i64 n] w fun e w' => ∃ gA gB, e = .returned (.tuple #[.pointer (some ⟨gA, 0, none⟩), .int .i64 0]) ∧ w.heap.size ≤ gA ∧ w.heap.size ≤ gB ∧ AreaIn w' gA gB n (setTwo (List.replicate n 0) 2 n) ∧ Below w.heap.size w w' := by
  have i1 : ¬ (n : Int) < 16 := by omega
  have i2 : ¬ 4096 < (n : Int) := by omega
  go_enter Try.func15, Try.ntmps15
  go_wp2_with fail
  refine upon_make _ 38 5 n Try.underlying38 (by kernel_rfl) (by kernel_rfl) (by kernel_rfl) (by omega) (fun W hr hb => ?_)
  go_wp2_with fail
  have hlt := hr.lt
  have hA : AreaIn (W.alloc (.cells #[.slice (some ⟨w.heap.size, 0, none⟩) n n] 75)) W.heap.size w.heap.size n (List.replicate n 0) :=
    ⟨by rw [List.length_replicate]; exact heap_alloc_new W _, hr.below ((Below.refl _ _).alloc (Nat.le_refl _) _), by omega⟩
  have hb2 := hb.alloc hb.size (.cells #[.slice (some ⟨w.heap.size, 0, none⟩) n n] 75)
  refine (slotTwo_any W.heap.size w.heap.size n 2 n (List.replicate n 0) _ (by simp; omega) (by simp; omega) (by simp) (by omega) hA).mono ?_
  rintro e w2 ⟨rfl, h2, g2⟩
  have hb3 := hb2.grown g2 (by simp; omega) (fun k hk => by injection hk with hk; omega)
  have hge := hb.size
  clear hb hb2 hA hr g2
  go_wp2_with fail
  go_ret2
  exact ⟨_, _, rfl, hge, Nat.le_refl _, h2, hb3⟩

end Go.Proofs.Ytlpfilpijiglpaa
