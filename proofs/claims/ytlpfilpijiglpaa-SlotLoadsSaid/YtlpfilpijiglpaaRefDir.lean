/- The document's area: one place stored anew; Remove and Set where there is no such slot. -/
import Derived.Test.YtlpfilpijiglpaaRows
import Derived.Test.YtlpfilpijiglpaaRefBelow
import Derived.Test.YtlpfilpijiglpaaSlotLaw
import Derived.WalkKit
import Derived.WalkLawsBesides
import Derived.WalkSpells
import Derived.LoopTactic
import Derived.WalkMore
import Derived.LoopN
import Derived.Laws.BitsAllLaws
import Derived.Laws.IdiomStrings
import Derived.BigQuiet
import Derived.Deep.QuietTactic
import Derived.Deep.DeepCutAuto
import Derived.Deep.RegionHeld3
import Derived.Deep.DrawnRows
import Derived.Lib.Hide
import Derived.Outline
import Derived.Deep.DeepMust
import Derived.Handy
namespace Go.Proofs.Ytlpfilpijiglpaa
open Go.RowKit
set_option linter.unusedVariables false
set_option linter.unusedSimpArgs false

theorem places_set : ∀ (L : List (Nat × Nat)) (k : Nat) (p : Nat × Nat), k < L.length → ((places L).set (k * 2) (.int .i64 (p.1 : Nat))).set (k * 2 + 1) (.int .i64 (p.2 : Nat)) = places (L.set k p)
  | q :: r, 0, p, h => rfl
  | q :: r, k + 1, p, h => by
    rw [Nat.succ_mul]
    have := places_set r k p (by simpa using h)
    simp [places, this]

/-- One place of the directory stored anew. -/
theorem RefAt.set_dir {w : World} {g gB cap gd cp : Nat} {a : Ar} (k : Nat) (p : Nat × Nat) (hk : k < a.L.length) (h : RefAt w g gB cap (.slice (some ⟨gd, 0, none⟩) a.L.length cp) a) :
    RefAt ((w.setCell ⟨gd, k * 2, none⟩ (.int .i64 (p.1 : Nat))).setCell ⟨gd, k * 2 + 1, none⟩ (.int .i64 (p.2 : Nat))) g gB cap (.slice (some ⟨gd, 0, none⟩) (a.L.set k p).length cp) { a with L := a.L.set k p } := by
  obtain ⟨f1, f2⟩ := h.far gd rfl
  obtain ⟨s1, g1⟩ := h.dir.stored (k * 2) (.int .i64 (p.1 : Nat))
  obtain ⟨s2, g2⟩ := s1.stored (k * 2 + 1) (.int .i64 (p.2 : Nat))
  have g3 := grown_trans g1 g2
  rw [places_set a.L k p hk] at s2
  refine ⟨?_, h.row.of_eq (g3.block _ h.row.lt (by simp; exact Ne.symm f2)), by rw [List.length_set]; exact s2, h.ne, fun k hk => h.far k hk, h.room⟩
  rw [List.length_set]
  exact (g3.block _ (blk_lt h.own) (by simp; exact Ne.symm f1)).trans h.own

set_option maxHeartbeats 1000000 in
set_option maxRecDepth 100000 in
theorem refRemove_no (g gB cap : Nat) (v : Value) (a : Ar) (k : Int) (w : World) (hn : a.L.length ≤ 100000) (hk : ¬ (0 ≤ k ∧ k < (a.L.length : Int))) (h : RefAt w g gB cap v a) :
    Calls Try.prog 57 #[.pointer (some ⟨g, 0, none⟩), .int .i64 k] w fun e w' => e = .returned (.int .i64 3) ∧ Below w.heap.size w w' := by
  have c2 := h.c2
  obtain ⟨b, cp, rfl, hcp, _, _⟩ := dir_form h.dir
  clear h
  by_cases hk0 : k < 0
  · go_enter Try.func57, Try.ntmps57
    go_wp2_with fail
    go_ret
    exact ⟨rfl, Below.refl _ _⟩
  · have hk1 : (a.L.length : Int) ≤ k := by omega
    clear hk
    go_enter Try.func57, Try.ntmps57
    go_wp2_with fail
    go_ret
    exact ⟨rfl, Below.refl _ _⟩

set_option maxHeartbeats 1000000 in
set_option maxRecDepth 100000 in
theorem refSet_no (g gB cap : Nat) (v : Value) (a : Ar) (k : Int) (s : ByteArray) (w : World) (hn : a.L.length ≤ 100000) (hk : ¬ (0 ≤ k ∧ k < (a.L.length : Int))) (h : RefAt w g gB cap v a) :
    Calls Try.prog 56 #[.pointer (some ⟨g, 0, none⟩), .int .i64 k, .string s] w fun e w' => e = .returned (.int .i64 3) ∧ Below w.heap.size w w' := by
  have c2 := h.c2
  obtain ⟨b, cp, rfl, hcp, _, _⟩ := dir_form h.dir
  clear h
  by_cases hk0 : k < 0
  · go_enter Try.func56, Try.ntmps56
    go_wp2_with fail
    go_ret
    exact ⟨rfl, Below.refl _ _⟩
  · have hk1 : (a.L.length : Int) ≤ k := by omega
    clear hk
    go_enter Try.func56, Try.ntmps56
    go_wp2_with fail
    go_ret
    exact ⟨rfl, Below.refl _ _⟩

end Go.Proofs.Ytlpfilpijiglpaa
