/- chapter 24: the law's copied. -/
import Derived.Test.YtoeaakadpillnaaRows
import Derived.Test.YtoeaakadpillnaaViewWorks
import Derived.Test.YtoeaakadpillnaaViewRef
import Derived.Test.YtoeaakadpillnaaViewOf
import Derived.Test.YtoeaakadpillnaaViewCpt
import Derived.Test.YtoeaakadpillnaaViewCmp
import Derived.Test.YtoeaakadpillnaaViewDel
import Derived.Test.YtoeaakadpillnaaViewOut
import Derived.Test.YtoeaakadpillnaaViewSame
import Derived.Test.YtoeaakadpillnaaViewSees
import Derived.Test.YtoeaakadpillnaaViewNums
import Derived.Test.YtoeaakadpillnaaLockRefTake
import Derived.Test.YtoeaakadpillnaaSortUTop
import Derived.Test.YtoeaakadpillnaaLockRef
import Derived.Test.YtoeaakadpillnaaKept
import Derived.Test.YtoeaakadpillnaaQuietTail
import Derived.Test.YtoeaakadpillnaaAppAny
import Derived.Deep.LoopGhost
import Derived.Deep.CutBlock
import Derived.Lib.SliceRun
import Derived.WalkKit
import Derived.WalkLawsBesides
import Derived.WalkSpells
import Derived.LoopTactic
import Derived.WalkMore
import Derived.LoopN
import Derived.Laws.BitsAllLaws
import Derived.Laws.IdiomStrings
import Derived.BigQuiet
import Derived.Deep.QuietTactic
import Derived.Deep.DeepCutAuto
import Derived.Deep.RegionHeld3
import Derived.Deep.DrawnRows
import Derived.Lib.Hide
import Derived.Outline
import Derived.Deep.DeepMust
import Derived.Handy
namespace Go.Proofs.Ytoeaakadpillnaa
open Go.RowKit
set_option linter.unusedVariables false
set_option linter.unusedSimpArgs false

set_option maxHeartbeats 4000000 in
set_option maxRecDepth 100000 in
theorem lcopied_any (own next : Nat) (sv : Value) (xs : List Nat) (w : World) (hl : xs.length ≤ 1000000) (h : NumsAt w sv xs) :
    Calls Try.prog 34 #[viewV own next sv] w fun e w' => ∃ v', e = .returned (viewV own next v') ∧ w'.ownsRow w.heap.size 27 1 v' xs.length (nums xs) ∧ Below w.heap.size w w' := by
  obtain ⟨W1, hW1⟩ : ∃ W, W = w.alloc (.cells #[.int .u64 own, .int .u64 next, sv] 50) := ⟨_, rfl⟩
  obtain ⟨W2, hW2⟩ : ∃ W, W = W1.alloc (.cells #[.int .u64 0, .int .u64 0, .slice none 0 0] 50) := ⟨_, rfl⟩
  have s1 : W1.heap.size = w.heap.size + 1 := by rw [hW1]; simp
  have s2 : W2.heap.size = w.heap.size + 2 := by rw [hW2]; simp [s1]
  have B1 : W1.heap[w.heap.size]? = some (.cells #[.int .u64 own, .int .u64 next, sv] 50 (0, 0)) := by rw [hW1]; exact heap_alloc_new w _
  have B2 : W2.heap[w.heap.size + 1]? = some (.cells #[.int .u64 0, .int .u64 0, .slice none 0 0] 50 (0, 0)) := by rw [hW2, ← s1]; exact heap_alloc_new W1 _
  have B1' : W2.heap[w.heap.size]? = some (.cells #[.int .u64 own, .int .u64 next, sv] 50 (0, 0)) := by rw [hW2]; exact heap_keep B1
  have hB : Below w.heap.size w W2 := by
    rw [hW2, hW1]
    exact ((Below.refl _ _).alloc (Nat.le_refl _) _).alloc (by simp) _
  have HB := Lib.hid hB
  have HS2 := Lib.hid s2
  have P1 := Lib.hid B1'
  have P2 := Lib.hid B2
  have RD := Lib.hid (h.below hB).reads
  obtain ⟨A, cpx, rfl, r2, r3, _, _⟩ := h
  obtain ⟨n, hn⟩ : ∃ n, n = xs.length := ⟨_, rfl⟩
  simp only [← hn] at hl r2 RD P1 hW1 ⊢
  have HNn := Lib.hid hn
  unfold maxLen at r3
  obtain ⟨j0, ji, jz0, jz1, jz2⟩ := info_parts (P := Try.prog) (e := 27) (z := .int .u64 0) (size := 1) (bytes := 8) (by kernel_rfl)
  rw [hW1] at hW2
  clear hB B1 B2 B1' s1 s2 hW1 hn
  go_enter Try.func34, Try.ntmps34
  go_upto_region 1 with fail
  rw [← hW2]
  clear hW2
  obtain ⟨x0, x1, x2, f0, f1, f2⟩ := cells3 P1.out
  go_wp2_with (at_builtin; refine wpList_append_any _ rfl _ _ 35 rfl W2.heap.size 27 j0 (.int .u64 0) 1 8 Try.underlying35 ji jz0 jz1 jz2 rfl (by decide) (.slice none 0 0) 0 [] (by rfl) (World.ownsRow_nil _ _ _ _) (.slice A n cpx) n (nums xs) (by rfl) RD.out (fun u hu => nums_one _ u hu) (by unfold maxLen; omega) (by omega) (Nat.le_refl _) ?_; intro v3 w3 ho hg; refine Aside.out ?_)
  have hb3 := below_own (Below.refl _ _) (World.ownsRow_nil W2 W2.heap.size 27 1) (Nat.le_refl _) hg
  simp only [Nat.zero_add, List.nil_append] at ho
  obtain ⟨b3, c3, rfl, _, _, _⟩ := own_form ho
  have y1 := (hb3.block _ (blk_lt P1.out)).trans P1.out
  have y2 := (hb3.block _ (blk_lt P2.out)).trans P2.out
  obtain ⟨x0, x1, x2, f0, f1, f2⟩ := cells3 y1
  obtain ⟨z0, z1, z2, z3, z4, z5⟩ := cells3 y2
  have hne : w.heap.size + 1 ≠ w.heap.size := by omega
  have y2b := set_keep (j := 2) (u := .slice b3 n c3) y2 hne
  have xb := blk_set (blk_set (blk_set y2b 0 (.int .u64 own)) 1 (.int .u64 next)) 2 (.slice b3 n c3)
  simp only [List.setIfInBounds_toArray, List.set_cons_zero, List.set_cons_succ] at xb
  have h1 : OthersKept w3 (w3.setCell ⟨w.heap.size, 2, none⟩ (.slice b3 n c3)) (fun k => k < W2.heap.size ∧ w.heap.size ≤ k) := OthersKept.of_grown (p := fun k => k < W2.heap.size ∧ w.heap.size ≤ k) (g := w.heap.size) (grown_set (grown_refl _ _)) ⟨by have := HS2.out; omega, Nat.le_refl _⟩
  have h2 : OthersKept (w3.setCell ⟨w.heap.size, 2, none⟩ (.slice b3 n c3)) ((((w3.setCell ⟨w.heap.size, 2, none⟩ (.slice b3 n c3)).setCell ⟨w.heap.size + 1, 0, none⟩ (.int .u64 own)).setCell ⟨w.heap.size + 1, 1, none⟩ (.int .u64 next)).setCell ⟨w.heap.size + 1, 2, none⟩ (.slice b3 n c3)) (fun k => k < W2.heap.size ∧ w.heap.size ≤ k) := OthersKept.of_grown (p := fun k => k < W2.heap.size ∧ w.heap.size ≤ k) (g := w.heap.size + 1) (grown_set (grown_set (grown_set (grown_refl _ _)))) ⟨by have := HS2.out; omega, by omega⟩
  have h3 := h1.trans h2 (fun _ _ h => h)
  have HO := Lib.hid (h3.owns ho (fun k hk h => by have := own_block ho k hk; omega))
  have HB3 := Lib.hid (OthersKept.below HB.out ((OthersKept.of_below (p := fun k => w.heap.size ≤ k) hb3).trans h3 (fun k hk h => h.2)) (fun k hk h => by omega))
  have XB := Lib.hid xb
  clear ho hg hb3 y1 y2 y2b xb h1 h2 h3
  unfold Aside
  go_wp2_with fail
  refine bodyPost_ret (v := viewV own next (.slice b3 n c3)) (results_cell_row (p := 2) (by kernel_rfl) _ _ (w.heap.size + 1) 50 _ (0, 0) _ rfl XB.out Try.underlying50 rfl (by kernel_rfl)) rfl ?_
  exact ⟨_, rfl, own_down HO.out (by have := HS2.out; omega), HB3.out⟩

end Go.Proofs.Ytoeaakadpillnaa
