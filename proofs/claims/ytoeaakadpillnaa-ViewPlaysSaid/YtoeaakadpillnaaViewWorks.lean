/- chapter 24: works; a rising list is one. -/
import Derived.Test.YtoeaakadpillnaaRows
import Derived.Test.YtoeaakadpillnaaViewRef
import Derived.Test.YtoeaakadpillnaaViewOf
import Derived.Test.YtoeaakadpillnaaViewCpt
import Derived.Test.YtoeaakadpillnaaViewCmp
import Derived.Test.YtoeaakadpillnaaViewDel
import Derived.Test.YtoeaakadpillnaaViewOut
import Derived.Test.YtoeaakadpillnaaViewSame
import Derived.Test.YtoeaakadpillnaaViewSees
import Derived.Test.YtoeaakadpillnaaViewNums
import Derived.Test.YtoeaakadpillnaaLockRefTake
import Derived.Test.YtoeaakadpillnaaSortUTop
import Derived.Test.YtoeaakadpillnaaLockRef
import Derived.Test.YtoeaakadpillnaaKept
import Derived.Test.YtoeaakadpillnaaQuietTail
import Derived.Test.YtoeaakadpillnaaAppAny
import Derived.Deep.LoopGhost
import Derived.Deep.CutBlock
import Derived.Lib.SliceRun
import Derived.WalkKit
import Derived.WalkLawsBesides
import Derived.WalkSpells
import Derived.LoopTactic
import Derived.WalkMore
import Derived.LoopN
import Derived.Laws.BitsAllLaws
import Derived.Laws.IdiomStrings
import Derived.BigQuiet
import Derived.Deep.QuietTactic
import Derived.Deep.DeepCutAuto
import Derived.Deep.RegionHeld3
import Derived.Deep.DrawnRows
import Derived.Lib.Hide
import Derived.Outline
import Derived.Deep.DeepMust
import Derived.Handy
namespace Go.Proofs.Ytoeaakadpillnaa
open Go.RowKit
set_option linter.unusedVariables false
set_option linter.unusedSimpArgs false

theorem rise_unique : ∀ ys zs : List Nat, ys.Pairwise (· < ·) → zs.Pairwise (· < ·) → (∀ z, z ∈ ys ↔ z ∈ zs) → ys = zs
  | [], [], _, _, _ => rfl
  | [], b :: zs, _, _, h => by have := (h b).2 (List.mem_cons_self ..); cases this
  | a :: ys, [], _, _, h => by have := (h a).1 (List.mem_cons_self ..); cases this
  | a :: ys, b :: zs, h1, h2, h => by
    obtain ⟨h3, h4⟩ := List.pairwise_cons.1 h1
    obtain ⟨h5, h6⟩ := List.pairwise_cons.1 h2
    have hab : a = b := by
      rcases List.mem_cons.1 ((h a).1 (List.mem_cons_self ..)) with e | ha
      · exact e
      · rcases List.mem_cons.1 ((h b).2 (List.mem_cons_self ..)) with e | hb
        · exact e.symm
        · have := h5 a ha; have := h3 b hb; omega
    subst hab
    rw [rise_unique ys zs h4 h6 (fun z => ⟨fun hz => ?_, fun hz => ?_⟩)]
    · rcases List.mem_cons.1 ((h z).1 (List.mem_cons_of_mem _ hz)) with e | h7
      · have := h3 z hz; omega
      · exact h7
    · rcases List.mem_cons.1 ((h z).2 (List.mem_cons_of_mem _ hz)) with e | h7
      · have := h5 z hz; omega
      · exact h7
theorem OfL.unique {own next : Nat} {xs ys zs : List Nat} (h1 : OfL own next xs ys) (h2 : OfL own next xs zs) : ys = zs :=
  rise_unique ys zs h1.1 h2.1 (fun z => by rw [h1.2.1 z, h2.2.1 z])
theorem ofL_works : OfL 5 8 [6, 3, 9] [3, 6] := ⟨by decide, fun z => by
  simp only [List.mem_cons, List.not_mem_nil, or_false, outV, Bool.or_eq_false_iff, decide_eq_false_iff_not]
  omega, by decide⟩

set_option maxHeartbeats 8000000 in
set_option maxRecDepth 100000 in
theorem vworks (w : World) : Calls Try.prog 29 #[] w fun e w' => e = .returned (.bool true) ∧ Below w.heap.size w w' := by
  obtain ⟨W1, hW1⟩ : ∃ W, W = w.alloc (.cells #[.int .u64 6, .int .u64 3, .int .u64 9] 27) := ⟨_, rfl⟩
  have hB1 : Below w.heap.size w W1 := by rw [hW1]; exact (Below.refl _ _).alloc (Nat.le_refl _) _
  have hN : NumsAt W1 (.slice (some ⟨w.heap.size, 0, none⟩) 3 3) [6, 3, 9] := by
    have hb : W1.heap[w.heap.size]? = some (.cells #[.int .u64 6, .int .u64 3, .int .u64 9] 27 (0, 0)) := by rw [hW1]; exact heap_alloc_new w _
    refine ⟨_, 3, rfl, by decide, by decide, fun h => by (cases h), fun _ => ⟨w.heap.size, 0, rfl, blk_lt hb, fun j hj => ?_⟩⟩
    match j, hj with
    | 0, _ => exact blk_cell hb 0
    | 1, _ => exact blk_cell hb 1
    | 2, _ => exact blk_cell hb 2
    | j + 3, hj => exact absurd hj (by simp)
  have OF : Hid (Calls Try.prog 30 #[.int .u64 5, .int .u64 8, .slice (some ⟨w.heap.size, 0, none⟩) 3 3] W1 fun e w' => ∃ v', e = .returned (viewV 5 8 v') ∧ ∃ ys, OfL 5 8 [6, 3, 9] ys ∧ w'.ownsRow W1.heap.size 27 1 v' ys.length (nums ys) ∧ Below W1.heap.size W1 w') := of_any 5 8 _ [6, 3, 9] W1 (by decide) hN
  have HB1 := Lib.hid hB1
  clear hN hB1
  go_enter Try.func29, Try.ntmps29
  go_wp2_with fail
  rw [← hW1]
  clear hW1
  refine OF.out.mono ?_
  rintro e W2 ⟨v, rfl, ys, hL, ho, hb⟩
  obtain rfl := hL.unique ofL_works
  obtain ⟨gr, cr, rfl, hbg, hc1, hc2, hcell⟩ := own_open ho (by decide)
  have HN := Lib.hid (nums_own ho).1
  have d0 := hcell 0 _ rfl
  have d1 := hcell 1 _ rfl
  have HB2 := Lib.hid (below_trans2 HB1.out hb)
  clear hL ho hb hcell hbg
  obtain ⟨W3, hW3⟩ : ∃ W, W = W2.alloc (.cells #[.int .u64 5, .int .u64 8, .slice (some ⟨gr, 0, none⟩) 2 cr] 50) := ⟨_, rfl⟩
  have hB3 : Below W2.heap.size W2 W3 := by rw [hW3]; exact (Below.refl _ _).alloc (Nat.le_refl _) _
  have hblk : W3.heap[W2.heap.size]? = some (.cells #[.int .u64 5, .int .u64 8, .slice (some ⟨gr, 0, none⟩) 2 cr] 50 (0, 0)) := by rw [hW3]; exact heap_alloc_new W2 _
  have HB3 := Lib.hid (below_trans2 HB2.out hB3)
  have SE := Lib.hid fun (tx : Nat) W (hW : Below W3.heap.size W3 W) => sees_any 5 8 tx (.slice (some ⟨gr, 0, none⟩) 2 cr) [3, 6] W ((HN.out.below hB3).below hW)
  have SE1 : Hid (∀ W, Below W3.heap.size W3 W → Calls Try.prog 33 #[viewV 5 8 (.slice (some ⟨gr, 0, none⟩) 2 cr), .int .u64 1] W fun e w' => e = .returned (.bool true) ∧ Below W.heap.size W w') := fun W hW => SE.out 1 W hW
  have SE3 : Hid (∀ W, Below W3.heap.size W3 W → Calls Try.prog 33 #[viewV 5 8 (.slice (some ⟨gr, 0, none⟩) 2 cr), .int .u64 3] W fun e w' => e = .returned (.bool false) ∧ Below W.heap.size W w') := fun W hW => SE.out 3 W hW
  have SE4 : Hid (∀ W, Below W3.heap.size W3 W → Calls Try.prog 33 #[viewV 5 8 (.slice (some ⟨gr, 0, none⟩) 2 cr), .int .u64 4] W fun e w' => e = .returned (.bool true) ∧ Below W.heap.size W w') := fun W hW => SE.out 4 W hW
  have SE5 : Hid (∀ W, Below W3.heap.size W3 W → Calls Try.prog 33 #[viewV 5 8 (.slice (some ⟨gr, 0, none⟩) 2 cr), .int .u64 5] W fun e w' => e = .returned (.bool true) ∧ Below W.heap.size W w') := fun W hW => SE.out 5 W hW
  have SE6 : Hid (∀ W, Below W3.heap.size W3 W → Calls Try.prog 33 #[viewV 5 8 (.slice (some ⟨gr, 0, none⟩) 2 cr), .int .u64 6] W fun e w' => e = .returned (.bool false) ∧ Below W.heap.size W w') := fun W hW => SE.out 6 W hW
  have SE7 : Hid (∀ W, Below W3.heap.size W3 W → Calls Try.prog 33 #[viewV 5 8 (.slice (some ⟨gr, 0, none⟩) 2 cr), .int .u64 7] W fun e w' => e = .returned (.bool true) ∧ Below W.heap.size W w') := fun W hW => SE.out 7 W hW
  have SE8 : Hid (∀ W, Below W3.heap.size W3 W → Calls Try.prog 33 #[viewV 5 8 (.slice (some ⟨gr, 0, none⟩) 2 cr), .int .u64 8] W fun e w' => e = .returned (.bool false) ∧ Below W.heap.size W w') := fun W hW => SE.out 8 W hW
  have SE0 : Hid (∀ W, Below W3.heap.size W3 W → Calls Try.prog 33 #[viewV 5 8 (.slice (some ⟨gr, 0, none⟩) 2 cr), .int .u64 0] W fun e w' => e = .returned (.bool false) ∧ Below W.heap.size W w') := fun W hW => SE.out 0 W hW
  have CE : ∀ W, Below W3.heap.size W3 W → W.cell? ⟨W2.heap.size, 0, none⟩ = some (.int .u64 5) ∧ W.cell? ⟨W2.heap.size, 1, none⟩ = some (.int .u64 8) ∧ W.cell? ⟨W2.heap.size, 2, none⟩ = some (.slice (some ⟨gr, 0, none⟩) 2 cr) := fun W hW => by
    have h := (hW.block _ (blk_lt hblk)).trans hblk
    obtain ⟨a, b, c, _, _, _⟩ := cells3 h
    exact ⟨a, b, c⟩
  have HCE := Lib.hid CE
  have D0 := Lib.hid (keep_cell hB3 d0)
  have D1 := Lib.hid (keep_cell hB3 d1)
  have HZ := Lib.hid (Below.refl W3.heap.size W3)
  clear SE CE hblk hB3 d0 d1
  go_upto_region 2 with fail
  rw [← hW3]
  clear hW3
  obtain ⟨c0, c1, c2⟩ := HCE.out W3 (Below.refl _ _)
  have d0 := D0.out
  have d1 := D1.out
  go_wp2_with fail
  refine (SE1.out W3 HZ.out).mono ?_
  rintro e w4 ⟨rfl, hb⟩
  have HX0 := Lib.hid (below_trans2 HZ.out hb)
  clear hb c0 c1 c2
  obtain ⟨c0, c1, c2⟩ := HCE.out w4 HX0.out
  go_wp2_with fail
  refine (SE3.out w4 HX0.out).mono ?_
  rintro e w5 ⟨rfl, hb⟩
  have HX1 := Lib.hid (below_trans2 HX0.out hb)
  clear hb c0 c1 c2
  obtain ⟨c0, c1, c2⟩ := HCE.out w5 HX1.out
  go_wp2_with fail
  refine (SE4.out w5 HX1.out).mono ?_
  rintro e w6 ⟨rfl, hb⟩
  have HX2 := Lib.hid (below_trans2 HX1.out hb)
  clear hb c0 c1 c2
  obtain ⟨c0, c1, c2⟩ := HCE.out w6 HX2.out
  go_wp2_with fail
  refine (SE5.out w6 HX2.out).mono ?_
  rintro e w7 ⟨rfl, hb⟩
  have HX3 := Lib.hid (below_trans2 HX2.out hb)
  clear hb c0 c1 c2
  obtain ⟨c0, c1, c2⟩ := HCE.out w7 HX3.out
  go_wp2_with fail
  refine (SE6.out w7 HX3.out).mono ?_
  rintro e w8 ⟨rfl, hb⟩
  have HX4 := Lib.hid (below_trans2 HX3.out hb)
  clear hb c0 c1 c2
  obtain ⟨c0, c1, c2⟩ := HCE.out w8 HX4.out
  go_wp2_with fail
  refine (SE7.out w8 HX4.out).mono ?_
  rintro e w9 ⟨rfl, hb⟩
  have HX5 := Lib.hid (below_trans2 HX4.out hb)
  clear hb c0 c1 c2
  obtain ⟨c0, c1, c2⟩ := HCE.out w9 HX5.out
  go_wp2_with fail
  refine (SE8.out w9 HX5.out).mono ?_
  rintro e w10 ⟨rfl, hb⟩
  have HX6 := Lib.hid (below_trans2 HX5.out hb)
  clear hb c0 c1 c2
  obtain ⟨c0, c1, c2⟩ := HCE.out w10 HX6.out
  go_wp2_with fail
  refine (SE0.out w10 HX6.out).mono ?_
  rintro e w11 ⟨rfl, hb⟩
  have HX7 := Lib.hid (below_trans2 HX6.out hb)
  clear hb c0 c1 c2
  obtain ⟨c0, c1, c2⟩ := HCE.out w11 HX7.out
  go_wp2_with fail
  go_ret
  exact ⟨rfl, OthersKept.below HB3.out (OthersKept.of_below (p := fun _ => False) HX7.out) (fun _ _ h => h)⟩

end Go.Proofs.Ytoeaakadpillnaa
