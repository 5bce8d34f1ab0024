/- chapter 24: ViewTells. -/
import Derived.Test.YtoeaakadpillnaaRows
import Derived.Test.YtoeaakadpillnaaViewCopied
import Derived.Test.YtoeaakadpillnaaViewWorks
import Derived.Test.YtoeaakadpillnaaViewRef
import Derived.Test.YtoeaakadpillnaaViewOf
import Derived.Test.YtoeaakadpillnaaViewCpt
import Derived.Test.YtoeaakadpillnaaViewCmp
import Derived.Test.YtoeaakadpillnaaViewDel
import Derived.Test.YtoeaakadpillnaaViewOut
import Derived.Test.YtoeaakadpillnaaViewSame
import Derived.Test.YtoeaakadpillnaaViewSees
import Derived.Test.YtoeaakadpillnaaViewNums
import Derived.Test.YtoeaakadpillnaaLockRefTake
import Derived.Test.YtoeaakadpillnaaSortUTop
import Derived.Test.YtoeaakadpillnaaLockRef
import Derived.Test.YtoeaakadpillnaaKept
import Derived.Test.YtoeaakadpillnaaQuietTail
import Derived.Test.YtoeaakadpillnaaAppAny
import Derived.Deep.LoopGhost
import Derived.Deep.CutBlock
import Derived.Lib.SliceRun
import Derived.WalkKit
import Derived.WalkLawsBesides
import Derived.WalkSpells
import Derived.LoopTactic
import Derived.WalkMore
import Derived.LoopN
import Derived.Laws.BitsAllLaws
import Derived.Laws.IdiomStrings
import Derived.BigQuiet
import Derived.Deep.QuietTactic
import Derived.Deep.DeepCutAuto
import Derived.Deep.RegionHeld3
import Derived.Deep.DrawnRows
import Derived.Lib.Hide
import Derived.Outline
import Derived.Deep.DeepMust
import Derived.Handy
namespace Go.Proofs.Ytoeaakadpillnaa
open Go.RowKit
set_option linter.unusedVariables false
set_option linter.unusedSimpArgs false

set_option maxHeartbeats 8000000 in
set_option maxRecDepth 100000 in
theorem viewTells_any (own next o2 n2 tx : Nat) (s1 s2 : Value) (xs zs : List Nat) (w : World) (h1 : NumsAt w s1 xs) (h2 : NumsAt w s2 zs) :
    Calls Try.prog 6 #[.int .u64 own, .int .u64 next, s1, viewV o2 n2 s2, .int .u64 tx] w fun e w' => e = .returned (.bool true) ∧ Below w.heap.size w w' := by
  obtain ⟨W1, hW1⟩ : ∃ W, W = w.alloc (.cells #[.int .u64 o2, .int .u64 n2, s2] 50) := ⟨_, rfl⟩
  have hB1 : Below w.heap.size w W1 := by rw [hW1]; exact (Below.refl _ _).alloc (Nat.le_refl _) _
  have hK1 : W1.heap[w.heap.size]? = some (.cells #[.int .u64 o2, .int .u64 n2, s2] 50 (0, 0)) := by rw [hW1]; exact heap_alloc_new w _
  have N1 := Lib.hid (h1.below hB1)
  have N2 := Lib.hid (h2.below hB1)
  have HB1 := Lib.hid hB1
  have HK1 := Lib.hid hK1
  have WK := Lib.hid vworks
  obtain ⟨A1, c1, rfl, r1, r2, _, _⟩ := h1
  obtain ⟨A2, c2, rfl, t1, t2, _, _⟩ := h2
  unfold maxLen at r2 t2
  obtain ⟨n, hn⟩ : ∃ n, n = xs.length := ⟨_, rfl⟩
  obtain ⟨m, hm⟩ : ∃ m, m = zs.length := ⟨_, rfl⟩
  simp only [← hn, ← hm] at r1 t1 N1 N2 HK1 hW1 ⊢
  have HNn := Lib.hid hn
  have HMm := Lib.hid hm
  clear hn hm hB1 hK1
  obtain ⟨j0, ji, jz0, jz1, jz2⟩ := info_parts (P := Try.prog) (e := 27) (z := .int .u64 0) (size := 1) (bytes := 8) (by kernel_rfl)
  go_enter Try.func6, Try.ntmps6
  by_cases hx : n > 60
  · have hxi : (n : Int) > 60 := by omega
    go_wp2_with fail
    rw [← hW1]
    refine (WK.out _).mono ?_
    rintro e w2 ⟨rfl, hb⟩
    have HB2 := Lib.hid (below_trans2 HB1.out hb)
    clear hb hW1
    go_wp2_with fail
    go_ret
    exact ⟨rfl, HB2.out⟩
  have hxi : ¬ (n : Int) > 60 := by omega
  by_cases hz : m > 60
  · have hzi : (m : Int) > 60 := by omega
    go_wp2_with fail
    rw [← hW1]
    refine (WK.out _).mono ?_
    rintro e w2 ⟨rfl, hb⟩
    have HB2 := Lib.hid (below_trans2 HB1.out hb)
    clear hb hW1
    go_wp2_with fail
    go_ret
    exact ⟨rfl, HB2.out⟩
  have hzi : ¬ (m : Int) > 60 := by omega
  have RD := Lib.hid N1.out.reads
  go_upto_region 3 with fail
  rw [← hW1]
  clear hW1
  go_wp2_with (at_builtin; refine wpList_append_any _ rfl _ _ 35 rfl W1.heap.size 27 j0 (.int .u64 0) 1 8 Try.underlying35 ji jz0 jz1 jz2 rfl (by decide) (.slice none 0 0) 0 [] (by rfl) (World.ownsRow_nil _ _ _ _) (.slice A1 n c1) n (nums xs) (by rfl) (by have := RD.out; rwa [← HNn.out] at this) (fun u hu => nums_one _ u hu) (by unfold maxLen; omega) (by omega) (Nat.le_refl _) ?_; intro v2 w2 ho hg; refine Aside.out ?_)
  have hb2 := below_own (Below.refl _ _) (World.ownsRow_nil W1 W1.heap.size 27 1) (Nat.le_refl _) hg
  simp only [Nat.zero_add, List.nil_append] at ho
  have hl6 : xs.length ≤ 1000000 := by rw [← HNn.out]; omega
  have hl7 : zs.length ≤ 1000000 := by rw [← HMm.out]; omega
  have OF := Lib.hid (of_any own next v2 xs w2 hl6 (nums_own ho).1)
  have HB2 := Lib.hid hb2
  clear ho hg hb2
  unfold Aside
  go_wp2_with fail
  refine OF.out.mono ?_
  rintro e w3 ⟨va, rfl, ys, hL1, ho3, hb3⟩
  obtain ⟨ba, ca, rfl, _, _, _⟩ := own_form ho3
  have NA := Lib.hid (nums_own ho3).1
  have HL1 := Lib.hid hL1
  have HB3 := Lib.hid (below_trans2 HB2.out hb3)
  clear hL1 ho3 hb3
  obtain ⟨W4, hW4⟩ : ∃ W, W = w3.alloc (.cells #[.int .u64 own, .int .u64 next, .slice ba ys.length ca] 50) := ⟨_, rfl⟩
  have hB4 : Below w3.heap.size w3 W4 := by rw [hW4]; exact (Below.refl _ _).alloc (Nat.le_refl _) _
  have KA := Lib.hid (show W4.heap[w3.heap.size]? = some (.cells #[.int .u64 own, .int .u64 next, .slice ba ys.length ca] 50 (0, 0)) by rw [hW4]; exact heap_alloc_new w3 _)
  have NA4 := Lib.hid (NA.out.below hB4)
  have HB4 := Lib.hid (below_trans2 HB3.out hB4)
  have N14 := Lib.hid (N1.out.below HB4.out)
  have RO := Lib.hid (rof_any own next (.slice A1 n c1) xs W4 hl6 N14.out)
  clear hB4
  go_upto_region 4 with fail
  rw [← hW4]
  clear hW4
  go_wp2_with fail
  refine RO.out.mono ?_
  rintro e w5 ⟨vb, rfl, ys2, hL2, ho5, hb5⟩
  obtain rfl := HL1.out.unique hL2
  obtain ⟨bb, cb, rfl, _, _, _⟩ := own_form ho5
  have NB := Lib.hid (nums_own ho5).1
  have HB5 := Lib.hid (below_trans2 HB4.out hb5)
  have KA5 := Lib.hid ((hb5.block _ (blk_lt KA.out)).trans KA.out)
  have NA5 := Lib.hid (NA4.out.below hb5)
  clear hL2 ho5 hb5
  obtain ⟨W6, hW6⟩ : ∃ W, W = w5.alloc (.cells #[.int .u64 own, .int .u64 next, .slice bb ys.length cb] 50) := ⟨_, rfl⟩
  have hB6 : Below w5.heap.size w5 W6 := by rw [hW6]; exact (Below.refl _ _).alloc (Nat.le_refl _) _
  have KB := Lib.hid (show W6.heap[w5.heap.size]? = some (.cells #[.int .u64 own, .int .u64 next, .slice bb ys.length cb] 50 (0, 0)) by rw [hW6]; exact heap_alloc_new w5 _)
  have KA6 := Lib.hid ((hB6.block _ (blk_lt KA5.out)).trans KA5.out)
  have HB6 := Lib.hid (below_trans2 HB5.out hB6)
  have KV6 := Lib.hid ((HB6.out.block _ (blk_lt HK1.out)).trans HK1.out)
  have NA6 := Lib.hid (NA5.out.below hB6)
  have NB6 := Lib.hid (NB.out.below hB6)
  have N26 := Lib.hid (N2.out.below HB6.out)
  clear hB6
  go_upto_region 5 with fail
  rw [← hW6]
  clear hW6
  have hss : sameV own next ys own next ys = true := by unfold sameV; simp
  obtain ⟨T1, hT1⟩ : ∃ t, t = seesV o2 n2 zs tx := ⟨_, rfl⟩
  obtain ⟨T2, hT2⟩ : ∃ t, t = seesV own next ys tx := ⟨_, rfl⟩
  have SM := Lib.hid fun W (hW : Below W6.heap.size W6 W) => same_any own next own next (.slice ba ys.length ca) (.slice bb ys.length cb) ys ys W (NA6.out.below hW) (NB6.out.below hW)
  rw [hss] at SM
  have CO := Lib.hid fun W (hW : Below W6.heap.size W6 W) => lcopied_any o2 n2 (.slice A2 m c2) zs W hl7 (N26.out.below hW)
  have S1 := Lib.hid fun v W (hN : NumsAt W v zs) => sees_any o2 n2 tx v zs W hN
  have R1 := Lib.hid fun W (hW : Below W6.heap.size W6 W) => rsees_any o2 n2 tx (.slice A2 m c2) zs W (N26.out.below hW)
  have S2 := Lib.hid fun W (hW : Below W6.heap.size W6 W) => sees_any own next tx (.slice ba ys.length ca) ys W (NA6.out.below hW)
  have R2 := Lib.hid fun W (hW : Below W6.heap.size W6 W) => rsees_any own next tx (.slice bb ys.length cb) ys W (NB6.out.below hW)
  rw [← hT1] at S1 R1
  rw [← hT2] at S2 R2
  have CE := Lib.hid (show ∀ W, Below W6.heap.size W6 W → W.cell? ⟨w.heap.size, 0, none⟩ = some (.int .u64 o2) ∧ W.cell? ⟨w.heap.size, 1, none⟩ = some (.int .u64 n2) ∧ W.cell? ⟨w.heap.size, 2, none⟩ = some (.slice A2 m c2) ∧ W.cell? ⟨w3.heap.size, 0, none⟩ = some (.int .u64 own) ∧ W.cell? ⟨w3.heap.size, 1, none⟩ = some (.int .u64 next) ∧ W.cell? ⟨w3.heap.size, 2, none⟩ = some (.slice ba ys.length ca) ∧ W.cell? ⟨w5.heap.size, 0, none⟩ = some (.int .u64 own) ∧ W.cell? ⟨w5.heap.size, 1, none⟩ = some (.int .u64 next) ∧ W.cell? ⟨w5.heap.size, 2, none⟩ = some (.slice bb ys.length cb) from fun W hW => by
    obtain ⟨a1, a2, a3, _, _, _⟩ := cells3 ((hW.block _ (blk_lt KV6.out)).trans KV6.out)
    obtain ⟨b1, b2, b3, _, _, _⟩ := cells3 ((hW.block _ (blk_lt KA6.out)).trans KA6.out)
    obtain ⟨d1, d2, d3, _, _, _⟩ := cells3 ((hW.block _ (blk_lt KB.out)).trans KB.out)
    exact ⟨a1, a2, a3, b1, b2, b3, d1, d2, d3⟩)
  have hD : Below W6.heap.size W6 W6.drew := (Below.refl _ _).drew
  have ht1 : (T1 == T1) = true := by simp
  have ht2 : (T2 == T2) = true := by simp
  have CE0 := CE.out _ (Below.refl W6.heap.size W6)
  clear hss hT1 hT2 hl6 hl7 hx hz
  go_region_held3 (fun W => W.cell? ⟨w.heap.size, 0, none⟩ = some (.int .u64 o2) ∧ W.cell? ⟨w.heap.size, 1, none⟩ = some (.int .u64 n2) ∧ W.cell? ⟨w.heap.size, 2, none⟩ = some (.slice A2 m c2) ∧ W.cell? ⟨w3.heap.size, 0, none⟩ = some (.int .u64 own) ∧ W.cell? ⟨w3.heap.size, 1, none⟩ = some (.int .u64 next) ∧ W.cell? ⟨w3.heap.size, 2, none⟩ = some (.slice ba ys.length ca) ∧ W.cell? ⟨w5.heap.size, 0, none⟩ = some (.int .u64 own) ∧ W.cell? ⟨w5.heap.size, 1, none⟩ = some (.int .u64 next) ∧ W.cell? ⟨w5.heap.size, 2, none⟩ = some (.slice bb ys.length cb))
    (first
      | (with_reducible exact CE0)
      | (with_reducible exact CE.out _ hD)
      | (with_reducible exact CE.out _ k1)
      | (with_reducible exact CE.out _ k2)
      | (with_reducible exact CE.out _ k3)
      | (with_reducible exact CE.out _ k4)
      | (with_reducible exact CE.out _ k5)
      | (with_reducible exact CE.out _ k6)
      | (with_reducible exact CE.out _ k7)
      | exact CE0)
    (first
      | (go_at_call 29; refine (WK.out _).mono ?_; rintro e z7 ⟨rfl, g7⟩; have k7 := below_trans2 k6 g7)
      | (go_at_call 35; refine (R2.out _ k5).mono ?_; rintro e z6 ⟨rfl, g6⟩; have k6 := below_trans2 k5 g6)
      | (go_at_call 33; refine (S2.out _ k4).mono ?_; rintro e z5 ⟨rfl, g5⟩; have k5 := below_trans2 k4 g5)
      | (go_at_call 35; refine (R1.out _ k3).mono ?_; rintro e z4 ⟨rfl, g4⟩; have k4 := below_trans2 k3 g4)
      | (go_at_call 33; refine (S1.out _ _ nn2).mono ?_; rintro e z3 ⟨rfl, g3⟩; have k3 := below_trans2 k2 g3)
      | (go_at_call 34; refine (CO.out _ k1).mono ?_; rintro e z2 ⟨vc, rfl, oo2, g2⟩; have k2 := below_trans2 k1 g2; have nn2 := (nums_own oo2).1; obtain ⟨bc, cc, rfl, _, _, _⟩ := own_form oo2)
      | (go_at_call 32; refine (SM.out _ hD).mono ?_; rintro e z1 ⟨rfl, g1⟩; have k1 := below_trans2 hD g1))
  all_goals
    have HF := Lib.hid (OthersKept.below HB6.out (OthersKept.of_below (p := fun _ => False) k7) (fun _ _ h => h))
    go_wp2_with fail
    go_ret
    exact ⟨rfl, below_trans2 HB1.out HF.out⟩

end Go.Proofs.Ytoeaakadpillnaa
