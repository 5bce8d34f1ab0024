/- chapter 24: Of. -/
import Derived.Test.YtoeaakadpillnaaRows
import Derived.Test.YtoeaakadpillnaaViewCpt
import Derived.Test.YtoeaakadpillnaaViewCmp
import Derived.Test.YtoeaakadpillnaaViewDel
import Derived.Test.YtoeaakadpillnaaViewOut
import Derived.Test.YtoeaakadpillnaaViewSame
import Derived.Test.YtoeaakadpillnaaViewSees
import Derived.Test.YtoeaakadpillnaaViewNums
import Derived.Test.YtoeaakadpillnaaSortUTop
import Derived.Test.YtoeaakadpillnaaLockRef
import Derived.Test.YtoeaakadpillnaaKept
import Derived.Test.YtoeaakadpillnaaQuietTail
import Derived.Test.YtoeaakadpillnaaAppAny
import Derived.Deep.LoopGhost
import Derived.Deep.CutBlock
import Derived.Lib.SliceRun
import Derived.WalkKit
import Derived.WalkLawsBesides
import Derived.WalkSpells
import Derived.LoopTactic
import Derived.WalkMore
import Derived.LoopN
import Derived.Laws.BitsAllLaws
import Derived.Laws.IdiomStrings
import Derived.BigQuiet
import Derived.Deep.QuietTactic
import Derived.Deep.DeepCutAuto
import Derived.Deep.RegionHeld3
import Derived.Deep.DrawnRows
import Derived.Lib.Hide
import Derived.Outline
import Derived.Deep.DeepMust
import Derived.Handy
namespace Go.Proofs.Ytoeaakadpillnaa
open Go.RowKit
set_option linter.unusedVariables false
set_option linter.unusedSimpArgs false

/-- The list of a view: rising, what goes on of those that were named. -/
def OfL (own next : Nat) (xs ys : List Nat) : Prop := ys.Pairwise (· < ·) ∧ (∀ z, z ∈ ys ↔ (z ∈ xs ∧ outV own next z = false)) ∧ ys.length ≤ xs.length
theorem own_down {w : World} {base base' n size : Nat} {e : TypeId} {v : Value} {xs : List Value} (h : w.ownsRow base e size v n xs) (hb : base' ≤ base) : w.ownsRow base' e size v n xs :=
  ⟨h.1, h.2.imp id fun ⟨g, cap, cur, h1, h2, h3⟩ => ⟨g, cap, cur, h1, Nat.le_trans hb h2, h3⟩⟩
theorem own_block {w : World} {base n size : Nat} {e : TypeId} {v : Value} {xs : List Value} (h : w.ownsRow base e size v n xs) : ∀ k, v.ownBlock = some k → base ≤ k := by
  intro k hk
  rcases h.2 with ⟨rfl, _⟩ | ⟨g, cap, cur, rfl, hb, _⟩
  · simp [Value.ownBlock] at hk
  · simp [Value.ownBlock] at hk
    omega
theorem cells3 {w : World} {g : Nat} {t : TypeId} {a0 a1 a2 : Value} (h : w.heap[g]? = some (.cells #[a0, a1, a2] t (0, 0))) :
    w.cell? ⟨g, 0, none⟩ = some a0 ∧ w.cell? ⟨g, 1, none⟩ = some a1 ∧ w.cell? ⟨g, 2, none⟩ = some a2 ∧ w.frozen? ⟨g, 0, none⟩ = false ∧ w.frozen? ⟨g, 1, none⟩ = false ∧ w.frozen? ⟨g, 2, none⟩ = false :=
  ⟨blk_cell h 0, blk_cell h 1, blk_cell h 2, blk_frozen h 0, blk_frozen h 1, blk_frozen h 2⟩

theorem set3_keep {w : World} {a g : Nat} {v x y z : Value} (h : w.cell? ⟨a, 0, none⟩ = some v) (hne : a ≠ g) : (((w.setCell ⟨g, 0, none⟩ x).setCell ⟨g, 1, none⟩ y).setCell ⟨g, 2, none⟩ z).cell? ⟨a, 0, none⟩ = some v := by
  have hk : OthersKept w (((w.setCell ⟨g, 0, none⟩ x).setCell ⟨g, 1, none⟩ y).setCell ⟨g, 2, none⟩ z) (fun k => k = g) := OthersKept.of_grown (p := fun k => k = g) (g := g) (grown_set (grown_set (grown_set (grown_refl _ _)))) rfl
  exact hk.cell h hne

set_option maxHeartbeats 4000000 in
set_option maxRecDepth 100000 in
theorem of_any (own next : Nat) (sv : Value) (xs : List Nat) (w : World) (hl : xs.length ≤ 1000000) (h : NumsAt w sv xs) :
    Calls Try.prog 30 #[.int .u64 own, .int .u64 next, sv] w fun e w' => ∃ v', e = .returned (viewV own next v') ∧ ∃ ys, OfL own next xs ys ∧ w'.ownsRow w.heap.size 27 1 v' ys.length (nums ys) ∧ Below w.heap.size w w' := by
  have hmf : ∀ (fn : Fn) (first cap : Array Value) (w : World), (Instr.makeFunc fn first cap).run Try.prog w = .ok (.func fn first cap) w := fun _ _ _ _ => rfl
  obtain ⟨W1, hW1⟩ : ∃ W, W = w.alloc (.cells #[.int .u64 own] 27) := ⟨_, rfl⟩
  obtain ⟨W2, hW2⟩ : ∃ W, W = W1.alloc (.cells #[.int .u64 next] 27) := ⟨_, rfl⟩
  obtain ⟨W3, hW3⟩ : ∃ W, W = W2.alloc (.cells #[.int .u64 0, .int .u64 0, .slice none 0 0] 50) := ⟨_, rfl⟩
  have s1 : W1.heap.size = w.heap.size + 1 := by rw [hW1]; simp
  have s2 : W2.heap.size = w.heap.size + 2 := by rw [hW2]; simp [s1]
  have s3 : W3.heap.size = w.heap.size + 3 := by rw [hW3]; simp [s2]
  have B1 : W1.heap[w.heap.size]? = some (.cells #[.int .u64 own] 27 (0, 0)) := by rw [hW1]; exact heap_alloc_new w _
  have B2 : W2.heap[w.heap.size + 1]? = some (.cells #[.int .u64 next] 27 (0, 0)) := by rw [hW2, ← s1]; exact heap_alloc_new W1 _
  have B3 : W3.heap[w.heap.size + 1 + 1]? = some (.cells #[.int .u64 0, .int .u64 0, .slice none 0 0] 50 (0, 0)) := by rw [hW3, show w.heap.size + 1 + 1 = W2.heap.size by omega]; exact heap_alloc_new W2 _
  have B2' : W3.heap[w.heap.size + 1]? = some (.cells #[.int .u64 next] 27 (0, 0)) := by rw [hW3]; exact heap_keep B2
  have B1' : W3.heap[w.heap.size]? = some (.cells #[.int .u64 own] 27 (0, 0)) := by rw [hW3]; refine heap_keep ?_; rw [hW2]; exact heap_keep B1
  have hB : Below w.heap.size w W3 := by
    rw [hW3, hW2, hW1]
    exact (((Below.refl _ _).alloc (Nat.le_refl _) _).alloc (by simp) _).alloc (by simp; omega) _
  have HB := Lib.hid hB
  have hN := h.below hB
  have CL := Lib.hid (clone_u64 sv xs W3 hl hN)
  have P1 := Lib.hid B1'
  have P2 := Lib.hid B2'
  have P3 := Lib.hid B3
  have S3 := Lib.hid s3
  rw [hW2, hW1] at hW3
  clear h hN hB B1 B2 B3 B1' B2' s1 s2 s3 hW1 hW2
  go_enter Try.func30, Try.ntmps30
  go_wp2_with fail
  rw [← hW3]
  clear hW3
  refine CL.out.mono ?_
  rintro e w1 ⟨v1, rfl, ho1, hb1⟩
  have Q1 := Lib.hid ((hb1.block _ (blk_lt P1.out)).trans P1.out)
  have Q2 := Lib.hid ((hb1.block _ (blk_lt P2.out)).trans P2.out)
  have Q3 := Lib.hid ((hb1.block _ (blk_lt P3.out)).trans P3.out)
  have HO1 := Lib.hid ho1
  have DF := Lib.hid (deleteFunc_u64 W3.heap.size xs.length v1 xs (w.heap.size + 1) w.heap.size own next w1 hl ho1 (by have := S3.out; omega) (by have := S3.out; omega) (blk_cell Q2.out 0) (blk_cell Q1.out 0))
  have HB1 := Lib.hid (OthersKept.of_below (p := fun k => W3.heap.size ≤ k) hb1)
  clear ho1 hb1
  go_wp2_with fail
  refine DF.out.mono ?_
  rintro e w2 ⟨v2, rfl, m2, hm2, ho2, hk2⟩
  have hx : ∀ (w' : World) (g : Nat) (o : Obj), w1.heap[g]? = some o → g < W3.heap.size → OthersKept w1 w' (fun k => W3.heap.size ≤ k) → w'.heap[g]? = some o := fun w' g o h hg hk => hk.heap h (by omega)
  have HX := Lib.hid hx
  have SO := Lib.hid (sort_u64 W3.heap.size m2 v2 _ w2 (by omega) ho2)
  have HK2 := Lib.hid hk2
  have hob := own_block ho2
  clear hk2 hx ho2
  go_wp2_with fail
  refine SO.out.mono ?_
  rintro e w3 ⟨ys3, rfl, hp3, hs3, ho3, hk3⟩
  have HK3 := Lib.hid (HK2.out.trans (hk3.mono hob) (fun _ _ h => h))
  have HP3 := Lib.hid hp3
  have CP := Lib.hid fun W (hW : Below w3.heap.size w3 W) => compact_u64 W3.heap.size m2 v2 ys3 W (by omega) (own_below ho3 hW) hs3
  have R1 := HX.out _ _ _ Q1.out (by have := S3.out; omega) HK3.out
  have R2 := HX.out _ _ _ Q2.out (by have := S3.out; omega) HK3.out
  have R3 := HX.out _ _ _ Q3.out (by have := S3.out; omega) HK3.out
  have hns : ¬ W3.heap.size ≤ w.heap.size := by have := S3.out; omega
  have hns1 : ¬ W3.heap.size ≤ w.heap.size + 1 := by have := S3.out; omega
  have hns2 : ¬ W3.heap.size ≤ w.heap.size + 1 + 1 := by have := S3.out; omega
  have p1 : w3.cell? ⟨w.heap.size, 0, none⟩ = some (.int .u64 own) := blk_cell R1 0
  have p2 : w3.cell? ⟨w.heap.size + 1, 0, none⟩ = some (.int .u64 next) := blk_cell R2 0
  have HR3 := Lib.hid R3
  clear hp3 hs3 ho3 hk3 hob R1 R2 R3
  go_upto_region 3 with fail
  go_region_held3 (fun w' => w'.cell? ⟨w.heap.size, 0, none⟩ = some (.int .u64 own) ∧ w'.cell? ⟨w.heap.size + 1, 0, none⟩ = some (.int .u64 next))
    (first | (with_reducible exact ⟨p1, p2⟩) | (with_reducible exact ⟨y1, y2⟩) | exact ⟨set3_keep y1 (by omega), set3_keep y2 (by omega)⟩ | exact ⟨p1, p2⟩)
    (first
      | (go_at_call 65; refine (CP.out _ (Below.refl _ _).drew).mono ?_; rintro e w4 ⟨v4, rfl, ys4, hl4, hr4, hm4, ho4, hk4⟩; obtain ⟨b4, c4, rfl, hc5, hc6, hc7⟩ := own_form ho4; have y1 := hk4.cell (q := ⟨w.heap.size, 0, none⟩) p1 hns; have y2 := hk4.cell (q := ⟨w.heap.size + 1, 0, none⟩) p2 hns1; obtain ⟨y3, y4, y5, y6, y7, y8⟩ := cells3 (hk4.heap (keep_drew HR3.out) hns2)))
  all_goals
    have HO4 := Lib.hid ho4
    have HK4 := Lib.hid (((HB1.out.trans HK3.out (fun _ _ h => h)).then_below (Below.refl _ _).drew).trans hk4 (fun _ _ h => h))
    have HL := Lib.hid (show OfL own next xs ys4 from ⟨hr4, fun z => by rw [hm4 z, HP3.out.mem_iff, List.mem_filter]; simp, by omega⟩)
    have xb := blk_set (blk_set (blk_set (hk4.heap (keep_drew HR3.out) hns2) 0 (.int .u64 own)) 1 (.int .u64 next)) 2 (.slice b4 ys4.length c4)
    simp only [List.setIfInBounds_toArray, List.set_cons_zero, List.set_cons_succ] at xb
    have hset : OthersKept w4 (((w4.setCell ⟨w.heap.size + 1 + 1, 0, none⟩ (.int .u64 own)).setCell ⟨w.heap.size + 1 + 1, 1, none⟩ (.int .u64 next)).setCell ⟨w.heap.size + 1 + 1, 2, none⟩ (.slice b4 ys4.length c4)) (fun k => k = w.heap.size + 1 + 1) := OthersKept.of_grown (p := fun k => k = w.heap.size + 1 + 1) (g := w.heap.size + 1 + 1) (grown_set (grown_set (grown_set (grown_refl _ _)))) rfl
    have HO5 := Lib.hid (hset.owns (HO4.out) (fun k hk h => by have := own_block HO4.out k hk; omega))
    have HK5 := Lib.hid (OthersKept.below HB.out ((HK4.out.mono (q := fun k => w.heap.size ≤ k) (fun k h => by have := S3.out; omega)).trans hset (fun k hk h => by omega)) (fun k hk h => by omega))
    clear hr4 hm4 hk4 ho4 hset
    go_wp2_with fail
    refine bodyPost_ret (v := viewV own next (.slice b4 ys4.length c4)) (results_cell_row (p := 6) (by kernel_rfl) _ _ (w.heap.size + 1 + 1) 50 _ (0, 0) _ rfl xb Try.underlying50 rfl (by kernel_rfl)) rfl ?_
    exact ⟨_, rfl, ys4, HL.out, own_down HO5.out (by have := S3.out; omega), HK5.out⟩

end Go.Proofs.Ytoeaakadpillnaa
