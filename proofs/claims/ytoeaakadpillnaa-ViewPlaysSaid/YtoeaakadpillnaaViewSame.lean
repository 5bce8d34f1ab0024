/- chapter 24: Same. -/
import Derived.Test.YtoeaakadpillnaaRows
import Derived.Test.YtoeaakadpillnaaViewSees
import Derived.Test.YtoeaakadpillnaaViewNums
import Derived.Test.YtoeaakadpillnaaSortUTop
import Derived.Test.YtoeaakadpillnaaLockRef
import Derived.Test.YtoeaakadpillnaaKept
import Derived.Test.YtoeaakadpillnaaQuietTail
import Derived.Test.YtoeaakadpillnaaAppAny
import Derived.Deep.LoopGhost
import Derived.Deep.CutBlock
import Derived.WalkKit
import Derived.WalkLawsBesides
import Derived.WalkSpells
import Derived.LoopTactic
import Derived.WalkMore
import Derived.LoopN
import Derived.Laws.BitsAllLaws
import Derived.Laws.IdiomStrings
import Derived.BigQuiet
import Derived.Deep.QuietTactic
import Derived.Deep.DeepCutAuto
import Derived.Deep.RegionHeld3
import Derived.Deep.DrawnRows
import Derived.Lib.Hide
import Derived.Outline
import Derived.Deep.DeepMust
import Derived.Handy
namespace Go.Proofs.Ytoeaakadpillnaa
open Go.RowKit
set_option linter.unusedVariables false
set_option linter.unusedSimpArgs false

/-- Are two views the same? -/
def sameV (o1 n1 : Nat) (xs : List Nat) (o2 n2 : Nat) (ys : List Nat) : Bool := decide (o1 = o2) && decide (n1 = n2) && decide (xs = ys)

set_option maxHeartbeats 4000000 in
set_option maxRecDepth 100000 in
theorem same_any (o1 n1 o2 n2 : Nat) (s1 s2 : Value) (xs ys : List Nat) (w : World) (h1 : NumsAt w s1 xs) (h2 : NumsAt w s2 ys) :
    Calls Try.prog 32 #[viewV o1 n1 s1, viewV o2 n2 s2] w fun e w' => e = .returned (.bool (sameV o1 n1 xs o2 n2 ys)) ∧ Below w.heap.size w w' := by
  have HB2 := Lib.hid (((Below.refl w.heap.size w).alloc (Nat.le_refl _) (.cells #[.int .u64 o1, .int .u64 n1, s1] 50)).alloc (by simp) (.cells #[.int .u64 o2, .int .u64 n2, s2] 50))
  have B1 := Lib.hid (heap_keep (o := .cells #[.int .u64 o2, .int .u64 n2, s2] 50) (heap_alloc_new w (.cells #[.int .u64 o1, .int .u64 n1, s1] 50)))
  have B2 := Lib.hid (heap_alloc_new (w.alloc (.cells #[.int .u64 o1, .int .u64 n1, s1] 50)) (.cells #[.int .u64 o2, .int .u64 n2, s2] 50))
  have N1 := Lib.hid (h1.below HB2.out)
  have N2 := Lib.hid (h2.below HB2.out)
  obtain ⟨A1, cp1, rfl, r1, r2, r3, r4⟩ := h1
  obtain ⟨A2, cp2, rfl, t1, t2, t3, t4⟩ := h2
  unfold maxLen at r2 t2
  clear r3 r4 t3 t4
  obtain ⟨n, hn⟩ : ∃ n, n = xs.length := ⟨_, rfl⟩
  obtain ⟨m, hm⟩ : ∃ m, m = ys.length := ⟨_, rfl⟩
  simp only [← hn, ← hm] at r1 t1 N1 N2 B1 B2 HB2 ⊢
  have HNn := Lib.hid hn
  have HMm := Lib.hid hm
  clear hn hm
  go_enter Try.func32, Try.ntmps32
  by_cases ho : o1 = o2
  · have hoi : (o1 : Int) = (o2 : Int) := by omega
    clear hoi
    subst ho
    by_cases hx : n1 = n2
    · subst hx
      by_cases hl : n = m
      · subst hl
        go_wp2_with fail
        have hgl1 : w.heap.size < w.heap.size + 2 := by omega
        have x1 : _ = some (Value.slice A1 n cp1) := blk_cell B1.out 2
        have x2 : _ = some (Value.slice A2 n cp2) := blk_cell B2.out 2
        rw [show (w.alloc (.cells #[.int .u64 o1, .int .u64 n1, .slice A1 n cp1] 50)).heap.size = w.heap.size + 1 by simp] at x2
        have HS : ((w.alloc (.cells #[.int .u64 o1, .int .u64 n1, .slice A1 n cp1] 50)).alloc (.cells #[.int .u64 o1, .int .u64 n1, .slice A2 n cp2] 50)).heap.size = w.heap.size + 2 := by simp
        generalize (w.alloc (.cells #[.int .u64 o1, .int .u64 n1, .slice A1 n cp1] 50)).alloc (.cells #[.int .u64 o1, .int .u64 n1, .slice A2 n cp2] 50) = W2 at *
        clear B1 B2
        go_loopw [5] (fun s5 wr => ∃ i : Nat, s5 = .int .i64 i ∧ i ≤ n ∧ Below W2.heap.size W2 wr ∧ Hid (∀ j (h : j < xs.length) (h2 : j < ys.length), j < i → xs[j] = ys[j])) (fun v _ => n - (intOf v).toNat)
        case atStart => exact ⟨0, rfl, Nat.zero_le _, Below.refl _ _, fun j h h2 h0 => absurd h0 (Nat.not_lt_zero j)⟩
        case round =>
          obtain ⟨i, rfl, hi, hB, hO⟩ := hrel
          have HB := Lib.hid hB
          have y1 := keep_cell hB x1
          have y2 := keep_cell hB x2
          have hsz := hB.size
          by_cases hc : i < n
          · have hci : (i : Int) < (n : Int) := by omega
            obtain ⟨A1', cp1', e1, u1, u2, u3, u4⟩ := N1.out
            injection e1 with e1 e2 e3
            subst e1 e3
            obtain ⟨b1, f1, rfl, hb1, hcell1⟩ := u4 (by omega)
            obtain ⟨A2', cp2', e1, v1, v2, v3, v4⟩ := N2.out
            injection e1 with e1 e4 e3
            subst e1 e3
            obtain ⟨b2, f2, rfl, hb2, hcell2⟩ := v4 (by omega)
            have hix : i < xs.length := by rw [← HNn.out]; exact hc
            have hiy : i < ys.length := by rw [← HMm.out]; exact hc
            have z1 := keep_cell hB (hcell1 i hix)
            have z2 := keep_cell hB (hcell2 i hiy)
            have HX := Lib.hid (show ∀ j (h : j < xs.length) (h2 : j < ys.length), j < i + 1 → xs[i]'hix = ys[i]'hiy → xs[j] = ys[j] by
              intro j hj hj3 hj2 hne
              by_cases e : j = i
              · subst e; exact hne
              · exact hO.out j hj hj3 (by omega))
            have HV : Hid (¬ xs[i]'hix = ys[i]'hiy → sameV o1 n1 xs o1 n1 ys = false) := by
              show _ → _
              intro hne
              unfold sameV
              rw [decide_eq_false (show ¬ xs = ys from fun e => hne (by subst e; rfl))]
              simp
            have q1 : (0 : Int) ≤ (i : Int) := by omega
            have k1 := ext_cell y1 (show w.heap.size < wr.heap.size by omega)
            have k2 := ext_cell y2 (show w.heap.size + 1 < wr.heap.size by omega)
            have k3 := ext_cell z1 (Nat.lt_of_lt_of_le hb1 hsz)
            have k4 := ext_cell z2 (Nat.lt_of_lt_of_le hb2 hsz)
            clear hcell1 hcell2 u4 v4 u3 v3 N1 N2 x1 x2 hB e2 e4 u1 u2 v1 v2
            generalize xs[i]'hix = X1 at *
            generalize ys[i]'hiy = X2 at *
            by_cases hXY : X1 = X2
            · subst hXY
              go_upto_region 6 with fail
              refine wp_region_ext wr.heap.size (by kernel_rfl) (by kernel_rfl) ?_
              repeat (go_big_quiet_step (fail))
              refine wpQuiet_nil ?_
              rintro _ ⟨X, rfl⟩
              have HX2 := Lib.hid X.below
              go_wp2_with fail
              go_roundw
              case rel => exact ⟨i + 1, by go_num, by omega, below_trans2 HB.out HX2.out, fun j h h2 h3 => HX.out j h h2 h3 rfl⟩
              case measure => simp [intOf] <;> omega
            · have hXYi : ¬ (X1 : Int) = (X2 : Int) := by omega
              have HVf := Lib.hid (HV.out hXY)
              clear hXY HV
              go_upto_region 6 with fail
              refine wp_region_ext wr.heap.size (by kernel_rfl) (by kernel_rfl) ?_
              repeat (go_big_quiet_step (fail))
              refine wpQuiet_nil ?_
              rintro _ ⟨X, rfl⟩
              have HX2 := Lib.hid X.below
              go_wp2_with fail
              (try simp only [Exit.inBlock, Exit.then]); refine bodyPost_ret (results_tmp rfl _ _ _) rfl ?_
              exact ⟨by rw [HVf.out]; rfl, OthersKept.below HB2.out (OthersKept.of_below (p := fun _ => False) (below_trans2 HB.out HX2.out)) (fun _ _ h => h)⟩
          · have hci : ¬ (i : Int) < (n : Int) := by omega
            have HVt : Hid (sameV o1 n1 xs o1 n1 ys = true) := by
              show _ = _
              have e : xs = ys := by
                refine List.ext_getElem (by rw [← HNn.out, ← HMm.out]) (fun j h h2 => hO.out j h h2 (by have := HNn.out; omega))
              unfold sameV
              rw [decide_eq_true e]
              simp
            clear hB
            go_wp2_with fail
            go_ret
            exact ⟨by rw [HVt.out]; rfl, OthersKept.below HB2.out (OthersKept.of_below (p := fun _ => False) HB.out) (fun _ _ h => h)⟩
      · have hli : ¬ (n : Int) = (m : Int) := by omega
        have HV : sameV o1 n1 xs o1 n1 ys = false := by unfold sameV; rw [decide_eq_false (show ¬ xs = ys from fun e => hl (by rw [HNn.out, HMm.out, e]))]; simp
        go_wp2_with fail
        go_ret
        exact ⟨by rw [HV]; rfl, HB2.out⟩
    · have hxi : ¬ (n1 : Int) = (n2 : Int) := by omega
      have HV : sameV o1 n1 xs o1 n2 ys = false := by unfold sameV; rw [decide_eq_false hx]; simp
      go_wp2_with fail
      go_ret
      exact ⟨by rw [HV]; rfl, HB2.out⟩
  · have hoi : ¬ (o1 : Int) = (o2 : Int) := by omega
    have HV : sameV o1 n1 xs o2 n2 ys = false := by unfold sameV; rw [decide_eq_false ho]; simp
    go_wp2_with fail
    go_ret
    exact ⟨by rw [HV]; rfl, HB2.out⟩

end Go.Proofs.Ytoeaakadpillnaa
