/- chapter 24: slices.DeleteFunc. -/
import Derived.Test.YtoeaakadpillnaaRows
import Derived.Test.YtoeaakadpillnaaViewOut
import Derived.Test.YtoeaakadpillnaaViewSame
import Derived.Test.YtoeaakadpillnaaViewSees
import Derived.Test.YtoeaakadpillnaaViewNums
import Derived.Test.YtoeaakadpillnaaSortUTop
import Derived.Test.YtoeaakadpillnaaLockRef
import Derived.Test.YtoeaakadpillnaaKept
import Derived.Test.YtoeaakadpillnaaQuietTail
import Derived.Test.YtoeaakadpillnaaAppAny
import Derived.Deep.LoopGhost
import Derived.Deep.CutBlock
import Derived.Lib.SliceRun
import Derived.WalkKit
import Derived.WalkLawsBesides
import Derived.WalkSpells
import Derived.LoopTactic
import Derived.WalkMore
import Derived.LoopN
import Derived.Laws.BitsAllLaws
import Derived.Laws.IdiomStrings
import Derived.BigQuiet
import Derived.Deep.QuietTactic
import Derived.Deep.DeepCutAuto
import Derived.Deep.RegionHeld3
import Derived.Deep.DrawnRows
import Derived.Lib.Hide
import Derived.Outline
import Derived.Deep.DeepMust
import Derived.Handy
namespace Go.Proofs.Ytoeaakadpillnaa
open Go.RowKit
set_option linter.unusedVariables false
set_option linter.unusedSimpArgs false

theorem take_set_succ (d : Array Nat) (i x : Nat) (hi : i < d.size) : (d.setIfInBounds i x).toList.take (i + 1) = d.toList.take i ++ [x] := by
  rw [Array.toList_setIfInBounds, List.take_set, List.take_succ_eq_append_getElem (by simpa using hi), List.set_append_right _ _ (by rw [List.length_take]; exact Nat.min_le_left _ _)]
  simp
  rw [Nat.min_eq_left (Nat.le_of_lt hi)]
  simp
theorem filter_take_succ (p : Nat → Bool) (d : Array Nat) (j : Nat) (hj : j < d.size) : (d.toList.take (j + 1)).filter p = (d.toList.take j).filter p ++ (if p d[j]! then [d[j]!] else []) := by
  rw [List.take_succ_eq_append_getElem (by simpa using hj), List.filter_append]
  congr 1
  have : d.toList[j]'(by simpa using hj) = d[j]! := by simp [hj]
  rw [this]
  simp [List.filter_cons]

set_option maxHeartbeats 4000000 in
set_option maxRecDepth 100000 in
theorem deleteFunc_u64 (base n : Nat) (v : Value) (xs : List Nat) (bn bo own next : Nat) (w : World) (hn : n ≤ 1000000) (h : w.ownsRow base 27 1 v n (nums xs)) (hbn : bn < base) (hbo : bo < base)
    (h1 : w.cell? ⟨bn, 0, none⟩ = some (.int .u64 next)) (h2 : w.cell? ⟨bo, 0, none⟩ = some (.int .u64 own)) :
    Calls Try.prog 61 #[v, outF bn bo] w fun e w' => ∃ v', e = .returned v' ∧ ∃ m, m ≤ n ∧ w'.ownsRow base 27 1 v' m (nums (xs.filter fun x => !outV own next x)) ∧ OthersKept w w' (fun k => base ≤ k) := by
  obtain ⟨hN, hlen⟩ := nums_own h
  have IX := Lib.hid (indexFunc_u64 v xs bn bo own next w hN h1 h2)
  have H := Lib.hid h
  obtain ⟨b, cp, rfl, r1, r2, r3⟩ := own_form h
  unfold maxLen at r2
  have HNN := Lib.hid hN
  have HL := Lib.hid hlen
  clear hN h hlen
  go_enter Try.func61, Try.ntmps61
  go_wp2_with fail
  refine IX.out.mono ?_
  rintro e w1 ⟨k, rfl, hk, rfl⟩
  rcases hk with ⟨rfl, hall⟩ | ⟨i0, rfl, hi0, ht, hbef⟩
  · have HF := Lib.hid (show xs.filter (fun x => !outV own next x) = xs from List.filter_eq_self.2 (fun x hx => by rw [hall x hx]; rfl))
    clear hall
    go_wp2_with fail
    go_ret
    exact ⟨_, rfl, n, Nat.le_refl _, by rw [HF.out]; exact H.out, OthersKept.of_below (Below.refl _ _)⟩
  · obtain ⟨g, rfl, hbg⟩ := r3 (by have := HL.out; omega)
    have hR : RowU w1 base g n cp xs.toArray := ⟨by simpa using HL.out, by simpa using H.out⟩
    have hi0n : i0 < n := by have := HL.out; omega
    have h0i : ¬ (i0 : Int) = -1 := by omega
    have h0b : ((i0 : Int) == -1) = false := by simp
    have e1 : bn ≠ g := by omega
    have e2 : bo ≠ g := by omega
    have OUT := Lib.hid fun W x (hK : OthersKept w1 W (fun k => k = g)) => out_any bn bo own next x W (hK.cell h1 e1) (hK.cell h2 e2)
    have HS0 : Hid (xs.toArray.toList.take i0 = (xs.toArray.toList.take (i0 + 1)).filter fun x => !outV own next x) := by
      show _ = _
      rw [filter_take_succ _ _ _ (by simpa using hi0)]
      have e3 : xs.toArray[i0]! = xs[i0] := by simp [hi0]
      rw [e3, ht]
      simp only [Bool.not_true, Bool.false_eq_true, if_false, List.append_nil]
      refine (List.filter_eq_self.2 (fun x hx => ?_)).symm
      obtain ⟨j, hj, rfl⟩ := List.getElem_of_mem hx
      simp at hj
      have := hbef j (by omega) (by omega)
      simp [this]
    generalize hd : xs.toArray = d at *
    have HD := Lib.hid hd
    have HR := Lib.hid hR
    clear ht hbef hd hR h1 h2 r3 hi0
    go_wp2_with fail
    go_loopw [5, 6] (fun s5 s6 wr => ∃ (i j : Nat) (dk : Array Nat), s5 = .int .i64 i ∧ s6 = .int .i64 j ∧ i < j ∧ j ≤ n ∧ RowU wr base g n cp dk ∧ OthersKept w1 wr (fun k => k = g) ∧ Hid (dk.toList.take i = (d.toList.take j).filter fun x => !outV own next x) ∧ Hid (∀ t, j ≤ t → dk[t]! = d[t]!)) (fun _ vj _ => n - (intOf vj).toNat)
    case atStart => exact ⟨i0, i0 + 1, d, rfl, by go_num, by omega, by omega, HR.out, OthersKept.of_below (Below.refl _ _), HS0, fun _ _ => rfl⟩
    case round =>
      obtain ⟨i, j, dk, rfl, rfl, hij, hjn, hR, hK, hS, hT⟩ := hrel
      have HR2 := Lib.hid hR
      have HK2 := Lib.hid hK
      by_cases hc : j < n
      · have hci : (j : Int) < (n : Int) := by omega
        have c1 := hR.cell j hc
        have c2 := hR.cell i (by omega)
        have f2 := hR.frozen i
        have q1 : (0 : Int) ≤ (j : Int) := by omega
        have q3 : (0 : Int) ≤ (i : Int) := by omega
        have q4 : (i : Int) < (n : Int) := by omega
        have hds : j < d.size := by rw [HR.out.size]; exact hc
        have hdks : i < dk.size := by rw [hR.size]; omega
        have STEP := Lib.hid (filter_take_succ (fun x => !outV own next x) d j hds)
        have SET := Lib.hid (fun x => take_set_succ dk i x hdks)
        have SETR := Lib.hid (fun x => hR.set i x (by omega))
        have HJ := Lib.hid (hT.out j (Nat.le_refl _))
        have HO := Lib.hid (fun (x t : Nat) (ht : j + 1 ≤ t) => (Go.Sort.getElem!_set_other dk i t x (show t ≠ i by omega)).trans (hT.out t (by omega)))
        have HO2 := Lib.hid (fun (t : Nat) (ht : j + 1 ≤ t) => hT.out t (by omega))
        clear hR hT
        rw [← HJ.out] at STEP
        clear HJ
        generalize dk[j]! = y at *
        generalize dk[i]! = z at *
        go_wp2_with fail
        refine (OUT.out wr y hK).mono ?_
        rintro e w2 ⟨rfl, rfl⟩
        clear hK
        cases ht : outV own next y with
        | true =>
          have HS3 : Hid (dk.toList.take i = (d.toList.take (j + 1)).filter fun x => !outV own next x) := by
            show _ = _
            have := STEP.out
            rw [ht] at this
            rw [this, ← hS.out]
            simp
          clear ht hS STEP
          go_wp2_with fail
          go_roundw
          case rel => exact ⟨i, j + 1, dk, rfl, by go_num, by omega, by omega, HR2.out, HK2.out, HS3, HO2.out⟩
          case measure => simp [intOf] <;> omega
        | false =>
          have HS3 : Hid ((dk.setIfInBounds i y).toList.take (i + 1) = (d.toList.take (j + 1)).filter fun x => !outV own next x) := by
            show _ = _
            have := STEP.out
            rw [ht] at this
            rw [this, SET.out, ← hS.out]
            simp
          clear ht hS STEP
          go_wp2_with fail
          go_roundw
          case rel => exact ⟨i + 1, j + 1, _, by go_num, by go_num, by omega, by omega, SETR.out y, HK2.out.trans (OthersKept.of_grown (p := fun k => k = g) (g := g) (grown_set (grown_refl _ _)) rfl) (fun _ _ h => h), HS3, HO.out y⟩
          case measure => simp [intOf] <;> omega
      · obtain rfl : j = n := by omega
        have hci : ¬ (j : Int) < (j : Int) := by omega
        obtain ⟨d', C1, C2, C3⟩ := hR.clear (j - i) i dk _ (by omega)
        have hcl := fun ty => Lib.run_clear_slice (P := Try.prog) wr 35 27 ty (.int .u64 0) Try.underlying35 zero_u64 rfl rfl g i (j - i) (cp - i) (by omega) (fun t ht => by rw [hR.cell (i + t) (by omega)]; rfl) (fun t ht => hR.frozen (i + t))
        have HC1 := Lib.hid C1
        have HC3 := Lib.hid C3
        have hd's := C1.size
        have HL2 : Hid (d'.toList.take i = (d.toList).filter fun x => !outV own next x) := by
          show _ = _
          have e1 : d.toList.take j = d.toList := List.take_of_length_le (by simp [HR.out.size])
          have := hS.out
          rw [e1] at this
          rw [← this]
          refine List.ext_getElem? (fun t => ?_)
          rw [List.getElem?_take, List.getElem?_take]
          split
          · rename_i ht
            have h3 := C2 t ht
            have s1 : t < d'.size := by omega
            have s2 : t < dk.size := by have := hR.size; omega
            rw [getElem!_pos d' t s1, getElem!_pos dk t s2] at h3
            rw [Array.getElem?_toList, Array.getElem?_toList, Array.getElem?_eq_getElem s1, Array.getElem?_eq_getElem s2, h3]
          · rfl
        clear hK hR C1 C2 C3 hd's hS hT
        go_wp2_with fail
        go_ret
        refine ⟨_, rfl, i, by omega, ?_, (HK2.out.trans HC3.out (fun _ _ h => h)).mono (fun k h => by subst h; exact hbg)⟩
        have hcut := HC1.out.cut i (by omega)
        rw [HL2.out, ← HD.out] at hcut
        exact hcut

end Go.Proofs.Ytoeaakadpillnaa
