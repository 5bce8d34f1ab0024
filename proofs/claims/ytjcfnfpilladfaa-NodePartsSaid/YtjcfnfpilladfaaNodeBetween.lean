/- chapters 03, 08: Between by the document; in lists -/
import Derived.Test.YtjcfnfpilladfaaRows
import Derived.Test.YtjcfnfpilladfaaNodeKeysB
import Derived.Test.YtjcfnfpilladfaaPlains
import Derived.WalkKit
import Derived.WalkLawsBesides
import Derived.WalkSpells
import Derived.LoopTactic
import Derived.WalkMore
import Derived.LoopN
import Derived.Laws.BitsAllLaws
import Derived.Laws.IdiomStrings
import Derived.BigQuiet
import Derived.Deep.QuietTactic
import Derived.Deep.DeepCutAuto
import Derived.Deep.RegionHeld3
import Derived.Deep.DrawnRows
import Derived.Lib.Hide
import Derived.Outline
import Derived.Deep.DeepMust
import Derived.Handy
namespace Go.Proofs.Ytjcfnfpilladfaa
open Go.RowKit
set_option linter.unusedVariables false
set_option linter.unusedSimpArgs false

open Go.Lib (compareBytes)
theorem le_com {x y : List UInt8} : ∀ k, k ≤ x.length → k ≤ y.length → x.take k = y.take k → k ≤ com x y
  | 0, _, _, _ => Nat.zero_le _
  | k + 1, h1, h2, h => by
    have hx : k < x.length := h1
    have hy : k < y.length := h2
    rw [List.take_succ_eq_append_getElem hx, List.take_succ_eq_append_getElem hy] at h
    have h3 := List.append_inj' h rfl
    have ih := le_com k (Nat.le_of_lt hx) (Nat.le_of_lt hy) h3.1
    exact com_succ ih hx hy (by have := h3.2; injection this)
theorem btw_before {a b : List UInt8} {n : Nat} (h : n ≤ com a b) : compareBytes (b.take n) a ≤ 0 := by
  have h1 : b.take n = a.take n := by
    have := com_take a b
    have h2 : a.take n = (a.take (com a b)).take n := by rw [List.take_take, Nat.min_eq_left h]
    have h3 : b.take n = (b.take (com a b)).take n := by rw [List.take_take, Nat.min_eq_left h]
    rw [h2, h3, this]
  rw [h1]
  by_cases hd : a.drop n = []
  · have : a.take n = a := by conv => rhs; rw [← List.take_append_drop n a, hd, List.append_nil]
    rw [this, (cmp_zero a a).2 rfl]
    exact Int.le_refl 0
  · have := cmp_append (a.take n) (a.drop n) hd
    rw [List.take_append_drop] at this
    omega
theorem btw_at {a b : List UInt8} (h : compareBytes a b < 0) : 0 < compareBytes (b.take (com a b + 1)) a := by
  have hc := com_lt h
  have hl := (com_le a b).1
  have e1 : (b.take (com a b + 1)).length = com a b + 1 := by rw [List.length_take]; omega
  have h1 : com a b ≤ com (b.take (com a b + 1)) a := by
    refine le_com _ (by omega) hl ?_
    rw [List.take_take, Nat.min_eq_left (Nat.le_succ _), com_take]
  have h2 : com (b.take (com a b + 1)) a = com a b ∨ com a b < com (b.take (com a b + 1)) a := by omega
  rcases Nat.lt_or_ge (com a b) a.length with ha | ha
  · have hne : a[com a b] ≠ b[com a b] := by
      have := com_stop a b ha hc
      rw [List.getElem?_eq_getElem ha, List.getElem?_eq_getElem hc] at this
      exact fun e => this (by rw [e])
    have hlt : a[com a b] < b[com a b] := by
      rcases UInt8.lt_or_le a[com a b] b[com a b] with h3 | h3
      · exact h3
      · have h4 : b[com a b] < a[com a b] := by
          rcases UInt8.lt_or_eq_of_le h3 with h5 | h5
          · exact h5
          · exact absurd h5.symm hne
        have := cmp_more (Nat.le_refl _) ha hc h4
        omega
    have h5 := cmp_more (x := b.take (com a b + 1)) (y := a) h1 (by omega) ha (by rw [List.getElem_take]; exact hlt)
    omega
  · have h5 := cmp_end (x := b.take (com a b + 1)) (y := a) h1 (.inr ha)
    rw [h5, if_neg (by omega), if_pos (by omega)]
    omega
set_option maxHeartbeats 2000000 in
set_option maxRecDepth 100000 in
theorem refBetween_any (a b : List UInt8) (w : World) (ha : a.length ≤ 1000000) (hb : b.length ≤ 1000000) (h : compareBytes a b < 0) :
    Calls Try.prog 81 #[.string ⟨a.toArray⟩, .string ⟨b.toArray⟩] w fun e w' => e = .returned (.tuple #[.string ⟨(b.take (com a b + 1)).toArray⟩, .bool true]) ∧ Below w.heap.size w w' := by
  have C0 := Lib.hid fun W => refCompare_below ⟨a.toArray⟩ ⟨b.toArray⟩ W (by unfold maxLen; simp [ByteArray.size]; omega) (by unfold maxLen; simp [ByteArray.size]; omega)
  have C1 := Lib.hid fun (n : Nat) W => refCompare_below ⟨(b.take n).toArray⟩ ⟨a.toArray⟩ W (by unfold maxLen; simp [ByteArray.size]; omega) (by unfold maxLen; simp [ByteArray.size]; omega)
  have HB := Lib.hid fun n hn => btw_before (a := a) (b := b) (n := n) hn
  have HA := Lib.hid (btw_at h)
  have hc := com_lt h
  have hsb : (⟨b.toArray⟩ : ByteArray).size = b.length := by simp [ByteArray.size]
  have HX : Hid (∀ n, n ≤ b.length → (⟨b.toArray⟩ : ByteArray).extract 0 n = ⟨(b.take n).toArray⟩) := fun n hn => by
    apply ByteArray.ext
    apply Array.ext'
    simp
  generalize com a b = c at *
  obtain ⟨T, hT⟩ : ∃ T, T = b.take (c + 1) := ⟨_, rfl⟩
  rw [← hT]
  have HTe := Lib.hid hT
  clear hT
  have HH := Lib.hid h
  have HS := Lib.hid hsb
  clear hsb
  go_enter Try.func81, Try.ntmps81
  go_wp2_with fail
  refine (C0.out _).mono ?_
  rintro e w1 ⟨rfl, hb1⟩
  have B1 := Lib.hid hb1
  clear hb1
  simp only at *
  go_wp2_with fail
  go_loopw [6] (fun s6 wr => ∃ n : Nat, s6 = .int .i64 n ∧ n ≤ c + 1 ∧ Hid (Below w.heap.size w wr)) (fun v _ => (b.length + 1) - (intOf v).toNat)
  case atStart => exact ⟨0, rfl, Nat.zero_le _, B1⟩
  case round =>
    obtain ⟨n, rfl, hn, hB⟩ := hrel
    have hx := HX.out n (by omega)
    have q0 : (0 : Int) ≤ (n : Int) := by omega
    have q1 : (n : Int) ≤ (b.length : Int) := by omega
    have q2 : n ≤ b.length := by omega
    have CN := Lib.hid (C1.out n)
    by_cases hnc : n ≤ c
    · have hle := HB.out n hnc
      generalize b.take n = t at *
      generalize compareBytes t a = v at *
      have hv : ¬ 0 < v := by omega
      clear hle
      go_wp2_with fail
      refine (CN.out _).mono ?_
      rintro e w2 ⟨rfl, hb2⟩
      have B2 := Lib.hid (below_then hB.out hb2)
      clear hb2
      go_wp2_with fail
      go_roundw
      case rel => exact ⟨n + 1, by go_num, by omega, B2⟩
      case measure => simp [intOf]; omega
    · obtain rfl : n = c + 1 := by omega
      have hgt := HA.out
      rw [← HTe.out] at hgt hx CN
      generalize compareBytes T a = v at *
      go_wp2_with fail
      refine (CN.out _).mono ?_
      rintro e w2 ⟨rfl, hb2⟩
      have B2 := Lib.hid (below_then hB.out hb2)
      clear hb2
      go_wp2_with fail
      (try simp only [Exit.inBlock, Exit.then])
      refine bodyPost_ret (results_tmp2 rfl _ _ _) rfl ?_
      exact ⟨rfl, B2.out⟩
theorem keyBetween_l (a b : List UInt8) (w : World) (ha : a.length ≤ 1000000) (hb : b.length ≤ 1000000) (h : compareBytes a b < 0) :
    Calls Try.prog 77 #[.string ⟨a.toArray⟩, .string ⟨b.toArray⟩] w fun e w' => e = .returned (.tuple #[.string ⟨(b.take (com a b + 1)).toArray⟩, .bool true]) ∧ Below w.heap.size w w' := by
  have hl : Op.bytesLess (⟨a.toArray⟩ : ByteArray).toList (⟨b.toArray⟩ : ByteArray).toList = true := by
    have e1 : ∀ l : List UInt8, (⟨l.toArray⟩ : ByteArray).toList = l := fun l => by rw [ByteArray.toList_eq]
    rw [e1, e1, less_cmp]
    simpa using h
  have hx : (⟨b.toArray⟩ : ByteArray).extract 0 (com a b + 1) = ⟨(b.take (com a b + 1)).toArray⟩ := by
    apply ByteArray.ext
    apply Array.ext'
    simp
  refine (keyBetween_any ⟨a.toArray⟩ ⟨b.toArray⟩ w (by unfold maxLen; simp [ByteArray.size]; omega) (by unfold maxLen; simp [ByteArray.size]; omega) hl (by simpa [ByteArray.size] using com_lt h)).mono ?_
  rintro e w' ⟨rfl, m, rfl⟩
  refine ⟨?_, ⟨rfl, rfl, rfl, Nat.le_refl _, fun _ _ => rfl⟩⟩
  rw [show com (⟨a.toArray⟩ : ByteArray).data.toList (⟨b.toArray⟩ : ByteArray).data.toList = com a b from rfl, hx]

end Go.Proofs.Ytjcfnfpilladfaa
