/- chapters 06, 08: what rows weigh; more of a page than a statement looks at; chapter 08: are two lists of texts the same -/
import Derived.Test.YtienlhnbmobinaaRows
import Derived.Test.YtienlhnbmobinaaTextsP
import Derived.WalkKit
import Derived.WalkLawsBesides
import Derived.WalkSpells
import Derived.LoopTactic
import Derived.WalkMore
import Derived.LoopN
import Derived.Laws.BitsAllLaws
import Derived.Laws.IdiomStrings
import Derived.BigQuiet
import Derived.Deep.QuietTactic
import Derived.Deep.DeepCutAuto
import Derived.Deep.RegionHeld3
import Derived.Deep.DrawnRows
import Derived.Lib.Hide
import Derived.Outline
import Derived.Deep.DeepMust
import Derived.Handy
namespace Go.Proofs.Ytienlhnbmobinaa
open Go.RowKit
set_option linter.unusedVariables false
set_option linter.unusedSimpArgs false

set_option maxHeartbeats 2000000 in
set_option maxRecDepth 100000 in
theorem heavy06_any (p : Pg) (sv : Value) (w : World) (ht : TextsAt w sv p.rows) (hz : ∀ r ∈ p.rows, r.length ≤ 140737488351232) :
    Calls Try.prog 15 #[pgV p sv] w fun e w' => e = .returned (.bool (decide (4096 < heavyB p.rows))) ∧ Below w.heap.size w w' := by
  obtain ⟨kind, level, id, lsn, next, rows⟩ := p
  obtain ⟨A, cp, rfl, h2, h3, h4, h5⟩ := ht
  simp only at *
  obtain ⟨n, hn⟩ : ∃ n, n = rows.length := ⟨_, rfl⟩
  rw [← hn] at h2
  unfold pgV
  simp only [← hn]
  unfold maxLen at h3
  have H5 := Lib.hid h5
  have HN := Lib.hid hn
  have HZ := Lib.hid hz
  have HL : Hid (∀ i, heavyB (rows.take i) ≤ heavyB rows) := fun i => heavyB_take_le rows i
  clear h5 h4 hn hz
  generalize hH : decide (4096 < heavyB rows) = b
  have HB : Hid (decide (4096 < heavyB rows) = b) := hH
  clear hH
  go_enter Try.func15, Try.ntmps15
  go_wp2_with fail
  go_loopw [3, 4] (fun s3 s4 wr => ∃ i : Nat, s4 = .int .i64 i ∧ i ≤ n ∧ wr = w.alloc (.cells #[.int .u8 kind, .int .u8 level, .int .u32 id, .int .u64 lsn, .int .u32 next, .slice A n cp] 26) ∧ s3 = .int .i64 (heavyB (rows.take i) : Nat) ∧ heavyB (rows.take i) ≤ 140737488355500) (fun _ v _ => n - (intOf v).toNat)
  case atStart => exact ⟨0, rfl, Nat.zero_le _, rfl, rfl, by simp [heavyB]⟩
  case round =>
    obtain ⟨i, rfl, hi, rfl, rfl, hle⟩ := hrel
    by_cases hc : i < n
    · have hci : (i : Int) < (n : Int) := by omega
      by_cases hm : heavyB (rows.take i) ≤ 4096
      · have hmi : (heavyB (rows.take i) : Int) ≤ 4096 := by omega
        have hix : i < rows.length := by rw [← HN.out]; exact hc
        obtain ⟨b0, o0, rfl, hb0, hcell⟩ := H5.out (by omega)
        have c1 := (Below.cell ((Below.refl w.heap.size w).alloc (Nat.le_refl _) (.cells #[.int .u8 kind, .int .u8 level, .int .u32 id, .int .u64 lsn, .int .u32 next, .slice (some ⟨b0, o0, none⟩) n cp] 26)) (show (⟨b0, o0 + i, none⟩ : Addr).block < w.heap.size from hb0)).trans (hcell i hix)
        have q1 : (0 : Int) ≤ (i : Int) := by omega
        have hw1 := heavyB_take rows i hix
        have hw2 := HZ.out _ (List.getElem_mem hix)
        obtain ⟨s, hs⟩ : ∃ s : ByteArray, s = ⟨rows[i].toArray⟩ := ⟨_, rfl⟩
        have hsz : s.size = rows[i].length := by rw [hs]; simp [ByteArray.size]
        rw [← hs] at c1
        rw [← hsz] at hw1 hw2
        have HW := Lib.hid hw1
        clear hcell hs hsz hw1
        generalize heavyB (rows.take i) = W at *
        go_wp2_with fail
        go_roundw
        case rel => exact ⟨i + 1, by go_num, by omega, by first | rfl | trivial, by rw [HW.out]; go_num, by rw [HW.out]; omega⟩
        case measure => simp [intOf] <;> omega
      · have hmi : ¬ (heavyB (rows.take i) : Int) ≤ 4096 := by omega
        have HT : Hid (b = true) := by show _ = _; rw [← HB.out]; have := HL.out i; exact decide_eq_true (by omega)
        generalize heavyB (rows.take i) = W at *
        go_wp2_with fail
        go_ret
        exact ⟨ret_bool (by rw [HT.out]; (try simp); (try omega)), (Below.refl _ _).alloc (Nat.le_refl _) _⟩
    · have hci : ¬ (i : Int) < (n : Int) := by omega
      have hin : rows.take i = rows := by rw [List.take_of_length_le]; rw [← HN.out]; omega
      have HT : Hid (b = decide ((4096 : Int) < (heavyB (rows.take i) : Nat))) := by show _ = _; rw [← HB.out, hin]; apply decide_eq_decide.2; omega
      clear hin
      generalize heavyB (rows.take i) = W at *
      go_wp2_with fail
      go_ret
      exact ⟨ret_bool (by rw [HT.out]), (Below.refl _ _).alloc (Nat.le_refl _) _⟩

theorem weight_heavy (rows : List (List UInt8)) : weightB rows = heavyB rows + 3 * rows.length ∧ rows.length ≤ heavyB rows := by
  induction rows with
  | nil => exact ⟨rfl, Nat.le_refl _⟩
  | cons r rs ih =>
    obtain ⟨h1, h2⟩ := ih
    unfold weightB heavyB at *
    simp only [List.map_cons, List.sum_cons, List.length_cons]
    omega

end Go.Proofs.Ytienlhnbmobinaa

namespace Go.Proofs.Ytienlhnbmobinaa
open Go.RowKit
set_option linter.unusedVariables false
set_option linter.unusedSimpArgs false

theorem take_eq_succ (a b : List (List UInt8)) (i : Nat) (h1 : i < a.length) (h2 : i < b.length) (h : a.take i = b.take i) (he : a[i] = b[i]) : a.take (i + 1) = b.take (i + 1) := by
  rw [List.take_succ_eq_append_getElem h1, List.take_succ_eq_append_getElem h2, h, he]

set_option maxHeartbeats 2000000 in
set_option maxRecDepth 100000 in
theorem refTexts_any (sv tv : Value) (xs ys : List (List UInt8)) (w : World) (ha : TextsAt w sv xs) (hb : TextsAt w tv ys) :
    Calls Try.prog 24 #[sv, tv] w fun e w' => e = .returned (.bool (decide (xs = ys))) ∧ Below w.heap.size w w' := by
  obtain ⟨A, cp, rfl, h2, h3, h4, h5⟩ := ha
  obtain ⟨B, cq, rfl, k2, k3, k4, k5⟩ := hb
  obtain ⟨n, hn⟩ : ∃ n, n = xs.length := ⟨_, rfl⟩
  obtain ⟨m, hm⟩ : ∃ m, m = ys.length := ⟨_, rfl⟩
  rw [← hn] at h2
  rw [← hm] at k2
  simp only [← hn, ← hm]
  unfold maxLen at h3 k3
  have H5 := Lib.hid h5
  have K5 := Lib.hid k5
  have HN := Lib.hid hn
  have KN := Lib.hid hm
  have HE : Hid (n ≠ m → decide (xs = ys) = false) := fun h => decide_eq_false (fun e => h (by rw [HN.out, KN.out, e]))
  have HD : Hid (∀ i (h1 : i < xs.length) (h2 : i < ys.length), xs[i] ≠ ys[i] → decide (xs = ys) = false) := fun i h1 h2 h => decide_eq_false (fun e => h (by subst e; rfl))
  have HT : Hid (n = m → xs.take n = ys.take n → decide (xs = ys) = true) := fun h e => decide_eq_true (by
    rw [List.take_of_length_le (by rw [HN.out]; exact Nat.le_refl _), List.take_of_length_le (by rw [h, KN.out]; exact Nat.le_refl _)] at e
    exact e)
  clear h5 k5 h4 k4 hn hm
  generalize decide (xs = ys) = r at HE HD HT ⊢
  go_enter Try.func24, Try.ntmps24
  by_cases hnm : n = m
  · subst hnm
    go_wp2_with fail
    go_loopw [5] (fun s5 wr => ∃ i : Nat, s5 = .int .i64 i ∧ i ≤ n ∧ Hid (Below w.heap.size w wr) ∧ Hid (xs.take i = ys.take i)) (fun v _ => n - (intOf v).toNat)
    case atStart => exact ⟨0, rfl, Nat.zero_le _, Lib.hid (Below.refl _ _), Lib.hid (by simp)⟩
    case round =>
      obtain ⟨i, rfl, hi, hB, hT⟩ := hrel
      by_cases hc : i < n
      · have hci : (i : Int) < (n : Int) := by omega
        have hia : i < xs.length := by rw [← HN.out]; exact hc
        have hib : i < ys.length := by rw [← KN.out]; exact hc
        obtain ⟨b0, o0, rfl, _, hcell⟩ := H5.out (by omega)
        obtain ⟨b1, o1, rfl, _, kcell⟩ := K5.out (by omega)
        have c1 := keep_cell hB.out (hcell i hia)
        have c2 := keep_cell hB.out (kcell i hib)
        have q1 : (0 : Int) ≤ (i : Int) := by omega
        have HS := Lib.hid (take_eq_succ xs ys i hia hib hT.out)
        have HX := Lib.hid (HD.out i hia hib)
        clear hcell kcell
        generalize xs[i] = x at *
        generalize ys[i] = y at *
        by_cases hxy : x = y
        · have e3 : (x == y) = true := by simpa using hxy
          have e4 : (!x == y) = false := by rw [e3]; rfl
          have HS2 := Lib.hid (HS.out hxy)
          clear hxy
          go_wp2_with fail
          go_region
          all_goals (go_wp2_with fail)
          exact ⟨⟨i + 1, by go_num, by omega, Lib.hid hB.out.drew, HS2⟩, by simp [intOf] <;> omega⟩
        · have hne : x ≠ y := hxy
          have e3 : (x == y) = false := by simpa using hne
          have e4 : (!x == y) = true := by rw [e3]; rfl
          have e := Lib.hid (HX.out hne)
          clear hxy hne
          go_wp2_with fail
          go_region
          all_goals (go_wp2_with fail)
          (try simp only [Exit.inBlock, Exit.then]); refine bodyPost_ret (results_tmp rfl _ _ _) rfl ?_
          exact ⟨ret_bool e.out.symm, hB.out.drew⟩
      · have hci : ¬ (i : Int) < (n : Int) := by omega
        have hin : i = n := by omega
        have hT2 := hT.out
        rw [hin] at hT2
        have e := Lib.hid (HT.out (by first | rfl | trivial) hT2)
        clear hT2 hin
        go_wp2_with fail
        go_ret
        exact ⟨ret_bool e.out.symm, hB.out⟩
  · have hnmi : ¬ (n : Int) = (m : Int) := by omega
    have e := Lib.hid (HE.out hnm)
    go_wp2_with fail
    go_ret
    exact ⟨ret_bool e.out.symm, Below.refl _ _⟩

end Go.Proofs.Ytienlhnbmobinaa
