/- chapter 08: the key at a place; chapter 08: the binary search; chapter 08: where a key is -/
import Derived.Test.YtjcfnfpilladfaaRows
import Derived.Test.YtjcfnfpilladfaaNodeCheck
import Derived.Test.YtjcfnfpilladfaaPlains
import Derived.WalkKit
import Derived.WalkLawsBesides
import Derived.WalkSpells
import Derived.LoopTactic
import Derived.WalkMore
import Derived.LoopN
import Derived.Laws.BitsAllLaws
import Derived.Laws.IdiomStrings
import Derived.BigQuiet
import Derived.Deep.QuietTactic
import Derived.Deep.DeepCutAuto
import Derived.Deep.RegionHeld3
import Derived.Deep.DrawnRows
import Derived.Lib.Hide
import Derived.Outline
import Derived.Deep.DeepMust
import Derived.Handy
namespace Go.Proofs.Ytjcfnfpilladfaa
open Go.RowKit
set_option linter.unusedVariables false
set_option linter.unusedSimpArgs false

set_option maxHeartbeats 2000000 in
set_option maxRecDepth 100000 in
theorem nodeKey_any (p : Pg) (sv : Value) (i : Int) (w : World) (hp : p.wf) (ht : TextsAt w sv p.rows) (hb : weightB p.rows ≤ 1000000) (hi0 : -9223372036854775808 ≤ i) (hi1 : i ≤ 9223372036854775807) :
    Calls Try.prog 39 #[pgV p sv, .int .i64 i] w fun e w' => e = .returned (.tuple #[.string ⟨(keyAtB p i).1.toArray⟩, .int .i64 (keyAtB p i).2]) ∧ Below w.heap.size w w' := by
  have CK := Lib.hid fun W (h : TextsAt W sv p.rows) => nodeCheck_any p sv W hp h hb
  have HT := Lib.hid ht
  have HWt : Hid (∀ i (h : i < p.rows.length), p.rows[i].length ≤ 1000000) := fun i h => by have := weightB_mem (List.getElem_mem h); omega
  have hnb : p.rows.length ≤ 1000000 := by have := weightB_length p.rows; omega
  obtain ⟨n, hn⟩ : ∃ n, n = p.rows.length := ⟨_, rfl⟩
  obtain ⟨A, cp, hsv, h2, h3, h4, h5⟩ := ht
  rw [← hn] at hsv h2 hnb
  subst hsv
  have H5 := Lib.hid h5
  have R1 : Hid (checkB p = false → keyAtB p i = ([], 7)) := fun h => by unfold keyAtB; rw [h]; rfl
  have R2 : Hid (checkB p = true → ¬ (0 ≤ i ∧ i < p.rows.length) → keyAtB p i = ([], 3)) := fun h h0 => by unfold keyAtB; rw [if_pos h, if_neg h0]
  have R3 : Hid (checkB p = true → ∀ j : Nat, i = j → ∀ h : j < p.rows.length, (p.kind = 1 ∨ p.kind = 2) ∧ ∃ k, keyB p.kind p.rows[j] = some k ∧ keyAtB p i = (k, 0)) := fun h j hj hl => by
    obtain ⟨ks, hk⟩ := Option.isSome_iff_exists.1 (Bool.and_eq_true_iff.1 h).1
    obtain ⟨hs, _, hg, _⟩ := keysB_get hk
    refine ⟨by have := shape_kind hs; omega, _, hg j hl, ?_⟩
    unfold keyAtB
    rw [if_pos h, if_pos (by omega), hk, hj]
    rfl
  generalize hc : checkB p = c at *
  generalize keyAtB p i = R at *
  clear hc h4 h5
  unfold pgV at *
  obtain ⟨kind, level, id, lsn, next, rows⟩ := p
  clear hp hb
  have HN := Lib.hid hn
  clear hn
  simp only at *
  unfold maxLen at h3
  have X0 := Lib.hid (PgBox.new w kind level id lsn next (.slice A n cp))
  have B0 := Lib.hid (alloc_below w (.cells #[.int .u8 kind, .int .u8 level, .int .u32 id, .int .u64 lsn, .int .u32 next, .slice A n cp] 45))
  go_enter Try.func39, Try.ntmps39
  go_wp2_with fail
  generalize w.alloc (.cells #[.int .u8 kind, .int .u8 level, .int .u32 id, .int .u64 lsn, .int .u32 next, .slice A n cp] 45) = w0 at *
  have T0 := Lib.hid (HT.out.below B0.out)
  refine (CK.out _ T0.out).mono ?_
  rintro e w1 ⟨rfl, hb1⟩
  have B1 := Lib.hid (below_then B0.out hb1)
  obtain ⟨x0, x1, x2, x3, x4, x5, x6⟩ := (X0.out.below hb1).cells
  clear hb1
  cases c with
  | false =>
    have HR := Lib.hid (R1.out rfl)
    unfold chkN
    go_wp2_with fail
    go_ret2
    exact ⟨by have h := HR.out; subst h; rfl, B1.out⟩
  | true =>
    unfold chkN
    by_cases ha : i < 0
    · have HR := Lib.hid (R2.out rfl (by omega))
      go_wp2_with fail
      go_ret2
      exact ⟨by have h := HR.out; subst h; rfl, B1.out⟩
    · by_cases hb : i < n
      · obtain ⟨j, rfl⟩ : ∃ j : Nat, i = j := ⟨i.toNat, by omega⟩
        have hj : j < rows.length := by rw [← HN.out]; omega
        obtain ⟨hk12, k, hk, hR⟩ := R3.out rfl j rfl hj
        have HR := Lib.hid hR
        have HS := Lib.hid (HWt.out j hj)
        obtain ⟨b0, o0, rfl, hb0, hcell⟩ := H5.out (by omega)
        have c1 := keep_cell B1.out (hcell j hj)
        have q1 : (0 : Int) ≤ (j : Int) := by omega
        clear hcell hR hi0 hi1
        generalize rows[j] = r at *
        have CV := Lib.hid fun W => keyOf_any kind ⟨r.toArray⟩ W hk12 (by simpa [ByteArray.size] using HS.out)
        rw [show (⟨r.toArray⟩ : ByteArray).data.toList = r from rfl, hk] at CV
        unfold keyV at CV
        clear hk hk12
        go_wp2_with fail
        have e0 := ext_cell c1 (cell_lt c1)
        have e1 := ext_cell x1 x0
        have e2 := ext_cell x6 x0
        refine wp_region_ext w1.heap.size (by kernel_rfl) (by kernel_rfl) ?_
        repeat (go_big_quiet_step ((go_at_call 82; exact ext_call _ (Nat.le_refl _) (CV.out _))))
        refine wpQuiet_nil ?_
        rintro _ ⟨x, rfl⟩
        have B2 := Lib.hid (below_then B1.out x.below)
        go_wp2_with fail
        go_ret2
        exact ⟨by have h := HR.out; subst h; rfl, B2.out⟩
      · have HR := Lib.hid (R2.out rfl (by rw [← HN.out]; omega))
        go_wp2_with fail
        go_ret2
        exact ⟨by have h := HR.out; subst h; rfl, B1.out⟩

set_option maxHeartbeats 2000000 in
set_option maxRecDepth 100000 in
theorem refKey_any (p : Pg) (sv : Value) (i : Int) (w : World) (hp : p.wf) (ht : TextsAt w sv p.rows) (hb : weightB p.rows ≤ 1000000) (hi0 : -9223372036854775808 ≤ i) (hi1 : i ≤ 9223372036854775807) :
    Calls Try.prog 40 #[pgV p sv, .int .i64 i] w fun e w' => e = .returned (.tuple #[.string ⟨(keyAtB p i).1.toArray⟩, .int .i64 (keyAtB p i).2]) ∧ Below w.heap.size w w' := by
  have CK := Lib.hid fun W (h : TextsAt W sv p.rows) => refCheck_any p sv W hp h hb
  have HT := Lib.hid ht
  have HWt : Hid (∀ i (h : i < p.rows.length), p.rows[i].length ≤ 1000000) := fun i h => by have := weightB_mem (List.getElem_mem h); omega
  have hnb : p.rows.length ≤ 1000000 := by have := weightB_length p.rows; omega
  obtain ⟨n, hn⟩ : ∃ n, n = p.rows.length := ⟨_, rfl⟩
  obtain ⟨A, cp, hsv, h2, h3, h4, h5⟩ := ht
  rw [← hn] at hsv h2 hnb
  subst hsv
  have H5 := Lib.hid h5
  have R1 : Hid (checkB p = false → keyAtB p i = ([], 7)) := fun h => by unfold keyAtB; rw [h]; rfl
  have R2 : Hid (checkB p = true → ¬ (0 ≤ i ∧ i < p.rows.length) → keyAtB p i = ([], 3)) := fun h h0 => by unfold keyAtB; rw [if_pos h, if_neg h0]
  have R3 : Hid (checkB p = true → ∀ j : Nat, i = j → ∀ h : j < p.rows.length, (p.kind = 1 ∨ p.kind = 2) ∧ ∃ k, keyB p.kind p.rows[j] = some k ∧ keyAtB p i = (k, 0)) := fun h j hj hl => by
    obtain ⟨ks, hk⟩ := Option.isSome_iff_exists.1 (Bool.and_eq_true_iff.1 h).1
    obtain ⟨hs, _, hg, _⟩ := keysB_get hk
    refine ⟨by have := shape_kind hs; omega, _, hg j hl, ?_⟩
    unfold keyAtB
    rw [if_pos h, if_pos (by omega), hk, hj]
    rfl
  generalize hc : checkB p = c at *
  generalize keyAtB p i = R at *
  clear hc h4 h5
  unfold pgV at *
  obtain ⟨kind, level, id, lsn, next, rows⟩ := p
  clear hp hb
  have HN := Lib.hid hn
  clear hn
  simp only at *
  unfold maxLen at h3
  have X0 := Lib.hid (PgBox.new w kind level id lsn next (.slice A n cp))
  have B0 := Lib.hid (alloc_below w (.cells #[.int .u8 kind, .int .u8 level, .int .u32 id, .int .u64 lsn, .int .u32 next, .slice A n cp] 45))
  go_enter Try.func40, Try.ntmps40
  go_wp2_with fail
  generalize w.alloc (.cells #[.int .u8 kind, .int .u8 level, .int .u32 id, .int .u64 lsn, .int .u32 next, .slice A n cp] 45) = w0 at *
  have T0 := Lib.hid (HT.out.below B0.out)
  refine (CK.out _ T0.out).mono ?_
  rintro e w1 ⟨rfl, hb1⟩
  have B1 := Lib.hid (below_then B0.out hb1)
  obtain ⟨x0, x1, x2, x3, x4, x5, x6⟩ := (X0.out.below hb1).cells
  clear hb1
  cases c with
  | false =>
    have HR := Lib.hid (R1.out rfl)
    unfold chkN
    go_wp2_with fail
    go_ret2
    exact ⟨by have h := HR.out; subst h; rfl, B1.out⟩
  | true =>
    unfold chkN
    by_cases ha : i < 0
    · have HR := Lib.hid (R2.out rfl (by omega))
      go_wp2_with fail
      go_ret2
      exact ⟨by have h := HR.out; subst h; rfl, B1.out⟩
    · by_cases hb : i < n
      · obtain ⟨j, rfl⟩ : ∃ j : Nat, i = j := ⟨i.toNat, by omega⟩
        have hj : j < rows.length := by rw [← HN.out]; omega
        obtain ⟨hk12, k, hk, hR⟩ := R3.out rfl j rfl hj
        have HR := Lib.hid hR
        have HS := Lib.hid (HWt.out j hj)
        obtain ⟨b0, o0, rfl, hb0, hcell⟩ := H5.out (by omega)
        have c1 := keep_cell B1.out (hcell j hj)
        have q1 : (0 : Int) ≤ (j : Int) := by omega
        clear hcell hR hi0 hi1
        generalize rows[j] = r at *
        have CV := Lib.hid fun W => refKeyOf_any kind ⟨r.toArray⟩ W hk12 (by simpa [ByteArray.size] using HS.out)
        rw [show (⟨r.toArray⟩ : ByteArray).data.toList = r from rfl, hk] at CV
        unfold keyW at CV
        clear hk hk12
        go_wp2_with fail
        have e0 := ext_cell c1 (cell_lt c1)
        have e1 := ext_cell x1 x0
        have e2 := ext_cell x6 x0
        refine wp_region_ext w1.heap.size (by kernel_rfl) (by kernel_rfl) ?_
        repeat (go_big_quiet_step ((go_at_call 83; exact ext_call _ (Nat.le_refl _) (CV.out _))))
        refine wpQuiet_nil ?_
        rintro _ ⟨x, rfl⟩
        have B2 := Lib.hid (below_then B1.out x.below)
        go_wp2_with fail
        go_ret2
        exact ⟨by have h := HR.out; subst h; rfl, B2.out⟩
      · have HR := Lib.hid (R2.out rfl (by rw [← HN.out]; omega))
        go_wp2_with fail
        go_ret2
        exact ⟨by have h := HR.out; subst h; rfl, B1.out⟩

end Go.Proofs.Ytjcfnfpilladfaa

namespace Go.Proofs.Ytjcfnfpilladfaa
open Go.RowKit
set_option linter.unusedVariables false
set_option linter.unusedSimpArgs false

open Go.Lib (compareBytes)
theorem rising_before {ks : List (List UInt8)} (hp : ks.Pairwise (fun a b => compareBytes a b < 0)) {k : List UInt8} {t m : Nat} (htm : t ≤ m) (hm : m < ks.length) (h : compareBytes ks[m] k < 0) : compareBytes ks[t] k < 0 := by
  rcases Nat.lt_or_eq_of_le htm with h1 | h1
  · have h2 := List.pairwise_iff_getElem.1 hp t m (by omega) hm h1
    have h3 := cmp_trans _ _ _ (Int.le_of_lt h2) (Int.le_of_lt h)
    rcases Int.lt_or_eq_of_le h3 with h4 | h4
    · exact h4
    · have h5 := (cmp_zero _ _).1 h4
      rw [← h5, cmp_neg] at h
      omega
  · subst h1; exact h
set_option maxHeartbeats 2000000 in
set_option maxRecDepth 100000 in
theorem bsearch_any (ks : List (List UInt8)) (k : List UInt8) (sv : Value) (w : World) (ht : TextsAt w sv ks) (hp : ks.Pairwise (fun a b => compareBytes a b < 0)) (hnb : ks.length ≤ 1000000) :
    Calls Try.prog 84 #[sv, .string ⟨k.toArray⟩, .func (.func 85) #[] #[]] w fun e w' => e = .returned (.tuple #[.int .i64 (findN ks k : Nat), .bool (findIs ks k)]) ∧ w = w' := by
  obtain ⟨A, cp, rfl, h2, h3, h4, h5⟩ := ht
  unfold maxLen at h3
  have H5 := Lib.hid h5
  have HP := Lib.hid hp
  obtain ⟨n, hn⟩ : ∃ n, n = ks.length := ⟨_, rfl⟩
  rw [← hn] at h2 hnb
  simp only [← hn]
  have HN := Lib.hid hn
  have CC := Lib.hid fun (x : List UInt8) W => keyCompare_any ⟨x.toArray⟩ ⟨k.toArray⟩ W
  have HF : Hid (∀ m, m ≤ ks.length → (∀ t (h : t < ks.length), t < m → compareBytes ks[t] k < 0) → (∀ h : m < ks.length, 0 ≤ compareBytes ks[m] k) → findN ks k = m) := fun m => findN_eq
  have HI1 : Hid (∀ h : findN ks k < ks.length, findIs ks k = decide (compareBytes ks[findN ks k] k = 0)) := fun h => findIs_eq h
  have HI2 : Hid (¬ findN ks k < ks.length → findIs ks k = false) := fun h => findIs_end h
  clear h4 h5 hp hn
  generalize findN ks k = F at *
  generalize findIs ks k = I at *
  go_enter Try.func84, Try.ntmps84
  go_wp2_with fail
  go_loopg [9, 10] n (fun kx s9 s10 wr => ∃ lo hi : Nat, s9 = .int .i64 lo ∧ s10 = .int .i64 hi ∧ lo ≤ hi ∧ hi ≤ n ∧ hi - lo ≤ kx ∧ wr = w ∧ Hid ((∀ t (h : t < ks.length), t < lo → compareBytes ks[t] k < 0) ∧ (∀ t (h : t < ks.length), hi ≤ t → 0 ≤ compareBytes ks[t] k)))
  case atStart => exact ⟨0, n, rfl, rfl, Nat.zero_le _, Nat.le_refl _, by omega, rfl, Lib.hid ⟨fun t h ht => absurd ht (Nat.not_lt_zero _), fun t h ht => by have := HN.out; omega⟩⟩
  case round =>
    obtain ⟨lo, hi, rfl, rfl, hlh, hin, hg, rfl, I1⟩ := hrel
    by_cases hlt : lo < hi
    · have hm : (lo + hi) / 2 < ks.length := by rw [← HN.out]; omega
      obtain ⟨b0, o0, rfl, hb0, hcell⟩ := H5.out (by omega)
      have cm := hcell ((lo + hi) / 2) hm
      have HB := Lib.hid (fun t h => rising_before HP.out (k := k) (t := t) h hm)
      have I2 : Hid (compareBytes ks[(lo + hi) / 2] k < 0 → ((∀ t (h : t < ks.length), t < (lo + hi) / 2 + 1 → compareBytes ks[t] k < 0) ∧ (∀ t (h : t < ks.length), hi ≤ t → 0 ≤ compareBytes ks[t] k))) := fun h => ⟨fun t h1 h2 => HB.out t (by omega) h, I1.out.2⟩
      have I3 : Hid (¬ compareBytes ks[(lo + hi) / 2] k < 0 → ((∀ t (h : t < ks.length), t < lo → compareBytes ks[t] k < 0) ∧ (∀ t (h : t < ks.length), (lo + hi) / 2 ≤ t → 0 ≤ compareBytes ks[t] k))) := fun h => ⟨I1.out.1, fun t h1 h2 => Int.not_lt.1 fun h3 => h (rising_before HP.out h2 h1 h3)⟩
      have C := Lib.hid (CC.out ks[(lo + hi) / 2])
      clear hcell HB
      generalize ks[(lo + hi) / 2] = y at *
      generalize compareBytes y k = c at *
      by_cases hyx : c < 0
      · have I4 := Lib.hid (I2.out hyx)
        go_wp2_with fail
        refine (C.out _).mono ?_
        rintro e w2 ⟨rfl, rfl⟩
        go_wp2_with fail
        go_roundg (hi - ((lo + hi) / 2 + 1))
        case measure => omega
        case rel => exact ⟨(lo + hi) / 2 + 1, hi, by rw [show ((lo : Int) + (hi : Int)) / 2 + 1 = (((lo + hi) / 2 + 1 : Nat) : Int) by omega], rfl, by omega, hin, Nat.le_refl _, rfl, I4⟩
      · have I4 := Lib.hid (I3.out (by omega))
        go_wp2_with fail
        refine (C.out _).mono ?_
        rintro e w2 ⟨rfl, rfl⟩
        go_wp2_with fail
        go_roundg ((lo + hi) / 2 - lo)
        case measure => omega
        case rel => exact ⟨lo, (lo + hi) / 2, rfl, by rw [show ((lo : Int) + (hi : Int)) / 2 = (((lo + hi) / 2 : Nat) : Int) by omega], by omega, by omega, Nat.le_refl _, rfl, I4⟩
    · obtain rfl : hi = lo := by omega
      obtain rfl : F = hi := HF.out hi (by rw [← HN.out]; omega) (fun t h => I1.out.1 t h) (fun h => I1.out.2 hi h (Nat.le_refl _))
      by_cases hn : F < n
      · have hm : F < ks.length := by rw [← HN.out]; omega
        obtain ⟨b0, o0, rfl, hb0, hcell⟩ := H5.out (by omega)
        have cm := hcell F hm
        have HI := Lib.hid (HI1.out hm)
        have C := Lib.hid (CC.out ks[F])
        clear hcell
        generalize ks[F] = y at *
        generalize compareBytes y k = c at *
        go_wp2_with fail
        refine (C.out _).mono ?_
        rintro e w2 ⟨rfl, rfl⟩
        go_wp2_with fail
        go_ret2
        exact ⟨by rw [HI.out]; rfl, rfl⟩
      · have HI := Lib.hid (HI2.out (by rw [← HN.out]; omega))
        go_wp2_with fail
        go_ret2
        exact ⟨by rw [HI.out]; rfl, rfl⟩

end Go.Proofs.Ytjcfnfpilladfaa

namespace Go.Proofs.Ytjcfnfpilladfaa
open Go.RowKit
set_option linter.unusedVariables false
set_option linter.unusedSimpArgs false

open Go.Lib (compareBytes)
theorem check_keys {p : Pg} (h : checkB p = true) : ∃ ks, keysB p = some ks ∧ nodeShape p.kind p.level p.rows.length = true ∧ ks.length = p.rows.length ∧ (∀ i (h : i < p.rows.length), keyB p.kind p.rows[i] = some (ks.getD i [])) ∧ ks.Pairwise (fun a b => compareBytes a b < 0) := by
  obtain ⟨ks, hk⟩ := Option.isSome_iff_exists.1 (Bool.and_eq_true_iff.1 h).1
  exact ⟨ks, hk, keysB_get hk⟩
theorem key_le {p : Pg} {ks : List (List UInt8)} (hb : weightB p.rows ≤ 1000000) (h : keysB p = some ks) : ∀ q ∈ ks, q.length ≤ 1000000 := fun q hq => by
  obtain ⟨t, ht, rfl⟩ := List.getElem_of_mem hq
  obtain ⟨_, h1, h2, _⟩ := keysB_get h
  have h3 := keyB_len (h2 t (by omega))
  have h4 := weightB_mem (List.getElem_mem (l := p.rows) (n := t) (by omega))
  rw [show ks.getD t [] = ks[t] by rw [List.getD_eq_getElem?_getD, List.getElem?_eq_getElem ht]; rfl] at h3
  omega
set_option maxHeartbeats 2000000 in
set_option maxRecDepth 100000 in
theorem nodeFind_any (p : Pg) (sv : Value) (k : List UInt8) (w : World) (hp : p.wf) (ht : TextsAt w sv p.rows) (hb : weightB p.rows ≤ 1000000) :
    Calls Try.prog 41 #[pgV p sv, .string ⟨k.toArray⟩] w fun e w' => e = .returned (.tuple #[.int .i64 ((findB p k).1 : Nat), .bool (findB p k).2]) ∧ Below w.heap.size w w' := by
  have CK := Lib.hid fun W (h : TextsAt W sv p.rows) => nodeCheck_any p sv W hp h hb
  have CS := Lib.hid fun W (h : TextsAt W sv p.rows) => nodeKeys_any p sv W hp h hb
  have HT := Lib.hid ht
  have R1 : Hid (checkB p = false → findB p k = (0, false)) := fun h => by unfold findB; rw [h]; rfl
  have R2 : Hid (checkB p = true → ∃ ks, keysB p = some ks ∧ findB p k = (findN ks k, findIs ks k) ∧ ks.Pairwise (fun a b => compareBytes a b < 0) ∧ ks.length ≤ 1000000) := fun h => by
    obtain ⟨ks, hk, _, hl, _, hp⟩ := check_keys h
    refine ⟨ks, hk, ?_, hp, by have := weightB_length p.rows; omega⟩
    unfold findB
    rw [h, hk]
    rfl
  generalize hc : checkB p = c at *
  generalize findB p k = R at *
  generalize keysB p = K at *
  clear hc
  unfold pgV at *
  obtain ⟨kind, level, id, lsn, next, rows⟩ := p
  clear hp hb ht
  simp only at *
  have X0 := Lib.hid (PgBox.new w kind level id lsn next sv)
  have B0 := Lib.hid (alloc_below w (.cells #[.int .u8 kind, .int .u8 level, .int .u32 id, .int .u64 lsn, .int .u32 next, sv] 45))
  go_enter Try.func41, Try.ntmps41
  go_wp2_with fail
  generalize w.alloc (.cells #[.int .u8 kind, .int .u8 level, .int .u32 id, .int .u64 lsn, .int .u32 next, sv] 45) = w0 at *
  have T0 := Lib.hid (HT.out.below B0.out)
  refine (CK.out _ T0.out).mono ?_
  rintro e w1 ⟨rfl, hb1⟩
  have B1 := Lib.hid (below_then B0.out hb1)
  have T1 := Lib.hid (T0.out.below hb1)
  obtain ⟨x0, x1, x2, x3, x4, x5, x6⟩ := (X0.out.below hb1).cells
  clear hb1
  cases c with
  | false =>
    have HR := Lib.hid (R1.out rfl)
    unfold chkN
    go_wp2_with fail
    go_ret2
    exact ⟨by have h := HR.out; subst h; rfl, B1.out⟩
  | true =>
    unfold chkN
    obtain ⟨ks, hk, hR, hP, hl⟩ := R2.out rfl
    have HR := Lib.hid hR
    have HP := Lib.hid hP
    subst hk
    clear hR hP
    go_wp2_with fail
    refine (CS.out _ T1.out).mono ?_
    rintro e w2 ⟨v, rfl, ho, hb2⟩
    have HO := Lib.hid (texts_own ho).1
    have B2 := Lib.hid (below_then B1.out hb2)
    clear hb2 ho x0 x1 x2 x3 x4 x5 x6
    have CB := Lib.hid (bsearch_any ks k v w2 HO.out HP.out hl)
    go_wp2_with fail
    refine CB.out.mono ?_
    rintro e w3 ⟨rfl, rfl⟩
    go_wp2_with fail
    go_ret2
    exact ⟨by have h := HR.out; subst h; rfl, B2.out⟩
set_option maxHeartbeats 2000000 in
set_option maxRecDepth 100000 in
theorem refFind_any (p : Pg) (sv : Value) (k : List UInt8) (w : World) (hp : p.wf) (ht : TextsAt w sv p.rows) (hb : weightB p.rows ≤ 1000000) (hk1 : k.length ≤ 1000000) :
    Calls Try.prog 42 #[pgV p sv, .string ⟨k.toArray⟩] w fun e w' => e = .returned (.tuple #[.int .i64 ((findB p k).1 : Nat), .bool (findB p k).2]) ∧ Below w.heap.size w w' := by
  have CK := Lib.hid fun W (h : TextsAt W sv p.rows) => refCheck_any p sv W hp h hb
  have CS := Lib.hid fun W (h : TextsAt W sv p.rows) => refKeys_any p sv W hp h hb
  have HT := Lib.hid ht
  have R1 : Hid (checkB p = false → findB p k = (0, false)) := fun h => by unfold findB; rw [h]; rfl
  have R2 : Hid (checkB p = true → ∃ ks, keysB p = some ks ∧ findB p k = (findN ks k, findIs ks k) ∧ ks.length ≤ 1000000 ∧ ∀ q ∈ ks, q.length ≤ 1000000) := fun h => by
    obtain ⟨ks, hk, _, hl, _, hp⟩ := check_keys h
    refine ⟨ks, hk, ?_, by have := weightB_length p.rows; omega, key_le hb hk⟩
    unfold findB
    rw [h, hk]
    rfl
  generalize hc : checkB p = c at *
  generalize findB p k = R at *
  generalize keysB p = K at *
  clear hc
  unfold pgV at *
  obtain ⟨kind, level, id, lsn, next, rows⟩ := p
  clear hp hb ht
  simp only at *
  have X0 := Lib.hid (PgBox.new w kind level id lsn next sv)
  have B0 := Lib.hid (alloc_below w (.cells #[.int .u8 kind, .int .u8 level, .int .u32 id, .int .u64 lsn, .int .u32 next, sv] 45))
  go_enter Try.func42, Try.ntmps42
  go_wp2_with fail
  generalize w.alloc (.cells #[.int .u8 kind, .int .u8 level, .int .u32 id, .int .u64 lsn, .int .u32 next, sv] 45) = w0 at *
  have T0 := Lib.hid (HT.out.below B0.out)
  refine (CK.out _ T0.out).mono ?_
  rintro e w1 ⟨rfl, hb1⟩
  have B1 := Lib.hid (below_then B0.out hb1)
  have T1 := Lib.hid (T0.out.below hb1)
  obtain ⟨x0, x1, x2, x3, x4, x5, x6⟩ := (X0.out.below hb1).cells
  clear hb1
  cases c with
  | false =>
    have HR := Lib.hid (R1.out rfl)
    unfold chkN
    go_wp2_with fail
    go_ret2
    exact ⟨by have h := HR.out; subst h; rfl, B1.out⟩
  | true =>
    unfold chkN
    obtain ⟨ks, hk, hR, hl, hP⟩ := R2.out rfl
    have HR := Lib.hid hR
    have HP := Lib.hid hP
    subst hk
    clear hR hP
    go_wp2_with fail
    refine (CS.out _ T1.out).mono ?_
    rintro e w2 ⟨v, rfl, ho, hb2⟩
    have HO := (texts_own ho).1
    have B2 := Lib.hid (below_then B1.out hb2)
    clear hb2 ho x0 x1 x2 x3 x4 x5 x6
    simp only [Option.getD_some] at HO
    obtain ⟨n, hn⟩ : ∃ n, n = ks.length := ⟨_, rfl⟩
    obtain ⟨A, cp, hsv, h2, h3, h4, h5⟩ := HO
    rw [← hn] at hsv h2 hl
    subst hsv
    unfold maxLen at h3
    have H5 := Lib.hid h5
    have HN := Lib.hid hn
    have HF1 : Hid (findN ks k ≤ ks.length) := findN_le ks k
    have HF2 : Hid (∀ t (h : t < ks.length), t < findN ks k → compareBytes ks[t] k < 0) := fun t h => findN_lt h
    have HF3 : Hid (∀ h : findN ks k < ks.length, 0 ≤ compareBytes ks[findN ks k] k) := fun h => findN_at h
    have HI1 : Hid (∀ h : findN ks k < ks.length, findIs ks k = decide (compareBytes ks[findN ks k] k = 0)) := fun h => findIs_eq h
    have HI2 : Hid (¬ findN ks k < ks.length → findIs ks k = false) := fun h => findIs_end h
    have hf : findN ks k ≤ n := by rw [hn]; exact HF1.out
    clear h4 h5 hn
    generalize findN ks k = F at *
    generalize findIs ks k = I at *
    go_wp2_with fail
    go_loopw [8] (fun s8 wr => ∃ i : Nat, s8 = .int .i64 i ∧ i ≤ F ∧ Hid (Below w2.heap.size w2 wr)) (fun v _ => n - (intOf v).toNat)
    case atStart => exact ⟨0, rfl, Nat.zero_le _, Lib.hid (Below.refl _ _)⟩
    case round =>
      obtain ⟨i, rfl, hi, hB⟩ := hrel
      by_cases hc : i < n
      · have hci : (i : Int) < (n : Int) := by omega
        have hm : i < ks.length := by rw [← HN.out]; omega
        obtain ⟨b0, o0, rfl, hb0, hcell⟩ := H5.out (by omega)
        have cm := keep_cell hB.out (hcell i hm)
        have q1 : (0 : Int) ≤ (i : Int) := by omega
        have G2 := Lib.hid (HF2.out i hm)
        have G3 : Hid (i = F → 0 ≤ compareBytes ks[i] k ∧ I = decide (compareBytes ks[i] k = 0)) := fun h => by subst h; exact ⟨HF3.out hm, HI1.out hm⟩
        have C := Lib.hid fun W => refCompare_below ⟨ks[i].toArray⟩ ⟨k.toArray⟩ W (by have := HP.out _ (List.getElem_mem hm); unfold maxLen; simp [ByteArray.size]; omega) (by unfold maxLen; simp [ByteArray.size]; omega)
        clear hcell
        generalize ks[i] = y at *
        generalize compareBytes y k = c at *
        by_cases hyx : 0 ≤ c
        · have hiF : i = F := by rcases Nat.lt_or_ge i F with h | h
                                 · have := G2.out h; omega
                                 · omega
          have HI := Lib.hid (G3.out hiF).2
          have HIF := Lib.hid hiF
          clear hiF
          go_wp2_with fail
          refine (C.out _).mono ?_
          rintro e w3 ⟨rfl, hb3⟩
          have B3 := Lib.hid (below_then B2.out (below_then hB.out hb3))
          clear hb3
          go_wp2_with fail
          (try simp only [Exit.inBlock, Exit.then])
          refine bodyPost_ret (results_tmp2 rfl _ _ _) rfl ?_
          exact ⟨by have h := HR.out; subst h; rw [HI.out, HIF.out]; rfl, B3.out⟩
        · have hiF : i < F := by rcases Nat.lt_or_ge i F with h | h
                                 · exact h
                                 · have := (G3.out (by omega)).1; omega
          go_wp2_with fail
          refine (C.out _).mono ?_
          rintro e w3 ⟨rfl, hb3⟩
          have B3 := Lib.hid (below_then hB.out hb3)
          clear hb3
          go_wp2_with fail
          go_roundw
          case rel => exact ⟨i + 1, by go_num, by omega, B3⟩
          case measure => simp [intOf]; omega
      · have hci : ¬ (i : Int) < (n : Int) := by omega
        have hiF : F = n := by omega
        have HI := Lib.hid (HI2.out (by rw [← HN.out]; omega))
        have B3 := Lib.hid (below_then B2.out hB.out)
        have HIF := Lib.hid hiF
        clear hiF
        go_wp2_with fail
        go_ret2
        exact ⟨by have h := HR.out; subst h; rw [HI.out, HIF.out]; rfl, B3.out⟩

end Go.Proofs.Ytjcfnfpilladfaa
