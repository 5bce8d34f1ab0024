/- The document's locks: cut, Who, Let, Drop, Held; texts. -/
import Derived.Test.YtoeaakadpillnaaRows
import Derived.Test.YtoeaakadpillnaaLockRefTake
import Derived.Test.YtoeaakadpillnaaLockRef
import Derived.Test.YtoeaakadpillnaaLockOnePlain
import Derived.Test.YtoeaakadpillnaaLockActs
import Derived.Test.YtoeaakadpillnaaLockRest
import Derived.Test.YtoeaakadpillnaaLockHeld
import Derived.Test.YtoeaakadpillnaaLockWalks
import Derived.Test.YtoeaakadpillnaaKept
import Derived.Test.YtoeaakadpillnaaQuietTail
import Derived.Test.YtoeaakadpillnaaAppAny
import Derived.Deep.LoopGhost
import Derived.WalkKit
import Derived.WalkLawsBesides
import Derived.WalkSpells
import Derived.LoopTactic
import Derived.WalkMore
import Derived.LoopN
import Derived.Laws.BitsAllLaws
import Derived.Laws.IdiomStrings
import Derived.BigQuiet
import Derived.Deep.QuietTactic
import Derived.Deep.DeepCutAuto
import Derived.Deep.RegionHeld3
import Derived.Deep.DrawnRows
import Derived.Lib.Hide
import Derived.Outline
import Derived.Deep.DeepMust
import Derived.Handy
namespace Go.Proofs.Ytoeaakadpillnaa
open Go.RowKit
set_option linter.unusedVariables false
set_option linter.unusedSimpArgs false

theorem cut_at {T : Lk} (hT : T.Rising) {i : Nat} (hi : i < T.length) : cutL T T[i].1 = T.eraseIdx i := by
  induction T generalizing i with
  | nil => simp at hi
  | cons p r ih =>
    have hT' := List.pairwise_cons.1 hT
    cases i with
    | zero =>
      unfold cutL
      rw [List.getElem_cons_zero, List.filter_cons_of_neg (by simp), List.eraseIdx_cons_zero, List.filter_eq_self]
      intro x hx
      have := hT'.1 x hx
      have hne : ¬ x.1 = p.1 := fun e => by rw [e] at this; exact lt_irr _ this
      simp [hne]
    | succ i =>
      have hi' : i < r.length := by simpa using hi
      have := hT'.1 r[i] (List.getElem_mem hi')
      have hne : ¬ p.1 = r[i].1 := fun e => by rw [e] at this; exact lt_irr _ this
      rw [List.getElem_cons_succ, List.eraseIdx_cons_succ, ← ih hT'.2 hi']
      unfold cutL
      rw [List.filter_cons_of_pos (by simp [hne])]
theorem erase_rising {T : Lk} (hT : T.Rising) (i : Nat) : Lk.Rising (T.eraseIdx i) := List.Pairwise.sublist (List.eraseIdx_sublist _ _) hT

set_option maxHeartbeats 4000000 in
set_option maxRecDepth 100000 in
theorem rkCut (g : Nat) (vK vT : Value) (T : Lk) (i : Nat) (w : World) (hi : i < T.length) (h : RefLk w g vK vT T) :
    Calls Try.prog 60 #[.pointer (some ⟨g, 0, none⟩), .int .i64 i] w fun e w' => e = .returned (.tuple #[]) ∧ RefNow w w' g vK vT (T.eraseIdx i) := by
  have H := Lib.hid h
  obtain ⟨b, cp, rfl, hcp, hcm, _, _⟩ := h.keyForm
  obtain ⟨b2, cp2, rfl, hcp2, hcm2, _, _⟩ := h.txForm
  have hsm := h.small
  have hris := Lib.hid h.rising
  unfold maxLen at hcm hcm2
  have R1 := Lib.hid h.rows
  have c0 := h.rows.c0
  have hal := hi
  clear hi h
  obtain ⟨i0, hi, hz0, hz1, hz2⟩ := info_parts (P := Try.prog) (e := 9) (z := .string ⟨#[]⟩) (size := 1) (bytes := 16) (by kernel_rfl)
  obtain ⟨j0, ji, jz0, jz1, jz2⟩ := info_parts (P := Try.prog) (e := 27) (z := .int .u64 0) (size := 1) (bytes := 8) (by kernel_rfl)
  have v1 : IntKind.i64.wrap ((i : Int) + 1) = ((i + 1 : Nat) : Int) := by rw [show ((i + 1 : Nat) : Int) = (i : Int) + 1 by omega]; exact IntWalk.i64_in _ ⟨by omega, by omega⟩
  obtain ⟨r, hr⟩ : ∃ x, x = i + 1 := ⟨_, rfl⟩
  rw [← hr] at v1
  have HKS : Hid ((T.eraseIdx i).map (·.1) = (T.map (·.1)).take i ++ (T.map (·.1)).drop r) := by show _ = _; rw [hr, List.eraseIdx_eq_take_drop_succ]; simp [List.map_take, List.map_drop]
  have HTS : Hid ((T.eraseIdx i).map (·.2) = (T.map (·.2)).take i ++ (T.map (·.2)).drop r) := by show _ = _; rw [hr, List.eraseIdx_eq_take_drop_succ]; simp [List.map_take, List.map_drop]
  have HLE : Hid ((T.eraseIdx i).length ≤ 1024) := by show _ ≤ _; have := List.length_eraseIdx_le T i; omega
  obtain ⟨ks, hks⟩ : ∃ x, x = (T.eraseIdx i).map (·.1) := ⟨_, rfl⟩
  obtain ⟨ts, hts⟩ : ∃ x, x = (T.eraseIdx i).map (·.2) := ⟨_, rfl⟩
  rw [← hks] at HKS
  rw [← hts] at HTS
  have EK := Lib.hid hks
  have ET := Lib.hid hts
  clear hks hts
  have q0 : (0 : Int) ≤ (i : Int) := by omega
  have q2 : (i : Int) ≤ (cp : Int) := by omega
  have q3 : (i : Int) ≤ (cp2 : Int) := by omega
  have q4 : (0 : Int) ≤ (r : Int) := by omega
  have q5 : (r : Int) ≤ (T.length : Int) := by omega
  have hrl : r ≤ T.length := by omega
  have hir : i ≤ T.length := by omega
  have hir2 : i + (T.length - r) ≤ T.length := by omega
  clear hr hal
  have HKw := Lib.hid (OthersKept.of_below (p := fun x => x = g) (Below.refl w.heap.size w))
  have HSw := Lib.hid (Nat.le_refl w.heap.size)
  go_enter Try.func60, Try.ntmps60
  have DK : w.ownsRow 0 9 1 (.slice b T.length cp) T.length (strs (T.map (·.1))) := by have := R1.out.keys; rw [List.length_map] at this; exact this
  have FK := Lib.hid (reads_front DK i (by omega))
  have GK := Lib.hid (reads_back DK r (by omega))
  clear DK
  go_wp2_with (at_builtin; refine wpList_append_any _ rfl (.tmp 6) (.tmp 12) 36 rfl w.heap.size 9 i0 (.string ⟨#[]⟩) 1 16 Try.underlying36 hi hz0 hz1 hz2 rfl (by decide) (.slice none 0 0) (0) ([]) (by rfl) (World.ownsRow_nil _ _ _ _) (.slice b i cp) (i) ((strs (T.map (·.1))).take i) (by rfl) (FK.out) (fun u hu => strs_one _ u (List.mem_of_mem_take hu)) (by unfold maxLen; omega) (by omega) (Nat.le_refl _) ?_; intro v8 w8 ho hg; refine Aside.out ?_)
  have HO8 := Lib.hid ho
  have HB8 := Lib.hid (below_own (Below.refl _ _) (World.ownsRow_nil w w.heap.size 9 1) (Nat.le_refl _) hg)
  clear ho hg
  have c0 := (R1.out.below HB8.out).c0
  have c1 := (R1.out.below HB8.out).c1
  unfold Aside
  go_wp2_with (at_builtin; refine wpList_append_any _ rfl (.tmp 15) (.tmp 22) 36 rfl w.heap.size 9 i0 (.string ⟨#[]⟩) 1 16 Try.underlying36 hi hz0 hz1 hz2 rfl (by decide) v8 (0 + i) ([] ++ (strs (T.map (·.1))).take i) (by rfl) (HO8.out) (.slice (if cp = r then b else Option.map (fun x => x.add r) b) (T.length - r) (cp - r)) (T.length - r) ((strs (T.map (·.1))).drop r) (by rfl) (GK.out.below HB8.out) (fun u hu => strs_one _ u (List.mem_of_mem_drop hu)) (by unfold maxLen; omega) (by omega) (HB8.out.size) ?_; intro v11 w11 ho hg; refine Aside.out ?_)
  all_goals
    have HB11 := Lib.hid (below_own HB8.out HO8.out (Nat.le_refl _) hg)
    have hR : [] ++ (strs (T.map (·.1))).take i ++ (strs (T.map (·.1))).drop r = strs ks := by rw [HKS.out]; simp [strs, List.map_take, List.map_drop]
    have hN : 0 + i + (T.length - r) = ks.length := by rw [HKS.out]; simp; omega
    rw [hR, hN] at ho
    have HA11 := Lib.hid (R1.out.below HB11.out)
    have f11 := blk_frozen HA11.out.own 0
    have c0 := HA11.out.c0
    have c1 := HA11.out.c1
    have HRn := Lib.hid (HA11.out.setK ho (blk_lt R1.out.own))
    have HFK : Hid (∀ x, v11.ownBlock = some x → w.heap.size ≤ x) := by
      show ∀ x, _
      intro x hx
      have := (ho.lt x hx).1
      have := HSw.out
      omega
    obtain ⟨b11, cp11, rfl, _, _, _⟩ := own_form ho
    have HKn := Lib.hid ((HKw.out.trans (OthersKept.of_below (p := fun _ => False) HB11.out) (fun _ _ h => absurd h id)).trans (OthersKept.of_grown (p := fun x => x = g) (g := g) (grown_set (i := 0) (u := .slice b11 ks.length cp11) (grown_refl _ g)) rfl) (fun _ _ h => h))
    clear ho hg hR hN FK GK HO8 HB8
    generalize ks.length = NK at *
    unfold Aside
    go_wp2_with (at_builtin; refine Aside.out ?_)
    clear c0 c1 f11
    generalize w11.setCell ⟨g, 0, none⟩ (.slice b11 NK cp11) = w2 at *
    have R2 := Lib.hid HRn.out
    have HKw2 := Lib.hid HKn.out
    have HSw2 := Lib.hid HKn.out.size
    have c1 := R2.out.c1
    generalize b11 = bK, cp11 = cpK at *
    clear HA11 HB11 HRn HKn
    unfold Aside
    have DT : w2.ownsRow 0 27 1 (.slice b2 T.length cp2) T.length (nums (T.map (·.2))) := by have := R2.out.txs; rw [List.length_map] at this; exact this
    have FT := Lib.hid (reads_front DT i (by omega))
    have GT := Lib.hid (reads_back DT r (by omega))
    clear DT
    go_wp2_with (at_builtin; refine wpList_append_any _ rfl (.tmp 26) (.tmp 32) 35 rfl w2.heap.size 27 j0 (.int .u64 0) 1 8 Try.underlying35 ji jz0 jz1 jz2 rfl (by decide) (.slice none 0 0) (0) ([]) (by rfl) (World.ownsRow_nil _ _ _ _) (.slice b2 i cp2) (i) ((nums (T.map (·.2))).take i) (by rfl) (FT.out) (fun u hu => nums_one _ u (List.mem_of_mem_take hu)) (by unfold maxLen; omega) (by omega) (Nat.le_refl _) ?_; intro v8 w8 ho hg; refine Aside.out ?_)
    have HO8 := Lib.hid ho
    have HB8 := Lib.hid (below_own (Below.refl _ _) (World.ownsRow_nil w2 w2.heap.size 27 1) (Nat.le_refl _) hg)
    clear ho hg
    have c0 := (R2.out.below HB8.out).c0
    have c1 := (R2.out.below HB8.out).c1
    unfold Aside
    go_wp2_with (at_builtin; refine wpList_append_any _ rfl (.tmp 35) (.tmp 42) 35 rfl w2.heap.size 27 j0 (.int .u64 0) 1 8 Try.underlying35 ji jz0 jz1 jz2 rfl (by decide) v8 (0 + i) ([] ++ (nums (T.map (·.2))).take i) (by rfl) (HO8.out) (.slice (if cp2 = r then b2 else Option.map (fun x => x.add r) b2) (T.length - r) (cp2 - r)) (T.length - r) ((nums (T.map (·.2))).drop r) (by rfl) (GT.out.below HB8.out) (fun u hu => nums_one _ u (List.mem_of_mem_drop hu)) (by unfold maxLen; omega) (by omega) (HB8.out.size) ?_; intro v11 w11 ho hg; refine Aside.out ?_)
    all_goals
      have HB11 := Lib.hid (below_own HB8.out HO8.out (Nat.le_refl _) hg)
      have hR : [] ++ (nums (T.map (·.2))).take i ++ (nums (T.map (·.2))).drop r = nums ts := by rw [HTS.out]; simp [nums, List.map_take, List.map_drop]
      have hN : 0 + i + (T.length - r) = ts.length := by rw [HTS.out]; simp; omega
      rw [hR, hN] at ho
      have HA11 := Lib.hid (R2.out.below HB11.out)
      have f11 := blk_frozen HA11.out.own 1
      have c0 := HA11.out.c0
      have c1 := HA11.out.c1
      have HRn := Lib.hid (HA11.out.setT ho (blk_lt R2.out.own))
      have HFT : Hid (∀ x, v11.ownBlock = some x → w.heap.size ≤ x) := by
        show ∀ x, _
        intro x hx
        have := (ho.lt x hx).1
        have := HSw2.out
        omega
      obtain ⟨b11, cp11, rfl, _, _, _⟩ := own_form ho
      have HKn := Lib.hid ((HKw2.out.trans (OthersKept.of_below (p := fun _ => False) HB11.out) (fun _ _ h => absurd h id)).trans (OthersKept.of_grown (p := fun x => x = g) (g := g) (grown_set (i := 1) (u := .slice b11 ts.length cp11) (grown_refl _ g)) rfl) (fun _ _ h => h))
      clear ho hg hR hN FT GT HO8 HB8
      generalize ts.length = NT at *
      unfold Aside
      go_wp2_with fail
      go_end0
      exact ⟨rfl, _, _, ⟨by rw [← EK.out, ← ET.out]; exact HRn.out, erase_rising hris.out i, HLE.out⟩, HKn.out, fun x hx => .inr (HFK.out x hx), fun x hx => .inr (HFT.out x hx)⟩
theorem RefNow.trans {w w1 w2 : World} {g : Nat} {vK vT vK1 vT1 : Value} {T2 : Lk} (hK : OthersKept w w1 (fun k => k = g)) (h1 : ∀ x, vK1.ownBlock = some x → vK.ownBlock = some x ∨ w.heap.size ≤ x) (h2 : ∀ x, vT1.ownBlock = some x → vT.ownBlock = some x ∨ w.heap.size ≤ x) (h : RefNow w1 w2 g vK1 vT1 T2) : RefNow w w2 g vK vT T2 := by
  obtain ⟨a, b, hR, hK2, h3, h4⟩ := h
  refine ⟨a, b, hR, hK.trans hK2 (fun _ _ h => h), fun x hx => ?_, fun x hx => ?_⟩
  · rcases h3 x hx with h | h
    · exact h1 x h
    · exact .inr (Nat.le_trans hK.size h)
  · rcases h4 x hx with h | h
    · exact h2 x h
    · exact .inr (Nat.le_trans hK.size h)

set_option maxHeartbeats 2000000 in
set_option maxRecDepth 100000 in
theorem rkWho (g : Nat) (vK vT : Value) (T : Lk) (k : Bs) (w : World) (h : RefLk w g vK vT T) :
    Calls Try.prog 26 #[.pointer (some ⟨g, 0, none⟩), .string ⟨k.toArray⟩] w fun e w' => e = .returned (.int .u64 ((who T k).getD 0 : Nat)) ∧ Below w.heap.size w w' := by
  have AT := Lib.hid (rkAt g vK vT T k w h)
  have H := Lib.hid h
  have hris := h.rising
  obtain ⟨b2, cp2, rfl, hcp2, hcm2, hbb2, hcell2⟩ := h.txForm
  have hsm := h.small
  clear h
  cases hw : who T k with
  | none =>
    rw [hw] at AT
    clear hbb2 hcell2
    go_enter Try.func26, Try.ntmps26
    go_wp2_with fail
    refine AT.out.mono ?_
    rintro e w1 ⟨rfl, hb⟩
    have HX := Lib.hid hb
    go_wp2_with fail
    go_ret
    exact ⟨rfl, HX.out⟩
  | some t =>
    obtain ⟨hal, ht2⟩ := at_of_who hris hw
    obtain ⟨gt, rfl⟩ := hbb2 (by omega)
    rw [hw] at AT
    have T0 := Lib.hid (hcell2 _ hal gt rfl)
    rw [ht2] at T0
    clear hw ht2 hbb2 hcell2
    generalize atL T k = i at *
    have q0 : (0 : Int) ≤ (i : Int) := by omega
    have q1 : (i : Int) < (T.length : Int) := by omega
    go_enter Try.func26, Try.ntmps26
    go_wp2_with fail
    refine AT.out.mono ?_
    rintro e w1 ⟨rfl, hb⟩
    have HX := Lib.hid hb
    have c1 := (H.out.rows.below hb).c1
    have t0 := keep_cell hb T0.out
    clear hb
    go_wp2_with fail
    go_ret
    exact ⟨rfl, HX.out⟩

set_option maxHeartbeats 2000000 in
set_option maxRecDepth 100000 in
theorem rkLet (g : Nat) (vK vT : Value) (T : Lk) (tx : Nat) (k : Bs) (w : World) (h : RefLk w g vK vT T) :
    Calls Try.prog 24 #[.pointer (some ⟨g, 0, none⟩), .int .u64 (tx : Nat), .string ⟨k.toArray⟩] w fun e w' => e = .returned (.int .i64 (letL T tx k).2) ∧ RefNow w w' g vK vT (letL T tx k).1 := by
  have AT := Lib.hid (rkAt g vK vT T k w h)
  have H := Lib.hid h
  have hris := h.rising
  obtain ⟨b2, cp2, rfl, hcp2, hcm2, hbb2, hcell2⟩ := h.txForm
  have hsm := h.small
  clear h
  unfold letL
  cases hw : who T k with
  | none =>
    rw [hw] at AT
    rw [if_neg (by simp)]
    clear hbb2 hcell2
    go_enter Try.func24, Try.ntmps24
    go_wp2_with fail
    refine AT.out.mono ?_
    rintro e w1 ⟨rfl, hb⟩
    have HX := Lib.hid hb
    go_wp2_with fail
    go_ret
    exact ⟨rfl, RefNow.stay H.out HX.out⟩
  | some t =>
    have hgot := who_at hris k
    obtain ⟨hal, ht2⟩ := at_of_who hris hw
    obtain ⟨gt, rfl⟩ := hbb2 (by omega)
    have hkk : T[atL T k].1 = k := by
      rw [dif_pos hal, hw] at hgot
      by_cases he : T[atL T k].1 = k
      · exact he
      · rw [if_neg he] at hgot; cases hgot
    have HCut := Lib.hid (cut_at hris hal)
    rw [hkk] at HCut
    rw [hw] at AT
    have T0 := Lib.hid (hcell2 _ hal gt rfl)
    rw [ht2] at T0
    clear hw ht2 hbb2 hcell2 hgot hkk
    generalize atL T k = i at *
    have q0 : (0 : Int) ≤ (i : Int) := by omega
    have q1 : (i : Int) < (T.length : Int) := by omega
    by_cases hts : t = tx
    · subst hts
      rw [if_pos rfl]
      have e2 : ((t : Int) != (t : Int)) = false := by simp
      have CC := Lib.hid fun W hW => rkCut g vK _ T i W hal (H.out.below hW)
      go_enter Try.func24, Try.ntmps24
      go_wp2_with fail
      refine AT.out.mono ?_
      rintro e w1 ⟨rfl, hb⟩
      have HX := Lib.hid hb
      have c1 := (H.out.rows.below hb).c1
      have t0 := keep_cell hb T0.out
      clear hb
      go_wp2_with fail
      refine (CC.out _ HX.out).mono ?_
      rintro e w2 ⟨rfl, hn⟩
      have HN := Lib.hid hn
      clear hn
      go_wp2_with fail
      go_ret
      exact ⟨rfl, by rw [HCut.out]; exact RefNow.trans (OthersKept.of_below HX.out) (fun _ h => .inl h) (fun _ h => .inl h) HN.out⟩
    · rw [if_neg (by simpa using hts)]
      have e2 : ((t : Int) != (tx : Int)) = true := by simp; omega
      go_enter Try.func24, Try.ntmps24
      go_wp2_with fail
      refine AT.out.mono ?_
      rintro e w1 ⟨rfl, hb⟩
      have HX := Lib.hid hb
      have c1 := (H.out.rows.below hb).c1
      have t0 := keep_cell hb T0.out
      clear hb
      go_wp2_with fail
      go_ret
      exact ⟨rfl, RefNow.stay H.out HX.out⟩

theorem part_len (T : Lk) (tx j : Nat) (hj : j ≤ T.length) : (dropL (T.take j) tx ++ T.drop j).length = (dropL (T.take j) tx).length + (T.length - j) := by simp
theorem part_get (T : Lk) (tx j : Nat) (hj : j < T.length) : ∃ h : (dropL (T.take j) tx).length < (dropL (T.take j) tx ++ T.drop j).length, (dropL (T.take j) tx ++ T.drop j)[(dropL (T.take j) tx).length] = T[j] := by
  refine ⟨by simp; omega, ?_⟩
  rw [List.getElem_append_right (Nat.le_refl _)]
  simp
theorem part_cut (T : Lk) (tx j : Nat) (hj : j < T.length) (ht : T[j].2 = tx) : (dropL (T.take j) tx ++ T.drop j).eraseIdx (dropL (T.take j) tx).length = dropL (T.take (j + 1)) tx ++ T.drop (j + 1) ∧ dropL (T.take (j + 1)) tx = dropL (T.take j) tx ∧ (held (T.take (j + 1)) tx).length = (held (T.take j) tx).length + 1 := by
  have e1 : dropL (T.take (j + 1)) tx = dropL (T.take j) tx := by
    unfold dropL
    rw [List.take_succ_eq_append_getElem hj, List.filter_append]
    simp [ht]
  refine ⟨?_, e1, ?_⟩
  · rw [List.eraseIdx_append_of_length_le (Nat.le_refl _), Nat.sub_self, e1, List.drop_eq_getElem_cons hj, List.eraseIdx_cons_zero]
  · unfold held
    rw [List.take_succ_eq_append_getElem hj, List.filter_append]
    simp [ht]
theorem part_keep (T : Lk) (tx j : Nat) (hj : j < T.length) (ht : ¬ T[j].2 = tx) : dropL (T.take j) tx ++ T.drop j = dropL (T.take (j + 1)) tx ++ T.drop (j + 1) ∧ (dropL (T.take (j + 1)) tx).length = (dropL (T.take j) tx).length + 1 ∧ held (T.take (j + 1)) tx = held (T.take j) tx := by
  have e1 : dropL (T.take (j + 1)) tx = dropL (T.take j) tx ++ [T[j]] := by
    unfold dropL
    rw [List.take_succ_eq_append_getElem hj, List.filter_append]
    simp [ht]
  refine ⟨?_, by rw [e1]; simp, ?_⟩
  · rw [e1, List.drop_eq_getElem_cons hj, List.append_assoc]; rfl
  · unfold held
    rw [List.take_succ_eq_append_getElem hj, List.filter_append]
    simp [ht]
theorem held_snoc (T : Lk) (tx j : Nat) (hj : j < T.length) (ht : T[j].2 = tx) : held (T.take (j + 1)) tx = held (T.take j) tx ++ [T[j].1] := by
  unfold held
  rw [List.take_succ_eq_append_getElem hj, List.filter_append]
  simp [ht]
theorem drop_le (T : Lk) (t : Nat) : (dropL T t).length ≤ T.length ∧ (held T t).length ≤ T.length := by have := drop_len T t; omega

set_option maxHeartbeats 2000000 in
set_option maxRecDepth 100000 in
theorem rkDrop (g : Nat) (vK vT : Value) (T : Lk) (tx : Nat) (w : World) (h : RefLk w g vK vT T) :
    Calls Try.prog 25 #[.pointer (some ⟨g, 0, none⟩), .int .u64 (tx : Nat)] w fun e w' => e = .returned (.int .i64 ((held T tx).length : Nat)) ∧ RefNow w w' g vK vT (dropL T tx) := by
  have H := Lib.hid h
  have hsm := h.small
  clear h
  go_enter Try.func25, Try.ntmps25
  go_wp2_with fail
  go_loopw [5, 6] (fun s5 s6 wr => ∃ j : Nat, j ≤ T.length ∧ s5 = .int .i64 ((held (T.take j) tx).length : Nat) ∧ s6 = .int .i64 ((dropL (T.take j) tx).length : Nat) ∧ RefNow w wr g vK vT (dropL (T.take j) tx ++ T.drop j)) (fun n i _ => T.length - ((intOf n).toNat + (intOf i).toNat))
  case atStart => exact ⟨0, Nat.zero_le _, rfl, rfl, RefNow.stay H.out (Below.refl _ _)⟩
  case round =>
    obtain ⟨j, hj, rfl, rfl, vK1, vT1, hR, hK, hF1, hF2⟩ := hrel
    have HR := Lib.hid hR
    have HK := Lib.hid hK
    have HF1 := Lib.hid hF1
    have HF2 := Lib.hid hF2
    have c0 := hR.rows.c0
    have c1 := hR.rows.c1
    obtain ⟨b, cp, rfl, hcp, hcm, _, _⟩ := hR.keyForm
    obtain ⟨b2, cp2, rfl, hcp2, hcm2, hbb2, hcell2⟩ := hR.txForm
    have hdl := drop_len (T.take j) tx
    rw [List.length_take, Nat.min_eq_left hj] at hdl
    have HLp := Lib.hid (part_len T tx j hj)
    have hlp := HLp.out
    clear hR hK hF1 hF2
    by_cases hc : j < T.length
    · obtain ⟨hil, hget⟩ := part_get T tx j hc
      have HPC := Lib.hid (part_cut T tx j hc)
      have HPK := Lib.hid (part_keep T tx j hc)
      have CC := Lib.hid fun W hW => rkCut g _ _ _ _ W hil (HR.out.below hW)
      obtain ⟨gt, rfl⟩ := hbb2 (by omega)
      have t0 := hcell2 _ hil gt rfl
      rw [hget] at t0
      clear hbb2 hcell2 hget HLp
      generalize hNN : (held (T.take j) tx).length = nn at *
      generalize hII : (dropL (T.take j) tx).length = ii at *
      generalize hTT : dropL (T.take j) tx ++ T.drop j = T1 at *
      have HII := Lib.hid hII
      have HNN := Lib.hid hNN
      have HTT := Lib.hid hTT
      generalize T[j].2 = tj at *
      clear hNN hII hTT
      have q0 : (0 : Int) ≤ (ii : Int) := by omega
      have q1 : (ii : Int) < (T1.length : Int) := by omega
      by_cases htj : tj = tx
      · subst htj
        obtain ⟨p1, p2, p3⟩ := HPC.out rfl
        have P1 := Lib.hid p1
        have P2 := Lib.hid p2
        have P3 := Lib.hid p3
        clear p1 p2 p3 HPC HPK
        have e2 : ((tj : Int) == (tj : Int)) = true := by simp
        go_wp2_with fail
        refine (CC.out _ (Below.refl _ _)).mono ?_
        rintro e w2 ⟨rfl, hn⟩
        have HN := Lib.hid hn
        clear hn
        go_wp2_with fail
        go_roundw
        case rel => exact ⟨j + 1, by omega, by rw [P3.out]; go_num, by rw [P2.out, HII.out], by rw [← P1.out]; exact RefNow.trans HK.out HF1.out HF2.out HN.out⟩
        case measure => simp [intOf]; omega
      · obtain ⟨p1, p2, p3⟩ := HPK.out htj
        have P1 := Lib.hid p1
        have P2 := Lib.hid p2
        have P3 := Lib.hid p3
        clear p1 p2 p3 HPC HPK CC
        have e2 : ((tj : Int) == (tx : Int)) = false := by simp; omega
        go_wp2_with fail
        go_roundw
        case rel => exact ⟨j + 1, by omega, by rw [P3.out, HNN.out], by rw [P2.out]; go_num, ⟨_, _, by rw [← P1.out]; exact HR.out, HK.out, HF1.out, HF2.out⟩⟩
        case measure => simp [intOf]; omega
    · obtain rfl : j = T.length := by omega
      have hlen : Hid ((dropL (T.take T.length) tx ++ T.drop T.length).length = (dropL (T.take T.length) tx).length) := by show _ = _; simp
      have hE1 : Hid (dropL (T.take T.length) tx ++ T.drop T.length = dropL T tx) := by show _ = _; simp
      have hE2 : Hid (held (T.take T.length) tx = held T tx) := by show _ = _; simp
      clear HLp hlp hbb2 hcell2
      rw [hlen.out] at c0
      generalize dropL (T.take T.length) tx = D1 at *
      go_wp2_with fail
      go_ret
      exact ⟨by rw [hE2.out]; rfl, _, _, by rw [← hE1.out]; exact HR.out, HK.out, HF1.out, HF2.out⟩

set_option maxHeartbeats 2000000 in
set_option maxRecDepth 100000 in
theorem rkHeld (g : Nat) (vK vT : Value) (T : Lk) (tx : Nat) (w : World) (h : RefLk w g vK vT T) :
    Calls Try.prog 28 #[.pointer (some ⟨g, 0, none⟩), .int .u64 (tx : Nat)] w fun e w' => ∃ v, e = .returned v ∧ w'.ownsRow w.heap.size 9 1 v (held T tx).length (strs (held T tx)) ∧ Below w.heap.size w w' := by
  have H := Lib.hid h
  have hsm := h.small
  obtain ⟨b, cp, rfl, hcp, hcm, hbb, hcell⟩ := h.keyForm
  obtain ⟨b2, cp2, rfl, hcp2, hcm2, hbb2, hcell2⟩ := h.txForm
  have HB := Lib.hid hbb
  have HC := Lib.hid hcell
  have HB2 := Lib.hid hbb2
  have HC2 := Lib.hid hcell2
  clear h hbb hcell hbb2 hcell2
  obtain ⟨i0, hi, hz0, hz1, hz2⟩ := info_parts (P := Try.prog) (e := 9) (z := .string ⟨#[]⟩) (size := 1) (bytes := 16) (by kernel_rfl)
  go_enter Try.func28, Try.ntmps28
  go_wp2_with fail
  go_loopw [5, 6] (fun s5 s6 wr => ∃ j : Nat, j ≤ T.length ∧ s6 = .int .i64 j ∧ wr.ownsRow w.heap.size 9 1 s5 (held (T.take j) tx).length (strs (held (T.take j) tx)) ∧ Below w.heap.size w wr) (fun _ i _ => T.length - (intOf i).toNat)
  case atStart => exact ⟨0, Nat.zero_le _, rfl, World.ownsRow_nil _ _ _ _, Below.refl _ _⟩
  case round =>
    obtain ⟨j, hj, rfl, hO, hB⟩ := hrel
    have HO := Lib.hid hO
    have HBl := Lib.hid hB
    have c0 := (H.out.rows.below hB).c0
    have c1 := (H.out.rows.below hB).c1
    clear hO hB
    by_cases hc : j < T.length
    · obtain ⟨gk, rfl⟩ := HB.out (by omega)
      obtain ⟨gt, rfl⟩ := HB2.out (by omega)
      have k0 := keep_cell HBl.out (HC.out j hc gk rfl)
      have t0 := keep_cell HBl.out (HC2.out j hc gt rfl)
      have HSN := Lib.hid (held_snoc T tx j hc)
      have HPK := Lib.hid fun h => (part_keep T tx j hc h).2.2
      have hle := (drop_le (T.take j) tx).2
      rw [List.length_take, Nat.min_eq_left hj] at hle
      generalize T[j].1 = kj at *
      generalize T[j].2 = tj at *
      have q0 : (0 : Int) ≤ (j : Int) := by omega
      have q1 : (j : Int) < (T.length : Int) := by omega
      have HSz := Lib.hid HBl.out.size
      by_cases htj : tj = tx
      · subst htj
        have HS := Lib.hid (HSN.out rfl)
        have HSS : Hid (strs (held (T.take j) tj) ++ [.string ⟨kj.toArray⟩] = strs (held (T.take (j + 1)) tj)) := by
          show _ = _
          rw [HS.out]; simp [strs]
        have HSL : Hid ((held (T.take j) tj).length + 1 = (held (T.take (j + 1)) tj).length) := by
          show _ = _
          rw [HS.out]; simp
        clear HSN HPK
        generalize held (T.take j) tj = hh at *
        go_wp2_with (at_builtin; refine wpList_append_own _ rfl _ _ 36 rfl w.heap.size 9 i0 (.string ⟨#[]⟩) 1 16 Try.underlying36 hi hz0 hz1 hz2 rfl (by decide) _ _ _ (by rfl) (HO.out.alloc _) ⟨wr.heap.size, 0, none⟩ 1 1 [.string ⟨kj.toArray⟩] (by rfl) rfl (one_new _ _ _) (one_str _) (by unfold maxLen; omega) (by omega) (by have := HSz.out; simp; omega) ?_; intro v' w5 hown5 hgrow5 _)
        rw [HSS.out, HSL.out] at hown5
        have HB5 := Lib.hid (below_own (HBl.out.alloc HBl.out.size (.cells #[.string ⟨kj.toArray⟩] 9)) (HO.out.alloc _) (Nat.le_refl _) hgrow5)
        have HO5 := Lib.hid hown5
        clear hown5 hgrow5
        go_wp2_with fail
        go_roundw
        case rel => exact ⟨j + 1, by omega, by go_num, HO5.out, HB5.out⟩
        case measure => simp [intOf]; omega
      · have HS := Lib.hid (HPK.out htj)
        have e2 : ((tj : Int) == (tx : Int)) = false := by simp; omega
        clear HSN HPK
        go_wp2_with fail
        go_roundw
        case rel => exact ⟨j + 1, by omega, by go_num, by rw [HS.out]; exact HO.out, HBl.out⟩
        case measure => simp [intOf]; omega
    · obtain rfl : j = T.length := by omega
      have hE2 : Hid (held (T.take T.length) tx = held T tx) := by show _ = _; simp
      go_wp2_with fail
      go_ret
      exact ⟨_, rfl, by rw [← hE2.out]; exact HO.out, HBl.out⟩

set_option maxHeartbeats 2000000 in
set_option maxRecDepth 100000 in
theorem textsSame (v1 v2 : Value) (ts : List Bs) (B1 B2 : Nat) (w : World) (hn : ts.length ≤ 1000000) (h1 : w.ownsRow B1 9 1 v1 ts.length (strs ts)) (h2 : w.ownsRow B2 9 1 v2 ts.length (strs ts)) :
    Calls Try.prog 27 #[v1, v2] w fun e w' => e = .returned (.bool true) ∧ Below w.heap.size w w' := by
  obtain ⟨b, cp, rfl, hcp, hcm, hbb⟩ := own_form h1
  obtain ⟨b2, cp2, rfl, hcp2, hcm2, hbb2⟩ := own_form h2
  have H1 := Lib.hid h1
  have H2 := Lib.hid h2
  have HB := Lib.hid hbb
  have HB2 := Lib.hid hbb2
  clear h1 h2 hbb hbb2
  unfold maxLen at hcm hcm2
  go_enter Try.func27, Try.ntmps27
  go_wp2_with fail
  go_loopw [5] (fun s5 wr => ∃ j : Nat, j ≤ ts.length ∧ s5 = .int .i64 j ∧ Below w.heap.size w wr) (fun i _ => ts.length - (intOf i).toNat)
  case atStart => exact ⟨0, Nat.zero_le _, rfl, Below.refl _ _⟩
  case round =>
    obtain ⟨j, hj, rfl, hB⟩ := hrel
    have HBl := Lib.hid hB
    clear hB
    by_cases hc : j < ts.length
    · obtain ⟨g1, rfl, _⟩ := HB.out (by omega)
      obtain ⟨g2, rfl, _⟩ := HB2.out (by omega)
      have t1 := keep_cell HBl.out (own_cell H1.out j (.string ⟨ts[j].toArray⟩) (by unfold strs; rw [List.getElem?_map, List.getElem?_eq_getElem hc]; rfl))
      have t2 := keep_cell HBl.out (own_cell H2.out j (.string ⟨ts[j].toArray⟩) (by unfold strs; rw [List.getElem?_map, List.getElem?_eq_getElem hc]; rfl))
      have e1 := ext_cell t1 (cell_lt t1)
      have e2 := ext_cell t2 (cell_lt t2)
      generalize ts[j] = kj at *
      have q0 : (0 : Int) ≤ (j : Int) := by omega
      have q1 : (j : Int) < (ts.length : Int) := by omega
      go_upto_region 6 with fail
      refine wp_region_ext wr.heap.size (by kernel_rfl) (by kernel_rfl) ?_
      repeat (go_big_quiet_step (fail))
      refine wpQuiet_nil ?_
      rintro _ ⟨X, rfl⟩
      have HX := Lib.hid (below_then HBl.out X.below)
      go_wp2_with fail
      go_roundw
      case rel => exact ⟨j + 1, by omega, by go_num, HX.out⟩
      case measure => simp [intOf]; omega
    · obtain rfl : j = ts.length := by omega
      go_wp2_with fail
      go_ret
      exact ⟨rfl, HBl.out⟩

end Go.Proofs.Ytoeaakadpillnaa
