/- chapter 08: Split by the document -/
import Derived.Test.YtjcfnfpilladfaaRows
import Derived.Test.YtjcfnfpilladfaaNodeSplit
import Derived.Test.YtjcfnfpilladfaaNodeRefPut
import Derived.WalkKit
import Derived.WalkLawsBesides
import Derived.WalkSpells
import Derived.LoopTactic
import Derived.WalkMore
import Derived.LoopN
import Derived.Laws.BitsAllLaws
import Derived.Laws.IdiomStrings
import Derived.BigQuiet
import Derived.Deep.QuietTactic
import Derived.Deep.DeepCutAuto
import Derived.Deep.RegionHeld3
import Derived.Deep.DrawnRows
import Derived.Lib.Hide
import Derived.Outline
import Derived.Deep.DeepMust
import Derived.Handy
namespace Go.Proofs.Ytjcfnfpilladfaa
open Go.RowKit
set_option linter.unusedVariables false
set_option linter.unusedSimpArgs false

open Go.Lib (compareBytes)
set_option maxHeartbeats 400000 in
theorem refApart_any (a b : Nat) (w : World) (ha : a ≤ 1000000) (hb : b ≤ 1000000) : Calls Try.prog 79 #[.int .i64 (a : Nat), .int .i64 (b : Nat)] w fun e w' => e = .returned (.int .i64 ((a - b) + (b - a) : Nat)) ∧ w = w' := by
  by_cases h : a < b
  · have h1 : (a : Int) < (b : Int) := by omega
    go_enter Try.func79, Try.ntmps79
    go_wp2
    go_ret
    exact ⟨ret_int (by omega), rfl⟩
  · have h1 : ¬ (a : Int) < (b : Int) := by omega
    go_enter Try.func79, Try.ntmps79
    go_wp2
    go_ret
    exact ⟨ret_int (by omega), rfl⟩
set_option maxHeartbeats 2500000 in
set_option maxRecDepth 100000 in
theorem refSplit_any (p : Pg) (sv : Value) (i : Int) (x : List UInt8) (is : Bool) (w : World) (hp : p.wf) (ht : TextsAt w sv p.rows) (hb : weightB p.rows + (4 + x.length) ≤ 1000000) (hi0 : -9223372036854775808 ≤ i) (hi1 : i ≤ 9223372036854775807) :
    Calls Try.prog 36 #[pgV p sv, .int .i64 i, .string ⟨x.toArray⟩, .bool is] w (SplitPost w (splitB p i x is)) := by
  have CW := Lib.hid fun W (h : TextsAt W sv p.rows) => refPut_any p sv i x is W hp h hb hi0 hi1
  have HT := Lib.hid ht
  have R1 : Hid (¬ (putB p i x is).2 = 0 → splitB p i x is = (([], []), ([], (putB p i x is).2))) := fun h => by unfold splitB; rw [if_neg h]
  have R2 : Hid ((putB p i x is).2 = 0 → bestN (putB p i x is).1.rows (putB p i x is).1.rows.length = 0 → splitB p i x is = (([], []), ([], 2))) := fun h h2 => by unfold splitB; rw [if_pos h, if_pos h2]
  have R3 : Hid ((putB p i x is).2 = 0 → ∀ b ks, bestN (putB p i x is).1.rows (putB p i x is).1.rows.length = b → ¬ b = 0 → keysB (putB p i x is).1 = some ks → splitB p i x is = (((putB p i x is).1.rows.take b, (putB p i x is).1.rows.drop b), (sepB (putB p i x is).1.kind ks b, 0))) := fun h b ks hb2 h2 h3 => by
    have hq := (putB_ok h).2.2.2
    have hkd : (putB p i x is).1.kind = p.kind := by rw [hq]; rfl
    subst hb2
    unfold splitB
    rw [if_pos h, if_neg h2, h3, hkd]
    rfl
  have F1 : Hid ((putB p i x is).2 = 0 → ∃ ks, keysB (putB p i x is).1 = some ks ∧ ks.length = (putB p i x is).1.rows.length ∧ 1 ≤ (putB p i x is).1.rows.length ∧ ks.Pairwise (fun a b => compareBytes a b < 0) ∧ (∀ q ∈ ks, q.length ≤ 1000000) ∧ weightB (putB p i x is).1.rows ≤ 1000000 ∧ ∀ sv' W, TextsAt W sv' (putB p i x is).1.rows → Calls Try.prog 80 #[pgV (putB p i x is).1 sv'] W (KeysPost W (keysB (putB p i x is).1))) := fun h => by
    obtain ⟨_, _, hk, hq⟩ := putB_ok h
    have hq1 : (putB p i x is).1 = p.with (putRows p.rows i.toNat x is) := by rw [hq]
    rw [hq1]
    obtain ⟨ks, hks⟩ := Option.isSome_iff_exists.1 hk
    obtain ⟨_, hl, _, hpw⟩ := keysB_get hks
    have hwt : weightB (putRows p.rows i.toNat x is) ≤ 1000000 := by have := putRows_weight p.rows i.toNat x is; omega
    refine ⟨ks, hks, hl, ?_, hpw, key_le (p := p.with (putRows p.rows i.toNat x is)) hwt hks, hwt, fun sv' W hT => refKeys_any (p.with (putRows p.rows i.toNat x is)) sv' W hp hT hwt⟩
    show 1 ≤ (putRows p.rows i.toNat x is).length
    unfold putRows
    simp
    omega
  generalize splitB p i x is = R at *
  generalize (putB p i x is) = Q at *
  obtain ⟨⟨k2, l2, i2, s2, n2, rows2⟩, e2⟩ := Q
  generalize keysB ⟨k2, l2, i2, s2, n2, rows2⟩ = K at *
  unfold pgV at *
  obtain ⟨kind, level, id, lsn, next, rows⟩ := p
  clear hp hb ht
  simp only at *
  have B0 := Lib.hid (alloc_below w (.cells #[.int .u8 kind, .int .u8 level, .int .u32 id, .int .u64 lsn, .int .u32 next, sv] 45))
  go_enter Try.func36, Try.ntmps36
  go_wp2_with fail
  generalize w.alloc (.cells #[.int .u8 kind, .int .u8 level, .int .u32 id, .int .u64 lsn, .int .u32 next, sv] 45) = w0 at *
  have T0 := Lib.hid (HT.out.below B0.out)
  refine (CW.out _ T0.out).mono ?_
  rintro e w1 ⟨sv1, rfl, hT1, hb1⟩
  have B1 := Lib.hid (below_then B0.out hb1)
  unfold pgV at *
  have HT1 := Lib.hid hT1
  obtain ⟨A1, cp1, hv1, g2, g3, g4, g5⟩ := hT1
  obtain ⟨n, hn⟩ : ∃ n, n = rows2.length := ⟨_, rfl⟩
  rw [← hn] at hv1 g2
  subst hv1
  have HN := Lib.hid hn
  have H5 := Lib.hid g5
  unfold maxLen at g3
  clear hb1 g4 g5 hn
  simp only at *
  have P2 := Lib.hid (PgBox.new w1 k2 l2 i2 s2 n2 (.slice A1 n cp1))
  have BP := Lib.hid (alloc_below w1 (.cells #[.int .u8 k2, .int .u8 l2, .int .u32 i2, .int .u64 s2, .int .u32 n2, .slice A1 n cp1] 45))
  by_cases he : e2 = 0
  · subst he
    obtain ⟨ks, hK, hkl, hr1, hpw, hkq, hwt, hcs⟩ := F1.out rfl
    subst hK
    have CS := Lib.hid (hcs (.slice A1 n cp1))
    have G2 := Lib.hid (R2.out rfl)
    have G3 := Lib.hid (fun b h1 h2 => R3.out rfl b ks h1 h2 rfl)
    have HP := Lib.hid hpw
    have HQ := Lib.hid hkq
    have HW := Lib.hid hwt
    have HKL : Hid (ks.length = n) := by show _ = _; rw [HN.out]; exact hkl
    have hn1 : 1 ≤ n := by rw [HN.out]; exact hr1
    clear R1 R2 R3 F1 hcs hpw hkq hwt hkl hr1
    go_wp2_with fail
    have w3x : ∃ w3 : World, w3 = w1.alloc (.cells #[.int .u8 k2, .int .u8 l2, .int .u32 i2, .int .u64 s2, .int .u32 n2, .slice A1 n cp1] 45) := ⟨_, rfl⟩
    obtain ⟨w3, hw3⟩ := w3x
    have B3 := Lib.hid (below_then B1.out BP.out)
    have T3 := Lib.hid (HT1.out.below BP.out)
    have Q3 := P2
    generalize w1.alloc (.cells #[.int .u8 k2, .int .u8 l2, .int .u32 i2, .int .u64 s2, .int .u32 n2, .slice A1 n cp1] 45) = w4 at *
    subst hw3
    clear P2 BP HT1
    obtain ⟨x0, x1, x2, x3, x4, x5, x6⟩ := Q3.out.cells
    go_wp2_with fail
    go_loopw [14, 15] (fun s14 s15 wr => ∃ k : Nat, s15 = .int .i64 k ∧ 1 ≤ k ∧ k ≤ n ∧ s14 = .int .i64 (bestN rows2 k : Nat) ∧ Hid (Below w3.heap.size w3 wr)) (fun _ v _ => n - (intOf v).toNat)
    case atStart => exact ⟨1, rfl, Nat.le_refl _, hn1, by rw [bestN_one]; rfl, Lib.hid (Below.refl _ _)⟩
    case round =>
      obtain ⟨k, rfl, hk1, hkn, rfl, hB⟩ := hrel
      clear x0 x1 x2 x3 x4 x5 x6
      have Q4 := Lib.hid (Q3.out.below hB.out)
      obtain ⟨x0, x1, x2, x3, x4, x5, x6⟩ := Q4.out.cells
      have T4 := Lib.hid (T3.out.below hB.out)
      obtain ⟨b0, o0, rfl, _, _⟩ := H5.out (by have := HN.out; omega)
      have wt1 : ∀ j, weightB (rows2.take j) ≤ 1000000 := fun j => Nat.le_trans (weightB_take_le _ _) HW.out
      have wt2 : ∀ j, weightB (rows2.drop j) ≤ 1000000 := fun j => by have h1 : weightB (rows2.take j) + weightB (rows2.drop j) = weightB rows2 := (by rw [← weightB_append, List.take_append_drop]); have := HW.out; omega
      by_cases hc : k < n
      · have hci : (k : Int) < (n : Int) := by omega
        have wta := wt1 k
        have wtb := wt2 k
        have CA : Hid (∀ y : Ext wr.heap.size wr, Calls Try.prog 48 #[.slice (some ⟨b0, o0, none⟩) k cp1] y.val fun e w' => e = .returned (.int .i64 (weightB (rows2.take k) : Nat)) ∧ y.val = w') := fun y => (refWeight_any (.slice (some ⟨b0, o0, none⟩) k cp1) (rows2.take k) y.val ((T4.out.below y.below).take k cp1 (by omega) (by omega) (Nat.le_refl _)) wta).mono fun _ _ ⟨h1, h2⟩ => ⟨h1, h2.symm⟩
        have CB : Hid (∀ y : Ext wr.heap.size wr, Calls Try.prog 48 #[.slice (some ⟨b0, o0 + k, none⟩) (n - k) (cp1 - k)] y.val fun e w' => e = .returned (.int .i64 (weightB (rows2.drop k) : Nat)) ∧ y.val = w') := fun y => (refWeight_any (.slice (some ⟨b0, o0 + k, none⟩) (n - k) (cp1 - k)) (rows2.drop k) y.val ((T4.out.below y.below).drop k (by omega) (by omega)) wtb).mono fun _ _ ⟨h1, h2⟩ => ⟨h1, h2.symm⟩
        have hck : ¬ cp1 = k := by omega
        have q0 : (0 : Int) ≤ (k : Int) := by omega
        have q1 : (k : Int) ≤ (cp1 : Int) := by omega
        have q2 : k ≤ cp1 := by omega
        have q3 : (k : Int) ≤ (n : Int) := by omega
        have E1 : Hid (cutOk rows2 k = false → bestN rows2 (k + 1) = bestN rows2 k) := fun h => bestN_skip h
        have E2 : Hid (cutOk rows2 k = true → (bestN rows2 k = 0 ∨ apartN rows2 k < apartN rows2 (bestN rows2 k)) → bestN rows2 (k + 1) = k) := fun h h2 => bestN_take hk1 h h2
        have E3 : Hid (¬ (bestN rows2 k = 0 ∨ apartN rows2 k < apartN rows2 (bestN rows2 k)) → bestN rows2 (k + 1) = bestN rows2 k) := fun h => bestN_keep h
        have hbl := bestN_lt rows2 k
        have hap : apartN rows2 k = (weightB (rows2.take k) - weightB (rows2.drop k)) + (weightB (rows2.drop k) - weightB (rows2.take k)) := rfl
        have hcut : cutOk rows2 k = (decide (weightB (rows2.take k) ≤ 484) && decide (weightB (rows2.drop k) ≤ 484)) := rfl
        have hab : apartN rows2 (bestN rows2 k) = (weightB (rows2.take (bestN rows2 k)) - weightB (rows2.drop (bestN rows2 k))) + (weightB (rows2.drop (bestN rows2 k)) - weightB (rows2.take (bestN rows2 k))) := rfl
        have wtc := wt1 (bestN rows2 k)
        have wtd := wt2 (bestN rows2 k)
        clear wt1 wt2
        generalize hbk : bestN rows2 k = bk at *
        clear hbk
        have CC : Hid (bk < k → ∀ y : Ext wr.heap.size wr, Calls Try.prog 48 #[.slice (some ⟨b0, o0, none⟩) bk cp1] y.val fun e w' => e = .returned (.int .i64 (weightB (rows2.take bk) : Nat)) ∧ y.val = w') := fun hlt y => (refWeight_any (.slice (some ⟨b0, o0, none⟩) bk cp1) (rows2.take bk) y.val ((T4.out.below y.below).take bk cp1 (by omega) (by omega) (Nat.le_refl _)) wtc).mono fun _ _ ⟨h1, h2⟩ => ⟨h1, h2.symm⟩
        have CD : Hid (bk < k → ∀ y : Ext wr.heap.size wr, Calls Try.prog 48 #[.slice (some ⟨b0, o0 + bk, none⟩) (n - bk) (cp1 - bk)] y.val fun e w' => e = .returned (.int .i64 (weightB (rows2.drop bk) : Nat)) ∧ y.val = w') := fun hlt y => (refWeight_any (.slice (some ⟨b0, o0 + bk, none⟩) (n - bk) (cp1 - bk)) (rows2.drop bk) y.val ((T4.out.below y.below).drop bk (by omega) (by omega)) wtd).mono fun _ _ ⟨h1, h2⟩ => ⟨h1, h2.symm⟩
        generalize weightB (rows2.take k) = wa at *
        generalize weightB (rows2.drop k) = wb at *
        generalize weightB (rows2.take bk) = wc at *
        generalize weightB (rows2.drop bk) = wd at *
        have PA := Lib.hid fun W => refApart_any wa wb W wta wtb
        have PB := Lib.hid fun W => refApart_any wc wd W wtc wtd
        rw [← hap] at PA
        rw [← hab] at PB
        have hap2 : apartN rows2 k ≤ 1000000 := by omega
        have hab2 : apartN rows2 bk ≤ 1000000 := by omega
        clear hap hab
        generalize apartN rows2 bk = ab at *
        generalize apartN rows2 k = ak at *
        go_wp2_with fail
        have e0 := ext_cell x6 x0
        refine wp_region_ext wr.heap.size (by kernel_rfl) (by kernel_rfl) ?_
        repeat (go_big_quiet_step (first
          | (go_at_call 48; with_reducible exact ext_same _ (CA.out _))
          | (go_at_call 48; with_reducible exact ext_same _ (CB.out _))))
        refine wpQuiet_nil ?_
        rintro _ ⟨y, rfl⟩
        have B4 := Lib.hid (below_then hB.out y.below)
        have Q5 := Lib.hid (Q4.out.below y.below)
        have YB := y.below
        have T5 := Lib.hid (T4.out.below y.below)
        clear e0 x0 x1 x2 x3 x4 x5 x6
        cases hok : cutOk rows2 k with
        | false =>
          have E := Lib.hid (E1.out hok)
          have hm : 484 < wa ∨ (¬ 484 < wa ∧ 484 < wb) := by
            rw [hok] at hcut
            have := hcut.symm
            simp only [Bool.and_eq_false_iff, decide_eq_false_iff_not] at this
            omega
          generalize y.val = w5 at *
          clear hok hcut E1 E2 E3 YB
          rcases hm with hm | ⟨hm0, hm⟩
          · have hm1 : (484 : Int) < (wa : Int) := by omega
            go_wp2_with fail
            go_roundw
            case rel => exact ⟨k + 1, by go_num, by omega, by omega, by rw [E.out], B4⟩
            case measure => simp [intOf]; omega
          · have hm1 : (484 : Int) < (wb : Int) := by omega
            have hm2 : ¬ (484 : Int) < (wa : Int) := by omega
            go_wp2_with fail
            go_roundw
            case rel => exact ⟨k + 1, by go_num, by omega, by omega, by rw [E.out], B4⟩
            case measure => simp [intOf]; omega
        | true =>
          have hm : ¬ 484 < wa ∧ ¬ 484 < wb := by
            rw [hok] at hcut
            have := hcut.symm
            simp only [Bool.and_eq_true, decide_eq_true_eq] at this
            omega
          obtain ⟨hm3, hm4⟩ := hm
          have hm1 : ¬ (484 : Int) < (wa : Int) := by omega
          have hm2 : ¬ (484 : Int) < (wb : Int) := by omega
          have E2b := Lib.hid (E2.out hok)
          clear hok hcut E1 E2
          obtain ⟨x0, x1, x2, x3, x4, x5, x6⟩ := Q5.out.cells
          have CC2 : Hid (bk < k → ∀ z : Ext y.val.heap.size y.val, Calls Try.prog 48 #[.slice (some ⟨b0, o0, none⟩) bk cp1] z.val fun e w' => e = .returned (.int .i64 (wc : Nat)) ∧ z.val = w') := fun hlt z => CC.out hlt ⟨z.val, YB.trans (z.below.mono YB.size)⟩
          have CD2 : Hid (bk < k → ∀ z : Ext y.val.heap.size y.val, Calls Try.prog 48 #[.slice (some ⟨b0, o0 + bk, none⟩) (n - bk) (cp1 - bk)] z.val fun e w' => e = .returned (.int .i64 (wd : Nat)) ∧ z.val = w') := fun hlt z => CD.out hlt ⟨z.val, YB.trans (z.below.mono YB.size)⟩
          clear YB CC CD CA CB
          generalize y.val = w5 at *
          by_cases hb0 : bk = 0
          · have E := Lib.hid (E2b.out (.inl hb0))
            have c1 : ((bk : Int) == 0) = true := by simp; omega
            clear hb0
            go_wp2_with fail
            have e0 := ext_cell x6 x0
            refine wp_region_ext w5.heap.size (by kernel_rfl) (by kernel_rfl) ?_
            repeat (go_big_quiet_step (fail))
            refine wpQuiet_nil ?_
            rintro _ ⟨z, rfl⟩
            have B6 := Lib.hid (below_then B4.out z.below)
            generalize z.val = w6 at *
            clear e0 x0 x1 x2 x3 x4 x5 x6
            go_wp2_with fail
            go_roundw
            case rel => exact ⟨k + 1, by go_num, by omega, by omega, by rw [E.out], B6⟩
            case measure => simp [intOf]; omega
          · have c1 : ((bk : Int) == 0) = false := by simp; omega
            have hbk : bk < k := by omega
            have C3 := Lib.hid (CC2.out hbk)
            have C4 := Lib.hid (CD2.out hbk)
            have r0 : (0 : Int) ≤ (bk : Int) := by omega
            have r1 : (bk : Int) ≤ (cp1 : Int) := by omega
            have r2 : bk ≤ cp1 := by omega
            have r3 : (bk : Int) ≤ (n : Int) := by omega
            have r4 : ¬ cp1 = bk := by omega
            have r5 : bk ≤ n := by omega
            have EE : Hid ((ak < ab → bestN rows2 (k + 1) = k) ∧ (¬ ak < ab → bestN rows2 (k + 1) = bk)) := ⟨fun h => E2b.out (.inr h), fun h => E3.out (by omega)⟩
            clear hb0 E2b E3 CC2 CD2
            go_wp2_with fail
            have e0 := ext_cell x6 x0
            refine wp_region_ext w5.heap.size (by kernel_rfl) (by kernel_rfl) ?_
            repeat (go_big_quiet_step (first
              | (go_at_call 48; with_reducible exact ext_same _ (C3.out _))
              | (go_at_call 48; with_reducible exact ext_same _ (C4.out _))
              | (go_at_call 79; with_reducible exact ext_same _ (PA.out _))
              | (go_at_call 79; with_reducible exact ext_same _ (PB.out _))))
            refine wpQuiet_nil ?_
            rintro _ ⟨z, rfl⟩
            have B6 := Lib.hid (below_then B4.out z.below)
            generalize z.val = w6 at *
            clear e0 x0 x1 x2 x3 x4 x5 x6
            by_cases hlt : ak < ab
            · have c2 : (ak : Int) < (ab : Int) := by omega
              have E := Lib.hid (EE.out.1 hlt)
              go_wp2_with fail
              go_roundw
              case rel => exact ⟨k + 1, by go_num, by omega, by omega, by rw [E.out], B6⟩
              case measure => simp [intOf]; omega
            · have c2 : ¬ (ak : Int) < (ab : Int) := by omega
              have E := Lib.hid (EE.out.2 hlt)
              go_wp2_with fail
              go_roundw
              case rel => exact ⟨k + 1, by go_num, by omega, by omega, by rw [E.out], B6⟩
              case measure => simp [intOf]; omega
      · have hci : ¬ (k : Int) < (n : Int) := by omega
        obtain rfl : k = n := by omega
        clear wt1 wt2
        have BE := Lib.hid (below_then B3.out hB.out)
        have hbl := bestN_lt rows2 k
        clear x0 x1 x2 x3 x4 x5 x6
        by_cases hb0 : bestN rows2 k = 0
        · have HR := Lib.hid (G2.out (by rw [← HN.out]; exact hb0))
          have c1 : ((bestN rows2 k : Int) == 0) = true := by simp; omega
          clear hb0 hbl
          generalize bestN rows2 k = b at *
          obtain ⟨x0, x1, x2, x3, x4, x5, x6⟩ := Q4.out.cells
          go_wp2_with fail
          (try rw [Exit.noGoto_ret])
          (try simp only [Exit.inBlock, Exit.then])
          refine bodyPost_ret (results_tmp4 rfl _ _ _) rfl ?_
          exact SplitPost.no HR.out BE.out
        · have HR := Lib.hid (G3.out (bestN rows2 k) (by rw [← HN.out]) hb0)
          have c1 : ((bestN rows2 k : Int) == 0) = false := by simp; omega
          generalize bestN rows2 k = b at *
          have hbk : b < k := by omega
          obtain ⟨x0, x1, x2, x3, x4, x5, x6⟩ := Q4.out.cells
          go_wp2_with fail
          refine (CS.out _ T4.out).mono ?_
          rintro e w5 ⟨v5, rfl, ho5, hb5⟩
          have BE5 := Lib.hid (below_then BE.out hb5)
          have Q5 := Lib.hid (Q4.out.below hb5)
          have T5 := Lib.hid (T4.out.below hb5)
          have K3 := (texts_own ho5).1
          simp only [Option.getD_some] at K3
          obtain ⟨C, cc, hv3, k3, k4, k5, k6⟩ := K3
          rw [HKL.out] at hv3 k3
          subst hv3
          unfold maxLen at k4
          clear hb5 ho5 k5 x0 x1 x2 x3 x4 x5 x6
          obtain ⟨j, hj⟩ : ∃ j, b = j + 1 := ⟨b - 1, by omega⟩
          have hkb : b < ks.length := by rw [HKL.out]; exact hbk
          have hkj : j < ks.length := by rw [HKL.out]; omega
          obtain ⟨b1, o1, rfl, _, kcell⟩ := k6 (by omega)
          have cb := kcell b hkb
          have cj := kcell j hkj
          have hlt : compareBytes ks[j] ks[b] < 0 := List.pairwise_iff_getElem.1 HP.out j b hkj hkb (by omega)
          have hq1 := HQ.out _ (List.getElem_mem hkj)
          have hq2 := HQ.out _ (List.getElem_mem hkb)
          have hg1 : ks.getD b [] = ks[b] := by rw [List.getD_eq_getElem?_getD, List.getElem?_eq_getElem hkb]; rfl
          have hg2 : ks.getD (b - 1) [] = ks[j] := by rw [show b - 1 = j by omega, List.getD_eq_getElem?_getD, List.getElem?_eq_getElem hkj]; rfl
          have HS0 : Hid (sepB k2 ks b = if k2 = 1 then ks[b].take (com ks[j] ks[b] + 1) else ks[b]) := by show _ = _; unfold sepB; rw [hg1, hg2]
          have CBt := Lib.hid fun W => refBetween_any ks[j] ks[b] W hq1 hq2 hlt
          have hji : (b : Int) - 1 = (j : Int) := by omega
          have v1 : IntKind.i64.wrap ((b : Int) - 1) = (j : Int) := by rw [hji]; exact IntWalk.i64_in _ ⟨by omega, by omega⟩
          have q0 : (0 : Int) ≤ (b : Int) := by omega
          have q1 : (b : Int) < (k : Int) := by omega
          have q2 : (0 : Int) ≤ (j : Int) := by omega
          have q3 : (j : Int) < (k : Int) := by omega
          have q4 : (b : Int) ≤ (k : Int) := by omega
          have q5 : (b : Int) ≤ (cp1 : Int) := by omega
          have q6 : b ≤ cp1 := by omega
          have q7 : b ≤ k := by omega
          have q8 : ¬ cp1 = b := by omega
          clear hb0 hbl hj kcell hlt hq1 hq2 hg1 hg2 k6
          generalize ks[j] = ka at *
          generalize ks[b] = kb at *
          obtain ⟨x0, x1, x2, x3, x4, x5, x6⟩ := Q5.out.cells
          by_cases hk2 : k2 = 1
          · have HSEP : Hid (sepB k2 ks b = kb.take (com ka kb + 1)) := by show _ = _; rw [HS0.out, if_pos hk2]
            have a1 : ((k2 : Int) == 1) = true := by simp; omega
            clear hk2
            generalize kb.take (com ka kb + 1) = sp at *
            go_wp2_with fail
            have e1 := ext_cell cb (cell_lt cb)
            have e2 := ext_cell cj (cell_lt cj)
            refine wp_region_ext w5.heap.size (by kernel_rfl) (by kernel_rfl) ?_
            repeat (go_big_quiet_step ((go_at_call 81; exact ext_call _ (Nat.le_refl _) (CBt.out _))))
            refine wpQuiet_nil ?_
            rintro _ ⟨y, rfl⟩
            have BY := Lib.hid (below_then BE5.out y.below)
            have TY := Lib.hid (T5.out.below y.below)
            have Q9 := Lib.hid (Q5.out.below y.below)
            generalize y.val = w8 at *
            clear e1 e2 x0 x1 x2 x3 x4 x5 x6 cb cj
            obtain ⟨x0, x1, x2, x3, x4, x5, x6⟩ := Q9.out.cells
            go_wp2_with fail
            have e6 := ext_cell x6 x0
            refine wp_region_ext w8.heap.size (by kernel_rfl) (by kernel_rfl) ?_
            repeat (go_big_quiet_step (fail))
            refine wpQuiet_nil ?_
            rintro _ ⟨z, rfl⟩
            have BZ := Lib.hid (below_then BY.out z.below)
            have TZ := Lib.hid (TY.out.below z.below)
            generalize z.val = w9 at *
            go_wp2_with fail
            (try rw [Exit.noGoto_ret])
            (try simp only [Exit.inBlock, Exit.then])
            refine bodyPost_ret (results_tmp4 rfl _ _ _) rfl ?_
            exact ⟨_, _, by have h := HR.out; rw [HSEP.out] at h; subst h; rfl, by have h := HR.out; subst h; exact TZ.out.take b cp1 (by omega) (by omega) (Nat.le_refl _), by have h := HR.out; subst h; exact TZ.out.drop b (by omega) (by omega), BZ.out⟩
          · have HSEP : Hid (sepB k2 ks b = kb) := by show _ = _; rw [HS0.out, if_neg hk2]
            have a1 : ((k2 : Int) == 1) = false := by simp; omega
            clear hk2
            have Q9 := Q5
            clear x0 x1 x2 x3 x4 x5 x6
            obtain ⟨x0, x1, x2, x3, x4, x5, x6⟩ := Q9.out.cells
            go_wp2_with fail
            have e6 := ext_cell x6 x0
            refine wp_region_ext w5.heap.size (by kernel_rfl) (by kernel_rfl) ?_
            repeat (go_big_quiet_step (fail))
            refine wpQuiet_nil ?_
            rintro _ ⟨z, rfl⟩
            have BZ := Lib.hid (below_then BE5.out z.below)
            have TZ := Lib.hid (T5.out.below z.below)
            generalize z.val = w9 at *
            go_wp2_with fail
            (try rw [Exit.noGoto_ret])
            (try simp only [Exit.inBlock, Exit.then])
            refine bodyPost_ret (results_tmp4 rfl _ _ _) rfl ?_
            exact ⟨_, _, by have h := HR.out; rw [HSEP.out] at h; subst h; rfl, by have h := HR.out; subst h; exact TZ.out.take b cp1 (by omega) (by omega) (Nat.le_refl _), by have h := HR.out; subst h; exact TZ.out.drop b (by omega) (by omega), BZ.out⟩
  · have a1 : (e2 != 0) = true := by simpa using he
    have HR := Lib.hid (R1.out he)
    have B2 := Lib.hid (below_then B1.out BP.out)
    go_wp2_with fail
    (try rw [Exit.noGoto_ret])
    (try simp only [Exit.inBlock, Exit.then])
    refine bodyPost_ret (results_tmp4 rfl _ _ _) rfl ?_
    exact SplitPost.no HR.out B2.out

end Go.Proofs.Ytjcfnfpilladfaa
