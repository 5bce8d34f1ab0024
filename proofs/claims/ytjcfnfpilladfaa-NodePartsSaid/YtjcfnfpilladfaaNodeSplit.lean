/- chapter 08: Split -/
import Derived.Test.YtjcfnfpilladfaaRows
import Derived.Test.YtjcfnfpilladfaaNodeWith
import Derived.Test.YtjcfnfpilladfaaNodeBetween
import Derived.Test.YtjcfnfpilladfaaNodeWeigh
import Derived.Test.YtjcfnfpilladfaaBase
import Derived.WalkKit
import Derived.WalkLawsBesides
import Derived.WalkSpells
import Derived.LoopTactic
import Derived.WalkMore
import Derived.LoopN
import Derived.Laws.BitsAllLaws
import Derived.Laws.IdiomStrings
import Derived.BigQuiet
import Derived.Deep.QuietTactic
import Derived.Deep.DeepCutAuto
import Derived.Deep.RegionHeld3
import Derived.Deep.DrawnRows
import Derived.Lib.Hide
import Derived.Outline
import Derived.Deep.DeepMust
import Derived.Handy
namespace Go.Proofs.Ytjcfnfpilladfaa
open Go.RowKit
set_option linter.unusedVariables false
set_option linter.unusedSimpArgs false

open Go.Lib (compareBytes)
/-- What a call leaves that gives two slices of texts, a text and an error. -/
def SplitPost (w : World) (R : (List (List UInt8) × List (List UInt8)) × (List UInt8 × Int)) (e : Ending) (w' : World) : Prop :=
  ∃ u v, e = .returned (.tuple #[u, v, .string ⟨R.2.1.toArray⟩, .int .i64 R.2.2]) ∧ TextsAt w' u R.1.1 ∧ TextsAt w' v R.1.2 ∧ Below w.heap.size w w'
theorem SplitPost.no {w w' : World} {R : (List (List UInt8) × List (List UInt8)) × (List UInt8 × Int)} {n : Int} (hR : R = (([], []), ([], n))) (hb : Below w.heap.size w w') : SplitPost w R (.returned (.tuple #[.slice none 0 0, .slice none 0 0, .string ⟨#[]⟩, .int .i64 n])) w' := by
  subst hR
  exact ⟨_, _, rfl, TextsAt.nil _, TextsAt.nil _, hb⟩
theorem results_tmp4 {fn : Func} {t u v x : Tmp} (h : fn.results = #[.tmp t, .tmp u, .tmp v, .tmp x]) (tmps : Array Value) (P : Program) (w : World) :
    (results fn tmps).run P w = .ok (.tuple #[tmps.getD t undef, tmps.getD u undef, tmps.getD v undef, tmps.getD x undef]) w := by
  simp [results, h]
/-- The last texts of a slice. -/
theorem TextsAt.drop {w : World} {b o n cp : Nat} {ts : List (List UInt8)} (h : TextsAt w (.slice (some ⟨b, o, none⟩) n cp) ts) (k : Nat) (hk : k ≤ n) (hn : 0 < n) : TextsAt w (.slice (some ⟨b, o + k, none⟩) (n - k) (cp - k)) (ts.drop k) := by
  obtain ⟨A', cp', e, h2, h3, h4, h5⟩ := h
  injection e with e1 e2 e3
  subst e1; subst e3; subst e2
  have hl : (ts.drop k).length = ts.length - k := by simp
  refine ⟨_, cp - k, by rw [hl], by omega, (by unfold maxLen at *; omega), fun h => (by cases h), fun h0 => ?_⟩
  obtain ⟨b', o', e, h7, h8⟩ := h5 hn
  injection e with e
  injection e with e1 e2
  subst e1; subst e2
  exact ⟨b, o + k, rfl, h7, fun j hj => by rw [Nat.add_assoc, h8 (k + j) (by omega), List.getElem_drop]⟩
def leastN (rows : List (List UInt8)) (k : Nat) : Nat := if bestN rows k = 0 then 0 else apartN rows (bestN rows k)
theorem least_same {rows : List (List UInt8)} {k : Nat} (h : bestN rows (k + 1) = bestN rows k) : bestN rows (k + 1) = bestN rows k ∧ leastN rows (k + 1) = leastN rows k := ⟨h, by unfold leastN; rw [h]⟩
theorem least_take {rows : List (List UInt8)} {k : Nat} (h1 : 1 ≤ k) (h : bestN rows (k + 1) = k) : bestN rows (k + 1) = k ∧ leastN rows (k + 1) = apartN rows k := ⟨h, by unfold leastN; rw [h, if_neg (by omega)]⟩
theorem run_max_nat {P : Program} (a b : Nat) (ats : Array TypeId) (ty : TypeId) (W : World) : (Builtin.max_ ats ty #[.int .i64 (a : Nat), .int .i64 (b : Nat)]).run P W = .ok (.int .i64 (max a b : Nat)) W := by
  simp [Builtin.max_, Builtin.max2]
  split <;> omega
theorem run_max_diff {P : Program} (a b : Nat) (ats : Array TypeId) (ty : TypeId) (W : World) : (Builtin.max_ ats ty #[.int .i64 ((a : Int) - (b : Int)), .int .i64 ((b : Int) - (a : Int))]).run P W = .ok (.int .i64 ((a - b) + (b - a) : Nat)) W := by
  simp [Builtin.max_, Builtin.max2]
  split <;> omega
set_option maxHeartbeats 1500000 in
set_option maxRecDepth 100000 in
theorem nodeSplit_any (p : Pg) (sv : Value) (i : Int) (x : List UInt8) (is : Bool) (w : World) (hp : p.wf) (ht : TextsAt w sv p.rows) (hb : weightB p.rows + (4 + x.length) ≤ 1000000) (hi0 : -9223372036854775808 ≤ i) (hi1 : i ≤ 9223372036854775807) :
    Calls Try.prog 35 #[pgV p sv, .int .i64 i, .string ⟨x.toArray⟩, .bool is] w (SplitPost w (splitB p i x is)) := by
  have CW := Lib.hid fun W (h : TextsAt W sv p.rows) => nodeWith0_any p sv i x is W hp h hb hi0 hi1
  have HT := Lib.hid ht
  have R1 : Hid (¬ (putB p i x is).2 = 0 → splitB p i x is = (([], []), ([], (putB p i x is).2))) := fun h => by unfold splitB; rw [if_neg h]
  have R2 : Hid ((putB p i x is).2 = 0 → bestN (putB p i x is).1.rows (putB p i x is).1.rows.length = 0 → splitB p i x is = (([], []), ([], 2))) := fun h h2 => by unfold splitB; rw [if_pos h, if_pos h2]
  have R3 : Hid ((putB p i x is).2 = 0 → ∀ b ks, bestN (putB p i x is).1.rows (putB p i x is).1.rows.length = b → ¬ b = 0 → keysB (putB p i x is).1 = some ks → splitB p i x is = (((putB p i x is).1.rows.take b, (putB p i x is).1.rows.drop b), (sepB (putB p i x is).1.kind ks b, 0))) := fun h b ks hb2 h2 h3 => by
    have hq := (putB_ok h).2.2.2
    have hkd : (putB p i x is).1.kind = p.kind := by rw [hq]; rfl
    subst hb2
    unfold splitB
    rw [if_pos h, if_neg h2, h3, hkd]
    rfl
  have F1 : Hid ((putB p i x is).2 = 0 → ∃ ks, keysB (putB p i x is).1 = some ks ∧ ks.length = (putB p i x is).1.rows.length ∧ 1 ≤ (putB p i x is).1.rows.length ∧ ks.Pairwise (fun a b => compareBytes a b < 0) ∧ (∀ q ∈ ks, q.length ≤ 1000000) ∧ weightB (putB p i x is).1.rows ≤ 1000000 ∧ ∀ sv' W, TextsAt W sv' (putB p i x is).1.rows → Calls Try.prog 75 #[pgV (putB p i x is).1 sv'] W (KeysPost W (keysB (putB p i x is).1))) := fun h => by
    obtain ⟨_, _, hk, hq⟩ := putB_ok h
    have hq1 : (putB p i x is).1 = p.with (putRows p.rows i.toNat x is) := by rw [hq]
    rw [hq1]
    obtain ⟨ks, hks⟩ := Option.isSome_iff_exists.1 hk
    obtain ⟨_, hl, _, hpw⟩ := keysB_get hks
    have hwt : weightB (putRows p.rows i.toNat x is) ≤ 1000000 := by have := putRows_weight p.rows i.toNat x is; omega
    refine ⟨ks, hks, hl, ?_, hpw, key_le (p := p.with (putRows p.rows i.toNat x is)) hwt hks, hwt, fun sv' W hT => nodeKeys_any (p.with (putRows p.rows i.toNat x is)) sv' W hp hT hwt⟩
    show 1 ≤ (putRows p.rows i.toNat x is).length
    unfold putRows
    simp
    omega
  generalize splitB p i x is = R at *
  generalize (putB p i x is) = Q at *
  obtain ⟨⟨k2, l2, i2, s2, n2, rows2⟩, e2⟩ := Q
  generalize keysB ⟨k2, l2, i2, s2, n2, rows2⟩ = K at *
  unfold pgV at *
  obtain ⟨kind, level, id, lsn, next, rows⟩ := p
  clear hp hb ht
  simp only at *
  have B0 := Lib.hid (alloc_below w (.cells #[.int .u8 kind, .int .u8 level, .int .u32 id, .int .u64 lsn, .int .u32 next, sv] 45))
  go_enter Try.func35, Try.ntmps35
  go_wp2_with fail
  go_step3
  go_wp2_with fail
  generalize w.alloc (.cells #[.int .u8 kind, .int .u8 level, .int .u32 id, .int .u64 lsn, .int .u32 next, sv] 45) = w0 at *
  have T0 := Lib.hid (HT.out.below B0.out)
  refine (CW.out _ T0.out).mono ?_
  rintro e w1 ⟨sv1, rfl, hT1, hb1⟩
  have B1 := Lib.hid (below_then B0.out hb1)
  unfold pgV at *
  have HT1 := Lib.hid hT1
  obtain ⟨A1, cp1, hv1, g2, g3, g4, g5⟩ := hT1
  obtain ⟨n, hn⟩ : ∃ n, n = rows2.length := ⟨_, rfl⟩
  rw [← hn] at hv1 g2
  subst hv1
  have HN := Lib.hid hn
  have H5 := Lib.hid g5
  unfold maxLen at g3
  clear hb1 g4 g5 hn
  simp only at *
  have P2 := Lib.hid (PgBox.new w1 k2 l2 i2 s2 n2 (.slice A1 n cp1))
  have BP := Lib.hid (alloc_below w1 (.cells #[.int .u8 k2, .int .u8 l2, .int .u32 i2, .int .u64 s2, .int .u32 n2, .slice A1 n cp1] 45))
  by_cases he : e2 = 0
  · subst he
    obtain ⟨ks, hK, hkl, hr1, hpw, hkq, hwt, hcs⟩ := F1.out rfl
    subst hK
    have CS := Lib.hid (hcs (.slice A1 n cp1))
    have G2 := Lib.hid (R2.out rfl)
    have G3 := Lib.hid (fun b h1 h2 => R3.out rfl b ks h1 h2 rfl)
    have HP := Lib.hid hpw
    have HQ := Lib.hid hkq
    have HW := Lib.hid hwt
    have HKL : Hid (ks.length = n) := by show _ = _; rw [HN.out]; exact hkl
    have hn1 : 1 ≤ n := by rw [HN.out]; exact hr1
    clear R1 R2 R3 F1 hcs hpw hkq hwt hkl hr1
    go_wp2_with fail
    refine (CS.out _ (HT1.out.below BP.out)).mono ?_
    rintro e w3 ⟨v3, rfl, ho3, hb3⟩
    have B3 := Lib.hid (below_then B1.out (below_then BP.out hb3))
    have Q3 := Lib.hid (P2.out.below hb3)
    have T3 := Lib.hid ((HT1.out.below BP.out).below hb3)
    have K3 := (texts_own ho3).1
    simp only [Option.getD_some] at K3
    obtain ⟨C, cc, hv3, k3, k4, k5, k6⟩ := K3
    rw [HKL.out] at hv3 k3
    subst hv3
    unfold maxLen at k4
    have K6 := Lib.hid k6
    clear hb3 ho3 P2 BP HT1 k5 k6
    obtain ⟨x0, x1, x2, x3, x4, x5, x6⟩ := Q3.out.cells
    go_wp2_with fail
    go_step3
    go_wp2_with fail
    go_loopw [15, 16, 17] (fun s15 s16 s17 wr => ∃ k : Nat, s17 = .int .i64 k ∧ 1 ≤ k ∧ k ≤ n ∧ s15 = .int .i64 (bestN rows2 k : Nat) ∧ s16 = .int .i64 (leastN rows2 k : Nat) ∧ Hid (Below w3.heap.size w3 wr)) (fun _ _ v _ => n - (intOf v).toNat)
    case atStart => exact ⟨1, rfl, Nat.le_refl _, hn1, by rw [bestN_one]; rfl, by unfold leastN; rw [bestN_one]; rfl, Lib.hid (Below.refl _ _)⟩
    case round =>
      obtain ⟨k, rfl, hk1, hkn, rfl, rfl, hB⟩ := hrel
      clear x0 x1 x2 x3 x4 x5 x6
      have Q4 := Lib.hid (Q3.out.below hB.out)
      obtain ⟨x0, x1, x2, x3, x4, x5, x6⟩ := Q4.out.cells
      have T4 := Lib.hid (T3.out.below hB.out)
      obtain ⟨b0, o0, rfl, _, _⟩ := H5.out (by have := HN.out; omega)
      by_cases hc : k < n
      · have hci : (k : Int) < (n : Int) := by omega
        have wta : weightB (rows2.take k) ≤ 1000000 := Nat.le_trans (weightB_take_le _ _) HW.out
        have wtb : weightB (rows2.drop k) ≤ 1000000 := by have h1 : weightB (rows2.take k) + weightB (rows2.drop k) = weightB rows2 := (by rw [← weightB_append, List.take_append_drop]); have := HW.out; omega
        have CA : Hid (∀ y : Ext wr.heap.size wr, Calls Try.prog 76 #[.slice (some ⟨b0, o0, none⟩) k cp1] y.val fun e w' => e = .returned (.int .i64 (weightB (rows2.take k) : Nat)) ∧ y.val = w') := fun y => (nodeWeight_any (.slice (some ⟨b0, o0, none⟩) k cp1) (rows2.take k) y.val ((T4.out.below y.below).take k cp1 (by omega) (by omega) (Nat.le_refl _)) wta).mono fun _ _ ⟨h1, h2⟩ => ⟨h1, h2.symm⟩
        have CB : Hid (∀ y : Ext wr.heap.size wr, Calls Try.prog 76 #[.slice (some ⟨b0, o0 + k, none⟩) (n - k) (cp1 - k)] y.val fun e w' => e = .returned (.int .i64 (weightB (rows2.drop k) : Nat)) ∧ y.val = w') := fun y => (nodeWeight_any (.slice (some ⟨b0, o0 + k, none⟩) (n - k) (cp1 - k)) (rows2.drop k) y.val ((T4.out.below y.below).drop k (by omega) (by omega)) wtb).mono fun _ _ ⟨h1, h2⟩ => ⟨h1, h2.symm⟩
        have hck : ¬ cp1 = k := by omega
        have q0 : (0 : Int) ≤ (k : Int) := by omega
        have q1 : (k : Int) ≤ (cp1 : Int) := by omega
        have q2 : k ≤ cp1 := by omega
        have q3 : (k : Int) ≤ (n : Int) := by omega
        have E1 : Hid (cutOk rows2 k = false → _) := fun h => least_same (bestN_skip h)
        have E2 : Hid (cutOk rows2 k = true → (bestN rows2 k = 0 ∨ apartN rows2 k < apartN rows2 (bestN rows2 k)) → _) := fun h h2 => least_take hk1 (bestN_take hk1 h h2)
        have E3 : Hid (¬ (bestN rows2 k = 0 ∨ apartN rows2 k < apartN rows2 (bestN rows2 k)) → _) := fun h => least_same (bestN_keep h)
        have EL : Hid (¬ bestN rows2 k = 0 → leastN rows2 k = apartN rows2 (bestN rows2 k)) := fun h => by unfold leastN; rw [if_neg h]
        have hbl : bestN rows2 k ≤ k := by rcases bestN_lt rows2 k with h | h <;> omega
        have hap : apartN rows2 k = (weightB (rows2.take k) - weightB (rows2.drop k)) + (weightB (rows2.drop k) - weightB (rows2.take k)) := rfl
        have hcut : cutOk rows2 k = (decide (weightB (rows2.take k) ≤ 484) && decide (weightB (rows2.drop k) ≤ 484)) := rfl
        have hll : leastN rows2 k ≤ 2000000 := by
          unfold leastN
          split
          · omega
          · unfold apartN
            have h1 : ∀ j, weightB (rows2.take j) ≤ 1000000 := fun j => Nat.le_trans (weightB_take_le _ _) HW.out
            have h2 : ∀ j, weightB (rows2.drop j) ≤ 1000000 := fun j => by have h1 : weightB (rows2.take j) + weightB (rows2.drop j) = weightB rows2 := (by rw [← weightB_append, List.take_append_drop]); have := HW.out; omega
            have := h1 (bestN rows2 k)
            have := h2 (bestN rows2 k)
            omega
        generalize weightB (rows2.take k) = wa at *
        generalize weightB (rows2.drop k) = wb at *
        have hmx := run_max_nat (P := Try.prog) wa wb
        have hmd := run_max_diff (P := Try.prog) wa wb
        rw [← hap] at hmd
        have HAP := Lib.hid hap
        have hap2 : apartN rows2 k ≤ 1000000 := by omega
        clear hap
        generalize apartN rows2 (bestN rows2 k) = ab at *
        generalize apartN rows2 k = ak at *
        generalize bestN rows2 k = bk at *
        generalize leastN rows2 k = lk at *
        go_wp2_with fail
        have e0 := ext_cell x6 x0
        refine wp_region_ext wr.heap.size (by kernel_rfl) (by kernel_rfl) ?_
        repeat (go_big_quiet_step (first
          | (go_at_call 76; with_reducible exact ext_same _ (CA.out _))
          | (go_at_call 76; with_reducible exact ext_same _ (CB.out _))))
        refine wpQuiet_nil ?_
        rintro _ ⟨y, rfl⟩
        have B4 := Lib.hid (below_then hB.out y.below)
        generalize y.val = w5 at *
        clear e0 x0 x1 x2 x3 x4 x5 x6
        cases hok : cutOk rows2 k with
        | false =>
          have E := Lib.hid (E1.out hok)
          have hm : 484 < max wa wb := by
            rw [hok] at hcut
            have := hcut.symm
            simp only [Bool.and_eq_false_iff, decide_eq_false_iff_not] at this
            omega
          have hm1 : (484 : Int) < ((max wa wb : Nat) : Int) := by omega
          clear hok hcut E1 E2 E3
          generalize max wa wb = mx at *
          go_wp2_with fail
          go_roundw
          case rel => exact ⟨k + 1, by go_num, by omega, by omega, by rw [E.out.1], by rw [E.out.2], B4⟩
          case measure => simp [intOf]; omega
        | true =>
          have hm : ¬ 484 < max wa wb := by
            rw [hok] at hcut
            have := hcut.symm
            simp only [Bool.and_eq_true, decide_eq_true_eq] at this
            omega
          have hm1 : ¬ (484 : Int) < ((max wa wb : Nat) : Int) := by omega
          have E2b := Lib.hid (E2.out hok)
          clear hok hcut E1 E2
          generalize max wa wb = mx at *
          by_cases hb0 : bk = 0
          · have E := Lib.hid (E2b.out (.inl hb0))
            have c1 : ((bk : Int) == 0) = true := by simp; omega
            clear hb0
            go_wp2_with fail
            go_roundw
            case rel => exact ⟨k + 1, by go_num, by omega, by omega, by rw [E.out.1], by rw [E.out.2], B4⟩
            case measure => simp [intOf]; omega
          · have c1 : ((bk : Int) == 0) = false := by simp; omega
            have hl := EL.out hb0
            by_cases hlt : ak < lk
            · have E := Lib.hid (E2b.out (.inr (by omega)))
              have c2 : (ak : Int) < (lk : Int) := by omega
              clear hb0 hl
              go_wp2_with fail
              go_roundw
              case rel => exact ⟨k + 1, by go_num, by omega, by omega, by rw [E.out.1], by rw [E.out.2], B4⟩
              case measure => simp [intOf]; omega
            · have E := Lib.hid (E3.out (by omega))
              have c2 : ¬ (ak : Int) < (lk : Int) := by omega
              clear hb0 hl
              go_wp2_with fail
              go_roundw
              case rel => exact ⟨k + 1, by go_num, by omega, by omega, by rw [E.out.1], by rw [E.out.2], B4⟩
              case measure => simp [intOf]; omega
      · have hci : ¬ (k : Int) < (n : Int) := by omega
        obtain rfl : k = n := by omega
        have BE := Lib.hid (below_then B3.out hB.out)
        have hbl := bestN_lt rows2 k
        clear x0 x1 x2 x3 x4 x5 x6
        by_cases hb0 : bestN rows2 k = 0
        · have HR := Lib.hid (G2.out (by rw [← HN.out]; exact hb0))
          have c1 : ((bestN rows2 k : Int) == 0) = true := by simp; omega
          clear hb0 hbl
          generalize bestN rows2 k = b at *
          go_wp2_with fail
          (try rw [Exit.noGoto_ret])
          (try simp only [Exit.inBlock, Exit.then])
          refine bodyPost_ret (results_tmp4 rfl _ _ _) rfl ?_
          exact SplitPost.no HR.out BE.out
        · have HR := Lib.hid (G3.out (bestN rows2 k) (by rw [← HN.out]) hb0)
          have c1 : ((bestN rows2 k : Int) == 0) = false := by simp; omega
          generalize bestN rows2 k = b at *
          have hbk : b < k := by omega
          obtain ⟨j, hj⟩ : ∃ j, b = j + 1 := ⟨b - 1, by omega⟩
          have hkb : b < ks.length := by rw [HKL.out]; exact hbk
          have hkj : j < ks.length := by rw [HKL.out]; omega
          obtain ⟨b1, o1, rfl, _, kcell⟩ := K6.out (by omega)
          have cb := keep_cell hB.out (kcell b hkb)
          have cj := keep_cell hB.out (kcell j hkj)
          have hlt : compareBytes ks[j] ks[b] < 0 := List.pairwise_iff_getElem.1 HP.out j b hkj hkb (by omega)
          have hq1 := HQ.out _ (List.getElem_mem hkj)
          have hq2 := HQ.out _ (List.getElem_mem hkb)
          have hg1 : ks.getD b [] = ks[b] := by rw [List.getD_eq_getElem?_getD, List.getElem?_eq_getElem hkb]; rfl
          have hg2 : ks.getD (b - 1) [] = ks[j] := by rw [show b - 1 = j by omega, List.getD_eq_getElem?_getD, List.getElem?_eq_getElem hkj]; rfl
          have HS0 : Hid (sepB k2 ks b = if k2 = 1 then ks[b].take (com ks[j] ks[b] + 1) else ks[b]) := by show _ = _; unfold sepB; rw [hg1, hg2]
          have CBt := Lib.hid fun W => keyBetween_l ks[j] ks[b] W hq1 hq2 hlt
          have hji : (b : Int) - 1 = (j : Int) := by omega
          have v1 : IntKind.i64.wrap ((b : Int) - 1) = (j : Int) := by rw [hji]; exact IntWalk.i64_in _ ⟨by omega, by omega⟩
          have q0 : (0 : Int) ≤ (b : Int) := by omega
          have q1 : (b : Int) < (k : Int) := by omega
          have q2 : (0 : Int) ≤ (j : Int) := by omega
          have q3 : (j : Int) < (k : Int) := by omega
          have q4 : (b : Int) ≤ (k : Int) := by omega
          have q5 : (b : Int) ≤ (cp1 : Int) := by omega
          have q6 : b ≤ cp1 := by omega
          have q7 : b ≤ k := by omega
          have q8 : ¬ cp1 = b := by omega
          clear hb0 hbl hj kcell hlt hq1 hq2 hg1 hg2
          generalize ks[j] = ka at *
          generalize ks[b] = kb at *
          obtain ⟨x0, x1, x2, x3, x4, x5, x6⟩ := Q4.out.cells
          by_cases hk2 : k2 = 1
          · have HSEP : Hid (sepB k2 ks b = kb.take (com ka kb + 1)) := by show _ = _; rw [HS0.out, if_pos hk2]
            have a1 : ((k2 : Int) == 1) = true := by simp; omega
            clear hk2
            generalize kb.take (com ka kb + 1) = sp at *
            go_wp2_with fail
            have e1 := ext_cell cb (cell_lt cb)
            have e2 := ext_cell cj (cell_lt cj)
            refine wp_region_ext wr.heap.size (by kernel_rfl) (by kernel_rfl) ?_
            repeat (go_big_quiet_step ((go_at_call 77; exact ext_call _ (Nat.le_refl _) (CBt.out _))))
            refine wpQuiet_nil ?_
            rintro _ ⟨y, rfl⟩
            have BY := Lib.hid (below_then BE.out y.below)
            have TY := Lib.hid (T4.out.below y.below)
            have Q9 := Lib.hid (Q4.out.below y.below)
            generalize y.val = w8 at *
            clear e1 e2 x0 x1 x2 x3 x4 x5 x6 cb cj
            obtain ⟨x0, x1, x2, x3, x4, x5, x6⟩ := Q9.out.cells
            go_wp2_with fail
            have e6 := ext_cell x6 x0
            refine wp_region_ext w8.heap.size (by kernel_rfl) (by kernel_rfl) ?_
            repeat (go_big_quiet_step (fail))
            refine wpQuiet_nil ?_
            rintro _ ⟨z, rfl⟩
            have BZ := Lib.hid (below_then BY.out z.below)
            have TZ := Lib.hid (TY.out.below z.below)
            generalize z.val = w9 at *
            go_wp2_with fail
            (try rw [Exit.noGoto_ret])
            (try simp only [Exit.inBlock, Exit.then])
            refine bodyPost_ret (results_tmp4 rfl _ _ _) rfl ?_
            exact ⟨_, _, by have h := HR.out; rw [HSEP.out] at h; subst h; rfl, by have h := HR.out; subst h; exact TZ.out.take b b (by omega) (Nat.le_refl _) (by omega), by have h := HR.out; subst h; exact TZ.out.drop b (by omega) (by omega), BZ.out⟩
          · have HSEP : Hid (sepB k2 ks b = kb) := by show _ = _; rw [HS0.out, if_neg hk2]
            have a1 : ((k2 : Int) == 1) = false := by simp; omega
            clear hk2
            have Q9 := Q4
            clear x0 x1 x2 x3 x4 x5 x6
            obtain ⟨x0, x1, x2, x3, x4, x5, x6⟩ := Q9.out.cells
            go_wp2_with fail
            have e6 := ext_cell x6 x0
            refine wp_region_ext wr.heap.size (by kernel_rfl) (by kernel_rfl) ?_
            repeat (go_big_quiet_step (fail))
            refine wpQuiet_nil ?_
            rintro _ ⟨z, rfl⟩
            have BZ := Lib.hid (below_then BE.out z.below)
            have TZ := Lib.hid (T4.out.below z.below)
            generalize z.val = w9 at *
            go_wp2_with fail
            (try rw [Exit.noGoto_ret])
            (try simp only [Exit.inBlock, Exit.then])
            refine bodyPost_ret (results_tmp4 rfl _ _ _) rfl ?_
            exact ⟨_, _, by have h := HR.out; rw [HSEP.out] at h; subst h; rfl, by have h := HR.out; subst h; exact TZ.out.take b b (by omega) (Nat.le_refl _) (by omega), by have h := HR.out; subst h; exact TZ.out.drop b (by omega) (by omega), BZ.out⟩
  · have a1 : (e2 != 0) = true := by simpa using he
    have HR := Lib.hid (R1.out he)
    have B2 := Lib.hid (below_then B1.out BP.out)
    go_wp2_with fail
    (try rw [Exit.noGoto_ret])
    (try simp only [Exit.inBlock, Exit.then])
    refine bodyPost_ret (results_tmp4 rfl _ _ _) rfl ?_
    exact SplitPost.no HR.out B2.out

end Go.Proofs.Ytjcfnfpilladfaa
