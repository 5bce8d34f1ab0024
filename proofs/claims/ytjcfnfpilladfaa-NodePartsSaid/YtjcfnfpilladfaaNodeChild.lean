/- chapter 08: below which child a key is -/
import Derived.Test.YtjcfnfpilladfaaRows
import Derived.Test.YtjcfnfpilladfaaNodeFind
import Derived.Test.YtjcfnfpilladfaaEntA
import Derived.WalkKit
import Derived.WalkLawsBesides
import Derived.WalkSpells
import Derived.LoopTactic
import Derived.WalkMore
import Derived.LoopN
import Derived.Laws.BitsAllLaws
import Derived.Laws.IdiomStrings
import Derived.BigQuiet
import Derived.Deep.QuietTactic
import Derived.Deep.DeepCutAuto
import Derived.Deep.RegionHeld3
import Derived.Deep.DrawnRows
import Derived.Lib.Hide
import Derived.Outline
import Derived.Deep.DeepMust
import Derived.Handy
namespace Go.Proofs.Ytjcfnfpilladfaa
open Go.RowKit
set_option linter.unusedVariables false
set_option linter.unusedSimpArgs false

open Go.Lib (compareBytes)
/-- An entry's child. -/
def childNo (l : List UInt8) : Nat := rdNum l 0 4
theorem child_facts {p : Pg} {k : List UInt8} (h2 : p.kind = 2) (h : checkB p = true) : ∃ ks, keysB p = some ks ∧ findB p k = (findN ks k, findIs ks k) ∧ ks.length = p.rows.length ∧ ks.Pairwise (fun a b => compareBytes a b < 0) ∧ ∃ hl : childN ks k < p.rows.length, decEntOk p.rows[childN ks k] = true ∧ childB childNo p k = (childNo p.rows[childN ks k], childN ks k, 0) := by
  obtain ⟨ks, hk, hs, hl, hg, hp⟩ := check_keys h
  have hs2 := shape_kind hs
  have hlt : childN ks k < p.rows.length := by rw [← hl]; exact childN_lt k (by omega)
  refine ⟨ks, hk, ?_, hl, hp, hlt, ?_, ?_⟩
  · unfold findB
    rw [h, hk]
    rfl
  · have := hg _ hlt
    unfold keyB at this
    rw [if_neg (by omega)] at this
    split at this
    · assumption
    · cases this
  · unfold childB
    rw [if_pos ⟨h2, h⟩, hk]
    simp only [Option.getD_some]
    rw [show p.rows.getD (childN ks k) [] = p.rows[childN ks k] by rw [List.getD_eq_getElem?_getD, List.getElem?_eq_getElem hlt]; rfl]
theorem child_no {p : Pg} {k : List UInt8} (h : ¬ (p.kind = 2 ∧ checkB p = true)) : childB childNo p k = (0, 0, 7) := by unfold childB; rw [if_neg h]
theorem run_max_pred {P : Program} (F : Nat) (ats : Array TypeId) (ty : TypeId) (W : World) : (Builtin.max_ ats ty #[.int .i64 ((F : Int) - 1), .int .i64 0]).run P W = .ok (.int .i64 (F - 1 : Nat)) W := by
  simp [Builtin.max_, Builtin.max2]
  split <;> omega
set_option maxHeartbeats 2000000 in
set_option maxRecDepth 100000 in
theorem nodeChild_any (p : Pg) (sv : Value) (k : List UInt8) (w : World) (hp : p.wf) (ht : TextsAt w sv p.rows) (hb : weightB p.rows ≤ 1000000) :
    Calls Try.prog 43 #[pgV p sv, .string ⟨k.toArray⟩] w fun e w' => e = .returned (.tuple #[.int .u32 ((childB childNo p k).1 : Nat), .int .i64 ((childB childNo p k).2.1 : Nat), .int .i64 (childB childNo p k).2.2]) ∧ Below w.heap.size w w' := by
  have CK := Lib.hid fun W (h : TextsAt W sv p.rows) => nodeCheck_any p sv W hp h hb
  have CF := Lib.hid fun W (h : TextsAt W sv p.rows) => nodeFind_any p sv k W hp h hb
  have HT := Lib.hid ht
  have HWt : Hid (∀ i (h : i < p.rows.length), p.rows[i].length ≤ 1000000) := fun i h => by have := weightB_mem (List.getElem_mem h); omega
  have hnb : p.rows.length ≤ 1000000 := by have := weightB_length p.rows; omega
  obtain ⟨n, hn⟩ : ∃ n, n = p.rows.length := ⟨_, rfl⟩
  obtain ⟨A, cp, hsv, h2, h3, h4, h5⟩ := ht
  rw [← hn] at hsv h2 hnb
  subst hsv
  have H5 := Lib.hid h5
  have R1 : Hid (¬ (p.kind = 2 ∧ checkB p = true) → childB childNo p k = (0, 0, 7)) := child_no
  have R2 : Hid (p.kind = 2 → checkB p = true → ∃ ks, keysB p = some ks ∧ findB p k = (findN ks k, findIs ks k) ∧ ks.length = p.rows.length ∧ ks.Pairwise (fun a b => compareBytes a b < 0) ∧ ∃ hl : childN ks k < p.rows.length, decEntOk p.rows[childN ks k] = true ∧ childB childNo p k = (childNo p.rows[childN ks k], childN ks k, 0)) := child_facts
  generalize hc : checkB p = c at *
  generalize childB childNo p k = R at *
  generalize findB p k = FB at *
  generalize keysB p = K at *
  clear hc h4 h5
  unfold pgV at *
  obtain ⟨kind, level, id, lsn, next, rows⟩ := p
  clear hp hb
  have HN := Lib.hid hn
  clear hn
  simp only at *
  unfold maxLen at h3
  have X0 := Lib.hid (PgBox.new w kind level id lsn next (.slice A n cp))
  have B0 := Lib.hid (alloc_below w (.cells #[.int .u8 kind, .int .u8 level, .int .u32 id, .int .u64 lsn, .int .u32 next, .slice A n cp] 45))
  by_cases hk : kind = 2
  · have a1 : ((kind : Int) != 2) = false := by simp; omega
    have HK := Lib.hid hk
    clear hk
    go_enter Try.func43, Try.ntmps43
    go_wp2_with fail
    generalize w.alloc (.cells #[.int .u8 kind, .int .u8 level, .int .u32 id, .int .u64 lsn, .int .u32 next, .slice A n cp] 45) = w0 at *
    have T0 := Lib.hid (HT.out.below B0.out)
    refine (CK.out _ T0.out).mono ?_
    rintro e w1 ⟨rfl, hb1⟩
    have B1 := Lib.hid (below_then B0.out hb1)
    have T1 := Lib.hid (T0.out.below hb1)
    have X1 := Lib.hid (X0.out.below hb1)
    obtain ⟨x0, x1, x2, x3, x4, x5, x6⟩ := X1.out.cells
    clear hb1
    cases c with
    | false =>
      have HR := Lib.hid (R1.out (by simp))
      unfold chkN
      go_wp2_with fail
      go_ret3
      exact ⟨by have h := HR.out; subst h; rfl, B1.out⟩
    | true =>
      unfold chkN
      obtain ⟨ks, _, hF, hl, _, hlt, hd, hR⟩ := R2.out HK.out rfl
      have HR := Lib.hid hR
      have hF1 := findN_le ks k
      have hm : childN ks k = if findIs ks k then findN ks k else findN ks k - 1 := rfl
      subst hF
      clear hR
      go_wp2_with fail
      refine (CF.out _ T1.out).mono ?_
      rintro e w2 ⟨rfl, hb2⟩
      have B2 := Lib.hid (below_then B1.out hb2)
      have X2 := Lib.hid (X1.out.below hb2)
      clear hb2 x0 x1 x2 x3 x4 x5 x6
      obtain ⟨x0, x1, x2, x3, x4, x5, x6⟩ := X2.out.cells
      have hM := run_max_pred (P := Try.prog) (findN ks k)
      obtain ⟨b0, o0, rfl, hb0, hcell⟩ := H5.out (by omega)
      have c1 := keep_cell B2.out (hcell _ hlt)
      have HS := Lib.hid (HWt.out _ hlt)
      have hmn : (childN ks k : Int) < (n : Int) := by have := HN.out; omega
      have q1 : (0 : Int) ≤ (childN ks k : Int) := by omega
      have e1 : Hid (decEntV rows[childN ks k] = .tuple #[.agg #[.string ⟨(rows[childN ks k].drop 4).toArray⟩, .int .u32 (childNo rows[childN ks k])], .int .i64 0]) := by show _ = _; unfold decEntV; rw [if_pos hd]; rfl
      have CE := Lib.hid fun W => entDecode_any ⟨rows[childN ks k].toArray⟩ W (by simpa [ByteArray.size] using HS.out)
      have CE2 : Hid (∀ W, Calls Try.prog 86 #[.string ⟨rows[childN ks k].toArray⟩] W fun e w' => e = .returned (.tuple #[.agg #[.string ⟨(rows[childN ks k].drop 4).toArray⟩, .int .u32 (childNo rows[childN ks k])], .int .i64 0]) ∧ Below W.heap.size W w') := fun W => by rw [← e1.out]; exact CE.out W
      have hF2 : findN ks k ≤ 1000000 := by have := HN.out; omega
      have HL : Hid (ks.length = rows.length) := hl
      clear hcell e1 CE hd HS hF1 hl
      generalize rows[childN ks k] = r at *
      generalize hI : findIs ks k = I at *
      clear hI
      cases I with
      | true =>
        rw [if_pos rfl] at hm
        generalize childN ks k = m at *
        subst hm
        clear hM
        generalize findN ks k = m at *
        go_wp2_with fail
        refine (CE2.out _).mono ?_
        rintro e w3 ⟨rfl, hb3⟩
        have B3 := Lib.hid (below_then B2.out hb3)
        have B4 := Lib.hid (B3.out.alloc B3.out.size (.cells #[.string ⟨(r.drop 4).toArray⟩, .int .u32 (childNo r)] 93))
        clear hb3
        go_wp2_with fail
        go_ret3
        exact ⟨by have h := HR.out; subst h; rfl, B4.out⟩
      | false =>
        rw [if_neg (by simp)] at hm
        rw [← hm] at hM
        have HM := Lib.hid hM
        clear hM hm
        generalize childN ks k = m at *
        generalize findN ks k = F at *
        have hM := HM.out
        go_wp2_with fail
        refine (CE2.out _).mono ?_
        rintro e w3 ⟨rfl, hb3⟩
        have B3 := Lib.hid (below_then B2.out hb3)
        have B4 := Lib.hid (B3.out.alloc B3.out.size (.cells #[.string ⟨(r.drop 4).toArray⟩, .int .u32 (childNo r)] 93))
        clear hb3
        go_wp2_with fail
        go_ret3
        exact ⟨by have h := HR.out; subst h; rfl, B4.out⟩
  · have a1 : ((kind : Int) != 2) = true := by simp; omega
    have HR := Lib.hid (R1.out (by omega))
    clear hk
    go_enter Try.func43, Try.ntmps43
    go_wp2_with fail
    go_ret3
    exact ⟨by have h := HR.out; subst h; rfl, B0.out⟩

set_option maxHeartbeats 2000000 in
set_option maxRecDepth 100000 in
theorem refChild_any (p : Pg) (sv : Value) (k : List UInt8) (w : World) (hp : p.wf) (ht : TextsAt w sv p.rows) (hb : weightB p.rows ≤ 1000000) (hk1 : k.length ≤ 1000000) :
    Calls Try.prog 44 #[pgV p sv, .string ⟨k.toArray⟩] w fun e w' => e = .returned (.tuple #[.int .u32 ((childB childNo p k).1 : Nat), .int .i64 ((childB childNo p k).2.1 : Nat), .int .i64 (childB childNo p k).2.2]) ∧ Below w.heap.size w w' := by
  have CK := Lib.hid fun W (h : TextsAt W sv p.rows) => refCheck_any p sv W hp h hb
  have CS := Lib.hid fun W (h : TextsAt W sv p.rows) => refKeys_any p sv W hp h hb
  have HKL : Hid (∀ ks, keysB p = some ks → ∀ q ∈ ks, q.length ≤ 1000000) := fun ks h => key_le hb h
  have HT := Lib.hid ht
  have HWt : Hid (∀ i (h : i < p.rows.length), p.rows[i].length ≤ 1000000) := fun i h => by have := weightB_mem (List.getElem_mem h); omega
  have hnb : p.rows.length ≤ 1000000 := by have := weightB_length p.rows; omega
  obtain ⟨n, hn⟩ : ∃ n, n = p.rows.length := ⟨_, rfl⟩
  obtain ⟨A, cp, hsv, h2, h3, h4, h5⟩ := ht
  rw [← hn] at hsv h2 hnb
  subst hsv
  have H5 := Lib.hid h5
  have R1 : Hid (¬ (p.kind = 2 ∧ checkB p = true) → childB childNo p k = (0, 0, 7)) := child_no
  have R2 : Hid (p.kind = 2 → checkB p = true → ∃ ks, keysB p = some ks ∧ findB p k = (findN ks k, findIs ks k) ∧ ks.length = p.rows.length ∧ ks.Pairwise (fun a b => compareBytes a b < 0) ∧ ∃ hl : childN ks k < p.rows.length, decEntOk p.rows[childN ks k] = true ∧ childB childNo p k = (childNo p.rows[childN ks k], childN ks k, 0)) := child_facts
  generalize hc : checkB p = c at *
  generalize childB childNo p k = R at *
  generalize keysB p = K at *
  clear hc h4 h5
  unfold pgV at *
  obtain ⟨kind, level, id, lsn, next, rows⟩ := p
  clear hp hb
  have HN := Lib.hid hn
  clear hn
  simp only at *
  unfold maxLen at h3
  have X0 := Lib.hid (PgBox.new w kind level id lsn next (.slice A n cp))
  have B0 := Lib.hid (alloc_below w (.cells #[.int .u8 kind, .int .u8 level, .int .u32 id, .int .u64 lsn, .int .u32 next, .slice A n cp] 45))
  go_enter Try.func44, Try.ntmps44
  go_wp2_with fail
  generalize w.alloc (.cells #[.int .u8 kind, .int .u8 level, .int .u32 id, .int .u64 lsn, .int .u32 next, .slice A n cp] 45) = w0 at *
  have T0 := Lib.hid (HT.out.below B0.out)
  refine (CK.out _ T0.out).mono ?_
  rintro e w1 ⟨rfl, hb1⟩
  have B1 := Lib.hid (below_then B0.out hb1)
  have T1 := Lib.hid (T0.out.below hb1)
  have X1 := Lib.hid (X0.out.below hb1)
  obtain ⟨x0, x1, x2, x3, x4, x5, x6⟩ := X1.out.cells
  clear hb1
  cases c with
  | false =>
    have HR := Lib.hid (R1.out (by simp))
    unfold chkN
    go_wp2_with fail
    go_ret3
    exact ⟨by have h := HR.out; subst h; rfl, B1.out⟩
  | true =>
    unfold chkN
    by_cases hk : kind = 2
    · have a1 : ((kind : Int) != 2) = false := by simp; omega
      obtain ⟨ks, hks, _, hl, hP, hlt, hd, hR⟩ := R2.out hk rfl
      have HR := Lib.hid hR
      have HU : Hid (∀ t (h : t < ks.length), (compareBytes ks[t] k ≤ 0 ↔ t < upTo ks k)) := fun t h => upTo_iff hP h
      have hcu := childN_eq ks k
      have hu1 := upTo_le ks k
      have HQ := Lib.hid (HKL.out ks hks)
      subst hks
      clear hR hk hP
      go_wp2_with fail
      refine (CS.out _ T1.out).mono ?_
      rintro e w2 ⟨v, rfl, ho, hb2⟩
      have HO := (texts_own ho).1
      have B2 := Lib.hid (below_then B1.out hb2)
      have X2 := Lib.hid (X1.out.below hb2)
      clear hb2 x0 x1 x2 x3 x4 x5 x6 ho
      simp only [Option.getD_some] at HO
      obtain ⟨C, cq, hsv, k2, k3, k4, k5⟩ := HO
      rw [show ks.length = n by rw [HN.out]; exact hl] at hsv k2
      subst hsv
      unfold maxLen at k3
      have K5 := Lib.hid k5
      obtain ⟨b0, o0, rfl, hb0, hcell⟩ := H5.out (by omega)
      have c1 := Lib.hid (keep_cell B2.out (hcell _ hlt))
      have HS := Lib.hid (HWt.out _ hlt)
      have hmn : (childN ks k : Int) < (n : Int) := by have := HN.out; omega
      have q1 : (0 : Int) ≤ (childN ks k : Int) := by omega
      have e1 : Hid (decEntV rows[childN ks k] = .tuple #[.agg #[.string ⟨(rows[childN ks k].drop 4).toArray⟩, .int .u32 (childNo rows[childN ks k])], .int .i64 0]) := by show _ = _; unfold decEntV; rw [if_pos hd]; rfl
      have CE := Lib.hid fun W => refEntDecode_any ⟨rows[childN ks k].toArray⟩ W (by simpa [ByteArray.size] using HS.out)
      have CE2 : Hid (∀ W, Calls Try.prog 87 #[.string ⟨rows[childN ks k].toArray⟩] W fun e w' => e = .returned (.tuple #[.agg #[.string ⟨(rows[childN ks k].drop 4).toArray⟩, .int .u32 (childNo rows[childN ks k])], .int .i64 0]) ∧ Below W.heap.size W w') := fun W => by rw [← e1.out]; exact CE.out W
      have HL : Hid (ks.length = n) := by show _ = _; rw [HN.out]; exact hl
      have hu2 : upTo ks k ≤ n := by rw [← HL.out]; exact hu1
      clear hcell e1 CE hd HS k4 k5 hu1 hl
      generalize rows[childN ks k] = r at *
      have HC := Lib.hid hcu
      clear hcu
      generalize childN ks k = m at *
      generalize upTo ks k = U at *
      go_wp2_with fail
      go_loopw [9, 10] (fun s9 s10 wr => ∃ i : Nat, s10 = .int .i64 i ∧ i ≤ n ∧ s9 = .int .i64 (min i U - 1 : Nat) ∧ Hid (Below w2.heap.size w2 wr)) (fun _ v _ => n - (intOf v).toNat)
      case atStart => exact ⟨0, rfl, Nat.zero_le _, by simp, Lib.hid (Below.refl _ _)⟩
      case round =>
        obtain ⟨i, rfl, hi, rfl, hB⟩ := hrel
        by_cases hc : i < n
        · have hci : (i : Int) < (n : Int) := by omega
          have hm : i < ks.length := by rw [HL.out]; exact hc
          obtain ⟨b1, o1, rfl, hb1, hcell⟩ := K5.out (by omega)
          have cm := keep_cell hB.out (hcell i hm)
          have q1 : (0 : Int) ≤ (i : Int) := by omega
          have G := Lib.hid (HU.out i hm)
          have CC := Lib.hid fun W => refCompare_below ⟨ks[i].toArray⟩ ⟨k.toArray⟩ W (by have := HQ.out _ (List.getElem_mem hm); unfold maxLen; simp [ByteArray.size]; omega) (by unfold maxLen; simp [ByteArray.size]; omega)
          clear hcell
          generalize ks[i] = y at *
          generalize compareBytes y k = c at *
          by_cases hyx : c ≤ 0
          · have hiu : i < U := G.out.1 hyx
            have HE : Hid (min (i + 1) U - 1 = i) := by show _ = _; omega
            generalize min i U - 1 = mi at *
            go_wp2_with fail
            refine (CC.out _).mono ?_
            rintro e w3 ⟨rfl, hb3⟩
            have B3 := Lib.hid (below_then hB.out hb3)
            clear hb3
            go_wp2_with fail
            go_roundw
            case rel => exact ⟨i + 1, by go_num, by omega, by rw [HE.out], B3⟩
            case measure => simp [intOf]; omega
          · have hiu : ¬ i < U := fun h => hyx (G.out.2 h)
            have HE : Hid (min (i + 1) U - 1 = min i U - 1) := by show _ = _; omega
            generalize min i U - 1 = mi at *
            go_wp2_with fail
            refine (CC.out _).mono ?_
            rintro e w3 ⟨rfl, hb3⟩
            have B3 := Lib.hid (below_then hB.out hb3)
            clear hb3
            go_wp2_with fail
            go_roundw
            case rel => exact ⟨i + 1, by go_num, by omega, by rw [HE.out], B3⟩
            case measure => simp [intOf]; omega
        · have hci : ¬ (i : Int) < (n : Int) := by omega
          have hE : min i U - 1 = m := by rw [HC.out]; omega
          generalize min i U - 1 = mi at *
          subst hE
          have B3 := Lib.hid (below_then B2.out hB.out)
          have c2 := keep_cell hB.out c1.out
          obtain ⟨x0, x1, x2, x3, x4, x5, x6⟩ := (X2.out.below hB.out).cells
          go_wp2_with fail
          refine (CE2.out _).mono ?_
          rintro e w4 ⟨rfl, hb4⟩
          have B4 := Lib.hid (below_then B3.out hb4)
          have B5 := Lib.hid (B4.out.alloc B4.out.size (.cells #[.string ⟨(r.drop 4).toArray⟩, .int .u32 (childNo r)] 93))
          clear hb4
          go_wp2_with fail
          go_ret3
          exact ⟨by have h := HR.out; subst h; rfl, B5.out⟩
    · have a1 : ((kind : Int) != 2) = true := by simp; omega
      have HR := Lib.hid (R1.out (by omega))
      clear hk
      go_wp2_with fail
      go_ret3
      exact ⟨by have h := HR.out; subst h; rfl, B1.out⟩

end Go.Proofs.Ytjcfnfpilladfaa
