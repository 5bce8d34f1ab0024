/- chapter 08: NodeParts: the walk -/
import Derived.Test.YtjcfnfpilladfaaRows
import Derived.Test.YtjcfnfpilladfaaNodePartsPlain
import Derived.Test.YtjcfnfpilladfaaNodeFind
import Derived.Test.YtjcfnfpilladfaaNodeCheck
import Derived.Test.YtjcfnfpilladfaaNodeWeigh
import Derived.Test.YtjcfnfpilladfaaNodeSplit
import Derived.Test.YtjcfnfpilladfaaNodeWith
import Derived.Test.YtjcfnfpilladfaaNodeMerge
import Derived.Test.YtjcfnfpilladfaaMakeZeros
import Derived.Test.YtjcfnfpilladfaaNodeAlive
import Derived.Deep.RegionLaw
import Derived.WalkKit
import Derived.WalkLawsBesides
import Derived.WalkSpells
import Derived.LoopTactic
import Derived.WalkMore
import Derived.LoopN
import Derived.Laws.BitsAllLaws
import Derived.Laws.IdiomStrings
import Derived.BigQuiet
import Derived.Deep.QuietTactic
import Derived.Deep.DeepCutAuto
import Derived.Deep.RegionHeld3
import Derived.Deep.DrawnRows
import Derived.Lib.Hide
import Derived.Outline
import Derived.Deep.DeepMust
import Derived.Handy
namespace Go.Proofs.Ytjcfnfpilladfaa
open Go.RowKit
set_option linter.unusedVariables false
set_option linter.unusedSimpArgs false

set_option maxHeartbeats 8000000 in
set_option maxRecDepth 100000 in
theorem nodeParts_any (sv : Value) (l : List Rw) (x : List UInt8) (sz : Nat) (w : World) (hr : RowsAt w sv l) (hw : ∀ r ∈ l, r.wf) (hx : x.length ≤ 140737488351232) (hsz : sz < 256) :
    Calls Try.prog 9 #[sv, .string ⟨x.toArray⟩, .int .u8 sz] w fun e w' => e = .returned (.bool true) ∧ Below w.heap.size w w' := by
  have AL := Lib.hid fun W => alive08_any W
  have hwt := weight_heavy (leafPg l).rows
  have LF := Lib.hid fun (hl : l.length ≤ 1000000) W (h : RowsAt W sv l) => leaf_any sv l W h hw hl
  have hrz : ∀ r ∈ (leafPg l).rows, r.length ≤ 140737488351232 := fun r hr => by
    obtain ⟨q, hq, rfl⟩ := List.mem_map.1 hr
    exact Nat.le_trans (Rw.enc_le q) (by omega)
  have HV := Lib.hid fun W v (h : TextsAt W v (leafPg l).rows) => heavy06_any (leafPg l) v W h hrz
  have hpw : (leafPg l).wf := by unfold leafPg Pg.wf; simp
  have HPW := Lib.hid hpw
  obtain ⟨m, hm⟩ : ∃ m, m = sz % 97 := ⟨_, rfl⟩
  have hm97 : m ≤ 96 := by omega
  obtain ⟨r0, hr0⟩ : ∃ r0 : Rw, r0 = ⟨x, false, 0, 0, 0, List.replicate m 0, 0⟩ := ⟨_, rfl⟩
  have hrw : r0.wf := by
    rw [hr0]
    exact ⟨by show x.length ≤ maxLen; unfold maxLen; omega, by show (List.replicate m (0 : UInt8)).length ≤ maxLen; rw [List.length_replicate]; unfold maxLen; omega, by show (0 : Nat) < _; decide, by show (0 : Nat) < _; decide⟩
  have hE2 := Rw.encode2 r0 hrw
  have hr0k : r0.key = x := by rw [hr0]
  have CP := Lib.hid fun (h : checkB (leafPg l) = true) (hm : mayRow r0.key.length r0.val.length r0.page r0.slot r0.pad = true) => parts_ok hw h r0 hrw hm
  have CL := Lib.hid fun (h : checkB (leafPg l) = true) => leaf_place hw h x
  have hel : r0.enc.length ≤ 1000 := Rw.enc_le r0
  rw [hr0k] at CP hE2
  rw [hr0] at CP hE2 hel
  simp only at CP hE2
  generalize Rw.enc ⟨x, false, 0, 0, 0, List.replicate m 0, 0⟩ = text at *
  have hmay : ∃ b, mayRow x.length (List.replicate m (0 : UInt8)).length 0 0 0 = b := ⟨_, rfl⟩
  obtain ⟨mb, hmb⟩ := hmay
  rw [hmb] at CP hE2
  clear hmb hr0 hr0k hrw
  have CK := Lib.hid fun (HB : weightB (leafPg l).rows ≤ 900000) v W (hW : TextsAt W v (leafPg l).rows) => nodeCheck_any (leafPg l) v W hpw hW (by omega)
  have FP := Lib.hid fun (HB : weightB (leafPg l).rows ≤ 900000) v W (hW : TextsAt W v (leafPg l).rows) => nodeFind_any (leafPg l) v x W hpw hW (by omega)
  have WI := Lib.hid fun (HB : weightB (leafPg l).rows ≤ 900000) v W (hW : TextsAt W v (leafPg l).rows) i (hi0 : -9223372036854775808 ≤ i) (hi1 : i ≤ 9223372036854775807) S => nodeWith_any (leafPg l) v i text S W hpw hW (by omega) hi0 hi1
  have SP := Lib.hid fun (HB : weightB (leafPg l).rows ≤ 900000) v W (hW : TextsAt W v (leafPg l).rows) i (hi0 : -9223372036854775808 ≤ i) (hi1 : i ≤ 9223372036854775807) S => nodeSplit_any (leafPg l) v i text S W hpw hW (by omega) hi0 hi1
  have wle : ¬ 4096 < heavyB (leafPg l).rows → weightB (leafPg l).rows ≤ 900000 := by omega
  have HWL := Lib.hid wle
  have HWT := Lib.hid hwt
  have E2 := Lib.hid hE2
  clear wle hwt hrz hE2 hpw
  obtain ⟨i0, hif, hz0, hz1, hz2⟩ := info_parts Try.infoStr
  have HI := Lib.hid hif
  have HI0 := Lib.hid hz0
  have HI1 := Lib.hid hz1
  have HI2 := Lib.hid hz2
  clear hif hz0 hz1 hz2
  have HR := Lib.hid hr
  obtain ⟨A, cp, hsv, h2, h3, h5⟩ := hr
  obtain ⟨n, hn⟩ : ∃ n, n = l.length := ⟨_, rfl⟩
  rw [← hn] at hsv h2
  subst hsv
  unfold maxLen at h3
  have HN := Lib.hid hn
  clear h5 hw
  have hpl : (leafPg l).rows.length = l.length := by simp [leafPg]
  generalize leafPg l = p at *
  obtain ⟨kind, level, id, lsn, next, rows⟩ := p
  unfold PgOnly pgV at *
  simp only at *
  have HPL := Lib.hid hpl
  clear hn hpl
  obtain ⟨hv, hhv⟩ : ∃ z, z = heavyB rows := ⟨_, rfl⟩
  rw [← hhv] at HV HWL HWT
  clear hhv
  have hsq : IntKind.i64.wrap (sz : Int) = (sz : Int) := IntWalk.i64_in _ ⟨by omega, by omega⟩
  have hmq : ((sz : Int)).tmod 97 = (m : Int) := by rw [Int.tmod_eq_emod_of_nonneg (by omega)]; omega
  have hmw : IntKind.i64.wrap (m : Int) = (m : Int) := IntWalk.i64_in _ ⟨by omega, by omega⟩
  have HSQ := Lib.hid hsq
  have HMQ := Lib.hid hmq
  have HMW := Lib.hid hmw
  clear hsq hmq hmw hm
  go_enter Try.func9, Try.ntmps9
  by_cases hlb : 30 < n
  · have hlc : (30 : Int) < (n : Int) := by omega
    go_wp2_with fail
    refine (AL.out _).mono ?_
    rintro e wa ⟨rfl, hba⟩
    have Ba := Lib.hid (hba)
    clear hba
    go_wp2_with fail
    go_ret
    exact ⟨rfl, Ba.out⟩
  · have hlc : ¬ (30 : Int) < (n : Int) := by omega
    have hl30 : l.length ≤ 30 := by have := HN.out; omega
    have LF1 := Lib.hid (LF.out (by omega))
    clear LF hl30
    go_wp2_with fail
    refine (LF1.out _ HR.out).mono ?_
    rintro e w1 ⟨sv1, rfl, G, hb⟩
    obtain ⟨nm, hnm⟩ : ∃ z, z = rows.length := ⟨_, rfl⟩
    have HNM := Lib.hid hnm
    clear hnm
    have T1 := Lib.hid G
    obtain ⟨A1, cp1, hv1, hcp1, hcp2, _, _⟩ := G
    rw [← HNM.out] at hv1 hcp1
    unfold maxLen at hcp2
    subst hv1
    have B1 := Lib.hid hb
    clear hb LF1
    go_upto_region 4 with fail
    have BN := Lib.hid (alloc_below w1 (.cells #[.int .u8 kind, .int .u8 level, .int .u32 id, .int .u64 lsn, .int .u32 next, .slice A1 nm cp1] 45))
    have P1 := Lib.hid (PgBox.new w1 kind level id lsn next (.slice A1 nm cp1))
    have hg1 : w.heap.size ≤ w1.heap.size := B1.out.size
    generalize w1.alloc (.cells #[.int .u8 kind, .int .u8 level, .int .u32 id, .int .u64 lsn, .int .u32 next, .slice A1 nm cp1] 45) = w2 at *
    have B2 := Lib.hid (below_then B1.out BN.out)
    have T2 := Lib.hid (T1.out.below BN.out)
    generalize w1.heap.size = gp at *
    have P2 := P1
    clear BN P1 T1 B1
    obtain ⟨x0, x1, x2, x3, x4, x5, x6⟩ := P2.out.cells
    go_wp2_with fail
    clear x0 x1 x2 x3 x4 x5 x6
    refine (HV.out _ _ T2.out).mono ?_
    rintro e w3 ⟨rfl, hb⟩
    have B3 := Lib.hid (below_then B2.out hb)
    have T3 := Lib.hid (T2.out.below hb)
    have P3 := Lib.hid (P2.out.below hb)
    clear hb B2 T2 P2
    cases hh : decide (4096 < hv) with
    | true =>
      obtain ⟨x0, x1, x2, x3, x4, x5, x6⟩ := P3.out.cells
      go_wp2_with fail
      refine (AL.out _).mono ?_
      rintro e wa ⟨rfl, hba⟩
      have Ba := Lib.hid (below_then B3.out hba)
      clear hba
      go_wp2_with fail
      go_ret
      exact ⟨rfl, Ba.out⟩
    | false =>
      have hv0 : ¬ 4096 < hv := by simpa using hh
      clear hh HV
      have HB := HWL.out hv0
      have CK1 := Lib.hid (CK.out HB)
      have FP1 := Lib.hid (FP.out HB)
      have WI1 := Lib.hid (WI.out HB)
      have SP1 := Lib.hid (SP.out HB)
      have HWB := Lib.hid HB
      clear CK FP WI SP HB HWL hv0 HWT
      obtain ⟨x0, x1, x2, x3, x4, x5, x6⟩ := P3.out.cells
      go_wp2_with fail
      clear x0 x1 x2 x3 x4 x5 x6
      refine (CK1.out _ _ T3.out).mono ?_
      rintro e w4 ⟨rfl, hb⟩
      have B4 := Lib.hid (below_then B3.out hb)
      have T4 := Lib.hid (T3.out.below hb)
      have P4 := Lib.hid (P3.out.below hb)
      clear hb B3 T3 P3
      cases hck : checkB ⟨kind, level, id, lsn, next, rows⟩ with
      | false =>
        unfold chkN
        obtain ⟨x0, x1, x2, x3, x4, x5, x6⟩ := P4.out.cells
        go_wp2_with fail
        refine (AL.out _).mono ?_
        rintro e wa ⟨rfl, hba⟩
        have Ba := Lib.hid (below_then B4.out hba)
        clear hba
        go_wp2_with fail
        go_ret
        exact ⟨rfl, Ba.out⟩
      | true =>
        unfold chkN
        have CP1 := Lib.hid (CP.out hck)
        have CL1 := Lib.hid (CL.out hck)
        clear CP CL hck CK1
        have FP2 := Lib.hid fun v W hW => FP1.out v W hW
        rw [CL1.out.1] at FP2
        have hfl := CL1.out.2.1
        have hsf := CL1.out.2.2.2.2
        clear CL1 FP1
        generalize findN (l.map Rw.key) x = F at *
        generalize findIs (l.map Rw.key) x = S at *
        have hfn : F ≤ nm := by have h1 := HPL.out; have h2 := HNM.out; omega
        have hsn : S = true → F < nm := fun h => by obtain ⟨h3, _⟩ := hsf h; have h1 := HPL.out; have h2 := HNM.out; omega
        have HSN := Lib.hid hsn
        clear hfl hsf hsn
        obtain ⟨x0, x1, x2, x3, x4, x5, x6⟩ := P4.out.cells
        go_wp2_with fail
        clear x0 x1 x2 x3 x4 x5 x6
        refine (FP2.out _ _ T4.out).mono ?_
        rintro e w5 ⟨rfl, hb⟩
        have B5 := Lib.hid (below_then B4.out hb)
        have T5 := Lib.hid (T4.out.below hb)
        have P5 := Lib.hid (P4.out.below hb)
        clear hb B4 T4 P4
        have hmk := fun (W : World) => run_make_zeros (P := Try.prog) W 82 5 m Try.underlying82 (by kernel_rfl) (by kernel_rfl) (by kernel_rfl) (by omega)
        have hcv0 := fun (W : World) (g : Nat) h => run_zeros_str (P := Try.prog) W 82 5 9 g m Try.underlying82 Try.underlying5 Try.underlying9 h
        have hcv : ∀ W : World, (convert 82 9 (.slice (some ⟨W.heap.size, 0, none⟩) m m)).run Try.prog (W.alloc (.cells (zerosRow m) 5)) = .ok (.string ⟨(List.replicate m 0).toArray⟩) (W.alloc (.cells (zerosRow m) 5)) := fun W => hcv0 _ _ (heap_alloc_new W _)
        clear hcv0
        have hsq := HSQ.out
        have hmq := HMQ.out
        have hmw := HMW.out
        have BZ := Lib.hid (alloc_below w5 (.cells (zerosRow m) 5))
        generalize (⟨(List.replicate m (0 : UInt8)).toArray⟩ : ByteArray) = Z at *
        generalize zerosRow m = CS at *
        go_wp2_with fail
        clear hmk hcv hsq hmq hmw
        refine (E2.out _).mono ?_
        rintro e w6 ⟨rfl, hb0⟩
        have hb := below_then BZ.out hb0
        clear hb0 BZ E2 HSQ HMQ HMW
        have B6 := Lib.hid (below_then B5.out hb)
        have T6 := Lib.hid (T5.out.below hb)
        have P6 := Lib.hid (P5.out.below hb)
        clear hb B5 T5 P5
        cases mb with
        | false =>
          simp only [Bool.false_eq_true, if_false]
          go_wp2_with fail
          refine (AL.out _).mono ?_
          rintro e wa ⟨rfl, hba⟩
          have Ba := Lib.hid (below_then B6.out hba)
          clear hba
          go_wp2_with fail
          go_ret
          exact ⟨rfl, Ba.out⟩
        | true =>
          simp only [if_true]
          have PO := Lib.hid (CP1.out rfl)
          clear CP1
          obtain ⟨x0, x1, x2, x3, x4, x5, x6⟩ := P6.out.cells
          go_upto_region 10 with fail
          have TK := ((T6.out.take F cp1 hfn (by omega) (Nat.le_refl _)).below (alloc_below w6 (.cells #[] 9))).reads
          have hlk : (rows.take F).length = F := by have := HNM.out; simp; omega
          rw [hlk] at TK
          have TA := Lib.hid TK
          clear TK hlk
          have hkb : (0 : Int) ≤ (F : Int) := by omega
          have hkb2 : (F : Int) ≤ (cp1 : Int) := by omega
          have hkb3 : (F : Int) ≤ (nm : Int) := by omega
          have hnb : nm ≤ 30 := by have h1 := HPL.out; have h2 := HNM.out; have h3 := HN.out; omega
          have hone := one_str ⟨text.toArray⟩
          go_wp2_with (at_builtin; refine wpList_append_any _ rfl _ _ 24 rfl w6.heap.size 9 i0 (.string ⟨#[]⟩) 1 16 Try.underlying24 HI.out HI0.out HI1.out HI2.out rfl (by decide) (.slice (some ⟨w6.heap.size, 0, none⟩) 0 0) 0 [] (by rfl) (World.ownsRow_made w6 #[] 0 (Nat.le_refl _) (by unfold maxLen; omega) rfl) (.slice A1 F cp1) F (strs (rows.take F)) (by rfl) TA.out (strs_oneCell _) (by unfold maxLen; omega) (by omega) (by simp) ?_; intro v2 w7 hown2 hgrow2; simp only [Nat.zero_add, List.nil_append] at hown2; have HO2 := Lib.hid hown2; have BB2 := Lib.hid ((alloc_below w6 (.cells #[] 9)).grown hgrow2 (by simp) (fun j hj => by simp [Value.ownBlock] at hj; omega)); have hs2 : w6.heap.size ≤ w7.heap.size := (by have h9 := hgrow2.size; simp at h9; omega); clear hown2 hgrow2; refine Aside.out ?_)
          unfold Aside
          clear TA
          clear x0 x1 x2 x3 x4 x5 x6
          go_wp2_with (at_builtin; refine wpList_append_any _ rfl _ _ 24 rfl w6.heap.size 9 i0 (.string ⟨#[]⟩) 1 16 Try.underlying24 HI.out HI0.out HI1.out HI2.out rfl (by decide) _ _ _ (by rfl) (HO2.out.alloc _) (.slice (some ⟨w7.heap.size, 0, none⟩) 1 1) 1 [.string ⟨text.toArray⟩] (by rfl) (.inr ⟨_, 1, rfl, rfl, one_new _ _ _⟩) hone (by unfold maxLen; omega) (by omega) (by simp; omega) ?_; intro v3 w8 hown3 hgrow3; have HO3 := Lib.hid hown3; have BB3 := Lib.hid ((BB2.out.alloc hs2 (.cells #[.string ⟨text.toArray⟩] 9)).grown hgrow3 (by simp; omega) (fun j hj => (HO2.out.lt j hj).1)); have hs3 : w6.heap.size ≤ w8.heap.size := (by have h9 := hgrow3.size; simp at h9; omega); clear hown3 hgrow3; refine Aside.out ?_)
          unfold Aside
          clear hone HO2 BB2
          obtain ⟨M, hM⟩ : ∃ M, M = (putRows rows F text S).length := ⟨_, rfl⟩
          have hMl := putRows_length rows F text S (by have := HNM.out; omega) (fun h => by have := HSN.out h; have := HNM.out; omega)
          rw [← hM, ← HNM.out] at hMl
          have HML := Lib.hid hMl
          have HM := Lib.hid hM
          clear hMl hM
          have P7 := Lib.hid (P6.out.below BB3.out)
          have T7 := Lib.hid (T6.out.below BB3.out)
          obtain ⟨x0, x1, x2, x3, x4, x5, x6⟩ := P7.out.cells
          go_upto_if 71 with fail
          go_cut [12] (fun s12 w' => ∃ b c, s12 = .slice b M c ∧ Hid (TextsAt w' (.slice b M c) (putRows rows F text S)) ∧ Hid (Below w6.heap.size w6 w'))
          case first =>
            cases S with
            | false =>
              have hMq : M = F + 1 + (nm - F) := by have := HML.out; simp only [Bool.false_eq_true, if_false] at this; omega
              have HMQ := Lib.hid hMq
              clear hMq
              have TB := Lib.hid (T7.out.backR F (by omega))
              go_wp2_with (at_builtin; go_must (refine wpList_append_any _ rfl _ _ 24 rfl w6.heap.size 9 i0 (.string ⟨#[]⟩) 1 16 Try.underlying24 HI.out HI0.out HI1.out HI2.out rfl (by decide) _ _ _ (by rfl) HO3.out (.slice (if cp1 = F then A1 else Option.map (fun x => x.add F) A1) (nm - F) (cp1 - F)) (nm - F) (strs (rows.drop F)) (by rfl) TB.out (strs_oneCell _) (by unfold maxLen; omega) (by omega) hs3 ?_; intro v4 w9 hown4 hgrow4; have HO4 := Lib.hid hown4; have HG4 := Lib.hid hgrow4; clear hown4 hgrow4; refine Aside.out ?_))
              all_goals
                unfold Aside
                have hV := putOwn (S := false) HO4.out rfl
                have HB9 := BB3.out.grown HG4.out hs3 (fun j hj => (HO3.out.lt j hj).1)
                obtain ⟨b4, c4, hv4, _, _, _⟩ := own_form HO4.out
                clear HO4 HG4
                rw [show F + 1 + (nm - F) = M by have := HMQ.out; omega] at hv4
                subst hv4
                go_wp2_with fail
                go_meet
                exact ⟨b4, c4, rfl, Lib.hid hV, Lib.hid HB9⟩
            | true =>
              have hF1 : F + 1 ≤ nm := HSN.out rfl
              have hF2 : IntKind.i64.wrap ((F : Int) + 1) = ((F + 1 : Nat) : Int) := by rw [show ((F + 1 : Nat) : Int) = (F : Int) + 1 by omega]; exact IntWalk.i64_in _ ⟨by omega, by omega⟩
              have hkc : ((F + 1 : Nat) : Int) ≤ (cp1 : Int) := by omega
              have hkd : ((F + 1 : Nat) : Int) ≤ (nm : Int) := by omega
              obtain ⟨q, hq⟩ : ∃ q, q = F + 1 := ⟨_, rfl⟩
              rw [← hq] at hF1 hF2 hkc hkd
              have hMq : M = F + 1 + (nm - q) := by have := HML.out; simp only [if_true] at this; omega
              have HQ := Lib.hid hq
              clear hq
              have HMQ := Lib.hid hMq
              clear hMq
              have TB := Lib.hid (T7.out.backR q (by omega))
              go_wp2_with (at_builtin; go_must (refine wpList_append_any _ rfl _ _ 24 rfl w6.heap.size 9 i0 (.string ⟨#[]⟩) 1 16 Try.underlying24 HI.out HI0.out HI1.out HI2.out rfl (by decide) _ _ _ (by rfl) HO3.out (.slice (if cp1 = q then A1 else Option.map (fun x => x.add q) A1) (nm - q) (cp1 - q)) (nm - q) (strs (rows.drop q)) (by rfl) TB.out (strs_oneCell _) (by unfold maxLen; omega) (by omega) hs3 ?_; intro v4 w9 hown4 hgrow4; have HO4 := Lib.hid hown4; have HG4 := Lib.hid hgrow4; clear hown4 hgrow4; refine Aside.out ?_))
              all_goals
                unfold Aside
                have hV := putOwn (S := true) HO4.out (by rw [HQ.out]; rfl)
                have HB9 := BB3.out.grown HG4.out hs3 (fun j hj => (HO3.out.lt j hj).1)
                obtain ⟨b4, c4, hv4, _, _, _⟩ := own_form HO4.out
                clear HO4 HG4
                rw [show F + 1 + (nm - q) = M by have := HMQ.out; omega] at hv4
                subst hv4
                go_wp2_with fail
                go_meet
                exact ⟨b4, c4, rfl, Lib.hid hV, Lib.hid HB9⟩
          case rest =>
            obtain ⟨b4, c4, rfl, V7, hBB⟩ := hcut
            have hb := hBB.out
            clear hBB P7 T7 BB3 HO3 HML x0 x1 x2 x3 x4 x5 x6 hs2 hs3
            have B7 := Lib.hid (below_then B6.out hb)
            have T7 := Lib.hid (T6.out.below hb)
            have P7 := Lib.hid (P6.out.below hb)
            clear hb B6 T6 P6
            have SPx := Lib.hid fun v W hW => SP1.out v W hW (F : Int) (by omega) (by omega) S
            by_cases hM2 : M < 2
            · have hsp : splitB ⟨kind, level, id, lsn, next, rows⟩ (F : Int) text S = (([], []), ([], 2)) := PO.out.1 (by have := HM.out; simp only; omega)
              rw [hsp] at SPx
              have hM2i : (M : Int) < 2 := by omega
              obtain ⟨x0, x1, x2, x3, x4, x5, x6⟩ := P7.out.cells
              go_wp2_with fail
              clear x0 x1 x2 x3 x4 x5 x6
              refine (SPx.out _ _ T7.out).mono ?_
              rintro e w8 ⟨u, v, rfl, _, _, hb⟩
              have B8 := Lib.hid (below_then B7.out hb)
              clear hb
              go_wp2_with fail
              refine (AL.out _).mono ?_
              rintro e wa ⟨rfl, hba⟩
              have Ba := Lib.hid (below_then B8.out hba)
              clear hba
              go_wp2_with fail
              go_ret
              exact ⟨rfl, Ba.out⟩
            · have hM2i : ¬ (M : Int) < 2 := by omega
              have PO2 := PO.out.2 (by have := HM.out; simp only; omega)
              simp only at PO2
              obtain ⟨b, sep, k1, k2, hb1, hb2, hsp, hmx, hmy, hkx, hky, hc1, hc2, h48, hmw⟩ := PO2
              have hwa := putRows_weight rows F text S
              have HWI := Lib.hid fun v W hW => WI1.out v W hW (F : Int) (by omega) (by omega) S
              rw [hsp] at SPx
              rw [← hmw] at HWI
              generalize putRows rows F text S = all at *
              rw [← HM.out] at hb2
              have HMX := Lib.hid hmx
              have HMY := Lib.hid hmy
              have HKX := Lib.hid hkx
              have HKY := Lib.hid hky
              have hwb : weightB all ≤ 1000000 := by have := HWB.out; omega
              have hwl : weightB (all.take b) ≤ 1000000 := Nat.le_trans (weightB_take_le all b) hwb
              have hwr : weightB (all.drop b) ≤ 1000000 := by have := weight_split all b; omega
              have hml : weightB (all.take b) ≤ 400000 := by have h1 := putRows_length; have := weight_split all b; have h2 := (Bool.and_eq_true_iff.1 hmx).2; have h3 := of_decide_eq_true h2; simp only at h3; omega
              have hmr : weightB (all.drop b) ≤ 400000 := by have h2 := (Bool.and_eq_true_iff.1 hmy).2; have h3 := of_decide_eq_true h2; simp only at h3; omega
              have HWA := Lib.hid hwl
              have HWR := Lib.hid hwr
              have HML := Lib.hid hml
              have HMR := Lib.hid hmr
              clear PO hsp hmw hmx hmy hkx hky hwa hwb hwl hwr hml hmr SP1 WI1
              obtain ⟨x0, x1, x2, x3, x4, x5, x6⟩ := P7.out.cells
              go_wp2_with fail
              clear x0 x1 x2 x3 x4 x5 x6
              refine (SPx.out _ _ T7.out).mono ?_
              rintro e w8 ⟨u, v, rfl, hU, hY, hb⟩
              simp only at hU hY
              have U8 := Lib.hid hU
              have Y8 := Lib.hid hY
              obtain ⟨Au, cu, hu, hcu1, hcu2, hcu3, hcu4⟩ := hU
              obtain ⟨Av, cv, hv2, hcv1, hcv2, hcv3, hcv4⟩ := hY
              rw [show (all.take b).length = b by have := HM.out; simp; omega] at hu hcu1
              rw [show (all.drop b).length = M - b by have := HM.out; simp; omega] at hv2 hcv1
              clear hcu3 hcu4 hcv3 hcv4
              unfold maxLen at hcu2 hcv2
              subst hu
              subst hv2
              clear SPx
              have B8 := Lib.hid (below_then B7.out hb)
              have T8 := Lib.hid (T7.out.below hb)
              have P8 := Lib.hid (P7.out.below hb)
              have V8 := Lib.hid (V7.out.below hb)
              clear hb B7 T7 P7 V7
              have z1 : ¬ (b : Int) < 1 := by omega
              have z2 : ¬ ((M - b : Nat) : Int) < 1 := by omega
              go_upto_region 18 with fail
              have TU := (U8.out.below (alloc_below w8 (.cells #[] 9))).reads
              rw [show (all.take b).length = b by have := HM.out; simp; omega] at TU
              have TUH := Lib.hid TU
              have hdl : (all.drop b).length = M - b := by have := HM.out; simp; omega
              have HDL := Lib.hid hdl
              clear hdl
              have hMs : M ≤ 200000 := by have := HM.out; have h3 := HML.out; have h4 := HMR.out; have h5 := weightB_length (all.take b); have h6 := weightB_length (all.drop b); rw [List.length_take] at h5; rw [List.length_drop] at h6; omega
              clear TU
              obtain ⟨x0, x1, x2, x3, x4, x5, x6⟩ := P8.out.cells
              go_wp2_with (first
                | (at_builtin; have := HO2; go_must (refine wpList_append_any_want _ (by simp [Region.wanted, yielded]; omega) _ _ 24 rfl w8.heap.size 9 i0 (.string ⟨#[]⟩) 1 16 Try.underlying24 HI.out HI0.out HI1.out HI2.out rfl (by decide) _ _ _ (by rfl) HO2.out (.slice Av (M - b) cv) (M - b) (strs (all.drop b)) (by rfl) YR.out (strs_oneCell _) (by unfold maxLen; omega) (by omega) hs2 ?_; intro v3 wb hown3 hgrow3; have HO3 := Lib.hid hown3; have BB3 := Lib.hid (BB2.out.grown hgrow3 hs2 (fun j hj => (HO2.out.lt j hj).1)); clear hown3 hgrow3; refine Aside.out ?_))
                | (at_builtin; refine wpList_append_any_want _ (by simp [Region.wanted, yielded]; omega) _ _ 24 rfl w8.heap.size 9 i0 (.string ⟨#[]⟩) 1 16 Try.underlying24 HI.out HI0.out HI1.out HI2.out rfl (by decide) (.slice (some ⟨w8.heap.size, 0, none⟩) 0 0) 0 [] (by rfl) (World.ownsRow_made w8 #[] 0 (Nat.le_refl _) (by unfold maxLen; omega) rfl) (.slice Au b cu) b (strs (all.take b)) (by rfl) TUH.out (strs_oneCell _) (by unfold maxLen; omega) (by omega) (by simp) ?_; intro v2 wa hown2 hgrow2; simp only [Nat.zero_add, List.nil_append] at hown2; have HO2 := Lib.hid hown2; have BB2 := Lib.hid ((alloc_below w8 (.cells #[] 9)).grown hgrow2 (by simp) (fun j hj => by simp [Value.ownBlock] at hj; omega)); have hs2 : w8.heap.size ≤ wa.heap.size := (by have h9 := hgrow2.size; simp at h9; omega); have yr0 := (Y8.out.below BB2.out).reads; rw [HDL.out] at yr0; have YR := Lib.hid yr0; clear hown2 hgrow2 yr0))
              unfold Aside
              have VR := (texts_own (ts := all.take b ++ all.drop b) (by rw [strs_append]; exact HO3.out)).1
              rw [List.take_append_drop] at VR
              have Z8 := Lib.hid VR
              have hb0 := BB3.out
              clear VR HO3 BB3 HO2 BB2 YR TUH hs2
              have hb := hb0
              clear hb0
              have Z9 := Z8
              clear Z8
              have B9 := Lib.hid (below_then B8.out hb)
              have T9 := Lib.hid (T8.out.below hb)
              have P9 := Lib.hid (P8.out.below hb)
              have V9 := Lib.hid (V8.out.below hb)
              have U9 := Lib.hid (U8.out.below hb)
              have Y9 := Lib.hid (Y8.out.below hb)
              clear hb B8 T8 P8 V8 U8 Y8
              clear x0 x1 x2 x3 x4 x5 x6
              go_wp2_with fail
              refine (refTexts_any v3 (.slice b4 M c4) all all _ Z9.out V9.out).mono ?_
              rintro e w10 ⟨he, hb⟩
              rw [decide_eq_true (rfl : all = all)] at he
              subst he
              have B10 := Lib.hid (below_then B9.out hb)
              have T10 := Lib.hid (T9.out.below hb)
              have P10 := Lib.hid (P9.out.below hb)
              have V10 := Lib.hid (V9.out.below hb)
              have U10 := Lib.hid (U9.out.below hb)
              have Y10 := Lib.hid (Y9.out.below hb)
              have Z10 := Lib.hid (Z9.out.below hb)
              clear hb B9 T9 P9 V9 U9 Y9 Z9
              clear Z10
              clear V10
              obtain ⟨x0, x1, x2, x3, x4, x5, x6⟩ := P10.out.cells
              go_upto_region 20 with fail
              go_cut [17, 18] (fun s17 s18 w' => ∃ gx gy, s17 = .pointer (some ⟨gx, 0, none⟩) ∧ s18 = .pointer (some ⟨gy, 0, none⟩) ∧ gx ≠ gy ∧ w10.heap.size ≤ gx ∧ w10.heap.size ≤ gy ∧ Hid (PgBox w' gx kind level id lsn next (.slice A1 nm cp1)) ∧ Hid (PgBox w' gy kind level id lsn next (.slice A1 nm cp1)) ∧ Hid (Below w10.heap.size w10 w'))
              case first =>
                have XA0 := Lib.hid ((PgBox.new w10 kind level id lsn next (.slice A1 nm cp1)).keep (.cells #[.int .u8 kind, .int .u8 level, .int .u32 id, .int .u64 lsn, .int .u32 next, .slice A1 nm cp1] 45))
                have XB0 := Lib.hid (PgBox.new (w10.alloc (.cells #[.int .u8 kind, .int .u8 level, .int .u32 id, .int .u64 lsn, .int .u32 next, .slice A1 nm cp1] 45)) kind level id lsn next (.slice A1 nm cp1))
                have hz1 : (w10.alloc (.cells #[.int .u8 kind, .int .u8 level, .int .u32 id, .int .u64 lsn, .int .u32 next, .slice A1 nm cp1] 45)).heap.size = w10.heap.size + 1 := by simp
                rw [hz1] at XB0
                clear hz1
                have BX0 := Lib.hid ((alloc_below w10 (.cells #[.int .u8 kind, .int .u8 level, .int .u32 id, .int .u64 lsn, .int .u32 next, .slice A1 nm cp1] 45)).alloc (by simp) (.cells #[.int .u8 kind, .int .u8 level, .int .u32 id, .int .u64 lsn, .int .u32 next, .slice A1 nm cp1] 45)).drew
                go_region
                · go_wp2_with fail
                  go_meet
                  exact ⟨_, _, rfl, rfl, by omega, Nat.le_refl _, Nat.le_succ _, XA0, XB0, BX0⟩
                · go_wp2_with fail
                  go_meet
                  exact ⟨_, _, rfl, rfl, by omega, Nat.le_succ _, Nat.le_refl _, XB0, XA0, BX0⟩
              case rest =>
                obtain ⟨gx, gy, rfl, rfl, hxy, hgx, hgy, X0, Y0, hBB⟩ := hcut
                clear x0 x1 x2 x3 x4 x5 x6
                have XA1 := Lib.hid (((X0.out.set5 (.slice Au b cu)).set4 77).kept (one_kept _ gy 5 (.slice Av (M - b) cv)) hxy)
                have XB1 := Lib.hid (((Y0.out.kept (one_kept _ gx 5 (.slice Au b cu)) (fun e => hxy e.symm)).kept (one_kept _ gx 4 (.int .u32 (77 : Nat))) (fun e => hxy e.symm)).set5 (.slice Av (M - b) cv))
                have hb := OthersKept.below (OthersKept.below (OthersKept.below hBB.out (one_kept wc gx 5 (.slice Au b cu)) (fun k hk e => by omega)) (one_kept _ gx 4 (.int .u32 (77 : Nat))) (fun k hk e => by omega)) (one_kept _ gy 5 (.slice Av (M - b) cv)) (fun k hk e => by omega)
                obtain ⟨x0, x1, x2, x3, x4, x5, x6⟩ := X0.out.cells
                obtain ⟨y0, y1, y2, y3, y4, y5, y6⟩ := Y0.out.cells
                obtain ⟨f0, f1, f2, f3, f4, f5⟩ := X0.out.fr
                obtain ⟨e0, e1, e2, e3, e4, e5⟩ := Y0.out.fr
                go_upto_region 24 with fail
                clear x0 x1 x2 x3 x4 x5 x6 y0 y1 y2 y3 y4 y5 y6 f0 f1 f2 f3 f4 f5 e0 e1 e2 e3 e4 e5 X0 Y0 hBB
                generalize ((wc.setCell ⟨gx, 5, none⟩ (.slice Au b cu)).setCell ⟨gx, 4, none⟩ (.int .u32 77)).setCell ⟨gy, 5, none⟩ (.slice Av (M - b) cv) = w11 at *
                have XA11 := XA1
                have XB11 := XB1
                clear XA1 XB1
                have B11 := Lib.hid (below_then B10.out hb)
                have T11 := Lib.hid (T10.out.below hb)
                have P11 := Lib.hid (P10.out.below hb)
                have U11 := Lib.hid (U10.out.below hb)
                have Y11 := Lib.hid (Y10.out.below hb)
                clear hb B10 T10 P10 U10 Y10
                have wfx : Pg.wf ⟨kind, level, id, lsn, 77, all.take b⟩ := ⟨HPW.out.1, HPW.out.2.1, HPW.out.2.2.1, HPW.out.2.2.2.1, by show (77 : Nat) < _; decide⟩
                have wfy : Pg.wf ⟨kind, level, id, lsn, next, all.drop b⟩ := HPW.out
                have hbp : (b : Int) ≤ 200000 := by omega
                have MX := Lib.hid fun W hW => pageMay_any ⟨kind, level, id, lsn, 77, all.take b⟩ (.slice Au b cu) W wfx hW HWA.out
                have MY := Lib.hid fun W hW => pageMay_any ⟨kind, level, id, lsn, next, all.drop b⟩ (.slice Av (M - b) cv) W wfy hW HWR.out
                have KX := Lib.hid fun W hW => nodeKey_any ⟨kind, level, id, lsn, 77, all.take b⟩ (.slice Au b cu) ((b : Int) - 1) W wfx hW HWA.out (by omega) (by omega)
                have KY := Lib.hid fun W hW => nodeKey_any ⟨kind, level, id, lsn, next, all.drop b⟩ (.slice Av (M - b) cv) 0 W wfy hW HWR.out (by omega) (by omega)
                have MG := Lib.hid fun W hW hW2 => nodeMerge_any ⟨kind, level, id, lsn, 77, all.take b⟩ ⟨kind, level, id, lsn, next, all.drop b⟩ (.slice Au b cu) (.slice Av (M - b) cv) W wfx wfy hW hW2 HML.out HMR.out
                rw [HMX.out] at MX
                rw [HMY.out] at MY
                rw [HKX.out] at KX
                rw [HKY.out] at KY
                have C1 := Lib.hid fun W => refCompare_below ⟨k1.toArray⟩ ⟨sep.toArray⟩ W (by show k1.toArray.size ≤ maxLen; unfold maxLen; simp; omega) (by show sep.toArray.size ≤ maxLen; unfold maxLen; simp; omega)
                have C2 := Lib.hid fun W => refCompare_below ⟨sep.toArray⟩ ⟨k2.toArray⟩ W (by show sep.toArray.size ≤ maxLen; unfold maxLen; simp; omega) (by show k2.toArray.size ≤ maxLen; unfold maxLen; simp; omega)
                simp only at C1 C2
                generalize mergeB ⟨kind, level, id, lsn, 77, all.take b⟩ ⟨kind, level, id, lsn, next, all.drop b⟩ = MM at *
                clear HMX HMY HKX HKY wfx wfy HWA HWR HML HMR h48
                obtain ⟨x0, x1, x2, x3, x4, x5, x6⟩ := P11.out.cells
                obtain ⟨y0, y1, y2, y3, y4, y5, y6⟩ := XA11.out.cells
                obtain ⟨z0, z1, z2, z3, z4, z5, z6⟩ := XB11.out.cells
                go_wp2_with fail
                clear x0 x1 x2 x3 x4 x5 x6 y0 y1 y2 y3 y4 y5 y6 z0 z1 z2 z3 z4 z5 z6
                refine (MX.out _ U11.out).mono ?_
                rintro e w12 ⟨rfl, hb⟩
                have B12 := Lib.hid (below_then B11.out hb)
                have T12 := Lib.hid (T11.out.below hb)
                have P12 := Lib.hid (P11.out.below hb)
                have U12 := Lib.hid (U11.out.below hb)
                have Y12 := Lib.hid (Y11.out.below hb)
                have XA12 := Lib.hid (XA11.out.below hb)
                have XB12 := Lib.hid (XB11.out.below hb)
                clear hb B11 T11 P11 U11 Y11 XA11 XB11
                obtain ⟨x0, x1, x2, x3, x4, x5, x6⟩ := P12.out.cells
                obtain ⟨y0, y1, y2, y3, y4, y5, y6⟩ := XA12.out.cells
                obtain ⟨z0, z1, z2, z3, z4, z5, z6⟩ := XB12.out.cells
                go_wp2_with fail
                clear x0 x1 x2 x3 x4 x5 x6 y0 y1 y2 y3 y4 y5 y6 z0 z1 z2 z3 z4 z5 z6
                refine (MY.out _ Y12.out).mono ?_
                rintro e w13 ⟨rfl, hb⟩
                have B13 := Lib.hid (below_then B12.out hb)
                have T13 := Lib.hid (T12.out.below hb)
                have P13 := Lib.hid (P12.out.below hb)
                have U13 := Lib.hid (U12.out.below hb)
                have Y13 := Lib.hid (Y12.out.below hb)
                have XA13 := Lib.hid (XA12.out.below hb)
                have XB13 := Lib.hid (XB12.out.below hb)
                clear hb B12 T12 P12 U12 Y12 XA12 XB12
                have hbw : IntKind.i64.wrap ((b : Int) - 1) = (b : Int) - 1 := IntWalk.i64_in _ ⟨by omega, by omega⟩
                obtain ⟨x0, x1, x2, x3, x4, x5, x6⟩ := P13.out.cells
                obtain ⟨y0, y1, y2, y3, y4, y5, y6⟩ := XA13.out.cells
                obtain ⟨z0, z1, z2, z3, z4, z5, z6⟩ := XB13.out.cells
                go_wp2_with fail
                clear x0 x1 x2 x3 x4 x5 x6 y0 y1 y2 y3 y4 y5 y6 z0 z1 z2 z3 z4 z5 z6
                refine (KX.out _ U13.out).mono ?_
                rintro e w14 ⟨rfl, hb⟩
                have B14 := Lib.hid (below_then B13.out hb)
                have T14 := Lib.hid (T13.out.below hb)
                have P14 := Lib.hid (P13.out.below hb)
                have U14 := Lib.hid (U13.out.below hb)
                have Y14 := Lib.hid (Y13.out.below hb)
                have XA14 := Lib.hid (XA13.out.below hb)
                have XB14 := Lib.hid (XB13.out.below hb)
                clear hb B13 T13 P13 U13 Y13 XA13 XB13
                clear hbw
                obtain ⟨x0, x1, x2, x3, x4, x5, x6⟩ := P14.out.cells
                obtain ⟨y0, y1, y2, y3, y4, y5, y6⟩ := XA14.out.cells
                obtain ⟨z0, z1, z2, z3, z4, z5, z6⟩ := XB14.out.cells
                go_wp2_with fail
                clear x0 x1 x2 x3 x4 x5 x6 y0 y1 y2 y3 y4 y5 y6 z0 z1 z2 z3 z4 z5 z6
                refine (KY.out _ Y14.out).mono ?_
                rintro e w15 ⟨rfl, hb⟩
                have B15 := Lib.hid (below_then B14.out hb)
                have T15 := Lib.hid (T14.out.below hb)
                have P15 := Lib.hid (P14.out.below hb)
                have U15 := Lib.hid (U14.out.below hb)
                have Y15 := Lib.hid (Y14.out.below hb)
                have XA15 := Lib.hid (XA14.out.below hb)
                have XB15 := Lib.hid (XB14.out.below hb)
                clear hb B14 T14 P14 U14 Y14 XA14 XB14
                obtain ⟨x0, x1, x2, x3, x4, x5, x6⟩ := P15.out.cells
                obtain ⟨y0, y1, y2, y3, y4, y5, y6⟩ := XA15.out.cells
                obtain ⟨z0, z1, z2, z3, z4, z5, z6⟩ := XB15.out.cells
                go_wp2_with fail
                clear x0 x1 x2 x3 x4 x5 x6 y0 y1 y2 y3 y4 y5 y6 z0 z1 z2 z3 z4 z5 z6
                refine (C1.out _).mono ?_
                rintro e w16 ⟨rfl, hb⟩
                have B16 := Lib.hid (below_then B15.out hb)
                have T16 := Lib.hid (T15.out.below hb)
                have P16 := Lib.hid (P15.out.below hb)
                have U16 := Lib.hid (U15.out.below hb)
                have Y16 := Lib.hid (Y15.out.below hb)
                have XA16 := Lib.hid (XA15.out.below hb)
                have XB16 := Lib.hid (XB15.out.below hb)
                clear hb B15 T15 P15 U15 Y15 XA15 XB15
                generalize Lib.compareBytes k1 sep = c1 at *
                have hc1n : ¬ 0 ≤ c1 := by omega
                obtain ⟨x0, x1, x2, x3, x4, x5, x6⟩ := P16.out.cells
                obtain ⟨y0, y1, y2, y3, y4, y5, y6⟩ := XA16.out.cells
                obtain ⟨z0, z1, z2, z3, z4, z5, z6⟩ := XB16.out.cells
                go_wp2_with fail
                clear x0 x1 x2 x3 x4 x5 x6 y0 y1 y2 y3 y4 y5 y6 z0 z1 z2 z3 z4 z5 z6
                refine (C2.out _).mono ?_
                rintro e w17 ⟨rfl, hb⟩
                have B17 := Lib.hid (below_then B16.out hb)
                have T17 := Lib.hid (T16.out.below hb)
                have P17 := Lib.hid (P16.out.below hb)
                have U17 := Lib.hid (U16.out.below hb)
                have Y17 := Lib.hid (Y16.out.below hb)
                have XA17 := Lib.hid (XA16.out.below hb)
                have XB17 := Lib.hid (XB16.out.below hb)
                clear hb B16 T16 P16 U16 Y16 XA16 XB16
                generalize Lib.compareBytes sep k2 = c2 at *
                have hc2n : ¬ 0 < c2 := by omega
                obtain ⟨⟨ma, mb2, mc, md, me, rowsM⟩, er⟩ := MM
                simp only at *
                obtain ⟨x0, x1, x2, x3, x4, x5, x6⟩ := P17.out.cells
                obtain ⟨y0, y1, y2, y3, y4, y5, y6⟩ := XA17.out.cells
                obtain ⟨z0, z1, z2, z3, z4, z5, z6⟩ := XB17.out.cells
                go_wp2_with fail
                clear x0 x1 x2 x3 x4 x5 x6 y0 y1 y2 y3 y4 y5 y6 z0 z1 z2 z3 z4 z5 z6
                refine (MG.out _ U17.out Y17.out).mono ?_
                rintro e w18 ⟨sv18, rfl, G, hb⟩
                simp only at G
                obtain ⟨nmm, hnmm⟩ : ∃ z, z = rowsM.length := ⟨_, rfl⟩
                have Hnmm := Lib.hid hnmm
                clear hnmm
                have GA18 := Lib.hid G
                obtain ⟨A18, cp18, hv18, _, _, _, _⟩ := G
                rw [← Hnmm.out] at hv18
                subst hv18
                have B18 := Lib.hid (below_then B17.out hb)
                have T18 := Lib.hid (T17.out.below hb)
                have P18 := Lib.hid (P17.out.below hb)
                have U18 := Lib.hid (U17.out.below hb)
                have Y18 := Lib.hid (Y17.out.below hb)
                have XA18 := Lib.hid (XA17.out.below hb)
                have XB18 := Lib.hid (XB17.out.below hb)
                clear hb B17 T17 P17 U17 Y17 XA17 XB17
                obtain ⟨x0, x1, x2, x3, x4, x5, x6⟩ := P18.out.cells
                obtain ⟨y0, y1, y2, y3, y4, y5, y6⟩ := XA18.out.cells
                obtain ⟨z0, z1, z2, z3, z4, z5, z6⟩ := XB18.out.cells
                unfold pgV
                simp only
                go_upto_region 31 with fail
                clear x0 x1 x2 x3 x4 x5 x6 y0 y1 y2 y3 y4 y5 y6 z0 z1 z2 z3 z4 z5 z6
                have BN := Lib.hid (alloc_below w18 (.cells #[.int .u8 ma, .int .u8 mb2, .int .u32 mc, .int .u64 md, .int .u32 me, .slice A18 nmm cp18] 45))
                have ZA19 := Lib.hid (PgBox.new w18 ma mb2 mc md me (.slice A18 nmm cp18))
                generalize w18.alloc (.cells #[.int .u8 ma, .int .u8 mb2, .int .u32 mc, .int .u64 md, .int .u32 me, .slice A18 nmm cp18] 45) = w19 at *
                have hb := BN.out
                clear BN
                have B19 := Lib.hid (below_then B18.out hb)
                have T19 := Lib.hid (T18.out.below hb)
                have P19 := Lib.hid (P18.out.below hb)
                have U19 := Lib.hid (U18.out.below hb)
                have Y19 := Lib.hid (Y18.out.below hb)
                have XA19 := Lib.hid (XA18.out.below hb)
                have XB19 := Lib.hid (XB18.out.below hb)
                have GA19 := Lib.hid (GA18.out.below hb)
                clear hb B18 T18 P18 U18 Y18 XA18 XB18 GA18
                clear U19
                clear Y19
                clear XA19
                clear XB19
                obtain ⟨x0, x1, x2, x3, x4, x5, x6⟩ := P19.out.cells
                obtain ⟨u0, u1, u2, u3, u4, u5, u6⟩ := ZA19.out.cells
                go_wp2_with fail
                clear x0 x1 x2 x3 x4 x5 x6 u0 u1 u2 u3 u4 u5 u6
                refine (HWI.out _ _ T19.out).mono ?_
                rintro e w20 ⟨sv20, rfl, G, hb⟩
                simp only at G
                have GB20 := Lib.hid G
                obtain ⟨A20, cp20, hv20, _, _, _, _⟩ := G
                rw [← Hnmm.out] at hv20
                subst hv20
                have B20 := Lib.hid (below_then B19.out hb)
                have T20 := Lib.hid (T19.out.below hb)
                have P20 := Lib.hid (P19.out.below hb)
                have GA20 := Lib.hid (GA19.out.below hb)
                have ZA20 := Lib.hid (ZA19.out.below hb)
                clear hb B19 T19 P19 GA19 ZA19
                obtain ⟨x0, x1, x2, x3, x4, x5, x6⟩ := P20.out.cells
                obtain ⟨u0, u1, u2, u3, u4, u5, u6⟩ := ZA20.out.cells
                unfold pgV
                simp only
                go_upto_region 32 with fail
                clear x0 x1 x2 x3 x4 x5 x6 u0 u1 u2 u3 u4 u5 u6
                have BN := Lib.hid (alloc_below w20 (.cells #[.int .u8 ma, .int .u8 mb2, .int .u32 mc, .int .u64 md, .int .u32 me, .slice A20 nmm cp20] 45))
                have ZB21 := Lib.hid (PgBox.new w20 ma mb2 mc md me (.slice A20 nmm cp20))
                generalize w20.alloc (.cells #[.int .u8 ma, .int .u8 mb2, .int .u32 mc, .int .u64 md, .int .u32 me, .slice A20 nmm cp20] 45) = w21 at *
                have hb := BN.out
                clear BN
                have B21 := Lib.hid (below_then B20.out hb)
                have T21 := Lib.hid (T20.out.below hb)
                have P21 := Lib.hid (P20.out.below hb)
                have GA21 := Lib.hid (GA20.out.below hb)
                have ZA21 := Lib.hid (ZA20.out.below hb)
                have GB21 := Lib.hid (GB20.out.below hb)
                clear hb B20 T20 P20 GA20 ZA20 GB20
                clear T21
                clear P21
                by_cases her : er = 0
                · subst her
                  obtain ⟨u0, u1, u2, u3, u4, u5, u6⟩ := ZA21.out.cells
                  obtain ⟨v0, v1, v2, v3, v4, v5, v6⟩ := ZB21.out.cells
                  go_wp2_with fail
                  clear u0 u1 u2 u3 u4 u5 u6 v0 v1 v2 v3 v4 v5 v6
                  refine (refSame06_eq ⟨ma, mb2, mc, md, me, rowsM⟩ (.slice A18 nmm cp18) (.slice A20 nmm cp20) _ GA21.out GB21.out).mono ?_
                  rintro e w22 ⟨rfl, hb⟩
                  have B22 := Lib.hid (below_then B21.out hb)
                  have GA22 := Lib.hid (GA21.out.below hb)
                  have ZA22 := Lib.hid (ZA21.out.below hb)
                  have GB22 := Lib.hid (GB21.out.below hb)
                  have ZB22 := Lib.hid (ZB21.out.below hb)
                  clear hb B21 GA21 ZA21 GB21 ZB21
                  go_wp2_with fail
                  refine (AL.out _).mono ?_
                  rintro e wa ⟨rfl, hba⟩
                  have Ba := Lib.hid (below_then B22.out hba)
                  clear hba
                  go_wp2_with fail
                  go_ret
                  exact ⟨rfl, Ba.out⟩
                · have her2 : (er == 0) = false := by simpa using her
                  have her3 : (er != 0) = true := by simpa using her
                  obtain ⟨u0, u1, u2, u3, u4, u5, u6⟩ := ZA21.out.cells
                  obtain ⟨v0, v1, v2, v3, v4, v5, v6⟩ := ZB21.out.cells
                  go_wp2_with fail
                  refine (AL.out _).mono ?_
                  rintro e wa ⟨rfl, hba⟩
                  have Ba := Lib.hid (below_then B21.out hba)
                  clear hba
                  go_wp2_with fail
                  go_ret
                  exact ⟨rfl, Ba.out⟩

end Go.Proofs.Ytjcfnfpilladfaa
