/- chapter 08: NodeFinds: the walk -/
import Derived.Test.YtjcfnfpilladfaaRows
import Derived.Test.YtjcfnfpilladfaaNodeFindsPlain
import Derived.Test.YtjcfnfpilladfaaNodeFind
import Derived.Test.YtjcfnfpilladfaaNodeCheck
import Derived.Test.YtjcfnfpilladfaaNodeWeigh
import Derived.Test.YtjcfnfpilladfaaNodeAlive
import Derived.Deep.RegionLaw
import Derived.WalkKit
import Derived.WalkLawsBesides
import Derived.WalkSpells
import Derived.LoopTactic
import Derived.WalkMore
import Derived.LoopN
import Derived.Laws.BitsAllLaws
import Derived.Laws.IdiomStrings
import Derived.BigQuiet
import Derived.Deep.QuietTactic
import Derived.Deep.DeepCutAuto
import Derived.Deep.RegionHeld3
import Derived.Deep.DrawnRows
import Derived.Lib.Hide
import Derived.Outline
import Derived.Deep.DeepMust
import Derived.Handy
namespace Go.Proofs.Ytjcfnfpilladfaa
open Go.RowKit
set_option linter.unusedVariables false
set_option linter.unusedSimpArgs false

set_option maxHeartbeats 4000000 in
set_option maxRecDepth 100000 in
theorem nodeFinds_any (sv : Value) (l : List Rw) (x : List UInt8) (w : World) (hr : RowsAt w sv l) (hw : ∀ r ∈ l, r.wf) (hx : x.length ≤ 140737488351232) :
    Calls Try.prog 10 #[sv, .string ⟨x.toArray⟩] w fun e w' => e = .returned (.bool true) ∧ Below w.heap.size w w' := by
  have AL := Lib.hid fun W => alive08_any W
  have hwt := weight_heavy (leafPg l).rows
  have LF := Lib.hid fun (hl : l.length ≤ 1000000) W (h : RowsAt W sv l) => leaf_any sv l W h hw hl
  have hrz : ∀ r ∈ (leafPg l).rows, r.length ≤ 140737488351232 := fun r hr => by
    obtain ⟨q, hq, rfl⟩ := List.mem_map.1 hr
    exact Nat.le_trans (Rw.enc_le q) (by omega)
  have HV := Lib.hid fun W v (h : TextsAt W v (leafPg l).rows) => heavy06_any (leafPg l) v W h hrz
  have hpw : (leafPg l).wf := by unfold leafPg Pg.wf; simp
  have CK := Lib.hid fun (HB : weightB (leafPg l).rows ≤ 1000000) v W (hW : TextsAt W v (leafPg l).rows)  => nodeCheck_any (leafPg l) v W hpw hW HB
  have FP := Lib.hid fun (HB : weightB (leafPg l).rows ≤ 1000000) k v W (hW : TextsAt W v (leafPg l).rows)  => nodeFind_any (leafPg l) v k W hpw hW HB
  have KP := Lib.hid fun (HB : weightB (leafPg l).rows ≤ 1000000) v W (hW : TextsAt W v (leafPg l).rows) (i : Nat) (hi : i ≤ 1000000) => nodeKey_any (leafPg l) v i W hpw hW HB (by omega) (by omega)
  have IN := Lib.hid fun v W (hl : l.length ≤ 1000000) (h : EntsAt W v (entsOf l l.length)) => inner_any v (entsOf l l.length) W h (fun r hr => by
    unfold entsOf at hr
    obtain ⟨j, hj, rfl⟩ := List.mem_map.1 hr
    have hj2 := List.mem_range.1 hj
    unfold En.wf
    simp only [List.getD_eq_getElem?_getD, List.getElem?_map, List.getElem?_eq_getElem hj2, Option.map_some, Option.getD_some]
    exact (hw _ (List.getElem_mem hj2)).1) (by rw [entsOf_length]; exact hl)
  have hqz : ∀ hl : l.length ≤ 30, weightB (innerPg (entsOf l l.length)).rows ≤ 1000000 := fun hl => by
    have := weight_ents (entsOf l l.length)
    rw [entsOf_length] at this
    omega
  have hqw : (innerPg (entsOf l l.length)).wf := by unfold innerPg Pg.wf; simp
  have QK := Lib.hid fun (hl : l.length ≤ 30) v W (hW : TextsAt W v (innerPg (entsOf l l.length)).rows) => nodeCheck_any (innerPg (entsOf l l.length)) v W hqw hW (hqz hl)
  have QC := Lib.hid fun (hl : l.length ≤ 30) v W (hW : TextsAt W v (innerPg (entsOf l l.length)).rows) => nodeChild_any (innerPg (entsOf l l.length)) v x W hqw hW (hqz hl)
  have CI := Lib.hid fun (h : checkB (leafPg l) = true) (hl : 0 < l.length) (hl2 : l.length ≤ 30) (hq : checkB (innerPg (entsOf l l.length)) = true) => inner_child hw h hl hl2 hq x
  have CL := Lib.hid fun (h : checkB (leafPg l) = true) => leaf_place hw h x
  have CF := Lib.hid fun (h : checkB (leafPg l) = true) (i : Nat) (hi : i < l.length) => leaf_find hw h i hi
  have ES := Lib.hid fun (i : Nat) (hi : i < l.length) => entsOf_succ l i hi
  have wle : ¬ 4096 < heavyB (leafPg l).rows → weightB (leafPg l).rows ≤ 1000000 := by omega
  have HWL := Lib.hid wle
  clear wle hwt hrz hpw hqw hqz
  have HWF := Lib.hid hw
  obtain ⟨i0, hif, hz0, hz1, hz2⟩ := info_parts (P := Try.prog) (e := 93) (z := .agg #[.string ⟨#[]⟩, .int .u32 0]) (size := 2) (bytes := 24) (by kernel_rfl)
  have HI := Lib.hid hif
  have HI0 := Lib.hid hz0
  have HI1 := Lib.hid hz1
  have HI2 := Lib.hid hz2
  clear hif hz0 hz1 hz2
  have HR := Lib.hid hr
  obtain ⟨A, cp, hsv, h2, h3, h5⟩ := hr
  obtain ⟨n, hn⟩ : ∃ n, n = l.length := ⟨_, rfl⟩
  rw [← hn] at hsv h2
  subst hsv
  unfold maxLen at h3
  have H5 := Lib.hid h5
  have HN := Lib.hid hn
  have HKW := Lib.hid fun r (h : r ∈ l) => (hw r h).1
  clear h5 hw
  have EO := Lib.hid fun (W : World) (base : Nat) (v : Value) (h : W.ownsRow base 93 2 v n (entCells (entsOf l n))) => (ents_own h).1
  clear ES
  rw [← hn] at IN CI QK QC
  have hpl := hn ▸ (show (leafPg l).rows.length = l.length by simp [leafPg])
  generalize innerPg (entsOf l n) = q at *
  have hkd : (leafPg l).kind = 1 := rfl
  generalize leafPg l = p at *
  obtain ⟨kind, level, id, lsn, next, rows⟩ := p
  obtain ⟨qa, qb, qc, qd, qe, rowsQ⟩ := q
  unfold PgOnly pgV at *
  simp only at *
  have HPL := Lib.hid hpl
  clear hn hpl hkd
  generalize heavyB rows = hv at *
  generalize weightB rows = wB at *
  go_enter Try.func10, Try.ntmps10
  by_cases hlb : 30 < n
  · have hlc : (30 : Int) < (n : Int) := by omega
    go_wp2_with fail
    refine (AL.out _).mono ?_
    rintro e wa ⟨rfl, hba⟩
    have Ba := Lib.hid (hba)
    clear hba
    go_wp2_with fail
    go_ret
    exact ⟨rfl, Ba.out⟩
  · have hlc : ¬ (30 : Int) < (n : Int) := by omega
    by_cases hxb : 512 < x.length
    · have hxc : 512 < x.toArray.size := by simpa using hxb
      have hxd : x.toArray.size ≤ 140737488351232 := by simpa using hx
      go_wp2_with fail
      refine (AL.out _).mono ?_
      rintro e wa ⟨rfl, hba⟩
      have Ba := Lib.hid (hba)
      clear hba
      go_wp2_with fail
      go_ret
      exact ⟨rfl, Ba.out⟩
    · have hxc : ¬ 512 < x.toArray.size := by simpa using hxb
      have hxm : ByteArray.size ⟨x.toArray⟩ ≤ maxLen := by show x.toArray.size ≤ maxLen; unfold maxLen; omega
      have HXM := Lib.hid hxm
      clear hxm
      have hl30 : l.length ≤ 30 := by have := HN.out; omega
      have LF1 := Lib.hid (LF.out (by omega))
      have hn30 : n ≤ 30 := by omega
      have IN1 := Lib.hid fun v W => IN.out v W (by omega)
      have QK1 := Lib.hid (QK.out hn30)
      have QC1 := Lib.hid (QC.out hn30)
      have CI1 := Lib.hid fun h hl hq => CI.out h hl hn30 hq
      clear LF IN QK QC CI hl30
      go_wp2_with fail
      refine (LF1.out _ HR.out).mono ?_
      rintro e w1 ⟨sv1, rfl, G, hb⟩
      obtain ⟨nm, hnm⟩ : ∃ z, z = rows.length := ⟨_, rfl⟩
      have HNM := Lib.hid hnm
      clear hnm
      have T1 := Lib.hid G
      obtain ⟨A1, cp1, hv1, _, _, _, _⟩ := G
      rw [← HNM.out] at hv1
      subst hv1
      have B1 := Lib.hid hb
      clear hb LF1
      go_upto_region 4 with fail
      have BN := Lib.hid (alloc_below w1 (.cells #[.int .u8 kind, .int .u8 level, .int .u32 id, .int .u64 lsn, .int .u32 next, .slice A1 nm cp1] 45))
      have P1 := Lib.hid (PgBox.new w1 kind level id lsn next (.slice A1 nm cp1))
      have hg1 : w.heap.size ≤ w1.heap.size := B1.out.size
      generalize w1.alloc (.cells #[.int .u8 kind, .int .u8 level, .int .u32 id, .int .u64 lsn, .int .u32 next, .slice A1 nm cp1] 45) = w2 at *
      have B2 := Lib.hid (below_then B1.out BN.out)
      have T2 := Lib.hid (T1.out.below BN.out)
      generalize w1.heap.size = gp at *
      have P2 := P1
      clear BN P1 T1 B1
      obtain ⟨x0, x1, x2, x3, x4, x5, x6⟩ := P2.out.cells
      go_wp2_with fail
      clear x0 x1 x2 x3 x4 x5 x6
      refine (HV.out _ _ T2.out).mono ?_
      rintro e w3 ⟨rfl, hb⟩
      have B3 := Lib.hid (below_then B2.out hb)
      have T3 := Lib.hid (T2.out.below hb)
      have P3 := Lib.hid (P2.out.below hb)
      clear hb B2 T2 P2
      cases hh : decide (4096 < hv) with
      | true =>
        obtain ⟨x0, x1, x2, x3, x4, x5, x6⟩ := P3.out.cells
        go_wp2_with fail
        refine (AL.out _).mono ?_
        rintro e wa ⟨rfl, hba⟩
        have Ba := Lib.hid (below_then B3.out hba)
        clear hba
        go_wp2_with fail
        go_ret
        exact ⟨rfl, Ba.out⟩
      | false =>
        have hv0 : ¬ 4096 < hv := by simpa using hh
        clear hh HV
        have HB := HWL.out hv0
        have CK1 := Lib.hid (CK.out HB)
        have FP1 := Lib.hid (FP.out HB)
        have KP1 := Lib.hid (KP.out HB)
        clear CK FP KP HB HWL hv0
        obtain ⟨x0, x1, x2, x3, x4, x5, x6⟩ := P3.out.cells
        go_wp2_with fail
        clear x0 x1 x2 x3 x4 x5 x6
        refine (CK1.out _ _ T3.out).mono ?_
        rintro e w4 ⟨rfl, hb⟩
        have B4 := Lib.hid (below_then B3.out hb)
        have T4 := Lib.hid (T3.out.below hb)
        have P4 := Lib.hid (P3.out.below hb)
        clear hb B3 T3 P3
        cases hck : checkB ⟨kind, level, id, lsn, next, rows⟩ with
        | false =>
          unfold chkN
          obtain ⟨x0, x1, x2, x3, x4, x5, x6⟩ := P4.out.cells
          go_wp2_with fail
          refine (AL.out _).mono ?_
          rintro e wa ⟨rfl, hba⟩
          have Ba := Lib.hid (below_then B4.out hba)
          clear hba
          go_wp2_with fail
          go_ret
          exact ⟨rfl, Ba.out⟩
        | true =>
          unfold chkN
          have CF1 := Lib.hid (CF.out hck)
          have CL1 := Lib.hid (CL.out hck)
          have CI2 := Lib.hid (CI1.out hck)
          clear CF CL CI1 hck CK1
          obtain ⟨x0, x1, x2, x3, x4, x5, x6⟩ := P4.out.cells
          go_wp2_with fail
          clear x0 x1 x2 x3 x4 x5 x6
          have HPx := P4
          have HTx := T4
          have HBx := B4
          clear P4 T4 B4
          go_loopw [6] (fun s6 wr => ∃ i : Nat, s6 = .int .i64 i ∧ i ≤ n ∧ Hid (PgBox wr gp kind level id lsn next (.slice A1 nm cp1)) ∧ Hid (TextsAt wr (.slice A1 nm cp1) rows) ∧ Hid (Below w.heap.size w wr)) (fun v _ => n - (intOf v).toNat)
          case atStart => exact ⟨0, rfl, Nat.zero_le _, HPx, HTx, HBx⟩
          case round =>
            obtain ⟨i, rfl, hi, hP, hT, hB⟩ := hrel
            clear HPx HTx HBx
            by_cases hc : i < n
            · have hci : (i : Int) < (n : Int) := by omega
              have hia : i < l.length := by rw [← HN.out]; exact hc
              obtain ⟨b0, o0, rfl, hb0, hcell⟩ := H5.out (by omega)
              have q1 : (0 : Int) ≤ (i : Int) := by omega
              have hF := CF1.out i hia
              have FPi := Lib.hid fun v W hW => FP1.out l[i].key v W hW
              have KPi := Lib.hid fun v W hW => KP1.out v W hW i (by omega)
              rw [hF.1] at FPi
              rw [hF.2] at KPi
              have d0 : wr.cell? ⟨b0, o0 + i * 7, none⟩ = some (.string ⟨l[i].key.toArray⟩) := keep_cell hB.out (hcell i hia 0 _ rfl)
              clear hcell hF
              generalize l[i].key = kk at *
              have KC := Lib.hid fun W (hW : Below wr.heap.size wr W) => (⟨(hP.out.below hW).cells, keep_cell hW d0⟩ : _ ∧ W.cell? ⟨b0, o0 + i * 7, none⟩ = some (.string ⟨kk.toArray⟩))
              have D1 : Hid (Below wr.heap.size wr wr.drew) := Lib.hid ((Below.refl _ _).drew)
              go_upto_region 9 with fail
              go_region_held3 (fun W => (gp < W.heap.size ∧ W.cell? ⟨gp, 0, none⟩ = some (.int .u8 kind) ∧ W.cell? ⟨gp, 1, none⟩ = some (.int .u8 level) ∧ W.cell? ⟨gp, 2, none⟩ = some (.int .u32 id) ∧ W.cell? ⟨gp, 3, none⟩ = some (.int .u64 lsn) ∧ W.cell? ⟨gp, 4, none⟩ = some (.int .u32 next) ∧ W.cell? ⟨gp, 5, none⟩ = some (.slice A1 nm cp1)) ∧ W.cell? ⟨b0, o0 + i * 7, none⟩ = some (.string ⟨kk.toArray⟩))
                (first
                  | (with_reducible exact KC.out _ D1.out)
                  | (with_reducible exact KC.out _ hb)
                  | exact KC.out _ D1.out)
                (first
                  | (go_at_call 41; refine (FPi.out _ _ (hT.out.below D1.out)).mono ?_; rintro e w5 ⟨rfl, hb0⟩; have hb := below_then D1.out hb0; clear hb0))
              clear KC D1
              have P5 := Lib.hid (hP.out.below hb)
              have T5 := Lib.hid (hT.out.below hb)
              have B5 := Lib.hid (below_then hB.out hb)
              have d1 := keep_cell hb d0
              clear hb d0 hP hT hB
              obtain ⟨x0, x1, x2, x3, x4, x5, x6⟩ := P5.out.cells
              go_wp2_with fail
              refine (KPi.out _ _ T5.out).mono ?_
              rintro e w6 ⟨rfl, hb⟩
              have P6 := Lib.hid (P5.out.below hb)
              have T6 := Lib.hid (T5.out.below hb)
              have B6 := Lib.hid (below_then B5.out hb)
              have d2 := keep_cell hb d1
              clear hb d1 x0 x1 x2 x3 x4 x5 x6 P5 T5 B5
              have e1 : (kk == kk) = true := by simp
              go_wp2_with fail
              go_roundw
              case rel => exact ⟨i + 1, by go_num, by omega, P6, T6, B6⟩
              case measure => simp [intOf]; omega
            · have hci : ¬ (i : Int) < (n : Int) := by omega
              clear hi hc CF1 KP1
              obtain ⟨x0, x1, x2, x3, x4, x5, x6⟩ := hP.out.cells
              go_wp2_with fail
              refine (FP1.out _ _ _ hT.out).mono ?_
              rw [CL1.out.1]
              rintro e w5 ⟨rfl, hb⟩
              have B5 := Lib.hid (below_then hB.out hb)
              clear hb x0 x1 x2 x3 x4 x5 x6 hP hT hB
              obtain ⟨hfl, g1, g2, g3⟩ := CL1.out.2
              have CHN : Hid (childN (l.map Rw.key) x = if findIs (l.map Rw.key) x = true then findN (l.map Rw.key) x else findN (l.map Rw.key) x - 1) := Lib.hid rfl
              generalize findN (l.map Rw.key) x = F at *
              generalize findIs (l.map Rw.key) x = S at *
              clear CL1 FP1
              have hfn : F ≤ n := by rw [HN.out]; exact hfl
              have G1 := Lib.hid g1
              have G2 := Lib.hid g2
              have G3 := Lib.hid g3
              clear hfl g1 g2 g3
              go_upto_region 14 with fail
              go_cut [143] (fun s w' => s = .bool false ∧ Hid (Below w.heap.size w w'))
              case first =>
                rcases Nat.eq_zero_or_pos F with hF0 | hF0
                · by_cases hFn : F < n
                  · cases S with
                    | false =>
                      subst hF0
                      obtain ⟨b0, o0, rfl, hb0, hcell⟩ := H5.out (by have := HN.out; omega)
                      have HCELL := Lib.hid hcell
                      clear hcell
                      have hfl : 0 < l.length := by have := HN.out; omega
                      have hc2 := G2.out hfl
                      have d2 : w5.cell? ⟨b0, o0, none⟩ = some (.string ⟨(l[0]'hfl).key.toArray⟩) := by simpa using keep_cell B5.out (HCELL.out 0 hfl 0 _ rfl)
                      have CN := Lib.hid fun W => refCompare_below ⟨x.toArray⟩ ⟨(l[0]'hfl).key.toArray⟩ W HXM.out (by simpa [ByteArray.size] using HKW.out _ (List.getElem_mem hfl))
                      simp only at CN
                      have q6 : ((0 : Nat) : Int) < (n : Int) := by omega
                      generalize (l[0]'hfl).key = k2 at *
                      clear G1 G2 G3
                      generalize Lib.compareBytes x k2 = c2 at *
                      have e4 : ¬ 0 < c2 := by omega
                      go_wp2_with fail
                      refine (CN.out _).mono ?_
                      rintro e w6 ⟨rfl, hb⟩
                      have B6 := Lib.hid (below_then B5.out hb)
                      have d4 := keep_cell hb d2
                      clear hb
                      go_wp2_with fail
                      go_meet
                      first | exact ⟨rfl, B6⟩ | exact ⟨by simp; omega, B6⟩
                    | true =>
                      subst hF0
                      obtain ⟨b0, o0, rfl, hb0, hcell⟩ := H5.out (by have := HN.out; omega)
                      have HCELL := Lib.hid hcell
                      clear hcell
                      have hfl : 0 < l.length := by have := HN.out; omega
                      have hc2 := G2.out hfl
                      have d2 : w5.cell? ⟨b0, o0, none⟩ = some (.string ⟨(l[0]'hfl).key.toArray⟩) := by simpa using keep_cell B5.out (HCELL.out 0 hfl 0 _ rfl)
                      have CN := Lib.hid fun W => refCompare_below ⟨x.toArray⟩ ⟨(l[0]'hfl).key.toArray⟩ W HXM.out (by simpa [ByteArray.size] using HKW.out _ (List.getElem_mem hfl))
                      simp only at CN
                      have q6 : ((0 : Nat) : Int) < (n : Int) := by omega
                      obtain ⟨hg, hk⟩ := G3.out rfl
                      rw [hk] at d2 CN
                      rw [hk] at hc2
                      have e1 : (x == x) = true := by simp
                      clear G1 G2 G3
                      generalize Lib.compareBytes x x = c2 at *
                      have e4 : ¬ 0 < c2 := by omega
                      go_wp2_with fail
                      refine (CN.out _).mono ?_
                      rintro e w6 ⟨rfl, hb⟩
                      have B6 := Lib.hid (below_then B5.out hb)
                      have d4 := keep_cell hb d2
                      clear hb
                      go_wp2_with fail
                      go_meet
                      first | exact ⟨rfl, B6⟩ | exact ⟨by simp; omega, B6⟩
                  · cases S with
                    | false =>
                      subst hF0
                      have q6 : ¬ ((0 : Nat) : Int) < (n : Int) := by omega
                      have q7 : ¬ (n : Int) < ((0 : Nat) : Int) := by omega
                      clear G1 G2 G3
                      go_wp2_with fail
                      go_meet
                      first | exact ⟨rfl, B5⟩ | exact ⟨by simp; omega, B5⟩
                    | true => obtain ⟨hg, _⟩ := G3.out rfl; have := HN.out; omega
                · by_cases hFn : F < n
                  · cases S with
                    | false =>
                      obtain ⟨t, rfl⟩ : ∃ t, F = t + 1 := ⟨F - 1, by omega⟩
                      have ht : t < l.length := by have := HN.out; omega
                      have hc1 := G1.out t ht rfl
                      obtain ⟨b0, o0, rfl, hb0, hcell⟩ := H5.out (by omega)
                      have d0 : w5.cell? ⟨b0, o0 + t * 7, none⟩ = some (.string ⟨l[t].key.toArray⟩) := keep_cell B5.out (hcell t ht 0 _ rfl)
                      have v1 : IntKind.i64.wrap (((t + 1 : Nat) : Int) - 1) = (t : Int) := by rw [show ((t + 1 : Nat) : Int) - 1 = (t : Int) by omega]; exact IntWalk.i64_in _ ⟨by omega, by omega⟩
                      have CM := Lib.hid fun W => refCompare_below ⟨l[t].key.toArray⟩ ⟨x.toArray⟩ W (by simpa [ByteArray.size] using HKW.out _ (List.getElem_mem ht)) HXM.out
                      simp only at CM
                      have q3 : (t : Int) < (n : Int) := by omega
                      have q4 : (0 : Int) ≤ (t : Int) := by omega
                      have q5 : (0 : Int) < ((t + 1 : Nat) : Int) := by omega
                      have HCELL := Lib.hid hcell
                      clear hcell
                      have hfl : (t + 1) < l.length := by have := HN.out; omega
                      have hc2 := G2.out hfl
                      have d2 : w5.cell? ⟨b0, o0 + (t + 1) * 7, none⟩ = some (.string ⟨(l[(t + 1)]'hfl).key.toArray⟩) := by simpa using keep_cell B5.out (HCELL.out (t + 1) hfl 0 _ rfl)
                      have CN := Lib.hid fun W => refCompare_below ⟨x.toArray⟩ ⟨(l[(t + 1)]'hfl).key.toArray⟩ W HXM.out (by simpa [ByteArray.size] using HKW.out _ (List.getElem_mem hfl))
                      simp only at CN
                      have q6 : (((t + 1) : Nat) : Int) < (n : Int) := by omega
                      generalize (l[(t + 1)]'hfl).key = k2 at *
                      clear G1 G2 G3
                      generalize l[t].key = k1 at *
                      generalize Lib.compareBytes k1 x = c1 at *
                      have e3 : ¬ 0 ≤ c1 := by omega
                      go_wp2_with fail
                      refine (CM.out _).mono ?_
                      rintro e w6 ⟨rfl, hb⟩
                      have B6 := Lib.hid (below_then B5.out hb)
                      have d3 := keep_cell hb d2
                      clear d2
                      clear hb d0
                      generalize Lib.compareBytes x k2 = c2 at *
                      have e4 : ¬ 0 < c2 := by omega
                      go_wp2_with fail
                      refine (CN.out _).mono ?_
                      rintro e w7 ⟨rfl, hb⟩
                      have B7 := Lib.hid (below_then B6.out hb)
                      have d4 := keep_cell hb d3
                      clear hb
                      go_wp2_with fail
                      go_meet
                      first | exact ⟨rfl, B7⟩ | exact ⟨by simp; omega, B7⟩
                    | true =>
                      obtain ⟨t, rfl⟩ : ∃ t, F = t + 1 := ⟨F - 1, by omega⟩
                      have ht : t < l.length := by have := HN.out; omega
                      have hc1 := G1.out t ht rfl
                      obtain ⟨b0, o0, rfl, hb0, hcell⟩ := H5.out (by omega)
                      have d0 : w5.cell? ⟨b0, o0 + t * 7, none⟩ = some (.string ⟨l[t].key.toArray⟩) := keep_cell B5.out (hcell t ht 0 _ rfl)
                      have v1 : IntKind.i64.wrap (((t + 1 : Nat) : Int) - 1) = (t : Int) := by rw [show ((t + 1 : Nat) : Int) - 1 = (t : Int) by omega]; exact IntWalk.i64_in _ ⟨by omega, by omega⟩
                      have CM := Lib.hid fun W => refCompare_below ⟨l[t].key.toArray⟩ ⟨x.toArray⟩ W (by simpa [ByteArray.size] using HKW.out _ (List.getElem_mem ht)) HXM.out
                      simp only at CM
                      have q3 : (t : Int) < (n : Int) := by omega
                      have q4 : (0 : Int) ≤ (t : Int) := by omega
                      have q5 : (0 : Int) < ((t + 1 : Nat) : Int) := by omega
                      have HCELL := Lib.hid hcell
                      clear hcell
                      have hfl : (t + 1) < l.length := by have := HN.out; omega
                      have hc2 := G2.out hfl
                      have d2 : w5.cell? ⟨b0, o0 + (t + 1) * 7, none⟩ = some (.string ⟨(l[(t + 1)]'hfl).key.toArray⟩) := by simpa using keep_cell B5.out (HCELL.out (t + 1) hfl 0 _ rfl)
                      have CN := Lib.hid fun W => refCompare_below ⟨x.toArray⟩ ⟨(l[(t + 1)]'hfl).key.toArray⟩ W HXM.out (by simpa [ByteArray.size] using HKW.out _ (List.getElem_mem hfl))
                      simp only at CN
                      have q6 : (((t + 1) : Nat) : Int) < (n : Int) := by omega
                      obtain ⟨hg, hk⟩ := G3.out rfl
                      rw [hk] at d2 CN
                      rw [hk] at hc2
                      have e1 : (x == x) = true := by simp
                      clear G1 G2 G3
                      generalize l[t].key = k1 at *
                      generalize Lib.compareBytes k1 x = c1 at *
                      have e3 : ¬ 0 ≤ c1 := by omega
                      go_wp2_with fail
                      refine (CM.out _).mono ?_
                      rintro e w6 ⟨rfl, hb⟩
                      have B6 := Lib.hid (below_then B5.out hb)
                      have d3 := keep_cell hb d2
                      clear d2
                      clear hb d0
                      generalize Lib.compareBytes x x = c2 at *
                      have e4 : ¬ 0 < c2 := by omega
                      go_wp2_with fail
                      refine (CN.out _).mono ?_
                      rintro e w7 ⟨rfl, hb⟩
                      have B7 := Lib.hid (below_then B6.out hb)
                      have d4 := keep_cell hb d3
                      clear hb
                      go_wp2_with fail
                      go_meet
                      first | exact ⟨rfl, B7⟩ | exact ⟨by simp; omega, B7⟩
                  · cases S with
                    | false =>
                      obtain ⟨t, rfl⟩ : ∃ t, F = t + 1 := ⟨F - 1, by omega⟩
                      have ht : t < l.length := by have := HN.out; omega
                      have hc1 := G1.out t ht rfl
                      obtain ⟨b0, o0, rfl, hb0, hcell⟩ := H5.out (by omega)
                      have d0 : w5.cell? ⟨b0, o0 + t * 7, none⟩ = some (.string ⟨l[t].key.toArray⟩) := keep_cell B5.out (hcell t ht 0 _ rfl)
                      have v1 : IntKind.i64.wrap (((t + 1 : Nat) : Int) - 1) = (t : Int) := by rw [show ((t + 1 : Nat) : Int) - 1 = (t : Int) by omega]; exact IntWalk.i64_in _ ⟨by omega, by omega⟩
                      have CM := Lib.hid fun W => refCompare_below ⟨l[t].key.toArray⟩ ⟨x.toArray⟩ W (by simpa [ByteArray.size] using HKW.out _ (List.getElem_mem ht)) HXM.out
                      simp only at CM
                      have q3 : (t : Int) < (n : Int) := by omega
                      have q4 : (0 : Int) ≤ (t : Int) := by omega
                      have q5 : (0 : Int) < ((t + 1 : Nat) : Int) := by omega
                      have HCELL := Lib.hid hcell
                      clear hcell
                      have q6 : ¬ (((t + 1) : Nat) : Int) < (n : Int) := by omega
                      have q7 : ¬ (n : Int) < (((t + 1) : Nat) : Int) := by omega
                      clear G1 G2 G3
                      generalize l[t].key = k1 at *
                      generalize Lib.compareBytes k1 x = c1 at *
                      have e3 : ¬ 0 ≤ c1 := by omega
                      go_wp2_with fail
                      refine (CM.out _).mono ?_
                      rintro e w6 ⟨rfl, hb⟩
                      have B6 := Lib.hid (below_then B5.out hb)
                      clear hb d0
                      go_wp2_with fail
                      go_meet
                      first | exact ⟨rfl, B6⟩ | exact ⟨by simp; omega, B6⟩
                    | true => obtain ⟨hg, _⟩ := G3.out rfl; have := HN.out; omega
              case rest =>
                obtain ⟨rfl, hB⟩ := hcut
                clear G1 G2 G3 B5
                go_wp2_with fail
                have hsc : w.heap.size ≤ wc.heap.size := hB.out.size
                go_loopw [13, 14] (fun s13 s14 wr => ∃ i : Nat, s14 = .int .i64 i ∧ i ≤ n ∧ Hid (wr.ownsRow wc.heap.size 93 2 s13 i (entCells (entsOf l i))) ∧ Hid (Below w.heap.size w wr) ∧ wc.heap.size ≤ wr.heap.size) (fun _ v _ => n - (intOf v).toNat)
                case atStart => exact ⟨0, rfl, Nat.zero_le _, Lib.hid (ents_start _ _ _), hB, Nat.le_refl _⟩
                case round =>
                  obtain ⟨i, rfl, hi, hO, hB, hs1⟩ := hrel
                  obtain ⟨b1, c1, hv, hc1, hc2, _⟩ := own_form2 hO.out
                  subst hv
                  unfold maxLen at hc2
                  by_cases hc : i < n
                  · have hci : (i : Int) < (n : Int) := by omega
                    have hia : i < l.length := by rw [← HN.out]; exact hc
                    obtain ⟨b0, o0, rfl, hb0, hcell⟩ := H5.out (by omega)
                    have q1 : (0 : Int) ≤ (i : Int) := by omega
                    have hst := ents_step l i hia
                    have d0 : wr.cell? ⟨b0, o0 + i * 7, none⟩ = some (.string ⟨l[i].key.toArray⟩) := keep_cell hB.out (hcell i hia 0 _ rfl)
                    generalize l[i].key = kk at *
                    have HST := Lib.hid hst
                    clear hcell hst
                    have v1 : IntKind.i64.wrap ((i : Int) + 2) = ((i + 2 : Nat) : Int) := by rw [show ((i + 2 : Nat) : Int) = (i : Int) + 2 by omega]; exact IntWalk.i64_in _ ⟨by omega, by omega⟩
                    have v2 : IntKind.u32.wrap ((i + 2 : Nat) : Int) = ((i + 2 : Nat) : Int) := IntWalk.u32_in _ ⟨by omega, by omega⟩
                    generalize i + 2 = ii at *
                    go_wp2_with (at_builtin; refine wpList_append_any _ rfl _ _ 91 rfl wc.heap.size 93 i0 (.agg #[.string ⟨#[]⟩, .int .u32 0]) 2 24 Try.underlying91 HI.out HI0.out HI1.out HI2.out rfl (by decide) _ _ _ (by rfl) (hO.out.alloc _) (.slice (some ⟨wr.heap.size, 0, none⟩) 1 1) 1 [.string ⟨kk.toArray⟩, .int .u32 (ii : Int)] (by rfl) (reads_two _ _ _ _ _) (one_ent _ _) (by unfold maxLen; omega) (by omega) (by simp; omega) ?_; intro v' w6 hown6 hgrow6; rw [HST.out] at hown6; have O6 := Lib.hid hown6; have B6 := Lib.hid ((hB.out.alloc hB.out.size (.cells #[.string ⟨kk.toArray⟩, .int .u32 (ii : Int)] 93)).grown hgrow6 (by have := hB.out.size; simp; omega) (fun j hj => by have := (hO.out.lt j hj).1; omega)); have hs6 : wc.heap.size ≤ w6.heap.size := (by have h9 := hgrow6.size; simp at h9; omega); clear hown6 hgrow6)
                    go_roundw
                    case rel => exact ⟨i + 1, by go_num, by omega, O6, B6, hs6⟩
                    case measure => simp [intOf]; omega
                  · have hci : ¬ (i : Int) < (n : Int) := by omega
                    have hin : n = i := by omega
                    subst hin
                    have EA := Lib.hid (EO.out _ _ _ hO.out)
                    clear hi hc EO hO
                    go_wp2_with fail
                    refine (IN1.out _ _ EA.out).mono ?_
                    rintro e w6 ⟨sv6, rfl, G, hb⟩
                    obtain ⟨nq, hnq⟩ : ∃ z, z = rowsQ.length := ⟨_, rfl⟩
                    have HNQ := Lib.hid hnq
                    clear hnq
                    have T6 := Lib.hid G
                    obtain ⟨A6, cp6, hv6, _, _, _, _⟩ := G
                    rw [← HNQ.out] at hv6
                    subst hv6
                    have B6 := Lib.hid (below_then hB.out hb)
                    clear hb IN1 EA hB
                    go_upto_region 22 with fail
                    have BN := Lib.hid (alloc_below w6 (.cells #[.int .u8 qa, .int .u8 qb, .int .u32 qc, .int .u64 qd, .int .u32 qe, .slice A6 nq cp6] 45))
                    have P7 := Lib.hid (PgBox.new w6 qa qb qc qd qe (.slice A6 nq cp6))
                    generalize w6.alloc (.cells #[.int .u8 qa, .int .u8 qb, .int .u32 qc, .int .u64 qd, .int .u32 qe, .slice A6 nq cp6] 45) = w7 at *
                    have B7 := Lib.hid (below_then B6.out BN.out)
                    have T7 := Lib.hid (T6.out.below BN.out)
                    generalize w6.heap.size = gq at *
                    clear BN T6 B6
                    by_cases hn0 : n = 0
                    · have hnz : ((n : Int) == 0) = true := by simp; omega
                      go_wp2_with fail
                      refine (AL.out _).mono ?_
                      rintro e wa ⟨rfl, hba⟩
                      have Ba := Lib.hid (below_then B7.out hba)
                      clear hba
                      go_wp2_with fail
                      go_ret
                      exact ⟨rfl, Ba.out⟩
                    · have hnz : ((n : Int) == 0) = false := by simp; omega
                      obtain ⟨x0, x1, x2, x3, x4, x5, x6⟩ := P7.out.cells
                      go_wp2_with fail
                      refine (QK1.out _ _ T7.out).mono ?_
                      rintro e w8 ⟨rfl, hb⟩
                      have P8 := Lib.hid (P7.out.below hb)
                      have T8 := Lib.hid (T7.out.below hb)
                      have B8 := Lib.hid (below_then B7.out hb)
                      clear hb x0 x1 x2 x3 x4 x5 x6 P7 T7 B7
                      cases hcq : checkB ⟨qa, qb, qc, qd, qe, rowsQ⟩ with
                      | false =>
                        unfold chkN
                        go_wp2_with fail
                        refine (AL.out _).mono ?_
                        rintro e wa ⟨rfl, hba⟩
                        have Ba := Lib.hid (below_then B8.out hba)
                        clear hba
                        go_wp2_with fail
                        go_ret
                        exact ⟨rfl, Ba.out⟩
                      | true =>
                        unfold chkN
                        have hch := CI2.out (by have := HN.out; omega) hcq
                        rw [CHN.out] at hch
                        have HCH := Lib.hid hch
                        clear hch hcq
                        obtain ⟨x0, x1, x2, x3, x4, x5, x6⟩ := P8.out.cells
                        have vF : IntKind.i64.wrap ((F : Int) - 1) = (F : Int) - 1 := IntWalk.i64_in _ ⟨by omega, by omega⟩
                        have QC2 := Lib.hid fun v W hW => QC1.out v W hW
                        rw [HCH.out] at QC2
                        clear HCH QC1
                        obtain ⟨m, hm⟩ : ∃ m, m = if S = true then F else F - 1 := ⟨_, rfl⟩
                        rw [← hm] at QC2
                        have hml : m ≤ 30 := by rw [hm]; split <;> omega
                        have v1 : IntKind.i64.wrap ((m : Int) + 2) = ((m + 2 : Nat) : Int) := by rw [show ((m + 2 : Nat) : Int) = (m : Int) + 2 by omega]; exact IntWalk.i64_in _ ⟨by omega, by omega⟩
                        have v2 : IntKind.u32.wrap ((m + 2 : Nat) : Int) = ((m + 2 : Nat) : Int) := IntWalk.u32_in _ ⟨by omega, by omega⟩
                        generalize m + 2 = mm at *
                        go_wp2_with fail
                        refine (QC2.out _ _ T8.out).mono ?_
                        rintro e w9 ⟨rfl, hb⟩
                        have B9 := Lib.hid (below_then B8.out hb)
                        clear hb x0 x1 x2 x3 x4 x5 x6 P8 T8 B8
                        cases S with
                        | false =>
                          have hM := run_max_pred (P := Try.prog) F
                          have hm2 : F - 1 = m := by simpa using hm.symm
                          rw [hm2] at hM
                          clear hm hm2
                          go_wp2_with fail
                          refine (AL.out _).mono ?_
                          rintro e wa ⟨rfl, hba⟩
                          have Ba := Lib.hid (below_then B9.out hba)
                          clear hba
                          go_wp2_with fail
                          go_ret
                          exact ⟨rfl, Ba.out⟩
                        | true =>
                          have hM := run_max_zero (P := Try.prog) F
                          have hm2 : F = m := by simpa using hm.symm
                          subst hm2
                          clear hm
                          go_wp2_with fail
                          refine (AL.out _).mono ?_
                          rintro e wa ⟨rfl, hba⟩
                          have Ba := Lib.hid (below_then B9.out hba)
                          clear hba
                          go_wp2_with fail
                          go_ret
                          exact ⟨rfl, Ba.out⟩

end Go.Proofs.Ytjcfnfpilladfaa
