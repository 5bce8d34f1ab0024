/- the law PageTorn, walked -/
import Derived.Test.YtienlhnbmobinaaRows
import Derived.Test.YtienlhnbmobinaaNodeWeigh
import Derived.Test.YtienlhnbmobinaaAlive06
import Derived.Test.YtienlhnbmobinaaRefEnc06
import Derived.Test.YtienlhnbmobinaaPageTorn06
import Derived.Test.YtienlhnbmobinaaPageDecode
import Derived.Test.YtienlhnbmobinaaPageEncode
import Derived.Test.YtienlhnbmobinaaPageSame06
import Derived.Test.YtienlhnbmobinaaPagePlain
import Derived.Test.YtienlhnbmobinaaBase
import Derived.Test.YtienlhnbmobinaaPlains
import Derived.Test.YtienlhnbmobinaaTextsP
import Derived.Test.YtienlhnbmobinaaRefSeal
import Derived.Test.YtienlhnbmobinaaSum
import Derived.Deep.CutBlock
import Derived.WalkKit
import Derived.WalkLawsBesides
import Derived.WalkSpells
import Derived.LoopTactic
import Derived.WalkMore
import Derived.LoopN
import Derived.Laws.BitsAllLaws
import Derived.Laws.IdiomStrings
import Derived.BigQuiet
import Derived.Deep.QuietTactic
import Derived.Deep.DeepCutAuto
import Derived.Deep.RegionHeld3
import Derived.Deep.DrawnRows
import Derived.Lib.Hide
import Derived.Outline
import Derived.Deep.DeepMust
import Derived.Handy
namespace Go.Proofs.Ytienlhnbmobinaa
open Go.RowKit
set_option linter.unusedVariables false
set_option linter.unusedSimpArgs false

theorem bl_four (w : World) : BlAt (w.alloc (.cells #[.bool true, .bool true, .bool true, .bool true] 4)) (.slice (some ⟨w.heap.size, 0, none⟩) 4 4) [true, true, true, true] := by
  refine ⟨_, 4, rfl, by decide, by unfold maxLen; decide, (fun h => by cases h), fun _ => ⟨w.heap.size, 0, rfl, by rw [World.size_alloc]; omega, fun j hj => ?_⟩⟩
  have hj2 : j < 4 := hj
  rw [cell_of_row _ _ _ _ _ _ (heap_alloc_new w _)]
  rcases (by omega : j = 0 ∨ j = 1 ∨ j = 2 ∨ j = 3) with rfl | rfl | rfl | rfl <;> rfl
theorem torn_yes {a b : List UInt8} (ks : List Bool) (ha : a.length = 512) (hb : b.length = 512) : tornB a b ks = (tornL a b ks 4, 0) := by unfold tornB; rw [if_pos ⟨ha, hb⟩]
set_option maxHeartbeats 8000000 in
set_option maxRecDepth 100000 in
theorem pageTornLaw_any (p q : Pg) (sv tv : Value) (kv : Value) (ks : List Bool) (w : World) (hp : p.wf) (hq : q.wf) (ht : TextsAt w sv p.rows) (hu : TextsAt w tv q.rows) (hzp : ∀ r ∈ p.rows, r.length ≤ 140737488351232) (hzq : ∀ r ∈ q.rows, r.length ≤ 140737488351232) (hk : BlAt w kv ks) :
    Calls Try.prog 11 #[pgV p sv, pgV q tv, kv] w fun e w' => e = .returned (.bool true) ∧ Below w.heap.size w w' := by
  have AL := Lib.hid fun W => alive06_any W
  have HV := Lib.hid fun W (h : TextsAt W sv p.rows) => heavy06_any p sv W h hzp
  have HW := Lib.hid fun W (h : TextsAt W tv q.rows) => heavy06_any q tv W h hzq
  have HP := Lib.hid hp
  have HQ := Lib.hid hq
  have HT := Lib.hid ht
  have HU := Lib.hid hu
  obtain ⟨KA, kc, hkv, hk2, hk3, hk4, hk5⟩ := (id hk)
  obtain ⟨kn, hkn⟩ : ∃ z, z = ks.length := ⟨_, rfl⟩
  rw [← hkn] at hkv hk2
  subst hkv
  unfold maxLen at hk3
  have HKN := Lib.hid hkn
  have HK := Lib.hid hk
  clear hkn hk hk4 hk5
  obtain ⟨i0, hif, hz0, hz1x, hz2⟩ := info_parts (show (Try.prog.info? 4).map (fun i => (i.zero, i.size, i.bytes)) = some (some (.bool false), 1, 1) by kernel_rfl)
  have HI := Lib.hid hif
  have HI0 := Lib.hid hz0
  have HI1 := Lib.hid hz1x
  have HI2 := Lib.hid hz2
  clear hif hz0 hz1x hz2
  obtain ⟨n, hn⟩ : ∃ n, n = p.rows.length := ⟨_, rfl⟩
  obtain ⟨A, cp, hsv, h2, h3, h4, h5⟩ := ht
  rw [← hn] at hsv h2
  subst hsv
  obtain ⟨m, hm⟩ : ∃ m, m = q.rows.length := ⟨_, rfl⟩
  obtain ⟨B, cq, htv, k2, k3, k4, k5⟩ := hu
  rw [← hm] at htv k2
  subst htv
  clear h4 h5 k4 k5 hzp hzq hp hq
  have hwt := weight_heavy p.rows
  have hwu := weight_heavy q.rows
  obtain ⟨kind, level, id, lsn, next, rows⟩ := p
  obtain ⟨kind2, level2, id2, lsn2, next2, rows2⟩ := q
  have HN := Lib.hid hn
  have HM := Lib.hid hm
  simp only at HV HW HT HU HN HM hwt hwu ⊢
  obtain ⟨hv, hhv⟩ : ∃ k, k = heavyB rows := ⟨_, rfl⟩
  obtain ⟨hv2, hhv2⟩ : ∃ k, k = heavyB rows2 := ⟨_, rfl⟩
  rw [← hhv] at HV hwt
  rw [← hhv2] at HW hwu
  have wle : ¬ 4096 < hv → weightB rows ≤ 20000 ∧ rows.length ≤ 4096 := by omega
  have wle2 : ¬ 4096 < hv2 → weightB rows2 ≤ 20000 ∧ rows2.length ≤ 4096 := by omega
  have WL := Lib.hid wle
  have WM := Lib.hid wle2
  clear hhv hhv2 hwt hwu wle wle2 hn hm
  unfold pgV at HV HW ⊢
  simp only at HV HW ⊢
  unfold maxLen at h3 k3
  have P0 := Lib.hid ((PgBox.new w kind level id lsn next (.slice A n cp)).keep (.cells #[.int .u8 kind2, .int .u8 level2, .int .u32 id2, .int .u64 lsn2, .int .u32 next2, .slice B m cq] 26))
  have Q0 := Lib.hid (PgBox.new (w.alloc (.cells #[.int .u8 kind, .int .u8 level, .int .u32 id, .int .u64 lsn, .int .u32 next, .slice A n cp] 26)) kind2 level2 id2 lsn2 next2 (.slice B m cq))
  have hz1 : (w.alloc (.cells #[.int .u8 kind, .int .u8 level, .int .u32 id, .int .u64 lsn, .int .u32 next, .slice A n cp] 26)).heap.size = w.heap.size + 1 := by simp
  rw [hz1] at Q0
  clear hz1
  have B0 := Lib.hid ((alloc_below w (.cells #[.int .u8 kind, .int .u8 level, .int .u32 id, .int .u64 lsn, .int .u32 next, .slice A n cp] 26)).alloc (by simp) (.cells #[.int .u8 kind2, .int .u8 level2, .int .u32 id2, .int .u64 lsn2, .int .u32 next2, .slice B m cq] 26))
  go_enter Try.func11, Try.ntmps11
  go_upto_region 1 with fail
  generalize (w.alloc (.cells #[.int .u8 kind, .int .u8 level, .int .u32 id, .int .u64 lsn, .int .u32 next, .slice A n cp] 26)).alloc (.cells #[.int .u8 kind2, .int .u8 level2, .int .u32 id2, .int .u64 lsn2, .int .u32 next2, .slice B m cq] 26) = w0 at *
  have T0 := Lib.hid (HT.out.below B0.out)
  have U0 := Lib.hid (HU.out.below B0.out)
  have K0 := Lib.hid (HK.out.below B0.out)
  clear HK
  obtain ⟨x0, x1, x2, x3, x4, x5, x6⟩ := P0.out.cells
  obtain ⟨y0, y1, y2, y3, y4, y5, y6⟩ := Q0.out.cells
  go_wp2_with fail
  clear x0 x1 x2 x3 x4 x5 x6 y0 y1 y2 y3 y4 y5 y6
  refine (HV.out _ T0.out).mono ?_
  rintro e w1 ⟨rfl, hb⟩
  have B1 := Lib.hid (below_then B0.out hb)
  have P1 := Lib.hid (P0.out.below hb)
  have Q1 := Lib.hid (Q0.out.below hb)
  have T1 := Lib.hid (T0.out.below hb)
  have U1 := Lib.hid (U0.out.below hb)
  have K1 := Lib.hid (K0.out.below hb)
  clear hb B0 P0 Q0 T0 U0 K0
  obtain ⟨x0, x1, x2, x3, x4, x5, x6⟩ := P1.out.cells
  obtain ⟨y0, y1, y2, y3, y4, y5, y6⟩ := Q1.out.cells
  by_cases hhhv : 4096 < hv
  case pos =>
    rw [decide_eq_true hhhv]
    go_wp2_with fail
    refine (AL.out _).mono ?_
    rintro e wa ⟨rfl, hba⟩
    have Ba := Lib.hid (below_then B1.out hba)
    clear hba
    go_wp2_with fail
    go_ret
    exact ⟨rfl, Ba.out⟩
  rw [decide_eq_false hhhv]
  clear x0 x1 x2 x3 x4 x5 x6 y0 y1 y2 y3 y4 y5 y6
  obtain ⟨x0, x1, x2, x3, x4, x5, x6⟩ := P1.out.cells
  obtain ⟨y0, y1, y2, y3, y4, y5, y6⟩ := Q1.out.cells
  go_wp2_with fail
  clear x0 x1 x2 x3 x4 x5 x6 y0 y1 y2 y3 y4 y5 y6
  refine (HW.out _ U1.out).mono ?_
  rintro e w2 ⟨rfl, hb⟩
  have B2 := Lib.hid (below_then B1.out hb)
  have P2 := Lib.hid (P1.out.below hb)
  have Q2 := Lib.hid (Q1.out.below hb)
  have T2 := Lib.hid (T1.out.below hb)
  have U2 := Lib.hid (U1.out.below hb)
  have K2 := Lib.hid (K1.out.below hb)
  clear hb B1 P1 Q1 T1 U1 K1
  obtain ⟨x0, x1, x2, x3, x4, x5, x6⟩ := P2.out.cells
  obtain ⟨y0, y1, y2, y3, y4, y5, y6⟩ := Q2.out.cells
  by_cases hhhv2 : 4096 < hv2
  case pos =>
    rw [decide_eq_true hhhv2]
    go_wp2_with fail
    refine (AL.out _).mono ?_
    rintro e wa ⟨rfl, hba⟩
    have Ba := Lib.hid (below_then B2.out hba)
    clear hba
    go_wp2_with fail
    go_ret
    exact ⟨rfl, Ba.out⟩
  rw [decide_eq_false hhhv2]
  clear x0 x1 x2 x3 x4 x5 x6 y0 y1 y2 y3 y4 y5 y6
  obtain ⟨x0, x1, x2, x3, x4, x5, x6⟩ := P2.out.cells
  obtain ⟨y0, y1, y2, y3, y4, y5, y6⟩ := Q2.out.cells
  by_cases hk20 : 20 < kn
  case pos =>
    have hki : (20 : Int) < (kn : Int) := by omega
    go_wp2_with fail
    refine (AL.out _).mono ?_
    rintro e wa ⟨rfl, hba⟩
    have Ba := Lib.hid (below_then B2.out hba)
    clear hba
    go_wp2_with fail
    go_ret
    exact ⟨rfl, Ba.out⟩
  have hki : ¬ (20 : Int) < (kn : Int) := by omega
  obtain ⟨wa1, wa2⟩ := WL.out hhhv
  obtain ⟨wb1, wb2⟩ := WM.out hhhv2
  have HWE := Lib.hid (show weightB rows ≤ 1000000 by omega)
  have HWF := Lib.hid (show weightB rows2 ≤ 1000000 by omega)
  have C1 := Lib.hid fun W (hW : TextsAt W (.slice A n cp) rows) => pageEncode_any ⟨kind, level, id, lsn, next, rows⟩ (.slice A n cp) W HP.out hW HWE.out
  have C2 := Lib.hid fun W (hW : TextsAt W (.slice B m cq) rows2) => pageEncode_any ⟨kind2, level2, id2, lsn2, next2, rows2⟩ (.slice B m cq) W HQ.out hW HWF.out
  obtain ⟨⟨es, ec⟩, hR⟩ : ∃ R, R = pgEnc ⟨kind, level, id, lsn, next, rows⟩ := ⟨_, rfl⟩
  obtain ⟨⟨fs, fc⟩, hR2⟩ : ∃ R, R = pgEnc ⟨kind2, level2, id2, lsn2, next2, rows2⟩ := ⟨_, rfl⟩
  rw [← hR] at C1
  rw [← hR2] at C2
  unfold pgV at C1 C2
  simp only at C1 C2
  have HR := Lib.hid hR
  have HR2 := Lib.hid hR2
  clear hR hR2 HV HW WL WM HWE HWF
  clear x0 x1 x2 x3 x4 x5 x6 y0 y1 y2 y3 y4 y5 y6
  obtain ⟨x0, x1, x2, x3, x4, x5, x6⟩ := P2.out.cells
  obtain ⟨y0, y1, y2, y3, y4, y5, y6⟩ := Q2.out.cells
  go_wp2_with fail
  clear x0 x1 x2 x3 x4 x5 x6 y0 y1 y2 y3 y4 y5 y6
  refine (C1.out _ T2.out).mono ?_
  rintro e w3 ⟨rfl, hb⟩
  have B3 := Lib.hid (below_then B2.out hb)
  have P3 := Lib.hid (P2.out.below hb)
  have Q3 := Lib.hid (Q2.out.below hb)
  have T3 := Lib.hid (T2.out.below hb)
  have U3 := Lib.hid (U2.out.below hb)
  have K3 := Lib.hid (K2.out.below hb)
  clear hb B2 P2 Q2 T2 U2 K2
  obtain ⟨x0, x1, x2, x3, x4, x5, x6⟩ := P3.out.cells
  obtain ⟨y0, y1, y2, y3, y4, y5, y6⟩ := Q3.out.cells
  go_wp2_with fail
  clear x0 x1 x2 x3 x4 x5 x6 y0 y1 y2 y3 y4 y5 y6
  refine (C2.out _ U3.out).mono ?_
  rintro e w4 ⟨rfl, hb⟩
  have B4 := Lib.hid (below_then B3.out hb)
  have P4 := Lib.hid (P3.out.below hb)
  have Q4 := Lib.hid (Q3.out.below hb)
  have T4 := Lib.hid (T3.out.below hb)
  have U4 := Lib.hid (U3.out.below hb)
  have K4 := Lib.hid (K3.out.below hb)
  clear hb B3 P3 Q3 T3 U3 K3
  clear P4
  clear Q4
  clear T4
  clear U4
  have e2 : ((0 : Int) != 0) = false := rfl
  by_cases hm : Pg.may ⟨kind, level, id, lsn, next, rows⟩ = true
  case neg =>
    have he : ec = 2 := by have h := HR.out; unfold pgEnc at h; rw [if_neg hm] at h; exact (Prod.mk.inj h).2
    subst he
    have e3 : ((2 : Int) != 0) = true := rfl
    go_wp2_with fail
    refine (AL.out _).mono ?_
    rintro e wa ⟨rfl, hba⟩
    have Ba := Lib.hid (below_then B4.out hba)
    clear hba
    go_wp2_with fail
    go_ret
    exact ⟨rfl, Ba.out⟩

  have hee : es = encPg ⟨kind, level, id, lsn, next, rows⟩ ∧ ec = 0 := by have h := HR.out; unfold pgEnc at h; rw [if_pos hm] at h; exact Prod.mk.inj h
  have hel : es.length = 512 := by rw [hee.1]; exact encPg_length hm
  obtain ⟨hex, rfl⟩ := hee
  clear hex
  clear HR hm
  by_cases hm : Pg.may ⟨kind2, level2, id2, lsn2, next2, rows2⟩ = true
  case neg =>
    have he : fc = 2 := by have h := HR2.out; unfold pgEnc at h; rw [if_neg hm] at h; exact (Prod.mk.inj h).2
    subst he
    have e3 : ((2 : Int) != 0) = true := rfl
    go_wp2_with fail
    refine (AL.out _).mono ?_
    rintro e wa ⟨rfl, hba⟩
    have Ba := Lib.hid (below_then B4.out hba)
    clear hba
    go_wp2_with fail
    go_ret
    exact ⟨rfl, Ba.out⟩

  have hee : fs = encPg ⟨kind2, level2, id2, lsn2, next2, rows2⟩ ∧ fc = 0 := by have h := HR2.out; unfold pgEnc at h; rw [if_pos hm] at h; exact Prod.mk.inj h
  have hfl : fs.length = 512 := by rw [hee.1]; exact encPg_length hm
  obtain ⟨hex, rfl⟩ := hee
  clear hex
  clear HR2 hm

  have TN1 := Lib.hid fun W v (h : BlAt W v ks) => pageTorn_any es fs ks v W h (by omega) (by omega)
  rw [torn_yes ks hel hfl] at TN1
  have TN2 := Lib.hid fun W v (h : BlAt W v ks) => pageTorn_any es es ks v W h (by omega) (by omega)
  rw [torn_yes ks hel hel, torn_self ks hel] at TN2
  have TN3 := Lib.hid fun W v (h : BlAt W v [true, true, true, true]) => pageTorn_any es fs [true, true, true, true] v W h (by omega) (by omega)
  rw [torn_yes _ hel hfl, torn_all hel hfl] at TN3
  have TN4 := Lib.hid fun W => pageTorn_any es fs [] (.slice none 0 0) W (BlAt.nil _) (by omega) (by omega)
  rw [torn_yes _ hel hfl, torn_none hel hfl] at TN4
  have htl : (tornL es fs ks 4).length = 512 := tornL_length ks hel hfl 4 (by omega)
  generalize tornL es fs ks 4 = TT at *
  simp only at TN1 TN2 TN3 TN4
  clear C1 C2 HP HQ
  go_upto_region 7 with fail
  go_cut [11, 12] (fun sa sb w' => sa = .string ⟨(TT).toArray⟩ ∧ sb = .int .i64 0 ∧ Hid (Below w4.heap.size w4 w'))
  case first =>
    have TA := Lib.hid (K4.out.below (alloc_below w4 (.cells #[] 4))).reads
    rw [← HKN.out] at TA
    clear AL TN2 TN3 TN4 B4
    go_wp2_with (at_builtin; refine wpList_append_any _ rfl _ _ 47 rfl w4.heap.size 4 i0 (.bool false) 1 1 Try.underlying47 HI.out HI0.out HI1.out HI2.out rfl (by decide) (.slice (some ⟨w4.heap.size, 0, none⟩) 0 0) 0 [] (by rfl) (World.ownsRow_made w4 #[] 0 (Nat.le_refl _) (by unfold maxLen; omega) rfl) (.slice KA kn kc) kn (bls ks) (by rfl) TA.out (bls_oneCell _) (by unfold maxLen; omega) (by omega) (by simp) ?_; intro vx wx hownx hgrowx; have HOX := Lib.hid hownx; have HGX := Lib.hid hgrowx; clear hownx hgrowx)
    have hownx := HOX.out
    simp only [Nat.zero_add, List.nil_append] at hownx
    have hb := (alloc_below w4 (.cells #[] 4)).grown HGX.out (by simp) (fun j hj => by simp [Value.ownBlock] at hj; omega)
    have VX := Lib.hid (bl_own hownx).1
    refine (TN1.out _ _ VX.out).mono ?_
    rintro e wy ⟨rfl, hby⟩
    have hbz := Lib.hid (below_then hb hby)
    clear HOX HGX hownx hb VX hby TA TN1
    go_wp2_with fail
    go_meet
    exact ⟨rfl, rfl, hbz⟩
  case rest =>
  obtain ⟨rfl, rfl, hbc⟩ := hcut
  generalize wc = w5 at *
  have hb := hbc.out
  clear hbc TN1
  have B5 := Lib.hid (below_then B4.out hb)
  have K5 := Lib.hid (K4.out.below hb)
  clear hb B4 K4
  go_upto_region 8 with fail
  go_cut [13, 14] (fun sa sb w' => sa = .string ⟨(es).toArray⟩ ∧ sb = .int .i64 0 ∧ Hid (Below w5.heap.size w5 w'))
  case first =>
    have TA := Lib.hid (K5.out.below (alloc_below w5 (.cells #[] 4))).reads
    rw [← HKN.out] at TA
    clear AL TN3 TN4 B5
    go_wp2_with (at_builtin; refine wpList_append_any _ rfl _ _ 47 rfl w5.heap.size 4 i0 (.bool false) 1 1 Try.underlying47 HI.out HI0.out HI1.out HI2.out rfl (by decide) (.slice (some ⟨w5.heap.size, 0, none⟩) 0 0) 0 [] (by rfl) (World.ownsRow_made w5 #[] 0 (Nat.le_refl _) (by unfold maxLen; omega) rfl) (.slice KA kn kc) kn (bls ks) (by rfl) TA.out (bls_oneCell _) (by unfold maxLen; omega) (by omega) (by simp) ?_; intro vx wx hownx hgrowx; have HOX := Lib.hid hownx; have HGX := Lib.hid hgrowx; clear hownx hgrowx)
    have hownx := HOX.out
    simp only [Nat.zero_add, List.nil_append] at hownx
    have hb := (alloc_below w5 (.cells #[] 4)).grown HGX.out (by simp) (fun j hj => by simp [Value.ownBlock] at hj; omega)
    have VX := Lib.hid (bl_own hownx).1
    refine (TN2.out _ _ VX.out).mono ?_
    rintro e wy ⟨rfl, hby⟩
    have hbz := Lib.hid (below_then hb hby)
    clear HOX HGX hownx hb VX hby TA TN2
    go_wp2_with fail
    go_meet
    exact ⟨rfl, rfl, hbz⟩
  case rest =>
  obtain ⟨rfl, rfl, hbc⟩ := hcut
  generalize wc = w6 at *
  have hb := hbc.out
  clear hbc TN2
  have B6 := Lib.hid (below_then B5.out hb)
  have K6 := Lib.hid (K5.out.below hb)
  clear hb B5 K5
  have FX := Lib.hid (bl_four w6)
  have BX := Lib.hid (alloc_below w6 (.cells #[.bool true, .bool true, .bool true, .bool true] 4))
  go_wp2_with fail
  refine (TN3.out _ _ FX.out).mono ?_
  rintro e w7 ⟨rfl, hb7⟩
  have hb := below_then BX.out hb7
  clear FX BX hb7 TN3
  have B7 := Lib.hid (below_then B6.out hb)
  have K7 := Lib.hid (K6.out.below hb)
  clear hb B6 K6
  go_wp2_with fail
  refine (TN4.out _).mono ?_
  rintro e w8 ⟨rfl, hb⟩
  have B8 := Lib.hid (below_then B7.out hb)
  have K8 := Lib.hid (K7.out.below hb)
  clear hb B7 K7
  have e3 : (es != es) = false := by simp
  have e4 : (fs != fs) = false := by simp
  have DC := Lib.hid fun W => pageDecode_any TT W (by omega)
  clear TN4
  by_cases hd : decOkB TT
  case neg =>
    rw [pgDec_no hd] at DC
    go_wp2_with fail
    refine (DC.out _).mono ?_
    rintro e w9 ⟨sv9, rfl, G, hb⟩
    have G2 : TextsAt w9 sv9 [] := G
    clear G
    obtain ⟨A9, c9, hv9, _⟩ := G2
    have hv9 : sv9 = .slice A9 0 c9 := hv9
    subst hv9
    have B9 := Lib.hid (below_then B8.out hb)
    simp only [Pg.zero, pgV]
    have BA := Lib.hid (B9.out.alloc B9.out.size (.cells #[.int .u8 0, .int .u8 0, .int .u32 0, .int .u64 0, .int .u32 0, .slice A9 0 c9] 26))
    have e5 : ((60 : Int) != 0) = true := rfl
    go_wp2_with fail
    refine (AL.out _).mono ?_
    rintro e wa ⟨rfl, hba⟩
    have Ba := Lib.hid (below_then BA.out hba)
    clear hba
    go_wp2_with fail
    go_ret
    exact ⟨rfl, Ba.out⟩
  have HW6 := Lib.hid (pgOf_wf TT)
  have hmy := hd.2.2.1
  have hpe : pgEnc (pgOf TT) = (TT, 0) := by unfold pgEnc; rw [if_pos hmy, hd.2.2.2]
  have hw6 := may_weight hmy
  rw [pgDec_ok hd] at DC
  obtain ⟨⟨pa, pb, pc, pd, pe, rowsP⟩, hP⟩ : ∃ P, P = pgOf TT := ⟨_, rfl⟩
  rw [← hP] at DC HW6 hpe hw6
  simp only at hw6
  have EN := Lib.hid fun W v (h : TextsAt W v rowsP) => pageEncode_any ⟨pa, pb, pc, pd, pe, rowsP⟩ v W HW6.out h (show weightB rowsP ≤ 1000000 by omega)
  rw [hpe] at EN
  unfold pgV at EN
  simp only at EN
  clear hd hmy hpe hw6 hP HW6
  clear K8
  go_wp2_with fail
  refine (DC.out _).mono ?_
  rintro e w9 ⟨sv9, rfl, G, hb⟩
  simp only at G
  obtain ⟨np, hnp⟩ : ∃ z, z = rowsP.length := ⟨_, rfl⟩
  have Hnp := Lib.hid hnp
  clear hnp
  have G9 := Lib.hid G
  obtain ⟨A9, cp9, hv9, _, _, _, _⟩ := G
  rw [← Hnp.out] at hv9
  subst hv9
  have B9 := Lib.hid (below_then B8.out hb)
  clear hb B8 
  unfold pgV
  simp only
  go_upto_region 14 with fail
  have BN := Lib.hid (alloc_below w9 (.cells #[.int .u8 pa, .int .u8 pb, .int .u32 pc, .int .u64 pd, .int .u32 pe, .slice A9 np cp9] 26))
  have D10 := Lib.hid (PgBox.new w9 pa pb pc pd pe (.slice A9 np cp9))
  generalize w9.alloc (.cells #[.int .u8 pa, .int .u8 pb, .int .u32 pc, .int .u64 pd, .int .u32 pe, .slice A9 np cp9] 26) = w10 at *
  have hb := BN.out
  clear BN
  have B10 := Lib.hid (below_then B9.out hb)
  have G10 := Lib.hid (G9.out.below hb)
  clear hb B9 G9
  obtain ⟨z0, z1, z2, z3, z4, z5, z6⟩ := D10.out.cells
  go_wp2_with fail
  clear z0 z1 z2 z3 z4 z5 z6
  refine (EN.out _ _ G10.out).mono ?_
  rintro e w11 ⟨rfl, hb⟩
  have B11 := Lib.hid (below_then B10.out hb)
  have G11 := Lib.hid (G10.out.below hb)
  have D11 := Lib.hid (D10.out.below hb)
  clear hb B10 G10 D10
  have e6 : (TT == TT) = true := by simp
  have e7 : ((0 : Int) == 0) = true := rfl
  go_wp2_with fail
  refine (AL.out _).mono ?_
  rintro e w12 ⟨rfl, hb⟩
  have B12 := Lib.hid (below_then B11.out hb)
  have G12 := Lib.hid (G11.out.below hb)
  have D12 := Lib.hid (D11.out.below hb)
  clear hb B11 G11 D11
  go_wp2_with fail
  go_ret
  exact ⟨rfl, B12.out⟩

end Go.Proofs.Ytienlhnbmobinaa
