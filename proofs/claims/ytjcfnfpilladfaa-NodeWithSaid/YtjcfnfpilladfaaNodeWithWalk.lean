/- chapter 08: NodeWith: the walk -/
import Derived.Test.YtjcfnfpilladfaaRows
import Derived.Test.YtjcfnfpilladfaaNodeSplitsWalk
import Derived.Test.YtjcfnfpilladfaaNodeAlive
import Derived.Test.YtjcfnfpilladfaaNodeWithout
import Derived.Test.YtjcfnfpilladfaaNodeWith
import Derived.Test.YtjcfnfpilladfaaTextsP
import Derived.Test.YtjcfnfpilladfaaNodeWeigh
import Derived.Deep.RegionLaw
import Derived.WalkKit
import Derived.WalkLawsBesides
import Derived.WalkSpells
import Derived.LoopTactic
import Derived.WalkMore
import Derived.LoopN
import Derived.Laws.BitsAllLaws
import Derived.Laws.IdiomStrings
import Derived.BigQuiet
import Derived.Deep.QuietTactic
import Derived.Deep.DeepCutAuto
import Derived.Deep.RegionHeld3
import Derived.Deep.DrawnRows
import Derived.Lib.Hide
import Derived.Outline
import Derived.Deep.DeepMust
import Derived.Handy
namespace Go.Proofs.Ytjcfnfpilladfaa
open Go.RowKit
set_option linter.unusedVariables false
set_option linter.unusedSimpArgs false

set_option maxHeartbeats 4000000 in
set_option maxRecDepth 100000 in
theorem nodeWithLaw_any (p : Pg) (sv : Value) (i : Int) (x : List UInt8) (is : Bool) (w : World) (hp : p.wf) (ht : TextsAt w sv p.rows) (hzp : ∀ r ∈ p.rows, r.length ≤ 140737488351232) (hx : x.length ≤ 140737488351232) (hi0 : -9223372036854775808 ≤ i) (hi1 : i ≤ 9223372036854775807) :
    Calls Try.prog 11 #[pgV p sv, .int .i64 i, .string ⟨x.toArray⟩, .bool is] w fun e w' => e = .returned (.bool true) ∧ Below w.heap.size w w' := by
  have AL := Lib.hid fun W => alive08_any W
  have HV := Lib.hid fun W (h : TextsAt W sv p.rows) => heavy06_any p sv W h hzp
  have hwt := weight_heavy p.rows
  have WP := Lib.hid fun (HB : weightB p.rows ≤ 1000000) (HX : weightB p.rows + (4 + x.length) ≤ 1000000) W (hW : TextsAt W sv p.rows) => nodeWith_any p sv i x is W hp hW HX hi0 hi1
  have WR := Lib.hid fun (HB : weightB p.rows ≤ 1000000) (HX : weightB p.rows + (4 + x.length) ≤ 1000000) W (hW : TextsAt W sv p.rows) => refWith_any p sv i x is W hp hW HX hi0 hi1
  have OP := Lib.hid fun (HB : weightB p.rows ≤ 1000000) (HX : weightB p.rows + (4 + x.length) ≤ 1000000) W (hW : TextsAt W sv p.rows) => nodeWithout_any p sv i W hp hW HB hi0 hi1
  have OR := Lib.hid fun (HB : weightB p.rows ≤ 1000000) (HX : weightB p.rows + (4 + x.length) ≤ 1000000) W (hW : TextsAt W sv p.rows) => refWithout_any p sv i W hp hW HB hi0 hi1
  have FI := Lib.hid fun (HB : weightB p.rows ≤ 1000000) (HX : weightB p.rows + (4 + x.length) ≤ 1000000) W (hW : TextsAt W sv p.rows) => nodeFits_any p sv i x is W hp hW HX hi0 hi1
  have HT := Lib.hid ht
  have wle : ¬ 4096 < heavyB p.rows → weightB p.rows ≤ 900000 := by omega
  have HWL := Lib.hid wle
  have wln : ¬ 4096 < heavyB p.rows → p.rows.length ≤ 1000000 := by omega
  have HNL := Lib.hid wln
  clear wln
  clear wle hwt
  obtain ⟨i0, hif, hz0, hz1, hz2⟩ := info_parts Try.infoStr
  have HI := Lib.hid hif
  have HI0 := Lib.hid hz0
  have HI1 := Lib.hid hz1
  have HI2 := Lib.hid hz2
  clear hif hz0 hz1 hz2
  generalize withB p i x is = M at *
  generalize withoutB p i = O at *
  generalize weightB p.rows = wB at *
  obtain ⟨n, hn⟩ : ∃ n, n = p.rows.length := ⟨_, rfl⟩
  obtain ⟨A, cp, hsv, h2, h3, h4, h5⟩ := ht
  rw [← hn] at hsv h2
  subst hsv
  clear h4 h5 hzp
  unfold pgV at *
  obtain ⟨kind, level, id, lsn, next, rows⟩ := p
  clear hp
  have HN := Lib.hid hn
  clear hn
  simp only at *
  generalize heavyB rows = hv at *
  unfold maxLen at h3
  have P0 := Lib.hid (PgBox.new w kind level id lsn next (.slice A n cp))
  have B0 := Lib.hid (alloc_below w (.cells #[.int .u8 kind, .int .u8 level, .int .u32 id, .int .u64 lsn, .int .u32 next, .slice A n cp] 45))
  go_enter Try.func11, Try.ntmps11
  go_upto_region 1 with fail
  generalize w.alloc (.cells #[.int .u8 kind, .int .u8 level, .int .u32 id, .int .u64 lsn, .int .u32 next, .slice A n cp] 45) = w0 at *
  have T0 := Lib.hid (HT.out.below B0.out)
  obtain ⟨x0, x1, x2, x3, x4, x5, x6⟩ := P0.out.cells
  go_wp2_with fail
  clear x0 x1 x2 x3 x4 x5 x6
  refine (HV.out _ T0.out).mono ?_
  rintro e w1 ⟨rfl, hb⟩
  have B1 := Lib.hid (below_then B0.out hb)
  have T1 := Lib.hid (T0.out.below hb)
  have P1 := Lib.hid (P0.out.below hb)
  clear hb B0 T0 P0
  cases hh : decide (4096 < hv) with
  | true =>
    obtain ⟨x0, x1, x2, x3, x4, x5, x6⟩ := P1.out.cells
    go_wp2_with fail
    refine (AL.out _).mono ?_
    rintro e wa ⟨rfl, hba⟩
    have Ba := Lib.hid (below_then B1.out hba)
    clear hba
    go_wp2_with fail
    go_ret
    exact ⟨rfl, Ba.out⟩
  | false =>
    have hv0 : ¬ 4096 < hv := by simpa using hh
    clear hh HV
    by_cases hxb : 1024 < x.length
    · have hxc : 1024 < x.toArray.size := by simpa using hxb
      have hxd : x.toArray.size ≤ 140737488351232 := by simpa using hx
      obtain ⟨x0, x1, x2, x3, x4, x5, x6⟩ := P1.out.cells
      go_wp2_with fail
      refine (AL.out _).mono ?_
      rintro e wa ⟨rfl, hba⟩
      have Ba := Lib.hid (below_then B1.out hba)
      clear hba
      go_wp2_with fail
      go_ret
      exact ⟨rfl, Ba.out⟩
    · have hxc : ¬ 1024 < x.toArray.size := by simpa using hxb
      have HB0 := HWL.out hv0
      have hnb0 := HNL.out hv0
      rw [← HN.out] at hnb0
      have HNB := Lib.hid hnb0
      clear hnb0 HNL
      have HB : wB ≤ 1000000 := by omega
      have HX : wB + (4 + x.length) ≤ 1000000 := by omega
      have WP1 := Lib.hid (WP.out HB HX)
      have WR1 := Lib.hid (WR.out HB HX)
      have OP1 := Lib.hid (OP.out HB HX)
      have OR1 := Lib.hid (OR.out HB HX)
      have FI1 := Lib.hid (FI.out HB HX)
      clear WP WR OP OR FI HB HX HWL hv0 HB0
      obtain ⟨x0, x1, x2, x3, x4, x5, x6⟩ := P1.out.cells
      go_upto_region 3 with fail
      have TK := (T1.out.below (alloc_below w1 (.cells #[] 9))).reads
      rw [← HN.out] at TK
      have TA := Lib.hid TK
      clear TK
      have hnb : n ≤ 1000000 := by have := HNB.out; omega
      go_wp2_with (first
        | (at_builtin; refine wpList_append_any _ rfl _ _ 24 rfl w1.heap.size 9 i0 (.string ⟨#[]⟩) 1 16 Try.underlying24 HI.out HI0.out HI1.out HI2.out rfl (by decide) (.slice (some ⟨w1.heap.size, 0, none⟩) 0 0) 0 [] (by rfl) (World.ownsRow_made w1 #[] 0 (Nat.le_refl _) (by unfold maxLen; omega) rfl) (.slice A n cp) n (strs rows) (by rfl) TA.out (strs_oneCell _) (by unfold maxLen; omega) (by omega) (by simp) ?_; intro v2 w2 hown2 hgrow2; simp only [Nat.zero_add, List.nil_append] at hown2; have hb := (alloc_below w1 (.cells #[] 9)).grown hgrow2 (by simp) (fun j hj => by simp [Value.ownBlock] at hj; omega); clear hgrow2; have HO := Lib.hid hown2; clear hown2; refine Aside.out ?_))
      unfold Aside
      have V2 := Lib.hid (texts_own HO.out).1
      clear TA HO
      clear x0 x1 x2 x3 x4 x5 x6
      have B2 := Lib.hid (below_then B1.out hb)
      have T2 := Lib.hid (T1.out.below hb)
      have P2 := Lib.hid (P1.out.below hb)
      clear hb B1 T1 P1
      obtain ⟨⟨ma, mb, mc, md, me, rowsM⟩, er⟩ := M
      obtain ⟨⟨oa, ob, oc, od, oe, rowsO⟩, eo⟩ := O
      simp only at *
      obtain ⟨be, hbe⟩ : ∃ b, (er == 0) = b := ⟨_, rfl⟩
      rw [hbe] at FI1
      have HBE := Lib.hid hbe
      clear hbe
      obtain ⟨x0, x1, x2, x3, x4, x5, x6⟩ := P2.out.cells
      go_wp2_with fail
      clear x0 x1 x2 x3 x4 x5 x6
      refine (WP1.out _ T2.out).mono ?_
      rintro e w3 ⟨sv3, rfl, G, hb⟩
      simp only at G
      obtain ⟨nm, hnm⟩ : ∃ z, z = rowsM.length := ⟨_, rfl⟩
      have Hnm := Lib.hid hnm
      clear hnm
      have GA3 := Lib.hid G
      obtain ⟨A3, cp3, hv3, _, _, _, _⟩ := G
      rw [← Hnm.out] at hv3
      subst hv3
      have B3 := Lib.hid (below_then B2.out hb)
      have T3 := Lib.hid (T2.out.below hb)
      have P3 := Lib.hid (P2.out.below hb)
      have V3 := Lib.hid (V2.out.below hb)
      clear hb B2 T2 P2 V2
      obtain ⟨x0, x1, x2, x3, x4, x5, x6⟩ := P3.out.cells
      unfold pgV
      simp only
      go_upto_region 5 with fail
      clear x0 x1 x2 x3 x4 x5 x6
      have BN := Lib.hid (alloc_below w3 (.cells #[.int .u8 ma, .int .u8 mb, .int .u32 mc, .int .u64 md, .int .u32 me, .slice A3 nm cp3] 45))
      have XA4 := Lib.hid (PgBox.new w3 ma mb mc md me (.slice A3 nm cp3))
      generalize w3.alloc (.cells #[.int .u8 ma, .int .u8 mb, .int .u32 mc, .int .u64 md, .int .u32 me, .slice A3 nm cp3] 45) = w4 at *
      have hb := BN.out
      clear BN
      have B4 := Lib.hid (below_then B3.out hb)
      have T4 := Lib.hid (T3.out.below hb)
      have P4 := Lib.hid (P3.out.below hb)
      have V4 := Lib.hid (V3.out.below hb)
      have GA4 := Lib.hid (GA3.out.below hb)
      clear hb B3 T3 P3 V3 GA3
      obtain ⟨x0, x1, x2, x3, x4, x5, x6⟩ := P4.out.cells
      obtain ⟨y0, y1, y2, y3, y4, y5, y6⟩ := XA4.out.cells
      go_wp2_with fail
      clear x0 x1 x2 x3 x4 x5 x6 y0 y1 y2 y3 y4 y5 y6
      refine (WR1.out _ T4.out).mono ?_
      rintro e w5 ⟨sv5, rfl, G, hb⟩
      simp only at G
      have GB5 := Lib.hid G
      obtain ⟨A5, cp5, hv5, _, _, _, _⟩ := G
      rw [← Hnm.out] at hv5
      subst hv5
      have B5 := Lib.hid (below_then B4.out hb)
      have T5 := Lib.hid (T4.out.below hb)
      have P5 := Lib.hid (P4.out.below hb)
      have V5 := Lib.hid (V4.out.below hb)
      have GA5 := Lib.hid (GA4.out.below hb)
      have XA5 := Lib.hid (XA4.out.below hb)
      clear hb B4 T4 P4 V4 GA4 XA4
      obtain ⟨x0, x1, x2, x3, x4, x5, x6⟩ := P5.out.cells
      obtain ⟨y0, y1, y2, y3, y4, y5, y6⟩ := XA5.out.cells
      unfold pgV
      simp only
      go_upto_region 6 with fail
      clear x0 x1 x2 x3 x4 x5 x6 y0 y1 y2 y3 y4 y5 y6
      have BN := Lib.hid (alloc_below w5 (.cells #[.int .u8 ma, .int .u8 mb, .int .u32 mc, .int .u64 md, .int .u32 me, .slice A5 nm cp5] 45))
      have XB6 := Lib.hid (PgBox.new w5 ma mb mc md me (.slice A5 nm cp5))
      generalize w5.alloc (.cells #[.int .u8 ma, .int .u8 mb, .int .u32 mc, .int .u64 md, .int .u32 me, .slice A5 nm cp5] 45) = w6 at *
      have hb := BN.out
      clear BN
      have B6 := Lib.hid (below_then B5.out hb)
      have T6 := Lib.hid (T5.out.below hb)
      have P6 := Lib.hid (P5.out.below hb)
      have V6 := Lib.hid (V5.out.below hb)
      have GA6 := Lib.hid (GA5.out.below hb)
      have XA6 := Lib.hid (XA5.out.below hb)
      have GB6 := Lib.hid (GB5.out.below hb)
      clear hb B5 T5 P5 V5 GA5 XA5 GB5
      obtain ⟨x0, x1, x2, x3, x4, x5, x6⟩ := P6.out.cells
      obtain ⟨y0, y1, y2, y3, y4, y5, y6⟩ := XA6.out.cells
      obtain ⟨z0, z1, z2, z3, z4, z5, z6⟩ := XB6.out.cells
      go_wp2_with fail
      clear x0 x1 x2 x3 x4 x5 x6 y0 y1 y2 y3 y4 y5 y6 z0 z1 z2 z3 z4 z5 z6
      refine (OP1.out _ T6.out).mono ?_
      rintro e w7 ⟨sv7, rfl, G, hb⟩
      simp only at G
      obtain ⟨no, hno⟩ : ∃ z, z = rowsO.length := ⟨_, rfl⟩
      have Hno := Lib.hid hno
      clear hno
      have GC7 := Lib.hid G
      obtain ⟨A7, cp7, hv7, _, _, _, _⟩ := G
      rw [← Hno.out] at hv7
      subst hv7
      have B7 := Lib.hid (below_then B6.out hb)
      have T7 := Lib.hid (T6.out.below hb)
      have P7 := Lib.hid (P6.out.below hb)
      have V7 := Lib.hid (V6.out.below hb)
      have GA7 := Lib.hid (GA6.out.below hb)
      have XA7 := Lib.hid (XA6.out.below hb)
      have GB7 := Lib.hid (GB6.out.below hb)
      have XB7 := Lib.hid (XB6.out.below hb)
      clear hb B6 T6 P6 V6 GA6 XA6 GB6 XB6
      obtain ⟨x0, x1, x2, x3, x4, x5, x6⟩ := P7.out.cells
      obtain ⟨y0, y1, y2, y3, y4, y5, y6⟩ := XA7.out.cells
      obtain ⟨z0, z1, z2, z3, z4, z5, z6⟩ := XB7.out.cells
      unfold pgV
      simp only
      go_upto_region 7 with fail
      clear x0 x1 x2 x3 x4 x5 x6 y0 y1 y2 y3 y4 y5 y6 z0 z1 z2 z3 z4 z5 z6
      have BN := Lib.hid (alloc_below w7 (.cells #[.int .u8 oa, .int .u8 ob, .int .u32 oc, .int .u64 od, .int .u32 oe, .slice A7 no cp7] 45))
      have XC8 := Lib.hid (PgBox.new w7 oa ob oc od oe (.slice A7 no cp7))
      generalize w7.alloc (.cells #[.int .u8 oa, .int .u8 ob, .int .u32 oc, .int .u64 od, .int .u32 oe, .slice A7 no cp7] 45) = w8 at *
      have hb := BN.out
      clear BN
      have B8 := Lib.hid (below_then B7.out hb)
      have T8 := Lib.hid (T7.out.below hb)
      have P8 := Lib.hid (P7.out.below hb)
      have V8 := Lib.hid (V7.out.below hb)
      have GA8 := Lib.hid (GA7.out.below hb)
      have XA8 := Lib.hid (XA7.out.below hb)
      have GB8 := Lib.hid (GB7.out.below hb)
      have XB8 := Lib.hid (XB7.out.below hb)
      have GC8 := Lib.hid (GC7.out.below hb)
      clear hb B7 T7 P7 V7 GA7 XA7 GB7 XB7 GC7
      obtain ⟨x0, x1, x2, x3, x4, x5, x6⟩ := P8.out.cells
      obtain ⟨y0, y1, y2, y3, y4, y5, y6⟩ := XA8.out.cells
      obtain ⟨z0, z1, z2, z3, z4, z5, z6⟩ := XB8.out.cells
      obtain ⟨u0, u1, u2, u3, u4, u5, u6⟩ := XC8.out.cells
      go_wp2_with fail
      clear x0 x1 x2 x3 x4 x5 x6 y0 y1 y2 y3 y4 y5 y6 z0 z1 z2 z3 z4 z5 z6 u0 u1 u2 u3 u4 u5 u6
      refine (OR1.out _ T8.out).mono ?_
      rintro e w9 ⟨sv9, rfl, G, hb⟩
      simp only at G
      have GD9 := Lib.hid G
      obtain ⟨A9, cp9, hv9, _, _, _, _⟩ := G
      rw [← Hno.out] at hv9
      subst hv9
      have B9 := Lib.hid (below_then B8.out hb)
      have T9 := Lib.hid (T8.out.below hb)
      have P9 := Lib.hid (P8.out.below hb)
      have V9 := Lib.hid (V8.out.below hb)
      have GA9 := Lib.hid (GA8.out.below hb)
      have XA9 := Lib.hid (XA8.out.below hb)
      have GB9 := Lib.hid (GB8.out.below hb)
      have XB9 := Lib.hid (XB8.out.below hb)
      have GC9 := Lib.hid (GC8.out.below hb)
      have XC9 := Lib.hid (XC8.out.below hb)
      clear hb B8 T8 P8 V8 GA8 XA8 GB8 XB8 GC8 XC8
      obtain ⟨x0, x1, x2, x3, x4, x5, x6⟩ := P9.out.cells
      obtain ⟨y0, y1, y2, y3, y4, y5, y6⟩ := XA9.out.cells
      obtain ⟨z0, z1, z2, z3, z4, z5, z6⟩ := XB9.out.cells
      obtain ⟨u0, u1, u2, u3, u4, u5, u6⟩ := XC9.out.cells
      unfold pgV
      simp only
      go_upto_region 8 with fail
      clear x0 x1 x2 x3 x4 x5 x6 y0 y1 y2 y3 y4 y5 y6 z0 z1 z2 z3 z4 z5 z6 u0 u1 u2 u3 u4 u5 u6
      have BN := Lib.hid (alloc_below w9 (.cells #[.int .u8 oa, .int .u8 ob, .int .u32 oc, .int .u64 od, .int .u32 oe, .slice A9 no cp9] 45))
      have XD10 := Lib.hid (PgBox.new w9 oa ob oc od oe (.slice A9 no cp9))
      generalize w9.alloc (.cells #[.int .u8 oa, .int .u8 ob, .int .u32 oc, .int .u64 od, .int .u32 oe, .slice A9 no cp9] 45) = w10 at *
      have hb := BN.out
      clear BN
      have B10 := Lib.hid (below_then B9.out hb)
      have T10 := Lib.hid (T9.out.below hb)
      have P10 := Lib.hid (P9.out.below hb)
      have V10 := Lib.hid (V9.out.below hb)
      have GA10 := Lib.hid (GA9.out.below hb)
      have XA10 := Lib.hid (XA9.out.below hb)
      have GB10 := Lib.hid (GB9.out.below hb)
      have XB10 := Lib.hid (XB9.out.below hb)
      have GC10 := Lib.hid (GC9.out.below hb)
      have XC10 := Lib.hid (XC9.out.below hb)
      have GD10 := Lib.hid (GD9.out.below hb)
      clear hb B9 T9 P9 V9 GA9 XA9 GB9 XB9 GC9 XC9 GD9
      obtain ⟨x0, x1, x2, x3, x4, x5, x6⟩ := P10.out.cells
      obtain ⟨y0, y1, y2, y3, y4, y5, y6⟩ := XA10.out.cells
      obtain ⟨z0, z1, z2, z3, z4, z5, z6⟩ := XB10.out.cells
      obtain ⟨u0, u1, u2, u3, u4, u5, u6⟩ := XC10.out.cells
      obtain ⟨v0, v1, v2, v3, v4, v5, v6⟩ := XD10.out.cells
      go_wp2_with fail
      clear x0 x1 x2 x3 x4 x5 x6 y0 y1 y2 y3 y4 y5 y6 z0 z1 z2 z3 z4 z5 z6 u0 u1 u2 u3 u4 u5 u6 v0 v1 v2 v3 v4 v5 v6
      refine (refSame06_eq ⟨ma, mb, mc, md, me, rowsM⟩ (.slice A3 nm cp3) (.slice A5 nm cp5) _ GA10.out GB10.out).mono ?_
      rintro e w11 ⟨rfl, hb⟩
      have B11 := Lib.hid (below_then B10.out hb)
      have T11 := Lib.hid (T10.out.below hb)
      have P11 := Lib.hid (P10.out.below hb)
      have V11 := Lib.hid (V10.out.below hb)
      have GA11 := Lib.hid (GA10.out.below hb)
      have XA11 := Lib.hid (XA10.out.below hb)
      have GB11 := Lib.hid (GB10.out.below hb)
      have XB11 := Lib.hid (XB10.out.below hb)
      have GC11 := Lib.hid (GC10.out.below hb)
      have XC11 := Lib.hid (XC10.out.below hb)
      have GD11 := Lib.hid (GD10.out.below hb)
      have XD11 := Lib.hid (XD10.out.below hb)
      clear hb B10 T10 P10 V10 GA10 XA10 GB10 XB10 GC10 XC10 GD10 XD10
      clear GA11
      clear GB11
      clear XA11
      clear XB11
      obtain ⟨x0, x1, x2, x3, x4, x5, x6⟩ := P11.out.cells
      obtain ⟨u0, u1, u2, u3, u4, u5, u6⟩ := XC11.out.cells
      obtain ⟨v0, v1, v2, v3, v4, v5, v6⟩ := XD11.out.cells
      go_wp2_with fail
      clear x0 x1 x2 x3 x4 x5 x6 u0 u1 u2 u3 u4 u5 u6 v0 v1 v2 v3 v4 v5 v6
      refine (refSame06_eq ⟨oa, ob, oc, od, oe, rowsO⟩ (.slice A7 no cp7) (.slice A9 no cp9) _ GC11.out GD11.out).mono ?_
      rintro e w12 ⟨rfl, hb⟩
      have B12 := Lib.hid (below_then B11.out hb)
      have T12 := Lib.hid (T11.out.below hb)
      have P12 := Lib.hid (P11.out.below hb)
      have V12 := Lib.hid (V11.out.below hb)
      have GC12 := Lib.hid (GC11.out.below hb)
      have XC12 := Lib.hid (XC11.out.below hb)
      have GD12 := Lib.hid (GD11.out.below hb)
      have XD12 := Lib.hid (XD11.out.below hb)
      clear hb B11 T11 P11 V11 GC11 XC11 GD11 XD11
      clear GC12
      clear GD12
      clear XC12
      clear XD12
      obtain ⟨x0, x1, x2, x3, x4, x5, x6⟩ := P12.out.cells
      go_wp2_with fail
      clear x0 x1 x2 x3 x4 x5 x6
      refine (FI1.out _ T12.out).mono ?_
      rintro e w13 ⟨rfl, hb⟩
      have B13 := Lib.hid (below_then B12.out hb)
      have T13 := Lib.hid (T12.out.below hb)
      have P13 := Lib.hid (P12.out.below hb)
      have V13 := Lib.hid (V12.out.below hb)
      clear hb B12 T12 P12 V12
      have hbe := HBE.out
      obtain ⟨x0, x1, x2, x3, x4, x5, x6⟩ := P13.out.cells
      go_wp2_with fail
      clear x0 x1 x2 x3 x4 x5 x6
      refine (refTexts_any v2 (.slice A n cp) rows rows _ V13.out T13.out).mono ?_
      rintro e w14 ⟨he, hb⟩
      rw [decide_eq_true (rfl : rows = rows)] at he
      subst he
      have B14 := Lib.hid (below_then B13.out hb)
      have T14 := Lib.hid (T13.out.below hb)
      have P14 := Lib.hid (P13.out.below hb)
      have V14 := Lib.hid (V13.out.below hb)
      clear hb B13 T13 P13 V13
      go_wp2_with fail
      refine (AL.out _).mono ?_
      rintro e wa ⟨rfl, hba⟩
      have Ba := Lib.hid (below_then B14.out hba)
      clear hba
      go_wp2_with fail
      go_ret
      exact ⟨rfl, Ba.out⟩

end Go.Proofs.Ytjcfnfpilladfaa
