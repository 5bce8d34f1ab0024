/- chapter 08: NodeSplits: the walk -/
import Derived.Test.YtjcfnfpilladfaaRows
import Derived.Test.YtjcfnfpilladfaaNodeAlive
import Derived.Test.YtjcfnfpilladfaaNodeRefMerge
import Derived.Test.YtjcfnfpilladfaaNodeRefSplit
import Derived.Test.YtjcfnfpilladfaaTextsP
import Derived.Test.YtjcfnfpilladfaaNodeWeigh
import Derived.Test.YtjcfnfpilladfaaNodeSplit
import Derived.Test.YtjcfnfpilladfaaNodeMerge
import Derived.Deep.RegionLaw
import Derived.WalkKit
import Derived.WalkLawsBesides
import Derived.WalkSpells
import Derived.LoopTactic
import Derived.WalkMore
import Derived.LoopN
import Derived.Laws.BitsAllLaws
import Derived.Laws.IdiomStrings
import Derived.BigQuiet
import Derived.Deep.QuietTactic
import Derived.Deep.DeepCutAuto
import Derived.Deep.RegionHeld3
import Derived.Deep.DrawnRows
import Derived.Lib.Hide
import Derived.Outline
import Derived.Deep.DeepMust
import Derived.Handy
namespace Go.Proofs.Ytjcfnfpilladfaa
open Go.RowKit
set_option linter.unusedVariables false
set_option linter.unusedSimpArgs false

set_option maxHeartbeats 4000000 in
set_option maxRecDepth 100000 in
theorem nodeSplits_any (p q : Pg) (sv tv : Value) (i : Int) (x : List UInt8) (is : Bool) (w : World) (hp : p.wf) (hq : q.wf) (ht : TextsAt w sv p.rows) (hu : TextsAt w tv q.rows) (hzp : ∀ r ∈ p.rows, r.length ≤ 140737488351232) (hzq : ∀ r ∈ q.rows, r.length ≤ 140737488351232) (hx : x.length ≤ 140737488351232) (hi0 : -9223372036854775808 ≤ i) (hi1 : i ≤ 9223372036854775807) :
    Calls Try.prog 7 #[pgV p sv, pgV q tv, .int .i64 i, .string ⟨x.toArray⟩, .bool is] w fun e w' => e = .returned (.bool true) ∧ Below w.heap.size w w' := by
  have AL := Lib.hid fun W => alive08_any W
  have HV := Lib.hid fun W (h : TextsAt W sv p.rows) => heavy06_any p sv W h hzp
  have HW := Lib.hid fun W (h : TextsAt W tv q.rows) => heavy06_any q tv W h hzq
  have SP : Hid (4096 < heavyB p.rows ∨ 1024 < x.length ∨ ∀ W, TextsAt W sv p.rows → Calls Try.prog 35 #[pgV p sv, .int .i64 i, .string ⟨x.toArray⟩, .bool is] W (SplitPost W (splitB p i x is))) := by
    by_cases h : 4096 < heavyB p.rows ∨ 1024 < x.length
    · rcases h with h | h
      · exact .inl h
      · exact .inr (.inl h)
    · have := weight_heavy p.rows
      exact .inr (.inr fun W hW => nodeSplit_any p sv i x is W hp hW (by omega) hi0 hi1)
  have SR : Hid (4096 < heavyB p.rows ∨ 1024 < x.length ∨ ∀ W, TextsAt W sv p.rows → Calls Try.prog 36 #[pgV p sv, .int .i64 i, .string ⟨x.toArray⟩, .bool is] W (SplitPost W (splitB p i x is))) := by
    by_cases h : 4096 < heavyB p.rows ∨ 1024 < x.length
    · rcases h with h | h
      · exact .inl h
      · exact .inr (.inl h)
    · have := weight_heavy p.rows
      exact .inr (.inr fun W hW => refSplit_any p sv i x is W hp hW (by omega) hi0 hi1)
  have MP : Hid (4096 < heavyB p.rows ∨ 4096 < heavyB q.rows ∨ ∀ W, TextsAt W sv p.rows → TextsAt W tv q.rows → Calls Try.prog 37 #[pgV p sv, pgV q tv] W (PgPost W (mergeB p q))) := by
    by_cases h : 4096 < heavyB p.rows ∨ 4096 < heavyB q.rows
    · rcases h with h | h
      · exact .inl h
      · exact .inr (.inl h)
    · have := weight_heavy p.rows
      have := weight_heavy q.rows
      exact .inr (.inr fun W hW hX => nodeMerge_any p q sv tv W hp hq hW hX (by omega) (by omega))
  have MR : Hid (4096 < heavyB p.rows ∨ 4096 < heavyB q.rows ∨ ∀ W, TextsAt W sv p.rows → TextsAt W tv q.rows → Calls Try.prog 38 #[pgV p sv, pgV q tv] W (PgPost W (mergeB p q))) := by
    by_cases h : 4096 < heavyB p.rows ∨ 4096 < heavyB q.rows
    · rcases h with h | h
      · exact .inl h
      · exact .inr (.inl h)
    · have := weight_heavy p.rows
      have := weight_heavy q.rows
      exact .inr (.inr fun W hW hX => refMerge_any p q sv tv W hp hq hW hX (by omega) (by omega))
  have HT := Lib.hid ht
  have HU := Lib.hid hu
  generalize splitB p i x is = S at *
  generalize mergeB p q = M at *
  obtain ⟨n, hn⟩ : ∃ n, n = p.rows.length := ⟨_, rfl⟩
  obtain ⟨A, cp, hsv, h2, h3, h4, h5⟩ := ht
  rw [← hn] at hsv h2
  subst hsv
  obtain ⟨m, hm⟩ : ∃ m, m = q.rows.length := ⟨_, rfl⟩
  obtain ⟨B, cq, htv, k2, k3, k4, k5⟩ := hu
  rw [← hm] at htv k2
  subst htv
  clear h4 h5 k4 k5 hzp hzq
  unfold pgV at *
  obtain ⟨kind, level, id, lsn, next, rows⟩ := p
  obtain ⟨kind2, level2, id2, lsn2, next2, rows2⟩ := q
  clear hp hq
  have HN := Lib.hid hn
  have HM := Lib.hid hm
  clear hn hm
  simp only at *
  generalize heavyB rows = hv at *
  generalize heavyB rows2 = hv2 at *
  unfold maxLen at h3 k3
  obtain ⟨n0, hxl⟩ : ∃ n0, n0 = x.length := ⟨_, rfl⟩
  have P0 := Lib.hid ((PgBox.new w kind level id lsn next (.slice A n cp)).keep (.cells #[.int .u8 kind2, .int .u8 level2, .int .u32 id2, .int .u64 lsn2, .int .u32 next2, .slice B m cq] 45))
  have Q0 := Lib.hid (PgBox.new (w.alloc (.cells #[.int .u8 kind, .int .u8 level, .int .u32 id, .int .u64 lsn, .int .u32 next, .slice A n cp] 45)) kind2 level2 id2 lsn2 next2 (.slice B m cq))
  have hz1 : (w.alloc (.cells #[.int .u8 kind, .int .u8 level, .int .u32 id, .int .u64 lsn, .int .u32 next, .slice A n cp] 45)).heap.size = w.heap.size + 1 := by simp
  rw [hz1] at Q0
  clear hz1
  have B0 := Lib.hid ((alloc_below w (.cells #[.int .u8 kind, .int .u8 level, .int .u32 id, .int .u64 lsn, .int .u32 next, .slice A n cp] 45)).alloc (by simp) (.cells #[.int .u8 kind2, .int .u8 level2, .int .u32 id2, .int .u64 lsn2, .int .u32 next2, .slice B m cq] 45))
  go_enter Try.func7, Try.ntmps7
  go_upto_region 1 with fail
  generalize (w.alloc (.cells #[.int .u8 kind, .int .u8 level, .int .u32 id, .int .u64 lsn, .int .u32 next, .slice A n cp] 45)).alloc (.cells #[.int .u8 kind2, .int .u8 level2, .int .u32 id2, .int .u64 lsn2, .int .u32 next2, .slice B m cq] 45) = w0 at *
  have T0 := Lib.hid (HT.out.below B0.out)
  have U0 := Lib.hid (HU.out.below B0.out)
  obtain ⟨x0, x1, x2, x3, x4, x5, x6⟩ := P0.out.cells
  obtain ⟨y0, y1, y2, y3, y4, y5, y6⟩ := Q0.out.cells
  go_wp2_with fail
  clear x0 x1 x2 x3 x4 x5 x6 y0 y1 y2 y3 y4 y5 y6
  refine (HV.out _ T0.out).mono ?_
  rintro e w1 ⟨rfl, hb1⟩
  have B1 := Lib.hid (below_then B0.out hb1)
  have T1 := Lib.hid (T0.out.below hb1)
  have U1 := Lib.hid (U0.out.below hb1)
  have P1 := Lib.hid (P0.out.below hb1)
  have Q1 := Lib.hid (Q0.out.below hb1)
  clear hb1 T0 U0 P0 Q0 
  cases hh : decide (4096 < hv) with
  | true =>
    obtain ⟨x0, x1, x2, x3, x4, x5, x6⟩ := P1.out.cells
    obtain ⟨y0, y1, y2, y3, y4, y5, y6⟩ := Q1.out.cells
    go_wp2_with fail
    refine (AL.out _).mono ?_
    rintro e wa ⟨rfl, hba⟩
    have Ba := Lib.hid (below_then B1.out hba)
    clear hba
    go_wp2_with fail
    go_ret
    exact ⟨rfl, Ba.out⟩
  | false =>
    have hv0 : ¬ 4096 < hv := by simpa using hh
    clear hh HV
    obtain ⟨x0, x1, x2, x3, x4, x5, x6⟩ := P1.out.cells
    obtain ⟨y0, y1, y2, y3, y4, y5, y6⟩ := Q1.out.cells
    go_wp2_with fail
    clear x0 x1 x2 x3 x4 x5 x6 y0 y1 y2 y3 y4 y5 y6
    refine (HW.out _ U1.out).mono ?_
    rintro e w2 ⟨rfl, hb2⟩
    have B2 := Lib.hid (below_then B1.out hb2)
    have T2 := Lib.hid (T1.out.below hb2)
    have U2 := Lib.hid (U1.out.below hb2)
    have P2 := Lib.hid (P1.out.below hb2)
    have Q2 := Lib.hid (Q1.out.below hb2)
    clear hb2 T1 U1 P1 Q1 
    cases hh : decide (4096 < hv2) with
    | true =>
      obtain ⟨x0, x1, x2, x3, x4, x5, x6⟩ := P2.out.cells
      obtain ⟨y0, y1, y2, y3, y4, y5, y6⟩ := Q2.out.cells
      go_wp2_with fail
      refine (AL.out _).mono ?_
      rintro e wa ⟨rfl, hba⟩
      have Ba := Lib.hid (below_then B2.out hba)
      clear hba
      go_wp2_with fail
      go_ret
      exact ⟨rfl, Ba.out⟩
    | false =>
      have hv1 : ¬ 4096 < hv2 := by simpa using hh
      clear hh HW
      by_cases hxb : 1024 < x.length
      · have hxc : 1024 < x.toArray.size := by simpa using hxb
        have hxd : x.toArray.size ≤ 140737488351232 := by simpa using hx
        obtain ⟨x0, x1, x2, x3, x4, x5, x6⟩ := P2.out.cells
        obtain ⟨y0, y1, y2, y3, y4, y5, y6⟩ := Q2.out.cells
        go_wp2_with fail
        refine (AL.out _).mono ?_
        rintro e wa ⟨rfl, hba⟩
        have Ba := Lib.hid (below_then B2.out hba)
        clear hba
        go_wp2_with fail
        go_ret
        exact ⟨rfl, Ba.out⟩
      · have hxc : ¬ 1024 < x.toArray.size := by simpa using hxb
        have SP1 := Lib.hid ((SP.out.resolve_left hv0).resolve_left hxb)
        have SR1 := Lib.hid ((SR.out.resolve_left hv0).resolve_left hxb)
        have MP1 := Lib.hid ((MP.out.resolve_left hv0).resolve_left hv1)
        have MR1 := Lib.hid ((MR.out.resolve_left hv0).resolve_left hv1)
        clear SP SR MP MR hv0 hv1
        obtain ⟨x0, x1, x2, x3, x4, x5, x6⟩ := P2.out.cells
        obtain ⟨y0, y1, y2, y3, y4, y5, y6⟩ := Q2.out.cells
        go_wp2_with fail
        clear x0 x1 x2 x3 x4 x5 x6 y0 y1 y2 y3 y4 y5 y6
        refine (SP1.out _ T2.out).mono ?_
        rintro e w3 ⟨s1, s2, rfl, V3, Y3, hb3⟩
        have V3 := Lib.hid V3
        have Y3 := Lib.hid Y3
        have B3 := Lib.hid (below_then B2.out hb3)
        have T3 := Lib.hid (T2.out.below hb3)
        have U3 := Lib.hid (U2.out.below hb3)
        have P3 := Lib.hid (P2.out.below hb3)
        have Q3 := Lib.hid (Q2.out.below hb3)
        clear hb3 T2 U2 P2 Q2 
        obtain ⟨x0, x1, x2, x3, x4, x5, x6⟩ := P3.out.cells
        obtain ⟨y0, y1, y2, y3, y4, y5, y6⟩ := Q3.out.cells
        go_wp2_with fail
        clear x0 x1 x2 x3 x4 x5 x6 y0 y1 y2 y3 y4 y5 y6
        refine (SR1.out _ T3.out).mono ?_
        rintro e w4 ⟨t1, t2, rfl, R4, K4, hb4⟩
        have R4 := Lib.hid R4
        have K4 := Lib.hid K4
        have B4 := Lib.hid (below_then B3.out hb4)
        have T4 := Lib.hid (T3.out.below hb4)
        have U4 := Lib.hid (U3.out.below hb4)
        have P4 := Lib.hid (P3.out.below hb4)
        have Q4 := Lib.hid (Q3.out.below hb4)
        have V4 := Lib.hid (V3.out.below hb4)
        have Y4 := Lib.hid (Y3.out.below hb4)
        clear hb4 T3 U3 P3 Q3 V3 Y3
        obtain ⟨x0, x1, x2, x3, x4, x5, x6⟩ := P4.out.cells
        obtain ⟨y0, y1, y2, y3, y4, y5, y6⟩ := Q4.out.cells
        obtain ⟨⟨ma, mb, mc, md, me, rowsM⟩, er⟩ := M
        go_wp2_with fail
        clear x0 x1 x2 x3 x4 x5 x6 y0 y1 y2 y3 y4 y5 y6
        refine (MP1.out _ T4.out U4.out).mono ?_
        rintro e w5 ⟨sv5, rfl, G5, hb5⟩
        simp only at G5
        obtain ⟨nm, hnm⟩ : ∃ nm, nm = rowsM.length := ⟨_, rfl⟩
        have HG5 := Lib.hid G5
        have HNM := Lib.hid hnm
        clear hnm
        obtain ⟨A5, cp5, hv5, _, _, _, _⟩ := G5
        rw [← HNM.out] at hv5
        subst hv5
        have B5 := Lib.hid (below_then B4.out hb5)
        have T5 := Lib.hid (T4.out.below hb5)
        have U5 := Lib.hid (U4.out.below hb5)
        have P5 := Lib.hid (P4.out.below hb5)
        have Q5 := Lib.hid (Q4.out.below hb5)
        have V5 := Lib.hid (V4.out.below hb5)
        have Y5 := Lib.hid (Y4.out.below hb5)
        have R5 := Lib.hid (R4.out.below hb5)
        have K5 := Lib.hid (K4.out.below hb5)
        clear hb5 T4 U4 P4 Q4 V4 Y4 R4 K4
        obtain ⟨x0, x1, x2, x3, x4, x5, x6⟩ := P5.out.cells
        obtain ⟨y0, y1, y2, y3, y4, y5, y6⟩ := Q5.out.cells
        unfold pgV
        simp only
        go_upto_region 6 with fail
        clear x0 x1 x2 x3 x4 x5 x6 y0 y1 y2 y3 y4 y5 y6
        have BN := Lib.hid (alloc_below w5 (.cells #[.int .u8 ma, .int .u8 mb, .int .u32 mc, .int .u64 md, .int .u32 me, .slice A5 nm cp5] 45))
        have X6 := Lib.hid (PgBox.new w5 ma mb mc md me (.slice A5 nm cp5))
        generalize w5.alloc (.cells #[.int .u8 ma, .int .u8 mb, .int .u32 mc, .int .u64 md, .int .u32 me, .slice A5 nm cp5] 45) = w6 at *
        have hbn := BN.out
        have G6 := Lib.hid (HG5.out.below hbn)
        clear BN HG5
        have B6 := Lib.hid (below_then B5.out hbn)
        have T6 := Lib.hid (T5.out.below hbn)
        have U6 := Lib.hid (U5.out.below hbn)
        have P6 := Lib.hid (P5.out.below hbn)
        have Q6 := Lib.hid (Q5.out.below hbn)
        have V6 := Lib.hid (V5.out.below hbn)
        have Y6 := Lib.hid (Y5.out.below hbn)
        have R6 := Lib.hid (R5.out.below hbn)
        have K6 := Lib.hid (K5.out.below hbn)
        clear hbn T5 U5 P5 Q5 V5 Y5 R5 K5
        obtain ⟨x0, x1, x2, x3, x4, x5, x6⟩ := P6.out.cells
        obtain ⟨y0, y1, y2, y3, y4, y5, y6⟩ := Q6.out.cells
        go_wp2_with fail
        clear x0 x1 x2 x3 x4 x5 x6 y0 y1 y2 y3 y4 y5 y6
        refine (MR1.out _ T6.out U6.out).mono ?_
        rintro e w7 ⟨sv7, rfl, E7, hb7⟩
        simp only at E7
        have HE7 := Lib.hid E7
        obtain ⟨A7, cp7, hv7, _, _, _, _⟩ := E7
        rw [← HNM.out] at hv7
        subst hv7
        have B7 := Lib.hid (below_then B6.out hb7)
        have T7 := Lib.hid (T6.out.below hb7)
        have U7 := Lib.hid (U6.out.below hb7)
        have P7 := Lib.hid (P6.out.below hb7)
        have Q7 := Lib.hid (Q6.out.below hb7)
        have V7 := Lib.hid (V6.out.below hb7)
        have Y7 := Lib.hid (Y6.out.below hb7)
        have R7 := Lib.hid (R6.out.below hb7)
        have K7 := Lib.hid (K6.out.below hb7)
        have X7 := Lib.hid (X6.out.below hb7)
        have G7 := Lib.hid (G6.out.below hb7)
        clear hb7 T6 U6 P6 Q6 V6 Y6 R6 K6 X6 G6
        obtain ⟨x0, x1, x2, x3, x4, x5, x6⟩ := P7.out.cells
        obtain ⟨y0, y1, y2, y3, y4, y5, y6⟩ := Q7.out.cells
        unfold pgV
        simp only
        go_upto_region 7 with fail
        clear x0 x1 x2 x3 x4 x5 x6 y0 y1 y2 y3 y4 y5 y6
        have BN := Lib.hid (alloc_below w7 (.cells #[.int .u8 ma, .int .u8 mb, .int .u32 mc, .int .u64 md, .int .u32 me, .slice A7 nm cp7] 45))
        have D8 := Lib.hid (PgBox.new w7 ma mb mc md me (.slice A7 nm cp7))
        generalize w7.alloc (.cells #[.int .u8 ma, .int .u8 mb, .int .u32 mc, .int .u64 md, .int .u32 me, .slice A7 nm cp7] 45) = w8 at *
        have hbn := BN.out
        have E8 := Lib.hid (HE7.out.below hbn)
        clear BN HE7
        have B8 := Lib.hid (below_then B7.out hbn)
        have T8 := Lib.hid (T7.out.below hbn)
        have U8 := Lib.hid (U7.out.below hbn)
        have P8 := Lib.hid (P7.out.below hbn)
        have Q8 := Lib.hid (Q7.out.below hbn)
        have V8 := Lib.hid (V7.out.below hbn)
        have Y8 := Lib.hid (Y7.out.below hbn)
        have R8 := Lib.hid (R7.out.below hbn)
        have K8 := Lib.hid (K7.out.below hbn)
        have X8 := Lib.hid (X7.out.below hbn)
        have G8 := Lib.hid (G7.out.below hbn)
        clear hbn T7 U7 P7 Q7 V7 Y7 R7 K7 X7 G7
        obtain ⟨⟨S1, S2⟩, S3, S4⟩ := S
        simp only at *
        go_wp2_with fail
        refine (refTexts_any s1 t1 S1 S1 _ V8.out R8.out).mono ?_
        rintro e w9 ⟨he, hb9⟩
        rw [decide_eq_true (rfl : S1 = S1)] at he
        subst he
        have B9 := Lib.hid (below_then B8.out hb9)
        have T9 := Lib.hid (T8.out.below hb9)
        have U9 := Lib.hid (U8.out.below hb9)
        have P9 := Lib.hid (P8.out.below hb9)
        have Q9 := Lib.hid (Q8.out.below hb9)
        have Y9 := Lib.hid (Y8.out.below hb9)
        have K9 := Lib.hid (K8.out.below hb9)
        have X9 := Lib.hid (X8.out.below hb9)
        have G9 := Lib.hid (G8.out.below hb9)
        have D9 := Lib.hid (D8.out.below hb9)
        have E9 := Lib.hid (E8.out.below hb9)
        clear hb9 T8 U8 P8 Q8 Y8 K8 X8 G8 D8 E8
        go_wp2_with fail
        refine (refTexts_any s2 t2 S2 S2 _ Y9.out K9.out).mono ?_
        rintro e w10 ⟨he, hb10⟩
        rw [decide_eq_true (rfl : S2 = S2)] at he
        subst he
        have B10 := Lib.hid (below_then B9.out hb10)
        have T10 := Lib.hid (T9.out.below hb10)
        have U10 := Lib.hid (U9.out.below hb10)
        have P10 := Lib.hid (P9.out.below hb10)
        have Q10 := Lib.hid (Q9.out.below hb10)
        have X10 := Lib.hid (X9.out.below hb10)
        have G10 := Lib.hid (G9.out.below hb10)
        have D10 := Lib.hid (D9.out.below hb10)
        have E10 := Lib.hid (E9.out.below hb10)
        clear hb10 T9 U9 P9 Q9 X9 G9 D9 E9
        obtain ⟨x0, x1, x2, x3, x4, x5, x6⟩ := X10.out.cells
        obtain ⟨y0, y1, y2, y3, y4, y5, y6⟩ := D10.out.cells
        go_wp2_with fail
        clear x0 x1 x2 x3 x4 x5 x6 y0 y1 y2 y3 y4 y5 y6
        refine (refSame06_eq ⟨ma, mb, mc, md, me, rowsM⟩ (.slice A5 nm cp5) (.slice A7 nm cp7) _ G10.out E10.out).mono ?_
        rintro e w11 ⟨rfl, hb11⟩
        have B11 := Lib.hid (below_then B10.out hb11)
        clear hb11
        go_wp2_with fail
        refine (AL.out _).mono ?_
        rintro e w12 ⟨rfl, hb12⟩
        have B12 := Lib.hid (below_then B11.out hb12)
        clear hb12
        go_wp2_with fail
        go_ret
        exact ⟨rfl, B12.out⟩

end Go.Proofs.Ytjcfnfpilladfaa
