/- chapter 08: NodeTells: the walk -/
import Derived.Test.YtjcfnfpilladfaaRows
import Derived.Test.YtjcfnfpilladfaaNodeSplitsWalk
import Derived.Test.YtjcfnfpilladfaaNodeAlive
import Derived.Test.YtjcfnfpilladfaaNodeChild
import Derived.Test.YtjcfnfpilladfaaNodeFind
import Derived.Test.YtjcfnfpilladfaaNodeCheck
import Derived.Test.YtjcfnfpilladfaaNodeWeigh
import Derived.Deep.RegionLaw
import Derived.WalkKit
import Derived.WalkLawsBesides
import Derived.WalkSpells
import Derived.LoopTactic
import Derived.WalkMore
import Derived.LoopN
import Derived.Laws.BitsAllLaws
import Derived.Laws.IdiomStrings
import Derived.BigQuiet
import Derived.Deep.QuietTactic
import Derived.Deep.DeepCutAuto
import Derived.Deep.RegionHeld3
import Derived.Deep.DrawnRows
import Derived.Lib.Hide
import Derived.Outline
import Derived.Deep.DeepMust
import Derived.Handy
namespace Go.Proofs.Ytjcfnfpilladfaa
open Go.RowKit
set_option linter.unusedVariables false
set_option linter.unusedSimpArgs false

set_option maxHeartbeats 4000000 in
set_option maxRecDepth 100000 in
theorem nodeTells_any (p : Pg) (sv : Value) (x : List UInt8) (i : Int) (w : World) (hp : p.wf) (ht : TextsAt w sv p.rows) (hzp : ∀ r ∈ p.rows, r.length ≤ 140737488351232) (hx : x.length ≤ 140737488351232) (hi0 : -9223372036854775808 ≤ i) (hi1 : i ≤ 9223372036854775807) :
    Calls Try.prog 8 #[pgV p sv, .string ⟨x.toArray⟩, .int .i64 i] w fun e w' => e = .returned (.bool true) ∧ Below w.heap.size w w' := by
  have AL := Lib.hid fun W => alive08_any W
  have HV := Lib.hid fun W (h : TextsAt W sv p.rows) => heavy06_any p sv W h hzp
  have hwt := weight_heavy p.rows
  have KP := Lib.hid fun (HB : weightB p.rows ≤ 1000000) (HX : x.length ≤ 1000000) W (hW : TextsAt W sv p.rows) => nodeKey_any p sv i W hp hW HB hi0 hi1
  have KR := Lib.hid fun (HB : weightB p.rows ≤ 1000000) (HX : x.length ≤ 1000000) W (hW : TextsAt W sv p.rows) => refKey_any p sv i W hp hW HB hi0 hi1
  have FP := Lib.hid fun (HB : weightB p.rows ≤ 1000000) (HX : x.length ≤ 1000000) W (hW : TextsAt W sv p.rows) => nodeFind_any p sv x W hp hW HB
  have FR := Lib.hid fun (HB : weightB p.rows ≤ 1000000) (HX : x.length ≤ 1000000) W (hW : TextsAt W sv p.rows) => refFind_any p sv x W hp hW HB HX
  have CP := Lib.hid fun (HB : weightB p.rows ≤ 1000000) (HX : x.length ≤ 1000000) W (hW : TextsAt W sv p.rows) => nodeChild_any p sv x W hp hW HB
  have CR := Lib.hid fun (HB : weightB p.rows ≤ 1000000) (HX : x.length ≤ 1000000) W (hW : TextsAt W sv p.rows) => refChild_any p sv x W hp hW HB HX
  have CHP := Lib.hid fun (HB : weightB p.rows ≤ 1000000) (HX : x.length ≤ 1000000) W (hW : TextsAt W sv p.rows) => nodeCheck_any p sv W hp hW HB
  have CHR := Lib.hid fun (HB : weightB p.rows ≤ 1000000) (HX : x.length ≤ 1000000) W (hW : TextsAt W sv p.rows) => refCheck_any p sv W hp hW HB
  have SM := Lib.hid fun (HB : weightB p.rows ≤ 1000000) (HX : x.length ≤ 1000000) W (hW : TextsAt W sv p.rows) => nodeSmall_any p sv W hW HB
  have WT := Lib.hid fun (HB : weightB p.rows ≤ 1000000) (HX : x.length ≤ 1000000) W (hW : TextsAt W sv p.rows) => refWeight_any sv p.rows W hW HB
  have HT := Lib.hid ht
  have wle : ¬ 4096 < heavyB p.rows → weightB p.rows ≤ 1000000 := by omega
  have HWL := Lib.hid wle
  clear wle hwt
  generalize keyAtB p i = Ke at *
  generalize findB p x = Fi at *
  generalize childB childNo p x = Ch at *
  generalize checkB p = ck at *
  generalize weightB p.rows = wB at *
  obtain ⟨bs, hbs⟩ : ∃ b, decide (3 * wB < 488) = b := ⟨_, rfl⟩
  have hbi : wB ≤ 1000000 → decide (IntKind.i64.wrap (3 * (wB : Int)) < 488) = bs := fun hb => by
    rw [show IntKind.i64.wrap (3 * (wB : Int)) = 3 * (wB : Int) from IntWalk.i64_in _ ⟨by omega, by omega⟩, ← hbs]
    by_cases h : 3 * wB < 488 <;> simp [h] <;> omega
  rw [hbs] at SM
  have HBI := Lib.hid hbi
  clear hbs hbi
  obtain ⟨n, hn⟩ : ∃ n, n = p.rows.length := ⟨_, rfl⟩
  obtain ⟨A, cp, hsv, h2, h3, h4, h5⟩ := ht
  rw [← hn] at hsv h2
  subst hsv
  clear h4 h5 hzp
  unfold pgV at *
  obtain ⟨kind, level, id, lsn, next, rows⟩ := p
  clear hp
  have HN := Lib.hid hn
  clear hn
  simp only at *
  generalize heavyB rows = hv at *
  unfold maxLen at h3
  have P0 := Lib.hid (PgBox.new w kind level id lsn next (.slice A n cp))
  have B0 := Lib.hid (alloc_below w (.cells #[.int .u8 kind, .int .u8 level, .int .u32 id, .int .u64 lsn, .int .u32 next, .slice A n cp] 45))
  go_enter Try.func8, Try.ntmps8
  go_upto_region 1 with fail
  generalize w.alloc (.cells #[.int .u8 kind, .int .u8 level, .int .u32 id, .int .u64 lsn, .int .u32 next, .slice A n cp] 45) = w0 at *
  have T0 := Lib.hid (HT.out.below B0.out)
  obtain ⟨x0, x1, x2, x3, x4, x5, x6⟩ := P0.out.cells
  go_wp2_with fail
  clear x0 x1 x2 x3 x4 x5 x6
  refine (HV.out _ T0.out).mono ?_
  rintro e w1 ⟨rfl, hb⟩
  have B1 := Lib.hid (below_then B0.out hb)
  have T1 := Lib.hid (T0.out.below hb)
  have P1 := Lib.hid (P0.out.below hb)
  clear hb B0 T0 P0
  cases hh : decide (4096 < hv) with
  | true =>
    obtain ⟨x0, x1, x2, x3, x4, x5, x6⟩ := P1.out.cells
    go_wp2_with fail
    refine (AL.out _).mono ?_
    rintro e wa ⟨rfl, hba⟩
    have Ba := Lib.hid (below_then B1.out hba)
    clear hba
    go_wp2_with fail
    go_ret
    exact ⟨rfl, Ba.out⟩
  | false =>
    have hv0 : ¬ 4096 < hv := by simpa using hh
    clear hh HV
    by_cases hxb : 512 < x.length
    · have hxc : 512 < x.toArray.size := by simpa using hxb
      have hxd : x.toArray.size ≤ 140737488351232 := by simpa using hx
      obtain ⟨x0, x1, x2, x3, x4, x5, x6⟩ := P1.out.cells
      go_wp2_with fail
      refine (AL.out _).mono ?_
      rintro e wa ⟨rfl, hba⟩
      have Ba := Lib.hid (below_then B1.out hba)
      clear hba
      go_wp2_with fail
      go_ret
      exact ⟨rfl, Ba.out⟩
    · have hxc : ¬ 512 < x.toArray.size := by simpa using hxb
      have HB := HWL.out hv0
      have HX : x.length ≤ 1000000 := by omega
      have KP1 := Lib.hid (KP.out HB HX)
      have KR1 := Lib.hid (KR.out HB HX)
      have FP1 := Lib.hid (FP.out HB HX)
      have FR1 := Lib.hid (FR.out HB HX)
      have CP1 := Lib.hid (CP.out HB HX)
      have CR1 := Lib.hid (CR.out HB HX)
      have CHP1 := Lib.hid (CHP.out HB HX)
      have CHR1 := Lib.hid (CHR.out HB HX)
      have SM1 := Lib.hid (SM.out HB HX)
      have WT1 := Lib.hid (WT.out HB HX)
      have HBJ := Lib.hid (HBI.out HB)
      clear HBI KP KR FP FR CP CR CHP CHR SM WT HB HX HWL hv0
      obtain ⟨x0, x1, x2, x3, x4, x5, x6⟩ := P1.out.cells
      go_wp2_with fail
      clear x0 x1 x2 x3 x4 x5 x6
      refine (KP1.out _ T1.out).mono ?_
      rintro e w2 ⟨rfl, hb⟩
      have B2 := Lib.hid (below_then B1.out hb)
      have T2 := Lib.hid (T1.out.below hb)
      have P2 := Lib.hid (P1.out.below hb)
      clear hb B1 T1 P1
      obtain ⟨x0, x1, x2, x3, x4, x5, x6⟩ := P2.out.cells
      go_wp2_with fail
      clear x0 x1 x2 x3 x4 x5 x6
      refine (KR1.out _ T2.out).mono ?_
      rintro e w3 ⟨rfl, hb⟩
      have B3 := Lib.hid (below_then B2.out hb)
      have T3 := Lib.hid (T2.out.below hb)
      have P3 := Lib.hid (P2.out.below hb)
      clear hb B2 T2 P2
      obtain ⟨x0, x1, x2, x3, x4, x5, x6⟩ := P3.out.cells
      go_wp2_with fail
      clear x0 x1 x2 x3 x4 x5 x6
      refine (FP1.out _ T3.out).mono ?_
      rintro e w4 ⟨rfl, hb⟩
      have B4 := Lib.hid (below_then B3.out hb)
      have T4 := Lib.hid (T3.out.below hb)
      have P4 := Lib.hid (P3.out.below hb)
      clear hb B3 T3 P3
      obtain ⟨x0, x1, x2, x3, x4, x5, x6⟩ := P4.out.cells
      go_wp2_with fail
      clear x0 x1 x2 x3 x4 x5 x6
      refine (FR1.out _ T4.out).mono ?_
      rintro e w5 ⟨rfl, hb⟩
      have B5 := Lib.hid (below_then B4.out hb)
      have T5 := Lib.hid (T4.out.below hb)
      have P5 := Lib.hid (P4.out.below hb)
      clear hb B4 T4 P4
      obtain ⟨x0, x1, x2, x3, x4, x5, x6⟩ := P5.out.cells
      go_wp2_with fail
      clear x0 x1 x2 x3 x4 x5 x6
      refine (CP1.out _ T5.out).mono ?_
      rintro e w6 ⟨rfl, hb⟩
      have B6 := Lib.hid (below_then B5.out hb)
      have T6 := Lib.hid (T5.out.below hb)
      have P6 := Lib.hid (P5.out.below hb)
      clear hb B5 T5 P5
      obtain ⟨x0, x1, x2, x3, x4, x5, x6⟩ := P6.out.cells
      go_wp2_with fail
      clear x0 x1 x2 x3 x4 x5 x6
      refine (CR1.out _ T6.out).mono ?_
      rintro e w7 ⟨rfl, hb⟩
      have B7 := Lib.hid (below_then B6.out hb)
      have T7 := Lib.hid (T6.out.below hb)
      have P7 := Lib.hid (P6.out.below hb)
      clear hb B6 T6 P6
      have CC := Lib.hid fun W (hW : Below w7.heap.size w7 W) => (P7.out.below hW).cells
      have D1 : Hid (Below w7.heap.size w7 w7.drew) := Lib.hid ((Below.refl _ _).drew)
      have CHP2 := Lib.hid fun W (hW : Below w7.heap.size w7 W) => (CHP1.out W (T7.out.below hW)).mono fun _ _ ⟨h1, h2⟩ => (⟨h1, below_then hW h2⟩ : _ ∧ Below w7.heap.size w7 _)
      have CHR2 := Lib.hid fun W (hW : Below w7.heap.size w7 W) => (CHR1.out W (T7.out.below hW)).mono fun _ _ ⟨h1, h2⟩ => (⟨h1, below_then hW h2⟩ : _ ∧ Below w7.heap.size w7 _)
      have SM2 := Lib.hid fun W (hW : Below w7.heap.size w7 W) => (SM1.out W (T7.out.below hW)).mono fun _ _ ⟨h1, h2⟩ => (⟨h1, below_then hW h2⟩ : _ ∧ Below w7.heap.size w7 _)
      have WT2 := Lib.hid fun W (hW : Below w7.heap.size w7 W) => (WT1.out W (T7.out.below hW)).mono fun _ _ ⟨h1, h2⟩ => (⟨h1, h2 ▸ hW⟩ : _ ∧ Below w7.heap.size w7 _)
      have AL2 := Lib.hid fun W (hW : Below w7.heap.size w7 W) => (AL.out W).mono fun _ _ ⟨h1, h2⟩ => (⟨h1, below_then hW h2⟩ : _ ∧ Below w7.heap.size w7 _)
      clear CHP1 CHR1 SM1 WT1 AL HT HN
      go_upto_region 9 with fail
      have hbi := HBJ.out
      go_region_held3 (fun w' => w.heap.size < w'.heap.size ∧ w'.cell? ⟨w.heap.size, 0, none⟩ = some (.int .u8 kind) ∧ w'.cell? ⟨w.heap.size, 1, none⟩ = some (.int .u8 level) ∧ w'.cell? ⟨w.heap.size, 2, none⟩ = some (.int .u32 id) ∧ w'.cell? ⟨w.heap.size, 3, none⟩ = some (.int .u64 lsn) ∧ w'.cell? ⟨w.heap.size, 4, none⟩ = some (.int .u32 next) ∧ w'.cell? ⟨w.heap.size, 5, none⟩ = some (.slice A n cp))
        (first
          | (with_reducible exact CC.out _ D1.out)
          | (with_reducible exact CC.out _ h1)
          | (with_reducible exact CC.out _ h2)
          | (with_reducible exact CC.out _ h3)
          | (with_reducible exact CC.out _ h4)
          | (with_reducible exact CC.out _ h5)
          | exact CC.out _ D1.out)
        (first
          | (go_at_call 34; refine (AL2.out _ h4).mono ?_; rintro e w25 ⟨rfl, h5⟩)
          | (go_at_call 48; refine (WT2.out _ h3).mono ?_; rintro e w24 ⟨rfl, h4⟩)
          | (go_at_call 47; refine (SM2.out _ h2).mono ?_; rintro e w23 ⟨rfl, h3⟩)
          | (go_at_call 46; refine (CHR2.out _ h1).mono ?_; rintro e w22 ⟨rfl, h2⟩)
          | (go_at_call 45; refine (CHP2.out _ D1.out).mono ?_; rintro e w21 ⟨rfl, h1⟩))
      go_wp2_with fail
      go_ret
      exact ⟨rfl, below_then B7.out h5⟩

end Go.Proofs.Ytjcfnfpilladfaa
