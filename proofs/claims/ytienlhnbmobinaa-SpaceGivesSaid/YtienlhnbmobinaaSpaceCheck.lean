/- chapter 16: Check, both -/
import Derived.Test.YtienlhnbmobinaaRows
import Derived.Test.YtienlhnbmobinaaSpaceBit
import Derived.Test.YtienlhnbmobinaaSpacePlain
import Derived.Test.YtienlhnbmobinaaPlains
import Derived.Test.YtienlhnbmobinaaBase
import Derived.Test.YtienlhnbmobinaaTextsP
import Derived.WalkKit
import Derived.WalkLawsBesides
import Derived.WalkSpells
import Derived.LoopTactic
import Derived.WalkMore
import Derived.LoopN
import Derived.Laws.BitsAllLaws
import Derived.Laws.IdiomStrings
import Derived.BigQuiet
import Derived.Deep.QuietTactic
import Derived.Deep.DeepCutAuto
import Derived.Deep.RegionHeld3
import Derived.Deep.DrawnRows
import Derived.Lib.Hide
import Derived.Outline
import Derived.Deep.DeepMust
import Derived.Handy
namespace Go.Proofs.Ytienlhnbmobinaa
open Go.RowKit
set_option linter.unusedVariables false
set_option linter.unusedSimpArgs false

def chkB (p : Pg) : Int := if mapB p then 0 else 60
theorem chkB_no {p : Pg} (h : mapB p = false) : chkB p = 60 := by unfold chkB; rw [h]; rfl
theorem may_id {p : Pg} (h : true = p.may) : 1 ≤ p.id ∧ p.id ≤ 1024 := by
  unfold Pg.may at h
  have := (Bool.and_eq_true_iff.1 h.symm).1
  rw [headOk_iff] at this
  exact ⟨this.2.1, this.2.2.1⟩
set_option maxHeartbeats 4000000 in
set_option maxRecDepth 100000 in
theorem spaceCheck_any (p : Pg) (sv : Value) (w : World) (hp : p.wf) (ht : TextsAt w sv p.rows) (hb : weightB p.rows ≤ 1000000) :
    Calls Try.prog 30 #[pgV p sv] w fun e w' => e = .returned (.int .i64 (chkB p)) ∧ Below w.heap.size w w' := by
  have MY := Lib.hid fun W (hW : TextsAt W sv p.rows) => pageMay_any p sv W hp hW hb
  have HT := Lib.hid ht
  obtain ⟨n, hn⟩ : ∃ n, n = p.rows.length := ⟨_, rfl⟩
  obtain ⟨A, cp, hsv, h2, h3, h4, h5⟩ := ht
  rw [← hn] at hsv h2
  subst hsv
  unfold maxLen at h3
  have HROWS := Lib.hid h5
  have HN := Lib.hid hn
  clear h4 h5 hn
  obtain ⟨kind, level, id, lsn, next, rows⟩ := p
  obtain ⟨my, hmy⟩ : ∃ b, b = Pg.may ⟨kind, level, id, lsn, next, rows⟩ := ⟨_, rfl⟩
  rw [← hmy] at MY
  have HM := Lib.hid hmy
  simp only at HT HROWS HN h2
  have P0 := Lib.hid (PgBox.new w kind level id lsn next (.slice A n cp))
  have B0 := Lib.hid (alloc_below w (.cells #[.int .u8 kind, .int .u8 level, .int .u32 id, .int .u64 lsn, .int .u32 next, .slice A n cp] 26))
  unfold pgV at MY ⊢
  simp only at MY ⊢
  clear hmy hb hp
  go_enter Try.func30, Try.ntmps30
  go_upto_region 1 with fail
  generalize w.alloc (.cells #[.int .u8 kind, .int .u8 level, .int .u32 id, .int .u64 lsn, .int .u32 next, .slice A n cp] 26) = w0 at *
  have T0 := Lib.hid (HT.out.below B0.out)
  clear HT
  cases my
  case false =>
    have HV := Lib.hid (show chkB ⟨kind, level, id, lsn, next, rows⟩ = 60 from by refine chkB_no ?_; unfold mapB; rw [← HM.out]; rfl)
    obtain ⟨pl, p0, p1, p2, p3, p4, p5⟩ := P0.out.cells
    have x0 := ext_cell p0 pl
    have x1 := ext_cell p1 pl
    have x2 := ext_cell p2 pl
    have x3 := ext_cell p3 pl
    have x4 := ext_cell p4 pl
    have x5 := ext_cell p5 pl
    clear p0 p1 p2 p3 p4 p5
    have Z1 := Lib.hid fun (y : Ext w0.heap.size w0) => MY.out y.val (T0.out.below y.below)
    clear HROWS
    refine wp_region_ext w0.heap.size (by kernel_rfl) (by kernel_rfl) ?_
    repeat (go_big_quiet_step ((go_at_call 46; with_reducible exact ext_call _ (Nat.le_refl _) (Z1.out _))))
    refine wpQuiet_nil ?_
    rintro _ ⟨X, rfl⟩
    have hbX := X.below
    generalize X.val = w1 at *
    go_wp2_with fail
    go_ret
    exact ⟨by rw [HV.out]; rfl, below_then B0.out hbX⟩
  by_cases h1 : kind = 4
  case neg =>
    have hk : ((kind : Int) != 4) = true := by simp; omega
    have HV := Lib.hid (show chkB ⟨kind, level, id, lsn, next, rows⟩ = 60 from by refine chkB_no ?_; unfold mapB; rw [← HM.out]; simp [h1])
    obtain ⟨pl, p0, p1, p2, p3, p4, p5⟩ := P0.out.cells
    have x0 := ext_cell p0 pl
    have x1 := ext_cell p1 pl
    have x2 := ext_cell p2 pl
    have x3 := ext_cell p3 pl
    have x4 := ext_cell p4 pl
    have x5 := ext_cell p5 pl
    clear p0 p1 p2 p3 p4 p5
    have Z1 := Lib.hid fun (y : Ext w0.heap.size w0) => MY.out y.val (T0.out.below y.below)
    clear HROWS
    refine wp_region_ext w0.heap.size (by kernel_rfl) (by kernel_rfl) ?_
    repeat (go_big_quiet_step ((go_at_call 46; with_reducible exact ext_call _ (Nat.le_refl _) (Z1.out _))))
    refine wpQuiet_nil ?_
    rintro _ ⟨X, rfl⟩
    have hbX := X.below
    generalize X.val = w1 at *
    go_wp2_with fail
    go_ret
    exact ⟨by rw [HV.out]; rfl, below_then B0.out hbX⟩
  have hk : ((kind : Int) != 4) = false := by simp; omega
  have H1 := Lib.hid h1
  clear h1
  by_cases hl : n = 1
  case neg =>
    have hk2 : ((n : Int) != 1) = true := by simp; omega
    have hl2 : ¬ rows.length = 1 := by rw [← HN.out]; exact hl
    have HV := Lib.hid (show chkB ⟨kind, level, id, lsn, next, rows⟩ = 60 from by refine chkB_no ?_; unfold mapB; rw [← HM.out]; simp [hl2])
    obtain ⟨pl, p0, p1, p2, p3, p4, p5⟩ := P0.out.cells
    have x0 := ext_cell p0 pl
    have x1 := ext_cell p1 pl
    have x2 := ext_cell p2 pl
    have x3 := ext_cell p3 pl
    have x4 := ext_cell p4 pl
    have x5 := ext_cell p5 pl
    clear p0 p1 p2 p3 p4 p5
    have Z1 := Lib.hid fun (y : Ext w0.heap.size w0) => MY.out y.val (T0.out.below y.below)
    clear HROWS hl hl2
    refine wp_region_ext w0.heap.size (by kernel_rfl) (by kernel_rfl) ?_
    repeat (go_big_quiet_step ((go_at_call 46; with_reducible exact ext_call _ (Nat.le_refl _) (Z1.out _))))
    refine wpQuiet_nil ?_
    rintro _ ⟨X, rfl⟩
    have hbX := X.below
    generalize X.val = w1 at *
    go_wp2_with fail
    go_ret
    exact ⟨by rw [HV.out]; rfl, below_then B0.out hbX⟩
  subst hl
  obtain ⟨r, hr⟩ : ∃ r, rows = [r] := by
    match rows, HN.out with
    | [x], _ => exact ⟨x, rfl⟩
  subst hr
  obtain ⟨b, o, hA, hbl, hcell⟩ := HROWS.out (by simp)
  subst hA
  have c0 := keep_cell B0.out (hcell 0 (by simp))
  simp only [Nat.add_zero, List.getElem_cons_zero] at c0
  have HC := Lib.hid c0
  have hz : (⟨r.toArray⟩ : ByteArray).size = r.length := rfl
  clear hcell c0 HROWS
  by_cases hq : r.length = 128
  case neg =>
    have hk3 : ((r.length : Int) != 128) = true := by simp; omega
    have HV := Lib.hid (show chkB ⟨kind, level, id, lsn, next, [r]⟩ = 60 from by refine chkB_no ?_; unfold mapB mapRow; rw [← HM.out]; simp [hq])
    have y0 := ext_cell HC.out (cell_lt HC.out)
    obtain ⟨pl, p0, p1, p2, p3, p4, p5⟩ := P0.out.cells
    have x0 := ext_cell p0 pl
    have x1 := ext_cell p1 pl
    have x2 := ext_cell p2 pl
    have x3 := ext_cell p3 pl
    have x4 := ext_cell p4 pl
    have x5 := ext_cell p5 pl
    clear p0 p1 p2 p3 p4 p5
    have Z1 := Lib.hid fun (y : Ext w0.heap.size w0) => MY.out y.val (T0.out.below y.below)
    clear hq
    refine wp_region_ext w0.heap.size (by kernel_rfl) (by kernel_rfl) ?_
    repeat (go_big_quiet_step ((go_at_call 46; with_reducible exact ext_call _ (Nat.le_refl _) (Z1.out _))))
    refine wpQuiet_nil ?_
    rintro _ ⟨X, rfl⟩
    have hbX := X.below
    generalize X.val = w1 at *
    go_wp2_with fail
    go_ret
    exact ⟨by rw [HV.out]; rfl, below_then B0.out hbX⟩
  have hk3 : ((r.length : Int) != 128) = false := by simp; omega
  have hid := may_id HM.out
  simp only at hid
  obtain ⟨bt, hbt⟩ : ∃ bt, bt = bitB r (id - 1) := ⟨_, rfl⟩
  have Z2 := Lib.hid fun W => spaceBit_any r id W hq hid.1 hid.2
  rw [← hbt] at Z2
  have HBT := Lib.hid hbt
  have HQ := Lib.hid hq
  clear hbt hq
  cases bt
  case false =>
    have HV := Lib.hid (show chkB ⟨kind, level, id, lsn, next, [r]⟩ = 60 from by refine chkB_no ?_; unfold mapB mapRow; rw [← HM.out]; simp [← HBT.out])
    have y0 := ext_cell HC.out (cell_lt HC.out)
    obtain ⟨pl, p0, p1, p2, p3, p4, p5⟩ := P0.out.cells
    have x0 := ext_cell p0 pl
    have x1 := ext_cell p1 pl
    have x2 := ext_cell p2 pl
    have x3 := ext_cell p3 pl
    have x4 := ext_cell p4 pl
    have x5 := ext_cell p5 pl
    clear p0 p1 p2 p3 p4 p5
    have Z1 := Lib.hid fun (y : Ext w0.heap.size w0) => MY.out y.val (T0.out.below y.below)
    refine wp_region_ext w0.heap.size (by kernel_rfl) (by kernel_rfl) ?_
    repeat (go_big_quiet_step (first | (go_at_call 46; with_reducible exact ext_call _ (Nat.le_refl _) (Z1.out _)) | (go_at_call 89; with_reducible exact ext_same _ (Z2.out _))))
    refine wpQuiet_nil ?_
    rintro _ ⟨X, rfl⟩
    have hbX := X.below
    generalize X.val = w1 at *
    go_wp2_with fail
    go_ret
    exact ⟨by rw [HV.out]; rfl, below_then B0.out hbX⟩
  case true =>
    have HV := Lib.hid (show chkB ⟨kind, level, id, lsn, next, [r]⟩ = 0 from by unfold chkB mapB mapRow; rw [← HM.out]; simp [← HBT.out, H1.out, HQ.out])
    have y0 := ext_cell HC.out (cell_lt HC.out)
    obtain ⟨pl, p0, p1, p2, p3, p4, p5⟩ := P0.out.cells
    have x0 := ext_cell p0 pl
    have x1 := ext_cell p1 pl
    have x2 := ext_cell p2 pl
    have x3 := ext_cell p3 pl
    have x4 := ext_cell p4 pl
    have x5 := ext_cell p5 pl
    clear p0 p1 p2 p3 p4 p5
    have Z1 := Lib.hid fun (y : Ext w0.heap.size w0) => MY.out y.val (T0.out.below y.below)
    refine wp_region_ext w0.heap.size (by kernel_rfl) (by kernel_rfl) ?_
    repeat (go_big_quiet_step (first | (go_at_call 46; with_reducible exact ext_call _ (Nat.le_refl _) (Z1.out _)) | (go_at_call 89; with_reducible exact ext_same _ (Z2.out _))))
    refine wpQuiet_nil ?_
    rintro _ ⟨X, rfl⟩
    have hbX := X.below
    generalize X.val = w1 at *
    go_wp2_with fail
    go_ret
    exact ⟨by rw [HV.out]; rfl, below_then B0.out hbX⟩
set_option maxHeartbeats 4000000 in
set_option maxRecDepth 100000 in
theorem refCheck16_any (p : Pg) (sv : Value) (w : World) (hp : p.wf) (ht : TextsAt w sv p.rows) (hb : weightB p.rows ≤ 1000000) :
    Calls Try.prog 38 #[pgV p sv] w fun e w' => e = .returned (.int .i64 (chkB p)) ∧ Below w.heap.size w w' := by
  have MY := Lib.hid fun W (hW : TextsAt W sv p.rows) => refMay06_any p sv W hp hW hb
  have HT := Lib.hid ht
  obtain ⟨n, hn⟩ : ∃ n, n = p.rows.length := ⟨_, rfl⟩
  obtain ⟨A, cp, hsv, h2, h3, h4, h5⟩ := ht
  rw [← hn] at hsv h2
  subst hsv
  unfold maxLen at h3
  have HROWS := Lib.hid h5
  have HN := Lib.hid hn
  clear h4 h5 hn
  obtain ⟨kind, level, id, lsn, next, rows⟩ := p
  obtain ⟨my, hmy⟩ : ∃ b, b = Pg.may ⟨kind, level, id, lsn, next, rows⟩ := ⟨_, rfl⟩
  rw [← hmy] at MY
  have HM := Lib.hid hmy
  simp only at HT HROWS HN h2
  have P0 := Lib.hid (PgBox.new w kind level id lsn next (.slice A n cp))
  have B0 := Lib.hid (alloc_below w (.cells #[.int .u8 kind, .int .u8 level, .int .u32 id, .int .u64 lsn, .int .u32 next, .slice A n cp] 26))
  unfold pgV at MY ⊢
  simp only at MY ⊢
  clear hmy hb hp
  go_enter Try.func38, Try.ntmps38
  go_upto_region 1 with fail
  generalize w.alloc (.cells #[.int .u8 kind, .int .u8 level, .int .u32 id, .int .u64 lsn, .int .u32 next, .slice A n cp] 26) = w0 at *
  have T0 := Lib.hid (HT.out.below B0.out)
  clear HT
  cases my
  case false =>
    have HV := Lib.hid (show chkB ⟨kind, level, id, lsn, next, rows⟩ = 60 from by refine chkB_no ?_; unfold mapB; rw [← HM.out]; rfl)
    obtain ⟨pl, p0, p1, p2, p3, p4, p5⟩ := P0.out.cells
    have x0 := ext_cell p0 pl
    have x1 := ext_cell p1 pl
    have x2 := ext_cell p2 pl
    have x3 := ext_cell p3 pl
    have x4 := ext_cell p4 pl
    have x5 := ext_cell p5 pl
    clear p0 p1 p2 p3 p4 p5
    have Z1 := Lib.hid fun (y : Ext w0.heap.size w0) => MY.out y.val (T0.out.below y.below)
    clear HROWS
    refine wp_region_ext w0.heap.size (by kernel_rfl) (by kernel_rfl) ?_
    repeat (go_big_quiet_step ((go_at_call 47; with_reducible exact ext_call _ (Nat.le_refl _) (Z1.out _))))
    refine wpQuiet_nil ?_
    rintro _ ⟨X, rfl⟩
    have hbX := X.below
    generalize X.val = w1 at *
    go_wp2_with fail
    go_ret
    exact ⟨by rw [HV.out]; rfl, below_then B0.out hbX⟩
  by_cases h1 : kind = 4
  case neg =>
    have hk : ((kind : Int) != 4) = true := by simp; omega
    have HV := Lib.hid (show chkB ⟨kind, level, id, lsn, next, rows⟩ = 60 from by refine chkB_no ?_; unfold mapB; rw [← HM.out]; simp [h1])
    obtain ⟨pl, p0, p1, p2, p3, p4, p5⟩ := P0.out.cells
    have x0 := ext_cell p0 pl
    have x1 := ext_cell p1 pl
    have x2 := ext_cell p2 pl
    have x3 := ext_cell p3 pl
    have x4 := ext_cell p4 pl
    have x5 := ext_cell p5 pl
    clear p0 p1 p2 p3 p4 p5
    have Z1 := Lib.hid fun (y : Ext w0.heap.size w0) => MY.out y.val (T0.out.below y.below)
    clear HROWS
    refine wp_region_ext w0.heap.size (by kernel_rfl) (by kernel_rfl) ?_
    repeat (go_big_quiet_step ((go_at_call 47; with_reducible exact ext_call _ (Nat.le_refl _) (Z1.out _))))
    refine wpQuiet_nil ?_
    rintro _ ⟨X, rfl⟩
    have hbX := X.below
    generalize X.val = w1 at *
    go_wp2_with fail
    go_ret
    exact ⟨by rw [HV.out]; rfl, below_then B0.out hbX⟩
  have hk : ((kind : Int) != 4) = false := by simp; omega
  have H1 := Lib.hid h1
  clear h1
  by_cases hl : n = 1
  case neg =>
    have hk2 : ((n : Int) != 1) = true := by simp; omega
    have hl2 : ¬ rows.length = 1 := by rw [← HN.out]; exact hl
    have HV := Lib.hid (show chkB ⟨kind, level, id, lsn, next, rows⟩ = 60 from by refine chkB_no ?_; unfold mapB; rw [← HM.out]; simp [hl2])
    obtain ⟨pl, p0, p1, p2, p3, p4, p5⟩ := P0.out.cells
    have x0 := ext_cell p0 pl
    have x1 := ext_cell p1 pl
    have x2 := ext_cell p2 pl
    have x3 := ext_cell p3 pl
    have x4 := ext_cell p4 pl
    have x5 := ext_cell p5 pl
    clear p0 p1 p2 p3 p4 p5
    have Z1 := Lib.hid fun (y : Ext w0.heap.size w0) => MY.out y.val (T0.out.below y.below)
    clear HROWS hl hl2
    refine wp_region_ext w0.heap.size (by kernel_rfl) (by kernel_rfl) ?_
    repeat (go_big_quiet_step ((go_at_call 47; with_reducible exact ext_call _ (Nat.le_refl _) (Z1.out _))))
    refine wpQuiet_nil ?_
    rintro _ ⟨X, rfl⟩
    have hbX := X.below
    generalize X.val = w1 at *
    go_wp2_with fail
    go_ret
    exact ⟨by rw [HV.out]; rfl, below_then B0.out hbX⟩
  subst hl
  obtain ⟨r, hr⟩ : ∃ r, rows = [r] := by
    match rows, HN.out with
    | [x], _ => exact ⟨x, rfl⟩
  subst hr
  obtain ⟨b, o, hA, hbl, hcell⟩ := HROWS.out (by simp)
  subst hA
  have c0 := keep_cell B0.out (hcell 0 (by simp))
  simp only [Nat.add_zero, List.getElem_cons_zero] at c0
  have HC := Lib.hid c0
  have hz : (⟨r.toArray⟩ : ByteArray).size = r.length := rfl
  clear hcell c0 HROWS
  by_cases hq : r.length = 128
  case neg =>
    have hk3 : ((r.length : Int) != 128) = true := by simp; omega
    have HV := Lib.hid (show chkB ⟨kind, level, id, lsn, next, [r]⟩ = 60 from by refine chkB_no ?_; unfold mapB mapRow; rw [← HM.out]; simp [hq])
    have y0 := ext_cell HC.out (cell_lt HC.out)
    obtain ⟨pl, p0, p1, p2, p3, p4, p5⟩ := P0.out.cells
    have x0 := ext_cell p0 pl
    have x1 := ext_cell p1 pl
    have x2 := ext_cell p2 pl
    have x3 := ext_cell p3 pl
    have x4 := ext_cell p4 pl
    have x5 := ext_cell p5 pl
    clear p0 p1 p2 p3 p4 p5
    have Z1 := Lib.hid fun (y : Ext w0.heap.size w0) => MY.out y.val (T0.out.below y.below)
    clear hq
    refine wp_region_ext w0.heap.size (by kernel_rfl) (by kernel_rfl) ?_
    repeat (go_big_quiet_step ((go_at_call 47; with_reducible exact ext_call _ (Nat.le_refl _) (Z1.out _))))
    refine wpQuiet_nil ?_
    rintro _ ⟨X, rfl⟩
    have hbX := X.below
    generalize X.val = w1 at *
    go_wp2_with fail
    go_ret
    exact ⟨by rw [HV.out]; rfl, below_then B0.out hbX⟩
  have hk3 : ((r.length : Int) != 128) = false := by simp; omega
  have hid := may_id HM.out
  simp only at hid
  obtain ⟨bt, hbt⟩ : ∃ bt, bt = bitB r (id - 1) := ⟨_, rfl⟩
  have Z2 := Lib.hid fun W => refBit_any r id W hq hid.1 hid.2
  rw [← hbt] at Z2
  have HBT := Lib.hid hbt
  have HQ := Lib.hid hq
  clear hbt hq
  cases bt
  case false =>
    have HV := Lib.hid (show chkB ⟨kind, level, id, lsn, next, [r]⟩ = 60 from by refine chkB_no ?_; unfold mapB mapRow; rw [← HM.out]; simp [← HBT.out])
    have y0 := ext_cell HC.out (cell_lt HC.out)
    obtain ⟨pl, p0, p1, p2, p3, p4, p5⟩ := P0.out.cells
    have x0 := ext_cell p0 pl
    have x1 := ext_cell p1 pl
    have x2 := ext_cell p2 pl
    have x3 := ext_cell p3 pl
    have x4 := ext_cell p4 pl
    have x5 := ext_cell p5 pl
    clear p0 p1 p2 p3 p4 p5
    have Z1 := Lib.hid fun (y : Ext w0.heap.size w0) => MY.out y.val (T0.out.below y.below)
    refine wp_region_ext w0.heap.size (by kernel_rfl) (by kernel_rfl) ?_
    repeat (go_big_quiet_step (first | (go_at_call 47; with_reducible exact ext_call _ (Nat.le_refl _) (Z1.out _)) | (go_at_call 94; with_reducible exact ext_same _ (Z2.out _))))
    refine wpQuiet_nil ?_
    rintro _ ⟨X, rfl⟩
    have hbX := X.below
    generalize X.val = w1 at *
    go_wp2_with fail
    go_ret
    exact ⟨by rw [HV.out]; rfl, below_then B0.out hbX⟩
  case true =>
    have HV := Lib.hid (show chkB ⟨kind, level, id, lsn, next, [r]⟩ = 0 from by unfold chkB mapB mapRow; rw [← HM.out]; simp [← HBT.out, H1.out, HQ.out])
    have y0 := ext_cell HC.out (cell_lt HC.out)
    obtain ⟨pl, p0, p1, p2, p3, p4, p5⟩ := P0.out.cells
    have x0 := ext_cell p0 pl
    have x1 := ext_cell p1 pl
    have x2 := ext_cell p2 pl
    have x3 := ext_cell p3 pl
    have x4 := ext_cell p4 pl
    have x5 := ext_cell p5 pl
    clear p0 p1 p2 p3 p4 p5
    have Z1 := Lib.hid fun (y : Ext w0.heap.size w0) => MY.out y.val (T0.out.below y.below)
    refine wp_region_ext w0.heap.size (by kernel_rfl) (by kernel_rfl) ?_
    repeat (go_big_quiet_step (first | (go_at_call 47; with_reducible exact ext_call _ (Nat.le_refl _) (Z1.out _)) | (go_at_call 94; with_reducible exact ext_same _ (Z2.out _))))
    refine wpQuiet_nil ?_
    rintro _ ⟨X, rfl⟩
    have hbX := X.below
    generalize X.val = w1 at *
    go_wp2_with fail
    go_ret
    exact ⟨by rw [HV.out]; rfl, below_then B0.out hbX⟩

end Go.Proofs.Ytienlhnbmobinaa
