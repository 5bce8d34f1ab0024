/- the law PageTells, walked -/
import Derived.Test.YtienlhnbmobinaaRows
import Derived.Test.YtienlhnbmobinaaNodeWeigh
import Derived.Test.YtienlhnbmobinaaAlive06
import Derived.Test.YtienlhnbmobinaaRefEnc06
import Derived.Test.YtienlhnbmobinaaPageTorn06
import Derived.Test.YtienlhnbmobinaaPageDecode
import Derived.Test.YtienlhnbmobinaaPageEncode
import Derived.Test.YtienlhnbmobinaaPageSame06
import Derived.Test.YtienlhnbmobinaaPagePlain
import Derived.Test.YtienlhnbmobinaaBase
import Derived.Test.YtienlhnbmobinaaPlains
import Derived.Test.YtienlhnbmobinaaTextsP
import Derived.Test.YtienlhnbmobinaaRefSeal
import Derived.Test.YtienlhnbmobinaaSum
import Derived.Deep.CutBlock
import Derived.WalkKit
import Derived.WalkLawsBesides
import Derived.WalkSpells
import Derived.LoopTactic
import Derived.WalkMore
import Derived.LoopN
import Derived.Laws.BitsAllLaws
import Derived.Laws.IdiomStrings
import Derived.BigQuiet
import Derived.Deep.QuietTactic
import Derived.Deep.DeepCutAuto
import Derived.Deep.RegionHeld3
import Derived.Deep.DrawnRows
import Derived.Lib.Hide
import Derived.Outline
import Derived.Deep.DeepMust
import Derived.Handy
namespace Go.Proofs.Ytienlhnbmobinaa
open Go.RowKit
set_option linter.unusedVariables false
set_option linter.unusedSimpArgs false

theorem refRoomB_any (p : Pg) (sv : Value) (w : World) (ht : TextsAt w sv p.rows) (hb : weightB p.rows ≤ 1000000) :
    Calls Try.prog 49 #[pgV p sv] w fun e w' => e = .returned (.int .i64 (roomB p.rows)) ∧ Below w.heap.size w w' := by
  have h := refRoom06_any p sv w ht hb
  rw [roomV_eq] at h
  exact h
set_option maxHeartbeats 8000000 in
set_option maxRecDepth 100000 in
theorem pageTellsLaw_any (p q : Pg) (sv tv : Value) (w : World) (hp : p.wf) (hq : q.wf) (ht : TextsAt w sv p.rows) (hu : TextsAt w tv q.rows) (hzp : ∀ r ∈ p.rows, r.length ≤ 140737488351232) (hzq : ∀ r ∈ q.rows, r.length ≤ 140737488351232) :
    Calls Try.prog 7 #[pgV p sv, pgV q tv] w fun e w' => e = .returned (.bool true) ∧ Below w.heap.size w w' := by
  have AL := Lib.hid fun W => alive06_any W
  have HV := Lib.hid fun W (h : TextsAt W sv p.rows) => heavy06_any p sv W h hzp
  have HW := Lib.hid fun W (h : TextsAt W tv q.rows) => heavy06_any q tv W h hzq
  have HP := Lib.hid hp
  have HQ := Lib.hid hq
  have HT := Lib.hid ht
  have HU := Lib.hid hu
  obtain ⟨n, hn⟩ : ∃ n, n = p.rows.length := ⟨_, rfl⟩
  obtain ⟨A, cp, hsv, h2, h3, h4, h5⟩ := ht
  rw [← hn] at hsv h2
  subst hsv
  obtain ⟨m, hm⟩ : ∃ m, m = q.rows.length := ⟨_, rfl⟩
  obtain ⟨B, cq, htv, k2, k3, k4, k5⟩ := hu
  rw [← hm] at htv k2
  subst htv
  clear h4 h5 k4 k5 hzp hzq hp hq
  have hwt := weight_heavy p.rows
  have hwu := weight_heavy q.rows
  obtain ⟨kind, level, id, lsn, next, rows⟩ := p
  obtain ⟨kind2, level2, id2, lsn2, next2, rows2⟩ := q
  have HN := Lib.hid hn
  have HM := Lib.hid hm
  simp only at HV HW HT HU HN HM hwt hwu ⊢
  obtain ⟨hv, hhv⟩ : ∃ k, k = heavyB rows := ⟨_, rfl⟩
  obtain ⟨hv2, hhv2⟩ : ∃ k, k = heavyB rows2 := ⟨_, rfl⟩
  rw [← hhv] at HV hwt
  rw [← hhv2] at HW hwu
  have wle : ¬ 4096 < hv → weightB rows ≤ 20000 ∧ rows.length ≤ 4096 := by omega
  have wle2 : ¬ 4096 < hv2 → weightB rows2 ≤ 20000 ∧ rows2.length ≤ 4096 := by omega
  have WL := Lib.hid wle
  have WM := Lib.hid wle2
  clear hhv hhv2 hwt hwu wle wle2 hn hm
  unfold pgV at HV HW ⊢
  simp only at HV HW ⊢
  unfold maxLen at h3 k3
  have P0 := Lib.hid ((PgBox.new w kind level id lsn next (.slice A n cp)).keep (.cells #[.int .u8 kind2, .int .u8 level2, .int .u32 id2, .int .u64 lsn2, .int .u32 next2, .slice B m cq] 26))
  have Q0 := Lib.hid (PgBox.new (w.alloc (.cells #[.int .u8 kind, .int .u8 level, .int .u32 id, .int .u64 lsn, .int .u32 next, .slice A n cp] 26)) kind2 level2 id2 lsn2 next2 (.slice B m cq))
  have hz1 : (w.alloc (.cells #[.int .u8 kind, .int .u8 level, .int .u32 id, .int .u64 lsn, .int .u32 next, .slice A n cp] 26)).heap.size = w.heap.size + 1 := by simp
  rw [hz1] at Q0
  clear hz1
  have B0 := Lib.hid ((alloc_below w (.cells #[.int .u8 kind, .int .u8 level, .int .u32 id, .int .u64 lsn, .int .u32 next, .slice A n cp] 26)).alloc (by simp) (.cells #[.int .u8 kind2, .int .u8 level2, .int .u32 id2, .int .u64 lsn2, .int .u32 next2, .slice B m cq] 26))
  go_enter Try.func7, Try.ntmps7
  go_upto_region 1 with fail
  generalize (w.alloc (.cells #[.int .u8 kind, .int .u8 level, .int .u32 id, .int .u64 lsn, .int .u32 next, .slice A n cp] 26)).alloc (.cells #[.int .u8 kind2, .int .u8 level2, .int .u32 id2, .int .u64 lsn2, .int .u32 next2, .slice B m cq] 26) = w0 at *
  have T0 := Lib.hid (HT.out.below B0.out)
  have U0 := Lib.hid (HU.out.below B0.out)
  obtain ⟨x0, x1, x2, x3, x4, x5, x6⟩ := P0.out.cells
  obtain ⟨y0, y1, y2, y3, y4, y5, y6⟩ := Q0.out.cells
  go_wp2_with fail
  clear x0 x1 x2 x3 x4 x5 x6 y0 y1 y2 y3 y4 y5 y6
  refine (HV.out _ T0.out).mono ?_
  rintro e w1 ⟨rfl, hb⟩
  have B1 := Lib.hid (below_then B0.out hb)
  have P1 := Lib.hid (P0.out.below hb)
  have Q1 := Lib.hid (Q0.out.below hb)
  have T1 := Lib.hid (T0.out.below hb)
  have U1 := Lib.hid (U0.out.below hb)
  clear hb B0 P0 Q0 T0 U0
  obtain ⟨x0, x1, x2, x3, x4, x5, x6⟩ := P1.out.cells
  obtain ⟨y0, y1, y2, y3, y4, y5, y6⟩ := Q1.out.cells
  by_cases hhhv : 4096 < hv
  case pos =>
    rw [decide_eq_true hhhv]
    go_wp2_with fail
    refine (AL.out _).mono ?_
    rintro e wa ⟨rfl, hba⟩
    have Ba := Lib.hid (below_then B1.out hba)
    clear hba
    go_wp2_with fail
    go_ret
    exact ⟨rfl, Ba.out⟩
  rw [decide_eq_false hhhv]
  clear x0 x1 x2 x3 x4 x5 x6 y0 y1 y2 y3 y4 y5 y6
  obtain ⟨x0, x1, x2, x3, x4, x5, x6⟩ := P1.out.cells
  obtain ⟨y0, y1, y2, y3, y4, y5, y6⟩ := Q1.out.cells
  go_wp2_with fail
  clear x0 x1 x2 x3 x4 x5 x6 y0 y1 y2 y3 y4 y5 y6
  refine (HW.out _ U1.out).mono ?_
  rintro e w2 ⟨rfl, hb⟩
  have B2 := Lib.hid (below_then B1.out hb)
  have P2 := Lib.hid (P1.out.below hb)
  have Q2 := Lib.hid (Q1.out.below hb)
  have T2 := Lib.hid (T1.out.below hb)
  have U2 := Lib.hid (U1.out.below hb)
  clear hb B1 P1 Q1 T1 U1
  obtain ⟨x0, x1, x2, x3, x4, x5, x6⟩ := P2.out.cells
  obtain ⟨y0, y1, y2, y3, y4, y5, y6⟩ := Q2.out.cells
  by_cases hhhv2 : 4096 < hv2
  case pos =>
    rw [decide_eq_true hhhv2]
    go_wp2_with fail
    refine (AL.out _).mono ?_
    rintro e wa ⟨rfl, hba⟩
    have Ba := Lib.hid (below_then B2.out hba)
    clear hba
    go_wp2_with fail
    go_ret
    exact ⟨rfl, Ba.out⟩
  rw [decide_eq_false hhhv2]
  clear x0 x1 x2 x3 x4 x5 x6 y0 y1 y2 y3 y4 y5 y6
  obtain ⟨wa1, wa2⟩ := WL.out hhhv
  obtain ⟨wb1, wb2⟩ := WM.out hhhv2
  have HWE := Lib.hid (show weightB rows ≤ 1000000 by omega)
  have C1 := Lib.hid fun W (hW : TextsAt W (.slice A n cp) rows) => pageEncode_any ⟨kind, level, id, lsn, next, rows⟩ (.slice A n cp) W HP.out hW HWE.out
  have C2 := Lib.hid fun W (hW : TextsAt W (.slice A n cp) rows) => refEncode06_any ⟨kind, level, id, lsn, next, rows⟩ (.slice A n cp) W HP.out hW HWE.out
  have C3 := Lib.hid fun W (hW : TextsAt W (.slice A n cp) rows) => pageMay_any ⟨kind, level, id, lsn, next, rows⟩ (.slice A n cp) W HP.out hW HWE.out
  have C4 := Lib.hid fun W (hW : TextsAt W (.slice A n cp) rows) => refMay06_any ⟨kind, level, id, lsn, next, rows⟩ (.slice A n cp) W HP.out hW HWE.out
  have C5 := Lib.hid fun W (hW : TextsAt W (.slice A n cp) rows) => pageRoom_any ⟨kind, level, id, lsn, next, rows⟩ (.slice A n cp) W hW HWE.out
  have C6 := Lib.hid fun W (hW : TextsAt W (.slice A n cp) rows) => refRoomB_any ⟨kind, level, id, lsn, next, rows⟩ (.slice A n cp) W hW HWE.out
  have C7 := Lib.hid fun W (hW : TextsAt W (.slice A n cp) rows) (hX : TextsAt W (.slice B m cq) rows2) => pageSame_any ⟨kind, level, id, lsn, next, rows⟩ ⟨kind2, level2, id2, lsn2, next2, rows2⟩ (.slice A n cp) (.slice B m cq) W hW hX (show rows.length ≤ 1000000 by omega) (show rows2.length ≤ 1000000 by omega)
  have C8 := Lib.hid fun W (hW : TextsAt W (.slice A n cp) rows) (hX : TextsAt W (.slice B m cq) rows2) => refSame06_any ⟨kind, level, id, lsn, next, rows⟩ ⟨kind2, level2, id2, lsn2, next2, rows2⟩ (.slice A n cp) (.slice B m cq) W hW hX
  generalize Pg.may ⟨kind, level, id, lsn, next, rows⟩ = mm at *
  generalize decide ((⟨kind, level, id, lsn, next, rows⟩ : Pg) = ⟨kind2, level2, id2, lsn2, next2, rows2⟩) = ee at *
  unfold pgV at C1 C2 C3 C4 C5 C6 C7 C8
  simp only at C1 C2 C3 C4 C5 C6 C7 C8
  generalize roomB rows = ro at *
  obtain ⟨⟨es, ec⟩, hR⟩ : ∃ R, R = pgEnc ⟨kind, level, id, lsn, next, rows⟩ := ⟨_, rfl⟩
  rw [← hR] at C1 C2
  simp only at C1 C2
  clear hR HV HW WL WM HP HQ HWE
  obtain ⟨x0, x1, x2, x3, x4, x5, x6⟩ := P2.out.cells
  obtain ⟨y0, y1, y2, y3, y4, y5, y6⟩ := Q2.out.cells
  go_wp2_with fail
  clear x0 x1 x2 x3 x4 x5 x6 y0 y1 y2 y3 y4 y5 y6
  refine (C1.out _ T2.out).mono ?_
  rintro e w3 ⟨rfl, hb⟩
  have B3 := Lib.hid (below_then B2.out hb)
  have P3 := Lib.hid (P2.out.below hb)
  have Q3 := Lib.hid (Q2.out.below hb)
  have T3 := Lib.hid (T2.out.below hb)
  have U3 := Lib.hid (U2.out.below hb)
  clear hb B2 P2 Q2 T2 U2
  obtain ⟨x0, x1, x2, x3, x4, x5, x6⟩ := P3.out.cells
  obtain ⟨y0, y1, y2, y3, y4, y5, y6⟩ := Q3.out.cells
  go_wp2_with fail
  clear x0 x1 x2 x3 x4 x5 x6 y0 y1 y2 y3 y4 y5 y6
  refine (C2.out _ T3.out).mono ?_
  rintro e w4 ⟨rfl, hb⟩
  have B4 := Lib.hid (below_then B3.out hb)
  have P4 := Lib.hid (P3.out.below hb)
  have Q4 := Lib.hid (Q3.out.below hb)
  have T4 := Lib.hid (T3.out.below hb)
  have U4 := Lib.hid (U3.out.below hb)
  clear hb B3 P3 Q3 T3 U3
  have e1 : (mm == mm) = true := by simp
  have e2 : (ee == ee) = true := by simp
  have e3 : (ro == ro) = true := by simp
  have e4 : (ec == ec) = true := by simp
  obtain ⟨x0, x1, x2, x3, x4, x5, x6⟩ := P4.out.cells
  obtain ⟨y0, y1, y2, y3, y4, y5, y6⟩ := Q4.out.cells
  go_upto_region 5 with fail
  have Z3 := Lib.hid fun (y : Ext w4.heap.size w4) => C3.out y.val (T4.out.below y.below)
  have Z4 := Lib.hid fun (y : Ext w4.heap.size w4) => C4.out y.val (T4.out.below y.below)
  have Z5 := Lib.hid fun (y : Ext w4.heap.size w4) => C5.out y.val (T4.out.below y.below)
  have Z6 := Lib.hid fun (y : Ext w4.heap.size w4) => C6.out y.val (T4.out.below y.below)
  have Z7 := Lib.hid fun (y : Ext w4.heap.size w4) => C7.out y.val (T4.out.below y.below) (U4.out.below y.below)
  have Z8 := Lib.hid fun (y : Ext w4.heap.size w4) => C8.out y.val (T4.out.below y.below) (U4.out.below y.below)
  have Z9 := Lib.hid fun (y : Ext w4.heap.size w4) => AL.out y.val
  clear x0 x1 x2 x3 x4 x5 x6 y0 y1 y2 y3 y4 y5 y6
  obtain ⟨pl, p0, p1, p2, p3, p4, p5⟩ := P4.out.cells
  obtain ⟨ql, q0, q1, q2, q3, q4, q5⟩ := Q4.out.cells
  have x0 := ext_cell p0 pl
  have x1 := ext_cell p1 pl
  have x2 := ext_cell p2 pl
  have x3 := ext_cell p3 pl
  have x4 := ext_cell p4 pl
  have x5 := ext_cell p5 pl
  have y0 := ext_cell q0 ql
  have y1 := ext_cell q1 ql
  have y2 := ext_cell q2 ql
  have y3 := ext_cell q3 ql
  have y4 := ext_cell q4 ql
  have y5 := ext_cell q5 ql
  clear p0 p1 p2 p3 p4 p5 q0 q1 q2 q3 q4 q5
  refine wp_region_ext w4.heap.size (by kernel_rfl) (by kernel_rfl) ?_
  repeat (go_big_quiet_step (first
    | (go_at_call 46; with_reducible exact ext_call _ (Nat.le_refl _) (Z3.out _))
    | (go_at_call 47; with_reducible exact ext_call _ (Nat.le_refl _) (Z4.out _))
    | (go_at_call 48; with_reducible exact ext_call _ (Nat.le_refl _) (Z5.out _))
    | (go_at_call 49; with_reducible exact ext_call _ (Nat.le_refl _) (Z6.out _))
    | (go_at_call 50; with_reducible exact ext_call _ (Nat.le_refl _) (Z7.out _))
    | (go_at_call 23; with_reducible exact ext_call _ (Nat.le_refl _) (Z8.out _))
    | (go_at_call 43; with_reducible exact ext_call _ (Nat.le_refl _) (Z9.out _))))
  refine wpQuiet_nil ?_
  rintro _ ⟨X, rfl⟩
  have hbX := X.below
  generalize X.val = w5 at *
  have B5 := Lib.hid (below_then B4.out hbX)
  go_wp2_with fail
  go_ret
  exact ⟨rfl, B5.out⟩

end Go.Proofs.Ytienlhnbmobinaa
