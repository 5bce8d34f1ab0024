/- OpTells: the walk -/
import Derived.Test.YtjcfnfpilladfaaRows
import Derived.Test.YtjcfnfpilladfaaAlive11
import Derived.Test.YtjcfnfpilladfaaAll11
import Derived.Test.YtjcfnfpilladfaaSizes11
import Derived.Test.YtjcfnfpilladfaaRefDec11
import Derived.Test.YtjcfnfpilladfaaRefEnc11
import Derived.Test.YtjcfnfpilladfaaRefMay11
import Derived.Test.YtjcfnfpilladfaaRefSame11
import Derived.Test.YtjcfnfpilladfaaOpRedo11
import Derived.Test.YtjcfnfpilladfaaOpDec
import Derived.Test.YtjcfnfpilladfaaOpEnc
import Derived.Test.YtjcfnfpilladfaaOpSame
import Derived.Test.YtjcfnfpilladfaaOpApply
import Derived.Test.YtjcfnfpilladfaaOpDoesMap
import Derived.Test.YtjcfnfpilladfaaOpDoes
import Derived.Test.YtjcfnfpilladfaaRefBytes11
import Derived.Test.YtjcfnfpilladfaaOpLaw
import Derived.Test.YtjcfnfpilladfaaOpIn
import Derived.Test.YtjcfnfpilladfaaHeavy11
import Derived.Test.YtjcfnfpilladfaaOpPlain
import Derived.Test.YtjcfnfpilladfaaOpPart
import Derived.Test.YtjcfnfpilladfaaTextsMove
import Derived.Test.YtjcfnfpilladfaaTextsP
import Derived.Test.YtjcfnfpilladfaaPlains
import Derived.Test.YtjcfnfpilladfaaBase
import Derived.Test.YtjcfnfpilladfaaNodeWeigh
import Derived.Deep.CutBlock
import Derived.WalkKit
import Derived.WalkLawsBesides
import Derived.WalkSpells
import Derived.LoopTactic
import Derived.WalkMore
import Derived.LoopN
import Derived.Laws.BitsAllLaws
import Derived.Laws.IdiomStrings
import Derived.BigQuiet
import Derived.Deep.QuietTactic
import Derived.Deep.DeepCutAuto
import Derived.Deep.RegionHeld3
import Derived.Deep.DrawnRows
import Derived.Lib.Hide
import Derived.Outline
import Derived.Deep.DeepMust
import Derived.Handy
namespace Go.Proofs.Ytjcfnfpilladfaa
open Go.RowKit
set_option linter.unusedVariables false
set_option linter.unusedSimpArgs false

theorem small_of {o : Od} (h : sizeN o ≤ 4096) : o.small := by
  unfold sizeN at h
  have h1 := (weight_heavy o.rows).2
  refine ⟨by omega, by omega, fun r hr => ?_⟩
  have h2 : ∀ (rs : List (List UInt8)), r ∈ rs → r.length ≤ heavyB rs := by
    intro rs
    induction rs with
    | nil => intro h; cases h
    | cons x xs ih =>
      intro h
      have e : heavyB (x :: xs) = 1 + x.length + heavyB xs := by simp [heavyB]
      rcases List.mem_cons.1 h with rfl | h
      · omega
      · have := ih h; omega
  have := h2 o.rows hr
  omega
theorem sizes_mem {L : List Ov} (h : sizesN (L.map Ov.o) ≤ 4096) : L.length ≤ 4096 ∧ ∀ e ∈ L, sizeN e.o ≤ 4096 := by
  induction L with
  | nil => exact ⟨Nat.zero_le _, fun e he => by cases he⟩
  | cons x xs ih =>
    have e : sizesN ((x :: xs).map Ov.o) = sizeN x.o + sizesN (xs.map Ov.o) := by simp [sizesN]
    rw [e] at h
    obtain ⟨h1, h2⟩ := ih (by omega)
    have h3 : 1 ≤ sizeN x.o := by unfold sizeN; omega
    have h4 : xs.length ≤ sizesN (xs.map Ov.o) := by
      clear ih h h1 h2 e
      induction xs with
      | nil => exact Nat.zero_le _
      | cons y ys ih =>
        have e : sizesN ((y :: ys).map Ov.o) = sizeN y.o + sizesN (ys.map Ov.o) := by simp [sizesN]
        have : 1 ≤ sizeN y.o := by unfold sizeN; omega
        rw [e, List.length_cons]
        omega
    refine ⟨by rw [List.length_cons]; omega, fun y hy => ?_⟩
    rcases List.mem_cons.1 hy with rfl | hy
    · omega
    · exact h2 y hy
set_option maxHeartbeats 4000000 in
set_option maxRecDepth 100000 in
theorem opTells_true (v : Value) (L : List Ov) (a b : Od) (sa sb : Value) (l : List UInt8) (w : World) (hL : OpsAt w v L) (hLw : ∀ e ∈ L, e.o.wf ∧ e.o.lens 140737488351232) (ha : TextsAt w sa a.rows) (hb : TextsAt w sb b.rows) (haw : a.wf) (hbw : b.wf) (hal : a.lens 140737488351232) (hbl : b.lens 140737488351232) (hs : l.length ≤ maxLen) :
    Calls Try.prog 3 #[v, odV a sa, odV b sb, .string ⟨l.toArray⟩] w fun e w' => e = .returned (.bool true) ∧ Below w.heap.size w w' := by
  have HH := Lib.hid fun W (h : OpsAt W v L) => heavy11_any v L W h (fun e he => (hLw e he).2)
  have SA := Lib.hid fun W (h : TextsAt W sa a.rows) => sizeA_any a sa W h hal
  have SB := Lib.hid fun W (h : TextsAt W sb b.rows) => sizeA_any b sb W h hbl
  have LA := sizeA_law a hal
  have LB := sizeA_law b hbl
  unfold SizeAns at LA LB
  obtain ⟨na, hna⟩ : ∃ k, k = sizeA a := ⟨_, rfl⟩
  obtain ⟨nb, hnb⟩ : ∃ k, k = sizeA b := ⟨_, rfl⟩
  rw [← hna] at SA LA
  rw [← hnb] at SB LB
  obtain ⟨la1, la2, la3, la4⟩ := LA
  obtain ⟨lb1, lb2, lb3, lb4⟩ := LB
  have LA3 := Lib.hid la4
  have LB3 := Lib.hid lb4
  obtain ⟨hv, hhv⟩ : ∃ k, k = sizesN (L.map Ov.o) := ⟨_, rfl⟩
  have HHV := Lib.hid hhv
  rw [← hhv] at HH
  clear la3 la4 lb3 lb4 hna hnb hhv
  have AL := Lib.hid fun W => alive11_any W
  have HL := Lib.hid hL
  have HA := Lib.hid ha
  have HB := Lib.hid hb
  have HLW := Lib.hid hLw
  have HAW := Lib.hid haw
  have HBW := Lib.hid hbw
  obtain ⟨VA, vcp, hvv, _⟩ := (id hL)
  obtain ⟨vn, hvn⟩ : ∃ k, k = L.length := ⟨_, rfl⟩
  rw [← hvn] at hvv
  subst hvv
  have HVN := Lib.hid hvn
  clear hvn
  obtain ⟨A, cp, rfl, _⟩ := ha
  obtain ⟨A2, cp2, rfl, _⟩ := hb
  obtain ⟨n, hnn⟩ : ∃ n, n = a.rows.length := ⟨_, rfl⟩
  obtain ⟨m, hmm⟩ : ∃ m, m = b.rows.length := ⟨_, rfl⟩
  rw [← hnn] at HA SA ⊢
  rw [← hmm] at HB SB ⊢
  clear hL hLw haw hbw hal hbl hnn hmm
  obtain ⟨P0, P1, B0⟩ := two_boxes w a b (.slice A n cp) (.slice A2 m cp2)
  have B0 := Lib.hid B0
  unfold odV at SA SB ⊢
  unfold maxLen at hs
  go_enter Try.func3, Try.ntmps3
  have hz : (⟨l.toArray⟩ : ByteArray).size = l.length := by simp [ByteArray.size]
  go_upto_region 1 with fail
  generalize (w.alloc (.cells #[.int .u8 a.kind, .int .u32 a.page, .int .i64 a.at_, .int .i64 a.off, .string ⟨a.text.toArray⟩, .slice A n cp, .int .u8 a.pk, .int .u8 a.lv, .int .u32 a.nx] 26)).alloc (.cells #[.int .u8 b.kind, .int .u32 b.page, .int .i64 b.at_, .int .i64 b.off, .string ⟨b.text.toArray⟩, .slice A2 m cp2, .int .u8 b.pk, .int .u8 b.lv, .int .u32 b.nx] 26) = w0 at *
  obtain ⟨x0, x1, x2, x3, x4, x5, x6, x7, x8⟩ := P0.cells
  obtain ⟨y0, y1, y2, y3, y4, y5, y6, y7, y8⟩ := P1.cells
  have KC := Lib.hid fun W (hW : Below w0.heap.size w0 W) => (⟨keep_cell hW x0, keep_cell hW x1, keep_cell hW x2, keep_cell hW x3, keep_cell hW x4, keep_cell hW x5, keep_cell hW x6, keep_cell hW x7, keep_cell hW x8, keep_cell hW y0, keep_cell hW y1, keep_cell hW y2, keep_cell hW y3, keep_cell hW y4, keep_cell hW y5, keep_cell hW y6, keep_cell hW y7, keep_cell hW y8⟩ : W.cell? ⟨w.heap.size, 0, none⟩ = some (.int .u8 a.kind) ∧ W.cell? ⟨w.heap.size, 1, none⟩ = some (.int .u32 a.page) ∧ W.cell? ⟨w.heap.size, 2, none⟩ = some (.int .i64 a.at_) ∧ W.cell? ⟨w.heap.size, 3, none⟩ = some (.int .i64 a.off) ∧ W.cell? ⟨w.heap.size, 4, none⟩ = some (.string ⟨a.text.toArray⟩) ∧ W.cell? ⟨w.heap.size, 5, none⟩ = some (.slice A n cp) ∧ W.cell? ⟨w.heap.size, 6, none⟩ = some (.int .u8 a.pk) ∧ W.cell? ⟨w.heap.size, 7, none⟩ = some (.int .u8 a.lv) ∧ W.cell? ⟨w.heap.size, 8, none⟩ = some (.int .u32 a.nx) ∧ W.cell? ⟨w.heap.size + 1, 0, none⟩ = some (.int .u8 b.kind) ∧ W.cell? ⟨w.heap.size + 1, 1, none⟩ = some (.int .u32 b.page) ∧ W.cell? ⟨w.heap.size + 1, 2, none⟩ = some (.int .i64 b.at_) ∧ W.cell? ⟨w.heap.size + 1, 3, none⟩ = some (.int .i64 b.off) ∧ W.cell? ⟨w.heap.size + 1, 4, none⟩ = some (.string ⟨b.text.toArray⟩) ∧ W.cell? ⟨w.heap.size + 1, 5, none⟩ = some (.slice A2 m cp2) ∧ W.cell? ⟨w.heap.size + 1, 6, none⟩ = some (.int .u8 b.pk) ∧ W.cell? ⟨w.heap.size + 1, 7, none⟩ = some (.int .u8 b.lv) ∧ W.cell? ⟨w.heap.size + 1, 8, none⟩ = some (.int .u32 b.nx))
  have hz0 := B0.out.size
  have BW := Lib.hid fun W (hW : Below w0.heap.size w0 W) => B0.out.trans (hW.mono hz0)
  clear P0 P1 x0 x1 x2 x3 x4 x5 x6 x7 x8 y0 y1 y2 y3 y4 y5 y6 y7 y8
  obtain ⟨big, hbig⟩ : ∃ b, b = (decide (4096 < hv) || (decide (4096 < na + nb) || decide (4096 < l.length))) := ⟨_, rfl⟩
  have HBIG := Lib.hid hbig
  clear hbig
  have hcur := Lib.hid ((Below.refl w0.heap.size w0).drew)
  go_cut [31] (fun s w' => s = .bool big ∧ Hid (Below w0.heap.size w0 w'))
  case first =>
    by_cases h1 : 4096 < hv
    · have HX : Hid (big = true) := by show _ = _; rw [HBIG.out, decide_eq_true h1]; rfl
      rw [decide_eq_true h1] at HH
      clear h1
      have HHx := Lib.hid fun (y : Ext w0.heap.size w0) => HH.out y.val (HL.out.below (BW.out _ y.below))
      refine wp_region_ext w0.heap.size (by kernel_rfl) (by kernel_rfl) ?_
      repeat (go_big_quiet_step (first
          | (go_at_call 13; exact ext_call _ (Nat.le_refl _) (HHx.out _))))
      refine wpQuiet_nil ?_
      rintro _ ⟨X, rfl⟩
      have HXB := Lib.hid X.below
      generalize X.val = w9 at *
      go_wp2_with fail
      go_meet
      exact ⟨by rw [HX.out], HXB⟩
    · rw [decide_eq_false h1] at HH
      have wn : IntKind.i64.wrap ((na : Int) + (nb : Int)) = (na : Int) + (nb : Int) := IntWalk.i64_in _ ⟨by omega, by omega⟩
      by_cases h2 : 4096 < na + nb
      · have HX : Hid (big = true) := by show _ = _; rw [HBIG.out, decide_eq_true h2]; simp
        have h2d : decide ((4096 : Int) < (na : Int) + (nb : Int)) = true := decide_eq_true (by omega)
        have HHx := Lib.hid fun (y : Ext w0.heap.size w0) => HH.out y.val (HL.out.below (BW.out _ y.below))
        have SAx := Lib.hid fun (y : Ext w0.heap.size w0) => SA.out y.val (HA.out.below (BW.out _ y.below))
        have SBx := Lib.hid fun (y : Ext w0.heap.size w0) => SB.out y.val (HB.out.below (BW.out _ y.below))
        have KX := fun (y : Ext w0.heap.size w0) => KC.out y.val y.below
        refine wp_region_ext w0.heap.size (by kernel_rfl) (by kernel_rfl) ?_
        repeat (go_big_quiet_step (first
            | (go_at_call 13; exact ext_call _ (Nat.le_refl _) (HHx.out _))
            | (go_at_call_of 14 (Value.agg #[.int .u8 a.kind, .int .u32 a.page, .int .i64 a.at_, .int .i64 a.off, .string ⟨a.text.toArray⟩, .slice A n cp, .int .u8 a.pk, .int .u8 a.lv, .int .u32 a.nx]); exact ext_call _ (Nat.le_refl _) (SAx.out _))
            | (go_at_call_of 14 (Value.agg #[.int .u8 b.kind, .int .u32 b.page, .int .i64 b.at_, .int .i64 b.off, .string ⟨b.text.toArray⟩, .slice A2 m cp2, .int .u8 b.pk, .int .u8 b.lv, .int .u32 b.nx]); exact ext_call _ (Nat.le_refl _) (SBx.out _))))
        refine wpQuiet_nil ?_
        rintro _ ⟨X, rfl⟩
        have HXB := Lib.hid X.below
        generalize X.val = w9 at *
        go_wp2_with fail
        go_meet
        exact ⟨by rw [HX.out], HXB⟩
      · have h2d : decide ((4096 : Int) < (na : Int) + (nb : Int)) = false := decide_eq_false (by omega)
        by_cases h3 : 4096 < l.length
        · have HX : Hid (big = true) := by show _ = _; rw [HBIG.out, decide_eq_true h3]; simp
          have h3d : decide ((4096 : Int) < (l.length : Int)) = true := decide_eq_true (by omega)
          go_region_held3 (fun W => W.cell? ⟨w.heap.size, 0, none⟩ = some (.int .u8 a.kind) ∧ W.cell? ⟨w.heap.size, 1, none⟩ = some (.int .u32 a.page) ∧ W.cell? ⟨w.heap.size, 2, none⟩ = some (.int .i64 a.at_) ∧ W.cell? ⟨w.heap.size, 3, none⟩ = some (.int .i64 a.off) ∧ W.cell? ⟨w.heap.size, 4, none⟩ = some (.string ⟨a.text.toArray⟩) ∧ W.cell? ⟨w.heap.size, 5, none⟩ = some (.slice A n cp) ∧ W.cell? ⟨w.heap.size, 6, none⟩ = some (.int .u8 a.pk) ∧ W.cell? ⟨w.heap.size, 7, none⟩ = some (.int .u8 a.lv) ∧ W.cell? ⟨w.heap.size, 8, none⟩ = some (.int .u32 a.nx) ∧ W.cell? ⟨w.heap.size + 1, 0, none⟩ = some (.int .u8 b.kind) ∧ W.cell? ⟨w.heap.size + 1, 1, none⟩ = some (.int .u32 b.page) ∧ W.cell? ⟨w.heap.size + 1, 2, none⟩ = some (.int .i64 b.at_) ∧ W.cell? ⟨w.heap.size + 1, 3, none⟩ = some (.int .i64 b.off) ∧ W.cell? ⟨w.heap.size + 1, 4, none⟩ = some (.string ⟨b.text.toArray⟩) ∧ W.cell? ⟨w.heap.size + 1, 5, none⟩ = some (.slice A2 m cp2) ∧ W.cell? ⟨w.heap.size + 1, 6, none⟩ = some (.int .u8 b.pk) ∧ W.cell? ⟨w.heap.size + 1, 7, none⟩ = some (.int .u8 b.lv) ∧ W.cell? ⟨w.heap.size + 1, 8, none⟩ = some (.int .u32 b.nx))
            (first
              | (with_reducible exact KC.out _ hcur.out))
            (first
              | (go_at_call 13; refine (HH.out _ (HL.out.below (BW.out _ hcur.out))).mono ?_; rintro e wx ⟨rfl, hb0⟩; have hcur := Lib.hid (below_then hcur.out hb0); clear hb0)
              | (go_at_call_of 14 (Value.agg #[.int .u8 a.kind, .int .u32 a.page, .int .i64 a.at_, .int .i64 a.off, .string ⟨a.text.toArray⟩, .slice A n cp, .int .u8 a.pk, .int .u8 a.lv, .int .u32 a.nx]); refine (SA.out _ (HA.out.below (BW.out _ hcur.out))).mono ?_; rintro e wx ⟨rfl, hb0⟩; have hcur := Lib.hid (below_then hcur.out hb0); clear hb0)
              | (go_at_call_of 14 (Value.agg #[.int .u8 b.kind, .int .u32 b.page, .int .i64 b.at_, .int .i64 b.off, .string ⟨b.text.toArray⟩, .slice A2 m cp2, .int .u8 b.pk, .int .u8 b.lv, .int .u32 b.nx]); refine (SB.out _ (HB.out.below (BW.out _ hcur.out))).mono ?_; rintro e wx ⟨rfl, hb0⟩; have hcur := Lib.hid (below_then hcur.out hb0); clear hb0))
          go_wp2_with fail
          go_meet
          exact ⟨by rw [HX.out], hcur⟩
        · have HX : Hid (big = false) := by show _ = _; rw [HBIG.out, decide_eq_false h1, decide_eq_false h2, decide_eq_false h3]; rfl
          have h3d : decide ((4096 : Int) < (l.length : Int)) = false := decide_eq_false (by omega)
          go_region_held3 (fun W => W.cell? ⟨w.heap.size, 0, none⟩ = some (.int .u8 a.kind) ∧ W.cell? ⟨w.heap.size, 1, none⟩ = some (.int .u32 a.page) ∧ W.cell? ⟨w.heap.size, 2, none⟩ = some (.int .i64 a.at_) ∧ W.cell? ⟨w.heap.size, 3, none⟩ = some (.int .i64 a.off) ∧ W.cell? ⟨w.heap.size, 4, none⟩ = some (.string ⟨a.text.toArray⟩) ∧ W.cell? ⟨w.heap.size, 5, none⟩ = some (.slice A n cp) ∧ W.cell? ⟨w.heap.size, 6, none⟩ = some (.int .u8 a.pk) ∧ W.cell? ⟨w.heap.size, 7, none⟩ = some (.int .u8 a.lv) ∧ W.cell? ⟨w.heap.size, 8, none⟩ = some (.int .u32 a.nx) ∧ W.cell? ⟨w.heap.size + 1, 0, none⟩ = some (.int .u8 b.kind) ∧ W.cell? ⟨w.heap.size + 1, 1, none⟩ = some (.int .u32 b.page) ∧ W.cell? ⟨w.heap.size + 1, 2, none⟩ = some (.int .i64 b.at_) ∧ W.cell? ⟨w.heap.size + 1, 3, none⟩ = some (.int .i64 b.off) ∧ W.cell? ⟨w.heap.size + 1, 4, none⟩ = some (.string ⟨b.text.toArray⟩) ∧ W.cell? ⟨w.heap.size + 1, 5, none⟩ = some (.slice A2 m cp2) ∧ W.cell? ⟨w.heap.size + 1, 6, none⟩ = some (.int .u8 b.pk) ∧ W.cell? ⟨w.heap.size + 1, 7, none⟩ = some (.int .u8 b.lv) ∧ W.cell? ⟨w.heap.size + 1, 8, none⟩ = some (.int .u32 b.nx))
            (first
              | (with_reducible exact KC.out _ hcur.out))
            (first
              | (go_at_call 13; refine (HH.out _ (HL.out.below (BW.out _ hcur.out))).mono ?_; rintro e wx ⟨rfl, hb0⟩; have hcur := Lib.hid (below_then hcur.out hb0); clear hb0)
              | (go_at_call_of 14 (Value.agg #[.int .u8 a.kind, .int .u32 a.page, .int .i64 a.at_, .int .i64 a.off, .string ⟨a.text.toArray⟩, .slice A n cp, .int .u8 a.pk, .int .u8 a.lv, .int .u32 a.nx]); refine (SA.out _ (HA.out.below (BW.out _ hcur.out))).mono ?_; rintro e wx ⟨rfl, hb0⟩; have hcur := Lib.hid (below_then hcur.out hb0); clear hb0)
              | (go_at_call_of 14 (Value.agg #[.int .u8 b.kind, .int .u32 b.page, .int .i64 b.at_, .int .i64 b.off, .string ⟨b.text.toArray⟩, .slice A2 m cp2, .int .u8 b.pk, .int .u8 b.lv, .int .u32 b.nx]); refine (SB.out _ (HB.out.below (BW.out _ hcur.out))).mono ?_; rintro e wx ⟨rfl, hb0⟩; have hcur := Lib.hid (below_then hcur.out hb0); clear hb0))
          go_wp2_with fail
          go_meet
          exact ⟨by rw [HX.out], hcur⟩
  case rest =>
    obtain ⟨hs9, hbc⟩ := hcut
    subst hs9
    clear hcur SA SB HH
    cases hbb : big with
    | true =>
      go_wp2_with fail
      refine (AL.out _).mono ?_
      rintro e wa ⟨rfl, hba⟩
      have Ba := Lib.hid (BW.out _ (below_then hbc.out hba))
      clear hba
      go_wp2_with fail
      go_ret
      exact ⟨rfl, Ba.out⟩
    | false =>
      have hbg := HBIG.out
      rw [hbb, eq_comm, Bool.or_eq_false_iff, Bool.or_eq_false_iff, decide_eq_false_iff_not, decide_eq_false_iff_not, decide_eq_false_iff_not] at hbg
      obtain ⟨g1, g2, g3⟩ := hbg
      have hsm := sizes_mem (L := L) (by rw [← HHV.out]; omega)
      have hsa : a.small := small_of (Nat.not_lt.1 fun h => by have := LA3.out h; omega)
      have hsb : b.small := small_of (Nat.not_lt.1 fun h => by have := LB3.out h; omega)
      have E1 := Lib.hid fun W (h : OpsAt W (.slice VA vn vcp) L) => opEncode_any (.slice VA vn vcp) L W h (fun e he => (HLW.out e he).1) (fun e he => small_of (hsm.2 e he)) (by omega)
      have E2 := Lib.hid fun W (h : OpsAt W (.slice VA vn vcp) L) => refEncode11_any (.slice VA vn vcp) L W h (fun e he => (HLW.out e he).1) (fun e he => small_of (hsm.2 e he)) (by omega)
      have F1 := Lib.hid fun W => opDecode_any l W (by omega)
      have F2 := Lib.hid fun W => refDecode11_any l W (by omega)
      have MY := Lib.hid fun W (h : TextsAt W (.slice A n cp) a.rows) => opMay_any a (.slice A n cp) W h HAW.out hsa
      have MR := Lib.hid fun W (h : TextsAt W (.slice A n cp) a.rows) => refMay11_any a (.slice A n cp) W h hsa
      have SM := Lib.hid fun W (h : TextsAt W (.slice A n cp) a.rows) (h2 : TextsAt W (.slice A2 m cp2) b.rows) => opSame_any a b (.slice A n cp) (.slice A2 m cp2) W h h2 (by have := hsa.2.1; omega) (by have := hsb.2.1; omega)
      have SR := Lib.hid fun W (h : TextsAt W (.slice A n cp) a.rows) (h2 : TextsAt W (.slice A2 m cp2) b.rows) => refSame11_any a b (.slice A n cp) (.slice A2 m cp2) W h h2
      unfold odV at MY MR SM SR
      generalize encL (L.map Ov.o) = EE at *
      obtain ⟨eb, ee⟩ := EE
      generalize a.may = my at *
      generalize decide (a = b) = sm at *
      have hm9 : (my == my) = true := by simp
      have hs9 : (sm == sm) = true := by simp
      clear hbb hsm hsa hsb g1 g2 g3 HBIG LA3 LB3 HHV HLW HAW HBW
      have BC := Lib.hid (BW.out _ hbc.out)
      go_wp2_with fail
      refine (E1.out _ (HL.out.below BC.out)).mono ?_
      rintro e1 w1 ⟨rfl, hb1⟩
      have c1 := Lib.hid (below_then hbc.out hb1)
      have C1 := Lib.hid (BW.out _ c1.out)
      clear hb1 E1
      go_wp2_with fail
      refine (E2.out _ (HL.out.below C1.out)).mono ?_
      rintro e1 w2 ⟨rfl, hb1⟩
      have c2 := Lib.hid (below_then c1.out hb1)
      have C2 := Lib.hid (BW.out _ c2.out)
      clear hb1 E2 c1 C1
      go_wp2_with fail
      refine (F1.out _).mono ?_
      rintro e1 w3 ⟨v1, L1, rfl, ho1, hm1, hb1⟩
      have c3 := Lib.hid (below_then c2.out hb1)
      have A1 := Lib.hid ho1.at_
      clear hb1 F1 c2 C2 ho1
      go_wp2_with fail
      refine (F2.out _).mono ?_
      rintro e1 w4 ⟨v2, L2, rfl, ho2, hm2, hb1⟩
      have c4 := Lib.hid (below_then c3.out hb1)
      have A1 := Lib.hid (A1.out.below hb1)
      have A2' := Lib.hid ho2.at_
      have hall : decide (L1.map Ov.o = L2.map Ov.o) = true := decide_eq_true (by rw [hm1, hm2])
      have AX := Lib.hid fun W (h1 : OpsAt W v1 L1) (h2 : OpsAt W v2 L2) => all11_any v1 v2 L1 L2 W h1 h2
      rw [hall] at AX
      obtain ⟨V1, vc1, e1, _⟩ := (id A1.out)
      obtain ⟨V2, vc2, e2, _⟩ := (id A2'.out)
      obtain ⟨l1, hl1⟩ : ∃ k, k = L1.length := ⟨_, rfl⟩
      obtain ⟨l2, hl2⟩ : ∃ k, k = L2.length := ⟨_, rfl⟩
      rw [← hl1] at e1
      rw [← hl2] at e2
      have HL1 := Lib.hid hl1
      have HL2 := Lib.hid hl2
      subst e1 e2
      clear hl1 hl2 hb1 F2 c3 ho2 hm1 hm2 hall BC hbc
      generalize decE l = de at *
      have d0 : (de == de) = true := by simp
      have d1 : (ee == ee) = true := by simp
      have d2 : ((⟨eb.toArray⟩ : ByteArray).toList == (⟨eb.toArray⟩ : ByteArray).toList) = true := by simp
      have AXx := Lib.hid fun (y : Ext w4.heap.size w4) => AX.out y.val (A1.out.below y.below) (A2'.out.below y.below)
      have BWx := Lib.hid fun (y : Ext w4.heap.size w4) => BW.out y.val (c4.out.trans (y.below.mono c4.out.size))
      have MYx := Lib.hid fun (y : Ext w4.heap.size w4) => MY.out y.val (HA.out.below (BWx.out y))
      have MRx := Lib.hid fun (y : Ext w4.heap.size w4) => MR.out y.val (HA.out.below (BWx.out y))
      have SMx := Lib.hid fun (y : Ext w4.heap.size w4) => SM.out y.val (HA.out.below (BWx.out y)) (HB.out.below (BWx.out y))
      have SRx := Lib.hid fun (y : Ext w4.heap.size w4) => SR.out y.val (HA.out.below (BWx.out y)) (HB.out.below (BWx.out y))
      have ALx := Lib.hid fun (y : Ext w4.heap.size w4) => AL.out y.val
      have KX := fun (y : Ext w4.heap.size w4) => KC.out y.val (c4.out.trans (y.below.mono c4.out.size))
      clear KC AX MY MR SM SR A1 A2'
      go_upto_region 7 with fail
      refine wp_region_ext w4.heap.size (by kernel_rfl) (by kernel_rfl) ?_
      repeat (go_big_quiet_step (first
        | (go_at_call 20; exact ext_call _ (Nat.le_refl _) (AXx.out _))
        | (go_at_call 21; exact ext_call _ (Nat.le_refl _) (MYx.out _))
        | (go_at_call 22; exact ext_call _ (Nat.le_refl _) (MRx.out _))
        | (go_at_call 23; exact ext_call _ (Nat.le_refl _) (SMx.out _))
        | (go_at_call 24; exact ext_call _ (Nat.le_refl _) (SRx.out _))
        | (go_at_call 15; exact ext_call _ (Nat.le_refl _) (ALx.out _))))
      refine wpQuiet_nil ?_
      rintro _ ⟨X, rfl⟩
      have HXB := Lib.hid (BWx.out X)
      generalize X.val = w9 at *
      go_wp2_with fail
      go_ret
      exact ⟨rfl, HXB.out⟩

end Go.Proofs.Ytjcfnfpilladfaa
