/- OpApplies: the walk -/
import Derived.Test.YtienlhnbmobinaaRows
import Derived.Test.YtienlhnbmobinaaRefRedo
import Derived.Test.YtienlhnbmobinaaRefApply
import Derived.Test.YtienlhnbmobinaaAlive11
import Derived.Test.YtienlhnbmobinaaOpRedo11
import Derived.Test.YtienlhnbmobinaaOpApply
import Derived.Test.YtienlhnbmobinaaTextsBack
import Derived.Test.YtienlhnbmobinaaOpIn
import Derived.Test.YtienlhnbmobinaaOpLaw
import Derived.Test.YtienlhnbmobinaaOpEnc
import Derived.Test.YtienlhnbmobinaaOpDec
import Derived.Test.YtienlhnbmobinaaSizes11
import Derived.Test.YtienlhnbmobinaaHeavy11
import Derived.Test.YtienlhnbmobinaaOpPlain
import Derived.Test.YtienlhnbmobinaaOpPart
import Derived.Test.YtienlhnbmobinaaTextsMove
import Derived.Test.YtienlhnbmobinaaTextsP
import Derived.Test.YtienlhnbmobinaaPlains
import Derived.Test.YtienlhnbmobinaaBase
import Derived.Test.YtienlhnbmobinaaNodeWeigh
import Derived.Deep.CutBlock
import Derived.Deep.RegionHeld
import Derived.WalkKit
import Derived.WalkLawsBesides
import Derived.WalkSpells
import Derived.LoopTactic
import Derived.WalkMore
import Derived.LoopN
import Derived.Laws.BitsAllLaws
import Derived.Laws.IdiomStrings
import Derived.BigQuiet
import Derived.Deep.QuietTactic
import Derived.Deep.DeepCutAuto
import Derived.Deep.RegionHeld3
import Derived.Deep.DrawnRows
import Derived.Lib.Hide
import Derived.Outline
import Derived.Deep.DeepMust
import Derived.Handy
namespace Go.Proofs.Ytienlhnbmobinaa
open Go.RowKit
set_option linter.unusedVariables false
set_option linter.unusedSimpArgs false

theorem small_of {o : Od} (h : sizeN o ≤ 4096) : o.small := by
  unfold sizeN at h
  have h1 := (weight_heavy o.rows).2
  refine ⟨by omega, by omega, fun r hr => ?_⟩
  have h2 : ∀ (rs : List (List UInt8)), r ∈ rs → r.length ≤ heavyB rs := by
    intro rs
    induction rs with
    | nil => intro h; cases h
    | cons x xs ih =>
      intro h
      have e : heavyB (x :: xs) = 1 + x.length + heavyB xs := by simp [heavyB]
      rcases List.mem_cons.1 h with rfl | h
      · omega
      · have := ih h; omega
  have := h2 o.rows hr
  omega
theorem sizes_mem {L : List Ov} (h : sizesN (L.map Ov.o) ≤ 4096) : L.length ≤ 4096 ∧ ∀ e ∈ L, sizeN e.o ≤ 4096 := by
  induction L with
  | nil => exact ⟨Nat.zero_le _, fun e he => by cases he⟩
  | cons x xs ih =>
    have e : sizesN ((x :: xs).map Ov.o) = sizeN x.o + sizesN (xs.map Ov.o) := by simp [sizesN]
    rw [e] at h
    obtain ⟨h1, h2⟩ := ih (by omega)
    have h3 : 1 ≤ sizeN x.o := by unfold sizeN; omega
    have h4 : xs.length ≤ sizesN (xs.map Ov.o) := by
      clear ih h h1 h2 e
      induction xs with
      | nil => exact Nat.zero_le _
      | cons y ys ih =>
        have e : sizesN ((y :: ys).map Ov.o) = sizeN y.o + sizesN (ys.map Ov.o) := by simp [sizesN]
        have : 1 ≤ sizeN y.o := by unfold sizeN; omega
        rw [e, List.length_cons]
        omega
    refine ⟨by rw [List.length_cons]; omega, fun y hy => ?_⟩
    rcases List.mem_cons.1 hy with rfl | hy
    · omega
    · exact h2 y hy
set_option maxHeartbeats 8000000 in
set_option maxRecDepth 100000 in
theorem opAppliesLaw_any (p : Pg) (o : Od) (sv tv v : Value) (lsn : Nat) (L : List Ov) (w : World) (hp : p.wf) (ho : o.wf) (hl : lsn < 256 ^ 8) (ht : TextsAt w sv p.rows) (hu : TextsAt w tv o.rows) (hL : OpsAt w v L) (hz : ∀ r ∈ p.rows, r.length ≤ 140737488351232) (hol : o.lens 140737488351232) (hLw : ∀ e ∈ L, e.o.wf ∧ e.o.lens 140737488351232) :
    Calls Try.prog 3 #[pgV p sv, odV o tv, .int .u64 lsn, v] w fun e w' => e = .returned (.bool true) ∧ Below w.heap.size w w' := by
  have AL := Lib.hid fun W => alive11_any W
  have HV := Lib.hid fun W (h : TextsAt W sv p.rows) => heavy06_any p sv W h hz
  have HH := Lib.hid fun W (h : OpsAt W v L) => heavy11_any v L W h (fun e he => (hLw e he).2)
  have SA := Lib.hid fun W (h : TextsAt W tv o.rows) => sizeA_any o tv W h hol
  have LA := sizeA_law o hol
  unfold SizeAns at LA
  obtain ⟨na, hna⟩ : ∃ k, k = sizeA o := ⟨_, rfl⟩
  rw [← hna] at SA LA
  obtain ⟨la1, la2, la3, la4⟩ := LA
  have LA3 := Lib.hid la4
  obtain ⟨hv2, hhv2⟩ : ∃ k, k = sizesN (L.map Ov.o) := ⟨_, rfl⟩
  rw [← hhv2] at HH
  have HHV := Lib.hid hhv2
  have hwt := weight_heavy p.rows
  have HLW := Lib.hid hLw
  have HP := Lib.hid hp
  have HO := Lib.hid ho
  have HT := Lib.hid ht
  have HU := Lib.hid hu
  have HLL := Lib.hid hL
  clear hna hhv2 la3 la4 hz hol hLw
  obtain ⟨VA, vcp, hvv, hx1, hx2, hx3, hx4⟩ := (id hL)
  obtain ⟨vn, hvn⟩ : ∃ k, k = L.length := ⟨_, rfl⟩
  rw [← hvn] at hvv
  subst hvv
  obtain ⟨kind, level, id, plsn, next, rows⟩ := p
  obtain ⟨ok, page, oat, ooff, text, orows, pk, lv, nx⟩ := o
  obtain ⟨A, cp, rfl, h2, h3, hx5, hx6⟩ := ht
  obtain ⟨A2, cp2, rfl, hx7, hx8, hx9, hx10⟩ := hu
  clear hx1 hx2 hx3 hx4 hx5 hx6 hx7 hx8 hx9 hx10
  obtain ⟨n, hn⟩ : ∃ n, n = rows.length := ⟨_, rfl⟩
  obtain ⟨m, hm⟩ : ∃ m, m = orows.length := ⟨_, rfl⟩
  simp only at h2 h3 hwt HT HU HV SA ⊢
  rw [← hn] at HT HV h2 ⊢
  rw [← hm] at HU SA ⊢
  have HN := Lib.hid hn
  obtain ⟨hv, hhv⟩ : ∃ k, k = heavyB rows := ⟨_, rfl⟩
  rw [← hhv] at HV hwt
  have wle : ¬ 4096 < hv → weightB rows ≤ 20000 ∧ n ≤ 4096 := by omega
  have HWL := Lib.hid wle
  clear hhv wle hwt hn hm hvn hL hp ho
  unfold pgV at HV ⊢
  unfold odV at SA ⊢
  simp only at HV SA ⊢
  unfold maxLen at h3
  obtain ⟨i0, hif, hz0, hz1, hz2⟩ := info_parts Try.infoStrM
  have HI := Lib.hid hif
  have HI0 := Lib.hid hz0
  have HI1 := Lib.hid hz1
  have HI2 := Lib.hid hz2
  clear hif hz0 hz1 hz2
  obtain ⟨w0, hw0⟩ : ∃ W, W = w.alloc (.cells #[.int .u8 kind, .int .u8 level, .int .u32 id, .int .u64 plsn, .int .u32 next, .slice A n cp] 26) := ⟨_, rfl⟩
  have b0 : Below w.heap.size w w0 := by rw [hw0]; exact alloc_below _ _
  have p0 : PgBox w0 w.heap.size kind level id plsn next (.slice A n cp) := by rw [hw0]; exact PgBox.new _ _ _ _ _ _ _
  have hs0 : w0.heap.size = w.heap.size + 1 := by rw [hw0]; simp
  obtain ⟨w1, hw1⟩ : ∃ W, W = w0.alloc (.cells #[.int .u8 ok, .int .u32 page, .int .i64 oat, .int .i64 ooff, .string ⟨text.toArray⟩, .slice A2 m cp2, .int .u8 pk, .int .u8 lv, .int .u32 nx] 28) := ⟨_, rfl⟩
  have b1 : Below w0.heap.size w0 w1 := by rw [hw1]; exact alloc_below _ _
  have P1 := Lib.hid (p0.below b1)
  have B1 := Lib.hid (below_then b0 b1)
  have O1 : Hid (OAt w1 (w.heap.size + 1) ⟨ok, page, oat, ooff, text, orows, pk, lv, nx⟩ (.slice A2 m cp2)) := Lib.hid (by
    have h := heap_alloc_new w0 (.cells #[.int .u8 ok, .int .u32 page, .int .i64 oat, .int .i64 ooff, .string ⟨text.toArray⟩, .slice A2 m cp2, .int .u8 pk, .int .u8 lv, .int .u32 nx] 28)
    rw [hs0, ← hw1] at h
    exact h)
  have T1 := Lib.hid (HT.out.below B1.out)
  have U1 := Lib.hid (HU.out.below B1.out)
  have L1 := Lib.hid (HLL.out.below B1.out)
  obtain ⟨big, hbig⟩ : ∃ b, b = (decide (4096 < hv) || decide (4096 < hv2) || decide (4096 < na)) := ⟨_, rfl⟩
  have HBIG := Lib.hid hbig
  clear hbig b0 b1 p0 hs0 HT HU HLL
  go_enter Try.func3, Try.ntmps3
  go_upto_region 1 with fail
  rw [← hw0, ← hw1]
  clear hw0 hw1 w0
  have BQ1 := Lib.hid (Below.refl w1.heap.size w1)
  obtain ⟨x0, x1, x2, x3, x4, x5, x6⟩ := P1.out.cells
  obtain ⟨y0, y1, y2, y3, y4, y5, y6, y7, y8⟩ := O1.out.cells
  simp only at y0 y1 y2 y3 y4 y5 y6 y7 y8
  have y9 := blk_lt O1.out
  go_cut [28] (fun s w' => s = .bool big ∧ Hid (Below w1.heap.size w1 w'))
  case first =>
    go_wp2_with fail
    refine (HV.out _ T1.out).mono ?_
    rintro e wa ⟨rfl, hb⟩
    have BQ2 := Lib.hid hb
    have O2 := Lib.hid (O1.out.below hb)
    have U2 := Lib.hid (U1.out.below hb)
    have L2 := Lib.hid (L1.out.below hb)
    clear hb P1 O1 T1 U1 L1 x0 x1 x2 x3 x4 x5 x6 y0 y1 y2 y3 y4 y5 y6 y7 y8 y9
    obtain ⟨y0, y1, y2, y3, y4, y5, y6, y7, y8⟩ := O2.out.cells
    simp only at y0 y1 y2 y3 y4 y5 y6 y7 y8
    by_cases h1 : 4096 < hv
    · rw [decide_eq_true h1]
      have HX : Hid (big = true) := by show _ = _; rw [HBIG.out]; rw [decide_eq_true h1]; rfl
      clear HBIG
      go_wp2_with fail
      go_meet
      exact ⟨by rw [HX.out], BQ2⟩
    · rw [decide_eq_false h1]
      go_wp2_with fail
      refine (HH.out _ L2.out).mono ?_
      rintro e wb ⟨rfl, hb⟩
      have BQ3 := Lib.hid (below_then BQ2.out hb)
      have O3 := Lib.hid (O2.out.below hb)
      have U3 := Lib.hid (U2.out.below hb)
      clear hb O2 U2 L2 y0 y1 y2 y3 y4 y5 y6 y7 y8
      obtain ⟨y0, y1, y2, y3, y4, y5, y6, y7, y8⟩ := O3.out.cells
      simp only at y0 y1 y2 y3 y4 y5 y6 y7 y8
      by_cases h2 : 4096 < hv2
      · rw [decide_eq_true h2]
        have HX : Hid (big = true) := by show _ = _; rw [HBIG.out]; rw [decide_eq_true h2]; simp
        clear HBIG
        go_wp2_with fail
        go_meet
        exact ⟨by rw [HX.out], BQ3⟩
      · rw [decide_eq_false h2]
        go_wp2_with fail
        refine (SA.out _ U3.out).mono ?_
        rintro e wd ⟨rfl, hb⟩
        have BQ4 := Lib.hid (below_then BQ3.out hb)
        clear hb y0 y1 y2 y3 y4 y5 y6 y7 y8
        by_cases h3 : 4096 < na
        · have h3i : decide ((4096 : Int) < (na : Int)) = true := decide_eq_true (by omega)
          have h3j : (4096 : Int) < (na : Int) := by omega
          have HX : Hid (big = true) := by show _ = _; rw [HBIG.out]; rw [decide_eq_true h3]; simp
          clear HBIG
          go_wp2_with fail
          go_meet
          exact ⟨by rw [HX.out], BQ4⟩
        · have h3i : decide ((4096 : Int) < (na : Int)) = false := decide_eq_false (by omega)
          have h3j : ¬ (4096 : Int) < (na : Int) := by omega
          have HX : Hid (big = false) := by show _ = _; rw [HBIG.out]; rw [decide_eq_false h1, decide_eq_false h2, decide_eq_false h3]; rfl
          clear HBIG
          go_wp2_with fail
          go_meet
          exact ⟨by rw [HX.out], BQ4⟩
  case rest =>
  obtain ⟨hs9, HBQ⟩ := hcut
  subst hs9
  have hb := HBQ.out
  generalize wc = w2 at *
  clear HBQ BQ1 HV HH SA x0 x1 x2 x3 x4 x5 x6 y0 y1 y2 y3 y4 y5 y6 y7 y8 y9
  have B2 := Lib.hid (below_then B1.out hb)
  have P2 := Lib.hid (P1.out.below hb)
  have O2 := Lib.hid (O1.out.below hb)
  have T2 := Lib.hid (T1.out.below hb)
  have U2 := Lib.hid (U1.out.below hb)
  have L2 := Lib.hid (L1.out.below hb)
  clear hb B1 P1 O1 T1 U1 L1
  cases hbb : big with
  | true =>
    clear hbb
    go_wp2_with fail
    refine (AL.out _).mono ?_
    rintro e wa ⟨rfl, hba⟩
    have Ba := Lib.hid (below_then B2.out hba)
    clear hba
    go_wp2_with fail
    go_ret
    exact ⟨rfl, Ba.out⟩
  | false =>
  have hbg := HBIG.out
  rw [hbb, eq_comm, Bool.or_eq_false_iff, Bool.or_eq_false_iff, decide_eq_false_iff_not, decide_eq_false_iff_not, decide_eq_false_iff_not] at hbg
  obtain ⟨⟨g1, g2⟩, g3⟩ := hbg
  obtain ⟨hw20, hn4⟩ := HWL.out g1
  have hsm := sizes_mem (L := L) (by rw [← HHV.out]; omega)
  have hso : Od.small ⟨ok, page, oat, ooff, text, orows, pk, lv, nx⟩ := small_of (Nat.not_lt.1 fun h => by have := LA3.out h; omega)
  have C1 := Lib.hid fun W (hW : TextsAt W (.slice A n cp) rows) (hU : TextsAt W (.slice A2 m cp2) orows) => opApply_any ⟨kind, level, id, plsn, next, rows⟩ ⟨ok, page, oat, ooff, text, orows, pk, lv, nx⟩ (.slice A n cp) (.slice A2 m cp2) lsn W hW hU HP.out HO.out hso hl (show weightB rows ≤ 1000000 by omega) (show rows.length ≤ 900000 by rw [← HN.out]; omega)
  have C2 := Lib.hid fun W (hW : TextsAt W (.slice A n cp) rows) (hU : TextsAt W (.slice A2 m cp2) orows) => refApply_any ⟨kind, level, id, plsn, next, rows⟩ ⟨ok, page, oat, ooff, text, orows, pk, lv, nx⟩ (.slice A n cp) (.slice A2 m cp2) lsn W hW hU HP.out HO.out hso hl (show weightB rows ≤ 1000000 by omega) (show rows.length ≤ 900000 by rw [← HN.out]; omega)
  have C3 := Lib.hid fun W (hW : TextsAt W (.slice A n cp) rows) (hL : OpsAt W (.slice VA vn vcp) L) => opRedo_any ⟨kind, level, id, plsn, next, rows⟩ (.slice A n cp) (.slice VA vn vcp) lsn L W hW HP.out hl (show weightB rows ≤ 1000000 by omega) hL (fun e he => (HLW.out e he).1) (fun e he => small_of (hsm.2 e he))
  have C4 := Lib.hid fun W (hW : TextsAt W (.slice A n cp) rows) (hL : OpsAt W (.slice VA vn vcp) L) => refRedo_any ⟨kind, level, id, plsn, next, rows⟩ (.slice A n cp) (.slice VA vn vcp) lsn L W hW HP.out hl (show weightB rows ≤ 1000000 by omega) hL (fun e he => (HLW.out e he).1) (fun e he => small_of (hsm.2 e he))
  obtain ⟨⟨⟨ma, mb, mc, md, me, rowsM⟩, er⟩, hR1⟩ : ∃ R, R = applyB ⟨kind, level, id, plsn, next, rows⟩ ⟨ok, page, oat, ooff, text, orows, pk, lv, nx⟩ lsn := ⟨_, rfl⟩
  obtain ⟨⟨⟨qa, qb, qc, qd, qe, rowsQ⟩, eq⟩, hR2⟩ : ∃ R, R = redoB ⟨kind, level, id, plsn, next, rows⟩ lsn (L.map Ov.o) := ⟨_, rfl⟩
  rw [← hR1] at C1 C2
  rw [← hR2] at C3 C4
  unfold pgV odV at C1 C2
  unfold pgV at C3 C4
  simp only at C1 C2 C3 C4
  clear hR1 hR2 hsm hso g1 g2 g3 HBIG HHV LA3 HWL hbb hw20 h2
  obtain ⟨x0, x1, x2, x3, x4, x5, x6⟩ := P2.out.cells
  obtain ⟨y0, y1, y2, y3, y4, y5, y6, y7, y8⟩ := O2.out.cells
  simp only at y0 y1 y2 y3 y4 y5 y6 y7 y8
  have y9 := blk_lt O2.out
  go_upto_region 3 with fail
  have TA := Lib.hid (T2.out.below (alloc_below w2 (.cells #[] 9))).reads
  rw [← HN.out] at TA
  go_cut [9] (fun s9 w' => ∃ (rb : Option Addr) (rc : Nat), s9 = .slice rb n rc ∧ Hid (TextsAt w' (.slice rb n rc) rows) ∧ Hid (Below w2.heap.size w2 w'))
  case first =>
    go_wp2_with (at_builtin; refine wpList_append_any _ rfl _ _ 24 rfl w2.heap.size 9 i0 (.string ⟨#[]⟩) 1 16 Try.underlying24 HI.out HI0.out HI1.out HI2.out rfl (by decide) (.slice (some ⟨w2.heap.size, 0, none⟩) 0 0) 0 [] (by rfl) (World.ownsRow_made w2 #[] 0 (Nat.le_refl _) (by unfold maxLen; omega) rfl) (.slice A n cp) n (strs rows) (by rfl) TA.out (strs_oneCell _) (by unfold maxLen; omega) (by omega) (by simp) ?_; intro v3 w3 hown3 hgrow3; simp only [Nat.zero_add, List.nil_append] at hown3; have hb := (alloc_below w2 (.cells #[] 9)).grown hgrow3 (by simp) (fun j hj => by simp [Value.ownBlock] at hj; omega); clear hgrow3; obtain ⟨rb, rc, hv3, _, hrc, _⟩ := own_form hown3; subst hv3; have V3 := Lib.hid (texts_own hown3).1; have hb := Lib.hid hb; clear hown3)
    go_meet
    exact ⟨rb, rc, rfl, V3, hb⟩
  case rest =>
  obtain ⟨rb, rc, rfl, V3, hb2⟩ := hcut
  generalize wc = w3 at *
  have hb := hb2.out
  clear TA hb2
  clear x0 x1 x2 x3 x4 x5 x6 y0 y1 y2 y3 y4 y5 y6 y7 y8 y9
  have B3 := Lib.hid (below_then B2.out hb)
  have P3 := Lib.hid (P2.out.below hb)
  have O3 := Lib.hid (O2.out.below hb)
  have T3 := Lib.hid (T2.out.below hb)
  have U3 := Lib.hid (U2.out.below hb)
  have L3 := Lib.hid (L2.out.below hb)
  clear hb B2 P2 O2 T2 U2 L2
  obtain ⟨x0, x1, x2, x3, x4, x5, x6⟩ := P3.out.cells
  obtain ⟨y0, y1, y2, y3, y4, y5, y6, y7, y8⟩ := O3.out.cells
  simp only at y0 y1 y2 y3 y4 y5 y6 y7 y8
  have y9 := blk_lt O3.out
  go_wp2_with fail
  clear x0 x1 x2 x3 x4 x5 x6 y0 y1 y2 y3 y4 y5 y6 y7 y8 y9
  refine (C1.out _ T3.out U3.out).mono ?_
  rintro e w4 ⟨sv4, rfl, G, hb⟩
  simp only at G
  obtain ⟨nm, hnm⟩ : ∃ z, z = rowsM.length := ⟨_, rfl⟩
  have Hnm := Lib.hid hnm
  clear hnm
  have GA4 := Lib.hid G
  obtain ⟨A4, cp4, hv4, _, _, _, _⟩ := G
  rw [← Hnm.out] at hv4
  subst hv4
  have B4 := Lib.hid (below_then B3.out hb)
  have P4 := Lib.hid (P3.out.below hb)
  have O4 := Lib.hid (O3.out.below hb)
  have T4 := Lib.hid (T3.out.below hb)
  have U4 := Lib.hid (U3.out.below hb)
  have L4 := Lib.hid (L3.out.below hb)
  have V4 := Lib.hid (V3.out.below hb)
  clear hb B3 P3 O3 T3 U3 L3 V3
  obtain ⟨x0, x1, x2, x3, x4, x5, x6⟩ := P4.out.cells
  obtain ⟨y0, y1, y2, y3, y4, y5, y6, y7, y8⟩ := O4.out.cells
  simp only at y0 y1 y2 y3 y4 y5 y6 y7 y8
  have y9 := blk_lt O4.out
  unfold pgV
  simp only
  go_upto_region 4 with fail
  clear x0 x1 x2 x3 x4 x5 x6 y0 y1 y2 y3 y4 y5 y6 y7 y8 y9
  have BN := Lib.hid (alloc_below w4 (.cells #[.int .u8 ma, .int .u8 mb, .int .u32 mc, .int .u64 md, .int .u32 me, .slice A4 nm cp4] 26))
  have XA5 := Lib.hid (PgBox.new w4 ma mb mc md me (.slice A4 nm cp4))
  generalize w4.alloc (.cells #[.int .u8 ma, .int .u8 mb, .int .u32 mc, .int .u64 md, .int .u32 me, .slice A4 nm cp4] 26) = w5 at *
  have hb := BN.out
  clear BN
  have B5 := Lib.hid (below_then B4.out hb)
  have P5 := Lib.hid (P4.out.below hb)
  have O5 := Lib.hid (O4.out.below hb)
  have T5 := Lib.hid (T4.out.below hb)
  have U5 := Lib.hid (U4.out.below hb)
  have L5 := Lib.hid (L4.out.below hb)
  have V5 := Lib.hid (V4.out.below hb)
  have GA5 := Lib.hid (GA4.out.below hb)
  clear hb B4 P4 O4 T4 U4 L4 V4 GA4
  obtain ⟨x0, x1, x2, x3, x4, x5, x6⟩ := P5.out.cells
  obtain ⟨y0, y1, y2, y3, y4, y5, y6, y7, y8⟩ := O5.out.cells
  simp only at y0 y1 y2 y3 y4 y5 y6 y7 y8
  have y9 := blk_lt O5.out
  obtain ⟨z0, z1, z2, z3, z4, z5, z6⟩ := XA5.out.cells
  go_wp2_with fail
  clear x0 x1 x2 x3 x4 x5 x6 y0 y1 y2 y3 y4 y5 y6 y7 y8 y9 z0 z1 z2 z3 z4 z5 z6
  refine (C2.out _ T5.out U5.out).mono ?_
  rintro e w6 ⟨sv6, rfl, G, hb⟩
  simp only at G
  have GB6 := Lib.hid G
  obtain ⟨A6, cp6, hv6, _, _, _, _⟩ := G
  rw [← Hnm.out] at hv6
  subst hv6
  have B6 := Lib.hid (below_then B5.out hb)
  have P6 := Lib.hid (P5.out.below hb)
  have O6 := Lib.hid (O5.out.below hb)
  have T6 := Lib.hid (T5.out.below hb)
  have U6 := Lib.hid (U5.out.below hb)
  have L6 := Lib.hid (L5.out.below hb)
  have V6 := Lib.hid (V5.out.below hb)
  have GA6 := Lib.hid (GA5.out.below hb)
  have XA6 := Lib.hid (XA5.out.below hb)
  clear hb B5 P5 O5 T5 U5 L5 V5 GA5 XA5
  obtain ⟨x0, x1, x2, x3, x4, x5, x6⟩ := P6.out.cells
  obtain ⟨y0, y1, y2, y3, y4, y5, y6, y7, y8⟩ := O6.out.cells
  simp only at y0 y1 y2 y3 y4 y5 y6 y7 y8
  have y9 := blk_lt O6.out
  obtain ⟨z0, z1, z2, z3, z4, z5, z6⟩ := XA6.out.cells
  unfold pgV
  simp only
  go_upto_region 5 with fail
  clear x0 x1 x2 x3 x4 x5 x6 y0 y1 y2 y3 y4 y5 y6 y7 y8 y9 z0 z1 z2 z3 z4 z5 z6
  have BN := Lib.hid (alloc_below w6 (.cells #[.int .u8 ma, .int .u8 mb, .int .u32 mc, .int .u64 md, .int .u32 me, .slice A6 nm cp6] 26))
  have XB7 := Lib.hid (PgBox.new w6 ma mb mc md me (.slice A6 nm cp6))
  generalize w6.alloc (.cells #[.int .u8 ma, .int .u8 mb, .int .u32 mc, .int .u64 md, .int .u32 me, .slice A6 nm cp6] 26) = w7 at *
  have hb := BN.out
  clear BN
  have B7 := Lib.hid (below_then B6.out hb)
  have P7 := Lib.hid (P6.out.below hb)
  have O7 := Lib.hid (O6.out.below hb)
  have T7 := Lib.hid (T6.out.below hb)
  have U7 := Lib.hid (U6.out.below hb)
  have L7 := Lib.hid (L6.out.below hb)
  have V7 := Lib.hid (V6.out.below hb)
  have GA7 := Lib.hid (GA6.out.below hb)
  have XA7 := Lib.hid (XA6.out.below hb)
  have GB7 := Lib.hid (GB6.out.below hb)
  clear hb B6 P6 O6 T6 U6 L6 V6 GA6 XA6 GB6
  obtain ⟨x0, x1, x2, x3, x4, x5, x6⟩ := P7.out.cells
  obtain ⟨y0, y1, y2, y3, y4, y5, y6, y7, y8⟩ := O7.out.cells
  simp only at y0 y1 y2 y3 y4 y5 y6 y7 y8
  have y9 := blk_lt O7.out
  obtain ⟨z0, z1, z2, z3, z4, z5, z6⟩ := XA7.out.cells
  obtain ⟨u0, u1, u2, u3, u4, u5, u6⟩ := XB7.out.cells
  go_wp2_with fail
  clear x0 x1 x2 x3 x4 x5 x6 y0 y1 y2 y3 y4 y5 y6 y7 y8 y9 z0 z1 z2 z3 z4 z5 z6 u0 u1 u2 u3 u4 u5 u6
  refine (C3.out _ T7.out L7.out).mono ?_
  rintro e w8 ⟨sv8, rfl, G, hb⟩
  simp only at G
  obtain ⟨nq, hnq⟩ : ∃ z, z = rowsQ.length := ⟨_, rfl⟩
  have Hnq := Lib.hid hnq
  clear hnq
  have GC8 := Lib.hid G
  obtain ⟨A8, cp8, hv8, _, _, _, _⟩ := G
  rw [← Hnq.out] at hv8
  subst hv8
  have B8 := Lib.hid (below_then B7.out hb)
  have P8 := Lib.hid (P7.out.below hb)
  have O8 := Lib.hid (O7.out.below hb)
  have T8 := Lib.hid (T7.out.below hb)
  have U8 := Lib.hid (U7.out.below hb)
  have L8 := Lib.hid (L7.out.below hb)
  have V8 := Lib.hid (V7.out.below hb)
  have GA8 := Lib.hid (GA7.out.below hb)
  have XA8 := Lib.hid (XA7.out.below hb)
  have GB8 := Lib.hid (GB7.out.below hb)
  have XB8 := Lib.hid (XB7.out.below hb)
  clear hb B7 P7 O7 T7 U7 L7 V7 GA7 XA7 GB7 XB7
  obtain ⟨x0, x1, x2, x3, x4, x5, x6⟩ := P8.out.cells
  obtain ⟨y0, y1, y2, y3, y4, y5, y6, y7, y8⟩ := O8.out.cells
  simp only at y0 y1 y2 y3 y4 y5 y6 y7 y8
  have y9 := blk_lt O8.out
  obtain ⟨z0, z1, z2, z3, z4, z5, z6⟩ := XA8.out.cells
  obtain ⟨u0, u1, u2, u3, u4, u5, u6⟩ := XB8.out.cells
  unfold pgV
  simp only
  go_upto_region 6 with fail
  clear x0 x1 x2 x3 x4 x5 x6 y0 y1 y2 y3 y4 y5 y6 y7 y8 y9 z0 z1 z2 z3 z4 z5 z6 u0 u1 u2 u3 u4 u5 u6
  have BN := Lib.hid (alloc_below w8 (.cells #[.int .u8 qa, .int .u8 qb, .int .u32 qc, .int .u64 qd, .int .u32 qe, .slice A8 nq cp8] 26))
  have XC9 := Lib.hid (PgBox.new w8 qa qb qc qd qe (.slice A8 nq cp8))
  generalize w8.alloc (.cells #[.int .u8 qa, .int .u8 qb, .int .u32 qc, .int .u64 qd, .int .u32 qe, .slice A8 nq cp8] 26) = w9 at *
  have hb := BN.out
  clear BN
  have B9 := Lib.hid (below_then B8.out hb)
  have P9 := Lib.hid (P8.out.below hb)
  have O9 := Lib.hid (O8.out.below hb)
  have T9 := Lib.hid (T8.out.below hb)
  have U9 := Lib.hid (U8.out.below hb)
  have L9 := Lib.hid (L8.out.below hb)
  have V9 := Lib.hid (V8.out.below hb)
  have GA9 := Lib.hid (GA8.out.below hb)
  have XA9 := Lib.hid (XA8.out.below hb)
  have GB9 := Lib.hid (GB8.out.below hb)
  have XB9 := Lib.hid (XB8.out.below hb)
  have GC9 := Lib.hid (GC8.out.below hb)
  clear hb B8 P8 O8 T8 U8 L8 V8 GA8 XA8 GB8 XB8 GC8
  obtain ⟨x0, x1, x2, x3, x4, x5, x6⟩ := P9.out.cells
  obtain ⟨y0, y1, y2, y3, y4, y5, y6, y7, y8⟩ := O9.out.cells
  simp only at y0 y1 y2 y3 y4 y5 y6 y7 y8
  have y9 := blk_lt O9.out
  obtain ⟨z0, z1, z2, z3, z4, z5, z6⟩ := XA9.out.cells
  obtain ⟨u0, u1, u2, u3, u4, u5, u6⟩ := XB9.out.cells
  obtain ⟨s0, s1, s2, s3, s4, s5, s6⟩ := XC9.out.cells
  go_wp2_with fail
  clear x0 x1 x2 x3 x4 x5 x6 y0 y1 y2 y3 y4 y5 y6 y7 y8 y9 z0 z1 z2 z3 z4 z5 z6 u0 u1 u2 u3 u4 u5 u6 s0 s1 s2 s3 s4 s5 s6
  refine (C4.out _ T9.out L9.out).mono ?_
  rintro e w10 ⟨sv10, rfl, G, hb⟩
  simp only at G
  have GD10 := Lib.hid G
  obtain ⟨A10, cp10, hv10, _, _, _, _⟩ := G
  rw [← Hnq.out] at hv10
  subst hv10
  have B10 := Lib.hid (below_then B9.out hb)
  have P10 := Lib.hid (P9.out.below hb)
  have O10 := Lib.hid (O9.out.below hb)
  have T10 := Lib.hid (T9.out.below hb)
  have U10 := Lib.hid (U9.out.below hb)
  have L10 := Lib.hid (L9.out.below hb)
  have V10 := Lib.hid (V9.out.below hb)
  have GA10 := Lib.hid (GA9.out.below hb)
  have XA10 := Lib.hid (XA9.out.below hb)
  have GB10 := Lib.hid (GB9.out.below hb)
  have XB10 := Lib.hid (XB9.out.below hb)
  have GC10 := Lib.hid (GC9.out.below hb)
  have XC10 := Lib.hid (XC9.out.below hb)
  clear hb B9 P9 O9 T9 U9 L9 V9 GA9 XA9 GB9 XB9 GC9 XC9
  obtain ⟨x0, x1, x2, x3, x4, x5, x6⟩ := P10.out.cells
  obtain ⟨y0, y1, y2, y3, y4, y5, y6, y7, y8⟩ := O10.out.cells
  simp only at y0 y1 y2 y3 y4 y5 y6 y7 y8
  have y9 := blk_lt O10.out
  obtain ⟨z0, z1, z2, z3, z4, z5, z6⟩ := XA10.out.cells
  obtain ⟨u0, u1, u2, u3, u4, u5, u6⟩ := XB10.out.cells
  obtain ⟨s0, s1, s2, s3, s4, s5, s6⟩ := XC10.out.cells
  unfold pgV
  simp only
  go_upto_region 7 with fail
  clear x0 x1 x2 x3 x4 x5 x6 y0 y1 y2 y3 y4 y5 y6 y7 y8 y9 z0 z1 z2 z3 z4 z5 z6 u0 u1 u2 u3 u4 u5 u6 s0 s1 s2 s3 s4 s5 s6
  have BN := Lib.hid (alloc_below w10 (.cells #[.int .u8 qa, .int .u8 qb, .int .u32 qc, .int .u64 qd, .int .u32 qe, .slice A10 nq cp10] 26))
  have XD11 := Lib.hid (PgBox.new w10 qa qb qc qd qe (.slice A10 nq cp10))
  generalize w10.alloc (.cells #[.int .u8 qa, .int .u8 qb, .int .u32 qc, .int .u64 qd, .int .u32 qe, .slice A10 nq cp10] 26) = w11 at *
  have hb := BN.out
  clear BN
  have B11 := Lib.hid (below_then B10.out hb)
  have P11 := Lib.hid (P10.out.below hb)
  have O11 := Lib.hid (O10.out.below hb)
  have T11 := Lib.hid (T10.out.below hb)
  have U11 := Lib.hid (U10.out.below hb)
  have L11 := Lib.hid (L10.out.below hb)
  have V11 := Lib.hid (V10.out.below hb)
  have GA11 := Lib.hid (GA10.out.below hb)
  have XA11 := Lib.hid (XA10.out.below hb)
  have GB11 := Lib.hid (GB10.out.below hb)
  have XB11 := Lib.hid (XB10.out.below hb)
  have GC11 := Lib.hid (GC10.out.below hb)
  have XC11 := Lib.hid (XC10.out.below hb)
  have GD11 := Lib.hid (GD10.out.below hb)
  clear hb B10 P10 O10 T10 U10 L10 V10 GA10 XA10 GB10 XB10 GC10 XC10 GD10
  clear U11
  clear L11
  clear O11
  clear C1 C2 C3 C4
  have e1 : (er == er) = true := by simp
  have e2 : (eq == eq) = true := by simp
  obtain ⟨x0, x1, x2, x3, x4, x5, x6⟩ := P11.out.cells
  obtain ⟨z0, z1, z2, z3, z4, z5, z6⟩ := XA11.out.cells
  obtain ⟨u0, u1, u2, u3, u4, u5, u6⟩ := XB11.out.cells
  obtain ⟨s0, s1, s2, s3, s4, s5, s6⟩ := XC11.out.cells
  obtain ⟨t0, t1, t2, t3, t4, t5, t6⟩ := XD11.out.cells
  go_wp2_with fail
  clear x0 x1 x2 x3 x4 x5 x6 z0 z1 z2 z3 z4 z5 z6 u0 u1 u2 u3 u4 u5 u6 s0 s1 s2 s3 s4 s5 s6 t0 t1 t2 t3 t4 t5 t6
  refine (refSame06_eq ⟨ma, mb, mc, md, me, rowsM⟩ (.slice A4 nm cp4) (.slice A6 nm cp6) _ GA11.out GB11.out).mono ?_
  rintro e w12 ⟨rfl, hb⟩
  have B12 := Lib.hid (below_then B11.out hb)
  have P12 := Lib.hid (P11.out.below hb)
  have T12 := Lib.hid (T11.out.below hb)
  have V12 := Lib.hid (V11.out.below hb)
  have GA12 := Lib.hid (GA11.out.below hb)
  have XA12 := Lib.hid (XA11.out.below hb)
  have GB12 := Lib.hid (GB11.out.below hb)
  have XB12 := Lib.hid (XB11.out.below hb)
  have GC12 := Lib.hid (GC11.out.below hb)
  have XC12 := Lib.hid (XC11.out.below hb)
  have GD12 := Lib.hid (GD11.out.below hb)
  have XD12 := Lib.hid (XD11.out.below hb)
  clear hb B11 P11 T11 V11 GA11 XA11 GB11 XB11 GC11 XC11 GD11 XD11
  obtain ⟨x0, x1, x2, x3, x4, x5, x6⟩ := P12.out.cells
  obtain ⟨z0, z1, z2, z3, z4, z5, z6⟩ := XA12.out.cells
  obtain ⟨u0, u1, u2, u3, u4, u5, u6⟩ := XB12.out.cells
  obtain ⟨s0, s1, s2, s3, s4, s5, s6⟩ := XC12.out.cells
  obtain ⟨t0, t1, t2, t3, t4, t5, t6⟩ := XD12.out.cells
  go_wp2_with fail
  clear x0 x1 x2 x3 x4 x5 x6 z0 z1 z2 z3 z4 z5 z6 u0 u1 u2 u3 u4 u5 u6 s0 s1 s2 s3 s4 s5 s6 t0 t1 t2 t3 t4 t5 t6
  refine (refSame06_eq ⟨qa, qb, qc, qd, qe, rowsQ⟩ (.slice A8 nq cp8) (.slice A10 nq cp10) _ GC12.out GD12.out).mono ?_
  rintro e w13 ⟨rfl, hb⟩
  have B13 := Lib.hid (below_then B12.out hb)
  have P13 := Lib.hid (P12.out.below hb)
  have T13 := Lib.hid (T12.out.below hb)
  have V13 := Lib.hid (V12.out.below hb)
  have GA13 := Lib.hid (GA12.out.below hb)
  have XA13 := Lib.hid (XA12.out.below hb)
  have GB13 := Lib.hid (GB12.out.below hb)
  have XB13 := Lib.hid (XB12.out.below hb)
  have GC13 := Lib.hid (GC12.out.below hb)
  have XC13 := Lib.hid (XC12.out.below hb)
  have GD13 := Lib.hid (GD12.out.below hb)
  have XD13 := Lib.hid (XD12.out.below hb)
  clear hb B12 P12 T12 V12 GA12 XA12 GB12 XB12 GC12 XC12 GD12 XD12
  have X1 := refTexts_any (.slice rb n rc) (.slice A n cp) rows rows w13 V13.out T13.out
  rw [decide_eq_true (rfl : rows = rows)] at X1
  have X1 := Lib.hid X1
  obtain ⟨x0, x1, x2, x3, x4, x5, x6⟩ := P13.out.cells
  obtain ⟨z0, z1, z2, z3, z4, z5, z6⟩ := XA13.out.cells
  obtain ⟨u0, u1, u2, u3, u4, u5, u6⟩ := XB13.out.cells
  obtain ⟨s0, s1, s2, s3, s4, s5, s6⟩ := XC13.out.cells
  obtain ⟨t0, t1, t2, t3, t4, t5, t6⟩ := XD13.out.cells
  go_wp2_with fail
  clear x0 x1 x2 x3 x4 x5 x6 z0 z1 z2 z3 z4 z5 z6 u0 u1 u2 u3 u4 u5 u6 s0 s1 s2 s3 s4 s5 s6 t0 t1 t2 t3 t4 t5 t6
  refine (X1.out).mono ?_
  rintro e w14 ⟨rfl, hb⟩
  have B14 := Lib.hid (below_then B13.out hb)
  have P14 := Lib.hid (P13.out.below hb)
  have T14 := Lib.hid (T13.out.below hb)
  have V14 := Lib.hid (V13.out.below hb)
  have GA14 := Lib.hid (GA13.out.below hb)
  have XA14 := Lib.hid (XA13.out.below hb)
  have GB14 := Lib.hid (GB13.out.below hb)
  have XB14 := Lib.hid (XB13.out.below hb)
  have GC14 := Lib.hid (GC13.out.below hb)
  have XC14 := Lib.hid (XC13.out.below hb)
  have GD14 := Lib.hid (GD13.out.below hb)
  have XD14 := Lib.hid (XD13.out.below hb)
  clear hb B13 P13 T13 V13 GA13 XA13 GB13 XB13 GC13 XC13 GD13 XD13
  obtain ⟨x0, x1, x2, x3, x4, x5, x6⟩ := P14.out.cells
  obtain ⟨z0, z1, z2, z3, z4, z5, z6⟩ := XA14.out.cells
  obtain ⟨u0, u1, u2, u3, u4, u5, u6⟩ := XB14.out.cells
  obtain ⟨s0, s1, s2, s3, s4, s5, s6⟩ := XC14.out.cells
  obtain ⟨t0, t1, t2, t3, t4, t5, t6⟩ := XD14.out.cells
  go_wp2_with fail
  clear x0 x1 x2 x3 x4 x5 x6 z0 z1 z2 z3 z4 z5 z6 u0 u1 u2 u3 u4 u5 u6 s0 s1 s2 s3 s4 s5 s6 t0 t1 t2 t3 t4 t5 t6
  refine (AL.out _).mono ?_
  rintro e w15 ⟨rfl, hb⟩
  have B15 := Lib.hid (below_then B14.out hb)
  have P15 := Lib.hid (P14.out.below hb)
  have T15 := Lib.hid (T14.out.below hb)
  have V15 := Lib.hid (V14.out.below hb)
  have GA15 := Lib.hid (GA14.out.below hb)
  have XA15 := Lib.hid (XA14.out.below hb)
  have GB15 := Lib.hid (GB14.out.below hb)
  have XB15 := Lib.hid (XB14.out.below hb)
  have GC15 := Lib.hid (GC14.out.below hb)
  have XC15 := Lib.hid (XC14.out.below hb)
  have GD15 := Lib.hid (GD14.out.below hb)
  have XD15 := Lib.hid (XD14.out.below hb)
  clear hb B14 P14 T14 V14 GA14 XA14 GB14 XB14 GC14 XC14 GD14 XD14
  go_wp2_with fail
  go_ret
  exact ⟨rfl, B15.out⟩

end Go.Proofs.Ytienlhnbmobinaa
