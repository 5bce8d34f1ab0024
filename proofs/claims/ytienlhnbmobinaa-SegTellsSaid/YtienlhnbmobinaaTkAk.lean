/- Kept of our texts for this claim: SegRefRows SegFind -/
import Derived.Test.YtienlhnbmobinaaRows
import Derived.Test.YtienlhnbmobinaaTkAj
import Derived.Test.YtienlhnbmobinaaTkAf
import Derived.Test.YtienlhnbmobinaaTkAg
import Derived.Test.YtienlhnbmobinaaTkAh
import Derived.Test.YtienlhnbmobinaaTkAa
import Derived.Test.YtienlhnbmobinaaTkAc
import Derived.Test.YtienlhnbmobinaaTkAb
import Derived.Test.YtienlhnbmobinaaTkAe
import Derived.WalkKit
import Derived.WalkLawsBesides
import Derived.WalkSpells
import Derived.LoopTactic
import Derived.WalkMore
import Derived.LoopN
import Derived.Laws.BitsAllLaws
import Derived.Laws.IdiomStrings
import Derived.BigQuiet
import Derived.Deep.QuietTactic
import Derived.Deep.DeepCutAuto
import Derived.Deep.RegionHeld3
import Derived.Deep.DrawnRows
import Derived.Lib.Hide
import Derived.Outline
import Derived.Deep.DeepMust
import Derived.Handy
import Derived.Deep.CutBlock
import Derived.Deep.LoopGhost
section
/- chapter 22: the rows of a head page (the reference's) -/
namespace Go.Proofs.Ytienlhnbmobinaa
open Go.RowKit
set_option linter.unusedVariables false
set_option linter.unusedSimpArgs false
theorem OwnSegs.mono {w : World} {base base' : Nat} {v : Value} {L : List Sg} (h : OwnSegs w base v L) (hb : base' ≤ base) : OwnSegs w base' v L := by
  obtain ⟨h1, h2⟩ := h
  refine ⟨h1, ?_⟩
  rcases h2 with h2 | ⟨g, cap, cur, e1, e2, e3⟩
  · exact .inl h2
  · exact .inr ⟨g, cap, cur, e1, Nat.le_trans hb e2, e3⟩
theorem seg_last {w : World} {base i : Nat} {v : Value} {L : List Sg} (h : OwnSegs w base v L) (hl : L.length = i) (hi : 0 < i) : ∃ b o cp, v = .slice (some ⟨b, o, none⟩) i cp ∧ b < w.heap.size ∧ w.cell? ⟨b, o + (i - 1) * 7, none⟩ = some (.int .u64 (lastTx L)) := by
  obtain ⟨A, cp, h1, h2, h3, h4⟩ := h.at_
  obtain ⟨b, o, rfl, e2, e3⟩ := h4 (by omega)
  have hlt : i - 1 < L.length := by omega
  refine ⟨b, o, cp, by rw [h1, hl], e2, ?_⟩
  have h5 := e3 (i - 1) hlt 0 _ rfl
  rw [Nat.add_zero] at h5
  rw [h5]
  have : lastTx L = L[i - 1].tx := by
    unfold lastTx
    rw [List.getLast?_eq_getElem?, List.getElem?_eq_getElem (by omega)]
    simp only [Option.map_some, Option.getD_some]
    congr 2
    omega
  rw [this]
set_option maxHeartbeats 4000000 in
set_option maxRecDepth 100000 in
theorem refSegRows_any (p : Pg) (sv : Value) (w : World) (hp : p.wf) (ht : TextsAt w sv p.rows) (hb : weightB p.rows ≤ 1000000) :
    Calls Try.prog 66 #[pgV p sv] w (SegPost w (segsB p)) := by
  have PM := Lib.hid fun W (h : TextsAt W sv p.rows) => refMay06_any p sv W hp h hb
  have DC := Lib.hid fun (i : Nat) (h : i < p.rows.length) W => refSegDecode_any p.rows[i] W (by have := weightB_mem (List.getElem_mem h); omega)
  have HT := Lib.hid ht
  have hnb : p.rows.length ≤ 1000000 := by have := weightB_length p.rows; omega
  obtain ⟨n, hn⟩ : ∃ n, n = p.rows.length := ⟨_, rfl⟩
  obtain ⟨A, cp, hsv, h2, h3, h4, h5⟩ := ht
  rw [← hn] at hsv h2 hnb
  subst hsv
  have H5 := Lib.hid h5
  obtain ⟨R, hR⟩ : ∃ R, R = segsB p := ⟨_, rfl⟩
  rw [← hR]
  unfold segsB at hR
  have HR := Lib.hid hR
  obtain ⟨m, hm⟩ : ∃ b, b = p.may := ⟨_, rfl⟩
  rw [← hm] at PM HR
  clear hR hm h4 h5
  unfold pgV at *
  obtain ⟨kind, level, id, lsn, next, rows⟩ := p
  clear hp hb
  have HN := Lib.hid hn
  clear hn
  simp only at *
  unfold maxLen at h3
  obtain ⟨i0, hif, hz0, hz1, hz2⟩ := info_parts Try.infoSeg
  have HI := Lib.hid hif
  have HI0 := Lib.hid hz0
  have HI1 := Lib.hid hz1
  have HI2 := Lib.hid hz2
  clear hif hz0 hz1 hz2
  have X0 := Lib.hid (PgBox.new w kind level id lsn next (.slice A n cp))
  have B0 := Lib.hid (alloc_below w (.cells #[.int .u8 kind, .int .u8 level, .int .u32 id, .int .u64 lsn, .int .u32 next, .slice A n cp] 26))
  go_enter Try.func66, Try.ntmps66
  go_upto_region 1 with fail
  have hsz0 : (w.alloc (.cells #[.int .u8 kind, .int .u8 level, .int .u32 id, .int .u64 lsn, .int .u32 next, .slice A n cp] 26)).heap.size = w.heap.size + 1 := by simp
  generalize w.alloc (.cells #[.int .u8 kind, .int .u8 level, .int .u32 id, .int .u64 lsn, .int .u32 next, .slice A n cp] 26) = w0 at *
  have T0 := Lib.hid (HT.out.below B0.out)
  obtain ⟨g9, hg9⟩ : ∃ g, g = w.heap.size := ⟨_, rfl⟩
  rw [← hg9] at X0
  rw [← hg9]
  have HG9 := Lib.hid hg9
  obtain ⟨q9, hq9⟩ : ∃ g, g = w0.heap.size := ⟨_, rfl⟩
  have hgq : g9 < q9 := by omega
  have HQ9 := Lib.hid hq9
  clear hg9 hq9 hsz0
  obtain ⟨p0, p1, p2, p3, p4, p5, p6⟩ := X0.out.cells
  by_cases hk : kind = 5
  case neg =>
    have hkn : ((kind : Int) != 5) = true := by simp; omega
    have HR0 : Hid (R = none) := by show R = none; rw [HR.out, if_neg (fun h => hk h.1)]
    clear HR PM DC
    go_wp2_with fail
    go_ret2
    exact SegPost.no HR0.out (by have := HG9.out; exact B0.out)
  have hkn : ((kind : Int) != 5) = false := by simp [hk]
  have HKK := Lib.hid hk
  clear hk
  go_wp2_with fail
  refine (PM.out _ T0.out).mono ?_
  rintro e w1 ⟨rfl, hb1⟩
  have B1 := Lib.hid (below_then B0.out hb1)
  have X1 := Lib.hid (X0.out.below hb1)
  have hq1 : q9 ≤ w1.heap.size := by rw [HQ9.out]; exact hb1.size
  clear hb1 p0 p1 p2 p3 p4 p5 p6 PM X0 T0
  cases m with
  | false =>
    have HR0 : Hid (R = none) := by show R = none; rw [HR.out, if_neg (fun h => by cases h.2)]
    clear HR DC
    go_wp2_with fail
    go_ret2
    exact SegPost.no HR0.out B1.out
  | true =>
    have HR1 : Hid (R = segGo 0 rows) := by show R = _; rw [HR.out, if_pos ⟨HKK.out, rfl⟩]
    clear HR
    go_wp2_with fail
    go_loopw [4, 5] (fun s2 s20 wr => ∃ (i : Nat) (acc : List Sg), s20 = .int .i64 i ∧ i ≤ n ∧ Hid (PgBox wr g9 kind level id lsn next (.slice A n cp)) ∧ Hid (segTo rows i = some acc) ∧ acc.length = i ∧ q9 ≤ wr.heap.size ∧ Hid (OwnSegs wr q9 s2 acc) ∧ Hid (Below w.heap.size w wr)) (fun _ v _ => n - (intOf v).toNat)
    case atStart => exact ⟨0, [], rfl, Nat.zero_le _, X1, Lib.hid (segTo_zero rows), rfl, hq1, Lib.hid (OwnSegs.nil _ _), B1⟩
    case round =>
      obtain ⟨i, acc, rfl, hi, XW, HK, hLi, hqw, HO, HB⟩ := hrel
      obtain ⟨p0, p1, p2, p3, p4, p5, p6⟩ := XW.out.cells
      by_cases hc : i < n
      · have hci : (i : Int) < (n : Int) := by omega
        have q1 : (0 : Int) ≤ (i : Int) := by omega
        have hit : i < rows.length := by rw [← HN.out]; exact hc
        obtain ⟨b0, o0, rfl, hb0, hcell⟩ := H5.out (by omega)
        have c1 := (HB.out.cell (p := ⟨b0, o0 + i, none⟩) hb0).trans (hcell i hit)
        have D0 := Lib.hid fun W => DC.out i hit W
        have HNX := Lib.hid (segTo_next HK.out hit)
        have HNO := Lib.hid fun h => segTo_none (rows := rows) (i := i + 1) h
        clear hcell
        generalize rows[i] = r at *
        clear hit
        unfold sgDecV at D0
        cases hd : sgDec r with
        | none =>
          rw [hd] at D0 HNX
          have HR0 : Hid (R = none) := by show R = none; rw [HR1.out]; exact HNO.out HNX.out
          unfold sgV at D0
          simp only [Option.getD_none, Option.isSome_none, Sg.zero] at D0
          (try simp only [Bool.false_eq_true, if_false] at D0)
          clear HNX HNO DC HR1 hd
          go_wp2_with fail
          refine (D0.out _).mono ?_
          rintro e w2 ⟨rfl, hb⟩
          have B2 := Lib.hid (HB.out.trans (hb.mono HB.out.size))
          have hsz := B2.out.size
          clear hb D0 p0 p1 p2 p3 p4 p5 p6 c1
          go_upto_region 8 with fail
          generalize hw3 : w2.alloc _ = w3
          have B3 : Hid (Below w.heap.size w w3) := by rw [← hw3]; exact B2.out.alloc hsz _
          clear hw3
          refine wp_region_ext w3.heap.size (by kernel_rfl) (by kernel_rfl) ?_
          repeat (go_big_quiet_step (fail))
          refine wpQuiet_nil ?_
          rintro _ ⟨X, rfl⟩
          have B5 := Lib.hid (below_then B3.out X.below)
          go_wp2_with fail
          go_ret2
          exact SegPost.no HR0.out B5.out
        | some x =>
          rw [hd] at D0 HNX
          obtain ⟨x0, x1, x2, x3, x4, x5, x6⟩ := x
          have hx0 := sg_tx (sgDec_may hd).1
          simp only at hx0
          unfold sgV at D0
          simp only [Option.getD_some, Option.isSome_some, if_true] at D0
          clear hd DC
          go_wp2_with fail
          refine (D0.out _).mono ?_
          rintro e w2 ⟨rfl, hb⟩
          have B2 := Lib.hid (HB.out.trans (hb.mono HB.out.size))
          have O2 := Lib.hid (HO.out.below hb)
          have X2 := Lib.hid (XW.out.below hb)
          have hq2 : q9 ≤ w2.heap.size := Nat.le_trans hqw hb.size
          clear hb D0 HO HB p0 p1 p2 p3 p4 p5 p6 c1 XW hqw
          have B3 := Lib.hid (B2.out.alloc B2.out.size (.cells #[.int .u64 x0, .int .u8 x1, .int .u64 x2, .int .u32 x3, .int .u32 x4, .int .u32 x5, .int .u16 x6] 83))
          have O3 := Lib.hid (O2.out.below (alloc_below w2 (.cells #[.int .u64 x0, .int .u8 x1, .int .u64 x2, .int .u32 x3, .int .u32 x4, .int .u32 x5, .int .u16 x6] 83)))
          have X3 := Lib.hid (X2.out.keep (.cells #[.int .u64 x0, .int .u8 x1, .int .u64 x2, .int .u32 x3, .int .u32 x4, .int .u32 x5, .int .u16 x6] 83))
          have hq3 : q9 ≤ (w2.alloc (.cells #[.int .u64 x0, .int .u8 x1, .int .u64 x2, .int .u32 x3, .int .u32 x4, .int .u32 x5, .int .u16 x6] 83)).heap.size := by simp; omega
          have S3 : Hid (SgBox (w2.alloc (.cells #[.int .u64 x0, .int .u8 x1, .int .u64 x2, .int .u32 x3, .int .u32 x4, .int .u32 x5, .int .u16 x6] 83)) w2.heap.size ⟨x0, x1, x2, x3, x4, x5, x6⟩) := heap_alloc_new w2 _
          go_upto_region 8 with fail
          generalize w2.alloc (.cells #[.int .u64 x0, .int .u8 x1, .int .u64 x2, .int .u32 x3, .int .u32 x4, .int .u32 x5, .int .u16 x6] 83) = w3 at *
          obtain ⟨g, hg⟩ : ∃ g, g = w2.heap.size := ⟨_, rfl⟩
          rw [← hg] at S3 ⊢
          clear hg B2 O2 X2 hq2
          obtain ⟨yl, y0, y1, y2, y3, y4, y5, y6⟩ := S3.out.cells
          simp only at y0 y1 y2 y3 y4 y5 y6
          (try simp only at HNX)
          by_cases hi0 : i = 0
          · subst hi0
            have hacc : acc = [] := List.eq_nil_of_length_eq_zero hLi
            subst hacc
            have HNX2 := Lib.hid (HNX.out.trans (if_neg (by show ¬ x0 ≤ 0; omega)))
            clear HNX HNO
            have hz : ¬ (0 : Int) < 0 := by omega
            have z0 := ext_cell y0 yl
            obtain ⟨e, he⟩ : ∃ e : Sg, e = ⟨x0, x1, x2, x3, x4, x5, x6⟩ := ⟨_, rfl⟩
            rw [← he] at HNX2
            have hE : Hid (#[.int .u64 x0, .int .u8 x1, .int .u64 x2, .int .u32 x3, .int .u32 x4, .int .u32 x5, .int .u16 x6] = e.cell.toArray) := by show _ = _; rw [he]; rfl
            clear he
            refine wp_region_ext w3.heap.size (by kernel_rfl) (by kernel_rfl) ?_
            repeat (go_big_quiet_step (fail))
            refine wpQuiet_nil ?_
            rintro _ ⟨X, rfl⟩
            have hX := X.below
            generalize X.val = wx at hX
            have B5 := Lib.hid (below_then B3.out hX)
            have O5 := Lib.hid (O3.out.below hX)
            have X5 := Lib.hid (X3.out.below hX)
            have S5 := Lib.hid (S3.out.below hX)
            have hq5 : q9 ≤ wx.heap.size := Nat.le_trans hq3 hX.size
            clear hX B3 O3 X3 S3 hq3 yl y0 y1 y2 y3 y4 y5 y6 z0
            generalize wx = w3 at *
            have B3 := B5
            have O3 := O5
            have X3 := X5
            have hq3 := hq5
            obtain ⟨yl, y0, y1, y2, y3, y4, y5, y6⟩ := S5.out.cells
            simp only at y0 y1 y2 y3 y4 y5 y6
            clear B5 O5 X5 hq5
            have hs3 : w.heap.size ≤ w3.heap.size := B3.out.size
            have O4 := Lib.hid (O3.out.below (alloc_below w3 (.cells #[.int .u64 x0, .int .u8 x1, .int .u64 x2, .int .u32 x3, .int .u32 x4, .int .u32 x5, .int .u16 x6] 83)))
            have B4 := Lib.hid (B3.out.alloc hs3 (.cells #[.int .u64 x0, .int .u8 x1, .int .u64 x2, .int .u32 x3, .int .u32 x4, .int .u32 x5, .int .u16 x6] 83))
            have X4 := Lib.hid (X3.out.keep (.cells #[.int .u64 x0, .int .u8 x1, .int .u64 x2, .int .u32 x3, .int .u32 x4, .int .u32 x5, .int .u16 x6] 83))
            have RE : Hid (Reads (w3.alloc (.cells #[.int .u64 x0, .int .u8 x1, .int .u64 x2, .int .u32 x3, .int .u32 x4, .int .u32 x5, .int .u16 x6] 83)) (.slice (some ⟨w3.heap.size, 0, none⟩) 1 1) 1 7 e.cell) := by
              show Reads _ _ _ _ _
              rw [hE.out]
              exact sg_reads w3 e
            have hq4 : q9 ≤ (w3.alloc (.cells #[.int .u64 x0, .int .u8 x1, .int .u64 x2, .int .u32 x3, .int .u32 x4, .int .u32 x5, .int .u16 x6] 83)).heap.size := by simp; omega
            have hs4 : w.heap.size ≤ (w3.alloc (.cells #[.int .u64 x0, .int .u8 x1, .int .u64 x2, .int .u32 x3, .int .u32 x4, .int .u32 x5, .int .u16 x6] 83)).heap.size := B4.out.size
            clear O3 B3 X3
            go_wp2_with (at_builtin; refine wpList_append_any _ rfl _ _ 79 rfl q9 83 i0 (.agg #[.int .u64 0, .int .u8 0, .int .u64 0, .int .u32 0, .int .u32 0, .int .u32 0, .int .u16 0]) 7 40 Try.underlying79 HI.out HI0.out HI1.out HI2.out rfl (by decide) _ _ _ (by rfl) O4.out (.slice (some ⟨w3.heap.size, 0, none⟩) 1 1) 1 e.cell (by rfl) RE.out (sg_one e) (by unfold maxLen; omega) (by omega) hq4 ?_; intro v' w6 hown6 hgrow6; have O6 := Lib.hid (OwnSegs.snoc hown6); have B6 := Lib.hid (B4.out.grown hgrow6 hs4 (fun j hj => by have := (O4.out.lt j hj).1; have := HG9.out; omega)); have X6 := Lib.hid (X4.out.grown hgrow6 (fun e => by have := (O4.out.lt g9 e.symm).1; omega)); have hq6 : q9 ≤ w6.heap.size := Nat.le_trans hq4 hgrow6.size; clear hown6 hgrow6)
            go_roundw
            case rel => exact ⟨1, [e], rfl, by omega, X6, HNX2, rfl, hq6, O6, B6⟩
            case measure => simp [intOf] <;> omega
          · obtain ⟨b7, o7, cp7, rfl, hb7, hc7⟩ := seg_last O3.out hLi (by omega)
            obtain ⟨la, hla⟩ : ∃ z, z = lastTx acc := ⟨_, rfl⟩
            rw [← hla] at HNX hc7
            clear hla
            obtain ⟨j, hj⟩ : ∃ j, i = j + 1 := ⟨i - 1, by omega⟩
            subst hj
            have hji : ((j + 1 : Nat) : Int) - 1 = (j : Int) := by omega
            have hj0 : (0 : Int) < ((j + 1 : Nat) : Int) := by omega
            rw [show j + 1 - 1 = j by omega] at hc7
            have hjl : (j : Int) < ((j + 1 : Nat) : Int) := by omega
            have hjz : (0 : Int) ≤ (j : Int) := by omega
            by_cases hle : x0 ≤ la
            · have HR0 : Hid (R = none) := by show R = none; rw [HR1.out]; exact HNO.out (by rw [HNX.out, if_pos hle])
              clear HNX HNO HR1
              have z0 := ext_cell y0 yl
              have z7 := ext_cell hc7 hb7
              refine wp_region_ext w3.heap.size (by kernel_rfl) (by kernel_rfl) ?_
              repeat (go_big_quiet_step (fail))
              refine wpQuiet_nil ?_
              rintro _ ⟨X, rfl⟩
              have hX := X.below
              generalize X.val = wx at hX
              have B5 := Lib.hid (below_then B3.out hX)
              have O5 := Lib.hid (O3.out.below hX)
              have X5 := Lib.hid (X3.out.below hX)
              have S5 := Lib.hid (S3.out.below hX)
              have hq5 : q9 ≤ wx.heap.size := Nat.le_trans hq3 hX.size
              clear hX B3 O3 X3 S3 hq3 yl y0 y1 y2 y3 y4 y5 y6 z0
              generalize wx = w3 at *
              have B3 := B5
              have O3 := O5
              have X3 := X5
              have hq3 := hq5
              obtain ⟨yl, y0, y1, y2, y3, y4, y5, y6⟩ := S5.out.cells
              simp only at y0 y1 y2 y3 y4 y5 y6
              clear B5 O5 X5 hq5
              go_wp2_with fail
              go_ret2
              exact SegPost.no HR0.out B3.out
            · have HNX2 := Lib.hid (HNX.out.trans (if_neg hle))
              have z0 := ext_cell y0 yl
              have z7 := ext_cell hc7 hb7
              clear HNX HNO
              obtain ⟨e, he⟩ : ∃ e : Sg, e = ⟨x0, x1, x2, x3, x4, x5, x6⟩ := ⟨_, rfl⟩
              rw [← he] at HNX2
              have hE : Hid (#[.int .u64 x0, .int .u8 x1, .int .u64 x2, .int .u32 x3, .int .u32 x4, .int .u32 x5, .int .u16 x6] = e.cell.toArray) := by show _ = _; rw [he]; rfl
              clear he
              refine wp_region_ext w3.heap.size (by kernel_rfl) (by kernel_rfl) ?_
              repeat (go_big_quiet_step (fail))
              refine wpQuiet_nil ?_
              rintro _ ⟨X, rfl⟩
              have hX := X.below
              generalize X.val = wx at hX
              have B5 := Lib.hid (below_then B3.out hX)
              have O5 := Lib.hid (O3.out.below hX)
              have X5 := Lib.hid (X3.out.below hX)
              have S5 := Lib.hid (S3.out.below hX)
              have hq5 : q9 ≤ wx.heap.size := Nat.le_trans hq3 hX.size
              clear hX B3 O3 X3 S3 hq3 yl y0 y1 y2 y3 y4 y5 y6 z0
              generalize wx = w3 at *
              have B3 := B5
              have O3 := O5
              have X3 := X5
              have hq3 := hq5
              obtain ⟨yl, y0, y1, y2, y3, y4, y5, y6⟩ := S5.out.cells
              simp only at y0 y1 y2 y3 y4 y5 y6
              clear B5 O5 X5 hq5
              have hs3 : w.heap.size ≤ w3.heap.size := B3.out.size
              have O4 := Lib.hid (O3.out.below (alloc_below w3 (.cells #[.int .u64 x0, .int .u8 x1, .int .u64 x2, .int .u32 x3, .int .u32 x4, .int .u32 x5, .int .u16 x6] 83)))
              have B4 := Lib.hid (B3.out.alloc hs3 (.cells #[.int .u64 x0, .int .u8 x1, .int .u64 x2, .int .u32 x3, .int .u32 x4, .int .u32 x5, .int .u16 x6] 83))
              have X4 := Lib.hid (X3.out.keep (.cells #[.int .u64 x0, .int .u8 x1, .int .u64 x2, .int .u32 x3, .int .u32 x4, .int .u32 x5, .int .u16 x6] 83))
              have RE : Hid (Reads (w3.alloc (.cells #[.int .u64 x0, .int .u8 x1, .int .u64 x2, .int .u32 x3, .int .u32 x4, .int .u32 x5, .int .u16 x6] 83)) (.slice (some ⟨w3.heap.size, 0, none⟩) 1 1) 1 7 e.cell) := by
                show Reads _ _ _ _ _
                rw [hE.out]
                exact sg_reads w3 e
              have hq4 : q9 ≤ (w3.alloc (.cells #[.int .u64 x0, .int .u8 x1, .int .u64 x2, .int .u32 x3, .int .u32 x4, .int .u32 x5, .int .u16 x6] 83)).heap.size := by simp; omega
              have hs4 : w.heap.size ≤ (w3.alloc (.cells #[.int .u64 x0, .int .u8 x1, .int .u64 x2, .int .u32 x3, .int .u32 x4, .int .u32 x5, .int .u16 x6] 83)).heap.size := B4.out.size
              clear O3 B3 X3
              go_wp2_with (at_builtin; refine wpList_append_any _ rfl _ _ 79 rfl q9 83 i0 (.agg #[.int .u64 0, .int .u8 0, .int .u64 0, .int .u32 0, .int .u32 0, .int .u32 0, .int .u16 0]) 7 40 Try.underlying79 HI.out HI0.out HI1.out HI2.out rfl (by decide) _ _ _ (by rfl) O4.out (.slice (some ⟨w3.heap.size, 0, none⟩) 1 1) 1 e.cell (by rfl) RE.out (sg_one e) (by unfold maxLen; omega) (by omega) hq4 ?_; intro v' w6 hown6 hgrow6; have O6 := Lib.hid (OwnSegs.snoc hown6); have B6 := Lib.hid (B4.out.grown hgrow6 hs4 (fun j hj => by have := (O4.out.lt j hj).1; have := HG9.out; omega)); have X6 := Lib.hid (X4.out.grown hgrow6 (fun e => by have := (O4.out.lt g9 e.symm).1; omega)); have hq6 : q9 ≤ w6.heap.size := Nat.le_trans hq4 hgrow6.size; clear hown6 hgrow6)
              go_roundw
              case rel => exact ⟨j + 1 + 1, acc ++ [e], by go_num, by omega, X6, HNX2, by simp [hLi], hq6, O6, B6⟩
              case measure => simp [intOf] <;> omega
      · have hci : ¬ (i : Int) < (n : Int) := by omega
        have HR0 : Hid (R = some acc) := by show R = some acc; rw [HR1.out, ← HK.out, segTo_all (by rw [← HN.out]; omega)]
        clear HR1 HK DC
        go_wp2_with fail
        go_ret2
        exact ⟨_, by rw [HR0.out]; rfl, by rw [HR0.out]; exact HO.out.mono (by have := HG9.out; omega), HB.out⟩
end Go.Proofs.Ytienlhnbmobinaa
end

section
/- chapter 22: where a transaction's row is (seg.find) -/
namespace Go.Proofs.Ytienlhnbmobinaa
open Go.RowKit
set_option linter.unusedVariables false
set_option linter.unusedSimpArgs false
def cmpC (a b : Nat) : Int := if a < b then -1 else if b < a then 1 else 0
theorem nan_any (a : Nat) (w : World) : Calls Try.prog 181 #[.int .u64 a] w fun e w' => e = .returned (.bool false) ∧ w = w' := by
  have h : ((a : Int) != (a : Int)) = false := by simp
  go_enter Try.func181, Try.ntmps181
  go_wp2_with fail
  go_ret
  exact ⟨rfl, rfl⟩
set_option maxHeartbeats 1000000 in
theorem compare_any (a b : Nat) (w : World) : Calls Try.prog 130 #[.int .u64 a, .int .u64 b] w fun e w' => e = .returned (.int .i64 (cmpC a b)) ∧ w = w' := by
  have N1 := Lib.hid fun W => nan_any a W
  have N2 := Lib.hid fun W => nan_any b W
  by_cases h1 : a < b
  · have hc : cmpC a b = -1 := if_pos h1
    rw [hc]
    clear hc
    go_enter Try.func130, Try.ntmps130
    go_wp2_with fail
    refine (N1.out _).mono ?_
    rintro e w1 ⟨rfl, rfl⟩
    go_wp2_with fail
    refine (N2.out _).mono ?_
    rintro e w1 ⟨rfl, rfl⟩
    go_wp2_with fail
    go_ret
    exact ⟨rfl, rfl⟩
  · by_cases h2 : b < a
    · have hc : cmpC a b = 1 := (if_neg h1).trans (if_pos h2)
      rw [hc]
      clear hc
      go_enter Try.func130, Try.ntmps130
      go_wp2_with fail
      refine (N1.out _).mono ?_
      rintro e w1 ⟨rfl, rfl⟩
      go_wp2_with fail
      refine (N2.out _).mono ?_
      rintro e w1 ⟨rfl, rfl⟩
      go_wp2_with fail
      go_ret
      exact ⟨rfl, rfl⟩
    · have hc : cmpC a b = 0 := (if_neg h1).trans (if_neg h2)
      rw [hc]
      clear hc
      go_enter Try.func130, Try.ntmps130
      go_wp2_with fail
      refine (N1.out _).mono ?_
      rintro e w1 ⟨rfl, rfl⟩
      go_wp2_with fail
      refine (N2.out _).mono ?_
      rintro e w1 ⟨rfl, rfl⟩
      go_wp2_with fail
      go_ret
      exact ⟨rfl, rfl⟩
theorem segCmp_any (s : Sg) (tx : Nat) (w : World) : Calls Try.prog 179 #[sgV s, .int .u64 tx] w fun e w' => e = .returned (.int .i64 (cmpC s.tx tx)) ∧ Below w.heap.size w w' := by
  have C := Lib.hid fun W => compare_any s.tx tx W
  have HB := Lib.hid (SgBox.new w s)
  have B0 := Lib.hid (alloc_below w (.cells #[.int .u64 s.tx, .int .u8 s.st, .int .u64 s.num, .int .u32 s.fp, .int .u32 s.lp, .int .u32 s.hp, .int .u16 s.hs] 83))
  generalize cmpC s.tx tx = c at *
  unfold sgV
  go_enter Try.func179, Try.ntmps179
  go_upto_region 1 with fail
  generalize w.alloc (.cells #[.int .u64 s.tx, .int .u8 s.st, .int .u64 s.num, .int .u32 s.fp, .int .u32 s.lp, .int .u32 s.hp, .int .u16 s.hs] 83) = w0 at *
  obtain ⟨pl, p0, p1, p2, p3, p4, p5, p6⟩ := HB.out.cells
  go_wp2_with fail
  refine (C.out _).mono ?_
  rintro e w1 ⟨rfl, rfl⟩
  go_wp2_with fail
  go_ret
  exact ⟨rfl, B0.out⟩
theorem cmpC_neg (a b : Nat) : cmpC a b < 0 ↔ a < b := by
  unfold cmpC
  split
  · simp; omega
  · split <;> simp <;> omega
theorem cmpC_zero (a b : Nat) : cmpC a b = 0 ↔ a = b := by
  unfold cmpC
  split
  · simp; omega
  · split <;> simp <;> omega
theorem seg_before {L : List Sg} (hp : L.Pairwise (fun a b => a.tx < b.tx)) {tx t m : Nat} (hm : m < L.length) (htm : t ≤ m) (ht : t < L.length) (h : L[m].tx < tx) : L[t].tx < tx := by
  rcases Nat.lt_or_ge t m with hlt | hge
  · have := List.pairwise_iff_getElem.1 hp t m ht hm hlt
    omega
  · obtain rfl : t = m := by omega
    exact h
theorem seg_behind {L : List Sg} (hp : L.Pairwise (fun a b => a.tx < b.tx)) {tx t m : Nat} (hm : m < L.length) (htm : m ≤ t) (ht : t < L.length) (h : tx ≤ L[m].tx) : tx ≤ L[t].tx := by
  rcases Nat.lt_or_ge m t with hlt | hge
  · have := List.pairwise_iff_getElem.1 hp m t hm ht hlt
    omega
  · obtain rfl : t = m := by omega
    exact h
set_option maxHeartbeats 4000000 in
set_option maxRecDepth 100000 in
theorem segSearch_any (L : List Sg) (tx : Nat) (v : Value) (w : World) (ht : SegsAt w v L) (hp : L.Pairwise (fun a b => a.tx < b.tx)) (hnb : L.length ≤ 1000000) :
    Calls Try.prog 178 #[v, .int .u64 tx, .func (.func 179) #[] #[]] w fun e w' => e = .returned (.tuple #[.int .i64 (segAt L tx : Nat), .bool (segIs L tx)]) ∧ Below w.heap.size w w' := by
  have HS := Lib.hid ht
  obtain ⟨A, cp, rfl, h2, h3, h5⟩ := ht
  unfold maxLen at h3
  have HP := Lib.hid hp
  obtain ⟨n, hn⟩ : ∃ n, n = L.length := ⟨_, rfl⟩
  rw [← hn] at h2 hnb
  simp only [← hn]
  rw [← hn] at HS
  have HN := Lib.hid hn
  have CC := Lib.hid fun s W => segCmp_any s tx W
  have HF : Hid (∀ m, m ≤ L.length → (∀ i (h : i < L.length), i < m → L[i].tx < tx) → (∀ i (h : i < L.length), m ≤ i → tx ≤ L[i].tx) → segAt L tx = m) := fun m h a b => segAt_split h a b
  have HI1 : Hid (∀ h : segAt L tx < L.length, segIs L tx = decide (cmpC L[segAt L tx].tx tx = 0)) := fun h => by
    show segIs L tx = _
    rw [segIs_eq h]
    exact decide_eq_decide.2 (cmpC_zero _ _).symm
  have HI2 : Hid (¬ segAt L tx < L.length → segIs L tx = false) := fun h => segIs_end h
  clear h5 hp hn
  generalize segAt L tx = F at *
  generalize segIs L tx = I at *
  go_enter Try.func178, Try.ntmps178
  go_wp2_with fail
  go_loopg [9, 10] n (fun kx s9 s10 wr => ∃ lo hi : Nat, s9 = .int .i64 lo ∧ s10 = .int .i64 hi ∧ lo ≤ hi ∧ hi ≤ n ∧ hi - lo ≤ kx ∧ Hid (Below w.heap.size w wr) ∧ Hid ((∀ i (h : i < L.length), i < lo → L[i].tx < tx) ∧ (∀ i (h : i < L.length), hi ≤ i → tx ≤ L[i].tx)))
  case atStart => exact ⟨0, n, rfl, rfl, Nat.zero_le _, Nat.le_refl _, by omega, Lib.hid (Below.refl _ _), Lib.hid ⟨fun t h ht => absurd ht (Nat.not_lt_zero _), fun t h ht => by have := HN.out; omega⟩⟩
  case round =>
    obtain ⟨lo, hi, rfl, rfl, hlh, hin, hg, BB, I1⟩ := hrel
    by_cases hlt : lo < hi
    · obtain ⟨m, hm0⟩ : ∃ m, m = (lo + hi) / 2 := ⟨_, rfl⟩
      have hm : m < L.length := by rw [← HN.out]; omega
      obtain ⟨A2, cp2, hv2, _, _, h52⟩ := HS.out.below BB.out
      obtain ⟨b0, o0, hA2, hb0, hcell⟩ := h52 (by omega)
      have hAA : A = some ⟨b0, o0, none⟩ := by injection hv2 with e1; exact e1.trans hA2
      subst hAA
      clear hv2 hA2
      have I2 : Hid (L[m].tx < tx → ((∀ i (h : i < L.length), i < m + 1 → L[i].tx < tx) ∧ (∀ i (h : i < L.length), hi ≤ i → tx ≤ L[i].tx))) := fun h => ⟨fun i h1 h2 => seg_before HP.out hm (by omega) h1 h, I1.out.2⟩
      have I3 : Hid (¬ L[m].tx < tx → ((∀ i (h : i < L.length), i < lo → L[i].tx < tx) ∧ (∀ i (h : i < L.length), m ≤ i → tx ≤ L[i].tx))) := fun h => ⟨I1.out.1, fun i h1 h2 => seg_behind HP.out hm h2 h1 (by omega)⟩
      have C := Lib.hid (CC.out L[m])
      have k0 := hcell m hm 0 _ rfl
      have k1 := hcell m hm 1 _ rfl
      have k2 := hcell m hm 2 _ rfl
      have k3 := hcell m hm 3 _ rfl
      have k4 := hcell m hm 4 _ rfl
      have k5 := hcell m hm 5 _ rfl
      have k6 := hcell m hm 6 _ rfl
      have hcn := cmpC_neg L[m].tx tx
      clear hcell
      generalize L[m] = y at *
      clear hm
      obtain ⟨y0, y1, y2, y3, y4, y5, y6⟩ := y
      unfold sgV at C
      simp only [Nat.add_zero] at C k0 k1 k2 k3 k4 k5 k6 hcn I2 I3
      generalize cmpC y0 tx = c at *
      subst hm0
      clear h52
      by_cases hyx : c < 0
      · have I4 := Lib.hid (I2.out (hcn.1 hyx))
        clear hcn I2 I3
        go_wp2_with fail
        refine (C.out _).mono ?_
        rintro e w2 ⟨rfl, hb⟩
        have B2 := Lib.hid (BB.out.trans (hb.mono BB.out.size))
        clear k0 k1 k2 k3 k4 k5 k6 hb
        go_wp2_with fail
        go_roundg (hi - ((lo + hi) / 2 + 1))
        case measure => omega
        case rel => exact ⟨(lo + hi) / 2 + 1, hi, by rw [show ((lo : Int) + (hi : Int)) / 2 + 1 = (((lo + hi) / 2 + 1 : Nat) : Int) by omega], rfl, by omega, hin, Nat.le_refl _, B2, I4⟩
      · have I4 := Lib.hid (I3.out (fun h => hyx (hcn.2 h)))
        clear hcn I2 I3
        go_wp2_with fail
        refine (C.out _).mono ?_
        rintro e w2 ⟨rfl, hb⟩
        have B2 := Lib.hid (BB.out.trans (hb.mono BB.out.size))
        clear k0 k1 k2 k3 k4 k5 k6 hb
        go_wp2_with fail
        go_roundg ((lo + hi) / 2 - lo)
        case measure => omega
        case rel => exact ⟨lo, (lo + hi) / 2, rfl, by rw [show ((lo : Int) + (hi : Int)) / 2 = (((lo + hi) / 2 : Nat) : Int) by omega], by omega, by omega, Nat.le_refl _, B2, I4⟩
    · obtain rfl : hi = lo := by omega
      obtain rfl : F = hi := HF.out hi (by rw [← HN.out]; omega) (fun t h => I1.out.1 t h) (fun t h ht => I1.out.2 t h ht)
      by_cases hn : F < n
      · have hm : F < L.length := by rw [← HN.out]; omega
        obtain ⟨A2, cp2, hv2, _, _, h52⟩ := HS.out.below BB.out
        obtain ⟨b0, o0, hA2, hb0, hcell⟩ := h52 (by omega)
        have hAA : A = some ⟨b0, o0, none⟩ := by injection hv2 with e1; exact e1.trans hA2
        subst hAA
        clear hv2 hA2 h52
        have HI := Lib.hid (HI1.out hm)
        have C := Lib.hid (CC.out L[F])
        have k0 := hcell F hm 0 _ rfl
        have k1 := hcell F hm 1 _ rfl
        have k2 := hcell F hm 2 _ rfl
        have k3 := hcell F hm 3 _ rfl
        have k4 := hcell F hm 4 _ rfl
        have k5 := hcell F hm 5 _ rfl
        have k6 := hcell F hm 6 _ rfl
        clear hcell
        generalize L[F] = y at *
        clear hm
        obtain ⟨y0, y1, y2, y3, y4, y5, y6⟩ := y
        unfold sgV at C
        simp only [Nat.add_zero] at C k0 k1 k2 k3 k4 k5 k6 HI
        generalize cmpC y0 tx = c at *
        go_wp2_with fail
        refine (C.out _).mono ?_
        rintro e w2 ⟨rfl, hb⟩
        have B2 := Lib.hid (BB.out.trans (hb.mono BB.out.size))
        clear k0 k1 k2 k3 k4 k5 k6 hb
        go_wp2_with fail
        go_ret2
        exact ⟨by rw [HI.out]; rfl, B2.out⟩
      · have HI := Lib.hid (HI2.out (by rw [← HN.out]; omega))
        go_wp2_with fail
        go_ret2
        exact ⟨by rw [HI.out]; rfl, BB.out⟩
set_option maxHeartbeats 4000000 in
set_option maxRecDepth 100000 in
theorem segfind_any (p : Pg) (sv : Value) (tx : Nat) (w : World) (hp : p.wf) (ht : TextsAt w sv p.rows) (hb : weightB p.rows ≤ 1000000) :
    Calls Try.prog 124 #[pgV p sv, .int .u64 tx] w fun e w' => ∃ v, e = .returned (.tuple #[v, .int .i64 ((match segsB p with | none => 0 | some L => segAt L tx : Nat) : Nat), .bool (match segsB p with | none => false | some L => segIs L tx), .int .i64 (if (segsB p).isSome then 0 else 60)]) ∧ OwnSegs w' w.heap.size v ((segsB p).getD []) ∧ Below w.heap.size w w' := by
  have CR := Lib.hid fun W (h : TextsAt W sv p.rows) => segRows_any p sv W hp h hb
  have HT := Lib.hid ht
  have hlen : ∀ L, segsB p = some L → L.length ≤ 1000000 ∧ L.Pairwise (fun a b => a.tx < b.tx) := fun L h => by
    unfold segsB at h
    split at h
    · have h2 := segGo_all h
      have := weightB_length p.rows
      exact ⟨by omega, h2.2.2.1⟩
    · cases h
  have HL := Lib.hid hlen
  obtain ⟨n, hn⟩ : ∃ n, n = p.rows.length := ⟨_, rfl⟩
  obtain ⟨A, cp, hsv, _, _, _, _⟩ := ht
  rw [← hn] at hsv
  subst hsv
  generalize segsB p = R at *
  clear hlen hn hp hb
  unfold pgV at *
  obtain ⟨kind, level, id, lsn, next, rows⟩ := p
  simp only at *
  have X0 := Lib.hid (PgBox.new w kind level id lsn next (.slice A n cp))
  have B0 := Lib.hid (alloc_below w (.cells #[.int .u8 kind, .int .u8 level, .int .u32 id, .int .u64 lsn, .int .u32 next, .slice A n cp] 26))
  go_enter Try.func124, Try.ntmps124
  go_upto_region 1 with fail
  generalize w.alloc (.cells #[.int .u8 kind, .int .u8 level, .int .u32 id, .int .u64 lsn, .int .u32 next, .slice A n cp] 26) = w0 at *
  have T0 := Lib.hid (HT.out.below B0.out)
  obtain ⟨p0, p1, p2, p3, p4, p5, p6⟩ := X0.out.cells
  go_wp2_with fail
  refine (CR.out _ T0.out).mono ?_
  rintro e w1 ⟨v, rfl, hO, hb⟩
  have B1 := Lib.hid (below_then B0.out hb)
  have O1 := Lib.hid (OwnSegs.mono hO B0.out.size)
  clear hb hO p0 p1 p2 p3 p4 p5 p6 CR T0 X0 HT
  cases R with
  | none =>
    simp only [Option.isSome_none, Option.getD_none] at *
    (try simp only [Bool.false_eq_true, if_false] at *)
    have hv : v = .slice none 0 0 ∨ True := .inr trivial
    clear hv
    go_wp2_with fail
    refine bodyPost_ret (v := .tuple #[.slice none 0 0, .int .i64 0, .bool false, .int .i64 60]) (by simp [results, Try.results124, go_sem]) rfl ⟨_, rfl, OwnSegs.nil _ _, B1.out⟩
  | some L =>
    simp only [Option.isSome_some, Option.getD_some, if_true] at *
    obtain ⟨hl, hp⟩ := HL.out L rfl
    have CS := Lib.hid fun W (h : SegsAt W v L) => segSearch_any L tx v W h hp hl
    clear hl hp HL
    go_wp2_with fail
    refine (CS.out _ O1.out.at_).mono ?_
    rintro e w2 ⟨rfl, hb⟩
    have B2 := Lib.hid (below_then B1.out hb)
    have O2 := Lib.hid (O1.out.below hb)
    clear hb
    go_wp2_with fail
    refine bodyPost_ret (v := .tuple #[v, .int .i64 (segAt L tx : Nat), .bool (segIs L tx), .int .i64 0]) (by simp [results, Try.results124, go_sem]) rfl ⟨_, rfl, O2.out, B2.out⟩
end Go.Proofs.Ytienlhnbmobinaa
end
