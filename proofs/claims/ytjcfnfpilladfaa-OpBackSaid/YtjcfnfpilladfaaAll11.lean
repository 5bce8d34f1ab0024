/- law11: all -/
import Derived.Test.YtjcfnfpilladfaaRows
import Derived.Test.YtjcfnfpilladfaaRefSame11
import Derived.Test.YtjcfnfpilladfaaOpIn
import Derived.Test.YtjcfnfpilladfaaHeavy11
import Derived.Test.YtjcfnfpilladfaaOpPlain
import Derived.Test.YtjcfnfpilladfaaOpPart
import Derived.Test.YtjcfnfpilladfaaOpSame
import Derived.Test.YtjcfnfpilladfaaTextsP
import Derived.Test.YtjcfnfpilladfaaPlains
import Derived.Test.YtjcfnfpilladfaaBase
import Derived.Test.YtjcfnfpilladfaaNodeWeigh
import Derived.WalkKit
import Derived.WalkLawsBesides
import Derived.WalkSpells
import Derived.LoopTactic
import Derived.WalkMore
import Derived.LoopN
import Derived.Laws.BitsAllLaws
import Derived.Laws.IdiomStrings
import Derived.BigQuiet
import Derived.Deep.QuietTactic
import Derived.Deep.DeepCutAuto
import Derived.Deep.RegionHeld3
import Derived.Deep.DrawnRows
import Derived.Lib.Hide
import Derived.Outline
import Derived.Deep.DeepMust
import Derived.Handy
namespace Go.Proofs.Ytjcfnfpilladfaa
open Go.RowKit
set_option linter.unusedVariables false
set_option linter.unusedSimpArgs false

set_option maxHeartbeats 4000000 in
set_option maxRecDepth 100000 in
theorem all11_any (va vb : Value) (L M : List Ov) (w : World) (ha : OpsAt w va L) (hb : OpsAt w vb M) :
    Calls Try.prog 20 #[va, vb] w fun e w' => e = .returned (.bool (decide (L.map Ov.o = M.map Ov.o))) ∧ Below w.heap.size w w' := by
  obtain ⟨A, cp, rfl, h2, h3, h4, h5⟩ := ha
  obtain ⟨B, cq, rfl, k2, k3, k4, k5⟩ := hb
  obtain ⟨n, hn⟩ : ∃ n, n = L.length := ⟨_, rfl⟩
  obtain ⟨m, hm⟩ : ∃ n, n = M.length := ⟨_, rfl⟩
  rw [← hn] at h2 ⊢
  rw [← hm] at k2 ⊢
  unfold maxLen at h3 k3
  have H4 := Lib.hid h4
  have H5 := Lib.hid h5
  have K4 := Lib.hid k4
  have K5 := Lib.hid k5
  have HN := Lib.hid hn
  have HM := Lib.hid hm
  obtain ⟨r, hr⟩ : ∃ r, r = decide (L.map Ov.o = M.map Ov.o) := ⟨_, rfl⟩
  rw [← hr]
  have HL : Hid (n ≠ m → r = false) := fun h => by
    rw [hr]
    exact decide_eq_false (fun e => h (by have := congrArg List.length e; simp at this; rw [HN.out, HM.out, this]))
  have HD : Hid (∀ i (h1 : i < L.length) (h2 : i < M.length), ¬ L[i].o = M[i].o → r = false) := fun i h1 h2 h => by
    rw [hr]
    refine decide_eq_false (fun e => h ?_)
    have : (L.map Ov.o)[i]'(by simpa using h1) = (M.map Ov.o)[i]'(by simpa using h2) := by simp only [e]
    simpa using this
  have HT : Hid (∀ i (h1 : i < L.length) (h2 : i < M.length), (L.map Ov.o).take i = (M.map Ov.o).take i → L[i].o = M[i].o → (L.map Ov.o).take (i + 1) = (M.map Ov.o).take (i + 1)) := fun i h1 h2 h e => by
    rw [List.take_succ_eq_append_getElem (by simpa using h1), List.take_succ_eq_append_getElem (by simpa using h2), h]
    simp [e]
  have HE : Hid (n = m → (L.map Ov.o).take n = (M.map Ov.o).take n → r = true) := fun h e => by
    rw [hr]
    rw [List.take_of_length_le (by rw [List.length_map, HN.out]; exact Nat.le_refl _), List.take_of_length_le (by rw [List.length_map, h, HM.out]; exact Nat.le_refl _)] at e
    exact decide_eq_true e
  clear h4 h5 k4 k5 hn hm hr
  go_enter Try.func20, Try.ntmps20
  by_cases hnm : n = m
  · subst hnm
    have z0 : ((n : Int) != (n : Int)) = false := by simp
    go_wp2_with fail
    go_loopw [5] (fun s5 wr => ∃ i : Nat, s5 = .int .i64 i ∧ i ≤ n ∧ Hid (Below w.heap.size w wr) ∧ Hid ((L.map Ov.o).take i = (M.map Ov.o).take i)) (fun v _ => n - (intOf v).toNat)
    case atStart => exact ⟨0, rfl, Nat.zero_le _, Lib.hid (Below.refl _ _), Lib.hid (by simp)⟩
    case round =>
      obtain ⟨i, rfl, hi, HB, HTK⟩ := hrel
      by_cases hc : i < n
      · have hci : (i : Int) < (n : Int) := by omega
        have q1 : (0 : Int) ≤ (i : Int) := by omega
        have hil : i < L.length := by rw [← HN.out]; exact hc
        have him : i < M.length := by rw [← HM.out]; exact hc
        obtain ⟨b0, o0, rfl, hb0, hcell⟩ := H4.out (by omega)
        obtain ⟨b1, o1, rfl, hb1, kcell⟩ := K4.out (by omega)
        have hte := H5.out L[i] (List.getElem_mem hil)
        have htf := K5.out M[i] (List.getElem_mem him)
        have hx := hcell i hil
        have hy := kcell i him
        have HD2 := Lib.hid (HD.out i hil him)
        have HT2 := Lib.hid (HT.out i hil him HTK.out)
        clear hcell kcell
        generalize L[i] = e at *
        generalize M[i] = f at *
        obtain ⟨x0, x1, x2, x3, x4, x5, x6, x7, x8⟩ := ov_cells (w := wr) (b := b0) (o := o0 + i * 9) (e := e) (fun j v hv => (HB.out.cell (p := ⟨b0, o0 + i * 9 + j, none⟩) hb0).trans (hx j v hv))
        obtain ⟨y0, y1, y2, y3, y4, y5, y6, y7, y8⟩ := ov_cells (w := wr) (b := b1) (o := o1 + i * 9) (e := f) (fun j v hv => (HB.out.cell (p := ⟨b1, o1 + i * 9 + j, none⟩) hb1).trans (hy j v hv))
        have SM := Lib.hid fun W (hW : Below w.heap.size w W) => refSame11_any e.o f.o e.sv f.sv W (hte.below hW) (htf.below hW)
        clear hx hy hte htf
        simp only [Ov.sv] at *
        obtain ⟨en, hen⟩ : ∃ k, k = e.o.rows.length := ⟨_, rfl⟩
        obtain ⟨fn, hfn⟩ : ∃ k, k = f.o.rows.length := ⟨_, rfl⟩
        rw [← hen] at x5 SM
        rw [← hfn] at y5 SM
        unfold odV at SM
        have KC := Lib.hid fun W (hW : Below wr.heap.size wr W) => (⟨keep_cell hW x0, keep_cell hW x1, keep_cell hW x2, keep_cell hW x3, keep_cell hW x4, keep_cell hW x5, keep_cell hW x6, keep_cell hW x7, keep_cell hW x8, keep_cell hW y0, keep_cell hW y1, keep_cell hW y2, keep_cell hW y3, keep_cell hW y4, keep_cell hW y5, keep_cell hW y6, keep_cell hW y7, keep_cell hW y8⟩ : W.cell? ⟨b0, o0 + i * 9, none⟩ = some (.int .u8 e.o.kind) ∧ W.cell? ⟨b0, o0 + i * 9 + 1, none⟩ = some (.int .u32 e.o.page) ∧ W.cell? ⟨b0, o0 + i * 9 + 2, none⟩ = some (.int .i64 e.o.at_) ∧ W.cell? ⟨b0, o0 + i * 9 + 3, none⟩ = some (.int .i64 e.o.off) ∧ W.cell? ⟨b0, o0 + i * 9 + 4, none⟩ = some (.string ⟨e.o.text.toArray⟩) ∧ W.cell? ⟨b0, o0 + i * 9 + 5, none⟩ = some (.slice e.b en e.c) ∧ W.cell? ⟨b0, o0 + i * 9 + 6, none⟩ = some (.int .u8 e.o.pk) ∧ W.cell? ⟨b0, o0 + i * 9 + 7, none⟩ = some (.int .u8 e.o.lv) ∧ W.cell? ⟨b0, o0 + i * 9 + 8, none⟩ = some (.int .u32 e.o.nx) ∧ W.cell? ⟨b1, o1 + i * 9, none⟩ = some (.int .u8 f.o.kind) ∧ W.cell? ⟨b1, o1 + i * 9 + 1, none⟩ = some (.int .u32 f.o.page) ∧ W.cell? ⟨b1, o1 + i * 9 + 2, none⟩ = some (.int .i64 f.o.at_) ∧ W.cell? ⟨b1, o1 + i * 9 + 3, none⟩ = some (.int .i64 f.o.off) ∧ W.cell? ⟨b1, o1 + i * 9 + 4, none⟩ = some (.string ⟨f.o.text.toArray⟩) ∧ W.cell? ⟨b1, o1 + i * 9 + 5, none⟩ = some (.slice f.b fn f.c) ∧ W.cell? ⟨b1, o1 + i * 9 + 6, none⟩ = some (.int .u8 f.o.pk) ∧ W.cell? ⟨b1, o1 + i * 9 + 7, none⟩ = some (.int .u8 f.o.lv) ∧ W.cell? ⟨b1, o1 + i * 9 + 8, none⟩ = some (.int .u32 f.o.nx))
        have D0 : Hid (Below wr.heap.size wr wr.drew) := Lib.hid ((Below.refl _ _).drew)
        have D1 := Lib.hid HB.out.drew
        clear hen hfn x0 x1 x2 x3 x4 x5 x6 x7 x8 y0 y1 y2 y3 y4 y5 y6 y7 y8
        obtain ⟨q, hq⟩ : ∃ q, q = decide (e.o = f.o) := ⟨_, rfl⟩
        rw [← hq] at SM
        have HQ := Lib.hid hq
        clear hq
        go_upto_region 6 with fail
        go_region_held3 (fun W => W.cell? ⟨b0, o0 + i * 9, none⟩ = some (.int .u8 e.o.kind) ∧ W.cell? ⟨b0, o0 + i * 9 + 1, none⟩ = some (.int .u32 e.o.page) ∧ W.cell? ⟨b0, o0 + i * 9 + 2, none⟩ = some (.int .i64 e.o.at_) ∧ W.cell? ⟨b0, o0 + i * 9 + 3, none⟩ = some (.int .i64 e.o.off) ∧ W.cell? ⟨b0, o0 + i * 9 + 4, none⟩ = some (.string ⟨e.o.text.toArray⟩) ∧ W.cell? ⟨b0, o0 + i * 9 + 5, none⟩ = some (.slice e.b en e.c) ∧ W.cell? ⟨b0, o0 + i * 9 + 6, none⟩ = some (.int .u8 e.o.pk) ∧ W.cell? ⟨b0, o0 + i * 9 + 7, none⟩ = some (.int .u8 e.o.lv) ∧ W.cell? ⟨b0, o0 + i * 9 + 8, none⟩ = some (.int .u32 e.o.nx) ∧ W.cell? ⟨b1, o1 + i * 9, none⟩ = some (.int .u8 f.o.kind) ∧ W.cell? ⟨b1, o1 + i * 9 + 1, none⟩ = some (.int .u32 f.o.page) ∧ W.cell? ⟨b1, o1 + i * 9 + 2, none⟩ = some (.int .i64 f.o.at_) ∧ W.cell? ⟨b1, o1 + i * 9 + 3, none⟩ = some (.int .i64 f.o.off) ∧ W.cell? ⟨b1, o1 + i * 9 + 4, none⟩ = some (.string ⟨f.o.text.toArray⟩) ∧ W.cell? ⟨b1, o1 + i * 9 + 5, none⟩ = some (.slice f.b fn f.c) ∧ W.cell? ⟨b1, o1 + i * 9 + 6, none⟩ = some (.int .u8 f.o.pk) ∧ W.cell? ⟨b1, o1 + i * 9 + 7, none⟩ = some (.int .u8 f.o.lv) ∧ W.cell? ⟨b1, o1 + i * 9 + 8, none⟩ = some (.int .u32 f.o.nx))
          (first
            | (with_reducible exact KC.out _ D0.out)
            | (with_reducible exact KC.out _ hb2))
          (first
            | (go_at_call 24; refine (SM.out _ D1.out).mono ?_; rintro e9 w2 ⟨rfl, hb3⟩; have hb2 := below_then D0.out hb3; have HB2 := Lib.hid (below_then D1.out hb3); clear hb3))
        clear KC hb2
        cases q with
        | false =>
          have HR := Lib.hid (HD2.out (by have := HQ.out; intro e; rw [decide_eq_true e] at this; cases this))
          clear HD2 HT2 HQ
          go_wp2_with fail
          go_ret
          exact ⟨by rw [HR.out]; rfl, HB2.out⟩
        | true =>
          have HTN := Lib.hid (HT2.out (by have := HQ.out; exact of_decide_eq_true this.symm))
          clear HD2 HT2 HQ
          go_wp2_with fail
          go_roundw
          case rel => exact ⟨i + 1, by go_num, by omega, HB2, HTN⟩
          case measure => simp [intOf] <;> omega
      · have hci : ¬ (i : Int) < (n : Int) := by omega
        have hin : i = n := by omega
        have hT2 := HTK.out
        rw [hin] at hT2
        have HR := Lib.hid (HE.out (by first | rfl | trivial) hT2)
        clear hT2 hin
        go_wp2_with fail
        go_ret
        exact ⟨by rw [HR.out]; rfl, HB.out⟩
  · have hnmj : ((n : Int) != (m : Int)) = true := by simp; omega
    have HR := Lib.hid (HL.out hnm)
    go_wp2_with fail
    go_ret
    exact ⟨by rw [HR.out]; rfl, Below.refl _ _⟩

end Go.Proofs.Ytjcfnfpilladfaa
