/- ref11: Encode -/
import Derived.Test.YtjcfnfpilladfaaRows
import Derived.Test.YtjcfnfpilladfaaRefMay11
import Derived.Test.YtjcfnfpilladfaaRefBytes11
import Derived.Test.YtjcfnfpilladfaaOpWrite
import Derived.Test.YtjcfnfpilladfaaOpRead
import Derived.Test.YtjcfnfpilladfaaOpNum
import Derived.Test.YtjcfnfpilladfaaOpPlain
import Derived.Test.YtjcfnfpilladfaaOpPart
import Derived.Test.YtjcfnfpilladfaaOpWord
import Derived.Test.YtjcfnfpilladfaaOpSame
import Derived.Test.YtjcfnfpilladfaaOpLaw
import Derived.Test.YtjcfnfpilladfaaOpIn
import Derived.Test.YtjcfnfpilladfaaOpEnc
import Derived.Test.YtjcfnfpilladfaaHeavy11
import Derived.Test.YtjcfnfpilladfaaTextsMove
import Derived.Test.YtjcfnfpilladfaaTextsP
import Derived.Test.YtjcfnfpilladfaaPlains
import Derived.Test.YtjcfnfpilladfaaBase
import Derived.Test.YtjcfnfpilladfaaWordWalks
import Derived.WalkKit
import Derived.WalkLawsBesides
import Derived.WalkSpells
import Derived.LoopTactic
import Derived.WalkMore
import Derived.LoopN
import Derived.Laws.BitsAllLaws
import Derived.Laws.IdiomStrings
import Derived.BigQuiet
import Derived.Deep.QuietTactic
import Derived.Deep.DeepCutAuto
import Derived.Deep.RegionHeld3
import Derived.Deep.DrawnRows
import Derived.Lib.Hide
import Derived.Outline
import Derived.Deep.DeepMust
import Derived.Handy
namespace Go.Proofs.Ytjcfnfpilladfaa
open Go.RowKit
set_option linter.unusedVariables false
set_option linter.unusedSimpArgs false

set_option maxHeartbeats 4000000 in
set_option maxRecDepth 100000 in
theorem refEncode11_any (v : Value) (L : List Ov) (w : World) (h : OpsAt w v L) (hw : ∀ e ∈ L, e.o.wf) (hs : ∀ e ∈ L, e.o.small) (hlen : L.length ≤ 100000) :
    Calls Try.prog 17 #[v] w fun e w' => e = .returned (.tuple #[.string ⟨(encL (L.map Ov.o)).1.toArray⟩, .int .i64 (encL (L.map Ov.o)).2]) ∧ Below w.heap.size w w' := by
  obtain ⟨A, cp, rfl, h2, h3, h4, h5⟩ := h
  obtain ⟨l, hl⟩ : ∃ l, l = L.map Ov.o := ⟨_, rfl⟩
  obtain ⟨R, hR⟩ : ∃ R, R = encL l := ⟨_, rfl⟩
  obtain ⟨n, hn⟩ : ∃ n, n = L.length := ⟨_, rfl⟩
  have hln : l.length = n := by rw [hl, hn]; simp
  have hget : ∀ i (h : i < L.length) (h' : i < l.length), l[i] = L[i].o := by
    intro i h h'
    subst hl
    simp
  rw [← hl, ← hR]
  rw [← hn] at h2 hlen ⊢
  unfold maxLen at h3
  have H4 := Lib.hid h4
  have H5 := Lib.hid h5
  have HN := Lib.hid hn
  have HW := Lib.hid hw
  have HS := Lib.hid hs
  have HL := Lib.hid hln
  have HG := Lib.hid hget
  have HR := Lib.hid hR
  clear h4 h5 hn hw hs hln hget hR hl
  go_enter Try.func17, Try.ntmps17
  by_cases h32 : 32 < n
  · have h32i : (32 : Int) < (n : Int) := by omega
    have HRR : Hid (R = ([], 5)) := by show _ = _; rw [HR.out]; unfold encL; rw [if_pos (by rw [HL.out]; exact h32)]
    go_wp2_with fail
    go_ret2
    exact ⟨by rw [HRR.out]; rfl, Below.refl _ _⟩
  · have h32i : ¬ (32 : Int) < (n : Int) := by omega
    have PU := Lib.hid fun W => refNum_any n 1 W (by omega) (by simp only [Nat.reducePow]; omega)
    obtain ⟨ps, hps⟩ : ∃ p, p = be 1 n := ⟨_, rfl⟩
    have hpl : ps.length = 1 := by rw [hps, be_length]
    rw [← hps] at PU
    have HPS := Lib.hid hps
    clear hps
    go_wp2_with fail
    refine (PU.out _).mono ?_
    rintro e w1 ⟨rfl, hb⟩
    have B1 := Lib.hid hb
    clear hb PU
    go_wp2_with fail
    go_loopw [4, 5] (fun s4 s26 wr => ∃ (i : Nat) (bs : List UInt8), s26 = .int .i64 i ∧ i ≤ n ∧ s4 = .string ⟨bs.toArray⟩ ∧ bs.length ≤ 1 + 2000 * i ∧ Hid (Below w.heap.size w wr) ∧ Hid ((l.take i).all Od.may = true ∧ bs = be 1 n ++ (l.take i).flatMap Od.enc)) (fun _ v _ => n - (intOf v).toNat)
    case atStart => exact ⟨0, ps, rfl, Nat.zero_le _, rfl, by omega, B1, Lib.hid ⟨by simp, by rw [HPS.out]; simp⟩⟩
    case round =>
      obtain ⟨i, bs, rfl, hi, rfl, hbl, HB, HK⟩ := hrel
      by_cases hc : i < n
      · have hci : (i : Int) < (n : Int) := by omega
        have q1 : (0 : Int) ≤ (i : Int) := by omega
        have hil : i < L.length := by rw [← HN.out]; exact hc
        have hil2 : i < l.length := by rw [HL.out]; exact hc
        obtain ⟨b0, o0, rfl, hb0, hcell⟩ := H4.out (by rw [← HN.out]; omega)
        have hte := H5.out L[i] (List.getElem_mem hil)
        have hx := hcell i hil
        have hwe := HW.out L[i] (List.getElem_mem hil)
        have hse := HS.out L[i] (List.getElem_mem hil)
        have hge := HG.out i hil hil2
        have hta := Lib.hid fun h => take_all hil2 HK.out.1 h
        have htf := Lib.hid (take_flat hil2)
        have hna := Lib.hid fun h => not_all hil2 h
        rw [hge] at hta htf hna
        clear hge hcell
        generalize L[i] = e at *
        have HCX := Lib.hid fun (W : World) (hW : Below w.heap.size w W) => ov_cells (w := W) (b := b0) (o := o0 + i * 9) (e := e) (fun j v hv => (hW.cell (p := ⟨b0, o0 + i * 9 + j, none⟩) hb0).trans (hx j v hv))
        obtain ⟨x0, x1, x2, x3, x4, x5, x6, x7, x8⟩ := HCX.out wr HB.out
        clear hx
        have MR := Lib.hid (refMay11_any e.o e.sv wr (hte.below HB.out) hse)
        have BY := Lib.hid fun W (hW : Below w.heap.size w W) (hm : e.o.may = true) => refBytes_any e.o e.sv W (hte.below hW) hm hwe
        have OE := Lib.hid fun h => enc_len_may (o := e.o) h
        clear hte hwe hse
        obtain ⟨o, eb, ec⟩ := e
        simp only [Ov.sv] at *
        unfold odV at MR BY
        obtain ⟨rl, hrl⟩ : ∃ n, n = o.rows.length := ⟨_, rfl⟩
        rw [← hrl] at x5 MR BY HCX
        clear hrl
        cases hm : o.may with
        | false =>
          rw [hm] at MR
          have HRR : Hid (R = ([], 2)) := by show _ = _; rw [HR.out]; unfold encL; rw [if_neg (by rw [HL.out]; exact h32), if_neg (by rw [hna.out hm]; decide)]
          clear hta htf hna OE HK hm BY HCX
          go_wp2_with fail
          refine MR.out.mono ?_
          rintro e1 w2 ⟨rfl, hb⟩
          have B4 := Lib.hid (HB.out.trans (hb.mono HB.out.size))
          clear hb
          go_wp2_with fail
          go_ret2
          exact ⟨by rw [HRR.out]; rfl, B4.out⟩
        | true =>
          have he2 := OE.out hm
          rw [hm] at MR
          have HK2 : Hid ((l.take (i + 1)).all Od.may = true ∧ bs ++ o.enc = be 1 n ++ (l.take (i + 1)).flatMap Od.enc) := ⟨hta.out hm, by rw [htf.out, HK.out.2, List.append_assoc]⟩
          have BY2 := Lib.hid fun W hW => BY.out W hW hm
          clear hta htf hna OE HK hm BY
          generalize o.enc = en at *
          have hcat : ¬ 9223372036854775807 < bs.length + en.length := by omega
          go_wp2_with fail
          refine MR.out.mono ?_
          rintro e1 w2 ⟨rfl, hb⟩
          have B4 := Lib.hid (HB.out.trans (hb.mono HB.out.size))
          clear hb x0 x1 x2 x3 x4 x5 x6 x7 x8
          obtain ⟨x0, x1, x2, x3, x4, x5, x6, x7, x8⟩ := HCX.out w2 B4.out
          go_wp2_with fail
          refine (BY2.out _ B4.out).mono ?_
          rintro e1 w3 ⟨rfl, hb⟩
          have B5 := Lib.hid (B4.out.trans (hb.mono B4.out.size))
          clear hb
          go_wp2_with fail
          go_roundw
          case rel => exact ⟨i + 1, bs ++ en, by go_num, by omega, by rw [bytes_app], by rw [List.length_append]; omega, B5, HK2⟩
          case measure => simp [intOf] <;> omega
      · have hci : ¬ (i : Int) < (n : Int) := by omega
        have hin : l.take i = l := by rw [List.take_of_length_le]; rw [HL.out]; omega
        have HRR : Hid (R = (bs, 0)) := by
          show _ = _
          have hk := HK.out
          rw [hin] at hk
          rw [HR.out]; unfold encL; rw [if_neg (by rw [HL.out]; exact h32), if_pos hk.1, hk.2, HL.out]
        clear hin
        go_wp2_with fail
        go_ret2
        exact ⟨by rw [HRR.out]; rfl, HB.out⟩

end Go.Proofs.Ytjcfnfpilladfaa
