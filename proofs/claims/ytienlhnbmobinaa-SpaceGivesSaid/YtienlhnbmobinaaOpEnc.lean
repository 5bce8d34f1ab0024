/- op.May and op.Encode -/
import Derived.Test.YtienlhnbmobinaaRows
import Derived.Test.YtienlhnbmobinaaOpWrite
import Derived.Test.YtienlhnbmobinaaOpRead
import Derived.Test.YtienlhnbmobinaaOpGo
import Derived.Test.YtienlhnbmobinaaOpFold
import Derived.Test.YtienlhnbmobinaaOpRows
import Derived.Test.YtienlhnbmobinaaOpPart
import Derived.Test.YtienlhnbmobinaaOpPiece
import Derived.Test.YtienlhnbmobinaaOpNum
import Derived.Test.YtienlhnbmobinaaOpPlain
import Derived.Test.YtienlhnbmobinaaOpWord
import Derived.Test.YtienlhnbmobinaaOpSame
import Derived.Test.YtienlhnbmobinaaOpLaw
import Derived.Test.YtienlhnbmobinaaOpIn
import Derived.Test.YtienlhnbmobinaaHeavy11
import Derived.Test.YtienlhnbmobinaaTextsMove
import Derived.Test.YtienlhnbmobinaaTextsP
import Derived.Test.YtienlhnbmobinaaPlains
import Derived.Test.YtienlhnbmobinaaBase
import Derived.WalkKit
import Derived.WalkLawsBesides
import Derived.WalkSpells
import Derived.LoopTactic
import Derived.WalkMore
import Derived.LoopN
import Derived.Laws.BitsAllLaws
import Derived.Laws.IdiomStrings
import Derived.BigQuiet
import Derived.Deep.QuietTactic
import Derived.Deep.DeepCutAuto
import Derived.Deep.RegionHeld3
import Derived.Deep.DrawnRows
import Derived.Lib.Hide
import Derived.Outline
import Derived.Deep.DeepMust
import Derived.Handy
namespace Go.Proofs.Ytienlhnbmobinaa
open Go.RowKit
set_option linter.unusedVariables false
set_option linter.unusedSimpArgs false

set_option maxHeartbeats 2000000 in
set_option maxRecDepth 100000 in
theorem opMay_any (o : Od) (sv : Value) (w : World) (ht : TextsAt w sv o.rows) (hw : o.wf) (hs : o.small) :
    Calls Try.prog 83 #[odV o sv] w fun e w' => e = .returned (.bool o.may) ∧ Below w.heap.size w w' := by
  have HT := Lib.hid fun W (hB : Below w.heap.size w W) => write_any o sv W (ht.below hB) hw hs
  obtain ⟨A, cp, rfl, _⟩ := ht
  obtain ⟨n, hn⟩ : ∃ n, n = o.rows.length := ⟨_, rfl⟩
  have X := OAt.new w o (.slice A n cp)
  have B := Lib.hid (alloc_below w (.cells #[.int .u8 o.kind, .int .u32 o.page, .int .i64 o.at_, .int .i64 o.off, .string ⟨o.text.toArray⟩, .slice A n cp, .int .u8 o.pk, .int .u8 o.lv, .int .u32 o.nx] 28))
  rw [← hn] at HT ⊢
  clear hn
  unfold odV at HT ⊢
  go_enter Try.func83, Try.ntmps83
  go_wp2_with fail
  refine (HT.out _ B.out).mono ?_
  rintro e w1 ⟨rfl, hb⟩
  have HB := Lib.hid (below_then B.out hb)
  go_wp2_with fail
  go_ret
  exact ⟨rfl, HB.out⟩
/-- A list's bytes, and the error. -/
def encL (l : List Od) : List UInt8 × Int := if 32 < l.length then ([], 5) else if l.all Od.may = true then (be 1 l.length ++ l.flatMap Od.enc, 0) else ([], 2)
theorem out_of_may {o : Od} (h : o.may = true) : o.out = o.enc := by
  have : o.only.may = true := by rw [may_eq] at h; simp at h; exact h.1
  unfold Od.out
  rw [if_pos this]
theorem enc_len_may {o : Od} (h : o.may = true) : o.enc.length ≤ 2000 := enc_len o (by rw [may_eq] at h; simp at h; exact h.1)
theorem encs_len : ∀ (l : List Od), l.all Od.may = true → (l.flatMap Od.enc).length ≤ 2000 * l.length := by
  intro l
  induction l with
  | nil => intro _; simp
  | cons o l ih =>
    intro h
    rw [List.all_cons, Bool.and_eq_true] at h
    have h1 := enc_len_may h.1
    have h2 := ih h.2
    rw [List.flatMap_cons, List.length_append, List.length_cons]
    omega
theorem take_all {l : List Od} {i : Nat} (hi : i < l.length) (h : (l.take i).all Od.may = true) (h2 : l[i].may = true) : (l.take (i + 1)).all Od.may = true := by
  rw [List.take_succ_eq_append_getElem hi, List.all_append, h]
  simp [h2]
theorem take_flat {l : List Od} {i : Nat} (hi : i < l.length) : (l.take (i + 1)).flatMap Od.enc = (l.take i).flatMap Od.enc ++ l[i].enc := by
  rw [List.take_succ_eq_append_getElem hi, List.flatMap_append]
  simp
theorem not_all {l : List Od} {i : Nat} (hi : i < l.length) (h2 : l[i].may = false) : l.all Od.may = false := by
  rw [Bool.eq_false_iff]
  intro h
  have := List.all_eq_true.1 h _ (List.getElem_mem hi)
  rw [h2] at this
  cases this
set_option maxHeartbeats 4000000 in
set_option maxRecDepth 100000 in
theorem opEncode_any (v : Value) (L : List Ov) (w : World) (h : OpsAt w v L) (hw : ∀ e ∈ L, e.o.wf) (hs : ∀ e ∈ L, e.o.small) (hlen : L.length ≤ 100000) :
    Calls Try.prog 81 #[v] w fun e w' => e = .returned (.tuple #[.string ⟨(encL (L.map Ov.o)).1.toArray⟩, .int .i64 (encL (L.map Ov.o)).2]) ∧ Below w.heap.size w w' := by
  obtain ⟨A, cp, rfl, h2, h3, h4, h5⟩ := h
  obtain ⟨l, hl⟩ : ∃ l, l = L.map Ov.o := ⟨_, rfl⟩
  obtain ⟨R, hR⟩ : ∃ R, R = encL l := ⟨_, rfl⟩
  obtain ⟨n, hn⟩ : ∃ n, n = L.length := ⟨_, rfl⟩
  have hln : l.length = n := by rw [hl, hn]; simp
  have hget : ∀ i (h : i < L.length) (h' : i < l.length), l[i] = L[i].o := by
    intro i h h'
    subst hl
    simp
  rw [← hl, ← hR]
  rw [← hn] at h2 hlen ⊢
  unfold maxLen at h3
  have H4 := Lib.hid h4
  have H5 := Lib.hid h5
  have HN := Lib.hid hn
  have HW := Lib.hid hw
  have HS := Lib.hid hs
  have HL := Lib.hid hln
  have HG := Lib.hid hget
  have HR := Lib.hid hR
  have PU := Lib.hid fun W => wPut1 n W (by omega)
  clear h4 h5 hn hw hs hln hget hR hl
  go_enter Try.func81, Try.ntmps81
  go_wp2_with fail
  have v1 : IntKind.u64.wrap (n : Int) = (n : Int) := IntWalk.u64_in _ ⟨by omega, by omega⟩
  refine (PU.out _).mono ?_
  rintro e w1 ⟨rfl, hb⟩
  have B1 := Lib.hid hb
  clear hb PU v1
  by_cases h32 : 32 < n
  · have h32i : (32 : Int) < (n : Int) := by omega
    have HRR : Hid (R = ([], 5)) := by show _ = _; rw [HR.out]; unfold encL; rw [if_pos (by rw [HL.out]; exact h32)]
    obtain ⟨ps, hps⟩ : ∃ p, p = putN 1 n := ⟨_, rfl⟩
    rw [← hps]
    clear hps
    go_wp2_with fail
    go_ret2
    exact ⟨by rw [HRR.out]; rfl, B1.out⟩
  · have h32i : ¬ (32 : Int) < (n : Int) := by omega
    have hp1 : putN 1 n = be 1 n := by unfold putN; rw [if_pos (by omega)]
    have hp2 : decide (n < 256) = true := decide_eq_true (by omega)
    rw [hp1, hp2]
    clear hp1 hp2
    obtain ⟨ps, hps⟩ : ∃ p, p = be 1 n := ⟨_, rfl⟩
    have hpl : ps.length = 1 := by rw [hps, be_length]
    rw [← hps]
    have HPS := Lib.hid hps
    clear hps
    go_wp2_with fail
    go_loopw [4, 26] (fun s4 s26 wr => ∃ (i : Nat) (bs : List UInt8), s26 = .int .i64 i ∧ i ≤ n ∧ s4 = .string ⟨bs.toArray⟩ ∧ bs.length ≤ 1 + 2000 * i ∧ Hid (Below w.heap.size w wr) ∧ Hid ((l.take i).all Od.may = true ∧ bs = be 1 n ++ (l.take i).flatMap Od.enc)) (fun _ v _ => n - (intOf v).toNat)
    case atStart => exact ⟨0, ps, rfl, Nat.zero_le _, rfl, by omega, B1, Lib.hid ⟨by simp, by rw [HPS.out]; simp⟩⟩
    case round =>
      obtain ⟨i, bs, rfl, hi, rfl, hbl, HB, HK⟩ := hrel
      by_cases hc : i < n
      · have hci : (i : Int) < (n : Int) := by omega
        have q1 : (0 : Int) ≤ (i : Int) := by omega
        have hil : i < L.length := by rw [← HN.out]; exact hc
        have hil2 : i < l.length := by rw [HL.out]; exact hc
        obtain ⟨b0, o0, rfl, hb0, hcell⟩ := H4.out (by rw [← HN.out]; omega)
        have hte := H5.out L[i] (List.getElem_mem hil)
        have hx := hcell i hil
        have hwe := HW.out L[i] (List.getElem_mem hil)
        have hse := HS.out L[i] (List.getElem_mem hil)
        have hge := HG.out i hil hil2
        have hta := Lib.hid fun h => take_all hil2 HK.out.1 h
        have htf := Lib.hid (take_flat hil2)
        have hna := Lib.hid fun h => not_all hil2 h
        rw [hge] at hta htf hna
        clear hge hcell
        generalize L[i] = e at *
        obtain ⟨x0, x1, x2, x3, x4, x5, x6, x7, x8⟩ := ov_cells (w := wr) (b := b0) (o := o0 + i * 9) (e := e) (fun j v hv => (HB.out.cell (p := ⟨b0, o0 + i * 9 + j, none⟩) hb0).trans (hx j v hv))
        clear hx
        have B2 := Lib.hid (alloc_below wr (.cells #[.int .u8 e.o.kind, .int .u32 e.o.page, .int .i64 e.o.at_, .int .i64 e.o.off, .string ⟨e.o.text.toArray⟩, e.sv, .int .u8 e.o.pk, .int .u8 e.o.lv, .int .u32 e.o.nx] 28))
        have WR := Lib.hid (write_any e.o e.sv _ ((hte.below HB.out).below B2.out) hwe hse)
        have OE := Lib.hid fun h => And.intro (out_of_may (o := e.o) h) (enc_len_may (o := e.o) h)
        have B3 := Lib.hid (HB.out.alloc HB.out.size (.cells #[.int .u8 e.o.kind, .int .u32 e.o.page, .int .i64 e.o.at_, .int .i64 e.o.off, .string ⟨e.o.text.toArray⟩, e.sv, .int .u8 e.o.pk, .int .u8 e.o.lv, .int .u32 e.o.nx] 28))
        clear hte hwe hse
        obtain ⟨o, eb, ec⟩ := e
        simp only [Ov.sv] at *
        unfold odV at WR
        obtain ⟨rl, hrl⟩ : ∃ n, n = o.rows.length := ⟨_, rfl⟩
        rw [← hrl] at x5 B2 WR B3
        clear hrl
        obtain ⟨ot, hot⟩ : ∃ x, x = o.out := ⟨_, rfl⟩
        rw [← hot] at WR OE
        clear hot
        cases hm : o.may with
        | false =>
          rw [hm] at WR
          have HRR : Hid (R = ([], 2)) := by show _ = _; rw [HR.out]; unfold encL; rw [if_neg (by rw [HL.out]; exact h32), if_neg (by rw [hna.out hm]; decide)]
          clear hta htf hna OE HK hm
          go_wp2_with fail
          refine WR.out.mono ?_
          rintro e1 w2 ⟨rfl, hb⟩
          have B4 := Lib.hid (B3.out.trans (hb.mono B3.out.size))
          clear hb
          go_wp2_with fail
          go_ret2
          exact ⟨by rw [HRR.out]; rfl, B4.out⟩
        | true =>
          obtain ⟨he1, he2⟩ := OE.out hm
          rw [hm, he1] at WR
          have HK2 : Hid ((l.take (i + 1)).all Od.may = true ∧ bs ++ o.enc = be 1 n ++ (l.take (i + 1)).flatMap Od.enc) := ⟨hta.out hm, by rw [htf.out, HK.out.2, List.append_assoc]⟩
          clear hta htf hna OE HK hm he1
          generalize o.enc = en at *
          have hcat : ¬ 9223372036854775807 < bs.length + en.length := by omega
          go_wp2_with fail
          refine WR.out.mono ?_
          rintro e1 w2 ⟨rfl, hb⟩
          have B4 := Lib.hid (B3.out.trans (hb.mono B3.out.size))
          clear hb
          go_wp2_with fail
          go_roundw
          case rel => exact ⟨i + 1, bs ++ en, by go_num, by omega, by rw [bytes_app], by rw [List.length_append]; omega, B4, HK2⟩
          case measure => simp [intOf] <;> omega
      · have hci : ¬ (i : Int) < (n : Int) := by omega
        have hin : l.take i = l := by rw [List.take_of_length_le]; rw [HL.out]; omega
        have HRR : Hid (R = (bs, 0)) := by
          show _ = _
          have hk := HK.out
          rw [hin] at hk
          rw [HR.out]; unfold encL; rw [if_neg (by rw [HL.out]; exact h32), if_pos hk.1, hk.2, HL.out]
        clear hin
        go_wp2_with fail
        go_ret2
        exact ⟨by rw [HRR.out]; rfl, HB.out⟩

end Go.Proofs.Ytienlhnbmobinaa
