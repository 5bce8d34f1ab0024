/- ref11: May -/
import Derived.Test.YtienlhnbmobinaaRows
import Derived.Test.YtienlhnbmobinaaRefSame11
import Derived.Test.YtienlhnbmobinaaRefOnly
import Derived.Test.YtienlhnbmobinaaOpWrite
import Derived.Test.YtienlhnbmobinaaOpRead
import Derived.Test.YtienlhnbmobinaaOpNum
import Derived.Test.YtienlhnbmobinaaOpPlain
import Derived.Test.YtienlhnbmobinaaOpPart
import Derived.Test.YtienlhnbmobinaaOpWord
import Derived.Test.YtienlhnbmobinaaOpSame
import Derived.Test.YtienlhnbmobinaaOpLaw
import Derived.Test.YtienlhnbmobinaaOpIn
import Derived.Test.YtienlhnbmobinaaOpEnc
import Derived.Test.YtienlhnbmobinaaTextsMove
import Derived.Test.YtienlhnbmobinaaTextsP
import Derived.Test.YtienlhnbmobinaaPlains
import Derived.Test.YtienlhnbmobinaaBase
import Derived.Test.YtienlhnbmobinaaWordWalks
import Derived.WalkKit
import Derived.WalkLawsBesides
import Derived.WalkSpells
import Derived.LoopTactic
import Derived.WalkMore
import Derived.LoopN
import Derived.Laws.BitsAllLaws
import Derived.Laws.IdiomStrings
import Derived.BigQuiet
import Derived.Deep.QuietTactic
import Derived.Deep.DeepCutAuto
import Derived.Deep.RegionHeld3
import Derived.Deep.DrawnRows
import Derived.Lib.Hide
import Derived.Outline
import Derived.Deep.DeepMust
import Derived.Handy
namespace Go.Proofs.Ytienlhnbmobinaa
open Go.RowKit
set_option linter.unusedVariables false
set_option linter.unusedSimpArgs false

set_option maxHeartbeats 4000000 in
set_option maxRecDepth 100000 in
theorem refMay11_any (o : Od) (sv : Value) (w : World) (ht : TextsAt w sv o.rows) (hs : o.small) :
    Calls Try.prog 86 #[odV o sv] w fun e w' => e = .returned (.bool o.may) ∧ Below w.heap.size w w' := by
  have HON := Lib.hid fun W (hB : Below w.heap.size w W) => refOnly_any o sv W (ht.below hB)
  have HSM := Lib.hid fun sv' W (hB : Below w.heap.size w W) (h' : TextsAt W sv' o.only.rows) => refSame11_any o o.only sv sv' W (ht.below hB) h'
  obtain ⟨b1, hb1⟩ : ∃ b, b = decide (1 ≤ o.kind ∧ o.kind ≤ 8 ∧ 1 ≤ o.page ∧ o.page ≤ 1024 ∧ o.nx ≤ 1024 ∧ o.pk ≤ 5) := ⟨_, rfl⟩
  obtain ⟨b2, hb2⟩ : ∃ b, b = decide (0 ≤ o.at_ ∧ o.at_ ≤ 488 ∧ 0 ≤ o.off ∧ o.off ≤ 488 ∧ o.rows.length ≤ 488) := ⟨_, rfl⟩
  obtain ⟨b3, hb3⟩ : ∃ b, b = decide (o.text.length + lensB o.rows ≤ 488) := ⟨_, rfl⟩
  obtain ⟨b4, hb4⟩ : ∃ b, b = decide (o = o.only) := ⟨_, rfl⟩
  have HM : Hid (o.may = (b1 && (b2 && (b3 && b4)))) := by
    show _ = _
    rw [hb1, hb2, hb3, hb4]
    rfl
  rw [← hb4] at HSM
  have HB1 := Lib.hid hb1
  have HB2 := Lib.hid hb2
  have HB3 := Lib.hid hb3
  generalize o.may = R at *
  obtain ⟨hs1, hs2, hs3⟩ := hs
  have HS3 := Lib.hid hs3
  clear hb1 hb2 hb3 hb4 hs3
  obtain ⟨A, cp, rfl, hcp1, hcp2, _, hcell⟩ := ht
  have HC := Lib.hid hcell
  obtain ⟨n, hn⟩ : ∃ n, n = o.rows.length := ⟨_, rfl⟩
  rw [← hn] at hs2 hcp1 HB2 HON HSM ⊢
  have HN := Lib.hid hn
  have BX := Lib.hid (alloc_below w (.cells #[.int .u8 o.kind, .int .u32 o.page, .int .i64 o.at_, .int .i64 o.off, .string ⟨o.text.toArray⟩, .slice A n cp, .int .u8 o.pk, .int .u8 o.lv, .int .u32 o.nx] 28))
  have X0 := OAt.new w o (.slice A n cp)
  unfold maxLen at hcp2
  unfold odV at HON HSM ⊢
  clear hcell hn
  have ht0 : (⟨o.text.toArray⟩ : ByteArray).size = o.text.length := by simp [ByteArray.size]
  go_enter Try.func86, Try.ntmps86
  go_upto_region 1 with fail
  generalize w.alloc (.cells #[.int .u8 o.kind, .int .u32 o.page, .int .i64 o.at_, .int .i64 o.off, .string ⟨o.text.toArray⟩, .slice A n cp, .int .u8 o.pk, .int .u8 o.lv, .int .u32 o.nx] 28) = w0 at *
  obtain ⟨x0, x1, x2, x3, x4, x5, x6, x7, x8⟩ := X0.cells
  have HX := Lib.hid X0
  clear X0
  go_cut [32] (fun s w' => s = .bool (!b1) ∧ w0 = w')
  case first =>
    go_wp2_with fail
    all_goals go_meet
    all_goals
      refine ⟨?_, rfl⟩
      congr 1
      have h := HB1.out
      rw [h, Bool.eq_iff_iff]
      simp
      try omega
  case rest =>
    obtain ⟨hs9, rfl⟩ := hcut
    subst hs9
    cases b1 with
    | false =>
      have HR : Hid (R = false) := HM.out
      clear HM HB1 HB2 HB3
      go_wp2_with fail
      go_ret
      exact ⟨by rw [HR.out]; rfl, BX.out⟩
    | true =>
      clear HB1
      go_upto_region 3 with fail
      go_cut [56] (fun s w' => s = .bool (!b2) ∧ w0 = w')
      case first =>
        go_wp2_with fail
        all_goals go_meet
        all_goals
          refine ⟨?_, rfl⟩
          congr 1
          have h := HB2.out
          rw [h, Bool.eq_iff_iff]
          simp
          try omega
      case rest =>
        obtain ⟨hs9, rfl⟩ := hcut
        subst hs9
        cases b2 with
        | false =>
          have HR : Hid (R = false) := HM.out
          clear HM HB2 HB3
          go_wp2_with fail
          go_ret
          exact ⟨by rw [HR.out]; rfl, BX.out⟩
        | true =>
          have hr8 : n ≤ 488 := by have := HB2.out; rw [eq_comm, decide_eq_true_eq] at this; omega
          clear HB2
          go_wp2_with fail
          go_loopw [3, 4] (fun s3 s4 wr => ∃ i k : Nat, s4 = .int .i64 i ∧ i ≤ n ∧ wr = w0 ∧ s3 = .int .i64 k ∧ k ≤ 1000000 ∧ Hid (k ≤ 488 ∧ k = o.text.length + lensB (o.rows.take i) ∨ 488 < k ∧ 488 < o.text.length + lensB o.rows)) (fun _ v _ => n - (intOf v).toNat)
          case atStart => exact ⟨0, o.text.length, rfl, Nat.zero_le _, rfl, by go_num, by omega, by show _ ∨ _; simp [lensB]; omega⟩
          case round =>
            obtain ⟨i, k, rfl, hi, rfl, rfl, hk, HK⟩ := hrel
            by_cases hc : i < n ∧ k ≤ 488
            · have hci : (i : Int) < (n : Int) := by omega
              have hki : (k : Int) ≤ 488 := by omega
              have q1 : (0 : Int) ≤ (i : Int) := by omega
              have hil : i < o.rows.length := by rw [← HN.out]; omega
              obtain ⟨b0, o0, rfl, hb0, hcell⟩ := HC.out (by omega)
              have c1 := (BX.out.cell (p := ⟨b0, o0 + i, none⟩) hb0).trans (hcell i hil)
              have hlt := lensB_take o.rows i hil
              have hle := lensB_take_le o.rows (i + 1)
              have hr5 := HS3.out _ (List.getElem_mem hil)
              have rz : (⟨o.rows[i].toArray⟩ : ByteArray).size = o.rows[i].length := by simp [ByteArray.size]
              have HK2 : Hid (k + o.rows[i].length ≤ 488 ∧ k + o.rows[i].length = o.text.length + lensB (o.rows.take (i + 1)) ∨ 488 < k + o.rows[i].length ∧ 488 < o.text.length + lensB o.rows) := by
                show _ ∨ _
                have := HK.out
                omega
              clear hcell hlt hle HK
              generalize o.rows[i] = r at *
              go_wp2_with fail
              go_roundw
              case rel => exact ⟨i + 1, k + r.length, by go_num, by omega, by first | rfl | trivial, by go_num, by omega, HK2⟩
              case measure => simp [intOf] <;> omega
            · have HB5 : Hid (b3 = decide (k ≤ 488)) := by
                show _ = _
                rw [HB3.out]
                have := HK.out
                apply decide_eq_decide.2
                by_cases hin : i < n
                · omega
                · have hx : o.rows.take i = o.rows := List.take_of_length_le (by rw [← HN.out]; omega)
                  rw [hx] at this
                  omega
              have hexit : (i : Int) < (n : Int) ∧ ¬ (k : Int) ≤ 488 ∨ ¬ (i : Int) < (n : Int) := by omega
              clear HB3 HK hc
              by_cases hk4 : k ≤ 488
              · have hin : ¬ (i : Int) < (n : Int) := by omega
                have hki : (k : Int) ≤ 488 := by omega
                have HR : Hid (R = b4) := by
                  show _ = _
                  have h := HM.out
                  rw [HB5.out, decide_eq_true hk4] at h
                  simpa using h
                have D0 : Hid (Below wr.heap.size wr wr.drew) := Lib.hid ((Below.refl _ _).drew)
                have D1 := Lib.hid BX.out.drew
                have KC := Lib.hid fun W (hW : Below wr.heap.size wr W) => (⟨keep_cell hW x0, keep_cell hW x1, keep_cell hW x2, keep_cell hW x3, keep_cell hW x4, keep_cell hW x5, keep_cell hW x6, keep_cell hW x7, keep_cell hW x8⟩ : W.cell? ⟨w.heap.size, 0, none⟩ = some (.int .u8 o.kind) ∧ W.cell? ⟨w.heap.size, 1, none⟩ = some (.int .u32 o.page) ∧ W.cell? ⟨w.heap.size, 2, none⟩ = some (.int .i64 o.at_) ∧ W.cell? ⟨w.heap.size, 3, none⟩ = some (.int .i64 o.off) ∧ W.cell? ⟨w.heap.size, 4, none⟩ = some (.string ⟨o.text.toArray⟩) ∧ W.cell? ⟨w.heap.size, 5, none⟩ = some (.slice A n cp) ∧ W.cell? ⟨w.heap.size, 6, none⟩ = some (.int .u8 o.pk) ∧ W.cell? ⟨w.heap.size, 7, none⟩ = some (.int .u8 o.lv) ∧ W.cell? ⟨w.heap.size, 8, none⟩ = some (.int .u32 o.nx))
                clear hexit HM HB5
                go_upto_region 10 with fail
                clear x0 x1 x2 x3 x4 x5 x6 x7 x8
                go_region_held3 (fun W => W.cell? ⟨w.heap.size, 0, none⟩ = some (.int .u8 o.kind) ∧ W.cell? ⟨w.heap.size, 1, none⟩ = some (.int .u32 o.page) ∧ W.cell? ⟨w.heap.size, 2, none⟩ = some (.int .i64 o.at_) ∧ W.cell? ⟨w.heap.size, 3, none⟩ = some (.int .i64 o.off) ∧ W.cell? ⟨w.heap.size, 4, none⟩ = some (.string ⟨o.text.toArray⟩) ∧ W.cell? ⟨w.heap.size, 5, none⟩ = some (.slice A n cp) ∧ W.cell? ⟨w.heap.size, 6, none⟩ = some (.int .u8 o.pk) ∧ W.cell? ⟨w.heap.size, 7, none⟩ = some (.int .u8 o.lv) ∧ W.cell? ⟨w.heap.size, 8, none⟩ = some (.int .u32 o.nx))
                  (first
                    | (with_reducible exact KC.out _ D0.out)
                    | (with_reducible exact KC.out _ hb2)
                    | (with_reducible exact KC.out _ hb1))
                  (first
                    | (go_at_call 147; refine (HSM.out sv' _ hbw ht').mono ?_; rintro e w2 ⟨rfl, hb3⟩; have hb2 := below_then hb1 hb3; have HB2 := Lib.hid (below_then hbw hb3))
                    | (go_at_call 148; refine (HON.out _ D1.out).mono ?_; rintro e w1 ⟨sv', rfl, ht', hb0⟩; have hb1 := below_then D0.out hb0; have hbw := below_then D1.out hb0; clear hb0))
                go_wp2_with fail
                go_ret
                exact ⟨by rw [HR.out]; rfl, HB2.out⟩
              · have hki : ¬ (k : Int) ≤ 488 := by omega
                have HR : Hid (R = false) := by
                  show _ = _
                  have h := HM.out
                  rw [HB5.out, decide_eq_false hk4] at h
                  simpa using h
                have D1 := Lib.hid BX.out.drew
                clear HM HB5
                rcases hexit with ⟨h1, _⟩ | h1
                all_goals
                  go_upto_region 10 with fail
                  go_region
                  all_goals (go_wp2_with fail)
                  (try simp only [Exit.inBlock, Exit.then]); refine bodyPost_ret (results_tmp rfl _ _ _) rfl ?_
                  exact ⟨ret_bool (by rw [HR.out]), D1.out⟩

end Go.Proofs.Ytienlhnbmobinaa
