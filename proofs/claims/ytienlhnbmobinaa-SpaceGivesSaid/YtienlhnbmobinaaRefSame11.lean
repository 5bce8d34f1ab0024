/- ref11: Same -/
import Derived.Test.YtienlhnbmobinaaRows
import Derived.Test.YtienlhnbmobinaaOpPlain
import Derived.Test.YtienlhnbmobinaaOpSame
import Derived.Test.YtienlhnbmobinaaOpPart
import Derived.Test.YtienlhnbmobinaaTextsP
import Derived.Test.YtienlhnbmobinaaPlains
import Derived.Test.YtienlhnbmobinaaBase
import Derived.Test.YtienlhnbmobinaaNodeWeigh
import Derived.WalkKit
import Derived.WalkLawsBesides
import Derived.WalkSpells
import Derived.LoopTactic
import Derived.WalkMore
import Derived.LoopN
import Derived.Laws.BitsAllLaws
import Derived.Laws.IdiomStrings
import Derived.BigQuiet
import Derived.Deep.QuietTactic
import Derived.Deep.DeepCutAuto
import Derived.Deep.RegionHeld3
import Derived.Deep.DrawnRows
import Derived.Lib.Hide
import Derived.Outline
import Derived.Deep.DeepMust
import Derived.Handy
namespace Go.Proofs.Ytienlhnbmobinaa
open Go.RowKit
set_option linter.unusedVariables false
set_option linter.unusedSimpArgs false

theorem od_rows {a b : Od} (h : ¬ a.rows = b.rows) : decide (a = b) = false := decide_eq_false fun e => h (by rw [e])
set_option maxHeartbeats 4000000 in
set_option maxRecDepth 100000 in
theorem refSame11_any (a b : Od) (sa sb : Value) (w : World) (ha : TextsAt w sa a.rows) (hb : TextsAt w sb b.rows) :
    Calls Try.prog 147 #[odV a sa, odV b sb] w fun e w' => e = .returned (.bool (decide (a = b))) ∧ Below w.heap.size w w' := by
  obtain ⟨A, cp, rfl, g2, g3, g4, g5⟩ := ha
  obtain ⟨B, cq, rfl, k2, k3, k4, k5⟩ := hb
  obtain ⟨n, hn⟩ : ∃ n, n = a.rows.length := ⟨_, rfl⟩
  obtain ⟨m, hm⟩ : ∃ m, m = b.rows.length := ⟨_, rfl⟩
  unfold odV
  rw [← hn] at g2
  rw [← hm] at k2
  simp only [← hn, ← hm]
  unfold maxLen at g3 k3
  have H5 := Lib.hid g5
  have K5 := Lib.hid k5
  have HN := Lib.hid hn
  have KN := Lib.hid hm
  have HD : Hid (∀ i (h1 : i < a.rows.length) (h2 : i < b.rows.length), a.rows[i] ≠ b.rows[i] → decide (a = b) = false) := fun i h1 h2 h => od_rows (fun e => h (by simp only [e]))
  have HT : Hid (n = m → a.rows.take n = b.rows.take n → a.rows = b.rows) := fun h e => by
    rw [List.take_of_length_le (by rw [HN.out]; exact Nat.le_refl _), List.take_of_length_le (by rw [h, KN.out]; exact Nat.le_refl _)] at e
    exact e
  have HE : Hid (n ≠ m → decide (a = b) = false) := fun h => od_rows (fun e => h (by rw [HN.out, KN.out, e]))
  have HS : Hid (∀ i (h1 : i < a.rows.length) (h2 : i < b.rows.length), a.rows.take i = b.rows.take i → a.rows[i] = b.rows[i] → a.rows.take (i + 1) = b.rows.take (i + 1)) := fun i h1 h2 h => take_eq_succ a.rows b.rows i h1 h2 h
  have HG : Hid (∀ i (h : i < a.rows.length), a.rows.getD i [] = a.rows[i]) := fun i h => by simp [h]
  have HG2 : Hid (∀ i (h : i < b.rows.length), b.rows.getD i [] = b.rows[i]) := fun i h => by simp [h]
  clear g5 k5 g4 k4 hn hm
  obtain ⟨P0, P1, B0⟩ := two_boxes w a b (.slice A n cp) (.slice B m cq)
  have B0 := Lib.hid B0
  obtain ⟨r, hr⟩ : ∃ r, r = decide (a = b) := ⟨_, rfl⟩
  rw [← hr]
  go_enter Try.func147, Try.ntmps147
  go_upto_region 1 with fail
  generalize (w.alloc (.cells #[.int .u8 a.kind, .int .u32 a.page, .int .i64 a.at_, .int .i64 a.off, .string ⟨a.text.toArray⟩, (.slice A n cp), .int .u8 a.pk, .int .u8 a.lv, .int .u32 a.nx] 28)).alloc (.cells #[.int .u8 b.kind, .int .u32 b.page, .int .i64 b.at_, .int .i64 b.off, .string ⟨b.text.toArray⟩, (.slice B m cq), .int .u8 b.pk, .int .u8 b.lv, .int .u32 b.nx] 28) = w0 at *
  obtain ⟨x0, x1, x2, x3, x4, x5, x6, x7, x8⟩ := P0.cells
  obtain ⟨y0, y1, y2, y3, y4, y5, y6, y7, y8⟩ := P1.cells
  generalize hta : (⟨a.text.toArray⟩ : ByteArray) = ta at *
  generalize htb : (⟨b.text.toArray⟩ : ByteArray) = tb at *
  have hta := Lib.hid hta
  have htb := Lib.hid htb
  clear P0 P1
  by_cases h0 : a.kind = b.kind
  case neg =>
    have f0 : ((a.kind : Int) != (b.kind : Int)) = true := by simp; omega
    replace hr : Hid (r = false) := Lib.hid (hr.trans (od_ne Od.kind h0))
    clear HD HT HE HS HG HG2 h0
    go_wp2_with fail
    go_ret
    exact ⟨by rw [hr.out]; rfl, B0.out⟩
  by_cases h1 : a.page = b.page
  case neg =>
    have f0 : ((a.kind : Int) != (b.kind : Int)) = false := by simp [h0]
    have f1 : ((a.page : Int) != (b.page : Int)) = true := by simp; omega
    replace hr : Hid (r = false) := Lib.hid (hr.trans (od_ne Od.page h1))
    clear HD HT HE HS HG HG2 h0 h1
    go_wp2_with fail
    go_ret
    exact ⟨by rw [hr.out]; rfl, B0.out⟩
  by_cases h2 : a.at_ = b.at_
  case neg =>
    have f0 : ((a.kind : Int) != (b.kind : Int)) = false := by simp [h0]
    have f1 : ((a.page : Int) != (b.page : Int)) = false := by simp [h1]
    have f2 : (a.at_ != b.at_) = true := by simp; omega
    replace hr : Hid (r = false) := Lib.hid (hr.trans (od_ne Od.at_ h2))
    clear HD HT HE HS HG HG2 h0 h1 h2
    go_wp2_with fail
    go_ret
    exact ⟨by rw [hr.out]; rfl, B0.out⟩
  by_cases h3 : a.off = b.off
  case neg =>
    have f0 : ((a.kind : Int) != (b.kind : Int)) = false := by simp [h0]
    have f1 : ((a.page : Int) != (b.page : Int)) = false := by simp [h1]
    have f2 : (a.at_ != b.at_) = false := by simp [h2]
    have f3 : (a.off != b.off) = true := by simp; omega
    replace hr : Hid (r = false) := Lib.hid (hr.trans (od_ne Od.off h3))
    clear HD HT HE HS HG HG2 h0 h1 h2 h3
    go_wp2_with fail
    go_ret
    exact ⟨by rw [hr.out]; rfl, B0.out⟩
  by_cases h4 : a.text = b.text
  case neg =>
    have f0 : ((a.kind : Int) != (b.kind : Int)) = false := by simp [h0]
    have f1 : ((a.page : Int) != (b.page : Int)) = false := by simp [h1]
    have f2 : (a.at_ != b.at_) = false := by simp [h2]
    have f3 : (a.off != b.off) = false := by simp [h3]
    have e4 : (ta.toList == tb.toList) = false := by rw [← hta.out, ← htb.out, text_eq]; simpa using h4
    have f4 : (!(ta.toList == tb.toList)) = true := by rw [e4]; rfl
    replace hr : Hid (r = false) := Lib.hid (hr.trans (od_ne Od.text h4))
    clear HD HT HE HS HG HG2 h0 h1 h2 h3 h4
    go_wp2_with fail
    go_ret
    exact ⟨by rw [hr.out]; rfl, B0.out⟩
  by_cases h5 : a.pk = b.pk
  case neg =>
    have f0 : ((a.kind : Int) != (b.kind : Int)) = false := by simp [h0]
    have f1 : ((a.page : Int) != (b.page : Int)) = false := by simp [h1]
    have f2 : (a.at_ != b.at_) = false := by simp [h2]
    have f3 : (a.off != b.off) = false := by simp [h3]
    have e4 : (ta.toList == tb.toList) = true := by rw [← hta.out, ← htb.out, text_eq]; simpa using h4
    have f4 : (!(ta.toList == tb.toList)) = false := by rw [e4]; rfl
    have f5 : ((a.pk : Int) != (b.pk : Int)) = true := by simp; omega
    replace hr : Hid (r = false) := Lib.hid (hr.trans (od_ne Od.pk h5))
    clear HD HT HE HS HG HG2 h0 h1 h2 h3 h4 h5
    go_wp2_with fail
    go_ret
    exact ⟨by rw [hr.out]; rfl, B0.out⟩
  by_cases h6 : a.lv = b.lv
  case neg =>
    have f0 : ((a.kind : Int) != (b.kind : Int)) = false := by simp [h0]
    have f1 : ((a.page : Int) != (b.page : Int)) = false := by simp [h1]
    have f2 : (a.at_ != b.at_) = false := by simp [h2]
    have f3 : (a.off != b.off) = false := by simp [h3]
    have e4 : (ta.toList == tb.toList) = true := by rw [← hta.out, ← htb.out, text_eq]; simpa using h4
    have f4 : (!(ta.toList == tb.toList)) = false := by rw [e4]; rfl
    have f5 : ((a.pk : Int) != (b.pk : Int)) = false := by simp [h5]
    have f6 : ((a.lv : Int) != (b.lv : Int)) = true := by simp; omega
    replace hr : Hid (r = false) := Lib.hid (hr.trans (od_ne Od.lv h6))
    clear HD HT HE HS HG HG2 h0 h1 h2 h3 h4 h5 h6
    go_wp2_with fail
    go_ret
    exact ⟨by rw [hr.out]; rfl, B0.out⟩
  by_cases h7 : a.nx = b.nx
  case neg =>
    have f0 : ((a.kind : Int) != (b.kind : Int)) = false := by simp [h0]
    have f1 : ((a.page : Int) != (b.page : Int)) = false := by simp [h1]
    have f2 : (a.at_ != b.at_) = false := by simp [h2]
    have f3 : (a.off != b.off) = false := by simp [h3]
    have e4 : (ta.toList == tb.toList) = true := by rw [← hta.out, ← htb.out, text_eq]; simpa using h4
    have f4 : (!(ta.toList == tb.toList)) = false := by rw [e4]; rfl
    have f5 : ((a.pk : Int) != (b.pk : Int)) = false := by simp [h5]
    have f6 : ((a.lv : Int) != (b.lv : Int)) = false := by simp [h6]
    have f7 : ((a.nx : Int) != (b.nx : Int)) = true := by simp; omega
    replace hr : Hid (r = false) := Lib.hid (hr.trans (od_ne Od.nx h7))
    clear HD HT HE HS HG HG2 h0 h1 h2 h3 h4 h5 h6 h7
    go_wp2_with fail
    go_ret
    exact ⟨by rw [hr.out]; rfl, B0.out⟩
  have f0 : ((a.kind : Int) != (b.kind : Int)) = false := by simp [h0]
  have f1 : ((a.page : Int) != (b.page : Int)) = false := by simp [h1]
  have f2 : (a.at_ != b.at_) = false := by simp [h2]
  have f3 : (a.off != b.off) = false := by simp [h3]
  have e4 : (ta.toList == tb.toList) = true := by rw [← hta.out, ← htb.out, text_eq]; simpa using h4
  have f4 : (!(ta.toList == tb.toList)) = false := by rw [e4]; rfl
  have f5 : ((a.pk : Int) != (b.pk : Int)) = false := by simp [h5]
  have f6 : ((a.lv : Int) != (b.lv : Int)) = false := by simp [h6]
  have f7 : ((a.nx : Int) != (b.nx : Int)) = false := by simp [h7]
  have HQ : Hid (n = m → a.rows.take n = b.rows.take n → decide (a = b) = true) := fun h e => decide_eq_true (od_eq h0 h1 h2 h3 h4 (HT.out h e) h5 h6 h7)
  clear HT
  have hr := Lib.hid hr
  clear h0 h1 h2 h3 h4 h5 h6 h7
  by_cases hnm : n = m
  · subst hnm
    have z0 : ((n : Int) != (n : Int)) = false := by simp
    go_wp2_with fail
    go_loopw [5] (fun s5 wr => ∃ i : Nat, s5 = .int .i64 i ∧ i ≤ n ∧ Hid (Below w.heap.size w wr) ∧ Hid (a.rows.take i = b.rows.take i) ∧ wr.cell? ⟨w.heap.size, 5, none⟩ = some (.slice A n cp) ∧ wr.cell? ⟨w.heap.size + 1, 5, none⟩ = some (.slice B n cq)) (fun v _ => n - (intOf v).toNat)
    case atStart => exact ⟨0, rfl, Nat.zero_le _, B0, Lib.hid (by simp), x5, y5⟩
    case round =>
      obtain ⟨i, rfl, hi, hB, hT, x5, y5⟩ := hrel
      by_cases hc : i < n
      · have hci : (i : Int) < (n : Int) := by omega
        have hia : i < a.rows.length := by rw [← HN.out]; exact hc
        have hib : i < b.rows.length := by rw [← KN.out]; exact hc
        obtain ⟨b0, o0, rfl, hl0, hcell⟩ := H5.out (by omega)
        obtain ⟨b1, o1, rfl, hl1, kcell⟩ := K5.out (by omega)
        have c1 := keep_cell hB.out (hcell i hia)
        have c2 := keep_cell hB.out (kcell i hib)
        have q1 : (0 : Int) ≤ (i : Int) := by omega
        have HX := Lib.hid (HD.out i hia hib)
        have HS2 := Lib.hid (HS.out i hia hib hT.out)
        clear hcell kcell HS HD HG HG2
        generalize a.rows[i] = x at *
        generalize b.rows[i] = y at *
        by_cases hxy : x = y
        · have e3 : (x == y) = true := by simpa using hxy
          have e4 : (!x == y) = false := by rw [e3]; rfl
          have HS3 := Lib.hid (HS2.out hxy)
          clear hxy
          go_wp2_with fail
          go_region
          all_goals (go_wp2_with fail)
          exact ⟨⟨i + 1, by go_num, by omega, Lib.hid hB.out.drew, HS3, x5, y5⟩, by simp [intOf] <;> omega⟩
        · have hne : x ≠ y := hxy
          have e3 : (x == y) = false := by simpa using hne
          have e4 : (!x == y) = true := by rw [e3]; rfl
          have e := Lib.hid (HX.out hne)
          clear hxy hne
          go_wp2_with fail
          go_region
          all_goals (go_wp2_with fail)
          (try simp only [Exit.inBlock, Exit.then]); refine bodyPost_ret (results_tmp rfl _ _ _) rfl ?_
          exact ⟨ret_bool (by first | rw [hr.out, e.out] | rw [e.out]), hB.out.drew⟩
      · have hci : ¬ (i : Int) < (n : Int) := by omega
        have hin : i = n := by omega
        have hT2 := hT.out
        rw [hin] at hT2
        have e := Lib.hid (HQ.out (by first | rfl | trivial) hT2)
        clear hT2 hin
        go_wp2_with fail
        go_ret
        exact ⟨ret_bool (by first | rw [hr.out, e.out] | rw [e.out]), hB.out⟩
  · have hnmj : ((n : Int) != (m : Int)) = true := by simp; omega
    have e := Lib.hid (HE.out hnm)
    go_wp2_with fail
    go_ret
    exact ⟨ret_bool (by first | rw [hr.out, e.out] | rw [e.out]), B0.out⟩

end Go.Proofs.Ytienlhnbmobinaa
