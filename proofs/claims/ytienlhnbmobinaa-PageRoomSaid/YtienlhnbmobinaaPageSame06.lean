/- page.Same, Room; ref06.Same, Room -/
import Derived.Test.YtienlhnbmobinaaRows
import Derived.Test.YtienlhnbmobinaaBase
import Derived.Test.YtienlhnbmobinaaPlains
import Derived.Test.YtienlhnbmobinaaTextsP
import Derived.Test.YtienlhnbmobinaaPagePlain
import Derived.Test.YtienlhnbmobinaaOpSame
import Derived.Test.YtienlhnbmobinaaNodeWeigh
import Derived.Deep.CutBlock
import Derived.WalkKit
import Derived.WalkLawsBesides
import Derived.WalkSpells
import Derived.LoopTactic
import Derived.WalkMore
import Derived.LoopN
import Derived.Laws.BitsAllLaws
import Derived.Laws.IdiomStrings
import Derived.BigQuiet
import Derived.Deep.QuietTactic
import Derived.Deep.DeepCutAuto
import Derived.Deep.RegionHeld3
import Derived.Deep.DrawnRows
import Derived.Lib.Hide
import Derived.Outline
import Derived.Deep.DeepMust
import Derived.Handy
namespace Go.Proofs.Ytienlhnbmobinaa
open Go.RowKit
set_option linter.unusedVariables false
set_option linter.unusedSimpArgs false

theorem pg_ne {β : Type} [DecidableEq β] {a b : Pg} (f : Pg → β) (h : ¬ f a = f b) : decide (a = b) = false := decide_eq_false fun e => h (by rw [e])
theorem pg_eq {a b : Pg} (h0 : a.kind = b.kind) (h1 : a.level = b.level) (h2 : a.id = b.id) (h3 : a.lsn = b.lsn) (h4 : a.next = b.next) (h5 : a.rows = b.rows) : a = b := by
  cases a
  cases b
  simp only at h0 h1 h2 h3 h4 h5
  subst h0 h1 h2 h3 h4 h5
  rfl
theorem nbt {x y : Nat} (h : x = y) : ((x : Int) == (y : Int)) = true := by simp [h]
theorem nbf {x y : Nat} (h : ¬ x = y) : ((x : Int) == (y : Int)) = false := by simp; omega
theorem nnt {x y : Nat} (h : x = y) : ((x : Int) != (y : Int)) = false := by simp [h]
theorem nnf {x y : Nat} (h : ¬ x = y) : ((x : Int) != (y : Int)) = true := by simp; omega
set_option maxHeartbeats 4000000 in
set_option maxRecDepth 100000 in
theorem pageSame_any (a b : Pg) (sa sb : Value) (w : World) (ha : TextsAt w sa a.rows) (hb : TextsAt w sb b.rows) (hl : a.rows.length ≤ 1000000) (hl2 : b.rows.length ≤ 1000000) :
    Calls Try.prog 50 #[pgV a sa, pgV b sb] w fun e w' => e = .returned (.bool (decide (a = b))) ∧ Below w.heap.size w w' := by
  have HE := Lib.hid fun W (hB : Below w.heap.size w W) => equalTexts_any sa sb a.rows b.rows W (ha.below hB) (hb.below hB) hl hl2
  clear ha hb hl hl2
  have P0 := Lib.hid ((PgBox.new w a.kind a.level a.id a.lsn a.next sa).keep (.cells #[.int .u8 b.kind, .int .u8 b.level, .int .u32 b.id, .int .u64 b.lsn, .int .u32 b.next, sb] 26))
  have P1 := Lib.hid (PgBox.new (w.alloc (.cells #[.int .u8 a.kind, .int .u8 a.level, .int .u32 a.id, .int .u64 a.lsn, .int .u32 a.next, sa] 26)) b.kind b.level b.id b.lsn b.next sb)
  have hz1 : (w.alloc (.cells #[.int .u8 a.kind, .int .u8 a.level, .int .u32 a.id, .int .u64 a.lsn, .int .u32 a.next, sa] 26)).heap.size = w.heap.size + 1 := by simp
  rw [hz1] at P1
  clear hz1
  have B0 := Lib.hid ((alloc_below w (.cells #[.int .u8 a.kind, .int .u8 a.level, .int .u32 a.id, .int .u64 a.lsn, .int .u32 a.next, sa] 26)).alloc (by simp) (.cells #[.int .u8 b.kind, .int .u8 b.level, .int .u32 b.id, .int .u64 b.lsn, .int .u32 b.next, sb] 26))
  unfold pgV
  obtain ⟨r, hr⟩ : ∃ r, r = decide (a = b) := ⟨_, rfl⟩
  rw [← hr]
  go_enter Try.func50, Try.ntmps50
  go_upto_region 1 with fail
  generalize (w.alloc (.cells #[.int .u8 a.kind, .int .u8 a.level, .int .u32 a.id, .int .u64 a.lsn, .int .u32 a.next, sa] 26)).alloc (.cells #[.int .u8 b.kind, .int .u8 b.level, .int .u32 b.id, .int .u64 b.lsn, .int .u32 b.next, sb] 26) = w0 at *
  obtain ⟨x0, x1, x2, x3, x4, x5, x6⟩ := P0.out.cells
  obtain ⟨y0, y1, y2, y3, y4, y5, y6⟩ := P1.out.cells
  clear P0 P1
  by_cases h0 : a.kind = b.kind
  case neg =>
    have e0 := nbf h0
    replace hr : Hid (r = false) := Lib.hid (hr.trans (pg_ne Pg.kind h0))
    clear h0
    go_wp2_with fail
    go_ret
    exact ⟨by rw [hr.out]; rfl, B0.out⟩
  by_cases h1 : a.level = b.level
  case neg =>
    have e0 := nbt h0
    have e1 := nbf h1
    replace hr : Hid (r = false) := Lib.hid (hr.trans (pg_ne Pg.level h1))
    clear h0 h1
    go_wp2_with fail
    go_ret
    exact ⟨by rw [hr.out]; rfl, B0.out⟩
  by_cases h2 : a.id = b.id
  case neg =>
    have e0 := nbt h0
    have e1 := nbt h1
    have e2 := nbf h2
    replace hr : Hid (r = false) := Lib.hid (hr.trans (pg_ne Pg.id h2))
    clear h0 h1 h2
    go_wp2_with fail
    go_ret
    exact ⟨by rw [hr.out]; rfl, B0.out⟩
  by_cases h3 : a.lsn = b.lsn
  case neg =>
    have e0 := nbt h0
    have e1 := nbt h1
    have e2 := nbt h2
    have e3 := nbf h3
    replace hr : Hid (r = false) := Lib.hid (hr.trans (pg_ne Pg.lsn h3))
    clear h0 h1 h2 h3
    go_wp2_with fail
    go_ret
    exact ⟨by rw [hr.out]; rfl, B0.out⟩
  by_cases h4 : a.next = b.next
  case neg =>
    have e0 := nbt h0
    have e1 := nbt h1
    have e2 := nbt h2
    have e3 := nbt h3
    have e4 := nbf h4
    replace hr : Hid (r = false) := Lib.hid (hr.trans (pg_ne Pg.next h4))
    clear h0 h1 h2 h3 h4
    go_wp2_with fail
    go_ret
    exact ⟨by rw [hr.out]; rfl, B0.out⟩
  have hr2 : r = decide (a.rows = b.rows) := by
    rw [hr]
    by_cases h5 : a.rows = b.rows
    · rw [decide_eq_true h5]; exact decide_eq_true (pg_eq h0 h1 h2 h3 h4 h5)
    · rw [decide_eq_false h5]; exact pg_ne Pg.rows h5
  rw [← hr2] at HE
  have e0 := nbt h0
  have e1 := nbt h1
  have e2 := nbt h2
  have e3 := nbt h3
  have e4 := nbt h4
  clear hr hr2 h0 h1 h2 h3 h4
  go_wp2_with fail
  refine (HE.out _ B0.out).mono ?_
  rintro e w1 ⟨rfl, hb1⟩
  have B1 := Lib.hid (below_then B0.out hb1)
  clear hb1
  go_wp2_with fail
  go_ret
  exact ⟨rfl, B1.out⟩
set_option maxHeartbeats 4000000 in
set_option maxRecDepth 100000 in
theorem refSame06_any (a b : Pg) (sa sb : Value) (w : World) (ha : TextsAt w sa a.rows) (hb : TextsAt w sb b.rows) :
    Calls Try.prog 23 #[pgV a sa, pgV b sb] w fun e w' => e = .returned (.bool (decide (a = b))) ∧ Below w.heap.size w w' := by
  obtain ⟨A, cp, rfl, h2, h3, h4x, h5x⟩ := ha
  obtain ⟨B, cq, rfl, k2, k3, k4x, k5x⟩ := hb
  obtain ⟨sa, hsa⟩ : ∃ x : Value, x = .slice A a.rows.length cp := ⟨_, rfl⟩
  obtain ⟨sb, hsb⟩ : ∃ x : Value, x = .slice B b.rows.length cq := ⟨_, rfl⟩
  rw [← hsa, ← hsb]
  unfold maxLen at h3 k3
  have H5 := Lib.hid h5x
  have K5 := Lib.hid k5x
  clear h4x h5x k4x k5x
  have P0 := Lib.hid ((PgBox.new w a.kind a.level a.id a.lsn a.next sa).keep (.cells #[.int .u8 b.kind, .int .u8 b.level, .int .u32 b.id, .int .u64 b.lsn, .int .u32 b.next, sb] 26))
  have P1 := Lib.hid (PgBox.new (w.alloc (.cells #[.int .u8 a.kind, .int .u8 a.level, .int .u32 a.id, .int .u64 a.lsn, .int .u32 a.next, sa] 26)) b.kind b.level b.id b.lsn b.next sb)
  have hz1 : (w.alloc (.cells #[.int .u8 a.kind, .int .u8 a.level, .int .u32 a.id, .int .u64 a.lsn, .int .u32 a.next, sa] 26)).heap.size = w.heap.size + 1 := by simp
  rw [hz1] at P1
  clear hz1
  have B0 := Lib.hid ((alloc_below w (.cells #[.int .u8 a.kind, .int .u8 a.level, .int .u32 a.id, .int .u64 a.lsn, .int .u32 a.next, sa] 26)).alloc (by simp) (.cells #[.int .u8 b.kind, .int .u8 b.level, .int .u32 b.id, .int .u64 b.lsn, .int .u32 b.next, sb] 26))
  unfold pgV
  obtain ⟨r, hr⟩ : ∃ r, r = decide (a = b) := ⟨_, rfl⟩
  rw [← hr]
  subst hsa hsb
  obtain ⟨n, hn⟩ : ∃ n, n = a.rows.length := ⟨_, rfl⟩
  obtain ⟨m, hm⟩ : ∃ n, n = b.rows.length := ⟨_, rfl⟩
  rw [← hn] at h2 P0 P1 B0 ⊢
  rw [← hm] at k2 P0 P1 B0 ⊢
  have HN := Lib.hid hn
  have HM := Lib.hid hm
  clear hn hm
  go_enter Try.func23, Try.ntmps23
  go_upto_region 1 with fail
  generalize (w.alloc (.cells #[.int .u8 a.kind, .int .u8 a.level, .int .u32 a.id, .int .u64 a.lsn, .int .u32 a.next, (.slice A n cp)] 26)).alloc (.cells #[.int .u8 b.kind, .int .u8 b.level, .int .u32 b.id, .int .u64 b.lsn, .int .u32 b.next, (.slice B m cq)] 26) = w0 at *
  obtain ⟨x0, x1, x2, x3, x4, x5, x6⟩ := P0.out.cells
  obtain ⟨y0, y1, y2, y3, y4, y5, y6⟩ := P1.out.cells
  by_cases h0 : a.kind = b.kind
  case neg =>
    have e0 := nnf h0
    replace hr : Hid (r = false) := Lib.hid (hr.trans (pg_ne Pg.kind h0))
    clear h0
    go_wp2_with fail
    go_ret
    exact ⟨by rw [hr.out]; rfl, B0.out⟩
  by_cases h1 : a.level = b.level
  case neg =>
    have e0 := nnt h0
    have e1 := nnf h1
    replace hr : Hid (r = false) := Lib.hid (hr.trans (pg_ne Pg.level h1))
    clear h0 h1
    go_wp2_with fail
    go_ret
    exact ⟨by rw [hr.out]; rfl, B0.out⟩
  by_cases h2 : a.id = b.id
  case neg =>
    have e0 := nnt h0
    have e1 := nnt h1
    have e2 := nnf h2
    replace hr : Hid (r = false) := Lib.hid (hr.trans (pg_ne Pg.id h2))
    clear h0 h1 h2
    go_wp2_with fail
    go_ret
    exact ⟨by rw [hr.out]; rfl, B0.out⟩
  by_cases h3 : a.lsn = b.lsn
  case neg =>
    have e0 := nnt h0
    have e1 := nnt h1
    have e2 := nnt h2
    have e3 := nnf h3
    replace hr : Hid (r = false) := Lib.hid (hr.trans (pg_ne Pg.lsn h3))
    clear h0 h1 h2 h3
    go_wp2_with fail
    go_ret
    exact ⟨by rw [hr.out]; rfl, B0.out⟩
  by_cases h4 : a.next = b.next
  case neg =>
    have e0 := nnt h0
    have e1 := nnt h1
    have e2 := nnt h2
    have e3 := nnt h3
    have e4 := nnf h4
    replace hr : Hid (r = false) := Lib.hid (hr.trans (pg_ne Pg.next h4))
    clear h0 h1 h2 h3 h4
    go_wp2_with fail
    go_ret
    exact ⟨by rw [hr.out]; rfl, B0.out⟩
  have hr2 : r = decide (a.rows = b.rows) := by
    rw [hr]
    by_cases h5 : a.rows = b.rows
    · rw [decide_eq_true h5]; exact decide_eq_true (pg_eq h0 h1 h2 h3 h4 h5)
    · rw [decide_eq_false h5]; exact pg_ne Pg.rows h5
  have HR := Lib.hid hr2
  have e0 := nnt h0
  have e1 := nnt h1
  have e2 := nnt h2
  have e3 := nnt h3
  have e4 := nnt h4
  clear hr hr2 h0 h1 h2 h3 h4
  by_cases hnm : n = m
  case neg =>
    have e5 := nnf hnm
    have HX : Hid (r = false) := by
      show _ = _
      rw [HR.out]
      exact decide_eq_false fun e => hnm (by rw [HN.out, HM.out, e])
    go_wp2_with fail
    go_ret
    exact ⟨by rw [HX.out]; rfl, B0.out⟩
  have e5 := nnt hnm
  subst hnm
  go_wp2_with fail
  clear x0 x1 x2 x3 x4 x5 x6 y0 y1 y2 y3 y4 y5 y6 e0 e1 e2 e3 e4 e5
  go_loopw [5] (fun s5 wr => ∃ i : Nat, s5 = .int .i64 i ∧ i ≤ n ∧ Hid (a.rows.take i = b.rows.take i) ∧ Hid (Below w0.heap.size w0 wr)) (fun v _ => n - (intOf v).toNat)
  case atStart => exact ⟨0, rfl, Nat.zero_le _, Lib.hid rfl, Lib.hid (Below.refl _ _)⟩
  case round =>
    obtain ⟨i, rfl, hi, HE, hB⟩ := hrel
    obtain ⟨x0, x1, x2, x3, x4, x5, x6⟩ := (P0.out.below hB.out).cells
    obtain ⟨y0, y1, y2, y3, y4, y5, y6⟩ := (P1.out.below hB.out).cells
    have BE := Lib.hid (B0.out.trans (hB.out.mono B0.out.size))
    by_cases hc : i < n
    · have hci : (i : Int) < (n : Int) := by omega
      have hia : i < a.rows.length := by rw [← HN.out]; exact hc
      have hib : i < b.rows.length := by rw [← HM.out]; exact hc
      obtain ⟨b0, o0, rfl, _, hcell⟩ := H5.out (by omega)
      obtain ⟨b1, o1, rfl, _, kcell⟩ := K5.out (by omega)
      have c1 := keep_cell BE.out (hcell i hia)
      have c2 := keep_cell BE.out (kcell i hib)
      have q1 : (0 : Int) ≤ (i : Int) := by omega
      have TK := Lib.hid fun (h : a.rows[i] = b.rows[i]) => take_eq_succ a.rows b.rows i hia hib HE.out h
      have TN := Lib.hid fun (h : ¬ a.rows[i] = b.rows[i]) => (decide_eq_false (fun e => h (by simp only [e])) : decide (a.rows = b.rows) = false)
      clear hcell kcell
      generalize a.rows[i] = p at *
      generalize b.rows[i] = q at *
      go_wp2_with fail
      have t0 := ext_cell x6 x0
      have t1 := ext_cell y6 y0
      have t2 := ext_cell c1 (cell_lt c1)
      have t3 := ext_cell c2 (cell_lt c2)
      obtain ⟨bq, hbq⟩ : ∃ x, x = (p == q) := ⟨_, rfl⟩
      have r1 : (p == q) = bq := hbq.symm
      have r2 : (!p == q) = !bq := by rw [hbq]
      have HBQ := Lib.hid hbq
      clear hbq
      refine wp_region_ext wr.heap.size (by kernel_rfl) (by kernel_rfl) ?_
      repeat (go_big_quiet_step (fail))
      refine wpQuiet_nil ?_
      rintro _ ⟨z, rfl⟩
      have BZ := Lib.hid (below_then hB.out z.below)
      generalize z.val = w5 at *
      clear t0 t1 t2 t3 x0 x1 x2 x3 x4 x5 x6 y0 y1 y2 y3 y4 y5 y6 c1 c2 r1 r2
      cases hbb : bq with
      | true =>
        have hpq : p = q := by have := HBQ.out; rw [hbb] at this; simpa using this.symm
        have HE2 := Lib.hid (TK.out hpq)
        clear hbb HBQ TK TN hpq
        go_wp2_with fail
        go_roundw
        case rel => exact ⟨i + 1, by go_num, by omega, HE2, BZ⟩
        case measure => simp [intOf]; omega
      | false =>
        have hpq : ¬ p = q := by have := HBQ.out; rw [hbb] at this; simpa using this.symm
        have HX : Hid (r = false) := by show _ = _; rw [HR.out, TN.out hpq]
        clear hbb HBQ TK TN hpq
        go_wp2_with fail
        go_ret
        exact ⟨by rw [HX.out]; rfl, (B0.out.trans (BZ.out.mono B0.out.size))⟩
    · have hci : ¬ (i : Int) < (n : Int) := by omega
      have HX : Hid (r = true) := by
        show _ = _
        rw [HR.out]
        have h := HE.out
        rw [List.take_of_length_le (by rw [← HN.out]; omega), List.take_of_length_le (by rw [← HM.out]; omega)] at h
        exact decide_eq_true h
      go_wp2_with fail
      go_ret
      exact ⟨by rw [HX.out]; rfl, BE.out⟩
theorem run_max_neg {P : Program} (x : Int) (ats : Array TypeId) (ty : TypeId) (W : World) : (Builtin.max_ ats ty #[.int .i64 x, .int .i64 (-1)]).run P W = .ok (.int .i64 (if x < -1 then -1 else x)) W := by
  simp [Builtin.max_, Builtin.max2]
set_option maxHeartbeats 2000000 in
set_option maxRecDepth 100000 in
theorem pageRoom_any (p : Pg) (sv : Value) (w : World) (ht : TextsAt w sv p.rows) (hb : weightB p.rows ≤ 1000000) :
    Calls Try.prog 48 #[pgV p sv] w fun e w' => e = .returned (.int .i64 (roomB p.rows)) ∧ Below w.heap.size w w' := by
  obtain ⟨kind, level, id, lsn, next, rows⟩ := p
  obtain ⟨A, cp, rfl, h2, h3, h4, h5⟩ := ht
  simp only at *
  obtain ⟨n, hn⟩ : ∃ n, n = rows.length := ⟨_, rfl⟩
  rw [← hn] at h2
  unfold pgV
  simp only [← hn]
  unfold maxLen at h3
  have hM : Hid (∀ W : Nat, W = weightB rows → roomB rows = if 480 - (W : Int) < -1 then -1 else 480 - (W : Int)) := by
    rintro W rfl
    rfl
  have H5 := Lib.hid h5
  have HN := Lib.hid hn
  clear h5 h4 hn
  generalize roomB rows = b at hM ⊢
  go_enter Try.func48, Try.ntmps48
  go_wp2_with fail
  go_loopw [3, 5, 9] (fun s3 s5 s9 wr => ∃ i : Nat, s9 = .int .i64 i ∧ i ≤ n ∧ wr = w.alloc (.cells #[.int .u8 kind, .int .u8 level, .int .u32 id, .int .u64 lsn, .int .u32 next, .slice A n cp] 26) ∧ s3 = .int .i64 (480 - (weightB (rows.take i) : Nat))) (fun _ _ v _ => n - (intOf v).toNat)
  case atStart => exact ⟨0, rfl, Nat.zero_le _, rfl, rfl⟩
  case round =>
    obtain ⟨i, rfl, hi, rfl, rfl⟩ := hrel
    by_cases hc : i < n
    · have hci : (i : Int) < (n : Int) := by omega
      have hix : i < rows.length := by rw [← HN.out]; exact hc
      obtain ⟨b0, o0, rfl, hb0, hcell⟩ := H5.out (by omega)
      have c1 := (Below.cell ((Below.refl w.heap.size w).alloc (Nat.le_refl _) (.cells #[.int .u8 kind, .int .u8 level, .int .u32 id, .int .u64 lsn, .int .u32 next, .slice (some ⟨b0, o0, none⟩) n cp] 26)) (show (⟨b0, o0 + i, none⟩ : Addr).block < w.heap.size from hb0)).trans (hcell i hix)
      have q1 : (0 : Int) ≤ (i : Int) := by omega
      have hw1 := weightB_take rows i hix
      have hw2 := weightB_take_le rows (i + 1)
      obtain ⟨s, hs⟩ : ∃ s : ByteArray, s = ⟨rows[i].toArray⟩ := ⟨_, rfl⟩
      have hsz : s.size = rows[i].length := by rw [hs]; simp [ByteArray.size]
      rw [← hs] at c1
      rw [← hsz] at hw1
      have HW := Lib.hid hw1
      have q2 : weightB (rows.take i) + (4 + s.size) ≤ 1000000 := by omega
      clear hcell hs hsz hw1 hw2
      generalize weightB (rows.take i) = W at *
      go_wp2_with fail
      go_roundw
      case rel => exact ⟨i + 1, by go_num, by omega, by first | rfl | trivial, by rw [HW.out]; go_num⟩
      case measure => simp [intOf] <;> omega
    · have hci : ¬ (i : Int) < (n : Int) := by omega
      have hin : rows.take i = rows := by rw [List.take_of_length_le]; rw [← HN.out]; omega
      have hM2 := Lib.hid (hM.out (weightB (rows.take i)) (by rw [hin]))
      clear hin hM
      have hle := weightB_take_le rows i
      generalize weightB (rows.take i) = W at *
      have hM3 := Lib.hid (run_max_neg (P := Try.prog) (480 - (W : Int)))
      have hMX : ∀ (ats : Array TypeId) (ty : TypeId) (wx : World), (Builtin.max_ ats ty #[.int .i64 (480 - (W : Int)), .int .i64 (-1)]).run Try.prog wx = .ok (.int .i64 b) wx := fun ats ty wx => by rw [hM3.out ats ty wx, hM2.out]
      go_wp2_with fail
      go_ret
      exact ⟨rfl, (Below.refl _ _).alloc (Nat.le_refl _) _⟩
def roomV (rows : List (List UInt8)) : Int := if (484 : Int) - (weightB rows : Nat) - 4 < 0 then -1 else (484 : Int) - (weightB rows : Nat) - 4
theorem roomV_eq (rows : List (List UInt8)) : roomV rows = roomB rows := by
  unfold roomV roomB
  split <;> split <;> omega
set_option maxHeartbeats 2000000 in
theorem refRoom06_any (p : Pg) (sv : Value) (w : World) (ht : TextsAt w sv p.rows) (hb : weightB p.rows ≤ 1000000) :
    Calls Try.prog 49 #[pgV p sv] w fun e w' => e = .returned (.int .i64 (roomV p.rows)) ∧ Below w.heap.size w w' := by
  have C := Lib.hid fun W (hW : TextsAt W sv p.rows) => refLeft_any p sv W hW hb
  have HT := Lib.hid ht
  obtain ⟨v, hv⟩ : ∃ v, v = roomV p.rows := ⟨_, rfl⟩
  rw [← hv]
  have HV := Lib.hid hv
  obtain ⟨kind, level, id, lsn, next, rows⟩ := p
  obtain ⟨A, cp, rfl, h2, h3, h4, h5⟩ := ht
  obtain ⟨n, hn⟩ : ∃ n, n = rows.length := ⟨_, rfl⟩
  simp only at *
  rw [← hn] at HT C ⊢
  obtain ⟨wt, hwt⟩ : ∃ k, k = weightB rows := ⟨_, rfl⟩
  rw [← hwt] at hb C
  have HWT := Lib.hid hwt
  clear hn h2 h3 h4 h5 hv hwt
  unfold pgV at *
  simp only at C
  have P0 := PgBox.new w kind level id lsn next (.slice A n cp)
  have B0 := Lib.hid (alloc_below w (.cells #[.int .u8 kind, .int .u8 level, .int .u32 id, .int .u64 lsn, .int .u32 next, .slice A n cp] 26))
  go_enter Try.func49, Try.ntmps49
  go_upto_region 1 with fail
  generalize w.alloc (.cells #[.int .u8 kind, .int .u8 level, .int .u32 id, .int .u64 lsn, .int .u32 next, .slice A n cp] 26) = w0 at *
  obtain ⟨_, p0, p1, p2, p3, p4, p5⟩ := P0.cells
  go_wp2_with fail
  refine (C.out _ (HT.out.below B0.out)).mono ?_
  rintro e w1 ⟨rfl, hb1⟩
  have B1 := Lib.hid (below_then B0.out hb1)
  clear hb1 p0 p1 p2 p3 p4 p5 P0 B0 C
  have m1 : IntKind.i64.wrap ((484 : Int) - (wt : Nat) - 4) = (484 : Int) - (wt : Nat) - 4 := IntWalk.i64_in _ ⟨by omega, by omega⟩
  by_cases hc : (484 : Int) - (wt : Nat) - 4 < 0
  · have HX : Hid (v = -1) := by show _ = _; rw [HV.out]; unfold roomV; rw [← HWT.out, if_pos hc]
    go_wp2_with fail
    go_ret
    exact ⟨by rw [HX.out]; rfl, B1.out⟩
  · have HX : Hid (v = (484 : Int) - (wt : Nat) - 4) := by show _ = _; rw [HV.out]; unfold roomV; rw [← HWT.out, if_neg hc]
    go_wp2_with fail
    go_ret
    exact ⟨by rw [HX.out]; rfl, B1.out⟩

end Go.Proofs.Ytienlhnbmobinaa
