/- Kept of our texts for this claim: OpSame PageSame06 SegRows -/
import Derived.Test.YtienlhnbmobinaaRows
import Derived.Test.YtienlhnbmobinaaTkAa
import Derived.Test.YtienlhnbmobinaaTkAc
import Derived.Test.YtienlhnbmobinaaTkAb
import Derived.Test.YtienlhnbmobinaaTkAg
import Derived.Test.YtienlhnbmobinaaTkAi
import Derived.Deep.CutBlock
import Derived.WalkKit
import Derived.WalkLawsBesides
import Derived.WalkSpells
import Derived.LoopTactic
import Derived.WalkMore
import Derived.LoopN
import Derived.Laws.BitsAllLaws
import Derived.Laws.IdiomStrings
import Derived.BigQuiet
import Derived.Deep.QuietTactic
import Derived.Deep.DeepCutAuto
import Derived.Deep.RegionHeld3
import Derived.Deep.DrawnRows
import Derived.Lib.Hide
import Derived.Outline
import Derived.Deep.DeepMust
import Derived.Handy
import Derived.Test.YtienlhnbmobinaaTkAe
import Derived.Test.YtienlhnbmobinaaTkAf
import Derived.Test.YtienlhnbmobinaaTkAh
section
/- chapter 11: op.Same, and slices.Equal of texts -/
namespace Go.Proofs.Ytienlhnbmobinaa
open Go.RowKit
set_option linter.unusedVariables false
set_option linter.unusedSimpArgs false
theorem below_drewN' {B : Nat} {w w' : World} (h : Below B w w') (n : Nat) : Below B w (w'.drewN n) := ⟨h.os, h.tape, h.output, h.size, h.block⟩
theorem strs_map_inj : ∀ (xs ys : List (List UInt8)), xs.map (fun t => (⟨t.toArray⟩ : ByteArray)) = ys.map (fun t => (⟨t.toArray⟩ : ByteArray)) → xs = ys := by
  intro xs ys h
  have := congrArg (List.map (fun (s : ByteArray) => s.data.toList)) h
  rw [List.map_map, List.map_map] at this
  have e : ((fun (s : ByteArray) => s.data.toList) ∘ fun (t : List UInt8) => (⟨t.toArray⟩ : ByteArray)) = id := by
    funext t
    simp
  rwa [e, List.map_id, List.map_id] at this
set_option maxHeartbeats 2000000 in
set_option maxRecDepth 100000 in
/-- slices.Equal of two slices of texts. -/
theorem equalTexts_any (sa sb : Value) (xs ys : List (List UInt8)) (w : World) (ha : TextsAt w sa xs) (hb : TextsAt w sb ys) (hl : xs.length ≤ 1000000) (hl2 : ys.length ≤ 1000000) :
    Calls Try.prog 106 #[sa, sb] w fun e w' => e = .returned (.bool (decide (xs = ys))) ∧ Below w.heap.size w w' := by
  obtain ⟨A, cp, rfl, h2, h3, h4, h5⟩ := ha
  obtain ⟨B, cq, rfl, k2, k3, k4, k5⟩ := hb
  by_cases hn : xs.length = ys.length
  · rcases Nat.eq_zero_or_pos xs.length with h0 | h0
    · have e1 := List.eq_nil_of_length_eq_zero h0
      have e2 := List.eq_nil_of_length_eq_zero (hn ▸ h0)
      subst e1 e2
      refine (Try.slices_Equal_string_empty A B cp 0 cq w (by omega)).mono ?_
      rintro e w' ⟨rfl, rfl⟩
      exact ⟨rfl, Below.refl _ _⟩
    · obtain ⟨b, o, rfl, _, hc⟩ := h5 h0
      obtain ⟨b', o', rfl, _, kc⟩ := k5 (hn ▸ h0)
      refine (Try.slices_Equal_string b o xs.length cp b' o' ys.length cq (xs.map fun t => ⟨t.toArray⟩) (ys.map fun t => ⟨t.toArray⟩) w (by simp) (by simp) (by omega) (by omega) (fun j hj => ?_) (fun j hj => ?_)).mono ?_
      · have hj' : j < xs.length := by simpa using hj
        rw [hc j hj']
        simp [List.getD_eq_getElem?_getD, hj']
      · have hj' : j < ys.length := by simpa using hj
        rw [kc j hj']
        simp [List.getD_eq_getElem?_getD, hj']
      · rintro e w' ⟨rfl, q, rfl⟩
        refine ⟨?_, below_drewN' (Below.refl _ _) q⟩
        rw [List.take_of_length_le (by simp), List.take_of_length_le (by simp)]
        congr 2
        exact decide_eq_decide.2 ⟨fun h => strs_map_inj _ _ h, fun h => by rw [h]⟩
  · have e1 : decide (xs = ys) = false := decide_eq_false fun h => hn (by rw [h])
    rw [e1]
    refine (Try.slices_Equal_string_lens A B xs.length cp ys.length cq w hn).mono ?_
    rintro e w' ⟨rfl, rfl⟩
    exact ⟨rfl, Below.refl _ _⟩
theorem OAt.cells {w : World} {go : Nat} {o : Od} {sv : Value} (h : OAt w go o sv) : w.cell? ⟨go, 0, none⟩ = some (.int .u8 o.kind) ∧ w.cell? ⟨go, 1, none⟩ = some (.int .u32 o.page) ∧ w.cell? ⟨go, 2, none⟩ = some (.int .i64 o.at_) ∧ w.cell? ⟨go, 3, none⟩ = some (.int .i64 o.off) ∧ w.cell? ⟨go, 4, none⟩ = some (.string ⟨o.text.toArray⟩) ∧ w.cell? ⟨go, 5, none⟩ = some sv ∧ w.cell? ⟨go, 6, none⟩ = some (.int .u8 o.pk) ∧ w.cell? ⟨go, 7, none⟩ = some (.int .u8 o.lv) ∧ w.cell? ⟨go, 8, none⟩ = some (.int .u32 o.nx) := by
  unfold OAt at h
  exact ⟨by rw [blk_cell h]; rfl, by rw [blk_cell h]; rfl, by rw [blk_cell h]; rfl, by rw [blk_cell h]; rfl, by rw [blk_cell h]; rfl, by rw [blk_cell h]; rfl, by rw [blk_cell h]; rfl, by rw [blk_cell h]; rfl, by rw [blk_cell h]; rfl⟩
theorem natb_t {x y : Nat} (h : x = y) : ((x : Int) == (y : Int)) = true := by simp [h]
theorem natb_f {x y : Nat} (h : ¬ x = y) : ((x : Int) == (y : Int)) = false := by simp; omega
theorem intb_t {x y : Int} (h : x = y) : (x == y) = true := by simp [h]
theorem intb_f {x y : Int} (h : ¬ x = y) : (x == y) = false := by simp [h]
theorem od_ne {β : Type} [DecidableEq β] {a b : Od} (f : Od → β) (h : ¬ f a = f b) : decide (a = b) = false := decide_eq_false fun e => h (by rw [e])
theorem od_eq {a b : Od} (h0 : a.kind = b.kind) (h1 : a.page = b.page) (h2 : a.at_ = b.at_) (h3 : a.off = b.off) (h4 : a.text = b.text) (h5 : a.rows = b.rows) (h6 : a.pk = b.pk) (h7 : a.lv = b.lv) (h8 : a.nx = b.nx) : a = b := by
  cases a
  cases b
  simp_all
theorem text_eq (s t : List UInt8) : ((⟨s.toArray⟩ : ByteArray).toList == (⟨t.toArray⟩ : ByteArray).toList) = decide (s = t) := by
  rw [Bool.eq_iff_iff, beq_iff_eq, decide_eq_true_eq, Lib.toList_data, Lib.toList_data]
theorem OAt.new (w : World) (a : Od) (sa : Value) : OAt (w.alloc (.cells #[.int .u8 a.kind, .int .u32 a.page, .int .i64 a.at_, .int .i64 a.off, .string ⟨a.text.toArray⟩, sa, .int .u8 a.pk, .int .u8 a.lv, .int .u32 a.nx] 28)) w.heap.size a sa := heap_alloc_new w _
theorem OAt.below {w w' : World} {g : Nat} {o : Od} {sv : Value} (h : OAt w g o sv) (hb : Below w.heap.size w w') : OAt w' g o sv := by
  unfold OAt at *
  rw [hb.block _ (blk_lt h)]
  exact h
theorem two_boxes (w : World) (a b : Od) (sa sb : Value) : OAt ((w.alloc (.cells #[.int .u8 a.kind, .int .u32 a.page, .int .i64 a.at_, .int .i64 a.off, .string ⟨a.text.toArray⟩, sa, .int .u8 a.pk, .int .u8 a.lv, .int .u32 a.nx] 28)).alloc (.cells #[.int .u8 b.kind, .int .u32 b.page, .int .i64 b.at_, .int .i64 b.off, .string ⟨b.text.toArray⟩, sb, .int .u8 b.pk, .int .u8 b.lv, .int .u32 b.nx] 28)) w.heap.size a sa ∧ OAt ((w.alloc (.cells #[.int .u8 a.kind, .int .u32 a.page, .int .i64 a.at_, .int .i64 a.off, .string ⟨a.text.toArray⟩, sa, .int .u8 a.pk, .int .u8 a.lv, .int .u32 a.nx] 28)).alloc (.cells #[.int .u8 b.kind, .int .u32 b.page, .int .i64 b.at_, .int .i64 b.off, .string ⟨b.text.toArray⟩, sb, .int .u8 b.pk, .int .u8 b.lv, .int .u32 b.nx] 28)) (w.heap.size + 1) b sb ∧ Below w.heap.size w ((w.alloc (.cells #[.int .u8 a.kind, .int .u32 a.page, .int .i64 a.at_, .int .i64 a.off, .string ⟨a.text.toArray⟩, sa, .int .u8 a.pk, .int .u8 a.lv, .int .u32 a.nx] 28)).alloc (.cells #[.int .u8 b.kind, .int .u32 b.page, .int .i64 b.at_, .int .i64 b.off, .string ⟨b.text.toArray⟩, sb, .int .u8 b.pk, .int .u8 b.lv, .int .u32 b.nx] 28)) := by
  have hz : (w.alloc (.cells #[.int .u8 a.kind, .int .u32 a.page, .int .i64 a.at_, .int .i64 a.off, .string ⟨a.text.toArray⟩, sa, .int .u8 a.pk, .int .u8 a.lv, .int .u32 a.nx] 28)).heap.size = w.heap.size + 1 := by simp
  have P1 := OAt.new (w.alloc (.cells #[.int .u8 a.kind, .int .u32 a.page, .int .i64 a.at_, .int .i64 a.off, .string ⟨a.text.toArray⟩, sa, .int .u8 a.pk, .int .u8 a.lv, .int .u32 a.nx] 28)) b sb
  rw [hz] at P1
  exact ⟨(OAt.new w a sa).below (alloc_below _ _), P1, (alloc_below w _).alloc (by simp) _⟩
set_option maxHeartbeats 4000000 in
set_option maxRecDepth 100000 in
theorem opSame_any (a b : Od) (sa sb : Value) (w : World) (ha : TextsAt w sa a.rows) (hb : TextsAt w sb b.rows) (hl : a.rows.length ≤ 1000000) (hl2 : b.rows.length ≤ 1000000) :
    Calls Try.prog 183 #[odV a sa, odV b sb] w fun e w' => e = .returned (.bool (decide (a = b))) ∧ Below w.heap.size w w' := by
  have HE := Lib.hid fun W (hB : Below w.heap.size w W) => equalTexts_any sa sb a.rows b.rows W (ha.below hB) (hb.below hB) hl hl2
  clear ha hb hl hl2
  obtain ⟨P0, P1, B0⟩ := two_boxes w a b sa sb
  have B0 := Lib.hid B0
  unfold odV
  obtain ⟨r, hr⟩ : ∃ r, r = decide (a = b) := ⟨_, rfl⟩
  rw [← hr]
  go_enter Try.func183, Try.ntmps183
  go_upto_region 1 with fail
  generalize (w.alloc (.cells #[.int .u8 a.kind, .int .u32 a.page, .int .i64 a.at_, .int .i64 a.off, .string ⟨a.text.toArray⟩, sa, .int .u8 a.pk, .int .u8 a.lv, .int .u32 a.nx] 28)).alloc (.cells #[.int .u8 b.kind, .int .u32 b.page, .int .i64 b.at_, .int .i64 b.off, .string ⟨b.text.toArray⟩, sb, .int .u8 b.pk, .int .u8 b.lv, .int .u32 b.nx] 28) = w0 at *
  obtain ⟨x0, x1, x2, x3, x4, x5, x6, x7, x8⟩ := P0.cells
  obtain ⟨y0, y1, y2, y3, y4, y5, y6, y7, y8⟩ := P1.cells
  generalize hta : (⟨a.text.toArray⟩ : ByteArray) = ta at *
  generalize htb : (⟨b.text.toArray⟩ : ByteArray) = tb at *
  have hta := Lib.hid hta
  have htb := Lib.hid htb
  clear P0 P1
  by_cases h0 : a.kind = b.kind
  case neg =>
    have e0 : ((a.kind : Int) == (b.kind : Int)) = false := natb_f h0
    replace hr : Hid (r = false) := Lib.hid (hr.trans (od_ne Od.kind h0))
    clear h0
    go_wp2_with fail
    go_ret
    exact ⟨by rw [hr.out]; rfl, B0.out⟩
  by_cases h1 : a.page = b.page
  case neg =>
    have e0 : ((a.kind : Int) == (b.kind : Int)) = true := natb_t h0
    have e1 : ((a.page : Int) == (b.page : Int)) = false := natb_f h1
    replace hr : Hid (r = false) := Lib.hid (hr.trans (od_ne Od.page h1))
    clear h0 h1
    go_wp2_with fail
    go_ret
    exact ⟨by rw [hr.out]; rfl, B0.out⟩
  by_cases h2 : a.at_ = b.at_
  case neg =>
    have e0 : ((a.kind : Int) == (b.kind : Int)) = true := natb_t h0
    have e1 : ((a.page : Int) == (b.page : Int)) = true := natb_t h1
    have e2 : (a.at_ == b.at_) = false := intb_f h2
    replace hr : Hid (r = false) := Lib.hid (hr.trans (od_ne Od.at_ h2))
    clear h0 h1 h2
    go_wp2_with fail
    go_ret
    exact ⟨by rw [hr.out]; rfl, B0.out⟩
  by_cases h3 : a.off = b.off
  case neg =>
    have e0 : ((a.kind : Int) == (b.kind : Int)) = true := natb_t h0
    have e1 : ((a.page : Int) == (b.page : Int)) = true := natb_t h1
    have e2 : (a.at_ == b.at_) = true := intb_t h2
    have e3 : (a.off == b.off) = false := intb_f h3
    replace hr : Hid (r = false) := Lib.hid (hr.trans (od_ne Od.off h3))
    clear h0 h1 h2 h3
    go_wp2_with fail
    go_ret
    exact ⟨by rw [hr.out]; rfl, B0.out⟩
  by_cases h4 : a.text = b.text
  case neg =>
    have e0 : ((a.kind : Int) == (b.kind : Int)) = true := natb_t h0
    have e1 : ((a.page : Int) == (b.page : Int)) = true := natb_t h1
    have e2 : (a.at_ == b.at_) = true := intb_t h2
    have e3 : (a.off == b.off) = true := intb_t h3
    have e4 : (ta.toList == tb.toList) = false := by rw [← hta.out, ← htb.out, text_eq]; simpa using h4
    replace hr : Hid (r = false) := Lib.hid (hr.trans (od_ne Od.text h4))
    clear h0 h1 h2 h3 h4
    go_wp2_with fail
    go_ret
    exact ⟨by rw [hr.out]; rfl, B0.out⟩
  by_cases h5 : a.rows = b.rows
  case neg =>
    have e0 : ((a.kind : Int) == (b.kind : Int)) = true := natb_t h0
    have e1 : ((a.page : Int) == (b.page : Int)) = true := natb_t h1
    have e2 : (a.at_ == b.at_) = true := intb_t h2
    have e3 : (a.off == b.off) = true := intb_t h3
    have e4 : (ta.toList == tb.toList) = true := by rw [← hta.out, ← htb.out, text_eq]; simpa using h4
    have er : decide (a.rows = b.rows) = false := decide_eq_false h5
    replace hr : Hid (r = false) := Lib.hid (hr.trans (od_ne Od.rows h5))
    clear h0 h1 h2 h3 h4 h5
    go_wp2_with fail
    refine (HE.out w0 B0.out).mono ?_
    rintro e W1 ⟨rfl, hB⟩
    rw [er]
    have x6 := keep_cell hB x6
    have x7 := keep_cell hB x7
    have x8 := keep_cell hB x8
    have y6 := keep_cell hB y6
    have y7 := keep_cell hB y7
    have y8 := keep_cell hB y8
    have HB1 := Lib.hid (below_then B0.out hB)
    clear hB er x0 x1 x2 x3 x4 x5 y0 y1 y2 y3 y4 y5
    go_wp2_with fail
    go_ret
    exact ⟨by rw [hr.out]; rfl, HB1.out⟩
  by_cases h6 : a.pk = b.pk
  case neg =>
    have e0 : ((a.kind : Int) == (b.kind : Int)) = true := natb_t h0
    have e1 : ((a.page : Int) == (b.page : Int)) = true := natb_t h1
    have e2 : (a.at_ == b.at_) = true := intb_t h2
    have e3 : (a.off == b.off) = true := intb_t h3
    have e4 : (ta.toList == tb.toList) = true := by rw [← hta.out, ← htb.out, text_eq]; simpa using h4
    have e6 : ((a.pk : Int) == (b.pk : Int)) = false := natb_f h6
    replace hr : Hid (r = false) := Lib.hid (hr.trans (od_ne Od.pk h6))
    have er : decide (a.rows = b.rows) = true := decide_eq_true h5
    clear h0 h1 h2 h3 h4 h5 h6
    go_wp2_with fail
    refine (HE.out w0 B0.out).mono ?_
    rintro e W1 ⟨rfl, hB⟩
    rw [er]
    have x6 := keep_cell hB x6
    have x7 := keep_cell hB x7
    have x8 := keep_cell hB x8
    have y6 := keep_cell hB y6
    have y7 := keep_cell hB y7
    have y8 := keep_cell hB y8
    have HB1 := Lib.hid (below_then B0.out hB)
    clear hB er x0 x1 x2 x3 x4 x5 y0 y1 y2 y3 y4 y5
    go_wp2_with fail
    go_ret
    exact ⟨by rw [hr.out]; rfl, HB1.out⟩
  by_cases h7 : a.lv = b.lv
  case neg =>
    have e0 : ((a.kind : Int) == (b.kind : Int)) = true := natb_t h0
    have e1 : ((a.page : Int) == (b.page : Int)) = true := natb_t h1
    have e2 : (a.at_ == b.at_) = true := intb_t h2
    have e3 : (a.off == b.off) = true := intb_t h3
    have e4 : (ta.toList == tb.toList) = true := by rw [← hta.out, ← htb.out, text_eq]; simpa using h4
    have e6 : ((a.pk : Int) == (b.pk : Int)) = true := natb_t h6
    have e7 : ((a.lv : Int) == (b.lv : Int)) = false := natb_f h7
    replace hr : Hid (r = false) := Lib.hid (hr.trans (od_ne Od.lv h7))
    have er : decide (a.rows = b.rows) = true := decide_eq_true h5
    clear h0 h1 h2 h3 h4 h5 h6 h7
    go_wp2_with fail
    refine (HE.out w0 B0.out).mono ?_
    rintro e W1 ⟨rfl, hB⟩
    rw [er]
    have x6 := keep_cell hB x6
    have x7 := keep_cell hB x7
    have x8 := keep_cell hB x8
    have y6 := keep_cell hB y6
    have y7 := keep_cell hB y7
    have y8 := keep_cell hB y8
    have HB1 := Lib.hid (below_then B0.out hB)
    clear hB er x0 x1 x2 x3 x4 x5 y0 y1 y2 y3 y4 y5
    go_wp2_with fail
    go_ret
    exact ⟨by rw [hr.out]; rfl, HB1.out⟩
  by_cases h8 : a.nx = b.nx
  case neg =>
    have e0 : ((a.kind : Int) == (b.kind : Int)) = true := natb_t h0
    have e1 : ((a.page : Int) == (b.page : Int)) = true := natb_t h1
    have e2 : (a.at_ == b.at_) = true := intb_t h2
    have e3 : (a.off == b.off) = true := intb_t h3
    have e4 : (ta.toList == tb.toList) = true := by rw [← hta.out, ← htb.out, text_eq]; simpa using h4
    have e6 : ((a.pk : Int) == (b.pk : Int)) = true := natb_t h6
    have e7 : ((a.lv : Int) == (b.lv : Int)) = true := natb_t h7
    have e8 : ((a.nx : Int) == (b.nx : Int)) = false := natb_f h8
    replace hr : Hid (r = false) := Lib.hid (hr.trans (od_ne Od.nx h8))
    have er : decide (a.rows = b.rows) = true := decide_eq_true h5
    clear h0 h1 h2 h3 h4 h5 h6 h7 h8
    go_wp2_with fail
    refine (HE.out w0 B0.out).mono ?_
    rintro e W1 ⟨rfl, hB⟩
    rw [er]
    have x6 := keep_cell hB x6
    have x7 := keep_cell hB x7
    have x8 := keep_cell hB x8
    have y6 := keep_cell hB y6
    have y7 := keep_cell hB y7
    have y8 := keep_cell hB y8
    have HB1 := Lib.hid (below_then B0.out hB)
    clear hB er x0 x1 x2 x3 x4 x5 y0 y1 y2 y3 y4 y5
    go_wp2_with fail
    go_ret
    exact ⟨by rw [hr.out]; rfl, HB1.out⟩
  have e0 : ((a.kind : Int) == (b.kind : Int)) = true := natb_t h0
  have e1 : ((a.page : Int) == (b.page : Int)) = true := natb_t h1
  have e2 : (a.at_ == b.at_) = true := intb_t h2
  have e3 : (a.off == b.off) = true := intb_t h3
  have e4 : (ta.toList == tb.toList) = true := by rw [← hta.out, ← htb.out, text_eq]; simpa using h4
  have e6 : ((a.pk : Int) == (b.pk : Int)) = true := natb_t h6
  have e7 : ((a.lv : Int) == (b.lv : Int)) = true := natb_t h7
  have e8 : ((a.nx : Int) == (b.nx : Int)) = true := natb_t h8
  replace hr : Hid (r = true) := Lib.hid (hr.trans (decide_eq_true (od_eq h0 h1 h2 h3 h4 h5 h6 h7 h8)))
  have er : decide (a.rows = b.rows) = true := decide_eq_true h5
  clear h0 h1 h2 h3 h4 h5 h6 h7 h8
  go_wp2_with fail
  refine (HE.out w0 B0.out).mono ?_
  rintro e W1 ⟨rfl, hB⟩
  rw [er]
  have x6 := keep_cell hB x6
  have x7 := keep_cell hB x7
  have x8 := keep_cell hB x8
  have y6 := keep_cell hB y6
  have y7 := keep_cell hB y7
  have y8 := keep_cell hB y8
  have HB1 := Lib.hid (below_then B0.out hB)
  clear hB er x0 x1 x2 x3 x4 x5 y0 y1 y2 y3 y4 y5
  go_wp2_with fail
  go_ret
  exact ⟨by rw [hr.out]; rfl, HB1.out⟩
end Go.Proofs.Ytienlhnbmobinaa
end

section
/- page.Same, Room; ref06.Same, Room -/
namespace Go.Proofs.Ytienlhnbmobinaa
open Go.RowKit
set_option linter.unusedVariables false
set_option linter.unusedSimpArgs false
theorem run_max_neg {P : Program} (x : Int) (ats : Array TypeId) (ty : TypeId) (W : World) : (Builtin.max_ ats ty #[.int .i64 x, .int .i64 (-1)]).run P W = .ok (.int .i64 (if x < -1 then -1 else x)) W := by
  simp [Builtin.max_, Builtin.max2]
set_option maxHeartbeats 2000000 in
set_option maxRecDepth 100000 in
theorem pageRoom_any (p : Pg) (sv : Value) (w : World) (ht : TextsAt w sv p.rows) (hb : weightB p.rows ≤ 1000000) :
    Calls Try.prog 48 #[pgV p sv] w fun e w' => e = .returned (.int .i64 (roomB p.rows)) ∧ Below w.heap.size w w' := by
  obtain ⟨kind, level, id, lsn, next, rows⟩ := p
  obtain ⟨A, cp, rfl, h2, h3, h4, h5⟩ := ht
  simp only at *
  obtain ⟨n, hn⟩ : ∃ n, n = rows.length := ⟨_, rfl⟩
  rw [← hn] at h2
  unfold pgV
  simp only [← hn]
  unfold maxLen at h3
  have hM : Hid (∀ W : Nat, W = weightB rows → roomB rows = if 480 - (W : Int) < -1 then -1 else 480 - (W : Int)) := by
    rintro W rfl
    rfl
  have H5 := Lib.hid h5
  have HN := Lib.hid hn
  clear h5 h4 hn
  generalize roomB rows = b at hM ⊢
  go_enter Try.func48, Try.ntmps48
  go_wp2_with fail
  go_loopw [3, 5, 9] (fun s3 s5 s9 wr => ∃ i : Nat, s9 = .int .i64 i ∧ i ≤ n ∧ wr = w.alloc (.cells #[.int .u8 kind, .int .u8 level, .int .u32 id, .int .u64 lsn, .int .u32 next, .slice A n cp] 26) ∧ s3 = .int .i64 (480 - (weightB (rows.take i) : Nat))) (fun _ _ v _ => n - (intOf v).toNat)
  case atStart => exact ⟨0, rfl, Nat.zero_le _, rfl, rfl⟩
  case round =>
    obtain ⟨i, rfl, hi, rfl, rfl⟩ := hrel
    by_cases hc : i < n
    · have hci : (i : Int) < (n : Int) := by omega
      have hix : i < rows.length := by rw [← HN.out]; exact hc
      obtain ⟨b0, o0, rfl, hb0, hcell⟩ := H5.out (by omega)
      have c1 := (Below.cell ((Below.refl w.heap.size w).alloc (Nat.le_refl _) (.cells #[.int .u8 kind, .int .u8 level, .int .u32 id, .int .u64 lsn, .int .u32 next, .slice (some ⟨b0, o0, none⟩) n cp] 26)) (show (⟨b0, o0 + i, none⟩ : Addr).block < w.heap.size from hb0)).trans (hcell i hix)
      have q1 : (0 : Int) ≤ (i : Int) := by omega
      have hw1 := weightB_take rows i hix
      have hw2 := weightB_take_le rows (i + 1)
      obtain ⟨s, hs⟩ : ∃ s : ByteArray, s = ⟨rows[i].toArray⟩ := ⟨_, rfl⟩
      have hsz : s.size = rows[i].length := by rw [hs]; simp [ByteArray.size]
      rw [← hs] at c1
      rw [← hsz] at hw1
      have HW := Lib.hid hw1
      have q2 : weightB (rows.take i) + (4 + s.size) ≤ 1000000 := by omega
      clear hcell hs hsz hw1 hw2
      generalize weightB (rows.take i) = W at *
      go_wp2_with fail
      go_roundw
      case rel => exact ⟨i + 1, by go_num, by omega, by first | rfl | trivial, by rw [HW.out]; go_num⟩
      case measure => simp [intOf] <;> omega
    · have hci : ¬ (i : Int) < (n : Int) := by omega
      have hin : rows.take i = rows := by rw [List.take_of_length_le]; rw [← HN.out]; omega
      have hM2 := Lib.hid (hM.out (weightB (rows.take i)) (by rw [hin]))
      clear hin hM
      have hle := weightB_take_le rows i
      generalize weightB (rows.take i) = W at *
      have hM3 := Lib.hid (run_max_neg (P := Try.prog) (480 - (W : Int)))
      have hMX : ∀ (ats : Array TypeId) (ty : TypeId) (wx : World), (Builtin.max_ ats ty #[.int .i64 (480 - (W : Int)), .int .i64 (-1)]).run Try.prog wx = .ok (.int .i64 b) wx := fun ats ty wx => by rw [hM3.out ats ty wx, hM2.out]
      go_wp2_with fail
      go_ret
      exact ⟨rfl, (Below.refl _ _).alloc (Nat.le_refl _) _⟩
def roomV (rows : List (List UInt8)) : Int := if (484 : Int) - (weightB rows : Nat) - 4 < 0 then -1 else (484 : Int) - (weightB rows : Nat) - 4
theorem roomV_eq (rows : List (List UInt8)) : roomV rows = roomB rows := by
  unfold roomV roomB
  split <;> split <;> omega
set_option maxHeartbeats 2000000 in
theorem refRoom06_any (p : Pg) (sv : Value) (w : World) (ht : TextsAt w sv p.rows) (hb : weightB p.rows ≤ 1000000) :
    Calls Try.prog 49 #[pgV p sv] w fun e w' => e = .returned (.int .i64 (roomV p.rows)) ∧ Below w.heap.size w w' := by
  have C := Lib.hid fun W (hW : TextsAt W sv p.rows) => refLeft_any p sv W hW hb
  have HT := Lib.hid ht
  obtain ⟨v, hv⟩ : ∃ v, v = roomV p.rows := ⟨_, rfl⟩
  rw [← hv]
  have HV := Lib.hid hv
  obtain ⟨kind, level, id, lsn, next, rows⟩ := p
  obtain ⟨A, cp, rfl, h2, h3, h4, h5⟩ := ht
  obtain ⟨n, hn⟩ : ∃ n, n = rows.length := ⟨_, rfl⟩
  simp only at *
  rw [← hn] at HT C ⊢
  obtain ⟨wt, hwt⟩ : ∃ k, k = weightB rows := ⟨_, rfl⟩
  rw [← hwt] at hb C
  have HWT := Lib.hid hwt
  clear hn h2 h3 h4 h5 hv hwt
  unfold pgV at *
  simp only at C
  have P0 := PgBox.new w kind level id lsn next (.slice A n cp)
  have B0 := Lib.hid (alloc_below w (.cells #[.int .u8 kind, .int .u8 level, .int .u32 id, .int .u64 lsn, .int .u32 next, .slice A n cp] 26))
  go_enter Try.func49, Try.ntmps49
  go_upto_region 1 with fail
  generalize w.alloc (.cells #[.int .u8 kind, .int .u8 level, .int .u32 id, .int .u64 lsn, .int .u32 next, .slice A n cp] 26) = w0 at *
  obtain ⟨_, p0, p1, p2, p3, p4, p5⟩ := P0.cells
  go_wp2_with fail
  refine (C.out _ (HT.out.below B0.out)).mono ?_
  rintro e w1 ⟨rfl, hb1⟩
  have B1 := Lib.hid (below_then B0.out hb1)
  clear hb1 p0 p1 p2 p3 p4 p5 P0 B0 C
  have m1 : IntKind.i64.wrap ((484 : Int) - (wt : Nat) - 4) = (484 : Int) - (wt : Nat) - 4 := IntWalk.i64_in _ ⟨by omega, by omega⟩
  by_cases hc : (484 : Int) - (wt : Nat) - 4 < 0
  · have HX : Hid (v = -1) := by show _ = _; rw [HV.out]; unfold roomV; rw [← HWT.out, if_pos hc]
    go_wp2_with fail
    go_ret
    exact ⟨by rw [HX.out]; rfl, B1.out⟩
  · have HX : Hid (v = (484 : Int) - (wt : Nat) - 4) := by show _ = _; rw [HV.out]; unfold roomV; rw [← HWT.out, if_neg hc]
    go_wp2_with fail
    go_ret
    exact ⟨by rw [HX.out]; rfl, B1.out⟩
end Go.Proofs.Ytienlhnbmobinaa
end

section
/- chapter 22: the rows of a head page (seg.Rows) -/
namespace Go.Proofs.Ytienlhnbmobinaa
open Go.RowKit
set_option linter.unusedVariables false
set_option linter.unusedSimpArgs false
def Sg.cell (s : Sg) : List Value := [.int .u64 s.tx, .int .u8 s.st, .int .u64 s.num, .int .u32 s.fp, .int .u32 s.lp, .int .u32 s.hp, .int .u16 s.hs]
/-- Rows made here. -/
def OwnSegs (w : World) (base : Nat) (v : Value) (L : List Sg) : Prop := w.ownsRow base 83 7 v L.length (L.flatMap Sg.cell)
theorem OwnSegs.nil (w : World) (base : Nat) : OwnSegs w base (.slice none 0 0) [] := World.ownsRow_nil _ _ _ _
theorem OwnSegs.below {w w' : World} {base : Nat} {v : Value} {L : List Sg} (h : OwnSegs w base v L) (hb : Below w.heap.size w w') : OwnSegs w' base v L := own_below h hb
theorem OwnSegs.snoc {w2 : World} {base : Nat} {v' : Value} {L : List Sg} {s : Sg} (ho : w2.ownsRow base 83 7 v' (L.length + 1) (L.flatMap Sg.cell ++ s.cell)) : OwnSegs w2 base v' (L ++ [s]) := by
  unfold OwnSegs
  rw [List.length_append, List.flatMap_append]
  simpa using ho
theorem flat_getS (l : List Sg) : ∀ (j i : Nat) (v : Value) (h : j < l.length), l[j].cell[i]? = some v → (l.flatMap Sg.cell)[j * 7 + i]? = some v := by
  induction l with
  | nil => intro j i v h; simp at h
  | cons r rs ih =>
    intro j i v h hv
    have hr : r.cell.length = 7 := rfl
    rw [List.flatMap_cons]
    cases j with
    | zero =>
      have hi : i < 7 := by have := (List.getElem?_eq_some_iff.1 hv).1; rw [List.getElem_cons_zero, hr] at this; exact this
      rw [List.getElem?_append_left (by rw [hr]; omega)]
      simpa using hv
    | succ j =>
      rw [List.getElem?_append_right (by rw [hr]; omega), hr, show (j + 1) * 7 + i - 7 = j * 7 + i by omega]
      exact ih j i v (by simpa using h) (by simpa using hv)
/-- Rows that stand in memory. -/
def SegsAt (w : World) (v : Value) (L : List Sg) : Prop :=
  ∃ (A : Option Addr) (cp : Nat), v = .slice A L.length cp ∧ L.length ≤ cp ∧ cp ≤ maxLen ∧ (0 < L.length → ∃ b o, A = some ⟨b, o, none⟩ ∧ b < w.heap.size ∧ ∀ j (h : j < L.length) i u, L[j].cell[i]? = some u → w.cell? ⟨b, o + j * 7 + i, none⟩ = some u)
theorem SegsAt.below {w w' : World} {v : Value} {L : List Sg} (h : SegsAt w v L) (hb : Below w.heap.size w w') : SegsAt w' v L := by
  obtain ⟨A, cp, h1, h2, h3, h4⟩ := h
  refine ⟨A, cp, h1, h2, h3, fun h0 => ?_⟩
  obtain ⟨b, o, e1, e2, e3⟩ := h4 h0
  exact ⟨b, o, e1, Nat.lt_of_lt_of_le e2 hb.size, fun j hj i u hu => (hb.cell (p := ⟨b, o + j * 7 + i, none⟩) e2).trans (e3 j hj i u hu)⟩
theorem OwnSegs.at_ {w : World} {base : Nat} {v : Value} {L : List Sg} (h : OwnSegs w base v L) : SegsAt w v L := by
  obtain ⟨hl, h1⟩ := h
  rcases h1 with ⟨rfl, h0⟩ | ⟨g, cap, cur, rfl, hg, hb, hn, hc, hz, ht⟩
  · have : L = [] := List.eq_nil_of_length_eq_zero h0
    subst this
    exact ⟨none, 0, rfl, Nat.le_refl _, Nat.zero_le _, fun h => absurd h (Nat.lt_irrefl 0)⟩
  · refine ⟨_, cap, rfl, hn, hc, fun h0 => ⟨g, 0, rfl, blk_lt hb, fun j hj i v hv => ?_⟩⟩
    have h3 := flat_getS L j i v hj hv
    rw [← ht, List.getElem?_take] at h3
    split at h3
    · rw [show 0 + j * 7 + i = j * 7 + i by omega, blk_cell hb]
      simpa using h3
    · cases h3
theorem Try.infoSeg : (Try.prog.info? 83).map (fun i => (i.zero, i.size, i.bytes)) = some (some (.agg #[.int .u64 0, .int .u8 0, .int .u64 0, .int .u32 0, .int .u32 0, .int .u32 0, .int .u16 0]), 7, 40) := by kernel_rfl
theorem sg_one (s : Sg) : ∀ u ∈ s.cell, u.oneCell' = true := by
  intro u hu
  simp only [Sg.cell, List.mem_cons, List.not_mem_nil, or_false] at hu
  rcases hu with rfl | rfl | rfl | rfl | rfl | rfl | rfl <;> rfl
theorem sg_reads (w : World) (s : Sg) : Reads (w.alloc (.cells s.cell.toArray 83)) (.slice (some ⟨w.heap.size, 0, none⟩) 1 1) 1 7 s.cell := by
  refine .inr ⟨_, 1, rfl, rfl, fun j u hu => ?_⟩
  rw [Addr.add_lit, show 0 + j = j by omega, blk_cell (heap_alloc_new w _)]
  simpa using hu
/-- What reading a head page's rows leaves. -/
def SegPost (w : World) (R : Option (List Sg)) (e : Ending) (w' : World) : Prop := ∃ v, e = .returned (.tuple #[v, .int .i64 (if R.isSome then 0 else 60)]) ∧ OwnSegs w' w.heap.size v (R.getD []) ∧ Below w.heap.size w w'
theorem SegPost.no {w w' : World} {R : Option (List Sg)} (h : R = none) (hb : Below w.heap.size w w') : SegPost w R (.returned (.tuple #[.slice none 0 0, .int .i64 60])) w' := by
  subst h
  exact ⟨_, rfl, OwnSegs.nil _ _, hb⟩
set_option maxHeartbeats 4000000 in
set_option maxRecDepth 100000 in
theorem segRows_any (p : Pg) (sv : Value) (w : World) (hp : p.wf) (ht : TextsAt w sv p.rows) (hb : weightB p.rows ≤ 1000000) :
    Calls Try.prog 64 #[pgV p sv] w (SegPost w (segsB p)) := by
  have PM := Lib.hid fun W (h : TextsAt W sv p.rows) => pageMay_any p sv W hp h hb
  have DC := Lib.hid fun (i : Nat) (h : i < p.rows.length) W => segDecode_any p.rows[i] W (by have := weightB_mem (List.getElem_mem h); omega)
  have HT := Lib.hid ht
  have hnb : p.rows.length ≤ 1000000 := by have := weightB_length p.rows; omega
  obtain ⟨n, hn⟩ : ∃ n, n = p.rows.length := ⟨_, rfl⟩
  obtain ⟨A, cp, hsv, h2, h3, h4, h5⟩ := ht
  rw [← hn] at hsv h2 hnb
  subst hsv
  have H5 := Lib.hid h5
  obtain ⟨R, hR⟩ : ∃ R, R = segsB p := ⟨_, rfl⟩
  rw [← hR]
  unfold segsB at hR
  have HR := Lib.hid hR
  obtain ⟨m, hm⟩ : ∃ b, b = p.may := ⟨_, rfl⟩
  rw [← hm] at PM HR
  clear hR hm h4 h5
  unfold pgV at *
  obtain ⟨kind, level, id, lsn, next, rows⟩ := p
  clear hp hb
  have HN := Lib.hid hn
  clear hn
  simp only at *
  unfold maxLen at h3
  obtain ⟨i0, hif, hz0, hz1, hz2⟩ := info_parts Try.infoSeg
  have HI := Lib.hid hif
  have HI0 := Lib.hid hz0
  have HI1 := Lib.hid hz1
  have HI2 := Lib.hid hz2
  clear hif hz0 hz1 hz2
  have X0 := Lib.hid (PgBox.new w kind level id lsn next (.slice A n cp))
  have B0 := Lib.hid (alloc_below w (.cells #[.int .u8 kind, .int .u8 level, .int .u32 id, .int .u64 lsn, .int .u32 next, .slice A n cp] 26))
  go_enter Try.func64, Try.ntmps64
  go_upto_region 1 with fail
  generalize w.alloc (.cells #[.int .u8 kind, .int .u8 level, .int .u32 id, .int .u64 lsn, .int .u32 next, .slice A n cp] 26) = w0 at *
  have T0 := Lib.hid (HT.out.below B0.out)
  obtain ⟨x0, x1, x2, x3, x4, x5, x6⟩ := X0.out.cells
  by_cases hk : kind = 5
  case neg =>
    have hkn : ((kind : Int) != 5) = true := by simp; omega
    have HR0 : Hid (R = none) := by show R = none; rw [HR.out, if_neg (fun h => hk h.1)]
    clear HR PM DC
    go_wp2_with fail
    go_ret2
    exact SegPost.no HR0.out B0.out
  have hkn : ((kind : Int) != 5) = false := by simp [hk]
  have HKK := Lib.hid hk
  clear hk
  go_wp2_with fail
  refine (PM.out _ T0.out).mono ?_
  rintro e w1 ⟨rfl, hb1⟩
  have B1 := Lib.hid (below_then B0.out hb1)
  have X1 := Lib.hid (X0.out.below hb1)
  clear hb1 x0 x1 x2 x3 x4 x5 x6 PM X0 T0
  cases m with
  | false =>
    have HR0 : Hid (R = none) := by show R = none; rw [HR.out, if_neg (fun h => by cases h.2)]
    clear HR DC
    go_wp2_with fail
    go_ret2
    exact SegPost.no HR0.out B1.out
  | true =>
    have HR1 : Hid (R = segGo 0 rows) := by show R = _; rw [HR.out, if_pos ⟨HKK.out, rfl⟩]
    clear HR
    obtain ⟨x0, x1, x2, x3, x4, x5, x6⟩ := X1.out.cells
    go_wp2_with fail
    go_loopw [2, 4, 20] (fun s2 s4 s20 wr => ∃ (i : Nat) (acc : List Sg), s20 = .int .i64 i ∧ i ≤ n ∧ s4 = .int .u64 (lastTx acc) ∧ Hid (segTo rows i = some acc) ∧ acc.length = i ∧ Hid (OwnSegs wr w.heap.size s2 acc) ∧ Hid (Below w.heap.size w wr)) (fun _ _ v _ => n - (intOf v).toNat)
    case atStart => exact ⟨0, [], rfl, Nat.zero_le _, rfl, Lib.hid (segTo_zero rows), rfl, Lib.hid (OwnSegs.nil _ _), B1⟩
    case round =>
      obtain ⟨i, acc, rfl, hi, rfl, HK, hLi, HO, HB⟩ := hrel
      clear x0 x1 x2 x3 x4 x5 x6
      by_cases hc : i < n
      · have hci : (i : Int) < (n : Int) := by omega
        have q1 : (0 : Int) ≤ (i : Int) := by omega
        have hit : i < rows.length := by rw [← HN.out]; exact hc
        obtain ⟨b0, o0, rfl, hb0, hcell⟩ := H5.out (by omega)
        have c1 := (HB.out.cell (p := ⟨b0, o0 + i, none⟩) hb0).trans (hcell i hit)
        have D0 := Lib.hid fun W => DC.out i hit W
        have HNX := Lib.hid (segTo_next HK.out hit)
        have HNO := Lib.hid fun h => segTo_none (rows := rows) (i := i + 1) h
        clear hcell
        generalize rows[i] = r at *
        clear hit
        unfold sgDecV at D0
        cases hd : sgDec r with
        | none =>
          rw [hd] at D0 HNX
          have HR0 : Hid (R = none) := by show R = none; rw [HR1.out]; exact HNO.out HNX.out
          unfold sgV at D0
          simp only [Option.getD_none, Option.isSome_none, Sg.zero] at D0
          (try simp only [Bool.false_eq_true, if_false] at D0)
          clear HNX HNO DC HR1 hd
          go_wp2_with fail
          refine (D0.out _).mono ?_
          rintro e w2 ⟨rfl, hb⟩
          have B2 := Lib.hid (HB.out.trans (hb.mono HB.out.size))
          have hsz := B2.out.size
          clear hb D0
          go_wp2_with fail
          go_ret2
          exact SegPost.no HR0.out (B2.out.alloc hsz _)
        | some x =>
          rw [hd] at D0 HNX
          have hm := (sgDec_may hd).2.1
          obtain ⟨x0, x1, x2, x3, x4, x5, x6⟩ := x
          unfold sgV at D0
          simp only [Option.getD_some, Option.isSome_some, if_true] at D0
          obtain ⟨la, hla⟩ : ∃ z, z = lastTx acc := ⟨_, rfl⟩
          rw [← hla] at HNX ⊢
          have hla8 : la < 256 ^ 8 ∨ True := .inr trivial
          clear hd hm hla hla8 DC
          go_upto_region 7 with fail
          clear c1
          go_wp2_with fail
          refine (D0.out _).mono ?_
          rintro e w2 ⟨rfl, hb⟩
          have B2 := Lib.hid (HB.out.trans (hb.mono HB.out.size))
          have O2 := Lib.hid (HO.out.below hb)
          clear hb D0 HO HB
          have B3 := Lib.hid (B2.out.alloc B2.out.size (.cells #[.int .u64 x0, .int .u8 x1, .int .u64 x2, .int .u32 x3, .int .u32 x4, .int .u32 x5, .int .u16 x6] 83))
          have O3 := Lib.hid (O2.out.below (alloc_below w2 (.cells #[.int .u64 x0, .int .u8 x1, .int .u64 x2, .int .u32 x3, .int .u32 x4, .int .u32 x5, .int .u16 x6] 83)))
          have S3 : Hid (SgBox (w2.alloc (.cells #[.int .u64 x0, .int .u8 x1, .int .u64 x2, .int .u32 x3, .int .u32 x4, .int .u32 x5, .int .u16 x6] 83)) w2.heap.size ⟨x0, x1, x2, x3, x4, x5, x6⟩) := heap_alloc_new w2 _
          go_upto_region 8 with fail
          generalize w2.alloc (.cells #[.int .u64 x0, .int .u8 x1, .int .u64 x2, .int .u32 x3, .int .u32 x4, .int .u32 x5, .int .u16 x6] 83) = w3 at *
          obtain ⟨g, hg⟩ : ∃ g, g = w2.heap.size := ⟨_, rfl⟩
          rw [← hg] at S3 ⊢
          clear hg B2 O2
          obtain ⟨yl, y0, y1, y2, y3, y4, y5, y6⟩ := S3.out.cells
          simp only at y0 y1 y2 y3 y4 y5 y6
          (try simp only at HNX)
          by_cases hle : x0 ≤ la
          · have HR0 : Hid (R = none) := by show R = none; rw [HR1.out]; exact HNO.out (by rw [HNX.out, if_pos hle])
            clear HNX HNO HR1
            go_wp2_with fail
            go_ret2
            exact SegPost.no HR0.out B3.out
          · have HNX2 := Lib.hid (HNX.out.trans (if_neg hle))
            clear HNX HNO
            have hs3 : w.heap.size ≤ w3.heap.size := B3.out.size
            obtain ⟨e, he⟩ : ∃ e : Sg, e = ⟨x0, x1, x2, x3, x4, x5, x6⟩ := ⟨_, rfl⟩
            rw [← he] at HNX2
            have hE : Hid (#[.int .u64 x0, .int .u8 x1, .int .u64 x2, .int .u32 x3, .int .u32 x4, .int .u32 x5, .int .u16 x6] = e.cell.toArray) := by show _ = _; rw [he]; rfl
            have hEt : Hid (lastTx (acc ++ [e]) = x0) := by show _ = _; rw [lastTx_snoc, he]
            have O4 := Lib.hid (O3.out.below (alloc_below w3 (.cells #[.int .u64 x0, .int .u8 x1, .int .u64 x2, .int .u32 x3, .int .u32 x4, .int .u32 x5, .int .u16 x6] 83)))
            have B4 := Lib.hid (B3.out.alloc hs3 (.cells #[.int .u64 x0, .int .u8 x1, .int .u64 x2, .int .u32 x3, .int .u32 x4, .int .u32 x5, .int .u16 x6] 83))
            have RE : Hid (Reads (w3.alloc (.cells #[.int .u64 x0, .int .u8 x1, .int .u64 x2, .int .u32 x3, .int .u32 x4, .int .u32 x5, .int .u16 x6] 83)) (.slice (some ⟨w3.heap.size, 0, none⟩) 1 1) 1 7 e.cell) := by
              show Reads _ _ _ _ _
              rw [hE.out]
              exact sg_reads w3 e
            have hs4 : w.heap.size ≤ (w3.alloc (.cells #[.int .u64 x0, .int .u8 x1, .int .u64 x2, .int .u32 x3, .int .u32 x4, .int .u32 x5, .int .u16 x6] 83)).heap.size := B4.out.size
            clear O3 B3 he
            go_wp2_with (at_builtin; refine wpList_append_any _ rfl _ _ 79 rfl w.heap.size 83 i0 (.agg #[.int .u64 0, .int .u8 0, .int .u64 0, .int .u32 0, .int .u32 0, .int .u32 0, .int .u16 0]) 7 40 Try.underlying79 HI.out HI0.out HI1.out HI2.out rfl (by decide) _ _ _ (by rfl) O4.out (.slice (some ⟨w3.heap.size, 0, none⟩) 1 1) 1 e.cell (by rfl) RE.out (sg_one e) (by unfold maxLen; omega) (by omega) hs4 ?_; intro v' w6 hown6 hgrow6; have O6 := Lib.hid (OwnSegs.snoc hown6); have B6 := Lib.hid (B4.out.grown hgrow6 hs4 (fun j hj => by have := (O4.out.lt j hj).1; omega)); clear hown6 hgrow6)
            go_roundw
            case rel => exact ⟨i + 1, acc ++ [e], by go_num, by omega, by rw [hEt.out], HNX2, by simp [hLi], O6, B6⟩
            case measure => simp [intOf] <;> omega
      · have hci : ¬ (i : Int) < (n : Int) := by omega
        have HR0 : Hid (R = some acc) := by show R = some acc; rw [HR1.out, ← HK.out, segTo_all (by rw [← HN.out]; omega)]
        clear HR1 HK DC
        go_wp2_with fail
        go_ret2
        exact ⟨_, by rw [HR0.out]; rfl, by rw [HR0.out]; exact HO.out, HB.out⟩
end Go.Proofs.Ytienlhnbmobinaa
end
