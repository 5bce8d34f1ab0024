/- Kept of our texts for this claim: OpSame -/
import Derived.Test.YtienlhnbmobinaaGreatRows
import Derived.Test.YtienlhnbmobinaaGreatAdAa
import Derived.Test.YtienlhnbmobinaaGreatAdAk
import Derived.Test.YtienlhnbmobinaaGreatAdAb
import Derived.Test.YtienlhnbmobinaaGreatAdAc
import Derived.Test.YtienlhnbmobinaaGreatAdAl
import Derived.Deep.CutBlock
import Derived.WalkKit
import Derived.WalkLawsBesides
import Derived.WalkSpells
import Derived.LoopTactic
import Derived.WalkMore
import Derived.LoopN
import Derived.Laws.BitsAllLaws
import Derived.Laws.IdiomStrings
import Derived.BigQuiet
import Derived.Deep.QuietTactic
import Derived.Deep.DeepCutAuto
import Derived.Deep.RegionHeld3
import Derived.Deep.DrawnRows
import Derived.Lib.Hide
import Derived.Outline
import Derived.Deep.DeepMust
import Derived.Handy
section
/- chapter 11: op.Same, and slices.Equal of texts -/
namespace Go.Proofs.YtienlhnbmobinaaGreat
open Go.RowKit
set_option linter.unusedVariables false
set_option linter.unusedSimpArgs false
theorem below_drewN' {B : Nat} {w w' : World} (h : Below B w w') (n : Nat) : Below B w (w'.drewN n) := ⟨h.os, h.tape, h.output, h.size, h.block⟩
theorem strs_map_inj : ∀ (xs ys : List (List UInt8)), xs.map (fun t => (⟨t.toArray⟩ : ByteArray)) = ys.map (fun t => (⟨t.toArray⟩ : ByteArray)) → xs = ys := by
  intro xs ys h
  have := congrArg (List.map (fun (s : ByteArray) => s.data.toList)) h
  rw [List.map_map, List.map_map] at this
  have e : ((fun (s : ByteArray) => s.data.toList) ∘ fun (t : List UInt8) => (⟨t.toArray⟩ : ByteArray)) = id := by
    funext t
    simp
  rwa [e, List.map_id, List.map_id] at this
set_option maxHeartbeats 2000000 in
set_option maxRecDepth 100000 in
/-- slices.Equal of two slices of texts. -/
theorem equalTexts_any (sa sb : Value) (xs ys : List (List UInt8)) (w : World) (ha : TextsAt w sa xs) (hb : TextsAt w sb ys) (hl : xs.length ≤ 1000000) (hl2 : ys.length ≤ 1000000) :
    Calls Tryz.prog 104 #[sa, sb] w fun e w' => e = .returned (.bool (decide (xs = ys))) ∧ Below w.heap.size w w' := by
  obtain ⟨A, cp, rfl, h2, h3, h4, h5⟩ := ha
  obtain ⟨B, cq, rfl, k2, k3, k4, k5⟩ := hb
  by_cases hn : xs.length = ys.length
  · rcases Nat.eq_zero_or_pos xs.length with h0 | h0
    · have e1 := List.eq_nil_of_length_eq_zero h0
      have e2 := List.eq_nil_of_length_eq_zero (hn ▸ h0)
      subst e1 e2
      refine (Tryz.slices_Equal_string_empty A B cp 0 cq w (by omega)).mono ?_
      rintro e w' ⟨rfl, rfl⟩
      exact ⟨rfl, Below.refl _ _⟩
    · obtain ⟨b, o, rfl, _, hc⟩ := h5 h0
      obtain ⟨b', o', rfl, _, kc⟩ := k5 (hn ▸ h0)
      refine (Tryz.slices_Equal_string b o xs.length cp b' o' ys.length cq (xs.map fun t => ⟨t.toArray⟩) (ys.map fun t => ⟨t.toArray⟩) w (by simp) (by simp) (by omega) (by omega) (fun j hj => ?_) (fun j hj => ?_)).mono ?_
      · have hj' : j < xs.length := by simpa using hj
        rw [hc j hj']
        simp [List.getD_eq_getElem?_getD, hj']
      · have hj' : j < ys.length := by simpa using hj
        rw [kc j hj']
        simp [List.getD_eq_getElem?_getD, hj']
      · rintro e w' ⟨rfl, q, rfl⟩
        refine ⟨?_, below_drewN' (Below.refl _ _) q⟩
        rw [List.take_of_length_le (by simp), List.take_of_length_le (by simp)]
        congr 2
        exact decide_eq_decide.2 ⟨fun h => strs_map_inj _ _ h, fun h => by rw [h]⟩
  · have e1 : decide (xs = ys) = false := decide_eq_false fun h => hn (by rw [h])
    rw [e1]
    refine (Tryz.slices_Equal_string_lens A B xs.length cp ys.length cq w hn).mono ?_
    rintro e w' ⟨rfl, rfl⟩
    exact ⟨rfl, Below.refl _ _⟩
theorem OAt.cells {w : World} {go : Nat} {o : Od} {sv : Value} (h : OAt w go o sv) : w.cell? ⟨go, 0, none⟩ = some (.int .u8 o.kind) ∧ w.cell? ⟨go, 1, none⟩ = some (.int .u32 o.page) ∧ w.cell? ⟨go, 2, none⟩ = some (.int .i64 o.at_) ∧ w.cell? ⟨go, 3, none⟩ = some (.int .i64 o.off) ∧ w.cell? ⟨go, 4, none⟩ = some (.string ⟨o.text.toArray⟩) ∧ w.cell? ⟨go, 5, none⟩ = some sv ∧ w.cell? ⟨go, 6, none⟩ = some (.int .u8 o.pk) ∧ w.cell? ⟨go, 7, none⟩ = some (.int .u8 o.lv) ∧ w.cell? ⟨go, 8, none⟩ = some (.int .u32 o.nx) := by
  unfold OAt at h
  exact ⟨by rw [blk_cell h]; rfl, by rw [blk_cell h]; rfl, by rw [blk_cell h]; rfl, by rw [blk_cell h]; rfl, by rw [blk_cell h]; rfl, by rw [blk_cell h]; rfl, by rw [blk_cell h]; rfl, by rw [blk_cell h]; rfl, by rw [blk_cell h]; rfl⟩
theorem natb_t {x y : Nat} (h : x = y) : ((x : Int) == (y : Int)) = true := by simp [h]
theorem natb_f {x y : Nat} (h : ¬ x = y) : ((x : Int) == (y : Int)) = false := by simp; omega
theorem intb_t {x y : Int} (h : x = y) : (x == y) = true := by simp [h]
theorem intb_f {x y : Int} (h : ¬ x = y) : (x == y) = false := by simp [h]
theorem od_ne {β : Type} [DecidableEq β] {a b : Od} (f : Od → β) (h : ¬ f a = f b) : decide (a = b) = false := decide_eq_false fun e => h (by rw [e])
theorem od_eq {a b : Od} (h0 : a.kind = b.kind) (h1 : a.page = b.page) (h2 : a.at_ = b.at_) (h3 : a.off = b.off) (h4 : a.text = b.text) (h5 : a.rows = b.rows) (h6 : a.pk = b.pk) (h7 : a.lv = b.lv) (h8 : a.nx = b.nx) : a = b := by
  cases a
  cases b
  simp_all
theorem text_eq (s t : List UInt8) : ((⟨s.toArray⟩ : ByteArray).toList == (⟨t.toArray⟩ : ByteArray).toList) = decide (s = t) := by
  rw [Bool.eq_iff_iff, beq_iff_eq, decide_eq_true_eq, Lib.toList_data, Lib.toList_data]
theorem OAt.new (w : World) (a : Od) (sa : Value) : OAt (w.alloc (.cells #[.int .u8 a.kind, .int .u32 a.page, .int .i64 a.at_, .int .i64 a.off, .string ⟨a.text.toArray⟩, sa, .int .u8 a.pk, .int .u8 a.lv, .int .u32 a.nx] 40)) w.heap.size a sa := heap_alloc_new w _
theorem OAt.below {w w' : World} {g : Nat} {o : Od} {sv : Value} (h : OAt w g o sv) (hb : Below w.heap.size w w') : OAt w' g o sv := by
  unfold OAt at *
  rw [hb.block _ (blk_lt h)]
  exact h
theorem two_boxes (w : World) (a b : Od) (sa sb : Value) : OAt ((w.alloc (.cells #[.int .u8 a.kind, .int .u32 a.page, .int .i64 a.at_, .int .i64 a.off, .string ⟨a.text.toArray⟩, sa, .int .u8 a.pk, .int .u8 a.lv, .int .u32 a.nx] 40)).alloc (.cells #[.int .u8 b.kind, .int .u32 b.page, .int .i64 b.at_, .int .i64 b.off, .string ⟨b.text.toArray⟩, sb, .int .u8 b.pk, .int .u8 b.lv, .int .u32 b.nx] 40)) w.heap.size a sa ∧ OAt ((w.alloc (.cells #[.int .u8 a.kind, .int .u32 a.page, .int .i64 a.at_, .int .i64 a.off, .string ⟨a.text.toArray⟩, sa, .int .u8 a.pk, .int .u8 a.lv, .int .u32 a.nx] 40)).alloc (.cells #[.int .u8 b.kind, .int .u32 b.page, .int .i64 b.at_, .int .i64 b.off, .string ⟨b.text.toArray⟩, sb, .int .u8 b.pk, .int .u8 b.lv, .int .u32 b.nx] 40)) (w.heap.size + 1) b sb ∧ Below w.heap.size w ((w.alloc (.cells #[.int .u8 a.kind, .int .u32 a.page, .int .i64 a.at_, .int .i64 a.off, .string ⟨a.text.toArray⟩, sa, .int .u8 a.pk, .int .u8 a.lv, .int .u32 a.nx] 40)).alloc (.cells #[.int .u8 b.kind, .int .u32 b.page, .int .i64 b.at_, .int .i64 b.off, .string ⟨b.text.toArray⟩, sb, .int .u8 b.pk, .int .u8 b.lv, .int .u32 b.nx] 40)) := by
  have hz : (w.alloc (.cells #[.int .u8 a.kind, .int .u32 a.page, .int .i64 a.at_, .int .i64 a.off, .string ⟨a.text.toArray⟩, sa, .int .u8 a.pk, .int .u8 a.lv, .int .u32 a.nx] 40)).heap.size = w.heap.size + 1 := by simp
  have P1 := OAt.new (w.alloc (.cells #[.int .u8 a.kind, .int .u32 a.page, .int .i64 a.at_, .int .i64 a.off, .string ⟨a.text.toArray⟩, sa, .int .u8 a.pk, .int .u8 a.lv, .int .u32 a.nx] 40)) b sb
  rw [hz] at P1
  exact ⟨(OAt.new w a sa).below (alloc_below _ _), P1, (alloc_below w _).alloc (by simp) _⟩
set_option maxHeartbeats 4000000 in
set_option maxRecDepth 100000 in
theorem opSame_any (a b : Od) (sa sb : Value) (w : World) (ha : TextsAt w sa a.rows) (hb : TextsAt w sb b.rows) (hl : a.rows.length ≤ 1000000) (hl2 : b.rows.length ≤ 1000000) :
    Calls Tryz.prog 86 #[odV a sa, odV b sb] w fun e w' => e = .returned (.bool (decide (a = b))) ∧ Below w.heap.size w w' := by
  have HE := Lib.hid fun W (hB : Below w.heap.size w W) => equalTexts_any sa sb a.rows b.rows W (ha.below hB) (hb.below hB) hl hl2
  clear ha hb hl hl2
  obtain ⟨P0, P1, B0⟩ := two_boxes w a b sa sb
  have B0 := Lib.hid B0
  unfold odV
  obtain ⟨r, hr⟩ : ∃ r, r = decide (a = b) := ⟨_, rfl⟩
  rw [← hr]
  go_enter Tryz.func86, Tryz.ntmps86
  go_upto_region 1 with fail
  generalize (w.alloc (.cells #[.int .u8 a.kind, .int .u32 a.page, .int .i64 a.at_, .int .i64 a.off, .string ⟨a.text.toArray⟩, sa, .int .u8 a.pk, .int .u8 a.lv, .int .u32 a.nx] 40)).alloc (.cells #[.int .u8 b.kind, .int .u32 b.page, .int .i64 b.at_, .int .i64 b.off, .string ⟨b.text.toArray⟩, sb, .int .u8 b.pk, .int .u8 b.lv, .int .u32 b.nx] 40) = w0 at *
  obtain ⟨x0, x1, x2, x3, x4, x5, x6, x7, x8⟩ := P0.cells
  obtain ⟨y0, y1, y2, y3, y4, y5, y6, y7, y8⟩ := P1.cells
  generalize hta : (⟨a.text.toArray⟩ : ByteArray) = ta at *
  generalize htb : (⟨b.text.toArray⟩ : ByteArray) = tb at *
  have hta := Lib.hid hta
  have htb := Lib.hid htb
  clear P0 P1
  by_cases h0 : a.kind = b.kind
  case neg =>
    have e0 : ((a.kind : Int) == (b.kind : Int)) = false := natb_f h0
    replace hr : Hid (r = false) := Lib.hid (hr.trans (od_ne Od.kind h0))
    clear h0
    go_wp2_with fail
    go_ret
    exact ⟨by rw [hr.out]; rfl, B0.out⟩
  by_cases h1 : a.page = b.page
  case neg =>
    have e0 : ((a.kind : Int) == (b.kind : Int)) = true := natb_t h0
    have e1 : ((a.page : Int) == (b.page : Int)) = false := natb_f h1
    replace hr : Hid (r = false) := Lib.hid (hr.trans (od_ne Od.page h1))
    clear h0 h1
    go_wp2_with fail
    go_ret
    exact ⟨by rw [hr.out]; rfl, B0.out⟩
  by_cases h2 : a.at_ = b.at_
  case neg =>
    have e0 : ((a.kind : Int) == (b.kind : Int)) = true := natb_t h0
    have e1 : ((a.page : Int) == (b.page : Int)) = true := natb_t h1
    have e2 : (a.at_ == b.at_) = false := intb_f h2
    replace hr : Hid (r = false) := Lib.hid (hr.trans (od_ne Od.at_ h2))
    clear h0 h1 h2
    go_wp2_with fail
    go_ret
    exact ⟨by rw [hr.out]; rfl, B0.out⟩
  by_cases h3 : a.off = b.off
  case neg =>
    have e0 : ((a.kind : Int) == (b.kind : Int)) = true := natb_t h0
    have e1 : ((a.page : Int) == (b.page : Int)) = true := natb_t h1
    have e2 : (a.at_ == b.at_) = true := intb_t h2
    have e3 : (a.off == b.off) = false := intb_f h3
    replace hr : Hid (r = false) := Lib.hid (hr.trans (od_ne Od.off h3))
    clear h0 h1 h2 h3
    go_wp2_with fail
    go_ret
    exact ⟨by rw [hr.out]; rfl, B0.out⟩
  by_cases h4 : a.text = b.text
  case neg =>
    have e0 : ((a.kind : Int) == (b.kind : Int)) = true := natb_t h0
    have e1 : ((a.page : Int) == (b.page : Int)) = true := natb_t h1
    have e2 : (a.at_ == b.at_) = true := intb_t h2
    have e3 : (a.off == b.off) = true := intb_t h3
    have e4 : (ta.toList == tb.toList) = false := by rw [← hta.out, ← htb.out, text_eq]; simpa using h4
    replace hr : Hid (r = false) := Lib.hid (hr.trans (od_ne Od.text h4))
    clear h0 h1 h2 h3 h4
    go_wp2_with fail
    go_ret
    exact ⟨by rw [hr.out]; rfl, B0.out⟩
  by_cases h5 : a.rows = b.rows
  case neg =>
    have e0 : ((a.kind : Int) == (b.kind : Int)) = true := natb_t h0
    have e1 : ((a.page : Int) == (b.page : Int)) = true := natb_t h1
    have e2 : (a.at_ == b.at_) = true := intb_t h2
    have e3 : (a.off == b.off) = true := intb_t h3
    have e4 : (ta.toList == tb.toList) = true := by rw [← hta.out, ← htb.out, text_eq]; simpa using h4
    have er : decide (a.rows = b.rows) = false := decide_eq_false h5
    replace hr : Hid (r = false) := Lib.hid (hr.trans (od_ne Od.rows h5))
    clear h0 h1 h2 h3 h4 h5
    go_wp2_with fail
    refine (HE.out w0 B0.out).mono ?_
    rintro e W1 ⟨rfl, hB⟩
    rw [er]
    have x6 := keep_cell hB x6
    have x7 := keep_cell hB x7
    have x8 := keep_cell hB x8
    have y6 := keep_cell hB y6
    have y7 := keep_cell hB y7
    have y8 := keep_cell hB y8
    have HB1 := Lib.hid (below_then B0.out hB)
    clear hB er x0 x1 x2 x3 x4 x5 y0 y1 y2 y3 y4 y5
    go_wp2_with fail
    go_ret
    exact ⟨by rw [hr.out]; rfl, HB1.out⟩
  by_cases h6 : a.pk = b.pk
  case neg =>
    have e0 : ((a.kind : Int) == (b.kind : Int)) = true := natb_t h0
    have e1 : ((a.page : Int) == (b.page : Int)) = true := natb_t h1
    have e2 : (a.at_ == b.at_) = true := intb_t h2
    have e3 : (a.off == b.off) = true := intb_t h3
    have e4 : (ta.toList == tb.toList) = true := by rw [← hta.out, ← htb.out, text_eq]; simpa using h4
    have e6 : ((a.pk : Int) == (b.pk : Int)) = false := natb_f h6
    replace hr : Hid (r = false) := Lib.hid (hr.trans (od_ne Od.pk h6))
    have er : decide (a.rows = b.rows) = true := decide_eq_true h5
    clear h0 h1 h2 h3 h4 h5 h6
    go_wp2_with fail
    refine (HE.out w0 B0.out).mono ?_
    rintro e W1 ⟨rfl, hB⟩
    rw [er]
    have x6 := keep_cell hB x6
    have x7 := keep_cell hB x7
    have x8 := keep_cell hB x8
    have y6 := keep_cell hB y6
    have y7 := keep_cell hB y7
    have y8 := keep_cell hB y8
    have HB1 := Lib.hid (below_then B0.out hB)
    clear hB er x0 x1 x2 x3 x4 x5 y0 y1 y2 y3 y4 y5
    go_wp2_with fail
    go_ret
    exact ⟨by rw [hr.out]; rfl, HB1.out⟩
  by_cases h7 : a.lv = b.lv
  case neg =>
    have e0 : ((a.kind : Int) == (b.kind : Int)) = true := natb_t h0
    have e1 : ((a.page : Int) == (b.page : Int)) = true := natb_t h1
    have e2 : (a.at_ == b.at_) = true := intb_t h2
    have e3 : (a.off == b.off) = true := intb_t h3
    have e4 : (ta.toList == tb.toList) = true := by rw [← hta.out, ← htb.out, text_eq]; simpa using h4
    have e6 : ((a.pk : Int) == (b.pk : Int)) = true := natb_t h6
    have e7 : ((a.lv : Int) == (b.lv : Int)) = false := natb_f h7
    replace hr : Hid (r = false) := Lib.hid (hr.trans (od_ne Od.lv h7))
    have er : decide (a.rows = b.rows) = true := decide_eq_true h5
    clear h0 h1 h2 h3 h4 h5 h6 h7
    go_wp2_with fail
    refine (HE.out w0 B0.out).mono ?_
    rintro e W1 ⟨rfl, hB⟩
    rw [er]
    have x6 := keep_cell hB x6
    have x7 := keep_cell hB x7
    have x8 := keep_cell hB x8
    have y6 := keep_cell hB y6
    have y7 := keep_cell hB y7
    have y8 := keep_cell hB y8
    have HB1 := Lib.hid (below_then B0.out hB)
    clear hB er x0 x1 x2 x3 x4 x5 y0 y1 y2 y3 y4 y5
    go_wp2_with fail
    go_ret
    exact ⟨by rw [hr.out]; rfl, HB1.out⟩
  by_cases h8 : a.nx = b.nx
  case neg =>
    have e0 : ((a.kind : Int) == (b.kind : Int)) = true := natb_t h0
    have e1 : ((a.page : Int) == (b.page : Int)) = true := natb_t h1
    have e2 : (a.at_ == b.at_) = true := intb_t h2
    have e3 : (a.off == b.off) = true := intb_t h3
    have e4 : (ta.toList == tb.toList) = true := by rw [← hta.out, ← htb.out, text_eq]; simpa using h4
    have e6 : ((a.pk : Int) == (b.pk : Int)) = true := natb_t h6
    have e7 : ((a.lv : Int) == (b.lv : Int)) = true := natb_t h7
    have e8 : ((a.nx : Int) == (b.nx : Int)) = false := natb_f h8
    replace hr : Hid (r = false) := Lib.hid (hr.trans (od_ne Od.nx h8))
    have er : decide (a.rows = b.rows) = true := decide_eq_true h5
    clear h0 h1 h2 h3 h4 h5 h6 h7 h8
    go_wp2_with fail
    refine (HE.out w0 B0.out).mono ?_
    rintro e W1 ⟨rfl, hB⟩
    rw [er]
    have x6 := keep_cell hB x6
    have x7 := keep_cell hB x7
    have x8 := keep_cell hB x8
    have y6 := keep_cell hB y6
    have y7 := keep_cell hB y7
    have y8 := keep_cell hB y8
    have HB1 := Lib.hid (below_then B0.out hB)
    clear hB er x0 x1 x2 x3 x4 x5 y0 y1 y2 y3 y4 y5
    go_wp2_with fail
    go_ret
    exact ⟨by rw [hr.out]; rfl, HB1.out⟩
  have e0 : ((a.kind : Int) == (b.kind : Int)) = true := natb_t h0
  have e1 : ((a.page : Int) == (b.page : Int)) = true := natb_t h1
  have e2 : (a.at_ == b.at_) = true := intb_t h2
  have e3 : (a.off == b.off) = true := intb_t h3
  have e4 : (ta.toList == tb.toList) = true := by rw [← hta.out, ← htb.out, text_eq]; simpa using h4
  have e6 : ((a.pk : Int) == (b.pk : Int)) = true := natb_t h6
  have e7 : ((a.lv : Int) == (b.lv : Int)) = true := natb_t h7
  have e8 : ((a.nx : Int) == (b.nx : Int)) = true := natb_t h8
  replace hr : Hid (r = true) := Lib.hid (hr.trans (decide_eq_true (od_eq h0 h1 h2 h3 h4 h5 h6 h7 h8)))
  have er : decide (a.rows = b.rows) = true := decide_eq_true h5
  clear h0 h1 h2 h3 h4 h5 h6 h7 h8
  go_wp2_with fail
  refine (HE.out w0 B0.out).mono ?_
  rintro e W1 ⟨rfl, hB⟩
  rw [er]
  have x6 := keep_cell hB x6
  have x7 := keep_cell hB x7
  have x8 := keep_cell hB x8
  have y6 := keep_cell hB y6
  have y7 := keep_cell hB y7
  have y8 := keep_cell hB y8
  have HB1 := Lib.hid (below_then B0.out hB)
  clear hB er x0 x1 x2 x3 x4 x5 y0 y1 y2 y3 y4 y5
  go_wp2_with fail
  go_ret
  exact ⟨by rw [hr.out]; rfl, HB1.out⟩
end Go.Proofs.YtienlhnbmobinaaGreat
end
