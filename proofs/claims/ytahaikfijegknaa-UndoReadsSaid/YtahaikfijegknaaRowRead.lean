/- The contracts of a reading's two methods: what they give, where the reading stands behind them. -/
import Derived.Test.YtahaikfijegknaaRows
import Derived.Test.YtahaikfijegknaaRowRefEncode
import Derived.WalkKit
import Derived.WalkLawsBesides
import Derived.WalkSpells
import Derived.LoopTactic
import Derived.WalkMore
import Derived.LoopN
import Derived.Laws.BitsAllLaws
import Derived.Laws.IdiomStrings
import Derived.BigQuiet
import Derived.Deep.QuietTactic
import Derived.Deep.DeepCutAuto
import Derived.Deep.RegionHeld3
import Derived.Deep.DrawnRows
import Derived.Lib.Hide
import Derived.Outline
import Derived.Deep.DeepMust
import Derived.Handy
namespace Go.Proofs.Ytahaikfijegknaa
open Go.RowKit
set_option linter.unusedVariables false
set_option linter.unusedSimpArgs false

/-- A reading lies in block g, whole. -/
def RdIn (w : World) (g : Nat) (s : ByteArray) (i : Nat) (is : Bool) : Prop := w.heap[g]? = some (.cells #[.string s, .int .i64 i, .bool is] 79 (0, 0))

theorem blk_lt {w : World} {g : Nat} {o : Obj} (h : w.heap[g]? = some o) : g < w.heap.size := by
  rcases Nat.lt_or_ge g w.heap.size with hlt | hge
  · exact hlt
  · rw [Array.getElem?_eq_none hge] at h; cases h
theorem blk_cell {w : World} {g : Nat} {t : TypeId} {cs : Array Value} (h : w.heap[g]? = some (.cells cs t (0, 0))) (i : Nat) : w.cell? ⟨g, i, none⟩ = cs[i]? := cell_of_row w g i cs t (0, 0) h
theorem blk_frozen {w : World} {g : Nat} {t : TypeId} {cs : Array Value} (h : w.heap[g]? = some (.cells cs t (0, 0))) (i : Nat) : w.frozen? ⟨g, i, none⟩ = false := by
  simp [World.frozen?, h]
theorem blk_set {w : World} {g : Nat} {t : TypeId} {cs : Array Value} (h : w.heap[g]? = some (.cells cs t (0, 0))) (i : Nat) (u : Value) : (w.setCell ⟨g, i, none⟩ u).heap[g]? = some (.cells (cs.setIfInBounds i u) t (0, 0)) := by
  simp [World.setCell, Array.getElem?_modify, h]
theorem grown_set {w w' : World} {g i : Nat} {u : Value} (h : w.grownBy w' (some g)) : w.grownBy (w'.setCell ⟨g, i, none⟩ u) (some g) :=
  ⟨h.os, h.tape, h.output, by simpa [World.setCell] using h.size, fun k hk hne => by rw [Below.heap_setCell _ _ _ _ (fun e => hne (by rw [e]))]; exact h.block k hk hne⟩
theorem grown_below {w w' : World} (row : Option Nat) (h : Below w.heap.size w w') : w.grownBy w' row := ⟨h.os, h.tape, h.output, h.size, fun k hk _ => h.block k hk⟩

set_option maxHeartbeats 1000000 in
set_option maxRecDepth 100000 in
theorem num_any (s : ByteArray) (g i k : Nat) (is : Bool) (w : World) (hs : s.size ≤ maxLen) (hi : i ≤ 1000000) (h1 : 1 ≤ k) (h8 : k ≤ 8) (hr : RdIn w g s i is) :
    Calls Try.prog 53 #[.pointer (some ⟨g, 0, none⟩), .int .i64 k] w fun e w' => e = .returned (.int .u64 (rdNum s.data.toList i k)) ∧ RdIn w' g s (i + k) (is && decide (i + k ≤ s.size)) ∧ w.grownBy w' (some g) := by
  have hl : s.data.toList.length = s.size := by simp
  have hg := blk_lt hr
  have c0 := ext_cell (w := w) (b := g) (o := 0) (by rw [blk_cell hr]; rfl) hg
  have c1 := ext_cell (w := w) (b := g) (o := 1) (by rw [blk_cell hr]; rfl) hg
  have Hr := Lib.hid hr
  clear hr
  by_cases hok : i + k ≤ s.size
  · have G := Lib.hid fun W => get_yes s i k W hs hok h1 h8
    have hd : Hid (decide (i + k ≤ s.size) = true) := by show _ = _; simp [hok]
    rw [hd.out]
    have hn : Hid (rdNum s.data.toList i k = un ((s.data.toList.drop i).take k)) := by show _ = _; unfold rdNum; rw [hl, if_pos hok]
    rw [hn.out]
    generalize un ((s.data.toList.drop i).take k) = n at *
    unfold maxLen at hs
    go_enter Try.func53, Try.ntmps53
    go_wp2_with fail
    refine wp_region_ext w.heap.size (by kernel_rfl) (by kernel_rfl) ?_
    repeat (go_big_quiet_step ((go_at_call 58; exact ext_call _ (Nat.le_refl _) (G.out _))))
    refine wpQuiet_nil ?_
    rintro _ ⟨x, rfl⟩
    have hx := x.below
    generalize x.val = wz at hx ⊢
    have hz : wz.heap[g]? = _ := (hx.block g hg).trans Hr.out
    have d0 := blk_cell hz 0
    have d1 := blk_cell hz 1
    have d2 := blk_cell hz 2
    have f1 := blk_frozen hz 1
    have f2 := blk_frozen hz 2
    have Hz := Lib.hid hz
    clear hz c0 c1
    cases is with
    | false =>
      go_wp2_with fail
      go_ret
      exact ⟨rfl, blk_set (blk_set Hz.out 1 _) 2 _, grown_set (grown_set (grown_below _ hx))⟩
    | true =>
      go_wp2_with fail
      go_ret
      exact ⟨rfl, blk_set (blk_set Hz.out 1 _) 2 _, grown_set (grown_set (grown_below _ hx))⟩
  · have G := Lib.hid fun W => get_no s i k W hs (by omega) (by omega) (by omega)
    have hd : Hid (decide (i + k ≤ s.size) = false) := by show _ = _; simp; omega
    rw [hd.out]
    have hn : Hid (rdNum s.data.toList i k = 0) := by show _ = _; unfold rdNum; rw [hl, if_neg hok]
    rw [hn.out]
    unfold maxLen at hs
    go_enter Try.func53, Try.ntmps53
    go_wp2_with fail
    refine wp_region_ext w.heap.size (by kernel_rfl) (by kernel_rfl) ?_
    repeat (go_big_quiet_step ((go_at_call 58; exact ext_same _ (G.out _))))
    refine wpQuiet_nil ?_
    rintro _ ⟨x, rfl⟩
    have hx := x.below
    generalize x.val = wz at hx ⊢
    have hz : wz.heap[g]? = _ := (hx.block g hg).trans Hr.out
    have d0 := blk_cell hz 0
    have d1 := blk_cell hz 1
    have d2 := blk_cell hz 2
    have f1 := blk_frozen hz 1
    have f2 := blk_frozen hz 2
    have Hz := Lib.hid hz
    clear hz c0 c1
    cases is with
    | false =>
      go_wp2_with fail
      go_ret
      exact ⟨rfl, blk_set (blk_set Hz.out 1 _) 2 _, grown_set (grown_set (grown_below _ hx))⟩
    | true =>
      go_wp2_with fail
      go_ret
      exact ⟨rfl, blk_set (blk_set Hz.out 1 _) 2 _, grown_set (grown_set (grown_below _ hx))⟩

set_option maxHeartbeats 1000000 in
set_option maxRecDepth 100000 in
theorem text_any (s : ByteArray) (g i k : Nat) (is : Bool) (w : World) (hs : s.size ≤ maxLen) (hi : i ≤ 1000000) (hk : k ≤ 1000000) (hr : RdIn w g s i is) :
    Calls Try.prog 52 #[.pointer (some ⟨g, 0, none⟩), .int .i64 k] w fun e w' => e = .returned (.string ⟨(rdText s.data.toList i k).toArray⟩) ∧ RdIn w' g s (i + k) (is && decide (i + k ≤ s.size)) ∧ w.grownBy w' (some g) := by
  have hl : s.data.toList.length = s.size := by simp
  have hg := blk_lt hr
  have c0 := ext_cell (w := w) (b := g) (o := 0) (by rw [blk_cell hr]; rfl) hg
  have c1 := ext_cell (w := w) (b := g) (o := 1) (by rw [blk_cell hr]; rfl) hg
  have Hr := Lib.hid hr
  clear hr
  by_cases hok : i + k ≤ s.size
  · have G := Lib.hid fun W => cut_yes s i k W hs hok
    have hd : Hid (decide (i + k ≤ s.size) = true) := by show _ = _; simp [hok]
    rw [hd.out]
    have hn : Hid ((⟨(rdText s.data.toList i k).toArray⟩ : ByteArray) = s.extract i (i + k)) := by
      show _ = _
      unfold rdText
      rw [hl, if_pos hok]
      apply bytes_ext
      simp [List.take_drop]
    rw [hn.out]
    generalize s.extract i (i + k) = n at *
    unfold maxLen at hs
    go_enter Try.func52, Try.ntmps52
    go_wp2_with fail
    refine wp_region_ext w.heap.size (by kernel_rfl) (by kernel_rfl) ?_
    repeat (go_big_quiet_step ((go_at_call 69; exact ext_same _ (G.out _))))
    refine wpQuiet_nil ?_
    rintro _ ⟨x, rfl⟩
    have hx := x.below
    generalize x.val = wz at hx ⊢
    have hz : wz.heap[g]? = _ := (hx.block g hg).trans Hr.out
    have d0 := blk_cell hz 0
    have d1 := blk_cell hz 1
    have d2 := blk_cell hz 2
    have f1 := blk_frozen hz 1
    have f2 := blk_frozen hz 2
    have Hz := Lib.hid hz
    clear hz c0 c1
    cases is with
    | false =>
      go_wp2_with fail
      go_ret
      exact ⟨rfl, blk_set (blk_set Hz.out 1 _) 2 _, grown_set (grown_set (grown_below _ hx))⟩
    | true =>
      go_wp2_with fail
      go_ret
      exact ⟨rfl, blk_set (blk_set Hz.out 1 _) 2 _, grown_set (grown_set (grown_below _ hx))⟩
  · have G := Lib.hid fun W => cut_no s i k W hs (by omega) (by omega) (by omega)
    have hd : Hid (decide (i + k ≤ s.size) = false) := by show _ = _; simp; omega
    rw [hd.out]
    have hn : Hid (rdText s.data.toList i k = []) := by show _ = _; unfold rdText; rw [hl, if_neg hok]
    rw [hn.out]
    unfold maxLen at hs
    go_enter Try.func52, Try.ntmps52
    go_wp2_with fail
    refine wp_region_ext w.heap.size (by kernel_rfl) (by kernel_rfl) ?_
    repeat (go_big_quiet_step ((go_at_call 69; exact ext_same _ (G.out _))))
    refine wpQuiet_nil ?_
    rintro _ ⟨x, rfl⟩
    have hx := x.below
    generalize x.val = wz at hx ⊢
    have hz : wz.heap[g]? = _ := (hx.block g hg).trans Hr.out
    have d0 := blk_cell hz 0
    have d1 := blk_cell hz 1
    have d2 := blk_cell hz 2
    have f1 := blk_frozen hz 1
    have f2 := blk_frozen hz 2
    have Hz := Lib.hid hz
    clear hz c0 c1
    cases is with
    | false =>
      go_wp2_with fail
      go_ret
      exact ⟨rfl, blk_set (blk_set Hz.out 1 _) 2 _, grown_set (grown_set (grown_below _ hx))⟩
    | true =>
      go_wp2_with fail
      go_ret
      exact ⟨rfl, blk_set (blk_set Hz.out 1 _) 2 _, grown_set (grown_set (grown_below _ hx))⟩

end Go.Proofs.Ytahaikfijegknaa
