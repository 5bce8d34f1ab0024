/- undo.Decode's frame, and its inner function -/
import Derived.Test.YtahaikfijegknaaRows
import Derived.Test.YtahaikfijegknaaUndoRefEncode
import Derived.Test.YtahaikfijegknaaRefDecode
import Derived.WalkKit
import Derived.WalkLawsBesides
import Derived.WalkSpells
import Derived.LoopTactic
import Derived.WalkMore
import Derived.LoopN
import Derived.Laws.BitsAllLaws
import Derived.Laws.IdiomStrings
import Derived.BigQuiet
import Derived.Deep.QuietTactic
import Derived.Deep.DeepCutAuto
import Derived.Deep.RegionHeld3
import Derived.Deep.DrawnRows
import Derived.Lib.Hide
import Derived.Outline
import Derived.Deep.DeepMust
import Derived.Handy
namespace Go.Proofs.Ytahaikfijegknaa
open Go.RowKit
set_option linter.unusedVariables false
set_option linter.unusedSimpArgs false

/-- The frame of undo.Decode: block B has the bytes, B + 1 the result, B + 2 the place, B + 3 whether all was there. -/
structure USt (B : Nat) (w0 : World) (s : ByteArray) (i : Nat) (is : Bool) (w : World) : Prop where
  below : Below B w0 w
  size : B + 4 ≤ w.heap.size
  str : w.heap[B]? = some (.cells #[.string s] 9 (0, 0))
  res : w.heap[B + 1]? = some (.cells #[.int .u8 0, .int .u64 0, .int .u32 0, .int .u16 0, .string ⟨#[]⟩, .string ⟨#[]⟩, .bool false, .int .u64 0, .int .u32 0, .int .u16 0, .string ⟨#[]⟩, .int .i64 0] 58 (0, 0))
  pos : w.heap[B + 1 + 1]? = some (.cells #[.int .i64 i] 3 (0, 0))
  all : w.heap[B + 1 + 1 + 1]? = some (.cells #[.bool is] 4 (0, 0))

theorem USt.alloc {B : Nat} {w0 w : World} {s : ByteArray} {i : Nat} {is : Bool} (h : USt B w0 s i is w) (o : Obj) : USt B w0 s i is (w.alloc o) :=
  ⟨h.below.alloc (by have := h.size; omega) o, by have := h.size; simp; omega, heap_keep h.str, heap_keep h.res, heap_keep h.pos, heap_keep h.all⟩
theorem USt.drew {B : Nat} {w0 w : World} {s : ByteArray} {i : Nat} {is : Bool} (h : USt B w0 s i is w) : USt B w0 s i is w.drew := ⟨h.below.drew, h.size, h.str, h.res, h.pos, h.all⟩
theorem USt.below_step {B : Nat} {w0 w w' : World} {s : ByteArray} {i : Nat} {is : Bool} (h : USt B w0 s i is w) (hb : Below w.heap.size w w') : USt B w0 s i is w' :=
  ⟨h.below.trans (hb.mono (by have := h.size; omega)), Nat.le_trans h.size hb.size, (hb.block _ (blk_lt h.str)).trans h.str, (hb.block _ (blk_lt h.res)).trans h.res, (hb.block _ (blk_lt h.pos)).trans h.pos, (hb.block _ (blk_lt h.all)).trans h.all⟩
theorem USt.set {B : Nat} {w0 w : World} {s : ByteArray} {i : Nat} {is : Bool} (h : USt B w0 s i is w) (x j : Nat) (u : Value) (hx : B + 4 ≤ x) : USt B w0 s i is (w.setCell ⟨x, j, none⟩ u) :=
  ⟨h.below.setCell (by show B ≤ x; omega) u, by simpa [World.setCell] using h.size, set_keep h.str (by omega), set_keep h.res (by omega), set_keep h.pos (by omega), set_keep h.all (by omega)⟩
theorem set_lt {w : World} {x j : Nat} {u : Value} : (w.setCell ⟨x, j, none⟩ u).heap.size = w.heap.size := by simp [World.setCell]
theorem USt.step {B : Nat} {w0 w wz : World} {s : ByteArray} {i : Nat} {is : Bool} (h : USt B w0 s i is w) (hb : Below w.heap.size w wz) (b : Bool) (j : Nat) :
    USt B w0 s j b ((wz.setCell ⟨B + 1 + 1 + 1, 0, none⟩ (.bool b)).setCell ⟨B + 1 + 1, 0, none⟩ (.int .i64 j)) := by
  have h := h.below_step hb
  exact ⟨(h.below.setCell (by show B ≤ B + 1 + 1 + 1; omega) _).setCell (by show B ≤ B + 1 + 1; omega) _, by rw [set_lt, set_lt]; exact h.size, set_keep (set_keep h.str (by omega)) (by omega), set_keep (set_keep h.res (by omega)) (by omega),
    blk_set (set_keep h.pos (by omega)) 0 _, set_keep (blk_set h.all 0 _) (by omega)⟩
theorem far_step {B : Nat} {w wz : World} (hb : Below w.heap.size w wz) (b : Value) (j : Value) (g : Nat) (hg : B + 4 ≤ g) (hl : g < w.heap.size) :
    ((wz.setCell ⟨B + 1 + 1 + 1, 0, none⟩ b).setCell ⟨B + 1 + 1, 0, none⟩ j).heap[g]? = w.heap[g]? := by
  rw [Below.heap_setCell _ _ _ g (by show g ≠ B + 1 + 1; omega), Below.heap_setCell _ _ _ g (by show g ≠ B + 1 + 1 + 1; omega)]
  exact hb.block g hl
theorem USt.new (w : World) (s : ByteArray) : USt w.heap.size w s 0 true ((((w.alloc (.cells #[.string s] 9)).alloc (.cells #[.int .u8 0, .int .u64 0, .int .u32 0, .int .u16 0, .string ⟨#[]⟩, .string ⟨#[]⟩, .bool false, .int .u64 0, .int .u32 0, .int .u16 0, .string ⟨#[]⟩, .int .i64 0] 58)).alloc (.cells #[.int .i64 0] 3)).alloc (.cells #[.bool true] 4)) := by
  have z1 : (w.alloc (.cells #[.string s] 9)).heap.size = w.heap.size + 1 := by simp
  have z2 : ((w.alloc (.cells #[.string s] 9)).alloc (.cells #[.int .u8 0, .int .u64 0, .int .u32 0, .int .u16 0, .string ⟨#[]⟩, .string ⟨#[]⟩, .bool false, .int .u64 0, .int .u32 0, .int .u16 0, .string ⟨#[]⟩, .int .i64 0] 58)).heap.size = w.heap.size + 1 + 1 := by simp
  have z3 : (((w.alloc (.cells #[.string s] 9)).alloc (.cells #[.int .u8 0, .int .u64 0, .int .u32 0, .int .u16 0, .string ⟨#[]⟩, .string ⟨#[]⟩, .bool false, .int .u64 0, .int .u32 0, .int .u16 0, .string ⟨#[]⟩, .int .i64 0] 58)).alloc (.cells #[.int .i64 0] 3)).heap.size = w.heap.size + 1 + 1 + 1 := by simp
  refine ⟨((((Below.refl _ _).alloc (Nat.le_refl _) _).alloc (by simp) _).alloc (by simp; omega) _).alloc (by simp; omega) _, by simp, ?_, ?_, ?_, ?_⟩
  · exact heap_keep (heap_keep (heap_keep (heap_alloc_new w _)))
  · have := heap_alloc_new (w.alloc (.cells #[.string s] 9)) (.cells #[.int .u8 0, .int .u64 0, .int .u32 0, .int .u16 0, .string ⟨#[]⟩, .string ⟨#[]⟩, .bool false, .int .u64 0, .int .u32 0, .int .u16 0, .string ⟨#[]⟩, .int .i64 0] 58)
    rw [z1] at this
    exact heap_keep (heap_keep this)
  · have := heap_alloc_new ((w.alloc (.cells #[.string s] 9)).alloc (.cells #[.int .u8 0, .int .u64 0, .int .u32 0, .int .u16 0, .string ⟨#[]⟩, .string ⟨#[]⟩, .bool false, .int .u64 0, .int .u32 0, .int .u16 0, .string ⟨#[]⟩, .int .i64 0] 58)) (.cells #[.int .i64 0] 3)
    rw [z2] at this
    exact heap_keep this
  · have := heap_alloc_new (((w.alloc (.cells #[.string s] 9)).alloc (.cells #[.int .u8 0, .int .u64 0, .int .u32 0, .int .u16 0, .string ⟨#[]⟩, .string ⟨#[]⟩, .bool false, .int .u64 0, .int .u32 0, .int .u16 0, .string ⟨#[]⟩, .int .i64 0] 58)).alloc (.cells #[.int .i64 0] 3)) (.cells #[.bool true] 4)
    rw [z3] at this
    exact this

theorem undo_res {w : World} {g : Nat} {t : TypeId} {a0 a1 a2 a3 a4 a5 a6 a7 a8 a9 a10 a11 : Value} (h : w.heap[g]? = some (.cells #[a0, a1, a2, a3, a4, a5, a6, a7, a8, a9, a10, a11] t (0, 0))) (v0 v1 v2 v3 v4 v5 v6 v7 v8 v9 v10 v11 : Value) :
    ((((((((((((w.setCell ⟨g, 0, none⟩ v0).setCell ⟨g, 1, none⟩ v1).setCell ⟨g, 2, none⟩ v2).setCell ⟨g, 3, none⟩ v3).setCell ⟨g, 4, none⟩ v4).setCell ⟨g, 5, none⟩ v5).setCell ⟨g, 6, none⟩ v6).setCell ⟨g, 7, none⟩ v7).setCell ⟨g, 8, none⟩ v8).setCell ⟨g, 9, none⟩ v9).setCell ⟨g, 10, none⟩ v10).setCell ⟨g, 11, none⟩ v11).cell? ⟨g, 0, none⟩ = some v0 ∧ ((((((((((((w.setCell ⟨g, 0, none⟩ v0).setCell ⟨g, 1, none⟩ v1).setCell ⟨g, 2, none⟩ v2).setCell ⟨g, 3, none⟩ v3).setCell ⟨g, 4, none⟩ v4).setCell ⟨g, 5, none⟩ v5).setCell ⟨g, 6, none⟩ v6).setCell ⟨g, 7, none⟩ v7).setCell ⟨g, 8, none⟩ v8).setCell ⟨g, 9, none⟩ v9).setCell ⟨g, 10, none⟩ v10).setCell ⟨g, 11, none⟩ v11).cell? ⟨g, 1, none⟩ = some v1 ∧ ((((((((((((w.setCell ⟨g, 0, none⟩ v0).setCell ⟨g, 1, none⟩ v1).setCell ⟨g, 2, none⟩ v2).setCell ⟨g, 3, none⟩ v3).setCell ⟨g, 4, none⟩ v4).setCell ⟨g, 5, none⟩ v5).setCell ⟨g, 6, none⟩ v6).setCell ⟨g, 7, none⟩ v7).setCell ⟨g, 8, none⟩ v8).setCell ⟨g, 9, none⟩ v9).setCell ⟨g, 10, none⟩ v10).setCell ⟨g, 11, none⟩ v11).cell? ⟨g, 2, none⟩ = some v2 ∧ ((((((((((((w.setCell ⟨g, 0, none⟩ v0).setCell ⟨g, 1, none⟩ v1).setCell ⟨g, 2, none⟩ v2).setCell ⟨g, 3, none⟩ v3).setCell ⟨g, 4, none⟩ v4).setCell ⟨g, 5, none⟩ v5).setCell ⟨g, 6, none⟩ v6).setCell ⟨g, 7, none⟩ v7).setCell ⟨g, 8, none⟩ v8).setCell ⟨g, 9, none⟩ v9).setCell ⟨g, 10, none⟩ v10).setCell ⟨g, 11, none⟩ v11).cell? ⟨g, 3, none⟩ = some v3 ∧ ((((((((((((w.setCell ⟨g, 0, none⟩ v0).setCell ⟨g, 1, none⟩ v1).setCell ⟨g, 2, none⟩ v2).setCell ⟨g, 3, none⟩ v3).setCell ⟨g, 4, none⟩ v4).setCell ⟨g, 5, none⟩ v5).setCell ⟨g, 6, none⟩ v6).setCell ⟨g, 7, none⟩ v7).setCell ⟨g, 8, none⟩ v8).setCell ⟨g, 9, none⟩ v9).setCell ⟨g, 10, none⟩ v10).setCell ⟨g, 11, none⟩ v11).cell? ⟨g, 4, none⟩ = some v4 ∧ ((((((((((((w.setCell ⟨g, 0, none⟩ v0).setCell ⟨g, 1, none⟩ v1).setCell ⟨g, 2, none⟩ v2).setCell ⟨g, 3, none⟩ v3).setCell ⟨g, 4, none⟩ v4).setCell ⟨g, 5, none⟩ v5).setCell ⟨g, 6, none⟩ v6).setCell ⟨g, 7, none⟩ v7).setCell ⟨g, 8, none⟩ v8).setCell ⟨g, 9, none⟩ v9).setCell ⟨g, 10, none⟩ v10).setCell ⟨g, 11, none⟩ v11).cell? ⟨g, 5, none⟩ = some v5 ∧ ((((((((((((w.setCell ⟨g, 0, none⟩ v0).setCell ⟨g, 1, none⟩ v1).setCell ⟨g, 2, none⟩ v2).setCell ⟨g, 3, none⟩ v3).setCell ⟨g, 4, none⟩ v4).setCell ⟨g, 5, none⟩ v5).setCell ⟨g, 6, none⟩ v6).setCell ⟨g, 7, none⟩ v7).setCell ⟨g, 8, none⟩ v8).setCell ⟨g, 9, none⟩ v9).setCell ⟨g, 10, none⟩ v10).setCell ⟨g, 11, none⟩ v11).cell? ⟨g, 6, none⟩ = some v6 ∧ ((((((((((((w.setCell ⟨g, 0, none⟩ v0).setCell ⟨g, 1, none⟩ v1).setCell ⟨g, 2, none⟩ v2).setCell ⟨g, 3, none⟩ v3).setCell ⟨g, 4, none⟩ v4).setCell ⟨g, 5, none⟩ v5).setCell ⟨g, 6, none⟩ v6).setCell ⟨g, 7, none⟩ v7).setCell ⟨g, 8, none⟩ v8).setCell ⟨g, 9, none⟩ v9).setCell ⟨g, 10, none⟩ v10).setCell ⟨g, 11, none⟩ v11).cell? ⟨g, 7, none⟩ = some v7 ∧ ((((((((((((w.setCell ⟨g, 0, none⟩ v0).setCell ⟨g, 1, none⟩ v1).setCell ⟨g, 2, none⟩ v2).setCell ⟨g, 3, none⟩ v3).setCell ⟨g, 4, none⟩ v4).setCell ⟨g, 5, none⟩ v5).setCell ⟨g, 6, none⟩ v6).setCell ⟨g, 7, none⟩ v7).setCell ⟨g, 8, none⟩ v8).setCell ⟨g, 9, none⟩ v9).setCell ⟨g, 10, none⟩ v10).setCell ⟨g, 11, none⟩ v11).cell? ⟨g, 8, none⟩ = some v8 ∧ ((((((((((((w.setCell ⟨g, 0, none⟩ v0).setCell ⟨g, 1, none⟩ v1).setCell ⟨g, 2, none⟩ v2).setCell ⟨g, 3, none⟩ v3).setCell ⟨g, 4, none⟩ v4).setCell ⟨g, 5, none⟩ v5).setCell ⟨g, 6, none⟩ v6).setCell ⟨g, 7, none⟩ v7).setCell ⟨g, 8, none⟩ v8).setCell ⟨g, 9, none⟩ v9).setCell ⟨g, 10, none⟩ v10).setCell ⟨g, 11, none⟩ v11).cell? ⟨g, 9, none⟩ = some v9 ∧ ((((((((((((w.setCell ⟨g, 0, none⟩ v0).setCell ⟨g, 1, none⟩ v1).setCell ⟨g, 2, none⟩ v2).setCell ⟨g, 3, none⟩ v3).setCell ⟨g, 4, none⟩ v4).setCell ⟨g, 5, none⟩ v5).setCell ⟨g, 6, none⟩ v6).setCell ⟨g, 7, none⟩ v7).setCell ⟨g, 8, none⟩ v8).setCell ⟨g, 9, none⟩ v9).setCell ⟨g, 10, none⟩ v10).setCell ⟨g, 11, none⟩ v11).cell? ⟨g, 10, none⟩ = some v10 ∧ ((((((((((((w.setCell ⟨g, 0, none⟩ v0).setCell ⟨g, 1, none⟩ v1).setCell ⟨g, 2, none⟩ v2).setCell ⟨g, 3, none⟩ v3).setCell ⟨g, 4, none⟩ v4).setCell ⟨g, 5, none⟩ v5).setCell ⟨g, 6, none⟩ v6).setCell ⟨g, 7, none⟩ v7).setCell ⟨g, 8, none⟩ v8).setCell ⟨g, 9, none⟩ v9).setCell ⟨g, 10, none⟩ v10).setCell ⟨g, 11, none⟩ v11).cell? ⟨g, 11, none⟩ = some v11 := by
  have hb := (blk_set (blk_set (blk_set (blk_set (blk_set (blk_set (blk_set (blk_set (blk_set (blk_set (blk_set (blk_set h 0 v0) 1 v1) 2 v2) 3 v3) 4 v4) 5 v5) 6 v6) 7 v7) 8 v8) 9 v9) 10 v10) 11 v11)
  simp only [List.setIfInBounds_toArray, List.set_cons_zero, List.set_cons_succ] at hb
  generalize ((((((((((((w.setCell ⟨g, 0, none⟩ v0).setCell ⟨g, 1, none⟩ v1).setCell ⟨g, 2, none⟩ v2).setCell ⟨g, 3, none⟩ v3).setCell ⟨g, 4, none⟩ v4).setCell ⟨g, 5, none⟩ v5).setCell ⟨g, 6, none⟩ v6).setCell ⟨g, 7, none⟩ v7).setCell ⟨g, 8, none⟩ v8).setCell ⟨g, 9, none⟩ v9).setCell ⟨g, 10, none⟩ v10).setCell ⟨g, 11, none⟩ v11) = W at hb ⊢
  refine ⟨?_, ?_, ?_, ?_, ?_, ?_, ?_, ?_, ?_, ?_, ?_, ?_⟩ <;> (rw [blk_cell hb]; rfl)

theorem undo_below {B g : Nat} {w0 w : World} (h : Below B w0 w) (hg : B ≤ g) (v0 v1 v2 v3 v4 v5 v6 v7 v8 v9 v10 v11 : Value) : Below B w0 ((((((((((((w.setCell ⟨g, 0, none⟩ v0).setCell ⟨g, 1, none⟩ v1).setCell ⟨g, 2, none⟩ v2).setCell ⟨g, 3, none⟩ v3).setCell ⟨g, 4, none⟩ v4).setCell ⟨g, 5, none⟩ v5).setCell ⟨g, 6, none⟩ v6).setCell ⟨g, 7, none⟩ v7).setCell ⟨g, 8, none⟩ v8).setCell ⟨g, 9, none⟩ v9).setCell ⟨g, 10, none⟩ v10).setCell ⟨g, 11, none⟩ v11) :=
  (((((((((((h.setCell hg _).setCell hg _).setCell hg _).setCell hg _).setCell hg _).setCell hg _).setCell hg _).setCell hg _).setCell hg _).setCell hg _).setCell hg _).setCell hg _

theorem wrap_at (i k : Nat) (hi : i ≤ 1000000) (h8 : k ≤ 8) : IntKind.i64.wrap ((i : Int) + (k : Int)) = ((i + k : Nat) : Int) := by
  rw [show ((i + k : Nat) : Int) = (i : Int) + (k : Int) by omega]
  exact IntWalk.i64_in _ ⟨by omega, by omega⟩

set_option maxHeartbeats 1000000 in
set_option maxRecDepth 100000 in
theorem unext (s : ByteArray) (B i k : Nat) (is : Bool) (w0 w : World) (hs : s.size ≤ 1000000) (hi : i ≤ 1000000) (h1 : 1 ≤ k) (h8 : k ≤ 8) (h : USt B w0 s i is w) :
    Calls Try.prog 57 #[.int .i64 k, .pointer (some ⟨B, 0, none⟩), .pointer (some ⟨B + 1 + 1, 0, none⟩), .pointer (some ⟨B + 1 + 1 + 1, 0, none⟩)] w fun e w' =>
      e = .returned (.int .u64 (rdNum s.data.toList i k)) ∧ USt B w0 s (i + k) (is && decide (i + k ≤ s.size)) w' ∧ w.heap.size ≤ w'.heap.size ∧ ∀ g, B + 4 ≤ g → g < w.heap.size → w'.heap[g]? = w.heap[g]? := by
  have hsm : s.size ≤ maxLen := by unfold maxLen; omega
  have hl : s.data.toList.length = s.size := by simp
  have G0 : ∀ W, Calls Try.prog 58 #[.string s, .int .i64 i, .int .i64 k] W fun e w' => e = .returned (.tuple #[.int .u64 (rdNum s.data.toList i k), .bool (decide (i + k ≤ s.size))]) ∧ Below W.heap.size W w' := by
    intro W
    by_cases hok : i + k ≤ s.size
    · have hn : rdNum s.data.toList i k = un ((s.data.toList.drop i).take k) := by unfold rdNum; rw [hl, if_pos hok]
      rw [hn, decide_eq_true hok]
      exact get_yes s i k W hsm hok h1 h8
    · have hn : rdNum s.data.toList i k = 0 := by unfold rdNum; rw [hl, if_neg hok]
      rw [hn, decide_eq_false hok]
      exact (get_no s i k W hsm (by omega) (by omega) (by omega)).mono fun _ _ ⟨he, hb⟩ => ⟨he, hb ▸ Below.refl _ _⟩
  have G := Lib.hid G0
  have hwr := wrap_at i k hi h8
  clear G0 hsm hl hi h1 h8 hs
  generalize rdNum s.data.toList i k = n at *
  generalize decide (i + k ≤ s.size) = b at *
  have c0 := blk_cell h.str 0
  have c1 := blk_cell h.pos 0
  have H := Lib.hid h
  clear h
  go_enter Try.func57, Try.ntmps57
  go_wp2_with fail
  refine (G.out _).mono ?_
  rintro e w1 ⟨rfl, hb⟩
  have h1 := H.out.below_step hb
  have c1 := blk_cell h1.pos 0
  have c2 := blk_cell h1.all 0
  have f1 := blk_frozen h1.pos 0
  have f2 := blk_frozen h1.all 0
  clear h1 c0
  have Hb := Lib.hid hb
  clear hb
  cases is with
  | false =>
    go_wp2_with fail
    go_ret
    exact ⟨rfl, H.out.step Hb.out _ _, by rw [set_lt, set_lt]; exact Hb.out.size, far_step Hb.out _ _⟩
  | true =>
    go_wp2_with fail
    go_ret
    exact ⟨rfl, H.out.step Hb.out _ _, by rw [set_lt, set_lt]; exact Hb.out.size, far_step Hb.out _ _⟩

end Go.Proofs.Ytahaikfijegknaa
