/- Kept of our texts for this claim: RowDecode -/
import Derived.Test.YtienlhnbmobinaaGreatRows
import Derived.Test.YtienlhnbmobinaaGreatAdAb
import Derived.Test.YtienlhnbmobinaaGreatAdAe
import Derived.WalkKit
import Derived.WalkLawsBesides
import Derived.WalkSpells
import Derived.LoopTactic
import Derived.WalkMore
import Derived.LoopN
import Derived.Laws.BitsAllLaws
import Derived.Laws.IdiomStrings
import Derived.BigQuiet
import Derived.Deep.QuietTactic
import Derived.Deep.DeepCutAuto
import Derived.Deep.RegionHeld3
import Derived.Deep.DrawnRows
import Derived.Lib.Hide
import Derived.Outline
import Derived.Deep.DeepMust
import Derived.Handy
section
/- The contract of row.Decode: which row bytes are, in plain words. -/
namespace Go.Proofs.YtienlhnbmobinaaGreat
open Go.RowKit
set_option linter.unusedVariables false
set_option linter.unusedSimpArgs false
/-- The frame of row.Decode: the result's block B, the reading in block B + 1, the pointer to it in block B + 2. -/
structure DSt (B : Nat) (w0 : World) (s : ByteArray) (i : Nat) (is : Bool) (w : World) : Prop where
  below : Below B w0 w
  size : B + 3 ≤ w.heap.size
  res : w.heap[B]? = some (.cells #[.string ⟨#[]⟩, .bool false, .int .u64 0, .int .u32 0, .int .u16 0, .string ⟨#[]⟩, .int .i64 0] 32 (0, 0))
  ptr : w.heap[B + 1 + 1]? = some (.cells #[.pointer (some ⟨B + 1, 0, none⟩)] 114 (0, 0))
  rd : RdIn w (B + 1) s i is
theorem DSt.alloc {B : Nat} {w0 w : World} {s : ByteArray} {i : Nat} {is : Bool} (h : DSt B w0 s i is w) (o : Obj) : DSt B w0 s i is (w.alloc o) :=
  ⟨h.below.alloc (by have := h.size; omega) o, by have := h.size; simp; omega, heap_keep h.res, heap_keep h.ptr, heap_keep h.rd⟩
theorem DSt.drew {B : Nat} {w0 w : World} {s : ByteArray} {i : Nat} {is : Bool} (h : DSt B w0 s i is w) : DSt B w0 s i is w.drew := ⟨h.below.drew, h.size, h.res, h.ptr, h.rd⟩
theorem DSt.step {B : Nat} {w0 w w' : World} {s : ByteArray} {i i' : Nat} {is is' : Bool} (h : DSt B w0 s i is w) (hr : RdIn w' (B + 1) s i' is') (hg : w.grownBy w' (some (B + 1))) : DSt B w0 s i' is' w' :=
  ⟨h.below.grown hg (by have := h.size; omega) (fun k hk => by injection hk with hk; omega), Nat.le_trans h.size hg.size,
    (hg.block B (by have := h.size; omega) (by simp)).trans h.res, (hg.block _ (by have := h.size; omega) (by simp)).trans h.ptr, hr⟩
theorem DSt.below_step {B : Nat} {w0 w w' : World} {s : ByteArray} {i : Nat} {is : Bool} (h : DSt B w0 s i is w) (hb : Below w.heap.size w w') : DSt B w0 s i is w' :=
  ⟨h.below.trans (hb.mono (by have := h.size; omega)), Nat.le_trans h.size hb.size, (hb.block B (blk_lt h.res)).trans h.res, (hb.block _ (blk_lt h.ptr)).trans h.ptr, (hb.block _ (blk_lt h.rd)).trans h.rd⟩
theorem DSt.q {B : Nat} {w0 w : World} {s : ByteArray} {i : Nat} {is : Bool} (h : DSt B w0 s i is w) : w.cell? ⟨B + 1 + 1, 0, none⟩ = some (.pointer (some ⟨B + 1, 0, none⟩)) ∧ B + 1 + 1 < w.heap.size :=
  ⟨by rw [blk_cell h.ptr]; rfl, blk_lt h.ptr⟩
theorem DSt.new (w : World) (s : ByteArray) : DSt w.heap.size w s 0 true (((w.alloc (.cells #[.string ⟨#[]⟩, .bool false, .int .u64 0, .int .u32 0, .int .u16 0, .string ⟨#[]⟩, .int .i64 0] 32)).alloc
    (.cells #[.string s, .int .i64 0, .bool true] 118)).alloc (.cells #[.pointer (some ⟨w.heap.size + 1, 0, none⟩)] 114)) := by
  refine ⟨(((Below.refl _ _).alloc (Nat.le_refl _) _).alloc (by simp) _).alloc (by simp; omega) _, by simp, ?_, ?_, ?_⟩
  · exact heap_keep (heap_keep (heap_alloc_new w _))
  · have := heap_alloc_new ((w.alloc (.cells #[.string ⟨#[]⟩, .bool false, .int .u64 0, .int .u32 0, .int .u16 0, .string ⟨#[]⟩, .int .i64 0] 32)).alloc (.cells #[.string s, .int .i64 0, .bool true] 118)) (.cells #[.pointer (some ⟨w.heap.size + 1, 0, none⟩)] 114)
    simpa using this
  · have := heap_alloc_new (w.alloc (.cells #[.string ⟨#[]⟩, .bool false, .int .u64 0, .int .u32 0, .int .u16 0, .string ⟨#[]⟩, .int .i64 0] 32)) (.cells #[.string s, .int .i64 0, .bool true] 118)
    exact heap_keep (by simpa using this)
/-- As DSt, and block x is a new row. -/
structure DSx (B : Nat) (w0 : World) (s : ByteArray) (i : Nat) (is : Bool) (x : Nat) (w : World) : Prop where
  st : DSt B w0 s i is w
  far : B + 3 ≤ x
  blk : w.heap[x]? = some (.cells #[.string ⟨#[]⟩, .bool false, .int .u64 0, .int .u32 0, .int .u16 0, .string ⟨#[]⟩, .int .i64 0] 32 (0, 0))
theorem DSt.allocx {B : Nat} {w0 w : World} {s : ByteArray} {i : Nat} {is : Bool} (h : DSt B w0 s i is w) : DSx B w0 s i is w.heap.size (w.alloc (.cells #[.string ⟨#[]⟩, .bool false, .int .u64 0, .int .u32 0, .int .u16 0, .string ⟨#[]⟩, .int .i64 0] 32)) :=
  ⟨h.alloc _, h.size, heap_alloc_new w _⟩
theorem DSt.allocx' {B : Nat} {w0 w : World} {s : ByteArray} {i : Nat} {is : Bool} {x : Nat} (h : DSt B w0 s i is w) (hx : x = w.heap.size) : DSx B w0 s i is x (w.alloc (.cells #[.string ⟨#[]⟩, .bool false, .int .u64 0, .int .u32 0, .int .u16 0, .string ⟨#[]⟩, .int .i64 0] 32)) := by rw [hx]; exact h.allocx
theorem DSx.drew {B : Nat} {w0 w : World} {s : ByteArray} {i : Nat} {is : Bool} {x : Nat} (h : DSx B w0 s i is x w) : DSx B w0 s i is x w.drew := ⟨h.st.drew, h.far, h.blk⟩
theorem DSx.step {B : Nat} {w0 w w' : World} {s : ByteArray} {i i' : Nat} {is is' : Bool} {x : Nat} (h : DSx B w0 s i is x w) (hr : RdIn w' (B + 1) s i' is') (hg : w.grownBy w' (some (B + 1))) : DSx B w0 s i' is' x w' :=
  ⟨h.st.step hr hg, h.far, (hg.block x (blk_lt h.blk) (by have := h.far; simp; omega)).trans h.blk⟩
theorem DSx.facts {B : Nat} {w0 w : World} {s : ByteArray} {i : Nat} {is : Bool} {x : Nat} (h : DSx B w0 s i is x w) :
    w.cell? ⟨x, 0, none⟩ = some (.string ⟨#[]⟩) ∧ w.cell? ⟨x, 1, none⟩ = some (.bool false) ∧ w.cell? ⟨x, 2, none⟩ = some (.int .u64 0) ∧ w.cell? ⟨x, 3, none⟩ = some (.int .u32 0) ∧ w.cell? ⟨x, 4, none⟩ = some (.int .u16 0) ∧ w.cell? ⟨x, 5, none⟩ = some (.string ⟨#[]⟩) ∧ w.cell? ⟨x, 6, none⟩ = some (.int .i64 0) ∧ w.frozen? ⟨x, 0, none⟩ = false ∧ w.frozen? ⟨x, 1, none⟩ = false ∧ w.frozen? ⟨x, 2, none⟩ = false ∧ w.frozen? ⟨x, 3, none⟩ = false ∧ w.frozen? ⟨x, 4, none⟩ = false ∧ w.frozen? ⟨x, 5, none⟩ = false ∧ w.frozen? ⟨x, 6, none⟩ = false :=
  ⟨by rw [blk_cell h.blk]; rfl, by rw [blk_cell h.blk]; rfl, by rw [blk_cell h.blk]; rfl, by rw [blk_cell h.blk]; rfl, by rw [blk_cell h.blk]; rfl, by rw [blk_cell h.blk]; rfl, by rw [blk_cell h.blk]; rfl, blk_frozen h.blk 0, blk_frozen h.blk 1, blk_frozen h.blk 2, blk_frozen h.blk 3, blk_frozen h.blk 4, blk_frozen h.blk 5, blk_frozen h.blk 6⟩
theorem DSt.set {B : Nat} {w0 w : World} {s : ByteArray} {i : Nat} {is : Bool} (h : DSt B w0 s i is w) (x j : Nat) (u : Value) (hx : B + 3 ≤ x) : DSt B w0 s i is (w.setCell ⟨x, j, none⟩ u) :=
  ⟨h.below.setCell (by show B ≤ x; omega) u, by simpa [World.setCell] using h.size, set_keep h.res (by omega), set_keep h.ptr (by omega), set_keep h.rd (by omega)⟩
theorem DSx.fill {B : Nat} {w0 w : World} {s : ByteArray} {i : Nat} {is : Bool} {x : Nat} (h : DSx B w0 s i is x w) (v0 v1 v2 v3 v4 v5 v6 : Value) :
    DSt B w0 s i is (((((((w.setCell ⟨x, 0, none⟩ v0).setCell ⟨x, 1, none⟩ v1).setCell ⟨x, 2, none⟩ v2).setCell ⟨x, 3, none⟩ v3).setCell ⟨x, 4, none⟩ v4).setCell ⟨x, 5, none⟩ v5).setCell ⟨x, 6, none⟩ v6) ∧
      (((((((w.setCell ⟨x, 0, none⟩ v0).setCell ⟨x, 1, none⟩ v1).setCell ⟨x, 2, none⟩ v2).setCell ⟨x, 3, none⟩ v3).setCell ⟨x, 4, none⟩ v4).setCell ⟨x, 5, none⟩ v5).setCell ⟨x, 6, none⟩ v6).heap[x]? = some (.cells #[v0, v1, v2, v3, v4, v5, v6] 32 (0, 0)) :=
  ⟨((((((h.st.set x 0 v0 h.far).set x 1 v1 h.far).set x 2 v2 h.far).set x 3 v3 h.far).set x 4 v4 h.far).set x 5 v5 h.far).set x 6 v6 h.far,
    blk_set (blk_set (blk_set (blk_set (blk_set (blk_set (blk_set h.blk 0 v0) 1 v1) 2 v2) 3 v3) 4 v4) 5 v5) 6 v6⟩
theorem num_dsx (s : ByteArray) (B i k : Nat) (is : Bool) (x : Nat) (w0 w : World) (hs : s.size ≤ maxLen) (hi : i ≤ 1000000) (h1 : 1 ≤ k) (h8 : k ≤ 8) (h : DSx B w0 s i is x w) :
    Calls Tryz.prog 77 #[.pointer (some ⟨B + 1, 0, none⟩), .int .i64 k] w fun e w' => e = .returned (.int .u64 (rdNum s.data.toList i k)) ∧ DSx B w0 s (i + k) (is && decide (i + k ≤ s.size)) x w' :=
  (num_any s (B + 1) i k is w hs hi h1 h8 h.st.rd).mono fun _ _ ⟨he, hr, hg⟩ => ⟨he, h.step hr hg⟩
theorem num_dst (s : ByteArray) (B i k : Nat) (is : Bool) (w0 w : World) (hs : s.size ≤ maxLen) (hi : i ≤ 1000000) (h1 : 1 ≤ k) (h8 : k ≤ 8) (h : DSt B w0 s i is w) :
    Calls Tryz.prog 77 #[.pointer (some ⟨B + 1, 0, none⟩), .int .i64 k] w fun e w' => e = .returned (.int .u64 (rdNum s.data.toList i k)) ∧ DSt B w0 s (i + k) (is && decide (i + k ≤ s.size)) w' :=
  (num_any s (B + 1) i k is w hs hi h1 h8 h.rd).mono fun _ _ ⟨he, hr, hg⟩ => ⟨he, h.step hr hg⟩
theorem piece_dst (s : ByteArray) (B i : Nat) (is : Bool) (w0 w : World) (hs : s.size ≤ maxLen) (hi : i ≤ 999999) (h : DSt B w0 s i is w) :
    Calls Tryz.prog 75 #[.pointer (some ⟨B + 1 + 1, 0, none⟩)] w fun e w' => e = .returned (.string ⟨(rdText s.data.toList (i + 1) (rdNum s.data.toList i 1)).toArray⟩) ∧
      DSt B w0 s (i + 1 + rdNum s.data.toList i 1) (is && decide (i + 1 ≤ s.size) && decide (i + 1 + rdNum s.data.toList i 1 ≤ s.size)) w' ∧ w.grownBy w' (some (B + 1)) :=
  (piece_anyR s (B + 1 + 1) (B + 1) i is w hs hi h.q.1 h.q.2 (by omega) h.rd).mono fun _ _ ⟨he, hr, hg⟩ => ⟨he, h.step hr hg, hg⟩
theorem row_res {w : World} {g : Nat} {t : TypeId} {a0 a1 a2 a3 a4 a5 a6 : Value} (h : w.heap[g]? = some (.cells #[a0, a1, a2, a3, a4, a5, a6] t (0, 0))) (v0 v1 v2 v3 v4 v5 v6 : Value) :
    (((((((w.setCell ⟨g, 0, none⟩ v0).setCell ⟨g, 1, none⟩ v1).setCell ⟨g, 2, none⟩ v2).setCell ⟨g, 3, none⟩ v3).setCell ⟨g, 4, none⟩ v4).setCell ⟨g, 5, none⟩ v5).setCell ⟨g, 6, none⟩ v6).cell? ⟨g, 0, none⟩ = some v0 ∧ (((((((w.setCell ⟨g, 0, none⟩ v0).setCell ⟨g, 1, none⟩ v1).setCell ⟨g, 2, none⟩ v2).setCell ⟨g, 3, none⟩ v3).setCell ⟨g, 4, none⟩ v4).setCell ⟨g, 5, none⟩ v5).setCell ⟨g, 6, none⟩ v6).cell? ⟨g, 1, none⟩ = some v1 ∧ (((((((w.setCell ⟨g, 0, none⟩ v0).setCell ⟨g, 1, none⟩ v1).setCell ⟨g, 2, none⟩ v2).setCell ⟨g, 3, none⟩ v3).setCell ⟨g, 4, none⟩ v4).setCell ⟨g, 5, none⟩ v5).setCell ⟨g, 6, none⟩ v6).cell? ⟨g, 2, none⟩ = some v2 ∧ (((((((w.setCell ⟨g, 0, none⟩ v0).setCell ⟨g, 1, none⟩ v1).setCell ⟨g, 2, none⟩ v2).setCell ⟨g, 3, none⟩ v3).setCell ⟨g, 4, none⟩ v4).setCell ⟨g, 5, none⟩ v5).setCell ⟨g, 6, none⟩ v6).cell? ⟨g, 3, none⟩ = some v3 ∧ (((((((w.setCell ⟨g, 0, none⟩ v0).setCell ⟨g, 1, none⟩ v1).setCell ⟨g, 2, none⟩ v2).setCell ⟨g, 3, none⟩ v3).setCell ⟨g, 4, none⟩ v4).setCell ⟨g, 5, none⟩ v5).setCell ⟨g, 6, none⟩ v6).cell? ⟨g, 4, none⟩ = some v4 ∧ (((((((w.setCell ⟨g, 0, none⟩ v0).setCell ⟨g, 1, none⟩ v1).setCell ⟨g, 2, none⟩ v2).setCell ⟨g, 3, none⟩ v3).setCell ⟨g, 4, none⟩ v4).setCell ⟨g, 5, none⟩ v5).setCell ⟨g, 6, none⟩ v6).cell? ⟨g, 5, none⟩ = some v5 ∧ (((((((w.setCell ⟨g, 0, none⟩ v0).setCell ⟨g, 1, none⟩ v1).setCell ⟨g, 2, none⟩ v2).setCell ⟨g, 3, none⟩ v3).setCell ⟨g, 4, none⟩ v4).setCell ⟨g, 5, none⟩ v5).setCell ⟨g, 6, none⟩ v6).cell? ⟨g, 6, none⟩ = some v6 := by
  have hb := blk_set (blk_set (blk_set (blk_set (blk_set (blk_set (blk_set h 0 v0) 1 v1) 2 v2) 3 v3) 4 v4) 5 v5) 6 v6
  simp only [List.setIfInBounds_toArray, List.set_cons_zero, List.set_cons_succ] at hb
  generalize ((((((w.setCell ⟨g, 0, none⟩ v0).setCell ⟨g, 1, none⟩ v1).setCell ⟨g, 2, none⟩ v2).setCell ⟨g, 3, none⟩ v3).setCell ⟨g, 4, none⟩ v4).setCell ⟨g, 5, none⟩ v5).setCell ⟨g, 6, none⟩ v6 = W at hb ⊢
  refine ⟨?_, ?_, ?_, ?_, ?_, ?_, ?_⟩ <;> (rw [blk_cell hb]; rfl)
/-- What row.Decode returns. -/
def decV (l : List UInt8) : Value := if decOk l then .tuple #[.agg #[.string ⟨(dK l).toArray⟩, .bool (decide (0 < rdNum l 0 1)), .int .u64 (rdNum l 1 8), .int .u32 (rdNum l 9 4), .int .u16 (rdNum l 13 2), .string ⟨(dV l).toArray⟩, .int .i64 (dPad l)], .int .i64 0] else .tuple #[.agg #[.string ⟨#[]⟩, .bool false, .int .u64 0, .int .u32 0, .int .u16 0, .string ⟨#[]⟩, .int .i64 0], .int .i64 7]
set_option maxHeartbeats 8000000 in
set_option maxRecDepth 100000 in
theorem rowDecode_any (s : ByteArray) (w : World) (hs : s.size ≤ 1000000) :
    Calls Tryz.prog 48 #[.string s] w fun e w' => e = .returned (decV s.data.toList) ∧ Below w.heap.size w w' := by
  have hsm : s.size ≤ maxLen := by unfold maxLen; omega
  have l1 := rdNum_ltR s.data.toList 0 1
  have l2 := rdNum_ltR s.data.toList 1 8
  have l3 := rdNum_ltR s.data.toList 9 4
  have l4 := rdNum_ltR s.data.toList 13 2
  have C1 := Lib.hid fun W is hW => num_dst s w.heap.size 0 1 is w W hsm (by omega) (by omega) (by omega) hW
  have X1 := Lib.hid fun W is x hW => num_dsx s w.heap.size 0 1 is x w W hsm (by omega) (by omega) (by omega) hW
  have C2 := Lib.hid fun W is hW => num_dst s w.heap.size 1 8 is w W hsm (by omega) (by omega) (by omega) hW
  have X2 := Lib.hid fun W is x hW => num_dsx s w.heap.size 1 8 is x w W hsm (by omega) (by omega) (by omega) hW
  have C3 := Lib.hid fun W is hW => num_dst s w.heap.size 9 4 is w W hsm (by omega) (by omega) (by omega) hW
  have X3 := Lib.hid fun W is x hW => num_dsx s w.heap.size 9 4 is x w W hsm (by omega) (by omega) (by omega) hW
  have C4 := Lib.hid fun W is hW => num_dst s w.heap.size 13 2 is w W hsm (by omega) (by omega) (by omega) hW
  have X4 := Lib.hid fun W is x hW => num_dsx s w.heap.size 13 2 is x w W hsm (by omega) (by omega) (by omega) hW
  have hd0 := Lib.hid (DSt.new w s)
  have hM : Hid (decMay s.data.toList = mayRow (dK s.data.toList).length (dV s.data.toList).length (rdNum s.data.toList 9 4) (rdNum s.data.toList 13 2) (dPad s.data.toList)) := rfl
  have hE : Hid (decEnc s.data.toList = encRow (dK s.data.toList) (dV s.data.toList) (decide (0 < rdNum s.data.toList 0 1)) (rdNum s.data.toList 1 8) (rdNum s.data.toList 9 4) (rdNum s.data.toList 13 2) (dPad s.data.toList).toNat) := rfl
  have hO : Hid (decOk s.data.toList = (dIs s.data.toList && (decMay s.data.toList && (decEnc s.data.toList == s.data.toList)))) := rfl
  have hD : Hid (decV s.data.toList = if decOk s.data.toList then .tuple #[.agg #[.string ⟨(dK s.data.toList).toArray⟩, .bool (decide (0 < rdNum s.data.toList 0 1)), .int .u64 (rdNum s.data.toList 1 8), .int .u32 (rdNum s.data.toList 9 4), .int .u16 (rdNum s.data.toList 13 2), .string ⟨(dV s.data.toList).toArray⟩, .int .i64 (dPad s.data.toList)], .int .i64 0] else .tuple #[.agg #[.string ⟨#[]⟩, .bool false, .int .u64 0, .int .u32 0, .int .u16 0, .string ⟨#[]⟩, .int .i64 0], .int .i64 7]) := rfl
  generalize rdNum s.data.toList 0 1 = n1 at *
  generalize rdNum s.data.toList 1 8 = n2 at *
  generalize rdNum s.data.toList 9 4 = n3 at *
  generalize rdNum s.data.toList 13 2 = n4 at *
  simp only [Nat.reducePow] at l1 l3 l4
  have w3 : IntKind.u32.wrap (n3 : Int) = n3 := IntWalk.u32_in _ ⟨by omega, by omega⟩
  have w4 : IntKind.u16.wrap (n4 : Int) = n4 := IntWalk.u16_in _ ⟨by omega, by omega⟩
  go_enter Tryz.func48, Tryz.ntmps48
  go_upto_region 3 with fail
  go_cut [6] (fun s6 w' => ∃ x, s6 = .pointer (some ⟨x, 0, none⟩) ∧ w.heap.size + 3 ≤ x ∧ w'.heap[x]? = some (.cells #[.string ⟨#[]⟩, .bool (decide (0 < n1)), .int .u64 n2, .int .u32 n3, .int .u16 n4, .string ⟨#[]⟩, .int .i64 0] 32 (0, 0)) ∧ DSt w.heap.size w s 15 (rd4 s.size) w')
  case first =>
    go_region_held3 (fun w' => w'.cell? ⟨w.heap.size + 1 + 1, 0, none⟩ = some (.pointer (some ⟨w.heap.size + 1, 0, none⟩)) ∧ w.heap.size + 1 + 1 < w'.heap.size)
      (first | (with_reducible exact hx.st.q) | (with_reducible exact (hx.fill _ _ _ _ _ _ _).1.q) | (with_reducible exact hd.q) | (with_reducible exact (hd.alloc _).q) | (with_reducible exact hd0.out.drew.q) | (with_reducible exact (hd0.out.alloc _).drew.q))
      (first
        | (go_at_call_of 77 (Value.int .i64 1); refine (C1.out _ _ (by with_reducible exact hd0.out.drew)).mono ?_; rintro e w1 ⟨rfl, hd⟩)
        | (go_at_call_of 77 (Value.int .i64 1); refine (X1.out _ _ (w.heap.size + 1 + 1 + 1) (by with_reducible exact (hd0.out.allocx' (by simp)).drew)).mono ?_; rintro e w1 ⟨rfl, hx⟩; obtain ⟨c0, c1, c2, c3, c4, c5, c6, f0, f1, f2, f3, f4, f5, f6⟩ := hx.facts)
        | (go_at_call_of 77 (Value.int .i64 8); refine (C2.out _ _ (by with_reducible exact hd)).mono ?_; rintro e w1 ⟨rfl, hd⟩)
        | (go_at_call_of 77 (Value.int .i64 8); refine (X2.out _ _ _ (by with_reducible exact hx)).mono ?_; clear c0 c1 c2 c3 c4 c5 c6 f0 f1 f2 f3 f4 f5 f6; rintro e w1 ⟨rfl, hx⟩; obtain ⟨c0, c1, c2, c3, c4, c5, c6, f0, f1, f2, f3, f4, f5, f6⟩ := hx.facts)
        | (go_at_call_of 77 (Value.int .i64 8); refine (X2.out _ _ _ (by with_reducible exact hd.allocx)).mono ?_; rintro e w1 ⟨rfl, hx⟩; obtain ⟨c0, c1, c2, c3, c4, c5, c6, f0, f1, f2, f3, f4, f5, f6⟩ := hx.facts)
        | (go_at_call_of 77 (Value.int .i64 4); refine (C3.out _ _ (by with_reducible exact hd)).mono ?_; rintro e w1 ⟨rfl, hd⟩)
        | (go_at_call_of 77 (Value.int .i64 4); refine (X3.out _ _ _ (by with_reducible exact hx)).mono ?_; clear c0 c1 c2 c3 c4 c5 c6 f0 f1 f2 f3 f4 f5 f6; rintro e w1 ⟨rfl, hx⟩; obtain ⟨c0, c1, c2, c3, c4, c5, c6, f0, f1, f2, f3, f4, f5, f6⟩ := hx.facts)
        | (go_at_call_of 77 (Value.int .i64 4); refine (X3.out _ _ _ (by with_reducible exact hd.allocx)).mono ?_; rintro e w1 ⟨rfl, hx⟩; obtain ⟨c0, c1, c2, c3, c4, c5, c6, f0, f1, f2, f3, f4, f5, f6⟩ := hx.facts)
        | (go_at_call_of 77 (Value.int .i64 2); refine (C4.out _ _ (by with_reducible exact hd)).mono ?_; rintro e w1 ⟨rfl, hd⟩)
        | (go_at_call_of 77 (Value.int .i64 2); refine (X4.out _ _ _ (by with_reducible exact hx)).mono ?_; clear c0 c1 c2 c3 c4 c5 c6 f0 f1 f2 f3 f4 f5 f6; rintro e w1 ⟨rfl, hx⟩; obtain ⟨c0, c1, c2, c3, c4, c5, c6, f0, f1, f2, f3, f4, f5, f6⟩ := hx.facts)
        | (go_at_call_of 77 (Value.int .i64 2); refine (X4.out _ _ _ (by with_reducible exact hd.allocx)).mono ?_; rintro e w1 ⟨rfl, hx⟩; obtain ⟨c0, c1, c2, c3, c4, c5, c6, f0, f1, f2, f3, f4, f5, f6⟩ := hx.facts))
    all_goals go_wp2_with fail
    all_goals go_meet
    all_goals first | exact ⟨_, rfl, hx.far, (hx.fill _ _ _ _ _ _ _).2, (hx.fill _ _ _ _ _ _ _).1⟩ | exact ⟨_, rfl, hd.size, heap_alloc_new _ _, hd.alloc _⟩
  case rest =>
    obtain ⟨x, rfl, hx, hblk, hd⟩ := hcut
    clear C1 C2 C3 C4 X1 X2 X3 X4 hd0 w3 w4
    have hlen : s.data.toList.length = s.size := by simp
    have l5 := rdNum_ltR s.data.toList 15 1
    have l6 := rdNum_ltR s.data.toList (dA s.data.toList) 1
    simp only [Nat.reducePow] at l5 l6
    obtain ⟨kS, hkS⟩ : ∃ y : ByteArray, y = ⟨(dK s.data.toList).toArray⟩ := ⟨_, rfl⟩
    obtain ⟨vS, hvS⟩ : ∃ y : ByteArray, y = ⟨(dV s.data.toList).toArray⟩ := ⟨_, rfl⟩
    obtain ⟨a1, ha1⟩ : ∃ y : Nat, y = dA s.data.toList := ⟨_, rfl⟩
    obtain ⟨a2, ha2⟩ : ∃ y : Nat, y = dE s.data.toList := ⟨_, rfl⟩
    obtain ⟨b5, hb5⟩ : ∃ y : Bool, y = (rd4 s.size && decide (15 + 1 ≤ s.size) && decide (dA s.data.toList ≤ s.size)) := ⟨_, rfl⟩
    obtain ⟨b6, hb6⟩ : ∃ y : Bool, y = (b5 && decide (dA s.data.toList + 1 ≤ s.size) && decide (dE s.data.toList ≤ s.size)) := ⟨_, rfl⟩
    have P1 : Hid (∀ W, DSt w.heap.size w s 15 (rd4 s.size) W → Calls Tryz.prog 75 #[.pointer (some ⟨w.heap.size + 1 + 1, 0, none⟩)] W fun e w' => e = .returned (.string kS) ∧ DSt w.heap.size w s a1 b5 w' ∧ W.grownBy w' (some (w.heap.size + 1))) := by
      rw [hkS, ha1, hb5]
      exact fun W hW => piece_dst s w.heap.size 15 _ w W hsm (by omega) hW
    have ha1' : a1 ≤ 271 := by rw [ha1]; unfold dA dKn; omega
    have P2 : Hid (∀ W, DSt w.heap.size w s a1 b5 W → Calls Tryz.prog 75 #[.pointer (some ⟨w.heap.size + 1 + 1, 0, none⟩)] W fun e w' => e = .returned (.string vS) ∧ DSt w.heap.size w s a2 b6 w' ∧ W.grownBy w' (some (w.heap.size + 1))) := by
      rw [hvS, ha2, hb6, ha1]
      exact fun W hW => piece_dst s w.heap.size _ _ w W hsm (by omega) hW
    have ha2' : a2 ≤ 527 := by rw [ha2]; unfold dE dVn; omega
    have hpad : Hid (dPad s.data.toList = (s.size : Int) - (a2 : Int)) := by show _ = _; unfold dPad; rw [hlen, ha2]
    have his : Hid (dIs s.data.toList = b6) := by show _ = _; unfold dIs; rw [hlen, hb6, hb5]
    have zk : kS.size = (dK s.data.toList).length := by rw [hkS]; show (dK s.data.toList).toArray.size = _; simp
    have zv : vS.size = (dV s.data.toList).length := by rw [hvS]; show (dV s.data.toList).toArray.size = _; simp
    have hK := Lib.hid hkS
    have hV := Lib.hid hvS
    have zkl : kS.size ≤ 256 := by rw [zk]; unfold dK rdText dKn; split <;> simp; omega
    have zvl : vS.size ≤ 256 := by rw [zv]; unfold dV rdText dVn; split <;> simp; omega
    have Zk := Lib.hid zk
    have Zv := Lib.hid zv
    clear hkS hvS ha1 ha2 hb5 hb6 hlen l5 l6 zk zv
    go_wp2_with fail
    refine (P1.out _ hd).mono ?_
    rintro e w1 ⟨rfl, hd1, hg1⟩
    have hb1 := (hg1.block x (blk_lt hblk) (by simp; omega)).trans hblk
    have hb2 := blk_set hb1 0 (.string kS)
    have hd2 := hd1.set x 0 (.string kS) hx
    have c0 := blk_cell hb1 0
    have f0 := blk_frozen hb1 0
    have Hb2 := Lib.hid hb2
    clear hd hg1 hblk hb1 hd1 hb2
    go_wp2_with fail
    refine (P2.out _ hd2).mono ?_
    rintro e w2 ⟨rfl, hd3, hg2⟩
    have hb3 := (hg2.block x (blk_lt Hb2.out) (by simp; omega)).trans Hb2.out
    have hb4 := blk_set hb3 5 (.string vS)
    have hb5 := blk_set hb4 6 (.int .i64 ((s.size : Int) - (a2 : Int)))
    have hd4 := (hd3.set x 5 (.string vS) hx).set x 6 (.int .i64 ((s.size : Int) - (a2 : Int))) hx
    have c5 := blk_cell hb3 5
    have f5 := blk_frozen hb3 5
    have c6 := blk_cell hb4 6
    have f6 := blk_frozen hb4 6
    have hq := (hd3.set x 5 (.string vS) hx).q.1
    have hr1 := blk_cell (hd3.set x 5 (.string vS) hx).rd 1
    have Hb5 := Lib.hid hb5
    have Hd4 := Lib.hid hd4
    clear hd2 hg2 Hb2 hb3 hb4 hb5 hd4 hd3 c0 f0
    go_upto_region 7 with fail
    generalize hP : (s.size : Int) - (a2 : Int) = pad at Hb5 Hd4 hpad ⊢
    generalize (w2.setCell ⟨x, 5, none⟩ (.string vS)).setCell ⟨x, 6, none⟩ (.int .i64 pad) = w7 at Hb5 Hd4 ⊢
    have hb7 : w7.heap[x]? = some (.cells #[.string kS, .bool (decide (0 < n1)), .int .u64 n2, .int .u32 n3, .int .u16 n4, .string vS, .int .i64 pad] 32 (0, 0)) := Hb5.out
    clear c5 c6
    have c0 := blk_cell hb7 0
    have c1 := blk_cell hb7 1
    have c2 := blk_cell hb7 2
    have c3 := blk_cell hb7 3
    have c4 := blk_cell hb7 4
    have c5 := blk_cell hb7 5
    have c6 := blk_cell hb7 6
    have Hb7 := Lib.hid hb7
    clear Hb5 hb7 P1 P2 f5 f6 hq hr1
    have hdIs := his.out
    have hM' := hM.out
    have hE' := hE.out
    have hD' := hD.out
    have hO' := hO.out
    rw [hpad.out, ← Zk.out, ← Zv.out] at hM'
    rw [hpad.out] at hE' hD'
    rw [← hK.out, ← hV.out] at hD'
    have hkl : kS.data.toList = dK s.data.toList := by rw [hK.out]
    have hvl : vS.data.toList = dV s.data.toList := by rw [hV.out]
    rw [← hkl, ← hvl] at hE'
    rw [his.out] at hO'
    have HM := Lib.hid hM'
    have HE := Lib.hid hE'
    have HD := Lib.hid hD'
    have HO := Lib.hid hO'
    have dres := Hd4.out.res
    have dptr := Hd4.out.ptr
    have drd := Hd4.out.rd
    have dsz := Hd4.out.size
    have dbl := Hd4.out.below
    clear hM' hE' hD' hO' hM hE hD hO hpad Zk Zv hK hV hkl hvl hdIs his hP Hd4
    cases hm : decMay s.data.toList with
    | false =>
      have hO : decOk s.data.toList = false := by rw [HO.out, hm]; simp
      have Hm := Lib.hid hO
      rw [HM.out] at hm
      have E := Lib.hid fun W => rowEncode_no kS vS (decide (0 < n1)) n2 n3 n4 pad W (by unfold maxLen; omega) (by unfold maxLen; omega) hm
      clear hm hO
      go_wp2_with fail
      refine (E.out _).mono ?_
      rintro e w8 ⟨rfl, hb8⟩
      have bx := (hb8.block x (blk_lt Hb7.out)).trans Hb7.out
      have br := (hb8.block _ (blk_lt dres)).trans dres
      have bp := (hb8.block _ (blk_lt dptr)).trans dptr
      have bd := (hb8.block _ (blk_lt drd)).trans drd
      have hbl := dbl.trans (hb8.mono (by omega))
      have x0 := blk_cell bx 0
      have x1 := blk_cell bx 1
      have x2 := blk_cell bx 2
      have x3 := blk_cell bx 3
      have x4 := blk_cell bx 4
      have x5 := blk_cell bx 5
      have x6 := blk_cell bx 6
      have r0 := blk_cell br 0
      have g0 := blk_frozen br 0
      have r1 := blk_cell br 1
      have g1 := blk_frozen br 1
      have r2 := blk_cell br 2
      have g2 := blk_frozen br 2
      have r3 := blk_cell br 3
      have g3 := blk_frozen br 3
      have r4 := blk_cell br 4
      have g4 := blk_frozen br 4
      have r5 := blk_cell br 5
      have g5 := blk_frozen br 5
      have r6 := blk_cell br 6
      have g6 := blk_frozen br 6
      have p0 := blk_cell bp 0
      have d2 := blk_cell bd 2
      have Br := Lib.hid br
      clear c0 c1 c2 c3 c4 c5 c6 bx br bp bd Hb7 dres dptr drd hb8
      cases b6 with
      | false =>
        go_wp2_with fail
        have q := row_res Br.out (.string ⟨#[]⟩) (.bool false) (.int .u64 0) (.int .u32 0) (.int .u16 0) (.string ⟨#[]⟩) (.int .i64 0)
        obtain ⟨q0, q1, q2, q3, q4, q5, q6⟩ := q
        refine bodyPost_ret (v := .tuple #[.agg #[.string ⟨#[]⟩, .bool false, .int .u64 0, .int .u32 0, .int .u16 0, .string ⟨#[]⟩, .int .i64 0], .int .i64 7]) (by simp [results, Tryz.results48, go_sem, q0, q1, q2, q3, q4, q5, q6]) rfl ⟨?_, ((((((hbl.setCell (Nat.le_refl _) _).setCell (Nat.le_refl _) _).setCell (Nat.le_refl _) _).setCell (Nat.le_refl _) _).setCell (Nat.le_refl _) _).setCell (Nat.le_refl _) _).setCell (Nat.le_refl _) _⟩
        rw [HD.out, Hm.out]
        rfl
      | true =>
        go_wp2_with fail
        have q := row_res Br.out (.string ⟨#[]⟩) (.bool false) (.int .u64 0) (.int .u32 0) (.int .u16 0) (.string ⟨#[]⟩) (.int .i64 0)
        obtain ⟨q0, q1, q2, q3, q4, q5, q6⟩ := q
        refine bodyPost_ret (v := .tuple #[.agg #[.string ⟨#[]⟩, .bool false, .int .u64 0, .int .u32 0, .int .u16 0, .string ⟨#[]⟩, .int .i64 0], .int .i64 7]) (by simp [results, Tryz.results48, go_sem, q0, q1, q2, q3, q4, q5, q6]) rfl ⟨?_, ((((((hbl.setCell (Nat.le_refl _) _).setCell (Nat.le_refl _) _).setCell (Nat.le_refl _) _).setCell (Nat.le_refl _) _).setCell (Nat.le_refl _) _).setCell (Nat.le_refl _) _).setCell (Nat.le_refl _) _⟩
        rw [HD.out, Hm.out]
        rfl
    | true =>
      have hO := HO.out
      rw [hm, Bool.true_and] at hO
      rw [HM.out] at hm
      have hp0 : 0 ≤ pad := (mayRow_iff.1 hm).2.2.1
      obtain ⟨d, hd⟩ := Int.eq_ofNat_of_zero_le hp0
      subst hd
      have hE3 := HE.out
      rw [Int.toNat_natCast] at hE3
      have e0 := fun W => rowEncode_yes kS vS (decide (0 < n1)) n2 n3 n4 d W (by unfold maxLen; omega) (by unfold maxLen; omega) l2 (by omega) hm
      rw [← hE3] at e0
      obtain ⟨eS, heS⟩ : ∃ y : ByteArray, y = ⟨(decEnc s.data.toList).toArray⟩ := ⟨_, rfl⟩
      rw [← heS] at e0
      have hcmp : (decEnc s.data.toList == s.data.toList) = (eS.toList == s.toList) := by rw [heS, Lib.toList_data, Lib.toList_data]
      rw [hcmp] at hO
      have E := Lib.hid e0
      have HO2 := Lib.hid hO
      clear hm hE3 e0 heS hcmp hO hp0
      go_wp2_with fail
      refine (E.out _).mono ?_
      rintro e w8 ⟨rfl, hb8⟩
      have bx := (hb8.block x (blk_lt Hb7.out)).trans Hb7.out
      have br := (hb8.block _ (blk_lt dres)).trans dres
      have bp := (hb8.block _ (blk_lt dptr)).trans dptr
      have bd := (hb8.block _ (blk_lt drd)).trans drd
      have hbl := dbl.trans (hb8.mono (by omega))
      have x0 := blk_cell bx 0
      have x1 := blk_cell bx 1
      have x2 := blk_cell bx 2
      have x3 := blk_cell bx 3
      have x4 := blk_cell bx 4
      have x5 := blk_cell bx 5
      have x6 := blk_cell bx 6
      have r0 := blk_cell br 0
      have g0 := blk_frozen br 0
      have r1 := blk_cell br 1
      have g1 := blk_frozen br 1
      have r2 := blk_cell br 2
      have g2 := blk_frozen br 2
      have r3 := blk_cell br 3
      have g3 := blk_frozen br 3
      have r4 := blk_cell br 4
      have g4 := blk_frozen br 4
      have r5 := blk_cell br 5
      have g5 := blk_frozen br 5
      have r6 := blk_cell br 6
      have g6 := blk_frozen br 6
      have p0 := blk_cell bp 0
      have d2 := blk_cell bd 2
      have Br := Lib.hid br
      clear c0 c1 c2 c3 c4 c5 c6 bx br bp bd Hb7 dres dptr drd hb8
      cases b6 with
      | false =>
        have hO : decOk s.data.toList = false := by rw [HO2.out]; rfl
        have Hm := Lib.hid hO
        clear hO
        go_wp2_with fail
        have q := row_res Br.out (.string ⟨#[]⟩) (.bool false) (.int .u64 0) (.int .u32 0) (.int .u16 0) (.string ⟨#[]⟩) (.int .i64 0)
        obtain ⟨q0, q1, q2, q3, q4, q5, q6⟩ := q
        refine bodyPost_ret (v := .tuple #[.agg #[.string ⟨#[]⟩, .bool false, .int .u64 0, .int .u32 0, .int .u16 0, .string ⟨#[]⟩, .int .i64 0], .int .i64 7]) (by simp [results, Tryz.results48, go_sem, q0, q1, q2, q3, q4, q5, q6]) rfl ⟨?_, ((((((hbl.setCell (Nat.le_refl _) _).setCell (Nat.le_refl _) _).setCell (Nat.le_refl _) _).setCell (Nat.le_refl _) _).setCell (Nat.le_refl _) _).setCell (Nat.le_refl _) _).setCell (Nat.le_refl _) _⟩
        rw [HD.out, Hm.out]
        rfl
      | true =>
        cases hq : (eS.toList == s.toList) with
        | false =>
          have hO : decOk s.data.toList = false := by rw [HO2.out, hq]; rfl
          have Hm := Lib.hid hO
          have hq' : ((eS.toList) != s.toList) = true := by rw [bne, hq]; rfl
          clear hO
          go_wp2_with fail
          have q := row_res Br.out (.string ⟨#[]⟩) (.bool false) (.int .u64 0) (.int .u32 0) (.int .u16 0) (.string ⟨#[]⟩) (.int .i64 0)
          obtain ⟨q0, q1, q2, q3, q4, q5, q6⟩ := q
          refine bodyPost_ret (v := .tuple #[.agg #[.string ⟨#[]⟩, .bool false, .int .u64 0, .int .u32 0, .int .u16 0, .string ⟨#[]⟩, .int .i64 0], .int .i64 7]) (by simp [results, Tryz.results48, go_sem, q0, q1, q2, q3, q4, q5, q6]) rfl ⟨?_, ((((((hbl.setCell (Nat.le_refl _) _).setCell (Nat.le_refl _) _).setCell (Nat.le_refl _) _).setCell (Nat.le_refl _) _).setCell (Nat.le_refl _) _).setCell (Nat.le_refl _) _).setCell (Nat.le_refl _) _⟩
          rw [HD.out, Hm.out]
          rfl
        | true =>
          have hO : decOk s.data.toList = true := by rw [HO2.out, hq]; rfl
          have Hm := Lib.hid hO
          have hq' : ((eS.toList) != s.toList) = false := by rw [bne, hq]; rfl
          clear hO
          go_wp2_with fail
          have q := row_res Br.out (.string kS) (.bool (decide (0 < n1))) (.int .u64 n2) (.int .u32 n3) (.int .u16 n4) (.string vS) (.int .i64 (d : Int))
          obtain ⟨q0, q1, q2, q3, q4, q5, q6⟩ := q
          refine bodyPost_ret (v := .tuple #[.agg #[.string kS, .bool (decide (0 < n1)), .int .u64 n2, .int .u32 n3, .int .u16 n4, .string vS, .int .i64 (d : Int)], .int .i64 0]) (by simp [results, Tryz.results48, go_sem, q0, q1, q2, q3, q4, q5, q6]) rfl ⟨?_, ((((((hbl.setCell (Nat.le_refl _) _).setCell (Nat.le_refl _) _).setCell (Nat.le_refl _) _).setCell (Nat.le_refl _) _).setCell (Nat.le_refl _) _).setCell (Nat.le_refl _) _).setCell (Nat.le_refl _) _⟩
          rw [HD.out, Hm.out]
          rfl
end Go.Proofs.YtienlhnbmobinaaGreat
end
