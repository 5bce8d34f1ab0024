/- Rows of bytes that the program makes -/
import Derived.Test.YtahaikfijegknaaRows
import Derived.Test.YtahaikfijegknaaWordGets
import Derived.Test.YtahaikfijegknaaRowRead
import Derived.WalkKit
import Derived.WalkLawsBesides
import Derived.WalkSpells
import Derived.LoopTactic
import Derived.WalkMore
import Derived.LoopN
import Derived.Laws.BitsAllLaws
import Derived.Laws.IdiomStrings
import Derived.BigQuiet
import Derived.Deep.QuietTactic
import Derived.Deep.DeepCutAuto
import Derived.Deep.RegionHeld3
import Derived.Deep.DrawnRows
import Derived.Lib.Hide
import Derived.Outline
import Derived.Deep.DeepMust
import Derived.Handy
namespace Go.Proofs.Ytahaikfijegknaa
open Go.RowKit
set_option linter.unusedVariables false
set_option linter.unusedSimpArgs false

/-- A row of bytes that the program made: block g's first cells. -/
def RowAt (W : World) (g : Nat) (zs : List UInt8) : Prop :=
  ∃ (cs : Array Value) (t : TypeId), W.heap[g]? = some (.cells cs t (cs.size, cs.size + 1)) ∧ zs.length ≤ cs.size ∧ ∀ i (h : i < zs.length), cs[i]? = some (.int .u8 (zs[i].toNat : Int))
theorem RowAt.cell {W : World} {g : Nat} {zs : List UInt8} (h : RowAt W g zs) (i : Nat) (hi : i < zs.length) : W.cell? ⟨g, i, none⟩ = some (.int .u8 (zs[i].toNat : Int)) := by
  obtain ⟨cs, t, hb, hl, hc⟩ := h
  rw [cell_of_row W g i cs t _ hb]
  exact hc i hi
theorem RowAt.frozen {W : World} {g : Nat} {zs : List UInt8} (h : RowAt W g zs) (i : Nat) (hi : i < zs.length) : W.frozen? ⟨g, i, none⟩ = false := by
  obtain ⟨cs, t, hb, hl, hc⟩ := h
  simp [World.frozen?, hb]
  omega
theorem RowAt.lt {W : World} {g : Nat} {zs : List UInt8} (h : RowAt W g zs) : g < W.heap.size := by
  obtain ⟨cs, t, hb, _⟩ := h
  exact blk_lt hb
theorem RowAt.set {W : World} {g : Nat} {zs : List UInt8} (h : RowAt W g zs) (i : Nat) (u : UInt8) (hi : i < zs.length) : RowAt (W.setCell ⟨g, i, none⟩ (.int .u8 (u.toNat : Int))) g (zs.set i u) := by
  obtain ⟨cs, t, hb, hl, hc⟩ := h
  refine ⟨cs.setIfInBounds i (.int .u8 (u.toNat : Int)), t, ?_, by simpa using hl, ?_⟩
  · simp [World.setCell, Array.getElem?_modify, hb]
  · intro j hj
    have hj' : j < zs.length := by simpa using hj
    by_cases hij : i = j
    · subst hij
      simp [Array.getElem?_setIfInBounds_self_of_lt (show i < cs.size by omega)]
    · rw [Array.getElem?_setIfInBounds_ne hij]
      simp only [List.getElem_set, if_neg hij]
      exact hc j hj'
theorem RowAt.below {W W' : World} {g : Nat} {zs : List UInt8} (h : RowAt W g zs) (hb : Below W.heap.size W W') : RowAt W' g zs := by
  have := h.lt
  obtain ⟨cs, t, hx, hl, hc⟩ := h
  exact ⟨cs, t, (hb.block g this).trans hx, hl, hc⟩

/-- '[]byte(s)': a new row that holds the text's bytes. -/
theorem upon_row {P : Program} {o : Oper} {a : Act} {K : Act → World → Prop} {Q : Exit → Act → World → Prop} (w : World) (src dst e : TypeId) (s : ByteArray)
    (hs : P.underlying src = some .string) (hd : P.underlying dst = some (.slice e)) (he : P.underlying e = some (.int .u8))
    (h : ∀ (W : World) (cap : Nat), Below w.heap.size w W → RowAt W w.heap.size s.data.toList → K (a.put o.dst (.slice (some ⟨w.heap.size, 0, none⟩) s.size cap)) W) :
    o.upon P a K Q (((convert src dst (.string s)).run P w).andThen fun v w' => .ok (.value v) w') := by
  rw [run_bytes_of_string w src dst e s hs hd he]
  simp only [Result.andThen]
  rw [Oper.upon_value]
  refine h _ _ ((Below.refl _ _).drew.alloc (Nat.le_refl _) _) ⟨bytesRow s (grownCap w s.size 0 e), e, ?_, ?_, fun i hi => ?_⟩
  · show (w.heap.push (.cells (bytesRow s (grownCap w s.size 0 e)) e ((bytesRow s (grownCap w s.size 0 e)).size, (bytesRow s (grownCap w s.size 0 e)).size + 1)))[w.heap.size]? = _
    simp
  · simp [bytesRow]
  · rw [bytesRow_at s _ i (by simpa using hi)]
    simp
/-- 'string(b)' of such a row, whole. -/
theorem row_str {P : Program} {W : World} {g cap : Nat} {zs : List UInt8} (h : RowAt W g zs) (src e dst : TypeId) (hs : P.underlying src = some (.slice e)) (he : P.underlying e = some (.int .u8)) (hd : P.underlying dst = some .string) :
    (convert src dst (.slice (some ⟨g, 0, none⟩) zs.length cap)).run P W = .ok (.string (strOfNums (zs.map fun b => (b.toNat : Int)))) W :=
  run_convert_bytes_arg _ src e hs he g 0 zs.length cap _ (by simp) (fun i hi => by
    rw [Nat.zero_add, h.cell i hi]
    simp [List.getD_eq_getElem?_getD, hi]) dst hd

end Go.Proofs.Ytahaikfijegknaa
