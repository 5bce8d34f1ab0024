/- string(make([]byte, n)) -/
import Derived.Test.YtjcfnfpilladfaaRows
import Derived.Test.YtjcfnfpilladfaaBase
import Derived.WalkKit
import Derived.WalkLawsBesides
import Derived.WalkSpells
import Derived.LoopTactic
import Derived.WalkMore
import Derived.LoopN
import Derived.Laws.BitsAllLaws
import Derived.Laws.IdiomStrings
import Derived.BigQuiet
import Derived.Deep.QuietTactic
import Derived.Deep.DeepCutAuto
import Derived.Deep.RegionHeld3
import Derived.Deep.DrawnRows
import Derived.Lib.Hide
import Derived.Outline
import Derived.Deep.DeepMust
import Derived.Handy
namespace Go.Proofs.Ytjcfnfpilladfaa
open Go.RowKit
set_option linter.unusedVariables false
set_option linter.unusedSimpArgs false

theorem strOfNums_bytes : ∀ zs : List UInt8, strOfNums (zs.map fun b => (b.toNat : Int)) = ⟨zs.toArray⟩
  | [] => rfl
  | z :: zs => by
    apply bytes_ext
    rw [List.map_cons, strOfNums_cons, strOfNums_bytes zs]
    simp
/-- The zeros of a new row. -/
def zerosRow (n : Nat) : Array Value := (List.replicate n (Value.int .u8 0)).toArray
theorem run_make_zeros {P : Program} (W : World) (t e : TypeId) (n : Nat) (ht : P.underlying t = some (.slice e)) (hz : (P.info? e).map (·.zero) = some (some (.int .u8 0))) (hs : (P.info? e).map (·.size) = some 1) (hb : (P.info? e).map (·.bytes) = some 1) (hn : n ≤ 1000000) :
    (Instr.makeSlice t (.int .i64 n) (.int .i64 n)).run P W = .ok (.slice (some ⟨W.heap.size, 0, none⟩) n n) (W.alloc (.cells (zerosRow n) e)) := by
  cases hq : P.info? e with
  | none => rw [hq] at hs; simp at hs
  | some i =>
    rw [hq] at hz hs hb
    simp at hz hs hb
    have hr := run_makeSlice (P := P) W t e i _ ht hq hz .i64 .i64 (n : Int) (n : Int) (by omega) (Int.le_refl _) (by rw [hs]; simp; omega) (by rw [hb]; omega) (by omega)
    rw [hr]
    simp only [Int.toNat_natCast, hs, Nat.mul_one]
    congr 3
    apply Array.ext'
    apply List.ext_getElem
    · simp [madeCells, Value.cells, zerosRow]
    · intro j h1 h2
      simp [madeCells, Value.cells, zerosRow, Nat.mod_one]
theorem run_zeros_str {P : Program} (W : World) (src e dst : TypeId) (g n : Nat) (hs : P.underlying src = some (.slice e)) (he : P.underlying e = some (.int .u8)) (hd : P.underlying dst = some .string) (h : W.heap[g]? = some (.cells (zerosRow n) e (0, 0))) :
    (convert src dst (.slice (some ⟨g, 0, none⟩) n n)).run P W = .ok (.string ⟨(List.replicate n 0).toArray⟩) W := by
  have hr : RowAt W g (List.replicate n 0) := ⟨_, e, 0, 0, h, by simp [zerosRow], .inr rfl, fun i hi => by
    have : i < n := by simpa using hi
    simp [zerosRow, this]⟩
  have := row_str (P := P) (cap := n) hr src e dst hs he hd
  rw [List.length_replicate] at this
  rw [this, strOfNums_bytes]
theorem below_alloc {w w1 : World} (h : Below w.heap.size w w1) (o : Obj) : Below w.heap.size w (w1.alloc o) := h.alloc h.size o

end Go.Proofs.Ytjcfnfpilladfaa
