/- A text of an area is removed -/
import Derived.Test.YtienlhnbmobinaaRows
import Derived.Test.YtienlhnbmobinaaSlotCompact
import Derived.Test.YtienlhnbmobinaaSlotRoot
import Derived.WalkKit
import Derived.WalkLawsBesides
import Derived.WalkSpells
import Derived.LoopTactic
import Derived.WalkMore
import Derived.LoopN
import Derived.Laws.BitsAllLaws
import Derived.Laws.IdiomStrings
import Derived.BigQuiet
import Derived.Deep.QuietTactic
import Derived.Deep.DeepCutAuto
import Derived.Deep.RegionHeld3
import Derived.Deep.DrawnRows
import Derived.Lib.Hide
import Derived.Outline
import Derived.Deep.DeepMust
import Derived.Handy
namespace Go.Proofs.Ytienlhnbmobinaa
open Go.RowKit
set_option linter.unusedVariables false
set_option linter.unusedSimpArgs false

theorem run_clear_row {P : Program} {W : World} {g k n cap : Nat} {l : List UInt8} (h : RowAt W g l) (t ty elem : TypeId) (hu : P.underlying t = some (.slice elem)) (hz : ∀ w, (zeroValue elem).run P w = .ok (.int .u8 0) w) (hn : 0 < n) (hfit : k + n ≤ l.length) :
    ∃ W', (Builtin.clear_ #[t] ty #[.slice (some ⟨g, k, none⟩) n cap]).run P W = .ok (.tuple #[]) W' ∧ RowAt W' g (l.take k ++ List.replicate n 0 ++ l.drop (k + n)) ∧ W.grownBy W' (some g) := by
  obtain ⟨W', h1, h2, h3⟩ := run_storeBytes (P := P) g k (List.replicate n 0) 0 l W h (by simpa using hfit)
  refine ⟨W', ?_, by simpa using h2, h3⟩
  obtain ⟨m, rfl⟩ : ∃ m, n = m + 1 := ⟨n - 1, by omega⟩
  have e : (Builtin.zeroCells (Value.int .u8 0).cells (m + 1)).toList = (List.replicate (m + 1) (0 : UInt8)).map fun b => Value.int .u8 (b.toNat : Int) := by
    apply List.ext_getElem
    · simp [Builtin.zeroCells, Value.cells]
    · intro j h1 h2
      simp [Builtin.zeroCells, Value.cells, Nat.mod_one]
  have h1' : (storeCells ⟨g, k, none⟩ (List.replicate (m + 1) (Value.int .u8 0))).run P W = .ok () W' := by simpa using h1
  simp [Builtin.clear_, run_underlying hu, hz, e, h1']
theorem upon_clear {P : Program} {o : Oper} {a : Act} {K : Act → World → Prop} {Q : Exit → Act → World → Prop} {W : World} {g k n cap : Nat} {l : List UInt8} (h : RowAt W g l) (t ty elem : TypeId) (hu : P.underlying t = some (.slice elem)) (hz : ∀ w, (zeroValue elem).run P w = .ok (.int .u8 0) w) (hn : 0 < n) (hfit : k + n ≤ l.length)
    (hk : ∀ W', RowAt W' g (l.take k ++ List.replicate n 0 ++ l.drop (k + n)) → W.grownBy W' (some g) → K (a.put o.dst (.tuple #[])) W') :
    o.upon P a K Q (((Builtin.clear_ #[t] ty #[.slice (some ⟨g, k, none⟩) n cap]).run P W).andThen fun v w' => .ok (.value v) w') := by
  obtain ⟨W', h1, h2, h3⟩ := run_clear_row (P := P) (cap := cap) h t ty elem hu hz hn hfit
  rw [h1]
  simp only [Result.andThen]
  rw [Oper.upon_value]
  exact hk W' h2 h3

theorem Ar.Good.cut_fit {a : Ar} (h : a.Good) (k : Nat) (hk : k < a.L.length) : (a.cut k).Fit := (h.cut k hk).1.fit

end Go.Proofs.Ytienlhnbmobinaa
