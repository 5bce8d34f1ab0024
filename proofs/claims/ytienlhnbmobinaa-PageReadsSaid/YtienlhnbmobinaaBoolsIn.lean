/- slices of bools that came in -/
import Derived.Test.YtienlhnbmobinaaRows
import Derived.Test.YtienlhnbmobinaaPageTorn06
import Derived.Test.YtienlhnbmobinaaTextsIn
import Derived.Test.YtienlhnbmobinaaTextsP
import Derived.Test.YtienlhnbmobinaaOpenFlat
import Derived.Test.YtienlhnbmobinaaPlains
import Derived.Test.YtienlhnbmobinaaBase
import Derived.WalkKit
import Derived.WalkLawsBesides
import Derived.WalkSpells
import Derived.LoopTactic
import Derived.WalkMore
import Derived.LoopN
import Derived.Laws.BitsAllLaws
import Derived.Laws.IdiomStrings
import Derived.BigQuiet
import Derived.Deep.QuietTactic
import Derived.Deep.DeepCutAuto
import Derived.Deep.RegionHeld3
import Derived.Deep.DrawnRows
import Derived.Lib.Hide
import Derived.Outline
import Derived.Deep.DeepMust
import Derived.Handy
namespace Go.Proofs.Ytienlhnbmobinaa
open Go.RowKit
set_option linter.unusedVariables false
set_option linter.unusedSimpArgs false

section
open Go.ChangeShapes Go.WideShapes
variable {H : Type} {enc : TypeId × Value → H} {P : Program} {w : World} {base : Nat} {held : Bool}
def boolOf (y : DataW H × List MemPlace) : Bool := match y.1 with | .lit (.bool b) => b | _ => false
/-- A slice of bools that came in. -/
theorem bools_of_trod {t e : TypeId} {v : Value} {m : Nat} {y : DataW H × List MemPlace} (ht : P.underlying t = some (.slice e)) (he : P.underlying e = some .bool) (hc : P.cellsOf e = 1) (h : DataW.trod enc P w base (fun _ => true) held m t [v] = some y) :
    ∃ ks, BlAt w v ks := by
  rcases DataW.trod_slice ht h with ⟨hcs, _⟩ | ⟨a, len, cap, elems, rest, n, _, hcs, _, hb, hl, hm, hlen, hel, hsp, hns⟩
  · simp at hcs
    subst hcs
    exact ⟨[], BlAt.nil w⟩
  · simp at hcs
    subst hcs
    have hj : ∀ j (hj : j < elems.length), w.cell? (a.add j) = some (.bool (boolOf elems[j])) := by
      intro j hj
      have h1 := hel j (by omega)
      rw [List.getElem?_eq_getElem hj, hc, Nat.mul_one, Option.bind_eq_some_iff] at h1
      obtain ⟨cs', hcs, hy'⟩ := h1
      obtain ⟨b, rfl, hx⟩ := DataW.trod_bool he hy'
      rw [cell_of_cells?_one hcs, hx]
      rfl
    refine ⟨elems.map boolOf, some a, cap, by rw [List.length_map, hlen], by rw [List.length_map]; omega, hm, fun h => (by cases h), fun h0 => ?_⟩
    rw [List.length_map] at h0
    have h1 := hj 0 h0
    have e0 : a.add 0 = a := rfl
    rw [e0] at h1
    obtain ⟨b, o, rfl⟩ := spot_noneT h1
    refine ⟨b, o, rfl, cell_lt h1, fun j h => ?_⟩
    have h2 := hj j (by simpa using h)
    rw [Addr.add_lit] at h2
    rw [h2, List.getElem_map]
end

end Go.Proofs.Ytienlhnbmobinaa
