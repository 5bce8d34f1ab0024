/- copy of bytes that lie elsewhere -/
import Derived.Test.YtlpfilpijiglpaaRows
import Derived.Test.YtlpfilpijiglpaaCopyText
import Derived.WalkKit
import Derived.WalkLawsBesides
import Derived.WalkSpells
import Derived.LoopTactic
import Derived.WalkMore
import Derived.LoopN
import Derived.Laws.BitsAllLaws
import Derived.Laws.IdiomStrings
import Derived.BigQuiet
import Derived.Deep.QuietTactic
import Derived.Deep.DeepCutAuto
import Derived.Deep.RegionHeld3
import Derived.Deep.DrawnRows
import Derived.Lib.Hide
import Derived.Outline
import Derived.Deep.DeepMust
import Derived.Handy
namespace Go.Proofs.Ytlpfilpijiglpaa
open Go.RowKit
set_option linter.unusedVariables false
set_option linter.unusedSimpArgs false

/-- 'copy(b[k:], c)' of bytes that lie elsewhere (or in the same row). -/
theorem run_copy_part {P : Program} {W : World} {g k dLen dCap sLen sCap : Nat} {l zs : List UInt8} (h : RowAt W g l) (dT sT ty elem : TypeId) (a : Addr)
    (hu : P.underlying dT = some (.slice elem)) (hs : (P.info? elem).map (·.size) = some 1) (hz : zs.length = Nat.min sLen dLen)
    (hsrc : ∀ j (hj : j < zs.length), W.cell? (a.add j) = some (.int .u8 (zs[j].toNat : Int))) (hfit : k + zs.length ≤ l.length) :
    ∃ W', (Builtin.copy_ #[dT, sT] ty #[.slice (some ⟨g, k, none⟩) dLen dCap, .slice (some a) sLen sCap]).run P W = .ok (goInt zs.length) W' ∧ RowAt W' g (l.take k ++ zs ++ l.drop (k + zs.length)) ∧ W.grownBy W' (some g) := by
  obtain ⟨W', h1, h2, h3⟩ := run_storeBytes (P := P) g k zs 0 l W h (by simpa using hfit)
  have hl := run_loadCells_list (P := P) W a (zs.map fun b => Value.int .u8 (b.toNat : Int)) (fun j v hj => by
    have hjl : j < zs.length := by
      rcases Nat.lt_or_ge j zs.length with h | h
      · exact h
      · rw [List.getElem?_eq_none (by simpa using h)] at hj; cases hj
    rw [List.getElem?_map, List.getElem?_eq_getElem hjl] at hj
    simp at hj
    rw [← hj]
    exact hsrc j hjl)
  refine ⟨W', ?_, by simpa using h2, h3⟩
  rw [List.length_map] at hl
  cases hq : P.info? elem with
  | none => simp [hq] at hs
  | some i =>
    have hi : i.size = 1 := by simpa [hq] using hs
    simp [Builtin.copy_, run_underlying hu, Builtin.lenOf, Builtin.firstCells, sizeOf, typeInfo, hq, hi, ← hz, hl, h1]

theorem upon_copy_part {P : Program} {o : Oper} {a : Act} {K : Act → World → Prop} {Q : Exit → Act → World → Prop} {W : World} {g k dLen dCap sLen sCap : Nat} {l zs : List UInt8} (h : RowAt W g l) (dT sT ty elem : TypeId) (p : Addr)
    (hu : P.underlying dT = some (.slice elem)) (hs : (P.info? elem).map (·.size) = some 1) (hz : zs.length = Nat.min sLen dLen)
    (hsrc : ∀ j (hj : j < zs.length), W.cell? (p.add j) = some (.int .u8 (zs[j].toNat : Int))) (hfit : k + zs.length ≤ l.length)
    (hk : ∀ W', RowAt W' g (l.take k ++ zs ++ l.drop (k + zs.length)) → W.grownBy W' (some g) → K (a.put o.dst (goInt zs.length)) W') :
    o.upon P a K Q (((Builtin.copy_ #[dT, sT] ty #[.slice (some ⟨g, k, none⟩) dLen dCap, .slice (some p) sLen sCap]).run P W).andThen fun v w' => .ok (.value v) w') := by
  obtain ⟨W', h1, h2, h3⟩ := run_copy_part (P := P) (dCap := dCap) (sCap := sCap) h dT sT ty elem p hu hs hz hsrc hfit
  rw [h1]
  simp only [Result.andThen]
  rw [Oper.upon_value]
  exact hk W' h2 h3

end Go.Proofs.Ytlpfilpijiglpaa
