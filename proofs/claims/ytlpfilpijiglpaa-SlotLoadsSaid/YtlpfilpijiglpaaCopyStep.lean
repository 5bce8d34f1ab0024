/- copy of bytes, at a step of a region that draws its order -/
import Derived.Test.YtlpfilpijiglpaaRows
import Derived.Test.YtlpfilpijiglpaaCopyPart
import Derived.WalkKit
import Derived.WalkLawsBesides
import Derived.WalkSpells
import Derived.LoopTactic
import Derived.WalkMore
import Derived.LoopN
import Derived.Laws.BitsAllLaws
import Derived.Laws.IdiomStrings
import Derived.BigQuiet
import Derived.Deep.QuietTactic
import Derived.Deep.DeepCutAuto
import Derived.Deep.RegionHeld3
import Derived.Deep.DrawnRows
import Derived.Lib.Hide
import Derived.Outline
import Derived.Deep.DeepMust
import Derived.Handy
namespace Go.Proofs.Ytlpfilpijiglpaa
open Go.RowKit
set_option linter.unusedVariables false
set_option linter.unusedSimpArgs false

/-- 'copy(b[k:], c)' at a step of a region that draws its order. -/
theorem step_copy_part {P : Program} {ops : Array Oper} {o : Oper} {a : Act} {K : Act → World → Prop} {Q : Exit → Act → World → Prop} {E : Prop} {W : World} {g k dLen dCap sLen sCap : Nat} {l zs : List UInt8} (hgd : o.guard = none) (d s : Operand) (dT sT elem : TypeId) (p : Addr)
    (ho : o.op = .call { callee := .builtin .copy, args := #[d, s], argTypes := #[dT, sT] })
    (hd : a.eval d = .slice (some ⟨g, k, none⟩) dLen dCap) (hx : a.eval s = .slice (some p) sLen sCap)
    (h : RowAt W g l) (hu : P.underlying dT = some (.slice elem)) (hs : (P.info? elem).map (·.size) = some 1) (hz : zs.length = Nat.min sLen dLen)
    (hsrc : ∀ j (hj : j < zs.length), W.cell? (p.add j) = some (.int .u8 (zs[j].toNat : Int))) (hfit : k + zs.length ≤ l.length)
    (hk : ∀ W', RowAt W' g (l.take k ++ zs ++ l.drop (k + zs.length)) → W.grownBy W' (some g) → K (a.put o.dst (goInt zs.length)) W') :
    if Region.wanted o (yielded ops a.tmps) = true then Oper.wp P o a W K Q else E := by
  have hw : Region.wanted o (yielded ops a.tmps) = true := by simp [Region.wanted, hgd]
  rw [if_pos hw]
  obtain ⟨W', hr, h2, h3⟩ := run_copy_part (P := P) (dCap := dCap) (sCap := sCap) h dT sT o.type elem p hu hs hz hsrc hfit
  unfold Oper.wp execOp
  simp only [ho, resolve, invoke, builtin, Sem.run_bind, Sem.run_pure, Result.andThen_ok, List.map_toArray, List.map_cons, List.map_nil, hd, hx, hr]
  exact hk W' h2 h3

end Go.Proofs.Ytlpfilpijiglpaa
