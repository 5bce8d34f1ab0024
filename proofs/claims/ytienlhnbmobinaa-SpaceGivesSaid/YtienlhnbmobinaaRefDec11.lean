/- ref11: Decode -/
import Derived.Test.YtienlhnbmobinaaRows
import Derived.Test.YtienlhnbmobinaaOneLaw
import Derived.Test.YtienlhnbmobinaaRefOne
import Derived.Test.YtienlhnbmobinaaRefMay11
import Derived.Test.YtienlhnbmobinaaRefGet
import Derived.Test.YtienlhnbmobinaaOpDec
import Derived.Test.YtienlhnbmobinaaOpWrite
import Derived.Test.YtienlhnbmobinaaOpRead
import Derived.Test.YtienlhnbmobinaaOpNum
import Derived.Test.YtienlhnbmobinaaOpPlain
import Derived.Test.YtienlhnbmobinaaOpPart
import Derived.Test.YtienlhnbmobinaaOpWord
import Derived.Test.YtienlhnbmobinaaOpSame
import Derived.Test.YtienlhnbmobinaaOpLaw
import Derived.Test.YtienlhnbmobinaaOpIn
import Derived.Test.YtienlhnbmobinaaOpEnc
import Derived.Test.YtienlhnbmobinaaHeavy11
import Derived.Test.YtienlhnbmobinaaTextsMove
import Derived.Test.YtienlhnbmobinaaTextsP
import Derived.Test.YtienlhnbmobinaaPlains
import Derived.Test.YtienlhnbmobinaaBase
import Derived.Test.YtienlhnbmobinaaWordWalks
import Derived.WalkKit
import Derived.WalkLawsBesides
import Derived.WalkSpells
import Derived.LoopTactic
import Derived.WalkMore
import Derived.LoopN
import Derived.Laws.BitsAllLaws
import Derived.Laws.IdiomStrings
import Derived.BigQuiet
import Derived.Deep.QuietTactic
import Derived.Deep.DeepCutAuto
import Derived.Deep.RegionHeld3
import Derived.Deep.DrawnRows
import Derived.Lib.Hide
import Derived.Outline
import Derived.Deep.DeepMust
import Derived.Handy
namespace Go.Proofs.Ytienlhnbmobinaa
open Go.RowKit
set_option linter.unusedVariables false
set_option linter.unusedSimpArgs false

theorem own_mono9 {w : World} {base base' size n : Nat} {e : TypeId} {v : Value} {xs : List Value} (h : w.ownsRow base e size v n xs) (hb : base' ≤ base) : w.ownsRow base' e size v n xs := by
  refine ⟨h.1, ?_⟩
  rcases h.2 with h1 | ⟨g, cap, cur, h1, hg, h2⟩
  · exact .inl h1
  · exact .inr ⟨g, cap, cur, h1, by omega, h2⟩
theorem own_ge9 {w : World} {base size n : Nat} {e : TypeId} {v : Value} {xs : List Value} (h : w.ownsRow base e size v n xs) : ∀ j, v.ownBlock = some j → base ≤ j := fun j hj => (h.lt j hj).1
theorem OwnOps.mono {w : World} {base base' : Nat} {v : Value} {L : List Ov} (h : OwnOps w base v L) (hb : base' ≤ base) : OwnOps w base' v L := ⟨own_mono9 h.1 hb, fun e he => own_mono9 (h.2 e he) hb⟩
theorem OwnOps.kept {w w' : World} {base g : Nat} {v : Value} {L : List Ov} (h : OwnOps w base v L) (hk : OthersKept w w' (fun x => x = g)) (hg : g < base) : OwnOps w' base v L :=
  ⟨hk.owns h.1 (fun j hj e => by have := own_ge9 h.1 j hj; omega), fun e he => hk.owns (h.2 e he) (fun j hj e => by have := own_ge9 (h.2 _ he) j hj; omega)⟩
end Go.Proofs.Ytienlhnbmobinaa
