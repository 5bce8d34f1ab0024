/- Both areas, and a call of both. -/
import Derived.Test.YtienlhnbmobinaaRows
import Derived.Test.YtienlhnbmobinaaRefSet
import Derived.Test.YtienlhnbmobinaaRefBytes
import Derived.Test.YtienlhnbmobinaaSlotRoot
import Derived.Test.YtienlhnbmobinaaSlotSet
import Derived.Test.YtienlhnbmobinaaSlotCompact
import Derived.Test.YtienlhnbmobinaaSlotRemove
import Derived.Test.YtienlhnbmobinaaSlotPut
import Derived.Test.YtienlhnbmobinaaBase
import Derived.Deep.LoopGhost
import Derived.WalkKit
import Derived.WalkLawsBesides
import Derived.WalkSpells
import Derived.LoopTactic
import Derived.WalkMore
import Derived.LoopN
import Derived.Laws.BitsAllLaws
import Derived.Laws.IdiomStrings
import Derived.BigQuiet
import Derived.Deep.QuietTactic
import Derived.Deep.DeepCutAuto
import Derived.Deep.RegionHeld3
import Derived.Deep.DrawnRows
import Derived.Lib.Hide
import Derived.Outline
import Derived.Deep.DeepMust
import Derived.Handy
namespace Go.Proofs.Ytienlhnbmobinaa
open Go.RowKit
set_option linter.unusedVariables false
set_option linter.unusedSimpArgs false

theorem OthersKept.area {w w' : World} {p : Nat → Prop} {gA gB cap : Nat} {a : Ar} (hk : OthersKept w w' p) (h : ArAt w gA gB cap a) (h1 : ¬ p gA) (h2 : ¬ p gB) : ArAt w' gA gB cap a :=
  ⟨⟨hk.heap h.area.own h1, hk.row h.area.row h2, h.area.ne⟩, h.room⟩
/-- Both areas in memory, the program's and the document's, as one plain area; they share no block, and none was there ahead. -/
structure Both (B0 gA gC capA g gB cap : Nat) (v : Value) (a : Ar) (w : World) : Prop where
  good : a.Good
  prog : ArAt w gA gC capA a
  ref : RefAt w g gB cap v a
  n1 : gA ≠ g
  n2 : gA ≠ gB
  n3 : gC ≠ g
  n4 : gC ≠ gB
  far : ∀ x, v.ownBlock = some x → x ≠ gA ∧ x ≠ gC ∧ B0 ≤ x
  lA : B0 ≤ gA
  lC : B0 ≤ gC
  lg : B0 ≤ g
  lB : B0 ≤ gB
theorem Both.below {B0 gA gC capA g gB cap : Nat} {v : Value} {a : Ar} {w w' : World} (h : Both B0 gA gC capA g gB cap v a w) (hb : Below w.heap.size w w') : Both B0 gA gC capA g gB cap v a w' :=
  { h with prog := h.prog.below hb, ref := h.ref.below hb }
/-- The program's area behind a call, the document's as it was. -/
theorem Both.refStays {B0 gA gC capA g gB cap : Nat} {v : Value} {a : Ar} {w w' : World} (h : Both B0 gA gC capA g gB cap v a w) (hg : w.grownBy w' (some gC)) : RefAt w' g gB cap v a :=
  h.ref.other hg (Ne.symm h.n3) (Ne.symm h.n4) (fun hx => (h.far _ hx).2.1 rfl)
theorem Both.step {B0 gA gC capA g gB cap : Nat} {v : Value} {a b : Ar} {w w1 w2 : World} (h : Both B0 gA gC capA g gB cap v a w) (hw : B0 ≤ w.heap.size) (hb : b.Good) (hp : ArAt w1 gA gC capA b) (hg : w.grownBy w1 (some gC)) (hr : RefThen w1 g gB cap v b w2) :
    (∃ v', Both B0 gA gC capA g gB cap v' b w2) ∧ OthersKept w w2 (fun k => B0 ≤ k) := by
  obtain ⟨v', hR, hK, hF⟩ := hr
  have hno : ∀ x, refOwn g gB v x → x ≠ gA ∧ x ≠ gC ∧ B0 ≤ x := by
    rintro x (rfl | rfl | hx)
    · exact ⟨Ne.symm h.n1, Ne.symm h.n3, h.lg⟩
    · exact ⟨Ne.symm h.n2, Ne.symm h.n4, h.lB⟩
    · exact h.far x hx
  have hlA := blk_lt hp.area.own
  have hlC := hp.area.row.lt
  refine ⟨⟨v', hb, hK.area hp (fun hx => (hno _ hx).1 rfl) (fun hx => (hno _ hx).2.1 rfl), hR, h.n1, h.n2, h.n3, h.n4, fun x hx => ?_, h.lA, h.lC, h.lg, h.lB⟩, ?_⟩
  · rcases hF x hx with h1 | h1
    · exact h.far x h1
    · have := hg.size
      exact ⟨by omega, by omega, by omega⟩
  · exact (OthersKept.of_grown (p := fun k => B0 ≤ k) hg h.lC).trans hK (fun k _ hx => (hno k hx).2.2)
theorem refBytes_any (g gB cap : Nat) (v : Value) (a : Ar) (w : World) (hg : a.Good) (h : RefAt w g gB cap v a) :
    Calls Try.prog 104 #[.pointer (some ⟨g, 0, none⟩)] w fun e w' => e = .returned (.string ⟨a.enc.toArray⟩) ∧ Below w.heap.size w w' := by
  refine (refBytes_begin g gB cap v a w hg.fit (fun p hp => by have := hg.inn2 hp; simp only [Nat.reducePow]; omega) h).mono ?_
  rintro e w' ⟨s, rfl, hs, hb⟩
  exact ⟨ret_str1 (bytes_ext (by rw [hs])), hb⟩
/-- What a call leaves of an area. -/
def Ar.step (a : Ar) (d : Nat) (k : Int) (t : List UInt8) : Ar :=
  if d % 8 = 3 ∨ d % 8 = 4 then (a.set k t).1 else if d % 8 = 5 then (a.remove k).1 else if d % 8 = 6 then a.compact else (a.put k t).1
theorem Ar.Good.step {a : Ar} (h : a.Good) (d : Nat) (k : Int) (t : List UInt8) : (a.step d k t).Good := by
  unfold Ar.step
  split
  · exact (h.set k t).1
  · split
    · exact (h.remove k).1
    · split
      · exact h.compact.1
      · exact (h.put k t).1

end Go.Proofs.Ytienlhnbmobinaa
