/- chapter 24: views that came in; which are open. -/
import Derived.Test.YtoeaakadpillnaaRows
import Derived.Test.YtoeaakadpillnaaViewMapOpen
import Derived.Test.YtoeaakadpillnaaViewMapGet
import Derived.Test.YtoeaakadpillnaaViewMapNew
import Derived.Test.YtoeaakadpillnaaViewMap
import Derived.Test.YtoeaakadpillnaaViewStaysPlain
import Derived.Test.YtoeaakadpillnaaViewNil
import Derived.Test.YtoeaakadpillnaaNumsIn
import Derived.Test.YtoeaakadpillnaaViewCopied
import Derived.Test.YtoeaakadpillnaaViewWorks
import Derived.Test.YtoeaakadpillnaaViewRef
import Derived.Test.YtoeaakadpillnaaViewOf
import Derived.Test.YtoeaakadpillnaaViewSame
import Derived.Test.YtoeaakadpillnaaViewSees
import Derived.Test.YtoeaakadpillnaaViewNums
import Derived.Test.YtoeaakadpillnaaLockRefTake
import Derived.Test.YtoeaakadpillnaaLockPlain
import Derived.Test.YtoeaakadpillnaaSortUTop
import Derived.Test.YtoeaakadpillnaaLockRef
import Derived.Test.YtoeaakadpillnaaKept
import Derived.Test.YtoeaakadpillnaaQuietTail
import Derived.Test.YtoeaakadpillnaaAppAny
import Derived.Deep.LoopGhost
import Derived.Deep.CutBlock
import Derived.Lib.SliceRun
import Derived.Laws.ResultCell
import Derived.Maps.OwnSet
import Derived.Maps.RangeWalk
import Derived.WalkKit
import Derived.WalkLawsBesides
import Derived.WalkSpells
import Derived.LoopTactic
import Derived.WalkMore
import Derived.LoopN
import Derived.Laws.BitsAllLaws
import Derived.Laws.IdiomStrings
import Derived.BigQuiet
import Derived.Deep.QuietTactic
import Derived.Deep.DeepCutAuto
import Derived.Deep.RegionHeld3
import Derived.Deep.DrawnRows
import Derived.Lib.Hide
import Derived.Outline
import Derived.Deep.DeepMust
import Derived.Handy
namespace Go.Proofs.Ytoeaakadpillnaa
open Go.RowKit
set_option linter.unusedVariables false
set_option linter.unusedSimpArgs false

open Go.Maps
/-- Views that came in. -/
def ViewsAt (w : World) (A : Option Addr) (L : List VE) : Prop :=
  (0 < L.length → ∃ b o, A = some ⟨b, o, none⟩ ∧ b < w.heap.size ∧ ∀ i (h : i < L.length), w.cell? ⟨b, o + i * 3, none⟩ = some (.int .u64 (L[i].own : Nat)) ∧ w.cell? ⟨b, o + i * 3 + 1, none⟩ = some (.int .u64 (L[i].next : Nat)) ∧ w.cell? ⟨b, o + i * 3 + 2, none⟩ = some (.slice L[i].b L[i].xs.length L[i].c)) ∧ ∀ e ∈ L, NumsAt w e.sv e.xs
theorem ViewsAt.below {w w' : World} {A : Option Addr} {L : List VE} (h : ViewsAt w A L) (hb : Below w.heap.size w w') : ViewsAt w' A L := by
  refine ⟨fun h0 => ?_, fun e he => (h.2 e he).below hb⟩
  obtain ⟨b, o, h1, h2, h3⟩ := h.1 h0
  exact ⟨b, o, h1, Nat.lt_of_lt_of_le h2 hb.size, fun i hi => ⟨keep_cell hb (h3 i hi).1, keep_cell hb (h3 i hi).2.1, keep_cell hb (h3 i hi).2.2⟩⟩
/-- The first i views are open, by their numbers. -/
structure VA (L : List VE) (tx i : Nat) (T : VT) (all : Bool) : Prop where
  at_ : ∀ j (h : j < L.length), j < i → ∃ b c, T ((j : Int) + 1) = some ⟨L[j].own, L[j].next, b, c, L[j].xs⟩
  dom : ∀ k : Int, (T k).isSome = true → 1 ≤ k ∧ k ≤ i
  all_ : all = true ↔ ∀ j (h : j < L.length), j < i → seesV L[j].own L[j].next L[j].xs tx = true
theorem VA.start (L : List VE) (tx : Nat) : VA L tx 0 (fun _ => none) true :=
  ⟨fun j h h0 => absurd h0 (Nat.not_lt_zero j), fun k h => (by cases h), ⟨fun _ j h h0 => absurd h0 (Nat.not_lt_zero j), fun _ => rfl⟩⟩
theorem VA.free {L : List VE} {tx i : Nat} {T : VT} {all : Bool} (h : VA L tx i T all) : T ((i + 1 : Nat) : Int) = none := by
  cases hT : T ((i + 1 : Nat) : Int) with
  | none => rfl
  | some e => have := h.dom _ (by rw [hT]; rfl); omega
theorem VA.least {L : List VE} {tx i : Nat} {T : VT} {all : Bool} (h : VA L tx i T all) (hi : i ≤ L.length) : ∀ j : Nat, 1 ≤ j → j < i + 1 → T (j : Int) ≠ none := by
  intro j h1 h2
  obtain ⟨b, c, e⟩ := h.at_ (j - 1) (by omega) (by omega)
  rw [show ((j - 1 : Nat) : Int) + 1 = (j : Int) by omega] at e
  rw [e]
  simp
theorem VA.step {L : List VE} {tx i : Nat} {T : VT} {all : Bool} (h : VA L tx i T all) (hi : i < L.length) (b : Option Addr) (c : Nat) (all2 : Bool) (h2 : all2 = true ↔ (all = true ∧ seesV L[i].own L[i].next L[i].xs tx = true)) :
    VA L tx (i + 1) (T.put ((i + 1 : Nat) : Int) ⟨L[i].own, L[i].next, b, c, L[i].xs⟩) all2 := by
  refine ⟨fun j hj hji => ?_, fun k hk => ?_, ?_⟩
  · unfold VT.put
    by_cases e : j = i
    · subst e
      rw [if_pos (by omega)]
      exact ⟨b, c, rfl⟩
    · rw [if_neg (by omega)]
      exact h.at_ j hj (by omega)
  · unfold VT.put at hk
    split at hk
    · omega
    · have := h.dom k hk; omega
  · rw [h2, h.all_]
    constructor
    · rintro ⟨h3, h4⟩ j hj hji
      by_cases e : j = i
      · subst e; exact h4
      · exact h3 j hj (by omega)
    · intro h3
      exact ⟨fun j hj hji => h3 j hj (by omega), h3 i hi (by omega)⟩
theorem VA.sees {L : List VE} {tx i : Nat} {T : VT} {all b : Bool} (h : VA L tx i T all) (hi : i ≤ L.length) (hb : b = true ↔ ∀ k e, T k = some e → seesV e.own e.next e.xs tx = true) : b = all := by
  have : b = true ↔ all = true := by
    rw [hb, h.all_]
    constructor
    · intro h1 j hj hji
      obtain ⟨b', c', e⟩ := h.at_ j hj hji
      exact h1 _ ⟨L[j].own, L[j].next, b', c', L[j].xs⟩ e
    · intro h1 k e he
      have hd := h.dom k (by rw [he]; rfl)
      obtain ⟨b', c', e2⟩ := h.at_ (k.toNat - 1) (by omega) (by omega)
      rw [show ((k.toNat - 1 : Nat) : Int) + 1 = k by omega, he] at e2
      injection e2 with e2
      subst e2
      exact h1 (k.toNat - 1) (by omega) (by omega)
  cases b <;> cases all <;> simp_all
theorem VA.get {L : List VE} {tx i : Nat} {T : VT} {all : Bool} (h : VA L tx (i + 1) T all) (hi : i < L.length) : ∃ b c, T ((i + 1 : Nat) : Int) = some ⟨L[i].own, L[i].next, b, c, L[i].xs⟩ := h.at_ i hi (by omega)
/-- One is closed: the rest. -/
theorem VA.rest {L : List VE} {tx k : Nat} {T : VT} {all b r : Bool} (h : VA L tx L.length T all) (hk : k < L.length) (hb : b = true ↔ ∀ j e, (T.del ((k + 1 : Nat) : Int)) j = some e → seesV e.own e.next e.xs tx = true)
    (hr : r = true ↔ ∀ j (h : j < L.length), j < L.length → j = k ∨ seesV L[j].own L[j].next L[j].xs tx = true) : b = r := by
  have : b = true ↔ r = true := by
    rw [hb, hr]
    constructor
    · intro h1 j hj _
      by_cases e : j = k
      · exact .inl e
      · obtain ⟨b', c', e2⟩ := h.at_ j hj hj
        refine .inr (h1 ((j : Int) + 1) ⟨L[j].own, L[j].next, b', c', L[j].xs⟩ ?_)
        unfold VT.del
        rw [if_neg (by omega), e2]
    · intro h1 j e he
      unfold VT.del at he
      split at he
      · cases he
      · rename_i hne
        have hd := h.dom j (by rw [he]; rfl)
        obtain ⟨b', c', e2⟩ := h.at_ (j.toNat - 1) (by omega) (by omega)
        rw [show ((j.toNat - 1 : Nat) : Int) + 1 = j by omega, he] at e2
        injection e2 with e2
        subst e2
        rcases h1 (j.toNat - 1) (by omega) (by omega) with h3 | h3
        · omega
        · exact h3
  cases b <;> cases r <;> simp_all

end Go.Proofs.Ytoeaakadpillnaa
