/- chapter 24: a compaction, plain. -/
import Derived.Test.YtoeaakadpillnaaRows
import Derived.Test.YtoeaakadpillnaaViewDel
import Derived.Test.YtoeaakadpillnaaViewOut
import Derived.Test.YtoeaakadpillnaaViewSame
import Derived.Test.YtoeaakadpillnaaViewSees
import Derived.Test.YtoeaakadpillnaaViewNums
import Derived.Test.YtoeaakadpillnaaSortUTop
import Derived.Test.YtoeaakadpillnaaLockRef
import Derived.Test.YtoeaakadpillnaaKept
import Derived.Test.YtoeaakadpillnaaQuietTail
import Derived.Test.YtoeaakadpillnaaAppAny
import Derived.Deep.LoopGhost
import Derived.Deep.CutBlock
import Derived.Lib.SliceRun
import Derived.WalkKit
import Derived.WalkLawsBesides
import Derived.WalkSpells
import Derived.LoopTactic
import Derived.WalkMore
import Derived.LoopN
import Derived.Laws.BitsAllLaws
import Derived.Laws.IdiomStrings
import Derived.BigQuiet
import Derived.Deep.QuietTactic
import Derived.Deep.DeepCutAuto
import Derived.Deep.RegionHeld3
import Derived.Deep.DrawnRows
import Derived.Lib.Hide
import Derived.Outline
import Derived.Deep.DeepMust
import Derived.Handy
namespace Go.Proofs.Ytoeaakadpillnaa
open Go.RowKit
set_option linter.unusedVariables false
set_option linter.unusedSimpArgs false

/-- What a compaction has come to: k numbers stand for the first q. -/
structure Cmp (d dk : Array Nat) (n k q : Nat) : Prop where
  k0 : 0 < k
  kq : k ≤ q
  qn : q ≤ n
  size : dk.size = n
  dsize : d.size = n
  rise : ∀ i j, i < j → j < k → dk[i]! < dk[j]!
  frm : ∀ i, i < k → ∃ j, j < q ∧ dk[i]! = d[j]!
  bck : ∀ j, j < q → ∃ i, i < k ∧ dk[i]! = d[j]!
  rest : ∀ t, q ≤ t + 1 → dk[t]! = d[t]!
  last : ∀ i, i < k → dk[i]! ≤ d[q - 1]!
theorem Cmp.start {d : Array Nat} {n : Nat} (hs : d.size = n) (hn : 0 < n) : Cmp d d n 1 1 :=
  ⟨by omega, Nat.le_refl _, hn, hs, hs, fun i j h1 h2 => by omega, fun i hi => ⟨i, hi, rfl⟩, fun j hj => ⟨j, hj, rfl⟩, fun t _ => rfl, fun i hi => by rw [show i = 0 by omega]; exact Nat.le_refl _⟩
theorem Cmp.same {d dk : Array Nat} {n k q : Nat} (h : Cmp d dk n k q) (hq : q < n) (he : d[q]! = d[q - 1]!) : Cmp d dk n k (q + 1) := by
  refine ⟨h.k0, by have := h.kq; omega, hq, h.size, h.dsize, h.rise, fun i hi => ?_, fun j hj => ?_, fun t ht => h.rest t (by omega), fun i hi => ?_⟩
  · obtain ⟨j, hj, e⟩ := h.frm i hi
    exact ⟨j, by omega, e⟩
  · by_cases e : j = q
    · subst e
      obtain ⟨i, hi, e2⟩ := h.bck (j - 1) (by have := h.k0; have := h.kq; omega)
      exact ⟨i, hi, by rw [e2, he]⟩
    · exact h.bck j (by omega)
  · rw [Nat.add_sub_cancel, he]
    exact h.last i hi
theorem Cmp.new {d dk dk2 : Array Nat} {n k q : Nat} (h : Cmp d dk n k q) (hq : q < n) (hle : d[q - 1]! < d[q]!) (hs2 : dk2.size = n) (hk : dk2[k]! = d[q]!) (ho : ∀ t, t ≠ k → dk2[t]! = dk[t]!) : Cmp d dk2 n (k + 1) (q + 1) := by
  have hlt : ∀ i, i < k → dk2[i]! < d[q]! := fun i hi => by rw [ho i (by omega)]; exact Nat.lt_of_le_of_lt (h.last i hi) hle
  have hkq := h.kq
  refine ⟨by omega, by omega, hq, hs2, h.dsize, fun i j hij hj => ?_, fun i hi => ?_, fun j hj => ?_, fun t ht => ?_, fun i hi => ?_⟩
  · by_cases e : j = k
    · subst e
      rw [hk]
      exact hlt i hij
    · rw [ho i (by omega), ho j e]
      exact h.rise i j hij (by omega)
  · by_cases e : i = k
    · exact ⟨q, by omega, by rw [e, hk]⟩
    · obtain ⟨j, hj, e2⟩ := h.frm i (by omega)
      exact ⟨j, by omega, by rw [ho i e, e2]⟩
  · by_cases e : j = q
    · exact ⟨k, by omega, by rw [e, hk]⟩
    · obtain ⟨i, hi, e2⟩ := h.bck j (by omega)
      exact ⟨i, by omega, by rw [ho i (by omega), e2]⟩
  · by_cases e : t = k
    · rw [e, hk, show q = k by omega]
    · rw [ho t e]
      exact h.rest t (by omega)
  · rw [Nat.add_sub_cancel]
    by_cases e : i = k
    · rw [e, hk]; exact Nat.le_refl _
    · exact Nat.le_of_lt (hlt i (by omega))
theorem Cmp.keep {d : Array Nat} {n k : Nat} (h : Cmp d d n k k) (hq : k < n) (hle : d[k - 1]! < d[k]!) : Cmp d d n (k + 1) (k + 1) := h.new hq hle h.size rfl (fun _ _ => rfl)
theorem Cmp.put {d dk : Array Nat} {n k q : Nat} (h : Cmp d dk n k q) (hq : q < n) (hle : d[q - 1]! < d[q]!) : Cmp d (dk.setIfInBounds k d[q]!) n (k + 1) (q + 1) :=
  h.new hq hle (by simp [h.size]) (by have := h.kq; rw [Go.Sort.getElem!_set_same dk k _ (by rw [h.size]; omega)]) (fun t ht => Go.Sort.getElem!_set_other dk k t _ ht)
/-- The list behind a compaction. -/
theorem Cmp.done {d dk d' : Array Nat} {n k : Nat} (h : Cmp d dk n k n) (hs : d'.size = n) (he : ∀ t, t < k → d'[t]! = dk[t]!) : (d'.toList.take k).Pairwise (· < ·) ∧ ∀ z, z ∈ d'.toList.take k ↔ z ∈ d.toList := by
  have hkn := h.kq
  have hg : ∀ t (ht : t < k), ∃ h2 : t < (d'.toList.take k).length, (d'.toList.take k)[t] = dk[t]! := fun t ht => ⟨by simp [hs]; omega, by
    rw [List.getElem_take, ← he t ht, getElem!_pos d' t (by omega)]
    simp⟩
  have hl : (d'.toList.take k).length = k := by simp [hs]; omega
  constructor
  · rw [List.pairwise_iff_getElem]
    intro i j hi hj hij
    rw [hl] at hi hj
    obtain ⟨_, e1⟩ := hg i hi
    obtain ⟨_, e2⟩ := hg j hj
    rw [e1, e2]
    exact h.rise i j hij hj
  · intro z
    constructor
    · intro hz
      obtain ⟨t, ht, rfl⟩ := List.getElem_of_mem hz
      rw [hl] at ht
      obtain ⟨_, e1⟩ := hg t ht
      obtain ⟨j, hj, e2⟩ := h.frm t ht
      rw [e1, e2, getElem!_pos d j (by rw [h.dsize]; omega)]
      simp
    · intro hz
      obtain ⟨j, hj, rfl⟩ := List.getElem_of_mem hz
      simp [h.dsize] at hj
      obtain ⟨i, hi, e2⟩ := h.bck j hj
      obtain ⟨h2, e1⟩ := hg i hi
      rw [getElem!_pos d j (by rw [h.dsize]; omega)] at e2
      have : d.toList[j]'(by simp [h.dsize]; omega) = (d'.toList.take k)[i] := by rw [e1, e2]; simp
      rw [this]
      exact List.getElem_mem h2

end Go.Proofs.Ytoeaakadpillnaa
