/- slices of uint8, uint16, uint32 that came in -/
import Derived.Test.YtienlhnbmobinaaRows
import Derived.Test.YtienlhnbmobinaaSpaceNums
import Derived.Test.YtienlhnbmobinaaTextsIn
import Derived.Test.YtienlhnbmobinaaTextsP
import Derived.Test.YtienlhnbmobinaaOpenFlat
import Derived.Test.YtienlhnbmobinaaPlains
import Derived.Test.YtienlhnbmobinaaBase
import Derived.ChangeSlices
import Derived.WideShapes
import Derived.WalkKit
import Derived.WalkLawsBesides
import Derived.WalkSpells
import Derived.LoopTactic
import Derived.WalkMore
import Derived.LoopN
import Derived.Laws.BitsAllLaws
import Derived.Laws.IdiomStrings
import Derived.BigQuiet
import Derived.Deep.QuietTactic
import Derived.Deep.DeepCutAuto
import Derived.Deep.RegionHeld3
import Derived.Deep.DrawnRows
import Derived.Lib.Hide
import Derived.Outline
import Derived.Deep.DeepMust
import Derived.Handy
namespace Go.Proofs.Ytienlhnbmobinaa
open Go.RowKit
set_option linter.unusedVariables false
set_option linter.unusedSimpArgs false

def N8At (w : World) (sv : Value) (xs : List Nat) : Prop :=
  ∃ A cp, sv = .slice A xs.length cp ∧ xs.length ≤ cp ∧ cp ≤ maxLen ∧ (A = none → xs = [] ∧ cp = 0) ∧ (0 < xs.length → ∃ b o, A = some ⟨b, o, none⟩ ∧ b < w.heap.size ∧ ∀ j (h : j < xs.length), w.cell? ⟨b, o + j, none⟩ = some (.int .u8 (xs[j] : Nat)))
theorem N8At.below {w w' : World} {sv : Value} {xs : List Nat} (h : N8At w sv xs) (hb : Below w.heap.size w w') : N8At w' sv xs := by
  obtain ⟨A, cp, h1, h2, h3, h4, h5⟩ := h
  refine ⟨A, cp, h1, h2, h3, h4, fun h0 => ?_⟩
  obtain ⟨b, o, h6, h7, h8⟩ := h5 h0
  exact ⟨b, o, h6, Nat.lt_of_lt_of_le h7 hb.size, fun j hj => keep_cell hb (h8 j hj)⟩
theorem n8_of_row {w : World} {a : Option Addr} {len cap : Nat} {zs : List Int} (h : IsRow .u8 w a len cap zs) : ∃ xs : List Nat, N8At w (.slice a len cap) xs ∧ ∀ x ∈ xs, x < 256 := by
  rcases h with ⟨rfl, rfl, rfl, rfl⟩ | ⟨x, rfl, hl, hm, hz, hc, hw⟩
  · exact ⟨[], ⟨none, 0, rfl, Nat.le_refl _, Nat.zero_le _, fun _ => ⟨rfl, rfl⟩, fun h => absurd h (Nat.lt_irrefl 0)⟩, fun x h => (by cases h)⟩
  · have hlen : ((zs.take len).map Int.toNat).length = len := by simp; omega
    have hj : ∀ j (h : j < ((zs.take len).map Int.toNat).length), ∃ n : Nat, w.cell? (x.add j) = some (.int .u8 (n : Int)) ∧ ((zs.take len).map Int.toNat)[j] = n ∧ n < 256 := by
      intro j h
      have hjz : j < zs.length := by omega
      have h1 := hc j hjz
      have hg : zs.getD j 0 = zs[j] := by simp [hjz]
      have h2 := hw (zs.getD j 0) (by rw [hg]; exact List.getElem_mem hjz)
      obtain ⟨m, hm, hlt⟩ := natOf h2 (by decide) (b := 256) (by decide)
      refine ⟨m, by rw [h1, hm], ?_, hlt⟩
      rw [List.getElem_map, List.getElem_take]
      rw [hg] at hm
      rw [hm]
      rfl
    refine ⟨(zs.take len).map Int.toNat, ⟨some x, cap, by rw [hlen], by rw [hlen]; exact hl, hm, fun h => (by cases h), fun h0 => ?_⟩, fun y hy => ?_⟩
    · obtain ⟨n, h1, _, _⟩ := hj 0 h0
      have e0 : x.add 0 = x := rfl
      rw [e0] at h1
      obtain ⟨b, o, rfl⟩ := spot_noneT h1
      refine ⟨b, o, rfl, cell_lt h1, fun j h => ?_⟩
      obtain ⟨n2, h2, h3, _⟩ := hj j h
      rw [Addr.add_lit] at h2
      rw [h2, h3]
    · obtain ⟨j, h, rfl⟩ := List.getElem_of_mem hy
      obtain ⟨n, _, h2, h3⟩ := hj j h
      rw [h2]
      exact h3
def N16At (w : World) (sv : Value) (xs : List Nat) : Prop :=
  ∃ A cp, sv = .slice A xs.length cp ∧ xs.length ≤ cp ∧ cp ≤ maxLen ∧ (A = none → xs = [] ∧ cp = 0) ∧ (0 < xs.length → ∃ b o, A = some ⟨b, o, none⟩ ∧ b < w.heap.size ∧ ∀ j (h : j < xs.length), w.cell? ⟨b, o + j, none⟩ = some (.int .u16 (xs[j] : Nat)))
theorem N16At.below {w w' : World} {sv : Value} {xs : List Nat} (h : N16At w sv xs) (hb : Below w.heap.size w w') : N16At w' sv xs := by
  obtain ⟨A, cp, h1, h2, h3, h4, h5⟩ := h
  refine ⟨A, cp, h1, h2, h3, h4, fun h0 => ?_⟩
  obtain ⟨b, o, h6, h7, h8⟩ := h5 h0
  exact ⟨b, o, h6, Nat.lt_of_lt_of_le h7 hb.size, fun j hj => keep_cell hb (h8 j hj)⟩
theorem n16_of_row {w : World} {a : Option Addr} {len cap : Nat} {zs : List Int} (h : IsRow .u16 w a len cap zs) : ∃ xs : List Nat, N16At w (.slice a len cap) xs ∧ ∀ x ∈ xs, x < 256 ^ 2 := by
  rcases h with ⟨rfl, rfl, rfl, rfl⟩ | ⟨x, rfl, hl, hm, hz, hc, hw⟩
  · exact ⟨[], ⟨none, 0, rfl, Nat.le_refl _, Nat.zero_le _, fun _ => ⟨rfl, rfl⟩, fun h => absurd h (Nat.lt_irrefl 0)⟩, fun x h => (by cases h)⟩
  · have hlen : ((zs.take len).map Int.toNat).length = len := by simp; omega
    have hj : ∀ j (h : j < ((zs.take len).map Int.toNat).length), ∃ n : Nat, w.cell? (x.add j) = some (.int .u16 (n : Int)) ∧ ((zs.take len).map Int.toNat)[j] = n ∧ n < 256 ^ 2 := by
      intro j h
      have hjz : j < zs.length := by omega
      have h1 := hc j hjz
      have hg : zs.getD j 0 = zs[j] := by simp [hjz]
      have h2 := hw (zs.getD j 0) (by rw [hg]; exact List.getElem_mem hjz)
      obtain ⟨m, hm, hlt⟩ := natOf h2 (by decide) (b := 256 ^ 2) (by decide)
      refine ⟨m, by rw [h1, hm], ?_, hlt⟩
      rw [List.getElem_map, List.getElem_take]
      rw [hg] at hm
      rw [hm]
      rfl
    refine ⟨(zs.take len).map Int.toNat, ⟨some x, cap, by rw [hlen], by rw [hlen]; exact hl, hm, fun h => (by cases h), fun h0 => ?_⟩, fun y hy => ?_⟩
    · obtain ⟨n, h1, _, _⟩ := hj 0 h0
      have e0 : x.add 0 = x := rfl
      rw [e0] at h1
      obtain ⟨b, o, rfl⟩ := spot_noneT h1
      refine ⟨b, o, rfl, cell_lt h1, fun j h => ?_⟩
      obtain ⟨n2, h2, h3, _⟩ := hj j h
      rw [Addr.add_lit] at h2
      rw [h2, h3]
    · obtain ⟨j, h, rfl⟩ := List.getElem_of_mem hy
      obtain ⟨n, _, h2, h3⟩ := hj j h
      rw [h2]
      exact h3
theorem n32_of_row {w : World} {a : Option Addr} {len cap : Nat} {zs : List Int} (h : IsRow .u32 w a len cap zs) : ∃ xs : List Nat, N32At w (.slice a len cap) xs ∧ ∀ x ∈ xs, x < 256 ^ 4 := by
  rcases h with ⟨rfl, rfl, rfl, rfl⟩ | ⟨x, rfl, hl, hm, hz, hc, hw⟩
  · exact ⟨[], ⟨none, 0, rfl, Nat.le_refl _, Nat.zero_le _, fun _ => ⟨rfl, rfl⟩, fun h => absurd h (Nat.lt_irrefl 0)⟩, fun x h => (by cases h)⟩
  · have hlen : ((zs.take len).map Int.toNat).length = len := by simp; omega
    have hj : ∀ j (h : j < ((zs.take len).map Int.toNat).length), ∃ n : Nat, w.cell? (x.add j) = some (.int .u32 (n : Int)) ∧ ((zs.take len).map Int.toNat)[j] = n ∧ n < 256 ^ 4 := by
      intro j h
      have hjz : j < zs.length := by omega
      have h1 := hc j hjz
      have hg : zs.getD j 0 = zs[j] := by simp [hjz]
      have h2 := hw (zs.getD j 0) (by rw [hg]; exact List.getElem_mem hjz)
      obtain ⟨m, hm, hlt⟩ := natOf h2 (by decide) (b := 256 ^ 4) (by decide)
      refine ⟨m, by rw [h1, hm], ?_, hlt⟩
      rw [List.getElem_map, List.getElem_take]
      rw [hg] at hm
      rw [hm]
      rfl
    refine ⟨(zs.take len).map Int.toNat, ⟨some x, cap, by rw [hlen], by rw [hlen]; exact hl, hm, fun h => (by cases h), fun h0 => ?_⟩, fun y hy => ?_⟩
    · obtain ⟨n, h1, _, _⟩ := hj 0 h0
      have e0 : x.add 0 = x := rfl
      rw [e0] at h1
      obtain ⟨b, o, rfl⟩ := spot_noneT h1
      refine ⟨b, o, rfl, cell_lt h1, fun j h => ?_⟩
      obtain ⟨n2, h2, h3, _⟩ := hj j h
      rw [Addr.add_lit] at h2
      rw [h2, h3]
    · obtain ⟨j, h, rfl⟩ := List.getElem_of_mem hy
      obtain ⟨n, _, h2, h3⟩ := hj j h
      rw [h2]
      exact h3

end Go.Proofs.Ytienlhnbmobinaa
