/- what texts are left behind a place, as an append reads them -/
import Derived.Test.YtienlhnbmobinaaRows
import Derived.Test.YtienlhnbmobinaaBase
import Derived.Test.YtienlhnbmobinaaTextsP
import Derived.Test.YtienlhnbmobinaaTextsMove
import Derived.WalkKit
import Derived.WalkLawsBesides
import Derived.WalkSpells
import Derived.LoopTactic
import Derived.WalkMore
import Derived.LoopN
import Derived.Laws.BitsAllLaws
import Derived.Laws.IdiomStrings
import Derived.BigQuiet
import Derived.Deep.QuietTactic
import Derived.Deep.DeepCutAuto
import Derived.Deep.RegionHeld3
import Derived.Deep.DrawnRows
import Derived.Lib.Hide
import Derived.Outline
import Derived.Deep.DeepMust
import Derived.Handy
namespace Go.Proofs.Ytienlhnbmobinaa
open Go.RowKit
set_option linter.unusedVariables false
set_option linter.unusedSimpArgs false

theorem reads_noneP (w : World) (a : Addr) (n c : Nat) (h : n = 0) : Reads w (.slice (some a) n c) n 1 [] := by
  subst h
  exact .inr ⟨a, c, rfl, rfl, fun j u hu => by cases hu⟩
theorem TextsAt.back {w : World} {a : Addr} {n cp : Nat} {ts : List (List UInt8)} (h : TextsAt w (.slice (some a) n cp) ts) (k c : Nat) (hk : k ≤ n) : Reads w (.slice (some (a.add k)) (n - k) c) (n - k) 1 (strs (ts.drop k)) := by
  obtain ⟨A', cp', e, h2, h3, h4, h5⟩ := h
  injection e with e1 e2 e3
  subst e1; subst e3; subst e2
  refine .inr ⟨_, _, rfl, by simp [strs], fun j u hu => ?_⟩
  have hj : k + j < ts.length := by
    have := (List.getElem?_eq_some_iff.1 hu).1
    simp [strs] at this
    omega
  obtain ⟨b, o, e, _, hc⟩ := h5 (by omega)
  injection e with e
  subst e
  rw [strs_drop, List.getElem?_drop, strs_get ts _ hj] at hu
  injection hu with hu
  rw [← hu]
  simp only [Addr.add_lit]
  rw [Nat.add_assoc]
  exact hc _ hj
theorem TextsAt.backR {w : World} {A : Option Addr} {n cp : Nat} {ts : List (List UInt8)} (h : TextsAt w (.slice A n cp) ts) (k : Nat) (hk : k ≤ n) : Reads w (.slice (if cp = k then A else Option.map (fun x => x.add k) A) (n - k) (cp - k)) (n - k) 1 (strs (ts.drop k)) := by
  have hh := h
  obtain ⟨A', cp', e, h2, h3, h4, h5⟩ := h
  injection e with e1 e2 e3
  subst e1; subst e3
  cases A with
  | none =>
    obtain ⟨h6, h7⟩ := h4 rfl
    subst h6
    obtain rfl : n = 0 := by simpa using e2
    obtain rfl : k = 0 := by omega
    subst h7
    exact .inl ⟨by simp, rfl, by simp [strs]⟩
  | some a =>
    split
    · rename_i hc
      have hd : ts.drop k = [] := List.drop_eq_nil_of_le (by omega)
      rw [hd]
      exact reads_noneP _ _ _ _ (by omega)
    · exact TextsAt.back hh k (cp - k) hk
theorem TextsAt.cap {w : World} {A : Option Addr} {n cp : Nat} {ts : List (List UInt8)} (h : TextsAt w (.slice A n cp) ts) : n ≤ cp ∧ ts.length = n ∧ cp ≤ maxLen := by
  obtain ⟨A', cp', e, h2, h3, h4, h5⟩ := h
  injection e with e1 e2 e3
  subst e3
  exact ⟨by omega, e2.symm, h3⟩
theorem reads_one {w : World} {g : Nat} {T : TypeId} {t : List UInt8} (h : w.heap[g]? = some (.cells #[.string ⟨t.toArray⟩] T (0, 0))) : Reads w (.slice (some ⟨g, 0, none⟩) 1 1) 1 1 (strs [t]) := by
  refine .inr ⟨⟨g, 0, none⟩, 1, rfl, rfl, fun j u hu => ?_⟩
  have hj : j = 0 := by
    have := (List.getElem?_eq_some_iff.1 hu).1
    simp [strs] at this
    omega
  subst hj
  simp [strs] at hu
  rw [← hu]
  simp only [Addr.add_lit]
  rw [blk_cell h]
  rfl

end Go.Proofs.Ytienlhnbmobinaa
