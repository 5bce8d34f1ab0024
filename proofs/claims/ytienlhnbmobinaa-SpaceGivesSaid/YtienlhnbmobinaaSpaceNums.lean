/- slices of uint32 that can be read -/
import Derived.Test.YtienlhnbmobinaaRows
import Derived.Test.YtienlhnbmobinaaPlains
import Derived.Test.YtienlhnbmobinaaBase
import Derived.Test.YtienlhnbmobinaaTextsP
import Derived.WalkKit
import Derived.WalkLawsBesides
import Derived.WalkSpells
import Derived.LoopTactic
import Derived.WalkMore
import Derived.LoopN
import Derived.Laws.BitsAllLaws
import Derived.Laws.IdiomStrings
import Derived.BigQuiet
import Derived.Deep.QuietTactic
import Derived.Deep.DeepCutAuto
import Derived.Deep.RegionHeld3
import Derived.Deep.DrawnRows
import Derived.Lib.Hide
import Derived.Outline
import Derived.Deep.DeepMust
import Derived.Handy
namespace Go.Proofs.Ytienlhnbmobinaa
open Go.RowKit
set_option linter.unusedVariables false
set_option linter.unusedSimpArgs false

def n32 (ts : List Nat) : List Value := ts.map fun (t : Nat) => .int .u32 (t : Int)
theorem n32_append (a b : List Nat) : n32 (a ++ b) = n32 a ++ n32 b := by simp [n32]
theorem n32_oneCell (ts : List Nat) : ∀ u ∈ n32 ts, u.oneCell' = true := by
  intro u hu
  obtain ⟨t, _, rfl⟩ := List.mem_map.1 hu
  rfl
theorem num_one32 (w : World) (x : Nat) : Reads (w.alloc (.cells #[.int .u32 (x : Int)] 22)) (.slice (some ⟨w.heap.size, 0, none⟩) 1 1) 1 1 [.int .u32 (x : Int)] :=
  .inr ⟨_, 1, rfl, rfl, one_new _ _ _⟩
theorem Try.infoU32 : (Try.prog.info? 22).map (fun i => (i.zero, i.size, i.bytes)) = some (some (.int .u32 0), 1, 4) := by kernel_rfl
/-- A slice of numbers that can be read. -/
def N32At (w : World) (sv : Value) (xs : List Nat) : Prop :=
  ∃ A cp, sv = .slice A xs.length cp ∧ xs.length ≤ cp ∧ cp ≤ maxLen ∧ (A = none → xs = [] ∧ cp = 0) ∧ (0 < xs.length → ∃ b o, A = some ⟨b, o, none⟩ ∧ b < w.heap.size ∧ ∀ j (h : j < xs.length), w.cell? ⟨b, o + j, none⟩ = some (.int .u32 (xs[j] : Nat)))
theorem N32At.below {w w' : World} {sv : Value} {xs : List Nat} (h : N32At w sv xs) (hb : Below w.heap.size w w') : N32At w' sv xs := by
  obtain ⟨A, cp, h1, h2, h3, h4, h5⟩ := h
  refine ⟨A, cp, h1, h2, h3, h4, fun h0 => ?_⟩
  obtain ⟨b, o, h6, h7, h8⟩ := h5 h0
  exact ⟨b, o, h6, Nat.lt_of_lt_of_le h7 hb.size, fun j hj => keep_cell hb (h8 j hj)⟩
theorem n32_length (xs : List Nat) : (n32 xs).length = xs.length := by simp [n32]
theorem n32_get (xs : List Nat) (j : Nat) (h : j < xs.length) : (n32 xs)[j]? = some (.int .u32 (xs[j] : Nat)) := by
  unfold n32
  rw [List.getElem?_map, List.getElem?_eq_getElem h]
  rfl
theorem n32_own {w : World} {base n : Nat} {v : Value} {xs : List Nat} (h : w.ownsRow base 22 1 v n (n32 xs)) : N32At w v xs ∧ xs.length = n := by
  have hl : xs.length = n := by have := h.1; simpa [n32] using this
  refine ⟨?_, hl⟩
  subst hl
  rcases h.2 with ⟨rfl, h0⟩ | ⟨g, cap, cur, rfl, hb, hg, h1, h2, _⟩
  · exact ⟨none, 0, by rw [h0], by omega, Nat.zero_le _, fun _ => ⟨List.eq_nil_of_length_eq_zero h0, rfl⟩, fun h => by omega⟩
  · refine ⟨_, cap, rfl, h1, h2, fun h => by (cases h), fun _ => ⟨g, 0, rfl, blk_lt hg, fun j hj => ?_⟩⟩
    rw [Nat.zero_add]
    exact own_cell h j _ (n32_get xs j hj)
theorem N32At.reads {w : World} {sv : Value} {xs : List Nat} (h : N32At w sv xs) : Reads w sv xs.length 1 (n32 xs) := by
  obtain ⟨A, cp, rfl, h2, h3, h4, h5⟩ := h
  rcases Nat.eq_zero_or_pos xs.length with h0 | h0
  · obtain rfl := List.eq_nil_of_length_eq_zero h0
    cases A with
    | none => obtain ⟨_, rfl⟩ := h4 rfl; exact .inl ⟨rfl, rfl, rfl⟩
    | some a => exact .inr ⟨a, cp, rfl, rfl, fun j u hu => by simp [n32] at hu⟩
  · obtain ⟨b, o, rfl, _, hc⟩ := h5 h0
    refine .inr ⟨_, cp, rfl, by simp [n32], fun j u hu => ?_⟩
    have hj : j < xs.length := by
      have := (List.getElem?_eq_some_iff.1 hu).1
      simpa [n32] using this
    rw [n32_get xs j hj] at hu
    injection hu with hu
    rw [← hu, Addr.add_lit]
    exact hc j hj
theorem own_chan_ne {w : World} {base n size : Nat} {e : TypeId} {v : Value} {xs : List Value} {c room s rc : Nat} {buf : Array Value} {cl tm : Bool} (h : w.ownsRow base e size v n xs) (hc : w.heap[c]? = some (.chan room buf cl s rc tm)) : ∀ k, v.ownBlock = some k → k ≠ c := by
  intro k hk e
  subst e
  rcases h.2 with ⟨rfl, _⟩ | ⟨g, cap, cur, rfl, _, hg, _⟩
  · cases hk
  · simp [Value.ownBlock] at hk
    subst hk
    rw [hc] at hg
    cases hg
theorem N32At.zero {w : World} {sv : Value} {xs : List Nat} (h : N32At w sv xs) : ∃ A cp, sv = .slice A xs.length cp ∧ xs.length ≤ cp ∧ cp ≤ maxLen := by
  obtain ⟨A, cp, h1, h2, h3, _⟩ := h
  exact ⟨A, cp, h1, h2, h3⟩

end Go.Proofs.Ytienlhnbmobinaa
