/- ref11: get.one -/
import Derived.Test.YtienlhnbmobinaaRows
import Derived.Test.YtienlhnbmobinaaRefGet
import Derived.Test.YtienlhnbmobinaaRefOnly
import Derived.Test.YtienlhnbmobinaaOpWrite
import Derived.Test.YtienlhnbmobinaaOpRead
import Derived.Test.YtienlhnbmobinaaOpNum
import Derived.Test.YtienlhnbmobinaaOpPlain
import Derived.Test.YtienlhnbmobinaaOpPart
import Derived.Test.YtienlhnbmobinaaOpWord
import Derived.Test.YtienlhnbmobinaaOpSame
import Derived.Test.YtienlhnbmobinaaOpLaw
import Derived.Test.YtienlhnbmobinaaOpIn
import Derived.Test.YtienlhnbmobinaaTextsMove
import Derived.Test.YtienlhnbmobinaaTextsP
import Derived.Test.YtienlhnbmobinaaPlains
import Derived.Test.YtienlhnbmobinaaBase
import Derived.WalkKit
import Derived.WalkLawsBesides
import Derived.WalkSpells
import Derived.LoopTactic
import Derived.WalkMore
import Derived.LoopN
import Derived.Laws.BitsAllLaws
import Derived.Laws.IdiomStrings
import Derived.BigQuiet
import Derived.Deep.QuietTactic
import Derived.Deep.DeepCutAuto
import Derived.Deep.RegionHeld3
import Derived.Deep.DrawnRows
import Derived.Lib.Hide
import Derived.Outline
import Derived.Deep.DeepMust
import Derived.Handy
namespace Go.Proofs.Ytienlhnbmobinaa
open Go.RowKit
set_option linter.unusedVariables false
set_option linter.unusedSimpArgs false

def Gd.rows : Nat → Gd → List (List UInt8) × Gd
  | 0, g => ([], g)
  | k + 1, g => if g.bad = true then ([], g) else (g.text.1 :: (Gd.rows k g.text.2).1, (Gd.rows k g.text.2).2)
def Gd.parts (k pg : Nat) (g : Gd) : Od × Gd :=
  match k with
  | 1 => (⟨k, pg, 0, 0, [], [], (g.num 1).1, ((g.num 1).2.num 1).1, (((g.num 1).2.num 1).2.num 4).1⟩, (((g.num 1).2.num 1).2.num 4).2)
  | 2 => (⟨k, pg, (g.num 2).1, 0, (g.num 2).2.text.1, [], 0, 0, 0⟩, (g.num 2).2.text.2)
  | 3 => (⟨k, pg, (g.num 2).1, 0, (g.num 2).2.text.1, [], 0, 0, 0⟩, (g.num 2).2.text.2)
  | 4 => (⟨k, pg, (g.num 2).1, 0, [], [], 0, 0, 0⟩, (g.num 2).2)
  | 5 => (⟨k, pg, (g.num 2).1, 0, [], [], 0, 0, 0⟩, (g.num 2).2)
  | 6 => (⟨k, pg, 0, 0, [], (Gd.rows (g.num 2).1 (g.num 2).2).1, 0, 0, 0⟩, (Gd.rows (g.num 2).1 (g.num 2).2).2)
  | 7 => (⟨k, pg, 0, 0, [], [], 0, 0, (g.num 4).1⟩, (g.num 4).2)
  | 8 => (⟨k, pg, (g.num 2).1, ((g.num 2).2.num 2).1, ((g.num 2).2.num 2).2.text.1, [], 0, 0, 0⟩, ((g.num 2).2.num 2).2.text.2)
  | _ => (⟨k, pg, 0, 0, [], [], 0, 0, 0⟩, g)
def Gd.one (g : Gd) : Od × Gd := Gd.parts (g.num 1).1 ((g.num 1).2.num 4).1 ((g.num 1).2.num 4).2
theorem parts_else (k pg : Nat) (g : Gd) (h : ¬ (1 ≤ k ∧ k ≤ 8)) : Gd.parts k pg g = (⟨k, pg, 0, 0, [], [], 0, 0, 0⟩, g) := by
  unfold Gd.parts
  split <;> first | rfl | (exfalso; omega)
theorem num_to {g : Gd} {k n : Nat} {c : Gd} (h : (n, c) = g.num k) (hk : k = 1 ∨ k = 2 ∨ k = 4) : n < 256 ^ k ∧ c.at_ = g.at_ + k ∧ c.s = g.s := by
  have := num_bounds g k hk
  rw [← h] at this
  exact this
theorem text_to {g : Gd} {t : List UInt8} {c : Gd} (h : (t, c) = g.text) : c.at_ ≤ g.at_ + 65537 ∧ c.s = g.s ∧ t.length ≤ 65535 ∧ (c.bad = false → c.at_ ≤ c.s.length) := by
  have hb := num_bounds g 2 (by omega)
  simp only [Nat.reducePow] at hb
  unfold Gd.text at h
  split at h
  · rename_i hc
    rw [Bool.and_eq_true, decide_eq_true_eq] at hc
    simp only [Prod.mk.injEq] at h
    obtain ⟨rfl, rfl⟩ := h
    refine ⟨by show _ + _ ≤ _; omega, rfl, ?_, fun _ => hc.1⟩
    unfold rdText
    split
    · rw [List.length_take]; omega
    · simp
  · simp only [Prod.mk.injEq] at h
    obtain ⟨rfl, rfl⟩ := h
    exact ⟨by show _ + _ ≤ _; omega, rfl, by simp, fun h => by cases h⟩
theorem oat_set {w : World} {g i : Nat} {o o' : Od} {sv sv' V : Value} (h : OAt w g o sv) (he : (#[.int .u8 o.kind, .int .u32 o.page, .int .i64 o.at_, .int .i64 o.off, .string ⟨o.text.toArray⟩, sv, .int .u8 o.pk, .int .u8 o.lv, .int .u32 o.nx] : Array Value).setIfInBounds i V = #[.int .u8 o'.kind, .int .u32 o'.page, .int .i64 o'.at_, .int .i64 o'.off, .string ⟨o'.text.toArray⟩, sv', .int .u8 o'.pk, .int .u8 o'.lv, .int .u32 o'.nx]) : OAt (w.setCell ⟨g, i, none⟩ V) g o' sv' := by
  unfold OAt at *
  have h1 := blk_set h i V
  rwa [he] at h1
theorem num_okk {g : Gd} {k n : Nat} {c : Gd} (h : (n, c) = g.num k) : c.bad = false → c.at_ ≤ c.s.length := by
  unfold Gd.num at h
  split at h
  · rename_i hc
    rw [Bool.and_eq_true, decide_eq_true_eq] at hc
    simp only [Prod.mk.injEq] at h
    rw [h.2]
    exact fun _ => hc.1
  · simp only [Prod.mk.injEq] at h
    rw [h.2]
    intro h; cases h
end Go.Proofs.Ytienlhnbmobinaa
