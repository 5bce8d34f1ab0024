/- chapter 01: words, in lists -/
import Derived.Test.YtienlhnbmobinaaRows
import Derived.Test.YtienlhnbmobinaaWordWalks
import Derived.Test.YtienlhnbmobinaaPlains
import Derived.Test.YtienlhnbmobinaaBase
import Derived.WalkKit
import Derived.WalkLawsBesides
import Derived.WalkSpells
import Derived.LoopTactic
import Derived.WalkMore
import Derived.LoopN
import Derived.Laws.BitsAllLaws
import Derived.Laws.IdiomStrings
import Derived.BigQuiet
import Derived.Deep.QuietTactic
import Derived.Deep.DeepCutAuto
import Derived.Deep.RegionHeld3
import Derived.Deep.DrawnRows
import Derived.Lib.Hide
import Derived.Outline
import Derived.Deep.DeepMust
import Derived.Handy
namespace Go.Proofs.Ytienlhnbmobinaa
open Go.RowKit
set_option linter.unusedVariables false
set_option linter.unusedSimpArgs false

theorem cut_text (l : List UInt8) (a n : Nat) (h : a + n ≤ l.length) : (⟨l.toArray⟩ : ByteArray).extract a (a + n) = ⟨(rdText l a n).toArray⟩ := by
  unfold rdText
  rw [if_pos h]
  apply bytes_ext
  rw [ByteArray.data_extract]
  simp
theorem wCut (l : List UInt8) (a n : Nat) (w : World) (hs : l.length ≤ 1000000) (ha : a ≤ 2000000) (hn : n ≤ 2000000) :
    Calls Try.prog 108 #[.string ⟨l.toArray⟩, .int .i64 a, .int .i64 n] w fun e w' => e = .returned (.tuple #[.string ⟨(rdText l a n).toArray⟩, .bool (decide (a + n ≤ l.length))]) ∧ w = w' := by
  have hsz : (⟨l.toArray⟩ : ByteArray).size = l.length := by show l.toArray.size = l.length; simp
  by_cases h : a + n ≤ l.length
  · rw [decide_eq_true h, ← cut_text l a n h]
    exact cut_yes _ a n w (by unfold maxLen; omega) (by omega)
  · have : rdText l a n = [] := by unfold rdText; rw [if_neg h]
    rw [decide_eq_false h, this]
    exact cut_no _ a n w (by unfold maxLen; omega) (Or.inr (Or.inr (by omega))) (by omega) (by omega)
theorem rCut (l : List UInt8) (a n : Nat) (w : World) (hs : l.length ≤ 1000000) (ha : a ≤ 2000000) (hn : n ≤ 2000000) :
    Calls Try.prog 176 #[.string ⟨l.toArray⟩, .int .i64 a, .int .i64 n] w fun e w' => e = .returned (.tuple #[.string ⟨(rdText l a n).toArray⟩, .bool (decide (a + n ≤ l.length))]) ∧ w = w' := by
  have hsz : (⟨l.toArray⟩ : ByteArray).size = l.length := by show l.toArray.size = l.length; simp
  by_cases h : a + n ≤ l.length
  · rw [decide_eq_true h, ← cut_text l a n h]
    exact refCut_yes _ a n w (by unfold maxLen; omega) (by omega)
  · have : rdText l a n = [] := by unfold rdText; rw [if_neg h]
    rw [decide_eq_false h, this]
    exact refCut_no _ a n w (by unfold maxLen; omega) (Or.inr (Or.inr (by omega))) (by omega) (by omega)
theorem wGet (l : List UInt8) (a k : Nat) (w : World) (hs : l.length ≤ 1000000) (ha : a ≤ 2000000) (h1 : 1 ≤ k) (h8 : k ≤ 8) :
    Calls Try.prog 121 #[.string ⟨l.toArray⟩, .int .i64 a, .int .i64 k] w fun e w' => e = .returned (.tuple #[.int .u64 (rdNum l a k), .bool (decide (a + k ≤ l.length))]) ∧ Below w.heap.size w w' := by
  have hsz : (⟨l.toArray⟩ : ByteArray).size = l.length := by show l.toArray.size = l.length; simp
  by_cases h : a + k ≤ l.length
  · have hn : rdNum l a k = un ((l.drop a).take k) := by unfold rdNum; rw [if_pos h]
    rw [decide_eq_true h, hn]
    exact get_yes ⟨l.toArray⟩ a k w (by unfold maxLen; omega) (by omega) h1 h8
  · have hn : rdNum l a k = 0 := by unfold rdNum; rw [if_neg h]
    rw [decide_eq_false h, hn]
    exact (get_no ⟨l.toArray⟩ a k w (by unfold maxLen; omega) (Or.inr (Or.inr (by omega))) (by omega) (by omega)).mono fun _ _ ⟨h1, h2⟩ => ⟨h1, h2 ▸ Below.refl _ _⟩
theorem rGet (l : List UInt8) (a k : Nat) (w : World) (hs : l.length ≤ 1000000) (ha : a ≤ 2000000) (h1 : 1 ≤ k) (h8 : k ≤ 8) :
    Calls Try.prog 112 #[.string ⟨l.toArray⟩, .int .i64 a, .int .i64 k] w fun e w' => e = .returned (.tuple #[.int .u64 (rdNum l a k), .bool (decide (a + k ≤ l.length))]) ∧ w = w' := by
  have hsz : (⟨l.toArray⟩ : ByteArray).size = l.length := by show l.toArray.size = l.length; simp
  by_cases h : a + k ≤ l.length
  · have hn : rdNum l a k = un ((l.drop a).take k) := by unfold rdNum; rw [if_pos h]
    rw [decide_eq_true h, hn]
    exact refGet_yes ⟨l.toArray⟩ a k w (by unfold maxLen; omega) (by omega) h1 h8
  · have hn : rdNum l a k = 0 := by unfold rdNum; rw [if_neg h]
    rw [decide_eq_false h, hn]
    exact refGet_no ⟨l.toArray⟩ a k w (by unfold maxLen; omega) (Or.inr (Or.inr (by omega))) (by omega) (by omega)
theorem put_no1 (n : Nat) (w : World) (hn : 256 ≤ n) (h64 : n < 256 ^ 8) :
    Calls Try.prog 118 #[.int .u64 n, .int .i64 1] w fun e w' => e = .returned (.tuple #[.string ⟨#[]⟩, .bool false]) ∧ w = w' := by
  simp only [Nat.reducePow] at h64
  have hx : ((n : Int) / 256 != 0) = true := by simp; omega
  go_enter Try.func118, Try.ntmps118
  go_wp2_with fail
  go_ret2
  exact ⟨rfl, rfl⟩
theorem put_no2 (n : Nat) (w : World) (hn : 65536 ≤ n) (h64 : n < 256 ^ 8) :
    Calls Try.prog 118 #[.int .u64 n, .int .i64 2] w fun e w' => e = .returned (.tuple #[.string ⟨#[]⟩, .bool false]) ∧ w = w' := by
  simp only [Nat.reducePow] at h64
  have hx : ((n : Int) / 65536 != 0) = true := by simp; omega
  go_enter Try.func118, Try.ntmps118
  go_wp2_with fail
  go_ret2
  exact ⟨rfl, rfl⟩
/-- A number's bytes; none, if it has more. -/
def putN (k n : Nat) : List UInt8 := if n < 256 ^ k then be k n else []
theorem wPut1 (n : Nat) (w : World) (h64 : n < 256 ^ 8) :
    Calls Try.prog 118 #[.int .u64 n, .int .i64 1] w fun e w' => e = .returned (.tuple #[.string ⟨(putN 1 n).toArray⟩, .bool (decide (n < 256))]) ∧ Below w.heap.size w w' := by
  unfold putN
  by_cases h : n < 256
  · rw [decide_eq_true h, if_pos (by simpa using h)]
    exact put_1 n w (by simpa using h)
  · rw [decide_eq_false h, if_neg (by simpa using h)]
    exact (put_no1 n w (by omega) h64).mono fun _ _ ⟨h1, h2⟩ => ⟨h1, h2 ▸ Below.refl _ _⟩
theorem wPut2 (n : Nat) (w : World) (h64 : n < 256 ^ 8) :
    Calls Try.prog 118 #[.int .u64 n, .int .i64 2] w fun e w' => e = .returned (.tuple #[.string ⟨(putN 2 n).toArray⟩, .bool (decide (n < 65536))]) ∧ Below w.heap.size w w' := by
  unfold putN
  by_cases h : n < 65536
  · rw [decide_eq_true h, if_pos (by simpa using h)]
    exact put_2 n w (by simpa using h)
  · rw [decide_eq_false h, if_neg (by simpa using h)]
    exact (put_no2 n w (by omega) h64).mono fun _ _ ⟨h1, h2⟩ => ⟨h1, h2 ▸ Below.refl _ _⟩

end Go.Proofs.Ytienlhnbmobinaa
