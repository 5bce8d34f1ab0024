/- What the reference's Decode of undo records takes, in plain words -/
import Derived.Test.YtahaikfijegknaaRows
import Derived.Test.YtahaikfijegknaaUndoDecPlain
import Derived.Test.YtahaikfijegknaaRefDecPlain
import Derived.WalkKit
import Derived.WalkLawsBesides
import Derived.WalkSpells
import Derived.LoopTactic
import Derived.WalkMore
import Derived.LoopN
import Derived.Laws.BitsAllLaws
import Derived.Laws.IdiomStrings
import Derived.BigQuiet
import Derived.Deep.QuietTactic
import Derived.Deep.DeepCutAuto
import Derived.Deep.RegionHeld3
import Derived.Deep.DrawnRows
import Derived.Lib.Hide
import Derived.Outline
import Derived.Deep.DeepMust
import Derived.Handy
namespace Go.Proofs.Ytahaikfijegknaa
open Go.RowKit
set_option linter.unusedVariables false
set_option linter.unusedSimpArgs false

theorem decV_w {l : List UInt8} (h : rdNum l 0 1 = 2) :
    decV (l.drop 15) = .tuple #[.agg #[.string (wK l), .bool (wM l), .int .u64 (wT l), .int .u32 (wP l), .int .u16 (wS l), .string (wV l), .int .i64 (wD l)], .int .i64 (if decOk (l.drop 15) then 0 else 7)] ∧ uK l = wK l := by
  have hu : uHas l = decOk (l.drop 15) := by unfold uHas; rw [decide_eq_true h, Bool.true_and]
  unfold decV uK wK wM wT wP wS wV wD
  rw [hu, if_pos h]
  cases decOk (l.drop 15)
  · exact ⟨rfl, rfl⟩
  · exact ⟨rfl, rfl⟩

theorem decUV_eq {l : List UInt8} (h15 : 15 ≤ l.length) :
    decUV l = if mayUndo (rdNum l 0 1) (rdNum l 1 8) (rdNum l 9 4) (rdNum l 13 2) (uK l) (wK l) (wM l) (wT l) (wP l) (wS l) (wV l) (wD l) then .tuple #[.agg #[.int .u8 (rdNum l 0 1), .int .u64 (rdNum l 1 8), .int .u32 (rdNum l 9 4), .int .u16 (rdNum l 13 2), .string (uK l), .string (wK l), .bool (wM l), .int .u64 (wT l), .int .u32 (wP l), .int .u16 (wS l), .string (wV l), .int .i64 (wD l)], .int .i64 0] else zUV := by
  unfold decUV decUOk
  rw [decide_eq_true h15, Bool.true_and]

theorem wnew {l : List UInt8} (h : rdNum l 0 1 ≠ 2) : uK l = ⟨(l.drop 15).toArray⟩ ∧ wK l = ⟨#[]⟩ ∧ wM l = false ∧ wT l = 0 ∧ wP l = 0 ∧ wS l = 0 ∧ wV l = ⟨#[]⟩ ∧ wD l = 0 := by
  have hu : uHas l = false := by unfold uHas; rw [decide_eq_false h, Bool.false_and]
  unfold uK wK wM wT wP wS wV wD
  rw [hu, if_neg h]
  exact ⟨rfl, rfl, rfl, rfl, rfl, rfl, rfl, rfl⟩

theorem head15 {l : List UInt8} (h15 : 15 ≤ l.length) (r : List UInt8) (hr : r = l.drop 15) :
    be 1 (rdNum l 0 1) ++ (be 8 (rdNum l 1 8) ++ (be 4 (rdNum l 9 4) ++ (be 2 (rdNum l 13 2) ++ r))) = l := by
  rw [be_rd (l := l) (i := 0) (k := 1) (by omega), be_rd (l := l) (i := 1) (k := 8) (by omega), be_rd (l := l) (i := 9) (k := 4) (by omega), be_rd (l := l) (i := 13) (k := 2) (by omega), hr,
    ← cut_one (l := l) 13 2, ← cut_one (l := l) 9 4, ← cut_one (l := l) 1 8, ← cut_one (l := l) 0 1]
  rfl

theorem mayUndo_kind {kd x pg sl : Nat} {y k : ByteArray} {m : Bool} {t p s : Nat} {v : ByteArray} {d : Int} (h : mayUndo kd x pg sl y k m t p s v d = true) :
    UHead x pg sl y.size ∧ ((kd = 1 ∧ zRow k m t p s v d = true) ∨ (kd = 2 ∧ k.toList = y.toList ∧ mayRow k.size v.size p s d = true)) := by
  unfold mayUndo at h
  simp only [Bool.and_eq_true, decide_eq_true_eq] at h
  refine ⟨h.1, ?_⟩
  by_cases hk : kd = 1
  · rw [if_pos hk] at h
    exact .inl ⟨hk, h.2⟩
  · rw [if_neg hk] at h
    simp only [Bool.and_eq_true, decide_eq_true_eq, beq_iff_eq] at h
    exact .inr ⟨h.2.1, h.2.2.1, h.2.2.2⟩

theorem decOk_enc {l : List UInt8} (h : decOk l = true) : decEnc l = l := by
  unfold decOk at h
  simp only [Bool.and_eq_true, beq_iff_eq] at h
  exact h.2.2

/-- What is read is written as itself. -/
theorem encU_back {l : List UInt8} (h : decUOk l = true) :
    encUndo (rdNum l 0 1) (rdNum l 1 8) (rdNum l 9 4) (rdNum l 13 2) (uK l).data.toList (wK l).data.toList (wM l) (wT l) (wP l) (wS l) (wV l).data.toList (wD l) = l := by
  unfold decUOk at h
  simp only [Bool.and_eq_true, decide_eq_true_eq] at h
  obtain ⟨h15, hm⟩ := h
  have hk := mayUndo_kind hm
  unfold encUndo
  refine head15 h15 _ ?_
  by_cases h1 : rdNum l 0 1 = 1
  · rw [if_pos h1, (wnew (by omega)).1]
  · have h2 : rdNum l 0 1 = 2 := by rcases hk.2 with ⟨a, _⟩ | ⟨a, _⟩ <;> omega
    rw [if_neg h1]
    have ho : decOk (l.drop 15) = true := by
      rw [← Bool.not_eq_false]
      intro hf
      have : uK l = ⟨#[]⟩ := by unfold uK; rw [if_pos h2, hf]; rfl
      rw [this, mayUndo_nokey] at hm
      cases hm
    have hu : uHas l = true := by unfold uHas; rw [decide_eq_true h2, ho]; rfl
    have hb := decOk_enc ho
    unfold decEnc at hb
    unfold wK wM wT wP wS wV wD
    rw [hu]
    exact hb

theorem decUOk_len {l : List UInt8} (h : decUOk l = true) : l.length ≤ 400 := by
  have hb := encU_back h
  unfold decUOk at h
  simp only [Bool.and_eq_true, decide_eq_true_eq] at h
  obtain ⟨h15, hm⟩ := h
  obtain ⟨hh, hk⟩ := mayUndo_kind hm
  unfold UHead at hh
  rw [← hb]
  unfold encUndo
  by_cases h1 : rdNum l 0 1 = 1
  · rw [if_pos h1]
    simp [be_length]
    omega
  · rw [if_neg h1]
    rcases hk with ⟨a, _⟩ | ⟨_, _, a⟩
    · omega
    · have := mayRow_iff.1 a
      unfold encRow
      simp [be_length]
      omega

theorem decUV_long {l : List UInt8} (h : 400 < l.length) : decUV l = zUV := by
  have : decUOk l = false := by
    rw [← Bool.not_eq_true]
    intro ht
    have := decUOk_len ht
    omega
  unfold decUV
  rw [this]
  rfl

theorem rd_first (s : ByteArray) (h : 0 < s.size) : (s[0].toNat : Int) = (rdNum s.data.toList 0 1 : Int) := by
  have hl : s.data.toList.length = s.size := by simp
  rw [rdNum_in (by omega)]
  obtain ⟨a⟩ := s
  obtain ⟨l⟩ := a
  cases l with
  | nil => exact absurd h (by decide)
  | cons c r => simp [un]; rfl

end Go.Proofs.Ytahaikfijegknaa
