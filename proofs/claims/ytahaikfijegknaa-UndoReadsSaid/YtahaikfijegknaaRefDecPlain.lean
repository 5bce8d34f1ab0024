/- Which bytes are a row's: the two ways of telling are one. -/
import Derived.Test.YtahaikfijegknaaRows
import Derived.Test.YtahaikfijegknaaRowBackPlain
import Derived.WalkKit
import Derived.WalkLawsBesides
import Derived.WalkSpells
import Derived.LoopTactic
import Derived.WalkMore
import Derived.LoopN
import Derived.Laws.BitsAllLaws
import Derived.Laws.IdiomStrings
import Derived.BigQuiet
import Derived.Deep.QuietTactic
import Derived.Deep.DeepCutAuto
import Derived.Deep.RegionHeld3
import Derived.Deep.DrawnRows
import Derived.Lib.Hide
import Derived.Outline
import Derived.Deep.DeepMust
import Derived.Handy
namespace Go.Proofs.Ytahaikfijegknaa
open Go.RowKit
set_option linter.unusedVariables false
set_option linter.unusedSimpArgs false

theorem cut_one {l : List UInt8} (i n : Nat) : l.drop i = (l.drop i).take n ++ l.drop (i + n) := by
  rw [← List.drop_drop, List.take_append_drop]

theorem rdNum_in {l : List UInt8} {i k : Nat} (h : i + k ≤ l.length) : rdNum l i k = un ((l.drop i).take k) := by unfold rdNum; rw [if_pos h]
theorem rdText_in {l : List UInt8} {i k : Nat} (h : i + k ≤ l.length) : rdText l i k = (l.drop i).take k := by unfold rdText; rw [if_pos h]
theorem piece_len {l : List UInt8} {i k : Nat} (h : i + k ≤ l.length) : ((l.drop i).take k).length = k := by simp; omega
theorem be_rd {l : List UInt8} {i k : Nat} (h : i + k ≤ l.length) : be k (rdNum l i k) = (l.drop i).take k := by rw [rdNum_in h, be_un k _ (piece_len h)]

/-- The bytes between a row's mark and its tail. -/
def dMid (l : List UInt8) : List UInt8 :=
  (l.drop 1).take 8 ++ ((l.drop 9).take 4 ++ ((l.drop 13).take 2 ++ ((l.drop 15).take 1 ++ ((l.drop 16).take (dKn l) ++ ((l.drop (16 + dKn l)).take 1 ++ (l.drop (16 + dKn l + 1)).take (dVn l))))))

theorem whole_row (l : List UInt8) : l = l.take 1 ++ (dMid l ++ l.drop (dE l)) := by
  have h0 := (List.take_append_drop 1 l).symm
  rw [cut_one 1 8, cut_one (1 + 8) 4, cut_one (1 + 8 + 4) 2, cut_one (1 + 8 + 4 + 2) 1, cut_one (1 + 8 + 4 + 2 + 1) (dKn l), cut_one (1 + 8 + 4 + 2 + 1 + dKn l) 1, cut_one (1 + 8 + 4 + 2 + 1 + dKn l + 1) (dVn l)] at h0
  unfold dMid dE dA
  simpa [List.append_assoc] using h0

theorem decEnc_eq (l : List UInt8) (h16 : 16 ≤ l.length) (hA : dA l + 1 ≤ l.length) (hE : dE l ≤ l.length) :
    decEnc l = [if decide (0 < rdNum l 0 1) then 1 else 0] ++ (dMid l ++ List.replicate (l.length - dE l) 0) := by
  have gA : dA l = 16 + dKn l := rfl
  have gE : dE l = dA l + 1 + dVn l := rfl
  have e1 : dK l = (l.drop 16).take (dKn l) := rdText_in (by omega)
  have e2 : dV l = (l.drop (16 + dKn l + 1)).take (dVn l) := by
    have : dA l + 1 = 16 + dKn l + 1 := rfl
    unfold dV
    rw [this]
    exact rdText_in (by omega)
  have e3 : (dK l).length = dKn l := by rw [e1]; exact piece_len (by omega)
  have e4 : (dV l).length = dVn l := by rw [e2]; exact piece_len (by omega)
  have e5 : be 1 (dKn l) = (l.drop 15).take 1 := be_rd (by omega)
  have e6 : be 1 (dVn l) = (l.drop (16 + dKn l)).take 1 := be_rd (by omega)
  have e7 : (dPad l).toNat = l.length - dE l := by unfold dPad; omega
  unfold decEnc encRow dMid
  rw [e3, e4, e5, e6, e7, ← e1, ← e2, be_rd (l := l) (i := 1) (k := 8) (by omega), be_rd (l := l) (i := 9) (k := 4) (by omega), be_rd (l := l) (i := 13) (k := 2) (by omega)]
  simp [List.append_assoc]

theorem mark_eq (l : List UInt8) (h1 : 1 ≤ l.length) : ([if decide (0 < rdNum l 0 1) then 1 else 0] = l.take 1) ↔ rdNum l 0 1 ≤ 1 := by
  match l, h1 with
  | c :: r, _ =>
    have : rdNum (c :: r) 0 1 = c.toNat := by
      rw [rdNum_in (by simp)]
      simp [un]
    rw [this]
    simp only [List.take_succ_cons, List.take_zero, List.cons.injEq, and_true]
    have hc := c.toNat_lt
    constructor
    · intro h
      rw [← h]
      split <;> decide
    · intro h
      rcases Nat.le_one_iff_eq_zero_or_eq_one.1 h with h0 | h0
      · obtain rfl : c = 0 := UInt8.toNat_inj.1 h0
        rfl
      · obtain rfl : c = 1 := UInt8.toNat_inj.1 h0
        rfl

theorem decOk_eq (l : List UInt8) (h16 : 16 ≤ l.length) (hA : dA l + 1 ≤ l.length) (hE : dE l ≤ l.length) :
    decOk l = (decMay l && (decide (rdNum l 0 1 ≤ 1) && decide (l.drop (dE l) = List.replicate (l.length - dE l) 0))) := by
  have hIs : dIs l = true := by
    unfold dIs rd4
    simp
    omega
  have hh : (decEnc l == l) = (decide (rdNum l 0 1 ≤ 1) && decide (l.drop (dE l) = List.replicate (l.length - dE l) 0)) := by
    have hmk := mark_eq l (by omega)
    rw [decEnc_eq l h16 hA hE, Bool.eq_iff_iff]
    generalize (if decide (0 < rdNum l 0 1) = true then (1 : UInt8) else 0) = M at hmk ⊢
    simp only [beq_iff_eq, Bool.and_eq_true, decide_eq_true_eq]
    rw [← hmk]
    constructor
    · intro h
      have h2 := whole_row l
      have h3 := h.trans h2
      obtain ⟨ha, hb⟩ := List.append_inj h3 (by simp; omega)
      exact ⟨ha, (List.append_cancel_left hb).symm⟩
    · rintro ⟨ha, hb⟩
      rw [ha, ← hb]
      exact (whole_row l).symm
  unfold decOk
  rw [hIs, hh, Bool.true_and]

theorem decOk_short (l : List UInt8) (h : ¬ (16 ≤ l.length ∧ dA l + 1 ≤ l.length ∧ dE l ≤ l.length)) : decOk l = false := by
  have hIs : dIs l = false := by
    rw [← Bool.not_eq_true]
    intro hh
    unfold dIs rd4 at hh
    simp at hh
    omega
  unfold decOk
  rw [hIs, Bool.false_and]

theorem decOk_mark (l : List UInt8) (h : 1 < rdNum l 0 1) : decOk l = false := by
  by_cases hh : 16 ≤ l.length ∧ dA l + 1 ≤ l.length ∧ dE l ≤ l.length
  · rw [decOk_eq l hh.1 hh.2.1 hh.2.2, decide_eq_false (by omega)]
    simp
  · exact decOk_short l hh

theorem decOk_tail (l : List UInt8) (i : Nat) (hi : dE l ≤ i) (hl : i < l.length) (hx : l[i] ≠ 0) : decOk l = false := by
  by_cases hh : 16 ≤ l.length ∧ dA l + 1 ≤ l.length ∧ dE l ≤ l.length
  · rw [decOk_eq l hh.1 hh.2.1 hh.2.2, decide_eq_false (p := l.drop (dE l) = _) ?_]
    · simp
    · intro h
      apply hx
      have h1 : (l.drop (dE l))[i - dE l]? = some l[i] := by
        rw [List.getElem?_drop, show dE l + (i - dE l) = i by omega, List.getElem?_eq_getElem hl]
      rw [h, List.getElem?_replicate] at h1
      split at h1
      · exact (Option.some.inj h1).symm
      · simp at h1
  · exact decOk_short l hh

/-- The bytes from E up to i are nothing but zeros. -/
def zerosTo (l : List UInt8) (e i : Nat) : Prop := ∀ j, e ≤ j → j < i → ∀ h : j < l.length, l[j] = 0
theorem zerosTo_step {l : List UInt8} {e i : Nat} (h : zerosTo l e i) (hl : i < l.length) (h0 : l[i] = 0) : zerosTo l e (i + 1) := by
  intro j hj hi hh
  by_cases hx : j = i
  · subst hx; exact h0
  · exact h j hj (by omega) hh
theorem zerosTo_all {l : List UInt8} {e : Nat} (h : zerosTo l e l.length) : l.drop e = List.replicate (l.length - e) 0 := by
  apply List.ext_getElem (by simp)
  intro n h1 h2
  rw [List.getElem_drop, List.getElem_replicate]
  have : n < l.length - e := by simpa using h1
  exact h (e + n) (by omega) (by omega) (by omega)

end Go.Proofs.Ytahaikfijegknaa
