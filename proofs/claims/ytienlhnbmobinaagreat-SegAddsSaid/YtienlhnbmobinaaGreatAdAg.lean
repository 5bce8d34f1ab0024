/- Kept of our texts for this claim: EntA RefDecode Alive07 -/
import Derived.Test.YtienlhnbmobinaaGreatRows
import Derived.Test.YtienlhnbmobinaaGreatAdAe
import Derived.Test.YtienlhnbmobinaaGreatAdAa
import Derived.WalkKit
import Derived.WalkLawsBesides
import Derived.WalkSpells
import Derived.LoopTactic
import Derived.WalkMore
import Derived.LoopN
import Derived.Laws.BitsAllLaws
import Derived.Laws.IdiomStrings
import Derived.BigQuiet
import Derived.Deep.QuietTactic
import Derived.Deep.DeepCutAuto
import Derived.Deep.RegionHeld3
import Derived.Deep.DrawnRows
import Derived.Lib.Hide
import Derived.Outline
import Derived.Deep.DeepMust
import Derived.Handy
import Derived.Test.YtienlhnbmobinaaGreatAdAf
import Derived.Test.YtienlhnbmobinaaGreatAdAb
import Derived.Test.YtienlhnbmobinaaGreatAdAc
section
/- The contracts of row.EncodeEntry and of the document's answer for it.; The contract of row.DecodeEntry: which entry bytes are, in plain words.; The contract of the document's answer for which entry bytes are.; What is read of a row's bytes is the row; unlike rows have unlike bytes.; Which bytes are a row's: the two ways of telling are one.; The reference's Decode, where a number is missing or the mark is above one; What the reference's Decode has cut out is the row that the bytes are -/
namespace Go.Proofs.YtienlhnbmobinaaGreat
open Go.RowKit
set_option linter.unusedVariables false
set_option linter.unusedSimpArgs false
end Go.Proofs.YtienlhnbmobinaaGreat
namespace Go.Proofs.YtienlhnbmobinaaGreat
open Go.RowKit
set_option linter.unusedVariables false
set_option linter.unusedSimpArgs false
end Go.Proofs.YtienlhnbmobinaaGreat
namespace Go.Proofs.YtienlhnbmobinaaGreat
open Go.RowKit
set_option linter.unusedVariables false
set_option linter.unusedSimpArgs false
end Go.Proofs.YtienlhnbmobinaaGreat
namespace Go.Proofs.YtienlhnbmobinaaGreat
open Go.RowKit
set_option linter.unusedVariables false
set_option linter.unusedSimpArgs false
section
variable (k v : List UInt8) (m : Bool) (t p s d : Nat)
end
end Go.Proofs.YtienlhnbmobinaaGreat
namespace Go.Proofs.YtienlhnbmobinaaGreat
open Go.RowKit
set_option linter.unusedVariables false
set_option linter.unusedSimpArgs false
theorem cut_one {l : List UInt8} (i n : Nat) : l.drop i = (l.drop i).take n ++ l.drop (i + n) := by
  rw [← List.drop_drop, List.take_append_drop]
theorem rdNum_in {l : List UInt8} {i k : Nat} (h : i + k ≤ l.length) : rdNum l i k = un ((l.drop i).take k) := by unfold rdNum; rw [if_pos h]
theorem rdText_in {l : List UInt8} {i k : Nat} (h : i + k ≤ l.length) : rdText l i k = (l.drop i).take k := by unfold rdText; rw [if_pos h]
theorem piece_lenE {l : List UInt8} {i k : Nat} (h : i + k ≤ l.length) : ((l.drop i).take k).length = k := by simp; omega
theorem be_rd {l : List UInt8} {i k : Nat} (h : i + k ≤ l.length) : be k (rdNum l i k) = (l.drop i).take k := by rw [rdNum_in h, be_un k _ (piece_lenE h)]
/-- The bytes between a row's mark and its tail. -/
def dMid (l : List UInt8) : List UInt8 :=
  (l.drop 1).take 8 ++ ((l.drop 9).take 4 ++ ((l.drop 13).take 2 ++ ((l.drop 15).take 1 ++ ((l.drop 16).take (dKn l) ++ ((l.drop (16 + dKn l)).take 1 ++ (l.drop (16 + dKn l + 1)).take (dVn l))))))
theorem whole_row (l : List UInt8) : l = l.take 1 ++ (dMid l ++ l.drop (dE l)) := by
  have h0 := (List.take_append_drop 1 l).symm
  rw [cut_one 1 8, cut_one (1 + 8) 4, cut_one (1 + 8 + 4) 2, cut_one (1 + 8 + 4 + 2) 1, cut_one (1 + 8 + 4 + 2 + 1) (dKn l), cut_one (1 + 8 + 4 + 2 + 1 + dKn l) 1, cut_one (1 + 8 + 4 + 2 + 1 + dKn l + 1) (dVn l)] at h0
  unfold dMid dE dA
  simpa [List.append_assoc] using h0
theorem decEnc_eq (l : List UInt8) (h16 : 16 ≤ l.length) (hA : dA l + 1 ≤ l.length) (hE : dE l ≤ l.length) :
    decEnc l = [if decide (0 < rdNum l 0 1) then 1 else 0] ++ (dMid l ++ List.replicate (l.length - dE l) 0) := by
  have gA : dA l = 16 + dKn l := rfl
  have gE : dE l = dA l + 1 + dVn l := rfl
  have e1 : dK l = (l.drop 16).take (dKn l) := rdText_in (by omega)
  have e2 : dV l = (l.drop (16 + dKn l + 1)).take (dVn l) := by
    have : dA l + 1 = 16 + dKn l + 1 := rfl
    unfold dV
    rw [this]
    exact rdText_in (by omega)
  have e3 : (dK l).length = dKn l := by rw [e1]; exact piece_lenE (by omega)
  have e4 : (dV l).length = dVn l := by rw [e2]; exact piece_lenE (by omega)
  have e5 : be 1 (dKn l) = (l.drop 15).take 1 := be_rd (by omega)
  have e6 : be 1 (dVn l) = (l.drop (16 + dKn l)).take 1 := be_rd (by omega)
  have e7 : (dPad l).toNat = l.length - dE l := by unfold dPad; omega
  unfold decEnc encRow dMid
  rw [e3, e4, e5, e6, e7, ← e1, ← e2, be_rd (l := l) (i := 1) (k := 8) (by omega), be_rd (l := l) (i := 9) (k := 4) (by omega), be_rd (l := l) (i := 13) (k := 2) (by omega)]
  simp [List.append_assoc]
theorem mark_eq (l : List UInt8) (h1 : 1 ≤ l.length) : ([if decide (0 < rdNum l 0 1) then 1 else 0] = l.take 1) ↔ rdNum l 0 1 ≤ 1 := by
  match l, h1 with
  | c :: r, _ =>
    have : rdNum (c :: r) 0 1 = c.toNat := by
      rw [rdNum_in (by simp)]
      simp [un]
    rw [this]
    simp only [List.take_succ_cons, List.take_zero, List.cons.injEq, and_true]
    have hc := c.toNat_lt
    constructor
    · intro h
      rw [← h]
      split <;> decide
    · intro h
      rcases Nat.le_one_iff_eq_zero_or_eq_one.1 h with h0 | h0
      · obtain rfl : c = 0 := UInt8.toNat_inj.1 h0
        rfl
      · obtain rfl : c = 1 := UInt8.toNat_inj.1 h0
        rfl
theorem decOk_eq (l : List UInt8) (h16 : 16 ≤ l.length) (hA : dA l + 1 ≤ l.length) (hE : dE l ≤ l.length) :
    decOk l = (decMay l && (decide (rdNum l 0 1 ≤ 1) && decide (l.drop (dE l) = List.replicate (l.length - dE l) 0))) := by
  have hIs : dIs l = true := by
    unfold dIs rd4
    simp
    omega
  have hh : (decEnc l == l) = (decide (rdNum l 0 1 ≤ 1) && decide (l.drop (dE l) = List.replicate (l.length - dE l) 0)) := by
    have hmk := mark_eq l (by omega)
    rw [decEnc_eq l h16 hA hE, Bool.eq_iff_iff]
    generalize (if decide (0 < rdNum l 0 1) = true then (1 : UInt8) else 0) = M at hmk ⊢
    simp only [beq_iff_eq, Bool.and_eq_true, decide_eq_true_eq]
    rw [← hmk]
    constructor
    · intro h
      have h2 := whole_row l
      have h3 := h.trans h2
      obtain ⟨ha, hb⟩ := List.append_inj h3 (by simp; omega)
      exact ⟨ha, (List.append_cancel_left hb).symm⟩
    · rintro ⟨ha, hb⟩
      rw [ha, ← hb]
      exact (whole_row l).symm
  unfold decOk
  rw [hIs, hh, Bool.true_and]
theorem decOk_short (l : List UInt8) (h : ¬ (16 ≤ l.length ∧ dA l + 1 ≤ l.length ∧ dE l ≤ l.length)) : decOk l = false := by
  have hIs : dIs l = false := by
    rw [← Bool.not_eq_true]
    intro hh
    unfold dIs rd4 at hh
    simp at hh
    omega
  unfold decOk
  rw [hIs, Bool.false_and]
theorem decOk_mark (l : List UInt8) (h : 1 < rdNum l 0 1) : decOk l = false := by
  by_cases hh : 16 ≤ l.length ∧ dA l + 1 ≤ l.length ∧ dE l ≤ l.length
  · rw [decOk_eq l hh.1 hh.2.1 hh.2.2, decide_eq_false (by omega)]
    simp
  · exact decOk_short l hh
theorem decOk_tail (l : List UInt8) (i : Nat) (hi : dE l ≤ i) (hl : i < l.length) (hx : l[i] ≠ 0) : decOk l = false := by
  by_cases hh : 16 ≤ l.length ∧ dA l + 1 ≤ l.length ∧ dE l ≤ l.length
  · rw [decOk_eq l hh.1 hh.2.1 hh.2.2, decide_eq_false (p := l.drop (dE l) = _) ?_]
    · simp
    · intro h
      apply hx
      have h1 : (l.drop (dE l))[i - dE l]? = some l[i] := by
        rw [List.getElem?_drop, show dE l + (i - dE l) = i by omega, List.getElem?_eq_getElem hl]
      rw [h, List.getElem?_replicate] at h1
      split at h1
      · exact (Option.some.inj h1).symm
      · simp at h1
  · exact decOk_short l hh
/-- The bytes from E up to i are nothing but zeros. -/
def zerosTo (l : List UInt8) (e i : Nat) : Prop := ∀ j, e ≤ j → j < i → ∀ h : j < l.length, l[j] = 0
theorem zerosTo_step {l : List UInt8} {e i : Nat} (h : zerosTo l e i) (hl : i < l.length) (h0 : l[i] = 0) : zerosTo l e (i + 1) := by
  intro j hj hi hh
  by_cases hx : j = i
  · subst hx; exact h0
  · exact h j hj (by omega) hh
theorem zerosTo_all {l : List UInt8} {e : Nat} (h : zerosTo l e l.length) : l.drop e = List.replicate (l.length - e) 0 := by
  apply List.ext_getElem (by simp)
  intro n h1 h2
  rw [List.getElem_drop, List.getElem_replicate]
  have : n < l.length - e := by simpa using h1
  exact h (e + n) (by omega) (by omega) (by omega)
end Go.Proofs.YtienlhnbmobinaaGreat
namespace Go.Proofs.YtienlhnbmobinaaGreat
open Go.RowKit
set_option linter.unusedVariables false
set_option linter.unusedSimpArgs false
theorem refGet_any (s : ByteArray) (a k : Nat) (w : World) (hs : s.size ≤ 1000000) (ha : a ≤ 2000000) (h1 : 1 ≤ k) (h8 : k ≤ 8) :
    Calls Tryz.prog 81 #[.string s, .int .i64 a, .int .i64 k] w fun e w' => e = .returned (.tuple #[.int .u64 (rdNum s.data.toList a k), .bool (decide (a + k ≤ s.size))]) ∧ w = w' := by
  have hsm : s.size ≤ maxLen := by unfold maxLen; omega
  have hlen : s.data.toList.length = s.size := by simp
  by_cases h : a + k ≤ s.size
  · have hn : rdNum s.data.toList a k = un ((s.data.toList.drop a).take k) := by unfold rdNum; rw [if_pos (by rw [hlen]; exact h)]
    rw [hn, decide_eq_true h]
    exact refGet_yes s a k w hsm h h1 h8
  · have hn : rdNum s.data.toList a k = 0 := by unfold rdNum; rw [if_neg (by rw [hlen]; exact h)]
    rw [hn, decide_eq_false h]
    exact refGet_no s a k w hsm (Or.inr (Or.inr (by omega))) (by omega) (by omega)
theorem decV_bad {l : List UInt8} (h : decOk l = false) : decV l = .tuple #[.agg #[.string ⟨#[]⟩, .bool false, .int .u64 0, .int .u32 0, .int .u16 0, .string ⟨#[]⟩, .int .i64 0], .int .i64 7] := by unfold decV; rw [h]; rfl
set_option maxHeartbeats 2000000 in
set_option maxRecDepth 100000 in
theorem refDecode_chain (s : ByteArray) (n1 n2 n3 n4 n5 : Nat) (b1 b2 b3 b4 b5 : Bool) (w : World)
    (C1 : Hid (∀ W, Calls Tryz.prog 81 #[.string s, .int .i64 0, .int .i64 1] W fun e w' => e = .returned (.tuple #[.int .u64 n1, .bool b1]) ∧ W = w'))
    (C2 : Hid (∀ W, Calls Tryz.prog 81 #[.string s, .int .i64 1, .int .i64 8] W fun e w' => e = .returned (.tuple #[.int .u64 n2, .bool b2]) ∧ W = w'))
    (C3 : Hid (∀ W, Calls Tryz.prog 81 #[.string s, .int .i64 9, .int .i64 4] W fun e w' => e = .returned (.tuple #[.int .u64 n3, .bool b3]) ∧ W = w'))
    (C4 : Hid (∀ W, Calls Tryz.prog 81 #[.string s, .int .i64 13, .int .i64 2] W fun e w' => e = .returned (.tuple #[.int .u64 n4, .bool b4]) ∧ W = w'))
    (C5 : Hid (∀ W, Calls Tryz.prog 81 #[.string s, .int .i64 15, .int .i64 1] W fun e w' => e = .returned (.tuple #[.int .u64 n5, .bool b5]) ∧ W = w'))
    (hb : (b1 && (b2 && (b3 && (b4 && b5)))) = false) (HO : Hid (decOk s.data.toList = false)) :
    Calls Tryz.prog 51 #[.string s] w fun e w' => e = .returned (decV s.data.toList) ∧ Below w.heap.size w w' := by
  cases b1 with
  | false =>
    clear hb
    go_enter Tryz.func51, Tryz.ntmps51
    go_wp2_with fail
    refine (C1.out _).mono ?_
    rintro e w1 ⟨rfl, rfl⟩
    go_wp2_with fail
    refine (C2.out _).mono ?_
    rintro e w2 ⟨rfl, rfl⟩
    go_wp2_with fail
    refine (C3.out _).mono ?_
    rintro e w3 ⟨rfl, rfl⟩
    go_wp2_with fail
    refine (C4.out _).mono ?_
    rintro e w4 ⟨rfl, rfl⟩
    go_wp2_with fail
    refine (C5.out _).mono ?_
    rintro e w5 ⟨rfl, rfl⟩
    go_wp2_with fail
    refine bodyPost_ret (v := .tuple #[.agg #[.string ⟨#[]⟩, .bool false, .int .u64 0, .int .u32 0, .int .u16 0, .string ⟨#[]⟩, .int .i64 0], .int .i64 7]) (by simp [results, Tryz.results51, go_sem]) rfl ⟨?_, (Below.refl _ _).alloc (Nat.le_refl _) _⟩
    rw [decV_bad HO.out]
  | true =>
    cases b2 with
    | false =>
      clear hb
      go_enter Tryz.func51, Tryz.ntmps51
      go_wp2_with fail
      refine (C1.out _).mono ?_
      rintro e w1 ⟨rfl, rfl⟩
      go_wp2_with fail
      refine (C2.out _).mono ?_
      rintro e w2 ⟨rfl, rfl⟩
      go_wp2_with fail
      refine (C3.out _).mono ?_
      rintro e w3 ⟨rfl, rfl⟩
      go_wp2_with fail
      refine (C4.out _).mono ?_
      rintro e w4 ⟨rfl, rfl⟩
      go_wp2_with fail
      refine (C5.out _).mono ?_
      rintro e w5 ⟨rfl, rfl⟩
      go_wp2_with fail
      refine bodyPost_ret (v := .tuple #[.agg #[.string ⟨#[]⟩, .bool false, .int .u64 0, .int .u32 0, .int .u16 0, .string ⟨#[]⟩, .int .i64 0], .int .i64 7]) (by simp [results, Tryz.results51, go_sem]) rfl ⟨?_, (Below.refl _ _).alloc (Nat.le_refl _) _⟩
      rw [decV_bad HO.out]
    | true =>
      cases b3 with
      | false =>
        clear hb
        go_enter Tryz.func51, Tryz.ntmps51
        go_wp2_with fail
        refine (C1.out _).mono ?_
        rintro e w1 ⟨rfl, rfl⟩
        go_wp2_with fail
        refine (C2.out _).mono ?_
        rintro e w2 ⟨rfl, rfl⟩
        go_wp2_with fail
        refine (C3.out _).mono ?_
        rintro e w3 ⟨rfl, rfl⟩
        go_wp2_with fail
        refine (C4.out _).mono ?_
        rintro e w4 ⟨rfl, rfl⟩
        go_wp2_with fail
        refine (C5.out _).mono ?_
        rintro e w5 ⟨rfl, rfl⟩
        go_wp2_with fail
        refine bodyPost_ret (v := .tuple #[.agg #[.string ⟨#[]⟩, .bool false, .int .u64 0, .int .u32 0, .int .u16 0, .string ⟨#[]⟩, .int .i64 0], .int .i64 7]) (by simp [results, Tryz.results51, go_sem]) rfl ⟨?_, (Below.refl _ _).alloc (Nat.le_refl _) _⟩
        rw [decV_bad HO.out]
      | true =>
        cases b4 with
        | false =>
          clear hb
          go_enter Tryz.func51, Tryz.ntmps51
          go_wp2_with fail
          refine (C1.out _).mono ?_
          rintro e w1 ⟨rfl, rfl⟩
          go_wp2_with fail
          refine (C2.out _).mono ?_
          rintro e w2 ⟨rfl, rfl⟩
          go_wp2_with fail
          refine (C3.out _).mono ?_
          rintro e w3 ⟨rfl, rfl⟩
          go_wp2_with fail
          refine (C4.out _).mono ?_
          rintro e w4 ⟨rfl, rfl⟩
          go_wp2_with fail
          refine (C5.out _).mono ?_
          rintro e w5 ⟨rfl, rfl⟩
          go_wp2_with fail
          refine bodyPost_ret (v := .tuple #[.agg #[.string ⟨#[]⟩, .bool false, .int .u64 0, .int .u32 0, .int .u16 0, .string ⟨#[]⟩, .int .i64 0], .int .i64 7]) (by simp [results, Tryz.results51, go_sem]) rfl ⟨?_, (Below.refl _ _).alloc (Nat.le_refl _) _⟩
          rw [decV_bad HO.out]
        | true =>
          cases b5 with
          | false =>
            clear hb
            go_enter Tryz.func51, Tryz.ntmps51
            go_wp2_with fail
            refine (C1.out _).mono ?_
            rintro e w1 ⟨rfl, rfl⟩
            go_wp2_with fail
            refine (C2.out _).mono ?_
            rintro e w2 ⟨rfl, rfl⟩
            go_wp2_with fail
            refine (C3.out _).mono ?_
            rintro e w3 ⟨rfl, rfl⟩
            go_wp2_with fail
            refine (C4.out _).mono ?_
            rintro e w4 ⟨rfl, rfl⟩
            go_wp2_with fail
            refine (C5.out _).mono ?_
            rintro e w5 ⟨rfl, rfl⟩
            go_wp2_with fail
            refine bodyPost_ret (v := .tuple #[.agg #[.string ⟨#[]⟩, .bool false, .int .u64 0, .int .u32 0, .int .u16 0, .string ⟨#[]⟩, .int .i64 0], .int .i64 7]) (by simp [results, Tryz.results51, go_sem]) rfl ⟨?_, (Below.refl _ _).alloc (Nat.le_refl _) _⟩
            rw [decV_bad HO.out]
          | true =>
            simp at hb
set_option maxHeartbeats 2000000 in
set_option maxRecDepth 100000 in
theorem refDecode_mark (s : ByteArray) (n1 n2 n3 n4 n5 : Nat) (w : World)
    (C1 : Hid (∀ W, Calls Tryz.prog 81 #[.string s, .int .i64 0, .int .i64 1] W fun e w' => e = .returned (.tuple #[.int .u64 n1, .bool true]) ∧ W = w'))
    (C2 : Hid (∀ W, Calls Tryz.prog 81 #[.string s, .int .i64 1, .int .i64 8] W fun e w' => e = .returned (.tuple #[.int .u64 n2, .bool true]) ∧ W = w'))
    (C3 : Hid (∀ W, Calls Tryz.prog 81 #[.string s, .int .i64 9, .int .i64 4] W fun e w' => e = .returned (.tuple #[.int .u64 n3, .bool true]) ∧ W = w'))
    (C4 : Hid (∀ W, Calls Tryz.prog 81 #[.string s, .int .i64 13, .int .i64 2] W fun e w' => e = .returned (.tuple #[.int .u64 n4, .bool true]) ∧ W = w'))
    (C5 : Hid (∀ W, Calls Tryz.prog 81 #[.string s, .int .i64 15, .int .i64 1] W fun e w' => e = .returned (.tuple #[.int .u64 n5, .bool true]) ∧ W = w'))
    (hn : 1 < n1) (h1 : n1 < 18446744073709551616) (HO : Hid (decOk s.data.toList = false)) :
    Calls Tryz.prog 51 #[.string s] w fun e w' => e = .returned (decV s.data.toList) ∧ Below w.heap.size w w' := by
  go_enter Tryz.func51, Tryz.ntmps51
  go_wp2_with fail
  refine (C1.out _).mono ?_
  rintro e w1 ⟨rfl, rfl⟩
  go_wp2_with fail
  refine (C2.out _).mono ?_
  rintro e w2 ⟨rfl, rfl⟩
  go_wp2_with fail
  refine (C3.out _).mono ?_
  rintro e w3 ⟨rfl, rfl⟩
  go_wp2_with fail
  refine (C4.out _).mono ?_
  rintro e w4 ⟨rfl, rfl⟩
  go_wp2_with fail
  refine (C5.out _).mono ?_
  rintro e w5 ⟨rfl, rfl⟩
  go_wp2_with fail
  refine bodyPost_ret (v := .tuple #[.agg #[.string ⟨#[]⟩, .bool false, .int .u64 0, .int .u32 0, .int .u16 0, .string ⟨#[]⟩, .int .i64 0], .int .i64 7]) (by simp [results, Tryz.results51, go_sem]) rfl ⟨?_, (Below.refl _ _).alloc (Nat.le_refl _) _⟩
  rw [decV_bad HO.out]
end Go.Proofs.YtienlhnbmobinaaGreat
namespace Go.Proofs.YtienlhnbmobinaaGreat
open Go.RowKit
set_option linter.unusedVariables false
set_option linter.unusedSimpArgs false
theorem dK_extract (s : ByteArray) (h : 16 + dKn s.data.toList ≤ s.size) : s.extract 16 (16 + dKn s.data.toList) = ⟨(dK s.data.toList).toArray⟩ := by
  have hlen : s.data.toList.length = s.size := by simp
  apply bytes_ext
  rw [Lib.extract_data]
  unfold dK
  rw [show 15 + 1 = 16 from rfl, rdText_in (by omega)]
  simp
theorem dV_extract (s : ByteArray) (h : dE s.data.toList ≤ s.size) : s.extract (17 + dKn s.data.toList) (dE s.data.toList) = ⟨(dV s.data.toList).toArray⟩ := by
  have hlen : s.data.toList.length = s.size := by simp
  have hE : dE s.data.toList = dA s.data.toList + 1 + dVn s.data.toList := rfl
  have hA : dA s.data.toList = 15 + 1 + dKn s.data.toList := rfl
  apply bytes_ext
  rw [Lib.extract_data]
  unfold dV
  rw [rdText_in (by omega)]
  have h1 : dA s.data.toList + 1 = 17 + dKn s.data.toList := by omega
  have h2 : dE s.data.toList - (17 + dKn s.data.toList) = dVn s.data.toList := by omega
  rw [h1, h2]
theorem decOk_fit (s : ByteArray) (h16 : 16 ≤ s.size) (hE : dE s.data.toList ≤ s.size) (h1 : rdNum s.data.toList 0 1 ≤ 1) (hz : s.data.toList.drop (dE s.data.toList) = List.replicate (s.size - dE s.data.toList) 0) :
    decOk s.data.toList = mayRow (s.extract 16 (16 + dKn s.data.toList)).size (s.extract (17 + dKn s.data.toList) (dE s.data.toList)).size (rdNum s.data.toList 9 4) (rdNum s.data.toList 13 2) ((s.size : Int) - (dE s.data.toList : Int)) := by
  have hlen : s.data.toList.length = s.size := by simp
  have hE' : dE s.data.toList = dA s.data.toList + 1 + dVn s.data.toList := rfl
  have hA : dA s.data.toList = 15 + 1 + dKn s.data.toList := rfl
  rw [decOk_eq s.data.toList (by omega) (by omega) (by omega), decide_eq_true h1, decide_eq_true (p := _ = _) (by rw [hlen]; exact hz), dK_extract s (by omega), dV_extract s hE]
  unfold decMay dPad
  rw [hlen]
  show _ = mayRow (dK s.data.toList).toArray.size (dV s.data.toList).toArray.size _ _ _
  simp
/-- What Decode returns, of what it has cut out. -/
theorem decV_fit (s : ByteArray) (n1 n2 n3 n4 n5 n6 E : Nat) (hn1 : rdNum s.data.toList 0 1 = n1) (hn2 : rdNum s.data.toList 1 8 = n2) (hn3 : rdNum s.data.toList 9 4 = n3) (hn4 : rdNum s.data.toList 13 2 = n4) (hn5 : dKn s.data.toList = n5) (hn6 : dVn s.data.toList = n6) (hE : E = 17 + n5 + n6)
    (hin : 17 + n5 + n6 ≤ s.size) (h1 : n1 ≤ 1) (hz : s.data.toList.drop E = List.replicate (s.size - E) 0) (kS vS : ByteArray) (m : Bool) (pad : Int)
    (hk : s.extract 16 (16 + (n5 : Int)).toNat = kS) (hv : s.extract (16 + (n5 : Int) + 1).toNat E = vS) (hm : ((n1 : Int) == 1) = m) (hp : (s.size : Int) - (E : Int) = pad) :
    decV s.data.toList = (if mayRow kS.size vS.size n3 n4 pad then .tuple #[.agg #[.string kS, .bool m, .int .u64 n2, .int .u32 n3, .int .u16 n4, .string vS, .int .i64 pad], .int .i64 0] else .tuple #[.agg #[.string ⟨#[]⟩, .bool false, .int .u64 0, .int .u32 0, .int .u16 0, .string ⟨#[]⟩, .int .i64 0], .int .i64 7]) := by
  have hlen : s.data.toList.length = s.size := by simp
  have hE' : dE s.data.toList = E := by
    have hE' : dE s.data.toList = dA s.data.toList + 1 + dVn s.data.toList := rfl
    have hA : dA s.data.toList = 15 + 1 + dKn s.data.toList := rfl
    omega
  have ha : (16 + (n5 : Int)).toNat = 16 + n5 := by omega
  have hb : (16 + (n5 : Int) + 1).toNat = 17 + n5 := by omega
  rw [ha] at hk
  rw [hb] at hv
  have hd := decOk_fit s (by omega) (by omega) (by omega) (by rw [hE']; exact hz)
  rw [hE', hn3, hn4, hn5, hk, hv, hp] at hd
  have hk2 := dK_extract s (by omega)
  have hv2 := dV_extract s (by omega)
  rw [hn5, hk] at hk2
  rw [hE', hn5, hv] at hv2
  have hm2 : decide (0 < n1) = m := by
    rw [← hm]
    rcases Nat.le_one_iff_eq_zero_or_eq_one.1 h1 with h0 | h0 <;> subst h0 <;> rfl
  have hpp : dPad s.data.toList = pad := by unfold dPad; rw [hlen, hE', hp]
  unfold decV
  rw [hd, hn1, hn2, hn3, hn4, hm2, hpp, ← hk2, ← hv2]
end Go.Proofs.YtienlhnbmobinaaGreat
end

section
/- The reference's Decode, where all the pieces fit; The reference's Decode: any bytes -/
namespace Go.Proofs.YtienlhnbmobinaaGreat
open Go.RowKit
set_option linter.unusedVariables false
set_option linter.unusedSimpArgs false
set_option maxHeartbeats 2000000 in
set_option maxRecDepth 100000 in
theorem refDecode_rest (s : ByteArray) (n1 n2 n3 n4 n5 n6 : Nat) (b6 : Bool) (w : World) (hs : s.size ≤ 1000000)
    (C1 : Hid (∀ W, Calls Tryz.prog 81 #[.string s, .int .i64 0, .int .i64 1] W fun e w' => e = .returned (.tuple #[.int .u64 n1, .bool true]) ∧ W = w'))
    (C2 : Hid (∀ W, Calls Tryz.prog 81 #[.string s, .int .i64 1, .int .i64 8] W fun e w' => e = .returned (.tuple #[.int .u64 n2, .bool true]) ∧ W = w'))
    (C3 : Hid (∀ W, Calls Tryz.prog 81 #[.string s, .int .i64 9, .int .i64 4] W fun e w' => e = .returned (.tuple #[.int .u64 n3, .bool true]) ∧ W = w'))
    (C4 : Hid (∀ W, Calls Tryz.prog 81 #[.string s, .int .i64 13, .int .i64 2] W fun e w' => e = .returned (.tuple #[.int .u64 n4, .bool true]) ∧ W = w'))
    (C5 : Hid (∀ W, Calls Tryz.prog 81 #[.string s, .int .i64 15, .int .i64 1] W fun e w' => e = .returned (.tuple #[.int .u64 n5, .bool true]) ∧ W = w'))
    (C6 : Hid (∀ W, Calls Tryz.prog 81 #[.string s, .int .i64 (16 + (n5 : Int)), .int .i64 1] W fun e w' => e = .returned (.tuple #[.int .u64 n6, .bool b6]) ∧ W = w'))
    (HN : Hid (rdNum s.data.toList 0 1 = n1 ∧ rdNum s.data.toList 1 8 = n2 ∧ rdNum s.data.toList 9 4 = n3 ∧ rdNum s.data.toList 13 2 = n4 ∧ dKn s.data.toList = n5 ∧ dVn s.data.toList = n6)) (HE : Hid (dE s.data.toList = 17 + n5 + n6)) (h1 : n1 ≤ 1) (h3 : n3 < 4294967296) (h4 : n4 < 65536) (h5 : n5 < 256) (h6 : n6 < 256) (hfit : b6 = true) (hin : 17 + n5 + n6 ≤ s.size) :
    Calls Tryz.prog 51 #[.string s] w fun e w' => e = .returned (decV s.data.toList) ∧ Below w.heap.size w w' := by
  subst hfit
  have hlen : s.data.toList.length = s.size := by simp
  obtain ⟨E, hE⟩ : ∃ E : Nat, E = 17 + n5 + n6 := ⟨_, rfl⟩
  have w5 : IntKind.i64.wrap (n5 : Int) = n5 := IntWalk.i64_in _ ⟨by omega, by omega⟩
  have w6 : IntKind.i64.wrap (16 + (n5 : Int)) = 16 + (n5 : Int) := IntWalk.i64_in _ ⟨by omega, by omega⟩
  go_enter Tryz.func51, Tryz.ntmps51
  go_wp2_with fail
  refine (C1.out _).mono ?_
  rintro e w1 ⟨rfl, rfl⟩
  go_wp2_with fail
  refine (C2.out _).mono ?_
  rintro e w1 ⟨rfl, rfl⟩
  go_wp2_with fail
  refine (C3.out _).mono ?_
  rintro e w1 ⟨rfl, rfl⟩
  go_wp2_with fail
  refine (C4.out _).mono ?_
  rintro e w1 ⟨rfl, rfl⟩
  go_wp2_with fail
  refine (C5.out _).mono ?_
  rintro e w1 ⟨rfl, rfl⟩
  go_wp2_with fail
  refine (C6.out _).mono ?_
  rintro e w1 ⟨rfl, rfl⟩
  go_wp2_with fail
  first | rw [show 16 + (n5 : Int) + 1 + (n6 : Int) = (E : Int) by omega] | rw [show 17 + (n5 : Int) + (n6 : Int) = (E : Int) by omega]
  generalize hw0 : w.alloc (Obj.cells #[.string ⟨#[]⟩, .bool false, .int .u64 0, .int .u32 0, .int .u16 0, .string ⟨#[]⟩, .int .i64 0] 32) = w0
  have bR : w0.heap[w.heap.size]? = some (.cells #[.string ⟨#[]⟩, .bool false, .int .u64 0, .int .u32 0, .int .u16 0, .string ⟨#[]⟩, .int .i64 0] 32 (0, 0)) := by rw [← hw0]; exact heap_alloc_new _ _
  have hbl : Hid (Below w.heap.size w w0) := by rw [← hw0]; exact (Below.refl _ _).alloc (Nat.le_refl _) _
  clear hw0
  have r0 := blk_cell bR 0
  have r1 := blk_cell bR 1
  have r2 := blk_cell bR 2
  have r3 := blk_cell bR 3
  have r4 := blk_cell bR 4
  have r5 := blk_cell bR 5
  have r6 := blk_cell bR 6
  have g0 := blk_frozen bR 0
  have g1 := blk_frozen bR 1
  have g2 := blk_frozen bR 2
  have g3 := blk_frozen bR 3
  have g4 := blk_frozen bR 4
  have g5 := blk_frozen bR 5
  have g6 := blk_frozen bR 6
  have Br := Lib.hid bR
  clear bR
  clear C1 C2 C3 C4 C5 C6
  go_loopw [18] (fun n wr => ∃ k : Nat, E ≤ k ∧ k ≤ s.size ∧ zerosTo s.data.toList E k ∧ n = .int .i64 k ∧ wr = w0) (fun n _ => s.size - (intOf n).toNat)
  case atStart => exact ⟨E, Nat.le_refl _, by omega, fun j a b => absurd b (by omega), rfl, rfl⟩
  case round =>
    obtain ⟨k, hk1, hk2, hk3, rfl, rfl⟩ := hrel
    by_cases hk : k < s.size
    · have hk' : k < s.data.toList.length := by omega
      by_cases hsk : s[k] = 0
      · have hz := zerosTo_step hk3 hk' hsk
        have hx : ((s[k].toNat : Int) == 0) = true := by simp [hsk]
        clear hsk hk3
        go_wp2_with fail
        go_roundw
        case rel => exact ⟨k + 1, by omega, by omega, hz, by go_num, trivial⟩
        case measure => simp [intOf]; omega
      · have hx : ((s[k].toNat : Int) == 0) = false := by
          have : s[k].toNat ≠ 0 := fun h => hsk (UInt8.toNat_inj.1 (by simpa using h))
          simp; omega
        have HO : Hid (decOk s.data.toList = false) := decOk_tail s.data.toList k (by rw [HE.out]; omega) hk' hsk
        clear hsk hk3
        go_wp2_with fail
        have q := row_res Br.out (.string ⟨#[]⟩) (.bool false) (.int .u64 0) (.int .u32 0) (.int .u16 0) (.string ⟨#[]⟩) (.int .i64 0)
        obtain ⟨q0, q1, q2, q3, q4, q5, q6⟩ := q
        refine bodyPost_ret (v := .tuple #[.agg #[.string ⟨#[]⟩, .bool false, .int .u64 0, .int .u32 0, .int .u16 0, .string ⟨#[]⟩, .int .i64 0], .int .i64 7]) (by simp [results, Tryz.results51, go_sem, q0, q1, q2, q3, q4, q5, q6]) rfl ⟨?_, ((((((hbl.out.setCell (Nat.le_refl _) _).setCell (Nat.le_refl _) _).setCell (Nat.le_refl _) _).setCell (Nat.le_refl _) _).setCell (Nat.le_refl _) _).setCell (Nat.le_refl _) _).setCell (Nat.le_refl _) _⟩
        rw [decV_bad HO.out]
    · obtain rfl : k = s.size := by omega
      have ht : s.data.toList.drop E = List.replicate (s.size - E) 0 := by
        have := zerosTo_all (l := s.data.toList) (e := E) (by rw [hlen]; exact hk3)
        rwa [hlen] at this
      clear hk3
      go_wp2_with fail
      have wa : IntKind.i64.wrap (16 + (n5 : Int) + 1) = 16 + (n5 : Int) + 1 := IntWalk.i64_in _ ⟨by omega, by omega⟩
      have wp : IntKind.i64.wrap ((s.size : Int) - (E : Int)) = (s.size : Int) - (E : Int) := IntWalk.i64_in _ ⟨by omega, by omega⟩
      have w3 : IntKind.u32.wrap (n3 : Int) = n3 := IntWalk.u32_in _ ⟨by omega, by omega⟩
      have w4 : IntKind.u16.wrap (n4 : Int) = n4 := IntWalk.u16_in _ ⟨by omega, by omega⟩
      have s1 : 16 + (n5 : Int) ≤ (s.size : Int) := by omega
      have s2 : (0 : Int) ≤ 16 + (n5 : Int) := by omega
      have s3 : 16 + (n5 : Int) + 1 ≤ (E : Int) := by omega
      have s4 : (0 : Int) ≤ 16 + (n5 : Int) + 1 := by omega
      have s5 : (E : Int) ≤ (s.size : Int) := by omega
      have s6 : (16 : Int) ≤ 16 + (n5 : Int) := by omega
      have HEE := Lib.hid hE
      have HI := Lib.hid hin
      have HT := Lib.hid ht
      clear hE hk1 hk2 hin ht
      go_region_held3 (fun w' => True) (trivial) (fail)
      obtain ⟨kS, hk⟩ : ∃ y, s.extract 16 (16 + (n5 : Int)).toNat = y := ⟨_, rfl⟩
      obtain ⟨vS, hv⟩ : ∃ y, s.extract (16 + (n5 : Int) + 1).toNat E = y := ⟨_, rfl⟩
      obtain ⟨mk, hm⟩ : ∃ y, ((n1 : Int) == 1) = y := ⟨_, rfl⟩
      obtain ⟨pad, hp⟩ : ∃ y, (s.size : Int) - (E : Int) = y := ⟨_, rfl⟩
      obtain ⟨d1, d2, d3, d4, d5, d6⟩ := HN.out
      have hD := decV_fit s n1 n2 n3 n4 n5 n6 E d1 d2 d3 d4 d5 d6 HEE.out HI.out h1 HT.out kS vS mk pad hk hv hm hp
      have zk : kS.size ≤ s.size := by rw [← hk]; simp; omega
      have zv : vS.size ≤ s.size := by rw [← hv]; simp; omega
      clear d1 d2 d3 d4 d5 d6
      simp only [hk, hv, hm, hp]
      generalize hW : (wr.alloc (Obj.cells #[.string kS, .bool mk, .int .u64 n2, .int .u32 n3, .int .u16 n4, .string vS, .int .i64 pad] 32)).drew = W
      have bX : W.heap[wr.heap.size]? = some (.cells #[.string kS, .bool mk, .int .u64 n2, .int .u32 n3, .int .u16 n4, .string vS, .int .i64 pad] 32 (0, 0)) := by rw [← hW]; exact heap_alloc_new wr _
      have bR : W.heap[w.heap.size]? = some (.cells #[.string ⟨#[]⟩, .bool false, .int .u64 0, .int .u32 0, .int .u16 0, .string ⟨#[]⟩, .int .i64 0] 32 (0, 0)) := by rw [← hW]; exact heap_keep Br.out
      have hb1 : Hid (Below w.heap.size w W) := by rw [← hW]; exact (hbl.out.alloc hbl.out.size _).drew
      clear hW hk hv hm hp r0 r1 r2 r3 r4 r5 r6 g0 g1 g2 g3 g4 g5 g6 Br hbl
      generalize wr.heap.size = X at bX ⊢
      have x0 := blk_cell bX 0
      have x1 := blk_cell bX 1
      have x2 := blk_cell bX 2
      have x3 := blk_cell bX 3
      have x4 := blk_cell bX 4
      have x5 := blk_cell bX 5
      have x6 := blk_cell bX 6
      have BX := Lib.hid bX
      have BR := Lib.hid bR
      clear bX bR
      have M := Lib.hid fun W => refMay_any kS vS mk n2 n3 n4 pad W (by unfold maxLen; omega) (by unfold maxLen; omega)
      have HD0 := Lib.hid hD
      clear hD
      generalize mayRow kS.size vS.size n3 n4 pad = b at HD0 M
      go_wp2_with fail
      refine (M.out _).mono ?_
      rintro e w9 ⟨rfl, hb9⟩
      have bX := (hb9.block _ (blk_lt BX.out)).trans BX.out
      have bR := (hb9.block _ (blk_lt BR.out)).trans BR.out
      have hbb := Lib.hid (hb1.out.trans (hb9.mono hb1.out.size))
      clear hb9 x0 x1 x2 x3 x4 x5 x6
      have x0 := blk_cell bX 0
      have r0 := blk_cell bR 0
      have g0 := blk_frozen bR 0
      have x1 := blk_cell bX 1
      have r1 := blk_cell bR 1
      have g1 := blk_frozen bR 1
      have x2 := blk_cell bX 2
      have r2 := blk_cell bR 2
      have g2 := blk_frozen bR 2
      have x3 := blk_cell bX 3
      have r3 := blk_cell bR 3
      have g3 := blk_frozen bR 3
      have x4 := blk_cell bX 4
      have r4 := blk_cell bR 4
      have g4 := blk_frozen bR 4
      have x5 := blk_cell bX 5
      have r5 := blk_cell bR 5
      have g5 := blk_frozen bR 5
      have x6 := blk_cell bX 6
      have r6 := blk_cell bR 6
      have g6 := blk_frozen bR 6
      have Br1 := Lib.hid bR
      clear bX bR
      cases b with
      | false =>
        have HD := HD0
        go_wp2_with fail
        have q := row_res Br1.out (.string ⟨#[]⟩) (.bool false) (.int .u64 0) (.int .u32 0) (.int .u16 0) (.string ⟨#[]⟩) (.int .i64 0)
        obtain ⟨q0, q1, q2, q3, q4, q5, q6⟩ := q
        refine bodyPost_ret (v := .tuple #[.agg #[.string ⟨#[]⟩, .bool false, .int .u64 0, .int .u32 0, .int .u16 0, .string ⟨#[]⟩, .int .i64 0], .int .i64 7]) (by simp [results, Tryz.results51, go_sem, q0, q1, q2, q3, q4, q5, q6]) rfl ⟨?_, ((((((hbb.out.setCell (Nat.le_refl _) _).setCell (Nat.le_refl _) _).setCell (Nat.le_refl _) _).setCell (Nat.le_refl _) _).setCell (Nat.le_refl _) _).setCell (Nat.le_refl _) _).setCell (Nat.le_refl _) _⟩
        rw [HD.out]
        rfl
      | true =>
        have HD := HD0
        go_wp2_with fail
        have q := row_res Br1.out (.string kS) (.bool mk) (.int .u64 n2) (.int .u32 n3) (.int .u16 n4) (.string vS) (.int .i64 pad)
        obtain ⟨q0, q1, q2, q3, q4, q5, q6⟩ := q
        refine bodyPost_ret (v := .tuple #[.agg #[.string kS, .bool mk, .int .u64 n2, .int .u32 n3, .int .u16 n4, .string vS, .int .i64 pad], .int .i64 0]) (by simp [results, Tryz.results51, go_sem, q0, q1, q2, q3, q4, q5, q6]) rfl ⟨?_, ((((((hbb.out.setCell (Nat.le_refl _) _).setCell (Nat.le_refl _) _).setCell (Nat.le_refl _) _).setCell (Nat.le_refl _) _).setCell (Nat.le_refl _) _).setCell (Nat.le_refl _) _).setCell (Nat.le_refl _) _⟩
        rw [HD.out]
        rfl
end Go.Proofs.YtienlhnbmobinaaGreat
namespace Go.Proofs.YtienlhnbmobinaaGreat
open Go.RowKit
set_option linter.unusedVariables false
set_option linter.unusedSimpArgs false
set_option maxHeartbeats 2000000 in
set_option maxRecDepth 100000 in
theorem refDecode_cut (s : ByteArray) (n1 n2 n3 n4 n5 n6 : Nat) (w : World) (hs : s.size ≤ 1000000)
    (C1 : Hid (∀ W, Calls Tryz.prog 81 #[.string s, .int .i64 0, .int .i64 1] W fun e w' => e = .returned (.tuple #[.int .u64 n1, .bool true]) ∧ W = w'))
    (C2 : Hid (∀ W, Calls Tryz.prog 81 #[.string s, .int .i64 1, .int .i64 8] W fun e w' => e = .returned (.tuple #[.int .u64 n2, .bool true]) ∧ W = w'))
    (C3 : Hid (∀ W, Calls Tryz.prog 81 #[.string s, .int .i64 9, .int .i64 4] W fun e w' => e = .returned (.tuple #[.int .u64 n3, .bool true]) ∧ W = w'))
    (C4 : Hid (∀ W, Calls Tryz.prog 81 #[.string s, .int .i64 13, .int .i64 2] W fun e w' => e = .returned (.tuple #[.int .u64 n4, .bool true]) ∧ W = w'))
    (C5 : Hid (∀ W, Calls Tryz.prog 81 #[.string s, .int .i64 15, .int .i64 1] W fun e w' => e = .returned (.tuple #[.int .u64 n5, .bool true]) ∧ W = w'))
    (C6 : Hid (∀ W, Calls Tryz.prog 81 #[.string s, .int .i64 (16 + (n5 : Int)), .int .i64 1] W fun e w' => e = .returned (.tuple #[.int .u64 n6, .bool false]) ∧ W = w'))
    (h1 : n1 ≤ 1) (h5 : n5 < 256) (h6 : n6 < 256) (HO : Hid (decOk s.data.toList = false)) :
    Calls Tryz.prog 51 #[.string s] w fun e w' => e = .returned (decV s.data.toList) ∧ Below w.heap.size w w' := by
  have w5 : IntKind.i64.wrap (n5 : Int) = n5 := IntWalk.i64_in _ ⟨by omega, by omega⟩
  have w6 : IntKind.i64.wrap (16 + (n5 : Int)) = 16 + (n5 : Int) := IntWalk.i64_in _ ⟨by omega, by omega⟩
  go_enter Tryz.func51, Tryz.ntmps51
  go_wp2_with fail
  refine (C1.out _).mono ?_
  rintro e w1 ⟨rfl, rfl⟩
  go_wp2_with fail
  refine (C2.out _).mono ?_
  rintro e w1 ⟨rfl, rfl⟩
  go_wp2_with fail
  refine (C3.out _).mono ?_
  rintro e w1 ⟨rfl, rfl⟩
  go_wp2_with fail
  refine (C4.out _).mono ?_
  rintro e w1 ⟨rfl, rfl⟩
  go_wp2_with fail
  refine (C5.out _).mono ?_
  rintro e w1 ⟨rfl, rfl⟩
  go_wp2_with fail
  refine (C6.out _).mono ?_
  rintro e w1 ⟨rfl, rfl⟩
  go_wp2_with fail
  refine bodyPost_ret (v := .tuple #[.agg #[.string ⟨#[]⟩, .bool false, .int .u64 0, .int .u32 0, .int .u16 0, .string ⟨#[]⟩, .int .i64 0], .int .i64 7]) (by simp [results, Tryz.results51, go_sem]) rfl ⟨?_, (Below.refl _ _).alloc (Nat.le_refl _) _⟩
  rw [decV_bad HO.out]
set_option maxHeartbeats 2000000 in
set_option maxRecDepth 100000 in
theorem refDecode_long (s : ByteArray) (n1 n2 n3 n4 n5 n6 : Nat) (w : World) (hs : s.size ≤ 1000000)
    (C1 : Hid (∀ W, Calls Tryz.prog 81 #[.string s, .int .i64 0, .int .i64 1] W fun e w' => e = .returned (.tuple #[.int .u64 n1, .bool true]) ∧ W = w'))
    (C2 : Hid (∀ W, Calls Tryz.prog 81 #[.string s, .int .i64 1, .int .i64 8] W fun e w' => e = .returned (.tuple #[.int .u64 n2, .bool true]) ∧ W = w'))
    (C3 : Hid (∀ W, Calls Tryz.prog 81 #[.string s, .int .i64 9, .int .i64 4] W fun e w' => e = .returned (.tuple #[.int .u64 n3, .bool true]) ∧ W = w'))
    (C4 : Hid (∀ W, Calls Tryz.prog 81 #[.string s, .int .i64 13, .int .i64 2] W fun e w' => e = .returned (.tuple #[.int .u64 n4, .bool true]) ∧ W = w'))
    (C5 : Hid (∀ W, Calls Tryz.prog 81 #[.string s, .int .i64 15, .int .i64 1] W fun e w' => e = .returned (.tuple #[.int .u64 n5, .bool true]) ∧ W = w'))
    (C6 : Hid (∀ W, Calls Tryz.prog 81 #[.string s, .int .i64 (16 + (n5 : Int)), .int .i64 1] W fun e w' => e = .returned (.tuple #[.int .u64 n6, .bool true]) ∧ W = w'))
    (h1 : n1 ≤ 1) (h5 : n5 < 256) (h6 : n6 < 256) (hout : s.size < 17 + n5 + n6) (HO : Hid (decOk s.data.toList = false)) :
    Calls Tryz.prog 51 #[.string s] w fun e w' => e = .returned (decV s.data.toList) ∧ Below w.heap.size w w' := by
  have w5 : IntKind.i64.wrap (n5 : Int) = n5 := IntWalk.i64_in _ ⟨by omega, by omega⟩
  have w6 : IntKind.i64.wrap (16 + (n5 : Int)) = 16 + (n5 : Int) := IntWalk.i64_in _ ⟨by omega, by omega⟩
  go_enter Tryz.func51, Tryz.ntmps51
  go_wp2_with fail
  refine (C1.out _).mono ?_
  rintro e w1 ⟨rfl, rfl⟩
  go_wp2_with fail
  refine (C2.out _).mono ?_
  rintro e w1 ⟨rfl, rfl⟩
  go_wp2_with fail
  refine (C3.out _).mono ?_
  rintro e w1 ⟨rfl, rfl⟩
  go_wp2_with fail
  refine (C4.out _).mono ?_
  rintro e w1 ⟨rfl, rfl⟩
  go_wp2_with fail
  refine (C5.out _).mono ?_
  rintro e w1 ⟨rfl, rfl⟩
  go_wp2_with fail
  refine (C6.out _).mono ?_
  rintro e w1 ⟨rfl, rfl⟩
  go_wp2_with fail
  refine bodyPost_ret (v := .tuple #[.agg #[.string ⟨#[]⟩, .bool false, .int .u64 0, .int .u32 0, .int .u16 0, .string ⟨#[]⟩, .int .i64 0], .int .i64 7]) (by simp [results, Tryz.results51, go_sem]) rfl ⟨?_, (Below.refl _ _).alloc (Nat.le_refl _) _⟩
  rw [decV_bad HO.out]
theorem refDecode_any (s : ByteArray) (w : World) (hs : s.size ≤ 1000000) :
    Calls Tryz.prog 51 #[.string s] w fun e w' => e = .returned (decV s.data.toList) ∧ Below w.heap.size w w' := by
  have hlen : s.data.toList.length = s.size := by simp
  have hA : dA s.data.toList = 15 + 1 + dKn s.data.toList := rfl
  have hE : dE s.data.toList = dA s.data.toList + 1 + dVn s.data.toList := rfl
  have l1 := rdNum_ltR s.data.toList 0 1
  have l3 := rdNum_ltR s.data.toList 9 4
  have l4 := rdNum_ltR s.data.toList 13 2
  have l5 : dKn s.data.toList < 2 ^ (8 * 1) := rdNum_ltR s.data.toList 15 1
  have l6 : dVn s.data.toList < 2 ^ (8 * 1) := rdNum_ltR s.data.toList (dA s.data.toList) 1
  simp only [Nat.reducePow, Nat.reduceMul] at l1 l3 l4 l5 l6
  have c1 := fun W => refGet_any s 0 1 W hs (by omega) (by omega) (by omega)
  have c2 := fun W => refGet_any s 1 8 W hs (by omega) (by omega) (by omega)
  have c3 := fun W => refGet_any s 9 4 W hs (by omega) (by omega) (by omega)
  have c4 := fun W => refGet_any s 13 2 W hs (by omega) (by omega) (by omega)
  have c5 := fun W => refGet_any s 15 1 W hs (by omega) (by omega) (by omega)
  have c6 := fun W => refGet_any s (dA s.data.toList) 1 W hs (by omega) (by omega) (by omega)
  by_cases h16 : 16 ≤ s.size
  · rw [decide_eq_true (by omega)] at c1 c2 c3 c4 c5
    by_cases hm : rdNum s.data.toList 0 1 ≤ 1
    · have hc : ((dA s.data.toList : Nat) : Int) = 16 + (dKn s.data.toList : Int) := by omega
      rw [hc] at c6
      by_cases h6 : dA s.data.toList + 1 ≤ s.size
      · rw [decide_eq_true h6] at c6
        by_cases hfit : dE s.data.toList ≤ s.size
        · exact refDecode_rest s _ _ _ _ (dKn s.data.toList) (dVn s.data.toList) true w hs (Lib.hid c1) (Lib.hid c2) (Lib.hid c3) (Lib.hid c4) (Lib.hid c5) (Lib.hid c6) (Lib.hid ⟨rfl, rfl, rfl, rfl, rfl, rfl⟩) (Lib.hid (by omega)) hm l3 l4 l5 l6 rfl (by omega)
        · exact refDecode_long s _ _ _ _ (dKn s.data.toList) (dVn s.data.toList) w hs (Lib.hid c1) (Lib.hid c2) (Lib.hid c3) (Lib.hid c4) (Lib.hid c5) (Lib.hid c6) hm l5 l6 (by omega) (Lib.hid (decOk_short _ (by omega)))
      · rw [decide_eq_false h6] at c6
        exact refDecode_cut s _ _ _ _ (dKn s.data.toList) (dVn s.data.toList) w hs (Lib.hid c1) (Lib.hid c2) (Lib.hid c3) (Lib.hid c4) (Lib.hid c5) (Lib.hid c6) hm l5 l6 (Lib.hid (decOk_short _ (by omega)))
    · exact refDecode_mark s _ _ _ _ _ w (Lib.hid c1) (Lib.hid c2) (Lib.hid c3) (Lib.hid c4) (Lib.hid c5) (by omega) (by omega) (Lib.hid (decOk_mark _ (by omega)))
  · refine refDecode_chain s _ _ _ _ _ _ _ _ _ _ w (Lib.hid c1) (Lib.hid c2) (Lib.hid c3) (Lib.hid c4) (Lib.hid c5) ?_ (Lib.hid (decOk_short _ (by omega)))
    rw [decide_eq_false (p := 15 + 1 ≤ s.size) (by omega)]
    simp
end Go.Proofs.YtienlhnbmobinaaGreat
end

section
/- The fixed examples of chapter 7: they hold. And when two rows, two entries are equal. -/
namespace Go.Proofs.YtienlhnbmobinaaGreat
open Go.RowKit
set_option linter.unusedVariables false
set_option linter.unusedSimpArgs false
theorem eqRow (k k' v v' : ByteArray) (m m' : Bool) (t t' p p' s s' d d' : Int) (w : World) :
    (binOp .eql 32 (.agg #[.string k, .bool m, .int .u64 t, .int .u32 p, .int .u16 s, .string v, .int .i64 d]) (.agg #[.string k', .bool m', .int .u64 t', .int .u32 p', .int .u16 s', .string v', .int .i64 d'])).run Tryz.prog w =
      .ok (.bool (k.toList == k'.toList && (m == m' && (t == t' && ((p == p' && s == s') && (v.toList == v'.toList && d == d')))))) w := by
  simp [go_sem]
  by_cases h1 : k.toList = k'.toList <;> by_cases h2 : m = m' <;> by_cases h3 : t = t' <;> by_cases h4 : p = p' <;> by_cases h5 : s = s' <;> by_cases h6 : v.toList = v'.toList <;> by_cases h7 : d = d' <;> simp [h1, h2, h3, h4, h5, h6, h7]
end Go.Proofs.YtienlhnbmobinaaGreat
end
