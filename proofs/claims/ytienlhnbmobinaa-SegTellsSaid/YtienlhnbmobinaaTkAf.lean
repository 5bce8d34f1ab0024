/- Kept of our texts for this claim: SegPlain SegMay TextsMove -/
import Derived.Test.YtienlhnbmobinaaRows
import Derived.Test.YtienlhnbmobinaaTkAa
import Derived.Test.YtienlhnbmobinaaTkAc
import Derived.Test.YtienlhnbmobinaaTkAe
import Derived.WalkKit
import Derived.WalkLawsBesides
import Derived.WalkSpells
import Derived.LoopTactic
import Derived.WalkMore
import Derived.LoopN
import Derived.Laws.BitsAllLaws
import Derived.Laws.IdiomStrings
import Derived.BigQuiet
import Derived.Deep.QuietTactic
import Derived.Deep.DeepCutAuto
import Derived.Deep.RegionHeld3
import Derived.Deep.DrawnRows
import Derived.Lib.Hide
import Derived.Outline
import Derived.Deep.DeepMust
import Derived.Handy
import Derived.Test.YtienlhnbmobinaaTkAb
import Derived.Shelf.Spec.SlicesInsertGrow
import Derived.Deep.RegionLaw
section
/- chapter 22: rows of a head page as plain data -/
namespace Go.Proofs.Ytienlhnbmobinaa
open Go.RowKit
set_option linter.unusedVariables false
set_option linter.unusedSimpArgs false
/-- A row of a head page, as plain data. -/
structure Sg where
  tx : Nat
  st : Nat
  num : Nat
  fp : Nat
  lp : Nat
  hp : Nat
  hs : Nat
  deriving DecidableEq
def Sg.zero : Sg := ⟨0, 0, 0, 0, 0, 0, 0⟩
def Sg.wf (s : Sg) : Prop := s.tx < 256 ^ 8 ∧ s.st < 256 ∧ s.num < 256 ^ 8 ∧ s.fp < 256 ^ 4 ∧ s.lp < 256 ^ 4 ∧ s.hp < 256 ^ 4 ∧ s.hs < 256 ^ 2
/-- Which rows may be. -/
def Sg.may (s : Sg) : Bool := (decide (s.st = 1 ∧ s.num = 0) || decide (s.st = 2 ∧ 0 < s.num)) && decide (0 < s.tx ∧ (1 ≤ s.fp ∧ s.fp ≤ 1024) ∧ (1 ≤ s.lp ∧ s.lp ≤ 1024) ∧ (1 ≤ s.hp ∧ s.hp ≤ 1024))
def Sg.enc (s : Sg) : List UInt8 := be 8 s.tx ++ (be 1 s.st ++ (be 8 s.num ++ (be 4 s.fp ++ (be 4 s.lp ++ (be 4 s.hp ++ be 2 s.hs)))))
def Sg.out (s : Sg) : List UInt8 × Int := if s.may then (s.enc, 0) else ([], 2)
def sgOf (l : List UInt8) : Sg := ⟨rdNum l 0 8, rdNum l 8 1, rdNum l 9 8, rdNum l 17 4, rdNum l 21 4, rdNum l 25 4, rdNum l 29 2⟩
def sgDec (l : List UInt8) : Option Sg := if l.length = 31 ∧ (sgOf l).may = true then some (sgOf l) else none
/-- The rows of a page behind a transaction: they rise. -/
def segGo : Nat → List (List UInt8) → Option (List Sg)
  | _, [] => some []
  | last, r :: rest => match sgDec r with
    | none => none
    | some x => if x.tx ≤ last then none else (segGo x.tx rest).map (x :: ·)
def segsB (p : Pg) : Option (List Sg) := if p.kind = 5 ∧ p.may = true then segGo 0 p.rows else none
/-- Where a transaction's row is, or would be. -/
def segAt (L : List Sg) (tx : Nat) : Nat := L.findIdx (fun s => decide (tx ≤ s.tx))
def segIs (L : List Sg) (tx : Nat) : Bool := match L[segAt L tx]? with | some s => decide (s.tx = tx) | none => false
def sFindB (p : Pg) (tx : Nat) : Sg × Bool := match segsB p with
  | none => (Sg.zero, false)
  | some L => if segIs L tx then (L.getD (segAt L tx) Sg.zero, true) else (Sg.zero, false)
def sPutO (p : Pg) (L : List Sg) (s : Sg) : Od × Int :=
  if s.may then (if segIs L s.tx then (⟨3, p.id, (segAt L s.tx : Nat), 0, s.enc, [], 0, 0, 0⟩, 0) else if roomB p.rows < 31 then (Od.zero, 4) else (⟨2, p.id, (segAt L s.tx : Nat), 0, s.enc, [], 0, 0, 0⟩, 0)) else (Od.zero, 2)
def sPutB (p : Pg) (s : Sg) : Od × Int := match segsB p with
  | none => (Od.zero, 60)
  | some L => sPutO p L s
def sDropB (p : Pg) (tx : Nat) : Od × Int := match segsB p with
  | none => (Od.zero, 60)
  | some L => if segIs L tx then (⟨4, p.id, (segAt L tx : Nat), 0, [], [], 0, 0, 0⟩, 0) else (Od.zero, 3)
def Sg.done (s : Sg) (n : Nat) : Sg := ⟨s.tx, 2, n, s.fp, s.lp, s.hp, s.hs⟩
def sCommitB (p : Pg) (tx n : Nat) : Od × Int := match segsB p with
  | none => (Od.zero, 60)
  | some L => if segIs L tx then
      (if (L.getD (segAt L tx) Sg.zero).st = 2 then (Od.zero, 8)
       else if n = 0 then (Od.zero, 2)
       else (⟨3, p.id, (segAt L tx : Nat), 0, ((L.getD (segAt L tx) Sg.zero).done n).enc, [], 0, 0, 0⟩, 0))
    else (Od.zero, 3)
theorem sg_len (s : Sg) : s.enc.length = 31 := by simp [Sg.enc, be_length]
theorem rd_at (a b c : List UInt8) (i k : Nat) (ha : a.length = i) (hb : b.length = k) : rdNum (a ++ (b ++ c)) i k = un b := by
  unfold rdNum
  rw [if_pos (by simp [ha, hb]), ← ha, List.drop_left, ← hb, List.take_left]
theorem rd_end (a b : List UInt8) (i k : Nat) (ha : a.length = i) (hb : b.length = k) : rdNum (a ++ b) i k = un b := by
  have := rd_at a b [] i k ha hb
  rwa [List.append_nil] at this
theorem sg_of {s : Sg} (h : s.wf) : sgOf s.enc = s := by
  obtain ⟨h0, h1, h2, h3, h4, h5, h6⟩ := h
  obtain ⟨tx, st, num, fp, lp, hp, hs⟩ := s
  simp only at h0 h1 h2 h3 h4 h5 h6
  unfold sgOf Sg.enc
  simp only
  congr 1
  · rw [show be 8 tx ++ (be 1 st ++ (be 8 num ++ (be 4 fp ++ (be 4 lp ++ (be 4 hp ++ be 2 hs))))) = [] ++ (be 8 tx ++ (be 1 st ++ (be 8 num ++ (be 4 fp ++ (be 4 lp ++ (be 4 hp ++ be 2 hs)))))) from rfl]
    rw [rd_at _ _ _ 0 8 rfl (be_length _ _), un_be_fits _ _ h0]
  · rw [rd_at _ _ _ 8 1 (be_length _ _) (be_length _ _), un_be_fits _ _ (by omega)]
  · rw [show be 8 tx ++ (be 1 st ++ (be 8 num ++ (be 4 fp ++ (be 4 lp ++ (be 4 hp ++ be 2 hs))))) = (be 8 tx ++ be 1 st) ++ (be 8 num ++ (be 4 fp ++ (be 4 lp ++ (be 4 hp ++ be 2 hs)))) by simp only [List.append_assoc]]
    rw [rd_at _ _ _ 9 8 (by simp [be_length]) (be_length _ _), un_be_fits _ _ h2]
  · rw [show be 8 tx ++ (be 1 st ++ (be 8 num ++ (be 4 fp ++ (be 4 lp ++ (be 4 hp ++ be 2 hs))))) = (be 8 tx ++ (be 1 st ++ be 8 num)) ++ (be 4 fp ++ (be 4 lp ++ (be 4 hp ++ be 2 hs))) by simp only [List.append_assoc]]
    rw [rd_at _ _ _ 17 4 (by simp [be_length]) (be_length _ _), un_be_fits _ _ h3]
  · rw [show be 8 tx ++ (be 1 st ++ (be 8 num ++ (be 4 fp ++ (be 4 lp ++ (be 4 hp ++ be 2 hs))))) = (be 8 tx ++ (be 1 st ++ (be 8 num ++ be 4 fp))) ++ (be 4 lp ++ (be 4 hp ++ be 2 hs)) by simp only [List.append_assoc]]
    rw [rd_at _ _ _ 21 4 (by simp [be_length]) (be_length _ _), un_be_fits _ _ h4]
  · rw [show be 8 tx ++ (be 1 st ++ (be 8 num ++ (be 4 fp ++ (be 4 lp ++ (be 4 hp ++ be 2 hs))))) = (be 8 tx ++ (be 1 st ++ (be 8 num ++ (be 4 fp ++ be 4 lp)))) ++ (be 4 hp ++ be 2 hs) by simp only [List.append_assoc]]
    rw [rd_at _ _ _ 25 4 (by simp [be_length]) (be_length _ _), un_be_fits _ _ h5]
  · rw [show be 8 tx ++ (be 1 st ++ (be 8 num ++ (be 4 fp ++ (be 4 lp ++ (be 4 hp ++ be 2 hs))))) = (be 8 tx ++ (be 1 st ++ (be 8 num ++ (be 4 fp ++ (be 4 lp ++ be 4 hp))))) ++ be 2 hs by simp only [List.append_assoc]]
    rw [rd_end _ _ 29 2 (by simp [be_length]) (be_length _ _), un_be_fits _ _ h6]
theorem rd_lt (s : List UInt8) (i k : Nat) : rdNum s i k < 256 ^ k := by
  unfold rdNum
  split
  · next h => exact un_lt _ _ (by rw [List.length_take, List.length_drop]; omega)
  · exact Nat.pow_pos (by omega)
theorem sgOf_wf (l : List UInt8) : (sgOf l).wf := ⟨rd_lt _ _ _, (show rdNum l 8 1 < 256 from by have := rd_lt l 8 1; simpa using this), rd_lt _ _ _, rd_lt _ _ _, rd_lt _ _ _, rd_lt _ _ _, rd_lt _ _ _⟩
theorem sgDec_enc {s : Sg} (h : s.wf) (hm : s.may = true) : sgDec s.enc = some s := by
  unfold sgDec
  rw [sg_of h, if_pos ⟨sg_len s, hm⟩]
theorem sgDec_may {l : List UInt8} {s : Sg} (h : sgDec l = some s) : s.may = true ∧ s.wf ∧ l.length = 31 ∧ s = sgOf l := by
  unfold sgDec at h
  split at h
  · next h0 =>
    injection h with h
    subst h
    exact ⟨h0.2, sgOf_wf l, h0.1, rfl⟩
  · cases h
theorem sg_tx {s : Sg} (h : s.may = true) : 0 < s.tx := by
  unfold Sg.may at h
  exact (of_decide_eq_true (Bool.and_eq_true_iff.1 h).2).1
theorem sg_done {s : Sg} (h : s.may = true) {n : Nat} (hn : 0 < n) : (s.done n).may = true := by
  unfold Sg.may at *
  rw [Bool.and_eq_true_iff] at *
  refine ⟨?_, h.2⟩
  simp [Sg.done, hn]
theorem segGo_snoc : ∀ (rows : List (List UInt8)) (last : Nat) (acc : List Sg) (r : List UInt8), segGo last rows = some acc → segGo last (rows ++ [r]) = match sgDec r with
    | none => none
    | some x => if x.tx ≤ (acc.getLast?.map Sg.tx).getD last then none else some (acc ++ [x])
  | [], last, acc, r, h => by
    injection h with h
    subst h
    unfold segGo
    cases hd : sgDec r with
    | none => simp [segGo, hd]
    | some x =>
      rw [show (([] : List Sg).getLast?.map Sg.tx).getD last = last from rfl]
      simp only [List.nil_append, segGo, hd]
      by_cases hx : x.tx ≤ last
      · rw [if_pos hx, if_pos hx]
      · rw [if_neg hx, if_neg hx]; rfl
  | a :: rows, last, acc, r, h => by
    rw [List.cons_append]
    unfold segGo at h ⊢
    cases ha : sgDec a with
    | none => rw [ha] at h; cases h
    | some y =>
      rw [ha] at h
      simp only at h ⊢
      by_cases hy : y.tx ≤ last
      · rw [if_pos hy] at h; cases h
      · rw [if_neg hy] at h ⊢
        obtain ⟨acc', hacc, rfl⟩ := Option.map_eq_some_iff.1 h
        rw [segGo_snoc rows y.tx acc' r hacc]
        have hl : ((y :: acc').getLast?.map Sg.tx).getD last = (acc'.getLast?.map Sg.tx).getD y.tx := by
          cases acc' with
          | nil => rfl
          | cons b t => rw [List.getLast?_cons_cons]; cases hq : (b :: t).getLast? with
            | none => simp at hq
            | some q => rfl
        rw [hl]
        cases sgDec r with
        | none => rfl
        | some x => simp only; split <;> rfl
theorem segGo_none : ∀ (rows : List (List UInt8)) (last : Nat) (r : List (List UInt8)), segGo last rows = none → segGo last (rows ++ r) = none
  | [], last, r, h => by cases h
  | a :: rows, last, r, h => by
    rw [List.cons_append]
    unfold segGo at h ⊢
    cases ha : sgDec a with
    | none => rfl
    | some y =>
      rw [ha] at h
      simp only at h ⊢
      by_cases hy : y.tx ≤ last
      · rw [if_pos hy]
      · rw [if_neg hy] at h ⊢
        rw [segGo_none rows y.tx r (Option.map_eq_none_iff.1 h)]; rfl
/-- What the rows up to a place have told. -/
def segTo (rows : List (List UInt8)) (i : Nat) : Option (List Sg) := segGo 0 (rows.take i)
def lastTx (acc : List Sg) : Nat := (acc.getLast?.map Sg.tx).getD 0
theorem segTo_next {rows : List (List UInt8)} {i : Nat} {acc : List Sg} (h : segTo rows i = some acc) (hi : i < rows.length) : segTo rows (i + 1) = match sgDec rows[i] with
    | none => none
    | some x => if x.tx ≤ lastTx acc then none else some (acc ++ [x]) := by
  unfold segTo at *
  rw [List.take_succ_eq_append_getElem hi, segGo_snoc _ _ _ _ h]
  rfl
theorem segTo_none {rows : List (List UInt8)} {i : Nat} (h : segTo rows i = none) : segGo 0 rows = none := by
  unfold segTo at h
  rw [← List.take_append_drop i rows]
  exact segGo_none _ _ _ h
theorem segTo_all {rows : List (List UInt8)} {i : Nat} (h : rows.length ≤ i) : segTo rows i = segGo 0 rows := by
  unfold segTo
  rw [List.take_of_length_le h]
theorem segTo_zero (rows : List (List UInt8)) : segTo rows 0 = some [] := rfl
theorem lastTx_snoc (acc : List Sg) (x : Sg) : lastTx (acc ++ [x]) = x.tx := by simp [lastTx]
theorem segGo_all : ∀ {rows : List (List UInt8)} {last : Nat} {L : List Sg}, segGo last rows = some L → L.length = rows.length ∧ (∀ s ∈ L, s.may = true ∧ s.wf ∧ last < s.tx) ∧ L.Pairwise (fun a b => a.tx < b.tx) ∧ (∀ r ∈ rows, r.length = 31) ∧ rows.map sgOf = L
  | [], last, L, h => by injection h with h; subst h; simp
  | a :: rows, last, L, h => by
    unfold segGo at h
    cases ha : sgDec a with
    | none => rw [ha] at h; cases h
    | some y =>
      rw [ha] at h
      simp only at h
      by_cases hy : y.tx ≤ last
      · rw [if_pos hy] at h; cases h
      · rw [if_neg hy] at h
        obtain ⟨acc', hacc, rfl⟩ := Option.map_eq_some_iff.1 h
        obtain ⟨h1, h2, h3, h4, h5⟩ := segGo_all hacc
        have hm := sgDec_may ha
        refine ⟨by simp [h1], ?_, ?_, ?_, ?_⟩
        · intro s hs
          rcases List.mem_cons.1 hs with rfl | hs
          · exact ⟨hm.1, hm.2.1, by omega⟩
          · have := h2 s hs
            exact ⟨this.1, this.2.1, by omega⟩
        · exact List.pairwise_cons.2 ⟨fun b hb => (h2 b hb).2.2, h3⟩
        · intro r hr
          rcases List.mem_cons.1 hr with rfl | hr
          · exact hm.2.2.1
          · exact h4 r hr
        · rw [List.map_cons, h5, ← hm.2.2.2]
/-- A list of rows that may be, rising, is what their bytes tell. -/
theorem segGo_enc : ∀ {L : List Sg} {last : Nat}, (∀ s ∈ L, s.may = true ∧ s.wf) → (∀ s ∈ L, last < s.tx) → L.Pairwise (fun a b => a.tx < b.tx) → segGo last (L.map Sg.enc) = some L
  | [], _, _, _, _ => rfl
  | a :: L, last, h1, h2, h3 => by
    rw [List.map_cons]
    unfold segGo
    rw [sgDec_enc (h1 a (by simp)).2 (h1 a (by simp)).1]
    simp only
    rw [if_neg (by have := h2 a (by simp); omega), segGo_enc (fun s hs => h1 s (List.mem_cons_of_mem _ hs)) (fun s hs => (List.pairwise_cons.1 h3).1 s hs) (List.pairwise_cons.1 h3).2]
    rfl
theorem segAt_le (L : List Sg) (tx : Nat) : segAt L tx ≤ L.length := List.findIdx_le_length
theorem segIs_lt {L : List Sg} {tx : Nat} (h : segIs L tx = true) : segAt L tx < L.length := by
  unfold segIs at h
  split at h
  · next s hs => exact (List.getElem?_eq_some_iff.1 hs).1
  · cases h
theorem segAt_ahead {L : List Sg} {tx i : Nat} (h : i < segAt L tx) (hi : i < L.length) : L[i].tx < tx := by
  have := List.not_of_lt_findIdx (p := fun s : Sg => decide (tx ≤ s.tx)) h
  simpa using this
theorem segAt_here {L : List Sg} {tx : Nat} (h : segAt L tx < L.length) : tx ≤ L[segAt L tx].tx := by
  have := List.findIdx_getElem (p := fun s : Sg => decide (tx ≤ s.tx)) (xs := L) (w := h)
  exact of_decide_eq_true this
theorem segIs_eq {L : List Sg} {tx : Nat} (h : segAt L tx < L.length) : segIs L tx = decide (L[segAt L tx].tx = tx) := by
  unfold segIs
  rw [List.getElem?_eq_getElem h]
theorem segIs_end {L : List Sg} {tx : Nat} (h : ¬ segAt L tx < L.length) : segIs L tx = false := by
  unfold segIs
  rw [List.getElem?_eq_none (by omega)]
/-- A place that splits the rising list is where a transaction's row is, or would be. -/
theorem segAt_split {L : List Sg} {tx k : Nat} (hk : k ≤ L.length) (h1 : ∀ i (h : i < L.length), i < k → L[i].tx < tx) (h2 : ∀ i (h : i < L.length), k ≤ i → tx ≤ L[i].tx) : segAt L tx = k := by
  apply Nat.le_antisymm
  · apply Nat.le_of_not_lt
    intro hlt
    have hkl : k < L.length := Nat.lt_of_lt_of_le hlt (segAt_le L tx)
    have a := segAt_ahead hlt hkl
    have b := h2 k hkl (Nat.le_refl _)
    omega
  · apply Nat.le_of_not_lt
    intro hlt
    have hl : segAt L tx < L.length := by omega
    have a := segAt_here hl
    have b := h1 _ hl hlt
    omega
end Go.Proofs.Ytienlhnbmobinaa
end

section
/- chapter 22: which rows may be (seg.May, the reference's) -/
namespace Go.Proofs.Ytienlhnbmobinaa
open Go.RowKit
set_option linter.unusedVariables false
set_option linter.unusedSimpArgs false
/-- A row's value. -/
def sgV (s : Sg) : Value := .agg #[.int .u64 s.tx, .int .u8 s.st, .int .u64 s.num, .int .u32 s.fp, .int .u32 s.lp, .int .u32 s.hp, .int .u16 s.hs]
def inB (n : Nat) : Bool := decide (1 ≤ n ∧ n ≤ 1024)
theorem may_parts (s : Sg) : s.may = ((decide (s.st = 1 ∧ s.num = 0) || decide (s.st = 2 ∧ 0 < s.num)) && (decide (0 < s.tx) && (inB s.fp && (inB s.lp && inB s.hp)))) := by
  unfold Sg.may inB
  congr 1
  rw [Bool.eq_iff_iff]
  simp
set_option maxHeartbeats 2000000 in
set_option maxRecDepth 100000 in
theorem segIn_any (n : Nat) (w : World) : Calls Try.prog 123 #[.int .u32 n] w fun e w' => e = .returned (.bool (inB n)) ∧ w' = w := by
  unfold inB
  by_cases h1 : 1 ≤ n
  · by_cases h2 : n ≤ 1024
    · rw [decide_eq_true (p := 1 ≤ n ∧ n ≤ 1024) (And.intro h1 h2)]
      go_enter Try.func123, Try.ntmps123
      go_wp2_with fail
      go_ret
      exact ⟨by simp; omega, rfl⟩
    · rw [decide_eq_false (p := 1 ≤ n ∧ n ≤ 1024) (by omega)]
      go_enter Try.func123, Try.ntmps123
      go_wp2_with fail
      go_ret
      exact ⟨by simp; omega, rfl⟩
  · rw [decide_eq_false (p := 1 ≤ n ∧ n ≤ 1024) (by omega)]
    go_enter Try.func123, Try.ntmps123
    go_wp2_with fail
    go_ret
    exact ⟨rfl, rfl⟩
set_option maxHeartbeats 4000000 in
set_option maxRecDepth 100000 in
theorem segMay_any (s : Sg) (w : World) : Calls Try.prog 62 #[sgV s] w fun e w' => e = .returned (.bool s.may) ∧ Below w.heap.size w w' := by
  have hp := may_parts s
  obtain ⟨tx, st, num, fp, lp, hp0, hs⟩ := s
  unfold sgV
  simp only at hp ⊢
  generalize Sg.may ⟨tx, st, num, fp, lp, hp0, hs⟩ = B at *
  have b0 := Lib.hid (alloc_below w (.cells #[.int .u64 tx, .int .u8 st, .int .u64 num, .int .u32 fp, .int .u32 lp, .int .u32 hp0, .int .u16 hs] 83))
  have C1 := Lib.hid fun W => segIn_any fp W
  have C2 := Lib.hid fun W => segIn_any lp W
  have C3 := Lib.hid fun W => segIn_any hp0 W
  generalize inB fp = q1 at *
  generalize inB lp = q2 at *
  generalize inB hp0 = q3 at *
  have HP := Lib.hid hp
  clear hp
  by_cases k1 : st = 1
  · subst k1
    by_cases k0 : num = 0
    · subst k0
      by_cases ht : 0 < tx
      · cases q1 with
        | false =>
          go_enter Try.func62, Try.ntmps62
          go_wp2_with fail
          refine (C1.out _).mono ?_
          rintro e w1 ⟨rfl, rfl⟩
          go_wp2_with fail
          go_ret
          exact ⟨by rw [HP.out]; simp, b0.out⟩
        | true => cases q2 with
          | false =>
            go_enter Try.func62, Try.ntmps62
            go_wp2_with fail
            refine (C1.out _).mono ?_
            rintro e w1 ⟨rfl, rfl⟩
            go_wp2_with fail
            refine (C2.out _).mono ?_
            rintro e w1 ⟨rfl, rfl⟩
            go_wp2_with fail
            go_ret
            exact ⟨by rw [HP.out]; simp, b0.out⟩
          | true =>
            go_enter Try.func62, Try.ntmps62
            go_wp2_with fail
            refine (C1.out _).mono ?_
            rintro e w1 ⟨rfl, rfl⟩
            go_wp2_with fail
            refine (C2.out _).mono ?_
            rintro e w1 ⟨rfl, rfl⟩
            go_wp2_with fail
            refine (C3.out _).mono ?_
            rintro e w1 ⟨rfl, rfl⟩
            go_wp2_with fail
            go_ret
            exact ⟨by rw [HP.out, decide_eq_true ht]; simp, b0.out⟩
      · go_enter Try.func62, Try.ntmps62
        go_wp2_with fail
        go_ret
        exact ⟨by rw [HP.out, decide_eq_false ht]; simp, b0.out⟩
    · have k0i : ((num : Int) == 0) = false := by simp; omega
      have k0j : ((num : Int) != 0) = true := by simp; omega
      go_enter Try.func62, Try.ntmps62
      go_wp2_with fail
      go_ret
      exact ⟨by rw [HP.out]; simp [k0], b0.out⟩
  · have k1i : ((st : Int) == 1) = false := by simp; omega
    by_cases k2 : st = 2
    · subst k2
      by_cases k0 : num = 0
      · subst k0
        go_enter Try.func62, Try.ntmps62
        go_wp2_with fail
        go_ret
        exact ⟨by rw [HP.out]; simp, b0.out⟩
      · have k0i : ((num : Int) == 0) = false := by simp; omega
        have k0j : ((num : Int) != 0) = true := by simp; omega
        have k0p : 0 < num := by omega
        by_cases ht : 0 < tx
        · cases q1 with
          | false =>
            go_enter Try.func62, Try.ntmps62
            go_wp2_with fail
            refine (C1.out _).mono ?_
            rintro e w1 ⟨rfl, rfl⟩
            go_wp2_with fail
            go_ret
            exact ⟨by rw [HP.out]; simp, b0.out⟩
          | true => cases q2 with
            | false =>
              go_enter Try.func62, Try.ntmps62
              go_wp2_with fail
              refine (C1.out _).mono ?_
              rintro e w1 ⟨rfl, rfl⟩
              go_wp2_with fail
              refine (C2.out _).mono ?_
              rintro e w1 ⟨rfl, rfl⟩
              go_wp2_with fail
              go_ret
              exact ⟨by rw [HP.out]; simp, b0.out⟩
            | true =>
              go_enter Try.func62, Try.ntmps62
              go_wp2_with fail
              refine (C1.out _).mono ?_
              rintro e w1 ⟨rfl, rfl⟩
              go_wp2_with fail
              refine (C2.out _).mono ?_
              rintro e w1 ⟨rfl, rfl⟩
              go_wp2_with fail
              refine (C3.out _).mono ?_
              rintro e w1 ⟨rfl, rfl⟩
              go_wp2_with fail
              go_ret
              exact ⟨by rw [HP.out, decide_eq_true ht]; simp [k0p], b0.out⟩
        · go_enter Try.func62, Try.ntmps62
          go_wp2_with fail
          go_ret
          exact ⟨by rw [HP.out, decide_eq_false ht]; simp, b0.out⟩
    · have k2i : ((st : Int) == 2) = false := by simp; omega
      go_enter Try.func62, Try.ntmps62
      go_wp2_with fail
      go_ret
      exact ⟨by rw [HP.out]; simp [k1, k2], b0.out⟩
set_option maxHeartbeats 4000000 in
set_option maxRecDepth 100000 in
theorem refSegMay_any (s : Sg) (w : World) : Calls Try.prog 63 #[sgV s] w fun e w' => e = .returned (.bool s.may) ∧ Below w.heap.size w w' := by
  have hp := may_parts s
  obtain ⟨tx, st, num, fp, lp, hp0, hs⟩ := s
  unfold sgV
  simp only at hp ⊢
  generalize Sg.may ⟨tx, st, num, fp, lp, hp0, hs⟩ = B at *
  have b0 := Lib.hid (alloc_below w (.cells #[.int .u64 tx, .int .u8 st, .int .u64 num, .int .u32 fp, .int .u32 lp, .int .u32 hp0, .int .u16 hs] 83))
  unfold inB at hp
  have HP := Lib.hid hp
  clear hp
  by_cases k1 : st = 1
  · subst k1
    by_cases k0 : num = 0
    · subst k0
      go_enter Try.func63, Try.ntmps63
      go_wp2_with fail
      all_goals (go_ret; refine ⟨?_, b0.out⟩; rw [HP.out]; simp; try first | omega | (rw [Bool.eq_iff_iff]; simp; omega))
    · have k0i : ((num : Int) == 0) = false := by simp; omega
      go_enter Try.func63, Try.ntmps63
      go_wp2_with fail
      all_goals (go_ret; refine ⟨?_, b0.out⟩; rw [HP.out]; simp; try first | omega | (rw [Bool.eq_iff_iff]; simp; omega))
  · have k1i : ((st : Int) == 1) = false := by simp; omega
    by_cases k2 : st = 2
    · subst k2
      by_cases k0 : num = 0
      · subst k0
        go_enter Try.func63, Try.ntmps63
        go_wp2_with fail
        all_goals (go_ret; refine ⟨?_, b0.out⟩; rw [HP.out]; simp; try first | omega | (rw [Bool.eq_iff_iff]; simp; omega))
      · have k0i : ((num : Int) == 0) = false := by simp; omega
        have k0p : 0 < num := by omega
        go_enter Try.func63, Try.ntmps63
        go_wp2_with fail
        all_goals (go_ret; refine ⟨?_, b0.out⟩; rw [HP.out]; simp; try first | omega | (rw [Bool.eq_iff_iff]; simp; omega))
    · have k2i : ((st : Int) == 2) = false := by simp; omega
      go_enter Try.func63, Try.ntmps63
      go_wp2_with fail
      all_goals (go_ret; refine ⟨?_, b0.out⟩; rw [HP.out]; simp; try first | omega | (rw [Bool.eq_iff_iff]; simp; omega))
end Go.Proofs.Ytienlhnbmobinaa
end

section
/- slices.Clone, Insert at texts; slices.Delete, Replace at texts -/
namespace Go.Proofs.Ytienlhnbmobinaa
open Go.RowKit
set_option linter.unusedVariables false
set_option linter.unusedSimpArgs false
open Go.Lib
theorem strs_take (ts : List (List UInt8)) (k : Nat) : strs (ts.take k) = (strs ts).take k := by simp [strs]
theorem strs_drop (ts : List (List UInt8)) (k : Nat) : strs (ts.drop k) = (strs ts).drop k := by simp [strs]
theorem strs_oneCell (ts : List (List UInt8)) : ∀ u ∈ strs ts, u.oneCell' = true := by
  intro u hu
  obtain ⟨t, _, rfl⟩ := List.mem_map.1 hu
  rfl
theorem Try.sizeStr : (Try.prog.info? 9).map (·.size) = some 1 := by kernel_rfl
theorem zero_one (z : Value) (k : Nat) : Builtin.zeroCells #[z] k = (List.replicate k z).toArray := by
  unfold Builtin.zeroCells
  apply Array.ext
  · simp
  · intro i h1 h2
    simp [Nat.mod_one]
theorem Try.infoStrM : (Try.prog.info? 9).map (fun i => (i.zero, i.size, i.bytes)) = some (some (.string ⟨#[]⟩), 1, 16) := by kernel_rfl
/-- What a call leaves that gives a row of texts of its own. -/
def OwnPost (w : World) (ts : List (List UInt8)) (e : Ending) (w' : World) : Prop := ∃ v, e = .returned v ∧ w'.ownsRow w.heap.size 9 1 v ts.length (strs ts) ∧ Below w.heap.size w w'
set_option maxHeartbeats 2000000 in
set_option maxRecDepth 100000 in
theorem cloneTexts_any (sv : Value) (ts : List (List UInt8)) (w : World) (ht : TextsAt w sv ts) (hn : ts.length ≤ 1000000) :
    Calls Try.prog 84 #[sv] w (OwnPost w ts) := by
  have HR := Lib.hid fun w' (hb : Below w.heap.size w w') => (ht.below hb).reads
  obtain ⟨A, cp, rfl, h2, h3, h4, h5⟩ := ht
  unfold maxLen at h3
  have H4 := Lib.hid h4
  obtain ⟨i0, hi, hz0, hz1, hz2⟩ := info_parts Try.infoStrM
  have HI := Lib.hid hi
  have HI0 := Lib.hid hz0
  have HI1 := Lib.hid hz1
  have HI2 := Lib.hid hz2
  clear hi hz0 hz1 hz2 h4 h5
  have eq := fun W => Lib.run_eql_slice_nil (P := Try.prog) W 24 9 A ts.length cp 0 0 Try.underlying24
  cases A with
  | none =>
    have HT := Lib.hid (H4.out rfl).1
    go_enter Try.func84, Try.ntmps84
    go_wp2_with fail
    go_ret
    exact ⟨_, rfl, by rw [HT.out]; exact World.ownsRow_nil _ _ _ _, Below.refl _ _⟩
  | some a =>
    go_enter Try.func84, Try.ntmps84
    go_wp2_with (at_builtin; refine wpList_append_any _ rfl _ _ 24 rfl w.heap.size 9 i0 (.string ⟨#[]⟩) 1 16 Try.underlying24 HI.out HI0.out HI1.out HI2.out rfl (by decide) (.slice (some ⟨w.heap.size, 0, none⟩) 0 0) 0 [] (by rfl) (World.ownsRow_made w #[] 0 (Nat.le_refl _) (by unfold maxLen; omega) rfl) (.slice (some a) ts.length cp) ts.length (strs ts) (by rfl) (HR.out _ (alloc_below _ _)) (strs_oneCell _) (by unfold maxLen; omega) (by omega) (by simp) ?_; intro v' w5 hown5 hgrow5)
    have HO : Hid (w5.ownsRow w.heap.size 9 1 v' ts.length (strs ts)) := by show World.ownsRow _ _ _ _ _ _ _; simpa using hown5
    have HB := Lib.hid (((Below.refl w.heap.size w).alloc (Nat.le_refl _) (.cells #[] 9)).grown hgrow5 (by simp) (fun k hk => by simp [Value.ownBlock] at hk; omega))
    clear hown5 hgrow5
    go_wp2_with fail
    go_ret
    exact ⟨_, rfl, HO.out, HB.out⟩
set_option maxHeartbeats 2000000 in
set_option maxRecDepth 100000 in
/-- Insert of one text into a row of one's own. -/
theorem insText_any (v : Value) (ts : List (List UInt8)) (x : List UInt8) (base i vb : Nat) (w : World) (ho : w.ownsRow base 9 1 v ts.length (strs ts)) (hx : w.heap[vb]? = some (.cells #[.string ⟨x.toArray⟩] 9 (0, 0))) (hvb : ∀ k, v.ownBlock = some k → k ≠ vb)
    (hi : i ≤ ts.length) (hn : ts.length ≤ 1000000) (hb : base ≤ w.heap.size) :
    Calls Try.prog 138 #[v, .int .i64 i, .slice (some ⟨vb, 0, none⟩) 1 1] w fun e w' => ∃ v', e = .returned v' ∧ w'.ownsRow base 9 1 v' (ts.length + 1) (strs (ts.take i ++ x :: ts.drop i)) ∧ w.grownBy w' v.ownBlock := by
  obtain ⟨i0, hif, hz0, hz1, hz2⟩ := info_parts Try.infoStrM
  have HI := Lib.hid hif
  have HI0 := Lib.hid hz0
  have HI1 := Lib.hid hz1
  have HI2 := Lib.hid hz2
  clear hif hz0 hz1 hz2
  have HX := Lib.hid hx
  have HO := Lib.hid ho
  have hxs : Hid (strs (ts.take i ++ x :: ts.drop i) = (strs ts).take i ++ .string ⟨x.toArray⟩ :: (strs ts).drop i) := by show _ = _; simp [strs]
  rw [hxs.out]
  have hcx : ∀ j u, [Value.string ⟨x.toArray⟩][j]? = some u → w.cell? ((⟨vb, 0, none⟩ : Addr).add j) = some u := by
    intro j u hu
    cases j with
    | zero =>
      have : Value.string ⟨x.toArray⟩ = u := by simpa using hu
      subst this
      show w.cell? ⟨vb, 0, none⟩ = _
      rw [blk_cell hx]; rfl
    | succ j => simp at hu
  have HCX := Lib.hid hcx
  clear hcx
  rcases Nat.lt_or_ge i ts.length with hlt | hge
  · obtain ⟨g, cp, hv, hbg, hcp, hcm, hcells⟩ := own_open ho (by omega)
    subst hv
    obtain ⟨cur, hg, _, _, _, hcl, hct, hsl⟩ := own_cur ho
    have hgv : g ≠ vb := hvb g rfl
    unfold maxLen at hcm
    obtain ⟨n, hn'⟩ : ∃ n, n = ts.length := ⟨_, rfl⟩
    have hxl : (strs ts).length = n := by simp [strs, hn']
    rw [← hn'] at hcp ho hlt hct hsl hn HO
    rw [← hn']
    clear hn'
    have hone := strs_oneCell ts
    generalize strs ts = xs at *
    have hdl : (xs.drop i).length = n - i := by rw [List.length_drop, hxl]
    have hz1 : ¬ ((1 : Int) = 0) := by omega
    have hz2 : ¬ ((i : Int) = (n : Int)) := by omega
    have hw1 : IntKind.i64.wrap ((i : Int) + 1) = (i : Int) + 1 := by rw [IntKind.wrap_i64]; omega
    have hb1 : (0 : Int) ≤ (i : Int) + 1 := by omega
    have htn : ((i : Int) + 1).toNat = i + 1 := by omega
    have hb3 : (i : Int) ≤ (n : Int) + 1 := by omega
    have hb4 : ¬ (cp = i) := by omega
    have hin : i ≤ n := by omega
    have hgl : g < w.heap.size := blk_lt hg
    have hvl : vb < w.heap.size := blk_lt HX.out
    have hcg : ∀ j, j < cp → (w.cell? ⟨g, j, none⟩).isSome = true := fun j hj => by
      rw [blk_cell hg, List.getElem?_toArray, List.getElem?_eq_getElem (by omega)]; rfl
    have hfg : ∀ j, w.frozen? ⟨g, j, none⟩ = false := fun j => blk_frozen hg j
    by_cases hroom : n + 1 ≤ cp
    · have hb2 : ¬ (cp = i + 1) := by omega
      have hov : ∀ lb cb, (callFunc 184 #[.slice (some ⟨vb, 0, none⟩) 1 1, .slice (some ⟨g, i + 1, none⟩) lb cb]).run Try.prog w = .ok (.value (.bool false)) w := fun lb cb => by
        rw [run_callFunc_extern Try.func184 (by kernel_rfl) (by kernel_rfl) (by kernel_rfl) (e := Extern.SlicesOverlaps.overlaps #[24, 24] #[4]) (by kernel_rfl),
          Lib.run_overlaps_apart w 24 4 9 Try.underlying24 1 (fun w => by kernel_rfl) ⟨vb, 0, none⟩ ⟨g, i + 1, none⟩ 1 1 lb cb (by simpa using Ne.symm hgv) 9 9 1 cp (by unfold World.shape?; simp only [HX.out]; rfl) (by unfold World.shape?; simp only [hg]; simp [hcl]) (by omega) (blk_frozen HX.out 0) (blk_frozen HX.out 1)]
        rfl
      have hcp1 : ∀ ty dc sc, (Builtin.copy_ #[24, 24] ty #[.slice (some ⟨g, i + 1, none⟩) (n - i) dc, .slice (some ⟨g, i, none⟩) (n + 1 - i) sc]).run Try.prog w.drew = .ok (goInt (xs.drop i).length) (w.drew.setCells g (i + 1) (xs.drop i)) := fun ty dc sc =>
        run_copy_cells w.drew _ _ ty 9 g (i + 1) (n - i) dc ⟨g, i, none⟩ (n + 1 - i) sc (xs.drop i) Try.underlying24 Try.sizeStr (by rw [hdl]; simp only [Nat.min_def]; split <;> omega)
          (fun j v hj => by rw [Addr.add_lit]; exact hcells (i + j) v (by rwa [List.getElem?_drop] at hj))
          (fun j hj => by exact hcg _ (by omega)) (fun j hj => by exact hfg _) (fun v hv => hone v (List.mem_of_mem_drop hv))
      obtain ⟨W1, hW1⟩ : ∃ W1, W1 = w.drew.setCells g (i + 1) (xs.drop i) := ⟨_, rfl⟩
      have hg1 : W1.heap[g]? = some (.cells (spl cur (i + 1) (xs.drop i)).toArray 9 (0, 0)) := by rw [hW1]; exact heap_setCells g _ _ _ _ _ hg (by omega)
      have hgr1 : w.grownBy W1 (some g) := by rw [hW1]; exact grown_drew (grown_setCells g _ _ _)
      have hl1 : (spl cur (i + 1) (xs.drop i)).length = cp := by rw [spl_length _ _ _ (by omega)]; exact hcl
      have hx1 : W1.heap[vb]? = some (.cells #[.string ⟨x.toArray⟩] 9 (0, 0)) := (hgr1.block vb hvl (by intro h; injection h with h; exact hgv h.symm)).trans HX.out
      have hcp2 : ∀ ty dc, (Builtin.copy_ #[24, 24] ty #[.slice (some ⟨g, i, none⟩) (n + 1 - i) dc, .slice (some ⟨vb, 0, none⟩) 1 1]).run Try.prog W1 = .ok (goInt 1) (W1.setCells g i [.string ⟨x.toArray⟩]) := fun ty dc =>
        run_copy_cells W1 _ _ ty 9 g i (n + 1 - i) dc ⟨vb, 0, none⟩ 1 1 [.string ⟨x.toArray⟩] Try.underlying24 Try.sizeStr (by simp only [Nat.min_def, List.length_singleton]; split <;> omega)
          (fun j u hu => by
            cases j with
            | zero => have : Value.string ⟨x.toArray⟩ = u := by simpa using hu
                      subst this
                      show W1.cell? ⟨vb, 0, none⟩ = _
                      rw [blk_cell hx1]; rfl
            | succ j => simp at hu)
          (fun j hj => by rw [blk_cell hg1, List.getElem?_toArray, List.getElem?_eq_getElem (by simp at hj; omega)]; rfl) (fun j hj => blk_frozen hg1 _) (one_str _)
      obtain ⟨W2, hW2⟩ : ∃ W2, W2 = W1.setCells g i [.string ⟨x.toArray⟩] := ⟨_, rfl⟩
      have hg2 : W2.heap[g]? = some (.cells (spl (spl cur (i + 1) (xs.drop i)) i [.string ⟨x.toArray⟩]).toArray 9 (0, 0)) := by rw [hW2]; exact heap_setCells g _ _ _ _ _ hg1 (by simp; omega)
      have hgr2 : W1.grownBy W2 (some g) := by rw [hW2]; exact grown_setCells g _ _ _
      have HG := Lib.hid (show w.grownBy W2 (some g) from grown_trans hgr1 hgr2)
      have HO2 := Lib.hid (own_of_cur (n := n + 1) (cp := cp) hg2 hbg hroom (by unfold maxLen; omega) (by rw [spl_length _ _ _ (by simp; omega)]; exact hl1) (shift_one cur xs _ n i hct (by omega) hlt))
      rw [← hW1] at hcp1
      rw [← hW2] at hcp2
      have hrm : ¬ ((cp : Int) < (n : Int) + 1) := by omega
      clear hW1 hW2 hg1 hg2 hgr1 hgr2 hx1 hl1 hcg hfg hcells ho HO hx hvb hg hct hsl hcl hone hxl hxs
      go_enter Try.func138, Try.ntmps138
      go_wp2_with (simp only [hov])
      go_region_law (refine step_copy_runI rfl _ _ 24 24 rfl _ _ (by simp [Act.eval, Act.put]) (by simp [Act.eval, Act.put]) (hcp1 _ _ _) ?_)
      go_wp2_with (at_builtin; refine wpList_copy_runI _ rfl _ _ 24 24 rfl _ _ rfl rfl (hcp2 _ _) ?_)
      go_ret
      exact ⟨_, rfl, HO2.out, HG.out⟩
    · have hce : cp = n := by omega
      subst hce
      have hrm : (cp : Int) < (cp : Int) + 1 := by omega
      have hkk : (cp : Int) + 1 - (i : Int) = ((cp + 1 - i : Nat) : Int) := by omega
      have hik : i + (cp + 1 - i) = cp + 1 := by omega
      have hN0 : w.heap.size ≠ g := by omega
      have hold : (Builtin.firstCells i0.size i (.slice (some ⟨g, 0, none⟩) i cp)).run Try.prog w.drew = .ok (xs.take i).toArray w.drew := by
        rw [HI1.out]
        exact run_firstCells_some w.drew 1 i ⟨g, 0, none⟩ i cp (xs.take i) (by rw [List.length_take]; omega) (fun j v hj => by
          rw [Addr.add_lit, Nat.zero_add]
          rw [List.getElem?_take] at hj
          split at hj
          · exact hcells j v hj
          · cases hj)
      have hrz : ∀ ty, (Builtin.append_ #[24, 3] ty #[.slice (some ⟨g, 0, none⟩) i cp, .int .i64 ((cp : Int) + 1 - (i : Int))]).run Try.prog w =
          .ok (.slice (some ⟨w.heap.size, 0, none⟩) (cp + 1) (grownCap w (cp + 1) cp 9)) (w.drew.alloc (.cells ((xs.take i).toArray ++ Builtin.zeroCells (Value.string ⟨#[]⟩).cells (cp + 1 - i) ++ Builtin.zeroCells (Value.string ⟨#[]⟩).cells (grownCap w (cp + 1) cp 9 - (cp + 1))) 9)) := fun ty => by
        have h := Lib.run_append_grow_zeros w 24 3 ty 9 i0 _ .i64 .i64 Try.underlying24 Try.underlying3 HI.out HI0.out (some ⟨g, 0, none⟩) i cp (xs.take i) hold (cp + 1 - i) (by omega) (by rw [HI1.out]; omega) (by omega) (by omega) (by rw [HI2.out]; omega) (by rw [HI2.out, hik]; exact growslice_fits (by omega) (by omega))
        rw [hik] at h
        rw [hkk]
        exact h
      obtain ⟨G, hG⟩ : ∃ G, G = grownCap w (cp + 1) cp 9 := ⟨_, rfl⟩
      have hGn : cp + 1 ≤ G := by rw [hG]; exact grownCap_ge w _ _ _
      have hG63 : G ≤ maxLen := by rw [hG]; exact grownCap_le_maxLen w (cp + 1) cp 9 (by unfold maxLen; omega)
      rw [← hG] at hrz
      obtain ⟨ROW, hROW⟩ : ∃ ROW : List Value, ROW = xs.take i ++ List.replicate (cp + 1 - i) (Value.string ⟨#[]⟩) ++ List.replicate (G - (cp + 1)) (Value.string ⟨#[]⟩) := ⟨_, rfl⟩
      have hRA : (xs.take i).toArray ++ Builtin.zeroCells (Value.string ⟨#[]⟩).cells (cp + 1 - i) ++ Builtin.zeroCells (Value.string ⟨#[]⟩).cells (G - (cp + 1)) = ROW.toArray := by
        rw [hROW]
        rw [show (Value.string ⟨#[]⟩).cells = #[Value.string ⟨#[]⟩] from rfl, zero_one, zero_one]
        simp
      rw [hRA] at hrz
      have hRl : ROW.length = G := by rw [hROW]; simp; omega
      obtain ⟨W1, hW1⟩ : ∃ W1, W1 = w.drew.alloc (.cells ROW.toArray 9) := ⟨_, rfl⟩
      rw [← hW1] at hrz
      have hg1 : W1.heap[w.heap.size]? = some (.cells ROW.toArray 9 (0, 0)) := by rw [hW1]; exact heap_alloc_new w.drew _
      have hb1' : Below w.heap.size w W1 := by rw [hW1]; exact (Below.refl _ _).drew.alloc (Nat.le_refl _) _
      have hx1 : W1.heap[vb]? = some (.cells #[.string ⟨x.toArray⟩] 9 (0, 0)) := (hb1'.block vb hvl).trans HX.out
      have hgg1 : W1.heap[g]? = some (.cells cur.toArray 9 (0, 0)) := (hb1'.block g hgl).trans hg
      have hcp2 : ∀ ty dc, (Builtin.copy_ #[24, 24] ty #[.slice (some ⟨w.heap.size, i, none⟩) (cp + 1 - i) dc, .slice (some ⟨vb, 0, none⟩) 1 1]).run Try.prog W1 = .ok (goInt 1) (W1.setCells w.heap.size i [.string ⟨x.toArray⟩]) := fun ty dc =>
        run_copy_cells W1 _ _ ty 9 w.heap.size i (cp + 1 - i) dc ⟨vb, 0, none⟩ 1 1 [.string ⟨x.toArray⟩] Try.underlying24 Try.sizeStr (by simp only [Nat.min_def, List.length_singleton]; split <;> omega)
          (fun j u hu => by
            cases j with
            | zero => have : Value.string ⟨x.toArray⟩ = u := by simpa using hu
                      subst this
                      show W1.cell? ⟨vb, 0, none⟩ = _
                      rw [blk_cell hx1]; rfl
            | succ j => simp at hu)
          (fun j hj => by rw [blk_cell hg1, List.getElem?_toArray, List.getElem?_eq_getElem (by simp at hj; omega)]; rfl) (fun j hj => blk_frozen hg1 _) (one_str _)
      obtain ⟨W2, hW2⟩ : ∃ W2, W2 = W1.setCells w.heap.size i [.string ⟨x.toArray⟩] := ⟨_, rfl⟩
      have hg2 : W2.heap[w.heap.size]? = some (.cells (spl ROW i [.string ⟨x.toArray⟩]).toArray 9 (0, 0)) := by rw [hW2]; exact heap_setCells _ _ _ _ _ _ hg1 (by simp; omega)
      have hgr2 : W1.grownBy W2 (some w.heap.size) := by rw [hW2]; exact grown_setCells _ _ _ _
      have hl2 : (spl ROW i [Value.string ⟨x.toArray⟩]).length = G := by rw [spl_length _ _ _ (by simp; omega)]; exact hRl
      have hgg2 : W2.heap[g]? = some (.cells cur.toArray 9 (0, 0)) := (hgr2.block g (by have := hb1'.size; omega) (by intro h; injection h with h; exact hN0 h.symm)).trans hgg1
      rw [← hW2] at hcp2
      have hcp1 : ∀ ty dc sc, (Builtin.copy_ #[24, 24] ty #[.slice (some ⟨w.heap.size, i + 1, none⟩) (cp - i) dc, .slice (some ⟨g, i, none⟩) (cp - i) sc]).run Try.prog W2.drew = .ok (goInt (xs.drop i).length) (W2.drew.setCells w.heap.size (i + 1) (xs.drop i)) := fun ty dc sc =>
        run_copy_cells W2.drew _ _ ty 9 w.heap.size (i + 1) (cp - i) dc ⟨g, i, none⟩ (cp - i) sc (xs.drop i) Try.underlying24 Try.sizeStr (by rw [hdl]; simp only [Nat.min_def]; split <;> omega)
          (fun j v hj => by
            rw [Addr.add_lit]
            show W2.cell? ⟨g, i + j, none⟩ = some v
            rw [blk_cell hgg2, ← blk_cell hg]
            exact hcells (i + j) v (by rwa [List.getElem?_drop] at hj))
          (fun j hj => by
            show (W2.cell? ⟨w.heap.size, i + 1 + j, none⟩).isSome = true
            rw [blk_cell hg2, List.getElem?_toArray, List.getElem?_eq_getElem (by omega)]; rfl) (fun j hj => blk_frozen hg2 _) (fun v hv => hone v (List.mem_of_mem_drop hv))
      obtain ⟨W3, hW3⟩ : ∃ W3, W3 = W2.drew.setCells w.heap.size (i + 1) (xs.drop i) := ⟨_, rfl⟩
      have hg3 : W3.heap[w.heap.size]? = some (.cells (spl (spl ROW i [.string ⟨x.toArray⟩]) (i + 1) (xs.drop i)).toArray 9 (0, 0)) := by rw [hW3]; exact heap_setCells _ _ _ _ _ _ hg2 (by omega)
      have hgr3 : W2.grownBy W3 (some w.heap.size) := by rw [hW3]; exact grown_drew (grown_setCells _ _ _ _)
      rw [← hW3] at hcp1
      have hbel : Below w.heap.size w W3 := ((hb1'.grown hgr2 hb1'.size (fun k hk => by injection hk with hk; omega)).grown hgr3 (Nat.le_trans hb1'.size hgr2.size) (fun k hk => by injection hk with hk; omega))
      have HG := Lib.hid (show w.grownBy W3 (Value.slice (some ⟨g, 0, none⟩) cp cp).ownBlock from grown_below _ hbel)
      have hfin : (spl (spl ROW i [.string ⟨x.toArray⟩]) (i + 1) (xs.drop i)).take (cp + 1) = xs.take i ++ .string ⟨x.toArray⟩ :: xs.drop i := by rw [hROW]; exact fill_one xs _ _ _ cp i hxl hlt (by simp)
      have HO2 := Lib.hid (own_of_cur (n := cp + 1) (cp := G) hg3 hb hGn hG63 (by rw [spl_length _ _ _ (by omega)]; exact hl2) hfin)
      have hGi : ¬ (G = i) := by omega
      have hGim : ¬ (G = i + 1) := by omega
      have hG64 : G ≤ 9223372036854775807 := by unfold maxLen at hG63; omega
      clear hW1 hW2 hW3 hg1 hg2 hg3 hgr2 hgr3 hx1 hgg1 hgg2 hl2 hcg hfg hcells ho HO hx hvb hg hct hsl hcl hone hxl hxs hkk hik hold hROW hRA hRl hfin hG hG63 hb1' hbel hroom
      go_enter Try.func138, Try.ntmps138
      go_wp2_with (first
        | (at_builtin; refine Lib.wpList_append_run _ rfl _ _ _ _ rfl _ _ rfl rfl _ _ (hrz _) ?_)
        | (at_builtin; refine wpList_copy_runI _ rfl _ _ 24 24 rfl _ _ rfl rfl (hcp2 _ _) ?_))
      go_region_law (refine step_copy_runI rfl _ _ 24 24 rfl _ _ (by simp [Act.eval, Act.put]) (by simp [Act.eval, Act.put]) (hcp1 _ _ _) ?_)
      go_wp2_with fail
      go_ret
      exact ⟨_, rfl, HO2.out, HG.out⟩
  · obtain rfl : i = ts.length := by omega
    clear hge hi
    have hform := own_form ho
    obtain ⟨bs, cp, rfl, hcp, hcm, _⟩ := hform
    have HS : Hid ((strs ts).take ts.length ++ Value.string ⟨x.toArray⟩ :: (strs ts).drop ts.length = strs ts ++ [.string ⟨x.toArray⟩]) := by show _ = _; rw [List.take_of_length_le (by simp [strs]), List.drop_eq_nil_of_le (by simp [strs])]
    rw [HS.out]
    clear ho hx hvb
    unfold maxLen at hcm
    go_enter Try.func138, Try.ntmps138
    go_wp2_with (at_builtin; refine wpList_append_any _ rfl _ _ 24 rfl base 9 i0 (.string ⟨#[]⟩) 1 16 Try.underlying24 HI.out HI0.out HI1.out HI2.out rfl (by decide) _ _ _ (by rfl) HO.out (.slice (some ⟨vb, 0, none⟩) 1 1) 1 [.string ⟨x.toArray⟩] (by rfl) (.inr ⟨_, _, rfl, rfl, HCX.out⟩) (one_str _) (by unfold maxLen; omega) (by omega) hb ?_; intro v' w5 hown5 hgrow5)
    all_goals go_ret
    all_goals exact ⟨_, rfl, hown5, by cases bs <;> exact hgrow5⟩
end Go.Proofs.Ytienlhnbmobinaa
namespace Go.Proofs.Ytienlhnbmobinaa
open Go.RowKit
set_option linter.unusedVariables false
set_option linter.unusedSimpArgs false
open Go.Lib Go.Sort
set_option maxHeartbeats 2000000 in
set_option maxRecDepth 100000 in
/-- Delete of one text out of a row of one's own. -/
theorem delText_any (v : Value) (ts : List (List UInt8)) (base i : Nat) (w : World) (ho : w.ownsRow base 9 1 v ts.length (strs ts)) (hi : i < ts.length) (hn : ts.length ≤ 1000000) (hb : base ≤ w.heap.size) :
    Calls Try.prog 141 #[v, .int .i64 i, .int .i64 ((i : Int) + 1)] w fun e w' => ∃ v', e = .returned v' ∧ w'.ownsRow base 9 1 v' (ts.length - 1) (strs (ts.take i ++ ts.drop (i + 1))) ∧ w.grownBy w' v.ownBlock := by
  obtain ⟨g, cp, hv, hbg, hcp, hcm, hcells⟩ := own_open ho (by omega)
  subst hv
  obtain ⟨cur, hg, _, _, _, hcl, hct, hsl⟩ := own_cur ho
  have hS : Lib.strsOf (fun j => (⟨(ts.getD j []).toArray⟩ : ByteArray)) ts.length = ts := by
    unfold Lib.strsOf
    apply List.ext_getElem (by simp)
    intro k h1 h2
    simp at h1
    simp [h1]
  have h := Try.slices_Delete_string_cells g 0 ts.length cp i (i + 1) (fun j => ⟨(ts.getD j []).toArray⟩) w hcp (by unfold maxLen at hcm; omega) (by omega) (by omega)
    (fun j hj => by rw [Nat.zero_add]; exact hcells j _ (by rw [strs_get ts j hj, List.getD_eq_getElem?_getD, List.getElem?_eq_getElem hj]; rfl)) (fun j hj => blk_frozen hg _)
  rw [hS] at h
  refine (h.mono ?_)
  rintro e w' ⟨rfl, q, rfl⟩
  have hvs : ((ts.take i ++ ts.drop (i + 1) ++ List.replicate (i + 1 - i) []).map encStr) = strs (ts.take i ++ ts.drop (i + 1)) ++ [.string ⟨#[]⟩] := by
    rw [show i + 1 - i = 1 by omega, List.map_append]
    rfl
  rw [hvs]
  have hlen : (strs (ts.take i ++ ts.drop (i + 1))).length = ts.length - 1 := by simp [strs]; omega
  have hg2 : ((w.drewN q).setCells g 0 (strs (ts.take i ++ ts.drop (i + 1)) ++ [.string ⟨#[]⟩])).heap[g]? = some (.cells (spl cur 0 (strs (ts.take i ++ ts.drop (i + 1)) ++ [.string ⟨#[]⟩])).toArray 9 (0, 0)) := heap_setCells g _ _ _ _ _ hg (by rw [List.length_append, hlen]; simp; omega)
  refine ⟨_, rfl, ?_, ?_⟩
  · rw [show ts.length - (i + 1 - i) = ts.length - 1 by omega]
    refine own_of_cur hg2 hbg (by omega) hcm (by rw [spl_length _ _ _ (by rw [List.length_append, hlen]; simp; omega)]; exact hcl) ?_
    unfold spl
    rw [List.take_zero, List.nil_append, List.append_assoc, List.take_left' hlen]
  · have := grown_setCells g (strs (ts.take i ++ ts.drop (i + 1)) ++ [.string ⟨#[]⟩]) 0 (w.drewN q)
    exact ⟨this.os, this.tape, this.output, this.size, this.block⟩
end Go.Proofs.Ytienlhnbmobinaa
end
