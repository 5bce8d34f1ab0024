/- Kept of our texts for this claim: SegPlain SegMay SegBox SegDec PageSame06 -/
import Derived.Test.YtienlhnbmobinaaGreatRows
import Derived.Test.YtienlhnbmobinaaGreatAdAa
import Derived.Test.YtienlhnbmobinaaGreatAdAc
import Derived.Test.YtienlhnbmobinaaGreatAdAk
import Derived.Test.YtienlhnbmobinaaGreatAdAr
import Derived.WalkKit
import Derived.WalkLawsBesides
import Derived.WalkSpells
import Derived.LoopTactic
import Derived.WalkMore
import Derived.LoopN
import Derived.Laws.BitsAllLaws
import Derived.Laws.IdiomStrings
import Derived.BigQuiet
import Derived.Deep.QuietTactic
import Derived.Deep.DeepCutAuto
import Derived.Deep.RegionHeld3
import Derived.Deep.DrawnRows
import Derived.Lib.Hide
import Derived.Outline
import Derived.Deep.DeepMust
import Derived.Handy
import Derived.Test.YtienlhnbmobinaaGreatAdAb
import Derived.Test.YtienlhnbmobinaaGreatAdAd
import Derived.Test.YtienlhnbmobinaaGreatAdAm
import Derived.Deep.CutBlock
section
/- chapter 22: rows of a head page as plain data -/
namespace Go.Proofs.YtienlhnbmobinaaGreat
open Go.RowKit
set_option linter.unusedVariables false
set_option linter.unusedSimpArgs false
/-- A row of a head page, as plain data. -/
structure Sg where
  tx : Nat
  st : Nat
  num : Nat
  fp : Nat
  lp : Nat
  hp : Nat
  hs : Nat
  deriving DecidableEq
def Sg.zero : Sg := ⟨0, 0, 0, 0, 0, 0, 0⟩
def Sg.wf (s : Sg) : Prop := s.tx < 256 ^ 8 ∧ s.st < 256 ∧ s.num < 256 ^ 8 ∧ s.fp < 256 ^ 4 ∧ s.lp < 256 ^ 4 ∧ s.hp < 256 ^ 4 ∧ s.hs < 256 ^ 2
/-- Which rows may be. -/
def Sg.may (s : Sg) : Bool := (decide (s.st = 1 ∧ s.num = 0) || decide (s.st = 2 ∧ 0 < s.num)) && decide (0 < s.tx ∧ (1 ≤ s.fp ∧ s.fp ≤ 1024) ∧ (1 ≤ s.lp ∧ s.lp ≤ 1024) ∧ (1 ≤ s.hp ∧ s.hp ≤ 1024))
def Sg.enc (s : Sg) : List UInt8 := be 8 s.tx ++ (be 1 s.st ++ (be 8 s.num ++ (be 4 s.fp ++ (be 4 s.lp ++ (be 4 s.hp ++ be 2 s.hs)))))
def Sg.out (s : Sg) : List UInt8 × Int := if s.may then (s.enc, 0) else ([], 2)
def sgOf (l : List UInt8) : Sg := ⟨rdNum l 0 8, rdNum l 8 1, rdNum l 9 8, rdNum l 17 4, rdNum l 21 4, rdNum l 25 4, rdNum l 29 2⟩
def sgDec (l : List UInt8) : Option Sg := if l.length = 31 ∧ (sgOf l).may = true then some (sgOf l) else none
/-- The rows of a page behind a transaction: they rise. -/
def segGo : Nat → List (List UInt8) → Option (List Sg)
  | _, [] => some []
  | last, r :: rest => match sgDec r with
    | none => none
    | some x => if x.tx ≤ last then none else (segGo x.tx rest).map (x :: ·)
def segsB (p : Pg) : Option (List Sg) := if p.kind = 5 ∧ p.may = true then segGo 0 p.rows else none
/-- Where a transaction's row is, or would be. -/
def segAt (L : List Sg) (tx : Nat) : Nat := L.findIdx (fun s => decide (tx ≤ s.tx))
def segIs (L : List Sg) (tx : Nat) : Bool := match L[segAt L tx]? with | some s => decide (s.tx = tx) | none => false
def sFindB (p : Pg) (tx : Nat) : Sg × Bool := match segsB p with
  | none => (Sg.zero, false)
  | some L => if segIs L tx then (L.getD (segAt L tx) Sg.zero, true) else (Sg.zero, false)
def sPutO (p : Pg) (L : List Sg) (s : Sg) : Od × Int :=
  if s.may then (if segIs L s.tx then (⟨3, p.id, (segAt L s.tx : Nat), 0, s.enc, [], 0, 0, 0⟩, 0) else if roomB p.rows < 31 then (Od.zero, 4) else (⟨2, p.id, (segAt L s.tx : Nat), 0, s.enc, [], 0, 0, 0⟩, 0)) else (Od.zero, 2)
def sPutB (p : Pg) (s : Sg) : Od × Int := match segsB p with
  | none => (Od.zero, 60)
  | some L => sPutO p L s
def sDropB (p : Pg) (tx : Nat) : Od × Int := match segsB p with
  | none => (Od.zero, 60)
  | some L => if segIs L tx then (⟨4, p.id, (segAt L tx : Nat), 0, [], [], 0, 0, 0⟩, 0) else (Od.zero, 3)
def Sg.done (s : Sg) (n : Nat) : Sg := ⟨s.tx, 2, n, s.fp, s.lp, s.hp, s.hs⟩
def sCommitB (p : Pg) (tx n : Nat) : Od × Int := match segsB p with
  | none => (Od.zero, 60)
  | some L => if segIs L tx then
      (if (L.getD (segAt L tx) Sg.zero).st = 2 then (Od.zero, 8)
       else if n = 0 then (Od.zero, 2)
       else (⟨3, p.id, (segAt L tx : Nat), 0, ((L.getD (segAt L tx) Sg.zero).done n).enc, [], 0, 0, 0⟩, 0))
    else (Od.zero, 3)
theorem sg_len (s : Sg) : s.enc.length = 31 := by simp [Sg.enc, be_length]
theorem rd_at (a b c : List UInt8) (i k : Nat) (ha : a.length = i) (hb : b.length = k) : rdNum (a ++ (b ++ c)) i k = un b := by
  unfold rdNum
  rw [if_pos (by simp [ha, hb]), ← ha, List.drop_left, ← hb, List.take_left]
theorem rd_end (a b : List UInt8) (i k : Nat) (ha : a.length = i) (hb : b.length = k) : rdNum (a ++ b) i k = un b := by
  have := rd_at a b [] i k ha hb
  rwa [List.append_nil] at this
theorem sg_of {s : Sg} (h : s.wf) : sgOf s.enc = s := by
  obtain ⟨h0, h1, h2, h3, h4, h5, h6⟩ := h
  obtain ⟨tx, st, num, fp, lp, hp, hs⟩ := s
  simp only at h0 h1 h2 h3 h4 h5 h6
  unfold sgOf Sg.enc
  simp only
  congr 1
  · rw [show be 8 tx ++ (be 1 st ++ (be 8 num ++ (be 4 fp ++ (be 4 lp ++ (be 4 hp ++ be 2 hs))))) = [] ++ (be 8 tx ++ (be 1 st ++ (be 8 num ++ (be 4 fp ++ (be 4 lp ++ (be 4 hp ++ be 2 hs)))))) from rfl]
    rw [rd_at _ _ _ 0 8 rfl (be_length _ _), un_be_fits _ _ h0]
  · rw [rd_at _ _ _ 8 1 (be_length _ _) (be_length _ _), un_be_fits _ _ (by omega)]
  · rw [show be 8 tx ++ (be 1 st ++ (be 8 num ++ (be 4 fp ++ (be 4 lp ++ (be 4 hp ++ be 2 hs))))) = (be 8 tx ++ be 1 st) ++ (be 8 num ++ (be 4 fp ++ (be 4 lp ++ (be 4 hp ++ be 2 hs)))) by simp only [List.append_assoc]]
    rw [rd_at _ _ _ 9 8 (by simp [be_length]) (be_length _ _), un_be_fits _ _ h2]
  · rw [show be 8 tx ++ (be 1 st ++ (be 8 num ++ (be 4 fp ++ (be 4 lp ++ (be 4 hp ++ be 2 hs))))) = (be 8 tx ++ (be 1 st ++ be 8 num)) ++ (be 4 fp ++ (be 4 lp ++ (be 4 hp ++ be 2 hs))) by simp only [List.append_assoc]]
    rw [rd_at _ _ _ 17 4 (by simp [be_length]) (be_length _ _), un_be_fits _ _ h3]
  · rw [show be 8 tx ++ (be 1 st ++ (be 8 num ++ (be 4 fp ++ (be 4 lp ++ (be 4 hp ++ be 2 hs))))) = (be 8 tx ++ (be 1 st ++ (be 8 num ++ be 4 fp))) ++ (be 4 lp ++ (be 4 hp ++ be 2 hs)) by simp only [List.append_assoc]]
    rw [rd_at _ _ _ 21 4 (by simp [be_length]) (be_length _ _), un_be_fits _ _ h4]
  · rw [show be 8 tx ++ (be 1 st ++ (be 8 num ++ (be 4 fp ++ (be 4 lp ++ (be 4 hp ++ be 2 hs))))) = (be 8 tx ++ (be 1 st ++ (be 8 num ++ (be 4 fp ++ be 4 lp)))) ++ (be 4 hp ++ be 2 hs) by simp only [List.append_assoc]]
    rw [rd_at _ _ _ 25 4 (by simp [be_length]) (be_length _ _), un_be_fits _ _ h5]
  · rw [show be 8 tx ++ (be 1 st ++ (be 8 num ++ (be 4 fp ++ (be 4 lp ++ (be 4 hp ++ be 2 hs))))) = (be 8 tx ++ (be 1 st ++ (be 8 num ++ (be 4 fp ++ (be 4 lp ++ be 4 hp))))) ++ be 2 hs by simp only [List.append_assoc]]
    rw [rd_end _ _ 29 2 (by simp [be_length]) (be_length _ _), un_be_fits _ _ h6]
theorem rd_lt (s : List UInt8) (i k : Nat) : rdNum s i k < 256 ^ k := by
  unfold rdNum
  split
  · next h => exact un_lt _ _ (by rw [List.length_take, List.length_drop]; omega)
  · exact Nat.pow_pos (by omega)
theorem sgOf_wf (l : List UInt8) : (sgOf l).wf := ⟨rd_lt _ _ _, (show rdNum l 8 1 < 256 from by have := rd_lt l 8 1; simpa using this), rd_lt _ _ _, rd_lt _ _ _, rd_lt _ _ _, rd_lt _ _ _, rd_lt _ _ _⟩
theorem sgDec_enc {s : Sg} (h : s.wf) (hm : s.may = true) : sgDec s.enc = some s := by
  unfold sgDec
  rw [sg_of h, if_pos ⟨sg_len s, hm⟩]
theorem sgDec_may {l : List UInt8} {s : Sg} (h : sgDec l = some s) : s.may = true ∧ s.wf ∧ l.length = 31 ∧ s = sgOf l := by
  unfold sgDec at h
  split at h
  · next h0 =>
    injection h with h
    subst h
    exact ⟨h0.2, sgOf_wf l, h0.1, rfl⟩
  · cases h
theorem sg_tx {s : Sg} (h : s.may = true) : 0 < s.tx := by
  unfold Sg.may at h
  exact (of_decide_eq_true (Bool.and_eq_true_iff.1 h).2).1
theorem sg_done {s : Sg} (h : s.may = true) {n : Nat} (hn : 0 < n) : (s.done n).may = true := by
  unfold Sg.may at *
  rw [Bool.and_eq_true_iff] at *
  refine ⟨?_, h.2⟩
  simp [Sg.done, hn]
theorem segGo_snoc : ∀ (rows : List (List UInt8)) (last : Nat) (acc : List Sg) (r : List UInt8), segGo last rows = some acc → segGo last (rows ++ [r]) = match sgDec r with
    | none => none
    | some x => if x.tx ≤ (acc.getLast?.map Sg.tx).getD last then none else some (acc ++ [x])
  | [], last, acc, r, h => by
    injection h with h
    subst h
    unfold segGo
    cases hd : sgDec r with
    | none => simp [segGo, hd]
    | some x =>
      rw [show (([] : List Sg).getLast?.map Sg.tx).getD last = last from rfl]
      simp only [List.nil_append, segGo, hd]
      by_cases hx : x.tx ≤ last
      · rw [if_pos hx, if_pos hx]
      · rw [if_neg hx, if_neg hx]; rfl
  | a :: rows, last, acc, r, h => by
    rw [List.cons_append]
    unfold segGo at h ⊢
    cases ha : sgDec a with
    | none => rw [ha] at h; cases h
    | some y =>
      rw [ha] at h
      simp only at h ⊢
      by_cases hy : y.tx ≤ last
      · rw [if_pos hy] at h; cases h
      · rw [if_neg hy] at h ⊢
        obtain ⟨acc', hacc, rfl⟩ := Option.map_eq_some_iff.1 h
        rw [segGo_snoc rows y.tx acc' r hacc]
        have hl : ((y :: acc').getLast?.map Sg.tx).getD last = (acc'.getLast?.map Sg.tx).getD y.tx := by
          cases acc' with
          | nil => rfl
          | cons b t => rw [List.getLast?_cons_cons]; cases hq : (b :: t).getLast? with
            | none => simp at hq
            | some q => rfl
        rw [hl]
        cases sgDec r with
        | none => rfl
        | some x => simp only; split <;> rfl
theorem segGo_none : ∀ (rows : List (List UInt8)) (last : Nat) (r : List (List UInt8)), segGo last rows = none → segGo last (rows ++ r) = none
  | [], last, r, h => by cases h
  | a :: rows, last, r, h => by
    rw [List.cons_append]
    unfold segGo at h ⊢
    cases ha : sgDec a with
    | none => rfl
    | some y =>
      rw [ha] at h
      simp only at h ⊢
      by_cases hy : y.tx ≤ last
      · rw [if_pos hy]
      · rw [if_neg hy] at h ⊢
        rw [segGo_none rows y.tx r (Option.map_eq_none_iff.1 h)]; rfl
/-- What the rows up to a place have told. -/
def segTo (rows : List (List UInt8)) (i : Nat) : Option (List Sg) := segGo 0 (rows.take i)
def lastTx (acc : List Sg) : Nat := (acc.getLast?.map Sg.tx).getD 0
theorem segTo_next {rows : List (List UInt8)} {i : Nat} {acc : List Sg} (h : segTo rows i = some acc) (hi : i < rows.length) : segTo rows (i + 1) = match sgDec rows[i] with
    | none => none
    | some x => if x.tx ≤ lastTx acc then none else some (acc ++ [x]) := by
  unfold segTo at *
  rw [List.take_succ_eq_append_getElem hi, segGo_snoc _ _ _ _ h]
  rfl
theorem segTo_none {rows : List (List UInt8)} {i : Nat} (h : segTo rows i = none) : segGo 0 rows = none := by
  unfold segTo at h
  rw [← List.take_append_drop i rows]
  exact segGo_none _ _ _ h
theorem segTo_all {rows : List (List UInt8)} {i : Nat} (h : rows.length ≤ i) : segTo rows i = segGo 0 rows := by
  unfold segTo
  rw [List.take_of_length_le h]
theorem segTo_zero (rows : List (List UInt8)) : segTo rows 0 = some [] := rfl
theorem lastTx_snoc (acc : List Sg) (x : Sg) : lastTx (acc ++ [x]) = x.tx := by simp [lastTx]
theorem segGo_all : ∀ {rows : List (List UInt8)} {last : Nat} {L : List Sg}, segGo last rows = some L → L.length = rows.length ∧ (∀ s ∈ L, s.may = true ∧ s.wf ∧ last < s.tx) ∧ L.Pairwise (fun a b => a.tx < b.tx) ∧ (∀ r ∈ rows, r.length = 31) ∧ rows.map sgOf = L
  | [], last, L, h => by injection h with h; subst h; simp
  | a :: rows, last, L, h => by
    unfold segGo at h
    cases ha : sgDec a with
    | none => rw [ha] at h; cases h
    | some y =>
      rw [ha] at h
      simp only at h
      by_cases hy : y.tx ≤ last
      · rw [if_pos hy] at h; cases h
      · rw [if_neg hy] at h
        obtain ⟨acc', hacc, rfl⟩ := Option.map_eq_some_iff.1 h
        obtain ⟨h1, h2, h3, h4, h5⟩ := segGo_all hacc
        have hm := sgDec_may ha
        refine ⟨by simp [h1], ?_, ?_, ?_, ?_⟩
        · intro s hs
          rcases List.mem_cons.1 hs with rfl | hs
          · exact ⟨hm.1, hm.2.1, by omega⟩
          · have := h2 s hs
            exact ⟨this.1, this.2.1, by omega⟩
        · exact List.pairwise_cons.2 ⟨fun b hb => (h2 b hb).2.2, h3⟩
        · intro r hr
          rcases List.mem_cons.1 hr with rfl | hr
          · exact hm.2.2.1
          · exact h4 r hr
        · rw [List.map_cons, h5, ← hm.2.2.2]
/-- A list of rows that may be, rising, is what their bytes tell. -/
theorem segGo_enc : ∀ {L : List Sg} {last : Nat}, (∀ s ∈ L, s.may = true ∧ s.wf) → (∀ s ∈ L, last < s.tx) → L.Pairwise (fun a b => a.tx < b.tx) → segGo last (L.map Sg.enc) = some L
  | [], _, _, _, _ => rfl
  | a :: L, last, h1, h2, h3 => by
    rw [List.map_cons]
    unfold segGo
    rw [sgDec_enc (h1 a (by simp)).2 (h1 a (by simp)).1]
    simp only
    rw [if_neg (by have := h2 a (by simp); omega), segGo_enc (fun s hs => h1 s (List.mem_cons_of_mem _ hs)) (fun s hs => (List.pairwise_cons.1 h3).1 s hs) (List.pairwise_cons.1 h3).2]
    rfl
theorem segAt_le (L : List Sg) (tx : Nat) : segAt L tx ≤ L.length := List.findIdx_le_length
theorem segIs_lt {L : List Sg} {tx : Nat} (h : segIs L tx = true) : segAt L tx < L.length := by
  unfold segIs at h
  split at h
  · next s hs => exact (List.getElem?_eq_some_iff.1 hs).1
  · cases h
theorem segAt_ahead {L : List Sg} {tx i : Nat} (h : i < segAt L tx) (hi : i < L.length) : L[i].tx < tx := by
  have := List.not_of_lt_findIdx (p := fun s : Sg => decide (tx ≤ s.tx)) h
  simpa using this
theorem segAt_here {L : List Sg} {tx : Nat} (h : segAt L tx < L.length) : tx ≤ L[segAt L tx].tx := by
  have := List.findIdx_getElem (p := fun s : Sg => decide (tx ≤ s.tx)) (xs := L) (w := h)
  exact of_decide_eq_true this
theorem segIs_eq {L : List Sg} {tx : Nat} (h : segAt L tx < L.length) : segIs L tx = decide (L[segAt L tx].tx = tx) := by
  unfold segIs
  rw [List.getElem?_eq_getElem h]
theorem segIs_end {L : List Sg} {tx : Nat} (h : ¬ segAt L tx < L.length) : segIs L tx = false := by
  unfold segIs
  rw [List.getElem?_eq_none (by omega)]
/-- A place that splits the rising list is where a transaction's row is, or would be. -/
theorem segAt_split {L : List Sg} {tx k : Nat} (hk : k ≤ L.length) (h1 : ∀ i (h : i < L.length), i < k → L[i].tx < tx) (h2 : ∀ i (h : i < L.length), k ≤ i → tx ≤ L[i].tx) : segAt L tx = k := by
  apply Nat.le_antisymm
  · apply Nat.le_of_not_lt
    intro hlt
    have hkl : k < L.length := Nat.lt_of_lt_of_le hlt (segAt_le L tx)
    have a := segAt_ahead hlt hkl
    have b := h2 k hkl (Nat.le_refl _)
    omega
  · apply Nat.le_of_not_lt
    intro hlt
    have hl : segAt L tx < L.length := by omega
    have a := segAt_here hl
    have b := h1 _ hl hlt
    omega
end Go.Proofs.YtienlhnbmobinaaGreat
end

section
/- chapter 22: which rows may be (seg.May, the reference's) -/
namespace Go.Proofs.YtienlhnbmobinaaGreat
open Go.RowKit
set_option linter.unusedVariables false
set_option linter.unusedSimpArgs false
/-- A row's value. -/
def sgV (s : Sg) : Value := .agg #[.int .u64 s.tx, .int .u8 s.st, .int .u64 s.num, .int .u32 s.fp, .int .u32 s.lp, .int .u32 s.hp, .int .u16 s.hs]
def inB (n : Nat) : Bool := decide (1 ≤ n ∧ n ≤ 1024)
theorem may_parts (s : Sg) : s.may = ((decide (s.st = 1 ∧ s.num = 0) || decide (s.st = 2 ∧ 0 < s.num)) && (decide (0 < s.tx) && (inB s.fp && (inB s.lp && inB s.hp)))) := by
  unfold Sg.may inB
  congr 1
  rw [Bool.eq_iff_iff]
  simp
set_option maxHeartbeats 2000000 in
set_option maxRecDepth 100000 in
theorem segIn_any (n : Nat) (w : World) : Calls Tryz.prog 83 #[.int .u32 n] w fun e w' => e = .returned (.bool (inB n)) ∧ w' = w := by
  unfold inB
  by_cases h1 : 1 ≤ n
  · by_cases h2 : n ≤ 1024
    · rw [decide_eq_true (p := 1 ≤ n ∧ n ≤ 1024) (And.intro h1 h2)]
      go_enter Tryz.func83, Tryz.ntmps83
      go_wp2_with fail
      go_ret
      exact ⟨by simp; omega, rfl⟩
    · rw [decide_eq_false (p := 1 ≤ n ∧ n ≤ 1024) (by omega)]
      go_enter Tryz.func83, Tryz.ntmps83
      go_wp2_with fail
      go_ret
      exact ⟨by simp; omega, rfl⟩
  · rw [decide_eq_false (p := 1 ≤ n ∧ n ≤ 1024) (by omega)]
    go_enter Tryz.func83, Tryz.ntmps83
    go_wp2_with fail
    go_ret
    exact ⟨rfl, rfl⟩
set_option maxHeartbeats 4000000 in
set_option maxRecDepth 100000 in
theorem segMay_any (s : Sg) (w : World) : Calls Tryz.prog 55 #[sgV s] w fun e w' => e = .returned (.bool s.may) ∧ Below w.heap.size w w' := by
  have hp := may_parts s
  obtain ⟨tx, st, num, fp, lp, hp0, hs⟩ := s
  unfold sgV
  simp only at hp ⊢
  generalize Sg.may ⟨tx, st, num, fp, lp, hp0, hs⟩ = B at *
  have b0 := Lib.hid (alloc_below w (.cells #[.int .u64 tx, .int .u8 st, .int .u64 num, .int .u32 fp, .int .u32 lp, .int .u32 hp0, .int .u16 hs] 52))
  have C1 := Lib.hid fun W => segIn_any fp W
  have C2 := Lib.hid fun W => segIn_any lp W
  have C3 := Lib.hid fun W => segIn_any hp0 W
  generalize inB fp = q1 at *
  generalize inB lp = q2 at *
  generalize inB hp0 = q3 at *
  have HP := Lib.hid hp
  clear hp
  by_cases k1 : st = 1
  · subst k1
    by_cases k0 : num = 0
    · subst k0
      by_cases ht : 0 < tx
      · cases q1 with
        | false =>
          go_enter Tryz.func55, Tryz.ntmps55
          go_wp2_with fail
          refine (C1.out _).mono ?_
          rintro e w1 ⟨rfl, rfl⟩
          go_wp2_with fail
          go_ret
          exact ⟨by rw [HP.out]; simp, b0.out⟩
        | true => cases q2 with
          | false =>
            go_enter Tryz.func55, Tryz.ntmps55
            go_wp2_with fail
            refine (C1.out _).mono ?_
            rintro e w1 ⟨rfl, rfl⟩
            go_wp2_with fail
            refine (C2.out _).mono ?_
            rintro e w1 ⟨rfl, rfl⟩
            go_wp2_with fail
            go_ret
            exact ⟨by rw [HP.out]; simp, b0.out⟩
          | true =>
            go_enter Tryz.func55, Tryz.ntmps55
            go_wp2_with fail
            refine (C1.out _).mono ?_
            rintro e w1 ⟨rfl, rfl⟩
            go_wp2_with fail
            refine (C2.out _).mono ?_
            rintro e w1 ⟨rfl, rfl⟩
            go_wp2_with fail
            refine (C3.out _).mono ?_
            rintro e w1 ⟨rfl, rfl⟩
            go_wp2_with fail
            go_ret
            exact ⟨by rw [HP.out, decide_eq_true ht]; simp, b0.out⟩
      · go_enter Tryz.func55, Tryz.ntmps55
        go_wp2_with fail
        go_ret
        exact ⟨by rw [HP.out, decide_eq_false ht]; simp, b0.out⟩
    · have k0i : ((num : Int) == 0) = false := by simp; omega
      have k0j : ((num : Int) != 0) = true := by simp; omega
      go_enter Tryz.func55, Tryz.ntmps55
      go_wp2_with fail
      go_ret
      exact ⟨by rw [HP.out]; simp [k0], b0.out⟩
  · have k1i : ((st : Int) == 1) = false := by simp; omega
    by_cases k2 : st = 2
    · subst k2
      by_cases k0 : num = 0
      · subst k0
        go_enter Tryz.func55, Tryz.ntmps55
        go_wp2_with fail
        go_ret
        exact ⟨by rw [HP.out]; simp, b0.out⟩
      · have k0i : ((num : Int) == 0) = false := by simp; omega
        have k0j : ((num : Int) != 0) = true := by simp; omega
        have k0p : 0 < num := by omega
        by_cases ht : 0 < tx
        · cases q1 with
          | false =>
            go_enter Tryz.func55, Tryz.ntmps55
            go_wp2_with fail
            refine (C1.out _).mono ?_
            rintro e w1 ⟨rfl, rfl⟩
            go_wp2_with fail
            go_ret
            exact ⟨by rw [HP.out]; simp, b0.out⟩
          | true => cases q2 with
            | false =>
              go_enter Tryz.func55, Tryz.ntmps55
              go_wp2_with fail
              refine (C1.out _).mono ?_
              rintro e w1 ⟨rfl, rfl⟩
              go_wp2_with fail
              refine (C2.out _).mono ?_
              rintro e w1 ⟨rfl, rfl⟩
              go_wp2_with fail
              go_ret
              exact ⟨by rw [HP.out]; simp, b0.out⟩
            | true =>
              go_enter Tryz.func55, Tryz.ntmps55
              go_wp2_with fail
              refine (C1.out _).mono ?_
              rintro e w1 ⟨rfl, rfl⟩
              go_wp2_with fail
              refine (C2.out _).mono ?_
              rintro e w1 ⟨rfl, rfl⟩
              go_wp2_with fail
              refine (C3.out _).mono ?_
              rintro e w1 ⟨rfl, rfl⟩
              go_wp2_with fail
              go_ret
              exact ⟨by rw [HP.out, decide_eq_true ht]; simp [k0p], b0.out⟩
        · go_enter Tryz.func55, Tryz.ntmps55
          go_wp2_with fail
          go_ret
          exact ⟨by rw [HP.out, decide_eq_false ht]; simp, b0.out⟩
    · have k2i : ((st : Int) == 2) = false := by simp; omega
      go_enter Tryz.func55, Tryz.ntmps55
      go_wp2_with fail
      go_ret
      exact ⟨by rw [HP.out]; simp [k1, k2], b0.out⟩
end Go.Proofs.YtienlhnbmobinaaGreat
end

section
/- chapter 22: a row's cells in a block; stored whole, handed back -/
namespace Go.Proofs.YtienlhnbmobinaaGreat
open Go.RowKit
set_option linter.unusedVariables false
set_option linter.unusedSimpArgs false
/-- A row's cells in a block. -/
def SgBox (w : World) (g : Nat) (s : Sg) : Prop := w.heap[g]? = some (.cells #[.int .u64 s.tx, .int .u8 s.st, .int .u64 s.num, .int .u32 s.fp, .int .u32 s.lp, .int .u32 s.hp, .int .u16 s.hs] 52 (0, 0))
theorem SgBox.new (w : World) (s : Sg) : SgBox (w.alloc (.cells #[.int .u64 s.tx, .int .u8 s.st, .int .u64 s.num, .int .u32 s.fp, .int .u32 s.lp, .int .u32 s.hp, .int .u16 s.hs] 52)) w.heap.size s := heap_alloc_new w _
section
variable {w w' : World} {g : Nat} {s : Sg}
theorem SgBox.lt (h : SgBox w g s) : g < w.heap.size := blk_lt h
theorem SgBox.below (h : SgBox w g s) (hb : Below w.heap.size w w') : SgBox w' g s := (hb.block _ (blk_lt h)).trans h
theorem SgBox.keep (h : SgBox w g s) (o : Obj) : SgBox (w.alloc o) g s := heap_keep h
theorem SgBox.cells (h : SgBox w g s) : g < w.heap.size ∧ w.cell? ⟨g, 0, none⟩ = some (.int .u64 s.tx) ∧ w.cell? ⟨g, 1, none⟩ = some (.int .u8 s.st) ∧ w.cell? ⟨g, 2, none⟩ = some (.int .u64 s.num) ∧ w.cell? ⟨g, 3, none⟩ = some (.int .u32 s.fp) ∧ w.cell? ⟨g, 4, none⟩ = some (.int .u32 s.lp) ∧ w.cell? ⟨g, 5, none⟩ = some (.int .u32 s.hp) ∧ w.cell? ⟨g, 6, none⟩ = some (.int .u16 s.hs) := by
  unfold SgBox at h
  exact ⟨blk_lt h, by rw [blk_cell h]; rfl, by rw [blk_cell h]; rfl, by rw [blk_cell h]; rfl, by rw [blk_cell h]; rfl, by rw [blk_cell h]; rfl, by rw [blk_cell h]; rfl, by rw [blk_cell h]; rfl⟩
theorem SgBox.fr (h : SgBox w g s) : w.frozen? ⟨g, 0, none⟩ = false ∧ w.frozen? ⟨g, 1, none⟩ = false ∧ w.frozen? ⟨g, 2, none⟩ = false ∧ w.frozen? ⟨g, 3, none⟩ = false ∧ w.frozen? ⟨g, 4, none⟩ = false ∧ w.frozen? ⟨g, 5, none⟩ = false ∧ w.frozen? ⟨g, 6, none⟩ = false :=
  ⟨blk_frozen h _, blk_frozen h _, blk_frozen h _, blk_frozen h _, blk_frozen h _, blk_frozen h _, blk_frozen h _⟩
theorem SgBox.kept {q : Nat → Prop} (h : SgBox w g s) (hk : OthersKept w w' q) (hq : ¬ q g) : SgBox w' g s := hk.heap h hq
end
set_option maxRecDepth 100000 in
/-- A row stored whole into its box. -/
theorem wpList_store_sg {ops : Array Oper} {rest : List Oper} {o : Oper} {a : Act} {w : World} {Q : Exit → Act → World → Prop} (hgd : o.guard = none) (x y : Operand) (ho : o.op = .store 52 x y)
    {g : Nat} {s : Sg} (h : SgBox w g s) (d : Sg)
    (hx : a.eval x = .pointer (some ⟨g, 0, none⟩)) (hy : a.eval y = .agg #[.int .u64 d.tx, .int .u8 d.st, .int .u64 d.num, .int .u32 d.fp, .int .u32 d.lp, .int .u32 d.hp, .int .u16 d.hs])
    (hk : ∀ W, SgBox W g d → OthersKept w W (fun x => x = g) → wpList Tryz.prog ops Q rest (a.put o.dst undef) W) : wpList Tryz.prog ops Q (o :: rest) a w :=
  wpList_store_row hgd 52 x y ho g _ hx hy 52 _ h (by kernel_rfl) rfl (by simp [Value.oneCell']) (hk _ (setRow_heap w g _ _ _ _ h) (setRow_kept _ _ _))
theorem results_sg {fn : Func} {p u : Tmp} (h : fn.results = #[.cell p 52, .tmp u]) (tmps : Array Value) (w : World) {g : Nat} {s : Sg} (hp : tmps.getD p undef = .pointer (some ⟨g, 0, none⟩)) (hb : SgBox w g s) :
    (results fn tmps).run Tryz.prog w = .ok (.tuple #[sgV s, tmps.getD u undef]) w := by
  unfold SgBox at hb
  rw [results_cell_tmp h, hp]
  simp [asAddr, run_loadVar_row w g 52 52 _ (0, 0) _ hb Tryz.underlying52 rfl (by kernel_rfl), Result.andThen, sgV]
end Go.Proofs.YtienlhnbmobinaaGreat
end

section
/- chapter 22: which row bytes are (seg.Decode, the reference's) -/
namespace Go.Proofs.YtienlhnbmobinaaGreat
open Go.RowKit
set_option linter.unusedVariables false
set_option linter.unusedSimpArgs false
/-- The frame of seg.Decode: block B has the bytes, B + 1 the result, B + 1 + 1 the place. -/
structure SDe (B : Nat) (w0 : World) (l : List UInt8) (i : Nat) (w : World) : Prop where
  below : Below B w0 w
  size : B + 3 ≤ w.heap.size
  str : w.heap[B]? = some (.cells #[.string ⟨l.toArray⟩] 9 (0, 0))
  res : SgBox w (B + 1) Sg.zero
  pos : w.heap[B + 1 + 1]? = some (.cells #[.int .i64 i] 3 (0, 0))
theorem SDe.keep {B : Nat} {w0 w w' : World} {l : List UInt8} {i : Nat} (h : SDe B w0 l i w) (hb : Below w.heap.size w w') : SDe B w0 l i w' :=
  ⟨h.below.trans (hb.mono (by have := h.size; omega)), Nat.le_trans h.size hb.size, (hb.block _ (blk_lt h.str)).trans h.str, h.res.below hb, (hb.block _ (blk_lt h.pos)).trans h.pos⟩
theorem SDe.set {B : Nat} {w0 w : World} {l : List UInt8} {i : Nat} (h : SDe B w0 l i w) (x j : Nat) (u : Value) (hx : B + 3 ≤ x) : SDe B w0 l i (w.setCell ⟨x, j, none⟩ u) :=
  ⟨h.below.setCell (by show B ≤ x; omega) u, by simpa [World.setCell] using h.size, set_keep h.str (by omega), set_keep h.res (by omega), set_keep h.pos (by omega)⟩
theorem SDe.step {B : Nat} {w0 w wz : World} {l : List UInt8} {i : Nat} (h : SDe B w0 l i w) (hb : Below w.heap.size w wz) (j : Nat) : SDe B w0 l j (wz.setCell ⟨B + 1 + 1, 0, none⟩ (.int .i64 j)) := by
  have h := h.keep hb
  exact ⟨h.below.setCell (by show B ≤ B + 1 + 1; omega) _, by rw [set_lt]; exact h.size, set_keep h.str (by omega), set_keep h.res (by omega), blk_set h.pos 0 _⟩
theorem SDe.new (w : World) (l : List UInt8) : SDe w.heap.size w l 0 (((w.alloc (.cells #[.string ⟨l.toArray⟩] 9)).alloc (.cells #[.int .u64 0, .int .u8 0, .int .u64 0, .int .u32 0, .int .u32 0, .int .u32 0, .int .u16 0] 52)).alloc (.cells #[.int .i64 0] 3)) := by
  have z1 : (w.alloc (.cells #[.string ⟨l.toArray⟩] 9)).heap.size = w.heap.size + 1 := by simp
  have z2 : ((w.alloc (.cells #[.string ⟨l.toArray⟩] 9)).alloc (.cells #[.int .u64 0, .int .u8 0, .int .u64 0, .int .u32 0, .int .u32 0, .int .u32 0, .int .u16 0] 52)).heap.size = w.heap.size + 1 + 1 := by simp
  refine ⟨(((Below.refl _ _).alloc (Nat.le_refl _) _).alloc (by simp) _).alloc (by simp; omega) _, by simp, heap_keep (heap_keep (heap_alloc_new w _)), ?_, ?_⟩
  · have := heap_alloc_new (w.alloc (.cells #[.string ⟨l.toArray⟩] 9)) (.cells #[.int .u64 0, .int .u8 0, .int .u64 0, .int .u32 0, .int .u32 0, .int .u32 0, .int .u16 0] 52)
    rw [z1] at this
    exact heap_keep this
  · have := heap_alloc_new ((w.alloc (.cells #[.string ⟨l.toArray⟩] 9)).alloc (.cells #[.int .u64 0, .int .u8 0, .int .u64 0, .int .u32 0, .int .u32 0, .int .u32 0, .int .u16 0] 52)) (.cells #[.int .i64 0] 3)
    rw [z2] at this
    exact this
theorem sde_far {B : Nat} {w wz : World} (hb : Below w.heap.size w wz) (j : Value) (g : Nat) (hg : B + 3 ≤ g) (hl : g < w.heap.size) : (wz.setCell ⟨B + 1 + 1, 0, none⟩ j).heap[g]? = w.heap[g]? := by
  rw [Below.heap_setCell _ _ _ g (by show g ≠ B + 1 + 1; omega)]
  exact hb.block g hl
set_option maxHeartbeats 1000000 in
set_option maxRecDepth 100000 in
theorem segNext (l : List UInt8) (B i k : Nat) (w0 w : World) (hs : l.length = 31) (hi : i ≤ 31) (h1 : 1 ≤ k) (h8 : k ≤ 8) (h : SDe B w0 l i w) :
    Calls Tryz.prog 94 #[.int .i64 k, .pointer (some ⟨B, 0, none⟩), .pointer (some ⟨B + 1 + 1, 0, none⟩)] w fun e w' =>
      e = .returned (.int .u64 (rdNum l i k)) ∧ SDe B w0 l (i + k) w' ∧ w.heap.size ≤ w'.heap.size ∧ ∀ g, B + 3 ≤ g → g < w.heap.size → w'.heap[g]? = w.heap[g]? := by
  have G := Lib.hid fun W => wGet l i k W (by omega) (by omega) h1 h8
  have hwr : IntKind.i64.wrap ((i : Int) + (k : Int)) = ((i + k : Nat) : Int) := by
    rw [show ((i + k : Nat) : Int) = (i : Int) + (k : Int) by omega]
    exact IntWalk.i64_in _ ⟨by omega, by omega⟩
  generalize decide (i + k ≤ l.length) = b at *
  generalize rdNum l i k = n at *
  clear hi h1 h8 hs
  have c0 := blk_cell h.str 0
  have c1 := blk_cell h.pos 0
  have H := Lib.hid h
  clear h
  go_enter Tryz.func94, Tryz.ntmps94
  go_wp2_with fail
  refine (G.out _).mono ?_
  rintro e w1 ⟨rfl, hb⟩
  have h1 := H.out.keep hb
  have c1 := blk_cell h1.pos 0
  have f1 := blk_frozen h1.pos 0
  clear h1 c0
  have Hb := Lib.hid hb
  clear hb
  go_wp2_with fail
  go_ret
  exact ⟨rfl, H.out.step Hb.out _, by rw [set_lt]; exact Hb.out.size, sde_far Hb.out _⟩
def sgDecV (l : List UInt8) : Value := .tuple #[sgV ((sgDec l).getD Sg.zero), .int .i64 (if (sgDec l).isSome then 0 else 7)]
set_option maxHeartbeats 4000000 in
set_option maxRecDepth 100000 in
theorem segDecode_any (l : List UInt8) (w : World) (hs : l.length ≤ 1000000) : Calls Tryz.prog 82 #[.string ⟨l.toArray⟩] w fun e w' => e = .returned (sgDecV l) ∧ Below w.heap.size w w' := by
  have hsz : (⟨l.toArray⟩ : ByteArray).size = l.length := by simp [ByteArray.size]
  have M := Lib.hid fun s W => segMay_any s W
  have hV : sgDecV l = .tuple #[sgV ((sgDec l).getD Sg.zero), .int .i64 (if (sgDec l).isSome then 0 else 7)] := rfl
  generalize sgDecV l = V at *
  by_cases hl : l.length = 31
  case neg =>
    have hne : ((l.length : Int) != 31) = true := by simp; omega
    have hd : sgDec l = none := by unfold sgDec; rw [if_neg (fun h => hl h.1)]
    rw [hd] at hV
    have HV := Lib.hid hV
    have HS := Lib.hid (heap_keep (o := .cells #[.int .u64 0, .int .u8 0, .int .u64 0, .int .u32 0, .int .u32 0, .int .u32 0, .int .u16 0] 52) (heap_alloc_new w (.cells #[.string ⟨l.toArray⟩] 9)))
    have HB : Hid (SgBox ((w.alloc (.cells #[.string ⟨l.toArray⟩] 9)).alloc (.cells #[.int .u64 0, .int .u8 0, .int .u64 0, .int .u32 0, .int .u32 0, .int .u32 0, .int .u16 0] 52)) (w.heap.size + 1) Sg.zero) := by
      have h := heap_alloc_new (w.alloc (.cells #[.string ⟨l.toArray⟩] 9)) (.cells #[.int .u64 0, .int .u8 0, .int .u64 0, .int .u32 0, .int .u32 0, .int .u32 0, .int .u16 0] 52)
      rw [World.size_alloc] at h
      exact h
    have B0 := Lib.hid ((alloc_below w (.cells #[.string ⟨l.toArray⟩] 9)).alloc (by simp) (.cells #[.int .u64 0, .int .u8 0, .int .u64 0, .int .u32 0, .int .u32 0, .int .u32 0, .int .u16 0] 52))
    clear hV hd
    go_enter Tryz.func82, Tryz.ntmps82
    go_upto_region 1 with fail
    generalize (w.alloc (.cells #[.string ⟨l.toArray⟩] 9)).alloc (.cells #[.int .u64 0, .int .u8 0, .int .u64 0, .int .u32 0, .int .u32 0, .int .u32 0, .int .u16 0] 52) = w0 at *
    have c0 := blk_cell HS.out 0
    go_wp2_with (refine wpList_store_sg rfl (.tmp 2) (.tmp 10) rfl HB.out Sg.zero (by rfl) (by rfl) ?_; intro wS hP hK; have PF := Lib.hid hP; have KF := Lib.hid hK; clear hP hK)
    refine bodyPost_ret (results_sg rfl _ _ rfl PF.out) rfl ⟨?_, OthersKept.below B0.out KF.out (fun k hk e => by omega)⟩
    exact congrArg Ending.returned HV.out.symm
  case pos =>
    have hne : ((l.length : Int) != 31) = false := by simp [hl]
    have hdm : Hid (sgDec l = if (sgOf l).may then some (sgOf l) else none) := by
      show _ = _
      unfold sgDec
      by_cases hm : (sgOf l).may = true
      · rw [if_pos ⟨hl, hm⟩, if_pos hm]
      · rw [if_neg (fun h => hm h.2), if_neg hm]
    have hwf := sgOf_wf l
    have HN := Lib.hid fun (i k : Nat) W (hi : i ≤ 31) (h1 : 1 ≤ k) (h8 : k ≤ 8) (h : SDe w.heap.size w l i W) => segNext l w.heap.size i k w W hl hi h1 h8 h
    have HE := Lib.hid (SDe.new w l)
    have hs0 := Lib.hid (heap_keep (o := .cells #[.int .u64 0, .int .u8 0, .int .u64 0, .int .u32 0, .int .u32 0, .int .u32 0, .int .u16 0] 52) (heap_alloc_new w (.cells #[.string ⟨l.toArray⟩] 9)))
    obtain ⟨n0, e0⟩ : ∃ n, n = rdNum l 0 8 := ⟨_, rfl⟩
    obtain ⟨n1, e1⟩ : ∃ n, n = rdNum l 8 1 := ⟨_, rfl⟩
    obtain ⟨n2, e2⟩ : ∃ n, n = rdNum l 9 8 := ⟨_, rfl⟩
    obtain ⟨n3, e3⟩ : ∃ n, n = rdNum l 17 4 := ⟨_, rfl⟩
    obtain ⟨n4, e4⟩ : ∃ n, n = rdNum l 21 4 := ⟨_, rfl⟩
    obtain ⟨n5, e5⟩ : ∃ n, n = rdNum l 25 4 := ⟨_, rfl⟩
    obtain ⟨n6, e6⟩ : ∃ n, n = rdNum l 29 2 := ⟨_, rfl⟩
    have hof : sgOf l = ⟨n0, n1, n2, n3, n4, n5, n6⟩ := by rw [e0, e1, e2, e3, e4, e5, e6]; rfl
    rw [hof] at hdm hwf
    obtain ⟨q0, q1, q2, q3, q4, q5, q6⟩ := hwf
    simp only [Nat.reducePow] at q0 q1 q2 q3 q4 q5 q6
    have C0 := Lib.hid fun W h => HN.out 0 8 W (by omega) (by omega) (by omega) h
    have C1 := Lib.hid fun W h => HN.out 8 1 W (by omega) (by omega) (by omega) h
    have C2 := Lib.hid fun W h => HN.out 9 8 W (by omega) (by omega) (by omega) h
    have C3 := Lib.hid fun W h => HN.out 17 4 W (by omega) (by omega) (by omega) h
    have C4 := Lib.hid fun W h => HN.out 21 4 W (by omega) (by omega) (by omega) h
    have C5 := Lib.hid fun W h => HN.out 25 4 W (by omega) (by omega) (by omega) h
    have C6 := Lib.hid fun W h => HN.out 29 2 W (by omega) (by omega) (by omega) h
    rw [← e0] at C0
    rw [← e1] at C1
    rw [← e2] at C2
    rw [← e3] at C3
    rw [← e4] at C4
    rw [← e5] at C5
    rw [← e6] at C6
    have v1 : IntKind.u8.wrap (n1 : Int) = n1 := IntWalk.u8_in _ ⟨by omega, by omega⟩
    have v3 : IntKind.u32.wrap (n3 : Int) = n3 := IntWalk.u32_in _ ⟨by omega, by omega⟩
    have v4 : IntKind.u32.wrap (n4 : Int) = n4 := IntWalk.u32_in _ ⟨by omega, by omega⟩
    have v5 : IntKind.u32.wrap (n5 : Int) = n5 := IntWalk.u32_in _ ⟨by omega, by omega⟩
    have v6 : IntKind.u16.wrap (n6 : Int) = n6 := IntWalk.u16_in _ ⟨by omega, by omega⟩
    have HDM := Lib.hid hdm.out
    have HV := Lib.hid hV
    clear hdm hV hof HN e0 e1 e2 e3 e4 e5 e6
    go_enter Tryz.func82, Tryz.ntmps82
    go_upto_region 1 with fail
    have c0 := blk_cell hs0.out 0
    go_wp2_with fail
    refine (C0.out _ HE.out).mono ?_
    rintro e w1 ⟨rfl, h, hz, _⟩
    have H1 := Lib.hid h
    clear h hz c0 hs0 HE C0
    go_wp2_with fail
    refine (C1.out _ H1.out).mono ?_
    rintro e w2 ⟨rfl, h, hz, _⟩
    have H2 := Lib.hid h
    clear h hz H1 C1
    go_wp2_with fail
    refine (C2.out _ H2.out).mono ?_
    rintro e w3 ⟨rfl, h, hz, _⟩
    have H3 := Lib.hid h
    clear h hz H2 C2
    go_wp2_with fail
    refine (C3.out _ H3.out).mono ?_
    rintro e w4 ⟨rfl, h, hz, _⟩
    have H4 := Lib.hid h
    clear h hz H3 C3
    go_wp2_with fail
    refine (C4.out _ H4.out).mono ?_
    rintro e w5 ⟨rfl, h, hz, _⟩
    have H5 := Lib.hid h
    clear h hz H4 C4
    go_upto_region 6 with fail
    have HX5 := Lib.hid (SgBox.new w5 ⟨n0, n1, n2, n3, n4, 0, 0⟩)
    have HK5 := Lib.hid (H5.out.keep (alloc_below w5 (.cells #[.int .u64 n0, .int .u8 n1, .int .u64 n2, .int .u32 n3, .int .u32 n4, .int .u32 0, .int .u16 0] 52)))
    have hgs : w.heap.size + 3 ≤ w5.heap.size := H5.out.size
    have hlt : w5.heap.size < (w5.alloc (.cells #[.int .u64 n0, .int .u8 n1, .int .u64 n2, .int .u32 n3, .int .u32 n4, .int .u32 0, .int .u16 0] 52)).heap.size := by simp
    have HX : Hid (SgBox (w5.alloc (.cells #[.int .u64 n0, .int .u8 n1, .int .u64 n2, .int .u32 n3, .int .u32 n4, .int .u32 0, .int .u16 0] 52)) w5.heap.size ⟨n0, n1, n2, n3, n4, 0, 0⟩) := HX5.out
    clear HX5 H5
    generalize w5.alloc (.cells #[.int .u64 n0, .int .u8 n1, .int .u64 n2, .int .u32 n3, .int .u32 n4, .int .u32 0, .int .u16 0] 52) = w6 at *
    obtain ⟨X, hX⟩ : ∃ X, X = w5.heap.size := ⟨_, rfl⟩
    rw [← hX] at HX hgs hlt ⊢
    clear hX
    go_wp2_with fail
    refine (C5.out _ HK5.out).mono ?_
    rintro e w7 ⟨rfl, h, hz, hk⟩
    have H7 := Lib.hid h
    have X7 : Hid (SgBox w7 X ⟨n0, n1, n2, n3, n4, 0, 0⟩) := (hk X hgs hlt).trans HX.out
    clear h hz hk HK5 HX C5
    have c5 := blk_cell X7.out 5
    have f5 := blk_frozen X7.out 5
    have X8 : Hid (SgBox (w7.setCell ⟨X, 5, none⟩ (.int .u32 n5)) X ⟨n0, n1, n2, n3, n4, n5, 0⟩) := blk_set X7.out 5 (.int .u32 n5)
    have H8 := Lib.hid (H7.out.set X 5 (.int .u32 n5) hgs)
    have hlt8 := X8.out.lt
    clear X7 H7
    go_upto_region 7 with fail
    generalize w7.setCell ⟨X, 5, none⟩ (.int .u32 n5) = w8 at *
    clear c5 f5
    go_wp2_with fail
    refine (C6.out _ H8.out).mono ?_
    rintro e w9 ⟨rfl, h, hz, hk⟩
    have H9 := Lib.hid h
    have X9 : Hid (SgBox w9 X ⟨n0, n1, n2, n3, n4, n5, 0⟩) := (hk X hgs hlt8).trans X8.out
    clear h hz hk H8 X8 C6
    have c6 := blk_cell X9.out 6
    have f6 := blk_frozen X9.out 6
    have XA : Hid (SgBox (w9.setCell ⟨X, 6, none⟩ (.int .u16 n6)) X ⟨n0, n1, n2, n3, n4, n5, n6⟩) := blk_set X9.out 6 (.int .u16 n6)
    have HA := Lib.hid (H9.out.set X 6 (.int .u16 n6) hgs)
    clear X9 H9
    go_upto_region 8 with fail
    generalize w9.setCell ⟨X, 6, none⟩ (.int .u16 n6) = wA at *
    clear c6 f6
    obtain ⟨xl, x0, x1, x2, x3, x4, x5, x6⟩ := XA.out.cells
    simp only at x0 x1 x2 x3 x4 x5 x6
    have MM := Lib.hid fun W => M.out ⟨n0, n1, n2, n3, n4, n5, n6⟩ W
    unfold sgV at MM
    simp only at MM
    obtain ⟨b, hb0⟩ : ∃ b, b = Sg.may ⟨n0, n1, n2, n3, n4, n5, n6⟩ := ⟨_, rfl⟩
    rw [← hb0] at MM
    have HB0 := Lib.hid hb0
    clear hb0 M
    go_wp2_with fail
    refine (MM.out _).mono ?_
    rintro e wB ⟨rfl, hb⟩
    have HB := Lib.hid (HA.out.keep hb)
    have XB := Lib.hid (XA.out.below hb)
    clear hb HA XA x0 x1 x2 x3 x4 x5 x6 xl MM
    obtain ⟨xl, x0, x1, x2, x3, x4, x5, x6⟩ := XB.out.cells
    simp only at x0 x1 x2 x3 x4 x5 x6
    cases b with
    | false =>
      go_wp2_with (refine wpList_store_sg rfl (.tmp 2) (.tmp 39) rfl HB.out.res Sg.zero (by rfl) (by rfl) ?_; intro wS hP hK; have PF := Lib.hid hP; have KF := Lib.hid hK; clear hP hK)
      refine bodyPost_ret (results_sg rfl _ _ rfl PF.out) rfl ⟨?_, OthersKept.below HB.out.below KF.out (fun k hk e => by omega)⟩
      exact congrArg Ending.returned (by rw [HV.out, HDM.out, ← HB0.out]; rfl)
    | true =>
      go_wp2_with (refine wpList_store_sg rfl (.tmp 2) (.tmp 40) rfl HB.out.res ⟨n0, n1, n2, n3, n4, n5, n6⟩ (by rfl) (by rfl) ?_; intro wS hP hK; have PF := Lib.hid hP; have KF := Lib.hid hK; clear hP hK)
      refine bodyPost_ret (results_sg rfl _ _ rfl PF.out) rfl ⟨?_, OthersKept.below HB.out.below KF.out (fun k hk e => by omega)⟩
      exact congrArg Ending.returned (by rw [HV.out, HDM.out, ← HB0.out]; rfl)
end Go.Proofs.YtienlhnbmobinaaGreat
end

section
/- page.Same, Room; ref06.Same, Room -/
namespace Go.Proofs.YtienlhnbmobinaaGreat
open Go.RowKit
set_option linter.unusedVariables false
set_option linter.unusedSimpArgs false
theorem run_max_neg {P : Program} (x : Int) (ats : Array TypeId) (ty : TypeId) (W : World) : (Builtin.max_ ats ty #[.int .i64 x, .int .i64 (-1)]).run P W = .ok (.int .i64 (if x < -1 then -1 else x)) W := by
  simp [Builtin.max_, Builtin.max2]
set_option maxHeartbeats 2000000 in
set_option maxRecDepth 100000 in
theorem pageRoom_any (p : Pg) (sv : Value) (w : World) (ht : TextsAt w sv p.rows) (hb : weightB p.rows ≤ 1000000) :
    Calls Tryz.prog 29 #[pgV p sv] w fun e w' => e = .returned (.int .i64 (roomB p.rows)) ∧ Below w.heap.size w w' := by
  obtain ⟨kind, level, id, lsn, next, rows⟩ := p
  obtain ⟨A, cp, rfl, h2, h3, h4, h5⟩ := ht
  simp only at *
  obtain ⟨n, hn⟩ : ∃ n, n = rows.length := ⟨_, rfl⟩
  rw [← hn] at h2
  unfold pgV
  simp only [← hn]
  unfold maxLen at h3
  have hM : Hid (∀ W : Nat, W = weightB rows → roomB rows = if 480 - (W : Int) < -1 then -1 else 480 - (W : Int)) := by
    rintro W rfl
    rfl
  have H5 := Lib.hid h5
  have HN := Lib.hid hn
  clear h5 h4 hn
  generalize roomB rows = b at hM ⊢
  go_enter Tryz.func29, Tryz.ntmps29
  go_wp2_with fail
  go_loopw [3, 5, 9] (fun s3 s5 s9 wr => ∃ i : Nat, s9 = .int .i64 i ∧ i ≤ n ∧ wr = w.alloc (.cells #[.int .u8 kind, .int .u8 level, .int .u32 id, .int .u64 lsn, .int .u32 next, .slice A n cp] 26) ∧ s3 = .int .i64 (480 - (weightB (rows.take i) : Nat))) (fun _ _ v _ => n - (intOf v).toNat)
  case atStart => exact ⟨0, rfl, Nat.zero_le _, rfl, rfl⟩
  case round =>
    obtain ⟨i, rfl, hi, rfl, rfl⟩ := hrel
    by_cases hc : i < n
    · have hci : (i : Int) < (n : Int) := by omega
      have hix : i < rows.length := by rw [← HN.out]; exact hc
      obtain ⟨b0, o0, rfl, hb0, hcell⟩ := H5.out (by omega)
      have c1 := (Below.cell ((Below.refl w.heap.size w).alloc (Nat.le_refl _) (.cells #[.int .u8 kind, .int .u8 level, .int .u32 id, .int .u64 lsn, .int .u32 next, .slice (some ⟨b0, o0, none⟩) n cp] 26)) (show (⟨b0, o0 + i, none⟩ : Addr).block < w.heap.size from hb0)).trans (hcell i hix)
      have q1 : (0 : Int) ≤ (i : Int) := by omega
      have hw1 := weightB_take rows i hix
      have hw2 := weightB_take_le rows (i + 1)
      obtain ⟨s, hs⟩ : ∃ s : ByteArray, s = ⟨rows[i].toArray⟩ := ⟨_, rfl⟩
      have hsz : s.size = rows[i].length := by rw [hs]; simp [ByteArray.size]
      rw [← hs] at c1
      rw [← hsz] at hw1
      have HW := Lib.hid hw1
      have q2 : weightB (rows.take i) + (4 + s.size) ≤ 1000000 := by omega
      clear hcell hs hsz hw1 hw2
      generalize weightB (rows.take i) = W at *
      go_wp2_with fail
      go_roundw
      case rel => exact ⟨i + 1, by go_num, by omega, by first | rfl | trivial, by rw [HW.out]; go_num⟩
      case measure => simp [intOf] <;> omega
    · have hci : ¬ (i : Int) < (n : Int) := by omega
      have hin : rows.take i = rows := by rw [List.take_of_length_le]; rw [← HN.out]; omega
      have hM2 := Lib.hid (hM.out (weightB (rows.take i)) (by rw [hin]))
      clear hin hM
      have hle := weightB_take_le rows i
      generalize weightB (rows.take i) = W at *
      have hM3 := Lib.hid (run_max_neg (P := Tryz.prog) (480 - (W : Int)))
      have hMX : ∀ (ats : Array TypeId) (ty : TypeId) (wx : World), (Builtin.max_ ats ty #[.int .i64 (480 - (W : Int)), .int .i64 (-1)]).run Tryz.prog wx = .ok (.int .i64 b) wx := fun ats ty wx => by rw [hM3.out ats ty wx, hM2.out]
      go_wp2_with fail
      go_ret
      exact ⟨rfl, (Below.refl _ _).alloc (Nat.le_refl _) _⟩
def roomV (rows : List (List UInt8)) : Int := if (484 : Int) - (weightB rows : Nat) - 4 < 0 then -1 else (484 : Int) - (weightB rows : Nat) - 4
theorem roomV_eq (rows : List (List UInt8)) : roomV rows = roomB rows := by
  unfold roomV roomB
  split <;> split <;> omega
set_option maxHeartbeats 2000000 in
theorem refRoom06_any (p : Pg) (sv : Value) (w : World) (ht : TextsAt w sv p.rows) (hb : weightB p.rows ≤ 1000000) :
    Calls Tryz.prog 7 #[pgV p sv] w fun e w' => e = .returned (.int .i64 (roomV p.rows)) ∧ Below w.heap.size w w' := by
  have C := Lib.hid fun W (hW : TextsAt W sv p.rows) => refLeft_any p sv W hW hb
  have HT := Lib.hid ht
  obtain ⟨v, hv⟩ : ∃ v, v = roomV p.rows := ⟨_, rfl⟩
  rw [← hv]
  have HV := Lib.hid hv
  obtain ⟨kind, level, id, lsn, next, rows⟩ := p
  obtain ⟨A, cp, rfl, h2, h3, h4, h5⟩ := ht
  obtain ⟨n, hn⟩ : ∃ n, n = rows.length := ⟨_, rfl⟩
  simp only at *
  rw [← hn] at HT C ⊢
  obtain ⟨wt, hwt⟩ : ∃ k, k = weightB rows := ⟨_, rfl⟩
  rw [← hwt] at hb C
  have HWT := Lib.hid hwt
  clear hn h2 h3 h4 h5 hv hwt
  unfold pgV at *
  simp only at C
  have P0 := PgBox.new w kind level id lsn next (.slice A n cp)
  have B0 := Lib.hid (alloc_below w (.cells #[.int .u8 kind, .int .u8 level, .int .u32 id, .int .u64 lsn, .int .u32 next, .slice A n cp] 26))
  go_enter Tryz.func7, Tryz.ntmps7
  go_upto_region 1 with fail
  generalize w.alloc (.cells #[.int .u8 kind, .int .u8 level, .int .u32 id, .int .u64 lsn, .int .u32 next, .slice A n cp] 26) = w0 at *
  obtain ⟨_, p0, p1, p2, p3, p4, p5⟩ := P0.cells
  go_wp2_with fail
  refine (C.out _ (HT.out.below B0.out)).mono ?_
  rintro e w1 ⟨rfl, hb1⟩
  have B1 := Lib.hid (below_then B0.out hb1)
  clear hb1 p0 p1 p2 p3 p4 p5 P0 B0 C
  have m1 : IntKind.i64.wrap ((484 : Int) - (wt : Nat) - 4) = (484 : Int) - (wt : Nat) - 4 := IntWalk.i64_in _ ⟨by omega, by omega⟩
  by_cases hc : (484 : Int) - (wt : Nat) - 4 < 0
  · have HX : Hid (v = -1) := by show _ = _; rw [HV.out]; unfold roomV; rw [← HWT.out, if_pos hc]
    go_wp2_with fail
    go_ret
    exact ⟨by rw [HX.out]; rfl, B1.out⟩
  · have HX : Hid (v = (484 : Int) - (wt : Nat) - 4) := by show _ = _; rw [HV.out]; unfold roomV; rw [← HWT.out, if_neg hc]
    go_wp2_with fail
    go_ret
    exact ⟨by rw [HX.out]; rfl, B1.out⟩
end Go.Proofs.YtienlhnbmobinaaGreat
end
