/- Kept of our texts for this claim: OpLaw -/
import Derived.Test.YtienlhnbmobinaaGreatRows
import Derived.Test.YtienlhnbmobinaaGreatAdAa
import Derived.Test.YtienlhnbmobinaaGreatAdAk
import Derived.WalkKit
import Derived.WalkLawsBesides
import Derived.WalkSpells
import Derived.LoopTactic
import Derived.WalkMore
import Derived.LoopN
import Derived.Laws.BitsAllLaws
import Derived.Laws.IdiomStrings
import Derived.BigQuiet
import Derived.Deep.QuietTactic
import Derived.Deep.DeepCutAuto
import Derived.Deep.RegionHeld3
import Derived.Deep.DrawnRows
import Derived.Lib.Hide
import Derived.Outline
import Derived.Deep.DeepMust
import Derived.Handy
section
/- chapter 11: writing and reading ops, the plain law -/
namespace Go.Proofs.YtienlhnbmobinaaGreat
open Go.RowKit
set_option linter.unusedVariables false
set_option linter.unusedSimpArgs false
/-- The number at the front of bytes, and the rest. -/
def numO (k : Nat) (l : List UInt8) : Option (Nat × List UInt8) := if k ≤ l.length then some (un (l.take k), l.drop k) else none
/-- The text at the front of bytes, its length ahead, and the rest. -/
def textO (l : List UInt8) : Option (List UInt8 × List UInt8) := (numO 2 l).bind fun p => if p.1 ≤ p.2.length then some (p.2.take p.1, p.2.drop p.1) else none
def rowsO : Nat → List UInt8 → Option (List (List UInt8) × List UInt8)
  | 0, l => some ([], l)
  | k + 1, l => (textO l).bind fun p => (rowsO k p.2).map fun q => (p.1 :: q.1, q.2)
theorem numO_some {k n : Nat} {l r : List UInt8} (h : numO k l = some (n, r)) : l = be k n ++ r ∧ n < 256 ^ k := by
  unfold numO at h
  split at h
  · rename_i hk
    simp only [Option.some.injEq, Prod.mk.injEq] at h
    obtain ⟨h1, h2⟩ := h
    have hl : (l.take k).length = k := by simp; omega
    rw [← h1, ← h2]
    exact ⟨by rw [be_un k _ hl, List.take_append_drop], un_lt k _ hl⟩
  · cases h
theorem numO_be (k n : Nat) (r : List UInt8) (h : n < 256 ^ k) : numO k (be k n ++ r) = some (n, r) := by
  have hl := be_length k n
  unfold numO
  rw [if_pos (by rw [List.length_append, hl]; omega), List.take_left' hl, List.drop_left' hl, un_be_fits k n h]
theorem numO_at {s : List UInt8} {a k : Nat} (ha : a ≤ s.length) : numO k (s.drop a) = if a + k ≤ s.length then some (rdNum s a k, s.drop (a + k)) else none := by
  unfold numO rdNum
  by_cases h : a + k ≤ s.length
  · rw [if_pos (by rw [List.length_drop]; omega), if_pos h, if_pos h, List.drop_drop]
  · rw [if_neg (by rw [List.length_drop]; omega), if_neg h]
theorem textO_some {l t r : List UInt8} (h : textO l = some (t, r)) : l = pieceB t ++ r ∧ t.length < 65536 := by
  unfold textO at h
  rw [Option.bind_eq_some_iff] at h
  obtain ⟨⟨n, q⟩, h1, h2⟩ := h
  obtain ⟨h3, h4⟩ := numO_some h1
  simp only at h2
  split at h2
  · rename_i hn
    simp only [Option.some.injEq, Prod.mk.injEq] at h2
    obtain ⟨h5, h6⟩ := h2
    have hl : t.length = n := by rw [← h5, List.length_take]; omega
    refine ⟨?_, by rw [hl]; simpa using h4⟩
    unfold pieceB
    rw [h3, hl, ← h5, ← h6, List.append_assoc, List.take_append_drop]
  · cases h2
theorem textO_be (t r : List UInt8) (h : t.length < 65536) : textO (pieceB t ++ r) = some (t, r) := by
  unfold textO pieceB
  rw [List.append_assoc, numO_be 2 _ _ (by simpa using h)]
  simp
theorem textO_at {s : List UInt8} {a : Nat} (ha : a ≤ s.length) : textO (s.drop a) = if a + 2 ≤ s.length ∧ a + 2 + rdNum s a 2 ≤ s.length then some (rdText s (a + 2) (rdNum s a 2), s.drop (a + 2 + rdNum s a 2)) else none := by
  unfold textO
  rw [numO_at ha]
  by_cases h : a + 2 ≤ s.length
  · rw [if_pos h]
    simp only [Option.bind_some, List.length_drop]
    by_cases h2 : a + 2 + rdNum s a 2 ≤ s.length
    · rw [if_pos (by omega), if_pos ⟨h, h2⟩, List.drop_drop]
      unfold rdText
      rw [if_pos h2]
    · rw [if_neg (by omega), if_neg (fun h => h2 h.2)]
  · rw [if_neg h, if_neg (fun h2 => h h2.1)]
    rfl
theorem rowsO_some : ∀ (k : Nat) {l r : List UInt8} {ts : List (List UInt8)}, rowsO k l = some (ts, r) → l = ts.flatMap pieceB ++ r ∧ ts.length = k := by
  intro k
  induction k with
  | zero =>
    intro l r ts h
    simp only [rowsO, Option.some.injEq, Prod.mk.injEq] at h
    rw [← h.1, h.2]
    exact ⟨rfl, rfl⟩
  | succ k ih =>
    intro l r ts h
    simp only [rowsO, Option.bind_eq_some_iff, Option.map_eq_some_iff] at h
    obtain ⟨⟨t, q⟩, h1, ⟨us, r'⟩, h2, h3⟩ := h
    simp only [Prod.mk.injEq] at h3
    obtain ⟨h4, h5⟩ := textO_some h1
    obtain ⟨h6, h7⟩ := ih h2
    simp only at h6
    rw [← h3.1, ← h3.2, h4, h6]
    exact ⟨by simp, by simp [h7]⟩
theorem rowsO_be : ∀ (ts : List (List UInt8)) (r : List UInt8), (∀ t ∈ ts, t.length < 65536) → rowsO ts.length (ts.flatMap pieceB ++ r) = some (ts, r) := by
  intro ts
  induction ts with
  | nil => intro r h; rfl
  | cons t ts ih =>
    intro r h
    rw [List.flatMap_cons, List.append_assoc, List.length_cons, rowsO, textO_be t _ (h t (by simp))]
    simp only [Option.bind_some]
    rw [ih r (fun u hu => h u (by simp [hu]))]
    rfl
/-- What a part's limits are. -/
def Part.lim : Part → Od → Bool
  | .kind, o => decide (o.pk ≤ 5)
  | .level, o => true
  | .next, o => decide (o.nx ≤ 1024)
  | .place, o => decide (0 ≤ o.at_ ∧ o.at_ ≤ 488)
  | .off, o => decide (0 ≤ o.off ∧ o.off ≤ 488)
  | .text, o => decide (o.text.length ≤ 488)
  | .rows, o => decide (o.rows.length ≤ 488 ∧ lensB o.rows ≤ 488)
/-- A part's bytes. -/
def Part.enc : Part → Od → List UInt8
  | .kind, o => be 1 o.pk
  | .level, o => be 1 o.lv
  | .next, o => be 4 o.nx
  | .place, o => be 2 o.at_.toNat
  | .off, o => be 2 o.off.toNat
  | .text, o => pieceB o.text
  | .rows, o => be 2 o.rows.length ++ o.rows.flatMap pieceB
/-- A part read, without limits. -/
def Part.rdo : Part → Od → List UInt8 → Option (Od × List UInt8)
  | .kind, o, l => (numO 1 l).map fun p => ({ o with pk := p.1 }, p.2)
  | .level, o, l => (numO 1 l).map fun p => ({ o with lv := p.1 }, p.2)
  | .next, o, l => (numO 4 l).map fun p => ({ o with nx := p.1 }, p.2)
  | .place, o, l => (numO 2 l).map fun p => ({ o with at_ := (p.1 : Nat) }, p.2)
  | .off, o, l => (numO 2 l).map fun p => ({ o with off := (p.1 : Nat) }, p.2)
  | .text, o, l => (textO l).map fun p => ({ o with text := p.1 }, p.2)
  | .rows, o, l => (numO 2 l).bind fun p => (rowsO p.1 p.2).map fun q => ({ o with rows := o.rows ++ q.1 }, q.2)
theorem piece_bad (c : Cd) (u : List UInt8) (h : c.bad = true) : (c.piece u).bad = true := by
  unfold Cd.piece
  split <;> simp [Cd.num, Cd.numX, h]
theorem run_bad (p : Part) (c : Cd) (h : c.bad = true) : (p.run c).bad = true := by
  cases p
  case text => exact piece_bad c _ h
  all_goals simp [Part.run, Cd.set, Cd.num, Cd.numX, h]
theorem fold_bad (ps : List Part) : ∀ (c : Cd), c.bad = true → (ps.foldl (fun c (p : Part) => p.run c) c).bad = true := by
  induction ps with
  | nil => intro c h; exact h
  | cons p ps ih => intro c h; exact ih _ (run_bad p c h)
theorem rowsGo_w (o : Od) (a : Nat) : ∀ (k i all : Nat) (s : List UInt8), i + k = o.rows.length → all = lensB (o.rows.take i) → all ≤ 488 →
    (lensB o.rows ≤ 488 → Cd.rowsGo k i all ⟨o, s, a, false, false⟩ = ⟨o, s ++ (o.rows.drop i).flatMap pieceB, a, false, false⟩) ∧ (488 < lensB o.rows → (Cd.rowsGo k i all ⟨o, s, a, false, false⟩).bad = true) := by
  intro k
  induction k with
  | zero =>
    intro i all s hi ha hl
    rw [List.take_of_length_le (by omega)] at ha
    refine ⟨fun _ => ?_, fun _ => by omega⟩
    rw [List.drop_of_length_le (by omega)]
    simp [Cd.rowsGo]
  | succ k ih =>
    intro i all s hi ha hl
    have hlt : i < o.rows.length := by omega
    have ht := lensB_take o.rows i hlt
    have hle := lensB_take_le o.rows (i + 1)
    have hg : o.rows.getD i [] = o.rows[i] := by simp [hlt]
    rw [Cd.rowsGo]
    simp only [hg, Cd.pieceV, Bool.false_eq_true, if_false, Cd.piece, Cd.set, Cd.num, Cd.numX, Cd.numS, Bool.false_or]
    by_cases h : o.rows[i].length ≤ 488
    · by_cases h2 : all + o.rows[i].length ≤ 488
      · have e1 : (!decide (0 ≤ (o.rows[i].length : Int) ∧ (o.rows[i].length : Int) ≤ ((488 : Nat) : Int))) = false := by simp; omega
        rw [e1, decide_eq_false (by omega), Bool.or_false, if_neg (by simp), if_pos (by constructor <;> omega)]
        have := ih (i + 1) (all + o.rows[i].length) (s ++ be 2 o.rows[i].length ++ o.rows[i]) (by omega) (by omega) h2
        rw [Int.toNat_natCast]
        refine ⟨fun hx => ?_, this.2⟩
        rw [this.1 hx, List.drop_eq_getElem_cons hlt, List.flatMap_cons]
        simp [pieceB]
      · rw [if_pos (by simp; omega)]
        exact ⟨fun hx => by omega, fun _ => rfl⟩
    · rw [if_pos (by simp; omega)]
      exact ⟨fun hx => by omega, fun _ => rfl⟩
theorem run_w (p : Part) (o : Od) (s : List UInt8) (a : Nat) (hw : o.wf) : (p.lim o = true → p.run ⟨o, s, a, false, false⟩ = ⟨o, s ++ p.enc o, a, false, false⟩) ∧ (p.lim o = false → (p.run ⟨o, s, a, false, false⟩).bad = true) := by
  obtain ⟨w1, w2, w3, w4, w5, w6, w7⟩ := hw
  cases p with
  | kind =>
    simp only [Part.run, Part.lim, Part.enc, Cd.num, Cd.set, Cd.numV, Cd.numS, Cd.numA, Cd.numX, Bool.false_eq_true, if_false, Bool.false_or]
    refine ⟨fun h => ?_, fun h => ?_⟩
    · rw [if_pos (by simp; omega)]
      simp at h ⊢
      omega
    · simp at h ⊢
      omega
  | level =>
    simp only [Part.run, Part.lim, Part.enc, Cd.num, Cd.set, Cd.numV, Cd.numS, Cd.numA, Cd.numX, Bool.false_eq_true, if_false, Bool.false_or]
    refine ⟨fun h => ?_, fun h => ?_⟩
    · rw [if_pos (by simp; omega)]
      simp at h ⊢
      omega
    · simp at h
  | next =>
    simp only [Part.run, Part.lim, Part.enc, Cd.num, Cd.set, Cd.numV, Cd.numS, Cd.numA, Cd.numX, Bool.false_eq_true, if_false, Bool.false_or]
    refine ⟨fun h => ?_, fun h => ?_⟩
    · rw [if_pos (by simp; omega)]
      simp at h ⊢
      omega
    · simp at h ⊢
      omega
  | place =>
    simp only [Part.run, Part.lim, Part.enc, Cd.num, Cd.set, Cd.numV, Cd.numS, Cd.numA, Cd.numX, Bool.false_eq_true, if_false, Bool.false_or]
    refine ⟨fun h => ?_, fun h => ?_⟩
    · simp at h
      rw [if_pos (by simp; omega)]
      simp
      omega
    · simp at h ⊢
      omega
  | off =>
    simp only [Part.run, Part.lim, Part.enc, Cd.num, Cd.set, Cd.numV, Cd.numS, Cd.numA, Cd.numX, Bool.false_eq_true, if_false, Bool.false_or]
    refine ⟨fun h => ?_, fun h => ?_⟩
    · simp at h
      rw [if_pos (by simp; omega)]
      simp
      omega
    · simp at h ⊢
      omega
  | text =>
    simp only [Part.run, Part.lim, Part.enc, Cd.piece, Cd.pieceV, Cd.num, Cd.set, Cd.numV, Cd.numS, Cd.numA, Cd.numX, Bool.false_eq_true, if_false, Bool.false_or]
    refine ⟨fun h => ?_, fun h => ?_⟩
    · simp at h
      rw [if_pos (by simp; omega)]
      simp [pieceB]
      omega
    · simp at h ⊢
      omega
  | rows =>
    simp only [Part.run, Part.lim, Part.enc, Cd.num, Cd.numV, Cd.numS, Cd.numA, Cd.numX, Bool.false_eq_true, if_false, Bool.false_or]
    by_cases h : o.rows.length ≤ 488
    · have e1 : (!decide (0 ≤ (o.rows.length : Int) ∧ (o.rows.length : Int) ≤ ((488 : Nat) : Int))) = false := by simp; omega
      rw [e1, if_neg (by simp), if_pos (by constructor <;> omega), Int.toNat_natCast]
      have := rowsGo_w o a o.rows.length 0 0 (s ++ be 2 o.rows.length) (by omega) rfl (by omega)
      rw [List.drop_zero, List.append_assoc] at this
      refine ⟨fun hx => this.1 (by simp at hx; omega), fun hx => this.2 (by simp at hx; omega)⟩
    · rw [if_pos (by simp; omega)]
      refine ⟨fun hx => ?_, fun hx => ?_⟩
      · simp at hx
        omega
      · simp
        omega
theorem rowsGo_r (s : List UInt8) : ∀ (k i all : Nat) (o : Od) (a : Nat), a ≤ s.length → all ≤ 488 →
    ((Cd.rowsGo k i all ⟨o, s, a, true, false⟩).bad = false → ∃ ts a', rowsO k (s.drop a) = some (ts, s.drop a') ∧ all + lensB ts ≤ 488 ∧ a' ≤ s.length ∧ Cd.rowsGo k i all ⟨o, s, a, true, false⟩ = ⟨{ o with rows := o.rows ++ ts }, s, a', true, false⟩) ∧
    (∀ ts r, rowsO k (s.drop a) = some (ts, r) → all + lensB ts ≤ 488 → (Cd.rowsGo k i all ⟨o, s, a, true, false⟩).bad = false) := by
  intro k
  induction k with
  | zero =>
    intro i all o a ha hl
    refine ⟨fun _ => ⟨[], a, rfl, by simpa [lensB] using hl, ha, by simp [Cd.rowsGo]⟩, fun ts r _ _ => rfl⟩
  | succ k ih =>
    intro i all o a ha hl
    rw [Cd.rowsGo, rowsO, textO_at ha]
    simp only [Cd.pieceV, if_true, Cd.piece, Cd.set, Cd.num, Cd.numX, Bool.false_or]
    generalize hn : rdNum s a 2 = n
    by_cases g : a + 2 ≤ s.length ∧ a + 2 + n ≤ s.length
    · have g1 := g.1
      have g2 := g.2
      have hlen : (rdText s (a + 2) n).length = n := by unfold rdText; rw [if_pos g2, List.length_take, List.length_drop]; omega
      rw [if_pos g, hlen]
      simp only [Option.bind_some, decide_eq_true g1, decide_eq_true g2, Bool.true_and, Bool.not_true, Bool.or_false]
      by_cases g3 : n ≤ 488 ∧ all + n ≤ 488
      · rw [if_neg (by simp; omega)]
        have e1 : (!decide (n ≤ 488)) = false := by simp; omega
        rw [e1]
        obtain ⟨i1, i2⟩ := ih (i + 1) (all + n) { o with rows := o.rows ++ [rdText s (a + 2) n] } (a + 2 + n) g2 g3.2
        refine ⟨fun h => ?_, fun ts r h1 h2 => ?_⟩
        · obtain ⟨ts, a', j1, j2, j3, j4⟩ := i1 h
          refine ⟨rdText s (a + 2) n :: ts, a', ?_, ?_, j3, ?_⟩
          · rw [j1]
            rfl
          · rw [lensB_cons, hlen]
            omega
          · rw [j4]
            simp
        · rw [Option.map_eq_some_iff] at h1
          obtain ⟨⟨us, r'⟩, j1, j2⟩ := h1
          simp only [Prod.mk.injEq] at j2
          rw [← j2.1, lensB_cons, hlen] at h2
          exact i2 us r' j1 (by omega)
      · rw [if_pos (by simp; omega)]
        refine ⟨fun h => by simp at h, fun ts r h1 h2 => ?_⟩
        exfalso
        rw [Option.map_eq_some_iff] at h1
        obtain ⟨⟨us, r'⟩, j1, j2⟩ := h1
        simp only [Prod.mk.injEq] at j2
        rw [← j2.1, lensB_cons, hlen] at h2
        omega
    · rw [if_neg g, if_pos (by simp; omega)]
      exact ⟨fun h => by simp at h, fun ts r h1 _ => by simp at h1⟩
theorem rdNum_fits (s : List UInt8) (a k : Nat) : rdNum s a k < 256 ^ k := by
  unfold rdNum
  split
  · rename_i h
    exact un_lt k _ (by rw [List.length_take, List.length_drop]; omega)
  · exact Nat.pos_of_ne_zero (by simp)
theorem run_r (p : Part) (o : Od) (s : List UInt8) (a : Nat) (ha : a ≤ s.length) (hr : p = .rows → o.rows = []) :
    ((p.run ⟨o, s, a, true, false⟩).bad = false → ∃ o' a', p.rdo o (s.drop a) = some (o', s.drop a') ∧ p.lim o' = true ∧ a' ≤ s.length ∧ p.run ⟨o, s, a, true, false⟩ = ⟨o', s, a', true, false⟩) ∧
    (∀ o' r, p.rdo o (s.drop a) = some (o', r) → p.lim o' = true → (p.run ⟨o, s, a, true, false⟩).bad = false) := by
  cases p with
  | kind =>
    simp only [Part.run, Part.rdo, Part.lim, Cd.num, Cd.set, Cd.numV, Cd.numS, Cd.numA, Cd.numX, if_true, Bool.false_or, numO_at ha]
    refine ⟨fun h => ?_, fun o' r h hl => ?_⟩
    · simp at h
      exact ⟨{ o with pk := rdNum s a 1 }, a + 1, by rw [if_pos h.1]; rfl, by simpa using h.2, h.1, by simp [h]⟩
    · by_cases h1 : a + 1 ≤ s.length
      · rw [if_pos h1] at h
        simp at h
        rw [← h.1] at hl
        simp at hl ⊢
        exact ⟨h1, hl⟩
      · rw [if_neg h1] at h
        simp at h
  | level =>
    have hf := rdNum_fits s a 1
    simp only [Part.run, Part.rdo, Part.lim, Cd.num, Cd.set, Cd.numV, Cd.numS, Cd.numA, Cd.numX, if_true, Bool.false_or, numO_at ha]
    refine ⟨fun h => ?_, fun o' r h hl => ?_⟩
    · simp at h
      exact ⟨{ o with lv := rdNum s a 1 }, a + 1, by rw [if_pos h.1]; rfl, trivial, h.1, by simp [h]⟩
    · by_cases h1 : a + 1 ≤ s.length
      · simp
        exact ⟨h1, by omega⟩
      · rw [if_neg h1] at h
        simp at h
  | next =>
    simp only [Part.run, Part.rdo, Part.lim, Cd.num, Cd.set, Cd.numV, Cd.numS, Cd.numA, Cd.numX, if_true, Bool.false_or, numO_at ha]
    refine ⟨fun h => ?_, fun o' r h hl => ?_⟩
    · simp at h
      exact ⟨{ o with nx := rdNum s a 4 }, a + 4, by rw [if_pos h.1]; rfl, by simpa using h.2, h.1, by simp [h]⟩
    · by_cases h1 : a + 4 ≤ s.length
      · rw [if_pos h1] at h
        simp at h
        rw [← h.1] at hl
        simp at hl ⊢
        exact ⟨h1, hl⟩
      · rw [if_neg h1] at h
        simp at h
  | place =>
    simp only [Part.run, Part.rdo, Part.lim, Cd.num, Cd.set, Cd.numV, Cd.numS, Cd.numA, Cd.numX, if_true, Bool.false_or, numO_at ha]
    refine ⟨fun h => ?_, fun o' r h hl => ?_⟩
    · simp at h
      exact ⟨{ o with at_ := (rdNum s a 2 : Nat) }, a + 2, by rw [if_pos h.1]; rfl, by simp; omega, h.1, by simp [h]⟩
    · by_cases h1 : a + 2 ≤ s.length
      · rw [if_pos h1] at h
        simp at h
        rw [← h.1] at hl
        simp at hl ⊢
        exact ⟨h1, by omega⟩
      · rw [if_neg h1] at h
        simp at h
  | off =>
    simp only [Part.run, Part.rdo, Part.lim, Cd.num, Cd.set, Cd.numV, Cd.numS, Cd.numA, Cd.numX, if_true, Bool.false_or, numO_at ha]
    refine ⟨fun h => ?_, fun o' r h hl => ?_⟩
    · simp at h
      exact ⟨{ o with off := (rdNum s a 2 : Nat) }, a + 2, by rw [if_pos h.1]; rfl, by simp; omega, h.1, by simp [h]⟩
    · by_cases h1 : a + 2 ≤ s.length
      · rw [if_pos h1] at h
        simp at h
        rw [← h.1] at hl
        simp at hl ⊢
        exact ⟨h1, by omega⟩
      · rw [if_neg h1] at h
        simp at h
  | text =>
    simp only [Part.run, Part.rdo, Part.lim, Cd.piece, Cd.pieceV, Cd.num, Cd.set, Cd.numX, if_true, Bool.false_or, textO_at ha]
    generalize hn : rdNum s a 2 = n
    have hlen : a + 2 + n ≤ s.length → (rdText s (a + 2) n).length = n := fun g2 => by unfold rdText; rw [if_pos g2, List.length_take, List.length_drop]; omega
    refine ⟨fun h => ?_, fun o' r h hl => ?_⟩
    · simp at h
      have := hlen h.2
      exact ⟨{ o with text := rdText s (a + 2) n }, a + 2 + n, by rw [if_pos ⟨h.1.1, h.2⟩]; rfl, by simp; omega, h.2, by simp [h]⟩
    · by_cases h1 : a + 2 ≤ s.length ∧ a + 2 + n ≤ s.length
      · rw [if_pos h1] at h
        simp at h
        have := hlen h1.2
        rw [← h.1] at hl
        simp at hl ⊢
        exact ⟨⟨h1.1, by omega⟩, h1.2⟩
      · rw [if_neg h1] at h
        simp at h
  | rows =>
    have hr := hr rfl
    simp only [Part.run, Part.rdo, Part.lim, Cd.num, Cd.numV, Cd.numS, Cd.numA, Cd.numX, if_true, Bool.false_or, numO_at ha]
    generalize hn : rdNum s a 2 = n
    by_cases h1 : a + 2 ≤ s.length
    · rw [if_pos h1]
      simp only [Option.bind_some, decide_eq_true h1, Bool.true_and, Int.toNat_natCast]
      obtain ⟨i1, i2⟩ := rowsGo_r s n 0 0 o (a + 2) h1 (by omega)
      by_cases h2 : n ≤ 488
      · have e1 : (!decide (n ≤ 488)) = false := by simp; omega
        rw [e1, if_neg (by simp)]
        refine ⟨fun h => ?_, fun o' r h hl => ?_⟩
        · obtain ⟨ts, a', j1, j2, j3, j4⟩ := i1 h
          refine ⟨_, a', by rw [j1]; rfl, ?_, j3, j4⟩
          have := (rowsO_some n j1).2
          simp [hr]
          omega
        · rw [Option.map_eq_some_iff] at h
          obtain ⟨⟨ts, r'⟩, j1, j2⟩ := h
          simp only [Prod.mk.injEq] at j2
          rw [← j2.1] at hl
          simp [hr] at hl
          exact i2 ts r' j1 (by omega)
      · have e1 : (!decide (n ≤ 488)) = true := by simp; omega
        rw [e1, if_pos rfl]
        refine ⟨fun h => by simp at h, fun o' r h hl => ?_⟩
        exfalso
        rw [Option.map_eq_some_iff] at h
        obtain ⟨⟨ts, r'⟩, j1, j2⟩ := h
        simp only [Prod.mk.injEq] at j2
        have := (rowsO_some n j1).2
        rw [← j2.1] at hl
        simp [hr] at hl
        omega
    · rw [if_neg h1, decide_eq_false h1, if_pos (by simp)]
      exact ⟨fun h => by simp at h, fun o' r h _ => by simp at h⟩
/-- Parts read one behind the other, without limits. -/
def foldO : List Part → Od → List UInt8 → Option (Od × List UInt8)
  | [], o, l => some (o, l)
  | p :: ps, o, l => (p.rdo o l).bind fun q => foldO ps q.1 q.2
def foldL : List Part → Od → List UInt8 → Option (Od × List UInt8)
  | [], o, l => some (o, l)
  | p :: ps, o, l => (p.rdo o l).bind fun q => if p.lim q.1 = true then foldL ps q.1 q.2 else none
theorem fold_r (s : List UInt8) : ∀ (ps : List Part) (o : Od) (a : Nat), a ≤ s.length → (.rows ∈ ps → o.rows = [] ∧ ps = [.rows]) →
    ((ps.foldl (fun c (p : Part) => p.run c) ⟨o, s, a, true, false⟩).bad = false → ∃ o' a', foldL ps o (s.drop a) = some (o', s.drop a') ∧ a' ≤ s.length ∧ ps.foldl (fun c (p : Part) => p.run c) ⟨o, s, a, true, false⟩ = ⟨o', s, a', true, false⟩) ∧
    (∀ o' r, foldL ps o (s.drop a) = some (o', r) → (ps.foldl (fun c (p : Part) => p.run c) ⟨o, s, a, true, false⟩).bad = false) := by
  intro ps
  induction ps with
  | nil => exact fun o a ha _ => ⟨fun _ => ⟨o, a, rfl, ha, rfl⟩, fun _ _ _ => rfl⟩
  | cons p ps ih =>
    intro o a ha hr
    obtain ⟨r1, r2⟩ := run_r p o s a ha (fun h => (hr (by simp [h])).1)
    have hr' : ∀ o' : Od, .rows ∈ ps → o'.rows = [] ∧ ps = [.rows] := by
      intro o' h
      have := (hr (by simp [h])).2
      simp only [List.cons.injEq] at this
      rw [this.2] at h
      cases h
    rw [List.foldl_cons]
    refine ⟨fun h => ?_, fun o' r h => ?_⟩
    · have hb : (p.run ⟨o, s, a, true, false⟩).bad = false := by
        rw [Bool.eq_false_iff]
        intro hb
        rw [fold_bad ps _ hb] at h
        cases h
      obtain ⟨o1, a1, j1, j2, j3, j4⟩ := r1 hb
      rw [j4] at h ⊢
      obtain ⟨o2, a2, k1, k2, k3⟩ := (ih o1 a1 j3 (hr' o1)).1 h
      exact ⟨o2, a2, by rw [foldL, j1]; simp only [Option.bind_some]; rw [if_pos j2, k1], k2, k3⟩
    · rw [foldL, Option.bind_eq_some_iff] at h
      obtain ⟨⟨o1, l1⟩, j1, j2⟩ := h
      simp only at j2
      split at j2
      · rename_i hlim
        obtain ⟨o1', a1, k1, k2, k3, k4⟩ := r1 (r2 o1 l1 j1 hlim)
        rw [j1] at k1
        simp only [Option.some.injEq, Prod.mk.injEq] at k1
        rw [k4]
        rw [k1.1, k1.2] at j2
        exact (ih o1' a1 k3 (hr' o1')).2 o' r j2
      · cases j2
/-- One of an op's fields taken from another op. -/
def Part.copy : Part → Od → Od → Od
  | .kind, o, x => { o with pk := x.pk }
  | .level, o, x => { o with lv := x.lv }
  | .next, o, x => { o with nx := x.nx }
  | .place, o, x => { o with at_ := x.at_ }
  | .off, o, x => { o with off := x.off }
  | .text, o, x => { o with text := x.text }
  | .rows, o, x => { o with rows := x.rows }
theorem rdo_form {p : Part} {o o' : Od} {l r : List UInt8} (h : p.rdo o l = some (o', r)) : ∃ x, o' = p.copy o x := by
  refine ⟨o', ?_⟩
  cases p <;> simp only [Part.rdo, Option.map_eq_some_iff, Option.bind_eq_some_iff] at h
  case rows =>
    obtain ⟨q, _, q', _, h⟩ := h
    simp only [Prod.mk.injEq] at h
    rw [← h.1]
    rfl
  all_goals
    obtain ⟨q, _, h⟩ := h
    simp only [Prod.mk.injEq] at h
    rw [← h.1]
    rfl
theorem copy_enc {p q : Part} (h : p ≠ q) (o x : Od) : q.enc (p.copy o x) = q.enc o := by cases p <;> cases q <;> first | rfl | exact absurd rfl h
theorem copy_lim {p q : Part} (h : p ≠ q) (o x : Od) : q.lim (p.copy o x) = q.lim o := by cases p <;> cases q <;> first | rfl | exact absurd rfl h
theorem foldO_keep {q : Part} : ∀ (ps : List Part) {o o' : Od} {l r : List UInt8}, q ∉ ps → foldO ps o l = some (o', r) → q.enc o' = q.enc o ∧ q.lim o' = q.lim o := by
  intro ps
  induction ps with
  | nil =>
    intro o o' l r _ h
    simp only [foldO, Option.some.injEq, Prod.mk.injEq] at h
    rw [h.1]
    exact ⟨rfl, rfl⟩
  | cons p ps ih =>
    intro o o' l r hq h
    simp only [List.mem_cons, not_or] at hq
    rw [foldO, Option.bind_eq_some_iff] at h
    obtain ⟨⟨o1, l1⟩, h1, h2⟩ := h
    obtain ⟨x, rfl⟩ := rdo_form h1
    obtain ⟨i1, i2⟩ := ih hq.2 h2
    rw [i1, i2]
    exact ⟨copy_enc (Ne.symm hq.1) o x, copy_lim (Ne.symm hq.1) o x⟩
theorem foldL_iff : ∀ (ps : List Part) {o o' : Od} {l r : List UInt8}, ps.Nodup → (foldL ps o l = some (o', r) ↔ foldO ps o l = some (o', r) ∧ ∀ p ∈ ps, p.lim o' = true) := by
  intro ps
  induction ps with
  | nil =>
    intro o o' l r _
    simp [foldL, foldO]
  | cons p ps ih =>
    intro o o' l r hn
    rw [List.nodup_cons] at hn
    rw [foldL, foldO, Option.bind_eq_some_iff, Option.bind_eq_some_iff]
    constructor
    · rintro ⟨⟨o1, l1⟩, h1, h2⟩
      simp only at h2
      split at h2
      · rename_i hlim
        obtain ⟨h3, h4⟩ := (ih hn.2).1 h2
        refine ⟨⟨(o1, l1), h1, h3⟩, ?_⟩
        intro q hq
        rcases List.mem_cons.1 hq with rfl | hq
        · rw [(foldO_keep ps hn.1 h3).2]
          exact hlim
        · exact h4 q hq
      · cases h2
    · rintro ⟨⟨⟨o1, l1⟩, h1, h2⟩, h3⟩
      refine ⟨(o1, l1), h1, ?_⟩
      simp only at h2 ⊢
      rw [if_pos (by rw [← (foldO_keep ps hn.1 h2).2]; exact h3 p (by simp))]
      exact (ih hn.2).2 ⟨h2, fun q hq => h3 q (by simp [hq])⟩
/-- An op at the front of bytes, and the rest. -/
def oneO (l : List UInt8) : Option (Od × List UInt8) := (numO 1 l).bind fun p => (numO 4 p.2).bind fun q => foldO (partsOf p.1) ⟨p.1, q.1, 0, 0, [], [], 0, 0, 0⟩ q.2
theorem kinds {k : Nat} (h : 1 ≤ k ∧ k ≤ 8) : k = 1 ∨ k = 2 ∨ k = 3 ∨ k = 4 ∨ k = 5 ∨ k = 6 ∨ k = 7 ∨ k = 8 := by omega
theorem parts_nodup (k : Nat) : (partsOf k).Nodup := by
  by_cases h : 1 ≤ k ∧ k ≤ 8
  · rcases kinds h with rfl | rfl | rfl | rfl | rfl | rfl | rfl | rfl <;> simp [partsOf]
  · have : partsOf k = [] := by
      unfold partsOf
      split <;> first | rfl | omega
    rw [this]
    exact List.nodup_nil
theorem parts_rows (k : Nat) (h : .rows ∈ partsOf k) : partsOf k = [.rows] := by
  by_cases hk : 1 ≤ k ∧ k ≤ 8
  · rcases kinds hk with rfl | rfl | rfl | rfl | rfl | rfl | rfl | rfl <;> simp [partsOf] at h ⊢
  · exfalso
    have : partsOf k = [] := by
      unfold partsOf
      split <;> first | rfl | omega
    rw [this] at h
    cases h
theorem foldO_only {k pg : Nat} {o : Od} {l r : List UInt8} (h : foldO (partsOf k) ⟨k, pg, 0, 0, [], [], 0, 0, 0⟩ l = some (o, r)) : o.kind = k ∧ o.page = pg ∧ o = o.only := by
  by_cases hk : 1 ≤ k ∧ k ≤ 8
  · rcases kinds hk with rfl | rfl | rfl | rfl | rfl | rfl | rfl | rfl <;> simp only [partsOf, foldO, Option.bind_eq_some_iff, Option.some.injEq, Prod.mk.injEq] at h
    · obtain ⟨⟨o1, l1⟩, h1, ⟨o2, l2⟩, h2, ⟨o3, l3⟩, h3, h4, _⟩ := h
      obtain ⟨x1, rfl⟩ := rdo_form h1
      obtain ⟨x2, rfl⟩ := rdo_form h2
      obtain ⟨x3, rfl⟩ := rdo_form h3
      rw [← h4]
      exact ⟨rfl, rfl, rfl⟩
    · obtain ⟨⟨o1, l1⟩, h1, ⟨o2, l2⟩, h2, h4, _⟩ := h
      obtain ⟨x1, rfl⟩ := rdo_form h1
      obtain ⟨x2, rfl⟩ := rdo_form h2
      rw [← h4]
      exact ⟨rfl, rfl, rfl⟩
    · obtain ⟨⟨o1, l1⟩, h1, ⟨o2, l2⟩, h2, h4, _⟩ := h
      obtain ⟨x1, rfl⟩ := rdo_form h1
      obtain ⟨x2, rfl⟩ := rdo_form h2
      rw [← h4]
      exact ⟨rfl, rfl, rfl⟩
    · obtain ⟨⟨o1, l1⟩, h1, h4, _⟩ := h
      obtain ⟨x1, rfl⟩ := rdo_form h1
      rw [← h4]
      exact ⟨rfl, rfl, rfl⟩
    · obtain ⟨⟨o1, l1⟩, h1, h4, _⟩ := h
      obtain ⟨x1, rfl⟩ := rdo_form h1
      rw [← h4]
      exact ⟨rfl, rfl, rfl⟩
    · obtain ⟨⟨o1, l1⟩, h1, h4, _⟩ := h
      obtain ⟨x1, rfl⟩ := rdo_form h1
      rw [← h4]
      exact ⟨rfl, rfl, rfl⟩
    · obtain ⟨⟨o1, l1⟩, h1, h4, _⟩ := h
      obtain ⟨x1, rfl⟩ := rdo_form h1
      rw [← h4]
      exact ⟨rfl, rfl, rfl⟩
    · obtain ⟨⟨o1, l1⟩, h1, ⟨o2, l2⟩, h2, ⟨o3, l3⟩, h3, h4, _⟩ := h
      obtain ⟨x1, rfl⟩ := rdo_form h1
      obtain ⟨x2, rfl⟩ := rdo_form h2
      obtain ⟨x3, rfl⟩ := rdo_form h3
      rw [← h4]
      exact ⟨rfl, rfl, rfl⟩
  · have hp : partsOf k = [] := by
      unfold partsOf
      split <;> first | rfl | omega
    rw [hp] at h
    simp only [foldO, Option.some.injEq, Prod.mk.injEq] at h
    rw [← h.1]
    refine ⟨rfl, rfl, ?_⟩
    unfold Od.only
    split <;> first | rfl | (exfalso; simp only at *; omega)
theorem enc_parts (o : Od) (h : 1 ≤ o.kind ∧ o.kind ≤ 8) : o.enc = be 1 o.kind ++ be 4 o.page ++ (partsOf o.kind).flatMap (fun p => p.enc o) := by
  obtain ⟨k, pg, a, f, t, rs, pk, lv, nx⟩ := o
  rcases kinds h with h | h | h | h | h | h | h | h <;> (simp only at h; subst h; simp [Od.enc, partsOf, Part.enc])
theorem parts_copy (o : Od) (h : 1 ≤ o.kind ∧ o.kind ≤ 8) : ∀ p ∈ partsOf o.kind, p.enc o.only = p.enc o ∧ p.lim o.only = p.lim o := by
  obtain ⟨k, pg, a, f, t, rs, pk, lv, nx⟩ := o
  rcases kinds h with h | h | h | h | h | h | h | h <;> (simp only at h; subst h; simp [partsOf, Part.enc, Part.lim, Od.only])
theorem only_kind (o : Od) : o.only.kind = o.kind ∧ o.only.page = o.page := by
  unfold Od.only
  split <;> exact ⟨rfl, rfl⟩
theorem enc_only (o : Od) (h : 1 ≤ o.kind ∧ o.kind ≤ 8) : o.only.enc = o.enc := by
  rw [enc_parts _ (by rw [(only_kind o).1]; exact h), enc_parts o h, (only_kind o).1, (only_kind o).2]
  congr 1
  rw [List.flatMap_def, List.flatMap_def, List.map_congr_left (fun p hp => (parts_copy o h p hp).1)]
theorem only_only (o : Od) : o.only.only = o.only := by
  obtain ⟨k, pg, a, f, t, rs, pk, lv, nx⟩ := o
  by_cases h : 1 ≤ k ∧ k ≤ 8
  · rcases kinds h with h | h | h | h | h | h | h | h <;> (subst h; rfl)
  · have e : (⟨k, pg, a, f, t, rs, pk, lv, nx⟩ : Od).only = ⟨k, pg, 0, 0, [], [], 0, 0, 0⟩ := by
      unfold Od.only
      split <;> first | rfl | (exfalso; simp only at *; omega)
    rw [e]
    unfold Od.only
    split <;> rfl
/-- An op of what its kind has alone may be, just if the limits of its parts hold. -/
theorem may_only (o : Od) (ho : o = o.only) : o.may = true ↔ (1 ≤ o.kind ∧ o.kind ≤ 8) ∧ (1 ≤ o.page ∧ o.page ≤ 1024) ∧ ∀ p ∈ partsOf o.kind, p.lim o = true := by
  by_cases h : 1 ≤ o.kind ∧ o.kind ≤ 8
  · unfold Od.may
    rw [Bool.and_eq_true, Bool.and_eq_true, Bool.and_eq_true, decide_eq_true_eq, decide_eq_true_eq, decide_eq_true_eq, decide_eq_true_eq]
    obtain ⟨k, pg, a, f, t, rs, pk, lv, nx⟩ := o
    rcases kinds h with h | h | h | h | h | h | h | h <;> (simp only at h; subst h; simp only [Od.only, Od.mk.injEq] at ho; obtain ⟨_, _, h1, h2, h3, h4, h5, h6, h7⟩ := ho; simp [partsOf, Part.lim, Od.only, *, lensB]; first | done | omega | (intros; exact ⟨fun hx => decide_eq_true hx, fun hx => of_decide_eq_true hx⟩))
  · constructor
    · intro hm
      unfold Od.may at hm
      simp at hm
      omega
    · intro hm
      exact absurd hm.1 h
theorem may_eq (o : Od) : o.may = (o.only.may && decide (o = o.only)) := by
  by_cases h : o = o.only
  · rw [decide_eq_true h, Bool.and_true, ← h]
  · rw [decide_eq_false h, Bool.and_false]
    unfold Od.may
    simp [h]
theorem may_of {o : Od} (h : o.may = true) : o = o.only ∧ (1 ≤ o.kind ∧ o.kind ≤ 8) ∧ (1 ≤ o.page ∧ o.page ≤ 1024) ∧ ∀ p ∈ partsOf o.kind, p.lim o = true := by
  have ho : o = o.only := by
    rw [may_eq] at h
    simp at h
    exact h.2
  exact ⟨ho, (may_only o ho).1 h⟩
theorem lensB_mem {u : List UInt8} : ∀ {rs : List (List UInt8)}, u ∈ rs → u.length ≤ lensB rs := by
  intro rs
  induction rs with
  | nil => intro h; cases h
  | cons r rs ih =>
    intro h
    rw [lensB_cons]
    rcases List.mem_cons.1 h with rfl | h
    · omega
    · have := ih h
      omega
theorem foldO_be (o : Od) (h : o.may = true) (hv : o.lv < 256) (r : List UInt8) : foldO (partsOf o.kind) ⟨o.kind, o.page, 0, 0, [], [], 0, 0, 0⟩ ((partsOf o.kind).flatMap (fun p => p.enc o) ++ r) = some (o, r) := by
  obtain ⟨ho, hk, hp, hl⟩ := may_of h
  obtain ⟨k, pg, a, f, t, rs, pk, lv, nx⟩ := o
  simp only at hv
  rcases kinds hk with hk | hk | hk | hk | hk | hk | hk | hk <;> simp only at hk <;> subst hk <;> simp only [Od.only, Od.mk.injEq] at ho <;> obtain ⟨_, _, h1, h2, h3, h4, h5, h6, h7⟩ := ho <;> simp [partsOf, Part.lim] at hl <;> simp only [partsOf, foldO, List.flatMap_cons, List.flatMap_nil, List.append_nil, Part.enc, Part.rdo, List.append_assoc]
  · rw [numO_be 1 pk _ (by omega)]
    simp only [Option.map_some, Option.bind_some]
    rw [numO_be 1 lv _ (by omega)]
    simp only [Option.map_some, Option.bind_some]
    rw [numO_be 4 nx _ (by omega)]
    simp [*]
  · rw [numO_be 2 _ _ (by omega)]
    simp only [Option.map_some, Option.bind_some]
    rw [textO_be t _ (by omega)]
    simp [*]
    omega
  · rw [numO_be 2 _ _ (by omega)]
    simp only [Option.map_some, Option.bind_some]
    rw [textO_be t _ (by omega)]
    simp [*]
    omega
  · rw [numO_be 2 _ _ (by omega)]
    simp [*]
    omega
  · rw [numO_be 2 _ _ (by omega)]
    simp [*]
    omega
  · rw [numO_be 2 _ _ (by omega)]
    simp only [Option.map_some, Option.bind_some]
    rw [rowsO_be rs r (fun u hu => by
      have := lensB_mem hu
      omega)]
    simp [*]
  · rw [numO_be 4 nx _ (by omega)]
    simp [*]
  · rw [numO_be 2 _ _ (by omega)]
    simp only [Option.map_some, Option.bind_some]
    rw [numO_be 2 _ _ (by omega)]
    simp only [Option.map_some, Option.bind_some]
    rw [textO_be t _ (by omega)]
    simp [*]
    omega
theorem oneO_enc (o : Od) (h : o.may = true) (hv : o.lv < 256) (r : List UInt8) : oneO (o.enc ++ r) = some (o, r) := by
  obtain ⟨ho, hk, hp, hl⟩ := may_of h
  unfold oneO
  rw [enc_parts o hk, List.append_assoc, List.append_assoc, numO_be 1 _ _ (by omega)]
  simp only [Option.bind_some]
  rw [numO_be 4 _ _ (by omega)]
  simp only [Option.bind_some]
  exact foldO_be o h hv r
/-- What is read at the front of bytes. -/
def readC (l : List UInt8) : Cd := Cd.op ⟨Od.zero, l, 0, true, false⟩
set_option maxRecDepth 10000 in
theorem head_r (s : List UInt8) : ((Cd.head ⟨Od.zero, s, 0, true, false⟩).bad = false → ∃ k pg, numO 1 s = some (k, s.drop 1) ∧ numO 4 (s.drop 1) = some (pg, s.drop 5) ∧ 5 ≤ s.length ∧ (1 ≤ k ∧ k ≤ 8) ∧ (1 ≤ pg ∧ pg ≤ 1024) ∧ Cd.head ⟨Od.zero, s, 0, true, false⟩ = ⟨⟨k, pg, 0, 0, [], [], 0, 0, 0⟩, s, 5, true, false⟩) ∧
    (∀ k pg l1 l2, numO 1 s = some (k, l1) → numO 4 l1 = some (pg, l2) → (1 ≤ k ∧ k ≤ 8) → (1 ≤ pg ∧ pg ≤ 1024) → (Cd.head ⟨Od.zero, s, 0, true, false⟩).bad = false) := by
  have n1 : 1 ≤ s.length → numO 1 s = some (rdNum s 0 1, s.drop 1) := fun h => by
    have := numO_at (s := s) (a := 0) (k := 1) (by omega)
    rw [if_pos (by omega)] at this
    simpa using this
  have n4 : 5 ≤ s.length → numO 4 (s.drop 1) = some (rdNum s 1 4, s.drop 5) := fun h => by
    have := numO_at (s := s) (a := 1) (k := 4) (by omega)
    rw [if_pos (by omega)] at this
    exact this
  simp only [Cd.head, Cd.num, Cd.set, Cd.numV, Cd.numS, Cd.numA, Cd.numX, if_true, Bool.false_or, Od.zero, Nat.zero_add, Int.toNat_natCast]
  refine ⟨fun h => ?_, fun k pg l1 l2 h1 h2 hk hp => ?_⟩
  · simp at h
    exact ⟨rdNum s 0 1, rdNum s 1 4, n1 (by omega), n4 (by omega), by omega, by omega, by omega, by simp; omega⟩
  · have g1 : 1 ≤ s.length := by
      unfold numO at h1
      split at h1
      · assumption
      · cases h1
    rw [n1 g1] at h1
    simp only [Option.some.injEq, Prod.mk.injEq] at h1
    rw [← h1.2] at h2
    have g2 : 5 ≤ s.length := by
      unfold numO at h2
      split at h2
      · rename_i hx
        rw [List.length_drop] at hx
        omega
      · cases h2
    rw [n4 g2] at h2
    simp only [Option.some.injEq, Prod.mk.injEq] at h2
    rw [h1.1, h2.1]
    simp
    omega
theorem readC_ok {l : List UInt8} (h : (readC l).bad = false) : ∃ o a, oneO l = some (o, l.drop a) ∧ a ≤ l.length ∧ o.may = true ∧ readC l = ⟨o, l, a, true, false⟩ := by
  unfold readC Cd.op at *
  have hb : (Cd.head ⟨Od.zero, l, 0, true, false⟩).bad = false := by
    rw [Bool.eq_false_iff]
    intro hb
    rw [fold_bad _ _ hb] at h
    cases h
  obtain ⟨k, pg, h1, h2, h3, hk, hp, h4⟩ := (head_r l).1 hb
  rw [h4] at h ⊢
  simp only at h ⊢
  obtain ⟨o, a, j1, j2, j3⟩ := (fold_r l (partsOf k) ⟨k, pg, 0, 0, [], [], 0, 0, 0⟩ 5 h3 (fun hm => ⟨rfl, parts_rows k hm⟩)).1 h
  obtain ⟨j4, j5⟩ := (foldL_iff _ (parts_nodup k)).1 j1
  obtain ⟨e1, e2, e3⟩ := foldO_only j4
  refine ⟨o, a, ?_, j2, ?_, j3⟩
  · unfold oneO
    rw [h1]
    simp only [Option.bind_some]
    rw [h2]
    exact j4
  · rw [may_only o e3, e1, e2]
    exact ⟨hk, hp, j5⟩
theorem readC_of {l r : List UInt8} {o : Od} (h : oneO l = some (o, r)) (hm : o.may = true) : (readC l).bad = false := by
  obtain ⟨ho, hk, hp, hl⟩ := may_of hm
  unfold oneO at h
  rw [Option.bind_eq_some_iff] at h
  obtain ⟨⟨k, l1⟩, h1, h⟩ := h
  rw [Option.bind_eq_some_iff] at h
  obtain ⟨⟨pg, l2⟩, h2, h⟩ := h
  simp only at h h2
  obtain ⟨e1, e2, e3⟩ := foldO_only h
  rw [e1] at hk hl
  rw [e2] at hp
  unfold readC Cd.op
  obtain ⟨k', pg', g1, g2, g3, _, _, g4⟩ := (head_r l).1 ((head_r l).2 k pg l1 l2 h1 h2 hk hp)
  rw [h1] at g1
  simp only [Option.some.injEq, Prod.mk.injEq] at g1
  rw [← g1.2, h2] at g2
  simp only [Option.some.injEq, Prod.mk.injEq] at g2
  rw [g4, ← g1.1, ← g2.1]
  simp only
  refine (fold_r l (partsOf k) ⟨k, pg, 0, 0, [], [], 0, 0, 0⟩ 5 g3 (fun hm => ⟨rfl, parts_rows k hm⟩)).2 o r ?_
  rw [← g2.2]
  exact (foldL_iff _ (parts_nodup k)).2 ⟨h, hl⟩
/-- Bytes with an op ahead are read as that op. -/
theorem readC_enc (o : Od) (h : o.may = true) (hv : o.lv < 256) (r : List UInt8) : readC (o.enc ++ r) = ⟨o, o.enc ++ r, o.enc.length, true, false⟩ := by
  have h1 := oneO_enc o h hv r
  obtain ⟨o', a, j1, j2, _, j3⟩ := readC_ok (readC_of h1 h)
  rw [h1] at j1
  simp only [Option.some.injEq, Prod.mk.injEq] at j1
  have : a = o.enc.length := by
    have := congrArg List.length j1.2
    rw [List.length_drop, List.length_append] at this
    rw [List.length_append] at j2
    omega
  rw [j3, ← j1.1, this]
/-- What is written of an op. -/
def writeC (o : Od) : Cd := Cd.op ⟨o, [], 0, false, false⟩
theorem fold_w (o : Od) (a : Nat) (hw : o.wf) : ∀ (ps : List Part) (s : List UInt8), ((∀ p ∈ ps, p.lim o = true) → ps.foldl (fun c (p : Part) => p.run c) ⟨o, s, a, false, false⟩ = ⟨o, s ++ ps.flatMap (fun p => p.enc o), a, false, false⟩) ∧ (¬ (∀ p ∈ ps, p.lim o = true) → (ps.foldl (fun c (p : Part) => p.run c) ⟨o, s, a, false, false⟩).bad = true) := by
  intro ps
  induction ps with
  | nil => intro s; exact ⟨fun _ => by simp, fun h => absurd (fun p hp => by cases hp) h⟩
  | cons p ps ih =>
    intro s
    rw [List.foldl_cons]
    obtain ⟨r1, r2⟩ := run_w p o s a hw
    by_cases h : p.lim o = true
    · rw [r1 h]
      obtain ⟨i1, i2⟩ := ih (s ++ p.enc o)
      refine ⟨fun hx => ?_, fun hx => i2 fun hy => hx fun q hq => ?_⟩
      · rw [i1 (fun q hq => hx q (by simp [hq])), List.flatMap_cons, List.append_assoc]
      · rcases List.mem_cons.1 hq with rfl | hq
        · exact h
        · exact hy q hq
    · refine ⟨fun hx => absurd (hx p (by simp)) h, fun _ => fold_bad ps _ (r2 (by simpa using h))⟩
set_option maxRecDepth 10000 in
theorem writeC_law (o : Od) (hw : o.wf) : (o.only.may = true → writeC o = ⟨o, o.enc, 0, false, false⟩ ∧ (1 ≤ o.kind ∧ o.kind ≤ 8)) ∧ (o.only.may = false → (writeC o).bad = true) := by
  have hw' := hw
  obtain ⟨w1, w2, w3, w4, w5, w6, w7⟩ := hw
  have hh : Cd.head ⟨o, [], 0, false, false⟩ = ⟨o, be 1 o.kind ++ be 4 o.page, 0, false, !(decide ((1 ≤ o.kind ∧ o.kind ≤ 8) ∧ (1 ≤ o.page ∧ o.page ≤ 1024)))⟩ := by
    simp only [Cd.head, Cd.num, Cd.set, Cd.numV, Cd.numS, Cd.numA, Cd.numX, Bool.false_eq_true, if_false, Bool.false_or, Int.toNat_natCast, List.nil_append]
    rw [if_pos (by simp; omega), if_pos (by simp; omega)]
    simp only [Cd.mk.injEq, true_and]
    rw [Bool.eq_iff_iff]
    simp
    omega
  have hm := may_only o.only (only_only o).symm
  rw [(only_kind o).1, (only_kind o).2] at hm
  unfold writeC Cd.op
  rw [hh]
  by_cases hg : (1 ≤ o.kind ∧ o.kind ≤ 8) ∧ (1 ≤ o.page ∧ o.page ≤ 1024)
  · rw [decide_eq_true hg]
    have hl : (∀ p ∈ partsOf o.kind, p.lim o.only = true) ↔ ∀ p ∈ partsOf o.kind, p.lim o = true := ⟨fun h p hp => by rw [← (parts_copy o hg.1 p hp).2]; exact h p hp, fun h p hp => by rw [(parts_copy o hg.1 p hp).2]; exact h p hp⟩
    obtain ⟨f1, f2⟩ := fold_w o 0 hw' (partsOf o.kind) (be 1 o.kind ++ be 4 o.page)
    refine ⟨fun h => ⟨?_, hg.1⟩, fun h => f2 fun hx => ?_⟩
    · rw [enc_parts o hg.1]
      exact f1 (hl.1 (hm.1 h).2.2)
    · rw [Bool.eq_false_iff] at h
      exact h (hm.2 ⟨hg.1, hg.2, hl.2 hx⟩)
  · rw [decide_eq_false hg]
    refine ⟨fun h => absurd ⟨(hm.1 h).1, (hm.1 h).2.1⟩ hg, fun _ => fold_bad _ _ rfl⟩
end Go.Proofs.YtienlhnbmobinaaGreat
end
