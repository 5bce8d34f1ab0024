/- Kept of our texts for this claim: SlotRoot Crc PagePlain -/
import Derived.Test.YtienlhnbmobinaaGreatRows
import Derived.Test.YtienlhnbmobinaaGreatAdAb
import Derived.Test.YtienlhnbmobinaaGreatAdAa
import Derived.Test.YtienlhnbmobinaaGreatAdAd
import Derived.WalkKit
import Derived.WalkLawsBesides
import Derived.WalkSpells
import Derived.LoopTactic
import Derived.WalkMore
import Derived.LoopN
import Derived.Laws.BitsAllLaws
import Derived.Laws.IdiomStrings
import Derived.BigQuiet
import Derived.Deep.QuietTactic
import Derived.Deep.DeepCutAuto
import Derived.Deep.RegionHeld3
import Derived.Deep.DrawnRows
import Derived.Lib.Hide
import Derived.Outline
import Derived.Deep.DeepMust
import Derived.Handy
import Derived.Test.YtienlhnbmobinaaGreatAdAc
section
/- The slot area's ground: plain laws, bytes, texts, New, Free -/
namespace Go.Proofs.YtienlhnbmobinaaGreat
open Go.RowKit
set_option linter.unusedVariables false
set_option linter.unusedSimpArgs false
end Go.Proofs.YtienlhnbmobinaaGreat
namespace Go.Proofs.YtienlhnbmobinaaGreat
open Go.RowKit
set_option linter.unusedVariables false
set_option linter.unusedSimpArgs false
end Go.Proofs.YtienlhnbmobinaaGreat
namespace Go.Proofs.YtienlhnbmobinaaGreat
open Go.RowKit
set_option linter.unusedVariables false
set_option linter.unusedSimpArgs false
end Go.Proofs.YtienlhnbmobinaaGreat
namespace Go.Proofs.YtienlhnbmobinaaGreat
open Go.RowKit
set_option linter.unusedVariables false
set_option linter.unusedSimpArgs false
end Go.Proofs.YtienlhnbmobinaaGreat
namespace Go.Proofs.YtienlhnbmobinaaGreat
set_option linter.unusedVariables false
set_option linter.unusedSimpArgs false
/-- A number of two bytes that stands at a place. -/
def u2 (l : List UInt8) (k : Nat) : Nat := 256 * (l.getD k 0).toNat + (l.getD (k + 1) 0).toNat
/-- A text is laid at a place. -/
def putAt (l : List UInt8) (k : Nat) (s : List UInt8) : List UInt8 := l.take k ++ s ++ l.drop (k + s.length)
theorem putAt_len {l : List UInt8} {k : Nat} {s : List UInt8} (h : k + s.length ≤ l.length) : (putAt l k s).length = l.length := by
  unfold putAt
  simp
  omega
theorem putAt_nil (l : List UInt8) (k : Nat) : putAt l k [] = l := by unfold putAt; simp
/-- An area, as plain data: all its bytes (those ahead of the texts count for nothing), the low place, the directory. -/
structure Ar where
  B : List UInt8
  low : Nat
  L : List (Nat × Nat)
def ents : List (Nat × Nat) → List UInt8
  | [] => []
  | p :: r => be 2 p.1 ++ (be 2 p.2 ++ ents r)
def Ar.fin (a : Ar) : Nat := 4 + 4 * a.L.length
def Ar.enc (a : Ar) : List UInt8 := be 2 a.L.length ++ (be 2 a.low ++ (ents a.L ++ a.B.drop a.fin))
theorem split_at (L : List (Nat × Nat)) (k : Nat) (h : k < L.length) : L = L.take k ++ L[k] :: L.drop (k + 1) := by
  rw [← List.drop_eq_getElem_cons h, List.take_append_drop]
/-- A text, of a place. -/
def Ar.text (a : Ar) (p : Nat × Nat) : List UInt8 := (a.B.drop p.1).take p.2
def Ar.below (a : Ar) (t : List UInt8) : Ar := { a with B := putAt a.B (a.low - t.length) t, low := a.low - t.length }
/-- A text stands below, as that of place k. -/
def Ar.stand (a : Ar) (k : Nat) (t : List UInt8) : Ar := { a.below t with L := a.L.set k (a.low - t.length, t.length) }
def Ar.stands (a : Ar) (ts : List (List UInt8)) : Nat → Ar
  | 0 => a
  | k + 1 => (a.stands ts k).stand k (ts.getD k [])
def Ar.compact (a : Ar) : Ar :=
  let c := ({ a with low := a.B.length } : Ar).stands (a.L.map a.text) a.L.length
  { c with B := List.replicate c.low 0 ++ c.B.drop c.low }
def Ar.sum (a : Ar) : Nat := (a.L.map (·.2)).sum
def Ar.free (a : Ar) : Int := (a.B.length : Int) - a.fin - a.sum
def Ar.gap (a : Ar) : Int := (a.low : Int) - a.fin
/-- A text more. -/
def Ar.putIn (a : Ar) (k : Nat) (t : List UInt8) : Ar := { a.below t with L := a.L.take k ++ (a.low - t.length, t.length) :: a.L.drop k }
def Ar.roomy (a : Ar) (n : Nat) : Ar := if a.gap < n then a.compact else a
def Ar.put (a : Ar) (k : Int) (t : List UInt8) : Ar × Int :=
  if k < 0 ∨ (a.L.length : Int) < k then (a, 2) else if a.free < t.length + 4 then (a, 4) else ((a.roomy (t.length + 4)).putIn k.toNat t, 0)
def Ar.short (a : Ar) (k : Nat) (t : List UInt8) : Ar := { a with B := putAt a.B (a.L.getD k (0, 0)).1 t, L := a.L.set k ((a.L.getD k (0, 0)).1, t.length) }
def Ar.long (a : Ar) (k : Nat) (t : List UInt8) : Ar :=
  if a.gap < t.length then ({ a with L := a.L.set k ((a.L.getD k (0, 0)).1, 0) } : Ar).compact.stand k t else a.stand k t
def Ar.set (a : Ar) (k : Int) (t : List UInt8) : Ar × Int :=
  if ¬ (0 ≤ k ∧ k < (a.L.length : Int)) then (a, 3)
  else if t.length ≤ (a.L.getD k.toNat (0, 0)).2 then (a.short k.toNat t, 0)
  else if a.free < (t.length : Int) - (a.L.getD k.toNat (0, 0)).2 then (a, 4)
  else (a.long k.toNat t, 0)
def Ar.new (n : Nat) : Ar := { B := List.replicate n 0, low := n, L := [] }
def Apart (p q : Nat × Nat) : Prop := p.2 = 0 ∨ q.2 = 0 ∨ p.1 + p.2 ≤ q.1 ∨ q.1 + q.2 ≤ p.1
structure Ar.Good (a : Ar) : Prop where
  lo : 16 ≤ a.B.length
  hi : a.B.length ≤ 4096
  f : a.fin ≤ a.low
  l : a.low ≤ a.B.length
  inn : ∀ p ∈ a.L, a.low ≤ p.1 ∧ p.1 + p.2 ≤ a.B.length
  dis : a.L.Pairwise Apart
theorem sum_filter (p : Nat × Nat → Bool) : ∀ L : List (Nat × Nat), (L.map (·.2)).sum = ((L.filter p).map (·.2)).sum + ((L.filter fun q => !p q).map (·.2)).sum
  | [] => rfl
  | q :: r => by
    have ih := sum_filter p r
    by_cases h : p q = true
    · simp [List.filter_cons, h, ih]; omega
    · simp [List.filter_cons, h, ih]; omega
theorem sum_apart : ∀ (n : Nat) (L : List (Nat × Nat)) (lo hi : Nat), L.length ≤ n → lo ≤ hi → (∀ q ∈ L, q.2 = 0 ∨ (lo ≤ q.1 ∧ q.1 + q.2 ≤ hi)) → L.Pairwise Apart → (L.map (·.2)).sum ≤ hi - lo
  | _, [], _, _, _, _, _, _ => by simp
  | 0, p :: r, _, _, hn, _, _, _ => by simp at hn
  | n + 1, p :: r, lo, hi, hn, hl, hin, hap => by
    have hn' : r.length ≤ n := by simpa using hn
    rw [List.pairwise_cons] at hap
    obtain ⟨hp, hr⟩ := hap
    by_cases h0 : p.2 = 0
    · have := sum_apart n r lo hi hn' hl (fun q hq => hin q (by simp [hq])) hr
      simpa [h0] using this
    · obtain ⟨h1, h2⟩ := (hin p (by simp)).resolve_left h0
      have e := sum_filter (fun q => decide (q.1 + q.2 ≤ p.1)) r
      have i1 := sum_apart n (r.filter fun q => decide (q.1 + q.2 ≤ p.1)) lo p.1 (Nat.le_trans (List.length_filter_le _ _) hn') h1 (fun q hq => by
        rw [List.mem_filter] at hq
        have := hin q (by simp [hq.1])
        have h3 : q.1 + q.2 ≤ p.1 := by simpa using hq.2
        omega) (hr.filter _)
      have i2 := sum_apart n (r.filter fun q => !decide (q.1 + q.2 ≤ p.1)) (p.1 + p.2) hi (Nat.le_trans (List.length_filter_le _ _) hn') h2 (fun q hq => by
        rw [List.mem_filter] at hq
        have := hin q (by simp [hq.1])
        have h3 : ¬ q.1 + q.2 ≤ p.1 := by simpa using hq.2
        have h4 := hp q hq.1
        unfold Apart at h4
        omega) (hr.filter _)
      simp only [List.map_cons, List.sum_cons]
      omega
theorem Ar.Good.sum_le {a : Ar} (h : a.Good) : a.low + a.sum ≤ a.B.length := by
  have := sum_apart a.L.length a.L a.low a.B.length (Nat.le_refl _) h.l (fun q hq => .inr (h.inn q hq)) h.dis
  have := h.l
  unfold Ar.sum
  omega
theorem putAt_get (B : List UInt8) (k : Nat) (t : List UInt8) (hk : k ≤ B.length) (j : Nat) : (putAt B k t)[j]? = if j < k then B[j]? else if j < k + t.length then t[j - k]? else B[j]? := by
  unfold putAt
  by_cases h1 : j < k
  · rw [if_pos h1, List.append_assoc, List.getElem?_append_left (by simp; omega), List.getElem?_take_of_lt h1]
  · rw [if_neg h1]
    have hl : (B.take k).length = k := by simp; omega
    by_cases h2 : j < k + t.length
    · rw [if_pos h2, List.getElem?_append_left (by simp; omega), List.getElem?_append_right (by omega), hl]
    · rw [if_neg h2, List.getElem?_append_right (by simp; omega), List.getElem?_drop]
      congr 1
      simp
      omega
theorem piece_get (B : List UInt8) (a n j : Nat) : ((B.drop a).take n)[j]? = if j < n then B[a + j]? else none := by
  by_cases h : j < n
  · rw [if_pos h, List.getElem?_take_of_lt h, List.getElem?_drop]
  · rw [if_neg h]; simp; omega
theorem piece_far (B : List UInt8) (k : Nat) (t : List UInt8) (a n : Nat) (hk : k ≤ B.length) (h : n = 0 ∨ a + n ≤ k ∨ k + t.length ≤ a) : ((putAt B k t).drop a).take n = (B.drop a).take n := by
  apply List.ext_getElem?
  intro j
  rw [piece_get, piece_get]
  by_cases hj : j < n
  · rw [if_pos hj, if_pos hj, putAt_get _ _ _ hk]
    by_cases h1 : a + j < k
    · rw [if_pos h1]
    · rw [if_neg h1, if_neg (by omega)]
  · rw [if_neg hj, if_neg hj]
theorem piece_own (B : List UInt8) (k : Nat) (t : List UInt8) (hk : k ≤ B.length) : ((putAt B k t).drop k).take t.length = t := by
  apply List.ext_getElem?
  intro j
  rw [piece_get]
  by_cases hj : j < t.length
  · rw [if_pos hj, putAt_get _ _ _ hk, if_neg (by omega), if_pos (by omega), show k + j - k = j by omega]
  · rw [if_neg hj, List.getElem?_eq_none (by omega)]
theorem piece_len (B : List UInt8) (a n : Nat) (h : a + n ≤ B.length) : ((B.drop a).take n).length = n := by simp; omega
/-- The first k texts stand anew. -/
structure Stood (N n f : Nat) (ts : List (List UInt8)) (k : Nat) (c : Ar) : Prop where
  len : c.B.length = N
  cnt : c.L.length = n
  low : c.low + ((ts.take k).map List.length).sum = N
  tx : ∀ j, j < k → ∃ p, c.L[j]? = some p ∧ c.text p = ts.getD j [] ∧ p.2 = (ts.getD j []).length ∧ c.low ≤ p.1 ∧ p.1 + p.2 ≤ N
  ap : ∀ i j p q, i < j → j < k → c.L[i]? = some p → c.L[j]? = some q → q.1 + q.2 ≤ p.1
theorem take_sum (ts : List (List UInt8)) (k : Nat) (h : k < ts.length) : ((ts.take (k + 1)).map List.length).sum = ((ts.take k).map List.length).sum + (ts.getD k []).length := by
  rw [List.take_succ_eq_append_getElem h, List.map_append, List.sum_append]
  simp [List.getD_eq_getElem?_getD, List.getElem?_eq_getElem h]
theorem sum_take_le (ts : List (List UInt8)) (k : Nat) : ((ts.take k).map List.length).sum ≤ (ts.map List.length).sum := by
  conv => rhs; rw [← List.take_append_drop k ts, List.map_append, List.sum_append]
  omega
theorem Stood.room {N n f k : Nat} {ts : List (List UInt8)} {c : Ar} (h : Stood N n f ts k c) (hs : (ts.map List.length).sum + f ≤ N) (hk : k < ts.length) : f + (ts.getD k []).length ≤ c.low := by
  have h1 := take_sum ts k hk
  have h2 := sum_take_le ts (k + 1)
  have h3 := h.low
  omega
theorem Stood.step {N n f k : Nat} {ts : List (List UInt8)} {c : Ar} (h : Stood N n f ts k c) (hs : (ts.map List.length).sum + f ≤ N) (hk : k < ts.length) (hn : ts.length = n) : Stood N n f ts (k + 1) (c.stand k (ts.getD k [])) := by
  have hr := h.room hs hk
  have hlow := h.low
  have hts := take_sum ts k hk
  generalize hT : ts.getD k [] = t at *
  have hcl : c.low ≤ c.B.length := by have := h.len; omega
  have hkl : c.low - t.length ≤ c.B.length := by omega
  refine ⟨?_, by simpa [Ar.stand, Ar.below] using h.cnt, ?_, ?_, ?_⟩
  · simp only [Ar.stand, Ar.below]
    rw [putAt_len (by omega)]
    exact h.len
  · simp only [Ar.stand, Ar.below]
    omega
  · intro j hj
    rcases Nat.lt_or_ge j k with hjk | hjk
    · obtain ⟨p, h1, h2, h3, h4, h5⟩ := h.tx j hjk
      refine ⟨p, ?_, ?_, h3, ?_, h5⟩
      · simp only [Ar.stand, Ar.below]
        rw [List.getElem?_set_ne (by omega)]
        exact h1
      · rw [← h2]
        exact piece_far _ _ _ _ _ hkl (by omega)
      · simp only [Ar.stand, Ar.below]
        omega
    · obtain rfl : j = k := by omega
      refine ⟨(c.low - t.length, t.length), ?_, ?_, by rw [hT], ?_, ?_⟩
      · simp only [Ar.stand, Ar.below]
        rw [List.getElem?_set_self (by have := h.cnt; omega)]
      · rw [hT]
        exact piece_own _ _ _ hkl
      · exact Nat.le_refl _
      · show c.low - t.length + t.length ≤ N
        have := h.len
        omega
  · intro i j p q hij hj hp hq
    simp only [Ar.stand, Ar.below] at hp hq
    rw [List.getElem?_set_ne (by omega)] at hp
    rcases Nat.lt_or_ge j k with hjk | hjk
    · rw [List.getElem?_set_ne (by omega)] at hq
      exact h.ap i j p q hij hjk hp hq
    · obtain rfl : j = k := by omega
      rw [List.getElem?_set_self (by have := h.cnt; omega)] at hq
      obtain ⟨p', h1, _, _, h4, _⟩ := h.tx i hij
      rw [h1] at hp
      injection hp with hp
      injection hq with hq
      subst hp
      subst hq
      show c.low - t.length + t.length ≤ p'.1
      omega
theorem Stood.zero (a : Ar) (ts : List (List UInt8)) (f : Nat) : Stood a.B.length a.L.length f ts 0 ({ a with low := a.B.length } : Ar) :=
  ⟨rfl, rfl, by simp, fun j hj => absurd hj (Nat.not_lt_zero j), fun i j p q _ hj => absurd hj (Nat.not_lt_zero j)⟩
theorem Stood.all (a : Ar) (ts : List (List UInt8)) (hn : ts.length = a.L.length) (hs : (ts.map List.length).sum + a.fin ≤ a.B.length) : ∀ k, k ≤ a.L.length → Stood a.B.length a.L.length a.fin ts k (({ a with low := a.B.length } : Ar).stands ts k)
  | 0, _ => Stood.zero a ts _
  | k + 1, h => (Stood.all a ts hn hs k (by omega)).step hs (by omega) hn
/-- The texts, in order. -/
def Ar.texts (a : Ar) : List (List UInt8) := a.L.map a.text
theorem Ar.Good.text_len {a : Ar} (h : a.Good) {p : Nat × Nat} (hp : p ∈ a.L) : (a.text p).length = p.2 := piece_len _ _ _ (h.inn p hp).2
theorem Ar.Good.texts_sum {a : Ar} (h : a.Good) : (a.texts.map List.length) = a.L.map (·.2) := by
  unfold Ar.texts
  rw [List.map_map]
  exact List.map_congr_left fun p hp => h.text_len hp
theorem Ar.Good.texts_fit {a : Ar} (h : a.Good) : (a.texts.map List.length).sum + a.fin ≤ a.B.length := by
  rw [h.texts_sum]
  have := h.sum_le
  have := h.f
  unfold Ar.sum at *
  omega
theorem Ar.Good.compact {a : Ar} (h : a.Good) : a.compact.Good ∧ a.compact.L.length = a.L.length ∧ a.compact.B.length = a.B.length ∧ a.compact.texts = a.texts ∧ a.compact.low + a.sum = a.B.length := by
  have hS := Stood.all a a.texts (by simp [Ar.texts]) h.texts_fit a.L.length (Nat.le_refl _)
  have hfit := h.texts_fit
  have hsum := h.texts_sum
  have hlow := hS.low
  rw [List.take_of_length_le (by simp [Ar.texts])] at hlow
  have e : a.compact = { ({ a with low := a.B.length } : Ar).stands a.texts a.L.length with B := List.replicate (({ a with low := a.B.length } : Ar).stands a.texts a.L.length).low 0 ++ (({ a with low := a.B.length } : Ar).stands a.texts a.L.length).B.drop (({ a with low := a.B.length } : Ar).stands a.texts a.L.length).low } := rfl
  rw [e]
  generalize ({ a with low := a.B.length } : Ar).stands a.texts a.L.length = c at *
  have hll : c.low ≤ c.B.length := by have := hS.len; omega
  have htext : ∀ p : Nat × Nat, c.low ≤ p.1 → (({ c with B := List.replicate c.low 0 ++ c.B.drop c.low } : Ar).text p) = c.text p := by
    intro p hp
    apply List.ext_getElem?
    intro j
    unfold Ar.text
    rw [piece_get, piece_get]
    by_cases hj : j < p.2
    · rw [if_pos hj, if_pos hj, List.getElem?_append_right (by simp; omega), List.getElem?_drop]
      congr 1
      simp
      omega
    · rw [if_neg hj, if_neg hj]
  have hget : ∀ j (hj : j < c.L.length), c.low ≤ c.L[j].1 ∧ c.L[j].1 + c.L[j].2 ≤ a.B.length ∧ c.text c.L[j] = a.texts.getD j [] ∧ c.L[j].2 = (a.texts.getD j []).length := by
    intro j hj
    obtain ⟨p, h1, h2, h3, h4, h5⟩ := hS.tx j (by rw [hS.cnt] at hj; exact hj)
    rw [List.getElem?_eq_getElem hj] at h1
    injection h1 with h1
    rw [h1]
    exact ⟨h4, h5, h2, h3⟩
  have hBl : (List.replicate c.low (0 : UInt8) ++ c.B.drop c.low).length = a.B.length := by
    have := hS.len
    simp
    omega
  refine ⟨⟨?_, ?_, ?_, ?_, ?_, ?_⟩, hS.cnt, hBl, ?_, ?_⟩
  · show 16 ≤ (List.replicate c.low (0 : UInt8) ++ c.B.drop c.low).length
    rw [hBl]; exact h.lo
  · show (List.replicate c.low (0 : UInt8) ++ c.B.drop c.low).length ≤ 4096
    rw [hBl]; exact h.hi
  · show 4 + 4 * c.L.length ≤ c.low
    have := hS.cnt
    unfold Ar.fin at hfit
    omega
  · show c.low ≤ (List.replicate c.low (0 : UInt8) ++ c.B.drop c.low).length
    rw [hBl]; omega
  · intro p hp
    show c.low ≤ p.1 ∧ p.1 + p.2 ≤ (List.replicate c.low (0 : UInt8) ++ c.B.drop c.low).length
    rw [hBl]
    obtain ⟨j, hj, rfl⟩ := List.getElem_of_mem hp
    exact ⟨(hget j hj).1, (hget j hj).2.1⟩
  · rw [List.pairwise_iff_getElem]
    intro i j hi hj hij
    refine .inr (.inr (.inr ?_))
    exact hS.ap i j _ _ hij (by have := hS.cnt; show j < a.L.length; have : j < c.L.length := hj; omega) (List.getElem?_eq_getElem hi) (List.getElem?_eq_getElem hj)
  · show List.map (({ c with B := List.replicate c.low 0 ++ c.B.drop c.low } : Ar).text) c.L = a.texts
    apply List.ext_getElem
    · simp [Ar.texts, hS.cnt]
    · intro j h1 h2
      have hj : j < c.L.length := by simpa using h1
      rw [List.getElem_map, htext _ (hget j hj).1, (hget j hj).2.2.1]
      simp [List.getD_eq_getElem?_getD, List.getElem?_eq_getElem h2]
  · show c.low + a.sum = a.B.length
    unfold Ar.sum
    rw [← hsum]
    exact hlow
theorem Apart.symm {p q : Nat × Nat} (h : Apart p q) : Apart q p := by unfold Apart at *; omega
theorem Ar.text_below (a : Ar) (t : List UInt8) (L : List (Nat × Nat)) (l : Nat) (hl : a.low ≤ a.B.length) (ht : t.length ≤ a.low) (p : Nat × Nat) (hp : a.low ≤ p.1) : ({ B := putAt a.B (a.low - t.length) t, low := l, L := L } : Ar).text p = a.text p :=
  piece_far _ _ _ _ _ (by omega) (by omega)
theorem Ar.text_new (a : Ar) (t : List UInt8) (L : List (Nat × Nat)) (l : Nat) (hl : a.low ≤ a.B.length) : ({ B := putAt a.B (a.low - t.length) t, low := l, L := L } : Ar).text (a.low - t.length, t.length) = t :=
  piece_own _ _ _ (by omega)
theorem Ar.Good.stand {a : Ar} (h : a.Good) (k : Nat) (t : List UInt8) (hk : k < a.L.length) (hr : a.fin + t.length ≤ a.low) :
    (a.stand k t).Good ∧ (a.stand k t).texts = a.texts.set k t ∧ (a.stand k t).L.length = a.L.length ∧ (a.stand k t).B.length = a.B.length := by
  have hl := h.l
  have hBl : (putAt a.B (a.low - t.length) t).length = a.B.length := putAt_len (by omega)
  have hLl : (a.L.set k (a.low - t.length, t.length)).length = a.L.length := by simp
  have hmem : ∀ p ∈ a.L.set k (a.low - t.length, t.length), p ∈ a.L ∨ p = (a.low - t.length, t.length) := fun p hp => List.mem_or_eq_of_mem_set hp
  refine ⟨⟨?_, ?_, ?_, ?_, ?_, ?_⟩, ?_, hLl, hBl⟩
  · show 16 ≤ (putAt a.B (a.low - t.length) t).length
    rw [hBl]; exact h.lo
  · show (putAt a.B (a.low - t.length) t).length ≤ 4096
    rw [hBl]; exact h.hi
  · show 4 + 4 * (a.L.set k (a.low - t.length, t.length)).length ≤ a.low - t.length
    rw [hLl]
    unfold Ar.fin at hr
    omega
  · show a.low - t.length ≤ (putAt a.B (a.low - t.length) t).length
    rw [hBl]; omega
  · intro p hp
    show a.low - t.length ≤ p.1 ∧ p.1 + p.2 ≤ (putAt a.B (a.low - t.length) t).length
    rw [hBl]
    rcases hmem p hp with h1 | rfl
    · have := h.inn p h1
      omega
    · show a.low - t.length ≤ a.low - t.length ∧ a.low - t.length + t.length ≤ a.B.length
      omega
  · show (a.L.set k (a.low - t.length, t.length)).Pairwise Apart
    have hd := h.dis
    rw [List.pairwise_iff_getElem] at hd ⊢
    intro i j hi hj hij
    have hi' : i < a.L.length := by omega
    have hj' : j < a.L.length := by omega
    rw [List.getElem_set, List.getElem_set]
    by_cases h1 : k = i
    · rw [if_pos h1, if_neg (by omega)]
      have := h.inn a.L[j] (List.getElem_mem hj')
      unfold Apart
      simp only
      omega
    · rw [if_neg h1]
      by_cases h2 : k = j
      · rw [if_pos h2]
        have := h.inn a.L[i] (List.getElem_mem hi')
        unfold Apart
        simp only
        omega
      · rw [if_neg h2]
        exact hd i j hi' hj' hij
  · apply List.ext_getElem
    · simp [Ar.texts, Ar.stand, Ar.below]
    · intro j h1 h2
      have hj : j < a.L.length := by simpa [Ar.texts] using h2
      simp only [Ar.texts, List.getElem_map, List.getElem_set, Ar.stand, Ar.below]
      by_cases hkj : k = j
      · rw [if_pos hkj, if_pos hkj]
        exact Ar.text_new _ _ _ _ hl
      · rw [if_neg hkj, if_neg hkj]
        exact Ar.text_below _ _ _ _ hl (by omega) _ (h.inn _ (List.getElem_mem hj)).1
theorem Ar.Good.putIn {a : Ar} (h : a.Good) (k : Nat) (t : List UInt8) (hk : k ≤ a.L.length) (hr : a.fin + 4 + t.length ≤ a.low) :
    (a.putIn k t).Good ∧ (a.putIn k t).texts = a.texts.take k ++ t :: a.texts.drop k ∧ (a.putIn k t).L.length = a.L.length + 1 ∧ (a.putIn k t).B.length = a.B.length := by
  have hl := h.l
  have hBl : (putAt a.B (a.low - t.length) t).length = a.B.length := putAt_len (by omega)
  have hLl : (a.L.take k ++ (a.low - t.length, t.length) :: a.L.drop k).length = a.L.length + 1 := by simp; omega
  have hmem : ∀ p ∈ a.L.take k ++ (a.low - t.length, t.length) :: a.L.drop k, p ∈ a.L ∨ p = (a.low - t.length, t.length) := by
    intro p hp
    rw [List.mem_append, List.mem_cons] at hp
    rcases hp with h1 | h1 | h1
    · exact .inl (List.mem_of_mem_take h1)
    · exact .inr h1
    · exact .inl (List.mem_of_mem_drop h1)
  refine ⟨⟨?_, ?_, ?_, ?_, ?_, ?_⟩, ?_, hLl, hBl⟩
  · show 16 ≤ (putAt a.B (a.low - t.length) t).length
    rw [hBl]; exact h.lo
  · show (putAt a.B (a.low - t.length) t).length ≤ 4096
    rw [hBl]; exact h.hi
  · show 4 + 4 * (a.L.take k ++ (a.low - t.length, t.length) :: a.L.drop k).length ≤ a.low - t.length
    rw [hLl]
    unfold Ar.fin at hr
    omega
  · show a.low - t.length ≤ (putAt a.B (a.low - t.length) t).length
    rw [hBl]; omega
  · intro p hp
    show a.low - t.length ≤ p.1 ∧ p.1 + p.2 ≤ (putAt a.B (a.low - t.length) t).length
    rw [hBl]
    rcases hmem p hp with h1 | rfl
    · have := h.inn p h1
      omega
    · show a.low - t.length ≤ a.low - t.length ∧ a.low - t.length + t.length ≤ a.B.length
      omega
  · show (a.L.take k ++ (a.low - t.length, t.length) :: a.L.drop k).Pairwise Apart
    rw [List.pairwise_middle Apart.symm, List.take_append_drop, List.pairwise_cons]
    refine ⟨fun q hq => ?_, h.dis⟩
    have := h.inn q hq
    unfold Apart
    simp only
    omega
  · have hsame : ∀ p ∈ a.L, (a.putIn k t).text p = a.text p := fun p hp => Ar.text_below _ _ _ _ hl (by omega) _ (h.inn _ hp).1
    have hnew : (a.putIn k t).text (a.low - t.length, t.length) = t := Ar.text_new _ _ _ _ hl
    unfold Ar.texts
    show ((a.L.take k ++ (a.low - t.length, t.length) :: a.L.drop k)).map (a.putIn k t).text = _
    rw [List.map_append, List.map_cons, hnew, List.map_congr_left (fun p hp => hsame p (List.mem_of_mem_take hp)), List.map_congr_left (l := a.L.drop k) (fun p hp => hsame p (List.mem_of_mem_drop hp)), List.map_take, List.map_drop]
theorem set_sum (L : List (Nat × Nat)) (k : Nat) (p : Nat × Nat) (hk : k < L.length) : ((L.set k p).map (·.2)).sum + L[k].2 = (L.map (·.2)).sum + p.2 := by
  rw [List.set_eq_take_append_cons_drop, if_pos hk]
  have e : (L.map (·.2)).sum = ((L.take k).map (·.2)).sum + (L[k].2 + ((L.drop (k + 1)).map (·.2)).sum) := by
    conv => lhs; rw [split_at L k hk, List.map_append, List.sum_append, List.map_cons, List.sum_cons]
  rw [e, List.map_append, List.sum_append, List.map_cons, List.sum_cons]
  omega
theorem Ar.Good.shrink {a : Ar} (h : a.Good) (k : Nat) (B : List UInt8) (t : List UInt8) (hk : k < a.L.length) (ht : t.length ≤ a.L[k].2) (hB : B = putAt a.B a.L[k].1 t) :
    ({ a with B := B, L := a.L.set k (a.L[k].1, t.length) } : Ar).Good ∧ ({ a with B := B, L := a.L.set k (a.L[k].1, t.length) } : Ar).texts = a.texts.set k t := by
  subst hB
  have hin := h.inn a.L[k] (List.getElem_mem hk)
  have hBl : (putAt a.B a.L[k].1 t).length = a.B.length := putAt_len (by omega)
  have hd := h.dis
  rw [List.pairwise_iff_getElem] at hd
  refine ⟨⟨?_, ?_, ?_, ?_, ?_, ?_⟩, ?_⟩
  · show 16 ≤ (putAt a.B a.L[k].1 t).length
    rw [hBl]; exact h.lo
  · show (putAt a.B a.L[k].1 t).length ≤ 4096
    rw [hBl]; exact h.hi
  · show 4 + 4 * (a.L.set k (a.L[k].1, t.length)).length ≤ a.low
    rw [List.length_set]; exact h.f
  · show a.low ≤ (putAt a.B a.L[k].1 t).length
    rw [hBl]; exact h.l
  · intro p hp
    show a.low ≤ p.1 ∧ p.1 + p.2 ≤ (putAt a.B a.L[k].1 t).length
    rw [hBl]
    rcases List.mem_or_eq_of_mem_set hp with h1 | rfl
    · exact h.inn p h1
    · show a.low ≤ a.L[k].1 ∧ a.L[k].1 + t.length ≤ a.B.length
      omega
  · show (a.L.set k (a.L[k].1, t.length)).Pairwise Apart
    rw [List.pairwise_iff_getElem]
    intro i j hi hj hij
    have hi' : i < a.L.length := by simpa using hi
    have hj' : j < a.L.length := by simpa using hj
    have := hd i j hi' hj' hij
    rw [List.getElem_set, List.getElem_set]
    by_cases h1 : k = i
    · subst h1
      rw [if_pos rfl, if_neg (by omega)]
      unfold Apart at *
      simp only
      omega
    · rw [if_neg h1]
      by_cases h2 : k = j
      · subst h2
        rw [if_pos rfl]
        unfold Apart at *
        simp only
        omega
      · rw [if_neg h2]
        exact this
  · apply List.ext_getElem
    · simp [Ar.texts]
    · intro j h1 h2
      have hj : j < a.L.length := by simpa [Ar.texts] using h2
      simp only [Ar.texts, List.getElem_map, List.getElem_set]
      by_cases hkj : k = j
      · rw [if_pos hkj, if_pos hkj]
        exact piece_own _ _ _ (by omega)
      · rw [if_neg hkj, if_neg hkj]
        have hap : Apart a.L[k] a.L[j] := by
          rcases Nat.lt_or_ge k j with hlt | hge
          · exact hd k j hk hj hlt
          · exact (hd j k hj hk (by omega)).symm
        unfold Apart at hap
        show ((putAt a.B a.L[k].1 t).drop a.L[j].1).take a.L[j].2 = (a.B.drop a.L[j].1).take a.L[j].2
        by_cases h0 : t.length = 0
        · rw [show putAt a.B a.L[k].1 t = a.B by rw [List.length_eq_zero_iff.1 h0, putAt_nil]]
        · exact piece_far _ _ _ _ _ (by omega) (by omega)
theorem Ar.Good.short {a : Ar} (h : a.Good) (k : Nat) (t : List UInt8) (hk : k < a.L.length) (ht : t.length ≤ (a.L.getD k (0, 0)).2) : (a.short k t).Good ∧ (a.short k t).texts = a.texts.set k t := by
  have e : a.L.getD k (0, 0) = a.L[k] := by simp [List.getD_eq_getElem?_getD, hk]
  unfold Ar.short
  rw [e] at ht ⊢
  exact h.shrink k _ t hk ht rfl
theorem Ar.Good.roomy {a : Ar} (h : a.Good) (n : Nat) (hn : (n : Int) ≤ a.free) : (a.roomy n).Good ∧ (a.roomy n).texts = a.texts ∧ (a.roomy n).L.length = a.L.length ∧ (a.roomy n).fin + n ≤ (a.roomy n).low ∧ (a.roomy n).B.length = a.B.length := by
  unfold Ar.roomy
  by_cases hg : a.gap < n
  · rw [if_pos hg]
    obtain ⟨h1, h2, h3, h4, h5⟩ := h.compact
    refine ⟨h1, h4, h2, ?_, h3⟩
    unfold Ar.free at hn
    unfold Ar.fin at *
    omega
  · rw [if_neg hg]
    refine ⟨h, rfl, rfl, ?_, rfl⟩
    unfold Ar.gap at hg
    omega
theorem Ar.Good.long {a : Ar} (h : a.Good) (k : Nat) (t : List UInt8) (hk : k < a.L.length) (hf : (t.length : Int) - (a.L.getD k (0, 0)).2 ≤ a.free) : (a.long k t).Good ∧ (a.long k t).texts = a.texts.set k t ∧ (a.long k t).L.length = a.L.length ∧ (a.long k t).B.length = a.B.length := by
  have e : a.L.getD k (0, 0) = a.L[k] := by simp [List.getD_eq_getElem?_getD, hk]
  unfold Ar.long
  rw [e] at hf ⊢
  by_cases hg : a.gap < t.length
  · rw [if_pos hg]
    have hs := h.shrink k a.B [] hk (Nat.zero_le _) (putAt_nil _ _).symm
    simp only [List.length_nil] at hs
    have hsum := set_sum a.L k (a.L[k].1, 0) hk
    generalize hb : ({ a with B := a.B, L := a.L.set k (a.L[k].1, 0) } : Ar) = b at *
    have hb1 : b.L.length = a.L.length := by rw [← hb]; simp
    have hb2 : b.B.length = a.B.length := by rw [← hb]
    have hb3 : b.sum + a.L[k].2 = a.sum := by rw [← hb]; exact hsum
    obtain ⟨h1, h2, h3, h4, h5⟩ := hs.1.compact
    have := h1.stand k t (by omega) (by unfold Ar.free at hf; unfold Ar.fin at *; omega)
    rw [h4, hs.2, List.set_set] at this
    exact ⟨this.1, this.2.1, by omega, by omega⟩
  · rw [if_neg hg]
    have := h.stand k t hk (by unfold Ar.gap at hg; omega)
    exact this
theorem Ar.Good.new {n : Nat} (h1 : 16 ≤ n) (h2 : n ≤ 4096) : (Ar.new n).Good :=
  ⟨by simp [Ar.new]; omega, by simp [Ar.new]; omega, by show 4 + 4 * 0 ≤ n; omega, by simp [Ar.new], fun p hp => by simp [Ar.new] at hp, List.Pairwise.nil⟩
end Go.Proofs.YtienlhnbmobinaaGreat
namespace Go.Proofs.YtienlhnbmobinaaGreat
set_option linter.unusedVariables false
set_option linter.unusedSimpArgs false
end Go.Proofs.YtienlhnbmobinaaGreat
namespace Go.Proofs.YtienlhnbmobinaaGreat
set_option linter.unusedVariables false
set_option linter.unusedSimpArgs false
theorem Ar.Good.put_no {a : Ar} (k : Int) (t : List UInt8) (h : (a.put k t).2 ≠ 0) : (a.put k t).1 = a := by
  unfold Ar.put at *
  split at h
  · rename_i h1; rw [if_pos h1]
  · rename_i h1
    rw [if_neg h1]
    split at h
    · rename_i h2; rw [if_pos h2]
    · exact absurd rfl h
theorem Ar.put_ok {a : Ar} (k : Int) (t : List UInt8) : (a.put k t).2 = 0 ↔ (0 ≤ k ∧ k ≤ (a.L.length : Int)) ∧ (t.length : Int) + 4 ≤ a.free := by
  unfold Ar.put
  by_cases h1 : k < 0 ∨ (a.L.length : Int) < k
  · rw [if_pos h1]
    constructor
    · intro h; revert h; show (2 : Int) = 0 → _; omega
    · intro h; omega
  · rw [if_neg h1]
    by_cases h2 : a.free < t.length + 4
    · rw [if_pos h2]
      constructor
      · intro h; revert h; show (4 : Int) = 0 → _; omega
      · intro h; omega
    · rw [if_neg h2]
      exact ⟨fun _ => ⟨by omega, by omega⟩, fun _ => rfl⟩
theorem Ar.Good.put_yes {a : Ar} (h : a.Good) (k : Nat) (t : List UInt8) (hk : (a.put (k : Int) t).2 = 0) :
    (a.put (k : Int) t).1.Good ∧ (a.put (k : Int) t).1.texts = a.texts.take k ++ t :: a.texts.drop k ∧ (a.put (k : Int) t).1.L.length = a.L.length + 1 ∧ (a.put (k : Int) t).1.B.length = a.B.length := by
  obtain ⟨h1, h2⟩ := (Ar.put_ok _ _).1 hk
  have e : (a.put (k : Int) t).1 = (a.roomy (t.length + 4)).putIn k t := by
    unfold Ar.put
    rw [if_neg (by omega), if_neg (by omega), Int.toNat_natCast]
  rw [e]
  obtain ⟨r1, r2, r3, r4, r5⟩ := h.roomy (t.length + 4) (by omega)
  have := r1.putIn k t (by omega) (by omega)
  rw [r2, r3, r5] at this
  exact this
theorem Ar.Good.put {a : Ar} (h : a.Good) (k : Int) (t : List UInt8) : (a.put k t).1.Good ∧ (a.put k t).1.B.length = a.B.length := by
  by_cases h0 : (a.put k t).2 = 0
  · have hk := ((Ar.put_ok _ _).1 h0).1.1
    obtain ⟨n, rfl⟩ := Int.eq_ofNat_of_zero_le hk
    have := h.put_yes n t h0
    exact ⟨this.1, this.2.2.2⟩
  · rw [Ar.Good.put_no k t h0]
    exact ⟨h, rfl⟩
theorem Ar.Good.set_no {a : Ar} (k : Int) (t : List UInt8) (h : (a.set k t).2 ≠ 0) : (a.set k t).1 = a := by
  unfold Ar.set at *
  split at h
  · rename_i h1; rw [if_pos h1]
  · rename_i h1
    rw [if_neg h1]
    split at h
    · exact absurd rfl h
    · rename_i h2
      rw [if_neg h2]
      split at h
      · rename_i h3; rw [if_pos h3]
      · exact absurd rfl h
theorem Ar.set_ok {a : Ar} (k : Int) (t : List UInt8) : (a.set k t).2 = 0 ↔ (0 ≤ k ∧ k < (a.L.length : Int)) ∧ (t.length ≤ (a.L.getD k.toNat (0, 0)).2 ∨ (t.length : Int) - (a.L.getD k.toNat (0, 0)).2 ≤ a.free) := by
  unfold Ar.set
  by_cases h1 : 0 ≤ k ∧ k < (a.L.length : Int)
  · rw [if_neg (fun h => h h1)]
    by_cases h2 : t.length ≤ (a.L.getD k.toNat (0, 0)).2
    · rw [if_pos h2]
      exact ⟨fun _ => ⟨h1, .inl h2⟩, fun _ => rfl⟩
    · rw [if_neg h2]
      by_cases h3 : a.free < (t.length : Int) - (a.L.getD k.toNat (0, 0)).2
      · rw [if_pos h3]
        constructor
        · intro h; revert h; show (4 : Int) = 0 → _; omega
        · intro h; omega
      · rw [if_neg h3]
        exact ⟨fun _ => ⟨h1, .inr (by omega)⟩, fun _ => rfl⟩
  · rw [if_pos h1]
    constructor
    · intro h; revert h; show (3 : Int) = 0 → _; omega
    · intro h; exact absurd h.1 h1
theorem Ar.Good.set_yes {a : Ar} (h : a.Good) (k : Nat) (t : List UInt8) (hk : (a.set (k : Int) t).2 = 0) :
    (a.set (k : Int) t).1.Good ∧ (a.set (k : Int) t).1.texts = a.texts.set k t ∧ (a.set (k : Int) t).1.L.length = a.L.length ∧ (a.set (k : Int) t).1.B.length = a.B.length := by
  obtain ⟨h1, h2⟩ := (Ar.set_ok _ _).1 hk
  rw [Int.toNat_natCast] at h2
  have hkl : k < a.L.length := by omega
  have e : (a.set (k : Int) t).1 = if t.length ≤ (a.L.getD k (0, 0)).2 then a.short k t else a.long k t := by
    unfold Ar.set
    rw [if_neg (fun h => h h1), Int.toNat_natCast]
    by_cases h3 : t.length ≤ (a.L.getD k (0, 0)).2
    · rw [if_pos h3, if_pos h3]
    · rw [if_neg h3, if_neg h3, if_neg (by omega)]
  rw [e]
  by_cases h3 : t.length ≤ (a.L.getD k (0, 0)).2
  · rw [if_pos h3]
    have := h.short k t hkl h3
    have hin := h.inn _ (List.getElem_mem hkl)
    have hgd : a.L.getD k (0, 0) = a.L[k] := by simp [List.getD_eq_getElem?_getD, hkl]
    refine ⟨this.1, this.2, by simp [Ar.short], ?_⟩
    show (putAt a.B (a.L.getD k (0, 0)).1 t).length = _
    rw [hgd] at h3 ⊢
    exact putAt_len (by omega)
  · rw [if_neg h3]
    exact h.long k t hkl (by omega)
theorem Ar.Good.set {a : Ar} (h : a.Good) (k : Int) (t : List UInt8) : (a.set k t).1.Good ∧ (a.set k t).1.B.length = a.B.length := by
  by_cases h0 : (a.set k t).2 = 0
  · have hk := ((Ar.set_ok _ _).1 h0).1.1
    obtain ⟨n, rfl⟩ := Int.eq_ofNat_of_zero_le hk
    have := h.set_yes n t h0
    exact ⟨this.1, this.2.2.2⟩
  · rw [Ar.Good.set_no k t h0]
    exact ⟨h, rfl⟩
end Go.Proofs.YtienlhnbmobinaaGreat
namespace Go.Proofs.YtienlhnbmobinaaGreat
open Go.RowKit
set_option linter.unusedVariables false
set_option linter.unusedSimpArgs false
end Go.Proofs.YtienlhnbmobinaaGreat
namespace Go.Proofs.YtienlhnbmobinaaGreat
open Go.RowKit
set_option linter.unusedVariables false
set_option linter.unusedSimpArgs false
end Go.Proofs.YtienlhnbmobinaaGreat
namespace Go.Proofs.YtienlhnbmobinaaGreat
open Go.RowKit
set_option linter.unusedVariables false
set_option linter.unusedSimpArgs false
end Go.Proofs.YtienlhnbmobinaaGreat
namespace Go.Proofs.YtienlhnbmobinaaGreat
open Go.RowKit
set_option linter.unusedVariables false
set_option linter.unusedSimpArgs false
end Go.Proofs.YtienlhnbmobinaaGreat
namespace Go.Proofs.YtienlhnbmobinaaGreat
open Go.RowKit
set_option linter.unusedVariables false
set_option linter.unusedSimpArgs false
end Go.Proofs.YtienlhnbmobinaaGreat
namespace Go.Proofs.YtienlhnbmobinaaGreat
open Go.RowKit
set_option linter.unusedVariables false
set_option linter.unusedSimpArgs false
end Go.Proofs.YtienlhnbmobinaaGreat
namespace Go.Proofs.YtienlhnbmobinaaGreat
open Go.RowKit
set_option linter.unusedVariables false
set_option linter.unusedSimpArgs false
end Go.Proofs.YtienlhnbmobinaaGreat
namespace Go.Proofs.YtienlhnbmobinaaGreat
open Go.RowKit
set_option linter.unusedVariables false
set_option linter.unusedSimpArgs false
end Go.Proofs.YtienlhnbmobinaaGreat
end

section
/- CRC-32C as plain words: a bit's step, a byte's, a text's; what is turned within 32 bits in a row is seen -/
namespace Go.Proofs.YtienlhnbmobinaaGreat
set_option linter.unusedSimpArgs false
def low (v : BitVec 32) (n : Nat) : BitVec 32 := BitVec.ofNat 32 (v.toNat % 2 ^ n)
end Go.Proofs.YtienlhnbmobinaaGreat
end

section
/- pages' bytes in plain words: what a page is written as, which bytes are one, that it is read as itself, that turned bits make it none; torn pages; how long a row has room -/
namespace Go.Proofs.YtienlhnbmobinaaGreat
open Go.RowKit
set_option linter.unusedVariables false
set_option linter.unusedSimpArgs false
/-- How long a row has room. -/
def roomB (rows : List (List UInt8)) : Int := if 480 - (weightB rows : Int) < -1 then -1 else 480 - (weightB rows : Int)
end Go.Proofs.YtienlhnbmobinaaGreat
end
