/- An area, as plain data: its bytes, and what its functions leave. No program is named here. -/
import Derived.Test.YtlpfilpijiglpaaWordPlain
namespace Go.Proofs.Ytlpfilpijiglpaa
set_option linter.unusedVariables false
set_option linter.unusedSimpArgs false

/-- A number of two bytes that stands at a place. -/
def u2 (l : List UInt8) (k : Nat) : Nat := 256 * (l.getD k 0).toNat + (l.getD (k + 1) 0).toNat
theorem u2_lt (l : List UInt8) (k : Nat) : u2 l k < 65536 := by
  unfold u2
  have h1 := (l.getD k 0).toNat_lt
  have h2 := (l.getD (k + 1) 0).toNat_lt
  omega

/-- The text of an entry. -/
def txt (l : List UInt8) (k : Nat) : List UInt8 := (l.drop (u2 l (4 + 4 * k))).take (u2 l (6 + 4 * k))


/-- What an area's functions leave: its row holds other bytes; what was there is as it was, but that row. -/
def setTwo (l : List UInt8) (k n : Nat) : List UInt8 := l.take k ++ be 2 n ++ l.drop (k + 2)
theorem setTwo_len {l : List UInt8} {k n : Nat} (h : k + 2 ≤ l.length) : (setTwo l k n).length = l.length := by
  unfold setTwo
  simp [be_length]
  omega

/-- A place in the directory. -/
def setPlace (l : List UInt8) (k f n : Nat) : List UInt8 := setTwo (setTwo l (4 + 4 * k) f) (6 + 4 * k) n


/-- A text is laid at a place. -/
def putAt (l : List UInt8) (k : Nat) (s : List UInt8) : List UInt8 := l.take k ++ s ++ l.drop (k + s.length)
theorem putAt_len {l : List UInt8} {k : Nat} {s : List UInt8} (h : k + s.length ≤ l.length) : (putAt l k s).length = l.length := by
  unfold putAt
  simp
  omega
theorem putAt_nil (l : List UInt8) (k : Nat) : putAt l k [] = l := by unfold putAt; simp
def belowL (l : List UInt8) (s : List UInt8) : List UInt8 := setTwo (putAt l (u2 l 2 - s.length) s) 2 (u2 l 2 - s.length)


/-- The sizes of the first texts. -/
def sizes (l : List UInt8) : Nat → Nat
  | 0 => 0
  | k + 1 => sizes l k + u2 l (6 + 4 * k)
theorem sizes_le (l : List UInt8) : ∀ k, sizes l k ≤ 65536 * k
  | 0 => Nat.le_refl _
  | k + 1 => by
    have h1 := sizes_le l k
    have h2 := u2_lt l (6 + 4 * k)
    show sizes l k + u2 l (6 + 4 * k) ≤ _
    omega
def freeL (l : List UInt8) : Int := (l.length : Int) - 4 - 4 * (u2 l 0 : Int) - (sizes l (u2 l 0) : Int)

/-- An area, as plain data: all its bytes (those ahead of the texts count for nothing), the low place, the directory. -/
structure Ar where
  B : List UInt8
  low : Nat
  L : List (Nat × Nat)

def ents : List (Nat × Nat) → List UInt8
  | [] => []
  | p :: r => be 2 p.1 ++ (be 2 p.2 ++ ents r)
theorem ents_length : ∀ L, (ents L).length = 4 * L.length
  | [] => rfl
  | p :: r => by simp [ents, be_length, ents_length r]; omega
theorem ents_append : ∀ a b, ents (a ++ b) = ents a ++ ents b
  | [], b => rfl
  | p :: r, b => by simp [ents, ents_append r]

def Ar.fin (a : Ar) : Nat := 4 + 4 * a.L.length
def Ar.enc (a : Ar) : List UInt8 := be 2 a.L.length ++ (be 2 a.low ++ (ents a.L ++ a.B.drop a.fin))

theorem Ar.enc_length (a : Ar) (h : a.fin ≤ a.B.length) : a.enc.length = a.B.length := by
  simp only [Ar.enc, List.length_append, be_length, ents_length, List.length_drop]
  unfold Ar.fin at *
  omega

theorem be2 (n : Nat) : be 2 n = [UInt8.ofNat (n / 256), UInt8.ofNat n] := by simp [be]

theorem u2_at (x y : List UInt8) (n k : Nat) (hk : x.length = k) (hn : n < 65536) : u2 (x ++ (be 2 n ++ y)) k = n := by
  subst hk
  unfold u2
  rw [be2]
  simp [List.getD_eq_getElem?_getD]
  omega

theorem setTwo_at (x y : List UInt8) (n m k : Nat) (hk : x.length = k) : setTwo (x ++ (be 2 m ++ y)) k n = x ++ (be 2 n ++ y) := by
  subst hk
  unfold setTwo
  have e : (be 2 m ++ y).drop 2 = y := by rw [be2]; rfl
  rw [List.take_left, ← List.drop_drop, List.drop_left, e]
  simp

theorem split_at (L : List (Nat × Nat)) (k : Nat) (h : k < L.length) : L = L.take k ++ L[k] :: L.drop (k + 1) := by
  rw [← List.drop_eq_getElem_cons h, List.take_append_drop]

theorem enc_split (a : Ar) (k : Nat) (h : k < a.L.length) : a.enc = (be 2 a.L.length ++ (be 2 a.low ++ ents (a.L.take k))) ++ (be 2 a.L[k].1 ++ (be 2 a.L[k].2 ++ (ents (a.L.drop (k + 1)) ++ a.B.drop a.fin))) := by
  have e : ents a.L = ents (a.L.take k) ++ (be 2 a.L[k].1 ++ (be 2 a.L[k].2 ++ ents (a.L.drop (k + 1)))) := by
    conv => lhs; rw [split_at a.L k h, ents_append]
    rfl
  unfold Ar.enc
  rw [e]
  simp

theorem Ar.u2_n (a : Ar) (h : a.L.length < 65536) : u2 a.enc 0 = a.L.length := u2_at [] _ _ 0 rfl h
theorem Ar.u2_low (a : Ar) (h : a.low < 65536) : u2 a.enc 2 = a.low := u2_at (be 2 a.L.length) _ _ 2 (be_length _ _) h
theorem Ar.u2_from (a : Ar) (k : Nat) (h : k < a.L.length) (hf : a.L[k].1 < 65536) : u2 a.enc (4 + 4 * k) = a.L[k].1 := by
  rw [enc_split a k h]
  exact u2_at _ _ _ _ (by simp [be_length, ents_length]; omega) hf
theorem Ar.u2_size (a : Ar) (k : Nat) (h : k < a.L.length) (hf : a.L[k].2 < 65536) : u2 a.enc (6 + 4 * k) = a.L[k].2 := by
  rw [enc_split a k h]
  have e := u2_at (be 2 a.L.length ++ (be 2 a.low ++ ents (a.L.take k)) ++ be 2 a.L[k].1) (ents (a.L.drop (k + 1)) ++ a.B.drop a.fin) a.L[k].2 (6 + 4 * k) (by simp [be_length, ents_length]; omega) hf
  rw [List.append_assoc (_ ++ _) (be 2 a.L[k].1)] at e
  exact e

theorem Ar.set_low (a : Ar) (n : Nat) : setTwo a.enc 2 n = ({ a with low := n } : Ar).enc := setTwo_at (be 2 a.L.length) _ n _ 2 (be_length _ _)
theorem Ar.set_n (a : Ar) (n : Nat) : setTwo a.enc 0 n = be 2 n ++ (be 2 a.low ++ (ents a.L ++ a.B.drop a.fin)) := setTwo_at [] _ n _ 0 rfl

theorem Ar.set_place (a : Ar) (k f n : Nat) (h : k < a.L.length) : setPlace a.enc k f n = ({ a with L := a.L.set k (f, n) } : Ar).enc := by
  have e1 : setTwo a.enc (4 + 4 * k) f = (be 2 a.L.length ++ (be 2 a.low ++ ents (a.L.take k))) ++ (be 2 f ++ (be 2 a.L[k].2 ++ (ents (a.L.drop (k + 1)) ++ a.B.drop a.fin))) := by
    rw [enc_split a k h]
    exact setTwo_at _ _ _ _ _ (by simp [be_length, ents_length]; omega)
  have e2 := setTwo_at (be 2 a.L.length ++ (be 2 a.low ++ ents (a.L.take k)) ++ be 2 f) (ents (a.L.drop (k + 1)) ++ a.B.drop a.fin) n a.L[k].2 (6 + 4 * k) (by simp [be_length, ents_length]; omega)
  have h' : k < (a.L.set k (f, n)).length := by simpa using h
  have e3 := enc_split { a with L := a.L.set k (f, n) } k h'
  simp only [List.getElem_set_self, List.length_set, List.take_set_of_le (Nat.le_refl k), List.drop_set_of_lt (Nat.lt_succ_self k)] at e3
  rw [e3]
  unfold setPlace
  rw [e1]
  simp only [List.append_assoc] at e2 ⊢
  rw [e2]
  simp [Ar.fin]

theorem putAt_app (x y : List UInt8) (k : Nat) (t : List UInt8) (hk : x.length ≤ k) : putAt (x ++ y) k t = x ++ putAt y (k - x.length) t := by
  unfold putAt
  rw [List.take_append, List.take_of_length_le hk, List.drop_append, List.drop_of_length_le (by omega), show k + t.length - x.length = k - x.length + t.length by omega]
  simp

theorem putAt_drop (l : List UInt8) (k f : Nat) (t : List UInt8) (hf : f ≤ k) (hk : k ≤ l.length) : (putAt l k t).drop f = putAt (l.drop f) (k - f) t := by
  unfold putAt
  rw [List.append_assoc, List.drop_append, List.length_take, Nat.min_eq_left hk, show f - k = 0 by omega, List.drop_zero, List.drop_take, List.drop_drop, List.append_assoc, show f + (k - f + t.length) = k + t.length by omega]

theorem Ar.put_at (a : Ar) (k : Nat) (t : List UInt8) (hk : a.fin ≤ k) (hl : k ≤ a.B.length) : putAt a.enc k t = ({ a with B := putAt a.B k t } : Ar).enc := by
  have e : a.enc = (be 2 a.L.length ++ (be 2 a.low ++ ents a.L)) ++ a.B.drop a.fin := by simp [Ar.enc]
  have hx : (be 2 a.L.length ++ (be 2 a.low ++ ents a.L)).length = a.fin := by
    simp only [List.length_append, be_length, ents_length]
    unfold Ar.fin
    omega
  rw [e, putAt_app _ _ _ _ (by omega), hx]
  show _ = be 2 a.L.length ++ (be 2 a.low ++ (ents a.L ++ (putAt a.B k t).drop a.fin))
  rw [putAt_drop _ _ _ _ hk hl]
  simp

/-- A text, of a place. -/
def Ar.text (a : Ar) (p : Nat × Nat) : List UInt8 := (a.B.drop p.1).take p.2
def Ar.below (a : Ar) (t : List UInt8) : Ar := { a with B := putAt a.B (a.low - t.length) t, low := a.low - t.length }
/-- A text stands below, as that of place k. -/
def Ar.stand (a : Ar) (k : Nat) (t : List UInt8) : Ar := { a.below t with L := a.L.set k (a.low - t.length, t.length) }
def Ar.stands (a : Ar) (ts : List (List UInt8)) : Nat → Ar
  | 0 => a
  | k + 1 => (a.stands ts k).stand k (ts.getD k [])
def Ar.compact (a : Ar) : Ar :=
  let c := ({ a with low := a.B.length } : Ar).stands (a.L.map a.text) a.L.length
  { c with B := List.replicate c.low 0 ++ c.B.drop c.low }
def Ar.sum (a : Ar) : Nat := (a.L.map (·.2)).sum
def Ar.free (a : Ar) : Int := (a.B.length : Int) - a.fin - a.sum
def Ar.gap (a : Ar) : Int := (a.low : Int) - a.fin
/-- A text more. -/
def Ar.putIn (a : Ar) (k : Nat) (t : List UInt8) : Ar := { a.below t with L := a.L.take k ++ (a.low - t.length, t.length) :: a.L.drop k }
def Ar.roomy (a : Ar) (n : Nat) : Ar := if a.gap < n then a.compact else a
def Ar.put (a : Ar) (k : Int) (t : List UInt8) : Ar × Int :=
  if k < 0 ∨ (a.L.length : Int) < k then (a, 2) else if a.free < t.length + 4 then (a, 4) else ((a.roomy (t.length + 4)).putIn k.toNat t, 0)
def Ar.short (a : Ar) (k : Nat) (t : List UInt8) : Ar := { a with B := putAt a.B (a.L.getD k (0, 0)).1 t, L := a.L.set k ((a.L.getD k (0, 0)).1, t.length) }
def Ar.long (a : Ar) (k : Nat) (t : List UInt8) : Ar :=
  if a.gap < t.length then ({ a with L := a.L.set k ((a.L.getD k (0, 0)).1, 0) } : Ar).compact.stand k t else a.stand k t
def Ar.set (a : Ar) (k : Int) (t : List UInt8) : Ar × Int :=
  if ¬ (0 ≤ k ∧ k < (a.L.length : Int)) then (a, 3)
  else if t.length ≤ (a.L.getD k.toNat (0, 0)).2 then (a.short k.toNat t, 0)
  else if a.free < (t.length : Int) - (a.L.getD k.toNat (0, 0)).2 then (a, 4)
  else (a.long k.toNat t, 0)
def Ar.cut (a : Ar) (k : Nat) : Ar := { a with B := a.B.take (a.fin - 4) ++ List.replicate 4 0 ++ a.B.drop a.fin, L := a.L.eraseIdx k }
def Ar.remove (a : Ar) (k : Int) : Ar × Int := if ¬ (0 ≤ k ∧ k < (a.L.length : Int)) then (a, 3) else (a.cut k.toNat, 0)
def Ar.new (n : Nat) : Ar := { B := List.replicate n 0, low := n, L := [] }

def Apart (p q : Nat × Nat) : Prop := p.2 = 0 ∨ q.2 = 0 ∨ p.1 + p.2 ≤ q.1 ∨ q.1 + q.2 ≤ p.1
structure Ar.Good (a : Ar) : Prop where
  lo : 16 ≤ a.B.length
  hi : a.B.length ≤ 4096
  f : a.fin ≤ a.low
  l : a.low ≤ a.B.length
  inn : ∀ p ∈ a.L, a.low ≤ p.1 ∧ p.1 + p.2 ≤ a.B.length
  dis : a.L.Pairwise Apart


theorem sum_filter (p : Nat × Nat → Bool) : ∀ L : List (Nat × Nat), (L.map (·.2)).sum = ((L.filter p).map (·.2)).sum + ((L.filter fun q => !p q).map (·.2)).sum
  | [] => rfl
  | q :: r => by
    have ih := sum_filter p r
    by_cases h : p q = true
    · simp [List.filter_cons, h, ih]; omega
    · simp [List.filter_cons, h, ih]; omega

theorem sum_apart : ∀ (n : Nat) (L : List (Nat × Nat)) (lo hi : Nat), L.length ≤ n → lo ≤ hi → (∀ q ∈ L, q.2 = 0 ∨ (lo ≤ q.1 ∧ q.1 + q.2 ≤ hi)) → L.Pairwise Apart → (L.map (·.2)).sum ≤ hi - lo
  | _, [], _, _, _, _, _, _ => by simp
  | 0, p :: r, _, _, hn, _, _, _ => by simp at hn
  | n + 1, p :: r, lo, hi, hn, hl, hin, hap => by
    have hn' : r.length ≤ n := by simpa using hn
    rw [List.pairwise_cons] at hap
    obtain ⟨hp, hr⟩ := hap
    by_cases h0 : p.2 = 0
    · have := sum_apart n r lo hi hn' hl (fun q hq => hin q (by simp [hq])) hr
      simpa [h0] using this
    · obtain ⟨h1, h2⟩ := (hin p (by simp)).resolve_left h0
      have e := sum_filter (fun q => decide (q.1 + q.2 ≤ p.1)) r
      have i1 := sum_apart n (r.filter fun q => decide (q.1 + q.2 ≤ p.1)) lo p.1 (Nat.le_trans (List.length_filter_le _ _) hn') h1 (fun q hq => by
        rw [List.mem_filter] at hq
        have := hin q (by simp [hq.1])
        have h3 : q.1 + q.2 ≤ p.1 := by simpa using hq.2
        omega) (hr.filter _)
      have i2 := sum_apart n (r.filter fun q => !decide (q.1 + q.2 ≤ p.1)) (p.1 + p.2) hi (Nat.le_trans (List.length_filter_le _ _) hn') h2 (fun q hq => by
        rw [List.mem_filter] at hq
        have := hin q (by simp [hq.1])
        have h3 : ¬ q.1 + q.2 ≤ p.1 := by simpa using hq.2
        have h4 := hp q hq.1
        unfold Apart at h4
        omega) (hr.filter _)
      simp only [List.map_cons, List.sum_cons]
      omega

theorem Ar.Good.sum_le {a : Ar} (h : a.Good) : a.low + a.sum ≤ a.B.length := by
  have := sum_apart a.L.length a.L a.low a.B.length (Nat.le_refl _) h.l (fun q hq => .inr (h.inn q hq)) h.dis
  have := h.l
  unfold Ar.sum
  omega

theorem putAt_get (B : List UInt8) (k : Nat) (t : List UInt8) (hk : k ≤ B.length) (j : Nat) : (putAt B k t)[j]? = if j < k then B[j]? else if j < k + t.length then t[j - k]? else B[j]? := by
  unfold putAt
  by_cases h1 : j < k
  · rw [if_pos h1, List.append_assoc, List.getElem?_append_left (by simp; omega), List.getElem?_take_of_lt h1]
  · rw [if_neg h1]
    have hl : (B.take k).length = k := by simp; omega
    by_cases h2 : j < k + t.length
    · rw [if_pos h2, List.getElem?_append_left (by simp; omega), List.getElem?_append_right (by omega), hl]
    · rw [if_neg h2, List.getElem?_append_right (by simp; omega), List.getElem?_drop]
      congr 1
      simp
      omega

theorem piece_get (B : List UInt8) (a n j : Nat) : ((B.drop a).take n)[j]? = if j < n then B[a + j]? else none := by
  by_cases h : j < n
  · rw [if_pos h, List.getElem?_take_of_lt h, List.getElem?_drop]
  · rw [if_neg h]; simp; omega

theorem piece_far (B : List UInt8) (k : Nat) (t : List UInt8) (a n : Nat) (hk : k ≤ B.length) (h : n = 0 ∨ a + n ≤ k ∨ k + t.length ≤ a) : ((putAt B k t).drop a).take n = (B.drop a).take n := by
  apply List.ext_getElem?
  intro j
  rw [piece_get, piece_get]
  by_cases hj : j < n
  · rw [if_pos hj, if_pos hj, putAt_get _ _ _ hk]
    by_cases h1 : a + j < k
    · rw [if_pos h1]
    · rw [if_neg h1, if_neg (by omega)]
  · rw [if_neg hj, if_neg hj]

theorem piece_own (B : List UInt8) (k : Nat) (t : List UInt8) (hk : k ≤ B.length) : ((putAt B k t).drop k).take t.length = t := by
  apply List.ext_getElem?
  intro j
  rw [piece_get]
  by_cases hj : j < t.length
  · rw [if_pos hj, putAt_get _ _ _ hk, if_neg (by omega), if_pos (by omega), show k + j - k = j by omega]
  · rw [if_neg hj, List.getElem?_eq_none (by omega)]

theorem piece_len (B : List UInt8) (a n : Nat) (h : a + n ≤ B.length) : ((B.drop a).take n).length = n := by simp; omega

/-- The first k texts stand anew. -/
structure Stood (N n f : Nat) (ts : List (List UInt8)) (k : Nat) (c : Ar) : Prop where
  len : c.B.length = N
  cnt : c.L.length = n
  low : c.low + ((ts.take k).map List.length).sum = N
  tx : ∀ j, j < k → ∃ p, c.L[j]? = some p ∧ c.text p = ts.getD j [] ∧ p.2 = (ts.getD j []).length ∧ c.low ≤ p.1 ∧ p.1 + p.2 ≤ N
  ap : ∀ i j p q, i < j → j < k → c.L[i]? = some p → c.L[j]? = some q → q.1 + q.2 ≤ p.1

theorem take_sum (ts : List (List UInt8)) (k : Nat) (h : k < ts.length) : ((ts.take (k + 1)).map List.length).sum = ((ts.take k).map List.length).sum + (ts.getD k []).length := by
  rw [List.take_succ_eq_append_getElem h, List.map_append, List.sum_append]
  simp [List.getD_eq_getElem?_getD, List.getElem?_eq_getElem h]

theorem sum_take_le (ts : List (List UInt8)) (k : Nat) : ((ts.take k).map List.length).sum ≤ (ts.map List.length).sum := by
  conv => rhs; rw [← List.take_append_drop k ts, List.map_append, List.sum_append]
  omega

theorem Stood.room {N n f k : Nat} {ts : List (List UInt8)} {c : Ar} (h : Stood N n f ts k c) (hs : (ts.map List.length).sum + f ≤ N) (hk : k < ts.length) : f + (ts.getD k []).length ≤ c.low := by
  have h1 := take_sum ts k hk
  have h2 := sum_take_le ts (k + 1)
  have h3 := h.low
  omega

theorem Stood.step {N n f k : Nat} {ts : List (List UInt8)} {c : Ar} (h : Stood N n f ts k c) (hs : (ts.map List.length).sum + f ≤ N) (hk : k < ts.length) (hn : ts.length = n) : Stood N n f ts (k + 1) (c.stand k (ts.getD k [])) := by
  have hr := h.room hs hk
  have hlow := h.low
  have hts := take_sum ts k hk
  generalize hT : ts.getD k [] = t at *
  have hcl : c.low ≤ c.B.length := by have := h.len; omega
  have hkl : c.low - t.length ≤ c.B.length := by omega
  refine ⟨?_, by simpa [Ar.stand, Ar.below] using h.cnt, ?_, ?_, ?_⟩
  · simp only [Ar.stand, Ar.below]
    rw [putAt_len (by omega)]
    exact h.len
  · simp only [Ar.stand, Ar.below]
    omega
  · intro j hj
    rcases Nat.lt_or_ge j k with hjk | hjk
    · obtain ⟨p, h1, h2, h3, h4, h5⟩ := h.tx j hjk
      refine ⟨p, ?_, ?_, h3, ?_, h5⟩
      · simp only [Ar.stand, Ar.below]
        rw [List.getElem?_set_ne (by omega)]
        exact h1
      · rw [← h2]
        exact piece_far _ _ _ _ _ hkl (by omega)
      · simp only [Ar.stand, Ar.below]
        omega
    · obtain rfl : j = k := by omega
      refine ⟨(c.low - t.length, t.length), ?_, ?_, by rw [hT], ?_, ?_⟩
      · simp only [Ar.stand, Ar.below]
        rw [List.getElem?_set_self (by have := h.cnt; omega)]
      · rw [hT]
        exact piece_own _ _ _ hkl
      · exact Nat.le_refl _
      · show c.low - t.length + t.length ≤ N
        have := h.len
        omega
  · intro i j p q hij hj hp hq
    simp only [Ar.stand, Ar.below] at hp hq
    rw [List.getElem?_set_ne (by omega)] at hp
    rcases Nat.lt_or_ge j k with hjk | hjk
    · rw [List.getElem?_set_ne (by omega)] at hq
      exact h.ap i j p q hij hjk hp hq
    · obtain rfl : j = k := by omega
      rw [List.getElem?_set_self (by have := h.cnt; omega)] at hq
      obtain ⟨p', h1, _, _, h4, _⟩ := h.tx i hij
      rw [h1] at hp
      injection hp with hp
      injection hq with hq
      subst hp
      subst hq
      show c.low - t.length + t.length ≤ p'.1
      omega

theorem Stood.zero (a : Ar) (ts : List (List UInt8)) (f : Nat) : Stood a.B.length a.L.length f ts 0 ({ a with low := a.B.length } : Ar) :=
  ⟨rfl, rfl, by simp, fun j hj => absurd hj (Nat.not_lt_zero j), fun i j p q _ hj => absurd hj (Nat.not_lt_zero j)⟩

theorem Stood.all (a : Ar) (ts : List (List UInt8)) (hn : ts.length = a.L.length) (hs : (ts.map List.length).sum + a.fin ≤ a.B.length) : ∀ k, k ≤ a.L.length → Stood a.B.length a.L.length a.fin ts k (({ a with low := a.B.length } : Ar).stands ts k)
  | 0, _ => Stood.zero a ts _
  | k + 1, h => (Stood.all a ts hn hs k (by omega)).step hs (by omega) hn

/-- The texts, in order. -/
def Ar.texts (a : Ar) : List (List UInt8) := a.L.map a.text

theorem Ar.Good.text_len {a : Ar} (h : a.Good) {p : Nat × Nat} (hp : p ∈ a.L) : (a.text p).length = p.2 := piece_len _ _ _ (h.inn p hp).2

theorem Ar.Good.texts_sum {a : Ar} (h : a.Good) : (a.texts.map List.length) = a.L.map (·.2) := by
  unfold Ar.texts
  rw [List.map_map]
  exact List.map_congr_left fun p hp => h.text_len hp

theorem Ar.Good.texts_fit {a : Ar} (h : a.Good) : (a.texts.map List.length).sum + a.fin ≤ a.B.length := by
  rw [h.texts_sum]
  have := h.sum_le
  have := h.f
  unfold Ar.sum at *
  omega

theorem Ar.Good.compact {a : Ar} (h : a.Good) : a.compact.Good ∧ a.compact.L.length = a.L.length ∧ a.compact.B.length = a.B.length ∧ a.compact.texts = a.texts ∧ a.compact.low + a.sum = a.B.length := by
  have hS := Stood.all a a.texts (by simp [Ar.texts]) h.texts_fit a.L.length (Nat.le_refl _)
  have hfit := h.texts_fit
  have hsum := h.texts_sum
  have hlow := hS.low
  rw [List.take_of_length_le (by simp [Ar.texts])] at hlow
  have e : a.compact = { ({ a with low := a.B.length } : Ar).stands a.texts a.L.length with B := List.replicate (({ a with low := a.B.length } : Ar).stands a.texts a.L.length).low 0 ++ (({ a with low := a.B.length } : Ar).stands a.texts a.L.length).B.drop (({ a with low := a.B.length } : Ar).stands a.texts a.L.length).low } := rfl
  rw [e]
  generalize ({ a with low := a.B.length } : Ar).stands a.texts a.L.length = c at *
  have hll : c.low ≤ c.B.length := by have := hS.len; omega
  have htext : ∀ p : Nat × Nat, c.low ≤ p.1 → (({ c with B := List.replicate c.low 0 ++ c.B.drop c.low } : Ar).text p) = c.text p := by
    intro p hp
    apply List.ext_getElem?
    intro j
    unfold Ar.text
    rw [piece_get, piece_get]
    by_cases hj : j < p.2
    · rw [if_pos hj, if_pos hj, List.getElem?_append_right (by simp; omega), List.getElem?_drop]
      congr 1
      simp
      omega
    · rw [if_neg hj, if_neg hj]
  have hget : ∀ j (hj : j < c.L.length), c.low ≤ c.L[j].1 ∧ c.L[j].1 + c.L[j].2 ≤ a.B.length ∧ c.text c.L[j] = a.texts.getD j [] ∧ c.L[j].2 = (a.texts.getD j []).length := by
    intro j hj
    obtain ⟨p, h1, h2, h3, h4, h5⟩ := hS.tx j (by rw [hS.cnt] at hj; exact hj)
    rw [List.getElem?_eq_getElem hj] at h1
    injection h1 with h1
    rw [h1]
    exact ⟨h4, h5, h2, h3⟩
  have hBl : (List.replicate c.low (0 : UInt8) ++ c.B.drop c.low).length = a.B.length := by
    have := hS.len
    simp
    omega
  refine ⟨⟨?_, ?_, ?_, ?_, ?_, ?_⟩, hS.cnt, hBl, ?_, ?_⟩
  · show 16 ≤ (List.replicate c.low (0 : UInt8) ++ c.B.drop c.low).length
    rw [hBl]; exact h.lo
  · show (List.replicate c.low (0 : UInt8) ++ c.B.drop c.low).length ≤ 4096
    rw [hBl]; exact h.hi
  · show 4 + 4 * c.L.length ≤ c.low
    have := hS.cnt
    unfold Ar.fin at hfit
    omega
  · show c.low ≤ (List.replicate c.low (0 : UInt8) ++ c.B.drop c.low).length
    rw [hBl]; omega
  · intro p hp
    show c.low ≤ p.1 ∧ p.1 + p.2 ≤ (List.replicate c.low (0 : UInt8) ++ c.B.drop c.low).length
    rw [hBl]
    obtain ⟨j, hj, rfl⟩ := List.getElem_of_mem hp
    exact ⟨(hget j hj).1, (hget j hj).2.1⟩
  · rw [List.pairwise_iff_getElem]
    intro i j hi hj hij
    refine .inr (.inr (.inr ?_))
    exact hS.ap i j _ _ hij (by have := hS.cnt; show j < a.L.length; have : j < c.L.length := hj; omega) (List.getElem?_eq_getElem hi) (List.getElem?_eq_getElem hj)
  · show List.map (({ c with B := List.replicate c.low 0 ++ c.B.drop c.low } : Ar).text) c.L = a.texts
    apply List.ext_getElem
    · simp [Ar.texts, hS.cnt]
    · intro j h1 h2
      have hj : j < c.L.length := by simpa using h1
      rw [List.getElem_map, htext _ (hget j hj).1, (hget j hj).2.2.1]
      simp [List.getD_eq_getElem?_getD, List.getElem?_eq_getElem h2]
  · show c.low + a.sum = a.B.length
    unfold Ar.sum
    rw [← hsum]
    exact hlow

theorem Apart.symm {p q : Nat × Nat} (h : Apart p q) : Apart q p := by unfold Apart at *; omega

theorem Ar.text_below (a : Ar) (t : List UInt8) (L : List (Nat × Nat)) (l : Nat) (hl : a.low ≤ a.B.length) (ht : t.length ≤ a.low) (p : Nat × Nat) (hp : a.low ≤ p.1) : ({ B := putAt a.B (a.low - t.length) t, low := l, L := L } : Ar).text p = a.text p :=
  piece_far _ _ _ _ _ (by omega) (by omega)

theorem Ar.text_new (a : Ar) (t : List UInt8) (L : List (Nat × Nat)) (l : Nat) (hl : a.low ≤ a.B.length) : ({ B := putAt a.B (a.low - t.length) t, low := l, L := L } : Ar).text (a.low - t.length, t.length) = t :=
  piece_own _ _ _ (by omega)

theorem Ar.Good.stand {a : Ar} (h : a.Good) (k : Nat) (t : List UInt8) (hk : k < a.L.length) (hr : a.fin + t.length ≤ a.low) :
    (a.stand k t).Good ∧ (a.stand k t).texts = a.texts.set k t ∧ (a.stand k t).L.length = a.L.length ∧ (a.stand k t).B.length = a.B.length := by
  have hl := h.l
  have hBl : (putAt a.B (a.low - t.length) t).length = a.B.length := putAt_len (by omega)
  have hLl : (a.L.set k (a.low - t.length, t.length)).length = a.L.length := by simp
  have hmem : ∀ p ∈ a.L.set k (a.low - t.length, t.length), p ∈ a.L ∨ p = (a.low - t.length, t.length) := fun p hp => List.mem_or_eq_of_mem_set hp
  refine ⟨⟨?_, ?_, ?_, ?_, ?_, ?_⟩, ?_, hLl, hBl⟩
  · show 16 ≤ (putAt a.B (a.low - t.length) t).length
    rw [hBl]; exact h.lo
  · show (putAt a.B (a.low - t.length) t).length ≤ 4096
    rw [hBl]; exact h.hi
  · show 4 + 4 * (a.L.set k (a.low - t.length, t.length)).length ≤ a.low - t.length
    rw [hLl]
    unfold Ar.fin at hr
    omega
  · show a.low - t.length ≤ (putAt a.B (a.low - t.length) t).length
    rw [hBl]; omega
  · intro p hp
    show a.low - t.length ≤ p.1 ∧ p.1 + p.2 ≤ (putAt a.B (a.low - t.length) t).length
    rw [hBl]
    rcases hmem p hp with h1 | rfl
    · have := h.inn p h1
      omega
    · show a.low - t.length ≤ a.low - t.length ∧ a.low - t.length + t.length ≤ a.B.length
      omega
  · show (a.L.set k (a.low - t.length, t.length)).Pairwise Apart
    have hd := h.dis
    rw [List.pairwise_iff_getElem] at hd ⊢
    intro i j hi hj hij
    have hi' : i < a.L.length := by omega
    have hj' : j < a.L.length := by omega
    rw [List.getElem_set, List.getElem_set]
    by_cases h1 : k = i
    · rw [if_pos h1, if_neg (by omega)]
      have := h.inn a.L[j] (List.getElem_mem hj')
      unfold Apart
      simp only
      omega
    · rw [if_neg h1]
      by_cases h2 : k = j
      · rw [if_pos h2]
        have := h.inn a.L[i] (List.getElem_mem hi')
        unfold Apart
        simp only
        omega
      · rw [if_neg h2]
        exact hd i j hi' hj' hij
  · apply List.ext_getElem
    · simp [Ar.texts, Ar.stand, Ar.below]
    · intro j h1 h2
      have hj : j < a.L.length := by simpa [Ar.texts] using h2
      simp only [Ar.texts, List.getElem_map, List.getElem_set, Ar.stand, Ar.below]
      by_cases hkj : k = j
      · rw [if_pos hkj, if_pos hkj]
        exact Ar.text_new _ _ _ _ hl
      · rw [if_neg hkj, if_neg hkj]
        exact Ar.text_below _ _ _ _ hl (by omega) _ (h.inn _ (List.getElem_mem hj)).1

theorem Ar.Good.putIn {a : Ar} (h : a.Good) (k : Nat) (t : List UInt8) (hk : k ≤ a.L.length) (hr : a.fin + 4 + t.length ≤ a.low) :
    (a.putIn k t).Good ∧ (a.putIn k t).texts = a.texts.take k ++ t :: a.texts.drop k ∧ (a.putIn k t).L.length = a.L.length + 1 ∧ (a.putIn k t).B.length = a.B.length := by
  have hl := h.l
  have hBl : (putAt a.B (a.low - t.length) t).length = a.B.length := putAt_len (by omega)
  have hLl : (a.L.take k ++ (a.low - t.length, t.length) :: a.L.drop k).length = a.L.length + 1 := by simp; omega
  have hmem : ∀ p ∈ a.L.take k ++ (a.low - t.length, t.length) :: a.L.drop k, p ∈ a.L ∨ p = (a.low - t.length, t.length) := by
    intro p hp
    rw [List.mem_append, List.mem_cons] at hp
    rcases hp with h1 | h1 | h1
    · exact .inl (List.mem_of_mem_take h1)
    · exact .inr h1
    · exact .inl (List.mem_of_mem_drop h1)
  refine ⟨⟨?_, ?_, ?_, ?_, ?_, ?_⟩, ?_, hLl, hBl⟩
  · show 16 ≤ (putAt a.B (a.low - t.length) t).length
    rw [hBl]; exact h.lo
  · show (putAt a.B (a.low - t.length) t).length ≤ 4096
    rw [hBl]; exact h.hi
  · show 4 + 4 * (a.L.take k ++ (a.low - t.length, t.length) :: a.L.drop k).length ≤ a.low - t.length
    rw [hLl]
    unfold Ar.fin at hr
    omega
  · show a.low - t.length ≤ (putAt a.B (a.low - t.length) t).length
    rw [hBl]; omega
  · intro p hp
    show a.low - t.length ≤ p.1 ∧ p.1 + p.2 ≤ (putAt a.B (a.low - t.length) t).length
    rw [hBl]
    rcases hmem p hp with h1 | rfl
    · have := h.inn p h1
      omega
    · show a.low - t.length ≤ a.low - t.length ∧ a.low - t.length + t.length ≤ a.B.length
      omega
  · show (a.L.take k ++ (a.low - t.length, t.length) :: a.L.drop k).Pairwise Apart
    rw [List.pairwise_middle Apart.symm, List.take_append_drop, List.pairwise_cons]
    refine ⟨fun q hq => ?_, h.dis⟩
    have := h.inn q hq
    unfold Apart
    simp only
    omega
  · have hsame : ∀ p ∈ a.L, (a.putIn k t).text p = a.text p := fun p hp => Ar.text_below _ _ _ _ hl (by omega) _ (h.inn _ hp).1
    have hnew : (a.putIn k t).text (a.low - t.length, t.length) = t := Ar.text_new _ _ _ _ hl
    unfold Ar.texts
    show ((a.L.take k ++ (a.low - t.length, t.length) :: a.L.drop k)).map (a.putIn k t).text = _
    rw [List.map_append, List.map_cons, hnew, List.map_congr_left (fun p hp => hsame p (List.mem_of_mem_take hp)), List.map_congr_left (l := a.L.drop k) (fun p hp => hsame p (List.mem_of_mem_drop hp)), List.map_take, List.map_drop]

theorem set_sum (L : List (Nat × Nat)) (k : Nat) (p : Nat × Nat) (hk : k < L.length) : ((L.set k p).map (·.2)).sum + L[k].2 = (L.map (·.2)).sum + p.2 := by
  rw [List.set_eq_take_append_cons_drop, if_pos hk]
  have e : (L.map (·.2)).sum = ((L.take k).map (·.2)).sum + (L[k].2 + ((L.drop (k + 1)).map (·.2)).sum) := by
    conv => lhs; rw [split_at L k hk, List.map_append, List.sum_append, List.map_cons, List.sum_cons]
  rw [e, List.map_append, List.sum_append, List.map_cons, List.sum_cons]
  omega

theorem Ar.Good.shrink {a : Ar} (h : a.Good) (k : Nat) (B : List UInt8) (t : List UInt8) (hk : k < a.L.length) (ht : t.length ≤ a.L[k].2) (hB : B = putAt a.B a.L[k].1 t) :
    ({ a with B := B, L := a.L.set k (a.L[k].1, t.length) } : Ar).Good ∧ ({ a with B := B, L := a.L.set k (a.L[k].1, t.length) } : Ar).texts = a.texts.set k t := by
  subst hB
  have hin := h.inn a.L[k] (List.getElem_mem hk)
  have hBl : (putAt a.B a.L[k].1 t).length = a.B.length := putAt_len (by omega)
  have hd := h.dis
  rw [List.pairwise_iff_getElem] at hd
  refine ⟨⟨?_, ?_, ?_, ?_, ?_, ?_⟩, ?_⟩
  · show 16 ≤ (putAt a.B a.L[k].1 t).length
    rw [hBl]; exact h.lo
  · show (putAt a.B a.L[k].1 t).length ≤ 4096
    rw [hBl]; exact h.hi
  · show 4 + 4 * (a.L.set k (a.L[k].1, t.length)).length ≤ a.low
    rw [List.length_set]; exact h.f
  · show a.low ≤ (putAt a.B a.L[k].1 t).length
    rw [hBl]; exact h.l
  · intro p hp
    show a.low ≤ p.1 ∧ p.1 + p.2 ≤ (putAt a.B a.L[k].1 t).length
    rw [hBl]
    rcases List.mem_or_eq_of_mem_set hp with h1 | rfl
    · exact h.inn p h1
    · show a.low ≤ a.L[k].1 ∧ a.L[k].1 + t.length ≤ a.B.length
      omega
  · show (a.L.set k (a.L[k].1, t.length)).Pairwise Apart
    rw [List.pairwise_iff_getElem]
    intro i j hi hj hij
    have hi' : i < a.L.length := by simpa using hi
    have hj' : j < a.L.length := by simpa using hj
    have := hd i j hi' hj' hij
    rw [List.getElem_set, List.getElem_set]
    by_cases h1 : k = i
    · subst h1
      rw [if_pos rfl, if_neg (by omega)]
      unfold Apart at *
      simp only
      omega
    · rw [if_neg h1]
      by_cases h2 : k = j
      · subst h2
        rw [if_pos rfl]
        unfold Apart at *
        simp only
        omega
      · rw [if_neg h2]
        exact this
  · apply List.ext_getElem
    · simp [Ar.texts]
    · intro j h1 h2
      have hj : j < a.L.length := by simpa [Ar.texts] using h2
      simp only [Ar.texts, List.getElem_map, List.getElem_set]
      by_cases hkj : k = j
      · rw [if_pos hkj, if_pos hkj]
        exact piece_own _ _ _ (by omega)
      · rw [if_neg hkj, if_neg hkj]
        have hap : Apart a.L[k] a.L[j] := by
          rcases Nat.lt_or_ge k j with hlt | hge
          · exact hd k j hk hj hlt
          · exact (hd j k hj hk (by omega)).symm
        unfold Apart at hap
        show ((putAt a.B a.L[k].1 t).drop a.L[j].1).take a.L[j].2 = (a.B.drop a.L[j].1).take a.L[j].2
        by_cases h0 : t.length = 0
        · rw [show putAt a.B a.L[k].1 t = a.B by rw [List.length_eq_zero_iff.1 h0, putAt_nil]]
        · exact piece_far _ _ _ _ _ (by omega) (by omega)

theorem Ar.Good.short {a : Ar} (h : a.Good) (k : Nat) (t : List UInt8) (hk : k < a.L.length) (ht : t.length ≤ (a.L.getD k (0, 0)).2) : (a.short k t).Good ∧ (a.short k t).texts = a.texts.set k t := by
  have e : a.L.getD k (0, 0) = a.L[k] := by simp [List.getD_eq_getElem?_getD, hk]
  unfold Ar.short
  rw [e] at ht ⊢
  exact h.shrink k _ t hk ht rfl

theorem Ar.Good.cut {a : Ar} (h : a.Good) (k : Nat) (hk : k < a.L.length) : (a.cut k).Good ∧ (a.cut k).texts = a.texts.eraseIdx k := by
  have hf := h.f
  have hl := h.l
  unfold Ar.fin at hf
  have hBl : (a.B.take (a.fin - 4) ++ List.replicate 4 0 ++ a.B.drop a.fin).length = a.B.length := by simp [Ar.fin]; omega
  have hLl : (a.L.eraseIdx k).length = a.L.length - 1 := List.length_eraseIdx_of_lt hk
  refine ⟨⟨?_, ?_, ?_, ?_, ?_, ?_⟩, ?_⟩
  · show 16 ≤ (a.B.take (a.fin - 4) ++ List.replicate 4 0 ++ a.B.drop a.fin).length
    rw [hBl]; exact h.lo
  · show (a.B.take (a.fin - 4) ++ List.replicate 4 0 ++ a.B.drop a.fin).length ≤ 4096
    rw [hBl]; exact h.hi
  · show 4 + 4 * (a.L.eraseIdx k).length ≤ a.low
    rw [hLl]
    omega
  · show a.low ≤ (a.B.take (a.fin - 4) ++ List.replicate 4 0 ++ a.B.drop a.fin).length
    rw [hBl]; exact hl
  · intro p hp
    show a.low ≤ p.1 ∧ p.1 + p.2 ≤ (a.B.take (a.fin - 4) ++ List.replicate 4 0 ++ a.B.drop a.fin).length
    rw [hBl]
    exact h.inn p (List.mem_of_mem_eraseIdx hp)
  · exact h.dis.sublist (List.eraseIdx_sublist ..)
  · have hsame : ∀ p ∈ a.L, (a.cut k).text p = a.text p := by
      intro p hp
      have hin := h.inn p hp
      apply List.ext_getElem?
      intro j
      unfold Ar.text
      rw [piece_get, piece_get]
      by_cases hj : j < p.2
      · rw [if_pos hj, if_pos hj]
        show (a.B.take (a.fin - 4) ++ List.replicate 4 0 ++ a.B.drop a.fin)[p.1 + j]? = _
        rw [List.getElem?_append_right (by simp [Ar.fin]; omega), List.getElem?_drop]
        congr 1
        simp [Ar.fin]
        omega
      · rw [if_neg hj, if_neg hj]
    unfold Ar.texts
    show (a.L.eraseIdx k).map (a.cut k).text = _
    rw [List.map_congr_left (fun p hp => hsame p (List.mem_of_mem_eraseIdx hp)), List.eraseIdx_eq_take_drop_succ, List.eraseIdx_eq_take_drop_succ, List.map_append, List.map_take, List.map_drop]

theorem Ar.Good.roomy {a : Ar} (h : a.Good) (n : Nat) (hn : (n : Int) ≤ a.free) : (a.roomy n).Good ∧ (a.roomy n).texts = a.texts ∧ (a.roomy n).L.length = a.L.length ∧ (a.roomy n).fin + n ≤ (a.roomy n).low ∧ (a.roomy n).B.length = a.B.length := by
  unfold Ar.roomy
  by_cases hg : a.gap < n
  · rw [if_pos hg]
    obtain ⟨h1, h2, h3, h4, h5⟩ := h.compact
    refine ⟨h1, h4, h2, ?_, h3⟩
    unfold Ar.free at hn
    unfold Ar.fin at *
    omega
  · rw [if_neg hg]
    refine ⟨h, rfl, rfl, ?_, rfl⟩
    unfold Ar.gap at hg
    omega

theorem Ar.Good.long {a : Ar} (h : a.Good) (k : Nat) (t : List UInt8) (hk : k < a.L.length) (hf : (t.length : Int) - (a.L.getD k (0, 0)).2 ≤ a.free) : (a.long k t).Good ∧ (a.long k t).texts = a.texts.set k t ∧ (a.long k t).L.length = a.L.length ∧ (a.long k t).B.length = a.B.length := by
  have e : a.L.getD k (0, 0) = a.L[k] := by simp [List.getD_eq_getElem?_getD, hk]
  unfold Ar.long
  rw [e] at hf ⊢
  by_cases hg : a.gap < t.length
  · rw [if_pos hg]
    have hs := h.shrink k a.B [] hk (Nat.zero_le _) (putAt_nil _ _).symm
    simp only [List.length_nil] at hs
    have hsum := set_sum a.L k (a.L[k].1, 0) hk
    generalize hb : ({ a with B := a.B, L := a.L.set k (a.L[k].1, 0) } : Ar) = b at *
    have hb1 : b.L.length = a.L.length := by rw [← hb]; simp
    have hb2 : b.B.length = a.B.length := by rw [← hb]
    have hb3 : b.sum + a.L[k].2 = a.sum := by rw [← hb]; exact hsum
    obtain ⟨h1, h2, h3, h4, h5⟩ := hs.1.compact
    have := h1.stand k t (by omega) (by unfold Ar.free at hf; unfold Ar.fin at *; omega)
    rw [h4, hs.2, List.set_set] at this
    exact ⟨this.1, this.2.1, by omega, by omega⟩
  · rw [if_neg hg]
    have := h.stand k t hk (by unfold Ar.gap at hg; omega)
    exact this

theorem Ar.Good.new {n : Nat} (h1 : 16 ≤ n) (h2 : n ≤ 4096) : (Ar.new n).Good :=
  ⟨by simp [Ar.new]; omega, by simp [Ar.new]; omega, by show 4 + 4 * 0 ≤ n; omega, by simp [Ar.new], fun p hp => by simp [Ar.new] at hp, List.Pairwise.nil⟩

theorem two_two (X : List UInt8) (h : X.length = 4) : ∃ x y : Nat, X = be 2 x ++ be 2 y := by
  refine ⟨un (X.take 2), un (X.drop 2), ?_⟩
  rw [be_un 2 _ (by simp; omega), be_un 2 _ (by simp; omega), List.take_append_drop]

theorem enc_cut (a : Ar) (k : Nat) : a.enc = (be 2 a.L.length ++ (be 2 a.low ++ ents (a.L.take k))) ++ (ents (a.L.drop k) ++ a.B.drop a.fin) := by
  have e : ents a.L = ents (a.L.take k) ++ ents (a.L.drop k) := by rw [← ents_append, List.take_append_drop]
  unfold Ar.enc
  rw [e]
  simp

theorem front_len (a : Ar) (k : Nat) (hk : k ≤ a.L.length) : (be 2 a.L.length ++ (be 2 a.low ++ ents (a.L.take k))).length = 4 + 4 * k := by
  simp only [List.length_append, be_length, ents_length, List.length_take, Nat.min_eq_left hk]
  omega

/-- The directory's end moves on by one place. -/
theorem Ar.shift (a : Ar) (k : Nat) (hk : k ≤ a.L.length) :
    ∃ x y, setTwo (putAt a.enc (8 + 4 * k) ((a.enc.drop (4 + 4 * k)).take (4 * (a.L.length - k)))) 0 (a.L.length + 1) = ({ a with L := a.L.take k ++ (x, y) :: a.L.drop k } : Ar).enc ∨ a.B.length < a.fin + 4 := by
  by_cases h : a.B.length < a.fin + 4
  · exact ⟨0, 0, .inr h⟩
  have hE : (ents (a.L.drop k)).length = 4 * (a.L.length - k) := by simp [ents_length]
  have hR : 4 ≤ (a.B.drop a.fin).length := by simp; omega
  obtain ⟨x, y, hX⟩ := two_two ((ents (a.L.drop k) ++ a.B.drop a.fin).take 4) (by simp at hR ⊢; omega)
  refine ⟨x, y, .inl ?_⟩
  have e := enc_cut a k
  have hp := front_len a k hk
  have e1 : (a.enc.drop (4 + 4 * k)).take (4 * (a.L.length - k)) = ents (a.L.drop k) := by
    rw [e, ← hp, List.drop_left, ← hE, List.take_left]
  have e2 : putAt a.enc (8 + 4 * k) (ents (a.L.drop k)) = be 2 a.L.length ++ (be 2 a.low ++ (ents (a.L.take k) ++ (be 2 x ++ (be 2 y ++ (ents (a.L.drop k) ++ (a.B.drop a.fin).drop 4))))) := by
    rw [e, putAt_app _ _ _ _ (by omega), hp, show 8 + 4 * k - (4 + 4 * k) = 4 by omega]
    unfold putAt
    rw [hX, Nat.add_comm 4, ← List.drop_drop, List.drop_left]
    simp
  rw [e1, e2]
  have e3 := setTwo_at [] (be 2 a.low ++ (ents (a.L.take k) ++ (be 2 x ++ (be 2 y ++ (ents (a.L.drop k) ++ (a.B.drop a.fin).drop 4))))) (a.L.length + 1) a.L.length 0 rfl
  simp only [List.nil_append] at e3
  rw [e3]
  unfold Ar.enc Ar.fin
  simp only [List.length_append, List.length_cons, List.length_take, List.length_drop, Nat.min_eq_left hk, ents_append, ents, List.drop_drop, List.append_assoc]
  rw [show k + (a.L.length - k + 1) = a.L.length + 1 by omega, show 4 + 4 * a.L.length + 4 = 4 + 4 * (a.L.length + 1) by omega]

theorem Ar.unshift (a : Ar) (k : Nat) (hk : k < a.L.length) (hf : a.fin ≤ a.B.length) :
    setTwo (putAt (putAt a.enc (4 + 4 * k) ((a.enc.drop (8 + 4 * k)).take (4 * (a.L.length - 1 - k)))) (a.fin - 4) (List.replicate 4 0)) 0 (a.L.length - 1) = (a.cut k).enc := by
  have e0 := enc_split a k hk
  have hp := front_len a k (by omega)
  have hE : (ents (a.L.drop (k + 1))).length = 4 * (a.L.length - 1 - k) := by simp [ents_length]; omega
  have e1 : (a.enc.drop (8 + 4 * k)).take (4 * (a.L.length - 1 - k)) = ents (a.L.drop (k + 1)) := by
    have : a.enc = ((be 2 a.L.length ++ (be 2 a.low ++ ents (a.L.take k))) ++ (be 2 a.L[k].1 ++ be 2 a.L[k].2)) ++ (ents (a.L.drop (k + 1)) ++ a.B.drop a.fin) := by rw [e0]; simp
    rw [this, show 8 + 4 * k = ((be 2 a.L.length ++ (be 2 a.low ++ ents (a.L.take k))) ++ (be 2 a.L[k].1 ++ be 2 a.L[k].2)).length by rw [List.length_append, hp]; simp [be_length]; omega, List.drop_left, ← hE, List.take_left]
  have e2 : ∃ Y : List UInt8, Y.length = 4 ∧ putAt a.enc (4 + 4 * k) (ents (a.L.drop (k + 1))) = (be 2 a.L.length ++ (be 2 a.low ++ (ents (a.L.take k) ++ ents (a.L.drop (k + 1))))) ++ (Y ++ a.B.drop a.fin) := by
    refine ⟨(be 2 a.L[k].1 ++ (be 2 a.L[k].2 ++ ents (a.L.drop (k + 1)))).drop (ents (a.L.drop (k + 1))).length, by simp [be_length]; omega, ?_⟩
    rw [e0, putAt_app _ _ _ _ (by omega), hp, Nat.sub_self]
    unfold putAt
    have : be 2 a.L[k].1 ++ (be 2 a.L[k].2 ++ (ents (a.L.drop (k + 1)) ++ a.B.drop a.fin)) = (be 2 a.L[k].1 ++ (be 2 a.L[k].2 ++ ents (a.L.drop (k + 1)))) ++ a.B.drop a.fin := by simp
    rw [Nat.zero_add, this, List.drop_append_of_le_length (by simp [be_length]; omega)]
    simp
  obtain ⟨Y, hY, e2⟩ := e2
  have hf' : (be 2 a.L.length ++ (be 2 a.low ++ (ents (a.L.take k) ++ ents (a.L.drop (k + 1))))).length = a.fin - 4 := by
    simp only [List.length_append, be_length, ents_length, List.length_take, List.length_drop, Nat.min_eq_left (Nat.le_of_lt hk)]
    unfold Ar.fin
    omega
  have e3 : putAt ((be 2 a.L.length ++ (be 2 a.low ++ (ents (a.L.take k) ++ ents (a.L.drop (k + 1))))) ++ (Y ++ a.B.drop a.fin)) (a.fin - 4) (List.replicate 4 0) = be 2 a.L.length ++ (be 2 a.low ++ (ents (a.L.take k) ++ (ents (a.L.drop (k + 1)) ++ (List.replicate 4 0 ++ a.B.drop a.fin)))) := by
    rw [putAt_app _ _ _ _ (by omega), hf', Nat.sub_self]
    unfold putAt
    rw [List.length_replicate, Nat.zero_add, ← hY, List.drop_left]
    simp
  rw [e1, e2, e3]
  have e4 := setTwo_at [] (be 2 a.low ++ (ents (a.L.take k) ++ (ents (a.L.drop (k + 1)) ++ (List.replicate 4 0 ++ a.B.drop a.fin)))) (a.L.length - 1) a.L.length 0 rfl
  simp only [List.nil_append] at e4
  rw [e4]
  have hx : (a.L.eraseIdx k) = a.L.take k ++ a.L.drop (k + 1) := List.eraseIdx_eq_take_drop_succ ..
  have hl : (a.L.eraseIdx k).length = a.L.length - 1 := List.length_eraseIdx_of_lt hk
  have hd : (a.B.take (a.fin - 4) ++ List.replicate 4 0 ++ a.B.drop a.fin).drop (a.fin - 4) = List.replicate 4 0 ++ a.B.drop a.fin := by
    have hl0 : (a.B.take (a.fin - 4)).length = a.fin - 4 := by simp; omega
    rw [List.append_assoc, List.drop_append, hl0, Nat.sub_self, List.drop_of_length_le (by omega)]
    rfl
  have hc : (a.cut k).fin = a.fin - 4 := by
    unfold Ar.cut Ar.fin
    simp only [hl]
    omega
  unfold Ar.enc
  rw [hc]
  unfold Ar.cut
  simp only [hl, hd]
  rw [hx, ents_append]
  simp only [List.append_assoc]

theorem Ar.below_enc (a : Ar) (t : List UInt8) (hl : a.low ≤ a.B.length) (h6 : a.low < 65536) (hr : a.fin + t.length ≤ a.low) : belowL a.enc t = (a.below t).enc := by
  unfold belowL
  rw [a.u2_low h6, a.put_at _ _ (by omega) (by omega)]
  exact Ar.set_low { a with B := putAt a.B (a.low - t.length) t } _

theorem Ar.enc_congr (a : Ar) (B B' : List UInt8) (h : B.drop a.fin = B'.drop a.fin) : ({ a with B := B } : Ar).enc = ({ a with B := B' } : Ar).enc := by
  show be 2 a.L.length ++ (be 2 a.low ++ (ents a.L ++ B.drop a.fin)) = be 2 a.L.length ++ (be 2 a.low ++ (ents a.L ++ B'.drop a.fin))
  rw [h]

/-- The bytes between the directory and the texts are wiped. -/
theorem Ar.wipe (a : Ar) (hf : a.fin ≤ a.low) (hl : a.low ≤ a.B.length) : putAt a.enc a.fin (List.replicate (a.low - a.fin) 0) = ({ a with B := List.replicate a.low 0 ++ a.B.drop a.low } : Ar).enc := by
  rw [a.put_at _ _ (Nat.le_refl _) (by omega)]
  apply Ar.enc_congr
  rw [putAt_drop _ _ _ _ (Nat.le_refl _) (by omega), Nat.sub_self, List.drop_append_of_le_length (by simp; omega), List.drop_replicate]
  unfold putAt
  rw [List.drop_drop, List.length_replicate, Nat.zero_add, show a.fin + (a.low - a.fin) = a.low by omega]
  simp

end Go.Proofs.Ytlpfilpijiglpaa
