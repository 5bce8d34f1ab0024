/- Which bytes are an area's. No program is named here. -/
import Derived.Test.YtlpfilpijiglpaaSlotPlain
namespace Go.Proofs.Ytlpfilpijiglpaa
set_option linter.unusedVariables false
set_option linter.unusedSimpArgs false

/-- The area that bytes are, if they are one. -/
def parse (l : List UInt8) : Ar := { B := l, low := u2 l 2, L := (List.range (u2 l 0)).map fun i => (u2 l (4 + 4 * i), u2 l (6 + 4 * i)) }
theorem parse_n (l : List UInt8) : (parse l).L.length = u2 l 0 := by simp [parse]
theorem parse_get (l : List UInt8) (i : Nat) (h : i < (parse l).L.length) : (parse l).L[i] = (u2 l (4 + 4 * i), u2 l (6 + 4 * i)) := by simp [parse]
def FineAt (l : List UInt8) (i : Nat) : Prop := u2 l 2 ≤ u2 l (4 + 4 * i) ∧ u2 l (4 + 4 * i) + u2 l (6 + 4 * i) ≤ l.length
def ApartAt (l : List UInt8) (i j : Nat) : Prop := u2 l (6 + 4 * i) = 0 ∨ u2 l (6 + 4 * j) = 0 ∨ u2 l (4 + 4 * i) + u2 l (6 + 4 * i) ≤ u2 l (4 + 4 * j) ∨ u2 l (4 + 4 * j) + u2 l (6 + 4 * j) ≤ u2 l (4 + 4 * i)
theorem good_parse (l : List UInt8) : (parse l).Good ↔ 16 ≤ l.length ∧ l.length ≤ 4096 ∧ 4 + 4 * u2 l 0 ≤ u2 l 2 ∧ u2 l 2 ≤ l.length ∧ ∀ i, i < u2 l 0 → FineAt l i ∧ ∀ j, j < i → ApartAt l i j := by
  constructor
  · intro h
    refine ⟨h.lo, h.hi, ?_, h.l, fun i hi => ?_⟩
    · have := h.f
      unfold Ar.fin at this
      rw [parse_n] at this
      exact this
    · have hi' : i < (parse l).L.length := by rw [parse_n]; exact hi
      have h1 := h.inn _ (List.getElem_mem hi')
      rw [parse_get] at h1
      refine ⟨h1, fun j hj => ?_⟩
      have hd := h.dis
      rw [List.pairwise_iff_getElem] at hd
      have h2 := hd j i (by omega) hi' hj
      rw [parse_get, parse_get] at h2
      exact h2.symm
  · rintro ⟨h1, h2, h3, h4, h5⟩
    refine ⟨h1, h2, ?_, h4, fun p hp => ?_, ?_⟩
    · unfold Ar.fin
      rw [parse_n]
      exact h3
    · obtain ⟨i, hi, rfl⟩ := List.getElem_of_mem hp
      rw [parse_get]
      exact (h5 i (by rw [parse_n] at hi; exact hi)).1
    · rw [List.pairwise_iff_getElem]
      intro i j hi hj hij
      rw [parse_get, parse_get]
      have := (h5 j (by rw [parse_n] at hj; exact hj)).2 i hij
      exact Apart.symm this
/-- Bytes that are an area's are written as themselves. -/
theorem parse_enc (l : List UInt8) (h : 4 + 4 * u2 l 0 ≤ l.length) : (parse l).enc = l := by
  have e2 : ∀ k, k + 1 < l.length → be 2 (u2 l k) = (l.drop k).take 2 := by
    intro k hk
    rw [be2]
    have h0 := (l.getD k 0).toNat_lt
    have h1 := (l.getD (k + 1) 0).toNat_lt
    simp only [Nat.reducePow] at h0 h1
    have e : u2 l k / 256 = (l.getD k 0).toNat := by unfold u2; omega
    have e' : UInt8.ofNat (u2 l k) = l.getD (k + 1) 0 := by
      rw [← UInt8.toNat_inj, u8_ofNat]
      unfold u2
      omega
    rw [e, e', UInt8.ofNat_toNat]
    rw [List.drop_eq_getElem_cons (by omega), List.take_succ_cons, List.drop_eq_getElem_cons hk, List.take_succ_cons, List.take_zero]
    simp [List.getD_eq_getElem?_getD, List.getElem?_eq_getElem hk, List.getElem?_eq_getElem (show k < l.length by omega)]
  have e3 : ∀ n, 4 + 4 * n ≤ l.length → ents ((List.range n).map fun i => (u2 l (4 + 4 * i), u2 l (6 + 4 * i))) = (l.drop 4).take (4 * n) := by
    intro n
    induction n with
    | zero => intro _; rfl
    | succ n ih =>
      intro hn
      rw [List.range_succ, List.map_append, ents_append, ih (by omega)]
      show _ ++ (be 2 _ ++ (be 2 _ ++ [])) = _
      rw [e2 _ (by omega), e2 _ (by omega), List.append_nil]
      have t : ∀ (x : List UInt8) a b, x.take (a + b) = x.take a ++ (x.drop a).take b := fun x a b => List.take_add
      rw [show 4 * (n + 1) = 4 * n + (2 + 2) by omega, t, t, List.drop_drop, List.drop_drop, show 4 + 4 * n + 2 = 6 + 4 * n by omega]
  unfold Ar.enc
  rw [parse_n]
  show be 2 (u2 l 0) ++ (be 2 (u2 l 2) ++ (ents ((List.range (u2 l 0)).map fun i => (u2 l (4 + 4 * i), u2 l (6 + 4 * i))) ++ l.drop (parse l).fin)) = l
  rw [e2 0 (by omega), e2 2 (by omega), e3 _ h]
  have hfin : (parse l).fin = 4 + 4 * u2 l 0 := by unfold Ar.fin; rw [parse_n]
  rw [hfin, ← List.drop_drop, List.take_append_drop, show (l.drop 4) = (l.drop 2).drop 2 by rw [List.drop_drop], List.take_append_drop]
  exact List.take_append_drop 2 l
/-- What an area's bytes are, is that area, but for the bytes ahead. -/
theorem parse_of_enc {a : Ar} (h : a.Good) : (parse a.enc).L = a.L ∧ (parse a.enc).low = a.low ∧ (parse a.enc).Good := by
  have hf := h.f
  have hl := h.l
  have hh := h.hi
  have hn : a.L.length < 65536 := by unfold Ar.fin at hf; omega
  have e1 : (parse a.enc).L = a.L := by
    apply List.ext_getElem
    · rw [parse_n, a.u2_n hn]
    · intro i h1 h2
      have hm := List.getElem_mem h2
      have hb := h.inn _ hm
      rw [parse_get, a.u2_from i h2 (by omega), a.u2_size i h2 (by omega)]
  have e2 : (parse a.enc).low = a.low := a.u2_low (by omega)
  have e3 : (parse a.enc).B.length = a.B.length := a.enc_length (by omega)
  refine ⟨e1, e2, by rw [e3]; exact h.lo, by rw [e3]; exact hh, ?_, by rw [e2, e3]; exact hl, ?_, by rw [e1]; exact h.dis⟩
  · unfold Ar.fin at *
    rw [e1, e2]
    exact hf
  · rw [e1, e2, e3]
    exact h.inn

end Go.Proofs.Ytlpfilpijiglpaa
