/- What an area's functions leave, of its texts; some answers. No program is named here. -/
import Derived.Test.YtlpfilpijiglpaaSlotParse
namespace Go.Proofs.Ytlpfilpijiglpaa
set_option linter.unusedVariables false
set_option linter.unusedSimpArgs false

theorem Ar.Good.put_no {a : Ar} (k : Int) (t : List UInt8) (h : (a.put k t).2 ≠ 0) : (a.put k t).1 = a := by
  unfold Ar.put at *
  split at h
  · rename_i h1; rw [if_pos h1]
  · rename_i h1
    rw [if_neg h1]
    split at h
    · rename_i h2; rw [if_pos h2]
    · exact absurd rfl h
theorem Ar.put_ok {a : Ar} (k : Int) (t : List UInt8) : (a.put k t).2 = 0 ↔ (0 ≤ k ∧ k ≤ (a.L.length : Int)) ∧ (t.length : Int) + 4 ≤ a.free := by
  unfold Ar.put
  by_cases h1 : k < 0 ∨ (a.L.length : Int) < k
  · rw [if_pos h1]
    constructor
    · intro h; revert h; show (2 : Int) = 0 → _; omega
    · intro h; omega
  · rw [if_neg h1]
    by_cases h2 : a.free < t.length + 4
    · rw [if_pos h2]
      constructor
      · intro h; revert h; show (4 : Int) = 0 → _; omega
      · intro h; omega
    · rw [if_neg h2]
      exact ⟨fun _ => ⟨by omega, by omega⟩, fun _ => rfl⟩
theorem Ar.Good.put_yes {a : Ar} (h : a.Good) (k : Nat) (t : List UInt8) (hk : (a.put (k : Int) t).2 = 0) :
    (a.put (k : Int) t).1.Good ∧ (a.put (k : Int) t).1.texts = a.texts.take k ++ t :: a.texts.drop k ∧ (a.put (k : Int) t).1.L.length = a.L.length + 1 ∧ (a.put (k : Int) t).1.B.length = a.B.length := by
  obtain ⟨h1, h2⟩ := (Ar.put_ok _ _).1 hk
  have e : (a.put (k : Int) t).1 = (a.roomy (t.length + 4)).putIn k t := by
    unfold Ar.put
    rw [if_neg (by omega), if_neg (by omega), Int.toNat_natCast]
  rw [e]
  obtain ⟨r1, r2, r3, r4, r5⟩ := h.roomy (t.length + 4) (by omega)
  have := r1.putIn k t (by omega) (by omega)
  rw [r2, r3, r5] at this
  exact this
theorem Ar.Good.put {a : Ar} (h : a.Good) (k : Int) (t : List UInt8) : (a.put k t).1.Good ∧ (a.put k t).1.B.length = a.B.length := by
  by_cases h0 : (a.put k t).2 = 0
  · have hk := ((Ar.put_ok _ _).1 h0).1.1
    obtain ⟨n, rfl⟩ := Int.eq_ofNat_of_zero_le hk
    have := h.put_yes n t h0
    exact ⟨this.1, this.2.2.2⟩
  · rw [Ar.Good.put_no k t h0]
    exact ⟨h, rfl⟩
theorem Ar.Good.set_no {a : Ar} (k : Int) (t : List UInt8) (h : (a.set k t).2 ≠ 0) : (a.set k t).1 = a := by
  unfold Ar.set at *
  split at h
  · rename_i h1; rw [if_pos h1]
  · rename_i h1
    rw [if_neg h1]
    split at h
    · exact absurd rfl h
    · rename_i h2
      rw [if_neg h2]
      split at h
      · rename_i h3; rw [if_pos h3]
      · exact absurd rfl h
theorem Ar.set_ok {a : Ar} (k : Int) (t : List UInt8) : (a.set k t).2 = 0 ↔ (0 ≤ k ∧ k < (a.L.length : Int)) ∧ (t.length ≤ (a.L.getD k.toNat (0, 0)).2 ∨ (t.length : Int) - (a.L.getD k.toNat (0, 0)).2 ≤ a.free) := by
  unfold Ar.set
  by_cases h1 : 0 ≤ k ∧ k < (a.L.length : Int)
  · rw [if_neg (fun h => h h1)]
    by_cases h2 : t.length ≤ (a.L.getD k.toNat (0, 0)).2
    · rw [if_pos h2]
      exact ⟨fun _ => ⟨h1, .inl h2⟩, fun _ => rfl⟩
    · rw [if_neg h2]
      by_cases h3 : a.free < (t.length : Int) - (a.L.getD k.toNat (0, 0)).2
      · rw [if_pos h3]
        constructor
        · intro h; revert h; show (4 : Int) = 0 → _; omega
        · intro h; omega
      · rw [if_neg h3]
        exact ⟨fun _ => ⟨h1, .inr (by omega)⟩, fun _ => rfl⟩
  · rw [if_pos h1]
    constructor
    · intro h; revert h; show (3 : Int) = 0 → _; omega
    · intro h; exact absurd h.1 h1
theorem Ar.Good.set_yes {a : Ar} (h : a.Good) (k : Nat) (t : List UInt8) (hk : (a.set (k : Int) t).2 = 0) :
    (a.set (k : Int) t).1.Good ∧ (a.set (k : Int) t).1.texts = a.texts.set k t ∧ (a.set (k : Int) t).1.L.length = a.L.length ∧ (a.set (k : Int) t).1.B.length = a.B.length := by
  obtain ⟨h1, h2⟩ := (Ar.set_ok _ _).1 hk
  rw [Int.toNat_natCast] at h2
  have hkl : k < a.L.length := by omega
  have e : (a.set (k : Int) t).1 = if t.length ≤ (a.L.getD k (0, 0)).2 then a.short k t else a.long k t := by
    unfold Ar.set
    rw [if_neg (fun h => h h1), Int.toNat_natCast]
    by_cases h3 : t.length ≤ (a.L.getD k (0, 0)).2
    · rw [if_pos h3, if_pos h3]
    · rw [if_neg h3, if_neg h3, if_neg (by omega)]
  rw [e]
  by_cases h3 : t.length ≤ (a.L.getD k (0, 0)).2
  · rw [if_pos h3]
    have := h.short k t hkl h3
    have hin := h.inn _ (List.getElem_mem hkl)
    have hgd : a.L.getD k (0, 0) = a.L[k] := by simp [List.getD_eq_getElem?_getD, hkl]
    refine ⟨this.1, this.2, by simp [Ar.short], ?_⟩
    show (putAt a.B (a.L.getD k (0, 0)).1 t).length = _
    rw [hgd] at h3 ⊢
    exact putAt_len (by omega)
  · rw [if_neg h3]
    exact h.long k t hkl (by omega)
theorem Ar.Good.set {a : Ar} (h : a.Good) (k : Int) (t : List UInt8) : (a.set k t).1.Good ∧ (a.set k t).1.B.length = a.B.length := by
  by_cases h0 : (a.set k t).2 = 0
  · have hk := ((Ar.set_ok _ _).1 h0).1.1
    obtain ⟨n, rfl⟩ := Int.eq_ofNat_of_zero_le hk
    have := h.set_yes n t h0
    exact ⟨this.1, this.2.2.2⟩
  · rw [Ar.Good.set_no k t h0]
    exact ⟨h, rfl⟩
theorem Ar.Good.remove_yes {a : Ar} (h : a.Good) (k : Nat) (hk : k < a.L.length) : (a.remove (k : Int)).1 = a.cut k ∧ (a.remove (k : Int)).2 = 0 ∧ (a.cut k).Good ∧ (a.cut k).texts = a.texts.eraseIdx k ∧ (a.cut k).B.length = a.B.length := by
  unfold Ar.remove
  rw [if_neg (by omega), Int.toNat_natCast]
  have := h.cut k hk
  refine ⟨rfl, rfl, this.1, this.2, ?_⟩
  have hf := h.f
  have hl := h.l
  show (a.B.take (a.fin - 4) ++ List.replicate 4 0 ++ a.B.drop a.fin).length = _
  unfold Ar.fin at *
  simp
  omega
theorem Ar.Good.remove {a : Ar} (h : a.Good) (k : Int) : (a.remove k).1.Good ∧ (a.remove k).1.B.length = a.B.length := by
  by_cases hk : 0 ≤ k ∧ k < (a.L.length : Int)
  · obtain ⟨n, rfl⟩ := Int.eq_ofNat_of_zero_le hk.1
    have := h.remove_yes n (by omega)
    rw [this.1]
    exact ⟨this.2.2.1, this.2.2.2.2⟩
  · have e : a.remove k = (a, 3) := by unfold Ar.remove; rw [if_pos hk]
    rw [e]
    exact ⟨h, rfl⟩
theorem Ar.Good.free_texts {a : Ar} (h : a.Good) : a.free = (a.B.length : Int) - 4 - 4 * (a.texts.length : Int) - ((a.texts.map List.length).sum : Nat) ∧ 0 ≤ a.free ∧ a.gap ≤ a.free := by
  have h1 := h.texts_sum
  have h2 := h.sum_le
  have h3 := h.f
  have h4 : a.texts.length = a.L.length := by simp [Ar.texts]
  rw [h1]
  unfold Ar.free Ar.gap Ar.sum Ar.fin at *
  omega
theorem Ar.enc_new (n : Nat) (h : 4 ≤ n) : setTwo (List.replicate n 0) 2 n = (Ar.new n).enc := by
  unfold setTwo Ar.enc Ar.new Ar.fin
  obtain ⟨m, rfl⟩ : ∃ m, n = m + 4 := ⟨n - 4, by omega⟩
  simp [ents, be]

theorem alive_1 : ((Ar.new 20).put (0 : Nat) [97, 98]).2 = 0 := by decide
theorem alive_2 : ((Ar.new 20).put (0 : Nat) [97, 98]).1.enc = [0, 1, 0, 18, 0, 18, 0, 2, 0, 0, 0, 0, 0, 0, 0, 0, 0, 0, 97, 98] := by decide
theorem alive_3 : (((Ar.new 20).put (0 : Nat) [97, 98]).1.put (0 : Nat) [49, 50, 51, 52, 53, 54, 55]).2 = 4 := by decide
theorem alive_4 : (((Ar.new 20).put (0 : Nat) [97, 98]).1.set (0 : Nat) [120]).2 = 0 := by decide
theorem alive_5 : (((Ar.new 20).put (0 : Nat) [97, 98]).1.set (0 : Nat) [120]).1.texts = [[120]] := by decide
theorem alive_6 : (((Ar.new 20).put (0 : Nat) [97, 98]).1.set (0 : Nat) [120]).1.free = 11 := by decide
theorem alive_7 : (((Ar.new 20).put (0 : Nat) [97, 98]).1.set (0 : Nat) [120]).1.gap = 10 := by decide

end Go.Proofs.Ytlpfilpijiglpaa
