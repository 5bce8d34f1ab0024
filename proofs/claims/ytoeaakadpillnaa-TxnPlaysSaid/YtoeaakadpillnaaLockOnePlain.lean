/- LockOne, as plain data: who holds what, counted by holder. No program is named here. -/
import Derived.Test.YtoeaakadpillnaaLockPlain
namespace Go.Proofs.Ytoeaakadpillnaa
set_option linter.unusedVariables false
set_option linter.unusedSimpArgs false

/-- Each lock is held by one of those that came, none by nobody. -/
def OwnedBy (xs : List Nat) (T : Lk) : Prop := ∀ p ∈ T, p.2 ≠ 0 ∧ p.2 ∈ xs
theorem take_own {xs : List Nat} {T : Lk} (h : OwnedBy xs T) (tx : Nat) (k : Bs) : OwnedBy (xs ++ [tx]) (takeL T tx k).1 := by
  have h0 : OwnedBy (xs ++ [tx]) T := fun p hp => ⟨(h p hp).1, List.mem_append.2 (.inl (h p hp).2)⟩
  unfold takeL
  split
  · exact h0
  · rename_i hn
    split
    · split
      · exact h0
      · exact h0
    · split
      · exact h0
      · intro p hp
        rcases mem_ins.1 hp with rfl | hp
        · exact ⟨fun e => hn (.inl e), by simp⟩
        · exact h0 p hp
theorem take_rising {T : Lk} (hT : T.Rising) (tx : Nat) (k : Bs) : (takeL T tx k).1.Rising := by
  unfold takeL
  split
  · exact hT
  · split
    · split <;> exact hT
    · rename_i hw
      split
      · exact hT
      · exact rising_ins hT hw
/-- The ways that a Take can go. -/
theorem take_ways {xs : List Nat} {T : Lk} (hT : T.Rising) (h : OwnedBy xs T) (tx : Nat) (k : Bs) :
    ((takeL T tx k).1 = T ∧ (takeL T tx k).2.1 = false ∧ ((takeL T tx k).2.2 = 2 ∨ (takeL T tx k).2.2 = 4)) ∨
    (∃ t, (takeL T tx k).1 = T ∧ (takeL T tx k).2.1 = false ∧ (takeL T tx k).2.2 = 250 ∧ who T k = some t ∧ t ≠ tx ∧ t ≠ 0) ∨
    ((takeL T tx k).1 = T ∧ (takeL T tx k).2.1 = false ∧ (takeL T tx k).2.2 = 0 ∧ who T k = some tx ∧ tx ≠ 0) ∨
    ((takeL T tx k).2.1 = true ∧ (takeL T tx k).2.2 = 0 ∧ who T k = none ∧ who (takeL T tx k).1 k = some tx ∧ tx ≠ 0) := by
  unfold takeL
  by_cases h0 : tx = 0 ∨ ¬ (1 ≤ k.length ∧ k.length ≤ 48)
  · rw [if_pos h0]; exact .inl ⟨rfl, rfl, .inl rfl⟩
  · rw [if_neg h0]
    have htx : tx ≠ 0 := fun e => h0 (.inl e)
    cases hw : who T k with
    | some t =>
      by_cases ht : t = tx
      · subst ht
        simp only [if_true]
        exact .inr (.inr (.inl ⟨trivial, trivial, trivial, trivial, htx⟩))
      · simp only [if_neg ht]
        exact .inr (.inl ⟨t, trivial, trivial, trivial, rfl, ht, (h _ ((mem_who hT).2 hw)).1⟩)
    | none =>
      by_cases hf : 1024 ≤ T.length
      · simp only [if_pos hf]; exact .inl ⟨trivial, trivial, .inr trivial⟩
      · simp only [if_neg hf]
        exact .inr (.inr (.inr ⟨trivial, trivial, trivial, by rw [who_ins hT hw, if_pos rfl], htx⟩))
/-- How many are held by some. -/
def heldBy (T : Lk) (S : List Nat) : Nat := (S.map fun x => (held T x).length).sum
theorem heldBy_snoc (T : Lk) (S : List Nat) (x : Nat) : heldBy T (S ++ [x]) = heldBy T S + (held T x).length := by
  unfold heldBy
  rw [List.map_append, List.sum_append]
  simp
theorem held_cons (p : Bs × Nat) (r : Lk) (x : Nat) : (held (p :: r) x).length = (held r x).length + if p.2 = x then 1 else 0 := by
  unfold held
  rw [List.length_map, List.length_map, List.filter_cons]
  by_cases h : p.2 = x
  · simp [h]
  · simp [h]
theorem heldBy_cons (p : Bs × Nat) (r : Lk) : ∀ S : List Nat, S.Nodup → heldBy (p :: r) S = heldBy r S + if p.2 ∈ S then 1 else 0
  | [], _ => by simp [heldBy]
  | x :: S, h => by
    rw [List.nodup_cons] at h
    have ih := heldBy_cons p r S h.2
    unfold heldBy at ih ⊢
    rw [List.map_cons, List.sum_cons, ih, held_cons, List.map_cons, List.sum_cons]
    by_cases hx : p.2 = x
    · have : ¬ p.2 ∈ S := by rw [hx]; exact h.1
      rw [if_pos hx, if_neg this, if_pos (by rw [hx]; exact List.mem_cons_self)]
      omega
    · rw [if_neg hx]
      by_cases hs : p.2 ∈ S
      · rw [if_pos hs, if_pos (List.mem_cons_of_mem _ hs)]; omega
      · rw [if_neg hs, if_neg (by rw [List.mem_cons]; rintro (e | e); exact hx e; exact hs e)]; omega
theorem heldBy_all {T : Lk} {S : List Nat} (hS : S.Nodup) (h : ∀ p ∈ T, p.2 ∈ S) : heldBy T S = T.length := by
  induction T with
  | nil =>
    unfold heldBy
    have : ∀ l : List Nat, (l.map fun x => (held ([] : Lk) x).length).sum = 0 := by
      intro l
      induction l with
      | nil => rfl
      | cons a l ih => rw [List.map_cons, List.sum_cons, ih]; rfl
    exact this S
  | cons p r ih =>
    rw [heldBy_cons p r S hS, ih (fun q hq => h q (List.mem_cons_of_mem _ hq)), if_pos (h p List.mem_cons_self)]
    rfl
theorem heldBy_le {T : Lk} : ∀ {S : List Nat}, S.Nodup → heldBy T S ≤ T.length := by
  induction T with
  | nil =>
    intro S _
    unfold heldBy
    have : ∀ l : List Nat, (l.map fun x => (held ([] : Lk) x).length).sum = 0 := by
      intro l
      induction l with
      | nil => rfl
      | cons a l ih => rw [List.map_cons, List.sum_cons, ih]; rfl
    rw [this]; exact Nat.zero_le _
  | cons p r ih =>
    intro S hS
    rw [heldBy_cons p r S hS, List.length_cons]
    have := ih hS
    split <;> omega
/-- Who came so far, each once. -/
def SeenBy (xs : List Nat) (S : List Nat) : Prop := S.Nodup ∧ ∀ x, x ∈ S ↔ x ∈ xs
theorem SeenBy.start : SeenBy [] [] := ⟨List.nodup_nil, fun x => Iff.rfl⟩
theorem SeenBy.old {xs S : List Nat} (h : SeenBy xs S) {x : Nat} (hx : x ∈ S) : SeenBy (xs ++ [x]) S := by
  refine ⟨h.1, fun y => ?_⟩
  rw [h.2 y, List.mem_append, List.mem_singleton]
  constructor
  · exact fun h => .inl h
  · rintro (h2 | h2)
    · exact h2
    · subst h2; exact (h.2 _).1 hx
theorem SeenBy.new {xs S : List Nat} (h : SeenBy xs S) {x : Nat} (hx : x ∉ S) : SeenBy (xs ++ [x]) (S ++ [x]) := by
  refine ⟨?_, fun y => ?_⟩
  · rw [List.nodup_append]
    exact ⟨h.1, by simp, fun a ha b hb e => by
      have hb' : b = x := by simpa using hb
      subst hb'; subst e; exact hx ha⟩
  · rw [List.mem_append, List.mem_append, h.2 y]
theorem drop_own {xs : List Nat} {T : Lk} (h : OwnedBy xs T) (t : Nat) : OwnedBy xs (dropL T t) := fun p hp => h p (List.mem_filter.1 hp).1
theorem held_drop (T : Lk) (t : Nat) : held (dropL T t) t = [] := by
  unfold held dropL
  rw [List.filter_filter, List.map_eq_nil_iff, List.filter_eq_nil_iff]
  intro p _
  simp
/-- None is left of those that came ahead. -/
def LeftOf (xs : List Nat) (i : Nat) (T : Lk) : Prop := ∀ p ∈ T, p.2 ∈ xs.drop i
theorem LeftOf.start {xs : List Nat} {T : Lk} (h : OwnedBy xs T) : LeftOf xs 0 T := fun p hp => by rw [List.drop_zero]; exact (h p hp).2
theorem LeftOf.step {xs : List Nat} {i : Nat} {T : Lk} (h : LeftOf xs i T) (hi : i < xs.length) : LeftOf xs (i + 1) (dropL T xs[i]) := by
  intro p hp
  have h1 := List.mem_filter.1 hp
  have h2 := h p h1.1
  rw [List.drop_eq_getElem_cons hi, List.mem_cons] at h2
  rcases h2 with h2 | h2
  · rw [h2] at h1
    simp at h1
  · exact h2
theorem LeftOf.fin {xs : List Nat} {T : Lk} (h : LeftOf xs xs.length T) : T = [] := by
  cases T with
  | nil => rfl
  | cons p r =>
    have := h p List.mem_cons_self
    simp at this
theorem held_get {T : Lk} (hT : T.Rising) {t j : Nat} (hj : j < (held T t).length) : who T (held T t)[j] = some t := (held_mem hT).1 (List.getElem_mem hj)
theorem held_lt {T : Lk} (hT : T.Rising) {t j : Nat} (hj : j + 1 < (held T t).length) : (held T t)[j]'(by omega) < (held T t)[j + 1] :=
  List.pairwise_iff_getElem.1 (held_rising hT t) j (j + 1) (by omega) hj (by omega)

end Go.Proofs.Ytoeaakadpillnaa
