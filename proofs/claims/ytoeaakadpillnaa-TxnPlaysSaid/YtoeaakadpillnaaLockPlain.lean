/- The locks, as plain data: keys, rising, and who holds each; what a map of keys is to them. No program is named here. -/
import Derived.Sort.KeysCollected
import Derived.Maps.OwnSet
import Derived.Sort.Walk0
namespace Go.Proofs.Ytoeaakadpillnaa
open Go.Maps
set_option linter.unusedVariables false
set_option linter.unusedSimpArgs false

abbrev Bs := List UInt8
abbrev Lk := List (Bs × Nat)
def Lk.Rising (T : Lk) : Prop := T.Pairwise fun p q => p.1 < q.1
/-- Where a key is, or would be. -/
def atL (T : Lk) (k : Bs) : Nat := (T.takeWhile fun p => decide (p.1 < k)).length
/-- Who holds a key. -/
def who (T : Lk) (k : Bs) : Option Nat := T.lookup k
def insL (T : Lk) (k : Bs) (t : Nat) : Lk := T.take (atL T k) ++ (k, t) :: T.drop (atL T k)
def held (T : Lk) (t : Nat) : List Bs := (T.filter fun p => p.2 == t).map (·.1)
def dropL (T : Lk) (t : Nat) : Lk := T.filter fun p => !(p.2 == t)

theorem lt_irr (a : Bs) : ¬ a < a := List.lt_irrefl a
theorem lt_tr {a b c : Bs} (h : a < b) (h2 : b < c) : a < c := List.lt_trans h h2
theorem lt_tri (a b : Bs) : a < b ∨ a = b ∨ b < a := by
  by_cases h : a < b
  · exact .inl h
  · by_cases h2 : b < a
    · exact .inr (.inr h2)
    · exact .inr (.inl (List.le_antisymm (List.not_lt.1 h2) (List.not_lt.1 h)))

theorem atL_le (T : Lk) (k : Bs) : atL T k ≤ T.length := by
  unfold atL
  induction T with
  | nil => simp
  | cons p r ih =>
    rw [List.takeWhile_cons]
    split
    · simp; omega
    · simp
theorem atL_cons (p : Bs × Nat) (r : Lk) (k : Bs) : atL (p :: r) k = if p.1 < k then atL r k + 1 else 0 := by
  unfold atL
  rw [List.takeWhile_cons]
  by_cases h : p.1 < k
  · simp [h]
  · simp [h]
theorem atL_lt {T : Lk} {k : Bs} : ∀ {i : Nat} (hi : i < T.length), i < atL T k → T[i].1 < k := by
  induction T with
  | nil => intro i hi; simp at hi
  | cons p r ih =>
    intro i hi h
    rw [atL_cons] at h
    split at h
    · rename_i hp
      cases i with
      | zero => exact hp
      | succ i => exact ih (by simpa using hi) (by omega)
    · omega
theorem atL_ge {T : Lk} {k : Bs} (h : atL T k < T.length) : ¬ T[atL T k].1 < k := by
  induction T with
  | nil => simp at h
  | cons p r ih =>
    by_cases hp : p.1 < k
    · have e : atL (p :: r) k = atL r k + 1 := by rw [atL_cons, if_pos hp]
      have h2 : atL r k < r.length := by rw [e] at h; simpa using h
      simp only [e, List.getElem_cons_succ]
      exact ih h2
    · have e : atL (p :: r) k = 0 := by rw [atL_cons, if_neg hp]
      simp only [e, List.getElem_cons_zero]
      exact hp
theorem atL_step {T : Lk} {k : Bs} {i : Nat} (hi : i < T.length) (hle : i ≤ atL T k) : i < atL T k ↔ T[i].1 < k := by
  constructor
  · exact atL_lt hi
  · intro h
    rcases Nat.lt_or_ge i (atL T k) with h2 | h2
    · exact h2
    · obtain rfl : i = atL T k := Nat.le_antisymm hle h2
      exact absurd h (atL_ge hi)
/-- A key is there just where it is found. -/
theorem who_at {T : Lk} (hT : T.Rising) (k : Bs) : who T k = if h : atL T k < T.length then (if T[atL T k].1 = k then some T[atL T k].2 else none) else none := by
  unfold who
  induction T with
  | nil => simp
  | cons p r ih =>
    have hT' := List.pairwise_cons.1 hT
    obtain ⟨q, t⟩ := p
    rw [List.lookup_cons]
    rcases lt_tri q k with h | h | h
    · have e : atL ((q, t) :: r) k = atL r k + 1 := by rw [atL_cons, if_pos h]
      have hne : (k == q) = false := by
        rw [beq_eq_false_iff_ne]; intro h2; subst h2; exact lt_irr _ h
      rw [hne]
      simp only [e, List.length_cons, Nat.add_lt_add_iff_right, List.getElem_cons_succ]
      exact ih hT'.2
    · subst h
      have e : atL ((q, t) :: r) q = 0 := by rw [atL_cons, if_neg (lt_irr _)]
      simp [e]
    · have hnk : ¬ q < k := fun h2 => lt_irr _ (lt_tr h h2)
      have e : atL ((q, t) :: r) k = 0 := by rw [atL_cons, if_neg hnk]
      have hne : (k == q) = false := by
        rw [beq_eq_false_iff_ne]; intro h2; subst h2; exact lt_irr _ h
      have hq : ¬ q = k := fun h2 => by subst h2; exact lt_irr _ h
      rw [hne]
      simp only [e, List.length_cons, List.getElem_cons_zero, Nat.zero_lt_succ, dite_true, if_neg hq]
      rw [List.lookup_eq_none_iff]
      intro x hx
      have h3 := hT'.1 x hx
      rw [bne_iff_ne]
      intro h4
      subst h4
      exact lt_irr _ (lt_tr h3 h)
theorem mem_who {T : Lk} (hT : T.Rising) {k : Bs} {t : Nat} : (k, t) ∈ T ↔ who T k = some t := by
  unfold who
  induction T with
  | nil => simp
  | cons p r ih =>
    have hT' := List.pairwise_cons.1 hT
    obtain ⟨q, s⟩ := p
    rw [List.lookup_cons, List.mem_cons]
    by_cases h : k = q
    · subst h
      rw [show (k == k) = true by simp]
      constructor
      · rintro (h2 | h2)
        · injection h2 with _ h2; rw [h2]
        · exact absurd (hT'.1 _ h2) (lt_irr _)
      · intro h2
        injection h2 with h2
        exact .inl (by rw [h2])
    · rw [show (k == q) = false by simpa using h]
      rw [ih hT'.2]
      constructor
      · rintro (h2 | h2)
        · injection h2 with h2; exact absurd h2 h
        · exact h2
      · exact fun h2 => .inr h2
theorem mem_ins {T : Lk} {k : Bs} {t : Nat} {x : Bs × Nat} : x ∈ insL T k t ↔ x = (k, t) ∨ x ∈ T := by
  unfold insL
  rw [List.mem_append, List.mem_cons]
  constructor
  · rintro (h | h | h)
    · exact .inr (List.mem_of_mem_take h)
    · exact .inl h
    · exact .inr (List.mem_of_mem_drop h)
  · rintro (h | h)
    · exact .inr (.inl h)
    · rw [← List.take_append_drop (atL T k) T, List.mem_append] at h
      rcases h with h | h
      · exact .inl h
      · exact .inr (.inr h)
theorem rising_ins {T : Lk} (hT : T.Rising) {k : Bs} {t : Nat} (hk : who T k = none) : (insL T k t).Rising := by
  have h1 : ∀ x ∈ T.take (atL T k), x.1 < k := by
    intro x hx
    obtain ⟨i, hi, rfl⟩ := List.getElem_of_mem hx
    rw [List.getElem_take]
    have : i < atL T k := by rw [List.length_take] at hi; omega
    exact atL_lt _ this
  have h2 : ∀ x ∈ T.drop (atL T k), k < x.1 := by
    intro x hx
    obtain ⟨i, hi, rfl⟩ := List.getElem_of_mem hx
    rw [List.getElem_drop]
    rw [List.length_drop] at hi
    have hlt : atL T k < T.length := by omega
    have h3 : k < T[atL T k].1 := by
      rcases lt_tri T[atL T k].1 k with h | h | h
      · exact absurd h (atL_ge hlt)
      · have := who_at hT k
        rw [dif_pos hlt, if_pos h, hk] at this
        cases this
      · exact h
    cases i with
    | zero => exact h3
    | succ i =>
      have hp := List.pairwise_iff_getElem.1 hT (atL T k) (atL T k + (i + 1)) hlt (by omega) (by omega)
      exact lt_tr h3 hp
  unfold insL
  show List.Pairwise _ _
  rw [List.pairwise_append, List.pairwise_cons]
  refine ⟨hT.sublist (List.take_sublist _ _), ⟨h2, hT.sublist (List.drop_sublist _ _)⟩, ?_⟩
  intro a ha b hb
  rcases List.mem_cons.1 hb with rfl | hb
  · exact h1 a ha
  · exact lt_tr (h1 a ha) (h2 b hb)
theorem who_ins {T : Lk} (hT : T.Rising) {k : Bs} {t : Nat} (hk : who T k = none) (j : Bs) : who (insL T k t) j = if j = k then some t else who T j := by
  by_cases h : j = k
  · subst h
    rw [if_pos rfl]
    exact (mem_who (rising_ins hT hk)).1 (mem_ins.2 (.inl rfl))
  · rw [if_neg h]
    cases hw : who T j with
    | some s => exact (mem_who (rising_ins hT hk)).1 (mem_ins.2 (.inr ((mem_who hT).2 hw)))
    | none =>
      cases hw2 : who (insL T k t) j with
      | none => rfl
      | some s =>
        rcases mem_ins.1 ((mem_who (rising_ins hT hk)).2 hw2) with h2 | h2
        · injection h2 with h2; exact absurd h2 h
        · rw [(mem_who hT).1 h2] at hw; cases hw
theorem length_ins (T : Lk) (k : Bs) (t : Nat) : (insL T k t).length = T.length + 1 := by
  have := atL_le T k
  simp [insL]
  omega
theorem Lk.Rising.filter {T : Lk} (hT : T.Rising) (p : Bs × Nat → Bool) : Lk.Rising (T.filter p) := List.Pairwise.filter p hT
theorem who_filter {T : Lk} (hT : T.Rising) (p : Bs × Nat → Bool) (j : Bs) : who (T.filter p) j = (who T j).bind fun t => if p (j, t) then some t else none := by
  cases hw : who T j with
  | none =>
    cases hw2 : who (T.filter p) j with
    | none => rfl
    | some s =>
      have := (mem_who (hT.filter p)).2 hw2
      rw [(mem_who hT).1 (List.mem_filter.1 this).1] at hw
      cases hw
  | some t =>
    show _ = if p (j, t) then some t else none
    by_cases hp : p (j, t) = true
    · rw [if_pos hp]
      exact (mem_who (hT.filter p)).1 (List.mem_filter.2 ⟨(mem_who hT).2 hw, hp⟩)
    · rw [if_neg hp]
      cases hw2 : who (T.filter p) j with
      | none => rfl
      | some s =>
        have h2 := List.mem_filter.1 ((mem_who (hT.filter p)).2 hw2)
        rw [(mem_who hT).1 h2.1] at hw
        injection hw with hw
        subst hw
        exact absurd h2.2 hp
theorem held_mem {T : Lk} (hT : T.Rising) {t : Nat} {k : Bs} : k ∈ held T t ↔ who T k = some t := by
  unfold held
  rw [List.mem_map]
  constructor
  · rintro ⟨⟨q, s⟩, h, rfl⟩
    have := List.mem_filter.1 h
    have hs : s = t := by simpa using this.2
    subst hs
    exact (mem_who hT).1 this.1
  · intro h
    exact ⟨(k, t), List.mem_filter.2 ⟨(mem_who hT).2 h, by simp⟩, rfl⟩
theorem held_rising {T : Lk} (hT : T.Rising) (t : Nat) : (held T t).Pairwise (· < ·) := List.pairwise_map.2 (hT.filter _)
theorem held_nodup {T : Lk} (hT : T.Rising) (t : Nat) : (held T t).Nodup := (held_rising hT t).imp fun {a b} h e => by subst e; exact lt_irr _ h
/-- What was collected, sorted. -/
theorem held_sort {T : Lk} (hT : T.Rising) {t : Nat} {ss : List Bs} (hn : ss.Nodup) (hm : ∀ x, x ∈ ss ↔ who T x = some t) : (ss.mergeSort fun x y => decide (x ≤ y)) = held T t := by
  have hp : ss.Perm (held T t) := (List.perm_ext_iff_of_nodup hn (held_nodup hT t)).2 fun x => (hm x).trans (held_mem hT).symm
  have h1 := mergeSort_of_perm hp
  refine h1.trans ?_
  refine List.mergeSort_of_pairwise ((held_rising hT t).imp fun {a b} h => ?_)
  simpa using List.le_of_lt h
theorem drop_len (T : Lk) (t : Nat) : (held T t).length + (dropL T t).length = T.length := by
  unfold held dropL
  rw [List.length_map]
  induction T with
  | nil => rfl
  | cons p r ih =>
    by_cases h : (p.2 == t) = true
    · simp [List.filter_cons, h] at ih ⊢; omega
    · simp [List.filter_cons, h] at ih ⊢; omega

/-- What a map is to the locks. -/
structure LockD (D : DataW Unit) (T : Lk) : Prop where
  has : ∀ k : Bs, Maps.has D (.string k) = (who T k).isSome
  val : ∀ (k : Bs) (t : Nat), who T k = some t → ∀ z, D.atKey (.string k) z = .lit (.int .u64 t)
  size : Maps.size D = T.length
theorem LockD.at_none {D : DataW Unit} {T : Lk} (h : LockD D T) {k : Bs} (hk : who T k = none) (z : DataW Unit) : D.atKey (.string k) z = z := by
  have := h.has k
  rw [hk] at this
  exact atKey_of_not_has this z
theorem LockD.empty : LockD (.map []) [] := ⟨fun k => rfl, fun k t h => (by cases h), rfl⟩
theorem str_key (k : Bs) : WideAt.IsKeyLit (.string k) := trivial
theorem str_ne {k j : Bs} (h : k ≠ j) : (Lit.string k) ≠ .string j := fun e => h (by injection e)
theorem LockD.put {D : DataW Unit} {T : Lk} (h : LockD D T) (hD : Tidy D) (hT : T.Rising) {k : Bs} (hk : who T k = none) (t : Nat) : LockD (D.put (.string k) (.lit (.int .u64 t))) (insL T k t) := by
  refine ⟨fun j => ?_, fun j s hs z => ?_, ?_⟩
  · rw [who_ins hT hk]
    by_cases hj : j = k
    · subst hj
      rw [if_pos rfl, has_put_same hD.isMap (str_key _)]
      rfl
    · rw [if_neg hj, has_put_other (str_ne hj)]
      exact h.has j
  · rw [who_ins hT hk] at hs
    by_cases hj : j = k
    · subst hj
      rw [if_pos rfl] at hs
      injection hs with hs
      subst hs
      exact atKey_put_same hD.isMap (str_key _) _ _
    · rw [if_neg hj] at hs
      rw [atKey_put_other (str_ne hj)]
      exact h.val j s hs z
  · rw [size_put hD, length_ins, h.has k, hk, ← h.size]
    rfl
/-- One lock goes. -/
def cutL (T : Lk) (k : Bs) : Lk := T.filter fun p => !(p.1 == k)
theorem who_cut {T : Lk} (hT : T.Rising) (k j : Bs) : who (cutL T k) j = if j = k then none else who T j := by
  unfold cutL
  rw [who_filter hT]
  by_cases hj : j = k
  · subst hj
    rw [if_pos rfl]
    cases who T j <;> simp
  · rw [if_neg hj]
    have : (j == k) = false := by simpa using hj
    cases who T j <;> simp [this]
theorem length_cut {T : Lk} (hT : T.Rising) (k : Bs) : (cutL T k).length + (if (who T k).isSome then 1 else 0) = T.length := by
  unfold cutL
  induction T with
  | nil => rfl
  | cons p r ih =>
    have hT' := List.pairwise_cons.1 hT
    have := ih hT'.2
    obtain ⟨q, t⟩ := p
    have hw : who ((q, t) :: r) k = if k = q then some t else who r k := by
      unfold who
      rw [List.lookup_cons]
      by_cases h : k = q
      · subst h; simp
      · rw [show (k == q) = false by simpa using h, if_neg h]
    rw [hw]
    by_cases h : k = q
    · subst h
      have hn : who r k = none := by
        cases hw2 : who r k with
        | none => rfl
        | some s => exact absurd (hT'.1 _ ((mem_who hT'.2).2 hw2)) (lt_irr _)
      rw [hn] at this
      simp [List.filter_cons] at this ⊢
      exact this
    · have hb : (q == k) = false := by rw [beq_eq_false_iff_ne]; exact fun e => h e.symm
      rw [if_neg h]
      simp [List.filter_cons, hb] at this ⊢
      omega
theorem LockD.del {D : DataW Unit} {T : Lk} (h : LockD D T) (hD : Tidy D) (hT : T.Rising) (k : Bs) : LockD (D.del (.string k)) (cutL T k) := by
  refine ⟨fun j => ?_, fun j s hs z => ?_, ?_⟩
  · rw [who_cut hT]
    by_cases hj : j = k
    · subst hj
      rw [if_pos rfl, has_del_same]
      rfl
    · rw [if_neg hj, has_del_other (str_ne hj)]
      exact h.has j
  · rw [who_cut hT] at hs
    by_cases hj : j = k
    · subst hj
      rw [if_pos rfl] at hs
      cases hs
    · rw [if_neg hj] at hs
      rw [atKey_del_other (str_ne hj)]
      exact h.val j s hs z
  · have h1 := size_del (k := .string k) hD
    have h2 := length_cut hT k
    rw [h.has k, h.size] at h1
    by_cases hw : (who T k).isSome = true
    · rw [if_pos hw] at h1 h2; omega
    · rw [if_neg hw] at h1 h2; omega
/-- What Take answers, and what it leaves. -/
def takeL (T : Lk) (tx : Nat) (k : Bs) : Lk × Bool × Int :=
  if tx = 0 ∨ ¬ (1 ≤ k.length ∧ k.length ≤ 48) then (T, false, 2)
  else match who T k with
    | some t => if t = tx then (T, false, 0) else (T, false, 250)
    | none => if 1024 ≤ T.length then (T, false, 4) else (insL T k tx, true, 0)
theorem cut_rising {T : Lk} (hT : T.Rising) (k : Bs) : (cutL T k).Rising := hT.filter _

end Go.Proofs.Ytoeaakadpillnaa
