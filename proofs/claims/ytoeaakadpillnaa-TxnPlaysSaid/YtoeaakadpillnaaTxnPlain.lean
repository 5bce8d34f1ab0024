/- chapter 23: the transactions as a plain table. -/
import Derived.Test.YtoeaakadpillnaaRows
import Derived.WalkKit
import Derived.WalkLawsBesides
import Derived.WalkSpells
import Derived.LoopTactic
import Derived.WalkMore
import Derived.LoopN
import Derived.Laws.BitsAllLaws
import Derived.Laws.IdiomStrings
import Derived.BigQuiet
import Derived.Deep.QuietTactic
import Derived.Deep.DeepCutAuto
import Derived.Deep.RegionHeld3
import Derived.Deep.DrawnRows
import Derived.Lib.Hide
import Derived.Outline
import Derived.Deep.DeepMust
import Derived.Handy
namespace Go.Proofs.Ytoeaakadpillnaa
open Go.RowKit
set_option linter.unusedVariables false
set_option linter.unusedSimpArgs false

/-- A transaction. -/
structure TX where
  tx : Nat
  first : Nat
  last : Nat
  next : Nat
  page : Nat
  slot : Nat
abbrev TX.cells (x : TX) : List Value := [.int .u64 (x.tx : Nat), .int .u64 (x.first : Nat), .int .u64 (x.last : Nat), .int .u64 (x.next : Nat), .int .u32 (x.page : Nat), .int .u16 (x.slot : Nat)]
abbrev TX.val (x : TX) : Value := .agg #[.int .u64 (x.tx : Nat), .int .u64 (x.first : Nat), .int .u64 (x.last : Nat), .int .u64 (x.next : Nat), .int .u32 (x.page : Nat), .int .u16 (x.slot : Nat)]
/-- A transaction that has just begun. -/
abbrev tx0 (n : Nat) : TX := ⟨n, 0, 0, 0, 0, 0⟩
/-- The transactions that go on. -/
abbrev TT := List TX
def TT.Rising (T : TT) : Prop := T.Pairwise fun a b => a.tx < b.tx
def getT (T : TT) (k : Nat) : Option TX := T.find? fun x => x.tx == k
def placeT (T : TT) (k : Nat) : Nat := (T.takeWhile fun x => decide (x.tx < k)).length
def whereT (T : TT) (k : Nat) : Nat := T.findIdx fun x => x.tx == k
def insT (T : TT) (x : TX) : TT := T.take (placeT T x.tx) ++ x :: T.drop (placeT T x.tx)
def setT (T : TT) (x : TX) : TT := T.set (whereT T x.tx) x
def delT (T : TT) (k : Nat) : TT := T.take (whereT T k) ++ T.drop (whereT T k + 1)

theorem T_get_mem {T : TT} (hT : T.Rising) {k : Nat} {x : TX} : getT T k = some x ↔ x ∈ T ∧ x.tx = k := by
  unfold getT
  induction T with
  | nil => simp
  | cons y r ih =>
    have hT' := List.pairwise_cons.1 hT
    rw [List.find?_cons]
    by_cases h : y.tx = k
    · rw [show (y.tx == k) = true by simpa using h]
      constructor
      · intro e; injection e with e; subst e; exact ⟨List.mem_cons_self, h⟩
      · rintro ⟨hm, hk⟩
        rcases List.mem_cons.1 hm with rfl | hm
        · rfl
        · have := hT'.1 x hm; omega
    · rw [show (y.tx == k) = false by simpa using h]
      simp only []
      rw [ih hT'.2, List.mem_cons]
      constructor
      · rintro ⟨hm, hk⟩; exact ⟨.inr hm, hk⟩
      · rintro ⟨rfl | hm, hk⟩
        · exact absurd hk h
        · exact ⟨hm, hk⟩
theorem T_get_none {T : TT} {k : Nat} : getT T k = none ↔ ∀ x ∈ T, x.tx ≠ k := by
  unfold getT
  rw [List.find?_eq_none]
  constructor
  · intro h x hx; simpa using h x hx
  · intro h x hx; simpa using h x hx
theorem T_get_split {T : TT} (hT : T.Rising) {k : Nat} {x : TX} (h : getT T k = some x) : ∃ A B, T = A ++ x :: B ∧ x.tx = k ∧ (∀ y ∈ A, y.tx < k) ∧ (∀ y ∈ B, k < y.tx) ∧ whereT T k = A.length := by
  induction T with
  | nil => simp [getT] at h
  | cons y r ih =>
    have hT' := List.pairwise_cons.1 hT
    by_cases hy : y.tx = k
    · have hx : y = x := by
        have := (T_get_mem hT (k := k) (x := y)).2 ⟨List.mem_cons_self, hy⟩
        rw [h] at this
        injection this with this
        exact this.symm
      subst hx
      refine ⟨[], r, rfl, hy, by simp, fun z hz => by have := hT'.1 z hz; omega, ?_⟩
      simp [whereT, List.findIdx_cons, hy]
    · have h2 : getT r k = some x := by
        unfold getT at h ⊢
        rw [List.find?_cons, show (y.tx == k) = false by simpa using hy] at h
        exact h
      obtain ⟨A, B, rfl, hk, hA, hB, hw⟩ := ih hT'.2 h2
      refine ⟨y :: A, B, rfl, hk, ?_, hB, ?_⟩
      · intro z hz
        rcases List.mem_cons.1 hz with rfl | hz
        · have := hT'.1 x (by simp); omega
        · exact hA z hz
      · rw [List.length_cons, ← hw]
        unfold whereT
        rw [List.findIdx_cons, show (y.tx == k) = false by simpa using hy]
        rfl
theorem T_where_none {T : TT} {k : Nat} (h : getT T k = none) : whereT T k = T.length := by
  unfold whereT
  rw [List.findIdx_eq_length]
  intro x hx
  simpa using T_get_none.1 h x hx
theorem T_ins_split {T : TT} (hT : T.Rising) (k : Nat) : ∃ A B, T = A ++ B ∧ (∀ y ∈ A, y.tx < k) ∧ (∀ y ∈ B, k ≤ y.tx) ∧ placeT T k = A.length := by
  induction T with
  | nil => exact ⟨[], [], rfl, by simp, by simp, rfl⟩
  | cons y r ih =>
    have hT' := List.pairwise_cons.1 hT
    by_cases hy : y.tx < k
    · obtain ⟨A, B, rfl, hA, hB, hw⟩ := ih hT'.2
      refine ⟨y :: A, B, rfl, ?_, hB, ?_⟩
      · intro z hz
        rcases List.mem_cons.1 hz with rfl | hz
        · exact hy
        · exact hA z hz
      · rw [List.length_cons, ← hw]
        simp [placeT, List.takeWhile_cons, hy]
    · refine ⟨[], y :: r, rfl, by simp, ?_, by simp [placeT, List.takeWhile_cons, hy]⟩
      intro z hz
      rcases List.mem_cons.1 hz with rfl | hz
      · omega
      · have := hT'.1 z hz; omega
theorem T_place_le (T : TT) (k : Nat) : placeT T k ≤ T.length := (List.takeWhile_sublist _).length_le
theorem T_place_step {T : TT} {k i : Nat} (hT : T.Rising) (hi : i < T.length) : i < placeT T k ↔ T[i].tx < k := by
  obtain ⟨A, B, rfl, hA, hB, hw⟩ := T_ins_split hT k
  rw [hw]
  constructor
  · intro h
    rw [List.getElem_append_left h]
    exact hA _ (List.getElem_mem _)
  · intro h
    rcases Nat.lt_or_ge i A.length with h2 | h2
    · exact h2
    · rw [List.getElem_append_right h2] at h
      have hl : i - A.length < B.length := by simp at hi; omega
      have := hB _ (List.getElem_mem hl)
      omega
theorem T_rising_ins {T : TT} (hT : T.Rising) {x : TX} (hx : getT T x.tx = none) : (insT T x).Rising := by
  obtain ⟨A, B, rfl, hA, hB, hw⟩ := T_ins_split hT x.tx
  unfold insT TT.Rising at *
  rw [hw, List.take_left, List.drop_left]
  rw [List.pairwise_append] at hT
  rw [List.pairwise_append, List.pairwise_cons]
  refine ⟨hT.1, ⟨fun y hy => ?_, hT.2.1⟩, fun a ha b hb => ?_⟩
  · have h1 := hB y hy
    have h2 := T_get_none.1 hx y (by simp [hy])
    omega
  · rcases List.mem_cons.1 hb with rfl | hb
    · exact hA a ha
    · exact hT.2.2 a ha b hb
theorem T_mem_ins {T : TT} {x y : TX} : y ∈ insT T x ↔ y = x ∨ y ∈ T := by
  unfold insT
  rw [List.mem_append, List.mem_cons]
  constructor
  · rintro (h | h | h)
    · exact .inr (List.mem_of_mem_take h)
    · exact .inl h
    · exact .inr (List.mem_of_mem_drop h)
  · rintro (h | h)
    · exact .inr (.inl h)
    · rw [← List.take_append_drop (placeT T x.tx) T, List.mem_append] at h
      rcases h with h | h
      · exact .inl h
      · exact .inr (.inr h)
theorem T_length_ins (T : TT) (x : TX) : (insT T x).length = T.length + 1 := by
  have := T_place_le T x.tx
  simp [insT]
  omega
theorem T_get_ins {T : TT} (hT : T.Rising) {x : TX} (hx : getT T x.tx = none) (k : Nat) : getT (insT T x) k = if k = x.tx then some x else getT T k := by
  apply Option.ext
  intro y
  rw [T_get_mem (T_rising_ins hT hx), T_mem_ins]
  constructor
  · rintro ⟨rfl | h, hk⟩
    · rw [if_pos hk.symm]
    · rw [if_neg (fun e => T_get_none.1 hx y h (hk.trans e))]
      exact (T_get_mem hT).2 ⟨h, hk⟩
  · intro h
    split at h
    · rename_i e
      injection h with h
      subst h
      exact ⟨.inl rfl, e.symm⟩
    · have := (T_get_mem hT).1 h
      exact ⟨.inr this.1, this.2⟩
theorem T_get_lt {T : TT} (hT : T.Rising) {k : Nat} {x : TX} (h : getT T k = some x) : ∃ hl : whereT T k < T.length, T[whereT T k] = x := by
  obtain ⟨A, B, rfl, hk, hA, hB, hw⟩ := T_get_split hT h
  refine ⟨by rw [hw]; simp, ?_⟩
  simp [hw]
theorem T_set_split {T : TT} (hT : T.Rising) {x y : TX} (h : getT T y.tx = some x) : ∃ A B, T = A ++ x :: B ∧ setT T y = A ++ y :: B ∧ x.tx = y.tx ∧ (∀ z ∈ A, z.tx < y.tx) ∧ ∀ z ∈ B, y.tx < z.tx := by
  obtain ⟨A, B, rfl, hk, hA, hB, hw⟩ := T_get_split hT h
  refine ⟨A, B, rfl, ?_, hk, hA, hB⟩
  unfold setT
  rw [hw]
  simp
theorem T_rising_set {T : TT} (hT : T.Rising) {x y : TX} (h : getT T y.tx = some x) : (setT T y).Rising := by
  obtain ⟨A, B, rfl, hs, hk, hA, hB⟩ := T_set_split hT h
  rw [hs]
  unfold TT.Rising at *
  rw [List.pairwise_append, List.pairwise_cons] at hT ⊢
  refine ⟨hT.1, ⟨hB, hT.2.1.2⟩, fun a ha b hb => ?_⟩
  rcases List.mem_cons.1 hb with rfl | hb
  · exact hA a ha
  · exact hT.2.2 a ha b (by simp [hb])
theorem T_length_set (T : TT) (y : TX) : (setT T y).length = T.length := by simp [setT]
theorem mem_setT {T : TT} (hT : T.Rising) {x y z : TX} (h : getT T y.tx = some x) : z ∈ setT T y ↔ z = y ∨ (z ∈ T ∧ z.tx ≠ y.tx) := by
  obtain ⟨A, B, rfl, hs, hk, hA, hB⟩ := T_set_split hT h
  rw [hs]
  simp only [List.mem_append, List.mem_cons]
  constructor
  · rintro (h | h | h)
    · exact .inr ⟨.inl h, by have := hA z h; omega⟩
    · exact .inl h
    · exact .inr ⟨.inr (.inr h), by have := hB z h; omega⟩
  · rintro (h | ⟨h | h | h, hn⟩)
    · exact .inr (.inl h)
    · exact .inl h
    · subst h; exact absurd hk hn
    · exact .inr (.inr h)
theorem T_get_set {T : TT} (hT : T.Rising) {x y : TX} (h : getT T y.tx = some x) (k : Nat) : getT (setT T y) k = if k = y.tx then some y else getT T k := by
  apply Option.ext
  intro z
  rw [T_get_mem (T_rising_set hT h), mem_setT hT h]
  constructor
  · rintro ⟨rfl | ⟨hz, hn⟩, hk⟩
    · rw [if_pos hk.symm]
    · rw [if_neg (fun e => hn (hk.trans e))]
      exact (T_get_mem hT).2 ⟨hz, hk⟩
  · intro hz
    split at hz
    · rename_i e
      injection hz with hz
      subst hz
      exact ⟨.inl rfl, e.symm⟩
    · rename_i e
      have := (T_get_mem hT).1 hz
      exact ⟨.inr ⟨this.1, fun e2 => e (this.2.symm.trans e2)⟩, this.2⟩
theorem T_del_split {T : TT} (hT : T.Rising) {x : TX} {k : Nat} (h : getT T k = some x) : ∃ A B, T = A ++ x :: B ∧ delT T k = A ++ B ∧ x.tx = k ∧ (∀ z ∈ A, z.tx < k) ∧ ∀ z ∈ B, k < z.tx := by
  obtain ⟨A, B, rfl, hk, hA, hB, hw⟩ := T_get_split hT h
  refine ⟨A, B, rfl, ?_, hk, hA, hB⟩
  unfold delT
  rw [hw]
  simp
theorem T_rising_del {T : TT} (hT : T.Rising) {x : TX} {k : Nat} (h : getT T k = some x) : (delT T k).Rising := by
  obtain ⟨A, B, rfl, hs, hk, hA, hB⟩ := T_del_split hT h
  rw [hs]
  unfold TT.Rising at *
  refine hT.sublist ?_
  exact (List.Sublist.refl A).append (List.sublist_cons_self x B)
theorem T_length_del {T : TT} (hT : T.Rising) {x : TX} {k : Nat} (h : getT T k = some x) : (delT T k).length + 1 = T.length := by
  obtain ⟨A, B, rfl, hs, hk, hA, hB⟩ := T_del_split hT h
  rw [hs]
  simp
  omega
theorem T_mem_del {T : TT} (hT : T.Rising) {x z : TX} {k : Nat} (h : getT T k = some x) : z ∈ delT T k ↔ z ∈ T ∧ z.tx ≠ k := by
  obtain ⟨A, B, rfl, hs, hk, hA, hB⟩ := T_del_split hT h
  rw [hs]
  simp only [List.mem_append, List.mem_cons]
  constructor
  · rintro (h | h)
    · exact ⟨.inl h, by have := hA z h; omega⟩
    · exact ⟨.inr (.inr h), by have := hB z h; omega⟩
  · rintro ⟨h | h | h, hn⟩
    · exact .inl h
    · subst h; exact absurd hk hn
    · exact .inr h
theorem T_get_del {T : TT} (hT : T.Rising) {x : TX} {j : Nat} (h : getT T j = some x) (k : Nat) : getT (delT T j) k = if k = j then none else getT T k := by
  apply Option.ext
  intro z
  rw [T_get_mem (T_rising_del hT h), T_mem_del hT h]
  constructor
  · rintro ⟨⟨hz, hn⟩, hk⟩
    rw [if_neg (fun e => hn (hk.trans e))]
    exact (T_get_mem hT).2 ⟨hz, hk⟩
  · intro hz
    split at hz
    · cases hz
    · rename_i e
      have := (T_get_mem hT).1 hz
      exact ⟨⟨this.1, fun e2 => e (this.2.symm.trans e2)⟩, this.2⟩
/-- Keys, collected in whatever order and sorted, are the transactions' numbers. -/
theorem T_keys_sorted {T : TT} (hT : T.Rising) {xs ys : List Nat} (hnd : xs.Nodup) (hm : ∀ n, n ∈ xs ↔ (getT T n).isSome = true) (hp : ys.Perm xs) (hs : ys.Pairwise (· ≤ ·)) : ys = T.map (·.tx) := by
  have hr : (T.map (·.tx)).Pairwise (· < ·) := List.pairwise_map.2 hT
  have hn2 : (T.map (·.tx)).Nodup := hr.imp (fun h => Nat.ne_of_lt h)
  have hp2 : ys.Perm (T.map (·.tx)) := by
    refine hp.trans ((List.perm_ext_iff_of_nodup hnd hn2).2 fun n => ?_)
    rw [hm n, List.mem_map]
    constructor
    · intro h
      obtain ⟨x, hx⟩ := Option.isSome_iff_exists.1 h
      have := (T_get_mem hT).1 hx
      exact ⟨x, this.1, this.2⟩
    · rintro ⟨x, hx, rfl⟩
      rw [(T_get_mem hT).2 ⟨hx, rfl⟩]
      rfl
  exact List.Perm.eq_of_pairwise (le := (· ≤ ·)) (fun a b _ _ h1 h2 => Nat.le_antisymm h1 h2) hs (hr.imp Nat.le_of_lt) hp2
/-- All are below the number that comes next. -/
def Under (T : TT) (tx : Nat) : Prop := ∀ x ∈ T, x.tx < tx
theorem T_under_none {T : TT} {tx k : Nat} (h : Under T tx) (hk : tx ≤ k) : getT T k = none := T_get_none.2 fun x hx => by have := h x hx; omega
theorem T_under_ins {T : TT} {tx tx' : Nat} {x : TX} (h : Under T tx) (h1 : tx ≤ tx') (h2 : x.tx < tx') : Under (insT T x) tx' := by
  intro y hy
  rcases T_mem_ins.1 hy with rfl | hy
  · exact h2
  · have := h y hy; omega
theorem T_under_del {T : TT} (hT : T.Rising) {tx k : Nat} {x : TX} (h : Under T tx) (hk : getT T k = some x) : Under (delT T k) tx := fun y hy => h y ((T_mem_del hT hk).1 hy).1
theorem T_under_set {T : TT} (hT : T.Rising) {tx : Nat} {x y : TX} (h : Under T tx) (hk : getT T y.tx = some x) : Under (setT T y) tx := by
  intro z hz
  rcases (mem_setT hT hk).1 hz with rfl | ⟨hz, _⟩
  · have h1 := (T_get_mem hT).1 hk
    have := h x h1.1
    omega
  · exact h z hz

end Go.Proofs.Ytoeaakadpillnaa
