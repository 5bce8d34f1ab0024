/- OpRedo: the plain law -/
import Derived.Test.YtjcfnfpilladfaaRows
import Derived.Test.YtjcfnfpilladfaaAppTwo
import Derived.Test.YtjcfnfpilladfaaOpIn
import Derived.Test.YtjcfnfpilladfaaOpPlain
import Derived.Test.YtjcfnfpilladfaaOpLaw
import Derived.Test.YtjcfnfpilladfaaTextsP
import Derived.Test.YtjcfnfpilladfaaTextsMove
import Derived.Test.YtjcfnfpilladfaaPlains
import Derived.Test.YtjcfnfpilladfaaBase
import Derived.Test.YtjcfnfpilladfaaTextsIn
import Derived.Test.YtjcfnfpilladfaaOpenFlat
import Derived.Test.YtjcfnfpilladfaaHeavy11
import Derived.Test.YtjcfnfpilladfaaPgsOwn
import Derived.Test.YtjcfnfpilladfaaNodeWeigh
import Derived.Test.YtjcfnfpilladfaaOpRedo11
import Derived.Test.YtjcfnfpilladfaaOpApply
import Derived.Test.YtjcfnfpilladfaaOpDoes
import Derived.Test.YtjcfnfpilladfaaOpWrite
import Derived.Test.YtjcfnfpilladfaaOpEnc
import Derived.Test.YtjcfnfpilladfaaOpPart
import Derived.Test.YtjcfnfpilladfaaOpDoesMap
import Derived.Test.YtjcfnfpilladfaaRefBytes11
import Derived.Test.YtjcfnfpilladfaaAlive11
import Derived.Deep.CutBlock
import Derived.WalkKit
import Derived.WalkLawsBesides
import Derived.WalkSpells
import Derived.LoopTactic
import Derived.WalkMore
import Derived.LoopN
import Derived.Laws.BitsAllLaws
import Derived.Laws.IdiomStrings
import Derived.BigQuiet
import Derived.Deep.QuietTactic
import Derived.Deep.DeepCutAuto
import Derived.Deep.RegionHeld3
import Derived.Deep.DrawnRows
import Derived.Lib.Hide
import Derived.Outline
import Derived.Deep.DeepMust
import Derived.Handy
namespace Go.Proofs.Ytjcfnfpilladfaa
open Go.RowKit
set_option linter.unusedVariables false
set_option linter.unusedSimpArgs false

theorem small_of {o : Od} (h : sizeN o ≤ 4096) : o.small := by
  unfold sizeN at h
  have h1 := (weight_heavy o.rows).2
  refine ⟨by omega, by omega, fun r hr => ?_⟩
  have h2 : ∀ (rs : List (List UInt8)), r ∈ rs → r.length ≤ heavyB rs := by
    intro rs
    induction rs with
    | nil => intro h; cases h
    | cons x xs ih =>
      intro h
      have e : heavyB (x :: xs) = 1 + x.length + heavyB xs := by simp [heavyB]
      rcases List.mem_cons.1 h with rfl | h
      · omega
      · have := ih h; omega
  have := h2 o.rows hr
  omega
theorem sizes_mem {L : List Ov} (h : sizesN (L.map Ov.o) ≤ 4096) : L.length ≤ 4096 ∧ ∀ e ∈ L, sizeN e.o ≤ 4096 := by
  induction L with
  | nil => exact ⟨Nat.zero_le _, fun e he => by cases he⟩
  | cons x xs ih =>
    have e : sizesN ((x :: xs).map Ov.o) = sizeN x.o + sizesN (xs.map Ov.o) := by simp [sizesN]
    rw [e] at h
    obtain ⟨h1, h2⟩ := ih (by omega)
    have h3 : 1 ≤ sizeN x.o := by unfold sizeN; omega
    have h4 : xs.length ≤ sizesN (xs.map Ov.o) := by
      clear ih h h1 h2 e
      induction xs with
      | nil => exact Nat.zero_le _
      | cons y ys ih =>
        have e : sizesN ((y :: ys).map Ov.o) = sizeN y.o + sizesN (ys.map Ov.o) := by simp [sizesN]
        have : 1 ≤ sizeN y.o := by unfold sizeN; omega
        rw [e, List.length_cons]
        omega
    refine ⟨by rw [List.length_cons]; omega, fun y hy => ?_⟩
    rcases List.mem_cons.1 hy with rfl | hy
    · omega
    · exact h2 y hy
theorem applyB_lsn {p : Pg} {o : Od} {lsn : Nat} (h : (applyB p o lsn).2 = 0) : (applyB p o lsn).1.lsn = lsn := by
  unfold applyB at h ⊢
  by_cases h1 : doOk p o = true
  · rw [if_pos h1] at h ⊢
    by_cases h2 : (doB p o).2 = 0
    · rw [if_pos h2] at h ⊢
      by_cases h3 : ((doB p o).1.lsnTo lsn).may = true
      · rw [if_pos h3]; rfl
      · rw [if_neg h3] at h; exact absurd h (by decide)
    · rw [if_neg h2] at h; exact absurd h h2
  · rw [if_neg h1] at h; exact absurd h (by decide)
theorem redoGo_lsn (p : Pg) (lsn : Nat) : ∀ (l : List Od) (q : Pg), (redoGo p lsn l q).2 = 0 → (redoGo p lsn l q).1.lsn = q.lsn ∨ (redoGo p lsn l q).1.lsn = lsn := by
  intro l
  induction l with
  | nil => intro q _; exact .inl rfl
  | cons o l ih =>
    intro q h
    unfold redoGo at h ⊢
    by_cases h1 : o.page = p.id
    · rw [if_pos h1] at h ⊢
      by_cases h2 : (applyB q o lsn).2 = 0
      · rw [if_pos h2] at h ⊢
        have h3 := applyB_lsn h2
        rcases ih _ h with h4 | h4
        · exact .inr (h4.trans h3)
        · exact .inr h4
      · rw [if_neg h2] at h; exact absurd h h2
    · rw [if_neg h1] at h ⊢
      exact ih q h
theorem redoB_lsn {p : Pg} {lsn : Nat} {l : List Od} (h : (redoB p lsn l).2 = 0) : (redoB p lsn l).1.lsn = p.lsn ∨ (redoB p lsn l).1.lsn = lsn := by
  unfold redoB at h ⊢
  by_cases h1 : lsn ≤ p.lsn
  · rw [if_pos h1]; exact .inl rfl
  · rw [if_neg h1] at h ⊢; exact redoGo_lsn p lsn l p h
theorem redoGo_ok (p : Pg) (lsn : Nat) (hl : lsn < 256 ^ 8) (W : Nat) (hW : 484 ≤ W) (hp : p.wf) (hpw : weightB p.rows ≤ W) : ∀ (l : List Od) (q : Pg), (∀ o ∈ l, o.wf) → q.wf → weightB q.rows ≤ W → (redoGo p lsn l q).1.wf ∧ weightB (redoGo p lsn l q).1.rows ≤ W := by
  intro l
  induction l with
  | nil => intro q _ h1 h2; exact ⟨h1, h2⟩
  | cons o l ih =>
    intro q ho h1 h2
    unfold redoGo
    by_cases h3 : o.page = p.id
    · rw [if_pos h3]
      by_cases h4 : (applyB q o lsn).2 = 0
      · rw [if_pos h4]
        obtain ⟨k1, k2, _⟩ := applyB_ok h1 (ho o List.mem_cons_self) hl h4
        exact ih _ (fun x hx => ho x (List.mem_cons_of_mem _ hx)) k1 (by have := (may_weight k2).1; omega)
      · rw [if_neg h4]; exact ⟨hp, hpw⟩
    · rw [if_neg h3]
      exact ih q (fun x hx => ho x (List.mem_cons_of_mem _ hx)) h1 h2
theorem redoB_ok {p : Pg} {lsn W : Nat} {l : List Od} (hl : lsn < 256 ^ 8) (hW : 484 ≤ W) (hp : p.wf) (hpw : weightB p.rows ≤ W) (ho : ∀ o ∈ l, o.wf) : (redoB p lsn l).1.wf ∧ weightB (redoB p lsn l).1.rows ≤ W := by
  unfold redoB
  by_cases h1 : lsn ≤ p.lsn
  · rw [if_pos h1]; exact ⟨hp, hpw⟩
  · rw [if_neg h1]; exact redoGo_ok p lsn hl W hW hp hpw l p ho hp hpw
/-- Versions behind one another, and the lists that made them. -/
def Chain (vs : List Pg) (ds : List (List Od)) : Prop :=
  vs.length = ds.length + 1 ∧ (∀ i, i ≤ ds.length → (vs.getD i Pg.zero).lsn = if i = 0 then 1 else 10 * i) ∧ ∀ i, i < ds.length → redoB (vs.getD i Pg.zero) (10 * (i + 1)) (ds.getD i []) = (vs.getD (i + 1) Pg.zero, 0)
theorem Chain.one {p : Pg} (h : p.lsn = 1) : Chain [p] [] := by
  refine ⟨rfl, fun i hi => ?_, fun i hi => by simp at hi⟩
  have : i = 0 := by simpa using hi
  subst this
  exact h
theorem getD_snoc_lt {α : Type} (xs : List α) (y d : α) (i : Nat) (h : i < xs.length) : (xs ++ [y]).getD i d = xs.getD i d := by
  rw [List.getD_eq_getElem?_getD, List.getD_eq_getElem?_getD, List.getElem?_append_left h]
theorem getD_snoc_eq {α : Type} (xs : List α) (y d : α) (i : Nat) (h : i = xs.length) : (xs ++ [y]).getD i d = y := by
  subst h
  rw [List.getD_eq_getElem?_getD, List.getElem?_append_right (Nat.le_refl _)]
  simp
theorem Chain.snoc {vs : List Pg} {ds : List (List Od)} {q : Pg} {d : List Od} (h : Chain vs ds) (hr : redoB (vs.getD ds.length Pg.zero) (10 * vs.length) d = (q, 0)) (hn : q.lsn ≠ (vs.getD ds.length Pg.zero).lsn) : Chain (vs ++ [q]) (ds ++ [d]) := by
  obtain ⟨h1, h2, h3⟩ := h
  have hq : q.lsn = 10 * (ds.length + 1) := by
    have := redoB_lsn (p := vs.getD ds.length Pg.zero) (lsn := 10 * vs.length) (l := d) (by rw [hr])
    rw [hr] at this
    rcases this with h | h
    · exact absurd h hn
    · rw [← h1]; exact h
  refine ⟨by simp [h1], fun i hi => ?_, fun i hi => ?_⟩
  · simp only [List.length_append, List.length_cons, List.length_nil] at hi
    rcases Nat.lt_or_ge i vs.length with hv | hv
    · rw [getD_snoc_lt _ _ _ _ hv]; exact h2 i (by omega)
    · rw [getD_snoc_eq _ _ _ _ (by omega), hq, if_neg (by omega)]
      omega
  · simp only [List.length_append, List.length_cons, List.length_nil] at hi
    rcases Nat.lt_or_ge i ds.length with hv | hv
    · rw [getD_snoc_lt vs q _ i (by omega), getD_snoc_lt vs q _ (i + 1) (by omega), getD_snoc_lt ds d _ i hv]; exact h3 i hv
    · have hi2 : i = ds.length := by omega
      rw [getD_snoc_lt vs q _ i (by omega), getD_snoc_eq vs q _ (i + 1) (by omega), getD_snoc_eq ds d _ i hi2, hi2, ← h1]; exact hr
theorem Chain.step {vs : List Pg} {ds : List (List Od)} (h : Chain vs ds) (k i : Nat) (hk : k ≤ ds.length) (hi : i < ds.length) : redoB (vs.getD (max k i) Pg.zero) (10 * (i + 1)) (ds.getD i []) = (vs.getD (max k (i + 1)) Pg.zero, 0) := by
  obtain ⟨h1, h2, h3⟩ := h
  rcases Nat.lt_or_ge i k with hc | hc
  · rw [Nat.max_eq_left (by omega), Nat.max_eq_left (by omega)]
    have := h2 k hk
    rw [if_neg (by omega)] at this
    unfold redoB
    rw [if_pos (by omega)]
  · rw [Nat.max_eq_right hc, Nat.max_eq_right (by omega)]
    exact h3 i hi

end Go.Proofs.Ytjcfnfpilladfaa
