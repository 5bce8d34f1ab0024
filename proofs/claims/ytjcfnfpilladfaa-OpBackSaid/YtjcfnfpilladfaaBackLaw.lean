/- OpBack: the plain law of coding -/
import Derived.Test.YtjcfnfpilladfaaRows
import Derived.Test.YtjcfnfpilladfaaAppTwo
import Derived.Test.YtjcfnfpilladfaaOpIn
import Derived.Test.YtjcfnfpilladfaaOpPlain
import Derived.Test.YtjcfnfpilladfaaOpLaw
import Derived.Test.YtjcfnfpilladfaaTextsP
import Derived.Test.YtjcfnfpilladfaaTextsMove
import Derived.Test.YtjcfnfpilladfaaPlains
import Derived.Test.YtjcfnfpilladfaaBase
import Derived.Test.YtjcfnfpilladfaaTextsIn
import Derived.Test.YtjcfnfpilladfaaOpenFlat
import Derived.Test.YtjcfnfpilladfaaHeavy11
import Derived.Test.YtjcfnfpilladfaaPgsOwn
import Derived.Test.YtjcfnfpilladfaaNodeWeigh
import Derived.Test.YtjcfnfpilladfaaOpRedo11
import Derived.Test.YtjcfnfpilladfaaOpApply
import Derived.Test.YtjcfnfpilladfaaOpDoes
import Derived.Test.YtjcfnfpilladfaaOpWrite
import Derived.Test.YtjcfnfpilladfaaOpEnc
import Derived.Test.YtjcfnfpilladfaaOpPart
import Derived.Test.YtjcfnfpilladfaaOpDoesMap
import Derived.Test.YtjcfnfpilladfaaRefBytes11
import Derived.Test.YtjcfnfpilladfaaAlive11
import Derived.Test.YtjcfnfpilladfaaPgStore
import Derived.Test.YtjcfnfpilladfaaOpDec
import Derived.Test.YtjcfnfpilladfaaOneLaw
import Derived.Test.YtjcfnfpilladfaaRefOne
import Derived.Test.YtjcfnfpilladfaaRefGet
import Derived.Test.YtjcfnfpilladfaaOpEnc
import Derived.Deep.CutBlock
import Derived.WalkKit
import Derived.WalkLawsBesides
import Derived.WalkSpells
import Derived.LoopTactic
import Derived.WalkMore
import Derived.LoopN
import Derived.Laws.BitsAllLaws
import Derived.Laws.IdiomStrings
import Derived.BigQuiet
import Derived.Deep.QuietTactic
import Derived.Deep.DeepCutAuto
import Derived.Deep.RegionHeld3
import Derived.Deep.DrawnRows
import Derived.Lib.Hide
import Derived.Outline
import Derived.Deep.DeepMust
import Derived.Handy
namespace Go.Proofs.Ytjcfnfpilladfaa
open Go.RowKit
set_option linter.unusedVariables false
set_option linter.unusedSimpArgs false

theorem dec_enc_go : ∀ (l : List Od), (∀ o ∈ l, o.may = true ∧ o.lv < 256) → decGo l.length (l.flatMap Od.enc) = some l := by
  intro l
  induction l with
  | nil => intro _; rfl
  | cons o l ih =>
    intro h
    have h1 := h o List.mem_cons_self
    rw [List.flatMap_cons, List.length_cons, decGo, readC_enc o h1.1 h1.2]
    simp only [Bool.false_eq_true, if_false]
    rw [List.drop_left, ih (fun x hx => h x (List.mem_cons_of_mem _ hx))]
    rfl
theorem rd_first (s : List UInt8) (h : 1 ≤ s.length) : s = be 1 (rdNum s 0 1) ++ s.drop 1 ∧ rdNum s 0 1 < 256 := by
  have h1 := numO_at (s := s) (a := 0) (k := 1) (Nat.zero_le _)
  rw [if_pos (by omega), List.drop_zero] at h1
  obtain ⟨h2, h3⟩ := numO_some h1
  exact ⟨h2, h3⟩
theorem dec_enc {l : List Od} (hl : l.length ≤ 32) (h : ∀ o ∈ l, o.may = true ∧ o.lv < 256) : decL (be 1 l.length ++ l.flatMap Od.enc) = some l := by
  have h1 := numO_be 1 l.length (l.flatMap Od.enc) (by omega)
  have h2 := numO_at (s := be 1 l.length ++ l.flatMap Od.enc) (a := 0) (k := 1) (Nat.zero_le _)
  have hb : (be 1 l.length).length = 1 := be_length 1 _
  rw [List.drop_zero, h1, if_pos (by rw [List.length_append, hb]; omega)] at h2
  injection h2 with h2
  injection h2 with h3 h4
  unfold decL
  rw [← h3, if_pos ⟨by rw [List.length_append, hb]; omega, hl⟩]
  have h5 : (be 1 l.length ++ l.flatMap Od.enc).drop 1 = l.flatMap Od.enc := by rw [Nat.zero_add] at h4; exact h4.symm
  rw [h5]
  exact dec_enc_go l h
theorem enc_back {l : List Od} {x : List UInt8} (h : encL l = (x, 0)) (hw : ∀ o ∈ l, o.wf) : decL x = some l ∧ x.length ≤ 70000 := by
  unfold encL at h
  by_cases h1 : 32 < l.length
  · rw [if_pos h1] at h; simp at h
  · rw [if_neg h1] at h
    by_cases h2 : l.all Od.may = true
    · rw [if_pos h2] at h
      injection h with h _
      subst h
      refine ⟨dec_enc (by omega) (fun o ho => ⟨List.all_eq_true.1 h2 o ho, (hw o ho).2.2.2.2.2.1⟩), ?_⟩
      have := encs_len l h2
      have hb : (be 1 l.length).length = 1 := be_length 1 _
      rw [List.length_append, hb]
      omega
    · rw [if_neg h2] at h; simp at h
theorem readC_fits {l : List UInt8} (h : (readC l).bad = false) : (readC l).o.wf ∧ (readC l).o.small := by
  have h1 := (one_read l 0 (Nat.zero_le _)).2
  rw [List.drop_zero] at h1
  obtain ⟨h2, _⟩ := h1 h
  rw [← h2]
  exact ⟨one_wf _, one_small _⟩
theorem dec_go_back : ∀ (k : Nat) (r : List UInt8) (l : List Od), decGo k r = some l → l.length = k ∧ l.all Od.may = true ∧ l.flatMap Od.enc = r ∧ ∀ o ∈ l, o.wf ∧ o.small := by
  intro k
  induction k with
  | zero =>
    intro r l h
    unfold decGo at h
    by_cases h1 : r.length = 0
    · rw [if_pos h1] at h
      injection h with h
      subst h
      exact ⟨rfl, rfl, (List.eq_nil_of_length_eq_zero h1).symm, fun o ho => by cases ho⟩
    · rw [if_neg h1] at h; cases h
  | succ k ih =>
    intro r l h
    unfold decGo at h
    cases hb : (readC r).bad with
    | true => rw [if_pos hb] at h; cases h
    | false =>
      rw [if_neg (by rw [hb]; decide)] at h
      obtain ⟨l2, h2, h3⟩ := Option.map_eq_some_iff.1 h
      obtain ⟨j1, j2, j3, j4⟩ := ih _ _ h2
      obtain ⟨m1, m2, m3, m4⟩ := readC_back hb
      subst h3
      refine ⟨by simp [j1], by rw [List.all_cons, m1, j2]; rfl, by rw [List.flatMap_cons, j3]; exact m2.symm, fun o ho => ?_⟩
      rcases List.mem_cons.1 ho with rfl | ho
      · exact readC_fits hb
      · exact j4 o ho
/-- What was read is written as it was. -/
theorem dec_back {s : List UInt8} {l : List Od} (h : decL s = some l) : encL l = (s, 0) ∧ l.length ≤ 32 ∧ ∀ o ∈ l, o.wf ∧ o.small := by
  unfold decL at h
  by_cases h1 : 1 ≤ s.length ∧ rdNum s 0 1 ≤ 32
  · rw [if_pos h1] at h
    obtain ⟨j1, j2, j3, j4⟩ := dec_go_back _ _ _ h
    obtain ⟨m1, m2⟩ := rd_first s h1.1
    refine ⟨?_, by omega, j4⟩
    unfold encL
    rw [if_neg (by omega), if_pos j2, j3, j1, ← m1]
  · rw [if_neg h1] at h; cases h

end Go.Proofs.Ytjcfnfpilladfaa
