/- OpMoves: the plain law -/
import Derived.Test.YtjcfnfpilladfaaRows
import Derived.Test.YtjcfnfpilladfaaAppTwo
import Derived.Test.YtjcfnfpilladfaaOpIn
import Derived.Test.YtjcfnfpilladfaaOpPlain
import Derived.Test.YtjcfnfpilladfaaOpLaw
import Derived.Test.YtjcfnfpilladfaaTextsP
import Derived.Test.YtjcfnfpilladfaaTextsMove
import Derived.Test.YtjcfnfpilladfaaPlains
import Derived.Test.YtjcfnfpilladfaaBase
import Derived.Test.YtjcfnfpilladfaaTextsIn
import Derived.Test.YtjcfnfpilladfaaOpenFlat
import Derived.Test.YtjcfnfpilladfaaHeavy11
import Derived.Test.YtjcfnfpilladfaaPgsOwn
import Derived.Test.YtjcfnfpilladfaaNodeWeigh
import Derived.Test.YtjcfnfpilladfaaOpRedo11
import Derived.Test.YtjcfnfpilladfaaOpApply
import Derived.Test.YtjcfnfpilladfaaOpDoes
import Derived.Test.YtjcfnfpilladfaaOpWrite
import Derived.Test.YtjcfnfpilladfaaOpEnc
import Derived.Test.YtjcfnfpilladfaaOpPart
import Derived.Test.YtjcfnfpilladfaaOpDoesMap
import Derived.Test.YtjcfnfpilladfaaRefBytes11
import Derived.Test.YtjcfnfpilladfaaAlive11
import Derived.Test.YtjcfnfpilladfaaRedoLaw
import Derived.Deep.CutBlock
import Derived.WalkKit
import Derived.WalkLawsBesides
import Derived.WalkSpells
import Derived.LoopTactic
import Derived.WalkMore
import Derived.LoopN
import Derived.Laws.BitsAllLaws
import Derived.Laws.IdiomStrings
import Derived.BigQuiet
import Derived.Deep.QuietTactic
import Derived.Deep.DeepCutAuto
import Derived.Deep.RegionHeld3
import Derived.Deep.DrawnRows
import Derived.Lib.Hide
import Derived.Outline
import Derived.Deep.DeepMust
import Derived.Handy
namespace Go.Proofs.Ytjcfnfpilladfaa
open Go.RowKit
set_option linter.unusedVariables false
set_option linter.unusedSimpArgs false

def oCut (p : Pg) (k : Nat) : Od := ⟨5, p.id, k, 0, [], [], 0, 0, 0⟩
def oFill (pg : Nat) (rows : List (List UInt8)) : Od := ⟨6, pg, 0, 0, [], rows, 0, 0, 0⟩
def oForm9 (p : Pg) : Od := ⟨1, 9, 0, 0, [], [], p.kind, 0, 0⟩
def oPutK (p : Pg) (k : Nat) (t : List UInt8) : Od := ⟨2, p.id, k, 0, t, [], 0, 0, 0⟩
def oSetK (p : Pg) (k : Nat) (t : List UInt8) : Od := ⟨3, p.id, k, 0, t, [], 0, 0, 0⟩
def oDropK (p : Pg) (k : Nat) : Od := ⟨4, p.id, k, 0, [], [], 0, 0, 0⟩
def pg9 : Pg := ⟨0, 0, 9, 0, 0, []⟩
theorem may_parts {p : Pg} (h : p.may = true) : p.kind ≤ 5 ∧ 1 ≤ p.id ∧ p.id ≤ 1024 ∧ p.next ≤ 1024 ∧ weightB p.rows ≤ 484 := by
  unfold Pg.may at h
  rw [Bool.and_eq_true, decide_eq_true_eq] at h
  obtain ⟨h1, h2⟩ := h
  unfold headOk at h1
  simp at h1
  omega
theorem may_of_parts {p : Pg} (h1 : p.kind ≤ 5) (h2 : 1 ≤ p.id) (h3 : p.id ≤ 1024) (h4 : p.next ≤ 1024) (h5 : weightB p.rows ≤ 484) : p.may = true := by
  unfold Pg.may
  rw [Bool.and_eq_true, decide_eq_true_eq]
  refine ⟨?_, h5⟩
  unfold headOk
  simp
  omega
theorem applyB_of {p q : Pg} {o : Od} {lsn : Nat} (h1 : doOk p o = true) (h2 : doB p o = (q, 0)) (h3 : (q.lsnTo lsn).may = true) : applyB p o lsn = (q.lsnTo lsn, 0) := by
  unfold applyB
  rw [if_pos h1, h2, if_pos rfl, if_pos h3]
theorem lsnTo_self (p : Pg) : p.lsnTo p.lsn = p := rfl
theorem weight_take (rows : List (List UInt8)) (k : Nat) : weightB (rows.take k) ≤ weightB rows := by
  rw [weightB_eq, weightB_eq]
  have := lensB_take_le rows k
  simp only [List.length_take]
  omega
theorem weight_drop (rows : List (List UInt8)) (k : Nat) : weightB (rows.drop k) ≤ weightB rows := by
  rw [weightB_eq, weightB_eq]
  have := lens_drop rows k
  simp only [List.length_drop]
  omega
theorem moves_cut {p : Pg} {k : Nat} (hp : p.may = true) (hk : k ≤ p.rows.length) : applyB p (oCut p k) 3 = (⟨p.kind, p.level, p.id, 3, p.next, p.rows.take k⟩, 0) := by
  obtain ⟨a1, a2, a3, a4, a5⟩ := may_parts hp
  obtain ⟨_, a6, _⟩ := may_weight hp
  have hm : (oCut p k).may = true := by
    unfold Od.may oCut Od.only
    simp [lensB]
    omega
  refine applyB_of (q := ⟨p.kind, p.level, p.id, p.lsn, p.next, p.rows.take k⟩) (by unfold doOk; rw [hm, hp]; simp [oCut]) ?_ (may_of_parts a1 a2 a3 a4 (by have := weight_take p.rows k; show weightB (p.rows.take k) ≤ 484; omega))
  show (if ((k : Nat) : Int).toNat ≤ p.rows.length then (p.with (p.rows.take ((k : Nat) : Int).toNat), (0 : Int)) else (p, 3)) = _
  exact if_pos (by simpa using hk)
theorem fill_may {pg : Nat} {rows : List (List UInt8)} (h1 : 1 ≤ pg) (h2 : pg ≤ 1024) (h : weightB rows ≤ 484) : (oFill pg rows).may = true := by
  have h3 := weightB_eq rows
  unfold Od.may oFill Od.only
  simp
  omega
theorem moves_fill {p : Pg} {k : Nat} (hp : p.may = true) : applyB ⟨p.kind, p.level, p.id, 3, p.next, p.rows.take k⟩ (oFill p.id (p.rows.drop k)) p.lsn = (p, 0) := by
  obtain ⟨a1, a2, a3, a4, a5⟩ := may_parts hp
  have hd := weight_drop p.rows k
  have ht := weight_take p.rows k
  have hm := fill_may a2 a3 (rows := p.rows.drop k) (by omega)
  have hc : (Pg.mk p.kind p.level p.id 3 p.next (p.rows.take k)).may = true := may_of_parts a1 a2 a3 a4 (by show weightB (p.rows.take k) ≤ 484; omega)
  refine applyB_of (q := ⟨p.kind, p.level, p.id, 3, p.next, p.rows⟩) (by unfold doOk; rw [hm, hc]; simp [oFill]) ?_ hp
  simp only [doB, oFill, Pg.with, List.take_append_drop]
theorem moves_redo {p : Pg} {k : Nat} (hp : p.may = true) : redoB pg9 3 [oForm9 p, oFill 9 (p.rows.drop k)] = (⟨p.kind, 0, 9, 3, 0, p.rows.drop k⟩, 0) := by
  obtain ⟨a1, a2, a3, a4, a5⟩ := may_parts hp
  have hd := weight_drop p.rows k
  have hm := fill_may (pg := 9) (by omega) (by omega) (rows := p.rows.drop k) (by omega)
  have hf : (oForm9 p).may = true := by
    unfold Od.may oForm9 Od.only
    simp [lensB]
    omega
  have e1 : applyB pg9 (oForm9 p) 3 = (⟨p.kind, 0, 9, 3, 0, []⟩, 0) := by
    refine applyB_of (q := ⟨p.kind, 0, 9, 0, 0, []⟩) (by unfold doOk; rw [hf]; simp [oForm9]) ?_ (may_of_parts a1 (by show 1 ≤ 9; omega) (by show 9 ≤ 1024; omega) (Nat.zero_le _) (by show weightB [] ≤ 484; decide))
    simp only [doB, oForm9]
  have hc : (Pg.mk p.kind 0 9 3 0 []).may = true := may_of_parts a1 (by show 1 ≤ 9; omega) (by show 9 ≤ 1024; omega) (Nat.zero_le _) (by show weightB [] ≤ 484; decide)
  have e2 : applyB ⟨p.kind, 0, 9, 3, 0, []⟩ (oFill 9 (p.rows.drop k)) 3 = (⟨p.kind, 0, 9, 3, 0, p.rows.drop k⟩, 0) := by
    refine applyB_of (q := ⟨p.kind, 0, 9, 3, 0, p.rows.drop k⟩) (by unfold doOk; rw [hm, hc]; simp [oFill]) ?_ (may_of_parts a1 (by show 1 ≤ 9; omega) (by show 9 ≤ 1024; omega) (Nat.zero_le _) (by show weightB (p.rows.drop k) ≤ 484; omega))
    simp only [doB, oFill, Pg.with, List.nil_append]
  unfold redoB
  rw [if_neg (by show ¬ 3 ≤ 0; omega)]
  have g1 : (oForm9 p).page = pg9.id := rfl
  have g2 : (oFill 9 (p.rows.drop k)).page = pg9.id := rfl
  simp only [redoGo, g1, g2, e1, e2, if_true]
/-- What an op did that was done. -/
theorem applyB_done {p q : Pg} {o : Od} {lsn : Nat} (h : applyB p o lsn = (q, 0)) : o.may = true ∧ q = (doB p o).1.lsnTo lsn ∧ (doB p o).2 = 0 ∧ q.may = true := by
  unfold applyB at h
  by_cases h1 : doOk p o = true
  · rw [if_pos h1] at h
    by_cases h2 : (doB p o).2 = 0
    · rw [if_pos h2] at h
      by_cases h3 : ((doB p o).1.lsnTo lsn).may = true
      · rw [if_pos h3] at h
        injection h with h _
        subst h
        refine ⟨?_, rfl, h2, h3⟩
        unfold doOk at h1
        rw [Bool.and_eq_true] at h1
        exact h1.1
      · rw [if_neg h3] at h; simp at h
    · rw [if_neg h2] at h; exact absurd (congrArg Prod.snd h) h2
  · rw [if_neg h1] at h; simp at h
theorem put_parts (A B : List (List UInt8)) (t : List UInt8) (k : Nat) (hl : A.length = k) : (A ++ t :: B).take k = A ∧ (A ++ t :: B).drop (k + 1) = B := by
  refine ⟨List.take_left' hl, ?_⟩
  rw [show A ++ t :: B = (A ++ [t]) ++ B by simp]
  exact List.drop_left' (by simp [hl])
theorem putRows_drop (rows : List (List UInt8)) (k : Nat) (t : List UInt8) (hk : k ≤ rows.length) : (putRows rows k t false).take k ++ (putRows rows k t false).drop (k + 1) = rows ∧ k < (putRows rows k t false).length := by
  have hl : (rows.take k).length = k := by rw [List.length_take]; omega
  have e : putRows rows k t false = rows.take k ++ t :: rows.drop k := rfl
  rw [e]
  obtain ⟨e1, e2⟩ := put_parts (rows.take k) (rows.drop k) t k hl
  rw [e1, e2, List.take_append_drop]
  exact ⟨rfl, by simp; omega⟩
theorem moves_drop {p q : Pg} {k : Nat} {t : List UInt8} (hp : p.may = true) (hk : k ≤ p.rows.length) (h : applyB p (oPutK p k t) 4 = (q, 0)) : applyB q (oDropK p k) p.lsn = (p, 0) := by
  obtain ⟨h1, h2, h3, h4⟩ := applyB_done h
  obtain ⟨a1, a2, a3, a4, a5⟩ := may_parts hp
  obtain ⟨_, a6, _⟩ := may_weight hp
  have hd : doB p (oPutK p k t) = (p.with (putRows p.rows k t false), 0) := by
    show (if ((k : Nat) : Int).toNat ≤ p.rows.length then (p.with (putRows p.rows ((k : Nat) : Int).toNat t false), (0 : Int)) else (p, 3)) = _
    exact if_pos (by simpa using hk)
  rw [hd] at h2
  simp only [Pg.with, Pg.lsnTo] at h2
  obtain ⟨e1, e2⟩ := putRows_drop p.rows k t hk
  have hm : (oDropK p k).may = true := by
    unfold Od.may oDropK Od.only
    simp [lensB]
    omega
  have hid : q.id = p.id := by rw [h2]
  refine applyB_of (q := ⟨p.kind, p.level, p.id, 4, p.next, p.rows⟩) (by unfold doOk; rw [hm, h4, hid]; simp [oDropK]) ?_ hp
  subst h2
  show (if ((k : Nat) : Int).toNat < (putRows p.rows k t false).length then ((Pg.with ⟨p.kind, p.level, p.id, 4, p.next, putRows p.rows k t false⟩ ((putRows p.rows k t false).take ((k : Nat) : Int).toNat ++ (putRows p.rows k t false).drop (((k : Nat) : Int).toNat + 1))), (0 : Int)) else (_, 3)) = _
  refine (if_pos (by simpa using e2)).trans ?_
  show (Pg.with ⟨p.kind, p.level, p.id, 4, p.next, putRows p.rows k t false⟩ ((putRows p.rows k t false).take k ++ (putRows p.rows k t false).drop (k + 1)), (0 : Int)) = _
  rw [e1]
  rfl
theorem putRows_set (rows : List (List UInt8)) (k : Nat) (t : List UInt8) (hk : k < rows.length) : putRows (putRows rows k t true) k (rows.getD k []) true = rows ∧ k < (putRows rows k t true).length := by
  have hl : (rows.take k).length = k := by rw [List.length_take]; omega
  have e : ∀ (xs : List (List UInt8)) (u : List UInt8), putRows xs k u true = xs.take k ++ u :: xs.drop (k + 1) := fun _ _ => rfl
  rw [e, e]
  obtain ⟨e1, e2⟩ := put_parts (rows.take k) (rows.drop (k + 1)) t k hl
  rw [e1, e2, List.getD_eq_getElem?_getD, List.getElem?_eq_getElem hk]
  refine ⟨?_, by simp; omega⟩
  show rows.take k ++ rows[k] :: rows.drop (k + 1) = rows
  rw [← List.drop_eq_getElem_cons hk, List.take_append_drop]
theorem moves_set {p q : Pg} {k : Nat} {t : List UInt8} (hp : p.may = true) (hk : k < p.rows.length) (h : applyB p (oSetK p k t) 4 = (q, 0)) : applyB q (oSetK p k (p.rows.getD k [])) p.lsn = (p, 0) := by
  obtain ⟨h1, h2, h3, h4⟩ := applyB_done h
  obtain ⟨a1, a2, a3, a4, a5⟩ := may_parts hp
  obtain ⟨_, a6, a7⟩ := may_weight hp
  have hd : doB p (oSetK p k t) = (p.with (putRows p.rows k t true), 0) := by
    show (if ((k : Nat) : Int).toNat < p.rows.length then (p.with (putRows p.rows ((k : Nat) : Int).toNat t true), (0 : Int)) else (p, 3)) = _
    exact if_pos (by simpa using hk)
  rw [hd] at h2
  simp only [Pg.with, Pg.lsnTo] at h2
  obtain ⟨e1, e2⟩ := putRows_set p.rows k t hk
  have hlen : (p.rows.getD k []).length ≤ 480 := by
    rw [List.getD_eq_getElem?_getD, List.getElem?_eq_getElem hk]
    exact a7 _ (List.getElem_mem hk)
  have hm : (oSetK p k (p.rows.getD k [])).may = true := by
    unfold Od.may oSetK Od.only
    simp [lensB]
    simp at hlen
    omega
  have hid : q.id = p.id := by rw [h2]
  refine applyB_of (q := ⟨p.kind, p.level, p.id, 4, p.next, p.rows⟩) (by unfold doOk; rw [hm, h4, hid]; simp [oSetK]) ?_ hp
  subst h2
  show (if ((k : Nat) : Int).toNat < (putRows p.rows k t true).length then ((Pg.with ⟨p.kind, p.level, p.id, 4, p.next, putRows p.rows k t true⟩ (putRows (putRows p.rows k t true) ((k : Nat) : Int).toNat (p.rows.getD k []) true)), (0 : Int)) else (_, 3)) = _
  refine (if_pos (by simpa using e2)).trans ?_
  show (Pg.with ⟨p.kind, p.level, p.id, 4, p.next, putRows p.rows k t true⟩ (putRows (putRows p.rows k t true) k (p.rows.getD k []) true), (0 : Int)) = _
  rw [e1]
  rfl

end Go.Proofs.Ytjcfnfpilladfaa
