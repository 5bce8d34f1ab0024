/- pages' bytes in plain words: what a page is written as, which bytes are one, that it is read as itself, that turned bits make it none; torn pages; how long a row has room -/
import Derived.Test.YtienlhnbmobinaaRows
import Derived.Test.YtienlhnbmobinaaSlotRoot
import Derived.Test.YtienlhnbmobinaaCrc
import Derived.Test.YtienlhnbmobinaaTextsP
import Derived.WalkKit
import Derived.WalkLawsBesides
import Derived.WalkSpells
import Derived.LoopTactic
import Derived.WalkMore
import Derived.LoopN
import Derived.Laws.BitsAllLaws
import Derived.Laws.IdiomStrings
import Derived.BigQuiet
import Derived.Deep.QuietTactic
import Derived.Deep.DeepCutAuto
import Derived.Deep.RegionHeld3
import Derived.Deep.DrawnRows
import Derived.Lib.Hide
import Derived.Outline
import Derived.Deep.DeepMust
import Derived.Handy
namespace Go.Proofs.Ytienlhnbmobinaa
open Go.RowKit
set_option linter.unusedVariables false
set_option linter.unusedSimpArgs false

/-- A page's head: twenty bytes. -/
def headB (p : Pg) : List UInt8 := be 1 p.kind ++ (be 1 p.level ++ (be 4 p.id ++ (be 8 p.lsn ++ (be 4 p.next ++ be 2 0))))
/-- The area with the first rows. -/
def fillAr (rows : List (List UInt8)) : Nat → Ar
  | 0 => Ar.new 488
  | k + 1 => ((fillAr rows k).put (k : Nat) (rows.getD k [])).1
def bareB (p : Pg) : List UInt8 := headB p ++ (fillAr p.rows p.rows.length).enc
def encPg (p : Pg) : List UInt8 := sealed (bareB p)
def pgEnc (p : Pg) : List UInt8 × Int := if p.may then (encPg p, 0) else ([], 2)
def bodyB (s : List UInt8) : List UInt8 := (s.drop 20).take 488
def pgOf (s : List UInt8) : Pg := ⟨rdNum s 0 1, rdNum s 1 1, rdNum s 2 4, rdNum s 6 8, rdNum s 14 4, (parse (bodyB s)).texts⟩
def decOkB (s : List UInt8) : Prop := s.length = 512 ∧ (parse (bodyB s)).Good ∧ (pgOf s).may = true ∧ encPg (pgOf s) = s
open Classical in
noncomputable def pgDec (s : List UInt8) : Pg × Int := if decOkB s then (pgOf s, 0) else (Pg.zero, 60)
theorem pgDec_ok {s : List UInt8} (h : decOkB s) : pgDec s = (pgOf s, 0) := by unfold pgDec; rw [if_pos h]
theorem pgDec_no {s : List UInt8} (h : ¬ decOkB s) : pgDec s = (Pg.zero, 60) := by unfold pgDec; rw [if_neg h]
theorem pgDec_zero {s : List UInt8} : (pgDec s).2 = 0 ↔ decOkB s := by
  by_cases h : decOkB s
  · rw [pgDec_ok h]; exact ⟨fun _ => h, fun _ => rfl⟩
  · rw [pgDec_no h]; exact ⟨fun e => absurd e (show ¬ (60 : Int) = 0 by omega), fun e => absurd e h⟩

theorem headB_length (p : Pg) : (headB p).length = 20 := by
  unfold headB; simp only [List.length_append, be_length]
theorem may_weight {p : Pg} (h : p.may = true) : weightB p.rows ≤ 484 := by
  unfold Pg.may at h
  rw [Bool.and_eq_true, decide_eq_true_eq] at h
  exact h.2
theorem sum_weight (rows : List (List UInt8)) : weightB rows = 4 * rows.length + (rows.map List.length).sum := by
  induction rows with
  | nil => rfl
  | cons r rows ih => rw [weightB_cons, ih, List.length_cons, List.map_cons, List.sum_cons]; omega
/-- The area with the first k rows: all of them had room. -/
theorem fill_ok (rows : List (List UInt8)) (h : weightB rows ≤ 484) : ∀ k, k ≤ rows.length → (fillAr rows k).Good ∧ (fillAr rows k).texts = rows.take k ∧ (fillAr rows k).L.length = k ∧ (fillAr rows k).B.length = 488 ∧ (fillAr rows k).free = 484 - (weightB (rows.take k) : Int)
  | 0, _ => by
    refine ⟨Ar.Good.new (by omega) (by omega), rfl, rfl, List.length_replicate, ?_⟩
    show ((List.replicate 488 (0 : UInt8)).length : Int) - ((4 + 4 * 0 : Nat) : Int) - ((0 : Nat) : Int) = 484 - ((weightB [] : Nat) : Int)
    rw [List.length_replicate, weightB_nil]
    omega
  | k + 1, hk => by
    obtain ⟨h1, h2, h3, h4, h5⟩ := fill_ok rows h k (by omega)
    have e : rows.getD k [] = rows[k] := by simp [List.getD_eq_getElem?_getD, show k < rows.length by omega]
    have hw := weightB_take rows k (by omega)
    have hle := weightB_take_le rows (k + 1)
    have hp : ((fillAr rows k).put ((k : Nat) : Int) (rows.getD k [])).2 = 0 := (Ar.put_ok _ _).2 ⟨⟨by omega, by omega⟩, by rw [h5, e]; omega⟩
    obtain ⟨g1, g2, g3, g4⟩ := h1.put_yes k _ hp
    have hL : (fillAr rows (k + 1)) = ((fillAr rows k).put (k : Nat) (rows.getD k [])).1 := rfl
    rw [← hL] at g1 g2 g3 g4
    have hlen : (fillAr rows k).texts.length = k := by rw [h2, List.length_take]; omega
    have ht : (fillAr rows (k + 1)).texts = rows.take (k + 1) := by
      rw [g2, e, List.take_of_length_le (by omega), List.drop_eq_nil_of_le (by omega), h2, List.take_succ_eq_append_getElem (by omega)]
    refine ⟨g1, ht, by omega, by omega, ?_⟩
    have hf := g1.free_texts.1
    rw [hf, ht, g4, h4, sum_weight, List.length_take]
    omega
/-- Each row had room. -/
theorem fill_put (rows : List (List UInt8)) (h : weightB rows ≤ 484) (k : Nat) (hk : k < rows.length) : (fillAr rows k).put (k : Nat) rows[k] = (fillAr rows (k + 1), 0) := by
  obtain ⟨h1, h2, h3, h4, h5⟩ := fill_ok rows h k (by omega)
  have e : rows.getD k [] = rows[k] := by simp [List.getD_eq_getElem?_getD, hk]
  have hw := weightB_take rows k (by omega)
  have hle := weightB_take_le rows (k + 1)
  have hp : ((fillAr rows k).put ((k : Nat) : Int) (rows.getD k [])).2 = 0 := (Ar.put_ok _ _).2 ⟨⟨by omega, by omega⟩, by rw [h5, e]; omega⟩
  rw [← e]
  exact Prod.ext rfl hp
theorem bareB_length {p : Pg} (h : p.may = true) : (bareB p).length = 508 := by
  obtain ⟨h1, h2, h3, h4, h5⟩ := fill_ok p.rows (may_weight h) _ (Nat.le_refl _)
  have hf := h1.f
  have hl := h1.l
  unfold bareB
  rw [List.length_append, headB_length, Ar.enc_length _ (by omega), h4]
theorem le4_length (c : BitVec 32) : (le4 c).length = 4 := rfl
theorem sealed_length (l : List UInt8) : (sealed l).length = l.length + 4 := by unfold sealed; rw [List.length_append, le4_length]
theorem encPg_length {p : Pg} (h : p.may = true) : (encPg p).length = 512 := by
  unfold encPg; rw [sealed_length, bareB_length h]
theorem drop_past (x y : List UInt8) (k : Nat) (h : x.length ≤ k) : (x ++ y).drop k = y.drop (k - x.length) := by
  rw [List.drop_append, List.drop_eq_nil_of_le h, List.nil_append]
theorem enc_drop (a : Ar) (k : Nat) (hk : a.fin ≤ k) : a.enc.drop k = a.B.drop k := by
  have e : a.enc = (be 2 a.L.length ++ (be 2 a.low ++ ents a.L)) ++ a.B.drop a.fin := by unfold Ar.enc; simp
  have hl : (be 2 a.L.length ++ (be 2 a.low ++ ents a.L)).length = a.fin := by
    simp only [List.length_append, be_length, ents_length]; unfold Ar.fin; omega
  rw [e, drop_past _ _ _ (by omega), hl, List.drop_drop]
  congr 1; omega
/-- What stands in an area's bytes are its texts. -/
theorem parse_texts {a : Ar} (h : a.Good) : (parse a.enc).texts = a.texts := by
  obtain ⟨h1, h2, h3⟩ := parse_of_enc h
  unfold Ar.texts
  rw [h1]
  refine List.map_congr_left fun p hp => ?_
  have hi := h.inn p hp
  have hf := h.f
  show (a.enc.drop p.1).take p.2 = (a.B.drop p.1).take p.2
  rw [enc_drop a p.1 (by omega)]

theorem rd_here (x y : List UInt8) (k n i : Nat) (hi : x.length = i) (hn : n < 256 ^ k) : rdNum (x ++ (be k n ++ y)) i k = n := by
  unfold rdNum
  rw [if_pos (by simp only [List.length_append, be_length]; omega), drop_past _ _ _ (by omega), hi, Nat.sub_self, List.drop_zero, List.take_left' (be_length k n), un_be_fits k n hn]
theorem headB_parts {p : Pg} (hw : p.wf) (y : List UInt8) : rdNum (headB p ++ y) 0 1 = p.kind ∧ rdNum (headB p ++ y) 1 1 = p.level ∧ rdNum (headB p ++ y) 2 4 = p.id ∧ rdNum (headB p ++ y) 6 8 = p.lsn ∧ rdNum (headB p ++ y) 14 4 = p.next ∧ rdNum (headB p ++ y) 18 2 = 0 := by
  obtain ⟨h1, h2, h3, h4, h5⟩ := hw
  unfold headB
  simp only [List.append_assoc]
  refine ⟨?_, ?_, ?_, ?_, ?_, ?_⟩
  · exact rd_here [] _ 1 _ 0 rfl (by omega)
  · exact rd_here (be 1 p.kind) _ 1 _ 1 (be_length _ _) (by omega)
  · have := rd_here (be 1 p.kind ++ be 1 p.level) (be 8 p.lsn ++ (be 4 p.next ++ (be 2 0 ++ y))) 4 p.id 2 (by simp only [List.length_append, be_length]) h3
    simpa only [List.append_assoc] using this
  · have := rd_here (be 1 p.kind ++ (be 1 p.level ++ be 4 p.id)) (be 4 p.next ++ (be 2 0 ++ y)) 8 p.lsn 6 (by simp only [List.length_append, be_length]) h4
    simpa only [List.append_assoc] using this
  · have := rd_here (be 1 p.kind ++ (be 1 p.level ++ (be 4 p.id ++ be 8 p.lsn))) (be 2 0 ++ y) 4 p.next 14 (by simp only [List.length_append, be_length]) h5
    simpa only [List.append_assoc] using this
  · have := rd_here (be 1 p.kind ++ (be 1 p.level ++ (be 4 p.id ++ (be 8 p.lsn ++ be 4 p.next)))) y 2 0 18 (by simp only [List.length_append, be_length]) (by omega)
    simpa only [List.append_assoc] using this
theorem body_enc {p : Pg} (h : p.may = true) (y : List UInt8) : bodyB (bareB p ++ y) = (fillAr p.rows p.rows.length).enc := by
  unfold bodyB bareB
  obtain ⟨h1, h2, h3, h4, h5⟩ := fill_ok p.rows (may_weight h) _ (Nat.le_refl _)
  have hf := h1.f
  have hl := h1.l
  rw [List.append_assoc, drop_past _ _ _ (by rw [headB_length]; omega), headB_length, Nat.sub_self, List.drop_zero, List.take_left' (by rw [Ar.enc_length _ (by omega), h4])]
/-- What was written is read as itself. -/
theorem pg_back {p : Pg} (h : p.may = true) (hw : p.wf) : decOkB (encPg p) ∧ pgOf (encPg p) = p := by
  obtain ⟨h1, h2, h3, h4, h5⟩ := fill_ok p.rows (may_weight h) _ (Nat.le_refl _)
  have e : pgOf (encPg p) = p := by
    unfold pgOf encPg sealed
    rw [body_enc h, parse_texts h1, h2, List.take_length]
    unfold bareB
    rw [List.append_assoc]
    obtain ⟨e1, e2, e3, e4, e5, e6⟩ := headB_parts hw ((fillAr p.rows p.rows.length).enc ++ le4 (crcOf (headB p ++ (fillAr p.rows p.rows.length).enc)))
    rw [e1, e2, e3, e4, e5]
  refine ⟨⟨encPg_length h, ?_, by rw [e]; exact h, by rw [e]⟩, e⟩
  unfold encPg sealed
  rw [body_enc h]
  exact (parse_of_enc h1).2.2
/-- Unlike pages have unlike bytes. -/
theorem encPg_inj {p q : Pg} (hp : p.may = true) (hq : q.may = true) (wp : p.wf) (wq : q.wf) : encPg p = encPg q ↔ p = q := by
  constructor
  · intro h
    rw [← (pg_back hp wp).2, h, (pg_back hq wq).2]
  · intro h; rw [h]
/-- A page's bytes bear their sum. -/
theorem dec_sealed {s : List UInt8} (h : decOkB s) : s = sealed (s.take 508) := by
  obtain ⟨h1, h2, h3, h4⟩ := h
  have e : s.take 508 = bareB (pgOf s) := by
    have := bareB_length h3
    conv => lhs; rw [← h4]
    unfold encPg sealed
    exact List.take_left' this
  rw [e]
  exact h4.symm
theorem dec_crc {s : List UInt8} (h : decOkB s) : crc (BitVec.allOnes 32) s = csteps 32 (BitVec.allOnes 32) := by
  conv => lhs; rw [dec_sealed h]
  exact sealed_run _
/-- What is turned within 32 bits in a row makes it no page. -/
theorem turned_no {s x : List UInt8} {t k : Nat} (hs : decOkB s) (hl : x.length = s.length) (ht : t < 2 ^ 32) (hk : k + 32 ≤ 8 * s.length) (hb : ∀ p, p < 8 * s.length → bitAt x p = (bitAt s p ^^ turned t k p)) : decOkB x ↔ t = 0 := by
  constructor
  · intro hx
    exact burst hl.symm ht hk hb (by rw [dec_crc hs, dec_crc hx])
  · rintro rfl
    have : x = s := by
      apply List.ext_getElem hl
      intro i h1 h2
      have hx : (x[i]).toNat = (s[i]).toNat := by
        apply Nat.eq_of_testBit_eq
        intro j
        by_cases hj : j < 8
        · have := hb (8 * i + j) (by omega)
          unfold bitAt turned at this
          rw [show (8 * i + j) / 8 = i by omega, show (8 * i + j) % 8 = j by omega] at this
          simpa [List.getD_eq_getElem?_getD, h1, h2] using this
        · have hp : 256 ≤ 2 ^ j := by
            have : 2 ^ 8 ≤ 2 ^ j := Nat.pow_le_pow_right (by omega) (by omega)
            simpa using this
          rw [Nat.testBit_lt_two_pow (Nat.lt_of_lt_of_le (x[i]).toNat_lt (by simpa using hp)), Nat.testBit_lt_two_pow (Nat.lt_of_lt_of_le (s[i]).toNat_lt (by simpa using hp))]
      exact UInt8.toNat_inj.1 hx
    rw [this]; exact hs
/-- The program's way to read: the sum, the head, the body, the rows, and whether it is written so. -/
theorem dec_steps {s : List UInt8} : decOkB s ↔ (4 ≤ s.length ∧ sealed (s.take (s.length - 4)) = s) ∧ s.length = 512 ∧ rdNum s 18 2 = 0 ∧ (parse (bodyB s)).Good ∧ (pgOf s).may = true ∧ encPg (pgOf s) = s := by
  constructor
  · intro h
    have hs := dec_sealed h
    have h0 := h
    obtain ⟨h1, h2, h3, h4⟩ := h
    refine ⟨⟨by omega, by rw [h1]; exact hs.symm⟩, h1, ?_, h2, h3, h4⟩
    have hwf : (pgOf s).wf := by
      have lt : ∀ i k, rdNum s i k < 256 ^ k := fun i k => by
        unfold rdNum
        split
        · exact un_lt k _ (by rw [List.length_take, List.length_drop]; omega)
        · exact Nat.pow_pos (by omega)
      exact ⟨lt 0 1, lt 1 1, lt 2 4, lt 6 8, lt 14 4⟩
    rw [← h4]
    unfold encPg sealed bareB
    rw [List.append_assoc]
    exact (headB_parts hwf _).2.2.2.2.2
  · intro h
    exact ⟨h.2.1, h.2.2.2.1, h.2.2.2.2.1, h.2.2.2.2.2⟩
/-- A sector: of the newer bytes, if it is kept; else of the elder ones. -/
def sect (old now : List UInt8) (keep : List Bool) (i : Nat) : List UInt8 := ((if keep.getD i false then now else old).drop (128 * i)).take 128
def tornL (old now : List UInt8) (keep : List Bool) : Nat → List UInt8
  | 0 => []
  | i + 1 => tornL old now keep i ++ sect old now keep i
def tornB (old now : List UInt8) (keep : List Bool) : List UInt8 × Int := if old.length = 512 ∧ now.length = 512 then (tornL old now keep 4, 0) else ([], 2)
theorem sect_length {old now : List UInt8} (keep : List Bool) (i : Nat) (ho : old.length = 512) (hn : now.length = 512) (hi : i < 4) : (sect old now keep i).length = 128 := by
  unfold sect
  cases keep.getD i false <;> simp [ho, hn] <;> omega
theorem tornL_length {old now : List UInt8} (keep : List Bool) (ho : old.length = 512) (hn : now.length = 512) : ∀ i, i ≤ 4 → (tornL old now keep i).length = 128 * i
  | 0, _ => rfl
  | i + 1, h => by rw [tornL, List.length_append, tornL_length keep ho hn i (by omega), sect_length keep i ho hn (by omega)]; omega
/-- Of bytes torn, each one: of the newer ones, if its sector is kept. -/
theorem tornL_get {old now : List UInt8} (keep : List Bool) (ho : old.length = 512) (hn : now.length = 512) : ∀ i, i ≤ 4 → ∀ j, j < 128 * i → (tornL old now keep i)[j]? = if keep.getD (j / 128) false then now[j]? else old[j]?
  | 0, _, j, h => absurd h (by omega)
  | i + 1, hi, j, hj => by
    rw [tornL]
    by_cases h : j < 128 * i
    · rw [List.getElem?_append_left (by rw [tornL_length keep ho hn i (by omega)]; exact h)]
      exact tornL_get keep ho hn i (by omega) j h
    · rw [List.getElem?_append_right (by rw [tornL_length keep ho hn i (by omega)]; omega), tornL_length keep ho hn i (by omega)]
      unfold sect
      rw [List.getElem?_take, if_pos (by omega), List.getElem?_drop, show 128 * i + (j - 128 * i) = j by omega, show j / 128 = i by omega]
      cases keep.getD i false <;> rfl
/-- Bytes changed one by one, as far as they are kept. -/
theorem torn_bytes {old now b : List UInt8} (keep : List Bool) (ho : old.length = 512) (hn : now.length = 512) (hb : b.length = 512) (h : ∀ j, j < 512 → b[j]? = if keep.getD (j / 128) false then now[j]? else old[j]?) : b = tornL old now keep 4 := by
  apply List.ext_getElem?
  intro j
  by_cases hj : j < 512
  · rw [h j hj, tornL_get keep ho hn 4 (by omega) j (by omega)]
  · rw [List.getElem?_eq_none (by omega), List.getElem?_eq_none (by rw [tornL_length keep ho hn 4 (by omega)]; omega)]
theorem torn_self {s : List UInt8} (keep : List Bool) (hs : s.length = 512) : tornL s s keep 4 = s :=
  (torn_bytes keep hs hs hs (fun j _ => by split <;> rfl)).symm
theorem torn_none {s t : List UInt8} (hs : s.length = 512) (ht : t.length = 512) : tornL s t [] 4 = s :=
  (torn_bytes [] hs ht hs (fun j _ => by simp)).symm
theorem torn_all {s t : List UInt8} (hs : s.length = 512) (ht : t.length = 512) : tornL s t [true, true, true, true] 4 = t :=
  (torn_bytes _ hs ht ht (fun j hj => by
    have h : j / 128 = 0 ∨ j / 128 = 1 ∨ j / 128 = 2 ∨ j / 128 = 3 := by omega
    rcases h with h | h | h | h <;> (rw [h]; rfl))).symm
/-- How long a row has room. -/
def roomB (rows : List (List UInt8)) : Int := if 480 - (weightB rows : Int) < -1 then -1 else 480 - (weightB rows : Int)
theorem may_room {p : Pg} (h : p.may = true) (k : Nat) (z : List UInt8) (hz : z.length = k) : (Pg.may ⟨p.kind, p.level, p.id, p.lsn, p.next, p.rows ++ [z]⟩ = true ↔ (k : Int) ≤ roomB p.rows) ∧ ((k : Int) ≤ roomB p.rows → roomB (p.rows ++ [z]) = if roomB p.rows - 4 - k < -1 then -1 else roomB p.rows - 4 - k) := by
  have hw := may_weight h
  have hwz : weightB (p.rows ++ [z]) = weightB p.rows + (4 + k) := by rw [weightB_append, weightB_cons, weightB_nil, hz]; omega
  unfold Pg.may at *
  rw [Bool.and_eq_true] at h
  unfold roomB
  rw [hwz]
  refine ⟨?_, fun hk => ?_⟩
  · rw [Bool.and_eq_true, decide_eq_true_eq]
    constructor
    · rintro ⟨_, h2⟩
      split <;> omega
    · intro h2
      refine ⟨h.1, ?_⟩
      split at h2 <;> omega
  · split at hk <;> (repeat' split) <;> omega

end Go.Proofs.Ytienlhnbmobinaa
