/- Kept of our texts for this claim: SegLaw SegCmp SegRef -/
import Derived.Test.YtienlhnbmobinaaRows
import Derived.Test.YtienlhnbmobinaaStayKAc
import Derived.Test.YtienlhnbmobinaaStayKAk
import Derived.Test.YtienlhnbmobinaaStayKAm
import Derived.Test.YtienlhnbmobinaaStayKAj
import Derived.Test.YtienlhnbmobinaaStayKAg
import Derived.Test.YtienlhnbmobinaaStayKAb
import Derived.Test.YtienlhnbmobinaaStayKAa
import Derived.WalkKit
import Derived.WalkLawsBesides
import Derived.WalkSpells
import Derived.LoopTactic
import Derived.WalkMore
import Derived.LoopN
import Derived.Laws.BitsAllLaws
import Derived.Laws.IdiomStrings
import Derived.BigQuiet
import Derived.Deep.QuietTactic
import Derived.Deep.DeepCutAuto
import Derived.Deep.RegionHeld3
import Derived.Deep.DrawnRows
import Derived.Lib.Hide
import Derived.Outline
import Derived.Deep.DeepMust
import Derived.Handy
import Derived.Test.YtienlhnbmobinaaStayKAf
import Derived.Test.YtienlhnbmobinaaStayKAd
import Derived.Deep.CutBlock
import Derived.Test.YtienlhnbmobinaaStayKAi
import Derived.Test.YtienlhnbmobinaaStayKAe
section
/- chapter 22: plain laws: what a head page is with an op done; what is found, the history; room -/
namespace Go.Proofs.Ytienlhnbmobinaa
open Go.RowKit
set_option linter.unusedVariables false
set_option linter.unusedSimpArgs false
theorem sg_enc_of {l : List UInt8} (h : l.length = 31) : (sgOf l).enc = l := by
  have hb : ∀ i k, i + k ≤ 31 → be k (rdNum l i k) = (l.drop i).take k := by
    intro i k hik
    unfold rdNum
    rw [if_pos (by omega), be_un k _ (by rw [List.length_take, List.length_drop]; omega)]
  unfold sgOf Sg.enc
  simp only
  rw [hb 0 8 (by omega), hb 8 1 (by omega), hb 9 8 (by omega), hb 17 4 (by omega), hb 21 4 (by omega), hb 25 4 (by omega), hb 29 2 (by omega)]
  have hs : ∀ i k (r : List UInt8), r = l.drop (i + k) → (l.drop i).take k ++ r = l.drop i := by
    intro i k r hr
    rw [hr, ← List.drop_drop, List.take_append_drop]
  rw [hs 25 4 _ (by rw [List.take_of_length_le (by rw [List.length_drop]; omega)])]
  rw [hs 21 4 _ rfl, hs 17 4 _ rfl, hs 9 8 _ rfl, hs 8 1 _ rfl, hs 0 8 _ rfl]
  rfl
theorem seg_rows {rows : List (List UInt8)} {last : Nat} {L : List Sg} (h : segGo last rows = some L) : rows = L.map Sg.enc := by
  obtain ⟨_, _, _, h4, h5⟩ := segGo_all h
  rw [← h5, List.map_map]
  conv => lhs; rw [← List.map_id rows]
  apply List.map_congr_left
  intro r hr
  exact (sg_enc_of (h4 r hr)).symm
theorem weight_enc (L : List Sg) : weightB (L.map Sg.enc) = 35 * L.length := by
  induction L with
  | nil => rfl
  | cons a L ih => rw [List.map_cons, weightB_cons, ih, sg_len, List.length_cons]; omega
theorem putRows_map (L : List Sg) (i : Nat) (s : Sg) (b : Bool) : putRows (L.map Sg.enc) i s.enc b = (L.take i ++ s :: L.drop (if b then i + 1 else i)).map Sg.enc := by
  unfold putRows
  rw [List.map_append, List.map_cons, List.map_take, List.map_drop]
/-- A head page of just these rows. -/
def SegP (p : Pg) (L : List Sg) : Prop := p.wf ∧ p.kind = 5 ∧ headOk p.kind p.id p.next = true ∧ p.rows = L.map Sg.enc ∧ (∀ s ∈ L, s.may = true ∧ s.wf) ∧ L.Pairwise (fun a b => a.tx < b.tx) ∧ L.length ≤ 13
theorem SegP.may {p : Pg} {L : List Sg} (h : SegP p L) : p.may = true := by
  obtain ⟨_, _, h3, h4, _, _, h7⟩ := h
  unfold Pg.may
  rw [h3, h4, weight_enc, Bool.true_and]
  exact decide_eq_true (by omega)
theorem SegP.of {p : Pg} {L : List Sg} (hw : p.wf) (h : segsB p = some L) : SegP p L := by
  unfold segsB at h
  split at h
  · next h0 =>
    obtain ⟨h1, h2, h3, h4, h5⟩ := segGo_all h
    have hr := seg_rows h
    have hm := h0.2
    unfold Pg.may at hm
    rw [Bool.and_eq_true_iff, hr, weight_enc, decide_eq_true_eq] at hm
    exact ⟨hw, h0.1, hm.1, hr, fun s hs => ⟨(h2 s hs).1, (h2 s hs).2.1⟩, h3, by omega⟩
  · cases h
theorem SegP.to {p : Pg} {L : List Sg} (h : SegP p L) : segsB p = some L := by
  have hm := h.may
  obtain ⟨_, h2, _, h4, h5, h6, _⟩ := h
  unfold segsB
  rw [if_pos ⟨h2, hm⟩, h4]
  exact segGo_enc h5 (fun s hs => sg_tx (h5 s hs).1) h6
theorem SegP.room {p : Pg} {L : List Sg} (h : SegP p L) : roomB p.rows < 31 ↔ L.length = 13 := by
  obtain ⟨_, _, _, h4, _, _, h7⟩ := h
  unfold roomB
  rw [h4, weight_enc]
  split <;> omega
theorem seg_take {L : List Sg} {tx : Nat} : ∀ s ∈ L.take (segAt L tx), s.tx < tx := by
  intro s hs
  obtain ⟨i, hi, rfl⟩ := List.mem_take_iff_getElem.1 hs
  exact segAt_ahead (by omega) (by omega)
theorem seg_drop_gt {L : List Sg} {tx : Nat} (hp : L.Pairwise (fun a b => a.tx < b.tx)) : ∀ s ∈ L.drop (segAt L tx + 1), tx < s.tx := by
  intro s hs
  have hlt : segAt L tx < L.length := by
    apply Nat.lt_of_not_le
    intro hle
    rw [List.drop_of_length_le (by omega)] at hs
    cases hs
  have h0 := segAt_here hlt
  have hq : (L.drop (segAt L tx)).Pairwise (fun a b => a.tx < b.tx) := hp.sublist (List.drop_sublist _ _)
  rw [List.drop_eq_getElem_cons hlt] at hq
  have := (List.pairwise_cons.1 hq).1 s hs
  omega
theorem seg_drop_no {L : List Sg} {tx : Nat} (hp : L.Pairwise (fun a b => a.tx < b.tx)) (hn : segIs L tx = false) : ∀ s ∈ L.drop (segAt L tx), tx < s.tx := by
  intro s hs
  have hlt : segAt L tx < L.length := by
    apply Nat.lt_of_not_le
    intro hle
    rw [List.drop_of_length_le hle] at hs
    cases hs
  rw [segIs_eq hlt] at hn
  have h0 := segAt_here hlt
  have hne := of_decide_eq_false hn
  rw [List.drop_eq_getElem_cons hlt] at hs
  rcases List.mem_cons.1 hs with rfl | hs
  · omega
  · exact seg_drop_gt hp s hs
theorem seg_mid {A B : List Sg} {s : Sg} {L : List Sg} (hp : L.Pairwise (fun a b => a.tx < b.tx)) (hA : List.Sublist A L) (hB : List.Sublist B L) (h1 : ∀ a ∈ A, a.tx < s.tx) (h2 : ∀ b ∈ B, s.tx < b.tx) : (A ++ s :: B).Pairwise (fun a b => a.tx < b.tx) := by
  rw [List.pairwise_append]
  refine ⟨hp.sublist hA, List.pairwise_cons.2 ⟨h2, hp.sublist hB⟩, ?_⟩
  intro a ha b hb
  rcases List.mem_cons.1 hb with rfl | hb
  · exact h1 a ha
  · have := h1 a ha
    have := h2 b hb
    omega
/-- The rows with one put, or set. -/
def segWith (L : List Sg) (s : Sg) : List Sg := L.take (segAt L s.tx) ++ s :: L.drop (if segIs L s.tx then segAt L s.tx + 1 else segAt L s.tx)
def segLess (L : List Sg) (tx : Nat) : List Sg := L.take (segAt L tx) ++ L.drop (segAt L tx + 1)
theorem segWith_mem {L : List Sg} {s x : Sg} (hp : L.Pairwise (fun a b => a.tx < b.tx)) : x ∈ segWith L s ↔ x = s ∨ (x ∈ L ∧ x.tx ≠ s.tx) := by
  unfold segWith
  rw [List.mem_append, List.mem_cons]
  cases hb : segIs L s.tx with
  | true =>
    have hlt := segIs_lt hb
    rw [if_pos rfl]
    have hx := hb
    rw [segIs_eq hlt, decide_eq_true_eq] at hx
    constructor
    · rintro (h | rfl | h)
      · exact .inr ⟨List.mem_of_mem_take h, by have := seg_take x h; omega⟩
      · exact .inl rfl
      · exact .inr ⟨List.mem_of_mem_drop h, by have := seg_drop_gt hp x h; omega⟩
    · rintro (rfl | ⟨h, hne⟩)
      · exact .inr (.inl rfl)
      · rw [← List.take_append_drop (segAt L s.tx) L, List.drop_eq_getElem_cons hlt, List.mem_append, List.mem_cons] at h
        rcases h with h | rfl | h
        · exact .inl h
        · exact absurd hx hne
        · exact .inr (.inr h)
  | false =>
    rw [if_neg (by simp)]
    constructor
    · rintro (h | rfl | h)
      · exact .inr ⟨List.mem_of_mem_take h, by have := seg_take x h; omega⟩
      · exact .inl rfl
      · exact .inr ⟨List.mem_of_mem_drop h, by have := seg_drop_no hp hb x h; omega⟩
    · rintro (rfl | ⟨h, hne⟩)
      · exact .inr (.inl rfl)
      · rw [← List.take_append_drop (segAt L s.tx) L, List.mem_append] at h
        rcases h with h | h
        · exact .inl h
        · exact .inr (.inr h)
theorem segWith_pair {L : List Sg} {s : Sg} (hp : L.Pairwise (fun a b => a.tx < b.tx)) : (segWith L s).Pairwise (fun a b => a.tx < b.tx) := by
  unfold segWith
  refine seg_mid hp (List.take_sublist _ _) (List.drop_sublist _ _) (fun a ha => seg_take a ha) ?_
  cases hb : segIs L s.tx with
  | true => exact fun b hbm => seg_drop_gt hp b hbm
  | false => exact fun b hbm => seg_drop_no hp hb b hbm
theorem segWith_len {L : List Sg} {s : Sg} : (segWith L s).length = if segIs L s.tx then L.length else L.length + 1 := by
  unfold segWith
  have := segAt_le L s.tx
  cases hb : segIs L s.tx with
  | true =>
    have hlt := segIs_lt hb
    simp
    omega
  | false => simp; omega
theorem segLess_mem {L : List Sg} {tx : Nat} {x : Sg} (hp : L.Pairwise (fun a b => a.tx < b.tx)) (hb : segIs L tx = true) : x ∈ segLess L tx ↔ x ∈ L ∧ x.tx ≠ tx := by
  unfold segLess
  have hlt := segIs_lt hb
  have hx := hb
  rw [segIs_eq hlt, decide_eq_true_eq] at hx
  rw [List.mem_append]
  constructor
  · rintro (h | h)
    · exact ⟨List.mem_of_mem_take h, by have := seg_take x h; omega⟩
    · exact ⟨List.mem_of_mem_drop h, by have := seg_drop_gt hp x h; omega⟩
  · rintro ⟨h, hne⟩
    rw [← List.take_append_drop (segAt L tx) L, List.drop_eq_getElem_cons hlt, List.mem_append, List.mem_cons] at h
    rcases h with h | rfl | h
    · exact .inl h
    · exact absurd hx hne
    · exact .inr h
theorem segLess_sub (L : List Sg) (tx : Nat) : List.Sublist (segLess L tx) L := by
  unfold segLess
  conv => rhs; rw [← List.take_append_drop (segAt L tx) L]
  exact List.Sublist.append (List.Sublist.refl _) (List.drop_sublist_drop_left L (Nat.le_succ _))
theorem segLess_len {L : List Sg} {tx : Nat} (hb : segIs L tx = true) : (segLess L tx).length + 1 = L.length := by
  have hlt := segIs_lt hb
  unfold segLess
  simp
  omega
theorem seg_is_mem {L : List Sg} (hp : L.Pairwise (fun a b => a.tx < b.tx)) {s : Sg} (hs : s ∈ L) : segIs L s.tx = true ∧ L.getD (segAt L s.tx) Sg.zero = s := by
  have hlt : segAt L s.tx < L.length := by
    apply Nat.lt_of_not_le
    intro hle
    have := seg_take (L := L) (tx := s.tx) s (by rw [List.take_of_length_le hle]; exact hs)
    omega
  have hm := hs
  rw [← List.take_append_drop (segAt L s.tx) L, List.drop_eq_getElem_cons hlt, List.mem_append, List.mem_cons] at hm
  have hge : L[segAt L s.tx] = s := by
    rcases hm with h | h | h
    · have := seg_take s h
      omega
    · exact h.symm
    · have := seg_drop_gt hp s h
      omega
  refine ⟨?_, ?_⟩
  · rw [segIs_eq hlt, hge]
    exact decide_eq_true rfl
  · rw [List.getD_eq_getElem?_getD, List.getElem?_eq_getElem hlt, hge]
    rfl
theorem seg_is_no {L : List Sg} {tx : Nat} (h : ∀ s ∈ L, s.tx ≠ tx) : segIs L tx = false := by
  by_cases hlt : segAt L tx < L.length
  · rw [segIs_eq hlt]
    exact decide_eq_false (h _ (List.getElem_mem hlt))
  · exact segIs_end hlt
theorem seg_is_yes {L : List Sg} {tx : Nat} (h : segIs L tx = true) : ∃ s ∈ L, s.tx = tx ∧ L.getD (segAt L tx) Sg.zero = s := by
  have hlt := segIs_lt h
  rw [segIs_eq hlt, decide_eq_true_eq] at h
  refine ⟨_, List.getElem_mem hlt, h, ?_⟩
  rw [List.getD_eq_getElem?_getD, List.getElem?_eq_getElem hlt]
  rfl
theorem od_may_seg {p : Pg} {L : List Sg} (h : SegP p L) {k : Nat} (hk : k = 2 ∨ k = 3) {i : Nat} (hi : i ≤ 13) {t : List UInt8} (ht : t.length = 31) : Od.may ⟨k, p.id, (i : Nat), 0, t, [], 0, 0, 0⟩ = true := by
  have hh := headOk_iff.1 h.2.2.1
  unfold Od.may
  rw [Bool.and_eq_true_iff, Bool.and_eq_true_iff, Bool.and_eq_true_iff]
  refine ⟨decide_eq_true ?_, decide_eq_true ?_, decide_eq_true ?_, decide_eq_true ?_⟩
  · refine ⟨?_, ?_, ?_, ?_, ?_, ?_⟩ <;> simp only <;> omega
  · refine ⟨?_, ?_, ?_, ?_, ?_⟩ <;> simp <;> omega
  · simp only [lensB_nil]; omega
  · rcases hk with rfl | rfl <;> rfl
theorem od_may_drop {p : Pg} {L : List Sg} (h : SegP p L) {i : Nat} (hi : i ≤ 13) : Od.may ⟨4, p.id, (i : Nat), 0, [], [], 0, 0, 0⟩ = true := by
  have hh := headOk_iff.1 h.2.2.1
  unfold Od.may
  rw [Bool.and_eq_true_iff, Bool.and_eq_true_iff, Bool.and_eq_true_iff]
  refine ⟨decide_eq_true ?_, decide_eq_true ?_, decide_eq_true ?_, decide_eq_true ?_⟩
  · refine ⟨?_, ?_, ?_, ?_, ?_, ?_⟩ <;> simp only <;> omega
  · refine ⟨?_, ?_, ?_, ?_, ?_⟩ <;> simp <;> omega
  · simp [lensB_nil]
  · rfl
theorem segP_next {p : Pg} {L L' : List Sg} (h : SegP p L) {lsn : Nat} (hl : lsn < 256 ^ 8) (h1 : ∀ s ∈ L', s.may = true ∧ s.wf) (h2 : L'.Pairwise (fun a b => a.tx < b.tx)) (h3 : L'.length ≤ 13) : SegP ⟨p.kind, p.level, p.id, lsn, p.next, L'.map Sg.enc⟩ L' := by
  obtain ⟨⟨a, b, c, d, e⟩, hk, hh, _⟩ := h
  exact ⟨⟨a, b, c, hl, e⟩, hk, hh, rfl, h1, h2, h3⟩
theorem apply_seg {p : Pg} {L L' : List Sg} {o : Od} {lsn : Nat} (h : SegP p L) (hl : lsn < 256 ^ 8) (ho : o.may = true) (hpg : o.page = p.id) (hd : doB p o = (p.with (L'.map Sg.enc), 0)) (h1 : ∀ s ∈ L', s.may = true ∧ s.wf) (h2 : L'.Pairwise (fun a b => a.tx < b.tx)) (h3 : L'.length ≤ 13) :
    applyB p o lsn = (⟨p.kind, p.level, p.id, lsn, p.next, L'.map Sg.enc⟩, 0) ∧ SegP ⟨p.kind, p.level, p.id, lsn, p.next, L'.map Sg.enc⟩ L' := by
  have hq := segP_next h hl h1 h2 h3
  refine ⟨?_, hq⟩
  unfold applyB doOk
  rw [ho, h.may, hpg, hd, if_pos (by simp), if_pos rfl, if_pos (by exact hq.may)]
  rfl
theorem apply_put {p : Pg} {L : List Sg} {s : Sg} {lsn : Nat} (h : SegP p L) (hl : lsn < 256 ^ 8) (hm : s.may = true) (hw : s.wf) (hn : segIs L s.tx = false) (hr : L.length < 13) :
    applyB p ⟨2, p.id, (segAt L s.tx : Nat), 0, s.enc, [], 0, 0, 0⟩ lsn = (⟨p.kind, p.level, p.id, lsn, p.next, (segWith L s).map Sg.enc⟩, 0) ∧ SegP ⟨p.kind, p.level, p.id, lsn, p.next, (segWith L s).map Sg.enc⟩ (segWith L s) := by
  have hp := h.2.2.2.2.2.1
  have hle := segAt_le L s.tx
  refine apply_seg h hl (od_may_seg h (.inl rfl) (by omega) (sg_len s)) rfl ?_ ?_ (segWith_pair hp) (by rw [segWith_len, hn]; simp; omega)
  · unfold doB
    simp only [Int.toNat_natCast]
    rw [h.2.2.2.1, List.length_map, if_pos hle, putRows_map]
    unfold segWith
    rw [hn]
  · intro x hx
    rcases (segWith_mem hp).1 hx with rfl | ⟨hx, _⟩
    · exact ⟨hm, hw⟩
    · exact h.2.2.2.2.1 x hx
theorem apply_set {p : Pg} {L : List Sg} {s : Sg} {lsn : Nat} (h : SegP p L) (hl : lsn < 256 ^ 8) (hm : s.may = true) (hw : s.wf) (hn : segIs L s.tx = true) :
    applyB p ⟨3, p.id, (segAt L s.tx : Nat), 0, s.enc, [], 0, 0, 0⟩ lsn = (⟨p.kind, p.level, p.id, lsn, p.next, (segWith L s).map Sg.enc⟩, 0) ∧ SegP ⟨p.kind, p.level, p.id, lsn, p.next, (segWith L s).map Sg.enc⟩ (segWith L s) := by
  have hp := h.2.2.2.2.2.1
  have hlt := segIs_lt hn
  have h13 := h.2.2.2.2.2.2
  refine apply_seg h hl (od_may_seg h (.inr rfl) (by omega) (sg_len s)) rfl ?_ ?_ (segWith_pair hp) (by rw [segWith_len, hn]; simp; omega)
  · unfold doB
    simp only [Int.toNat_natCast]
    rw [h.2.2.2.1, List.length_map, if_pos hlt, putRows_map]
    unfold segWith
    rw [hn]
  · intro x hx
    rcases (segWith_mem hp).1 hx with rfl | ⟨hx, _⟩
    · exact ⟨hm, hw⟩
    · exact h.2.2.2.2.1 x hx
theorem apply_drop {p : Pg} {L : List Sg} {tx : Nat} {lsn : Nat} (h : SegP p L) (hl : lsn < 256 ^ 8) (hn : segIs L tx = true) :
    applyB p ⟨4, p.id, (segAt L tx : Nat), 0, [], [], 0, 0, 0⟩ lsn = (⟨p.kind, p.level, p.id, lsn, p.next, (segLess L tx).map Sg.enc⟩, 0) ∧ SegP ⟨p.kind, p.level, p.id, lsn, p.next, (segLess L tx).map Sg.enc⟩ (segLess L tx) := by
  have hp := h.2.2.2.2.2.1
  have hlt := segIs_lt hn
  have h13 := h.2.2.2.2.2.2
  have hlen := segLess_len hn
  refine apply_seg h hl (od_may_drop h (by omega)) rfl ?_ ?_ (hp.sublist (segLess_sub L tx)) (by omega)
  · unfold doB
    simp only [Int.toNat_natCast]
    rw [h.2.2.2.1, List.length_map, if_pos hlt]
    unfold segLess
    rw [List.map_append, List.map_take, List.map_drop]
  · intro x hx
    exact h.2.2.2.2.1 x ((segLess_mem hp hn).1 hx).1
theorem rise_len_le : ∀ {l : List Nat} {a b : Nat}, l.Pairwise (· < ·) → (∀ x ∈ l, a < x ∧ x ≤ b) → l.length ≤ b - a
  | [], _, _, _, _ => Nat.zero_le _
  | x :: l, a, b, hp, h => by
    have h1 := h x (by simp)
    have h2 := rise_len_le (a := x) (b := b) (List.pairwise_cons.1 hp).2 (fun y hy => ⟨(List.pairwise_cons.1 hp).1 y hy, (h y (List.mem_cons_of_mem _ hy)).2⟩)
    rw [List.length_cons]
    omega
theorem seg_len_le {L : List Sg} {n : Nat} (hp : L.Pairwise (fun a b => a.tx < b.tx)) (h : ∀ s ∈ L, 1 ≤ s.tx ∧ s.tx ≤ n) : L.length ≤ n := by
  have h2 := rise_len_le (l := L.map Sg.tx) (a := 0) (b := n) (List.pairwise_map.2 hp) (fun x hx => by
    obtain ⟨s, hs, rfl⟩ := List.mem_map.1 hx
    exact h s hs)
  rw [List.length_map] at h2
  omega
theorem od_wf {k pg i : Nat} {t : List UInt8} (hp : pg < 256 ^ 4) (hk : k < 256) (hi : i ≤ 13) : Od.wf ⟨k, pg, (i : Nat), 0, t, [], 0, 0, 0⟩ := by
  refine ⟨hk, hp, ⟨?_, ?_⟩, ⟨?_, ?_⟩, ?_, ?_, ?_⟩ <;> simp only <;> omega
theorem od_small {k pg i : Nat} {t : List UInt8} (h : t.length ≤ 65535) : Od.small ⟨k, pg, (i : Nat), 0, t, [], 0, 0, 0⟩ := ⟨h, by simp, fun r hr => by cases hr⟩
def upd (f : Nat → Nat) (k v : Nat) : Nat → Nat := fun j => if j = k then v else f j
theorem upd_same (f : Nat → Nat) (k v : Nat) : upd f k v k = v := if_pos rfl
theorem upd_other {f : Nat → Nat} {k v j : Nat} (h : j ≠ k) : upd f k v j = f j := if_neg h
/-- Which rows there are, beside what was done. -/
def StI (L : List Sg) (st nm : Nat → Nat) : Prop := (∀ s ∈ L, 1 ≤ s.tx ∧ s.tx ≤ 13 ∧ s.st = st s.tx ∧ (s.st = 2 → s.num = nm s.tx)) ∧ (∀ k, 1 ≤ k → k ≤ 13 → st k ≠ 0 → ∃ s ∈ L, s.tx = k) ∧ ∀ k, st k ≤ 2
/-- The commits, beside their numbers. -/
def CmI (cs cn : List Nat) (st nm : Nat → Nat) (m : Nat) : Prop := cs.length = cn.length ∧ cn.Pairwise (· < ·) ∧ (∀ x ∈ cn, x ≤ m) ∧ (∀ x ∈ cs, 1 ≤ x ∧ x ≤ 13) ∧
  ∀ k, st k = 2 → ∃ j, ∃ h : j < cs.length, ∃ h2 : j < cn.length, cs[j] = k ∧ cn[j] = nm k ∧ ∀ i (hi : i < cs.length), j < i → cs[i] ≠ k
theorem st_start : StI [] (fun _ => 0) (fun _ => 0) := ⟨fun s hs => (by cases hs), fun k _ _ h => absurd rfl h, fun _ => Nat.zero_le _⟩
theorem cm_start : CmI [] [] (fun _ => 0) (fun _ => 0) 0 := ⟨rfl, List.Pairwise.nil, fun x hx => (by cases hx), fun x hx => (by cases hx), fun k h => by cases h⟩
theorem CmI.up {cs cn : List Nat} {st nm : Nat → Nat} {m n : Nat} (h : CmI cs cn st nm m) (hn : m ≤ n) : CmI cs cn st nm n := by
  obtain ⟨a, b, c, d, e⟩ := h
  exact ⟨a, b, fun x hx => Nat.le_trans (c x hx) hn, d, e⟩
theorem CmI.off {cs cn : List Nat} {st nm : Nat → Nat} {m k v : Nat} (h : CmI cs cn st nm m) (hv : v ≠ 2) : CmI cs cn (upd st k v) nm m := by
  obtain ⟨a, b, c, d, e⟩ := h
  refine ⟨a, b, c, d, fun j hj => e j ?_⟩
  unfold upd at hj
  split at hj
  · exact absurd hj hv
  · exact hj
theorem CmI.more {cs cn : List Nat} {st nm : Nat → Nat} {m k : Nat} (h : CmI cs cn st nm m) (hk1 : 1 ≤ k) (hk2 : k ≤ 13) : CmI (cs ++ [k]) (cn ++ [m + 1]) (upd st k 2) (upd nm k (m + 1)) (m + 1) := by
  obtain ⟨a, b, c, d, e⟩ := h
  refine ⟨by simp [a], ?_, ?_, ?_, ?_⟩
  · rw [List.pairwise_append]
    refine ⟨b, List.pairwise_singleton _ _, fun x hx y hy => ?_⟩
    have := c x hx
    rw [List.mem_singleton.1 hy]
    omega
  · intro x hx
    rcases List.mem_append.1 hx with hx | hx
    · have := c x hx; omega
    · rw [List.mem_singleton.1 hx]; omega
  · intro x hx
    rcases List.mem_append.1 hx with hx | hx
    · exact d x hx
    · rw [List.mem_singleton.1 hx]; omega
  · intro j hj
    by_cases hjk : j = k
    · subst hjk
      refine ⟨cs.length, by simp, by simp [a], by simp, ?_, ?_⟩
      · rw [upd_same, List.getElem_append_right (by omega)]
        simp [a]
      · intro i hi hlt
        simp at hi
        omega
    · rw [upd_other hjk] at hj
      obtain ⟨i, h1, h2, h3, h4, h5⟩ := e j hj
      refine ⟨i, by simp; omega, by simp; omega, ?_, ?_, ?_⟩
      · rw [List.getElem_append_left h1]; exact h3
      · rw [List.getElem_append_left h2, upd_other hjk]; exact h4
      · intro q hq hlt
        by_cases hql : q < cs.length
        · rw [List.getElem_append_left hql]
          exact h5 q hql hlt
        · rw [List.getElem_append_right (by omega)]
          simp
          exact fun h => hjk h.symm
theorem may_st {s : Sg} (h : s.may = true) : s.st = 1 ∨ s.st = 2 := by
  unfold Sg.may at h
  rw [Bool.and_eq_true_iff, Bool.or_eq_true, decide_eq_true_eq, decide_eq_true_eq] at h
  rcases h.1 with h | h
  · exact .inl h.1
  · exact .inr h.1
theorem st_is {p : Pg} {L : List Sg} {st nm : Nat → Nat} (hP : SegP p L) (h : StI L st nm) {k : Nat} (h1 : 1 ≤ k) (h2 : k ≤ 13) : segIs L k = decide (st k ≠ 0) := by
  obtain ⟨a, b, _⟩ := h
  by_cases hk : st k = 0
  · rw [decide_eq_false (by simp [hk])]
    apply seg_is_no
    intro s hs hst
    have h3 := (a s hs).2.2.1
    rw [hst, hk] at h3
    have := may_st (hP.2.2.2.2.1 s hs).1
    omega
  · rw [decide_eq_true hk]
    obtain ⟨s, hs, rfl⟩ := b k h1 h2 hk
    exact (seg_is_mem hP.2.2.2.2.2.1 hs).1
/-- What Find answers. -/
theorem st_find {p : Pg} {L : List Sg} {st nm : Nat → Nat} (hP : SegP p L) (h : StI L st nm) {k : Nat} (h1 : 1 ≤ k) (h2 : k ≤ 13) : ∃ x : Sg, sFindB p k = (x, decide (st k ≠ 0)) ∧ (st k ≠ 0 → x.st = st k ∧ (st k = 2 → x.num = nm k)) := by
  have his := st_is hP h h1 h2
  unfold sFindB
  rw [hP.to]
  simp only
  cases hb : segIs L k with
  | false =>
    rw [hb] at his
    refine ⟨Sg.zero, ?_, fun hk => ?_⟩
    · rw [← his]; rfl
    · rw [decide_eq_true hk] at his; cases his
  | true =>
    obtain ⟨s, hs, hst, hg⟩ := seg_is_yes hb
    refine ⟨s, ?_, fun hk => ?_⟩
    · rw [← his, hb, hg]; rfl
    · have := h.1 s hs
      subst hst
      refine ⟨this.2.2.1, fun h2 => ?_⟩
      exact this.2.2.2 (by rw [this.2.2.1]; exact h2)
theorem st_next {p : Pg} {L : List Sg} {st nm : Nat → Nat} (hP : SegP p L) (h : StI L st nm) {s : Sg} {nm' : Nat → Nat} (h1 : 1 ≤ s.tx) (h2 : s.tx ≤ 13) (hs : s.st ≤ 2) (hs2 : s.st = 2 → s.num = nm' s.tx) (hnm : ∀ j, j ≠ s.tx → nm' j = nm j) : StI (segWith L s) (upd st s.tx s.st) nm' := by
  have hp := hP.2.2.2.2.2.1
  obtain ⟨a, b, c⟩ := h
  refine ⟨?_, ?_, ?_⟩
  · intro x hx
    rcases (segWith_mem hp).1 hx with rfl | ⟨hx, hne⟩
    · exact ⟨h1, h2, (upd_same _ _ _).symm, hs2⟩
    · obtain ⟨q1, q2, q3, q4⟩ := a x hx
      refine ⟨q1, q2, by rw [upd_other hne]; exact q3, fun hq => ?_⟩
      rw [hnm _ hne]
      exact q4 hq
  · intro k hk1 hk2 hk
    by_cases hks : k = s.tx
    · exact ⟨s, (segWith_mem hp).2 (.inl rfl), hks.symm⟩
    · rw [upd_other hks] at hk
      obtain ⟨x, hx, hxk⟩ := b k hk1 hk2 hk
      exact ⟨x, (segWith_mem hp).2 (.inr ⟨hx, by omega⟩), hxk⟩
  · intro k
    unfold upd
    split
    · exact hs
    · exact c k
theorem st_less {p : Pg} {L : List Sg} {st nm : Nat → Nat} (hP : SegP p L) (h : StI L st nm) {k : Nat} (hb : segIs L k = true) : StI (segLess L k) (upd st k 0) nm := by
  have hp := hP.2.2.2.2.2.1
  obtain ⟨a, b, c⟩ := h
  refine ⟨?_, ?_, ?_⟩
  · intro x hx
    obtain ⟨hx, hne⟩ := (segLess_mem hp hb).1 hx
    obtain ⟨q1, q2, q3, q4⟩ := a x hx
    exact ⟨q1, q2, by rw [upd_other hne]; exact q3, q4⟩
  · intro j hj1 hj2 hj
    by_cases hjk : j = k
    · subst hjk
      rw [upd_same] at hj
      exact absurd rfl hj
    · rw [upd_other hjk] at hj
      obtain ⟨x, hx, hxk⟩ := b j hj1 hj2 hj
      exact ⟨x, (segLess_mem hp hb).2 ⟨hx, by omega⟩, hxk⟩
  · intro j
    unfold upd
    split
    · exact Nat.zero_le _
    · exact c j
/-- A transaction that is not committed is put. -/
theorem st_put {p : Pg} {L : List Sg} {st nm : Nat → Nat} {cs cn : List Nat} {m : Nat} (hP : SegP p L) (h : StI L st nm) (hC : CmI cs cn st nm m) {s : Sg} (h1 : 1 ≤ s.tx) (h2 : s.tx ≤ 13) (hm : s.may = true) (hw : s.wf) (hs : s.st = 1) (h0 : st s.tx ≠ 2) {lsn : Nat} (hl : lsn < 256 ^ 8) :
    ∃ o q L', sPutB p s = (o, 0) ∧ o.wf ∧ o.small ∧ o.rows = [] ∧ applyB p o lsn = (q, 0) ∧ SegP q L' ∧ StI L' (upd st s.tx 1) nm ∧ CmI cs cn (upd st s.tx 1) nm m := by
  have hin : ∀ x ∈ segWith L s, 1 ≤ x.tx ∧ x.tx ≤ 13 := fun x hx => by
    rcases (segWith_mem hP.2.2.2.2.2.1).1 hx with rfl | ⟨hx, _⟩
    · exact ⟨h1, h2⟩
    · exact ⟨(h.1 x hx).1, (h.1 x hx).2.1⟩
  have hlen := seg_len_le (segWith_pair hP.2.2.2.2.2.1) hin
  have hat := segAt_le L s.tx
  have h13 := hP.2.2.2.2.2.2
  have hid := hP.1.2.2.1
  have hSt := st_next hP h (s := s) (nm' := nm) h1 h2 (by omega) (fun e => by omega) (fun _ _ => rfl)
  rw [hs] at hSt
  have hCm := hC.off (k := s.tx) (v := 1) (by decide)
  unfold sPutB sPutO
  rw [hP.to]
  simp only
  rw [if_pos hm]
  cases hb : segIs L s.tx with
  | true =>
    obtain ⟨e1, e2⟩ := apply_set hP hl hm hw hb
    refine ⟨_, _, _, rfl, ?_, ?_, rfl, e1, e2, hSt, hCm⟩
    · exact od_wf hid (by decide) (by omega)
    · exact od_small (by rw [sg_len]; decide)
  | false =>
    rw [segWith_len, hb] at hlen
    have hlt : L.length < 13 := by simp at hlen; omega
    have hr : ¬ roomB p.rows < 31 := fun hr => by have := hP.room.1 hr; omega
    obtain ⟨e1, e2⟩ := apply_put hP hl hm hw hb hlt
    rw [if_neg (by simp), if_neg hr]
    refine ⟨_, _, _, rfl, ?_, ?_, rfl, e1, e2, hSt, hCm⟩
    · exact od_wf hid (by decide) (by omega)
    · exact od_small (by rw [sg_len]; decide)
/-- Who is active is committed; none else is. -/
theorem st_commit {p : Pg} {L : List Sg} {st nm : Nat → Nat} {cs cn : List Nat} {m : Nat} (hP : SegP p L) (h : StI L st nm) (hC : CmI cs cn st nm m) {k : Nat} (h1 : 1 ≤ k) (h2 : k ≤ 13) (hm8 : m + 1 < 256 ^ 8) {lsn : Nat} (hl : lsn < 256 ^ 8) :
    (st k = 1 → ∃ o q L', sCommitB p k (m + 1) = (o, 0) ∧ o.wf ∧ o.small ∧ o.rows = [] ∧ applyB p o lsn = (q, 0) ∧ SegP q L' ∧ StI L' (upd st k 2) (upd nm k (m + 1)) ∧ CmI (cs ++ [k]) (cn ++ [m + 1]) (upd st k 2) (upd nm k (m + 1)) (m + 1)) ∧
    (st k ≠ 1 → ∃ e : Int, sCommitB p k (m + 1) = (Od.zero, e) ∧ (e == 0) = false ∧ (e != 0) = true) := by
  have his := st_is hP h h1 h2
  have hat := segAt_le L k
  have h13 := hP.2.2.2.2.2.2
  have hid := hP.1.2.2.1
  unfold sCommitB
  rw [hP.to]
  simp only
  constructor
  · intro hk
    rw [hk] at his
    simp at his
    obtain ⟨s, hs, hst, hg⟩ := seg_is_yes his
    have hsl := h.1 s hs
    have hmw := hP.2.2.2.2.1 s hs
    rw [his, hg]
    have hs1 : s.st = 1 := by rw [hsl.2.2.1, hst]; exact hk
    subst hst
    have hdw : (s.done (m + 1)).wf := by
      obtain ⟨a, b, c, d, e, f, g⟩ := hmw.2
      exact ⟨a, (show 2 < 256 by decide), hm8, d, e, f, g⟩
    obtain ⟨e1, e2⟩ := apply_set (s := s.done (m + 1)) hP hl (sg_done hmw.1 (by omega)) hdw his
    have hSt := st_next hP h (s := s.done (m + 1)) (nm' := upd nm s.tx (m + 1)) h1 h2 (show 2 ≤ 2 by omega) (fun _ => (upd_same nm s.tx (m + 1)).symm) (fun j hj => upd_other hj)
    rw [if_pos rfl, if_neg (by omega), if_neg (by omega)]
    refine ⟨_, _, _, rfl, ?_, ?_, rfl, e1, e2, hSt, hC.more h1 h2⟩
    · exact od_wf hid (by decide) (by omega)
    · exact od_small (by rw [sg_len]; decide)
  · intro hk
    cases hb : segIs L k with
    | false => exact ⟨3, by simp, rfl, rfl⟩
    | true =>
      obtain ⟨s, hs, hst, hg⟩ := seg_is_yes hb
      have hsl := h.1 s hs
      have hmw := may_st (hP.2.2.2.2.1 s hs).1
      rw [hg, if_pos rfl, if_pos (by rw [hsl.2.2.1, hst] at hmw; rw [hsl.2.2.1, hst]; omega)]
      exact ⟨8, rfl, rfl, rfl⟩
/-- Who is there is dropped; none else is. -/
theorem st_drop {p : Pg} {L : List Sg} {st nm : Nat → Nat} {cs cn : List Nat} {m : Nat} (hP : SegP p L) (h : StI L st nm) (hC : CmI cs cn st nm m) {k : Nat} (h1 : 1 ≤ k) (h2 : k ≤ 13) {lsn : Nat} (hl : lsn < 256 ^ 8) :
    (st k ≠ 0 → ∃ o q L', sDropB p k = (o, 0) ∧ o.wf ∧ o.small ∧ o.rows = [] ∧ applyB p o lsn = (q, 0) ∧ SegP q L' ∧ StI L' (upd st k 0) nm ∧ CmI cs cn (upd st k 0) nm m) ∧
    (st k = 0 → sDropB p k = (Od.zero, 3)) := by
  have his := st_is hP h h1 h2
  have hat := segAt_le L k
  have h13 := hP.2.2.2.2.2.2
  have hid := hP.1.2.2.1
  unfold sDropB
  rw [hP.to]
  simp only
  constructor
  · intro hk
    rw [decide_eq_true hk] at his
    obtain ⟨e1, e2⟩ := apply_drop hP hl his
    rw [his]
    refine ⟨_, _, _, rfl, ?_, ?_, rfl, e1, e2, st_less hP h his, hC.off (by decide)⟩
    · exact od_wf hid (by decide) (by omega)
    · exact od_small (by decide)
  · intro hk
    rw [his, decide_eq_false (by simp [hk])]
    rfl
/-- The commits that count: their places. -/
def lastC (cs : List Nat) (i : Nat) : Bool := decide (∀ k, k < cs.length → i < k → cs.getD k 0 ≠ cs.getD i 0)
def okC (cs : List Nat) (st : Nat → Nat) (i : Nat) : Bool := decide (st (cs.getD i 0) = 2) && lastC cs i
def histI (cs : List Nat) (st : Nat → Nat) (n : Nat) : List Nat := (List.range n).filter (okC cs st)
theorem histI_next (cs : List Nat) (st : Nat → Nat) (n : Nat) : histI cs st (n + 1) = histI cs st n ++ if okC cs st n then [n] else [] := by
  unfold histI
  rw [List.range_succ, List.filter_append]
  congr 1
  simp [List.filter_cons]
theorem hist_law {p : Pg} {L H : List Sg} {st nm : Nat → Nat} {cs cn : List Nat} {m : Nat} (hP : SegP p L) (h : StI L st nm) (hC : CmI cs cn st nm m) (hH : H.Perm (L.filter fun s => decide (s.st = 2))) (hS : H.Pairwise (fun a b => a.num < b.num ∨ (a.num = b.num ∧ a.tx ≤ b.tx))) :
    H.map Sg.tx = (histI cs st cs.length).map (cs.getD · 0) := by
  obtain ⟨hl, hr, hmx, hin, hlast⟩ := hC
  have hp := hP.2.2.2.2.2.1
  -- the row of a place that counts
  have hrow : ∀ i ∈ histI cs st cs.length, ∃ s ∈ L, s.tx = cs.getD i 0 ∧ s.st = 2 ∧ s.num = cn.getD i 0 := by
    intro i hi
    obtain ⟨hi1, hi2⟩ := List.mem_filter.1 hi
    rw [List.mem_range] at hi1
    unfold okC lastC at hi2
    rw [Bool.and_eq_true_iff, decide_eq_true_eq, decide_eq_true_eq] at hi2
    obtain ⟨h2, h3⟩ := hi2
    have hget : cs.getD i 0 = cs[i] := by rw [List.getD_eq_getElem?_getD, List.getElem?_eq_getElem hi1]; rfl
    have hci := hin _ (List.getElem_mem hi1)
    obtain ⟨s, hs, hst⟩ := h.2.1 (cs.getD i 0) (by rw [hget]; exact hci.1) (by rw [hget]; exact hci.2) (by omega)
    have hsl := h.1 s hs
    have hs2 : s.st = 2 := by rw [hsl.2.2.1, hst]; exact h2
    refine ⟨s, hs, hst, hs2, ?_⟩
    rw [hsl.2.2.2 hs2, hst]
    obtain ⟨j, hj1, hj2, hj3, hj4, hj5⟩ := hlast _ h2
    have hij : i = j := by
      rcases Nat.lt_trichotomy i j with hlt | he | hlt
      · have hgj : cs.getD j 0 = cs[j] := by rw [List.getD_eq_getElem?_getD, List.getElem?_eq_getElem hj1]; rfl
        exact absurd (hgj.trans hj3) (h3 j hj1 hlt)
      · exact he
      · exact absurd hget.symm (hj5 i hi1 hlt)
    subst hij
    rw [List.getD_eq_getElem?_getD (l := cn), List.getElem?_eq_getElem hj2, ← hj4]
    rfl
  -- the rows, in order
  obtain ⟨R, hRlen, hR⟩ : ∃ R : List Sg, R.length = (histI cs st cs.length).length ∧ ∀ q (h1 : q < R.length) (h2 : q < (histI cs st cs.length).length), R[q] ∈ L ∧ R[q].tx = cs.getD (histI cs st cs.length)[q] 0 ∧ R[q].st = 2 ∧ R[q].num = cn.getD (histI cs st cs.length)[q] 0 := by
    refine ⟨(histI cs st cs.length).map (fun i => L.getD (segAt L (cs.getD i 0)) Sg.zero), by simp, fun q h1 h2 => ?_⟩
    obtain ⟨s, hs, a, b, c⟩ := hrow _ (List.getElem_mem h2)
    have hg := (seg_is_mem hp hs).2
    rw [a] at hg
    rw [List.getElem_map, hg]
    exact ⟨hs, a, b, c⟩
  have hsort : (histI cs st cs.length).Pairwise (· < ·) := List.pairwise_lt_range.filter _
  have hcnm : ∀ a b, a < b → b < cn.length → cn.getD a 0 < cn.getD b 0 := by
    intro a b hab hb
    rw [List.getD_eq_getElem?_getD, List.getD_eq_getElem?_getD, List.getElem?_eq_getElem hb, List.getElem?_eq_getElem (by omega)]
    exact List.pairwise_iff_getElem.1 hr a b (by omega) hb hab
  have hlt : ∀ q (h2 : q < (histI cs st cs.length).length), (histI cs st cs.length)[q] < cs.length := fun q h2 => List.mem_range.1 (List.mem_filter.1 (List.getElem_mem h2)).1
  have hRS : R.Pairwise (fun a b => a.num < b.num) := by
    rw [List.pairwise_iff_getElem]
    intro i j hi hj hij
    rw [(hR i hi (by omega)).2.2.2, (hR j hj (by omega)).2.2.2]
    exact hcnm _ _ (List.pairwise_iff_getElem.1 hsort i j (by omega) (by omega) hij) (by rw [← hl]; exact hlt j (by omega))
  have hRn : R.Nodup := hRS.imp (fun {a b} hab e => by subst e; omega)
  have hLn : (L.filter fun s => decide (s.st = 2)).Nodup := (hp.imp (fun {a b} (hab : a.tx < b.tx) (e : a = b) => by subst e; omega)).filter _
  have hRperm : R.Perm (L.filter fun s => decide (s.st = 2)) := by
    rw [List.perm_ext_iff_of_nodup hRn hLn]
    intro s
    constructor
    · intro hs
      obtain ⟨q, hq, rfl⟩ := List.getElem_of_mem hs
      have := hR q hq (by omega)
      exact List.mem_filter.2 ⟨this.1, decide_eq_true this.2.2.1⟩
    · intro hs
      obtain ⟨hs, hs2⟩ := List.mem_filter.1 hs
      have hs2 := of_decide_eq_true hs2
      have hsl := h.1 s hs
      obtain ⟨j, hj1, hj2, hj3, hj4, hj5⟩ := hlast s.tx (by rw [← hsl.2.2.1]; exact hs2)
      have hgj : cs.getD j 0 = cs[j] := by rw [List.getD_eq_getElem?_getD, List.getElem?_eq_getElem hj1]; rfl
      have hjm : j ∈ histI cs st cs.length := by
        refine List.mem_filter.2 ⟨List.mem_range.2 hj1, ?_⟩
        unfold okC lastC
        rw [Bool.and_eq_true_iff, decide_eq_true_eq, decide_eq_true_eq, hgj, hj3]
        refine ⟨by rw [← hsl.2.2.1]; exact hs2, fun k hk2 hk1 => ?_⟩
        rw [List.getD_eq_getElem?_getD, List.getElem?_eq_getElem hk2]
        exact hj5 k hk2 hk1
      obtain ⟨q, hq, hqj⟩ := List.getElem_of_mem hjm
      have hq2 : q < R.length := by omega
      have hr := hR q hq2 hq
      have he : R[q] = s := by
        have h1 := (seg_is_mem hp hr.1).2
        have h2 := (seg_is_mem hp hs).2
        rw [hr.2.1, hqj, hgj, hj3] at h1
        rw [← h1, h2]
      rw [← he]
      exact List.getElem_mem hq2
  have hEq : H = R := by
    refine List.Perm.eq_of_pairwise (le := fun a b => a.num < b.num ∨ (a.num = b.num ∧ a.tx ≤ b.tx)) ?_ hS (hRS.imp (fun hab => .inl hab)) (hH.trans hRperm.symm)
    intro a b ha hb hab hba
    have ha2 := hH.mem_iff.1 ha
    have hb2 := hRperm.mem_iff.1 hb
    have h1 := (seg_is_mem hp (List.mem_filter.1 ha2).1).2
    have h2 := (seg_is_mem hp (List.mem_filter.1 hb2).1).2
    have : a.tx = b.tx := by omega
    rw [this] at h1
    rw [← h1, h2]
  rw [hEq]
  apply List.ext_getElem
  · rw [List.length_map, List.length_map, hRlen]
  · intro q h1 h2
    rw [List.length_map] at h1 h2
    rw [List.getElem_map, List.getElem_map]
    exact (hR q h1 h2).2.1
theorem head_seg (id : Nat) (h1 : 1 ≤ id) (h2 : id ≤ 1024) : SegP ⟨5, 0, id, 0, 0, []⟩ [] := by
  exact ⟨⟨(show 5 < 256 by decide), (show 0 < 256 by decide), (show id < 256 ^ 4 by omega), (show 0 < 256 ^ 8 by decide), (show 0 < 256 ^ 4 by decide)⟩, rfl, headOk_iff.2 ⟨(show 5 ≤ 5 by decide), h1, h2, (show 0 ≤ 1024 by decide)⟩, rfl, fun s hs => (by cases hs), List.Pairwise.nil, Nat.zero_le _⟩
end Go.Proofs.Ytienlhnbmobinaa
end

section
/- chapter 22: how rows are compared (cmp.Or, the closures of History and Active) -/
namespace Go.Proofs.Ytienlhnbmobinaa
open Go.RowKit
set_option linter.unusedVariables false
set_option linter.unusedSimpArgs false
def cmpA (x y : Sg) : Int := cmpC x.tx y.tx
def cmpAL (x y : Sg) : Bool := decide (cmpA x y < 0)
def orI (a b : Int) : Int := if a = 0 then b else a
def cmpH (x y : Sg) : Int := orI (cmpC x.num y.num) (cmpC x.tx y.tx)
def cmpHL (x y : Sg) : Bool := decide (cmpH x y < 0)
set_option maxHeartbeats 2000000 in
set_option maxRecDepth 100000 in
theorem or_any (a b : Int) (g : Nat) (w : World) (h : w.heap[g]? = some (.cells #[.int .i64 a, .int .i64 b] 3 (0, 0))) :
    Calls Try.prog 129 #[.slice (some ⟨g, 0, none⟩) 2 2] w fun e w' => e = .returned (.int .i64 (orI a b)) ∧ w = w' := by
  have c0 := blk_cell h 0
  have c1 := blk_cell h 1
  simp only [List.getElem?_toArray] at c0 c1
  have hl := blk_lt h
  clear h
  by_cases ha : a = 0
  · have hr : orI a b = b := if_pos ha
    rw [hr]
    subst ha
    clear hr
    by_cases hb : b = 0
    · subst hb
      go_enter Try.func129, Try.ntmps129
      go_wp2_with fail
      go_rounds 4
      go_ret
      exact ⟨rfl, rfl⟩
    · have hbi : (b != 0) = true := by simp [hb]
      have hbe : (b == 0) = false := by simp [hb]
      go_enter Try.func129, Try.ntmps129
      go_wp2_with fail
      go_rounds 4
      go_ret
      exact ⟨rfl, rfl⟩
  · have hr : orI a b = a := if_neg ha
    rw [hr]
    clear hr
    have hai : (a != 0) = true := by simp [ha]
    have hae : (a == 0) = false := by simp [ha]
    go_enter Try.func129, Try.ntmps129
    go_wp2_with fail
    go_rounds 4
    go_ret
    exact ⟨rfl, rfl⟩
theorem seg_boxes2 (w : World) (x y : Sg) : SgBox ((w.alloc (.cells #[.int .u64 x.tx, .int .u8 x.st, .int .u64 x.num, .int .u32 x.fp, .int .u32 x.lp, .int .u32 x.hp, .int .u16 x.hs] 83)).alloc (.cells #[.int .u64 y.tx, .int .u8 y.st, .int .u64 y.num, .int .u32 y.fp, .int .u32 y.lp, .int .u32 y.hp, .int .u16 y.hs] 83)) w.heap.size x ∧ SgBox ((w.alloc (.cells #[.int .u64 x.tx, .int .u8 x.st, .int .u64 x.num, .int .u32 x.fp, .int .u32 x.lp, .int .u32 x.hp, .int .u16 x.hs] 83)).alloc (.cells #[.int .u64 y.tx, .int .u8 y.st, .int .u64 y.num, .int .u32 y.fp, .int .u32 y.lp, .int .u32 y.hp, .int .u16 y.hs] 83)) (w.heap.size + 1) y := by
  refine ⟨(SgBox.new w x).keep _, ?_⟩
  have h := SgBox.new (w.alloc (.cells #[.int .u64 x.tx, .int .u8 x.st, .int .u64 x.num, .int .u32 x.fp, .int .u32 x.lp, .int .u32 x.hp, .int .u16 x.hs] 83)) y
  rw [World.size_alloc] at h
  exact h
set_option maxHeartbeats 2000000 in
set_option maxRecDepth 100000 in
theorem cmpA_any (x y : Sg) (w : World) : Calls Try.prog 131 #[sgV x, sgV y] w fun e w' => e = .returned (.int .i64 (cmpA x y)) ∧ Below w.heap.size w w' := by
  unfold cmpA sgV
  have C1 := Lib.hid fun W => compare_any x.tx y.tx W
  have C2 := Lib.hid fun W => compare_any x.num y.num W
  obtain ⟨hx, hy⟩ := seg_boxes2 w x y
  have X0 := Lib.hid hx
  have Y0 := Lib.hid hy
  clear hx hy
  obtain ⟨x0, x1, x2, x3, x4, x5, x6⟩ := x
  obtain ⟨y0, y1, y2, y3, y4, y5, y6⟩ := y
  simp only at *
  have B0 := Lib.hid ((alloc_below w (.cells #[.int .u64 x0, .int .u8 x1, .int .u64 x2, .int .u32 x3, .int .u32 x4, .int .u32 x5, .int .u16 x6] 83)).alloc (by simp) (.cells #[.int .u64 y0, .int .u8 y1, .int .u64 y2, .int .u32 y3, .int .u32 y4, .int .u32 y5, .int .u16 y6] 83))
  generalize cmpC x0 y0 = c1 at *
  generalize cmpC x2 y2 = c2 at *
  go_enter Try.func131, Try.ntmps131
  go_upto_region 1 with fail
  generalize (w.alloc (.cells #[.int .u64 x0, .int .u8 x1, .int .u64 x2, .int .u32 x3, .int .u32 x4, .int .u32 x5, .int .u16 x6] 83)).alloc (.cells #[.int .u64 y0, .int .u8 y1, .int .u64 y2, .int .u32 y3, .int .u32 y4, .int .u32 y5, .int .u16 y6] 83) = w0 at *
  obtain ⟨xl, z0, z1, z2, z3, z4, z5, z6⟩ := X0.out.cells
  obtain ⟨yl, u0, u1, u2, u3, u4, u5, u6⟩ := Y0.out.cells
  simp only at z0 u0
  go_wp2_with fail
  refine (C1.out _).mono ?_
  rintro e w1 ⟨rfl, rfl⟩
  go_wp2_with fail
  go_ret
  exact ⟨rfl, B0.out⟩
set_option maxHeartbeats 2000000 in
set_option maxRecDepth 100000 in
theorem cmpH_any (x y : Sg) (w : World) : Calls Try.prog 128 #[sgV x, sgV y] w fun e w' => e = .returned (.int .i64 (cmpH x y)) ∧ Below w.heap.size w w' := by
  unfold cmpH sgV
  have C1 := Lib.hid fun W => compare_any x.tx y.tx W
  have C2 := Lib.hid fun W => compare_any x.num y.num W
  obtain ⟨hx, hy⟩ := seg_boxes2 w x y
  have X0 := Lib.hid hx
  have Y0 := Lib.hid hy
  clear hx hy
  obtain ⟨x0, x1, x2, x3, x4, x5, x6⟩ := x
  obtain ⟨y0, y1, y2, y3, y4, y5, y6⟩ := y
  simp only at *
  have B0 := Lib.hid ((alloc_below w (.cells #[.int .u64 x0, .int .u8 x1, .int .u64 x2, .int .u32 x3, .int .u32 x4, .int .u32 x5, .int .u16 x6] 83)).alloc (by simp) (.cells #[.int .u64 y0, .int .u8 y1, .int .u64 y2, .int .u32 y3, .int .u32 y4, .int .u32 y5, .int .u16 y6] 83))
  generalize cmpC x0 y0 = c1 at *
  generalize cmpC x2 y2 = c2 at *
  go_enter Try.func128, Try.ntmps128
  go_upto_region 1 with fail
  generalize (w.alloc (.cells #[.int .u64 x0, .int .u8 x1, .int .u64 x2, .int .u32 x3, .int .u32 x4, .int .u32 x5, .int .u16 x6] 83)).alloc (.cells #[.int .u64 y0, .int .u8 y1, .int .u64 y2, .int .u32 y3, .int .u32 y4, .int .u32 y5, .int .u16 y6] 83) = w0 at *
  have XD : Hid (SgBox w0.drew w.heap.size ⟨x0, x1, x2, x3, x4, x5, x6⟩) := X0.out
  have YD : Hid (SgBox w0.drew (w.heap.size + 1) ⟨y0, y1, y2, y3, y4, y5, y6⟩) := Y0.out
  have BD := Lib.hid B0.out.drew
  refine wp_region_held_drew (S := fun W => SgBox W w.heap.size ⟨x0, x1, x2, x3, x4, x5, x6⟩ ∧ SgBox W (w.heap.size + 1) ⟨y0, y1, y2, y3, y4, y5, y6⟩) (by kernel_rfl) (⟨XD.out, YD.out⟩) (fun hHeld => ?_)
  clear X0 Y0 B0
  generalize w0.drew = v0 at *
  have B0 := BD
  refine wpAnyH_take (i := 0) (oi := { dst := some 5, op := Go.Op.fieldAddr 83 (Go.Operand.tmp 2) 2, type := 0, pos := "seg.go:207", after := #[], guard := none }) (v := ?_) rfl (by kernel_rfl) (by kernel_rfl) (by kernel_rfl) (fun _ _ _ h => h) (Or.inl ⟨by rfl, ?_⟩) hHeld ?_
  rotate_left
  · (intro w hSw; obtain ⟨xl, z0, z1, z2, z3, z4, z5, z6⟩ := hSw.1.cells; obtain ⟨yl, u0, u1, u2, u3, u4, u5, u6⟩ := hSw.2.cells; simp only at z0 z1 z2 z3 z4 z5 z6 u0 u1 u2 u3 u4 u5 u6; go_simp <;> with_reducible rfl)
  simp only [Act.put, List.setIfInBounds_toArray, List.set_cons_zero, List.set_cons_succ]
  refine wpAnyH_take (i := 1) (oi := { dst := some 6, op := Go.Op.load 23 (Go.Operand.tmp 5), type := 23, pos := "seg.go:207", after := #[{ on := 0, ground := Go.Ground.data }], guard := none }) (v := ?_) rfl (by kernel_rfl) (by kernel_rfl) (by kernel_rfl) (fun _ _ _ h => h) (Or.inl ⟨by rfl, ?_⟩) hHeld ?_
  rotate_left
  · (intro w hSw; obtain ⟨xl, z0, z1, z2, z3, z4, z5, z6⟩ := hSw.1.cells; obtain ⟨yl, u0, u1, u2, u3, u4, u5, u6⟩ := hSw.2.cells; simp only at z0 z1 z2 z3 z4 z5 z6 u0 u1 u2 u3 u4 u5 u6; go_simp <;> with_reducible rfl)
  simp only [Act.put, List.setIfInBounds_toArray, List.set_cons_zero, List.set_cons_succ]
  refine wpAnyH_take (i := 2) (oi := { dst := some 7, op := Go.Op.fieldAddr 83 (Go.Operand.tmp 3) 2, type := 0, pos := "seg.go:207", after := #[], guard := none }) (v := ?_) rfl (by kernel_rfl) (by kernel_rfl) (by kernel_rfl) (fun _ _ _ h => h) (Or.inl ⟨by rfl, ?_⟩) hHeld ?_
  rotate_left
  · (intro w hSw; obtain ⟨xl, z0, z1, z2, z3, z4, z5, z6⟩ := hSw.1.cells; obtain ⟨yl, u0, u1, u2, u3, u4, u5, u6⟩ := hSw.2.cells; simp only at z0 z1 z2 z3 z4 z5 z6 u0 u1 u2 u3 u4 u5 u6; go_simp <;> with_reducible rfl)
  simp only [Act.put, List.setIfInBounds_toArray, List.set_cons_zero, List.set_cons_succ]
  refine wpAnyH_take (i := 3) (oi := { dst := some 8, op := Go.Op.load 23 (Go.Operand.tmp 7), type := 23, pos := "seg.go:207", after := #[{ on := 2, ground := Go.Ground.data }], guard := none }) (v := ?_) rfl (by kernel_rfl) (by kernel_rfl) (by kernel_rfl) (fun _ _ _ h => h) (Or.inl ⟨by rfl, ?_⟩) hHeld ?_
  rotate_left
  · (intro w hSw; obtain ⟨xl, z0, z1, z2, z3, z4, z5, z6⟩ := hSw.1.cells; obtain ⟨yl, u0, u1, u2, u3, u4, u5, u6⟩ := hSw.2.cells; simp only at z0 z1 z2 z3 z4 z5 z6 u0 u1 u2 u3 u4 u5 u6; go_simp <;> with_reducible rfl)
  simp only [Act.put, List.setIfInBounds_toArray, List.set_cons_zero, List.set_cons_succ]
  refine wpAnyH_take (i := 5) (oi := { dst := some 10, op := Go.Op.fieldAddr 83 (Go.Operand.tmp 2) 0, type := 0, pos := "seg.go:207", after := #[], guard := none }) (v := ?_) rfl (by kernel_rfl) (by kernel_rfl) (by kernel_rfl) (fun _ _ _ h => h) (Or.inl ⟨by rfl, ?_⟩) hHeld ?_
  rotate_left
  · (intro w hSw; obtain ⟨xl, z0, z1, z2, z3, z4, z5, z6⟩ := hSw.1.cells; obtain ⟨yl, u0, u1, u2, u3, u4, u5, u6⟩ := hSw.2.cells; simp only at z0 z1 z2 z3 z4 z5 z6 u0 u1 u2 u3 u4 u5 u6; go_simp <;> with_reducible rfl)
  simp only [Act.put, List.setIfInBounds_toArray, List.set_cons_zero, List.set_cons_succ]
  refine wpAnyH_take (i := 6) (oi := { dst := some 11, op := Go.Op.load 23 (Go.Operand.tmp 10), type := 23, pos := "seg.go:207", after := #[{ on := 5, ground := Go.Ground.data }], guard := none }) (v := ?_) rfl (by kernel_rfl) (by kernel_rfl) (by kernel_rfl) (fun _ _ _ h => h) (Or.inl ⟨by rfl, ?_⟩) hHeld ?_
  rotate_left
  · (intro w hSw; obtain ⟨xl, z0, z1, z2, z3, z4, z5, z6⟩ := hSw.1.cells; obtain ⟨yl, u0, u1, u2, u3, u4, u5, u6⟩ := hSw.2.cells; simp only at z0 z1 z2 z3 z4 z5 z6 u0 u1 u2 u3 u4 u5 u6; go_simp <;> with_reducible rfl)
  simp only [Act.put, List.setIfInBounds_toArray, List.set_cons_zero, List.set_cons_succ]
  refine wpAnyH_take (i := 7) (oi := { dst := some 12, op := Go.Op.fieldAddr 83 (Go.Operand.tmp 3) 0, type := 0, pos := "seg.go:207", after := #[], guard := none }) (v := ?_) rfl (by kernel_rfl) (by kernel_rfl) (by kernel_rfl) (fun _ _ _ h => h) (Or.inl ⟨by rfl, ?_⟩) hHeld ?_
  rotate_left
  · (intro w hSw; obtain ⟨xl, z0, z1, z2, z3, z4, z5, z6⟩ := hSw.1.cells; obtain ⟨yl, u0, u1, u2, u3, u4, u5, u6⟩ := hSw.2.cells; simp only at z0 z1 z2 z3 z4 z5 z6 u0 u1 u2 u3 u4 u5 u6; go_simp <;> with_reducible rfl)
  simp only [Act.put, List.setIfInBounds_toArray, List.set_cons_zero, List.set_cons_succ]
  refine wpAnyH_take (i := 8) (oi := { dst := some 13, op := Go.Op.load 23 (Go.Operand.tmp 12), type := 23, pos := "seg.go:207", after := #[{ on := 7, ground := Go.Ground.data }], guard := none }) (v := ?_) rfl (by kernel_rfl) (by kernel_rfl) (by kernel_rfl) (fun _ _ _ h => h) (Or.inl ⟨by rfl, ?_⟩) hHeld ?_
  rotate_left
  · (intro w hSw; obtain ⟨xl, z0, z1, z2, z3, z4, z5, z6⟩ := hSw.1.cells; obtain ⟨yl, u0, u1, u2, u3, u4, u5, u6⟩ := hSw.2.cells; simp only at z0 z1 z2 z3 z4 z5 z6 u0 u1 u2 u3 u4 u5 u6; go_simp <;> with_reducible rfl)
  simp only [Act.put, List.setIfInBounds_toArray, List.set_cons_zero, List.set_cons_succ]
  refine wpAnyH_ready (rs := [4]) (by kernel_rfl) (by simp) (AllReadyH.cons (o := { dst := some 9, op := Go.Op.call { callee := Go.Callee.value (Go.Operand.func 130), args := #[Go.Operand.tmp 6, Go.Operand.tmp 8], argTypes := #[23, 23] }, type := 3, pos := "seg.go:207", after := #[{ on := 1, ground := Go.Ground.data }, { on := 3, ground := Go.Ground.data }], guard := none }) rfl (fun K hK => ?_) AllReadyH.nil)
  · go_simp
    refine (C2.out _).mono ?_
    rintro e vv ⟨rfl, rfl⟩
    refine hK.out _ _ ?_ (fun hHeld => ?_)
    · exact hHeld
    clear hK K
    (try simp only [Act.put, List.setIfInBounds_toArray, List.set_cons_zero, List.set_cons_succ])
    refine wpAnyH_ready (rs := [9]) (by kernel_rfl) (by simp) (AllReadyH.cons (o := { dst := some 14, op := Go.Op.call { callee := Go.Callee.value (Go.Operand.func 130), args := #[Go.Operand.tmp 11, Go.Operand.tmp 13], argTypes := #[23, 23] }, type := 3, pos := "seg.go:207", after := #[{ on := 6, ground := Go.Ground.data }, { on := 8, ground := Go.Ground.data }, { on := 4, ground := Go.Ground.chain }], guard := none }) rfl (fun K hK => ?_) AllReadyH.nil)
    · go_simp
      refine (C1.out _).mono ?_
      rintro e vv ⟨rfl, rfl⟩
      refine hK.out _ _ ?_ (fun hHeld => ?_)
      · exact hHeld
      clear hK K
      (try simp only [Act.put, List.setIfInBounds_toArray, List.set_cons_zero, List.set_cons_succ])
      refine wpAnyH_ready (rs := [10]) (by kernel_rfl) (by simp) (AllReadyH.cons (o := { dst := some 15, op := Go.Op.buildSlice 201 2 #[(0, Go.Operand.tmp 9), (1, Go.Operand.tmp 14)], type := 201, pos := "seg.go:207", after := #[{ on := 4, ground := Go.Ground.data }, { on := 9, ground := Go.Ground.data }], guard := none }) rfl (fun K hK => ?_) AllReadyH.nil)
      · go_simp
        have S1 : Hid ((v0.alloc (.cells #[.int .i64 c2, .int .i64 c1] 3)).heap[v0.heap.size]? = some (.cells #[.int .i64 c2, .int .i64 c1] 3 (0, 0))) := heap_alloc_new v0 _
        have B1 := Lib.hid (B0.out.alloc B0.out.size (.cells #[.int .i64 c2, .int .i64 c1] 3))
        have hS9 := Lib.hid (And.intro (SgBox.keep hHeld.1 (.cells #[.int .i64 c2, .int .i64 c1] 3)) (SgBox.keep hHeld.2 (.cells #[.int .i64 c2, .int .i64 c1] 3)))
        obtain ⟨gS, hgS⟩ : ∃ z, z = v0.heap.size := ⟨_, rfl⟩
        rw [← hgS] at S1 ⊢
        generalize v0.alloc (.cells #[.int .i64 c2, .int .i64 c1] 3) = v1 at *
        clear hgS
        refine hK.out _ _ ?_ (fun hHeld => ?_)
        · exact hS9.out
        clear hK K
        (try simp only [Act.put, List.setIfInBounds_toArray, List.set_cons_zero, List.set_cons_succ])
        refine wpAnyH_ready (rs := [11]) (by kernel_rfl) (by simp) (AllReadyH.cons (o := { dst := some 16, op := Go.Op.call { callee := Go.Callee.value (Go.Operand.func 129), args := #[Go.Operand.tmp 15], argTypes := #[201] }, type := 3, pos := "seg.go:207", after := #[{ on := 10, ground := Go.Ground.data }, { on := 9, ground := Go.Ground.chain }], guard := none }) rfl (fun K hK => ?_) AllReadyH.nil)
        · go_simp
          refine (or_any c2 c1 gS _ S1.out).mono ?_
          rintro e vv ⟨rfl, rfl⟩
          refine hK.out _ _ ?_ (fun hHeld => ?_)
          · exact hHeld
          clear hK K
          (try simp only [Act.put, List.setIfInBounds_toArray, List.set_cons_zero, List.set_cons_succ])
          refine wpAnyH_take (i := 12) (oi := { dst := some 4, op := Go.Op.assign (Go.Operand.tmp 16), type := 3, pos := "seg.go:207", after := #[{ on := 11, ground := Go.Ground.data }, { on := 11, ground := Go.Ground.chain }, { on := 0, ground := Go.Ground.phase }, { on := 1, ground := Go.Ground.phase }, { on := 2, ground := Go.Ground.phase }, { on := 3, ground := Go.Ground.phase }, { on := 4, ground := Go.Ground.phase }, { on := 5, ground := Go.Ground.phase }, { on := 6, ground := Go.Ground.phase }, { on := 7, ground := Go.Ground.phase }, { on := 8, ground := Go.Ground.phase }, { on := 9, ground := Go.Ground.phase }, { on := 10, ground := Go.Ground.phase }, { on := 11, ground := Go.Ground.phase }], guard := none }) (v := ?_) rfl (by kernel_rfl) (by kernel_rfl) (by kernel_rfl) (fun _ _ _ h => h) (Or.inl ⟨by rfl, ?_⟩) hHeld ?_
          rotate_left
          · (intro w hSw; obtain ⟨xl, z0, z1, z2, z3, z4, z5, z6⟩ := hSw.1.cells; obtain ⟨yl, u0, u1, u2, u3, u4, u5, u6⟩ := hSw.2.cells; simp only at z0 z1 z2 z3 z4 z5 z6 u0 u1 u2 u3 u4 u5 u6; go_simp <;> with_reducible rfl)
          simp only [Act.put, List.setIfInBounds_toArray, List.set_cons_zero, List.set_cons_succ]
          refine wpAnyH_done (by kernel_rfl) ?_ _
          go_wp2_with fail
          go_ret
          exact ⟨rfl, B1.out⟩
end Go.Proofs.Ytienlhnbmobinaa
end

section
/- chapter 22: the reference's at, Find, Drop, Put -/
namespace Go.Proofs.Ytienlhnbmobinaa
open Go.RowKit
set_option linter.unusedVariables false
set_option linter.unusedSimpArgs false
theorem SegsAt.txs {w : World} {A : Option Addr} {n cp : Nat} {L : List Sg} (h : SegsAt w (.slice A n cp) L) (hn : n = L.length) (h0 : 0 < n) : ∃ b o, A = some ⟨b, o, none⟩ ∧ b < w.heap.size ∧ ∀ j (h : j < L.length), w.cell? ⟨b, o + j * 7, none⟩ = some (.int .u64 L[j].tx) := by
  obtain ⟨A2, cp2, hv2, _, _, h52⟩ := h
  obtain ⟨b0, o0, hA2, hb0, hcell⟩ := h52 (by omega)
  refine ⟨b0, o0, by injection hv2 with e1; exact e1.trans hA2, hb0, fun j hj => ?_⟩
  have := hcell j hj 0 _ rfl
  rwa [Nat.add_zero] at this
theorem seg_len_of {p : Pg} {L : List Sg} (hb : p.rows.length ≤ 1000000) (h : segsB p = some L) : L.length ≤ 1000000 := by
  unfold segsB at h
  split at h
  · rw [(segGo_all h).1]; exact hb
  · cases h
end Go.Proofs.Ytienlhnbmobinaa
end
