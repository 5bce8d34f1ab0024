/- chapter 08: the parts of a page of rows, plain -/
import Derived.Test.YtjcfnfpilladfaaRows
import Derived.Test.YtjcfnfpilladfaaNodeFindsPlain
import Derived.Test.YtjcfnfpilladfaaNodeBetween
import Derived.Test.YtjcfnfpilladfaaNodeRefPut
import Derived.Deep.RegionLaw
import Derived.WalkKit
import Derived.WalkLawsBesides
import Derived.WalkSpells
import Derived.LoopTactic
import Derived.WalkMore
import Derived.LoopN
import Derived.Laws.BitsAllLaws
import Derived.Laws.IdiomStrings
import Derived.BigQuiet
import Derived.Deep.QuietTactic
import Derived.Deep.DeepCutAuto
import Derived.Deep.RegionHeld3
import Derived.Deep.DrawnRows
import Derived.Lib.Hide
import Derived.Outline
import Derived.Deep.DeepMust
import Derived.Handy
namespace Go.Proofs.Ytjcfnfpilladfaa
open Go.RowKit
set_option linter.unusedVariables false
set_option linter.unusedSimpArgs false

open Go.Lib (compareBytes)
theorem keysR_of : ∀ (l : List Rw) (prev : Option (List UInt8)), (∀ r ∈ l, r.wf) → (∀ r ∈ l, mayRow r.key.length r.val.length r.page r.slot r.pad = true) → (l.map Rw.key).Pairwise (fun a b => compareBytes a b < 0) → (∀ q, prev = some q → ∀ r ∈ l, compareBytes q r.key < 0) → keysR 1 prev (l.map Rw.enc) = some (l.map Rw.key)
  | [], _, _, _, _, _ => rfl
  | r :: l, prev, hw, hm, hp, hq => by
    have hr := Rw.key_enc r (hw r List.mem_cons_self)
    rw [hm r List.mem_cons_self, if_pos rfl] at hr
    rw [List.map_cons, List.pairwise_cons] at hp
    simp only [List.map_cons, keysR]
    rw [hr]
    have h0 : (prev.any fun q => decide (0 ≤ compareBytes q r.key)) = false := by
      cases prev with
      | none => rfl
      | some q => have := hq q rfl r List.mem_cons_self; simp; omega
    have ih := keysR_of l (some r.key) (fun x hx => hw x (List.mem_cons_of_mem _ hx)) (fun x hx => hm x (List.mem_cons_of_mem _ hx)) hp.2 (fun q hq x hx => by injection hq with hq; subst hq; exact hp.1 _ (List.mem_map_of_mem hx))
    simp only [h0, ih]
    rfl
/-- A page of rows that rise. -/
theorem keysB_of (l : List Rw) (id lsn next : Nat) (hw : ∀ r ∈ l, r.wf) (hm : ∀ r ∈ l, mayRow r.key.length r.val.length r.page r.slot r.pad = true) (hp : (l.map Rw.key).Pairwise (fun a b => compareBytes a b < 0)) : keysB ⟨1, 0, id, lsn, next, l.map Rw.enc⟩ = some (l.map Rw.key) := by
  unfold keysB
  simp only
  rw [if_pos (by unfold nodeShape; rfl)]
  exact keysR_of l none hw hm hp (fun q hq => by cases hq)
/-- Rows with a row at a place. -/
def putL (l : List Rw) (F : Nat) (r : Rw) (S : Bool) : List Rw := l.take F ++ r :: l.drop (if S then F + 1 else F)
theorem putL_enc (l : List Rw) (F : Nat) (r : Rw) (S : Bool) : (putL l F r S).map Rw.enc = putRows (l.map Rw.enc) F r.enc S := by
  unfold putL putRows
  rw [List.map_append, List.map_cons, List.map_take, List.map_drop]
theorem putL_mem {l : List Rw} {F : Nat} {r : Rw} {S : Bool} {x : Rw} (h : x ∈ putL l F r S) : x ∈ l ∨ x = r := by
  unfold putL at h
  rcases List.mem_append.1 h with h | h
  · exact .inl (List.mem_of_mem_take h)
  · rcases List.mem_cons.1 h with h | h
    · exact .inr h
    · exact .inl (List.mem_of_mem_drop h)
theorem putL_rises {l : List Rw} {r : Rw} (hp : (l.map Rw.key).Pairwise (fun a b => compareBytes a b < 0)) : ((putL l (findN (l.map Rw.key) r.key) r (findIs (l.map Rw.key) r.key)).map Rw.key).Pairwise (fun a b => compareBytes a b < 0) := by
  have hge := @findN_ge _ hp r.key
  have hlt := @findN_lt (l.map Rw.key) r.key
  have hat := @findN_at (l.map Rw.key) r.key
  unfold putL
  rw [List.map_append, List.map_cons, List.map_take, List.map_drop]
  have hbefore : ∀ a ∈ (l.map Rw.key).take (findN (l.map Rw.key) r.key), compareBytes a r.key < 0 := by
    intro a ha
    obtain ⟨t, ht, rfl⟩ := List.mem_iff_getElem.1 ha
    rw [List.getElem_take]
    rw [List.length_take] at ht
    exact hlt (by omega) (by omega)
  have hafter : ∀ b ∈ (l.map Rw.key).drop (if findIs (l.map Rw.key) r.key = true then findN (l.map Rw.key) r.key + 1 else findN (l.map Rw.key) r.key), compareBytes r.key b < 0 := by
    intro b hb
    obtain ⟨t, ht, rfl⟩ := List.mem_iff_getElem.1 hb
    rw [List.getElem_drop]
    rw [List.length_drop] at ht
    rw [cmp_neg]
    split at ht
    · rename_i hS
      have := hge (t := findN (l.map Rw.key) r.key + 1 + t) (by omega) (by omega)
      simp only [hS, if_true] at *
      omega
    · rename_i hS
      have hS' : findIs (l.map Rw.key) r.key = false := by simpa using hS
      simp only [hS', Bool.false_eq_true, if_false]
      rcases Nat.eq_zero_or_pos t with rfl | h0
      · have h1 := hat (by omega)
        have h2 := findIs_eq (ks := l.map Rw.key) (k := r.key) (by omega)
        rw [hS'] at h2
        have h3 := of_decide_eq_false h2.symm
        simp only [Nat.add_zero]
        omega
      · have := hge (t := findN (l.map Rw.key) r.key + t) (by omega) (by omega)
        omega
  rw [List.pairwise_append]
  refine ⟨hp.sublist (List.take_sublist _ _), ?_, ?_⟩
  · rw [List.pairwise_cons]
    exact ⟨hafter, hp.sublist (List.drop_sublist _ _)⟩
  · intro a ha b hb
    rcases List.mem_cons.1 hb with rfl | hb
    · exact hbefore a ha
    · have h1 := hbefore a ha
      have h2 := hafter b hb
      rcases Int.lt_or_eq_of_le (cmp_trans a r.key b (by omega) (by omega)) with h3 | h3
      · exact h3
      · obtain rfl := (cmp_zero a b).1 h3
        rw [cmp_neg] at h2
        omega
theorem weight_split (rows : List (List UInt8)) (k : Nat) : weightB (rows.take k) + weightB (rows.drop k) = weightB rows := by
  rw [← weightB_append, List.take_append_drop]
theorem cutOk_iff {rows : List (List UInt8)} {k : Nat} : cutOk rows k = true ↔ weightB (rows.take k) ≤ 484 ∧ weightB (rows.drop k) ≤ 484 := by
  unfold cutOk
  rw [Bool.and_eq_true, decide_eq_true_iff, decide_eq_true_iff]
theorem bestN_ok (rows : List (List UInt8)) : ∀ n, bestN rows n ≠ 0 → bestN rows n < n ∧ cutOk rows (bestN rows n) = true
  | 0, h => absurd rfl h
  | n + 1, h => by
    unfold bestN at h ⊢
    split
    · rename_i hc
      simp only [Bool.and_eq_true] at hc
      exact ⟨Nat.lt_succ_self n, hc.1.2⟩
    · rename_i hc
      rw [if_neg hc] at h
      have := bestN_ok rows n h
      exact ⟨by omega, this.2⟩
theorem bestN_some (rows : List (List UInt8)) (k : Nat) (h1 : 1 ≤ k) (hk : cutOk rows k = true) : ∀ n, k < n → bestN rows n ≠ 0
  | 0, h => absurd h (Nat.not_lt_zero k)
  | n + 1, h => by
    unfold bestN
    split
    · rename_i hc
      simp only [Bool.and_eq_true, decide_eq_true_eq] at hc
      have := hc.1.1
      omega
    · rename_i hc
      by_cases hn : k = n
      · subst hn
        intro h0
        apply hc
        rw [hk, h0]
        simp [h1]
      · exact bestN_some rows k h1 hk n (by omega)
/-- There is a cut. -/
theorem cut_some (rows : List (List UInt8)) (h2 : 2 ≤ rows.length) (hr : ∀ r ∈ rows, 4 + r.length ≤ 165) (hw : weightB rows ≤ 649) : ∃ k, 1 ≤ k ∧ k < rows.length ∧ cutOk rows k = true := by
  have step : ∀ k, k < rows.length → weightB (rows.take (k + 1)) ≤ weightB (rows.take k) + 165 := fun k hk => by
    rw [weightB_take rows k hk]
    have := hr _ (List.getElem_mem hk)
    omega
  have grow : ∀ j, j ≤ rows.length → ∃ k, k ≤ j ∧ weightB (rows.take k) ≤ 484 ∧ (k = j ∨ 484 < weightB (rows.take (k + 1))) := by
    intro j
    induction j with
    | zero => intro _; exact ⟨0, Nat.le_refl _, by simp [weightB], .inl rfl⟩
    | succ j ih =>
      intro hj
      obtain ⟨k, h1, h2, h3⟩ := ih (by omega)
      rcases h3 with rfl | h3
      · by_cases h : weightB (rows.take (k + 1)) ≤ 484
        · exact ⟨k + 1, Nat.le_refl _, h, .inl rfl⟩
        · exact ⟨k, by omega, h2, .inr (by omega)⟩
      · exact ⟨k, by omega, h2, .inr h3⟩
  obtain ⟨k, h3, h4, h5⟩ := grow (rows.length - 1) (by omega)
  rcases h5 with rfl | h5
  · refine ⟨rows.length - 1, by omega, by omega, cutOk_iff.2 ⟨h4, ?_⟩⟩
    have h6 := weight_split rows (rows.length - 1)
    have h7 := weightB_take rows (rows.length - 1) (by omega)
    rw [show rows.length - 1 + 1 = rows.length by omega, List.take_length] at h7
    have := hr _ (List.getElem_mem (show rows.length - 1 < rows.length by omega))
    omega
  · have h6 := step k (by omega)
    have h7 := weight_split rows k
    refine ⟨k, ?_, by omega, cutOk_iff.2 ⟨h4, by omega⟩⟩
    rcases Nat.eq_zero_or_pos k with rfl | h
    · simp [weightB] at h6
      have : weightB (List.take (0 + 1) rows) ≤ 165 := by simpa [weightB] using h6
      omega
    · exact h
theorem take_le (a : List UInt8) (n : Nat) (h : n ≤ a.length) : compareBytes (a.take n) a ≤ 0 := btw_before (a := a) (b := a) (n := n) (le_com n h h rfl)
theorem Rw.enc_room (r : Rw) (h : mayRow r.key.length r.val.length r.page r.slot r.pad = true) : 4 + r.enc.length ≤ 165 := by
  have hM := mayRow_iff.1 h
  unfold Rw.enc
  rw [if_pos h]
  have : (encRow r.key r.val r.del r.tx r.page r.slot r.pad.toNat).length = 17 + r.key.length + r.val.length + r.pad.toNat := by
    unfold encRow
    simp [be_length]
    omega
  omega
/-- What the statement asks of the parts. -/
theorem parts_law {l : List Rw} (hw : ∀ r ∈ l, r.wf) (hck : checkB (leafPg l) = true) (r : Rw) (hrw : r.wf) (hrm : mayRow r.key.length r.val.length r.page r.slot r.pad = true) :
    let F := findN (l.map Rw.key) r.key
    let S := findIs (l.map Rw.key) r.key
    let all := putRows (leafPg l).rows F r.enc S
    (all.length < 2 → splitB (leafPg l) F r.enc S = (([], []), ([], 2))) ∧
    (2 ≤ all.length → ∃ (b : Nat) (sep k1 k2 : List UInt8), 1 ≤ b ∧ b < all.length ∧ splitB (leafPg l) F r.enc S = ((all.take b, all.drop b), (sep, 0)) ∧
      Pg.may ⟨1, 0, 5, 0, 77, all.take b⟩ = true ∧ Pg.may ⟨1, 0, 5, 0, 9, all.drop b⟩ = true ∧
      keyAtB ⟨1, 0, 5, 0, 77, all.take b⟩ ((b : Int) - 1) = (k1, 0) ∧ keyAtB ⟨1, 0, 5, 0, 9, all.drop b⟩ 0 = (k2, 0) ∧
      compareBytes k1 sep < 0 ∧ compareBytes sep k2 ≤ 0 ∧ (k1.length ≤ 48 ∧ k2.length ≤ 48 ∧ sep.length ≤ 48) ∧ mergeB ⟨1, 0, 5, 0, 77, all.take b⟩ ⟨1, 0, 5, 0, 9, all.drop b⟩ = withB (leafPg l) F r.enc S) := by
  intro F S all
  obtain ⟨hk, hp, hm⟩ := leaf_keys hw hck
  obtain ⟨_, hFle, _, _, hSF⟩ := leaf_place hw hck r.key
  have hall : all = (putL l F r S).map Rw.enc := (putL_enc l F r S).symm
  have hris := putL_rises (r := r) hp
  have hlw : ∀ x ∈ putL l F r S, x.wf := fun x hx => (putL_mem hx).elim (hw x) (fun h => h ▸ hrw)
  have hlm : ∀ x ∈ putL l F r S, mayRow x.key.length x.val.length x.page x.slot x.pad = true := fun x hx => (putL_mem hx).elim (hm x) (fun h => h ▸ hrm)
  have hkeys : keysB ((leafPg l).with all) = some ((putL l F r S).map Rw.key) := by
    rw [hall]
    exact keysB_of _ _ _ _ hlw hlm hris
  have hplace : placeOk (leafPg l).rows.length (F : Int) S = true := placeOk_iff.2 ⟨by omega, by simp [leafPg]; omega, fun ⟨h1, h2⟩ => by
    obtain ⟨h3, _⟩ := hSF h1
    simp [leafPg] at h2
    omega⟩
  have hput : putB (leafPg l) F r.enc S = ((leafPg l).with all, 0) := by
    unfold putB
    rw [if_pos hck, if_pos hplace, Int.toNat_natCast]
    show (if (keysB ((leafPg l).with all)).isSome = true then _ else _) = _
    rw [hkeys]
    rfl
  have hsplit : splitB (leafPg l) F r.enc S = if bestN all all.length = 0 then (([], []), ([], 2)) else ((all.take (bestN all all.length), all.drop (bestN all all.length)), (sepB 1 ((putL l F r S).map Rw.key) (bestN all all.length), 0)) := by
    unfold splitB
    rw [hput]
    simp only [if_true]
    rw [hkeys]
    rfl
  have hlen : all.length = (putL l F r S).length := by rw [hall, List.length_map]
  refine ⟨fun h => ?_, fun h => ?_⟩
  · rw [hsplit]
    have hb0 : bestN all all.length = 0 := by
      rcases Nat.lt_or_ge all.length 1 with h1 | h1
      · rw [show all.length = 0 by omega]; rfl
      · rw [show all.length = 1 by omega]; exact bestN_one all
    rw [if_pos hb0]
  · have hrow : ∀ x ∈ all, 4 + x.length ≤ 165 := fun x hx => by
      rw [hall] at hx
      obtain ⟨y, hy, rfl⟩ := List.mem_map.1 hx
      exact Rw.enc_room y (hlm y hy)
    have hmay : (leafPg l).may = true := (Bool.and_eq_true_iff.1 hck).2
    have hwp : weightB (leafPg l).rows ≤ 484 := by
      unfold Pg.may at hmay
      exact of_decide_eq_true (Bool.and_eq_true_iff.1 hmay).2
    have hwt : weightB all ≤ 649 := by
      have := putRows_weight (leafPg l).rows F r.enc S
      have h9 := Rw.enc_room r hrm
      show weightB (putRows (leafPg l).rows F r.enc S) ≤ _
      omega
    obtain ⟨k, hk1, hk2, hk3⟩ := cut_some all h hrow hwt
    have hb := bestN_some all k hk1 hk3 all.length hk2
    obtain ⟨hb1, hb2⟩ := bestN_ok all all.length hb
    rw [hsplit, if_neg hb]
    generalize bestN all all.length = b at *
    obtain ⟨hc1, hc2⟩ := cutOk_iff.1 hb2
    have hbl : b < (putL l F r S).length := by omega
    have hX : all.take b = ((putL l F r S).take b).map Rw.enc := by rw [hall, List.map_take]
    have hY : all.drop b = ((putL l F r S).drop b).map Rw.enc := by rw [hall, List.map_drop]
    have hkX : keysB ⟨1, 0, 5, 0, 77, all.take b⟩ = some (((putL l F r S).map Rw.key).take b) := by
      rw [hX, ← List.map_take]
      exact keysB_of _ _ _ _ (fun x hx => hlw x (List.mem_of_mem_take hx)) (fun x hx => hlm x (List.mem_of_mem_take hx)) (by rw [List.map_take]; exact hris.sublist (List.take_sublist _ _))
    have hkY : keysB ⟨1, 0, 5, 0, 9, all.drop b⟩ = some (((putL l F r S).map Rw.key).drop b) := by
      rw [hY, ← List.map_drop]
      exact keysB_of _ _ _ _ (fun x hx => hlw x (List.mem_of_mem_drop hx)) (fun x hx => hlm x (List.mem_of_mem_drop hx)) (by rw [List.map_drop]; exact hris.sublist (List.drop_sublist _ _))
    have hmX : Pg.may ⟨1, 0, 5, 0, 77, all.take b⟩ = true := by unfold Pg.may headOk; simp; exact hc1
    have hmY : Pg.may ⟨1, 0, 5, 0, 9, all.drop b⟩ = true := by unfold Pg.may headOk; simp; exact hc2
    have hcX : checkB ⟨1, 0, 5, 0, 77, all.take b⟩ = true := by unfold checkB; rw [hkX, hmX]; rfl
    have hcY : checkB ⟨1, 0, 5, 0, 9, all.drop b⟩ = true := by unfold checkB; rw [hkY, hmY]; rfl
    have hKl : ((putL l F r S).map Rw.key).length = (putL l F r S).length := List.length_map _
    obtain ⟨K, hK⟩ : ∃ K, K = (putL l F r S).map Rw.key := ⟨_, rfl⟩
    rw [← hK] at hkX hkY hris hKl hkeys ⊢
    have hb0 : b - 1 < K.length := by omega
    have hbK : b < K.length := by omega
    have hrise : compareBytes K[b - 1] K[b] < 0 := List.pairwise_iff_getElem.1 hris (b - 1) b hb0 hbK (by omega)
    have hs0 : sepB 1 K b = K[b].take (com K[b - 1] K[b] + 1) := by
      unfold sepB
      rw [if_pos rfl, List.getD_eq_getElem?_getD (i := b), List.getElem?_eq_getElem hbK, List.getD_eq_getElem?_getD, List.getElem?_eq_getElem hb0]
      rfl
    have hk48 : ∀ q ∈ K, q.length ≤ 48 := fun q hq => by
      rw [hK] at hq
      obtain ⟨y, hy, rfl⟩ := List.mem_map.1 hq
      exact (mayRow_iff.1 (hlm y hy)).2.1
    have h48 : K[b - 1].length ≤ 48 ∧ K[b].length ≤ 48 ∧ (sepB 1 K b).length ≤ 48 := ⟨hk48 _ (List.getElem_mem hb0), hk48 _ (List.getElem_mem hbK), by rw [hs0, List.length_take]; have := hk48 _ (List.getElem_mem hbK); omega⟩
    refine ⟨b, sepB 1 K b, K[b - 1], K[b], by omega, hb1, rfl, hmX, hmY, ?_, ?_, ?_, ?_, h48, ?_⟩
    · unfold keyAtB
      rw [if_pos hcX, if_pos ⟨by omega, by simp; omega⟩, hkX]
      simp only [Option.getD_some]
      rw [show ((b : Int) - 1).toNat = b - 1 by omega, List.getD_eq_getElem?_getD, List.getElem?_take_of_lt (by omega), List.getElem?_eq_getElem hb0]
      rfl
    · unfold keyAtB
      rw [if_pos hcY, if_pos ⟨by omega, by simp; omega⟩, hkY]
      simp only [Option.getD_some]
      rw [show (0 : Int).toNat = 0 by rfl, List.getD_eq_getElem?_getD, List.getElem?_drop, Nat.add_zero, List.getElem?_eq_getElem hbK]
      rfl
    · have hs : sepB 1 K b = K[b].take (com K[b - 1] K[b] + 1) := by
        unfold sepB
        rw [if_pos rfl, List.getD_eq_getElem?_getD (i := b), List.getElem?_eq_getElem hbK, List.getD_eq_getElem?_getD, List.getElem?_eq_getElem hb0]
        rfl
      rw [hs, cmp_neg]
      have := btw_at hrise
      omega
    · have hs : sepB 1 K b = K[b].take (com K[b - 1] K[b] + 1) := by
        unfold sepB
        rw [if_pos rfl, List.getD_eq_getElem?_getD (i := b), List.getElem?_eq_getElem hbK, List.getD_eq_getElem?_getD, List.getElem?_eq_getElem hb0]
        rfl
      rw [hs]
      exact take_le _ _ (com_lt hrise)
    · have hjoin : (⟨1, 0, 5, 0, 9, all.take b ++ all.drop b⟩ : Pg) = (leafPg l).with all := by rw [List.take_append_drop]; rfl
      unfold mergeB withB
      rw [hcX, hcY, hput]
      simp only [Bool.and_self, if_true, and_self]
      rw [hjoin, hkeys]
      rfl
/-- What the statement asks of the parts of a page, with a text at a place. -/
def PartsOk (p : Pg) (F : Nat) (x : List UInt8) (S : Bool) : Prop :=
  ((putRows p.rows F x S).length < 2 → splitB p F x S = (([], []), ([], 2))) ∧
  (2 ≤ (putRows p.rows F x S).length → ∃ (b : Nat) (sep k1 k2 : List UInt8), 1 ≤ b ∧ b < (putRows p.rows F x S).length ∧ splitB p F x S = (((putRows p.rows F x S).take b, (putRows p.rows F x S).drop b), (sep, 0)) ∧
    Pg.may ⟨p.kind, p.level, p.id, p.lsn, 77, (putRows p.rows F x S).take b⟩ = true ∧ Pg.may ⟨p.kind, p.level, p.id, p.lsn, p.next, (putRows p.rows F x S).drop b⟩ = true ∧
    keyAtB ⟨p.kind, p.level, p.id, p.lsn, 77, (putRows p.rows F x S).take b⟩ ((b : Int) - 1) = (k1, 0) ∧ keyAtB ⟨p.kind, p.level, p.id, p.lsn, p.next, (putRows p.rows F x S).drop b⟩ 0 = (k2, 0) ∧
    compareBytes k1 sep < 0 ∧ compareBytes sep k2 ≤ 0 ∧ (k1.length ≤ 48 ∧ k2.length ≤ 48 ∧ sep.length ≤ 48) ∧ mergeB ⟨p.kind, p.level, p.id, p.lsn, 77, (putRows p.rows F x S).take b⟩ ⟨p.kind, p.level, p.id, p.lsn, p.next, (putRows p.rows F x S).drop b⟩ = withB p F x S)
theorem parts_ok {l : List Rw} (hw : ∀ r ∈ l, r.wf) (hck : checkB (leafPg l) = true) (r : Rw) (hrw : r.wf) (hrm : mayRow r.key.length r.val.length r.page r.slot r.pad = true) :
    PartsOk (leafPg l) (findN (l.map Rw.key) r.key) r.enc (findIs (l.map Rw.key) r.key) := parts_law hw hck r hrw hrm
theorem Rw.encode2 (r : Rw) (h : r.wf) : ∀ W, Calls Try.prog 50 #[.agg #[.string ⟨r.key.toArray⟩, .bool r.del, .int .u64 r.tx, .int .u32 r.page, .int .u16 r.slot, .string ⟨r.val.toArray⟩, .int .i64 r.pad]] W fun e w' => e = .returned (.tuple #[.string ⟨r.enc.toArray⟩, .int .i64 (if mayRow r.key.length r.val.length r.page r.slot r.pad = true then 0 else 2)]) ∧ Below W.heap.size W w' := by
  obtain ⟨h1, h2, h3, h4⟩ := h
  cases hm : mayRow r.key.length r.val.length r.page r.slot r.pad with
  | true =>
    intro W
    have hp : 0 ≤ r.pad := by
      have hM : MayRow r.key.length r.val.length r.page r.slot r.pad := of_decide_eq_true hm
      exact hM.2.2.1
    obtain ⟨d, hd⟩ : ∃ d : Nat, r.pad = d := ⟨r.pad.toNat, by omega⟩
    have := refEncode_yes ⟨r.key.toArray⟩ ⟨r.val.toArray⟩ r.del r.tx r.page r.slot d W (by simpa [ByteArray.size] using h1) (by simpa [ByteArray.size] using h2) h3 h4 (by simpa [ByteArray.size, hd] using hm)
    unfold Rw.enc
    rw [if_pos hm, hd]
    exact this
  | false =>
    intro W
    have := refEncode_no ⟨r.key.toArray⟩ ⟨r.val.toArray⟩ r.del r.tx r.page r.slot r.pad W (by simpa [ByteArray.size] using h1) (by simpa [ByteArray.size] using h2) (by simpa [ByteArray.size] using hm)
    unfold Rw.enc
    rw [if_neg (by rw [hm]; simp)]
    exact this
theorem putRows_length (rows : List (List UInt8)) (F : Nat) (x : List UInt8) (S : Bool) (h : F ≤ rows.length) (hS : S = true → F < rows.length) : (putRows rows F x S).length = F + 1 + (rows.length - if S then F + 1 else F) := by
  unfold putRows
  rw [List.length_append, List.length_cons, List.length_take, List.length_drop]
  omega
theorem reads_noneP (w : World) (a : Addr) (n c : Nat) (h : n = 0) : Reads w (.slice (some a) n c) n 1 [] := by
  subst h
  exact .inr ⟨a, c, rfl, rfl, fun j u hu => by cases hu⟩
theorem TextsAt.backR {w : World} {A : Option Addr} {n cp : Nat} {ts : List (List UInt8)} (h : TextsAt w (.slice A n cp) ts) (k : Nat) (hk : k ≤ n) : Reads w (.slice (if cp = k then A else Option.map (fun x => x.add k) A) (n - k) (cp - k)) (n - k) 1 (strs (ts.drop k)) := by
  have hh := h
  obtain ⟨A', cp', e, h2, h3, h4, h5⟩ := h
  injection e with e1 e2 e3
  subst e1; subst e3
  cases A with
  | none =>
    obtain ⟨h6, h7⟩ := h4 rfl
    subst h6
    obtain rfl : n = 0 := by simpa using e2
    obtain rfl : k = 0 := by omega
    subst h7
    exact .inl ⟨by simp, rfl, by simp [strs]⟩
  | some a =>
    split
    · rename_i hc
      have hd : ts.drop k = [] := List.drop_eq_nil_of_le (by omega)
      rw [hd]
      exact reads_noneP _ _ _ _ (by omega)
    · exact TextsAt.back hh k (cp - k) hk
theorem putOwn {w : World} {base m k kk : Nat} {v : Value} {rows : List (List UInt8)} {x : List UInt8} {S : Bool} (h : w.ownsRow base 9 1 v m ((strs (rows.take k) ++ [.string ⟨x.toArray⟩]) ++ strs (rows.drop kk))) (hkk : kk = if S then k + 1 else k) : TextsAt w v (putRows rows k x S) := by
  have he : (strs (rows.take k) ++ [Value.string ⟨x.toArray⟩]) ++ strs (rows.drop kk) = strs (putRows rows k x S) := by
    unfold putRows strs
    rw [hkk]
    simp
  rw [he] at h
  exact (texts_own h).1
section
variable {P : Program} (w : World)
/-- An append behind a guard that says yes. -/
theorem wpList_append_any_want {ops : Array Oper} {rest : List Oper} {o : Oper} {a : Act} {Q : Exit → Act → World → Prop} (hw : Region.wanted o (yielded ops a.tmps) = true) (s x : Operand) (t : TypeId)
    (ho : o.op = .call { callee := .builtin .append, args := #[s, x], argTypes := #[t, t] })
    (base : Nat) (e : TypeId) (i : TypeInfo) (z : Value) (size bytes : Nat) (ht : P.underlying t = some (.slice e)) (hi : P.info? e = some i) (hz : i.zero = some z)
    (hsize : i.size = size) (hby : i.bytes = bytes) (hzs : z.cells.size = size) (hsz : 0 < size)
    (v : Value) (n : Nat) (xs : List Value) (hs : a.eval s = v) (hown : w.ownsRow base e size v n xs) (sv : Value) (m : Nat) (news : List Value) (hx : a.eval x = sv) (hr : Reads w sv m size news) (h1 : ∀ u ∈ news, u.oneCell' = true)
    (h63 : n + m ≤ maxLen) (hbytes : (n + m) * bytes ≤ 140737488355328) (hbase : base ≤ w.heap.size)
    (h : ∀ v' w', w'.ownsRow base e size v' (n + m) (xs ++ news) → w.grownBy w' v.ownBlock → wpList P ops Q rest (a.put o.dst v') w') : wpList P ops Q (o :: rest) a w :=
  BigFrame.wpList_want hw fun _ hK => wp_append_any w s x t ho base e i z size bytes ht hi hz hsize hby hzs hsz v n xs hs hown sv m news hx hr h1 h63 hbytes hbase fun v' w' h2 h3 => hK _ _ (h v' w' h2 h3)
end

end Go.Proofs.Ytjcfnfpilladfaa
