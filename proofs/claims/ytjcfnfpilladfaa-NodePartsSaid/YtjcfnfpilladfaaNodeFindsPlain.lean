/- chapter 08: what is in a page of rows, plain -/
import Derived.Test.YtjcfnfpilladfaaRows
import Derived.Test.YtjcfnfpilladfaaNodeLeaf
import Derived.Test.YtjcfnfpilladfaaNodeKeysA
import Derived.Test.YtjcfnfpilladfaaRefDecode
import Derived.Test.YtjcfnfpilladfaaNodeChild
import Derived.Deep.RegionLaw
import Derived.WalkKit
import Derived.WalkLawsBesides
import Derived.WalkSpells
import Derived.LoopTactic
import Derived.WalkMore
import Derived.LoopN
import Derived.Laws.BitsAllLaws
import Derived.Laws.IdiomStrings
import Derived.BigQuiet
import Derived.Deep.QuietTactic
import Derived.Deep.DeepCutAuto
import Derived.Deep.RegionHeld3
import Derived.Deep.DrawnRows
import Derived.Lib.Hide
import Derived.Outline
import Derived.Deep.DeepMust
import Derived.Handy
namespace Go.Proofs.Ytjcfnfpilladfaa
open Go.RowKit
set_option linter.unusedVariables false
set_option linter.unusedSimpArgs false

open Go.Lib (compareBytes)
theorem encRow_ok (k v : List UInt8) (m : Bool) (t p s d : Nat) (ht : t < 256 ^ 8) (hs : s < 256 ^ 2) (hm : mayRow k.length v.length p s (d : Int) = true) : decOk (encRow k v m t p s d) = true := by
  cases h : decOk (encRow k v m t p s d) with
  | true => rfl
  | false =>
    have h1 := decV_encRow k v m t p s d ht hs hm
    rw [decV_bad h] at h1
    simp at h1
theorem keyB_nil : keyB 1 [] = none := by decide +kernel
theorem Rw.key_enc (r : Rw) (h : r.wf) : keyB 1 r.enc = if mayRow r.key.length r.val.length r.page r.slot r.pad then some r.key else none := by
  obtain ⟨h1, h2, h3, h4⟩ := h
  cases hm : mayRow r.key.length r.val.length r.page r.slot r.pad with
  | false => unfold Rw.enc; rw [hm]; exact keyB_nil
  | true =>
    have hM := mayRow_iff.1 hm
    obtain ⟨d, hd⟩ : ∃ d : Nat, r.pad = d := ⟨r.pad.toNat, by omega⟩
    unfold Rw.enc keyB
    rw [hm, hd]
    simp only [if_true, Int.toNat_natCast]
    rw [hd] at hm
    rw [encRow_ok _ _ _ _ _ _ _ h3 h4 hm, back_k _ _ _ _ _ _ _ (by omega)]
    rfl
theorem leaf_keys {l : List Rw} (hw : ∀ r ∈ l, r.wf) (h : checkB (leafPg l) = true) : keysB (leafPg l) = some (l.map Rw.key) ∧ (l.map Rw.key).Pairwise (fun a b => compareBytes a b < 0) ∧ ∀ r ∈ l, mayRow r.key.length r.val.length r.page r.slot r.pad = true := by
  obtain ⟨ks, hk, hs, hl, hg, hp⟩ := check_keys h
  have hn : (leafPg l).rows.length = l.length := by simp [leafPg]
  have hall : ∀ i (hi : i < l.length), mayRow l[i].key.length l[i].val.length l[i].page l[i].slot l[i].pad = true ∧ ks.getD i [] = l[i].key := by
    intro i hi
    have h1 := hg i (by omega)
    have h2 : (leafPg l).rows[i]'(by omega) = l[i].enc := by simp [leafPg]
    rw [h2] at h1
    have h3 : (leafPg l).kind = 1 := rfl
    rw [h3, Rw.key_enc _ (hw _ (List.getElem_mem hi))] at h1
    split at h1
    · rename_i hm
      injection h1 with h1
      exact ⟨hm, h1.symm⟩
    · cases h1
  have he : ks = l.map Rw.key := by
    apply List.ext_getElem
    · simp; omega
    · intro i h1 h2
      have h3 := (hall i (by omega)).2
      rw [List.getD_eq_getElem?_getD, List.getElem?_eq_getElem h1] at h3
      simpa using h3
  subst he
  refine ⟨hk, hp, fun r hr => ?_⟩
  obtain ⟨i, hi, rfl⟩ := List.mem_iff_getElem.1 hr
  exact (hall i hi).1
theorem findN_self {ks : List (List UInt8)} (hp : ks.Pairwise (fun a b => compareBytes a b < 0)) {i : Nat} (hi : i < ks.length) : findN ks ks[i] = i ∧ findIs ks ks[i] = true := by
  have h : findN ks ks[i] = i := findN_eq (by omega) (fun t ht hti => List.pairwise_iff_getElem.1 hp t i ht hi hti) (fun _ => by rw [(cmp_zero _ _).2 rfl]; exact Int.le_refl 0)
  refine ⟨h, ?_⟩
  unfold findIs
  rw [h, List.getElem?_eq_getElem hi]
  simp
/-- What the statement asks of each row. -/
theorem leaf_find {l : List Rw} (hw : ∀ r ∈ l, r.wf) (h : checkB (leafPg l) = true) (i : Nat) (hi : i < l.length) : findB (leafPg l) l[i].key = (i, true) ∧ keyAtB (leafPg l) (i : Int) = (l[i].key, 0) := by
  obtain ⟨hk, hp, _⟩ := leaf_keys hw h
  have hi' : i < (l.map Rw.key).length := by simpa using hi
  have h1 := findN_self hp hi'
  have h2 : (l.map Rw.key)[i] = l[i].key := by simp
  rw [h2] at h1
  refine ⟨?_, ?_⟩
  · unfold findB
    rw [h, hk]
    simp only [if_true, Option.getD_some]
    rw [h1.1, h1.2]
  · unfold keyAtB
    rw [h, hk]
    have hn : (leafPg l).rows.length = l.length := by simp [leafPg]
    simp only [if_true, Option.getD_some]
    rw [if_pos ⟨by omega, by omega⟩, Int.toNat_natCast, List.getD_eq_getElem?_getD, List.getElem?_eq_getElem hi', h2]
    rfl
/-- The entries of rows: each key, and a child. -/
def entsOf (l : List Rw) (n : Nat) : List En := (List.range n).map fun j => ⟨(l.map Rw.key).getD j [], j + 2⟩
theorem entsOf_succ (l : List Rw) (n : Nat) (h : n < l.length) : entsOf l (n + 1) = entsOf l n ++ [⟨l[n].key, n + 2⟩] := by
  unfold entsOf
  rw [List.range_succ, List.map_append]
  simp [List.getD_eq_getElem?_getD, h]
theorem entsOf_length (l : List Rw) (n : Nat) : (entsOf l n).length = n := by simp [entsOf]
theorem En.key_enc (k : List UInt8) (c : Nat) (h : mayEnt k.length c = true) : keyB 2 (encEnt k c) = some k ∧ childNo (encEnt k c) = c := by
  have hm := mayEnt_iff.1 h
  have hr : rdNum (encEnt k c) 0 4 = c := by
    unfold encEnt
    rw [rdNum_mid (l := be 4 c ++ k) (a := []) (b := be 4 c) (c := k) (i := 0) (k := 4) rfl rfl (by simp [be_length])]
    exact un_be_fits 4 c (by omega)
  have hl : (encEnt k c).length = 4 + k.length := by simp [encEnt, be_length]
  refine ⟨?_, hr⟩
  unfold keyB
  rw [if_neg (by omega)]
  have : decEntOk (encEnt k c) = true := by
    unfold decEntOk
    rw [hl, hr, show 4 + k.length - 4 = k.length by omega, h]
    simp
  rw [this, if_pos rfl]
  unfold encEnt
  rw [List.drop_left' (by simp [be_length])]
/-- Below which child a key is. -/
theorem inner_child {l : List Rw} (hw : ∀ r ∈ l, r.wf) (h : checkB (leafPg l) = true) (hl : 0 < l.length) (hl2 : l.length ≤ 30) (hq : checkB (innerPg (entsOf l l.length)) = true) (k : List UInt8) :
    childB childNo (innerPg (entsOf l l.length)) k = (childN (l.map Rw.key) k + 2, childN (l.map Rw.key) k, 0) := by
  obtain ⟨hk, hp, hm⟩ := leaf_keys hw h
  obtain ⟨ks, hk2, _, hn2, hp2, hlt, _, hch⟩ := child_facts (k := k) (p := innerPg (entsOf l l.length)) rfl hq
  obtain ⟨ks', hk3, _, hn3, hg3, _⟩ := check_keys hq
  rw [hk2] at hk3
  injection hk3 with hk3
  subst hk3
  have hrn : (innerPg (entsOf l l.length)).rows.length = l.length := by simp [innerPg, entsOf_length]
  have hrow : ∀ i (hi : i < l.length), ((innerPg (entsOf l l.length)).rows[i]'(by omega)) = encEnt l[i].key (i + 2) := by
    intro i hi
    have hmi := mayRow_iff.1 (hm _ (List.getElem_mem hi))
    have he : mayEnt l[i].key.length (i + 2) = true := mayEnt_iff.2 ⟨by omega, by omega, by omega⟩
    have h9 : (innerPg (entsOf l l.length)).rows[i]'(by omega) = ((entsOf l l.length)[i]'(by rw [entsOf_length]; exact hi)).enc := by simp [innerPg]
    rw [h9]
    have h8 : ((entsOf l l.length)[i]'(by rw [entsOf_length]; exact hi)) = ⟨l[i].key, i + 2⟩ := by
      unfold entsOf
      simp [List.getD_eq_getElem?_getD, hi]
    rw [h8]
    unfold En.enc
    rw [if_pos he]
  have hmay : ∀ i (hi : i < l.length), mayEnt l[i].key.length (i + 2) = true := by
    intro i hi
    have hmi := mayRow_iff.1 (hm _ (List.getElem_mem hi))
    exact mayEnt_iff.2 ⟨by omega, by omega, by omega⟩
  have he : ks = l.map Rw.key := by
    apply List.ext_getElem
    · simp; omega
    · intro i h1 h2
      have hi : i < l.length := by simpa using h2
      have h3 := hg3 i (by omega)
      rw [hrow i hi] at h3
      have h4 : (innerPg (entsOf l l.length)).kind = 2 := rfl
      rw [h4, (En.key_enc _ _ (hmay i hi)).1, List.getD_eq_getElem?_getD, List.getElem?_eq_getElem h1] at h3
      simpa using h3.symm
  subst he
  have hc : childN (l.map Rw.key) k < l.length := by omega
  rw [hch, hrow _ hc, (En.key_enc _ _ (hmay _ hc)).2]
/-- Where a key is, or would be: what the statement asks. -/
theorem leaf_place {l : List Rw} (hw : ∀ r ∈ l, r.wf) (h : checkB (leafPg l) = true) (k : List UInt8) :
    findB (leafPg l) k = (findN (l.map Rw.key) k, findIs (l.map Rw.key) k) ∧ findN (l.map Rw.key) k ≤ l.length ∧
    (∀ t (ht : t < l.length), t + 1 = findN (l.map Rw.key) k → compareBytes l[t].key k < 0) ∧
    (∀ ht : findN (l.map Rw.key) k < l.length, compareBytes k (l[findN (l.map Rw.key) k]).key ≤ 0) ∧
    (findIs (l.map Rw.key) k = true → ∃ ht : findN (l.map Rw.key) k < l.length, (l[findN (l.map Rw.key) k]).key = k) := by
  obtain ⟨hk, hp, _⟩ := leaf_keys hw h
  have hle := findN_le (l.map Rw.key) k
  rw [List.length_map] at hle
  refine ⟨?_, hle, fun t ht he => ?_, fun ht => ?_, fun hi => ?_⟩
  · unfold findB
    rw [h, hk]
    rfl
  · have := findN_lt (ks := l.map Rw.key) (k := k) (t := t) (by simpa using ht) (by omega)
    simpa using this
  · have := findN_at (ks := l.map Rw.key) (k := k) (by simpa using ht)
    rw [cmp_neg]
    simp only [List.getElem_map] at this
    omega
  · unfold findIs at hi
    have h1 := of_decide_eq_true hi
    rw [List.getElem?_map] at h1
    cases hg : l[findN (l.map Rw.key) k]? with
    | none => rw [hg] at h1; cases h1
    | some r =>
      rw [hg] at h1
      obtain ⟨h2, h3⟩ := List.getElem?_eq_some_iff.1 hg
      refine ⟨h2, ?_⟩
      rw [h3]
      simpa using h1
def entCells (L : List En) : List Value := L.flatMap En.cell
theorem entCells_get : ∀ (L : List En) (j i : Nat) (v : Value) (h : j < L.length), L[j].cell[i]? = some v → (entCells L)[j * 2 + i]? = some v
  | [], j, i, v, h, _ => absurd h (Nat.not_lt_zero _)
  | x :: L, 0, i, v, h, hv => by
    have hv' : x.cell[i]? = some v := hv
    have hi : i < x.cell.length := (List.getElem?_eq_some_iff.1 hv').1
    unfold entCells
    rw [List.flatMap_cons, show 0 * 2 + i = i by omega, List.getElem?_append_left hi]
    exact hv'
  | x :: L, j + 1, i, v, h, hv => by
    have := entCells_get L j i v (by simpa using h) hv
    unfold entCells at *
    rw [List.flatMap_cons, List.getElem?_append_right (by simp [En.cell]; omega)]
    rw [show (j + 1) * 2 + i - x.cell.length = j * 2 + i by simp [En.cell]; omega]
    exact this
theorem entCells_length (L : List En) : (entCells L).length = L.length * 2 := by
  induction L with
  | nil => rfl
  | cons x L ih => unfold entCells at *; rw [List.flatMap_cons, List.length_append, ih]; simp [En.cell]; omega
theorem ents_own {w : World} {base n : Nat} {v : Value} {L : List En} (h : w.ownsRow base 93 2 v n (entCells L)) : EntsAt w v L ∧ L.length = n := by
  have hl : L.length = n := by have := h.1; rw [entCells_length] at this; omega
  refine ⟨?_, hl⟩
  subst hl
  rcases h.2 with ⟨rfl, h0⟩ | ⟨g, cap, cur, rfl, hb, hg, h1, h2, _⟩
  · exact ⟨none, 0, by rw [h0], by omega, Nat.zero_le _, fun h => by omega⟩
  · refine ⟨_, cap, rfl, h1, h2, fun _ => ⟨g, 0, rfl, blk_lt hg, fun j hj i u hu => ?_⟩⟩
    rw [Nat.zero_add]
    have := h.cells (g := g) rfl (j * 2 + i) u (entCells_get L j i u hj hu)
    rwa [show (⟨g, 0, none⟩ : Addr).add (j * 2 + i) = ⟨g, j * 2 + i, none⟩ by rw [Addr.add_lit, Nat.zero_add]] at this
theorem reads_two (w : World) (x y : Value) (t : TypeId) (c : Nat) : Reads (w.alloc (.cells #[x, y] t)) (.slice (some ⟨w.heap.size, 0, none⟩) 1 c) 1 2 [x, y] := by
  refine .inr ⟨_, c, rfl, rfl, fun j u hu => ?_⟩
  rw [Addr.add_lit, Nat.zero_add, blk_cell (heap_alloc_new w _)]
  simpa using hu
theorem Rw.enc_le (r : Rw) : r.enc.length ≤ 1000 := by
  unfold Rw.enc
  split
  · rename_i h
    have hM := mayRow_iff.1 h
    have : (encRow r.key r.val r.del r.tx r.page r.slot r.pad.toNat).length = 17 + r.key.length + r.val.length + r.pad.toNat := by
      unfold encRow
      simp [be_length]
      omega
    omega
  · simp
theorem En.enc_le (r : En) : r.enc.length ≤ 52 := by
  unfold En.enc
  split
  · rename_i h
    have hM := mayEnt_iff.1 h
    simp [encEnt, be_length]
    omega
  · simp
theorem weight_ents (L : List En) : weightB (innerPg L).rows ≤ L.length * 56 := by
  unfold innerPg
  simp only
  induction L with
  | nil => simp [weightB]
  | cons x L ih =>
    have := En.enc_le x
    rw [List.map_cons, weightB_cons, List.length_cons]
    omega
theorem weight_leaf (l : List Rw) : weightB (leafPg l).rows ≤ l.length * 1004 := by
  unfold leafPg
  simp only
  induction l with
  | nil => simp [weightB]
  | cons x L ih =>
    have := Rw.enc_le x
    rw [List.map_cons, weightB_cons, List.length_cons]
    omega
theorem run_max_zero {P : Program} (F : Nat) (ats : Array TypeId) (ty : TypeId) (W : World) : (Builtin.max_ ats ty #[.int .i64 (F : Int), .int .i64 0]).run P W = .ok (.int .i64 (F : Nat)) W := by
  simp [Builtin.max_, Builtin.max2]
  omega
theorem own_form2 {w : World} {base n : Nat} {e : TypeId} {v : Value} {xs : List Value} (h : w.ownsRow base e 2 v n xs) : ∃ b cp, v = .slice b n cp ∧ n ≤ cp ∧ cp ≤ maxLen ∧ (0 < n → ∃ g, b = some ⟨g, 0, none⟩ ∧ base ≤ g) := by
  rcases h.2 with ⟨rfl, rfl⟩ | ⟨g, cap, cur, rfl, hb, hg, h1, h2, _⟩
  · exact ⟨none, 0, rfl, Nat.le_refl _, Nat.zero_le _, fun h => absurd h (Nat.lt_irrefl 0)⟩
  · exact ⟨_, cap, rfl, h1, h2, fun _ => ⟨g, rfl, hb⟩⟩
theorem one_ent (s : ByteArray) (c : Int) : ∀ u ∈ [Value.string s, Value.int .u32 c], u.oneCell' = true := by
  intro u hu
  rcases List.mem_cons.1 hu with rfl | hu
  · rfl
  · rw [List.mem_singleton.1 hu]; rfl
theorem ents_start (w : World) (base : Nat) (l : List Rw) : w.ownsRow base 93 2 (.slice none 0 0) 0 (entCells (entsOf l 0)) := World.ownsRow_nil _ _ _ _
theorem ents_step (l : List Rw) (i : Nat) (hi : i < l.length) : entCells (entsOf l i) ++ [.string ⟨l[i].key.toArray⟩, .int .u32 ((i + 2 : Nat) : Int)] = entCells (entsOf l (i + 1)) := by
  rw [entsOf_succ l i hi]
  unfold entCells
  rw [List.flatMap_append]
  simp [En.cell]

end Go.Proofs.Ytjcfnfpilladfaa
