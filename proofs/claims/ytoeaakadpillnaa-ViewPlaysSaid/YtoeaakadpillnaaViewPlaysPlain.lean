/- chapter 24: ViewPlays: acts that came in, the law's tables; Get, Close, Open where there is none. -/
import Derived.Test.YtoeaakadpillnaaRows
import Derived.Test.YtoeaakadpillnaaViewMapOpen
import Derived.Test.YtoeaakadpillnaaViewMapGet
import Derived.Test.YtoeaakadpillnaaViewMapNew
import Derived.Test.YtoeaakadpillnaaOpenRows
import Derived.Test.YtoeaakadpillnaaLockActs
import Derived.Test.YtoeaakadpillnaaViewMap
import Derived.Test.YtoeaakadpillnaaViewStaysPlain
import Derived.Test.YtoeaakadpillnaaViewNil
import Derived.Test.YtoeaakadpillnaaNumsIn
import Derived.Test.YtoeaakadpillnaaViewCopied
import Derived.Test.YtoeaakadpillnaaViewWorks
import Derived.Test.YtoeaakadpillnaaViewRef
import Derived.Test.YtoeaakadpillnaaViewOf
import Derived.Test.YtoeaakadpillnaaViewSame
import Derived.Test.YtoeaakadpillnaaViewSees
import Derived.Test.YtoeaakadpillnaaViewNums
import Derived.Test.YtoeaakadpillnaaLockRefTake
import Derived.Test.YtoeaakadpillnaaLockPlain
import Derived.Test.YtoeaakadpillnaaSortUTop
import Derived.Test.YtoeaakadpillnaaLockRef
import Derived.Test.YtoeaakadpillnaaKept
import Derived.Test.YtoeaakadpillnaaQuietTail
import Derived.Test.YtoeaakadpillnaaAppAny
import Derived.Deep.LoopGhost
import Derived.Deep.CutBlock
import Derived.Lib.SliceRun
import Derived.Laws.ResultCell
import Derived.Maps.OwnSet
import Derived.Maps.RangeWalk
import Derived.WalkKit
import Derived.WalkLawsBesides
import Derived.WalkSpells
import Derived.LoopTactic
import Derived.WalkMore
import Derived.LoopN
import Derived.Laws.BitsAllLaws
import Derived.Laws.IdiomStrings
import Derived.BigQuiet
import Derived.Deep.QuietTactic
import Derived.Deep.DeepCutAuto
import Derived.Deep.RegionHeld3
import Derived.Deep.DrawnRows
import Derived.Lib.Hide
import Derived.Outline
import Derived.Deep.DeepMust
import Derived.Handy
namespace Go.Proofs.Ytoeaakadpillnaa
open Go.RowKit
set_option linter.unusedVariables false
set_option linter.unusedSimpArgs false

open Go.Maps
/-- An act: shut?, its number, the view. -/
structure VActD where
  shut : Bool
  id : Int
  e : VE
/-- Acts that came in. -/
def VActsAt (w : World) (A : Option Addr) (L : List VActD) : Prop :=
  (0 < L.length → ∃ b o, A = some ⟨b, o, none⟩ ∧ b < w.heap.size ∧ ∀ i (h : i < L.length), w.cell? ⟨b, o + i * 5, none⟩ = some (.bool L[i].shut) ∧ w.cell? ⟨b, o + i * 5 + 1, none⟩ = some (.int .i64 L[i].id) ∧ w.cell? ⟨b, o + i * 5 + 2, none⟩ = some (.int .u64 (L[i].e.own : Nat)) ∧ w.cell? ⟨b, o + i * 5 + 3, none⟩ = some (.int .u64 (L[i].e.next : Nat)) ∧ w.cell? ⟨b, o + i * 5 + 4, none⟩ = some (.slice L[i].e.b L[i].e.xs.length L[i].e.c)) ∧ ∀ a ∈ L, NumsAt w a.e.sv a.e.xs ∧ -9223372036854775808 ≤ a.id ∧ a.id ≤ 9223372036854775807
theorem vacts_of_rows {R : TypeId → Value → Prop} {t : TypeId} {w : World} {a : Option Addr} {len cap : Nat} (h : IsRows R [.bool, .i64, .u64, .u64, .raw t] w a len cap)
    (hR : ∀ v, R t v → ∃ xs : List Nat, NumsAt w v xs ∧ ∀ x ∈ xs, x < 256 ^ 8) : ∃ L : List VActD, L.length = len ∧ len ≤ cap ∧ cap ≤ maxLen ∧ VActsAt w a L := by
  rcases h with ⟨rfl, rfl, rfl⟩ | ⟨x, rfl, hl, hc, hcell⟩
  · exact ⟨[], rfl, Nat.le_refl _, Nat.zero_le _, fun h => absurd h (Nat.lt_irrefl 0), fun c h => (by cases h)⟩
  · have hall : ∀ i, i < len → ∃ c : VActD, (w.cell? (x.add (i * 5 + 0)) = some (.bool c.shut) ∧ w.cell? (x.add (i * 5 + 1)) = some (.int .i64 c.id) ∧ w.cell? (x.add (i * 5 + 2)) = some (.int .u64 (c.e.own : Nat)) ∧ w.cell? (x.add (i * 5 + 3)) = some (.int .u64 (c.e.next : Nat)) ∧ w.cell? (x.add (i * 5 + 4)) = some (.slice c.e.b c.e.xs.length c.e.c)) ∧ NumsAt w c.e.sv c.e.xs ∧ -9223372036854775808 ≤ c.id ∧ c.id ≤ 9223372036854775807 := by
      intro i hi
      obtain ⟨v0, h0, s0, rfl⟩ := hcell i hi 0 .bool rfl
      obtain ⟨v1, h1, n1, rfl, hn1⟩ := hcell i hi 1 .i64 rfl
      have hn2 : IntKind.i64.min ≤ n1 ∧ n1 ≤ IntKind.i64.max := by simpa [Lit.wf] using hn1
      obtain ⟨v2, h2, n2, rfl, hw⟩ := hcell i hi 2 .u64 rfl
      obtain ⟨v3, h3, n3, rfl, hw3⟩ := hcell i hi 3 .u64 rfl
      obtain ⟨v4, h4, h5⟩ := hcell i hi 4 (.raw t) rfl
      obtain ⟨xs, hN, _⟩ := hR v4 h5
      obtain ⟨A, cp, rfl, hrest⟩ := hN
      exact ⟨⟨s0, n1, n2, n3, A, cp, xs⟩, ⟨h0, h1, h2, h3, h4⟩, ⟨A, cp, rfl, hrest⟩, hn2.1, hn2.2⟩
    obtain ⟨L, hL, hp⟩ := list_of len hall
    refine ⟨L, hL, hl, hc, fun h0 => ?_, fun c hcL => ?_⟩
    · have h00 := (hp 0 (by omega)).1.1
      have e0 : x.add (0 * 5 + 0) = x := rfl
      rw [e0] at h00
      obtain ⟨b, o, rfl⟩ := spot_none h00
      refine ⟨b, o, rfl, cell_lt h00, fun i hi => ?_⟩
      have := (hp i hi).1
      simp only [Addr.add_lit, Nat.add_zero] at this
      exact this
    · obtain ⟨i, hi, rfl⟩ := List.getElem_of_mem hcL
      exact (hp i hi).2
/-- What the two tables of the law hold. -/
structure VTab (w0 w : World) (pb pv : Nat) (T : VT) : Prop where
  ob : ∃ cs : Array Value, w.heap[pb]? = some (.cells cs 92 (0, 0)) ∧ cs.size = 65 ∧ ∀ k : Nat, k ≤ 64 → cs[k]? = some (.bool (T (k : Int)).isSome)
  vb : ∃ cs : Array Value, w.heap[pv]? = some (.cells cs 93 (0, 0)) ∧ cs.size = 195 ∧ ∀ k : Nat, k ≤ 64 → (∃ o n s, cs[k * 3]? = some (.int .u64 o) ∧ cs[k * 3 + 1]? = some (.int .u64 n) ∧ cs[k * 3 + 2]? = some s) ∧ ∀ e, T (k : Int) = some e → ∃ b c, cs[k * 3]? = some (.int .u64 (e.own : Nat)) ∧ cs[k * 3 + 1]? = some (.int .u64 (e.next : Nat)) ∧ cs[k * 3 + 2]? = some (.slice b e.xs.length c) ∧ NumsAt w0 (.slice b e.xs.length c) e.xs
theorem VTab.kept {w0 w w' : World} {pb pv : Nat} {T : VT} {p : Nat → Prop} (h : VTab w0 w pb pv T) (hk : OthersKept w w' p) (h1 : ¬ p pb) (h2 : ¬ p pv) : VTab w0 w' pb pv T := by
  obtain ⟨a, ha, ha2⟩ := h.ob
  obtain ⟨c, hc, hc2⟩ := h.vb
  exact ⟨⟨a, hk.heap ha h1, ha2⟩, ⟨c, hk.heap hc h2, hc2⟩⟩
theorem VTab.below {w0 w w' : World} {pb pv : Nat} {T : VT} (h : VTab w0 w pb pv T) (hb : Below w.heap.size w w') : VTab w0 w' pb pv T := h.kept (p := fun _ => False) (OthersKept.of_below hb) id id
theorem VTab.opn {w0 w : World} {pb pv : Nat} {T : VT} (h : VTab w0 w pb pv T) (k : Nat) (hk : k ≤ 64) : w.cell? ⟨pb, k, none⟩ = some (.bool (T (k : Int)).isSome) ∧ w.frozen? ⟨pb, k, none⟩ = false := by
  obtain ⟨cs, hc, hs, hv⟩ := h.ob
  exact ⟨by rw [blk_cell hc, hv k hk], blk_frozen hc k⟩
theorem VTab.view {w0 w : World} {pb pv : Nat} {T : VT} (h : VTab w0 w pb pv T) (k : Nat) (hk : k ≤ 64) (e : VE) (he : T (k : Int) = some e) : ∃ b c, w.cell? ⟨pv, k * 3, none⟩ = some (.int .u64 (e.own : Nat)) ∧ w.cell? ⟨pv, k * 3 + 1, none⟩ = some (.int .u64 (e.next : Nat)) ∧ w.cell? ⟨pv, k * 3 + 2, none⟩ = some (.slice b e.xs.length c) ∧ NumsAt w0 (.slice b e.xs.length c) e.xs := by
  obtain ⟨cs, hc, hs, hv⟩ := h.vb
  obtain ⟨b, c, h1, h2, h3, h4⟩ := (hv k hk).2 e he
  exact ⟨b, c, by rw [blk_cell hc, h1], by rw [blk_cell hc, h2], by rw [blk_cell hc, h3], h4⟩
theorem VTab.room {w0 w : World} {pb pv : Nat} {T : VT} (h : VTab w0 w pb pv T) (k : Nat) (hk : k ≤ 64) : ∃ o n s, w.cell? ⟨pv, k * 3, none⟩ = some (.int .u64 o) ∧ w.cell? ⟨pv, k * 3 + 1, none⟩ = some (.int .u64 n) ∧ w.cell? ⟨pv, k * 3 + 2, none⟩ = some s ∧ w.frozen? ⟨pv, k * 3, none⟩ = false ∧ w.frozen? ⟨pv, k * 3 + 1, none⟩ = false ∧ w.frozen? ⟨pv, k * 3 + 2, none⟩ = false := by
  obtain ⟨cs, hc, hs, hv⟩ := h.vb
  obtain ⟨o, n, s, h1, h2, h3⟩ := (hv k hk).1
  exact ⟨o, n, s, by rw [blk_cell hc, h1], by rw [blk_cell hc, h2], by rw [blk_cell hc, h3], blk_frozen hc _, blk_frozen hc _, blk_frozen hc _⟩
theorem VTab.shut {w0 w : World} {pb pv : Nat} {T : VT} (h : VTab w0 w pb pv T) (hne : pb ≠ pv) (k : Nat) (hk : k ≤ 64) : VTab w0 (w.setCell ⟨pb, k, none⟩ (.bool false)) pb pv (T.del (k : Int)) := by
  obtain ⟨cs, hc, hs, hv⟩ := h.ob
  obtain ⟨ds, hd, hds, hdv⟩ := h.vb
  refine ⟨⟨_, blk_set hc k (.bool false), by simpa using hs, fun j hj => ?_⟩, ⟨ds, set_keep hd (fun e => hne e.symm), hds, fun j hj => ⟨(hdv j hj).1, fun e he => (hdv j hj).2 e ?_⟩⟩⟩
  · unfold VT.del
    rw [Array.getElem?_setIfInBounds]
    by_cases e : k = j
    · subst e
      rw [if_pos rfl, if_pos (by omega), if_pos rfl]
      rfl
    · rw [if_neg e, if_neg (by omega)]
      exact hv j hj
  · unfold VT.del at he
    split at he
    · cases he
    · exact he
theorem VTab.opened {w0 w : World} {pb pv : Nat} {T : VT} (h : VTab w0 w pb pv T) (hne : pb ≠ pv) (k : Nat) (hk : k ≤ 64) (own next : Nat) (b b' : Option Addr) (c c' : Nat) (xs : List Nat) (hN : NumsAt w0 (.slice b xs.length c) xs) :
    VTab w0 ((((w.setCell ⟨pb, k, none⟩ (.bool true)).setCell ⟨pv, k * 3, none⟩ (.int .u64 (own : Nat))).setCell ⟨pv, k * 3 + 1, none⟩ (.int .u64 (next : Nat))).setCell ⟨pv, k * 3 + 2, none⟩ (.slice b xs.length c)) pb pv (T.put (k : Int) ⟨own, next, b', c', xs⟩) := by
  obtain ⟨cs, hc, hs, hv⟩ := h.ob
  obtain ⟨ds, hd, hds, hdv⟩ := h.vb
  refine ⟨⟨_, set_keep (set_keep (set_keep (blk_set hc k (.bool true)) hne) hne) hne, by simpa using hs, fun j hj => ?_⟩, ⟨_, blk_set (blk_set (blk_set (set_keep hd (fun e => hne e.symm)) _ _) _ _) _ _, by simpa using hds, fun j hj => ?_⟩⟩
  · unfold VT.put
    rw [Array.getElem?_setIfInBounds]
    by_cases e : k = j
    · subst e
      rw [if_pos rfl, if_pos (by omega), if_pos rfl]
      rfl
    · rw [if_neg e, if_neg (by omega)]
      exact hv j hj
  · by_cases e : k = j
    · subst e
      have q0 : (((ds.setIfInBounds (k * 3) (.int .u64 (own : Nat))).setIfInBounds (k * 3 + 1) (.int .u64 (next : Nat))).setIfInBounds (k * 3 + 2) (.slice b xs.length c))[k * 3]? = some (.int .u64 (own : Nat)) := by
        rw [Array.getElem?_setIfInBounds_ne (by omega), Array.getElem?_setIfInBounds_ne (by omega), Array.getElem?_setIfInBounds_self_of_lt (by omega)]
      have q1 : (((ds.setIfInBounds (k * 3) (.int .u64 (own : Nat))).setIfInBounds (k * 3 + 1) (.int .u64 (next : Nat))).setIfInBounds (k * 3 + 2) (.slice b xs.length c))[k * 3 + 1]? = some (.int .u64 (next : Nat)) := by
        rw [Array.getElem?_setIfInBounds_ne (by omega), Array.getElem?_setIfInBounds_self_of_lt (by simp; omega)]
      have q2 : (((ds.setIfInBounds (k * 3) (.int .u64 (own : Nat))).setIfInBounds (k * 3 + 1) (.int .u64 (next : Nat))).setIfInBounds (k * 3 + 2) (.slice b xs.length c))[k * 3 + 2]? = some (.slice b xs.length c) := by
        rw [Array.getElem?_setIfInBounds_self_of_lt (by simp; omega)]
      refine ⟨⟨_, _, _, q0, q1, q2⟩, fun e he => ?_⟩
      unfold VT.put at he
      rw [if_pos rfl] at he
      injection he with he
      subst he
      exact ⟨b, c, q0, q1, q2, hN⟩
    · have q : ∀ t, t < 3 → (((ds.setIfInBounds (k * 3) (.int .u64 (own : Nat))).setIfInBounds (k * 3 + 1) (.int .u64 (next : Nat))).setIfInBounds (k * 3 + 2) (.slice b xs.length c))[j * 3 + t]? = ds[j * 3 + t]? := fun t ht => by
        rw [Array.getElem?_setIfInBounds_ne (by omega), Array.getElem?_setIfInBounds_ne (by omega), Array.getElem?_setIfInBounds_ne (by omega)]
      have e0 := q 0 (by omega)
      simp only [Nat.add_zero] at e0
      rw [e0, q 1 (by omega), q 2 (by omega)]
      refine ⟨(hdv j hj).1, fun e2 he => (hdv j hj).2 e2 ?_⟩
      unfold VT.put at he
      rw [if_neg (by omega)] at he
      exact he
theorem tri_get {α : Type} (a b c : α) : ∀ n k : Nat, k < n → ((List.replicate n [a, b, c]).flatten)[k * 3]? = some a ∧ ((List.replicate n [a, b, c]).flatten)[k * 3 + 1]? = some b ∧ ((List.replicate n [a, b, c]).flatten)[k * 3 + 2]? = some c
  | 0, k, h => absurd h (Nat.not_lt_zero k)
  | n + 1, 0, h => by simp [List.replicate_succ]
  | n + 1, k + 1, h => by
    have ih := tri_get a b c n k (by omega)
    rw [List.replicate_succ, List.flatten_cons]
    refine ⟨?_, ?_, ?_⟩
    · rw [List.getElem?_append_right (by simp; omega)]; simpa [show (k + 1) * 3 - 3 = k * 3 by omega] using ih.1
    · rw [List.getElem?_append_right (by simp; omega)]; simpa [show (k + 1) * 3 + 1 - 3 = k * 3 + 1 by omega] using ih.2.1
    · rw [List.getElem?_append_right (by simp; omega)]; simpa [show (k + 1) * 3 + 2 - 3 = k * 3 + 2 by omega] using ih.2.2
theorem zc_b : Try.zeroCells92 = (List.replicate 65 (Value.bool false)).toArray := by kernel_rfl
theorem zc_v : Try.zeroCells93 = ((List.replicate 65 [Value.int .u64 0, Value.int .u64 0, Value.slice none 0 0]).flatten).toArray := by kernel_rfl
theorem VTab.start (w0 w1 : World) : VTab w0 ((w1.alloc (.cells Try.zeroCells92 92)).alloc (.cells Try.zeroCells93 93)) w1.heap.size (w1.heap.size + 1) (fun _ => none) := by
  have e : (w1.alloc (.cells Try.zeroCells92 92)).heap.size = w1.heap.size + 1 := by simp
  refine ⟨⟨_, heap_keep (heap_alloc_new w1 _), by rw [zc_b]; simp, fun k hk => ?_⟩, ⟨_, by rw [← e]; exact heap_alloc_new _ _, by rw [zc_v]; kernel_rfl, fun k hk => ⟨?_, fun e he => (by cases he)⟩⟩⟩
  · rw [zc_b, List.getElem?_toArray, List.getElem?_replicate, if_pos (by omega)]
    rfl
  · rw [zc_v]
    simp only [List.getElem?_toArray]
    exact ⟨0, 0, _, tri_get _ _ _ 65 k (by omega)⟩
theorem VwAt.pos {w : World} {g m base n : Nat} {T : VT} (h : VwAt w g m base T n) {k : Int} (hk : (T k).isSome = true) : ∃ n', n = n' + 1 := by
  obtain ⟨D, ho, hD⟩ := h.ex
  have h1 := size_del (k := .int .i64 k) (ho.tidy vw_key)
  rw [hD.has k, hk, hD.size] at h1
  simp at h1
  exact ⟨n - 1, by omega⟩

set_option maxHeartbeats 4000000 in
set_option maxRecDepth 100000 in
theorem vwGetN (w : World) {g m base n : Nat} {T : VT} (h : VwAt w g m base T n) (k : Int) (hk1 : -9223372036854775808 ≤ k) (hk2 : k ≤ 9223372036854775807) (he : T k = none) :
    Calls Try.prog 48 #[.pointer (some ⟨g, 0, none⟩), .int .i64 k] w fun r w' => ∃ b c, r = .returned (.tuple #[viewV 0 0 (.slice b 0 c), .bool false]) ∧ Below w.heap.size w w' := by
  obtain ⟨W1, hW1⟩ : ∃ W, W = w.alloc (.cells #[.int .u64 0, .int .u64 0, .slice none 0 0] 50) := ⟨_, rfl⟩
  obtain ⟨W2, hW2⟩ : ∃ W, W = W1.alloc (.cells #[.int .u64 0, .int .u64 0, .slice none 0 0] 50) := ⟨_, rfl⟩
  have s1 : W1.heap.size = w.heap.size + 1 := by rw [hW1]; simp
  have s2 : W2.heap.size = w.heap.size + 2 := by rw [hW2]; simp [s1]
  have B1 : W1.heap[w.heap.size]? = some (.cells #[.int .u64 0, .int .u64 0, .slice none 0 0] 50 (0, 0)) := by rw [hW1]; exact heap_alloc_new w _
  have B2 : W2.heap[w.heap.size + 1]? = some (.cells #[.int .u64 0, .int .u64 0, .slice none 0 0] 50 (0, 0)) := by rw [hW2, ← s1]; exact heap_alloc_new W1 _
  have B1' : W2.heap[w.heap.size]? = some (.cells #[.int .u64 0, .int .u64 0, .slice none 0 0] 50 (0, 0)) := by rw [hW2]; exact heap_keep B1
  have hB1 : Below w.heap.size w W1 := by rw [hW1]; exact (Below.refl _ _).alloc (Nat.le_refl _) _
  have hB : Below w.heap.size w W2 := by
    rw [hW2, hW1]
    exact ((Below.refl _ _).alloc (Nat.le_refl _) _).alloc (by simp) _
  have HB := Lib.hid hB
  have HS2 := Lib.hid s2
  have P1 := Lib.hid B1'
  have P2 := Lib.hid B2
  have h1 := h.below hB1
  have M := Lib.hid (vwMade W1 h1)
  have c0 := h1.c0
  have lk := h1.lookN hk1 hk2 he
  have CO := Lib.hid (vcopied_any 0 0 (.slice none 0 0) [] W2 (by simp) ⟨none, 0, rfl, Nat.le_refl _, Nat.zero_le _, fun _ => ⟨rfl, rfl⟩, fun h => absurd h (Nat.lt_irrefl 0)⟩)
  rw [hW2] at P1 P2 HB HS2 CO
  rw [hW1] at P1 P2 HB HS2 CO M c0 lk
  clear hB B1 B2 B1' s1 s2 hW1 hW2 h1 hB1 h he
  go_enter Try.func48, Try.ntmps48
  go_wp2_with fail
  refine M.out.mono ?_
  rintro e w1 ⟨rfl, rfl⟩
  go_upto_region 4 with fail
  generalize (w.alloc (.cells #[.int .u64 0, .int .u64 0, .slice none 0 0] 50)).alloc (.cells #[.int .u64 0, .int .u64 0, .slice none 0 0] 50) = W5 at *
  obtain ⟨x0, x1, x2, _, _, _⟩ := cells3 P2.out
  clear c0 lk
  go_wp2_with fail
  refine CO.out.mono ?_
  rintro e w3 ⟨b3, c3, rfl, ho, hb3⟩
  have y1 := (hb3.block _ (blk_lt P1.out)).trans P1.out
  obtain ⟨z0, z1, z2, z3, z4, z5⟩ := cells3 y1
  have XB := Lib.hid (set3_blk (x := .int .u64 0) (y := .int .u64 0) (z := .slice b3 0 c3) y1)
  have hk := set3 w3 w.heap.size (.int .u64 0) (.int .u64 0) (.slice b3 0 c3)
  have HB3 := Lib.hid (OthersKept.below HB.out ((OthersKept.of_below (p := fun k => w.heap.size ≤ k) hb3).trans hk (fun k hk h => by omega)) (fun k hk h => by omega))
  clear ho hb3 y1 hk x0 x1 x2
  go_wp2_with fail
  refine bodyPost_ret (v := .tuple #[viewV 0 0 (.slice b3 0 c3), .bool false]) (results_cell_tmp_row (p := 4) (u := 5) (by kernel_rfl) _ _ w.heap.size 50 _ (0, 0) _ rfl XB.out Try.underlying50 rfl (by kernel_rfl)) rfl ?_
  exact ⟨_, _, rfl, HB3.out⟩

set_option maxHeartbeats 4000000 in
set_option maxRecDepth 100000 in
theorem vwCloseN (w : World) {g m base n : Nat} {T : VT} (h : VwAt w g m base T n) (k : Int) (hk1 : -9223372036854775808 ≤ k) (hk2 : k ≤ 9223372036854775807) (he : T k = none) :
    Calls Try.prog 49 #[.pointer (some ⟨g, 0, none⟩), .int .i64 k] w fun r w' => r = .returned (.int .i64 3) ∧ Below w.heap.size w w' := by
  have M := Lib.hid (vwMade w h)
  have c0 := h.c0
  have lk := h.lookN hk1 hk2 he
  have HB := Lib.hid (show Below w.heap.size w (w.alloc (.cells #[.int .u64 0, .int .u64 0, .slice none 0 0] 50)) from (Below.refl _ _).alloc (Nat.le_refl _) _)
  clear h he
  go_enter Try.func49, Try.ntmps49
  go_wp2_with fail
  refine M.out.mono ?_
  rintro e w1 ⟨rfl, rfl⟩
  go_wp2_with fail
  go_ret
  exact ⟨rfl, HB.out⟩

set_option maxHeartbeats 4000000 in
set_option maxRecDepth 100000 in
theorem vwOpenFull (w : World) {g m base n : Nat} {T : VT} (h : VwAt w g m base T n) (own next : Nat) (b : Option Addr) (ln c : Nat) (hall : ∀ j : Nat, 1 ≤ j → j ≤ 64 → T j ≠ none) :
    Calls Try.prog 47 #[.pointer (some ⟨g, 0, none⟩), viewV own next (.slice b ln c)] w fun r w' => r = .returned (.tuple #[.int .i64 0, .int .i64 4]) ∧ Below w.heap.size w w' := by
  obtain ⟨W1, hW1⟩ : ∃ W, W = w.alloc (.cells #[.int .u64 own, .int .u64 next, .slice b ln c] 50) := ⟨_, rfl⟩
  have hB1 : Below w.heap.size w W1 := by rw [hW1]; exact (Below.refl _ _).alloc (Nat.le_refl _) _
  have s1 : W1.heap.size = w.heap.size + 1 := by rw [hW1]; simp
  have HV := Lib.hid (h.below hB1)
  have M := Lib.hid (vwMade W1 HV.out)
  have HB1 := Lib.hid hB1
  have HL := Lib.hid hall
  clear h hB1 hall
  go_enter Try.func47, Try.ntmps47
  go_upto_region 1 with fail
  rw [← hW1]
  clear hW1
  go_wp2_with fail
  refine M.out.mono ?_
  rintro e w1 ⟨rfl, rfl⟩
  go_wp2_with fail
  go_loopw [6] (fun s6 wr => ∃ j : Nat, s6 = .int .i64 j ∧ 1 ≤ j ∧ j ≤ 65 ∧ Below W1.heap.size W1 wr) (fun v _ => 66 - (intOf v).toNat)
  case atStart => exact ⟨1, rfl, Nat.le_refl _, by omega, Below.refl _ _⟩
  case round =>
    obtain ⟨j, rfl, hj1, hj2, hb⟩ := hrel
    have HB := Lib.hid hb
    have hv := HV.out.below hb
    have c0 := hv.c0
    by_cases hj : j ≤ 64
    · have hji : (j : Int) ≤ 64 := by omega
      have hne := HL.out j hj1 hj
      obtain ⟨e, he⟩ : ∃ e, T (j : Int) = some e := by
        cases hT : T (j : Int) with
        | none => exact absurd hT hne
        | some e => exact ⟨e, rfl⟩
      have lk := hv.look (k := (j : Int)) (by omega) (by omega) he
      obtain ⟨o2, n2, b2, c2, xs2⟩ := e
      simp only [VE.val, VE.sv] at lk
      have HB2 := Lib.hid (below_trans2 hb ((Below.refl wr.heap.size wr).alloc (Nat.le_refl _) (.cells #[.int .u64 o2, .int .u64 n2, .slice b2 xs2.length c2] 50)))
      clear hv hb he hne
      go_wp2_with fail
      go_roundw
      case rel => exact ⟨j + 1, by go_num, by omega, by omega, HB2.out⟩
      case measure => simp [intOf] <;> omega
    · have hji : ¬ (j : Int) ≤ 64 := by omega
      have HB2 := Lib.hid (OthersKept.below HB1.out (OthersKept.of_below (p := fun _ => False) hb) (fun _ _ h => h))
      clear hv hb
      go_wp2_with fail
      (try simp only [Exit.inBlock, Exit.then]); refine bodyPost_ret (results_tmp2 rfl _ _ _) rfl ?_
      exact ⟨rfl, HB2.out⟩

end Go.Proofs.Ytoeaakadpillnaa
