/- chapter 23: the keys' iterator. -/
import Derived.Test.YtoeaakadpillnaaRows
import Derived.Test.YtoeaakadpillnaaTxnMap
import Derived.Shelf.SlIter.Collect
import Derived.Maps.OwnSet
import Derived.WalkKit
import Derived.WalkLawsBesides
import Derived.WalkSpells
import Derived.LoopTactic
import Derived.WalkMore
import Derived.LoopN
import Derived.Laws.BitsAllLaws
import Derived.Laws.IdiomStrings
import Derived.BigQuiet
import Derived.Deep.QuietTactic
import Derived.Deep.DeepCutAuto
import Derived.Deep.RegionHeld3
import Derived.Deep.DrawnRows
import Derived.Lib.Hide
import Derived.Outline
import Derived.Deep.DeepMust
import Derived.Handy
namespace Go.Proofs.Ytoeaakadpillnaa
open Go.RowKit
set_option linter.unusedVariables false
set_option linter.unusedSimpArgs false

open Go.Maps Go.Sort Go.Shelf
/-- A number as a value. -/
abbrev encU (n : Nat) : Value := .int .u64 (n : Nat)
/-- The keys met so far: none twice; all that are no longer to come. -/
def CollU (T : TT) (left : Lit → Bool) (ss : List Nat) : Prop := ss.Nodup ∧ ∀ x : Nat, x ∈ ss ↔ ((getT T x).isSome = true ∧ left (.int .u64 (x : Nat)) = false)
theorem CollU.start {D : DataW Value} {T : TT} (h : TxD D T) : CollU T (Maps.has D) [] := ⟨List.nodup_nil, fun x => by rw [h.has x]; cases (getT T x).isSome <;> simp⟩
theorem CollU.step {T : TT} {left : Lit → Bool} {ss : List Nat} (h : CollU T left ss) {x : Nat} (hlk : left (.int .u64 (x : Nat)) = true) (hx : (getT T x).isSome = true) : CollU T (fun z => left z && !z.sameKey (.int .u64 (x : Nat))) (ss ++ [x]) := by
  have hnew : x ∉ ss := fun hm => by have := ((h.2 x).1 hm).2; rw [hlk] at this; cases this
  refine ⟨List.nodup_append.2 ⟨h.1, by simp, fun a ha b hb => by simp at hb; subst hb; exact fun e => hnew (e ▸ ha)⟩, fun y => ?_⟩
  by_cases hy : y = x
  · subst hy; simp [hx, Lit.sameKey]
  · have h2 : ¬ ((y : Int) = (x : Int)) := by omega
    simp [h.2 y, hy, h2, Lit.sameKey]
/-- What comes of the table's keys. -/
def KeysOfT (T : TT) (ss : List Nat) : Prop := ss.Nodup ∧ ∀ x, x ∈ ss ↔ (getT T x).isSome = true

set_option maxRecDepth 100000 in
set_option maxHeartbeats 2000000 in
/-- The map's iterator: each key comes once. -/
theorem keys_it (n : Nat) (hn : 1 ≤ n) (l Bm b : Nat) (D0 : DataW Value) (T : TT) (hD : TxD D0 T) (J : List Nat → World → Prop)
    (hY : ∀ pre x W, J pre W → pre.length < T.length → YieldAt Fence.wide (n - 1) Try.prog l #[encU x] W fun e W' => e = .returned (.bool true) ∧ J (pre ++ [x]) W' ∧ KeepsWalks W W')
    (W : World) (hJ : AbidesFrom W.heap.size J) (hm : W.cell? ⟨Bm, 0, none⟩ = some (.map (some b))) (hown : W.ownsMap Try.prog 27 heldX b T.length D0) (h0 : J [] W) :
    CallsIn Fence.wide n Try.prog 88 #[.func (.yield l) #[] #[], .pointer (some ⟨Bm, 0, none⟩)] W fun e W' => (∃ v, e = .returned v) ∧ ∃ ss : List Nat, KeysOfT T ss ∧ J ss W' := by
  refine callsIn_of_wp Try.func88 rfl trivial ?_ rfl
  simp only [Try.ntmps88, List.size_toArray, List.length_cons, List.length_nil, Nat.reduceAdd, Nat.reduceSub, Array.replicate_succ, Array.replicate_zero, List.push_toArray, List.append_toArray, List.nil_append, List.cons_append]
  gi_wp2_with (first
    | (gi_at_range; refine wpListIn_range_own _ rfl _ 119 rfl 27 68 tx_key Try.underlying119 _ b _ _ rfl hown ?_; intro w0 hrg0 hg0 hs0)
    | gi_in)
  go_frame
  gi_loopw [3] (fun _ wr => ∃ (left : Lit → Bool) (cnt : Nat) (ss : List Nat), wr.ranges Try.prog 27 heldX b W.heap.size T.length D0 left cnt ∧ ss.length + cnt ≤ T.length ∧ CollU T left ss ∧ J ss wr)
    (fun _ wr => wr.rangeLeft b W.heap.size)
  case atStart =>
    exact ⟨_, _, [], hrg0, by rw [← hD.size]; simp, CollU.start hD, hJ [] W w0 none h0 hg0 (fun r e => by cases e)⟩
  case round =>
    obtain ⟨left, cnt, ss, hrg, hcs, hC, hJs⟩ := hrel
    gi_wp2_with (first
      | (gi_at_next; refine wpListIn_next_ranges _ rfl _ rfl 27 tx_key heldX (Value.int .u64) (id : Value → Value) (fun key kl hk => by obtain ⟨x, hx, _⟩ := Maps.keyOf_int_inv Try.underlying27 hk; exact ⟨x, hx⟩) (fun v y hv => ⟨v, rfl⟩) b W.heap.size T.length _ _ _ rfl hrg ?_ ?_)
      | gi_in)
    · intro hc0 hl0
      gi_wp2
      go_end0
      exact ⟨⟨_, rfl⟩, ss, ⟨hC.1, fun x => by rw [hC.2 x, hl0]; simp⟩, hJs⟩
    · intro x c kl yd yp w2 cnt2 hkey hlk hv hat hrg2 hlt hg2 hs2 hen
      obtain ⟨x', ex, rfl, hxl⟩ := Maps.keyOf_int_inv Try.underlying27 hkey
      obtain rfl : x = x' := by injection ex
      obtain ⟨k, rfl⟩ : ∃ k : Nat, x = (k : Int) := by
        unfold Lit.wf at hxl
        simp [IntKind.min, IntKind.max, IntKind.bits, IntKind.signed] at hxl
        exact ⟨x.toNat, by omega⟩
      have hhas : (getT T k).isSome = true := by rw [← hD.has]; exact has_true_of_atKey hat
      have hJ2 : J ss w2 := hJ ss wr w2 (some W.heap.size) hJs hg2 (fun r e => by cases e; exact ⟨Nat.le_refl _, hrg.iter_walk⟩)
      obtain ⟨fn, tmps, assign, body, hy, hR⟩ := hY ss k w2 hJ2 (by omega)
      clear hs2
      gi_wp2
      refine hR.mono ?_
      rintro e W3 ⟨rfl, hJ3, hk3⟩
      gi_wp2
      have hrg3 := hrg2.of_walks hk3
      go_roundw
      case rel => exact ⟨_, cnt2, ss ++ [k], hrg3, by simp; omega, hC.step hlk hhas, hJ3⟩
      case measure => rw [hrg3.left_eq, hrg.left_eq]; exact hlt

theorem keys_gives (n : Nat) (hn : 1 ≤ n) (Bm b : Nat) (D0 : DataW Value) (T : TT) (hD : TxD D0 T) (w : World) (hBm : Bm < w.heap.size) (hm : w.cell? ⟨Bm, 0, none⟩ = some (.map (some b))) (hown : w.ownsMap Try.prog 27 heldX b T.length D0) :
    SeqGives Fence.wide n Try.prog 88 #[.pointer (some ⟨Bm, 0, none⟩)] encU (KeysOfT T) T.length w := fun l J W hW hJ hY h0 => by
  have hown' : W.ownsMap Try.prog 27 heldX b T.length D0 := by
    have hbl := hown.lt
    obtain ⟨es, clock, hb, Ft, hs, hD⟩ := hown
    exact ⟨es, clock, (hW.block b hbl).trans hb, Ft, hs, hD⟩
  exact keys_it n hn l Bm b D0 T hD J hY W hJ ((hW.cell (p := ⟨Bm, 0, none⟩) hBm).trans hm) hown' h0

set_option maxHeartbeats 1000000 in
theorem keys_call (mb : Option Nat) (w : World) :
    Calls Try.prog 70 #[.map mb] w fun e w' => e = .returned (.func (.func 88) #[] #[.pointer (some ⟨w.heap.size, 0, none⟩)]) ∧ w' = w.alloc (.cells #[.map mb] 119) := by
  go_enter Try.func70, Try.ntmps70
  go_wp2_with fail
  go_ret
  exact ⟨rfl, rfl⟩

end Go.Proofs.Ytoeaakadpillnaa
