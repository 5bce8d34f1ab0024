/- The locks: Held. -/
import Derived.Test.YtoeaakadpillnaaRows
import Derived.Test.YtoeaakadpillnaaLockWalks
import Derived.Test.YtoeaakadpillnaaShelf
import Derived.Test.YtoeaakadpillnaaAppAny
import Derived.Sort.OwnSorted
import Derived.Maps.RangeWalk
import Derived.Sort.KeysCollected
import Derived.WalkKit
import Derived.WalkLawsBesides
import Derived.WalkSpells
import Derived.LoopTactic
import Derived.WalkMore
import Derived.LoopN
import Derived.Laws.BitsAllLaws
import Derived.Laws.IdiomStrings
import Derived.BigQuiet
import Derived.Deep.QuietTactic
import Derived.Deep.DeepCutAuto
import Derived.Deep.RegionHeld3
import Derived.Deep.DrawnRows
import Derived.Lib.Hide
import Derived.Outline
import Derived.Deep.DeepMust
import Derived.Handy
namespace Go.Proofs.Ytoeaakadpillnaa
open Go.RowKit
set_option linter.unusedVariables false
set_option linter.unusedSimpArgs false

/-- What was collected so far. -/
def Got (T : Lk) (tx : Nat) (left : Lit → Bool) (ss : List Bs) : Prop := ss.Nodup ∧ ∀ x : Bs, x ∈ ss ↔ (who T x = some tx ∧ left (.string x) = false)
theorem Got.start {D : DataW Unit} {T : Lk} (h : LockD D T) (tx : Nat) : Got T tx (Maps.has D) [] := by
  refine ⟨List.nodup_nil, fun x => ⟨fun h => (by cases h), fun ⟨h1, h2⟩ => ?_⟩⟩
  rw [h.has, h1] at h2
  cases h2
theorem Got.step {T : Lk} {tx : Nat} {left : Lit → Bool} {ss : List Bs} (h : Got T tx left ss) (x : Bs) (hl : left (.string x) = true) (c : Nat) (hc : who T x = some c) :
    Got T tx (fun z => left z && !z.sameKey (.string x)) (if c = tx then ss ++ [x] else ss) := by
  have hs : ∀ y : Bs, (Lit.string y).sameKey (.string x) = decide (y = x) := by
    intro y
    by_cases e : y = x
    · subst e; simp [Lit.sameKey]
    · simp [Lit.sameKey, e]
  have hnx : x ∉ ss := fun hx => by have := ((h.2 x).1 hx).2; rw [hl] at this; cases this
  by_cases hct : c = tx
  · subst hct
    rw [if_pos rfl]
    refine ⟨?_, fun y => ?_⟩
    · rw [List.nodup_append]
      exact ⟨h.1, by simp, fun a ha b hb e => by
        have hb' : b = x := by simpa using hb
        subst hb'; subst e; exact hnx ha⟩
    · show _ ↔ who T y = some c ∧ (left (.string y) && !(Lit.string y).sameKey (.string x)) = false
      rw [List.mem_append, h.2 y, hs y]
      by_cases e : y = x
      · subst e; simp [hc, hl]
      · simp [e]
  · rw [if_neg hct]
    refine ⟨h.1, fun y => ?_⟩
    show _ ↔ who T y = some tx ∧ (left (.string y) && !(Lit.string y).sameKey (.string x)) = false
    rw [h.2 y, hs y]
    by_cases e : y = x
    · subst e
      rw [hc, hl]
      simp [hct]
    · simp [e]
theorem Got.all {T : Lk} {tx : Nat} {left : Lit → Bool} {ss : List Bs} (h : Got T tx left ss) (hT : T.Rising) (hl : ∀ z, left z = false) : (ss.mergeSort fun x y => decide (x ≤ y)) = held T tx :=
  held_sort hT h.1 fun x => (h.2 x).trans ⟨fun h => h.1, fun h => ⟨h, hl _⟩⟩
theorem val_of {D : DataW Unit} {T : Lk} (h : LockD D T) {x : Bs} {c : Int} (hat : ∀ zd, D.atKey (.string x) zd = .lit (.int .u64 c)) : ∃ t : Nat, c = (t : Int) ∧ who T x = some t := by
  have hh := Go.Maps.has_true_of_atKey hat
  rw [h.has] at hh
  cases hw : who T x with
  | none => rw [hw] at hh; cases hh
  | some t =>
    have := h.val x t hw (.lit (.int .u64 0))
    rw [hat] at this
    injection this with this
    injection this with _ this
    exact ⟨t, this, rfl⟩

set_option maxRecDepth 100000 in
set_option maxHeartbeats 2000000 in
theorem lkHeld (w : World) {g m : Nat} {T : Lk} (tx : Nat) (h : LkAt w g m T) :
    Calls Try.prog 20 #[.pointer (some ⟨g, 0, none⟩), .int .u64 tx] w fun e w' => ∃ v, e = .returned v ∧ w'.ownsRow w.heap.size 9 1 v (held T tx).length (strs (held T tx)) ∧ Below w.heap.size w w' := by
  have M := Lib.hid (lkMade w h)
  have c0 := h.c0
  have H := Lib.hid h
  obtain ⟨D, ho, hD⟩ := h.ex
  have HO := Lib.hid ho
  have HD := Lib.hid hD
  have hmlt := h.lt.2
  have hsz : Maps.size D ≤ 1024 := by rw [hD.size]; exact h.small
  obtain ⟨i0, hi, hz0, hz1, hz2⟩ := info_parts (P := Try.prog) (e := 9) (z := .string ⟨#[]⟩) (size := 1) (bytes := 16) (by kernel_rfl)
  clear h ho hD
  go_enter Try.func20, Try.ntmps20
  go_wp2_with fail
  refine M.out.mono ?_
  rintro e w1 ⟨rfl, rfl⟩
  go_wp2_with (at_range; refine wpList_range_own _ rfl _ 106 rfl 9 27 lk_key Try.underlying106 _ m _ _ rfl HO.out ?_; intro w0 hrg0 hg0 hs0)
  go_frame
  have hlw : m < w.heap.size := hmlt
  have HB0 := Lib.hid (show Below w.heap.size w w0 from (Below.refl _ _).grown hg0 (Nat.le_refl _) (fun j hj => by cases hj))
  clear hs0 hg0
  go_loopw [4] (fun s4 wr => ∃ (left : Lit → Bool) (cnt : Nat) (ss : List Bs), wr.ranges Try.prog 9 (plainElem Try.prog 27) m w.heap.size T.length D left cnt ∧ ss.length + cnt ≤ Maps.size D ∧ wr.ownsRow w.heap.size 9 1 s4 ss.length (strs ss) ∧ Got T tx left ss ∧ Below w.heap.size w wr) (fun _ wr => wr.rangeLeft m w.heap.size)
  case atStart => exact ⟨_, _, [], hrg0, by simp, World.ownsRow_nil _ _ _ _, Got.start HD.out tx, HB0.out⟩
  case round =>
    obtain ⟨left, cnt, ss, hrg, hcs, hrow, hG, hB⟩ := hrel
    have HR := Lib.hid hrg
    have HW := Lib.hid hrow
    have HG := Lib.hid hG
    have HB := Lib.hid hB
    clear hrg hrow hG hB hrg0 HB0
    go_wp2_with (at_next; refine wpList_next_ranges _ rfl _ rfl 9 lk_key (plainElem Try.prog 27) encStr (Value.int .u64) (fun key kl hk => by obtain ⟨x, hx, _⟩ := Maps.keyOf_str Try.underlying9 hk; exact ⟨x, hx⟩) (fun v y hv => by obtain ⟨c, rfl, _⟩ := plainElem_int_inv Try.underlying27 hv; exact ⟨c, rfl⟩) m w.heap.size T.length _ _ _ rfl HR.out ?_ ?_)
    · intro hc0 hl0
      have HSD := Lib.hid (HG.out.all H.out.rising hl0)
      have hslen : Hid (ss.length = (held T tx).length) := by show _ = _; rw [← HSD.out, List.length_mergeSort]
      have hle : ss.length ≤ 1024 := by omega
      clear hc0 hl0
      rcases HW.out.2 with ⟨rfl, hn0⟩ | ⟨gv, cp, cur, rfl, hbase, hbl, g1, g2, g3, g4⟩
      · have hnil : Hid (held T tx = []) := List.length_eq_zero_iff.1 (by rw [← hslen.out]; exact hn0)
        have N := Lib.hid fun W => Try.slices_Sort_string_none none 0 W
        go_wp2_with fail
        refine (N.out _).mono ?_
        rintro e w5 ⟨rfl, rfl⟩
        go_wp2_with fail
        go_ret
        exact ⟨_, rfl, by rw [hnil.out]; exact World.ownsRow_nil _ _ _ _, HB.out⟩
      · have hH : Go.Sort.Holds encStr wr gv 0 ss.toArray := holds_of_block hbl (by simpa [strs, encStr] using g4)
        have N := Lib.hid (Try.slices_Sort_string gv 0 cp ss wr hH (Array.getElem?_eq_some_iff.1 hbl).1 (by omega))
        have HF := Lib.hid fun nn os => ownsRow_sorted (ss := ss) (ts := held T tx) (n := nn) (os := os) hslen.out.symm hbase hbl g1 g2 g3
        have HK := Lib.hid fun nn os => HB.out.grown (grownBy_sorted (w := wr) (g := gv) (n := nn) (os := os) (held T tx).toArray) HB.out.size (fun j hj => by cases hj; exact hbase)
        rw [HSD.out] at N
        clear hH hbl g4 g3
        go_wp2_with fail
        refine N.out.mono ?_
        rintro e w5 ⟨rfl, nn, os, rfl⟩
        have HF5 := Lib.hid (HF.out nn os)
        have HK5 := Lib.hid (HK.out nn os)
        generalize Go.Sort.grow (Go.Sort.putRow encStr (Go.Sort.ahead wr nn) gv 0 (held T tx).toArray) os = w6 at *
        go_wp2_with fail
        go_ret
        refine ⟨.slice (some ⟨gv, 0, none⟩) ss.length cp, rfl, ?_, HK5.out⟩
        rw [← hslen.out]
        exact HF5.out
    · intro x c kl yd yp w2 cnt2 hkey hlk hv hat hrg2 hlt hg2 hs2 hen
      obtain ⟨x', ex, rfl, hxl⟩ := Maps.keyOf_str Try.underlying9 hkey
      obtain rfl : x = x' := encStr_inj ex
      obtain ⟨c', ec, hy, _⟩ := plainElem_int_inv Try.underlying27 hv
      have hyd := congrArg Prod.fst hy
      simp only at hyd
      have hcc : c = c' := by injection ec
      rw [← hcc] at hyd
      clear ec hcc hy hv
      subst hyd
      obtain ⟨t, rfl, hwt⟩ := val_of HD.out hat
      have HST := Lib.hid (HG.out.step x hlk t hwt)
      have HRow2 := Lib.hid (HW.out.kept hg2 (Or.inr (row_ne_iter HW.out HR.out).symm))
      have HR2 := Lib.hid hrg2
      have HB2 := Lib.hid (show Below w.heap.size w w2 from HB.out.grown hg2 HB.out.size (fun j hj => by cases hj; exact Nat.le_refl _))
      have HLT := Lib.hid hlt
      have hbsz := HB2.out.size
      clear hkey hlk hat hrg2 hwt hg2 hs2 hlt ex
      by_cases htx : t = tx
      · subst htx
        rw [if_pos rfl] at HST
        have hss : strs ss ++ [encStr x] = strs (ss ++ [x]) := by unfold strs; rw [List.map_append]; rfl
        have HSS := Lib.hid hss
        clear hss
        have hin : ss.length + 1 ≤ 1024 := by have := HLT.out; omega
        go_wp2_with (at_builtin; refine wpList_append_own _ rfl _ _ 36 rfl w.heap.size 9 i0 (.string ⟨#[]⟩) 1 16 Try.underlying36 hi hz0 hz1 hz2 rfl (by decide) _ _ _ (by rfl) (HRow2.out.alloc _) ⟨w2.heap.size, 0, none⟩ 1 1 [encStr x] (by rfl) rfl (cell_one_new _ _ _) (by simp [Value.oneCell', encStr]) (by unfold maxLen; omega) (by omega) (by simp; omega) ?_; intro v' w5 hown5 hgrow5 _)
        rw [HSS.out] at hown5
        have hrg3 := (HR2.out.alloc _).kept hgrow5 (row_ne_low HRow2.out hlw) (row_ne_iter HRow2.out HR2.out)
        have HB5 := Lib.hid (below_own (HB2.out.alloc hbsz (.cells #[encStr x] 9)) (HRow2.out.alloc _) (Nat.le_refl _) hgrow5)
        have HO5 := Lib.hid hown5
        have HR5 := Lib.hid hrg3
        clear hown5 hgrow5 hrg3
        go_roundw
        case rel => exact ⟨_, cnt2, ss ++ [x], HR5.out, by have := HLT.out; simp; omega, by rw [List.length_append]; exact HO5.out, HST.out, HB5.out⟩
        case measure => rw [HR5.out.left_eq, HR.out.left_eq]; exact HLT.out
      · rw [if_neg htx] at HST
        have hne : ((t : Int) == (tx : Int)) = false := by simp; omega
        have hne2 : ¬ (t : Int) = (tx : Int) := by omega
        go_wp2_with fail
        go_roundw
        case rel => exact ⟨_, cnt2, ss, HR2.out, by have := HLT.out; omega, HRow2.out, HST.out, HB2.out⟩
        case measure => rw [HR2.out.left_eq, HR.out.left_eq]; exact HLT.out

end Go.Proofs.Ytoeaakadpillnaa
