/- The locks in memory: New, Take. -/
import Derived.Test.YtoeaakadpillnaaRows
import Derived.Test.YtoeaakadpillnaaLockPlain
import Derived.Test.YtoeaakadpillnaaBlocks
import Derived.Test.YtoeaakadpillnaaOwn
import Derived.Test.YtoeaakadpillnaaExt
import Derived.Maps.OwnSet
import Derived.Maps.OwnOps
import Derived.Maps.RangeWalk
import Derived.WalkKit
import Derived.WalkLawsBesides
import Derived.WalkSpells
import Derived.LoopTactic
import Derived.WalkMore
import Derived.LoopN
import Derived.Laws.BitsAllLaws
import Derived.Laws.IdiomStrings
import Derived.BigQuiet
import Derived.Deep.QuietTactic
import Derived.Deep.DeepCutAuto
import Derived.Deep.RegionHeld3
import Derived.Deep.DrawnRows
import Derived.Lib.Hide
import Derived.Outline
import Derived.Deep.DeepMust
import Derived.Handy
namespace Go.Proofs.Ytoeaakadpillnaa
open Go.RowKit
set_option linter.unusedVariables false
set_option linter.unusedSimpArgs false

theorem keyMay_any (s : ByteArray) (w : World) (hs : s.size ≤ maxLen) :
    Calls Try.prog 57 #[.string s] w fun e w' => e = .returned (.bool (decide (1 ≤ s.size ∧ s.size ≤ 48))) ∧ w = w' := by
  unfold maxLen at hs
  have H : (decide (1 ≤ s.size ∧ s.size ≤ 48)) = (decide (1 ≤ s.size) && decide ((s.size : Int) ≤ 48)) := by
    rw [Bool.eq_iff_iff]; simp; omega
  rw [H]; clear H
  by_cases h1 : 1 ≤ s.size
  · go_enter Try.func57, Try.ntmps57
    go_wp2
    go_ret
    exact ⟨ret_bool (by simp [h1]), rfl⟩
  · go_enter Try.func57, Try.ntmps57
    go_wp2
    go_ret
    exact ⟨ret_bool (by simp), rfl⟩

theorem lk_key : Maps.Keyed Try.prog 9 := Go.Maps.string_keyed Try.underlying9
theorem zero_u64 (w : World) : (zeroValue 27).run Try.prog w = .ok (.int .u64 0) w := by kernel_rfl
/-- The locks in memory. -/
structure LkAt (w : World) (g m : Nat) (T : Lk) : Prop where
  own : w.heap[g]? = some (.cells #[.map (some m)] 108 (0, 0))
  ex : ∃ D, w.ownsMap Try.prog 9 (plainElem Try.prog 27) m T.length D ∧ LockD D T
  rising : T.Rising
  small : T.length ≤ 1024
  fine : ∀ p ∈ T, p.1.length ≤ 48 ∧ p.2 < 256 ^ 8
theorem LkAt.ne {w : World} {g m : Nat} {T : Lk} (h : LkAt w g m T) : g ≠ m := by
  rintro rfl
  obtain ⟨D, ho, _⟩ := h.ex
  obtain ⟨es, c, hb, _⟩ := ho
  rw [h.own] at hb
  cases hb
theorem LkAt.lt {w : World} {g m : Nat} {T : Lk} (h : LkAt w g m T) : g < w.heap.size ∧ m < w.heap.size := by
  obtain ⟨D, ho, _⟩ := h.ex
  exact ⟨blk_lt h.own, ho.lt⟩
theorem LkAt.c0 {w : World} {g m : Nat} {T : Lk} (h : LkAt w g m T) : w.cell? ⟨g, 0, none⟩ = some (.map (some m)) := by rw [blk_cell h.own]; rfl
theorem LkAt.kept {w w' : World} {g m : Nat} {T : Lk} {row : Option Nat} (h : LkAt w g m T) (hg : w.grownBy w' row) (h1 : some g ≠ row) (h2 : some m ≠ row) : LkAt w' g m T := by
  obtain ⟨D, ho, hD⟩ := h.ex
  exact ⟨(hg.block g (blk_lt h.own) h1).trans h.own, ⟨D, ho.kept hg h2, hD⟩, h.rising, h.small, h.fine⟩
theorem LkAt.below {w w' : World} {g m : Nat} {T : Lk} (h : LkAt w g m T) (hb : Below w.heap.size w w') : LkAt w' g m T := h.kept (row := none) (grown_below none hb) (by simp) (by simp)
theorem tight {w : World} {m n : Nat} {D : DataW Unit} {R : Value → Option (DataW Unit × List MemPlace)} (h : w.ownsMap Try.prog 9 R m n D) : w.ownsMap Try.prog 9 R m (Maps.size D) D := by
  obtain ⟨es, c, hb, F, hs, rfl⟩ := h
  refine ⟨es, c, hb, F, ?_, rfl⟩
  rw [Maps.size_eq, length_sorted]
  simp
theorem str_keyOf (s : ByteArray) (hs : s.size ≤ maxLen) : keyOf Try.prog 9 (.string s) = some (.string s.data.toList) := WideMaps.keyOf_string_mk Try.underlying9 hs

set_option maxRecDepth 100000 in
theorem LkAt.look {w : World} {g m : Nat} {T : Lk} (h : LkAt w g m T) (s : ByteArray) (hs : s.size ≤ maxLen) :
    (Instr.lookup 106 (.map (some m)) (.string s) true).run Try.prog w = .ok (.tuple #[.int .u64 ((who T s.data.toList).getD 0 : Nat), .bool (who T s.data.toList).isSome]) w := by
  obtain ⟨D, ho, hD⟩ := h.ex
  obtain ⟨v, ps, hrun, hv⟩ := ho.look_ok lk_key Try.underlying106 (zero_u64 w) (plainElem_int (q := .u64) (a := 0) Try.underlying27 (by decide)) (str_keyOf s hs)
  rw [hrun, hD.has]
  obtain ⟨c, rfl, hc, _⟩ := plainElem_int_inv Try.underlying27 hv
  have hc1 := congrArg Prod.fst hc
  simp only at hc1
  cases hw : who T s.data.toList with
  | none =>
    rw [hD.at_none hw] at hc1
    injection hc1 with hc1
    injection hc1 with _ hc1
    rw [← hc1]
    rfl
  | some t =>
    rw [hD.val _ t hw] at hc1
    injection hc1 with hc1
    injection hc1 with _ hc1
    rw [← hc1]
    rfl
set_option maxRecDepth 100000 in
theorem LkAt.look1 {w : World} {g m : Nat} {T : Lk} (h : LkAt w g m T) (s : ByteArray) (hs : s.size ≤ maxLen) :
    (Instr.lookup 106 (.map (some m)) (.string s) false).run Try.prog w = .ok (.int .u64 ((who T s.data.toList).getD 0 : Nat)) w := by
  obtain ⟨D, ho, hD⟩ := h.ex
  obtain ⟨c, hrun, hat, _⟩ := ho.lookup_int lk_key Try.underlying106 Try.underlying27 (zero_u64 w) (str_keyOf s hs)
  rw [hrun]
  cases hw : who T s.data.toList with
  | none =>
    rw [hD.at_none hw] at hat
    injection hat with hat
    injection hat with _ hat
    rw [← hat]
    rfl
  | some t =>
    rw [hD.val _ t hw] at hat
    injection hat with hat
    injection hat with _ hat
    rw [← hat]
    rfl
theorem LkAt.len {w : World} {g m : Nat} {T : Lk} (h : LkAt w g m T) (ty : TypeId) : (Builtin.len_ #[106] ty #[.map (some m)]).run Try.prog w = .ok (.int .i64 (T.length : Nat)) w := by
  obtain ⟨D, ho, hD⟩ := h.ex
  rw [ho.len Try.underlying106 ty, hD.size]

theorem lkNew (w : World) :
    Calls Try.prog 16 #[] w fun e w' => ∃ g m, e = .returned (.pointer (some ⟨g, 0, none⟩)) ∧ LkAt w' g m [] ∧ w.heap.size ≤ g ∧ w.heap.size ≤ m ∧ Below w.heap.size w w' := by
  have hmm := @run_makeMap Try.prog
  have ho := World.ownsMap_made (H := Unit) w Try.prog 9 (plainElem Try.prog 27)
  have hO : Hid (LkAt ((w.alloc (.map #[] 0)).alloc (.cells #[.map (some w.heap.size)] 108)) (w.heap.size + 1) w.heap.size []) := by
    have e : (w.alloc (.map #[] 0)).heap.size = w.heap.size + 1 := by simp
    have hb := heap_alloc_new (w.alloc (.map #[] 0)) (.cells #[.map (some w.heap.size)] 108)
    rw [e] at hb
    exact ⟨hb, ⟨_, ho.alloc _, LockD.empty⟩, List.Pairwise.nil, by simp, fun p hp => (by cases hp)⟩
  clear ho
  go_enter Try.func16, Try.ntmps16
  go_wp2_with fail
  go_ret
  exact ⟨_, _, rfl, hO.out, by omega, Nat.le_refl _, ((Below.refl _ _).alloc (Nat.le_refl _) _).alloc (by simp) _⟩

theorem wf64 {n : Nat} (h : n < 18446744073709551616) : (Lit.int .u64 (n : Int)).wf = true := by
  unfold Lit.wf
  simp [IntKind.min, IntKind.max, IntKind.bits, IntKind.signed]
  omega
theorem lkMade (w : World) {g m : Nat} {T : Lk} (h : LkAt w g m T) :
    Calls Try.prog 56 #[.pointer (some ⟨g, 0, none⟩)] w fun e w' => e = .returned (.bool true) ∧ w = w' := by
  have c0 := h.c0
  have hn : (binOp .neq 106 (.map (some m)) (.map none)).run Try.prog w = .ok (.bool true) w := by kernel_rfl
  clear h
  go_enter Try.func56, Try.ntmps56
  go_wp2_with fail
  go_ret
  exact ⟨rfl, rfl⟩
theorem lkMade_nil (w : World) :
    Calls Try.prog 56 #[.pointer none] w fun e w' => e = .returned (.bool false) ∧ w = w' := by
  go_enter Try.func56, Try.ntmps56
  go_wp2_with fail
  go_ret
  exact ⟨rfl, rfl⟩
set_option maxRecDepth 100000 in
set_option maxHeartbeats 1000000 in
theorem lkTake (w : World) {g m : Nat} {T : Lk} (tx : Nat) (s : ByteArray) (htx : tx < 256 ^ 8) (hs : s.size ≤ maxLen) (h : LkAt w g m T) :
    Calls Try.prog 19 #[.pointer (some ⟨g, 0, none⟩), .int .u64 tx, .string s] w fun e w' =>
      e = .returned (.tuple #[.bool (takeL T tx s.data.toList).2.1, .int .i64 (takeL T tx s.data.toList).2.2]) ∧ LkAt w' g m (takeL T tx s.data.toList).1 ∧ w.grownBy w' (some m) := by
  have hsl : s.data.toList.length = s.size := by simp
  have M := Lib.hid (lkMade w h)
  have KM := Lib.hid (keyMay_any s w hs)
  have c0 := h.c0
  have H := Lib.hid h
  have hl := h.look s hs
  have hn := h.len
  have HS := Lib.hid hs
  clear h hs
  unfold takeL
  rw [hsl]
  by_cases h0 : tx = 0
  · subst h0
    rw [if_pos (.inl rfl)]
    go_enter Try.func19, Try.ntmps19
    go_wp2_with fail
    refine M.out.mono ?_
    rintro e w1 ⟨rfl, rfl⟩
    go_wp2_with fail
    go_ret2
    exact ⟨rfl, H.out, grown_refl _ _⟩
  have htx0 : ((tx : Int) == 0) = false := by simp; omega
  by_cases hk : 1 ≤ s.size ∧ s.size ≤ 48
  case neg =>
    rw [if_pos (.inr hk)]
    rw [show decide (1 ≤ s.size ∧ s.size ≤ 48) = false by simpa using hk] at KM
    clear hk
    go_enter Try.func19, Try.ntmps19
    go_wp2_with fail
    refine M.out.mono ?_
    rintro e w1 ⟨rfl, rfl⟩
    go_wp2_with fail
    refine KM.out.mono ?_
    rintro e w1 ⟨rfl, rfl⟩
    go_wp2_with fail
    go_ret2
    exact ⟨rfl, H.out, grown_refl _ _⟩
  rw [if_neg (by rintro (h | h) <;> contradiction)]
  rw [show decide (1 ≤ s.size ∧ s.size ≤ 48) = true by simpa using hk] at KM
  have HK := Lib.hid hk
  clear hk
  cases hw : who T s.data.toList with
  | some t =>
    rw [hw] at hl
    have ht : t < 256 ^ 8 := (H.out.fine _ ((mem_who H.out.rising).2 hw)).2
    clear hw
    by_cases ht0 : t = tx
    · subst ht0
      have e : ((t : Int) != (t : Int)) = false := by simp
      simp only [if_true]
      go_enter Try.func19, Try.ntmps19
      go_wp2_with fail
      refine M.out.mono ?_
      rintro e w1 ⟨rfl, rfl⟩
      go_wp2_with fail
      refine KM.out.mono ?_
      rintro e w1 ⟨rfl, rfl⟩
      go_wp2_with fail
      go_ret2
      exact ⟨rfl, H.out, grown_refl _ _⟩
    · have e : ((t : Int) != (tx : Int)) = true := by simp; omega
      simp only [if_neg ht0]
      clear ht0
      go_enter Try.func19, Try.ntmps19
      go_wp2_with fail
      refine M.out.mono ?_
      rintro e w1 ⟨rfl, rfl⟩
      go_wp2_with fail
      refine KM.out.mono ?_
      rintro e w1 ⟨rfl, rfl⟩
      go_wp2_with fail
      go_ret2
      exact ⟨rfl, H.out, grown_refl _ _⟩
  | none =>
    rw [hw] at hl
    have HW := Lib.hid hw
    clear hw
    have hsm := H.out.small
    by_cases hf : 1024 ≤ T.length
    · simp only [if_pos hf]
      go_enter Try.func19, Try.ntmps19
      go_wp2_with fail
      refine M.out.mono ?_
      rintro e w1 ⟨rfl, rfl⟩
      go_wp2_with fail
      refine KM.out.mono ?_
      rintro e w1 ⟨rfl, rfl⟩
      go_wp2_with fail
      go_ret2
      exact ⟨rfl, H.out, grown_refl _ _⟩
    · simp only [if_neg hf]
      obtain ⟨D, ho, hD⟩ := H.out.ex
      have HO := Lib.hid ho
      have HD := Lib.hid hD
      have hkey := str_keyOf s HS.out
      have HKY := Lib.hid hkey
      have hwf : (Lit.int .u64 (tx : Int)).wf = true := by
        simp only [Nat.reducePow] at htx
        exact wf64 (by omega)
      have HWF := Lib.hid hwf
      clear ho hD hkey hwf
      go_enter Try.func19, Try.ntmps19
      go_wp2_with fail
      refine M.out.mono ?_
      rintro e w1 ⟨rfl, rfl⟩
      go_wp2_with fail
      refine KM.out.mono ?_
      rintro e w1 ⟨rfl, rfl⟩
      go_wp2_with (at_mapUpdate; refine wpList_mapUpdate_own _ rfl _ _ _ 106 rfl 9 27 lk_key Try.underlying106 _ m T.length D rfl HO.out (by unfold maxLen; omega) _ _ _ rfl rfl HKY.out _ [] (plainElem_int Try.underlying27 HWF.out) ?_; intro w1 hown1 hgrow1)
      go_ret2
      have hg := (LkAt.lt H.out).1
      refine ⟨rfl, ⟨?_, ⟨_, ?_, HD.out.put (HO.out.tidy lk_key) H.out.rising HW.out tx⟩, rising_ins H.out.rising HW.out, ?_, ?_⟩, hgrow1⟩
      · exact (hgrow1.block g hg (by simp; exact H.out.ne)).trans H.out.own
      · rw [length_ins]
        exact hown1
      · rw [length_ins]; omega
      · intro p hp
        rcases mem_ins.1 hp with rfl | hp
        · exact ⟨by show s.data.toList.length ≤ 48; rw [hsl]; exact HK.out.2, htx⟩
        · exact H.out.fine p hp

end Go.Proofs.Ytoeaakadpillnaa
