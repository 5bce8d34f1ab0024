/- Which undo records may be: the reference's May -/
import Derived.Test.YtahaikfijegknaaRows
import Derived.Test.YtahaikfijegknaaUndoMay
import Derived.WalkKit
import Derived.WalkLawsBesides
import Derived.WalkSpells
import Derived.LoopTactic
import Derived.WalkMore
import Derived.LoopN
import Derived.Laws.BitsAllLaws
import Derived.Laws.IdiomStrings
import Derived.BigQuiet
import Derived.Deep.QuietTactic
import Derived.Deep.DeepCutAuto
import Derived.Deep.RegionHeld3
import Derived.Deep.DrawnRows
import Derived.Lib.Hide
import Derived.Outline
import Derived.Deep.DeepMust
import Derived.Handy
namespace Go.Proofs.Ytahaikfijegknaa
open Go.RowKit
set_option linter.unusedVariables false
set_option linter.unusedSimpArgs false

set_option maxHeartbeats 2000000 in
set_option maxRecDepth 100000 in
theorem refUndoMay_any (kd x pg sl : Nat) (y k v : ByteArray) (m : Bool) (t p s : Nat) (d : Int) (w : World) (hy : y.size ≤ maxLen) (hk : k.size ≤ maxLen) (hv : v.size ≤ maxLen) :
    Calls Try.prog 39 #[.agg #[.int .u8 kd, .int .u64 x, .int .u32 pg, .int .u16 sl, .string y, .string k, .bool m, .int .u64 t, .int .u32 p, .int .u16 s, .string v, .int .i64 d]] w fun e w' => e = .returned (.bool (mayUndo kd x pg sl y k m t p s v d)) ∧ Below w.heap.size w w' := by
  have R := Lib.hid fun W => refMay_any k v m t p s d W hk hv
  have q : ∀ W, (binOp .eql 34 (.agg #[.string k, .bool m, .int .u64 t, .int .u32 p, .int .u16 s, .string v, .int .i64 d]) (.agg #[.string ⟨#[]⟩, .bool false, .int .u64 0, .int .u32 0, .int .u16 0, .string ⟨#[]⟩, .int .i64 0])).run Try.prog W = .ok (.bool (zRow k m t p s v d)) W := fun W => eqRow k ⟨#[]⟩ v ⟨#[]⟩ m false t 0 p 0 s 0 d 0 W
  have hB : Hid (mayUndo kd x pg sl y k m t p s v d = (decide (UHead x pg sl y.size) && (if kd = 1 then zRow k m t p s v d else (decide (kd = 2) && (k.toList == y.toList && mayRow k.size v.size p s d))))) := rfl
  generalize mayUndo kd x pg sl y k m t p s v d = B at *
  generalize zRow k m t p s v d = z at *
  generalize mayRow k.size v.size p s d = r at *
  generalize hc : (k.toList == y.toList) = c at *
  unfold maxLen at hy
  clear hk hv
  by_cases hh : UHead x pg sl y.size
  · obtain ⟨h1, h2, h3, h4, h5⟩ := hh
    have hB2 : Hid (B = if kd = 1 then z else (decide (kd = 2) && (c && r))) := by show _ = _; rw [hB.out, decide_eq_true (show UHead x pg sl y.size from ⟨h1, h2, h3, h4, h5⟩), Bool.true_and]
    have x0 : ((x : Int) == 0) = false := by simp; omega
    clear hB h1
    by_cases k1 : kd = 1
    · have hB3 : Hid (B = z) := by show _ = _; rw [hB2.out, if_pos k1]
      subst k1
      clear hB2
      go_enter Try.func39, Try.ntmps39
      go_wp2_with fail
      all_goals go_ret
      all_goals exact ⟨ret_bool hB3.out.symm, (Below.refl _ _).alloc (Nat.le_refl _) _⟩
    · by_cases k2 : kd = 2
      · have hB3 : Hid (B = (c && r)) := by show _ = _; rw [hB2.out, if_neg k1, decide_eq_true k2, Bool.true_and]
        subst k2
        clear hB2
        cases c with
        | false =>
          have hB4 : Hid (B = false) := by show _ = _; rw [hB3.out, Bool.false_and]
          clear hB3
          go_enter Try.func39, Try.ntmps39
          go_wp2_with fail
          all_goals
            go_ret
            exact ⟨ret_bool hB4.out.symm, (Below.refl _ _).alloc (Nat.le_refl _) _⟩
        | true =>
          have hB4 : Hid (B = r) := by show _ = _; rw [hB3.out, Bool.true_and]
          clear hB3
          go_enter Try.func39, Try.ntmps39
          go_wp2_with fail
          all_goals
            refine (R.out _).mono ?_
            rintro e w2 ⟨rfl, hb⟩
            go_wp2_with fail
            go_ret
            exact ⟨ret_bool hB4.out.symm, ((Below.refl _ _).alloc (Nat.le_refl _) _).trans (hb.mono (by simp))⟩
      · have hB3 : Hid (B = false) := by show _ = _; rw [hB2.out, if_neg k1, decide_eq_false k2, Bool.false_and]
        have y1 : ((kd : Int) == 1) = false := by simp; omega
        have y2 : ((kd : Int) == 2) = false := by simp; omega
        clear hB2 k1 k2
        go_enter Try.func39, Try.ntmps39
        go_wp2_with fail
        all_goals
          go_ret
          exact ⟨ret_bool hB3.out.symm, (Below.refl _ _).alloc (Nat.le_refl _) _⟩
  · have hB2 : Hid (B = false) := by show _ = _; rw [hB.out, decide_eq_false hh, Bool.false_and]
    clear hB
    by_cases hy2 : 1 ≤ y.size ∧ y.size ≤ 48
    · have hz : Hid (x = 0 ∨ 1024 < pg ∨ (pg = 0 ∧ sl ≠ 0)) := by
        show x = 0 ∨ 1024 < pg ∨ (pg = 0 ∧ sl ≠ 0)
        unfold UHead at hh
        omega
      clear hh
      by_cases h1 : x = 0
      · subst h1
        clear hz
        go_enter Try.func39, Try.ntmps39
        go_wp2_with fail
        all_goals
          go_ret
          exact ⟨ret_bool hB2.out.symm, (Below.refl _ _).alloc (Nat.le_refl _) _⟩
      · have x0 : ((x : Int) == 0) = false := by simp; omega
        by_cases h2 : 1024 < pg
        · clear hz
          go_enter Try.func39, Try.ntmps39
          go_wp2_with fail
          all_goals
            go_ret
            exact ⟨ret_bool hB2.out.symm, (Below.refl _ _).alloc (Nat.le_refl _) _⟩
        · have hp : pg = 0 := by have := hz.out; omega
          have hs : ((sl : Int) == 0) = false := by have := hz.out; simp; omega
          subst hp
          clear hz
          go_enter Try.func39, Try.ntmps39
          go_wp2_with fail
          all_goals
            go_ret
            exact ⟨ret_bool hB2.out.symm, (Below.refl _ _).alloc (Nat.le_refl _) _⟩
    · clear hh
      by_cases hy3 : 1 ≤ y.size
      · have hy4 : 48 < y.size := by omega
        clear hy2
        go_enter Try.func39, Try.ntmps39
        go_wp2_with fail
        all_goals
          go_ret
          exact ⟨ret_bool hB2.out.symm, (Below.refl _ _).alloc (Nat.le_refl _) _⟩
      · have hy4 : y.size = 0 := by omega
        clear hy2 hy3
        go_enter Try.func39, Try.ntmps39
        go_wp2_with fail
        all_goals
          go_ret
          exact ⟨ret_bool hB2.out.symm, (Below.refl _ _).alloc (Nat.le_refl _) _⟩

end Go.Proofs.Ytahaikfijegknaa
