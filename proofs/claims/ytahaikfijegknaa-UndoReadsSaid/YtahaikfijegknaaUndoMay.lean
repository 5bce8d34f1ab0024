/- Which undo records may be: the program's May -/
import Derived.Test.YtahaikfijegknaaRows
import Derived.Test.YtahaikfijegknaaRefDecode
import Derived.Test.YtahaikfijegknaaAlive07
import Derived.WalkKit
import Derived.WalkLawsBesides
import Derived.WalkSpells
import Derived.LoopTactic
import Derived.WalkMore
import Derived.LoopN
import Derived.Laws.BitsAllLaws
import Derived.Laws.IdiomStrings
import Derived.BigQuiet
import Derived.Deep.QuietTactic
import Derived.Deep.DeepCutAuto
import Derived.Deep.RegionHeld3
import Derived.Deep.DrawnRows
import Derived.Lib.Hide
import Derived.Outline
import Derived.Deep.DeepMust
import Derived.Handy
namespace Go.Proofs.Ytahaikfijegknaa
open Go.RowKit
set_option linter.unusedVariables false
set_option linter.unusedSimpArgs false

/-- What row a record must hold that tells of a new one: the row of nothing but zeros (as '==' tells it). -/
def zRow (k : ByteArray) (m : Bool) (t p s : Nat) (v : ByteArray) (d : Int) : Bool :=
  (k.toList == (⟨#[]⟩ : ByteArray).toList && (m == false && ((t : Int) == ((0 : Nat) : Int) && (((p : Int) == ((0 : Nat) : Int) && (s : Int) == ((0 : Nat) : Int)) && (v.toList == (⟨#[]⟩ : ByteArray).toList && d == 0)))))
def UHead (x pg sl n : Nat) : Prop := x ≠ 0 ∧ pg ≤ 1024 ∧ (pg ≠ 0 ∨ sl = 0) ∧ 1 ≤ n ∧ n ≤ 48
instance (x pg sl n : Nat) : Decidable (UHead x pg sl n) := by unfold UHead; infer_instance
/-- Which records may be. -/
def mayUndo (kd x pg sl : Nat) (y k : ByteArray) (m : Bool) (t p s : Nat) (v : ByteArray) (d : Int) : Bool :=
  decide (UHead x pg sl y.size) && (if kd = 1 then zRow k m t p s v d else (decide (kd = 2) && (k.toList == y.toList && mayRow k.size v.size p s d)))
/-- A record's bytes. -/
def encUndo (kd x pg sl : Nat) (y k : List UInt8) (m : Bool) (t p s : Nat) (v : List UInt8) (d : Int) : List UInt8 :=
  be 1 kd ++ (be 8 x ++ (be 4 pg ++ (be 2 sl ++ (if kd = 1 then y else encRow k v m t p s d.toNat))))

set_option maxHeartbeats 2000000 in
set_option maxRecDepth 100000 in
theorem undoMay_any (kd x pg sl : Nat) (y k v : ByteArray) (m : Bool) (t p s : Nat) (d : Int) (w : World) (hy : y.size ≤ maxLen) (hk : k.size ≤ maxLen) (hv : v.size ≤ maxLen) :
    Calls Try.prog 41 #[.agg #[.int .u8 kd, .int .u64 x, .int .u32 pg, .int .u16 sl, .string y, .string k, .bool m, .int .u64 t, .int .u32 p, .int .u16 s, .string v, .int .i64 d]] w fun e w' => e = .returned (.bool (mayUndo kd x pg sl y k m t p s v d)) ∧ Below w.heap.size w w' := by
  have M := Lib.hid fun W => keyMay_any y W hy
  have R := Lib.hid fun W => rowMay_any k v m t p s d W hk hv
  have q : ∀ W, (binOp .eql 34 (.agg #[.string k, .bool m, .int .u64 t, .int .u32 p, .int .u16 s, .string v, .int .i64 d]) (.agg #[.string ⟨#[]⟩, .bool false, .int .u64 0, .int .u32 0, .int .u16 0, .string ⟨#[]⟩, .int .i64 0])).run Try.prog W = .ok (.bool (zRow k m t p s v d)) W := fun W => eqRow k ⟨#[]⟩ v ⟨#[]⟩ m false t 0 p 0 s 0 d 0 W
  have hB : Hid (mayUndo kd x pg sl y k m t p s v d = (decide (UHead x pg sl y.size) && (if kd = 1 then zRow k m t p s v d else (decide (kd = 2) && (k.toList == y.toList && mayRow k.size v.size p s d))))) := rfl
  generalize mayUndo kd x pg sl y k m t p s v d = B at *
  generalize zRow k m t p s v d = z at *
  generalize mayRow k.size v.size p s d = r at *
  generalize hc : (k.toList == y.toList) = c at *
  clear hy hk hv
  by_cases hh : UHead x pg sl y.size
  · obtain ⟨h1, h2, h3, h4, h5⟩ := hh
    have hB2 : Hid (B = if kd = 1 then z else (decide (kd = 2) && (c && r))) := by show _ = _; rw [hB.out, decide_eq_true (show UHead x pg sl y.size from ⟨h1, h2, h3, h4, h5⟩), Bool.true_and]
    have x0 : ((x : Int) == 0) = false := by simp; omega
    rw [decide_eq_true (p := 1 ≤ y.size ∧ y.size ≤ 48) ⟨h4, h5⟩] at M
    clear hB h1 h4 h5
    by_cases k1 : kd = 1
    · have hB3 : Hid (B = z) := by show _ = _; rw [hB2.out, if_pos k1]
      subst k1
      clear hB2
      go_enter Try.func41, Try.ntmps41
      go_wp2_with fail
      all_goals
        refine (M.out _).mono ?_
        rintro e w1 ⟨rfl, rfl⟩
        go_wp2_with fail
        all_goals go_ret
        all_goals exact ⟨ret_bool hB3.out.symm, (Below.refl _ _).alloc (Nat.le_refl _) _⟩
    · by_cases k2 : kd = 2
      · have hB3 : Hid (B = (c && r)) := by show _ = _; rw [hB2.out, if_neg k1, decide_eq_true k2, Bool.true_and]
        subst k2
        clear hB2
        cases c with
        | false =>
          have hB4 : Hid (B = false) := by show _ = _; rw [hB3.out, Bool.false_and]
          clear hB3
          go_enter Try.func41, Try.ntmps41
          go_wp2_with fail
          all_goals
            refine (M.out _).mono ?_
            rintro e w1 ⟨rfl, rfl⟩
            go_wp2_with fail
            go_ret
            exact ⟨ret_bool hB4.out.symm, (Below.refl _ _).alloc (Nat.le_refl _) _⟩
        | true =>
          have hB4 : Hid (B = r) := by show _ = _; rw [hB3.out, Bool.true_and]
          clear hB3
          go_enter Try.func41, Try.ntmps41
          go_wp2_with fail
          all_goals
            refine (M.out _).mono ?_
            rintro e w1 ⟨rfl, rfl⟩
            go_wp2_with fail
            refine (R.out _).mono ?_
            rintro e w2 ⟨rfl, hb⟩
            go_wp2_with fail
            go_ret
            exact ⟨ret_bool hB4.out.symm, ((Below.refl _ _).alloc (Nat.le_refl _) _).trans (hb.mono (by simp))⟩
      · have hB3 : Hid (B = false) := by show _ = _; rw [hB2.out, if_neg k1, decide_eq_false k2, Bool.false_and]
        have y1 : ((kd : Int) == 1) = false := by simp; omega
        have y2 : ((kd : Int) == 2) = false := by simp; omega
        clear hB2 k1 k2
        go_enter Try.func41, Try.ntmps41
        go_wp2_with fail
        all_goals
          refine (M.out _).mono ?_
          rintro e w1 ⟨rfl, rfl⟩
          go_wp2_with fail
          go_ret
          exact ⟨ret_bool hB3.out.symm, (Below.refl _ _).alloc (Nat.le_refl _) _⟩
  · have hB2 : Hid (B = false) := by show _ = _; rw [hB.out, decide_eq_false hh, Bool.false_and]
    clear hB
    by_cases hy2 : 1 ≤ y.size ∧ y.size ≤ 48
    · rw [decide_eq_true hy2] at M
      have hz : Hid (x = 0 ∨ 1024 < pg ∨ (pg = 0 ∧ sl ≠ 0)) := by
        show x = 0 ∨ 1024 < pg ∨ (pg = 0 ∧ sl ≠ 0)
        unfold UHead at hh
        omega
      clear hh hy2
      by_cases h1 : x = 0
      · subst h1
        clear hz
        go_enter Try.func41, Try.ntmps41
        go_wp2_with fail
        all_goals first
          | (go_ret; exact ⟨ret_bool hB2.out.symm, (Below.refl _ _).alloc (Nat.le_refl _) _⟩)
          | (refine (M.out _).mono ?_; rintro e w1 ⟨rfl, rfl⟩; go_wp2_with fail; all_goals (go_ret; exact ⟨ret_bool hB2.out.symm, (Below.refl _ _).alloc (Nat.le_refl _) _⟩))
      · have x0 : ((x : Int) == 0) = false := by simp; omega
        by_cases h2 : 1024 < pg
        · clear hz
          go_enter Try.func41, Try.ntmps41
          go_wp2_with fail
          all_goals first
            | (go_ret; exact ⟨ret_bool hB2.out.symm, (Below.refl _ _).alloc (Nat.le_refl _) _⟩)
            | (refine (M.out _).mono ?_; rintro e w1 ⟨rfl, rfl⟩; go_wp2_with fail; all_goals (go_ret; exact ⟨ret_bool hB2.out.symm, (Below.refl _ _).alloc (Nat.le_refl _) _⟩))
        · have hp : pg = 0 := by have := hz.out; omega
          have hs : ((sl : Int) == 0) = false := by have := hz.out; simp; omega
          subst hp
          clear hz
          go_enter Try.func41, Try.ntmps41
          go_wp2_with fail
          all_goals first
            | (go_ret; exact ⟨ret_bool hB2.out.symm, (Below.refl _ _).alloc (Nat.le_refl _) _⟩)
            | (refine (M.out _).mono ?_; rintro e w1 ⟨rfl, rfl⟩; go_wp2_with fail; all_goals (go_ret; exact ⟨ret_bool hB2.out.symm, (Below.refl _ _).alloc (Nat.le_refl _) _⟩))
    · rw [decide_eq_false hy2] at M
      clear hh hy2
      go_enter Try.func41, Try.ntmps41
      go_wp2_with fail
      all_goals first
        | (go_ret; exact ⟨ret_bool hB2.out.symm, (Below.refl _ _).alloc (Nat.le_refl _) _⟩)
        | (refine (M.out _).mono ?_; rintro e w1 ⟨rfl, rfl⟩; go_wp2_with fail; all_goals (go_ret; exact ⟨ret_bool hB2.out.symm, (Below.refl _ _).alloc (Nat.le_refl _) _⟩))

end Go.Proofs.Ytahaikfijegknaa
