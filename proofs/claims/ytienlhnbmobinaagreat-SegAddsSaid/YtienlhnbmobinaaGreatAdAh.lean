/- Kept of our texts for this claim: UndoMay UndoRefMay UndoPut UndoRefEncode UndoNext UndoDecPlain -/
import Derived.Test.YtienlhnbmobinaaGreatRows
import Derived.Test.YtienlhnbmobinaaGreatAdAg
import Derived.WalkKit
import Derived.WalkLawsBesides
import Derived.WalkSpells
import Derived.LoopTactic
import Derived.WalkMore
import Derived.LoopN
import Derived.Laws.BitsAllLaws
import Derived.Laws.IdiomStrings
import Derived.BigQuiet
import Derived.Deep.QuietTactic
import Derived.Deep.DeepCutAuto
import Derived.Deep.RegionHeld3
import Derived.Deep.DrawnRows
import Derived.Lib.Hide
import Derived.Outline
import Derived.Deep.DeepMust
import Derived.Handy
import Derived.Test.YtienlhnbmobinaaGreatAdAe
import Derived.Test.YtienlhnbmobinaaGreatAdAb
section
/- Which undo records may be: the program's May -/
namespace Go.Proofs.YtienlhnbmobinaaGreat
open Go.RowKit
set_option linter.unusedVariables false
set_option linter.unusedSimpArgs false
/-- What row a record must hold that tells of a new one: the row of nothing but zeros (as '==' tells it). -/
def zRow (k : ByteArray) (m : Bool) (t p s : Nat) (v : ByteArray) (d : Int) : Bool :=
  (k.toList == (⟨#[]⟩ : ByteArray).toList && (m == false && ((t : Int) == ((0 : Nat) : Int) && (((p : Int) == ((0 : Nat) : Int) && (s : Int) == ((0 : Nat) : Int)) && (v.toList == (⟨#[]⟩ : ByteArray).toList && d == 0)))))
def UHead (x pg sl n : Nat) : Prop := x ≠ 0 ∧ pg ≤ 1024 ∧ (pg ≠ 0 ∨ sl = 0) ∧ 1 ≤ n ∧ n ≤ 48
instance (x pg sl n : Nat) : Decidable (UHead x pg sl n) := by unfold UHead; infer_instance
/-- Which records may be. -/
def mayUndo (kd x pg sl : Nat) (y k : ByteArray) (m : Bool) (t p s : Nat) (v : ByteArray) (d : Int) : Bool :=
  decide (UHead x pg sl y.size) && (if kd = 1 then zRow k m t p s v d else (decide (kd = 2) && (k.toList == y.toList && mayRow k.size v.size p s d)))
/-- A record's bytes. -/
def encUndo (kd x pg sl : Nat) (y k : List UInt8) (m : Bool) (t p s : Nat) (v : List UInt8) (d : Int) : List UInt8 :=
  be 1 kd ++ (be 8 x ++ (be 4 pg ++ (be 2 sl ++ (if kd = 1 then y else encRow k v m t p s d.toNat))))
set_option maxHeartbeats 2000000 in
set_option maxRecDepth 100000 in
theorem undoMay_any (kd x pg sl : Nat) (y k v : ByteArray) (m : Bool) (t p s : Nat) (d : Int) (w : World) (hy : y.size ≤ maxLen) (hk : k.size ≤ maxLen) (hv : v.size ≤ maxLen) :
    Calls Tryz.prog 49 #[.agg #[.int .u8 kd, .int .u64 x, .int .u32 pg, .int .u16 sl, .string y, .string k, .bool m, .int .u64 t, .int .u32 p, .int .u16 s, .string v, .int .i64 d]] w fun e w' => e = .returned (.bool (mayUndo kd x pg sl y k m t p s v d)) ∧ Below w.heap.size w w' := by
  have M := Lib.hid fun W => keyMay_any y W hy
  have R := Lib.hid fun W => rowMay_any k v m t p s d W hk hv
  have q : ∀ W, (binOp .eql 32 (.agg #[.string k, .bool m, .int .u64 t, .int .u32 p, .int .u16 s, .string v, .int .i64 d]) (.agg #[.string ⟨#[]⟩, .bool false, .int .u64 0, .int .u32 0, .int .u16 0, .string ⟨#[]⟩, .int .i64 0])).run Tryz.prog W = .ok (.bool (zRow k m t p s v d)) W := fun W => eqRow k ⟨#[]⟩ v ⟨#[]⟩ m false t 0 p 0 s 0 d 0 W
  have hB : Hid (mayUndo kd x pg sl y k m t p s v d = (decide (UHead x pg sl y.size) && (if kd = 1 then zRow k m t p s v d else (decide (kd = 2) && (k.toList == y.toList && mayRow k.size v.size p s d))))) := rfl
  generalize mayUndo kd x pg sl y k m t p s v d = B at *
  generalize zRow k m t p s v d = z at *
  generalize mayRow k.size v.size p s d = r at *
  generalize hc : (k.toList == y.toList) = c at *
  clear hy hk hv
  by_cases hh : UHead x pg sl y.size
  · obtain ⟨h1, h2, h3, h4, h5⟩ := hh
    have hB2 : Hid (B = if kd = 1 then z else (decide (kd = 2) && (c && r))) := by show _ = _; rw [hB.out, decide_eq_true (show UHead x pg sl y.size from ⟨h1, h2, h3, h4, h5⟩), Bool.true_and]
    have x0 : ((x : Int) == 0) = false := by simp; omega
    rw [decide_eq_true (p := 1 ≤ y.size ∧ y.size ≤ 48) ⟨h4, h5⟩] at M
    clear hB h1 h4 h5
    by_cases k1 : kd = 1
    · have hB3 : Hid (B = z) := by show _ = _; rw [hB2.out, if_pos k1]
      subst k1
      clear hB2
      go_enter Tryz.func49, Tryz.ntmps49
      go_wp2_with fail
      all_goals
        refine (M.out _).mono ?_
        rintro e w1 ⟨rfl, rfl⟩
        go_wp2_with fail
        all_goals go_ret
        all_goals exact ⟨ret_bool hB3.out.symm, (Below.refl _ _).alloc (Nat.le_refl _) _⟩
    · by_cases k2 : kd = 2
      · have hB3 : Hid (B = (c && r)) := by show _ = _; rw [hB2.out, if_neg k1, decide_eq_true k2, Bool.true_and]
        subst k2
        clear hB2
        cases c with
        | false =>
          have hB4 : Hid (B = false) := by show _ = _; rw [hB3.out, Bool.false_and]
          clear hB3
          go_enter Tryz.func49, Tryz.ntmps49
          go_wp2_with fail
          all_goals
            refine (M.out _).mono ?_
            rintro e w1 ⟨rfl, rfl⟩
            go_wp2_with fail
            go_ret
            exact ⟨ret_bool hB4.out.symm, (Below.refl _ _).alloc (Nat.le_refl _) _⟩
        | true =>
          have hB4 : Hid (B = r) := by show _ = _; rw [hB3.out, Bool.true_and]
          clear hB3
          go_enter Tryz.func49, Tryz.ntmps49
          go_wp2_with fail
          all_goals
            refine (M.out _).mono ?_
            rintro e w1 ⟨rfl, rfl⟩
            go_wp2_with fail
            refine (R.out _).mono ?_
            rintro e w2 ⟨rfl, hb⟩
            go_wp2_with fail
            go_ret
            exact ⟨ret_bool hB4.out.symm, ((Below.refl _ _).alloc (Nat.le_refl _) _).trans (hb.mono (by simp))⟩
      · have hB3 : Hid (B = false) := by show _ = _; rw [hB2.out, if_neg k1, decide_eq_false k2, Bool.false_and]
        have y1 : ((kd : Int) == 1) = false := by simp; omega
        have y2 : ((kd : Int) == 2) = false := by simp; omega
        clear hB2 k1 k2
        go_enter Tryz.func49, Tryz.ntmps49
        go_wp2_with fail
        all_goals
          refine (M.out _).mono ?_
          rintro e w1 ⟨rfl, rfl⟩
          go_wp2_with fail
          go_ret
          exact ⟨ret_bool hB3.out.symm, (Below.refl _ _).alloc (Nat.le_refl _) _⟩
  · have hB2 : Hid (B = false) := by show _ = _; rw [hB.out, decide_eq_false hh, Bool.false_and]
    clear hB
    by_cases hy2 : 1 ≤ y.size ∧ y.size ≤ 48
    · rw [decide_eq_true hy2] at M
      have hz : Hid (x = 0 ∨ 1024 < pg ∨ (pg = 0 ∧ sl ≠ 0)) := by
        show x = 0 ∨ 1024 < pg ∨ (pg = 0 ∧ sl ≠ 0)
        unfold UHead at hh
        omega
      clear hh hy2
      by_cases h1 : x = 0
      · subst h1
        clear hz
        go_enter Tryz.func49, Tryz.ntmps49
        go_wp2_with fail
        all_goals first
          | (go_ret; exact ⟨ret_bool hB2.out.symm, (Below.refl _ _).alloc (Nat.le_refl _) _⟩)
          | (refine (M.out _).mono ?_; rintro e w1 ⟨rfl, rfl⟩; go_wp2_with fail; all_goals (go_ret; exact ⟨ret_bool hB2.out.symm, (Below.refl _ _).alloc (Nat.le_refl _) _⟩))
      · have x0 : ((x : Int) == 0) = false := by simp; omega
        by_cases h2 : 1024 < pg
        · clear hz
          go_enter Tryz.func49, Tryz.ntmps49
          go_wp2_with fail
          all_goals first
            | (go_ret; exact ⟨ret_bool hB2.out.symm, (Below.refl _ _).alloc (Nat.le_refl _) _⟩)
            | (refine (M.out _).mono ?_; rintro e w1 ⟨rfl, rfl⟩; go_wp2_with fail; all_goals (go_ret; exact ⟨ret_bool hB2.out.symm, (Below.refl _ _).alloc (Nat.le_refl _) _⟩))
        · have hp : pg = 0 := by have := hz.out; omega
          have hs : ((sl : Int) == 0) = false := by have := hz.out; simp; omega
          subst hp
          clear hz
          go_enter Tryz.func49, Tryz.ntmps49
          go_wp2_with fail
          all_goals first
            | (go_ret; exact ⟨ret_bool hB2.out.symm, (Below.refl _ _).alloc (Nat.le_refl _) _⟩)
            | (refine (M.out _).mono ?_; rintro e w1 ⟨rfl, rfl⟩; go_wp2_with fail; all_goals (go_ret; exact ⟨ret_bool hB2.out.symm, (Below.refl _ _).alloc (Nat.le_refl _) _⟩))
    · rw [decide_eq_false hy2] at M
      clear hh hy2
      go_enter Tryz.func49, Tryz.ntmps49
      go_wp2_with fail
      all_goals first
        | (go_ret; exact ⟨ret_bool hB2.out.symm, (Below.refl _ _).alloc (Nat.le_refl _) _⟩)
        | (refine (M.out _).mono ?_; rintro e w1 ⟨rfl, rfl⟩; go_wp2_with fail; all_goals (go_ret; exact ⟨ret_bool hB2.out.symm, (Below.refl _ _).alloc (Nat.le_refl _) _⟩))
end Go.Proofs.YtienlhnbmobinaaGreat
end

section
/- Which undo records may be: the reference's May -/
namespace Go.Proofs.YtienlhnbmobinaaGreat
open Go.RowKit
set_option linter.unusedVariables false
set_option linter.unusedSimpArgs false
set_option maxHeartbeats 2000000 in
set_option maxRecDepth 100000 in
theorem refUndoMay_any (kd x pg sl : Nat) (y k v : ByteArray) (m : Bool) (t p s : Nat) (d : Int) (w : World) (hy : y.size ≤ maxLen) (hk : k.size ≤ maxLen) (hv : v.size ≤ maxLen) :
    Calls Tryz.prog 23 #[.agg #[.int .u8 kd, .int .u64 x, .int .u32 pg, .int .u16 sl, .string y, .string k, .bool m, .int .u64 t, .int .u32 p, .int .u16 s, .string v, .int .i64 d]] w fun e w' => e = .returned (.bool (mayUndo kd x pg sl y k m t p s v d)) ∧ Below w.heap.size w w' := by
  have R := Lib.hid fun W => refMay_any k v m t p s d W hk hv
  have q : ∀ W, (binOp .eql 32 (.agg #[.string k, .bool m, .int .u64 t, .int .u32 p, .int .u16 s, .string v, .int .i64 d]) (.agg #[.string ⟨#[]⟩, .bool false, .int .u64 0, .int .u32 0, .int .u16 0, .string ⟨#[]⟩, .int .i64 0])).run Tryz.prog W = .ok (.bool (zRow k m t p s v d)) W := fun W => eqRow k ⟨#[]⟩ v ⟨#[]⟩ m false t 0 p 0 s 0 d 0 W
  have hB : Hid (mayUndo kd x pg sl y k m t p s v d = (decide (UHead x pg sl y.size) && (if kd = 1 then zRow k m t p s v d else (decide (kd = 2) && (k.toList == y.toList && mayRow k.size v.size p s d))))) := rfl
  generalize mayUndo kd x pg sl y k m t p s v d = B at *
  generalize zRow k m t p s v d = z at *
  generalize mayRow k.size v.size p s d = r at *
  generalize hc : (k.toList == y.toList) = c at *
  unfold maxLen at hy
  clear hk hv
  by_cases hh : UHead x pg sl y.size
  · obtain ⟨h1, h2, h3, h4, h5⟩ := hh
    have hB2 : Hid (B = if kd = 1 then z else (decide (kd = 2) && (c && r))) := by show _ = _; rw [hB.out, decide_eq_true (show UHead x pg sl y.size from ⟨h1, h2, h3, h4, h5⟩), Bool.true_and]
    have x0 : ((x : Int) == 0) = false := by simp; omega
    clear hB h1
    by_cases k1 : kd = 1
    · have hB3 : Hid (B = z) := by show _ = _; rw [hB2.out, if_pos k1]
      subst k1
      clear hB2
      go_enter Tryz.func23, Tryz.ntmps23
      go_wp2_with fail
      all_goals go_ret
      all_goals exact ⟨ret_bool hB3.out.symm, (Below.refl _ _).alloc (Nat.le_refl _) _⟩
    · by_cases k2 : kd = 2
      · have hB3 : Hid (B = (c && r)) := by show _ = _; rw [hB2.out, if_neg k1, decide_eq_true k2, Bool.true_and]
        subst k2
        clear hB2
        cases c with
        | false =>
          have hB4 : Hid (B = false) := by show _ = _; rw [hB3.out, Bool.false_and]
          clear hB3
          go_enter Tryz.func23, Tryz.ntmps23
          go_wp2_with fail
          all_goals
            go_ret
            exact ⟨ret_bool hB4.out.symm, (Below.refl _ _).alloc (Nat.le_refl _) _⟩
        | true =>
          have hB4 : Hid (B = r) := by show _ = _; rw [hB3.out, Bool.true_and]
          clear hB3
          go_enter Tryz.func23, Tryz.ntmps23
          go_wp2_with fail
          all_goals
            refine (R.out _).mono ?_
            rintro e w2 ⟨rfl, hb⟩
            go_wp2_with fail
            go_ret
            exact ⟨ret_bool hB4.out.symm, ((Below.refl _ _).alloc (Nat.le_refl _) _).trans (hb.mono (by simp))⟩
      · have hB3 : Hid (B = false) := by show _ = _; rw [hB2.out, if_neg k1, decide_eq_false k2, Bool.false_and]
        have y1 : ((kd : Int) == 1) = false := by simp; omega
        have y2 : ((kd : Int) == 2) = false := by simp; omega
        clear hB2 k1 k2
        go_enter Tryz.func23, Tryz.ntmps23
        go_wp2_with fail
        all_goals
          go_ret
          exact ⟨ret_bool hB3.out.symm, (Below.refl _ _).alloc (Nat.le_refl _) _⟩
  · have hB2 : Hid (B = false) := by show _ = _; rw [hB.out, decide_eq_false hh, Bool.false_and]
    clear hB
    by_cases hy2 : 1 ≤ y.size ∧ y.size ≤ 48
    · have hz : Hid (x = 0 ∨ 1024 < pg ∨ (pg = 0 ∧ sl ≠ 0)) := by
        show x = 0 ∨ 1024 < pg ∨ (pg = 0 ∧ sl ≠ 0)
        unfold UHead at hh
        omega
      clear hh
      by_cases h1 : x = 0
      · subst h1
        clear hz
        go_enter Tryz.func23, Tryz.ntmps23
        go_wp2_with fail
        all_goals
          go_ret
          exact ⟨ret_bool hB2.out.symm, (Below.refl _ _).alloc (Nat.le_refl _) _⟩
      · have x0 : ((x : Int) == 0) = false := by simp; omega
        by_cases h2 : 1024 < pg
        · clear hz
          go_enter Tryz.func23, Tryz.ntmps23
          go_wp2_with fail
          all_goals
            go_ret
            exact ⟨ret_bool hB2.out.symm, (Below.refl _ _).alloc (Nat.le_refl _) _⟩
        · have hp : pg = 0 := by have := hz.out; omega
          have hs : ((sl : Int) == 0) = false := by have := hz.out; simp; omega
          subst hp
          clear hz
          go_enter Tryz.func23, Tryz.ntmps23
          go_wp2_with fail
          all_goals
            go_ret
            exact ⟨ret_bool hB2.out.symm, (Below.refl _ _).alloc (Nat.le_refl _) _⟩
    · clear hh
      by_cases hy3 : 1 ≤ y.size
      · have hy4 : 48 < y.size := by omega
        clear hy2
        go_enter Tryz.func23, Tryz.ntmps23
        go_wp2_with fail
        all_goals
          go_ret
          exact ⟨ret_bool hB2.out.symm, (Below.refl _ _).alloc (Nat.le_refl _) _⟩
      · have hy4 : y.size = 0 := by omega
        clear hy2 hy3
        go_enter Tryz.func23, Tryz.ntmps23
        go_wp2_with fail
        all_goals
          go_ret
          exact ⟨ret_bool hB2.out.symm, (Below.refl _ _).alloc (Nat.le_refl _) _⟩
end Go.Proofs.YtienlhnbmobinaaGreat
end

section
/- A number's bytes: put of undo and of its reference -/
namespace Go.Proofs.YtienlhnbmobinaaGreat
open Go.RowKit
set_option linter.unusedVariables false
set_option linter.unusedSimpArgs false
theorem refUput_1 (n : Nat) (w : World) (hn : n < 256 ^ 1) :
    Calls Tryz.prog 24 #[.int .u64 n, .int .i64 1] w fun e w' => e = .returned (.string ⟨(be 1 n).toArray⟩) ∧ Below w.heap.size w w' := by
  have C := Lib.hid fun W => refPut_1 n W hn
  clear hn
  go_enter Tryz.func24, Tryz.ntmps24
  go_wp2_with fail
  refine (C.out _).mono ?_
  rintro e w1 ⟨rfl, hb⟩
  go_wp2_with fail
  go_ret
  exact ⟨rfl, hb⟩
theorem refUput_2 (n : Nat) (w : World) (hn : n < 256 ^ 2) :
    Calls Tryz.prog 24 #[.int .u64 n, .int .i64 2] w fun e w' => e = .returned (.string ⟨(be 2 n).toArray⟩) ∧ Below w.heap.size w w' := by
  have C := Lib.hid fun W => refPut_2 n W hn
  clear hn
  go_enter Tryz.func24, Tryz.ntmps24
  go_wp2_with fail
  refine (C.out _).mono ?_
  rintro e w1 ⟨rfl, hb⟩
  go_wp2_with fail
  go_ret
  exact ⟨rfl, hb⟩
theorem refUput_4 (n : Nat) (w : World) (hn : n < 256 ^ 4) :
    Calls Tryz.prog 24 #[.int .u64 n, .int .i64 4] w fun e w' => e = .returned (.string ⟨(be 4 n).toArray⟩) ∧ Below w.heap.size w w' := by
  have C := Lib.hid fun W => refPut_4 n W hn
  clear hn
  go_enter Tryz.func24, Tryz.ntmps24
  go_wp2_with fail
  refine (C.out _).mono ?_
  rintro e w1 ⟨rfl, hb⟩
  go_wp2_with fail
  go_ret
  exact ⟨rfl, hb⟩
theorem refUput_8 (n : Nat) (w : World) (hn : n < 256 ^ 8) :
    Calls Tryz.prog 24 #[.int .u64 n, .int .i64 8] w fun e w' => e = .returned (.string ⟨(be 8 n).toArray⟩) ∧ Below w.heap.size w w' := by
  have C := Lib.hid fun W => refPut_8 n W hn
  clear hn
  go_enter Tryz.func24, Tryz.ntmps24
  go_wp2_with fail
  refine (C.out _).mono ?_
  rintro e w1 ⟨rfl, hb⟩
  go_wp2_with fail
  go_ret
  exact ⟨rfl, hb⟩
end Go.Proofs.YtienlhnbmobinaaGreat
end

section
/- The reference's Encode of undo records -/
namespace Go.Proofs.YtienlhnbmobinaaGreat
open Go.RowKit
set_option linter.unusedVariables false
set_option linter.unusedSimpArgs false
theorem refUndoEncode_no (kd x pg sl : Nat) (y k v : ByteArray) (m : Bool) (t p s : Nat) (d : Int) (w : World) (hy : y.size ≤ maxLen) (hk : k.size ≤ maxLen) (hv : v.size ≤ maxLen) (hm : mayUndo kd x pg sl y k m t p s v d = false) :
    Calls Tryz.prog 6 #[.agg #[.int .u8 kd, .int .u64 x, .int .u32 pg, .int .u16 sl, .string y, .string k, .bool m, .int .u64 t, .int .u32 p, .int .u16 s, .string v, .int .i64 d]] w fun e w' => e = .returned (.string ⟨#[]⟩) ∧ Below w.heap.size w w' := by
  have M := fun W => refUndoMay_any kd x pg sl y k v m t p s d W hy hk hv
  rw [hm] at M
  have HM := Lib.hid M
  clear M hm hy hk hv
  go_enter Tryz.func6, Tryz.ntmps6
  go_wp2_with fail
  refine (HM.out _).mono ?_
  rintro e w1 ⟨rfl, hb⟩
  have hbw : Below w.heap.size w w1 := ((Below.refl _ _).alloc (Nat.le_refl _) _).trans (hb.mono (by simp))
  clear hb
  go_wp2_with fail
  go_ret
  exact ⟨rfl, hbw⟩
set_option maxHeartbeats 2000000 in
set_option maxRecDepth 100000 in
theorem refUndoEncode_1 (kd x pg sl : Nat) (y k v : ByteArray) (m : Bool) (t p s : Nat) (d : Int) (w : World) (hy : y.size ≤ maxLen) (hk : k.size ≤ maxLen) (hv : v.size ≤ maxLen) (hx : x < 256 ^ 8) (hsl : sl < 256 ^ 2) (ht : t < 256 ^ 8) (hs : s < 256 ^ 2) (hkd : kd = 1) (hm : mayUndo kd x pg sl y k m t p s v d = true) :
    Calls Tryz.prog 6 #[.agg #[.int .u8 kd, .int .u64 x, .int .u32 pg, .int .u16 sl, .string y, .string k, .bool m, .int .u64 t, .int .u32 p, .int .u16 s, .string v, .int .i64 d]] w fun e w' => e = .returned (.string ⟨(encUndo kd x pg sl y.data.toList k.data.toList m t p s v.data.toList d).toArray⟩) ∧ Below w.heap.size w w' := by
  have M := fun W => refUndoMay_any kd x pg sl y k v m t p s d W hy hk hv
  rw [hm] at M
  have HM := Lib.hid M
  clear M
  have hhead : UHead x pg sl y.size := by
    have h := hm
    unfold mayUndo at h
    simp only [Bool.and_eq_true, decide_eq_true_eq] at h
    exact h.1
  obtain ⟨h1, h2, h3, h4, h5⟩ := hhead
  have n8 := fun W => refUput_8 x W hx
  have n4 := fun W => refUput_4 pg W (by omega)
  have n2 := fun W => refUput_2 sl W hsl
  have n1 := fun W => refUput_1 kd W (by omega)
  have z8 := be_str 8 x
  have z4 := be_str 4 pg
  have z2 := be_str 2 sl
  have z1 := be_str 1 kd
  have hfin : Hid ((⟨(be 1 kd).toArray⟩ : ByteArray) ++ ⟨(be 8 x).toArray⟩ ++ ⟨(be 4 pg).toArray⟩ ++ ⟨(be 2 sl).toArray⟩ ++ y =
      (⟨(encUndo kd x pg sl y.data.toList k.data.toList m t p s v.data.toList d).toArray⟩ : ByteArray)) := by
    apply bytes_ext
    simp only [ByteArray.data_append, Array.toList_append, encUndo, if_pos hkd]
    simp
  generalize (⟨(encUndo kd x pg sl y.data.toList k.data.toList m t p s v.data.toList d).toArray⟩ : ByteArray) = fin at hfin ⊢
  generalize (⟨(be 8 x).toArray⟩ : ByteArray) = x8 at n8 z8 hfin
  generalize (⟨(be 4 pg).toArray⟩ : ByteArray) = x4 at n4 z4 hfin
  generalize (⟨(be 2 sl).toArray⟩ : ByteArray) = x2 at n2 z2 hfin
  generalize (⟨(be 1 kd).toArray⟩ : ByteArray) = x1 at n1 z1 hfin
  have y8 := Nat.le_of_eq z8
  have y4 := Nat.le_of_eq z4
  have y2 := Nat.le_of_eq z2
  have y1 := Nat.le_of_eq z1
  subst hkd
  have N8 := Lib.hid n8
  have N4 := Lib.hid n4
  have N2 := Lib.hid n2
  have N1 := Lib.hid n1
  clear n8 n4 n2 n1 z8 z4 z2 z1 hx ht hs hm hk hv h1 h3 h4 hy
  simp only [Nat.reducePow] at hsl
  go_enter Tryz.func6, Tryz.ntmps6
  go_wp2_with fail
  refine (HM.out _).mono ?_
  rintro e w1 ⟨rfl, hb⟩
  have hG := (hb.block _ (by simp)).trans (heap_alloc_new w (.cells #[.int .u8 1, .int .u64 x, .int .u32 pg, .int .u16 sl, .string y, .string k, .bool m, .int .u64 t, .int .u32 p, .int .u16 s, .string v, .int .i64 d] 34))
  have hbw : Below w.heap.size w w1 := ((Below.refl _ _).alloc (Nat.le_refl _) _).trans (hb.mono (by simp))
  clear hb
  generalize hg : w.heap.size = g at hG hbw
  have Hg := Lib.hid hg
  clear hg
  have g0 := blk_lt hG
  have i0 := blk_cell hG 0
  have i1 := blk_cell hG 1
  have i2 := blk_cell hG 2
  have i3 := blk_cell hG 3
  have HG := Lib.hid hG
  clear hG
  go_wp2_with fail
  have e0 := ext_cell i0 g0
  have e1 := ext_cell i1 g0
  have e2 := ext_cell i2 g0
  have e3 := ext_cell i3 g0
  refine wp_region_ext w1.heap.size (by kernel_rfl) (by kernel_rfl) ?_
  repeat (go_big_quiet_step (first
      | (go_at_call_of 24 (Value.int .i64 8); exact ext_call _ (Nat.le_refl _) (N8.out _))
      | (go_at_call_of 24 (Value.int .i64 4); exact ext_call _ (Nat.le_refl _) (N4.out _))
      | (go_at_call_of 24 (Value.int .i64 2); exact ext_call _ (Nat.le_refl _) (N2.out _))
      | (go_at_call_of 24 (Value.int .i64 1); exact ext_call _ (Nat.le_refl _) (N1.out _))))
  refine wpQuiet_nil ?_
  rintro _ ⟨X, rfl⟩
  have hx := hbw.trans (X.below.mono (Nat.le_of_lt g0))
  have hG := (X.below.block _ g0).trans HG.out
  generalize X.val = wz at hx hG
  clear i0 i1 i2 i3 e0 e1 e2 e3 N8 N4 N2 N1 HM HG
  have i0 := blk_cell hG 0
  have i4 := blk_cell hG 4
  go_wp2_with fail
  go_ret
  exact ⟨ret_str1 hfin.out, by rw [Hg.out]; exact hx⟩
set_option maxHeartbeats 2000000 in
set_option maxRecDepth 100000 in
theorem refUndoEncode_2 (kd x pg sl : Nat) (y k v : ByteArray) (m : Bool) (t p s : Nat) (d : Nat) (w : World) (hy : y.size ≤ maxLen) (hk : k.size ≤ maxLen) (hv : v.size ≤ maxLen) (hx : x < 256 ^ 8) (hsl : sl < 256 ^ 2) (ht : t < 256 ^ 8) (hs : s < 256 ^ 2) (hkd : kd = 2) (hm : mayUndo kd x pg sl y k m t p s v d = true) :
    Calls Tryz.prog 6 #[.agg #[.int .u8 kd, .int .u64 x, .int .u32 pg, .int .u16 sl, .string y, .string k, .bool m, .int .u64 t, .int .u32 p, .int .u16 s, .string v, .int .i64 d]] w fun e w' => e = .returned (.string ⟨(encUndo kd x pg sl y.data.toList k.data.toList m t p s v.data.toList d).toArray⟩) ∧ Below w.heap.size w w' := by
  have M := fun W => refUndoMay_any kd x pg sl y k v m t p s d W hy hk hv
  rw [hm] at M
  have HM := Lib.hid M
  clear M
  have hhead : UHead x pg sl y.size := by
    have h := hm
    unfold mayUndo at h
    simp only [Bool.and_eq_true, decide_eq_true_eq] at h
    exact h.1
  obtain ⟨h1, h2, h3, h4, h5⟩ := hhead
  have hr : mayRow k.size v.size p s d = true := by
    have h := hm
    unfold mayUndo at h
    rw [if_neg (by omega)] at h
    simp only [Bool.and_eq_true] at h
    exact h.2.2.2
  have E0 := fun W => refEncode_yes k v m t p s d W hk hv ht hs hr
  have n8 := fun W => refUput_8 x W hx
  have n4 := fun W => refUput_4 pg W (by omega)
  have n2 := fun W => refUput_2 sl W hsl
  have n1 := fun W => refUput_1 kd W (by omega)
  have z8 := be_str 8 x
  have z4 := be_str 4 pg
  have z2 := be_str 2 sl
  have z1 := be_str 1 kd
  have hfin : Hid ((⟨(be 1 kd).toArray⟩ : ByteArray) ++ ⟨(be 8 x).toArray⟩ ++ ⟨(be 4 pg).toArray⟩ ++ ⟨(be 2 sl).toArray⟩ ++ ⟨(encRow k.data.toList v.data.toList m t p s d).toArray⟩ =
      (⟨(encUndo kd x pg sl y.data.toList k.data.toList m t p s v.data.toList d).toArray⟩ : ByteArray)) := by
    apply bytes_ext
    simp only [ByteArray.data_append, Array.toList_append, encUndo, if_neg (show ¬ kd = 1 by omega), Int.toNat_natCast]
    simp
  have zr : (⟨(encRow k.data.toList v.data.toList m t p s d).toArray⟩ : ByteArray).size ≤ 161 := by
    have := mayRow_iff.1 hr
    show (encRow k.data.toList v.data.toList m t p s d).toArray.size ≤ 161
    simp only [encRow]
    simp [be_length]
    omega
  generalize (⟨(encRow k.data.toList v.data.toList m t p s d).toArray⟩ : ByteArray) = xr at E0 zr hfin
  have E := Lib.hid E0
  clear E0 hr
  generalize (⟨(encUndo kd x pg sl y.data.toList k.data.toList m t p s v.data.toList d).toArray⟩ : ByteArray) = fin at hfin ⊢
  generalize (⟨(be 8 x).toArray⟩ : ByteArray) = x8 at n8 z8 hfin
  generalize (⟨(be 4 pg).toArray⟩ : ByteArray) = x4 at n4 z4 hfin
  generalize (⟨(be 2 sl).toArray⟩ : ByteArray) = x2 at n2 z2 hfin
  generalize (⟨(be 1 kd).toArray⟩ : ByteArray) = x1 at n1 z1 hfin
  have y8 := Nat.le_of_eq z8
  have y4 := Nat.le_of_eq z4
  have y2 := Nat.le_of_eq z2
  have y1 := Nat.le_of_eq z1
  subst hkd
  have N8 := Lib.hid n8
  have N4 := Lib.hid n4
  have N2 := Lib.hid n2
  have N1 := Lib.hid n1
  clear n8 n4 n2 n1 z8 z4 z2 z1 hx ht hs hm hk hv h1 h3 h4 hy
  simp only [Nat.reducePow] at hsl
  go_enter Tryz.func6, Tryz.ntmps6
  go_wp2_with fail
  refine (HM.out _).mono ?_
  rintro e w1 ⟨rfl, hb⟩
  have hG := (hb.block _ (by simp)).trans (heap_alloc_new w (.cells #[.int .u8 2, .int .u64 x, .int .u32 pg, .int .u16 sl, .string y, .string k, .bool m, .int .u64 t, .int .u32 p, .int .u16 s, .string v, .int .i64 d] 34))
  have hbw : Below w.heap.size w w1 := ((Below.refl _ _).alloc (Nat.le_refl _) _).trans (hb.mono (by simp))
  clear hb
  generalize hg : w.heap.size = g at hG hbw
  have Hg := Lib.hid hg
  clear hg
  have g0 := blk_lt hG
  have i0 := blk_cell hG 0
  have i1 := blk_cell hG 1
  have i2 := blk_cell hG 2
  have i3 := blk_cell hG 3
  have HG := Lib.hid hG
  clear hG
  go_wp2_with fail
  have e0 := ext_cell i0 g0
  have e1 := ext_cell i1 g0
  have e2 := ext_cell i2 g0
  have e3 := ext_cell i3 g0
  refine wp_region_ext w1.heap.size (by kernel_rfl) (by kernel_rfl) ?_
  repeat (go_big_quiet_step (first
      | (go_at_call_of 24 (Value.int .i64 8); exact ext_call _ (Nat.le_refl _) (N8.out _))
      | (go_at_call_of 24 (Value.int .i64 4); exact ext_call _ (Nat.le_refl _) (N4.out _))
      | (go_at_call_of 24 (Value.int .i64 2); exact ext_call _ (Nat.le_refl _) (N2.out _))
      | (go_at_call_of 24 (Value.int .i64 1); exact ext_call _ (Nat.le_refl _) (N1.out _))))
  refine wpQuiet_nil ?_
  rintro _ ⟨X, rfl⟩
  have hx := hbw.trans (X.below.mono (Nat.le_of_lt g0))
  have hG := (X.below.block _ g0).trans HG.out
  generalize X.val = wz at hx hG
  clear i0 i1 i2 i3 e0 e1 e2 e3 N8 N4 N2 N1 HM HG
  have i0 := blk_cell hG 0
  have i5 := blk_cell hG 5
  have i6 := blk_cell hG 6
  have i7 := blk_cell hG 7
  have i8 := blk_cell hG 8
  have i9 := blk_cell hG 9
  have i10 := blk_cell hG 10
  have i11 := blk_cell hG 11
  have g1 := blk_lt hG
  clear hG
  go_wp2_with fail
  refine (E.out _).mono ?_
  rintro e w5 ⟨rfl, hb5⟩
  have hx5 := hx.trans (hb5.mono (Nat.le_of_lt g1))
  clear hb5
  go_wp2_with fail
  go_ret
  exact ⟨ret_str1 hfin.out, by rw [Hg.out]; exact hx5⟩
end Go.Proofs.YtienlhnbmobinaaGreat
end

section
/- undo.Decode's frame, and its inner function -/
namespace Go.Proofs.YtienlhnbmobinaaGreat
open Go.RowKit
set_option linter.unusedVariables false
set_option linter.unusedSimpArgs false
/-- The frame of undo.Decode: block B has the bytes, B + 1 the result, B + 2 the place, B + 3 whether all was there. -/
structure USt (B : Nat) (w0 : World) (s : ByteArray) (i : Nat) (is : Bool) (w : World) : Prop where
  below : Below B w0 w
  size : B + 4 ≤ w.heap.size
  str : w.heap[B]? = some (.cells #[.string s] 9 (0, 0))
  res : w.heap[B + 1]? = some (.cells #[.int .u8 0, .int .u64 0, .int .u32 0, .int .u16 0, .string ⟨#[]⟩, .string ⟨#[]⟩, .bool false, .int .u64 0, .int .u32 0, .int .u16 0, .string ⟨#[]⟩, .int .i64 0] 34 (0, 0))
  pos : w.heap[B + 1 + 1]? = some (.cells #[.int .i64 i] 3 (0, 0))
  all : w.heap[B + 1 + 1 + 1]? = some (.cells #[.bool is] 4 (0, 0))
theorem USt.alloc {B : Nat} {w0 w : World} {s : ByteArray} {i : Nat} {is : Bool} (h : USt B w0 s i is w) (o : Obj) : USt B w0 s i is (w.alloc o) :=
  ⟨h.below.alloc (by have := h.size; omega) o, by have := h.size; simp; omega, heap_keep h.str, heap_keep h.res, heap_keep h.pos, heap_keep h.all⟩
theorem USt.drew {B : Nat} {w0 w : World} {s : ByteArray} {i : Nat} {is : Bool} (h : USt B w0 s i is w) : USt B w0 s i is w.drew := ⟨h.below.drew, h.size, h.str, h.res, h.pos, h.all⟩
theorem USt.below_step {B : Nat} {w0 w w' : World} {s : ByteArray} {i : Nat} {is : Bool} (h : USt B w0 s i is w) (hb : Below w.heap.size w w') : USt B w0 s i is w' :=
  ⟨h.below.trans (hb.mono (by have := h.size; omega)), Nat.le_trans h.size hb.size, (hb.block _ (blk_lt h.str)).trans h.str, (hb.block _ (blk_lt h.res)).trans h.res, (hb.block _ (blk_lt h.pos)).trans h.pos, (hb.block _ (blk_lt h.all)).trans h.all⟩
theorem USt.set {B : Nat} {w0 w : World} {s : ByteArray} {i : Nat} {is : Bool} (h : USt B w0 s i is w) (x j : Nat) (u : Value) (hx : B + 4 ≤ x) : USt B w0 s i is (w.setCell ⟨x, j, none⟩ u) :=
  ⟨h.below.setCell (by show B ≤ x; omega) u, by simpa [World.setCell] using h.size, set_keep h.str (by omega), set_keep h.res (by omega), set_keep h.pos (by omega), set_keep h.all (by omega)⟩
theorem USt.step {B : Nat} {w0 w wz : World} {s : ByteArray} {i : Nat} {is : Bool} (h : USt B w0 s i is w) (hb : Below w.heap.size w wz) (b : Bool) (j : Nat) :
    USt B w0 s j b ((wz.setCell ⟨B + 1 + 1 + 1, 0, none⟩ (.bool b)).setCell ⟨B + 1 + 1, 0, none⟩ (.int .i64 j)) := by
  have h := h.below_step hb
  exact ⟨(h.below.setCell (by show B ≤ B + 1 + 1 + 1; omega) _).setCell (by show B ≤ B + 1 + 1; omega) _, by rw [set_lt, set_lt]; exact h.size, set_keep (set_keep h.str (by omega)) (by omega), set_keep (set_keep h.res (by omega)) (by omega),
    blk_set (set_keep h.pos (by omega)) 0 _, set_keep (blk_set h.all 0 _) (by omega)⟩
theorem far_step {B : Nat} {w wz : World} (hb : Below w.heap.size w wz) (b : Value) (j : Value) (g : Nat) (hg : B + 4 ≤ g) (hl : g < w.heap.size) :
    ((wz.setCell ⟨B + 1 + 1 + 1, 0, none⟩ b).setCell ⟨B + 1 + 1, 0, none⟩ j).heap[g]? = w.heap[g]? := by
  rw [Below.heap_setCell _ _ _ g (by show g ≠ B + 1 + 1; omega), Below.heap_setCell _ _ _ g (by show g ≠ B + 1 + 1 + 1; omega)]
  exact hb.block g hl
theorem USt.new (w : World) (s : ByteArray) : USt w.heap.size w s 0 true ((((w.alloc (.cells #[.string s] 9)).alloc (.cells #[.int .u8 0, .int .u64 0, .int .u32 0, .int .u16 0, .string ⟨#[]⟩, .string ⟨#[]⟩, .bool false, .int .u64 0, .int .u32 0, .int .u16 0, .string ⟨#[]⟩, .int .i64 0] 34)).alloc (.cells #[.int .i64 0] 3)).alloc (.cells #[.bool true] 4)) := by
  have z1 : (w.alloc (.cells #[.string s] 9)).heap.size = w.heap.size + 1 := by simp
  have z2 : ((w.alloc (.cells #[.string s] 9)).alloc (.cells #[.int .u8 0, .int .u64 0, .int .u32 0, .int .u16 0, .string ⟨#[]⟩, .string ⟨#[]⟩, .bool false, .int .u64 0, .int .u32 0, .int .u16 0, .string ⟨#[]⟩, .int .i64 0] 34)).heap.size = w.heap.size + 1 + 1 := by simp
  have z3 : (((w.alloc (.cells #[.string s] 9)).alloc (.cells #[.int .u8 0, .int .u64 0, .int .u32 0, .int .u16 0, .string ⟨#[]⟩, .string ⟨#[]⟩, .bool false, .int .u64 0, .int .u32 0, .int .u16 0, .string ⟨#[]⟩, .int .i64 0] 34)).alloc (.cells #[.int .i64 0] 3)).heap.size = w.heap.size + 1 + 1 + 1 := by simp
  refine ⟨((((Below.refl _ _).alloc (Nat.le_refl _) _).alloc (by simp) _).alloc (by simp; omega) _).alloc (by simp; omega) _, by simp, ?_, ?_, ?_, ?_⟩
  · exact heap_keep (heap_keep (heap_keep (heap_alloc_new w _)))
  · have := heap_alloc_new (w.alloc (.cells #[.string s] 9)) (.cells #[.int .u8 0, .int .u64 0, .int .u32 0, .int .u16 0, .string ⟨#[]⟩, .string ⟨#[]⟩, .bool false, .int .u64 0, .int .u32 0, .int .u16 0, .string ⟨#[]⟩, .int .i64 0] 34)
    rw [z1] at this
    exact heap_keep (heap_keep this)
  · have := heap_alloc_new ((w.alloc (.cells #[.string s] 9)).alloc (.cells #[.int .u8 0, .int .u64 0, .int .u32 0, .int .u16 0, .string ⟨#[]⟩, .string ⟨#[]⟩, .bool false, .int .u64 0, .int .u32 0, .int .u16 0, .string ⟨#[]⟩, .int .i64 0] 34)) (.cells #[.int .i64 0] 3)
    rw [z2] at this
    exact heap_keep this
  · have := heap_alloc_new (((w.alloc (.cells #[.string s] 9)).alloc (.cells #[.int .u8 0, .int .u64 0, .int .u32 0, .int .u16 0, .string ⟨#[]⟩, .string ⟨#[]⟩, .bool false, .int .u64 0, .int .u32 0, .int .u16 0, .string ⟨#[]⟩, .int .i64 0] 34)).alloc (.cells #[.int .i64 0] 3)) (.cells #[.bool true] 4)
    rw [z3] at this
    exact this
theorem undo_res {w : World} {g : Nat} {t : TypeId} {a0 a1 a2 a3 a4 a5 a6 a7 a8 a9 a10 a11 : Value} (h : w.heap[g]? = some (.cells #[a0, a1, a2, a3, a4, a5, a6, a7, a8, a9, a10, a11] t (0, 0))) (v0 v1 v2 v3 v4 v5 v6 v7 v8 v9 v10 v11 : Value) :
    ((((((((((((w.setCell ⟨g, 0, none⟩ v0).setCell ⟨g, 1, none⟩ v1).setCell ⟨g, 2, none⟩ v2).setCell ⟨g, 3, none⟩ v3).setCell ⟨g, 4, none⟩ v4).setCell ⟨g, 5, none⟩ v5).setCell ⟨g, 6, none⟩ v6).setCell ⟨g, 7, none⟩ v7).setCell ⟨g, 8, none⟩ v8).setCell ⟨g, 9, none⟩ v9).setCell ⟨g, 10, none⟩ v10).setCell ⟨g, 11, none⟩ v11).cell? ⟨g, 0, none⟩ = some v0 ∧ ((((((((((((w.setCell ⟨g, 0, none⟩ v0).setCell ⟨g, 1, none⟩ v1).setCell ⟨g, 2, none⟩ v2).setCell ⟨g, 3, none⟩ v3).setCell ⟨g, 4, none⟩ v4).setCell ⟨g, 5, none⟩ v5).setCell ⟨g, 6, none⟩ v6).setCell ⟨g, 7, none⟩ v7).setCell ⟨g, 8, none⟩ v8).setCell ⟨g, 9, none⟩ v9).setCell ⟨g, 10, none⟩ v10).setCell ⟨g, 11, none⟩ v11).cell? ⟨g, 1, none⟩ = some v1 ∧ ((((((((((((w.setCell ⟨g, 0, none⟩ v0).setCell ⟨g, 1, none⟩ v1).setCell ⟨g, 2, none⟩ v2).setCell ⟨g, 3, none⟩ v3).setCell ⟨g, 4, none⟩ v4).setCell ⟨g, 5, none⟩ v5).setCell ⟨g, 6, none⟩ v6).setCell ⟨g, 7, none⟩ v7).setCell ⟨g, 8, none⟩ v8).setCell ⟨g, 9, none⟩ v9).setCell ⟨g, 10, none⟩ v10).setCell ⟨g, 11, none⟩ v11).cell? ⟨g, 2, none⟩ = some v2 ∧ ((((((((((((w.setCell ⟨g, 0, none⟩ v0).setCell ⟨g, 1, none⟩ v1).setCell ⟨g, 2, none⟩ v2).setCell ⟨g, 3, none⟩ v3).setCell ⟨g, 4, none⟩ v4).setCell ⟨g, 5, none⟩ v5).setCell ⟨g, 6, none⟩ v6).setCell ⟨g, 7, none⟩ v7).setCell ⟨g, 8, none⟩ v8).setCell ⟨g, 9, none⟩ v9).setCell ⟨g, 10, none⟩ v10).setCell ⟨g, 11, none⟩ v11).cell? ⟨g, 3, none⟩ = some v3 ∧ ((((((((((((w.setCell ⟨g, 0, none⟩ v0).setCell ⟨g, 1, none⟩ v1).setCell ⟨g, 2, none⟩ v2).setCell ⟨g, 3, none⟩ v3).setCell ⟨g, 4, none⟩ v4).setCell ⟨g, 5, none⟩ v5).setCell ⟨g, 6, none⟩ v6).setCell ⟨g, 7, none⟩ v7).setCell ⟨g, 8, none⟩ v8).setCell ⟨g, 9, none⟩ v9).setCell ⟨g, 10, none⟩ v10).setCell ⟨g, 11, none⟩ v11).cell? ⟨g, 4, none⟩ = some v4 ∧ ((((((((((((w.setCell ⟨g, 0, none⟩ v0).setCell ⟨g, 1, none⟩ v1).setCell ⟨g, 2, none⟩ v2).setCell ⟨g, 3, none⟩ v3).setCell ⟨g, 4, none⟩ v4).setCell ⟨g, 5, none⟩ v5).setCell ⟨g, 6, none⟩ v6).setCell ⟨g, 7, none⟩ v7).setCell ⟨g, 8, none⟩ v8).setCell ⟨g, 9, none⟩ v9).setCell ⟨g, 10, none⟩ v10).setCell ⟨g, 11, none⟩ v11).cell? ⟨g, 5, none⟩ = some v5 ∧ ((((((((((((w.setCell ⟨g, 0, none⟩ v0).setCell ⟨g, 1, none⟩ v1).setCell ⟨g, 2, none⟩ v2).setCell ⟨g, 3, none⟩ v3).setCell ⟨g, 4, none⟩ v4).setCell ⟨g, 5, none⟩ v5).setCell ⟨g, 6, none⟩ v6).setCell ⟨g, 7, none⟩ v7).setCell ⟨g, 8, none⟩ v8).setCell ⟨g, 9, none⟩ v9).setCell ⟨g, 10, none⟩ v10).setCell ⟨g, 11, none⟩ v11).cell? ⟨g, 6, none⟩ = some v6 ∧ ((((((((((((w.setCell ⟨g, 0, none⟩ v0).setCell ⟨g, 1, none⟩ v1).setCell ⟨g, 2, none⟩ v2).setCell ⟨g, 3, none⟩ v3).setCell ⟨g, 4, none⟩ v4).setCell ⟨g, 5, none⟩ v5).setCell ⟨g, 6, none⟩ v6).setCell ⟨g, 7, none⟩ v7).setCell ⟨g, 8, none⟩ v8).setCell ⟨g, 9, none⟩ v9).setCell ⟨g, 10, none⟩ v10).setCell ⟨g, 11, none⟩ v11).cell? ⟨g, 7, none⟩ = some v7 ∧ ((((((((((((w.setCell ⟨g, 0, none⟩ v0).setCell ⟨g, 1, none⟩ v1).setCell ⟨g, 2, none⟩ v2).setCell ⟨g, 3, none⟩ v3).setCell ⟨g, 4, none⟩ v4).setCell ⟨g, 5, none⟩ v5).setCell ⟨g, 6, none⟩ v6).setCell ⟨g, 7, none⟩ v7).setCell ⟨g, 8, none⟩ v8).setCell ⟨g, 9, none⟩ v9).setCell ⟨g, 10, none⟩ v10).setCell ⟨g, 11, none⟩ v11).cell? ⟨g, 8, none⟩ = some v8 ∧ ((((((((((((w.setCell ⟨g, 0, none⟩ v0).setCell ⟨g, 1, none⟩ v1).setCell ⟨g, 2, none⟩ v2).setCell ⟨g, 3, none⟩ v3).setCell ⟨g, 4, none⟩ v4).setCell ⟨g, 5, none⟩ v5).setCell ⟨g, 6, none⟩ v6).setCell ⟨g, 7, none⟩ v7).setCell ⟨g, 8, none⟩ v8).setCell ⟨g, 9, none⟩ v9).setCell ⟨g, 10, none⟩ v10).setCell ⟨g, 11, none⟩ v11).cell? ⟨g, 9, none⟩ = some v9 ∧ ((((((((((((w.setCell ⟨g, 0, none⟩ v0).setCell ⟨g, 1, none⟩ v1).setCell ⟨g, 2, none⟩ v2).setCell ⟨g, 3, none⟩ v3).setCell ⟨g, 4, none⟩ v4).setCell ⟨g, 5, none⟩ v5).setCell ⟨g, 6, none⟩ v6).setCell ⟨g, 7, none⟩ v7).setCell ⟨g, 8, none⟩ v8).setCell ⟨g, 9, none⟩ v9).setCell ⟨g, 10, none⟩ v10).setCell ⟨g, 11, none⟩ v11).cell? ⟨g, 10, none⟩ = some v10 ∧ ((((((((((((w.setCell ⟨g, 0, none⟩ v0).setCell ⟨g, 1, none⟩ v1).setCell ⟨g, 2, none⟩ v2).setCell ⟨g, 3, none⟩ v3).setCell ⟨g, 4, none⟩ v4).setCell ⟨g, 5, none⟩ v5).setCell ⟨g, 6, none⟩ v6).setCell ⟨g, 7, none⟩ v7).setCell ⟨g, 8, none⟩ v8).setCell ⟨g, 9, none⟩ v9).setCell ⟨g, 10, none⟩ v10).setCell ⟨g, 11, none⟩ v11).cell? ⟨g, 11, none⟩ = some v11 := by
  have hb := (blk_set (blk_set (blk_set (blk_set (blk_set (blk_set (blk_set (blk_set (blk_set (blk_set (blk_set (blk_set h 0 v0) 1 v1) 2 v2) 3 v3) 4 v4) 5 v5) 6 v6) 7 v7) 8 v8) 9 v9) 10 v10) 11 v11)
  simp only [List.setIfInBounds_toArray, List.set_cons_zero, List.set_cons_succ] at hb
  generalize ((((((((((((w.setCell ⟨g, 0, none⟩ v0).setCell ⟨g, 1, none⟩ v1).setCell ⟨g, 2, none⟩ v2).setCell ⟨g, 3, none⟩ v3).setCell ⟨g, 4, none⟩ v4).setCell ⟨g, 5, none⟩ v5).setCell ⟨g, 6, none⟩ v6).setCell ⟨g, 7, none⟩ v7).setCell ⟨g, 8, none⟩ v8).setCell ⟨g, 9, none⟩ v9).setCell ⟨g, 10, none⟩ v10).setCell ⟨g, 11, none⟩ v11) = W at hb ⊢
  refine ⟨?_, ?_, ?_, ?_, ?_, ?_, ?_, ?_, ?_, ?_, ?_, ?_⟩ <;> (rw [blk_cell hb]; rfl)
theorem undo_below {B g : Nat} {w0 w : World} (h : Below B w0 w) (hg : B ≤ g) (v0 v1 v2 v3 v4 v5 v6 v7 v8 v9 v10 v11 : Value) : Below B w0 ((((((((((((w.setCell ⟨g, 0, none⟩ v0).setCell ⟨g, 1, none⟩ v1).setCell ⟨g, 2, none⟩ v2).setCell ⟨g, 3, none⟩ v3).setCell ⟨g, 4, none⟩ v4).setCell ⟨g, 5, none⟩ v5).setCell ⟨g, 6, none⟩ v6).setCell ⟨g, 7, none⟩ v7).setCell ⟨g, 8, none⟩ v8).setCell ⟨g, 9, none⟩ v9).setCell ⟨g, 10, none⟩ v10).setCell ⟨g, 11, none⟩ v11) :=
  (((((((((((h.setCell hg _).setCell hg _).setCell hg _).setCell hg _).setCell hg _).setCell hg _).setCell hg _).setCell hg _).setCell hg _).setCell hg _).setCell hg _).setCell hg _
theorem wrap_at (i k : Nat) (hi : i ≤ 1000000) (h8 : k ≤ 8) : IntKind.i64.wrap ((i : Int) + (k : Int)) = ((i + k : Nat) : Int) := by
  rw [show ((i + k : Nat) : Int) = (i : Int) + (k : Int) by omega]
  exact IntWalk.i64_in _ ⟨by omega, by omega⟩
set_option maxHeartbeats 1000000 in
set_option maxRecDepth 100000 in
theorem unext (s : ByteArray) (B i k : Nat) (is : Bool) (w0 w : World) (hs : s.size ≤ 1000000) (hi : i ≤ 1000000) (h1 : 1 ≤ k) (h8 : k ≤ 8) (h : USt B w0 s i is w) :
    Calls Tryz.prog 46 #[.int .i64 k, .pointer (some ⟨B, 0, none⟩), .pointer (some ⟨B + 1 + 1, 0, none⟩), .pointer (some ⟨B + 1 + 1 + 1, 0, none⟩)] w fun e w' =>
      e = .returned (.int .u64 (rdNum s.data.toList i k)) ∧ USt B w0 s (i + k) (is && decide (i + k ≤ s.size)) w' ∧ w.heap.size ≤ w'.heap.size ∧ ∀ g, B + 4 ≤ g → g < w.heap.size → w'.heap[g]? = w.heap[g]? := by
  have hsm : s.size ≤ maxLen := by unfold maxLen; omega
  have hl : s.data.toList.length = s.size := by simp
  have G0 : ∀ W, Calls Tryz.prog 47 #[.string s, .int .i64 i, .int .i64 k] W fun e w' => e = .returned (.tuple #[.int .u64 (rdNum s.data.toList i k), .bool (decide (i + k ≤ s.size))]) ∧ Below W.heap.size W w' := by
    intro W
    by_cases hok : i + k ≤ s.size
    · have hn : rdNum s.data.toList i k = un ((s.data.toList.drop i).take k) := by unfold rdNum; rw [hl, if_pos hok]
      rw [hn, decide_eq_true hok]
      exact get_yes s i k W hsm hok h1 h8
    · have hn : rdNum s.data.toList i k = 0 := by unfold rdNum; rw [hl, if_neg hok]
      rw [hn, decide_eq_false hok]
      exact (get_no s i k W hsm (by omega) (by omega) (by omega)).mono fun _ _ ⟨he, hb⟩ => ⟨he, hb ▸ Below.refl _ _⟩
  have G := Lib.hid G0
  have hwr := wrap_at i k hi h8
  clear G0 hsm hl hi h1 h8 hs
  generalize rdNum s.data.toList i k = n at *
  generalize decide (i + k ≤ s.size) = b at *
  have c0 := blk_cell h.str 0
  have c1 := blk_cell h.pos 0
  have H := Lib.hid h
  clear h
  go_enter Tryz.func46, Tryz.ntmps46
  go_wp2_with fail
  refine (G.out _).mono ?_
  rintro e w1 ⟨rfl, hb⟩
  have h1 := H.out.below_step hb
  have c1 := blk_cell h1.pos 0
  have c2 := blk_cell h1.all 0
  have f1 := blk_frozen h1.pos 0
  have f2 := blk_frozen h1.all 0
  clear h1 c0
  have Hb := Lib.hid hb
  clear hb
  cases is with
  | false =>
    go_wp2_with fail
    go_ret
    exact ⟨rfl, H.out.step Hb.out _ _, by rw [set_lt, set_lt]; exact Hb.out.size, far_step Hb.out _ _⟩
  | true =>
    go_wp2_with fail
    go_ret
    exact ⟨rfl, H.out.step Hb.out _ _, by rw [set_lt, set_lt]; exact Hb.out.size, far_step Hb.out _ _⟩
end Go.Proofs.YtienlhnbmobinaaGreat
end

section
/- What undo.Decode returns, in plain words -/
namespace Go.Proofs.YtienlhnbmobinaaGreat
open Go.RowKit
set_option linter.unusedVariables false
set_option linter.unusedSimpArgs false
/-- What undo.Decode takes for a record's key and for its row. -/
def uHas (l : List UInt8) : Bool := decide (rdNum l 0 1 = 2) && decOk (l.drop 15)
def uK (l : List UInt8) : ByteArray := if rdNum l 0 1 = 2 then (if decOk (l.drop 15) then ⟨(dK (l.drop 15)).toArray⟩ else ⟨#[]⟩) else ⟨(l.drop 15).toArray⟩
def wK (l : List UInt8) : ByteArray := if uHas l then ⟨(dK (l.drop 15)).toArray⟩ else ⟨#[]⟩
def wM (l : List UInt8) : Bool := if uHas l then decide (0 < rdNum (l.drop 15) 0 1) else false
def wT (l : List UInt8) : Nat := if uHas l then rdNum (l.drop 15) 1 8 else 0
def wP (l : List UInt8) : Nat := if uHas l then rdNum (l.drop 15) 9 4 else 0
def wS (l : List UInt8) : Nat := if uHas l then rdNum (l.drop 15) 13 2 else 0
def wV (l : List UInt8) : ByteArray := if uHas l then ⟨(dV (l.drop 15)).toArray⟩ else ⟨#[]⟩
def wD (l : List UInt8) : Int := if uHas l then dPad (l.drop 15) else 0
def decUOk (l : List UInt8) : Bool := decide (15 ≤ l.length) && mayUndo (rdNum l 0 1) (rdNum l 1 8) (rdNum l 9 4) (rdNum l 13 2) (uK l) (wK l) (wM l) (wT l) (wP l) (wS l) (wV l) (wD l)
def zUV : Value := .tuple #[.agg #[.int .u8 0, .int .u64 0, .int .u32 0, .int .u16 0, .string ⟨#[]⟩, .string ⟨#[]⟩, .bool false, .int .u64 0, .int .u32 0, .int .u16 0, .string ⟨#[]⟩, .int .i64 0], .int .i64 7]
/-- What undo.Decode returns. -/
def decUV (l : List UInt8) : Value :=
  if decUOk l then .tuple #[.agg #[.int .u8 (rdNum l 0 1), .int .u64 (rdNum l 1 8), .int .u32 (rdNum l 9 4), .int .u16 (rdNum l 13 2), .string (uK l), .string (wK l), .bool (wM l), .int .u64 (wT l), .int .u32 (wP l), .int .u16 (wS l), .string (wV l), .int .i64 (wD l)], .int .i64 0] else zUV
theorem decUV_short {l : List UInt8} (h : l.length < 15) : decUV l = zUV := by
  unfold decUV decUOk
  rw [decide_eq_false (by omega), Bool.false_and]
  rfl
theorem mayUndo_nokey (kd x pg sl : Nat) (k : ByteArray) (m : Bool) (t p s : Nat) (v : ByteArray) (d : Int) : mayUndo kd x pg sl ⟨#[]⟩ k m t p s v d = false := by
  unfold mayUndo
  rw [decide_eq_false (by unfold UHead; show ¬ (_ ∧ _ ∧ _ ∧ 1 ≤ 0 ∧ _); omega), Bool.false_and]
theorem decUV_norow {l : List UInt8} (h : rdNum l 0 1 = 2) (hr : decOk (l.drop 15) = false) : decUV l = zUV := by
  have : uK l = ⟨#[]⟩ := by unfold uK; rw [if_pos h, hr]; rfl
  unfold decUV decUOk
  rw [this, mayUndo_nokey, Bool.and_false]
  rfl
theorem decUV_new {l : List UInt8} (h : rdNum l 0 1 ≠ 2) (h15 : 15 ≤ l.length) (n1 n2 n3 n4 : Nat) (y : ByteArray) (hn1 : rdNum l 0 1 = n1) (hn2 : rdNum l 1 8 = n2) (hn3 : rdNum l 9 4 = n3) (hn4 : rdNum l 13 2 = n4) (hy : y = ⟨(l.drop 15).toArray⟩) :
    decUV l = if mayUndo n1 n2 n3 n4 y ⟨#[]⟩ false 0 0 0 ⟨#[]⟩ 0 then .tuple #[.agg #[.int .u8 n1, .int .u64 n2, .int .u32 n3, .int .u16 n4, .string y, .string ⟨#[]⟩, .bool false, .int .u64 0, .int .u32 0, .int .u16 0, .string ⟨#[]⟩, .int .i64 0], .int .i64 0] else zUV := by
  have hu : uHas l = false := by unfold uHas; rw [decide_eq_false h, Bool.false_and]
  have hk : uK l = y := by unfold uK; rw [if_neg h, hy]
  unfold decUV decUOk wK wM wT wP wS wV wD
  rw [hu, hk, hn1, hn2, hn3, hn4, decide_eq_true h15, Bool.true_and]
  rfl
theorem decUV_put {l : List UInt8} (h : rdNum l 0 1 = 2) (h15 : 15 ≤ l.length) (hr : decOk (l.drop 15) = true) (n2 n3 n4 : Nat) (k v : ByteArray) (m : Bool) (t p s : Nat) (d : Int) (hn2 : rdNum l 1 8 = n2) (hn3 : rdNum l 9 4 = n3) (hn4 : rdNum l 13 2 = n4)
    (hk : k = ⟨(dK (l.drop 15)).toArray⟩) (hv : v = ⟨(dV (l.drop 15)).toArray⟩) (hm : m = decide (0 < rdNum (l.drop 15) 0 1)) (ht : t = rdNum (l.drop 15) 1 8) (hp : p = rdNum (l.drop 15) 9 4) (hs : s = rdNum (l.drop 15) 13 2) (hd : d = dPad (l.drop 15)) :
    decUV l = if mayUndo 2 n2 n3 n4 k k m t p s v d then .tuple #[.agg #[.int .u8 2, .int .u64 n2, .int .u32 n3, .int .u16 n4, .string k, .string k, .bool m, .int .u64 t, .int .u32 p, .int .u16 s, .string v, .int .i64 d], .int .i64 0] else zUV := by
  have hu : uHas l = true := by unfold uHas; rw [decide_eq_true h, hr]; rfl
  have hk' : uK l = k := by unfold uK; rw [if_pos h, hr, hk]; rfl
  unfold decUV decUOk wK wM wT wP wS wV wD
  rw [hu, hk', h, hn2, hn3, hn4, decide_eq_true h15, Bool.true_and, hk, hv, hm, ht, hp, hs, hd]
  rfl
end Go.Proofs.YtienlhnbmobinaaGreat
end
