/- The walk of the law KeyTells: it returns true, and nothing that was there is changed. -/
import Derived.Test.YtahaikfijegknaaRows
import Derived.Test.YtahaikfijegknaaKeyPlain
import Derived.Test.YtahaikfijegknaaKeyWalks
import Derived.WalkKit
import Derived.WalkLawsBesides
import Derived.WalkSpells
import Derived.LoopTactic
import Derived.WalkMore
import Derived.Test.YtahaikfijegknaaShelf
import Derived.BigQuiet
import Derived.Deep.QuietTactic
import Derived.Lib.Hide
import Derived.Outline
import Derived.Deep.DeepCutAuto
namespace Go.Proofs.Ytahaikfijegknaa
open Go.RowKit
set_option linter.unusedVariables false

theorem cells3 (w : World) (t : TypeId) (a b c : ByteArray) : ∀ i, i < [a, b, c].length → (w.alloc (.cells #[.string a, .string b, .string c] t)).cell? ⟨w.heap.size, i, none⟩ = some (.string ([a, b, c].getD i ByteArray.empty)) := by
  intro i hi
  match i, hi with
  | 0, _ => simp [go_sem]
  | 1, _ => simp [go_sem]
  | 2, _ => simp [go_sem]

set_option maxHeartbeats 1000000 in
/-- The law's walk: it returns true; nothing that was there is changed. -/
theorem keyTells_walk (a b c : ByteArray) (w : World) (ha : a.size ≤ maxLen) (hb : b.size ≤ maxLen) (hc : c.size ≤ maxLen) :
    Calls Try.prog 3 #[.string a, .string b, .string c] w fun e w' => e = .returned (.bool true) ∧ Below w.heap.size w w' := by
  have l := fun W hc' => keyLong_any [a, b, c] w.heap.size 3 W (by simp) hc' (by simp; exact ⟨ha, hb, hc⟩)
  have m := fun W => keyMay_any a W ha
  have v := fun W => keyValue_any a W ha
  generalize hbm : decide (1 ≤ a.size ∧ a.size ≤ 48) = bm at m
  generalize hbv : decide (a.size ≤ 96) = bv at v
  have C1 := Lib.hid fun W => keyCompare_any a b W
  have C2 := Lib.hid fun W => refCompare_any a b W ha hb
  have D1 := Lib.hid fun W => keyCommon_any a b W ha hb
  have D2 := Lib.hid fun W => refCommon_any a b W ha hb
  have I1 := Lib.hid fun W => keyIn_any a b c W
  have I2 := Lib.hid fun W => refIn_any a b c W ha hb hc
  have cl := Lib.hid (cells3 w 9 a b c)
  unfold maxLen at ha hb hc
  generalize hy : ([a, b, c].any fun s => decide (512 < s.size)) = y at l
  clear hy
  generalize Lib.compareBytes a.data.toList b.data.toList = x1 at *
  generalize com a.data.toList b.data.toList = x2 at *
  generalize within a.data.toList b.data.toList c.data.toList = x3 at *
  cases y with
  | true =>
    have L := Lib.hid l
    clear l m v
    go_enter Try.func3, Try.ntmps3
    go_wp2_with fail
    refine (L.out _ cl.out).mono ?_
    rintro e w1 ⟨rfl, rfl⟩
    go_wp2_with fail
    refine (alive03 _).mono ?_
    rintro e w1 ⟨rfl, m1, rfl⟩
    go_wp2_with fail
    go_ret
    exact ⟨rfl, below_drewN ((Below.refl _ _).alloc (Nat.le_refl _) _) _⟩
  | false =>
    have L := Lib.hid l
    clear l
    have hcases : a.size = 0 ∨ (1 ≤ a.size ∧ a.size ≤ 48) ∨ (49 ≤ a.size ∧ a.size ≤ 96) ∨ 97 ≤ a.size := by omega
    rcases hcases with h | ⟨h, h'⟩ | ⟨h, h'⟩ | h
    · obtain rfl : bm = false := by rw [← hbm]; simp; omega
      obtain rfl : bv = true := by rw [← hbv]; simp; omega
      have f48 : decide ((a.size : Int) ≤ 48) = true := by simp; omega
      have f96 : decide ((a.size : Int) ≤ 96) = true := by simp; omega
      have M := Lib.hid m
      have V := Lib.hid v
      clear m v hbm hbv
      go_enter Try.func3, Try.ntmps3
      go_wp2_with fail
      refine (L.out _ cl.out).mono ?_
      rintro e w1 ⟨rfl, rfl⟩
      go_wp2_with fail
      refine (M.out _).mono ?_
      rintro e w1 ⟨rfl, rfl⟩
      go_wp2_with fail
      refine (V.out _).mono ?_
      rintro e w1 ⟨rfl, rfl⟩
      go_wp2_with fail
      refine (C1.out _).mono ?_
      rintro e w1 ⟨rfl, rfl⟩
      go_wp2_with fail
      refine (C2.out _).mono ?_
      rintro e w1 ⟨rfl, m1, rfl⟩
      go_wp2_with fail
      refine (D1.out _).mono ?_
      rintro e w1 ⟨rfl, m2, rfl⟩
      go_wp2_with fail
      refine (D2.out _).mono ?_
      rintro e w1 ⟨rfl, m3, rfl⟩
      go_wp2_with fail
      refine (I1.out _).mono ?_
      rintro e w1 ⟨rfl, rfl⟩
      go_wp2_with fail
      refine (I2.out _).mono ?_
      rintro e w1 ⟨rfl, m4, rfl⟩
      go_wp2_with fail
      refine (alive03 _).mono ?_
      rintro e w1 ⟨rfl, m1, rfl⟩
      go_wp2_with fail
      go_ret
      exact ⟨rfl, below_drewN ((Below.refl _ _).alloc (Nat.le_refl _) _) _⟩
    · obtain rfl : bm = true := by rw [← hbm]; simp; omega
      obtain rfl : bv = true := by rw [← hbv]; simp; omega
      have f48 : decide ((a.size : Int) ≤ 48) = true := by simp; omega
      have f96 : decide ((a.size : Int) ≤ 96) = true := by simp; omega
      have M := Lib.hid m
      have V := Lib.hid v
      clear m v hbm hbv
      go_enter Try.func3, Try.ntmps3
      go_wp2_with fail
      refine (L.out _ cl.out).mono ?_
      rintro e w1 ⟨rfl, rfl⟩
      go_wp2_with fail
      refine (M.out _).mono ?_
      rintro e w1 ⟨rfl, rfl⟩
      go_wp2_with fail
      refine (V.out _).mono ?_
      rintro e w1 ⟨rfl, rfl⟩
      go_wp2_with fail
      refine (C1.out _).mono ?_
      rintro e w1 ⟨rfl, rfl⟩
      go_wp2_with fail
      refine (C2.out _).mono ?_
      rintro e w1 ⟨rfl, m1, rfl⟩
      go_wp2_with fail
      refine (D1.out _).mono ?_
      rintro e w1 ⟨rfl, m2, rfl⟩
      go_wp2_with fail
      refine (D2.out _).mono ?_
      rintro e w1 ⟨rfl, m3, rfl⟩
      go_wp2_with fail
      refine (I1.out _).mono ?_
      rintro e w1 ⟨rfl, rfl⟩
      go_wp2_with fail
      refine (I2.out _).mono ?_
      rintro e w1 ⟨rfl, m4, rfl⟩
      go_wp2_with fail
      refine (alive03 _).mono ?_
      rintro e w1 ⟨rfl, m1, rfl⟩
      go_wp2_with fail
      go_ret
      exact ⟨rfl, below_drewN ((Below.refl _ _).alloc (Nat.le_refl _) _) _⟩
    · obtain rfl : bm = false := by rw [← hbm]; simp; omega
      obtain rfl : bv = true := by rw [← hbv]; simp; omega
      have f48 : decide ((a.size : Int) ≤ 48) = false := by simp; omega
      have f96 : decide ((a.size : Int) ≤ 96) = true := by simp; omega
      have M := Lib.hid m
      have V := Lib.hid v
      clear m v hbm hbv
      go_enter Try.func3, Try.ntmps3
      go_wp2_with fail
      refine (L.out _ cl.out).mono ?_
      rintro e w1 ⟨rfl, rfl⟩
      go_wp2_with fail
      refine (M.out _).mono ?_
      rintro e w1 ⟨rfl, rfl⟩
      go_wp2_with fail
      refine (V.out _).mono ?_
      rintro e w1 ⟨rfl, rfl⟩
      go_wp2_with fail
      refine (C1.out _).mono ?_
      rintro e w1 ⟨rfl, rfl⟩
      go_wp2_with fail
      refine (C2.out _).mono ?_
      rintro e w1 ⟨rfl, m1, rfl⟩
      go_wp2_with fail
      refine (D1.out _).mono ?_
      rintro e w1 ⟨rfl, m2, rfl⟩
      go_wp2_with fail
      refine (D2.out _).mono ?_
      rintro e w1 ⟨rfl, m3, rfl⟩
      go_wp2_with fail
      refine (I1.out _).mono ?_
      rintro e w1 ⟨rfl, rfl⟩
      go_wp2_with fail
      refine (I2.out _).mono ?_
      rintro e w1 ⟨rfl, m4, rfl⟩
      go_wp2_with fail
      refine (alive03 _).mono ?_
      rintro e w1 ⟨rfl, m1, rfl⟩
      go_wp2_with fail
      go_ret
      exact ⟨rfl, below_drewN ((Below.refl _ _).alloc (Nat.le_refl _) _) _⟩
    · obtain rfl : bm = false := by rw [← hbm]; simp; omega
      obtain rfl : bv = false := by rw [← hbv]; simp; omega
      have f48 : decide ((a.size : Int) ≤ 48) = false := by simp; omega
      have f96 : decide ((a.size : Int) ≤ 96) = false := by simp; omega
      have M := Lib.hid m
      have V := Lib.hid v
      clear m v hbm hbv
      go_enter Try.func3, Try.ntmps3
      go_wp2_with fail
      refine (L.out _ cl.out).mono ?_
      rintro e w1 ⟨rfl, rfl⟩
      go_wp2_with fail
      refine (M.out _).mono ?_
      rintro e w1 ⟨rfl, rfl⟩
      go_wp2_with fail
      refine (V.out _).mono ?_
      rintro e w1 ⟨rfl, rfl⟩
      go_wp2_with fail
      refine (C1.out _).mono ?_
      rintro e w1 ⟨rfl, rfl⟩
      go_wp2_with fail
      refine (C2.out _).mono ?_
      rintro e w1 ⟨rfl, m1, rfl⟩
      go_wp2_with fail
      refine (D1.out _).mono ?_
      rintro e w1 ⟨rfl, m2, rfl⟩
      go_wp2_with fail
      refine (D2.out _).mono ?_
      rintro e w1 ⟨rfl, m3, rfl⟩
      go_wp2_with fail
      refine (I1.out _).mono ?_
      rintro e w1 ⟨rfl, rfl⟩
      go_wp2_with fail
      refine (I2.out _).mono ?_
      rintro e w1 ⟨rfl, m4, rfl⟩
      go_wp2_with fail
      refine (alive03 _).mono ?_
      rintro e w1 ⟨rfl, m1, rfl⟩
      go_wp2_with fail
      go_ret
      exact ⟨rfl, below_drewN ((Below.refl _ _).alloc (Nat.le_refl _) _) _⟩

end Go.Proofs.Ytahaikfijegknaa
