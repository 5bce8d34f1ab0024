/- The reference's Decode: any bytes -/
import Derived.Test.YtahaikfijegknaaRows
import Derived.Test.YtahaikfijegknaaRefDecode3
import Derived.WalkKit
import Derived.WalkLawsBesides
import Derived.WalkSpells
import Derived.LoopTactic
import Derived.WalkMore
import Derived.LoopN
import Derived.Laws.BitsAllLaws
import Derived.Laws.IdiomStrings
import Derived.BigQuiet
import Derived.Deep.QuietTactic
import Derived.Deep.DeepCutAuto
import Derived.Deep.RegionHeld3
import Derived.Deep.DrawnRows
import Derived.Lib.Hide
import Derived.Outline
import Derived.Deep.DeepMust
import Derived.Handy
namespace Go.Proofs.Ytahaikfijegknaa
open Go.RowKit
set_option linter.unusedVariables false
set_option linter.unusedSimpArgs false

set_option maxHeartbeats 2000000 in
set_option maxRecDepth 100000 in
theorem refDecode_cut (s : ByteArray) (n1 n2 n3 n4 n5 n6 : Nat) (w : World) (hs : s.size ≤ 1000000)
    (C1 : Hid (∀ W, Calls Try.prog 54 #[.string s, .int .i64 0, .int .i64 1] W fun e w' => e = .returned (.tuple #[.int .u64 n1, .bool true]) ∧ W = w'))
    (C2 : Hid (∀ W, Calls Try.prog 54 #[.string s, .int .i64 1, .int .i64 8] W fun e w' => e = .returned (.tuple #[.int .u64 n2, .bool true]) ∧ W = w'))
    (C3 : Hid (∀ W, Calls Try.prog 54 #[.string s, .int .i64 9, .int .i64 4] W fun e w' => e = .returned (.tuple #[.int .u64 n3, .bool true]) ∧ W = w'))
    (C4 : Hid (∀ W, Calls Try.prog 54 #[.string s, .int .i64 13, .int .i64 2] W fun e w' => e = .returned (.tuple #[.int .u64 n4, .bool true]) ∧ W = w'))
    (C5 : Hid (∀ W, Calls Try.prog 54 #[.string s, .int .i64 15, .int .i64 1] W fun e w' => e = .returned (.tuple #[.int .u64 n5, .bool true]) ∧ W = w'))
    (C6 : Hid (∀ W, Calls Try.prog 54 #[.string s, .int .i64 (16 + (n5 : Int)), .int .i64 1] W fun e w' => e = .returned (.tuple #[.int .u64 n6, .bool false]) ∧ W = w'))
    (h1 : n1 ≤ 1) (h5 : n5 < 256) (h6 : n6 < 256) (HO : Hid (decOk s.data.toList = false)) :
    Calls Try.prog 31 #[.string s] w fun e w' => e = .returned (decV s.data.toList) ∧ Below w.heap.size w w' := by
  have w5 : IntKind.i64.wrap (n5 : Int) = n5 := IntWalk.i64_in _ ⟨by omega, by omega⟩
  have w6 : IntKind.i64.wrap (16 + (n5 : Int)) = 16 + (n5 : Int) := IntWalk.i64_in _ ⟨by omega, by omega⟩
  go_enter Try.func31, Try.ntmps31
  go_wp2_with fail
  refine (C1.out _).mono ?_
  rintro e w1 ⟨rfl, rfl⟩
  go_wp2_with fail
  refine (C2.out _).mono ?_
  rintro e w1 ⟨rfl, rfl⟩
  go_wp2_with fail
  refine (C3.out _).mono ?_
  rintro e w1 ⟨rfl, rfl⟩
  go_wp2_with fail
  refine (C4.out _).mono ?_
  rintro e w1 ⟨rfl, rfl⟩
  go_wp2_with fail
  refine (C5.out _).mono ?_
  rintro e w1 ⟨rfl, rfl⟩
  go_wp2_with fail
  refine (C6.out _).mono ?_
  rintro e w1 ⟨rfl, rfl⟩
  go_wp2_with fail
  refine bodyPost_ret (v := .tuple #[.agg #[.string ⟨#[]⟩, .bool false, .int .u64 0, .int .u32 0, .int .u16 0, .string ⟨#[]⟩, .int .i64 0], .int .i64 7]) (by simp [results, Try.results31, go_sem]) rfl ⟨?_, (Below.refl _ _).alloc (Nat.le_refl _) _⟩
  rw [decV_bad HO.out]

set_option maxHeartbeats 2000000 in
set_option maxRecDepth 100000 in
theorem refDecode_long (s : ByteArray) (n1 n2 n3 n4 n5 n6 : Nat) (w : World) (hs : s.size ≤ 1000000)
    (C1 : Hid (∀ W, Calls Try.prog 54 #[.string s, .int .i64 0, .int .i64 1] W fun e w' => e = .returned (.tuple #[.int .u64 n1, .bool true]) ∧ W = w'))
    (C2 : Hid (∀ W, Calls Try.prog 54 #[.string s, .int .i64 1, .int .i64 8] W fun e w' => e = .returned (.tuple #[.int .u64 n2, .bool true]) ∧ W = w'))
    (C3 : Hid (∀ W, Calls Try.prog 54 #[.string s, .int .i64 9, .int .i64 4] W fun e w' => e = .returned (.tuple #[.int .u64 n3, .bool true]) ∧ W = w'))
    (C4 : Hid (∀ W, Calls Try.prog 54 #[.string s, .int .i64 13, .int .i64 2] W fun e w' => e = .returned (.tuple #[.int .u64 n4, .bool true]) ∧ W = w'))
    (C5 : Hid (∀ W, Calls Try.prog 54 #[.string s, .int .i64 15, .int .i64 1] W fun e w' => e = .returned (.tuple #[.int .u64 n5, .bool true]) ∧ W = w'))
    (C6 : Hid (∀ W, Calls Try.prog 54 #[.string s, .int .i64 (16 + (n5 : Int)), .int .i64 1] W fun e w' => e = .returned (.tuple #[.int .u64 n6, .bool true]) ∧ W = w'))
    (h1 : n1 ≤ 1) (h5 : n5 < 256) (h6 : n6 < 256) (hout : s.size < 17 + n5 + n6) (HO : Hid (decOk s.data.toList = false)) :
    Calls Try.prog 31 #[.string s] w fun e w' => e = .returned (decV s.data.toList) ∧ Below w.heap.size w w' := by
  have w5 : IntKind.i64.wrap (n5 : Int) = n5 := IntWalk.i64_in _ ⟨by omega, by omega⟩
  have w6 : IntKind.i64.wrap (16 + (n5 : Int)) = 16 + (n5 : Int) := IntWalk.i64_in _ ⟨by omega, by omega⟩
  go_enter Try.func31, Try.ntmps31
  go_wp2_with fail
  refine (C1.out _).mono ?_
  rintro e w1 ⟨rfl, rfl⟩
  go_wp2_with fail
  refine (C2.out _).mono ?_
  rintro e w1 ⟨rfl, rfl⟩
  go_wp2_with fail
  refine (C3.out _).mono ?_
  rintro e w1 ⟨rfl, rfl⟩
  go_wp2_with fail
  refine (C4.out _).mono ?_
  rintro e w1 ⟨rfl, rfl⟩
  go_wp2_with fail
  refine (C5.out _).mono ?_
  rintro e w1 ⟨rfl, rfl⟩
  go_wp2_with fail
  refine (C6.out _).mono ?_
  rintro e w1 ⟨rfl, rfl⟩
  go_wp2_with fail
  refine bodyPost_ret (v := .tuple #[.agg #[.string ⟨#[]⟩, .bool false, .int .u64 0, .int .u32 0, .int .u16 0, .string ⟨#[]⟩, .int .i64 0], .int .i64 7]) (by simp [results, Try.results31, go_sem]) rfl ⟨?_, (Below.refl _ _).alloc (Nat.le_refl _) _⟩
  rw [decV_bad HO.out]

theorem refDecode_any (s : ByteArray) (w : World) (hs : s.size ≤ 1000000) :
    Calls Try.prog 31 #[.string s] w fun e w' => e = .returned (decV s.data.toList) ∧ Below w.heap.size w w' := by
  have hlen : s.data.toList.length = s.size := by simp
  have hA : dA s.data.toList = 15 + 1 + dKn s.data.toList := rfl
  have hE : dE s.data.toList = dA s.data.toList + 1 + dVn s.data.toList := rfl
  have l1 := rdNum_lt s.data.toList 0 1
  have l3 := rdNum_lt s.data.toList 9 4
  have l4 := rdNum_lt s.data.toList 13 2
  have l5 : dKn s.data.toList < 2 ^ (8 * 1) := rdNum_lt s.data.toList 15 1
  have l6 : dVn s.data.toList < 2 ^ (8 * 1) := rdNum_lt s.data.toList (dA s.data.toList) 1
  simp only [Nat.reducePow, Nat.reduceMul] at l1 l3 l4 l5 l6
  have c1 := fun W => refGet_any s 0 1 W hs (by omega) (by omega) (by omega)
  have c2 := fun W => refGet_any s 1 8 W hs (by omega) (by omega) (by omega)
  have c3 := fun W => refGet_any s 9 4 W hs (by omega) (by omega) (by omega)
  have c4 := fun W => refGet_any s 13 2 W hs (by omega) (by omega) (by omega)
  have c5 := fun W => refGet_any s 15 1 W hs (by omega) (by omega) (by omega)
  have c6 := fun W => refGet_any s (dA s.data.toList) 1 W hs (by omega) (by omega) (by omega)
  by_cases h16 : 16 ≤ s.size
  · rw [decide_eq_true (by omega)] at c1 c2 c3 c4 c5
    by_cases hm : rdNum s.data.toList 0 1 ≤ 1
    · have hc : ((dA s.data.toList : Nat) : Int) = 16 + (dKn s.data.toList : Int) := by omega
      rw [hc] at c6
      by_cases h6 : dA s.data.toList + 1 ≤ s.size
      · rw [decide_eq_true h6] at c6
        by_cases hfit : dE s.data.toList ≤ s.size
        · exact refDecode_rest s _ _ _ _ (dKn s.data.toList) (dVn s.data.toList) true w hs (Lib.hid c1) (Lib.hid c2) (Lib.hid c3) (Lib.hid c4) (Lib.hid c5) (Lib.hid c6) (Lib.hid ⟨rfl, rfl, rfl, rfl, rfl, rfl⟩) (Lib.hid (by omega)) hm l3 l4 l5 l6 rfl (by omega)
        · exact refDecode_long s _ _ _ _ (dKn s.data.toList) (dVn s.data.toList) w hs (Lib.hid c1) (Lib.hid c2) (Lib.hid c3) (Lib.hid c4) (Lib.hid c5) (Lib.hid c6) hm l5 l6 (by omega) (Lib.hid (decOk_short _ (by omega)))
      · rw [decide_eq_false h6] at c6
        exact refDecode_cut s _ _ _ _ (dKn s.data.toList) (dVn s.data.toList) w hs (Lib.hid c1) (Lib.hid c2) (Lib.hid c3) (Lib.hid c4) (Lib.hid c5) (Lib.hid c6) hm l5 l6 (Lib.hid (decOk_short _ (by omega)))
    · exact refDecode_mark s _ _ _ _ _ w (Lib.hid c1) (Lib.hid c2) (Lib.hid c3) (Lib.hid c4) (Lib.hid c5) (by omega) (by omega) (Lib.hid (decOk_mark _ (by omega)))
  · refine refDecode_chain s _ _ _ _ _ _ _ _ _ _ w (Lib.hid c1) (Lib.hid c2) (Lib.hid c3) (Lib.hid c4) (Lib.hid c5) ?_ (Lib.hid (decOk_short _ (by omega)))
    rw [decide_eq_false (p := 15 + 1 ≤ s.size) (by omega)]
    simp

end Go.Proofs.Ytahaikfijegknaa
