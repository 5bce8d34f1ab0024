/- The reference's Decode, where a number is missing or the mark is above one -/
import Derived.Test.YtahaikfijegknaaRows
import Derived.Test.YtahaikfijegknaaRefDecPlain
import Derived.Test.YtahaikfijegknaaRefEntDecode
import Derived.WalkKit
import Derived.WalkLawsBesides
import Derived.WalkSpells
import Derived.LoopTactic
import Derived.WalkMore
import Derived.LoopN
import Derived.Laws.BitsAllLaws
import Derived.Laws.IdiomStrings
import Derived.BigQuiet
import Derived.Deep.QuietTactic
import Derived.Deep.DeepCutAuto
import Derived.Deep.RegionHeld3
import Derived.Deep.DrawnRows
import Derived.Lib.Hide
import Derived.Outline
import Derived.Deep.DeepMust
import Derived.Handy
namespace Go.Proofs.Ytahaikfijegknaa
open Go.RowKit
set_option linter.unusedVariables false
set_option linter.unusedSimpArgs false

theorem refGet_any (s : ByteArray) (a k : Nat) (w : World) (hs : s.size ≤ 1000000) (ha : a ≤ 2000000) (h1 : 1 ≤ k) (h8 : k ≤ 8) :
    Calls Try.prog 54 #[.string s, .int .i64 a, .int .i64 k] w fun e w' => e = .returned (.tuple #[.int .u64 (rdNum s.data.toList a k), .bool (decide (a + k ≤ s.size))]) ∧ w = w' := by
  have hsm : s.size ≤ maxLen := by unfold maxLen; omega
  have hlen : s.data.toList.length = s.size := by simp
  by_cases h : a + k ≤ s.size
  · have hn : rdNum s.data.toList a k = un ((s.data.toList.drop a).take k) := by unfold rdNum; rw [if_pos (by rw [hlen]; exact h)]
    rw [hn, decide_eq_true h]
    exact refGet_yes s a k w hsm h h1 h8
  · have hn : rdNum s.data.toList a k = 0 := by unfold rdNum; rw [if_neg (by rw [hlen]; exact h)]
    rw [hn, decide_eq_false h]
    exact refGet_no s a k w hsm (Or.inr (Or.inr (by omega))) (by omega) (by omega)

theorem decV_bad {l : List UInt8} (h : decOk l = false) : decV l = .tuple #[.agg #[.string ⟨#[]⟩, .bool false, .int .u64 0, .int .u32 0, .int .u16 0, .string ⟨#[]⟩, .int .i64 0], .int .i64 7] := by unfold decV; rw [h]; rfl

set_option maxHeartbeats 2000000 in
set_option maxRecDepth 100000 in
theorem refDecode_chain (s : ByteArray) (n1 n2 n3 n4 n5 : Nat) (b1 b2 b3 b4 b5 : Bool) (w : World)
    (C1 : Hid (∀ W, Calls Try.prog 54 #[.string s, .int .i64 0, .int .i64 1] W fun e w' => e = .returned (.tuple #[.int .u64 n1, .bool b1]) ∧ W = w'))
    (C2 : Hid (∀ W, Calls Try.prog 54 #[.string s, .int .i64 1, .int .i64 8] W fun e w' => e = .returned (.tuple #[.int .u64 n2, .bool b2]) ∧ W = w'))
    (C3 : Hid (∀ W, Calls Try.prog 54 #[.string s, .int .i64 9, .int .i64 4] W fun e w' => e = .returned (.tuple #[.int .u64 n3, .bool b3]) ∧ W = w'))
    (C4 : Hid (∀ W, Calls Try.prog 54 #[.string s, .int .i64 13, .int .i64 2] W fun e w' => e = .returned (.tuple #[.int .u64 n4, .bool b4]) ∧ W = w'))
    (C5 : Hid (∀ W, Calls Try.prog 54 #[.string s, .int .i64 15, .int .i64 1] W fun e w' => e = .returned (.tuple #[.int .u64 n5, .bool b5]) ∧ W = w'))
    (hb : (b1 && (b2 && (b3 && (b4 && b5)))) = false) (HO : Hid (decOk s.data.toList = false)) :
    Calls Try.prog 31 #[.string s] w fun e w' => e = .returned (decV s.data.toList) ∧ Below w.heap.size w w' := by
  cases b1 with
  | false =>
    clear hb
    go_enter Try.func31, Try.ntmps31
    go_wp2_with fail
    refine (C1.out _).mono ?_
    rintro e w1 ⟨rfl, rfl⟩
    go_wp2_with fail
    refine (C2.out _).mono ?_
    rintro e w2 ⟨rfl, rfl⟩
    go_wp2_with fail
    refine (C3.out _).mono ?_
    rintro e w3 ⟨rfl, rfl⟩
    go_wp2_with fail
    refine (C4.out _).mono ?_
    rintro e w4 ⟨rfl, rfl⟩
    go_wp2_with fail
    refine (C5.out _).mono ?_
    rintro e w5 ⟨rfl, rfl⟩
    go_wp2_with fail
    refine bodyPost_ret (v := .tuple #[.agg #[.string ⟨#[]⟩, .bool false, .int .u64 0, .int .u32 0, .int .u16 0, .string ⟨#[]⟩, .int .i64 0], .int .i64 7]) (by simp [results, Try.results31, go_sem]) rfl ⟨?_, (Below.refl _ _).alloc (Nat.le_refl _) _⟩
    rw [decV_bad HO.out]
  | true =>
    cases b2 with
    | false =>
      clear hb
      go_enter Try.func31, Try.ntmps31
      go_wp2_with fail
      refine (C1.out _).mono ?_
      rintro e w1 ⟨rfl, rfl⟩
      go_wp2_with fail
      refine (C2.out _).mono ?_
      rintro e w2 ⟨rfl, rfl⟩
      go_wp2_with fail
      refine (C3.out _).mono ?_
      rintro e w3 ⟨rfl, rfl⟩
      go_wp2_with fail
      refine (C4.out _).mono ?_
      rintro e w4 ⟨rfl, rfl⟩
      go_wp2_with fail
      refine (C5.out _).mono ?_
      rintro e w5 ⟨rfl, rfl⟩
      go_wp2_with fail
      refine bodyPost_ret (v := .tuple #[.agg #[.string ⟨#[]⟩, .bool false, .int .u64 0, .int .u32 0, .int .u16 0, .string ⟨#[]⟩, .int .i64 0], .int .i64 7]) (by simp [results, Try.results31, go_sem]) rfl ⟨?_, (Below.refl _ _).alloc (Nat.le_refl _) _⟩
      rw [decV_bad HO.out]
    | true =>
      cases b3 with
      | false =>
        clear hb
        go_enter Try.func31, Try.ntmps31
        go_wp2_with fail
        refine (C1.out _).mono ?_
        rintro e w1 ⟨rfl, rfl⟩
        go_wp2_with fail
        refine (C2.out _).mono ?_
        rintro e w2 ⟨rfl, rfl⟩
        go_wp2_with fail
        refine (C3.out _).mono ?_
        rintro e w3 ⟨rfl, rfl⟩
        go_wp2_with fail
        refine (C4.out _).mono ?_
        rintro e w4 ⟨rfl, rfl⟩
        go_wp2_with fail
        refine (C5.out _).mono ?_
        rintro e w5 ⟨rfl, rfl⟩
        go_wp2_with fail
        refine bodyPost_ret (v := .tuple #[.agg #[.string ⟨#[]⟩, .bool false, .int .u64 0, .int .u32 0, .int .u16 0, .string ⟨#[]⟩, .int .i64 0], .int .i64 7]) (by simp [results, Try.results31, go_sem]) rfl ⟨?_, (Below.refl _ _).alloc (Nat.le_refl _) _⟩
        rw [decV_bad HO.out]
      | true =>
        cases b4 with
        | false =>
          clear hb
          go_enter Try.func31, Try.ntmps31
          go_wp2_with fail
          refine (C1.out _).mono ?_
          rintro e w1 ⟨rfl, rfl⟩
          go_wp2_with fail
          refine (C2.out _).mono ?_
          rintro e w2 ⟨rfl, rfl⟩
          go_wp2_with fail
          refine (C3.out _).mono ?_
          rintro e w3 ⟨rfl, rfl⟩
          go_wp2_with fail
          refine (C4.out _).mono ?_
          rintro e w4 ⟨rfl, rfl⟩
          go_wp2_with fail
          refine (C5.out _).mono ?_
          rintro e w5 ⟨rfl, rfl⟩
          go_wp2_with fail
          refine bodyPost_ret (v := .tuple #[.agg #[.string ⟨#[]⟩, .bool false, .int .u64 0, .int .u32 0, .int .u16 0, .string ⟨#[]⟩, .int .i64 0], .int .i64 7]) (by simp [results, Try.results31, go_sem]) rfl ⟨?_, (Below.refl _ _).alloc (Nat.le_refl _) _⟩
          rw [decV_bad HO.out]
        | true =>
          cases b5 with
          | false =>
            clear hb
            go_enter Try.func31, Try.ntmps31
            go_wp2_with fail
            refine (C1.out _).mono ?_
            rintro e w1 ⟨rfl, rfl⟩
            go_wp2_with fail
            refine (C2.out _).mono ?_
            rintro e w2 ⟨rfl, rfl⟩
            go_wp2_with fail
            refine (C3.out _).mono ?_
            rintro e w3 ⟨rfl, rfl⟩
            go_wp2_with fail
            refine (C4.out _).mono ?_
            rintro e w4 ⟨rfl, rfl⟩
            go_wp2_with fail
            refine (C5.out _).mono ?_
            rintro e w5 ⟨rfl, rfl⟩
            go_wp2_with fail
            refine bodyPost_ret (v := .tuple #[.agg #[.string ⟨#[]⟩, .bool false, .int .u64 0, .int .u32 0, .int .u16 0, .string ⟨#[]⟩, .int .i64 0], .int .i64 7]) (by simp [results, Try.results31, go_sem]) rfl ⟨?_, (Below.refl _ _).alloc (Nat.le_refl _) _⟩
            rw [decV_bad HO.out]
          | true =>
            simp at hb

set_option maxHeartbeats 2000000 in
set_option maxRecDepth 100000 in
theorem refDecode_mark (s : ByteArray) (n1 n2 n3 n4 n5 : Nat) (w : World)
    (C1 : Hid (∀ W, Calls Try.prog 54 #[.string s, .int .i64 0, .int .i64 1] W fun e w' => e = .returned (.tuple #[.int .u64 n1, .bool true]) ∧ W = w'))
    (C2 : Hid (∀ W, Calls Try.prog 54 #[.string s, .int .i64 1, .int .i64 8] W fun e w' => e = .returned (.tuple #[.int .u64 n2, .bool true]) ∧ W = w'))
    (C3 : Hid (∀ W, Calls Try.prog 54 #[.string s, .int .i64 9, .int .i64 4] W fun e w' => e = .returned (.tuple #[.int .u64 n3, .bool true]) ∧ W = w'))
    (C4 : Hid (∀ W, Calls Try.prog 54 #[.string s, .int .i64 13, .int .i64 2] W fun e w' => e = .returned (.tuple #[.int .u64 n4, .bool true]) ∧ W = w'))
    (C5 : Hid (∀ W, Calls Try.prog 54 #[.string s, .int .i64 15, .int .i64 1] W fun e w' => e = .returned (.tuple #[.int .u64 n5, .bool true]) ∧ W = w'))
    (hn : 1 < n1) (h1 : n1 < 18446744073709551616) (HO : Hid (decOk s.data.toList = false)) :
    Calls Try.prog 31 #[.string s] w fun e w' => e = .returned (decV s.data.toList) ∧ Below w.heap.size w w' := by
  go_enter Try.func31, Try.ntmps31
  go_wp2_with fail
  refine (C1.out _).mono ?_
  rintro e w1 ⟨rfl, rfl⟩
  go_wp2_with fail
  refine (C2.out _).mono ?_
  rintro e w2 ⟨rfl, rfl⟩
  go_wp2_with fail
  refine (C3.out _).mono ?_
  rintro e w3 ⟨rfl, rfl⟩
  go_wp2_with fail
  refine (C4.out _).mono ?_
  rintro e w4 ⟨rfl, rfl⟩
  go_wp2_with fail
  refine (C5.out _).mono ?_
  rintro e w5 ⟨rfl, rfl⟩
  go_wp2_with fail
  refine bodyPost_ret (v := .tuple #[.agg #[.string ⟨#[]⟩, .bool false, .int .u64 0, .int .u32 0, .int .u16 0, .string ⟨#[]⟩, .int .i64 0], .int .i64 7]) (by simp [results, Try.results31, go_sem]) rfl ⟨?_, (Below.refl _ _).alloc (Nat.le_refl _) _⟩
  rw [decV_bad HO.out]

end Go.Proofs.Ytahaikfijegknaa
