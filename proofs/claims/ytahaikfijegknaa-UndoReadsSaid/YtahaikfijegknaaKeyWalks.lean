/- The contracts of package key, of the document's answer for it, and of the law's two helpers: what each function returns; the world is as it was (or has new blocks alone). -/
import Derived.Test.YtahaikfijegknaaRows
import Derived.Test.YtahaikfijegknaaKeyPlain
import Derived.WalkKit
import Derived.WalkLawsBesides
import Derived.WalkSpells
import Derived.LoopTactic
import Derived.WalkMore
import Derived.Test.YtahaikfijegknaaShelf
import Derived.BigQuiet
import Derived.Deep.QuietTactic
import Derived.Lib.Hide
import Derived.Outline
import Derived.Deep.DeepCutAuto
namespace Go.Proofs.Ytahaikfijegknaa
open Go.RowKit
set_option linter.unusedVariables false

theorem ret_int {k : IntKind} {a b : Int} (h : a = b) : Ending.returned (.int k a) = .returned (.int k b) := by rw [h]
theorem ret_bool {a b : Bool} (h : a = b) : Ending.returned (.bool a) = .returned (.bool b) := by rw [h]

theorem keyMay_any (s : ByteArray) (w : World) (hs : s.size ≤ maxLen) :
    Calls Try.prog 15 #[.string s] w fun e w' => e = .returned (.bool (decide (1 ≤ s.size ∧ s.size ≤ 48))) ∧ w = w' := by
  unfold maxLen at hs
  have H : (decide (1 ≤ s.size ∧ s.size ≤ 48)) = (decide (1 ≤ s.size) && decide ((s.size : Int) ≤ 48)) := by
    rw [Bool.eq_iff_iff]; simp; omega
  rw [H]; clear H
  by_cases h1 : 1 ≤ s.size
  · go_enter Try.func15, Try.ntmps15
    go_wp2
    go_ret
    exact ⟨ret_bool (by simp [h1]), rfl⟩
  · go_enter Try.func15, Try.ntmps15
    go_wp2
    go_ret
    exact ⟨ret_bool (by simp), rfl⟩

theorem keyValue_any (s : ByteArray) (w : World) (hs : s.size ≤ maxLen) :
    Calls Try.prog 16 #[.string s] w fun e w' => e = .returned (.bool (decide (s.size ≤ 96))) ∧ w = w' := by
  unfold maxLen at hs
  have H : (decide (s.size ≤ 96)) = (decide ((s.size : Int) ≤ 96)) := by
    rw [Bool.eq_iff_iff]; simp; omega
  rw [H]; clear H
  go_enter Try.func16, Try.ntmps16
  go_wp2
  go_ret
  exact ⟨rfl, rfl⟩

theorem keyCompare_any (a b : ByteArray) (w : World) :
    Calls Try.prog 17 #[.string a, .string b] w fun e w' => e = .returned (.int .i64 (Lib.compareBytes a.data.toList b.data.toList)) ∧ w = w' := by
  go_enter Try.func17, Try.ntmps17
  go_wp2_with (go_at_call 47; refine (Try.strings_Compare _ _ _).mono ?_; rintro e w' ⟨rfl, rfl⟩)
  go_ret
  exact ⟨rfl, rfl⟩

theorem q0 (w : World) : ∃ m, w = w.drewN m := ⟨0, rfl⟩
theorem qd {w w1 : World} (h : ∃ m, w1 = w.drewN m) (n : Nat) : ∃ m, w1.drewN n = w.drewN m := by
  obtain ⟨m, rfl⟩ := h
  exact ⟨m + n, World.drewN_drewN _ _ _⟩
theorem len_list (a : ByteArray) : a.data.toList.length = a.size := by simp
theorem get_list (a : ByteArray) (k : Nat) (h : k < a.size) (h' : k < a.data.toList.length) : a.data.toList[k] = a[k] := rfl
theorem u8_bne_false {x y : UInt8} (h : x = y) : ((x.toNat : Int) != (y.toNat : Int)) = false := by simp [h]
theorem u8_bne_true {x y : UInt8} (h : x ≠ y) : ((x.toNat : Int) != (y.toNat : Int)) = true := by
  have : x.toNat ≠ y.toNat := fun e => h (UInt8.toNat_inj.1 e)
  simp; omega

set_option maxHeartbeats 400000 in
theorem keyCommon_any (a b : ByteArray) (w : World) (ha : a.size ≤ maxLen) (hb : b.size ≤ maxLen) :
    Calls Try.prog 19 #[.string a, .string b] w fun e w' => e = .returned (.int .i64 (com a.data.toList b.data.toList)) ∧ ∃ m, w' = w.drewN m := by
  unfold maxLen at ha hb
  have la := len_list a
  have lb := len_list b
  have hl := com_le a.data.toList b.data.toList
  rw [la, lb] at hl
  clear la lb
  go_enter Try.func19, Try.ntmps19
  go_wp2
  go_step3
  go_wp2
  go_step3
  go_wp2
  go_loopw [5] (fun n wr => ∃ k : Nat, k ≤ com a.data.toList b.data.toList ∧ n = .int .i64 k ∧ ∃ m, wr = w.drewN m) (fun n _ => a.size - (intOf n).toNat)
  case atStart => exact ⟨0, Nat.zero_le _, rfl, 0, rfl⟩
  case round =>
    obtain ⟨k, hk, rfl, m, rfl⟩ := hrel
    by_cases h : k < a.size ∧ k < b.size
    · obtain ⟨h1, h2⟩ := h
      have h1' : k < a.data.toList.length := by simpa using h1
      have h2' : k < b.data.toList.length := by simpa using h2
      by_cases h3 : a[k] = b[k]
      · have hs := com_succ hk h1' h2' h3
        have hx := u8_bne_false h3
        clear h3
        go_wp2
        go_quiet (fail)
        go_wp2
        go_roundw
        case rel => exact ⟨k + 1, hs, by go_num, by repeat (first | (with_reducible exact q0 _) | (refine qd ?_ _))⟩
        case measure => simp [intOf]; omega
      · have hs := Lib.hid (com_here hk h1' h2' h3)
        have hx := u8_bne_true h3
        clear h3
        go_wp2
        go_quiet (fail)
        go_wp2
        rw [Exit.noGoto_ret]
        go_ret
        exact ⟨ret_int (by rw [hs.out]), by repeat (first | (with_reducible exact q0 _) | (refine qd ?_ _))⟩
    · go_wp2
      rw [Exit.noGoto_ret]
      go_ret
      exact ⟨ret_int (by omega), by repeat (first | (with_reducible exact q0 _) | (refine qd ?_ _))⟩

set_option maxHeartbeats 400000 in
theorem refCommon_any (a b : ByteArray) (w : World) (ha : a.size ≤ maxLen) (hb : b.size ≤ maxLen) :
    Calls Try.prog 20 #[.string a, .string b] w fun e w' => e = .returned (.int .i64 (com a.data.toList b.data.toList)) ∧ ∃ m, w' = w.drewN m := by
  unfold maxLen at ha hb
  have la := len_list a
  have lb := len_list b
  have hl := com_le a.data.toList b.data.toList
  rw [la, lb] at hl
  clear la lb
  go_enter Try.func20, Try.ntmps20
  go_wp2
  go_loopw [5] (fun n wr => ∃ k : Nat, k ≤ com a.data.toList b.data.toList ∧ n = .int .i64 k ∧ ∃ m, wr = w.drewN m) (fun n _ => a.size - (intOf n).toNat)
  case atStart => exact ⟨0, Nat.zero_le _, rfl, 0, rfl⟩
  case round =>
    obtain ⟨k, hk, rfl, m, rfl⟩ := hrel
    by_cases h1 : k < a.size
    · by_cases h2 : k < b.size
      · have h1' : k < a.data.toList.length := by simpa using h1
        have h2' : k < b.data.toList.length := by simpa using h2
        by_cases h3 : a[k] = b[k]
        · have hs := com_succ hk h1' h2' h3
          have hx : ((a[k].toNat : Int) == (b[k].toNat : Int)) = true := by simp [h3]
          clear h3
          go_wp2
          go_quiet (fail)
          go_wp2
          go_roundw
          case rel => exact ⟨k + 1, hs, by go_num, by repeat (first | (with_reducible exact q0 _) | (refine qd ?_ _))⟩
          case measure => simp [intOf]; omega
        · have hs := Lib.hid (com_here hk h1' h2' h3)
          have hx : ((a[k].toNat : Int) == (b[k].toNat : Int)) = false := by have := u8_bne_true h3; simpa [bne] using this
          clear h3
          go_wp2
          go_quiet (fail)
          go_wp2
          go_ret
          exact ⟨ret_int (by rw [hs.out]), by repeat (first | (with_reducible exact q0 _) | (refine qd ?_ _))⟩
      · go_wp2
        go_quiet (fail)
        go_wp2
        go_ret
        exact ⟨ret_int (by omega), by repeat (first | (with_reducible exact q0 _) | (refine qd ?_ _))⟩
    · go_wp2
      go_quiet (fail)
      go_wp2
      go_ret
      exact ⟨ret_int (by omega), by repeat (first | (with_reducible exact q0 _) | (refine qd ?_ _))⟩

set_option maxHeartbeats 400000 in
theorem refCompare_any (a b : ByteArray) (w : World) (ha : a.size ≤ maxLen) (hb : b.size ≤ maxLen) :
    Calls Try.prog 18 #[.string a, .string b] w fun e w' => e = .returned (.int .i64 (Lib.compareBytes a.data.toList b.data.toList)) ∧ ∃ m, w' = w.drewN m := by
  unfold maxLen at ha hb
  have la := len_list a
  have lb := len_list b
  go_enter Try.func18, Try.ntmps18
  go_wp2
  go_loopw [5] (fun n wr => ∃ k : Nat, k ≤ com a.data.toList b.data.toList ∧ n = .int .i64 k ∧ ∃ m, wr = w.drewN m) (fun n _ => a.size - (intOf n).toNat)
  case atStart => exact ⟨0, Nat.zero_le _, rfl, 0, rfl⟩
  case round =>
    obtain ⟨k, hk, rfl, m, rfl⟩ := hrel
    by_cases h : k < a.size ∧ k < b.size
    · obtain ⟨h1, h2⟩ := h
      have h1' : k < a.data.toList.length := by simpa using h1
      have h2' : k < b.data.toList.length := by simpa using h2
      clear la lb
      by_cases h3 : a[k] < b[k]
      · have hs := Lib.hid (cmp_less hk h1' h2' h3)
        have hx : (a[k].toNat : Int) < (b[k].toNat : Int) := by have := UInt8.lt_iff_toNat_lt.1 h3; omega
        clear h3
        go_wp2
        go_quiet (fail)
        go_wp2
        go_ret
        exact ⟨ret_int (by rw [hs.out]), by repeat (first | (with_reducible exact q0 _) | (refine qd ?_ _))⟩
      · have hx : ¬ (a[k].toNat : Int) < (b[k].toNat : Int) := by rw [UInt8.lt_iff_toNat_lt] at h3; omega
        by_cases h4 : b[k] < a[k]
        · have hs := Lib.hid (cmp_more hk h1' h2' h4)
          have hy : (b[k].toNat : Int) < (a[k].toNat : Int) := by have := UInt8.lt_iff_toNat_lt.1 h4; omega
          clear h3 h4
          go_wp2
          go_quiet (fail)
          go_wp2
          go_quiet (fail)
          go_wp2
          go_ret
          exact ⟨ret_int (by rw [hs.out]), by repeat (first | (with_reducible exact q0 _) | (refine qd ?_ _))⟩
        · have hs := com_succ hk h1' h2' (UInt8.le_antisymm (UInt8.not_lt.1 h4) (UInt8.not_lt.1 h3))
          have hy : ¬ (b[k].toNat : Int) < (a[k].toNat : Int) := by rw [UInt8.lt_iff_toNat_lt] at h4; omega
          clear h3 h4
          go_wp2
          go_quiet (fail)
          go_wp2
          go_quiet (fail)
          go_wp2
          go_roundw
          case rel => exact ⟨k + 1, hs, by go_num, by repeat (first | (with_reducible exact q0 _) | (refine qd ?_ _))⟩
          case measure => simp [intOf]; omega
    · have he := Lib.hid (cmp_end hk (by omega))
      rw [la, lb] at he
      clear la lb
      by_cases e1 : a.size < b.size
      · go_wp2
        all_goals go_ret
        all_goals exact ⟨ret_int (by rw [he.out, if_pos e1]), by repeat (first | (with_reducible exact q0 _) | (refine qd ?_ _))⟩
      · by_cases e2 : b.size < a.size
        · go_wp2
          all_goals go_ret
          all_goals exact ⟨ret_int (by rw [he.out, if_neg e1, if_pos e2]), by repeat (first | (with_reducible exact q0 _) | (refine qd ?_ _))⟩
        · go_wp2
          all_goals go_ret
          all_goals exact ⟨ret_int (by rw [he.out, if_neg e1, if_neg e2]), by repeat (first | (with_reducible exact q0 _) | (refine qd ?_ _))⟩
theorem keyIn_any (k a c : ByteArray) (w : World) :
    Calls Try.prog 21 #[.string k, .string a, .string c] w fun e w' => e = .returned (.bool (within k.data.toList a.data.toList c.data.toList)) ∧ w = w' := by
  have H := Lib.hid (within_key k.toList a.toList c.toList).symm
  go_enter Try.func21, Try.ntmps21
  go_wp2
  all_goals go_ret
  all_goals refine ⟨ret_bool ?_, rfl⟩
  all_goals rw [← Lib.toList_data, ← Lib.toList_data, ← Lib.toList_data, H.out]
  all_goals simp_all

theorem refIn_any (k a c : ByteArray) (w : World) (hk : k.size ≤ maxLen) (ha : a.size ≤ maxLen) (hc : c.size ≤ maxLen) :
    Calls Try.prog 22 #[.string k, .string a, .string c] w fun e w' => e = .returned (.bool (within k.data.toList a.data.toList c.data.toList)) ∧ ∃ m, w' = w.drewN m := by
  have c1 := fun W => refCompare_any k a W hk ha
  have c2 := fun W => refCompare_any k c W hk hc
  have H : Hid (within k.data.toList a.data.toList c.data.toList = (decide (Lib.compareBytes k.data.toList a.data.toList ≥ 0) && (c.toList.isEmpty || decide (Lib.compareBytes k.data.toList c.data.toList < 0)))) := by
    show _ = _
    rw [Lib.toList_data c]; rfl
  generalize hx : Lib.compareBytes k.data.toList a.data.toList = x at *
  generalize hy : Lib.compareBytes k.data.toList c.data.toList = y at *
  clear hx hy
  have C1 := Lib.hid c1
  have C2 := Lib.hid c2
  clear c1 c2
  by_cases h1 : 0 ≤ x
  · by_cases h2 : c.toList.isEmpty = true
    · go_enter Try.func22, Try.ntmps22
      go_wp2_with fail
      refine (C1.out _).mono ?_
      rintro e w1 ⟨rfl, m1, rfl⟩
      go_wp2_with fail
      go_ret
      exact ⟨ret_bool (by rw [H.out, h2]; simp [h1]), _, rfl⟩
    · have h2' : c.toList.isEmpty = false := by simpa using h2
      clear h2
      go_enter Try.func22, Try.ntmps22
      go_wp2_with fail
      refine (C1.out _).mono ?_
      rintro e w1 ⟨rfl, m1, rfl⟩
      go_wp2_with fail
      refine (C2.out _).mono ?_
      rintro e w2 ⟨rfl, m2, rfl⟩
      go_wp2_with fail
      go_ret
      exact ⟨ret_bool (by rw [H.out, h2']; simp [h1]), by repeat (first | (with_reducible exact q0 _) | (refine qd ?_ _))⟩
  · go_enter Try.func22, Try.ntmps22
    go_wp2_with fail
    refine (C1.out _).mono ?_
    rintro e w1 ⟨rfl, m1, rfl⟩
    go_wp2_with fail
    go_ret
    exact ⟨ret_bool (by rw [H.out, decide_eq_false (by omega), Bool.false_and]), _, rfl⟩

theorem keyBetween_any (a b : ByteArray) (w : World) (ha : a.size ≤ maxLen) (hb : b.size < maxLen) (hlt : Op.bytesLess a.toList b.toList = true) (hc : com a.data.toList b.data.toList < b.size) :
    Calls Try.prog 45 #[.string a, .string b] w fun e w' => e = .returned (.tuple #[.string (b.extract 0 (com a.data.toList b.data.toList + 1)), .bool true]) ∧ ∃ m, w' = w.drewN m := by
  have C1 := Lib.hid fun W => keyCommon_any a b W ha (Nat.le_of_lt hb)
  unfold maxLen at ha hb
  generalize hx : com a.data.toList b.data.toList = x at *
  clear hx
  go_enter Try.func45, Try.ntmps45
  go_wp2_with fail
  refine (C1.out _).mono ?_
  rintro e w1 ⟨rfl, m1, rfl⟩
  go_wp2
  go_ret2
  exact ⟨rfl, _, rfl⟩

theorem keyBetween_no (a b : ByteArray) (w : World) (hlt : Op.bytesLess a.toList b.toList = false) :
    Calls Try.prog 45 #[.string a, .string b] w fun e w' => e = .returned (.tuple #[.string ⟨#[]⟩, .bool false]) ∧ w = w' := by
  go_enter Try.func45, Try.ntmps45
  go_wp2
  go_ret2
  exact ⟨rfl, rfl⟩

theorem keyNext_short (a : ByteArray) (w : World) (ha : a.size < 48) :
    Calls Try.prog 46 #[.string a] w fun e w' => e = .returned (.tuple #[.string (a ++ ⟨#[0]⟩), .bool true]) ∧ w = w' := by
  go_enter Try.func46, Try.ntmps46
  go_wp2
  go_ret2
  exact ⟨rfl, rfl⟩

theorem keyLong_any (xs : List ByteArray) (g cap : Nat) (w : World) (hn : xs.length ≤ 100) (hc : ∀ i, i < xs.length → w.cell? ⟨g, i, none⟩ = some (.string (xs.getD i ByteArray.empty))) (hs : ∀ x ∈ xs, x.size ≤ maxLen) :
    Calls Try.prog 13 #[.slice (some ⟨g, 0, none⟩) xs.length cap] w fun e w' => e = .returned (.bool (xs.any fun s => decide (512 < s.size))) ∧ w = w' := by
  have Hc := Lib.hid hc
  clear hc
  unfold maxLen at hs
  have Hs := Lib.hid hs
  clear hs
  go_enter Try.func13, Try.ntmps13
  go_wp2
  go_loop [3] (fun i => ∃ k : Nat, k ≤ xs.length ∧ i = .int .i64 k ∧ (xs.take k).any (fun s => decide (512 < s.size)) = false) (fun i => xs.length - (intOf i).toNat)
  case atStart => exact ⟨0, Nat.zero_le _, rfl, by simp⟩
  case round =>
    obtain ⟨k, hk, rfl, hno⟩ := hrel
    have Hno := Lib.hid hno
    clear hno
    by_cases hlt : k < xs.length
    · have hcell := Hc.out k hlt
      have hsz : xs[k].size ≤ 2 ^ 63 - 1 := Hs.out _ (List.getElem_mem hlt)
      have hg : xs.getD k ByteArray.empty = xs[k] := by simp [List.getD, List.getElem?_eq_getElem hlt]
      rw [hg] at hcell
      clear hg
      have ht : (xs.take (k + 1)) = xs.take k ++ [xs[k]] := by rw [List.take_succ_eq_append_getElem hlt]
      have Ht := Lib.hid ht
      clear ht
      by_cases h5 : 512 < xs[k].size
      · have Hin : Hid ((xs.any fun s => decide (512 < s.size)) = true) := by
          show _ = true
          rw [List.any_eq_true]
          exact ⟨xs[k], List.getElem_mem hlt, by simpa using h5⟩
        go_wp2
        go_ret
        exact ⟨ret_bool (by rw [Hin.out]), rfl⟩
      · go_wp2
        go_round
        case rel => exact ⟨k + 1, by omega, by go_num, by rw [Ht.out, List.any_append, Hno.out]; simpa using h5⟩
        case measure => simp [intOf]; omega
    · have e : k = xs.length := by omega
      go_wp2
      go_ret
      exact ⟨ret_bool (by rw [← Hno.out, e, List.take_length]), rfl⟩
theorem alive03 (w : World) : Calls Try.prog 14 #[] w fun e w' => e = .returned (.bool true) ∧ ∃ m, w' = w.drewN m := by
  have B1 := Lib.hid fun W => keyBetween_any ⟨#[97, 98, 99]⟩ ⟨#[97, 98, 120, 121]⟩ W (by decide) (by decide) (by decide +kernel) (by decide +kernel)
  have B2 := Lib.hid fun W => keyBetween_any ⟨#[97, 98]⟩ ⟨#[97, 98, 99]⟩ W (by decide) (by decide) (by decide +kernel) (by decide +kernel)
  have e1 : ByteArray.extract ⟨#[97, 98, 120, 121]⟩ 0 (com [97, 98, 99] [97, 98, 120, 121] + 1) = ⟨#[97, 98, 120]⟩ := by decide +kernel
  have e2 : ByteArray.extract ⟨#[97, 98, 99]⟩ 0 (com [97, 98] [97, 98, 99] + 1) = ⟨#[97, 98, 99]⟩ := by decide +kernel
  have E1 := Lib.hid e1
  have E2 := Lib.hid e2
  have e3 : (ByteArray.mk #[97] ++ ByteArray.mk #[0]) = ByteArray.mk #[97, 0] := by decide +kernel
  have E3 := Lib.hid e3
  clear e1 e2 e3
  have c1 : Lib.compareBytes [97] [97, 98] = -1 := by decide
  have w1 : within [98] [97] [] = true := by decide
  have w2 : within [98] [97] [98] = false := by decide
  have C1 := Lib.hid c1
  have W1 := Lib.hid w1
  have W2 := Lib.hid w2
  clear c1 w1 w2
  go_enter Try.func14, Try.ntmps14
  go_wp2_with fail
  refine (B1.out _).mono ?_
  rintro e w1 ⟨rfl, m1, rfl⟩
  rw [E1.out]
  go_wp2_with fail
  refine (B2.out _).mono ?_
  rintro e w2 ⟨rfl, m2, rfl⟩
  rw [E2.out]
  go_wp2_with fail
  refine (keyBetween_no _ _ _ (by decide +kernel)).mono ?_
  rintro e w3 ⟨rfl, rfl⟩
  go_wp2_with fail
  refine (keyNext_short _ _ (by decide)).mono ?_
  rintro e w3 ⟨rfl, rfl⟩
  rw [E3.out]
  go_wp2_with fail
  refine (keyCompare_any _ _ _).mono ?_
  rintro e w3 ⟨rfl, rfl⟩
  rw [C1.out]
  go_wp2_with fail
  refine (keyIn_any _ _ _ _).mono ?_
  rintro e w3 ⟨rfl, rfl⟩
  rw [W1.out]
  go_wp2_with fail
  refine (keyIn_any _ _ _ _).mono ?_
  rintro e w3 ⟨rfl, rfl⟩
  rw [W2.out]
  go_wp2_with fail
  refine (keyMay_any _ _ (by decide)).mono ?_
  rintro e w3 ⟨rfl, rfl⟩
  go_wp2_with fail
  refine (keyMay_any _ _ (by decide)).mono ?_
  rintro e w3 ⟨rfl, rfl⟩
  go_wp2_with fail
  refine (keyValue_any _ _ (by decide)).mono ?_
  rintro e w3 ⟨rfl, rfl⟩
  go_wp2_with fail
  go_ret
  exact ⟨rfl, by repeat (first | (with_reducible exact q0 _) | (refine qd ?_ _))⟩

end Go.Proofs.Ytahaikfijegknaa
