/- Kept of our texts for this claim: WordWalks -/
import Derived.Test.YtienlhnbmobinaaGreatRows
import Derived.Test.YtienlhnbmobinaaGreatAdAb
import Derived.Test.YtienlhnbmobinaaGreatAdAa
import Derived.Test.YtienlhnbmobinaaGreatAdAc
import Derived.WalkKit
import Derived.WalkLawsBesides
import Derived.WalkSpells
import Derived.LoopTactic
import Derived.WalkMore
import Derived.LoopN
import Derived.BigQuiet
import Derived.Deep.QuietTactic
import Derived.Deep.DeepCutAuto
import Derived.Lib.Hide
import Derived.Outline
import Derived.Handy
import Derived.Laws.BitsAllLaws
import Derived.Laws.IdiomStrings
import Derived.Deep.RegionHeld3
import Derived.Deep.DrawnRows
section
/- The contracts of package word, and of the document's answer for it: numbers in bytes, pieces of a text.; The contracts of word.Get and of the document's answer for it: the number that bytes are. -/
namespace Go.Proofs.YtienlhnbmobinaaGreat
open Go.RowKit
set_option linter.unusedVariables false
set_option linter.unusedSimpArgs false
set_option maxHeartbeats 1000000 in
set_option maxRecDepth 100000 in
theorem put_1 (n : Nat) (w : World) (hn : n < 256 ^ 1) :
    Calls Tryz.prog 57 #[.int .u64 n, .int .i64 1] w fun e w' => e = .returned (.tuple #[.string ⟨(be 1 n).toArray⟩, .bool true]) ∧ Below w.heap.size w w' := by
  simp only [Nat.reducePow] at hn
  have hx : ((n : Int) / 256 != 0) = false := by simp; omega
  go_enter Tryz.func57, Tryz.ntmps57
  go_wp2_with fail
  go_rounds 9
  rw [conv_block _ 88 5 9 Tryz.underlying88 Tryz.underlying5 Tryz.underlying9 _ _ 7 1 1 (by
    intro i hi
    simp only [List.drop_succ_cons, List.drop_zero, List.take_succ_cons, List.take_zero, List.map_cons, List.map_nil, intOf]
    rcases i with _ | _ | _ | _ | _ | _ | _ | _ | i
    all_goals first | rfl | omega) (by simp)]
  simp only [Result.andThen]
  rw [Oper.upon_value]
  go_wp2
  go_ret2
  refine ⟨ret_str2 (str_same ?_), (Below.refl _ _).alloc (Nat.le_refl _) _⟩
  simp only [be, List.nil_append, List.cons_append, List.drop_succ_cons, List.drop_zero, List.take_succ_cons, List.take_zero, List.map_cons, List.map_nil, intOf]

  repeat (first | rfl | refine cons_same (u8_same (by first | omega | (simp only [IntKind.wrap_u8]; omega))) ?_)
set_option maxHeartbeats 1000000 in
set_option maxRecDepth 100000 in
theorem put_2 (n : Nat) (w : World) (hn : n < 256 ^ 2) :
    Calls Tryz.prog 57 #[.int .u64 n, .int .i64 2] w fun e w' => e = .returned (.tuple #[.string ⟨(be 2 n).toArray⟩, .bool true]) ∧ Below w.heap.size w w' := by
  simp only [Nat.reducePow] at hn
  have hx : ((n : Int) / 65536 != 0) = false := by simp; omega
  go_enter Tryz.func57, Tryz.ntmps57
  go_wp2_with fail
  go_rounds 9
  rw [conv_block _ 88 5 9 Tryz.underlying88 Tryz.underlying5 Tryz.underlying9 _ _ 6 2 2 (by
    intro i hi
    simp only [List.drop_succ_cons, List.drop_zero, List.take_succ_cons, List.take_zero, List.map_cons, List.map_nil, intOf]
    rcases i with _ | _ | _ | _ | _ | _ | _ | _ | i
    all_goals first | rfl | omega) (by simp)]
  simp only [Result.andThen]
  rw [Oper.upon_value]
  go_wp2
  go_ret2
  refine ⟨ret_str2 (str_same ?_), (Below.refl _ _).alloc (Nat.le_refl _) _⟩
  simp only [be, List.nil_append, List.cons_append, List.drop_succ_cons, List.drop_zero, List.take_succ_cons, List.take_zero, List.map_cons, List.map_nil, intOf]

  repeat (first | rfl | refine cons_same (u8_same (by first | omega | (simp only [IntKind.wrap_u8]; omega))) ?_)
set_option maxHeartbeats 1000000 in
set_option maxRecDepth 100000 in
theorem put_4 (n : Nat) (w : World) (hn : n < 256 ^ 4) :
    Calls Tryz.prog 57 #[.int .u64 n, .int .i64 4] w fun e w' => e = .returned (.tuple #[.string ⟨(be 4 n).toArray⟩, .bool true]) ∧ Below w.heap.size w w' := by
  simp only [Nat.reducePow] at hn
  have hx : ((n : Int) / 4294967296 != 0) = false := by simp; omega
  go_enter Tryz.func57, Tryz.ntmps57
  go_wp2_with fail
  go_rounds 9
  rw [conv_block _ 88 5 9 Tryz.underlying88 Tryz.underlying5 Tryz.underlying9 _ _ 4 4 4 (by
    intro i hi
    simp only [List.drop_succ_cons, List.drop_zero, List.take_succ_cons, List.take_zero, List.map_cons, List.map_nil, intOf]
    rcases i with _ | _ | _ | _ | _ | _ | _ | _ | i
    all_goals first | rfl | omega) (by simp)]
  simp only [Result.andThen]
  rw [Oper.upon_value]
  go_wp2
  go_ret2
  refine ⟨ret_str2 (str_same ?_), (Below.refl _ _).alloc (Nat.le_refl _) _⟩
  simp only [be, List.nil_append, List.cons_append, List.drop_succ_cons, List.drop_zero, List.take_succ_cons, List.take_zero, List.map_cons, List.map_nil, intOf]

  repeat (first | rfl | refine cons_same (u8_same (by first | omega | (simp only [IntKind.wrap_u8]; omega))) ?_)
set_option maxHeartbeats 1000000 in
set_option maxRecDepth 100000 in
theorem put_8 (n : Nat) (w : World) (hn : n < 256 ^ 8) :
    Calls Tryz.prog 57 #[.int .u64 n, .int .i64 8] w fun e w' => e = .returned (.tuple #[.string ⟨(be 8 n).toArray⟩, .bool true]) ∧ Below w.heap.size w w' := by
  simp only [Nat.reducePow] at hn
  go_enter Tryz.func57, Tryz.ntmps57
  go_wp2_with fail
  go_rounds 9
  rw [conv_block _ 88 5 9 Tryz.underlying88 Tryz.underlying5 Tryz.underlying9 _ _ 0 8 8 (by
    intro i hi
    simp only [List.drop_succ_cons, List.drop_zero, List.take_succ_cons, List.take_zero, List.map_cons, List.map_nil, intOf]
    rcases i with _ | _ | _ | _ | _ | _ | _ | _ | i
    all_goals first | rfl | omega) (by simp)]
  simp only [Result.andThen]
  rw [Oper.upon_value]
  go_wp2
  go_ret2
  refine ⟨ret_str2 (str_same ?_), (Below.refl _ _).alloc (Nat.le_refl _) _⟩
  simp only [be, List.nil_append, List.cons_append, List.drop_succ_cons, List.drop_zero, List.take_succ_cons, List.take_zero, List.map_cons, List.map_nil, intOf]

  repeat (first | rfl | refine cons_same (u8_same (by first | omega | (simp only [IntKind.wrap_u8]; omega))) ?_)
set_option maxHeartbeats 1000000 in
set_option maxRecDepth 100000 in
theorem refPut_1 (n : Nat) (w : World) (hn : n < 256 ^ 1) :
    Calls Tryz.prog 44 #[.int .u64 n, .int .i64 1] w fun e w' => e = .returned (.tuple #[.string ⟨(be 1 n).toArray⟩, .bool true]) ∧ Below w.heap.size w w' := by
  simp only [Nat.reducePow] at hn
  have hmk : ∀ w, (Instr.makeSlice 88 (.int .i64 1) (.int .i64 1)).run Tryz.prog w = .ok (.slice (some ⟨w.heap.size, 0, none⟩) 1 1) (w.alloc (.cells #[.int .u8 0] 5)) := fun _ => by kernel_rfl
  have hx : ((n : Int) / 256 != 0) = false := by simp; omega
  go_enter Tryz.func44, Tryz.ntmps44
  go_wp2_with fail
  go_rounds 2
  rw [conv_block _ 88 5 9 Tryz.underlying88 Tryz.underlying5 Tryz.underlying9 _ _ 0 1 1 (by
    intro i hi
    simp only [List.drop_zero, List.take_succ_cons, List.take_zero, List.map_cons, List.map_nil, intOf]
    rcases i with _ | _ | _ | _ | _ | _ | _ | _ | i
    all_goals first | rfl | omega) (by simp)]
  simp only [Result.andThen]
  rw [Oper.upon_value]
  go_wp2
  go_ret2
  refine ⟨ret_str2 (str_same ?_), (Below.refl _ _).alloc (Nat.le_refl _) _⟩
  simp only [be, List.nil_append, List.cons_append, List.drop_succ_cons, List.drop_zero, List.take_succ_cons, List.take_zero, List.map_cons, List.map_nil, intOf]
  repeat (first | rfl | refine cons_same (u8_same (by first | omega | (simp only [IntKind.wrap_u8]; omega))) ?_)
set_option maxHeartbeats 1000000 in
set_option maxRecDepth 100000 in
theorem refPut_2 (n : Nat) (w : World) (hn : n < 256 ^ 2) :
    Calls Tryz.prog 44 #[.int .u64 n, .int .i64 2] w fun e w' => e = .returned (.tuple #[.string ⟨(be 2 n).toArray⟩, .bool true]) ∧ Below w.heap.size w w' := by
  simp only [Nat.reducePow] at hn
  have hmk : ∀ w, (Instr.makeSlice 88 (.int .i64 2) (.int .i64 2)).run Tryz.prog w = .ok (.slice (some ⟨w.heap.size, 0, none⟩) 2 2) (w.alloc (.cells #[.int .u8 0, .int .u8 0] 5)) := fun _ => by kernel_rfl
  have hx : ((n : Int) / 256 / 256 != 0) = false := by simp; omega
  go_enter Tryz.func44, Tryz.ntmps44
  go_wp2_with fail
  go_rounds 3
  rw [conv_block _ 88 5 9 Tryz.underlying88 Tryz.underlying5 Tryz.underlying9 _ _ 0 2 2 (by
    intro i hi
    simp only [List.drop_zero, List.take_succ_cons, List.take_zero, List.map_cons, List.map_nil, intOf]
    rcases i with _ | _ | _ | _ | _ | _ | _ | _ | i
    all_goals first | rfl | omega) (by simp)]
  simp only [Result.andThen]
  rw [Oper.upon_value]
  go_wp2
  go_ret2
  refine ⟨ret_str2 (str_same ?_), (Below.refl _ _).alloc (Nat.le_refl _) _⟩
  simp only [be, List.nil_append, List.cons_append, List.drop_succ_cons, List.drop_zero, List.take_succ_cons, List.take_zero, List.map_cons, List.map_nil, intOf]
  repeat (first | rfl | refine cons_same (u8_same (by first | omega | (simp only [IntKind.wrap_u8]; omega))) ?_)
set_option maxHeartbeats 1000000 in
set_option maxRecDepth 100000 in
theorem refPut_4 (n : Nat) (w : World) (hn : n < 256 ^ 4) :
    Calls Tryz.prog 44 #[.int .u64 n, .int .i64 4] w fun e w' => e = .returned (.tuple #[.string ⟨(be 4 n).toArray⟩, .bool true]) ∧ Below w.heap.size w w' := by
  simp only [Nat.reducePow] at hn
  have hmk : ∀ w, (Instr.makeSlice 88 (.int .i64 4) (.int .i64 4)).run Tryz.prog w = .ok (.slice (some ⟨w.heap.size, 0, none⟩) 4 4) (w.alloc (.cells #[.int .u8 0, .int .u8 0, .int .u8 0, .int .u8 0] 5)) := fun _ => by kernel_rfl
  have hx : ((n : Int) / 256 / 256 / 256 / 256 != 0) = false := by simp; omega
  go_enter Tryz.func44, Tryz.ntmps44
  go_wp2_with fail
  go_rounds 5
  rw [conv_block _ 88 5 9 Tryz.underlying88 Tryz.underlying5 Tryz.underlying9 _ _ 0 4 4 (by
    intro i hi
    simp only [List.drop_zero, List.take_succ_cons, List.take_zero, List.map_cons, List.map_nil, intOf]
    rcases i with _ | _ | _ | _ | _ | _ | _ | _ | i
    all_goals first | rfl | omega) (by simp)]
  simp only [Result.andThen]
  rw [Oper.upon_value]
  go_wp2
  go_ret2
  refine ⟨ret_str2 (str_same ?_), (Below.refl _ _).alloc (Nat.le_refl _) _⟩
  simp only [be, List.nil_append, List.cons_append, List.drop_succ_cons, List.drop_zero, List.take_succ_cons, List.take_zero, List.map_cons, List.map_nil, intOf]
  repeat (first | rfl | refine cons_same (u8_same (by first | omega | (simp only [IntKind.wrap_u8]; omega))) ?_)
set_option maxHeartbeats 1000000 in
set_option maxRecDepth 100000 in
theorem refPut_8 (n : Nat) (w : World) (hn : n < 256 ^ 8) :
    Calls Tryz.prog 44 #[.int .u64 n, .int .i64 8] w fun e w' => e = .returned (.tuple #[.string ⟨(be 8 n).toArray⟩, .bool true]) ∧ Below w.heap.size w w' := by
  simp only [Nat.reducePow] at hn
  have hmk : ∀ w, (Instr.makeSlice 88 (.int .i64 8) (.int .i64 8)).run Tryz.prog w = .ok (.slice (some ⟨w.heap.size, 0, none⟩) 8 8) (w.alloc (.cells #[.int .u8 0, .int .u8 0, .int .u8 0, .int .u8 0, .int .u8 0, .int .u8 0, .int .u8 0, .int .u8 0] 5)) := fun _ => by kernel_rfl
  have hx : ((n : Int) / 256 / 256 / 256 / 256 / 256 / 256 / 256 / 256 != 0) = false := by simp; omega
  go_enter Tryz.func44, Tryz.ntmps44
  go_wp2_with fail
  go_rounds 9
  rw [conv_block _ 88 5 9 Tryz.underlying88 Tryz.underlying5 Tryz.underlying9 _ _ 0 8 8 (by
    intro i hi
    simp only [List.drop_zero, List.take_succ_cons, List.take_zero, List.map_cons, List.map_nil, intOf]
    rcases i with _ | _ | _ | _ | _ | _ | _ | _ | i
    all_goals first | rfl | omega) (by simp)]
  simp only [Result.andThen]
  rw [Oper.upon_value]
  go_wp2
  go_ret2
  refine ⟨ret_str2 (str_same ?_), (Below.refl _ _).alloc (Nat.le_refl _) _⟩
  simp only [be, List.nil_append, List.cons_append, List.drop_succ_cons, List.drop_zero, List.take_succ_cons, List.take_zero, List.map_cons, List.map_nil, intOf]
  repeat (first | rfl | refine cons_same (u8_same (by first | omega | (simp only [IntKind.wrap_u8]; omega))) ?_)
theorem cut_yes (s : ByteArray) (a n : Nat) (w : World) (hs : s.size ≤ maxLen) (h : a + n ≤ s.size) :
    Calls Tryz.prog 74 #[.string s, .int .i64 a, .int .i64 n] w fun e w' => e = .returned (.tuple #[.string (s.extract a (a + n)), .bool true]) ∧ w = w' := by
  unfold maxLen at hs
  go_enter Tryz.func74, Tryz.ntmps74
  go_wp2
  go_ret2
  exact ⟨rfl, rfl⟩
theorem cut_no (s : ByteArray) (a n : Int) (w : World) (hs : s.size ≤ maxLen) (h : a < 0 ∨ n < 0 ∨ (s.size : Int) < a + n) (ha : a ≤ 9223372036854775807) (hn : n ≤ 9223372036854775807) :
    Calls Tryz.prog 74 #[.string s, .int .i64 a, .int .i64 n] w fun e w' => e = .returned (.tuple #[.string ⟨#[]⟩, .bool false]) ∧ w = w' := by
  unfold maxLen at hs
  by_cases h1 : a < 0
  · go_enter Tryz.func74, Tryz.ntmps74
    go_wp2
    go_ret2
    exact ⟨rfl, rfl⟩
  · by_cases h2 : n < 0
    · go_enter Tryz.func74, Tryz.ntmps74
      go_wp2
      go_ret2
      exact ⟨rfl, rfl⟩
    · by_cases h3 : (s.size : Int) < a
      · go_enter Tryz.func74, Tryz.ntmps74
        go_wp2
        go_ret2
        exact ⟨rfl, rfl⟩
      · have h4 : (s.size : Int) - a < n := by omega
        clear h
        go_enter Tryz.func74, Tryz.ntmps74
        go_wp2
        go_ret2
        exact ⟨rfl, rfl⟩
theorem refCut_yes (s : ByteArray) (a n : Nat) (w : World) (hs : s.size ≤ maxLen) (h : a + n ≤ s.size) :
    Calls Tryz.prog 93 #[.string s, .int .i64 a, .int .i64 n] w fun e w' => e = .returned (.tuple #[.string (s.extract a (a + n)), .bool true]) ∧ w = w' := by
  unfold maxLen at hs
  go_enter Tryz.func93, Tryz.ntmps93
  go_wp2
  go_ret2
  exact ⟨rfl, rfl⟩
theorem refCut_no (s : ByteArray) (a n : Int) (w : World) (hs : s.size ≤ maxLen) (h : a < 0 ∨ n < 0 ∨ (s.size : Int) < a + n) (ha : a ≤ 9223372036854775807) (hn : n ≤ 9223372036854775807) :
    Calls Tryz.prog 93 #[.string s, .int .i64 a, .int .i64 n] w fun e w' => e = .returned (.tuple #[.string ⟨#[]⟩, .bool false]) ∧ w = w' := by
  unfold maxLen at hs
  by_cases h1 : a < 0
  · go_enter Tryz.func93, Tryz.ntmps93
    go_wp2
    go_ret2
    exact ⟨rfl, rfl⟩
  · by_cases h2 : n < 0
    · go_enter Tryz.func93, Tryz.ntmps93
      go_wp2
      go_ret2
      exact ⟨rfl, rfl⟩
    · by_cases h3 : (s.size : Int) < a
      · go_enter Tryz.func93, Tryz.ntmps93
        go_wp2
        go_ret2
        exact ⟨rfl, rfl⟩
      · have h4 : (s.size : Int) - a < n := by omega
        clear h
        go_enter Tryz.func93, Tryz.ntmps93
        go_wp2
        go_ret2
        exact ⟨rfl, rfl⟩
end Go.Proofs.YtienlhnbmobinaaGreat
namespace Go.Proofs.YtienlhnbmobinaaGreat
open Go.RowKit
set_option linter.unusedVariables false
set_option linter.unusedSimpArgs false
/-- '[]byte(s)': a new row that holds the bytes; nothing that was there is changed. -/
theorem upon_bytes {P : Program} {o : Oper} {a : Act} {K : Act → World → Prop} {Q : Exit → Act → World → Prop} (w : World) (src dst e : TypeId) (s : ByteArray)
    (hs : P.underlying src = some .string) (hd : P.underlying dst = some (.slice e)) (he : P.underlying e = some (.int .u8))
    (h : ∀ (W : World) (cap : Nat), Below w.heap.size w W → W.heap.size = w.heap.size + 1 → (∀ i (hi : i < s.size), W.cell? ⟨w.heap.size, i, none⟩ = some (.int .u8 (s[i].toNat : Int))) →
      K (a.put o.dst (.slice (some ⟨w.heap.size, 0, none⟩) s.size cap)) W) :
    o.upon P a K Q (((convert src dst (.string s)).run P w).andThen fun v w' => .ok (.value v) w') := by
  rw [run_bytes_of_string w src dst e s hs hd he]
  simp only [Result.andThen]
  rw [Oper.upon_value]
  refine h _ _ ((Below.refl _ _).drew.alloc (Nat.le_refl _) _) (by simp) (fun i hi => ?_)
  rw [show w.heap.size = w.drew.heap.size from rfl, World.cell?_alloc_mark, bytesRow_at s _ i hi]
  rfl
theorem extract_get (s : ByteArray) (a n i : Nat) (h : i < (s.extract a (a + n)).size) (h' : a + i < s.size) : (s.extract a (a + n))[i] = s[a + i] := by
  simp [ByteArray.getElem_extract]
theorem take_succ' (l : List UInt8) (k : Nat) (h : k < l.length) : l.take (k + 1) = l.take k ++ [l[k]] := by rw [List.take_succ_eq_append_getElem h]
theorem ret_num2 {k : IntKind} {a b : Int} {v : Value} (h : a = b) : Ending.returned (.tuple #[.int k a, v]) = .returned (.tuple #[.int k b, v]) := by rw [h]
theorem shift_or (x u : Nat) (hx : x < 256 ^ 7) (hu : u < 256) : bits .or .u64 ((x : Int) * 256) (IntKind.u64.wrap (u : Int)) = ((256 * x + u : Nat) : Int) := by
  rw [IntWalk.u64_in _ ⟨by omega, by omega⟩]
  have e : (x : Int) * 256 = ((256 * x : Nat) : Int) := by omega
  have hx' : 256 * x + u < 18446744073709551616 := by
    have : (256 : Nat) ^ 7 = 72057594037927936 := by decide
    omega
  rw [e, u64_or_nat _ _ (by omega) (by omega)]
  have h := Nat.two_pow_add_eq_or_of_lt (i := 8) (b := u) (by simpa using hu) x
  simp only [Nat.reducePow] at h
  rw [← h]
set_option maxHeartbeats 1000000 in
set_option maxRecDepth 100000 in
theorem get_yes (s : ByteArray) (a k : Nat) (w : World) (hs : s.size ≤ maxLen) (h : a + k ≤ s.size) (h1 : 1 ≤ k) (h8 : k ≤ 8) :
    Calls Tryz.prog 47 #[.string s, .int .i64 a, .int .i64 k] w fun e w' => e = .returned (.tuple #[.int .u64 (un ((s.data.toList.drop a).take k)), .bool true]) ∧ Below w.heap.size w w' := by
  have C := Lib.hid fun W => cut_yes s a k W hs h
  have b1 : decide ((k : Int) < 1) = false := by simp; omega
  have b8 : decide ((8 : Int) < k) = false := by simp; omega
  unfold maxLen at hs
  go_enter Tryz.func47, Tryz.ntmps47
  go_wp2_with fail
  refine (C.out _).mono ?_
  rintro e w1 ⟨rfl, rfl⟩
  go_wp2_with fail
  refine upon_bytes _ 9 88 5 _ Tryz.underlying9 Tryz.underlying88 Tryz.underlying5 (fun W cap hb hW hc => ?_)
  go_wp2_with fail
  have hc' : ∀ j, j < k → ∃ u : UInt8, W.cell? ⟨w.heap.size, j, none⟩ = some (.int .u8 (u.toNat : Int)) ∧ ((s.data.toList.drop a).take (j + 1)) = ((s.data.toList.drop a).take j) ++ [u] := by
    intro j hj
    have hx := hc j (by simp; omega)
    have hl : j < (s.data.toList.drop a).length := by simp; omega
    refine ⟨_, hx, ?_⟩
    rw [take_succ' _ _ hl, extract_get s a k j _ (by omega)]
    simp
    rfl
  have Hc := Lib.hid hc'
  clear hc hc' hW
  go_loop [6, 31] (fun n i => ∃ j : Nat, j ≤ k ∧ i = .int .i64 j ∧ n = .int .u64 (un ((s.data.toList.drop a).take j))) (fun _ i => k - (intOf i).toNat)
  case atStart => exact ⟨0, Nat.zero_le _, rfl, rfl⟩
  case round =>
    obtain ⟨j, hj, rfl, rfl⟩ := hrel
    have hlt := un_lt j ((s.data.toList.drop a).take j) (by simp; omega)
    by_cases hjk : j < k
    · obtain ⟨u, hcell, ht⟩ := Hc.out j hjk
      have Ht := Lib.hid ht
      clear ht
      generalize hxe : un ((s.data.toList.drop a).take j) = x at *
      have hxx := Lib.hid hxe
      clear hxe
      have hx : x < 256 ^ 7 := Nat.lt_of_lt_of_le hlt (Nat.pow_le_pow_right (by omega) (by omega))
      clear hlt
      go_wp2
      go_round
      case rel =>
        refine ⟨j + 1, by omega, by go_num, ?_⟩
        rw [shift_or x u.toNat hx u.toNat_lt, Ht.out, un_snoc]
        rw [hxx.out]
      case measure => simp [intOf]; omega
    · obtain rfl : j = k := by omega
      generalize hxx : un ((s.data.toList.drop a).take j) = x at *
      have Hxx := Lib.hid hxx
      clear hxx hlt
      go_wp2
      go_ret2
      exact ⟨ret_num2 (by rw [Hxx.out]), hb⟩
set_option maxHeartbeats 1000000 in
set_option maxRecDepth 100000 in
theorem get_no (s : ByteArray) (a k : Int) (w : World) (hs : s.size ≤ maxLen) (h : a < 0 ∨ k < 0 ∨ (s.size : Int) < a + k) (ha : a ≤ 9223372036854775807) (hk : k ≤ 9223372036854775807) :
    Calls Tryz.prog 47 #[.string s, .int .i64 a, .int .i64 k] w fun e w' => e = .returned (.tuple #[.int .u64 0, .bool false]) ∧ w = w' := by
  have C := Lib.hid fun W => cut_no s a k W hs h ha hk
  clear h
  unfold maxLen at hs
  go_enter Tryz.func47, Tryz.ntmps47
  go_wp2_with fail
  refine (C.out _).mono ?_
  rintro e w1 ⟨rfl, rfl⟩
  go_wp2
  go_ret2
  exact ⟨rfl, rfl⟩
set_option maxHeartbeats 1000000 in
set_option maxRecDepth 100000 in
theorem refGet_no (s : ByteArray) (a k : Int) (w : World) (hs : s.size ≤ maxLen) (h : a < 0 ∨ k < 0 ∨ (s.size : Int) < a + k) (ha : a ≤ 9223372036854775807) (hk : k ≤ 9223372036854775807) :
    Calls Tryz.prog 81 #[.string s, .int .i64 a, .int .i64 k] w fun e w' => e = .returned (.tuple #[.int .u64 0, .bool false]) ∧ w = w' := by
  have C := Lib.hid fun W => refCut_no s a k W hs h ha hk
  clear h
  unfold maxLen at hs
  go_enter Tryz.func81, Tryz.ntmps81
  go_wp2_with fail
  refine (C.out _).mono ?_
  rintro e w1 ⟨rfl, rfl⟩
  go_wp2
  go_ret2
  exact ⟨rfl, rfl⟩
set_option maxHeartbeats 1000000 in
set_option maxRecDepth 100000 in
theorem refGet_yes (s : ByteArray) (a k : Nat) (w : World) (hs : s.size ≤ maxLen) (h : a + k ≤ s.size) (h1 : 1 ≤ k) (h8 : k ≤ 8) :
    Calls Tryz.prog 81 #[.string s, .int .i64 a, .int .i64 k] w fun e w' => e = .returned (.tuple #[.int .u64 (un ((s.data.toList.drop a).take k)), .bool true]) ∧ w = w' := by
  have C := Lib.hid fun W => refCut_yes s a k W hs h
  have b1 : decide ((k : Int) < 1) = false := by simp; omega
  have b8 : decide ((8 : Int) < k) = false := by simp; omega
  unfold maxLen at hs
  have hc' : ∀ j, j < k → ∀ hj : j < (s.extract a (a + k)).size, ((s.data.toList.drop a).take (j + 1)) = ((s.data.toList.drop a).take j) ++ [(s.extract a (a + k))[j]] := by
    intro j hj hjj
    have hl : j < (s.data.toList.drop a).length := by simp; omega
    rw [take_succ' _ _ hl, extract_get s a k j _ (by omega)]
    simp
    rfl
  have Hc := Lib.hid hc'
  clear hc'
  have hsz : (s.extract a (a + k)).size = k := by simp; omega
  go_enter Tryz.func81, Tryz.ntmps81
  go_wp2_with fail
  refine (C.out _).mono ?_
  rintro e w1 ⟨rfl, rfl⟩
  go_wp2_with fail
  go_loop [10, 11] (fun n i => ∃ j : Nat, j ≤ k ∧ i = .int .i64 j ∧ n = .int .u64 (un ((s.data.toList.drop a).take j))) (fun _ i => k - (intOf i).toNat)
  case atStart => exact ⟨0, Nat.zero_le _, rfl, rfl⟩
  case round =>
    obtain ⟨j, hj, rfl, rfl⟩ := hrel
    have hlt := un_lt j ((s.data.toList.drop a).take j) (by simp; omega)
    by_cases hjk : j < k
    · have hjs : j < (s.extract a (a + k)).size := by omega
      have Ht := Lib.hid (Hc.out j hjk hjs)
      generalize hxe : un ((s.data.toList.drop a).take j) = x at *
      have hxx := Lib.hid hxe
      clear hxe
      have hx : x < 256 ^ 7 := Nat.lt_of_lt_of_le hlt (Nat.pow_le_pow_right (by omega) (by omega))
      simp only [Nat.reducePow] at hx
      have hu := (s.extract a (a + k))[j].toNat_lt
      clear hlt
      go_wp2
      go_round
      case rel =>
        refine ⟨j + 1, by omega, by go_num, ?_⟩
        rw [Ht.out, un_snoc, hxx.out]
        go_num
      case measure => simp [intOf]; omega
    · obtain rfl : j = k := by omega
      generalize hxx : un ((s.data.toList.drop a).take j) = x at *
      have Hxx := Lib.hid hxx
      clear hxx hlt
      go_wp2
      go_ret2
      exact ⟨ret_num2 (by rw [Hxx.out]), rfl⟩
end Go.Proofs.YtienlhnbmobinaaGreat
end
