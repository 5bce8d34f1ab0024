/- RowReads: the walk -/
import Derived.Test.YtahaikfijegknaaRows
import Derived.Test.YtahaikfijegknaaRefDecode
import Derived.Test.YtahaikfijegknaaRowEntriesWalk
import Derived.WalkKit
import Derived.WalkLawsBesides
import Derived.WalkSpells
import Derived.LoopTactic
import Derived.WalkMore
import Derived.LoopN
import Derived.Laws.BitsAllLaws
import Derived.Laws.IdiomStrings
import Derived.BigQuiet
import Derived.Deep.QuietTactic
import Derived.Deep.DeepCutAuto
import Derived.Deep.RegionHeld3
import Derived.Deep.DrawnRows
import Derived.Lib.Hide
import Derived.Outline
import Derived.Deep.DeepMust
import Derived.Handy
namespace Go.Proofs.Ytahaikfijegknaa
open Go.RowKit
set_option linter.unusedVariables false
set_option linter.unusedSimpArgs false

theorem decV_gen (l : List UInt8) : ∃ (k v : ByteArray) (m : Bool) (t p s : Nat) (d e : Int), decV l = .tuple #[.agg #[.string k, .bool m, .int .u64 t, .int .u32 p, .int .u16 s, .string v, .int .i64 d], .int .i64 e] ∧ IntKind.i64.wrap e = e := by
  unfold decV
  split
  · exact ⟨_, _, _, _, _, _, _, _, rfl, rfl⟩
  · exact ⟨_, _, _, 0, 0, 0, _, _, rfl, rfl⟩
theorem decEntV_gen (l : List UInt8) : ∃ (k : ByteArray) (c : Nat) (e : Int), decEntV l = .tuple #[.agg #[.string k, .int .u32 c], .int .i64 e] ∧ IntKind.i64.wrap e = e := by
  unfold decEntV
  split
  · exact ⟨_, _, _, rfl, rfl⟩
  · exact ⟨_, 0, _, rfl, rfl⟩

set_option maxHeartbeats 2000000 in
set_option maxRecDepth 100000 in
theorem rowReads_any (s : ByteArray) (w : World) : Calls Try.prog 6 #[.string s] w fun e w' => e = .returned (.bool true) ∧ Below w.heap.size w w' := by
  have L1 := Lib.hid fun W => alive07 W
  by_cases hs : s.size ≤ 1024
  · have D1 := Lib.hid fun W => rowDecode_any s W (by omega)
    have D2 := Lib.hid fun W => refDecode_any s W (by omega)
    have D3 := Lib.hid fun W => entDecode_any s W (by omega)
    have D4 := Lib.hid fun W => refEntDecode_any s W (by omega)
    obtain ⟨k, v, m, t, p, q, d, e, he, hw⟩ := decV_gen s.data.toList
    obtain ⟨k', c', e', he', hw'⟩ := decEntV_gen s.data.toList
    rw [he] at D1 D2
    rw [he'] at D3 D4
    have q1 : ∀ W, (binOp .eql 34 (.agg #[.string k, .bool m, .int .u64 t, .int .u32 p, .int .u16 q, .string v, .int .i64 d]) (.agg #[.string k, .bool m, .int .u64 t, .int .u32 p, .int .u16 q, .string v, .int .i64 d])).run Try.prog W = .ok (.bool true) W := by
      intro W
      rw [eqRow]
      simp
    have q2 : ∀ W, (binOp .eql 47 (.agg #[.string k', .int .u32 c']) (.agg #[.string k', .int .u32 c'])).run Try.prog W = .ok (.bool true) W := by
      intro W
      rw [eqEnt]
      simp
    clear he he'
    go_enter Try.func6, Try.ntmps6
    go_wp2_with fail
    refine (D1.out _).mono ?_
    rintro x w1 ⟨rfl, h1⟩
    go_wp2_with fail
    refine (D2.out _).mono ?_
    rintro x w2 ⟨rfl, h2⟩
    have a1 := (RowIn.new w1 k v m t p q d 34).below h2
    have hb := (h1.alloc h1.size (.cells #[.string k, .bool m, .int .u64 t, .int .u32 p, .int .u16 q, .string v, .int .i64 d] 34)).trans (h2.mono (by simp; exact Nat.le_succ_of_le h1.size))
    clear h1 h2
    go_wp2_with fail
    refine (D3.out _).mono ?_
    rintro x w3 ⟨rfl, h3⟩
    have a1 := (a1.below ((Below.refl _ _).alloc (Nat.le_refl _) (.cells #[.string k, .bool m, .int .u64 t, .int .u32 p, .int .u16 q, .string v, .int .i64 d] 34))).below h3
    have a2 := (RowIn.new w2 k v m t p q d 34).below h3
    have hb := (hb.alloc hb.size (.cells #[.string k, .bool m, .int .u64 t, .int .u32 p, .int .u16 q, .string v, .int .i64 d] 34)).trans (h3.mono (by simp; exact Nat.le_succ_of_le hb.size))
    clear h3
    go_wp2_with fail
    refine (D4.out _).mono ?_
    rintro x w4 ⟨rfl, h4⟩
    have a1 := (a1.below ((Below.refl _ _).alloc (Nat.le_refl _) (.cells #[.string k', .int .u32 c'] 47))).below h4
    have a2 := (a2.below ((Below.refl _ _).alloc (Nat.le_refl _) (.cells #[.string k', .int .u32 c'] 47))).below h4
    have a3 := (EntIn.new w3 k' c' 47).below h4
    have hb := (hb.alloc hb.size (.cells #[.string k', .int .u32 c'] 47)).trans (h4.mono (by simp; exact Nat.le_succ_of_le hb.size))
    clear h4
    obtain ⟨i0, i1, i2, i3, i4, i5, i6, i7⟩ := a1
    obtain ⟨j0, j1, j2, j3, j4, j5, j6, j7⟩ := a2
    obtain ⟨l0, l1, l2⟩ := a3
    generalize w1.heap.size = g1 at *
    generalize w2.heap.size = g2 at *
    generalize w3.heap.size = g3 at *
    go_wp2_with fail
    refine (L1.out _).mono ?_
    rintro x w5 ⟨rfl, h5⟩
    have hb := (hb.alloc hb.size (.cells #[.string k', .int .u32 c'] 47)).trans (h5.mono (by simp; exact Nat.le_succ_of_le hb.size))
    go_wp2_with fail
    go_ret
    exact ⟨rfl, hb⟩
  · go_enter Try.func6, Try.ntmps6
    go_wp2_with fail
    refine (L1.out _).mono ?_
    rintro e w1 ⟨rfl, h1⟩
    go_wp2_with fail
    go_ret
    exact ⟨rfl, h1⟩

end Go.Proofs.Ytahaikfijegknaa
