/- UndoReads: the walks joined -/
import Derived.Test.YtahaikfijegknaaRows
import Derived.Test.YtahaikfijegknaaUndoReadsWalk
import Derived.Test.YtahaikfijegknaaUndoRefDecode
import Derived.WalkKit
import Derived.WalkLawsBesides
import Derived.WalkSpells
import Derived.LoopTactic
import Derived.WalkMore
import Derived.LoopN
import Derived.Laws.BitsAllLaws
import Derived.Laws.IdiomStrings
import Derived.BigQuiet
import Derived.Deep.QuietTactic
import Derived.Deep.DeepCutAuto
import Derived.Deep.RegionHeld3
import Derived.Deep.DrawnRows
import Derived.Lib.Hide
import Derived.Outline
import Derived.Deep.DeepMust
import Derived.Handy
namespace Go.Proofs.Ytahaikfijegknaa
open Go.RowKit
set_option linter.unusedVariables false
set_option linter.unusedSimpArgs false

set_option maxHeartbeats 2000000 in
set_option maxRecDepth 100000 in
theorem undoReads_heavy (z : ByteArray) (kd x pg sl : Nat) (y k v : ByteArray) (m : Bool) (t p s : Nat) (d : Int) (a b : Option Addr) (la ca lb cb : Nat) (w : World) (own : Bool) 
    (H : Hid (∀ W, Calls Try.prog 36 #[.agg #[.int .u8 kd, .int .u64 x, .int .u32 pg, .int .u16 sl, .string y, .string k, .bool m, .int .u64 t, .int .u32 p, .int .u16 s, .string v, .int .i64 d]] W fun e w' => e = .returned (.bool true) ∧ Below W.heap.size W w')) :
    Calls Try.prog 11 #[.string z, .agg #[.int .u8 kd, .int .u64 x, .int .u32 pg, .int .u16 sl, .string y, .string k, .bool m, .int .u64 t, .int .u32 p, .int .u16 s, .string v, .int .i64 d], .bool own, .slice a la ca, .slice b lb cb] w fun e w' => e = .returned (.bool true) ∧ Below w.heap.size w w' := by
  go_enter Try.func11, Try.ntmps11
  go_wp2_with fail
  refine (H.out _).mono ?_
  rintro e w1 ⟨rfl, hw1⟩
  have hb := ((Below.refl _ _).alloc (Nat.le_refl _) (.cells #[.int .u8 kd, .int .u64 x, .int .u32 pg, .int .u16 sl, .string y, .string k, .bool m, .int .u64 t, .int .u32 p, .int .u16 s, .string v, .int .i64 d] 58)).trans (hw1.mono (by simp))
  clear hw1 H
  go_wp2_with fail
  refine (works21 _).mono ?_
  rintro e w5 ⟨rfl, h5⟩
  have hb := hb.trans (h5.mono hb.size)
  go_wp2_with fail
  go_ret
  exact ⟨rfl, hb⟩

set_option maxHeartbeats 2000000 in
set_option maxRecDepth 100000 in
theorem undoReads_z (z : ByteArray) (kd x pg sl : Nat) (y k v : ByteArray) (m : Bool) (t p s : Nat) (d : Int) (a b : Option Addr) (la ca lb cb : Nat) (w : World) (own : Bool) (h : 1024 < (z.size : Int))
    (H : Hid (∀ W, Calls Try.prog 36 #[.agg #[.int .u8 kd, .int .u64 x, .int .u32 pg, .int .u16 sl, .string y, .string k, .bool m, .int .u64 t, .int .u32 p, .int .u16 s, .string v, .int .i64 d]] W fun e w' => e = .returned (.bool false) ∧ Below W.heap.size W w')) :
    Calls Try.prog 11 #[.string z, .agg #[.int .u8 kd, .int .u64 x, .int .u32 pg, .int .u16 sl, .string y, .string k, .bool m, .int .u64 t, .int .u32 p, .int .u16 s, .string v, .int .i64 d], .bool own, .slice a la ca, .slice b lb cb] w fun e w' => e = .returned (.bool true) ∧ Below w.heap.size w w' := by
  go_enter Try.func11, Try.ntmps11
  go_wp2_with fail
  refine (H.out _).mono ?_
  rintro e w1 ⟨rfl, hw1⟩
  have hb := ((Below.refl _ _).alloc (Nat.le_refl _) (.cells #[.int .u8 kd, .int .u64 x, .int .u32 pg, .int .u16 sl, .string y, .string k, .bool m, .int .u64 t, .int .u32 p, .int .u16 s, .string v, .int .i64 d] 58)).trans (hw1.mono (by simp))
  clear hw1 H
  go_wp2_with fail
  refine (works21 _).mono ?_
  rintro e w5 ⟨rfl, h5⟩
  have hb := hb.trans (h5.mono hb.size)
  go_wp2_with fail
  go_ret
  exact ⟨rfl, hb⟩

set_option maxHeartbeats 2000000 in
set_option maxRecDepth 100000 in
theorem undoReads_a (z : ByteArray) (kd x pg sl : Nat) (y k v : ByteArray) (m : Bool) (t p s : Nat) (d : Int) (a b : Option Addr) (la ca lb cb : Nat) (w : World) (own : Bool) (h0 : (z.size : Int) ≤ 1024) (h : 8 < (la : Int))
    (H : Hid (∀ W, Calls Try.prog 36 #[.agg #[.int .u8 kd, .int .u64 x, .int .u32 pg, .int .u16 sl, .string y, .string k, .bool m, .int .u64 t, .int .u32 p, .int .u16 s, .string v, .int .i64 d]] W fun e w' => e = .returned (.bool false) ∧ Below W.heap.size W w')) :
    Calls Try.prog 11 #[.string z, .agg #[.int .u8 kd, .int .u64 x, .int .u32 pg, .int .u16 sl, .string y, .string k, .bool m, .int .u64 t, .int .u32 p, .int .u16 s, .string v, .int .i64 d], .bool own, .slice a la ca, .slice b lb cb] w fun e w' => e = .returned (.bool true) ∧ Below w.heap.size w w' := by
  go_enter Try.func11, Try.ntmps11
  go_wp2_with fail
  refine (H.out _).mono ?_
  rintro e w1 ⟨rfl, hw1⟩
  have hb := ((Below.refl _ _).alloc (Nat.le_refl _) (.cells #[.int .u8 kd, .int .u64 x, .int .u32 pg, .int .u16 sl, .string y, .string k, .bool m, .int .u64 t, .int .u32 p, .int .u16 s, .string v, .int .i64 d] 58)).trans (hw1.mono (by simp))
  clear hw1 H
  go_wp2_with fail
  refine (works21 _).mono ?_
  rintro e w5 ⟨rfl, h5⟩
  have hb := hb.trans (h5.mono hb.size)
  go_wp2_with fail
  go_ret
  exact ⟨rfl, hb⟩

set_option maxHeartbeats 2000000 in
set_option maxRecDepth 100000 in
theorem undoReads_b (z : ByteArray) (kd x pg sl : Nat) (y k v : ByteArray) (m : Bool) (t p s : Nat) (d : Int) (a b : Option Addr) (la ca lb cb : Nat) (w : World) (own : Bool) (h0 : (z.size : Int) ≤ 1024) (h1 : (la : Int) ≤ 8) (h : 8 < (lb : Int))
    (H : Hid (∀ W, Calls Try.prog 36 #[.agg #[.int .u8 kd, .int .u64 x, .int .u32 pg, .int .u16 sl, .string y, .string k, .bool m, .int .u64 t, .int .u32 p, .int .u16 s, .string v, .int .i64 d]] W fun e w' => e = .returned (.bool false) ∧ Below W.heap.size W w')) :
    Calls Try.prog 11 #[.string z, .agg #[.int .u8 kd, .int .u64 x, .int .u32 pg, .int .u16 sl, .string y, .string k, .bool m, .int .u64 t, .int .u32 p, .int .u16 s, .string v, .int .i64 d], .bool own, .slice a la ca, .slice b lb cb] w fun e w' => e = .returned (.bool true) ∧ Below w.heap.size w w' := by
  go_enter Try.func11, Try.ntmps11
  go_wp2_with fail
  refine (H.out _).mono ?_
  rintro e w1 ⟨rfl, hw1⟩
  have hb := ((Below.refl _ _).alloc (Nat.le_refl _) (.cells #[.int .u8 kd, .int .u64 x, .int .u32 pg, .int .u16 sl, .string y, .string k, .bool m, .int .u64 t, .int .u32 p, .int .u16 s, .string v, .int .i64 d] 58)).trans (hw1.mono (by simp))
  clear hw1 H
  go_wp2_with fail
  refine (works21 _).mono ?_
  rintro e w5 ⟨rfl, h5⟩
  have hb := hb.trans (h5.mono hb.size)
  go_wp2_with fail
  go_ret
  exact ⟨rfl, hb⟩

set_option maxHeartbeats 2000000 in
set_option maxRecDepth 100000 in
theorem undoReads_else (z : ByteArray) (kd x pg sl : Nat) (y k v : ByteArray) (m : Bool) (t p s : Nat) (d : Int) (a b : Option Addr) (la ca lb cb : Nat) (w : World) (hl : (la : Int) ≤ 8) (hl2 : (lb : Int) ≤ 8) (hz : z.size ≤ 1024)
    (D : Hid (∀ Z : ByteArray, Z.size ≤ 1024 → ∃ (kd x pg sl : Nat) (y k v : ByteArray) (m : Bool) (t p s : Nat) (d e : Int), (∀ W, Calls Try.prog 43 #[.string Z] W fun r w' => r = .returned (.tuple #[.agg #[.int .u8 kd, .int .u64 x, .int .u32 pg, .int .u16 sl, .string y, .string k, .bool m, .int .u64 t, .int .u32 p, .int .u16 s, .string v, .int .i64 d], .int .i64 e]) ∧ Below W.heap.size W w') ∧ (∀ W, Calls Try.prog 44 #[.string Z] W fun r w' => r = .returned (.tuple #[.agg #[.int .u8 kd, .int .u64 x, .int .u32 pg, .int .u16 sl, .string y, .string k, .bool m, .int .u64 t, .int .u32 p, .int .u16 s, .string v, .int .i64 d], .int .i64 e]) ∧ Below W.heap.size W w')))
    (H : Hid (∀ W, Calls Try.prog 36 #[.agg #[.int .u8 kd, .int .u64 x, .int .u32 pg, .int .u16 sl, .string y, .string k, .bool m, .int .u64 t, .int .u32 p, .int .u16 s, .string v, .int .i64 d]] W fun e w' => e = .returned (.bool false) ∧ Below W.heap.size W w')) :
    Calls Try.prog 11 #[.string z, .agg #[.int .u8 kd, .int .u64 x, .int .u32 pg, .int .u16 sl, .string y, .string k, .bool m, .int .u64 t, .int .u32 p, .int .u16 s, .string v, .int .i64 d], .bool false, .slice a la ca, .slice b lb cb] w fun e w' => e = .returned (.bool true) ∧ Below w.heap.size w w' := by
  go_enter Try.func11, Try.ntmps11
  go_wp2_with fail
  refine (H.out _).mono ?_
  rintro e w1 ⟨rfl, h1⟩
  have hb := ((Below.refl _ _).alloc (Nat.le_refl _) (.cells #[.int .u8 kd, .int .u64 x, .int .u32 pg, .int .u16 sl, .string y, .string k, .bool m, .int .u64 t, .int .u32 p, .int .u16 s, .string v, .int .i64 d] 58)).trans (h1.mono (by simp))
  clear h1 H
  obtain ⟨kd2, x2, pg2, sl2, y2, k2, v2, m2, t2, p2, s2, d2, e2, F1, F2⟩ := D.out z hz
  have hq := eqUndo_self kd2 x2 pg2 sl2 y2 k2 v2 m2 t2 p2 s2 d2
  have G1 := Lib.hid F1
  have G2 := Lib.hid F2
  clear F1 F2
  go_wp2_with fail
  refine (G1.out _).mono ?_
  rintro e w3 ⟨rfl, h3⟩
  have hb := hb.trans (h3.mono hb.size)
  clear h3 G1
  go_wp2_with fail
  refine (G2.out _).mono ?_
  rintro e w4 ⟨rfl, h4⟩
  have x3 := (h4.block _ (by simp)).trans (heap_alloc_new w3 (.cells #[.int .u8 kd2, .int .u64 x2, .int .u32 pg2, .int .u16 sl2, .string y2, .string k2, .bool m2, .int .u64 t2, .int .u32 p2, .int .u16 s2, .string v2, .int .i64 d2] 58))
  have hb := (hb.alloc hb.size (.cells #[.int .u8 kd2, .int .u64 x2, .int .u32 pg2, .int .u16 sl2, .string y2, .string k2, .bool m2, .int .u64 t2, .int .u32 p2, .int .u16 s2, .string v2, .int .i64 d2] 58)).trans (h4.mono (by simp; exact Nat.le_succ_of_le hb.size))
  clear h4 G2
  generalize w3.heap.size = X3 at *
  have g0 := blk_lt x3
  have c0 := blk_cell x3 0
  have c1 := blk_cell x3 1
  have c2 := blk_cell x3 2
  have c3 := blk_cell x3 3
  have c4 := blk_cell x3 4
  have c5 := blk_cell x3 5
  have c6 := blk_cell x3 6
  have c7 := blk_cell x3 7
  have c8 := blk_cell x3 8
  have c9 := blk_cell x3 9
  have c10 := blk_cell x3 10
  have c11 := blk_cell x3 11
  have HX3 := Lib.hid x3
  clear x3
  go_wp2_with fail
  refine (works21 _).mono ?_
  rintro e w5 ⟨rfl, h5⟩
  have hb := (hb.alloc hb.size (.cells #[.int .u8 kd2, .int .u64 x2, .int .u32 pg2, .int .u16 sl2, .string y2, .string k2, .bool m2, .int .u64 t2, .int .u32 p2, .int .u16 s2, .string v2, .int .i64 d2] 58)).trans (h5.mono (by simp; exact Nat.le_succ_of_le hb.size))
  go_wp2_with fail
  go_ret
  exact ⟨rfl, hb⟩

theorem decUV_gen (l : List UInt8) : ∃ (kd x pg sl : Nat) (y k v : ByteArray) (m : Bool) (t p s : Nat) (d e : Int), decUV l = .tuple #[.agg #[.int .u8 kd, .int .u64 x, .int .u32 pg, .int .u16 sl, .string y, .string k, .bool m, .int .u64 t, .int .u32 p, .int .u16 s, .string v, .int .i64 d], .int .i64 e] := by
  unfold decUV
  split
  · exact ⟨_, _, _, _, _, _, _, _, _, _, _, _, _, rfl⟩
  · exact ⟨0, 0, 0, 0, _, _, _, _, 0, 0, 0, _, _, rfl⟩

theorem undoReads_any (z : ByteArray) (kd x pg sl : Nat) (y k v : ByteArray) (m : Bool) (t p s : Nat) (d : Int) (a b : Option Addr) (la ca lb cb : Nat) (w : World) (own : Bool) (za zb : List Int) (hy : y.size ≤ maxLen) (hk : k.size ≤ maxLen) (hv : v.size ≤ maxLen) (hx : x < 256 ^ 8) (hsl : sl < 256 ^ 2) (ht : t < 256 ^ 8) (hs : s < 256 ^ 2) (ra : IsRow .u8 w a la ca za) (rb : IsRow .u8 w b lb cb zb) :
    Calls Try.prog 11 #[.string z, .agg #[.int .u8 kd, .int .u64 x, .int .u32 pg, .int .u16 sl, .string y, .string k, .bool m, .int .u64 t, .int .u32 p, .int .u16 s, .string v, .int .i64 d], .bool own, .slice a la ca, .slice b lb cb] w fun e w' => e = .returned (.bool true) ∧ Below w.heap.size w w' := by
  cases hl1 : decide (1024 < wrap64 (wrap64 ((y.size : Int) + k.size) + v.size)) with
  | true => exact undoReads_heavy z kd x pg sl y k v m t p s d a b la ca lb cb w own (heavy_hid kd x pg sl y k v m t p s d hy hk hv _ hl1)
  | false =>
    have H := heavy_hid kd x pg sl y k v m t p s d hy hk hv _ hl1
    by_cases hz : 1024 < (z.size : Int)
    · exact undoReads_z z kd x pg sl y k v m t p s d a b la ca lb cb w own hz H
    · by_cases ha : 8 < (la : Int)
      · exact undoReads_a z kd x pg sl y k v m t p s d a b la ca lb cb w own (by omega) ha H
      · by_cases hb : 8 < (lb : Int)
        · exact undoReads_b z kd x pg sl y k v m t p s d a b la ca lb cb w own (by omega) (by omega) hb H
        · have D : Hid (∀ Z : ByteArray, Z.size ≤ 1024 → ∃ (kd x pg sl : Nat) (y k v : ByteArray) (m : Bool) (t p s : Nat) (d e : Int), (∀ W, Calls Try.prog 43 #[.string Z] W fun r w' => r = .returned (.tuple #[.agg #[.int .u8 kd, .int .u64 x, .int .u32 pg, .int .u16 sl, .string y, .string k, .bool m, .int .u64 t, .int .u32 p, .int .u16 s, .string v, .int .i64 d], .int .i64 e]) ∧ Below W.heap.size W w') ∧ (∀ W, Calls Try.prog 44 #[.string Z] W fun r w' => r = .returned (.tuple #[.agg #[.int .u8 kd, .int .u64 x, .int .u32 pg, .int .u16 sl, .string y, .string k, .bool m, .int .u64 t, .int .u32 p, .int .u16 s, .string v, .int .i64 d], .int .i64 e]) ∧ Below W.heap.size W w')) := by
            intro Z hZ
            have h1 := fun W => undoDecode_any Z W (by omega)
            have h2 := fun W => refUndoDecode_any Z W (by omega)
            obtain ⟨kd, x, pg, sl, y, k, v, m, t, p, s, d, e, he⟩ := decUV_gen Z.data.toList
            rw [he] at h1 h2
            exact ⟨_, _, _, _, _, _, _, _, _, _, _, _, _, h1, h2⟩
          cases own with
          | false => exact undoReads_else z kd x pg sl y k v m t p s d a b la ca lb cb w (by omega) (by omega) (by omega) D H
          | true =>
            cases hm : mayUndo kd x pg sl y k m t p s v d with
            | false => exact undoReads_own z ⟨#[]⟩ kd x pg sl y k v m t p s d a b la ca lb cb w (by omega) (by omega) (by decide) za zb ra rb (by omega) D H (Lib.hid fun W => refUndoEncode_no kd x pg sl y k v m t p s d W hy hk hv hm)
            | true =>
              have sX := encU_size kd x pg sl y k m t p s v d hm
              rcases (mayUndo_kind hm).2 with ⟨h1, _⟩ | ⟨h2, _, hr⟩
              · exact undoReads_own z _ kd x pg sl y k v m t p s d a b la ca lb cb w (by omega) (by omega) (Nat.le_trans sX (by decide)) za zb ra rb (by omega) D H (Lib.hid fun W => refUndoEncode_1 kd x pg sl y k v m t p s d W hy hk hv hx hsl ht hs h1 hm)
              · obtain ⟨dd, hdd⟩ := Int.eq_ofNat_of_zero_le (mayRow_iff.1 hr).2.2.1
                subst hdd
                exact undoReads_own z _ kd x pg sl y k v m t p s dd a b la ca lb cb w (by omega) (by omega) (Nat.le_trans sX (by decide)) za zb ra rb (by omega) D H (Lib.hid fun W => refUndoEncode_2 kd x pg sl y k v m t p s dd W hy hk hv hx hsl ht hs h2 hm)

end Go.Proofs.Ytahaikfijegknaa
