/- chapter 16: place, bit, set -/
import Derived.Test.YtienlhnbmobinaaRows
import Derived.Test.YtienlhnbmobinaaSpacePlain
import Derived.Test.YtienlhnbmobinaaPlains
import Derived.Test.YtienlhnbmobinaaBase
import Derived.Test.YtienlhnbmobinaaTextsP
import Derived.WalkKit
import Derived.WalkLawsBesides
import Derived.WalkSpells
import Derived.LoopTactic
import Derived.WalkMore
import Derived.LoopN
import Derived.Laws.BitsAllLaws
import Derived.Laws.IdiomStrings
import Derived.BigQuiet
import Derived.Deep.QuietTactic
import Derived.Deep.DeepCutAuto
import Derived.Deep.RegionHeld3
import Derived.Deep.DrawnRows
import Derived.Lib.Hide
import Derived.Outline
import Derived.Deep.DeepMust
import Derived.Handy
namespace Go.Proofs.Ytienlhnbmobinaa
open Go.RowKit
set_option linter.unusedVariables false
set_option linter.unusedSimpArgs false

theorem mapBytes : ∀ zs : List UInt8, strOfNums (zs.map fun b => (b.toNat : Int)) = ⟨zs.toArray⟩
  | [] => rfl
  | z :: zs => by
    apply bytes_ext
    rw [List.map_cons, strOfNums_cons, mapBytes zs]
    simp
theorem num_k {n : Nat} (h1 : 1 ≤ n) (h2 : n ≤ 1024) : ∃ d j : Nat, d = (n - 1) / 8 ∧ j = (n - 1) % 8 ∧ j < 8 ∧ d < 128 ∧ n = 8 * d + j + 1 := ⟨_, _, rfl, rfl, by omega, by omega, by omega⟩
theorem two_cast (j : Nat) : ((2 ^ j : Nat) : Int) = (2 : Int) ^ j := by simp
theorem and_bit (x : UInt8) (j : Nat) (hj : j < 8) : decide ((0 : Int) < bits .and .u8 (x.toNat : Int) ((2 : Int) ^ j)) = x.toNat.testBit j := by
  rw [← two_cast]; exact and_pos x j hj
theorem or_bit (x : UInt8) (j : Nat) (hj : j < 8) : bits .or .u8 (x.toNat : Int) ((2 : Int) ^ j) = ((mark8 x j).toNat : Int) := by rw [← two_cast]; exact or_mark x j hj
theorem xor_bit (x : UInt8) (j : Nat) (hj : j < 8) : bits .xor .u8 (x.toNat : Int) ((2 : Int) ^ j) = ((flip8 x j).toNat : Int) := by rw [← two_cast]; exact xor_flip x j hj
theorem shr_bit (x : UInt8) (j : Nat) : (bits .and .u8 ((x.toNat : Int) / (2 : Int) ^ j) 1 == 1) = x.toNat.testBit j := by
  rw [← two_cast, show ((x.toNat : Int) / ((2 ^ j : Nat) : Int)) = ((x.toNat / 2 ^ j : Nat) : Int) by rfl, show (1 : Int) = ((1 : Nat) : Int) by rfl,
    u8_and_nat _ _ (Nat.lt_of_le_of_lt (Nat.div_le_self _ _) (u8lt x)) (by omega), nat_mask1, Nat.testBit_eq_decide_div_mod_eq]
  rcases Nat.mod_two_eq_zero_or_one (x.toNat / 2 ^ j) with h | h <;> rw [h] <;> rfl
set_option maxHeartbeats 1000000 in
theorem place_any (n : Nat) (w : World) (h1 : 1 ≤ n) (h2 : n ≤ 1024) :
    Calls Try.prog 88 #[.int .u32 n] w fun e w' => e = .returned (.tuple #[.int .i64 (((n - 1) / 8 : Nat) : Int), .int .u8 ((2 : Int) ^ ((n - 1) % 8))]) ∧ w = w' := by
  have HE := Lib.hid (show ((n : Int) - 1) / 8 = (((n - 1) / 8 : Nat) : Int) by omega)
  have HJ := Lib.hid (two_mod ((n - 1) % 8) (by omega))
  go_enter Try.func88, Try.ntmps88
  go_wp2_with fail
  rw [HE.out, HJ.out, two_cast]
  go_ret2
  exact ⟨rfl, rfl⟩
theorem byte_at (l : List UInt8) (d : Nat) (h : d < (⟨l.toArray⟩ : ByteArray).size) : (((⟨l.toArray⟩ : ByteArray)[d]'h) : UInt8) = l.getD d 0 := by
  rw [List.getD_eq_getElem?_getD, List.getElem?_eq_getElem (show d < l.length from h)]
  rfl
set_option maxHeartbeats 1000000 in
set_option maxRecDepth 100000 in
theorem spaceBit_any (l : List UInt8) (n : Nat) (w : World) (hl : l.length = 128) (h1 : 1 ≤ n) (h2 : n ≤ 1024) :
    Calls Try.prog 89 #[.string ⟨l.toArray⟩, .int .u32 n] w fun e w' => e = .returned (.bool (bitB l (n - 1))) ∧ w = w' := by
  obtain ⟨d, j, hd, hj, hj8, hd8, hn⟩ := num_k h1 h2
  have HP := Lib.hid fun W => place_any n W h1 h2
  rw [← hd, ← hj] at HP
  have hls : (⟨l.toArray⟩ : ByteArray).size = 128 := hl
  have HB := Lib.hid (show bitB l (n - 1) = (l.getD d 0).toNat.testBit j by unfold bitB; rw [← hd, ← hj])
  have hdd : d < (⟨l.toArray⟩ : ByteArray).size := by omega
  have HX := Lib.hid (byte_at l d hdd)
  have HA := Lib.hid (and_bit (l.getD d 0) j hj8)
  clear hn hd hj h1 h2 hl
  go_enter Try.func89, Try.ntmps89
  go_wp2_with fail
  refine (HP.out _).mono ?_
  rintro e w1 ⟨rfl, rfl⟩
  go_wp2_with fail
  go_ret
  refine ⟨?_, rfl⟩
  rw [HB.out, ← HA.out, ← HX.out]
  rfl
set_option maxHeartbeats 1000000 in
set_option maxRecDepth 100000 in
theorem refBit_any (l : List UInt8) (n : Nat) (w : World) (hl : l.length = 128) (h1 : 1 ≤ n) (h2 : n ≤ 1024) :
    Calls Try.prog 94 #[.string ⟨l.toArray⟩, .int .u32 n] w fun e w' => e = .returned (.bool (bitB l (n - 1))) ∧ w = w' := by
  have hls : (⟨l.toArray⟩ : ByteArray).size = 128 := hl
  have HB := Lib.hid (show bitB l (n - 1) = (l.getD ((n - 1) / 8) 0).toNat.testBit ((n - 1) % 8) from rfl)
  have hdd : (n - 1) / 8 < (⟨l.toArray⟩ : ByteArray).size := by omega
  have HX := Lib.hid (byte_at l ((n - 1) / 8) hdd)
  have HA := Lib.hid (shr_bit (l.getD ((n - 1) / 8) 0) ((n - 1) % 8))
  clear hl
  have i1 : (0 : Int) ≤ ((n : Int) - 1) / 8 := by omega
  have i2 : ((n : Int) - 1) / 8 < 128 := by omega
  go_enter Try.func94, Try.ntmps94
  go_wp2_with fail
  go_ret
  refine ⟨?_, rfl⟩
  rw [HB.out, ← HA.out, ← HX.out]
  rfl
set_option maxHeartbeats 2000000 in
set_option maxRecDepth 100000 in
theorem refSet_any (l : List UInt8) (n : Nat) (t : Bool) (w : World) (hl : l.length = 128) (h1 : 1 ≤ n) (h2 : n ≤ 1024) :
    Calls Try.prog 92 #[.string ⟨l.toArray⟩, .int .u32 n, .bool t] w fun e w' => e = .returned (.string ⟨(setAt l (n - 1) t).toArray⟩) ∧ Below w.heap.size w w' := by
  obtain ⟨d, j, hd, hj, hj8, hd8, hn⟩ := num_k h1 h2
  have hls : (⟨l.toArray⟩ : ByteArray).size = 128 := hl
  have e1 : ((n : Int) - 1) / 8 = (d : Int) := by omega
  have e2 : ((n : Int) - 1) % 8 = (j : Int) := by omega
  have HT := Lib.hid (setAt_true l (n - 1) (by omega))
  have HF := Lib.hid (setAt_false l (n - 1) (by omega))
  rw [← hd, ← hj] at HT HF
  obtain ⟨x, hx⟩ : ∃ x, x = l.getD d 0 := ⟨_, rfl⟩
  rw [← hx] at HT HF
  have eJ : (2 : Int) ^ j % 256 = (2 : Int) ^ j := by rw [two_mod j hj8, two_cast]
  have eO := or_bit x j hj8
  have eS : (((mark8 x j).toNat : Int) - (2 : Int) ^ j) % 256 = ((bare8 x j).toNat : Int) := by
    obtain ⟨m1, m2⟩ := mark_sub x j hj8
    have := u8lt (bare8 x j)
    rw [← two_cast]
    omega
  have hl2 := Lib.hid (show (l.set d (mark8 x j)).length = 128 by simp [hl])
  have hl3 := Lib.hid (show (l.set d (bare8 x j)).length = 128 by simp [hl])
  have hss := Lib.hid (show (l.set d (mark8 x j)).set d (bare8 x j) = l.set d (bare8 x j) by rw [List.set_set])
  have hgg := Lib.hid (show (l.set d (mark8 x j))[d]'(by simp [hl]; omega) = mark8 x j by simp)
  go_enter Try.func92, Try.ntmps92
  go_wp2_with fail
  refine upon_row _ 9 70 5 _ Try.underlying9 Try.underlying70 Try.underlying5 (fun W cap hW hrow => ?_)
  have HW := Lib.hid hW
  have HROW : Hid (RowAt W w.heap.size l) := Lib.hid hrow
  obtain ⟨g, hg⟩ : ∃ g, g = w.heap.size := ⟨_, rfl⟩
  have hgle : w.heap.size ≤ g := by omega
  rw [← hg] at HROW ⊢
  rw [hls]
  clear hW hrow hg
  have hfz := HROW.out.frozen d (by omega)
  have hcx := HROW.out.cell d (by omega)
  have hgd : l[d]'(by omega) = x := by rw [hx]; simp [List.getD_eq_getElem?_getD, show d < l.length by omega]
  rw [hgd] at hcx
  have HS := Lib.hid (HROW.out.set d (mark8 x j) (by omega))
  have HS2 := Lib.hid (HS.out.set d (bare8 x j) (by rw [hl2.out]; omega))
  rw [hss.out] at HS2
  have hcap : d < 128 := hd8
  clear hgd hl hn hd hj h1 h2 hx hgg hss
  cases t
  · go_wp2_with fail
    refine upon_str HS2.out (by first | exact hl3.out | (rw [hl3.out]; omega)) 70 5 9 Try.underlying70 Try.underlying5 Try.underlying9 ?_
    rw [mapBytes]
    go_wp2_with fail
    go_ret
    exact ⟨by rw [HF.out]; rfl, (HW.out.setCell hgle _).setCell hgle _⟩
  · go_wp2_with fail
    refine upon_str HS.out (by first | exact hl2.out | (rw [hl2.out]; omega)) 70 5 9 Try.underlying70 Try.underlying5 Try.underlying9 ?_
    rw [mapBytes]
    go_wp2_with fail
    go_ret
    exact ⟨by rw [HT.out]; rfl, HW.out.setCell hgle _⟩

end Go.Proofs.Ytienlhnbmobinaa
