/- ref02: the document's sum, bit by bit -/
import Derived.Test.YtienlhnbmobinaaRows
import Derived.Test.YtienlhnbmobinaaBase
import Derived.Test.YtienlhnbmobinaaPlains
import Derived.Test.YtienlhnbmobinaaCrc
import Derived.Test.YtienlhnbmobinaaSum
import Derived.Deep.CutBlock
import Derived.WalkKit
import Derived.WalkLawsBesides
import Derived.WalkSpells
import Derived.LoopTactic
import Derived.WalkMore
import Derived.LoopN
import Derived.Laws.BitsAllLaws
import Derived.Laws.IdiomStrings
import Derived.BigQuiet
import Derived.Deep.QuietTactic
import Derived.Deep.DeepCutAuto
import Derived.Deep.RegionHeld3
import Derived.Deep.DrawnRows
import Derived.Lib.Hide
import Derived.Outline
import Derived.Deep.DeepMust
import Derived.Handy
namespace Go.Proofs.Ytienlhnbmobinaa
open Go.RowKit
set_option linter.unusedVariables false
set_option linter.unusedSimpArgs false

theorem crc_take (c : BitVec 32) (l : List UInt8) (k : Nat) (h : k < l.length) : crc c (l.take (k + 1)) = cbyte (crc c (l.take k)) l[k] := by
  rw [List.take_succ_eq_append_getElem h, crc_snoc]
/-- The document's step: an even state, an odd one. -/
theorem cstep_odd (c : BitVec 32) (h : c.toNat % 2 = 1) : bits .xor .u32 ((c.toNat : Int) / 2) 2197175160 = ((cstep c).toNat : Int) := by
  have hc := c.isLt
  rw [cstep_nat, if_pos h, show ((c.toNat : Int) / 2) = ((c.toNat / 2 : Nat) : Int) by omega, show (2197175160 : Int) = ((2197175160 : Nat) : Int) by rfl, bits_u32_xor _ _ (by omega) (by omega)]
theorem cstep_evn (c : BitVec 32) (h : ¬ c.toNat % 2 = 1) : ((c.toNat : Int) / 2) = ((cstep c).toNat : Int) := by
  rw [cstep_nat, if_neg h, Nat.xor_zero]; omega
theorem byte_xor (c : BitVec 32) (x : UInt8) : bits .xor .u32 (c.toNat : Int) (x.toNat : Int) = ((c ^^^ BitVec.ofNat 32 x.toNat).toNat : Int) := by
  have hx := x.toNat_lt
  rw [bits_u32_xor _ _ c.isLt (by simp at hx; omega), BitVec.toNat_xor, BitVec.toNat_ofNat, Nat.mod_eq_of_lt (by simp at hx; omega)]
theorem allones_xor (c : BitVec 32) : bits .xor .u32 (c.toNat : Int) 4294967295 = ((~~~ c).toNat : Int) := by
  rw [← not_int c, show IntKind.u32.max = (4294967295 : Int) by decide]
  have hc := c.isLt
  rw [show (4294967295 : Int) = ((4294967295 : Nat) : Int) by rfl, bits_u32_xor _ _ hc (by omega), bits_u32_xor _ _ (by omega) hc, Nat.xor_comm]
set_option maxHeartbeats 4000000 in
set_option maxRecDepth 100000 in
theorem refMore_any (c : BitVec 32) (s : ByteArray) (w : World) (hs : s.size ≤ maxLen) : Calls Try.prog 194 #[.int .u32 (c.toNat : Nat), .string s] w fun e w' => e = .returned (.int .u32 ((~~~ crc (~~~ c) s.data.toList).toNat : Nat)) ∧ w = w' := by
  unfold maxLen at hs
  have N0 := allones_xor c
  obtain ⟨c0, hc0⟩ : ∃ x, x = ~~~ c := ⟨_, rfl⟩
  rw [← hc0] at N0 ⊢
  obtain ⟨n, hn⟩ : ∃ n, n = s.size := ⟨_, rfl⟩
  have hnl : s.data.toList.length = n := by rw [hn]; simp
  rw [← hn] at hs
  have HN := Lib.hid hn
  have HNL := Lib.hid hnl
  have hn2 : s.size = n := hn.symm
  clear hc0 hnl hn
  go_enter Try.func194, Try.ntmps194
  go_wp2_with fail
  go_loop [0, 5] (fun s0 s5 => ∃ (k : Nat), s5 = .int .i64 k ∧ k ≤ n ∧ s0 = .int .u32 ((crc c0 (s.data.toList.take k)).toNat : Nat)) (fun v0 vi => n - (intOf vi).toNat)
  case atStart => exact ⟨0, rfl, by omega, rfl⟩
  case round =>
    obtain ⟨k, rfl, hk, rfl⟩ := hrel
    by_cases hlt : k < n
    · have hki : (k : Int) < (n : Int) := by omega
      have hk0 : (0 : Int) ≤ (k : Int) := by omega
      have hkl : k < s.data.toList.length := by rw [HNL.out]; exact hlt
      have HSN := Lib.hid (crc_take c0 s.data.toList k hkl)
      have hx : s.data.toList[k] = s[k]'(by rw [hn2]; exact hlt) := rfl
      rw [hx] at HSN
      generalize crc c0 (s.data.toList.take k) = c1 at *
      have hc1 := c1.isLt
      simp only [Nat.reducePow] at hc1
      obtain ⟨c2, hc2⟩ : ∃ x, x = c1 ^^^ BitVec.ofNat 32 (s[k]'(by rw [hn2]; exact hlt)).toNat := ⟨_, rfl⟩
      have BX : bits .xor .u32 (c1.toNat : Int) (((s[k]'(by rw [hn2]; exact hlt)).toNat : Int) % 4294967296) = (c2.toNat : Int) := by
        have := (s[k]'(by rw [hn2]; exact hlt)).toNat_lt
        simp only [Nat.reducePow] at this
        rw [hc2, ← byte_xor, show (((s[k]'(by rw [hn2]; exact hlt)).toNat : Int) % 4294967296) = ((s[k]'(by rw [hn2]; exact hlt)).toNat : Int) by omega]
      have HC2 : Hid (csteps 8 c2 = cbyte c1 (s[k]'(by rw [hn2]; exact hlt))) := by show _ = _; rw [hc2]; rfl
      clear hx hc2
      go_wp2_with fail
      go_loop [0, 6] (fun s0 s6 => ∃ (j : Nat), s6 = .int .i64 j ∧ j ≤ 8 ∧ s0 = .int .u32 ((csteps j c2).toNat : Nat)) (fun v0 v6 => 8 - (intOf v6).toNat)
      case atStart => exact ⟨0, rfl, by omega, rfl⟩
      case round =>
        obtain ⟨j, rfl, hj, rfl⟩ := hrel
        by_cases hj8 : j < 8
        · have hji : (j : Int) < 8 := by omega
          generalize hc : csteps j c2 = d at *
          have HC := Lib.hid hc
          have d1 := d.isLt
          simp only [Nat.reducePow] at d1
          clear hc
          by_cases hod : d.toNat % 2 = 1
          · have hoi : ((d.toNat : Int) % 2 == 1) = true := by simp; omega
            have SI := cstep_odd d hod
            go_wp2_with fail
            exact ⟨⟨j + 1, by go_num, by omega, by simp only [csteps, HC.out]⟩, by simp [intOf]; omega⟩
          · have hoi : ((d.toNat : Int) % 2 == 1) = false := by simp; omega
            have SI := cstep_evn d hod
            go_wp2_with fail
            exact ⟨⟨j + 1, by go_num, by omega, by simp only [csteps, HC.out]⟩, by simp [intOf]; omega⟩
        · obtain rfl : j = 8 := by omega
          rw [HC2.out]
          go_wp2_with fail
          exact ⟨⟨k + 1, by go_num, by omega, by rw [HSN.out]⟩, by simp [intOf]; omega⟩
    · obtain rfl : k = n := by omega
      have HT := Lib.hid (List.take_of_length_le (l := s.data.toList) (i := k) (by rw [HNL.out]; exact Nat.le_refl _))
      have N1 := allones_xor (crc c0 (s.data.toList.take k))
      go_wp2_with fail
      go_ret
      exact ⟨ret_int (by rw [HT.out]), rfl⟩
set_option maxHeartbeats 4000000 in
theorem refSumOf_any (s : ByteArray) (w : World) (hs : s.size ≤ maxLen) : Calls Try.prog 170 #[.string s] w fun e w' => e = .returned (.int .u32 ((crcOf s.data.toList).toNat : Nat)) ∧ w = w' := by
  have h : ∀ W, Calls Try.prog 194 #[.int .u32 (0 : Nat), .string s] W fun e w' => e = .returned (.int .u32 ((crcOf s.data.toList).toNat : Nat)) ∧ W = w' := fun W => refMore_any 0#32 s W hs
  have M := Lib.hid h
  generalize crcOf s.data.toList = c at *
  clear h
  go_enter Try.func170, Try.ntmps170
  go_wp2_with fail
  refine (M.out _).mono ?_
  rintro e w1 ⟨rfl, rfl⟩
  go_wp2_with fail
  go_ret
  exact ⟨rfl, rfl⟩

end Go.Proofs.Ytienlhnbmobinaa
