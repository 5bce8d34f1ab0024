/- ref02.Seal: a text with its sum -/
import Derived.Test.YtienlhnbmobinaaRows
import Derived.Test.YtienlhnbmobinaaBase
import Derived.Test.YtienlhnbmobinaaPlains
import Derived.Test.YtienlhnbmobinaaCrc
import Derived.Test.YtienlhnbmobinaaSum
import Derived.Test.YtienlhnbmobinaaRefSum
import Derived.Test.YtienlhnbmobinaaBytesApp
import Derived.Test.YtienlhnbmobinaaTextsMove
import Derived.Deep.CutBlock
import Derived.WalkKit
import Derived.WalkLawsBesides
import Derived.WalkSpells
import Derived.LoopTactic
import Derived.WalkMore
import Derived.LoopN
import Derived.Laws.BitsAllLaws
import Derived.Laws.IdiomStrings
import Derived.BigQuiet
import Derived.Deep.QuietTactic
import Derived.Deep.DeepCutAuto
import Derived.Deep.RegionHeld3
import Derived.Deep.DrawnRows
import Derived.Lib.Hide
import Derived.Outline
import Derived.Deep.DeepMust
import Derived.Handy
namespace Go.Proofs.Ytienlhnbmobinaa
open Go.RowKit
set_option linter.unusedVariables false
set_option linter.unusedSimpArgs false

theorem le4_get (c : BitVec 32) (k : Nat) (hk : k < 4) : (le4 c).take (k + 1) = (le4 c).take k ++ [UInt8.ofNat (c.toNat / 256 ^ k)] := by
  have h : k = 0 ∨ k = 1 ∨ k = 2 ∨ k = 3 := by omega
  rcases h with rfl | rfl | rfl | rfl <;> simp [le4]
theorem Try.infoU8 : (Try.prog.info? 5).map (fun i => (i.zero, i.size, i.bytes)) = some (some (.int .u8 0), 1, 1) := by kernel_rfl
set_option maxHeartbeats 4000000 in
set_option maxRecDepth 100000 in
theorem refSeal_any (l : List UInt8) (w : World) (hs : l.length ≤ 900000) : Calls Try.prog 103 #[.string ⟨l.toArray⟩] w fun e w' => e = .returned (.string ⟨(sealed l).toArray⟩) ∧ Below w.heap.size w w' := by
  have M := Lib.hid fun W => refSumOf_any ⟨l.toArray⟩ W (by show l.toArray.size ≤ _; unfold maxLen; simp; omega)
  have HS : Hid (sealed l = l ++ le4 (crcOf l)) := rfl
  have hsz : (⟨l.toArray⟩ : ByteArray).size = l.length := rfl
  obtain ⟨i0, hif, hz0, hz1, hz2⟩ := info_parts Try.infoU8
  have HI := Lib.hid hif
  have HI0 := Lib.hid hz0
  have HI1 := Lib.hid hz1
  have HI2 := Lib.hid hz2
  clear hif hz0 hz1 hz2
  have e1 : (crcOf (⟨l.toArray⟩ : ByteArray).data.toList) = crcOf l := rfl
  rw [e1] at M
  generalize crcOf l = c at *
  have hcl := c.isLt
  simp only [Nat.reducePow] at hcl
  clear e1
  go_enter Try.func103, Try.ntmps103
  go_wp2_with fail
  refine (M.out _).mono ?_
  rintro e w1 ⟨rfl, rfl⟩
  go_wp2_with fail
  refine upon_bytes_cap _ 9 70 5 _ Try.underlying9 Try.underlying70 Try.underlying5 (fun W cap hW hrow => ?_)
  have HW := Lib.hid hW
  have HR : Hid (BytesAt W w.heap.size cap (l ++ (le4 c).take 0)) := by
    show BytesAt _ _ _ (l ++ [])
    rw [List.append_nil]; exact hrow
  obtain ⟨n, hn⟩ : ∃ n, n = l.length := ⟨_, rfl⟩
  rw [hsz, ← hn]
  have HN := Lib.hid hn
  have hn9 : n ≤ 900000 := by omega
  clear hW hrow hn hsz hs M
  go_wp2_with fail
  go_loopw [3, 4, 5] (fun s3 s4 s5 wr => ∃ (k g cp : Nat), s5 = .int .i64 k ∧ k ≤ 4 ∧ s3 = .int .u32 (c.toNat / 256 ^ k : Nat) ∧ s4 = .slice (some ⟨g, 0, none⟩) (n + k) cp ∧ Hid (BytesAt wr g cp (l ++ (le4 c).take k)) ∧ Hid (w.heap.size ≤ g) ∧ Hid (Below w.heap.size w wr)) (fun v3 v4 vi _ => 4 - (intOf vi).toNat)
  case atStart => exact ⟨0, _, _, rfl, by omega, by simp, rfl, HR, Lib.hid (Nat.le_refl _), HW⟩
  case round =>
    obtain ⟨k, g, cp, rfl, hk, rfl, rfl, HB, HG, HBW⟩ := hrel
    by_cases hk4 : k < 4
    · have hki : (k : Int) < 4 := by omega
      have LG := Lib.hid (le4_get c k hk4)
      have hd : c.toNat / 256 ^ k ≤ c.toNat := Nat.div_le_self _ _
      have hd2 : c.toNat / 256 ^ (k + 1) = c.toNat / 256 ^ k / 256 := by rw [Nat.pow_succ, Nat.div_div_eq_div_mul]
      have HD2 := Lib.hid hd2
      generalize c.toNat / 256 ^ k = d at *
      have hd9 : d < 4294967296 := by omega
      clear hd2
      have HBA := Lib.hid (HB.out.below (alloc_below wr (.cells #[.int .u8 ((d : Int) % 256)] 5)))
      have HC : Hid ((wr.alloc (.cells #[.int .u8 ((d : Int) % 256)] 5)).cell? ⟨wr.heap.size, 0, none⟩ = some (.int .u8 ((UInt8.ofNat d).toNat : Int))) := by
        show _ = _
        rw [blk_cell (heap_alloc_new wr _)]
        exact congrArg some (u8_val d)
      have HNL : Hid (n + k = (l ++ (le4 c).take k).length) := by
        show _ = _
        rw [List.length_append, ← HN.out, List.length_take, show (le4 c).length = 4 from rfl]; omega
      go_wp2_with (at_builtin; refine wpList_append_byte rfl _ _ 70 rfl 5 i0 Try.underlying70 HI.out HI0.out HI1.out HI2.out (n + k) HNL.out HBA.out (UInt8.ofNat d) wr.heap.size 1 HC.out (by rw [← HNL.out]; omega) (by rfl) (by rfl) ?_; intro g' cp' w' hX hG hg; have HX := Lib.hid hX; have HGG := Lib.hid hG; have Hg := Lib.hid hg; clear hX hG hg)
      refine ⟨⟨k + 1, g', cp', by go_num, by omega, by rw [HD2.out]; go_num, rfl, ?_, ?_, ?_⟩, by simp [intOf]; omega⟩
      · rw [LG.out, ← List.append_assoc]; exact HX
      · exact Lib.hid (by rcases Hg.out with h | h
                          · rw [h]; exact HG.out
                          · have := HBW.out.size; simp at h; omega)
      · exact Lib.hid ((HBW.out.alloc HBW.out.size _).grown HGG.out (by have := HBW.out.size; simp; omega) (fun j hj => by injection hj with e; have := HG.out; omega))
    · obtain rfl : k = 4 := by omega
      have HR2 := HB.out.row
      have hT : (le4 c).take 4 = le4 c := rfl
      rw [hT] at HR2
      have hln : (l ++ le4 c).length = n + 4 := by rw [List.length_append, ← HN.out]; rfl
      go_wp2_with fail
      refine upon_str HR2 hln 70 5 9 Try.underlying70 Try.underlying5 Try.underlying9 ?_
      rw [sumBytes]
      go_wp2_with fail
      go_ret
      exact ⟨by rw [HS.out]; rfl, HBW.out⟩

end Go.Proofs.Ytienlhnbmobinaa
