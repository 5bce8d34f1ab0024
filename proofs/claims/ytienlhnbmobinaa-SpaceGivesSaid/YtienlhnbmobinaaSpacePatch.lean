/- chapter 16: patch -/
import Derived.Test.YtienlhnbmobinaaRows
import Derived.Test.YtienlhnbmobinaaSpaceOp
import Derived.Test.YtienlhnbmobinaaRefOnly
import Derived.Test.YtienlhnbmobinaaOpRead
import Derived.Test.YtienlhnbmobinaaOpPart
import Derived.Test.YtienlhnbmobinaaSpaceFree
import Derived.Test.YtienlhnbmobinaaSpaceBit
import Derived.Test.YtienlhnbmobinaaSpacePlain
import Derived.Test.YtienlhnbmobinaaOpPlain
import Derived.Test.YtienlhnbmobinaaPlains
import Derived.Test.YtienlhnbmobinaaBase
import Derived.Test.YtienlhnbmobinaaTextsP
import Derived.WalkKit
import Derived.WalkLawsBesides
import Derived.WalkSpells
import Derived.LoopTactic
import Derived.WalkMore
import Derived.LoopN
import Derived.Laws.BitsAllLaws
import Derived.Laws.IdiomStrings
import Derived.BigQuiet
import Derived.Deep.QuietTactic
import Derived.Deep.DeepCutAuto
import Derived.Deep.RegionHeld3
import Derived.Deep.DrawnRows
import Derived.Lib.Hide
import Derived.Outline
import Derived.Deep.DeepMust
import Derived.Handy
namespace Go.Proofs.Ytienlhnbmobinaa
open Go.RowKit
set_option linter.unusedVariables false
set_option linter.unusedSimpArgs false

theorem conv_one (W : World) (g : Nat) (y : UInt8) (h : W.cell? ⟨g, 0, none⟩ = some (.int .u8 (y.toNat : Int))) :
    (convert 70 9 (.slice (some ⟨g, 0, none⟩) 1 1)).run Try.prog W = .ok (.string ⟨[y].toArray⟩) W := by
  have := run_convert_bytes_arg (P := Try.prog) W 70 5 Try.underlying70 Try.underlying5 g 0 1 1 [(y.toNat : Int)] (by simp) (fun i hi => by
    obtain rfl : i = 0 := by omega
    simpa using h) 9 Try.underlying9
  rw [this, show strOfNums [(y.toNat : Int)] = ⟨[y].toArray⟩ from mapBytes [y]]
set_option maxHeartbeats 4000000 in
set_option maxRecDepth 1000000 in
theorem spacePatch_any (p : Pg) (sv : Value) (n0 : Nat) (w : World) (hm : mapB p = true) (ht : TextsAt w sv p.rows) (h1 : 1 ≤ n0) (h2 : n0 ≤ 1024) :
    Calls Try.prog 90 #[pgV p sv, .int .u32 n0] w fun e w' => e = .returned (odV (patchO p n0) (.slice none 0 0)) ∧ Below w.heap.size w w' := by
  have HM := Lib.hid hm
  have HT := Lib.hid ht
  have PL := Lib.hid fun W => place_any n0 W h1 h2
  obtain ⟨d, j, hd, hj, hj8, hd8, hn⟩ := num_k h1 h2
  rw [← hd, ← hj] at PL
  obtain ⟨r, hr⟩ := map_row hm.symm
  obtain ⟨A, cp, hsv, k2, k3, k4, k5⟩ := ht
  have hl128 := map_len hm.symm
  obtain ⟨kind, level, id, lsn, next, rows⟩ := p
  simp only at hr HT k5 hsv k2 hl128
  subst hr
  subst hsv
  simp only [mapRow, List.getD_cons_zero] at hl128
  obtain ⟨b, o, hA, hbl, hcell⟩ := k5 (by simp)
  subst hA
  have c0 := hcell 0 (by simp)
  simp only [Nat.add_zero, List.getElem_cons_zero] at c0
  obtain ⟨x, hx⟩ : ∃ x, x = r.getD d 0 := ⟨_, rfl⟩
  have HP : Hid (patchO ⟨kind, level, id, lsn, next, [r]⟩ n0 = ⟨8, id, 0, (d : Nat), [flip8 x j], [], 0, 0, 0⟩) := by
    show _ = _
    rw [hx]
    unfold patchO mapRow
    simp only [List.getD_cons_zero]
    rw [← hd, ← hj]
  have hls : (⟨r.toArray⟩ : ByteArray).size = 128 := hl128
  have hdd : d < (⟨r.toArray⟩ : ByteArray).size := by omega
  have hbx := byte_at r d hdd
  rw [← hx] at hbx
  have HBX := Lib.hid hbx
  have eX := xor_bit x j hj8
  have P0 := Lib.hid (PgBox.new w kind level id lsn next (.slice (some ⟨b, o, none⟩) 1 cp))
  have B0 := Lib.hid (alloc_below w (.cells #[.int .u8 kind, .int .u8 level, .int .u32 id, .int .u64 lsn, .int .u32 next, .slice (some ⟨b, o, none⟩) 1 cp] 26))
  unfold pgV
  simp only [List.length_singleton]
  clear hcell k5 k4 hn hd hj hx hl128 hm k2 k3 hbx
  go_enter Try.func90, Try.ntmps90
  go_wp2_with fail
  refine (PL.out _).mono ?_
  rintro e w2 ⟨rfl, rfl⟩
  go_upto_region 2 with fail
  have b1 := B0.out.alloc B0.out.size (.cells #[.int .u8 0, .int .u32 0, .int .i64 0, .int .i64 0, .string ByteArray.empty, .slice none 0 0, .int .u8 0, .int .u8 0, .int .u32 0] 28)
  have P1 := Lib.hid (P0.out.keep (.cells #[.int .u8 0, .int .u32 0, .int .i64 0, .int .i64 0, .string ByteArray.empty, .slice none 0 0, .int .u8 0, .int .u8 0, .int .u32 0] 28))
  obtain ⟨x0, x1, x2, x3, x4, x5, x6⟩ := P1.out.cells
  have c1 := keep_cell b1 c0
  have O1 := heap_alloc_new (w.alloc (.cells #[.int .u8 kind, .int .u8 level, .int .u32 id, .int .u64 lsn, .int .u32 next, .slice (some ⟨b, o, none⟩) 1 cp] 26)) (.cells #[.int .u8 0, .int .u32 0, .int .i64 0, .int .i64 0, .string ByteArray.empty, .slice none 0 0, .int .u8 0, .int .u8 0, .int .u32 0] 28)
  rw [World.size_alloc] at O1
  have hbyte : (⟨r.toArray⟩ : ByteArray)[d] = x := HBX.out
  have B1 := Lib.hid b1
  have hgw : w.heap.size + 1 < ((w.alloc (.cells #[.int .u8 kind, .int .u8 level, .int .u32 id, .int .u64 lsn, .int .u32 next, .slice (some ⟨b, o, none⟩) 1 cp] 26)).alloc (.cells #[.int .u8 0, .int .u32 0, .int .i64 0, .int .i64 0, .string ByteArray.empty, .slice none 0 0, .int .u8 0, .int .u8 0, .int .u32 0] 28)).heap.size := blk_lt O1
  have hbe : (⟨#[]⟩ : ByteArray) = ByteArray.empty := rfl
  rw [hbe]
  generalize (w.alloc (.cells #[.int .u8 kind, .int .u8 level, .int .u32 id, .int .u64 lsn, .int .u32 next, .slice (some ⟨b, o, none⟩) 1 cp] 26)).alloc (.cells #[.int .u8 0, .int .u32 0, .int .i64 0, .int .i64 0, .string ByteArray.empty, .slice none 0 0, .int .u8 0, .int .u8 0, .int .u32 0] 28) = w1 at *
  clear b1 hbe
  have o0 := blk_cell O1 0
  have o1 := blk_cell O1 1
  have o2 := blk_cell O1 2
  have o3 := blk_cell O1 3
  have o4 := blk_cell O1 4
  have o5 := blk_cell O1 5
  have o6 := blk_cell O1 6
  have o7 := blk_cell O1 7
  have o8 := blk_cell O1 8
  simp only [List.getElem?_toArray, List.getElem?_cons_zero, List.getElem?_cons_succ] at o0 o1 o2 o3 o4 o5 o6 o7 o8
  have hfz := blk_frozen O1
  have OO := Lib.hid O1
  clear O1
  have hconv := conv_one (w1.alloc (.cells #[.int .u8 ((flip8 x j).toNat : Int)] 5)).drew w1.heap.size (flip8 x j) (one_new w1 _ _ 0 _ rfl)
  have i1 : (0 : Int) ≤ (d : Int) := by omega
  have i2 : (d : Int) < 128 := by omega
  have OF := Lib.hid (OAt.drew (OAt.keep (OAt.put (OAt.of_cells OO.out) ⟨8, id, 0, (d : Nat), [flip8 x j], [], 0, 0, 0⟩ (.slice none 0 0)) (.cells #[.int .u8 ((flip8 x j).toNat : Int)] 5)))
  have BF := Lib.hid (((OthersKept.below B1.out (setOp_kept w1 (w.heap.size + 1) ⟨8, id, 0, (d : Nat), [flip8 x j], [], 0, 0, 0⟩ (.slice none 0 0)) (fun k hk e => by omega)).alloc (by
    have := (setOp_kept w1 (w.heap.size + 1) ⟨8, id, 0, (d : Nat), [flip8 x j], [], 0, 0, 0⟩ (.slice none 0 0)).size
    omega) (.cells #[.int .u8 ((flip8 x j).toNat : Int)] 5)).drew)
  obtain ⟨wF, hwF⟩ : ∃ W, W = ((setOp w1 (w.heap.size + 1) ⟨8, id, 0, (d : Nat), [flip8 x j], [], 0, 0, 0⟩ (.slice none 0 0)).alloc (.cells #[.int .u8 ((flip8 x j).toNat : Int)] 5)).drew := ⟨_, rfl⟩
  rw [← hwF] at OF BF
  unfold setOp at hwF
  simp only [show ((8 : Nat) : Int) = 8 from rfl, show ((0 : Nat) : Int) = 0 from rfl] at hwF
  have HWF := Lib.hid hwF
  clear hwF
  go_region
  have hx := HWF.out
  rw [← hx]
  clear hx HWF o0 o1 o2 o3 o4 o5 o6 o7 o8 hconv hfz
  go_wp2_with fail
  refine bodyPost_ret (results_op1 (p := 4) (o := ⟨8, id, 0, (d : Nat), [flip8 x j], [], 0, 0, 0⟩) (sv := .slice none 0 0) (by kernel_rfl) _ _ rfl OF.out) rfl ?_
  exact ⟨by rw [HP.out], BF.out⟩

end Go.Proofs.Ytienlhnbmobinaa
