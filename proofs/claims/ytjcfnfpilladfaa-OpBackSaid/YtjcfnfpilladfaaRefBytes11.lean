/- ref11: num and Bytes -/
import Derived.Test.YtjcfnfpilladfaaRows
import Derived.Test.YtjcfnfpilladfaaRefGet
import Derived.Test.YtjcfnfpilladfaaRefOnly
import Derived.Test.YtjcfnfpilladfaaOpWrite
import Derived.Test.YtjcfnfpilladfaaOpRead
import Derived.Test.YtjcfnfpilladfaaOpNum
import Derived.Test.YtjcfnfpilladfaaOpPlain
import Derived.Test.YtjcfnfpilladfaaOpPart
import Derived.Test.YtjcfnfpilladfaaOpWord
import Derived.Test.YtjcfnfpilladfaaOpSame
import Derived.Test.YtjcfnfpilladfaaOpLaw
import Derived.Test.YtjcfnfpilladfaaOpIn
import Derived.Test.YtjcfnfpilladfaaOpEnc
import Derived.Test.YtjcfnfpilladfaaTextsMove
import Derived.Test.YtjcfnfpilladfaaTextsP
import Derived.Test.YtjcfnfpilladfaaPlains
import Derived.Test.YtjcfnfpilladfaaBase
import Derived.Test.YtjcfnfpilladfaaWordWalks
import Derived.WalkKit
import Derived.WalkLawsBesides
import Derived.WalkSpells
import Derived.LoopTactic
import Derived.WalkMore
import Derived.LoopN
import Derived.Laws.BitsAllLaws
import Derived.Laws.IdiomStrings
import Derived.BigQuiet
import Derived.Deep.QuietTactic
import Derived.Deep.DeepCutAuto
import Derived.Deep.RegionHeld3
import Derived.Deep.DrawnRows
import Derived.Lib.Hide
import Derived.Outline
import Derived.Deep.DeepMust
import Derived.Handy
namespace Go.Proofs.Ytjcfnfpilladfaa
open Go.RowKit
set_option linter.unusedVariables false
set_option linter.unusedSimpArgs false

set_option maxHeartbeats 1000000 in
theorem refNum_any (n k : Nat) (w : World) (hk : k = 1 ∨ k = 2 ∨ k = 4) (hn : n < 256 ^ k) :
    Calls Try.prog 62 #[.int .i64 n, .int .i64 (k : Nat)] w fun e w' => e = .returned (.string ⟨(be k n).toArray⟩) ∧ Below w.heap.size w w' := by
  have hP : ∀ W, Calls Try.prog 95 #[.int .u64 n, .int .i64 (k : Nat)] W fun e w' => e = .returned (.tuple #[.string ⟨(be k n).toArray⟩, .bool true]) ∧ Below W.heap.size W w' := by
    intro W
    rcases hk with rfl | rfl | rfl
    · exact refPut_1 n W hn
    · exact refPut_2 n W hn
    · exact refPut_4 n W hn
  have HP := Lib.hid hP
  have hn2 : n < 4294967296 := by rcases hk with rfl | rfl | rfl <;> simp only [Nat.reducePow] at hn <;> omega
  have v1 : IntKind.u64.wrap (n : Int) = (n : Int) := IntWalk.u64_in _ ⟨by omega, by omega⟩
  clear hP hk hn
  go_enter Try.func62, Try.ntmps62
  go_wp2_with fail
  refine (HP.out _).mono ?_
  rintro e w1 ⟨rfl, hb⟩
  have HB := Lib.hid hb
  go_wp2_with fail
  go_ret
  exact ⟨rfl, HB.out⟩
theorem may_bounds {o : Od} (h : o.may = true) : (1 ≤ o.kind ∧ o.kind ≤ 8) ∧ o.page ≤ 1024 ∧ o.nx ≤ 1024 ∧ o.pk ≤ 5 ∧ (0 ≤ o.at_ ∧ o.at_ ≤ 488) ∧ (0 ≤ o.off ∧ o.off ≤ 488) ∧ o.rows.length ≤ 488 ∧ o.text.length + lensB o.rows ≤ 488 := by
  unfold Od.may at h
  rw [Bool.and_eq_true, Bool.and_eq_true, Bool.and_eq_true, decide_eq_true_eq, decide_eq_true_eq, decide_eq_true_eq, decide_eq_true_eq] at h
  omega
theorem bsz (k n : Nat) : (⟨(be k n).toArray⟩ : ByteArray).size = k := by rw [show (⟨(be k n).toArray⟩ : ByteArray).size = (be k n).length by simp [ByteArray.size], be_length]
theorem wp_ext_two {B : Nat} {w : World} : True := trivial
set_option maxHeartbeats 8000000 in
set_option maxRecDepth 100000 in
theorem refBytes_any (o : Od) (sv : Value) (w : World) (ht : TextsAt w sv o.rows) (hm : o.may = true) (hw : o.wf) :
    Calls Try.prog 63 #[odV o sv] w fun e w' => e = .returned (.string ⟨o.enc.toArray⟩) ∧ Below w.heap.size w w' := by
  obtain ⟨hk, hpg, hnx, hpk, hat, hoff, hrl, hll⟩ := may_bounds hm
  obtain ⟨_, _, _, _, _, hlv, _⟩ := hw
  obtain ⟨kind, page, at_, off, text, rows, pk, lv, nx⟩ := o
  simp only at *
  obtain ⟨a, rfl⟩ : ∃ a : Nat, at_ = a := ⟨at_.toNat, by omega⟩
  obtain ⟨f, rfl⟩ : ∃ f : Nat, off = f := ⟨off.toNat, by omega⟩
  have HTX := Lib.hid ht
  obtain ⟨A, cp, rfl, hcp1, hcp2, _, hcell⟩ := ht
  obtain ⟨n, hn⟩ : ∃ n, n = rows.length := ⟨_, rfl⟩
  have BX := Lib.hid (alloc_below w (.cells #[.int .u8 kind, .int .u32 page, .int .i64 (a : Nat), .int .i64 (f : Nat), .string ⟨text.toArray⟩, .slice A n cp, .int .u8 pk, .int .u8 lv, .int .u32 nx] 26))
  have X0 : OAt (w.alloc (.cells #[.int .u8 kind, .int .u32 page, .int .i64 (a : Nat), .int .i64 (f : Nat), .string ⟨text.toArray⟩, .slice A n cp, .int .u8 pk, .int .u8 lv, .int .u32 nx] 26)) w.heap.size ⟨kind, page, a, f, text, rows, pk, lv, nx⟩ (.slice A n cp) := heap_alloc_new w _
  have HEN : Hid (∀ r : List UInt8, Od.enc ⟨kind, page, a, f, text, rows, pk, lv, nx⟩ = r → True) := fun _ _ => trivial
  unfold odV
  rw [← hn] at hrl hcp1
  simp only [← hn]
  have HC := Lib.hid hcell
  have HN := Lib.hid hn
  unfold maxLen at hcp2
  clear hm hcell hn HEN
  go_enter Try.func63, Try.ntmps63
  go_upto_region 1 with fail
  generalize w.alloc (.cells #[.int .u8 kind, .int .u32 page, .int .i64 (a : Nat), .int .i64 (f : Nat), .string ⟨text.toArray⟩, .slice A n cp, .int .u8 pk, .int .u8 lv, .int .u32 nx] 26) = w0 at *
  obtain ⟨x0, x1, x2, x3, x4, x5, x6, x7, x8⟩ := X0.cells
  simp only at x0 x1 x2 x3 x4 x5 x6 x7 x8
  have g0 : w.heap.size < w0.heap.size := blk_lt X0
  have HX := Lib.hid X0
  clear X0
  have e0 := ext_cell x0 g0
  have e1 := ext_cell x1 g0
  have NK := Lib.hid fun W => refNum_any kind 1 W (by omega) (by simp only [Nat.reducePow]; omega)
  have NP := Lib.hid fun W => refNum_any page 4 W (by omega) (by simp only [Nat.reducePow]; omega)
  have z0 := bsz 1 kind
  have z1 := bsz 4 page
  obtain ⟨p0, hp0⟩ : ∃ p : ByteArray, p = ⟨(be 1 kind).toArray⟩ := ⟨_, rfl⟩
  obtain ⟨p1, hp1⟩ : ∃ p : ByteArray, p = ⟨(be 4 page).toArray⟩ := ⟨_, rfl⟩
  rw [← hp0] at NK z0
  rw [← hp1] at NP z1
  have y0 := Nat.le_of_eq z0
  have y1 := Nat.le_of_eq z1
  have HP0 := Lib.hid hp0
  have HP1 := Lib.hid hp1
  clear hp0 hp1 z0 z1
  refine wp_region_ext w0.heap.size (by kernel_rfl) (by kernel_rfl) ?_
  repeat (go_big_quiet_step (first
      | (go_at_call_of 62 (Value.int .i64 (page : Int)); exact ext_call _ (Nat.le_refl _) (NP.out _))
      | (go_at_call_of 62 (Value.int .i64 (kind : Int)); exact ext_call _ (Nat.le_refl _) (NK.out _))))
  refine wpQuiet_nil ?_
  rintro _ ⟨X, rfl⟩
  have BW := Lib.hid (BX.out.trans (X.below.mono (by have := BX.out.size; omega)))
  have X1 : OAt X.val w.heap.size ⟨kind, page, a, f, text, rows, pk, lv, nx⟩ (.slice A n cp) := HX.out.below X.below
  generalize X.val = w1 at *
  clear x0 x1 x2 x3 x4 x5 x6 x7 x8 e0 e1 NK NP HX BX g0
  obtain ⟨x0, x1, x2, x3, x4, x5, x6, x7, x8⟩ := X1.cells
  simp only at x0 x1 x2 x3 x4 x5 x6 x7 x8
  have g0 : w.heap.size < w1.heap.size := blk_lt X1
  have HX := Lib.hid X1
  clear X1
  have ht0 : (⟨text.toArray⟩ : ByteArray).size = text.length := by simp [ByteArray.size]
  rcases kinds hk with rfl | rfl | rfl | rfl | rfl | rfl | rfl | rfl
  · clear hk
    have N0 := Lib.hid fun W => refNum_any (pk) 1 W (by omega) (by simp only [Nat.reducePow]; omega)
    have z0 := bsz 1 (pk)
    obtain ⟨q0, hq0⟩ : ∃ p : ByteArray, p = ⟨(be 1 (pk)).toArray⟩ := ⟨_, rfl⟩
    rw [← hq0] at N0 z0
    have v0 := Nat.le_of_eq z0
    have HQ0 := Lib.hid hq0
    clear hq0 z0
    have N1 := Lib.hid fun W => refNum_any (lv) 1 W (by omega) (by simp only [Nat.reducePow]; omega)
    have z1 := bsz 1 (lv)
    obtain ⟨q1, hq1⟩ : ∃ p : ByteArray, p = ⟨(be 1 (lv)).toArray⟩ := ⟨_, rfl⟩
    rw [← hq1] at N1 z1
    have v1 := Nat.le_of_eq z1
    have HQ1 := Lib.hid hq1
    clear hq1 z1
    have N2 := Lib.hid fun W => refNum_any (nx) 4 W (by omega) (by simp only [Nat.reducePow]; omega)
    have z2 := bsz 4 (nx)
    obtain ⟨q2, hq2⟩ : ∃ p : ByteArray, p = ⟨(be 4 (nx)).toArray⟩ := ⟨_, rfl⟩
    rw [← hq2] at N2 z2
    have v2 := Nat.le_of_eq z2
    have HQ2 := Lib.hid hq2
    clear hq2 z2
    have hfin : Hid (p0 ++ p1 ++ q0 ++ q1 ++ q2 = (⟨(Od.enc ⟨1, page, a, f, text, rows, pk, lv, nx⟩).toArray⟩ : ByteArray)) := by
      show _ = _
      rw [HP0.out, HP1.out, HQ0.out, HQ1.out, HQ2.out]
      apply bytes_ext
      simp only [ByteArray.data_append, Array.toList_append, Od.enc, pieceB]
      (try simp)
    have e6 := ext_cell x6 g0
    have e7 := ext_cell x7 g0
    have e8 := ext_cell x8 g0
    go_upto_region 4 with fail
    refine wp_region_ext w1.heap.size (by kernel_rfl) (by kernel_rfl) ?_
    repeat (go_big_quiet_step (first
        | (go_at_call_of 62 (Value.int .i64 (pk : Int)); exact ext_call _ (Nat.le_refl _) (N0.out _))
        | (go_at_call_of 62 (Value.int .i64 (lv : Int)); exact ext_call _ (Nat.le_refl _) (N1.out _))
        | (go_at_call_of 62 (Value.int .i64 (nx : Int)); exact ext_call _ (Nat.le_refl _) (N2.out _))))
    refine wpQuiet_nil ?_
    rintro _ ⟨Y, rfl⟩
    have B2 := Lib.hid (below_then BW.out Y.below)
    generalize Y.val = w2 at *
    go_wp2_with fail
    go_ret
    exact ⟨ret_str1 hfin.out, B2.out⟩
  · clear hk
    have N0 := Lib.hid fun W => refNum_any (a) 2 W (by omega) (by simp only [Nat.reducePow]; omega)
    have z0 := bsz 2 (a)
    obtain ⟨q0, hq0⟩ : ∃ p : ByteArray, p = ⟨(be 2 (a)).toArray⟩ := ⟨_, rfl⟩
    rw [← hq0] at N0 z0
    have v0 := Nat.le_of_eq z0
    have HQ0 := Lib.hid hq0
    clear hq0 z0
    have N1 := Lib.hid fun W => refNum_any (text.length) 2 W (by omega) (by simp only [Nat.reducePow]; omega)
    have z1 := bsz 2 (text.length)
    obtain ⟨q1, hq1⟩ : ∃ p : ByteArray, p = ⟨(be 2 (text.length)).toArray⟩ := ⟨_, rfl⟩
    rw [← hq1] at N1 z1
    have v1 := Nat.le_of_eq z1
    have HQ1 := Lib.hid hq1
    clear hq1 z1
    have hfin : Hid (p0 ++ p1 ++ q0 ++ q1 ++ ⟨text.toArray⟩ = (⟨(Od.enc ⟨2, page, a, f, text, rows, pk, lv, nx⟩).toArray⟩ : ByteArray)) := by
      show _ = _
      rw [HP0.out, HP1.out, HQ0.out, HQ1.out]
      apply bytes_ext
      simp only [ByteArray.data_append, Array.toList_append, Od.enc, pieceB]
      (try simp)
    have e2 := ext_cell x2 g0
    have e4 := ext_cell x4 g0
    have v9 : (⟨text.toArray⟩ : ByteArray).size ≤ 488 := by omega
    go_upto_region 7 with fail
    refine wp_region_ext w1.heap.size (by kernel_rfl) (by kernel_rfl) ?_
    repeat (go_big_quiet_step (first
        | (go_at_call_of 62 (Value.int .i64 (a : Int)); exact ext_call _ (Nat.le_refl _) (N0.out _))
        | (go_at_call_of 62 (Value.int .i64 (text.length : Int)); exact ext_call _ (Nat.le_refl _) (N1.out _))))
    refine wpQuiet_nil ?_
    rintro _ ⟨Y, rfl⟩
    have B2 := Lib.hid (below_then BW.out Y.below)
    generalize Y.val = w2 at *
    go_wp2_with fail
    go_ret
    exact ⟨ret_str1 hfin.out, B2.out⟩
  · clear hk
    have N0 := Lib.hid fun W => refNum_any (a) 2 W (by omega) (by simp only [Nat.reducePow]; omega)
    have z0 := bsz 2 (a)
    obtain ⟨q0, hq0⟩ : ∃ p : ByteArray, p = ⟨(be 2 (a)).toArray⟩ := ⟨_, rfl⟩
    rw [← hq0] at N0 z0
    have v0 := Nat.le_of_eq z0
    have HQ0 := Lib.hid hq0
    clear hq0 z0
    have N1 := Lib.hid fun W => refNum_any (text.length) 2 W (by omega) (by simp only [Nat.reducePow]; omega)
    have z1 := bsz 2 (text.length)
    obtain ⟨q1, hq1⟩ : ∃ p : ByteArray, p = ⟨(be 2 (text.length)).toArray⟩ := ⟨_, rfl⟩
    rw [← hq1] at N1 z1
    have v1 := Nat.le_of_eq z1
    have HQ1 := Lib.hid hq1
    clear hq1 z1
    have hfin : Hid (p0 ++ p1 ++ q0 ++ q1 ++ ⟨text.toArray⟩ = (⟨(Od.enc ⟨3, page, a, f, text, rows, pk, lv, nx⟩).toArray⟩ : ByteArray)) := by
      show _ = _
      rw [HP0.out, HP1.out, HQ0.out, HQ1.out]
      apply bytes_ext
      simp only [ByteArray.data_append, Array.toList_append, Od.enc, pieceB]
      (try simp)
    have e2 := ext_cell x2 g0
    have e4 := ext_cell x4 g0
    have v9 : (⟨text.toArray⟩ : ByteArray).size ≤ 488 := by omega
    go_upto_region 7 with fail
    refine wp_region_ext w1.heap.size (by kernel_rfl) (by kernel_rfl) ?_
    repeat (go_big_quiet_step (first
        | (go_at_call_of 62 (Value.int .i64 (a : Int)); exact ext_call _ (Nat.le_refl _) (N0.out _))
        | (go_at_call_of 62 (Value.int .i64 (text.length : Int)); exact ext_call _ (Nat.le_refl _) (N1.out _))))
    refine wpQuiet_nil ?_
    rintro _ ⟨Y, rfl⟩
    have B2 := Lib.hid (below_then BW.out Y.below)
    generalize Y.val = w2 at *
    go_wp2_with fail
    go_ret
    exact ⟨ret_str1 hfin.out, B2.out⟩
  · clear hk
    have N0 := Lib.hid fun W => refNum_any (a) 2 W (by omega) (by simp only [Nat.reducePow]; omega)
    have z0 := bsz 2 (a)
    obtain ⟨q0, hq0⟩ : ∃ p : ByteArray, p = ⟨(be 2 (a)).toArray⟩ := ⟨_, rfl⟩
    rw [← hq0] at N0 z0
    have v0 := Nat.le_of_eq z0
    have HQ0 := Lib.hid hq0
    clear hq0 z0
    have hfin : Hid (p0 ++ p1 ++ q0 = (⟨(Od.enc ⟨4, page, a, f, text, rows, pk, lv, nx⟩).toArray⟩ : ByteArray)) := by
      show _ = _
      rw [HP0.out, HP1.out, HQ0.out]
      apply bytes_ext
      simp only [ByteArray.data_append, Array.toList_append, Od.enc, pieceB]
      (try simp)
    have e2 := ext_cell x2 g0
    go_upto_region 10 with fail
    go_wp2_with fail
    refine (N0.out _).mono ?_
    rintro e w2 ⟨rfl, hb⟩
    have B2 := Lib.hid (below_then BW.out hb)
    clear hb
    go_wp2_with fail
    go_ret
    exact ⟨ret_str1 hfin.out, B2.out⟩
  · clear hk
    have N0 := Lib.hid fun W => refNum_any (a) 2 W (by omega) (by simp only [Nat.reducePow]; omega)
    have z0 := bsz 2 (a)
    obtain ⟨q0, hq0⟩ : ∃ p : ByteArray, p = ⟨(be 2 (a)).toArray⟩ := ⟨_, rfl⟩
    rw [← hq0] at N0 z0
    have v0 := Nat.le_of_eq z0
    have HQ0 := Lib.hid hq0
    clear hq0 z0
    have hfin : Hid (p0 ++ p1 ++ q0 = (⟨(Od.enc ⟨5, page, a, f, text, rows, pk, lv, nx⟩).toArray⟩ : ByteArray)) := by
      show _ = _
      rw [HP0.out, HP1.out, HQ0.out]
      apply bytes_ext
      simp only [ByteArray.data_append, Array.toList_append, Od.enc, pieceB]
      (try simp)
    have e2 := ext_cell x2 g0
    go_upto_region 10 with fail
    go_wp2_with fail
    refine (N0.out _).mono ?_
    rintro e w2 ⟨rfl, hb⟩
    have B2 := Lib.hid (below_then BW.out hb)
    clear hb
    go_wp2_with fail
    go_ret
    exact ⟨ret_str1 hfin.out, B2.out⟩
  · clear hk
    have N0 := Lib.hid fun W => refNum_any n 2 W (by omega) (by simp only [Nat.reducePow]; omega)
    obtain ⟨q0, hq0⟩ : ∃ p : ByteArray, p = ⟨(be 2 n).toArray⟩ := ⟨_, rfl⟩
    have z0 := bsz 2 n
    rw [← hq0] at N0 z0
    have v0 := Nat.le_of_eq z0
    have HS : Hid (∃ pre : List UInt8, pre.length = 7 ∧ p0 ++ p1 ++ q0 = (⟨pre.toArray⟩ : ByteArray) ∧ Od.enc ⟨6, page, a, f, text, rows, pk, lv, nx⟩ = pre ++ rows.flatMap pieceB) := by
      refine ⟨be 1 6 ++ be 4 page ++ be 2 n, by simp [be_length], ?_, ?_⟩
      · rw [HP0.out, HP1.out, hq0]
        apply bytes_ext
        simp only [ByteArray.data_append, Array.toList_append]
      · rw [HN.out]
        simp [Od.enc]
    obtain ⟨pre, hpl, hpe, henc⟩ := HS.out
    have HPE := Lib.hid hpe
    have HENC := Lib.hid henc
    clear hq0 z0 HS hpe henc
    have h9 : ¬ 9223372036854775807 < p0.size + p1.size + q0.size := by omega
    go_upto_region 15 with fail
    go_wp2_with fail
    refine (N0.out _).mono ?_
    rintro e w2 ⟨rfl, hb⟩
    have B2 := Lib.hid (below_then BW.out hb)
    have X2 := Lib.hid (HX.out.below hb)
    clear hb HX N0 BW
    go_wp2_with fail
    rw [HPE.out]
    go_loopw [3, 4] (fun s3 s4 wr => ∃ (i : Nat) (bs : List UInt8), s4 = .int .i64 i ∧ i ≤ n ∧ s3 = .string ⟨bs.toArray⟩ ∧ bs.length ≤ 10000 ∧ Hid (bs = pre ++ (rows.take i).flatMap pieceB) ∧ Hid (Below w.heap.size w wr) ∧ Hid (OAt wr w.heap.size ⟨6, page, a, f, text, rows, pk, lv, nx⟩ (.slice A n cp))) (fun _ v _ => n - (intOf v).toNat)
    case atStart => exact ⟨0, pre, rfl, Nat.zero_le _, rfl, by omega, Lib.hid (by simp), B2, X2⟩
    case round =>
      obtain ⟨i, bs, rfl, hi, rfl, hbl, HBS, HB, HXR⟩ := hrel
      obtain ⟨u0, u1, u2, u3, u4, u5, u6, u7, u8⟩ := HXR.out.cells
      simp only at u0 u1 u2 u3 u4 u5 u6 u7 u8
      by_cases hc : i < n
      · have hci : (i : Int) < (n : Int) := by omega
        have q1 : (0 : Int) ≤ (i : Int) := by omega
        have hil : i < rows.length := by rw [← HN.out]; exact hc
        obtain ⟨b0, o0, rfl, hb0, hcell⟩ := HC.out (by omega)
        have c1 := (HB.out.cell (p := ⟨b0, o0 + i, none⟩) hb0).trans (hcell i hil)
        have hbr : b0 < wr.heap.size := Nat.lt_of_lt_of_le hb0 HB.out.size
        have hgr : w.heap.size < wr.heap.size := blk_lt HXR.out
        have hlr := lensB_mem (List.getElem_mem hil)
        have htl := lensB_take_le rows (i + 1)
        have hfl := flat_len (rows.take (i + 1))
        rw [List.length_take] at hfl
        have HT : Hid ((rows.take (i + 1)).flatMap pieceB = (rows.take i).flatMap pieceB ++ pieceB rows[i]) := by
          show _ = _
          rw [List.take_succ_eq_append_getElem hil, List.flatMap_append]
          simp
        have hbn : (pre ++ (rows.take (i + 1)).flatMap pieceB).length ≤ 10000 := by
          rw [List.length_append]
          omega
        rw [HT.out] at hbn
        clear hfl htl hcell
        generalize rows[i] = r at *
        have hr4 : r.length ≤ 488 := by omega
        have N9 := Lib.hid fun W => refNum_any r.length 2 W (by omega) (by simp only [Nat.reducePow]; omega)
        have rz : (⟨r.toArray⟩ : ByteArray).size = r.length := by simp [ByteArray.size]
        obtain ⟨q9, hq9⟩ : ∃ p : ByteArray, p = ⟨(be 2 r.length).toArray⟩ := ⟨_, rfl⟩
        have z9 := bsz 2 r.length
        rw [← hq9] at N9 z9
        have v9 := Nat.le_of_eq z9
        have HNX : Hid ((⟨bs.toArray⟩ : ByteArray) ++ q9 ++ ⟨r.toArray⟩ = ⟨(bs ++ pieceB r).toArray⟩) := by
          show _ = _
          rw [hq9]
          apply bytes_ext
          simp only [ByteArray.data_append, Array.toList_append, pieceB]
          simp
        have HNB : Hid (bs ++ pieceB r = pre ++ (rows.take (i + 1)).flatMap pieceB ∧ (bs ++ pieceB r).length ≤ 10000) := by
          have h1 : bs ++ pieceB r = pre ++ (rows.take (i + 1)).flatMap pieceB := by rw [HBS.out, HT.out, List.append_assoc]
          refine ⟨h1, ?_⟩
          rw [h1, HT.out]
          exact hbn
        have bz : (⟨bs.toArray⟩ : ByteArray).size = bs.length := by simp [ByteArray.size]
        have bz2 : (⟨bs.toArray⟩ : ByteArray).size ≤ 10000 := by omega
        have rz2 : (⟨r.toArray⟩ : ByteArray).size ≤ 488 := by omega
        have e5 := ext_cell (B := wr.heap.size) u5 hgr
        have e9 := ext_cell (B := wr.heap.size) c1 hbr
        clear hq9 z9 HT hbn hlr
        go_upto_region 19 with fail
        refine wp_region_ext wr.heap.size (by kernel_rfl) (by kernel_rfl) ?_
        repeat (go_big_quiet_step (first
          | (go_at_call_of 62 (Value.int .i64 (r.length : Int)); exact ext_call _ (Nat.le_refl _) (N9.out _))))
        refine wpQuiet_nil ?_
        rintro _ ⟨Y, rfl⟩
        have B3 := Lib.hid (HB.out.trans (Y.below.mono HB.out.size))
        have X3 := Lib.hid (HXR.out.below Y.below)
        generalize Y.val = w3 at *
        rw [HNX.out]
        clear HXR HB HNX HBS e5 e9 u0 u1 u2 u3 u4 u5 u6 u7 u8 c1
        go_wp2_with fail
        go_roundw
        case rel => exact ⟨i + 1, bs ++ pieceB r, by go_num, by omega, by first | rfl | trivial, HNB.out.2, Lib.hid HNB.out.1, B3, X3⟩
        case measure => simp [intOf] <;> omega
      · have hci : ¬ (i : Int) < (n : Int) := by omega
        have hfin : Hid (bs = Od.enc ⟨6, page, a, f, text, rows, pk, lv, nx⟩) := by
          show _ = _
          rw [HENC.out, HBS.out, List.take_of_length_le (by rw [← HN.out]; omega)]
        go_wp2_with fail
        go_ret
        exact ⟨ret_str1 (by rw [hfin.out]), HB.out⟩
  · clear hk
    have N0 := Lib.hid fun W => refNum_any (nx) 4 W (by omega) (by simp only [Nat.reducePow]; omega)
    have z0 := bsz 4 (nx)
    obtain ⟨q0, hq0⟩ : ∃ p : ByteArray, p = ⟨(be 4 (nx)).toArray⟩ := ⟨_, rfl⟩
    rw [← hq0] at N0 z0
    have v0 := Nat.le_of_eq z0
    have HQ0 := Lib.hid hq0
    clear hq0 z0
    have hfin : Hid (p0 ++ p1 ++ q0 = (⟨(Od.enc ⟨7, page, a, f, text, rows, pk, lv, nx⟩).toArray⟩ : ByteArray)) := by
      show _ = _
      rw [HP0.out, HP1.out, HQ0.out]
      apply bytes_ext
      simp only [ByteArray.data_append, Array.toList_append, Od.enc, pieceB]
      (try simp)
    have e8 := ext_cell x8 g0
    go_upto_region 12 with fail
    go_wp2_with fail
    refine (N0.out _).mono ?_
    rintro e w2 ⟨rfl, hb⟩
    have B2 := Lib.hid (below_then BW.out hb)
    clear hb
    go_wp2_with fail
    go_ret
    exact ⟨ret_str1 hfin.out, B2.out⟩
  · clear hk
    have N0 := Lib.hid fun W => refNum_any (a) 2 W (by omega) (by simp only [Nat.reducePow]; omega)
    have z0 := bsz 2 (a)
    obtain ⟨q0, hq0⟩ : ∃ p : ByteArray, p = ⟨(be 2 (a)).toArray⟩ := ⟨_, rfl⟩
    rw [← hq0] at N0 z0
    have v0 := Nat.le_of_eq z0
    have HQ0 := Lib.hid hq0
    clear hq0 z0
    have N1 := Lib.hid fun W => refNum_any (f) 2 W (by omega) (by simp only [Nat.reducePow]; omega)
    have z1 := bsz 2 (f)
    obtain ⟨q1, hq1⟩ : ∃ p : ByteArray, p = ⟨(be 2 (f)).toArray⟩ := ⟨_, rfl⟩
    rw [← hq1] at N1 z1
    have v1 := Nat.le_of_eq z1
    have HQ1 := Lib.hid hq1
    clear hq1 z1
    have N2 := Lib.hid fun W => refNum_any (text.length) 2 W (by omega) (by simp only [Nat.reducePow]; omega)
    have z2 := bsz 2 (text.length)
    obtain ⟨q2, hq2⟩ : ∃ p : ByteArray, p = ⟨(be 2 (text.length)).toArray⟩ := ⟨_, rfl⟩
    rw [← hq2] at N2 z2
    have v2 := Nat.le_of_eq z2
    have HQ2 := Lib.hid hq2
    clear hq2 z2
    have hfin : Hid (p0 ++ p1 ++ q0 ++ q1 ++ q2 ++ ⟨text.toArray⟩ = (⟨(Od.enc ⟨8, page, a, f, text, rows, pk, lv, nx⟩).toArray⟩ : ByteArray)) := by
      show _ = _
      rw [HP0.out, HP1.out, HQ0.out, HQ1.out, HQ2.out]
      apply bytes_ext
      simp only [ByteArray.data_append, Array.toList_append, Od.enc, pieceB]
      (try simp)
    have e2 := ext_cell x2 g0
    have e3 := ext_cell x3 g0
    have e4 := ext_cell x4 g0
    have v9 : (⟨text.toArray⟩ : ByteArray).size ≤ 488 := by omega
    go_upto_region 14 with fail
    refine wp_region_ext w1.heap.size (by kernel_rfl) (by kernel_rfl) ?_
    repeat (go_big_quiet_step (first
        | (go_at_call_of 62 (Value.int .i64 (a : Int)); exact ext_call _ (Nat.le_refl _) (N0.out _))
        | (go_at_call_of 62 (Value.int .i64 (f : Int)); exact ext_call _ (Nat.le_refl _) (N1.out _))
        | (go_at_call_of 62 (Value.int .i64 (text.length : Int)); exact ext_call _ (Nat.le_refl _) (N2.out _))))
    refine wpQuiet_nil ?_
    rintro _ ⟨Y, rfl⟩
    have B2 := Lib.hid (below_then BW.out Y.below)
    generalize Y.val = w2 at *
    go_wp2_with fail
    go_ret
    exact ⟨ret_str1 hfin.out, B2.out⟩

end Go.Proofs.Ytjcfnfpilladfaa
