/- chapter 16: Is, Count, Free -/
import Derived.Test.YtienlhnbmobinaaRows
import Derived.Test.YtienlhnbmobinaaSpacePatch
import Derived.Test.YtienlhnbmobinaaSpaceOp
import Derived.Test.YtienlhnbmobinaaSpaceAll
import Derived.Test.YtienlhnbmobinaaLoneW
import Derived.Test.YtienlhnbmobinaaSpaceNums
import Derived.Test.YtienlhnbmobinaaSpaceFree
import Derived.Test.YtienlhnbmobinaaSpaceCheck
import Derived.Test.YtienlhnbmobinaaSpaceBit
import Derived.Test.YtienlhnbmobinaaSpacePlain
import Derived.Test.YtienlhnbmobinaaOpSame
import Derived.Test.YtienlhnbmobinaaOpPart
import Derived.Test.YtienlhnbmobinaaOpRead
import Derived.Test.YtienlhnbmobinaaOpPlain
import Derived.Test.YtienlhnbmobinaaPlains
import Derived.Test.YtienlhnbmobinaaBase
import Derived.Test.YtienlhnbmobinaaTextsP
import Derived.Test.YtienlhnbmobinaaPgStore
import Derived.Conc.LoneCalls
import Derived.Defers
import Derived.WalkKit
import Derived.WalkLawsBesides
import Derived.WalkSpells
import Derived.LoopTactic
import Derived.WalkMore
import Derived.LoopN
import Derived.Laws.BitsAllLaws
import Derived.Laws.IdiomStrings
import Derived.BigQuiet
import Derived.Deep.QuietTactic
import Derived.Deep.DeepCutAuto
import Derived.Deep.RegionHeld3
import Derived.Deep.DrawnRows
import Derived.Lib.Hide
import Derived.Outline
import Derived.Deep.DeepMust
import Derived.Handy
namespace Go.Proofs.Ytienlhnbmobinaa
open Go.RowKit
set_option linter.unusedVariables false
set_option linter.unusedSimpArgs false

set_option maxHeartbeats 4000000 in
set_option maxRecDepth 100000 in
theorem spaceIs_any (p : Pg) (sv : Value) (n0 : Nat) (w : World) (hp : p.wf) (ht : TextsAt w sv p.rows) (hb : weightB p.rows ≤ 1000000) :
    Calls Try.prog 29 #[pgV p sv, .int .u32 n0] w fun e w' => e = .returned (.bool (isB p n0)) ∧ Below w.heap.size w w' := by
  have CK := Lib.hid fun W (hW : TextsAt W sv p.rows) => spaceCheck_any p sv W hp hW hb
  have HT := Lib.hid ht
  obtain ⟨n, hn⟩ : ∃ n, n = p.rows.length := ⟨_, rfl⟩
  obtain ⟨A, cp, hsv, h2, h3, h4, h5⟩ := ht
  rw [← hn] at hsv h2
  subst hsv
  unfold maxLen at h3
  have HN := Lib.hid hn
  clear h4 h5 hn hb
  obtain ⟨kind, level, id, lsn, next, rows⟩ := p
  simp only at HT HN h2
  obtain ⟨mp, hmp⟩ : ∃ m, m = mapB ⟨kind, level, id, lsn, next, rows⟩ := ⟨_, rfl⟩
  have HM := Lib.hid hmp
  have hck : chkB ⟨kind, level, id, lsn, next, rows⟩ = if mp then 0 else 60 := by rw [hmp]; rfl
  rw [hck] at CK
  have P0 := Lib.hid (PgBox.new w kind level id lsn next (.slice A n cp))
  have B0 := Lib.hid (alloc_below w (.cells #[.int .u8 kind, .int .u8 level, .int .u32 id, .int .u64 lsn, .int .u32 next, .slice A n cp] 26))
  have T0 := Lib.hid (HT.out.below B0.out)
  unfold pgV at CK ⊢
  simp only at CK ⊢
  clear hmp hck hp
  cases mp
  case false =>
    have HR : Hid (isB ⟨kind, level, id, lsn, next, rows⟩ n0 = false) := by show _ = _; unfold isB; rw [← HM.out]; rfl
    have hk : (((if false = true then 0 else 60 : Int)) == 0) = false := rfl
    go_enter Try.func29, Try.ntmps29
    go_upto_region 1 with fail
    generalize w.alloc (.cells #[.int .u8 kind, .int .u8 level, .int .u32 id, .int .u64 lsn, .int .u32 next, .slice A n cp] 26) = w0 at *
    obtain ⟨x0, x1, x2, x3, x4, x5, x6⟩ := P0.out.cells
    go_wp2_with fail
    refine (CK.out _ T0.out).mono ?_
    rintro e w1 ⟨rfl, hb⟩
    have B1 := Lib.hid (below_then B0.out hb)
    clear hb
    go_wp2_with fail
    go_ret
    exact ⟨by rw [HR.out]; rfl, B1.out⟩
  have hk : (((if true = true then 0 else 60 : Int)) == 0) = true := rfl
  obtain ⟨r, hr⟩ : ∃ r, rows = [r] := map_row HM.out
  subst hr
  have hl128 := map_len HM.out
  simp only [mapRow, List.getD_cons_zero] at hl128
  have hn1 : n = 1 := by rw [HN.out]; rfl
  subst hn1
  have BT := Lib.hid fun W (h1 : 1 ≤ n0) (h2 : n0 ≤ 1024) => spaceBit_any r n0 W hl128 h1 h2
  clear hl128
  by_cases h1 : 1 ≤ n0
  case neg =>
    obtain rfl : n0 = 0 := by omega
    have HR : Hid (isB ⟨kind, level, id, lsn, next, [r]⟩ 0 = true) := by show _ = _; unfold isB; rw [← HM.out]; rfl
    go_enter Try.func29, Try.ntmps29
    go_upto_region 1 with fail
    generalize w.alloc (.cells #[.int .u8 kind, .int .u8 level, .int .u32 id, .int .u64 lsn, .int .u32 next, .slice A 1 cp] 26) = w0 at *
    obtain ⟨x0, x1, x2, x3, x4, x5, x6⟩ := P0.out.cells
    go_wp2_with fail
    refine (CK.out _ T0.out).mono ?_
    rintro e w1 ⟨rfl, hb⟩
    have B1 := Lib.hid (below_then B0.out hb)
    clear hb
    go_wp2_with fail
    go_ret
    exact ⟨by rw [HR.out]; rfl, B1.out⟩
  have q1 : ¬ (n0 : Int) < 1 := by omega
  by_cases h2' : n0 ≤ 1024
  case neg =>
    have HR : Hid (isB ⟨kind, level, id, lsn, next, [r]⟩ n0 = true) := by show _ = _; unfold isB; rw [← HM.out]; simp; omega
    have q2 : (1024 : Int) < (n0 : Int) := by omega
    go_enter Try.func29, Try.ntmps29
    go_upto_region 1 with fail
    generalize w.alloc (.cells #[.int .u8 kind, .int .u8 level, .int .u32 id, .int .u64 lsn, .int .u32 next, .slice A 1 cp] 26) = w0 at *
    obtain ⟨x0, x1, x2, x3, x4, x5, x6⟩ := P0.out.cells
    go_wp2_with fail
    refine (CK.out _ T0.out).mono ?_
    rintro e w1 ⟨rfl, hb⟩
    have B1 := Lib.hid (below_then B0.out hb)
    clear hb
    go_wp2_with fail
    go_ret
    exact ⟨by rw [HR.out]; rfl, B1.out⟩
  have q2 : ¬ (1024 : Int) < (n0 : Int) := by omega
  have HR : Hid (isB ⟨kind, level, id, lsn, next, [r]⟩ n0 = bitB r (n0 - 1)) := by
    show _ = _
    unfold isB
    rw [← HM.out]
    have e1 : decide (n0 < 1) = false := decide_eq_false (by omega)
    have e2 : decide (1024 < n0) = false := decide_eq_false (by omega)
    rw [e1, e2]
    rfl
  have q3 : decide ((n0 : Int) < 1) = false := decide_eq_false (by omega)
  have q4 : decide ((1024 : Int) < (n0 : Int)) = false := decide_eq_false (by omega)
  have BTX := Lib.hid fun W => BT.out W h1 h2'
  obtain ⟨bt, hbt⟩ : ∃ b, b = bitB r (n0 - 1) := ⟨_, rfl⟩
  rw [← hbt] at HR BTX
  clear hbt BT
  go_enter Try.func29, Try.ntmps29
  go_upto_region 1 with fail
  generalize w.alloc (.cells #[.int .u8 kind, .int .u8 level, .int .u32 id, .int .u64 lsn, .int .u32 next, .slice A 1 cp] 26) = w0 at *
  obtain ⟨x0, x1, x2, x3, x4, x5, x6⟩ := P0.out.cells
  go_wp2_with fail
  refine (CK.out _ T0.out).mono ?_
  rintro e w1 ⟨rfl, hb⟩
  have B1 := Lib.hid (below_then B0.out hb)
  have P1 := Lib.hid (P0.out.below hb)
  have T1 := Lib.hid (T0.out.below hb)
  clear hb x0 x1 x2 x3 x4 x5 x6 P0 T0
  obtain ⟨x0, x1, x2, x3, x4, x5, x6⟩ := P1.out.cells
  obtain ⟨_, _, hvv, _, _, _, hcc⟩ := T1.out
  obtain ⟨b, o, hA, hbl, hcell⟩ := hcc (by simp)
  cases hvv
  cases hA
  have c0 := hcell 0 (by simp)
  simp only [Nat.add_zero, List.getElem_cons_zero] at c0
  clear hcell hcc
  go_wp2_with fail
  refine (BTX.out _).mono ?_
  rintro e w2 ⟨rfl, rfl⟩
  go_wp2_with fail
  go_ret
  exact ⟨by rw [HR.out]; rfl, B1.out⟩
set_option maxHeartbeats 4000000 in
set_option maxRecDepth 100000 in
theorem spaceCount_any (p : Pg) (sv : Value) (w : World) (hp : p.wf) (ht : TextsAt w sv p.rows) (hb : weightB p.rows ≤ 1000000) :
    Calls Try.prog 36 #[pgV p sv] w fun e w' => e = .returned (.tuple #[.int .i64 ((countB p).1 : Nat), .int .i64 ((countB p).2 : Nat)]) ∧ Below w.heap.size w w' := by
  have CK := Lib.hid fun W (hW : TextsAt W sv p.rows) => spaceCheck_any p sv W hp hW hb
  have AL := Lib.hid fun W (hW : TextsAt W sv p.rows) => spaceAll_any p sv W hp hW hb
  have HT := Lib.hid ht
  obtain ⟨n, hn⟩ : ∃ n, n = p.rows.length := ⟨_, rfl⟩
  obtain ⟨A, cp, hsv, h2, h3, h4, h5⟩ := ht
  rw [← hn] at hsv h2
  subst hsv
  unfold maxLen at h3
  have HN := Lib.hid hn
  clear h4 h5 hn hb
  obtain ⟨kind, level, id, lsn, next, rows⟩ := p
  simp only at HT HN h2
  obtain ⟨mp, hmp⟩ : ∃ m, m = mapB ⟨kind, level, id, lsn, next, rows⟩ := ⟨_, rfl⟩
  have HM := Lib.hid hmp
  have hck : chkB ⟨kind, level, id, lsn, next, rows⟩ = if mp then 0 else 60 := by rw [hmp]; rfl
  rw [hck] at CK
  have P0 := Lib.hid (PgBox.new w kind level id lsn next (.slice A n cp))
  have B0 := Lib.hid (alloc_below w (.cells #[.int .u8 kind, .int .u8 level, .int .u32 id, .int .u64 lsn, .int .u32 next, .slice A n cp] 26))
  have T0 := Lib.hid (HT.out.below B0.out)
  unfold pgV at CK ⊢
  simp only at CK ⊢
  clear hmp hck hp
  unfold pgV at AL
  simp only at AL
  have hlen := free_len ⟨kind, level, id, lsn, next, rows⟩
  have HC : Hid (countB ⟨kind, level, id, lsn, next, rows⟩ = if mp then (1024 - (freeL ⟨kind, level, id, lsn, next, rows⟩).length, (freeL ⟨kind, level, id, lsn, next, rows⟩).length) else (0, 0)) := by show _ = _; unfold countB; rw [← HM.out]
  go_enter Try.func36, Try.ntmps36
  go_upto_region 1 with fail
  generalize w.alloc (.cells #[.int .u8 kind, .int .u8 level, .int .u32 id, .int .u64 lsn, .int .u32 next, .slice A n cp] 26) = w0 at *
  obtain ⟨x0, x1, x2, x3, x4, x5, x6⟩ := P0.out.cells
  go_wp2_with fail
  refine (CK.out _ T0.out).mono ?_
  rintro e w1 ⟨rfl, hb⟩
  have B1 := Lib.hid (below_then B0.out hb)
  have P1 := Lib.hid (P0.out.below hb)
  have T1 := Lib.hid (T0.out.below hb)
  clear hb x0 x1 x2 x3 x4 x5 x6 P0 T0
  cases mp
  case false =>
    have hk : (((if false = true then 0 else 60 : Int)) != 0) = true := rfl
    go_wp2_with fail
    go_ret2
    exact ⟨by rw [HC.out]; rfl, B1.out⟩
  have hk : (((if true = true then 0 else 60 : Int)) != 0) = false := rfl
  obtain ⟨x0, x1, x2, x3, x4, x5, x6⟩ := P1.out.cells
  go_wp2_with fail
  refine (AL.out _ T1.out).mono ?_
  rintro e w2 ⟨v, rfl, hv, hb⟩
  have B2 := Lib.hid (below_then B1.out hb)
  obtain ⟨A2, c2, rfl, _, _⟩ := hv.zero
  obtain ⟨L, hL⟩ : ∃ L, L = freeL ⟨kind, level, id, lsn, next, rows⟩ := ⟨_, rfl⟩
  rw [← hL] at HC hlen ⊢
  have hsub : (1024 : Int) - (L.length : Int) = ((1024 - L.length : Nat) : Int) := by omega
  have HS := Lib.hid hsub
  clear hb hv hL hsub x0 x1 x2 x3 x4 x5 x6
  go_wp2_with fail
  rw [HS.out]
  go_ret2
  exact ⟨by rw [HC.out]; rfl, B2.out⟩
set_option maxHeartbeats 4000000 in
set_option maxRecDepth 100000 in
theorem spaceGive_any (p : Pg) (sv : Value) (n0 : Nat) (w : World) (hp : p.wf) (ht : TextsAt w sv p.rows) (hb : weightB p.rows ≤ 1000000) :
    Calls Try.prog 27 #[pgV p sv, .int .u32 n0] w fun e w' => e = .returned (.tuple #[odV (giveB p n0).1 (.slice none 0 0), .int .i64 (giveB p n0).2]) ∧ Below w.heap.size w w' := by
  have CK := Lib.hid fun W (hW : TextsAt W sv p.rows) => spaceCheck_any p sv W hp hW hb
  have PT := Lib.hid fun W (hm : mapB p = true) (hW : TextsAt W sv p.rows) (h1 : 1 ≤ n0) (h2 : n0 ≤ 1024) => spacePatch_any p sv n0 W hm hW h1 h2
  have HT := Lib.hid ht
  obtain ⟨n, hn⟩ : ∃ n, n = p.rows.length := ⟨_, rfl⟩
  obtain ⟨A, cp, hsv, h2, h3, h4, h5⟩ := ht
  rw [← hn] at hsv h2
  subst hsv
  unfold maxLen at h3
  have HN := Lib.hid hn
  clear h4 h5 hn hb
  obtain ⟨kind, level, id, lsn, next, rows⟩ := p
  simp only at HT HN h2
  obtain ⟨mp, hmp⟩ : ∃ m, m = mapB ⟨kind, level, id, lsn, next, rows⟩ := ⟨_, rfl⟩
  have HM := Lib.hid hmp
  have hck : chkB ⟨kind, level, id, lsn, next, rows⟩ = if mp then 0 else 60 := by rw [hmp]; rfl
  rw [hck] at CK
  have P0 := Lib.hid (PgBox.new w kind level id lsn next (.slice A n cp))
  have B0 := Lib.hid (alloc_below w (.cells #[.int .u8 kind, .int .u8 level, .int .u32 id, .int .u64 lsn, .int .u32 next, .slice A n cp] 26))
  have T0 := Lib.hid (HT.out.below B0.out)
  unfold pgV at CK ⊢
  simp only at CK ⊢
  clear hmp hck hp
  unfold pgV at PT
  simp only at PT
  have O0 := Lib.hid (OAt.new (w.alloc (.cells #[.int .u8 kind, .int .u8 level, .int .u32 id, .int .u64 lsn, .int .u32 next, .slice A n cp] 26)) Od.zero (.slice none 0 0))
  have hz1 : (w.alloc (.cells #[.int .u8 kind, .int .u8 level, .int .u32 id, .int .u64 lsn, .int .u32 next, .slice A n cp] 26)).heap.size = w.heap.size + 1 := by simp
  rw [hz1] at O0
  have O0 : Hid (OAt ((w.alloc (.cells #[.int .u8 kind, .int .u8 level, .int .u32 id, .int .u64 lsn, .int .u32 next, .slice A n cp] 26)).alloc (.cells #[.int .u8 0, .int .u32 0, .int .i64 0, .int .i64 0, .string ⟨#[]⟩, .slice none 0 0, .int .u8 0, .int .u8 0, .int .u32 0] 28)) (w.heap.size + 1) Od.zero (.slice none 0 0)) := O0
  have hb1 := alloc_below (w.alloc (.cells #[.int .u8 kind, .int .u8 level, .int .u32 id, .int .u64 lsn, .int .u32 next, .slice A n cp] 26)) (.cells #[.int .u8 0, .int .u32 0, .int .i64 0, .int .i64 0, .string ⟨#[]⟩, .slice none 0 0, .int .u8 0, .int .u8 0, .int .u32 0] 28)
  have P1 := Lib.hid (P0.out.below hb1)
  have B1 := Lib.hid (below_then B0.out hb1)
  have T1 := Lib.hid (T0.out.below hb1)
  clear hz1 hb1 P0 B0 T0
  go_enter Try.func27, Try.ntmps27
  go_upto_region 1 with fail
  generalize (w.alloc (.cells #[.int .u8 kind, .int .u8 level, .int .u32 id, .int .u64 lsn, .int .u32 next, .slice A n cp] 26)).alloc (.cells #[.int .u8 0, .int .u32 0, .int .i64 0, .int .i64 0, .string ⟨#[]⟩, .slice none 0 0, .int .u8 0, .int .u8 0, .int .u32 0] 28) = w0 at *
  obtain ⟨x0, x1, x2, x3, x4, x5, x6⟩ := P1.out.cells
  go_wp2_with fail
  refine (CK.out _ T1.out).mono ?_
  rintro e w1 ⟨rfl, hb⟩
  have B1 := Lib.hid (below_then B1.out hb)
  have P1 := Lib.hid (P1.out.below hb)
  have T1 := Lib.hid (T1.out.below hb)
  have O1 := Lib.hid (O0.out.under hb)
  clear hb x0 x1 x2 x3 x4 x5 x6 O0
  cases mp
  case false =>
    have HR : Hid (giveB ⟨kind, level, id, lsn, next, rows⟩ n0 = (Od.zero, 60)) := by show _ = _; unfold giveB; rw [← HM.out]; rfl
    have hk : (((if false = true then 0 else 60 : Int)) != 0) = true := rfl
    go_wp2_with (refine wpList_store_op rfl (.tmp 4) (.tmp 12) rfl O1.out Od.zero none 0 0 (by rfl) (by rfl) ?_; intro wS hO hK; have OS := Lib.hid hO; have KS := Lib.hid hK; clear hO hK)
    refine bodyPost_ret (results_op2 (p := 4) (u := 5) (o := Od.zero) (sv := .slice none 0 0) (by kernel_rfl) _ _ rfl OS.out) rfl ?_
    exact ⟨by rw [HR.out]; rfl, OthersKept.below B1.out KS.out (fun k hk e => by omega)⟩
  have hk : (((if true = true then 0 else 60 : Int)) != 0) = false := rfl
  obtain ⟨r, hr⟩ : ∃ r, rows = [r] := map_row HM.out
  subst hr
  have hl128 := map_len HM.out
  simp only [mapRow, List.getD_cons_zero] at hl128
  have hn1 : n = 1 := by rw [HN.out]; rfl
  subst hn1
  have BT := Lib.hid fun W (h1 : 1 ≤ n0) (h2 : n0 ≤ 1024) => spaceBit_any r n0 W hl128 h1 h2
  have MB : Hid (mapB ⟨kind, level, id, lsn, next, [r]⟩ = true) := Lib.hid HM.out.symm
  have G0 : Hid (giveB ⟨kind, level, id, lsn, next, [r]⟩ n0 = if n0 < 1 ∨ 1024 < n0 ∨ n0 = id then (Od.zero, 2) else if bitB r (n0 - 1) then (patchO ⟨kind, level, id, lsn, next, [r]⟩ n0, 0) else (Od.zero, 3)) := by
    show _ = _; unfold giveB; rw [← HM.out]; rfl
  clear hl128
  obtain ⟨x0, x1, x2, x3, x4, x5, x6⟩ := P1.out.cells
  by_cases h1 : 1 ≤ n0
  case neg =>
    have HR : Hid (giveB ⟨kind, level, id, lsn, next, [r]⟩ n0 = (Od.zero, 2)) := by show _ = _; rw [G0.out, if_pos (.inl (by omega))]
    obtain rfl : n0 = 0 := by omega
    have q1 : decide ((0 : Int) < 1) = true := rfl
    go_wp2_with (refine wpList_store_op rfl (.tmp 4) (.tmp 23) rfl O1.out Od.zero none 0 0 (by rfl) (by rfl) ?_; intro wS hO hK; have OS := Lib.hid hO; have KS := Lib.hid hK; clear hO hK)
    refine bodyPost_ret (results_op2 (p := 4) (u := 5) (o := Od.zero) (sv := .slice none 0 0) (by kernel_rfl) _ _ rfl OS.out) rfl ?_
    exact ⟨by rw [HR.out]; rfl, OthersKept.below B1.out KS.out (fun k hk e => by omega)⟩
  have q1 : decide ((n0 : Int) < 1) = false := decide_eq_false (by omega)
  by_cases h2' : n0 ≤ 1024
  case neg =>
    have HR : Hid (giveB ⟨kind, level, id, lsn, next, [r]⟩ n0 = (Od.zero, 2)) := by show _ = _; rw [G0.out, if_pos (.inr (.inl (by omega)))]
    have q2 : decide ((1024 : Int) < (n0 : Int)) = true := decide_eq_true (by omega)
    go_wp2_with (refine wpList_store_op rfl (.tmp 4) (.tmp 23) rfl O1.out Od.zero none 0 0 (by rfl) (by rfl) ?_; intro wS hO hK; have OS := Lib.hid hO; have KS := Lib.hid hK; clear hO hK)
    refine bodyPost_ret (results_op2 (p := 4) (u := 5) (o := Od.zero) (sv := .slice none 0 0) (by kernel_rfl) _ _ rfl OS.out) rfl ?_
    exact ⟨by rw [HR.out]; rfl, OthersKept.below B1.out KS.out (fun k hk e => by omega)⟩
  have q2 : decide ((1024 : Int) < (n0 : Int)) = false := decide_eq_false (by omega)
  by_cases h3' : n0 = id
  case pos =>
    have HR : Hid (giveB ⟨kind, level, id, lsn, next, [r]⟩ n0 = (Od.zero, 2)) := by show _ = _; rw [G0.out, if_pos (.inr (.inr h3'))]
    have q3 : ((n0 : Int) == (id : Int)) = true := by simp; omega
    clear h3'
    go_wp2_with (refine wpList_store_op rfl (.tmp 4) (.tmp 23) rfl O1.out Od.zero none 0 0 (by rfl) (by rfl) ?_; intro wS hO hK; have OS := Lib.hid hO; have KS := Lib.hid hK; clear hO hK)
    refine bodyPost_ret (results_op2 (p := 4) (u := 5) (o := Od.zero) (sv := .slice none 0 0) (by kernel_rfl) _ _ rfl OS.out) rfl ?_
    exact ⟨by rw [HR.out]; rfl, OthersKept.below B1.out KS.out (fun k hk e => by omega)⟩
  have q3 : ((n0 : Int) == (id : Int)) = false := by simp; omega
  have BTX := Lib.hid fun W => BT.out W h1 h2'
  have PTX := Lib.hid fun W hW => PT.out W MB.out hW h1 h2'
  have G1 : Hid (giveB ⟨kind, level, id, lsn, next, [r]⟩ n0 = if bitB r (n0 - 1) then (patchO ⟨kind, level, id, lsn, next, [r]⟩ n0, 0) else (Od.zero, 3)) := by show _ = _; rw [G0.out, if_neg (by omega)]
  obtain ⟨bt, hbt⟩ : ∃ b, b = bitB r (n0 - 1) := ⟨_, rfl⟩
  rw [← hbt] at G1 BTX
  obtain ⟨od, hod⟩ : ∃ o, o = patchO ⟨kind, level, id, lsn, next, [r]⟩ n0 := ⟨_, rfl⟩
  rw [← hod] at G1 PTX
  clear hbt hod BT PT G0 h3' CK
  obtain ⟨_, _, hvv, _, _, _, hcc⟩ := T1.out
  obtain ⟨b, o, hA, hbl, hcell⟩ := hcc (by simp)
  cases hvv
  cases hA
  have c0 := hcell 0 (by simp)
  simp only [Nat.add_zero, List.getElem_cons_zero] at c0
  clear hcell hcc
  go_wp2_with fail
  refine (BTX.out _).mono ?_
  rintro e w2 ⟨rfl, rfl⟩
  cases bt
  case false =>
    have HR : Hid (giveB ⟨kind, level, id, lsn, next, [r]⟩ n0 = (Od.zero, 3)) := by show _ = _; rw [G1.out]; rfl
    go_wp2_with (refine wpList_store_op rfl (.tmp 4) (.tmp 32) rfl O1.out Od.zero none 0 0 (by rfl) (by rfl) ?_; intro wS hO hK; have OS := Lib.hid hO; have KS := Lib.hid hK; clear hO hK)
    refine bodyPost_ret (results_op2 (p := 4) (u := 5) (o := Od.zero) (sv := .slice none 0 0) (by kernel_rfl) _ _ rfl OS.out) rfl ?_
    exact ⟨by rw [HR.out]; rfl, OthersKept.below B1.out KS.out (fun k hk e => by omega)⟩
  have HR : Hid (giveB ⟨kind, level, id, lsn, next, [r]⟩ n0 = (od, 0)) := by show _ = _; rw [G1.out]; rfl
  go_wp2_with fail
  refine (PTX.out _ T1.out).mono ?_
  rintro e w3 ⟨rfl, hb⟩
  have B2 := Lib.hid (below_then B1.out hb)
  have O2 := Lib.hid (O1.out.under hb)
  clear hb c0 x0 x1 x2 x3 x4 x5 x6
  unfold odV
  go_wp2_with (refine wpList_store_op rfl (.tmp 4) (.tmp 35) rfl O2.out od none 0 0 (by rfl) (by rfl) ?_; intro wS hO hK; have OS := Lib.hid hO; have KS := Lib.hid hK; clear hO hK)
  refine bodyPost_ret (results_op2 (p := 4) (u := 5) (o := od) (sv := .slice none 0 0) (by kernel_rfl) _ _ rfl OS.out) rfl ?_
  exact ⟨by rw [HR.out]; rfl, OthersKept.below B2.out KS.out (fun k hk e => by omega)⟩

end Go.Proofs.Ytienlhnbmobinaa
