/- page.Encode by pgEnc -/
import Derived.Test.YtienlhnbmobinaaRows
import Derived.Test.YtienlhnbmobinaaPageAll
import Derived.Test.YtienlhnbmobinaaPageHead
import Derived.Test.YtienlhnbmobinaaPagePlain
import Derived.Test.YtienlhnbmobinaaSum
import Derived.Test.YtienlhnbmobinaaSlotAlive
import Derived.Test.YtienlhnbmobinaaSlotPut
import Derived.Test.YtienlhnbmobinaaSlotRoot
import Derived.Test.YtienlhnbmobinaaBase
import Derived.Test.YtienlhnbmobinaaPlains
import Derived.Test.YtienlhnbmobinaaTextsP
import Derived.Test.YtienlhnbmobinaaWordWalks
import Derived.Deep.CutBlock
import Derived.WalkKit
import Derived.WalkLawsBesides
import Derived.WalkSpells
import Derived.LoopTactic
import Derived.WalkMore
import Derived.LoopN
import Derived.Laws.BitsAllLaws
import Derived.Laws.IdiomStrings
import Derived.BigQuiet
import Derived.Deep.QuietTactic
import Derived.Deep.DeepCutAuto
import Derived.Deep.RegionHeld3
import Derived.Deep.DrawnRows
import Derived.Lib.Hide
import Derived.Outline
import Derived.Deep.DeepMust
import Derived.Handy
namespace Go.Proofs.Ytienlhnbmobinaa
open Go.RowKit
set_option linter.unusedVariables false
set_option linter.unusedSimpArgs false

set_option maxHeartbeats 8000000 in
set_option maxRecDepth 100000 in
theorem pageEncode_any (p : Pg) (sv : Value) (w : World) (hp : p.wf) (ht : TextsAt w sv p.rows) (hb : weightB p.rows ≤ 1000000) :
    Calls Try.prog 44 #[pgV p sv] w fun e w' => e = .returned (.tuple #[.string ⟨(pgEnc p).1.toArray⟩, .int .i64 (pgEnc p).2]) ∧ Below w.heap.size w w' := by
  have MY := Lib.hid fun W (hW : TextsAt W sv p.rows) => pageMay_any p sv W hp hW hb
  have HT := Lib.hid ht
  obtain ⟨kind, level, id, lsn, next, rows⟩ := p
  obtain ⟨A, cp, rfl, h2, h3, h4, h5⟩ := ht
  obtain ⟨n, hn⟩ : ∃ n, n = rows.length := ⟨_, rfl⟩
  simp only at *
  rw [← hn] at HT MY h2 ⊢
  have HN := Lib.hid hn
  have HP := Lib.hid hp
  have H5 := Lib.hid h5
  obtain ⟨my, hmy⟩ : ∃ b, b = (Pg.may ⟨kind, level, id, lsn, next, rows⟩) := ⟨_, rfl⟩
  rw [← hmy] at MY
  obtain ⟨R, hR⟩ : ∃ R, R = pgEnc ⟨kind, level, id, lsn, next, rows⟩ := ⟨_, rfl⟩
  rw [← hR]
  have HR : Hid (R = if my = true then (encPg ⟨kind, level, id, lsn, next, rows⟩, 0) else ([], 2)) := by show _ = _; rw [hR, hmy]; rfl
  have HMY := Lib.hid hmy
  clear hR hmy hn hp h4 h5
  unfold pgV at MY ⊢
  simp only at MY ⊢
  unfold maxLen at h3
  have P0 := Lib.hid (PgBox.new w kind level id lsn next (.slice A n cp))
  have B0 := Lib.hid (alloc_below w (.cells #[.int .u8 kind, .int .u8 level, .int .u32 id, .int .u64 lsn, .int .u32 next, .slice A n cp] 26))
  go_enter Try.func44, Try.ntmps44
  go_upto_region 1 with fail
  generalize w.alloc (.cells #[.int .u8 kind, .int .u8 level, .int .u32 id, .int .u64 lsn, .int .u32 next, .slice A n cp] 26) = w0 at *
  obtain ⟨pl, p0, p1, p2, p3, p4, p5⟩ := P0.out.cells
  go_wp2_with fail
  refine (MY.out _ (HT.out.below B0.out)).mono ?_
  rintro e w1 ⟨rfl, hb1⟩
  have B1 := Lib.hid (below_then B0.out hb1)
  have P1 := Lib.hid (P0.out.below hb1)
  clear hb1 pl p0 p1 p2 p3 p4 p5 P0 B0 MY
  cases hm : my with
  | false =>
    have HX : Hid (R = ([], 2)) := by show _ = _; rw [HR.out, hm]; rfl
    go_wp2_with fail
    go_ret2
    exact ⟨by rw [HX.out]; rfl, B1.out⟩
  | true =>
    have HX : Hid (R = (encPg ⟨kind, level, id, lsn, next, rows⟩, 0)) := by show _ = _; rw [HR.out, hm]; rfl
    have hmay := HMY.out
    rw [hm] at hmay
    have HMAY := Lib.hid hmay.symm
    clear hmay hm HR HMY
    obtain ⟨pl, p0, p1, p2, p3, p4, p5⟩ := P1.out.cells
    have hbA := alloc_below w1 (.cells #[.int .u8 kind, .int .u8 level, .int .u32 id, .int .u64 lsn, .int .u32 next, .slice A n cp, .string ⟨#[]⟩, .int .i64 0, .bool false, .bool false] 130)
    have D2 : Hid (HdAt (w1.alloc (.cells #[.int .u8 kind, .int .u8 level, .int .u32 id, .int .u64 lsn, .int .u32 next, .slice A n cp, .string ⟨#[]⟩, .int .i64 0, .bool false, .bool false] 130)) w1.heap.size kind level id lsn next (.slice A n cp) [] 0 false false) := Lib.hid (heap_alloc_new w1 _)
    have P2 := Lib.hid (P1.out.below hbA)
    have B2 := Lib.hid (below_then B1.out hbA)
    have hg1 : w.heap.size < w1.heap.size := pl
    go_upto_region 4 with fail
    generalize hw2 : w1.alloc (.cells #[.int .u8 kind, .int .u8 level, .int .u32 id, .int .u64 lsn, .int .u32 next, .slice A n cp, .string ⟨#[]⟩, .int .i64 0, .bool false, .bool false] 130) = w2 at *
    have hs2 : w1.heap.size < w2.heap.size := by rw [← hw2]; simp
    clear hbA hw2 pl p0 p1 p2 p3 p4 p5 P1
    have C3 := Lib.hid (headW_any w2 w1.heap.size kind level id lsn next (.slice A n cp) D2.out (by have h := HP.out; unfold Pg.wf at h; exact h))
    rw [hS_head ⟨kind, level, id, lsn, next, rows⟩] at C3
    go_wp2_with fail
    refine C3.out.mono ?_
    rintro e w3 ⟨rfl, h1, h2⟩
    have D3 := Lib.hid h1
    have P3 := Lib.hid (P2.out.kept h2 (by omega))
    have B3 := Lib.hid (OthersKept.below B2.out h2 (fun k hk e => by have e2 : k = w1.heap.size := e; omega))
    have hs3 : w1.heap.size < w3.heap.size := h1.lt
    clear h1 h2 C3 D2 P2 B2
    go_wp2_with fail
    refine (newA 488 w3 (by omega) (by omega)).mono ?_
    rintro e w4 ⟨gA, gB, rfl, hgA, hgB, hA4, hb4⟩
    have A4 := Lib.hid hA4
    have D4 := Lib.hid (D3.out.below hb4)
    have P4 := Lib.hid (P3.out.below hb4)
    have B4 := Lib.hid (below_then B3.out hb4)
    clear hA4 hb4 D3 P3 B3
    obtain ⟨pl, p0, p1, p2, p3, p4, p5⟩ := P4.out.cells
    have hw484 := Lib.hid (may_weight HMAY.out)
    go_wp2_with fail
    clear pl p0 p1 p2 p3 p4 p5
    go_loopw [7, 8, 9, 28] (fun s7 s8 s9 s28 wr => ∃ k : Nat, s28 = .int .i64 k ∧ k ≤ n ∧ Hid (ArAt wr gA gB 488 (fillAr rows k)) ∧ Hid (HdAt wr w1.heap.size kind level id lsn next (.slice A n cp) (headB ⟨kind, level, id, lsn, next, rows⟩) 0 false false) ∧ Hid (Below w.heap.size w wr)) (fun _ _ _ v _ => n - (intOf v).toNat)
    case atStart => exact ⟨0, rfl, Nat.zero_le _, A4, D4, B4⟩
    case round =>
      obtain ⟨k, rfl, hk, HA, HD, HB⟩ := hrel
      clear A4 D4 B4 P4
      by_cases hkn : k < n
      · have hki : (k : Int) < (n : Int) := by omega
        have hk0 : (0 : Int) ≤ (k : Int) := by omega
        have hkr : k < rows.length := by rw [← HN.out]; exact hkn
        obtain ⟨b0, o0, rfl, hb0, hcell⟩ := H5.out (by omega)
        have c0 := keep_cell HB.out (hcell k hkr)
        have FP := Lib.hid (fill_put rows hw484.out k hkr)
        have FO := Lib.hid (fill_ok rows hw484.out k (by omega))
        have hwm := weightB_mem (List.getElem_mem hkr)
        have hw9 := hw484.out
        have PA := Lib.hid fun W (hW : ArAt W gA gB 488 (fillAr rows k)) => putA gA gB 488 (k : Nat) (fillAr rows k) ⟨rows[k].toArray⟩ W FO.out.1 (by show rows[k].toArray.size ≤ _; simp; omega) hW
        have e9 : (⟨rows[k].toArray⟩ : ByteArray).data.toList = rows[k] := rfl
        rw [e9, FP.out] at PA
        simp only at PA
        clear hcell FP FO hwm hw9 e9
        generalize rows[k] = r at *
        go_wp2_with fail
        refine (PA.out _ HA.out).mono ?_
        rintro e w5 ⟨rfl, h1, h2⟩
        have A5 := Lib.hid h1
        have D5 := Lib.hid (show HdAt w5 w1.heap.size kind level id lsn next (.slice (some ⟨b0, o0, none⟩) n cp) (headB ⟨kind, level, id, lsn, next, rows⟩) 0 false false from (h2.block _ HD.out.lt (fun e => by injection e with e; omega)).trans HD.out)
        have B5 := Lib.hid (grown_new HB.out h2 (by omega))
        clear h1 h2 PA c0
        go_wp2_with fail
        go_roundw
        case rel => exact ⟨k + 1, by go_num, by omega, A5, D5, B5⟩
        case measure => simp [intOf] <;> omega
      · obtain rfl : k = n := by omega
        have FO := fill_ok rows hw484.out k (by rw [HN.out]; exact Nat.le_refl _)
        have hfit := FO.1.fit
        have hel : (fillAr rows k).enc.length = 488 := by rw [Ar.enc_length _ (by have := FO.1.f; have := FO.1.l; omega), FO.2.2.2.1]
        have hhl := headB_length ⟨kind, level, id, lsn, next, rows⟩
        have hbare : Hid (R = (sealed (headB ⟨kind, level, id, lsn, next, rows⟩ ++ (fillAr rows k).enc), 0)) := by
          show _ = _
          rw [HX.out, HN.out]; rfl
        obtain ⟨d0, d1, d2, d3, d4, d5, d6, d7, d8, d9⟩ := HD.out.cells
        have x6 := ext_cell d6 HD.out.lt
        have BY := Lib.hid fun (y : Ext wr.heap.size wr) => bytesA gA gB 488 (fillAr rows k) y.val hfit (HA.out.below y.below)
        have BW := Lib.hid fun W (hW : Below wr.heap.size wr W) => below_then HB.out hW
        clear FO hfit d0 d1 d2 d3 d4 d5 d6 d7 d8 d9 HX HA HD HB
        generalize headB ⟨kind, level, id, lsn, next, rows⟩ = H at *
        generalize (fillAr rows k).enc = E at *
        have SE := Lib.hid fun (y : Ext wr.heap.size wr) => seal_any (H ++ E) y.val (by rw [List.length_append]; omega)
        rw [← byt_app] at SE
        have hcat : ¬ 9223372036854775807 < H.length + E.length := by omega
        have hcat2 : H.length + E.length ≤ maxLen := by unfold maxLen; omega
        generalize sealed (H ++ E) = Z at *
        go_upto_region 15 with fail
        refine wp_region_ext wr.heap.size (by kernel_rfl) (by kernel_rfl) ?_
        repeat (go_big_quiet_step (first
          | (go_at_call 99; exact ext_call _ (Nat.le_refl _) (BY.out _))
          | (go_at_call 98; exact ext_call _ (Nat.le_refl _) (SE.out _))))
        refine wpQuiet_nil ?_
        rintro _ ⟨X, rfl⟩
        have XB := Lib.hid (BW.out _ X.below)
        go_wp2_with fail
        go_ret2
        exact ⟨by rw [hbare.out]; rfl, XB.out⟩

end Go.Proofs.Ytienlhnbmobinaa
