/- Kept of our texts for this claim: UndoDecode UndoRefPlain -/
import Derived.Test.YtienlhnbmobinaaGreatRows
import Derived.Test.YtienlhnbmobinaaGreatAdAb
import Derived.Test.YtienlhnbmobinaaGreatAdAh
import Derived.Test.YtienlhnbmobinaaGreatAdAg
import Derived.WalkKit
import Derived.WalkLawsBesides
import Derived.WalkSpells
import Derived.LoopTactic
import Derived.WalkMore
import Derived.LoopN
import Derived.Laws.BitsAllLaws
import Derived.Laws.IdiomStrings
import Derived.BigQuiet
import Derived.Deep.QuietTactic
import Derived.Deep.DeepCutAuto
import Derived.Deep.RegionHeld3
import Derived.Deep.DrawnRows
import Derived.Lib.Hide
import Derived.Outline
import Derived.Deep.DeepMust
import Derived.Handy
section
/- undo.Decode: any bytes -/
namespace Go.Proofs.YtienlhnbmobinaaGreat
open Go.RowKit
set_option linter.unusedVariables false
set_option linter.unusedSimpArgs false
theorem decOk_may {l : List UInt8} (h : decOk l = true) : (dK l).length ≤ 48 ∧ (dV l).length ≤ 96 := by
  unfold decOk at h
  simp only [Bool.and_eq_true] at h
  have := mayRow_iff.1 h.2.1
  omega
set_option maxHeartbeats 8000000 in
set_option maxRecDepth 100000 in
theorem undoDecode_any (s : ByteArray) (w : World) (hs : s.size ≤ 1000000) :
    Calls Tryz.prog 28 #[.string s] w fun e w' => e = .returned (decUV s.data.toList) ∧ Below w.heap.size w w' := by
  have hlen : s.data.toList.length = s.size := by simp
  have l1 := rdNum_ltR s.data.toList 0 1
  have l2 := rdNum_ltR s.data.toList 1 8
  have l3 := rdNum_ltR s.data.toList 9 4
  have l4 := rdNum_ltR s.data.toList 13 2
  have C1 := Lib.hid fun W is hW => unext s w.heap.size 0 1 is w W hs (by omega) (by omega) (by omega) hW
  have C2 := Lib.hid fun W is hW => unext s w.heap.size 1 8 is w W hs (by omega) (by omega) (by omega) hW
  have C3 := Lib.hid fun W is hW => unext s w.heap.size 9 4 is w W hs (by omega) (by omega) (by omega) hW
  have C4 := Lib.hid fun W is hW => unext s w.heap.size 13 2 is w W hs (by omega) (by omega) (by omega) hW
  have hd0 := Lib.hid (USt.new w s)
  have hn1 : Hid (∃ n, rdNum s.data.toList 0 1 = n) := ⟨_, rfl⟩
  obtain ⟨n1, e1⟩ : ∃ n, rdNum s.data.toList 0 1 = n := ⟨_, rfl⟩
  obtain ⟨n2, e2⟩ : ∃ n, rdNum s.data.toList 1 8 = n := ⟨_, rfl⟩
  obtain ⟨n3, e3⟩ : ∃ n, rdNum s.data.toList 9 4 = n := ⟨_, rfl⟩
  obtain ⟨n4, e4⟩ : ∃ n, rdNum s.data.toList 13 2 = n := ⟨_, rfl⟩
  rw [e1] at C1 l1
  rw [e2] at C2 l2
  rw [e3] at C3 l3
  rw [e4] at C4 l4
  simp only [Nat.reducePow] at l1 l2 l3 l4
  have E1 := Lib.hid e1
  have E2 := Lib.hid e2
  have E3 := Lib.hid e3
  have E4 := Lib.hid e4
  have Hlen := Lib.hid hlen
  clear e1 e2 e3 e4 hn1 hlen
  have v1 : IntKind.u8.wrap (n1 : Int) = n1 := IntWalk.u8_in _ ⟨by omega, by omega⟩
  have v3 : IntKind.u32.wrap (n3 : Int) = n3 := IntWalk.u32_in _ ⟨by omega, by omega⟩
  have v4 : IntKind.u16.wrap (n4 : Int) = n4 := IntWalk.u16_in _ ⟨by omega, by omega⟩
  go_enter Tryz.func28, Tryz.ntmps28
  go_wp2_with fail
  refine (C1.out _ _ hd0.out).mono ?_
  rintro e w1 ⟨rfl, h1, z1, k1⟩
  clear C1 hd0 z1 k1
  go_wp2_with fail
  refine (C2.out _ _ h1).mono ?_
  rintro e w2 ⟨rfl, h2, z2, k2⟩
  clear C2 h1 z2 k2
  go_wp2_with fail
  have hx := heap_alloc_new w2 (.cells #[.int .u8 n1, .int .u64 n2, .int .u32 0, .int .u16 0, .string ⟨#[]⟩, .string ⟨#[]⟩, .bool false, .int .u64 0, .int .u32 0, .int .u16 0, .string ⟨#[]⟩, .int .i64 0] 34)
  have h2a := h2.alloc (.cells #[.int .u8 n1, .int .u64 n2, .int .u32 0, .int .u16 0, .string ⟨#[]⟩, .string ⟨#[]⟩, .bool false, .int .u64 0, .int .u32 0, .int .u16 0, .string ⟨#[]⟩, .int .i64 0] 34)
  have hX : w.heap.size + 4 ≤ w2.heap.size := h2.size
  have hlt : w2.heap.size < (w2.alloc (.cells #[.int .u8 n1, .int .u64 n2, .int .u32 0, .int .u16 0, .string ⟨#[]⟩, .string ⟨#[]⟩, .bool false, .int .u64 0, .int .u32 0, .int .u16 0, .string ⟨#[]⟩, .int .i64 0] 34)).heap.size := by simp
  refine (C3.out _ _ h2a).mono ?_
  rintro e w3 ⟨rfl, h3, z3, k3⟩
  have x3 := (k3 _ hX hlt).trans hx
  clear C3 h2 h2a z3 k3 hx hlt
  generalize w2.heap.size = X at *
  have c2 := blk_cell x3 2
  have f2 := blk_frozen x3 2
  have x3a := Lib.hid (blk_set x3 2 (.int .u32 n3))
  have h3a := Lib.hid (h3.set X 2 (.int .u32 n3) hX)
  clear h3 x3
  go_wp2_with fail
  refine (C4.out _ _ h3a.out).mono ?_
  rintro e w4 ⟨rfl, h4, z4, k4⟩
  have x4 := (k4 X hX (blk_lt x3a.out)).trans x3a.out
  clear C4 h3a z4 k4 x3a c2 f2
  have c3 := blk_cell x4 3
  have f3 := blk_frozen x4 3
  have x4a := blk_set x4 3 (.int .u16 n4)
  have h4a := h4.set X 3 (.int .u16 n4) hX
  have X4 := Lib.hid x4a
  have H4 := Lib.hid h4a
  clear x4a h4a x4 h4
  generalize hb4 : (_ && decide (13 + 2 ≤ s.size)) = b4 at H4
  have Hb4 := Lib.hid hb4
  clear hb4
  go_upto_region 6 with fail
  generalize w4.setCell ⟨X, 3, none⟩ (.int .u16 n4) = W4 at *
  clear c3 f3
  have ca := blk_cell H4.out.all 0
  have r0 := blk_cell H4.out.res 0
  have r1 := blk_cell H4.out.res 1
  have r2 := blk_cell H4.out.res 2
  have r3 := blk_cell H4.out.res 3
  have r4 := blk_cell H4.out.res 4
  have r5 := blk_cell H4.out.res 5
  have r6 := blk_cell H4.out.res 6
  have r7 := blk_cell H4.out.res 7
  have r8 := blk_cell H4.out.res 8
  have r9 := blk_cell H4.out.res 9
  have r10 := blk_cell H4.out.res 10
  have r11 := blk_cell H4.out.res 11
  have s0 := blk_frozen H4.out.res 0
  have s1 := blk_frozen H4.out.res 1
  have s2 := blk_frozen H4.out.res 2
  have s3 := blk_frozen H4.out.res 3
  have s4 := blk_frozen H4.out.res 4
  have s5 := blk_frozen H4.out.res 5
  have s6 := blk_frozen H4.out.res 6
  have s7 := blk_frozen H4.out.res 7
  have s8 := blk_frozen H4.out.res 8
  have s9 := blk_frozen H4.out.res 9
  have s10 := blk_frozen H4.out.res 10
  have s11 := blk_frozen H4.out.res 11
  cases b4 with
  | false =>
    have h15 : s.size < 15 := by
      have h := Hb4.out
      simp at h
      omega
    have hD : Hid (decUV s.data.toList = zUV) := decUV_short (by rw [Hlen.out]; exact h15)
    clear h15
    go_wp2_with fail
    have q := undo_res H4.out.res (.int .u8 0) (.int .u64 0) (.int .u32 0) (.int .u16 0) (.string ⟨#[]⟩) (.string ⟨#[]⟩) (.bool false) (.int .u64 0) (.int .u32 0) (.int .u16 0) (.string ⟨#[]⟩) (.int .i64 0)
    obtain ⟨q0, q1, q2, q3, q4, q5, q6, q7, q8, q9, q10, q11⟩ := q
    refine bodyPost_ret (v := zUV) (by simp [zUV, results, Tryz.results28, go_sem, q0, q1, q2, q3, q4, q5, q6, q7, q8, q9, q10, q11]) rfl ⟨?_, undo_below H4.out.below (Nat.le_succ _) (.int .u8 0) (.int .u64 0) (.int .u32 0) (.int .u16 0) (.string ⟨#[]⟩) (.string ⟨#[]⟩) (.bool false) (.int .u64 0) (.int .u32 0) (.int .u16 0) (.string ⟨#[]⟩) (.int .i64 0)⟩
    exact congrArg Ending.returned hD.out.symm
  | true =>
    have h15 : 15 ≤ s.size := by
      have h := Hb4.out
      simp at h
      omega
    have ci := blk_cell H4.out.pos 0
    have cs := blk_cell H4.out.str 0
    have x4 := X4.out
    have y0 := blk_cell x4 0
    have g0 := blk_frozen x4 0
    have y4 := blk_cell x4 4
    have g4 := blk_frozen x4 4
    clear x4
    obtain ⟨y, hy⟩ : ∃ y, s.extract 15 s.size = y := ⟨_, rfl⟩
    have hy' : y = ⟨(s.data.toList.drop 15).toArray⟩ := by
      rw [← hy]
      apply bytes_ext
      rw [Lib.extract_data]
      exact List.take_of_length_le (by simp)
    have Hy := Lib.hid hy'
    clear hy'
    go_upto_region 9 with fail
    have X5 : Hid ((W4.setCell ⟨X, 4, none⟩ (.string y)).heap[X]? = some (.cells #[.int .u8 n1, .int .u64 n2, .int .u32 n3, .int .u16 n4, .string y, .string ⟨#[]⟩, .bool false, .int .u64 0, .int .u32 0, .int .u16 0, .string ⟨#[]⟩, .int .i64 0] 34 (0, 0))) := blk_set X4.out 4 (.string y)
    have H5 := Lib.hid (H4.out.set X 4 (.string y) hX)
    generalize W4.setCell ⟨X, 4, none⟩ (.string y) = W5 at *
    clear r0 s0 r1 s1 r2 s2 r3 s3 r4 s4 r5 s5 r6 s6 r7 s7 r8 s8 r9 s9 r10 s10 r11 s11
    clear ca ci cs y0 g0 y4 g4 X4 H4
    by_cases hk : n1 = 2
    · subst hk
      have R0 := fun W => rowDecode_any y W (by rw [← hy]; simp; omega)
      rw [show y.data.toList = s.data.toList.drop 15 by rw [Hy.out]] at R0
      have ci := blk_cell H5.out.pos 0
      have cs := blk_cell H5.out.str 0
      have y0 := blk_cell X5.out 0
      cases hdo : decOk (s.data.toList.drop 15) with
      | false =>
        have hD : Hid (decUV s.data.toList = zUV) := decUV_norow E1.out hdo
        rw [decV_bad hdo] at R0
        have R := Lib.hid R0
        clear R0 hdo
        go_wp2_with fail
        refine (R.out _).mono ?_
        rintro e w6 ⟨rfl, hb6⟩
        have H6 := Lib.hid ((H5.out.below_step hb6).alloc (.cells #[.string ⟨#[]⟩, .bool false, .int .u64 0, .int .u32 0, .int .u16 0, .string ⟨#[]⟩, .int .i64 0] 32))
        clear hb6 ci cs y0
        go_upto_region 11 with fail
        generalize w6.alloc (.cells #[.string ⟨#[]⟩, .bool false, .int .u64 0, .int .u32 0, .int .u16 0, .string ⟨#[]⟩, .int .i64 0] 32) = W6 at *
        have r0 := blk_cell H6.out.res 0
        have r1 := blk_cell H6.out.res 1
        have r2 := blk_cell H6.out.res 2
        have r3 := blk_cell H6.out.res 3
        have r4 := blk_cell H6.out.res 4
        have r5 := blk_cell H6.out.res 5
        have r6 := blk_cell H6.out.res 6
        have r7 := blk_cell H6.out.res 7
        have r8 := blk_cell H6.out.res 8
        have r9 := blk_cell H6.out.res 9
        have r10 := blk_cell H6.out.res 10
        have r11 := blk_cell H6.out.res 11
        have s0 := blk_frozen H6.out.res 0
        have s1 := blk_frozen H6.out.res 1
        have s2 := blk_frozen H6.out.res 2
        have s3 := blk_frozen H6.out.res 3
        have s4 := blk_frozen H6.out.res 4
        have s5 := blk_frozen H6.out.res 5
        have s6 := blk_frozen H6.out.res 6
        have s7 := blk_frozen H6.out.res 7
        have s8 := blk_frozen H6.out.res 8
        have s9 := blk_frozen H6.out.res 9
        have s10 := blk_frozen H6.out.res 10
        have s11 := blk_frozen H6.out.res 11
        go_wp2_with fail
        have q := undo_res H6.out.res (.int .u8 0) (.int .u64 0) (.int .u32 0) (.int .u16 0) (.string ⟨#[]⟩) (.string ⟨#[]⟩) (.bool false) (.int .u64 0) (.int .u32 0) (.int .u16 0) (.string ⟨#[]⟩) (.int .i64 0)
        obtain ⟨q0, q1, q2, q3, q4, q5, q6, q7, q8, q9, q10, q11⟩ := q
        refine bodyPost_ret (v := zUV) (by simp [zUV, results, Tryz.results28, go_sem, q0, q1, q2, q3, q4, q5, q6, q7, q8, q9, q10, q11]) rfl ⟨?_, undo_below H6.out.below (Nat.le_succ _) (.int .u8 0) (.int .u64 0) (.int .u32 0) (.int .u16 0) (.string ⟨#[]⟩) (.string ⟨#[]⟩) (.bool false) (.int .u64 0) (.int .u32 0) (.int .u16 0) (.string ⟨#[]⟩) (.int .i64 0)⟩
        exact congrArg Ending.returned hD.out.symm
      | true =>
        obtain ⟨kS, hkS⟩ : ∃ z : ByteArray, z = ⟨(dK (s.data.toList.drop 15)).toArray⟩ := ⟨_, rfl⟩
        obtain ⟨vS, hvS⟩ : ∃ z : ByteArray, z = ⟨(dV (s.data.toList.drop 15)).toArray⟩ := ⟨_, rfl⟩
        obtain ⟨m, hm⟩ : ∃ z : Bool, z = decide (0 < rdNum (s.data.toList.drop 15) 0 1) := ⟨_, rfl⟩
        obtain ⟨t, ht⟩ : ∃ z : Nat, z = rdNum (s.data.toList.drop 15) 1 8 := ⟨_, rfl⟩
        obtain ⟨p, hp⟩ : ∃ z : Nat, z = rdNum (s.data.toList.drop 15) 9 4 := ⟨_, rfl⟩
        obtain ⟨q, hq⟩ : ∃ z : Nat, z = rdNum (s.data.toList.drop 15) 13 2 := ⟨_, rfl⟩
        obtain ⟨d, hd⟩ : ∃ z : Int, z = dPad (s.data.toList.drop 15) := ⟨_, rfl⟩
        have hD : Hid (decUV s.data.toList = if mayUndo 2 n2 n3 n4 kS kS m t p q vS d then .tuple #[.agg #[.int .u8 ((2 : Nat) : Int), .int .u64 n2, .int .u32 n3, .int .u16 n4, .string kS, .string kS, .bool m, .int .u64 t, .int .u32 p, .int .u16 q, .string vS, .int .i64 d], .int .i64 0] else zUV) :=
          decUV_put E1.out (by rw [Hlen.out]; exact h15) hdo n2 n3 n4 kS vS m t p q d E2.out E3.out E4.out hkS hvS hm ht hp hq hd
        have hmay := decOk_may hdo
        have zk : kS.size ≤ 48 := by rw [hkS]; show (dK (s.data.toList.drop 15)).toArray.size ≤ 48; simpa using hmay.1
        have zv : vS.size ≤ 96 := by rw [hvS]; show (dV (s.data.toList.drop 15)).toArray.size ≤ 96; simpa using hmay.2
        have hV : decV (s.data.toList.drop 15) = .tuple #[.agg #[.string kS, .bool m, .int .u64 t, .int .u32 p, .int .u16 q, .string vS, .int .i64 d], .int .i64 0] := by
          unfold decV
          rw [hdo, hkS, hvS, hm, ht, hp, hq, hd]
          rfl
        rw [hV] at R0
        have R := Lib.hid R0
        clear R0 hdo hV hkS hvS hm ht hp hq hd hmay
        go_wp2_with fail
        refine (R.out _).mono ?_
        rintro e w6 ⟨rfl, hb6⟩
        have H6 := Lib.hid ((H5.out.below_step hb6).alloc (.cells #[.string kS, .bool m, .int .u64 t, .int .u32 p, .int .u16 q, .string vS, .int .i64 d] 32))
        have xr := heap_alloc_new w6 (.cells #[.string kS, .bool m, .int .u64 t, .int .u32 p, .int .u16 q, .string vS, .int .i64 d] 32)
        have x6 := heap_keep (o := .cells #[.string kS, .bool m, .int .u64 t, .int .u32 p, .int .u16 q, .string vS, .int .i64 d] 32) ((hb6.block X (blk_lt X5.out)).trans X5.out)
        have hXY : w6.heap.size ≠ X := by have := blk_lt X5.out; have := hb6.size; omega
        clear hb6 ci cs y0 X5 H5
        go_upto_region 13 with fail
        generalize w6.alloc (.cells #[.string kS, .bool m, .int .u64 t, .int .u32 p, .int .u16 q, .string vS, .int .i64 d] 32) = W6 at *
        generalize w6.heap.size = Y at *
        have t0 := blk_cell xr 0
        have t1 := blk_cell xr 1
        have t2 := blk_cell xr 2
        have t3 := blk_cell xr 3
        have t4 := blk_cell xr 4
        have t5 := blk_cell xr 5
        have t6 := blk_cell xr 6
        have y4 := blk_cell x6 4
        have g4 := blk_frozen x6 4
        have y5 := blk_cell x6 5
        have g5 := blk_frozen x6 5
        have y6 := blk_cell x6 6
        have g6 := blk_frozen x6 6
        have y7 := blk_cell x6 7
        have g7 := blk_frozen x6 7
        have y8 := blk_cell x6 8
        have g8 := blk_frozen x6 8
        have y9 := blk_cell x6 9
        have g9 := blk_frozen x6 9
        have y10 := blk_cell x6 10
        have g10 := blk_frozen x6 10
        have y11 := blk_cell x6 11
        have g11 := blk_frozen x6 11
        have X6 := Lib.hid x6
        have hYa := Lib.hid xr
        clear xr x6
        go_region_held3 (fun w' => w'.cell? ⟨Y, 0, none⟩ = some (.string kS) ∧ w'.cell? ⟨Y, 1, none⟩ = some (.bool m) ∧ w'.cell? ⟨Y, 2, none⟩ = some (.int .u64 t) ∧ w'.cell? ⟨Y, 3, none⟩ = some (.int .u32 p) ∧ w'.cell? ⟨Y, 4, none⟩ = some (.int .u16 q) ∧ w'.cell? ⟨Y, 5, none⟩ = some (.string vS) ∧ w'.cell? ⟨Y, 6, none⟩ = some (.int .i64 d))
          (first | (with_reducible exact cells7 (keep_drew hYa.out)) | (with_reducible exact cells7 (keep_drew (set_keep (set_keep (set_keep (set_keep (set_keep (set_keep (set_keep hYa.out hXY) hXY) hXY) hXY) hXY) hXY) hXY))) | (with_reducible exact cells7 (keep_drew (set_keep (set_keep (set_keep (set_keep (set_keep (set_keep (set_keep (set_keep hYa.out hXY) hXY) hXY) hXY) hXY) hXY) hXY) hXY))) | (with_reducible exact cells7 (keep_drew (set_keep hYa.out hXY)))) (fail)
        have x6b := (blk_set (blk_set (blk_set (blk_set (blk_set (blk_set (blk_set (blk_set X6.out 5 (.string kS)) 6 (.bool m)) 7 (.int .u64 t)) 8 (.int .u32 p)) 9 (.int .u16 q)) 10 (.string vS)) 11 (.int .i64 d)) 4 (.string kS))
        simp only [List.setIfInBounds_toArray, List.set_cons_zero, List.set_cons_succ] at x6b
        have x7 := keep_drew x6b
        have h7 := USt.drew ((((((((H6.out.set X 5 (.string kS) hX).set X 6 (.bool m) hX).set X 7 (.int .u64 t) hX).set X 8 (.int .u32 p) hX).set X 9 (.int .u16 q) hX).set X 10 (.string vS) hX).set X 11 (.int .i64 d) hX).set X 4 (.string kS) hX)
        clear x6b
        generalize ((((((((W6.setCell ⟨X, 5, none⟩ (.string kS)).setCell ⟨X, 6, none⟩ (.bool m)).setCell ⟨X, 7, none⟩ (.int .u64 t)).setCell ⟨X, 8, none⟩ (.int .u32 p)).setCell ⟨X, 9, none⟩ (.int .u16 q)).setCell ⟨X, 10, none⟩ (.string vS)).setCell ⟨X, 11, none⟩ (.int .i64 d)).setCell ⟨X, 4, none⟩ (.string kS)).drew = W7 at *
        clear y4 g4 y5 g5 y6 g6 y7 g7 y8 g8 y9 g9 y10 g10 y11 g11 t0 t1 t2 t3 t4 t5 t6 hYa X6 H6 hXY
        have y0 := blk_cell x7 0
        have y1 := blk_cell x7 1
        have y2 := blk_cell x7 2
        have y3 := blk_cell x7 3
        have y4 := blk_cell x7 4
        have y5 := blk_cell x7 5
        have y6 := blk_cell x7 6
        have y7 := blk_cell x7 7
        have y8 := blk_cell x7 8
        have y9 := blk_cell x7 9
        have y10 := blk_cell x7 10
        have y11 := blk_cell x7 11
        have M := Lib.hid fun W => undoMay_any (2) n2 n3 n4 (kS) (kS) (vS) (m) (t) (p) (q) (d) W (by unfold maxLen; omega) (by unfold maxLen; omega) (by unfold maxLen; omega)
        have HX := Lib.hid x7
        have HH := Lib.hid h7
        clear x7 h7
        have HD0 := hD.out
        generalize mayUndo (2) n2 n3 n4 (kS) (kS) (m) (t) (p) (q) (vS) (d) = b at M HD0
        have HD := Lib.hid HD0
        clear HD0 hD
        go_wp2_with fail
        refine (M.out _).mono ?_
        rintro e w9 ⟨rfl, hb9⟩
        have H9 := Lib.hid (HH.out.below_step hb9)
        have X9 := (hb9.block X (blk_lt HX.out)).trans HX.out
        clear hb9 HH HX y0 y1 y2 y3 y4 y5 y6 y7 y8 y9 y10 y11
        have y0 := blk_cell X9 0
        have y1 := blk_cell X9 1
        have y2 := blk_cell X9 2
        have y3 := blk_cell X9 3
        have y4 := blk_cell X9 4
        have y5 := blk_cell X9 5
        have y6 := blk_cell X9 6
        have y7 := blk_cell X9 7
        have y8 := blk_cell X9 8
        have y9 := blk_cell X9 9
        have y10 := blk_cell X9 10
        have y11 := blk_cell X9 11
        have r0 := blk_cell H9.out.res 0
        have r1 := blk_cell H9.out.res 1
        have r2 := blk_cell H9.out.res 2
        have r3 := blk_cell H9.out.res 3
        have r4 := blk_cell H9.out.res 4
        have r5 := blk_cell H9.out.res 5
        have r6 := blk_cell H9.out.res 6
        have r7 := blk_cell H9.out.res 7
        have r8 := blk_cell H9.out.res 8
        have r9 := blk_cell H9.out.res 9
        have r10 := blk_cell H9.out.res 10
        have r11 := blk_cell H9.out.res 11
        have s0 := blk_frozen H9.out.res 0
        have s1 := blk_frozen H9.out.res 1
        have s2 := blk_frozen H9.out.res 2
        have s3 := blk_frozen H9.out.res 3
        have s4 := blk_frozen H9.out.res 4
        have s5 := blk_frozen H9.out.res 5
        have s6 := blk_frozen H9.out.res 6
        have s7 := blk_frozen H9.out.res 7
        have s8 := blk_frozen H9.out.res 8
        have s9 := blk_frozen H9.out.res 9
        have s10 := blk_frozen H9.out.res 10
        have s11 := blk_frozen H9.out.res 11
        clear X9
        cases b with
        | false =>
          go_wp2_with fail
          have q := undo_res H9.out.res (.int .u8 0) (.int .u64 0) (.int .u32 0) (.int .u16 0) (.string ⟨#[]⟩) (.string ⟨#[]⟩) (.bool false) (.int .u64 0) (.int .u32 0) (.int .u16 0) (.string ⟨#[]⟩) (.int .i64 0)
          obtain ⟨q0, q1, q2, q3, q4, q5, q6, q7, q8, q9, q10, q11⟩ := q
          refine bodyPost_ret (v := zUV) (by simp [zUV, results, Tryz.results28, go_sem, q0, q1, q2, q3, q4, q5, q6, q7, q8, q9, q10, q11]) rfl ⟨?_, undo_below H9.out.below (Nat.le_succ _) (.int .u8 0) (.int .u64 0) (.int .u32 0) (.int .u16 0) (.string ⟨#[]⟩) (.string ⟨#[]⟩) (.bool false) (.int .u64 0) (.int .u32 0) (.int .u16 0) (.string ⟨#[]⟩) (.int .i64 0)⟩
          exact congrArg Ending.returned HD.out.symm
        | true =>
          go_wp2_with fail
          have q := undo_res H9.out.res (.int .u8 2) (.int .u64 n2) (.int .u32 n3) (.int .u16 n4) (.string kS) (.string kS) (.bool m) (.int .u64 t) (.int .u32 p) (.int .u16 q) (.string vS) (.int .i64 d)
          obtain ⟨q0, q1, q2, q3, q4, q5, q6, q7, q8, q9, q10, q11⟩ := q
          refine bodyPost_ret (v := .tuple #[.agg #[.int .u8 2, .int .u64 n2, .int .u32 n3, .int .u16 n4, .string kS, .string kS, .bool m, .int .u64 t, .int .u32 p, .int .u16 q, .string vS, .int .i64 d], .int .i64 0]) (by simp [results, Tryz.results28, go_sem, q0, q1, q2, q3, q4, q5, q6, q7, q8, q9, q10, q11]) rfl ⟨?_, undo_below H9.out.below (Nat.le_succ _) (.int .u8 2) (.int .u64 n2) (.int .u32 n3) (.int .u16 n4) (.string kS) (.string kS) (.bool m) (.int .u64 t) (.int .u32 p) (.int .u16 q) (.string vS) (.int .i64 d)⟩
          exact congrArg Ending.returned HD.out.symm
    · have e0 : ((n1 : Int) == 2) = false := by simp; omega
      have hD : Hid (decUV s.data.toList = if mayUndo n1 n2 n3 n4 y ⟨#[]⟩ false 0 0 0 ⟨#[]⟩ 0 then .tuple #[.agg #[.int .u8 n1, .int .u64 n2, .int .u32 n3, .int .u16 n4, .string y, .string ⟨#[]⟩, .bool false, .int .u64 0, .int .u32 0, .int .u16 0, .string ⟨#[]⟩, .int .i64 0], .int .i64 0] else zUV) :=
        decUV_new (by rw [E1.out]; exact hk) (by rw [Hlen.out]; exact h15) n1 n2 n3 n4 y E1.out E2.out E3.out E4.out Hy.out
      have zy : y.size ≤ 1000000 := by rw [← hy]; simp; omega
      have x5 := X5.out
      have h5 := H5.out
      clear X5 H5 hk
      have y0 := blk_cell x5 0
      have y1 := blk_cell x5 1
      have y2 := blk_cell x5 2
      have y3 := blk_cell x5 3
      have y4 := blk_cell x5 4
      have y5 := blk_cell x5 5
      have y6 := blk_cell x5 6
      have y7 := blk_cell x5 7
      have y8 := blk_cell x5 8
      have y9 := blk_cell x5 9
      have y10 := blk_cell x5 10
      have y11 := blk_cell x5 11
      have M := Lib.hid fun W => undoMay_any (n1) n2 n3 n4 (y) (⟨#[]⟩) (⟨#[]⟩) (false) (0) (0) (0) (0) W (by unfold maxLen; omega) (by decide) (by decide)
      have HX := Lib.hid x5
      have HH := Lib.hid h5
      clear x5 h5
      have HD0 := hD.out
      generalize mayUndo (n1) n2 n3 n4 (y) (⟨#[]⟩) (false) (0) (0) (0) (⟨#[]⟩) (0) = b at M HD0
      have HD := Lib.hid HD0
      clear HD0 hD
      go_wp2_with fail
      refine (M.out _).mono ?_
      rintro e w9 ⟨rfl, hb9⟩
      have H9 := Lib.hid (HH.out.below_step hb9)
      have X9 := (hb9.block X (blk_lt HX.out)).trans HX.out
      clear hb9 HH HX y0 y1 y2 y3 y4 y5 y6 y7 y8 y9 y10 y11
      have y0 := blk_cell X9 0
      have y1 := blk_cell X9 1
      have y2 := blk_cell X9 2
      have y3 := blk_cell X9 3
      have y4 := blk_cell X9 4
      have y5 := blk_cell X9 5
      have y6 := blk_cell X9 6
      have y7 := blk_cell X9 7
      have y8 := blk_cell X9 8
      have y9 := blk_cell X9 9
      have y10 := blk_cell X9 10
      have y11 := blk_cell X9 11
      have r0 := blk_cell H9.out.res 0
      have r1 := blk_cell H9.out.res 1
      have r2 := blk_cell H9.out.res 2
      have r3 := blk_cell H9.out.res 3
      have r4 := blk_cell H9.out.res 4
      have r5 := blk_cell H9.out.res 5
      have r6 := blk_cell H9.out.res 6
      have r7 := blk_cell H9.out.res 7
      have r8 := blk_cell H9.out.res 8
      have r9 := blk_cell H9.out.res 9
      have r10 := blk_cell H9.out.res 10
      have r11 := blk_cell H9.out.res 11
      have s0 := blk_frozen H9.out.res 0
      have s1 := blk_frozen H9.out.res 1
      have s2 := blk_frozen H9.out.res 2
      have s3 := blk_frozen H9.out.res 3
      have s4 := blk_frozen H9.out.res 4
      have s5 := blk_frozen H9.out.res 5
      have s6 := blk_frozen H9.out.res 6
      have s7 := blk_frozen H9.out.res 7
      have s8 := blk_frozen H9.out.res 8
      have s9 := blk_frozen H9.out.res 9
      have s10 := blk_frozen H9.out.res 10
      have s11 := blk_frozen H9.out.res 11
      clear X9
      cases b with
      | false =>
        go_wp2_with fail
        have q := undo_res H9.out.res (.int .u8 0) (.int .u64 0) (.int .u32 0) (.int .u16 0) (.string ⟨#[]⟩) (.string ⟨#[]⟩) (.bool false) (.int .u64 0) (.int .u32 0) (.int .u16 0) (.string ⟨#[]⟩) (.int .i64 0)
        obtain ⟨q0, q1, q2, q3, q4, q5, q6, q7, q8, q9, q10, q11⟩ := q
        refine bodyPost_ret (v := zUV) (by simp [zUV, results, Tryz.results28, go_sem, q0, q1, q2, q3, q4, q5, q6, q7, q8, q9, q10, q11]) rfl ⟨?_, undo_below H9.out.below (Nat.le_succ _) (.int .u8 0) (.int .u64 0) (.int .u32 0) (.int .u16 0) (.string ⟨#[]⟩) (.string ⟨#[]⟩) (.bool false) (.int .u64 0) (.int .u32 0) (.int .u16 0) (.string ⟨#[]⟩) (.int .i64 0)⟩
        exact congrArg Ending.returned HD.out.symm
      | true =>
        go_wp2_with fail
        have q := undo_res H9.out.res (.int .u8 n1) (.int .u64 n2) (.int .u32 n3) (.int .u16 n4) (.string y) (.string ⟨#[]⟩) (.bool false) (.int .u64 0) (.int .u32 0) (.int .u16 0) (.string ⟨#[]⟩) (.int .i64 0)
        obtain ⟨q0, q1, q2, q3, q4, q5, q6, q7, q8, q9, q10, q11⟩ := q
        refine bodyPost_ret (v := .tuple #[.agg #[.int .u8 n1, .int .u64 n2, .int .u32 n3, .int .u16 n4, .string y, .string ⟨#[]⟩, .bool false, .int .u64 0, .int .u32 0, .int .u16 0, .string ⟨#[]⟩, .int .i64 0], .int .i64 0]) (by simp [results, Tryz.results28, go_sem, q0, q1, q2, q3, q4, q5, q6, q7, q8, q9, q10, q11]) rfl ⟨?_, undo_below H9.out.below (Nat.le_succ _) (.int .u8 n1) (.int .u64 n2) (.int .u32 n3) (.int .u16 n4) (.string y) (.string ⟨#[]⟩) (.bool false) (.int .u64 0) (.int .u32 0) (.int .u16 0) (.string ⟨#[]⟩) (.int .i64 0)⟩
        exact congrArg Ending.returned HD.out.symm
end Go.Proofs.YtienlhnbmobinaaGreat
end

section
/- What the reference's Decode of undo records takes, in plain words -/
namespace Go.Proofs.YtienlhnbmobinaaGreat
open Go.RowKit
set_option linter.unusedVariables false
set_option linter.unusedSimpArgs false
theorem decV_w {l : List UInt8} (h : rdNum l 0 1 = 2) :
    decV (l.drop 15) = .tuple #[.agg #[.string (wK l), .bool (wM l), .int .u64 (wT l), .int .u32 (wP l), .int .u16 (wS l), .string (wV l), .int .i64 (wD l)], .int .i64 (if decOk (l.drop 15) then 0 else 7)] ∧ uK l = wK l := by
  have hu : uHas l = decOk (l.drop 15) := by unfold uHas; rw [decide_eq_true h, Bool.true_and]
  unfold decV uK wK wM wT wP wS wV wD
  rw [hu, if_pos h]
  cases decOk (l.drop 15)
  · exact ⟨rfl, rfl⟩
  · exact ⟨rfl, rfl⟩
theorem decUV_eq {l : List UInt8} (h15 : 15 ≤ l.length) :
    decUV l = if mayUndo (rdNum l 0 1) (rdNum l 1 8) (rdNum l 9 4) (rdNum l 13 2) (uK l) (wK l) (wM l) (wT l) (wP l) (wS l) (wV l) (wD l) then .tuple #[.agg #[.int .u8 (rdNum l 0 1), .int .u64 (rdNum l 1 8), .int .u32 (rdNum l 9 4), .int .u16 (rdNum l 13 2), .string (uK l), .string (wK l), .bool (wM l), .int .u64 (wT l), .int .u32 (wP l), .int .u16 (wS l), .string (wV l), .int .i64 (wD l)], .int .i64 0] else zUV := by
  unfold decUV decUOk
  rw [decide_eq_true h15, Bool.true_and]
theorem wnew {l : List UInt8} (h : rdNum l 0 1 ≠ 2) : uK l = ⟨(l.drop 15).toArray⟩ ∧ wK l = ⟨#[]⟩ ∧ wM l = false ∧ wT l = 0 ∧ wP l = 0 ∧ wS l = 0 ∧ wV l = ⟨#[]⟩ ∧ wD l = 0 := by
  have hu : uHas l = false := by unfold uHas; rw [decide_eq_false h, Bool.false_and]
  unfold uK wK wM wT wP wS wV wD
  rw [hu, if_neg h]
  exact ⟨rfl, rfl, rfl, rfl, rfl, rfl, rfl, rfl⟩
theorem head15 {l : List UInt8} (h15 : 15 ≤ l.length) (r : List UInt8) (hr : r = l.drop 15) :
    be 1 (rdNum l 0 1) ++ (be 8 (rdNum l 1 8) ++ (be 4 (rdNum l 9 4) ++ (be 2 (rdNum l 13 2) ++ r))) = l := by
  rw [be_rd (l := l) (i := 0) (k := 1) (by omega), be_rd (l := l) (i := 1) (k := 8) (by omega), be_rd (l := l) (i := 9) (k := 4) (by omega), be_rd (l := l) (i := 13) (k := 2) (by omega), hr,
    ← cut_one (l := l) 13 2, ← cut_one (l := l) 9 4, ← cut_one (l := l) 1 8, ← cut_one (l := l) 0 1]
  rfl
theorem mayUndo_kind {kd x pg sl : Nat} {y k : ByteArray} {m : Bool} {t p s : Nat} {v : ByteArray} {d : Int} (h : mayUndo kd x pg sl y k m t p s v d = true) :
    UHead x pg sl y.size ∧ ((kd = 1 ∧ zRow k m t p s v d = true) ∨ (kd = 2 ∧ k.toList = y.toList ∧ mayRow k.size v.size p s d = true)) := by
  unfold mayUndo at h
  simp only [Bool.and_eq_true, decide_eq_true_eq] at h
  refine ⟨h.1, ?_⟩
  by_cases hk : kd = 1
  · rw [if_pos hk] at h
    exact .inl ⟨hk, h.2⟩
  · rw [if_neg hk] at h
    simp only [Bool.and_eq_true, decide_eq_true_eq, beq_iff_eq] at h
    exact .inr ⟨h.2.1, h.2.2.1, h.2.2.2⟩
theorem decOk_enc {l : List UInt8} (h : decOk l = true) : decEnc l = l := by
  unfold decOk at h
  simp only [Bool.and_eq_true, beq_iff_eq] at h
  exact h.2.2
/-- What is read is written as itself. -/
theorem encU_back {l : List UInt8} (h : decUOk l = true) :
    encUndo (rdNum l 0 1) (rdNum l 1 8) (rdNum l 9 4) (rdNum l 13 2) (uK l).data.toList (wK l).data.toList (wM l) (wT l) (wP l) (wS l) (wV l).data.toList (wD l) = l := by
  unfold decUOk at h
  simp only [Bool.and_eq_true, decide_eq_true_eq] at h
  obtain ⟨h15, hm⟩ := h
  have hk := mayUndo_kind hm
  unfold encUndo
  refine head15 h15 _ ?_
  by_cases h1 : rdNum l 0 1 = 1
  · rw [if_pos h1, (wnew (by omega)).1]
  · have h2 : rdNum l 0 1 = 2 := by rcases hk.2 with ⟨a, _⟩ | ⟨a, _⟩ <;> omega
    rw [if_neg h1]
    have ho : decOk (l.drop 15) = true := by
      rw [← Bool.not_eq_false]
      intro hf
      have : uK l = ⟨#[]⟩ := by unfold uK; rw [if_pos h2, hf]; rfl
      rw [this, mayUndo_nokey] at hm
      cases hm
    have hu : uHas l = true := by unfold uHas; rw [decide_eq_true h2, ho]; rfl
    have hb := decOk_enc ho
    unfold decEnc at hb
    unfold wK wM wT wP wS wV wD
    rw [hu]
    exact hb
theorem decUOk_len {l : List UInt8} (h : decUOk l = true) : l.length ≤ 400 := by
  have hb := encU_back h
  unfold decUOk at h
  simp only [Bool.and_eq_true, decide_eq_true_eq] at h
  obtain ⟨h15, hm⟩ := h
  obtain ⟨hh, hk⟩ := mayUndo_kind hm
  unfold UHead at hh
  rw [← hb]
  unfold encUndo
  by_cases h1 : rdNum l 0 1 = 1
  · rw [if_pos h1]
    simp [be_length]
    omega
  · rw [if_neg h1]
    rcases hk with ⟨a, _⟩ | ⟨_, _, a⟩
    · omega
    · have := mayRow_iff.1 a
      unfold encRow
      simp [be_length]
      omega
theorem decUV_long {l : List UInt8} (h : 400 < l.length) : decUV l = zUV := by
  have : decUOk l = false := by
    rw [← Bool.not_eq_true]
    intro ht
    have := decUOk_len ht
    omega
  unfold decUV
  rw [this]
  rfl
theorem rd_first (s : ByteArray) (h : 0 < s.size) : (s[0].toNat : Int) = (rdNum s.data.toList 0 1 : Int) := by
  have hl : s.data.toList.length = s.size := by simp
  rw [rdNum_in (by omega)]
  obtain ⟨a⟩ := s
  obtain ⟨l⟩ := a
  cases l with
  | nil => exact absurd h (by decide)
  | cons c r => simp [un]; rfl
end Go.Proofs.YtienlhnbmobinaaGreat
end
