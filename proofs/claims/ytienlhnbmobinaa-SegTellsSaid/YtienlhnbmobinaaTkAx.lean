/- Kept of our texts for this claim: SegRefCom SegWork SegsIn -/
import Derived.Test.YtienlhnbmobinaaRows
import Derived.Test.YtienlhnbmobinaaTkAj
import Derived.Test.YtienlhnbmobinaaTkAk
import Derived.Test.YtienlhnbmobinaaTkAo
import Derived.Test.YtienlhnbmobinaaTkAt
import Derived.Test.YtienlhnbmobinaaTkAw
import Derived.Test.YtienlhnbmobinaaTkAu
import Derived.Test.YtienlhnbmobinaaTkAf
import Derived.Test.YtienlhnbmobinaaTkAg
import Derived.Test.YtienlhnbmobinaaTkAh
import Derived.Test.YtienlhnbmobinaaTkAa
import Derived.Test.YtienlhnbmobinaaTkAc
import Derived.Test.YtienlhnbmobinaaTkAb
import Derived.Test.YtienlhnbmobinaaTkAe
import Derived.WalkKit
import Derived.WalkLawsBesides
import Derived.WalkSpells
import Derived.LoopTactic
import Derived.WalkMore
import Derived.LoopN
import Derived.Laws.BitsAllLaws
import Derived.Laws.IdiomStrings
import Derived.BigQuiet
import Derived.Deep.QuietTactic
import Derived.Deep.DeepCutAuto
import Derived.Deep.RegionHeld3
import Derived.Deep.DrawnRows
import Derived.Lib.Hide
import Derived.Outline
import Derived.Deep.DeepMust
import Derived.Handy
import Derived.Test.YtienlhnbmobinaaTkAi
import Derived.Deep.CutBlock
import Derived.Test.YtienlhnbmobinaaTkAv
import Derived.Test.YtienlhnbmobinaaTkAs
import Derived.Test.YtienlhnbmobinaaTkAq
import Derived.Test.YtienlhnbmobinaaTkAp
import Derived.Deep.LoopGhost
import Derived.Test.YtienlhnbmobinaaTkAd
import Derived.Test.YtienlhnbmobinaaTkAl
import Derived.Deep.OwnRows
section
/- chapter 22: the reference's Commit -/
namespace Go.Proofs.Ytienlhnbmobinaa
open Go.RowKit
set_option linter.unusedVariables false
set_option linter.unusedSimpArgs false
theorem done_out {s : Sg} {n : Nat} (h : s.may = true) (hn : n ≠ 0) : (s.done n).out = ((s.done n).enc, 0) := by
  unfold Sg.out
  rw [sg_done h (by omega)]
  rfl
set_option maxHeartbeats 4000000 in
set_option maxRecDepth 100000 in
theorem refSegCommit_any (p : Pg) (sv : Value) (tx m : Nat) (w : World) (hp : p.wf) (ht : TextsAt w sv p.rows) (hb : weightB p.rows ≤ 1000000) (hm8 : m < 256 ^ 8) :
    Calls Try.prog 75 #[pgV p sv, .int .u64 tx, .int .u64 m] w fun e w' => e = .returned (.tuple #[odV (sCommitB p tx m).1 (.slice none 0 0), .int .i64 (sCommitB p tx m).2]) ∧ Below w.heap.size w w' := by
  have CR := Lib.hid fun W (h : TextsAt W sv p.rows) => refSegRows_any p sv W hp h hb
  have hdef : sCommitB p tx m = (match segsB p with | none => (Od.zero, 60) | some L => if segIs L tx then (if (L.getD (segAt L tx) Sg.zero).st = 2 then (Od.zero, 8) else if m = 0 then (Od.zero, 2) else (⟨3, p.id, (segAt L tx : Nat), 0, ((L.getD (segAt L tx) Sg.zero).done m).enc, [], 0, 0, 0⟩, 0)) else (Od.zero, 3)) := rfl
  have hset : Hid (∀ L, segsB p = some L → segIs L tx = true → (L.getD (segAt L tx) Sg.zero).wf ∧ (L.getD (segAt L tx) Sg.zero).may = true) := fun L hL hi => by
    obtain ⟨s, hs, hst, hg⟩ := seg_is_yes hi
    rw [hg]
    have hmw := seg_wf_of hL _ hs
    exact ⟨hmw.2, hmw.1⟩
  have HT := Lib.hid ht
  have hnb : p.rows.length ≤ 1000000 := by have := weightB_length p.rows; omega
  obtain ⟨n, hn⟩ : ∃ n, n = p.rows.length := ⟨_, rfl⟩
  obtain ⟨A, cp, hsv, _, _, _, _⟩ := ht
  rw [← hn] at hsv
  subst hsv
  have HLN := Lib.hid (fun L (h : segsB p = some L) => seg_len_of hnb h)
  generalize segsB p = R at *
  generalize sCommitB p tx m = res at *
  clear hp hb hn hnb
  unfold pgV at *
  obtain ⟨kind, level, id, lsn, next, rows⟩ := p
  simp only at *
  have HD := Lib.hid hdef
  clear hdef
  have P0 : Hid (PgBox (w.alloc (.cells #[.int .u8 kind, .int .u8 level, .int .u32 id, .int .u64 lsn, .int .u32 next, .slice A n cp] 26)) w.heap.size kind level id lsn next (.slice A n cp)) := PgBox.new w kind level id lsn next (.slice A n cp)
  have B0 := Lib.hid (alloc_below w (.cells #[.int .u8 kind, .int .u8 level, .int .u32 id, .int .u64 lsn, .int .u32 next, .slice A n cp] 26))
  have hz1 : ((w.alloc (.cells #[.int .u8 kind, .int .u8 level, .int .u32 id, .int .u64 lsn, .int .u32 next, .slice A n cp] 26))).heap.size = w.heap.size + 1 := by simp
  have O0 : Hid (OAt ((w.alloc (.cells #[.int .u8 kind, .int .u8 level, .int .u32 id, .int .u64 lsn, .int .u32 next, .slice A n cp] 26)).alloc (.cells #[.int .u8 0, .int .u32 0, .int .i64 0, .int .i64 0, .string ⟨#[]⟩, .slice none 0 0, .int .u8 0, .int .u8 0, .int .u32 0] 28)) (w.heap.size + 1) Od.zero (.slice none 0 0)) := by
    have h := heap_alloc_new (w.alloc (.cells #[.int .u8 kind, .int .u8 level, .int .u32 id, .int .u64 lsn, .int .u32 next, .slice A n cp] 26)) (.cells #[.int .u8 0, .int .u32 0, .int .i64 0, .int .i64 0, .string ⟨#[]⟩, .slice none 0 0, .int .u8 0, .int .u8 0, .int .u32 0] 28)
    rw [hz1] at h
    exact h
  have B0 := Lib.hid (B0.out.alloc B0.out.size (.cells #[.int .u8 0, .int .u32 0, .int .i64 0, .int .i64 0, .string ⟨#[]⟩, .slice none 0 0, .int .u8 0, .int .u8 0, .int .u32 0] 28))
  have P0 := Lib.hid (P0.out.keep (.cells #[.int .u8 0, .int .u32 0, .int .i64 0, .int .i64 0, .string ⟨#[]⟩, .slice none 0 0, .int .u8 0, .int .u8 0, .int .u32 0] 28))
  clear hz1
  go_enter Try.func75, Try.ntmps75
  go_upto_region 1 with fail
  generalize ((w.alloc (.cells #[.int .u8 kind, .int .u8 level, .int .u32 id, .int .u64 lsn, .int .u32 next, .slice A n cp] 26)).alloc (.cells #[.int .u8 0, .int .u32 0, .int .i64 0, .int .i64 0, .string ⟨#[]⟩, .slice none 0 0, .int .u8 0, .int .u8 0, .int .u32 0] 28)) = w0 at *
  have T0 := Lib.hid (HT.out.below B0.out)
  clear HT
  have HT0 := T0
  obtain ⟨p0, p1, p2, p3, p4, p5, p6⟩ := P0.out.cells
  go_wp2_with fail
  refine (CR.out _ T0.out).mono ?_
  rintro e w1 ⟨v, rfl, hO, hb⟩
  have V1 := Lib.hid (OwnSegs.mono hO B0.out.size)
  clear hO CR
  clear p0 p1 p2 p3 p4 p5 p6
  have B1 := Lib.hid (below_then B0.out hb)
  have P1 := Lib.hid (P0.out.below hb)
  have O1 := Lib.hid (O0.out.under hb)
  have T1 := Lib.hid (T0.out.below hb)
  clear hb B0 P0 O0 T0
  cases R with
  | none =>
    simp only [Option.isSome_none] at *
    (try simp only [Bool.false_eq_true, if_false] at *)
    go_wp2_with (refine wpList_store_op rfl (.tmp 6) (.tmp 20) rfl O1.out Od.zero none 0 0 (by rfl) (by rfl) ?_; intro wS hO hK; have OS := Lib.hid hO; have KS := Lib.hid hK; clear hO hK)
    refine bodyPost_ret (results_op2 (p := 6) (u := 7) (o := Od.zero) (sv := .slice none 0 0) (by kernel_rfl) _ _ rfl OS.out) rfl ?_
    exact ⟨by rw [HD.out]; rfl, OthersKept.below B1.out KS.out (fun k hk e => by omega)⟩
  | some L =>
    simp only [Option.isSome_some, Option.getD_some, if_true] at *
    have CA := Lib.hid fun W (h : SegsAt W v L) => refAt_any L tx v W h (HLN.out L rfl)
    obtain ⟨ia, hia⟩ : ∃ z : Nat, z = segAt L tx := ⟨_, rfl⟩
    obtain ⟨ib, hib⟩ : ∃ z : Bool, z = segIs L tx := ⟨_, rfl⟩
    have hil : Hid (ib = true → ia < L.length) := fun h => by rw [hia]; exact segIs_lt (by rw [← hib]; exact h)
    have hset2 := Lib.hid (hset.out L rfl)
    rw [← hia, ← hib] at HD CA hset2
    clear hia hib hset HLN
    go_wp2_with fail
    refine (CA.out _ V1.out.at_).mono ?_
    rintro e w2 ⟨rfl, hb⟩
    have V2 := Lib.hid (V1.out.below hb)
    clear V1 CA
    have B2 := Lib.hid (below_then B1.out hb)
    have P2 := Lib.hid (P1.out.below hb)
    have O2 := Lib.hid (O1.out.under hb)
    have T2 := Lib.hid (T1.out.below hb)
    clear hb B1 P1 O1 T1
    cases ib with
    | false =>
      go_wp2_with (refine wpList_store_op rfl (.tmp 6) (.tmp 30) rfl O2.out Od.zero none 0 0 (by rfl) (by rfl) ?_; intro wS hO hK; have OS := Lib.hid hO; have KS := Lib.hid hK; clear hO hK)
      refine bodyPost_ret (results_op2 (p := 6) (u := 7) (o := Od.zero) (sv := .slice none 0 0) (by kernel_rfl) _ _ rfl OS.out) rfl ?_
      exact ⟨by rw [HD.out]; rfl, OthersKept.below B2.out KS.out (fun k hk e => by omega)⟩
    | true =>
      have hlt := hil.out rfl
      obtain ⟨A2, cp2, rfl, _, _, h52⟩ := V2.out.at_
      obtain ⟨b0, o0, rfl, hb0, hcell⟩ := h52 (by omega)
      obtain ⟨hwf, hmy⟩ := hset2.out rfl
      have k0 := hcell ia hlt 0 _ rfl
      have k1 := hcell ia hlt 1 _ rfl
      have k2 := hcell ia hlt 2 _ rfl
      have k3 := hcell ia hlt 3 _ rfl
      have k4 := hcell ia hlt 4 _ rfl
      have k5 := hcell ia hlt 5 _ rfl
      have k6 := hcell ia hlt 6 _ rfl
      have hg : L.getD ia Sg.zero = L[ia] := by rw [List.getD_eq_getElem?_getD, List.getElem?_eq_getElem hlt]; rfl
      rw [hg] at HD hwf hmy
      have hli : (ia : Int) < (L.length : Int) := by omega
      have hl0 : (0 : Int) ≤ (ia : Int) := by omega
      obtain ⟨ln, hln⟩ : ∃ z, z = L.length := ⟨_, rfl⟩
      rw [← hln] at hli ⊢
      have hdw := seg_done_wf hwf hm8
      have HOUT := Lib.hid fun h => done_out (n := m) hmy h
      clear hcell h52 hg V2 hil hln hset2 hwf hmy
      generalize L[ia] = y at *
      obtain ⟨y0, y1, y2, y3, y4, y5, y6⟩ := y
      simp only [Nat.add_zero] at k0 k1 k2 k3 k4 k5 k6
      have hb := alloc_below w2 (.cells #[.int .u64 y0, .int .u8 y1, .int .u64 y2, .int .u32 y3, .int .u32 y4, .int .u32 y5, .int .u16 y6] 83)
      have S3 : Hid (SgBox (w2.alloc (.cells #[.int .u64 y0, .int .u8 y1, .int .u64 y2, .int .u32 y3, .int .u32 y4, .int .u32 y5, .int .u16 y6] 83)) w2.heap.size ⟨y0, y1, y2, y3, y4, y5, y6⟩) := heap_alloc_new w2 _
      have hlo := O2.out.lt
      have hlp := P2.out.lt
      go_upto_region 8 with fail
      generalize w2.alloc (.cells #[.int .u64 y0, .int .u8 y1, .int .u64 y2, .int .u32 y3, .int .u32 y4, .int .u32 y5, .int .u16 y6] 83) = w3 at *
      obtain ⟨X, hX⟩ : ∃ X, X = w2.heap.size := ⟨_, rfl⟩
      have hw1 := B2.out.size
      rw [← hX] at S3 hlo hlp hw1 ⊢
      clear k0 k1 k2 k3 k4 k5 k6
      have B3 := Lib.hid (below_then B2.out hb)
      have P3 := Lib.hid (P2.out.below hb)
      have O3 := Lib.hid (O2.out.under hb)
      have T3 := Lib.hid (T2.out.below hb)
      clear hb B2 P2 O2 T2
      clear hX
      obtain ⟨sl, s0, s1, s2, s3, s4, s5, s6⟩ := S3.out.cells
      simp only at s0 s1 s2 s3 s4 s5 s6
      by_cases h2 : y1 = 2
      · have h2i : ((y1 : Int) == 2) = true := by simp [h2]
        have HD2 : Hid (res = (Od.zero, 8)) := HD.out.trans ((if_pos (by first | rfl | trivial)).trans (if_pos h2))
        clear h2
        go_wp2_with (refine wpList_store_op rfl (.tmp 6) (.tmp 38) rfl O3.out Od.zero none 0 0 (by rfl) (by rfl) ?_; intro wS hO hK; have OS := Lib.hid hO; have KS := Lib.hid hK; clear hO hK)
        refine bodyPost_ret (results_op2 (p := 6) (u := 7) (o := Od.zero) (sv := .slice none 0 0) (by kernel_rfl) _ _ rfl OS.out) rfl ?_
        exact ⟨by rw [HD2.out]; rfl, OthersKept.below B3.out KS.out (fun k hk e => by omega)⟩
      · have h2i : ((y1 : Int) == 2) = false := by simp; omega
        by_cases hm0 : m = 0
        · have HD2 : Hid (res = (Od.zero, 2)) := HD.out.trans ((if_pos (by first | rfl | trivial)).trans ((if_neg h2).trans (if_pos hm0)))
          subst hm0
          go_wp2_with (refine wpList_store_op rfl (.tmp 6) (.tmp 41) rfl O3.out Od.zero none 0 0 (by rfl) (by rfl) ?_; intro wS hO hK; have OS := Lib.hid hO; have KS := Lib.hid hK; clear hO hK)
          refine bodyPost_ret (results_op2 (p := 6) (u := 7) (o := Od.zero) (sv := .slice none 0 0) (by kernel_rfl) _ _ rfl OS.out) rfl ?_
          exact ⟨by rw [HD2.out]; rfl, OthersKept.below B3.out KS.out (fun k hk e => by omega)⟩
        · have hm0i : ((m : Int) == 0) = false := by simp; omega
          have HD2 := Lib.hid (HD.out.trans ((if_pos (by first | rfl | trivial)).trans ((if_neg h2).trans (if_neg hm0))))
          have CE := Lib.hid fun W => refSegEncode_any (Sg.done ⟨y0, y1, y2, y3, y4, y5, y6⟩ m) W hdw
          rw [HOUT.out hm0] at CE
          unfold Sg.done at CE HD2
          unfold sgV at CE
          simp only at CE HD2
          generalize Sg.enc ⟨y0, 2, m, y3, y4, y5, y6⟩ = en at *
          clear HOUT HD hdw h2
          obtain ⟨f0, f1, f2, f3, f4, f5, f6⟩ := S3.out.fr
          have S4 : Hid (SgBox ((w3.setCell ⟨X, 1, none⟩ (.int .u8 2)).setCell ⟨X, 2, none⟩ (.int .u64 m)) X ⟨y0, 2, m, y3, y4, y5, y6⟩) := by
            have h := blk_set (blk_set S3.out 1 (.int .u8 2)) 2 (.int .u64 m)
            exact h
          have hK := (one_kept w3 X 1 (.int .u8 2)).trans (one_kept _ X 2 (.int .u64 m)) (fun _ _ h => h)
          have P4 := Lib.hid (P3.out.kept hK (by omega))
          have O4 := Lib.hid (OAt.kept22 O3.out hK (by omega))
          have B4 := Lib.hid (OthersKept.below B3.out hK (fun k hk e => by omega))
          have hk2 : ((w3.setCell ⟨X, 1, none⟩ (.int .u8 2)).cell? ⟨X, 2, none⟩) = some (.int .u64 y2) := by
            have h := blk_cell (blk_set S3.out 1 (.int .u8 2)) 2
            rw [h]; rfl
          have hf2 : ((w3.setCell ⟨X, 1, none⟩ (.int .u8 2)).frozen? ⟨X, 2, none⟩) = false := blk_frozen (blk_set S3.out 1 (.int .u8 2)) 2
          go_upto_region 14 with fail
          generalize (w3.setCell ⟨X, 1, none⟩ (.int .u8 2)).setCell ⟨X, 2, none⟩ (.int .u64 m) = w4 at *
          clear hK P3 O3 T3 B3 S3 sl s0 s1 s2 s3 s4 s5 s6 f0 f1 f2 f3 f4 f5 f6 hk2 hf2
          go_upto_region 14 with fail
          have HPD : Hid (PgBox w4.drew w.heap.size kind level id lsn next (.slice A n cp)) := P4.out
          have HSD : Hid (SgBox w4.drew (X) ⟨y0, 2, m, y3, y4, y5, y6⟩) := S4.out
          have HOD : Hid (OAt w4.drew _ Od.zero (.slice none 0 0)) := O4.out
          have HBD := Lib.hid B4.out.drew
          refine wp_region_held_drew (S := fun W => PgBox W w.heap.size kind level id lsn next (.slice A n cp) ∧ SgBox W (X) ⟨y0, 2, m, y3, y4, y5, y6⟩) (by kernel_rfl) (⟨HPD.out, HSD.out⟩) (fun hHeld => ?_)
          clear P4 S4 O4 B4
          generalize w4.drew = v0 at *
          have O4 := HOD
          have B4 := HBD
          refine wpAnyH_take (i := 0) (oi := { dst := some 45, op := Go.Op.fieldAddr 26 (Go.Operand.tmp 3) 2, type := 0, pos := "ref.go:135", after := #[], guard := none }) (v := ?_) rfl (by kernel_rfl) (by kernel_rfl) (by kernel_rfl) (fun _ _ _ h => h) (Or.inl ⟨by rfl, ?_⟩) hHeld ?_
          rotate_left
          · (intro w hSw; obtain ⟨p0, p1, p2, p3, p4, p5, p6⟩ := hSw.1.cells; obtain ⟨sl, s0, s1, s2, s3, s4, s5, s6⟩ := hSw.2.cells; simp only at s0 s1 s2 s3 s4 s5 s6; go_simp <;> with_reducible rfl)
          simp only [Act.put, List.setIfInBounds_toArray, List.set_cons_zero, List.set_cons_succ]
          refine wpAnyH_take (i := 1) (oi := { dst := some 46, op := Go.Op.load 22 (Go.Operand.tmp 45), type := 22, pos := "ref.go:135", after := #[{ on := 0, ground := Go.Ground.data }], guard := none }) (v := ?_) rfl (by kernel_rfl) (by kernel_rfl) (by kernel_rfl) (fun _ _ _ h => h) (Or.inl ⟨by rfl, ?_⟩) hHeld ?_
          rotate_left
          · (intro w hSw; obtain ⟨p0, p1, p2, p3, p4, p5, p6⟩ := hSw.1.cells; obtain ⟨sl, s0, s1, s2, s3, s4, s5, s6⟩ := hSw.2.cells; simp only at s0 s1 s2 s3 s4 s5 s6; go_simp <;> with_reducible rfl)
          simp only [Act.put, List.setIfInBounds_toArray, List.set_cons_zero, List.set_cons_succ]
          refine wpAnyH_take (i := 2) (oi := { dst := some 47, op := Go.Op.move (Go.Operand.tmp 10), type := 3, pos := "ref.go:135", after := #[], guard := none }) (v := ?_) rfl (by kernel_rfl) (by kernel_rfl) (by kernel_rfl) (fun _ _ _ h => h) (Or.inl ⟨by rfl, ?_⟩) hHeld ?_
          rotate_left
          · (intro w hSw; obtain ⟨p0, p1, p2, p3, p4, p5, p6⟩ := hSw.1.cells; obtain ⟨sl, s0, s1, s2, s3, s4, s5, s6⟩ := hSw.2.cells; simp only at s0 s1 s2 s3 s4 s5 s6; go_simp <;> with_reducible rfl)
          simp only [Act.put, List.setIfInBounds_toArray, List.set_cons_zero, List.set_cons_succ]
          refine wpAnyH_take (i := 3) (oi := { dst := some 48, op := Go.Op.load 83 (Go.Operand.tmp 12), type := 83, pos := "ref.go:135", after := #[], guard := none }) (v := ?_) rfl (by kernel_rfl) (by kernel_rfl) (by kernel_rfl) (fun _ _ _ h => h) (Or.inl ⟨by rfl, ?_⟩) hHeld ?_
          rotate_left
          · (intro w hSw; obtain ⟨p0, p1, p2, p3, p4, p5, p6⟩ := hSw.1.cells; obtain ⟨sl, s0, s1, s2, s3, s4, s5, s6⟩ := hSw.2.cells; simp only at s0 s1 s2 s3 s4 s5 s6; go_simp <;> with_reducible rfl)
          simp only [Act.put, List.setIfInBounds_toArray, List.set_cons_zero, List.set_cons_succ]
          refine wpAnyH_ready (rs := [4]) (by kernel_rfl) (by simp) (AllReadyH.cons (o := { dst := some 49, op := Go.Op.call { callee := Go.Callee.value (Go.Operand.func 59), args := #[Go.Operand.tmp 48], argTypes := #[83] }, type := 9, pos := "ref.go:135", after := #[{ on := 3, ground := Go.Ground.data }], guard := none }) rfl (fun K hK => ?_) AllReadyH.nil)
          · go_simp
            refine (CE.out _).mono ?_
            rintro e v1 ⟨rfl, hb⟩
            have BV1 := Lib.hid (below_then B4.out hb)
            have OV1 := Lib.hid (O4.out.under hb)
            have hSS := Lib.hid (And.intro (PgBox.below hHeld.1 hb) (SgBox.below hHeld.2 hb))
            clear hb
            refine hK.out _ _ ?_ (fun hHeld => ?_)
            · exact hSS.out
            clear hK K
            (try simp only [Act.put, List.setIfInBounds_toArray, List.set_cons_zero, List.set_cons_succ])
            refine wpAnyH_take (i := 5) (oi := { dst := some 50, op := Go.Op.build 28 #[(0, Go.Operand.const (Go.Value.int Go.IntKind.u8 3)), (1, Go.Operand.tmp 46), (2, Go.Operand.tmp 47), (4, Go.Operand.tmp 49)], type := 28, pos := "ref.go:135", after := #[{ on := 1, ground := Go.Ground.data }, { on := 2, ground := Go.Ground.data }, { on := 4, ground := Go.Ground.data }], guard := none }) (v := ?_) rfl (by kernel_rfl) (by kernel_rfl) (by kernel_rfl) (fun _ _ _ h => h) (Or.inl ⟨by rfl, ?_⟩) hHeld ?_
            rotate_left
            · (intro w hSw; obtain ⟨p0, p1, p2, p3, p4, p5, p6⟩ := hSw.1.cells; obtain ⟨sl, s0, s1, s2, s3, s4, s5, s6⟩ := hSw.2.cells; simp only at s0 s1 s2 s3 s4 s5 s6; go_simp <;> with_reducible rfl)
            simp only [Act.put, List.setIfInBounds_toArray, List.set_cons_zero, List.set_cons_succ]
            refine wpAnyH_ready (rs := [6]) (by kernel_rfl) (by simp) (AllReadyH.cons (o := { dst := none, op := Go.Op.store 28 (Go.Operand.tmp 6) (Go.Operand.tmp 50), type := 0, pos := "ref.go:135", after := #[{ on := 5, ground := Go.Ground.data }, { on := 4, ground := Go.Ground.chain }, { on := 0, ground := Go.Ground.phase }, { on := 1, ground := Go.Ground.phase }, { on := 2, ground := Go.Ground.phase }, { on := 3, ground := Go.Ground.phase }, { on := 4, ground := Go.Ground.phase }, { on := 5, ground := Go.Ground.phase }], guard := none }) rfl (fun K hK => ?_) AllReadyH.nil)
            · refine step_store_op rfl (.tmp 6) (.tmp 50) rfl OV1.out ⟨3, id, (ia : Nat), 0, en, [], 0, 0, 0⟩ none 0 0 (by rfl) (by rfl) ?_
              intro v2 hOq hKq
              have OS := Lib.hid hOq
              have KS := Lib.hid hKq
              have hS2 := Lib.hid (And.intro (PgBox.kept hHeld.1 hKq (by omega)) (SgBox.kept hHeld.2 hKq (by omega)))
              clear hOq hKq
              refine hK.out _ _ ?_ (fun hHeld => ?_)
              · exact hS2.out
              clear hK K
              (try simp only [Act.put, List.setIfInBounds_toArray, List.set_cons_zero, List.set_cons_succ])
              refine wpAnyH_take (i := 7) (oi := { dst := some 7, op := Go.Op.assign (Go.Operand.const (Go.Value.int Go.IntKind.i64 0)), type := 34, pos := "ref.go:135", after := #[{ on := 6, ground := Go.Ground.chain }, { on := 0, ground := Go.Ground.phase }, { on := 1, ground := Go.Ground.phase }, { on := 2, ground := Go.Ground.phase }, { on := 3, ground := Go.Ground.phase }, { on := 4, ground := Go.Ground.phase }, { on := 5, ground := Go.Ground.phase }, { on := 6, ground := Go.Ground.phase }], guard := none }) (v := ?_) rfl (by kernel_rfl) (by kernel_rfl) (by kernel_rfl) (fun _ _ _ h => h) (Or.inl ⟨by rfl, ?_⟩) hHeld ?_
              rotate_left
              · (intro w hSw; obtain ⟨p0, p1, p2, p3, p4, p5, p6⟩ := hSw.1.cells; obtain ⟨sl, s0, s1, s2, s3, s4, s5, s6⟩ := hSw.2.cells; simp only at s0 s1 s2 s3 s4 s5 s6; go_simp <;> with_reducible rfl)
              simp only [Act.put, List.setIfInBounds_toArray, List.set_cons_zero, List.set_cons_succ]
              refine wpAnyH_done (by kernel_rfl) ?_ _
              go_wp2_with fail
              refine bodyPost_ret (results_op2 (p := 6) (u := 7) (o := ⟨3, id, (ia : Nat), 0, en, [], 0, 0, 0⟩) (sv := .slice none 0 0) (by kernel_rfl) _ _ rfl OS.out) rfl ?_
              exact ⟨by rw [HD2.out]; rfl, OthersKept.below BV1.out KS.out (fun k hk e => by omega)⟩
end Go.Proofs.Ytienlhnbmobinaa
end

section
/- chapter 22: Head, copied, SameOp of an op and itself; what works shows -/
namespace Go.Proofs.Ytienlhnbmobinaa
open Go.RowKit
set_option linter.unusedVariables false
set_option linter.unusedSimpArgs false
theorem PgBox.zero (w : World) : PgBox (w.alloc (.cells #[.int .u8 0, .int .u8 0, .int .u32 0, .int .u64 0, .int .u32 0, .slice none 0 0] 26)) w.heap.size 0 0 0 0 0 (.slice none 0 0) := PgBox.new w 0 0 0 0 0 (.slice none 0 0)
theorem TextsAt.off_pg {w w' : World} {g kind level id lsn next : Nat} {sv v : Value} {ts : List (List UInt8)} (h : TextsAt w v ts) (hp : PgBox w g kind level id lsn next sv) (hs : ∀ s, sv ≠ .string s) (hk : OthersKept w w' (fun k => k = g)) : TextsAt w' v ts := by
  obtain ⟨A, cp, h1, h2, h3, h4, h5⟩ := h
  refine ⟨A, cp, h1, h2, h3, h4, fun h0 => ?_⟩
  obtain ⟨b, o, h6, h7, h8⟩ := h5 h0
  have hne : b ≠ g := by
    intro e
    subst e
    have h9 := h8 0 h0
    rw [blk_cell hp] at h9
    have h10 : o + 0 < 6 := by
      have := (Array.getElem?_eq_some_iff.1 h9).1
      simpa using this
    obtain rfl | rfl | rfl | rfl | rfl | rfl : o = 0 ∨ o = 1 ∨ o = 2 ∨ o = 3 ∨ o = 4 ∨ o = 5 := by omega
    all_goals first
      | (simp at h9; done)
      | (simp at h9; exact hs _ h9)
  exact ⟨b, o, h6, Nat.lt_of_lt_of_le h7 hk.size, fun j hj => hk.cell (h8 j hj) hne⟩
theorem results_pg1 {fn : Func} {p : Tmp} (h : fn.results = #[.cell p 26]) (tmps : Array Value) (w : World) {g kind level id lsn next : Nat} {sv : Value} (hp : tmps.getD p undef = .pointer (some ⟨g, 0, none⟩)) (hb : PgBox w g kind level id lsn next sv) :
    (results fn tmps).run Try.prog w = .ok (.agg #[.int .u8 kind, .int .u8 level, .int .u32 id, .int .u64 lsn, .int .u32 next, sv]) w := by
  unfold PgBox at hb
  have hp2 : tmps[p]?.getD undef = .pointer (some ⟨g, 0, none⟩) := by simpa using hp
  simp [results, h, hp2, asAddr, run_loadVar_row w g 26 26 _ (0, 0) _ hb Try.underlying26 rfl (by kernel_rfl), Result.andThen]
set_option maxHeartbeats 2000000 in
set_option maxRecDepth 100000 in
theorem copied22_any (p : Pg) (sv : Value) (w : World) (ht : TextsAt w sv p.rows) (hn9 : p.rows.length ≤ 1000000) :
    Calls Try.prog 65 #[pgV p sv] w fun e w' => ∃ sv', e = .returned (pgV p sv') ∧ TextsAt w' sv' p.rows ∧ Below w.heap.size w w' := by
  have HT := Lib.hid ht
  obtain ⟨n, hn⟩ : ∃ n, n = p.rows.length := ⟨_, rfl⟩
  obtain ⟨A, cp, hsv, h2, h3, h4, h5⟩ := ht
  rw [← hn] at hsv h2 hn9
  subst hsv
  unfold maxLen at h3
  have HN := Lib.hid hn
  clear h4 h5 hn
  obtain ⟨kind, level, id, lsn, next, rows⟩ := p
  simp only at HT HN
  obtain ⟨i0, hif, hz0, hz1, hz2⟩ := info_parts Try.infoStrM
  have HI := Lib.hid hif
  have HI0 := Lib.hid hz0
  have HI1 := Lib.hid hz1
  have HI2 := Lib.hid hz2
  clear hif hz0 hz1 hz2
  have b0 := alloc_below w (.cells #[.int .u8 kind, .int .u8 level, .int .u32 id, .int .u64 lsn, .int .u32 next, .slice A n cp] 26)
  have P0 := Lib.hid ((PgBox.new w kind level id lsn next (.slice A n cp)).keep (.cells #[.int .u8 0, .int .u8 0, .int .u32 0, .int .u64 0, .int .u32 0, .slice none 0 0] 26))
  have b1 := alloc_below (w.alloc (.cells #[.int .u8 kind, .int .u8 level, .int .u32 id, .int .u64 lsn, .int .u32 next, .slice A n cp] 26)) (.cells #[.int .u8 0, .int .u8 0, .int .u32 0, .int .u64 0, .int .u32 0, .slice none 0 0] 26)
  have B0 := Lib.hid (below_then b0 b1)
  have Z0 := Lib.hid (PgBox.zero (w.alloc (.cells #[.int .u8 kind, .int .u8 level, .int .u32 id, .int .u64 lsn, .int .u32 next, .slice A n cp] 26)))
  have hz1 : (w.alloc (.cells #[.int .u8 kind, .int .u8 level, .int .u32 id, .int .u64 lsn, .int .u32 next, .slice A n cp] 26)).heap.size = w.heap.size + 1 := by simp
  rw [hz1] at Z0
  have T0 := Lib.hid (HT.out.below B0.out)
  unfold pgV
  simp only
  clear b0 b1 hz1 HT
  go_enter Try.func65, Try.ntmps65
  go_upto_region 1 with fail
  generalize (w.alloc (.cells #[.int .u8 kind, .int .u8 level, .int .u32 id, .int .u64 lsn, .int .u32 next, .slice A n cp] 26)).alloc (.cells #[.int .u8 0, .int .u8 0, .int .u32 0, .int .u64 0, .int .u32 0, .slice none 0 0] 26) = w0 at *
  obtain ⟨x0, x1, x2, x3, x4, x5, x6⟩ := P0.out.cells
  have hz : w.heap.size + 1 < w0.heap.size := Z0.out.lt
  have TR := Lib.hid T0.out.reads
  rw [← HN.out] at TR
  go_upto_region 2 with (at_builtin; refine wpList_append_any _ rfl _ _ 24 rfl w0.heap.size 9 i0 (.string ⟨#[]⟩) 1 16 Try.underlying24 HI.out HI0.out HI1.out HI2.out rfl (by decide) (.slice none 0 0) 0 [] (by rfl) (World.ownsRow_nil _ _ _ _) (.slice A n cp) n (strs rows) (by rfl) TR.out (strs_oneCell _) (by unfold maxLen; omega) (by omega) (Nat.le_refl _) ?_; intro v7 w7 hown7 hgrow7; simp only [Nat.zero_add, List.nil_append] at hown7; obtain ⟨rb, rc, hv7, _, hrc, _⟩ := own_form hown7; subst hv7; have HO := Lib.hid hown7; have PG := Lib.hid (P0.out.grown hgrow7 (by simp [Value.ownBlock])); have ZG := Lib.hid (Z0.out.grown hgrow7 (by simp [Value.ownBlock])); have BG := Lib.hid (B0.out.grown hgrow7 (by omega) (fun j hj => by cases hj)); clear hown7 hgrow7 x0 x1 x2 x3 x4 x5 x6; obtain ⟨x0, x1, x2, x3, x4, x5, x6⟩ := PG.out.cells; obtain ⟨f0, f1, f2, f3, f4, f5⟩ := PG.out.fr)
  have hk := one_kept w7 w.heap.size 5 (.slice rb n rc)
  have P8 := Lib.hid (PG.out.set5 (.slice rb n rc))
  have Z8 := Lib.hid (ZG.out.kept hk (by omega))
  have T8 := Lib.hid (TextsAt.off_pg (texts_own HO.out).1 PG.out (fun x e => by cases e) hk)
  have B8 := Lib.hid (OthersKept.below BG.out hk (fun k hk e => by omega))
  generalize w7.setCell ⟨w.heap.size, 5, none⟩ (.slice rb n rc) = w8 at *
  clear x0 x1 x2 x3 x4 x5 x6 f0 f1 f2 f3 f4 f5 hk PG ZG BG HO
  obtain ⟨x0, x1, x2, x3, x4, x5, x6⟩ := P8.out.cells
  go_wp2_with (refine wpList_store_pg rfl (.tmp 2) (.tmp 7) rfl Z8.out kind level id lsn next rb n rc (by rfl) (by rfl) ?_; intro wSg hP hK; have PS := Lib.hid hP; have KS := Lib.hid hK; clear hP hK)
  refine bodyPost_ret (results_pg1 (p := 2) (by kernel_rfl) _ _ rfl PS.out) rfl ?_
  exact ⟨_, rfl, TextsAt.off_pg T8.out Z8.out (fun x e => by cases e) KS.out, OthersKept.below B8.out KS.out (fun k hk e => by omega)⟩
set_option maxHeartbeats 4000000 in
set_option maxRecDepth 100000 in
theorem sameOp_any (a : Od) (w : World) : Calls Try.prog 39 #[.agg #[.int .u8 a.kind, .int .u32 a.page, .int .i64 a.at_, .int .i64 a.off, .string ⟨a.text.toArray⟩, .slice none 0 0, .int .u8 a.pk, .int .u8 a.lv, .int .u32 a.nx], .agg #[.int .u8 a.kind, .int .u32 a.page, .int .i64 a.at_, .int .i64 a.off, .string ⟨a.text.toArray⟩, .slice none 0 0, .int .u8 a.pk, .int .u8 a.lv, .int .u32 a.nx]] w fun e w' => e = .returned (.bool true) ∧ Below w.heap.size w w' := by
  obtain ⟨kind, page, at_, off, text, rows, pk, lv, nx⟩ := a
  simp only
  have OA := Lib.hid (OAt.new w ⟨kind, page, at_, off, text, rows, pk, lv, nx⟩ (.slice none 0 0))
  have b0 := alloc_below w (.cells #[.int .u8 kind, .int .u32 page, .int .i64 at_, .int .i64 off, .string ⟨text.toArray⟩, .slice none 0 0, .int .u8 pk, .int .u8 lv, .int .u32 nx] 28)
  have OB := Lib.hid (OAt.new (w.alloc (.cells #[.int .u8 kind, .int .u32 page, .int .i64 at_, .int .i64 off, .string ⟨text.toArray⟩, .slice none 0 0, .int .u8 pk, .int .u8 lv, .int .u32 nx] 28)) ⟨kind, page, at_, off, text, rows, pk, lv, nx⟩ (.slice none 0 0))
  have OA2 := Lib.hid (OA.out.keep (.cells #[.int .u8 kind, .int .u32 page, .int .i64 at_, .int .i64 off, .string ⟨text.toArray⟩, .slice none 0 0, .int .u8 pk, .int .u8 lv, .int .u32 nx] 28))
  have B0 := Lib.hid (b0.alloc b0.size (.cells #[.int .u8 kind, .int .u32 page, .int .i64 at_, .int .i64 off, .string ⟨text.toArray⟩, .slice none 0 0, .int .u8 pk, .int .u8 lv, .int .u32 nx] 28))
  rw [World.size_alloc] at OB
  simp only at OB OA2
  have e0 : ((kind : Int) == (kind : Int)) = true := by simp
  have e1 : ((page : Int) == (page : Int)) = true := by simp
  have e2 : (at_ == at_) = true := by simp
  have e3 : (off == off) = true := by simp
  have e4 : (text == text) = true := by simp
  have e5 : ((pk : Int) == (pk : Int)) = true := by simp
  have e6 : ((lv : Int) == (lv : Int)) = true := by simp
  have e7 : ((nx : Int) == (nx : Int)) = true := by simp
  clear b0 OA
  go_enter Try.func39, Try.ntmps39
  go_upto_region 1 with fail
  generalize (w.alloc (.cells #[.int .u8 kind, .int .u32 page, .int .i64 at_, .int .i64 off, .string ⟨text.toArray⟩, .slice none 0 0, .int .u8 pk, .int .u8 lv, .int .u32 nx] 28)).alloc (.cells #[.int .u8 kind, .int .u32 page, .int .i64 at_, .int .i64 off, .string ⟨text.toArray⟩, .slice none 0 0, .int .u8 pk, .int .u8 lv, .int .u32 nx] 28) = w0 at *
  obtain ⟨x0, x1, x2, x3, x4, x5, x6, x7, x8⟩ := OA2.out.cells
  obtain ⟨y0, y1, y2, y3, y4, y5, y6, y7, y8⟩ := OB.out.cells
  simp only at x0 x1 x2 x3 x4 x5 x6 x7 x8 y0 y1 y2 y3 y4 y5 y6 y7 y8
  go_wp2_with fail
  go_loopw [5] (fun s5 wr => s5 = .int .i64 0 ∧ wr = w0) (fun _ _ => 0)
  case atStart => exact ⟨rfl, rfl⟩
  case round =>
    obtain ⟨rfl, rfl⟩ := hrel
    go_wp2_with fail
    go_ret
    exact ⟨rfl, B0.out⟩
theorem eqSegSelf (s : Sg) (w : World) : (binOp .eql 83 (.agg #[.int .u64 s.tx, .int .u8 s.st, .int .u64 s.num, .int .u32 s.fp, .int .u32 s.lp, .int .u32 s.hp, .int .u16 s.hs]) (.agg #[.int .u64 s.tx, .int .u8 s.st, .int .u64 s.num, .int .u32 s.fp, .int .u32 s.lp, .int .u32 s.hp, .int .u16 s.hs])).run Try.prog w = .ok (.bool true) w := by
  simp [go_sem]
theorem neSegSelf (s : Sg) (w : World) : (binOp .neq 83 (.agg #[.int .u64 s.tx, .int .u8 s.st, .int .u64 s.num, .int .u32 s.fp, .int .u32 s.lp, .int .u32 s.hp, .int .u16 s.hs]) (.agg #[.int .u64 s.tx, .int .u8 s.st, .int .u64 s.num, .int .u32 s.fp, .int .u32 s.lp, .int .u32 s.hp, .int .u16 s.hs])).run Try.prog w = .ok (.bool false) w := by
  simp [go_sem]
theorem head22_any (id : Nat) (w : World) : Calls Try.prog 77 #[.int .u32 id] w fun e w' => e = .returned (pgV ⟨5, 0, id, 0, 0, []⟩ (.slice none 0 0)) ∧ Below w.heap.size w w' := by
  have P0 := Lib.hid (PgBox.new w 0 0 0 0 0 (.slice none 0 0))
  have B0 := Lib.hid (alloc_below w (.cells #[.int .u8 (0 : Nat), .int .u8 (0 : Nat), .int .u32 (0 : Nat), .int .u64 (0 : Nat), .int .u32 (0 : Nat), .slice none 0 0] 26))
  go_enter Try.func77, Try.ntmps77
  go_upto_region 1 with fail
  have hw0 : ∃ w0, w0 = w.alloc (.cells #[.int .u8 0, .int .u8 0, .int .u32 0, .int .u64 0, .int .u32 0, .slice none 0 0] 26) := ⟨_, rfl⟩
  obtain ⟨w0, hw0⟩ := hw0
  have P1 : Hid (PgBox w0 w.heap.size 0 0 0 0 0 (.slice none 0 0)) := by rw [hw0]; exact P0.out
  have B1 : Hid (Below w.heap.size w w0) := by rw [hw0]; exact B0.out
  rw [← hw0]
  clear hw0 P0 B0
  go_wp2_with (refine wpList_store_pg rfl (.tmp 2) (.tmp 4) rfl P1.out 5 0 id 0 0 none 0 0 (by rfl) (by rfl) ?_; intro wSg hP hK; have PF := Lib.hid hP; have KF := Lib.hid hK; clear hP hK)
  have hres := results_pg1 (fn := Try.f77) (p := 2) (by kernel_rfl)
  refine bodyPost_ret (hres _ _ rfl PF.out) rfl ⟨rfl, OthersKept.below B1.out KF.out (fun k hk e => by omega)⟩
def wSg : Sg := ⟨7, 1, 0, 9, 9, 9, 0⟩
def wP0 : Pg := ⟨5, 0, 3, 0, 0, []⟩
theorem SegP.fits {p : Pg} {L : List Sg} (h : SegP p L) : p.wf ∧ weightB p.rows ≤ 1000 ∧ p.rows.length ≤ 13 := by
  refine ⟨h.1, ?_, ?_⟩
  · rw [h.2.2.2.1, weight_enc]
    have := h.2.2.2.2.2.2
    omega
  · rw [h.2.2.2.1, List.length_map]
    exact h.2.2.2.2.2.2
theorem works_law : ∃ o q c r, sPutB wP0 wSg = (o, 0) ∧ (o.wf ∧ o.small ∧ o.rows = []) ∧ applyB wP0 o 1 = (q, 0) ∧ (q.wf ∧ weightB q.rows ≤ 1000 ∧ q.rows.length ≤ 13) ∧ sFindB q 7 = (wSg, true) ∧ sCommitB q 7 4 = (c, 0) ∧ (c.wf ∧ c.small ∧ c.rows = []) ∧ applyB q c 2 = (r, 0) ∧ (r.wf ∧ weightB r.rows ≤ 1000 ∧ r.rows.length ≤ 13) ∧ allB 2 [r, wP0] = [wSg.done 4] ∧ allB 1 [q] = [wSg] ∧ sDropB wP0 7 = (Od.zero, 3) := by
  have h0 : SegP wP0 [] := head_seg 3 (by decide) (by decide)
  have hm : wSg.may = true := by decide
  have hw : wSg.wf := by unfold wSg Sg.wf; decide
  have hmd : (wSg.done 4).may = true := by decide
  have hwd : (wSg.done 4).wf := by unfold wSg Sg.done Sg.wf; decide
  obtain ⟨e1, e2⟩ := apply_put (s := wSg) (lsn := 1) h0 (by decide) hm hw rfl (by decide)
  have hL1 : segWith [] wSg = [wSg] := rfl
  rw [hL1] at e1 e2
  obtain ⟨e3, e4⟩ := apply_set (s := wSg.done 4) (lsn := 2) e2 (by decide) hmd hwd rfl
  have hL2 : segWith [wSg] (wSg.done 4) = [wSg.done 4] := rfl
  rw [hL2] at e3 e4
  refine ⟨_, _, _, _, ?_, ⟨?_, ?_, ?_⟩, e1, e2.fits, ?_, ?_, ⟨?_, ?_, ?_⟩, e3, e4.fits, ?_, ?_, ?_⟩
  · unfold sPutB sPutO
    rw [h0.to]
    simp only
    rw [if_pos hm]
    rfl
  · exact od_wf (by decide) (by decide) (by decide)
  · exact od_small (by rw [sg_len]; decide)
  · rfl
  · unfold sFindB
    rw [e2.to]
    rfl
  · unfold sCommitB
    rw [e2.to]
    rfl
  · exact od_wf (by decide) (by decide) (by decide)
  · exact od_small (by rw [sg_len]; decide)
  · rfl
  · unfold allB
    simp only [List.flatMap_cons, List.flatMap_nil]
    rw [e4.to, h0.to]
    rfl
  · unfold allB
    simp only [List.flatMap_cons, List.flatMap_nil]
    rw [e2.to]
    rfl
  · unfold sDropB
    rw [h0.to]
    rfl
theorem of22_any (tx : Nat) (w : World) (h : tx < 256 ^ 8) : Calls Try.prog 76 #[.int .u64 tx] w fun e w' => e = .returned (.int .i64 ((tx % 4 : Nat) : Int)) ∧ w = w' := by
  have hx : (tx : Int) % 4 = ((tx % 4 : Nat) : Int) := by omega
  have h4 := Nat.mod_lt tx (show 4 > 0 by omega)
  obtain ⟨r, hr⟩ : ∃ r, r = tx % 4 := ⟨_, rfl⟩
  rw [← hr] at hx h4 ⊢
  clear hr
  go_enter Try.func76, Try.ntmps76
  go_wp2_with fail
  go_ret
  exact ⟨by first | rfl | (rw [← hx]; rfl) | (simp [hx]), rfl⟩
end Go.Proofs.Ytienlhnbmobinaa
end

section
/- rows of transactions that came in -/
namespace Go.Proofs.Ytienlhnbmobinaa
open Go.RowKit
set_option linter.unusedVariables false
set_option linter.unusedSimpArgs false
theorem spot_noneG {w : World} {x : Addr} {v : Value} (h : w.cell? x = some v) : ∃ b o, x = ⟨b, o, none⟩ := by
  obtain ⟨b, o, sp⟩ := x
  cases sp with
  | none => exact ⟨b, o, rfl⟩
  | some k =>
    unfold World.cell? at h
    simp at h
    split at h <;> simp at h
/-- Rows of transactions that came in. -/
theorem segs_of_rows {R : TypeId → Value → Prop} {w : World} {a : Option Addr} {len cap : Nat} (h : IsRows R [.u64, .u8, .u64, .u32, .u32, .u32, .u16] w a len cap) : ∃ L : List Sg, SegsAt w (.slice a len cap) L ∧ ∀ s ∈ L, s.wf := by
  rcases h with ⟨rfl, rfl, rfl⟩ | ⟨x, rfl, hl, hc, hcell⟩
  · exact ⟨[], ⟨none, 0, rfl, Nat.le_refl _, Nat.zero_le _, fun h => absurd h (Nat.lt_irrefl 0)⟩, fun c h => (by cases h)⟩
  · have hall : ∀ i, i < len → ∃ c : Sg, (∀ j u, c.cell[j]? = some u → w.cell? (x.add (i * 7 + j)) = some u) ∧ c.wf := by
      intro i hi
      obtain ⟨v0, h0, n0, rfl, hn0⟩ := hcell i hi 0 .u64 rfl
      obtain ⟨v1, h1, n1, rfl, hn1⟩ := hcell i hi 1 .u8 rfl
      obtain ⟨v2, h2, n2, rfl, hn2⟩ := hcell i hi 2 .u64 rfl
      obtain ⟨v3, h3, n3, rfl, hn3⟩ := hcell i hi 3 .u32 rfl
      obtain ⟨v4, h4, n4, rfl, hn4⟩ := hcell i hi 4 .u32 rfl
      obtain ⟨v5, h5, n5, rfl, hn5⟩ := hcell i hi 5 .u32 rfl
      obtain ⟨v6, h6, n6, rfl, hn6⟩ := hcell i hi 6 .u16 rfl
      refine ⟨⟨n0, n1, n2, n3, n4, n5, n6⟩, fun j u hu => ?_, hn0, hn1, hn2, hn3, hn4, hn5, hn6⟩
      match j, hu with
      | 0, hu => injection hu with hu; rw [← hu]; exact h0
      | 1, hu => injection hu with hu; rw [← hu]; exact h1
      | 2, hu => injection hu with hu; rw [← hu]; exact h2
      | 3, hu => injection hu with hu; rw [← hu]; exact h3
      | 4, hu => injection hu with hu; rw [← hu]; exact h4
      | 5, hu => injection hu with hu; rw [← hu]; exact h5
      | 6, hu => injection hu with hu; rw [← hu]; exact h6
      | k + 7, hu => simp [Sg.cell] at hu
    have hL : ∃ L : List Sg, L.length = len ∧ ∀ i (h : i < L.length), (∀ j u, L[i].cell[j]? = some u → w.cell? (x.add (i * 7 + j)) = some u) ∧ L[i].wf := by
      refine ⟨List.ofFn (fun i : Fin len => (hall i.1 i.2).choose), by simp, fun i hi => ?_⟩
      have hi2 : i < len := by simpa using hi
      rw [List.getElem_ofFn]
      exact (hall i hi2).choose_spec
    obtain ⟨L, hlen, hLc⟩ := hL
    subst hlen
    refine ⟨L, ⟨some x, cap, rfl, hl, hc, fun h0 => ?_⟩, fun s hs => ?_⟩
    · have hc0 := (hLc 0 h0).1 0 _ rfl
      obtain ⟨b, o, hx⟩ := spot_noneG hc0
      have hx2 : ∃ b o, x = ⟨b, o, none⟩ := by
        obtain ⟨xb, xo, xs⟩ := x
        cases xs with
        | none => exact ⟨xb, xo, rfl⟩
        | some k => simp [Addr.add] at hx
      obtain ⟨b2, o2, rfl⟩ := hx2
      refine ⟨b2, o2, rfl, ?_, fun j hj i u hu => ?_⟩
      · rw [Addr.add_lit] at hc0
        exact cell_lt hc0
      · have := (hLc j hj).1 i u hu
        rw [Addr.add_lit, ← Nat.add_assoc] at this
        exact this
    · obtain ⟨i, hi, rfl⟩ := List.getElem_of_mem hs
      exact (hLc i hi).2
end Go.Proofs.Ytienlhnbmobinaa
end
