/- Kept of our texts for this claim: SegCalls OpWrite OpIn RefGet OpEnc RefBytes11 -/
import Derived.Test.YtienlhnbmobinaaGreatRows
import Derived.Test.YtienlhnbmobinaaGreatAdAt
import Derived.Test.YtienlhnbmobinaaGreatAdAs
import Derived.Test.YtienlhnbmobinaaGreatAdAa
import Derived.Test.YtienlhnbmobinaaGreatAdAc
import Derived.Test.YtienlhnbmobinaaGreatAdAk
import Derived.Test.YtienlhnbmobinaaGreatAdAb
import Derived.Test.YtienlhnbmobinaaGreatAdAr
import Derived.WalkKit
import Derived.WalkLawsBesides
import Derived.WalkSpells
import Derived.LoopTactic
import Derived.WalkMore
import Derived.LoopN
import Derived.Laws.BitsAllLaws
import Derived.Laws.IdiomStrings
import Derived.BigQuiet
import Derived.Deep.QuietTactic
import Derived.Deep.DeepCutAuto
import Derived.Deep.RegionHeld3
import Derived.Deep.DrawnRows
import Derived.Lib.Hide
import Derived.Outline
import Derived.Deep.DeepMust
import Derived.Handy
import Derived.Test.YtienlhnbmobinaaGreatAdAq
import Derived.Test.YtienlhnbmobinaaGreatAdAl
import Derived.Deep.CutBlock
import Derived.Test.YtienlhnbmobinaaGreatAdAp
import Derived.Test.YtienlhnbmobinaaGreatAdAo
import Derived.Test.YtienlhnbmobinaaGreatAdAm
import Derived.Test.YtienlhnbmobinaaGreatAdAn
import Derived.Test.YtienlhnbmobinaaGreatAdAd
section
/- chapter 22: Find, Drop, Put -/
namespace Go.Proofs.YtienlhnbmobinaaGreat
open Go.RowKit
set_option linter.unusedVariables false
set_option linter.unusedSimpArgs false
set_option maxHeartbeats 4000000 in
set_option maxRecDepth 100000 in
theorem segFind_any (p : Pg) (sv : Value) (tx : Nat) (w : World) (hp : p.wf) (ht : TextsAt w sv p.rows) (hb : weightB p.rows ≤ 1000000) :
    Calls Tryz.prog 17 #[pgV p sv, .int .u64 tx] w fun e w' => e = .returned (.tuple #[sgV (sFindB p tx).1, .bool (sFindB p tx).2]) ∧ Below w.heap.size w w' := by
  have CF := Lib.hid fun W (h : TextsAt W sv p.rows) => segfind_any p sv tx W hp h hb
  have hdef : sFindB p tx = (match segsB p with | none => (Sg.zero, false) | some L => if segIs L tx then (L.getD (segAt L tx) Sg.zero, true) else (Sg.zero, false)) := rfl
  have HT := Lib.hid ht
  have hnb : p.rows.length ≤ 1000000 := by have := weightB_length p.rows; omega
  obtain ⟨n, hn⟩ : ∃ n, n = p.rows.length := ⟨_, rfl⟩
  obtain ⟨A, cp, hsv, _, _, _, _⟩ := ht
  rw [← hn] at hsv
  subst hsv
  generalize segsB p = R at *
  generalize sFindB p tx = res at *
  clear hp hb hn hnb
  unfold pgV at *
  obtain ⟨kind, level, id, lsn, next, rows⟩ := p
  simp only at *
  have P0 : Hid (PgBox (w.alloc (.cells #[.int .u8 kind, .int .u8 level, .int .u32 id, .int .u64 lsn, .int .u32 next, .slice A n cp] 26)) w.heap.size kind level id lsn next (.slice A n cp)) := PgBox.new w kind level id lsn next (.slice A n cp)
  have B0 := Lib.hid (alloc_below w (.cells #[.int .u8 kind, .int .u8 level, .int .u32 id, .int .u64 lsn, .int .u32 next, .slice A n cp] 26))
  have hz1 : ((w.alloc (.cells #[.int .u8 kind, .int .u8 level, .int .u32 id, .int .u64 lsn, .int .u32 next, .slice A n cp] 26))).heap.size = w.heap.size + 1 := by simp
  have Z0 : Hid (SgBox ((w.alloc (.cells #[.int .u8 kind, .int .u8 level, .int .u32 id, .int .u64 lsn, .int .u32 next, .slice A n cp] 26)).alloc (.cells #[.int .u64 0, .int .u8 0, .int .u64 0, .int .u32 0, .int .u32 0, .int .u32 0, .int .u16 0] 52)) (w.heap.size + 1) Sg.zero) := by
    have h := heap_alloc_new (w.alloc (.cells #[.int .u8 kind, .int .u8 level, .int .u32 id, .int .u64 lsn, .int .u32 next, .slice A n cp] 26)) (.cells #[.int .u64 0, .int .u8 0, .int .u64 0, .int .u32 0, .int .u32 0, .int .u32 0, .int .u16 0] 52)
    rw [hz1] at h
    exact h
  have B0 := Lib.hid (B0.out.alloc B0.out.size (.cells #[.int .u64 0, .int .u8 0, .int .u64 0, .int .u32 0, .int .u32 0, .int .u32 0, .int .u16 0] 52))
  have P0 := Lib.hid (P0.out.keep (.cells #[.int .u64 0, .int .u8 0, .int .u64 0, .int .u32 0, .int .u32 0, .int .u32 0, .int .u16 0] 52))
  clear hz1
  go_enter Tryz.func17, Tryz.ntmps17
  go_upto_region 1 with fail
  generalize ((w.alloc (.cells #[.int .u8 kind, .int .u8 level, .int .u32 id, .int .u64 lsn, .int .u32 next, .slice A n cp] 26)).alloc (.cells #[.int .u64 0, .int .u8 0, .int .u64 0, .int .u32 0, .int .u32 0, .int .u32 0, .int .u16 0] 52)) = w0 at *
  have T0 := Lib.hid (HT.out.below B0.out)
  clear HT
  obtain ⟨p0, p1, p2, p3, p4, p5, p6⟩ := P0.out.cells
  go_wp2_with fail
  refine (CF.out _ T0.out).mono ?_
  rintro e w1 ⟨v, rfl, hO, hb⟩
  have V1 := Lib.hid (OwnSegs.mono hO B0.out.size)
  clear hO CF
  clear p0 p1 p2 p3 p4 p5 p6
  have B1 := Lib.hid (below_then B0.out hb)
  have P1 := Lib.hid (P0.out.below hb)
  have Z1 := Lib.hid (Z0.out.below hb)
  have T1 := Lib.hid (T0.out.below hb)
  clear hb B0 P0 Z0 T0
  cases R with
  | none =>
    simp only [Option.isSome_none, Option.getD_none] at *
    (try simp only [Bool.false_eq_true, if_false] at *)
    have HD := Lib.hid hdef
    clear hdef
    go_wp2_with (refine wpList_store_sg rfl (.tmp 4) (.tmp 20) rfl Z1.out Sg.zero (by rfl) (by rfl) ?_; intro wS hP hK; have PF := Lib.hid hP; have KF := Lib.hid hK; clear hP hK)
    refine bodyPost_ret (results_sg rfl _ _ rfl PF.out) rfl ⟨?_, OthersKept.below B1.out KF.out (fun k hk e => by omega)⟩
    exact congrArg Ending.returned (by rw [HD.out]; rfl)
  | some L =>
    simp only [Option.isSome_some, Option.getD_some, if_true] at *
    obtain ⟨ia, hia⟩ : ∃ z : Nat, z = segAt L tx := ⟨_, rfl⟩
    obtain ⟨ib, hib⟩ : ∃ z : Bool, z = segIs L tx := ⟨_, rfl⟩
    have hil : Hid (ib = true → ia < L.length) := fun h => by rw [hia]; exact segIs_lt (by rw [← hib]; exact h)
    rw [← hia, ← hib] at hdef ⊢
    have HD := Lib.hid hdef
    clear hdef hia hib
    cases ib with
    | false =>
      go_wp2_with (refine wpList_store_sg rfl (.tmp 4) (.tmp 20) rfl Z1.out Sg.zero (by rfl) (by rfl) ?_; intro wS hP hK; have PF := Lib.hid hP; have KF := Lib.hid hK; clear hP hK)
      refine bodyPost_ret (results_sg rfl _ _ rfl PF.out) rfl ⟨?_, OthersKept.below B1.out KF.out (fun k hk e => by omega)⟩
      exact congrArg Ending.returned (by rw [HD.out]; rfl)
    | true =>
      have hlt := hil.out rfl
      obtain ⟨A2, cp2, rfl, _, _, h52⟩ := V1.out.at_
      obtain ⟨b0, o0, rfl, hb0, hcell⟩ := h52 (by omega)
      have k0 := hcell ia hlt 0 _ rfl
      have k1 := hcell ia hlt 1 _ rfl
      have k2 := hcell ia hlt 2 _ rfl
      have k3 := hcell ia hlt 3 _ rfl
      have k4 := hcell ia hlt 4 _ rfl
      have k5 := hcell ia hlt 5 _ rfl
      have k6 := hcell ia hlt 6 _ rfl
      have hg : L.getD ia Sg.zero = L[ia] := by rw [List.getD_eq_getElem?_getD, List.getElem?_eq_getElem hlt]; rfl
      rw [hg] at HD
      have hli : (ia : Int) < (L.length : Int) := by omega
      have hl0 : (0 : Int) ≤ (ia : Int) := by omega
      obtain ⟨ln, hln⟩ : ∃ z, z = L.length := ⟨_, rfl⟩
      rw [← hln] at hli ⊢
      clear hcell h52 hg V1 hil hln
      generalize L[ia] = y at *
      obtain ⟨y0, y1, y2, y3, y4, y5, y6⟩ := y
      simp only [Nat.add_zero] at k0 k1 k2 k3 k4 k5 k6
      go_wp2_with (refine wpList_store_sg rfl (.tmp 4) (.tmp 24) rfl Z1.out ⟨y0, y1, y2, y3, y4, y5, y6⟩ (by rfl) (by rfl) ?_; intro wS hP hK; have PF := Lib.hid hP; have KF := Lib.hid hK; clear hP hK)
      refine bodyPost_ret (results_sg rfl _ _ rfl PF.out) rfl ⟨?_, OthersKept.below B1.out KF.out (fun k hk e => by omega)⟩
      exact congrArg Ending.returned (by rw [HD.out]; rfl)
set_option maxHeartbeats 4000000 in
set_option maxRecDepth 100000 in
theorem segDrop_any (p : Pg) (sv : Value) (tx : Nat) (w : World) (hp : p.wf) (ht : TextsAt w sv p.rows) (hb : weightB p.rows ≤ 1000000) :
    Calls Tryz.prog 20 #[pgV p sv, .int .u64 tx] w fun e w' => e = .returned (.tuple #[odV (sDropB p tx).1 (.slice none 0 0), .int .i64 (sDropB p tx).2]) ∧ Below w.heap.size w w' := by
  have CF := Lib.hid fun W (h : TextsAt W sv p.rows) => segfind_any p sv tx W hp h hb
  have hdef : sDropB p tx = (match segsB p with | none => (Od.zero, 60) | some L => if segIs L tx then (⟨4, p.id, (segAt L tx : Nat), 0, [], [], 0, 0, 0⟩, 0) else (Od.zero, 3)) := rfl
  have HT := Lib.hid ht
  have hnb : p.rows.length ≤ 1000000 := by have := weightB_length p.rows; omega
  obtain ⟨n, hn⟩ : ∃ n, n = p.rows.length := ⟨_, rfl⟩
  obtain ⟨A, cp, hsv, _, _, _, _⟩ := ht
  rw [← hn] at hsv
  subst hsv
  generalize segsB p = R at *
  generalize sDropB p tx = res at *
  clear hp hb hn hnb
  unfold pgV at *
  obtain ⟨kind, level, id, lsn, next, rows⟩ := p
  simp only at *
  have P0 : Hid (PgBox (w.alloc (.cells #[.int .u8 kind, .int .u8 level, .int .u32 id, .int .u64 lsn, .int .u32 next, .slice A n cp] 26)) w.heap.size kind level id lsn next (.slice A n cp)) := PgBox.new w kind level id lsn next (.slice A n cp)
  have B0 := Lib.hid (alloc_below w (.cells #[.int .u8 kind, .int .u8 level, .int .u32 id, .int .u64 lsn, .int .u32 next, .slice A n cp] 26))
  have hz1 : ((w.alloc (.cells #[.int .u8 kind, .int .u8 level, .int .u32 id, .int .u64 lsn, .int .u32 next, .slice A n cp] 26))).heap.size = w.heap.size + 1 := by simp
  have O0 : Hid (OAt ((w.alloc (.cells #[.int .u8 kind, .int .u8 level, .int .u32 id, .int .u64 lsn, .int .u32 next, .slice A n cp] 26)).alloc (.cells #[.int .u8 0, .int .u32 0, .int .i64 0, .int .i64 0, .string ⟨#[]⟩, .slice none 0 0, .int .u8 0, .int .u8 0, .int .u32 0] 40)) (w.heap.size + 1) Od.zero (.slice none 0 0)) := by
    have h := heap_alloc_new (w.alloc (.cells #[.int .u8 kind, .int .u8 level, .int .u32 id, .int .u64 lsn, .int .u32 next, .slice A n cp] 26)) (.cells #[.int .u8 0, .int .u32 0, .int .i64 0, .int .i64 0, .string ⟨#[]⟩, .slice none 0 0, .int .u8 0, .int .u8 0, .int .u32 0] 40)
    rw [hz1] at h
    exact h
  have B0 := Lib.hid (B0.out.alloc B0.out.size (.cells #[.int .u8 0, .int .u32 0, .int .i64 0, .int .i64 0, .string ⟨#[]⟩, .slice none 0 0, .int .u8 0, .int .u8 0, .int .u32 0] 40))
  have P0 := Lib.hid (P0.out.keep (.cells #[.int .u8 0, .int .u32 0, .int .i64 0, .int .i64 0, .string ⟨#[]⟩, .slice none 0 0, .int .u8 0, .int .u8 0, .int .u32 0] 40))
  clear hz1
  go_enter Tryz.func20, Tryz.ntmps20
  go_upto_region 1 with fail
  generalize ((w.alloc (.cells #[.int .u8 kind, .int .u8 level, .int .u32 id, .int .u64 lsn, .int .u32 next, .slice A n cp] 26)).alloc (.cells #[.int .u8 0, .int .u32 0, .int .i64 0, .int .i64 0, .string ⟨#[]⟩, .slice none 0 0, .int .u8 0, .int .u8 0, .int .u32 0] 40)) = w0 at *
  have T0 := Lib.hid (HT.out.below B0.out)
  clear HT
  obtain ⟨p0, p1, p2, p3, p4, p5, p6⟩ := P0.out.cells
  go_wp2_with fail
  refine (CF.out _ T0.out).mono ?_
  rintro e w1 ⟨v, rfl, hO, hb⟩
  clear hO CF
  clear p0 p1 p2 p3 p4 p5 p6
  have B1 := Lib.hid (below_then B0.out hb)
  have P1 := Lib.hid (P0.out.below hb)
  have O1 := Lib.hid (O0.out.under hb)
  have T1 := Lib.hid (T0.out.below hb)
  clear hb B0 P0 O0 T0
  cases R with
  | none =>
    simp only [Option.isSome_none] at *
    (try simp only [Bool.false_eq_true, if_false] at *)
    have HD := Lib.hid hdef
    clear hdef
    go_wp2_with (refine wpList_store_op rfl (.tmp 4) (.tmp 21) rfl O1.out Od.zero none 0 0 (by rfl) (by rfl) ?_; intro wS hO hK; have OS := Lib.hid hO; have KS := Lib.hid hK; clear hO hK)
    refine bodyPost_ret (results_op2 (p := 4) (u := 5) (o := Od.zero) (sv := .slice none 0 0) (by kernel_rfl) _ _ rfl OS.out) rfl ?_
    exact ⟨by rw [HD.out]; rfl, OthersKept.below B1.out KS.out (fun k hk e => by omega)⟩
  | some L =>
    simp only [Option.isSome_some, if_true] at *
    generalize segAt L tx = ia at *
    generalize segIs L tx = ib at *
    have HD := Lib.hid hdef
    clear hdef
    cases ib with
    | false =>
      go_wp2_with (refine wpList_store_op rfl (.tmp 4) (.tmp 26) rfl O1.out Od.zero none 0 0 (by rfl) (by rfl) ?_; intro wS hO hK; have OS := Lib.hid hO; have KS := Lib.hid hK; clear hO hK)
      refine bodyPost_ret (results_op2 (p := 4) (u := 5) (o := Od.zero) (sv := .slice none 0 0) (by kernel_rfl) _ _ rfl OS.out) rfl ?_
      exact ⟨by rw [HD.out]; rfl, OthersKept.below B1.out KS.out (fun k hk e => by omega)⟩
    | true =>
      obtain ⟨p0, p1, p2, p3, p4, p5, p6⟩ := P1.out.cells
      go_wp2_with (refine wpList_store_op rfl (.tmp 4) (.tmp 30) rfl O1.out ⟨4, id, (ia : Nat), 0, [], [], 0, 0, 0⟩ none 0 0 (by rfl) (by rfl) ?_; intro wS hO hK; have OS := Lib.hid hO; have KS := Lib.hid hK; clear hO hK)
      refine bodyPost_ret (results_op2 (p := 4) (u := 5) (o := ⟨4, id, (ia : Nat), 0, [], [], 0, 0, 0⟩) (sv := .slice none 0 0) (by kernel_rfl) _ _ rfl OS.out) rfl ?_
      exact ⟨by rw [HD.out]; rfl, OthersKept.below B1.out KS.out (fun k hk e => by omega)⟩
set_option maxHeartbeats 4000000 in
set_option maxRecDepth 100000 in
theorem segPut_any (p : Pg) (sv : Value) (s : Sg) (w : World) (hp : p.wf) (ht : TextsAt w sv p.rows) (hb : weightB p.rows ≤ 1000000) (hs : s.wf) :
    Calls Tryz.prog 15 #[pgV p sv, sgV s] w fun e w' => e = .returned (.tuple #[odV (sPutB p s).1 (.slice none 0 0), .int .i64 (sPutB p s).2]) ∧ Below w.heap.size w w' := by
  have CF := Lib.hid fun W (h : TextsAt W sv p.rows) => segfind_any p sv s.tx W hp h hb
  have CE := Lib.hid fun W => segEncode_any s W hs
  have CR := Lib.hid fun W (h : TextsAt W sv p.rows) => pageRoom_any p sv W h hb
  have hdef : sPutB p s = (match segsB p with | none => (Od.zero, 60) | some L => if s.may then (if segIs L s.tx then (⟨3, p.id, (segAt L s.tx : Nat), 0, s.enc, [], 0, 0, 0⟩, 0) else if roomB p.rows < 31 then (Od.zero, 4) else (⟨2, p.id, (segAt L s.tx : Nat), 0, s.enc, [], 0, 0, 0⟩, 0)) else (Od.zero, 2)) := rfl
  have hout : s.out = if s.may then (s.enc, 0) else ([], 2) := rfl
  have hel := sg_len s
  have HT := Lib.hid ht
  have hnb : p.rows.length ≤ 1000000 := by have := weightB_length p.rows; omega
  obtain ⟨n, hn⟩ : ∃ n, n = p.rows.length := ⟨_, rfl⟩
  obtain ⟨A, cp, hsv, _, _, _, _⟩ := ht
  rw [← hn] at hsv
  subst hsv
  generalize segsB p = R at *
  generalize sPutB p s = res at *
  generalize roomB p.rows = rm at *
  generalize s.out = so at *
  generalize s.enc = en at *
  generalize s.may = sm at *
  clear hp hb hn hnb hs
  unfold pgV at *
  unfold sgV at *
  obtain ⟨kind, level, id, lsn, next, rows⟩ := p
  obtain ⟨t0, t1, t2, t3, t4, t5, t6⟩ := s
  simp only at *
  have HD := Lib.hid hdef
  clear hdef
  have P0 : Hid (PgBox (w.alloc (.cells #[.int .u8 kind, .int .u8 level, .int .u32 id, .int .u64 lsn, .int .u32 next, .slice A n cp] 26)) w.heap.size kind level id lsn next (.slice A n cp)) := PgBox.new w kind level id lsn next (.slice A n cp)
  have B0 := Lib.hid (alloc_below w (.cells #[.int .u8 kind, .int .u8 level, .int .u32 id, .int .u64 lsn, .int .u32 next, .slice A n cp] 26))
  have hz1 : ((w.alloc (.cells #[.int .u8 kind, .int .u8 level, .int .u32 id, .int .u64 lsn, .int .u32 next, .slice A n cp] 26))).heap.size = w.heap.size + 1 := by simp
  have S0 : Hid (SgBox ((w.alloc (.cells #[.int .u8 kind, .int .u8 level, .int .u32 id, .int .u64 lsn, .int .u32 next, .slice A n cp] 26)).alloc (.cells #[.int .u64 t0, .int .u8 t1, .int .u64 t2, .int .u32 t3, .int .u32 t4, .int .u32 t5, .int .u16 t6] 52)) (w.heap.size + 1) ⟨t0, t1, t2, t3, t4, t5, t6⟩) := by
    have h := heap_alloc_new (w.alloc (.cells #[.int .u8 kind, .int .u8 level, .int .u32 id, .int .u64 lsn, .int .u32 next, .slice A n cp] 26)) (.cells #[.int .u64 t0, .int .u8 t1, .int .u64 t2, .int .u32 t3, .int .u32 t4, .int .u32 t5, .int .u16 t6] 52)
    rw [hz1] at h
    exact h
  have B0 := Lib.hid (B0.out.alloc B0.out.size (.cells #[.int .u64 t0, .int .u8 t1, .int .u64 t2, .int .u32 t3, .int .u32 t4, .int .u32 t5, .int .u16 t6] 52))
  have P0 := Lib.hid (P0.out.keep (.cells #[.int .u64 t0, .int .u8 t1, .int .u64 t2, .int .u32 t3, .int .u32 t4, .int .u32 t5, .int .u16 t6] 52))
  have hz2 : (((w.alloc (.cells #[.int .u8 kind, .int .u8 level, .int .u32 id, .int .u64 lsn, .int .u32 next, .slice A n cp] 26)).alloc (.cells #[.int .u64 t0, .int .u8 t1, .int .u64 t2, .int .u32 t3, .int .u32 t4, .int .u32 t5, .int .u16 t6] 52))).heap.size = w.heap.size + 1 + 1 := by simp
  have O0 : Hid (OAt (((w.alloc (.cells #[.int .u8 kind, .int .u8 level, .int .u32 id, .int .u64 lsn, .int .u32 next, .slice A n cp] 26)).alloc (.cells #[.int .u64 t0, .int .u8 t1, .int .u64 t2, .int .u32 t3, .int .u32 t4, .int .u32 t5, .int .u16 t6] 52)).alloc (.cells #[.int .u8 0, .int .u32 0, .int .i64 0, .int .i64 0, .string ⟨#[]⟩, .slice none 0 0, .int .u8 0, .int .u8 0, .int .u32 0] 40)) (w.heap.size + 1 + 1) Od.zero (.slice none 0 0)) := by
    have h := heap_alloc_new ((w.alloc (.cells #[.int .u8 kind, .int .u8 level, .int .u32 id, .int .u64 lsn, .int .u32 next, .slice A n cp] 26)).alloc (.cells #[.int .u64 t0, .int .u8 t1, .int .u64 t2, .int .u32 t3, .int .u32 t4, .int .u32 t5, .int .u16 t6] 52)) (.cells #[.int .u8 0, .int .u32 0, .int .i64 0, .int .i64 0, .string ⟨#[]⟩, .slice none 0 0, .int .u8 0, .int .u8 0, .int .u32 0] 40)
    rw [hz2] at h
    exact h
  have B0 := Lib.hid (B0.out.alloc B0.out.size (.cells #[.int .u8 0, .int .u32 0, .int .i64 0, .int .i64 0, .string ⟨#[]⟩, .slice none 0 0, .int .u8 0, .int .u8 0, .int .u32 0] 40))
  have P0 := Lib.hid (P0.out.keep (.cells #[.int .u8 0, .int .u32 0, .int .i64 0, .int .i64 0, .string ⟨#[]⟩, .slice none 0 0, .int .u8 0, .int .u8 0, .int .u32 0] 40))
  have S0 := Lib.hid (S0.out.keep (.cells #[.int .u8 0, .int .u32 0, .int .i64 0, .int .i64 0, .string ⟨#[]⟩, .slice none 0 0, .int .u8 0, .int .u8 0, .int .u32 0] 40))
  clear hz1 hz2
  go_enter Tryz.func15, Tryz.ntmps15
  go_upto_region 1 with fail
  generalize (((w.alloc (.cells #[.int .u8 kind, .int .u8 level, .int .u32 id, .int .u64 lsn, .int .u32 next, .slice A n cp] 26)).alloc (.cells #[.int .u64 t0, .int .u8 t1, .int .u64 t2, .int .u32 t3, .int .u32 t4, .int .u32 t5, .int .u16 t6] 52)).alloc (.cells #[.int .u8 0, .int .u32 0, .int .i64 0, .int .i64 0, .string ⟨#[]⟩, .slice none 0 0, .int .u8 0, .int .u8 0, .int .u32 0] 40)) = w0 at *
  have T0 := Lib.hid (HT.out.below B0.out)
  clear HT
  obtain ⟨p0, p1, p2, p3, p4, p5, p6⟩ := P0.out.cells
  obtain ⟨sl, s0, s1, s2, s3, s4, s5, s6⟩ := S0.out.cells
  simp only at s0 s1 s2 s3 s4 s5 s6
  go_wp2_with fail
  refine (CF.out _ T0.out).mono ?_
  rintro e w1 ⟨v, rfl, hO, hb⟩
  clear hO CF
  clear p0 p1 p2 p3 p4 p5 p6
  clear sl s0 s1 s2 s3 s4 s5 s6
  have B1 := Lib.hid (below_then B0.out hb)
  have P1 := Lib.hid (P0.out.below hb)
  have S1 := Lib.hid (S0.out.below hb)
  have O1 := Lib.hid (O0.out.under hb)
  have T1 := Lib.hid (T0.out.below hb)
  clear hb B0 P0 S0 O0 T0
  cases R with
  | none =>
    simp only [Option.isSome_none] at *
    (try simp only [Bool.false_eq_true, if_false] at *)
    go_wp2_with (refine wpList_store_op rfl (.tmp 4) (.tmp 22) rfl O1.out Od.zero none 0 0 (by rfl) (by rfl) ?_; intro wS hO hK; have OS := Lib.hid hO; have KS := Lib.hid hK; clear hO hK)
    refine bodyPost_ret (results_op2 (p := 4) (u := 5) (o := Od.zero) (sv := .slice none 0 0) (by kernel_rfl) _ _ rfl OS.out) rfl ?_
    exact ⟨by rw [HD.out]; rfl, OthersKept.below B1.out KS.out (fun k hk e => by omega)⟩
  | some L =>
    simp only [Option.isSome_some, if_true] at *
    generalize segAt L t0 = ia at *
    generalize segIs L t0 = ib at *
    obtain ⟨sl, s0, s1, s2, s3, s4, s5, s6⟩ := S1.out.cells
    simp only at s0 s1 s2 s3 s4 s5 s6
    go_wp2_with fail
    refine (CE.out _).mono ?_
    rintro e w2 ⟨rfl, hb⟩
    clear sl s0 s1 s2 s3 s4 s5 s6
    have B2 := Lib.hid (below_then B1.out hb)
    have P2 := Lib.hid (P1.out.below hb)
    have S2 := Lib.hid (S1.out.below hb)
    have O2 := Lib.hid (O1.out.under hb)
    have T2 := Lib.hid (T1.out.below hb)
    clear hb B1 P1 S1 O1 T1
    clear CE
    cases sm with
    | false =>
      simp only [Bool.false_eq_true, if_false] at hout
      subst hout
      go_wp2_with (refine wpList_store_op rfl (.tmp 4) (.tmp 32) rfl O2.out Od.zero none 0 0 (by rfl) (by rfl) ?_; intro wS hO hK; have OS := Lib.hid hO; have KS := Lib.hid hK; clear hO hK)
      refine bodyPost_ret (results_op2 (p := 4) (u := 5) (o := Od.zero) (sv := .slice none 0 0) (by kernel_rfl) _ _ rfl OS.out) rfl ?_
      exact ⟨by rw [HD.out]; rfl, OthersKept.below B2.out KS.out (fun k hk e => by omega)⟩
    | true =>
      simp only [if_true] at hout
      subst hout
      have hez : (⟨en.toArray⟩ : ByteArray).size = 31 := by simp [ByteArray.size, hel]
      cases ib with
      | true =>
        obtain ⟨p0, p1, p2, p3, p4, p5, p6⟩ := P2.out.cells
        go_wp2_with (refine wpList_store_op rfl (.tmp 4) (.tmp 40) rfl O2.out ⟨3, id, (ia : Nat), 0, en, [], 0, 0, 0⟩ none 0 0 (by rfl) (by rfl) ?_; intro wS hO hK; have OS := Lib.hid hO; have KS := Lib.hid hK; clear hO hK)
        refine bodyPost_ret (results_op2 (p := 4) (u := 5) (o := ⟨3, id, (ia : Nat), 0, en, [], 0, 0, 0⟩) (sv := .slice none 0 0) (by kernel_rfl) _ _ rfl OS.out) rfl ?_
        exact ⟨by rw [HD.out]; rfl, OthersKept.below B2.out KS.out (fun k hk e => by omega)⟩
      | false =>
        obtain ⟨p0, p1, p2, p3, p4, p5, p6⟩ := P2.out.cells
        go_wp2_with fail
        refine (CR.out _ T2.out).mono ?_
        rintro e w3 ⟨rfl, hb⟩
        clear CR
        clear p0 p1 p2 p3 p4 p5 p6
        have B3 := Lib.hid (below_then B2.out hb)
        have P3 := Lib.hid (P2.out.below hb)
        have S3 := Lib.hid (S2.out.below hb)
        have O3 := Lib.hid (O2.out.under hb)
        have T3 := Lib.hid (T2.out.below hb)
        clear hb B2 P2 S2 O2 T2
        by_cases hr : rm < 31
        · have HD2 : Hid (res = (Od.zero, 4)) := by show _ = _; rw [HD.out, if_pos trivial, if_neg (by simp), if_pos hr]
          have hrd : decide (rm < 31) = true := decide_eq_true hr
          go_wp2_with (refine wpList_store_op rfl (.tmp 4) (.tmp 47) rfl O3.out Od.zero none 0 0 (by rfl) (by rfl) ?_; intro wS hO hK; have OS := Lib.hid hO; have KS := Lib.hid hK; clear hO hK)
          refine bodyPost_ret (results_op2 (p := 4) (u := 5) (o := Od.zero) (sv := .slice none 0 0) (by kernel_rfl) _ _ rfl OS.out) rfl ?_
          exact ⟨by rw [HD2.out]; rfl, OthersKept.below B3.out KS.out (fun k hk e => by omega)⟩
        · have HD2 : Hid (res = (⟨2, id, (ia : Nat), 0, en, [], 0, 0, 0⟩, 0)) := by show _ = _; rw [HD.out, if_pos trivial, if_neg (by simp), if_neg hr]
          have hrd : decide (rm < 31) = false := decide_eq_false hr
          obtain ⟨p0, p1, p2, p3, p4, p5, p6⟩ := P3.out.cells
          go_wp2_with (refine wpList_store_op rfl (.tmp 4) (.tmp 52) rfl O3.out ⟨2, id, (ia : Nat), 0, en, [], 0, 0, 0⟩ none 0 0 (by rfl) (by rfl) ?_; intro wS hO hK; have OS := Lib.hid hO; have KS := Lib.hid hK; clear hO hK)
          refine bodyPost_ret (results_op2 (p := 4) (u := 5) (o := ⟨2, id, (ia : Nat), 0, en, [], 0, 0, 0⟩) (sv := .slice none 0 0) (by kernel_rfl) _ _ rfl OS.out) rfl ?_
          exact ⟨by rw [HD2.out]; rfl, OthersKept.below B3.out KS.out (fun k hk e => by omega)⟩
end Go.Proofs.YtienlhnbmobinaaGreat
end

section
/- op.write -/
namespace Go.Proofs.YtienlhnbmobinaaGreat
open Go.RowKit
set_option linter.unusedVariables false
set_option linter.unusedSimpArgs false
theorem OAt.set5 {w : World} {g : Nat} {o : Od} {sv : Value} (h : OAt w g o sv) (sv' : Value) : OAt (w.setCell ⟨g, 5, none⟩ sv') g o sv' := by
  unfold OAt at *
  have h1 := blk_set h 5 sv'
  simpa using h1
theorem flat_len (rows : List (List UInt8)) : (rows.flatMap pieceB).length = lensB rows + 2 * rows.length := by
  induction rows with
  | nil => rfl
  | cons r rs ih =>
    rw [List.flatMap_cons, List.length_append, ih, lensB_cons]
    simp [pieceB, be_length]
    omega
theorem enc_len (o : Od) (h : o.only.may = true) : o.enc.length ≤ 2000 := by
  have hk := (may_of h).2.1
  rw [(only_kind o).1] at hk
  rw [← enc_only o hk]
  have hh := h
  unfold Od.may at h
  rw [Bool.and_eq_true, Bool.and_eq_true, Bool.and_eq_true, decide_eq_true_eq, decide_eq_true_eq, decide_eq_true_eq, decide_eq_true_eq] at h
  obtain ⟨_, ⟨_, _, _, _, h1⟩, h2, _⟩ := h
  generalize o.only = p at *
  have hf := flat_len p.rows
  unfold Od.enc
  split <;> simp only [List.length_append, be_length, pieceB] <;> omega
theorem own_ge {w : World} {base n : Nat} {e : TypeId} {v : Value} {xs : List Value} (h : w.ownsRow base e 1 v n xs) : ∀ j, v.ownBlock = some j → base ≤ j := by
  obtain ⟨b, c, rfl, _, _, _⟩ := own_form h
  rcases h.2 with ⟨h1, _⟩ | ⟨g, cap, cur, h1, hg, _⟩
  · injection h1 with h1 _ _
    subst h1
    intro j hj
    simp [Value.ownBlock] at hj
  · injection h1 with h1 _ _
    subst h1
    intro j hj
    simp [Value.ownBlock] at hj
    omega
theorem own_lt {w : World} {base n : Nat} {e : TypeId} {v : Value} {xs : List Value} (h : w.ownsRow base e 1 v n xs) : ∀ j, v.ownBlock = some j → j < w.heap.size := by
  obtain ⟨b, c, rfl, _, _, _⟩ := own_form h
  rcases h.2 with ⟨h1, _⟩ | ⟨g, cap, cur, h1, hg, hb, _⟩
  · injection h1 with h1 _ _
    subst h1
    intro j hj
    simp [Value.ownBlock] at hj
  · injection h1 with h1 _ _
    subst h1
    intro j hj
    simp [Value.ownBlock] at hj
    rw [← hj]
    exact blk_lt hb
theorem own_mono {w : World} {base base' n : Nat} {e : TypeId} {v : Value} {xs : List Value} (h : w.ownsRow base e 1 v n xs) (hb : base' ≤ base) : w.ownsRow base' e 1 v n xs := by
  refine ⟨h.1, ?_⟩
  rcases h.2 with h1 | ⟨g, cap, cur, h1, hg, h2⟩
  · exact .inl h1
  · exact .inr ⟨g, cap, cur, h1, by omega, h2⟩
theorem only_lv (o : Od) (h : o.lv < 256) : o.only.lv < 256 := by
  unfold Od.only
  split <;> first | exact h | exact (by decide : (0 : Nat) < 256)
/-- What write answers. -/
def Od.out (o : Od) : List UInt8 := if o.only.may = true then o.enc else []
/-- Bounds of an op's texts. -/
def Od.small (o : Od) : Prop := o.text.length ≤ 65535 ∧ o.rows.length ≤ 65535 ∧ ∀ r ∈ o.rows, r.length ≤ 65535
set_option maxHeartbeats 4000000 in
set_option maxRecDepth 100000 in
theorem write_any (o : Od) (sv : Value) (w : World) (ht : TextsAt w sv o.rows) (hw : o.wf) (hs : o.small) :
    Calls Tryz.prog 58 #[odV o sv] w fun e w' => e = .returned (.tuple #[.string ⟨o.out.toArray⟩, .bool o.may]) ∧ Below w.heap.size w w' := by
  have HT := Lib.hid fun W (hB : Below w.heap.size w W) => ht.below hB
  have hlaw := Lib.hid (writeC_law o hw)
  obtain ⟨A, cp, rfl, _⟩ := ht
  obtain ⟨n, hn⟩ : ∃ n, n = o.rows.length := ⟨_, rfl⟩
  rw [← hn] at HT ⊢
  have HW := Lib.hid hw
  have HS := Lib.hid hs
  have HN := Lib.hid hn
  have HCL := Lib.hid fun W (hB : Below w.heap.size w W) => cloneTexts_any (.slice A n cp) o.rows W (HT.out W hB) (by have := hs.2.1; omega)
  obtain ⟨P0, P1, B0⟩ := two_boxes w o o (.slice A n cp) (.slice A n cp)
  have B0 := Lib.hid B0
  obtain ⟨out, hout⟩ : ∃ x, x = o.out := ⟨_, rfl⟩
  obtain ⟨my, hmy⟩ : ∃ x, x = o.may := ⟨_, rfl⟩
  rw [← hout, ← hmy]
  have HO := Lib.hid hout
  have HM := Lib.hid hmy
  clear hout hmy hw hs hn
  unfold odV
  go_enter Tryz.func58, Tryz.ntmps58
  go_wp2_with fail
  generalize (w.alloc (.cells #[.int .u8 o.kind, .int .u32 o.page, .int .i64 o.at_, .int .i64 o.off, .string ⟨o.text.toArray⟩, .slice A n cp, .int .u8 o.pk, .int .u8 o.lv, .int .u32 o.nx] 40)).alloc (.cells #[.int .u8 o.kind, .int .u32 o.page, .int .i64 o.at_, .int .i64 o.off, .string ⟨o.text.toArray⟩, .slice A n cp, .int .u8 o.pk, .int .u8 o.lv, .int .u32 o.nx] 40) = w0 at *
  refine (HCL.out w0 B0.out).mono ?_
  rintro e w1 ⟨v, rfl, hv, hb⟩
  have Q0 := P0.below hb
  have Q1 := P1.below hb
  obtain ⟨x0, x1, x2, x3, x4, x5, x6, x7, x8⟩ := Q1.cells
  have f5 := blk_frozen (g := w.heap.size + 1) Q1 5
  have B1 := Lib.hid (below_then B0.out hb)
  have s0 : w.heap.size + 2 ≤ w0.heap.size := by have := blk_lt P1; omega
  have s1 : w0.heap.size ≤ w1.heap.size := hb.size
  have hvd := own_ge hv
  have hvl := own_lt hv
  have K0 : KAt ((w1.setCell ⟨w.heap.size + 1, 5, none⟩ v).alloc (.cells #[.pointer (some ⟨w.heap.size + 1, 0, none⟩), .string ⟨#[]⟩, .int .i64 0, .bool false, .bool false] 130)) w1.heap.size (w.heap.size + 1) ⟨o, [], 0, false, false⟩ := by
    have h := heap_alloc_new (w1.setCell ⟨w.heap.size + 1, 5, none⟩ v) (.cells #[.pointer (some ⟨w.heap.size + 1, 0, none⟩), .string ⟨#[]⟩, .int .i64 0, .bool false, .bool false] 130)
    rwa [set_lt] at h
  have O2 : OAt ((w1.setCell ⟨w.heap.size + 1, 5, none⟩ v).alloc (.cells #[.pointer (some ⟨w.heap.size + 1, 0, none⟩), .string ⟨#[]⟩, .int .i64 0, .bool false, .bool false] 130)) (w.heap.size + 1) o v := heap_keep (OAt.set5 Q1 v)
  have R2 : ((w1.setCell ⟨w.heap.size + 1, 5, none⟩ v).alloc (.cells #[.pointer (some ⟨w.heap.size + 1, 0, none⟩), .string ⟨#[]⟩, .int .i64 0, .bool false, .bool false] 130)).ownsRow (w.heap.size + 1) 9 1 v o.rows.length (strs o.rows) := own_below (own_set_far (own_mono hv (by omega)) (fun k hk => by have := hvd k hk; omega)) (alloc_below _ _)
  have B2 := Lib.hid ((B1.out.setCell (p := ⟨w.heap.size + 1, 5, none⟩) (by simp) v).alloc (by rw [set_lt]; omega) (.cells #[.pointer (some ⟨w.heap.size + 1, 0, none⟩), .string ⟨#[]⟩, .int .i64 0, .bool false, .bool false] 130))
  have Q2 : OAt ((w1.setCell ⟨w.heap.size + 1, 5, none⟩ v).alloc (.cells #[.pointer (some ⟨w.heap.size + 1, 0, none⟩), .string ⟨#[]⟩, .int .i64 0, .bool false, .bool false] 130)) w.heap.size o (.slice A n cp) := heap_keep (set_keep Q0 (by omega))
  have C2 := Lib.hid (show CAt ((w1.setCell ⟨w.heap.size + 1, 5, none⟩ v).alloc (.cells #[.pointer (some ⟨w.heap.size + 1, 0, none⟩), .string ⟨#[]⟩, .int .i64 0, .bool false, .bool false] 130)) (w.heap.size + 1) w1.heap.size (w.heap.size + 1) ⟨o, [], 0, false, false⟩ from ⟨K0, by omega, by omega, by omega, v, O2, R2, fun j hj => by have := hvd j hj; have := hvl j hj; omega⟩)
  obtain ⟨bv, cv, rfl, _, _, _⟩ := own_form hv
  have Q2 := Lib.hid Q2
  clear K0 O2 R2 Q0 Q1 hv hb P0 P1 x0 x1 x2 x3 x4 x6 x7 x8 B0 B1
  go_wp2_with fail
  have hz2 : ((w1.setCell ⟨w.heap.size + 1, 5, none⟩ (.slice bv o.rows.length cv)).alloc (.cells #[.pointer (some ⟨w.heap.size + 1, 0, none⟩), .string ⟨#[]⟩, .int .i64 0, .bool false, .bool false] 130)).heap.size = w1.heap.size + 1 := by simp
  refine (op_any _ (w.heap.size + 1) w1.heap.size (w.heap.size + 1) ⟨o, [], 0, false, false⟩ C2.out (by rw [hz2]; omega) ⟨HW.out, HS.out.1, HS.out.2.1, HS.out.2.2, Nat.zero_le _, Nat.zero_le _⟩ (fun h => by cases h)).mono ?_
  rintro e w2 ⟨rfl, hC, hB⟩
  have hwc : Cd.op ⟨o, [], 0, false, false⟩ = writeC o := rfl
  rw [hwc] at hC
  have B3 := Lib.hid (B2.out.trans (hB.mono (Nat.le_succ _)))
  have Q3 : OAt w2 w.heap.size o (.slice A n cp) := (hB.block _ (by omega)).trans Q2.out
  have hq3 : w.heap.size < w2.heap.size := blk_lt Q3
  have hgl : w1.heap.size < w2.heap.size := by have := hB.size; rw [hz2] at this; omega
  obtain ⟨hk, _⟩ := hC
  clear hB C2 B2 Q2 hwc hz2 hvd hvl f5 x5
  cases hm : o.only.may with
  | false =>
    have hb := hlaw.out.2 hm
    obtain ⟨_, q0, q1, q2, q3, q4⟩ := hk.cells
    rw [hb] at q4
    have HOut : Hid (out = []) := by show _ = _; rw [HO.out]; unfold Od.out; rw [hm]; rfl
    have HMy : Hid (my = false) := by show _ = _; rw [HM.out, may_eq, hm]; rfl
    clear hk hb hlaw q0 q1 q2 q3
    go_wp2_with fail
    go_ret2
    exact ⟨by rw [HOut.out, HMy.out]; rfl, B3.out⟩
  | true =>
    obtain ⟨hwc, hkd⟩ := hlaw.out.1 hm
    rw [hwc] at hk
    obtain ⟨_, q0, q1, q2, q3, q4⟩ := hk.cells
    have hel := enc_len o hm
    have hre : readC o.enc = ⟨o.only, o.enc, o.enc.length, true, false⟩ := by
      have h := readC_enc o.only hm (only_lv o HW.out.2.2.2.2.2.1) []
      rw [List.append_nil, enc_only o hkd] at h
      exact h
    have HOut : Hid (out = o.enc) := by show _ = _; rw [HO.out]; unfold Od.out; rw [hm]; rfl
    have HMy : Hid (my = decide (o.only = o)) := by show _ = _; rw [HM.out, may_eq, hm, Bool.true_and]; exact decide_eq_decide.2 ⟨fun h => h.symm, fun h => h.symm⟩
    have RD := Lib.hid (read_any o.enc w2 (by omega))
    rw [hre] at RD
    have K3 : KAt w2 w1.heap.size (w.heap.size + 1) ⟨o, o.enc, 0, false, false⟩ := hk
    clear hk hlaw hwc hkd hre q0 q2 q3 HO HM
    obtain ⟨p, hp⟩ : ∃ p, p = o.only := ⟨_, rfl⟩
    rw [← hp] at RD HMy hm
    have HR : Hid (p.rows.length ≤ 488) := by
      unfold Od.may at hm
      rw [Bool.and_eq_true, Bool.and_eq_true, decide_eq_true_eq, decide_eq_true_eq] at hm
      exact hm.2.1.2.2.2.2
    have hee : ((o.enc.length : Int) == (o.enc.length : Int)) = true := by simp
    have hes : (⟨o.enc.toArray⟩ : ByteArray).size = o.enc.length := by simp [ByteArray.size]
    clear hp hm Q2 B0 s0 hel
    go_wp2_with fail
    refine RD.out.mono ?_
    rintro e w3 ⟨sv', rfl, ht', hb⟩
    have P3 := Q3.below hb
    have K4 := K3.below hb
    have hz3 : w2.heap.size ≤ w3.heap.size := hb.size
    have B4 := Lib.hid (B3.out.trans (hb.mono (by omega)))
    have X3 := OAt.new w3 p sv'
    have HSM := Lib.hid fun W (hB : Below w3.heap.size w3 W) (hB2 : Below w.heap.size w W) => opSame_any p o sv' (.slice A n cp) W (ht'.below hB) (HT.out W hB2) (by have := HR.out; omega) (by have := HS.out.2.1; omega)
    obtain ⟨b', c', rfl, _⟩ := ht'
    unfold odV at HSM ⊢
    clear RD Q3 K3 hb HCL
    obtain ⟨m, hm⟩ : ∃ m, m = p.rows.length := ⟨_, rfl⟩
    rw [← hm] at X3 HSM ⊢
    clear hm
    have P4 := P3.below (alloc_below w3 (.cells #[.int .u8 p.kind, .int .u32 p.page, .int .i64 p.at_, .int .i64 p.off, .string ⟨p.text.toArray⟩, .slice b' m c', .int .u8 p.pk, .int .u8 p.lv, .int .u32 p.nx] 40))
    have K5 := K4.below (alloc_below w3 (.cells #[.int .u8 p.kind, .int .u32 p.page, .int .i64 p.at_, .int .i64 p.off, .string ⟨p.text.toArray⟩, .slice b' m c', .int .u8 p.pk, .int .u8 p.lv, .int .u32 p.nx] 40))
    have B5 := Lib.hid (B4.out.alloc (by omega) (.cells #[.int .u8 p.kind, .int .u32 p.page, .int .i64 p.at_, .int .i64 p.off, .string ⟨p.text.toArray⟩, .slice b' m c', .int .u8 p.pk, .int .u8 p.lv, .int .u32 p.nx] 40))
    have A5 := Lib.hid (alloc_below w3 (.cells #[.int .u8 p.kind, .int .u32 p.page, .int .i64 p.at_, .int .i64 p.off, .string ⟨p.text.toArray⟩, .slice b' m c', .int .u8 p.pk, .int .u8 p.lv, .int .u32 p.nx] 40))
    go_upto_region 8 with fail
    generalize w3.alloc (.cells #[.int .u8 p.kind, .int .u32 p.page, .int .i64 p.at_, .int .i64 p.off, .string ⟨p.text.toArray⟩, .slice b' m c', .int .u8 p.pk, .int .u8 p.lv, .int .u32 p.nx] 40) = w4 at *
    have D5 := Lib.hid B5.out.drew
    have E5 := Lib.hid A5.out.drew
    have D1 : Hid (Below w4.heap.size w4 w4.drew) := Lib.hid ((Below.refl _ _).drew)
    obtain ⟨x0, x1, x2, x3, x4, x5, x6, x7, x8⟩ := X3.cells
    obtain ⟨y0, y1, y2, y3, y4, y5, y6, y7, y8⟩ := P4.cells
    have k1 := K5.cells.2.2.1
    have KC := Lib.hid fun W (hW : Below w4.heap.size w4 W) => (⟨keep_cell hW k1, keep_cell hW x0, keep_cell hW x1, keep_cell hW x2, keep_cell hW x3, keep_cell hW x4, keep_cell hW x5, keep_cell hW x6, keep_cell hW x7, keep_cell hW x8, keep_cell hW y0, keep_cell hW y1, keep_cell hW y2, keep_cell hW y3, keep_cell hW y4, keep_cell hW y5, keep_cell hW y6, keep_cell hW y7, keep_cell hW y8⟩ : W.cell? ⟨w1.heap.size, 1, none⟩ = some (.string ⟨o.enc.toArray⟩) ∧ W.cell? ⟨w3.heap.size, 0, none⟩ = some (.int .u8 p.kind) ∧ W.cell? ⟨w3.heap.size, 1, none⟩ = some (.int .u32 p.page) ∧ W.cell? ⟨w3.heap.size, 2, none⟩ = some (.int .i64 p.at_) ∧ W.cell? ⟨w3.heap.size, 3, none⟩ = some (.int .i64 p.off) ∧ W.cell? ⟨w3.heap.size, 4, none⟩ = some (.string ⟨p.text.toArray⟩) ∧ W.cell? ⟨w3.heap.size, 5, none⟩ = some ((.slice b' m c')) ∧ W.cell? ⟨w3.heap.size, 6, none⟩ = some (.int .u8 p.pk) ∧ W.cell? ⟨w3.heap.size, 7, none⟩ = some (.int .u8 p.lv) ∧ W.cell? ⟨w3.heap.size, 8, none⟩ = some (.int .u32 p.nx) ∧ W.cell? ⟨w.heap.size, 0, none⟩ = some (.int .u8 o.kind) ∧ W.cell? ⟨w.heap.size, 1, none⟩ = some (.int .u32 o.page) ∧ W.cell? ⟨w.heap.size, 2, none⟩ = some (.int .i64 o.at_) ∧ W.cell? ⟨w.heap.size, 3, none⟩ = some (.int .i64 o.off) ∧ W.cell? ⟨w.heap.size, 4, none⟩ = some (.string ⟨o.text.toArray⟩) ∧ W.cell? ⟨w.heap.size, 5, none⟩ = some ((.slice A n cp)) ∧ W.cell? ⟨w.heap.size, 6, none⟩ = some (.int .u8 o.pk) ∧ W.cell? ⟨w.heap.size, 7, none⟩ = some (.int .u8 o.lv) ∧ W.cell? ⟨w.heap.size, 8, none⟩ = some (.int .u32 o.nx))
    clear q1 q4 P3 K4 X3 P4 K5
    clear x0 x1 x2 x3 x4 x5 x6 x7 x8 y0 y1 y2 y3 y4 y5 y6 y7 y8 k1
    go_region_held3 (fun W => W.cell? ⟨w1.heap.size, 1, none⟩ = some (.string ⟨o.enc.toArray⟩) ∧ W.cell? ⟨w3.heap.size, 0, none⟩ = some (.int .u8 p.kind) ∧ W.cell? ⟨w3.heap.size, 1, none⟩ = some (.int .u32 p.page) ∧ W.cell? ⟨w3.heap.size, 2, none⟩ = some (.int .i64 p.at_) ∧ W.cell? ⟨w3.heap.size, 3, none⟩ = some (.int .i64 p.off) ∧ W.cell? ⟨w3.heap.size, 4, none⟩ = some (.string ⟨p.text.toArray⟩) ∧ W.cell? ⟨w3.heap.size, 5, none⟩ = some ((.slice b' m c')) ∧ W.cell? ⟨w3.heap.size, 6, none⟩ = some (.int .u8 p.pk) ∧ W.cell? ⟨w3.heap.size, 7, none⟩ = some (.int .u8 p.lv) ∧ W.cell? ⟨w3.heap.size, 8, none⟩ = some (.int .u32 p.nx) ∧ W.cell? ⟨w.heap.size, 0, none⟩ = some (.int .u8 o.kind) ∧ W.cell? ⟨w.heap.size, 1, none⟩ = some (.int .u32 o.page) ∧ W.cell? ⟨w.heap.size, 2, none⟩ = some (.int .i64 o.at_) ∧ W.cell? ⟨w.heap.size, 3, none⟩ = some (.int .i64 o.off) ∧ W.cell? ⟨w.heap.size, 4, none⟩ = some (.string ⟨o.text.toArray⟩) ∧ W.cell? ⟨w.heap.size, 5, none⟩ = some ((.slice A n cp)) ∧ W.cell? ⟨w.heap.size, 6, none⟩ = some (.int .u8 o.pk) ∧ W.cell? ⟨w.heap.size, 7, none⟩ = some (.int .u8 o.lv) ∧ W.cell? ⟨w.heap.size, 8, none⟩ = some (.int .u32 o.nx))
      (first
        | (with_reducible exact KC.out _ D1.out)
        | (with_reducible exact KC.out _ hb)
        | exact KC.out _ D1.out)
      (first
        | (go_at_call 86; refine (HSM.out _ E5.out D5.out).mono ?_; rintro e w5 ⟨rfl, hb0⟩; have hb := below_then D1.out hb0; clear hb0))
    have B6 := Lib.hid (B5.out.trans (hb.mono (by have := B5.out.size; omega)))
    go_wp2_with fail
    go_ret2
    exact ⟨by rw [HOut.out, HMy.out]; rfl, B6.out⟩
end Go.Proofs.YtienlhnbmobinaaGreat
end

section
/- ops that came in; slices of ops -/
namespace Go.Proofs.YtienlhnbmobinaaGreat
open Go.RowKit
set_option linter.unusedVariables false
set_option linter.unusedSimpArgs false
/-- An op with where its rows lie. -/
structure Ov where
  o : Od
  b : Option Addr
  c : Nat
def Ov.sv (e : Ov) : Value := .slice e.b e.o.rows.length e.c
def Ov.cell (e : Ov) : List Value := [.int .u8 e.o.kind, .int .u32 e.o.page, .int .i64 e.o.at_, .int .i64 e.o.off, .string ⟨e.o.text.toArray⟩, e.sv, .int .u8 e.o.pk, .int .u8 e.o.lv, .int .u32 e.o.nx]
/-- A slice of ops. -/
def OpsAt (w : World) (v : Value) (L : List Ov) : Prop :=
  ∃ A cp, v = .slice A L.length cp ∧ L.length ≤ cp ∧ cp ≤ maxLen ∧ (0 < L.length → ∃ b o, A = some ⟨b, o, none⟩ ∧ b < w.heap.size ∧ ∀ j (h : j < L.length), ∀ i v, L[j].cell[i]? = some v → w.cell? ⟨b, o + j * 9 + i, none⟩ = some v) ∧ ∀ e ∈ L, TextsAt w e.sv e.o.rows
theorem OpsAt.below {w w' : World} {v : Value} {L : List Ov} (h : OpsAt w v L) (hb : Below w.heap.size w w') : OpsAt w' v L := by
  obtain ⟨A, cp, h1, h2, h3, h4, h5⟩ := h
  refine ⟨A, cp, h1, h2, h3, fun h0 => ?_, fun e he => (h5 e he).below hb⟩
  obtain ⟨b, o, k1, k2, k3⟩ := h4 h0
  exact ⟨b, o, k1, Nat.lt_of_lt_of_le k2 hb.size, fun j h i v hv => keep_cell hb (k3 j h i v hv)⟩
theorem OpsAt.nil (w : World) : OpsAt w (.slice none 0 0) [] := ⟨none, 0, rfl, Nat.le_refl _, Nat.zero_le _, fun h => absurd h (Nat.lt_irrefl 0), fun e he => by cases he⟩
section
open Go.ChangeShapes Go.WideShapes Go.Deep
variable {H : Type} {enc : TypeId × Value → H} {P : Program} {w : World} {base : Nat} {spare : Nat → Bool} {held : Bool}
end
end Go.Proofs.YtienlhnbmobinaaGreat
end

section
/- ref11: get.num and get.text -/
namespace Go.Proofs.YtienlhnbmobinaaGreat
open Go.RowKit
set_option linter.unusedVariables false
set_option linter.unusedSimpArgs false
/-- What stands in a get. -/
structure Gd where
  s : List UInt8
  at_ : Nat
  bad : Bool
def Gd.num (g : Gd) (k : Nat) : Nat × Gd := if decide (g.at_ + k ≤ g.s.length) && !g.bad then (rdNum g.s g.at_ k, ⟨g.s, g.at_ + k, false⟩) else (0, ⟨g.s, g.at_ + k, true⟩)
def Gd.text (g : Gd) : List UInt8 × Gd :=
  if decide ((g.num 2).2.at_ + (g.num 2).1 ≤ g.s.length) && !(g.num 2).2.bad then (rdText g.s (g.num 2).2.at_ (g.num 2).1, ⟨g.s, (g.num 2).2.at_ + (g.num 2).1, false⟩) else ([], ⟨g.s, (g.num 2).2.at_ + (g.num 2).1, true⟩)
theorem kept_drew {w w' : World} {p : Nat → Prop} (h : OthersKept w w' p) : OthersKept w w'.drew p := ⟨h.os, h.tape, h.output, h.size, h.block⟩
theorem num_bounds (g : Gd) (k : Nat) (hk : k = 1 ∨ k = 2 ∨ k = 4) : (g.num k).1 < 256 ^ k ∧ (g.num k).2.at_ = g.at_ + k ∧ (g.num k).2.s = g.s := by
  unfold Gd.num
  split
  · exact ⟨rdNum_fits _ _ _, rfl, rfl⟩
  · exact ⟨Nat.pos_of_ne_zero (by simp), rfl, rfl⟩
end Go.Proofs.YtienlhnbmobinaaGreat
end

section
/- op.May and op.Encode -/
namespace Go.Proofs.YtienlhnbmobinaaGreat
open Go.RowKit
set_option linter.unusedVariables false
set_option linter.unusedSimpArgs false
set_option maxHeartbeats 2000000 in
set_option maxRecDepth 100000 in
theorem opMay_any (o : Od) (sv : Value) (w : World) (ht : TextsAt w sv o.rows) (hw : o.wf) (hs : o.small) :
    Calls Tryz.prog 34 #[odV o sv] w fun e w' => e = .returned (.bool o.may) ∧ Below w.heap.size w w' := by
  have HT := Lib.hid fun W (hB : Below w.heap.size w W) => write_any o sv W (ht.below hB) hw hs
  obtain ⟨A, cp, rfl, _⟩ := ht
  obtain ⟨n, hn⟩ : ∃ n, n = o.rows.length := ⟨_, rfl⟩
  have X := OAt.new w o (.slice A n cp)
  have B := Lib.hid (alloc_below w (.cells #[.int .u8 o.kind, .int .u32 o.page, .int .i64 o.at_, .int .i64 o.off, .string ⟨o.text.toArray⟩, .slice A n cp, .int .u8 o.pk, .int .u8 o.lv, .int .u32 o.nx] 40))
  rw [← hn] at HT ⊢
  clear hn
  unfold odV at HT ⊢
  go_enter Tryz.func34, Tryz.ntmps34
  go_wp2_with fail
  refine (HT.out _ B.out).mono ?_
  rintro e w1 ⟨rfl, hb⟩
  have HB := Lib.hid (below_then B.out hb)
  go_wp2_with fail
  go_ret
  exact ⟨rfl, HB.out⟩
end Go.Proofs.YtienlhnbmobinaaGreat
end

section
/- ref11: num and Bytes -/
namespace Go.Proofs.YtienlhnbmobinaaGreat
open Go.RowKit
set_option linter.unusedVariables false
set_option linter.unusedSimpArgs false
theorem may_bounds {o : Od} (h : o.may = true) : (1 ≤ o.kind ∧ o.kind ≤ 8) ∧ o.page ≤ 1024 ∧ o.nx ≤ 1024 ∧ o.pk ≤ 5 ∧ (0 ≤ o.at_ ∧ o.at_ ≤ 488) ∧ (0 ≤ o.off ∧ o.off ≤ 488) ∧ o.rows.length ≤ 488 ∧ o.text.length + lensB o.rows ≤ 488 := by
  unfold Od.may at h
  rw [Bool.and_eq_true, Bool.and_eq_true, Bool.and_eq_true, decide_eq_true_eq, decide_eq_true_eq, decide_eq_true_eq, decide_eq_true_eq] at h
  omega
end Go.Proofs.YtienlhnbmobinaaGreat
end
