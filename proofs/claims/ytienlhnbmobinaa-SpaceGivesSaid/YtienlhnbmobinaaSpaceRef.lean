/- chapter 16: Alloc, out of the channel; the reference's All, Is, patch, Free, Alloc -/
import Derived.Test.YtienlhnbmobinaaRows
import Derived.Test.YtienlhnbmobinaaSpaceIs
import Derived.Test.YtienlhnbmobinaaSpacePatch
import Derived.Test.YtienlhnbmobinaaSpaceOp
import Derived.Test.YtienlhnbmobinaaSpaceAll
import Derived.Test.YtienlhnbmobinaaLoneW
import Derived.Test.YtienlhnbmobinaaSpaceNums
import Derived.Test.YtienlhnbmobinaaSpaceFree
import Derived.Test.YtienlhnbmobinaaSpaceCheck
import Derived.Test.YtienlhnbmobinaaSpaceBit
import Derived.Test.YtienlhnbmobinaaSpacePlain
import Derived.Test.YtienlhnbmobinaaOpSame
import Derived.Test.YtienlhnbmobinaaOpPart
import Derived.Test.YtienlhnbmobinaaOpRead
import Derived.Test.YtienlhnbmobinaaOpPlain
import Derived.Test.YtienlhnbmobinaaPlains
import Derived.Test.YtienlhnbmobinaaBase
import Derived.Test.YtienlhnbmobinaaTextsP
import Derived.Test.YtienlhnbmobinaaPgStore
import Derived.Test.YtienlhnbmobinaaRefOnly
import Derived.Conc.LoneSelect
import Derived.Conc.LoneCalls
import Derived.Defers
import Derived.WalkKit
import Derived.WalkLawsBesides
import Derived.WalkSpells
import Derived.LoopTactic
import Derived.WalkMore
import Derived.LoopN
import Derived.Laws.BitsAllLaws
import Derived.Laws.IdiomStrings
import Derived.BigQuiet
import Derived.Deep.QuietTactic
import Derived.Deep.DeepCutAuto
import Derived.Deep.RegionHeld3
import Derived.Deep.DrawnRows
import Derived.Lib.Hide
import Derived.Outline
import Derived.Deep.DeepMust
import Derived.Handy
namespace Go.Proofs.Ytienlhnbmobinaa
open Go.RowKit
set_option linter.unusedVariables false
set_option linter.unusedSimpArgs false

open Go.Conc in
theorem lone_setChan {P : Program} {Q : Goroutine → World → Prop} {g : Goroutine} {w2 : World} {c cap s r : Nat} {buf : Array Value} {cl tm : Bool} (h : ∀ w3, OthersKept w2 w3 (fun k => k = c) → LoneTo P Q g w3) : LoneTo P Q g (w2.setChan c cap buf cl s r tm) := h _ (setChan_others _ _ _ _ _ _ _ _)
theorem OAt.off_chan {w w' : World} {g : Nat} {o : Od} {sv : Value} {c room s rc : Nat} {buf : Array Value} {cl tm : Bool} (h : OAt w g o sv) (hk : OthersKept w w' (fun k => k = c)) (hc : w.heap[c]? = some (.chan room buf cl s rc tm)) : OAt w' g o sv := by
  unfold OAt at *
  refine hk.heap h (fun e => ?_)
  subst e
  rw [hc] at h
  cases h
theorem free_mem {p : Pg} {n : Nat} (h : n ∈ freeL p) : 1 ≤ n ∧ n ≤ 1024 := by
  unfold freeL at h
  split at h
  · obtain ⟨k, hk, rfl⟩ := List.mem_map.1 h
    have := List.mem_range.1 (List.mem_filter.1 hk).1
    omega
  · cases h
open Go.Conc
theorem res_sel (a : Nat) (z v : Value) (ok : Bool) : commResult #[rcase a z] .select ((0 : Nat) : Int) v ok = .tuple #[goInt 0, .bool ok, v] := by
  simp [commResult, rcase, List.zipIdx_cons]
set_option maxHeartbeats 4000000 in
set_option maxRecDepth 100000 in
theorem spaceAlloc_any (p : Pg) (sv : Value) (w : World) (hp : p.wf) (ht : TextsAt w sv p.rows) (hb : weightB p.rows ≤ 1000000) :
    Calls Try.prog 28 #[pgV p sv] w fun e w' => e = .returned (.tuple #[.int .u32 ((allocB p).1 : Nat), odV (allocB p).2.1 (.slice none 0 0), .int .i64 (allocB p).2.2]) ∧ Below w.heap.size w w' := by
  have CK := Lib.hid fun W (hW : TextsAt W sv p.rows) => spaceCheck_any p sv W hp hW hb
  have FR := Lib.hid fun W (hW : TextsAt W sv p.rows) => spaceFree_any p sv W hp hW hb
  have PT := Lib.hid fun n0 W (hm : mapB p = true) (hW : TextsAt W sv p.rows) (h1 : 1 ≤ n0) (h2 : n0 ≤ 1024) => spacePatch_any p sv n0 W hm hW h1 h2
  have HT := Lib.hid ht
  obtain ⟨n, hn⟩ : ∃ n, n = p.rows.length := ⟨_, rfl⟩
  obtain ⟨A, cp, hsv, h2, h3, h4, h5⟩ := ht
  rw [← hn] at hsv h2
  subst hsv
  unfold maxLen at h3
  have HN := Lib.hid hn
  clear h4 h5 hn hb
  obtain ⟨kind, level, id, lsn, next, rows⟩ := p
  simp only at HT HN h2
  obtain ⟨mp, hmp⟩ : ∃ m, m = mapB ⟨kind, level, id, lsn, next, rows⟩ := ⟨_, rfl⟩
  have HM := Lib.hid hmp
  have hck : chkB ⟨kind, level, id, lsn, next, rows⟩ = if mp then 0 else 60 := by rw [hmp]; rfl
  rw [hck] at CK
  have P0 := Lib.hid (PgBox.new w kind level id lsn next (.slice A n cp))
  have B0 := Lib.hid (alloc_below w (.cells #[.int .u8 kind, .int .u8 level, .int .u32 id, .int .u64 lsn, .int .u32 next, .slice A n cp] 26))
  have T0 := Lib.hid (HT.out.below B0.out)
  unfold pgV at CK ⊢
  simp only at CK ⊢
  clear hmp hck hp
  unfold pgV at PT FR
  simp only at PT FR
  have O0 := Lib.hid (OAt.new (w.alloc (.cells #[.int .u8 kind, .int .u8 level, .int .u32 id, .int .u64 lsn, .int .u32 next, .slice A n cp] 26)) Od.zero (.slice none 0 0))
  have hz1 : (w.alloc (.cells #[.int .u8 kind, .int .u8 level, .int .u32 id, .int .u64 lsn, .int .u32 next, .slice A n cp] 26)).heap.size = w.heap.size + 1 := by simp
  rw [hz1] at O0
  have O0 : Hid (OAt ((w.alloc (.cells #[.int .u8 kind, .int .u8 level, .int .u32 id, .int .u64 lsn, .int .u32 next, .slice A n cp] 26)).alloc (.cells #[.int .u8 0, .int .u32 0, .int .i64 0, .int .i64 0, .string ⟨#[]⟩, .slice none 0 0, .int .u8 0, .int .u8 0, .int .u32 0] 28)) (w.heap.size + 1) Od.zero (.slice none 0 0)) := O0
  have hb1 := alloc_below (w.alloc (.cells #[.int .u8 kind, .int .u8 level, .int .u32 id, .int .u64 lsn, .int .u32 next, .slice A n cp] 26)) (.cells #[.int .u8 0, .int .u32 0, .int .i64 0, .int .i64 0, .string ⟨#[]⟩, .slice none 0 0, .int .u8 0, .int .u8 0, .int .u32 0] 28)
  have P1 := Lib.hid (P0.out.below hb1)
  have B1 := Lib.hid (below_then B0.out hb1)
  have T1 := Lib.hid (T0.out.below hb1)
  clear hz1 hb1 P0 B0 T0
  refine calls_of_wpN Try.func28 rfl ?_
  simp only [Try.ntmps28, List.size_toArray, List.length_cons, List.length_nil, Nat.reduceAdd, Nat.reduceSub, Array.replicate_succ, Array.replicate_zero, List.push_toArray, List.append_toArray, List.nil_append, List.cons_append]
  obtain ⟨w0, hw0⟩ : ∃ W, W = (w.alloc (.cells #[.int .u8 kind, .int .u8 level, .int .u32 id, .int .u64 lsn, .int .u32 next, .slice A n cp] 26)).alloc (.cells #[.int .u8 0, .int .u32 0, .int .i64 0, .int .i64 0, .string ⟨#[]⟩, .slice none 0 0, .int .u8 0, .int .u8 0, .int .u32 0] 28) := ⟨_, rfl⟩
  rw [← hw0] at P1 B1 T1 O0
  refine wpN_seq ?_
  go_wp2_with fail
  rw [← hw0]
  clear hw0
  obtain ⟨x0, x1, x2, x3, x4, x5, x6⟩ := P1.out.cells
  refine wpN_seq ?_
  go_wp2_with fail
  refine (CK.out _ T1.out).mono ?_
  rintro e w1 ⟨rfl, hb⟩
  have B1 := Lib.hid (below_then B1.out hb)
  have P1 := Lib.hid (P1.out.below hb)
  have T1 := Lib.hid (T1.out.below hb)
  have O1 := Lib.hid (O0.out.under hb)
  clear hb x0 x1 x2 x3 x4 x5 x6 O0
  cases mp
  case false =>
    have HR : Hid (allocB ⟨kind, level, id, lsn, next, rows⟩ = (0, Od.zero, 60)) := by show _ = _; unfold allocB; rw [← HM.out]; rfl
    have hk : (((if false = true then 0 else 60 : Int)) != 0) = true := rfl
    go_wp2_with (refine wpList_store_op rfl (.tmp 3) (.tmp 12) rfl O1.out Od.zero none 0 0 (by rfl) (by rfl) ?_; intro wS hO hK; have OS := Lib.hid hO; have KS := Lib.hid hK; clear hO hK)
    refine bodyPost_ret (results_nop (t := 2) (p := 3) (u := 4) (o := Od.zero) (sv := .slice none 0 0) (by kernel_rfl) _ _ rfl OS.out) rfl ?_
    exact ⟨by rw [HR.out]; rfl, OthersKept.below B1.out KS.out (fun k hk e => by omega)⟩
  have hk : (((if true = true then 0 else 60 : Int)) != 0) = false := rfl
  have MB : Hid (mapB ⟨kind, level, id, lsn, next, rows⟩ = true) := Lib.hid HM.out.symm
  have FM := Lib.hid fun n0 (h : n0 ∈ freeL ⟨kind, level, id, lsn, next, rows⟩) => free_mem h
  have HA0 : Hid (allocB ⟨kind, level, id, lsn, next, rows⟩ = match freeL ⟨kind, level, id, lsn, next, rows⟩ with | [] => (0, Od.zero, 4) | n :: _ => (n, patchO ⟨kind, level, id, lsn, next, rows⟩ n, 0)) := by show _ = _; unfold allocB; rw [← HM.out]; rfl
  obtain ⟨x0, x1, x2, x3, x4, x5, x6⟩ := P1.out.cells
  go_wp2_with fail
  clear hk
  refine wpN_seqN ?_
  refine wpN_seq ?_
  go_wp2_with fail
  refine (FR.out _ T1.out).mono ?_
  rintro e w2 ⟨c, s, r, rfl, hc, hb, hcw⟩
  have hwc : w.heap.size + 1 < c := by have := O1.out.lt; omega
  have CH := Lib.hid hc
  have B2 := Lib.hid (below_then B1.out hb)
  have P2 := Lib.hid (P1.out.below hb)
  have T2 := Lib.hid (T1.out.below hb)
  have O2 := Lib.hid (O1.out.under hb)
  clear hc hb hcw B1 P1 T1 O1 x0 x1 x2 x3 x4 x5 x6 FR CK
  obtain ⟨x0, x1, x2, x3, x4, x5, x6⟩ := P2.out.cells
  go_wp2_with fail
  clear x0 x1 x2 x3 x4 x5 x6
  refine wpN_seqN ?_
  obtain ⟨L, hL⟩ : ∃ L, L = freeL ⟨kind, level, id, lsn, next, rows⟩ := ⟨_, rfl⟩
  rw [← hL] at CH HA0 FM
  clear hL
  cases L with
  | nil =>
    refine wpN_lone fun b0 k0 cs0 hkind => ?_
    refine LoneTo.goes (n := 10) ?_
    s_reg
    s_stop
    refine LoneTo.step (step_lone_select_recv_shut (c := c) (z := .int .u32 0) (cap := 1024) (s := s) (r := r) (tm := false) (stepG_comm (cases := #[rcase c (.int .u32 0)]) (blocking := false) (shape := .select) (w' := w2) rfl rfl hkind (by simp [go_sem, execOp, rcase, Act.eval])) CH.out) ?_
    rw [Frame.finish_at]
    walk_nrm
    refine LoneTo.goes (n := 5) ?_
    (s_in; refine goes_oper_k rfl rfl hkind (fun K hK => ?_); go_simp; refine hK _ _ ⟨trivial, ?_⟩; clear hK K)
    (s_in; refine goes_oper_k rfl rfl hkind (fun K hK => ?_); go_simp; refine hK _ _ ⟨trivial, ?_⟩; clear hK K)
    s_c stepG_region_end
    s_stop
    refine LoneTo.done ⟨_, rfl, ?_⟩
    simp only [Exit.inBlock, Exit.then]
    refine wpN_of ?_
    go_wp2_with fail
    refine wpN_of ?_
    have HR : Hid (allocB ⟨kind, level, id, lsn, next, rows⟩ = (0, Od.zero, 4)) := by show _ = _; rw [HA0.out]
    go_wp2_with (refine wpList_store_op rfl (.tmp 3) (.tmp 26) rfl O2.out Od.zero none 0 0 (by rfl) (by rfl) ?_; intro wS hO hK; have OS := Lib.hid hO; have KS := Lib.hid hK; clear hO hK)
    refine bodyPost_ret (results_nop (t := 2) (p := 3) (u := 4) (o := Od.zero) (sv := .slice none 0 0) (by kernel_rfl) _ _ rfl OS.out) rfl ?_
    exact ⟨by rw [HR.out]; rfl, OthersKept.below B2.out KS.out (fun k hk e => by omega)⟩
  | cons n0 L =>
    obtain ⟨hn1, hn2⟩ := FM.out n0 (by simp)
    have HR : Hid (allocB ⟨kind, level, id, lsn, next, rows⟩ = (n0, patchO ⟨kind, level, id, lsn, next, rows⟩ n0, 0)) := by show _ = _; rw [HA0.out]
    have PTX := Lib.hid fun W hW => PT.out n0 W MB.out hW hn1 hn2
    obtain ⟨od, hod⟩ : ∃ o, o = patchO ⟨kind, level, id, lsn, next, rows⟩ n0 := ⟨_, rfl⟩
    rw [← hod] at HR PTX
    clear hod PT HA0 FM
    refine wpN_lone fun b0 k0 cs0 hkind => ?_
    refine LoneTo.goes (n := 10) ?_
    s_reg
    s_stop
    refine LoneTo.step (step_lone_select_recv_buf (c := c) (z := .int .u32 0) (cap := 1024) (buf := ((n0 :: L).map fun n => Value.int .u32 (n : Nat)).toArray) (closed := true) (s := s) (r := r) (tm := false) (stepG_comm (cases := #[rcase c (.int .u32 0)]) (blocking := false) (shape := .select) (w' := w2) rfl rfl hkind (by simp [go_sem, execOp, rcase, Act.eval])) CH.out (by simp)) ?_
    have hg0 : ((n0 :: L).map fun (n : Nat) => Value.int .u32 (n : Int)).toArray.getD 0 undef = .int .u32 (n0 : Int) := rfl
    rw [Frame.finish_at, hg0]
    clear hg0
    refine lone_setChan (fun w3 KX => ?_)
    have B3 := Lib.hid (OthersKept.below B2.out KX (fun x hx e => by omega))
    have P3 := Lib.hid (P2.out.kept KX (by omega))
    have T3 := Lib.hid (TextsAt.off_chan T2.out KX CH.out)
    have O3 := Lib.hid (OAt.off_chan O2.out KX CH.out)
    clear KX B2 P2 T2 O2 CH
    walk_nrm
    refine LoneTo.goes (n := 5) ?_
    (s_in; refine goes_oper_k rfl rfl hkind (fun K hK => ?_); go_simp; refine hK _ _ ⟨trivial, ?_⟩; clear hK K)
    (s_in; refine goes_oper_k rfl rfl hkind (fun K hK => ?_); go_simp; refine hK _ _ ⟨trivial, ?_⟩; clear hK K)
    s_c stepG_region_end
    s_stop
    refine LoneTo.done ⟨_, rfl, ?_⟩
    simp only [Exit.inBlock, Exit.then]
    refine wpN_of ?_
    obtain ⟨x0, x1, x2, x3, x4, x5, x6⟩ := P3.out.cells
    go_wp2_with fail
    refine (PTX.out _ T3.out).mono ?_
    rintro e w4 ⟨rfl, hb⟩
    have B4 := Lib.hid (below_then B3.out hb)
    have O4 := Lib.hid (O3.out.under hb)
    clear hb x0 x1 x2 x3 x4 x5 x6
    unfold odV
    go_wp2_with (refine wpList_store_op rfl (.tmp 3) (.tmp 25) rfl O4.out od none 0 0 (by rfl) (by rfl) ?_; intro wS hO hK; have OS := Lib.hid hO; have KS := Lib.hid hK; clear hO hK)
    refine bodyPost_ret (results_nop (t := 2) (p := 3) (u := 4) (o := od) (sv := .slice none 0 0) (by kernel_rfl) _ _ rfl OS.out) rfl ?_
    exact ⟨by rw [HR.out]; rfl, OthersKept.below B4.out KS.out (fun k hk e => by omega)⟩

end Go.Proofs.Ytienlhnbmobinaa

namespace Go.Proofs.Ytienlhnbmobinaa
open Go.RowKit
set_option linter.unusedVariables false
set_option linter.unusedSimpArgs false

theorem fill_succ (r : List UInt8) (j : Nat) : (((List.range (j + 1)).filter fun k => !bitB r k).map (· + 1)) = (((List.range j).filter fun k => !bitB r k).map (· + 1)) ++ (if bitB r j then [] else [j + 1]) := by
  rw [List.range_succ, List.filter_append, List.map_append]
  cases h : bitB r j <;> simp [h]
theorem free_mem2 {p : Pg} {n : Nat} (h : n ∈ freeL p) : 1 ≤ n ∧ n ≤ 1024 ∧ bitB (mapRow p) (n - 1) = false := by
  unfold freeL at h
  split at h
  · obtain ⟨k, hk, rfl⟩ := List.mem_map.1 h
    obtain ⟨h1, h2⟩ := List.mem_filter.1 hk
    have := List.mem_range.1 h1
    exact ⟨by omega, by omega, by simpa using h2⟩
  · cases h
def fillN (r : List UInt8) (j : Nat) : List Nat := ((List.range j).filter fun k => !bitB r k).map (· + 1)
theorem fillN_succ (r : List UInt8) (j : Nat) : fillN r (j + 1) = fillN r j ++ (if bitB r j then [] else [j + 1]) := fill_succ r j
theorem fillN_le (r : List UInt8) (j : Nat) : (fillN r j).length ≤ j := by
  unfold fillN
  rw [List.length_map]
  exact Nat.le_trans (List.length_filter_le _ _) (by simp)
theorem map_fill {p : Pg} (h : true = mapB p) : freeL p = fillN (mapRow p) 1024 := by unfold freeL fillN; rw [← h]; rfl
set_option maxHeartbeats 4000000 in
set_option maxRecDepth 100000 in
theorem refAll_any (p : Pg) (sv : Value) (w : World) (hp : p.wf) (ht : TextsAt w sv p.rows) (hb : weightB p.rows ≤ 1000000) :
    Calls Try.prog 37 #[pgV p sv] w fun e w' => ∃ v, e = .returned v ∧ N32At w' v (freeL p) ∧ Below w.heap.size w w' := by
  have CK := Lib.hid fun W (hW : TextsAt W sv p.rows) => refCheck16_any p sv W hp hW hb
  have HT := Lib.hid ht
  obtain ⟨n, hn⟩ : ∃ n, n = p.rows.length := ⟨_, rfl⟩
  obtain ⟨A, cp, hsv, h2, h3, h4, h5⟩ := ht
  rw [← hn] at hsv h2
  subst hsv
  unfold maxLen at h3
  have HN := Lib.hid hn
  clear h4 h5 hn hb
  obtain ⟨kind, level, id, lsn, next, rows⟩ := p
  simp only at HT HN h2
  obtain ⟨mp, hmp⟩ : ∃ m, m = mapB ⟨kind, level, id, lsn, next, rows⟩ := ⟨_, rfl⟩
  have HM := Lib.hid hmp
  have hck : chkB ⟨kind, level, id, lsn, next, rows⟩ = if mp then 0 else 60 := by rw [hmp]; rfl
  rw [hck] at CK
  have P0 := Lib.hid (PgBox.new w kind level id lsn next (.slice A n cp))
  have B0 := Lib.hid (alloc_below w (.cells #[.int .u8 kind, .int .u8 level, .int .u32 id, .int .u64 lsn, .int .u32 next, .slice A n cp] 26))
  have T0 := Lib.hid (HT.out.below B0.out)
  unfold pgV at CK ⊢
  simp only at CK ⊢
  clear hmp hck hp
  obtain ⟨i0, hif, hz0, hz1, hz2⟩ := info_parts Try.infoU32
  have HI := Lib.hid hif
  have HI0 := Lib.hid hz0
  have HI1 := Lib.hid hz1
  have HI2 := Lib.hid hz2
  clear hif hz0 hz1 hz2
  go_enter Try.func37, Try.ntmps37
  go_upto_region 1 with fail
  generalize w.alloc (.cells #[.int .u8 kind, .int .u8 level, .int .u32 id, .int .u64 lsn, .int .u32 next, .slice A n cp] 26) = w0 at *
  obtain ⟨x0, x1, x2, x3, x4, x5, x6⟩ := P0.out.cells
  go_wp2_with fail
  refine (CK.out _ T0.out).mono ?_
  rintro e w1 ⟨rfl, hb⟩
  have B1 := Lib.hid hb
  clear hb x0 x1 x2 x3 x4 x5 x6 CK
  cases mp
  case false =>
    have hk : (((if false = true then 0 else 60 : Int)) != 0) = true := rfl
    have hf : freeL ⟨kind, level, id, lsn, next, rows⟩ = [] := by unfold freeL; rw [← HM.out]; rfl
    go_wp2_with fail
    go_ret
    exact ⟨_, rfl, by rw [hf]; exact ⟨none, 0, rfl, Nat.le_refl _, Nat.zero_le _, fun _ => ⟨rfl, rfl⟩, fun h => absurd h (Nat.lt_irrefl 0)⟩, below_then B0.out B1.out⟩
  have hk : (((if true = true then 0 else 60 : Int)) != 0) = false := rfl
  obtain ⟨r, hr⟩ : ∃ r, rows = [r] := map_row HM.out
  subst hr
  have hl128 := map_len HM.out
  have HF := Lib.hid (map_fill HM.out)
  simp only [mapRow, List.getD_cons_zero] at hl128 HF
  have hn1 : n = 1 := by rw [HN.out]; rfl
  subst hn1
  have BT := Lib.hid fun k W (h1 : 1 ≤ k) (h2 : k ≤ 1024) => refBit_any r k W hl128 h1 h2
  clear hl128
  go_wp2_with fail
  go_loopw [3, 4] (fun s3 s4 wx => ∃ k : Nat, 1 ≤ k ∧ k ≤ 1025 ∧ s4 = .int .u32 k ∧ Hid (wx.ownsRow w0.heap.size 22 1 s3 (fillN r (k - 1)).length (n32 (fillN r (k - 1)))) ∧ Hid (Below w0.heap.size w0 wx)) (fun _ v _ => 1025 - (intOf v).toNat)
  case atStart => exact ⟨1, Nat.le_refl _, by omega, rfl, Lib.hid (World.ownsRow_nil _ _ _ _), B1⟩
  case round =>
    obtain ⟨k, hk1, hk2, rfl, OO, HB⟩ := hrel
    clear B1
    have HP := Lib.hid (P0.out.below HB.out)
    have HT2 := Lib.hid (T0.out.below HB.out)
    by_cases hkk : k ≤ 1024
    · have hki : (k : Int) ≤ 1024 := by omega
      obtain ⟨x0, x1, x2, x3, x4, x5, x6⟩ := HP.out.cells
      obtain ⟨_, _, hvv, _, _, _, hcc⟩ := HT2.out
      obtain ⟨b, o, hA, hbl, hcell⟩ := hcc (by simp)
      cases hvv
      cases hA
      have c0 := hcell 0 (by simp)
      simp only [Nat.add_zero, List.getElem_cons_zero] at c0
      have hF0 := fillN_succ r (k - 1)
      rw [show k - 1 + 1 = k by omega] at hF0
      have HFS := Lib.hid hF0
      have hFl := fillN_le r (k - 1)
      clear hcell hF0 hcc
      go_wp2_with fail
      refine (BT.out k _ hk1 hkk).mono ?_
      rintro e w' ⟨rfl, rfl⟩
      obtain ⟨bt, hbt⟩ : ∃ bt, bt = bitB r (k - 1) := ⟨_, rfl⟩
      rw [← hbt] at HFS ⊢
      clear hbt c0 x0 x1 x2 x3 x4 x5 x6
      obtain ⟨L, hL⟩ : ∃ L, L = fillN r (k - 1) := ⟨_, rfl⟩
      rw [← hL] at HFS OO hFl
      obtain ⟨m, hm⟩ : ∃ m, m = L.length := ⟨_, rfl⟩
      rw [← hm] at OO hFl
      have HMm := Lib.hid hm
      clear hL hm
      cases bt
      case true =>
        have H2 := Lib.hid (show fillN r k = L by rw [HFS.out, if_pos rfl, List.append_nil])
        go_wp2_with fail
        exact ⟨⟨k + 1, by omega, by omega, by go_num, Lib.hid (by rw [show k + 1 - 1 = k by omega, H2.out, ← HMm.out]; exact OO.out), HB⟩, by simp [intOf]; omega⟩
      have H2 := Lib.hid (show fillN r k = L ++ [k] by rw [HFS.out]; rfl)
      have O6 := Lib.hid (own_below OO.out (alloc_below wr (.cells #[.int .u32 k] 22)))
      have B6 := Lib.hid (HB.out.alloc HB.out.size (.cells #[.int .u32 k] 22))
      have hs6 : w0.heap.size ≤ (wr.alloc (.cells #[.int .u32 k] 22)).heap.size := B6.out.size
      have R6 := Lib.hid (num_one32 wr k)
      go_wp2_with (at_builtin; refine wpList_append_any _ rfl _ _ 55 rfl w0.heap.size 22 i0 (.int .u32 0) 1 4 Try.underlying55 HI.out HI0.out HI1.out HI2.out rfl (by decide) _ m _ (by rfl) O6.out (.slice (some ⟨wr.heap.size, 0, none⟩) 1 1) 1 [.int .u32 k] (by rfl) R6.out (fun u hu => by rw [List.mem_singleton.1 hu]; rfl) (by unfold maxLen; omega) (by omega) hs6 ?_; intro v7 w7 hown7 hgrow7; have B7 := Lib.hid (B6.out.grown hgrow7 hs6 (fun j hj => by have := (O6.out.lt j hj).1; omega)); have O7 := Lib.hid hown7; clear hown7 hgrow7)
      exact ⟨⟨k + 1, by omega, by omega, by go_num, Lib.hid (by rw [show k + 1 - 1 = k by omega, H2.out, List.length_append, n32_append, ← HMm.out]; exact O7.out), B7⟩, by simp [intOf]; omega⟩
    · obtain rfl : k = 1025 := by omega
      go_wp2_with fail
      go_ret
      refine ⟨_, rfl, ?_, below_then B0.out HB.out⟩
      rw [HF.out]
      exact (n32_own OO.out).1
set_option maxHeartbeats 4000000 in
set_option maxRecDepth 100000 in
theorem refIs16_any (p : Pg) (sv : Value) (n0 : Nat) (w : World) (hp : p.wf) (ht : TextsAt w sv p.rows) (hb : weightB p.rows ≤ 1000000) :
    Calls Try.prog 40 #[pgV p sv, .int .u32 n0] w fun e w' => e = .returned (.bool (isB p n0)) ∧ Below w.heap.size w w' := by
  have CK := Lib.hid fun W (hW : TextsAt W sv p.rows) => refCheck16_any p sv W hp hW hb
  have HT := Lib.hid ht
  obtain ⟨n, hn⟩ : ∃ n, n = p.rows.length := ⟨_, rfl⟩
  obtain ⟨A, cp, hsv, h2, h3, h4, h5⟩ := ht
  rw [← hn] at hsv h2
  subst hsv
  unfold maxLen at h3
  have HN := Lib.hid hn
  clear h4 h5 hn hb
  obtain ⟨kind, level, id, lsn, next, rows⟩ := p
  simp only at HT HN h2
  obtain ⟨mp, hmp⟩ : ∃ m, m = mapB ⟨kind, level, id, lsn, next, rows⟩ := ⟨_, rfl⟩
  have HM := Lib.hid hmp
  have hck : chkB ⟨kind, level, id, lsn, next, rows⟩ = if mp then 0 else 60 := by rw [hmp]; rfl
  rw [hck] at CK
  have P0 := Lib.hid (PgBox.new w kind level id lsn next (.slice A n cp))
  have B0 := Lib.hid (alloc_below w (.cells #[.int .u8 kind, .int .u8 level, .int .u32 id, .int .u64 lsn, .int .u32 next, .slice A n cp] 26))
  have T0 := Lib.hid (HT.out.below B0.out)
  unfold pgV at CK ⊢
  simp only at CK ⊢
  clear hmp hck hp
  cases mp
  case false =>
    have HR : Hid (isB ⟨kind, level, id, lsn, next, rows⟩ n0 = false) := by show _ = _; unfold isB; rw [← HM.out]; rfl
    have hk : (((if false = true then 0 else 60 : Int)) != 0) = true := rfl
    go_enter Try.func40, Try.ntmps40
    go_upto_region 1 with fail
    generalize w.alloc (.cells #[.int .u8 kind, .int .u8 level, .int .u32 id, .int .u64 lsn, .int .u32 next, .slice A n cp] 26) = w0 at *
    obtain ⟨x0, x1, x2, x3, x4, x5, x6⟩ := P0.out.cells
    go_wp2_with fail
    refine (CK.out _ T0.out).mono ?_
    rintro e w1 ⟨rfl, hb⟩
    have B1 := Lib.hid (below_then B0.out hb)
    clear hb
    go_wp2_with fail
    go_ret
    exact ⟨by rw [HR.out]; rfl, B1.out⟩
  have hk : (((if true = true then 0 else 60 : Int)) != 0) = false := rfl
  obtain ⟨r, hr⟩ : ∃ r, rows = [r] := map_row HM.out
  subst hr
  have hl128 := map_len HM.out
  simp only [mapRow, List.getD_cons_zero] at hl128
  have hn1 : n = 1 := by rw [HN.out]; rfl
  subst hn1
  have BT := Lib.hid fun W (h1 : 1 ≤ n0) (h2 : n0 ≤ 1024) => refBit_any r n0 W hl128 h1 h2
  clear hl128
  by_cases h1 : 1 ≤ n0
  case neg =>
    obtain rfl : n0 = 0 := by omega
    have HR : Hid (isB ⟨kind, level, id, lsn, next, [r]⟩ 0 = true) := by show _ = _; unfold isB; rw [← HM.out]; rfl
    go_enter Try.func40, Try.ntmps40
    go_upto_region 1 with fail
    generalize w.alloc (.cells #[.int .u8 kind, .int .u8 level, .int .u32 id, .int .u64 lsn, .int .u32 next, .slice A 1 cp] 26) = w0 at *
    obtain ⟨x0, x1, x2, x3, x4, x5, x6⟩ := P0.out.cells
    go_wp2_with fail
    refine (CK.out _ T0.out).mono ?_
    rintro e w1 ⟨rfl, hb⟩
    have B1 := Lib.hid (below_then B0.out hb)
    clear hb
    go_wp2_with fail
    go_ret
    exact ⟨by rw [HR.out]; rfl, B1.out⟩
  have q1 : ¬ (n0 : Int) < 1 := by omega
  by_cases h2' : n0 ≤ 1024
  case neg =>
    have HR : Hid (isB ⟨kind, level, id, lsn, next, [r]⟩ n0 = true) := by show _ = _; unfold isB; rw [← HM.out]; simp; omega
    have q2 : (1024 : Int) < (n0 : Int) := by omega
    go_enter Try.func40, Try.ntmps40
    go_upto_region 1 with fail
    generalize w.alloc (.cells #[.int .u8 kind, .int .u8 level, .int .u32 id, .int .u64 lsn, .int .u32 next, .slice A 1 cp] 26) = w0 at *
    obtain ⟨x0, x1, x2, x3, x4, x5, x6⟩ := P0.out.cells
    go_wp2_with fail
    refine (CK.out _ T0.out).mono ?_
    rintro e w1 ⟨rfl, hb⟩
    have B1 := Lib.hid (below_then B0.out hb)
    clear hb
    go_wp2_with fail
    go_ret
    exact ⟨by rw [HR.out]; rfl, B1.out⟩
  have q2 : ¬ (1024 : Int) < (n0 : Int) := by omega
  have HR : Hid (isB ⟨kind, level, id, lsn, next, [r]⟩ n0 = bitB r (n0 - 1)) := by
    show _ = _
    unfold isB
    rw [← HM.out]
    have e1 : decide (n0 < 1) = false := decide_eq_false (by omega)
    have e2 : decide (1024 < n0) = false := decide_eq_false (by omega)
    rw [e1, e2]
    rfl
  have q3 : decide ((n0 : Int) < 1) = false := decide_eq_false (by omega)
  have q4 : decide ((1024 : Int) < (n0 : Int)) = false := decide_eq_false (by omega)
  have BTX := Lib.hid fun W => BT.out W h1 h2'
  obtain ⟨bt, hbt⟩ : ∃ b, b = bitB r (n0 - 1) := ⟨_, rfl⟩
  rw [← hbt] at HR BTX
  clear hbt BT
  go_enter Try.func40, Try.ntmps40
  go_upto_region 1 with fail
  generalize w.alloc (.cells #[.int .u8 kind, .int .u8 level, .int .u32 id, .int .u64 lsn, .int .u32 next, .slice A 1 cp] 26) = w0 at *
  obtain ⟨x0, x1, x2, x3, x4, x5, x6⟩ := P0.out.cells
  go_wp2_with fail
  refine (CK.out _ T0.out).mono ?_
  rintro e w1 ⟨rfl, hb⟩
  have B1 := Lib.hid (below_then B0.out hb)
  have P1 := Lib.hid (P0.out.below hb)
  have T1 := Lib.hid (T0.out.below hb)
  clear hb x0 x1 x2 x3 x4 x5 x6 P0 T0
  obtain ⟨x0, x1, x2, x3, x4, x5, x6⟩ := P1.out.cells
  obtain ⟨_, _, hvv, _, _, _, hcc⟩ := T1.out
  obtain ⟨b, o, hA, hbl, hcell⟩ := hcc (by simp)
  cases hvv
  cases hA
  have c0 := hcell 0 (by simp)
  simp only [Nat.add_zero, List.getElem_cons_zero] at c0
  clear hcell hcc
  go_wp2_with fail
  refine (BTX.out _).mono ?_
  rintro e w2 ⟨rfl, rfl⟩
  go_wp2_with fail
  go_ret
  exact ⟨by rw [HR.out]; rfl, B1.out⟩
theorem cut_one (l : List UInt8) (d : Nat) (h : d < l.length) : (⟨l.toArray⟩ : ByteArray).extract d (d + 1) = ⟨[l.getD d 0].toArray⟩ := by
  apply bytes_ext
  rw [ByteArray.data_extract]
  simp
  rw [List.take_one, List.head?_drop, List.getElem?_eq_getElem h]
  rfl
set_option maxHeartbeats 4000000 in
set_option maxRecDepth 1000000 in
theorem refPatch16_any (p : Pg) (sv : Value) (n0 : Nat) (t : Bool) (w : World) (hm : mapB p = true) (ht : TextsAt w sv p.rows) (h1 : 1 ≤ n0) (h2 : n0 ≤ 1024) (hbt : bitB (mapRow p) (n0 - 1) = !t) :
    Calls Try.prog 93 #[pgV p sv, .int .u32 n0, .bool t] w fun e w' => e = .returned (odV (patchO p n0) (.slice none 0 0)) ∧ Below w.heap.size w w' := by
  have HM := Lib.hid hm
  have HT := Lib.hid ht
  obtain ⟨d, j, hd, hj, hj8, hd8, hn⟩ := num_k h1 h2
  obtain ⟨r, hr⟩ := map_row hm.symm
  obtain ⟨A, cp, hsv, k2, k3, k4, k5⟩ := ht
  have hl128 := map_len hm.symm
  obtain ⟨kind, level, id, lsn, next, rows⟩ := p
  simp only at hr HT k5 hsv k2 hl128
  subst hr
  subst hsv
  simp only [mapRow, List.getD_cons_zero] at hl128 hbt
  have SETX := Lib.hid fun W => refSet_any r n0 t W hl128 h1 h2
  obtain ⟨b, o, hA, hbl, hcell⟩ := k5 (by simp)
  subst hA
  have c0 := hcell 0 (by simp)
  simp only [Nat.add_zero, List.getElem_cons_zero] at c0
  obtain ⟨y, hy⟩ : ∃ y, y = flip8 (r.getD d 0) j := ⟨_, rfl⟩
  have HP : Hid (patchO ⟨kind, level, id, lsn, next, [r]⟩ n0 = ⟨8, id, 0, (d : Nat), [y], [], 0, 0, 0⟩) := by
    show _ = _
    rw [hy]
    unfold patchO mapRow
    simp only [List.getD_cons_zero]
    rw [← hd, ← hj]
  obtain ⟨q, hq⟩ : ∃ q, q = setAt r (n0 - 1) t := ⟨_, rfl⟩
  have hql : q.length = 128 := by rw [hq, setAt_length, hl128]
  have hqd : q.getD d 0 = y := by
    rw [hq, hy]
    unfold setAt
    rw [if_neg (by rw [hbt]; cases t <;> simp)]
    unfold flipAt
    rw [← hd, ← hj]
    simp [List.getD_eq_getElem?_getD, List.getElem?_set_self (show d < r.length by omega)]
  rw [← hq] at SETX
  have hcut := cut_one q d (by omega)
  rw [hqd] at hcut
  have HCUT := Lib.hid hcut
  have hqs : (⟨q.toArray⟩ : ByteArray).size = 128 := hql
  have e1 : ((n0 : Int) - 1) / 8 = (d : Int) := by omega
  have P0 := Lib.hid (PgBox.new w kind level id lsn next (.slice (some ⟨b, o, none⟩) 1 cp))
  have B0 := Lib.hid (alloc_below w (.cells #[.int .u8 kind, .int .u8 level, .int .u32 id, .int .u64 lsn, .int .u32 next, .slice (some ⟨b, o, none⟩) 1 cp] 26))
  unfold pgV
  simp only [List.length_singleton]
  clear hcell k5 k4 hn hd hj hl128 hm k2 k3 hy hbt hq hql hqd hcut
  have b1 := B0.out.alloc B0.out.size (.cells #[.int .u8 0, .int .u32 0, .int .i64 0, .int .i64 0, .string ByteArray.empty, .slice none 0 0, .int .u8 0, .int .u8 0, .int .u32 0] 28)
  have P1 := Lib.hid (P0.out.keep (.cells #[.int .u8 0, .int .u32 0, .int .i64 0, .int .i64 0, .string ByteArray.empty, .slice none 0 0, .int .u8 0, .int .u8 0, .int .u32 0] 28))
  have O1 := heap_alloc_new (w.alloc (.cells #[.int .u8 kind, .int .u8 level, .int .u32 id, .int .u64 lsn, .int .u32 next, .slice (some ⟨b, o, none⟩) 1 cp] 26)) (.cells #[.int .u8 0, .int .u32 0, .int .i64 0, .int .i64 0, .string ByteArray.empty, .slice none 0 0, .int .u8 0, .int .u8 0, .int .u32 0] 28)
  rw [World.size_alloc] at O1
  have T1 := Lib.hid (HT.out.below b1)
  have c1 := keep_cell b1 c0
  have B1 := Lib.hid b1
  have OO := Lib.hid (OAt.of_cells O1)
  clear b1 O1 c0
  go_enter Try.func93, Try.ntmps93
  go_upto_region 1 with fail
  have hbe : (⟨#[]⟩ : ByteArray) = ByteArray.empty := rfl
  rw [hbe]
  generalize (w.alloc (.cells #[.int .u8 kind, .int .u8 level, .int .u32 id, .int .u64 lsn, .int .u32 next, .slice (some ⟨b, o, none⟩) 1 cp] 26)).alloc (.cells #[.int .u8 0, .int .u32 0, .int .i64 0, .int .i64 0, .string ByteArray.empty, .slice none 0 0, .int .u8 0, .int .u8 0, .int .u32 0] 28) = w0 at *
  clear hbe
  obtain ⟨x0, x1, x2, x3, x4, x5, x6⟩ := P1.out.cells
  go_wp2_with fail
  refine (SETX.out _).mono ?_
  rintro e w1 ⟨rfl, hb⟩
  have P2 := Lib.hid (P1.out.below hb)
  have B2 := Lib.hid (below_then B1.out hb)
  have O2 := Lib.hid (OO.out.under hb)
  clear hb x0 x1 x2 x3 x4 x5 x6 P1 B1 OO c1
  obtain ⟨x0, x1, x2, x3, x4, x5, x6⟩ := P2.out.cells
  have hgw : w.heap.size + 1 < w1.heap.size := O2.out.lt
  go_upto_region 3 with fail
  have hoc := O2.out
  unfold OAt at hoc
  have o0 := blk_cell hoc 0
  have o1 := blk_cell hoc 1
  have o2 := blk_cell hoc 2
  have o3 := blk_cell hoc 3
  have o4 := blk_cell hoc 4
  have o5 := blk_cell hoc 5
  have o6 := blk_cell hoc 6
  have o7 := blk_cell hoc 7
  have o8 := blk_cell hoc 8
  simp only [List.getElem?_toArray, List.getElem?_cons_zero, List.getElem?_cons_succ] at o0 o1 o2 o3 o4 o5 o6 o7 o8
  have hfz := blk_frozen hoc
  clear hoc
  have OF := Lib.hid (OAt.drew (OAt.put O2.out ⟨8, id, 0, (d : Nat), [y], [], 0, 0, 0⟩ (.slice none 0 0)))
  have BF := Lib.hid ((OthersKept.below B2.out (setOp_kept w1 (w.heap.size + 1) ⟨8, id, 0, (d : Nat), [y], [], 0, 0, 0⟩ (.slice none 0 0)) (fun k hk e => by omega)).drew)
  obtain ⟨wF, hwF⟩ : ∃ W, W = (setOp w1 (w.heap.size + 1) ⟨8, id, 0, (d : Nat), [y], [], 0, 0, 0⟩ (.slice none 0 0)).drew := ⟨_, rfl⟩
  rw [← hwF] at OF BF
  unfold setOp at hwF
  simp only [show ((8 : Nat) : Int) = 8 from rfl, show ((0 : Nat) : Int) = 0 from rfl] at hwF
  have HWF := Lib.hid hwF
  clear hwF
  have hcx := HCUT.out
  have i1 : (0 : Int) ≤ (d : Int) := by omega
  have i2 : (d : Int) ≤ (d : Int) + 1 := by omega
  have i3 : (d : Int) + 1 ≤ 128 := by omega
  have i4 : (0 : Int) ≤ (d : Int) + 1 := by omega
  go_region

  have hx := HWF.out
  rw [← hx]
  clear hx HWF o0 o1 o2 o3 o4 o5 o6 o7 o8 hfz
  go_wp2_with fail
  refine bodyPost_ret (results_op1 (p := 6) (o := ⟨8, id, 0, (d : Nat), [y], [], 0, 0, 0⟩) (sv := .slice none 0 0) (by kernel_rfl) _ _ rfl OF.out) rfl ?_
  exact ⟨by rw [HP.out], BF.out⟩
set_option maxHeartbeats 4000000 in
set_option maxRecDepth 100000 in
theorem refGive_any (p : Pg) (sv : Value) (n0 : Nat) (w : World) (hp : p.wf) (ht : TextsAt w sv p.rows) (hb : weightB p.rows ≤ 1000000) :
    Calls Try.prog 35 #[pgV p sv, .int .u32 n0] w fun e w' => e = .returned (.tuple #[odV (giveB p n0).1 (.slice none 0 0), .int .i64 (giveB p n0).2]) ∧ Below w.heap.size w w' := by
  have CK := Lib.hid fun W (hW : TextsAt W sv p.rows) => refCheck16_any p sv W hp hW hb
  have PT := Lib.hid fun W (hm : mapB p = true) (hW : TextsAt W sv p.rows) (h1 : 1 ≤ n0) (h2 : n0 ≤ 1024) (hbt : bitB (mapRow p) (n0 - 1) = true) => refPatch16_any p sv n0 false W hm hW h1 h2 hbt
  have HT := Lib.hid ht
  obtain ⟨n, hn⟩ : ∃ n, n = p.rows.length := ⟨_, rfl⟩
  obtain ⟨A, cp, hsv, h2, h3, h4, h5⟩ := ht
  rw [← hn] at hsv h2
  subst hsv
  unfold maxLen at h3
  have HN := Lib.hid hn
  clear h4 h5 hn hb
  obtain ⟨kind, level, id, lsn, next, rows⟩ := p
  simp only at HT HN h2
  obtain ⟨mp, hmp⟩ : ∃ m, m = mapB ⟨kind, level, id, lsn, next, rows⟩ := ⟨_, rfl⟩
  have HM := Lib.hid hmp
  have hck : chkB ⟨kind, level, id, lsn, next, rows⟩ = if mp then 0 else 60 := by rw [hmp]; rfl
  rw [hck] at CK
  have P0 := Lib.hid (PgBox.new w kind level id lsn next (.slice A n cp))
  have B0 := Lib.hid (alloc_below w (.cells #[.int .u8 kind, .int .u8 level, .int .u32 id, .int .u64 lsn, .int .u32 next, .slice A n cp] 26))
  have T0 := Lib.hid (HT.out.below B0.out)
  unfold pgV at CK ⊢
  simp only at CK ⊢
  clear hmp hck hp
  unfold pgV at PT
  simp only at PT
  have O0 := Lib.hid (OAt.new (w.alloc (.cells #[.int .u8 kind, .int .u8 level, .int .u32 id, .int .u64 lsn, .int .u32 next, .slice A n cp] 26)) Od.zero (.slice none 0 0))
  have hz1 : (w.alloc (.cells #[.int .u8 kind, .int .u8 level, .int .u32 id, .int .u64 lsn, .int .u32 next, .slice A n cp] 26)).heap.size = w.heap.size + 1 := by simp
  rw [hz1] at O0
  have O0 : Hid (OAt ((w.alloc (.cells #[.int .u8 kind, .int .u8 level, .int .u32 id, .int .u64 lsn, .int .u32 next, .slice A n cp] 26)).alloc (.cells #[.int .u8 0, .int .u32 0, .int .i64 0, .int .i64 0, .string ⟨#[]⟩, .slice none 0 0, .int .u8 0, .int .u8 0, .int .u32 0] 28)) (w.heap.size + 1) Od.zero (.slice none 0 0)) := O0
  have hb1 := alloc_below (w.alloc (.cells #[.int .u8 kind, .int .u8 level, .int .u32 id, .int .u64 lsn, .int .u32 next, .slice A n cp] 26)) (.cells #[.int .u8 0, .int .u32 0, .int .i64 0, .int .i64 0, .string ⟨#[]⟩, .slice none 0 0, .int .u8 0, .int .u8 0, .int .u32 0] 28)
  have P1 := Lib.hid (P0.out.below hb1)
  have B1 := Lib.hid (below_then B0.out hb1)
  have T1 := Lib.hid (T0.out.below hb1)
  clear hz1 hb1 P0 B0 T0
  go_enter Try.func35, Try.ntmps35
  go_upto_region 1 with fail
  generalize (w.alloc (.cells #[.int .u8 kind, .int .u8 level, .int .u32 id, .int .u64 lsn, .int .u32 next, .slice A n cp] 26)).alloc (.cells #[.int .u8 0, .int .u32 0, .int .i64 0, .int .i64 0, .string ⟨#[]⟩, .slice none 0 0, .int .u8 0, .int .u8 0, .int .u32 0] 28) = w0 at *
  obtain ⟨x0, x1, x2, x3, x4, x5, x6⟩ := P1.out.cells
  go_wp2_with fail
  refine (CK.out _ T1.out).mono ?_
  rintro e w1 ⟨rfl, hb⟩
  have B1 := Lib.hid (below_then B1.out hb)
  have P1 := Lib.hid (P1.out.below hb)
  have T1 := Lib.hid (T1.out.below hb)
  have O1 := Lib.hid (O0.out.under hb)
  clear hb x0 x1 x2 x3 x4 x5 x6 O0
  cases mp
  case false =>
    have HR : Hid (giveB ⟨kind, level, id, lsn, next, rows⟩ n0 = (Od.zero, 60)) := by show _ = _; unfold giveB; rw [← HM.out]; rfl
    have hk : (((if false = true then 0 else 60 : Int)) != 0) = true := rfl
    go_wp2_with (refine wpList_store_op rfl (.tmp 4) (.tmp 11) rfl O1.out Od.zero none 0 0 (by rfl) (by rfl) ?_; intro wS hO hK; have OS := Lib.hid hO; have KS := Lib.hid hK; clear hO hK)
    refine bodyPost_ret (results_op2 (p := 4) (u := 5) (o := Od.zero) (sv := .slice none 0 0) (by kernel_rfl) _ _ rfl OS.out) rfl ?_
    exact ⟨by rw [HR.out]; rfl, OthersKept.below B1.out KS.out (fun k hk e => by omega)⟩
  have hk : (((if true = true then 0 else 60 : Int)) != 0) = false := rfl
  obtain ⟨r, hr⟩ : ∃ r, rows = [r] := map_row HM.out
  subst hr
  have hl128 := map_len HM.out
  simp only [mapRow, List.getD_cons_zero] at hl128
  have hn1 : n = 1 := by rw [HN.out]; rfl
  subst hn1
  have BT := Lib.hid fun W (h1 : 1 ≤ n0) (h2 : n0 ≤ 1024) => refBit_any r n0 W hl128 h1 h2
  have MB : Hid (mapB ⟨kind, level, id, lsn, next, [r]⟩ = true) := Lib.hid HM.out.symm
  have G0 : Hid (giveB ⟨kind, level, id, lsn, next, [r]⟩ n0 = if n0 < 1 ∨ 1024 < n0 ∨ n0 = id then (Od.zero, 2) else if bitB r (n0 - 1) then (patchO ⟨kind, level, id, lsn, next, [r]⟩ n0, 0) else (Od.zero, 3)) := by
    show _ = _; unfold giveB; rw [← HM.out]; rfl
  clear hl128
  obtain ⟨x0, x1, x2, x3, x4, x5, x6⟩ := P1.out.cells
  by_cases h1 : 1 ≤ n0
  case neg =>
    have HR : Hid (giveB ⟨kind, level, id, lsn, next, [r]⟩ n0 = (Od.zero, 2)) := by show _ = _; rw [G0.out, if_pos (.inl (by omega))]
    obtain rfl : n0 = 0 := by omega
    have q1 : decide ((0 : Int) < 1) = true := rfl
    go_wp2_with (refine wpList_store_op rfl (.tmp 4) (.tmp 25) rfl O1.out Od.zero none 0 0 (by rfl) (by rfl) ?_; intro wS hO hK; have OS := Lib.hid hO; have KS := Lib.hid hK; clear hO hK)
    refine bodyPost_ret (results_op2 (p := 4) (u := 5) (o := Od.zero) (sv := .slice none 0 0) (by kernel_rfl) _ _ rfl OS.out) rfl ?_
    exact ⟨by rw [HR.out]; rfl, OthersKept.below B1.out KS.out (fun k hk e => by omega)⟩
  have q1 : decide ((n0 : Int) < 1) = false := decide_eq_false (by omega)
  by_cases h2' : n0 ≤ 1024
  case neg =>
    have HR : Hid (giveB ⟨kind, level, id, lsn, next, [r]⟩ n0 = (Od.zero, 2)) := by show _ = _; rw [G0.out, if_pos (.inr (.inl (by omega)))]
    have q2 : decide ((1024 : Int) < (n0 : Int)) = true := decide_eq_true (by omega)
    go_wp2_with (refine wpList_store_op rfl (.tmp 4) (.tmp 25) rfl O1.out Od.zero none 0 0 (by rfl) (by rfl) ?_; intro wS hO hK; have OS := Lib.hid hO; have KS := Lib.hid hK; clear hO hK)
    refine bodyPost_ret (results_op2 (p := 4) (u := 5) (o := Od.zero) (sv := .slice none 0 0) (by kernel_rfl) _ _ rfl OS.out) rfl ?_
    exact ⟨by rw [HR.out]; rfl, OthersKept.below B1.out KS.out (fun k hk e => by omega)⟩
  have q2 : decide ((1024 : Int) < (n0 : Int)) = false := decide_eq_false (by omega)
  by_cases h3' : n0 = id
  case pos =>
    have HR : Hid (giveB ⟨kind, level, id, lsn, next, [r]⟩ n0 = (Od.zero, 2)) := by show _ = _; rw [G0.out, if_pos (.inr (.inr h3'))]
    have q3 : ((n0 : Int) == (id : Int)) = true := by simp; omega
    clear h3'
    go_wp2_with (refine wpList_store_op rfl (.tmp 4) (.tmp 25) rfl O1.out Od.zero none 0 0 (by rfl) (by rfl) ?_; intro wS hO hK; have OS := Lib.hid hO; have KS := Lib.hid hK; clear hO hK)
    refine bodyPost_ret (results_op2 (p := 4) (u := 5) (o := Od.zero) (sv := .slice none 0 0) (by kernel_rfl) _ _ rfl OS.out) rfl ?_
    exact ⟨by rw [HR.out]; rfl, OthersKept.below B1.out KS.out (fun k hk e => by omega)⟩
  have q3 : ((n0 : Int) == (id : Int)) = false := by simp; omega
  have BTX := Lib.hid fun W => BT.out W h1 h2'
  have PTX := Lib.hid fun W (hbt : bitB r (n0 - 1) = true) hW => PT.out W MB.out hW h1 h2' hbt
  have G1 : Hid (giveB ⟨kind, level, id, lsn, next, [r]⟩ n0 = if bitB r (n0 - 1) then (patchO ⟨kind, level, id, lsn, next, [r]⟩ n0, 0) else (Od.zero, 3)) := by show _ = _; rw [G0.out, if_neg (by omega)]
  obtain ⟨bt, hbt⟩ : ∃ b, b = bitB r (n0 - 1) := ⟨_, rfl⟩
  rw [← hbt] at G1 BTX PTX
  obtain ⟨od, hod⟩ : ∃ o, o = patchO ⟨kind, level, id, lsn, next, [r]⟩ n0 := ⟨_, rfl⟩
  rw [← hod] at G1 PTX
  clear hbt hod BT PT G0 h3' CK
  obtain ⟨_, _, hvv, _, _, _, hcc⟩ := T1.out
  obtain ⟨b, o, hA, hbl, hcell⟩ := hcc (by simp)
  cases hvv
  cases hA
  have c0 := hcell 0 (by simp)
  simp only [Nat.add_zero, List.getElem_cons_zero] at c0
  clear hcell hcc
  go_wp2_with fail
  refine (BTX.out _).mono ?_
  rintro e w2 ⟨rfl, rfl⟩
  cases bt
  case false =>
    have HR : Hid (giveB ⟨kind, level, id, lsn, next, [r]⟩ n0 = (Od.zero, 3)) := by show _ = _; rw [G1.out]; rfl
    go_wp2_with (refine wpList_store_op rfl (.tmp 4) (.tmp 33) rfl O1.out Od.zero none 0 0 (by rfl) (by rfl) ?_; intro wS hO hK; have OS := Lib.hid hO; have KS := Lib.hid hK; clear hO hK)
    refine bodyPost_ret (results_op2 (p := 4) (u := 5) (o := Od.zero) (sv := .slice none 0 0) (by kernel_rfl) _ _ rfl OS.out) rfl ?_
    exact ⟨by rw [HR.out]; rfl, OthersKept.below B1.out KS.out (fun k hk e => by omega)⟩
  have HR : Hid (giveB ⟨kind, level, id, lsn, next, [r]⟩ n0 = (od, 0)) := by show _ = _; rw [G1.out]; rfl
  go_wp2_with fail
  refine (PTX.out _ (by first | rfl | trivial) T1.out).mono ?_
  rintro e w3 ⟨rfl, hb⟩
  have B2 := Lib.hid (below_then B1.out hb)
  have O2 := Lib.hid (O1.out.under hb)
  clear hb c0 x0 x1 x2 x3 x4 x5 x6
  unfold odV
  go_wp2_with (refine wpList_store_op rfl (.tmp 4) (.tmp 36) rfl O2.out od none 0 0 (by rfl) (by rfl) ?_; intro wS hO hK; have OS := Lib.hid hO; have KS := Lib.hid hK; clear hO hK)
  refine bodyPost_ret (results_op2 (p := 4) (u := 5) (o := od) (sv := .slice none 0 0) (by kernel_rfl) _ _ rfl OS.out) rfl ?_
  exact ⟨by rw [HR.out]; rfl, OthersKept.below B2.out KS.out (fun k hk e => by omega)⟩
set_option maxHeartbeats 4000000 in
set_option maxRecDepth 100000 in
theorem refAlloc_any (p : Pg) (sv : Value) (w : World) (hp : p.wf) (ht : TextsAt w sv p.rows) (hb : weightB p.rows ≤ 1000000) :
    Calls Try.prog 34 #[pgV p sv] w fun e w' => e = .returned (.tuple #[.int .u32 ((allocB p).1 : Nat), odV (allocB p).2.1 (.slice none 0 0), .int .i64 (allocB p).2.2]) ∧ Below w.heap.size w w' := by
  have CK := Lib.hid fun W (hW : TextsAt W sv p.rows) => refCheck16_any p sv W hp hW hb
  have AL := Lib.hid fun W (hW : TextsAt W sv p.rows) => refAll_any p sv W hp hW hb
  have PT := Lib.hid fun n0 W (hm : mapB p = true) (hW : TextsAt W sv p.rows) (h1 : 1 ≤ n0) (h2 : n0 ≤ 1024) (hbt : bitB (mapRow p) (n0 - 1) = false) => refPatch16_any p sv n0 true W hm hW h1 h2 hbt
  have HT := Lib.hid ht
  obtain ⟨n, hn⟩ : ∃ n, n = p.rows.length := ⟨_, rfl⟩
  obtain ⟨A, cp, hsv, h2, h3, h4, h5⟩ := ht
  rw [← hn] at hsv h2
  subst hsv
  unfold maxLen at h3
  have HN := Lib.hid hn
  clear h4 h5 hn hb
  obtain ⟨kind, level, id, lsn, next, rows⟩ := p
  simp only at HT HN h2
  obtain ⟨mp, hmp⟩ : ∃ m, m = mapB ⟨kind, level, id, lsn, next, rows⟩ := ⟨_, rfl⟩
  have HM := Lib.hid hmp
  have hck : chkB ⟨kind, level, id, lsn, next, rows⟩ = if mp then 0 else 60 := by rw [hmp]; rfl
  rw [hck] at CK
  have P0 := Lib.hid (PgBox.new w kind level id lsn next (.slice A n cp))
  have B0 := Lib.hid (alloc_below w (.cells #[.int .u8 kind, .int .u8 level, .int .u32 id, .int .u64 lsn, .int .u32 next, .slice A n cp] 26))
  have T0 := Lib.hid (HT.out.below B0.out)
  unfold pgV at CK ⊢
  simp only at CK ⊢
  clear hmp hck hp
  unfold pgV at PT AL
  simp only at PT AL
  have O0 := Lib.hid (OAt.new (w.alloc (.cells #[.int .u8 kind, .int .u8 level, .int .u32 id, .int .u64 lsn, .int .u32 next, .slice A n cp] 26)) Od.zero (.slice none 0 0))
  have hz1 : (w.alloc (.cells #[.int .u8 kind, .int .u8 level, .int .u32 id, .int .u64 lsn, .int .u32 next, .slice A n cp] 26)).heap.size = w.heap.size + 1 := by simp
  rw [hz1] at O0
  have O0 : Hid (OAt ((w.alloc (.cells #[.int .u8 kind, .int .u8 level, .int .u32 id, .int .u64 lsn, .int .u32 next, .slice A n cp] 26)).alloc (.cells #[.int .u8 0, .int .u32 0, .int .i64 0, .int .i64 0, .string ⟨#[]⟩, .slice none 0 0, .int .u8 0, .int .u8 0, .int .u32 0] 28)) (w.heap.size + 1) Od.zero (.slice none 0 0)) := O0
  have hb1 := alloc_below (w.alloc (.cells #[.int .u8 kind, .int .u8 level, .int .u32 id, .int .u64 lsn, .int .u32 next, .slice A n cp] 26)) (.cells #[.int .u8 0, .int .u32 0, .int .i64 0, .int .i64 0, .string ⟨#[]⟩, .slice none 0 0, .int .u8 0, .int .u8 0, .int .u32 0] 28)
  have P1 := Lib.hid (P0.out.below hb1)
  have B1 := Lib.hid (below_then B0.out hb1)
  have T1 := Lib.hid (T0.out.below hb1)
  clear hz1 hb1 P0 B0 T0
  go_enter Try.func34, Try.ntmps34
  go_upto_region 1 with fail
  generalize (w.alloc (.cells #[.int .u8 kind, .int .u8 level, .int .u32 id, .int .u64 lsn, .int .u32 next, .slice A n cp] 26)).alloc (.cells #[.int .u8 0, .int .u32 0, .int .i64 0, .int .i64 0, .string ⟨#[]⟩, .slice none 0 0, .int .u8 0, .int .u8 0, .int .u32 0] 28) = w0 at *
  obtain ⟨x0, x1, x2, x3, x4, x5, x6⟩ := P1.out.cells
  go_wp2_with fail
  refine (CK.out _ T1.out).mono ?_
  rintro e w1 ⟨rfl, hb⟩
  have B1 := Lib.hid (below_then B1.out hb)
  have P1 := Lib.hid (P1.out.below hb)
  have T1 := Lib.hid (T1.out.below hb)
  have O1 := Lib.hid (O0.out.under hb)
  clear hb x0 x1 x2 x3 x4 x5 x6 O0
  cases mp
  case false =>
    have HR : Hid (allocB ⟨kind, level, id, lsn, next, rows⟩ = (0, Od.zero, 60)) := by show _ = _; unfold allocB; rw [← HM.out]; rfl
    have hk : (((if false = true then 0 else 60 : Int)) != 0) = true := rfl
    go_wp2_with (refine wpList_store_op rfl (.tmp 3) (.tmp 11) rfl O1.out Od.zero none 0 0 (by rfl) (by rfl) ?_; intro wS hO hK; have OS := Lib.hid hO; have KS := Lib.hid hK; clear hO hK)
    refine bodyPost_ret (results_nop (t := 2) (p := 3) (u := 4) (o := Od.zero) (sv := .slice none 0 0) (by kernel_rfl) _ _ rfl OS.out) rfl ?_
    exact ⟨by rw [HR.out]; rfl, OthersKept.below B1.out KS.out (fun k hk e => by omega)⟩
  have hk : (((if true = true then 0 else 60 : Int)) != 0) = false := rfl
  have MB : Hid (mapB ⟨kind, level, id, lsn, next, rows⟩ = true) := Lib.hid HM.out.symm
  have FM := Lib.hid fun n0 (h : n0 ∈ freeL ⟨kind, level, id, lsn, next, rows⟩) => free_mem2 h
  have HA0 : Hid (allocB ⟨kind, level, id, lsn, next, rows⟩ = match freeL ⟨kind, level, id, lsn, next, rows⟩ with | [] => (0, Od.zero, 4) | n :: _ => (n, patchO ⟨kind, level, id, lsn, next, rows⟩ n, 0)) := by show _ = _; unfold allocB; rw [← HM.out]; rfl
  obtain ⟨x0, x1, x2, x3, x4, x5, x6⟩ := P1.out.cells
  go_wp2_with fail
  refine (AL.out _ T1.out).mono ?_
  rintro e w2 ⟨v, rfl, hv, hb⟩
  have NV := Lib.hid hv
  have B2 := Lib.hid (below_then B1.out hb)
  have P2 := Lib.hid (P1.out.below hb)
  have T2 := Lib.hid (T1.out.below hb)
  have O2 := Lib.hid (O1.out.under hb)
  clear hb B1 P1 T1 O1 x0 x1 x2 x3 x4 x5 x6 AL CK hv
  obtain ⟨L, hL⟩ : ∃ L, L = freeL ⟨kind, level, id, lsn, next, rows⟩ := ⟨_, rfl⟩
  rw [← hL] at NV HA0 FM
  clear hL hk
  obtain ⟨A2, cp2, hv2, k2, k3, k4, k5⟩ := NV.out
  cases L with
  | nil =>
    subst hv2
    have HR : Hid (allocB ⟨kind, level, id, lsn, next, rows⟩ = (0, Od.zero, 4)) := by show _ = _; rw [HA0.out]
    simp only [List.length_nil]
    go_wp2_with (refine wpList_store_op rfl (.tmp 3) (.tmp 18) rfl O2.out Od.zero none 0 0 (by rfl) (by rfl) ?_; intro wS hO hK; have OS := Lib.hid hO; have KS := Lib.hid hK; clear hO hK)
    refine bodyPost_ret (results_nop (t := 2) (p := 3) (u := 4) (o := Od.zero) (sv := .slice none 0 0) (by kernel_rfl) _ _ rfl OS.out) rfl ?_
    exact ⟨by rw [HR.out]; rfl, OthersKept.below B2.out KS.out (fun k hk e => by omega)⟩
  | cons n0 L =>
    obtain ⟨hn1, hn2, hbt⟩ := FM.out n0 (by simp)
    have HR : Hid (allocB ⟨kind, level, id, lsn, next, rows⟩ = (n0, patchO ⟨kind, level, id, lsn, next, rows⟩ n0, 0)) := by show _ = _; rw [HA0.out]
    have PTX := Lib.hid fun W hW => PT.out n0 W MB.out hW hn1 hn2 hbt
    obtain ⟨od, hod⟩ : ∃ o, o = patchO ⟨kind, level, id, lsn, next, rows⟩ n0 := ⟨_, rfl⟩
    rw [← hod] at HR PTX
    obtain ⟨b, o, hA, hbl, hcell⟩ := k5 (by simp)
    subst hA
    have c0 := hcell 0 (by simp)
    simp only [Nat.add_zero, List.getElem_cons_zero] at c0
    obtain ⟨m, hm⟩ : ∃ m, m = (n0 :: L).length := ⟨_, rfl⟩
    rw [← hm] at hv2
    have hm1 : 1 ≤ m := by rw [hm]; simp
    subst hv2
    have hmz : ((m : Int) == 0) = false := by simp; omega
    have hmi : (0 : Int) < (m : Int) := by omega
    clear hod PT HA0 FM hbt hm hcell k5 k4 k2 k3
    go_wp2_with fail
    obtain ⟨pl, p0, p1, p2, p3, p4, p5⟩ := P2.out.cells
    have x0 := ext_cell p0 pl
    have x1 := ext_cell p1 pl
    have x2 := ext_cell p2 pl
    have x3 := ext_cell p3 pl
    have x4 := ext_cell p4 pl
    have x5 := ext_cell p5 pl
    have x6 := ext_cell c0 (cell_lt c0)
    clear p0 p1 p2 p3 p4 p5
    have Z1 := Lib.hid fun (y : Ext w2.heap.size w2) => PTX.out y.val (T2.out.below y.below)
    refine wp_region_ext_tail w2.heap.size 9 (by kernel_rfl) (by kernel_rfl) ?_
    simp only [List.take_succ_cons, List.take_zero, List.drop_succ_cons, List.drop_zero]
    repeat (go_big_quiet_step ((go_at_call 93; with_reducible exact ext_call _ (Nat.le_refl _) (Z1.out _))))
    refine wpQuiet_nil ?_
    rintro _ ⟨X, rfl⟩
    have hX := X.below
    generalize X.val = wx at hX
    have B3 := Lib.hid (below_then B2.out hX)
    have O3 := Lib.hid (O2.out.under hX)
    clear hX
    unfold odV
    go_wp2_with (refine wpList_store_op rfl (.tmp 3) (.tmp 26) rfl O3.out od none 0 0 (by rfl) (by rfl) ?_; intro wS hO hK; have OS := Lib.hid hO; have KS := Lib.hid hK; clear hO hK)
    refine bodyPost_ret (results_nop (t := 2) (p := 3) (u := 4) (o := od) (sv := .slice none 0 0) (by kernel_rfl) _ _ rfl OS.out) rfl ?_
    exact ⟨by rw [HR.out]; rfl, OthersKept.below B3.out KS.out (fun k hk e => by omega)⟩

end Go.Proofs.Ytienlhnbmobinaa
