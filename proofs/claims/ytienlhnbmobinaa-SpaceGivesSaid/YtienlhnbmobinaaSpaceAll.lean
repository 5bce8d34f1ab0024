/- chapter 16: All, out of the channel -/
import Derived.Test.YtienlhnbmobinaaRows
import Derived.Test.YtienlhnbmobinaaLoneW
import Derived.Test.YtienlhnbmobinaaSpaceNums
import Derived.Test.YtienlhnbmobinaaSpaceFree
import Derived.Test.YtienlhnbmobinaaSpaceCheck
import Derived.Test.YtienlhnbmobinaaSpaceBit
import Derived.Test.YtienlhnbmobinaaSpacePlain
import Derived.Test.YtienlhnbmobinaaPlains
import Derived.Test.YtienlhnbmobinaaBase
import Derived.Test.YtienlhnbmobinaaTextsP
import Derived.Conc.LoneCalls
import Derived.Defers
import Derived.WalkKit
import Derived.WalkLawsBesides
import Derived.WalkSpells
import Derived.LoopTactic
import Derived.WalkMore
import Derived.LoopN
import Derived.Laws.BitsAllLaws
import Derived.Laws.IdiomStrings
import Derived.BigQuiet
import Derived.Deep.QuietTactic
import Derived.Deep.DeepCutAuto
import Derived.Deep.RegionHeld3
import Derived.Deep.DrawnRows
import Derived.Lib.Hide
import Derived.Outline
import Derived.Deep.DeepMust
import Derived.Handy
namespace Go.Proofs.Ytienlhnbmobinaa
open Go.RowKit
set_option linter.unusedVariables false
set_option linter.unusedSimpArgs false

open Go.Conc
def AllI (w : World) (c : Nat) (V0 : Value) (L : List Nat) (a : Act) (wr : World) : Prop :=
  ∃ (k s r : Nat) (v u3 u6 u7 u8 u9 u10 u11 u12 u13 : Value), k ≤ L.length ∧ Hid (wr.heap[c]? = some (.chan 1024 (n32 (L.drop k)).toArray true s r false)) ∧ Hid (Below w.heap.size w wr) ∧ Hid (wr.ownsRow w.heap.size 22 1 v k (n32 (L.take k))) ∧
    a = ⟨#[V0, .pointer (some ⟨w.heap.size, 0, none⟩), v, u3, V0, .chan (some c), u6, u7, u8, u9, u10, u11, u12, u13], []⟩
def AllM (L : List Nat) (w : World) (c : Nat) : Nat := match w.heap[c]? with | some (.chan _ buf _ _ _ _) => buf.size | _ => 0
theorem free_len (p : Pg) : (freeL p).length ≤ 1024 := by
  unfold freeL
  split
  · rw [List.length_map]; exact Nat.le_trans (List.length_filter_le _ _) (by simp)
  · exact Nat.zero_le _
set_option maxHeartbeats 4000000 in
set_option maxRecDepth 100000 in
theorem spaceAll_any (p : Pg) (sv : Value) (w : World) (hp : p.wf) (ht : TextsAt w sv p.rows) (hb : weightB p.rows ≤ 1000000) :
    Calls Try.prog 42 #[pgV p sv] w fun e w' => ∃ v, e = .returned v ∧ N32At w' v (freeL p) ∧ Below w.heap.size w w' := by
  have FR := Lib.hid fun W (hW : TextsAt W sv p.rows) => spaceFree_any p sv W hp hW hb
  have HT := Lib.hid ht
  obtain ⟨n, hn⟩ : ∃ n, n = p.rows.length := ⟨_, rfl⟩
  obtain ⟨A, cp, hsv, h2, h3, h4, h5⟩ := ht
  rw [← hn] at hsv h2
  subst hsv
  clear h4 h5 hn hb h2 h3
  have hLL := free_len p
  obtain ⟨L, hL⟩ : ∃ L, L = freeL p := ⟨_, rfl⟩
  rw [← hL] at FR hLL ⊢
  obtain ⟨kind, level, id, lsn, next, rows⟩ := p
  simp only at HT
  obtain ⟨i0, hif, hz0, hz1, hz2⟩ := info_parts Try.infoU32
  have HI := Lib.hid hif
  have HI0 := Lib.hid hz0
  have HI1 := Lib.hid hz1
  have HI2 := Lib.hid hz2
  clear hif hz0 hz1 hz2
  have P0 := Lib.hid (PgBox.new w kind level id lsn next (.slice A n cp))
  have B0 := Lib.hid (alloc_below w (.cells #[.int .u8 kind, .int .u8 level, .int .u32 id, .int .u64 lsn, .int .u32 next, .slice A n cp] 26))
  unfold pgV at FR ⊢
  simp only at FR ⊢
  clear hp hL
  refine calls_of_wpN Try.func42 rfl ?_
  simp only [Try.ntmps42, List.size_toArray, List.length_cons, List.length_nil, Nat.reduceAdd, Nat.reduceSub, Array.replicate_succ, Array.replicate_zero, List.push_toArray, List.append_toArray, List.nil_append, List.cons_append]
  obtain ⟨w0, hw0⟩ : ∃ W, W = w.alloc (.cells #[.int .u8 kind, .int .u8 level, .int .u32 id, .int .u64 lsn, .int .u32 next, .slice A n cp] 26) := ⟨_, rfl⟩
  rw [← hw0] at P0 B0
  refine wpN_seq ?_
  go_wp2_with fail
  rw [← hw0]
  clear hw0
  have T0 := Lib.hid (HT.out.below B0.out)
  obtain ⟨x0, x1, x2, x3, x4, x5, x6⟩ := P0.out.cells
  refine wpN_seqN ?_
  refine wpN_seq ?_
  go_wp2_with fail
  refine (FR.out _ T0.out).mono ?_
  rintro e w1 ⟨c, s, r, rfl, hc, hb, hcw⟩
  have B1 := Lib.hid (below_then B0.out hb)
  have CH := Lib.hid hc
  have hwc : w.heap.size < c := by have := P0.out.lt; omega
  clear hb hc P0 B0 T0 HT FR x0 x1 x2 x3 x4 x5 x6 hcw
  go_wp2_with fail
  generalize hV0 : (Value.agg #[.int .u8 kind, .int .u8 level, .int .u32 id, .int .u64 lsn, .int .u32 next, .slice A n cp]) = V0
  refine wpN_block ?_
  refine wpN_loop (AllI w c V0 L) (fun _ w => AllM L w c) ?_ ?_
  · exact ⟨0, s, r, _, _, _, _, _, _, _, _, _, _, Nat.zero_le _, CH, B1, Lib.hid (World.ownsRow_nil _ _ _ _), rfl⟩
  rintro _ wr ⟨k, s, r, v, u3, u6, u7, u8, u9, u10, u11, u12, u13, hk, CH, BB, OO, rfl⟩
  clear B1
  have hle : (n32 (L.drop k)).length = L.length - k := by simp [n32]
  refine wpN_seqN ?_
  by_cases hlt : k < L.length
  case neg =>
    have hke : k = L.length := by omega
    have hnil : (n32 (L.drop k)).toArray = #[] := by rw [hke, List.drop_length]; rfl
    rw [hnil] at CH
    refine wpN_lone fun b0 k0 cs0 hkind => ?_
    refine LoneTo.goes (n := 10) ?_
    s_reg
    s_stop
    refine LoneTo.step (step_lone_recv_shut true (c := c) (z := .int .u32 0) (cap := 1024) (s := s) (r := r) (tm := false) (stepG_comm (cases := #[rcase c (.int .u32 0)]) (blocking := true) (shape := .recv true) (w' := wr) rfl rfl hkind (by simp [go_sem, execOp, rcase, Act.eval])) CH.out) ?_
    rw [Frame.finish_at, show got true (.int .u32 0) false = .tuple #[.int .u32 0, .bool false] from rfl]
    walk_nrm
    refine LoneTo.goes (n := 3) ?_
    (s_in; refine goes_oper_k rfl rfl hkind (fun K hK => ?_); go_simp; refine hK _ _ ⟨trivial, ?_⟩; clear hK K)
    s_c stepG_region_end
    s_stop
    refine LoneTo.done ⟨_, rfl, ?_⟩
    simp only [Exit.inBlock, Exit.then]
    refine wpN_of ?_
    go_wp2_with fail
    refine wpN_of ?_
    go_wp2_with fail
    go_ret
    refine ⟨_, rfl, ?_, BB.out⟩
    have ho := OO.out
    rw [hke, List.take_length] at ho
    exact (n32_own ho).1
  refine wpN_lone fun b0 k0 cs0 hkind => ?_
  refine LoneTo.goes (n := 10) ?_
  s_reg
  s_stop
  obtain ⟨x, hx⟩ : ∃ x, x = L[k] := ⟨_, rfl⟩
  have hg : got true ((n32 (L.drop k)).toArray.getD 0 undef) true = .tuple #[.int .u32 (x : Int), .bool true] := by
    rw [hx, List.drop_eq_getElem_cons hlt]; rfl
  have hex : (n32 (L.drop k)).toArray.extract 1 (n32 (L.drop k)).toArray.size = (n32 (L.drop (k + 1))).toArray := by
    rw [List.drop_eq_getElem_cons hlt]; simp [n32]; exact List.take_of_length_le (by simp; omega)
  have htk : n32 (L.take (k + 1)) = n32 (L.take k) ++ [.int .u32 (x : Int)] := by
    rw [List.take_succ_eq_append_getElem hlt, n32_append, hx]; rfl
  have HTK := Lib.hid htk
  have HG := Lib.hid hg
  have HEX := Lib.hid hex
  have hne : 0 < (n32 (L.drop k)).toArray.size := by simp [hle]; omega
  have MM : AllM L wr c = L.length - k := by unfold AllM; rw [CH.out]; simp [hle]
  have HMM := Lib.hid MM
  clear hx hg hex htk MM hle
  refine LoneTo.step (step_lone_recv_buf true (c := c) (z := .int .u32 0) (cap := 1024) (buf := (n32 (L.drop k)).toArray) (closed := true) (s := s) (r := r) (tm := false) (stepG_comm (cases := #[rcase c (.int .u32 0)]) (blocking := true) (shape := .recv true) (w' := wr) rfl rfl hkind (by simp [go_sem, execOp, rcase, Act.eval])) CH.out hne) ?_
  rw [Frame.finish_at, HG.out, HEX.out]
  clear hne
  walk_nrm
  refine LoneTo.goes (n := 3) ?_
  (s_in; refine goes_oper_k rfl rfl hkind (fun K hK => ?_); go_simp; refine hK _ _ ⟨trivial, ?_⟩; clear hK K)
  s_c stepG_region_end
  s_stop
  refine LoneTo.done ⟨_, rfl, ?_⟩
  simp only [Exit.inBlock, Exit.then]
  have CX := Lib.hid (heap_setChan wr c 1024 (n32 (L.drop (k + 1))).toArray true s (r + 1) false (blk_lt CH.out))
  have KX := Lib.hid (setChan_others wr c 1024 (n32 (L.drop (k + 1))).toArray true s (r + 1) false)
  generalize wr.setChan c 1024 (n32 (L.drop (k + 1))).toArray true s (r + 1) false = wx at *
  have BX := Lib.hid (OthersKept.below BB.out KX.out (fun x hx e => by omega))
  have OX := Lib.hid (KX.out.owns OO.out (fun j hj e => own_chan_ne OO.out CH.out j hj e))
  clear CH BB OO KX HG HEX
  refine wpN_of ?_
  have O6 := Lib.hid (own_below OX.out (alloc_below wx (.cells #[.int .u32 x] 22)))
  have C6 := Lib.hid (((alloc_below wx (.cells #[.int .u32 x] 22)).block c (blk_lt CX.out)).trans CX.out)
  have B6 := Lib.hid (BX.out.alloc BX.out.size (.cells #[.int .u32 x] 22))
  have hs6 : w.heap.size ≤ (wx.alloc (.cells #[.int .u32 x] 22)).heap.size := B6.out.size
  have R6 := Lib.hid (num_one32 wx x)
  clear BX OX CX
  go_wp2_with (at_builtin; refine wpList_append_any _ rfl _ _ 55 rfl w.heap.size 22 i0 (.int .u32 0) 1 4 Try.underlying55 HI.out HI0.out HI1.out HI2.out rfl (by decide) _ k _ (by rfl) O6.out (.slice (some ⟨wx.heap.size, 0, none⟩) 1 1) 1 [.int .u32 x] (by rfl) R6.out (fun u hu => by rw [List.mem_singleton.1 hu]; rfl) (by unfold maxLen; omega) (by omega) hs6 ?_; intro v7 w7 hown7 hgrow7; have B7 := Lib.hid (B6.out.grown hgrow7 hs6 (fun j hj => by have := (O6.out.lt j hj).1; omega)); have C7 := Lib.hid ((hgrow7.block c (blk_lt C6.out) (fun e => own_chan_ne O6.out C6.out c e.symm rfl)).trans C6.out); have O7 := Lib.hid hown7; clear hown7 hgrow7)
  refine ⟨⟨k + 1, s, r + 1, v7, _, _, _, _, _, _, _, _, _, by omega, C7, B7, Lib.hid ?_, rfl⟩, ?_⟩
  · rw [HTK.out]; exact O7.out
  · rw [HMM.out]
    unfold AllM
    rw [C7.out]
    simp [n32]
    omega

end Go.Proofs.Ytienlhnbmobinaa
