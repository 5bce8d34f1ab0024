/- chapter 16: free, through a channel that is closed behind it -/
import Derived.Test.YtienlhnbmobinaaRows
import Derived.Test.YtienlhnbmobinaaLoneW
import Derived.Test.YtienlhnbmobinaaSpaceCheck
import Derived.Test.YtienlhnbmobinaaSpaceBit
import Derived.Test.YtienlhnbmobinaaSpacePlain
import Derived.Test.YtienlhnbmobinaaPlains
import Derived.Test.YtienlhnbmobinaaBase
import Derived.Test.YtienlhnbmobinaaTextsP
import Derived.Conc.LoneCalls
import Derived.Defers
import Derived.WalkKit
import Derived.WalkLawsBesides
import Derived.WalkSpells
import Derived.LoopTactic
import Derived.WalkMore
import Derived.LoopN
import Derived.Laws.BitsAllLaws
import Derived.Laws.IdiomStrings
import Derived.BigQuiet
import Derived.Deep.QuietTactic
import Derived.Deep.DeepCutAuto
import Derived.Deep.RegionHeld3
import Derived.Deep.DrawnRows
import Derived.Lib.Hide
import Derived.Outline
import Derived.Deep.DeepMust
import Derived.Handy
namespace Go.Proofs.Ytienlhnbmobinaa
open Go.RowKit
set_option linter.unusedVariables false
set_option linter.unusedSimpArgs false

open Go.Conc
theorem chanInfo32 : ∃ i, Try.prog.info? 22 = some i ∧ i.bytes = 4 := by
  have h : (Try.prog.info? 22).map (·.bytes) = some 4 := by kernel_rfl
  cases hi : Try.prog.info? 22 with
  | none => rw [hi] at h; cases h
  | some i => rw [hi] at h; exact ⟨i, rfl, by simpa using h⟩
theorem mkChan32 (w : World) : (Instr.makeChan 182 (.int .i64 1024)).run Try.prog w = .ok (.chan (some w.heap.size)) (w.alloc (.chan 1024 #[] false 0 0 false)) := by
  obtain ⟨i, hi, hb⟩ := chanInfo32
  simpa using run_makeChan (P := Try.prog) (w := w) Try.underlying182 hi .i64 1024 (by omega) (by rw [hb]; omega)
def freeV (r : List UInt8) (j : Nat) : List Value := (((List.range j).filter fun k => !bitB r k).map (· + 1)).map fun (n : Nat) => Value.int .u32 (n : Int)
theorem freeV_succ (r : List UInt8) (j : Nat) : freeV r (j + 1) = freeV r j ++ (if bitB r j then [] else [.int .u32 ((j + 1 : Nat) : Int)]) := by
  unfold freeV
  rw [List.range_succ, List.filter_append, List.map_append, List.map_append]
  cases h : bitB r j <;> simp [h]
theorem freeV_le (r : List UInt8) (j : Nat) : (freeV r j).length ≤ j := by
  unfold freeV
  rw [List.length_map, List.length_map]
  exact Nat.le_trans (List.length_filter_le _ _) (by simp)
theorem map_row {p : Pg} (h : true = mapB p) : ∃ r, p.rows = [r] := by
  unfold mapB at h
  have h1 := (Bool.and_eq_true_iff.1 (Bool.and_eq_true_iff.1 (Bool.and_eq_true_iff.1 h.symm).1).1).2
  match hp : p.rows, of_decide_eq_true h1 with
  | [x], _ => exact ⟨x, rfl⟩
theorem map_len {p : Pg} (h : true = mapB p) : (mapRow p).length = 128 := by
  unfold mapB at h
  exact of_decide_eq_true (Bool.and_eq_true_iff.1 (Bool.and_eq_true_iff.1 h.symm).1).2
theorem map_free {p : Pg} (h : true = mapB p) : (freeL p).map (fun (n : Nat) => Value.int .u32 (n : Int)) = freeV (mapRow p) 1024 := by
  unfold freeL freeV; rw [← h]; rfl
theorem chan_push {w : World} {c s : Nat} {l l' : List Value} (h : w.heap[c]? = some (.chan 1024 l.toArray false s 0 false)) (v : Value) (hl : l' = l ++ [v]) :
    (w.setChan c 1024 (l.toArray.push v) false (s + 1) 0 false).heap[c]? = some (.chan 1024 l'.toArray false (s + 1) 0 false) := by
  rw [heap_setChan _ _ _ _ _ _ _ _ (blk_lt h), hl]
  simp
theorem setChan_others (w : World) (c cap : Nat) (buf : Array Value) (cl : Bool) (s r : Nat) (tm : Bool) : OthersKept w (w.setChan c cap buf cl s r tm) (fun k => k = c) :=
  ⟨rfl, rfl, rfl, by simp [World.setChan], fun k hk hp => by simp only [World.setChan]; rw [Array.getElem?_setIfInBounds_ne (fun e => hp e.symm)]⟩
theorem TextsAt.off_chan {w w' : World} {sv : Value} {ts : List (List UInt8)} {c room s rc : Nat} {buf : Array Value} {cl tm : Bool} (h : TextsAt w sv ts) (hk : OthersKept w w' (fun k => k = c)) (hc : w.heap[c]? = some (.chan room buf cl s rc tm)) : TextsAt w' sv ts := by
  obtain ⟨A, cp, h1, h2, h3, h4, h5⟩ := h
  refine ⟨A, cp, h1, h2, h3, h4, fun h0 => ?_⟩
  obtain ⟨b, o, h6, h7, h8⟩ := h5 h0
  have hne : ¬ b = c := by
    intro e
    subst e
    have := h8 0 h0
    simp [World.cell?, hc] at this
  exact ⟨b, o, h6, Nat.lt_of_lt_of_le h7 hk.size, fun j hj => hk.cell (h8 j hj) hne⟩
theorem close_run {P : Program} {w : World} {c room s rc : Nat} {buf : Array Value} {tm : Bool} {ats : Array TypeId} {ty : TypeId} {cs : Array Bool} (h : w.heap[c]? = some (.chan room buf false s rc tm)) :
    (invoke (.builtin .close ats ty cs) #[.chan (some c)]).run P w = .ok (.value (.tuple #[])) (w.setChan c room buf true s rc tm) := by
  have := run_close_open (P := P) ats ty h
  simp [invoke, builtin, go_sem, this, World.setChan]
/-- The loop's state at page k. -/
def FreeI (w : World) (c kind level id lsn next b o cp : Nat) (r : List UInt8) (a : Act) (wr : World) : Prop :=
  ∃ (k : Nat) (u11 u12 u13 u14 u15 u16 u17 u18 u19 u20 u21 u22 u23 u24 : Value) (s : Nat), (1 ≤ k ∧ k ≤ 1025) ∧ Hid (wr.heap[c]? = some (.chan 1024 (freeV r (k - 1)).toArray false s 0 false)) ∧ Hid (Below w.heap.size w wr) ∧ Hid (PgBox wr w.heap.size kind level id lsn next (.slice (some ⟨b, o, none⟩) 1 cp)) ∧ Hid (TextsAt wr (.slice (some ⟨b, o, none⟩) 1 cp) [r]) ∧
      a = ⟨#[.agg #[.int .u8 kind, .int .u8 level, .int .u32 id, .int .u64 lsn, .int .u32 next, .slice (some ⟨b, o, none⟩) 1 cp], .pointer (some ⟨w.heap.size, 0, none⟩), .chan none, .chan (some c), .int .u32 k, .chan (some c), .chan (some c), .agg #[.int .u8 kind, .int .u8 level, .int .u32 id, .int .u64 lsn, .int .u32 next, .slice (some ⟨b, o, none⟩) 1 cp], .int .i64 0, .bool false, undef, u11, u12, u13, u14, u15, u16, u17, u18, u19, u20, u21, u22, u23, u24], [{ target := .builtin .close #[182] 0 #[false], args := #[.chan (some c)] }]⟩
def FreeM (a : Act) : Nat := 1025 - (intOf (a.tmps.getD 4 undef)).toNat
set_option maxHeartbeats 4000000 in
set_option maxRecDepth 100000 in
theorem spaceFree_any (p : Pg) (sv : Value) (w : World) (hp : p.wf) (ht : TextsAt w sv p.rows) (hb : weightB p.rows ≤ 1000000) :
    Calls Try.prog 91 #[pgV p sv] w fun e w' => ∃ c s r, e = .returned (.chan (some c)) ∧ w'.heap[c]? = some (.chan 1024 ((freeL p).map fun n => Value.int .u32 (n : Nat)).toArray true s r false) ∧ Below w.heap.size w w' ∧ w.heap.size ≤ c := by
  have CK := Lib.hid fun W (hW : TextsAt W sv p.rows) => spaceCheck_any p sv W hp hW hb
  have HT := Lib.hid ht
  obtain ⟨n, hn⟩ : ∃ n, n = p.rows.length := ⟨_, rfl⟩
  obtain ⟨A, cp, hsv, h2, h3, h4, h5⟩ := ht
  rw [← hn] at hsv h2
  subst hsv
  unfold maxLen at h3
  have HROWS := Lib.hid h5
  have HN := Lib.hid hn
  clear h4 h5 hn hb
  obtain ⟨kind, level, id, lsn, next, rows⟩ := p
  simp only at HT HROWS HN h2
  obtain ⟨mp, hmp⟩ : ∃ m, m = mapB ⟨kind, level, id, lsn, next, rows⟩ := ⟨_, rfl⟩
  have HM := Lib.hid hmp
  have hck : chkB ⟨kind, level, id, lsn, next, rows⟩ = if mp then 0 else 60 := by rw [hmp]; rfl
  rw [hck] at CK
  have P0 := Lib.hid (PgBox.new w kind level id lsn next (.slice A n cp))
  have B0 := Lib.hid (alloc_below w (.cells #[.int .u8 kind, .int .u8 level, .int .u32 id, .int .u64 lsn, .int .u32 next, .slice A n cp] 26))
  unfold pgV at CK ⊢
  simp only at CK ⊢
  clear hmp hck hp
  refine calls_of_wpN_V Try.func91 rfl ?_
  simp only [Try.ntmps91, List.size_toArray, List.length_cons, List.length_nil, Nat.reduceAdd, Nat.reduceSub, Array.replicate_succ, Array.replicate_zero, List.push_toArray, List.append_toArray, List.nil_append, List.cons_append]
  obtain ⟨w0, hw0⟩ : ∃ W, W = w.alloc (.cells #[.int .u8 kind, .int .u8 level, .int .u32 id, .int .u64 lsn, .int .u32 next, .slice A n cp] 26) := ⟨_, rfl⟩
  rw [← hw0] at P0 B0
  have hmc := mkChan32
  refine wpN_seq ?_
  go_wp2_with fail
  rw [← hw0]
  clear hw0
  obtain ⟨c, hc⟩ : ∃ c, c = w0.heap.size := ⟨_, rfl⟩
  have hCH : Hid ((w0.alloc (.chan 1024 #[] false 0 0 false)).heap[c]? = some (.chan 1024 #[] false 0 0 false)) := Lib.hid (by rw [hc]; exact heap_alloc_new w0 _)
  have hb1 := alloc_below w0 (.chan 1024 #[] false 0 0 false)
  refine wpN_seq ?_
  go_wp2_with fail
  rw [← hc]
  clear hmc
  have hwc : w.heap.size ≤ c := by have := B0.out.size; omega
  have hpc : w.heap.size < c := by have := P0.out.lt; omega
  generalize w0.alloc (.chan 1024 #[] false 0 0 false) = w1 at *
  have B1 := Lib.hid (below_then B0.out hb1)
  have P1 := Lib.hid (P0.out.below hb1)
  have T1 := Lib.hid (HT.out.below B1.out)
  clear hb1 hc P0 B0 HT w0
  refine wpN_seq ?_
  go_wp2_with fail
  obtain ⟨x0, x1, x2, x3, x4, x5, x6⟩ := P1.out.cells
  refine wpN_seq ?_
  go_wp2_with fail
  refine (CK.out _ T1.out).mono ?_
  rintro e w2 ⟨rfl, hb⟩
  have B2 := Lib.hid (below_then B1.out hb)
  have P2 := Lib.hid (P1.out.below hb)
  have T2 := Lib.hid (T1.out.below hb)
  have CH2 := Lib.hid ((hb.block c (blk_lt hCH.out)).trans hCH.out)
  clear hb B1 P1 T1 hCH CK x0 x1 x2 x3 x4 x5 x6
  cases mp
  case false =>
    have hk : (((if false = true then 0 else 60 : Int)) != 0) = true := rfl
    go_wp2_with fail
    refine ⟨_, _, _, _, rfl, (fun r h => by cases h), close_run CH2.out, results_tmp rfl _ _ _, c, 0, 0, rfl, ?_, below_setChan B2.out hwc _ _ _ _ _ _, hwc⟩
    have hf : freeL ⟨kind, level, id, lsn, next, rows⟩ = [] := by unfold freeL; rw [← HM.out]; rfl
    rw [hf, heap_setChan _ _ _ _ _ _ _ _ (blk_lt CH2.out)]
    rfl
  have hk : (((if true = true then 0 else 60 : Int)) != 0) = false := rfl
  go_wp2_with fail
  refine wpN_seqN ?_
  refine wpN_seq ?_
  go_wp2_with fail
  obtain ⟨r, hr⟩ : ∃ r, rows = [r] := map_row HM.out
  subst hr
  have hl128 := map_len HM.out
  have HF := Lib.hid (map_free HM.out)
  simp only [mapRow, List.getD_cons_zero] at hl128 HF
  have hn1 : n = 1 := by rw [HN.out]; rfl
  subst hn1
  obtain ⟨b, o, hA, hbl, hcell⟩ := HROWS.out (by simp)
  subst hA
  have BT := Lib.hid fun k W (h1 : 1 ≤ k) (h2 : k ≤ 1024) => spaceBit_any r k W hl128 h1 h2
  have HL128 := Lib.hid hl128
  clear hcell HROWS HN hl128 hk h2 h3 hbl
  refine wpN_block ?_
  refine wpN_loop (FreeI w c kind level id lsn next b o cp r) (fun a _ => FreeM a) ?_ ?_
  · exact ⟨1, _, _, _, _, _, _, _, _, _, _, _, _, _, _, 0, ⟨by omega, by omega⟩, CH2, B2, P2, T2, rfl⟩
  rintro _ wr ⟨k, u11, u12, u13, u14, u15, u16, u17, u18, u19, u20, u21, u22, u23, u24, s, ⟨hk1, hk2⟩, CH, BB, PP, TT, rfl⟩
  clear CH2 B2 P2 T2
  refine wpN_seq ?_
  by_cases hkk : k ≤ 1024
  case neg =>
    obtain rfl : k = 1025 := by omega
    go_wp2_with fail
    refine wpN_of ?_
    go_wp2_with fail
    refine ⟨_, _, _, _, rfl, (fun r h => by cases h), close_run CH.out, results_tmp rfl _ _ _, c, s, 0, rfl, ?_, below_setChan BB.out hwc _ _ _ _ _ _, hwc⟩
    rw [HF.out, heap_setChan _ _ _ _ _ _ _ _ (blk_lt CH.out)]
  have hki : (k : Int) ≤ 1024 := by omega
  go_wp2_with fail
  refine wpN_seqN ?_
  refine wpN_block ?_
  obtain ⟨x0, x1, x2, x3, x4, x5, x6⟩ := PP.out.cells
  obtain ⟨_, _, hvv, _, _, _, hcc⟩ := TT.out
  obtain ⟨b', o', hA', hb', hcell⟩ := hcc (by simp)
  cases hvv
  cases hA'
  have c0 := hcell 0 (by simp)
  simp only [Nat.add_zero, List.getElem_cons_zero] at c0
  have hF0 := freeV_succ r (k - 1)
  rw [show k - 1 + 1 = k by omega] at hF0
  have HFS := Lib.hid hF0
  clear hcell hF0 hcc
  refine wpN_seq ?_
  go_wp2_with fail
  refine (BT.out k _ hk1 hkk).mono ?_
  rintro e w' ⟨rfl, rfl⟩
  obtain ⟨bt, hbt⟩ : ∃ bt, bt = bitB r (k - 1) := ⟨_, rfl⟩
  rw [← hbt] at HFS ⊢
  have HBT := Lib.hid hbt
  clear hbt x0 x1 x2 x3 x4 x5 x6 c0
  go_wp2_with fail
  cases bt
  case true =>
    have H2 := Lib.hid (show freeV r k = freeV r (k - 1) by rw [HFS.out, if_pos rfl, List.append_nil])
    refine wpN_cond (t := false) rfl ?_
    simp only [if_false, Bool.false_eq_true]
    refine wpN_skip ?_
    simp only [Exit.inBlock, Exit.then]
    refine wpN_of ?_
    go_wp2_with fail
    refine ⟨⟨k + 1, _, _, _, _, _, _, _, _, _, _, _, _, _, _, s, ⟨by omega, by omega⟩, Lib.hid ?_, BB, PP, TT, rfl⟩, ?_⟩
    · rw [show k + 1 - 1 = k by omega, H2.out]; exact CH.out
    · simp [FreeM, intOf]; omega
  have H2 := Lib.hid (show freeV r k = freeV r (k - 1) ++ [.int .u32 (k : Int)] by rw [HFS.out]; rfl)
  refine wpN_cond (t := true) rfl ?_
  simp only [if_true]
  refine wpN_lone fun b0 k0 cs0 hkind => ?_
  refine LoneTo.goes (n := 10) ?_
  s_reg
  (s_in; refine goes_oper_k rfl rfl hkind (fun K hK => ?_); go_simp; refine hK _ _ ⟨trivial, ?_⟩; clear hK K)
  (s_in; refine goes_oper_k rfl rfl hkind (fun K hK => ?_); go_simp; refine hK _ _ ⟨trivial, ?_⟩; clear hK K)
  s_stop
  have hsz : (freeV r (k - 1)).toArray.size < 1024 := by have := freeV_le r (k - 1); simp; omega
  refine LoneTo.step (step_lone_send_room (c := c) (cap := 1024) (buf := (freeV r (k - 1)).toArray) (s := s) (r := 0) (tm := false) (stepG_comm (cases := #[scase c (.int .u32 (k : Nat)) (.tuple #[])]) (blocking := true) (shape := .send) (w' := wr) rfl rfl hkind (by simp [execOp, scase, Act.eval])) CH.out hsz) ?_
  rw [Frame.finish_at]
  walk_nrm
  refine LoneTo.goes (n := 3) ?_
  s_c stepG_region_end
  s_stop
  refine LoneTo.done ⟨_, rfl, ?_⟩
  simp only [Exit.inBlock, Exit.then]
  have CX := Lib.hid (chan_push CH.out (.int .u32 (k : Int)) H2.out)
  have KX := Lib.hid (setChan_others wr c 1024 ((freeV r (k - 1)).toArray.push (.int .u32 (k : Int))) false (s + 1) 0 false)
  rw [List.push_toArray] at CX KX
  generalize wr.setChan c 1024 (freeV r (k - 1) ++ [Value.int .u32 (k : Int)]).toArray false (s + 1) 0 false = wx at *
  clear hsz
  refine wpN_of ?_
  go_wp2_with fail
  refine ⟨⟨k + 1, _, _, _, _, _, _, _, _, _, _, _, _, _, _, s + 1, ⟨by omega, by omega⟩, Lib.hid ?_, Lib.hid ?_, Lib.hid ?_, Lib.hid ?_, rfl⟩, ?_⟩
  · rw [show k + 1 - 1 = k by omega]; exact CX.out
  · exact OthersKept.below BB.out KX.out (fun x hx e => by omega)
  · exact PP.out.kept KX.out (by omega)
  · exact TextsAt.off_chan TT.out KX.out CH.out
  · simp [FreeM, intOf]; omega

end Go.Proofs.Ytienlhnbmobinaa
