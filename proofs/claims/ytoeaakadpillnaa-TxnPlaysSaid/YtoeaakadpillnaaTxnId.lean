/- chapter 23: the next id. -/
import Derived.Test.YtoeaakadpillnaaRows
import Derived.Test.YtoeaakadpillnaaTxnMap
import Derived.Test.YtoeaakadpillnaaTxnComm
import Derived.Test.YtoeaakadpillnaaExt
import Derived.Maps.OwnSet
import Derived.Conc.LoneSelectN
import Derived.Conc.LoneSelect
import Derived.Conc.LoneCalls
import Derived.WalkKit
import Derived.WalkLawsBesides
import Derived.WalkSpells
import Derived.LoopTactic
import Derived.WalkMore
import Derived.LoopN
import Derived.Laws.BitsAllLaws
import Derived.Laws.IdiomStrings
import Derived.BigQuiet
import Derived.Deep.QuietTactic
import Derived.Deep.DeepCutAuto
import Derived.Deep.RegionHeld3
import Derived.Deep.DrawnRows
import Derived.Lib.Hide
import Derived.Outline
import Derived.Deep.DeepMust
import Derived.Handy
namespace Go.Proofs.Ytoeaakadpillnaa
open Go.RowKit
set_option linter.unusedVariables false
set_option linter.unusedSimpArgs false

open Go.Conc
theorem setChan_kept (w : World) (c cap : Nat) (buf : Array Value) (cl : Bool) (s r : Nat) (tm : Bool) : OthersKept w (w.setChan c cap buf cl s r tm) (fun k => k = c) :=
  ⟨rfl, rfl, rfl, by simp [World.setChan], fun k hk hp => by simp only [World.setChan]; rw [Array.getElem?_setIfInBounds_ne (fun e => hp e.symm)]⟩
theorem res_r (a : Nat) (z v : Value) (ok : Bool) : commResult #[rcase a z] .select ((0 : Nat) : Int) v ok = .tuple #[goInt 0, .bool ok, v] := by
  simp [commResult, rcase, List.zipIdx_cons]

set_option maxHeartbeats 4000000 in
set_option maxRecDepth 100000 in
/-- The next id: it goes through the channel and comes back. -/
theorem tx_id (w : World) {g m c tx number : Nat} {T : TT} (h : TtAt w g m c tx number T) (hl : tx ≤ 4611686018427387904) :
    Calls Try.prog 72 #[.pointer (some ⟨g, 0, none⟩)] w fun e w' => e = .returned (.int .u64 (tx : Nat)) ∧ TtAt w' g m c (tx + 1) number T ∧ OthersKept w w' (fun k => k = g ∨ k = c) := by
  obtain ⟨s, r, hch⟩ := h.chan
  have c1 := h.c1
  have c2 := h.c2
  have hlt := h.lt
  have hgc := h.gc
  have H := Lib.hid h
  clear h
  refine calls_of_loneTo fun cs => ?_
  have e : Frame.enter Try.prog 72 #[.pointer (some ⟨g, 0, none⟩)] .normal = (base 72).at ⟨#[.pointer (some ⟨g, 0, none⟩), undef, undef, undef, undef, undef, undef, undef, undef, undef, undef, undef, undef, undef, undef, undef, undef, undef, undef, undef, undef, undef, undef, undef, undef, undef, undef, undef, undef, undef, undef, undef], []⟩ [.code (Try.f72.body.getD .skip)] := by
    simp [Frame.enter, Frame.at, Try.func72, base, Try.f72]
  rw [e]
  clear e
  refine LoneTo.goes (n := 30) ?_
  simp only [Try.f72, Option.getD_some]
  s_c stepG_seq
  s_reg
  s_op
  s_c stepG_region_end
  s_c stepG_block
  s_c stepG_loop
  s_c stepG_block
  s_c stepG_seq
  s_reg
  s_op
  s_op
  s_op
  s_op
  s_c stepG_region_end
  s_c stepG_seq
  s_reg
  s_stop
  refine LoneTo.step (step_lone_select_default (c := c) (z := .int .u64 0) (cap := 1) (s := s) (r := r) (tm := false) (stepG_comm (cases := #[rcase c (.int .u64 0)]) (blocking := false) (shape := .select) (w' := w) rfl rfl (by decide) (by simp [go_sem, execOp, rcase, Act.eval])) hch) ?_
  rw [Frame.finish_at]
  walk_nrm
  refine LoneTo.goes (n := 10) ?_
  s_op
  s_op
  s_c stepG_region_end
  s_c stepG_block
  s_cond false
  s_stop
  have e1 := ext_cell c1 (cell_lt c1)
  have e2 := ext_cell c2 (cell_lt c2)
  refine lone_draw_last (C := fun w' => ∃ x : Ext w.heap.size w, w' = x.val) 8 rfl (by decide) (by kernel_rfl) (by kernel_rfl) ⟨⟨_, (Below.refl _ w).drew⟩, rfl⟩ ?_
  simp only [List.take_succ_cons, List.take_zero]
  repeat (go_big_quiet_step (fail))
  refine wpQuiet_nil ?_
  rintro _ ⟨X, rfl⟩
  have hX := X.below
  have HX := Lib.hid hX
  have hchX := (hX.block c hlt.2.2).trans hch
  have cX1 := (hX.cell (p := ⟨g, 1, none⟩) hlt.1).trans c1
  have cX2 := (hX.cell (p := ⟨g, 2, none⟩) hlt.1).trans c2
  have hXT := Lib.hid (H.out.below hX)
  have hXl : c < X.val.heap.size := blk_lt hchX
  clear e1 e2 hch c1 c2 hX
  generalize X.val = W at *
  refine LoneTo.step (step_lone_send_room (c := c) (cap := 1) (buf := #[]) (s := s) (r := r) (tm := false) (stepG_comm (cases := #[scase c (.int .u64 (tx : Nat)) (.tuple #[])]) (blocking := true) (shape := .send) (w' := W) rfl rfl (by decide) (by simp [execOp, scase, Act.eval])) hchX (by simp)) ?_
  rw [Frame.finish_at]
  walk_nrm
  obtain ⟨W2, hW2⟩ : ∃ W2, W2 = W.setChan c 1 #[.int .u64 (tx : Nat)] false (s + 1) r false := ⟨_, rfl⟩
  rw [← hW2]
  have hk2 : OthersKept W W2 (fun k => k = c) := by rw [hW2]; exact setChan_kept _ _ _ _ _ _ _ _
  have hc2 : W2.heap[c]? = some (.chan 1 #[.int .u64 (tx : Nat)] false (s + 1) r false) := by rw [hW2]; exact heap_setChan _ _ _ _ _ _ _ _ hXl
  have c1 := hk2.cell cX1 hgc
  have c2 := hk2.cell cX2 hgc
  have HK2 := Lib.hid hk2
  clear hW2 hk2 cX1 cX2 hchX
  refine LoneTo.goes (n := 30) ?_
  s_c stepG_region_end
  s_c stepG_inBlock
  s_c stepG_inBlock
  s_c stepG_inLoop
  s_c stepG_block
  s_c stepG_seq
  s_reg
  s_op
  s_op
  s_op
  s_op
  s_c stepG_region_end
  s_c stepG_seq
  s_reg
  s_stop
  refine LoneTo.step (step_lone_select_recv_buf (c := c) (z := .int .u64 0) (cap := 1) (buf := #[.int .u64 (tx : Nat)]) (closed := false) (s := s + 1) (r := r) (tm := false) (stepG_comm (cases := #[rcase c (.int .u64 0)]) (blocking := false) (shape := .select) (w' := W2) rfl rfl (by decide) (by simp [go_sem, execOp, rcase, Act.eval])) hc2 (by simp)) ?_
  rw [Frame.finish_at]
  walk_nrm
  obtain ⟨W3, hW3⟩ : ∃ W3, W3 = W2.setChan c 1 ((#[Value.int .u64 (tx : Nat)]).extract 1 (#[Value.int .u64 (tx : Nat)]).size) false (s + 1) (r + 1) false := ⟨_, rfl⟩
  have hk3 : OthersKept W2 W3 (fun k => k = c) := by rw [hW3]; exact setChan_kept _ _ _ _ _ _ _ _
  have hc3 : W3.heap[c]? = some (.chan 1 #[] false (s + 1) (r + 1) false) := by rw [hW3]; have := heap_setChan W2 c 1 ((#[Value.int .u64 (tx : Nat)]).extract 1 (#[Value.int .u64 (tx : Nat)]).size) false (s + 1) (r + 1) false (blk_lt hc2); simpa using this
  simp only [List.size_toArray, List.length_cons, List.length_nil, Nat.reduceAdd] at hW3
  rw [← hW3]
  have c1' := hk3.cell c1 hgc
  have c2' := hk3.cell c2 hgc
  have HK3 := Lib.hid hk3
  have hT3 : TtAt W3 g m c tx number T := by
    have hmc := H.out.mc
    have hT := hXT.out
    have hkk := (HK2.out).trans hk3 (fun _ _ h => h)
    obtain ⟨D, ho, hD⟩ := hT.ex
    obtain ⟨es, cc, hb, hr⟩ := ho
    exact ⟨hkk.heap hT.own hgc, ⟨_, _, hc3⟩, ⟨D, ⟨es, cc, hkk.heap hb hmc, hr⟩, hD⟩, hT.rising, hT.under, hT.small, hT.txle, hT.nole⟩
  have f2 := blk_frozen hT3.own 2
  have HT3 := Lib.hid hT3
  clear hW3 hk3 c1 c2 hc2 hT3 hc3
  refine LoneTo.goes (n := 60) ?_
  s_op
  s_op
  s_c stepG_region_end
  s_c stepG_block
  s_cond true
  s_c stepG_seq
  s_reg
  s_op
  s_op
  s_c stepG_region_end
  s_c stepG_seq
  s_reg
  s_op
  s_op
  s_op
  s_op
  s_op
  s_op
  s_c stepG_region_end
  s_cond true
  s_c stepG_seq
  s_reg
  s_op
  s_op
  s_op
  s_op
  s_op
  s_op
  s_c stepG_region_end
  s_c stepG_seq
  s_reg
  s_op
  s_op
  s_c stepG_region_end
  s_c stepG_ret'
  s_stop
  refine LoneTo.done ⟨.returned (.int .u64 (tx : Nat)), _, rfl, ⟨rfl, ?_, ?_⟩, rfl, rfl, rfl, rfl, _, Try.func72, by simp [results, Try.f72, Frame.at]⟩
  · have hw : IntKind.u64.wrap ((tx : Int) + 1) = ((tx + 1 : Nat) : Int) := by rw [IntKind.wrap_u64]; omega
    rw [hw]
    exact HT3.out.set2 (tx + 1) (fun x hx => by have := HT3.out.under x hx; omega) (by omega)
  · have h1 := (OthersKept.of_below (p := fun k => k = g ∨ k = c) HX.out).trans (HK2.out.trans HK3.out (fun _ _ h => h)) (fun k _ h => .inr h)
    exact h1.trans (OthersKept.of_grown (p := fun k => k = g) (g := g) (grown_set (grown_refl _ _)) rfl) (fun k _ h => .inl h)

end Go.Proofs.Ytoeaakadpillnaa
