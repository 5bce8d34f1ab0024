/- chapter 11: the parts of an op -/
import Derived.Test.YtienlhnbmobinaaRows
import Derived.Test.YtienlhnbmobinaaOpPiece
import Derived.Test.YtienlhnbmobinaaOpNum
import Derived.Test.YtienlhnbmobinaaOpPlain
import Derived.Test.YtienlhnbmobinaaOpWord
import Derived.Test.YtienlhnbmobinaaBase
import Derived.Test.YtienlhnbmobinaaTextsP
import Derived.Deep.CutBlock
import Derived.WalkKit
import Derived.WalkLawsBesides
import Derived.WalkSpells
import Derived.LoopTactic
import Derived.WalkMore
import Derived.LoopN
import Derived.Laws.BitsAllLaws
import Derived.Laws.IdiomStrings
import Derived.BigQuiet
import Derived.Deep.QuietTactic
import Derived.Deep.DeepCutAuto
import Derived.Deep.RegionHeld3
import Derived.Deep.DrawnRows
import Derived.Lib.Hide
import Derived.Outline
import Derived.Deep.DeepMust
import Derived.Handy
namespace Go.Proofs.Ytienlhnbmobinaa
open Go.RowKit
set_option linter.unusedVariables false
set_option linter.unusedSimpArgs false

/-- An op's cells in a block. -/
def OAt (w : World) (go : Nat) (o : Od) (sv : Value) : Prop := w.heap[go]? = some (.cells #[.int .u8 o.kind, .int .u32 o.page, .int .i64 o.at_, .int .i64 o.off, .string ⟨o.text.toArray⟩, sv, .int .u8 o.pk, .int .u8 o.lv, .int .u32 o.nx] 28 (0, 0))
/-- The coder, its op, and the op's rows, in memory of their own, above a place. -/
def CAt (w : World) (m gk go : Nat) (c : Cd) : Prop :=
  KAt w gk go c ∧ gk ≠ go ∧ m ≤ gk ∧ m ≤ go ∧ ∃ sv, OAt w go c.o sv ∧ w.ownsRow m 9 1 sv c.o.rows.length (strs c.o.rows) ∧ ∀ j, sv.ownBlock = some j → j ≠ gk ∧ j ≠ go
/-- What a part leaves. -/
def PartPost (w : World) (m gk go : Nat) (c' : Cd) (e : Ending) (w' : World) : Prop := e = .returned (.tuple #[]) ∧ CAt w' m gk go c' ∧ Below m w w'
/-- What a part leaves that goes to no rows. -/
def PartPostK (w : World) (m gk go : Nat) (c' : Cd) (e : Ending) (w' : World) : Prop := PartPost w m gk go c' e w' ∧ OthersKept w w' (fun k => k = gk ∨ k = go)
/-- Bounds of what stands in a coder. -/
def Cd.ok (c : Cd) (B : Nat) : Prop := c.o.wf ∧ c.o.text.length ≤ 65535 ∧ c.o.rows.length ≤ 65535 ∧ (∀ r ∈ c.o.rows, r.length ≤ 65535) ∧ c.s.length ≤ B ∧ c.at_ ≤ B
theorem kept_m {w w' : World} {m gk go : Nat} (h : OthersKept w w' (fun k => k = gk ∨ k = go)) (h1 : m ≤ gk) (h2 : m ≤ go) (hm : m ≤ w.heap.size) : Below m w w' :=
  ⟨h.os, h.tape, h.output, h.size, fun k hk => h.block k (by omega) (fun e => by omega)⟩
theorem CAt.after {w w' : World} {m gk go : Nat} {c' : Cd} {sv : Value} (hk : KAt w' gk go c') (hgg : gk ≠ go) (h1 : m ≤ gk) (h2 : m ≤ go) (ho : OAt w' go c'.o sv) (hr : w.ownsRow m 9 1 sv c'.o.rows.length (strs c'.o.rows)) (hd : ∀ j, sv.ownBlock = some j → j ≠ gk ∧ j ≠ go) (hkp : OthersKept w w' (fun k => k = gk ∨ k = go)) : CAt w' m gk go c' :=
  ⟨hk, hgg, h1, h2, sv, ho, hkp.owns hr (fun j hj e => by have := hd j hj; omega), hd⟩
theorem numV_u (c : Cd) (size : Nat) (v : Nat) : (c.numV size (v : Int)) = ((c.numV size (v : Int)).toNat : Int) := by
  unfold Cd.numV
  split <;> omega
set_option maxHeartbeats 1000000 in
set_option maxRecDepth 100000 in
theorem part_kind (w : World) (m gk go : Nat) (c : Cd) (h : CAt w m gk go c) (hm : m ≤ w.heap.size) (hc : c.ok 800000) :
    Calls Try.prog 200 #[.pointer (some ⟨gk, 0, none⟩)] w (PartPostK w m gk go (Part.run .kind c)) := by
  obtain ⟨hk, hgg, h1, h2, sv, ho, hr, hd⟩ := h
  have NU := Lib.hid (num_u8 w gk go go 6 c _ 28 5 c.o.pk hk ho rfl (fun e => hgg e.symm) hc.1.2.2.2.2.1 (Nat.le_trans hc.2.2.2.2.1 (by omega)) (Nat.le_trans hc.2.2.2.2.2 (by omega)) (by omega))
  have HR := Lib.hid hr
  have HD := Lib.hid hd
  have k0 := hk.cells.2.1
  have kl := hk.cells.1
  have gl : go < w.heap.size := blk_lt ho
  clear hk ho hr hd hc
  go_enter Try.func200, Try.ntmps200
  go_wp2_with fail
  refine NU.out.mono ?_
  rintro e w1 ⟨rfl, hk, ho, hkp⟩
  go_wp2_with fail
  (try simp only [Exit.inBlock, Exit.then])
  refine bodyPost_end (results_none rfl _ _ _) rfl ?_
  rw [numV_u c 1 c.o.pk] at ho
  simp only [List.setIfInBounds_toArray, List.set_cons_zero, List.set_cons_succ] at ho
  exact ⟨⟨rfl, CAt.after (c' := Part.run .kind c) hk hgg h1 h2 ho HR.out HD.out hkp, kept_m hkp h1 h2 hm⟩, hkp⟩
set_option maxHeartbeats 1000000 in
set_option maxRecDepth 100000 in
theorem part_level (w : World) (m gk go : Nat) (c : Cd) (h : CAt w m gk go c) (hm : m ≤ w.heap.size) (hc : c.ok 800000) :
    Calls Try.prog 201 #[.pointer (some ⟨gk, 0, none⟩)] w (PartPostK w m gk go (Part.run .level c)) := by
  obtain ⟨hk, hgg, h1, h2, sv, ho, hr, hd⟩ := h
  have NU := Lib.hid (num_u8 w gk go go 7 c _ 28 255 c.o.lv hk ho rfl (fun e => hgg e.symm) hc.1.2.2.2.2.2.1 (Nat.le_trans hc.2.2.2.2.1 (by omega)) (Nat.le_trans hc.2.2.2.2.2 (by omega)) (by omega))
  have HR := Lib.hid hr
  have HD := Lib.hid hd
  have k0 := hk.cells.2.1
  have kl := hk.cells.1
  have gl : go < w.heap.size := blk_lt ho
  clear hk ho hr hd hc
  go_enter Try.func201, Try.ntmps201
  go_wp2_with fail
  refine NU.out.mono ?_
  rintro e w1 ⟨rfl, hk, ho, hkp⟩
  go_wp2_with fail
  (try simp only [Exit.inBlock, Exit.then])
  refine bodyPost_end (results_none rfl _ _ _) rfl ?_
  rw [numV_u c 1 c.o.lv] at ho
  simp only [List.setIfInBounds_toArray, List.set_cons_zero, List.set_cons_succ] at ho
  exact ⟨⟨rfl, CAt.after (c' := Part.run .level c) hk hgg h1 h2 ho HR.out HD.out hkp, kept_m hkp h1 h2 hm⟩, hkp⟩
set_option maxHeartbeats 1000000 in
set_option maxRecDepth 100000 in
theorem part_next (w : World) (m gk go : Nat) (c : Cd) (h : CAt w m gk go c) (hm : m ≤ w.heap.size) (hc : c.ok 800000) :
    Calls Try.prog 202 #[.pointer (some ⟨gk, 0, none⟩)] w (PartPostK w m gk go (Part.run .next c)) := by
  obtain ⟨hk, hgg, h1, h2, sv, ho, hr, hd⟩ := h
  have NU := Lib.hid (num_u32 w gk go go 8 c _ 28 1024 c.o.nx hk ho rfl (fun e => hgg e.symm) hc.1.2.2.2.2.2.2 (Nat.le_trans hc.2.2.2.2.1 (by omega)) (Nat.le_trans hc.2.2.2.2.2 (by omega)) (by omega))
  have HR := Lib.hid hr
  have HD := Lib.hid hd
  have k0 := hk.cells.2.1
  have kl := hk.cells.1
  have gl : go < w.heap.size := blk_lt ho
  clear hk ho hr hd hc
  go_enter Try.func202, Try.ntmps202
  go_wp2_with fail
  refine NU.out.mono ?_
  rintro e w1 ⟨rfl, hk, ho, hkp⟩
  go_wp2_with fail
  (try simp only [Exit.inBlock, Exit.then])
  refine bodyPost_end (results_none rfl _ _ _) rfl ?_
  rw [numV_u c 4 c.o.nx] at ho
  simp only [List.setIfInBounds_toArray, List.set_cons_zero, List.set_cons_succ] at ho
  exact ⟨⟨rfl, CAt.after (c' := Part.run .next c) hk hgg h1 h2 ho HR.out HD.out hkp, kept_m hkp h1 h2 hm⟩, hkp⟩
set_option maxHeartbeats 1000000 in
set_option maxRecDepth 100000 in
theorem part_place (w : World) (m gk go : Nat) (c : Cd) (h : CAt w m gk go c) (hm : m ≤ w.heap.size) (hc : c.ok 800000) :
    Calls Try.prog 203 #[.pointer (some ⟨gk, 0, none⟩)] w (PartPostK w m gk go (Part.run .place c)) := by
  obtain ⟨hk, hgg, h1, h2, sv, ho, hr, hd⟩ := h
  have NU := Lib.hid (num_i64 w gk go go 2 c _ 28 488 c.o.at_ hk ho rfl (fun e => hgg e.symm) hc.1.2.2.1 (Nat.le_trans hc.2.2.2.2.1 (by omega)) (Nat.le_trans hc.2.2.2.2.2 (by omega)) (by omega))
  have HR := Lib.hid hr
  have HD := Lib.hid hd
  have k0 := hk.cells.2.1
  have kl := hk.cells.1
  have gl : go < w.heap.size := blk_lt ho
  clear hk ho hr hd hc
  go_enter Try.func203, Try.ntmps203
  go_wp2_with fail
  refine NU.out.mono ?_
  rintro e w1 ⟨rfl, hk, ho, hkp⟩
  go_wp2_with fail
  (try simp only [Exit.inBlock, Exit.then])
  refine bodyPost_end (results_none rfl _ _ _) rfl ?_
  skip
  simp only [List.setIfInBounds_toArray, List.set_cons_zero, List.set_cons_succ] at ho
  exact ⟨⟨rfl, CAt.after (c' := Part.run .place c) hk hgg h1 h2 ho HR.out HD.out hkp, kept_m hkp h1 h2 hm⟩, hkp⟩
set_option maxHeartbeats 1000000 in
set_option maxRecDepth 100000 in
theorem part_off (w : World) (m gk go : Nat) (c : Cd) (h : CAt w m gk go c) (hm : m ≤ w.heap.size) (hc : c.ok 800000) :
    Calls Try.prog 206 #[.pointer (some ⟨gk, 0, none⟩)] w (PartPostK w m gk go (Part.run .off c)) := by
  obtain ⟨hk, hgg, h1, h2, sv, ho, hr, hd⟩ := h
  have NU := Lib.hid (num_i64 w gk go go 3 c _ 28 488 c.o.off hk ho rfl (fun e => hgg e.symm) hc.1.2.2.2.1 (Nat.le_trans hc.2.2.2.2.1 (by omega)) (Nat.le_trans hc.2.2.2.2.2 (by omega)) (by omega))
  have HR := Lib.hid hr
  have HD := Lib.hid hd
  have k0 := hk.cells.2.1
  have kl := hk.cells.1
  have gl : go < w.heap.size := blk_lt ho
  clear hk ho hr hd hc
  go_enter Try.func206, Try.ntmps206
  go_wp2_with fail
  refine NU.out.mono ?_
  rintro e w1 ⟨rfl, hk, ho, hkp⟩
  go_wp2_with fail
  (try simp only [Exit.inBlock, Exit.then])
  refine bodyPost_end (results_none rfl _ _ _) rfl ?_
  skip
  simp only [List.setIfInBounds_toArray, List.set_cons_zero, List.set_cons_succ] at ho
  exact ⟨⟨rfl, CAt.after (c' := Part.run .off c) hk hgg h1 h2 ho HR.out HD.out hkp, kept_m hkp h1 h2 hm⟩, hkp⟩
set_option maxHeartbeats 1000000 in
set_option maxRecDepth 100000 in
theorem part_text (w : World) (m gk go : Nat) (c : Cd) (h : CAt w m gk go c) (hm : m ≤ w.heap.size) (hc : c.ok 800000) :
    Calls Try.prog 204 #[.pointer (some ⟨gk, 0, none⟩)] w (PartPostK w m gk go (Part.run .text c)) := by
  obtain ⟨hk, hgg, h1, h2, sv, ho, hr, hd⟩ := h
  have NU := Lib.hid (piece_any w gk go go 4 c _ 28 c.o.text hk ho rfl (fun e => hgg e.symm) (Nat.le_trans hc.2.1 (by omega)) hc.2.2.2.2.1 (Nat.le_trans hc.2.2.2.2.2 (by omega)))
  have HR := Lib.hid hr
  have HD := Lib.hid hd
  have k0 := hk.cells.2.1
  have kl := hk.cells.1
  have gl : go < w.heap.size := blk_lt ho
  clear hk ho hr hd hc
  go_enter Try.func204, Try.ntmps204
  go_wp2_with fail
  refine NU.out.mono ?_
  rintro e w1 ⟨rfl, hk, ho, hkp⟩
  go_wp2_with fail
  (try simp only [Exit.inBlock, Exit.then])
  refine bodyPost_end (results_none rfl _ _ _) rfl ?_
  simp only [List.setIfInBounds_toArray, List.set_cons_zero, List.set_cons_succ] at ho
  exact ⟨⟨rfl, CAt.after (c' := Part.run .text c) hk hgg h1 h2 ho HR.out HD.out hkp, kept_m hkp h1 h2 hm⟩, hkp⟩

end Go.Proofs.Ytienlhnbmobinaa
