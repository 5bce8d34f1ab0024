/- Kept of our texts for this claim: OpGo -/
import Derived.Test.YtienlhnbmobinaaGreatRows
import Derived.Test.YtienlhnbmobinaaGreatAdAo
import Derived.Test.YtienlhnbmobinaaGreatAdAl
import Derived.Test.YtienlhnbmobinaaGreatAdAk
import Derived.Test.YtienlhnbmobinaaGreatAdAb
import Derived.Test.YtienlhnbmobinaaGreatAdAc
import Derived.Deep.CutBlock
import Derived.Maps.RangeWalk
import Derived.Maps.OwnSet
import Derived.WalkKit
import Derived.WalkLawsBesides
import Derived.WalkSpells
import Derived.LoopTactic
import Derived.WalkMore
import Derived.LoopN
import Derived.Laws.BitsAllLaws
import Derived.Laws.IdiomStrings
import Derived.BigQuiet
import Derived.Deep.QuietTactic
import Derived.Deep.DeepCutAuto
import Derived.Deep.RegionHeld3
import Derived.Deep.DrawnRows
import Derived.Lib.Hide
import Derived.Outline
import Derived.Deep.DeepMust
import Derived.Handy
section
/- chapter 11: an op gone through -/
namespace Go.Proofs.YtienlhnbmobinaaGreat
open Go.RowKit
set_option linter.unusedVariables false
set_option linter.unusedSimpArgs false
theorem fnMade (fn : Fn) (first cap : Array Value) (w : World) : (Instr.makeFunc fn first cap).run Tryz.prog w = .ok (.func fn first cap) w := rfl
set_option maxHeartbeats 2000000 in
set_option maxRecDepth 100000 in
theorem op_any (w : World) (m gk go : Nat) (c : Cd) (h : CAt w m gk go c) (hm : m ≤ w.heap.size) (hc : c.ok 100000) (hr : c.rd = true → c.o.rows = []) :
    Calls Tryz.prog 84 #[.pointer (some ⟨gk, 0, none⟩)] w (PartPost w m gk go c.op) := by
  obtain ⟨hk, hgg, h1, h2, sv, ho, hrr, hd⟩ := h
  have hho := head_ok hc
  have hwf := hc.1
  have hcs := hc.2.2.2.2
  have HC := Lib.hid hc
  have HR0 := Lib.hid hr
  clear hc hr
  have NU := Lib.hid (num_u8 w gk go go 0 c _ 40 255 c.o.kind hk ho rfl (fun e => hgg e.symm) hwf.1 (by omega) (by omega) (by omega))
  have HRR := Lib.hid hrr
  have HD := Lib.hid hd
  have k0 := hk.cells.2.1
  have kl := hk.cells.1
  have gl : go < w.heap.size := blk_lt ho
  clear hk ho hrr hd
  go_enter Tryz.func84, Tryz.ntmps84
  go_wp2_with fail
  refine NU.out.mono ?_
  rintro e w1 ⟨rfl, hk, ho, hkp⟩
  rw [numV_u c 1 c.o.kind] at ho
  simp only [List.setIfInBounds_toArray, List.set_cons_zero, List.set_cons_succ] at ho
  obtain ⟨c1, hc1⟩ : ∃ c1, c1 = (c.num 1 255 (c.o.kind : Int)).set { c.o with kind := (c.numV 1 (c.o.kind : Int)).toNat } := ⟨_, rfl⟩
  have K1 : Hid (KAt w1 gk go c1) := by rw [hc1]; exact hk
  have O1 : Hid (OAt w1 go c1.o sv) := by rw [hc1]; exact ho
  have R1 := Lib.hid (hkp.owns HRR.out (fun j hj e => by have := HD.out j hj; omega))
  have B1 := Lib.hid (kept_m hkp h1 h2 hm)
  have hrows1 : c1.o.rows = c.o.rows := by rw [hc1]; rfl
  have hpg : c1.o.page = c.o.page := by rw [hc1]; rfl
  have hs1 : c1.s.length ≤ 100001 ∧ c1.at_ ≤ 100001 := by have h8 := num_s c 1 255 (c.o.kind : Int); rw [hc1]; exact ⟨by show (c.num 1 255 (c.o.kind : Int)).s.length ≤ _; omega, by show (c.num 1 255 (c.o.kind : Int)).at_ ≤ _; omega⟩
  have NP := Lib.hid (num_u32 w1 gk go go 1 c1 _ 40 1024 c1.o.page K1.out O1.out rfl (fun e => hgg e.symm) (by rw [hpg]; exact hwf.2.1) (by omega) (by omega) (by omega))
  have k1 := K1.out.cells.2.1
  have kl1 := K1.out.cells.1
  have gl1 : go < w1.heap.size := blk_lt O1.out
  have hm1 : m ≤ w1.heap.size := Nat.le_trans hm hkp.size
  clear hk ho hkp NU HRR k0
  go_wp2_with fail
  refine NP.out.mono ?_
  rintro e w2 ⟨rfl, hk, ho, hkp⟩
  rw [numV_u c1 4 c1.o.page] at ho
  simp only [List.setIfInBounds_toArray, List.set_cons_zero, List.set_cons_succ] at ho
  obtain ⟨c2, hc2⟩ : ∃ c2, c2 = (c1.num 4 1024 (c1.o.page : Int)).set { c1.o with page := (c1.numV 4 (c1.o.page : Int)).toNat } := ⟨_, rfl⟩
  have K2 : Hid (KAt w2 gk go c2) := by rw [hc2]; exact hk
  have O2 : Hid (OAt w2 go c2.o sv) := by rw [hc2]; exact ho
  have r2x := hkp.owns R1.out (fun j hj e => by have := HD.out j hj; omega)
  have B2 := Lib.hid (kept_below hkp B1.out h1 h2 hm1)
  have hhead : c.head = ⟨c2.o, c2.s, c2.at_, c2.rd, c2.bad || !(decide (1 ≤ c2.o.kind ∧ c2.o.kind ≤ 8)) || decide (c2.o.page < 1)⟩ := by rw [hc2, hc1]; rfl
  have hrows2 : c2.o.rows = c.o.rows := by rw [hc2, hc1]; rfl
  rw [← hrows2] at r2x
  have R2 := Lib.hid r2x
  clear r2x
  have hkd : c2.o.kind < 256 := by have h8 := hho.1.1.1; rw [hhead] at h8; exact h8
  have HH := Lib.hid hhead
  have hm2 : m ≤ w2.heap.size := Nat.le_trans hm1 hkp.size
  have HHO := Lib.hid hho
  have gl2 : go < w2.heap.size := blk_lt O2.out
  have k2 := K2.out.cells.2.1
  have kl2 := K2.out.cells.1
  clear hk ho hkp NP k1 hwf hcs hho hhead hrows1 hpg hs1 hc1 hc2 K1 O1 R1 B1
  have hmm := @run_makeMap Tryz.prog
  have hmf := fnMade
  obtain ⟨W0, hW0⟩ : ∃ W0, W0 = w2.alloc (.map #[] 0) := ⟨_, rfl⟩
  have a0 : FnAt W0 w2.heap.size [] := by rw [hW0]; exact FnAt.new _
  have B0 : Below w2.heap.size w2 W0 := by rw [hW0]; exact alloc_below w2 _
  have p1 := FnAt.below a0 (alloc_below W0 (.cells #[.func (.func 97) #[.pointer (some ⟨gk, 0, none⟩)] #[], .func (.func 98) #[.pointer (some ⟨gk, 0, none⟩)] #[], .func (.func 99) #[.pointer (some ⟨gk, 0, none⟩)] #[]] 1))
  obtain ⟨W1, r1, g1, a1⟩ := p1.put (t := 144) Tryz.underlying144 1 (.slice (some ⟨W0.heap.size, 0, none⟩) 3 3) (by decide) (by first | rfl | simp) (by simp)
  have b1 : W1.heap[W0.heap.size]? = some (.cells #[.func (.func 97) #[.pointer (some ⟨gk, 0, none⟩)] #[], .func (.func 98) #[.pointer (some ⟨gk, 0, none⟩)] #[], .func (.func 99) #[.pointer (some ⟨gk, 0, none⟩)] #[]] 1 (0, 0)) := (g1.block _ (by simp) (fun e => by injection e with e; have := a0.lt; omega)).trans (heap_alloc_new _ _)
  have q1 : Below W0.heap.size W0 W1 → True := fun _ => trivial
  have B10 : Below w2.heap.size w2 W1 := (B0.alloc B0.size _).grown g1 (by have := B0.size; simp; omega) (fun j hj => by injection hj with hj; omega)
  have p2 := FnAt.below a1 (alloc_below W1 (.cells #[.func (.func 100) #[.pointer (some ⟨gk, 0, none⟩)] #[], .func (.func 101) #[.pointer (some ⟨gk, 0, none⟩)] #[]] 1))
  obtain ⟨W2, r2, g2, a2⟩ := p2.put (t := 144) Tryz.underlying144 2 (.slice (some ⟨W1.heap.size, 0, none⟩) 2 2) (by decide) (by first | rfl | simp) (by simp)
  have b2 : W2.heap[W1.heap.size]? = some (.cells #[.func (.func 100) #[.pointer (some ⟨gk, 0, none⟩)] #[], .func (.func 101) #[.pointer (some ⟨gk, 0, none⟩)] #[]] 1 (0, 0)) := (g2.block _ (by simp) (fun e => by injection e with e; have := a1.lt; omega)).trans (heap_alloc_new _ _)
  have q2 : Below W1.heap.size W1 W2 → True := fun _ => trivial
  have B20 : Below w2.heap.size w2 W2 := (B10.alloc B10.size _).grown g2 (by have := B10.size; simp; omega) (fun j hj => by injection hj with hj; omega)
  replace b1 := (g2.block _ (by have := blk_lt b1; simp; omega) (fun e => by injection e with e; rw [e] at b1; have h9 := a1; obtain ⟨D, ⟨es, cc, hb9, _⟩, _⟩ := h9; rw [hb9] at b1; cases b1)).trans (heap_keep (o := .cells #[.func (.func 100) #[.pointer (some ⟨gk, 0, none⟩)] #[], .func (.func 101) #[.pointer (some ⟨gk, 0, none⟩)] #[]] 1) b1)
  have p3 := FnAt.below a2 (alloc_below W2 (.cells #[.func (.func 100) #[.pointer (some ⟨gk, 0, none⟩)] #[], .func (.func 101) #[.pointer (some ⟨gk, 0, none⟩)] #[]] 1))
  obtain ⟨W3, r3, g3, a3⟩ := p3.put (t := 144) Tryz.underlying144 3 (.slice (some ⟨W2.heap.size, 0, none⟩) 2 2) (by decide) (by first | rfl | simp) (by simp)
  have b3 : W3.heap[W2.heap.size]? = some (.cells #[.func (.func 100) #[.pointer (some ⟨gk, 0, none⟩)] #[], .func (.func 101) #[.pointer (some ⟨gk, 0, none⟩)] #[]] 1 (0, 0)) := (g3.block _ (by simp) (fun e => by injection e with e; have := a2.lt; omega)).trans (heap_alloc_new _ _)
  have q3 : Below W2.heap.size W2 W3 → True := fun _ => trivial
  have B30 : Below w2.heap.size w2 W3 := (B20.alloc B20.size _).grown g3 (by have := B20.size; simp; omega) (fun j hj => by injection hj with hj; omega)
  replace b1 := (g3.block _ (by have := blk_lt b1; simp; omega) (fun e => by injection e with e; rw [e] at b1; have h9 := a2; obtain ⟨D, ⟨es, cc, hb9, _⟩, _⟩ := h9; rw [hb9] at b1; cases b1)).trans (heap_keep (o := .cells #[.func (.func 100) #[.pointer (some ⟨gk, 0, none⟩)] #[], .func (.func 101) #[.pointer (some ⟨gk, 0, none⟩)] #[]] 1) b1)
  replace b2 := (g3.block _ (by have := blk_lt b2; simp; omega) (fun e => by injection e with e; rw [e] at b2; have h9 := a2; obtain ⟨D, ⟨es, cc, hb9, _⟩, _⟩ := h9; rw [hb9] at b2; cases b2)).trans (heap_keep (o := .cells #[.func (.func 100) #[.pointer (some ⟨gk, 0, none⟩)] #[], .func (.func 101) #[.pointer (some ⟨gk, 0, none⟩)] #[]] 1) b2)
  have p4 := FnAt.below a3 (alloc_below W3 (.cells #[.func (.func 100) #[.pointer (some ⟨gk, 0, none⟩)] #[]] 1))
  obtain ⟨W4, r4, g4, a4⟩ := p4.put (t := 144) Tryz.underlying144 4 (.slice (some ⟨W3.heap.size, 0, none⟩) 1 1) (by decide) (by first | rfl | simp) (by simp)
  have b4 : W4.heap[W3.heap.size]? = some (.cells #[.func (.func 100) #[.pointer (some ⟨gk, 0, none⟩)] #[]] 1 (0, 0)) := (g4.block _ (by simp) (fun e => by injection e with e; have := a3.lt; omega)).trans (heap_alloc_new _ _)
  have q4 : Below W3.heap.size W3 W4 → True := fun _ => trivial
  have B40 : Below w2.heap.size w2 W4 := (B30.alloc B30.size _).grown g4 (by have := B30.size; simp; omega) (fun j hj => by injection hj with hj; omega)
  replace b1 := (g4.block _ (by have := blk_lt b1; simp; omega) (fun e => by injection e with e; rw [e] at b1; have h9 := a3; obtain ⟨D, ⟨es, cc, hb9, _⟩, _⟩ := h9; rw [hb9] at b1; cases b1)).trans (heap_keep (o := .cells #[.func (.func 100) #[.pointer (some ⟨gk, 0, none⟩)] #[]] 1) b1)
  replace b2 := (g4.block _ (by have := blk_lt b2; simp; omega) (fun e => by injection e with e; rw [e] at b2; have h9 := a3; obtain ⟨D, ⟨es, cc, hb9, _⟩, _⟩ := h9; rw [hb9] at b2; cases b2)).trans (heap_keep (o := .cells #[.func (.func 100) #[.pointer (some ⟨gk, 0, none⟩)] #[]] 1) b2)
  replace b3 := (g4.block _ (by have := blk_lt b3; simp; omega) (fun e => by injection e with e; rw [e] at b3; have h9 := a3; obtain ⟨D, ⟨es, cc, hb9, _⟩, _⟩ := h9; rw [hb9] at b3; cases b3)).trans (heap_keep (o := .cells #[.func (.func 100) #[.pointer (some ⟨gk, 0, none⟩)] #[]] 1) b3)
  have p5 := FnAt.below a4 (alloc_below W4 (.cells #[.func (.func 100) #[.pointer (some ⟨gk, 0, none⟩)] #[]] 1))
  obtain ⟨W5, r5, g5, a5⟩ := p5.put (t := 144) Tryz.underlying144 5 (.slice (some ⟨W4.heap.size, 0, none⟩) 1 1) (by decide) (by first | rfl | simp) (by simp)
  have b5 : W5.heap[W4.heap.size]? = some (.cells #[.func (.func 100) #[.pointer (some ⟨gk, 0, none⟩)] #[]] 1 (0, 0)) := (g5.block _ (by simp) (fun e => by injection e with e; have := a4.lt; omega)).trans (heap_alloc_new _ _)
  have q5 : Below W4.heap.size W4 W5 → True := fun _ => trivial
  have B50 : Below w2.heap.size w2 W5 := (B40.alloc B40.size _).grown g5 (by have := B40.size; simp; omega) (fun j hj => by injection hj with hj; omega)
  replace b1 := (g5.block _ (by have := blk_lt b1; simp; omega) (fun e => by injection e with e; rw [e] at b1; have h9 := a4; obtain ⟨D, ⟨es, cc, hb9, _⟩, _⟩ := h9; rw [hb9] at b1; cases b1)).trans (heap_keep (o := .cells #[.func (.func 100) #[.pointer (some ⟨gk, 0, none⟩)] #[]] 1) b1)
  replace b2 := (g5.block _ (by have := blk_lt b2; simp; omega) (fun e => by injection e with e; rw [e] at b2; have h9 := a4; obtain ⟨D, ⟨es, cc, hb9, _⟩, _⟩ := h9; rw [hb9] at b2; cases b2)).trans (heap_keep (o := .cells #[.func (.func 100) #[.pointer (some ⟨gk, 0, none⟩)] #[]] 1) b2)
  replace b3 := (g5.block _ (by have := blk_lt b3; simp; omega) (fun e => by injection e with e; rw [e] at b3; have h9 := a4; obtain ⟨D, ⟨es, cc, hb9, _⟩, _⟩ := h9; rw [hb9] at b3; cases b3)).trans (heap_keep (o := .cells #[.func (.func 100) #[.pointer (some ⟨gk, 0, none⟩)] #[]] 1) b3)
  replace b4 := (g5.block _ (by have := blk_lt b4; simp; omega) (fun e => by injection e with e; rw [e] at b4; have h9 := a4; obtain ⟨D, ⟨es, cc, hb9, _⟩, _⟩ := h9; rw [hb9] at b4; cases b4)).trans (heap_keep (o := .cells #[.func (.func 100) #[.pointer (some ⟨gk, 0, none⟩)] #[]] 1) b4)
  have p6 := FnAt.below a5 (alloc_below W5 (.cells #[.func (.func 102) #[.pointer (some ⟨gk, 0, none⟩)] #[]] 1))
  obtain ⟨W6, r6, g6, a6⟩ := p6.put (t := 144) Tryz.underlying144 6 (.slice (some ⟨W5.heap.size, 0, none⟩) 1 1) (by decide) (by first | rfl | simp) (by simp)
  have b6 : W6.heap[W5.heap.size]? = some (.cells #[.func (.func 102) #[.pointer (some ⟨gk, 0, none⟩)] #[]] 1 (0, 0)) := (g6.block _ (by simp) (fun e => by injection e with e; have := a5.lt; omega)).trans (heap_alloc_new _ _)
  have q6 : Below W5.heap.size W5 W6 → True := fun _ => trivial
  have B60 : Below w2.heap.size w2 W6 := (B50.alloc B50.size _).grown g6 (by have := B50.size; simp; omega) (fun j hj => by injection hj with hj; omega)
  replace b1 := (g6.block _ (by have := blk_lt b1; simp; omega) (fun e => by injection e with e; rw [e] at b1; have h9 := a5; obtain ⟨D, ⟨es, cc, hb9, _⟩, _⟩ := h9; rw [hb9] at b1; cases b1)).trans (heap_keep (o := .cells #[.func (.func 102) #[.pointer (some ⟨gk, 0, none⟩)] #[]] 1) b1)
  replace b2 := (g6.block _ (by have := blk_lt b2; simp; omega) (fun e => by injection e with e; rw [e] at b2; have h9 := a5; obtain ⟨D, ⟨es, cc, hb9, _⟩, _⟩ := h9; rw [hb9] at b2; cases b2)).trans (heap_keep (o := .cells #[.func (.func 102) #[.pointer (some ⟨gk, 0, none⟩)] #[]] 1) b2)
  replace b3 := (g6.block _ (by have := blk_lt b3; simp; omega) (fun e => by injection e with e; rw [e] at b3; have h9 := a5; obtain ⟨D, ⟨es, cc, hb9, _⟩, _⟩ := h9; rw [hb9] at b3; cases b3)).trans (heap_keep (o := .cells #[.func (.func 102) #[.pointer (some ⟨gk, 0, none⟩)] #[]] 1) b3)
  replace b4 := (g6.block _ (by have := blk_lt b4; simp; omega) (fun e => by injection e with e; rw [e] at b4; have h9 := a5; obtain ⟨D, ⟨es, cc, hb9, _⟩, _⟩ := h9; rw [hb9] at b4; cases b4)).trans (heap_keep (o := .cells #[.func (.func 102) #[.pointer (some ⟨gk, 0, none⟩)] #[]] 1) b4)
  replace b5 := (g6.block _ (by have := blk_lt b5; simp; omega) (fun e => by injection e with e; rw [e] at b5; have h9 := a5; obtain ⟨D, ⟨es, cc, hb9, _⟩, _⟩ := h9; rw [hb9] at b5; cases b5)).trans (heap_keep (o := .cells #[.func (.func 102) #[.pointer (some ⟨gk, 0, none⟩)] #[]] 1) b5)
  have p7 := FnAt.below a6 (alloc_below W6 (.cells #[.func (.func 99) #[.pointer (some ⟨gk, 0, none⟩)] #[]] 1))
  obtain ⟨W7, r7, g7, a7⟩ := p7.put (t := 144) Tryz.underlying144 7 (.slice (some ⟨W6.heap.size, 0, none⟩) 1 1) (by decide) (by first | rfl | simp) (by simp)
  have b7 : W7.heap[W6.heap.size]? = some (.cells #[.func (.func 99) #[.pointer (some ⟨gk, 0, none⟩)] #[]] 1 (0, 0)) := (g7.block _ (by simp) (fun e => by injection e with e; have := a6.lt; omega)).trans (heap_alloc_new _ _)
  have q7 : Below W6.heap.size W6 W7 → True := fun _ => trivial
  have B70 : Below w2.heap.size w2 W7 := (B60.alloc B60.size _).grown g7 (by have := B60.size; simp; omega) (fun j hj => by injection hj with hj; omega)
  replace b1 := (g7.block _ (by have := blk_lt b1; simp; omega) (fun e => by injection e with e; rw [e] at b1; have h9 := a6; obtain ⟨D, ⟨es, cc, hb9, _⟩, _⟩ := h9; rw [hb9] at b1; cases b1)).trans (heap_keep (o := .cells #[.func (.func 99) #[.pointer (some ⟨gk, 0, none⟩)] #[]] 1) b1)
  replace b2 := (g7.block _ (by have := blk_lt b2; simp; omega) (fun e => by injection e with e; rw [e] at b2; have h9 := a6; obtain ⟨D, ⟨es, cc, hb9, _⟩, _⟩ := h9; rw [hb9] at b2; cases b2)).trans (heap_keep (o := .cells #[.func (.func 99) #[.pointer (some ⟨gk, 0, none⟩)] #[]] 1) b2)
  replace b3 := (g7.block _ (by have := blk_lt b3; simp; omega) (fun e => by injection e with e; rw [e] at b3; have h9 := a6; obtain ⟨D, ⟨es, cc, hb9, _⟩, _⟩ := h9; rw [hb9] at b3; cases b3)).trans (heap_keep (o := .cells #[.func (.func 99) #[.pointer (some ⟨gk, 0, none⟩)] #[]] 1) b3)
  replace b4 := (g7.block _ (by have := blk_lt b4; simp; omega) (fun e => by injection e with e; rw [e] at b4; have h9 := a6; obtain ⟨D, ⟨es, cc, hb9, _⟩, _⟩ := h9; rw [hb9] at b4; cases b4)).trans (heap_keep (o := .cells #[.func (.func 99) #[.pointer (some ⟨gk, 0, none⟩)] #[]] 1) b4)
  replace b5 := (g7.block _ (by have := blk_lt b5; simp; omega) (fun e => by injection e with e; rw [e] at b5; have h9 := a6; obtain ⟨D, ⟨es, cc, hb9, _⟩, _⟩ := h9; rw [hb9] at b5; cases b5)).trans (heap_keep (o := .cells #[.func (.func 99) #[.pointer (some ⟨gk, 0, none⟩)] #[]] 1) b5)
  replace b6 := (g7.block _ (by have := blk_lt b6; simp; omega) (fun e => by injection e with e; rw [e] at b6; have h9 := a6; obtain ⟨D, ⟨es, cc, hb9, _⟩, _⟩ := h9; rw [hb9] at b6; cases b6)).trans (heap_keep (o := .cells #[.func (.func 99) #[.pointer (some ⟨gk, 0, none⟩)] #[]] 1) b6)
  have p8 := FnAt.below a7 (alloc_below W7 (.cells #[.func (.func 100) #[.pointer (some ⟨gk, 0, none⟩)] #[], .func (.func 103) #[.pointer (some ⟨gk, 0, none⟩)] #[], .func (.func 101) #[.pointer (some ⟨gk, 0, none⟩)] #[]] 1))
  obtain ⟨W8, r8, g8, a8⟩ := p8.put (t := 144) Tryz.underlying144 8 (.slice (some ⟨W7.heap.size, 0, none⟩) 3 3) (by decide) (by first | rfl | simp) (by simp)
  have b8 : W8.heap[W7.heap.size]? = some (.cells #[.func (.func 100) #[.pointer (some ⟨gk, 0, none⟩)] #[], .func (.func 103) #[.pointer (some ⟨gk, 0, none⟩)] #[], .func (.func 101) #[.pointer (some ⟨gk, 0, none⟩)] #[]] 1 (0, 0)) := (g8.block _ (by simp) (fun e => by injection e with e; have := a7.lt; omega)).trans (heap_alloc_new _ _)
  have q8 : Below W7.heap.size W7 W8 → True := fun _ => trivial
  have B80 : Below w2.heap.size w2 W8 := (B70.alloc B70.size _).grown g8 (by have := B70.size; simp; omega) (fun j hj => by injection hj with hj; omega)
  replace b1 := (g8.block _ (by have := blk_lt b1; simp; omega) (fun e => by injection e with e; rw [e] at b1; have h9 := a7; obtain ⟨D, ⟨es, cc, hb9, _⟩, _⟩ := h9; rw [hb9] at b1; cases b1)).trans (heap_keep (o := .cells #[.func (.func 100) #[.pointer (some ⟨gk, 0, none⟩)] #[], .func (.func 103) #[.pointer (some ⟨gk, 0, none⟩)] #[], .func (.func 101) #[.pointer (some ⟨gk, 0, none⟩)] #[]] 1) b1)
  replace b2 := (g8.block _ (by have := blk_lt b2; simp; omega) (fun e => by injection e with e; rw [e] at b2; have h9 := a7; obtain ⟨D, ⟨es, cc, hb9, _⟩, _⟩ := h9; rw [hb9] at b2; cases b2)).trans (heap_keep (o := .cells #[.func (.func 100) #[.pointer (some ⟨gk, 0, none⟩)] #[], .func (.func 103) #[.pointer (some ⟨gk, 0, none⟩)] #[], .func (.func 101) #[.pointer (some ⟨gk, 0, none⟩)] #[]] 1) b2)
  replace b3 := (g8.block _ (by have := blk_lt b3; simp; omega) (fun e => by injection e with e; rw [e] at b3; have h9 := a7; obtain ⟨D, ⟨es, cc, hb9, _⟩, _⟩ := h9; rw [hb9] at b3; cases b3)).trans (heap_keep (o := .cells #[.func (.func 100) #[.pointer (some ⟨gk, 0, none⟩)] #[], .func (.func 103) #[.pointer (some ⟨gk, 0, none⟩)] #[], .func (.func 101) #[.pointer (some ⟨gk, 0, none⟩)] #[]] 1) b3)
  replace b4 := (g8.block _ (by have := blk_lt b4; simp; omega) (fun e => by injection e with e; rw [e] at b4; have h9 := a7; obtain ⟨D, ⟨es, cc, hb9, _⟩, _⟩ := h9; rw [hb9] at b4; cases b4)).trans (heap_keep (o := .cells #[.func (.func 100) #[.pointer (some ⟨gk, 0, none⟩)] #[], .func (.func 103) #[.pointer (some ⟨gk, 0, none⟩)] #[], .func (.func 101) #[.pointer (some ⟨gk, 0, none⟩)] #[]] 1) b4)
  replace b5 := (g8.block _ (by have := blk_lt b5; simp; omega) (fun e => by injection e with e; rw [e] at b5; have h9 := a7; obtain ⟨D, ⟨es, cc, hb9, _⟩, _⟩ := h9; rw [hb9] at b5; cases b5)).trans (heap_keep (o := .cells #[.func (.func 100) #[.pointer (some ⟨gk, 0, none⟩)] #[], .func (.func 103) #[.pointer (some ⟨gk, 0, none⟩)] #[], .func (.func 101) #[.pointer (some ⟨gk, 0, none⟩)] #[]] 1) b5)
  replace b6 := (g8.block _ (by have := blk_lt b6; simp; omega) (fun e => by injection e with e; rw [e] at b6; have h9 := a7; obtain ⟨D, ⟨es, cc, hb9, _⟩, _⟩ := h9; rw [hb9] at b6; cases b6)).trans (heap_keep (o := .cells #[.func (.func 100) #[.pointer (some ⟨gk, 0, none⟩)] #[], .func (.func 103) #[.pointer (some ⟨gk, 0, none⟩)] #[], .func (.func 101) #[.pointer (some ⟨gk, 0, none⟩)] #[]] 1) b6)
  replace b7 := (g8.block _ (by have := blk_lt b7; simp; omega) (fun e => by injection e with e; rw [e] at b7; have h9 := a7; obtain ⟨D, ⟨es, cc, hb9, _⟩, _⟩ := h9; rw [hb9] at b7; cases b7)).trans (heap_keep (o := .cells #[.func (.func 100) #[.pointer (some ⟨gk, 0, none⟩)] #[], .func (.func 103) #[.pointer (some ⟨gk, 0, none⟩)] #[], .func (.func 101) #[.pointer (some ⟨gk, 0, none⟩)] #[]] 1) b7)
  have hz : (zeroValue 142).run Tryz.prog W8 = .ok (.slice none 0 0) W8 := by kernel_rfl
  have hmk : (Instr.makeMap 144 none).run Tryz.prog w2 = .ok (.map (some w2.heap.size)) W0 := by rw [hW0]; exact hmm _ _
  have l1 := Lib.hid (a8.look (t := 144) Tryz.underlying144 hz (k := 1) (by decide) (by first | rfl | simp))
  have m1 : (Instr.mapUpdate 144 (.map (some w2.heap.size)) (.int .u8 1) (.slice (some ⟨W0.heap.size, 0, none⟩) 3 3)).run Tryz.prog (W0.alloc (.cells #[.func (.func 97) #[.pointer (some ⟨gk, 0, none⟩)] #[], .func (.func 98) #[.pointer (some ⟨gk, 0, none⟩)] #[], .func (.func 99) #[.pointer (some ⟨gk, 0, none⟩)] #[]] 1)) = .ok () W1 := r1
  have P1 : Hid (PartsAt W8 gk (.slice (some ⟨W0.heap.size, 0, none⟩) 3 3) (partsOf 1)) := ⟨some ⟨W0.heap.size, 0, none⟩, rfl, fun _ => ⟨W0.heap.size, rfl, blk_lt b1, fun j hj => by
    have hj2 : j < 3 := hj
    rw [blk_cell b1]
    rcases j with _ | _ | _ | j
    all_goals first | rfl | omega⟩⟩
  have l2 := Lib.hid (a8.look (t := 144) Tryz.underlying144 hz (k := 2) (by decide) (by first | rfl | simp))
  have m2 : (Instr.mapUpdate 144 (.map (some w2.heap.size)) (.int .u8 2) (.slice (some ⟨W1.heap.size, 0, none⟩) 2 2)).run Tryz.prog (W1.alloc (.cells #[.func (.func 100) #[.pointer (some ⟨gk, 0, none⟩)] #[], .func (.func 101) #[.pointer (some ⟨gk, 0, none⟩)] #[]] 1)) = .ok () W2 := r2
  have P2 : Hid (PartsAt W8 gk (.slice (some ⟨W1.heap.size, 0, none⟩) 2 2) (partsOf 2)) := ⟨some ⟨W1.heap.size, 0, none⟩, rfl, fun _ => ⟨W1.heap.size, rfl, blk_lt b2, fun j hj => by
    have hj2 : j < 2 := hj
    rw [blk_cell b2]
    rcases j with _ | _ | _ | j
    all_goals first | rfl | omega⟩⟩
  have l3 := Lib.hid (a8.look (t := 144) Tryz.underlying144 hz (k := 3) (by decide) (by first | rfl | simp))
  have m3 : (Instr.mapUpdate 144 (.map (some w2.heap.size)) (.int .u8 3) (.slice (some ⟨W2.heap.size, 0, none⟩) 2 2)).run Tryz.prog (W2.alloc (.cells #[.func (.func 100) #[.pointer (some ⟨gk, 0, none⟩)] #[], .func (.func 101) #[.pointer (some ⟨gk, 0, none⟩)] #[]] 1)) = .ok () W3 := r3
  have P3 : Hid (PartsAt W8 gk (.slice (some ⟨W2.heap.size, 0, none⟩) 2 2) (partsOf 3)) := ⟨some ⟨W2.heap.size, 0, none⟩, rfl, fun _ => ⟨W2.heap.size, rfl, blk_lt b3, fun j hj => by
    have hj2 : j < 2 := hj
    rw [blk_cell b3]
    rcases j with _ | _ | _ | j
    all_goals first | rfl | omega⟩⟩
  have l4 := Lib.hid (a8.look (t := 144) Tryz.underlying144 hz (k := 4) (by decide) (by first | rfl | simp))
  have m4 : (Instr.mapUpdate 144 (.map (some w2.heap.size)) (.int .u8 4) (.slice (some ⟨W3.heap.size, 0, none⟩) 1 1)).run Tryz.prog (W3.alloc (.cells #[.func (.func 100) #[.pointer (some ⟨gk, 0, none⟩)] #[]] 1)) = .ok () W4 := r4
  have P4 : Hid (PartsAt W8 gk (.slice (some ⟨W3.heap.size, 0, none⟩) 1 1) (partsOf 4)) := ⟨some ⟨W3.heap.size, 0, none⟩, rfl, fun _ => ⟨W3.heap.size, rfl, blk_lt b4, fun j hj => by
    have hj2 : j < 1 := hj
    rw [blk_cell b4]
    rcases j with _ | _ | _ | j
    all_goals first | rfl | omega⟩⟩
  have l5 := Lib.hid (a8.look (t := 144) Tryz.underlying144 hz (k := 5) (by decide) (by first | rfl | simp))
  have m5 : (Instr.mapUpdate 144 (.map (some w2.heap.size)) (.int .u8 5) (.slice (some ⟨W4.heap.size, 0, none⟩) 1 1)).run Tryz.prog (W4.alloc (.cells #[.func (.func 100) #[.pointer (some ⟨gk, 0, none⟩)] #[]] 1)) = .ok () W5 := r5
  have P5 : Hid (PartsAt W8 gk (.slice (some ⟨W4.heap.size, 0, none⟩) 1 1) (partsOf 5)) := ⟨some ⟨W4.heap.size, 0, none⟩, rfl, fun _ => ⟨W4.heap.size, rfl, blk_lt b5, fun j hj => by
    have hj2 : j < 1 := hj
    rw [blk_cell b5]
    rcases j with _ | _ | _ | j
    all_goals first | rfl | omega⟩⟩
  have l6 := Lib.hid (a8.look (t := 144) Tryz.underlying144 hz (k := 6) (by decide) (by first | rfl | simp))
  have m6 : (Instr.mapUpdate 144 (.map (some w2.heap.size)) (.int .u8 6) (.slice (some ⟨W5.heap.size, 0, none⟩) 1 1)).run Tryz.prog (W5.alloc (.cells #[.func (.func 102) #[.pointer (some ⟨gk, 0, none⟩)] #[]] 1)) = .ok () W6 := r6
  have P6 : Hid (PartsAt W8 gk (.slice (some ⟨W5.heap.size, 0, none⟩) 1 1) (partsOf 6)) := ⟨some ⟨W5.heap.size, 0, none⟩, rfl, fun _ => ⟨W5.heap.size, rfl, blk_lt b6, fun j hj => by
    have hj2 : j < 1 := hj
    rw [blk_cell b6]
    rcases j with _ | _ | _ | j
    all_goals first | rfl | omega⟩⟩
  have l7 := Lib.hid (a8.look (t := 144) Tryz.underlying144 hz (k := 7) (by decide) (by first | rfl | simp))
  have m7 : (Instr.mapUpdate 144 (.map (some w2.heap.size)) (.int .u8 7) (.slice (some ⟨W6.heap.size, 0, none⟩) 1 1)).run Tryz.prog (W6.alloc (.cells #[.func (.func 99) #[.pointer (some ⟨gk, 0, none⟩)] #[]] 1)) = .ok () W7 := r7
  have P7 : Hid (PartsAt W8 gk (.slice (some ⟨W6.heap.size, 0, none⟩) 1 1) (partsOf 7)) := ⟨some ⟨W6.heap.size, 0, none⟩, rfl, fun _ => ⟨W6.heap.size, rfl, blk_lt b7, fun j hj => by
    have hj2 : j < 1 := hj
    rw [blk_cell b7]
    rcases j with _ | _ | _ | j
    all_goals first | rfl | omega⟩⟩
  have l8 := Lib.hid (a8.look (t := 144) Tryz.underlying144 hz (k := 8) (by decide) (by first | rfl | simp))
  have m8 : (Instr.mapUpdate 144 (.map (some w2.heap.size)) (.int .u8 8) (.slice (some ⟨W7.heap.size, 0, none⟩) 3 3)).run Tryz.prog (W7.alloc (.cells #[.func (.func 100) #[.pointer (some ⟨gk, 0, none⟩)] #[], .func (.func 103) #[.pointer (some ⟨gk, 0, none⟩)] #[], .func (.func 101) #[.pointer (some ⟨gk, 0, none⟩)] #[]] 1)) = .ok () W8 := r8
  have P8 : Hid (PartsAt W8 gk (.slice (some ⟨W7.heap.size, 0, none⟩) 3 3) (partsOf 8)) := ⟨some ⟨W7.heap.size, 0, none⟩, rfl, fun _ => ⟨W7.heap.size, rfl, blk_lt b8, fun j hj => by
    have hj2 : j < 3 := hj
    rw [blk_cell b8]
    rcases j with _ | _ | _ | j
    all_goals first | rfl | omega⟩⟩
  have lN := Lib.hid fun (j : Nat) (hj : j < 256) (h : List.lookup j _ = none) => a8.lookN (t := 144) Tryz.underlying144 hz (k := j) hj h
  have HB8 := Lib.hid B80
  have hz8 : w2.heap.size ≤ W8.heap.size := B80.size
  have o0 : W8.cell? ⟨go, 0, none⟩ = some (.int .u8 c2.o.kind) := by rw [blk_cell ((B80.block _ gl2).trans O2.out)]; rfl
  have k8 : W8.cell? ⟨gk, 0, none⟩ = some (.pointer (some ⟨go, 0, none⟩)) := keep_cell B80 k2
  clear hmm hW0 hz r1 g1 a1 p1 b1 q1 B10 r2 g2 a2 p2 b2 q2 B20 r3 g3 a3 p3 b3 q3 B30 r4 g4 a4 p4 b4 q4 B40 r5 g5 a5 p5 b5 q5 B50 r6 g6 a6 p6 b6 q6 B60 r7 g7 a7 p7 b7 q7 B70 r8 g8 a8 p8 b8 q8 B80 a0 B0
  go_upto_region 2 with fail
  go_cut [2, 3] (fun s2 s3 w' => ∃ S, s2 = S ∧ s3 = .bool (decide (1 ≤ c2.o.kind ∧ c2.o.kind ≤ 8)) ∧ Hid (PartsAt w' gk S (partsOf c2.o.kind)) ∧ Hid (Below w2.heap.size w2 w'))
  case first =>
    have hkk : c2.o.kind = 1 ∨ c2.o.kind = 2 ∨ c2.o.kind = 3 ∨ c2.o.kind = 4 ∨ c2.o.kind = 5 ∨ c2.o.kind = 6 ∨ c2.o.kind = 7 ∨ c2.o.kind = 8 ∨ ¬ (1 ≤ c2.o.kind ∧ c2.o.kind ≤ 8) := by omega
    rcases hkk with hq | hq | hq | hq | hq | hq | hq | hq | hq
    · rw [hq] at o0
      have HQ := Lib.hid hq
      have nk : (Instr.lookup 144 (.map (some w2.heap.size)) (.int .u8 1) true).run Tryz.prog W8 = .ok (.tuple #[(.slice (some ⟨W0.heap.size, 0, none⟩) 3 3), .bool true]) W8 := l1.out
      clear hq
      go_wp2_with fail
      go_meet
      exact ⟨_, rfl, by rw [HQ.out]; rfl, by rw [HQ.out]; exact P1, HB8⟩
    · rw [hq] at o0
      have HQ := Lib.hid hq
      have nk : (Instr.lookup 144 (.map (some w2.heap.size)) (.int .u8 2) true).run Tryz.prog W8 = .ok (.tuple #[(.slice (some ⟨W1.heap.size, 0, none⟩) 2 2), .bool true]) W8 := l2.out
      clear hq
      go_wp2_with fail
      go_meet
      exact ⟨_, rfl, by rw [HQ.out]; rfl, by rw [HQ.out]; exact P2, HB8⟩
    · rw [hq] at o0
      have HQ := Lib.hid hq
      have nk : (Instr.lookup 144 (.map (some w2.heap.size)) (.int .u8 3) true).run Tryz.prog W8 = .ok (.tuple #[(.slice (some ⟨W2.heap.size, 0, none⟩) 2 2), .bool true]) W8 := l3.out
      clear hq
      go_wp2_with fail
      go_meet
      exact ⟨_, rfl, by rw [HQ.out]; rfl, by rw [HQ.out]; exact P3, HB8⟩
    · rw [hq] at o0
      have HQ := Lib.hid hq
      have nk : (Instr.lookup 144 (.map (some w2.heap.size)) (.int .u8 4) true).run Tryz.prog W8 = .ok (.tuple #[(.slice (some ⟨W3.heap.size, 0, none⟩) 1 1), .bool true]) W8 := l4.out
      clear hq
      go_wp2_with fail
      go_meet
      exact ⟨_, rfl, by rw [HQ.out]; rfl, by rw [HQ.out]; exact P4, HB8⟩
    · rw [hq] at o0
      have HQ := Lib.hid hq
      have nk : (Instr.lookup 144 (.map (some w2.heap.size)) (.int .u8 5) true).run Tryz.prog W8 = .ok (.tuple #[(.slice (some ⟨W4.heap.size, 0, none⟩) 1 1), .bool true]) W8 := l5.out
      clear hq
      go_wp2_with fail
      go_meet
      exact ⟨_, rfl, by rw [HQ.out]; rfl, by rw [HQ.out]; exact P5, HB8⟩
    · rw [hq] at o0
      have HQ := Lib.hid hq
      have nk : (Instr.lookup 144 (.map (some w2.heap.size)) (.int .u8 6) true).run Tryz.prog W8 = .ok (.tuple #[(.slice (some ⟨W5.heap.size, 0, none⟩) 1 1), .bool true]) W8 := l6.out
      clear hq
      go_wp2_with fail
      go_meet
      exact ⟨_, rfl, by rw [HQ.out]; rfl, by rw [HQ.out]; exact P6, HB8⟩
    · rw [hq] at o0
      have HQ := Lib.hid hq
      have nk : (Instr.lookup 144 (.map (some w2.heap.size)) (.int .u8 7) true).run Tryz.prog W8 = .ok (.tuple #[(.slice (some ⟨W6.heap.size, 0, none⟩) 1 1), .bool true]) W8 := l7.out
      clear hq
      go_wp2_with fail
      go_meet
      exact ⟨_, rfl, by rw [HQ.out]; rfl, by rw [HQ.out]; exact P7, HB8⟩
    · rw [hq] at o0
      have HQ := Lib.hid hq
      have nk : (Instr.lookup 144 (.map (some w2.heap.size)) (.int .u8 8) true).run Tryz.prog W8 = .ok (.tuple #[(.slice (some ⟨W7.heap.size, 0, none⟩) 3 3), .bool true]) W8 := l8.out
      clear hq
      go_wp2_with fail
      go_meet
      exact ⟨_, rfl, by rw [HQ.out]; rfl, by rw [HQ.out]; exact P8, HB8⟩
    · have e1 : (c2.o.kind == 1) = false := by simp; omega
      have e2 : (c2.o.kind == 2) = false := by simp; omega
      have e3 : (c2.o.kind == 3) = false := by simp; omega
      have e4 : (c2.o.kind == 4) = false := by simp; omega
      have e5 : (c2.o.kind == 5) = false := by simp; omega
      have e6 : (c2.o.kind == 6) = false := by simp; omega
      have e7 : (c2.o.kind == 7) = false := by simp; omega
      have e8 : (c2.o.kind == 8) = false := by simp; omega
      have nk : (Instr.lookup 144 (.map (some w2.heap.size)) (.int .u8 (c2.o.kind : Nat)) true).run Tryz.prog W8 = .ok (.tuple #[.slice none 0 0, .bool false]) W8 := lN.out _ hkd (by simp [List.lookup, e1, e2, e3, e4, e5, e6, e7, e8])
      have hpn : partsOf c2.o.kind = [] := by
        unfold partsOf
        split <;> first | rfl | omega
      have HPN := Lib.hid hpn
      have HQ := Lib.hid hq
      clear hpn hq e1 e2 e3 e4 e5 e6 e7 e8
      go_wp2_with fail
      go_meet
      exact ⟨_, rfl, by rw [decide_eq_false HQ.out], by rw [HPN.out]; exact Lib.hid ⟨none, rfl, fun h => absurd h (Nat.lt_irrefl 0)⟩, HB8⟩
  case rest =>
    obtain ⟨S0, hS, rfl, PP, BB⟩ := hcut
    have K3 := Lib.hid (K2.out.below BB.out)
    have O3 := Lib.hid ((BB.out.block _ gl2).trans O2.out)
    have R3 := Lib.hid (own_below R2.out BB.out)
    have B3 := Lib.hid (B2.out.trans (BB.out.mono hm2))
    have hm3 : m ≤ wc.heap.size := Nat.le_trans hm2 BB.out.size
    obtain ⟨ps, hps⟩ : ∃ ps, ps = partsOf c2.o.kind := ⟨_, rfl⟩
    rw [← hps] at PP
    obtain ⟨n, hn⟩ : ∃ n, n = ps.length := ⟨_, rfl⟩
    obtain ⟨A, hSA, _⟩ := PP.out
    rw [← hn] at hSA
    subst hSA
    subst hS
    have HN := Lib.hid hn
    clear hn
    obtain ⟨isb, hisb⟩ : ∃ b, b = decide (1 ≤ c2.o.kind ∧ c2.o.kind ≤ 8) := ⟨_, rfl⟩
    rw [← hisb]
    have FIN : Hid (∀ X : Bool, X = (c2.bad || !isb || decide (c2.o.page < 1)) → CAt (wc.setCell ⟨gk, 4, none⟩ (.bool X)) m gk go c.head ∧ Below m w (wc.setCell ⟨gk, 4, none⟩ (.bool X)) ∧ PartsAt (wc.setCell ⟨gk, 4, none⟩ (.bool X)) gk (.slice A n n) ps ∧ m ≤ (wc.setCell ⟨gk, 4, none⟩ (.bool X)).heap.size) := by
      show ∀ X : Bool, _
      intro X hX
      have hp2 := PP.out.kept (sv := sv) K3.out O3.out (one_kept2 wc gk go 4 (.bool X))
      refine ⟨?_, (B3.out).setCell (p := ⟨gk, 4, none⟩) h1 (.bool X), hp2, by simpa using hm3⟩
      rw [HH.out]
      rw [hisb] at hX
      refine ⟨?_, hgg, h1, h2, sv, set_keep O3.out (fun e => hgg e.symm), own_set_far R3.out (fun q hq => (HD.out q hq).1), HD.out⟩
      rw [hX]
      exact KAt.put_b K3.out _
    have HPS := Lib.hid hps
    obtain ⟨q0, q1, q2, q3, q4, q5⟩ := K3.out.cells
    have qf := K3.out.fr 4
    have o1 : wc.cell? ⟨go, 1, none⟩ = some (.int .u32 c2.o.page) := by rw [blk_cell O3.out]; rfl
    clear hps hisb m1 m2 m3 m4 m5 m6 m7 m8 l1 l2 l3 l4 l5 l6 l7 l8 lN o0 k8 hmk
    go_upto_region 3 with fail
    go_cut [2] (fun s2 w' => s2 = .slice A n n ∧ Hid (CAt w' m gk go c.head) ∧ Hid (Below m w w') ∧ Hid (PartsAt w' gk (.slice A n n) ps) ∧ m ≤ w'.heap.size)
    case first =>
      cases hb : c2.bad with
      | true =>
        rw [hb] at q5
        have hf := FIN.out true (by rw [hb]; rfl)
        have HF := Lib.hid hf
        clear hf
        go_wp2_with fail
        go_meet
        exact ⟨rfl, Lib.hid HF.out.1, Lib.hid HF.out.2.1, Lib.hid HF.out.2.2.1, HF.out.2.2.2⟩
      | false =>
        rw [hb] at q5
        cases isb with
        | false =>
          have hf := FIN.out true (by rw [hb]; rfl)
          have HF := Lib.hid hf
          clear hf
          go_wp2_with fail
          go_meet
          exact ⟨rfl, Lib.hid HF.out.1, Lib.hid HF.out.2.1, Lib.hid HF.out.2.2.1, HF.out.2.2.2⟩
        | true =>
          have hf := FIN.out (decide (c2.o.page < 1)) (by rw [hb]; simp)
          have HF := Lib.hid hf
          clear hf
          obtain ⟨pb, hpb⟩ : ∃ b, b = decide (c2.o.page < 1) := ⟨_, rfl⟩
          rw [← hpb] at HF
          have hpb2 : decide ((c2.o.page : Int) < 1) = pb := by rw [hpb]; exact decide_eq_decide.2 (by omega)
          have hpb3 : decide (c2.o.page < 1) = pb := hpb.symm
          clear hpb
          cases hq9 : pb
          all_goals
            rw [hq9] at HF hpb2 hpb3
            have hpg : c2.o.page < 1 ∨ 1 ≤ c2.o.page := by omega
            go_wp2_with fail
            go_meet
            exact ⟨rfl, Lib.hid HF.out.1, Lib.hid HF.out.2.1, Lib.hid HF.out.2.2.1, HF.out.2.2.2⟩
    case rest =>
      obtain ⟨rfl, CC, BBB, PPP, hmm9⟩ := hcut
      have hps9 := HPS.out
      subst hps9
      have hst : Hid (OpNow w wc m gk go (partsOf c2.o.kind) c.head 0) := Lib.hid ⟨CC.out, BBB.out, Nat.zero_le _, hmm9⟩
      have hkd2 : c.head.o.kind = c2.o.kind := by rw [HH.out]
      have hop : Hid (c.op = (partsOf c2.o.kind).foldl (fun c p => p.run c) c.head) := by
        show (partsOf c.head.o.kind).foldl (fun c p => p.run c) c.head = _
        rw [hkd2]
      have hr9 : Hid (c.head.rd = true → c.head.o.rows = []) := fun h => by
        rw [HHO.out.2.1]
        exact HR0.out (by rw [← HHO.out.2.2]; exact h)
      have hn3 : n ≤ 3 := by
        rw [HN.out]
        unfold partsOf
        split <;> simp
      have hh9 := Lib.hid HHO.out.1
      generalize c.head = h0 at *
      generalize c2.o.kind = kd at *
      clear CC BBB hkd2 HH HPS FIN HHO HR0 K3 O3 R3 B3 q0 q1 q2 q3 q4 q5 qf o1 PP
      go_wp2_with fail
      go_loopw [94] (fun s94 wr => ∃ i : Nat, s94 = .int .i64 i ∧ i ≤ n ∧ Hid (OpNow w wr m gk go (partsOf kd) h0 i) ∧ Hid (i < n → PartsAt wr gk (.slice A n n) (partsOf kd))) (fun v _ => n - (intOf v).toNat)
      case atStart => exact ⟨0, rfl, Nat.zero_le _, hst, Lib.hid (fun _ => PPP.out)⟩
      case round =>
        obtain ⟨i, rfl, hin, hNow, hPs⟩ := hrel
        by_cases hc : i < n
        · have hci : (i : Int) < (n : Int) := by omega
          have hi0 : (0 : Int) ≤ (i : Int) := by omega
          have hil : i < (partsOf kd).length := by rw [← HN.out]; exact hc
          have hfine := parts_fine hh9.out i hil hr9.out
          have hPn := hPs.out hc
          obtain ⟨A', hA', hcell⟩ := hPn
          obtain ⟨b, hAb, hbl, hc9⟩ := hcell (by omega)
          injection hA' with hA1 hA2 hA3
          clear hA2 hA3
          rw [hAb] at hA1
          subst hA1
          clear hAb
          have d0 : wr.cell? ⟨b, i, none⟩ = some (.func (.func (fnOf (partsOf kd)[i])) #[.pointer (some ⟨gk, 0, none⟩)] #[]) := hc9 i hil
          have PA := Lib.hid (part_any (partsOf kd)[i] wr m gk go _ hNow.out.at_ hNow.out.size hfine.1 hfine.2)
          have NX := Lib.hid fun w9 h1 h2 => hNow.out.next (w2 := w9) hil h1 h2
          have KP : Hid (∀ w9, ((partsOf kd)[i] ≠ .rows → OthersKept wr w9 (fun k => k = gk ∨ k = go)) → i + 1 < n → PartsAt w9 gk (.slice (some ⟨b, 0, none⟩) n n) (partsOf kd)) := by
            show ∀ w9, _
            intro w9 h3 h4
            obtain ⟨hk9, _, _, _, sv9, ho9, _⟩ := hNow.out.at_
            exact (hPs.out hc).kept hk9 ho9 (h3 (fun e => by have := rows_last hil e; have := HN.out; omega))
          generalize (partsOf kd)[i] = p at *
          generalize ((partsOf kd).take i).foldl (fun c p => p.run c) h0 = ci at *
          clear hcell hc9 hfine hPs hNow
          clear hmf hz8 gl2 k2 kl2 gl1 kl1 gl kl hrows2
          cases p
          all_goals
            simp only [fnOf] at d0 PA
            go_wp2_with fail
            refine PA.out.mono ?_
            rintro e w9 ⟨⟨rfl, hC, hB⟩, hK⟩
            have N9 := Lib.hid (NX.out w9 hC hB)
            have P9 := Lib.hid (KP.out w9 hK)
            clear hC hB hK
            go_wp2_with fail
            go_roundw
            case rel => exact ⟨i + 1, by go_num, by omega, N9, P9⟩
            case measure => simp [intOf]; exact Nat.sub_lt_sub_left hc (Nat.lt_succ_self i)
        · have hci : ¬ (i : Int) < (n : Int) := by omega
          have hin2 : i = n := by omega
          have hA9 := hNow.out.at_
          rw [hin2, HN.out, List.take_length, ← hop.out] at hA9
          have HA9 := Lib.hid hA9
          clear hA9 hin2
          go_wp2_with fail
          (try simp only [Exit.inBlock, Exit.then])
          refine bodyPost_end (results_none rfl _ _ _) rfl ?_
          exact ⟨rfl, HA9.out, hNow.out.below⟩
end Go.Proofs.YtienlhnbmobinaaGreat
end
