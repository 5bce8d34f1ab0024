/- Kept of our texts for this claim: OpDoesMap -/
import Derived.Test.YtienlhnbmobinaaGreatRows
import Derived.Test.YtienlhnbmobinaaGreatAdAw
import Derived.Test.YtienlhnbmobinaaGreatAdAp
import Derived.Test.YtienlhnbmobinaaGreatAdAk
import Derived.Test.YtienlhnbmobinaaGreatAdAl
import Derived.Test.YtienlhnbmobinaaGreatAdAc
import Derived.Test.YtienlhnbmobinaaGreatAdAa
import Derived.Test.YtienlhnbmobinaaGreatAdAb
import Derived.Deep.CutBlock
import Derived.Maps.RangeWalk
import Derived.Maps.OwnSet
import Derived.WalkKit
import Derived.WalkLawsBesides
import Derived.WalkSpells
import Derived.LoopTactic
import Derived.WalkMore
import Derived.LoopN
import Derived.Laws.BitsAllLaws
import Derived.Laws.IdiomStrings
import Derived.BigQuiet
import Derived.Deep.QuietTactic
import Derived.Deep.DeepCutAuto
import Derived.Deep.RegionHeld3
import Derived.Deep.DrawnRows
import Derived.Lib.Hide
import Derived.Outline
import Derived.Deep.DeepMust
import Derived.Handy
section
/- op: does, and rows' closures -/
namespace Go.Proofs.YtienlhnbmobinaaGreat
open Go.RowKit
set_option linter.unusedVariables false
set_option linter.unusedSimpArgs false
set_option maxRecDepth 100000 in
theorem FnAt.look1 {w : World} {m : Nat} {L : List (Nat × Value)} (h : FnAt w m L) {t e : TypeId} (ht : Tryz.prog.underlying t = some (.map 5 e)) {z : Value} (hz : (zeroValue e).run Tryz.prog w = .ok z w) {k : Nat} {x : Value} (hk : k < 256) (he : L.lookup k = some x) :
    (Instr.lookup t (.map (some m)) (.int .u8 (k : Nat)) false).run Tryz.prog w = .ok x w := by
  obtain ⟨D, ho, hD⟩ := h
  obtain ⟨v, ps, hrun, hv⟩ := ho.lookup u8_keyed ht hz (zd := .held z) (zp := []) rfl (u8_keyOf hk)
  rw [hrun]
  rw [hD.val k x he] at hv
  injection hv with hv
  injection hv with hv _
  injection hv with hv
  rw [hv]
/-- Which function does an op; the box that a row's closure has. -/
def doesL (b3 b4 b8 : Nat) : List (Nat × Value) :=
  [(8, .func (.func 60) #[] #[.pointer (some ⟨b8, 0, none⟩)]), (7, .func (.func 69) #[] #[]), (6, .func (.func 68) #[] #[]), (5, .func (.func 67) #[] #[]), (4, .func (.func 60) #[] #[.pointer (some ⟨b4, 0, none⟩)]), (3, .func (.func 60) #[] #[.pointer (some ⟨b3, 0, none⟩)]), (2, .func (.func 62) #[] #[]), (1, .func (.func 61) #[] #[])]
def FBox (w : World) (b fn : Nat) : Prop := w.heap[b]? = some (.cells #[.func (.func fn) #[] #[]] 76 (0, 0))
/-- What does answers: the map, and the boxes. -/
def DoesAt (w : World) (m b3 b4 b8 : Nat) : Prop := FnAt w m (doesL b3 b4 b8) ∧ FBox w b3 64 ∧ FBox w b4 65 ∧ FBox w b8 70
theorem DoesAt.below {w w' : World} {m b3 b4 b8 : Nat} (h : DoesAt w m b3 b4 b8) (hb : Below w.heap.size w w') : DoesAt w' m b3 b4 b8 :=
  ⟨h.1.below hb, (hb.block _ (blk_lt h.2.1)).trans h.2.1, (hb.block _ (blk_lt h.2.2.1)).trans h.2.2.1, (hb.block _ (blk_lt h.2.2.2)).trans h.2.2.2⟩
set_option maxHeartbeats 2000000 in
set_option maxRecDepth 100000 in
theorem does1_any (fn : Fn) (w : World) :
    Calls Tryz.prog 59 #[.func fn #[] #[]] w fun e w' => e = .returned (.func (.func 60) #[] #[.pointer (some ⟨w.heap.size, 0, none⟩)]) ∧ w' = w.alloc (.cells #[.func fn #[] #[]] 76) := by
  have hmf := fnMade
  go_enter Tryz.func59, Tryz.ntmps59
  go_wp2_with fail
  go_ret
  exact ⟨rfl, rfl⟩
theorem fn_blk {w w' : World} {m g : Nat} {L : List (Nat × Value)} {o : Obj} (h : FnAt w m L) (hg : w.grownBy w' (some m)) (hb : w.heap[g]? = some o) (ho : ∀ es c, o ≠ .map es c) : w'.heap[g]? = some o := by
  refine (hg.block g (blk_lt hb) (fun e => ?_)).trans hb
  injection e with e
  obtain ⟨D, ⟨es, c, hbk, _⟩, _⟩ := h
  rw [e, hbk] at hb
  injection hb with hb
  exact ho _ _ hb.symm
set_option maxHeartbeats 4000000 in
set_option maxRecDepth 100000 in
theorem does_any (w : World) :
    Calls Tryz.prog 36 #[] w fun e w' => ∃ m b3 b4 b8, e = .returned (.map (some m)) ∧ DoesAt w' m b3 b4 b8 ∧ Below w.heap.size w w' := by
  have D1 := Lib.hid fun fn W => does1_any fn W
  have hmm := @run_makeMap Tryz.prog
  obtain ⟨W0, hW0⟩ : ∃ W0, W0 = w.alloc (.map #[] 0) := ⟨_, rfl⟩
  have a0 : FnAt W0 w.heap.size [] := by rw [hW0]; exact FnAt.new _
  have B0 : Below w.heap.size w W0 := by rw [hW0]; exact alloc_below w _
  obtain ⟨W1, r1, g1, a1⟩ := a0.put (t := 77) Tryz.underlying77 1 (.func (.func 61) #[] #[]) (by decide) (by first | rfl | simp) (by simp)
  have B1 : Below w.heap.size w W1 := B0.grown g1 B0.size (fun j hj => by injection hj with hj; omega)
  obtain ⟨W2, r2, g2, a2⟩ := a1.put (t := 77) Tryz.underlying77 2 (.func (.func 62) #[] #[]) (by decide) (by first | rfl | simp) (by simp)
  have B2 : Below w.heap.size w W2 := B1.grown g2 B1.size (fun j hj => by injection hj with hj; omega)
  obtain ⟨V2, hV2⟩ : ∃ V, V = W2.alloc (.cells #[.func (.func 64) #[] #[]] 76) := ⟨_, rfl⟩
  have c3 : FBox V2 W2.heap.size 64 := by rw [hV2]; exact heap_alloc_new _ _
  obtain ⟨W3, r3, g3, a3⟩ := (show FnAt V2 _ _ by rw [hV2]; exact a2.below (alloc_below _ _)).put (t := 77) Tryz.underlying77 3 (.func (.func 60) #[] #[.pointer (some ⟨W2.heap.size, 0, none⟩)]) (by decide) (by first | rfl | simp) (by simp)
  have B2' : Below w.heap.size w V2 := by rw [hV2]; exact B2.alloc B2.size _
  have B3 : Below w.heap.size w W3 := B2'.grown g3 B2'.size (fun j hj => by injection hj with hj; omega)
  have d3 : FBox W3 W2.heap.size 64 := fn_blk (show FnAt V2 _ _ by rw [hV2]; exact a2.below (alloc_below _ _)) g3 c3 (fun _ _ h => by cases h)
  obtain ⟨V3, hV3⟩ : ∃ V, V = W3.alloc (.cells #[.func (.func 65) #[] #[]] 76) := ⟨_, rfl⟩
  have a3' := FnAt.below a3 (show Below W3.heap.size W3 V3 by rw [hV3]; exact alloc_below _ _)
  have c4 : FBox V3 W3.heap.size 65 := by rw [hV3]; exact heap_alloc_new _ _
  have d3' : FBox V3 W2.heap.size 64 := by rw [hV3]; exact heap_keep d3
  obtain ⟨W4, r4, g4, a4⟩ := a3'.put (t := 77) Tryz.underlying77 4 (.func (.func 60) #[] #[.pointer (some ⟨W3.heap.size, 0, none⟩)]) (by decide) (by first | rfl | simp) (by simp)
  have B3' : Below w.heap.size w V3 := by rw [hV3]; exact B3.alloc B3.size _
  have B4 : Below w.heap.size w W4 := B3'.grown g4 B3'.size (fun j hj => by injection hj with hj; omega)
  have e3 := fn_blk a3' g4 d3' (fun _ _ h => by cases h)
  have e4 := fn_blk a3' g4 c4 (fun _ _ h => by cases h)
  obtain ⟨W5, r5, g5, a5⟩ := a4.put (t := 77) Tryz.underlying77 5 (.func (.func 67) #[] #[]) (by decide) (by first | rfl | simp) (by simp)
  have B5 : Below w.heap.size w W5 := B4.grown g5 B4.size (fun j hj => by injection hj with hj; omega)
  replace e3 := fn_blk a4 g5 e3 (fun _ _ h => by cases h)
  replace e4 := fn_blk a4 g5 e4 (fun _ _ h => by cases h)
  obtain ⟨W6, r6, g6, a6⟩ := a5.put (t := 77) Tryz.underlying77 6 (.func (.func 68) #[] #[]) (by decide) (by first | rfl | simp) (by simp)
  have B6 : Below w.heap.size w W6 := B5.grown g6 B5.size (fun j hj => by injection hj with hj; omega)
  replace e3 := fn_blk a5 g6 e3 (fun _ _ h => by cases h)
  replace e4 := fn_blk a5 g6 e4 (fun _ _ h => by cases h)
  obtain ⟨W7, r7, g7, a7⟩ := a6.put (t := 77) Tryz.underlying77 7 (.func (.func 69) #[] #[]) (by decide) (by first | rfl | simp) (by simp)
  have B7 : Below w.heap.size w W7 := B6.grown g7 B6.size (fun j hj => by injection hj with hj; omega)
  replace e3 := fn_blk a6 g7 e3 (fun _ _ h => by cases h)
  replace e4 := fn_blk a6 g7 e4 (fun _ _ h => by cases h)
  obtain ⟨V7, hV7⟩ : ∃ V, V = W7.alloc (.cells #[.func (.func 70) #[] #[]] 76) := ⟨_, rfl⟩
  have a7' := FnAt.below a7 (show Below W7.heap.size W7 V7 by rw [hV7]; exact alloc_below _ _)
  have c8 : FBox V7 W7.heap.size 70 := by rw [hV7]; exact heap_alloc_new _ _
  replace e3 : FBox V7 W2.heap.size 64 := by rw [hV7]; exact heap_keep e3
  replace e4 : FBox V7 W3.heap.size 65 := by rw [hV7]; exact heap_keep e4
  obtain ⟨W8, r8, g8, a8⟩ := a7'.put (t := 77) Tryz.underlying77 8 (.func (.func 60) #[] #[.pointer (some ⟨W7.heap.size, 0, none⟩)]) (by decide) (by first | rfl | simp) (by simp)
  have B7' : Below w.heap.size w V7 := by rw [hV7]; exact B7.alloc B7.size _
  have B8 := Lib.hid (B7'.grown g8 B7'.size (fun j hj => by injection hj with hj; omega))
  have HD : Hid (DoesAt W8 w.heap.size W2.heap.size W3.heap.size W7.heap.size) := ⟨a8, fn_blk a7' g8 e3 (fun _ _ h => by cases h), fn_blk a7' g8 e4 (fun _ _ h => by cases h), fn_blk a7' g8 c8 (fun _ _ h => by cases h)⟩
  clear g1 g2 g3 g4 g5 g6 g7 g8 a0 a1 a2 a3 a4 a5 a6 a7 a8 a3' a7' B0 B1 B2 B2' B3 B3' B4 B5 B6 B7 B7' c3 c4 c8 d3 d3' e3 e4
  rw [hW0] at r1
  rw [hV2] at r3
  rw [hV3] at r4
  rw [hV7] at r8
  have m1 : (Instr.mapUpdate 77 (.map (some w.heap.size)) (.int .u8 1) (.func (.func 61) #[] #[])).run Tryz.prog (w.alloc (.map #[] 0)) = .ok () W1 := r1
  have m2 : (Instr.mapUpdate 77 (.map (some w.heap.size)) (.int .u8 2) (.func (.func 62) #[] #[])).run Tryz.prog W1 = .ok () W2 := r2
  have m3 : (Instr.mapUpdate 77 (.map (some w.heap.size)) (.int .u8 3) (.func (.func 60) #[] #[.pointer (some ⟨W2.heap.size, 0, none⟩)])).run Tryz.prog (W2.alloc (.cells #[.func (.func 64) #[] #[]] 76)) = .ok () W3 := r3
  have m4 : (Instr.mapUpdate 77 (.map (some w.heap.size)) (.int .u8 4) (.func (.func 60) #[] #[.pointer (some ⟨W3.heap.size, 0, none⟩)])).run Tryz.prog (W3.alloc (.cells #[.func (.func 65) #[] #[]] 76)) = .ok () W4 := r4
  have m5 : (Instr.mapUpdate 77 (.map (some w.heap.size)) (.int .u8 5) (.func (.func 67) #[] #[])).run Tryz.prog W4 = .ok () W5 := r5
  have m6 : (Instr.mapUpdate 77 (.map (some w.heap.size)) (.int .u8 6) (.func (.func 68) #[] #[])).run Tryz.prog W5 = .ok () W6 := r6
  have m7 : (Instr.mapUpdate 77 (.map (some w.heap.size)) (.int .u8 7) (.func (.func 69) #[] #[])).run Tryz.prog W6 = .ok () W7 := r7
  have m8 : (Instr.mapUpdate 77 (.map (some w.heap.size)) (.int .u8 8) (.func (.func 60) #[] #[.pointer (some ⟨W7.heap.size, 0, none⟩)])).run Tryz.prog (W7.alloc (.cells #[.func (.func 70) #[] #[]] 76)) = .ok () W8 := r8
  clear hW0 hV2 hV3 hV7 r1 r2 r3 r4 r5 r6 r7 r8
  go_enter Tryz.func36, Tryz.ntmps36
  go_wp2_with fail
  refine (D1.out _ _).mono ?_
  rintro e w1 ⟨rfl, rfl⟩
  go_wp2_with fail
  refine (D1.out _ _).mono ?_
  rintro e w1 ⟨rfl, rfl⟩
  go_wp2_with fail
  refine (D1.out _ _).mono ?_
  rintro e w1 ⟨rfl, rfl⟩
  go_wp2_with fail
  go_ret
  exact ⟨_, _, _, _, rfl, HD.out, B8.out⟩
set_option maxHeartbeats 2000000 in
set_option maxRecDepth 100000 in
theorem row_any (fn : Nat) (w : World) (base gp bx : Nat) (P : Pg) (o : Od) (sv : Value) (hp : PRow w base gp P) (ht : TextsAt w sv o.rows) (hb : base ≤ w.heap.size) (hgp : gp < base) (hm : o.may = true) (hf : FBox w bx fn) (hfn : fn = 64 ∨ fn = 65 ∨ fn = 70) (hn : P.rows.length ≤ 900000)
    (hC : ∀ W, Below w.heap.size w W → o.at_.toNat < P.rows.length → Calls Tryz.prog fn #[.pointer (some ⟨gp, 0, none⟩), odV o sv] W (DoesPost W base gp (doB P o)))
    (h3 : ¬ o.at_.toNat < P.rows.length → doB P o = (P, 3)) :
    Calls Tryz.prog 60 #[.pointer (some ⟨gp, 0, none⟩), odV o sv, .pointer (some ⟨bx, 0, none⟩)] w (DoesPost w base gp (doB P o)) := by
  obtain ⟨_, hpg, hnx, hpk, hat, hoff, hrl, hll⟩ := may_bounds hm
  obtain ⟨kind, level, id, lsn, next, rows⟩ := P
  obtain ⟨ok, page, oat, ooff, text, orows, pk, lv, nx⟩ := o
  obtain ⟨v, hbx, ho⟩ := hp
  simp only at hbx ho hn hpg hnx hpk hat hoff hrl hll ht h3 hC
  obtain ⟨a, rfl⟩ : ∃ a : Nat, oat = a := ⟨oat.toNat, by omega⟩
  simp only [Int.toNat_natCast] at hC h3
  obtain ⟨A, cq, rfl, _⟩ := ht
  obtain ⟨m, hm2⟩ : ∃ m, m = orows.length := ⟨_, rfl⟩
  rw [← hm2] at hC hrl ⊢
  have HFN := Lib.hid hfn
  clear hfn
  have HC := Lib.hid hC
  have H3 := Lib.hid h3
  generalize doB _ _ = R at *
  have AB := Lib.hid (alloc_below w (.cells #[.int .u8 ok, .int .u32 page, .int .i64 (a : Nat), .int .i64 ooff, .string ⟨text.toArray⟩, .slice A m cq, .int .u8 pk, .int .u8 lv, .int .u32 nx] 40))
  have B1 := hbx.below AB.out
  have F1 : FBox (w.alloc (.cells #[.int .u8 ok, .int .u32 page, .int .i64 (a : Nat), .int .i64 ooff, .string ⟨text.toArray⟩, .slice A m cq, .int .u8 pk, .int .u8 lv, .int .u32 nx] 40)) bx fn := (AB.out.block _ (blk_lt hf)).trans hf
  have X1 : OAt (w.alloc (.cells #[.int .u8 ok, .int .u32 page, .int .i64 (a : Nat), .int .i64 ooff, .string ⟨text.toArray⟩, .slice A m cq, .int .u8 pk, .int .u8 lv, .int .u32 nx] 40)) w.heap.size ⟨ok, page, a, ooff, text, orows, pk, lv, nx⟩ (.slice A m cq) := heap_alloc_new w _
  obtain ⟨b, cp, hv, hcp1, hcp2, _⟩ := own_form ho
  obtain ⟨n, hn2⟩ : ∃ n, n = rows.length := ⟨_, rfl⟩
  rw [← hn2] at hv hcp1 hn HC H3
  subst hv
  clear hm hm2 hC h3 hbx ho hn2 hf hat hoff hrl hll
  unfold odV at HC ⊢
  go_enter Tryz.func60, Tryz.ntmps60
  go_upto_region 1 with fail
  generalize w.alloc (.cells #[.int .u8 ok, .int .u32 page, .int .i64 (a : Nat), .int .i64 ooff, .string ⟨text.toArray⟩, .slice A m cq, .int .u8 pk, .int .u8 lv, .int .u32 nx] 40) = w1 at *
  obtain ⟨x0, x1, x2, x3, x4, x5, x6, x7, x8⟩ := X1.cells
  simp only at x0 x1 x2 x3 x4 x5 x6 x7 x8
  obtain ⟨_, p0, p1, p2, p3, p4, p5⟩ := B1.cells
  have y0 : w1.cell? ⟨bx, 0, none⟩ = some (.func (.func fn) #[] #[]) := by unfold FBox at F1; rw [blk_cell F1]; rfl
  have A2 := Lib.hid AB.out.drew
  clear B1 F1 X1
  by_cases hin : a < n
  · have hci : ¬ (n : Int) ≤ (a : Int) := by omega
    have HCC := Lib.hid (HC.out w1.drew A2.out hin)
    go_region
    clear HC
    rcases HFN.out with rfl | rfl | rfl
    all_goals
      go_wp2_with fail
      refine HCC.out.mono ?_
      rintro e w2 ⟨rfl, h1, h2⟩
      have H1 := Lib.hid h1
      have H2 := Lib.hid ((OthersKept.of_below (p := fun x => x = gp ∨ base ≤ x) A2.out).trans h2 (fun _ _ h => h))
      clear h1 h2
      go_wp2_with fail
      go_ret
      exact ⟨rfl, H1.out, H2.out⟩
  · have hci : (n : Int) ≤ (a : Int) := by omega
    have HR := Lib.hid (H3.out hin)
    have K4 := Lib.hid (OthersKept.of_below (p := fun x => x = gp ∨ base ≤ x) A2.out)
    go_region
    all_goals (go_wp2_with fail)
    (try simp only [Exit.inBlock, Exit.then]); refine bodyPost_ret (results_tmp rfl _ _ _) rfl ?_
    exact ⟨by rw [HR.out]; rfl, fun h => (by rw [HR.out] at h; cases h), K4.out⟩
end Go.Proofs.YtienlhnbmobinaaGreat
end
