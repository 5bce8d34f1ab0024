/- Kept of our texts for this claim: OpRead SpaceOp SegCalls -/
import Derived.Test.YtienlhnbmobinaaRows
import Derived.Test.YtienlhnbmobinaaTkAn
import Derived.Test.YtienlhnbmobinaaTkAm
import Derived.Test.YtienlhnbmobinaaTkAi
import Derived.Test.YtienlhnbmobinaaTkAc
import Derived.Test.YtienlhnbmobinaaTkAg
import Derived.Test.YtienlhnbmobinaaTkAj
import Derived.Test.YtienlhnbmobinaaTkAl
import Derived.Test.YtienlhnbmobinaaTkAa
import Derived.Test.YtienlhnbmobinaaTkAb
import Derived.WalkKit
import Derived.WalkLawsBesides
import Derived.WalkSpells
import Derived.LoopTactic
import Derived.WalkMore
import Derived.LoopN
import Derived.Laws.BitsAllLaws
import Derived.Laws.IdiomStrings
import Derived.BigQuiet
import Derived.Deep.QuietTactic
import Derived.Deep.DeepCutAuto
import Derived.Deep.RegionHeld3
import Derived.Deep.DrawnRows
import Derived.Lib.Hide
import Derived.Outline
import Derived.Deep.DeepMust
import Derived.Handy
import Derived.Test.YtienlhnbmobinaaTkAk
import Derived.Test.YtienlhnbmobinaaTkAf
import Derived.Test.YtienlhnbmobinaaTkAh
import Derived.Test.YtienlhnbmobinaaTkAe
import Derived.Deep.CutBlock
section
/- op.read -/
namespace Go.Proofs.Ytienlhnbmobinaa
open Go.RowKit
set_option linter.unusedVariables false
set_option linter.unusedSimpArgs false
theorem results_op {fn : Func} {p u v : Tmp} (h : fn.results = #[.cell p 28, .tmp u, .tmp v]) (tmps : Array Value) (w : World) {g : Nat} {o : Od} {sv : Value} (hp : tmps.getD p undef = .pointer (some ⟨g, 0, none⟩)) (hb : OAt w g o sv) :
    (results fn tmps).run Try.prog w = .ok (.tuple #[odV o sv, tmps.getD u undef, tmps.getD v undef]) w := by
  unfold OAt at hb
  have hp2 : tmps[p]?.getD undef = .pointer (some ⟨g, 0, none⟩) := by simpa using hp
  simp [results, h, hp2, asAddr, run_loadVar_row w g 28 28 _ (0, 0) _ hb Try.underlying28 rfl (by kernel_rfl), Result.andThen, odV]
/-- An op stored into a block. -/
def setOp (W : World) (g : Nat) (o : Od) (sv : Value) : World := ((((((((W.setCell ⟨g, 0, none⟩ (.int .u8 o.kind)).setCell ⟨g, 1, none⟩ (.int .u32 o.page)).setCell ⟨g, 2, none⟩ (.int .i64 o.at_)).setCell ⟨g, 3, none⟩ (.int .i64 o.off)).setCell ⟨g, 4, none⟩ (.string ⟨o.text.toArray⟩)).setCell ⟨g, 5, none⟩ sv).setCell ⟨g, 6, none⟩ (.int .u8 o.pk)).setCell ⟨g, 7, none⟩ (.int .u8 o.lv)).setCell ⟨g, 8, none⟩ (.int .u32 o.nx)
theorem OAt.put {w : World} {g : Nat} {o : Od} {sv : Value} (h : OAt w g o sv) (o' : Od) (sv' : Value) : OAt (setOp w g o' sv') g o' sv' := by
  unfold setOp OAt at *
  have h1 := blk_set (blk_set (blk_set (blk_set (blk_set (blk_set (blk_set (blk_set (blk_set h 0 (.int .u8 o'.kind)) 1 (.int .u32 o'.page)) 2 (.int .i64 o'.at_)) 3 (.int .i64 o'.off)) 4 (.string ⟨o'.text.toArray⟩)) 5 sv') 6 (.int .u8 o'.pk)) 7 (.int .u8 o'.lv)) 8 (.int .u32 o'.nx)
  simpa using h1
theorem setOp_kept (w : World) (g : Nat) (o : Od) (sv : Value) : OthersKept w (setOp w g o sv) (fun k => k = g) := by
  unfold setOp
  exact ((((((((one_kept w g 0 _).trans (one_kept _ g 1 _) (fun _ _ h => h)).trans (one_kept _ g 2 _) (fun _ _ h => h)).trans (one_kept _ g 3 _) (fun _ _ h => h)).trans (one_kept _ g 4 _) (fun _ _ h => h)).trans (one_kept _ g 5 _) (fun _ _ h => h)).trans (one_kept _ g 6 _) (fun _ _ h => h)).trans (one_kept _ g 7 _) (fun _ _ h => h)).trans (one_kept _ g 8 _) (fun _ _ h => h)
theorem OAt.drew {w : World} {g : Nat} {o : Od} {sv : Value} (h : OAt w g o sv) : OAt w.drew g o sv := h
theorem TextsAt.drew {w : World} {sv : Value} {rows : List (List UInt8)} (h : TextsAt w sv rows) : TextsAt w.drew sv rows := h.below ((Below.refl _ _).drew)
/-- An op stored into its own block: what stands there behind. -/
theorem op_stored {w0 w : World} {g : Nat} {o : Od} {sv : Value} {rows : List (List UInt8)} (h : OAt w g o sv) (ht : w.ownsRow w0.heap.size 9 1 sv rows.length (strs rows)) (hd : ∀ j, sv.ownBlock = some j → j ≠ g) (hb : Below w0.heap.size w0 w) (hg : w0.heap.size ≤ g) :
    OAt ((((((((((w.setCell ⟨g, 0, none⟩ (.int .u8 o.kind)).setCell ⟨g, 1, none⟩ (.int .u32 o.page)).setCell ⟨g, 2, none⟩ (.int .i64 o.at_)).setCell ⟨g, 3, none⟩ (.int .i64 o.off)).setCell ⟨g, 4, none⟩ (.string ⟨o.text.toArray⟩)).setCell ⟨g, 5, none⟩ sv).setCell ⟨g, 6, none⟩ (.int .u8 o.pk)).setCell ⟨g, 7, none⟩ (.int .u8 o.lv)).setCell ⟨g, 8, none⟩ (.int .u32 o.nx)).drew) g o sv ∧ (((((((((((w.setCell ⟨g, 0, none⟩ (.int .u8 o.kind)).setCell ⟨g, 1, none⟩ (.int .u32 o.page)).setCell ⟨g, 2, none⟩ (.int .i64 o.at_)).setCell ⟨g, 3, none⟩ (.int .i64 o.off)).setCell ⟨g, 4, none⟩ (.string ⟨o.text.toArray⟩)).setCell ⟨g, 5, none⟩ sv).setCell ⟨g, 6, none⟩ (.int .u8 o.pk)).setCell ⟨g, 7, none⟩ (.int .u8 o.lv)).setCell ⟨g, 8, none⟩ (.int .u32 o.nx)).drew)).ownsRow w0.heap.size 9 1 sv rows.length (strs rows) ∧ Below w0.heap.size w0 ((((((((((w.setCell ⟨g, 0, none⟩ (.int .u8 o.kind)).setCell ⟨g, 1, none⟩ (.int .u32 o.page)).setCell ⟨g, 2, none⟩ (.int .i64 o.at_)).setCell ⟨g, 3, none⟩ (.int .i64 o.off)).setCell ⟨g, 4, none⟩ (.string ⟨o.text.toArray⟩)).setCell ⟨g, 5, none⟩ sv).setCell ⟨g, 6, none⟩ (.int .u8 o.pk)).setCell ⟨g, 7, none⟩ (.int .u8 o.lv)).setCell ⟨g, 8, none⟩ (.int .u32 o.nx)).drew) := by
  have hk := setOp_kept w g o sv
  have h2 := own_below (hk.owns ht (fun j hj e => hd j hj e)) ((Below.refl _ _).drew)
  exact ⟨(OAt.put h o sv).drew, h2, (OthersKept.below hb hk (fun k hk e => by omega)).drew⟩
set_option maxHeartbeats 2000000 in
set_option maxRecDepth 100000 in
theorem read_own (l : List UInt8) (w : World) (hl : l.length ≤ 100000) :
    Calls Try.prog 133 #[.string ⟨l.toArray⟩] w fun e w' => ∃ sv, e = .returned (.tuple #[odV (readC l).o sv, .int .i64 ((readC l).at_ : Nat), .bool (!(readC l).bad)]) ∧ w'.ownsRow w.heap.size 9 1 sv (readC l).o.rows.length (strs (readC l).o.rows) ∧ Below w.heap.size w w' := by
  obtain ⟨c, hcl⟩ : ∃ c, c = readC l := ⟨_, rfl⟩
  rw [← hcl]
  have HP : Hid (Cd.op ⟨Od.zero, l, 0, true, false⟩ = c) := hcl.symm
  clear hcl
  have O0 : OAt ((w.alloc (.cells #[.int .u8 0, .int .u32 0, .int .i64 0, .int .i64 0, .string ⟨#[]⟩, .slice none 0 0, .int .u8 0, .int .u8 0, .int .u32 0] 28)).alloc (.cells #[.pointer (some ⟨w.heap.size, 0, none⟩), .string ⟨l.toArray⟩, .int .i64 0, .bool true, .bool false] 206)) w.heap.size Od.zero (.slice none 0 0) := heap_keep (heap_alloc_new w _)
  have hz1 : (w.alloc (.cells #[.int .u8 0, .int .u32 0, .int .i64 0, .int .i64 0, .string ⟨#[]⟩, .slice none 0 0, .int .u8 0, .int .u8 0, .int .u32 0] 28)).heap.size = w.heap.size + 1 := by simp
  have K0 := heap_alloc_new (w.alloc (.cells #[.int .u8 0, .int .u32 0, .int .i64 0, .int .i64 0, .string ⟨#[]⟩, .slice none 0 0, .int .u8 0, .int .u8 0, .int .u32 0] 28)) (.cells #[.pointer (some ⟨w.heap.size, 0, none⟩), .string ⟨l.toArray⟩, .int .i64 0, .bool true, .bool false] 206)
  rw [hz1] at K0
  have B0 := Lib.hid ((alloc_below w (.cells #[.int .u8 0, .int .u32 0, .int .i64 0, .int .i64 0, .string ⟨#[]⟩, .slice none 0 0, .int .u8 0, .int .u8 0, .int .u32 0] 28)).alloc (by simp) (.cells #[.pointer (some ⟨w.heap.size, 0, none⟩), .string ⟨l.toArray⟩, .int .i64 0, .bool true, .bool false] 206))
  have C0 : Hid (CAt ((w.alloc (.cells #[.int .u8 0, .int .u32 0, .int .i64 0, .int .i64 0, .string ⟨#[]⟩, .slice none 0 0, .int .u8 0, .int .u8 0, .int .u32 0] 28)).alloc (.cells #[.pointer (some ⟨w.heap.size, 0, none⟩), .string ⟨l.toArray⟩, .int .i64 0, .bool true, .bool false] 206)) w.heap.size (w.heap.size + 1) w.heap.size ⟨Od.zero, l, 0, true, false⟩) :=
    ⟨K0, by omega, by omega, Nat.le_refl _, .slice none 0 0, O0, World.ownsRow_nil _ _ _ _, fun j hj => by cases hj⟩
  clear K0 O0 hz1
  go_enter Try.func133, Try.ntmps133
  go_wp2_with fail
  generalize (w.alloc (.cells #[.int .u8 0, .int .u32 0, .int .i64 0, .int .i64 0, .string ⟨#[]⟩, .slice none 0 0, .int .u8 0, .int .u8 0, .int .u32 0] 28)).alloc (.cells #[.pointer (some ⟨w.heap.size, 0, none⟩), .string ⟨l.toArray⟩, .int .i64 0, .bool true, .bool false] 206) = w0 at *
  refine (op_any w0 w.heap.size (w.heap.size + 1) w.heap.size _ C0.out B0.out.size ⟨by unfold Od.wf Od.zero; simp, by simp [Od.zero], by simp [Od.zero], by simp [Od.zero], hl, Nat.zero_le _⟩ (fun _ => rfl)).mono ?_
  rintro e w1 ⟨rfl, hC, hB⟩
  obtain ⟨hk, hgg, _, _, sv, ho, hr, hd⟩ := hC
  rw [HP.out] at hk ho hr
  clear HP
  have B1 := Lib.hid (B0.out.trans hB)
  have HO := Lib.hid ho
  have HT := Lib.hid (texts_own hr).1
  obtain ⟨b5, c5, hv5, _, _, _⟩ := own_form hr
  obtain ⟨n5, hn5⟩ : ∃ n5, n5 = c.o.rows.length := ⟨_, rfl⟩
  rw [← hn5] at hv5
  clear hn5
  subst hv5
  obtain ⟨o0, o1, o2, o3, o4, o5, o6, o7, o8⟩ := ho.cells
  obtain ⟨q0, q1, q2, q3, q4, q5⟩ := hk.cells
  have fr := fun i => blk_frozen (g := w.heap.size) ho i
  have f0 := fr 0
  have f1 := fr 1
  have f2 := fr 2
  have f3 := fr 3
  have f4 := fr 4
  have f5 := fr 5
  have f6 := fr 6
  have f7 := fr 7
  have f8 := fr 8
  have XX := Lib.hid (op_stored (w0 := w) ho hr (fun j hj => (hd j hj).2) B1.out (Nat.le_refl _))
  clear fr hk ho hr hd hB B0 C0
  go_upto_region 3 with fail
  go_region
  clear o0 o1 o2 o3 o4 o5 o6 o7 o8 q0 q1 q2 q3 q4 q5 f0 f1 f2 f3 f4 f5 f6 f7 f8
  go_wp2_with fail
  (try simp only [Exit.inBlock, Exit.then])
  refine bodyPost_ret (results_op (p := 2) (u := 3) (v := 4) (o := c.o) (sv := .slice b5 n5 c5) (by kernel_rfl) _ _ rfl XX.out.1) rfl ?_
  exact ⟨_, rfl, XX.out.2.1, XX.out.2.2⟩
theorem read_any (l : List UInt8) (w : World) (hl : l.length ≤ 100000) :
    Calls Try.prog 133 #[.string ⟨l.toArray⟩] w fun e w' => ∃ sv, e = .returned (.tuple #[odV (readC l).o sv, .int .i64 ((readC l).at_ : Nat), .bool (!(readC l).bad)]) ∧ TextsAt w' sv (readC l).o.rows ∧ Below w.heap.size w w' :=
  (read_own l w hl).mono fun _ _ ⟨sv, h1, h2, h3⟩ => ⟨sv, h1, (texts_own h2).1, h3⟩
end Go.Proofs.Ytienlhnbmobinaa
end

section
/- an op in a box: stored whole, handed back -/
namespace Go.Proofs.Ytienlhnbmobinaa
open Go.RowKit
set_option linter.unusedVariables false
set_option linter.unusedSimpArgs false
theorem setRow_op {w : World} {g : Nat} {o : Od} {sv : Value} (h : OAt w g o sv) (o' : Od) (sv' : Value) : OAt (w.setRow g #[.int .u8 o'.kind, .int .u32 o'.page, .int .i64 o'.at_, .int .i64 o'.off, .string ⟨o'.text.toArray⟩, sv', .int .u8 o'.pk, .int .u8 o'.lv, .int .u32 o'.nx]) g o' sv' :=
  setRow_heap w g _ _ _ _ h
set_option maxRecDepth 100000 in
/-- An op stored whole into its box. -/
theorem wpList_store_op {ops : Array Oper} {rest : List Oper} {o : Oper} {a : Act} {w : World} {Q : Exit → Act → World → Prop} (hgd : o.guard = none) (x y : Operand) (ho : o.op = .store 28 x y)
    {g : Nat} {od : Od} {sv : Value} (h : OAt w g od sv) (d : Od) (b : Option Addr) (n c : Nat)
    (hx : a.eval x = .pointer (some ⟨g, 0, none⟩)) (hy : a.eval y = .agg #[.int .u8 d.kind, .int .u32 d.page, .int .i64 d.at_, .int .i64 d.off, .string ⟨d.text.toArray⟩, .slice b n c, .int .u8 d.pk, .int .u8 d.lv, .int .u32 d.nx])
    (hk : ∀ W, OAt W g d (.slice b n c) → OthersKept w W (fun x => x = g) → wpList Try.prog ops Q rest (a.put o.dst undef) W) : wpList Try.prog ops Q (o :: rest) a w :=
  wpList_store_row hgd 28 x y ho g _ hx hy 28 _ h (by kernel_rfl) rfl (by simp [Value.oneCell']) (hk _ (setRow_op h d (.slice b n c)) (setRow_kept _ _ _))
theorem OAt.keep {w : World} {g : Nat} {o : Od} {sv : Value} (h : OAt w g o sv) (x : Obj) : OAt (w.alloc x) g o sv := by
  unfold OAt at *
  exact heap_keep h
theorem OAt.under {w w' : World} {g : Nat} {o : Od} {sv : Value} (h : OAt w g o sv) (hb : Below w.heap.size w w') : OAt w' g o sv := by
  unfold OAt at *
  exact (hb.block g (blk_lt h)).trans h
theorem OAt.lt {w : World} {g : Nat} {o : Od} {sv : Value} (h : OAt w g o sv) : g < w.heap.size := by unfold OAt at h; exact blk_lt h
/-- What a call leaves that gives an op and an error. -/
theorem results_op2 {fn : Func} {p u : Tmp} (h : fn.results = #[.cell p 28, .tmp u]) (tmps : Array Value) (w : World) {g : Nat} {o : Od} {sv : Value} (hp : tmps.getD p undef = .pointer (some ⟨g, 0, none⟩)) (hb : OAt w g o sv) :
    (results fn tmps).run Try.prog w = .ok (.tuple #[odV o sv, tmps.getD u undef]) w := by
  unfold OAt at hb
  have hp2 : tmps[p]?.getD undef = .pointer (some ⟨g, 0, none⟩) := by simpa using hp
  simp [results, h, hp2, asAddr, run_loadVar_row w g 28 28 _ (0, 0) _ hb Try.underlying28 rfl (by kernel_rfl), Result.andThen, odV]
end Go.Proofs.Ytienlhnbmobinaa
end

section
/- chapter 22: Find, Drop, Put -/
namespace Go.Proofs.Ytienlhnbmobinaa
open Go.RowKit
set_option linter.unusedVariables false
set_option linter.unusedSimpArgs false
set_option maxHeartbeats 4000000 in
set_option maxRecDepth 100000 in
theorem segFind_any (p : Pg) (sv : Value) (tx : Nat) (w : World) (hp : p.wf) (ht : TextsAt w sv p.rows) (hb : weightB p.rows ≤ 1000000) :
    Calls Try.prog 67 #[pgV p sv, .int .u64 tx] w fun e w' => e = .returned (.tuple #[sgV (sFindB p tx).1, .bool (sFindB p tx).2]) ∧ Below w.heap.size w w' := by
  have CF := Lib.hid fun W (h : TextsAt W sv p.rows) => segfind_any p sv tx W hp h hb
  have hdef : sFindB p tx = (match segsB p with | none => (Sg.zero, false) | some L => if segIs L tx then (L.getD (segAt L tx) Sg.zero, true) else (Sg.zero, false)) := rfl
  have HT := Lib.hid ht
  have hnb : p.rows.length ≤ 1000000 := by have := weightB_length p.rows; omega
  obtain ⟨n, hn⟩ : ∃ n, n = p.rows.length := ⟨_, rfl⟩
  obtain ⟨A, cp, hsv, _, _, _, _⟩ := ht
  rw [← hn] at hsv
  subst hsv
  generalize segsB p = R at *
  generalize sFindB p tx = res at *
  clear hp hb hn hnb
  unfold pgV at *
  obtain ⟨kind, level, id, lsn, next, rows⟩ := p
  simp only at *
  have P0 : Hid (PgBox (w.alloc (.cells #[.int .u8 kind, .int .u8 level, .int .u32 id, .int .u64 lsn, .int .u32 next, .slice A n cp] 26)) w.heap.size kind level id lsn next (.slice A n cp)) := PgBox.new w kind level id lsn next (.slice A n cp)
  have B0 := Lib.hid (alloc_below w (.cells #[.int .u8 kind, .int .u8 level, .int .u32 id, .int .u64 lsn, .int .u32 next, .slice A n cp] 26))
  have hz1 : ((w.alloc (.cells #[.int .u8 kind, .int .u8 level, .int .u32 id, .int .u64 lsn, .int .u32 next, .slice A n cp] 26))).heap.size = w.heap.size + 1 := by simp
  have Z0 : Hid (SgBox ((w.alloc (.cells #[.int .u8 kind, .int .u8 level, .int .u32 id, .int .u64 lsn, .int .u32 next, .slice A n cp] 26)).alloc (.cells #[.int .u64 0, .int .u8 0, .int .u64 0, .int .u32 0, .int .u32 0, .int .u32 0, .int .u16 0] 83)) (w.heap.size + 1) Sg.zero) := by
    have h := heap_alloc_new (w.alloc (.cells #[.int .u8 kind, .int .u8 level, .int .u32 id, .int .u64 lsn, .int .u32 next, .slice A n cp] 26)) (.cells #[.int .u64 0, .int .u8 0, .int .u64 0, .int .u32 0, .int .u32 0, .int .u32 0, .int .u16 0] 83)
    rw [hz1] at h
    exact h
  have B0 := Lib.hid (B0.out.alloc B0.out.size (.cells #[.int .u64 0, .int .u8 0, .int .u64 0, .int .u32 0, .int .u32 0, .int .u32 0, .int .u16 0] 83))
  have P0 := Lib.hid (P0.out.keep (.cells #[.int .u64 0, .int .u8 0, .int .u64 0, .int .u32 0, .int .u32 0, .int .u32 0, .int .u16 0] 83))
  clear hz1
  go_enter Try.func67, Try.ntmps67
  go_upto_region 1 with fail
  generalize ((w.alloc (.cells #[.int .u8 kind, .int .u8 level, .int .u32 id, .int .u64 lsn, .int .u32 next, .slice A n cp] 26)).alloc (.cells #[.int .u64 0, .int .u8 0, .int .u64 0, .int .u32 0, .int .u32 0, .int .u32 0, .int .u16 0] 83)) = w0 at *
  have T0 := Lib.hid (HT.out.below B0.out)
  clear HT
  obtain ⟨p0, p1, p2, p3, p4, p5, p6⟩ := P0.out.cells
  go_wp2_with fail
  refine (CF.out _ T0.out).mono ?_
  rintro e w1 ⟨v, rfl, hO, hb⟩
  have V1 := Lib.hid (OwnSegs.mono hO B0.out.size)
  clear hO CF
  clear p0 p1 p2 p3 p4 p5 p6
  have B1 := Lib.hid (below_then B0.out hb)
  have P1 := Lib.hid (P0.out.below hb)
  have Z1 := Lib.hid (Z0.out.below hb)
  have T1 := Lib.hid (T0.out.below hb)
  clear hb B0 P0 Z0 T0
  cases R with
  | none =>
    simp only [Option.isSome_none, Option.getD_none] at *
    (try simp only [Bool.false_eq_true, if_false] at *)
    have HD := Lib.hid hdef
    clear hdef
    go_wp2_with (refine wpList_store_sg rfl (.tmp 4) (.tmp 20) rfl Z1.out Sg.zero (by rfl) (by rfl) ?_; intro wS hP hK; have PF := Lib.hid hP; have KF := Lib.hid hK; clear hP hK)
    refine bodyPost_ret (results_sg rfl _ _ rfl PF.out) rfl ⟨?_, OthersKept.below B1.out KF.out (fun k hk e => by omega)⟩
    exact congrArg Ending.returned (by rw [HD.out]; rfl)
  | some L =>
    simp only [Option.isSome_some, Option.getD_some, if_true] at *
    obtain ⟨ia, hia⟩ : ∃ z : Nat, z = segAt L tx := ⟨_, rfl⟩
    obtain ⟨ib, hib⟩ : ∃ z : Bool, z = segIs L tx := ⟨_, rfl⟩
    have hil : Hid (ib = true → ia < L.length) := fun h => by rw [hia]; exact segIs_lt (by rw [← hib]; exact h)
    rw [← hia, ← hib] at hdef ⊢
    have HD := Lib.hid hdef
    clear hdef hia hib
    cases ib with
    | false =>
      go_wp2_with (refine wpList_store_sg rfl (.tmp 4) (.tmp 20) rfl Z1.out Sg.zero (by rfl) (by rfl) ?_; intro wS hP hK; have PF := Lib.hid hP; have KF := Lib.hid hK; clear hP hK)
      refine bodyPost_ret (results_sg rfl _ _ rfl PF.out) rfl ⟨?_, OthersKept.below B1.out KF.out (fun k hk e => by omega)⟩
      exact congrArg Ending.returned (by rw [HD.out]; rfl)
    | true =>
      have hlt := hil.out rfl
      obtain ⟨A2, cp2, rfl, _, _, h52⟩ := V1.out.at_
      obtain ⟨b0, o0, rfl, hb0, hcell⟩ := h52 (by omega)
      have k0 := hcell ia hlt 0 _ rfl
      have k1 := hcell ia hlt 1 _ rfl
      have k2 := hcell ia hlt 2 _ rfl
      have k3 := hcell ia hlt 3 _ rfl
      have k4 := hcell ia hlt 4 _ rfl
      have k5 := hcell ia hlt 5 _ rfl
      have k6 := hcell ia hlt 6 _ rfl
      have hg : L.getD ia Sg.zero = L[ia] := by rw [List.getD_eq_getElem?_getD, List.getElem?_eq_getElem hlt]; rfl
      rw [hg] at HD
      have hli : (ia : Int) < (L.length : Int) := by omega
      have hl0 : (0 : Int) ≤ (ia : Int) := by omega
      obtain ⟨ln, hln⟩ : ∃ z, z = L.length := ⟨_, rfl⟩
      rw [← hln] at hli ⊢
      clear hcell h52 hg V1 hil hln
      generalize L[ia] = y at *
      obtain ⟨y0, y1, y2, y3, y4, y5, y6⟩ := y
      simp only [Nat.add_zero] at k0 k1 k2 k3 k4 k5 k6
      go_wp2_with (refine wpList_store_sg rfl (.tmp 4) (.tmp 24) rfl Z1.out ⟨y0, y1, y2, y3, y4, y5, y6⟩ (by rfl) (by rfl) ?_; intro wS hP hK; have PF := Lib.hid hP; have KF := Lib.hid hK; clear hP hK)
      refine bodyPost_ret (results_sg rfl _ _ rfl PF.out) rfl ⟨?_, OthersKept.below B1.out KF.out (fun k hk e => by omega)⟩
      exact congrArg Ending.returned (by rw [HD.out]; rfl)
set_option maxHeartbeats 4000000 in
set_option maxRecDepth 100000 in
theorem segDrop_any (p : Pg) (sv : Value) (tx : Nat) (w : World) (hp : p.wf) (ht : TextsAt w sv p.rows) (hb : weightB p.rows ≤ 1000000) :
    Calls Try.prog 72 #[pgV p sv, .int .u64 tx] w fun e w' => e = .returned (.tuple #[odV (sDropB p tx).1 (.slice none 0 0), .int .i64 (sDropB p tx).2]) ∧ Below w.heap.size w w' := by
  have CF := Lib.hid fun W (h : TextsAt W sv p.rows) => segfind_any p sv tx W hp h hb
  have hdef : sDropB p tx = (match segsB p with | none => (Od.zero, 60) | some L => if segIs L tx then (⟨4, p.id, (segAt L tx : Nat), 0, [], [], 0, 0, 0⟩, 0) else (Od.zero, 3)) := rfl
  have HT := Lib.hid ht
  have hnb : p.rows.length ≤ 1000000 := by have := weightB_length p.rows; omega
  obtain ⟨n, hn⟩ : ∃ n, n = p.rows.length := ⟨_, rfl⟩
  obtain ⟨A, cp, hsv, _, _, _, _⟩ := ht
  rw [← hn] at hsv
  subst hsv
  generalize segsB p = R at *
  generalize sDropB p tx = res at *
  clear hp hb hn hnb
  unfold pgV at *
  obtain ⟨kind, level, id, lsn, next, rows⟩ := p
  simp only at *
  have P0 : Hid (PgBox (w.alloc (.cells #[.int .u8 kind, .int .u8 level, .int .u32 id, .int .u64 lsn, .int .u32 next, .slice A n cp] 26)) w.heap.size kind level id lsn next (.slice A n cp)) := PgBox.new w kind level id lsn next (.slice A n cp)
  have B0 := Lib.hid (alloc_below w (.cells #[.int .u8 kind, .int .u8 level, .int .u32 id, .int .u64 lsn, .int .u32 next, .slice A n cp] 26))
  have hz1 : ((w.alloc (.cells #[.int .u8 kind, .int .u8 level, .int .u32 id, .int .u64 lsn, .int .u32 next, .slice A n cp] 26))).heap.size = w.heap.size + 1 := by simp
  have O0 : Hid (OAt ((w.alloc (.cells #[.int .u8 kind, .int .u8 level, .int .u32 id, .int .u64 lsn, .int .u32 next, .slice A n cp] 26)).alloc (.cells #[.int .u8 0, .int .u32 0, .int .i64 0, .int .i64 0, .string ⟨#[]⟩, .slice none 0 0, .int .u8 0, .int .u8 0, .int .u32 0] 28)) (w.heap.size + 1) Od.zero (.slice none 0 0)) := by
    have h := heap_alloc_new (w.alloc (.cells #[.int .u8 kind, .int .u8 level, .int .u32 id, .int .u64 lsn, .int .u32 next, .slice A n cp] 26)) (.cells #[.int .u8 0, .int .u32 0, .int .i64 0, .int .i64 0, .string ⟨#[]⟩, .slice none 0 0, .int .u8 0, .int .u8 0, .int .u32 0] 28)
    rw [hz1] at h
    exact h
  have B0 := Lib.hid (B0.out.alloc B0.out.size (.cells #[.int .u8 0, .int .u32 0, .int .i64 0, .int .i64 0, .string ⟨#[]⟩, .slice none 0 0, .int .u8 0, .int .u8 0, .int .u32 0] 28))
  have P0 := Lib.hid (P0.out.keep (.cells #[.int .u8 0, .int .u32 0, .int .i64 0, .int .i64 0, .string ⟨#[]⟩, .slice none 0 0, .int .u8 0, .int .u8 0, .int .u32 0] 28))
  clear hz1
  go_enter Try.func72, Try.ntmps72
  go_upto_region 1 with fail
  generalize ((w.alloc (.cells #[.int .u8 kind, .int .u8 level, .int .u32 id, .int .u64 lsn, .int .u32 next, .slice A n cp] 26)).alloc (.cells #[.int .u8 0, .int .u32 0, .int .i64 0, .int .i64 0, .string ⟨#[]⟩, .slice none 0 0, .int .u8 0, .int .u8 0, .int .u32 0] 28)) = w0 at *
  have T0 := Lib.hid (HT.out.below B0.out)
  clear HT
  obtain ⟨p0, p1, p2, p3, p4, p5, p6⟩ := P0.out.cells
  go_wp2_with fail
  refine (CF.out _ T0.out).mono ?_
  rintro e w1 ⟨v, rfl, hO, hb⟩
  clear hO CF
  clear p0 p1 p2 p3 p4 p5 p6
  have B1 := Lib.hid (below_then B0.out hb)
  have P1 := Lib.hid (P0.out.below hb)
  have O1 := Lib.hid (O0.out.under hb)
  have T1 := Lib.hid (T0.out.below hb)
  clear hb B0 P0 O0 T0
  cases R with
  | none =>
    simp only [Option.isSome_none] at *
    (try simp only [Bool.false_eq_true, if_false] at *)
    have HD := Lib.hid hdef
    clear hdef
    go_wp2_with (refine wpList_store_op rfl (.tmp 4) (.tmp 21) rfl O1.out Od.zero none 0 0 (by rfl) (by rfl) ?_; intro wS hO hK; have OS := Lib.hid hO; have KS := Lib.hid hK; clear hO hK)
    refine bodyPost_ret (results_op2 (p := 4) (u := 5) (o := Od.zero) (sv := .slice none 0 0) (by kernel_rfl) _ _ rfl OS.out) rfl ?_
    exact ⟨by rw [HD.out]; rfl, OthersKept.below B1.out KS.out (fun k hk e => by omega)⟩
  | some L =>
    simp only [Option.isSome_some, if_true] at *
    generalize segAt L tx = ia at *
    generalize segIs L tx = ib at *
    have HD := Lib.hid hdef
    clear hdef
    cases ib with
    | false =>
      go_wp2_with (refine wpList_store_op rfl (.tmp 4) (.tmp 26) rfl O1.out Od.zero none 0 0 (by rfl) (by rfl) ?_; intro wS hO hK; have OS := Lib.hid hO; have KS := Lib.hid hK; clear hO hK)
      refine bodyPost_ret (results_op2 (p := 4) (u := 5) (o := Od.zero) (sv := .slice none 0 0) (by kernel_rfl) _ _ rfl OS.out) rfl ?_
      exact ⟨by rw [HD.out]; rfl, OthersKept.below B1.out KS.out (fun k hk e => by omega)⟩
    | true =>
      obtain ⟨p0, p1, p2, p3, p4, p5, p6⟩ := P1.out.cells
      go_wp2_with (refine wpList_store_op rfl (.tmp 4) (.tmp 30) rfl O1.out ⟨4, id, (ia : Nat), 0, [], [], 0, 0, 0⟩ none 0 0 (by rfl) (by rfl) ?_; intro wS hO hK; have OS := Lib.hid hO; have KS := Lib.hid hK; clear hO hK)
      refine bodyPost_ret (results_op2 (p := 4) (u := 5) (o := ⟨4, id, (ia : Nat), 0, [], [], 0, 0, 0⟩) (sv := .slice none 0 0) (by kernel_rfl) _ _ rfl OS.out) rfl ?_
      exact ⟨by rw [HD.out]; rfl, OthersKept.below B1.out KS.out (fun k hk e => by omega)⟩
set_option maxHeartbeats 4000000 in
set_option maxRecDepth 100000 in
theorem segPut_any (p : Pg) (sv : Value) (s : Sg) (w : World) (hp : p.wf) (ht : TextsAt w sv p.rows) (hb : weightB p.rows ≤ 1000000) (hs : s.wf) :
    Calls Try.prog 70 #[pgV p sv, sgV s] w fun e w' => e = .returned (.tuple #[odV (sPutB p s).1 (.slice none 0 0), .int .i64 (sPutB p s).2]) ∧ Below w.heap.size w w' := by
  have CF := Lib.hid fun W (h : TextsAt W sv p.rows) => segfind_any p sv s.tx W hp h hb
  have CE := Lib.hid fun W => segEncode_any s W hs
  have CR := Lib.hid fun W (h : TextsAt W sv p.rows) => pageRoom_any p sv W h hb
  have hdef : sPutB p s = (match segsB p with | none => (Od.zero, 60) | some L => if s.may then (if segIs L s.tx then (⟨3, p.id, (segAt L s.tx : Nat), 0, s.enc, [], 0, 0, 0⟩, 0) else if roomB p.rows < 31 then (Od.zero, 4) else (⟨2, p.id, (segAt L s.tx : Nat), 0, s.enc, [], 0, 0, 0⟩, 0)) else (Od.zero, 2)) := rfl
  have hout : s.out = if s.may then (s.enc, 0) else ([], 2) := rfl
  have hel := sg_len s
  have HT := Lib.hid ht
  have hnb : p.rows.length ≤ 1000000 := by have := weightB_length p.rows; omega
  obtain ⟨n, hn⟩ : ∃ n, n = p.rows.length := ⟨_, rfl⟩
  obtain ⟨A, cp, hsv, _, _, _, _⟩ := ht
  rw [← hn] at hsv
  subst hsv
  generalize segsB p = R at *
  generalize sPutB p s = res at *
  generalize roomB p.rows = rm at *
  generalize s.out = so at *
  generalize s.enc = en at *
  generalize s.may = sm at *
  clear hp hb hn hnb hs
  unfold pgV at *
  unfold sgV at *
  obtain ⟨kind, level, id, lsn, next, rows⟩ := p
  obtain ⟨t0, t1, t2, t3, t4, t5, t6⟩ := s
  simp only at *
  have HD := Lib.hid hdef
  clear hdef
  have P0 : Hid (PgBox (w.alloc (.cells #[.int .u8 kind, .int .u8 level, .int .u32 id, .int .u64 lsn, .int .u32 next, .slice A n cp] 26)) w.heap.size kind level id lsn next (.slice A n cp)) := PgBox.new w kind level id lsn next (.slice A n cp)
  have B0 := Lib.hid (alloc_below w (.cells #[.int .u8 kind, .int .u8 level, .int .u32 id, .int .u64 lsn, .int .u32 next, .slice A n cp] 26))
  have hz1 : ((w.alloc (.cells #[.int .u8 kind, .int .u8 level, .int .u32 id, .int .u64 lsn, .int .u32 next, .slice A n cp] 26))).heap.size = w.heap.size + 1 := by simp
  have S0 : Hid (SgBox ((w.alloc (.cells #[.int .u8 kind, .int .u8 level, .int .u32 id, .int .u64 lsn, .int .u32 next, .slice A n cp] 26)).alloc (.cells #[.int .u64 t0, .int .u8 t1, .int .u64 t2, .int .u32 t3, .int .u32 t4, .int .u32 t5, .int .u16 t6] 83)) (w.heap.size + 1) ⟨t0, t1, t2, t3, t4, t5, t6⟩) := by
    have h := heap_alloc_new (w.alloc (.cells #[.int .u8 kind, .int .u8 level, .int .u32 id, .int .u64 lsn, .int .u32 next, .slice A n cp] 26)) (.cells #[.int .u64 t0, .int .u8 t1, .int .u64 t2, .int .u32 t3, .int .u32 t4, .int .u32 t5, .int .u16 t6] 83)
    rw [hz1] at h
    exact h
  have B0 := Lib.hid (B0.out.alloc B0.out.size (.cells #[.int .u64 t0, .int .u8 t1, .int .u64 t2, .int .u32 t3, .int .u32 t4, .int .u32 t5, .int .u16 t6] 83))
  have P0 := Lib.hid (P0.out.keep (.cells #[.int .u64 t0, .int .u8 t1, .int .u64 t2, .int .u32 t3, .int .u32 t4, .int .u32 t5, .int .u16 t6] 83))
  have hz2 : (((w.alloc (.cells #[.int .u8 kind, .int .u8 level, .int .u32 id, .int .u64 lsn, .int .u32 next, .slice A n cp] 26)).alloc (.cells #[.int .u64 t0, .int .u8 t1, .int .u64 t2, .int .u32 t3, .int .u32 t4, .int .u32 t5, .int .u16 t6] 83))).heap.size = w.heap.size + 1 + 1 := by simp
  have O0 : Hid (OAt (((w.alloc (.cells #[.int .u8 kind, .int .u8 level, .int .u32 id, .int .u64 lsn, .int .u32 next, .slice A n cp] 26)).alloc (.cells #[.int .u64 t0, .int .u8 t1, .int .u64 t2, .int .u32 t3, .int .u32 t4, .int .u32 t5, .int .u16 t6] 83)).alloc (.cells #[.int .u8 0, .int .u32 0, .int .i64 0, .int .i64 0, .string ⟨#[]⟩, .slice none 0 0, .int .u8 0, .int .u8 0, .int .u32 0] 28)) (w.heap.size + 1 + 1) Od.zero (.slice none 0 0)) := by
    have h := heap_alloc_new ((w.alloc (.cells #[.int .u8 kind, .int .u8 level, .int .u32 id, .int .u64 lsn, .int .u32 next, .slice A n cp] 26)).alloc (.cells #[.int .u64 t0, .int .u8 t1, .int .u64 t2, .int .u32 t3, .int .u32 t4, .int .u32 t5, .int .u16 t6] 83)) (.cells #[.int .u8 0, .int .u32 0, .int .i64 0, .int .i64 0, .string ⟨#[]⟩, .slice none 0 0, .int .u8 0, .int .u8 0, .int .u32 0] 28)
    rw [hz2] at h
    exact h
  have B0 := Lib.hid (B0.out.alloc B0.out.size (.cells #[.int .u8 0, .int .u32 0, .int .i64 0, .int .i64 0, .string ⟨#[]⟩, .slice none 0 0, .int .u8 0, .int .u8 0, .int .u32 0] 28))
  have P0 := Lib.hid (P0.out.keep (.cells #[.int .u8 0, .int .u32 0, .int .i64 0, .int .i64 0, .string ⟨#[]⟩, .slice none 0 0, .int .u8 0, .int .u8 0, .int .u32 0] 28))
  have S0 := Lib.hid (S0.out.keep (.cells #[.int .u8 0, .int .u32 0, .int .i64 0, .int .i64 0, .string ⟨#[]⟩, .slice none 0 0, .int .u8 0, .int .u8 0, .int .u32 0] 28))
  clear hz1 hz2
  go_enter Try.func70, Try.ntmps70
  go_upto_region 1 with fail
  generalize (((w.alloc (.cells #[.int .u8 kind, .int .u8 level, .int .u32 id, .int .u64 lsn, .int .u32 next, .slice A n cp] 26)).alloc (.cells #[.int .u64 t0, .int .u8 t1, .int .u64 t2, .int .u32 t3, .int .u32 t4, .int .u32 t5, .int .u16 t6] 83)).alloc (.cells #[.int .u8 0, .int .u32 0, .int .i64 0, .int .i64 0, .string ⟨#[]⟩, .slice none 0 0, .int .u8 0, .int .u8 0, .int .u32 0] 28)) = w0 at *
  have T0 := Lib.hid (HT.out.below B0.out)
  clear HT
  obtain ⟨p0, p1, p2, p3, p4, p5, p6⟩ := P0.out.cells
  obtain ⟨sl, s0, s1, s2, s3, s4, s5, s6⟩ := S0.out.cells
  simp only at s0 s1 s2 s3 s4 s5 s6
  go_wp2_with fail
  refine (CF.out _ T0.out).mono ?_
  rintro e w1 ⟨v, rfl, hO, hb⟩
  clear hO CF
  clear p0 p1 p2 p3 p4 p5 p6
  clear sl s0 s1 s2 s3 s4 s5 s6
  have B1 := Lib.hid (below_then B0.out hb)
  have P1 := Lib.hid (P0.out.below hb)
  have S1 := Lib.hid (S0.out.below hb)
  have O1 := Lib.hid (O0.out.under hb)
  have T1 := Lib.hid (T0.out.below hb)
  clear hb B0 P0 S0 O0 T0
  cases R with
  | none =>
    simp only [Option.isSome_none] at *
    (try simp only [Bool.false_eq_true, if_false] at *)
    go_wp2_with (refine wpList_store_op rfl (.tmp 4) (.tmp 22) rfl O1.out Od.zero none 0 0 (by rfl) (by rfl) ?_; intro wS hO hK; have OS := Lib.hid hO; have KS := Lib.hid hK; clear hO hK)
    refine bodyPost_ret (results_op2 (p := 4) (u := 5) (o := Od.zero) (sv := .slice none 0 0) (by kernel_rfl) _ _ rfl OS.out) rfl ?_
    exact ⟨by rw [HD.out]; rfl, OthersKept.below B1.out KS.out (fun k hk e => by omega)⟩
  | some L =>
    simp only [Option.isSome_some, if_true] at *
    generalize segAt L t0 = ia at *
    generalize segIs L t0 = ib at *
    obtain ⟨sl, s0, s1, s2, s3, s4, s5, s6⟩ := S1.out.cells
    simp only at s0 s1 s2 s3 s4 s5 s6
    go_wp2_with fail
    refine (CE.out _).mono ?_
    rintro e w2 ⟨rfl, hb⟩
    clear sl s0 s1 s2 s3 s4 s5 s6
    have B2 := Lib.hid (below_then B1.out hb)
    have P2 := Lib.hid (P1.out.below hb)
    have S2 := Lib.hid (S1.out.below hb)
    have O2 := Lib.hid (O1.out.under hb)
    have T2 := Lib.hid (T1.out.below hb)
    clear hb B1 P1 S1 O1 T1
    clear CE
    cases sm with
    | false =>
      simp only [Bool.false_eq_true, if_false] at hout
      subst hout
      go_wp2_with (refine wpList_store_op rfl (.tmp 4) (.tmp 32) rfl O2.out Od.zero none 0 0 (by rfl) (by rfl) ?_; intro wS hO hK; have OS := Lib.hid hO; have KS := Lib.hid hK; clear hO hK)
      refine bodyPost_ret (results_op2 (p := 4) (u := 5) (o := Od.zero) (sv := .slice none 0 0) (by kernel_rfl) _ _ rfl OS.out) rfl ?_
      exact ⟨by rw [HD.out]; rfl, OthersKept.below B2.out KS.out (fun k hk e => by omega)⟩
    | true =>
      simp only [if_true] at hout
      subst hout
      have hez : (⟨en.toArray⟩ : ByteArray).size = 31 := by simp [ByteArray.size, hel]
      cases ib with
      | true =>
        obtain ⟨p0, p1, p2, p3, p4, p5, p6⟩ := P2.out.cells
        go_wp2_with (refine wpList_store_op rfl (.tmp 4) (.tmp 40) rfl O2.out ⟨3, id, (ia : Nat), 0, en, [], 0, 0, 0⟩ none 0 0 (by rfl) (by rfl) ?_; intro wS hO hK; have OS := Lib.hid hO; have KS := Lib.hid hK; clear hO hK)
        refine bodyPost_ret (results_op2 (p := 4) (u := 5) (o := ⟨3, id, (ia : Nat), 0, en, [], 0, 0, 0⟩) (sv := .slice none 0 0) (by kernel_rfl) _ _ rfl OS.out) rfl ?_
        exact ⟨by rw [HD.out]; rfl, OthersKept.below B2.out KS.out (fun k hk e => by omega)⟩
      | false =>
        obtain ⟨p0, p1, p2, p3, p4, p5, p6⟩ := P2.out.cells
        go_wp2_with fail
        refine (CR.out _ T2.out).mono ?_
        rintro e w3 ⟨rfl, hb⟩
        clear CR
        clear p0 p1 p2 p3 p4 p5 p6
        have B3 := Lib.hid (below_then B2.out hb)
        have P3 := Lib.hid (P2.out.below hb)
        have S3 := Lib.hid (S2.out.below hb)
        have O3 := Lib.hid (O2.out.under hb)
        have T3 := Lib.hid (T2.out.below hb)
        clear hb B2 P2 S2 O2 T2
        by_cases hr : rm < 31
        · have HD2 : Hid (res = (Od.zero, 4)) := by show _ = _; rw [HD.out, if_pos trivial, if_neg (by simp), if_pos hr]
          have hrd : decide (rm < 31) = true := decide_eq_true hr
          go_wp2_with (refine wpList_store_op rfl (.tmp 4) (.tmp 47) rfl O3.out Od.zero none 0 0 (by rfl) (by rfl) ?_; intro wS hO hK; have OS := Lib.hid hO; have KS := Lib.hid hK; clear hO hK)
          refine bodyPost_ret (results_op2 (p := 4) (u := 5) (o := Od.zero) (sv := .slice none 0 0) (by kernel_rfl) _ _ rfl OS.out) rfl ?_
          exact ⟨by rw [HD2.out]; rfl, OthersKept.below B3.out KS.out (fun k hk e => by omega)⟩
        · have HD2 : Hid (res = (⟨2, id, (ia : Nat), 0, en, [], 0, 0, 0⟩, 0)) := by show _ = _; rw [HD.out, if_pos trivial, if_neg (by simp), if_neg hr]
          have hrd : decide (rm < 31) = false := decide_eq_false hr
          obtain ⟨p0, p1, p2, p3, p4, p5, p6⟩ := P3.out.cells
          go_wp2_with (refine wpList_store_op rfl (.tmp 4) (.tmp 52) rfl O3.out ⟨2, id, (ia : Nat), 0, en, [], 0, 0, 0⟩ none 0 0 (by rfl) (by rfl) ?_; intro wS hO hK; have OS := Lib.hid hO; have KS := Lib.hid hK; clear hO hK)
          refine bodyPost_ret (results_op2 (p := 4) (u := 5) (o := ⟨2, id, (ia : Nat), 0, en, [], 0, 0, 0⟩) (sv := .slice none 0 0) (by kernel_rfl) _ _ rfl OS.out) rfl ?_
          exact ⟨by rw [HD2.out]; rfl, OthersKept.below B3.out KS.out (fun k hk e => by omega)⟩
end Go.Proofs.Ytienlhnbmobinaa
end
