/- Kept of our texts for this claim: OpRead SpaceOp -/
import Derived.Test.YtienlhnbmobinaaGreatRows
import Derived.Test.YtienlhnbmobinaaGreatAdAp
import Derived.Test.YtienlhnbmobinaaGreatAdAo
import Derived.Test.YtienlhnbmobinaaGreatAdAl
import Derived.Test.YtienlhnbmobinaaGreatAdAk
import Derived.Test.YtienlhnbmobinaaGreatAdAm
import Derived.Test.YtienlhnbmobinaaGreatAdAn
import Derived.Test.YtienlhnbmobinaaGreatAdAc
import Derived.Test.YtienlhnbmobinaaGreatAdAa
import Derived.Test.YtienlhnbmobinaaGreatAdAb
import Derived.WalkKit
import Derived.WalkLawsBesides
import Derived.WalkSpells
import Derived.LoopTactic
import Derived.WalkMore
import Derived.LoopN
import Derived.Laws.BitsAllLaws
import Derived.Laws.IdiomStrings
import Derived.BigQuiet
import Derived.Deep.QuietTactic
import Derived.Deep.DeepCutAuto
import Derived.Deep.RegionHeld3
import Derived.Deep.DrawnRows
import Derived.Lib.Hide
import Derived.Outline
import Derived.Deep.DeepMust
import Derived.Handy
section
/- op.read -/
namespace Go.Proofs.YtienlhnbmobinaaGreat
open Go.RowKit
set_option linter.unusedVariables false
set_option linter.unusedSimpArgs false
theorem results_op {fn : Func} {p u v : Tmp} (h : fn.results = #[.cell p 40, .tmp u, .tmp v]) (tmps : Array Value) (w : World) {g : Nat} {o : Od} {sv : Value} (hp : tmps.getD p undef = .pointer (some ⟨g, 0, none⟩)) (hb : OAt w g o sv) :
    (results fn tmps).run Tryz.prog w = .ok (.tuple #[odV o sv, tmps.getD u undef, tmps.getD v undef]) w := by
  unfold OAt at hb
  have hp2 : tmps[p]?.getD undef = .pointer (some ⟨g, 0, none⟩) := by simpa using hp
  simp [results, h, hp2, asAddr, run_loadVar_row w g 40 40 _ (0, 0) _ hb Tryz.underlying40 rfl (by kernel_rfl), Result.andThen, odV]
/-- An op stored into a block. -/
def setOp (W : World) (g : Nat) (o : Od) (sv : Value) : World := ((((((((W.setCell ⟨g, 0, none⟩ (.int .u8 o.kind)).setCell ⟨g, 1, none⟩ (.int .u32 o.page)).setCell ⟨g, 2, none⟩ (.int .i64 o.at_)).setCell ⟨g, 3, none⟩ (.int .i64 o.off)).setCell ⟨g, 4, none⟩ (.string ⟨o.text.toArray⟩)).setCell ⟨g, 5, none⟩ sv).setCell ⟨g, 6, none⟩ (.int .u8 o.pk)).setCell ⟨g, 7, none⟩ (.int .u8 o.lv)).setCell ⟨g, 8, none⟩ (.int .u32 o.nx)
theorem OAt.put {w : World} {g : Nat} {o : Od} {sv : Value} (h : OAt w g o sv) (o' : Od) (sv' : Value) : OAt (setOp w g o' sv') g o' sv' := by
  unfold setOp OAt at *
  have h1 := blk_set (blk_set (blk_set (blk_set (blk_set (blk_set (blk_set (blk_set (blk_set h 0 (.int .u8 o'.kind)) 1 (.int .u32 o'.page)) 2 (.int .i64 o'.at_)) 3 (.int .i64 o'.off)) 4 (.string ⟨o'.text.toArray⟩)) 5 sv') 6 (.int .u8 o'.pk)) 7 (.int .u8 o'.lv)) 8 (.int .u32 o'.nx)
  simpa using h1
theorem setOp_kept (w : World) (g : Nat) (o : Od) (sv : Value) : OthersKept w (setOp w g o sv) (fun k => k = g) := by
  unfold setOp
  exact ((((((((one_kept w g 0 _).trans (one_kept _ g 1 _) (fun _ _ h => h)).trans (one_kept _ g 2 _) (fun _ _ h => h)).trans (one_kept _ g 3 _) (fun _ _ h => h)).trans (one_kept _ g 4 _) (fun _ _ h => h)).trans (one_kept _ g 5 _) (fun _ _ h => h)).trans (one_kept _ g 6 _) (fun _ _ h => h)).trans (one_kept _ g 7 _) (fun _ _ h => h)).trans (one_kept _ g 8 _) (fun _ _ h => h)
theorem OAt.drew {w : World} {g : Nat} {o : Od} {sv : Value} (h : OAt w g o sv) : OAt w.drew g o sv := h
theorem TextsAt.drew {w : World} {sv : Value} {rows : List (List UInt8)} (h : TextsAt w sv rows) : TextsAt w.drew sv rows := h.below ((Below.refl _ _).drew)
/-- An op stored into its own block: what stands there behind. -/
theorem op_stored {w0 w : World} {g : Nat} {o : Od} {sv : Value} {rows : List (List UInt8)} (h : OAt w g o sv) (ht : w.ownsRow w0.heap.size 9 1 sv rows.length (strs rows)) (hd : ∀ j, sv.ownBlock = some j → j ≠ g) (hb : Below w0.heap.size w0 w) (hg : w0.heap.size ≤ g) :
    OAt ((((((((((w.setCell ⟨g, 0, none⟩ (.int .u8 o.kind)).setCell ⟨g, 1, none⟩ (.int .u32 o.page)).setCell ⟨g, 2, none⟩ (.int .i64 o.at_)).setCell ⟨g, 3, none⟩ (.int .i64 o.off)).setCell ⟨g, 4, none⟩ (.string ⟨o.text.toArray⟩)).setCell ⟨g, 5, none⟩ sv).setCell ⟨g, 6, none⟩ (.int .u8 o.pk)).setCell ⟨g, 7, none⟩ (.int .u8 o.lv)).setCell ⟨g, 8, none⟩ (.int .u32 o.nx)).drew) g o sv ∧ (((((((((((w.setCell ⟨g, 0, none⟩ (.int .u8 o.kind)).setCell ⟨g, 1, none⟩ (.int .u32 o.page)).setCell ⟨g, 2, none⟩ (.int .i64 o.at_)).setCell ⟨g, 3, none⟩ (.int .i64 o.off)).setCell ⟨g, 4, none⟩ (.string ⟨o.text.toArray⟩)).setCell ⟨g, 5, none⟩ sv).setCell ⟨g, 6, none⟩ (.int .u8 o.pk)).setCell ⟨g, 7, none⟩ (.int .u8 o.lv)).setCell ⟨g, 8, none⟩ (.int .u32 o.nx)).drew)).ownsRow w0.heap.size 9 1 sv rows.length (strs rows) ∧ Below w0.heap.size w0 ((((((((((w.setCell ⟨g, 0, none⟩ (.int .u8 o.kind)).setCell ⟨g, 1, none⟩ (.int .u32 o.page)).setCell ⟨g, 2, none⟩ (.int .i64 o.at_)).setCell ⟨g, 3, none⟩ (.int .i64 o.off)).setCell ⟨g, 4, none⟩ (.string ⟨o.text.toArray⟩)).setCell ⟨g, 5, none⟩ sv).setCell ⟨g, 6, none⟩ (.int .u8 o.pk)).setCell ⟨g, 7, none⟩ (.int .u8 o.lv)).setCell ⟨g, 8, none⟩ (.int .u32 o.nx)).drew) := by
  have hk := setOp_kept w g o sv
  have h2 := own_below (hk.owns ht (fun j hj e => hd j hj e)) ((Below.refl _ _).drew)
  exact ⟨(OAt.put h o sv).drew, h2, (OthersKept.below hb hk (fun k hk e => by omega)).drew⟩
set_option maxHeartbeats 2000000 in
set_option maxRecDepth 100000 in
theorem read_own (l : List UInt8) (w : World) (hl : l.length ≤ 100000) :
    Calls Tryz.prog 85 #[.string ⟨l.toArray⟩] w fun e w' => ∃ sv, e = .returned (.tuple #[odV (readC l).o sv, .int .i64 ((readC l).at_ : Nat), .bool (!(readC l).bad)]) ∧ w'.ownsRow w.heap.size 9 1 sv (readC l).o.rows.length (strs (readC l).o.rows) ∧ Below w.heap.size w w' := by
  obtain ⟨c, hcl⟩ : ∃ c, c = readC l := ⟨_, rfl⟩
  rw [← hcl]
  have HP : Hid (Cd.op ⟨Od.zero, l, 0, true, false⟩ = c) := hcl.symm
  clear hcl
  have O0 : OAt ((w.alloc (.cells #[.int .u8 0, .int .u32 0, .int .i64 0, .int .i64 0, .string ⟨#[]⟩, .slice none 0 0, .int .u8 0, .int .u8 0, .int .u32 0] 40)).alloc (.cells #[.pointer (some ⟨w.heap.size, 0, none⟩), .string ⟨l.toArray⟩, .int .i64 0, .bool true, .bool false] 130)) w.heap.size Od.zero (.slice none 0 0) := heap_keep (heap_alloc_new w _)
  have hz1 : (w.alloc (.cells #[.int .u8 0, .int .u32 0, .int .i64 0, .int .i64 0, .string ⟨#[]⟩, .slice none 0 0, .int .u8 0, .int .u8 0, .int .u32 0] 40)).heap.size = w.heap.size + 1 := by simp
  have K0 := heap_alloc_new (w.alloc (.cells #[.int .u8 0, .int .u32 0, .int .i64 0, .int .i64 0, .string ⟨#[]⟩, .slice none 0 0, .int .u8 0, .int .u8 0, .int .u32 0] 40)) (.cells #[.pointer (some ⟨w.heap.size, 0, none⟩), .string ⟨l.toArray⟩, .int .i64 0, .bool true, .bool false] 130)
  rw [hz1] at K0
  have B0 := Lib.hid ((alloc_below w (.cells #[.int .u8 0, .int .u32 0, .int .i64 0, .int .i64 0, .string ⟨#[]⟩, .slice none 0 0, .int .u8 0, .int .u8 0, .int .u32 0] 40)).alloc (by simp) (.cells #[.pointer (some ⟨w.heap.size, 0, none⟩), .string ⟨l.toArray⟩, .int .i64 0, .bool true, .bool false] 130))
  have C0 : Hid (CAt ((w.alloc (.cells #[.int .u8 0, .int .u32 0, .int .i64 0, .int .i64 0, .string ⟨#[]⟩, .slice none 0 0, .int .u8 0, .int .u8 0, .int .u32 0] 40)).alloc (.cells #[.pointer (some ⟨w.heap.size, 0, none⟩), .string ⟨l.toArray⟩, .int .i64 0, .bool true, .bool false] 130)) w.heap.size (w.heap.size + 1) w.heap.size ⟨Od.zero, l, 0, true, false⟩) :=
    ⟨K0, by omega, by omega, Nat.le_refl _, .slice none 0 0, O0, World.ownsRow_nil _ _ _ _, fun j hj => by cases hj⟩
  clear K0 O0 hz1
  go_enter Tryz.func85, Tryz.ntmps85
  go_wp2_with fail
  generalize (w.alloc (.cells #[.int .u8 0, .int .u32 0, .int .i64 0, .int .i64 0, .string ⟨#[]⟩, .slice none 0 0, .int .u8 0, .int .u8 0, .int .u32 0] 40)).alloc (.cells #[.pointer (some ⟨w.heap.size, 0, none⟩), .string ⟨l.toArray⟩, .int .i64 0, .bool true, .bool false] 130) = w0 at *
  refine (op_any w0 w.heap.size (w.heap.size + 1) w.heap.size _ C0.out B0.out.size ⟨by unfold Od.wf Od.zero; simp, by simp [Od.zero], by simp [Od.zero], by simp [Od.zero], hl, Nat.zero_le _⟩ (fun _ => rfl)).mono ?_
  rintro e w1 ⟨rfl, hC, hB⟩
  obtain ⟨hk, hgg, _, _, sv, ho, hr, hd⟩ := hC
  rw [HP.out] at hk ho hr
  clear HP
  have B1 := Lib.hid (B0.out.trans hB)
  have HO := Lib.hid ho
  have HT := Lib.hid (texts_own hr).1
  obtain ⟨b5, c5, hv5, _, _, _⟩ := own_form hr
  obtain ⟨n5, hn5⟩ : ∃ n5, n5 = c.o.rows.length := ⟨_, rfl⟩
  rw [← hn5] at hv5
  clear hn5
  subst hv5
  obtain ⟨o0, o1, o2, o3, o4, o5, o6, o7, o8⟩ := ho.cells
  obtain ⟨q0, q1, q2, q3, q4, q5⟩ := hk.cells
  have fr := fun i => blk_frozen (g := w.heap.size) ho i
  have f0 := fr 0
  have f1 := fr 1
  have f2 := fr 2
  have f3 := fr 3
  have f4 := fr 4
  have f5 := fr 5
  have f6 := fr 6
  have f7 := fr 7
  have f8 := fr 8
  have XX := Lib.hid (op_stored (w0 := w) ho hr (fun j hj => (hd j hj).2) B1.out (Nat.le_refl _))
  clear fr hk ho hr hd hB B0 C0
  go_upto_region 3 with fail
  go_region
  clear o0 o1 o2 o3 o4 o5 o6 o7 o8 q0 q1 q2 q3 q4 q5 f0 f1 f2 f3 f4 f5 f6 f7 f8
  go_wp2_with fail
  (try simp only [Exit.inBlock, Exit.then])
  refine bodyPost_ret (results_op (p := 2) (u := 3) (v := 4) (o := c.o) (sv := .slice b5 n5 c5) (by kernel_rfl) _ _ rfl XX.out.1) rfl ?_
  exact ⟨_, rfl, XX.out.2.1, XX.out.2.2⟩
theorem read_any (l : List UInt8) (w : World) (hl : l.length ≤ 100000) :
    Calls Tryz.prog 85 #[.string ⟨l.toArray⟩] w fun e w' => ∃ sv, e = .returned (.tuple #[odV (readC l).o sv, .int .i64 ((readC l).at_ : Nat), .bool (!(readC l).bad)]) ∧ TextsAt w' sv (readC l).o.rows ∧ Below w.heap.size w w' :=
  (read_own l w hl).mono fun _ _ ⟨sv, h1, h2, h3⟩ => ⟨sv, h1, (texts_own h2).1, h3⟩
end Go.Proofs.YtienlhnbmobinaaGreat
end

section
/- an op in a box: stored whole, handed back -/
namespace Go.Proofs.YtienlhnbmobinaaGreat
open Go.RowKit
set_option linter.unusedVariables false
set_option linter.unusedSimpArgs false
theorem setRow_op {w : World} {g : Nat} {o : Od} {sv : Value} (h : OAt w g o sv) (o' : Od) (sv' : Value) : OAt (w.setRow g #[.int .u8 o'.kind, .int .u32 o'.page, .int .i64 o'.at_, .int .i64 o'.off, .string ⟨o'.text.toArray⟩, sv', .int .u8 o'.pk, .int .u8 o'.lv, .int .u32 o'.nx]) g o' sv' :=
  setRow_heap w g _ _ _ _ h
set_option maxRecDepth 100000 in
/-- An op stored whole into its box. -/
theorem wpList_store_op {ops : Array Oper} {rest : List Oper} {o : Oper} {a : Act} {w : World} {Q : Exit → Act → World → Prop} (hgd : o.guard = none) (x y : Operand) (ho : o.op = .store 40 x y)
    {g : Nat} {od : Od} {sv : Value} (h : OAt w g od sv) (d : Od) (b : Option Addr) (n c : Nat)
    (hx : a.eval x = .pointer (some ⟨g, 0, none⟩)) (hy : a.eval y = .agg #[.int .u8 d.kind, .int .u32 d.page, .int .i64 d.at_, .int .i64 d.off, .string ⟨d.text.toArray⟩, .slice b n c, .int .u8 d.pk, .int .u8 d.lv, .int .u32 d.nx])
    (hk : ∀ W, OAt W g d (.slice b n c) → OthersKept w W (fun x => x = g) → wpList Tryz.prog ops Q rest (a.put o.dst undef) W) : wpList Tryz.prog ops Q (o :: rest) a w :=
  wpList_store_row hgd 40 x y ho g _ hx hy 40 _ h (by kernel_rfl) rfl (by simp [Value.oneCell']) (hk _ (setRow_op h d (.slice b n c)) (setRow_kept _ _ _))
theorem OAt.keep {w : World} {g : Nat} {o : Od} {sv : Value} (h : OAt w g o sv) (x : Obj) : OAt (w.alloc x) g o sv := by
  unfold OAt at *
  exact heap_keep h
theorem OAt.under {w w' : World} {g : Nat} {o : Od} {sv : Value} (h : OAt w g o sv) (hb : Below w.heap.size w w') : OAt w' g o sv := by
  unfold OAt at *
  exact (hb.block g (blk_lt h)).trans h
theorem OAt.lt {w : World} {g : Nat} {o : Od} {sv : Value} (h : OAt w g o sv) : g < w.heap.size := by unfold OAt at h; exact blk_lt h
/-- What a call leaves that gives an op and an error. -/
theorem results_op2 {fn : Func} {p u : Tmp} (h : fn.results = #[.cell p 40, .tmp u]) (tmps : Array Value) (w : World) {g : Nat} {o : Od} {sv : Value} (hp : tmps.getD p undef = .pointer (some ⟨g, 0, none⟩)) (hb : OAt w g o sv) :
    (results fn tmps).run Tryz.prog w = .ok (.tuple #[odV o sv, tmps.getD u undef]) w := by
  unfold OAt at hb
  have hp2 : tmps[p]?.getD undef = .pointer (some ⟨g, 0, none⟩) := by simpa using hp
  simp [results, h, hp2, asAddr, run_loadVar_row w g 40 40 _ (0, 0) _ hb Tryz.underlying40 rfl (by kernel_rfl), Result.andThen, odV]
end Go.Proofs.YtienlhnbmobinaaGreat
end
