/- an op in a box: stored whole, handed back -/
import Derived.Test.YtienlhnbmobinaaRows
import Derived.Test.YtienlhnbmobinaaPgStore
import Derived.Test.YtienlhnbmobinaaRefOnly
import Derived.Test.YtienlhnbmobinaaOpRead
import Derived.Test.YtienlhnbmobinaaOpPart
import Derived.Test.YtienlhnbmobinaaOpSame
import Derived.Test.YtienlhnbmobinaaOpPlain
import Derived.Test.YtienlhnbmobinaaPlains
import Derived.Test.YtienlhnbmobinaaBase
import Derived.Test.YtienlhnbmobinaaTextsP
import Derived.WalkKit
import Derived.WalkLawsBesides
import Derived.WalkSpells
import Derived.LoopTactic
import Derived.WalkMore
import Derived.LoopN
import Derived.Laws.BitsAllLaws
import Derived.Laws.IdiomStrings
import Derived.BigQuiet
import Derived.Deep.QuietTactic
import Derived.Deep.DeepCutAuto
import Derived.Deep.RegionHeld3
import Derived.Deep.DrawnRows
import Derived.Lib.Hide
import Derived.Outline
import Derived.Deep.DeepMust
import Derived.Handy
namespace Go.Proofs.Ytienlhnbmobinaa
open Go.RowKit
set_option linter.unusedVariables false
set_option linter.unusedSimpArgs false

theorem setRow_op {w : World} {g : Nat} {o : Od} {sv : Value} (h : OAt w g o sv) (o' : Od) (sv' : Value) : OAt (w.setRow g #[.int .u8 o'.kind, .int .u32 o'.page, .int .i64 o'.at_, .int .i64 o'.off, .string ⟨o'.text.toArray⟩, sv', .int .u8 o'.pk, .int .u8 o'.lv, .int .u32 o'.nx]) g o' sv' :=
  setRow_heap w g _ _ _ _ h
set_option maxRecDepth 100000 in
/-- An op stored whole into its box. -/
theorem wpList_store_op {ops : Array Oper} {rest : List Oper} {o : Oper} {a : Act} {w : World} {Q : Exit → Act → World → Prop} (hgd : o.guard = none) (x y : Operand) (ho : o.op = .store 28 x y)
    {g : Nat} {od : Od} {sv : Value} (h : OAt w g od sv) (d : Od) (b : Option Addr) (n c : Nat)
    (hx : a.eval x = .pointer (some ⟨g, 0, none⟩)) (hy : a.eval y = .agg #[.int .u8 d.kind, .int .u32 d.page, .int .i64 d.at_, .int .i64 d.off, .string ⟨d.text.toArray⟩, .slice b n c, .int .u8 d.pk, .int .u8 d.lv, .int .u32 d.nx])
    (hk : ∀ W, OAt W g d (.slice b n c) → OthersKept w W (fun x => x = g) → wpList Try.prog ops Q rest (a.put o.dst undef) W) : wpList Try.prog ops Q (o :: rest) a w :=
  wpList_store_row hgd 28 x y ho g _ hx hy 28 _ h (by kernel_rfl) rfl (by simp [Value.oneCell']) (hk _ (setRow_op h d (.slice b n c)) (setRow_kept _ _ _))
theorem OAt.keep {w : World} {g : Nat} {o : Od} {sv : Value} (h : OAt w g o sv) (x : Obj) : OAt (w.alloc x) g o sv := by
  unfold OAt at *
  exact heap_keep h
theorem OAt.of_cells {w : World} {g : Nat} (h : w.heap[g]? = some (.cells #[.int .u8 0, .int .u32 0, .int .i64 0, .int .i64 0, .string ByteArray.empty, .slice none 0 0, .int .u8 0, .int .u8 0, .int .u32 0] 28 (0, 0))) : OAt w g Od.zero (.slice none 0 0) := h
theorem OAt.under {w w' : World} {g : Nat} {o : Od} {sv : Value} (h : OAt w g o sv) (hb : Below w.heap.size w w') : OAt w' g o sv := by
  unfold OAt at *
  exact (hb.block g (blk_lt h)).trans h
theorem OAt.lt {w : World} {g : Nat} {o : Od} {sv : Value} (h : OAt w g o sv) : g < w.heap.size := by unfold OAt at h; exact blk_lt h
/-- What a call leaves that gives an op and an error. -/
theorem results_op2 {fn : Func} {p u : Tmp} (h : fn.results = #[.cell p 28, .tmp u]) (tmps : Array Value) (w : World) {g : Nat} {o : Od} {sv : Value} (hp : tmps.getD p undef = .pointer (some ⟨g, 0, none⟩)) (hb : OAt w g o sv) :
    (results fn tmps).run Try.prog w = .ok (.tuple #[odV o sv, tmps.getD u undef]) w := by
  unfold OAt at hb
  have hp2 : tmps[p]?.getD undef = .pointer (some ⟨g, 0, none⟩) := by simpa using hp
  simp [results, h, hp2, asAddr, run_loadVar_row w g 28 28 _ (0, 0) _ hb Try.underlying28 rfl (by kernel_rfl), Result.andThen, odV]
theorem results_nop {fn : Func} {p t u : Tmp} (h : fn.results = #[.tmp t, .cell p 28, .tmp u]) (tmps : Array Value) (w : World) {g : Nat} {o : Od} {sv : Value} (hp : tmps.getD p undef = .pointer (some ⟨g, 0, none⟩)) (hb : OAt w g o sv) :
    (results fn tmps).run Try.prog w = .ok (.tuple #[tmps.getD t undef, odV o sv, tmps.getD u undef]) w := by
  unfold OAt at hb
  have hp2 : tmps[p]?.getD undef = .pointer (some ⟨g, 0, none⟩) := by simpa using hp
  simp [results, h, hp2, asAddr, run_loadVar_row w g 28 28 _ (0, 0) _ hb Try.underlying28 rfl (by kernel_rfl), Result.andThen, odV]

end Go.Proofs.Ytienlhnbmobinaa
