/- Kept of our texts for this claim: PgStore SegBox OpWord SegCode -/
import Derived.Test.YtienlhnbmobinaaRows
import Derived.Test.YtienlhnbmobinaaTkAf
import Derived.Test.YtienlhnbmobinaaTkAc
import Derived.Test.YtienlhnbmobinaaTkAa
import Derived.Test.YtienlhnbmobinaaTkAb
import Derived.Laws.Tables
import Derived.WalkKit
import Derived.WalkLawsBesides
import Derived.WalkSpells
import Derived.LoopTactic
import Derived.WalkMore
import Derived.LoopN
import Derived.Laws.BitsAllLaws
import Derived.Laws.IdiomStrings
import Derived.BigQuiet
import Derived.Deep.QuietTactic
import Derived.Deep.DeepCutAuto
import Derived.Deep.RegionHeld3
import Derived.Deep.DrawnRows
import Derived.Lib.Hide
import Derived.Outline
import Derived.Deep.DeepMust
import Derived.Handy
import Derived.Test.YtienlhnbmobinaaTkAd
section
/- a page stored whole -/
namespace Go.Proofs.Ytienlhnbmobinaa
open Go.RowKit
set_option linter.unusedVariables false
set_option linter.unusedSimpArgs false
theorem setRow_pg {w : World} {g kind level id lsn next : Nat} {sv : Value} (h : PgBox w g kind level id lsn next sv) (kind' level' id' lsn' next' : Nat) (sv' : Value) : PgBox (w.setRow g #[.int .u8 kind', .int .u8 level', .int .u32 id', .int .u64 lsn', .int .u32 next', sv']) g kind' level' id' lsn' next' sv' :=
  setRow_heap w g _ _ _ _ h
theorem setRow_kept (w : World) (g : Nat) (cs : Array Value) : OthersKept w (w.setRow g cs) (fun x => x = g) :=
  ⟨rfl, rfl, rfl, by simp, fun k _ hn => setRow_other w g k cs hn⟩
set_option maxRecDepth 100000 in
/-- A page stored whole into its box. -/
theorem wpList_store_pg {ops : Array Oper} {rest : List Oper} {o : Oper} {a : Act} {w : World} {Q : Exit → Act → World → Prop} (hgd : o.guard = none) (x y : Operand) (ho : o.op = .store 26 x y)
    {g kind level id lsn next : Nat} {sv : Value} (h : PgBox w g kind level id lsn next sv) (kind' level' id' lsn' next' : Nat) (b : Option Addr) (n c : Nat)
    (hx : a.eval x = .pointer (some ⟨g, 0, none⟩)) (hy : a.eval y = .agg #[.int .u8 kind', .int .u8 level', .int .u32 id', .int .u64 lsn', .int .u32 next', .slice b n c])
    (hk : ∀ W, PgBox W g kind' level' id' lsn' next' (.slice b n c) → OthersKept w W (fun x => x = g) → wpList Try.prog ops Q rest (a.put o.dst undef) W) : wpList Try.prog ops Q (o :: rest) a w :=
  wpList_store_row hgd 26 x y ho g _ hx hy 26 _ h (by kernel_rfl) rfl (by simp [Value.oneCell']) (hk _ (setRow_pg h kind' level' id' lsn' next' (.slice b n c)) (setRow_kept _ _ _))
end Go.Proofs.Ytienlhnbmobinaa
end

section
/- chapter 22: a row's cells in a block; stored whole, handed back -/
namespace Go.Proofs.Ytienlhnbmobinaa
open Go.RowKit
set_option linter.unusedVariables false
set_option linter.unusedSimpArgs false
/-- A row's cells in a block. -/
def SgBox (w : World) (g : Nat) (s : Sg) : Prop := w.heap[g]? = some (.cells #[.int .u64 s.tx, .int .u8 s.st, .int .u64 s.num, .int .u32 s.fp, .int .u32 s.lp, .int .u32 s.hp, .int .u16 s.hs] 83 (0, 0))
theorem SgBox.new (w : World) (s : Sg) : SgBox (w.alloc (.cells #[.int .u64 s.tx, .int .u8 s.st, .int .u64 s.num, .int .u32 s.fp, .int .u32 s.lp, .int .u32 s.hp, .int .u16 s.hs] 83)) w.heap.size s := heap_alloc_new w _
section
variable {w w' : World} {g : Nat} {s : Sg}
theorem SgBox.lt (h : SgBox w g s) : g < w.heap.size := blk_lt h
theorem SgBox.below (h : SgBox w g s) (hb : Below w.heap.size w w') : SgBox w' g s := (hb.block _ (blk_lt h)).trans h
theorem SgBox.keep (h : SgBox w g s) (o : Obj) : SgBox (w.alloc o) g s := heap_keep h
theorem SgBox.cells (h : SgBox w g s) : g < w.heap.size ∧ w.cell? ⟨g, 0, none⟩ = some (.int .u64 s.tx) ∧ w.cell? ⟨g, 1, none⟩ = some (.int .u8 s.st) ∧ w.cell? ⟨g, 2, none⟩ = some (.int .u64 s.num) ∧ w.cell? ⟨g, 3, none⟩ = some (.int .u32 s.fp) ∧ w.cell? ⟨g, 4, none⟩ = some (.int .u32 s.lp) ∧ w.cell? ⟨g, 5, none⟩ = some (.int .u32 s.hp) ∧ w.cell? ⟨g, 6, none⟩ = some (.int .u16 s.hs) := by
  unfold SgBox at h
  exact ⟨blk_lt h, by rw [blk_cell h]; rfl, by rw [blk_cell h]; rfl, by rw [blk_cell h]; rfl, by rw [blk_cell h]; rfl, by rw [blk_cell h]; rfl, by rw [blk_cell h]; rfl, by rw [blk_cell h]; rfl⟩
theorem SgBox.fr (h : SgBox w g s) : w.frozen? ⟨g, 0, none⟩ = false ∧ w.frozen? ⟨g, 1, none⟩ = false ∧ w.frozen? ⟨g, 2, none⟩ = false ∧ w.frozen? ⟨g, 3, none⟩ = false ∧ w.frozen? ⟨g, 4, none⟩ = false ∧ w.frozen? ⟨g, 5, none⟩ = false ∧ w.frozen? ⟨g, 6, none⟩ = false :=
  ⟨blk_frozen h _, blk_frozen h _, blk_frozen h _, blk_frozen h _, blk_frozen h _, blk_frozen h _, blk_frozen h _⟩
theorem SgBox.kept {q : Nat → Prop} (h : SgBox w g s) (hk : OthersKept w w' q) (hq : ¬ q g) : SgBox w' g s := hk.heap h hq
end
set_option maxRecDepth 100000 in
/-- A row stored whole into its box. -/
theorem wpList_store_sg {ops : Array Oper} {rest : List Oper} {o : Oper} {a : Act} {w : World} {Q : Exit → Act → World → Prop} (hgd : o.guard = none) (x y : Operand) (ho : o.op = .store 83 x y)
    {g : Nat} {s : Sg} (h : SgBox w g s) (d : Sg)
    (hx : a.eval x = .pointer (some ⟨g, 0, none⟩)) (hy : a.eval y = .agg #[.int .u64 d.tx, .int .u8 d.st, .int .u64 d.num, .int .u32 d.fp, .int .u32 d.lp, .int .u32 d.hp, .int .u16 d.hs])
    (hk : ∀ W, SgBox W g d → OthersKept w W (fun x => x = g) → wpList Try.prog ops Q rest (a.put o.dst undef) W) : wpList Try.prog ops Q (o :: rest) a w :=
  wpList_store_row hgd 83 x y ho g _ hx hy 83 _ h (by kernel_rfl) rfl (by simp [Value.oneCell']) (hk _ (setRow_heap w g _ _ _ _ h) (setRow_kept _ _ _))
theorem results_sg {fn : Func} {p u : Tmp} (h : fn.results = #[.cell p 83, .tmp u]) (tmps : Array Value) (w : World) {g : Nat} {s : Sg} (hp : tmps.getD p undef = .pointer (some ⟨g, 0, none⟩)) (hb : SgBox w g s) :
    (results fn tmps).run Try.prog w = .ok (.tuple #[sgV s, tmps.getD u undef]) w := by
  unfold SgBox at hb
  rw [results_cell_tmp h, hp]
  simp [asAddr, run_loadVar_row w g 83 83 _ (0, 0) _ hb Try.underlying83 rfl (by kernel_rfl), Result.andThen, sgV]
end Go.Proofs.Ytienlhnbmobinaa
end

section
/- chapter 01: words, in lists -/
namespace Go.Proofs.Ytienlhnbmobinaa
open Go.RowKit
set_option linter.unusedVariables false
set_option linter.unusedSimpArgs false
theorem cut_text (l : List UInt8) (a n : Nat) (h : a + n ≤ l.length) : (⟨l.toArray⟩ : ByteArray).extract a (a + n) = ⟨(rdText l a n).toArray⟩ := by
  unfold rdText
  rw [if_pos h]
  apply bytes_ext
  rw [ByteArray.data_extract]
  simp
theorem wCut (l : List UInt8) (a n : Nat) (w : World) (hs : l.length ≤ 1000000) (ha : a ≤ 2000000) (hn : n ≤ 2000000) :
    Calls Try.prog 108 #[.string ⟨l.toArray⟩, .int .i64 a, .int .i64 n] w fun e w' => e = .returned (.tuple #[.string ⟨(rdText l a n).toArray⟩, .bool (decide (a + n ≤ l.length))]) ∧ w = w' := by
  have hsz : (⟨l.toArray⟩ : ByteArray).size = l.length := by show l.toArray.size = l.length; simp
  by_cases h : a + n ≤ l.length
  · rw [decide_eq_true h, ← cut_text l a n h]
    exact cut_yes _ a n w (by unfold maxLen; omega) (by omega)
  · have : rdText l a n = [] := by unfold rdText; rw [if_neg h]
    rw [decide_eq_false h, this]
    exact cut_no _ a n w (by unfold maxLen; omega) (Or.inr (Or.inr (by omega))) (by omega) (by omega)
theorem wGet (l : List UInt8) (a k : Nat) (w : World) (hs : l.length ≤ 1000000) (ha : a ≤ 2000000) (h1 : 1 ≤ k) (h8 : k ≤ 8) :
    Calls Try.prog 121 #[.string ⟨l.toArray⟩, .int .i64 a, .int .i64 k] w fun e w' => e = .returned (.tuple #[.int .u64 (rdNum l a k), .bool (decide (a + k ≤ l.length))]) ∧ Below w.heap.size w w' := by
  have hsz : (⟨l.toArray⟩ : ByteArray).size = l.length := by show l.toArray.size = l.length; simp
  by_cases h : a + k ≤ l.length
  · have hn : rdNum l a k = un ((l.drop a).take k) := by unfold rdNum; rw [if_pos h]
    rw [decide_eq_true h, hn]
    exact get_yes ⟨l.toArray⟩ a k w (by unfold maxLen; omega) (by omega) h1 h8
  · have hn : rdNum l a k = 0 := by unfold rdNum; rw [if_neg h]
    rw [decide_eq_false h, hn]
    exact (get_no ⟨l.toArray⟩ a k w (by unfold maxLen; omega) (Or.inr (Or.inr (by omega))) (by omega) (by omega)).mono fun _ _ ⟨h1, h2⟩ => ⟨h1, h2 ▸ Below.refl _ _⟩
theorem rGet (l : List UInt8) (a k : Nat) (w : World) (hs : l.length ≤ 1000000) (ha : a ≤ 2000000) (h1 : 1 ≤ k) (h8 : k ≤ 8) :
    Calls Try.prog 112 #[.string ⟨l.toArray⟩, .int .i64 a, .int .i64 k] w fun e w' => e = .returned (.tuple #[.int .u64 (rdNum l a k), .bool (decide (a + k ≤ l.length))]) ∧ w = w' := by
  have hsz : (⟨l.toArray⟩ : ByteArray).size = l.length := by show l.toArray.size = l.length; simp
  by_cases h : a + k ≤ l.length
  · have hn : rdNum l a k = un ((l.drop a).take k) := by unfold rdNum; rw [if_pos h]
    rw [decide_eq_true h, hn]
    exact refGet_yes ⟨l.toArray⟩ a k w (by unfold maxLen; omega) (by omega) h1 h8
  · have hn : rdNum l a k = 0 := by unfold rdNum; rw [if_neg h]
    rw [decide_eq_false h, hn]
    exact refGet_no ⟨l.toArray⟩ a k w (by unfold maxLen; omega) (Or.inr (Or.inr (by omega))) (by omega) (by omega)
theorem put_no1 (n : Nat) (w : World) (hn : 256 ≤ n) (h64 : n < 256 ^ 8) :
    Calls Try.prog 118 #[.int .u64 n, .int .i64 1] w fun e w' => e = .returned (.tuple #[.string ⟨#[]⟩, .bool false]) ∧ w = w' := by
  simp only [Nat.reducePow] at h64
  have hx : ((n : Int) / 256 != 0) = true := by simp; omega
  go_enter Try.func118, Try.ntmps118
  go_wp2_with fail
  go_ret2
  exact ⟨rfl, rfl⟩
theorem put_no2 (n : Nat) (w : World) (hn : 65536 ≤ n) (h64 : n < 256 ^ 8) :
    Calls Try.prog 118 #[.int .u64 n, .int .i64 2] w fun e w' => e = .returned (.tuple #[.string ⟨#[]⟩, .bool false]) ∧ w = w' := by
  simp only [Nat.reducePow] at h64
  have hx : ((n : Int) / 65536 != 0) = true := by simp; omega
  go_enter Try.func118, Try.ntmps118
  go_wp2_with fail
  go_ret2
  exact ⟨rfl, rfl⟩
/-- A number's bytes; none, if it has more. -/
def putN (k n : Nat) : List UInt8 := if n < 256 ^ k then be k n else []
theorem wPut1 (n : Nat) (w : World) (h64 : n < 256 ^ 8) :
    Calls Try.prog 118 #[.int .u64 n, .int .i64 1] w fun e w' => e = .returned (.tuple #[.string ⟨(putN 1 n).toArray⟩, .bool (decide (n < 256))]) ∧ Below w.heap.size w w' := by
  unfold putN
  by_cases h : n < 256
  · rw [decide_eq_true h, if_pos (by simpa using h)]
    exact put_1 n w (by simpa using h)
  · rw [decide_eq_false h, if_neg (by simpa using h)]
    exact (put_no1 n w (by omega) h64).mono fun _ _ ⟨h1, h2⟩ => ⟨h1, h2 ▸ Below.refl _ _⟩
theorem wPut2 (n : Nat) (w : World) (h64 : n < 256 ^ 8) :
    Calls Try.prog 118 #[.int .u64 n, .int .i64 2] w fun e w' => e = .returned (.tuple #[.string ⟨(putN 2 n).toArray⟩, .bool (decide (n < 65536))]) ∧ Below w.heap.size w w' := by
  unfold putN
  by_cases h : n < 65536
  · rw [decide_eq_true h, if_pos (by simpa using h)]
    exact put_2 n w (by simpa using h)
  · rw [decide_eq_false h, if_neg (by simpa using h)]
    exact (put_no2 n w (by omega) h64).mono fun _ _ ⟨h1, h2⟩ => ⟨h1, h2 ▸ Below.refl _ _⟩
end Go.Proofs.Ytienlhnbmobinaa
end

section
/- chapter 22: a row's bytes (seg.Encode, the reference's) -/
namespace Go.Proofs.Ytienlhnbmobinaa
open Go.RowKit
set_option linter.unusedVariables false
set_option linter.unusedSimpArgs false
/-- The frame of seg.Encode: block B has the row, B + 1 what is written. -/
structure SEn (B : Nat) (w0 : World) (s : Sg) (t : ByteArray) (w : World) : Prop where
  below : Below B w0 w
  box : w.heap[B]? = some (.cells #[.int .u64 s.tx, .int .u8 s.st, .int .u64 s.num, .int .u32 s.fp, .int .u32 s.lp, .int .u32 s.hp, .int .u16 s.hs] 83 (0, 0))
  out : w.heap[B + 1]? = some (.cells #[.string t] 9 (0, 0))
theorem SEn.step {B : Nat} {w0 w wz : World} {s : Sg} {t : ByteArray} (h : SEn B w0 s t w) (hb : Below w.heap.size w wz) (t' : ByteArray) : SEn B w0 s t' (wz.setCell ⟨B + 1, 0, none⟩ (.string t')) := by
  have hlt := blk_lt h.out
  exact ⟨(h.below.trans (hb.mono (by omega))).setCell (by show B ≤ B + 1; omega) _, set_keep ((hb.block _ (blk_lt h.box)).trans h.box) (by omega), blk_set ((hb.block _ hlt).trans h.out) 0 _⟩
theorem SEn.keep {B : Nat} {w0 w wz : World} {s : Sg} {t : ByteArray} (h : SEn B w0 s t w) (hb : Below w.heap.size w wz) : SEn B w0 s t wz :=
  ⟨h.below.trans (hb.mono (Nat.le_of_lt (blk_lt h.box))), (hb.block _ (blk_lt h.box)).trans h.box, (hb.block _ (blk_lt h.out)).trans h.out⟩
theorem SEn.new (w : World) (s : Sg) : SEn w.heap.size w s ⟨#[]⟩ ((w.alloc (.cells #[.int .u64 s.tx, .int .u8 s.st, .int .u64 s.num, .int .u32 s.fp, .int .u32 s.lp, .int .u32 s.hp, .int .u16 s.hs] 83)).alloc (.cells #[.string ⟨#[]⟩] 9)) := by
  have z1 : (w.alloc (.cells #[.int .u64 s.tx, .int .u8 s.st, .int .u64 s.num, .int .u32 s.fp, .int .u32 s.lp, .int .u32 s.hp, .int .u16 s.hs] 83)).heap.size = w.heap.size + 1 := by simp
  refine ⟨((Below.refl _ _).alloc (Nat.le_refl _) _).alloc (by simp) _, heap_keep (heap_alloc_new w _), ?_⟩
  have := heap_alloc_new (w.alloc (.cells #[.int .u64 s.tx, .int .u8 s.st, .int .u64 s.num, .int .u32 s.fp, .int .u32 s.lp, .int .u32 s.hp, .int .u16 s.hs] 83)) (.cells #[.string ⟨#[]⟩] 9)
  rw [z1] at this
  exact this
set_option maxHeartbeats 1000000 in
set_option maxRecDepth 100000 in
theorem segPutc (B n k : Nat) (s : Sg) (t x : ByteArray) (w0 w : World) (h : SEn B w0 s t w) (ht : t.size ≤ 100) (hx : x.size ≤ 8)
    (P : ∀ W, Calls Try.prog 118 #[.int .u64 n, .int .i64 k] W fun e w' => e = .returned (.tuple #[.string x, .bool true]) ∧ Below W.heap.size W w') :
    Calls Try.prog 117 #[.int .u64 n, .int .i64 k, .pointer (some ⟨B + 1, 0, none⟩)] w fun e w' => e = .returned (.tuple #[]) ∧ SEn B w0 s (t ++ x) w' := by
  have P0 := Lib.hid P
  have H := Lib.hid h
  clear P h
  go_enter Try.func117, Try.ntmps117
  go_wp2_with fail
  refine (P0.out _).mono ?_
  rintro e w1 ⟨rfl, hb⟩
  have H1 := H.out.keep hb
  have c1 := blk_cell H1.out 0
  have f1 := blk_frozen H1.out 0
  have Hb := Lib.hid hb
  clear hb H1 P0
  go_wp2_with fail
  go_end0
  exact ⟨rfl, H.out.step Hb.out _⟩
set_option maxHeartbeats 4000000 in
set_option maxRecDepth 100000 in
theorem segEncode_any (s : Sg) (w : World) (hw : s.wf) : Calls Try.prog 58 #[sgV s] w fun e w' => e = .returned (.tuple #[.string ⟨s.out.1.toArray⟩, .int .i64 s.out.2]) ∧ Below w.heap.size w w' := by
  have M := Lib.hid fun W => segMay_any s W
  unfold sgV at *
  have HE := Lib.hid (SEn.new w s)
  obtain ⟨h0, h1, h2, h3, h4, h5, h6⟩ := hw
  have N0 := fun W => put_8 s.tx W h0
  have z0 : (⟨(be 8 s.tx).toArray⟩ : ByteArray).size ≤ 8 := by simp [ByteArray.size, be_length]
  have N1 := fun W => put_1 s.st W (by simpa using h1)
  have z1 : (⟨(be 1 s.st).toArray⟩ : ByteArray).size ≤ 1 := by simp [ByteArray.size, be_length]
  have N2 := fun W => put_8 s.num W h2
  have z2 : (⟨(be 8 s.num).toArray⟩ : ByteArray).size ≤ 8 := by simp [ByteArray.size, be_length]
  have N3 := fun W => put_4 s.fp W h3
  have z3 : (⟨(be 4 s.fp).toArray⟩ : ByteArray).size ≤ 4 := by simp [ByteArray.size, be_length]
  have N4 := fun W => put_4 s.lp W h4
  have z4 : (⟨(be 4 s.lp).toArray⟩ : ByteArray).size ≤ 4 := by simp [ByteArray.size, be_length]
  have N5 := fun W => put_4 s.hp W h5
  have z5 : (⟨(be 4 s.hp).toArray⟩ : ByteArray).size ≤ 4 := by simp [ByteArray.size, be_length]
  have N6 := fun W => put_2 s.hs W h6
  have z6 : (⟨(be 2 s.hs).toArray⟩ : ByteArray).size ≤ 2 := by simp [ByteArray.size, be_length]
  have hfin : Hid ((((((((⟨#[]⟩ : ByteArray) ++ ⟨(be 8 s.tx).toArray⟩) ++ ⟨(be 1 s.st).toArray⟩) ++ ⟨(be 8 s.num).toArray⟩) ++ ⟨(be 4 s.fp).toArray⟩) ++ ⟨(be 4 s.lp).toArray⟩) ++ ⟨(be 4 s.hp).toArray⟩) ++ ⟨(be 2 s.hs).toArray⟩ = (⟨s.enc.toArray⟩ : ByteArray)) := by
    apply bytes_ext
    simp only [ByteArray.data_append, Array.toList_append, Sg.enc]
    simp
  generalize (⟨(be 8 s.tx).toArray⟩ : ByteArray) = x0 at N0 z0 hfin
  generalize (⟨(be 1 s.st).toArray⟩ : ByteArray) = x1 at N1 z1 hfin
  generalize (⟨(be 8 s.num).toArray⟩ : ByteArray) = x2 at N2 z2 hfin
  generalize (⟨(be 4 s.fp).toArray⟩ : ByteArray) = x3 at N3 z3 hfin
  generalize (⟨(be 4 s.lp).toArray⟩ : ByteArray) = x4 at N4 z4 hfin
  generalize (⟨(be 4 s.hp).toArray⟩ : ByteArray) = x5 at N5 z5 hfin
  generalize (⟨(be 2 s.hs).toArray⟩ : ByteArray) = x6 at N6 z6 hfin
  have C0 := Lib.hid fun (t : ByteArray) (W : World) (h : SEn w.heap.size w s t W) (ht : t.size ≤ 100) => segPutc w.heap.size s.tx 8 s t x0 w W h ht (by omega) N0
  have C1 := Lib.hid fun (t : ByteArray) (W : World) (h : SEn w.heap.size w s t W) (ht : t.size ≤ 100) => segPutc w.heap.size s.st 1 s t x1 w W h ht (by omega) N1
  have C2 := Lib.hid fun (t : ByteArray) (W : World) (h : SEn w.heap.size w s t W) (ht : t.size ≤ 100) => segPutc w.heap.size s.num 8 s t x2 w W h ht (by omega) N2
  have C3 := Lib.hid fun (t : ByteArray) (W : World) (h : SEn w.heap.size w s t W) (ht : t.size ≤ 100) => segPutc w.heap.size s.fp 4 s t x3 w W h ht (by omega) N3
  have C4 := Lib.hid fun (t : ByteArray) (W : World) (h : SEn w.heap.size w s t W) (ht : t.size ≤ 100) => segPutc w.heap.size s.lp 4 s t x4 w W h ht (by omega) N4
  have C5 := Lib.hid fun (t : ByteArray) (W : World) (h : SEn w.heap.size w s t W) (ht : t.size ≤ 100) => segPutc w.heap.size s.hp 4 s t x5 w W h ht (by omega) N5
  have C6 := Lib.hid fun (t : ByteArray) (W : World) (h : SEn w.heap.size w s t W) (ht : t.size ≤ 100) => segPutc w.heap.size s.hs 2 s t x6 w W h ht (by omega) N6
  clear N0 N1 N2 N3 N4 N5 N6
  have HO : Hid (s.out = if s.may then (s.enc, 0) else ([], 2)) := rfl
  generalize s.out = O at *
  have hl0 : s.tx < 18446744073709551616 := h0
  have hl2 : s.num < 18446744073709551616 := h2
  have hl3 : s.fp < 4294967296 := h3
  have hl4 : s.lp < 4294967296 := h4
  have hl5 : s.hp < 4294967296 := h5
  have hl6 : s.hs < 65536 := h6
  clear h0 h2 h3 h4 h5 h6
  generalize s.enc = en at *
  generalize s.may = B at *
  go_enter Try.func58, Try.ntmps58
  have i0 := blk_cell HE.out.box 0
  have i1 := blk_cell HE.out.box 1
  have i2 := blk_cell HE.out.box 2
  have i3 := blk_cell HE.out.box 3
  have i4 := blk_cell HE.out.box 4
  have i5 := blk_cell HE.out.box 5
  have i6 := blk_cell HE.out.box 6
  go_wp2_with fail
  refine (M.out _).mono ?_
  rintro e w1 ⟨rfl, hb⟩
  have H1 := Lib.hid (HE.out.keep hb)
  clear hb HE M i0 i1 i2 i3 i4 i5 i6
  cases B with
  | false =>
    have c1 := blk_cell H1.out.out 0
    have f1 := blk_frozen H1.out.out 0
    have B1 : Hid (Below w.heap.size w (w1.setCell ⟨w.heap.size + 1, 0, none⟩ (.string ⟨#[]⟩))) := H1.out.below.setCell (by show w.heap.size ≤ w.heap.size + 1; omega) _
    have R1 := blk_cell (blk_set H1.out.out 0 (.string ⟨#[]⟩)) 0
    go_wp2_with fail
    refine bodyPost_ret (v := .tuple #[.string ⟨#[]⟩, .int .i64 2]) (by simp [results, Try.results58, go_sem, R1]) rfl ⟨?_, B1.out⟩
    exact congrArg Ending.returned (by rw [HO.out]; rfl)
  | true =>
    have i0 := blk_cell H1.out.box 0
    go_wp2_with fail
    refine (C0.out _ _ H1.out (by have h0 : (⟨#[]⟩ : ByteArray).size = 0 := rfl; (try simp only [ByteArray.size_append]); omega)).mono ?_
    rintro e w2 ⟨rfl, h2⟩
    have H2 := Lib.hid h2
    clear h2 H1 C0 i0
    have i1 := blk_cell H2.out.box 1
    go_wp2_with fail
    refine (C1.out _ _ H2.out (by have h0 : (⟨#[]⟩ : ByteArray).size = 0 := rfl; (try simp only [ByteArray.size_append]); omega)).mono ?_
    rintro e w3 ⟨rfl, h3⟩
    have H3 := Lib.hid h3
    clear h3 H2 C1 i1
    have i2 := blk_cell H3.out.box 2
    go_wp2_with fail
    refine (C2.out _ _ H3.out (by have h0 : (⟨#[]⟩ : ByteArray).size = 0 := rfl; (try simp only [ByteArray.size_append]); omega)).mono ?_
    rintro e w4 ⟨rfl, h4⟩
    have H4 := Lib.hid h4
    clear h4 H3 C2 i2
    have i3 := blk_cell H4.out.box 3
    go_wp2_with fail
    refine (C3.out _ _ H4.out (by have h0 : (⟨#[]⟩ : ByteArray).size = 0 := rfl; (try simp only [ByteArray.size_append]); omega)).mono ?_
    rintro e w5 ⟨rfl, h5⟩
    have H5 := Lib.hid h5
    clear h5 H4 C3 i3
    have i4 := blk_cell H5.out.box 4
    go_wp2_with fail
    refine (C4.out _ _ H5.out (by have h0 : (⟨#[]⟩ : ByteArray).size = 0 := rfl; (try simp only [ByteArray.size_append]); omega)).mono ?_
    rintro e w6 ⟨rfl, h6⟩
    have H6 := Lib.hid h6
    clear h6 H5 C4 i4
    have i5 := blk_cell H6.out.box 5
    go_wp2_with fail
    refine (C5.out _ _ H6.out (by have h0 : (⟨#[]⟩ : ByteArray).size = 0 := rfl; (try simp only [ByteArray.size_append]); omega)).mono ?_
    rintro e w7 ⟨rfl, h7⟩
    have H7 := Lib.hid h7
    clear h7 H6 C5 i5
    have i6 := blk_cell H7.out.box 6
    go_wp2_with fail
    refine (C6.out _ _ H7.out (by have h0 : (⟨#[]⟩ : ByteArray).size = 0 := rfl; (try simp only [ByteArray.size_append]); omega)).mono ?_
    rintro e w8 ⟨rfl, h8⟩
    have H8 := Lib.hid h8
    clear h8 H7 C6 i6
    rw [hfin.out] at H8
    have c1 := blk_cell H8.out.out 0
    have f1 := blk_frozen H8.out.out 0
    have B1 : Hid (Below w.heap.size w (w8.setCell ⟨w.heap.size + 1, 0, none⟩ (.string ⟨en.toArray⟩))) := H8.out.below.setCell (by show w.heap.size ≤ w.heap.size + 1; omega) _
    have R1 := blk_cell (blk_set H8.out.out 0 (.string ⟨en.toArray⟩)) 0
    go_wp2_with fail
    refine bodyPost_ret (v := .tuple #[.string ⟨en.toArray⟩, .int .i64 0]) (by simp [results, Try.results58, go_sem, R1]) rfl ⟨?_, B1.out⟩
    exact congrArg Ending.returned (by rw [HO.out]; rfl)
theorem refSegPut (n k : Nat) (x : ByteArray) (w : World) (P : ∀ W, Calls Try.prog 165 #[.int .u64 n, .int .i64 k] W fun e w' => e = .returned (.tuple #[.string x, .bool true]) ∧ Below W.heap.size W w') :
    Calls Try.prog 119 #[.int .u64 n, .int .i64 k] w fun e w' => e = .returned (.string x) ∧ Below w.heap.size w w' := by
  have C := Lib.hid P
  clear P
  go_enter Try.func119, Try.ntmps119
  go_wp2_with fail
  refine (C.out _).mono ?_
  rintro e w1 ⟨rfl, hb⟩
  go_wp2_with fail
  go_ret
  exact ⟨rfl, hb⟩
set_option maxHeartbeats 4000000 in
set_option maxRecDepth 100000 in
theorem refSegEncode_any (s : Sg) (w : World) (hw : s.wf) : Calls Try.prog 59 #[sgV s] w fun e w' => e = .returned (.string ⟨s.out.1.toArray⟩) ∧ Below w.heap.size w w' := by
  have M := Lib.hid fun W => refSegMay_any s W
  unfold sgV at *
  have hbx := heap_alloc_new w (.cells #[.int .u64 s.tx, .int .u8 s.st, .int .u64 s.num, .int .u32 s.fp, .int .u32 s.lp, .int .u32 s.hp, .int .u16 s.hs] 83)
  have B0 := Lib.hid (alloc_below w (.cells #[.int .u64 s.tx, .int .u8 s.st, .int .u64 s.num, .int .u32 s.fp, .int .u32 s.lp, .int .u32 s.hp, .int .u16 s.hs] 83))
  obtain ⟨h0, h1, h2, h3, h4, h5, h6⟩ := hw
  have N0 := fun W => refSegPut s.tx 8 _ W (fun W => refPut_8 s.tx W h0)
  have z0 : (⟨(be 8 s.tx).toArray⟩ : ByteArray).size ≤ 8 := by simp [ByteArray.size, be_length]
  have N1 := fun W => refSegPut s.st 1 _ W (fun W => refPut_1 s.st W (by simpa using h1))
  have z1 : (⟨(be 1 s.st).toArray⟩ : ByteArray).size ≤ 1 := by simp [ByteArray.size, be_length]
  have N2 := fun W => refSegPut s.num 8 _ W (fun W => refPut_8 s.num W h2)
  have z2 : (⟨(be 8 s.num).toArray⟩ : ByteArray).size ≤ 8 := by simp [ByteArray.size, be_length]
  have N3 := fun W => refSegPut s.fp 4 _ W (fun W => refPut_4 s.fp W h3)
  have z3 : (⟨(be 4 s.fp).toArray⟩ : ByteArray).size ≤ 4 := by simp [ByteArray.size, be_length]
  have N4 := fun W => refSegPut s.lp 4 _ W (fun W => refPut_4 s.lp W h4)
  have z4 : (⟨(be 4 s.lp).toArray⟩ : ByteArray).size ≤ 4 := by simp [ByteArray.size, be_length]
  have N5 := fun W => refSegPut s.hp 4 _ W (fun W => refPut_4 s.hp W h5)
  have z5 : (⟨(be 4 s.hp).toArray⟩ : ByteArray).size ≤ 4 := by simp [ByteArray.size, be_length]
  have N6 := fun W => refSegPut s.hs 2 _ W (fun W => refPut_2 s.hs W h6)
  have z6 : (⟨(be 2 s.hs).toArray⟩ : ByteArray).size ≤ 2 := by simp [ByteArray.size, be_length]
  have hfin : Hid ((((((((⟨(be 8 s.tx).toArray⟩ : ByteArray) ++ ⟨(be 1 s.st).toArray⟩) ++ ⟨(be 8 s.num).toArray⟩) ++ ⟨(be 4 s.fp).toArray⟩) ++ ⟨(be 4 s.lp).toArray⟩) ++ ⟨(be 4 s.hp).toArray⟩) ++ ⟨(be 2 s.hs).toArray⟩) = (⟨s.enc.toArray⟩ : ByteArray)) := by
    apply bytes_ext
    simp only [ByteArray.data_append, Array.toList_append, Sg.enc]
    simp
  generalize (⟨(be 8 s.tx).toArray⟩ : ByteArray) = x0 at N0 z0 hfin
  generalize (⟨(be 1 s.st).toArray⟩ : ByteArray) = x1 at N1 z1 hfin
  generalize (⟨(be 8 s.num).toArray⟩ : ByteArray) = x2 at N2 z2 hfin
  generalize (⟨(be 4 s.fp).toArray⟩ : ByteArray) = x3 at N3 z3 hfin
  generalize (⟨(be 4 s.lp).toArray⟩ : ByteArray) = x4 at N4 z4 hfin
  generalize (⟨(be 4 s.hp).toArray⟩ : ByteArray) = x5 at N5 z5 hfin
  generalize (⟨(be 2 s.hs).toArray⟩ : ByteArray) = x6 at N6 z6 hfin
  have C0 := Lib.hid N0
  have C1 := Lib.hid N1
  have C2 := Lib.hid N2
  have C3 := Lib.hid N3
  have C4 := Lib.hid N4
  have C5 := Lib.hid N5
  have C6 := Lib.hid N6
  clear N0 N1 N2 N3 N4 N5 N6
  have HO : Hid (s.out = if s.may then (s.enc, 0) else ([], 2)) := rfl
  generalize s.out = O at *
  have hl0 : s.tx < 18446744073709551616 := h0
  have hl2 : s.num < 18446744073709551616 := h2
  have hl3 : s.fp < 4294967296 := h3
  have hl4 : s.lp < 4294967296 := h4
  have hl5 : s.hp < 4294967296 := h5
  have hl6 : s.hs < 65536 := h6
  clear h0 h2 h3 h4 h5 h6
  generalize s.enc = en at *
  generalize s.may = B at *
  generalize s.tx = f0 at *
  generalize s.st = f1 at *
  generalize s.num = f2 at *
  generalize s.fp = f3 at *
  generalize s.lp = f4 at *
  generalize s.hp = f5 at *
  generalize s.hs = f6 at *
  have hlt : w.heap.size < (w.alloc (.cells #[.int .u64 f0, .int .u8 f1, .int .u64 f2, .int .u32 f3, .int .u32 f4, .int .u32 f5, .int .u16 f6] 83)).heap.size := by simp
  go_enter Try.func59, Try.ntmps59
  go_upto_region 1 with fail
  generalize w.alloc (.cells #[.int .u64 f0, .int .u8 f1, .int .u64 f2, .int .u32 f3, .int .u32 f4, .int .u32 f5, .int .u16 f6] 83) = w0 at *
  obtain ⟨g, hg⟩ : ∃ g, g = w.heap.size := ⟨_, rfl⟩
  rw [← hg] at hbx hlt
  have HG := Lib.hid hg
  rw [← hg]
  clear hg
  have i0 := blk_cell hbx 0
  have i1 := blk_cell hbx 1
  have i2 := blk_cell hbx 2
  have i3 := blk_cell hbx 3
  have i4 := blk_cell hbx 4
  have i5 := blk_cell hbx 5
  have i6 := blk_cell hbx 6
  have HX := Lib.hid hbx
  clear hbx
  go_wp2_with fail
  refine (M.out _).mono ?_
  rintro e w1 ⟨rfl, hb⟩
  have B1 := Lib.hid (below_then B0.out hb)
  have hx1 := (hb.block g hlt).trans HX.out
  have hlt1 := blk_lt hx1
  clear hb HX B0 M i0 i1 i2 i3 i4 i5 i6 hlt
  cases B with
  | false =>
    go_wp2_with fail
    go_ret
    exact ⟨by rw [HO.out]; rfl, by rw [HG.out] at *; exact B1.out⟩
  | true =>
    have e0 := ext_cell (blk_cell hx1 0) hlt1
    have e1 := ext_cell (blk_cell hx1 1) hlt1
    have e2 := ext_cell (blk_cell hx1 2) hlt1
    have e3 := ext_cell (blk_cell hx1 3) hlt1
    have e4 := ext_cell (blk_cell hx1 4) hlt1
    have e5 := ext_cell (blk_cell hx1 5) hlt1
    have e6 := ext_cell (blk_cell hx1 6) hlt1
    clear hx1
    go_wp2_with fail
    refine wp_region_ext w1.heap.size (by kernel_rfl) (by kernel_rfl) ?_
    repeat (go_big_quiet_step (first
        | (go_at_call_of 119 (Value.int .u64 f0); with_reducible exact ext_call _ (Nat.le_refl _) (C0.out _))
        | (go_at_call_of 119 (Value.int .u64 f1); with_reducible exact ext_call _ (Nat.le_refl _) (C1.out _))
        | (go_at_call_of 119 (Value.int .u64 f2); with_reducible exact ext_call _ (Nat.le_refl _) (C2.out _))
        | (go_at_call_of 119 (Value.int .u64 f3); with_reducible exact ext_call _ (Nat.le_refl _) (C3.out _))
        | (go_at_call_of 119 (Value.int .u64 f4); with_reducible exact ext_call _ (Nat.le_refl _) (C4.out _))
        | (go_at_call_of 119 (Value.int .u64 f5); with_reducible exact ext_call _ (Nat.le_refl _) (C5.out _))
        | (go_at_call_of 119 (Value.int .u64 f6); with_reducible exact ext_call _ (Nat.le_refl _) (C6.out _))))
    refine wpQuiet_nil ?_
    rintro _ ⟨X, rfl⟩
    have B2 := Lib.hid (below_then B1.out X.below)
    rw [hfin.out]
    go_wp2_with fail
    go_ret
    exact ⟨by rw [HO.out]; rfl, by rw [HG.out] at *; exact B2.out⟩
end Go.Proofs.Ytienlhnbmobinaa
end
