/- Kept of our texts for this claim: OpenFlat Plains Base TextsP TextsIn SpaceNums -/
import Derived.Test.YtienlhnbmobinaaRows
import Derived.WideShapes
import Derived.ChangeArms
import Derived.ChangeOld
import Derived.Below
import Derived.OpenShut
import Derived.ProofKit
import Derived.WalkKit
import Derived.WalkLawsBesides
import Derived.WalkSpells
import Derived.LoopTactic
import Derived.WalkMore
import Derived.LoopN
import Derived.Laws.BitsAllLaws
import Derived.Laws.IdiomStrings
import Derived.BigQuiet
import Derived.Deep.QuietTactic
import Derived.Deep.DeepCutAuto
import Derived.Deep.RegionHeld3
import Derived.Deep.DrawnRows
import Derived.Lib.Hide
import Derived.Outline
import Derived.Deep.DeepMust
import Derived.Handy
import Derived.Deep.Slices
import Derived.Deep.Fields
import Derived.ChangeSame
import Derived.SizedLaws
import Derived.Lib.Strings
import Derived.Lib.Bytealg
import Derived.Laws.Cover1
import Derived.StillTail
import Derived.OwnWalk
import Derived.Laws.OwnMore
import Derived.Maps.RangeWalk
import Derived.Maps.OwnSet
import Derived.SliceStrings
section
/- A struct that came in by value, laid flat: its cells one by one.; A slice of structs that came in: its cells one by one -/
namespace Go.Proofs.Ytienlhnbmobinaa
open Go.RowKit
set_option linter.unusedVariables false
set_option linter.unusedSimpArgs false
section
open Go.ChangeShapes Go.WideShapes
variable {H : Type} {enc : TypeId × Value → H} {P : Program} {w : World} {base : Nat} {spare : Nat → Bool} {held : Bool}
/-- A cell's kind, in a struct laid flat. -/
inductive Sc where
  | u8 | u16 | u32 | u64 | i64 | bool | str | raw (t : TypeId)
  deriving DecidableEq
theorem natOf {k : IntKind} {n : Int} {b : Nat} (h : (Lit.int k n).wf = true) (hk : k.min = 0) (hb : k.max + 1 = (b : Int)) : ∃ m : Nat, n = m ∧ m < b := by
  simp only [Lit.wf, Bool.and_eq_true, decide_eq_true_eq] at h
  refine ⟨n.toNat, ?_, ?_⟩ <;> omega
end
/-- A slice of numbers that came in: nil, or a row of 'cap' cells, the numbers 'zs' (the first 'len' its elements, the rest spare), each fitting its kind. -/
def IsRow (k : IntKind) (w : World) (a : Option Addr) (len cap : Nat) (zs : List Int) : Prop :=
  (a = none ∧ len = 0 ∧ cap = 0 ∧ zs = []) ∨
  ∃ x, a = some x ∧ len ≤ cap ∧ cap ≤ maxLen ∧ zs.length = cap ∧ (∀ i, i < zs.length → w.cell? (x.add i) = some (.int k (zs.getD i 0))) ∧ ∀ n ∈ zs, (Lit.int k n).wf = true
end Go.Proofs.Ytienlhnbmobinaa
namespace Go.Proofs.Ytienlhnbmobinaa
open Go.RowKit
set_option linter.unusedVariables false
set_option linter.unusedSimpArgs false
section
open Go.ChangeShapes Go.WideShapes Go.Deep
variable {H : Type} {enc : TypeId × Value → H} {P : Program} {w : World} {base : Nat} {spare : Nat → Bool} {held : Bool}
end
section
open Go.ChangeShapes Go.WideShapes Go.Deep
variable {H : Type} {enc : TypeId × Value → H} {P : Program} {w : World} {base : Nat} {spare : Nat → Bool} {held : Bool}
end
end Go.Proofs.Ytienlhnbmobinaa
end

section
/- Plain words on numbers in bytes: big-endian bytes of a number, the number of bytes, that the two go back and forth. No program is named here.; Plain words on strings for package key: what two lists begin with alike, their order, and that it is one. No program is named here.; Plain words on rows: which may be. No program is named here.; Plain words on entries: which may be, their bytes, which bytes are one. No program is named here.; Pages as data: which may be, their room. No program is named here.; Nodes as data: their keys, where a key is, what a page is with a text, without one, its parts. No program is named here.; The keys of a node's rows, one by one; they rise. No program is named here.; What a node answers: a key at a place, where a key is, below which child it is. No program is named here.; What a page is with a text at a place, without one; split, merged. No program is named here.; What a page is split into. No program is named here. -/
namespace Go.Proofs.Ytienlhnbmobinaa
/-- The k last bytes of n, the greatest first. -/
def be : Nat → Nat → List UInt8
  | 0, _ => []
  | k + 1, n => be k (n / 256) ++ [UInt8.ofNat n]
/-- The number that bytes are, the greatest first. -/
def un (l : List UInt8) : Nat := l.foldl (fun a c => 256 * a + c.toNat) 0
theorem be_length : ∀ k n : Nat, (be k n).length = k
  | 0, _ => rfl
  | k + 1, n => by simp [be, be_length k]
theorem un_snoc (l : List UInt8) (c : UInt8) : un (l ++ [c]) = 256 * un l + c.toNat := by simp [un]
theorem u8_ofNat (n : Nat) : (UInt8.ofNat n).toNat = n % 256 := by simp
theorem un_be : ∀ k n : Nat, un (be k n) = n % 256 ^ k
  | 0, n => by simp [be, un, Nat.mod_one]
  | k + 1, n => by
    rw [be, un_snoc, un_be k, u8_ofNat, Nat.pow_succ, Nat.mul_comm (256 ^ k) 256, Nat.mod_mul]
    omega
theorem un_be_fits (k n : Nat) (h : n < 256 ^ k) : un (be k n) = n := by rw [un_be, Nat.mod_eq_of_lt h]
theorem snoc_cases (l : List UInt8) : l = [] ∨ ∃ i c, l = i ++ [c] := by
  rcases List.eq_nil_or_concat l with h | ⟨i, c, h⟩
  · exact .inl h
  · exact .inr ⟨i, c, by simpa using h⟩
theorem un_lt : ∀ (n : Nat) (l : List UInt8), l.length = n → un l < 256 ^ n := by
  intro n
  induction n with
  | zero => intro l h; rw [List.length_eq_zero_iff.1 h]; simp [un]
  | succ n ih =>
    intro l h
    rcases snoc_cases l with rfl | ⟨i, c, rfl⟩
    · simp at h
    · have := ih i (by simpa using h)
      have hc := c.toNat_lt
      rw [un_snoc, Nat.pow_succ]
      omega
theorem be_un : ∀ (n : Nat) (l : List UInt8), l.length = n → be n (un l) = l := by
  intro n
  induction n with
  | zero => intro l h; rw [List.length_eq_zero_iff.1 h]; rfl
  | succ n ih =>
    intro l h
    rcases snoc_cases l with rfl | ⟨i, c, rfl⟩
    · simp at h
    · have hc := c.toNat_lt
      have hi := ih i (by simpa using h)
      rw [be, un_snoc, show (256 * un i + c.toNat) / 256 = un i by omega, hi]
      congr 2
      rw [← UInt8.toNat_inj, u8_ofNat]
      omega
end Go.Proofs.Ytienlhnbmobinaa
namespace Go.Proofs.Ytienlhnbmobinaa
open Go.Lib (compareBytes)
end Go.Proofs.Ytienlhnbmobinaa
namespace Go.Proofs.Ytienlhnbmobinaa
/-- Which rows may be: key's and value's lengths, roll's page and slot, pad. -/
def MayRow (k v p s : Nat) (d : Int) : Prop := 1 ≤ k ∧ k ≤ 48 ∧ 0 ≤ d ∧ d ≤ 96 ∧ (v : Int) + d ≤ 96 ∧ p ≤ 1024 ∧ (0 < p ∨ s = 0)
instance (k v p s : Nat) (d : Int) : Decidable (MayRow k v p s d) := by unfold MayRow; infer_instance
/-- What a reading of k bytes at a place gives: their number, or 0. -/
def rdNum (s : List UInt8) (i k : Nat) : Nat := if i + k ≤ s.length then un ((s.drop i).take k) else 0
/-- What a reading of a piece of n bytes at a place gives: it, or nothing. -/
def rdText (s : List UInt8) (i n : Nat) : List UInt8 := if i + n ≤ s.length then (s.drop i).take n else []
end Go.Proofs.Ytienlhnbmobinaa
namespace Go.Proofs.Ytienlhnbmobinaa
end Go.Proofs.Ytienlhnbmobinaa
namespace Go.Proofs.Ytienlhnbmobinaa
/-- A page, as data. -/
structure Pg where
  kind : Nat
  level : Nat
  id : Nat
  lsn : Nat
  next : Nat
  rows : List (List UInt8)
  deriving DecidableEq
/-- No page. -/
def Pg.zero : Pg := ⟨0, 0, 0, 0, 0, []⟩
/-- What rows weigh: four bytes of the directory each besides. -/
def weightB (rows : List (List UInt8)) : Nat := (rows.map fun r => 4 + r.length).sum
/-- A page's head is one that may be. -/
def headOk (kind id next : Nat) : Bool := decide (kind ≤ 5 ∧ 1 ≤ id ∧ id ≤ 1024 ∧ next ≤ 1024)
theorem headOk_iff {kind id next : Nat} : headOk kind id next = true ↔ kind ≤ 5 ∧ 1 ≤ id ∧ id ≤ 1024 ∧ next ≤ 1024 := by unfold headOk; rw [decide_eq_true_iff]
/-- Which pages may be. -/
def Pg.may (p : Pg) : Bool := headOk p.kind p.id p.next && decide (weightB p.rows ≤ 484)
theorem weightB_nil : weightB [] = 0 := rfl
theorem weightB_cons (r : List UInt8) (rows : List (List UInt8)) : weightB (r :: rows) = 4 + r.length + weightB rows := by simp [weightB]
theorem weightB_append (a b : List (List UInt8)) : weightB (a ++ b) = weightB a + weightB b := by simp [weightB, List.sum_append]
theorem weightB_take (rows : List (List UInt8)) (k : Nat) (h : k < rows.length) : weightB (rows.take (k + 1)) = weightB (rows.take k) + (4 + rows[k].length) := by
  rw [List.take_succ_eq_append_getElem h, weightB_append, weightB_cons, weightB_nil]
  omega
theorem weightB_take_le (rows : List (List UInt8)) (k : Nat) : weightB (rows.take k) ≤ weightB rows := by
  conv => rhs; rw [← List.take_append_drop k rows, weightB_append]
  omega
theorem weightB_mem {rows : List (List UInt8)} {r : List UInt8} (h : r ∈ rows) : 4 + r.length ≤ weightB rows := by
  induction rows with
  | nil => cases h
  | cons x rest ih =>
    rw [weightB_cons]
    rcases List.mem_cons.1 h with rfl | h
    · omega
    · have := ih h; omega
theorem weightB_length (rows : List (List UInt8)) : 4 * rows.length ≤ weightB rows := by
  induction rows with
  | nil => simp
  | cons x rest ih => rw [weightB_cons, List.length_cons]; omega
end Go.Proofs.Ytienlhnbmobinaa
namespace Go.Proofs.Ytienlhnbmobinaa
open Go.Lib (compareBytes)
end Go.Proofs.Ytienlhnbmobinaa
namespace Go.Proofs.Ytienlhnbmobinaa
open Go.Lib (compareBytes)
end Go.Proofs.Ytienlhnbmobinaa
namespace Go.Proofs.Ytienlhnbmobinaa
open Go.Lib (compareBytes)
end Go.Proofs.Ytienlhnbmobinaa
namespace Go.Proofs.Ytienlhnbmobinaa
open Go.Lib (compareBytes)
def putRows (rows : List (List UInt8)) (i : Nat) (x : List UInt8) (is : Bool) : List (List UInt8) := rows.take i ++ x :: rows.drop (if is then i + 1 else i)
def Pg.with (p : Pg) (rows : List (List UInt8)) : Pg := ⟨p.kind, p.level, p.id, p.lsn, p.next, rows⟩
end Go.Proofs.Ytienlhnbmobinaa
namespace Go.Proofs.Ytienlhnbmobinaa
open Go.Lib (compareBytes)
end Go.Proofs.Ytienlhnbmobinaa
end

section
/- Facts on blocks of memory, rows of bytes, texts: no function of the program is named here.; Regions that draw their order and hold calls that make memory: one walk of the lexical order serves, for the class of worlds in which what was there is as it was.; copy of a text into a row of bytes; a new row of zeros; A region that draws its order: quiet operations, then others one behind the other; Rows that grow: small facts on ownsRow, Below and grownBy; append of what another slice has; The frame but for a class of blocks.; rows in memory with some cells changed -/
namespace Go.Proofs.Ytienlhnbmobinaa
open Go.RowKit
set_option linter.unusedVariables false
set_option linter.unusedSimpArgs false
theorem ret_bool {a b : Bool} (h : a = b) : Ending.returned (.bool a) = .returned (.bool b) := by rw [h]
theorem blk_lt {w : World} {g : Nat} {o : Obj} (h : w.heap[g]? = some o) : g < w.heap.size := by
  rcases Nat.lt_or_ge g w.heap.size with hlt | hge
  · exact hlt
  · rw [Array.getElem?_eq_none hge] at h; cases h
theorem blk_cell {w : World} {g : Nat} {t : TypeId} {cs : Array Value} (h : w.heap[g]? = some (.cells cs t (0, 0))) (i : Nat) : w.cell? ⟨g, i, none⟩ = cs[i]? := cell_of_row w g i cs t (0, 0) h
theorem blk_frozen {w : World} {g : Nat} {t : TypeId} {cs : Array Value} (h : w.heap[g]? = some (.cells cs t (0, 0))) (i : Nat) : w.frozen? ⟨g, i, none⟩ = false := by
  simp [World.frozen?, h]
theorem blk_set {w : World} {g : Nat} {t : TypeId} {cs : Array Value} (h : w.heap[g]? = some (.cells cs t (0, 0))) (i : Nat) (u : Value) : (w.setCell ⟨g, i, none⟩ u).heap[g]? = some (.cells (cs.setIfInBounds i u) t (0, 0)) := by
  simp [World.setCell, Array.getElem?_modify, h]
theorem grown_set {w w' : World} {g i : Nat} {u : Value} (h : w.grownBy w' (some g)) : w.grownBy (w'.setCell ⟨g, i, none⟩ u) (some g) :=
  ⟨h.os, h.tape, h.output, by simpa [World.setCell] using h.size, fun k hk hne => by rw [Below.heap_setCell _ _ _ _ (fun e => hne (by rw [e]))]; exact h.block k hk hne⟩
theorem grown_below {w w' : World} (row : Option Nat) (h : Below w.heap.size w w') : w.grownBy w' row := ⟨h.os, h.tape, h.output, h.size, fun k hk _ => h.block k hk⟩
theorem heap_keep {w : World} {g : Nat} {o o' : Obj} (h : w.heap[g]? = some o') : (w.alloc o).heap[g]? = some o' := (Below.heap_alloc w o g (blk_lt h)).trans h
theorem set_keep {w : World} {g x j : Nat} {u : Value} {o : Obj} (h : w.heap[g]? = some o) (hne : g ≠ x) : (w.setCell ⟨x, j, none⟩ u).heap[g]? = some o := (Below.heap_setCell w ⟨x, j, none⟩ u g hne).trans h
theorem bytes_ext {a b : ByteArray} (h : a.data.toList = b.data.toList) : a = b := ByteArray.ext (Array.ext' h)
theorem set_lt {w : World} {x j : Nat} {u : Value} : (w.setCell ⟨x, j, none⟩ u).heap.size = w.heap.size := by simp [World.setCell]
theorem cell_lt {w : World} {q : Addr} {v : Value} (h : w.cell? q = some v) : q.block < w.heap.size := by
  rcases Nat.lt_or_ge q.block w.heap.size with hlt | hge
  · exact hlt
  · simp [World.cell?, Array.getElem?_eq_none hge] at h
theorem conv_block {P : Program} (w : World) (src e dst : TypeId) (hs : P.underlying src = some (.slice e)) (he : P.underlying e = some (.int .u8)) (hd : P.underlying dst = some .string)
    (C : Array Value) (t : TypeId) (off len cap : Nat) (h : ∀ i, i < len → C[off + i]? = some (.int .u8 ((((C.toList.drop off).take len).map intOf).getD i 0))) (hl : off + len ≤ C.size) :
    (convert src dst (.slice (some ⟨w.heap.size, off, none⟩) len cap)).run P (w.alloc (.cells C t)) = .ok (.string (strOfNums (((C.toList.drop off).take len).map intOf))) (w.alloc (.cells C t)) :=
  run_convert_bytes_arg _ src e hs he w.heap.size off len cap _ (by simp; omega) (fun i hi => by rw [World.cell?_alloc_mark]; exact h i hi) dst hd
theorem u8_same {a b : Nat} (h : a % 256 = b % 256) : UInt8.ofNat a = UInt8.ofNat b := by
  rw [← UInt8.toNat_inj]; simpa using h
theorem cons_same {a b : UInt8} {l l' : List UInt8} (h : a = b) (h' : l = l') : a :: l = b :: l' := by rw [h, h']
theorem str_same {l l' : List UInt8} (h : l = l') : (⟨l.toArray⟩ : ByteArray) = ⟨l'.toArray⟩ := by rw [h]
theorem ret_str2 {s s' : ByteArray} {v : Value} (h : s = s') : Ending.returned (.tuple #[.string s, v]) = .returned (.tuple #[.string s', v]) := by rw [h]
/-- A row of bytes that the program made: block g's first cells. None of them is frozen. -/
def RowAt (W : World) (g : Nat) (zs : List UInt8) : Prop :=
  ∃ (cs : Array Value) (t : TypeId) (f0 f1 : Nat), W.heap[g]? = some (.cells cs t (f0, f1)) ∧ zs.length ≤ cs.size ∧ (zs.length ≤ f0 ∨ f1 = 0) ∧ ∀ i (h : i < zs.length), cs[i]? = some (.int .u8 (zs[i].toNat : Int))
theorem RowAt.cell {W : World} {g : Nat} {zs : List UInt8} (h : RowAt W g zs) (i : Nat) (hi : i < zs.length) : W.cell? ⟨g, i, none⟩ = some (.int .u8 (zs[i].toNat : Int)) := by
  obtain ⟨cs, t, f0, f1, hb, hl, hf, hc⟩ := h
  rw [cell_of_row W g i cs t _ hb]
  exact hc i hi
theorem RowAt.frozen {W : World} {g : Nat} {zs : List UInt8} (h : RowAt W g zs) (i : Nat) (hi : i < zs.length) : W.frozen? ⟨g, i, none⟩ = false := by
  obtain ⟨cs, t, f0, f1, hb, hl, hf, hc⟩ := h
  simp [World.frozen?, hb]
  omega
theorem RowAt.lt {W : World} {g : Nat} {zs : List UInt8} (h : RowAt W g zs) : g < W.heap.size := by
  obtain ⟨cs, t, f0, f1, hb, _⟩ := h
  exact blk_lt hb
theorem RowAt.set {W : World} {g : Nat} {zs : List UInt8} (h : RowAt W g zs) (i : Nat) (u : UInt8) (hi : i < zs.length) : RowAt (W.setCell ⟨g, i, none⟩ (.int .u8 (u.toNat : Int))) g (zs.set i u) := by
  obtain ⟨cs, t, f0, f1, hb, hl, hf, hc⟩ := h
  refine ⟨cs.setIfInBounds i (.int .u8 (u.toNat : Int)), t, f0, f1, ?_, by simpa using hl, by simpa using hf, ?_⟩
  · simp [World.setCell, Array.getElem?_modify, hb]
  · intro j hj
    have hj' : j < zs.length := by simpa using hj
    by_cases hij : i = j
    · subst hij
      simp [Array.getElem?_setIfInBounds_self_of_lt (show i < cs.size by omega)]
    · rw [Array.getElem?_setIfInBounds_ne hij]
      simp only [List.getElem_set, if_neg hij]
      exact hc j hj'
theorem RowAt.of_eq {W W' : World} {g : Nat} {zs : List UInt8} (h : RowAt W g zs) (hb : W'.heap[g]? = W.heap[g]?) : RowAt W' g zs := by
  obtain ⟨cs, t, f0, f1, hx, hl, hf, hc⟩ := h
  exact ⟨cs, t, f0, f1, hb.trans hx, hl, hf, hc⟩
theorem RowAt.below {W W' : World} {g : Nat} {zs : List UInt8} (h : RowAt W g zs) (hb : Below W.heap.size W W') : RowAt W' g zs := h.of_eq (hb.block g h.lt)
end Go.Proofs.Ytienlhnbmobinaa
namespace Go.Proofs.Ytienlhnbmobinaa
open Go.RowKit
/-- A world in which all that lay below block B is as it was in w. -/
structure Ext (B : Nat) (w : World) where
  val : World
  below : Below B w val
instance (B : Nat) (w : World) : Nonempty (Ext B w) := ⟨⟨w, Below.refl B w⟩⟩
theorem wp_region_ext {P : Program} (B : Nat) {id : Nat} {Q : Exit → Act → World → Prop} {a : Act} {w : World} {l : List Oper} (hm : P.follows .mixedOrders = true) (hB : Region.lexB .any l.toArray = true)
    (h : wpQuiet P l.toArray (fun w' => ∃ x : Ext B w, w' = x.val) (fun a' => ∀ w', (∃ x : Ext B w, w' = x.val) → Q .normal a' w') l a) : (Code.region id l.toArray true).wp P Q a w :=
  wp_region_quiet (C := fun w' => ∃ x : Ext B w, w' = x.val) hm hB ⟨⟨_, (Below.refl B w).drew⟩, rfl⟩ (by simpa using h)
/-- A callee that makes memory of its own alone. -/
theorem ext_call {P : Program} {f : FuncId} {args : Array Value} {v : Value} {B : Nat} {w : World} (x : Ext B w) (hB : B ≤ w.heap.size)
    (h : Calls P f args x.val fun e w' => e = .returned v ∧ Below x.val.heap.size x.val w') : Calls P f args x.val fun e w'' => e = .returned v ∧ ∃ y : Ext B w, w'' = y.val :=
  h.mono fun _ _ ⟨he, hb⟩ => ⟨he, ⟨_, x.below.trans (hb.mono (Nat.le_trans hB x.below.size))⟩, rfl⟩
theorem ext_cell {B : Nat} {w : World} {b o : Nat} {v : Value} (h : w.cell? ⟨b, o, none⟩ = some v) (hb : b < B) : ∀ x : Ext B w, x.val.cell? ⟨b, o, none⟩ = some v :=
  fun x => (x.below.cell (p := ⟨b, o, none⟩) hb).trans h
end Go.Proofs.Ytienlhnbmobinaa
namespace Go.Proofs.Ytienlhnbmobinaa
open Go.RowKit
set_option linter.unusedVariables false
set_option linter.unusedSimpArgs false
theorem grown_refl (w : World) (r : Option Nat) : w.grownBy w r := grown_below r (Below.refl _ _)
theorem grown_trans {w w' w'' : World} {g : Nat} (h : w.grownBy w' (some g)) (h' : w'.grownBy w'' (some g)) : w.grownBy w'' (some g) :=
  ⟨h'.os.trans h.os, h'.tape.trans h.tape, h'.output.trans h.output, Nat.le_trans h.size h'.size, fun k hk hne => (h'.block k (Nat.lt_of_lt_of_le hk h.size) hne).trans (h.block k hk hne)⟩
end Go.Proofs.Ytienlhnbmobinaa
namespace Go.Proofs.Ytienlhnbmobinaa
open Go.RowKit
set_option linter.unusedVariables false
set_option linter.unusedSimpArgs false
section
variable {P : Program} {ops : Array Oper} {md : Region.Mode} {C : World → Prop}
end
end Go.Proofs.Ytienlhnbmobinaa
namespace Go.Proofs.Ytienlhnbmobinaa
open Go.RowKit
set_option linter.unusedVariables false
set_option linter.unusedSimpArgs false
theorem grown_drew {w w' : World} {r : Option Nat} (h : w.drew.grownBy w' r) : w.grownBy w' r := ⟨h.os, h.tape, h.output, h.size, h.block⟩
theorem keep_cell {w1 w2 : World} {q : Addr} {v : Value} (hb : Below w1.heap.size w1 w2) (h : w1.cell? q = some v) : w2.cell? q = some v := (hb.cell (cell_lt h)).trans h
theorem below_then {w w1 w2 : World} (h : Below w.heap.size w w1) (h2 : Below w1.heap.size w1 w2) : Below w.heap.size w w2 := h.trans (h2.mono h.size)
theorem own_below {w1 w2 : World} {base n size : Nat} {e : TypeId} {v : Value} {xs : List Value} (h : w1.ownsRow base e size v n xs) (hb : Below w1.heap.size w1 w2) : w2.ownsRow base e size v n xs :=
  h.kept (grown_below none hb) (by cases hv : v.ownBlock <;> simp)
theorem own_open {w : World} {base n : Nat} {e : TypeId} {v : Value} {xs : List Value} (h : w.ownsRow base e 1 v n xs) (hn : 0 < n) :
    ∃ g cp, v = .slice (some ⟨g, 0, none⟩) n cp ∧ base ≤ g ∧ n ≤ cp ∧ cp ≤ maxLen ∧ ∀ j u, xs[j]? = some u → w.cell? ⟨g, j, none⟩ = some u := by
  rcases h.2 with ⟨_, h0⟩ | ⟨g, cap, cur, rfl, hb, hg, h1, h2, _⟩
  · omega
  · refine ⟨g, cap, rfl, hb, h1, h2, fun j u hu => ?_⟩
    have := h.cells (g := g) rfl j u hu
    rwa [show (⟨g, 0, none⟩ : Addr).add j = ⟨g, j, none⟩ by unfold Addr.add; split <;> simp_all] at this
theorem own_form {w : World} {base n : Nat} {e : TypeId} {v : Value} {xs : List Value} (h : w.ownsRow base e 1 v n xs) : ∃ b cp, v = .slice b n cp ∧ n ≤ cp ∧ cp ≤ maxLen ∧ (0 < n → ∃ g, b = some ⟨g, 0, none⟩ ∧ base ≤ g) := by
  rcases h.2 with ⟨rfl, rfl⟩ | ⟨g, cap, cur, rfl, hb, hg, h1, h2, _⟩
  · exact ⟨none, 0, rfl, Nat.le_refl _, Nat.zero_le _, fun h => absurd h (Nat.lt_irrefl 0)⟩
  · exact ⟨_, cap, rfl, h1, h2, fun _ => ⟨g, rfl, hb⟩⟩
theorem own_cell {w : World} {base n g cp : Nat} {e : TypeId} {xs : List Value} (h : w.ownsRow base e 1 (.slice (some ⟨g, 0, none⟩) n cp) n xs) (j : Nat) (u : Value) (hu : xs[j]? = some u) : w.cell? ⟨g, j, none⟩ = some u := by
  have := h.cells (g := g) rfl j u hu
  rwa [show (⟨g, 0, none⟩ : Addr).add j = ⟨g, j, none⟩ by unfold Addr.add; split <;> simp_all] at this
theorem one_new (w : World) (v : Value) (t : TypeId) : ∀ j u, [v][j]? = some u → (w.alloc (.cells #[v] t)).cell? ((⟨w.heap.size, 0, none⟩ : Addr).add j) = some u := by
  intro j u h
  cases j with
  | zero =>
    have : v = u := by simpa using h
    subst this
    show (w.alloc (.cells #[v] t)).cell? ⟨w.heap.size, 0, none⟩ = some v
    rw [blk_cell (heap_alloc_new w _)]
    rfl
  | succ j => simp at h
theorem one_str (s : ByteArray) : ∀ u ∈ [Value.string s], u.oneCell' = true := by
  intro u hu
  rw [List.mem_singleton.1 hu]
  rfl
/-- The texts as values. -/
def strs (ts : List (List UInt8)) : List Value := ts.map fun t => .string ⟨t.toArray⟩
end Go.Proofs.Ytienlhnbmobinaa
namespace Go.Proofs.Ytienlhnbmobinaa
open Go.RowKit
set_option linter.unusedVariables false
set_option linter.unusedSimpArgs false
/-- A slice's value, and what its m elements are. -/
def Reads (w : World) (sv : Value) (m size : Nat) (news : List Value) : Prop :=
  (sv = .slice none 0 0 ∧ m = 0 ∧ news = []) ∨ ∃ ad c, sv = .slice (some ad) m c ∧ news.length = m * size ∧ ∀ j u, news[j]? = some u → w.cell? (ad.add j) = some u
theorem Reads.below {w w' : World} {sv : Value} {m size : Nat} {news : List Value} (h : Reads w sv m size news) (hb : Below w.heap.size w w') : Reads w' sv m size news := by
  rcases h with h | ⟨ad, c, h1, h2, h3⟩
  · exact .inl h
  · exact .inr ⟨ad, c, h1, h2, fun j u hu => keep_cell hb (h3 j u hu)⟩
theorem run_append_any {P : Program} (w : World) (base : Nat) (t ty e : TypeId) (i : TypeInfo) (z : Value) (size bytes : Nat) (ht : P.underlying t = some (.slice e)) (hi : P.info? e = some i) (hz : i.zero = some z)
    (hsize : i.size = size) (hby : i.bytes = bytes) (hzs : z.cells.size = size) (hsz : 0 < size)
    (v : Value) (n : Nat) (xs : List Value) (hown : w.ownsRow base e size v n xs) (sv : Value) (m : Nat) (news : List Value) (hr : Reads w sv m size news) (h1 : ∀ u ∈ news, u.oneCell' = true)
    (h63 : n + m ≤ maxLen) (hbytes : (n + m) * bytes ≤ 140737488355328) (hbase : base ≤ w.heap.size) :
    ∃ v' w', (Builtin.append_ #[t, t] ty #[v, sv]).run P w = .ok v' w' ∧ w'.ownsRow base e size v' (n + m) (xs ++ news) ∧ w.grownBy w' v.ownBlock := by
  rcases hr with ⟨rfl, rfl, rfl⟩ | ⟨ad, c, rfl, hl, hn⟩
  · refine ⟨v, w, run_append_owned_none (P := P) w base t ty e i size ht hi v n xs hown, by simpa using hown, grown_below _ (Below.refl _ _)⟩
  · obtain ⟨v', w', hr, h2, h3, _⟩ := run_append_own (P := P) w base t ty e i z size bytes ht hi hz hsize hby hzs hsz v n xs hown ad m c news hl hn h1 h63 hbytes hbase
    exact ⟨v', w', hr, h2, h3⟩
section
variable {P : Program} (w : World)
theorem wp_append_any {o : Oper} {a : Act} {K : Act → World → Prop} {Q : Exit → Act → World → Prop} (s x : Operand) (t : TypeId)
    (ho : o.op = .call { callee := .builtin .append, args := #[s, x], argTypes := #[t, t] })
    (base : Nat) (e : TypeId) (i : TypeInfo) (z : Value) (size bytes : Nat) (ht : P.underlying t = some (.slice e)) (hi : P.info? e = some i) (hz : i.zero = some z)
    (hsize : i.size = size) (hby : i.bytes = bytes) (hzs : z.cells.size = size) (hsz : 0 < size)
    (v : Value) (n : Nat) (xs : List Value) (hs : a.eval s = v) (hown : w.ownsRow base e size v n xs) (sv : Value) (m : Nat) (news : List Value) (hx : a.eval x = sv) (hr : Reads w sv m size news) (h1 : ∀ u ∈ news, u.oneCell' = true)
    (h63 : n + m ≤ maxLen) (hbytes : (n + m) * bytes ≤ 140737488355328) (hbase : base ≤ w.heap.size)
    (h : ∀ v' w', w'.ownsRow base e size v' (n + m) (xs ++ news) → w.grownBy w' v.ownBlock → K (a.put o.dst v') w') : o.wp P a w K Q := by
  obtain ⟨v', w', hrun, h2, h3⟩ := run_append_any (P := P) w base t o.type e i z size bytes ht hi hz hsize hby hzs hsz v n xs hown sv m news hr h1 h63 hbytes hbase
  unfold Oper.wp execOp
  simp only [ho, resolve, invoke, builtin, Sem.run_bind, Sem.run_pure, Result.andThen_ok, List.map_toArray, List.map_cons, List.map_nil, hs, hx, hrun]
  exact h v' w' h2 h3
/-- At the list of a plain region's operations. -/
theorem wpList_append_any {ops : Array Oper} {rest : List Oper} {o : Oper} {a : Act} {Q : Exit → Act → World → Prop} (hgd : o.guard = none) (s x : Operand) (t : TypeId)
    (ho : o.op = .call { callee := .builtin .append, args := #[s, x], argTypes := #[t, t] })
    (base : Nat) (e : TypeId) (i : TypeInfo) (z : Value) (size bytes : Nat) (ht : P.underlying t = some (.slice e)) (hi : P.info? e = some i) (hz : i.zero = some z)
    (hsize : i.size = size) (hby : i.bytes = bytes) (hzs : z.cells.size = size) (hsz : 0 < size)
    (v : Value) (n : Nat) (xs : List Value) (hs : a.eval s = v) (hown : w.ownsRow base e size v n xs) (sv : Value) (m : Nat) (news : List Value) (hx : a.eval x = sv) (hr : Reads w sv m size news) (h1 : ∀ u ∈ news, u.oneCell' = true)
    (h63 : n + m ≤ maxLen) (hbytes : (n + m) * bytes ≤ 140737488355328) (hbase : base ≤ w.heap.size)
    (h : ∀ v' w', w'.ownsRow base e size v' (n + m) (xs ++ news) → w.grownBy w' v.ownBlock → wpList P ops Q rest (a.put o.dst v') w') : wpList P ops Q (o :: rest) a w :=
  wpList_plain hgd fun _ hK => wp_append_any w s x t ho base e i z size bytes ht hi hz hsize hby hzs hsz v n xs hs hown sv m news hx hr h1 h63 hbytes hbase fun v' w' h2 h3 => hK _ _ (h v' w' h2 h3)
/-- At a step of a region that draws its order. -/
theorem step_append_any {ops : Array Oper} {o : Oper} {a : Act} {K : Act → World → Prop} {Q : Exit → Act → World → Prop} {E : Prop} (hgd : o.guard = none) (s x : Operand) (t : TypeId)
    (ho : o.op = .call { callee := .builtin .append, args := #[s, x], argTypes := #[t, t] })
    (base : Nat) (e : TypeId) (i : TypeInfo) (z : Value) (size bytes : Nat) (ht : P.underlying t = some (.slice e)) (hi : P.info? e = some i) (hz : i.zero = some z)
    (hsize : i.size = size) (hby : i.bytes = bytes) (hzs : z.cells.size = size) (hsz : 0 < size)
    (v : Value) (n : Nat) (xs : List Value) (hs : a.eval s = v) (hown : w.ownsRow base e size v n xs) (sv : Value) (m : Nat) (news : List Value) (hx : a.eval x = sv) (hr : Reads w sv m size news) (h1 : ∀ u ∈ news, u.oneCell' = true)
    (h63 : n + m ≤ maxLen) (hbytes : (n + m) * bytes ≤ 140737488355328) (hbase : base ≤ w.heap.size)
    (h : ∀ v' w', w'.ownsRow base e size v' (n + m) (xs ++ news) → w.grownBy w' v.ownBlock → K (a.put o.dst v') w') :
    if Region.wanted o (yielded ops a.tmps) = true then Oper.wp P o a w K Q else E := by
  have hw : Region.wanted o (yielded ops a.tmps) = true := by simp [Region.wanted, hgd]
  rw [if_pos hw]
  exact wp_append_any w s x t ho base e i z size bytes ht hi hz hsize hby hzs hsz v n xs hs hown sv m news hx hr h1 h63 hbytes hbase h
end
end Go.Proofs.Ytienlhnbmobinaa
namespace Go.Proofs.Ytienlhnbmobinaa
open Go.RowKit
set_option linter.unusedVariables false
set_option linter.unusedSimpArgs false
/-- What was there is as it was, but for the blocks of a class. -/
structure OthersKept (w w' : World) (p : Nat → Prop) : Prop where
  os : w'.os = w.os
  tape : w'.tape = w.tape
  output : w'.output = w.output
  size : w.heap.size ≤ w'.heap.size
  block : ∀ k, k < w.heap.size → ¬ p k → w'.heap[k]? = w.heap[k]?
theorem OthersKept.of_below {w w' : World} {p : Nat → Prop} (h : Below w.heap.size w w') : OthersKept w w' p := ⟨h.os, h.tape, h.output, h.size, fun k hk _ => h.block k hk⟩
theorem OthersKept.of_grown {w w' : World} {p : Nat → Prop} {g : Nat} (h : w.grownBy w' (some g)) (hg : p g) : OthersKept w w' p :=
  ⟨h.os, h.tape, h.output, h.size, fun k hk hn => h.block k hk (fun e => by injection e with e; subst e; exact hn hg)⟩
theorem OthersKept.trans {w w1 w2 : World} {p q : Nat → Prop} (h : OthersKept w w1 p) (h2 : OthersKept w1 w2 q) (hq : ∀ k, k < w.heap.size → q k → p k) : OthersKept w w2 p :=
  ⟨h2.os.trans h.os, h2.tape.trans h.tape, h2.output.trans h.output, Nat.le_trans h.size h2.size, fun k hk hn => (h2.block k (Nat.lt_of_lt_of_le hk h.size) (fun e => hn (hq k hk e))).trans (h.block k hk hn)⟩
theorem OthersKept.below {w0 w w' : World} {p : Nat → Prop} (hb : Below w0.heap.size w0 w) (h : OthersKept w w' p) (hp : ∀ k, k < w0.heap.size → ¬ p k) : Below w0.heap.size w0 w' :=
  ⟨h.os.trans hb.os, h.tape.trans hb.tape, h.output.trans hb.output, Nat.le_trans hb.size h.size, fun k hk => (h.block k (Nat.lt_of_lt_of_le hk hb.size) (hp k hk)).trans (hb.block k hk)⟩
theorem OthersKept.owns {w w' : World} {p : Nat → Prop} {base n size : Nat} {e : TypeId} {v : Value} {xs : List Value} (hk : OthersKept w w' p) (h : w.ownsRow base e size v n xs) (hp : ∀ k, v.ownBlock = some k → ¬ p k) : w'.ownsRow base e size v n xs := by
  refine ⟨h.1, ?_⟩
  rcases h.2 with hn | ⟨g, cap, cur, rfl, hb, hgg, rest⟩
  · exact .inl hn
  · exact .inr ⟨g, cap, cur, rfl, hb, (hk.block g (blk_lt hgg) (hp g rfl)).trans hgg, rest⟩
theorem OthersKept.row {w w' : World} {p : Nat → Prop} {g : Nat} {zs : List UInt8} (hk : OthersKept w w' p) (h : RowAt w g zs) (hp : ¬ p g) : RowAt w' g zs := h.of_eq (hk.block g h.lt hp)
theorem OthersKept.heap {w w' : World} {p : Nat → Prop} {g : Nat} {o : Obj} (hk : OthersKept w w' p) (h : w.heap[g]? = some o) (hp : ¬ p g) : w'.heap[g]? = some o := (hk.block g (blk_lt h) hp).trans h
theorem OthersKept.cell {w w' : World} {p : Nat → Prop} {q : Addr} {v : Value} (hk : OthersKept w w' p) (h : w.cell? q = some v) (hp : ¬ p q.block) : w'.cell? q = some v := by
  have hb := hk.block q.block (cell_lt h) hp
  unfold World.cell? at h ⊢
  rw [hb]
  exact h
theorem OthersKept.then_below {w w1 w2 : World} {p : Nat → Prop} (h : OthersKept w w1 p) (hb : Below w1.heap.size w1 w2) : OthersKept w w2 p := h.trans (OthersKept.of_below (p := fun _ => False) hb) (fun _ _ h => absurd h id)
theorem OthersKept.base {w0 w w' : World} (hb : Below w0.heap.size w0 w) (h : OthersKept w w' (fun k => w0.heap.size ≤ k)) : Below w0.heap.size w0 w' := h.below hb (fun k hk => by omega)
end Go.Proofs.Ytienlhnbmobinaa
namespace Go.Proofs.Ytienlhnbmobinaa
open Go.RowKit
set_option linter.unusedVariables false
set_option linter.unusedSimpArgs false
open Go.Lib
/-- A list with others in place of some. -/
def spl (cur : List Value) (o : Nat) (vs : List Value) : List Value := cur.take o ++ vs ++ cur.drop (o + vs.length)
theorem spl_length (cur : List Value) (o : Nat) (vs : List Value) (h : o + vs.length ≤ cur.length) : (spl cur o vs).length = cur.length := by
  unfold spl
  simp
  omega
theorem set_spl (cur : List Value) (o : Nat) (v : Value) (r : List Value) (h : o + (r.length + 1) ≤ cur.length) : spl (cur.set o v) (o + 1) r = spl cur o (v :: r) := by
  unfold spl
  have h1 : (cur.set o v).take (o + 1) = cur.take o ++ [v] := by
    rw [List.take_succ_eq_append_getElem (by simp; omega), List.take_set_of_le (Nat.le_refl _)]
    simp
  rw [h1, List.drop_set_of_lt (by omega)]
  rw [show o + (v :: r).length = o + 1 + r.length by simp; omega]
  simp
theorem heap_setCells (g : Nat) (t : TypeId) : ∀ (vs : List Value) (o : Nat) (w : World) (cur : List Value), w.heap[g]? = some (.cells cur.toArray t (0, 0)) → o + vs.length ≤ cur.length → (w.setCells g o vs).heap[g]? = some (.cells (spl cur o vs).toArray t (0, 0))
  | [], o, w, cur, h, _ => by
    rw [show spl cur o [] = cur by unfold spl; simp]
    exact h
  | v :: r, o, w, cur, h, hl => by
    have hs := blk_set h o v
    rw [show (cur.toArray.setIfInBounds o v) = (cur.set o v).toArray by simp] at hs
    simp only [List.length_cons] at hl
    have := heap_setCells g t r (o + 1) (w.setCell ⟨g, o, none⟩ v) (cur.set o v) hs (by simp; omega)
    rw [set_spl cur o v r hl] at this
    exact this
theorem grown_setCells (g : Nat) : ∀ (vs : List Value) (o : Nat) (w : World), w.grownBy (w.setCells g o vs) (some g)
  | [], _, w => grown_refl _ _
  | v :: r, o, w => by
    have h1 : w.grownBy (w.setCell ⟨g, o, none⟩ v) (some g) := grown_set (grown_refl _ _)
    have h2 := grown_setCells g r (o + 1) (w.setCell ⟨g, o, none⟩ v)
    exact ⟨h2.os.trans h1.os, h2.tape.trans h1.tape, h2.output.trans h1.output, Nat.le_trans h1.size h2.size, fun k hk hne => (h2.block k (Nat.lt_of_lt_of_le hk h1.size) hne).trans (h1.block k hk hne)⟩
/-- A row in memory, as a list of all its cells. -/
theorem own_cur {w : World} {base n g cp : Nat} {e : TypeId} {xs : List Value} (h : w.ownsRow base e 1 (.slice (some ⟨g, 0, none⟩) n cp) n xs) :
    ∃ cur : List Value, w.heap[g]? = some (.cells cur.toArray e (0, 0)) ∧ base ≤ g ∧ n ≤ cp ∧ cp ≤ maxLen ∧ cur.length = cp ∧ cur.take n = xs ∧ xs.length = n := by
  obtain ⟨hl, h⟩ := h
  rcases h with ⟨h, _⟩ | ⟨g', cap, cur, he, hb, hg, h1, h2, h3, h4⟩
  · cases h
  · injection he with e1 e2 e3
    injection e1 with e1
    injection e1 with e1
    subst e1; subst e3
    exact ⟨cur.toList, by simpa using hg, hb, h1, h2, by simpa using h3, by simpa using h4, by omega⟩
theorem own_of_cur {w : World} {base n g cp : Nat} {e : TypeId} {cur xs : List Value} (hg : w.heap[g]? = some (.cells cur.toArray e (0, 0))) (hb : base ≤ g) (hn : n ≤ cp) (hc : cp ≤ maxLen) (hl : cur.length = cp) (hx : cur.take n = xs) :
    w.ownsRow base e 1 (.slice (some ⟨g, 0, none⟩) n cp) n xs :=
  ⟨by rw [← hx, List.length_take]; omega, .inr ⟨g, cp, cur.toArray, rfl, hb, hg, hn, hc, by simpa using hl, by simpa using hx⟩⟩
theorem spl_at (a b c vs : List Value) (h : vs.length = b.length) : spl (a ++ b ++ c) a.length vs = a ++ vs ++ c := by
  unfold spl
  rw [h, show (a ++ b ++ c).take a.length = a by simp, show (a ++ b ++ c).drop (a.length + b.length) = c by rw [← List.length_append, List.drop_left]]
theorem take_of_take {cur xs : List Value} {n k : Nat} (hx : cur.take n = xs) (hk : k ≤ n) : cur.take k = xs.take k := by
  rw [← hx, List.take_take, Nat.min_eq_left hk]
theorem shift_one (cur xs : List Value) (x : Value) (n i : Nat) (hx : cur.take n = xs) (hn : n + 1 ≤ cur.length) (hi : i < n) : (spl (spl cur (i + 1) (xs.drop i)) i [x]).take (n + 1) = xs.take i ++ x :: xs.drop i := by
  have hl : xs.length = n := by rw [← hx, List.length_take]; omega
  have h1 : spl cur (i + 1) (xs.drop i) = xs.take i ++ [xs[i]] ++ (xs.drop i ++ cur.drop (n + 1)) := by
    unfold spl
    rw [take_of_take hx (by omega), List.take_succ_eq_append_getElem (by omega), show i + 1 + (xs.drop i).length = n + 1 by rw [List.length_drop]; omega, List.append_assoc (xs.take i ++ _)]
  have h2 : (xs.take i).length = i := by rw [List.length_take]; omega
  have h3 := spl_at (xs.take i) [xs[i]] (xs.drop i ++ cur.drop (n + 1)) [x] rfl
  rw [h2] at h3
  rw [h1, h3, ← List.append_assoc, List.take_left' (by simp; omega)]
  simp
theorem set_one (cur xs : List Value) (x : Value) (n i : Nat) (hx : cur.take n = xs) (hn : n ≤ cur.length) (hi : i < n) : (spl cur i [x]).take n = xs.take i ++ x :: xs.drop (i + 1) := by
  have hl : xs.length = n := by rw [← hx, List.length_take]; omega
  have h1 : cur = xs.take i ++ [xs[i]] ++ (xs.drop (i + 1) ++ cur.drop n) := by
    rw [← List.take_succ_eq_append_getElem (by omega), ← List.append_assoc, List.take_append_drop, ← hx, List.take_append_drop]
  have h2 : (xs.take i).length = i := by rw [List.length_take]; omega
  have h3 := spl_at (xs.take i) [xs[i]] (xs.drop (i + 1) ++ cur.drop n) [x] rfl
  rw [← h1, h2] at h3
  rw [h3, ← List.append_assoc, List.take_left' (by simp; omega)]
  simp
/-- What a make leaves, filled. -/
theorem fill_one (xs z y : List Value) (x : Value) (n i : Nat) (hl : xs.length = n) (hi : i < n) (hz : z.length = n + 1 - i) : (spl (spl (xs.take i ++ z ++ y) i [x]) (i + 1) (xs.drop i)).take (n + 1) = xs.take i ++ x :: xs.drop i := by
  have h2 : (xs.take i).length = i := by rw [List.length_take]; omega
  cases z with
  | nil => simp at hz; omega
  | cons z0 z =>
    have h3 := spl_at (xs.take i) [z0] (z ++ y) [x] rfl
    rw [h2] at h3
    rw [show xs.take i ++ z0 :: z ++ y = xs.take i ++ [z0] ++ (z ++ y) by simp, h3]
    have h4 := spl_at (xs.take i ++ [x]) z y (xs.drop i) (by rw [List.length_drop]; simp at hz; omega)
    rw [show (xs.take i ++ [x]).length = i + 1 by simp; omega] at h4
    rw [← List.append_assoc, h4, List.take_left' (by simp; omega)]
    simp
end Go.Proofs.Ytienlhnbmobinaa
end

section
/- Slices of texts that can be read; a page's value.; maps from small numbers to held values (functions); pages in blocks; pages in blocks, as results; chapter 06: which pages may be; chapter 06: which pages may be, by the document; chapter 06: a page is the same as itself -/
namespace Go.Proofs.Ytienlhnbmobinaa
open Go.RowKit
set_option linter.unusedVariables false
set_option linter.unusedSimpArgs false
/-- A slice of texts that can be read. -/
def TextsAt (w : World) (sv : Value) (ts : List (List UInt8)) : Prop :=
  ∃ A cp, sv = .slice A ts.length cp ∧ ts.length ≤ cp ∧ cp ≤ maxLen ∧ (A = none → ts = [] ∧ cp = 0) ∧ (0 < ts.length → ∃ b o, A = some ⟨b, o, none⟩ ∧ b < w.heap.size ∧ ∀ j (h : j < ts.length), w.cell? ⟨b, o + j, none⟩ = some (.string ⟨ts[j].toArray⟩))
theorem TextsAt.below {w w' : World} {sv : Value} {ts : List (List UInt8)} (h : TextsAt w sv ts) (hb : Below w.heap.size w w') : TextsAt w' sv ts := by
  obtain ⟨A, cp, h1, h2, h3, h4, h5⟩ := h
  refine ⟨A, cp, h1, h2, h3, h4, fun h0 => ?_⟩
  obtain ⟨b, o, h6, h7, h8⟩ := h5 h0
  exact ⟨b, o, h6, Nat.lt_of_lt_of_le h7 hb.size, fun j hj => keep_cell hb (h8 j hj)⟩
theorem TextsAt.nil (w : World) : TextsAt w (.slice none 0 0) [] := ⟨none, 0, rfl, Nat.le_refl _, Nat.zero_le _, fun _ => ⟨rfl, rfl⟩, fun h => absurd h (Nat.lt_irrefl 0)⟩
theorem strs_length (ts : List (List UInt8)) : (strs ts).length = ts.length := by simp [strs]
theorem strs_get (ts : List (List UInt8)) (j : Nat) (h : j < ts.length) : (strs ts)[j]? = some (.string ⟨ts[j].toArray⟩) := by
  unfold strs
  rw [List.getElem?_map, List.getElem?_eq_getElem h]
  rfl
theorem strs_append (a b : List (List UInt8)) : strs (a ++ b) = strs a ++ strs b := by simp [strs]
theorem texts_own {w : World} {base n : Nat} {v : Value} {ts : List (List UInt8)} (h : w.ownsRow base 9 1 v n (strs ts)) : TextsAt w v ts ∧ ts.length = n := by
  have hl : ts.length = n := by have := h.1; simpa [strs] using this
  refine ⟨?_, hl⟩
  subst hl
  rcases h.2 with ⟨rfl, h0⟩ | ⟨g, cap, cur, rfl, hb, hg, h1, h2, _⟩
  · exact ⟨none, 0, by rw [h0], by omega, Nat.zero_le _, fun _ => ⟨List.eq_nil_of_length_eq_zero h0, rfl⟩, fun h => by omega⟩
  · refine ⟨_, cap, rfl, h1, h2, fun h => by (cases h), fun _ => ⟨g, 0, rfl, blk_lt hg, fun j hj => ?_⟩⟩
    rw [Nat.zero_add]
    exact own_cell h j _ (strs_get ts j hj)
theorem TextsAt.reads {w : World} {sv : Value} {ts : List (List UInt8)} (h : TextsAt w sv ts) : Reads w sv ts.length 1 (strs ts) := by
  obtain ⟨A, cp, rfl, h2, h3, h4, h5⟩ := h
  rcases Nat.eq_zero_or_pos ts.length with h0 | h0
  · obtain rfl := List.eq_nil_of_length_eq_zero h0
    cases A with
    | none => obtain ⟨_, rfl⟩ := h4 rfl; exact .inl ⟨rfl, rfl, rfl⟩
    | some a => exact .inr ⟨a, cp, rfl, rfl, fun j u hu => by simp [strs] at hu⟩
  · obtain ⟨b, o, rfl, _, hc⟩ := h5 h0
    refine .inr ⟨_, cp, rfl, by simp [strs], fun j u hu => ?_⟩
    have hj : j < ts.length := by
      have := (List.getElem?_eq_some_iff.1 hu).1
      simpa [strs] using this
    rw [strs_get ts j hj] at hu
    injection hu with hu
    rw [← hu, Addr.add_lit]
    exact hc j hj
/-- The first texts of a slice. -/
theorem TextsAt.take {w : World} {A : Option Addr} {n cp : Nat} {ts : List (List UInt8)} (h : TextsAt w (.slice A n cp) ts) (k c : Nat) (hk : k ≤ n) (hc : k ≤ c) (hcp : c ≤ cp) : TextsAt w (.slice A k c) (ts.take k) := by
  obtain ⟨A', cp', e, h2, h3, h4, h5⟩ := h
  injection e with e1 e2 e3
  subst e1; subst e3
  have hl : (ts.take k).length = k := by simp; omega
  refine ⟨A, c, by rw [hl], by omega, Nat.le_trans hcp h3, fun h => ?_, fun h0 => ?_⟩
  · obtain ⟨rfl, rfl⟩ := h4 h
    exact ⟨by simp, by omega⟩
  · obtain ⟨b, o, h6, h7, h8⟩ := h5 (by omega)
    exact ⟨b, o, h6, h7, fun j hj => by rw [h8 j (by omega), List.getElem_take]⟩
/-- A page's value. -/
def pgV (p : Pg) (sv : Value) : Value := .agg #[.int .u8 p.kind, .int .u8 p.level, .int .u32 p.id, .int .u64 p.lsn, .int .u32 p.next, sv]
/-- A page's numbers are in range. -/
def Pg.wf (p : Pg) : Prop := p.kind < 256 ∧ p.level < 256 ∧ p.id < 256 ^ 4 ∧ p.lsn < 256 ^ 8 ∧ p.next < 256 ^ 4
end Go.Proofs.Ytienlhnbmobinaa
namespace Go.Proofs.Ytienlhnbmobinaa
open Go.RowKit
set_option linter.unusedVariables false
set_option linter.unusedSimpArgs false
open Go.Maps
/-- Held values. -/
def heldF : Value → Option (DataW Value × List MemPlace) := fun v => some (.held v, [])
/-- What a map is to a list of keys and values. -/
structure FnD (D : DataW Value) (L : List (Nat × Value)) : Prop where
  has : ∀ k : Nat, Maps.has D (.int .u8 (k : Nat)) = (L.lookup k).isSome
  val : ∀ (k : Nat) (x : Value), L.lookup k = some x → ∀ z, D.atKey (.int .u8 (k : Nat)) z = .held x
  size : Maps.size D = L.length
theorem u8_key (k : Int) : WideAt.IsKeyLit (.int .u8 k) := trivial
theorem u8_ne {k j : Nat} (h : k ≠ j) : (Lit.int .u8 (k : Nat)) ≠ .int .u8 (j : Nat) := fun e => h (by injection e with _ e; omega)
theorem FnD.empty : FnD (.map []) [] := ⟨fun k => rfl, fun k t h => (by cases h), rfl⟩
theorem FnD.put {D : DataW Value} {L : List (Nat × Value)} (h : FnD D L) (hD : Tidy D) (k : Nat) (x : Value) (hk : L.lookup k = none) : FnD (D.put (.int .u8 (k : Nat)) (.held x)) ((k, x) :: L) := by
  refine ⟨fun j => ?_, fun j s hs z => ?_, ?_⟩
  · by_cases hj : j = k
    · subst hj
      rw [has_put_same hD.isMap (u8_key _)]
      simp
    · rw [has_put_other (u8_ne hj), h.has j]
      have hb : (j == k) = false := by simpa using hj
      rw [List.lookup_cons, hb]
  · by_cases hj : j = k
    · subst hj
      simp at hs
      subst hs
      exact atKey_put_same hD.isMap (u8_key _) _ _
    · rw [atKey_put_other (u8_ne hj)]
      refine h.val j s ?_ z
      have hb : (j == k) = false := by simpa using hj
      rwa [List.lookup_cons, hb] at hs
  · rw [size_put hD, h.has, h.size, hk]
    rfl
theorem u8_keyed : Maps.Keyed Try.prog 5 := Go.Maps.int_keyed Try.underlying5
theorem u8_keyOf {k : Nat} (h : k < 256) : keyOf Try.prog 5 (.int .u8 (k : Nat)) = some (.int .u8 (k : Nat)) :=
  Go.Maps.keyOf_int_mk Try.underlying5 (by unfold Lit.wf; simp [IntKind.min, IntKind.max, IntKind.bits, IntKind.signed]; omega)
/-- A map of held values by small numbers, in memory. -/
def FnAt (w : World) (m : Nat) (L : List (Nat × Value)) : Prop := ∃ D, w.ownsMap Try.prog 5 heldF m L.length D ∧ FnD D L
theorem FnAt.new (w : World) : FnAt (w.alloc (.map #[] 0)) w.heap.size [] := ⟨_, World.ownsMap_made (H := Value) w Try.prog 5 heldF, FnD.empty⟩
section
variable {w w' : World} {m : Nat} {L : List (Nat × Value)}
theorem FnAt.lt (h : FnAt w m L) : m < w.heap.size := by
  obtain ⟨D, ho, hD⟩ := h
  exact ho.lt
theorem FnAt.below (h : FnAt w m L) (hb : Below w.heap.size w w') : FnAt w' m L := by
  have hlt := h.lt
  obtain ⟨D, ho, hD⟩ := h
  obtain ⟨es, c, hbk, hr⟩ := ho
  exact ⟨D, ⟨es, c, (hb.block m hlt).trans hbk, hr⟩, hD⟩
set_option maxRecDepth 100000 in
theorem FnAt.put (h : FnAt w m L) {t e : TypeId} (ht : Try.prog.underlying t = some (.map 5 e)) (k : Nat) (x : Value) (hk : k < 256) (hn : L.lookup k = none) (hl : L.length < 100) :
    ∃ w', (Instr.mapUpdate t (.map (some m)) (.int .u8 (k : Nat)) x).run Try.prog w = .ok () w' ∧ w.grownBy w' (some m) ∧ FnAt w' m ((k, x) :: L) := by
  obtain ⟨D, ho, hD⟩ := h
  obtain ⟨w', hrun, ho', hg⟩ := ho.update u8_keyed ht (by unfold maxLen; omega) (u8_keyOf hk) (d := .held x) (ps := []) (val := x) rfl
  exact ⟨w', hrun, hg, _, ho', hD.put (ho.tidy u8_keyed) k x hn⟩
set_option maxRecDepth 100000 in
theorem FnAt.look (h : FnAt w m L) {t e : TypeId} (ht : Try.prog.underlying t = some (.map 5 e)) {z : Value} (hz : (zeroValue e).run Try.prog w = .ok z w) {k : Nat} {x : Value} (hk : k < 256) (he : L.lookup k = some x) :
    (Instr.lookup t (.map (some m)) (.int .u8 (k : Nat)) true).run Try.prog w = .ok (.tuple #[x, .bool true]) w := by
  obtain ⟨D, ho, hD⟩ := h
  obtain ⟨v, ps, hrun, hv⟩ := ho.look_ok u8_keyed ht hz (zd := .held z) (zp := []) rfl (u8_keyOf hk)
  rw [hrun, hD.has, he]
  rw [hD.val k x he] at hv
  injection hv with hv
  injection hv with hv _
  injection hv with hv
  rw [hv]
  rfl
set_option maxRecDepth 100000 in
theorem FnAt.lookN (h : FnAt w m L) {t e : TypeId} (ht : Try.prog.underlying t = some (.map 5 e)) {z : Value} (hz : (zeroValue e).run Try.prog w = .ok z w) {k : Nat} (hk : k < 256) (he : L.lookup k = none) :
    (Instr.lookup t (.map (some m)) (.int .u8 (k : Nat)) true).run Try.prog w = .ok (.tuple #[z, .bool false]) w := by
  obtain ⟨D, ho, hD⟩ := h
  obtain ⟨v, ps, hrun, hv⟩ := ho.look_ok u8_keyed ht hz (zd := .held z) (zp := []) rfl (u8_keyOf hk)
  have hh := hD.has k
  rw [he] at hh
  rw [hrun, hh]
  rw [atKey_of_not_has hh] at hv
  injection hv with hv
  injection hv with hv _
  injection hv with hv
  rw [hv]
  rfl
end
end Go.Proofs.Ytienlhnbmobinaa
namespace Go.Proofs.Ytienlhnbmobinaa
open Go.RowKit
set_option linter.unusedVariables false
set_option linter.unusedSimpArgs false
/-- A page's cells in a block. -/
def PgBox (w : World) (g kind level id lsn next : Nat) (sv : Value) : Prop := w.heap[g]? = some (.cells #[.int .u8 kind, .int .u8 level, .int .u32 id, .int .u64 lsn, .int .u32 next, sv] 26 (0, 0))
theorem PgBox.new (w : World) (kind level id lsn next : Nat) (sv : Value) : PgBox (w.alloc (.cells #[.int .u8 kind, .int .u8 level, .int .u32 id, .int .u64 lsn, .int .u32 next, sv] 26)) w.heap.size kind level id lsn next sv := heap_alloc_new w _
section
variable {w w' : World} {g kind level id lsn next : Nat} {sv : Value}
theorem PgBox.below (h : PgBox w g kind level id lsn next sv) (hb : Below w.heap.size w w') : PgBox w' g kind level id lsn next sv := (hb.block _ (blk_lt h)).trans h
theorem PgBox.lt (h : PgBox w g kind level id lsn next sv) : g < w.heap.size := blk_lt h
theorem PgBox.cells (h : PgBox w g kind level id lsn next sv) : g < w.heap.size ∧ w.cell? ⟨g, 0, none⟩ = some (.int .u8 kind) ∧ w.cell? ⟨g, 1, none⟩ = some (.int .u8 level) ∧ w.cell? ⟨g, 2, none⟩ = some (.int .u32 id) ∧ w.cell? ⟨g, 3, none⟩ = some (.int .u64 lsn) ∧ w.cell? ⟨g, 4, none⟩ = some (.int .u32 next) ∧ w.cell? ⟨g, 5, none⟩ = some sv := by
  unfold PgBox at h
  exact ⟨blk_lt h, by rw [blk_cell h]; rfl, by rw [blk_cell h]; rfl, by rw [blk_cell h]; rfl, by rw [blk_cell h]; rfl, by rw [blk_cell h]; rfl, by rw [blk_cell h]; rfl⟩
end
theorem alloc_below (w : World) (o : Obj) : Below w.heap.size w (w.alloc o) := (Below.refl _ _).alloc (Nat.le_refl _) _
end Go.Proofs.Ytienlhnbmobinaa
namespace Go.Proofs.Ytienlhnbmobinaa
open Go.RowKit
set_option linter.unusedVariables false
set_option linter.unusedSimpArgs false
/-- A page stored into a block. -/
def setPg (W : World) (g kind level id lsn next : Nat) (sv : Value) : World := (((((W.setCell ⟨g, 0, none⟩ (.int .u8 kind)).setCell ⟨g, 1, none⟩ (.int .u8 level)).setCell ⟨g, 2, none⟩ (.int .u32 id)).setCell ⟨g, 3, none⟩ (.int .u64 lsn)).setCell ⟨g, 4, none⟩ (.int .u32 next)).setCell ⟨g, 5, none⟩ sv
section
variable {w w' : World} {g kind level id lsn next : Nat} {sv : Value}
theorem PgBox.put (h : PgBox w g kind level id lsn next sv) (kind' level' id' lsn' next' : Nat) (sv' : Value) : PgBox (setPg w g kind' level' id' lsn' next' sv') g kind' level' id' lsn' next' sv' := by
  unfold setPg PgBox at *
  have h0 := blk_set h 0 (.int .u8 kind')
  have h1 := blk_set h0 1 (.int .u8 level')
  have h2 := blk_set h1 2 (.int .u32 id')
  have h3 := blk_set h2 3 (.int .u64 lsn')
  have h4 := blk_set h3 4 (.int .u32 next')
  have h5 := blk_set h4 5 sv'
  simpa using h5
theorem own_set_far {base n size g i : Nat} {u : Value} {e : TypeId} {v : Value} {xs : List Value} (h : w.ownsRow base e size v n xs) (hf : ∀ k, v.ownBlock = some k → k ≠ g) : (w.setCell ⟨g, i, none⟩ u).ownsRow base e size v n xs := by
  refine h.kept (row := some g) (grown_set (grown_refl _ _)) ?_
  cases hv : v.ownBlock with
  | none => exact .inl rfl
  | some k => exact .inr (by have := hf k hv; simp; omega)
theorem one_kept (w : World) (g i : Nat) (u : Value) : OthersKept w (w.setCell ⟨g, i, none⟩ u) (fun k => k = g) := OthersKept.of_grown (g := g) (grown_set (grown_refl _ _)) rfl
theorem setPg_kept (w : World) (g kind level id lsn next : Nat) (sv : Value) : OthersKept w (setPg w g kind level id lsn next sv) (fun k => k = g) := by
  unfold setPg
  exact (((((one_kept w g 0 _).trans (one_kept _ g 1 _) (fun _ _ h => h)).trans (one_kept _ g 2 _) (fun _ _ h => h)).trans (one_kept _ g 3 _) (fun _ _ h => h)).trans (one_kept _ g 4 _) (fun _ _ h => h)).trans (one_kept _ g 5 _) (fun _ _ h => h)
theorem PgBox.set5 (h : PgBox w g kind level id lsn next sv) (sv' : Value) : PgBox (w.setCell ⟨g, 5, none⟩ sv') g kind level id lsn next sv' := by
  unfold PgBox at *
  have h5 := blk_set h 5 sv'
  simpa using h5
theorem PgBox.set4 (h : PgBox w g kind level id lsn next sv) (next' : Nat) : PgBox (w.setCell ⟨g, 4, none⟩ (.int .u32 next')) g kind level id lsn next' sv := by
  unfold PgBox at *
  have h5 := blk_set h 4 (.int .u32 next')
  simpa using h5
theorem PgBox.set3 (h : PgBox w g kind level id lsn next sv) (lsn' : Nat) : PgBox (w.setCell ⟨g, 3, none⟩ (.int .u64 lsn')) g kind level id lsn' next sv := by
  unfold PgBox at *
  have h5 := blk_set h 3 (.int .u64 lsn')
  simpa using h5
theorem PgBox.keep (h : PgBox w g kind level id lsn next sv) (o : Obj) : PgBox (w.alloc o) g kind level id lsn next sv := heap_keep h
theorem PgBox.grown {r : Option Nat} (h : PgBox w g kind level id lsn next sv) (hg : w.grownBy w' r) (hne : some g ≠ r) : PgBox w' g kind level id lsn next sv := (hg.block g h.lt hne).trans h
theorem PgBox.kept {q : Nat → Prop} (h : PgBox w g kind level id lsn next sv) (hk : OthersKept w w' q) (hq : ¬ q g) : PgBox w' g kind level id lsn next sv := hk.heap h hq
theorem PgBox.frozen (h : PgBox w g kind level id lsn next sv) (i : Nat) : w.frozen? ⟨g, i, none⟩ = false := blk_frozen h i
theorem PgBox.fr (h : PgBox w g kind level id lsn next sv) : w.frozen? ⟨g, 0, none⟩ = false ∧ w.frozen? ⟨g, 1, none⟩ = false ∧ w.frozen? ⟨g, 2, none⟩ = false ∧ w.frozen? ⟨g, 3, none⟩ = false ∧ w.frozen? ⟨g, 4, none⟩ = false ∧ w.frozen? ⟨g, 5, none⟩ = false :=
  ⟨h.frozen _, h.frozen _, h.frozen _, h.frozen _, h.frozen _, h.frozen _⟩
end
/-- Texts that stand in a row of blocks that were not touched. -/
theorem results_pg {fn : Func} {p u : Tmp} (h : fn.results = #[.cell p 26, .tmp u]) (tmps : Array Value) (w : World) {g kind level id lsn next : Nat} {sv : Value} (hp : tmps.getD p undef = .pointer (some ⟨g, 0, none⟩)) (hb : PgBox w g kind level id lsn next sv) :
    (results fn tmps).run Try.prog w = .ok (.tuple #[.agg #[.int .u8 kind, .int .u8 level, .int .u32 id, .int .u64 lsn, .int .u32 next, sv], tmps.getD u undef]) w := by
  rw [results_cell_tmp h, hp]
  simp [asAddr, run_loadVar_row w g 26 26 _ (0, 0) _ hb Try.underlying26 rfl (by kernel_rfl), Result.andThen]
/-- What a call leaves that gives a page and an error. -/
def PgPost (w : World) (R : Pg × Int) (e : Ending) (w' : World) : Prop := ∃ sv, e = .returned (.tuple #[pgV R.1 sv, .int .i64 R.2]) ∧ TextsAt w' sv R.1.rows ∧ Below w.heap.size w w'
theorem PgPost.no {w w' : World} {R : Pg × Int} {n : Int} (hR : R = (Pg.zero, n)) (hb : Below w.heap.size w w') : PgPost w R (.returned (.tuple #[.agg #[.int .u8 (0 : Nat), .int .u8 (0 : Nat), .int .u32 (0 : Nat), .int .u64 (0 : Nat), .int .u32 (0 : Nat), .slice none 0 0], .int .i64 n])) w' := by
  subst hR
  exact ⟨_, rfl, TextsAt.nil _, hb⟩
end Go.Proofs.Ytienlhnbmobinaa
namespace Go.Proofs.Ytienlhnbmobinaa
open Go.RowKit
set_option linter.unusedVariables false
set_option linter.unusedSimpArgs false
set_option maxHeartbeats 2000000 in
set_option maxRecDepth 100000 in
theorem pageMay_any (p : Pg) (sv : Value) (w : World) (hp : p.wf) (ht : TextsAt w sv p.rows) (hb : weightB p.rows ≤ 1000000) :
    Calls Try.prog 46 #[pgV p sv] w fun e w' => e = .returned (.bool p.may) ∧ Below w.heap.size w w' := by
  obtain ⟨kind, level, id, lsn, next, rows⟩ := p
  obtain ⟨A, cp, rfl, h2, h3, h4, h5⟩ := ht
  obtain ⟨p1, p2, p3, p4, p5⟩ := hp
  simp only at *
  obtain ⟨n, hn⟩ : ∃ n, n = rows.length := ⟨_, rfl⟩
  rw [← hn] at h2
  unfold pgV
  simp only [← hn]
  unfold maxLen at h3
  have hM : Hid (∀ W : Nat, W = weightB rows → (Pg.may ⟨kind, level, id, lsn, next, rows⟩ = true ↔ ((kind ≤ 5 ∧ 1 ≤ id) ∧ id ≤ 1024) ∧ next ≤ 1024 ∧ (W : Int) ≤ 484)) := by
    intro W hW
    unfold Pg.may
    rw [Bool.and_eq_true, headOk_iff, decide_eq_true_iff]
    simp only
    omega
  have H5 := Lib.hid h5
  have HN := Lib.hid hn
  clear h5 h4 hn
  generalize Pg.may ⟨kind, level, id, lsn, next, rows⟩ = b at hM ⊢
  go_enter Try.func46, Try.ntmps46
  go_wp2_with fail
  go_loopw [3, 5, 9] (fun s3 s5 s9 wr => ∃ i : Nat, s9 = .int .i64 i ∧ i ≤ n ∧ wr = w.alloc (.cells #[.int .u8 kind, .int .u8 level, .int .u32 id, .int .u64 lsn, .int .u32 next, .slice A n cp] 26) ∧ s3 = .int .i64 (484 - (weightB (rows.take i) : Nat))) (fun _ _ v _ => n - (intOf v).toNat)
  case atStart => exact ⟨0, rfl, Nat.zero_le _, rfl, rfl⟩
  case round =>
    obtain ⟨i, rfl, hi, rfl, rfl⟩ := hrel
    by_cases hc : i < n
    · have hci : (i : Int) < (n : Int) := by omega
      have hix : i < rows.length := by rw [← HN.out]; exact hc
      obtain ⟨b0, o0, rfl, hb0, hcell⟩ := H5.out (by omega)
      have c1 := (Below.cell ((Below.refl w.heap.size w).alloc (Nat.le_refl _) (.cells #[.int .u8 kind, .int .u8 level, .int .u32 id, .int .u64 lsn, .int .u32 next, .slice (some ⟨b0, o0, none⟩) n cp] 26)) (show (⟨b0, o0 + i, none⟩ : Addr).block < w.heap.size from hb0)).trans (hcell i hix)
      have q1 : (0 : Int) ≤ (i : Int) := by omega
      have hw1 := weightB_take rows i hix
      have hw2 := weightB_take_le rows (i + 1)
      obtain ⟨s, hs⟩ : ∃ s : ByteArray, s = ⟨rows[i].toArray⟩ := ⟨_, rfl⟩
      have hsz : s.size = rows[i].length := by rw [hs]; simp [ByteArray.size]
      rw [← hs] at c1
      rw [← hsz] at hw1
      have HW := Lib.hid hw1
      have q2 : weightB (rows.take i) + (4 + s.size) ≤ 1000000 := by omega
      clear hcell hs hsz hw1 hw2
      generalize weightB (rows.take i) = W at *
      go_wp2_with fail
      go_roundw
      case rel => exact ⟨i + 1, by go_num, by omega, by first | rfl | trivial, by rw [HW.out]; go_num⟩
      case measure => simp [intOf] <;> omega
    · have hci : ¬ (i : Int) < (n : Int) := by omega
      have hin : rows.take i = rows := by rw [List.take_of_length_le]; rw [← HN.out]; omega
      have hM2 := Lib.hid (hM.out (weightB (rows.take i)) (by rw [hin]))
      clear hin hM
      generalize weightB (rows.take i) = W at *
      go_wp2_with fail
      all_goals go_ret
      all_goals refine ⟨ret_bool ?_, (Below.refl _ _).alloc (Nat.le_refl _) _⟩
      all_goals
        have h := hM2.out
        rw [Bool.eq_iff_iff]
        simp only [h]
        simp
        try omega
end Go.Proofs.Ytienlhnbmobinaa
namespace Go.Proofs.Ytienlhnbmobinaa
open Go.RowKit
set_option linter.unusedVariables false
set_option linter.unusedSimpArgs false
end Go.Proofs.Ytienlhnbmobinaa
namespace Go.Proofs.Ytienlhnbmobinaa
open Go.RowKit
set_option linter.unusedVariables false
set_option linter.unusedSimpArgs false
end Go.Proofs.Ytienlhnbmobinaa
end

section
/- Slices of texts that came in. -/
namespace Go.Proofs.Ytienlhnbmobinaa
open Go.RowKit
set_option linter.unusedVariables false
set_option linter.unusedSimpArgs false
theorem spot_noneT {w : World} {x : Addr} {v : Value} (h : w.cell? x = some v) : ∃ b o, x = ⟨b, o, none⟩ := by
  obtain ⟨b, o, sp⟩ := x
  cases sp with
  | none => exact ⟨b, o, rfl⟩
  | some k =>
    unfold World.cell? at h
    simp at h
    split at h <;> simp at h
section
open Go.ChangeShapes Go.WideShapes
variable {H : Type} {enc : TypeId × Value → H} {P : Program} {w : World} {base : Nat} {held : Bool}
end
end Go.Proofs.Ytienlhnbmobinaa
end

section
/- slices of uint32 that can be read -/
namespace Go.Proofs.Ytienlhnbmobinaa
open Go.RowKit
set_option linter.unusedVariables false
set_option linter.unusedSimpArgs false
def n32 (ts : List Nat) : List Value := ts.map fun (t : Nat) => .int .u32 (t : Int)
/-- A slice of numbers that can be read. -/
def N32At (w : World) (sv : Value) (xs : List Nat) : Prop :=
  ∃ A cp, sv = .slice A xs.length cp ∧ xs.length ≤ cp ∧ cp ≤ maxLen ∧ (A = none → xs = [] ∧ cp = 0) ∧ (0 < xs.length → ∃ b o, A = some ⟨b, o, none⟩ ∧ b < w.heap.size ∧ ∀ j (h : j < xs.length), w.cell? ⟨b, o + j, none⟩ = some (.int .u32 (xs[j] : Nat)))
theorem N32At.below {w w' : World} {sv : Value} {xs : List Nat} (h : N32At w sv xs) (hb : Below w.heap.size w w') : N32At w' sv xs := by
  obtain ⟨A, cp, h1, h2, h3, h4, h5⟩ := h
  refine ⟨A, cp, h1, h2, h3, h4, fun h0 => ?_⟩
  obtain ⟨b, o, h6, h7, h8⟩ := h5 h0
  exact ⟨b, o, h6, Nat.lt_of_lt_of_le h7 hb.size, fun j hj => keep_cell hb (h8 j hj)⟩
theorem n32_get (xs : List Nat) (j : Nat) (h : j < xs.length) : (n32 xs)[j]? = some (.int .u32 (xs[j] : Nat)) := by
  unfold n32
  rw [List.getElem?_map, List.getElem?_eq_getElem h]
  rfl
theorem N32At.reads {w : World} {sv : Value} {xs : List Nat} (h : N32At w sv xs) : Reads w sv xs.length 1 (n32 xs) := by
  obtain ⟨A, cp, rfl, h2, h3, h4, h5⟩ := h
  rcases Nat.eq_zero_or_pos xs.length with h0 | h0
  · obtain rfl := List.eq_nil_of_length_eq_zero h0
    cases A with
    | none => obtain ⟨_, rfl⟩ := h4 rfl; exact .inl ⟨rfl, rfl, rfl⟩
    | some a => exact .inr ⟨a, cp, rfl, rfl, fun j u hu => by simp [n32] at hu⟩
  · obtain ⟨b, o, rfl, _, hc⟩ := h5 h0
    refine .inr ⟨_, cp, rfl, by simp [n32], fun j u hu => ?_⟩
    have hj : j < xs.length := by
      have := (List.getElem?_eq_some_iff.1 hu).1
      simpa [n32] using this
    rw [n32_get xs j hj] at hu
    injection hu with hu
    rw [← hu, Addr.add_lit]
    exact hc j hj
theorem N32At.zero {w : World} {sv : Value} {xs : List Nat} (h : N32At w sv xs) : ∃ A cp, sv = .slice A xs.length cp ∧ xs.length ≤ cp ∧ cp ≤ maxLen := by
  obtain ⟨A, cp, h1, h2, h3, _⟩ := h
  exact ⟨A, cp, h1, h2, h3⟩
end Go.Proofs.Ytienlhnbmobinaa
end
