/- Facts on blocks of memory, rows of bytes, texts: no function of the program is named here.; Regions that draw their order and hold calls that make memory: one walk of the lexical order serves, for the class of worlds in which what was there is as it was.; copy of a text into a row of bytes; a new row of zeros; A region that draws its order: quiet operations, then others one behind the other; Rows that grow: small facts on ownsRow, Below and grownBy; append of what another slice has; The frame but for a class of blocks.; rows in memory with some cells changed -/
import Derived.Test.YtienlhnbmobinaaRows
import Derived.Test.YtienlhnbmobinaaPlains
import Derived.Lib.Strings
import Derived.WalkKit
import Derived.WalkLawsBesides
import Derived.WalkSpells
import Derived.LoopTactic
import Derived.WalkMore
import Derived.LoopN
import Derived.Laws.BitsAllLaws
import Derived.Laws.IdiomStrings
import Derived.BigQuiet
import Derived.Deep.QuietTactic
import Derived.Deep.DeepCutAuto
import Derived.Deep.RegionHeld3
import Derived.Deep.DrawnRows
import Derived.Lib.Hide
import Derived.Outline
import Derived.Deep.DeepMust
import Derived.Handy
import Derived.Below
import Derived.StillTail
import Derived.OwnWalk
import Derived.Laws.OwnMore
namespace Go.Proofs.Ytienlhnbmobinaa
open Go.RowKit
set_option linter.unusedVariables false
set_option linter.unusedSimpArgs false

theorem ret_int {k : IntKind} {a b : Int} (h : a = b) : Ending.returned (.int k a) = .returned (.int k b) := by rw [h]

theorem ret_bool {a b : Bool} (h : a = b) : Ending.returned (.bool a) = .returned (.bool b) := by rw [h]

theorem blk_lt {w : World} {g : Nat} {o : Obj} (h : w.heap[g]? = some o) : g < w.heap.size := by
  rcases Nat.lt_or_ge g w.heap.size with hlt | hge
  · exact hlt
  · rw [Array.getElem?_eq_none hge] at h; cases h

theorem blk_cell {w : World} {g : Nat} {t : TypeId} {cs : Array Value} (h : w.heap[g]? = some (.cells cs t (0, 0))) (i : Nat) : w.cell? ⟨g, i, none⟩ = cs[i]? := cell_of_row w g i cs t (0, 0) h

theorem blk_frozen {w : World} {g : Nat} {t : TypeId} {cs : Array Value} (h : w.heap[g]? = some (.cells cs t (0, 0))) (i : Nat) : w.frozen? ⟨g, i, none⟩ = false := by
  simp [World.frozen?, h]

theorem blk_set {w : World} {g : Nat} {t : TypeId} {cs : Array Value} (h : w.heap[g]? = some (.cells cs t (0, 0))) (i : Nat) (u : Value) : (w.setCell ⟨g, i, none⟩ u).heap[g]? = some (.cells (cs.setIfInBounds i u) t (0, 0)) := by
  simp [World.setCell, Array.getElem?_modify, h]

theorem grown_set {w w' : World} {g i : Nat} {u : Value} (h : w.grownBy w' (some g)) : w.grownBy (w'.setCell ⟨g, i, none⟩ u) (some g) :=
  ⟨h.os, h.tape, h.output, by simpa [World.setCell] using h.size, fun k hk hne => by rw [Below.heap_setCell _ _ _ _ (fun e => hne (by rw [e]))]; exact h.block k hk hne⟩

theorem grown_below {w w' : World} (row : Option Nat) (h : Below w.heap.size w w') : w.grownBy w' row := ⟨h.os, h.tape, h.output, h.size, fun k hk _ => h.block k hk⟩

theorem heap_keep {w : World} {g : Nat} {o o' : Obj} (h : w.heap[g]? = some o') : (w.alloc o).heap[g]? = some o' := (Below.heap_alloc w o g (blk_lt h)).trans h

theorem set_keep {w : World} {g x j : Nat} {u : Value} {o : Obj} (h : w.heap[g]? = some o) (hne : g ≠ x) : (w.setCell ⟨x, j, none⟩ u).heap[g]? = some o := (Below.heap_setCell w ⟨x, j, none⟩ u g hne).trans h

theorem opt_bool {a b : Bool} (h : a = b) : (some (Value.bool a)) = some (Value.bool b) := by rw [h]

theorem bytes_ext {a b : ByteArray} (h : a.data.toList = b.data.toList) : a = b := ByteArray.ext (Array.ext' h)

theorem be_str (k n : Nat) : (⟨(be k n).toArray⟩ : ByteArray).size = k := by
  show (be k n).toArray.size = k
  simp [be_length]

theorem set_lt {w : World} {x j : Nat} {u : Value} : (w.setCell ⟨x, j, none⟩ u).heap.size = w.heap.size := by simp [World.setCell]

theorem cells7 {w : World} {g : Nat} {t : TypeId} {a0 a1 a2 a3 a4 a5 a6 : Value} (h : w.heap[g]? = some (.cells #[a0, a1, a2, a3, a4, a5, a6] t (0, 0))) :
    w.cell? ⟨g, 0, none⟩ = some a0 ∧ w.cell? ⟨g, 1, none⟩ = some a1 ∧ w.cell? ⟨g, 2, none⟩ = some a2 ∧ w.cell? ⟨g, 3, none⟩ = some a3 ∧ w.cell? ⟨g, 4, none⟩ = some a4 ∧ w.cell? ⟨g, 5, none⟩ = some a5 ∧ w.cell? ⟨g, 6, none⟩ = some a6 := by
  refine ⟨?_, ?_, ?_, ?_, ?_, ?_, ?_⟩ <;> (rw [blk_cell h]; rfl)

theorem keep_drew {w : World} {g : Nat} {o : Obj} (h : w.heap[g]? = some o) : w.drew.heap[g]? = some o := h

theorem cell_set_far {w : World} {q : Addr} {v : Value} {x j : Nat} {u : Value} (h : w.cell? q = some v) (hne : q.block ≠ x) : (w.setCell ⟨x, j, none⟩ u).drew.cell? q = some v := by
  have hb : (w.setCell ⟨x, j, none⟩ u).heap[q.block]? = w.heap[q.block]? := Below.heap_setCell w ⟨x, j, none⟩ u q.block hne
  show (w.setCell ⟨x, j, none⟩ u).cell? q = some v
  unfold World.cell? at h ⊢
  rw [hb]
  exact h

/-- The bytes that the walk left, as the plain words have them. -/
theorem strOfNums_cons (x : Int) (xs : List Int) : (strOfNums (x :: xs)).data.toList = UInt8.ofNat x.toNat :: (strOfNums xs).data.toList := by simp [strOfNums]

theorem strOfNums_size : ∀ xs : List Int, (strOfNums xs).size = xs.length
  | [] => rfl
  | x :: xs => by
    have h := strOfNums_cons x xs
    have h2 := strOfNums_size xs
    have e1 : (strOfNums (x :: xs)).data.toList.length = (strOfNums (x :: xs)).size := by simp
    have e2 : (strOfNums xs).data.toList.length = (strOfNums xs).size := by simp
    rw [← e1, h, List.length_cons, e2, h2, List.length_cons]

theorem cell_lt {w : World} {q : Addr} {v : Value} (h : w.cell? q = some v) : q.block < w.heap.size := by
  rcases Nat.lt_or_ge q.block w.heap.size with hlt | hge
  · exact hlt
  · simp [World.cell?, Array.getElem?_eq_none hge] at h

theorem ret_str1 {s s' : ByteArray} (h : s = s') : Ending.returned (.string s) = .returned (.string s') := by rw [h]

theorem conv_block {P : Program} (w : World) (src e dst : TypeId) (hs : P.underlying src = some (.slice e)) (he : P.underlying e = some (.int .u8)) (hd : P.underlying dst = some .string)
    (C : Array Value) (t : TypeId) (off len cap : Nat) (h : ∀ i, i < len → C[off + i]? = some (.int .u8 ((((C.toList.drop off).take len).map intOf).getD i 0))) (hl : off + len ≤ C.size) :
    (convert src dst (.slice (some ⟨w.heap.size, off, none⟩) len cap)).run P (w.alloc (.cells C t)) = .ok (.string (strOfNums (((C.toList.drop off).take len).map intOf))) (w.alloc (.cells C t)) :=
  run_convert_bytes_arg _ src e hs he w.heap.size off len cap _ (by simp; omega) (fun i hi => by rw [World.cell?_alloc_mark]; exact h i hi) dst hd

theorem u8_same {a b : Nat} (h : a % 256 = b % 256) : UInt8.ofNat a = UInt8.ofNat b := by
  rw [← UInt8.toNat_inj]; simpa using h

theorem cons_same {a b : UInt8} {l l' : List UInt8} (h : a = b) (h' : l = l') : a :: l = b :: l' := by rw [h, h']

theorem str_same {l l' : List UInt8} (h : l = l') : (⟨l.toArray⟩ : ByteArray) = ⟨l'.toArray⟩ := by rw [h]

theorem ret_str2 {s s' : ByteArray} {v : Value} (h : s = s') : Ending.returned (.tuple #[.string s, v]) = .returned (.tuple #[.string s', v]) := by rw [h]

/-- A row of bytes that the program made: block g's first cells. None of them is frozen. -/
def RowAt (W : World) (g : Nat) (zs : List UInt8) : Prop :=
  ∃ (cs : Array Value) (t : TypeId) (f0 f1 : Nat), W.heap[g]? = some (.cells cs t (f0, f1)) ∧ zs.length ≤ cs.size ∧ (zs.length ≤ f0 ∨ f1 = 0) ∧ ∀ i (h : i < zs.length), cs[i]? = some (.int .u8 (zs[i].toNat : Int))
theorem RowAt.cell {W : World} {g : Nat} {zs : List UInt8} (h : RowAt W g zs) (i : Nat) (hi : i < zs.length) : W.cell? ⟨g, i, none⟩ = some (.int .u8 (zs[i].toNat : Int)) := by
  obtain ⟨cs, t, f0, f1, hb, hl, hf, hc⟩ := h
  rw [cell_of_row W g i cs t _ hb]
  exact hc i hi
theorem RowAt.frozen {W : World} {g : Nat} {zs : List UInt8} (h : RowAt W g zs) (i : Nat) (hi : i < zs.length) : W.frozen? ⟨g, i, none⟩ = false := by
  obtain ⟨cs, t, f0, f1, hb, hl, hf, hc⟩ := h
  simp [World.frozen?, hb]
  omega
theorem RowAt.lt {W : World} {g : Nat} {zs : List UInt8} (h : RowAt W g zs) : g < W.heap.size := by
  obtain ⟨cs, t, f0, f1, hb, _⟩ := h
  exact blk_lt hb
theorem RowAt.set {W : World} {g : Nat} {zs : List UInt8} (h : RowAt W g zs) (i : Nat) (u : UInt8) (hi : i < zs.length) : RowAt (W.setCell ⟨g, i, none⟩ (.int .u8 (u.toNat : Int))) g (zs.set i u) := by
  obtain ⟨cs, t, f0, f1, hb, hl, hf, hc⟩ := h
  refine ⟨cs.setIfInBounds i (.int .u8 (u.toNat : Int)), t, f0, f1, ?_, by simpa using hl, by simpa using hf, ?_⟩
  · simp [World.setCell, Array.getElem?_modify, hb]
  · intro j hj
    have hj' : j < zs.length := by simpa using hj
    by_cases hij : i = j
    · subst hij
      simp [Array.getElem?_setIfInBounds_self_of_lt (show i < cs.size by omega)]
    · rw [Array.getElem?_setIfInBounds_ne hij]
      simp only [List.getElem_set, if_neg hij]
      exact hc j hj'
theorem RowAt.of_eq {W W' : World} {g : Nat} {zs : List UInt8} (h : RowAt W g zs) (hb : W'.heap[g]? = W.heap[g]?) : RowAt W' g zs := by
  obtain ⟨cs, t, f0, f1, hx, hl, hf, hc⟩ := h
  exact ⟨cs, t, f0, f1, hb.trans hx, hl, hf, hc⟩
theorem RowAt.below {W W' : World} {g : Nat} {zs : List UInt8} (h : RowAt W g zs) (hb : Below W.heap.size W W') : RowAt W' g zs := h.of_eq (hb.block g h.lt)

/-- '[]byte(s)': a new row that holds the text's bytes. -/
theorem upon_row {P : Program} {o : Oper} {a : Act} {K : Act → World → Prop} {Q : Exit → Act → World → Prop} (w : World) (src dst e : TypeId) (s : ByteArray)
    (hs : P.underlying src = some .string) (hd : P.underlying dst = some (.slice e)) (he : P.underlying e = some (.int .u8))
    (h : ∀ (W : World) (cap : Nat), Below w.heap.size w W → RowAt W w.heap.size s.data.toList → K (a.put o.dst (.slice (some ⟨w.heap.size, 0, none⟩) s.size cap)) W) :
    o.upon P a K Q (((convert src dst (.string s)).run P w).andThen fun v w' => .ok (.value v) w') := by
  rw [run_bytes_of_string w src dst e s hs hd he]
  simp only [Result.andThen]
  rw [Oper.upon_value]
  refine h _ _ ((Below.refl _ _).drew.alloc (Nat.le_refl _) _) ⟨bytesRow s (grownCap w s.size 0 e), e, (bytesRow s (grownCap w s.size 0 e)).size, (bytesRow s (grownCap w s.size 0 e)).size + 1, ?_, ?_, .inl ?_, fun i hi => ?_⟩
  · show (w.heap.push (.cells (bytesRow s (grownCap w s.size 0 e)) e ((bytesRow s (grownCap w s.size 0 e)).size, (bytesRow s (grownCap w s.size 0 e)).size + 1)))[w.heap.size]? = _
    simp
  · simp [bytesRow]
  · simp [bytesRow]
  · rw [bytesRow_at s _ i (by simpa using hi)]
    simp
/-- 'string(b)' of such a row, whole. -/
theorem row_str {P : Program} {W : World} {g cap : Nat} {zs : List UInt8} (h : RowAt W g zs) (src e dst : TypeId) (hs : P.underlying src = some (.slice e)) (he : P.underlying e = some (.int .u8)) (hd : P.underlying dst = some .string) :
    (convert src dst (.slice (some ⟨g, 0, none⟩) zs.length cap)).run P W = .ok (.string (strOfNums (zs.map fun b => (b.toNat : Int)))) W :=
  run_convert_bytes_arg _ src e hs he g 0 zs.length cap _ (by simp) (fun i hi => by
    rw [Nat.zero_add, h.cell i hi]
    simp [List.getD_eq_getElem?_getD, hi]) dst hd

theorem upon_str {P : Program} {o : Oper} {a : Act} {K : Act → World → Prop} {Q : Exit → Act → World → Prop} {W : World} {g n cap : Nat} {zs : List UInt8} (h : RowAt W g zs) (hn : zs.length = n) (src e dst : TypeId) (hs : P.underlying src = some (.slice e)) (he : P.underlying e = some (.int .u8)) (hd : P.underlying dst = some .string)
    (hk : K (a.put o.dst (.string (strOfNums (zs.map fun b => (b.toNat : Int))))) W) :
    o.upon P a K Q (((convert src dst (.slice (some ⟨g, 0, none⟩) n cap)).run P W).andThen fun v w' => .ok (.value v) w') := by
  rw [← hn, row_str h src e dst hs he hd]
  simp only [Result.andThen]
  rw [Oper.upon_value]
  exact hk

end Go.Proofs.Ytienlhnbmobinaa

namespace Go.Proofs.Ytienlhnbmobinaa
open Go.RowKit

/-- A world in which all that lay below block B is as it was in w. -/
structure Ext (B : Nat) (w : World) where
  val : World
  below : Below B w val

instance (B : Nat) (w : World) : Nonempty (Ext B w) := ⟨⟨w, Below.refl B w⟩⟩

theorem wp_region_ext {P : Program} (B : Nat) {id : Nat} {Q : Exit → Act → World → Prop} {a : Act} {w : World} {l : List Oper} (hm : P.follows .mixedOrders = true) (hB : Region.lexB .any l.toArray = true)
    (h : wpQuiet P l.toArray (fun w' => ∃ x : Ext B w, w' = x.val) (fun a' => ∀ w', (∃ x : Ext B w, w' = x.val) → Q .normal a' w') l a) : (Code.region id l.toArray true).wp P Q a w :=
  wp_region_quiet (C := fun w' => ∃ x : Ext B w, w' = x.val) hm hB ⟨⟨_, (Below.refl B w).drew⟩, rfl⟩ (by simpa using h)

/-- A callee that makes memory of its own alone. -/
theorem ext_call {P : Program} {f : FuncId} {args : Array Value} {v : Value} {B : Nat} {w : World} (x : Ext B w) (hB : B ≤ w.heap.size)
    (h : Calls P f args x.val fun e w' => e = .returned v ∧ Below x.val.heap.size x.val w') : Calls P f args x.val fun e w'' => e = .returned v ∧ ∃ y : Ext B w, w'' = y.val :=
  h.mono fun _ _ ⟨he, hb⟩ => ⟨he, ⟨_, x.below.trans (hb.mono (Nat.le_trans hB x.below.size))⟩, rfl⟩

/-- A callee that leaves the world alone. -/
theorem ext_same {P : Program} {f : FuncId} {args : Array Value} {v : Value} {B : Nat} {w : World} (x : Ext B w)
    (h : Calls P f args x.val fun e w' => e = .returned v ∧ x.val = w') : Calls P f args x.val fun e w'' => e = .returned v ∧ ∃ y : Ext B w, w'' = y.val :=
  h.mono fun _ _ ⟨he, hb⟩ => ⟨he, x, hb.symm⟩

/-- A callee that only draws. -/
theorem ext_drew {P : Program} {f : FuncId} {args : Array Value} {v : Value} {B : Nat} {w : World} (x : Ext B w)
    (h : Calls P f args x.val fun e w' => e = .returned v ∧ ∃ m, w' = x.val.drewN m) : Calls P f args x.val fun e w'' => e = .returned v ∧ ∃ y : Ext B w, w'' = y.val :=
  h.mono fun _ _ ⟨he, m, hb⟩ => ⟨he, ⟨_, x.below.trans (by rw [hb]; exact ⟨rfl, rfl, rfl, Nat.le_refl _, fun _ _ => rfl⟩)⟩, rfl⟩

theorem ext_cell {B : Nat} {w : World} {b o : Nat} {v : Value} (h : w.cell? ⟨b, o, none⟩ = some v) (hb : b < B) : ∀ x : Ext B w, x.val.cell? ⟨b, o, none⟩ = some v :=
  fun x => (x.below.cell (p := ⟨b, o, none⟩) hb).trans h

theorem bcell {W w1 : World} (hb : Below W.heap.size W w1) : (∀ b o, b < W.heap.size → w1.cell? ⟨b, o, none⟩ = W.cell? ⟨b, o, none⟩) ∧ (∀ b o, b < W.heap.size → w1.frozen? ⟨b, o, none⟩ = W.frozen? ⟨b, o, none⟩) :=
  ⟨fun b o h => hb.cell (p := ⟨b, o, none⟩) h, fun b o h => hb.frozen (p := ⟨b, o, none⟩) h⟩
end Go.Proofs.Ytienlhnbmobinaa

namespace Go.Proofs.Ytienlhnbmobinaa
open Go.RowKit
set_option linter.unusedVariables false
set_option linter.unusedSimpArgs false

theorem grown_refl (w : World) (r : Option Nat) : w.grownBy w r := grown_below r (Below.refl _ _)
theorem grown_trans {w w' w'' : World} {g : Nat} (h : w.grownBy w' (some g)) (h' : w'.grownBy w'' (some g)) : w.grownBy w'' (some g) :=
  ⟨h'.os.trans h.os, h'.tape.trans h.tape, h'.output.trans h.output, Nat.le_trans h.size h'.size, fun k hk hne => (h'.block k (Nat.lt_of_lt_of_le hk h.size) hne).trans (h.block k hk hne)⟩

theorem seg_step (l : List UInt8) (k : Nat) (v : UInt8) (rest : List UInt8) (hk : k < l.length) :
    (l.set k v).take (k + 1) ++ rest ++ (l.set k v).drop (k + 1 + rest.length) = l.take k ++ (v :: rest) ++ l.drop (k + (rest.length + 1)) := by
  have e : l.set k v = (l.take k ++ [v]) ++ l.drop (k + 1) := by rw [List.set_eq_take_append_cons_drop, if_pos hk]; simp
  have hl : (l.take k ++ [v]).length = k + 1 := by simp; omega
  have h1 : (l.set k v).take (k + 1) = l.take k ++ [v] := by rw [e, ← hl, List.take_left]
  have h2 : (l.set k v).drop (k + 1 + rest.length) = l.drop (k + (rest.length + 1)) := by
    rw [e, ← List.drop_drop, ← hl, List.drop_left, List.drop_drop]
    congr 1
    omega
  rw [h1, h2]
  simp

theorem run_storeBytes {P : Program} (g o : Nat) : ∀ (vs : List UInt8) (i : Nat) (l : List UInt8) (w : World), RowAt w g l → o + i + vs.length ≤ l.length →
    ∃ w', (storeCells ⟨g, o, none⟩ (vs.map fun b => Value.int .u8 (b.toNat : Int)) i).run P w = .ok () w' ∧ RowAt w' g (l.take (o + i) ++ vs ++ l.drop (o + i + vs.length)) ∧ w.grownBy w' (some g)
  | [], i, l, w, h, _ => ⟨w, rfl, by simpa using h, grown_refl _ _⟩
  | b :: rest, i, l, w, h, hl => by
    have hi : o + i < l.length := by simp at hl; omega
    have hadd : (⟨g, o, none⟩ : Addr).add i = ⟨g, o + i, none⟩ := by unfold Addr.add; split <;> simp_all
    have hst : (store ((⟨g, o, none⟩ : Addr).add i) (.int .u8 (b.toNat : Int))).run P w = .ok () (w.setCell ⟨g, o + i, none⟩ (.int .u8 (b.toNat : Int))) := by
      rw [hadd, run_store P w _ _ _ rfl, h.cell _ hi]
      simp [h.frozen _ hi]
    obtain ⟨w', h1, h2, h3⟩ := run_storeBytes (P := P) g o rest (i + 1) (l.set (o + i) b) _ (h.set (o + i) b hi) (by simp at hl ⊢; omega)
    refine ⟨w', ?_, ?_, grown_trans (grown_set (grown_refl w (some g))) h3⟩
    · simp only [List.map_cons, storeCells, Sem.run_bind, hst, Result.andThen_ok, h1]
    · have e := seg_step l (o + i) b rest hi
      rw [List.length_cons, ← e]
      exact h2

/-- 'copy(b[k:], s)' of a text that fits. -/
theorem run_copy_text {P : Program} {W : World} {g k dLen dCap : Nat} {l : List UInt8} (h : RowAt W g l) (dT sT ty elem : TypeId) (s : ByteArray)
    (hu : P.underlying dT = some (.slice elem)) (hs : (P.info? elem).map (·.size) = some 1) (hle : s.size ≤ dLen) (hfit : k + s.size ≤ l.length) :
    ∃ W', (Builtin.copy_ #[dT, sT] ty #[.slice (some ⟨g, k, none⟩) dLen dCap, .string s]).run P W = .ok (goInt s.size) W' ∧ RowAt W' g (l.take k ++ s.data.toList ++ l.drop (k + s.size)) ∧ W.grownBy W' (some g) := by
  have hlen : s.data.toList.length = s.size := by simp
  obtain ⟨W', h1, h2, h3⟩ := run_storeBytes (P := P) g k s.data.toList 0 l W h (by rw [hlen]; simpa using hfit)
  have hmin : Nat.min s.size dLen = s.size := Nat.min_eq_left hle
  have htk : List.take s.size (List.map (fun b : UInt8 => Value.int IntKind.u8 (b.toNat : Int)) s.data.toList) = List.map (fun b : UInt8 => Value.int IntKind.u8 (b.toNat : Int)) s.data.toList := by
    rw [List.take_of_length_le (by rw [List.length_map, hlen]; exact Nat.le_refl _)]
  refine ⟨W', ?_, by simpa [hlen] using h2, h3⟩
  cases hq : P.info? elem with
  | none => simp [hq] at hs
  | some i =>
    simp [Builtin.copy_, run_underlying hu, Builtin.lenOf, Builtin.firstCells, sizeOf, typeInfo, hq, hmin]
    rw [htk, h1]
    simp [Result.andThen]

theorem upon_copy {P : Program} {o : Oper} {a : Act} {K : Act → World → Prop} {Q : Exit → Act → World → Prop} {W : World} {g k dLen dCap : Nat} {l : List UInt8} (h : RowAt W g l) (dT sT ty elem : TypeId) (s : ByteArray)
    (hu : P.underlying dT = some (.slice elem)) (hs : (P.info? elem).map (·.size) = some 1) (hle : s.size ≤ dLen) (hfit : k + s.size ≤ l.length)
    (hk : ∀ W', RowAt W' g (l.take k ++ s.data.toList ++ l.drop (k + s.size)) → W.grownBy W' (some g) → K (a.put o.dst (goInt s.size)) W') :
    o.upon P a K Q (((Builtin.copy_ #[dT, sT] ty #[.slice (some ⟨g, k, none⟩) dLen dCap, .string s]).run P W).andThen fun v w' => .ok (.value v) w') := by
  obtain ⟨W', h1, h2, h3⟩ := run_copy_text (P := P) (dCap := dCap) h dT sT ty elem s hu hs hle hfit
  rw [h1]
  simp only [Result.andThen]
  rw [Oper.upon_value]
  exact hk W' h2 h3
/-- 'make([]byte, n)': a new row of zeros. -/
theorem upon_make {P : Program} {o : Oper} {a : Act} {K : Act → World → Prop} {Q : Exit → Act → World → Prop} (W : World) (t e : TypeId) (n : Nat) (ht : P.underlying t = some (.slice e)) (hz : (P.info? e).map (·.zero) = some (some (.int .u8 0))) (hs : (P.info? e).map (·.size) = some 1) (hb : (P.info? e).map (·.bytes) = some 1) (hn : n ≤ 1000000)
    (hk : ∀ W', RowAt W' W.heap.size (List.replicate n 0) → Below W.heap.size W W' → K (a.put o.dst (.slice (some ⟨W.heap.size, 0, none⟩) n n)) W') :
    o.upon P a K Q (((Instr.makeSlice t (.int .i64 n) (.int .i64 n)).run P W).andThen fun v w' => .ok (.value v) w') := by
  cases hq : P.info? e with
  | none => rw [hq] at hs; simp at hs
  | some i =>
    rw [hq] at hz hs hb
    simp at hz hs hb
    have hr := run_makeSlice (P := P) W t e i _ ht hq hz .i64 .i64 (n : Int) (n : Int) (by omega) (Int.le_refl _) (by rw [hs]; simp; omega) (by rw [hb]; omega) (by omega)
    rw [hr]
    simp only [Result.andThen]
    rw [Oper.upon_value]
    simp only [Int.toNat_natCast, hs, Nat.mul_one]
    refine hk _ ⟨_, e, 0, 0, heap_alloc_new W _, ?_, .inr rfl, ?_⟩ ((Below.refl _ _).alloc (Nat.le_refl _) _)
    · simp [madeCells, Value.cells]
    · intro j hj
      have : j < n := by simpa using hj
      simp [madeCells, Value.cells, this, Nat.mod_one]

end Go.Proofs.Ytienlhnbmobinaa

namespace Go.Proofs.Ytienlhnbmobinaa
open Go.RowKit
set_option linter.unusedVariables false
set_option linter.unusedSimpArgs false

section
variable {P : Program} {ops : Array Oper} {md : Region.Mode} {C : World → Prop}

/-- Whatever order is picked among the first n operations, all quiet in the class; then L. -/
def headQ (P : Program) (md : Region.Mode) (ops : Array Oper) (C : World → Prop) (n : Nat) (L : Array Bool → Act → Prop) : Nat → Array Bool → Act → Prop
  | 0, listed, a => L listed a
  | f + 1, listed, a => Region.ready md ops listed ≠ [] ∧ ∀ i ∈ Region.ready md ops listed, i < n ∧ qOp P ops C i (headQ P md ops C n L f (listed.setIfInBounds i true)) a

theorem any_of_headQ {n g : Nat} {L : Array Bool → Act → Prop} {Q' : Exit → Act → World → Prop} (hL : ∀ listed a w, C w → L listed a → wpAny P md ops Q' g listed a w) :
    ∀ (f : Nat) (listed : Array Bool) (a : Act) (w : World), C w → headQ P md ops C n L f listed a → wpAny P md ops Q' (f + g) listed a w
  | 0, listed, a, w, hw, h => by rw [Nat.zero_add]; exact hL _ _ _ hw h
  | f + 1, listed, a, w, hw, h => by
    rw [show f + 1 + g = (f + g) + 1 by omega]
    exact ⟨fun h0 => absurd h0 h.1, fun i hi => wpOp_of_qOp hw (fun a' w' hw' h' => any_of_headQ hL f _ a' w' hw' h') (h.2 i hi).2⟩

theorem headQ_first {n i : Nat} {oi : Oper} {v : Value} {L : Array Bool → Act → Prop} (hi : ops[i]? = some oi) (hsel : ∀ (j : Nat) (o : Oper) cs b, ops[j]? = some o → o.op ≠ .select cs b)
    (hs : Region.sinkB md ops n = true) (hc : Region.chainB md ops n = true) (hn : n < ops.size) (hin : i < n)
    (hdone : ∀ listed a, L listed a → ∀ j ∈ Region.ready md ops listed, n ≤ j) :
    ∀ (f : Nat) (listed : Array Bool) (a : Act), HeadInv md ops n listed →
      (∀ j oj, ops[j]? = some oj → j ≠ i → listed.getD j true = false → (∀ e ∈ oj.after, Region.binds md e = true → e.on ≠ i) → oi.apart ops oj = true) →
      i ∈ Region.ready md ops listed → YieldsIn P ops C oi v a →
      headQ P md ops C n L f (listed.setIfInBounds i true) (a.put oi.dst v) → headQ P md ops C n L (f + 1) listed a := by
  intro f
  induction f with
  | zero =>
    intro listed a inv _ hr hy H
    have hun := (mem_ready.1 hr).1
    refine ⟨fun h => (by rw [h] at hr; cases hr), fun j hj => ?_⟩
    have hjn : j < n := (Nat.lt_or_ge j n).elim id fun h => absurd hj (tail_waits hs hc hn inv _ i rfl hin hun j h)
    refine ⟨hjn, ?_⟩
    by_cases hji : j = i
    · subst hji; exact hy.qOp hi H
    · have := hdone _ _ H j (ready_mono hj hji)
      omega
  | succ f ih =>
    intro listed a inv hfree hr hy H
    have hun := (mem_ready.1 hr).1
    refine ⟨fun h => (by rw [h] at hr; cases hr), fun j hj => ?_⟩
    have hjn : j < n := (Nat.lt_or_ge j n).elim id fun h => absurd hj (tail_waits hs hc hn inv _ i rfl hin hun j h)
    refine ⟨hjn, ?_⟩
    by_cases hji : j = i
    · subst hji; exact hy.qOp hi H
    · have h1 := (H.2 j (ready_mono hj hji)).2
      obtain ⟨hjun, oj, hoj, hall⟩ := mem_ready.1 hj
      have hnot : ∀ e ∈ oj.after, Region.binds md e = true → e.on ≠ i := fun e he hb heq => by
        have h1 := hall e he hb
        rw [heq, getD_both hun] at h1
        cases h1
      have h2 := qOp_put hoj (hfree j oj hoj hji hjun hnot) (fun cs b => hsel i oi cs b hi) (fun cs b => hsel j oj cs b hoj) hy h1
      refine qOp_mono (fun a' h3 => ih (listed.setIfInBounds j true) a' (inv.set hj hjn) (fun k ok hk hki hu hno => hfree k ok hk hki ?_ hno) (ready_mono hr (Ne.symm hji)) h3.1 ?_) h2
      · by_cases hjk : j = k
        · subst hjk; exact hjun
        · rwa [getD_set_ne true hjk] at hu
      · rw [Array.setIfInBounds_comm _ _ hji]
        exact h3.2

theorem headQ_lex {n g : Nat} {Lq : Act → Prop} (hsel : Region.noSelect ops = true) (hs : Region.sinkB md ops n = true) (hc : Region.chainB md ops n = true) (hn : n < ops.size) :
    ∀ (l : List Oper) (k : Nat) (listed : Array Bool) (a : Act), (∀ j, j < l.length → l[j]? = ops[k + j]?) → k + l.length = n → HeadInv md ops n listed →
    Region.lexHead md ops g l.length k listed = true → wpQuiet P ops C Lq l a →
    headQ P md ops C n (fun listed' a' => Region.seqB md ops g n listed' = true ∧ Lq a') l.length listed a
  | [], k, listed, a, _, hk, _, hB, h => by
    obtain rfl : k = n := by simpa using hk
    exact ⟨by simpa [Region.lexHead] using hB, h⟩
  | o :: l, k, listed, a, hl, hk, inv, hB, h => by
    have h0 : ops[k]? = some o := by simpa using (hl 0 (by simp)).symm
    simp only [List.length_cons, Region.lexHead, Bool.and_eq_true] at hB
    obtain ⟨⟨hr, hf⟩, hB'⟩ := hB
    have hkn : k < n := by simp only [List.length_cons] at hk; omega
    have hr' : k ∈ Region.ready md ops listed := by simpa using hr
    have hst : qOp P ops C k (wpQuiet P ops C Lq l) a := by unfold qOp; simp only [h0]; exact h
    obtain ⟨v, hy, hK⟩ := yieldsIn_of_qOp h0 hst
    exact headQ_first h0 (Region.noSelect_spec hsel) hs hc hn hkn (fun listed' a' hL => seqB_ready hL.1) l.length listed a inv (Region.free_spec h0 hf) hr' hy
      (headQ_lex hsel hs hc hn l (k + 1) _ _ (fun j hj => by have := hl (j + 1) (by simp; omega); simpa [Nat.add_assoc, Nat.add_comm 1 j] using this) (by simp only [List.length_cons] at hk; omega) (inv.set hr' hkn) hB' hK)
end

/-- A region that draws: the first n operations quiet in a class of worlds, the others one behind the other. -/
theorem wp_region_quiet_tail {P : Program} {C : World → Prop} {id : Nat} {Q : Exit → Act → World → Prop} {a : Act} {w : World} {l : List Oper} (n : Nat) (hm : P.follows .mixedOrders = true) (hB : Region.lexTailB .any l.toArray n = true) (hC : C { w with drawn := w.drawn + 1 })
    (h : wpQuiet P l.toArray C (fun a' => ∀ w', C w' → wpList P l.toArray Q (l.drop n) a' w') (l.take n) a) : (Code.region id l.toArray true).wp P Q a w := by
  simp only [Region.lexTailB, Bool.and_eq_true, decide_eq_true_eq] at hB
  obtain ⟨⟨⟨⟨hsel, hn⟩, hs⟩, hc⟩, hlex⟩ := hB
  have hn' : n < l.length := by simpa using hn
  have htl : (l.take n).length = n := by simp; omega
  have hdl : (l.drop n).length = l.toArray.size - n := by simp
  have inv0 : HeadInv .any l.toArray n (Array.replicate l.toArray.size false) :=
    ⟨by simp, fun j oj _ hl => (by rw [getD_replicate_false] at hl; cases hl), fun t _ ht => getD_in (by simpa using ht) (getD_replicate_false _ _)⟩
  have H := headQ_lex (P := P) (C := C) (md := .any) (g := l.toArray.size - n) hsel hs hc hn (l.take n) 0 _ a (fun j hj => by
    have hj' : j < n := by rw [htl] at hj; exact hj
    simp [hj']) (by simpa using htl) inv0 (by rw [htl]; exact hlex) h
  refine wp_region_any hm ?_
  have := any_of_headQ (Q' := Q) (g := l.toArray.size - n) (fun listed a' w' hw' hL => by
    have := wpAny_of_seq (md := .any) (Q' := Q) (l.drop n) n listed a' w' (fun j => by simp [List.getElem?_drop]) (by rw [hdl]; exact hL.1) (hL.2 w' hw')
    rwa [hdl] at this) _ _ _ _ hC H
  rw [htl, show n + (l.toArray.size - n) = l.toArray.size by omega] at this
  exact this

/-- The same, at the class of worlds in which what was there is as it was. -/
theorem wp_region_ext_tail {P : Program} (B : Nat) {id : Nat} {Q : Exit → Act → World → Prop} {a : Act} {w : World} {l : List Oper} (n : Nat) (hm : P.follows .mixedOrders = true) (hB : Region.lexTailB .any l.toArray n = true)
    (h : wpQuiet P l.toArray (fun w' => ∃ x : Ext B w, w' = x.val) (fun a' => ∀ w', (∃ x : Ext B w, w' = x.val) → wpList P l.toArray Q (l.drop n) a' w') (l.take n) a) : (Code.region id l.toArray true).wp P Q a w :=
  wp_region_quiet_tail (C := fun w' => ∃ x : Ext B w, w' = x.val) n hm hB ⟨⟨_, (Below.refl B w).drew⟩, rfl⟩ h

end Go.Proofs.Ytienlhnbmobinaa

namespace Go.Proofs.Ytienlhnbmobinaa
open Go.RowKit
set_option linter.unusedVariables false
set_option linter.unusedSimpArgs false

theorem grown_drew {w w' : World} {r : Option Nat} (h : w.drew.grownBy w' r) : w.grownBy w' r := ⟨h.os, h.tape, h.output, h.size, h.block⟩
theorem keep_cell {w1 w2 : World} {q : Addr} {v : Value} (hb : Below w1.heap.size w1 w2) (h : w1.cell? q = some v) : w2.cell? q = some v := (hb.cell (cell_lt h)).trans h
theorem below_then {w w1 w2 : World} (h : Below w.heap.size w w1) (h2 : Below w1.heap.size w1 w2) : Below w.heap.size w w2 := h.trans (h2.mono h.size)
theorem own_below {w1 w2 : World} {base n size : Nat} {e : TypeId} {v : Value} {xs : List Value} (h : w1.ownsRow base e size v n xs) (hb : Below w1.heap.size w1 w2) : w2.ownsRow base e size v n xs :=
  h.kept (grown_below none hb) (by cases hv : v.ownBlock <;> simp)
theorem below_own {w w1 w2 : World} {base n size : Nat} {e : TypeId} {v : Value} {xs : List Value} (hb : Below w.heap.size w w1) (h : w1.ownsRow base e size v n xs) (hlt : w.heap.size ≤ base) (hg : w1.grownBy w2 v.ownBlock) : Below w.heap.size w w2 :=
  hb.grown hg hb.size (fun k hk => Nat.le_trans hlt (h.lt k hk).1)

theorem own_open {w : World} {base n : Nat} {e : TypeId} {v : Value} {xs : List Value} (h : w.ownsRow base e 1 v n xs) (hn : 0 < n) :
    ∃ g cp, v = .slice (some ⟨g, 0, none⟩) n cp ∧ base ≤ g ∧ n ≤ cp ∧ cp ≤ maxLen ∧ ∀ j u, xs[j]? = some u → w.cell? ⟨g, j, none⟩ = some u := by
  rcases h.2 with ⟨_, h0⟩ | ⟨g, cap, cur, rfl, hb, hg, h1, h2, _⟩
  · omega
  · refine ⟨g, cap, rfl, hb, h1, h2, fun j u hu => ?_⟩
    have := h.cells (g := g) rfl j u hu
    rwa [show (⟨g, 0, none⟩ : Addr).add j = ⟨g, j, none⟩ by unfold Addr.add; split <;> simp_all] at this
theorem own_form {w : World} {base n : Nat} {e : TypeId} {v : Value} {xs : List Value} (h : w.ownsRow base e 1 v n xs) : ∃ b cp, v = .slice b n cp ∧ n ≤ cp ∧ cp ≤ maxLen ∧ (0 < n → ∃ g, b = some ⟨g, 0, none⟩ ∧ base ≤ g) := by
  rcases h.2 with ⟨rfl, rfl⟩ | ⟨g, cap, cur, rfl, hb, hg, h1, h2, _⟩
  · exact ⟨none, 0, rfl, Nat.le_refl _, Nat.zero_le _, fun h => absurd h (Nat.lt_irrefl 0)⟩
  · exact ⟨_, cap, rfl, h1, h2, fun _ => ⟨g, rfl, hb⟩⟩
theorem own_cell {w : World} {base n g cp : Nat} {e : TypeId} {xs : List Value} (h : w.ownsRow base e 1 (.slice (some ⟨g, 0, none⟩) n cp) n xs) (j : Nat) (u : Value) (hu : xs[j]? = some u) : w.cell? ⟨g, j, none⟩ = some u := by
  have := h.cells (g := g) rfl j u hu
  rwa [show (⟨g, 0, none⟩ : Addr).add j = ⟨g, j, none⟩ by unfold Addr.add; split <;> simp_all] at this
theorem own_far {w1 w2 : World} {base n size g : Nat} {e : TypeId} {v : Value} {xs : List Value} (h : w1.ownsRow base e size v n xs) (hg : w1.grownBy w2 (some g)) (hlt : g < base) : w2.ownsRow base e size v n xs :=
  h.kept hg (by
    cases hv : v.ownBlock with
    | none => exact .inl rfl
    | some k => have := (h.lt k hv).1; exact .inr (by simp; omega))
theorem one_new (w : World) (v : Value) (t : TypeId) : ∀ j u, [v][j]? = some u → (w.alloc (.cells #[v] t)).cell? ((⟨w.heap.size, 0, none⟩ : Addr).add j) = some u := by
  intro j u h
  cases j with
  | zero =>
    have : v = u := by simpa using h
    subst this
    show (w.alloc (.cells #[v] t)).cell? ⟨w.heap.size, 0, none⟩ = some v
    rw [blk_cell (heap_alloc_new w _)]
    rfl
  | succ j => simp at h
theorem one_str (s : ByteArray) : ∀ u ∈ [Value.string s], u.oneCell' = true := by
  intro u hu
  rw [List.mem_singleton.1 hu]
  rfl

/-- The texts as values. -/
def strs (ts : List (List UInt8)) : List Value := ts.map fun t => .string ⟨t.toArray⟩
theorem strs_snoc (ts : List (List UInt8)) (k : Nat) (h : k < ts.length) : strs (ts.take (k + 1)) = strs (ts.take k) ++ [.string ⟨ts[k].toArray⟩] := by
  unfold strs
  rw [List.take_succ_eq_append_getElem h, List.map_append]
  rfl

end Go.Proofs.Ytienlhnbmobinaa

namespace Go.Proofs.Ytienlhnbmobinaa
open Go.RowKit
set_option linter.unusedVariables false
set_option linter.unusedSimpArgs false

/-- A slice's value, and what its m elements are. -/
def Reads (w : World) (sv : Value) (m size : Nat) (news : List Value) : Prop :=
  (sv = .slice none 0 0 ∧ m = 0 ∧ news = []) ∨ ∃ ad c, sv = .slice (some ad) m c ∧ news.length = m * size ∧ ∀ j u, news[j]? = some u → w.cell? (ad.add j) = some u

theorem Reads.below {w w' : World} {sv : Value} {m size : Nat} {news : List Value} (h : Reads w sv m size news) (hb : Below w.heap.size w w') : Reads w' sv m size news := by
  rcases h with h | ⟨ad, c, h1, h2, h3⟩
  · exact .inl h
  · exact .inr ⟨ad, c, h1, h2, fun j u hu => keep_cell hb (h3 j u hu)⟩

theorem run_append_any {P : Program} (w : World) (base : Nat) (t ty e : TypeId) (i : TypeInfo) (z : Value) (size bytes : Nat) (ht : P.underlying t = some (.slice e)) (hi : P.info? e = some i) (hz : i.zero = some z)
    (hsize : i.size = size) (hby : i.bytes = bytes) (hzs : z.cells.size = size) (hsz : 0 < size)
    (v : Value) (n : Nat) (xs : List Value) (hown : w.ownsRow base e size v n xs) (sv : Value) (m : Nat) (news : List Value) (hr : Reads w sv m size news) (h1 : ∀ u ∈ news, u.oneCell' = true)
    (h63 : n + m ≤ maxLen) (hbytes : (n + m) * bytes ≤ 140737488355328) (hbase : base ≤ w.heap.size) :
    ∃ v' w', (Builtin.append_ #[t, t] ty #[v, sv]).run P w = .ok v' w' ∧ w'.ownsRow base e size v' (n + m) (xs ++ news) ∧ w.grownBy w' v.ownBlock := by
  rcases hr with ⟨rfl, rfl, rfl⟩ | ⟨ad, c, rfl, hl, hn⟩
  · refine ⟨v, w, run_append_owned_none (P := P) w base t ty e i size ht hi v n xs hown, by simpa using hown, grown_below _ (Below.refl _ _)⟩
  · obtain ⟨v', w', hr, h2, h3, _⟩ := run_append_own (P := P) w base t ty e i z size bytes ht hi hz hsize hby hzs hsz v n xs hown ad m c news hl hn h1 h63 hbytes hbase
    exact ⟨v', w', hr, h2, h3⟩

section
variable {P : Program} (w : World)
theorem wp_append_any {o : Oper} {a : Act} {K : Act → World → Prop} {Q : Exit → Act → World → Prop} (s x : Operand) (t : TypeId)
    (ho : o.op = .call { callee := .builtin .append, args := #[s, x], argTypes := #[t, t] })
    (base : Nat) (e : TypeId) (i : TypeInfo) (z : Value) (size bytes : Nat) (ht : P.underlying t = some (.slice e)) (hi : P.info? e = some i) (hz : i.zero = some z)
    (hsize : i.size = size) (hby : i.bytes = bytes) (hzs : z.cells.size = size) (hsz : 0 < size)
    (v : Value) (n : Nat) (xs : List Value) (hs : a.eval s = v) (hown : w.ownsRow base e size v n xs) (sv : Value) (m : Nat) (news : List Value) (hx : a.eval x = sv) (hr : Reads w sv m size news) (h1 : ∀ u ∈ news, u.oneCell' = true)
    (h63 : n + m ≤ maxLen) (hbytes : (n + m) * bytes ≤ 140737488355328) (hbase : base ≤ w.heap.size)
    (h : ∀ v' w', w'.ownsRow base e size v' (n + m) (xs ++ news) → w.grownBy w' v.ownBlock → K (a.put o.dst v') w') : o.wp P a w K Q := by
  obtain ⟨v', w', hrun, h2, h3⟩ := run_append_any (P := P) w base t o.type e i z size bytes ht hi hz hsize hby hzs hsz v n xs hown sv m news hr h1 h63 hbytes hbase
  unfold Oper.wp execOp
  simp only [ho, resolve, invoke, builtin, Sem.run_bind, Sem.run_pure, Result.andThen_ok, List.map_toArray, List.map_cons, List.map_nil, hs, hx, hrun]
  exact h v' w' h2 h3

/-- At the list of a plain region's operations. -/
theorem wpList_append_any {ops : Array Oper} {rest : List Oper} {o : Oper} {a : Act} {Q : Exit → Act → World → Prop} (hgd : o.guard = none) (s x : Operand) (t : TypeId)
    (ho : o.op = .call { callee := .builtin .append, args := #[s, x], argTypes := #[t, t] })
    (base : Nat) (e : TypeId) (i : TypeInfo) (z : Value) (size bytes : Nat) (ht : P.underlying t = some (.slice e)) (hi : P.info? e = some i) (hz : i.zero = some z)
    (hsize : i.size = size) (hby : i.bytes = bytes) (hzs : z.cells.size = size) (hsz : 0 < size)
    (v : Value) (n : Nat) (xs : List Value) (hs : a.eval s = v) (hown : w.ownsRow base e size v n xs) (sv : Value) (m : Nat) (news : List Value) (hx : a.eval x = sv) (hr : Reads w sv m size news) (h1 : ∀ u ∈ news, u.oneCell' = true)
    (h63 : n + m ≤ maxLen) (hbytes : (n + m) * bytes ≤ 140737488355328) (hbase : base ≤ w.heap.size)
    (h : ∀ v' w', w'.ownsRow base e size v' (n + m) (xs ++ news) → w.grownBy w' v.ownBlock → wpList P ops Q rest (a.put o.dst v') w') : wpList P ops Q (o :: rest) a w :=
  wpList_plain hgd fun _ hK => wp_append_any w s x t ho base e i z size bytes ht hi hz hsize hby hzs hsz v n xs hs hown sv m news hx hr h1 h63 hbytes hbase fun v' w' h2 h3 => hK _ _ (h v' w' h2 h3)

/-- At a step of a region that draws its order. -/
theorem step_append_any {ops : Array Oper} {o : Oper} {a : Act} {K : Act → World → Prop} {Q : Exit → Act → World → Prop} {E : Prop} (hgd : o.guard = none) (s x : Operand) (t : TypeId)
    (ho : o.op = .call { callee := .builtin .append, args := #[s, x], argTypes := #[t, t] })
    (base : Nat) (e : TypeId) (i : TypeInfo) (z : Value) (size bytes : Nat) (ht : P.underlying t = some (.slice e)) (hi : P.info? e = some i) (hz : i.zero = some z)
    (hsize : i.size = size) (hby : i.bytes = bytes) (hzs : z.cells.size = size) (hsz : 0 < size)
    (v : Value) (n : Nat) (xs : List Value) (hs : a.eval s = v) (hown : w.ownsRow base e size v n xs) (sv : Value) (m : Nat) (news : List Value) (hx : a.eval x = sv) (hr : Reads w sv m size news) (h1 : ∀ u ∈ news, u.oneCell' = true)
    (h63 : n + m ≤ maxLen) (hbytes : (n + m) * bytes ≤ 140737488355328) (hbase : base ≤ w.heap.size)
    (h : ∀ v' w', w'.ownsRow base e size v' (n + m) (xs ++ news) → w.grownBy w' v.ownBlock → K (a.put o.dst v') w') :
    if Region.wanted o (yielded ops a.tmps) = true then Oper.wp P o a w K Q else E := by
  have hw : Region.wanted o (yielded ops a.tmps) = true := by simp [Region.wanted, hgd]
  rw [if_pos hw]
  exact wp_append_any w s x t ho base e i z size bytes ht hi hz hsize hby hzs hsz v n xs hs hown sv m news hx hr h1 h63 hbytes hbase h
end

/-- What a row's front and rest read as. -/
theorem reads_own {w : World} {base n size : Nat} {e : TypeId} {v : Value} {xs : List Value} (h : w.ownsRow base e size v n xs) : Reads w v n size xs := by
  rcases h.2 with ⟨rfl, rfl⟩ | ⟨g, cap, cur, rfl, _, hg, _⟩
  · have := h.1
    exact .inl ⟨rfl, rfl, List.length_eq_zero_iff.1 (by simpa using this)⟩
  · exact .inr ⟨_, cap, rfl, h.1, fun j u hu => h.cells (g := g) rfl j u hu⟩
theorem reads_take {w : World} {base n size g cp : Nat} {e : TypeId} {xs : List Value} (h : w.ownsRow base e size (.slice (some ⟨g, 0, none⟩) n cp) n xs) (k c : Nat) (hk : k ≤ n) :
    Reads w (.slice (some ⟨g, 0, none⟩) k c) k size (xs.take (k * size)) := by
  refine .inr ⟨_, c, rfl, ?_, fun j u hu => ?_⟩
  · rw [List.length_take, h.1]
    exact Nat.min_eq_left (Nat.mul_le_mul_right _ hk)
  · refine h.cells (g := g) rfl j u ?_
    rw [List.getElem?_take] at hu
    split at hu
    · exact hu
    · cases hu
theorem reads_drop {w : World} {base n size g cp : Nat} {e : TypeId} {xs : List Value} (h : w.ownsRow base e size (.slice (some ⟨g, 0, none⟩) n cp) n xs) (k c : Nat) (hk : k ≤ n) (hcp : cp = k → n = k) :
    Reads w (.slice (if cp = k then some ⟨g, 0, none⟩ else some ⟨g, k * size, none⟩) (n - k) c) (n - k) size (xs.drop (k * size)) := by
  have hl : (xs.drop (k * size)).length = (n - k) * size := by rw [List.length_drop, h.1, Nat.sub_mul]
  by_cases hc : cp = k
  · rw [if_pos hc]
    have h0 := hcp hc
    refine .inr ⟨_, c, rfl, hl, fun j u hu => ?_⟩
    rw [show n - k = 0 by omega, Nat.zero_mul] at hl
    rw [List.length_eq_zero_iff.1 hl] at hu
    cases hu
  · rw [if_neg hc]
    refine .inr ⟨_, c, rfl, hl, fun j u hu => ?_⟩
    rw [List.getElem?_drop] at hu
    have := h.cells (g := g) rfl _ u hu
    rw [Addr.add_lit] at this ⊢
    rwa [Nat.zero_add] at this
theorem reads_take1 {w : World} {base n g cp : Nat} {e : TypeId} {xs : List Value} (h : w.ownsRow base e 1 (.slice (some ⟨g, 0, none⟩) n cp) n xs) (k c : Nat) (hk : k ≤ n) : Reads w (.slice (some ⟨g, 0, none⟩) k c) k 1 (xs.take k) := by
  have := reads_take h k c hk
  rwa [Nat.mul_one] at this
theorem reads_drop1 {w : World} {base n g cp : Nat} {e : TypeId} {xs : List Value} (h : w.ownsRow base e 1 (.slice (some ⟨g, 0, none⟩) n cp) n xs) (k c : Nat) (hk : k ≤ n) (hcp : cp = k → n = k) :
    Reads w (.slice (if cp = k then some ⟨g, 0, none⟩ else some ⟨g, k, none⟩) (n - k) c) (n - k) 1 (xs.drop k) := by
  have := reads_drop h k c hk hcp
  rwa [Nat.mul_one] at this

end Go.Proofs.Ytienlhnbmobinaa

namespace Go.Proofs.Ytienlhnbmobinaa
open Go.RowKit
set_option linter.unusedVariables false
set_option linter.unusedSimpArgs false

/-- What was there is as it was, but for the blocks of a class. -/
structure OthersKept (w w' : World) (p : Nat → Prop) : Prop where
  os : w'.os = w.os
  tape : w'.tape = w.tape
  output : w'.output = w.output
  size : w.heap.size ≤ w'.heap.size
  block : ∀ k, k < w.heap.size → ¬ p k → w'.heap[k]? = w.heap[k]?
theorem OthersKept.of_below {w w' : World} {p : Nat → Prop} (h : Below w.heap.size w w') : OthersKept w w' p := ⟨h.os, h.tape, h.output, h.size, fun k hk _ => h.block k hk⟩
theorem OthersKept.of_grown {w w' : World} {p : Nat → Prop} {g : Nat} (h : w.grownBy w' (some g)) (hg : p g) : OthersKept w w' p :=
  ⟨h.os, h.tape, h.output, h.size, fun k hk hn => h.block k hk (fun e => by injection e with e; subst e; exact hn hg)⟩
theorem OthersKept.trans {w w1 w2 : World} {p q : Nat → Prop} (h : OthersKept w w1 p) (h2 : OthersKept w1 w2 q) (hq : ∀ k, k < w.heap.size → q k → p k) : OthersKept w w2 p :=
  ⟨h2.os.trans h.os, h2.tape.trans h.tape, h2.output.trans h.output, Nat.le_trans h.size h2.size, fun k hk hn => (h2.block k (Nat.lt_of_lt_of_le hk h.size) (fun e => hn (hq k hk e))).trans (h.block k hk hn)⟩
theorem OthersKept.below {w0 w w' : World} {p : Nat → Prop} (hb : Below w0.heap.size w0 w) (h : OthersKept w w' p) (hp : ∀ k, k < w0.heap.size → ¬ p k) : Below w0.heap.size w0 w' :=
  ⟨h.os.trans hb.os, h.tape.trans hb.tape, h.output.trans hb.output, Nat.le_trans hb.size h.size, fun k hk => (h.block k (Nat.lt_of_lt_of_le hk hb.size) (hp k hk)).trans (hb.block k hk)⟩

theorem OthersKept.owns {w w' : World} {p : Nat → Prop} {base n size : Nat} {e : TypeId} {v : Value} {xs : List Value} (hk : OthersKept w w' p) (h : w.ownsRow base e size v n xs) (hp : ∀ k, v.ownBlock = some k → ¬ p k) : w'.ownsRow base e size v n xs := by
  refine ⟨h.1, ?_⟩
  rcases h.2 with hn | ⟨g, cap, cur, rfl, hb, hgg, rest⟩
  · exact .inl hn
  · exact .inr ⟨g, cap, cur, rfl, hb, (hk.block g (blk_lt hgg) (hp g rfl)).trans hgg, rest⟩
theorem OthersKept.row {w w' : World} {p : Nat → Prop} {g : Nat} {zs : List UInt8} (hk : OthersKept w w' p) (h : RowAt w g zs) (hp : ¬ p g) : RowAt w' g zs := h.of_eq (hk.block g h.lt hp)
theorem OthersKept.heap {w w' : World} {p : Nat → Prop} {g : Nat} {o : Obj} (hk : OthersKept w w' p) (h : w.heap[g]? = some o) (hp : ¬ p g) : w'.heap[g]? = some o := (hk.block g (blk_lt h) hp).trans h
theorem OthersKept.cell {w w' : World} {p : Nat → Prop} {q : Addr} {v : Value} (hk : OthersKept w w' p) (h : w.cell? q = some v) (hp : ¬ p q.block) : w'.cell? q = some v := by
  have hb := hk.block q.block (cell_lt h) hp
  unfold World.cell? at h ⊢
  rw [hb]
  exact h


theorem OthersKept.then_below {w w1 w2 : World} {p : Nat → Prop} (h : OthersKept w w1 p) (hb : Below w1.heap.size w1 w2) : OthersKept w w2 p := h.trans (OthersKept.of_below (p := fun _ => False) hb) (fun _ _ h => absurd h id)
theorem OthersKept.fresh {w w1 w2 : World} {p : Nat → Prop} {x : Nat} (h : OthersKept w w1 p) (hg : w1.grownBy w2 (some x)) (hx : w.heap.size ≤ x) : OthersKept w w2 p :=
  h.trans (OthersKept.of_grown (p := fun k => k = x) hg rfl) (fun k hk h => by omega)

theorem OthersKept.base {w0 w w' : World} (hb : Below w0.heap.size w0 w) (h : OthersKept w w' (fun k => w0.heap.size ≤ k)) : Below w0.heap.size w0 w' := h.below hb (fun k hk => by omega)

end Go.Proofs.Ytienlhnbmobinaa

namespace Go.Proofs.Ytienlhnbmobinaa
open Go.RowKit
set_option linter.unusedVariables false
set_option linter.unusedSimpArgs false

open Go.Lib
/-- A list with others in place of some. -/
def spl (cur : List Value) (o : Nat) (vs : List Value) : List Value := cur.take o ++ vs ++ cur.drop (o + vs.length)
theorem spl_length (cur : List Value) (o : Nat) (vs : List Value) (h : o + vs.length ≤ cur.length) : (spl cur o vs).length = cur.length := by
  unfold spl
  simp
  omega
theorem set_spl (cur : List Value) (o : Nat) (v : Value) (r : List Value) (h : o + (r.length + 1) ≤ cur.length) : spl (cur.set o v) (o + 1) r = spl cur o (v :: r) := by
  unfold spl
  have h1 : (cur.set o v).take (o + 1) = cur.take o ++ [v] := by
    rw [List.take_succ_eq_append_getElem (by simp; omega), List.take_set_of_le (Nat.le_refl _)]
    simp
  rw [h1, List.drop_set_of_lt (by omega)]
  rw [show o + (v :: r).length = o + 1 + r.length by simp; omega]
  simp
theorem heap_setCells (g : Nat) (t : TypeId) : ∀ (vs : List Value) (o : Nat) (w : World) (cur : List Value), w.heap[g]? = some (.cells cur.toArray t (0, 0)) → o + vs.length ≤ cur.length → (w.setCells g o vs).heap[g]? = some (.cells (spl cur o vs).toArray t (0, 0))
  | [], o, w, cur, h, _ => by
    rw [show spl cur o [] = cur by unfold spl; simp]
    exact h
  | v :: r, o, w, cur, h, hl => by
    have hs := blk_set h o v
    rw [show (cur.toArray.setIfInBounds o v) = (cur.set o v).toArray by simp] at hs
    simp only [List.length_cons] at hl
    have := heap_setCells g t r (o + 1) (w.setCell ⟨g, o, none⟩ v) (cur.set o v) hs (by simp; omega)
    rw [set_spl cur o v r hl] at this
    exact this
theorem grown_setCells (g : Nat) : ∀ (vs : List Value) (o : Nat) (w : World), w.grownBy (w.setCells g o vs) (some g)
  | [], _, w => grown_refl _ _
  | v :: r, o, w => by
    have h1 : w.grownBy (w.setCell ⟨g, o, none⟩ v) (some g) := grown_set (grown_refl _ _)
    have h2 := grown_setCells g r (o + 1) (w.setCell ⟨g, o, none⟩ v)
    exact ⟨h2.os.trans h1.os, h2.tape.trans h1.tape, h2.output.trans h1.output, Nat.le_trans h1.size h2.size, fun k hk hne => (h2.block k (Nat.lt_of_lt_of_le hk h1.size) hne).trans (h1.block k hk hne)⟩
/-- A row in memory, as a list of all its cells. -/
theorem own_cur {w : World} {base n g cp : Nat} {e : TypeId} {xs : List Value} (h : w.ownsRow base e 1 (.slice (some ⟨g, 0, none⟩) n cp) n xs) :
    ∃ cur : List Value, w.heap[g]? = some (.cells cur.toArray e (0, 0)) ∧ base ≤ g ∧ n ≤ cp ∧ cp ≤ maxLen ∧ cur.length = cp ∧ cur.take n = xs ∧ xs.length = n := by
  obtain ⟨hl, h⟩ := h
  rcases h with ⟨h, _⟩ | ⟨g', cap, cur, he, hb, hg, h1, h2, h3, h4⟩
  · cases h
  · injection he with e1 e2 e3
    injection e1 with e1
    injection e1 with e1
    subst e1; subst e3
    exact ⟨cur.toList, by simpa using hg, hb, h1, h2, by simpa using h3, by simpa using h4, by omega⟩
theorem own_of_cur {w : World} {base n g cp : Nat} {e : TypeId} {cur xs : List Value} (hg : w.heap[g]? = some (.cells cur.toArray e (0, 0))) (hb : base ≤ g) (hn : n ≤ cp) (hc : cp ≤ maxLen) (hl : cur.length = cp) (hx : cur.take n = xs) :
    w.ownsRow base e 1 (.slice (some ⟨g, 0, none⟩) n cp) n xs :=
  ⟨by rw [← hx, List.length_take]; omega, .inr ⟨g, cp, cur.toArray, rfl, hb, hg, hn, hc, by simpa using hl, by simpa using hx⟩⟩
theorem spl_at (a b c vs : List Value) (h : vs.length = b.length) : spl (a ++ b ++ c) a.length vs = a ++ vs ++ c := by
  unfold spl
  rw [h, show (a ++ b ++ c).take a.length = a by simp, show (a ++ b ++ c).drop (a.length + b.length) = c by rw [← List.length_append, List.drop_left]]
theorem take_of_take {cur xs : List Value} {n k : Nat} (hx : cur.take n = xs) (hk : k ≤ n) : cur.take k = xs.take k := by
  rw [← hx, List.take_take, Nat.min_eq_left hk]
theorem shift_one (cur xs : List Value) (x : Value) (n i : Nat) (hx : cur.take n = xs) (hn : n + 1 ≤ cur.length) (hi : i < n) : (spl (spl cur (i + 1) (xs.drop i)) i [x]).take (n + 1) = xs.take i ++ x :: xs.drop i := by
  have hl : xs.length = n := by rw [← hx, List.length_take]; omega
  have h1 : spl cur (i + 1) (xs.drop i) = xs.take i ++ [xs[i]] ++ (xs.drop i ++ cur.drop (n + 1)) := by
    unfold spl
    rw [take_of_take hx (by omega), List.take_succ_eq_append_getElem (by omega), show i + 1 + (xs.drop i).length = n + 1 by rw [List.length_drop]; omega, List.append_assoc (xs.take i ++ _)]
  have h2 : (xs.take i).length = i := by rw [List.length_take]; omega
  have h3 := spl_at (xs.take i) [xs[i]] (xs.drop i ++ cur.drop (n + 1)) [x] rfl
  rw [h2] at h3
  rw [h1, h3, ← List.append_assoc, List.take_left' (by simp; omega)]
  simp
theorem set_one (cur xs : List Value) (x : Value) (n i : Nat) (hx : cur.take n = xs) (hn : n ≤ cur.length) (hi : i < n) : (spl cur i [x]).take n = xs.take i ++ x :: xs.drop (i + 1) := by
  have hl : xs.length = n := by rw [← hx, List.length_take]; omega
  have h1 : cur = xs.take i ++ [xs[i]] ++ (xs.drop (i + 1) ++ cur.drop n) := by
    rw [← List.take_succ_eq_append_getElem (by omega), ← List.append_assoc, List.take_append_drop, ← hx, List.take_append_drop]
  have h2 : (xs.take i).length = i := by rw [List.length_take]; omega
  have h3 := spl_at (xs.take i) [xs[i]] (xs.drop (i + 1) ++ cur.drop n) [x] rfl
  rw [← h1, h2] at h3
  rw [h3, ← List.append_assoc, List.take_left' (by simp; omega)]
  simp
/-- The same bytes again. -/
theorem spl_same (cur xs : List Value) (n i : Nat) (hx : cur.take n = xs) (hn : n ≤ cur.length) (hi : i ≤ n) : spl cur i (xs.drop i) = cur := by
  have hl : xs.length = n := by rw [← hx, List.length_take]; omega
  unfold spl
  rw [take_of_take hx hi, show i + (xs.drop i).length = n by rw [List.length_drop]; omega, List.take_append_drop, ← hx, List.take_append_drop]
/-- What a make leaves, filled. -/
theorem fill_one (xs z y : List Value) (x : Value) (n i : Nat) (hl : xs.length = n) (hi : i < n) (hz : z.length = n + 1 - i) : (spl (spl (xs.take i ++ z ++ y) i [x]) (i + 1) (xs.drop i)).take (n + 1) = xs.take i ++ x :: xs.drop i := by
  have h2 : (xs.take i).length = i := by rw [List.length_take]; omega
  cases z with
  | nil => simp at hz; omega
  | cons z0 z =>
    have h3 := spl_at (xs.take i) [z0] (z ++ y) [x] rfl
    rw [h2] at h3
    rw [show xs.take i ++ z0 :: z ++ y = xs.take i ++ [z0] ++ (z ++ y) by simp, h3]
    have h4 := spl_at (xs.take i ++ [x]) z y (xs.drop i) (by rw [List.length_drop]; simp at hz; omega)
    rw [show (xs.take i ++ [x]).length = i + 1 by simp; omega] at h4
    rw [← List.append_assoc, h4, List.take_left' (by simp; omega)]
    simp

end Go.Proofs.Ytienlhnbmobinaa
