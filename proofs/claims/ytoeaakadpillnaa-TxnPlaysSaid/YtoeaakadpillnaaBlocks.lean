/- Facts on blocks of memory, rows of bytes, texts: no function of the program is named here. -/
import Derived.Test.YtoeaakadpillnaaRows
import Derived.Test.YtoeaakadpillnaaWordPlain
import Derived.Lib.Strings
import Derived.WalkKit
import Derived.WalkLawsBesides
import Derived.WalkSpells
import Derived.LoopTactic
import Derived.WalkMore
import Derived.LoopN
import Derived.Laws.BitsAllLaws
import Derived.Laws.IdiomStrings
import Derived.BigQuiet
import Derived.Deep.QuietTactic
import Derived.Deep.DeepCutAuto
import Derived.Deep.RegionHeld3
import Derived.Deep.DrawnRows
import Derived.Lib.Hide
import Derived.Outline
import Derived.Deep.DeepMust
import Derived.Handy
namespace Go.Proofs.Ytoeaakadpillnaa
open Go.RowKit
set_option linter.unusedVariables false
set_option linter.unusedSimpArgs false

theorem ret_int {k : IntKind} {a b : Int} (h : a = b) : Ending.returned (.int k a) = .returned (.int k b) := by rw [h]

theorem ret_bool {a b : Bool} (h : a = b) : Ending.returned (.bool a) = .returned (.bool b) := by rw [h]

theorem blk_lt {w : World} {g : Nat} {o : Obj} (h : w.heap[g]? = some o) : g < w.heap.size := by
  rcases Nat.lt_or_ge g w.heap.size with hlt | hge
  · exact hlt
  · rw [Array.getElem?_eq_none hge] at h; cases h

theorem blk_cell {w : World} {g : Nat} {t : TypeId} {cs : Array Value} (h : w.heap[g]? = some (.cells cs t (0, 0))) (i : Nat) : w.cell? ⟨g, i, none⟩ = cs[i]? := cell_of_row w g i cs t (0, 0) h

theorem blk_frozen {w : World} {g : Nat} {t : TypeId} {cs : Array Value} (h : w.heap[g]? = some (.cells cs t (0, 0))) (i : Nat) : w.frozen? ⟨g, i, none⟩ = false := by
  simp [World.frozen?, h]

theorem blk_set {w : World} {g : Nat} {t : TypeId} {cs : Array Value} (h : w.heap[g]? = some (.cells cs t (0, 0))) (i : Nat) (u : Value) : (w.setCell ⟨g, i, none⟩ u).heap[g]? = some (.cells (cs.setIfInBounds i u) t (0, 0)) := by
  simp [World.setCell, Array.getElem?_modify, h]

theorem grown_set {w w' : World} {g i : Nat} {u : Value} (h : w.grownBy w' (some g)) : w.grownBy (w'.setCell ⟨g, i, none⟩ u) (some g) :=
  ⟨h.os, h.tape, h.output, by simpa [World.setCell] using h.size, fun k hk hne => by rw [Below.heap_setCell _ _ _ _ (fun e => hne (by rw [e]))]; exact h.block k hk hne⟩

theorem grown_below {w w' : World} (row : Option Nat) (h : Below w.heap.size w w') : w.grownBy w' row := ⟨h.os, h.tape, h.output, h.size, fun k hk _ => h.block k hk⟩

theorem heap_keep {w : World} {g : Nat} {o o' : Obj} (h : w.heap[g]? = some o') : (w.alloc o).heap[g]? = some o' := (Below.heap_alloc w o g (blk_lt h)).trans h

theorem set_keep {w : World} {g x j : Nat} {u : Value} {o : Obj} (h : w.heap[g]? = some o) (hne : g ≠ x) : (w.setCell ⟨x, j, none⟩ u).heap[g]? = some o := (Below.heap_setCell w ⟨x, j, none⟩ u g hne).trans h

theorem opt_bool {a b : Bool} (h : a = b) : (some (Value.bool a)) = some (Value.bool b) := by rw [h]

theorem bytes_ext {a b : ByteArray} (h : a.data.toList = b.data.toList) : a = b := ByteArray.ext (Array.ext' h)

theorem be_str (k n : Nat) : (⟨(be k n).toArray⟩ : ByteArray).size = k := by
  show (be k n).toArray.size = k
  simp [be_length]

theorem set_lt {w : World} {x j : Nat} {u : Value} : (w.setCell ⟨x, j, none⟩ u).heap.size = w.heap.size := by simp [World.setCell]

theorem cells7 {w : World} {g : Nat} {t : TypeId} {a0 a1 a2 a3 a4 a5 a6 : Value} (h : w.heap[g]? = some (.cells #[a0, a1, a2, a3, a4, a5, a6] t (0, 0))) :
    w.cell? ⟨g, 0, none⟩ = some a0 ∧ w.cell? ⟨g, 1, none⟩ = some a1 ∧ w.cell? ⟨g, 2, none⟩ = some a2 ∧ w.cell? ⟨g, 3, none⟩ = some a3 ∧ w.cell? ⟨g, 4, none⟩ = some a4 ∧ w.cell? ⟨g, 5, none⟩ = some a5 ∧ w.cell? ⟨g, 6, none⟩ = some a6 := by
  refine ⟨?_, ?_, ?_, ?_, ?_, ?_, ?_⟩ <;> (rw [blk_cell h]; rfl)

theorem keep_drew {w : World} {g : Nat} {o : Obj} (h : w.heap[g]? = some o) : w.drew.heap[g]? = some o := h

theorem cell_set_far {w : World} {q : Addr} {v : Value} {x j : Nat} {u : Value} (h : w.cell? q = some v) (hne : q.block ≠ x) : (w.setCell ⟨x, j, none⟩ u).drew.cell? q = some v := by
  have hb : (w.setCell ⟨x, j, none⟩ u).heap[q.block]? = w.heap[q.block]? := Below.heap_setCell w ⟨x, j, none⟩ u q.block hne
  show (w.setCell ⟨x, j, none⟩ u).cell? q = some v
  unfold World.cell? at h ⊢
  rw [hb]
  exact h

/-- The bytes that the walk left, as the plain words have them. -/
theorem strOfNums_cons (x : Int) (xs : List Int) : (strOfNums (x :: xs)).data.toList = UInt8.ofNat x.toNat :: (strOfNums xs).data.toList := by simp [strOfNums]

theorem strOfNums_size : ∀ xs : List Int, (strOfNums xs).size = xs.length
  | [] => rfl
  | x :: xs => by
    have h := strOfNums_cons x xs
    have h2 := strOfNums_size xs
    have e1 : (strOfNums (x :: xs)).data.toList.length = (strOfNums (x :: xs)).size := by simp
    have e2 : (strOfNums xs).data.toList.length = (strOfNums xs).size := by simp
    rw [← e1, h, List.length_cons, e2, h2, List.length_cons]

theorem cell_lt {w : World} {q : Addr} {v : Value} (h : w.cell? q = some v) : q.block < w.heap.size := by
  rcases Nat.lt_or_ge q.block w.heap.size with hlt | hge
  · exact hlt
  · simp [World.cell?, Array.getElem?_eq_none hge] at h

theorem ret_str1 {s s' : ByteArray} (h : s = s') : Ending.returned (.string s) = .returned (.string s') := by rw [h]

theorem conv_block {P : Program} (w : World) (src e dst : TypeId) (hs : P.underlying src = some (.slice e)) (he : P.underlying e = some (.int .u8)) (hd : P.underlying dst = some .string)
    (C : Array Value) (t : TypeId) (off len cap : Nat) (h : ∀ i, i < len → C[off + i]? = some (.int .u8 ((((C.toList.drop off).take len).map intOf).getD i 0))) (hl : off + len ≤ C.size) :
    (convert src dst (.slice (some ⟨w.heap.size, off, none⟩) len cap)).run P (w.alloc (.cells C t)) = .ok (.string (strOfNums (((C.toList.drop off).take len).map intOf))) (w.alloc (.cells C t)) :=
  run_convert_bytes_arg _ src e hs he w.heap.size off len cap _ (by simp; omega) (fun i hi => by rw [World.cell?_alloc_mark]; exact h i hi) dst hd

theorem u8_same {a b : Nat} (h : a % 256 = b % 256) : UInt8.ofNat a = UInt8.ofNat b := by
  rw [← UInt8.toNat_inj]; simpa using h

theorem cons_same {a b : UInt8} {l l' : List UInt8} (h : a = b) (h' : l = l') : a :: l = b :: l' := by rw [h, h']

theorem str_same {l l' : List UInt8} (h : l = l') : (⟨l.toArray⟩ : ByteArray) = ⟨l'.toArray⟩ := by rw [h]

theorem ret_str2 {s s' : ByteArray} {v : Value} (h : s = s') : Ending.returned (.tuple #[.string s, v]) = .returned (.tuple #[.string s', v]) := by rw [h]

/-- A row of bytes that the program made: block g's first cells. None of them is frozen. -/
def RowAt (W : World) (g : Nat) (zs : List UInt8) : Prop :=
  ∃ (cs : Array Value) (t : TypeId) (f0 f1 : Nat), W.heap[g]? = some (.cells cs t (f0, f1)) ∧ zs.length ≤ cs.size ∧ (zs.length ≤ f0 ∨ f1 = 0) ∧ ∀ i (h : i < zs.length), cs[i]? = some (.int .u8 (zs[i].toNat : Int))
theorem RowAt.cell {W : World} {g : Nat} {zs : List UInt8} (h : RowAt W g zs) (i : Nat) (hi : i < zs.length) : W.cell? ⟨g, i, none⟩ = some (.int .u8 (zs[i].toNat : Int)) := by
  obtain ⟨cs, t, f0, f1, hb, hl, hf, hc⟩ := h
  rw [cell_of_row W g i cs t _ hb]
  exact hc i hi
theorem RowAt.frozen {W : World} {g : Nat} {zs : List UInt8} (h : RowAt W g zs) (i : Nat) (hi : i < zs.length) : W.frozen? ⟨g, i, none⟩ = false := by
  obtain ⟨cs, t, f0, f1, hb, hl, hf, hc⟩ := h
  simp [World.frozen?, hb]
  omega
theorem RowAt.lt {W : World} {g : Nat} {zs : List UInt8} (h : RowAt W g zs) : g < W.heap.size := by
  obtain ⟨cs, t, f0, f1, hb, _⟩ := h
  exact blk_lt hb
theorem RowAt.set {W : World} {g : Nat} {zs : List UInt8} (h : RowAt W g zs) (i : Nat) (u : UInt8) (hi : i < zs.length) : RowAt (W.setCell ⟨g, i, none⟩ (.int .u8 (u.toNat : Int))) g (zs.set i u) := by
  obtain ⟨cs, t, f0, f1, hb, hl, hf, hc⟩ := h
  refine ⟨cs.setIfInBounds i (.int .u8 (u.toNat : Int)), t, f0, f1, ?_, by simpa using hl, by simpa using hf, ?_⟩
  · simp [World.setCell, Array.getElem?_modify, hb]
  · intro j hj
    have hj' : j < zs.length := by simpa using hj
    by_cases hij : i = j
    · subst hij
      simp [Array.getElem?_setIfInBounds_self_of_lt (show i < cs.size by omega)]
    · rw [Array.getElem?_setIfInBounds_ne hij]
      simp only [List.getElem_set, if_neg hij]
      exact hc j hj'
theorem RowAt.of_eq {W W' : World} {g : Nat} {zs : List UInt8} (h : RowAt W g zs) (hb : W'.heap[g]? = W.heap[g]?) : RowAt W' g zs := by
  obtain ⟨cs, t, f0, f1, hx, hl, hf, hc⟩ := h
  exact ⟨cs, t, f0, f1, hb.trans hx, hl, hf, hc⟩
theorem RowAt.below {W W' : World} {g : Nat} {zs : List UInt8} (h : RowAt W g zs) (hb : Below W.heap.size W W') : RowAt W' g zs := h.of_eq (hb.block g h.lt)

/-- '[]byte(s)': a new row that holds the text's bytes. -/
theorem upon_row {P : Program} {o : Oper} {a : Act} {K : Act → World → Prop} {Q : Exit → Act → World → Prop} (w : World) (src dst e : TypeId) (s : ByteArray)
    (hs : P.underlying src = some .string) (hd : P.underlying dst = some (.slice e)) (he : P.underlying e = some (.int .u8))
    (h : ∀ (W : World) (cap : Nat), Below w.heap.size w W → RowAt W w.heap.size s.data.toList → K (a.put o.dst (.slice (some ⟨w.heap.size, 0, none⟩) s.size cap)) W) :
    o.upon P a K Q (((convert src dst (.string s)).run P w).andThen fun v w' => .ok (.value v) w') := by
  rw [run_bytes_of_string w src dst e s hs hd he]
  simp only [Result.andThen]
  rw [Oper.upon_value]
  refine h _ _ ((Below.refl _ _).drew.alloc (Nat.le_refl _) _) ⟨bytesRow s (grownCap w s.size 0 e), e, (bytesRow s (grownCap w s.size 0 e)).size, (bytesRow s (grownCap w s.size 0 e)).size + 1, ?_, ?_, .inl ?_, fun i hi => ?_⟩
  · show (w.heap.push (.cells (bytesRow s (grownCap w s.size 0 e)) e ((bytesRow s (grownCap w s.size 0 e)).size, (bytesRow s (grownCap w s.size 0 e)).size + 1)))[w.heap.size]? = _
    simp
  · simp [bytesRow]
  · simp [bytesRow]
  · rw [bytesRow_at s _ i (by simpa using hi)]
    simp
/-- 'string(b)' of such a row, whole. -/
theorem row_str {P : Program} {W : World} {g cap : Nat} {zs : List UInt8} (h : RowAt W g zs) (src e dst : TypeId) (hs : P.underlying src = some (.slice e)) (he : P.underlying e = some (.int .u8)) (hd : P.underlying dst = some .string) :
    (convert src dst (.slice (some ⟨g, 0, none⟩) zs.length cap)).run P W = .ok (.string (strOfNums (zs.map fun b => (b.toNat : Int)))) W :=
  run_convert_bytes_arg _ src e hs he g 0 zs.length cap _ (by simp) (fun i hi => by
    rw [Nat.zero_add, h.cell i hi]
    simp [List.getD_eq_getElem?_getD, hi]) dst hd

theorem upon_str {P : Program} {o : Oper} {a : Act} {K : Act → World → Prop} {Q : Exit → Act → World → Prop} {W : World} {g n cap : Nat} {zs : List UInt8} (h : RowAt W g zs) (hn : zs.length = n) (src e dst : TypeId) (hs : P.underlying src = some (.slice e)) (he : P.underlying e = some (.int .u8)) (hd : P.underlying dst = some .string)
    (hk : K (a.put o.dst (.string (strOfNums (zs.map fun b => (b.toNat : Int))))) W) :
    o.upon P a K Q (((convert src dst (.slice (some ⟨g, 0, none⟩) n cap)).run P W).andThen fun v w' => .ok (.value v) w') := by
  rw [← hn, row_str h src e dst hs he hd]
  simp only [Result.andThen]
  rw [Oper.upon_value]
  exact hk

end Go.Proofs.Ytoeaakadpillnaa
