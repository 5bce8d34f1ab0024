/- Kept of our texts for this claim: Base -/
import Derived.Test.YtienlhnbmobinaaGreatRows
import Derived.Test.YtienlhnbmobinaaGreatAdAa
import Derived.Lib.Strings
import Derived.WalkKit
import Derived.WalkLawsBesides
import Derived.WalkSpells
import Derived.LoopTactic
import Derived.WalkMore
import Derived.LoopN
import Derived.Laws.BitsAllLaws
import Derived.Laws.IdiomStrings
import Derived.BigQuiet
import Derived.Deep.QuietTactic
import Derived.Deep.DeepCutAuto
import Derived.Deep.RegionHeld3
import Derived.Deep.DrawnRows
import Derived.Lib.Hide
import Derived.Outline
import Derived.Deep.DeepMust
import Derived.Handy
import Derived.Below
import Derived.StillTail
import Derived.OwnWalk
import Derived.Laws.OwnMore
section
/- Facts on blocks of memory, rows of bytes, texts: no function of the program is named here.; Regions that draw their order and hold calls that make memory: one walk of the lexical order serves, for the class of worlds in which what was there is as it was.; copy of a text into a row of bytes; a new row of zeros; A region that draws its order: quiet operations, then others one behind the other; Rows that grow: small facts on ownsRow, Below and grownBy; append of what another slice has; The frame but for a class of blocks.; rows in memory with some cells changed -/
namespace Go.Proofs.YtienlhnbmobinaaGreat
open Go.RowKit
set_option linter.unusedVariables false
set_option linter.unusedSimpArgs false
theorem ret_bool {a b : Bool} (h : a = b) : Ending.returned (.bool a) = .returned (.bool b) := by rw [h]
theorem blk_lt {w : World} {g : Nat} {o : Obj} (h : w.heap[g]? = some o) : g < w.heap.size := by
  rcases Nat.lt_or_ge g w.heap.size with hlt | hge
  · exact hlt
  · rw [Array.getElem?_eq_none hge] at h; cases h
theorem blk_cell {w : World} {g : Nat} {t : TypeId} {cs : Array Value} (h : w.heap[g]? = some (.cells cs t (0, 0))) (i : Nat) : w.cell? ⟨g, i, none⟩ = cs[i]? := cell_of_row w g i cs t (0, 0) h
theorem blk_frozen {w : World} {g : Nat} {t : TypeId} {cs : Array Value} (h : w.heap[g]? = some (.cells cs t (0, 0))) (i : Nat) : w.frozen? ⟨g, i, none⟩ = false := by
  simp [World.frozen?, h]
theorem blk_set {w : World} {g : Nat} {t : TypeId} {cs : Array Value} (h : w.heap[g]? = some (.cells cs t (0, 0))) (i : Nat) (u : Value) : (w.setCell ⟨g, i, none⟩ u).heap[g]? = some (.cells (cs.setIfInBounds i u) t (0, 0)) := by
  simp [World.setCell, Array.getElem?_modify, h]
theorem grown_set {w w' : World} {g i : Nat} {u : Value} (h : w.grownBy w' (some g)) : w.grownBy (w'.setCell ⟨g, i, none⟩ u) (some g) :=
  ⟨h.os, h.tape, h.output, by simpa [World.setCell] using h.size, fun k hk hne => by rw [Below.heap_setCell _ _ _ _ (fun e => hne (by rw [e]))]; exact h.block k hk hne⟩
theorem grown_below {w w' : World} (row : Option Nat) (h : Below w.heap.size w w') : w.grownBy w' row := ⟨h.os, h.tape, h.output, h.size, fun k hk _ => h.block k hk⟩
theorem heap_keep {w : World} {g : Nat} {o o' : Obj} (h : w.heap[g]? = some o') : (w.alloc o).heap[g]? = some o' := (Below.heap_alloc w o g (blk_lt h)).trans h
theorem set_keep {w : World} {g x j : Nat} {u : Value} {o : Obj} (h : w.heap[g]? = some o) (hne : g ≠ x) : (w.setCell ⟨x, j, none⟩ u).heap[g]? = some o := (Below.heap_setCell w ⟨x, j, none⟩ u g hne).trans h
theorem bytes_ext {a b : ByteArray} (h : a.data.toList = b.data.toList) : a = b := ByteArray.ext (Array.ext' h)
theorem be_str (k n : Nat) : (⟨(be k n).toArray⟩ : ByteArray).size = k := by
  show (be k n).toArray.size = k
  simp [be_length]
theorem set_lt {w : World} {x j : Nat} {u : Value} : (w.setCell ⟨x, j, none⟩ u).heap.size = w.heap.size := by simp [World.setCell]
theorem cells7 {w : World} {g : Nat} {t : TypeId} {a0 a1 a2 a3 a4 a5 a6 : Value} (h : w.heap[g]? = some (.cells #[a0, a1, a2, a3, a4, a5, a6] t (0, 0))) :
    w.cell? ⟨g, 0, none⟩ = some a0 ∧ w.cell? ⟨g, 1, none⟩ = some a1 ∧ w.cell? ⟨g, 2, none⟩ = some a2 ∧ w.cell? ⟨g, 3, none⟩ = some a3 ∧ w.cell? ⟨g, 4, none⟩ = some a4 ∧ w.cell? ⟨g, 5, none⟩ = some a5 ∧ w.cell? ⟨g, 6, none⟩ = some a6 := by
  refine ⟨?_, ?_, ?_, ?_, ?_, ?_, ?_⟩ <;> (rw [blk_cell h]; rfl)
theorem keep_drew {w : World} {g : Nat} {o : Obj} (h : w.heap[g]? = some o) : w.drew.heap[g]? = some o := h
theorem cell_lt {w : World} {q : Addr} {v : Value} (h : w.cell? q = some v) : q.block < w.heap.size := by
  rcases Nat.lt_or_ge q.block w.heap.size with hlt | hge
  · exact hlt
  · simp [World.cell?, Array.getElem?_eq_none hge] at h
theorem ret_str1 {s s' : ByteArray} (h : s = s') : Ending.returned (.string s) = .returned (.string s') := by rw [h]
theorem conv_block {P : Program} (w : World) (src e dst : TypeId) (hs : P.underlying src = some (.slice e)) (he : P.underlying e = some (.int .u8)) (hd : P.underlying dst = some .string)
    (C : Array Value) (t : TypeId) (off len cap : Nat) (h : ∀ i, i < len → C[off + i]? = some (.int .u8 ((((C.toList.drop off).take len).map intOf).getD i 0))) (hl : off + len ≤ C.size) :
    (convert src dst (.slice (some ⟨w.heap.size, off, none⟩) len cap)).run P (w.alloc (.cells C t)) = .ok (.string (strOfNums (((C.toList.drop off).take len).map intOf))) (w.alloc (.cells C t)) :=
  run_convert_bytes_arg _ src e hs he w.heap.size off len cap _ (by simp; omega) (fun i hi => by rw [World.cell?_alloc_mark]; exact h i hi) dst hd
theorem u8_same {a b : Nat} (h : a % 256 = b % 256) : UInt8.ofNat a = UInt8.ofNat b := by
  rw [← UInt8.toNat_inj]; simpa using h
theorem cons_same {a b : UInt8} {l l' : List UInt8} (h : a = b) (h' : l = l') : a :: l = b :: l' := by rw [h, h']
theorem str_same {l l' : List UInt8} (h : l = l') : (⟨l.toArray⟩ : ByteArray) = ⟨l'.toArray⟩ := by rw [h]
theorem ret_str2 {s s' : ByteArray} {v : Value} (h : s = s') : Ending.returned (.tuple #[.string s, v]) = .returned (.tuple #[.string s', v]) := by rw [h]
/-- A row of bytes that the program made: block g's first cells. None of them is frozen. -/
def RowAt (W : World) (g : Nat) (zs : List UInt8) : Prop :=
  ∃ (cs : Array Value) (t : TypeId) (f0 f1 : Nat), W.heap[g]? = some (.cells cs t (f0, f1)) ∧ zs.length ≤ cs.size ∧ (zs.length ≤ f0 ∨ f1 = 0) ∧ ∀ i (h : i < zs.length), cs[i]? = some (.int .u8 (zs[i].toNat : Int))
theorem RowAt.cell {W : World} {g : Nat} {zs : List UInt8} (h : RowAt W g zs) (i : Nat) (hi : i < zs.length) : W.cell? ⟨g, i, none⟩ = some (.int .u8 (zs[i].toNat : Int)) := by
  obtain ⟨cs, t, f0, f1, hb, hl, hf, hc⟩ := h
  rw [cell_of_row W g i cs t _ hb]
  exact hc i hi
theorem RowAt.frozen {W : World} {g : Nat} {zs : List UInt8} (h : RowAt W g zs) (i : Nat) (hi : i < zs.length) : W.frozen? ⟨g, i, none⟩ = false := by
  obtain ⟨cs, t, f0, f1, hb, hl, hf, hc⟩ := h
  simp [World.frozen?, hb]
  omega
theorem RowAt.lt {W : World} {g : Nat} {zs : List UInt8} (h : RowAt W g zs) : g < W.heap.size := by
  obtain ⟨cs, t, f0, f1, hb, _⟩ := h
  exact blk_lt hb
theorem RowAt.set {W : World} {g : Nat} {zs : List UInt8} (h : RowAt W g zs) (i : Nat) (u : UInt8) (hi : i < zs.length) : RowAt (W.setCell ⟨g, i, none⟩ (.int .u8 (u.toNat : Int))) g (zs.set i u) := by
  obtain ⟨cs, t, f0, f1, hb, hl, hf, hc⟩ := h
  refine ⟨cs.setIfInBounds i (.int .u8 (u.toNat : Int)), t, f0, f1, ?_, by simpa using hl, by simpa using hf, ?_⟩
  · simp [World.setCell, Array.getElem?_modify, hb]
  · intro j hj
    have hj' : j < zs.length := by simpa using hj
    by_cases hij : i = j
    · subst hij
      simp [Array.getElem?_setIfInBounds_self_of_lt (show i < cs.size by omega)]
    · rw [Array.getElem?_setIfInBounds_ne hij]
      simp only [List.getElem_set, if_neg hij]
      exact hc j hj'
theorem RowAt.of_eq {W W' : World} {g : Nat} {zs : List UInt8} (h : RowAt W g zs) (hb : W'.heap[g]? = W.heap[g]?) : RowAt W' g zs := by
  obtain ⟨cs, t, f0, f1, hx, hl, hf, hc⟩ := h
  exact ⟨cs, t, f0, f1, hb.trans hx, hl, hf, hc⟩
theorem RowAt.below {W W' : World} {g : Nat} {zs : List UInt8} (h : RowAt W g zs) (hb : Below W.heap.size W W') : RowAt W' g zs := h.of_eq (hb.block g h.lt)
end Go.Proofs.YtienlhnbmobinaaGreat
namespace Go.Proofs.YtienlhnbmobinaaGreat
open Go.RowKit
/-- A world in which all that lay below block B is as it was in w. -/
structure Ext (B : Nat) (w : World) where
  val : World
  below : Below B w val
instance (B : Nat) (w : World) : Nonempty (Ext B w) := ⟨⟨w, Below.refl B w⟩⟩
theorem wp_region_ext {P : Program} (B : Nat) {id : Nat} {Q : Exit → Act → World → Prop} {a : Act} {w : World} {l : List Oper} (hm : P.follows .mixedOrders = true) (hB : Region.lexB .any l.toArray = true)
    (h : wpQuiet P l.toArray (fun w' => ∃ x : Ext B w, w' = x.val) (fun a' => ∀ w', (∃ x : Ext B w, w' = x.val) → Q .normal a' w') l a) : (Code.region id l.toArray true).wp P Q a w :=
  wp_region_quiet (C := fun w' => ∃ x : Ext B w, w' = x.val) hm hB ⟨⟨_, (Below.refl B w).drew⟩, rfl⟩ (by simpa using h)
/-- A callee that makes memory of its own alone. -/
theorem ext_call {P : Program} {f : FuncId} {args : Array Value} {v : Value} {B : Nat} {w : World} (x : Ext B w) (hB : B ≤ w.heap.size)
    (h : Calls P f args x.val fun e w' => e = .returned v ∧ Below x.val.heap.size x.val w') : Calls P f args x.val fun e w'' => e = .returned v ∧ ∃ y : Ext B w, w'' = y.val :=
  h.mono fun _ _ ⟨he, hb⟩ => ⟨he, ⟨_, x.below.trans (hb.mono (Nat.le_trans hB x.below.size))⟩, rfl⟩
/-- A callee that leaves the world alone. -/
theorem ext_same {P : Program} {f : FuncId} {args : Array Value} {v : Value} {B : Nat} {w : World} (x : Ext B w)
    (h : Calls P f args x.val fun e w' => e = .returned v ∧ x.val = w') : Calls P f args x.val fun e w'' => e = .returned v ∧ ∃ y : Ext B w, w'' = y.val :=
  h.mono fun _ _ ⟨he, hb⟩ => ⟨he, x, hb.symm⟩
theorem ext_cell {B : Nat} {w : World} {b o : Nat} {v : Value} (h : w.cell? ⟨b, o, none⟩ = some v) (hb : b < B) : ∀ x : Ext B w, x.val.cell? ⟨b, o, none⟩ = some v :=
  fun x => (x.below.cell (p := ⟨b, o, none⟩) hb).trans h
theorem bcell {W w1 : World} (hb : Below W.heap.size W w1) : (∀ b o, b < W.heap.size → w1.cell? ⟨b, o, none⟩ = W.cell? ⟨b, o, none⟩) ∧ (∀ b o, b < W.heap.size → w1.frozen? ⟨b, o, none⟩ = W.frozen? ⟨b, o, none⟩) :=
  ⟨fun b o h => hb.cell (p := ⟨b, o, none⟩) h, fun b o h => hb.frozen (p := ⟨b, o, none⟩) h⟩
end Go.Proofs.YtienlhnbmobinaaGreat
namespace Go.Proofs.YtienlhnbmobinaaGreat
open Go.RowKit
set_option linter.unusedVariables false
set_option linter.unusedSimpArgs false
theorem grown_refl (w : World) (r : Option Nat) : w.grownBy w r := grown_below r (Below.refl _ _)
theorem grown_trans {w w' w'' : World} {g : Nat} (h : w.grownBy w' (some g)) (h' : w'.grownBy w'' (some g)) : w.grownBy w'' (some g) :=
  ⟨h'.os.trans h.os, h'.tape.trans h.tape, h'.output.trans h.output, Nat.le_trans h.size h'.size, fun k hk hne => (h'.block k (Nat.lt_of_lt_of_le hk h.size) hne).trans (h.block k hk hne)⟩
end Go.Proofs.YtienlhnbmobinaaGreat
namespace Go.Proofs.YtienlhnbmobinaaGreat
open Go.RowKit
set_option linter.unusedVariables false
set_option linter.unusedSimpArgs false
section
variable {P : Program} {ops : Array Oper} {md : Region.Mode} {C : World → Prop}
end
end Go.Proofs.YtienlhnbmobinaaGreat
namespace Go.Proofs.YtienlhnbmobinaaGreat
open Go.RowKit
set_option linter.unusedVariables false
set_option linter.unusedSimpArgs false
theorem grown_drew {w w' : World} {r : Option Nat} (h : w.drew.grownBy w' r) : w.grownBy w' r := ⟨h.os, h.tape, h.output, h.size, h.block⟩
theorem keep_cell {w1 w2 : World} {q : Addr} {v : Value} (hb : Below w1.heap.size w1 w2) (h : w1.cell? q = some v) : w2.cell? q = some v := (hb.cell (cell_lt h)).trans h
theorem below_then {w w1 w2 : World} (h : Below w.heap.size w w1) (h2 : Below w1.heap.size w1 w2) : Below w.heap.size w w2 := h.trans (h2.mono h.size)
theorem own_below {w1 w2 : World} {base n size : Nat} {e : TypeId} {v : Value} {xs : List Value} (h : w1.ownsRow base e size v n xs) (hb : Below w1.heap.size w1 w2) : w2.ownsRow base e size v n xs :=
  h.kept (grown_below none hb) (by cases hv : v.ownBlock <;> simp)
theorem own_open {w : World} {base n : Nat} {e : TypeId} {v : Value} {xs : List Value} (h : w.ownsRow base e 1 v n xs) (hn : 0 < n) :
    ∃ g cp, v = .slice (some ⟨g, 0, none⟩) n cp ∧ base ≤ g ∧ n ≤ cp ∧ cp ≤ maxLen ∧ ∀ j u, xs[j]? = some u → w.cell? ⟨g, j, none⟩ = some u := by
  rcases h.2 with ⟨_, h0⟩ | ⟨g, cap, cur, rfl, hb, hg, h1, h2, _⟩
  · omega
  · refine ⟨g, cap, rfl, hb, h1, h2, fun j u hu => ?_⟩
    have := h.cells (g := g) rfl j u hu
    rwa [show (⟨g, 0, none⟩ : Addr).add j = ⟨g, j, none⟩ by unfold Addr.add; split <;> simp_all] at this
theorem own_form {w : World} {base n : Nat} {e : TypeId} {v : Value} {xs : List Value} (h : w.ownsRow base e 1 v n xs) : ∃ b cp, v = .slice b n cp ∧ n ≤ cp ∧ cp ≤ maxLen ∧ (0 < n → ∃ g, b = some ⟨g, 0, none⟩ ∧ base ≤ g) := by
  rcases h.2 with ⟨rfl, rfl⟩ | ⟨g, cap, cur, rfl, hb, hg, h1, h2, _⟩
  · exact ⟨none, 0, rfl, Nat.le_refl _, Nat.zero_le _, fun h => absurd h (Nat.lt_irrefl 0)⟩
  · exact ⟨_, cap, rfl, h1, h2, fun _ => ⟨g, rfl, hb⟩⟩
theorem own_cell {w : World} {base n g cp : Nat} {e : TypeId} {xs : List Value} (h : w.ownsRow base e 1 (.slice (some ⟨g, 0, none⟩) n cp) n xs) (j : Nat) (u : Value) (hu : xs[j]? = some u) : w.cell? ⟨g, j, none⟩ = some u := by
  have := h.cells (g := g) rfl j u hu
  rwa [show (⟨g, 0, none⟩ : Addr).add j = ⟨g, j, none⟩ by unfold Addr.add; split <;> simp_all] at this
theorem one_new (w : World) (v : Value) (t : TypeId) : ∀ j u, [v][j]? = some u → (w.alloc (.cells #[v] t)).cell? ((⟨w.heap.size, 0, none⟩ : Addr).add j) = some u := by
  intro j u h
  cases j with
  | zero =>
    have : v = u := by simpa using h
    subst this
    show (w.alloc (.cells #[v] t)).cell? ⟨w.heap.size, 0, none⟩ = some v
    rw [blk_cell (heap_alloc_new w _)]
    rfl
  | succ j => simp at h
theorem one_str (s : ByteArray) : ∀ u ∈ [Value.string s], u.oneCell' = true := by
  intro u hu
  rw [List.mem_singleton.1 hu]
  rfl
/-- The texts as values. -/
def strs (ts : List (List UInt8)) : List Value := ts.map fun t => .string ⟨t.toArray⟩
end Go.Proofs.YtienlhnbmobinaaGreat
namespace Go.Proofs.YtienlhnbmobinaaGreat
open Go.RowKit
set_option linter.unusedVariables false
set_option linter.unusedSimpArgs false
/-- A slice's value, and what its m elements are. -/
def Reads (w : World) (sv : Value) (m size : Nat) (news : List Value) : Prop :=
  (sv = .slice none 0 0 ∧ m = 0 ∧ news = []) ∨ ∃ ad c, sv = .slice (some ad) m c ∧ news.length = m * size ∧ ∀ j u, news[j]? = some u → w.cell? (ad.add j) = some u
theorem Reads.below {w w' : World} {sv : Value} {m size : Nat} {news : List Value} (h : Reads w sv m size news) (hb : Below w.heap.size w w') : Reads w' sv m size news := by
  rcases h with h | ⟨ad, c, h1, h2, h3⟩
  · exact .inl h
  · exact .inr ⟨ad, c, h1, h2, fun j u hu => keep_cell hb (h3 j u hu)⟩
theorem run_append_any {P : Program} (w : World) (base : Nat) (t ty e : TypeId) (i : TypeInfo) (z : Value) (size bytes : Nat) (ht : P.underlying t = some (.slice e)) (hi : P.info? e = some i) (hz : i.zero = some z)
    (hsize : i.size = size) (hby : i.bytes = bytes) (hzs : z.cells.size = size) (hsz : 0 < size)
    (v : Value) (n : Nat) (xs : List Value) (hown : w.ownsRow base e size v n xs) (sv : Value) (m : Nat) (news : List Value) (hr : Reads w sv m size news) (h1 : ∀ u ∈ news, u.oneCell' = true)
    (h63 : n + m ≤ maxLen) (hbytes : (n + m) * bytes ≤ 140737488355328) (hbase : base ≤ w.heap.size) :
    ∃ v' w', (Builtin.append_ #[t, t] ty #[v, sv]).run P w = .ok v' w' ∧ w'.ownsRow base e size v' (n + m) (xs ++ news) ∧ w.grownBy w' v.ownBlock := by
  rcases hr with ⟨rfl, rfl, rfl⟩ | ⟨ad, c, rfl, hl, hn⟩
  · refine ⟨v, w, run_append_owned_none (P := P) w base t ty e i size ht hi v n xs hown, by simpa using hown, grown_below _ (Below.refl _ _)⟩
  · obtain ⟨v', w', hr, h2, h3, _⟩ := run_append_own (P := P) w base t ty e i z size bytes ht hi hz hsize hby hzs hsz v n xs hown ad m c news hl hn h1 h63 hbytes hbase
    exact ⟨v', w', hr, h2, h3⟩
section
variable {P : Program} (w : World)
theorem wp_append_any {o : Oper} {a : Act} {K : Act → World → Prop} {Q : Exit → Act → World → Prop} (s x : Operand) (t : TypeId)
    (ho : o.op = .call { callee := .builtin .append, args := #[s, x], argTypes := #[t, t] })
    (base : Nat) (e : TypeId) (i : TypeInfo) (z : Value) (size bytes : Nat) (ht : P.underlying t = some (.slice e)) (hi : P.info? e = some i) (hz : i.zero = some z)
    (hsize : i.size = size) (hby : i.bytes = bytes) (hzs : z.cells.size = size) (hsz : 0 < size)
    (v : Value) (n : Nat) (xs : List Value) (hs : a.eval s = v) (hown : w.ownsRow base e size v n xs) (sv : Value) (m : Nat) (news : List Value) (hx : a.eval x = sv) (hr : Reads w sv m size news) (h1 : ∀ u ∈ news, u.oneCell' = true)
    (h63 : n + m ≤ maxLen) (hbytes : (n + m) * bytes ≤ 140737488355328) (hbase : base ≤ w.heap.size)
    (h : ∀ v' w', w'.ownsRow base e size v' (n + m) (xs ++ news) → w.grownBy w' v.ownBlock → K (a.put o.dst v') w') : o.wp P a w K Q := by
  obtain ⟨v', w', hrun, h2, h3⟩ := run_append_any (P := P) w base t o.type e i z size bytes ht hi hz hsize hby hzs hsz v n xs hown sv m news hr h1 h63 hbytes hbase
  unfold Oper.wp execOp
  simp only [ho, resolve, invoke, builtin, Sem.run_bind, Sem.run_pure, Result.andThen_ok, List.map_toArray, List.map_cons, List.map_nil, hs, hx, hrun]
  exact h v' w' h2 h3
/-- At the list of a plain region's operations. -/
theorem wpList_append_any {ops : Array Oper} {rest : List Oper} {o : Oper} {a : Act} {Q : Exit → Act → World → Prop} (hgd : o.guard = none) (s x : Operand) (t : TypeId)
    (ho : o.op = .call { callee := .builtin .append, args := #[s, x], argTypes := #[t, t] })
    (base : Nat) (e : TypeId) (i : TypeInfo) (z : Value) (size bytes : Nat) (ht : P.underlying t = some (.slice e)) (hi : P.info? e = some i) (hz : i.zero = some z)
    (hsize : i.size = size) (hby : i.bytes = bytes) (hzs : z.cells.size = size) (hsz : 0 < size)
    (v : Value) (n : Nat) (xs : List Value) (hs : a.eval s = v) (hown : w.ownsRow base e size v n xs) (sv : Value) (m : Nat) (news : List Value) (hx : a.eval x = sv) (hr : Reads w sv m size news) (h1 : ∀ u ∈ news, u.oneCell' = true)
    (h63 : n + m ≤ maxLen) (hbytes : (n + m) * bytes ≤ 140737488355328) (hbase : base ≤ w.heap.size)
    (h : ∀ v' w', w'.ownsRow base e size v' (n + m) (xs ++ news) → w.grownBy w' v.ownBlock → wpList P ops Q rest (a.put o.dst v') w') : wpList P ops Q (o :: rest) a w :=
  wpList_plain hgd fun _ hK => wp_append_any w s x t ho base e i z size bytes ht hi hz hsize hby hzs hsz v n xs hs hown sv m news hx hr h1 h63 hbytes hbase fun v' w' h2 h3 => hK _ _ (h v' w' h2 h3)
/-- At a step of a region that draws its order. -/
theorem step_append_any {ops : Array Oper} {o : Oper} {a : Act} {K : Act → World → Prop} {Q : Exit → Act → World → Prop} {E : Prop} (hgd : o.guard = none) (s x : Operand) (t : TypeId)
    (ho : o.op = .call { callee := .builtin .append, args := #[s, x], argTypes := #[t, t] })
    (base : Nat) (e : TypeId) (i : TypeInfo) (z : Value) (size bytes : Nat) (ht : P.underlying t = some (.slice e)) (hi : P.info? e = some i) (hz : i.zero = some z)
    (hsize : i.size = size) (hby : i.bytes = bytes) (hzs : z.cells.size = size) (hsz : 0 < size)
    (v : Value) (n : Nat) (xs : List Value) (hs : a.eval s = v) (hown : w.ownsRow base e size v n xs) (sv : Value) (m : Nat) (news : List Value) (hx : a.eval x = sv) (hr : Reads w sv m size news) (h1 : ∀ u ∈ news, u.oneCell' = true)
    (h63 : n + m ≤ maxLen) (hbytes : (n + m) * bytes ≤ 140737488355328) (hbase : base ≤ w.heap.size)
    (h : ∀ v' w', w'.ownsRow base e size v' (n + m) (xs ++ news) → w.grownBy w' v.ownBlock → K (a.put o.dst v') w') :
    if Region.wanted o (yielded ops a.tmps) = true then Oper.wp P o a w K Q else E := by
  have hw : Region.wanted o (yielded ops a.tmps) = true := by simp [Region.wanted, hgd]
  rw [if_pos hw]
  exact wp_append_any w s x t ho base e i z size bytes ht hi hz hsize hby hzs hsz v n xs hs hown sv m news hx hr h1 h63 hbytes hbase h
end
end Go.Proofs.YtienlhnbmobinaaGreat
namespace Go.Proofs.YtienlhnbmobinaaGreat
open Go.RowKit
set_option linter.unusedVariables false
set_option linter.unusedSimpArgs false
/-- What was there is as it was, but for the blocks of a class. -/
structure OthersKept (w w' : World) (p : Nat → Prop) : Prop where
  os : w'.os = w.os
  tape : w'.tape = w.tape
  output : w'.output = w.output
  size : w.heap.size ≤ w'.heap.size
  block : ∀ k, k < w.heap.size → ¬ p k → w'.heap[k]? = w.heap[k]?
theorem OthersKept.of_below {w w' : World} {p : Nat → Prop} (h : Below w.heap.size w w') : OthersKept w w' p := ⟨h.os, h.tape, h.output, h.size, fun k hk _ => h.block k hk⟩
theorem OthersKept.of_grown {w w' : World} {p : Nat → Prop} {g : Nat} (h : w.grownBy w' (some g)) (hg : p g) : OthersKept w w' p :=
  ⟨h.os, h.tape, h.output, h.size, fun k hk hn => h.block k hk (fun e => by injection e with e; subst e; exact hn hg)⟩
theorem OthersKept.trans {w w1 w2 : World} {p q : Nat → Prop} (h : OthersKept w w1 p) (h2 : OthersKept w1 w2 q) (hq : ∀ k, k < w.heap.size → q k → p k) : OthersKept w w2 p :=
  ⟨h2.os.trans h.os, h2.tape.trans h.tape, h2.output.trans h.output, Nat.le_trans h.size h2.size, fun k hk hn => (h2.block k (Nat.lt_of_lt_of_le hk h.size) (fun e => hn (hq k hk e))).trans (h.block k hk hn)⟩
theorem OthersKept.below {w0 w w' : World} {p : Nat → Prop} (hb : Below w0.heap.size w0 w) (h : OthersKept w w' p) (hp : ∀ k, k < w0.heap.size → ¬ p k) : Below w0.heap.size w0 w' :=
  ⟨h.os.trans hb.os, h.tape.trans hb.tape, h.output.trans hb.output, Nat.le_trans hb.size h.size, fun k hk => (h.block k (Nat.lt_of_lt_of_le hk hb.size) (hp k hk)).trans (hb.block k hk)⟩
theorem OthersKept.owns {w w' : World} {p : Nat → Prop} {base n size : Nat} {e : TypeId} {v : Value} {xs : List Value} (hk : OthersKept w w' p) (h : w.ownsRow base e size v n xs) (hp : ∀ k, v.ownBlock = some k → ¬ p k) : w'.ownsRow base e size v n xs := by
  refine ⟨h.1, ?_⟩
  rcases h.2 with hn | ⟨g, cap, cur, rfl, hb, hgg, rest⟩
  · exact .inl hn
  · exact .inr ⟨g, cap, cur, rfl, hb, (hk.block g (blk_lt hgg) (hp g rfl)).trans hgg, rest⟩
theorem OthersKept.row {w w' : World} {p : Nat → Prop} {g : Nat} {zs : List UInt8} (hk : OthersKept w w' p) (h : RowAt w g zs) (hp : ¬ p g) : RowAt w' g zs := h.of_eq (hk.block g h.lt hp)
theorem OthersKept.heap {w w' : World} {p : Nat → Prop} {g : Nat} {o : Obj} (hk : OthersKept w w' p) (h : w.heap[g]? = some o) (hp : ¬ p g) : w'.heap[g]? = some o := (hk.block g (blk_lt h) hp).trans h
theorem OthersKept.cell {w w' : World} {p : Nat → Prop} {q : Addr} {v : Value} (hk : OthersKept w w' p) (h : w.cell? q = some v) (hp : ¬ p q.block) : w'.cell? q = some v := by
  have hb := hk.block q.block (cell_lt h) hp
  unfold World.cell? at h ⊢
  rw [hb]
  exact h
theorem OthersKept.then_below {w w1 w2 : World} {p : Nat → Prop} (h : OthersKept w w1 p) (hb : Below w1.heap.size w1 w2) : OthersKept w w2 p := h.trans (OthersKept.of_below (p := fun _ => False) hb) (fun _ _ h => absurd h id)
theorem OthersKept.base {w0 w w' : World} (hb : Below w0.heap.size w0 w) (h : OthersKept w w' (fun k => w0.heap.size ≤ k)) : Below w0.heap.size w0 w' := h.below hb (fun k hk => by omega)
end Go.Proofs.YtienlhnbmobinaaGreat
namespace Go.Proofs.YtienlhnbmobinaaGreat
open Go.RowKit
set_option linter.unusedVariables false
set_option linter.unusedSimpArgs false
open Go.Lib
/-- A list with others in place of some. -/
def spl (cur : List Value) (o : Nat) (vs : List Value) : List Value := cur.take o ++ vs ++ cur.drop (o + vs.length)
theorem spl_length (cur : List Value) (o : Nat) (vs : List Value) (h : o + vs.length ≤ cur.length) : (spl cur o vs).length = cur.length := by
  unfold spl
  simp
  omega
theorem set_spl (cur : List Value) (o : Nat) (v : Value) (r : List Value) (h : o + (r.length + 1) ≤ cur.length) : spl (cur.set o v) (o + 1) r = spl cur o (v :: r) := by
  unfold spl
  have h1 : (cur.set o v).take (o + 1) = cur.take o ++ [v] := by
    rw [List.take_succ_eq_append_getElem (by simp; omega), List.take_set_of_le (Nat.le_refl _)]
    simp
  rw [h1, List.drop_set_of_lt (by omega)]
  rw [show o + (v :: r).length = o + 1 + r.length by simp; omega]
  simp
theorem heap_setCells (g : Nat) (t : TypeId) : ∀ (vs : List Value) (o : Nat) (w : World) (cur : List Value), w.heap[g]? = some (.cells cur.toArray t (0, 0)) → o + vs.length ≤ cur.length → (w.setCells g o vs).heap[g]? = some (.cells (spl cur o vs).toArray t (0, 0))
  | [], o, w, cur, h, _ => by
    rw [show spl cur o [] = cur by unfold spl; simp]
    exact h
  | v :: r, o, w, cur, h, hl => by
    have hs := blk_set h o v
    rw [show (cur.toArray.setIfInBounds o v) = (cur.set o v).toArray by simp] at hs
    simp only [List.length_cons] at hl
    have := heap_setCells g t r (o + 1) (w.setCell ⟨g, o, none⟩ v) (cur.set o v) hs (by simp; omega)
    rw [set_spl cur o v r hl] at this
    exact this
theorem grown_setCells (g : Nat) : ∀ (vs : List Value) (o : Nat) (w : World), w.grownBy (w.setCells g o vs) (some g)
  | [], _, w => grown_refl _ _
  | v :: r, o, w => by
    have h1 : w.grownBy (w.setCell ⟨g, o, none⟩ v) (some g) := grown_set (grown_refl _ _)
    have h2 := grown_setCells g r (o + 1) (w.setCell ⟨g, o, none⟩ v)
    exact ⟨h2.os.trans h1.os, h2.tape.trans h1.tape, h2.output.trans h1.output, Nat.le_trans h1.size h2.size, fun k hk hne => (h2.block k (Nat.lt_of_lt_of_le hk h1.size) hne).trans (h1.block k hk hne)⟩
/-- A row in memory, as a list of all its cells. -/
theorem own_cur {w : World} {base n g cp : Nat} {e : TypeId} {xs : List Value} (h : w.ownsRow base e 1 (.slice (some ⟨g, 0, none⟩) n cp) n xs) :
    ∃ cur : List Value, w.heap[g]? = some (.cells cur.toArray e (0, 0)) ∧ base ≤ g ∧ n ≤ cp ∧ cp ≤ maxLen ∧ cur.length = cp ∧ cur.take n = xs ∧ xs.length = n := by
  obtain ⟨hl, h⟩ := h
  rcases h with ⟨h, _⟩ | ⟨g', cap, cur, he, hb, hg, h1, h2, h3, h4⟩
  · cases h
  · injection he with e1 e2 e3
    injection e1 with e1
    injection e1 with e1
    subst e1; subst e3
    exact ⟨cur.toList, by simpa using hg, hb, h1, h2, by simpa using h3, by simpa using h4, by omega⟩
theorem own_of_cur {w : World} {base n g cp : Nat} {e : TypeId} {cur xs : List Value} (hg : w.heap[g]? = some (.cells cur.toArray e (0, 0))) (hb : base ≤ g) (hn : n ≤ cp) (hc : cp ≤ maxLen) (hl : cur.length = cp) (hx : cur.take n = xs) :
    w.ownsRow base e 1 (.slice (some ⟨g, 0, none⟩) n cp) n xs :=
  ⟨by rw [← hx, List.length_take]; omega, .inr ⟨g, cp, cur.toArray, rfl, hb, hg, hn, hc, by simpa using hl, by simpa using hx⟩⟩
theorem spl_at (a b c vs : List Value) (h : vs.length = b.length) : spl (a ++ b ++ c) a.length vs = a ++ vs ++ c := by
  unfold spl
  rw [h, show (a ++ b ++ c).take a.length = a by simp, show (a ++ b ++ c).drop (a.length + b.length) = c by rw [← List.length_append, List.drop_left]]
theorem take_of_take {cur xs : List Value} {n k : Nat} (hx : cur.take n = xs) (hk : k ≤ n) : cur.take k = xs.take k := by
  rw [← hx, List.take_take, Nat.min_eq_left hk]
theorem shift_one (cur xs : List Value) (x : Value) (n i : Nat) (hx : cur.take n = xs) (hn : n + 1 ≤ cur.length) (hi : i < n) : (spl (spl cur (i + 1) (xs.drop i)) i [x]).take (n + 1) = xs.take i ++ x :: xs.drop i := by
  have hl : xs.length = n := by rw [← hx, List.length_take]; omega
  have h1 : spl cur (i + 1) (xs.drop i) = xs.take i ++ [xs[i]] ++ (xs.drop i ++ cur.drop (n + 1)) := by
    unfold spl
    rw [take_of_take hx (by omega), List.take_succ_eq_append_getElem (by omega), show i + 1 + (xs.drop i).length = n + 1 by rw [List.length_drop]; omega, List.append_assoc (xs.take i ++ _)]
  have h2 : (xs.take i).length = i := by rw [List.length_take]; omega
  have h3 := spl_at (xs.take i) [xs[i]] (xs.drop i ++ cur.drop (n + 1)) [x] rfl
  rw [h2] at h3
  rw [h1, h3, ← List.append_assoc, List.take_left' (by simp; omega)]
  simp
theorem set_one (cur xs : List Value) (x : Value) (n i : Nat) (hx : cur.take n = xs) (hn : n ≤ cur.length) (hi : i < n) : (spl cur i [x]).take n = xs.take i ++ x :: xs.drop (i + 1) := by
  have hl : xs.length = n := by rw [← hx, List.length_take]; omega
  have h1 : cur = xs.take i ++ [xs[i]] ++ (xs.drop (i + 1) ++ cur.drop n) := by
    rw [← List.take_succ_eq_append_getElem (by omega), ← List.append_assoc, List.take_append_drop, ← hx, List.take_append_drop]
  have h2 : (xs.take i).length = i := by rw [List.length_take]; omega
  have h3 := spl_at (xs.take i) [xs[i]] (xs.drop (i + 1) ++ cur.drop n) [x] rfl
  rw [← h1, h2] at h3
  rw [h3, ← List.append_assoc, List.take_left' (by simp; omega)]
  simp
/-- What a make leaves, filled. -/
theorem fill_one (xs z y : List Value) (x : Value) (n i : Nat) (hl : xs.length = n) (hi : i < n) (hz : z.length = n + 1 - i) : (spl (spl (xs.take i ++ z ++ y) i [x]) (i + 1) (xs.drop i)).take (n + 1) = xs.take i ++ x :: xs.drop i := by
  have h2 : (xs.take i).length = i := by rw [List.length_take]; omega
  cases z with
  | nil => simp at hz; omega
  | cons z0 z =>
    have h3 := spl_at (xs.take i) [z0] (z ++ y) [x] rfl
    rw [h2] at h3
    rw [show xs.take i ++ z0 :: z ++ y = xs.take i ++ [z0] ++ (z ++ y) by simp, h3]
    have h4 := spl_at (xs.take i ++ [x]) z y (xs.drop i) (by rw [List.length_drop]; simp at hz; omega)
    rw [show (xs.take i ++ [x]).length = i + 1 by simp; omega] at h4
    rw [← List.append_assoc, h4, List.take_left' (by simp; omega)]
    simp
end Go.Proofs.YtienlhnbmobinaaGreat
end
