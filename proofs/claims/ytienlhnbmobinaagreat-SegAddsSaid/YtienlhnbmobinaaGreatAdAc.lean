/- Kept of our texts for this claim: TextsP TextsIn Shelf -/
import Derived.Test.YtienlhnbmobinaaGreatRows
import Derived.Test.YtienlhnbmobinaaGreatAdAa
import Derived.Test.YtienlhnbmobinaaGreatAdAb
import Derived.WalkKit
import Derived.WalkLawsBesides
import Derived.WalkSpells
import Derived.LoopTactic
import Derived.WalkMore
import Derived.LoopN
import Derived.Laws.BitsAllLaws
import Derived.Laws.IdiomStrings
import Derived.BigQuiet
import Derived.Deep.QuietTactic
import Derived.Deep.DeepCutAuto
import Derived.Deep.RegionHeld3
import Derived.Deep.DrawnRows
import Derived.Lib.Hide
import Derived.Outline
import Derived.Deep.DeepMust
import Derived.Handy
import Derived.Maps.RangeWalk
import Derived.Maps.OwnSet
import Derived.SliceStrings
import Derived.Shelf.Strings.Builder1
import Derived.Shelf.Strings.Builder2
import Derived.Shelf.Strings.BuilderF
import Derived.Shelf.Strings.BuilderK
import Derived.Shelf.Strings.Builder2Cap
import Derived.Shelf.Strings.Prefix
import Derived.Shelf.Bits.Mul64
import Derived.Shelf.Strings.Repeat
import Derived.Shelf.Strings.BuilderCap
import Derived.Shelf.Slices.Equal
import Derived.Ground.Names2Prog
import Derived.Shelf.Slices.ReverseS
import Derived.Shelf.Slices.Clone
import Derived.Shelf.Slices.Delete
import Derived.Shelf.Slices.Cells
import Derived.Shelf.Slices.Empties
import Derived.Shelf.Slices.Empties2
import Derived.Test.YtienlhnbmobinaaGreatProg
section
/- Slices of texts that can be read; a page's value.; maps from small numbers to held values (functions); pages in blocks; pages in blocks, as results; chapter 06: which pages may be; chapter 06: which pages may be, by the document; chapter 06: a page is the same as itself -/
namespace Go.Proofs.YtienlhnbmobinaaGreat
open Go.RowKit
set_option linter.unusedVariables false
set_option linter.unusedSimpArgs false
/-- A slice of texts that can be read. -/
def TextsAt (w : World) (sv : Value) (ts : List (List UInt8)) : Prop :=
  ∃ A cp, sv = .slice A ts.length cp ∧ ts.length ≤ cp ∧ cp ≤ maxLen ∧ (A = none → ts = [] ∧ cp = 0) ∧ (0 < ts.length → ∃ b o, A = some ⟨b, o, none⟩ ∧ b < w.heap.size ∧ ∀ j (h : j < ts.length), w.cell? ⟨b, o + j, none⟩ = some (.string ⟨ts[j].toArray⟩))
theorem TextsAt.below {w w' : World} {sv : Value} {ts : List (List UInt8)} (h : TextsAt w sv ts) (hb : Below w.heap.size w w') : TextsAt w' sv ts := by
  obtain ⟨A, cp, h1, h2, h3, h4, h5⟩ := h
  refine ⟨A, cp, h1, h2, h3, h4, fun h0 => ?_⟩
  obtain ⟨b, o, h6, h7, h8⟩ := h5 h0
  exact ⟨b, o, h6, Nat.lt_of_lt_of_le h7 hb.size, fun j hj => keep_cell hb (h8 j hj)⟩
theorem TextsAt.nil (w : World) : TextsAt w (.slice none 0 0) [] := ⟨none, 0, rfl, Nat.le_refl _, Nat.zero_le _, fun _ => ⟨rfl, rfl⟩, fun h => absurd h (Nat.lt_irrefl 0)⟩
theorem strs_length (ts : List (List UInt8)) : (strs ts).length = ts.length := by simp [strs]
theorem strs_get (ts : List (List UInt8)) (j : Nat) (h : j < ts.length) : (strs ts)[j]? = some (.string ⟨ts[j].toArray⟩) := by
  unfold strs
  rw [List.getElem?_map, List.getElem?_eq_getElem h]
  rfl
theorem strs_append (a b : List (List UInt8)) : strs (a ++ b) = strs a ++ strs b := by simp [strs]
theorem texts_own {w : World} {base n : Nat} {v : Value} {ts : List (List UInt8)} (h : w.ownsRow base 9 1 v n (strs ts)) : TextsAt w v ts ∧ ts.length = n := by
  have hl : ts.length = n := by have := h.1; simpa [strs] using this
  refine ⟨?_, hl⟩
  subst hl
  rcases h.2 with ⟨rfl, h0⟩ | ⟨g, cap, cur, rfl, hb, hg, h1, h2, _⟩
  · exact ⟨none, 0, by rw [h0], by omega, Nat.zero_le _, fun _ => ⟨List.eq_nil_of_length_eq_zero h0, rfl⟩, fun h => by omega⟩
  · refine ⟨_, cap, rfl, h1, h2, fun h => by (cases h), fun _ => ⟨g, 0, rfl, blk_lt hg, fun j hj => ?_⟩⟩
    rw [Nat.zero_add]
    exact own_cell h j _ (strs_get ts j hj)
theorem TextsAt.reads {w : World} {sv : Value} {ts : List (List UInt8)} (h : TextsAt w sv ts) : Reads w sv ts.length 1 (strs ts) := by
  obtain ⟨A, cp, rfl, h2, h3, h4, h5⟩ := h
  rcases Nat.eq_zero_or_pos ts.length with h0 | h0
  · obtain rfl := List.eq_nil_of_length_eq_zero h0
    cases A with
    | none => obtain ⟨_, rfl⟩ := h4 rfl; exact .inl ⟨rfl, rfl, rfl⟩
    | some a => exact .inr ⟨a, cp, rfl, rfl, fun j u hu => by simp [strs] at hu⟩
  · obtain ⟨b, o, rfl, _, hc⟩ := h5 h0
    refine .inr ⟨_, cp, rfl, by simp [strs], fun j u hu => ?_⟩
    have hj : j < ts.length := by
      have := (List.getElem?_eq_some_iff.1 hu).1
      simpa [strs] using this
    rw [strs_get ts j hj] at hu
    injection hu with hu
    rw [← hu, Addr.add_lit]
    exact hc j hj
/-- The first texts of a slice. -/
theorem TextsAt.take {w : World} {A : Option Addr} {n cp : Nat} {ts : List (List UInt8)} (h : TextsAt w (.slice A n cp) ts) (k c : Nat) (hk : k ≤ n) (hc : k ≤ c) (hcp : c ≤ cp) : TextsAt w (.slice A k c) (ts.take k) := by
  obtain ⟨A', cp', e, h2, h3, h4, h5⟩ := h
  injection e with e1 e2 e3
  subst e1; subst e3
  have hl : (ts.take k).length = k := by simp; omega
  refine ⟨A, c, by rw [hl], by omega, Nat.le_trans hcp h3, fun h => ?_, fun h0 => ?_⟩
  · obtain ⟨rfl, rfl⟩ := h4 h
    exact ⟨by simp, by omega⟩
  · obtain ⟨b, o, h6, h7, h8⟩ := h5 (by omega)
    exact ⟨b, o, h6, h7, fun j hj => by rw [h8 j (by omega), List.getElem_take]⟩
/-- A page's value. -/
def pgV (p : Pg) (sv : Value) : Value := .agg #[.int .u8 p.kind, .int .u8 p.level, .int .u32 p.id, .int .u64 p.lsn, .int .u32 p.next, sv]
/-- A page's numbers are in range. -/
def Pg.wf (p : Pg) : Prop := p.kind < 256 ∧ p.level < 256 ∧ p.id < 256 ^ 4 ∧ p.lsn < 256 ^ 8 ∧ p.next < 256 ^ 4
end Go.Proofs.YtienlhnbmobinaaGreat
namespace Go.Proofs.YtienlhnbmobinaaGreat
open Go.RowKit
set_option linter.unusedVariables false
set_option linter.unusedSimpArgs false
open Go.Maps
/-- Held values. -/
def heldF : Value → Option (DataW Value × List MemPlace) := fun v => some (.held v, [])
/-- What a map is to a list of keys and values. -/
structure FnD (D : DataW Value) (L : List (Nat × Value)) : Prop where
  has : ∀ k : Nat, Maps.has D (.int .u8 (k : Nat)) = (L.lookup k).isSome
  val : ∀ (k : Nat) (x : Value), L.lookup k = some x → ∀ z, D.atKey (.int .u8 (k : Nat)) z = .held x
  size : Maps.size D = L.length
theorem u8_key (k : Int) : WideAt.IsKeyLit (.int .u8 k) := trivial
theorem u8_ne {k j : Nat} (h : k ≠ j) : (Lit.int .u8 (k : Nat)) ≠ .int .u8 (j : Nat) := fun e => h (by injection e with _ e; omega)
theorem FnD.empty : FnD (.map []) [] := ⟨fun k => rfl, fun k t h => (by cases h), rfl⟩
theorem FnD.put {D : DataW Value} {L : List (Nat × Value)} (h : FnD D L) (hD : Tidy D) (k : Nat) (x : Value) (hk : L.lookup k = none) : FnD (D.put (.int .u8 (k : Nat)) (.held x)) ((k, x) :: L) := by
  refine ⟨fun j => ?_, fun j s hs z => ?_, ?_⟩
  · by_cases hj : j = k
    · subst hj
      rw [has_put_same hD.isMap (u8_key _)]
      simp
    · rw [has_put_other (u8_ne hj), h.has j]
      have hb : (j == k) = false := by simpa using hj
      rw [List.lookup_cons, hb]
  · by_cases hj : j = k
    · subst hj
      simp at hs
      subst hs
      exact atKey_put_same hD.isMap (u8_key _) _ _
    · rw [atKey_put_other (u8_ne hj)]
      refine h.val j s ?_ z
      have hb : (j == k) = false := by simpa using hj
      rwa [List.lookup_cons, hb] at hs
  · rw [size_put hD, h.has, h.size, hk]
    rfl
theorem u8_keyed : Maps.Keyed Tryz.prog 5 := Go.Maps.int_keyed Tryz.underlying5
theorem u8_keyOf {k : Nat} (h : k < 256) : keyOf Tryz.prog 5 (.int .u8 (k : Nat)) = some (.int .u8 (k : Nat)) :=
  Go.Maps.keyOf_int_mk Tryz.underlying5 (by unfold Lit.wf; simp [IntKind.min, IntKind.max, IntKind.bits, IntKind.signed]; omega)
/-- A map of held values by small numbers, in memory. -/
def FnAt (w : World) (m : Nat) (L : List (Nat × Value)) : Prop := ∃ D, w.ownsMap Tryz.prog 5 heldF m L.length D ∧ FnD D L
theorem FnAt.new (w : World) : FnAt (w.alloc (.map #[] 0)) w.heap.size [] := ⟨_, World.ownsMap_made (H := Value) w Tryz.prog 5 heldF, FnD.empty⟩
section
variable {w w' : World} {m : Nat} {L : List (Nat × Value)}
theorem FnAt.lt (h : FnAt w m L) : m < w.heap.size := by
  obtain ⟨D, ho, hD⟩ := h
  exact ho.lt
theorem FnAt.below (h : FnAt w m L) (hb : Below w.heap.size w w') : FnAt w' m L := by
  have hlt := h.lt
  obtain ⟨D, ho, hD⟩ := h
  obtain ⟨es, c, hbk, hr⟩ := ho
  exact ⟨D, ⟨es, c, (hb.block m hlt).trans hbk, hr⟩, hD⟩
set_option maxRecDepth 100000 in
theorem FnAt.put (h : FnAt w m L) {t e : TypeId} (ht : Tryz.prog.underlying t = some (.map 5 e)) (k : Nat) (x : Value) (hk : k < 256) (hn : L.lookup k = none) (hl : L.length < 100) :
    ∃ w', (Instr.mapUpdate t (.map (some m)) (.int .u8 (k : Nat)) x).run Tryz.prog w = .ok () w' ∧ w.grownBy w' (some m) ∧ FnAt w' m ((k, x) :: L) := by
  obtain ⟨D, ho, hD⟩ := h
  obtain ⟨w', hrun, ho', hg⟩ := ho.update u8_keyed ht (by unfold maxLen; omega) (u8_keyOf hk) (d := .held x) (ps := []) (val := x) rfl
  exact ⟨w', hrun, hg, _, ho', hD.put (ho.tidy u8_keyed) k x hn⟩
set_option maxRecDepth 100000 in
theorem FnAt.look (h : FnAt w m L) {t e : TypeId} (ht : Tryz.prog.underlying t = some (.map 5 e)) {z : Value} (hz : (zeroValue e).run Tryz.prog w = .ok z w) {k : Nat} {x : Value} (hk : k < 256) (he : L.lookup k = some x) :
    (Instr.lookup t (.map (some m)) (.int .u8 (k : Nat)) true).run Tryz.prog w = .ok (.tuple #[x, .bool true]) w := by
  obtain ⟨D, ho, hD⟩ := h
  obtain ⟨v, ps, hrun, hv⟩ := ho.look_ok u8_keyed ht hz (zd := .held z) (zp := []) rfl (u8_keyOf hk)
  rw [hrun, hD.has, he]
  rw [hD.val k x he] at hv
  injection hv with hv
  injection hv with hv _
  injection hv with hv
  rw [hv]
  rfl
set_option maxRecDepth 100000 in
theorem FnAt.lookN (h : FnAt w m L) {t e : TypeId} (ht : Tryz.prog.underlying t = some (.map 5 e)) {z : Value} (hz : (zeroValue e).run Tryz.prog w = .ok z w) {k : Nat} (hk : k < 256) (he : L.lookup k = none) :
    (Instr.lookup t (.map (some m)) (.int .u8 (k : Nat)) true).run Tryz.prog w = .ok (.tuple #[z, .bool false]) w := by
  obtain ⟨D, ho, hD⟩ := h
  obtain ⟨v, ps, hrun, hv⟩ := ho.look_ok u8_keyed ht hz (zd := .held z) (zp := []) rfl (u8_keyOf hk)
  have hh := hD.has k
  rw [he] at hh
  rw [hrun, hh]
  rw [atKey_of_not_has hh] at hv
  injection hv with hv
  injection hv with hv _
  injection hv with hv
  rw [hv]
  rfl
end
end Go.Proofs.YtienlhnbmobinaaGreat
namespace Go.Proofs.YtienlhnbmobinaaGreat
open Go.RowKit
set_option linter.unusedVariables false
set_option linter.unusedSimpArgs false
/-- A page's cells in a block. -/
def PgBox (w : World) (g kind level id lsn next : Nat) (sv : Value) : Prop := w.heap[g]? = some (.cells #[.int .u8 kind, .int .u8 level, .int .u32 id, .int .u64 lsn, .int .u32 next, sv] 26 (0, 0))
theorem PgBox.new (w : World) (kind level id lsn next : Nat) (sv : Value) : PgBox (w.alloc (.cells #[.int .u8 kind, .int .u8 level, .int .u32 id, .int .u64 lsn, .int .u32 next, sv] 26)) w.heap.size kind level id lsn next sv := heap_alloc_new w _
section
variable {w w' : World} {g kind level id lsn next : Nat} {sv : Value}
theorem PgBox.below (h : PgBox w g kind level id lsn next sv) (hb : Below w.heap.size w w') : PgBox w' g kind level id lsn next sv := (hb.block _ (blk_lt h)).trans h
theorem PgBox.lt (h : PgBox w g kind level id lsn next sv) : g < w.heap.size := blk_lt h
theorem PgBox.cells (h : PgBox w g kind level id lsn next sv) : g < w.heap.size ∧ w.cell? ⟨g, 0, none⟩ = some (.int .u8 kind) ∧ w.cell? ⟨g, 1, none⟩ = some (.int .u8 level) ∧ w.cell? ⟨g, 2, none⟩ = some (.int .u32 id) ∧ w.cell? ⟨g, 3, none⟩ = some (.int .u64 lsn) ∧ w.cell? ⟨g, 4, none⟩ = some (.int .u32 next) ∧ w.cell? ⟨g, 5, none⟩ = some sv := by
  unfold PgBox at h
  exact ⟨blk_lt h, by rw [blk_cell h]; rfl, by rw [blk_cell h]; rfl, by rw [blk_cell h]; rfl, by rw [blk_cell h]; rfl, by rw [blk_cell h]; rfl, by rw [blk_cell h]; rfl⟩
end
theorem alloc_below (w : World) (o : Obj) : Below w.heap.size w (w.alloc o) := (Below.refl _ _).alloc (Nat.le_refl _) _
end Go.Proofs.YtienlhnbmobinaaGreat
namespace Go.Proofs.YtienlhnbmobinaaGreat
open Go.RowKit
set_option linter.unusedVariables false
set_option linter.unusedSimpArgs false
/-- A page stored into a block. -/
def setPg (W : World) (g kind level id lsn next : Nat) (sv : Value) : World := (((((W.setCell ⟨g, 0, none⟩ (.int .u8 kind)).setCell ⟨g, 1, none⟩ (.int .u8 level)).setCell ⟨g, 2, none⟩ (.int .u32 id)).setCell ⟨g, 3, none⟩ (.int .u64 lsn)).setCell ⟨g, 4, none⟩ (.int .u32 next)).setCell ⟨g, 5, none⟩ sv
section
variable {w w' : World} {g kind level id lsn next : Nat} {sv : Value}
theorem PgBox.put (h : PgBox w g kind level id lsn next sv) (kind' level' id' lsn' next' : Nat) (sv' : Value) : PgBox (setPg w g kind' level' id' lsn' next' sv') g kind' level' id' lsn' next' sv' := by
  unfold setPg PgBox at *
  have h0 := blk_set h 0 (.int .u8 kind')
  have h1 := blk_set h0 1 (.int .u8 level')
  have h2 := blk_set h1 2 (.int .u32 id')
  have h3 := blk_set h2 3 (.int .u64 lsn')
  have h4 := blk_set h3 4 (.int .u32 next')
  have h5 := blk_set h4 5 sv'
  simpa using h5
theorem own_set_far {base n size g i : Nat} {u : Value} {e : TypeId} {v : Value} {xs : List Value} (h : w.ownsRow base e size v n xs) (hf : ∀ k, v.ownBlock = some k → k ≠ g) : (w.setCell ⟨g, i, none⟩ u).ownsRow base e size v n xs := by
  refine h.kept (row := some g) (grown_set (grown_refl _ _)) ?_
  cases hv : v.ownBlock with
  | none => exact .inl rfl
  | some k => exact .inr (by have := hf k hv; simp; omega)
theorem one_kept (w : World) (g i : Nat) (u : Value) : OthersKept w (w.setCell ⟨g, i, none⟩ u) (fun k => k = g) := OthersKept.of_grown (g := g) (grown_set (grown_refl _ _)) rfl
theorem setPg_kept (w : World) (g kind level id lsn next : Nat) (sv : Value) : OthersKept w (setPg w g kind level id lsn next sv) (fun k => k = g) := by
  unfold setPg
  exact (((((one_kept w g 0 _).trans (one_kept _ g 1 _) (fun _ _ h => h)).trans (one_kept _ g 2 _) (fun _ _ h => h)).trans (one_kept _ g 3 _) (fun _ _ h => h)).trans (one_kept _ g 4 _) (fun _ _ h => h)).trans (one_kept _ g 5 _) (fun _ _ h => h)
theorem PgBox.set5 (h : PgBox w g kind level id lsn next sv) (sv' : Value) : PgBox (w.setCell ⟨g, 5, none⟩ sv') g kind level id lsn next sv' := by
  unfold PgBox at *
  have h5 := blk_set h 5 sv'
  simpa using h5
theorem PgBox.set4 (h : PgBox w g kind level id lsn next sv) (next' : Nat) : PgBox (w.setCell ⟨g, 4, none⟩ (.int .u32 next')) g kind level id lsn next' sv := by
  unfold PgBox at *
  have h5 := blk_set h 4 (.int .u32 next')
  simpa using h5
theorem PgBox.set3 (h : PgBox w g kind level id lsn next sv) (lsn' : Nat) : PgBox (w.setCell ⟨g, 3, none⟩ (.int .u64 lsn')) g kind level id lsn' next sv := by
  unfold PgBox at *
  have h5 := blk_set h 3 (.int .u64 lsn')
  simpa using h5
theorem PgBox.keep (h : PgBox w g kind level id lsn next sv) (o : Obj) : PgBox (w.alloc o) g kind level id lsn next sv := heap_keep h
theorem PgBox.grown {r : Option Nat} (h : PgBox w g kind level id lsn next sv) (hg : w.grownBy w' r) (hne : some g ≠ r) : PgBox w' g kind level id lsn next sv := (hg.block g h.lt hne).trans h
theorem PgBox.kept {q : Nat → Prop} (h : PgBox w g kind level id lsn next sv) (hk : OthersKept w w' q) (hq : ¬ q g) : PgBox w' g kind level id lsn next sv := hk.heap h hq
theorem PgBox.frozen (h : PgBox w g kind level id lsn next sv) (i : Nat) : w.frozen? ⟨g, i, none⟩ = false := blk_frozen h i
theorem PgBox.fr (h : PgBox w g kind level id lsn next sv) : w.frozen? ⟨g, 0, none⟩ = false ∧ w.frozen? ⟨g, 1, none⟩ = false ∧ w.frozen? ⟨g, 2, none⟩ = false ∧ w.frozen? ⟨g, 3, none⟩ = false ∧ w.frozen? ⟨g, 4, none⟩ = false ∧ w.frozen? ⟨g, 5, none⟩ = false :=
  ⟨h.frozen _, h.frozen _, h.frozen _, h.frozen _, h.frozen _, h.frozen _⟩
end
/-- Texts that stand in a row of blocks that were not touched. -/
theorem results_pg {fn : Func} {p u : Tmp} (h : fn.results = #[.cell p 26, .tmp u]) (tmps : Array Value) (w : World) {g kind level id lsn next : Nat} {sv : Value} (hp : tmps.getD p undef = .pointer (some ⟨g, 0, none⟩)) (hb : PgBox w g kind level id lsn next sv) :
    (results fn tmps).run Tryz.prog w = .ok (.tuple #[.agg #[.int .u8 kind, .int .u8 level, .int .u32 id, .int .u64 lsn, .int .u32 next, sv], tmps.getD u undef]) w := by
  rw [results_cell_tmp h, hp]
  simp [asAddr, run_loadVar_row w g 26 26 _ (0, 0) _ hb Tryz.underlying26 rfl (by kernel_rfl), Result.andThen]
/-- What a call leaves that gives a page and an error. -/
def PgPost (w : World) (R : Pg × Int) (e : Ending) (w' : World) : Prop := ∃ sv, e = .returned (.tuple #[pgV R.1 sv, .int .i64 R.2]) ∧ TextsAt w' sv R.1.rows ∧ Below w.heap.size w w'
theorem PgPost.no {w w' : World} {R : Pg × Int} {n : Int} (hR : R = (Pg.zero, n)) (hb : Below w.heap.size w w') : PgPost w R (.returned (.tuple #[.agg #[.int .u8 (0 : Nat), .int .u8 (0 : Nat), .int .u32 (0 : Nat), .int .u64 (0 : Nat), .int .u32 (0 : Nat), .slice none 0 0], .int .i64 n])) w' := by
  subst hR
  exact ⟨_, rfl, TextsAt.nil _, hb⟩
end Go.Proofs.YtienlhnbmobinaaGreat
namespace Go.Proofs.YtienlhnbmobinaaGreat
open Go.RowKit
set_option linter.unusedVariables false
set_option linter.unusedSimpArgs false
set_option maxHeartbeats 2000000 in
set_option maxRecDepth 100000 in
theorem pageMay_any (p : Pg) (sv : Value) (w : World) (hp : p.wf) (ht : TextsAt w sv p.rows) (hb : weightB p.rows ≤ 1000000) :
    Calls Tryz.prog 27 #[pgV p sv] w fun e w' => e = .returned (.bool p.may) ∧ Below w.heap.size w w' := by
  obtain ⟨kind, level, id, lsn, next, rows⟩ := p
  obtain ⟨A, cp, rfl, h2, h3, h4, h5⟩ := ht
  obtain ⟨p1, p2, p3, p4, p5⟩ := hp
  simp only at *
  obtain ⟨n, hn⟩ : ∃ n, n = rows.length := ⟨_, rfl⟩
  rw [← hn] at h2
  unfold pgV
  simp only [← hn]
  unfold maxLen at h3
  have hM : Hid (∀ W : Nat, W = weightB rows → (Pg.may ⟨kind, level, id, lsn, next, rows⟩ = true ↔ ((kind ≤ 5 ∧ 1 ≤ id) ∧ id ≤ 1024) ∧ next ≤ 1024 ∧ (W : Int) ≤ 484)) := by
    intro W hW
    unfold Pg.may
    rw [Bool.and_eq_true, headOk_iff, decide_eq_true_iff]
    simp only
    omega
  have H5 := Lib.hid h5
  have HN := Lib.hid hn
  clear h5 h4 hn
  generalize Pg.may ⟨kind, level, id, lsn, next, rows⟩ = b at hM ⊢
  go_enter Tryz.func27, Tryz.ntmps27
  go_wp2_with fail
  go_loopw [3, 5, 9] (fun s3 s5 s9 wr => ∃ i : Nat, s9 = .int .i64 i ∧ i ≤ n ∧ wr = w.alloc (.cells #[.int .u8 kind, .int .u8 level, .int .u32 id, .int .u64 lsn, .int .u32 next, .slice A n cp] 26) ∧ s3 = .int .i64 (484 - (weightB (rows.take i) : Nat))) (fun _ _ v _ => n - (intOf v).toNat)
  case atStart => exact ⟨0, rfl, Nat.zero_le _, rfl, rfl⟩
  case round =>
    obtain ⟨i, rfl, hi, rfl, rfl⟩ := hrel
    by_cases hc : i < n
    · have hci : (i : Int) < (n : Int) := by omega
      have hix : i < rows.length := by rw [← HN.out]; exact hc
      obtain ⟨b0, o0, rfl, hb0, hcell⟩ := H5.out (by omega)
      have c1 := (Below.cell ((Below.refl w.heap.size w).alloc (Nat.le_refl _) (.cells #[.int .u8 kind, .int .u8 level, .int .u32 id, .int .u64 lsn, .int .u32 next, .slice (some ⟨b0, o0, none⟩) n cp] 26)) (show (⟨b0, o0 + i, none⟩ : Addr).block < w.heap.size from hb0)).trans (hcell i hix)
      have q1 : (0 : Int) ≤ (i : Int) := by omega
      have hw1 := weightB_take rows i hix
      have hw2 := weightB_take_le rows (i + 1)
      obtain ⟨s, hs⟩ : ∃ s : ByteArray, s = ⟨rows[i].toArray⟩ := ⟨_, rfl⟩
      have hsz : s.size = rows[i].length := by rw [hs]; simp [ByteArray.size]
      rw [← hs] at c1
      rw [← hsz] at hw1
      have HW := Lib.hid hw1
      have q2 : weightB (rows.take i) + (4 + s.size) ≤ 1000000 := by omega
      clear hcell hs hsz hw1 hw2
      generalize weightB (rows.take i) = W at *
      go_wp2_with fail
      go_roundw
      case rel => exact ⟨i + 1, by go_num, by omega, by first | rfl | trivial, by rw [HW.out]; go_num⟩
      case measure => simp [intOf] <;> omega
    · have hci : ¬ (i : Int) < (n : Int) := by omega
      have hin : rows.take i = rows := by rw [List.take_of_length_le]; rw [← HN.out]; omega
      have hM2 := Lib.hid (hM.out (weightB (rows.take i)) (by rw [hin]))
      clear hin hM
      generalize weightB (rows.take i) = W at *
      go_wp2_with fail
      all_goals go_ret
      all_goals refine ⟨ret_bool ?_, (Below.refl _ _).alloc (Nat.le_refl _) _⟩
      all_goals
        have h := hM2.out
        rw [Bool.eq_iff_iff]
        simp only [h]
        simp
        try omega
end Go.Proofs.YtienlhnbmobinaaGreat
namespace Go.Proofs.YtienlhnbmobinaaGreat
open Go.RowKit
set_option linter.unusedVariables false
set_option linter.unusedSimpArgs false
set_option maxHeartbeats 2000000 in
set_option maxRecDepth 100000 in
theorem refLeft_any (p : Pg) (sv : Value) (w : World) (ht : TextsAt w sv p.rows) (hb : weightB p.rows ≤ 1000000) :
    Calls Tryz.prog 26 #[pgV p sv] w fun e w' => e = .returned (.int .i64 (484 - (weightB p.rows : Nat))) ∧ Below w.heap.size w w' := by
  obtain ⟨kind, level, id, lsn, next, rows⟩ := p
  obtain ⟨A, cp, rfl, h2, h3, h4, h5⟩ := ht
  simp only at *
  obtain ⟨n, hn⟩ : ∃ n, n = rows.length := ⟨_, rfl⟩
  rw [← hn] at h2
  unfold pgV
  simp only [← hn]
  unfold maxLen at h3
  have H5 := Lib.hid h5
  have HN := Lib.hid hn
  clear h5 h4 hn
  go_enter Tryz.func26, Tryz.ntmps26
  go_wp2_with fail
  go_loopw [3, 4] (fun s3 s4 wr => ∃ i : Nat, s4 = .int .i64 i ∧ i ≤ n ∧ wr = w.alloc (.cells #[.int .u8 kind, .int .u8 level, .int .u32 id, .int .u64 lsn, .int .u32 next, .slice A n cp] 26) ∧ s3 = .int .i64 (484 - (weightB (rows.take i) : Nat))) (fun _ v _ => n - (intOf v).toNat)
  case atStart => exact ⟨0, rfl, Nat.zero_le _, rfl, rfl⟩
  case round =>
    obtain ⟨i, rfl, hi, rfl, rfl⟩ := hrel
    by_cases hc : i < n
    · have hci : (i : Int) < (n : Int) := by omega
      have hix : i < rows.length := by rw [← HN.out]; exact hc
      obtain ⟨b0, o0, rfl, hb0, hcell⟩ := H5.out (by omega)
      have c1 := (Below.cell ((Below.refl w.heap.size w).alloc (Nat.le_refl _) (.cells #[.int .u8 kind, .int .u8 level, .int .u32 id, .int .u64 lsn, .int .u32 next, .slice (some ⟨b0, o0, none⟩) n cp] 26)) (show (⟨b0, o0 + i, none⟩ : Addr).block < w.heap.size from hb0)).trans (hcell i hix)
      have q1 : (0 : Int) ≤ (i : Int) := by omega
      have hw1 := weightB_take rows i hix
      have hw2 := weightB_take_le rows (i + 1)
      obtain ⟨s, hs⟩ : ∃ s : ByteArray, s = ⟨rows[i].toArray⟩ := ⟨_, rfl⟩
      have hsz : s.size = rows[i].length := by rw [hs]; simp [ByteArray.size]
      rw [← hs] at c1
      rw [← hsz] at hw1
      have HW := Lib.hid hw1
      have q2 : weightB (rows.take i) + (4 + s.size) ≤ 1000000 := by omega
      clear hcell hs hsz hw1 hw2
      generalize weightB (rows.take i) = W at *
      go_wp2_with fail
      go_roundw
      case rel => exact ⟨i + 1, by go_num, by omega, by first | rfl | trivial, by rw [HW.out]; go_num⟩
      case measure => simp [intOf] <;> omega
    · have hci : ¬ (i : Int) < (n : Int) := by omega
      have hin : rows.take i = rows := by rw [List.take_of_length_le]; rw [← HN.out]; omega
      rw [hin] at *
      go_wp2_with fail
      go_ret
      exact ⟨rfl, (Below.refl _ _).alloc (Nat.le_refl _) _⟩
set_option maxHeartbeats 2000000 in
set_option maxRecDepth 100000 in
theorem refMay06_any (p : Pg) (sv : Value) (w : World) (hp : p.wf) (ht : TextsAt w sv p.rows) (hb : weightB p.rows ≤ 1000000) :
    Calls Tryz.prog 30 #[pgV p sv] w fun e w' => e = .returned (.bool p.may) ∧ Below w.heap.size w w' := by
  have C := Lib.hid fun W (hW : TextsAt W sv p.rows) => refLeft_any p sv W hW hb
  obtain ⟨kind, level, id, lsn, next, rows⟩ := p
  obtain ⟨p1, p2, p3, p4, p5⟩ := hp
  simp only at *
  have HT := Lib.hid ht
  clear ht
  have hM : Hid (∀ W : Nat, W = weightB rows → (Pg.may ⟨kind, level, id, lsn, next, rows⟩ = true ↔ ((kind ≤ 5 ∧ 0 < id) ∧ id ≤ 1024) ∧ next ≤ 1024 ∧ (0 : Int) ≤ 484 - (W : Int))) := by
    intro W hW
    unfold Pg.may
    rw [Bool.and_eq_true, headOk_iff, decide_eq_true_iff]
    simp only
    omega
  have hM2 := Lib.hid (hM.out (weightB rows) rfl)
  clear hM
  unfold pgV at C ⊢
  simp only at C ⊢
  generalize Pg.may ⟨kind, level, id, lsn, next, rows⟩ = b at hM2 ⊢
  generalize weightB rows = W at *
  go_enter Tryz.func30, Tryz.ntmps30
  have HB := Lib.hid ((Below.refl w.heap.size w).alloc (Nat.le_refl _) (.cells #[.int .u8 kind, .int .u8 level, .int .u32 id, .int .u64 lsn, .int .u32 next, sv] 26))
  go_wp2_with fail
  · refine (C.out _ (HT.out.below HB.out)).mono ?_
    rintro e w1 ⟨rfl, hb1⟩
    have HB1 := Lib.hid hb1
    clear hb1
    go_wp2_with fail
    all_goals go_ret
    all_goals refine ⟨ret_bool ?_, below_then HB.out HB1.out⟩
    all_goals
      have h := hM2.out
      rw [Bool.eq_iff_iff]
      simp only [h]
      simp
      try omega
  all_goals go_ret
  all_goals refine ⟨ret_bool ?_, HB.out⟩
  all_goals
    have h := hM2.out
    rw [Bool.eq_iff_iff]
    simp only [h]
    simp
    try omega
end Go.Proofs.YtienlhnbmobinaaGreat
namespace Go.Proofs.YtienlhnbmobinaaGreat
open Go.RowKit
set_option linter.unusedVariables false
set_option linter.unusedSimpArgs false
end Go.Proofs.YtienlhnbmobinaaGreat
end

section
/- Slices of texts that came in. -/
namespace Go.Proofs.YtienlhnbmobinaaGreat
open Go.RowKit
set_option linter.unusedVariables false
set_option linter.unusedSimpArgs false
theorem spot_noneT {w : World} {x : Addr} {v : Value} (h : w.cell? x = some v) : ∃ b o, x = ⟨b, o, none⟩ := by
  obtain ⟨b, o, sp⟩ := x
  cases sp with
  | none => exact ⟨b, o, rfl⟩
  | some k =>
    unfold World.cell? at h
    simp at h
    split at h <;> simp at h
section
open Go.ChangeShapes Go.WideShapes
variable {H : Type} {enc : TypeId × Value → H} {P : Program} {w : World} {base : Nat} {held : Bool}
/-- What is below a struct's cell: it is trodden, and what it weighs the struct weighs. -/
theorem scAt_sub (n : Nat) : ∀ {t : TypeId} {off m : Nat} {cs : List Value} {x : DataW H × List MemPlace} {l : List (Nat × Sc)}, scAt P n t off = some l → DataW.trod enc P w base (fun _ => true) held m t cs = some x →
    ∀ i t', (i, Sc.raw t') ∈ l → off ≤ i ∧ ∃ v m' y, cs[i - off]? = some v ∧ DataW.trod enc P w base (fun _ => true) held m' t' [v] = some y ∧ ∀ k ∈ y.1.weights P t', k ∈ x.1.weights P t := by
  induction n with
  | zero => intro t off m cs x l h; simp [scAt] at h
  | succ n ih =>
    intro t off m cs x l h ht i t' his
    unfold scAt at h
    split at h
    case h_8 fs hu =>
      obtain ⟨xs, m', _, rfl, hlen, hxl, hf⟩ := DataW.trod_struct hu ht
      obtain ⟨ls, hls, rfl⟩ := Option.map_eq_some_iff.1 h
      obtain ⟨l', hl', hin⟩ := List.mem_flatten.1 his
      obtain ⟨j, hj⟩ := List.getElem?_of_mem hl'
      have hlsl := mapM_some_length hls
      have hjl : j < fs.toList.length := by rw [← hlsl]; exact (List.getElem?_eq_some_iff.1 hj).1
      have hfj : fs.toList[j]? = some fs.toList[j] := List.getElem?_eq_getElem hjl
      have h1 := (mapM_some_get hls j _ hfj).trans hj
      have h2 := hf j _ ((Array.getElem?_toList (xs := fs) (i := j)).symm.trans hfj)
      have hxj : xs[j]? = some (xs[j]'(by rw [hxl]; simpa using hjl)) := List.getElem?_eq_getElem _
      obtain ⟨ho, v, m2, y, hv, hty, hwt⟩ := ih h1 (h2.trans hxj) i t' hin
      refine ⟨by omega, v, m2, y, ?_, hty, fun k hk => ?_⟩
      · rw [List.getElem?_take] at hv
        split at hv
        · rw [List.getElem?_drop] at hv
          rwa [show fs.toList[j].offset + (i - (off + fs.toList[j].offset)) = i - off by omega] at hv
        · simp at hv
      · simp only [DataW.weights, hu]
        exact DataW.weights_mem_each (j := j) (t := fs.toList[j].type) (d := (xs[j]'(by rw [hxl]; simpa using hjl)).1) (by rw [List.getElem?_map, hfj]; rfl) (by rw [List.getElem?_map, hxj]; rfl) _ (hwt k hk)
    case h_9 hu =>
      obtain rfl := by simpa using h
      obtain ⟨rfl, rfl⟩ := by simpa using his
      rcases DataW.trod_slice hu ht with ⟨rfl, _⟩ | ⟨a, len, cap, _, _, _, _, rfl, _⟩
      · exact ⟨Nat.le_refl _, _, m, x, by simp, ht, fun k hk => hk⟩
      · exact ⟨Nat.le_refl _, _, m, x, by simp, ht, fun k hk => hk⟩
    case h_10 hu =>
      obtain rfl := by simpa using h
      obtain ⟨rfl, rfl⟩ := by simpa using his
      rcases DataW.trod_pointer hu ht with ⟨rfl, _⟩ | ⟨a, _, _, _, _, rfl, _⟩
      · exact ⟨Nat.le_refl _, _, m, x, by simp, ht, fun k hk => hk⟩
      · exact ⟨Nat.le_refl _, _, m, x, by simp, ht, fun k hk => hk⟩
    all_goals (first | (simp at h; done) | ((try simp at h); (try subst h); simp at his))
theorem texts_of_trod {t e : TypeId} {v : Value} {m : Nat} {y : DataW H × List MemPlace} (ht : P.underlying t = some (.slice e)) (he : P.underlying e = some .string) (hc : P.cellsOf e = 1) (h : DataW.trod enc P w base (fun _ => true) held m t [v] = some y) :
    ∃ ts, TextsAt w v ts ∧ ∀ r ∈ ts, r.length ∈ y.1.weights P t := by
  rcases open_strings (spare := fun _ => true) ht he hc h with ⟨hcs, _⟩ | ⟨x, len, cap, ss, hcs, _, hl, hm, hlen, hx, hcell, _⟩
  · simp at hcs
    subst hcs
    exact ⟨[], TextsAt.nil w, fun r h => by cases h⟩
  · simp at hcs
    subst hcs
    simp only [if_true] at hlen
    have hlen2 : ((ss.take len).map fun s : ByteArray => s.data.toList).length = len := by simp; omega
    have hj : ∀ j (h : j < ((ss.take len).map fun s : ByteArray => s.data.toList).length), w.cell? (x.add j) = some (.string ⟨((ss.take len).map fun s : ByteArray => s.data.toList)[j].toArray⟩) := by
      intro j h
      have hjz : j < ss.length := by omega
      have h1 := hcell j hjz
      have hg : ss.getD j ByteArray.empty = ss[j] := by simp [hjz]
      rw [h1, hg, List.getElem_map, List.getElem_take]
    refine ⟨(ss.take len).map fun s : ByteArray => s.data.toList, ⟨some x, cap, by rw [hlen2], by rw [hlen2]; exact hl, hm, fun h => (by cases h), fun h0 => ?_⟩, fun r hr => ?_⟩
    · have h1 := hj 0 h0
      have e0 : x.add 0 = x := rfl
      rw [e0] at h1
      obtain ⟨b, o, rfl⟩ := spot_noneT h1
      refine ⟨b, o, rfl, cell_lt h1, fun j h => ?_⟩
      have h2 := hj j h
      rwa [Addr.add_lit] at h2
    · obtain ⟨s, hs, rfl⟩ := List.mem_map.1 hr
      rw [hx]
      obtain ⟨j, hj, rfl⟩ := List.getElem_of_mem hs
      simp only [DataW.weights, ht, List.mem_cons, List.mem_append]
      refine .inr (.inl (weights_mem_all (j := j) (d := .lit (.string (ss.take len)[j].data.toList)) ?_ _ (by simp [DataW.weights])))
      show (List.map (fun s : ByteArray => (.lit (.string s.data.toList) : DataW H)) (ss.take len))[j]? = _
      rw [List.getElem?_map, List.getElem?_eq_getElem hj]
      rfl
/-- The texts of a struct that came in. -/
theorem texts_of_flat {t t' e : TypeId} {cs : List Value} {d : DataW H} {p : List MemPlace} (ss : List Sc) (hsc : scAt P 8 t 0 = some (numbered 0 ss)) (i : Nat) (hi : ss[i]? = some (.raw t'))
    (ht : P.underlying t' = some (.slice e)) (he : P.underlying e = some .string) (hc : P.cellsOf e = 1) (h : DataW.Trod enc P w base (fun _ => true) held t (.agg ⟨cs⟩) d p) :
    ∃ v ts, cs[i]? = some v ∧ TextsAt w v ts ∧ ∀ r ∈ ts, r.length ∈ d.weights P t := by
  obtain ⟨fuel, hf⟩ := h
  obtain ⟨_, v, m, y, hv, hty, hwt⟩ := scAt_sub 8 hsc (by simpa [Value.cells] using hf) (0 + i) t' (numbered_mem ss 0 i _ hi)
  obtain ⟨ts, hts, hsz⟩ := texts_of_trod ht he hc hty
  exact ⟨v, ts, by simpa using hv, hts, fun r hr => hwt _ (hsz r hr)⟩
end
end Go.Proofs.YtienlhnbmobinaaGreat
end

section
/-
  DERIVED: THE SHELF's CONTRACTS AT THIS DUMP, IN PLAIN WORDS (tools/lay-plain.mjs out of 'TryzShelf.lean', which tools/lay-shelf.mjs wrote): THE SAME DECLARATIONS UNDER THE SAME NAMES: 'import', 'namespace', 'open', 'def', 'theorem' AND NOTHING ELSE: no command of the shelf's: FOR A HAND-IN. Each laying: the table of numbers ('.._ren') and one theorem, a field a fact of the dump's own or the kernel's comparison; each contract: ONE APPLICATION.
-/
namespace Go.Proofs
open Go.Shelf
def Tryz.lays105_ren : Go.Shelf.Ren := ⟨fun | 105 => 92 | 212 => 107 | 99 => 108 | 165 => 109 | 166 => 110 | 170 => 111 | 169 => 112 | 263 => 117 | 264 => 118 | 206 => 119 | 240 => 120 | 241 => 121 | 276 => 122 | 277 => 123 | n => n, fun | 9 => 9 | 3 => 3 | 4 => 4 | 20 => 20 | 0 => 0 | 46 => 113 | 109 => 145 | 5 => 5 | 72 => 150 | 76 => 154 | 51 => 22 | 146 => 162 | 53 => 23 | 148 => 164 | 70 => 148 | 37 => 88 | 75 => 153 | 127 => 139 | 164 => 166 | 80 => 120 | n => n, fun | n => n⟩
theorem Tryz.lays105 : Go.Proofs.Lays.n105 Tryz.prog Tryz.lays105_ren := {
  mixed := by kernel_rfl
  f99 := Tryz.func108.trans (congrArg some (by kernel_rfl))
  f105 := Tryz.func92.trans (congrArg some (by kernel_rfl))
  f165 := Tryz.func109.trans (congrArg some (by kernel_rfl))
  f166 := Tryz.func110.trans (congrArg some (by kernel_rfl))
  f169 := Tryz.func112.trans (congrArg some (by kernel_rfl))
  f170 := Tryz.func111.trans (congrArg some (by kernel_rfl))
  f206 := Tryz.func119.trans (congrArg some (by kernel_rfl))
  f212 := Tryz.func107.trans (congrArg some (by kernel_rfl))
  f240 := Tryz.func120.trans (congrArg some (by kernel_rfl))
  f241 := Tryz.func121.trans (congrArg some (by kernel_rfl))
  f263 := Tryz.func117.trans (congrArg some (by kernel_rfl))
  f264 := Tryz.func118.trans (congrArg some (by kernel_rfl))
  f276 := Tryz.func122.trans (congrArg some (by kernel_rfl))
  f277 := Tryz.func123.trans (congrArg some (by kernel_rfl))
  t0 := Tryz.underlying0
  a0 := Tryz.isAgg0
  z0 := Tryz.sizeOf0
  v0 := Tryz.zeroValue0
  t3 := Tryz.underlying3
  a3 := Tryz.isAgg3
  z3 := Tryz.sizeOf3
  v3 := Tryz.zeroValue3
  t4 := Tryz.underlying4
  a4 := Tryz.isAgg4
  z4 := Tryz.sizeOf4
  v4 := Tryz.zeroValue4
  t5 := Tryz.underlying5
  a5 := Tryz.isAgg5
  z5 := Tryz.sizeOf5
  v5 := Tryz.zeroValue5
  t9 := Tryz.underlying9
  a9 := Tryz.isAgg9
  z9 := Tryz.sizeOf9
  v9 := Tryz.zeroValue9
  t20 := Tryz.underlying20
  a20 := Tryz.isAgg20
  z20 := Tryz.sizeOf20
  v20 := Tryz.zeroValue20
  t37 := Tryz.underlying88
  a37 := Tryz.isAgg88
  z37 := Tryz.sizeOf88
  v37 := Tryz.zeroValue88
  t46 := Tryz.underlying113
  a46 := Tryz.isAgg113
  z46 := Tryz.sizeOf113
  v46 := Tryz.zeroValue113
  t51 := Tryz.underlying22
  a51 := Tryz.isAgg22
  z51 := Tryz.sizeOf22
  v51 := Tryz.zeroValue22
  t53 := Tryz.underlying23
  a53 := Tryz.isAgg23
  z53 := Tryz.sizeOf23
  v53 := Tryz.zeroValue23
  t70 := Tryz.underlying148
  a70 := Tryz.isAgg148
  z70 := Tryz.sizeOf148
  v70 := Tryz.zeroValue148
  t72 := Tryz.underlying150
  a72 := Tryz.isAgg150
  z72 := Tryz.sizeOf150
  v72 := Tryz.zeroValue150
  t75 := Tryz.underlying153
  a75 := Tryz.isAgg153
  z75 := Tryz.sizeOf153
  v75 := Tryz.zeroValue153
  t76 := Tryz.underlying154
  a76 := Tryz.isAgg154
  z76 := Tryz.sizeOf154
  v76 := Tryz.zeroValue154
  t109 := Tryz.underlying145
  a109 := Tryz.isAgg145
  z109 := Tryz.sizeOf145
  v109 := Tryz.zeroValue145
  t127 := Tryz.underlying139
  a127 := Tryz.isAgg139
  z127 := Tryz.sizeOf139
  v127 := Tryz.zeroValue139
  t146 := Tryz.underlying162
  a146 := Tryz.isAgg162
  z146 := Tryz.sizeOf162
  v146 := Tryz.zeroValue162
  t148 := Tryz.underlying164
  a148 := Tryz.isAgg164
  z148 := Tryz.sizeOf164
  v148 := Tryz.zeroValue164
  t164 := Tryz.underlying166
  a164 := Tryz.isAgg166
  z164 := Tryz.sizeOf166
  v164 := Tryz.zeroValue166 }
theorem Tryz.Builder_Extra_105 : Builder.Extra Tryz.prog Tryz.lays105_ren := {
  sizeBuilder := by kernel_rfl
  liesBuilder := by kernel_rfl
  t5 := Tryz.underlying5
  a5 := Tryz.isAgg5
  z5 := Tryz.sizeOf5
  v5 := Tryz.zeroValue5
  infoByte := by kernel_rfl
  cellsByte := by kernel_rfl
  sizeByte := by kernel_rfl
  neB5 := by decide }
open Go.RowKit Go.Lib in
/-- **strings.Repeat: count ≥ 0, the result within one allocation: count copies of s.** (LAID: no walk: one application.) -/
theorem Tryz.strings_Repeat (s : ByteArray) (c : Nat) (w : World) (hc : c ≤ 9223372036854775807) (hlen : s.size * c ≤ 140737488355328) :
    Calls Tryz.prog 92 #[.string s, .int .i64 c] w fun e w' => e = .returned (.string ⟨(Lib.repeatL s.data.toList c).toArray⟩) ∧ Below w.heap.size w w' := Any.strings_Repeat Tryz.lays105 Tryz.Builder_Extra_105 s c w hc hlen
def Tryz.lays193_ren : Go.Shelf.Ren := ⟨fun | 193 => 104 | n => n, fun | 31 => 24 | 9 => 9 | 4 => 4 | 3 => 3 | 0 => 0 | n => n, fun | n => n⟩
theorem Tryz.lays193 : Go.Proofs.Lays.n193 Tryz.prog Tryz.lays193_ren := {
  mixed := by kernel_rfl
  f193 := Tryz.func104.trans (congrArg some (by kernel_rfl))
  t0 := Tryz.underlying0
  a0 := Tryz.isAgg0
  z0 := Tryz.sizeOf0
  v0 := Tryz.zeroValue0
  t3 := Tryz.underlying3
  a3 := Tryz.isAgg3
  z3 := Tryz.sizeOf3
  v3 := Tryz.zeroValue3
  t4 := Tryz.underlying4
  a4 := Tryz.isAgg4
  z4 := Tryz.sizeOf4
  v4 := Tryz.zeroValue4
  t9 := Tryz.underlying9
  a9 := Tryz.isAgg9
  z9 := Tryz.sizeOf9
  v9 := Tryz.zeroValue9
  t31 := Tryz.underlying24
  a31 := Tryz.isAgg24
  z31 := Tryz.sizeOf24
  v31 := Tryz.zeroValue24 }
open Go.RowKit Go.Lib in
/-- slices.Equal at []string: "Equal reports whether two slices are equal: the same length and all elements equal. If the lengths are different, Equal returns false. Otherwise, the elements are compared in increasing index order, and the comparison stops at the first unequal pair. Empty and nil slices are considered equal.": IT RETURNS WHETHER THE TWO LISTS OF ELEMENTS ARE ONE; the world is as it was but for the count of draws (the test 's1[i] != s2[i]' has two reads, whose order the model draws, once a round). 'xs', 'ys': what the cells behind the two addresses hold (the spare capacity too, if you have it); 'xs.take n', 'ys.take m': the elements. THE TWO SLICES MAY OVERLAP. (LAID: no walk: one application.) -/
theorem Tryz.slices_Equal_string (b1 o1 n c b2 o2 m d : Nat) (xs ys : List ByteArray) (w : World) (hx : n ≤ xs.length) (hy : m ≤ ys.length) (hbig : n ≤ 9223372036854775807) (hbig2 : m ≤ 9223372036854775807) (hc1 : ∀ j, j < xs.length → w.cell? ⟨b1, o1 + j, none⟩ = some (.string (xs.getD j ByteArray.empty))) (hc2 : ∀ j, j < ys.length → w.cell? ⟨b2, o2 + j, none⟩ = some (.string (ys.getD j ByteArray.empty))) :
    Calls Tryz.prog 104 #[.slice (some ⟨b1, o1, none⟩) n c, .slice (some ⟨b2, o2, none⟩) m d] w fun e w' => e = .returned (.bool (decide (xs.take n = ys.take m))) ∧ ∃ q, w' = w.drewN q := Any.slices_Equal_string Tryz.lays193 b1 o1 n c b2 o2 m d xs ys w hx hy hbig hbig2 hc1 hc2
open Go.RowKit Go.Lib in
/-- The same where the first is of length 0 (a nil one too): no cell is asked for. (LAID: no walk: one application.) -/
theorem Tryz.slices_Equal_string_empty (a1 a2 : Option Addr) (c m d : Nat) (w : World) (hbig2 : m ≤ 9223372036854775807) :
    Calls Tryz.prog 104 #[.slice a1 0 c, .slice a2 m d] w fun e w' => e = .returned (.bool (decide (m = 0))) ∧ w' = w := Any.slices_Equal_string_empty Tryz.lays193 a1 a2 c m d w hbig2
def Tryz.laysNm224_ren : Go.Shelf.Ren := ⟨fun | 24 => 66 | n => n, fun | 24 => 24 | 9 => 9 | 3 => 3 | 4 => 4 | 0 => 0 | n => n, fun | n => n⟩
theorem Tryz.laysNm224 : Go.Proofs.Lays2.n24 Tryz.prog Tryz.laysNm224_ren := {
  mixed := by kernel_rfl
  f24 := Tryz.func66.trans (congrArg some (by kernel_rfl))
  t0 := Tryz.underlying0
  a0 := Tryz.isAgg0
  z0 := Tryz.sizeOf0
  v0 := Tryz.zeroValue0
  t3 := Tryz.underlying3
  a3 := Tryz.isAgg3
  z3 := Tryz.sizeOf3
  v3 := Tryz.zeroValue3
  t4 := Tryz.underlying4
  a4 := Tryz.isAgg4
  z4 := Tryz.sizeOf4
  v4 := Tryz.zeroValue4
  t9 := Tryz.underlying9
  a9 := Tryz.isAgg9
  z9 := Tryz.sizeOf9
  v9 := Tryz.zeroValue9
  t24 := Tryz.underlying24
  a24 := Tryz.isAgg24
  z24 := Tryz.sizeOf24
  v24 := Tryz.zeroValue24
  i9 := by kernel_rfl }
open Go.RowKit Go.Lib Go.Sort in
/-- slices.Delete at []string, of an argument, for i ≤ j ≤ n. (LAID: no walk: one application.) -/
theorem Tryz.slices_Delete_string_cells (b off n c i j : Nat) (Sx : Nat → ByteArray) (w : World) (hcap : n ≤ c) (hm : c ≤ 9223372036854775807) (hij : i ≤ j) (hj : j ≤ n) (hc : ∀ i, i < n → w.cell? ⟨b, off + i, none⟩ = some (.string (Sx i))) (hf : ∀ j, j < n → w.frozen? ⟨b, off + j, none⟩ = false) :
    Calls Tryz.prog 66 #[.slice (some ⟨b, off, none⟩) n c, .int .i64 i, .int .i64 j] w fun e w' => e = .returned (.slice (some ⟨b, off, none⟩) (n - (j - i)) c) ∧ ∃ q, w' = (w.drewN q).setCells b off (((Lib.strsOf Sx n).take i ++ (Lib.strsOf Sx n).drop j ++ List.replicate (j - i) []).map encStr) := Any.slices_Delete_string_cells Tryz.laysNm224 b off n c i j Sx w hcap hm hij hj hc hf
open Go.RowKit Go.Lib in
theorem Tryz.slices_Equal_string_lens (a1 a2 : Option Addr) (n c m d : Nat) (w : World) (hnm : n ≠ m) :
    Calls Tryz.prog 104 #[.slice a1 n c, .slice a2 m d] w fun e w' => e = .returned (.bool false) ∧ w' = w := Any.slices_Equal_string_lens Tryz.lays193 a1 a2 n c m d w hnm
end Go.Proofs
end
