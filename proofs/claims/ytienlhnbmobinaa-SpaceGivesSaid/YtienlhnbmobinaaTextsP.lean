/- Slices of texts that can be read; a page's value.; maps from small numbers to held values (functions); pages in blocks; pages in blocks, as results; chapter 06: which pages may be; chapter 06: which pages may be, by the document; chapter 06: a page is the same as itself -/
import Derived.Test.YtienlhnbmobinaaRows
import Derived.Test.YtienlhnbmobinaaPlains
import Derived.Test.YtienlhnbmobinaaBase
import Derived.WalkKit
import Derived.WalkLawsBesides
import Derived.WalkSpells
import Derived.LoopTactic
import Derived.WalkMore
import Derived.LoopN
import Derived.Laws.BitsAllLaws
import Derived.Laws.IdiomStrings
import Derived.BigQuiet
import Derived.Deep.QuietTactic
import Derived.Deep.DeepCutAuto
import Derived.Deep.RegionHeld3
import Derived.Deep.DrawnRows
import Derived.Lib.Hide
import Derived.Outline
import Derived.Deep.DeepMust
import Derived.Handy
import Derived.Maps.RangeWalk
import Derived.Maps.OwnSet
namespace Go.Proofs.Ytienlhnbmobinaa
open Go.RowKit
set_option linter.unusedVariables false
set_option linter.unusedSimpArgs false

/-- A slice of texts that can be read. -/
def TextsAt (w : World) (sv : Value) (ts : List (List UInt8)) : Prop :=
  ∃ A cp, sv = .slice A ts.length cp ∧ ts.length ≤ cp ∧ cp ≤ maxLen ∧ (A = none → ts = [] ∧ cp = 0) ∧ (0 < ts.length → ∃ b o, A = some ⟨b, o, none⟩ ∧ b < w.heap.size ∧ ∀ j (h : j < ts.length), w.cell? ⟨b, o + j, none⟩ = some (.string ⟨ts[j].toArray⟩))
theorem TextsAt.below {w w' : World} {sv : Value} {ts : List (List UInt8)} (h : TextsAt w sv ts) (hb : Below w.heap.size w w') : TextsAt w' sv ts := by
  obtain ⟨A, cp, h1, h2, h3, h4, h5⟩ := h
  refine ⟨A, cp, h1, h2, h3, h4, fun h0 => ?_⟩
  obtain ⟨b, o, h6, h7, h8⟩ := h5 h0
  exact ⟨b, o, h6, Nat.lt_of_lt_of_le h7 hb.size, fun j hj => keep_cell hb (h8 j hj)⟩
theorem TextsAt.nil (w : World) : TextsAt w (.slice none 0 0) [] := ⟨none, 0, rfl, Nat.le_refl _, Nat.zero_le _, fun _ => ⟨rfl, rfl⟩, fun h => absurd h (Nat.lt_irrefl 0)⟩
theorem strs_length (ts : List (List UInt8)) : (strs ts).length = ts.length := by simp [strs]
theorem strs_get (ts : List (List UInt8)) (j : Nat) (h : j < ts.length) : (strs ts)[j]? = some (.string ⟨ts[j].toArray⟩) := by
  unfold strs
  rw [List.getElem?_map, List.getElem?_eq_getElem h]
  rfl
theorem strs_append (a b : List (List UInt8)) : strs (a ++ b) = strs a ++ strs b := by simp [strs]
theorem texts_own {w : World} {base n : Nat} {v : Value} {ts : List (List UInt8)} (h : w.ownsRow base 9 1 v n (strs ts)) : TextsAt w v ts ∧ ts.length = n := by
  have hl : ts.length = n := by have := h.1; simpa [strs] using this
  refine ⟨?_, hl⟩
  subst hl
  rcases h.2 with ⟨rfl, h0⟩ | ⟨g, cap, cur, rfl, hb, hg, h1, h2, _⟩
  · exact ⟨none, 0, by rw [h0], by omega, Nat.zero_le _, fun _ => ⟨List.eq_nil_of_length_eq_zero h0, rfl⟩, fun h => by omega⟩
  · refine ⟨_, cap, rfl, h1, h2, fun h => by (cases h), fun _ => ⟨g, 0, rfl, blk_lt hg, fun j hj => ?_⟩⟩
    rw [Nat.zero_add]
    exact own_cell h j _ (strs_get ts j hj)
theorem TextsAt.reads {w : World} {sv : Value} {ts : List (List UInt8)} (h : TextsAt w sv ts) : Reads w sv ts.length 1 (strs ts) := by
  obtain ⟨A, cp, rfl, h2, h3, h4, h5⟩ := h
  rcases Nat.eq_zero_or_pos ts.length with h0 | h0
  · obtain rfl := List.eq_nil_of_length_eq_zero h0
    cases A with
    | none => obtain ⟨_, rfl⟩ := h4 rfl; exact .inl ⟨rfl, rfl, rfl⟩
    | some a => exact .inr ⟨a, cp, rfl, rfl, fun j u hu => by simp [strs] at hu⟩
  · obtain ⟨b, o, rfl, _, hc⟩ := h5 h0
    refine .inr ⟨_, cp, rfl, by simp [strs], fun j u hu => ?_⟩
    have hj : j < ts.length := by
      have := (List.getElem?_eq_some_iff.1 hu).1
      simpa [strs] using this
    rw [strs_get ts j hj] at hu
    injection hu with hu
    rw [← hu, Addr.add_lit]
    exact hc j hj
/-- The first texts of a slice. -/
theorem TextsAt.take {w : World} {A : Option Addr} {n cp : Nat} {ts : List (List UInt8)} (h : TextsAt w (.slice A n cp) ts) (k c : Nat) (hk : k ≤ n) (hc : k ≤ c) (hcp : c ≤ cp) : TextsAt w (.slice A k c) (ts.take k) := by
  obtain ⟨A', cp', e, h2, h3, h4, h5⟩ := h
  injection e with e1 e2 e3
  subst e1; subst e3
  have hl : (ts.take k).length = k := by simp; omega
  refine ⟨A, c, by rw [hl], by omega, Nat.le_trans hcp h3, fun h => ?_, fun h0 => ?_⟩
  · obtain ⟨rfl, rfl⟩ := h4 h
    exact ⟨by simp, by omega⟩
  · obtain ⟨b, o, h6, h7, h8⟩ := h5 (by omega)
    exact ⟨b, o, h6, h7, fun j hj => by rw [h8 j (by omega), List.getElem_take]⟩
/-- A page's value. -/
def pgV (p : Pg) (sv : Value) : Value := .agg #[.int .u8 p.kind, .int .u8 p.level, .int .u32 p.id, .int .u64 p.lsn, .int .u32 p.next, sv]
/-- A page's numbers are in range. -/
def Pg.wf (p : Pg) : Prop := p.kind < 256 ∧ p.level < 256 ∧ p.id < 256 ^ 4 ∧ p.lsn < 256 ^ 8 ∧ p.next < 256 ^ 4

end Go.Proofs.Ytienlhnbmobinaa

namespace Go.Proofs.Ytienlhnbmobinaa
open Go.RowKit
set_option linter.unusedVariables false
set_option linter.unusedSimpArgs false

open Go.Maps
/-- Held values. -/
def heldF : Value → Option (DataW Value × List MemPlace) := fun v => some (.held v, [])
/-- What a map is to a list of keys and values. -/
structure FnD (D : DataW Value) (L : List (Nat × Value)) : Prop where
  has : ∀ k : Nat, Maps.has D (.int .u8 (k : Nat)) = (L.lookup k).isSome
  val : ∀ (k : Nat) (x : Value), L.lookup k = some x → ∀ z, D.atKey (.int .u8 (k : Nat)) z = .held x
  size : Maps.size D = L.length
theorem u8_key (k : Int) : WideAt.IsKeyLit (.int .u8 k) := trivial
theorem u8_ne {k j : Nat} (h : k ≠ j) : (Lit.int .u8 (k : Nat)) ≠ .int .u8 (j : Nat) := fun e => h (by injection e with _ e; omega)
theorem FnD.empty : FnD (.map []) [] := ⟨fun k => rfl, fun k t h => (by cases h), rfl⟩
theorem FnD.put {D : DataW Value} {L : List (Nat × Value)} (h : FnD D L) (hD : Tidy D) (k : Nat) (x : Value) (hk : L.lookup k = none) : FnD (D.put (.int .u8 (k : Nat)) (.held x)) ((k, x) :: L) := by
  refine ⟨fun j => ?_, fun j s hs z => ?_, ?_⟩
  · by_cases hj : j = k
    · subst hj
      rw [has_put_same hD.isMap (u8_key _)]
      simp
    · rw [has_put_other (u8_ne hj), h.has j]
      have hb : (j == k) = false := by simpa using hj
      rw [List.lookup_cons, hb]
  · by_cases hj : j = k
    · subst hj
      simp at hs
      subst hs
      exact atKey_put_same hD.isMap (u8_key _) _ _
    · rw [atKey_put_other (u8_ne hj)]
      refine h.val j s ?_ z
      have hb : (j == k) = false := by simpa using hj
      rwa [List.lookup_cons, hb] at hs
  · rw [size_put hD, h.has, h.size, hk]
    rfl
theorem u8_keyed : Maps.Keyed Try.prog 5 := Go.Maps.int_keyed Try.underlying5
theorem u8_keyOf {k : Nat} (h : k < 256) : keyOf Try.prog 5 (.int .u8 (k : Nat)) = some (.int .u8 (k : Nat)) :=
  Go.Maps.keyOf_int_mk Try.underlying5 (by unfold Lit.wf; simp [IntKind.min, IntKind.max, IntKind.bits, IntKind.signed]; omega)
/-- A map of held values by small numbers, in memory. -/
def FnAt (w : World) (m : Nat) (L : List (Nat × Value)) : Prop := ∃ D, w.ownsMap Try.prog 5 heldF m L.length D ∧ FnD D L
theorem FnAt.new (w : World) : FnAt (w.alloc (.map #[] 0)) w.heap.size [] := ⟨_, World.ownsMap_made (H := Value) w Try.prog 5 heldF, FnD.empty⟩
section
variable {w w' : World} {m : Nat} {L : List (Nat × Value)}
theorem FnAt.lt (h : FnAt w m L) : m < w.heap.size := by
  obtain ⟨D, ho, hD⟩ := h
  exact ho.lt
theorem FnAt.below (h : FnAt w m L) (hb : Below w.heap.size w w') : FnAt w' m L := by
  have hlt := h.lt
  obtain ⟨D, ho, hD⟩ := h
  obtain ⟨es, c, hbk, hr⟩ := ho
  exact ⟨D, ⟨es, c, (hb.block m hlt).trans hbk, hr⟩, hD⟩
set_option maxRecDepth 100000 in
theorem FnAt.put (h : FnAt w m L) {t e : TypeId} (ht : Try.prog.underlying t = some (.map 5 e)) (k : Nat) (x : Value) (hk : k < 256) (hn : L.lookup k = none) (hl : L.length < 100) :
    ∃ w', (Instr.mapUpdate t (.map (some m)) (.int .u8 (k : Nat)) x).run Try.prog w = .ok () w' ∧ w.grownBy w' (some m) ∧ FnAt w' m ((k, x) :: L) := by
  obtain ⟨D, ho, hD⟩ := h
  obtain ⟨w', hrun, ho', hg⟩ := ho.update u8_keyed ht (by unfold maxLen; omega) (u8_keyOf hk) (d := .held x) (ps := []) (val := x) rfl
  exact ⟨w', hrun, hg, _, ho', hD.put (ho.tidy u8_keyed) k x hn⟩
set_option maxRecDepth 100000 in
theorem FnAt.look (h : FnAt w m L) {t e : TypeId} (ht : Try.prog.underlying t = some (.map 5 e)) {z : Value} (hz : (zeroValue e).run Try.prog w = .ok z w) {k : Nat} {x : Value} (hk : k < 256) (he : L.lookup k = some x) :
    (Instr.lookup t (.map (some m)) (.int .u8 (k : Nat)) true).run Try.prog w = .ok (.tuple #[x, .bool true]) w := by
  obtain ⟨D, ho, hD⟩ := h
  obtain ⟨v, ps, hrun, hv⟩ := ho.look_ok u8_keyed ht hz (zd := .held z) (zp := []) rfl (u8_keyOf hk)
  rw [hrun, hD.has, he]
  rw [hD.val k x he] at hv
  injection hv with hv
  injection hv with hv _
  injection hv with hv
  rw [hv]
  rfl
set_option maxRecDepth 100000 in
theorem FnAt.lookN (h : FnAt w m L) {t e : TypeId} (ht : Try.prog.underlying t = some (.map 5 e)) {z : Value} (hz : (zeroValue e).run Try.prog w = .ok z w) {k : Nat} (hk : k < 256) (he : L.lookup k = none) :
    (Instr.lookup t (.map (some m)) (.int .u8 (k : Nat)) true).run Try.prog w = .ok (.tuple #[z, .bool false]) w := by
  obtain ⟨D, ho, hD⟩ := h
  obtain ⟨v, ps, hrun, hv⟩ := ho.look_ok u8_keyed ht hz (zd := .held z) (zp := []) rfl (u8_keyOf hk)
  have hh := hD.has k
  rw [he] at hh
  rw [hrun, hh]
  rw [atKey_of_not_has hh] at hv
  injection hv with hv
  injection hv with hv _
  injection hv with hv
  rw [hv]
  rfl
end

end Go.Proofs.Ytienlhnbmobinaa

namespace Go.Proofs.Ytienlhnbmobinaa
open Go.RowKit
set_option linter.unusedVariables false
set_option linter.unusedSimpArgs false

/-- A page's cells in a block. -/
def PgBox (w : World) (g kind level id lsn next : Nat) (sv : Value) : Prop := w.heap[g]? = some (.cells #[.int .u8 kind, .int .u8 level, .int .u32 id, .int .u64 lsn, .int .u32 next, sv] 26 (0, 0))
theorem PgBox.new (w : World) (kind level id lsn next : Nat) (sv : Value) : PgBox (w.alloc (.cells #[.int .u8 kind, .int .u8 level, .int .u32 id, .int .u64 lsn, .int .u32 next, sv] 26)) w.heap.size kind level id lsn next sv := heap_alloc_new w _
section
variable {w w' : World} {g kind level id lsn next : Nat} {sv : Value}
theorem PgBox.below (h : PgBox w g kind level id lsn next sv) (hb : Below w.heap.size w w') : PgBox w' g kind level id lsn next sv := (hb.block _ (blk_lt h)).trans h
theorem PgBox.lt (h : PgBox w g kind level id lsn next sv) : g < w.heap.size := blk_lt h
theorem PgBox.cells (h : PgBox w g kind level id lsn next sv) : g < w.heap.size ∧ w.cell? ⟨g, 0, none⟩ = some (.int .u8 kind) ∧ w.cell? ⟨g, 1, none⟩ = some (.int .u8 level) ∧ w.cell? ⟨g, 2, none⟩ = some (.int .u32 id) ∧ w.cell? ⟨g, 3, none⟩ = some (.int .u64 lsn) ∧ w.cell? ⟨g, 4, none⟩ = some (.int .u32 next) ∧ w.cell? ⟨g, 5, none⟩ = some sv := by
  unfold PgBox at h
  exact ⟨blk_lt h, by rw [blk_cell h]; rfl, by rw [blk_cell h]; rfl, by rw [blk_cell h]; rfl, by rw [blk_cell h]; rfl, by rw [blk_cell h]; rfl, by rw [blk_cell h]; rfl⟩
end
theorem alloc_below (w : World) (o : Obj) : Below w.heap.size w (w.alloc o) := (Below.refl _ _).alloc (Nat.le_refl _) _

end Go.Proofs.Ytienlhnbmobinaa

namespace Go.Proofs.Ytienlhnbmobinaa
open Go.RowKit
set_option linter.unusedVariables false
set_option linter.unusedSimpArgs false

/-- A page stored into a block. -/
def setPg (W : World) (g kind level id lsn next : Nat) (sv : Value) : World := (((((W.setCell ⟨g, 0, none⟩ (.int .u8 kind)).setCell ⟨g, 1, none⟩ (.int .u8 level)).setCell ⟨g, 2, none⟩ (.int .u32 id)).setCell ⟨g, 3, none⟩ (.int .u64 lsn)).setCell ⟨g, 4, none⟩ (.int .u32 next)).setCell ⟨g, 5, none⟩ sv
section
variable {w w' : World} {g kind level id lsn next : Nat} {sv : Value}
theorem PgBox.put (h : PgBox w g kind level id lsn next sv) (kind' level' id' lsn' next' : Nat) (sv' : Value) : PgBox (setPg w g kind' level' id' lsn' next' sv') g kind' level' id' lsn' next' sv' := by
  unfold setPg PgBox at *
  have h0 := blk_set h 0 (.int .u8 kind')
  have h1 := blk_set h0 1 (.int .u8 level')
  have h2 := blk_set h1 2 (.int .u32 id')
  have h3 := blk_set h2 3 (.int .u64 lsn')
  have h4 := blk_set h3 4 (.int .u32 next')
  have h5 := blk_set h4 5 sv'
  simpa using h5
theorem own_set_far {base n size g i : Nat} {u : Value} {e : TypeId} {v : Value} {xs : List Value} (h : w.ownsRow base e size v n xs) (hf : ∀ k, v.ownBlock = some k → k ≠ g) : (w.setCell ⟨g, i, none⟩ u).ownsRow base e size v n xs := by
  refine h.kept (row := some g) (grown_set (grown_refl _ _)) ?_
  cases hv : v.ownBlock with
  | none => exact .inl rfl
  | some k => exact .inr (by have := hf k hv; simp; omega)
theorem one_kept (w : World) (g i : Nat) (u : Value) : OthersKept w (w.setCell ⟨g, i, none⟩ u) (fun k => k = g) := OthersKept.of_grown (g := g) (grown_set (grown_refl _ _)) rfl
theorem setPg_kept (w : World) (g kind level id lsn next : Nat) (sv : Value) : OthersKept w (setPg w g kind level id lsn next sv) (fun k => k = g) := by
  unfold setPg
  exact (((((one_kept w g 0 _).trans (one_kept _ g 1 _) (fun _ _ h => h)).trans (one_kept _ g 2 _) (fun _ _ h => h)).trans (one_kept _ g 3 _) (fun _ _ h => h)).trans (one_kept _ g 4 _) (fun _ _ h => h)).trans (one_kept _ g 5 _) (fun _ _ h => h)
theorem PgBox.set5 (h : PgBox w g kind level id lsn next sv) (sv' : Value) : PgBox (w.setCell ⟨g, 5, none⟩ sv') g kind level id lsn next sv' := by
  unfold PgBox at *
  have h5 := blk_set h 5 sv'
  simpa using h5
theorem PgBox.set4 (h : PgBox w g kind level id lsn next sv) (next' : Nat) : PgBox (w.setCell ⟨g, 4, none⟩ (.int .u32 next')) g kind level id lsn next' sv := by
  unfold PgBox at *
  have h5 := blk_set h 4 (.int .u32 next')
  simpa using h5
theorem PgBox.set3 (h : PgBox w g kind level id lsn next sv) (lsn' : Nat) : PgBox (w.setCell ⟨g, 3, none⟩ (.int .u64 lsn')) g kind level id lsn' next sv := by
  unfold PgBox at *
  have h5 := blk_set h 3 (.int .u64 lsn')
  simpa using h5
theorem PgBox.keep (h : PgBox w g kind level id lsn next sv) (o : Obj) : PgBox (w.alloc o) g kind level id lsn next sv := heap_keep h
theorem PgBox.grown {r : Option Nat} (h : PgBox w g kind level id lsn next sv) (hg : w.grownBy w' r) (hne : some g ≠ r) : PgBox w' g kind level id lsn next sv := (hg.block g h.lt hne).trans h
theorem PgBox.kept {q : Nat → Prop} (h : PgBox w g kind level id lsn next sv) (hk : OthersKept w w' q) (hq : ¬ q g) : PgBox w' g kind level id lsn next sv := hk.heap h hq
theorem PgBox.frozen (h : PgBox w g kind level id lsn next sv) (i : Nat) : w.frozen? ⟨g, i, none⟩ = false := blk_frozen h i
theorem PgBox.fr (h : PgBox w g kind level id lsn next sv) : w.frozen? ⟨g, 0, none⟩ = false ∧ w.frozen? ⟨g, 1, none⟩ = false ∧ w.frozen? ⟨g, 2, none⟩ = false ∧ w.frozen? ⟨g, 3, none⟩ = false ∧ w.frozen? ⟨g, 4, none⟩ = false ∧ w.frozen? ⟨g, 5, none⟩ = false :=
  ⟨h.frozen _, h.frozen _, h.frozen _, h.frozen _, h.frozen _, h.frozen _⟩
end
/-- Texts that stand in a row of blocks that were not touched. -/
theorem results_pg {fn : Func} {p u : Tmp} (h : fn.results = #[.cell p 26, .tmp u]) (tmps : Array Value) (w : World) {g kind level id lsn next : Nat} {sv : Value} (hp : tmps.getD p undef = .pointer (some ⟨g, 0, none⟩)) (hb : PgBox w g kind level id lsn next sv) :
    (results fn tmps).run Try.prog w = .ok (.tuple #[.agg #[.int .u8 kind, .int .u8 level, .int .u32 id, .int .u64 lsn, .int .u32 next, sv], tmps.getD u undef]) w := by
  rw [results_cell_tmp h, hp]
  simp [asAddr, run_loadVar_row w g 26 26 _ (0, 0) _ hb Try.underlying26 rfl (by kernel_rfl), Result.andThen]
/-- What a call leaves that gives a page and an error. -/
def PgPost (w : World) (R : Pg × Int) (e : Ending) (w' : World) : Prop := ∃ sv, e = .returned (.tuple #[pgV R.1 sv, .int .i64 R.2]) ∧ TextsAt w' sv R.1.rows ∧ Below w.heap.size w w'
theorem PgPost.no {w w' : World} {R : Pg × Int} {n : Int} (hR : R = (Pg.zero, n)) (hb : Below w.heap.size w w') : PgPost w R (.returned (.tuple #[.agg #[.int .u8 (0 : Nat), .int .u8 (0 : Nat), .int .u32 (0 : Nat), .int .u64 (0 : Nat), .int .u32 (0 : Nat), .slice none 0 0], .int .i64 n])) w' := by
  subst hR
  exact ⟨_, rfl, TextsAt.nil _, hb⟩

end Go.Proofs.Ytienlhnbmobinaa

namespace Go.Proofs.Ytienlhnbmobinaa
open Go.RowKit
set_option linter.unusedVariables false
set_option linter.unusedSimpArgs false

set_option maxHeartbeats 2000000 in
set_option maxRecDepth 100000 in
theorem pageMay_any (p : Pg) (sv : Value) (w : World) (hp : p.wf) (ht : TextsAt w sv p.rows) (hb : weightB p.rows ≤ 1000000) :
    Calls Try.prog 46 #[pgV p sv] w fun e w' => e = .returned (.bool p.may) ∧ Below w.heap.size w w' := by
  obtain ⟨kind, level, id, lsn, next, rows⟩ := p
  obtain ⟨A, cp, rfl, h2, h3, h4, h5⟩ := ht
  obtain ⟨p1, p2, p3, p4, p5⟩ := hp
  simp only at *
  obtain ⟨n, hn⟩ : ∃ n, n = rows.length := ⟨_, rfl⟩
  rw [← hn] at h2
  unfold pgV
  simp only [← hn]
  unfold maxLen at h3
  have hM : Hid (∀ W : Nat, W = weightB rows → (Pg.may ⟨kind, level, id, lsn, next, rows⟩ = true ↔ ((kind ≤ 5 ∧ 1 ≤ id) ∧ id ≤ 1024) ∧ next ≤ 1024 ∧ (W : Int) ≤ 484)) := by
    intro W hW
    unfold Pg.may
    rw [Bool.and_eq_true, headOk_iff, decide_eq_true_iff]
    simp only
    omega
  have H5 := Lib.hid h5
  have HN := Lib.hid hn
  clear h5 h4 hn
  generalize Pg.may ⟨kind, level, id, lsn, next, rows⟩ = b at hM ⊢
  go_enter Try.func46, Try.ntmps46
  go_wp2_with fail
  go_loopw [3, 5, 9] (fun s3 s5 s9 wr => ∃ i : Nat, s9 = .int .i64 i ∧ i ≤ n ∧ wr = w.alloc (.cells #[.int .u8 kind, .int .u8 level, .int .u32 id, .int .u64 lsn, .int .u32 next, .slice A n cp] 26) ∧ s3 = .int .i64 (484 - (weightB (rows.take i) : Nat))) (fun _ _ v _ => n - (intOf v).toNat)
  case atStart => exact ⟨0, rfl, Nat.zero_le _, rfl, rfl⟩
  case round =>
    obtain ⟨i, rfl, hi, rfl, rfl⟩ := hrel
    by_cases hc : i < n
    · have hci : (i : Int) < (n : Int) := by omega
      have hix : i < rows.length := by rw [← HN.out]; exact hc
      obtain ⟨b0, o0, rfl, hb0, hcell⟩ := H5.out (by omega)
      have c1 := (Below.cell ((Below.refl w.heap.size w).alloc (Nat.le_refl _) (.cells #[.int .u8 kind, .int .u8 level, .int .u32 id, .int .u64 lsn, .int .u32 next, .slice (some ⟨b0, o0, none⟩) n cp] 26)) (show (⟨b0, o0 + i, none⟩ : Addr).block < w.heap.size from hb0)).trans (hcell i hix)
      have q1 : (0 : Int) ≤ (i : Int) := by omega
      have hw1 := weightB_take rows i hix
      have hw2 := weightB_take_le rows (i + 1)
      obtain ⟨s, hs⟩ : ∃ s : ByteArray, s = ⟨rows[i].toArray⟩ := ⟨_, rfl⟩
      have hsz : s.size = rows[i].length := by rw [hs]; simp [ByteArray.size]
      rw [← hs] at c1
      rw [← hsz] at hw1
      have HW := Lib.hid hw1
      have q2 : weightB (rows.take i) + (4 + s.size) ≤ 1000000 := by omega
      clear hcell hs hsz hw1 hw2
      generalize weightB (rows.take i) = W at *
      go_wp2_with fail
      go_roundw
      case rel => exact ⟨i + 1, by go_num, by omega, by first | rfl | trivial, by rw [HW.out]; go_num⟩
      case measure => simp [intOf] <;> omega
    · have hci : ¬ (i : Int) < (n : Int) := by omega
      have hin : rows.take i = rows := by rw [List.take_of_length_le]; rw [← HN.out]; omega
      have hM2 := Lib.hid (hM.out (weightB (rows.take i)) (by rw [hin]))
      clear hin hM
      generalize weightB (rows.take i) = W at *
      go_wp2_with fail
      all_goals go_ret
      all_goals refine ⟨ret_bool ?_, (Below.refl _ _).alloc (Nat.le_refl _) _⟩
      all_goals
        have h := hM2.out
        rw [Bool.eq_iff_iff]
        simp only [h]
        simp
        try omega

end Go.Proofs.Ytienlhnbmobinaa

namespace Go.Proofs.Ytienlhnbmobinaa
open Go.RowKit
set_option linter.unusedVariables false
set_option linter.unusedSimpArgs false

set_option maxHeartbeats 2000000 in
set_option maxRecDepth 100000 in
theorem refLeft_any (p : Pg) (sv : Value) (w : World) (ht : TextsAt w sv p.rows) (hb : weightB p.rows ≤ 1000000) :
    Calls Try.prog 105 #[pgV p sv] w fun e w' => e = .returned (.int .i64 (484 - (weightB p.rows : Nat))) ∧ Below w.heap.size w w' := by
  obtain ⟨kind, level, id, lsn, next, rows⟩ := p
  obtain ⟨A, cp, rfl, h2, h3, h4, h5⟩ := ht
  simp only at *
  obtain ⟨n, hn⟩ : ∃ n, n = rows.length := ⟨_, rfl⟩
  rw [← hn] at h2
  unfold pgV
  simp only [← hn]
  unfold maxLen at h3
  have H5 := Lib.hid h5
  have HN := Lib.hid hn
  clear h5 h4 hn
  go_enter Try.func105, Try.ntmps105
  go_wp2_with fail
  go_loopw [3, 4] (fun s3 s4 wr => ∃ i : Nat, s4 = .int .i64 i ∧ i ≤ n ∧ wr = w.alloc (.cells #[.int .u8 kind, .int .u8 level, .int .u32 id, .int .u64 lsn, .int .u32 next, .slice A n cp] 26) ∧ s3 = .int .i64 (484 - (weightB (rows.take i) : Nat))) (fun _ v _ => n - (intOf v).toNat)
  case atStart => exact ⟨0, rfl, Nat.zero_le _, rfl, rfl⟩
  case round =>
    obtain ⟨i, rfl, hi, rfl, rfl⟩ := hrel
    by_cases hc : i < n
    · have hci : (i : Int) < (n : Int) := by omega
      have hix : i < rows.length := by rw [← HN.out]; exact hc
      obtain ⟨b0, o0, rfl, hb0, hcell⟩ := H5.out (by omega)
      have c1 := (Below.cell ((Below.refl w.heap.size w).alloc (Nat.le_refl _) (.cells #[.int .u8 kind, .int .u8 level, .int .u32 id, .int .u64 lsn, .int .u32 next, .slice (some ⟨b0, o0, none⟩) n cp] 26)) (show (⟨b0, o0 + i, none⟩ : Addr).block < w.heap.size from hb0)).trans (hcell i hix)
      have q1 : (0 : Int) ≤ (i : Int) := by omega
      have hw1 := weightB_take rows i hix
      have hw2 := weightB_take_le rows (i + 1)
      obtain ⟨s, hs⟩ : ∃ s : ByteArray, s = ⟨rows[i].toArray⟩ := ⟨_, rfl⟩
      have hsz : s.size = rows[i].length := by rw [hs]; simp [ByteArray.size]
      rw [← hs] at c1
      rw [← hsz] at hw1
      have HW := Lib.hid hw1
      have q2 : weightB (rows.take i) + (4 + s.size) ≤ 1000000 := by omega
      clear hcell hs hsz hw1 hw2
      generalize weightB (rows.take i) = W at *
      go_wp2_with fail
      go_roundw
      case rel => exact ⟨i + 1, by go_num, by omega, by first | rfl | trivial, by rw [HW.out]; go_num⟩
      case measure => simp [intOf] <;> omega
    · have hci : ¬ (i : Int) < (n : Int) := by omega
      have hin : rows.take i = rows := by rw [List.take_of_length_le]; rw [← HN.out]; omega
      rw [hin] at *
      go_wp2_with fail
      go_ret
      exact ⟨rfl, (Below.refl _ _).alloc (Nat.le_refl _) _⟩

set_option maxHeartbeats 2000000 in
set_option maxRecDepth 100000 in
theorem refMay06_any (p : Pg) (sv : Value) (w : World) (hp : p.wf) (ht : TextsAt w sv p.rows) (hb : weightB p.rows ≤ 1000000) :
    Calls Try.prog 47 #[pgV p sv] w fun e w' => e = .returned (.bool p.may) ∧ Below w.heap.size w w' := by
  have C := Lib.hid fun W (hW : TextsAt W sv p.rows) => refLeft_any p sv W hW hb
  obtain ⟨kind, level, id, lsn, next, rows⟩ := p
  obtain ⟨p1, p2, p3, p4, p5⟩ := hp
  simp only at *
  have HT := Lib.hid ht
  clear ht
  have hM : Hid (∀ W : Nat, W = weightB rows → (Pg.may ⟨kind, level, id, lsn, next, rows⟩ = true ↔ ((kind ≤ 5 ∧ 0 < id) ∧ id ≤ 1024) ∧ next ≤ 1024 ∧ (0 : Int) ≤ 484 - (W : Int))) := by
    intro W hW
    unfold Pg.may
    rw [Bool.and_eq_true, headOk_iff, decide_eq_true_iff]
    simp only
    omega
  have hM2 := Lib.hid (hM.out (weightB rows) rfl)
  clear hM
  unfold pgV at C ⊢
  simp only at C ⊢
  generalize Pg.may ⟨kind, level, id, lsn, next, rows⟩ = b at hM2 ⊢
  generalize weightB rows = W at *
  go_enter Try.func47, Try.ntmps47
  have HB := Lib.hid ((Below.refl w.heap.size w).alloc (Nat.le_refl _) (.cells #[.int .u8 kind, .int .u8 level, .int .u32 id, .int .u64 lsn, .int .u32 next, sv] 26))
  go_wp2_with fail
  · refine (C.out _ (HT.out.below HB.out)).mono ?_
    rintro e w1 ⟨rfl, hb1⟩
    have HB1 := Lib.hid hb1
    clear hb1
    go_wp2_with fail
    all_goals go_ret
    all_goals refine ⟨ret_bool ?_, below_then HB.out HB1.out⟩
    all_goals
      have h := hM2.out
      rw [Bool.eq_iff_iff]
      simp only [h]
      simp
      try omega
  all_goals go_ret
  all_goals refine ⟨ret_bool ?_, HB.out⟩
  all_goals
    have h := hM2.out
    rw [Bool.eq_iff_iff]
    simp only [h]
    simp
    try omega

end Go.Proofs.Ytienlhnbmobinaa

namespace Go.Proofs.Ytienlhnbmobinaa
open Go.RowKit
set_option linter.unusedVariables false
set_option linter.unusedSimpArgs false

set_option maxHeartbeats 2000000 in
set_option maxRecDepth 100000 in
/-- A page is the same as itself, wherever its texts lie. -/
theorem refSame06_eq (p : Pg) (sv tv : Value) (w : World) (ht : TextsAt w sv p.rows) (hu : TextsAt w tv p.rows) :
    Calls Try.prog 23 #[pgV p sv, pgV p tv] w fun e w' => e = .returned (.bool true) ∧ Below w.heap.size w w' := by
  obtain ⟨n, hn⟩ : ∃ n, n = p.rows.length := ⟨_, rfl⟩
  obtain ⟨A, cp, hsv, h2, h3, h4, h5⟩ := ht
  obtain ⟨B, cq, htv, k2, k3, k4, k5⟩ := hu
  rw [← hn] at hsv htv h2 k2
  subst hsv
  subst htv
  unfold maxLen at h3 k3
  have H5 := Lib.hid h5
  have K5 := Lib.hid k5
  have HN := Lib.hid hn
  clear h4 h5 k4 k5 hn
  unfold pgV
  obtain ⟨kind, level, id, lsn, next, rows⟩ := p
  simp only at *
  have P0 := Lib.hid ((PgBox.new w kind level id lsn next (.slice A n cp)).keep (.cells #[.int .u8 kind, .int .u8 level, .int .u32 id, .int .u64 lsn, .int .u32 next, .slice B n cq] 26))
  have P1 := Lib.hid (PgBox.new (w.alloc (.cells #[.int .u8 kind, .int .u8 level, .int .u32 id, .int .u64 lsn, .int .u32 next, .slice A n cp] 26)) kind level id lsn next (.slice B n cq))
  have hz1 : (w.alloc (.cells #[.int .u8 kind, .int .u8 level, .int .u32 id, .int .u64 lsn, .int .u32 next, .slice A n cp] 26)).heap.size = w.heap.size + 1 := by simp
  rw [hz1] at P1
  clear hz1
  have B0 := Lib.hid ((alloc_below w (.cells #[.int .u8 kind, .int .u8 level, .int .u32 id, .int .u64 lsn, .int .u32 next, .slice A n cp] 26)).alloc (by simp) (.cells #[.int .u8 kind, .int .u8 level, .int .u32 id, .int .u64 lsn, .int .u32 next, .slice B n cq] 26))
  go_enter Try.func23, Try.ntmps23
  go_wp2_with fail
  generalize (w.alloc (.cells #[.int .u8 kind, .int .u8 level, .int .u32 id, .int .u64 lsn, .int .u32 next, .slice A n cp] 26)).alloc (.cells #[.int .u8 kind, .int .u8 level, .int .u32 id, .int .u64 lsn, .int .u32 next, .slice B n cq] 26) = w0 at *
  go_loopw [5] (fun s5 wr => ∃ i : Nat, s5 = .int .i64 i ∧ i ≤ n ∧ Hid (Below w0.heap.size w0 wr)) (fun v _ => n - (intOf v).toNat)
  case atStart => exact ⟨0, rfl, Nat.zero_le _, Lib.hid (Below.refl _ _)⟩
  case round =>
    obtain ⟨i, rfl, hi, hB⟩ := hrel
    obtain ⟨x0, x1, x2, x3, x4, x5, x6⟩ := (P0.out.below hB.out).cells
    obtain ⟨y0, y1, y2, y3, y4, y5, y6⟩ := (P1.out.below hB.out).cells
    have BE := Lib.hid (B0.out.trans (hB.out.mono B0.out.size))
    by_cases hc : i < n
    · have hci : (i : Int) < (n : Int) := by omega
      have hia : i < rows.length := by rw [← HN.out]; exact hc
      obtain ⟨b0, o0, rfl, _, hcell⟩ := H5.out (by omega)
      obtain ⟨b1, o1, rfl, _, kcell⟩ := K5.out (by omega)
      have c1 := keep_cell BE.out (hcell i hia)
      have c2 := keep_cell BE.out (kcell i hia)
      have q1 : (0 : Int) ≤ (i : Int) := by omega
      clear hcell kcell
      generalize rows[i] = r at *
      have r1 : (r == r) = true := by simp
      have r2 : (!r == r) = false := by simp
      go_wp2_with fail
      have e0 := ext_cell x6 x0
      have e1 := ext_cell y6 y0
      have e2 := ext_cell c1 (cell_lt c1)
      have e3 := ext_cell c2 (cell_lt c2)
      refine wp_region_ext wr.heap.size (by kernel_rfl) (by kernel_rfl) ?_
      repeat (go_big_quiet_step (fail))
      refine wpQuiet_nil ?_
      rintro _ ⟨z, rfl⟩
      have BZ := Lib.hid (below_then hB.out z.below)
      generalize z.val = w5 at *
      clear e0 e1 e2 e3 x0 x1 x2 x3 x4 x5 x6 y0 y1 y2 y3 y4 y5 y6 c1 c2
      go_wp2_with fail
      go_roundw
      case rel => exact ⟨i + 1, by go_num, by omega, BZ⟩
      case measure => simp [intOf]; omega
    · have hci : ¬ (i : Int) < (n : Int) := by omega
      go_wp2_with fail
      go_ret
      exact ⟨rfl, BE.out⟩

end Go.Proofs.Ytienlhnbmobinaa
