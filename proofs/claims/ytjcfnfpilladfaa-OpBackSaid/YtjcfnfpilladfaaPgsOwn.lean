/- rows of pages; slices of slices of ops -/
import Derived.Test.YtjcfnfpilladfaaRows
import Derived.Test.YtjcfnfpilladfaaAppTwo
import Derived.Test.YtjcfnfpilladfaaOpIn
import Derived.Test.YtjcfnfpilladfaaOpPlain
import Derived.Test.YtjcfnfpilladfaaTextsP
import Derived.Test.YtjcfnfpilladfaaPlains
import Derived.Test.YtjcfnfpilladfaaBase
import Derived.Test.YtjcfnfpilladfaaTextsIn
import Derived.Test.YtjcfnfpilladfaaOpenFlat
import Derived.Deep.CutBlock
import Derived.WalkKit
import Derived.WalkLawsBesides
import Derived.WalkSpells
import Derived.LoopTactic
import Derived.WalkMore
import Derived.LoopN
import Derived.Laws.BitsAllLaws
import Derived.Laws.IdiomStrings
import Derived.BigQuiet
import Derived.Deep.QuietTactic
import Derived.Deep.DeepCutAuto
import Derived.Deep.RegionHeld3
import Derived.Deep.DrawnRows
import Derived.Lib.Hide
import Derived.Outline
import Derived.Deep.DeepMust
import Derived.Handy
namespace Go.Proofs.Ytjcfnfpilladfaa
open Go.RowKit
set_option linter.unusedVariables false
set_option linter.unusedSimpArgs false

/-- A page with where its rows lie. -/
structure Pv where
  p : Pg
  b : Option Addr
  c : Nat
def Pv.sv (e : Pv) : Value := .slice e.b e.p.rows.length e.c
def Pv.cell (e : Pv) : List Value := [.int .u8 e.p.kind, .int .u8 e.p.level, .int .u32 e.p.id, .int .u64 e.p.lsn, .int .u32 e.p.next, e.sv]
/-- A slice that is not empty lies in another block than a row. -/
def Far (u v : Value) (n : Nat) : Prop := 0 < n → ∀ k, u.ownBlock = some k → v.ownBlock ≠ some k
theorem TextsAt.grown {w w' : World} {sv : Value} {ts : List (List UInt8)} {x : Option Nat} (h : TextsAt w sv ts) (hg : w.grownBy w' x) (hf : 0 < ts.length → ∀ k, sv.ownBlock = some k → x ≠ some k) : TextsAt w' sv ts := by
  obtain ⟨A, cp, h1, h2, h3, h4, h5⟩ := h
  refine ⟨A, cp, h1, h2, h3, h4, fun h0 => ?_⟩
  obtain ⟨b, o, e1, e2, e3⟩ := h5 h0
  exact ⟨b, o, e1, Nat.lt_of_lt_of_le e2 hg.size, fun j hj => hg.cell (e3 j hj) fun e => hf h0 b (by rw [h1, e1]; rfl) e.symm⟩
theorem TextsAt.block_lt {w : World} {sv : Value} {ts : List (List UInt8)} (h : TextsAt w sv ts) (h0 : 0 < ts.length) : ∀ k, sv.ownBlock = some k → k < w.heap.size := by
  obtain ⟨A, cp, h1, h2, h3, h4, h5⟩ := h
  obtain ⟨b, o, e1, e2, e3⟩ := h5 h0
  intro k hk
  rw [h1, e1] at hk
  injection hk with hk
  rw [← hk]
  exact e2
/-- A row of pages made here; their texts lie elsewhere. -/
def PgsOwn (w : World) (base : Nat) (v : Value) (L : List Pv) : Prop := w.ownsRow base 45 6 v L.length (L.flatMap Pv.cell) ∧ ∀ e ∈ L, TextsAt w e.sv e.p.rows ∧ Far e.sv v e.p.rows.length
theorem PgsOwn.below {w w' : World} {base : Nat} {v : Value} {L : List Pv} (h : PgsOwn w base v L) (hb : Below w.heap.size w w') : PgsOwn w' base v L := ⟨own_below h.1 hb, fun e he => ⟨(h.2 e he).1.below hb, (h.2 e he).2⟩⟩
theorem PgsOwn.snoc {w w2 : World} {base : Nat} {v v' : Value} {L : List Pv} {e : Pv} (h : PgsOwn w base v L) (ht : TextsAt w e.sv e.p.rows) (hf : Far e.sv v e.p.rows.length) (ho : w2.ownsRow base 45 6 v' (L.length + 1) (L.flatMap Pv.cell ++ e.cell)) (hg : w.grownBy w2 v.ownBlock) (h2 : v'.ownBlock = v.ownBlock ∨ v'.ownBlock = some w.heap.size) : PgsOwn w2 base v' (L ++ [e]) := by
  refine ⟨by rw [List.length_append, List.flatMap_append]; simpa using ho, fun x hx => ?_⟩
  have hx2 : TextsAt w x.sv x.p.rows ∧ Far x.sv v x.p.rows.length := by
    rcases List.mem_append.1 hx with hx | hx
    · exact h.2 x hx
    · rw [List.mem_singleton.1 hx]; exact ⟨ht, hf⟩
  refine ⟨hx2.1.grown hg fun h0 k hk e => hx2.2 h0 k hk e, fun h0 k hk => ?_⟩
  rcases h2 with h2 | h2
  · rw [h2]; exact hx2.2 h0 k hk
  · rw [h2]
    intro e
    injection e with e
    have := hx2.1.block_lt h0 k hk
    omega
theorem flat_getP (l : List Pv) : ∀ (j i : Nat) (v : Value) (h : j < l.length), l[j].cell[i]? = some v → (l.flatMap Pv.cell)[j * 6 + i]? = some v := by
  induction l with
  | nil => intro j i v h; simp at h
  | cons r rs ih =>
    intro j i v h hv
    have hr : r.cell.length = 6 := rfl
    rw [List.flatMap_cons]
    cases j with
    | zero =>
      have hi : i < 6 := by have := (List.getElem?_eq_some_iff.1 hv).1; rw [List.getElem_cons_zero, hr] at this; exact this
      rw [List.getElem?_append_left (by rw [hr]; omega)]
      simpa using hv
    | succ j =>
      rw [List.getElem?_append_right (by rw [hr]; omega), hr, show (j + 1) * 6 + i - 6 = j * 6 + i by omega]
      exact ih j i v (by simpa using h) (by simpa using hv)
theorem PgsOwn.cell {w : World} {base g n cp : Nat} {L : List Pv} (h : PgsOwn w base (.slice (some ⟨g, 0, none⟩) n cp) L) (j : Nat) (hj : j < L.length) (i : Nat) (v : Value) (hv : L[j].cell[i]? = some v) : w.cell? ⟨g, j * 6 + i, none⟩ = some v := by
  have := h.1.cells (g := g) rfl (j * 6 + i) v (flat_getP L j i v hj hv)
  rwa [Addr.add_lit, show 0 + (j * 6 + i) = j * 6 + i by omega] at this
theorem Try.infoPg : (Try.prog.info? 45).map (fun i => (i.zero, i.size, i.bytes)) = some (some (.agg #[.int .u8 0, .int .u8 0, .int .u32 0, .int .u64 0, .int .u32 0, .slice none 0 0]), 6, 48) := by kernel_rfl
theorem pv_one (e : Pv) : ∀ u ∈ e.cell, u.oneCell' = true := by
  intro u hu
  simp only [Pv.cell, List.mem_cons, List.not_mem_nil, or_false] at hu
  rcases hu with rfl | rfl | rfl | rfl | rfl | rfl <;> rfl
theorem pv_reads (w : World) (e : Pv) : Reads (w.alloc (.cells e.cell.toArray 45)) (.slice (some ⟨w.heap.size, 0, none⟩) 1 1) 1 6 e.cell := by
  refine .inr ⟨_, 1, rfl, rfl, fun j u hu => ?_⟩
  rw [Addr.add_lit, show 0 + j = j by omega, blk_cell (heap_alloc_new w _)]
  simpa using hu
/-- A slice of slices of ops. -/
def OpssAt (w : World) (v : Value) (LL : List (Value × List Ov)) : Prop :=
  ∃ A cp, v = .slice A LL.length cp ∧ LL.length ≤ cp ∧ cp ≤ maxLen ∧ (0 < LL.length → ∃ b o, A = some ⟨b, o, none⟩ ∧ b < w.heap.size ∧ ∀ j (h : j < LL.length), w.cell? ⟨b, o + j, none⟩ = some LL[j].1) ∧ ∀ e ∈ LL, OpsAt w e.1 e.2
theorem OpssAt.below {w w' : World} {v : Value} {LL : List (Value × List Ov)} (h : OpssAt w v LL) (hb : Below w.heap.size w w') : OpssAt w' v LL := by
  obtain ⟨A, cp, h1, h2, h3, h4, h5⟩ := h
  refine ⟨A, cp, h1, h2, h3, fun h0 => ?_, fun e he => (h5 e he).below hb⟩
  obtain ⟨b, o, k1, k2, k3⟩ := h4 h0
  exact ⟨b, o, k1, Nat.lt_of_lt_of_le k2 hb.size, fun j h => keep_cell hb (k3 j h)⟩
section
open Go.ChangeShapes Go.WideShapes Go.Deep
variable {H : Type} {enc : TypeId × Value → H} {P : Program} {w : World} {base : Nat} {spare : Nat → Bool} {held : Bool}
theorem opss_of_trod {B : Nat} {TT T E R Ts : TypeId} {fs : Array Field} {a : Option Addr} {len cap : Nat} {d : DataW H} {p : List MemPlace} (htt : P.underlying TT = some (.slice T)) (hT1 : P.cellsOf T = 1) (ht : P.underlying T = some (.slice E)) (he : P.underlying E = some (.struct fs))
    (hsc : scAt P 8 E 0 = some (numbered 0 [.u8, .u32, .i64, .i64, .str, .raw R, .u8, .u8, .u32])) (hC : P.cellsOf E = 9) (hR : P.underlying R = some (.slice Ts)) (hS : P.underlying Ts = some .string) (hS1 : P.cellsOf Ts = 1)
    (h : DataW.Trod enc P w base (fun _ => true) held TT (.slice a len cap) d p) (hB : ∀ n ∈ d.weights P TT, n ≤ B) :
    ∃ LL : List (Value × List Ov), OpssAt w (.slice a len cap) LL ∧ ∀ L ∈ LL, ∀ e ∈ L.2, e.o.wf ∧ e.o.lens B := by
  obtain ⟨fuel, hf⟩ := h
  rcases DataW.trod_slice htt hf with h0 | ⟨x, l, c, elems, rest, n, _, hcs, hx, hb, hl, hm, hlen, hi, _, _⟩
  · have h1 : [Value.slice a len cap] = [.slice none 0 0] := h0.1
    simp at h1
    obtain ⟨rfl, rfl, rfl⟩ := h1
    exact ⟨[], ⟨none, 0, rfl, Nat.le_refl _, Nat.zero_le _, fun h => absurd h (Nat.lt_irrefl 0), fun e he => by cases he⟩, fun L hL => by cases hL⟩
  · have h1 : [Value.slice a len cap] = [.slice (some x) l c] := hcs
    simp at h1
    obtain ⟨rfl, rfl, rfl⟩ := h1
    have hd : d = .slice (elems.map (·.1)) (rest.map (·.1)) := congrArg Prod.fst hx
    have hall : ∀ i, i < len → ∃ e : Value × List Ov, w.cell? (x.add i) = some e.1 ∧ OpsAt w e.1 e.2 ∧ ∀ y ∈ e.2, y.o.wf ∧ y.o.lens B := by
      intro i hil
      have h2 := hi i hil
      have hel : elems[i]? = some (elems[i]'(by omega)) := List.getElem?_eq_getElem _
      rw [hel] at h2
      obtain ⟨cs', hc, ht'⟩ := Option.bind_eq_some_iff.1 h2
      rw [hT1] at hc
      obtain ⟨_, hcl, hat⟩ := World.cells?_some hc
      have hcell := hat 0 (by omega)
      obtain ⟨u, hu⟩ : ∃ u, cs' = [u] := by
        match cs', hcl with
        | [u], _ => exact ⟨u, rfl⟩
      subst hu
      have hdw : ∀ k, k ∈ (elems[i]'(by omega)).1.weights P T → k ∈ d.weights P TT := by
        intro k hk
        rw [hd]
        simp only [DataW.weights, htt, List.mem_cons, List.mem_append]
        exact .inr (.inl (weights_mem_all (j := i) (d := (elems[i]'(by omega)).1) (by rw [List.getElem?_map, hel]; rfl) _ hk))
      have hc2 : w.cell? (x.add i) = some u := by
        rw [Go.Deep.add_add] at hcell
        rw [show i * 1 + 0 = i by omega] at hcell
        simpa using hcell
      have hsl : ∃ a l c, u = .slice a l c := by
        rcases DataW.trod_slice ht ht' with h0 | ⟨x, l, c, _, _, _, _, hcs, _⟩
        · exact ⟨none, 0, 0, by simpa using h0.1⟩
        · exact ⟨some x, l, c, by simpa using hcs⟩
      obtain ⟨a, l, c, rfl⟩ := hsl
      obtain ⟨L, hL, hLw⟩ := ops_of_trod ht he hsc hC hR hS hS1 ⟨_, ht'⟩ (fun n hn => hB n (hdw n hn))
      exact ⟨(_, L), hc2, hL, hLw⟩
    rcases Nat.eq_zero_or_pos len with rfl | hpos
    · exact ⟨[], ⟨_, cap, rfl, Nat.zero_le _, hm, fun h => absurd h (Nat.lt_irrefl 0), fun e he => by cases he⟩, fun L hL => by cases hL⟩
    obtain ⟨LL, hL, hp⟩ := list_of len hall
    have h00 := (hp 0 (by omega)).1
    obtain ⟨b, o, hx0⟩ := spot_noneT h00
    have hxb : x = ⟨b, o, none⟩ := hx0
    subst hxb
    have hblt : b < w.heap.size := cell_lt h00
    refine ⟨LL, ⟨_, cap, by rw [hL], by rw [hL]; exact hl, hm, fun _ => ⟨b, o, rfl, hblt, fun j hj => ?_⟩, fun e he => ?_⟩, fun r hr => ?_⟩
    · have := (hp j hj).1
      rwa [Addr.add_lit] at this
    · obtain ⟨i, hi, rfl⟩ := List.getElem_of_mem he
      exact (hp i hi).2.1
    · obtain ⟨i, hi, rfl⟩ := List.getElem_of_mem hr
      exact (hp i hi).2.2
end

end Go.Proofs.Ytjcfnfpilladfaa
