/- ops that came in; slices of ops -/
import Derived.Test.YtienlhnbmobinaaRows
import Derived.Test.YtienlhnbmobinaaOpPlain
import Derived.Test.YtienlhnbmobinaaTextsP
import Derived.Test.YtienlhnbmobinaaTextsIn
import Derived.Test.YtienlhnbmobinaaOpenFlat
import Derived.Test.YtienlhnbmobinaaPlains
import Derived.Test.YtienlhnbmobinaaBase
import Derived.WalkKit
import Derived.WalkLawsBesides
import Derived.WalkSpells
import Derived.LoopTactic
import Derived.WalkMore
import Derived.LoopN
import Derived.Laws.BitsAllLaws
import Derived.Laws.IdiomStrings
import Derived.BigQuiet
import Derived.Deep.QuietTactic
import Derived.Deep.DeepCutAuto
import Derived.Deep.RegionHeld3
import Derived.Deep.DrawnRows
import Derived.Lib.Hide
import Derived.Outline
import Derived.Deep.DeepMust
import Derived.Handy
namespace Go.Proofs.Ytienlhnbmobinaa
open Go.RowKit
set_option linter.unusedVariables false
set_option linter.unusedSimpArgs false

/-- An op with where its rows lie. -/
structure Ov where
  o : Od
  b : Option Addr
  c : Nat
def Ov.sv (e : Ov) : Value := .slice e.b e.o.rows.length e.c
def Ov.cell (e : Ov) : List Value := [.int .u8 e.o.kind, .int .u32 e.o.page, .int .i64 e.o.at_, .int .i64 e.o.off, .string ⟨e.o.text.toArray⟩, e.sv, .int .u8 e.o.pk, .int .u8 e.o.lv, .int .u32 e.o.nx]
/-- A slice of ops. -/
def OpsAt (w : World) (v : Value) (L : List Ov) : Prop :=
  ∃ A cp, v = .slice A L.length cp ∧ L.length ≤ cp ∧ cp ≤ maxLen ∧ (0 < L.length → ∃ b o, A = some ⟨b, o, none⟩ ∧ b < w.heap.size ∧ ∀ j (h : j < L.length), ∀ i v, L[j].cell[i]? = some v → w.cell? ⟨b, o + j * 9 + i, none⟩ = some v) ∧ ∀ e ∈ L, TextsAt w e.sv e.o.rows
theorem OpsAt.below {w w' : World} {v : Value} {L : List Ov} (h : OpsAt w v L) (hb : Below w.heap.size w w') : OpsAt w' v L := by
  obtain ⟨A, cp, h1, h2, h3, h4, h5⟩ := h
  refine ⟨A, cp, h1, h2, h3, fun h0 => ?_, fun e he => (h5 e he).below hb⟩
  obtain ⟨b, o, k1, k2, k3⟩ := h4 h0
  exact ⟨b, o, k1, Nat.lt_of_lt_of_le k2 hb.size, fun j h i v hv => keep_cell hb (k3 j h i v hv)⟩
theorem OpsAt.nil (w : World) : OpsAt w (.slice none 0 0) [] := ⟨none, 0, rfl, Nat.le_refl _, Nat.zero_le _, fun h => absurd h (Nat.lt_irrefl 0), fun e he => by cases he⟩
/-- Each text of an op is no longer than that. -/
def Od.lens (o : Od) (B : Nat) : Prop := o.text.length ≤ B ∧ ∀ r ∈ o.rows, r.length ≤ B

section
open Go.ChangeShapes Go.WideShapes Go.Deep
variable {H : Type} {enc : TypeId × Value → H} {P : Program} {w : World} {base : Nat} {spare : Nat → Bool} {held : Bool}

/-- A struct's cell: what it is, and that what it weighs the struct weighs. -/
def Sc.fitW (R : TypeId → Value → Prop) (B : Nat → Prop) : Sc → Value → Prop
  | .str, v => ∃ s : ByteArray, v = .string s ∧ s.size ≤ maxLen ∧ B s.size
  | s, v => s.fit R v
theorem rows_w {t e : TypeId} {fs : Array Field} {a : Option Addr} {len cap : Nat} {d : DataW H} {p : List MemPlace} (ss : List Sc) (ht : P.underlying t = some (.slice e)) (he : P.underlying e = some (.struct fs))
    (hsc : scAt P 8 e 0 = some (numbered 0 ss)) (hC : P.cellsOf e = ss.length) (h : DataW.Trod enc P w base (fun _ => true) held t (.slice a len cap) d p) :
    (a = none ∧ len = 0 ∧ cap = 0) ∨ ∃ x, a = some x ∧ len ≤ cap ∧ cap ≤ maxLen ∧ ∀ i, i < len → ∀ j s, ss[j]? = some s → ∃ v, w.cell? (x.add (i * ss.length + j)) = some v ∧
      s.fitW (fun t' v => ∃ m y, DataW.trod enc P w base (fun _ => true) held m t' [v] = some y ∧ ∀ k ∈ y.1.weights P t', k ∈ d.weights P t) (fun n => n ∈ d.weights P t) v := by
  obtain ⟨fuel, hf⟩ := h
  rcases DataW.trod_slice ht hf with h0 | ⟨x, l, c, elems, rest, n, _, hcs, hx, hb, hl, hm, hlen, hi, _, _⟩
  · have h1 : [Value.slice a len cap] = [.slice none 0 0] := h0.1
    simp at h1
    exact .inl h1
  · have h1 : [Value.slice a len cap] = [.slice (some x) l c] := hcs
    simp at h1
    obtain ⟨rfl, rfl, rfl⟩ := h1
    have hd : d = .slice (elems.map (·.1)) (rest.map (·.1)) := congrArg Prod.fst hx
    refine .inr ⟨x, rfl, hl, hm, fun i hil j s hs => ?_⟩
    have h2 := hi i hil
    have hel : elems[i]? = some (elems[i]'(by omega)) := List.getElem?_eq_getElem _
    rw [hel] at h2
    obtain ⟨cs', hc, ht'⟩ := Option.bind_eq_some_iff.1 h2
    rw [hC] at hc
    obtain ⟨_, hcl, hat⟩ := World.cells?_some hc
    have hj : j < ss.length := (List.getElem?_eq_some_iff.1 hs).1
    have hcell := hat j hj
    have hdw : ∀ k, k ∈ (elems[i]'(by omega)).1.weights P e → k ∈ d.weights P t := by
      intro k hk
      rw [hd]
      simp only [DataW.weights, ht, List.mem_cons, List.mem_append]
      exact .inr (.inl (weights_mem_all (j := i) (d := (elems[i]'(by omega)).1) (by rw [List.getElem?_map, hel]; rfl) _ hk))
    have put : ∀ v, cs'[0 + j - 0]? = some v → w.cell? (x.add (i * ss.length + j)) = some v := by
      intro v hv
      rw [← Go.Deep.add_add, hcell]
      simpa using hv
    have hmem := numbered_mem ss 0 j s hs
    cases s with
    | str =>
      obtain ⟨s, hv, hwt⟩ := scAt_weight 8 hsc ht' (0 + j) hmem
      obtain ⟨_, v, hv2, hfit⟩ := scAt_trod 8 hsc ht' (0 + j) .str hmem
      obtain ⟨s2, rfl, hs2⟩ := hfit
      rw [hv] at hv2
      injection hv2 with hv2
      injection hv2 with hv2
      subst hv2
      exact ⟨_, put _ hv, s, rfl, hs2, hdw _ hwt⟩
    | raw t' =>
      obtain ⟨_, v, m', y, hv, hty, hwt⟩ := scAt_sub 8 hsc ht' (0 + j) t' hmem
      exact ⟨v, put _ hv, m', y, hty, fun k hk => hdw _ (hwt k hk)⟩
    | _ =>
      obtain ⟨_, v, hv, hfit⟩ := scAt_trod 8 hsc ht' (0 + j) _ hmem
      exact ⟨v, put _ hv, hfit⟩
/-- Ops that came in. -/
theorem ops_of_trod {B : Nat} {T E R Ts : TypeId} {fs : Array Field} {a : Option Addr} {len cap : Nat} {d : DataW H} {p : List MemPlace} (ht : P.underlying T = some (.slice E)) (he : P.underlying E = some (.struct fs))
    (hsc : scAt P 8 E 0 = some (numbered 0 [.u8, .u32, .i64, .i64, .str, .raw R, .u8, .u8, .u32])) (hC : P.cellsOf E = 9) (hR : P.underlying R = some (.slice Ts)) (hS : P.underlying Ts = some .string) (hS1 : P.cellsOf Ts = 1)
    (h : DataW.Trod enc P w base (fun _ => true) held T (.slice a len cap) d p) (hB : ∀ n ∈ d.weights P T, n ≤ B) :
    ∃ L : List Ov, OpsAt w (.slice a len cap) L ∧ ∀ e ∈ L, e.o.wf ∧ e.o.lens B := by
  rcases rows_w [.u8, .u32, .i64, .i64, .str, .raw R, .u8, .u8, .u32] ht he hsc hC h with ⟨rfl, rfl, rfl⟩ | ⟨x, rfl, hl, hc, hcell⟩
  · exact ⟨[], OpsAt.nil w, fun r hr => by cases hr⟩
  · have hall : ∀ i, i < len → ∃ c : Ov, (∀ j v, c.cell[j]? = some v → w.cell? (x.add (i * 9 + j)) = some v) ∧ TextsAt w c.sv c.o.rows ∧ c.o.wf ∧ c.o.lens B := by
      intro i hi
      obtain ⟨v0, h0, n0, rfl, hn0⟩ := hcell i hi 0 .u8 rfl
      obtain ⟨v1, h1, n1, rfl, hn1⟩ := hcell i hi 1 .u32 rfl
      obtain ⟨v2, h2, n2, rfl, hn2⟩ := hcell i hi 2 .i64 rfl
      obtain ⟨v3, h3, n3, rfl, hn3⟩ := hcell i hi 3 .i64 rfl
      obtain ⟨v4, h4, n4, rfl, hn4, hn4b⟩ := hcell i hi 4 .str rfl
      obtain ⟨v5, h5, m5, y5, ht5, hw5⟩ := hcell i hi 5 (.raw R) rfl
      obtain ⟨ts, hts, htw⟩ := texts_of_trod hR hS hS1 ht5
      obtain ⟨v6, h6, n6, rfl, hn6⟩ := hcell i hi 6 .u8 rfl
      obtain ⟨v7, h7, n7, rfl, hn7⟩ := hcell i hi 7 .u8 rfl
      obtain ⟨v8, h8, n8, rfl, hn8⟩ := hcell i hi 8 .u32 rfl
      have hts2 := hts
      obtain ⟨A, cp, rfl, _⟩ := hts
      have w2 : -9223372036854775808 ≤ n2 ∧ n2 ≤ 9223372036854775807 := by
        have : IntKind.i64.min ≤ n2 ∧ n2 ≤ IntKind.i64.max := by simpa [Lit.wf] using hn2
        exact ⟨this.1, this.2⟩
      have w3 : -9223372036854775808 ≤ n3 ∧ n3 ≤ 9223372036854775807 := by
        have : IntKind.i64.min ≤ n3 ∧ n3 ≤ IntKind.i64.max := by simpa [Lit.wf] using hn3
        exact ⟨this.1, this.2⟩
      refine ⟨⟨⟨n0, n1, n2, n3, n4.data.toList, ts, n6, n7, n8⟩, A, cp⟩, fun j v hj => ?_, hts2, ⟨hn0, hn1, w2, w3, hn6, hn7, hn8⟩, ?_, fun r hr => hB _ (hw5 _ (htw r hr))⟩
      · have hjl : j < 9 := (List.getElem?_eq_some_iff.1 hj).1
        have hh : j = 0 ∨ j = 1 ∨ j = 2 ∨ j = 3 ∨ j = 4 ∨ j = 5 ∨ j = 6 ∨ j = 7 ∨ j = 8 := by omega
        rcases hh with rfl | rfl | rfl | rfl | rfl | rfl | rfl | rfl | rfl <;> (simp only [Ov.cell] at hj; injection hj with hj; subst hj; assumption)
      · show n4.data.toList.length ≤ B
        rw [Array.length_toList]; exact hB _ hn4b
    rcases Nat.eq_zero_or_pos len with rfl | hpos
    · exact ⟨[], ⟨_, cap, rfl, Nat.zero_le _, hc, fun h => absurd h (Nat.lt_irrefl 0), fun e he => by cases he⟩, fun r hr => by cases hr⟩
    obtain ⟨L, hL, hp⟩ := list_of len hall
    have h00 := (hp 0 (by omega)).1 0 _ rfl
    have e0 : x.add (0 * 9 + 0) = x := rfl
    rw [e0] at h00
    obtain ⟨b, o, rfl⟩ := spot_noneT h00
    have hblt : b < w.heap.size := cell_lt h00
    refine ⟨L, ⟨_, cap, by rw [hL], by rw [hL]; exact hl, hc, fun _ => ⟨b, o, rfl, hblt, fun j hj i v hv => ?_⟩, fun e he => ?_⟩, fun r hr => ?_⟩
    · have := (hp j hj).1 i v hv
      rw [Addr.add_lit] at this
      rwa [show o + j * 9 + i = o + (j * 9 + i) by omega]
    · obtain ⟨i, hi, rfl⟩ := List.getElem_of_mem he
      exact (hp i hi).2.1
    · obtain ⟨i, hi, rfl⟩ := List.getElem_of_mem hr
      exact (hp i hi).2.2
end

end Go.Proofs.Ytienlhnbmobinaa
