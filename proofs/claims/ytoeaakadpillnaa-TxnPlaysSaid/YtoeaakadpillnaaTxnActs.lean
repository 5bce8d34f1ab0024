/- chapter 23: the law's acts. -/
import Derived.Test.YtoeaakadpillnaaRows
import Derived.Test.YtoeaakadpillnaaTxnPlain
import Derived.Test.YtoeaakadpillnaaOpenRows
import Derived.Test.YtoeaakadpillnaaOpenFlat
import Derived.Test.YtoeaakadpillnaaOwn
import Derived.Test.YtoeaakadpillnaaBlocks
import Derived.WalkKit
import Derived.WalkLawsBesides
import Derived.WalkSpells
import Derived.LoopTactic
import Derived.WalkMore
import Derived.LoopN
import Derived.Laws.BitsAllLaws
import Derived.Laws.IdiomStrings
import Derived.BigQuiet
import Derived.Deep.QuietTactic
import Derived.Deep.DeepCutAuto
import Derived.Deep.RegionHeld3
import Derived.Deep.DrawnRows
import Derived.Lib.Hide
import Derived.Outline
import Derived.Deep.DeepMust
import Derived.Handy
namespace Go.Proofs.Ytoeaakadpillnaa
open Go.RowKit
set_option linter.unusedVariables false
set_option linter.unusedSimpArgs false

/-- An act, as data. -/
structure XA where
  d : Nat
  tx : Nat
  x : TX
  n : Nat
  wh : Nat
structure XActsAt (w : World) (a : Option Addr) (b o len : Nat) (L : List XA) : Prop where
  n : L.length = len
  at_ : 0 < len → a = some ⟨b, o, none⟩ ∧ b < w.heap.size
  cell : ∀ i (h : i < L.length), w.cell? ⟨b, o + i * 10, none⟩ = some (.int .u8 (L[i].d : Nat)) ∧ w.cell? ⟨b, o + i * 10 + 1, none⟩ = some (.int .u64 (L[i].tx : Nat)) ∧ w.cell? ⟨b, o + i * 10 + 2, none⟩ = some (.int .u64 (L[i].x.tx : Nat)) ∧ w.cell? ⟨b, o + i * 10 + 3, none⟩ = some (.int .u64 (L[i].x.first : Nat)) ∧ w.cell? ⟨b, o + i * 10 + 4, none⟩ = some (.int .u64 (L[i].x.last : Nat)) ∧ w.cell? ⟨b, o + i * 10 + 5, none⟩ = some (.int .u64 (L[i].x.next : Nat)) ∧ w.cell? ⟨b, o + i * 10 + 6, none⟩ = some (.int .u32 (L[i].x.page : Nat)) ∧ w.cell? ⟨b, o + i * 10 + 7, none⟩ = some (.int .u16 (L[i].x.slot : Nat)) ∧ w.cell? ⟨b, o + i * 10 + 8, none⟩ = some (.int .u64 (L[i].n : Nat)) ∧ w.cell? ⟨b, o + i * 10 + 9, none⟩ = some (.int .u8 (L[i].wh : Nat))
  ok : ∀ c ∈ L, c.d < 256 ∧ c.tx < 256 ^ 8 ∧ c.x.tx < 256 ^ 8 ∧ c.x.first < 256 ^ 8 ∧ c.x.last < 256 ^ 8 ∧ c.x.next < 256 ^ 8 ∧ c.x.page < 256 ^ 4 ∧ c.x.slot < 256 ^ 2 ∧ c.n < 256 ^ 8 ∧ c.wh < 256
  le : len ≤ 9223372036854775807
theorem XActsAt.below {w w' : World} {a : Option Addr} {b o len : Nat} {L : List XA} (h : XActsAt w a b o len L) (hb : Below w.heap.size w w') : XActsAt w' a b o len L := by
  refine ⟨h.n, fun hl => ⟨(h.at_ hl).1, Nat.lt_of_lt_of_le (h.at_ hl).2 hb.size⟩, fun i hi => ?_, h.ok, h.le⟩
  obtain ⟨h0, h1, h2, h3, h4, h5, h6, h7, h8, h9⟩ := h.cell i hi
  exact ⟨keep_cell hb h0, keep_cell hb h1, keep_cell hb h2, keep_cell hb h3, keep_cell hb h4, keep_cell hb h5, keep_cell hb h6, keep_cell hb h7, keep_cell hb h8, keep_cell hb h9⟩
theorem spot_noneX {w : World} {x : Addr} {v : Value} (h : w.cell? x = some v) : ∃ b o, x = ⟨b, o, none⟩ := by
  obtain ⟨b, o, sp⟩ := x
  cases sp with
  | none => exact ⟨b, o, rfl⟩
  | some k =>
    unfold World.cell? at h
    simp at h
    split at h <;> simp at h
theorem xacts_of_rows {R : TypeId → Value → Prop} {w : World} {a : Option Addr} {len cap : Nat} (h : IsRows R [.u8, .u64, .u64, .u64, .u64, .u64, .u32, .u16, .u64, .u8] w a len cap) : ∃ b o L, XActsAt w a b o len L := by
  rcases h with ⟨rfl, rfl, rfl⟩ | ⟨x, rfl, hl, hc, hcell⟩
  · exact ⟨0, 0, [], rfl, fun h => absurd h (Nat.lt_irrefl 0), fun i h => absurd h (Nat.not_lt_zero i), fun c h => (by cases h), Nat.zero_le _⟩
  · unfold maxLen at hc
    have hall : ∀ i, i < len → ∃ c : XA, (w.cell? (x.add (i * 10 + 0)) = some (.int .u8 (c.d : Nat)) ∧ w.cell? (x.add (i * 10 + 1)) = some (.int .u64 (c.tx : Nat)) ∧ w.cell? (x.add (i * 10 + 2)) = some (.int .u64 (c.x.tx : Nat)) ∧ w.cell? (x.add (i * 10 + 3)) = some (.int .u64 (c.x.first : Nat)) ∧ w.cell? (x.add (i * 10 + 4)) = some (.int .u64 (c.x.last : Nat)) ∧ w.cell? (x.add (i * 10 + 5)) = some (.int .u64 (c.x.next : Nat)) ∧ w.cell? (x.add (i * 10 + 6)) = some (.int .u32 (c.x.page : Nat)) ∧ w.cell? (x.add (i * 10 + 7)) = some (.int .u16 (c.x.slot : Nat)) ∧ w.cell? (x.add (i * 10 + 8)) = some (.int .u64 (c.n : Nat)) ∧ w.cell? (x.add (i * 10 + 9)) = some (.int .u8 (c.wh : Nat))) ∧ (c.d < 256 ∧ c.tx < 256 ^ 8 ∧ c.x.tx < 256 ^ 8 ∧ c.x.first < 256 ^ 8 ∧ c.x.last < 256 ^ 8 ∧ c.x.next < 256 ^ 8 ∧ c.x.page < 256 ^ 4 ∧ c.x.slot < 256 ^ 2 ∧ c.n < 256 ^ 8 ∧ c.wh < 256) := by
      intro i hi
      obtain ⟨v0, h0, n0, rfl, hn0⟩ := hcell i hi 0 .u8 rfl
      obtain ⟨v1, h1, n1, rfl, hn1⟩ := hcell i hi 1 .u64 rfl
      obtain ⟨v2, h2, n2, rfl, hn2⟩ := hcell i hi 2 .u64 rfl
      obtain ⟨v3, h3, n3, rfl, hn3⟩ := hcell i hi 3 .u64 rfl
      obtain ⟨v4, h4, n4, rfl, hn4⟩ := hcell i hi 4 .u64 rfl
      obtain ⟨v5, h5, n5, rfl, hn5⟩ := hcell i hi 5 .u64 rfl
      obtain ⟨v6, h6, n6, rfl, hn6⟩ := hcell i hi 6 .u32 rfl
      obtain ⟨v7, h7, n7, rfl, hn7⟩ := hcell i hi 7 .u16 rfl
      obtain ⟨v8, h8, n8, rfl, hn8⟩ := hcell i hi 8 .u64 rfl
      obtain ⟨v9, h9, n9, rfl, hn9⟩ := hcell i hi 9 .u8 rfl
      exact ⟨⟨n0, n1, ⟨n2, n3, n4, n5, n6, n7⟩, n8, n9⟩, ⟨h0, h1, h2, h3, h4, h5, h6, h7, h8, h9⟩, hn0, hn1, hn2, hn3, hn4, hn5, hn6, hn7, hn8, hn9⟩
    rcases Nat.eq_zero_or_pos len with rfl | hpos
    · exact ⟨0, 0, [], rfl, fun h => absurd h (Nat.lt_irrefl 0), fun i h => absurd h (Nat.not_lt_zero i), fun c h => (by cases h), Nat.zero_le _⟩
    obtain ⟨L, hL, hp⟩ := list_of len hall
    have h00 := (hp 0 (by omega)).1.1
    have e0 : x.add (0 * 10 + 0) = x := rfl
    rw [e0] at h00
    obtain ⟨b, o, rfl⟩ := spot_noneX h00
    have hblt : b < w.heap.size := cell_lt h00
    refine ⟨b, o, L, hL, fun _ => ⟨rfl, hblt⟩, fun i hi => ?_, fun c hcL => ?_, by omega⟩
    · have := (hp i hi).1
      simp only [Addr.add_lit, Nat.add_zero] at this
      exact this
    · obtain ⟨i, hi, rfl⟩ := List.getElem_of_mem hcL
      exact (hp i hi).2

end Go.Proofs.Ytoeaakadpillnaa
