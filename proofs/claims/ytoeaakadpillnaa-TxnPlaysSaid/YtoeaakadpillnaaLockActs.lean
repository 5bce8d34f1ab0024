/- The acts of a statement about locks; which are too many. -/
import Derived.Test.YtoeaakadpillnaaRows
import Derived.Test.YtoeaakadpillnaaLockWalks
import Derived.Test.YtoeaakadpillnaaBlocks
import Derived.Test.YtoeaakadpillnaaOpenRows
import Derived.Test.YtoeaakadpillnaaOpenFlat
import Derived.Test.YtoeaakadpillnaaOwn
import Derived.WalkKit
import Derived.WalkLawsBesides
import Derived.WalkSpells
import Derived.LoopTactic
import Derived.WalkMore
import Derived.LoopN
import Derived.Laws.BitsAllLaws
import Derived.Laws.IdiomStrings
import Derived.BigQuiet
import Derived.Deep.QuietTactic
import Derived.Deep.DeepCutAuto
import Derived.Deep.RegionHeld3
import Derived.Deep.DrawnRows
import Derived.Lib.Hide
import Derived.Outline
import Derived.Deep.DeepMust
import Derived.Handy
namespace Go.Proofs.Ytoeaakadpillnaa
open Go.RowKit
set_option linter.unusedVariables false
set_option linter.unusedSimpArgs false

/-- An act, as data: which one, of whom, the key. -/
abbrev La := Nat × Nat × ByteArray
structure ActsAt (w : World) (a : Option Addr) (b o len : Nat) (L : List La) : Prop where
  n : L.length = len
  at_ : 0 < len → a = some ⟨b, o, none⟩ ∧ b < w.heap.size
  cell : ∀ i (h : i < L.length), w.cell? ⟨b, o + i * 3, none⟩ = some (.int .u8 (L[i].1 : Nat)) ∧ w.cell? ⟨b, o + i * 3 + 1, none⟩ = some (.int .u64 (L[i].2.1 : Nat)) ∧ w.cell? ⟨b, o + i * 3 + 2, none⟩ = some (.string L[i].2.2)
  ok : ∀ c ∈ L, c.1 < 256 ∧ c.2.1 < 256 ^ 8 ∧ c.2.2.size ≤ 140737488351232
  le : len ≤ 9223372036854775807
theorem ActsAt.below {w w' : World} {a : Option Addr} {b o len : Nat} {L : List La} (h : ActsAt w a b o len L) (hb : Below w.heap.size w w') : ActsAt w' a b o len L :=
  ⟨h.n, fun hl => ⟨(h.at_ hl).1, Nat.lt_of_lt_of_le (h.at_ hl).2 hb.size⟩, fun i hi => ⟨keep_cell hb (h.cell i hi).1, keep_cell hb (h.cell i hi).2.1, keep_cell hb (h.cell i hi).2.2⟩, h.ok, h.le⟩
theorem spot_none {w : World} {x : Addr} {v : Value} (h : w.cell? x = some v) : ∃ b o, x = ⟨b, o, none⟩ := by
  obtain ⟨b, o, sp⟩ := x
  cases sp with
  | none => exact ⟨b, o, rfl⟩
  | some k =>
    unfold World.cell? at h
    simp at h
    split at h <;> simp at h
theorem acts_of_rows {R : TypeId → Value → Prop} {w : World} {a : Option Addr} {len cap : Nat} (h : IsRows R [.u8, .u64, .str] w a len cap)
    (hs : ∀ x, a = some x → ∀ i, i < len → ∀ j, ([Sc.u8, .u64, .str] : List Sc)[j]? = some .str → ∃ s : ByteArray, w.cell? (x.add (i * 3 + j)) = some (.string s) ∧ s.size ≤ 140737488351232) : ∃ b o L, ActsAt w a b o len L := by
  rcases h with ⟨rfl, rfl, rfl⟩ | ⟨x, rfl, hl, hc, hcell⟩
  · exact ⟨0, 0, [], rfl, fun h => absurd h (Nat.lt_irrefl 0), fun i h => absurd h (Nat.not_lt_zero i), fun c h => (by cases h), Nat.zero_le _⟩
  · unfold maxLen at hc
    have hall : ∀ i, i < len → ∃ c : La, (w.cell? (x.add (i * 3 + 0)) = some (.int .u8 (c.1 : Nat)) ∧ w.cell? (x.add (i * 3 + 1)) = some (.int .u64 (c.2.1 : Nat)) ∧ w.cell? (x.add (i * 3 + 2)) = some (.string c.2.2)) ∧ (c.1 < 256 ∧ c.2.1 < 256 ^ 8 ∧ c.2.2.size ≤ 140737488351232) := by
      intro i hi
      obtain ⟨v0, h0, n0, rfl, hn⟩ := hcell i hi 0 .u8 rfl
      obtain ⟨v1, h1, n1, rfl, hw⟩ := hcell i hi 1 .u64 rfl
      obtain ⟨s, h2, hsz⟩ := hs x rfl i hi 2 rfl
      exact ⟨(n0, n1, s), ⟨h0, h1, h2⟩, hn, hw, hsz⟩
    rcases Nat.eq_zero_or_pos len with rfl | hpos
    · exact ⟨0, 0, [], rfl, fun h => absurd h (Nat.lt_irrefl 0), fun i h => absurd h (Nat.not_lt_zero i), fun c h => (by cases h), Nat.zero_le _⟩
    obtain ⟨L, hL, hp⟩ := list_of len hall
    have h00 := (hp 0 (by omega)).1.1
    have e0 : x.add (0 * 3 + 0) = x := rfl
    rw [e0] at h00
    obtain ⟨b, o, rfl⟩ := spot_none h00
    have hblt : b < w.heap.size := cell_lt h00
    refine ⟨b, o, L, hL, fun _ => ⟨rfl, hblt⟩, fun i hi => ?_, fun c hcL => ?_, by omega⟩
    · have := (hp i hi).1
      simp only [Addr.add_lit, Nat.add_zero] at this
      exact this
    · obtain ⟨i, hi, rfl⟩ := List.getElem_of_mem hcL
      exact (hp i hi).2
/-- How many bytes the keys have. -/
def bulkA (L : List La) : Nat := (L.map fun c => c.2.2.size).sum
theorem bulkA_take (L : List La) (k : Nat) (h : k < L.length) : bulkA (L.take (k + 1)) = bulkA (L.take k) + L[k].2.2.size := by
  unfold bulkA
  rw [List.take_succ_eq_append_getElem h, List.map_append, List.sum_append]
  simp
theorem bulkA_le (L : List La) (k : Nat) : bulkA (L.take k) ≤ bulkA L := by
  unfold bulkA
  conv => rhs; rw [← List.take_append_drop k L, List.map_append, List.sum_append]
  omega
theorem bulkA_mem {L : List La} {c : La} (h : c ∈ L) : c.2.2.size ≤ bulkA L := by
  induction L with
  | nil => cases h
  | cons x r ih =>
    unfold bulkA at *
    rw [List.map_cons, List.sum_cons]
    rcases List.mem_cons.1 h with rfl | h
    · omega
    · have := ih h; omega

set_option maxHeartbeats 2000000 in
set_option maxRecDepth 100000 in
theorem heavy_no (a : Option Addr) (b o len cap : Nat) (L : List La) (w : World) (h : ActsAt w a b o len L) (h1 : bulkA L ≤ 4000) (h2 : len ≤ 150) :
    Calls Try.prog 14 #[.slice a len cap] w fun e w' => e = .returned (.bool false) ∧ w = w' := by
  have hn := h.n
  have H := Lib.hid h
  have HN := Lib.hid hn
  clear h hn
  go_enter Try.func14, Try.ntmps14
  go_wp2_with fail
  go_loop [3, 4] (fun s3 s4 => ∃ i : Nat, i ≤ len ∧ s4 = .int .i64 i ∧ s3 = .int .i64 (bulkA (L.take i) : Nat)) (fun _ i => len - (intOf i).toNat)
  case atStart => exact ⟨0, Nat.zero_le _, rfl, rfl⟩
  case round =>
    obtain ⟨i, hi, rfl, rfl⟩ := hrel
    by_cases hc : i < len
    · obtain ⟨rfl, hlt⟩ := H.out.at_ (by omega)
      have hiL : i < L.length := by rw [HN.out]; exact hc
      obtain ⟨c0, c1, c2⟩ := H.out.cell i hiL
      have hb := bulkA_take L i hiL
      have hb1 := bulkA_le L (i + 1)
      have HB : Hid (bulkA (L.take (i + 1)) = bulkA (L.take i) + L[i].2.2.size) := hb
      have q0 : (0 : Int) ≤ (i : Int) := by omega
      have q1 : (i : Int) < (len : Int) := by omega
      have q2 : (i : Int) < 200 := by omega
      clear c0 c1
      have hsum : bulkA (L.take i) + L[i].2.2.size ≤ 4000 := by omega
      clear hb hb1
      generalize bulkA (L.take i) = B at *
      generalize L[i].2.2 = S at *
      go_wp2_with fail
      go_round
      case rel => exact ⟨i + 1, by omega, by go_num, by rw [HB.out]; go_num⟩
      case measure => simp [intOf]; omega
    · obtain rfl : i = len := by omega
      have hbe : Hid (bulkA (L.take i) ≤ 4000) := Nat.le_trans (bulkA_le L i) h1
      generalize bulkA (L.take i) = B at *
      have h4 : decide (4000 < (B : Int)) = false := by have := hbe.out; simp; omega
      have h100 : decide (150 < (i : Int)) = false := by simp; omega
      go_wp2_with fail
      go_ret
      exact ⟨rfl, rfl⟩

set_option maxHeartbeats 2000000 in
set_option maxRecDepth 100000 in
theorem heavy_yes (a : Option Addr) (b o len cap : Nat) (L : List La) (w : World) (h : ActsAt w a b o len L) (h1 : ¬ (bulkA L ≤ 4000 ∧ len ≤ 150)) :
    Calls Try.prog 14 #[.slice a len cap] w fun e w' => e = .returned (.bool true) ∧ w = w' := by
  have hn := h.n
  have hle := h.le
  have H := Lib.hid h
  have HN := Lib.hid hn
  have H1 := Lib.hid h1
  clear h hn h1
  go_enter Try.func14, Try.ntmps14
  go_wp2_with fail
  go_loop [3, 4] (fun s3 s4 => ∃ i : Nat, i ≤ len ∧ i ≤ 200 ∧ s4 = .int .i64 i ∧ s3 = .int .i64 (bulkA (L.take i) : Nat) ∧ bulkA (L.take i) ≤ i * 140737488351232) (fun _ i => len - (intOf i).toNat)
  case atStart => exact ⟨0, Nat.zero_le _, Nat.zero_le _, rfl, rfl, Nat.zero_le _⟩
  case round =>
    obtain ⟨i, hi, hi2, rfl, rfl, hbi⟩ := hrel
    by_cases hc : i < len ∧ i < 200
    · obtain ⟨hc1, hc2⟩ := hc
      obtain ⟨rfl, hlt⟩ := H.out.at_ (by omega)
      have hiL : i < L.length := by rw [HN.out]; exact hc1
      obtain ⟨c0, c1, c2⟩ := H.out.cell i hiL
      have hb := bulkA_take L i hiL
      have HB : Hid (bulkA (L.take (i + 1)) = bulkA (L.take i) + L[i].2.2.size) := hb
      have hsz := (H.out.ok _ (List.getElem_mem hiL)).2.2
      have q0 : (0 : Int) ≤ (i : Int) := by omega
      have q1 : (i : Int) < (len : Int) := by omega
      have q2 : (i : Int) < 200 := by omega
      clear c0 c1 hb
      generalize bulkA (L.take i) = B at *
      generalize L[i].2.2 = S at *
      have hs : B + S.size ≤ (i + 1) * 140737488351232 := by omega
      have HS := Lib.hid hs
      have hs2 : B + S.size ≤ 9223372036854775807 := by omega
      clear hs
      go_wp2_with fail
      go_round
      case rel => exact ⟨i + 1, by omega, by omega, by go_num, by rw [HB.out]; go_num, by rw [HB.out]; exact HS.out⟩
      case measure => simp [intOf]; omega
    · by_cases h150 : 150 < len
      · have h100 : decide (150 < (len : Int)) = true := by simp; omega
        have hc' : ¬ i < len ∨ ¬ i < 200 := by omega
        clear hbi
        by_cases hx : i < len
        · have hx2 : ¬ i < 200 := by omega
          clear hc hc'
          go_wp2_with fail
          go_ret
          exact ⟨rfl, rfl⟩
        · clear hc hc'
          go_wp2_with fail
          go_ret
          exact ⟨rfl, rfl⟩
      · obtain rfl : i = len := by omega
        have h100 : decide (150 < (i : Int)) = false := by simp; omega
        have hB : Hid (4000 < bulkA (L.take i)) := by
          show _ < _
          rw [List.take_of_length_le (by rw [HN.out]; exact Nat.le_refl _)]
          have := H1.out
          omega
        generalize bulkA (L.take i) = B at *
        have h4 : decide (4000 < (B : Int)) = true := by have := hB.out; simp; omega
        clear hc hbi
        go_wp2_with fail
        go_ret
        exact ⟨rfl, rfl⟩

end Go.Proofs.Ytoeaakadpillnaa
