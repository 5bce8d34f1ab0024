/- Calls as data; whether they are more than a statement plays -/
import Derived.Test.YtlpfilpijiglpaaRows
import Derived.Test.YtlpfilpijiglpaaSlotAlive
import Derived.Test.YtlpfilpijiglpaaOpenRows
import Derived.WalkKit
import Derived.WalkLawsBesides
import Derived.WalkSpells
import Derived.LoopTactic
import Derived.WalkMore
import Derived.LoopN
import Derived.Laws.BitsAllLaws
import Derived.Laws.IdiomStrings
import Derived.BigQuiet
import Derived.Deep.QuietTactic
import Derived.Deep.DeepCutAuto
import Derived.Deep.RegionHeld3
import Derived.Deep.DrawnRows
import Derived.Lib.Hide
import Derived.Outline
import Derived.Deep.DeepMust
import Derived.Handy
namespace Go.Proofs.Ytlpfilpijiglpaa
open Go.RowKit
set_option linter.unusedVariables false
set_option linter.unusedSimpArgs false

/-- A call, as data: which one, where, the text. -/
abbrev Pc := Nat × Int × ByteArray
structure CallsAt (w : World) (a : Option Addr) (b o len : Nat) (L : List Pc) : Prop where
  n : L.length = len
  at_ : 0 < len → a = some ⟨b, o, none⟩ ∧ b < w.heap.size
  cell : ∀ i (h : i < L.length), w.cell? ⟨b, o + i * 3, none⟩ = some (.int .u8 (L[i].1 : Nat)) ∧ w.cell? ⟨b, o + i * 3 + 1, none⟩ = some (.int .i64 L[i].2.1) ∧ w.cell? ⟨b, o + i * 3 + 2, none⟩ = some (.string L[i].2.2)
  ok : ∀ c ∈ L, c.1 < 256 ∧ (-9223372036854775808 ≤ c.2.1 ∧ c.2.1 ≤ 9223372036854775807) ∧ c.2.2.size ≤ 140737488351232
  le : len ≤ 9223372036854775807
theorem CallsAt.below {w w' : World} {a : Option Addr} {b o len : Nat} {L : List Pc} (h : CallsAt w a b o len L) (hb : Below w.heap.size w w') : CallsAt w' a b o len L :=
  ⟨h.n, fun hl => ⟨(h.at_ hl).1, Nat.lt_of_lt_of_le (h.at_ hl).2 hb.size⟩, fun i hi => ⟨keep_cell hb (h.cell i hi).1, keep_cell hb (h.cell i hi).2.1, keep_cell hb (h.cell i hi).2.2⟩, h.ok, h.le⟩
theorem spot_none {w : World} {x : Addr} {v : Value} (h : w.cell? x = some v) : ∃ b o, x = ⟨b, o, none⟩ := by
  obtain ⟨b, o, sp⟩ := x
  cases sp with
  | none => exact ⟨b, o, rfl⟩
  | some k =>
    unfold World.cell? at h
    simp at h
    split at h <;> simp at h
theorem calls_of_rows {R : TypeId → Value → Prop} {w : World} {a : Option Addr} {len cap : Nat} (h : IsRows R [.u8, .i64, .str] w a len cap)
    (hs : ∀ x, a = some x → ∀ i, i < len → ∀ j, ([Sc.u8, .i64, .str] : List Sc)[j]? = some .str → ∃ s : ByteArray, w.cell? (x.add (i * 3 + j)) = some (.string s) ∧ s.size ≤ 140737488351232) : ∃ b o L, CallsAt w a b o len L := by
  rcases h with ⟨rfl, rfl, rfl⟩ | ⟨x, rfl, hl, hc, hcell⟩
  · exact ⟨0, 0, [], rfl, fun h => absurd h (Nat.lt_irrefl 0), fun i h => absurd h (Nat.not_lt_zero i), fun c h => (by cases h), Nat.zero_le _⟩
  · unfold maxLen at hc
    have hall : ∀ i, i < len → ∃ c : Pc, (w.cell? (x.add (i * 3 + 0)) = some (.int .u8 (c.1 : Nat)) ∧ w.cell? (x.add (i * 3 + 1)) = some (.int .i64 c.2.1) ∧ w.cell? (x.add (i * 3 + 2)) = some (.string c.2.2)) ∧ (c.1 < 256 ∧ (-9223372036854775808 ≤ c.2.1 ∧ c.2.1 ≤ 9223372036854775807) ∧ c.2.2.size ≤ 140737488351232) := by
      intro i hi
      obtain ⟨v0, h0, n0, rfl, hn⟩ := hcell i hi 0 .u8 rfl
      obtain ⟨v1, h1, n1, rfl, hw⟩ := hcell i hi 1 .i64 rfl
      obtain ⟨s, h2, hsz⟩ := hs x rfl i hi 2 rfl
      refine ⟨(n0, n1, s), ⟨h0, h1, h2⟩, hn, ?_, hsz⟩
      have : IntKind.i64.min ≤ n1 ∧ n1 ≤ IntKind.i64.max := by simpa [Lit.wf] using hw
      exact ⟨this.1, this.2⟩
    rcases Nat.eq_zero_or_pos len with rfl | hpos
    · exact ⟨0, 0, [], rfl, fun h => absurd h (Nat.lt_irrefl 0), fun i h => absurd h (Nat.not_lt_zero i), fun c h => (by cases h), Nat.zero_le _⟩
    obtain ⟨L, hL, hp⟩ := list_of len hall
    have h00 := (hp 0 (by omega)).1.1
    have e0 : x.add (0 * 3 + 0) = x := rfl
    rw [e0] at h00
    obtain ⟨b, o, rfl⟩ := spot_none h00
    have hblt : b < w.heap.size := cell_lt h00
    refine ⟨b, o, L, hL, fun _ => ⟨rfl, hblt⟩, fun i hi => ?_, fun c hcL => ?_, by omega⟩
    · have := (hp i hi).1
      simp only [Addr.add_lit, Nat.add_zero] at this
      exact this
    · obtain ⟨i, hi, rfl⟩ := List.getElem_of_mem hcL
      exact (hp i hi).2
/-- How many bytes the texts have. -/
def bulk (L : List Pc) : Nat := (L.map fun c => c.2.2.size).sum
theorem bulk_take (L : List Pc) (k : Nat) (h : k < L.length) : bulk (L.take (k + 1)) = bulk (L.take k) + L[k].2.2.size := by
  unfold bulk
  rw [List.take_succ_eq_append_getElem h, List.map_append, List.sum_append]
  simp
theorem bulk_le (L : List Pc) (k : Nat) : bulk (L.take k) ≤ bulk L := by
  unfold bulk
  conv => rhs; rw [← List.take_append_drop k L, List.map_append, List.sum_append]
  omega
theorem bulk_mem {L : List Pc} {c : Pc} (h : c ∈ L) : c.2.2.size ≤ bulk L := by
  induction L with
  | nil => cases h
  | cons x r ih =>
    unfold bulk at *
    rw [List.map_cons, List.sum_cons]
    rcases List.mem_cons.1 h with rfl | h
    · omega
    · have := ih h; omega

set_option maxHeartbeats 2000000 in
set_option maxRecDepth 100000 in
theorem heavy_no (a : Option Addr) (b o len cap : Nat) (L : List Pc) (w : World) (h : CallsAt w a b o len L) (h1 : bulk L ≤ 8192) (h2 : len ≤ 100) :
    Calls Try.prog 13 #[.slice a len cap] w fun e w' => e = .returned (.bool false) ∧ w = w' := by
  have hn := h.n
  have H := Lib.hid h
  have HN := Lib.hid hn
  clear h hn
  go_enter Try.func13, Try.ntmps13
  go_wp2_with fail
  go_loop [3, 4] (fun s3 s4 => ∃ i : Nat, i ≤ len ∧ s4 = .int .i64 i ∧ s3 = .int .i64 (bulk (L.take i) : Nat)) (fun _ i => len - (intOf i).toNat)
  case atStart => exact ⟨0, Nat.zero_le _, rfl, rfl⟩
  case round =>
    obtain ⟨i, hi, rfl, rfl⟩ := hrel
    by_cases hc : i < len
    · obtain ⟨rfl, hlt⟩ := H.out.at_ (by omega)
      have hiL : i < L.length := by rw [HN.out]; exact hc
      obtain ⟨c0, c1, c2⟩ := H.out.cell i hiL
      have hb := bulk_take L i hiL
      have hb1 := bulk_le L (i + 1)
      have HB : Hid (bulk (L.take (i + 1)) = bulk (L.take i) + L[i].2.2.size) := hb
      have q0 : (0 : Int) ≤ (i : Int) := by omega
      have q1 : (i : Int) < (len : Int) := by omega
      clear c0 c1
      have hsum : bulk (L.take i) + L[i].2.2.size ≤ 8192 := by omega
      clear hb hb1
      generalize bulk (L.take i) = B at *
      generalize L[i].2.2 = S at *
      go_wp2_with fail
      go_round
      case rel => exact ⟨i + 1, by omega, by go_num, by rw [HB.out]; go_num⟩
      case measure => simp [intOf]; omega
    · obtain rfl : i = len := by omega
      have h100 : decide (100 < (i : Int)) = false := by simp; omega
      go_wp2_with fail
      go_ret
      exact ⟨rfl, rfl⟩

set_option maxHeartbeats 2000000 in
set_option maxRecDepth 100000 in
theorem heavy_yes (a : Option Addr) (b o len cap : Nat) (L : List Pc) (w : World) (h : CallsAt w a b o len L) (h1 : ¬ (bulk L ≤ 8192 ∧ len ≤ 100)) :
    Calls Try.prog 13 #[.slice a len cap] w fun e w' => e = .returned (.bool true) ∧ w = w' := by
  have hn := h.n
  have hle := h.le
  have H := Lib.hid h
  have HN := Lib.hid hn
  have H1 := Lib.hid h1
  clear h hn h1
  go_enter Try.func13, Try.ntmps13
  go_wp2_with fail
  go_loop [3, 4] (fun s3 s4 => ∃ i : Nat, i ≤ len ∧ s4 = .int .i64 i ∧ s3 = .int .i64 (bulk (L.take i) : Nat) ∧ bulk (L.take i) ≤ 8192) (fun _ i => len - (intOf i).toNat)
  case atStart => exact ⟨0, Nat.zero_le _, rfl, rfl, Nat.zero_le _⟩
  case round =>
    obtain ⟨i, hi, rfl, rfl, hbi⟩ := hrel
    by_cases hc : i < len
    · obtain ⟨rfl, hlt⟩ := H.out.at_ (by omega)
      have hiL : i < L.length := by rw [HN.out]; exact hc
      obtain ⟨c0, c1, c2⟩ := H.out.cell i hiL
      have hb := bulk_take L i hiL
      have HB : Hid (bulk (L.take (i + 1)) = bulk (L.take i) + L[i].2.2.size) := hb
      have hsz := (H.out.ok _ (List.getElem_mem hiL)).2.2
      have q0 : (0 : Int) ≤ (i : Int) := by omega
      have q1 : (i : Int) < (len : Int) := by omega
      clear c0 c1 hb
      generalize bulk (L.take i) = B at *
      generalize L[i].2.2 = S at *
      by_cases hs : B + S.size ≤ 8192
      · go_wp2_with fail
        go_round
        case rel => exact ⟨i + 1, by omega, by go_num, by rw [HB.out]; go_num, by rw [HB.out]; exact hs⟩
        case measure => simp [intOf]; omega
      · go_wp2_with fail
        go_ret
        exact ⟨rfl, rfl⟩
    · obtain rfl : i = len := by omega
      have h100 : ¬ i ≤ 100 := fun h => H1.out ⟨by rw [List.take_of_length_le (by rw [HN.out]; exact Nat.le_refl _)] at hbi; exact hbi, h⟩
      have h100' : decide (100 < (i : Int)) = true := by simp; omega
      clear h100
      go_wp2_with fail
      go_ret
      exact ⟨rfl, rfl⟩

end Go.Proofs.Ytlpfilpijiglpaa
