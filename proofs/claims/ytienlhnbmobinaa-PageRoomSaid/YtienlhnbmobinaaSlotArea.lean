/- An area in memory, by its plain data: what its functions answer and leave -/
import Derived.Test.YtienlhnbmobinaaRows
import Derived.Test.YtienlhnbmobinaaSlotRoot
import Derived.Test.YtienlhnbmobinaaBase
import Derived.WalkKit
import Derived.WalkLawsBesides
import Derived.WalkSpells
import Derived.LoopTactic
import Derived.WalkMore
import Derived.LoopN
import Derived.Laws.BitsAllLaws
import Derived.Laws.IdiomStrings
import Derived.BigQuiet
import Derived.Deep.QuietTactic
import Derived.Deep.DeepCutAuto
import Derived.Deep.RegionHeld3
import Derived.Deep.DrawnRows
import Derived.Lib.Hide
import Derived.Outline
import Derived.Deep.DeepMust
import Derived.Handy
namespace Go.Proofs.Ytienlhnbmobinaa
open Go.RowKit
set_option linter.unusedVariables false
set_option linter.unusedSimpArgs false

structure Ar.Fit (a : Ar) : Prop where
  lo : 16 ≤ a.B.length
  hi : a.B.length ≤ 4096
  f : a.fin ≤ a.low
  l : a.low ≤ a.B.length
theorem Ar.Good.fit {a : Ar} (h : a.Good) : a.Fit := ⟨h.lo, h.hi, h.f, h.l⟩
theorem Ar.Fit.len {a : Ar} (h : a.Fit) : a.enc.length = a.B.length := a.enc_length (Nat.le_trans h.f h.l)
theorem Ar.Fit.n {a : Ar} (h : a.Fit) : a.L.length ≤ 1023 := by have := h.f; have := h.l; have := h.hi; unfold Ar.fin at *; omega
theorem Ar.Fit.u0 {a : Ar} (h : a.Fit) : u2 a.enc 0 = a.L.length := a.u2_n (by have := h.n; omega)
theorem Ar.Fit.u2 {a : Ar} (h : a.Fit) : u2 a.enc 2 = a.low := a.u2_low (by have := h.l; have := h.hi; omega)

/-- An area in memory. -/
structure ArAt (w : World) (gA gB cap : Nat) (a : Ar) : Prop where
  area : AreaIn w gA gB cap a.enc
  room : a.B.length ≤ cap
theorem ArAt.below {w w' : World} {gA gB cap : Nat} {a : Ar} (h : ArAt w gA gB cap a) (hb : Below w.heap.size w w') : ArAt w' gA gB cap a := ⟨h.area.below hb, h.room⟩

theorem noneA (gA gB cap : Nat) (a : Ar) (w : World) (hf : a.Fit) (h : ArAt w gA gB cap a) :
    Calls Try.prog 157 #[.pointer (some ⟨gA, 0, none⟩)] w fun e w' => e = .returned (.bool false) ∧ Below w.heap.size w w' :=
  slotNone_any gA gB cap a.enc w (by have := hf.len; have := hf.lo; omega) h.area
theorem lenA (gA gB cap : Nat) (a : Ar) (w : World) (hf : a.Fit) (h : ArAt w gA gB cap a) :
    Calls Try.prog 110 #[.pointer (some ⟨gA, 0, none⟩)] w fun e w' => e = .returned (.int .i64 (a.L.length : Nat)) ∧ Below w.heap.size w w' := by
  have := hf.len; have := hf.lo; have := hf.hi
  rw [← hf.u0]
  exact slotLen_any gA gB cap a.enc w (by omega) (by omega) h.area
theorem lowA (gA gB cap : Nat) (a : Ar) (w : World) (hf : a.Fit) (h : ArAt w gA gB cap a) :
    Calls Try.prog 173 #[.pointer (some ⟨gA, 0, none⟩), .int .i64 2] w fun e w' => e = .returned (.int .i64 (a.low : Nat)) ∧ Below w.heap.size w w' := by
  have := hf.len; have := hf.lo; have := hf.hi
  rw [← hf.u2]
  exact slotGet_any gA gB cap 2 a.enc w (by omega) (by omega) h.area
theorem gapA (gA gB cap : Nat) (a : Ar) (w : World) (hf : a.Fit) (h : ArAt w gA gB cap a) :
    Calls Try.prog 159 #[.pointer (some ⟨gA, 0, none⟩)] w fun e w' => e = .returned (.int .i64 a.gap) ∧ Below w.heap.size w w' := by
  have := hf.len; have := hf.lo; have := hf.hi
  have e : a.gap = (u2 a.enc 2 : Int) - 4 - 4 * (u2 a.enc 0 : Int) := by rw [hf.u2, hf.u0]; unfold Ar.gap Ar.fin; omega
  rw [e]
  exact slotGap_any gA gB cap a.enc w (by omega) (by omega) h.area

theorem Ar.sizes_enc (a : Ar) (hs : ∀ p ∈ a.L, p.2 < 65536) : ∀ k, k ≤ a.L.length → sizes a.enc k = ((a.L.take k).map (·.2)).sum
  | 0, _ => by simp [sizes]
  | k + 1, h => by
    rw [List.take_succ_eq_append_getElem (by omega), List.map_append, List.sum_append, ← Ar.sizes_enc a hs k (by omega)]
    show sizes a.enc k + _ = _
    rw [a.u2_size k (by omega) (hs _ (List.getElem_mem _))]
    simp
theorem Ar.Good.inn2 {a : Ar} (h : a.Good) {p : Nat × Nat} (hp : p ∈ a.L) : p.1 < 65536 ∧ p.2 < 65536 := by
  have := h.inn p hp
  have := h.hi
  omega
theorem freeA (gA gB cap : Nat) (a : Ar) (w : World) (hg : a.Good) (h : ArAt w gA gB cap a) :
    Calls Try.prog 158 #[.pointer (some ⟨gA, 0, none⟩)] w fun e w' => e = .returned (.int .i64 a.free) ∧ Below w.heap.size w w' := by
  have hf := hg.fit
  have := hf.len; have := hf.lo; have := hf.hi; have := hf.f; have := hf.l
  have e : a.free = freeL a.enc := by
    unfold freeL Ar.free Ar.sum
    rw [hf.u0, a.sizes_enc (fun p hp => (hg.inn2 hp).2) _ (Nat.le_refl _), List.take_of_length_le (Nat.le_refl _), hf.len]
    unfold Ar.fin
    omega
  rw [e]
  exact slotFree_any gA gB cap a.enc w (by rw [hf.u0]; unfold Ar.fin at *; omega) (by omega) h.area

theorem entryA (gA gB cap k : Nat) (a : Ar) (w : World) (hf : a.Fit) (hk : k < a.L.length) (h1 : a.L[k].1 < 65536) (h2 : a.L[k].2 < 65536) (h : ArAt w gA gB cap a) :
    Calls Try.prog 189 #[.pointer (some ⟨gA, 0, none⟩), .int .i64 k] w fun e w' => e = .returned (.tuple #[.int .i64 (a.L[k].1 : Nat), .int .i64 (a.L[k].2 : Nat)]) ∧ Below w.heap.size w w' := by
  have := hf.len; have := hf.lo; have := hf.hi; have := hf.f; have := hf.l
  rw [← a.u2_from k hk h1, ← a.u2_size k hk h2]
  exact slotEntry_any gA gB cap k a.enc w (by unfold Ar.fin at *; omega) (by omega) h.area

theorem Ar.text_enc (a : Ar) (k : Nat) (hk : k < a.L.length) (h1 : a.L[k].1 < 65536) (h2 : a.L[k].2 < 65536) (hf : a.fin ≤ a.L[k].1) : txt a.enc k = a.text a.L[k] := by
  unfold txt
  rw [a.u2_from k hk h1, a.u2_size k hk h2]
  unfold Ar.text
  congr 1
  have e : a.enc = (be 2 a.L.length ++ (be 2 a.low ++ ents a.L)) ++ a.B.drop a.fin := by simp [Ar.enc]
  have hx : (be 2 a.L.length ++ (be 2 a.low ++ ents a.L)).length = a.fin := by
    simp only [List.length_append, be_length, ents_length]
    unfold Ar.fin
    omega
  rw [e, List.drop_append, hx, List.drop_of_length_le (by omega), List.drop_drop, show a.fin + (a.L[k].1 - a.fin) = a.L[k].1 by omega]
  rfl

theorem textA (gA gB cap k : Nat) (a : Ar) (w : World) (hg : a.Good) (hk : k < a.L.length) (h : ArAt w gA gB cap a) :
    Calls Try.prog 175 #[.pointer (some ⟨gA, 0, none⟩), .int .i64 k] w fun e w' => e = .returned (.string ⟨(a.text a.L[k]).toArray⟩) ∧ Below w.heap.size w w' := by
  have hf := hg.fit
  have := hf.len; have := hf.lo; have := hf.hi; have := hf.f; have := hf.l; have := h.room
  have hb := hg.inn a.L[k] (List.getElem_mem hk)
  have h2 := hg.inn2 (List.getElem_mem hk)
  rw [← a.text_enc k hk h2.1 h2.2 (by omega)]
  exact slotText_any gA gB cap k a.enc w (by unfold Ar.fin at *; omega) (by omega) (by omega) (by rw [a.u2_from k hk h2.1, a.u2_size k hk h2.2]; omega) h.area

theorem bytesA (gA gB cap : Nat) (a : Ar) (w : World) (hf : a.Fit) (h : ArAt w gA gB cap a) :
    Calls Try.prog 99 #[.pointer (some ⟨gA, 0, none⟩)] w fun e w' => e = .returned (.string ⟨a.enc.toArray⟩) ∧ Below w.heap.size w w' := by
  have := hf.len; have := hf.lo; have := hf.hi
  exact slotBytes_any gA gB cap a.enc w (by omega) (by omega) h.area

theorem thereA (gA gB cap : Nat) (k : Int) (a : Ar) (w : World) (hf : a.Fit) (h : ArAt w gA gB cap a) :
    Calls Try.prog 174 #[.pointer (some ⟨gA, 0, none⟩), .int .i64 k] w fun e w' => e = .returned (.int .i64 (if 0 ≤ k ∧ k < (a.L.length : Int) then 0 else 3)) ∧ Below w.heap.size w w' := by
  have := hf.len; have := hf.lo; have := hf.hi
  rw [← hf.u0]
  exact slotThere_any gA gB cap k a.enc w (by omega) (by omega) h.area

theorem getA_yes (gA gB cap k : Nat) (a : Ar) (w : World) (hg : a.Good) (hk : k < a.L.length) (h : ArAt w gA gB cap a) :
    Calls Try.prog 111 #[.pointer (some ⟨gA, 0, none⟩), .int .i64 k] w fun e w' => e = .returned (.tuple #[.string ⟨(a.text a.L[k]).toArray⟩, .int .i64 0]) ∧ Below w.heap.size w w' := by
  have hf := hg.fit
  have := hf.len; have := hf.lo; have := hf.hi; have := hf.f; have := hf.l; have := h.room
  have hb := hg.inn a.L[k] (List.getElem_mem hk)
  have h2 := hg.inn2 (List.getElem_mem hk)
  rw [← a.text_enc k hk h2.1 h2.2 (by omega)]
  exact slotGetText_yes gA gB cap k a.enc w (by rw [hf.u0]; exact hk) (by unfold Ar.fin at *; omega) (by omega) (by omega) (by rw [a.u2_from k hk h2.1, a.u2_size k hk h2.2]; omega) h.area

theorem getA_no (gA gB cap : Nat) (k : Int) (a : Ar) (w : World) (hf : a.Fit) (hk : ¬ (0 ≤ k ∧ k < (a.L.length : Int))) (h : ArAt w gA gB cap a) :
    Calls Try.prog 111 #[.pointer (some ⟨gA, 0, none⟩), .int .i64 k] w fun e w' => e = .returned (.tuple #[.string ⟨#[]⟩, .int .i64 3]) ∧ Below w.heap.size w w' := by
  have := hf.len; have := hf.lo; have := hf.hi
  exact slotGetText_no gA gB cap k a.enc w (by rw [hf.u0]; exact hk) (by omega) (by omega) h.area

theorem lowTwoA (gA gB cap n : Nat) (a : Ar) (w : World) (hf : a.Fit) (hn : n < 256 ^ 2) (h : ArAt w gA gB cap a) :
    Calls Try.prog 156 #[.pointer (some ⟨gA, 0, none⟩), .int .i64 2, .int .i64 n] w fun e w' => e = .returned (.tuple #[]) ∧ ArAt w' gA gB cap { a with low := n } ∧ w.grownBy w' (some gB) := by
  have := hf.len; have := hf.lo; have := hf.hi; have := h.room
  refine (slotTwo_any gA gB cap 2 n a.enc w (by omega) (by omega) (by omega) hn h.area).mono ?_
  rintro e w' ⟨rfl, h1, h2⟩
  rw [a.set_low] at h1
  exact ⟨rfl, ⟨h1, h.room⟩, h2⟩

theorem placeA (gA gB cap k f n : Nat) (a : Ar) (w : World) (ha : a.Fit) (hk : k < a.L.length) (hf : f < 256 ^ 2) (hn : n < 256 ^ 2) (h : ArAt w gA gB cap a) :
    Calls Try.prog 163 #[.pointer (some ⟨gA, 0, none⟩), .int .i64 k, .int .i64 f, .int .i64 n] w fun e w' => e = .returned (.tuple #[]) ∧ ArAt w' gA gB cap { a with L := a.L.set k (f, n) } ∧ w.grownBy w' (some gB) := by
  have := ha.len; have := ha.lo; have := ha.hi; have := h.room; have := ha.f; have := ha.l
  refine (slotPlace_any gA gB cap k f n a.enc w (by unfold Ar.fin at *; omega) (by omega) (by omega) hf hn h.area).mono ?_
  rintro e w' ⟨rfl, h1, h2⟩
  rw [a.set_place k f n hk] at h1
  exact ⟨rfl, ⟨h1, h.room⟩, h2⟩

theorem belowA (gA gB cap : Nat) (a : Ar) (s : ByteArray) (w : World) (ha : a.Fit) (hr : a.fin + s.size ≤ a.low) (h : ArAt w gA gB cap a) :
    Calls Try.prog 161 #[.pointer (some ⟨gA, 0, none⟩), .string s] w fun e w' => e = .returned (.int .i64 ((a.low - s.size : Nat) : Int)) ∧ ArAt w' gA gB cap (a.below s.data.toList) ∧ w.grownBy w' (some gB) := by
  have := ha.len; have := ha.lo; have := ha.hi; have := h.room; have := ha.f; have := ha.l
  have hsl : s.data.toList.length = s.size := by simp
  have hB := slotBelow_any gA gB cap a.enc s w (by omega) (by omega) (by omega) (by rw [ha.u2]; omega) (by rw [ha.u2]; omega) h.area
  rw [ha.u2] at hB
  refine hB.mono ?_
  rintro e w' ⟨rfl, h1, h2⟩
  rw [a.below_enc _ ha.l (by omega) (by omega)] at h1
  refine ⟨rfl, ⟨h1, ?_⟩, h2⟩
  show (putAt a.B _ _).length ≤ cap
  rw [putAt_len (by omega)]
  exact h.room
theorem Ar.Fit.below {a : Ar} (h : a.Fit) (t : List UInt8) (hr : a.fin + t.length ≤ a.low) : (a.below t).Fit := by
  have := h.l
  have hl : (a.below t).B.length = a.B.length := by show (putAt a.B _ _).length = _; rw [putAt_len (by omega)]
  exact ⟨by rw [hl]; exact h.lo, by rw [hl]; exact h.hi, by show a.fin ≤ a.low - t.length; omega, by rw [hl]; show a.low - t.length ≤ _; omega⟩
theorem Ar.Fit.set {a : Ar} (h : a.Fit) (k : Nat) (p : Nat × Nat) : ({ a with L := a.L.set k p } : Ar).Fit :=
  ⟨h.lo, h.hi, by show 4 + 4 * (a.L.set k p).length ≤ a.low; rw [List.length_set]; exact h.f, h.l⟩

end Go.Proofs.Ytienlhnbmobinaa
