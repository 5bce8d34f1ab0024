/- copy of a text into a row of bytes; a new row of zeros -/
import Derived.Test.YtoeaakadpillnaaRows
import Derived.Test.YtoeaakadpillnaaBlocks
import Derived.WalkKit
import Derived.WalkLawsBesides
import Derived.WalkSpells
import Derived.LoopTactic
import Derived.WalkMore
import Derived.LoopN
import Derived.Laws.BitsAllLaws
import Derived.Laws.IdiomStrings
import Derived.BigQuiet
import Derived.Deep.QuietTactic
import Derived.Deep.DeepCutAuto
import Derived.Deep.RegionHeld3
import Derived.Deep.DrawnRows
import Derived.Lib.Hide
import Derived.Outline
import Derived.Deep.DeepMust
import Derived.Handy
namespace Go.Proofs.Ytoeaakadpillnaa
open Go.RowKit
set_option linter.unusedVariables false
set_option linter.unusedSimpArgs false

theorem grown_refl (w : World) (r : Option Nat) : w.grownBy w r := grown_below r (Below.refl _ _)
theorem grown_trans {w w' w'' : World} {g : Nat} (h : w.grownBy w' (some g)) (h' : w'.grownBy w'' (some g)) : w.grownBy w'' (some g) :=
  ⟨h'.os.trans h.os, h'.tape.trans h.tape, h'.output.trans h.output, Nat.le_trans h.size h'.size, fun k hk hne => (h'.block k (Nat.lt_of_lt_of_le hk h.size) hne).trans (h.block k hk hne)⟩

theorem seg_step (l : List UInt8) (k : Nat) (v : UInt8) (rest : List UInt8) (hk : k < l.length) :
    (l.set k v).take (k + 1) ++ rest ++ (l.set k v).drop (k + 1 + rest.length) = l.take k ++ (v :: rest) ++ l.drop (k + (rest.length + 1)) := by
  have e : l.set k v = (l.take k ++ [v]) ++ l.drop (k + 1) := by rw [List.set_eq_take_append_cons_drop, if_pos hk]; simp
  have hl : (l.take k ++ [v]).length = k + 1 := by simp; omega
  have h1 : (l.set k v).take (k + 1) = l.take k ++ [v] := by rw [e, ← hl, List.take_left]
  have h2 : (l.set k v).drop (k + 1 + rest.length) = l.drop (k + (rest.length + 1)) := by
    rw [e, ← List.drop_drop, ← hl, List.drop_left, List.drop_drop]
    congr 1
    omega
  rw [h1, h2]
  simp

theorem run_storeBytes {P : Program} (g o : Nat) : ∀ (vs : List UInt8) (i : Nat) (l : List UInt8) (w : World), RowAt w g l → o + i + vs.length ≤ l.length →
    ∃ w', (storeCells ⟨g, o, none⟩ (vs.map fun b => Value.int .u8 (b.toNat : Int)) i).run P w = .ok () w' ∧ RowAt w' g (l.take (o + i) ++ vs ++ l.drop (o + i + vs.length)) ∧ w.grownBy w' (some g)
  | [], i, l, w, h, _ => ⟨w, rfl, by simpa using h, grown_refl _ _⟩
  | b :: rest, i, l, w, h, hl => by
    have hi : o + i < l.length := by simp at hl; omega
    have hadd : (⟨g, o, none⟩ : Addr).add i = ⟨g, o + i, none⟩ := by unfold Addr.add; split <;> simp_all
    have hst : (store ((⟨g, o, none⟩ : Addr).add i) (.int .u8 (b.toNat : Int))).run P w = .ok () (w.setCell ⟨g, o + i, none⟩ (.int .u8 (b.toNat : Int))) := by
      rw [hadd, run_store P w _ _ _ rfl, h.cell _ hi]
      simp [h.frozen _ hi]
    obtain ⟨w', h1, h2, h3⟩ := run_storeBytes (P := P) g o rest (i + 1) (l.set (o + i) b) _ (h.set (o + i) b hi) (by simp at hl ⊢; omega)
    refine ⟨w', ?_, ?_, grown_trans (grown_set (grown_refl w (some g))) h3⟩
    · simp only [List.map_cons, storeCells, Sem.run_bind, hst, Result.andThen_ok, h1]
    · have e := seg_step l (o + i) b rest hi
      rw [List.length_cons, ← e]
      exact h2

/-- 'copy(b[k:], s)' of a text that fits. -/
theorem run_copy_text {P : Program} {W : World} {g k dLen dCap : Nat} {l : List UInt8} (h : RowAt W g l) (dT sT ty elem : TypeId) (s : ByteArray)
    (hu : P.underlying dT = some (.slice elem)) (hs : (P.info? elem).map (·.size) = some 1) (hle : s.size ≤ dLen) (hfit : k + s.size ≤ l.length) :
    ∃ W', (Builtin.copy_ #[dT, sT] ty #[.slice (some ⟨g, k, none⟩) dLen dCap, .string s]).run P W = .ok (goInt s.size) W' ∧ RowAt W' g (l.take k ++ s.data.toList ++ l.drop (k + s.size)) ∧ W.grownBy W' (some g) := by
  have hlen : s.data.toList.length = s.size := by simp
  obtain ⟨W', h1, h2, h3⟩ := run_storeBytes (P := P) g k s.data.toList 0 l W h (by rw [hlen]; simpa using hfit)
  have hmin : Nat.min s.size dLen = s.size := Nat.min_eq_left hle
  have htk : List.take s.size (List.map (fun b : UInt8 => Value.int IntKind.u8 (b.toNat : Int)) s.data.toList) = List.map (fun b : UInt8 => Value.int IntKind.u8 (b.toNat : Int)) s.data.toList := by
    rw [List.take_of_length_le (by rw [List.length_map, hlen]; exact Nat.le_refl _)]
  refine ⟨W', ?_, by simpa [hlen] using h2, h3⟩
  cases hq : P.info? elem with
  | none => simp [hq] at hs
  | some i =>
    simp [Builtin.copy_, run_underlying hu, Builtin.lenOf, Builtin.firstCells, sizeOf, typeInfo, hq, hmin]
    rw [htk, h1]
    simp [Result.andThen]

theorem upon_copy {P : Program} {o : Oper} {a : Act} {K : Act → World → Prop} {Q : Exit → Act → World → Prop} {W : World} {g k dLen dCap : Nat} {l : List UInt8} (h : RowAt W g l) (dT sT ty elem : TypeId) (s : ByteArray)
    (hu : P.underlying dT = some (.slice elem)) (hs : (P.info? elem).map (·.size) = some 1) (hle : s.size ≤ dLen) (hfit : k + s.size ≤ l.length)
    (hk : ∀ W', RowAt W' g (l.take k ++ s.data.toList ++ l.drop (k + s.size)) → W.grownBy W' (some g) → K (a.put o.dst (goInt s.size)) W') :
    o.upon P a K Q (((Builtin.copy_ #[dT, sT] ty #[.slice (some ⟨g, k, none⟩) dLen dCap, .string s]).run P W).andThen fun v w' => .ok (.value v) w') := by
  obtain ⟨W', h1, h2, h3⟩ := run_copy_text (P := P) (dCap := dCap) h dT sT ty elem s hu hs hle hfit
  rw [h1]
  simp only [Result.andThen]
  rw [Oper.upon_value]
  exact hk W' h2 h3
/-- 'make([]byte, n)': a new row of zeros. -/
theorem upon_make {P : Program} {o : Oper} {a : Act} {K : Act → World → Prop} {Q : Exit → Act → World → Prop} (W : World) (t e : TypeId) (n : Nat) (ht : P.underlying t = some (.slice e)) (hz : (P.info? e).map (·.zero) = some (some (.int .u8 0))) (hs : (P.info? e).map (·.size) = some 1) (hb : (P.info? e).map (·.bytes) = some 1) (hn : n ≤ 1000000)
    (hk : ∀ W', RowAt W' W.heap.size (List.replicate n 0) → Below W.heap.size W W' → K (a.put o.dst (.slice (some ⟨W.heap.size, 0, none⟩) n n)) W') :
    o.upon P a K Q (((Instr.makeSlice t (.int .i64 n) (.int .i64 n)).run P W).andThen fun v w' => .ok (.value v) w') := by
  cases hq : P.info? e with
  | none => rw [hq] at hs; simp at hs
  | some i =>
    rw [hq] at hz hs hb
    simp at hz hs hb
    have hr := run_makeSlice (P := P) W t e i _ ht hq hz .i64 .i64 (n : Int) (n : Int) (by omega) (Int.le_refl _) (by rw [hs]; simp; omega) (by rw [hb]; omega) (by omega)
    rw [hr]
    simp only [Result.andThen]
    rw [Oper.upon_value]
    simp only [Int.toNat_natCast, hs, Nat.mul_one]
    refine hk _ ⟨_, e, 0, 0, heap_alloc_new W _, ?_, .inr rfl, ?_⟩ ((Below.refl _ _).alloc (Nat.le_refl _) _)
    · simp [madeCells, Value.cells]
    · intro j hj
      have : j < n := by simpa using hj
      simp [madeCells, Value.cells, this, Nat.mod_one]

end Go.Proofs.Ytoeaakadpillnaa
