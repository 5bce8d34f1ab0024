/- bytes of a conversion: a byte is appended -/
import Derived.Test.YtienlhnbmobinaaRows
import Derived.Test.YtienlhnbmobinaaBase
import Derived.Test.YtienlhnbmobinaaPlains
import Derived.WalkKit
import Derived.WalkLawsBesides
import Derived.WalkSpells
import Derived.LoopTactic
import Derived.WalkMore
import Derived.LoopN
import Derived.Laws.BitsAllLaws
import Derived.Laws.IdiomStrings
import Derived.BigQuiet
import Derived.Deep.QuietTactic
import Derived.Deep.DeepCutAuto
import Derived.Deep.RegionHeld3
import Derived.Deep.DrawnRows
import Derived.Lib.Hide
import Derived.Outline
import Derived.Deep.DeepMust
import Derived.Handy
namespace Go.Proofs.Ytienlhnbmobinaa
open Go.RowKit
set_option linter.unusedVariables false
set_option linter.unusedSimpArgs false

/-- Bytes that a conversion or an append left: their block's cells up to the capacity may be written. -/
def BytesAt (W : World) (g cap : Nat) (zs : List UInt8) : Prop := ∃ pad : List UInt8, RowAt W g (zs ++ pad) ∧ (zs ++ pad).length = cap
theorem BytesAt.row {W : World} {g cap : Nat} {zs : List UInt8} (h : BytesAt W g cap zs) : RowAt W g zs := by
  obtain ⟨pad, ⟨cs, t, f0, f1, h1, h2, h3, h4⟩, hc⟩ := h
  simp only [List.length_append] at h2 h3
  refine ⟨cs, t, f0, f1, h1, by omega, by omega, fun i hi => ?_⟩
  rw [h4 i (by rw [List.length_append]; omega), List.getElem_append_left hi]
theorem BytesAt.below {W W' : World} {g cap : Nat} {zs : List UInt8} (h : BytesAt W g cap zs) (hb : Below W.heap.size W W') : BytesAt W' g cap zs := by
  obtain ⟨pad, h1, h2⟩ := h
  exact ⟨pad, h1.below hb, h2⟩
theorem BytesAt.len {W : World} {g cap : Nat} {zs : List UInt8} (h : BytesAt W g cap zs) : zs.length ≤ cap := by
  obtain ⟨pad, h1, h2⟩ := h
  rw [List.length_append] at h2; omega
theorem upon_bytes_cap {P : Program} {o : Oper} {a : Act} {K : Act → World → Prop} {Q : Exit → Act → World → Prop} (w : World) (src dst e : TypeId) (s : ByteArray)
    (hs : P.underlying src = some .string) (hd : P.underlying dst = some (.slice e)) (he : P.underlying e = some (.int .u8))
    (h : ∀ (W : World) (cap : Nat), Below w.heap.size w W → BytesAt W w.heap.size cap s.data.toList → K (a.put o.dst (.slice (some ⟨w.heap.size, 0, none⟩) s.size cap)) W) :
    o.upon P a K Q (((convert src dst (.string s)).run P w).andThen fun v w' => .ok (.value v) w') := by
  rw [run_bytes_of_string w src dst e s hs hd he]
  simp only [Result.andThen]
  rw [Oper.upon_value]
  have hge := grownCap_ge w s.size 0 e
  have hsl : s.data.toList.length = s.size := by simp
  refine h _ _ ((Below.refl _ _).drew.alloc (Nat.le_refl _) _) ⟨List.replicate (grownCap w s.size 0 e - s.size) 0, ⟨bytesRow s (grownCap w s.size 0 e), e, (bytesRow s (grownCap w s.size 0 e)).size, (bytesRow s (grownCap w s.size 0 e)).size + 1, ?_, ?_, .inl ?_, fun i hi => ?_⟩, ?_⟩
  · show (w.heap.push (.cells (bytesRow s (grownCap w s.size 0 e)) e ((bytesRow s (grownCap w s.size 0 e)).size, (bytesRow s (grownCap w s.size 0 e)).size + 1)))[w.heap.size]? = _
    simp
  · simp [bytesRow]
  · simp [bytesRow]
  · rw [List.length_append, hsl, List.length_replicate] at hi
    by_cases hlt : i < s.size
    · rw [bytesRow_at s _ i hlt, List.getElem_append_left (by omega)]
      rfl
    · rw [List.getElem_append_right (by omega), List.getElem_replicate]
      unfold bytesRow
      rw [Array.getElem?_append_right (by simp; omega), Array.getElem?_replicate, if_pos (by simp; omega)]
      rfl
  · rw [List.length_append, hsl, List.length_replicate]; omega
theorem u8_zero_cells (k : Nat) : Builtin.zeroCells #[.int .u8 0] k = (List.replicate k (Value.int .u8 0)).toArray := by
  unfold Builtin.zeroCells
  apply Array.ext
  · simp
  · intro i h1 h2
    simp [Nat.mod_one]
def u8s (zs : List UInt8) : List Value := zs.map fun b => Value.int .u8 (b.toNat : Int)
/-- A byte is appended. -/
theorem run_append_byte {P : Program} (w : World) (t ty e : TypeId) (i : TypeInfo) (ht : P.underlying t = some (.slice e)) (hi : P.info? e = some i) (hz : i.zero = some (.int .u8 0)) (hs : i.size = 1) (hby : i.bytes = 1)
    {g cap : Nat} {zs : List UInt8} (h : BytesAt w g cap zs) (b : UInt8) (g2 c : Nat) (hb : w.cell? ⟨g2, 0, none⟩ = some (.int .u8 (b.toNat : Int))) (hl : zs.length ≤ 1000000) :
    ∃ g' cap' w', (Builtin.append_ #[t, t] ty #[.slice (some ⟨g, 0, none⟩) zs.length cap, .slice (some ⟨g2, 0, none⟩) 1 c]).run P w = .ok (.slice (some ⟨g', 0, none⟩) (zs.length + 1) cap') w' ∧ BytesAt w' g' cap' (zs ++ [b]) ∧ w.grownBy w' (some g) ∧ (g' = g ∨ w.heap.size ≤ g') := by
  have hnews : ∀ j u, [Value.int .u8 (b.toNat : Int)][j]? = some u → w.cell? ((⟨g2, 0, none⟩ : Addr).add j) = some u := by
    intro j u hu
    cases j with
    | zero => simp only [Addr.add_lit, Nat.zero_add] ; rw [hb]; simpa using hu
    | succ j => simp at hu
  obtain ⟨pad, hr, hc⟩ := h
  have hrow := hr
  have holds : ∀ j u, (u8s zs)[j]? = some u → w.cell? ((⟨g, 0, none⟩ : Addr).add j) = some u := by
    intro j u hu
    have hj : j < zs.length := by
      have := (List.getElem?_eq_some_iff.1 hu).1
      simpa [u8s] using this
    simp only [Addr.add_lit, Nat.zero_add]
    rw [hr.cell j (by rw [List.length_append]; omega), List.getElem_append_left hj]
    simp [u8s, hj] at hu
    rw [← hu]
  by_cases hroom : zs.length + 1 ≤ cap
  · obtain ⟨w', h1, h2, h3⟩ := run_storeBytes (P := P) g zs.length [b] 0 (zs ++ pad) w hr (by simp only [List.length_cons, List.length_nil]; omega)
    have hf := run_firstCells_some (P := P) w i.size 1 ⟨g2, 0, none⟩ 1 c [Value.int .u8 (b.toNat : Int)] (by rw [hs]; rfl) hnews
    refine ⟨g, cap, w', ?_, ?_, h3, .inl rfl⟩
    · simp only [List.map_cons, List.map_nil] at h1
      rw [hs] at hf
      simp [Builtin.append_, run_underlying ht, sizeOf, typeInfo, hi, Builtin.lenOf, hroom, hf, Addr.add_lit, hs, h1]
    · refine ⟨pad.drop 1, ?_, ?_⟩
      · simp only [List.length_cons, List.length_nil, Nat.add_zero] at h2
        have e1 : (zs ++ pad).take zs.length = zs := List.take_left
        have e2 : (zs ++ pad).drop (zs.length + (0 + 1)) = pad.drop 1 := by
          rw [← List.drop_drop, List.drop_left]
        rw [e1, e2] at h2
        exact h2
      · rw [List.length_append] at hc
        simp only [List.length_append, List.length_cons, List.length_nil, List.length_drop]
        omega
  · have hgr := run_append_grow (P := P) w t ty e i (.int .u8 0) ht hi hz ⟨g, 0, none⟩ zs.length cap (u8s zs) (by rw [hs]; simp [u8s]) holds ⟨g2, 0, none⟩ 1 c [Value.int .u8 (b.toNat : Int)] (by rw [hs]; rfl) hnews (by omega) (by omega) (growslice_fits (by omega) (by rw [hby]; omega))
    have hge := grownCap_ge w (zs.length + 1) cap e
    refine ⟨w.heap.size, _, _, hgr, ⟨List.replicate (grownCap w (zs.length + 1) cap e - (zs.length + 1)) 0, ⟨_, e, 0, 0, heap_alloc_new w.drew _, ?_, .inr rfl, fun j hj => ?_⟩, ?_⟩, ⟨rfl, rfl, rfl, by simp, fun k hk _ => heap_alloc_old w.drew _ hk⟩, .inr (Nat.le_refl _)⟩
    · rw [show (Value.int IntKind.u8 0).cells = #[.int .u8 0] from rfl, u8_zero_cells]
      simp [u8s]
      omega
    · rw [show (Value.int IntKind.u8 0).cells = #[.int .u8 0] from rfl, u8_zero_cells]
      have : ((u8s zs).toArray ++ [Value.int IntKind.u8 (b.toNat : Int)].toArray ++ (List.replicate (grownCap w (zs.length + 1) cap e - (zs.length + 1)) (Value.int .u8 0)).toArray) = (u8s (zs ++ [b] ++ List.replicate (grownCap w (zs.length + 1) cap e - (zs.length + 1)) 0)).toArray := by
        simp [u8s]
      rw [this]
      simp only [List.getElem?_toArray, u8s, List.getElem?_map]
      rw [List.getElem?_eq_getElem hj]
      rfl
    · simp only [List.length_append, List.length_cons, List.length_nil, List.length_replicate]
      omega
theorem wpList_append_byte {P : Program} {ops : Array Oper} {rest : List Oper} {o : Oper} {a : Act} {w : World} {Q : Exit → Act → World → Prop} (hgd : o.guard = none) (s x : Operand) (t : TypeId)
    (ho : o.op = .call { callee := .builtin .append, args := #[s, x], argTypes := #[t, t] }) (e : TypeId) (i : TypeInfo) (ht : P.underlying t = some (.slice e)) (hi : P.info? e = some i) (hz : i.zero = some (.int .u8 0)) (hs : i.size = 1) (hby : i.bytes = 1)
    {g cap : Nat} {zs : List UInt8} (n : Nat) (hn : n = zs.length) (h : BytesAt w g cap zs) (b : UInt8) (g2 c : Nat) (hb : w.cell? ⟨g2, 0, none⟩ = some (.int .u8 (b.toNat : Int))) (hl : zs.length ≤ 1000000)
    (hsv : a.eval s = .slice (some ⟨g, 0, none⟩) n cap) (hxv : a.eval x = .slice (some ⟨g2, 0, none⟩) 1 c)
    (hk : ∀ g' cap' w', BytesAt w' g' cap' (zs ++ [b]) → w.grownBy w' (some g) → (g' = g ∨ w.heap.size ≤ g') → wpList P ops Q rest (a.put o.dst (.slice (some ⟨g', 0, none⟩) (n + 1) cap')) w') : wpList P ops Q (o :: rest) a w := by
  subst hn
  refine wpList_plain hgd fun _ hK => ?_
  obtain ⟨g', cap', w', hr, h2, h3, h4⟩ := run_append_byte (P := P) w t o.type e i ht hi hz hs hby h b g2 c hb hl
  unfold Oper.wp execOp
  simp only [ho, resolve, invoke, builtin, Sem.run_bind, Sem.run_pure, Result.andThen_ok, List.map_toArray, List.map_cons, List.map_nil, hsv, hxv, hr]
  exact hK _ _ (hk g' cap' w' h2 h3 h4)

end Go.Proofs.Ytienlhnbmobinaa
