/- chapter 23: the transactions in a map. -/
import Derived.Test.YtoeaakadpillnaaRows
import Derived.Test.YtoeaakadpillnaaTxnPlain
import Derived.Test.YtoeaakadpillnaaKept
import Derived.Test.YtoeaakadpillnaaBlocks
import Derived.Test.YtoeaakadpillnaaOwn
import Derived.Maps.OwnSet
import Derived.Maps.RangeWalk
import Derived.WalkKit
import Derived.WalkLawsBesides
import Derived.WalkSpells
import Derived.LoopTactic
import Derived.WalkMore
import Derived.LoopN
import Derived.Laws.BitsAllLaws
import Derived.Laws.IdiomStrings
import Derived.BigQuiet
import Derived.Deep.QuietTactic
import Derived.Deep.DeepCutAuto
import Derived.Deep.RegionHeld3
import Derived.Deep.DrawnRows
import Derived.Lib.Hide
import Derived.Outline
import Derived.Deep.DeepMust
import Derived.Handy
namespace Go.Proofs.Ytoeaakadpillnaa
open Go.RowKit
set_option linter.unusedVariables false
set_option linter.unusedSimpArgs false

open Go.Maps
def heldX : Value → Option (DataW Value × List MemPlace) := fun v => some (.held v, [])
/-- What a map is to the transactions. -/
structure TxD (D : DataW Value) (T : TT) : Prop where
  has : ∀ k : Nat, Maps.has D (.int .u64 (k : Nat)) = (getT T k).isSome
  val : ∀ (k : Nat) (x : TX), getT T k = some x → ∀ z, D.atKey (.int .u64 (k : Nat)) z = .held x.val
  size : Maps.size D = T.length
theorem u64_key (k : Int) : WideAt.IsKeyLit (.int .u64 k) := trivial
theorem u64_ne {k j : Nat} (h : k ≠ j) : (Lit.int .u64 (k : Nat)) ≠ .int .u64 (j : Nat) := fun e => h (by injection e with _ e; omega)
theorem TxD.empty : TxD (.map []) [] := ⟨fun k => rfl, fun k t h => (by cases h), rfl⟩
theorem TxD.put {D : DataW Value} {T T' : TT} (h : TxD D T) (hD : Tidy D) (x : TX) (hg : ∀ k, getT T' k = if k = x.tx then some x else getT T k) (hn : T'.length = T.length + if (getT T x.tx).isSome then 0 else 1) : TxD (D.put (.int .u64 (x.tx : Nat)) (.held x.val)) T' := by
  refine ⟨fun j => ?_, fun j s hs z => ?_, ?_⟩
  · rw [hg]
    by_cases hj : j = x.tx
    · subst hj
      rw [if_pos rfl, has_put_same hD.isMap (u64_key _)]
      rfl
    · rw [if_neg hj, has_put_other (u64_ne hj)]
      exact h.has j
  · rw [hg] at hs
    by_cases hj : j = x.tx
    · subst hj
      rw [if_pos rfl] at hs
      injection hs with hs
      subst hs
      exact atKey_put_same hD.isMap (u64_key _) _ _
    · rw [if_neg hj] at hs
      rw [atKey_put_other (u64_ne hj)]
      exact h.val j s hs z
  · rw [size_put hD, h.has, h.size, hn]
    split <;> rfl
theorem TxD.del {D : DataW Value} {T T' : TT} (h : TxD D T) (hD : Tidy D) (k : Nat) (hk : (getT T k).isSome = true) (hg : ∀ j, getT T' j = if j = k then none else getT T j) (hn : T'.length + 1 = T.length) : TxD (D.del (.int .u64 (k : Nat))) T' := by
  refine ⟨fun j => ?_, fun j s hs z => ?_, ?_⟩
  · rw [hg]
    by_cases hj : j = k
    · subst hj
      rw [if_pos rfl, has_del_same]
      rfl
    · rw [if_neg hj, has_del_other (u64_ne hj)]
      exact h.has j
  · rw [hg] at hs
    by_cases hj : j = k
    · subst hj
      rw [if_pos rfl] at hs
      cases hs
    · rw [if_neg hj] at hs
      rw [atKey_del_other (u64_ne hj)]
      exact h.val j s hs z
  · have h1 := size_del (k := .int .u64 (k : Nat)) hD
    rw [h.has k, hk, h.size] at h1
    simp at h1
    omega

theorem tx_key : Maps.Keyed Try.prog 27 := Go.Maps.int_keyed Try.underlying27
theorem tx_keyOf {k : Nat} (h : k < 18446744073709551616) : keyOf Try.prog 27 (.int .u64 (k : Nat)) = some (.int .u64 (k : Nat)) :=
  Go.Maps.keyOf_int_mk Try.underlying27 (by unfold Lit.wf; simp [IntKind.min, IntKind.max, IntKind.bits, IntKind.signed]; omega)
theorem zero_tx (w : World) : (zeroValue 68).run Try.prog w = .ok (tx0 0).val w := by kernel_rfl
/-- The table in memory. -/
structure TtAt (w : World) (g m c : Nat) (tx number : Nat) (T : TT) : Prop where
  own : w.heap[g]? = some (.cells #[.map (some m), .chan (some c), .int .u64 (tx : Nat), .int .u64 (number : Nat)] 122 (0, 0))
  chan : ∃ s r, w.heap[c]? = some (.chan 1 #[] false s r false)
  ex : ∃ D, w.ownsMap Try.prog 27 heldX m T.length D ∧ TxD D T
  rising : T.Rising
  under : Under T tx
  small : T.length ≤ 32
  txle : tx ≤ 4611686018427387905
  nole : number ≤ 4611686018427387905
section
variable {w w' : World} {g m c tx number : Nat} {T : TT}
theorem TtAt.gm (h : TtAt w g m c tx number T) : g ≠ m := by
  rintro rfl
  obtain ⟨D, ho, _⟩ := h.ex
  obtain ⟨es, c, hb, _⟩ := ho
  rw [h.own] at hb
  cases hb
theorem TtAt.gc (h : TtAt w g m c tx number T) : g ≠ c := by
  rintro rfl
  obtain ⟨s, r, hc⟩ := h.chan
  rw [h.own] at hc
  cases hc
theorem TtAt.mc (h : TtAt w g m c tx number T) : m ≠ c := by
  rintro rfl
  obtain ⟨s, r, hc⟩ := h.chan
  obtain ⟨D, ho, _⟩ := h.ex
  obtain ⟨es, c, hb, _⟩ := ho
  rw [hc] at hb
  cases hb
theorem TtAt.lt (h : TtAt w g m c tx number T) : g < w.heap.size ∧ m < w.heap.size ∧ c < w.heap.size := by
  obtain ⟨D, ho, _⟩ := h.ex
  obtain ⟨s, r, hc⟩ := h.chan
  exact ⟨blk_lt h.own, ho.lt, blk_lt hc⟩
theorem TtAt.c0 (h : TtAt w g m c tx number T) : w.cell? ⟨g, 0, none⟩ = some (.map (some m)) := by rw [blk_cell h.own]; rfl
theorem TtAt.c1 (h : TtAt w g m c tx number T) : w.cell? ⟨g, 1, none⟩ = some (.chan (some c)) := by rw [blk_cell h.own]; rfl
theorem TtAt.c2 (h : TtAt w g m c tx number T) : w.cell? ⟨g, 2, none⟩ = some (.int .u64 (tx : Nat)) := by rw [blk_cell h.own]; rfl
theorem TtAt.c3 (h : TtAt w g m c tx number T) : w.cell? ⟨g, 3, none⟩ = some (.int .u64 (number : Nat)) := by rw [blk_cell h.own]; rfl
theorem TtAt.tx64 (h : TtAt w g m c tx number T) {k : Nat} {x : TX} (hx : getT T k = some x) : k < 18446744073709551616 := by
  have h1 := (T_get_mem h.rising).1 hx
  have h2 := h.under x h1.1
  have h3 := h.txle
  omega
/-- Which blocks are the table's own. -/
def mine (g m c : Nat) : Nat → Prop := fun k => k = g ∨ k = m ∨ k = c
theorem TtAt.kept {p : Nat → Prop} (h : TtAt w g m c tx number T) (hk : OthersKept w w' p) (h1 : ¬ p g) (h2 : ¬ p m) (h3 : ¬ p c) : TtAt w' g m c tx number T := by
  obtain ⟨D, ho, hD⟩ := h.ex
  obtain ⟨s, r, hc⟩ := h.chan
  refine ⟨hk.heap h.own h1, ⟨s, r, hk.heap hc h3⟩, ⟨D, ?_, hD⟩, h.rising, h.under, h.small, h.txle, h.nole⟩
  obtain ⟨es, c, hb, hr⟩ := ho
  exact ⟨es, c, hk.heap hb h2, hr⟩
theorem TtAt.below (h : TtAt w g m c tx number T) (hb : Below w.heap.size w w') : TtAt w' g m c tx number T := h.kept (p := fun _ => False) (OthersKept.of_below hb) id id id
/-- One of the table's own numbers is written. -/
theorem TtAt.set2 (h : TtAt w g m c tx number T) (tx' : Nat) (hu : Under T tx') (hl : tx' ≤ 4611686018427387905) : TtAt (w.setCell ⟨g, 2, none⟩ (.int .u64 (tx' : Nat))) g m c tx' number T := by
  have hk := OthersKept.of_grown (p := fun k => k = g) (g := g) (grown_set (i := 2) (u := .int .u64 (tx' : Nat)) (grown_refl w g)) rfl
  obtain ⟨D, ho, hD⟩ := h.ex
  obtain ⟨s, r, hc⟩ := h.chan
  refine ⟨by simpa using blk_set h.own 2 (.int .u64 (tx' : Nat)), ⟨s, r, hk.heap hc (fun e => h.gc e.symm)⟩, ⟨D, ?_, hD⟩, h.rising, hu, h.small, hl, h.nole⟩
  have hgm := h.gm
  obtain ⟨es, c, hb, hr⟩ := ho
  exact ⟨es, c, hk.heap hb (fun e => hgm e.symm), hr⟩
theorem TtAt.set3 (h : TtAt w g m c tx number T) (n' : Nat) (hl : n' ≤ 4611686018427387905) : TtAt (w.setCell ⟨g, 3, none⟩ (.int .u64 (n' : Nat))) g m c tx n' T := by
  have hk := OthersKept.of_grown (p := fun k => k = g) (g := g) (grown_set (i := 3) (u := .int .u64 (n' : Nat)) (grown_refl w g)) rfl
  obtain ⟨D, ho, hD⟩ := h.ex
  obtain ⟨s, r, hc⟩ := h.chan
  refine ⟨by simpa using blk_set h.own 3 (.int .u64 (n' : Nat)), ⟨s, r, hk.heap hc (fun e => h.gc e.symm)⟩, ⟨D, ?_, hD⟩, h.rising, h.under, h.small, h.txle, hl⟩
  have hgm := h.gm
  obtain ⟨es, c, hb, hr⟩ := ho
  exact ⟨es, c, hk.heap hb (fun e => hgm e.symm), hr⟩
set_option maxRecDepth 100000 in
theorem TtAt.look (h : TtAt w g m c tx number T) {k : Nat} {x : TX} (he : getT T k = some x) :
    (Instr.lookup 119 (.map (some m)) (.int .u64 (k : Nat)) true).run Try.prog w = .ok (.tuple #[x.val, .bool true]) w := by
  have h64 := h.tx64 he
  obtain ⟨D, ho, hD⟩ := h.ex
  obtain ⟨v, ps, hrun, hv⟩ := ho.look_ok tx_key Try.underlying119 (zero_tx w) (zd := .held (tx0 0).val) (zp := []) rfl (tx_keyOf h64)
  rw [hrun, hD.has, he]
  rw [hD.val k x he] at hv
  injection hv with hv
  injection hv with hv _
  injection hv with hv
  rw [hv]
  rfl
set_option maxRecDepth 100000 in
theorem TtAt.lookN (h : TtAt w g m c tx number T) {k : Nat} (h64 : k < 18446744073709551616) (he : getT T k = none) :
    (Instr.lookup 119 (.map (some m)) (.int .u64 (k : Nat)) true).run Try.prog w = .ok (.tuple #[(tx0 0).val, .bool false]) w := by
  obtain ⟨D, ho, hD⟩ := h.ex
  obtain ⟨v, ps, hrun, hv⟩ := ho.look_ok tx_key Try.underlying119 (zero_tx w) (zd := .held (tx0 0).val) (zp := []) rfl (tx_keyOf h64)
  have hh := hD.has k
  rw [he] at hh
  rw [hrun, hh]
  rw [atKey_of_not_has hh] at hv
  injection hv with hv
  injection hv with hv _
  injection hv with hv
  rw [hv]
  rfl
set_option maxRecDepth 100000 in
theorem TtAt.len (h : TtAt w g m c tx number T) (ty : TypeId) : (Builtin.len_ #[119] ty #[.map (some m)]).run Try.prog w = .ok (.int .i64 (T.length : Nat)) w := by
  obtain ⟨D, ho, hD⟩ := h.ex
  rw [ho.len Try.underlying119 ty, hD.size]
/-- The map is written. -/
theorem TtAt.turned (h : TtAt w g m c tx number T) (hg : w.grownBy w' (some m)) {T' : TT} (hex : ∃ D, w'.ownsMap Try.prog 27 heldX m T'.length D ∧ TxD D T') (hr : T'.Rising) (hu : Under T' tx) (hs : T'.length ≤ 32) : TtAt w' g m c tx number T' := by
  obtain ⟨s, r, hc⟩ := h.chan
  have hgm := h.gm
  have hmc := h.mc
  refine ⟨(hg.block g (blk_lt h.own) (fun e => hgm (by injection e))).trans h.own, ⟨s, r, (hg.block c (blk_lt hc) (fun e => hmc (by injection e with e; exact e.symm))).trans hc⟩, hex, hr, hu, hs, h.txle, h.nole⟩
set_option maxRecDepth 100000 in
theorem TtAt.put (h : TtAt w g m c tx number T) (x : TX) (hx : getT T x.tx = none) (hn : T.length < 32) {tx' : Nat} (hu : x.tx < tx') (ht : tx ≤ tx') (htx' : x.tx < 4611686018427387905) :
    ∃ w', (Instr.mapUpdate 119 (.map (some m)) (.int .u64 (x.tx : Nat)) x.val).run Try.prog w = .ok () w' ∧ w.grownBy w' (some m) ∧ ∃ D, w'.ownsMap Try.prog 27 heldX m (insT T x).length D ∧ TxD D (insT T x) := by
  obtain ⟨D, ho, hD⟩ := h.ex
  obtain ⟨w', hrun, ho', hg⟩ := ho.update tx_key Try.underlying119 (by unfold maxLen; omega) (tx_keyOf (k := x.tx) (by omega)) (d := .held x.val) (ps := []) (val := x.val) rfl
  refine ⟨w', hrun, hg, _, ?_, hD.put (ho.tidy tx_key) x (T_get_ins h.rising hx) (by rw [T_length_ins, hx]; rfl)⟩
  rw [T_length_ins]
  exact ho'
theorem tightX {w : World} {m n : Nat} {D : DataW Value} (h : w.ownsMap Try.prog 27 heldX m n D) : w.ownsMap Try.prog 27 heldX m (Maps.size D) D := by
  obtain ⟨es, c, hb, F, hs, rfl⟩ := h
  refine ⟨es, c, hb, F, ?_, rfl⟩
  rw [Maps.size_eq, length_sorted]
  simp
set_option maxRecDepth 100000 in
theorem TtAt.again (h : TtAt w g m c tx number T) (x y : TX) (hx : getT T x.tx = some y) :
    ∃ w', (Instr.mapUpdate 119 (.map (some m)) (.int .u64 (x.tx : Nat)) x.val).run Try.prog w = .ok () w' ∧ TtAt w' g m c tx number (setT T x) ∧ w.grownBy w' (some m) := by
  have h64 := h.tx64 hx
  have hsm := h.small
  obtain ⟨D, ho, hD⟩ := h.ex
  obtain ⟨w', hrun, ho', hg⟩ := ho.update tx_key Try.underlying119 (by unfold maxLen; omega) (tx_keyOf (k := x.tx) h64) (d := .held x.val) (ps := []) (val := x.val) rfl
  have hD2 := hD.put (ho.tidy tx_key) x (T_get_set h.rising hx) (by rw [T_length_set, hx]; rfl)
  refine ⟨w', hrun, h.turned hg ⟨_, ?_, hD2⟩ (T_rising_set h.rising hx) (T_under_set h.rising h.under hx) (by rw [T_length_set]; exact hsm), hg⟩
  have := tightX ho'
  rw [hD2.size] at this
  exact this
set_option maxRecDepth 100000 in
theorem TtAt.drop (h : TtAt w g m c tx number T) {k : Nat} {y : TX} (hk : getT T k = some y) (ty : TypeId) :
    ∃ w', (Builtin.delete_ #[119, 27] ty #[.map (some m), .int .u64 (k : Nat)]).run Try.prog w = .ok (.tuple #[]) w' ∧ TtAt w' g m c tx number (delT T k) ∧ w.grownBy w' (some m) := by
  have h64 := h.tx64 hk
  obtain ⟨D, ho, hD⟩ := h.ex
  obtain ⟨w', hrun, ho', ht⟩ := ho.drop tx_key Try.underlying119 (tx_keyOf (k := k) h64) ty
  have hg := ht.grown
  have hsm := h.small
  have hl := T_length_del h.rising hk
  have hD2 := hD.del (T' := delT T k) (ho.tidy tx_key) k (by rw [hk]; rfl) (T_get_del h.rising hk) hl
  refine ⟨w', hrun, h.turned hg ⟨_, ?_, hD2⟩ (T_rising_del h.rising hk) (T_under_del h.rising h.under hk) (by omega), hg⟩
  have := tightX ho'
  rw [hD2.size] at this
  exact this
end

end Go.Proofs.Ytoeaakadpillnaa
